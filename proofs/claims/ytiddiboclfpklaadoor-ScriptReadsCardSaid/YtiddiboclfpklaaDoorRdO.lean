/- Lemmas that the claim's theorem uses. -/
import Derived.Test.YtiddiboclfpklaaDoorRdN
import Derived.Test.YtiddiboclfpklaaDoorRdC
namespace Go.Proofs.YtiddiboclfpklaaDoor.Tz
open Go.RowKit Go.Maps Go.WideShapes Go.ChangeShapes Go.WideMaps Go.Proofs.YtiddiboclfpklaaDoorW.PrintWords Go.Proofs.YtiddiboclfpklaaDoorW.PrintLast Go.Proofs.YtiddiboclfpklaaDoorW.PrintMore Go.Proofs.YtiddiboclfpklaaDoor.PScriptReads Go.Proofs.YtiddiboclfpklaaDoor.Tx
attribute [local go_sem] min2_int min_two
set_option linter.unusedVariables false
set_option maxHeartbeats 4000000 in
set_option maxRecDepth 100000 in
theorem act_keyed12 (x : ByteArray) (r : List ByteArray) (A : Option Addr) (c : Nat) (w : World) (hr : Kd.C Kd.string w A (x :: r).length (x :: r)) (hc : (x :: r).length ≤ c) (hx : ∀ y ∈ x :: r, y.size ≤ 16777216) (hl : r.length ≤ 16777216) (h1 : x ≠ cutW) (h2 : x ≠ mountW) (hk : kindF x = 12) (o : Option S66) (HO : Aside0 ((keyedP 12 r) = o)) :
  Calls Tryd.prog 65 #[.slice A (r.length + 1) c] w (ActPost w o) := by
 obtain ⟨A1, hcut, hC1, hc1⟩ := cut84 A c (x :: r) 1 (by simp) hc
 have HB := Aside0.mk (Below.alloc (Below.refl w.heap.size w) (Nat.le_refl _) (.cells #[.int .i64 0, .int .i64 0, .string ⟨#[]⟩, .int .i64 0, .slice none 0 0, .bool false, .bool false, .int .i64 0, .slice none 0 0] 66))
 obtain ⟨ad, hA, hc0⟩ := Kd.at_string hr 0 (by omega) (by simp)
 subst hA
 have hce : w.cell? ad = some (.string x) := by
  rw [show (0 : Int).toNat = 0 from rfl, Addr.add_zero'] at hc0
  exact hc0
 have hR1 := hC1 w hr
 replace hR1 : Kd.C Kd.string w A1 r.length r := hR1
 replace hcut : ∀ W : World, (Instr.slice 84 (.slice (some ad) (r.length + 1) c) (some (.int .i64 1)) none none).run Tryd.prog W = .ok (.slice A1 r.length (c - 1)) W := hcut
 replace hc1 : r.length ≤ c - 1 := hc1
 have K0 := Aside0.mk (blk_new w (.cells zero66 66))
 have HCE := Aside0.mk hce
 have HR1 := Aside0.mk (And.intro hR1 hc1)
 have HX := Aside0.mk (And.intro (hx x (by simp)) (fun y (hy : y ∈ r) => hx y (List.mem_cons_of_mem _ hy)))
 have hcm := pw_cell_below HB.out hce
 have hq1 : (1 : Int) ≤ ((r.length + 1 : Nat) : Int) := by omega
 have HZ := Aside0.mk (show zero66.all (·.oneCell') = true from one66 _ _ _ _ _ _ _ _ _ rfl rfl)
 clear hC1 hR1 hc1 hx hr hc hc0 hce
 have hw0 : (x.toList == [99, 117, 116]) = false := by rw [← cutW_list, word_eq, decide_eq_false h1]
 have hw1 : (x.toList == [109, 111, 117, 110, 116]) = false := by rw [← mountW_list, word_eq, decide_eq_false h2]
 have HKn : Aside0 (∀ W, Calls Tryd.prog 80 #[] W fun e w' => e = .returned (.map (some W.heap.size)) ∧ w'.ownsMap Tryd.prog 9 (plainElem Tryd.prog 3) W.heap.size 13 (kindsD 13) ∧ Below W.heap.size W w') := ⟨fun W => kinds_calls W⟩
 have HLk : Aside0 (∀ (W : World) (b : Nat), W.ownsMap Tryd.prog 9 (plainElem Tryd.prog 3) b 13 (kindsD 13) → (Instr.lookup 141 (.map (some b)) (.string x) true).run Tryd.prog W = .ok (.tuple #[.int .i64 12, .bool true]) W) := ⟨fun W b h => by have h2 := kinds_look h x HX.out.1; rw [hk] at h2; exact h2⟩
 clear h1 h2 hk
 go_enter Tryd.func65, Tryd.ntmps65
 go_upto_region 5 with (fail)
 go_cut [4, 5] (fun k v wc => k = .int .i64 12 ∧ v = .bool true ∧ Aside0 (wc.heap[w.heap.size]? = some (.cells zero66 66 (0, 0)) ∧ Below w.heap.size w wc))
 case first =>
  go_region_with ((go_at_call 80; refine (HKn.out _).mono ?_; rintro e w2 ⟨rfl, hm, hB⟩; replace hm : w2.ownsMap Tryd.prog 9 (plainElem Tryd.prog 3) (w.heap.size + 1) 13 (kindsD 13) := (by first | exact hm | simpa using hm); have hl0 := HLk.out w2 _ hm; have hl1 := HLk.out w2.drew _ hm; have hl2 := fun n => HLk.out (w2.drewN n) _ hm; have hce2 := pw_cell_below (HB.out.trans ((below_step (by repeat (first | exact Below.refl _ _ | apply pw_below_drewN | apply below_drew1)) hB).mono HB.out.size)) HCE.out; have K2 := Aside0.mk (blk_below K0.out (below_step (by repeat (first | exact Below.refl _ _ | apply pw_below_drewN | apply below_drew1)) hB)); have B2 := Aside0.mk (HB.out.trans ((below_step (by repeat (first | exact Below.refl _ _ | apply pw_below_drewN | apply below_drew1)) hB).mono HB.out.size)); clear hB hm))
  all_goals go_wp2
  all_goals go_meet
  all_goals exact ⟨rfl, rfl, ⟨K2.out, by repeat (first | exact B2.out | apply pw_below_drewN | apply below_drew1)⟩⟩
 case rest =>
 obtain ⟨rfl, rfl, HS⟩ := hcut
 rename World => w3
 have S0 : Aside0 (AS w w3 (w3.alloc (.cells (cells66 12 0 ⟨#[]⟩ 0 (.slice none 0 0) false false 0 (.slice none 0 0)) 66)) (cells66 12 0 ⟨#[]⟩ 0 (.slice none 0 0) false false 0 (.slice none 0 0))) := ⟨AS.new HS.out.1 HS.out.2 _⟩
 clear HKn HLk
 by_cases hlen : r.length < 2
 ·have htl : (r.take r.length).length = r.length := by rw [List.length_take, Nat.min_self]
  have htk := take84 A1 (c - 1) r r.length (Nat.le_refl _) HR1.out.2
  rw [htl] at htk
  obtain ⟨A2, hdp, hC2, _⟩ := cut84 A1 (c - 1) r r.length (Nat.le_refl _) HR1.out.2
  have hd0 : (r.drop r.length).length = 0 := by rw [List.length_drop, Nat.sub_self]
  rw [hd0] at hdp
  have hmn : (if (2 : Int) < (r.length : Int) then (2 : Int) else (r.length : Int)) = (r.length : Int) := if_neg (by omega)
  have hmn0 : ¬ (2 : Int) < (r.length : Int) := by omega
  have HO2 : Aside0 (o = none) := ⟨by rw [← HO.out]; unfold keyedP keyedOk; rw [show decide ((r.take 2).length = 2) = false from decide_eq_false (by rw [List.length_take]; omega), Bool.false_and, Bool.and_false, Bool.and_false]; rfl⟩
  have HV2 : Aside0 (∀ W, Calls Tryd.prog 81 #[.slice A2 0 (c - 1 - r.length)] W fun e w' => (∃ A4 c4, e = .returned (.tuple #[.slice A4 0 c4, .bool true])) ∧ Below W.heap.size W w') := ⟨fun W => (values_calls [] A2 (c - 1 - r.length) W (Kd.C_nil' _ _) (fun y hy => by cases hy) (by simp)).mono (by
   rintro e w' ⟨⟨_, v, rfl, hv⟩ | ⟨h1, _⟩, hB⟩
   ·obtain ⟨A4, c4, rfl⟩ := Kd.R_slice hv
    exact ⟨⟨A4, c4, rfl⟩, hB⟩
   ·cases h1)⟩
  have hb2 : ((r.length : Int) == 2) = false := beq_eq_false_iff_ne.2 (by omega)
  cases hall : r.all isNum with
  | false =>
   have HN2 : Aside0 (∀ W, Below w.heap.size w W → Calls Tryd.prog 78 #[.slice A1 r.length (c - 1)] W fun e w' => e = .returned (.tuple #[.slice none 0 0, .bool false]) ∧ Below W.heap.size W w') := ⟨fun W hb => (numbers_calls r A1 (c - 1) W (Kd.C_below HR1.out.1 hb) HX.out.2 hl).mono (by
    rintro e w' ⟨⟨h1, _⟩ | ⟨_, h2⟩, hB⟩
    ·rw [hall] at h1; cases h1
    ·exact ⟨h2, hB⟩)⟩
   clear hall HO hl hlen htl hC2 hd0
   go_wp2_with (first
    | (go_at_call 78; refine (HN2.out _ S0.out.bel).mono ?_; rintro e w4 ⟨rfl, hB⟩; have S4 := Aside0.mk (S0.out.below hB); clear hB)
    | (go_at_call 81; refine (HV2.out _).mono ?_; rintro e w5 ⟨⟨A4, c4, rfl⟩, hB⟩; have S5 := Aside0.mk (S4.out.below hB); clear hB)
    | ((with_reducible refine gate_ld (t := 66) rfl rfl ?_); intro g1 g2; refine wpList_load_row g1 66 _ g2 w3.heap.size rfl 66 _ (0, 0) _ S5.out.box Tryd.underlying66 rfl size66 ?_)
    | ((with_reducible refine gate_st (t := 66) rfl rfl ?_); intro g1 g2; refine wpList_store_row g1 66 _ _ g2 w.heap.size _ rfl rfl 66 zero66 S5.out.res size66 rfl (one66 _ _ _ _ _ _ _ _ _ rfl rfl) ?_))
   refine bodyPost_ret (results_ct rfl _ _ w.heap.size 66 _ (0, 0) _ rfl (setRow_heap _ w.heap.size zero66 (cells66 12 0 ⟨#[]⟩ 0 (.slice none 0 0) false false 0 (.slice none 0 0)) 66 (0, 0) S5.out.res) Tryd.underlying66 rfl size66) rfl ?_
   exact ⟨⟨opA 12 0 ⟨#[]⟩ 0 [], .slice none 0 0, .slice none 0 0, false, by first | rfl | (simp; done), actR_nil _ _ _ _ _ _ _ _ _, fun h => (by cases h), fun _ => HO2.out⟩, below_setRow S5.out.bel (Nat.le_refl _) _⟩
  | true =>
   have HN2 : Aside0 (∀ W, Below w.heap.size w W → Calls Tryd.prog 78 #[.slice A1 r.length (c - 1)] W fun e w' => (∃ A3 c3, e = .returned (.tuple #[.slice A3 r.length c3, .bool true])) ∧ Below W.heap.size W w') := ⟨fun W hb => (numbers_calls r A1 (c - 1) W (Kd.C_below HR1.out.1 hb) HX.out.2 hl).mono (by
    rintro e w' ⟨⟨_, v, rfl, hv⟩ | ⟨h1, _⟩, hB⟩
    ·obtain ⟨A3, c3, rfl⟩ := Kd.R_slice hv
     rw [List.length_map]
     exact ⟨⟨A3, c3, rfl⟩, hB⟩
    ·rw [hall] at h1; cases h1)⟩
   clear hall HO hl hlen htl hC2 hd0
   go_wp2_with (first
    | (go_at_call 78; refine (HN2.out _ S0.out.bel).mono ?_; rintro e w4 ⟨⟨A3, c3, rfl⟩, hB⟩; have S4 := Aside0.mk (S0.out.below hB); clear hB)
    | (go_at_call 81; refine (HV2.out _).mono ?_; rintro e w5 ⟨⟨A4, c4, rfl⟩, hB⟩; have S5 := Aside0.mk (S4.out.below hB); clear hB)
    | ((with_reducible refine gate_ld (t := 66) rfl rfl ?_); intro g1 g2; refine wpList_load_row g1 66 _ g2 w3.heap.size rfl 66 _ (0, 0) _ S5.out.box Tryd.underlying66 rfl size66 ?_)
    | ((with_reducible refine gate_st (t := 66) rfl rfl ?_); intro g1 g2; refine wpList_store_row g1 66 _ _ g2 w.heap.size _ rfl rfl 66 zero66 S5.out.res size66 rfl (one66 _ _ _ _ _ _ _ _ _ rfl rfl) ?_))
   refine bodyPost_ret (results_ct rfl _ _ w.heap.size 66 _ (0, 0) _ rfl (setRow_heap _ w.heap.size zero66 (cells66 12 0 ⟨#[]⟩ 0 (.slice none 0 0) false false 0 (.slice none 0 0)) 66 (0, 0) S5.out.res) Tryd.underlying66 rfl size66) rfl ?_
   exact ⟨⟨opA 12 0 ⟨#[]⟩ 0 [], .slice none 0 0, .slice none 0 0, false, by first | rfl | (simp; done), actR_nil _ _ _ _ _ _ _ _ _, fun h => (by cases h), fun _ => HO2.out⟩, below_setRow S5.out.bel (Nat.le_refl _) _⟩
 ·obtain ⟨p, q, vs, rfl⟩ : ∃ p q vs, r = p :: q :: vs := by
   match r, hlen with
   | p :: q :: vs, _ => exact ⟨p, q, vs, rfl⟩
   | [], h => exact absurd (by simp) h
   | [_], h => exact absurd (by simp) h
  obtain ⟨N, hN⟩ : ∃ N, (p :: q :: vs).length = N := ⟨_, rfl⟩
  have hNl : N = vs.length + 2 := by rw [← hN]; simp
  have htk := take84 A1 (c - 1) (p :: q :: vs) 2 (by simp) HR1.out.2
  obtain ⟨A2, hdp, hC2, _⟩ := cut84 A1 (c - 1) (p :: q :: vs) 2 (by simp) HR1.out.2
  replace htk : ∀ W : World, (Instr.slice 84 (.slice A1 N (c - 1)) none (some (.int .i64 2)) none).run Tryd.prog W = .ok (.slice A1 2 (c - 1)) W := by rw [← hN]; exact htk
  replace hdp : ∀ W : World, (Instr.slice 84 (.slice A1 N (c - 1)) (some (.int .i64 2)) none none).run Tryd.prog W = .ok (.slice A2 vs.length (c - 1 - 2)) W := by rw [← hN]; exact hdp
  have hmn : (if (2 : Int) < (N : Int) then (2 : Int) else (N : Int)) = 2 := by split <;> omega
  have hN2 : (2 : Int) ≤ (N : Int) := by omega
  have hN3 : 2 ≤ N := by omega
  clear hNl
  have HC2 : Aside0 (∀ W, Below w.heap.size w W → Kd.C Kd.string W A1 2 [p, q] ∧ Kd.C Kd.string W A2 vs.length vs) := ⟨fun W hb => by
   have h := Kd.C_below HR1.out.1 hb
   exact ⟨Kd.C_take (m := 2) h (by simp), hC2 W h⟩⟩
  have hvl : vs.length ≤ 16777216 := by simp at hl; omega
  have HX2 := Aside0.mk (And.intro (fun y (hy : y ∈ [p, q]) => HX.out.2 y (by simp at hy; rcases hy with rfl | rfl <;> simp)) (fun y (hy : y ∈ vs) => HX.out.2 y (by simp [hy])))
  have hko : keyedOk 12 (p :: q :: vs) = ([p, q].all isNum && (vs.all isVal && true)) := by
   unfold keyedOk
   simp
  have hkp : keyedP 12 (p :: q :: vs) = if keyedOk 12 (p :: q :: vs) then some (opA 12 (numOf q) ⟨#[]⟩ (numOf p) (vs.map valOf)) else none := rfl
  rw [hko] at hkp
  replace HO : Aside0 ((if ([p, q].all isNum && (vs.all isVal && true)) = true then some (opA 12 (numOf q) ⟨#[]⟩ (numOf p) (vs.map valOf)) else none) = o) := ⟨by rw [← hkp]; exact HO.out⟩
  rw [hN] at hcut hq1 ⊢
  have HV : Aside0 (∀ W, Below w.heap.size w W → Calls Tryd.prog 81 #[.slice A2 vs.length (c - 1 - 2)] W (ValsPost W vs)) := ⟨fun W hb => values_calls vs A2 (c - 1 - 2) W (HC2.out W hb).2 HX2.out.2 hvl⟩
  have HN : Aside0 (∀ W, Below w.heap.size w W → Calls Tryd.prog 78 #[.slice A1 2 (c - 1)] W (NumsPost W [p, q])) := ⟨fun W hb => numbers_calls [p, q] A1 (c - 1) W (HC2.out W hb).1 HX2.out.1 (by simp)⟩
  clear hl hlen hN hC2 hko hkp HR1 HX
  cases hall : [p, q].all isNum with
  | false =>
   have HO2 : Aside0 (o = none) := ⟨by rw [← HO.out, hall]; rfl⟩
   have HN2 : Aside0 (∀ W, Below w.heap.size w W → Calls Tryd.prog 78 #[.slice A1 2 (c - 1)] W fun e w' => e = .returned (.tuple #[.slice none 0 0, .bool false]) ∧ Below W.heap.size W w') := ⟨fun W hb => (HN.out W hb).mono (by
    rintro e w' ⟨⟨h1, _⟩ | ⟨_, h2⟩, hB⟩
    ·rw [hall] at h1; cases h1
    ·exact ⟨h2, hB⟩)⟩
   have HV2 : Aside0 (∀ W, Below w.heap.size w W → Calls Tryd.prog 81 #[.slice A2 vs.length (c - 1 - 2)] W fun e w' => (∃ A4 m4 c4 b, e = .returned (.tuple #[.slice A4 m4 c4, .bool b])) ∧ Below W.heap.size W w') := ⟨fun W hb => (HV.out W hb).mono (by
    rintro e w' ⟨⟨_, v, rfl, hv⟩ | ⟨_, rfl⟩, hB⟩
    ·obtain ⟨A4, c4, rfl⟩ := Kd.R_slice hv
     exact ⟨⟨A4, _, c4, true, rfl⟩, hB⟩
    ·exact ⟨⟨_, _, _, false, rfl⟩, hB⟩)⟩
   clear hall HO HN HV HC2
   go_wp2_with (first
    | (go_at_call 78; refine (HN2.out _ S0.out.bel).mono ?_; rintro e w4 ⟨rfl, hB⟩; have S4 := Aside0.mk (S0.out.below hB); clear hB)
    | (go_at_call 81; refine (HV2.out _ S4.out.bel).mono ?_; rintro e w5 ⟨⟨A4, m4, c4, b, rfl⟩, hB⟩; have S5 := Aside0.mk (S4.out.below hB); clear hB)
    | ((with_reducible refine gate_ld (t := 66) rfl rfl ?_); intro g1 g2; refine wpList_load_row g1 66 _ g2 w3.heap.size rfl 66 _ (0, 0) _ S5.out.box Tryd.underlying66 rfl size66 ?_)
    | ((with_reducible refine gate_st (t := 66) rfl rfl ?_); intro g1 g2; refine wpList_store_row g1 66 _ _ g2 w.heap.size _ rfl rfl 66 zero66 S5.out.res size66 rfl (one66 _ _ _ _ _ _ _ _ _ rfl rfl) ?_))
   refine bodyPost_ret (results_ct rfl _ _ w.heap.size 66 _ (0, 0) _ rfl (setRow_heap _ w.heap.size zero66 (cells66 12 0 ⟨#[]⟩ 0 (.slice none 0 0) false false 0 (.slice none 0 0)) 66 (0, 0) S5.out.res) Tryd.underlying66 rfl size66) rfl ?_
   exact ⟨⟨opA 12 0 ⟨#[]⟩ 0 [], .slice none 0 0, .slice none 0 0, false, by first | rfl | (simp; done), actR_nil _ _ _ _ _ _ _ _ _, fun h => (by cases h), fun _ => HO2.out⟩, below_setRow S5.out.bel (Nat.le_refl _) _⟩
  | true =>
   rw [hall, Bool.true_and] at HO
   have HN2 : Aside0 (∀ W, Below w.heap.size w W → Calls Tryd.prog 78 #[.slice A1 2 (c - 1)] W fun e w' => (∃ g c3, e = .returned (.tuple #[.slice (some ⟨g, 0, none⟩) 2 c3, .bool true]) ∧ W.heap.size ≤ g ∧ Kd.C (Kd.int .i64) w' (some ⟨g, 0, none⟩) 2 [numOf p, numOf q]) ∧ Below W.heap.size W w') := ⟨fun W hb => (HN.out W hb).mono (by
    rintro e w' ⟨⟨_, v, rfl, hv⟩ | ⟨h1, _⟩, hB⟩
    ·obtain ⟨g, c3, rfl, hg, _⟩ := (Kd.own_of_R hv).form (by simp)
     obtain ⟨A', c', he, _, h3⟩ := Kd.R_reads hv
     injection he with he1 _ _
     subst he1
     exact ⟨⟨g, c3, rfl, hg, h3⟩, hB⟩
    ·rw [hall] at h1; cases h1)⟩
   clear HN hall
   cases hval : vs.all isVal with
   | false =>
    have HO2 : Aside0 (o = none) := ⟨by rw [← HO.out, hval]; rfl⟩
    have HV2 : Aside0 (∀ W, Below w.heap.size w W → Calls Tryd.prog 81 #[.slice A2 vs.length (c - 1 - 2)] W fun e w' => e = .returned (.tuple #[.slice none 0 0, .bool false]) ∧ Below W.heap.size W w') := ⟨fun W hb => (HV.out W hb).mono (by
     rintro e w' ⟨⟨h1, _⟩ | ⟨_, h2⟩, hB⟩
     ·rw [hval] at h1; cases h1
     ·exact ⟨h2, hB⟩)⟩
    clear hval HO HV HC2
    go_wp2_with (first
     | (go_at_call 78; refine (HN2.out _ S0.out.bel).mono ?_; rintro e w4 ⟨⟨g, c3, rfl, hg, hC3⟩, hB⟩; have S4 := Aside0.mk (S0.out.below hB); have hgl : w3.heap.size < g := (by rw [World.size_alloc] at hg; omega); have H3 := Aside0.mk hC3; clear hB hg hC3)
     | (go_at_call 81; refine (HV2.out _ S4.out.bel).mono ?_; rintro e w5 ⟨rfl, hB⟩; have S5 := Aside0.mk (S4.out.below hB); clear hB)
     | ((with_reducible refine gate_ld (t := 66) rfl rfl ?_); intro g1 g2; refine wpList_load_row g1 66 _ g2 w3.heap.size rfl 66 _ (0, 0) _ S5.out.box Tryd.underlying66 rfl size66 ?_)
     | ((with_reducible refine gate_st (t := 66) rfl rfl ?_); intro g1 g2; refine wpList_store_row g1 66 _ _ g2 w.heap.size _ rfl rfl 66 zero66 S5.out.res size66 rfl (one66 _ _ _ _ _ _ _ _ _ rfl rfl) ?_))
    refine bodyPost_ret (results_ct rfl _ _ w.heap.size 66 _ (0, 0) _ rfl (setRow_heap _ w.heap.size zero66 (cells66 12 0 ⟨#[]⟩ 0 (.slice none 0 0) false false 0 (.slice none 0 0)) 66 (0, 0) S5.out.res) Tryd.underlying66 rfl size66) rfl ?_
    exact ⟨⟨opA 12 0 ⟨#[]⟩ 0 [], .slice none 0 0, .slice none 0 0, false, by first | rfl | (simp; done), actR_nil _ _ _ _ _ _ _ _ _, fun h => (by cases h), fun _ => HO2.out⟩, below_setRow S5.out.bel (Nat.le_refl _) _⟩
   | true =>
    rw [hval, Bool.true_and] at HO
    have HV2 : Aside0 (∀ W, Below w.heap.size w W → Calls Tryd.prog 81 #[.slice A2 vs.length (c - 1 - 2)] W fun e w' => (∃ A4 c4, e = .returned (.tuple #[.slice A4 vs.length c4, .bool true]) ∧ Kd.R k107 107 w' w.heap.size (fun _ => True) (.slice A4 vs.length c4) (vs.map valOf)) ∧ Below W.heap.size W w') := ⟨fun W hb => (HV.out W hb).mono (by
     rintro e w' ⟨⟨_, v, rfl, hv⟩ | ⟨h1, _⟩, hB⟩
     ·obtain ⟨A4, c4, rfl⟩ := Kd.R_slice hv
      rw [List.length_map] at hv ⊢
      exact ⟨⟨A4, c4, rfl, Kd.R_lower hv hb.size⟩, hB⟩
     ·rw [hval] at h1; cases h1)⟩
    clear HV hval HC2
    obtain ⟨n0, hn0⟩ : ∃ n0, numOf p = n0 := ⟨_, rfl⟩
    obtain ⟨n1, hn1⟩ : ∃ n1, numOf q = n1 := ⟨_, rfl⟩
    rw [hn0, hn1] at HN2 HO
    clear hn0 hn1
    obtain ⟨L, hL⟩ : ∃ L, vs.length = L := ⟨_, rfl⟩
    obtain ⟨ws, hws⟩ : ∃ ws, vs.map valOf = ws := ⟨_, rfl⟩
    rw [hL, hws] at HV2
    rw [hws] at HO
    rw [hL] at hdp
    have HO2 : Aside0 (o = some (opA 12 n1 ⟨#[]⟩ n0 ws)) := ⟨by rw [← HO.out]; rfl⟩
    clear HO hL hws
    have hu52 := Tryd.underlying52
    go_wp2_with (first
     | (go_at_call 78; refine (HN2.out _ S0.out.bel).mono ?_; rintro e w4 ⟨⟨g, c3, rfl, hg, hC3⟩, hB⟩; have S4 := Aside0.mk (S0.out.below hB); have hgl : w3.heap.size < g := (by rw [World.size_alloc] at hg; omega); have hgn : g ≠ w3.heap.size := (by omega); have hgm : w3.heap.size ≠ g := (by omega); have H3 := Aside0.mk hC3; clear hB hg hC3)
     | (go_at_call 81; refine (HV2.out _ S4.out.bel).mono ?_; rintro e w5 ⟨⟨A4, c4, rfl, hv⟩, hB⟩; have S5 := Aside0.mk (S4.out.below hB); have S6 : Aside0 (AS w w3 (((w5.setCell ⟨w3.heap.size, 3, none⟩ (.int .i64 n0)).setCell ⟨w3.heap.size, 4, none⟩ (.slice A4 L c4)).setCell ⟨w3.heap.size, 1, none⟩ (.int .i64 n1)) (cells66 12 n1 ⟨#[]⟩ n0 (.slice A4 L c4) false false 0 (.slice none 0 0))) := ⟨((S5.out.put 3 (.int .i64 n0)).put 4 (.slice A4 L c4)).put 1 (.int .i64 n1)⟩; have HW := Aside0.mk (Kd.R_set (Kd.R_set (Kd.R_set hv S5.out.box ty107 3 (.int .i64 n0)) (S5.out.put 3 (.int .i64 n0)).box ty107 4 (.slice A4 L c4)) ((S5.out.put 3 (.int .i64 n0)).put 4 (.slice A4 L c4)).box ty107 1 (.int .i64 n1)); have z1 : w5.cell? ⟨w3.heap.size, 1, none⟩ = some (.int .i64 0) := (blk_cell S5.out.box 1).trans rfl; have z3 : w5.cell? ⟨w3.heap.size, 3, none⟩ = some (.int .i64 0) := (blk_cell S5.out.box 3).trans rfl; have z4 : w5.cell? ⟨w3.heap.size, 4, none⟩ = some (.slice none 0 0) := (blk_cell S5.out.box 4).trans rfl; have f1 := blk_frozen S5.out.box 1; have f3 := blk_frozen S5.out.box 3; have f4 := blk_frozen S5.out.box 4; have hC5 := Kd.C_below H3.out hB; clear hB hv; obtain ⟨a5, h5, y0⟩ := Kd.at_int hC5 0 (by omega) (by omega); cases h5; obtain ⟨a5, h5, y1⟩ := Kd.at_int hC5 1 (by omega) (by omega); cases h5; replace y0 : w5.cell? ⟨g, 0, none⟩ = some (.int .i64 n0) := y0; replace y1 : w5.cell? ⟨g, 1, none⟩ = some (.int .i64 n1) := (by first | exact y1 | simpa [Addr.add] using y1); clear hC5)
     | ((with_reducible refine gate_ld (t := 66) rfl rfl ?_); intro g1 g2; refine wpList_load_row g1 66 _ g2 w3.heap.size rfl 66 _ (0, 0) _ S6.out.box Tryd.underlying66 rfl size66 ?_)
     | ((with_reducible refine gate_st (t := 66) rfl rfl ?_); intro g1 g2; refine wpList_store_row g1 66 _ _ g2 w.heap.size (cells66 12 n1 ⟨#[]⟩ n0 (.slice A4 L c4) false false 0 (.slice none 0 0)) rfl rfl 66 zero66 S6.out.res size66 rfl (one66 12 n1 ⟨#[]⟩ n0 (.slice A4 L c4) false false 0 (.slice none 0 0) (one_slice _ _ _) rfl) ?_))
    refine bodyPost_ret (results_ct rfl _ _ w.heap.size 66 _ (0, 0) _ rfl (setRow_heap _ w.heap.size zero66 (cells66 12 n1 ⟨#[]⟩ n0 (.slice A4 L c4) false false 0 (.slice none 0 0)) 66 (0, 0) S6.out.res) Tryd.underlying66 rfl size66) rfl ?_
    exact ⟨⟨opA 12 n1 ⟨#[]⟩ n0 ws, .slice A4 L c4, .slice none 0 0, true, by first | rfl | (simp; done), ⟨R_setRow HW.out S6.out.res ty107 _, Kd.R_nil _ _ _ _ _⟩, fun _ => HO2.out, fun h => (by cases h)⟩, below_setRow S6.out.bel (Nat.le_refl _) _⟩
set_option maxHeartbeats 4000000 in
set_option maxRecDepth 100000 in
theorem act_keyed13 (x : ByteArray) (r : List ByteArray) (A : Option Addr) (c : Nat) (w : World) (hr : Kd.C Kd.string w A (x :: r).length (x :: r)) (hc : (x :: r).length ≤ c) (hx : ∀ y ∈ x :: r, y.size ≤ 16777216) (hl : r.length ≤ 16777216) (h1 : x ≠ cutW) (h2 : x ≠ mountW) (hk : kindF x = 13) (o : Option S66) (HO : Aside0 ((keyedP 13 r) = o)) :
  Calls Tryd.prog 65 #[.slice A (r.length + 1) c] w (ActPost w o) := by
 obtain ⟨A1, hcut, hC1, hc1⟩ := cut84 A c (x :: r) 1 (by simp) hc
 have HB := Aside0.mk (Below.alloc (Below.refl w.heap.size w) (Nat.le_refl _) (.cells #[.int .i64 0, .int .i64 0, .string ⟨#[]⟩, .int .i64 0, .slice none 0 0, .bool false, .bool false, .int .i64 0, .slice none 0 0] 66))
 obtain ⟨ad, hA, hc0⟩ := Kd.at_string hr 0 (by omega) (by simp)
 subst hA
 have hce : w.cell? ad = some (.string x) := by
  rw [show (0 : Int).toNat = 0 from rfl, Addr.add_zero'] at hc0
  exact hc0
 have hR1 := hC1 w hr
 replace hR1 : Kd.C Kd.string w A1 r.length r := hR1
 replace hcut : ∀ W : World, (Instr.slice 84 (.slice (some ad) (r.length + 1) c) (some (.int .i64 1)) none none).run Tryd.prog W = .ok (.slice A1 r.length (c - 1)) W := hcut
 replace hc1 : r.length ≤ c - 1 := hc1
 have K0 := Aside0.mk (blk_new w (.cells zero66 66))
 have HCE := Aside0.mk hce
 have HR1 := Aside0.mk (And.intro hR1 hc1)
 have HX := Aside0.mk (And.intro (hx x (by simp)) (fun y (hy : y ∈ r) => hx y (List.mem_cons_of_mem _ hy)))
 have hcm := pw_cell_below HB.out hce
 have hq1 : (1 : Int) ≤ ((r.length + 1 : Nat) : Int) := by omega
 have HZ := Aside0.mk (show zero66.all (·.oneCell') = true from one66 _ _ _ _ _ _ _ _ _ rfl rfl)
 clear hC1 hR1 hc1 hx hr hc hc0 hce
 have hw0 : (x.toList == [99, 117, 116]) = false := by rw [← cutW_list, word_eq, decide_eq_false h1]
 have hw1 : (x.toList == [109, 111, 117, 110, 116]) = false := by rw [← mountW_list, word_eq, decide_eq_false h2]
 have HKn : Aside0 (∀ W, Calls Tryd.prog 80 #[] W fun e w' => e = .returned (.map (some W.heap.size)) ∧ w'.ownsMap Tryd.prog 9 (plainElem Tryd.prog 3) W.heap.size 13 (kindsD 13) ∧ Below W.heap.size W w') := ⟨fun W => kinds_calls W⟩
 have HLk : Aside0 (∀ (W : World) (b : Nat), W.ownsMap Tryd.prog 9 (plainElem Tryd.prog 3) b 13 (kindsD 13) → (Instr.lookup 141 (.map (some b)) (.string x) true).run Tryd.prog W = .ok (.tuple #[.int .i64 13, .bool true]) W) := ⟨fun W b h => by have h2 := kinds_look h x HX.out.1; rw [hk] at h2; exact h2⟩
 clear h1 h2 hk
 go_enter Tryd.func65, Tryd.ntmps65
 go_upto_region 5 with (fail)
 go_cut [4, 5] (fun k v wc => k = .int .i64 13 ∧ v = .bool true ∧ Aside0 (wc.heap[w.heap.size]? = some (.cells zero66 66 (0, 0)) ∧ Below w.heap.size w wc))
 case first =>
  go_region_with ((go_at_call 80; refine (HKn.out _).mono ?_; rintro e w2 ⟨rfl, hm, hB⟩; replace hm : w2.ownsMap Tryd.prog 9 (plainElem Tryd.prog 3) (w.heap.size + 1) 13 (kindsD 13) := (by first | exact hm | simpa using hm); have hl0 := HLk.out w2 _ hm; have hl1 := HLk.out w2.drew _ hm; have hl2 := fun n => HLk.out (w2.drewN n) _ hm; have hce2 := pw_cell_below (HB.out.trans ((below_step (by repeat (first | exact Below.refl _ _ | apply pw_below_drewN | apply below_drew1)) hB).mono HB.out.size)) HCE.out; have K2 := Aside0.mk (blk_below K0.out (below_step (by repeat (first | exact Below.refl _ _ | apply pw_below_drewN | apply below_drew1)) hB)); have B2 := Aside0.mk (HB.out.trans ((below_step (by repeat (first | exact Below.refl _ _ | apply pw_below_drewN | apply below_drew1)) hB).mono HB.out.size)); clear hB hm))
  all_goals go_wp2
  all_goals go_meet
  all_goals exact ⟨rfl, rfl, ⟨K2.out, by repeat (first | exact B2.out | apply pw_below_drewN | apply below_drew1)⟩⟩
 case rest =>
 obtain ⟨rfl, rfl, HS⟩ := hcut
 rename World => w3
 have S0 : Aside0 (AS w w3 (w3.alloc (.cells (cells66 13 0 ⟨#[]⟩ 0 (.slice none 0 0) false false 0 (.slice none 0 0)) 66)) (cells66 13 0 ⟨#[]⟩ 0 (.slice none 0 0) false false 0 (.slice none 0 0))) := ⟨AS.new HS.out.1 HS.out.2 _⟩
 clear HKn HLk
 by_cases hlen : r.length < 2
 ·have htl : (r.take r.length).length = r.length := by rw [List.length_take, Nat.min_self]
  have htk := take84 A1 (c - 1) r r.length (Nat.le_refl _) HR1.out.2
  rw [htl] at htk
  obtain ⟨A2, hdp, hC2, _⟩ := cut84 A1 (c - 1) r r.length (Nat.le_refl _) HR1.out.2
  have hd0 : (r.drop r.length).length = 0 := by rw [List.length_drop, Nat.sub_self]
  rw [hd0] at hdp
  have hmn : (if (2 : Int) < (r.length : Int) then (2 : Int) else (r.length : Int)) = (r.length : Int) := if_neg (by omega)
  have hmn0 : ¬ (2 : Int) < (r.length : Int) := by omega
  have HO2 : Aside0 (o = none) := ⟨by rw [← HO.out]; unfold keyedP keyedOk; rw [show decide ((r.take 2).length = 2) = false from decide_eq_false (by rw [List.length_take]; omega), Bool.false_and, Bool.and_false, Bool.and_false]; rfl⟩
  have HV2 : Aside0 (∀ W, Calls Tryd.prog 81 #[.slice A2 0 (c - 1 - r.length)] W fun e w' => (∃ A4 c4, e = .returned (.tuple #[.slice A4 0 c4, .bool true])) ∧ Below W.heap.size W w') := ⟨fun W => (values_calls [] A2 (c - 1 - r.length) W (Kd.C_nil' _ _) (fun y hy => by cases hy) (by simp)).mono (by
   rintro e w' ⟨⟨_, v, rfl, hv⟩ | ⟨h1, _⟩, hB⟩
   ·obtain ⟨A4, c4, rfl⟩ := Kd.R_slice hv
    exact ⟨⟨A4, c4, rfl⟩, hB⟩
   ·cases h1)⟩
  have hb2 : ((r.length : Int) == 2) = false := beq_eq_false_iff_ne.2 (by omega)
  cases hall : r.all isNum with
  | false =>
   have HN2 : Aside0 (∀ W, Below w.heap.size w W → Calls Tryd.prog 78 #[.slice A1 r.length (c - 1)] W fun e w' => e = .returned (.tuple #[.slice none 0 0, .bool false]) ∧ Below W.heap.size W w') := ⟨fun W hb => (numbers_calls r A1 (c - 1) W (Kd.C_below HR1.out.1 hb) HX.out.2 hl).mono (by
    rintro e w' ⟨⟨h1, _⟩ | ⟨_, h2⟩, hB⟩
    ·rw [hall] at h1; cases h1
    ·exact ⟨h2, hB⟩)⟩
   clear hall HO hl hlen htl hC2 hd0
   go_wp2_with (first
    | (go_at_call 78; refine (HN2.out _ S0.out.bel).mono ?_; rintro e w4 ⟨rfl, hB⟩; have S4 := Aside0.mk (S0.out.below hB); clear hB)
    | (go_at_call 81; refine (HV2.out _).mono ?_; rintro e w5 ⟨⟨A4, c4, rfl⟩, hB⟩; have S5 := Aside0.mk (S4.out.below hB); clear hB)
    | ((with_reducible refine gate_ld (t := 66) rfl rfl ?_); intro g1 g2; refine wpList_load_row g1 66 _ g2 w3.heap.size rfl 66 _ (0, 0) _ S5.out.box Tryd.underlying66 rfl size66 ?_)
    | ((with_reducible refine gate_st (t := 66) rfl rfl ?_); intro g1 g2; refine wpList_store_row g1 66 _ _ g2 w.heap.size _ rfl rfl 66 zero66 S5.out.res size66 rfl (one66 _ _ _ _ _ _ _ _ _ rfl rfl) ?_))
   refine bodyPost_ret (results_ct rfl _ _ w.heap.size 66 _ (0, 0) _ rfl (setRow_heap _ w.heap.size zero66 (cells66 13 0 ⟨#[]⟩ 0 (.slice none 0 0) false false 0 (.slice none 0 0)) 66 (0, 0) S5.out.res) Tryd.underlying66 rfl size66) rfl ?_
   exact ⟨⟨opA 13 0 ⟨#[]⟩ 0 [], .slice none 0 0, .slice none 0 0, false, by first | rfl | (simp; done), actR_nil _ _ _ _ _ _ _ _ _, fun h => (by cases h), fun _ => HO2.out⟩, below_setRow S5.out.bel (Nat.le_refl _) _⟩
  | true =>
   have HN2 : Aside0 (∀ W, Below w.heap.size w W → Calls Tryd.prog 78 #[.slice A1 r.length (c - 1)] W fun e w' => (∃ A3 c3, e = .returned (.tuple #[.slice A3 r.length c3, .bool true])) ∧ Below W.heap.size W w') := ⟨fun W hb => (numbers_calls r A1 (c - 1) W (Kd.C_below HR1.out.1 hb) HX.out.2 hl).mono (by
    rintro e w' ⟨⟨_, v, rfl, hv⟩ | ⟨h1, _⟩, hB⟩
    ·obtain ⟨A3, c3, rfl⟩ := Kd.R_slice hv
     rw [List.length_map]
     exact ⟨⟨A3, c3, rfl⟩, hB⟩
    ·rw [hall] at h1; cases h1)⟩
   clear hall HO hl hlen htl hC2 hd0
   go_wp2_with (first
    | (go_at_call 78; refine (HN2.out _ S0.out.bel).mono ?_; rintro e w4 ⟨⟨A3, c3, rfl⟩, hB⟩; have S4 := Aside0.mk (S0.out.below hB); clear hB)
    | (go_at_call 81; refine (HV2.out _).mono ?_; rintro e w5 ⟨⟨A4, c4, rfl⟩, hB⟩; have S5 := Aside0.mk (S4.out.below hB); clear hB)
    | ((with_reducible refine gate_ld (t := 66) rfl rfl ?_); intro g1 g2; refine wpList_load_row g1 66 _ g2 w3.heap.size rfl 66 _ (0, 0) _ S5.out.box Tryd.underlying66 rfl size66 ?_)
    | ((with_reducible refine gate_st (t := 66) rfl rfl ?_); intro g1 g2; refine wpList_store_row g1 66 _ _ g2 w.heap.size _ rfl rfl 66 zero66 S5.out.res size66 rfl (one66 _ _ _ _ _ _ _ _ _ rfl rfl) ?_))
   refine bodyPost_ret (results_ct rfl _ _ w.heap.size 66 _ (0, 0) _ rfl (setRow_heap _ w.heap.size zero66 (cells66 13 0 ⟨#[]⟩ 0 (.slice none 0 0) false false 0 (.slice none 0 0)) 66 (0, 0) S5.out.res) Tryd.underlying66 rfl size66) rfl ?_
   exact ⟨⟨opA 13 0 ⟨#[]⟩ 0 [], .slice none 0 0, .slice none 0 0, false, by first | rfl | (simp; done), actR_nil _ _ _ _ _ _ _ _ _, fun h => (by cases h), fun _ => HO2.out⟩, below_setRow S5.out.bel (Nat.le_refl _) _⟩
 ·obtain ⟨p, q, vs, rfl⟩ : ∃ p q vs, r = p :: q :: vs := by
   match r, hlen with
   | p :: q :: vs, _ => exact ⟨p, q, vs, rfl⟩
   | [], h => exact absurd (by simp) h
   | [_], h => exact absurd (by simp) h
  obtain ⟨N, hN⟩ : ∃ N, (p :: q :: vs).length = N := ⟨_, rfl⟩
  have hNl : N = vs.length + 2 := by rw [← hN]; simp
  have htk := take84 A1 (c - 1) (p :: q :: vs) 2 (by simp) HR1.out.2
  obtain ⟨A2, hdp, hC2, _⟩ := cut84 A1 (c - 1) (p :: q :: vs) 2 (by simp) HR1.out.2
  replace htk : ∀ W : World, (Instr.slice 84 (.slice A1 N (c - 1)) none (some (.int .i64 2)) none).run Tryd.prog W = .ok (.slice A1 2 (c - 1)) W := by rw [← hN]; exact htk
  replace hdp : ∀ W : World, (Instr.slice 84 (.slice A1 N (c - 1)) (some (.int .i64 2)) none none).run Tryd.prog W = .ok (.slice A2 vs.length (c - 1 - 2)) W := by rw [← hN]; exact hdp
  have hmn : (if (2 : Int) < (N : Int) then (2 : Int) else (N : Int)) = 2 := by split <;> omega
  have hN2 : (2 : Int) ≤ (N : Int) := by omega
  have hN3 : 2 ≤ N := by omega
  clear hNl
  have HC2 : Aside0 (∀ W, Below w.heap.size w W → Kd.C Kd.string W A1 2 [p, q] ∧ Kd.C Kd.string W A2 vs.length vs) := ⟨fun W hb => by
   have h := Kd.C_below HR1.out.1 hb
   exact ⟨Kd.C_take (m := 2) h (by simp), hC2 W h⟩⟩
  have hvl : vs.length ≤ 16777216 := by simp at hl; omega
  have HX2 := Aside0.mk (And.intro (fun y (hy : y ∈ [p, q]) => HX.out.2 y (by simp at hy; rcases hy with rfl | rfl <;> simp)) (fun y (hy : y ∈ vs) => HX.out.2 y (by simp [hy])))
  have hko : keyedOk 13 (p :: q :: vs) = ([p, q].all isNum && (vs.all isVal && decide (vs.length = 0))) := by
   unfold keyedOk
   simp
  have hkp : keyedP 13 (p :: q :: vs) = if keyedOk 13 (p :: q :: vs) then some (opA 13 (numOf q) ⟨#[]⟩ (numOf p) (vs.map valOf)) else none := rfl
  rw [hko] at hkp
  replace HO : Aside0 ((if ([p, q].all isNum && (vs.all isVal && decide (vs.length = 0))) = true then some (opA 13 (numOf q) ⟨#[]⟩ (numOf p) (vs.map valOf)) else none) = o) := ⟨by rw [← hkp]; exact HO.out⟩
  rw [hN] at hcut hq1 ⊢
  have HV : Aside0 (∀ W, Below w.heap.size w W → Calls Tryd.prog 81 #[.slice A2 vs.length (c - 1 - 2)] W (ValsPost W vs)) := ⟨fun W hb => values_calls vs A2 (c - 1 - 2) W (HC2.out W hb).2 HX2.out.2 hvl⟩
  have HN : Aside0 (∀ W, Below w.heap.size w W → Calls Tryd.prog 78 #[.slice A1 2 (c - 1)] W (NumsPost W [p, q])) := ⟨fun W hb => numbers_calls [p, q] A1 (c - 1) W (HC2.out W hb).1 HX2.out.1 (by simp)⟩
  clear hl hlen hN hC2 hko hkp HR1 HX
  cases hall : [p, q].all isNum with
  | false =>
   have HO2 : Aside0 (o = none) := ⟨by rw [← HO.out, hall]; rfl⟩
   have HN2 : Aside0 (∀ W, Below w.heap.size w W → Calls Tryd.prog 78 #[.slice A1 2 (c - 1)] W fun e w' => e = .returned (.tuple #[.slice none 0 0, .bool false]) ∧ Below W.heap.size W w') := ⟨fun W hb => (HN.out W hb).mono (by
    rintro e w' ⟨⟨h1, _⟩ | ⟨_, h2⟩, hB⟩
    ·rw [hall] at h1; cases h1
    ·exact ⟨h2, hB⟩)⟩
   have HV2 : Aside0 (∀ W, Below w.heap.size w W → Calls Tryd.prog 81 #[.slice A2 vs.length (c - 1 - 2)] W fun e w' => (∃ A4 m4 c4 b, e = .returned (.tuple #[.slice A4 m4 c4, .bool b])) ∧ Below W.heap.size W w') := ⟨fun W hb => (HV.out W hb).mono (by
    rintro e w' ⟨⟨_, v, rfl, hv⟩ | ⟨_, rfl⟩, hB⟩
    ·obtain ⟨A4, c4, rfl⟩ := Kd.R_slice hv
     exact ⟨⟨A4, _, c4, true, rfl⟩, hB⟩
    ·exact ⟨⟨_, _, _, false, rfl⟩, hB⟩)⟩
   clear hall HO HN HV HC2
   go_wp2_with (first
    | (go_at_call 78; refine (HN2.out _ S0.out.bel).mono ?_; rintro e w4 ⟨rfl, hB⟩; have S4 := Aside0.mk (S0.out.below hB); clear hB)
    | (go_at_call 81; refine (HV2.out _ S4.out.bel).mono ?_; rintro e w5 ⟨⟨A4, m4, c4, b, rfl⟩, hB⟩; have S5 := Aside0.mk (S4.out.below hB); clear hB)
    | ((with_reducible refine gate_ld (t := 66) rfl rfl ?_); intro g1 g2; refine wpList_load_row g1 66 _ g2 w3.heap.size rfl 66 _ (0, 0) _ S5.out.box Tryd.underlying66 rfl size66 ?_)
    | ((with_reducible refine gate_st (t := 66) rfl rfl ?_); intro g1 g2; refine wpList_store_row g1 66 _ _ g2 w.heap.size _ rfl rfl 66 zero66 S5.out.res size66 rfl (one66 _ _ _ _ _ _ _ _ _ rfl rfl) ?_))
   refine bodyPost_ret (results_ct rfl _ _ w.heap.size 66 _ (0, 0) _ rfl (setRow_heap _ w.heap.size zero66 (cells66 13 0 ⟨#[]⟩ 0 (.slice none 0 0) false false 0 (.slice none 0 0)) 66 (0, 0) S5.out.res) Tryd.underlying66 rfl size66) rfl ?_
   exact ⟨⟨opA 13 0 ⟨#[]⟩ 0 [], .slice none 0 0, .slice none 0 0, false, by first | rfl | (simp; done), actR_nil _ _ _ _ _ _ _ _ _, fun h => (by cases h), fun _ => HO2.out⟩, below_setRow S5.out.bel (Nat.le_refl _) _⟩
  | true =>
   rw [hall, Bool.true_and] at HO
   have HN2 : Aside0 (∀ W, Below w.heap.size w W → Calls Tryd.prog 78 #[.slice A1 2 (c - 1)] W fun e w' => (∃ g c3, e = .returned (.tuple #[.slice (some ⟨g, 0, none⟩) 2 c3, .bool true]) ∧ W.heap.size ≤ g ∧ Kd.C (Kd.int .i64) w' (some ⟨g, 0, none⟩) 2 [numOf p, numOf q]) ∧ Below W.heap.size W w') := ⟨fun W hb => (HN.out W hb).mono (by
    rintro e w' ⟨⟨_, v, rfl, hv⟩ | ⟨h1, _⟩, hB⟩
    ·obtain ⟨g, c3, rfl, hg, _⟩ := (Kd.own_of_R hv).form (by simp)
     obtain ⟨A', c', he, _, h3⟩ := Kd.R_reads hv
     injection he with he1 _ _
     subst he1
     exact ⟨⟨g, c3, rfl, hg, h3⟩, hB⟩
    ·rw [hall] at h1; cases h1)⟩
   clear HN hall
   cases hval : vs.all isVal with
   | false =>
    have HO2 : Aside0 (o = none) := ⟨by rw [← HO.out, hval]; rfl⟩
    have HV2 : Aside0 (∀ W, Below w.heap.size w W → Calls Tryd.prog 81 #[.slice A2 vs.length (c - 1 - 2)] W fun e w' => e = .returned (.tuple #[.slice none 0 0, .bool false]) ∧ Below W.heap.size W w') := ⟨fun W hb => (HV.out W hb).mono (by
     rintro e w' ⟨⟨h1, _⟩ | ⟨_, h2⟩, hB⟩
     ·rw [hval] at h1; cases h1
     ·exact ⟨h2, hB⟩)⟩
    clear hval HO HV HC2
    go_wp2_with (first
     | (go_at_call 78; refine (HN2.out _ S0.out.bel).mono ?_; rintro e w4 ⟨⟨g, c3, rfl, hg, hC3⟩, hB⟩; have S4 := Aside0.mk (S0.out.below hB); have hgl : w3.heap.size < g := (by rw [World.size_alloc] at hg; omega); have H3 := Aside0.mk hC3; clear hB hg hC3)
     | (go_at_call 81; refine (HV2.out _ S4.out.bel).mono ?_; rintro e w5 ⟨rfl, hB⟩; have S5 := Aside0.mk (S4.out.below hB); clear hB)
     | ((with_reducible refine gate_ld (t := 66) rfl rfl ?_); intro g1 g2; refine wpList_load_row g1 66 _ g2 w3.heap.size rfl 66 _ (0, 0) _ S5.out.box Tryd.underlying66 rfl size66 ?_)
     | ((with_reducible refine gate_st (t := 66) rfl rfl ?_); intro g1 g2; refine wpList_store_row g1 66 _ _ g2 w.heap.size _ rfl rfl 66 zero66 S5.out.res size66 rfl (one66 _ _ _ _ _ _ _ _ _ rfl rfl) ?_))
    refine bodyPost_ret (results_ct rfl _ _ w.heap.size 66 _ (0, 0) _ rfl (setRow_heap _ w.heap.size zero66 (cells66 13 0 ⟨#[]⟩ 0 (.slice none 0 0) false false 0 (.slice none 0 0)) 66 (0, 0) S5.out.res) Tryd.underlying66 rfl size66) rfl ?_
    exact ⟨⟨opA 13 0 ⟨#[]⟩ 0 [], .slice none 0 0, .slice none 0 0, false, by first | rfl | (simp; done), actR_nil _ _ _ _ _ _ _ _ _, fun h => (by cases h), fun _ => HO2.out⟩, below_setRow S5.out.bel (Nat.le_refl _) _⟩
   | true =>
    rw [hval, Bool.true_and] at HO
    have HV2 : Aside0 (∀ W, Below w.heap.size w W → Calls Tryd.prog 81 #[.slice A2 vs.length (c - 1 - 2)] W fun e w' => (∃ A4 c4, e = .returned (.tuple #[.slice A4 vs.length c4, .bool true]) ∧ Kd.R k107 107 w' w.heap.size (fun _ => True) (.slice A4 vs.length c4) (vs.map valOf)) ∧ Below W.heap.size W w') := ⟨fun W hb => (HV.out W hb).mono (by
     rintro e w' ⟨⟨_, v, rfl, hv⟩ | ⟨h1, _⟩, hB⟩
     ·obtain ⟨A4, c4, rfl⟩ := Kd.R_slice hv
      rw [List.length_map] at hv ⊢
      exact ⟨⟨A4, c4, rfl, Kd.R_lower hv hb.size⟩, hB⟩
     ·rw [hval] at h1; cases h1)⟩
    clear HV hval HC2
    obtain ⟨n0, hn0⟩ : ∃ n0, numOf p = n0 := ⟨_, rfl⟩
    obtain ⟨n1, hn1⟩ : ∃ n1, numOf q = n1 := ⟨_, rfl⟩
    rw [hn0, hn1] at HN2 HO
    clear hn0 hn1
    obtain ⟨L, hL⟩ : ∃ L, vs.length = L := ⟨_, rfl⟩
    obtain ⟨ws, hws⟩ : ∃ ws, vs.map valOf = ws := ⟨_, rfl⟩
    rw [hL, hws] at HV2
    rw [hws] at HO
    rw [hL] at hdp
    by_cases hL0 : L = 0
    ·subst hL0
     have HO2 : Aside0 (o = some (opA 13 n1 ⟨#[]⟩ n0 ws)) := ⟨by rw [← HO.out, hL]; rfl⟩
     clear HO hL hws
     have hu52 := Tryd.underlying52
     go_wp2_with (first
      | (go_at_call 78; refine (HN2.out _ S0.out.bel).mono ?_; rintro e w4 ⟨⟨g, c3, rfl, hg, hC3⟩, hB⟩; have S4 := Aside0.mk (S0.out.below hB); have hgl : w3.heap.size < g := (by rw [World.size_alloc] at hg; omega); have hgn : g ≠ w3.heap.size := (by omega); have hgm : w3.heap.size ≠ g := (by omega); have H3 := Aside0.mk hC3; clear hB hg hC3)
      | (go_at_call 81; refine (HV2.out _ S4.out.bel).mono ?_; rintro e w5 ⟨⟨A4, c4, rfl, hv⟩, hB⟩; have S5 := Aside0.mk (S4.out.below hB); have S6 : Aside0 (AS w w3 (((w5.setCell ⟨w3.heap.size, 3, none⟩ (.int .i64 n0)).setCell ⟨w3.heap.size, 4, none⟩ (.slice A4 0 c4)).setCell ⟨w3.heap.size, 1, none⟩ (.int .i64 n1)) (cells66 13 n1 ⟨#[]⟩ n0 (.slice A4 0 c4) false false 0 (.slice none 0 0))) := ⟨((S5.out.put 3 (.int .i64 n0)).put 4 (.slice A4 0 c4)).put 1 (.int .i64 n1)⟩; have HW := Aside0.mk (Kd.R_set (Kd.R_set (Kd.R_set hv S5.out.box ty107 3 (.int .i64 n0)) (S5.out.put 3 (.int .i64 n0)).box ty107 4 (.slice A4 0 c4)) ((S5.out.put 3 (.int .i64 n0)).put 4 (.slice A4 0 c4)).box ty107 1 (.int .i64 n1)); have z1 : w5.cell? ⟨w3.heap.size, 1, none⟩ = some (.int .i64 0) := (blk_cell S5.out.box 1).trans rfl; have z3 : w5.cell? ⟨w3.heap.size, 3, none⟩ = some (.int .i64 0) := (blk_cell S5.out.box 3).trans rfl; have z4 : w5.cell? ⟨w3.heap.size, 4, none⟩ = some (.slice none 0 0) := (blk_cell S5.out.box 4).trans rfl; have f1 := blk_frozen S5.out.box 1; have f3 := blk_frozen S5.out.box 3; have f4 := blk_frozen S5.out.box 4; have hC5 := Kd.C_below H3.out hB; clear hB hv; obtain ⟨a5, h5, y0⟩ := Kd.at_int hC5 0 (by omega) (by omega); cases h5; obtain ⟨a5, h5, y1⟩ := Kd.at_int hC5 1 (by omega) (by omega); cases h5; replace y0 : w5.cell? ⟨g, 0, none⟩ = some (.int .i64 n0) := y0; replace y1 : w5.cell? ⟨g, 1, none⟩ = some (.int .i64 n1) := (by first | exact y1 | simpa [Addr.add] using y1); clear hC5)
      | ((with_reducible refine gate_ld (t := 66) rfl rfl ?_); intro g1 g2; refine wpList_load_row g1 66 _ g2 w3.heap.size rfl 66 _ (0, 0) _ S6.out.box Tryd.underlying66 rfl size66 ?_)
      | ((with_reducible refine gate_st (t := 66) rfl rfl ?_); intro g1 g2; refine wpList_store_row g1 66 _ _ g2 w.heap.size (cells66 13 n1 ⟨#[]⟩ n0 (.slice A4 0 c4) false false 0 (.slice none 0 0)) rfl rfl 66 zero66 S6.out.res size66 rfl (one66 13 n1 ⟨#[]⟩ n0 (.slice A4 0 c4) false false 0 (.slice none 0 0) (one_slice _ _ _) rfl) ?_))
     refine bodyPost_ret (results_ct rfl _ _ w.heap.size 66 _ (0, 0) _ rfl (setRow_heap _ w.heap.size zero66 (cells66 13 n1 ⟨#[]⟩ n0 (.slice A4 0 c4) false false 0 (.slice none 0 0)) 66 (0, 0) S6.out.res) Tryd.underlying66 rfl size66) rfl ?_
     exact ⟨⟨opA 13 n1 ⟨#[]⟩ n0 ws, .slice A4 0 c4, .slice none 0 0, true, by first | rfl | (simp; done), ⟨R_setRow HW.out S6.out.res ty107 _, Kd.R_nil _ _ _ _ _⟩, fun _ => HO2.out, fun h => (by cases h)⟩, below_setRow S6.out.bel (Nat.le_refl _) _⟩
    ·have HO2 : Aside0 (o = none) := ⟨by rw [← HO.out, hL, decide_eq_false hL0]; rfl⟩
     have hbL : ((L : Int) == 0) = false := beq_eq_false_iff_ne.2 (by omega)
     clear HO hL hws
     go_wp2_with (first
      | (go_at_call 78; refine (HN2.out _ S0.out.bel).mono ?_; rintro e w4 ⟨⟨g, c3, rfl, hg, hC3⟩, hB⟩; have S4 := Aside0.mk (S0.out.below hB); have hgl : w3.heap.size < g := (by rw [World.size_alloc] at hg; omega); have H3 := Aside0.mk hC3; clear hB hg hC3)
      | (go_at_call 81; refine (HV2.out _ S4.out.bel).mono ?_; rintro e w5 ⟨⟨A4, c4, rfl, _⟩, hB⟩; have S5 := Aside0.mk (S4.out.below hB); clear hB)
      | ((with_reducible refine gate_ld (t := 66) rfl rfl ?_); intro g1 g2; refine wpList_load_row g1 66 _ g2 w3.heap.size rfl 66 _ (0, 0) _ S5.out.box Tryd.underlying66 rfl size66 ?_)
      | ((with_reducible refine gate_st (t := 66) rfl rfl ?_); intro g1 g2; refine wpList_store_row g1 66 _ _ g2 w.heap.size _ rfl rfl 66 zero66 S5.out.res size66 rfl (one66 _ _ _ _ _ _ _ _ _ rfl rfl) ?_))
     refine bodyPost_ret (results_ct rfl _ _ w.heap.size 66 _ (0, 0) _ rfl (setRow_heap _ w.heap.size zero66 (cells66 13 0 ⟨#[]⟩ 0 (.slice none 0 0) false false 0 (.slice none 0 0)) 66 (0, 0) S5.out.res) Tryd.underlying66 rfl size66) rfl ?_
     exact ⟨⟨opA 13 0 ⟨#[]⟩ 0 [], .slice none 0 0, .slice none 0 0, false, by first | rfl | (simp; done), actR_nil _ _ _ _ _ _ _ _ _, fun h => (by cases h), fun _ => HO2.out⟩, below_setRow S5.out.bel (Nat.le_refl _) _⟩
end Go.Proofs.YtiddiboclfpklaaDoor.Tz
namespace Go.Proofs.YtiddiboclfpklaaDoor.Tz
open Go.RowKit Go.Proofs.YtiddiboclfpklaaDoorW.PrintWords Go.Proofs.YtiddiboclfpklaaDoor.PScriptReads Go.Proofs.YtiddiboclfpklaaDoor.Tx
set_option linter.unusedVariables false
theorem act_calls (x : ByteArray) (r : List ByteArray) (A : Option Addr) (c : Nat) (w : World) (hr : Kd.C Kd.string w A (x :: r).length (x :: r)) (hc : (x :: r).length ≤ c) (hx : ∀ y ∈ x :: r, y.size ≤ 16777216) (hl : r.length ≤ 16777216) :
  Calls Tryd.prog 65 #[.slice A (r.length + 1) c] w (ActPost w (actP x r)) := by
 by_cases h1 : x = cutW
 ·exact act_cut x r A c w hr hc hx hl h1 _ ⟨by rw [actP, if_pos h1]⟩
 by_cases h2 : x = mountW
 ·exact act_mount x r A c w hr hc hx hl h2 _ ⟨by rw [actP, if_neg h1, if_pos h2]⟩
 have he : actP x r = kindP (kindF x) r := by rw [actP, if_neg h1, if_neg h2]
 by_cases h11 : kindF x = 11
 ·exact act_keyed11 x r A c w hr hc hx hl h1 h2 h11 _ ⟨by rw [he, h11]; rfl⟩
 by_cases h12 : kindF x = 12
 ·exact act_keyed12 x r A c w hr hc hx hl h1 h2 h12 _ ⟨by rw [he, h12]; rfl⟩
 by_cases h13 : kindF x = 13
 ·exact act_keyed13 x r A c w hr hc hx hl h1 h2 h13 _ ⟨by rw [he, h13]; rfl⟩
 exact act_other x r A c w hr hc hx hl h1 h2 (by omega) _ ⟨he.symm⟩
end Go.Proofs.YtiddiboclfpklaaDoor.Tz
