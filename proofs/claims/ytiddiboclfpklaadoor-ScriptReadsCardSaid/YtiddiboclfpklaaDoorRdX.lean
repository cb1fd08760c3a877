/- Lemmas that the claim's theorem uses. -/
import Derived.Test.YtiddiboclfpklaaDoorRdT
import Derived.Test.YtiddiboclfpklaaDoorRdG
import Derived.Test.YtiddiboclfpklaaDoorRdF
import Derived.Test.YtiddiboclfpklaaDoorRdV
namespace Go.Proofs.YtiddiboclfpklaaDoor.Tz
open Go.RowKit Go.Proofs.YtiddiboclfpklaaDoorW.PrintWords Go.Proofs.YtiddiboclfpklaaDoor.PScriptReads Go.Proofs.YtiddiboclfpklaaDoor.Tx
set_option linter.unusedVariables false
set_option linter.unusedSimpArgs false
def tailB (k n : Int) (d : ByteArray) (f : Int) (N : Nat) : Bool :=
 (decide (k = 1) || decide (11 ≤ k) || decide (n = 0)) && ((decide (k = 2) || decide (d.size = 0)) && ((decide (11 ≤ k) || decide (f = 0)) && (decide (k = 12) || decide (N = 0))))
def restB (k n : Int) (d : ByteArray) (f : Int) (vs : List S107) (m : Int) (M : Nat) : Bool :=
 !decide (k < 1) && (!decide (13 < k) && (decide (m = 0) && (decide (M = 0) && (!vs.any bothF && tailB k n d f vs.length))))
def plain40 (a : S57) : Bool :=
 if a.f1 then !a.f2 && sameA ⟨a.f0, false, false, 0, []⟩ ⟨⟨0, 0, ⟨#[]⟩, ⟨0, []⟩⟩, false, false, 0, []⟩
 else if a.f2 then sameA (act66 a) ⟨⟨0, 0, ⟨#[]⟩, ⟨0, []⟩⟩, false, true, 0, []⟩
 else restB a.f0.f0 a.f0.f1 a.f0.f2 a.f0.f3.f0 a.f0.f3.f1 a.f3 a.f4.length
theorem size0 : (⟨#[]⟩ : ByteArray).size = 0 := rfl
theorem empty_of {s : ByteArray} (h : s.size = 0) : s = ⟨#[]⟩ := ByteArray.ext (Array.eq_empty_of_size_eq_zero h)
set_option maxHeartbeats 8000000 in
set_option maxRecDepth 100000 in
theorem plain_calls57 (a : S57) (A4 : Option Addr) (c4 : Nat) (A8 : Option Addr) (c8 : Nat) (w : World)
  (h4 : Kd.C k107 w A4 a.f0.f3.f1.length a.f0.f3.f1) (l4 : a.f0.f3.f1.length ≤ c4) (h8 : Kd.C (Kd.int .u32) w A8 a.f4.length a.f4) (l8 : a.f4.length ≤ c8) (h1 : a.f0.f3.f1.length ≤ 16777216) (h2 : a.f4.length ≤ 16777216) :
  Calls Tryd.prog 30 #[actV57 a A4 c4 A8 c8] w fun e w' => e = .returned (.bool (plain40 a)) ∧ Below w.heap.size w w' := by
 have HS : Aside0 (∀ (a b : S57) (A4 : Option Addr) (c4 : Nat) (A8 : Option Addr) (c8 : Nat) (B4 : Option Addr) (d4 : Nat) (B8 : Option Addr) (d8 : Nat) (W : World), Kd.C k107 W A4 a.f0.f3.f1.length a.f0.f3.f1 → a.f0.f3.f1.length ≤ c4 → Kd.C (Kd.int .u32) W A8 a.f4.length a.f4 → a.f4.length ≤ c8 → a.f0.f3.f1.length ≤ 16777216 → a.f4.length ≤ 16777216 → Kd.C k107 W B4 b.f0.f3.f1.length b.f0.f3.f1 → b.f0.f3.f1.length ≤ d4 → Kd.C (Kd.int .u32) W B8 b.f4.length b.f4 → b.f4.length ≤ d8 →
   Calls Tryd.prog 32 #[actV57 a A4 c4 A8 c8, actV57 b B4 d4 B8 d8] W fun e w' => e = .returned (.bool (sameA (act66 a) (act66 b))) ∧ Below W.heap.size W w') := ⟨fun a b A4 c4 A8 c8 B4 d4 B8 d8 W h4 l4 h8 l8 h1 h2 g4 m4 g8 m8 => same_calls57 a b A4 c4 A8 c8 B4 d4 B8 d8 W h4 l4 h8 l8 g4 m4 g8 m8 h1 h2⟩
 have H4 := Aside0.mk (And.intro h4 (And.intro l4 h1))
 have H8 := Aside0.mk (And.intro h8 (And.intro l8 h2))
 clear h4 l4 h8 l8 h1 h2
 obtain ⟨⟨k, n, d, f, vs⟩, cut, mount, m, ms⟩ := a
 cases cut with
 | true =>
  have HB := Aside0.mk (below_alloc (below_alloc (Below.refl w.heap.size w) (.cells #[.int .i64 k, .int .i64 n, .string d, .int .i64 f, .slice A4 vs.length c4, .bool true, .bool mount, .int .i64 m, .slice A8 ms.length c8] 57)) (.cells #[.int .i64 0, .int .i64 0, .string ⟨#[]⟩, .int .i64 0, .slice none 0 0, .bool false, .bool false, .int .i64 0, .slice none 0 0] 57))
  cases mount with
  | true =>
   have HP : Aside0 (plain40 ⟨⟨k, n, d, ⟨f, vs⟩⟩, true, true, m, ms⟩ = false) := ⟨rfl⟩
   show Calls Tryd.prog 30 #[.agg #[.int .i64 k, .int .i64 n, .string d, .int .i64 f, .slice A4 vs.length c4, .bool true, .bool true, .int .i64 m, .slice A8 ms.length c8]] w _
   go_enter Tryd.func30, Tryd.ntmps30
   go_wp2_with fail
   go_ret
   exact ⟨by rw [HP.out]; rfl, HB.out⟩
  | false =>
   have HP : Aside0 (plain40 ⟨⟨k, n, d, ⟨f, vs⟩⟩, true, false, m, ms⟩ = sameA ⟨⟨k, n, d, ⟨f, vs⟩⟩, false, false, 0, []⟩ ⟨⟨0, 0, ⟨#[]⟩, ⟨0, []⟩⟩, false, false, 0, []⟩) := ⟨rfl⟩
   obtain ⟨r, hr⟩ : ∃ r, sameA ⟨⟨k, n, d, ⟨f, vs⟩⟩, false, false, 0, []⟩ ⟨⟨0, 0, ⟨#[]⟩, ⟨0, []⟩⟩, false, false, 0, []⟩ = r := ⟨_, rfl⟩
   have HC : Aside0 (∀ W, Below w.heap.size w W → Calls Tryd.prog 32 #[.agg #[.int .i64 k, .int .i64 n, .string d, .int .i64 f, .slice A4 vs.length c4, .bool false, .bool false, .int .i64 0, .slice none 0 0], .agg #[.int .i64 0, .int .i64 0, .string ⟨#[]⟩, .int .i64 0, .slice none 0 0, .bool false, .bool false, .int .i64 0, .slice none 0 0]] W fun e w' => e = .returned (.bool r) ∧ Below W.heap.size W w') := ⟨fun W hb => by
    have h := HS.out ⟨⟨k, n, d, ⟨f, vs⟩⟩, false, false, 0, []⟩ ⟨⟨0, 0, ⟨#[]⟩, ⟨0, []⟩⟩, false, false, 0, []⟩ A4 c4 none 0 none 0 none 0 W (Kd.C_below H4.out.1 hb) H4.out.2.1 (Kd.C_nil _ _) (Nat.le_refl _) H4.out.2.2 (by simp) (Kd.C_nil _ _) (Nat.le_refl _) (Kd.C_nil _ _) (Nat.le_refl _)
    rw [← hr]
    exact h⟩
   rw [hr] at HP
   clear hr HS
   show Calls Tryd.prog 30 #[.agg #[.int .i64 k, .int .i64 n, .string d, .int .i64 f, .slice A4 vs.length c4, .bool true, .bool false, .int .i64 m, .slice A8 ms.length c8]] w _
   go_enter Tryd.func30, Tryd.ntmps30
   go_wp2_with ((go_at_call 32; refine (HC.out _ HB.out).mono ?_; rintro e w1 ⟨rfl, hB⟩; have S1 := Aside0.mk (HB.out.trans (hB.mono HB.out.size)); clear hB))
   go_ret
   exact ⟨by rw [HP.out]; rfl, S1.out⟩
 | false =>
  cases mount with
  | true =>
   have HB := Aside0.mk (below_alloc (below_alloc (Below.refl w.heap.size w) (.cells #[.int .i64 k, .int .i64 n, .string d, .int .i64 f, .slice A4 vs.length c4, .bool false, .bool true, .int .i64 m, .slice A8 ms.length c8] 57)) (.cells #[.int .i64 0, .int .i64 0, .string ⟨#[]⟩, .int .i64 0, .slice none 0 0, .bool false, .bool false, .int .i64 0, .slice none 0 0] 57))
   have HP : Aside0 (plain40 ⟨⟨k, n, d, ⟨f, vs⟩⟩, false, true, m, ms⟩ = sameA ⟨⟨k, n, d, ⟨f, vs⟩⟩, false, true, m, ms⟩ ⟨⟨0, 0, ⟨#[]⟩, ⟨0, []⟩⟩, false, true, 0, []⟩) := ⟨rfl⟩
   obtain ⟨r, hr⟩ : ∃ r, sameA ⟨⟨k, n, d, ⟨f, vs⟩⟩, false, true, m, ms⟩ ⟨⟨0, 0, ⟨#[]⟩, ⟨0, []⟩⟩, false, true, 0, []⟩ = r := ⟨_, rfl⟩
   have HC : Aside0 (∀ W, Below w.heap.size w W → Calls Tryd.prog 32 #[.agg #[.int .i64 k, .int .i64 n, .string d, .int .i64 f, .slice A4 vs.length c4, .bool false, .bool true, .int .i64 m, .slice A8 ms.length c8], .agg #[.int .i64 0, .int .i64 0, .string ⟨#[]⟩, .int .i64 0, .slice none 0 0, .bool false, .bool true, .int .i64 0, .slice none 0 0]] W fun e w' => e = .returned (.bool r) ∧ Below W.heap.size W w') := ⟨fun W hb => by
    have h := HS.out ⟨⟨k, n, d, ⟨f, vs⟩⟩, false, true, m, ms⟩ ⟨⟨0, 0, ⟨#[]⟩, ⟨0, []⟩⟩, false, true, 0, []⟩ A4 c4 A8 c8 none 0 none 0 W (Kd.C_below H4.out.1 hb) H4.out.2.1 (Kd.C_below H8.out.1 hb) H8.out.2.1 H4.out.2.2 H8.out.2.2 (Kd.C_nil _ _) (Nat.le_refl _) (Kd.C_nil _ _) (Nat.le_refl _)
    rw [← hr]
    exact h⟩
   rw [hr] at HP
   clear hr HS
   show Calls Tryd.prog 30 #[.agg #[.int .i64 k, .int .i64 n, .string d, .int .i64 f, .slice A4 vs.length c4, .bool false, .bool true, .int .i64 m, .slice A8 ms.length c8]] w _
   go_enter Tryd.func30, Tryd.ntmps30
   go_wp2_with ((go_at_call 32; refine (HC.out _ HB.out).mono ?_; rintro e w1 ⟨rfl, hB⟩; have S1 := Aside0.mk (HB.out.trans (hB.mono HB.out.size)); clear hB))
   go_ret
   exact ⟨by rw [HP.out]; rfl, S1.out⟩
  | false =>
   have HB := Aside0.mk (below_alloc (below_alloc (Below.refl w.heap.size w) (.cells #[.int .i64 k, .int .i64 n, .string d, .int .i64 f, .slice A4 vs.length c4, .bool false, .bool false, .int .i64 m, .slice A8 ms.length c8] 57)) (.cells #[.int .i64 0, .int .i64 0, .string ⟨#[]⟩, .int .i64 0, .slice none 0 0, .bool false, .bool false, .int .i64 0, .slice none 0 0] 57))
   replace HB := Aside0.mk (below_alloc HB.out (.cells #[.int .i64 k, .int .i64 n, .string d, .int .i64 f, .slice A4 vs.length c4] 54))
   have HP : Aside0 (plain40 ⟨⟨k, n, d, ⟨f, vs⟩⟩, false, false, m, ms⟩ = restB k n d f vs m ms.length) := ⟨rfl⟩
   obtain ⟨r, hr⟩ : ∃ r, plain40 ⟨⟨k, n, d, ⟨f, vs⟩⟩, false, false, m, ms⟩ = r := ⟨_, rfl⟩
   show Calls Tryd.prog 30 #[.agg #[.int .i64 k, .int .i64 n, .string d, .int .i64 f, .slice A4 vs.length c4, .bool false, .bool false, .int .i64 m, .slice A8 ms.length c8]] w _
   rw [hr] at HP
   rw [hr]
   clear hr HS
   replace H4 := Aside0.mk H4.out.1
   obtain ⟨N, hN⟩ : ∃ N, vs.length = N := ⟨_, rfl⟩
   obtain ⟨M, hM⟩ : ∃ M, ms.length = M := ⟨_, rfl⟩
   rw [hN] at H4 HB ⊢
   rw [hM] at HB HP ⊢
   have HN := Aside0.mk hN
   clear hN hM H8
   have hn63 : N ≤ 9223372036854775807 := Kd.C_max H4.out
   go_enter Tryd.func30, Tryd.ntmps30
   by_cases hk1 : k < 1
   ·have e1 : decide (k < 1) = true := decide_eq_true hk1
    have HL := Aside0.mk (show r = false by rw [HP.out]; simp [restB, hk1])
    clear HP
    go_wp2_with fail
    go_ret
    exact ⟨by rw [HL.out]; rfl, HB.out⟩
   have e1 : decide (k < 1) = false := decide_eq_false hk1
   by_cases hk2 : 13 < k
   ·have e2 : decide (13 < k) = true := decide_eq_true hk2
    have HL := Aside0.mk (show r = false by rw [HP.out]; simp [restB, hk2])
    clear HP
    go_wp2_with fail
    go_ret
    exact ⟨by rw [HL.out]; rfl, HB.out⟩
   have e2 : decide (13 < k) = false := decide_eq_false hk2
   by_cases hm : m = 0
   rotate_left
   ·have e3 : (m == 0) = false := beq_eq_false_iff_ne.2 hm
    have HL := Aside0.mk (show r = false by rw [HP.out]; simp [restB, hm])
    clear HP
    go_wp2_with fail
    go_ret
    exact ⟨by rw [HL.out]; rfl, HB.out⟩
   subst hm
   by_cases hM : M = 0
   rotate_left
   ·have e4 : decide ((0 : Int) < M) = true := decide_eq_true (by omega)
    have e5 : (0 : Int) < M := by omega
    have e6 : 0 < M := by omega
    have HL := Aside0.mk (show r = false by rw [HP.out]; simp [restB, hM])
    clear HP
    go_wp2_with fail
    go_ret
    exact ⟨by rw [HL.out]; rfl, HB.out⟩
   subst hM
   replace HP : Aside0 (r = (!vs.any bothF && tailB k n d f N)) := ⟨by rw [HP.out, restB, HN.out]; simp [hk1, hk2]⟩
   go_wp2_with fail
   go_loopw [5] (fun i wr => ∃ t : Nat, t ≤ N ∧ i = .int .i64 (t : Int) ∧ wr = ((w.alloc (.cells #[.int .i64 k, .int .i64 n, .string d, .int .i64 f, .slice A4 N c4, .bool false, .bool false, .int .i64 0, .slice A8 0 c8] 57)).alloc (.cells #[.int .i64 0, .int .i64 0, .string ⟨#[]⟩, .int .i64 0, .slice none 0 0, .bool false, .bool false, .int .i64 0, .slice none 0 0] 57)).alloc (.cells #[.int .i64 k, .int .i64 n, .string d, .int .i64 f, .slice A4 N c4] 54) ∧ Aside0 ((vs.take t).any bothF = false)) (fun i _ => N - (intOf i).toNat)
   case atStart => exact ⟨0, by omega, rfl, rfl, ⟨by simp⟩⟩
   case round =>
    obtain ⟨t, ht, rfl, rfl, S⟩ := hrel
    by_cases hlt : t < N
    ·have hb5 : (0 : Int) ≤ (t : Int) := by omega
     have hb6 : (t : Int) < (N : Int) := by omega
     obtain ⟨ad, rfl, hc0, hc1⟩ := at_T107 (Kd.C_below H4.out HB.out) (t : Int) hb5 hb6
     rw [Int.toNat_natCast] at hc0 hc1
     obtain ⟨x, hx⟩ : ∃ x, rd_T107 vs (t : Int) = x := ⟨_, rfl⟩
     rw [hx] at hc0 hc1
     have hl : t < vs.length := by rw [HN.out]; exact hlt
     have hxe : vs[t] = x := by rw [← hx]; simp [rd_T107, List.getD_eq_getElem?_getD, hl]
     have hnx : ((vs.take (t + 1)).any bothF) = bothF x := by
      rw [List.take_succ_eq_append_getElem hl, List.any_append, S.out, Bool.false_or, hxe]
      simp
     have hany : bothF x = true → (vs.any bothF) = true := by
      intro h0
      rw [List.any_eq_true]
      exact ⟨vs[t], List.getElem_mem hl, by rw [hxe, h0]⟩
     have HX2 := Aside0.mk hnx
     have HX3 := Aside0.mk hany
     clear hnx hany hxe hx hl
     obtain ⟨x0, x1⟩ := x
     replace hc0 : (((w.alloc (.cells #[.int .i64 k, .int .i64 n, .string d, .int .i64 f, .slice (some ad) N c4, .bool false, .bool false, .int .i64 0, .slice A8 0 c8] 57)).alloc (.cells #[.int .i64 0, .int .i64 0, .string ⟨#[]⟩, .int .i64 0, .slice none 0 0, .bool false, .bool false, .int .i64 0, .slice none 0 0] 57)).alloc (.cells #[.int .i64 k, .int .i64 n, .string d, .int .i64 f, .slice (some ad) N c4] 54)).cell? (ad.add (t * 2)) = some (.int .i64 x0) := hc0
     replace hc1 : (((w.alloc (.cells #[.int .i64 k, .int .i64 n, .string d, .int .i64 f, .slice (some ad) N c4, .bool false, .bool false, .int .i64 0, .slice A8 0 c8] 57)).alloc (.cells #[.int .i64 0, .int .i64 0, .string ⟨#[]⟩, .int .i64 0, .slice none 0 0, .bool false, .bool false, .int .i64 0, .slice none 0 0] 57)).alloc (.cells #[.int .i64 k, .int .i64 n, .string d, .int .i64 f, .slice (some ad) N c4] 54)).cell? ⟨(ad.add (t * 2)).block, (ad.add (t * 2)).off + 1, none⟩ = some (.string x1) := hc1
     by_cases hx0 : x0 = 0
     ·subst hx0
      clear HX3
      go_wp2_with fail
      refine ⟨⟨t + 1, by omega, by go_num, trivial, ⟨by rw [HX2.out]; rfl⟩⟩, ?_⟩
      simp only [intOf]; omega
     ·have e7 : (x0 == 0) = false := beq_eq_false_iff_ne.2 hx0
      by_cases hx1 : x1.size = 0
      ·obtain rfl := empty_of hx1
       clear HX3
       go_wp2_with fail
       refine ⟨⟨t + 1, by omega, by go_num, trivial, ⟨by rw [HX2.out]; simp [bothF, size0]⟩⟩, ?_⟩
       simp only [intOf]; omega
      ·have hne := nonempty_false hx1
       have HL := Aside0.mk (show r = false by rw [HP.out, HX3.out (by simp [bothF, hx0, hx1])]; rfl)
       clear HX3 HP HX2
       go_wp2_with fail
       go_ret
       exact ⟨by rw [HL.out]; rfl, HB.out⟩
    ·obtain rfl : t = N := by omega
     have hall : (vs.any bothF) = false := by
      have h := S.out
      rw [List.take_of_length_le (by rw [HN.out]; exact Nat.le_refl _)] at h
      exact h
     replace HP : Aside0 (r = tailB k n d f t) := ⟨by rw [HP.out, hall]; rfl⟩
     clear hall S
     by_cases c1 : k = 1
     ·subst c1
      clear hk1 hk2 e1 e2
      by_cases hd : d.size = 0
      rotate_left
      ·have f2 := nonempty_false hd
       have HL := Aside0.mk (show r = false by rw [HP.out]; simp [tailB, size0, hd])
       clear HP
       go_wp2_with fail
       go_ret
       exact ⟨by rw [HL.out]; rfl, HB.out⟩
      obtain rfl := empty_of hd
      by_cases hf : f = 0
      rotate_left
      ·have f3 : (f == 0) = false := beq_eq_false_iff_ne.2 hf
       have HL := Aside0.mk (show r = false by rw [HP.out]; simp [tailB, size0, hf])
       clear HP
       go_wp2_with fail
       go_ret
       exact ⟨by rw [HL.out]; rfl, HB.out⟩
      subst hf
      by_cases ht0 : t = 0
      rotate_left
      ·have f4 : ((t : Int) == 0) = false := beq_eq_false_iff_ne.2 (by omega)
       have HL := Aside0.mk (show r = false by rw [HP.out]; simp [tailB, size0, ht0])
       clear HP
       go_wp2_with fail
       go_ret
       exact ⟨by rw [HL.out]; rfl, HB.out⟩
      subst ht0
      have HL := Aside0.mk (show r = true by rw [HP.out]; simp [tailB, size0])
      clear HP
      go_wp2_with fail
      go_ret
      exact ⟨by rw [HL.out]; rfl, HB.out⟩
     by_cases c2 : k = 2
     ·subst c2
      clear hk1 hk2 e1 e2
      by_cases hn : n = 0
      rotate_left
      ·have f1 : (n == 0) = false := beq_eq_false_iff_ne.2 hn
       have HL := Aside0.mk (show r = false by rw [HP.out]; simp [tailB, size0, hn])
       clear HP
       go_wp2_with fail
       go_ret
       exact ⟨by rw [HL.out]; rfl, HB.out⟩
      subst hn
      by_cases hf : f = 0
      rotate_left
      ·have f3 : (f == 0) = false := beq_eq_false_iff_ne.2 hf
       have HL := Aside0.mk (show r = false by rw [HP.out]; simp [tailB, size0, hf])
       clear HP
       go_wp2_with fail
       go_ret
       exact ⟨by rw [HL.out]; rfl, HB.out⟩
      subst hf
      by_cases ht0 : t = 0
      rotate_left
      ·have f4 : ((t : Int) == 0) = false := beq_eq_false_iff_ne.2 (by omega)
       have HL := Aside0.mk (show r = false by rw [HP.out]; simp [tailB, size0, ht0])
       clear HP
       go_wp2_with fail
       go_ret
       exact ⟨by rw [HL.out]; rfl, HB.out⟩
      subst ht0
      have HL := Aside0.mk (show r = true by rw [HP.out]; simp [tailB, size0])
      clear HP
      go_wp2_with fail
      go_ret
      exact ⟨by rw [HL.out]; rfl, HB.out⟩
     by_cases c12 : k = 12
     ·subst c12
      clear hk1 hk2 e1 e2
      by_cases hd : d.size = 0
      rotate_left
      ·have f2 := nonempty_false hd
       have HL := Aside0.mk (show r = false by rw [HP.out]; simp [tailB, size0, hd])
       clear HP
       go_wp2_with fail
       go_ret
       exact ⟨by rw [HL.out]; rfl, HB.out⟩
      obtain rfl := empty_of hd
      have HL := Aside0.mk (show r = true by rw [HP.out]; simp [tailB, size0])
      clear HP
      go_wp2_with fail
      go_ret
      exact ⟨by rw [HL.out]; rfl, HB.out⟩
     by_cases c11 : k = 11
     ·subst c11
      clear hk1 hk2 e1 e2
      by_cases hd : d.size = 0
      rotate_left
      ·have f2 := nonempty_false hd
       have HL := Aside0.mk (show r = false by rw [HP.out]; simp [tailB, size0, hd])
       clear HP
       go_wp2_with fail
       go_ret
       exact ⟨by rw [HL.out]; rfl, HB.out⟩
      obtain rfl := empty_of hd
      by_cases ht0 : t = 0
      rotate_left
      ·have f4 : ((t : Int) == 0) = false := beq_eq_false_iff_ne.2 (by omega)
       have HL := Aside0.mk (show r = false by rw [HP.out]; simp [tailB, size0, ht0])
       clear HP
       go_wp2_with fail
       go_ret
       exact ⟨by rw [HL.out]; rfl, HB.out⟩
      subst ht0
      have HL := Aside0.mk (show r = true by rw [HP.out]; simp [tailB, size0])
      clear HP
      go_wp2_with fail
      go_ret
      exact ⟨by rw [HL.out]; rfl, HB.out⟩
     by_cases c13 : k = 13
     ·subst c13
      clear hk1 hk2 e1 e2
      by_cases hd : d.size = 0
      rotate_left
      ·have f2 := nonempty_false hd
       have HL := Aside0.mk (show r = false by rw [HP.out]; simp [tailB, size0, hd])
       clear HP
       go_wp2_with fail
       go_ret
       exact ⟨by rw [HL.out]; rfl, HB.out⟩
      obtain rfl := empty_of hd
      by_cases ht0 : t = 0
      rotate_left
      ·have f4 : ((t : Int) == 0) = false := beq_eq_false_iff_ne.2 (by omega)
       have HL := Aside0.mk (show r = false by rw [HP.out]; simp [tailB, size0, ht0])
       clear HP
       go_wp2_with fail
       go_ret
       exact ⟨by rw [HL.out]; rfl, HB.out⟩
      subst ht0
      have HL := Aside0.mk (show r = true by rw [HP.out]; simp [tailB, size0])
      clear HP
      go_wp2_with fail
      go_ret
      exact ⟨by rw [HL.out]; rfl, HB.out⟩
     have g1 : (k == 1) = false := beq_eq_false_iff_ne.2 c1
     have g2 : (k == 2) = false := beq_eq_false_iff_ne.2 c2
     have g3 : (k == 12) = false := beq_eq_false_iff_ne.2 c12
     have c0 : ¬ 11 ≤ k := by omega
     have g4 : decide (11 ≤ k) = false := decide_eq_false c0
     by_cases hn : n = 0
     rotate_left
     ·have f1 : (n == 0) = false := beq_eq_false_iff_ne.2 hn
      have HL := Aside0.mk (show r = false by rw [HP.out]; simp [tailB, size0, hn, c1, c2, c12, c0])
      clear HP
      go_wp2_with fail
      go_ret
      exact ⟨by rw [HL.out]; rfl, HB.out⟩
     subst hn
     by_cases hd : d.size = 0
     rotate_left
     ·have f2 := nonempty_false hd
      have HL := Aside0.mk (show r = false by rw [HP.out]; simp [tailB, size0, hd, c1, c2, c12, c0])
      clear HP
      go_wp2_with fail
      go_ret
      exact ⟨by rw [HL.out]; rfl, HB.out⟩
     obtain rfl := empty_of hd
     by_cases hf : f = 0
     rotate_left
     ·have f3 : (f == 0) = false := beq_eq_false_iff_ne.2 hf
      have HL := Aside0.mk (show r = false by rw [HP.out]; simp [tailB, size0, hf, c1, c2, c12, c0])
      clear HP
      go_wp2_with fail
      go_ret
      exact ⟨by rw [HL.out]; rfl, HB.out⟩
     subst hf
     by_cases ht0 : t = 0
     rotate_left
     ·have f4 : ((t : Int) == 0) = false := beq_eq_false_iff_ne.2 (by omega)
      have HL := Aside0.mk (show r = false by rw [HP.out]; simp [tailB, size0, ht0, c1, c2, c12, c0])
      clear HP
      go_wp2_with fail
      go_ret
      exact ⟨by rw [HL.out]; rfl, HB.out⟩
     subst ht0
     have HL := Aside0.mk (show r = true by rw [HP.out]; simp [tailB, size0, c1, c2, c12, c0])
     clear HP
     go_wp2_with fail
     go_ret
     exact ⟨by rw [HL.out]; rfl, HB.out⟩
end Go.Proofs.YtiddiboclfpklaaDoor.Tz
namespace Go.Proofs.YtiddiboclfpklaaDoor.Tz
open Go.RowKit Go.Proofs.YtiddiboclfpklaaDoorW.PrintWords Go.Proofs.YtiddiboclfpklaaDoor.PScriptReads Go.Proofs.YtiddiboclfpklaaDoor.Tx
set_option linter.unusedVariables false
set_option linter.unusedSimpArgs false
theorem eqI_refl : ∀ l : List Int, eqI l l = true
 | [] => rfl
 | x :: l => by rw [eqI, eqI_refl l]; simp
theorem eqV_refl : ∀ l : List S107, eqV l l = true
 | [] => rfl
 | x :: l => by rw [eqV, eqV_refl l]; simp
theorem eqI_nil (l : List Int) : eqI l [] = decide (l.length = 0) := by cases l <;> simp [eqI]
theorem eqV_nil (l : List S107) : eqV l [] = decide (l.length = 0) := by cases l <;> simp [eqV]
theorem toL_e (d : ByteArray) : (d.toList = []) ↔ d = ByteArray.empty := by
 constructor
 ·intro h
  refine ByteArray.ext (Array.eq_empty_of_size_eq_zero ?_)
  rw [Lib.toList_data] at h
  have := congrArg List.length h
  simpa using this
 ·intro h
  subst h
  rw [Lib.toList_data]
  rfl
theorem word_none (k : Int) (h : k < 1 ∨ 13 < k) : (wordF k).size = 0 := by
 unfold wordF script_word.f
 rw [if_neg (by omega), if_neg (by omega), if_neg (by omega), if_neg (by omega), if_neg (by omega), if_neg (by omega), if_neg (by omega), if_neg (by omega), if_neg (by omega), if_neg (by omega), if_neg (by omega), if_neg (by omega), if_neg (by omega)]
 rfl
theorem word_cases (k : Int) (h1 : 1 ≤ k) (h2 : k ≤ 13) : k = 1 ∨ k = 2 ∨ k = 3 ∨ k = 4 ∨ k = 5 ∨ k = 6 ∨ k = 7 ∨ k = 8 ∨ k = 9 ∨ k = 10 ∨ k = 11 ∨ k = 12 ∨ k = 13 := by omega
theorem word_size (k : Int) (h1 : 1 ≤ k) (h2 : k ≤ 13) : (wordF k).size ≠ 0 := by
 rcases word_cases k h1 h2 with rfl | rfl | rfl | rfl | rfl | rfl | rfl | rfl | rfl | rfl | rfl | rfl | rfl <;> decide
theorem only_tail' (k n : Int) (d : ByteArray) (f : Int) (vs : List S107) (h1 : 1 ≤ k) (h2 : k ≤ 13) : sameOpF ⟨k, n, d, ⟨f, vs⟩⟩ (onlyO ⟨k, n, d, ⟨f, vs⟩⟩) = tailB k n d f vs.length := by
 unfold sameOpF onlyO tailB
 dsimp only
 by_cases c1 : k = 1
 ·subst c1
  simp [toL_e, eqV_nil]
 by_cases c2 : k = 2
 ·subst c2
  simp [toL_e, eqV_nil]
 by_cases c3 : k = 12
 ·subst c3
  simp [toL_e, eqV_refl]
 by_cases c4 : k = 11 ∨ k = 13
 ·rw [if_neg c1, if_neg c2, if_neg c3, if_pos c4]
  have c5 : 11 ≤ k := by omega
  simp [toL_e, eqV_nil, c1, c2, c3, c5]
 ·rw [if_neg c1, if_neg c2, if_neg c3, if_neg c4]
  have c5 : ¬ 11 ≤ k := by omega
  simp [toL_e, eqV_nil, c1, c2, c3, c5]
theorem plain_one (a : S57) : plain40 a = plainA (act66 a) := by
 obtain ⟨⟨k, n, d, f, vs⟩, cut, mount, m, ms⟩ := a
 unfold plain40 plainA act66
 dsimp only
 cases cut with
 | true =>
  rw [if_pos rfl, if_pos rfl]
  cases mount <;> simp [sameA, eqI_refl, eqI]
 | false =>
  rw [if_neg Bool.false_ne_true, if_neg Bool.false_ne_true]
  cases mount with
  | true => rfl
  | false =>
   rw [if_neg Bool.false_ne_true, if_neg Bool.false_ne_true, restB]
   by_cases h1 : k < 1
   ·rw [word_none k (.inl h1)]; simp [h1]
   ·by_cases h2 : 13 < k
    ·rw [word_none k (.inr h2)]; simp [h2]
    ·have h3 := word_size k (by omega) (by omega)
     rw [sameA]
     dsimp only
     rw [only_tail' k n d f vs (by omega) (by omega), eqI_nil]
     simp only [h1, h2, h3, decide_false, Bool.not_false, Bool.true_and, beq_self_eq_true]
     cases decide (m = 0) <;> cases decide (ms.length = 0) <;> cases vs.any bothF <;> cases tailB k n d f vs.length <;> rfl
end Go.Proofs.YtiddiboclfpklaaDoor.Tz
namespace Go.Proofs.YtiddiboclfpklaaDoor.TzO
open Go.RowKit Go.Proofs.YtiddiboclfpklaaDoorW.PrintWords Go.Proofs.YtiddiboclfpklaaDoorW.PrintLast Go.Proofs.YtiddiboclfpklaaDoorW.PrintMore Go.Proofs.YtiddiboclfpklaaDoor.PScriptReads
attribute [local go_sem] min2_int min_two
set_option linter.unusedVariables false
set_option linter.unusedSimpArgs false
def instarref04_Hex.l0 : Nat → ByteArray → ByteArray → Int → Option (ByteArray)
 | 0, _, _, _ => none
 | k + 1, x0, x3, x4 => if x4 < (x0.size : Int) then (if 0 ≤ x4 then (if 0 ≤ (wrap64 (Int.tdiv (wrap64 (bt x0 x4)) 16)) then (if (wrap64 (Int.tdiv (wrap64 (bt x0 x4)) 16)) ≤ (wrap64 ((wrap64 (Int.tdiv (wrap64 (bt x0 x4)) 16)) + 1)) then (if (wrap64 ((wrap64 (Int.tdiv (wrap64 (bt x0 x4)) 16)) + 1)) ≤ 16 then (if x3.size + ((⟨#[48, 49, 50, 51, 52, 53, 54, 55, 56, 57, 97, 98, 99, 100, 101, 102]⟩ : ByteArray).extract ((wrap64 (Int.tdiv (wrap64 (bt x0 x4)) 16)) : Int).toNat ((wrap64 ((wrap64 (Int.tdiv (wrap64 (bt x0 x4)) 16)) + 1)) : Int).toNat).size ≤ 9223372036854775807 then (if 0 ≤ (Int.tmod (wrap64 (bt x0 x4)) 16) then (if (Int.tmod (wrap64 (bt x0 x4)) 16) ≤ (wrap64 ((Int.tmod (wrap64 (bt x0 x4)) 16) + 1)) then (if (wrap64 ((Int.tmod (wrap64 (bt x0 x4)) 16) + 1)) ≤ 16 then (if (x3 ++ ((⟨#[48, 49, 50, 51, 52, 53, 54, 55, 56, 57, 97, 98, 99, 100, 101, 102]⟩ : ByteArray).extract ((wrap64 (Int.tdiv (wrap64 (bt x0 x4)) 16)) : Int).toNat ((wrap64 ((wrap64 (Int.tdiv (wrap64 (bt x0 x4)) 16)) + 1)) : Int).toNat)).size + ((⟨#[48, 49, 50, 51, 52, 53, 54, 55, 56, 57, 97, 98, 99, 100, 101, 102]⟩ : ByteArray).extract ((Int.tmod (wrap64 (bt x0 x4)) 16) : Int).toNat ((wrap64 ((Int.tmod (wrap64 (bt x0 x4)) 16) + 1)) : Int).toNat).size ≤ 9223372036854775807 then (instarref04_Hex.l0 k x0 ((x3 ++ ((⟨#[48, 49, 50, 51, 52, 53, 54, 55, 56, 57, 97, 98, 99, 100, 101, 102]⟩ : ByteArray).extract ((wrap64 (Int.tdiv (wrap64 (bt x0 x4)) 16)) : Int).toNat ((wrap64 ((wrap64 (Int.tdiv (wrap64 (bt x0 x4)) 16)) + 1)) : Int).toNat)) ++ ((⟨#[48, 49, 50, 51, 52, 53, 54, 55, 56, 57, 97, 98, 99, 100, 101, 102]⟩ : ByteArray).extract ((Int.tmod (wrap64 (bt x0 x4)) 16) : Int).toNat ((wrap64 ((Int.tmod (wrap64 (bt x0 x4)) 16) + 1)) : Int).toNat)) (wrap64 (x4 + 1))) else (none)) else (none)) else (none)) else (none)) else (none)) else (none)) else (none)) else (none)) else (none)) else (some x3)
def instarref04_Hex.f (k : Nat) (a0 : ByteArray) : Option (ByteArray) := if (a0.size : Int) = 0 then (some (⟨#[45]⟩ : ByteArray)) else (instarref04_Hex.l0 k a0 (⟨#[]⟩ : ByteArray) 0)
set_option maxHeartbeats 8000000 in
set_option maxRecDepth 100000 in
theorem instarref04_Hex.calls (k : Nat) (a0 : ByteArray) (r : ByteArray) (w : World) (h : instarref04_Hex.f k a0 = some r) :
  Calls Tryd.prog 18 #[.string a0] w fun e w' => e = .returned (.string r) ∧ Drawn0 w w' := by
 have H : (if (a0.size : Int) = 0 then (some (⟨#[45]⟩ : ByteArray)) else (instarref04_Hex.l0 k a0 (⟨#[]⟩ : ByteArray) 0)) = some r := h
 clear h
 by_cases c2 : (a0.size : Int) = 0
 ·rw [if_pos c2] at H
  have c2b0 : ((a0.size : Int) == 0) = true := beq_iff_eq.mpr c2
  have c2b1 : ((a0.size : Int) != 0) = false := bne_eq_false_iff_eq.mpr c2
  clear c2
  obtain rfl := Option.some.inj H
  go_enter Tryd.func18, Tryd.ntmps18
  go_wp2
  repeat (go_quiet (fail); try go_wp2)
  go_ret
  exact ⟨by first | rfl | (simp; done) | (simp [*]; done), by repeat (first | exact Drawn0.refl _ | apply Drawn0.step)⟩
 ·rw [if_neg c2] at H
  have c2b0 : ((a0.size : Int) == 0) = false := beq_eq_false_iff_ne.mpr c2
  have c2b1 : ((a0.size : Int) != 0) = true := bne_iff_ne.mpr c2
  have H' := Aside0.mk H
  clear H
  go_enter Tryd.func18, Tryd.ntmps18
  go_wp2
  repeat (go_quiet (fail); try go_wp2)
  go_loopg [3, 4] k (fun kq v3 v4 w' => ∃ (x3_1 : ByteArray) (x4_1 : Int), v3 = .string x3_1 ∧ v4 = .int .i64 x4_1 ∧ Aside0 (instarref04_Hex.l0 kq a0 x3_1 x4_1 = some r) ∧ Aside0 (kq ≤ k) ∧ Drawn0 w w')
  case atStart => exact ⟨((⟨#[]⟩ : ByteArray)), (0), (by first | rfl | (simp; done) | (simp [*]; done)), (by first | rfl | (simp; done) | (simp [*]; done)), H', ⟨Nat.le_refl _⟩, by repeat (first | exact Drawn0.refl _ | apply Drawn0.step)⟩
  case round =>
   clear H'
   try clear c1
   try clear c2
   try clear c2b0
   try clear c2b1
   try clear p2
   obtain ⟨x3_1, x4_1, rfl, rfl, HA, HK1, ⟨m1, rfl⟩⟩ := hrel
   cases gk with
   | zero => exact absurd HA.out (by simp [instarref04_Hex.l0])
   | succ k1 =>
    have H := HA.out
    clear HA
    simp only [instarref04_Hex.l0] at H
    by_cases c3 : x4_1 < (a0.size : Int)
    ·rw [if_pos c3] at H
     have c3b0 : decide (x4_1 < (a0.size : Int)) = true := decide_eq_true c3
     clear c3
     by_cases c4 : 0 ≤ x4_1
     ·rw [if_pos c4] at H
      have c4b0 : decide (0 ≤ x4_1) = true := decide_eq_true c4
      clear c4
      obtain ⟨ji6, hji6⟩ : ∃ j_ : Int, (wrap64 (Int.tdiv (wrap64 (bt a0 x4_1)) 16)) = j_ := ⟨_, rfl⟩
      replace H : (if 0 ≤ (ji6) then (if (ji6) ≤ (wrap64 ((ji6) + 1)) then (if (wrap64 ((ji6) + 1)) ≤ 16 then (if x3_1.size + ((⟨#[48, 49, 50, 51, 52, 53, 54, 55, 56, 57, 97, 98, 99, 100, 101, 102]⟩ : ByteArray).extract ((ji6) : Int).toNat ((wrap64 ((ji6) + 1)) : Int).toNat).size ≤ 9223372036854775807 then (if 0 ≤ (Int.tmod (wrap64 (bt a0 x4_1)) 16) then (if (Int.tmod (wrap64 (bt a0 x4_1)) 16) ≤ (wrap64 ((Int.tmod (wrap64 (bt a0 x4_1)) 16) + 1)) then (if (wrap64 ((Int.tmod (wrap64 (bt a0 x4_1)) 16) + 1)) ≤ 16 then (if (x3_1 ++ ((⟨#[48, 49, 50, 51, 52, 53, 54, 55, 56, 57, 97, 98, 99, 100, 101, 102]⟩ : ByteArray).extract ((ji6) : Int).toNat ((wrap64 ((ji6) + 1)) : Int).toNat)).size + ((⟨#[48, 49, 50, 51, 52, 53, 54, 55, 56, 57, 97, 98, 99, 100, 101, 102]⟩ : ByteArray).extract ((Int.tmod (wrap64 (bt a0 x4_1)) 16) : Int).toNat ((wrap64 ((Int.tmod (wrap64 (bt a0 x4_1)) 16) + 1)) : Int).toNat).size ≤ 9223372036854775807 then (instarref04_Hex.l0 k1 a0 ((x3_1 ++ ((⟨#[48, 49, 50, 51, 52, 53, 54, 55, 56, 57, 97, 98, 99, 100, 101, 102]⟩ : ByteArray).extract ((ji6) : Int).toNat ((wrap64 ((ji6) + 1)) : Int).toNat)) ++ ((⟨#[48, 49, 50, 51, 52, 53, 54, 55, 56, 57, 97, 98, 99, 100, 101, 102]⟩ : ByteArray).extract ((Int.tmod (wrap64 (bt a0 x4_1)) 16) : Int).toNat ((wrap64 ((Int.tmod (wrap64 (bt a0 x4_1)) 16) + 1)) : Int).toNat)) (wrap64 (x4_1 + 1))) else (none)) else (none)) else (none)) else (none)) else (none)) else (none)) else (none)) else (none)) = some r := by first | (rw [hji6] at H; exact H) | (simp only [hji6] at H ⊢; exact H)
      have hji6w : (IntKind.i64.wrap (Int.tdiv (wrap64 (bt a0 x4_1)) 16)) = ji6 := (i64_w _).trans hji6
      by_cases c7 : 0 ≤ (ji6)
      ·rw [if_pos c7] at H
       have c7b0 := eq_true c7
       have c7b1 : decide (0 ≤ (ji6)) = true := decide_eq_true c7
       clear c7
       by_cases c8 : (ji6) ≤ (wrap64 ((ji6) + 1))
       ·rw [if_pos c8] at H
        have c8b0 := eq_true c8
        have c8b1 : decide ((ji6) ≤ (wrap64 ((ji6) + 1))) = true := decide_eq_true c8
        by_cases c9 : (wrap64 ((ji6) + 1)) ≤ 16
        ·rw [if_pos c9] at H
         have c9b0 := eq_true c9
         have c9b1 : decide ((wrap64 ((ji6) + 1)) ≤ 16) = true := decide_eq_true c9
         by_cases c10 : x3_1.size + ((⟨#[48, 49, 50, 51, 52, 53, 54, 55, 56, 57, 97, 98, 99, 100, 101, 102]⟩ : ByteArray).extract ((ji6) : Int).toNat ((wrap64 ((ji6) + 1)) : Int).toNat).size ≤ 9223372036854775807
         ·rw [if_pos c10] at H
          have c10b0 := eq_true c10
          have c10b1 : decide (x3_1.size + ((⟨#[48, 49, 50, 51, 52, 53, 54, 55, 56, 57, 97, 98, 99, 100, 101, 102]⟩ : ByteArray).extract ((ji6) : Int).toNat ((wrap64 ((ji6) + 1)) : Int).toNat).size ≤ 9223372036854775807) = true := decide_eq_true c10
          try have c10b2 : (9223372036854775807 < x3_1.size + ((⟨#[48, 49, 50, 51, 52, 53, 54, 55, 56, 57, 97, 98, 99, 100, 101, 102]⟩ : ByteArray).extract ((ji6) : Int).toNat ((wrap64 ((ji6) + 1)) : Int).toNat).size) = False := eq_false (Nat.not_lt.2 c10)
          obtain ⟨ji11, hji11⟩ : ∃ j_ : Int, (Int.tmod (wrap64 (bt a0 x4_1)) 16) = j_ := ⟨_, rfl⟩
          replace H : (if 0 ≤ (ji11) then (if (ji11) ≤ (wrap64 ((ji11) + 1)) then (if (wrap64 ((ji11) + 1)) ≤ 16 then (if (x3_1 ++ ((⟨#[48, 49, 50, 51, 52, 53, 54, 55, 56, 57, 97, 98, 99, 100, 101, 102]⟩ : ByteArray).extract ((ji6) : Int).toNat ((wrap64 ((ji6) + 1)) : Int).toNat)).size + ((⟨#[48, 49, 50, 51, 52, 53, 54, 55, 56, 57, 97, 98, 99, 100, 101, 102]⟩ : ByteArray).extract ((ji11) : Int).toNat ((wrap64 ((ji11) + 1)) : Int).toNat).size ≤ 9223372036854775807 then (instarref04_Hex.l0 k1 a0 ((x3_1 ++ ((⟨#[48, 49, 50, 51, 52, 53, 54, 55, 56, 57, 97, 98, 99, 100, 101, 102]⟩ : ByteArray).extract ((ji6) : Int).toNat ((wrap64 ((ji6) + 1)) : Int).toNat)) ++ ((⟨#[48, 49, 50, 51, 52, 53, 54, 55, 56, 57, 97, 98, 99, 100, 101, 102]⟩ : ByteArray).extract ((ji11) : Int).toNat ((wrap64 ((ji11) + 1)) : Int).toNat)) (wrap64 (x4_1 + 1))) else (none)) else (none)) else (none)) else (none)) = some r := by first | (rw [hji11] at H; exact H) | (simp only [hji11] at H ⊢; exact H)
          by_cases c12 : 0 ≤ (ji11)
          ·rw [if_pos c12] at H
           have c12b0 := eq_true c12
           have c12b1 : decide (0 ≤ (ji11)) = true := decide_eq_true c12
           clear c12
           by_cases c13 : (ji11) ≤ (wrap64 ((ji11) + 1))
           ·rw [if_pos c13] at H
            have c13b0 := eq_true c13
            have c13b1 : decide ((ji11) ≤ (wrap64 ((ji11) + 1))) = true := decide_eq_true c13
            by_cases c14 : (wrap64 ((ji11) + 1)) ≤ 16
            ·rw [if_pos c14] at H
             have c14b0 := eq_true c14
             have c14b1 : decide ((wrap64 ((ji11) + 1)) ≤ 16) = true := decide_eq_true c14
             by_cases c15 : (x3_1 ++ ((⟨#[48, 49, 50, 51, 52, 53, 54, 55, 56, 57, 97, 98, 99, 100, 101, 102]⟩ : ByteArray).extract ((ji6) : Int).toNat ((wrap64 ((ji6) + 1)) : Int).toNat)).size + ((⟨#[48, 49, 50, 51, 52, 53, 54, 55, 56, 57, 97, 98, 99, 100, 101, 102]⟩ : ByteArray).extract ((ji11) : Int).toNat ((wrap64 ((ji11) + 1)) : Int).toNat).size ≤ 9223372036854775807
             ·rw [if_pos c15] at H
              have c15b0 := eq_true c15
              have c15b1 : decide ((x3_1 ++ ((⟨#[48, 49, 50, 51, 52, 53, 54, 55, 56, 57, 97, 98, 99, 100, 101, 102]⟩ : ByteArray).extract ((ji6) : Int).toNat ((wrap64 ((ji6) + 1)) : Int).toNat)).size + ((⟨#[48, 49, 50, 51, 52, 53, 54, 55, 56, 57, 97, 98, 99, 100, 101, 102]⟩ : ByteArray).extract ((ji11) : Int).toNat ((wrap64 ((ji11) + 1)) : Int).toNat).size ≤ 9223372036854775807) = true := decide_eq_true c15
              try have c15b2 : (9223372036854775807 < (x3_1 ++ ((⟨#[48, 49, 50, 51, 52, 53, 54, 55, 56, 57, 97, 98, 99, 100, 101, 102]⟩ : ByteArray).extract ((ji6) : Int).toNat ((wrap64 ((ji6) + 1)) : Int).toNat)).size + ((⟨#[48, 49, 50, 51, 52, 53, 54, 55, 56, 57, 97, 98, 99, 100, 101, 102]⟩ : ByteArray).extract ((ji11) : Int).toNat ((wrap64 ((ji11) + 1)) : Int).toNat).size) = False := eq_false (Nat.not_lt.2 c15)
              have H' := Aside0.mk H
              clear H
              have p5 : 0 ≤ (x4_1 : Int) := of_decide_eq_true (by first | (with_reducible assumption) | assumption)
              have q5 : x4_1 < (a0.size : Int) := of_decide_eq_true (by first | (with_reducible assumption) | assumption)
              have hx5 := bt_at a0 x4_1
              replace p5 := eq_true p5
              replace q5 := eq_true q5
              go_wp2
              repeat (go_quiet (fail); try go_wp2)
              go_roundg k1
              case measure => have := HK1.out; omega
              case rel => exact ⟨((x3_1 ++ ((⟨#[48, 49, 50, 51, 52, 53, 54, 55, 56, 57, 97, 98, 99, 100, 101, 102]⟩ : ByteArray).extract ((ji6) : Int).toNat ((wrap64 ((ji6) + 1)) : Int).toNat)) ++ ((⟨#[48, 49, 50, 51, 52, 53, 54, 55, 56, 57, 97, 98, 99, 100, 101, 102]⟩ : ByteArray).extract ((ji11) : Int).toNat ((wrap64 ((ji11) + 1)) : Int).toNat)), (wrap64 (x4_1 + 1)), (by first | rfl | (simp; done) | (simp only [← hji6, ← hji11] <;> (first | rfl | simp)) | (simp [*]; done)), (by first | rfl | (simp; done) | (simp [*]; done)), H', ⟨by have := HK1.out; omega⟩, by repeat (first | exact Drawn0.refl _ | apply Drawn0.step)⟩
             ·rw [if_neg c15] at H
              exact absurd H (by simp)
            ·rw [if_neg c14] at H
             exact absurd H (by simp)
           ·rw [if_neg c13] at H
            exact absurd H (by simp)
          ·rw [if_neg c12] at H
           exact absurd H (by simp)
         ·rw [if_neg c10] at H
          exact absurd H (by simp)
        ·rw [if_neg c9] at H
         exact absurd H (by simp)
       ·rw [if_neg c8] at H
        exact absurd H (by simp)
      ·rw [if_neg c7] at H
       exact absurd H (by simp)
     ·rw [if_neg c4] at H
      exact absurd H (by simp)
    ·rw [if_neg c3] at H
     have c3b0 : decide (x4_1 < (a0.size : Int)) = false := decide_eq_false c3
     clear c3
     obtain rfl := Option.some.inj H
     go_wp2
     repeat (go_quiet (fail); try go_wp2)
     go_ret
     exact ⟨by first | rfl | (simp; done) | (simp [*]; done), by repeat (first | exact Drawn0.refl _ | apply Drawn0.step)⟩
end Go.Proofs.YtiddiboclfpklaaDoor.TzO
namespace Go.Proofs.YtiddiboclfpklaaDoor.Tz
open Go.RowKit Go.Proofs.YtiddiboclfpklaaDoorW.PrintWords Go.Proofs.YtiddiboclfpklaaDoor.PScriptReads Go.Proofs.YtiddiboclfpklaaDoor.Tx Go.Proofs.YtiddiboclfpklaaDoor.TzO
def figs : ByteArray := ⟨#[48, 49, 50, 51, 52, 53, 54, 55, 56, 57, 97, 98, 99, 100, 101, 102]⟩
theorem cut_figs : ∀ i : Nat, i < 16 → figs.extract i (i + 1) = strOfNums [figF (i : Int)] := by
 intro i hi
 have h : ∀ i : Fin 16, (figs.extract i.val (i.val + 1)).data.toList = (strOfNums [figF (i.val : Int)]).data.toList := by decide +kernel
 apply ByteArray.ext
 exact Array.ext' (h ⟨i, hi⟩)
theorem hex_loop (s : ByteArray) : ∀ (l : List Int) (acc : ByteArray) (i k : Nat), (bytesOf s).drop i = l → i + l.length = s.size → l.length < k → s.size ≤ 16777216 → acc.size = 2 * i →
  instarref04_Hex.l0 k s acc i = some (acc ++ strOfNums (hexL l))
 | [], acc, i, k, hl, hi, hk, hs, ha => by
  obtain ⟨k, rfl⟩ : ∃ k', k = k' + 1 := ⟨k - 1, by simp at hk; omega⟩
  simp only [List.length_nil, Nat.add_zero] at hi
  rw [instarref04_Hex.l0, if_neg (by omega)]
  congr 1
  apply ByteArray.ext
  rw [ByteArray.data_append]
  simp [strOfNums, hexL]
 | a :: l, acc, i, k, hl, hi, hk, hs, ha => by
  simp only [List.length_cons] at hi hk
  obtain ⟨k, rfl⟩ : ∃ k', k = k' + 1 := ⟨k - 1, by omega⟩
  have ha0 : bt s (i : Int) = a := by
   rw [← rd_bytesOf]
   have h0 : (bytesOf s)[i]? = some a := by
    have := congrArg (fun l => l[0]?) hl
    simpa using this
   simp [rd, List.getD_eq_getElem?_getD, h0]
  have hd : (bytesOf s).drop (i + 1) = l := by rw [← List.drop_drop, hl]; rfl
  obtain ⟨a0, a1⟩ := bytesOf_byte s a (List.mem_of_mem_drop (by rw [hl]; exact List.mem_cons_self))
  have hq : wrap64 (Int.tdiv a 16) = a / 16 := by rw [Int.tdiv_eq_ediv_of_nonneg a0, IntWalk.wrap64_in _ (by omega)]
  have hm : Int.tmod a 16 = a % 16 := Int.tmod_eq_emod_of_nonneg a0
  have c1 := cut_figs (a / 16).toNat (by omega)
  have c2 := cut_figs (a % 16).toNat (by omega)
  rw [show (((a / 16).toNat : Nat) : Int) = a / 16 by omega] at c1
  rw [show (((a % 16).toNat : Nat) : Int) = a % 16 by omega] at c2
  have q1 : (a / 16 + 1).toNat = (a / 16).toNat + 1 := by omega
  have q2 : (a % 16 + 1).toNat = (a % 16).toNat + 1 := by omega
  unfold figs at c1 c2
  rw [instarref04_Hex.l0, if_pos (by omega), if_pos (by omega), ha0, IntWalk.wrap64_in a (by omega), hq, hm, IntWalk.wrap64_in (a / 16 + 1) (by omega), IntWalk.wrap64_in (a % 16 + 1) (by omega), q1, q2, c1, c2,
   if_pos (by omega), if_pos (by omega), if_pos (by omega), strOf_size, if_pos (by rw [List.length_singleton]; omega), if_pos (by omega), if_pos (by omega), if_pos (by omega), ByteArray.size_append, strOf_size, strOf_size, if_pos (by rw [List.length_singleton]; simp only [List.length_singleton]; omega), IntWalk.wrap64_in _ (by omega)]
  have := hex_loop s l ((acc ++ strOfNums [figF (a / 16)]) ++ strOfNums [figF (a % 16)]) (i + 1) k hd (by omega) (by omega) hs (by rw [ByteArray.size_append, ByteArray.size_append, strOf_size, strOf_size]; simp only [List.length_singleton]; omega)
  rw [Int.natCast_add] at this
  rw [show ((i : Int) + 1) = (i : Int) + ((1 : Nat) : Int) from rfl, this, ByteArray.append_assoc, ByteArray.append_assoc, strOf_append, strOf_append]
  rfl
theorem r04_hex_eval (s : ByteArray) (hs : s.size ≤ 16777216) : instarref04_Hex.f (s.size + 1) s = some (hexF s) := by
 rw [instarref04_Hex.f, hexF]
 by_cases h0 : s.size = 0
 ·rw [if_pos (by omega), if_pos h0]
 ·have h := hex_loop s (bytesOf s) ⟨#[]⟩ 0 (s.size + 1) rfl (by rw [bytesOf_length]; omega) (by rw [bytesOf_length]; omega) hs rfl
  rw [if_neg (by omega), if_neg h0, show (0 : Int) = ((0 : Nat) : Int) from rfl, h, show (⟨#[]⟩ : ByteArray) = strOfNums [] from rfl, strOf_append, List.nil_append]
theorem r04_hex_calls (s : ByteArray) (hs : s.size ≤ 16777216) (w : World) : Calls Tryd.prog 18 #[.string s] w fun e w' => e = .returned (.string (hexF s)) ∧ Drawn0 w w' :=
 instarref04_Hex.calls (s.size + 1) s _ w (r04_hex_eval s hs)
end Go.Proofs.YtiddiboclfpklaaDoor.Tz
namespace Go.Proofs.YtiddiboclfpklaaDoor.Tz
open Go.RowKit Go.Proofs.YtiddiboclfpklaaDoorW.PrintWords Go.Proofs.YtiddiboclfpklaaDoor.PScriptReads Go.Proofs.YtiddiboclfpklaaDoor.Tx
set_option linter.unusedVariables false
set_option linter.unusedSimpArgs false
def LT (L : List ByteArray) : ByteArray := ⟨(lineB L).toArray⟩
theorem LT_size (L : List ByteArray) : (LT L).size = (lineB L).length := by show (lineB L).toArray.size = _; simp
theorem LT_data (L : List ByteArray) : (LT L).data.toList = lineB L := rfl
theorem data_ext {a b : ByteArray} (h : a.data.toList = b.data.toList) : a = b := ByteArray.ext (Array.ext' h)
theorem LT_one (x : ByteArray) : LT [x] = x := data_ext (by rw [LT_data]; simp [lineB])
theorem LT_snoc (L : List ByteArray) (x : ByteArray) (h : L ≠ []) : LT (L ++ [x]) = (LT L ++ ⟨#[32]⟩) ++ x := by
 refine data_ext ?_
 cases L with
 | nil => exact absurd rfl h
 | cons a L =>
  rw [LT_data, lineB_snoc, sepB]
  simp [ByteArray.data_append, LT]
theorem LT_cut (x : ByteArray) : LT [⟨#[99, 117, 116]⟩, x] = ⟨#[99, 117, 116, 32]⟩ ++ x := data_ext (by rw [LT_data]; simp [lineB, ByteArray.data_append])
theorem colon (s h : ByteArray) : (s ++ ⟨#[32, 58]⟩) ++ h = (s ++ ⟨#[32]⟩) ++ (⟨#[58]⟩ ++ h) := data_ext (by simp [ByteArray.data_append])
theorem decW_size (n : Int) (hn : I64 n) : (decW n).size ≤ 30 := by
 unfold decW
 rw [strOf_size]
 have hn' := hn
 unfold I64 at hn'
 by_cases h : n < 0
 ·have := digR_len 18 (-n).toNat (by omega)
  rw [decF_neg n h, List.length_cons, List.length_reverse]; omega
 ·have := digR_len 18 n.toNat (by omega)
  rw [decF_pos n h, List.length_reverse]; omega
structure BoxSt (w wr : World) (cs : Array Value) : Prop where
 box : wr.heap[w.heap.size]? = some (.cells cs 57 (0, 0))
 bel : Below w.heap.size w wr
theorem BoxSt.below {w wr w2 : World} {cs : Array Value} (S : BoxSt w wr cs) (hb : Below wr.heap.size wr w2) : BoxSt w w2 cs := ⟨blk_below S.box hb, S.bel.trans (hb.mono S.bel.size)⟩
theorem BoxSt.new (w : World) (cs : Array Value) : BoxSt w (w.alloc (.cells cs 57)) cs := ⟨blk_new w _, below_alloc (Below.refl _ _) _⟩
theorem BoxSt.drew {w wr : World} {cs : Array Value} (S : BoxSt w wr cs) : BoxSt w wr.drew cs := ⟨S.box, below_drew1 S.bel⟩
theorem BoxSt.alloc {w wr : World} {cs : Array Value} (S : BoxSt w wr cs) (o : Obj) : BoxSt w (wr.alloc o) cs := ⟨blk_alloc S.box o, below_alloc S.bel o⟩
theorem BoxSt.drewN {w wr : World} {cs : Array Value} (S : BoxSt w wr cs) (n : Nat) : BoxSt w (wr.drewN n) cs := ⟨S.box, pw_below_drewN S.bel n⟩
def wordsL : List ByteArray := [⟨#[]⟩, ⟨#[98, 101, 103, 105, 110]⟩, ⟨#[99, 104, 117, 110, 107]⟩, ⟨#[102, 105, 110, 105, 115, 104]⟩, ⟨#[97, 98, 111, 114, 116]⟩, ⟨#[109, 105, 103, 114, 97, 116, 101]⟩, ⟨#[99, 111, 109, 109, 105, 116]⟩, ⟨#[98, 111, 111, 116]⟩, ⟨#[99, 111, 110, 102, 105, 114, 109]⟩, ⟨#[114, 111, 108, 108, 98, 97, 99, 107]⟩, ⟨#[100, 111, 119, 110, 103, 114, 97, 100, 101]⟩, ⟨#[103, 101, 116]⟩, ⟨#[112, 117, 116]⟩, ⟨#[100, 101, 108, 101, 116, 101]⟩]
theorem words_rd (k : Int) (h1 : 1 ≤ k) (h2 : k ≤ 13) : rdOf ByteArray.empty wordsL k = wordF k := by
 rcases word_cases k h1 h2 with rfl | rfl | rfl | rfl | rfl | rfl | rfl | rfl | rfl | rfl | rfl | rfl | rfl <;> rfl
theorem word_small (k : Int) : (wordF k).size ≤ 30 := by
 by_cases h : 1 ≤ k ∧ k ≤ 13
 ·rcases word_cases k h.1 h.2 with rfl | rfl | rfl | rfl | rfl | rfl | rfl | rfl | rfl | rfl | rfl | rfl | rfl <;> decide
 ·rw [word_none k (by omega)]; omega
set_option maxHeartbeats 1000000 in
set_option maxRecDepth 100000 in
theorem words_calls (w : World) : Calls Tryd.prog 75 #[] w fun e w' => ∃ ad, e = .returned (.slice (some ad) 14 14) ∧ Kd.C Kd.string w' (some ad) 14 wordsL ∧ Below w.heap.size w w' := by
 have HR := Aside0.mk (lit_readsS w wordsL (by decide))
 have HB := Aside0.mk (below_alloc (Below.refl w.heap.size w) (.cells (encs Value.string wordsL).toArray 9))
 go_enter Tryd.func75, Tryd.ntmps75
 go_wp2_with fail
 go_ret
 exact ⟨_, rfl, Kd.C_of_reads (enc := Value.string) (d := ByteArray.empty) (h1 := fun _ => rfl) HR.out, HB.out⟩
set_option maxHeartbeats 4000000 in
set_option maxRecDepth 100000 in
theorem l40_cut (k n : Int) (d : ByteArray) (f : Int) (vs : List S107) (m : Int) (ms : List Int) (A4 : Option Addr) (c4 : Nat) (A8 : Option Addr) (c8 : Nat) (w : World) (mount : Bool) (h8 : Kd.C (Kd.int .u32) w A8 ms.length ms) (hm : I64 m) (hms : ∀ x ∈ ms, 0 ≤ x ∧ x < 4294967296) (hl : ms.length ≤ 16777216) :
  Calls Tryd.prog 54 #[.agg #[.int .i64 k, .int .i64 n, .string d, .int .i64 f, .slice A4 vs.length c4, .bool true, .bool mount, .int .i64 m, .slice A8 ms.length c8]] w fun e w' => e = .returned (.string (LT (⟨#[99, 117, 116]⟩ :: decW m :: ms.map decW))) ∧ Below w.heap.size w w' := by
 have HR := Aside0.mk (show ReadsInt w .u32 A8 ms.length ms from Kd.reads_of_C h8)
 have HMS := Aside0.mk hms
 clear h8 hms
 obtain ⟨N, hN⟩ : ∃ N, ms.length = N := ⟨_, rfl⟩
 rw [hN] at HR hl ⊢
 have HN := Aside0.mk hN
 clear hN
 have B0 := Aside0.mk (BoxSt.new w #[.int .i64 k, .int .i64 n, .string d, .int .i64 f, .slice A4 vs.length c4, .bool true, .bool mount, .int .i64 m, .slice A8 N c8])
 have hdm := decW_size m hm
 have hl0 := LT_cut (decW m)
 obtain ⟨dm, hdm2⟩ : ∃ dm, decW m = dm := ⟨_, rfl⟩
 have HD : Aside0 (∀ W, Calls Tryd.prog 13 #[.int .i64 m] W fun e w' => e = .returned (.string dm) ∧ Below W.heap.size W w') := ⟨fun W => by rw [← hdm2]; exact r04_dec_calls m hm W⟩
 rw [hdm2] at hdm hl0 ⊢
 have hcat : 4 + dm.size ≤ 9223372036854775807 := by omega
 have HL0 := Aside0.mk hl0
 have HDM := Aside0.mk hdm
 clear hl0 hdm2 hdm
 obtain ⟨R, hR⟩ : ∃ R, LT (⟨#[99, 117, 116]⟩ :: dm :: ms.map decW) = R := ⟨_, rfl⟩
 rw [hR]
 have HRR := Aside0.mk hR
 clear hR
 go_enter Tryd.func54, Tryd.ntmps54
 go_wp2_with ((go_at_call 13; refine (HD.out _).mono ?_; rintro e w1 ⟨rfl, hB⟩; have S1 := Aside0.mk (B0.out.below hB); clear hB))
 go_loopw [3, 4] (fun v i wr => ∃ (t : Nat) (s : ByteArray), t ≤ N ∧ v = .string s ∧ i = .int .i64 (t : Int) ∧ Aside0 (BoxSt w wr #[.int .i64 k, .int .i64 n, .string d, .int .i64 f, .slice A4 vs.length c4, .bool true, .bool mount, .int .i64 m, .slice A8 N c8] ∧ s = LT ([⟨#[99, 117, 116]⟩, dm] ++ (ms.take t).map decW) ∧ s.size ≤ 1000 + 31 * t)) (fun _ i _ => N - (intOf i).toNat)
 case atStart => exact ⟨0, _, by omega, rfl, rfl, ⟨S1.out, HL0.out.symm, by have := HDM.out; rw [ByteArray.size_append]; show 4 + dm.size ≤ _; omega⟩⟩
 case round =>
  clear S1 hcat
  obtain ⟨t, s, ht, rfl, rfl, S⟩ := hrel
  have q8 : wr.cell? ⟨w.heap.size, 8, none⟩ = some (.slice A8 N c8) := (blk_cell S.out.1.box 8).trans rfl
  by_cases hlt : t < N
  ·have hb5 : (0 : Int) ≤ (t : Int) := by omega
   have hb6 : (t : Int) < (N : Int) := by omega
   obtain ⟨ad, rfl, hc⟩ := (HR.out.below S.out.1.bel).at_ (t : Int) hb5 hb6
   rw [Int.toNat_natCast] at hc
   obtain ⟨x, hx⟩ : ∃ x, rd ms (t : Int) = x := ⟨_, rfl⟩
   rw [hx] at hc
   have htl : t < ms.length := by rw [HN.out]; exact hlt
   have hxe : ms[t] = x := by rw [← hx]; simp [rd, htl]
   have hxr := HMS.out x (by rw [← hxe]; exact List.getElem_mem htl)
   have hcx : IntKind.i64.wrap x = x := IntWalk.i64_in x (by omega)
   have hcx2 : wrap64 x = x := IntWalk.wrap64_in x (by omega)
   have hxI : I64 x := by unfold I64; omega
   have hdz := decW_size x hxI
   have htk : (ms.take (t + 1)).map decW = (ms.take t).map decW ++ [decW x] := by rw [List.take_succ_eq_append_getElem htl, hxe, List.map_append]; rfl
   have hs2 : (s ++ ⟨#[32]⟩) ++ decW x = LT ([⟨#[99, 117, 116]⟩, dm] ++ (ms.take (t + 1)).map decW) := by
    rw [htk, ← List.append_assoc, LT_snoc _ _ (by simp), S.out.2.1]
   have hs3 : ((s ++ ⟨#[32]⟩) ++ decW x).size ≤ 1000 + 31 * (t + 1) := by
    have := S.out.2.2
    rw [ByteArray.size_append, ByteArray.size_append]
    show s.size + 1 + _ ≤ _
    omega
   have hk1 : s.size + 1 ≤ 9223372036854775807 := by have := S.out.2.2; omega
   have hk2 : (s ++ ⟨#[32]⟩).size + (decW x).size ≤ 9223372036854775807 := by
    have := S.out.2.2
    rw [ByteArray.size_append]
    show s.size + 1 + _ ≤ _
    omega
   obtain ⟨dx, hdx⟩ : ∃ dx, decW x = dx := ⟨_, rfl⟩
   have HX : Aside0 (∀ W, Calls Tryd.prog 13 #[.int .i64 x] W fun e w' => e = .returned (.string dx) ∧ Below W.heap.size W w') := ⟨fun W => by rw [← hdx]; exact r04_dec_calls x hxI W⟩
   rw [hdx] at hk2 hs2 hs3
   have HT := Aside0.mk (And.intro hs2 hs3)
   clear hx hxe hxr htl htk hdx hdz hxI hs2 hs3
   go_wp2_with ((go_at_call 13; refine (HX.out _).mono ?_; rintro e w2 ⟨rfl, hB⟩; have S2 := Aside0.mk (S.out.1.below hB); clear hB))
   refine ⟨⟨t + 1, _, by omega, rfl, by go_num, ⟨S2.out, HT.out.1, HT.out.2⟩⟩, ?_⟩
   simp only [intOf]; omega
  ·obtain rfl : t = N := by omega
   have hfull : ms.take t = ms := List.take_of_length_le (by rw [HN.out]; exact Nat.le_refl _)
   have HE : Aside0 (s = R) := ⟨by rw [S.out.2.1, hfull, ← HRR.out]; rfl⟩
   have HB := Aside0.mk S.out.1.bel
   clear hfull
   go_wp2_with fail
   go_ret
   exact ⟨by rw [HE.out]; rfl, HB.out⟩
set_option maxHeartbeats 4000000 in
set_option maxRecDepth 100000 in
theorem l40_mount (k n : Int) (d : ByteArray) (f : Int) (vs : List S107) (m : Int) (ms : List Int) (A4 : Option Addr) (c4 : Nat) (A8 : Option Addr) (c8 : Nat) (w : World) : Calls Tryd.prog 54 #[.agg #[.int .i64 k, .int .i64 n, .string d, .int .i64 f, .slice A4 vs.length c4, .bool false, .bool true, .int .i64 m, .slice A8 ms.length c8]] w fun e w' => e = .returned (.string (LT [⟨#[109, 111, 117, 110, 116]⟩])) ∧ Below w.heap.size w w' := by
 have B0 := Aside0.mk (BoxSt.new w #[.int .i64 k, .int .i64 n, .string d, .int .i64 f, .slice A4 vs.length c4, .bool false, .bool true, .int .i64 m, .slice A8 ms.length c8])
 rw [LT_one]
 go_enter Tryd.func54, Tryd.ntmps54
 go_wp2_with fail
 go_ret
 exact ⟨rfl, B0.out.bel⟩
end Go.Proofs.YtiddiboclfpklaaDoor.Tz
