/- Lemmas that the claim's theorem uses. -/
import Derived.Test.YtiddiboclfpklaaDoorBkK
import Derived.Laws.Rows
import Derived.Laws.Tables
import Derived.Laws.CopyRow
import Derived.BigRegion
import Derived.Test.YtiddiboclfpklaaDoorBkI
import Derived.Maps.OwnSet
import Derived.StringKeys
namespace Go.Proofs.YtiddiboclfpklaaDoor.Tz
open Go.RowKit Go.Proofs.YtiddiboclfpklaaDoorW.PrintWords Go.Proofs.YtiddiboclfpklaaDoor.PScriptReads Go.Proofs.YtiddiboclfpklaaDoor.Tx
set_option linter.unusedVariables false
theorem cut84 (A : Option Addr) (c : Nat) (l : List ByteArray) (j : Nat) (hj : j ≤ l.length) (hc : l.length ≤ c) :
    ∃ A', (∀ W : World, (Instr.slice 84 (.slice A l.length c) (some (.int .i64 (j : Int))) none none).run Tryd.prog W = .ok (.slice A' (l.drop j).length (c - j)) W) ∧
      (∀ w : World, Kd.C Kd.string w A l.length l → Kd.C Kd.string w A' (l.drop j).length (l.drop j)) ∧ (l.drop j).length ≤ c - j := by
  obtain ⟨i0, hi, hzz⟩ := Option.map_eq_some_iff.1 info9
  simp only [Prod.mk.injEq] at hzz
  obtain ⟨A', h1, h2, h3⟩ := print_drop_of (P := Tryd.prog) Value.string ByteArray.empty 84 9 .i64 un84 hi hzz.2.1 A c l (j : Int) (by omega) (by omega) hc
  simp only [Int.toNat_natCast] at h1 h2 h3
  exact ⟨A', h1, fun w h => Kd.C_of_reads (h2 w (Kd.reads_of_C h)), h3⟩
theorem cut138 (A : Option Addr) (c : Nat) (l : List Int) (j : Nat) (hj : j ≤ l.length) (hc : l.length ≤ c) :
    ∃ A', (∀ W : World, (Instr.slice 138 (.slice A l.length c) (some (.int .i64 (j : Int))) none none).run Tryd.prog W = .ok (.slice A' (l.drop j).length (c - j)) W) ∧
      (∀ w : World, Kd.C (Kd.int .i64) w A l.length l → Kd.C (Kd.int .i64) w A' (l.drop j).length (l.drop j)) ∧ (l.drop j).length ≤ c - j := by
  obtain ⟨i0, hi, hzz⟩ := Option.map_eq_some_iff.1 info3
  simp only [Prod.mk.injEq] at hzz
  obtain ⟨A', h1, h2, h3⟩ := print_drop_of (P := Tryd.prog) (Value.int .i64) (0 : Int) 138 3 .i64 un138 hi hzz.2.1 A c l (j : Int) (by omega) (by omega) hc
  simp only [Int.toNat_natCast] at h1 h2 h3
  exact ⟨A', h1, fun w h => Kd.C_of_reads (h2 w (Kd.reads_of_C h)), h3⟩
/-- What bytes makes. -/
def bytesF (l : List ByteArray) : ByteArray × Bool := match l with
  | [x] => ((unhexS x).1, decide ((unhexS x).2 = 0))
  | _ => (⟨#[]⟩, false)
theorem bytesF_not (l : List ByteArray) (h : l.length ≠ 1) : bytesF l = (⟨#[]⟩, false) := by
  match l, h with
  | [], _ => rfl
  | [x], h => exact absurd rfl h
  | _ :: _ :: _, _ => rfl
set_option maxHeartbeats 2000000 in
set_option maxRecDepth 100000 in
theorem bytes_calls (l : List ByteArray) (A : Option Addr) (c : Nat) (w : World) (hr : Kd.C Kd.string w A l.length l) (hx : ∀ x ∈ l, x.size ≤ 16777216) :
    Calls Tryd.prog 64 #[.slice A l.length c] w fun e w' => e = .returned (.tuple #[.string (bytesF l).1, .bool (bytesF l).2]) ∧ Below w.heap.size w w' := by
  have HB := Aside0.mk (Below.refl w.heap.size w)
  by_cases h1 : l.length = 1
  · obtain ⟨x, rfl⟩ : ∃ x, l = [x] := by
      match l, h1 with
      | [x], _ => exact ⟨x, rfl⟩
    obtain ⟨ad, rfl, hc⟩ := Kd.at_string hr 0 (by omega) (by simp)
    have hc0 : w.cell? ad = some (.string x) := by
      rw [show (0 : Int).toNat = 0 from rfl, Addr.add_zero'] at hc
      exact hc
    have HU : Aside0 (∀ W, Calls Tryd.prog 15 #[.string x] W fun e w' => e = .returned (.tuple #[.string (unhexS x).1, .int .i64 (unhexS x).2]) ∧ Below W.heap.size W w') := ⟨fun W => unhex_calls x (hx x (by simp)) W⟩
    have hb : bytesF [x] = ((unhexS x).1, decide ((unhexS x).2 = 0)) := rfl
    rw [hb]
    obtain ⟨us, hus⟩ : ∃ us, (unhexS x).1 = us := ⟨_, rfl⟩
    obtain ⟨ue, hue⟩ : ∃ ue, (unhexS x).2 = ue := ⟨_, rfl⟩
    rw [hus, hue] at HU ⊢
    clear hus hue hb hr hx h1 hc
    go_enter Tryd.func64, Tryd.ntmps64
    go_wp2_with (go_at_call 15; refine (HU.out _).mono ?_; rintro e w3 ⟨rfl, hB⟩; have B2 := Aside0.mk (HB.out.trans (hB.mono HB.out.size)); clear hB)
    go_ret2
    exact ⟨by first | rfl | (simp; done) | (simp [beq_eq_decide]; done), B2.out⟩
  · rw [bytesF_not l h1]
    have e1 : ((l.length : Int) == 1) = false := beq_eq_false_iff_ne.2 (by omega)
    clear hr hx
    go_enter Tryd.func64, Tryd.ntmps64
    go_wp2_with fail
    go_ret2
    exact ⟨rfl, HB.out⟩
/-- The first word of a script. -/
def devW : ByteArray := ⟨#[100, 101, 118, 105, 99, 101]⟩
theorem devW_list : devW.toList = [100, 101, 118, 105, 99, 101] := by rw [Lib.toList_data]; rfl
def devOk (x : ByteArray) (r : List ByteArray) : Bool := r.all isNum && ((x.toList == devW.toList) && decide (r.length = 6))
def zero46 : Array Value := #[.int .i64 0, .int .i64 0, .int .i64 0, .int .i64 0, .int .i64 0, .int .i64 0]
theorem size46 : (Tryd.prog.info? 46).map (·.size) = some 6 := by kernel_rfl
theorem one46 (a b c d e f : Int) : (#[Value.int .i64 a, .int .i64 b, .int .i64 c, .int .i64 d, .int .i64 e, .int .i64 f] : Array Value).all (·.oneCell') = true := by simp [Value.oneCell']
/-- What device makes. -/
def DevPost (w : World) (x : ByteArray) (r : List ByteArray) (e : Ending) (w' : World) : Prop :=
  ((devOk x r = true ∧ ∃ a b c d f g, r.map numOf = [a, b, c, d, f, g] ∧ e = .returned (.tuple #[.agg #[.int .i64 a, .int .i64 b, .int .i64 c, .int .i64 d, .int .i64 f, .int .i64 g], .bool true])) ∨ (devOk x r = false ∧ e = .returned (.tuple #[.agg zero46, .bool false]))) ∧ Below w.heap.size w w'
theorem word_eq (x y : ByteArray) : (x.toList == y.toList) = decide (x = y) := by
  by_cases h : x = y
  · subst h; simp
  · rw [decide_eq_false h]
    refine beq_eq_false_iff_ne.2 (fun e => h ?_)
    rw [Lib.toList_data, Lib.toList_data] at e
    exact ByteArray.ext (Array.toList_inj.1 e)
set_option maxHeartbeats 4000000 in
set_option maxRecDepth 100000 in
theorem device_calls (x : ByteArray) (r : List ByteArray) (A : Option Addr) (c : Nat) (w : World) (hr : Kd.C Kd.string w A (x :: r).length (x :: r)) (hc : (x :: r).length ≤ c) (hx : ∀ y ∈ x :: r, y.size ≤ 16777216) (hl : r.length ≤ 16777216) :
    Calls Tryd.prog 63 #[.slice A (r.length + 1) c] w (DevPost w x r) := by
  obtain ⟨A1, hcut, hC1, hc1⟩ := cut84 A c (x :: r) 1 (by simp) hc
  have HB := Aside0.mk (Below.alloc (Below.refl w.heap.size w) (Nat.le_refl _) (.cells #[.int .i64 0, .int .i64 0, .int .i64 0, .int .i64 0, .int .i64 0, .int .i64 0] 46))
  obtain ⟨ad, hA, hc0⟩ := Kd.at_string hr 0 (by omega) (by simp)
  subst hA
  have hce : w.cell? ad = some (.string x) := by
    rw [show (0 : Int).toNat = 0 from rfl, Addr.add_zero'] at hc0
    exact hc0
  have hR1 := hC1 w hr
  replace hR1 : Kd.C Kd.string w A1 r.length r := hR1
  replace hcut : ∀ W : World, (Instr.slice 84 (.slice (some ad) (r.length + 1) c) (some (.int .i64 1)) none none).run Tryd.prog W = .ok (.slice A1 r.length (c - 1)) W := hcut
  have HN : Aside0 (∀ W, Below w.heap.size w W → Calls Tryd.prog 78 #[.slice A1 r.length (c - 1)] W (NumsPost W r)) := ⟨fun W hb => numbers_calls r A1 (c - 1) W (Kd.C_below hR1 hb) (fun y hy => hx y (List.mem_cons_of_mem _ hy)) hl⟩
  have K0 := Aside0.mk (blk_new w (.cells #[.int .i64 0, .int .i64 0, .int .i64 0, .int .i64 0, .int .i64 0, .int .i64 0] 46))
  have HCE := Aside0.mk hce
  have hq1 : (1 : Int) ≤ ((r.length + 1 : Nat) : Int) := by omega
  clear hC1 hR1 hc1 hx hr hc hc0 hl hce
  obtain ⟨dv, hdv⟩ : ∃ dv, (x.toList == devW.toList) = dv := ⟨_, rfl⟩
  have hok : devOk x r = (r.all isNum && (dv && decide (r.length = 6))) := by unfold devOk; rw [hdv]
  have HOK := Aside0.mk hok
  clear hok
  rw [devW_list] at hdv
  cases hall : r.all isNum with
  | false =>
    have HP : Aside0 (devOk x r = false) := ⟨by rw [HOK.out, hall, Bool.false_and]⟩
    have HN2 : Aside0 (∀ W, Below w.heap.size w W → Calls Tryd.prog 78 #[.slice A1 r.length (c - 1)] W fun e w' => e = .returned (.tuple #[.slice none 0 0, .bool false]) ∧ Below W.heap.size W w') := ⟨fun W hb => (HN.out W hb).mono (by
      rintro e w' ⟨⟨h1, _⟩ | ⟨_, h2⟩, hB⟩
      · rw [hall] at h1; cases h1
      · exact ⟨h2, hB⟩)⟩
    clear HN HOK hall
    go_enter Tryd.func63, Tryd.ntmps63
    go_wp2_with (first
      | (go_at_call 78; refine (HN2.out _ HB.out).mono ?_; rintro e w2 ⟨rfl, hB⟩; have K2 := Aside0.mk (blk_below K0.out hB); have B2 := Aside0.mk (HB.out.trans (hB.mono HB.out.size)); clear hB)
      | (refine wpList_load_row rfl 46 _ rfl w.heap.size rfl 46 _ (0, 0) _ K2.out Tryd.underlying46 rfl size46 ?_)
      | (refine wpList_store_row rfl 46 _ _ rfl w.heap.size zero46 rfl rfl 46 zero46 K2.out size46 rfl (one46 0 0 0 0 0 0) ?_; rw [setRow_self _ _ zero46 _ _ K2.out]))
    refine bodyPost_ret (results_ct rfl _ _ w.heap.size 46 zero46 (0, 0) _ rfl K2.out Tryd.underlying46 rfl size46) rfl ?_
    exact ⟨.inr ⟨HP.out, rfl⟩, B2.out⟩
  | true =>
    have HN2 : Aside0 (∀ W, Below w.heap.size w W → Calls Tryd.prog 78 #[.slice A1 r.length (c - 1)] W fun e w' => (∃ A3 c3, e = .returned (.tuple #[.slice A3 r.length c3, .bool true]) ∧ Kd.C (Kd.int .i64) w' A3 r.length (r.map numOf)) ∧ Below W.heap.size W w') := ⟨fun W hb => (HN.out W hb).mono (by
      rintro e w' ⟨⟨_, v, rfl, hv⟩ | ⟨h1, _⟩, hB⟩
      · obtain ⟨A3, c3, rfl, _, h3⟩ := Kd.R_reads hv
        rw [List.length_map] at h3 ⊢
        exact ⟨⟨A3, c3, rfl, h3⟩, hB⟩
      · rw [hall] at h1; cases h1)⟩
    clear HN
    by_cases hn : dv = true ∧ r.length = 6
    · obtain ⟨rfl, h6⟩ := hn
      have HP : Aside0 (devOk x r = true) := ⟨by rw [HOK.out, hall, decide_eq_true h6]; rfl⟩
      clear HOK hall
      obtain ⟨ns, hns⟩ : ∃ ns, r.map numOf = ns := ⟨_, rfl⟩
      have hnl : ns.length = 6 := by rw [← hns, List.length_map, h6]
      rw [hns, h6] at HN2
      obtain ⟨g0, g1, g2, g3, g4, g5, rfl⟩ : ∃ a b c d e f, ns = [a, b, c, d, e, f] := by
        match ns, hnl with
        | [a, b, c, d, e, f], _ => exact ⟨a, b, c, d, e, f, rfl⟩
      have HNS := Aside0.mk hns
      rw [h6] at hcut hq1 ⊢
      clear hns hnl h6
      go_enter Tryd.func63, Tryd.ntmps63
      go_wp2_with (first
        | (go_at_call 78; refine (HN2.out _ HB.out).mono ?_; rintro e w2 ⟨⟨A3, c3, rfl, hC3⟩, hB⟩; have K2 := Aside0.mk (blk_below K0.out hB); have B2 := Aside0.mk (HB.out.trans (hB.mono HB.out.size)); have hce2 := pw_cell_below (HB.out.trans (hB.mono HB.out.size)) HCE.out; clear hB; obtain ⟨a3, hA3, n0⟩ := Kd.at_int hC3 0 (by omega) (by simp); subst hA3; obtain ⟨a4, h4, n1⟩ := Kd.at_int hC3 1 (by omega) (by simp); cases h4; obtain ⟨a4, h4, n2⟩ := Kd.at_int hC3 2 (by omega) (by simp); cases h4; obtain ⟨a4, h4, n3⟩ := Kd.at_int hC3 3 (by omega) (by simp); cases h4; obtain ⟨a4, h4, n4⟩ := Kd.at_int hC3 4 (by omega) (by simp); cases h4; obtain ⟨a4, h4, n5⟩ := Kd.at_int hC3 5 (by omega) (by simp); cases h4; clear hC3))
      have m0 : w2.cell? a3 = some (.int .i64 g0) := by
        have h := n0
        rw [show (0 : Int).toNat = 0 from rfl, Addr.add_zero'] at h
        exact h
      replace n1 : w2.cell? ⟨a3.block, a3.off + 1, none⟩ = some (.int .i64 g1) := n1
      replace n2 : w2.cell? ⟨a3.block, a3.off + 2, none⟩ = some (.int .i64 g2) := n2
      replace n3 : w2.cell? ⟨a3.block, a3.off + 3, none⟩ = some (.int .i64 g3) := n3
      replace n4 : w2.cell? ⟨a3.block, a3.off + 4, none⟩ = some (.int .i64 g4) := n4
      replace n5 : w2.cell? ⟨a3.block, a3.off + 5, none⟩ = some (.int .i64 g5) := n5
      clear n0 hce2
      have hu46 := Tryd.underlying46
      have z0 : w2.cell? ⟨w.heap.size, 0, none⟩ = some (.int .i64 0) := (blk_cell K2.out 0).trans rfl
      have z1 : w2.cell? ⟨w.heap.size, 1, none⟩ = some (.int .i64 0) := (blk_cell K2.out 1).trans rfl
      have z2 : w2.cell? ⟨w.heap.size, 2, none⟩ = some (.int .i64 0) := (blk_cell K2.out 2).trans rfl
      have z3 : w2.cell? ⟨w.heap.size, 3, none⟩ = some (.int .i64 0) := (blk_cell K2.out 3).trans rfl
      have z4 : w2.cell? ⟨w.heap.size, 4, none⟩ = some (.int .i64 0) := (blk_cell K2.out 4).trans rfl
      have z5 : w2.cell? ⟨w.heap.size, 5, none⟩ = some (.int .i64 0) := (blk_cell K2.out 5).trans rfl
      have fz0 := blk_frozen K2.out 0
      have fz1 := blk_frozen K2.out 1
      have fz2 := blk_frozen K2.out 2
      have fz3 := blk_frozen K2.out 3
      have fz4 := blk_frozen K2.out 4
      have fz5 := blk_frozen K2.out 5
      go_region
      have K5 : ((((((w2.setCell ⟨w.heap.size, 0, none⟩ (.int .i64 g0)).setCell ⟨w.heap.size, 1, none⟩ (.int .i64 g1)).setCell ⟨w.heap.size, 2, none⟩ (.int .i64 g2)).setCell ⟨w.heap.size, 3, none⟩ (.int .i64 g3)).setCell ⟨w.heap.size, 4, none⟩ (.int .i64 g4)).setCell ⟨w.heap.size, 5, none⟩ (.int .i64 g5)).drew.heap[w.heap.size]? = some (.cells #[.int .i64 g0, .int .i64 g1, .int .i64 g2, .int .i64 g3, .int .i64 g4, .int .i64 g5] 46 (0, 0)) :=
        blk_drew (blk_put (blk_put (blk_put (blk_put (blk_put (blk_put K2.out 0 _ rfl) 1 _ rfl) 2 _ rfl) 3 _ rfl) 4 _ rfl) 5 _ rfl)
      have B5 := below_drew1 (below_set (j := 5) (v := .int .i64 g5) (below_set (j := 4) (v := .int .i64 g4) (below_set (j := 3) (v := .int .i64 g3) (below_set (j := 2) (v := .int .i64 g2) (below_set (j := 1) (v := .int .i64 g1) (below_set (j := 0) (v := .int .i64 g0) B2.out (Nat.le_refl _)) (Nat.le_refl _)) (Nat.le_refl _)) (Nat.le_refl _)) (Nat.le_refl _)) (Nat.le_refl _))
      clear z0 z1 z2 z3 z4 z5 fz0 fz1 fz2 fz3 fz4 fz5 m0 n1 n2 n3 n4 n5 K2 B2
      go_wp2_with fail
      refine bodyPost_ret (results_ct rfl _ _ w.heap.size 46 _ (0, 0) _ rfl K5 Tryd.underlying46 rfl size46) rfl ?_
      exact ⟨.inl ⟨HP.out, _, _, _, _, _, _, HNS.out, rfl⟩, B5⟩
    · have HP : Aside0 (devOk x r = false) := ⟨by
        rw [HOK.out, hall, Bool.true_and, ← Bool.not_eq_true, Bool.and_eq_true, decide_eq_true_eq]
        exact hn⟩
      clear HOK hall
      cases dv with
      | false =>
        clear hn
        go_enter Tryd.func63, Tryd.ntmps63
        go_wp2_with (first
          | (go_at_call 78; refine (HN2.out _ HB.out).mono ?_; rintro e w2 ⟨⟨A3, c3, rfl, hC3⟩, hB⟩; have K2 := Aside0.mk (blk_below K0.out hB); have B2 := Aside0.mk (HB.out.trans (hB.mono HB.out.size)); have hce2 := pw_cell_below (HB.out.trans (hB.mono HB.out.size)) HCE.out; clear hB)
          | (refine wpList_load_row rfl 46 _ rfl w.heap.size rfl 46 _ (0, 0) _ K2.out Tryd.underlying46 rfl size46 ?_)
          | (refine wpList_store_row rfl 46 _ _ rfl w.heap.size zero46 rfl rfl 46 zero46 K2.out size46 rfl (one46 0 0 0 0 0 0) ?_; rw [setRow_self _ _ zero46 _ _ K2.out]))
        refine bodyPost_ret (results_ct rfl _ _ w.heap.size 46 zero46 (0, 0) _ rfl K2.out Tryd.underlying46 rfl size46) rfl ?_
        exact ⟨.inr ⟨HP.out, rfl⟩, B2.out⟩
      | true =>
        have hn6 : ((r.length : Int) == 6) = false := beq_eq_false_iff_ne.2 (fun e => hn ⟨rfl, by omega⟩)
        clear hn
        go_enter Tryd.func63, Tryd.ntmps63
        go_wp2_with (first
          | (go_at_call 78; refine (HN2.out _ HB.out).mono ?_; rintro e w2 ⟨⟨A3, c3, rfl, hC3⟩, hB⟩; have K2 := Aside0.mk (blk_below K0.out hB); have B2 := Aside0.mk (HB.out.trans (hB.mono HB.out.size)); have hce2 := pw_cell_below (HB.out.trans (hB.mono HB.out.size)) HCE.out; clear hB)
          | (refine wpList_load_row rfl 46 _ rfl w.heap.size rfl 46 _ (0, 0) _ K2.out Tryd.underlying46 rfl size46 ?_)
          | (refine wpList_store_row rfl 46 _ _ rfl w.heap.size zero46 rfl rfl 46 zero46 K2.out size46 rfl (one46 0 0 0 0 0 0) ?_; rw [setRow_self _ _ zero46 _ _ K2.out]))
        refine bodyPost_ret (results_ct rfl _ _ w.heap.size 46 zero46 (0, 0) _ rfl K2.out Tryd.underlying46 rfl size46) rfl ?_
        exact ⟨.inr ⟨HP.out, rfl⟩, B2.out⟩
end Go.Proofs.YtiddiboclfpklaaDoor.Tz
namespace Go.Proofs.YtiddiboclfpklaaDoor.Tz
open Go.RowKit Go.Proofs.YtiddiboclfpklaaDoorW.PrintWords Go.Proofs.YtiddiboclfpklaaDoor.PScriptReads Go.Proofs.YtiddiboclfpklaaDoor.Tx
set_option linter.unusedVariables false
theorem gr_setRow (w : World) (g : Nat) (cs : Array Value) : w.grownBy (w.setRow g cs) (some g) :=
  ⟨rfl, rfl, rfl, by simp, fun k _ hk => setRow_other w g k cs (fun e => hk (by rw [e]))⟩
theorem R_setRow {α : Type} {d : Kd α} {e base : Nat} {ok : Nat → Prop} {w : World} {v : Value} {xs : List α} (h : d.R e w base ok v xs) {g t : Nat} {cells : Array Value} (hb : w.heap[g]? = some (.cells cells t (0, 0))) (ht : ∀ q, q ∈ e :: d.E → q ≠ t) (cs : Array Value) : d.R e (w.setRow g cs) base ok v xs :=
  Kd.R_mono (Kd.R_grown (Kd.R_types h hb ht) (gr_setRow w g cs) (fun k hk e => hk.2 (by injection e))) (fun _ hk => hk.1)
theorem M_setRow {α : Type} {d : Kd α} {base : Nat} {ok : Nat → Prop} {w : World} {x : α} {c : List Value} (h : d.M w base ok x c) {g t : Nat} {cells : Array Value} (hb : w.heap[g]? = some (.cells cells t (0, 0))) (ht : ∀ q, q ∈ d.E → q ≠ t) (cs : Array Value) : d.M (w.setRow g cs) base ok x c :=
  d.M_mono (fun _ hk => hk.1) (Kd.M_grown (Kd.M_types h hb ht) (gr_setRow w g cs) (fun k hk e => hk.2 (by injection e)))
theorem below_setRow {w W : World} {g : Nat} (h : Below w.heap.size w W) (hg : w.heap.size ≤ g) (cs : Array Value) : Below w.heap.size w (W.setRow g cs) :=
  h.grown (gr_setRow W g cs) h.size (fun k hk => by cases hk; exact hg)
theorem un55 : Tryd.prog.underlying 55 = some (.slice 116) := by kernel_rfl
theorem info116 : (Tryd.prog.info? 116).map (fun i => (i.zero, i.size, i.bytes)) = some (some (.int .u32 0), 1, 4) := by kernel_rfl
theorem size66 : (Tryd.prog.info? 66).map (·.size) = some 9 := by kernel_rfl
/-- An act's cells; the act that is none. -/
def cells66 (k n : Int) (d : ByteArray) (f : Int) (v4 : Value) (cut mount : Bool) (m : Int) (v8 : Value) : Array Value := #[.int .i64 k, .int .i64 n, .string d, .int .i64 f, v4, .bool cut, .bool mount, .int .i64 m, v8]
def zero66 : Array Value := cells66 0 0 ⟨#[]⟩ 0 (.slice none 0 0) false false 0 (.slice none 0 0)
theorem one66 (k n : Int) (d : ByteArray) (f : Int) (v4 : Value) (cut mount : Bool) (m : Int) (v8 : Value) (h4 : v4.oneCell' = true) (h8 : v8.oneCell' = true) : (cells66 k n d f v4 cut mount m v8).all (·.oneCell') = true := by
  simp [cells66, Value.oneCell']
  simp only [Value.oneCell'] at h4 h8
  exact ⟨h4, h8⟩
theorem one_slice (A : Option Addr) (n c : Nat) : (Value.slice A n c).oneCell' = true := rfl
theorem R_one {α : Type} {d : Kd α} {e base : Nat} {ok : Nat → Prop} {w : World} {v : Value} {xs : List α} (h : d.R e w base ok v xs) : v.oneCell' = true := by
  obtain ⟨A, c, rfl⟩ := Kd.R_slice h
  rfl
def inU (m : Int) : Bool := !decide (m < 0) && !decide (4294967295 < m)
def cutG : List Int → Bool
  | [] => false
  | _ :: ms => ms.all inU
def cutOk (l : List ByteArray) : Bool := l.all isNum && cutG (l.map numOf)
/-- What cut makes. -/
def CutPost (w : World) (l : List ByteArray) (e : Ending) (w' : World) : Prop :=
  ((cutOk l = true ∧ ∃ n ms v, l.map numOf = n :: ms ∧ e = .returned (.tuple #[.agg (cells66 0 0 ⟨#[]⟩ 0 (.slice none 0 0) true false n v), .bool true]) ∧ Kd.R (Kd.int .u32) 116 w' w.heap.size (fun _ => True) v ms) ∨ (cutOk l = false ∧ e = .returned (.tuple #[.agg zero66, .bool false]))) ∧ Below w.heap.size w w'
/-- Between two rounds. -/
structure CutSt (w w2 wr : World) (n : Int) (v : Value) (ms : List Int) : Prop where
  box : wr.heap[w2.heap.size]? = some (.cells (cells66 0 0 ⟨#[]⟩ 0 (.slice none 0 0) true false n v) 66 (0, 0))
  res : wr.heap[w.heap.size]? = some (.cells zero66 66 (0, 0))
  row : Kd.R (Kd.int .u32) 116 wr w2.heap.size (fun _ => True) v ms
  bel : Below w2.heap.size w2 wr
  lt : w.heap.size < w2.heap.size
theorem ty116 : ∀ q : Nat, q ∈ 116 :: (Kd.int .u32).E → q ≠ 66 := by
  intro q hq
  have h : q ∈ [116] := hq
  rw [List.mem_singleton.1 h]; decide
theorem CutSt.app {w w2 wr w4 : World} {n m : Int} {v v4 : Value} {ms : List Int} (S : CutSt w w2 wr n v ms) (ho : Kd.R (Kd.int .u32) 116 w4 w2.heap.size (fun _ => True) v4 (ms ++ [m])) (hb : Below w2.heap.size w2 w4) (hg : wr.grownBy w4 v.ownBlock) :
    CutSt w w2 (w4.setCell ⟨w2.heap.size, 8, none⟩ v4) n v4 (ms ++ [m]) := by
  have hbox := blk_grown S.box hg (Kd.R_ne S.row S.box (by decide))
  have hres := blk_grown S.res hg (Kd.R_ne S.row S.res (by decide))
  exact ⟨blk_put hbox 8 v4 rfl, blk_far hres (by have := S.lt; show w.heap.size ≠ w2.heap.size; omega) v4, Kd.R_set ho hbox ty116 8 v4, below_set hb (Nat.le_refl _), S.lt⟩
theorem CutSt.all {w w2 wr : World} {n : Int} {v : Value} {ms : List Int} (S : CutSt w w2 wr n v ms) (hB : Below w.heap.size w w2) : Below w.heap.size w wr := hB.trans (S.bel.mono hB.size)
set_option maxHeartbeats 4000000 in
set_option maxRecDepth 100000 in
theorem cut_calls (l : List ByteArray) (A : Option Addr) (c : Nat) (w : World) (hr : Kd.C Kd.string w A l.length l) (hx : ∀ y ∈ l, y.size ≤ 16777216) (hl : l.length ≤ 16777216) :
    Calls Tryd.prog 79 #[.slice A l.length c] w (CutPost w l) := by
  have HN : Aside0 (∀ W, Below w.heap.size w W → Calls Tryd.prog 78 #[.slice A l.length c] W (NumsPost W l)) := ⟨fun W hb => numbers_calls l A c W (Kd.C_below hr hb) hx hl⟩
  have HB := Aside0.mk (Below.alloc (Below.refl w.heap.size w) (Nat.le_refl _) (.cells #[.int .i64 0, .int .i64 0, .string ⟨#[]⟩, .int .i64 0, .slice none 0 0, .bool false, .bool false, .int .i64 0, .slice none 0 0] 66))
  have K0 := Aside0.mk (blk_new w (.cells zero66 66))
  have hzz : zero66.all (·.oneCell') = true := one66 _ _ _ _ _ _ _ _ _ rfl rfl
  have HZ := Aside0.mk hzz
  clear hzz hr hx
  cases hall : l.all isNum with
  | false =>
    have HP : Aside0 (cutOk l = false) := ⟨by unfold cutOk; rw [hall, Bool.false_and]⟩
    have HN2 : Aside0 (∀ W, Below w.heap.size w W → Calls Tryd.prog 78 #[.slice A l.length c] W fun e w' => e = .returned (.tuple #[.slice none 0 0, .bool false]) ∧ Below W.heap.size W w') := ⟨fun W hb => (HN.out W hb).mono (by
      rintro e w' ⟨⟨h1, _⟩ | ⟨_, h2⟩, hB⟩
      · rw [hall] at h1; cases h1
      · exact ⟨h2, hB⟩)⟩
    clear HN hall
    go_enter Tryd.func79, Tryd.ntmps79
    go_wp2_with (first
      | (go_at_call 78; refine (HN2.out _ HB.out).mono ?_; rintro e w2 ⟨rfl, hB⟩; have K2 := Aside0.mk (blk_below K0.out hB); have B2 := Aside0.mk (HB.out.trans (hB.mono HB.out.size)); clear hB)
      | (refine wpList_store_row rfl 66 _ _ rfl w.heap.size zero66 rfl rfl 66 zero66 K2.out size66 rfl HZ.out ?_; rw [setRow_self _ _ zero66 _ _ K2.out]))
    refine bodyPost_ret (results_ct rfl _ _ w.heap.size 66 zero66 (0, 0) _ rfl K2.out Tryd.underlying66 rfl size66) rfl ?_
    exact ⟨.inr ⟨HP.out, rfl⟩, B2.out⟩
  | true =>
    have hcok : cutOk l = cutG (l.map numOf) := by unfold cutOk; rw [hall, Bool.true_and]
    have HN2 : Aside0 (∀ W, Below w.heap.size w W → Calls Tryd.prog 78 #[.slice A l.length c] W fun e w' => (∃ A3 c3, e = .returned (.tuple #[.slice A3 l.length c3, .bool true]) ∧ l.length ≤ c3 ∧ Kd.C (Kd.int .i64) w' A3 l.length (l.map numOf)) ∧ Below W.heap.size W w') := ⟨fun W hb => (HN.out W hb).mono (by
      rintro e w' ⟨⟨_, v, rfl, hv⟩ | ⟨h1, _⟩, hB⟩
      · obtain ⟨A3, c3, rfl, h2, h3⟩ := Kd.R_reads hv
        rw [List.length_map] at h2 h3 ⊢
        exact ⟨⟨A3, c3, rfl, h2, h3⟩, hB⟩
      · rw [hall] at h1; cases h1)⟩
    clear HN hall
    obtain ⟨ns, hns⟩ : ∃ ns, l.map numOf = ns := ⟨_, rfl⟩
    have hnl : l.length = ns.length := by rw [← hns, List.length_map]
    rw [hns, hnl] at HN2
    rw [hns] at hcok
    rw [hnl] at hl ⊢
    have HNS := Aside0.mk hns
    clear hns hnl
    cases ns with
    | nil =>
      have HP : Aside0 (cutOk l = false) := ⟨hcok⟩
      clear hcok
      go_enter Tryd.func79, Tryd.ntmps79
      go_wp2_with (first
        | (go_at_call 78; refine (HN2.out _ HB.out).mono ?_; rintro e w2 ⟨⟨A3, c3, rfl, _, _⟩, hB⟩; have K2 := Aside0.mk (blk_below K0.out hB); have B2 := Aside0.mk (HB.out.trans (hB.mono HB.out.size)); clear hB)
        | (refine wpList_store_row rfl 66 _ _ rfl w.heap.size zero66 rfl rfl 66 zero66 K2.out size66 rfl HZ.out ?_; rw [setRow_self _ _ zero66 _ _ K2.out]))
      refine bodyPost_ret (results_ct rfl _ _ w.heap.size 66 zero66 (0, 0) _ rfl K2.out Tryd.underlying66 rfl size66) rfl ?_
      exact ⟨.inr ⟨HP.out, rfl⟩, B2.out⟩
    | cons n ms =>
      replace hcok : cutOk l = ms.all inU := hcok
      have HCO := Aside0.mk hcok
      clear hcok
      obtain ⟨N, hN⟩ : ∃ N, ms.length = N := ⟨_, rfl⟩
      have HLN := Aside0.mk hN
      rw [List.length_cons, hN] at hl HN2
      rw [List.length_cons, hN]
      clear hN
      have hn1 : ((N + 1 : Nat) : Int) ≠ 0 := by omega
      have hn2 : (((N + 1 : Nat) : Int) == 0) = false := beq_eq_false_iff_ne.2 (by omega)
      go_enter Tryd.func79, Tryd.ntmps79
      go_wp2_with (first
        | (go_at_call 78; refine (HN2.out _ HB.out).mono ?_; rintro e w2 ⟨⟨A3, c3, rfl, h3, hC3⟩, hB⟩; obtain ⟨A4, hcn, hC4, _⟩ := cut138 A3 c3 (n :: ms) 1 (by simp) (by rw [List.length_cons, HLN.out]; exact h3); have H4 := Aside0.mk (show Kd.C (Kd.int .i64) w2 A4 N ms by (have h := hC4 w2 (by rw [List.length_cons, HLN.out]; exact hC3); rw [← HLN.out]; exact h)); replace hcn : ∀ W : World, (Instr.slice 138 (.slice A3 (N + 1) c3) (some (.int .i64 1)) none none).run Tryd.prog W = .ok (.slice A4 N (c3 - 1)) W := (by rw [← HLN.out]; exact hcn); have K2 := Aside0.mk (blk_below K0.out hB); have B2 := Aside0.mk (HB.out.trans (hB.mono HB.out.size)); clear hB hC4 h3; obtain ⟨a3, hA3, n0⟩ := Kd.at_int hC3 0 (by omega) (by omega); subst hA3; clear hC3; have m0 : w2.cell? a3 = some (.int .i64 n) := (by (have h := n0; rw [show (0 : Int).toNat = 0 from rfl, Addr.add_zero'] at h; exact h)); clear n0))
      have S0 : Aside0 (CutSt w w2 (w2.alloc (.cells (cells66 0 0 ⟨#[]⟩ 0 (.slice none 0 0) true false n (.slice none 0 0)) 66)) n (.slice none 0 0) (ms.take 0) ∧ (ms.take 0).all inU = true) :=
        ⟨⟨blk_new w2 _, blk_alloc K2.out _, Kd.R_nil _ _ _ _ _, below_alloc (Below.refl _ _) _, blk_lt K2.out⟩, rfl⟩
      clear m0 hcn hn1 hn2
      go_loopw [29] (fun i wr => ∃ t : Nat, t ≤ N ∧ i = .int .i64 (t : Int) ∧ Aside0 (∃ v, CutSt w w2 wr n v (ms.take t) ∧ (ms.take t).all inU = true)) (fun i _ => N - (intOf i).toNat)
      case atStart => exact ⟨0, by omega, rfl, ⟨_, S0.out.1, S0.out.2⟩⟩
      case round =>
        clear S0 K2
        obtain ⟨t, ht, rfl, S⟩ := hrel
        obtain ⟨v, S⟩ := S.out
        replace S := Aside0.mk S
        obtain ⟨A5, c5, rfl⟩ := Kd.R_slice S.out.1.row
        by_cases hlt : t < N
        · have hb5 : (0 : Int) ≤ (t : Int) := by omega
          have hb6 : (t : Int) < (N : Int) := by omega
          obtain ⟨ad, rfl, hc0⟩ := Kd.at_int (Kd.C_below H4.out S.out.1.bel) (t : Int) hb5 hb6
          rw [Int.toNat_natCast] at hc0
          obtain ⟨x, hx⟩ : ∃ x, rd ms (t : Int) = x := ⟨_, rfl⟩
          rw [hx] at hc0
          have htl : t < ms.length := by rw [HLN.out]; exact hlt
          have hxe : ms[t] = x := by rw [← hx]; simp [rd, htl]
          have hno : inU x = false → ms.all inU = false := by
            intro h0
            rw [← Bool.not_eq_true, List.all_eq_true]
            intro h1
            have := h1 ms[t] (List.getElem_mem htl)
            rw [hxe, h0] at this
            cases this
          have htk : ms.take (t + 1) = ms.take t ++ [x] := by rw [List.take_succ_eq_append_getElem htl, hxe]
          have hta : (ms.take (t + 1)).all inU = inU x := by rw [htk, List.all_append, S.out.2, Bool.true_and]; simp
          obtain ⟨dn, hdn⟩ : ∃ dn, ms.take t = dn := ⟨_, rfl⟩
          have hdl : dn.length ≤ 16777216 := by rw [← hdn, List.length_take]; omega
          rw [hdn] at S htk
          have HT := Aside0.mk (And.intro htk (And.intro hta (And.intro hno hdl)))
          clear hx hxe htl htk hta hno hdn hdl
          by_cases h1 : x < 0
          · have e1 : decide (x < 0) = true := decide_eq_true h1
            have HP : Aside0 (cutOk l = false) := ⟨by rw [HCO.out]; exact HT.out.2.2.1 (by unfold inU; rw [e1]; rfl)⟩
            clear h1
            go_wp2_with (refine wpList_store_row rfl 66 _ _ rfl w.heap.size zero66 rfl rfl 66 zero66 S.out.1.res size66 rfl HZ.out ?_; rw [setRow_self _ _ zero66 _ _ S.out.1.res])
            refine bodyPost_ret (results_ct rfl _ _ w.heap.size 66 zero66 (0, 0) _ rfl S.out.1.res Tryd.underlying66 rfl size66) rfl ?_
            exact ⟨.inr ⟨HP.out, rfl⟩, S.out.1.all B2.out⟩
          · have e1 : decide (x < 0) = false := decide_eq_false h1
            by_cases h2 : 4294967295 < x
            · have e2 : decide (4294967295 < x) = true := decide_eq_true h2
              have HP : Aside0 (cutOk l = false) := ⟨by rw [HCO.out]; exact HT.out.2.2.1 (by unfold inU; rw [e2, Bool.and_comm]; rfl)⟩
              clear h1 h2
              go_wp2_with (refine wpList_store_row rfl 66 _ _ rfl w.heap.size zero66 rfl rfl 66 zero66 S.out.1.res size66 rfl HZ.out ?_; rw [setRow_self _ _ zero66 _ _ S.out.1.res])
              refine bodyPost_ret (results_ct rfl _ _ w.heap.size 66 zero66 (0, 0) _ rfl S.out.1.res Tryd.underlying66 rfl size66) rfl ?_
              exact ⟨.inr ⟨HP.out, rfl⟩, S.out.1.all B2.out⟩
            · have e2 : decide (4294967295 < x) = false := decide_eq_false h2
              have HU : Aside0 (inU x = true) := ⟨by unfold inU; rw [e1, e2]; rfl⟩
              have hwu : IntKind.u32.wrap x = x := by
                simp only [IntKind.wrap, IntKind.bits, IntKind.signed]
                simp
                omega
              clear h1 h2
              have z8 : wr.cell? ⟨w2.heap.size, 8, none⟩ = some (.slice A5 dn.length c5) := (blk_cell S.out.1.box 8).trans rfl
              go_wp2_with ((with_reducible refine gate_builtin (b := .append) (xs := #[.tmp 41, .tmp 44]) rfl ?_); at_builtin; refine Kd.R_append (Kd.int .u32) (w0 := w2) w2.heap.size rfl (.tmp 41) (.tmp 44) 55 116 (.int .u32 0) 4 rfl un55 info116 rfl (by decide) (by decide) (.slice A5 dn.length c5) dn x [.int .u32 x] (fun _ => True) (fun _ => False) rfl rfl rfl (fun _ h => h.elim) (fun _ _ => trivial) S.out.1.row S.out.1.bel S.out.1.bel.size (by have := HT.out.2.2.2; omega) ?_; intro v4 w4 ho hb hg hat; obtain ⟨A6, c6, rfl⟩ := Kd.R_slice ho; have S4 := Aside0.mk (S.out.1.app ho hb hg); have y8 : w4.cell? ⟨w2.heap.size, 8, none⟩ = some (.slice A5 dn.length c5) := (blk_cell (blk_grown S.out.1.box hg (Kd.R_ne S.out.1.row S.out.1.box (by decide))) 8).trans rfl; have f8 := blk_frozen (blk_grown S.out.1.box hg (Kd.R_ne S.out.1.row S.out.1.box (by decide))) 8; clear ho hb hat hg)
              refine ⟨?_, ?measure⟩
              repeat apply Exists.intro
              refine ⟨?rel, rfl⟩
              case rel => exact ⟨t + 1, by omega, by go_num, ⟨⟨_, by rw [HT.out.1]; have h := S4.out; rw [List.length_append, List.length_singleton] at h; exact h, by rw [HT.out.2.1]; exact HU.out⟩⟩⟩
              case measure => simp [intOf]; omega
        · obtain rfl : t = N := by omega
          have hfull : ms.take t = ms := List.take_of_length_le (by rw [HLN.out]; exact Nat.le_refl _)
          rw [hfull] at S
          have HP : Aside0 (cutOk l = true) := ⟨by rw [HCO.out]; exact S.out.2⟩
          have hone := R_one S.out.1.row
          have H9 := Aside0.mk (one66 0 0 ⟨#[]⟩ 0 (.slice none 0 0) true false n _ rfl hone)
          have hres := setRow_heap wr w.heap.size zero66 (cells66 0 0 ⟨#[]⟩ 0 (.slice none 0 0) true false n (.slice A5 ms.length c5)) 66 (0, 0) S.out.1.res
          have HR := Aside0.mk hres
          clear hone hres
          go_wp2_with (first
            | (refine wpList_load_row rfl 66 _ rfl w2.heap.size rfl 66 _ (0, 0) _ S.out.1.box Tryd.underlying66 rfl size66 ?_)
            | (refine wpList_store_row rfl 66 _ _ rfl w.heap.size _ rfl rfl 66 zero66 S.out.1.res size66 rfl H9.out ?_))
          refine bodyPost_ret (results_ct rfl _ _ w.heap.size 66 _ (0, 0) _ rfl HR.out Tryd.underlying66 rfl size66) rfl ?_
          exact ⟨.inl ⟨HP.out, n, ms, _, HNS.out, rfl, Kd.R_lower (R_setRow S.out.1.row S.out.1.res ty116 _) B2.out.size⟩, below_setRow (S.out.1.all B2.out) (Nat.le_refl _) _⟩
end Go.Proofs.YtiddiboclfpklaaDoor.Tz
namespace Go.Proofs.YtiddiboclfpklaaDoor.Tz
open Go.RowKit Go.Maps Go.WideShapes Go.ChangeShapes Go.WideMaps Go.Proofs.YtiddiboclfpklaaDoorW.PrintWords Go.Proofs.YtiddiboclfpklaaDoor.PScriptReads Go.Proofs.YtiddiboclfpklaaDoor.Tx
set_option linter.unusedVariables false
theorem un9s : Tryd.prog.underlying 9 = some .string := by kernel_rfl
theorem un141 : Tryd.prog.underlying 141 = some (.map 9 3) := by kernel_rfl
theorem un3i : Tryd.prog.underlying 3 = some (.int .i64) := by kernel_rfl
theorem law9 : Keyed Tryd.prog 9 := string_keyed un9s
/-- The operations' numbers by their words, of the first t ones. -/
def kindsD : Nat → DataW Unit
  | 0 => .map []
  | t + 1 => (kindsD t).put (.string (wordF ((t : Int) + 1)).data.toList) (.lit (.int .i64 ((t : Int) + 1)))
theorem words_all : ∀ t : Fin 13, (wordF ((t.val : Int) + 1)).size ≤ 9 ∧ ¬ (wordF ((t.val : Int) + 1)).size = 0 := by decide
theorem word_end : wordF 14 = ⟨#[]⟩ := rfl
set_option maxHeartbeats 4000000 in
set_option maxRecDepth 100000 in
theorem kinds_calls (w : World) :
    Calls Tryd.prog 80 #[] w fun e w' => e = .returned (.map (some w.heap.size)) ∧ w'.ownsMap Tryd.prog 9 (plainElem Tryd.prog 3) w.heap.size 13 (kindsD 13) ∧ Below w.heap.size w w' := by
  have hmm := @run_makeMap Tryd.prog
  have S0 : Aside0 ((w.alloc (.map #[] 0)).ownsMap Tryd.prog 9 (plainElem Tryd.prog 3) w.heap.size 0 (kindsD 0) ∧ Below w.heap.size w (w.alloc (.map #[] 0))) := ⟨⟨World.ownsMap_made _ _ _ _, (Below.refl _ _).alloc (Nat.le_refl _) _⟩⟩
  go_enter Tryd.func80, Tryd.ntmps80
  go_wp2_with fail
  clear hmm
  go_loopw [2] (fun i wr => ∃ t : Nat, t ≤ 13 ∧ i = .int .i64 ((t : Int) + 1) ∧ Aside0 (wr.ownsMap Tryd.prog 9 (plainElem Tryd.prog 3) w.heap.size t (kindsD t) ∧ Below w.heap.size w wr)) (fun i _ => 14 - (intOf i).toNat)
  case atStart => exact ⟨0, by omega, rfl, S0⟩
  case round =>
    clear S0
    obtain ⟨t, ht, rfl, S⟩ := hrel
    by_cases hlt : t < 13
    · have hw := words_all ⟨t, hlt⟩
      obtain ⟨wd, hwd⟩ : ∃ wd, wordF ((t : Int) + 1) = wd := ⟨_, rfl⟩
      have hD : kindsD (t + 1) = (kindsD t).put (.string wd.data.toList) (.lit (.int .i64 ((t : Int) + 1))) := by rw [← hwd]; rfl
      have HW : Aside0 (∀ W, Calls Tryd.prog 57 #[.int .i64 ((t : Int) + 1)] W fun e w' => e = .returned (.string wd) ∧ Drawn0 W w') := ⟨fun W => by rw [← hwd]; exact word_calls _ W⟩
      simp only [hwd] at hw
      have hne := nonempty_false hw.2
      have hlen := hw.1
      have HD := Aside0.mk hD
      have hkey : keyOf Tryd.prog 9 (.string wd) = some (.string wd.data.toList) := keyOf_string_mk un9s (by unfold maxLen; omega)
      have HK := Aside0.mk hkey
      clear hw hwd hD hkey
      go_wp2_with (first
        | (go_at_call 57; refine (HW.out _).mono ?_; rintro e w2 ⟨rfl, ⟨⟨nq, rfl⟩⟩⟩)
        | (at_mapUpdate; refine wpList_mapUpdate_own _ rfl _ _ _ 141 rfl 9 3 law9 un141 _ w.heap.size t _ rfl (show World.ownsMap _ Tryd.prog 9 (plainElem Tryd.prog 3) w.heap.size t (kindsD t) from S.out.1) (by unfold maxLen; omega) _ _ _ rfl rfl HK.out _ [] (plainElem_int un3i (WalkArith.wf_i64 (by omega))) ?_; intro w1 hown1 hgrow1))
      refine ⟨⟨t + 1, by omega, by go_num, ⟨by rw [HD.out]; exact hown1, ?b⟩⟩, ?_⟩
      case b => exact (pw_below_drewN S.out.2 _).grown hgrow1 (by have := S.out.2.size; simpa using this) (fun j hj => by cases hj; exact Nat.le_refl _)
      simp only [intOf]; omega
    · obtain rfl : t = 13 := by omega
      have HW : Aside0 (∀ W, Calls Tryd.prog 57 #[.int .i64 14] W fun e w' => e = .returned (.string ⟨#[]⟩) ∧ Drawn0 W w') := ⟨fun W => by rw [← word_end]; exact word_calls _ W⟩
      go_wp2_with (go_at_call 57; refine (HW.out _).mono ?_; rintro e w2 ⟨rfl, ⟨⟨nq, rfl⟩⟩⟩)
      go_ret
      exact ⟨rfl, S.out.1, pw_below_drewN S.out.2 _⟩
end Go.Proofs.YtiddiboclfpklaaDoor.Tz
