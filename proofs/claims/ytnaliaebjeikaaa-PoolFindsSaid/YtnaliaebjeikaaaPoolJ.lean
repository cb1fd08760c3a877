/- The walks of slices.AppendSeq, slices.Collect and pool.Rest. -/
import Derived.Test.YtnaliaebjeikaaaPoolE
namespace Go.Proofs.Ytnaliaebjeikaaa
open Go.RowKit Go.Shelf Go.Maps Go.Proofs.YtnaliaebjeikaaaW.PrintWords

attribute [local go_sem] Oper.semAt_some

set_option maxRecDepth 100000 in
set_option maxHeartbeats 2000000 in
/-- No pages: no round. -/
theorem iter0_stops (n W0 : Nat) (S : Nat → Prop) (w : World) (v1 v2 : Value) (hBp : w.cell? ⟨W0 + 1, 0, none⟩ = some (.int .i64 0)) (hS1 : S (W0 + 1)) (hSw : ∀ i, S i → i < w.heap.size) :
    SeqStopsK Fence.wide n Try.prog 36 #[.pointer (some ⟨W0 + 1, 0, none⟩), v1, v2] (fun x : Int => #[Value.int .i64 x]) (Kept S)
      (fun ys => ys = []) (fun _ => True) 128 w := fun l J Jx W hW hJ _ hY h0 => by
  have hk : Kept S w W := Kept.of_below hW hSw
  have hc := hk.cell hS1 hBp
  clear hBp hY hJ
  refine callsIn_of_wp Try.func36 rfl trivial ?_ rfl
  simp only [Try.ntmps36, List.size_toArray, List.length_cons, List.length_nil, Nat.reduceAdd, Nat.reduceSub, Array.replicate_succ, Array.replicate_zero, List.push_toArray, List.append_toArray, List.nil_append, List.cons_append]
  gi_wp2
  gi_loopw [10] (fun i wr => i = .int .i64 0 ∧ Aside0 (J [] wr)) (fun _ _ => 0)
  case atStart => exact ⟨rfl, ⟨h0⟩⟩
  case round =>
    obtain ⟨rfl, hJs⟩ := hrel
    gi_wp2
    go_end0
    exact ⟨⟨_, rfl⟩, .inl ⟨_, rfl, hJs.out⟩⟩

set_option maxRecDepth 100000 in
set_option maxHeartbeats 4000000 in
theorem appendSeq_in (L : List Int) (lb : Array Value) (S : Nat → Prop) (Sp : List Int → Prop) (w : World) (hSw : ∀ i, S i → i < w.heap.size)
    (hseq : SeqStopsK Fence.wide 4 Try.prog 36 lb (fun x : Int => #[Value.int .i64 x]) (Kept S) (fun ys => ys = L) Sp 128 w) :
    CallsIn Fence.wide 5 Try.prog 37 #[.slice none 0 0, .func (.func 36) #[] lb] w fun e w' => ∃ v, e = .returned v ∧ Kd.R (Kd.int .i64) 3 w' w.heap.size (fun _ => True) v L ∧ Below w.heap.size w w' := by
  obtain ⟨i0, hi, hz0, hz1, hz2⟩ := info_parts info3
  refine callsIn_of_wp_marks Try.func37 rfl trivial ?_ rfl
  simp only [Try.ntmps37, List.size_toArray, List.length_cons, List.length_nil, Nat.reduceAdd, Nat.reduceSub, Array.replicate_succ, Array.replicate_zero, List.push_toArray, List.append_toArray, List.nil_append, List.cons_append]
  gi_wp2
  have bL := Boxed.new w 22 (.slice none 0 0)
  have HB0 : Below w.heap.size w (w.alloc (.cells #[.slice none 0 0] 22)) := (Below.refl _ _).alloc (Nat.le_refl _) _
  have hLs : (w.alloc (.cells #[.slice none 0 0] 22)).heap.size = w.heap.size + 1 := by simp
  generalize w.alloc (.cells #[.slice none 0 0] 22) = wL at *
  refine' wpIn_rangeFunc_ownG (w := wL) rfl (by decide) (gf := 36) (lb := lb) rfl trivial (enters_of Try.func36 (by kernel_rfl) rfl) hseq
    (fun h k => h.trans k) (fun W l o o' hl hh _ _ => ⟨(grownBy_putObj' W l o').size, fun i hi hlt => (grownBy_putObj' W l o').block i hlt (fun e => by cases e; have := hSw _ hi; omega)⟩) HB0 (fun _ => rfl)
    (fun pre W => (∃ v, Boxed W w.heap.size 22 v ∧ W.ownsRow (w.heap.size + 1) 3 1 v pre.length (pre.map (Value.int .i64)) ∧ True) ∧ Below w.heap.size wL W)
    (fun _ _ _ => False)
    ?hI ?hIx ?h0 _ ?assign ?body ?done ?stop
  case assign =>
    intro l x W K hK
    gi_wp2
    exact hK
  case hI =>
    exact OwnFrom.and (Own.from (holdsRow_own _ _ _ _ _ (fun pre : List Int => pre.length) (fun pre => pre.map (Value.int .i64)) (fun _ _ => True)) _) (ownFrom_below (by omega) (by omega))
  case hIx => exact fun _ _ _ _ _ hs _ _ => hs.elim
  case h0 => exact ⟨⟨_, bL, World.ownsRow_nil _ _ _ _, trivial⟩, Below.refl _ _⟩
  case body =>
    rintro l pre x W ⟨⟨v, hv, hrow, _⟩, hB⟩ hlt
    have hc := hv.cell
    obtain ⟨A, cap, rfl⟩ := own_slice hrow
    have HV := Aside0.mk hv
    have HR := Aside0.mk hrow
    have HB := Aside0.mk hB
    have r1 := hB.size
    clear hv hrow hB
    gi_wp2_with (gi_at_builtin; refine wpListIn_append_own _ rfl _ _ 22 rfl (w.heap.size + 1) 3 i0 (.int .i64 0) 1 8 Try.underlying22 hi hz0 hz1 hz2 rfl (by decide) _ _ _ rfl (HR.out.alloc _) ⟨W.heap.size, 0, none⟩ 1 1 [.int .i64 x] rfl rfl (cell_one_new _ _ _) (by simp [Value.oneCell']) (by unfold maxLen; omega) (by omega) (by simp; omega) ?_; intro v' w3 hown' hgrow _; obtain ⟨g', cap', rfl⟩ := ownsRow_succ hown'; have HO3 := Aside0.mk hown'; have HG3 := Aside0.mk hgrow; clear hown' hgrow; have HV1 := Aside0.mk ((HV.out.alloc _).kept HG3.out (HV.out.not_row (by decide) HR.out)); have hc1 := HV1.out.cell; have hf1 := HV1.out.frozen)
    have ho := own_weaken HR.out (show w.heap.size ≤ w.heap.size + 1 by omega)
    have ho3 := own_weaken HO3.out (show w.heap.size ≤ w.heap.size + 1 by omega)
    obtain ⟨_, hv2, hr2, hk2, hb2⟩ := HV.out.appended (by decide) ho (by omega) (Nat.le_refl _) ho3 HG3.out
    have hr3 := HO3.out.kept (grownBy_setCell' w3 w.heap.size (.slice (some ⟨g', 0, none⟩) (pre.length + 1) cap')) (.inr (HV1.out.not_row (by decide) HO3.out).symm)
    have hkept : Kept S W (w3.setCell ⟨w.heap.size, 0, none⟩ (.slice (some ⟨g', 0, none⟩) (pre.length + 1) cap')) := by
      refine ⟨hb2.size, fun i hi hlt => ?_⟩
      have i1 := hSw i hi
      rw [Below.heap_setCell _ _ _ _ (by simp; omega), HG3.out.block i (by simp; omega) (fun e => ?_), Below.heap_alloc _ _ _ hlt]
      have := own_base HR.out i e.symm
      omega
    refine ⟨hk2.from _, hkept, ⟨_, hv2, by rw [List.length_append, List.map_append]; exact hr3, trivial⟩, HB.out.trans hb2⟩
  case done =>
    rintro D ys W hD rfl ⟨⟨v, hv, hrow, _⟩, hB⟩ hK
    have hc := hv.cell
    obtain ⟨A, cap, rfl⟩ := own_slice hrow
    have HV := Aside0.mk hv
    have HR := Aside0.mk hrow
    have HB := Aside0.mk hB
    clear hv hrow hB
    gi_wp2
    refine ⟨by simp, .inl ⟨_, _, rfl, run_takeDeferred hK, ?_⟩⟩
    refine ⟨_, results_tmp rfl _ _ _, ?_⟩
    refine ⟨_, rfl, ?_, ?_⟩
    · refine Kd.R_of_own (enc := Value.int .i64) (h1 := fun _ => rfl) ?_ (fun _ _ => trivial)
      exact ownsRow_putObj (own_weaken HR.out (by omega)) _ hK rfl
    · exact HB0.trans (HB.out.trans (belowK_b (w := w) (Nat.le_refl _) W D _ _ (by omega) hK rfl rfl))
  case stop =>
    rintro D c pre W _ _ h _
    exact h.elim
#print axioms appendSeq_in

set_option maxHeartbeats 1000000 in
theorem collect_in (L : List Int) (lb : Array Value) (S : Nat → Prop) (Sp : List Int → Prop) (w : World) (hSw : ∀ i, S i → i < w.heap.size)
    (hseq : SeqStopsK Fence.wide 4 Try.prog 36 lb (fun x : Int => #[Value.int .i64 x]) (Kept S) (fun ys => ys = L) Sp 128 w) :
    Calls Try.prog 35 #[.func (.func 36) #[] lb] w fun e w' => ∃ v, e = .returned v ∧ Kd.R (Kd.int .i64) 3 w' w.heap.size (fun _ => True) v L ∧ Below w.heap.size w w' := by
  have F := Aside0.mk (callsIn_wide.1 (appendSeq_in L lb S Sp w hSw hseq))
  clear hseq
  go_enter Try.func35, Try.ntmps35
  go_wp2_with fail
  refine F.out.mono ?_
  rintro e w' ⟨v, rfl, hR, hB⟩
  have HR := Aside0.mk hR
  have HB := Aside0.mk hB
  clear hR hB
  go_wp2
  go_ret
  exact ⟨v, rfl, HR.out, HB.out⟩
end Go.Proofs.Ytnaliaebjeikaaa
