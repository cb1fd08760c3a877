/- The walk of pool.Find where there are enough pages. -/
import Derived.Test.YtnaliaebjeikaaaPoolC
namespace Go.Proofs.Ytnaliaebjeikaaa
open Go.RowKit Go.Shelf Go.Maps Go.Proofs.YtnaliaebjeikaaaW.PrintWords

attribute [local go_sem] Oper.semAt_some

theorem turn_rot (p : Nat) (f : Nat) (hf : f < p) : (List.range p).map (turnAt p f) = ((List.range p).drop f ++ (List.range p).take f).map fun i : Nat => (i : Int) := by
  apply List.ext_getElem
  · simp; omega
  · intro i h1 h2
    simp only [List.getElem_map, List.getElem_range, turnAt]
    have hi : i < p := by simpa using h1
    by_cases h : i < p - f
    · rw [List.getElem_append_left (by simpa using h)]
      simp only [List.getElem_drop, List.getElem_range]
      rw [Int.emod_eq_of_lt (by omega) (by omega)]
      omega
    · rw [List.getElem_append_right (by simp; omega)]
      simp only [List.getElem_take, List.getElem_range, List.length_drop, List.length_range]
      have e : ((f : Int) + (i : Int)) = ((f + i - p : Nat) : Int) + (p : Int) := by omega
      rw [e, Int.add_emod_right, Int.emod_eq_of_lt (by omega) (by omega)]
      omega

theorem come_len_all (p : Int) (f : Int) (l : List Int) (h1 : 1 ≤ p) (h2 : p ≤ 128) (h3 : 0 ≤ f) (h4 : f < p) : ((come p f l p.toNat).length : Int) = freeN p l := by
  obtain ⟨P, rfl⟩ : ∃ P : Nat, p = (P : Int) := ⟨p.toNat, by omega⟩
  obtain ⟨F, rfl⟩ : ∃ F : Nat, f = (F : Int) := ⟨f.toNat, by omega⟩
  rw [freeN, if_pos ⟨by omega, h2⟩, Int.toNat_natCast, come, turn_rot P F (by omega)]
  congr 1
  rw [List.filter_map, List.length_map, List.filter_append, List.length_append, Nat.add_comm, ← List.length_append, ← List.filter_append, List.take_append_drop]
  rw [← frees_inn]
  rfl


theorem info3 : (Try.prog.info? 3).map (fun i => (i.zero, i.size, i.bytes)) = some (some (.int .i64 0), 1, 8) := by kernel_rfl

set_option maxHeartbeats 4000000 in
set_option maxRecDepth 100000 in
theorem find_ok (p f n : Int) (A1 : Option Addr) (c1 : Nat) (l1 : List Int) (w : World) (hr1 : Kd.C (Kd.int .i64) w A1 l1.length l1) (hl : l1.length ≤ 300) (hwf : ∀ n ∈ l1, (Lit.int .i64 n).wf = true)
    (h : ¬ badAsk p f n) (hn : n ≤ freeN p l1) :
    Calls Try.prog 9 #[.int .i64 p, .slice A1 l1.length c1, .int .i64 f, .int .i64 n] w (FindPost w ((come p f l1 p.toNat).take n.toNat) 0) := by
  have HR1 := Aside0.mk hr1
  clear hr1
  have HW := Aside0.mk hwf
  clear hwf
  unfold badAsk at h
  have h1 : 1 ≤ p := by omega
  have h2 : p ≤ 128 := by omega
  have h3 : 0 ≤ f := by omega
  have h4 : f < p := by omega
  have h5 : 0 ≤ n := by omega
  clear h
  have hf : decide (0 ≤ p ∧ p ≤ 128) = true := decide_eq_true (by omega)
  obtain ⟨i0, hi, hz0, hz1, hz2⟩ := info_parts info3
  refine (callsIn_wide (n := 5)).1 ?_
  refine callsIn_of_wp_marks Try.func9 rfl trivial ?_ rfl
  simp only [Try.ntmps9, List.size_toArray, List.length_cons, List.length_nil, Nat.reduceAdd, Nat.reduceSub, Array.replicate_succ, Array.replicate_zero, List.push_toArray, List.append_toArray, List.nil_append, List.cons_append]
  refine wpIn_wide.2 ?_
  go_wp2_with (go_at_call 31; refine (fine_calls _ _).mono ?_; rintro e w' ⟨rfl, rfl⟩)
  go_region_held3 (fun w' => w'.cell? ⟨w.heap.size, 0, none⟩ = some (.int .i64 n))
    (first | go_keep | exact hcx)
    ((go_at_call 10; refine (free_calls p _ _ l1 _ (by repeat (first | exact HR1.out | (with_reducible refine Kd.C_alloc ?_ _) | (with_reducible refine Kd.C_drewN ?_ _) | (with_reducible refine Kd.C_drew ?_))) hl HW.out).mono ?_; rintro e w1 ⟨rfl, hB1⟩; have hcx : w1.cell? ⟨w.heap.size, 0, none⟩ = some (.int .i64 n) := (hB1.cell (p := ⟨w.heap.size, 0, none⟩) (by simp)).trans (by simp)))
  have HB1 := Aside0.mk (show Below w.heap.size w w1 from (((Below.refl _ _).alloc (Nat.le_refl _) _).drew).trans (hB1.mono (by simp)))
  have HS1 := Aside0.mk (show w.heap.size < w1.heap.size from by have := hB1.size; simp at this; omega)
  have HC1 := Aside0.mk hcx
  clear hB1 hcx
  go_wp2_with (first
    | (go_at_call 32; refine (of_calls p _ _ l1 _ (by repeat (first | exact Kd.C_below HR1.out HB1.out | (with_reducible refine Kd.C_alloc ?_ _))) hl HW.out).mono ?_; rintro e w2 ⟨rfl, hown, hB2⟩; have HO2 := Aside0.mk hown; have HB2 := Aside0.mk hB2; clear hown hB2)
    | (go_at_call 33; refine (callsIn_wide.1 (round_calls _ p f _)).mono ?_; rintro e w' ⟨rfl, rfl⟩))
  have z1 : w1.heap.size + 1 ≤ w2.heap.size := by have := HB2.out.size; simp at this; omega
  have bO : Boxed w2 w1.heap.size 22 (.slice none 0 0) := (HB2.out.block _ (by simp)).trans (Boxed.new w1 22 (.slice none 0 0))
  have hwant : w2.cell? ⟨w.heap.size, 0, none⟩ = some (.int .i64 n) := (HB2.out.cell (p := ⟨w.heap.size, 0, none⟩) (by have := HS1.out; simp; omega)).trans ((Below.refl _ w1).alloc (Nat.le_refl _) _ |>.cell (p := ⟨w.heap.size, 0, none⟩) HS1.out |>.trans HC1.out)
  have hown2 : w2.ownsMap Try.prog 3 unitElem (w1.heap.size + 1) l1.length (setD Unit (inn p l1)) := by have := HO2.out; simpa using this
  have z2 : w1.heap.size + 1 < w2.heap.size := by
    obtain ⟨_, _, hh, _⟩ := hown2
    exact (Array.getElem?_eq_some_iff.1 hh).1
  have hB2 : Below w.heap.size w w2 := (HB1.out.alloc (Nat.le_of_lt HS1.out) _).trans (HB2.out.mono (by have := HS1.out; simp; omega))
  obtain ⟨wL, hwL⟩ : ∃ wL, ((w2.alloc (.cells #[.map (some (w1.heap.size + 1))] 61)).alloc (.cells #[.int .i64 p] 3)).alloc (.cells #[.int .i64 f] 3) = wL := ⟨_, rfl⟩
  have hLb : Below w2.heap.size w2 wL := by rw [← hwL]; exact (((Below.refl _ w2).alloc (Nat.le_refl _) _).alloc (by simp) _).alloc (by simp; omega) _
  have hLs : wL.heap.size = w2.heap.size + 3 := by rw [← hwL]; simp
  have hL0 : wL.cell? ⟨w2.heap.size, 0, none⟩ = some (.map (some (w1.heap.size + 1))) := by rw [← hwL]; exact (((Boxed.new w2 61 _).alloc _).alloc _).cell
  have hL1 : wL.cell? ⟨w2.heap.size + 1, 0, none⟩ = some (.int .i64 p) := by
    have := ((Boxed.new (w2.alloc (.cells #[.map (some (w1.heap.size + 1))] 61)) 3 (.int .i64 p)).alloc (.cells #[.int .i64 f] 3)).cell
    rw [← hwL]; simpa only [World.size_alloc] using this
  have hL2 : wL.cell? ⟨w2.heap.size + 2, 0, none⟩ = some (.int .i64 f) := by
    have := (Boxed.new ((w2.alloc (.cells #[.map (some (w1.heap.size + 1))] 61)).alloc (.cells #[.int .i64 p] 3)) 3 (.int .i64 f)).cell
    rw [← hwL]; simpa only [World.size_alloc] using this
  rw [hwL]
  clear hwL
  have bL := (bO.kept (row := none) (grown_of_below hLb none) (by simp))
  have wantL : wL.cell? ⟨w.heap.size, 0, none⟩ = some (.int .i64 n) := (hLb.cell (p := ⟨w.heap.size, 0, none⟩) (by have := HS1.out; simp; omega)).trans hwant
  have ownL : wL.ownsMap Try.prog 3 unitElem (w1.heap.size + 1) l1.length (setD Unit (inn p l1)) := ownsMap_kept (S := fun i => i < w2.heap.size) hown2 (Kept.of_below hLb (fun _ h => h)) z2
  have BL : Below w.heap.size w wL := hB2.trans (hLb.mono (by have := HS1.out; omega))
  clear bO hwant hown2 hB2 hLb HO2 HB2 HC1 HB1
  refine (wpIn_wide (n := 5)).1 ?_
  refine' wpIn_rangeFunc_ownG (w := wL) rfl (by decide) (gf := 36) (lb := #[.pointer (some ⟨w2.heap.size + 1, 0, none⟩), .pointer (some ⟨w2.heap.size + 2, 0, none⟩), .pointer (some ⟨w2.heap.size, 0, none⟩)]) rfl trivial (enters_of Try.func36 (by kernel_rfl) rfl)
    (iter_stops 4 (by decide) (w1.heap.size + 1) l1.length (fun i => w1.heap.size < i ∧ i < w2.heap.size + 3) p f l1 h1 h2 h3 h4 (by simp; omega) w2.heap.size wL hL1 hL2 hL0 (by simp; omega) (by simp; omega) (by simp; omega) (fun i hi => by obtain ⟨_, h'⟩ := hi; omega) ownL)
    (fun h k => h.trans k) (fun W l o o' hl hh _ _ => ⟨(grownBy_putObj' W l o').size, fun i hi hlt => (grownBy_putObj' W l o').block i hlt (fun e => by cases e; obtain ⟨_, h'⟩ := hi; omega)⟩) (Below.refl _ _) (fun _ => rfl)
    (fun pre W => (∃ v, Boxed W w1.heap.size 22 v ∧ W.ownsRow (w2.heap.size + 3) 3 1 v pre.length (pre.map (Value.int .i64)) ∧ (pre.length : Int) ≤ n) ∧ W.cell? ⟨w.heap.size, 0, none⟩ = some (.int .i64 n) ∧ Below w.heap.size wL W)
    (fun c pre W => c = .exit 1 ∧ ∃ pre0 x, pre = pre0 ++ [x] ∧ (pre0.length : Int) = n ∧ (∃ v, Boxed W w1.heap.size 22 v ∧ W.ownsRow (w2.heap.size + 3) 3 1 v pre0.length (pre0.map (Value.int .i64)) ∧ (pre0.length : Int) ≤ n) ∧ W.cell? ⟨w.heap.size, 0, none⟩ = some (.int .i64 n) ∧ Below w.heap.size wL W)
    ?hI ?hIx ?h0 _ ?assign ?body ?done ?stop
  case assign =>
    intro l x W K hK
    gi_wp2
    exact hK
  case hI =>
    exact OwnFrom.and (Own.from (holdsRow_own _ _ _ _ _ (fun pre : List Int => pre.length) (fun pre => pre.map (Value.int .i64)) (fun pre _ => (pre.length : Int) ≤ n)) _)
      (OwnFrom.and (Own.from (fun s A B row hs hg hr => cell_kept hs hg hr) _) (ownFrom_below (by have := HS1.out; omega) (by have := HS1.out; omega)))
  case hIx =>
    rintro c s A B row ⟨rfl, pre0, x, rfl, hlen, hs⟩ hg hr
    refine ⟨rfl, pre0, x, rfl, hlen, ?_⟩
    exact OwnFrom.and (B := wL.heap.size) (Own.from (holdsRow_own _ _ _ _ _ (fun pre : List Int => pre.length) (fun pre => pre.map (Value.int .i64)) (fun pre _ => (pre.length : Int) ≤ n)) _)
      (OwnFrom.and (Own.from (fun s A B row hs hg hr => cell_kept hs hg hr) _) (ownFrom_below (by have := HS1.out; omega) (by have := HS1.out; omega))) pre0 A B row hs hg hr
  case h0 => exact ⟨⟨_, bL, World.ownsRow_nil _ _ _ _, h5⟩, wantL, Below.refl _ _⟩
  case body =>
    rintro l pre x W ⟨⟨v, hv, hrow, hle⟩, hwant, hB⟩ hlt
    have hc := hv.cell
    obtain ⟨A, cap, rfl⟩ := own_slice hrow
    have HV := Aside0.mk hv
    have HR := Aside0.mk hrow
    have HB := Aside0.mk hB
    clear hv hrow hB
    by_cases he : (pre.length : Int) = n
    · have he1 : ((pre.length : Int) == n) = true := beq_iff_eq.2 he
      have HE := Aside0.mk he
      clear he
      gi_wp2
      exact ⟨KeepsFrom.refl _ _, rfl, pre, x, rfl, HE.out, ⟨_, HV.out, HR.out, hle⟩, hwant, HB.out⟩
    · have he1 : ((pre.length : Int) == n) = false := beq_eq_false_iff_ne.2 he
      have HE := Aside0.mk he
      clear he
      have r1 := HB.out.size
      gi_wp2_with (gi_at_builtin; (refine wpListIn_append_own _ rfl _ _ 22 rfl (w2.heap.size + 3) 3 i0 (.int .i64 0) 1 8 Try.underlying22 hi hz0 hz1 hz2 rfl (by decide) _ _ _ rfl (HR.out.alloc _) ⟨W.heap.size, 0, none⟩ 1 1 [.int .i64 x] rfl rfl (cell_one_new _ _ _) (by simp [Value.oneCell']) (by unfold maxLen; omega) (by omega) (by simp; omega) ?_); intro v' w3 hown' hgrow _; obtain ⟨g', cap', rfl⟩ := ownsRow_succ hown'; have HO3 := Aside0.mk hown'; have HG3 := Aside0.mk hgrow; clear hown' hgrow; have HV1 := Aside0.mk ((HV.out.alloc _).kept HG3.out (HV.out.not_row (by decide) HR.out)); have hc1 := HV1.out.cell; have hf1 := HV1.out.frozen)
      have ho := own_weaken HR.out (show w1.heap.size ≤ w2.heap.size + 3 by omega)
      have ho3 := own_weaken HO3.out (show w1.heap.size ≤ w2.heap.size + 3 by omega)
      obtain ⟨_, hv2, hr2, hk2, hb2⟩ := HV.out.appended (by decide) ho (by omega) (Nat.le_refl _) ho3 HG3.out
      have hr3 := HO3.out.kept (grownBy_setCell' w3 w1.heap.size (.slice (some ⟨g', 0, none⟩) (pre.length + 1) cap')) (.inr (HV1.out.not_row (by decide) HO3.out).symm)
      have hkept : Kept (fun i => w1.heap.size < i ∧ i < w2.heap.size + 3) W (w3.setCell ⟨w1.heap.size, 0, none⟩ (.slice (some ⟨g', 0, none⟩) (pre.length + 1) cap')) := by
        refine ⟨hb2.size, fun i hi hlt => ?_⟩
        obtain ⟨i1, i2⟩ := hi
        rw [Below.heap_setCell _ _ _ _ (by simp; omega), HG3.out.block i (by simp; omega) (fun e => ?_), Below.heap_alloc _ _ _ hlt]
        have := own_base HR.out i e.symm
        omega
      refine ⟨hk2.from _, hkept, ⟨_, hv2, by rw [List.length_append, List.map_append]; exact hr3, ?_⟩, (hb2.cell (p := ⟨w.heap.size, 0, none⟩) (by have := HS1.out; simp; omega)).trans hwant, HB.out.trans (hb2.mono (by have := HS1.out; omega))⟩
      have := HE.out
      rw [List.length_append, List.length_singleton]
      omega
  case done =>
    rintro D ys W hD rfl ⟨⟨v, hv, hrow, hle⟩, hwant, hB⟩ hK
    have hc := hv.cell
    obtain ⟨A, cap, rfl⟩ := own_slice hrow
    have HV := Aside0.mk hv
    have HR := Aside0.mk hrow
    have HB := Aside0.mk hB
    clear hv hrow hB
    have hres : (come p f l1 p.toNat).take n.toNat = come p f l1 p.toNat := List.take_of_length_le (by have := come_len_all p f l1 h1 h2 h3 h4; omega)
    have HQ := Aside0.mk hres
    clear hres
    gi_wp2
    go_wp2
    refine ⟨by simp, .inl ⟨_, _, rfl, run_takeDeferred hK, ?_⟩⟩
    refine ⟨_, results_tmp2 rfl _ _ _, ?_⟩
    refine ⟨_, rfl, ?_, ?_⟩
    · rw [HQ.out]
      refine Kd.R_of_own (enc := Value.int .i64) (h1 := fun _ => rfl) ?_ (fun _ _ => trivial)
      exact ownsRow_putObj (own_weaken HR.out (by have := HS1.out; omega)) _ hK rfl
    · exact BL.trans (HB.out.trans (belowK_b (w := w) (Nat.le_refl _) W D _ _ (by have := HS1.out; omega) hK rfl rfl))
  case stop =>
    rintro D c pre W hD ⟨k, hk, rfl⟩ ⟨rfl, pre0, x, hpre, hlen, ⟨v, hv, hrow, hle⟩, hwant, hB⟩ hK
    have hc := hv.cell
    obtain ⟨A, cap, rfl⟩ := own_slice hrow
    have HV := Aside0.mk hv
    have HR := Aside0.mk hrow
    have HB := Aside0.mk hB
    clear hv hrow hB
    have hres : (come p f l1 p.toNat).take n.toNat = pre0 := by
      obtain ⟨z, hz⟩ := come_prefix p f l1 k p.toNat hk
      rw [hpre] at hz
      rw [← hz, List.append_assoc, show n.toNat = pre0.length by omega, List.take_left]
    have HQ := Aside0.mk hres
    clear hres hpre hlen
    gi_wp2
    go_wp2
    refine ⟨by simp, .inl ⟨_, _, rfl, run_takeDeferred hK, ?_⟩⟩
    refine ⟨_, results_tmp2 rfl _ _ _, ?_⟩
    refine ⟨_, rfl, ?_, ?_⟩
    · rw [HQ.out]
      refine Kd.R_of_own (enc := Value.int .i64) (h1 := fun _ => rfl) ?_ (fun _ _ => trivial)
      exact ownsRow_putObj (own_weaken HR.out (by have := HS1.out; omega)) _ hK rfl
    · exact BL.trans (HB.out.trans (belowK_b (w := w) (Nat.le_refl _) W D _ _ (by have := HS1.out; omega) hK rfl rfl))
#print axioms find_ok
end Go.Proofs.Ytnaliaebjeikaaa
