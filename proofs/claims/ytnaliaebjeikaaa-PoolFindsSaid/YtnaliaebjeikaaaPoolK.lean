/- The walk of pool.Rest. -/
import Derived.Test.YtnaliaebjeikaaaPoolJ
namespace Go.Proofs.Ytnaliaebjeikaaa
open Go.RowKit Go.Shelf Go.Maps Go.Proofs.YtnaliaebjeikaaaW.PrintWords

/-- What pool.Rest answers. -/
def restR (p : Int) (l : List Int) : List Int := if 0 ≤ p ∧ p ≤ 128 then come p 0 l p.toNat else []

set_option maxHeartbeats 2000000 in
set_option maxRecDepth 100000 in
theorem rest_calls (p : Int) (A1 : Option Addr) (c1 : Nat) (l1 : List Int) (w : World) (hr1 : Kd.C (Kd.int .i64) w A1 l1.length l1) (hl : l1.length ≤ 300) (hwf : ∀ n ∈ l1, (Lit.int .i64 n).wf = true) :
    Calls Try.prog 30 #[.int .i64 p, .slice A1 l1.length c1] w fun e w' => ∃ v, e = .returned v ∧ Kd.R (Kd.int .i64) 3 w' w.heap.size (fun _ => True) v (restR p l1) ∧ Below w.heap.size w w' := by
  have HR1 := Aside0.mk hr1
  clear hr1
  have HW := Aside0.mk hwf
  clear hwf
  by_cases h : 0 ≤ p ∧ p ≤ 128
  · have hf : decide (0 ≤ p ∧ p ≤ 128) = true := decide_eq_true h
    have HF := Aside0.mk (show restR p l1 = come p 0 l1 p.toNat from if_pos h)
    obtain ⟨h0, h1⟩ := h
    go_enter Try.func30, Try.ntmps30
    go_wp2_with (first
      | (go_at_call 31; refine (fine_calls _ _).mono ?_; rintro e w' ⟨rfl, rfl⟩)
      | (go_at_call 32; refine (of_calls p _ _ l1 _ HR1.out hl HW.out).mono ?_; rintro e w2 ⟨rfl, hown, hB2⟩; have HO2 := Aside0.mk hown; have HB2 := Aside0.mk hB2; clear hown hB2)
      | (go_at_call 33; refine (callsIn_wide.1 (round_calls _ p 0 _)).mono ?_; rintro e w' ⟨rfl, rfl⟩))
    obtain ⟨wL, hwL⟩ : ∃ wL, ((w2.alloc (.cells #[.map (some w.heap.size)] 61)).alloc (.cells #[.int .i64 p] 3)).alloc (.cells #[.int .i64 0] 3) = wL := ⟨_, rfl⟩
    have hLb : Below w2.heap.size w2 wL := by rw [← hwL]; exact (((Below.refl _ w2).alloc (Nat.le_refl _) _).alloc (by simp) _).alloc (by simp; omega) _
    have hLs : wL.heap.size = w2.heap.size + 3 := by rw [← hwL]; simp
    have hL0 : wL.cell? ⟨w2.heap.size, 0, none⟩ = some (.map (some w.heap.size)) := by rw [← hwL]; exact (((Boxed.new w2 61 _).alloc _).alloc _).cell
    have hL1 : wL.cell? ⟨w2.heap.size + 1, 0, none⟩ = some (.int .i64 p) := by
      have := ((Boxed.new (w2.alloc (.cells #[.map (some w.heap.size)] 61)) 3 (.int .i64 p)).alloc (.cells #[.int .i64 0] 3)).cell
      rw [← hwL]; simpa only [World.size_alloc] using this
    have hL2 : wL.cell? ⟨w2.heap.size + 2, 0, none⟩ = some (.int .i64 0) := by
      have := (Boxed.new ((w2.alloc (.cells #[.map (some w.heap.size)] 61)).alloc (.cells #[.int .i64 p] 3)) 3 (.int .i64 0)).cell
      rw [← hwL]; simpa only [World.size_alloc] using this
    rw [hwL]
    clear hwL
    have ownL : wL.ownsMap Try.prog 3 unitElem w.heap.size l1.length (setD Unit (inn p l1)) := by
      have z2 : w.heap.size < w2.heap.size := by
        obtain ⟨_, _, hh, _⟩ := HO2.out
        exact (Array.getElem?_eq_some_iff.1 hh).1
      exact ownsMap_kept (S := fun i => i < w2.heap.size) HO2.out (Kept.of_below hLb (fun _ h => h)) z2
    have BL : Below w.heap.size w wL := HB2.out.trans (hLb.mono HB2.out.size)
    have hsz : ∀ i, i < wL.heap.size → i < wL.heap.size := fun _ h => h
    have F : Aside0 (∃ Sp, SeqStopsK Fence.wide 4 Try.prog 36 #[.pointer (some ⟨w2.heap.size + 1, 0, none⟩), .pointer (some ⟨w2.heap.size + 2, 0, none⟩), .pointer (some ⟨w2.heap.size, 0, none⟩)] (fun x : Int => #[Value.int .i64 x]) (Kept fun i => i < wL.heap.size)
        (fun ys => ys = come p 0 l1 p.toNat) Sp 128 wL) := ⟨by
      by_cases hp : p = 0
      · subst hp
        exact ⟨_, iter0_stops 4 w2.heap.size (fun i => i < wL.heap.size) wL _ _ hL1 (show w2.heap.size + 1 < wL.heap.size by omega) hsz⟩
      · exact ⟨_, iter_stops 4 (by decide) w.heap.size l1.length (fun i => i < wL.heap.size) p 0 l1 (by omega) h1 (by omega) (by omega) (show w.heap.size < wL.heap.size by have := HB2.out.size; omega) w2.heap.size wL hL1 hL2 hL0
          (show w2.heap.size < wL.heap.size by omega) (show w2.heap.size + 1 < wL.heap.size by omega) (show w2.heap.size + 2 < wL.heap.size by omega) hsz ownL⟩⟩
    obtain ⟨Sp, hseq⟩ := F.out
    have C := Aside0.mk (collect_in _ _ _ _ wL hsz hseq)
    clear hseq F hL0 hL1 hL2 ownL hLb
    have BL := Aside0.mk BL
    go_wp2_with fail
    refine C.out.mono ?_
    rintro e w3 ⟨v, rfl, hR, hB⟩
    have HR := Aside0.mk hR
    have HB := Aside0.mk hB
    clear hR hB
    go_wp2
    go_ret
    exact ⟨v, rfl, by rw [HF.out]; exact Kd.R_lower HR.out BL.out.size, BL.out.trans (HB.out.mono BL.out.size)⟩
  · have hf : decide (0 ≤ p ∧ p ≤ 128) = false := decide_eq_false h
    have HF := Aside0.mk (show restR p l1 = [] from if_neg h)
    clear h
    go_enter Try.func30, Try.ntmps30
    go_wp2_with (go_at_call 31; refine (fine_calls _ _).mono ?_; rintro e w' ⟨rfl, rfl⟩)
    go_ret
    exact ⟨_, rfl, by rw [HF.out]; exact Kd.R_nil _ _ _ _ _, Below.refl _ _⟩
#print axioms rest_calls
end Go.Proofs.Ytnaliaebjeikaaa
