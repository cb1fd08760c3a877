/- The walk of pool.Find: what it hands back. -/
import Derived.Test.YtnaliaebjeikaaaPoolB
import Derived.Deep.RegionHeld3
import Derived.Deep.DeepFit
namespace Go.Proofs.Ytnaliaebjeikaaa
open Go.RowKit Go.Shelf Go.Maps Go.Proofs.YtnaliaebjeikaaaW.PrintWords

/-- It may not be asked. -/
def badAsk (p f n : Int) : Prop := p < 1 ∨ 128 < p ∨ f < 0 ∨ p ≤ f ∨ n < 0

def FindPost (w : World) (r : List Int) (c : Int) (e : Ending) (w' : World) : Prop :=
  ∃ v, e = .returned (.tuple #[v, .int .i64 c]) ∧ Kd.R (Kd.int .i64) 3 w' w.heap.size (fun _ => True) v r ∧ Below w.heap.size w w'

set_option maxHeartbeats 2000000 in
set_option maxRecDepth 100000 in
theorem find_bad (p f n : Int) (A1 : Option Addr) (c1 len : Nat) (w : World) (h : badAsk p f n) :
    Calls Try.prog 9 #[.int .i64 p, .slice A1 len c1, .int .i64 f, .int .i64 n] w (FindPost w [] 2) := by
  have fin : ∀ x, FindPost w [] 2 (.returned (.tuple #[.slice none 0 0, .int .i64 2])) (w.alloc (.cells #[x] 3)) := fun x => ⟨_, rfl, Kd.R_nil _ _ _ _ _, (Below.refl _ _).alloc (Nat.le_refl _) _⟩
  by_cases h1 : p < 1
  · go_enter Try.func9, Try.ntmps9
    go_wp2
    go_ret2
    exact fin _
  · by_cases h2 : 128 < p
    · have hf : decide (0 ≤ p ∧ p ≤ 128) = false := decide_eq_false (by omega)
      go_enter Try.func9, Try.ntmps9
      go_wp2_with (go_at_call 31; refine (fine_calls _ _).mono ?_; rintro e w' ⟨rfl, rfl⟩)
      go_ret2
      exact fin _
    · have hf : decide (0 ≤ p ∧ p ≤ 128) = true := decide_eq_true (by omega)
      by_cases h3 : f < 0
      · go_enter Try.func9, Try.ntmps9
        go_wp2_with (go_at_call 31; refine (fine_calls _ _).mono ?_; rintro e w' ⟨rfl, rfl⟩)
        go_ret2
        exact fin _
      · by_cases h4 : p ≤ f
        · go_enter Try.func9, Try.ntmps9
          go_wp2_with (go_at_call 31; refine (fine_calls _ _).mono ?_; rintro e w' ⟨rfl, rfl⟩)
          go_ret2
          exact fin _
        · have h5 : n < 0 := by rcases h with h | h | h | h | h <;> omega
          clear h
          go_enter Try.func9, Try.ntmps9
          go_wp2_with (go_at_call 31; refine (fine_calls _ _).mono ?_; rintro e w' ⟨rfl, rfl⟩)
          go_ret2
          exact fin _

set_option maxHeartbeats 2000000 in
set_option maxRecDepth 100000 in
theorem find_full (p f n : Int) (A1 : Option Addr) (c1 : Nat) (l1 : List Int) (w : World) (hr1 : Kd.C (Kd.int .i64) w A1 l1.length l1) (hl : l1.length ≤ 300) (hwf : ∀ n ∈ l1, (Lit.int .i64 n).wf = true)
    (h : ¬ badAsk p f n) (hn : freeN p l1 < n) :
    Calls Try.prog 9 #[.int .i64 p, .slice A1 l1.length c1, .int .i64 f, .int .i64 n] w (FindPost w [] 14) := by
  have HR1 := Aside0.mk hr1
  clear hr1
  have HW := Aside0.mk hwf
  clear hwf
  unfold badAsk at h
  have h1 : 1 ≤ p := by omega
  have h2 : p ≤ 128 := by omega
  have h3 : 0 ≤ f := by omega
  have h4 : f < p := by omega
  have h5 : 0 ≤ n := by omega
  clear h
  have hf : decide (0 ≤ p ∧ p ≤ 128) = true := decide_eq_true (by omega)
  go_enter Try.func9, Try.ntmps9
  go_wp2_with (go_at_call 31; refine (fine_calls _ _).mono ?_; rintro e w' ⟨rfl, rfl⟩)
  go_region_held3 (fun w' => w'.cell? ⟨w.heap.size, 0, none⟩ = some (.int .i64 n))
    (first | go_keep | exact hcx)
    ((go_at_call 10; refine (free_calls p _ _ l1 _ (by repeat (first | exact HR1.out | (with_reducible refine Kd.C_alloc ?_ _) | (with_reducible refine Kd.C_drewN ?_ _) | (with_reducible refine Kd.C_drew ?_))) hl HW.out).mono ?_; rintro e w1 ⟨rfl, hB1⟩; have hcx : w1.cell? ⟨w.heap.size, 0, none⟩ = some (.int .i64 n) := (hB1.cell (p := ⟨w.heap.size, 0, none⟩) (by simp)).trans (by simp)))
  have HB1 := Aside0.mk hB1
  clear hB1 hcx
  go_wp2
  go_ret2
  exact ⟨_, rfl, Kd.R_nil _ _ _ _ _, (((Below.refl _ _).alloc (Nat.le_refl _) _).drew).trans (HB1.out.mono (by simp))⟩
end Go.Proofs.Ytnaliaebjeikaaa
