/- The walk of the statement PoolFree: it answers true. -/
import Derived.Test.YtnaliaebjeikaaaPoolE
namespace Go.Proofs.Ytnaliaebjeikaaa
open Go.RowKit Go.Shelf Go.Maps Go.Proofs.YtnaliaebjeikaaaW.PrintWords

def LawPost (w : World) (e : Ending) (w' : World) : Prop := e = .returned (.bool true) ∧ Below w.heap.size w w'

set_option maxHeartbeats 2000000 in
set_option maxRecDepth 100000 in
theorem poolFree_out (p : Int) (A1 : Option Addr) (c1 len : Nat) (x y : Int) (w : World)
    (h : 300 < len ∨ p < 1 ∨ 128 < p ∨ x < 0 ∨ p ≤ x ∨ y < 0) :
    Calls Try.prog 3 #[.int .i64 p, .slice A1 len c1, .agg #[.int .i64 x, .int .i64 y]] w (LawPost w) := by
  have HB0 := Aside0.mk (show Below w.heap.size w (w.alloc (.cells #[.int .i64 x, .int .i64 y] 23)) from (Below.refl _ _).alloc (Nat.le_refl _) _)
  by_cases h0 : 300 < len
  · clear h
    go_enter Try.func3, Try.ntmps3
    go_wp2_with (go_at_call 8; refine (awake26_calls _).mono ?_; rintro e w' ⟨rfl, hB⟩; have HB := Aside0.mk hB; clear hB)
    go_ret
    exact ⟨rfl, HB0.out.trans (HB.out.mono (by simp))⟩
  · by_cases h1 : p < 1
    · clear h
      go_enter Try.func3, Try.ntmps3
      go_wp2_with (go_at_call 8; refine (awake26_calls _).mono ?_; rintro e w' ⟨rfl, hB⟩; have HB := Aside0.mk hB; clear hB)
      go_ret
      exact ⟨rfl, HB0.out.trans (HB.out.mono (by simp))⟩
    · by_cases h2 : 128 < p
      · clear h
        go_enter Try.func3, Try.ntmps3
        go_wp2_with (go_at_call 8; refine (awake26_calls _).mono ?_; rintro e w' ⟨rfl, hB⟩; have HB := Aside0.mk hB; clear hB)
        go_ret
        exact ⟨rfl, HB0.out.trans (HB.out.mono (by simp))⟩
      · by_cases h3 : x < 0
        · clear h
          go_enter Try.func3, Try.ntmps3
          go_wp2_with (go_at_call 8; refine (awake26_calls _).mono ?_; rintro e w' ⟨rfl, hB⟩; have HB := Aside0.mk hB; clear hB)
          go_ret
          exact ⟨rfl, HB0.out.trans (HB.out.mono (by simp))⟩
        · by_cases h4 : p ≤ x
          · clear h
            go_enter Try.func3, Try.ntmps3
            go_wp2_with (go_at_call 8; refine (awake26_calls _).mono ?_; rintro e w' ⟨rfl, hB⟩; have HB := Aside0.mk hB; clear hB)
            go_ret
            exact ⟨rfl, HB0.out.trans (HB.out.mono (by simp))⟩
          · have h5 : y < 0 := by omega
            clear h
            go_enter Try.func3, Try.ntmps3
            go_wp2_with (go_at_call 8; refine (awake26_calls _).mono ?_; rintro e w' ⟨rfl, hB⟩; have HB := Aside0.mk hB; clear hB)
            go_ret
            exact ⟨rfl, HB0.out.trans (HB.out.mono (by simp))⟩

end Go.Proofs.Ytnaliaebjeikaaa
