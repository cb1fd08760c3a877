/- The walk of the statement BoxPlays over a slice that is too long: the law is awake. -/
import Derived.Test.YtnaliaebjeikaaaBoxFa
namespace Go.Proofs.Ytnaliaebjeikaaa
open Go.RowKit Go.Proofs.YtnaliaebjeikaaaW.PrintWords
set_option linter.unusedVariables false

set_option maxHeartbeats 2000000 in
set_option maxRecDepth 100000 in
theorem boxPlays_out (n m : Int) (A : Option Addr) (c1 len : Nat) (w : World) (h : 300 < len) :
    Calls Try.prog 5 #[.agg #[.int .i64 n, .int .i64 m], .slice A len c1] w (TruePost w) := by
  have W0 := Aside0.mk (show Below w.heap.size w (w.alloc (.cells #[.int .i64 n, .int .i64 m] 23)) from (Below.refl _ _).alloc (Nat.le_refl _) _)
  go_enter Try.func5, Try.ntmps5
  go_wp2_with (go_at_call 11; refine (awake06_calls _).mono ?_; rintro e w' ⟨rfl, hB⟩; have HB := Aside0.mk hB; clear hB)
  go_ret
  exact ⟨rfl, W0.out.trans (HB.out.mono (by simp))⟩
end Go.Proofs.Ytnaliaebjeikaaa
