/- ShaNone, walked. -/
import Derived.Test.YtfjglhhandjahaaDoorShaEq
namespace Go.Proofs.YtfjglhhandjahaaDoor.Sha
open Go.RowKit Go.Proofs.YtfjglhhandjahaaDoorW.PrintWords Go.Proofs.YtfjglhhandjahaaDoor.PShaOf
set_option linter.unusedVariables false

set_option maxHeartbeats 1000000 in
set_option maxRecDepth 100000 in
theorem none_calls (v : Value) (w : World) (hF : TB w 0 firstL) (hK : TB w 1 roundL) : Calls Tryd.prog 4 #[v] w fun e w' => e = .returned (.bool true) ∧ Below w.heap.size w w' := by
  have HF := Aside0.mk hF
  have HK := Aside0.mk hK
  clear hF hK
  have z2 := zeroV29
  have heq : ∀ w, (Op.equalIn 10000 29 (.agg #[.int .u32 0, .int .u32 0, .int .u32 0, .int .u32 0, .int .u32 0, .int .u32 0, .int .u32 0, .int .u32 0]) (.agg #[.int .u32 0, .int .u32 0, .int .u32 0, .int .u32 0, .int .u32 0, .int .u32 0, .int .u32 0, .int .u32 0])).run Tryd.prog w = .ok true w := fun w => eq29 (List.replicate 8 0) (List.replicate 8 0) rfl rfl w
  have HS : Aside0 (∀ w, Calls Tryd.prog 9 #[.pointer none] w fun e w' => e = .returned (.agg #[.int .u32 0, .int .u32 0, .int .u32 0, .int .u32 0, .int .u32 0, .int .u32 0, .int .u32 0, .int .u32 0]) ∧ Below w.heap.size w w') := ⟨fun w => sum_nil w⟩
  go_enter Tryd.func4, Tryd.ntmps4
  go_wp2_with (first
    | (go_at_call 8; refine (write_nil _ _).mono ?_; rintro e w1 ⟨rfl, rfl⟩)
    | (go_at_call 9; refine (HS.out _).mono ?_; rintro e w1 ⟨rfl, hB⟩; have S1 := Aside0.mk hB; clear hB)
    | (go_at_call 11; refine (count_nil _).mono ?_; rintro e w2 ⟨rfl, rfl⟩)
    | (go_at_call 7; refine (awake_calls _ (TB.below HF.out S1.out) (TB.below HK.out S1.out)).mono ?_; rintro e w3 ⟨rfl, hB⟩; have S3 := Aside0.mk (S1.out.trans (hB.mono S1.out.size)); clear hB))
  go_ret
  exact ⟨rfl, S3.out⟩
end Go.Proofs.YtfjglhhandjahaaDoor.Sha
