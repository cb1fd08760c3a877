/- An element of an array of words, by a letter. -/
import Derived.Test.YtfjglhhandjahaaDoorShaA
namespace Go.Proofs.YtfjglhhandjahaaDoor.Sha
open Go.RowKit Go.Proofs.YtfjglhhandjahaaDoorW.PrintWords Go.Proofs.YtfjglhhandjahaaDoor.PShaOf
theorem ix47 {W : List Int} (hl : W.length = 64) {t : Nat} (ht : t < 64) (w : World) : (Instr.index 47 (.agg (nums .u32 W).toArray) (.int .i64 (t : Int))).run Tryd.prog w = .ok (.int .u32 (W.getD t 0)) w := by
  have hu := un47
  have hs := size28
  have h2 : (0 : Int) ≤ (t : Int) := by omega
  have h3 : (nums .u32 W)[t]? = some (.int .u32 (W.getD t 0)) := by simp [nums, hl, ht]
  cases hq : Tryd.prog.info? 28 with
  | none => simp [hq] at hs
  | some i =>
    have hi : i.size = 1 := by simpa [hq] using hs
    simp [Instr.index, run_underlying hu, go_sem, sizeOf, typeInfo, hq, hi, h2, h3]
    intro h
    omega
end Go.Proofs.YtfjglhhandjahaaDoor.Sha
