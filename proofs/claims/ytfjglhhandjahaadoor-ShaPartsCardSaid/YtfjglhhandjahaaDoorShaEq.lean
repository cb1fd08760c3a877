/- Two digests compared. -/
import Derived.Test.YtfjglhhandjahaaDoorShaG
import Derived.ChangeKeysEq
namespace Go.Proofs.YtfjglhhandjahaaDoor.Sha
open Go.RowKit Go.Proofs.YtfjglhhandjahaaDoorW.PrintWords Go.Proofs.YtfjglhhandjahaaDoor.PShaOf
set_option linter.unusedVariables false

theorem un28 : Tryd.prog.underlying 28 = some (.int .u32) := by kernel_rfl
theorem cells28 : Tryd.prog.cellsOf 28 = 1 := by kernel_rfl
theorem row28 : (match Tryd.prog.underlying 28 with | some (.struct _) | some (.array _ _) => true | _ => false) = false := by kernel_rfl
theorem part28 (xs : List Int) (i : Nat) (hi : i < xs.length) (w : World) : (part 28 (nums .u32 xs).toArray i).run Tryd.prog w = .ok (.int .u32 (xs.getD i 0)) w := by
  have h : (nums .u32 xs)[i]? = some (.int .u32 (xs.getD i 0)) := by simp [nums, hi]
  unfold part
  simp [h, go_sem]
theorem eq28 (d : Nat) (a b : Int) (w : World) : (Op.equalIn (d + 1) 28 (.int .u32 a) (.int .u32 b)).run Tryd.prog w = .ok (a == b) w := by
  simp [Op.equalIn, run_underlying un28]
theorem items28 (d : Nat) (xs ys : List Int) (w : World) : ∀ is : List Nat, (∀ i ∈ is, i < xs.length ∧ i < ys.length) →
    (Op.eqItems (d + 1) 28 1 (nums .u32 xs).toArray (nums .u32 ys).toArray is).run Tryd.prog w = .ok (is.all fun i => xs.getD i 0 == ys.getD i 0) w
  | [], _ => by simp [Op.eqItems]
  | i :: is, h => by
    have hi := h i (by simp)
    simp only [Op.eqItems, Sem.run_bind, Nat.mul_one, part28 xs i hi.1, part28 ys i hi.2, Result.andThen_ok, eq28]
    have ih := items28 d xs ys w is (fun j hj => h j (by simp [hj]))
    rw [List.all_cons]
    cases hq : (xs.getD i 0 == ys.getD i 0)
    · simp
    · simpa using ih
theorem all_eq (xs ys : List Int) (h1 : xs.length = 8) (h2 : ys.length = 8) : ((List.range 8).all fun i => xs.getD i 0 == ys.getD i 0) = decide (xs = ys) := by
  obtain ⟨x0, x1, x2, x3, x4, x5, x6, x7, rfl⟩ := eight xs h1
  obtain ⟨y0, y1, y2, y3, y4, y5, y6, y7, rfl⟩ := eight ys h2
  rw [Bool.eq_iff_iff]
  simp [List.range_succ]
theorem eq29 (xs ys : List Int) (h1 : xs.length = 8) (h2 : ys.length = 8) (w : World) : (Op.equalIn 10000 29 (.agg (nums .u32 xs).toArray) (.agg (nums .u32 ys).toArray)).run Tryd.prog w = .ok (decide (xs = ys)) w := by
  obtain ⟨i, hi⟩ : ∃ i, Tryd.prog.info? 28 = some i := by
    cases hq : Tryd.prog.info? 28 with
    | none => have := size28; rw [hq] at this; cases this
    | some i => exact ⟨i, rfl⟩
  rw [show (10000 : Nat) = 9998 + 1 + 1 from rfl, run_equalIn_array w (9998 + 1) _ _ un29 hi, cells28, items28 9998 xs ys w _ (by intro j hj; rw [List.mem_range] at hj; omega), all_eq xs ys h1 h2]
end Go.Proofs.YtfjglhhandjahaaDoor.Sha
