import Derived.Test.YtiddiboclfpklaaDoorSdTzL
import Derived.Test.YtiddiboclfpklaaDoorSdTxF
import Derived.Laws.Tables
import Derived.Laws.CopyRow
/- Parse of the empty text; awake. -/
namespace Go.Proofs.YtiddiboclfpklaaDoor.Tz
open Go.RowKit Go.Proofs.YtiddiboclfpklaaDoorW.PrintWords Go.Proofs.YtiddiboclfpklaaDoor.PScriptReads Go.Proofs.YtiddiboclfpklaaDoor.Tx
set_option linter.unusedVariables false

theorem lines_nil (w : World) : Calls Tryd.prog 19 #[.string ⟨#[]⟩] w fun e w' => ∃ A c, e = .returned (.tuple #[.slice A 0 c, .int .i64 0, .int .i64 0]) ∧ Below w.heap.size w w' := by
  refine (lines_calls ⟨#[]⟩ (by decide) w).mono ?_
  have h0 : rowsF (ByteArray.size ⟨#[]⟩) ⟨#[]⟩ = [] := rfl
  rintro e w' ⟨h | ⟨pre, x, rest, h1, h2, h3, h4⟩, hb⟩
  · obtain ⟨_, v, rfl, hv⟩ := h
    rw [h0] at hv
    obtain ⟨A, c, rfl⟩ := Kd.R_slice hv
    exact ⟨A, c, rfl, hb⟩
  · rw [h0] at h1
    exact absurd (congrArg List.length h1) (by simp)

/-- The script that is none. -/
def csN : Array Value := #[.int .i64 0, .int .i64 0, .int .i64 0, .int .i64 0, .int .i64 0, .int .i64 0, .string ⟨#[]⟩, .slice none 0 0]
theorem one62 : csN.all (·.oneCell') = true := by kernel_rfl
theorem size62 : (Tryd.prog.info? 62).map (·.size) = some 8 := by kernel_rfl

set_option maxHeartbeats 1000000 in
set_option maxRecDepth 100000 in
theorem parse_nil (w : World) : Calls Tryd.prog 33 #[.string ⟨#[]⟩] w fun e w' => e = .returned (.tuple #[.agg #[.int .i64 0, .int .i64 0, .int .i64 0, .int .i64 0, .int .i64 0, .int .i64 0, .string ⟨#[]⟩, .slice none 0 0], .int .i64 1, .int .i64 4]) ∧ Below w.heap.size w w' := by
  have HB := Aside0.mk (Below.alloc (Below.refl w.heap.size w) (Nat.le_refl _) (.cells #[.int .i64 0, .int .i64 0, .int .i64 0, .int .i64 0, .int .i64 0, .int .i64 0, .string ⟨#[]⟩, .slice none 0 0] 62))
  go_enter Tryd.func33, Tryd.ntmps33
  go_wp2_with ((go_at_call 19; refine (lines_nil _).mono ?_; rintro e w2 ⟨A, c, rfl, hB⟩; have B2 := Aside0.mk (below_alloc (HB.out.trans (hB.mono HB.out.size)) (.cells #[.int .i64 0, .int .i64 0, .int .i64 0, .int .i64 0, .int .i64 0, .int .i64 0, .string ⟨#[]⟩, .slice none 0 0] 62)); have K2 := Aside0.mk (blk_alloc (blk_below (blk_new w (.cells #[.int .i64 0, .int .i64 0, .int .i64 0, .int .i64 0, .int .i64 0, .int .i64 0, .string ⟨#[]⟩, .slice none 0 0] 62)) hB) (.cells #[.int .i64 0, .int .i64 0, .int .i64 0, .int .i64 0, .int .i64 0, .int .i64 0, .string ⟨#[]⟩, .slice none 0 0] 62)); clear hB))
  go_loopw [26] (fun i wr => i = .int .i64 0 ∧ wr = w2.alloc (.cells #[.int .i64 0, .int .i64 0, .int .i64 0, .int .i64 0, .int .i64 0, .int .i64 0, .string ⟨#[]⟩, .slice none 0 0] 62)) (fun _ _ => 0)
  case atStart => exact ⟨rfl, rfl⟩
  case round =>
    obtain ⟨rfl, rfl⟩ := hrel
    go_wp2_with ((refine wpList_store_row rfl 62 _ _ rfl w.heap.size csN rfl rfl 62 csN K2.out size62 rfl one62 ?_; rw [setRow_self _ _ csN _ _ K2.out]))
    refine bodyPost_ret (results_ctt rfl _ _ w.heap.size 62 csN (0, 0) _ rfl K2.out Tryd.underlying62 rfl size62) rfl ?_
    exact ⟨rfl, B2.out⟩
end Go.Proofs.YtiddiboclfpklaaDoor.Tz
