/- awake, walked. -/
import Derived.Test.YtiddiboclfpklaaDoorTxF
import Derived.Test.YtiddiboclfpklaaDoorTxJ
namespace Go.Proofs.YtiddiboclfpklaaDoor.Tx
open Go.RowKit Go.Proofs.YtiddiboclfpklaaDoorW.PrintWords Go.Proofs.YtiddiboclfpklaaDoor.PTextsNums
set_option linter.unusedVariables false

theorem digR12 : digR 12 = [50, 49] := by
  rw [digR_big 12 (by decide), digR_small (12 / 10) (by decide)]; rfl
theorem dec12 : strOfNums (decF (-12)) = ⟨#[45, 49, 50]⟩ := by
  rw [decF_neg (-12) (by decide), show (-(-12 : Int)).toNat = 12 from rfl, digR12]; rfl
theorem read12 : readU ⟨#[45, 49, 50]⟩ = (-12, 0) := by
  have := read_dec (-12) (by unfold I64; omega)
  rw [dec12] at this
  exact this
theorem hex171 : hexF ⟨#[0, 171]⟩ = ⟨#[48, 48, 97, 98]⟩ := by
  kernel_rfl
def abc : ByteArray := ⟨#[97, 32, 98, 10, 99, 10]⟩
theorem rowsAbc : rowsF abc.size abc = [(⟨#[97, 32, 98]⟩, true), (⟨#[99]⟩, true)] := by kernel_rfl
theorem wordsAbc : (rowsF abc.size abc).map (fun x => wordsF x.1) = [[⟨#[97]⟩, ⟨#[98]⟩], [⟨#[99]⟩]] := by kernel_rfl
theorem okAbc : (rowsF abc.size abc).all okRow = true := by kernel_rfl
/-- Lines of the known text. -/
theorem lines_abc (w : World) : Calls Tryd.prog 19 #[.string abc] w fun e w' => (∃ v, e = .returned (.tuple #[v, .int .i64 0, .int .i64 0]) ∧ Kd.R (Kd.slice 9 Kd.string) 84 w' w.heap.size (fun _ => True) v [[⟨#[97]⟩, ⟨#[98]⟩], [⟨#[99]⟩]]) ∧ Below w.heap.size w w' := by
  refine (lines_calls abc (by decide) w).mono ?_
  rintro e w' ⟨h, hb⟩
  rcases h with ⟨_, v, he, hR⟩ | ⟨pre, x, rest, hk, hall, hx, _⟩
  · rw [wordsAbc] at hR
    exact ⟨⟨v, he, hR⟩, hb⟩
  · have h := okAbc
    rw [hk, List.all_append, List.all_cons, hx, Bool.false_and, Bool.and_false] at h
    exact absurd h Bool.false_ne_true

theorem add_nought (ad : Addr) : ad.add 0 = ad := by
  cases ad
  unfold Addr.add
  first | rfl | (simp; done) | (split <;> simp)
set_option maxHeartbeats 2000000 in
set_option maxRecDepth 100000 in
theorem awake_calls (w : World) : Calls Tryd.prog 14 #[] w fun e w' => e = .returned (.bool true) ∧ Below w.heap.size w w' := by
  have HR : Aside0 (∀ W, Calls Tryd.prog 10 #[.string ⟨#[45, 49, 50]⟩] W fun e w' => e = .returned (.tuple #[.int .i64 (-12), .int .i64 0]) ∧ Below W.heap.size W w') := ⟨fun W => by
    have h := read_calls ⟨#[45, 49, 50]⟩ (by decide) W
    rw [read12] at h
    exact h⟩
  have HL : Aside0 (∀ W, Calls Tryd.prog 19 #[.string ⟨#[97, 32, 98, 10, 99, 10]⟩] W fun e w' => (∃ v, e = .returned (.tuple #[v, .int .i64 0, .int .i64 0]) ∧ Kd.R (Kd.slice 9 Kd.string) 84 w' W.heap.size (fun _ => True) v [[⟨#[97]⟩, ⟨#[98]⟩], [⟨#[99]⟩]]) ∧ Below W.heap.size W w') := ⟨fun W => lines_abc W⟩
  have HD : Aside0 (∀ W, Calls Tryd.prog 12 #[.int .i64 (-12)] W fun e w' => e = .returned (.string ⟨#[45, 49, 50]⟩) ∧ Below W.heap.size W w') := ⟨fun W => by
    have h := dec_calls (-12) (by unfold I64; omega) W
    rw [dec12] at h
    exact h⟩
  have HX : Aside0 (∀ W, Calls Tryd.prog 17 #[.string ⟨#[0, 171]⟩] W fun e w' => e = .returned (.string ⟨#[48, 48, 97, 98]⟩) ∧ Below W.heap.size W w') := ⟨fun W => by
    have h := hex_calls ⟨#[0, 171]⟩ (by decide) W
    rw [hex171] at h
    exact h⟩
  go_enter Tryd.func14, Tryd.ntmps14
  go_wp2_with (first
    | (go_at_call 10; refine (HR.out _).mono ?_; rintro e w1 ⟨rfl, hB⟩; have S1 := Aside0.mk hB; clear hB)
    | (go_at_call 19; refine (HL.out _).mono ?_; rintro e w2 ⟨⟨v, rfl, hR⟩, hB⟩; have S2 := Aside0.mk (S1.out.trans (hB.mono S1.out.size)); clear hB; obtain ⟨A, c, rfl, hcap, hC⟩ := Kd.R_reads hR; clear hR; obtain ⟨ad, cs, rfl, _, ⟨Ae, ce, rfl, hce, hCe⟩, hcell⟩ := Kd.C_get hC [] (0 : Int) (by decide) (by decide); have hcw : Aside0 (w2.cell? ad = some (.slice Ae 2 ce)) := ⟨by have h := hcell 0 _ rfl; rw [show (0 : Int).toNat * (Kd.slice 9 Kd.string).sz + 0 = 0 from rfl, add_nought] at h; exact h⟩; clear hC hcell hCe)
    | (go_at_call 12; refine (HD.out _).mono ?_; rintro e w3 ⟨rfl, hB⟩; have S3 := Aside0.mk (S2.out.trans (hB.mono S2.out.size)); have hcw3 := Aside0.mk (pw_cell_below hB hcw.out); clear hB)
    | (go_at_call 17; refine (HX.out _).mono ?_; rintro e w4 ⟨rfl, hB⟩; have S4 := Aside0.mk (S3.out.trans (hB.mono S3.out.size)); have hcw4 := pw_cell_below hB hcw3.out; clear hB))
  go_ret
  exact ⟨rfl, S4.out⟩
end Go.Proofs.YtiddiboclfpklaaDoor.Tx
