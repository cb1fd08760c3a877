/- TextsBytes, walked. -/
import Derived.Test.YtiddiboclfpklaaDoorTxN
import Derived.Test.YtiddiboclfpklaaDoorTxK
namespace Go.Proofs.YtiddiboclfpklaaDoor.Tx
open Go.RowKit Go.Proofs.YtiddiboclfpklaaDoorW.PrintWords Go.Proofs.YtiddiboclfpklaaDoor.PTextsNums
set_option linter.unusedVariables false

set_option maxHeartbeats 2000000 in
set_option maxRecDepth 100000 in
theorem bytes_calls (b s : ByteArray) (hb : b.size ≤ 1048576) (hs : s.size ≤ 1048576) (w : World) :
    Calls Tryd.prog 4 #[.string b, .string s] w fun e w' => e = .returned (.bool true) ∧ Below w.heap.size w w' := by
  obtain ⟨x, hx⟩ : ∃ x, (unhexS s).1 = x := ⟨_, rfl⟩
  obtain ⟨y, hy⟩ : ∃ y, (unhexS s).2 = y := ⟨_, rfl⟩
  have HR : Aside0 (∀ W, Calls Tryd.prog 15 #[.string s] W fun e w' => e = .returned (.tuple #[.string x, .int .i64 y]) ∧ Below W.heap.size W w') := ⟨fun W => by
    rw [← hx, ← hy]
    exact unhex_calls s (by omega) W⟩
  have HQ : Aside0 (∀ W, Calls Tryd.prog 16 #[.string s] W fun e w' => e = .returned (.tuple #[.string x, .int .i64 y]) ∧ Below W.heap.size W w') := ⟨fun W => by
    rw [← hx, ← hy]
    exact r04_unhex_calls s (by omega) W⟩
  have hdl : (hexF b).size ≤ 16777216 := by
    unfold hexF
    split
    · decide
    · rw [strOf_size, hexL_length, bytesOf_length]; omega
  have hrd := unhex_of_hex b
  have HD0 : Aside0 (∀ W, Calls Tryd.prog 17 #[.string b] W fun e w' => e = .returned (.string (hexF b)) ∧ Below W.heap.size W w') := ⟨fun W => hex_calls b (by omega) W⟩
  have HE0 : Aside0 (∀ W, Calls Tryd.prog 18 #[.string b] W fun e w' => e = .returned (.string (hexF b)) ∧ Drawn0 W w') := ⟨fun W => r04_hex_calls b (by omega) W⟩
  obtain ⟨d, hd⟩ : ∃ d, hexF b = d := ⟨_, rfl⟩
  rw [hd] at hdl hrd HD0 HE0
  have HD := HD0
  have HE := HE0
  have HF : Aside0 (∀ W, Calls Tryd.prog 15 #[.string d] W fun e w' => e = .returned (.tuple #[.string b, .int .i64 0]) ∧ Below W.heap.size W w') := ⟨fun W => by
    have h := unhex_calls d hdl W
    rw [hrd] at h
    exact h⟩
  clear hx hy hd hdl hrd HD0 HE0
  go_enter Tryd.func4, Tryd.ntmps4
  go_upto_region 2 with ((go_at_call 15; refine (HR.out _).mono ?_; rintro e w1 ⟨rfl, hB⟩; have S1 := Aside0.mk hB; clear hB))
  go_upto_region 3 with ((go_at_call 16; refine (HQ.out _).mono ?_; rintro e w2 ⟨rfl, hB⟩; have S2 := Aside0.mk (S1.out.trans (hB.mono S1.out.size)); clear hB))
  go_upto_region 4 with (first
    | (go_at_call 17; refine (HD.out _).mono ?_; rintro e w3 ⟨rfl, hB⟩; have S3 := Aside0.mk (S2.out.trans (hB.mono S2.out.size)); clear hB)
    | (go_at_call 15; refine (HF.out _).mono ?_; rintro e w4 ⟨rfl, hB⟩; have S4 := Aside0.mk (S3.out.trans (hB.mono S3.out.size)); clear hB))
  go_wp2_with (first
    | (go_at_call 17; refine (HD.out _).mono ?_; rintro e w5 ⟨rfl, hB⟩; have S5 := Aside0.mk (S4.out.trans (hB.mono S4.out.size)); clear hB)
    | (go_at_call 18; refine (HE.out _).mono ?_; rintro e w6 ⟨rfl, hB0⟩; have hB := hB0.below; have S6 := Aside0.mk (S5.out.trans (hB.mono S5.out.size)); clear hB hB0)
    | (go_at_call 14; refine (awake_calls _).mono ?_; rintro e w7 ⟨rfl, hB⟩; have S7 := Aside0.mk (S6.out.trans (hB.mono S6.out.size)); clear hB))
  go_ret
  exact ⟨rfl, S7.out⟩
end Go.Proofs.YtiddiboclfpklaaDoor.Tx
