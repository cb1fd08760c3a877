/- TextsNums, walked. -/
import Derived.Test.YtiddiboclfpklaaDoorTxK
namespace Go.Proofs.YtiddiboclfpklaaDoor.Tx
open Go.RowKit Go.Proofs.YtiddiboclfpklaaDoorW.PrintWords Go.Proofs.YtiddiboclfpklaaDoor.PTextsNums
set_option linter.unusedVariables false

set_option maxHeartbeats 2000000 in
set_option maxRecDepth 100000 in
theorem nums_calls (n : Int) (hn : I64 n) (s : ByteArray) (hs : s.size ≤ 9223372036854775807) (w : World) :
    Calls Tryd.prog 3 #[.int .i64 n, .string s] w fun e w' => e = .returned (.bool true) ∧ Below w.heap.size w w' := by
  obtain ⟨x, hx⟩ : ∃ x, (readU s).1 = x := ⟨_, rfl⟩
  obtain ⟨y, hy⟩ : ∃ y, (readU s).2 = y := ⟨_, rfl⟩
  have HR : Aside0 (∀ W, Calls Tryd.prog 10 #[.string s] W fun e w' => e = .returned (.tuple #[.int .i64 x, .int .i64 y]) ∧ Below W.heap.size W w') := ⟨fun W => by
    rw [← hx, ← hy]
    exact read_calls s hs W⟩
  have HQ : Aside0 (∀ W, Calls Tryd.prog 11 #[.string s] W fun e w' => e = .returned (.tuple #[.int .i64 x, .int .i64 y]) ∧ Below W.heap.size W w') := ⟨fun W => by
    rw [← hx, ← hy, read_same]
    exact r04_read_calls s W⟩
  have hdl : (strOfNums (decF n)).size ≤ 9223372036854775807 := by
    rw [strOf_size]
    have hn' := hn
    unfold I64 at hn'
    by_cases h : n < 0
    · have := digR_len 18 (-n).toNat (by omega)
      rw [decF_neg n h, List.length_cons, List.length_reverse]; omega
    · have := digR_len 18 n.toNat (by omega)
      rw [decF_pos n h, List.length_reverse]; omega
  have hrd := read_dec n hn
  obtain ⟨d, hd⟩ : ∃ d, strOfNums (decF n) = d := ⟨_, rfl⟩
  have HD : Aside0 (∀ W, Calls Tryd.prog 12 #[.int .i64 n] W fun e w' => e = .returned (.string d) ∧ Below W.heap.size W w') := ⟨fun W => by
    rw [← hd]; exact dec_calls n hn W⟩
  have HE : Aside0 (∀ W, Calls Tryd.prog 13 #[.int .i64 n] W fun e w' => e = .returned (.string d) ∧ Below W.heap.size W w') := ⟨fun W => by
    rw [← hd]; exact r04_dec_calls n hn W⟩
  rw [hd] at hdl hrd
  have HF : Aside0 (∀ W, Calls Tryd.prog 10 #[.string d] W fun e w' => e = .returned (.tuple #[.int .i64 n, .int .i64 0]) ∧ Below W.heap.size W w') := ⟨fun W => by
    have h := read_calls d hdl W
    rw [hrd] at h
    exact h⟩
  clear hx hy hd hdl hrd
  go_enter Tryd.func3, Tryd.ntmps3
  go_upto_region 2 with ((go_at_call 10; refine (HR.out _).mono ?_; rintro e w1 ⟨rfl, hB⟩; have S1 := Aside0.mk hB; clear hB))
  go_upto_region 3 with ((go_at_call 11; refine (HQ.out _).mono ?_; rintro e w2 ⟨rfl, hB⟩; have S2 := Aside0.mk (S1.out.trans (hB.mono S1.out.size)); clear hB))
  go_upto_region 4 with (first
    | (go_at_call 12; refine (HD.out _).mono ?_; rintro e w3 ⟨rfl, hB⟩; have S3 := Aside0.mk (S2.out.trans (hB.mono S2.out.size)); clear hB)
    | (go_at_call 10; refine (HF.out _).mono ?_; rintro e w4 ⟨rfl, hB⟩; have S4 := Aside0.mk (S3.out.trans (hB.mono S3.out.size)); clear hB))
  go_wp2_with (first
    | (go_at_call 12; refine (HD.out _).mono ?_; rintro e w5 ⟨rfl, hB⟩; have S5 := Aside0.mk (S4.out.trans (hB.mono S4.out.size)); clear hB)
    | (go_at_call 13; refine (HE.out _).mono ?_; rintro e w6 ⟨rfl, hB⟩; have S6 := Aside0.mk (S5.out.trans (hB.mono S5.out.size)); clear hB)
    | (go_at_call 14; refine (awake_calls _).mono ?_; rintro e w7 ⟨rfl, hB⟩; have S7 := Aside0.mk (S6.out.trans (hB.mono S6.out.size)); clear hB))
  go_ret
  exact ⟨rfl, S7.out⟩
end Go.Proofs.YtiddiboclfpklaaDoor.Tx
