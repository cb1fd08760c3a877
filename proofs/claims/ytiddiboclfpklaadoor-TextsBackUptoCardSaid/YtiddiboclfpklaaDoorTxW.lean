/- TextsLines, walked. -/
import Derived.Test.YtiddiboclfpklaaDoorTxV
import Derived.Test.YtiddiboclfpklaaDoorTxK
namespace Go.Proofs.YtiddiboclfpklaaDoor.Tx
open Go.RowKit Go.Proofs.YtiddiboclfpklaaDoorW.PrintWords
set_option linter.unusedVariables false

/-- Lines that are no longer than this. -/
structure Small (ls : List (List ByteArray)) : Prop where
  txt : (textB ls).length ≤ 16777216
  len : ls.length ≤ 16777216
  row : ∀ l ∈ ls, l.length ≤ 16777216
  word : ∀ l ∈ ls, ∀ x ∈ l, x.size ≤ 16777216
theorem rowsF_length : ∀ (n : Nat) (s : ByteArray), (rowsF n s).length ≤ n
  | 0, s => Nat.le_refl _
  | n + 1, s => by
    rw [rowsF]
    split
    · exact Nat.zero_le _
    · split
      · simp
      · rw [List.length_cons]
        exact Nat.succ_le_succ (rowsF_length n _)
theorem rowsF_size : ∀ (n : Nat) (s : ByteArray), ∀ x ∈ rowsF n s, x.1.size ≤ s.size
  | 0, s, x, hx => by cases hx
  | n + 1, s, x, hx => by
    rw [rowsF] at hx
    split at hx
    · cases hx
    · split at hx
      · rw [List.mem_singleton] at hx
        rw [hx]; exact Nat.le_refl _
      · rw [List.mem_cons] at hx
        rcases hx with rfl | hx
        · simp; omega
        · have := rowsF_size n _ x hx
          simp at this; omega
theorem linesF_small (s : ByteArray) (hs : s.size ≤ 8388608) : (linesF s).1.length ≤ 16777216 ∧ ∀ l ∈ (linesF s).1, l.length ≤ 16777216 := by
  rcases linesF_form s with ⟨_, h⟩ | ⟨h, _⟩
  · rw [h]
    refine ⟨by have := rowsF_length s.size s; rw [List.length_map]; omega, fun l hl => ?_⟩
    obtain ⟨x, hx, rfl⟩ := List.mem_map.1 hl
    have h1 := rowsF_size _ _ x hx
    have h2 := count_le x.1 32
    rw [wordsF_length]; omega
  · rw [h]
    exact ⟨Nat.zero_le _, fun l hl => by cases hl⟩

set_option maxHeartbeats 2000000 in
set_option maxRecDepth 100000 in
theorem textsLines_calls (s : ByteArray) (ls : List (List ByteArray)) (A : Option Addr) (c : Nat) (hs : s.size ≤ 8388608) (hl : Small ls) (w : World) (hr : Kd.C (Kd.slice 9 Kd.string) w A ls.length ls) (hc : ls.length ≤ c) :
    Calls Tryd.prog 5 #[.string s, .slice A ls.length c] w fun e w' => e = .returned (.bool true) ∧ Below w.heap.size w w' := by
  obtain ⟨hsm1, hsm2⟩ := linesF_small s hs
  obtain ⟨L, hL⟩ : ∃ L, (linesF s).1 = L := ⟨_, rfl⟩
  obtain ⟨n1, hn1⟩ : ∃ n1, (linesF s).2.1 = n1 := ⟨_, rfl⟩
  obtain ⟨e1, he1⟩ : ∃ e1, (linesF s).2.2 = e1 := ⟨_, rfl⟩
  obtain ⟨t1, ht1⟩ : ∃ t1, (joinF ls).1 = t1 := ⟨_, rfl⟩
  obtain ⟨f1, hf1⟩ : ∃ f1, (joinF ls).2 = f1 := ⟨_, rfl⟩
  rw [hL] at hsm1 hsm2
  have HLn : Aside0 (∀ W, Calls Tryd.prog 19 #[.string s] W fun e w' => (∃ v, e = .returned (.tuple #[v, .int .i64 n1, .int .i64 e1]) ∧ Kd.R (Kd.slice 9 Kd.string) 84 w' W.heap.size (fun _ => True) v L) ∧ Below W.heap.size W w') := ⟨fun W => by
    have h := lines_calls' s (by omega) W
    rw [hL, hn1, he1] at h
    exact h⟩
  have HRl : Aside0 (∀ W, Calls Tryd.prog 20 #[.string s] W fun e w' => ∃ v0_ : Value, e = .returned (.tuple #[v0_, .int .i64 n1, .int .i64 e1]) ∧ Kd.S (Kd.slice 9 Kd.string) 84 w' W.heap.size (fun _ => True) v0_ L ∧ Below W.heap.size W w') := ⟨fun W => by
    have h := r04_lines_calls s (by omega) W
    rw [hL, hn1, he1] at h
    exact h⟩
  obtain ⟨n, hn⟩ : ∃ n, ls.length = n := ⟨_, rfl⟩
  have HJ : Aside0 (∀ W, Below w.heap.size w W → Calls Tryd.prog 21 #[.slice A n c] W fun e w' => e = .returned (.tuple #[.string t1, .int .i64 f1]) ∧ Below W.heap.size W w') := ⟨fun W hb => by
    have h := join_calls ls A c W (Kd.C_below hr hb) hc hl.word hl.txt
    rw [ht1, hf1, hn] at h
    exact h⟩
  have HK : Aside0 (∀ W, Below w.heap.size w W → Calls Tryd.prog 22 #[.slice A n c] W fun e w' => e = .returned (.tuple #[.string t1, .int .i64 f1]) ∧ Drawn0 W w') := ⟨fun W hb => by
    have h := r04_join_calls ls A c W (Kd.C_below hr hb) hc hl.word hl.txt hl.len hl.row
    rw [ht1, hf1, hn] at h
    exact h⟩
  obtain ⟨m, hm⟩ : ∃ m, L.length = m := ⟨_, rfl⟩
  have HS : Aside0 (∀ (A1 : Option Addr) (c1 : Nat) (A2 : Option Addr) (c2 : Nat) (W : World), Kd.C (Kd.slice 9 Kd.string) W A1 m L → m ≤ c1 → Kd.C (Kd.slice 9 Kd.string) W A2 m L → m ≤ c2 → Calls Tryd.prog 23 #[.slice A1 m c1, .slice A2 m c2] W fun e w' => e = .returned (.bool true) ∧ Drawn0 W w') := ⟨fun A1 c1 A2 c2 W h1 h2 h3 h4 => by
    subst hm
    exact same_calls L A1 c1 A2 c2 W h1 h2 h3 h4 hsm1 hsm2⟩
  have HM := Aside0.mk hm
  rw [hn]
  clear hL hn1 he1 ht1 hf1 hsm1 hsm2 hr hc hl hn hm
  go_enter Tryd.func5, Tryd.ntmps5
  go_upto_region 2 with ((go_at_call 19; refine (HLn.out _).mono ?_; rintro e w1 ⟨⟨v1, rfl, hR⟩, hB⟩; have S1 := Aside0.mk hB; clear hB; obtain ⟨A1, c1, rfl, hc1, hC⟩ := Kd.R_reads hR; rw [HM.out] at hc1 hC ⊢; have C1 := Aside0.mk hC; clear hR hC))
  go_upto_region 3 with ((go_at_call 20; refine (HRl.out _).mono ?_; rintro e w2 ⟨v2, rfl, hR, hB⟩; have S2 := Aside0.mk (S1.out.trans (hB.mono S1.out.size)); have C2 := Aside0.mk (Kd.C_below C1.out hB); clear hB; obtain ⟨A2, c2, rfl, hc2, hC⟩ := Kd.S_reads hR; rw [HM.out] at hc2 hC ⊢; have D2 := Aside0.mk hC; clear hR hC))
  go_upto_region 4 with ((go_at_call 21; refine (HJ.out _ S2.out).mono ?_; rintro e w3 ⟨rfl, hB⟩; have S3 := Aside0.mk (S2.out.trans (hB.mono S2.out.size)); have C3 := Aside0.mk (Kd.C_below C2.out hB); have D3 := Aside0.mk (Kd.C_below D2.out hB); clear hB))
  go_upto_region 5 with ((go_at_call 22; refine (HK.out _ S3.out).mono ?_; rintro e w4 ⟨rfl, hD⟩; have hB := hD.below; have S4 := Aside0.mk (S3.out.trans (hB.mono S3.out.size)); have C4 := Aside0.mk (Kd.C_below C3.out hB); have D4 := Aside0.mk (Kd.C_below D3.out hB); clear hB hD))
  go_wp2_with (first
    | (go_at_call 23; refine (HS.out A1 c1 A2 c2 _ C4.out hc1 D4.out hc2).mono ?_; rintro e w5 ⟨rfl, hD⟩; have hB := hD.below; have S5 := Aside0.mk (S4.out.trans (hB.mono S4.out.size)); clear hB hD)
    | (go_at_call 14; refine (awake_calls _).mono ?_; rintro e w7 ⟨rfl, hB⟩; have S7 := Aside0.mk (S5.out.trans (hB.mono S5.out.size)); clear hB))
  go_ret
  exact ⟨rfl, S7.out⟩
end Go.Proofs.YtiddiboclfpklaaDoor.Tx
