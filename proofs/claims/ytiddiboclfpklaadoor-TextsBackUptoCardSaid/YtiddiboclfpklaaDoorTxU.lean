/- The document's words, lines, Join and Same: what they make. -/
import Derived.Test.YtiddiboclfpklaaDoorTxT
import Derived.Test.YtiddiboclfpklaaDoorTxS
namespace Go.Proofs.YtiddiboclfpklaaDoor.Tx
open Go.RowKit Go.Proofs.YtiddiboclfpklaaDoorW.PrintWords Go.Proofs.YtiddiboclfpklaaDoor.PTextsLines Go.Proofs.YtiddiboclfpklaaDoor.TxS
set_option linter.unusedVariables false

theorem drop_one {l : List Int} {i : Nat} {a : Int} {r : List Int} (h : l.drop i = a :: r) : rd l (i : Int) = a ∧ l.drop (i + 1) = r := by
  have h0 : l[i]? = some a := by
    have := congrArg (fun l => l[0]?) h
    simpa using this
  exact ⟨by simp [rd, List.getD_eq_getElem?_getD, h0], by rw [← List.drop_drop, h]; rfl⟩
theorem word_loop (s : ByteArray) : ∀ (l : List Int) (i k : Nat), (bytesOf s).drop i = l → i + l.length = s.size → s.size ≤ 16777216 → l.length < k → instarref04_Word.l0 k s i = some (l.all okB && decide (0 < s.size))
  | [], i, k, hl, hi, hs, hk => by
    obtain ⟨k, rfl⟩ : ∃ k', k = k' + 1 := ⟨k - 1, by simp at hk; omega⟩
    simp only [List.length_nil, Nat.add_zero] at hi
    rw [instarref04_Word.l0, if_neg (by omega), List.all_nil, Bool.true_and]
    congr 1
    by_cases h : 0 < s.size
    · rw [decide_eq_true h, decide_eq_true (by omega)]
    · rw [decide_eq_false h, decide_eq_false (by omega)]
  | a :: l, i, k, hl, hi, hs, hk => by
    simp only [List.length_cons] at hi hk
    obtain ⟨k, rfl⟩ : ∃ k', k = k' + 1 := ⟨k - 1, by omega⟩
    obtain ⟨r0, r1⟩ := drop_one hl
    rw [rd_bytesOf] at r0
    rw [instarref04_Word.l0, if_pos (by omega), if_pos (by omega), r0, List.all_cons]
    by_cases h1 : a < 33
    · rw [if_pos h1, show okB a = false by simp [okB]; omega, Bool.false_and, Bool.false_and]
    · rw [if_neg h1]
      by_cases h2 : a > 126
      · rw [if_pos h2, show okB a = false by simp [okB]; omega, Bool.false_and, Bool.false_and]
      · rw [if_neg h2, show okB a = true by simp [okB]; omega, Bool.true_and, IntWalk.wrap64_in _ (by omega)]
        have := word_loop s l (i + 1) k r1 (by omega) hs (by omega)
        rw [Int.natCast_add] at this
        exact this
theorem word_eval (s : ByteArray) (k : Nat) (hs : s.size ≤ 16777216) (hk : s.size < k) : instarref04_Word.f k s = some (plainF s) :=
  word_loop s (bytesOf s) 0 k rfl (by rw [bytesOf_length]; omega) hs (by rw [bytesOf_length]; exact hk)

theorem byte_at {s : ByteArray} {at_ : Nat} {a l : List UInt8} {b : UInt8} (h : s.data.toList.drop at_ = a ++ b :: l) : bt s ((at_ + a.length : Nat) : Int) = (b.toNat : Int) := by
  have h0 : s.data.toList[at_ + a.length]? = some b := by
    have := congrArg (fun l => l[a.length]?) h
    simpa using this
  rw [← rd_bytesOf, bytesOf]
  simp only [rd, Int.toNat_natCast]
  rw [List.getD_eq_getElem?_getD, List.getElem?_map, h0]
  rfl
theorem next_at {s : ByteArray} {at_ : Nat} {a l : List UInt8} {b : UInt8} (h : s.data.toList.drop at_ = a ++ b :: l) : s.data.toList.drop (at_ + a.length + 1) = l := by
  rw [Nat.add_assoc, ← List.drop_drop, h, List.drop_append, List.drop_of_length_le (by omega), List.nil_append, Nat.add_sub_cancel_left]
  rfl
theorem cut_at {s : ByteArray} {at_ : Nat} {a l : List UInt8} (h : s.data.toList.drop at_ = a ++ l) : s.extract at_ (at_ + a.length) = ofL a := by
  refine extract_ofL s _ _ _ ?_
  rw [h, Nat.add_sub_cancel_left, List.take_append_of_le_length (Nat.le_refl _), List.take_length]
theorem byte_eq (b c : UInt8) : ((b.toNat : Int) == (c.toNat : Int)) = decide (b = c) := by
  by_cases h : b = c
  · rw [decide_eq_true h, h]; exact beq_self_eq_true _
  · rw [decide_eq_false h]
    refine beq_eq_false_iff_ne.2 fun e => h ?_
    exact UInt8.toNat_inj.1 (by omega)
theorem words_loop (s : ByteArray) (hs : s.size ≤ 16777216) : ∀ (l a : List UInt8) (acc : List ByteArray) (at_ k : Nat), s.data.toList.drop at_ = a ++ l → at_ + a.length + l.length = s.size → (∀ x ∈ a, x ≠ 32) → acc.length ≤ at_ → 2 * l.length + s.size + 10 ≤ k →
    instarref04_words.l0 k s acc at_ ((at_ + a.length : Nat) : Int) = some (if ((wordsL (a ++ l)).map ofL).all plainF then (acc ++ (wordsL (a ++ l)).map ofL, true) else ([], false))
  | [], a, acc, at_, k, hd, hi, hn, ha, hk => by
    simp only [List.length_nil, Nat.add_zero] at hi
    obtain ⟨k, rfl⟩ : ∃ k', k = k' + 3 := ⟨k - 3, by omega⟩
    have hc := cut_at hd
    have hz : (ofL a).size ≤ s.size := by rw [ofL_size]; omega
    rw [instarref04_words.l0, if_pos (by omega), if_pos (by omega), instarref04_words.j1, if_pos rfl, if_pos (by omega), if_pos (by omega), if_pos (by omega), Int.toNat_natCast, Int.toNat_natCast, hc, word_eval _ _ (by omega) (by simp at hk; omega), Option.bind_some, List.append_nil, wordsL_none a hn, List.map_cons, List.map_nil, List.all_cons, List.all_nil, Bool.and_true]
    by_cases hp : plainF (ofL a) = true
    · rw [if_pos hp, if_pos hp, if_pos (by omega), IntWalk.wrap64_in _ (by omega), instarref04_words.l0, if_neg (by omega)]
    · rw [if_neg hp, if_neg hp]
  | b :: l, a, acc, at_, k, hd, hi, hn, ha, hk => by
    simp only [List.length_cons] at hi hk
    obtain ⟨k, rfl⟩ : ∃ k', k = k' + 2 := ⟨k - 2, by omega⟩
    have hb := byte_at hd
    rw [instarref04_words.l0, if_pos (by omega), if_neg (by omega), if_pos (by omega), if_pos (by omega), hb, show (32 : Int) = ((32 : UInt8).toNat : Int) from rfl, byte_eq, instarref04_words.j1]
    by_cases h32 : b = 32
    · have hc := cut_at hd
      have hz : (ofL a).size ≤ s.size := by rw [ofL_size]; omega
      subst h32
      rw [decide_eq_true rfl, if_pos rfl, if_pos (by omega), if_pos (by omega), if_pos (by omega), Int.toNat_natCast, Int.toNat_natCast, hc, word_eval _ _ (by omega) (by omega), Option.bind_some, wordsL_app a l hn, List.map_cons, List.all_cons]
      by_cases hp : plainF (ofL a) = true
      · have h := words_loop s hs l [] (acc ++ [ofL a]) (at_ + a.length + 1) k (next_at hd) (by simp; omega) (by simp) (by simp; omega) (by omega)
        rw [hp, if_pos rfl, if_pos (by omega), IntWalk.wrap64_in _ (by omega), Bool.true_and]
        rw [List.nil_append, List.append_assoc, List.singleton_append] at h
        exact h
      · rw [if_neg hp, show plainF (ofL a) = false from by simpa using hp, Bool.false_and, if_neg Bool.false_ne_true]
    · rw [decide_eq_false h32, if_neg Bool.false_ne_true, IntWalk.wrap64_in _ (by omega)]
      have h := words_loop s hs l (a ++ [b]) acc at_ k (by rw [hd, List.append_assoc, List.singleton_append]) (by simp; omega) (by
        intro x hx
        rw [List.mem_append, List.mem_singleton] at hx
        rcases hx with hx | rfl
        · exact hn x hx
        · exact h32) ha (by omega)
      rw [List.append_assoc, List.singleton_append, List.length_append, List.length_singleton] at h
      exact h
theorem words_eval (s : ByteArray) (k : Nat) (hs : s.size ≤ 16777216) (hk : 3 * s.size + 10 ≤ k) : instarref04_words.f k s = some (if (wordsF s).all plainF then (wordsF s, true) else ([], false)) := by
  have h := words_loop s hs s.data.toList [] [] 0 k rfl (by rw [data_length]; simp) (by simp) (Nat.le_refl _) (by rw [data_length]; omega)
  rw [List.nil_append, List.nil_append, ← wordsF_L] at h
  exact h
theorem lines_loop (s : ByteArray) (hs : s.size ≤ 16777216) : ∀ (l a : List UInt8) (acc : List (List ByteArray)) (at_ k : Nat), s.data.toList.drop at_ = a ++ l → at_ + a.length + l.length = s.size → (∀ x ∈ a, x ≠ 10) → acc.length ≤ at_ → l.length + 3 * s.size + 20 ≤ k →
    instarref04_Lines.l0 k s acc at_ ((at_ + a.length : Nat) : Int) = some (linesG ((rowsL (a ++ l)).map rowO) acc)
  | [], a, acc, at_, k, hd, hi, hn, ha, hk => by
    simp only [List.length_nil, Nat.add_zero] at hi
    obtain ⟨k, rfl⟩ : ∃ k', k = k' + 1 := ⟨k - 1, by omega⟩
    rw [instarref04_Lines.l0, if_neg (by omega), List.append_nil]
    by_cases h0 : a = []
    · subst h0
      simp only [List.length_nil, Nat.add_zero] at hi
      rw [if_neg (by omega)]
      rfl
    · have hl : 0 < a.length := List.length_pos_iff.2 h0
      rw [if_pos (by omega), rowsL_none a hn h0, IntWalk.wrap64_in _ (by omega)]
      rfl
  | b :: l, a, acc, at_, k, hd, hi, hn, ha, hk => by
    simp only [List.length_cons] at hi hk
    obtain ⟨k, rfl⟩ : ∃ k', k = k' + 1 := ⟨k - 1, by omega⟩
    have hb := byte_at hd
    rw [instarref04_Lines.l0, if_pos (by omega), if_pos (by omega), hb]
    by_cases h10 : b = 10
    · subst h10
      have hc := cut_at hd
      have hz : (ofL a).size ≤ s.size := by rw [ofL_size]; omega
      rw [if_pos (show (((10 : UInt8).toNat : Nat) : Int) = 10 from rfl), if_pos (by omega), if_pos (by omega), if_pos (by omega), Int.toNat_natCast, Int.toNat_natCast, hc, words_eval _ _ (by omega) (by omega), Option.bind_some, rowsL_app a l hn, List.map_cons, linesG]
      have hr : okRow (rowO (a, true)) = (wordsF (ofL a)).all plainF := by rw [okRow]; exact Bool.true_and _
      rw [hr]
      by_cases hp : (wordsF (ofL a)).all plainF = true
      · have h := lines_loop s hs l [] (acc ++ [wordsF (ofL a)]) (at_ + a.length + 1) k (next_at hd) (by simp; omega) (by simp) (by simp; omega) (by omega)
        rw [if_pos hp, if_pos rfl, if_pos (by omega), IntWalk.wrap64_in _ (by omega), if_pos hp]
        rw [List.nil_append] at h
        exact h
      · rw [if_neg hp, if_neg Bool.false_ne_true, IntWalk.wrap64_in _ (by omega), if_neg hp]
    · rw [if_neg (fun e => h10 (UInt8.toNat_inj.1 (by have : ((10 : UInt8).toNat : Int) = 10 := rfl; omega))), IntWalk.wrap64_in _ (by omega)]
      have h := lines_loop s hs l (a ++ [b]) acc at_ k (by rw [hd, List.append_assoc, List.singleton_append]) (by simp; omega) (by
        intro x hx
        rw [List.mem_append, List.mem_singleton] at hx
        rcases hx with hx | rfl
        · exact hn x hx
        · exact h10) ha (by omega)
      rw [List.append_assoc, List.singleton_append, List.length_append, List.length_singleton] at h
      exact h
theorem r04_lines_eval (s : ByteArray) (hs : s.size ≤ 16777216) : instarref04_Lines.f (4 * s.size + 20) s = some (linesF s) := by
  have h := lines_loop s hs s.data.toList [] [] 0 (4 * s.size + 20) rfl (by rw [data_length]; simp) (by simp) (Nat.le_refl _) (by rw [data_length]; omega)
  rw [List.nil_append, ← rowsF_L s.size s (Nat.le_refl _)] at h
  exact h
theorem r04_lines_calls (s : ByteArray) (hs : s.size ≤ 16777216) (w : World) :
    Calls Tryd.prog 20 #[.string s] w fun e w' => ∃ v0_ : Value, e = .returned (.tuple #[v0_, .int .i64 (linesF s).2.1, .int .i64 (linesF s).2.2]) ∧ Kd.S (Kd.slice 9 Kd.string) 84 w' w.heap.size (fun _ => True) v0_ (linesF s).1 ∧ Below w.heap.size w w' :=
  instarref04_Lines.calls _ s _ _ _ w (r04_lines_eval s hs)
end Go.Proofs.YtiddiboclfpklaaDoor.Tx
