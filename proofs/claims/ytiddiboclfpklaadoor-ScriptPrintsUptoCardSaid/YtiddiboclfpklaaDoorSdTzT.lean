import Derived.Test.YtiddiboclfpklaaDoorSdTzS
/- The two Plains are one. -/
namespace Go.Proofs.YtiddiboclfpklaaDoor.Tz
open Go.RowKit Go.Proofs.YtiddiboclfpklaaDoorW.PrintWords Go.Proofs.YtiddiboclfpklaaDoor.PScriptReads Go.Proofs.YtiddiboclfpklaaDoor.Tx
set_option linter.unusedVariables false
set_option linter.unusedSimpArgs false

theorem eqI_refl : ∀ l : List Int, eqI l l = true
  | [] => rfl
  | x :: l => by rw [eqI, eqI_refl l]; simp
theorem eqV_refl : ∀ l : List S107, eqV l l = true
  | [] => rfl
  | x :: l => by rw [eqV, eqV_refl l]; simp
theorem eqI_nil (l : List Int) : eqI l [] = decide (l.length = 0) := by cases l <;> simp [eqI]
theorem eqV_nil (l : List S107) : eqV l [] = decide (l.length = 0) := by cases l <;> simp [eqV]
theorem toL_e (d : ByteArray) : (d.toList = []) ↔ d = ByteArray.empty := by
  constructor
  · intro h
    refine ByteArray.ext (Array.eq_empty_of_size_eq_zero ?_)
    rw [Lib.toList_data] at h
    have := congrArg List.length h
    simpa using this
  · intro h
    subst h
    rw [Lib.toList_data]
    rfl
theorem word_none (k : Int) (h : k < 1 ∨ 13 < k) : (wordF k).size = 0 := by
  unfold wordF script_word.f
  rw [if_neg (by omega), if_neg (by omega), if_neg (by omega), if_neg (by omega), if_neg (by omega), if_neg (by omega), if_neg (by omega), if_neg (by omega), if_neg (by omega), if_neg (by omega), if_neg (by omega), if_neg (by omega), if_neg (by omega)]
  rfl
theorem word_cases (k : Int) (h1 : 1 ≤ k) (h2 : k ≤ 13) : k = 1 ∨ k = 2 ∨ k = 3 ∨ k = 4 ∨ k = 5 ∨ k = 6 ∨ k = 7 ∨ k = 8 ∨ k = 9 ∨ k = 10 ∨ k = 11 ∨ k = 12 ∨ k = 13 := by omega
theorem word_size (k : Int) (h1 : 1 ≤ k) (h2 : k ≤ 13) : (wordF k).size ≠ 0 := by
  rcases word_cases k h1 h2 with rfl | rfl | rfl | rfl | rfl | rfl | rfl | rfl | rfl | rfl | rfl | rfl | rfl <;> decide
theorem only_tail' (k n : Int) (d : ByteArray) (f : Int) (vs : List S107) (h1 : 1 ≤ k) (h2 : k ≤ 13) : sameOpF ⟨k, n, d, ⟨f, vs⟩⟩ (onlyO ⟨k, n, d, ⟨f, vs⟩⟩) = tailB k n d f vs.length := by
  unfold sameOpF onlyO tailB
  dsimp only
  by_cases c1 : k = 1
  · subst c1
    simp [toL_e, eqV_nil]
  by_cases c2 : k = 2
  · subst c2
    simp [toL_e, eqV_nil]
  by_cases c3 : k = 12
  · subst c3
    simp [toL_e, eqV_refl]
  by_cases c4 : k = 11 ∨ k = 13
  · rw [if_neg c1, if_neg c2, if_neg c3, if_pos c4]
    have c5 : 11 ≤ k := by omega
    simp [toL_e, eqV_nil, c1, c2, c3, c5]
  · rw [if_neg c1, if_neg c2, if_neg c3, if_neg c4]
    have c5 : ¬ 11 ≤ k := by omega
    simp [toL_e, eqV_nil, c1, c2, c3, c5]
theorem plain_one (a : S57) : plain40 a = plainA (act66 a) := by
  obtain ⟨⟨k, n, d, f, vs⟩, cut, mount, m, ms⟩ := a
  unfold plain40 plainA act66
  dsimp only
  cases cut with
  | true =>
    rw [if_pos rfl, if_pos rfl]
    cases mount <;> simp [sameA, eqI_refl, eqI]
  | false =>
    rw [if_neg Bool.false_ne_true, if_neg Bool.false_ne_true]
    cases mount with
    | true => rfl
    | false =>
      rw [if_neg Bool.false_ne_true, if_neg Bool.false_ne_true, restB]
      by_cases h1 : k < 1
      · rw [word_none k (.inl h1)]; simp [h1]
      · by_cases h2 : 13 < k
        · rw [word_none k (.inr h2)]; simp [h2]
        · have h3 := word_size k (by omega) (by omega)
          rw [sameA]
          dsimp only
          rw [only_tail' k n d f vs (by omega) (by omega), eqI_nil]
          simp only [h1, h2, h3, decide_false, Bool.not_false, Bool.true_and, beq_self_eq_true]
          cases decide (m = 0) <;> cases decide (ms.length = 0) <;> cases vs.any bothF <;> cases tailB k n d f vs.length <;> rfl
end Go.Proofs.YtiddiboclfpklaaDoor.Tz
