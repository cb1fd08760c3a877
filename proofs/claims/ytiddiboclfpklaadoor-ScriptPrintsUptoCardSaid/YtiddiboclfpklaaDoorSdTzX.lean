import Derived.Test.YtiddiboclfpklaaDoorSdTzW
/- The two Prints make one text. -/
namespace Go.Proofs.YtiddiboclfpklaaDoor.Tz
open Go.RowKit Go.Proofs.YtiddiboclfpklaaDoorW.PrintWords Go.Proofs.YtiddiboclfpklaaDoor.PScriptReads Go.Proofs.YtiddiboclfpklaaDoor.Tx
set_option linter.unusedVariables false
set_option linter.unusedSimpArgs false

theorem plain_of (a : List Int) (h : ∀ x ∈ a, 33 ≤ x ∧ x ≤ 126) (hl : 0 < a.length) : plainF (strOfNums a) = true := by
  unfold plainF
  rw [bytesOf_strOf a (fun x hx => by have := h x hx; omega), strOf_size, decide_eq_true hl, Bool.and_true, List.all_eq_true]
  intro x hx
  have := h x hx
  unfold okB
  rw [decide_eq_true this.1, decide_eq_true this.2]
  rfl
theorem decW_plain (n : Int) (hn : I64 n) : plainF (decW n) = true := by
  unfold decW
  have hn' := hn
  unfold I64 at hn'
  by_cases h : n < 0
  · rw [decF_neg n h]
    refine plain_of _ (fun x hx => ?_) (by simp)
    rw [List.mem_cons] at hx
    rcases hx with rfl | hx
    · omega
    · have := digR_byte _ x (List.mem_reverse.1 hx); omega
  · rw [decF_pos n h]
    have hl := digR_len 18 n.toNat (by omega)
    refine plain_of _ (fun x hx => ?_) (by rw [List.length_reverse]; omega)
    have := digR_byte _ x (List.mem_reverse.1 hx); omega
theorem hexL_plain : ∀ l : List Int, (∀ x ∈ l, 0 ≤ x ∧ x < 256) → ∀ x ∈ hexL l, 33 ≤ x ∧ x ≤ 126
  | [], _, x, hx => by cases hx
  | a :: l, h, x, hx => by
    obtain ⟨h0, h1⟩ := h a List.mem_cons_self
    rw [hexL, List.mem_cons, List.mem_cons] at hx
    rcases hx with rfl | rfl | hx
    · unfold figF; split <;> omega
    · unfold figF; split <;> omega
    · exact hexL_plain l (fun y hy => h y (List.mem_cons_of_mem _ hy)) x hx
theorem bytes_small (s : ByteArray) : ∀ x ∈ bytesOf s, 0 ≤ x ∧ x < 256 := by
  intro x hx
  obtain ⟨b, _, rfl⟩ := List.mem_map.1 hx
  have := b.toNat_lt
  omega
theorem hexF_plain (s : ByteArray) : plainF (hexF s) = true := by
  unfold hexF
  by_cases h : s.size = 0
  · rw [if_pos h]; decide
  · rw [if_neg h]
    exact plain_of _ (hexL_plain _ (bytes_small s)) (by rw [hexL_length, bytesOf_length]; omega)
theorem colon_plain (x : ByteArray) (h : plainF x = true) : plainF (⟨#[58]⟩ ++ x) = true := by
  unfold plainF at h ⊢
  rw [Bool.and_eq_true] at h
  have e : bytesOf (⟨#[58]⟩ ++ x) = 58 :: bytesOf x := by
    unfold bytesOf
    rw [ByteArray.data_append]
    simp
  rw [e, List.all_cons, h.1, ByteArray.size_append, decide_eq_true (by have : (⟨#[58]⟩ : ByteArray).size = 1 := rfl; omega)]
  rfl
theorem valueF_plain (v : S107) (h : I64 v.f0) : plainF (valueF v) = true := by
  unfold valueF
  by_cases h0 : v.f1.size = 0
  · rw [if_pos h0]; exact decW_plain v.f0 h
  · rw [if_neg h0]; exact colon_plain _ (hexF_plain _)
theorem word_plain (k : Int) (h1 : 1 ≤ k) (h2 : k ≤ 13) : plainF (wordF k) = true := by
  rcases word_cases k h1 h2 with rfl | rfl | rfl | rfl | rfl | rfl | rfl | rfl | rfl | rfl | rfl | rfl | rfl <;> decide
theorem okL_cons (x : ByteArray) (l : List ByteArray) (h : plainF x = true) (hl : l.all plainF = true) : okL (x :: l) = true := by
  unfold okL
  rw [List.all_cons, h, hl]
  rfl
theorem all_map {α : Type} (f : α → ByteArray) (l : List α) (h : ∀ x ∈ l, plainF (f x) = true) : (l.map f).all plainF = true := by
  rw [List.all_map, List.all_eq_true]
  exact h
theorem line_ok (a : S57) (H : ActOk (act66 a)) (hp : plain40 a = true) : okL (lineA (act66 a)) = true := by
  obtain ⟨⟨k, n, d, f, vs⟩, cut, mount, m, ms⟩ := a
  obtain ⟨hn, hf, hm, hd, hvs, hvl, hms, hml⟩ := H
  dsimp only [act66] at hn hf hm hd hvs hvl hms hml
  cases cut with
  | true => exact okL_cons _ _ (by decide) (by dsimp only [act66]; rw [List.all_cons, decW_plain m hm, Bool.true_and]; exact all_map decW ms (fun x hx => decW_plain x (by have := hms x hx; unfold I64; omega)))
  | false =>
    cases mount with
    | true => exact okL_cons _ _ (by decide) rfl
    | false =>
      have hr : restB k n d f vs m ms.length = true := hp
      unfold restB at hr
      have h1 : ¬ k < 1 := by
        intro h
        rw [decide_eq_true h] at hr
        simp at hr
      have h2 : ¬ 13 < k := by
        intro h
        rw [decide_eq_true h] at hr
        simp at hr
      unfold lineA act66
      dsimp only
      rw [if_neg Bool.false_ne_true, if_neg Bool.false_ne_true]
      refine okL_cons _ _ (word_plain k (by omega) (by omega)) ?_
      by_cases c1 : k = 1
      · rw [if_pos c1, List.all_cons, decW_plain n hn]; rfl
      · rw [if_neg c1]
        by_cases c2 : k = 2
        · rw [if_pos c2, List.all_cons, hexF_plain]; rfl
        · rw [if_neg c2]
          by_cases c3 : k = 11 ∨ k = 12 ∨ k = 13
          · rw [if_pos c3, List.all_cons, List.all_cons, decW_plain f hf, decW_plain n hn]
            exact all_map valueF vs (fun v hv => valueF_plain v (hvs v hv).1)
          · rw [if_neg c3]; rfl
theorem print_one (g0 g1 g2 g3 g4 g5 : Int) (B : ByteArray) (ls : List S57) (hg : I64 g0 ∧ I64 g1 ∧ I64 g2 ∧ I64 g3 ∧ I64 g4 ∧ I64 g5) (hls : ∀ a ∈ ls, ActOk (act66 a)) :
    printF g0 g1 g2 g3 g4 g5 B (ls.map act66) = print40F g0 g1 g2 g3 g4 g5 B ls := by
  obtain ⟨hg0, hg1, hg2, hg3, hg4, hg5⟩ := hg
  have e : (ls.map act66).all plainA = ls.all plain40 := by
    rw [List.all_map]
    congr 1
    funext a
    exact (plain_one a).symm
  unfold printF print40F
  rw [e]
  by_cases h : ls.all plain40 = true
  · rw [if_pos h, if_pos h, joinF, if_pos]
    · rfl
    · unfold rowsOf
      rw [List.all_cons, List.all_cons, List.map_map, List.all_map, Bool.and_eq_true, Bool.and_eq_true]
      refine ⟨okL_cons _ _ (by decide) ?_, okL_cons _ _ (by decide) ?_, ?_⟩
      · rw [List.all_cons, List.all_cons, List.all_cons, List.all_cons, List.all_cons, List.all_cons, decW_plain g0 hg0, decW_plain g1 hg1, decW_plain g2 hg2, decW_plain g3 hg3, decW_plain g4 hg4, decW_plain g5 hg5]; rfl
      · rw [List.all_cons, hexF_plain]; rfl
      · rw [List.all_eq_true] at h ⊢
        intro a ha
        exact line_ok a (hls a ha) (h a ha)
  · rw [if_neg h, if_neg h]
end Go.Proofs.YtiddiboclfpklaaDoor.Tz
