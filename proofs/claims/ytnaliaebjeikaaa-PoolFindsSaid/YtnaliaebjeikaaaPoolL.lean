/- The plain law of PoolFinds: what the document's functions answer is what the program's answer. -/
import Derived.Test.YtnaliaebjeikaaaPoolH
import Derived.Test.YtnaliaebjeikaaaPoolK
namespace Go.Proofs.Ytnaliaebjeikaaa
open Go.RowKit Go.Shelf Go.Maps Go.Proofs.YtnaliaebjeikaaaW.PrintWords PPoolFinds

theorem w64 {n : Int} (h0 : -9223372036854775808 ≤ n) (h1 : n ≤ 9223372036854775807) : wrap64 n = n := IntWalk.wrap64_in _ ⟨h0, h1⟩

theorem rd_at {l : List Int} {i : Nat} (h : i < l.length) : rd l i = l[i] := by simp [rd, List.getD, h]

theorem has_l0 (l : List Int) (x : Int) (hl : l.length ≤ 1000) : ∀ (d k i : Nat), i + d = l.length → d < k → instarref26_has.l0 k l x i = some ((l.drop i).contains x) := by
  intro d
  induction d with
  | zero =>
    intro k i hi hk
    obtain ⟨k, rfl⟩ : ∃ m, k = m + 1 := ⟨k - 1, by omega⟩
    simp only [instarref26_has.l0]
    rw [if_neg (by omega), List.drop_of_length_le (by omega)]
    rfl
  | succ d ih =>
    intro k i hi hk
    obtain ⟨k, rfl⟩ : ∃ m, k = m + 1 := ⟨k - 1, by omega⟩
    have hlt : i < l.length := by omega
    simp only [instarref26_has.l0]
    rw [if_pos (by omega), if_pos (by omega), List.drop_eq_getElem_cons hlt, List.contains_cons, rd_at hlt]
    by_cases e : l[i] = x
    · rw [if_pos e]
      simp [e]
    · rw [if_neg e, w64 (by omega) (by omega)]
      have := ih k (i + 1) (by omega) (by omega)
      simp only [Int.natCast_add, Int.natCast_one] at this
      rw [this]
      have e' : (x == l[i]) = false := by simpa using fun h => e h.symm
      rw [e', Bool.false_or]
theorem has_f (l : List Int) (x : Int) (hl : l.length ≤ 1000) (k : Nat) (hk : l.length < k) : instarref26_has.f k l x = some (l.contains x) := by
  have := has_l0 l x hl l.length k 0 (by omega) hk
  simpa [instarref26_has.f] using this

theorem same_l0 (l : List Int) (hl : l.length ≤ 1000) : ∀ (d k i : Nat), i + d = l.length → d < k → instarref26_Same.l0 k l l i = some true := by
  intro d
  induction d with
  | zero =>
    intro k i hi hk
    obtain ⟨k, rfl⟩ : ∃ m, k = m + 1 := ⟨k - 1, by omega⟩
    simp only [instarref26_Same.l0]
    rw [if_neg (by omega)]
  | succ d ih =>
    intro k i hi hk
    obtain ⟨k, rfl⟩ : ∃ m, k = m + 1 := ⟨k - 1, by omega⟩
    simp only [instarref26_Same.l0]
    rw [if_pos (by omega), if_pos (by omega), if_pos (by omega), if_pos trivial, w64 (by omega) (by omega)]
    have := ih k (i + 1) (by omega) (by omega)
    simp only [Int.natCast_add, Int.natCast_one] at this
    exact this
theorem same_f (l : List Int) (hl : l.length ≤ 1000) : instarref26_Same.f 1001 l l = some true := by
  unfold instarref26_Same.f
  rw [if_pos rfl]
  exact same_l0 l hl l.length 1001 0 (by omega) (by omega)

theorem come0 (p : Int) (_l : List Int) (i : Nat) (hi : (i : Int) < p) : turnAt p 0 i = i := by
  unfold turnAt
  rw [Int.zero_add, Int.emod_eq_of_lt (by omega) hi]

theorem rest_l0 (p : Int) (hp : p ≤ 128) (l : List Int) (hl : l.length ≤ 300) : ∀ (d k i : Nat), (i : Int) + d = p → 2 * d + 400 < k → instarref26_Rest.l0 k p l (come p 0 l i) i = some (come p 0 l p.toNat) := by
  intro d
  induction d with
  | zero =>
    intro k i hi hk
    obtain ⟨k, rfl⟩ : ∃ m, k = m + 2 := ⟨k - 2, by omega⟩
    simp only [instarref26_Rest.l0, instarref26_Rest.j1]
    rw [if_neg (by omega), if_neg (by decide), show p.toNat = i by omega]
  | succ d ih =>
    intro k i hi hk
    obtain ⟨k, rfl⟩ : ∃ m, k = m + 2 := ⟨k - 2, by omega⟩
    simp only [instarref26_Rest.l0, instarref26_Rest.j1]
    have hc := come_len p 0 l i
    rw [if_pos (by omega), if_pos (by simp; omega), has_f l i (by omega) k (by omega)]
    simp only [Option.bind_some]
    have e1 := come0 p l i (by omega)
    have hin : (inn p l).contains (turnAt p 0 i) = l.contains (i : Int) := by rw [e1]; exact contains_inn p l (by omega) (by omega)
    have ih := ih k (i + 1) (by omega) (by omega)
    simp only [Int.natCast_add, Int.natCast_one] at ih
    rw [w64 (by omega) (by omega)]
    by_cases h : l.contains (i : Int) = true
    · rw [if_pos h]
      rw [come_take p 0 l i (by rw [hin]; exact h)] at ih
      exact ih
    · rw [if_neg h, if_pos (by omega)]
      rw [come_free p 0 l i (by rw [hin]; simpa using h), e1] at ih
      exact ih

theorem rest_f (p : Int) (l : List Int) (hl : l.length ≤ 300) (k : Nat) (hk : 700 < k) : instarref26_Rest.f k p l = some (restR p l) := by
  unfold instarref26_Rest.f restR
  by_cases h : 0 ≤ p ∧ p ≤ 128
  · rw [if_pos h]
    exact rest_l0 p h.2 l hl p.toNat k 0 (by omega) (by omega)
  · rw [if_neg h]
    obtain ⟨k, rfl⟩ : ∃ m, k = m + 2 := ⟨k - 2, by omega⟩
    simp only [instarref26_Rest.l0, instarref26_Rest.j1]
    by_cases h0 : (0 : Int) < p
    · rw [if_pos h0, if_neg (by simp; omega)]
    · rw [if_neg h0, if_neg (by decide)]

theorem restR_len (p : Int) (l : List Int) : ((restR p l).length : Int) = freeN p l := by
  unfold restR
  by_cases h : 0 ≤ p ∧ p ≤ 128
  · rw [if_pos h]
    by_cases hp : p = 0
    · subst hp; simp [come, freeN, frees]
    · exact come_len_all p 0 l (by omega) h.2 (by omega) (by omega)
  · rw [if_neg h, freeN, if_neg h]
    rfl
theorem restR_le (p : Int) (l : List Int) : (restR p l).length ≤ 128 := by
  unfold restR
  split
  · have := come_len p 0 l p.toNat
    omega
  · simp

theorem restR_mem (p : Int) (l : List Int) (h1 : 1 ≤ p) (h2 : p ≤ 128) (n : Int) (h3 : 0 ≤ n) (h4 : n < p) : (restR p l).contains n = !l.contains n := by
  rw [restR, if_pos ⟨by omega, h2⟩, Bool.eq_iff_iff, List.contains_iff_mem]
  constructor
  · intro h
    have := come_mem p 0 l _ h1 n h
    rw [this.2.2]; rfl
  · intro h
    refine List.mem_filter.2 ⟨List.mem_map.2 ⟨n.toNat, List.mem_range.2 (by omega), ?_⟩, ?_⟩
    · rw [come0 p l n.toNat (by omega)]; omega
    · rw [contains_inn p l h3 h4]; exact h

theorem find_l0 (p f n : Int) (l : List Int) (h1 : 1 ≤ p) (h2 : p ≤ 128) (h3 : 0 ≤ f) (h4 : f < p) (h5 : 0 ≤ n) : ∀ (d k i : Nat), (i : Int) + d = p → ((come p f l i).length : Int) ≤ n → 2 * d + 400 < k →
    instarref26_Find.l0 k p f n (restR p l) (come p f l i) i = some ((come p f l p.toNat).take n.toNat, 0) := by
  intro d
  induction d with
  | zero =>
    intro k i hi hn hk
    obtain ⟨k, rfl⟩ : ∃ m, k = m + 2 := ⟨k - 2, by omega⟩
    simp only [instarref26_Find.l0, instarref26_Find.j2]
    rw [if_neg (by omega), if_neg (by decide), show p.toNat = i by omega, List.take_of_length_le (by omega)]
  | succ d ih =>
    intro k i hi hn hk
    obtain ⟨k, rfl⟩ : ∃ m, k = m + 2 := ⟨k - 2, by omega⟩
    have hc := come_len p f l i
    simp only [instarref26_Find.l0, instarref26_Find.j2]
    rw [if_pos (by omega)]
    by_cases hlt : ((come p f l i).length : Int) < n
    · have e0 : Int.tmod (wrap64 (f + i)) p = turnAt p f i := by
        rw [w64 (by omega) (by omega), Int.tmod_eq_emod_of_nonneg (by omega)]
        rfl
      have a : 0 ≤ turnAt p f i := Int.emod_nonneg _ (by omega)
      have b : turnAt p f i < p := Int.emod_lt_of_pos _ (by omega)
      rw [if_pos (by simpa using hlt), if_neg (by omega), e0, has_f _ _ (by have := restR_le p l; omega) k (by have := restR_le p l; omega), restR_mem p l h1 h2 _ a b]
      simp only [Option.bind_some]
      have hin := contains_inn p l a b
      have ih := ih k (i + 1) (by omega)
      simp only [Int.natCast_add, Int.natCast_one] at ih
      rw [w64 (by omega) (by omega)]
      by_cases h : l.contains (turnAt p f i) = true
      · rw [h, if_neg (by decide)]
        rw [come_take p f l i (by rw [hin]; exact h)] at ih
        exact ih hn (by omega)
      · have h' : l.contains (turnAt p f i) = false := by simpa using h
        rw [h', if_pos (by decide), if_pos (by omega)]
        rw [come_free p f l i (by rw [hin]; exact h')] at ih
        exact ih (by simp; omega) (by omega)
    · rw [if_neg (by simpa using hlt)]
      obtain ⟨z, hz⟩ := come_prefix p f l i p.toNat (by omega)
      rw [← hz, show n.toNat = (come p f l i).length by omega, List.take_left]

theorem find_f (p f n : Int) (l : List Int) (hl : l.length ≤ 300) : instarref26_Find.f 1000 p l f n = some (findR p l f n) := by
  have bad : ∀ b : Bool, b = true → instarref26_Find.j0 1000 p l f n b = some ([], 2) := fun b hb => by
    simp only [instarref26_Find.j0]
    rw [if_pos hb]
  unfold instarref26_Find.f findR
  by_cases h1 : p < 1
  · rw [if_pos h1, if_pos (.inl h1)]; exact bad _ rfl
  · rw [if_neg h1]
    by_cases h2 : p > 128
    · rw [if_pos h2, if_pos (.inr (.inl h2))]; exact bad _ rfl
    · rw [if_neg h2]
      by_cases h3 : f < 0
      · rw [if_pos h3, if_pos (.inr (.inr (.inl h3)))]; exact bad _ rfl
      · rw [if_neg h3]
        by_cases h4 : f ≥ p
        · rw [if_pos h4, if_pos (.inr (.inr (.inr (.inl h4))))]; exact bad _ rfl
        · rw [if_neg h4]
          by_cases h5 : n < 0
          · rw [if_pos (.inr (.inr (.inr (.inr h5))))]; exact bad _ (by simpa using h5)
          · rw [if_neg (by unfold badAsk; omega)]
            simp only [instarref26_Find.j0]
            rw [if_neg (by simpa using h5), rest_f p l hl _ (by omega)]
            simp only [Option.bind_some]
            rw [restR_len]
            by_cases h6 : freeN p l < n
            · rw [if_pos h6, if_pos h6]
            · rw [if_neg h6, if_neg h6]
              exact find_l0 p f n l (by omega) (by omega) (by omega) (by omega) (by omega) p.toNat 999 0 (by omega) (by rw [come_zero]; simp; omega) (by omega)
#print axioms find_f
end Go.Proofs.Ytnaliaebjeikaaa
