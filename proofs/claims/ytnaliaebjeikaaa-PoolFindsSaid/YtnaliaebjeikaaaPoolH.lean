/- Plain facts for the statement PoolFree: the array of the pages that were seen; the pages that are found. -/
import Derived.Test.YtnaliaebjeikaaaPoolD
namespace Go.Proofs.Ytnaliaebjeikaaa
open Go.RowKit Go.Shelf Go.Maps Go.Proofs.YtnaliaebjeikaaaW.PrintWords

/-- Which of the first 128 numbers stand in a list. -/
def seenOf (L : List Int) : List Bool := (List.range 128).map fun j : Nat => L.contains (j : Int)
def seenA (L : List Int) : Array Value := ((seenOf L).map Value.bool).toArray
theorem zero29 (w : World) : (zeroValue 29).run Try.prog w = .ok (.agg (seenA [])) w := by kernel_rfl

theorem seenA_size (L : List Int) : (seenA L).size = 128 := by simp [seenA, seenOf]
theorem seenA_at (L : List Int) (n : Int) (h0 : 0 ≤ n) (h1 : n < 128) : (seenA L)[n.toNat]? = some (.bool (L.contains n)) := by
  have hn : n.toNat < 128 := by omega
  have e : ((n.toNat : Nat) : Int) = n := by omega
  unfold seenA seenOf
  simp only [List.getElem?_toArray, List.getElem?_map, List.getElem?_range hn, Option.map_some, e]

theorem seenA_set (L : List Int) (n : Int) (h0 : 0 ≤ n) (h1 : n < 128) : (seenA L).setIfInBounds n.toNat (.bool true) = seenA (L ++ [n]) := by
  unfold seenA
  rw [List.setIfInBounds_toArray]
  congr 1
  rw [← List.map_set]
  congr 1
  apply List.ext_getElem
  · simp [seenOf]
  · intro i h2 h3
    have hi : i < 128 := by simpa [seenOf] using h3
    rw [List.getElem_set]
    simp only [seenOf, List.getElem_map, List.getElem_range]
    by_cases e : n.toNat = i
    · rw [if_pos e]
      have : (i : Int) = n := by omega
      simp [this]
    · rw [if_neg e]
      have : ¬ (i : Int) = n := by omega
      simp [this]

theorem seenA_out (L : List Int) (n : Int) (h : ¬ (0 ≤ n ∧ n < 128)) : seenA (L ++ [n]) = seenA L := by
  unfold seenA
  congr 2
  unfold seenOf
  apply List.map_congr_left
  intro i hi
  have hi := List.mem_range.1 hi
  have : ¬ (i : Int) = n := by omega
  simp [this]

/-- What is found: pages, free ones, each once. -/
theorem come_mem (p f : Int) (l : List Int) (k : Nat) (hp : 1 ≤ p) : ∀ n ∈ come p f l k, 0 ≤ n ∧ n < p ∧ l.contains n = false := by
  intro n hn
  obtain ⟨h1, h2⟩ := List.mem_filter.1 hn
  obtain ⟨i, _, rfl⟩ := List.mem_map.1 h1
  have a : 0 ≤ turnAt p f i := Int.emod_nonneg _ (by omega)
  have b : turnAt p f i < p := Int.emod_lt_of_pos _ (by omega)
  refine ⟨a, b, ?_⟩
  rw [contains_inn _ _ a b] at h2
  simpa using h2
theorem come_nodup (p f : Int) (l : List Int) (h1 : 1 ≤ p) (h3 : 0 ≤ f) (h4 : f < p) : (come p f l p.toNat).Nodup := by
  obtain ⟨P, rfl⟩ : ∃ P : Nat, p = (P : Int) := ⟨p.toNat, by omega⟩
  obtain ⟨F, rfl⟩ : ∃ F : Nat, f = (F : Int) := ⟨f.toNat, by omega⟩
  rw [Int.toNat_natCast, come, turn_rot P F (by omega)]
  refine List.Nodup.sublist List.filter_sublist ?_
  refine List.Pairwise.map _ (R := fun a b => a ≠ b) (fun a b h => by simp at h; omega) ?_
  have : ((List.range P).drop F ++ (List.range P).take F).Perm (List.range P) := by
    have h := List.perm_append_comm (l₁ := (List.range P).drop F) (l₂ := (List.range P).take F)
    rwa [List.take_append_drop] at h
  exact this.nodup_iff.2 List.nodup_range

theorem not_seen (l r : List Int) (k : Nat) (hk : k < r.length) (hm : ∀ n ∈ r, l.contains n = false) (hd : r.Nodup) : (l ++ r.take k).contains (rd r k) = false := by
  have e : rd r k = r[k] := by simp [rd, List.getD, hk]
  rw [e, Bool.eq_false_iff]
  intro h
  rw [List.contains_iff_mem, List.mem_append] at h
  rcases h with h | h
  · have := hm _ (List.getElem_mem hk)
    rw [Bool.eq_false_iff] at this
    exact this (List.contains_iff_mem.2 h)
  · have h2 : r = r.take k ++ r[k] :: r.drop (k + 1) := by rw [List.getElem_cons_drop, List.take_append_drop]
    rw [h2] at hd
    have := (List.nodup_append.1 hd).2.2 _ h _ (List.mem_cons_self)
    exact this rfl
end Go.Proofs.Ytnaliaebjeikaaa
