/- Plain facts on sets of numbers told by lists, and on which pages are free. No Go in sight. -/
import Derived.Maps.OwnSet
namespace Go.Proofs.Ytnaliaebjeikaaa
open Go.Maps

/-- Those of a list that are pages. -/
def inn (p : Int) (l : List Int) : List Int := l.filter fun n => decide (0 ≤ n) && decide (n < p)
/-- The set as a map's datum. -/
def setD (H : Type) (l : List Int) : DataW H := setOf (.agg []) (l.map (Lit.int .i64))
/-- The pages that are free. -/
def frees (p : Nat) (l : List Int) : List Nat := (List.range p).filter fun n => !l.contains (n : Int)

theorem inn_snoc_in (p : Int) (l : List Int) {x : Int} (h0 : 0 ≤ x) (h1 : x < p) : inn p (l ++ [x]) = inn p l ++ [x] := by
  simp [inn, List.filter_append, h0, h1]
theorem inn_snoc_out (p : Int) (l : List Int) {x : Int} (h : ¬ (0 ≤ x ∧ x < p)) : inn p (l ++ [x]) = inn p l := by
  unfold inn
  rw [List.filter_append]
  have : (decide (0 ≤ x) && decide (x < p)) = false := by
    by_cases h0 : 0 ≤ x
    · have : ¬ x < p := fun h1 => h ⟨h0, h1⟩
      simp [this]
    · simp [h0]
  simp [this]
theorem inn_le (p : Int) (l : List Int) : (inn p l).length ≤ l.length := List.length_filter_le _ _

theorem setD_nil (H : Type) : setD H [] = .map [] := by simp [setD, setOf]
theorem setD_snoc (H : Type) (l : List Int) (x : Int) : setD H (l ++ [x]) = (setD H l).put (.int .i64 x) (.agg []) := by
  unfold setD
  rw [List.map_append, List.map_singleton, setOf_snoc]

theorem keys_lit (l : List Int) : ∀ y ∈ l.map (Lit.int .i64), WideAt.IsKeyLit y := fun y hy => by
  obtain ⟨_, _, rfl⟩ := List.mem_map.1 hy
  trivial

theorem any_key (x : Int) : ∀ l : List Int, (l.map (Lit.int .i64)).any (fun y : Lit => y.sameKey (.int .i64 x)) = l.contains x
  | [] => rfl
  | a :: r => by
    rw [List.map_cons, List.any_cons, List.contains_cons, any_key x r]
    congr 1
    show decide (IntKind.i64 = IntKind.i64 ∧ a = x) = (x == a)
    by_cases e : a = x
    · subst e
      simp
    · have e' : ¬ x = a := fun h => e h.symm
      simp [e, e']

theorem has_setD (H : Type) (l : List Int) (x : Int) : has (setD H l) (.int .i64 x) = l.contains x := by
  unfold setD
  rw [has_setOf _ _ _ (keys_lit l)]
  exact any_key x l

theorem contains_inn (p : Int) (l : List Int) {x : Int} (h0 : 0 ≤ x) (h1 : x < p) : (inn p l).contains x = l.contains x := by
  rw [Bool.eq_iff_iff]
  simp [inn, List.mem_filter, h0, h1]

theorem snoc_ind {α : Type} {P : List α → Prop} (h0 : P []) (h1 : ∀ l x, P l → P (l ++ [x])) (l : List α) : P l := by
  have key : ∀ m : List α, P m.reverse := by
    intro m
    induction m with
    | nil => exact h0
    | cons a m ih => rw [List.reverse_cons]; exact h1 _ _ ih
  have := key l.reverse
  rwa [List.reverse_reverse] at this

theorem size_setD (H : Type) (p : Nat) : ∀ l : List Int, (∀ x ∈ l, 0 ≤ x ∧ x < (p : Int)) → size (setD H l) + (frees p l).length = p := by
  intro l
  refine snoc_ind (P := fun l => (∀ x ∈ l, 0 ≤ x ∧ x < (p : Int)) → size (setD H l) + (frees p l).length = p) ?_ ?_ l
  · intro _
    have e : frees p [] = List.range p := List.filter_eq_self.2 (fun n _ => by simp)
    rw [e]; simp [setD_nil, size]
  · intro l x ih h
    have ih := ih (fun y hy => h y (by simp [hy]))
    obtain ⟨h0, h1⟩ := h x (by simp)
    rw [setD_snoc, size_put (show Tidy (setD H l) from tidy_setOf _ _ (keys_lit l)), has_setD]
    by_cases hc : l.contains x
    · rw [if_pos hc]
      have : frees p (l ++ [x]) = frees p l := by
        unfold frees
        congr 1
        funext n
        by_cases e : (n : Int) = x
        · subst e; simp_all
        · simp [e]
      rw [this]
      exact ih
    · rw [if_neg hc]
      have e1 : (frees p (l ++ [x])).length + 1 = (frees p l).length := by
        obtain ⟨k, rfl⟩ : ∃ k : Nat, x = (k : Int) := ⟨x.toNat, by omega⟩
        have hk : k < p := by omega
        have hmem : k ∈ frees p l := by simp [frees, hk]; simpa using hc
        have hnd : (frees p l).Nodup := List.Nodup.sublist List.filter_sublist List.nodup_range
        have : frees p (l ++ [(k : Int)]) = (frees p l).erase k := by
          rw [List.Nodup.erase_eq_filter hnd]
          unfold frees
          rw [List.filter_filter]
          congr 1
          funext n
          by_cases e : n = k
          · subst e; simp
          · have e' : ((n : Int) = (k : Int)) = False := by simp; omega
            have e2 : (n != k) = true := by simpa using e
            rw [e2]
            simp [e']
        rw [this, List.length_erase_of_mem hmem]
        have := List.length_pos_of_mem hmem
        omega
      omega

theorem inn_in (p : Int) (l : List Int) : ∀ x ∈ inn p l, 0 ≤ x ∧ x < p := fun x hx => by
  have := (List.mem_filter.1 hx).2
  simpa using this

theorem frees_inn (p : Nat) (l : List Int) : frees p (inn p l) = frees p l := by
  unfold frees
  refine List.filter_congr fun n hn => ?_
  rw [contains_inn _ _ (by omega) (by have := List.mem_range.1 hn; omega)]

/-- HOW MANY PAGES ARE FREE. -/
theorem size_inn (H : Type) (p : Nat) (l : List Int) : size (setD H (inn p l)) + (frees p l).length = p := by
  rw [← frees_inn p l]
  exact size_setD H p _ (inn_in _ _)
end Go.Proofs.Ytnaliaebjeikaaa
