/- Words and lines: the plain law. -/
import Derived.Test.YtiddiboclfpklaaDoorTxF
import Derived.Test.YtiddiboclfpklaaDoorTxR
namespace Go.Proofs.YtiddiboclfpklaaDoor.Tx
open Go.RowKit Go.Proofs.YtiddiboclfpklaaDoorW.PrintWords
set_option linter.unusedVariables false

def ofL (l : List UInt8) : ByteArray := ⟨l.toArray⟩
theorem ofL_toList (l : List UInt8) : (ofL l).data.toList = l := by simp [ofL]
theorem ofL_data (s : ByteArray) : ofL s.data.toList = s := by
  apply ByteArray.ext
  simp [ofL]
theorem ofL_size (l : List UInt8) : (ofL l).size = l.length := by rw [← data_length, ofL_toList]
theorem ofL_inj {a b : List UInt8} (h : ofL a = ofL b) : a = b := by rw [← ofL_toList a, h, ofL_toList]
theorem eq_ofL {s : ByteArray} {l : List UInt8} (h : s.data.toList = l) : s = ofL l := by rw [← h, ofL_data]
theorem extract_ofL (s : ByteArray) (a b : Nat) (l : List UInt8) (h : (s.data.toList.drop a).take (b - a) = l) : s.extract a b = ofL l := by
  apply eq_ofL
  rw [Lib.extract_data, h]
/-- The words of a line; the lines of a text, and whether each has its end. -/
def wordsL : List UInt8 → List (List UInt8)
  | [] => [[]]
  | b :: l => if b = 32 then [] :: wordsL l else match wordsL l with
    | [] => [[b]]
    | w :: r => (b :: w) :: r
def rowsL : List UInt8 → List (List UInt8 × Bool)
  | [] => []
  | b :: l => if b = 10 then ([], true) :: rowsL l else match rowsL l with
    | [] => [([b], false)]
    | x :: r => (b :: x.1, x.2) :: r
theorem wordsL_ne : ∀ l, wordsL l ≠ []
  | [] => by simp [wordsL]
  | b :: l => by
    unfold wordsL
    split
    · simp
    · split <;> simp
theorem wordsL_none : ∀ a : List UInt8, (∀ x ∈ a, x ≠ 32) → wordsL a = [a]
  | [], _ => rfl
  | b :: a, h => by
    rw [wordsL, if_neg (h b List.mem_cons_self), wordsL_none a (fun x hx => h x (List.mem_cons_of_mem _ hx))]
theorem wordsL_app : ∀ (a r : List UInt8), (∀ x ∈ a, x ≠ 32) → wordsL (a ++ 32 :: r) = a :: wordsL r
  | [], r, _ => by rw [List.nil_append, wordsL, if_pos rfl]
  | b :: a, r, h => by
    rw [List.cons_append, wordsL, if_neg (h b List.mem_cons_self), wordsL_app a r (fun x hx => h x (List.mem_cons_of_mem _ hx))]
theorem rowsL_none : ∀ a : List UInt8, (∀ x ∈ a, x ≠ 10) → a ≠ [] → rowsL a = [(a, false)]
  | [], _, h => absurd rfl h
  | [b], h, _ => by rw [rowsL, if_neg (h b List.mem_cons_self)]; rfl
  | b :: c :: a, h, _ => by
    rw [rowsL, if_neg (h b List.mem_cons_self), rowsL_none (c :: a) (fun x hx => h x (List.mem_cons_of_mem _ hx)) (by simp)]
theorem rowsL_app : ∀ (a r : List UInt8), (∀ x ∈ a, x ≠ 10) → rowsL (a ++ 10 :: r) = (a, true) :: rowsL r
  | [], r, _ => by rw [List.nil_append, rowsL, if_pos rfl]
  | b :: a, r, h => by
    rw [List.cons_append, rowsL, if_neg (h b List.mem_cons_self), rowsL_app a r (fun x hx => h x (List.mem_cons_of_mem _ hx))]
theorem index_none (c : UInt8) : ∀ l : List UInt8, Lib.indexByte l c = -1 → ∀ x ∈ l, x ≠ c
  | [], _, x, hx => by cases hx
  | b :: l, h, x, hx => by
    unfold Lib.indexByte at h
    by_cases hb : (b == c) = true
    · rw [if_pos hb] at h; omega
    · rw [if_neg hb] at h
      have h2 : Lib.indexByte l c = -1 := by
        split at h
        · rename_i h1; exact beq_iff_eq.1 h1
        · have := Lib.indexByte_ge l c; omega
      rw [List.mem_cons] at hx
      rcases hx with rfl | hx
      · exact fun e => hb (beq_iff_eq.2 e)
      · exact index_none c l h2 x hx
theorem index_some (c : UInt8) : ∀ (l : List UInt8) (k : Nat), Lib.indexByte l c = k → l = l.take k ++ c :: l.drop (k + 1) ∧ ∀ x ∈ l.take k, x ≠ c
  | [], k, h => by unfold Lib.indexByte at h; omega
  | b :: l, k, h => by
    unfold Lib.indexByte at h
    by_cases hb : (b == c) = true
    · rw [if_pos hb] at h
      obtain rfl : k = 0 := by omega
      refine ⟨by simp [beq_iff_eq.1 hb], by simp⟩
    · rw [if_neg hb] at h
      split at h
      · omega
      · rename_i h3
        have hne : Lib.indexByte l c ≠ -1 := fun e => h3 (beq_iff_eq.2 e)
        obtain ⟨k', rfl⟩ : ∃ k', k = k' + 1 := ⟨k - 1, by have := Lib.indexByte_ge l c; omega⟩
        obtain ⟨h1, h2⟩ := index_some c l k' (by omega)
        refine ⟨by rw [List.take_succ_cons, List.drop_succ_cons, List.cons_append, ← h1], ?_⟩
        intro x hx
        rw [List.take_succ_cons, List.mem_cons] at hx
        rcases hx with rfl | hx
        · exact fun e => hb (beq_iff_eq.2 e)
        · exact h2 x hx
theorem count_zero (c : UInt8) (l : List UInt8) (h : Lib.countByte l c = 0) : ∀ x ∈ l, x ≠ c := by
  intro x hx e
  subst e
  exact absurd h (by unfold Lib.countByte; have := List.count_pos_iff.2 hx; omega)
theorem splitF_L : ∀ (n : Nat) (s : ByteArray), Lib.countByte s.data.toList 32 = n → splitF 32 n s = (wordsL s.data.toList).map ofL
  | 0, s, h => by
    rw [splitF, wordsL_none _ (count_zero 32 _ h), List.map_cons, List.map_nil, ofL_data]
  | n + 1, s, h => by
    obtain ⟨k, hk, hl, hc⟩ := count_cut s 32 n h
    obtain ⟨h1, h2⟩ := index_some 32 _ k hk
    rw [splitF, hk, Int.toNat_natCast, splitF_L n _ hc, extract_drop]
    conv => rhs; rw [h1]
    rw [wordsL_app _ _ h2, List.map_cons, extract_ofL s 0 k _ rfl, List.drop_zero, Nat.sub_zero]
theorem wordsF_L (s : ByteArray) : wordsF s = (wordsL s.data.toList).map ofL := splitF_L _ s rfl
def rowO (x : List UInt8 × Bool) : ByteArray × Bool := (ofL x.1, x.2)
theorem rowsF_L : ∀ (n : Nat) (s : ByteArray), s.size ≤ n → rowsF n s = (rowsL s.data.toList).map rowO
  | 0, s, h => by
    have : s.data.toList = [] := List.eq_nil_of_length_eq_zero (by rw [data_length]; omega)
    rw [rowsF, this]; rfl
  | n + 1, s, h => by
    rw [rowsF]
    by_cases h0 : s.size = 0
    · have : s.data.toList = [] := List.eq_nil_of_length_eq_zero (by rw [data_length]; exact h0)
      rw [if_pos h0, this]; rfl
    · rw [if_neg h0]
      rcases indexByte_cases s.data.toList 10 with hi | ⟨k, hi, hk⟩
      · rw [if_pos hi, rowsL_none _ (index_none 10 _ hi) (fun e => h0 (by rw [← data_length, e]; rfl)), List.map_cons, List.map_nil, rowO, ofL_data]
      · obtain ⟨h1, h2⟩ := index_some 10 _ k hi
        rw [data_length] at hk
        rw [if_neg (by omega), hi, Int.toNat_natCast, rowsF_L n _ (by simp; omega), extract_drop]
        conv => rhs; rw [h1]
        rw [rowsL_app _ _ h2, List.map_cons, extract_ofL s 0 k _ rfl, List.drop_zero, Nat.sub_zero]
        rfl
/-- What Lines makes. -/
def linesG : List (ByteArray × Bool) → List (List ByteArray) → List (List ByteArray) × Int × Int
  | [], acc => (acc, 0, 0)
  | x :: r, acc => if okRow x then linesG r (acc ++ [wordsF x.1]) else ([], (acc.length : Int) + 1, 4)
def linesF (s : ByteArray) : List (List ByteArray) × Int × Int := linesG (rowsF s.size s) []
theorem linesG_ok : ∀ (r : List (ByteArray × Bool)) (acc : List (List ByteArray)), r.all okRow = true → linesG r acc = (acc ++ r.map (fun x => wordsF x.1), 0, 0)
  | [], acc, _ => by rw [linesG, List.map_nil, List.append_nil]
  | x :: r, acc, h => by
    rw [List.all_cons, Bool.and_eq_true] at h
    rw [linesG, if_pos h.1, linesG_ok r _ h.2, List.map_cons, List.append_assoc, List.singleton_append]
theorem linesG_bad : ∀ (pre : List (ByteArray × Bool)) (x : ByteArray × Bool) (r : List (ByteArray × Bool)) (acc : List (List ByteArray)), pre.all okRow = true → okRow x = false → linesG (pre ++ x :: r) acc = ([], (acc.length : Int) + (pre.length : Int) + 1, 4)
  | [], x, r, acc, _, h => by rw [List.nil_append, linesG, h, if_neg Bool.false_ne_true]; simp
  | y :: pre, x, r, acc, h, h2 => by
    rw [List.all_cons, Bool.and_eq_true] at h
    rw [List.cons_append, linesG, if_pos h.1, linesG_bad pre x r _ h.2 h2]
    simp only [List.length_append, List.length_cons, List.length_nil]
    congr 2
    omega
theorem linesF_form (s : ByteArray) : ((rowsF s.size s).all okRow = true ∧ linesF s = ((rowsF s.size s).map (fun x => wordsF x.1), 0, 0)) ∨ ((linesF s).1 = [] ∧ (linesF s).2.2 = 4) := by
  by_cases h : (rowsF s.size s).all okRow = true
  · exact .inl ⟨h, by rw [linesF, linesG_ok _ _ h, List.nil_append]⟩
  · right
    have key : ∀ (r : List (ByteArray × Bool)) (acc : List (List ByteArray)), ¬ r.all okRow = true → (linesG r acc).1 = [] ∧ (linesG r acc).2.2 = 4 := by
      intro r
      induction r with
      | nil => intro acc h; exact absurd rfl h
      | cons x r ih =>
        intro acc h
        rw [linesG]
        by_cases hx : okRow x = true
        · rw [if_pos hx]
          exact ih _ (fun e => h (by rw [List.all_cons, hx, e]; rfl))
        · rw [if_neg hx]
          exact ⟨rfl, rfl⟩
    exact key _ _ h
/-- Lines, with one list for both ways. -/
theorem lines_calls' (s : ByteArray) (hs : s.size ≤ 16777216) (w : World) :
    Calls Tryd.prog 19 #[.string s] w fun e w' => (∃ v, e = .returned (.tuple #[v, .int .i64 (linesF s).2.1, .int .i64 (linesF s).2.2]) ∧ Kd.R (Kd.slice 9 Kd.string) 84 w' w.heap.size (fun _ => True) v (linesF s).1) ∧ Below w.heap.size w w' := by
  refine (lines_calls s hs w).mono ?_
  rintro e w' ⟨h, hb⟩
  refine ⟨?_, hb⟩
  rcases h with ⟨hall, v, he, hR⟩ | ⟨pre, x, rest, hk, hall, hx, he⟩
  · have e1 : linesF s = ((rowsF s.size s).map (fun x => wordsF x.1), 0, 0) := by rw [linesF, linesG_ok _ _ hall, List.nil_append]
    rw [e1]
    exact ⟨v, he, hR⟩
  · have e1 : linesF s = ([], (pre.length : Int) + 1, 4) := by
      rw [linesF, hk, linesG_bad _ _ _ _ hall hx]
      simp
    rw [e1]
    exact ⟨_, he, Kd.R_nil _ _ _ _ _⟩
end Go.Proofs.YtiddiboclfpklaaDoor.Tx
