/- A number's text: what Dec makes, and what the document's Dec makes. -/
import Derived.Test.YtiddiboclfpklaaDoorPTextsNumsx2
import Derived.Test.YtiddiboclfpklaaDoorTxC
namespace Go.Proofs.YtiddiboclfpklaaDoor.Tx
open Go.RowKit Go.Proofs.YtiddiboclfpklaaDoorW.PrintWords Go.Proofs.YtiddiboclfpklaaDoor.PTextsNums
set_option linter.unusedVariables false

/-- A number's digits as bytes, the last one first. -/
def digR (u : Nat) : List Int := if u < 10 then [48 + (u : Int)] else (48 + ((u % 10 : Nat) : Int)) :: digR (u / 10)
  termination_by u
  decreasing_by omega
/-- A number's text as bytes. -/
def decF (n : Int) : List Int := if n < 0 then 45 :: (digR (-n).toNat).reverse else (digR n.toNat).reverse
/-- A number of 64 bits with its sign. -/
def I64 (n : Int) : Prop := -9223372036854775808 ≤ n ∧ n ≤ 9223372036854775807

theorem digR_small (u : Nat) (h : u < 10) : digR u = [48 + (u : Int)] := by rw [digR, if_pos h]
theorem digR_big (u : Nat) (h : ¬ u < 10) : digR u = (48 + ((u % 10 : Nat) : Int)) :: digR (u / 10) := by rw [digR, if_neg h]
theorem digR_len : ∀ (n u : Nat), u < 10 ^ (n + 1) → (digR u).length ≤ n + 1 ∧ 0 < (digR u).length
  | 0, u, h => by
    rw [digR_small u (by simpa using h)]
    exact ⟨Nat.le_refl _, Nat.one_pos⟩
  | n + 1, u, h => by
    by_cases h1 : u < 10
    · rw [digR_small u h1]
      exact ⟨by simp, Nat.one_pos⟩
    · rw [digR_big u h1, List.length_cons]
      have := (digR_len n (u / 10) (by rw [Nat.pow_succ] at h; omega)).1
      exact ⟨by omega, by omega⟩
theorem digR_byte (u : Nat) : ∀ x ∈ digR u, 48 ≤ x ∧ x ≤ 57 := by
  induction u using digR.induct with
  | case1 u h =>
    intro x hx
    rw [digR_small u h, List.mem_singleton] at hx
    omega
  | case2 u h ih =>
    intro x hx
    rw [digR_big u h, List.mem_cons] at hx
    rcases hx with rfl | hx
    · omega
    · exact ih x hx
theorem wu_in (n : Int) (h0 : 0 ≤ n) (h : n ≤ 18446744073709551615) : IntKind.u64.wrap n = n := IntWalk.u64_in n ⟨h0, h⟩
theorem tmod_nat (u : Nat) : Int.tmod (u : Int) 10 = ((u % 10 : Nat) : Int) := rfl
theorem tdiv_nat (u : Nat) : Int.tdiv (u : Int) 10 = ((u / 10 : Nat) : Int) := rfl
theorem step_mod (u : Nat) (hu : u < 18446744073709551616) : IntKind.u64.wrap (48 + Int.tmod (u : Int) 10) % 256 = 48 + ((u % 10 : Nat) : Int) := by
  rw [tmod_nat, wu_in _ (by omega) (by omega)]; omega
theorem step_div (u : Nat) (hu : u < 18446744073709551616) : IntKind.u64.wrap (Int.tdiv (u : Int) 10) = ((u / 10 : Nat) : Int) := by
  rw [tdiv_nat, wu_in _ (by omega) (by omega)]

theorem digits_eval : ∀ (k u : Nat) (out : List Int), u < 18446744073709551616 → (digR u).length ≤ k → out.length + k ≤ 1000 → texts_digits.l0 k u out = some (out ++ digR u)
  | 0, u, out, hu, hl, ho => absurd hl (by have := (digR_len 19 u (by omega)).2; omega)
  | k + 1, u, out, hu, hl, ho => by
    rw [texts_digits.l0, if_pos (by omega), Option.bind_some, step_mod u hu, step_div u hu]
    by_cases h : u < 10
    · rw [if_pos (by omega), digR_small u h, Nat.mod_eq_of_lt h]
    · rw [digR_big u h, List.length_cons] at hl
      rw [if_neg (by omega), digits_eval k (u / 10) _ (by omega) (by omega) (by simp; omega), digR_big u h, List.append_assoc, List.singleton_append]
theorem set_mid {α : Type} (A : List α) (b : α) (B : List α) (w : α) (n : Nat) (h : n = A.length) : (A ++ b :: B).set n w = A ++ w :: B := by
  subst h
  rw [List.set_append_right _ _ (Nat.le_refl _), Nat.sub_self, List.set_cons_zero]
theorem rd_mid (A : List Int) (b : Int) (B : List Int) (i : Int) (h : i = A.length) : rd (A ++ b :: B) i = b := by
  subst h
  simp [rd, List.getD_eq_getElem?_getD]
theorem rev_eval : ∀ (k : Nat) (A m B : List Int) (i j : Int), i = A.length → j = i + m.length - 1 → m.length < k → A.length + m.length ≤ 1000 →
    slices_Reverse_byte_byte.l0 k (A ++ m ++ B) i j = some (A ++ m.reverse ++ B)
  | 0, A, m, B, i, j, hi, hj, hk, hc => absurd hk (Nat.not_lt_zero _)
  | k + 1, A, [], B, i, j, hi, hj, hk, hc => by
    rw [slices_Reverse_byte_byte.l0, if_neg (by simp at hj; omega)]
    rfl
  | k + 1, A, [a], B, i, j, hi, hj, hk, hc => by
    rw [slices_Reverse_byte_byte.l0, if_neg (by simp at hj; omega)]
    rfl
  | k + 1, A, a :: c :: m, B, i, j, hi, hj, hk, hc => by
    obtain ⟨m', b, hm⟩ : ∃ m' b, c :: m = m' ++ [b] := by
      rcases List.eq_nil_or_concat (c :: m) with h | ⟨m', b, h⟩
      · cases h
      · exact ⟨m', b, by rw [h, List.concat_eq_append]⟩
    rw [hm] at hj hk hc ⊢
    simp only [List.length_cons, List.length_append, List.length_nil] at hj hk hc
    have e0 : A ++ a :: (m' ++ [b]) ++ B = A ++ a :: (m' ++ b :: B) := by simp
    have e1 : A ++ a :: (m' ++ b :: B) = (A ++ a :: m') ++ b :: B := by simp
    have hl : (A ++ a :: (m' ++ b :: B)).length = A.length + m'.length + 2 + B.length := by simp; omega
    rw [e0, slices_Reverse_byte_byte.l0, hl, if_pos (by omega), if_pos (by omega), if_pos (by omega), if_pos (by omega), if_pos (by omega)]
    have r1 : rd (A ++ a :: (m' ++ b :: B)) i = a := rd_mid _ _ _ _ hi
    have r2 : rd (A ++ a :: (m' ++ b :: B)) j = b := by rw [e1]; exact rd_mid _ _ _ _ (by simp; omega)
    rw [r1, r2, set_mid A a _ b i.toNat (by omega), show A ++ b :: (m' ++ b :: B) = (A ++ b :: m') ++ b :: B by simp, set_mid _ b _ a j.toNat (by simp; omega), IntWalk.wrap64_in _ (by omega), IntWalk.wrap64_in _ (by omega)]
    rw [show (A ++ b :: m') ++ a :: B = (A ++ [b]) ++ m' ++ (a :: B) by simp, rev_eval k (A ++ [b]) m' (a :: B) _ _ (by simp; omega) (by omega) (by omega) (by simp; omega)]
    simp
theorem reverse_eval (k : Nat) (l : List Int) (hk : l.length < k) (hl : l.length ≤ 1000) : slices_Reverse_byte_byte.f k l = some l.reverse := by
  have h := rev_eval k [] l [] 0 ((l.length : Int) - 1) rfl (by omega) hk (by simpa using hl)
  rw [slices_Reverse_byte_byte.f, IntWalk.wrap64_in _ (by omega)]
  simpa using h
theorem decF_neg (n : Int) (h : n < 0) : decF n = 45 :: (digR (-n).toNat).reverse := by rw [decF, if_pos h]
theorem decF_pos (n : Int) (h : ¬ n < 0) : decF n = (digR n.toNat).reverse := by rw [decF, if_neg h]
theorem wu_neg (n : Int) (h : I64 n) (h0 : n < 0) : IntKind.u64.wrap (-(IntKind.u64.wrap n)) = ((-n).toNat : Int) := by
  unfold I64 at h
  have e : IntKind.u64.wrap n = n + 18446744073709551616 := by
    simp [IntKind.wrap, IntKind.bits, IntKind.signed]; omega
  rw [e]
  simp [IntKind.wrap, IntKind.bits, IntKind.signed]
  omega
theorem wu_pos (n : Int) (h : I64 n) (h0 : ¬ n < 0) : IntKind.u64.wrap n = (n.toNat : Int) := by
  unfold I64 at h
  rw [wu_in _ (by omega) (by omega)]; omega
theorem texts_dec_eval (n : Int) (h : I64 n) : texts_Dec.f 40 n = some (strOfNums (decF n)) := by
  have hI := h
  unfold I64 at h
  rw [texts_Dec.f]
  by_cases h0 : n < 0
  · have hl := digR_len 19 (-n).toNat (by omega)
    rw [if_pos h0, wu_neg n hI h0, texts_Dec.j0, texts_digits.f, digits_eval 39 _ _ (by omega) (by omega) (by simp), Option.bind_some, if_pos h0, List.nil_append, if_pos (by omega),
      reverse_eval _ _ (by simp; omega) (by simp; omega), Option.bind_some, decF_neg n h0, List.reverse_append]
    rfl
  · have hl := digR_len 19 n.toNat (by omega)
    rw [if_neg h0, wu_pos n hI h0, texts_Dec.j0, texts_digits.f, digits_eval 39 _ _ (by omega) (by omega) (by simp), Option.bind_some, if_neg h0, List.nil_append,
      reverse_eval _ _ (by omega) (by omega), Option.bind_some, decF_pos n h0]
/-- Dec. -/
theorem dec_calls (n : Int) (h : I64 n) (w : World) : Calls Tryd.prog 12 #[.int .i64 n] w fun e w' => e = .returned (.string (strOfNums (decF n))) ∧ Below w.heap.size w w' :=
  texts_Dec.calls 40 n _ w (texts_dec_eval n h)

theorem strOf_append (a b : List Int) : strOfNums a ++ strOfNums b = strOfNums (a ++ b) := by
  apply ByteArray.ext
  rw [ByteArray.data_append]
  simp [strOfNums]
theorem strOf_size (a : List Int) : (strOfNums a).size = a.length := by
  show (List.toArray (a.map fun n => UInt8.ofNat n.toNat)).size = _
  simp
theorem bytesOf_strOf (a : List Int) (h : ∀ x ∈ a, 0 ≤ x ∧ x < 256) : bytesOf (strOfNums a) = a := by
  unfold bytesOf strOfNums
  simp only [List.map_map]
  conv => rhs; rw [← List.map_id a]
  refine List.map_congr_left fun x hx => ?_
  have := h x hx
  simp
  omega
theorem strOf_bytesOf (s : ByteArray) : strOfNums (bytesOf s) = s := by
  apply ByteArray.ext
  unfold bytesOf strOfNums
  rw [List.map_map, show ((fun n : Int => UInt8.ofNat n.toNat) ∘ fun b : UInt8 => (b.toNat : Int)) = id by funext b; simp]
  simp
theorem str_eq (a : List Int) (s : ByteArray) (h : ∀ x ∈ a, 0 ≤ x ∧ x < 256) : (strOfNums a).toList = s.toList ↔ bytesOf s = a := by
  constructor
  · intro e
    rw [Lib.toList_data, Lib.toList_data] at e
    rw [← bytesOf_strOf a h, bytesOf, bytesOf, e]
  · intro e
    rw [← e, strOf_bytesOf]
theorem decF_byte (n : Int) : ∀ x ∈ decF n, 45 ≤ x ∧ x ≤ 57 := by
  intro x hx
  unfold decF at hx
  split at hx
  · rw [List.mem_cons] at hx
    rcases hx with rfl | hx
    · omega
    · have := digR_byte _ x (List.mem_reverse.1 hx); omega
  · have := digR_byte _ x (List.mem_reverse.1 hx); omega
theorem decF_byte' (n : Int) : ∀ x ∈ decF n, 0 ≤ x ∧ x < 256 := fun x hx => by have := decF_byte n x hx; omega
theorem r04_digits_eval : ∀ (k u : Nat) (acc : ByteArray), u < 18446744073709551616 → (digR u).length ≤ k → acc.size + k ≤ 1000 → instarref04_digits.l0 k u acc = some (strOfNums (digR u).reverse ++ acc)
  | 0, u, out, hu, hl, ho => absurd hl (by have := (digR_len 19 u (by omega)).2; omega)
  | k + 1, u, acc, hu, hl, ho => by
    rw [instarref04_digits.l0]
    by_cases h : u < 10
    · rw [if_neg (by omega), Option.bind_some, strOf_size, if_pos (by simp; omega), digR_small u h, wu_in _ (by omega) (by omega), show (48 + (u : Int)) % 256 = 48 + u by omega]
      rfl
    · rw [digR_big u h, List.length_cons] at hl
      rw [if_pos (by omega), Option.bind_some, strOf_size, if_pos (by simp; omega), step_mod u hu, step_div u hu, r04_digits_eval k (u / 10) _ (by omega) (by omega) (by rw [ByteArray.size_append, strOf_size]; simp; omega), digR_big u h, List.reverse_cons, ← strOf_append, ByteArray.append_assoc]
theorem r04_dec_eval (k : Nat) (hk : 20 ≤ k) (hk2 : k ≤ 900) (n : Int) (h : I64 n) : instarref04_Dec.f k n = some (strOfNums (decF n)) := by
  have hI := h
  unfold I64 at h
  rw [instarref04_Dec.f]
  by_cases h0 : n < 0
  · have hl := digR_len 19 (-n).toNat (by omega)
    have e1 : wrap64 (-(wrap64 (n + 1))) = -(n + 1) := by rw [IntWalk.wrap64_in (n + 1) (by omega), IntWalk.wrap64_in _ (by omega)]
    have e2 : IntKind.u64.wrap (IntKind.u64.wrap (-(n + 1)) + 1) = ((-n).toNat : Int) := by rw [wu_in (-(n + 1)) (by omega) (by omega), wu_in _ (by omega) (by omega)]; omega
    rw [if_pos h0, e1, e2, instarref04_digits.f, r04_digits_eval k _ _ (by omega) (by omega) (by show 0 + k ≤ 1000; omega), Option.bind_some, if_pos (by rw [ByteArray.size_append, strOf_size, List.length_reverse]; show 1 + (_ + 0) ≤ _; omega), decF_neg n h0]
    congr 1
    rw [show (⟨#[45]⟩ : ByteArray) = strOfNums [45] from rfl, show (⟨#[]⟩ : ByteArray) = strOfNums [] from rfl, strOf_append, strOf_append, List.append_nil]
    rfl
  · have hl := digR_len 19 n.toNat (by omega)
    rw [if_neg h0, wu_pos n hI h0, instarref04_digits.f, r04_digits_eval k _ _ (by omega) (by omega) (by show 0 + k ≤ 1000; omega), Option.bind_some, decF_pos n h0]
    congr 1
    rw [show (⟨#[]⟩ : ByteArray) = strOfNums [] from rfl, strOf_append, List.append_nil]
theorem r04_dec_calls (n : Int) (h : I64 n) (w : World) : Calls Tryd.prog 13 #[.int .i64 n] w fun e w' => e = .returned (.string (strOfNums (decF n))) ∧ Below w.heap.size w w' :=
  instarref04_Dec.calls 40 n _ w (r04_dec_eval 40 (by decide) (by decide) n h)
end Go.Proofs.YtiddiboclfpklaaDoor.Tx
