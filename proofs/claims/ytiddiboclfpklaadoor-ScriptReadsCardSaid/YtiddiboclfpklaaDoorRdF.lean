/- Lemmas that the claim's theorem uses. -/
import Derived.Test.YtiddiboclfpklaaDoorRdE
import Derived.Laws.BitsAllLaws
namespace Go.Proofs.YtiddiboclfpklaaDoor.Tx
open Go.RowKit Go.Proofs.YtiddiboclfpklaaDoorW.PrintWords Go.Proofs.YtiddiboclfpklaaDoor.PTextsNums
set_option linter.unusedVariables false
def digR (u : Nat) : List Int := if u < 10 then [48 + (u : Int)] else (48 + ((u % 10 : Nat) : Int)) :: digR (u / 10)
 termination_by u
 decreasing_by omega
def decF (n : Int) : List Int := if n < 0 then 45 :: (digR (-n).toNat).reverse else (digR n.toNat).reverse
def I64 (n : Int) : Prop := -9223372036854775808 ≤ n ∧ n ≤ 9223372036854775807
theorem digR_small (u : Nat) (h : u < 10) : digR u = [48 + (u : Int)] := by rw [digR, if_pos h]
theorem digR_big (u : Nat) (h : ¬ u < 10) : digR u = (48 + ((u % 10 : Nat) : Int)) :: digR (u / 10) := by rw [digR, if_neg h]
theorem digR_len : ∀ (n u : Nat), u < 10 ^ (n + 1) → (digR u).length ≤ n + 1 ∧ 0 < (digR u).length
 | 0, u, h => by
  rw [digR_small u (by simpa using h)]
  exact ⟨Nat.le_refl _, Nat.one_pos⟩
 | n + 1, u, h => by
  by_cases h1 : u < 10
  ·rw [digR_small u h1]
   exact ⟨by simp, Nat.one_pos⟩
  ·rw [digR_big u h1, List.length_cons]
   have := (digR_len n (u / 10) (by rw [Nat.pow_succ] at h; omega)).1
   exact ⟨by omega, by omega⟩
theorem digR_byte (u : Nat) : ∀ x ∈ digR u, 48 ≤ x ∧ x ≤ 57 := by
 induction u using digR.induct with
 | case1 u h =>
  intro x hx
  rw [digR_small u h, List.mem_singleton] at hx
  omega
 | case2 u h ih =>
  intro x hx
  rw [digR_big u h, List.mem_cons] at hx
  rcases hx with rfl | hx
  ·omega
  ·exact ih x hx
theorem wu_in (n : Int) (h0 : 0 ≤ n) (h : n ≤ 18446744073709551615) : IntKind.u64.wrap n = n := IntWalk.u64_in n ⟨h0, h⟩
theorem tmod_nat (u : Nat) : Int.tmod (u : Int) 10 = ((u % 10 : Nat) : Int) := rfl
theorem tdiv_nat (u : Nat) : Int.tdiv (u : Int) 10 = ((u / 10 : Nat) : Int) := rfl
theorem step_mod (u : Nat) (hu : u < 18446744073709551616) : IntKind.u64.wrap (48 + Int.tmod (u : Int) 10) % 256 = 48 + ((u % 10 : Nat) : Int) := by
 rw [tmod_nat, wu_in _ (by omega) (by omega)]; omega
theorem step_div (u : Nat) (hu : u < 18446744073709551616) : IntKind.u64.wrap (Int.tdiv (u : Int) 10) = ((u / 10 : Nat) : Int) := by
 rw [tdiv_nat, wu_in _ (by omega) (by omega)]
theorem digits_eval : ∀ (k u : Nat) (out : List Int), u < 18446744073709551616 → (digR u).length ≤ k → out.length + k ≤ 1000 → texts_digits.l0 k u out = some (out ++ digR u)
 | 0, u, out, hu, hl, ho => absurd hl (by have := (digR_len 19 u (by omega)).2; omega)
 | k + 1, u, out, hu, hl, ho => by
  rw [texts_digits.l0, if_pos (by omega), Option.bind_some, step_mod u hu, step_div u hu]
  by_cases h : u < 10
  ·rw [if_pos (by omega), digR_small u h, Nat.mod_eq_of_lt h]
  ·rw [digR_big u h, List.length_cons] at hl
   rw [if_neg (by omega), digits_eval k (u / 10) _ (by omega) (by omega) (by simp; omega), digR_big u h, List.append_assoc, List.singleton_append]
theorem set_mid {α : Type} (A : List α) (b : α) (B : List α) (w : α) (n : Nat) (h : n = A.length) : (A ++ b :: B).set n w = A ++ w :: B := by
 subst h
 rw [List.set_append_right _ _ (Nat.le_refl _), Nat.sub_self, List.set_cons_zero]
theorem rd_mid (A : List Int) (b : Int) (B : List Int) (i : Int) (h : i = A.length) : rd (A ++ b :: B) i = b := by
 subst h
 simp [rd, List.getD_eq_getElem?_getD]
theorem rev_eval : ∀ (k : Nat) (A m B : List Int) (i j : Int), i = A.length → j = i + m.length - 1 → m.length < k → A.length + m.length ≤ 1000 →
  slices_Reverse_byte_byte.l0 k (A ++ m ++ B) i j = some (A ++ m.reverse ++ B)
 | 0, A, m, B, i, j, hi, hj, hk, hc => absurd hk (Nat.not_lt_zero _)
 | k + 1, A, [], B, i, j, hi, hj, hk, hc => by
  rw [slices_Reverse_byte_byte.l0, if_neg (by simp at hj; omega)]
  rfl
 | k + 1, A, [a], B, i, j, hi, hj, hk, hc => by
  rw [slices_Reverse_byte_byte.l0, if_neg (by simp at hj; omega)]
  rfl
 | k + 1, A, a :: c :: m, B, i, j, hi, hj, hk, hc => by
  obtain ⟨m', b, hm⟩ : ∃ m' b, c :: m = m' ++ [b] := by
   rcases List.eq_nil_or_concat (c :: m) with h | ⟨m', b, h⟩
   ·cases h
   ·exact ⟨m', b, by rw [h, List.concat_eq_append]⟩
  rw [hm] at hj hk hc ⊢
  simp only [List.length_cons, List.length_append, List.length_nil] at hj hk hc
  have e0 : A ++ a :: (m' ++ [b]) ++ B = A ++ a :: (m' ++ b :: B) := by simp
  have e1 : A ++ a :: (m' ++ b :: B) = (A ++ a :: m') ++ b :: B := by simp
  have hl : (A ++ a :: (m' ++ b :: B)).length = A.length + m'.length + 2 + B.length := by simp; omega
  rw [e0, slices_Reverse_byte_byte.l0, hl, if_pos (by omega), if_pos (by omega), if_pos (by omega), if_pos (by omega), if_pos (by omega)]
  have r1 : rd (A ++ a :: (m' ++ b :: B)) i = a := rd_mid _ _ _ _ hi
  have r2 : rd (A ++ a :: (m' ++ b :: B)) j = b := by rw [e1]; exact rd_mid _ _ _ _ (by simp; omega)
  rw [r1, r2, set_mid A a _ b i.toNat (by omega), show A ++ b :: (m' ++ b :: B) = (A ++ b :: m') ++ b :: B by simp, set_mid _ b _ a j.toNat (by simp; omega), IntWalk.wrap64_in _ (by omega), IntWalk.wrap64_in _ (by omega)]
  rw [show (A ++ b :: m') ++ a :: B = (A ++ [b]) ++ m' ++ (a :: B) by simp, rev_eval k (A ++ [b]) m' (a :: B) _ _ (by simp; omega) (by omega) (by omega) (by simp; omega)]
  simp
theorem reverse_eval (k : Nat) (l : List Int) (hk : l.length < k) (hl : l.length ≤ 1000) : slices_Reverse_byte_byte.f k l = some l.reverse := by
 have h := rev_eval k [] l [] 0 ((l.length : Int) - 1) rfl (by omega) hk (by simpa using hl)
 rw [slices_Reverse_byte_byte.f, IntWalk.wrap64_in _ (by omega)]
 simpa using h
theorem decF_neg (n : Int) (h : n < 0) : decF n = 45 :: (digR (-n).toNat).reverse := by rw [decF, if_pos h]
theorem decF_pos (n : Int) (h : ¬ n < 0) : decF n = (digR n.toNat).reverse := by rw [decF, if_neg h]
theorem wu_neg (n : Int) (h : I64 n) (h0 : n < 0) : IntKind.u64.wrap (-(IntKind.u64.wrap n)) = ((-n).toNat : Int) := by
 unfold I64 at h
 have e : IntKind.u64.wrap n = n + 18446744073709551616 := by
  simp [IntKind.wrap, IntKind.bits, IntKind.signed]; omega
 rw [e]
 simp [IntKind.wrap, IntKind.bits, IntKind.signed]
 omega
theorem wu_pos (n : Int) (h : I64 n) (h0 : ¬ n < 0) : IntKind.u64.wrap n = (n.toNat : Int) := by
 unfold I64 at h
 rw [wu_in _ (by omega) (by omega)]; omega
theorem texts_dec_eval (n : Int) (h : I64 n) : texts_Dec.f 40 n = some (strOfNums (decF n)) := by
 have hI := h
 unfold I64 at h
 rw [texts_Dec.f]
 by_cases h0 : n < 0
 ·have hl := digR_len 19 (-n).toNat (by omega)
  rw [if_pos h0, wu_neg n hI h0, texts_Dec.j0, texts_digits.f, digits_eval 39 _ _ (by omega) (by omega) (by simp), Option.bind_some, if_pos h0, List.nil_append, if_pos (by omega),
   reverse_eval _ _ (by simp; omega) (by simp; omega), Option.bind_some, decF_neg n h0, List.reverse_append]
  rfl
 ·have hl := digR_len 19 n.toNat (by omega)
  rw [if_neg h0, wu_pos n hI h0, texts_Dec.j0, texts_digits.f, digits_eval 39 _ _ (by omega) (by omega) (by simp), Option.bind_some, if_neg h0, List.nil_append,
   reverse_eval _ _ (by omega) (by omega), Option.bind_some, decF_pos n h0]
theorem dec_calls (n : Int) (h : I64 n) (w : World) : Calls Tryd.prog 12 #[.int .i64 n] w fun e w' => e = .returned (.string (strOfNums (decF n))) ∧ Below w.heap.size w w' :=
 texts_Dec.calls 40 n _ w (texts_dec_eval n h)
theorem strOf_append (a b : List Int) : strOfNums a ++ strOfNums b = strOfNums (a ++ b) := by
 apply ByteArray.ext
 rw [ByteArray.data_append]
 simp [strOfNums]
theorem strOf_size (a : List Int) : (strOfNums a).size = a.length := by
 show (List.toArray (a.map fun n => UInt8.ofNat n.toNat)).size = _
 simp
theorem bytesOf_strOf (a : List Int) (h : ∀ x ∈ a, 0 ≤ x ∧ x < 256) : bytesOf (strOfNums a) = a := by
 unfold bytesOf strOfNums
 simp only [List.map_map]
 conv => rhs; rw [← List.map_id a]
 refine List.map_congr_left fun x hx => ?_
 have := h x hx
 simp
 omega
theorem strOf_bytesOf (s : ByteArray) : strOfNums (bytesOf s) = s := by
 apply ByteArray.ext
 unfold bytesOf strOfNums
 rw [List.map_map, show ((fun n : Int => UInt8.ofNat n.toNat) ∘ fun b : UInt8 => (b.toNat : Int)) = id by funext b; simp]
 simp
theorem str_eq (a : List Int) (s : ByteArray) (h : ∀ x ∈ a, 0 ≤ x ∧ x < 256) : (strOfNums a).toList = s.toList ↔ bytesOf s = a := by
 constructor
 ·intro e
  rw [Lib.toList_data, Lib.toList_data] at e
  rw [← bytesOf_strOf a h, bytesOf, bytesOf, e]
 ·intro e
  rw [← e, strOf_bytesOf]
theorem decF_byte (n : Int) : ∀ x ∈ decF n, 45 ≤ x ∧ x ≤ 57 := by
 intro x hx
 unfold decF at hx
 split at hx
 ·rw [List.mem_cons] at hx
  rcases hx with rfl | hx
  ·omega
  ·have := digR_byte _ x (List.mem_reverse.1 hx); omega
 ·have := digR_byte _ x (List.mem_reverse.1 hx); omega
theorem decF_byte' (n : Int) : ∀ x ∈ decF n, 0 ≤ x ∧ x < 256 := fun x hx => by have := decF_byte n x hx; omega
theorem r04_digits_eval : ∀ (k u : Nat) (acc : ByteArray), u < 18446744073709551616 → (digR u).length ≤ k → acc.size + k ≤ 1000 → instarref04_digits.l0 k u acc = some (strOfNums (digR u).reverse ++ acc)
 | 0, u, out, hu, hl, ho => absurd hl (by have := (digR_len 19 u (by omega)).2; omega)
 | k + 1, u, acc, hu, hl, ho => by
  rw [instarref04_digits.l0]
  by_cases h : u < 10
  ·rw [if_neg (by omega), Option.bind_some, strOf_size, if_pos (by simp; omega), digR_small u h, wu_in _ (by omega) (by omega), show (48 + (u : Int)) % 256 = 48 + u by omega]
   rfl
  ·rw [digR_big u h, List.length_cons] at hl
   rw [if_pos (by omega), Option.bind_some, strOf_size, if_pos (by simp; omega), step_mod u hu, step_div u hu, r04_digits_eval k (u / 10) _ (by omega) (by omega) (by rw [ByteArray.size_append, strOf_size]; simp; omega), digR_big u h, List.reverse_cons, ← strOf_append, ByteArray.append_assoc]
theorem r04_dec_eval (k : Nat) (hk : 20 ≤ k) (hk2 : k ≤ 900) (n : Int) (h : I64 n) : instarref04_Dec.f k n = some (strOfNums (decF n)) := by
 have hI := h
 unfold I64 at h
 rw [instarref04_Dec.f]
 by_cases h0 : n < 0
 ·have hl := digR_len 19 (-n).toNat (by omega)
  have e1 : wrap64 (-(wrap64 (n + 1))) = -(n + 1) := by rw [IntWalk.wrap64_in (n + 1) (by omega), IntWalk.wrap64_in _ (by omega)]
  have e2 : IntKind.u64.wrap (IntKind.u64.wrap (-(n + 1)) + 1) = ((-n).toNat : Int) := by rw [wu_in (-(n + 1)) (by omega) (by omega), wu_in _ (by omega) (by omega)]; omega
  rw [if_pos h0, e1, e2, instarref04_digits.f, r04_digits_eval k _ _ (by omega) (by omega) (by show 0 + k ≤ 1000; omega), Option.bind_some, if_pos (by rw [ByteArray.size_append, strOf_size, List.length_reverse]; show 1 + (_ + 0) ≤ _; omega), decF_neg n h0]
  congr 1
  rw [show (⟨#[45]⟩ : ByteArray) = strOfNums [45] from rfl, show (⟨#[]⟩ : ByteArray) = strOfNums [] from rfl, strOf_append, strOf_append, List.append_nil]
  rfl
 ·have hl := digR_len 19 n.toNat (by omega)
  rw [if_neg h0, wu_pos n hI h0, instarref04_digits.f, r04_digits_eval k _ _ (by omega) (by omega) (by show 0 + k ≤ 1000; omega), Option.bind_some, decF_pos n h0]
  congr 1
  rw [show (⟨#[]⟩ : ByteArray) = strOfNums [] from rfl, strOf_append, List.append_nil]
theorem r04_dec_calls (n : Int) (h : I64 n) (w : World) : Calls Tryd.prog 13 #[.int .i64 n] w fun e w' => e = .returned (.string (strOfNums (decF n))) ∧ Below w.heap.size w w' :=
 instarref04_Dec.calls 40 n _ w (r04_dec_eval 40 (by decide) (by decide) n h)
end Go.Proofs.YtiddiboclfpklaaDoor.Tx
namespace Go.Proofs.YtiddiboclfpklaaDoor.Tx
open Go.RowKit Go.Proofs.YtiddiboclfpklaaDoorW.PrintWords Go.Proofs.YtiddiboclfpklaaDoor.PTextsNums
set_option linter.unusedVariables false
def isD (x : Int) : Bool := decide (48 ≤ x) && decide (x ≤ 57)
def IsRead (s : ByteArray) (r : Int × Int) : Prop := (r.2 = 0 ∧ I64 r.1 ∧ bytesOf s = decF r.1) ∨ (r = (0, 4) ∧ ∀ n, I64 n → bytesOf s ≠ decF n)
def stepU (u b : Int) : Int := IntKind.u64.wrap (IntKind.u64.wrap (10 * u) + (b - 48))
def stepS (neg : Bool) (n b : Int) : Int := if neg then wrap64 (wrap64 (10 * n) - (b - 48)) else wrap64 (wrap64 (10 * n) + (b - 48))
theorem digR_isD (u : Nat) : (digR u).reverse.all isD = true := by
 rw [List.all_eq_true]
 intro x hx
 have := digR_byte u x (List.mem_reverse.1 hx)
 simp [isD]; omega
theorem stepS_f (n b : Int) : stepS false n b = wrap64 (wrap64 (10 * n) + (b - 48)) := if_neg Bool.false_ne_true
theorem stepS_t (n b : Int) : stepS true n b = wrap64 (wrap64 (10 * n) - (b - 48)) := if_pos rfl
theorem stepU_in (n b : Int) (h0 : 0 ≤ n) (hb : 48 ≤ b) (h : 10 * n + (b - 48) ≤ 18446744073709551615) : stepU n b = 10 * n + (b - 48) := by
 rw [stepU, wu_in (10 * n) (by omega) (by omega), wu_in _ (by omega) (by omega)]
theorem stepF_in (n b : Int) (h0 : 0 ≤ n) (hb : 48 ≤ b) (h : 10 * n + (b - 48) ≤ 9223372036854775807) : stepS false n b = 10 * n + (b - 48) := by
 rw [stepS_f, IntWalk.wrap64_in (10 * n) (by omega), IntWalk.wrap64_in _ (by omega)]
theorem stepT_in (n b : Int) (h0 : n ≤ 0) (hb : 48 ≤ b) (h : -9223372036854775808 ≤ 10 * n - (b - 48)) : stepS true n b = 10 * n - (b - 48) := by
 rw [stepS_t, IntWalk.wrap64_in (10 * n) (by omega), IntWalk.wrap64_in _ (by omega)]
theorem foldU_digR (u : Nat) : u < 18446744073709551616 → (digR u).reverse.foldl stepU 0 = u := by
 induction u using digR.induct with
 | case1 u h =>
  intro hu
  rw [digR_small u h, List.reverse_singleton, List.foldl_cons, List.foldl_nil, stepU_in _ _ (by omega) (by omega) (by omega)]; omega
 | case2 u h ih =>
  intro hu
  rw [digR_big u h, List.reverse_cons, List.foldl_append, ih (by omega), List.foldl_cons, List.foldl_nil, stepU_in _ _ (by omega) (by omega) (by omega)]; omega
theorem foldS_pos (u : Nat) : u ≤ 9223372036854775807 → (digR u).reverse.foldl (stepS false) 0 = (u : Int) := by
 induction u using digR.induct with
 | case1 u h =>
  intro hu
  rw [digR_small u h, List.reverse_singleton, List.foldl_cons, List.foldl_nil, stepF_in _ _ (by omega) (by omega) (by omega)]; omega
 | case2 u h ih =>
  intro hu
  rw [digR_big u h, List.reverse_cons, List.foldl_append, ih (by omega), List.foldl_cons, List.foldl_nil, stepF_in _ _ (by omega) (by omega) (by omega)]; omega
theorem foldS_neg (u : Nat) : u ≤ 9223372036854775808 → (digR u).reverse.foldl (stepS true) 0 = -(u : Int) := by
 induction u using digR.induct with
 | case1 u h =>
  intro hu
  rw [digR_small u h, List.reverse_singleton, List.foldl_cons, List.foldl_nil, stepT_in _ _ (by omega) (by omega) (by omega)]; omega
 | case2 u h ih =>
  intro hu
  rw [digR_big u h, List.reverse_cons, List.foldl_append, ih (by omega), List.foldl_cons, List.foldl_nil, stepT_in _ _ (by omega) (by omega) (by omega)]; omega
theorem wrap64_I (n : Int) : I64 (wrap64 n) := by
 unfold I64 wrap64
 omega
theorem stepS_I (neg : Bool) (n b : Int) : I64 (stepS neg n b) := by
 cases neg
 ·rw [stepS_f]; exact wrap64_I _
 ·rw [stepS_t]; exact wrap64_I _
theorem foldS_I (neg : Bool) : ∀ (l : List Int) (n : Int), I64 n → I64 (l.foldl (stepS neg) n)
 | [], n, h => h
 | b :: l, n, h => by rw [List.foldl_cons]; exact foldS_I neg l _ (stepS_I neg n b)
theorem digR_head (u : Nat) : ∃ x l, (digR u).reverse = x :: l ∧ 48 ≤ x := by
 cases h : (digR u).reverse with
 | nil =>
  have h0 : 0 < (digR u).length := by
   by_cases h1 : u < 10
   ·rw [digR_small u h1]; exact Nat.one_pos
   ·rw [digR_big u h1]; exact Nat.succ_pos _
  rw [← List.length_reverse, h] at h0
  exact absurd h0 (Nat.lt_irrefl 0)
 | cons x l => exact ⟨x, l, rfl, (digR_byte u x (List.mem_reverse.1 (by rw [h]; exact List.mem_cons_self))).1⟩
theorem decF_inj (n m : Int) (hn : I64 n) (hm : I64 m) (h : decF n = decF m) : n = m := by
 unfold I64 at hn hm
 by_cases h1 : n < 0
 ·by_cases h2 : m < 0
  ·rw [decF_neg n h1, decF_neg m h2] at h
   have h3 := (List.cons.inj h).2
   have e1 := foldU_digR (-n).toNat (by omega)
   have e2 := foldU_digR (-m).toNat (by omega)
   rw [h3] at e1
   have := e1.symm.trans e2
   omega
  ·rw [decF_neg n h1, decF_pos m h2] at h
   obtain ⟨x, l, hx, hl⟩ := digR_head m.toNat
   rw [hx] at h
   have := (List.cons.inj h).1
   omega
 ·by_cases h2 : m < 0
  ·rw [decF_pos n h1, decF_neg m h2] at h
   obtain ⟨x, l, hx, hl⟩ := digR_head n.toNat
   rw [hx] at h
   have := (List.cons.inj h).1
   omega
  ·rw [decF_pos n h1, decF_pos m h2] at h
   have e1 := foldU_digR n.toNat (by omega)
   have e2 := foldU_digR m.toNat (by omega)
   rw [h] at e1
   have := e1.symm.trans e2
   omega
theorem IsRead.same {s : ByteArray} {r q : Int × Int} (hr : IsRead s r) (hq : IsRead s q) : r = q := by
 rcases hr with ⟨r2, ri, re⟩ | ⟨rfl, rn⟩
 ·rcases hq with ⟨q2, qi, qe⟩ | ⟨rfl, qn⟩
  ·exact Prod.ext (decF_inj _ _ ri qi (re.symm.trans qe)) (r2.trans q2.symm)
  ·exact absurd re (qn _ ri)
 ·rcases hq with ⟨q2, qi, qe⟩ | ⟨rfl, qn⟩
  ·exact absurd qe (rn _ qi)
  ·rfl
theorem IsRead.of {s : ByteArray} {r : Int × Int} (hr : IsRead s r) (n : Int) (hn : I64 n) (h : bytesOf s = decF n) : r = (n, 0) :=
 hr.same (.inl ⟨rfl, hn, h⟩)
def bare (s : ByteArray) : ByteArray := if 0 < s.size ∧ bt s 0 = 45 then s.extract 1 s.size else s
def readS (s : ByteArray) : Int × Int :=
 if (bare s).size < 1 ∨ 19 < (bare s).size then (0, 4) else
 if (bytesOf (bare s)).all isD then
  (if bytesOf s = decF ((bytesOf (bare s)).foldl (stepS (decide ((bare s).size < s.size))) 0) then ((bytesOf (bare s)).foldl (stepS (decide ((bare s).size < s.size))) 0, 0) else (0, 4))
 else (0, 4)
theorem bytesOf_byte (s : ByteArray) : ∀ x ∈ bytesOf s, 0 ≤ x ∧ x < 256 := by
 intro x hx
 unfold bytesOf at hx
 obtain ⟨b, _, rfl⟩ := List.mem_map.1 hx
 have := b.toNat_lt
 omega
theorem r04_loop (s t : ByteArray) : ∀ (l : List Int) (i : Nat) (n : Int) (k : Nat), (bytesOf t).drop i = l → i ≤ t.size → t.size ≤ 19 → I64 n → 30 + 2 * l.length ≤ k → k ≤ 800 →
  instarref04_Read.l0 k s t n i = some (if l.all isD then (if bytesOf s = decF (l.foldl (stepS (decide (t.size < s.size))) n) then (l.foldl (stepS (decide (t.size < s.size))) n, 0) else (0, 4)) else (0, 4))
 | [], i, n, k, hl, hi, ht, hn, hk, hk2 => by
  have hlen : (bytesOf t).length ≤ i := by
   have := congrArg List.length hl
   rw [List.length_drop] at this
   simp at this; omega
  rw [bytesOf_length] at hlen
  obtain ⟨k, rfl⟩ : ∃ k', k = k' + 1 := ⟨k - 1, by omega⟩
  rw [instarref04_Read.l0, if_neg (by omega), r04_dec_eval k (by simp at hk; omega) (by omega) n hn, Option.bind_some]
  by_cases h : bytesOf s = decF n
  ·rw [if_pos ((str_eq _ s (decF_byte' n)).2 h), List.all_nil, if_pos rfl, List.foldl_nil, if_pos h]
  ·rw [if_neg (fun e => h ((str_eq _ s (decF_byte' n)).1 e)), List.all_nil, if_pos rfl, List.foldl_nil, if_neg h]
 | b :: l, i, n, k, hl, hi, ht, hn, hk, hk2 => by
  have hlen : i < (bytesOf t).length := by
   have := congrArg List.length hl
   rw [List.length_drop] at this
   simp at this; omega
  have hb : bt t (i : Int) = b := by
   rw [← rd_bytesOf]
   have h1 : (bytesOf t)[i]? = some b := by
    have := congrArg (fun l => l[0]?) hl
    simpa using this
   simp [rd, List.getD_eq_getElem?_getD, h1]
  have hb2 : 0 ≤ b ∧ b < 256 := bytesOf_byte t b (List.mem_of_mem_drop (by rw [hl]; exact List.mem_cons_self))
  have hd : (bytesOf t).drop (i + 1) = l := by
   rw [← List.drop_drop, hl]; rfl
  rw [bytesOf_length] at hlen
  simp only [List.length_cons] at hk
  obtain ⟨k, rfl⟩ : ∃ k', k = k' + 2 := ⟨k - 2, by omega⟩
  rw [instarref04_Read.l0, if_pos (by omega), if_pos (by omega), hb, IntWalk.wrap64_in b (by omega), IntWalk.wrap64_in (b - 48) (by omega)]
  have hbad : isD b = false → (some ((0 : Int), (4 : Int))) = some (if (b :: l).all isD then (if bytesOf s = decF ((b :: l).foldl (stepS (decide (t.size < s.size))) n) then ((b :: l).foldl (stepS (decide (t.size < s.size))) n, 0) else (0, 4)) else (0, 4)) := by
   intro h0
   rw [List.all_cons, h0, Bool.false_and, if_neg Bool.false_ne_true]
  by_cases h1 : b - 48 < 0
  ·rw [if_pos h1, instarref04_Read.j4, if_pos rfl]
   exact hbad (by simp [isD]; omega)
  ·rw [if_neg h1, instarref04_Read.j4]
   by_cases h2 : b - 48 > 9
   ·rw [decide_eq_true h2, if_pos rfl]
    exact hbad (by simp [isD]; omega)
   ·rw [decide_eq_false h2, if_neg Bool.false_ne_true, IntWalk.wrap64_in ((i : Int) + 1) (by omega)]
    have hg : isD b = true := by simp [isD]; omega
    rw [List.all_cons, hg, Bool.true_and, List.foldl_cons]
    by_cases h3 : t.size < s.size
    ·rw [if_pos (by omega)]
     have := r04_loop s t l (i + 1) (stepS true n b) k hd (by omega) ht (stepS_I _ _ _) (by omega) (by omega)
     rw [show decide (t.size < s.size) = true from decide_eq_true h3] at this ⊢
     rw [← this, stepS_t, Int.natCast_add, Int.natCast_one]
    ·rw [if_neg (by omega)]
     have := r04_loop s t l (i + 1) (stepS false n b) k hd (by omega) ht (stepS_I _ _ _) (by omega) (by omega)
     rw [show decide (t.size < s.size) = false from decide_eq_false h3] at this ⊢
     rw [← this, stepS_f, Int.natCast_add, Int.natCast_one]
theorem r04_j1 (s t : ByteArray) : instarref04_Read.j1 99 s t = some (if t.size < 1 ∨ 19 < t.size then (0, 4) else
 if (bytesOf t).all isD then
  (if bytesOf s = decF ((bytesOf t).foldl (stepS (decide (t.size < s.size))) 0) then ((bytesOf t).foldl (stepS (decide (t.size < s.size))) 0, 0) else (0, 4))
 else (0, 4)) := by
 rw [instarref04_Read.j1]
 by_cases h1 : t.size < 1
 ·rw [if_pos (by omega), instarref04_Read.j2, if_pos rfl, if_pos (.inl h1)]
 ·rw [if_neg (by omega), instarref04_Read.j2]
  by_cases h2 : 19 < t.size
  ·rw [decide_eq_true (show (t.size : Int) > 19 by omega), if_pos rfl, if_pos (.inr h2)]
  ·rw [decide_eq_false (show ¬ (t.size : Int) > 19 by omega), if_neg Bool.false_ne_true, if_neg (by omega)]
   exact r04_loop s t (bytesOf t) 0 0 97 rfl (Nat.zero_le _) (by omega) (by unfold I64; omega) (by rw [bytesOf_length]; omega) (by omega)
theorem r04_read_eval (s : ByteArray) : instarref04_Read.f 100 s = some (readS s) := by
 have e : readS s = (if (bare s).size < 1 ∨ 19 < (bare s).size then (0, 4) else
 if (bytesOf (bare s)).all isD then
  (if bytesOf s = decF ((bytesOf (bare s)).foldl (stepS (decide ((bare s).size < s.size))) 0) then ((bytesOf (bare s)).foldl (stepS (decide ((bare s).size < s.size))) 0, 0) else (0, 4))
 else (0, 4)) := rfl
 rw [instarref04_Read.f, e, ← r04_j1]
 by_cases h : 0 < s.size
 ·rw [if_pos (by omega), if_pos (by omega), instarref04_Read.j0]
  by_cases h2 : bt s 0 = 45
  ·rw [show (bt s 0 == 45) = true from beq_iff_eq.2 h2, if_pos rfl, if_pos (by omega), bare, if_pos ⟨h, h2⟩]
  ·rw [show (bt s 0 == 45) = false from beq_eq_false_iff_ne.2 h2, if_neg Bool.false_ne_true, bare, if_neg (fun e => h2 e.2)]
 ·rw [if_neg (by omega), instarref04_Read.j0, if_neg Bool.false_ne_true, bare, if_neg (fun e => h e.1)]
theorem r04_read_calls (s : ByteArray) (w : World) : Calls Tryd.prog 11 #[.string s] w fun e w' => e = .returned (.tuple #[.int .i64 (readS s).1, .int .i64 (readS s).2]) ∧ Below w.heap.size w w' :=
 instarref04_Read.calls 100 s _ _ w (r04_read_eval s)
theorem extract_bytes (s : ByteArray) (a : Nat) : bytesOf (s.extract a s.size) = (bytesOf s).drop a := by
 unfold bytesOf
 rw [extract_drop, List.map_drop]
theorem bt0 (s : ByteArray) (b : Int) (l : List Int) (h : bytesOf s = b :: l) : bt s 0 = b ∧ s.size = l.length + 1 := by
 refine ⟨?_, by rw [← bytesOf_length, h]; rfl⟩
 rw [← rd_bytesOf, h]
 rfl
theorem readS_is (s : ByteArray) : IsRead s (readS s) := by
 have key : ∀ n, I64 n → bytesOf s = decF n → readS s = (n, 0) := by
  intro n hn he
  have hn' := hn
  unfold I64 at hn
  by_cases h0 : n < 0
  ·rw [decF_neg n h0] at he
   obtain ⟨h1, h2⟩ := bt0 s _ _ he
   have hl := digR_len 18 (-n).toNat (by omega)
   rw [List.length_reverse] at h2
   have hb : bare s = s.extract 1 s.size := by rw [bare, if_pos ⟨by omega, h1⟩]
   have hz : (bare s).size = s.size - 1 := by rw [hb]; simp
   have hbb : bytesOf (bare s) = (digR (-n).toNat).reverse := by rw [hb, extract_bytes, he]; rfl
   have hf := foldS_neg (-n).toNat (by omega)
   rw [show (-(((-n).toNat : Nat) : Int)) = n by omega] at hf
   unfold readS
   rw [if_neg (by omega), hbb, digR_isD, if_pos rfl, show decide ((bare s).size < s.size) = true from decide_eq_true (by omega), hf, if_pos (by rw [he, decF_neg n h0])]
  ·rw [decF_pos n h0] at he
   obtain ⟨x, l, hx, hx2⟩ := digR_head n.toNat
   have hl := digR_len 18 n.toNat (by omega)
   have hlen : s.size = (digR n.toNat).length := by rw [← bytesOf_length, he, List.length_reverse]
   obtain ⟨h1, h2⟩ := bt0 s x l (he.trans hx)
   have hb : bare s = s := by rw [bare, if_neg (fun e => by have := e.2; omega)]
   have hf := foldS_pos n.toNat (by omega)
   rw [show ((n.toNat : Nat) : Int) = n by omega] at hf
   unfold readS
   rw [hb, if_neg (by omega), he, digR_isD, if_pos rfl, show decide (s.size < s.size) = false from decide_eq_false (Nat.lt_irrefl _), hf, if_pos (decF_pos n h0).symm]
 have form : readS s = (0, 4) ∨ ∃ n, I64 n ∧ bytesOf s = decF n ∧ readS s = (n, 0) := by
  unfold readS
  split
  ·exact .inl rfl
  ·split
   ·split
    ·rename_i h
     exact .inr ⟨_, foldS_I _ _ _ (by unfold I64; omega), h, rfl⟩
    ·exact .inl rfl
   ·exact .inl rfl
 rcases form with h | ⟨n, hn, he, hr⟩
 ·refine .inr ⟨h, fun n hn he => ?_⟩
  rw [key n hn he] at h
  exact absurd (Prod.mk.inj h).2 (by decide)
 ·rw [hr]
  exact .inl ⟨rfl, hn, he⟩
end Go.Proofs.YtiddiboclfpklaaDoor.Tx
namespace Go.Proofs.YtiddiboclfpklaaDoor.Tx
open Go.RowKit Go.Proofs.YtiddiboclfpklaaDoorW.PrintWords Go.Proofs.YtiddiboclfpklaaDoor.PTextsNums
set_option linter.unusedVariables false
def signF (s : ByteArray) : Bool := if 1 < s.size then bt s 0 == 45 else false
def dg (sg : Bool) (l : List Int) : List Int := if sg then l.drop 1 else l
def numU (s : ByteArray) : Int := if signF s then wrap64 (IntKind.u64.wrap (-((dg (signF s) (bytesOf s)).foldl stepU 0))) else wrap64 ((dg (signF s) (bytesOf s)).foldl stepU 0)
def readU (s : ByteArray) : Int × Int := if (dg (signF s) (bytesOf s)).all isD then (if bytesOf s = decF (numU s) then (numU s, 0) else (0, 4)) else (0, 4)
theorem dg_t (l : List Int) : dg true l = l.drop 1 := if_pos rfl
theorem dg_f (l : List Int) : dg false l = l := if_neg Bool.false_ne_true
theorem numU_t (s : ByteArray) (h : signF s = true) : numU s = wrap64 (IntKind.u64.wrap (-((dg true (bytesOf s)).foldl stepU 0))) := by rw [numU, h, if_pos rfl]
theorem numU_f (s : ByteArray) (h : signF s = false) : numU s = wrap64 ((dg false (bytesOf s)).foldl stepU 0) := by rw [numU, h, if_neg Bool.false_ne_true]
theorem numU_I (s : ByteArray) : I64 (numU s) := by
 cases h : signF s
 ·rw [numU_f s h]; exact wrap64_I _
 ·rw [numU_t s h]; exact wrap64_I _
theorem dg_step (sg : Bool) (l : List Int) (x : Int) (h : sg = true → 0 < l.length) : dg sg (l ++ [x]) = dg sg l ++ [x] := by
 cases sg with
 | false => rw [dg_f, dg_f]
 | true =>
  rw [dg_t, dg_t, List.drop_append_of_le_length (h rfl)]
theorem readU_is (s : ByteArray) : IsRead s (readU s) := by
 have key : ∀ n, I64 n → bytesOf s = decF n → readU s = (n, 0) := by
  intro n hn he
  have hn' := hn
  unfold I64 at hn
  by_cases h0 : n < 0
  ·rw [decF_neg n h0] at he
   obtain ⟨h1, h2⟩ := bt0 s _ _ he
   have hl := digR_len 18 (-n).toNat (by omega)
   rw [List.length_reverse] at h2
   have hs : signF s = true := by rw [signF, if_pos (by omega), h1]; rfl
   have hd : dg true (bytesOf s) = (digR (-n).toNat).reverse := by rw [he]; rfl
   have hf := foldU_digR (-n).toNat (by omega)
   have hnum : numU s = n := by
    rw [numU_t s hs, hd, hf, show (-(((-n).toNat : Nat) : Int)) = n by omega]
    simp only [wrap64, IntKind.wrap, IntKind.bits, IntKind.signed]
    simp
    omega
   rw [readU, hs, hd, digR_isD, if_pos rfl, hnum, if_pos (by rw [he, decF_neg n h0])]
  ·rw [decF_pos n h0] at he
   obtain ⟨x, l, hx, hx2⟩ := digR_head n.toNat
   obtain ⟨h1, h2⟩ := bt0 s x l (he.trans hx)
   have hs : signF s = false := by
    rw [signF]
    split
    ·rw [h1]; exact beq_eq_false_iff_ne.2 (by omega)
    ·rfl
   have hf := foldU_digR n.toNat (by omega)
   have hnum : numU s = n := by rw [numU_f s hs, dg_f, he, hf, IntWalk.wrap64_in _ (by omega)]; omega
   rw [readU, hs, dg_f, he, digR_isD, if_pos rfl, hnum, if_pos (decF_pos n h0).symm]
 have form : readU s = (0, 4) ∨ ∃ n, I64 n ∧ bytesOf s = decF n ∧ readU s = (n, 0) := by
  unfold readU
  split
  ·split
   ·rename_i h
    exact .inr ⟨_, numU_I s, h, rfl⟩
   ·exact .inl rfl
  ·exact .inl rfl
 rcases form with h | ⟨n, hn, he, hr⟩
 ·refine .inr ⟨h, fun n hn he => ?_⟩
  rw [key n hn he] at h
  exact absurd (Prod.mk.inj h).2 (by decide)
 ·rw [hr]
  exact .inl ⟨rfl, hn, he⟩
theorem read_same (s : ByteArray) : readU s = readS s := (readU_is s).same (readS_is s)
theorem read_dec (n : Int) (hn : I64 n) : readU (strOfNums (decF n)) = (n, 0) := (readU_is _).of n hn (bytesOf_strOf _ (decF_byte' n))
set_option maxHeartbeats 2000000 in
set_option maxRecDepth 100000 in
theorem read_calls (s : ByteArray) (hs : s.size ≤ 9223372036854775807) (w : World) :
  Calls Tryd.prog 10 #[.string s] w fun e w' => e = .returned (.tuple #[.int .i64 (readU s).1, .int .i64 (readU s).2]) ∧ Below w.heap.size w w' := by
 have hcv := fun W => print_bytes (P := Tryd.prog) 9 80 5 un9 un80 un5 s W
 have hrd := Aside0.mk (bytes_reads w 5 s (by omega))
 have hbl := Aside0.mk (bytes_below (Below.refl w.heap.size w) (Nat.le_refl _) 5 s)
 obtain ⟨sg, hsg⟩ : ∃ sg, signF s = sg := ⟨_, rfl⟩
 have HSG := Aside0.mk hsg
 unfold signF at hsg
 obtain ⟨b0, hb0⟩ : ∃ b0, bt s 0 = b0 := ⟨_, rfl⟩
 rw [hb0] at hsg
 have HC := Aside0.mk (And.intro hsg hb0)
 clear hsg hb0
 go_enter Tryd.func10, Tryd.ntmps10
 go_upto_region 2 with (fail)
 go_cut [5] (fun v5 wc => v5 = .bool sg ∧ w = wc)
 case first =>
  obtain ⟨hsg, hb0⟩ := HC.out
  by_cases h1 : 1 < s.size
  ·rw [if_pos h1] at hsg
   have hs0 : 0 < s.size := by omega
   have hx : ((s[0]'hs0).toNat : Int) = b0 := by rw [← hb0]; exact bt_at s 0 hs0
   have e1 : decide (1 < (s.size : Int)) = true := decide_eq_true (by omega)
   have e2 : decide (1 < s.size) = true := decide_eq_true h1
   have p5 : 0 ≤ (0 : Int) := by omega
   have q5 : (0 < s.size) = True := eq_true hs0
   have hx5 : ∀ h : 0 < s.size, ((s[0]'h).toNat : Int) = b0 := fun _ => hx
   have qi5 : (0 < (s.size : Int)) = True := eq_true (by omega)
   have HS2 := Aside0.mk hsg
   clear hsg hb0 p5 hx
   go_wp2_with fail
   go_meet
   case rel => exact ⟨by rw [← HS2.out], rfl⟩
  ·rw [if_neg h1] at hsg
   have e1 : decide (1 < (s.size : Int)) = false := decide_eq_false (by omega)
   have e2 : decide (1 < s.size) = false := decide_eq_false h1
   have HS2 := Aside0.mk hsg
   clear hsg hb0
   go_wp2_with fail
   go_meet
   case rel => exact ⟨by rw [← HS2.out], rfl⟩
 case rest =>
 obtain ⟨rfl, rfl⟩ := hcut
 clear HC
 go_wp2_with fail
 clear hcv
 go_loopw [4, 20] (fun v i wr => ∃ t : Nat, t ≤ s.size ∧ v = .int .u64 ((dg sg ((bytesOf s).take t)).foldl stepU 0) ∧ i = .int .i64 (t : Int) ∧ Aside0 (ReadsInt wr .u8 (some ⟨w.heap.size, 0, none⟩) s.size (bytesOf s) ∧ Below w.heap.size w wr ∧ (dg sg ((bytesOf s).take t)).all isD = true)) (fun _ i _ => s.size - (intOf i).toNat)
 case atStart => exact ⟨0, by omega, by cases sg <;> rfl, rfl, ⟨hrd.out, hbl.out, by cases sg <;> rfl⟩⟩
 case round =>
  clear hrd hbl
  obtain ⟨t, ht, rfl, rfl, S⟩ := hrel
  by_cases hlt : t < s.size
  ·have hb5 : (0 : Int) ≤ (t : Int) := by omega
   have hb6 : (t : Int) < (s.size : Int) := by omega
   obtain ⟨ad, he, hc⟩ := S.out.1.at_ (t : Int) hb5 hb6
   obtain rfl : (⟨w.heap.size, 0, none⟩ : Addr) = ad := Option.some.inj he
   rw [Int.toNat_natCast, add_plain] at hc
   obtain ⟨x, hx⟩ : ∃ x, rd (bytesOf s) (t : Int) = x := ⟨_, rfl⟩
   rw [hx] at hc
   have hl : t < (bytesOf s).length := by rw [bytesOf_length]; exact hlt
   have hxe : (bytesOf s)[t] = x := by rw [← hx]; simp [rd, hl]
   have hbx : 0 ≤ x ∧ x < 256 := bytesOf_byte s x (by rw [← hxe]; exact List.getElem_mem hl)
   have hbx1 := hbx.1
   have hbx2 := hbx.2
   have htk : (bytesOf s).take (t + 1) = (bytesOf s).take t ++ [x] := by rw [List.take_succ_eq_append_getElem hl, hxe]
   have hlen : ((bytesOf s).take t).length = t := by rw [List.length_take]; omega
   have hal : isD x = false → (sg = true → 0 < t) → readU s = (0, 4) := by
    intro h0 h1
    have hm : x ∈ dg sg (bytesOf s) := by
     cases sg with
     | false => rw [dg_f, ← hxe]; exact List.getElem_mem hl
     | true =>
      rw [dg_t]
      have := h1 rfl
      rw [← hxe]
      have : (bytesOf s)[t] = ((bytesOf s).drop 1)[t - 1]'(by rw [List.length_drop]; omega) := by
       rw [List.getElem_drop]; congr 1; omega
      rw [this]; exact List.getElem_mem _
    have hf : (dg sg (bytesOf s)).all isD = false := by
     rw [List.all_eq_false]
     exact ⟨x, hm, by rw [h0]; exact Bool.false_ne_true⟩
    rw [readU, HSG.out, hf, if_neg Bool.false_ne_true]
   have hst : (sg = true → 0 < t) → dg sg ((bytesOf s).take (t + 1)) = dg sg ((bytesOf s).take t) ++ [x] := by
    intro h1
    rw [htk, dg_step sg _ x (fun h => by rw [hlen]; exact h1 h)]
   have HTK := Aside0.mk htk
   obtain ⟨u, hu⟩ : ∃ u, (dg sg ((bytesOf s).take t)).foldl stepU 0 = u := ⟨_, rfl⟩
   rw [hu]
   have HU := Aside0.mk hu
   clear hu he hx hxe hbx htk hlen hl
   by_cases h0 : t = 0
   ·subst h0
    cases sg with
    | true =>
     clear hal hst
     go_wp2_with fail
     refine ⟨⟨1, by omega, by rw [← HU.out, HTK.out]; rfl, by go_num, ⟨S.out.1, S.out.2.1, by rw [HTK.out]; rfl⟩⟩, ?_⟩
     simp only [intOf]; omega
    | false =>
     have HAL := Aside0.mk (fun h => hal h (fun e => absurd e Bool.false_ne_true))
     have HX := Aside0.mk (And.intro (hst (fun e => absurd e Bool.false_ne_true)) True.intro)
     clear hal hst
     by_cases h1 : x ≤ 47
     ·have h3 : decide (x ≤ 47) = true := by simpa using h1
      go_wp2_with fail
      go_ret2
      exact ⟨by rw [HAL.out (by simp [isD]; omega)]; rfl, S.out.2.1⟩
     ·have h3 : decide (x ≤ 47) = false := by simpa using h1
      by_cases h2 : 57 < x
      ·have h4 : decide (57 < x) = true := by simpa using h2
       go_wp2_with fail
       go_ret2
       exact ⟨by rw [HAL.out (by simp [isD]; omega)]; rfl, S.out.2.1⟩
      ·have h4 : decide (57 < x) = false := by simpa using h2
       go_wp2_with fail
       refine ⟨⟨1, by omega, ?_, by go_num, ⟨S.out.1, S.out.2.1, by rw [HX.out.1, List.all_append, S.out.2.2]; simp [isD]; omega⟩⟩, ?_⟩
       ·rw [HX.out.1, List.foldl_append]; rw [List.foldl_cons, List.foldl_nil, HU.out]; rfl
       ·simp only [intOf]; omega
   ·have hn0 : decide ((t : Int) = 0) = false := decide_eq_false (by omega)
    have hn1 : ((t : Int) == 0) = false := beq_eq_false_iff_ne.2 (by omega)
    have hn2 : ¬ (t : Int) = 0 := by omega
    have HAL := Aside0.mk (fun h => hal h (fun e => by omega))
    have HX := Aside0.mk (And.intro (hst (fun e => by omega)) True.intro)
    clear hal hst
    by_cases h1 : x ≤ 47
    ·have h3 : decide (x ≤ 47) = true := by simpa using h1
     go_wp2_with fail
     go_ret2
     exact ⟨by rw [HAL.out (by simp [isD]; omega)]; rfl, S.out.2.1⟩
    ·have h3 : decide (x ≤ 47) = false := by simpa using h1
     by_cases h2 : 57 < x
     ·have h4 : decide (57 < x) = true := by simpa using h2
      go_wp2_with fail
      go_ret2
      exact ⟨by rw [HAL.out (by simp [isD]; omega)]; rfl, S.out.2.1⟩
     ·have h4 : decide (57 < x) = false := by simpa using h2
      go_wp2_with fail
      refine ⟨⟨t + 1, by omega, ?_, by go_num, ⟨S.out.1, S.out.2.1, by rw [HX.out.1, List.all_append, S.out.2.2]; simp [isD]; omega⟩⟩, ?_⟩
      ·rw [HX.out.1, List.foldl_append]; rw [List.foldl_cons, List.foldl_nil, HU.out]; rfl
      ·simp only [intOf]; omega
  ·obtain rfl : t = s.size := by omega
   obtain ⟨-, -, hall⟩ := S.out
   have hfull : (bytesOf s).take s.size = bytesOf s := List.take_of_length_le (by rw [bytesOf_length]; exact Nat.le_refl _)
   rw [hfull] at hall ⊢
   obtain ⟨u, hu⟩ : ∃ u, (dg sg (bytesOf s)).foldl stepU 0 = u := ⟨_, rfl⟩
   rw [hu]
   obtain ⟨m, hm⟩ : ∃ m, numU s = m := ⟨_, rfl⟩
   have hmI : I64 m := by rw [← hm]; exact numU_I s
   have HM := Aside0.mk (And.intro hm hmI)
   have hrd : readU s = if bytesOf s = decF m then (m, 0) else (0, 4) := by rw [readU, HSG.out, hall, if_pos rfl, hm]
   obtain ⟨d, hd⟩ : ∃ d, strOfNums (decF m) = d := ⟨_, rfl⟩
   have HD : Aside0 (∀ W, Calls Tryd.prog 12 #[.int .i64 m] W fun e w' => e = .returned (.string d) ∧ Below W.heap.size W w') := ⟨fun W => by rw [← hd]; exact dec_calls m hmI W⟩
   have hde : (d.toList == s.toList) = decide (bytesOf s = decF m) := by
    have := str_eq (decF m) s (decF_byte' m)
    rw [hd] at this
    by_cases h : bytesOf s = decF m
    ·rw [decide_eq_true h]; exact beq_iff_eq.2 (this.2 h)
    ·rw [decide_eq_false h]; exact beq_eq_false_iff_ne.2 (fun e => h (this.1 e))
   have HR := Aside0.mk hrd
   have SB := Aside0.mk S.out.2.1
   clear hall hfull hmI hrd S hd
   by_cases hq : bytesOf s = decF m
   ·rw [decide_eq_true hq] at hde
    have HR2 : Aside0 (readU s = (m, 0)) := ⟨by rw [HR.out, if_pos hq]⟩
    clear hq HR
    cases sg with
    | true =>
     have hmu : IntKind.i64.wrap (IntKind.u64.wrap (-u)) = m := by
      have := numU_t s HSG.out
      rw [hu, HM.out.1] at this
      rw [this]; unfold wrap64; exact IntKind.wrap_i64 _
     clear hm hu
     go_wp2_with ((go_at_call 12; refine (HD.out _).mono ?_; rintro e w1 ⟨rfl, hB⟩; have S2 := Aside0.mk (SB.out.trans (hB.mono SB.out.size)); clear hB))
     go_ret2
     exact ⟨by rw [HR2.out]; rfl, S2.out⟩
    | false =>
     have hmu : IntKind.i64.wrap u = m := by
      have := numU_f s HSG.out
      rw [hu, HM.out.1] at this
      rw [this]; unfold wrap64; exact IntKind.wrap_i64 _
     clear hm hu
     go_wp2_with ((go_at_call 12; refine (HD.out _).mono ?_; rintro e w1 ⟨rfl, hB⟩; have S2 := Aside0.mk (SB.out.trans (hB.mono SB.out.size)); clear hB))
     go_ret2
     exact ⟨by rw [HR2.out]; rfl, S2.out⟩
   ·rw [decide_eq_false hq] at hde
    have HR2 : Aside0 (readU s = (0, 4)) := ⟨by rw [HR.out, if_neg hq]⟩
    clear hq HR
    cases sg with
    | true =>
     have hmu : IntKind.i64.wrap (IntKind.u64.wrap (-u)) = m := by
      have := numU_t s HSG.out
      rw [hu, HM.out.1] at this
      rw [this]; unfold wrap64; exact IntKind.wrap_i64 _
     clear hm hu
     go_wp2_with ((go_at_call 12; refine (HD.out _).mono ?_; rintro e w1 ⟨rfl, hB⟩; have S2 := Aside0.mk (SB.out.trans (hB.mono SB.out.size)); clear hB))
     go_ret2
     exact ⟨by rw [HR2.out]; rfl, S2.out⟩
    | false =>
     have hmu : IntKind.i64.wrap u = m := by
      have := numU_f s HSG.out
      rw [hu, HM.out.1] at this
      rw [this]; unfold wrap64; exact IntKind.wrap_i64 _
     clear hm hu
     go_wp2_with ((go_at_call 12; refine (HD.out _).mono ?_; rintro e w1 ⟨rfl, hB⟩; have S2 := Aside0.mk (SB.out.trans (hB.mono SB.out.size)); clear hB))
     go_ret2
     exact ⟨by rw [HR2.out]; rfl, S2.out⟩
end Go.Proofs.YtiddiboclfpklaaDoor.Tx
namespace Go.Proofs.YtiddiboclfpklaaDoor.Tx
open Go.RowKit Go.Proofs.YtiddiboclfpklaaDoorW.PrintWords Go.Proofs.YtiddiboclfpklaaDoor.PTextsNums
set_option linter.unusedVariables false
def figF (x : Int) : Int := if x < 10 then 48 + x else 87 + x
def hexL : List Int → List Int
 | [] => []
 | x :: l => figF (x / 16) :: figF (x % 16) :: hexL l
def hexF (s : ByteArray) : ByteArray := if s.size = 0 then ⟨#[45]⟩ else strOfNums (hexL (bytesOf s))
theorem hexL_append : ∀ a b : List Int, hexL (a ++ b) = hexL a ++ hexL b
 | [], b => rfl
 | x :: a, b => by
  rw [List.cons_append, hexL, hexL_append a b]; rfl
theorem hexL_length : ∀ a : List Int, (hexL a).length = 2 * a.length
 | [] => rfl
 | x :: a => by
  rw [hexL, List.length_cons, List.length_cons, hexL_length a, List.length_cons]; omega
theorem figure_calls (x : Int) (h : 0 ≤ x ∧ x < 16) (w : World) : Calls Tryd.prog 42 #[.int .u8 x] w fun e w' => e = .returned (.int .u8 (figF x)) ∧ Drawn0 w w' := by
 refine texts_figure.calls x (figF x) w ?_
 rw [texts_figure.f]
 unfold figF
 by_cases h1 : x < 10
 ·rw [if_pos h1, if_pos h1]; congr 1; omega
 ·rw [if_neg h1, if_neg h1]; congr 1; omega
theorem and15 (x : Int) (h0 : 0 ≤ x) (h : x < 256) : Go.bits .and .u8 x 15 = x % 16 := by
 rw [u8_and x 15 h0 h (by decide) (by decide), show (15 : Int).toNat = 2 ^ 4 - 1 from rfl, Nat.and_two_pow_sub_one_eq_mod]
 omega
theorem reads_grown {w w' : World} {k : IntKind} {ad : Addr} {n : Nat} {xs : List Int} (h : ReadsInt w k (some ad) n xs) {row : Option Nat} (hg : w.grownBy w' row) (hne : some ad.block ≠ row) : ReadsInt w' k (some ad) n xs :=
 ⟨h.1, h.2.1, fun hn => by
  obtain ⟨ad', e, hc⟩ := h.2.2 hn
  obtain rfl : ad = ad' := Option.some.inj e
  exact ⟨ad, rfl, fun j hj => hg.cell (hc j hj) (by rw [show (ad.add j).block = ad.block by unfold Addr.add; first | rfl | (split <;> rfl)]; exact hne)⟩⟩
theorem lit_reads (W : World) (xs : List Int) (h : xs.length ≤ 9223372036854775807) : ReadsInt (W.alloc (.cells (nums .u8 xs).toArray 5)) .u8 (some ⟨W.heap.size, 0, none⟩) xs.length xs := by
 refine ⟨rfl, h, fun _ => ⟨_, rfl, fun j hj => ?_⟩⟩
 rw [add_plain, blk_cell (blk_new W _) j]
 simp [nums, hj]
structure HexSt (w wr : World) (s : ByteArray) (B : Nat) (v : Value) (t : Nat) : Prop where
 own : wr.ownsRow w.heap.size 5 1 v (2 * t) (nums .u8 (hexL ((bytesOf s).take t)))
 rd : ReadsInt wr .u8 (some ⟨B, 0, none⟩) s.size (bytesOf s)
 ne : v.ownBlock ≠ some B
 bel : Below w.heap.size w wr
 sz : w.heap.size < B ∧ B < wr.heap.size
theorem HexSt.drawn {w wr w1 : World} {s : ByteArray} {B : Nat} {v : Value} {t : Nat} (S : HexSt w wr s B v t) (h : Drawn0 wr w1) : HexSt w w1 s B v t := by
 have hb := h.below
 obtain ⟨⟨n, rfl⟩⟩ := h
 exact ⟨S.own, S.rd.below hb, S.ne, S.bel.trans (hb.mono S.bel.size), S.sz⟩
theorem HexSt.owns {w wr : World} {s : ByteArray} {B : Nat} {v : Value} {t : Nat} (S : HexSt w wr s B v t) (L : List Int) (hL : hexL ((bytesOf s).take t) = L) (hl : L.length = 2 * t) (o : Obj) : (wr.alloc o).ownsRow w.heap.size 5 1 v L.length (nums .u8 L) := by
 rw [hl, ← hL]
 exact own_alloc S.own o
theorem HexSt.after {w wr w2 : World} {s : ByteArray} {B : Nat} {v v2 : Value} {t : Nat} (S : HexSt w wr s B v t) (o : Obj) (ho : w2.ownsRow w.heap.size 5 1 v2 (2 * (t + 1)) (nums .u8 (hexL ((bytesOf s).take (t + 1))))) (hb : Below w.heap.size w w2)
  (hg : (wr.alloc o).grownBy w2 v.ownBlock) (hat : v2.ownBlock = v.ownBlock ∨ ∃ b, v2.ownBlock = some b ∧ (wr.alloc o).heap.size ≤ b) : HexSt w w2 s B v2 (t + 1) := by
 have hr := reads_grown (S.rd.below ((Below.refl wr.heap.size wr).alloc (Nat.le_refl _) o)) hg (fun e => S.ne e.symm)
 have hz := hg.size
 have hs := S.sz
 rw [World.size_alloc] at hz hat
 refine ⟨ho, hr, ?_, hb, hs.1, by omega⟩
 rcases hat with e | ⟨b, e, hle⟩
 ·rw [e]; exact S.ne
 ·rw [e]
  intro h
  have := Option.some.inj h
  omega
set_option maxHeartbeats 2000000 in
set_option maxRecDepth 100000 in
theorem hex_calls (s : ByteArray) (hs : s.size ≤ 16777216) (w : World) :
  Calls Tryd.prog 17 #[.string s] w fun e w' => e = .returned (.string (hexF s)) ∧ Below w.heap.size w w' := by
 have hcv := fun W => print_bytes (P := Tryd.prog) 9 80 5 un9 un80 un5 s W
 go_enter Tryd.func17, Tryd.ntmps17
 by_cases hz : s.size = 0
 ·obtain rfl : s = ⟨#[]⟩ := ByteArray.ext (Array.eq_empty_of_size_eq_zero hz)
  go_wp2_with fail
  go_ret
  exact ⟨rfl, Below.refl _ _⟩
 ·have hne : s.toList.isEmpty = false := by
   rw [Lib.toList_data]
   have hl : s.data.toList.length = s.size := data_length s
   cases hq : s.data.toList with
   | nil => rw [hq] at hl; exact absurd hl.symm hz
   | cons a l => rfl
  obtain ⟨i0, hi0, hz0, hz1, hz2⟩ := info_parts info5
  obtain ⟨wm, hmk, hmo, hmg⟩ := run_make_own (P := Tryd.prog) w w.heap.size 80 5 i0 _ 1 un80 hi0 hz0 hz1 .i64 .i64 (s.size + s.size) (by rw [hz2]; omega) (by unfold maxLen; omega) (Nat.le_refl _)
  have hw2 : IntKind.i64.wrap ((s.size : Int) + (s.size : Int)) = (s.size : Int) + (s.size : Int) := IntWalk.i64_in _ (by omega)
  rw [Int.natCast_add] at hmk
  have hlt := own_lt hmo w.heap.size rfl
  have hbm : Below w.heap.size w wm := (Below.refl _ w).grown hmg (Nat.le_refl _) (fun k e => by cases e)
  obtain ⟨B, hB⟩ : ∃ B, wm.heap.size = B := ⟨_, rfl⟩
  have hcv1 := hcv wm
  rw [hB] at hcv1
  have I0 : Aside0 (HexSt w (Lib.bytesWorld wm 5 s) s B (.slice (some ⟨w.heap.size, 0, none⟩) 0 (s.size + s.size)) 0) := ⟨by
   have hg : wm.grownBy (Lib.bytesWorld wm 5 s) none := grown_of_below (bytes_below (Below.refl wm.heap.size wm) (Nat.le_refl _) 5 s) none
   have hr := bytes_reads wm 5 s (by omega)
   rw [hB] at hr
   exact ⟨own_other hmo hg (.inr (by simp [Value.ownBlock])), hr, by simp only [Value.ownBlock, ne_eq, Option.some.injEq]; omega, bytes_below hbm (by omega) 5 s, by omega, by rw [Lib.bytesWorld_size]; omega⟩⟩
  clear hmo hmg hi0 hz0 hz1 hz2 hcv hbm hB hlt
  go_wp2_with fail
  clear hcv1 hmk hw2
  go_loopw [3, 17] (fun v i wr => ∃ t : Nat, t ≤ s.size ∧ i = .int .i64 (t : Int) ∧ Aside0 (HexSt w wr s B v t)) (fun _ i _ => s.size - (intOf i).toNat)
  case atStart => exact ⟨0, by omega, rfl, I0⟩
  case round =>
   clear I0
   obtain ⟨t, ht, rfl, S⟩ := hrel
   obtain ⟨A3, c3, rfl⟩ := own_slice S.out.own
   by_cases hlt : t < s.size
   ·have hb5 : (0 : Int) ≤ (t : Int) := by omega
    have hb6 : (t : Int) < (s.size : Int) := by omega
    obtain ⟨ad, he, hc⟩ := S.out.rd.at_ (t : Int) hb5 hb6
    obtain rfl : (⟨B, 0, none⟩ : Addr) = ad := Option.some.inj he
    rw [Int.toNat_natCast, add_plain] at hc
    obtain ⟨x, hx⟩ : ∃ x, rd (bytesOf s) (t : Int) = x := ⟨_, rfl⟩
    rw [hx] at hc
    have hl : t < (bytesOf s).length := by rw [bytesOf_length]; exact hlt
    have hxe : (bytesOf s)[t] = x := by rw [← hx]; simp [rd, hl]
    have hbx : 0 ≤ x ∧ x < 256 := bytesOf_byte s x (by rw [← hxe]; exact List.getElem_mem hl)
    have hbx1 := hbx.1
    have hbx2 := hbx.2
    have htk : hexL ((bytesOf s).take (t + 1)) = hexL ((bytesOf s).take t) ++ [figF (x / 16), figF (x % 16)] := by
     rw [List.take_succ_eq_append_getElem hl, hxe, hexL_append]; rfl
    have hand := and15 x hbx1 hbx2
    have HF1 : Aside0 (∀ W, Calls Tryd.prog 42 #[.int .u8 (x / 16)] W fun e w' => e = .returned (.int .u8 (figF (x / 16))) ∧ Drawn0 W w') := ⟨fun W => figure_calls _ (by omega) W⟩
    have HF2 : Aside0 (∀ W, Calls Tryd.prog 42 #[.int .u8 (x % 16)] W fun e w' => e = .returned (.int .u8 (figF (x % 16))) ∧ Drawn0 W w') := ⟨fun W => figure_calls _ (by omega) W⟩
    obtain ⟨f1, hf1⟩ : ∃ f1, figF (x / 16) = f1 := ⟨_, rfl⟩
    obtain ⟨f2, hf2⟩ : ∃ f2, figF (x % 16) = f2 := ⟨_, rfl⟩
    rw [hf1, hf2] at htk
    obtain ⟨L, hL⟩ : ∃ L, hexL ((bytesOf s).take t) = L := ⟨_, rfl⟩
    have hLl : L.length = 2 * t := by rw [← hL, hexL_length, List.length_take, Nat.min_eq_left (by omega)]
    rw [hL] at htk
    have HL := Aside0.mk (And.intro hL hLl)
    rw [hf1] at HF1
    rw [hf2] at HF2
    have HTK := Aside0.mk htk
    clear hx he hl hxe hbx htk hf1 hf2 hL hLl
    go_wp2_with (first
     | (go_at_call 42; refine (HF1.out _).mono ?_; rintro e w1 ⟨rfl, hD⟩; have S1 := Aside0.mk (S.out.drawn hD); clear hD)
     | (go_at_call 42; refine (HF2.out _).mono ?_; rintro e w2 ⟨rfl, hD⟩; have S2 := Aside0.mk (S1.out.drawn hD); clear hD)
     | ((with_reducible refine gate_builtin (b := .append) (xs := #[.tmp 21, .tmp 28]) rfl ?_); at_builtin; refine print_append_row (w0 := w) w.heap.size rfl (.tmp 21) (.tmp 28) 80 5 .u8 1 rfl un80 info5 (by decide) (.slice A3 (2 * t) c3) L [f1, f2] (some ⟨w2.heap.size, 0, none⟩) 2 2 rfl rfl (S2.out.owns L HL.out.1 HL.out.2 _) (lit_reads w2 [f1, f2] (by simp)) (Below.alloc S2.out.bel (by have := S2.out.sz; omega) _) (by have := S2.out.sz; rw [World.size_alloc]; omega) (by have := HL.out.2; omega) ?_; intro v2 w3 ho hb2 hg2 hat2; have S3 := Aside0.mk (S2.out.after _ (by have e := HL.out.2; rw [HTK.out]; rw [List.length_append, e] at ho; exact ho) hb2 hg2 hat2); clear ho hb2 hg2 hat2; obtain ⟨A4, c4, rfl⟩ := own_slice S3.out.own))
    refine ⟨⟨t + 1, by omega, by go_num, S3⟩, ?_⟩
    simp only [intOf]; omega
   ·obtain rfl : t = s.size := by omega
    have hfull : (bytesOf s).take s.size = bytesOf s := List.take_of_length_le (by rw [bytesOf_length]; exact Nat.le_refl _)
    have hown := S.out.own
    rw [hfull] at hown
    have hstr := own_string (P := Tryd.prog) un80 un5 un9 hown
    have hF : Aside0 (hexF s = strOfNums (hexL (bytesOf s))) := ⟨if_neg hz⟩
    clear hown hfull
    go_wp2_with fail
    go_ret
    exact ⟨by rw [hF.out]; rfl, S.out.bel⟩
end Go.Proofs.YtiddiboclfpklaaDoor.Tx
