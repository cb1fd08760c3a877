/- The number of a text: what the document's Read makes, and the plain law of both readings. -/
import Derived.Test.YtiddiboclfpklaaDoorTxG
namespace Go.Proofs.YtiddiboclfpklaaDoor.Tx
open Go.RowKit Go.Proofs.YtiddiboclfpklaaDoorW.PrintWords Go.Proofs.YtiddiboclfpklaaDoor.PTextsNums
set_option linter.unusedVariables false

/-- A byte that is a digit. -/
def isD (x : Int) : Bool := decide (48 ≤ x) && decide (x ≤ 57)
/-- What a text's number is: itself with 0, or 0 with 4. -/
def IsRead (s : ByteArray) (r : Int × Int) : Prop := (r.2 = 0 ∧ I64 r.1 ∧ bytesOf s = decF r.1) ∨ (r = (0, 4) ∧ ∀ n, I64 n → bytesOf s ≠ decF n)
def stepU (u b : Int) : Int := IntKind.u64.wrap (IntKind.u64.wrap (10 * u) + (b - 48))
def stepS (neg : Bool) (n b : Int) : Int := if neg then wrap64 (wrap64 (10 * n) - (b - 48)) else wrap64 (wrap64 (10 * n) + (b - 48))

theorem digR_isD (u : Nat) : (digR u).reverse.all isD = true := by
  rw [List.all_eq_true]
  intro x hx
  have := digR_byte u x (List.mem_reverse.1 hx)
  simp [isD]; omega
theorem stepS_f (n b : Int) : stepS false n b = wrap64 (wrap64 (10 * n) + (b - 48)) := if_neg Bool.false_ne_true
theorem stepS_t (n b : Int) : stepS true n b = wrap64 (wrap64 (10 * n) - (b - 48)) := if_pos rfl
theorem stepU_in (n b : Int) (h0 : 0 ≤ n) (hb : 48 ≤ b) (h : 10 * n + (b - 48) ≤ 18446744073709551615) : stepU n b = 10 * n + (b - 48) := by
  rw [stepU, wu_in (10 * n) (by omega) (by omega), wu_in _ (by omega) (by omega)]
theorem stepF_in (n b : Int) (h0 : 0 ≤ n) (hb : 48 ≤ b) (h : 10 * n + (b - 48) ≤ 9223372036854775807) : stepS false n b = 10 * n + (b - 48) := by
  rw [stepS_f, IntWalk.wrap64_in (10 * n) (by omega), IntWalk.wrap64_in _ (by omega)]
theorem stepT_in (n b : Int) (h0 : n ≤ 0) (hb : 48 ≤ b) (h : -9223372036854775808 ≤ 10 * n - (b - 48)) : stepS true n b = 10 * n - (b - 48) := by
  rw [stepS_t, IntWalk.wrap64_in (10 * n) (by omega), IntWalk.wrap64_in _ (by omega)]
theorem foldU_digR (u : Nat) : u < 18446744073709551616 → (digR u).reverse.foldl stepU 0 = u := by
  induction u using digR.induct with
  | case1 u h =>
    intro hu
    rw [digR_small u h, List.reverse_singleton, List.foldl_cons, List.foldl_nil, stepU_in _ _ (by omega) (by omega) (by omega)]; omega
  | case2 u h ih =>
    intro hu
    rw [digR_big u h, List.reverse_cons, List.foldl_append, ih (by omega), List.foldl_cons, List.foldl_nil, stepU_in _ _ (by omega) (by omega) (by omega)]; omega
theorem foldS_pos (u : Nat) : u ≤ 9223372036854775807 → (digR u).reverse.foldl (stepS false) 0 = (u : Int) := by
  induction u using digR.induct with
  | case1 u h =>
    intro hu
    rw [digR_small u h, List.reverse_singleton, List.foldl_cons, List.foldl_nil, stepF_in _ _ (by omega) (by omega) (by omega)]; omega
  | case2 u h ih =>
    intro hu
    rw [digR_big u h, List.reverse_cons, List.foldl_append, ih (by omega), List.foldl_cons, List.foldl_nil, stepF_in _ _ (by omega) (by omega) (by omega)]; omega
theorem foldS_neg (u : Nat) : u ≤ 9223372036854775808 → (digR u).reverse.foldl (stepS true) 0 = -(u : Int) := by
  induction u using digR.induct with
  | case1 u h =>
    intro hu
    rw [digR_small u h, List.reverse_singleton, List.foldl_cons, List.foldl_nil, stepT_in _ _ (by omega) (by omega) (by omega)]; omega
  | case2 u h ih =>
    intro hu
    rw [digR_big u h, List.reverse_cons, List.foldl_append, ih (by omega), List.foldl_cons, List.foldl_nil, stepT_in _ _ (by omega) (by omega) (by omega)]; omega
theorem wrap64_I (n : Int) : I64 (wrap64 n) := by
  unfold I64 wrap64
  omega
theorem stepS_I (neg : Bool) (n b : Int) : I64 (stepS neg n b) := by
  cases neg
  · rw [stepS_f]; exact wrap64_I _
  · rw [stepS_t]; exact wrap64_I _
theorem foldS_I (neg : Bool) : ∀ (l : List Int) (n : Int), I64 n → I64 (l.foldl (stepS neg) n)
  | [], n, h => h
  | b :: l, n, h => by rw [List.foldl_cons]; exact foldS_I neg l _ (stepS_I neg n b)
theorem digR_head (u : Nat) : ∃ x l, (digR u).reverse = x :: l ∧ 48 ≤ x := by
  cases h : (digR u).reverse with
  | nil =>
    have h0 : 0 < (digR u).length := by
      by_cases h1 : u < 10
      · rw [digR_small u h1]; exact Nat.one_pos
      · rw [digR_big u h1]; exact Nat.succ_pos _
    rw [← List.length_reverse, h] at h0
    exact absurd h0 (Nat.lt_irrefl 0)
  | cons x l => exact ⟨x, l, rfl, (digR_byte u x (List.mem_reverse.1 (by rw [h]; exact List.mem_cons_self))).1⟩
theorem decF_inj (n m : Int) (hn : I64 n) (hm : I64 m) (h : decF n = decF m) : n = m := by
  unfold I64 at hn hm
  by_cases h1 : n < 0
  · by_cases h2 : m < 0
    · rw [decF_neg n h1, decF_neg m h2] at h
      have h3 := (List.cons.inj h).2
      have e1 := foldU_digR (-n).toNat (by omega)
      have e2 := foldU_digR (-m).toNat (by omega)
      rw [h3] at e1
      have := e1.symm.trans e2
      omega
    · rw [decF_neg n h1, decF_pos m h2] at h
      obtain ⟨x, l, hx, hl⟩ := digR_head m.toNat
      rw [hx] at h
      have := (List.cons.inj h).1
      omega
  · by_cases h2 : m < 0
    · rw [decF_pos n h1, decF_neg m h2] at h
      obtain ⟨x, l, hx, hl⟩ := digR_head n.toNat
      rw [hx] at h
      have := (List.cons.inj h).1
      omega
    · rw [decF_pos n h1, decF_pos m h2] at h
      have e1 := foldU_digR n.toNat (by omega)
      have e2 := foldU_digR m.toNat (by omega)
      rw [h] at e1
      have := e1.symm.trans e2
      omega
theorem IsRead.same {s : ByteArray} {r q : Int × Int} (hr : IsRead s r) (hq : IsRead s q) : r = q := by
  rcases hr with ⟨r2, ri, re⟩ | ⟨rfl, rn⟩
  · rcases hq with ⟨q2, qi, qe⟩ | ⟨rfl, qn⟩
    · exact Prod.ext (decF_inj _ _ ri qi (re.symm.trans qe)) (r2.trans q2.symm)
    · exact absurd re (qn _ ri)
  · rcases hq with ⟨q2, qi, qe⟩ | ⟨rfl, qn⟩
    · exact absurd qe (rn _ qi)
    · rfl
theorem IsRead.of {s : ByteArray} {r : Int × Int} (hr : IsRead s r) (n : Int) (hn : I64 n) (h : bytesOf s = decF n) : r = (n, 0) :=
  hr.same (.inl ⟨rfl, hn, h⟩)

/-- The text without its sign. -/
def bare (s : ByteArray) : ByteArray := if 0 < s.size ∧ bt s 0 = 45 then s.extract 1 s.size else s
/-- What the document's Read makes. -/
def readS (s : ByteArray) : Int × Int :=
  if (bare s).size < 1 ∨ 19 < (bare s).size then (0, 4) else
  if (bytesOf (bare s)).all isD then
    (if bytesOf s = decF ((bytesOf (bare s)).foldl (stepS (decide ((bare s).size < s.size))) 0) then ((bytesOf (bare s)).foldl (stepS (decide ((bare s).size < s.size))) 0, 0) else (0, 4))
  else (0, 4)
theorem bytesOf_byte (s : ByteArray) : ∀ x ∈ bytesOf s, 0 ≤ x ∧ x < 256 := by
  intro x hx
  unfold bytesOf at hx
  obtain ⟨b, _, rfl⟩ := List.mem_map.1 hx
  have := b.toNat_lt
  omega
theorem r04_loop (s t : ByteArray) : ∀ (l : List Int) (i : Nat) (n : Int) (k : Nat), (bytesOf t).drop i = l → i ≤ t.size → t.size ≤ 19 → I64 n → 30 + 2 * l.length ≤ k → k ≤ 800 →
    instarref04_Read.l0 k s t n i = some (if l.all isD then (if bytesOf s = decF (l.foldl (stepS (decide (t.size < s.size))) n) then (l.foldl (stepS (decide (t.size < s.size))) n, 0) else (0, 4)) else (0, 4))
  | [], i, n, k, hl, hi, ht, hn, hk, hk2 => by
    have hlen : (bytesOf t).length ≤ i := by
      have := congrArg List.length hl
      rw [List.length_drop] at this
      simp at this; omega
    rw [bytesOf_length] at hlen
    obtain ⟨k, rfl⟩ : ∃ k', k = k' + 1 := ⟨k - 1, by omega⟩
    rw [instarref04_Read.l0, if_neg (by omega), r04_dec_eval k (by simp at hk; omega) (by omega) n hn, Option.bind_some]
    by_cases h : bytesOf s = decF n
    · rw [if_pos ((str_eq _ s (decF_byte' n)).2 h), List.all_nil, if_pos rfl, List.foldl_nil, if_pos h]
    · rw [if_neg (fun e => h ((str_eq _ s (decF_byte' n)).1 e)), List.all_nil, if_pos rfl, List.foldl_nil, if_neg h]
  | b :: l, i, n, k, hl, hi, ht, hn, hk, hk2 => by
    have hlen : i < (bytesOf t).length := by
      have := congrArg List.length hl
      rw [List.length_drop] at this
      simp at this; omega
    have hb : bt t (i : Int) = b := by
      rw [← rd_bytesOf]
      have h1 : (bytesOf t)[i]? = some b := by
        have := congrArg (fun l => l[0]?) hl
        simpa using this
      simp [rd, List.getD_eq_getElem?_getD, h1]
    have hb2 : 0 ≤ b ∧ b < 256 := bytesOf_byte t b (List.mem_of_mem_drop (by rw [hl]; exact List.mem_cons_self))
    have hd : (bytesOf t).drop (i + 1) = l := by
      rw [← List.drop_drop, hl]; rfl
    rw [bytesOf_length] at hlen
    simp only [List.length_cons] at hk
    obtain ⟨k, rfl⟩ : ∃ k', k = k' + 2 := ⟨k - 2, by omega⟩
    rw [instarref04_Read.l0, if_pos (by omega), if_pos (by omega), hb, IntWalk.wrap64_in b (by omega), IntWalk.wrap64_in (b - 48) (by omega)]
    have hbad : isD b = false → (some ((0 : Int), (4 : Int))) = some (if (b :: l).all isD then (if bytesOf s = decF ((b :: l).foldl (stepS (decide (t.size < s.size))) n) then ((b :: l).foldl (stepS (decide (t.size < s.size))) n, 0) else (0, 4)) else (0, 4)) := by
      intro h0
      rw [List.all_cons, h0, Bool.false_and, if_neg Bool.false_ne_true]
    by_cases h1 : b - 48 < 0
    · rw [if_pos h1, instarref04_Read.j4, if_pos rfl]
      exact hbad (by simp [isD]; omega)
    · rw [if_neg h1, instarref04_Read.j4]
      by_cases h2 : b - 48 > 9
      · rw [decide_eq_true h2, if_pos rfl]
        exact hbad (by simp [isD]; omega)
      · rw [decide_eq_false h2, if_neg Bool.false_ne_true, IntWalk.wrap64_in ((i : Int) + 1) (by omega)]
        have hg : isD b = true := by simp [isD]; omega
        rw [List.all_cons, hg, Bool.true_and, List.foldl_cons]
        by_cases h3 : t.size < s.size
        · rw [if_pos (by omega)]
          have := r04_loop s t l (i + 1) (stepS true n b) k hd (by omega) ht (stepS_I _ _ _) (by omega) (by omega)
          rw [show decide (t.size < s.size) = true from decide_eq_true h3] at this ⊢
          rw [← this, stepS_t, Int.natCast_add, Int.natCast_one]
        · rw [if_neg (by omega)]
          have := r04_loop s t l (i + 1) (stepS false n b) k hd (by omega) ht (stepS_I _ _ _) (by omega) (by omega)
          rw [show decide (t.size < s.size) = false from decide_eq_false h3] at this ⊢
          rw [← this, stepS_f, Int.natCast_add, Int.natCast_one]
theorem r04_j1 (s t : ByteArray) : instarref04_Read.j1 99 s t = some (if t.size < 1 ∨ 19 < t.size then (0, 4) else
  if (bytesOf t).all isD then
    (if bytesOf s = decF ((bytesOf t).foldl (stepS (decide (t.size < s.size))) 0) then ((bytesOf t).foldl (stepS (decide (t.size < s.size))) 0, 0) else (0, 4))
  else (0, 4)) := by
  rw [instarref04_Read.j1]
  by_cases h1 : t.size < 1
  · rw [if_pos (by omega), instarref04_Read.j2, if_pos rfl, if_pos (.inl h1)]
  · rw [if_neg (by omega), instarref04_Read.j2]
    by_cases h2 : 19 < t.size
    · rw [decide_eq_true (show (t.size : Int) > 19 by omega), if_pos rfl, if_pos (.inr h2)]
    · rw [decide_eq_false (show ¬ (t.size : Int) > 19 by omega), if_neg Bool.false_ne_true, if_neg (by omega)]
      exact r04_loop s t (bytesOf t) 0 0 97 rfl (Nat.zero_le _) (by omega) (by unfold I64; omega) (by rw [bytesOf_length]; omega) (by omega)
theorem r04_read_eval (s : ByteArray) : instarref04_Read.f 100 s = some (readS s) := by
  have e : readS s = (if (bare s).size < 1 ∨ 19 < (bare s).size then (0, 4) else
  if (bytesOf (bare s)).all isD then
    (if bytesOf s = decF ((bytesOf (bare s)).foldl (stepS (decide ((bare s).size < s.size))) 0) then ((bytesOf (bare s)).foldl (stepS (decide ((bare s).size < s.size))) 0, 0) else (0, 4))
  else (0, 4)) := rfl
  rw [instarref04_Read.f, e, ← r04_j1]
  by_cases h : 0 < s.size
  · rw [if_pos (by omega), if_pos (by omega), instarref04_Read.j0]
    by_cases h2 : bt s 0 = 45
    · rw [show (bt s 0 == 45) = true from beq_iff_eq.2 h2, if_pos rfl, if_pos (by omega), bare, if_pos ⟨h, h2⟩]
    · rw [show (bt s 0 == 45) = false from beq_eq_false_iff_ne.2 h2, if_neg Bool.false_ne_true, bare, if_neg (fun e => h2 e.2)]
  · rw [if_neg (by omega), instarref04_Read.j0, if_neg Bool.false_ne_true, bare, if_neg (fun e => h e.1)]
theorem r04_read_calls (s : ByteArray) (w : World) : Calls Tryd.prog 11 #[.string s] w fun e w' => e = .returned (.tuple #[.int .i64 (readS s).1, .int .i64 (readS s).2]) ∧ Below w.heap.size w w' :=
  instarref04_Read.calls 100 s _ _ w (r04_read_eval s)
theorem extract_bytes (s : ByteArray) (a : Nat) : bytesOf (s.extract a s.size) = (bytesOf s).drop a := by
  unfold bytesOf
  rw [extract_drop, List.map_drop]
theorem bt0 (s : ByteArray) (b : Int) (l : List Int) (h : bytesOf s = b :: l) : bt s 0 = b ∧ s.size = l.length + 1 := by
  refine ⟨?_, by rw [← bytesOf_length, h]; rfl⟩
  rw [← rd_bytesOf, h]
  rfl
theorem readS_is (s : ByteArray) : IsRead s (readS s) := by
  have key : ∀ n, I64 n → bytesOf s = decF n → readS s = (n, 0) := by
    intro n hn he
    have hn' := hn
    unfold I64 at hn
    by_cases h0 : n < 0
    · rw [decF_neg n h0] at he
      obtain ⟨h1, h2⟩ := bt0 s _ _ he
      have hl := digR_len 18 (-n).toNat (by omega)
      rw [List.length_reverse] at h2
      have hb : bare s = s.extract 1 s.size := by rw [bare, if_pos ⟨by omega, h1⟩]
      have hz : (bare s).size = s.size - 1 := by rw [hb]; simp
      have hbb : bytesOf (bare s) = (digR (-n).toNat).reverse := by rw [hb, extract_bytes, he]; rfl
      have hf := foldS_neg (-n).toNat (by omega)
      rw [show (-(((-n).toNat : Nat) : Int)) = n by omega] at hf
      unfold readS
      rw [if_neg (by omega), hbb, digR_isD, if_pos rfl, show decide ((bare s).size < s.size) = true from decide_eq_true (by omega), hf, if_pos (by rw [he, decF_neg n h0])]
    · rw [decF_pos n h0] at he
      obtain ⟨x, l, hx, hx2⟩ := digR_head n.toNat
      have hl := digR_len 18 n.toNat (by omega)
      have hlen : s.size = (digR n.toNat).length := by rw [← bytesOf_length, he, List.length_reverse]
      obtain ⟨h1, h2⟩ := bt0 s x l (he.trans hx)
      have hb : bare s = s := by rw [bare, if_neg (fun e => by have := e.2; omega)]
      have hf := foldS_pos n.toNat (by omega)
      rw [show ((n.toNat : Nat) : Int) = n by omega] at hf
      unfold readS
      rw [hb, if_neg (by omega), he, digR_isD, if_pos rfl, show decide (s.size < s.size) = false from decide_eq_false (Nat.lt_irrefl _), hf, if_pos (decF_pos n h0).symm]
  have form : readS s = (0, 4) ∨ ∃ n, I64 n ∧ bytesOf s = decF n ∧ readS s = (n, 0) := by
    unfold readS
    split
    · exact .inl rfl
    · split
      · split
        · rename_i h
          exact .inr ⟨_, foldS_I _ _ _ (by unfold I64; omega), h, rfl⟩
        · exact .inl rfl
      · exact .inl rfl
  rcases form with h | ⟨n, hn, he, hr⟩
  · refine .inr ⟨h, fun n hn he => ?_⟩
    rw [key n hn he] at h
    exact absurd (Prod.mk.inj h).2 (by decide)
  · rw [hr]
    exact .inl ⟨rfl, hn, he⟩
end Go.Proofs.YtiddiboclfpklaaDoor.Tx
