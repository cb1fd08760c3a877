/- Lemmas that the claim's theorem uses. -/
import Derived.Test.YtiddiboclfpklaaDoorRdK
import Derived.Test.YtiddiboclfpklaaDoorRdF
import Derived.Test.YtiddiboclfpklaaDoorRdJ
import Derived.Laws.Rows
import Derived.Laws.Tables
import Derived.Laws.CopyRow
import Derived.BigRegion
namespace Go.Proofs.YtiddiboclfpklaaDoor.Tx
open Go.RowKit Go.Proofs.YtiddiboclfpklaaDoorW.PrintWords Go.Proofs.YtiddiboclfpklaaDoor.PTextsNums Go.Proofs.YtiddiboclfpklaaDoor.TxM
set_option linter.unusedVariables false
def halfF (x : Int) : Option Int := if 48 ≤ x ∧ x ≤ 57 then some (x - 48) else if 97 ≤ x ∧ x ≤ 102 then some (x - 87) else none
theorem halfF_some {x v : Int} (h : halfF x = some v) : 0 ≤ v ∧ v < 16 ∧ figF v = x := by
 unfold halfF at h
 unfold figF
 split at h
 ·have := Option.some.inj h
  refine ⟨by omega, by omega, ?_⟩
  rw [if_pos (by omega)]; omega
 ·split at h
  ·have := Option.some.inj h
   refine ⟨by omega, by omega, ?_⟩
   rw [if_neg (by omega)]; omega
  ·cases h
theorem halfF_fig (v : Int) (h : 0 ≤ v ∧ v < 16) : halfF (figF v) = some v := by
 unfold halfF figF
 by_cases h1 : v < 10
 ·rw [if_pos h1, if_pos (by omega)]; congr 1; omega
 ·rw [if_neg h1, if_neg (by omega), if_pos (by omega)]; congr 1; omega
def unhexL : List Int → Option (List Int)
 | [] => some []
 | [_] => none
 | a :: b :: l => (halfF a).bind fun x => (halfF b).bind fun y => (unhexL l).map fun m => (16 * x + y) :: m
def outU (s : ByteArray) (r : Option (List Int)) : ByteArray × Int := match r with
 | some m => if s.size = 0 then (⟨#[]⟩, 4) else (strOfNums m, 0)
 | none => (⟨#[]⟩, 4)
def unhexS (s : ByteArray) : ByteArray × Int := if s.toList = [45] then (⟨#[]⟩, 0) else outU s (unhexL (bytesOf s))
theorem unhex_hex : ∀ l : List Int, (∀ x ∈ l, 0 ≤ x ∧ x < 256) → unhexL (hexL l) = some l
 | [], _ => rfl
 | x :: l, h => by
  have hx := h x List.mem_cons_self
  rw [hexL, unhexL, halfF_fig _ (by omega), Option.bind_some, halfF_fig _ (by omega), Option.bind_some, unhex_hex l (fun y hy => h y (List.mem_cons_of_mem _ hy)), Option.map_some]
  congr 2
  omega
theorem hexL_byte : ∀ l : List Int, (∀ x ∈ l, 0 ≤ x ∧ x < 256) → ∀ y ∈ hexL l, 0 ≤ y ∧ y < 256
 | [], _, y, hy => by cases hy
 | x :: l, h, y, hy => by
  have hx := h x List.mem_cons_self
  rw [hexL, List.mem_cons, List.mem_cons] at hy
  have fig : ∀ v : Int, 0 ≤ v ∧ v < 16 → 0 ≤ figF v ∧ figF v < 256 := fun v hv => by
   unfold figF
   split <;> omega
  rcases hy with rfl | rfl | hy
  ·exact fig _ (by omega)
  ·exact fig _ (by omega)
  ·exact hexL_byte l (fun y hy => h y (List.mem_cons_of_mem _ hy)) y hy
theorem toList_length (s : ByteArray) : s.toList.length = s.size := by rw [Lib.toList_data, data_length]
theorem unhex_of_hex (b : ByteArray) : unhexS (hexF b) = (b, 0) := by
 unfold hexF
 by_cases h0 : b.size = 0
 ·rw [if_pos h0]
  obtain rfl : b = ⟨#[]⟩ := ByteArray.ext (Array.eq_empty_of_size_eq_zero h0)
  rw [unhexS, if_pos (by kernel_rfl)]
 ·rw [if_neg h0]
  have hb := bytesOf_byte b
  have hz : (strOfNums (hexL (bytesOf b))).size = 2 * b.size := by rw [strOf_size, hexL_length, bytesOf_length]
  rw [unhexS, if_neg (fun e => by have := congrArg List.length e; rw [toList_length, hz] at this; simp at this; omega), bytesOf_strOf _ (hexL_byte _ hb), unhex_hex _ hb, outU, if_neg (by omega), strOf_bytesOf]
theorem halfF_a {x : Int} (h : 48 ≤ x ∧ x ≤ 57) : halfF x = some (x - 48) := if_pos h
theorem halfF_b {x : Int} (h : 97 ≤ x ∧ x ≤ 102) : halfF x = some (x - 87) := by unfold halfF; rw [if_neg (by omega), if_pos h]
theorem halfF_n {x : Int} (h : ¬ (48 ≤ x ∧ x ≤ 57)) (h2 : ¬ (97 ≤ x ∧ x ≤ 102)) : halfF x = none := by unfold halfF; rw [if_neg h, if_neg h2]
theorem half_eval (k : Nat) (x : Int) (h : 0 ≤ x ∧ x < 256) : texts_half.f (k + 1) x = some (match halfF x with | some v => (v, true) | none => (0, false)) := by
 rw [texts_half.f]
 by_cases h1 : 48 ≤ x
 ·rw [if_pos h1, texts_half.j0]
  by_cases h2 : x ≤ 57
  ·rw [decide_eq_true h2, if_pos rfl, halfF_a ⟨h1, h2⟩]
   congr 2; omega
  ·rw [decide_eq_false h2, if_neg Bool.false_ne_true]
   by_cases h3 : 97 ≤ x
   ·rw [if_pos h3]
    by_cases h4 : x ≤ 102
    ·rw [if_pos h4, halfF_b ⟨h3, h4⟩]
     congr 2; omega
    ·rw [if_neg h4, halfF_n (by omega) (by omega)]
   ·rw [if_neg h3, halfF_n (by omega) (by omega)]
 ·rw [if_neg h1, texts_half.j0, if_neg Bool.false_ne_true, if_neg (by omega), halfF_n (by omega) (by omega)]
theorem or_half (a b : Int) (ha : 0 ≤ a ∧ a < 16) (hb : 0 ≤ b ∧ b < 16) : Go.bits .or .u8 ((a * 16) % 256) b = 16 * a + b := by
 rw [u8_or _ b (by omega) (by omega) (by omega) (by omega)]
 have e : ((a * 16) % 256).toNat = a.toNat <<< 4 := by rw [Nat.shiftLeft_eq]; omega
 rw [e, ← Nat.shiftLeft_add_eq_or_of_lt (by omega), Nat.shiftLeft_eq]
 omega
theorem drop_two {l : List Int} {i : Nat} {a b : Int} {r : List Int} (h : l.drop i = a :: b :: r) : rd l (i : Int) = a ∧ rd l ((i : Int) + 1) = b ∧ l.drop (i + 2) = r := by
 have h0 : l[i]? = some a := by
  have := congrArg (fun l => l[0]?) h
  simpa using this
 have h1 : l[i + 1]? = some b := by
  have := congrArg (fun l => l[1]?) h
  simpa using this
 refine ⟨by simp [rd, List.getD_eq_getElem?_getD, h0], ?_, ?_⟩
 ·unfold rd
  rw [show ((i : Int) + 1).toNat = i + 1 by omega]
  simp [List.getD_eq_getElem?_getD, h1]
 ·rw [← List.drop_drop, h]; rfl
theorem unhex_loop (s : ByteArray) : ∀ (n : Nat) (l acc : List Int) (i k : Nat), l.length ≤ n → (bytesOf s).drop i = l → i + l.length = s.size → i % 2 = 0 → l.length + 3 ≤ k → s.size ≤ 16777216 → acc.length ≤ i →
  texts_Unhex.l0 k s acc i = some (outU s ((unhexL l).map fun m => acc ++ m))
 | n, [], acc, i, k, hn, hl, hi, he, hk, hs, ha => by
  obtain ⟨k, rfl⟩ : ∃ k', k = k' + 1 := ⟨k - 1, by simp at hk; omega⟩
  simp only [List.length_nil, Nat.add_zero] at hi
  rw [texts_Unhex.l0, IntWalk.wrap64_in _ (by omega), if_neg (by omega), unhexL, Option.map_some, List.append_nil, outU]
  by_cases h0 : s.size = 0
  ·rw [if_pos (List.eq_nil_of_length_eq_zero (by rw [toList_length]; exact h0)), if_pos h0]
  ·rw [if_neg (fun e => h0 (by rw [← toList_length, e]; rfl)), if_neg h0, if_pos (by omega)]
 | n, [a], acc, i, k, hn, hl, hi, he, hk, hs, ha => by
  obtain ⟨k, rfl⟩ : ∃ k', k = k' + 1 := ⟨k - 1, by simp at hk; omega⟩
  simp only [List.length_cons, List.length_nil] at hi
  have hodd : ¬ (s.size : Int) % 2 = 0 := by omega
  have hnn : ¬ s.toList = [] := fun e => by
   have h : s.size = 0 := by rw [← toList_length, e]; rfl
   omega
  rw [texts_Unhex.l0, IntWalk.wrap64_in _ (by omega), if_neg (by omega), unhexL, Option.map_none, outU, if_neg hnn, if_neg hodd]
 | 0, a :: b :: l, acc, i, k, hn, hl, hi, he, hk, hs, ha => absurd hn (by simp)
 | n + 1, a :: b :: l, acc, i, k, hn, hl, hi, he, hk, hs, ha => by
  simp only [List.length_cons] at hi hk hn
  obtain ⟨k, rfl⟩ : ∃ k', k = k' + 2 := ⟨k - 2, by omega⟩
  obtain ⟨r0, r1, r2⟩ := drop_two hl
  rw [rd_bytesOf] at r0 r1
  have hab : ∀ x ∈ a :: b :: l, 0 ≤ x ∧ x < 256 := fun x hx => bytesOf_byte s x (List.mem_of_mem_drop (by rw [hl]; exact hx))
  have hA := hab a List.mem_cons_self
  have hB := hab b (List.mem_cons_of_mem _ List.mem_cons_self)
  rw [texts_Unhex.l0, IntWalk.wrap64_in ((i : Int) + 1) (by omega), if_pos (by omega), if_pos (by omega), if_pos (by omega), r0, r1, half_eval _ a hA, half_eval _ b hB, Option.bind_some, if_pos (by omega), Option.bind_some, unhexL]
  cases hha : halfF a with
  | none => rw [if_neg Bool.false_ne_true, Option.bind_none, Option.map_none, outU]
  | some x =>
   rw [if_pos rfl, Option.bind_some]
   cases hhb : halfF b with
   | none => rw [if_neg Bool.false_ne_true, Option.bind_none, Option.map_none, outU]
   | some y =>
    obtain ⟨x0, x1, _⟩ := halfF_some hha
    obtain ⟨y0, y1, _⟩ := halfF_some hhb
    rw [if_pos rfl, if_pos (by omega), or_half x y ⟨x0, x1⟩ ⟨y0, y1⟩, IntWalk.wrap64_in ((i : Int) + 2) (by omega), Option.bind_some]
    have := unhex_loop s n l (acc ++ [16 * x + y]) (i + 2) (k + 1) (by omega) r2 (by omega) (by omega) (by omega) hs (by simp; omega)
    rw [Int.natCast_add] at this
    rw [show ((2 : Nat) : Int) = 2 from rfl] at this
    rw [this, Option.map_map]
    congr 3
    funext m
    simp
theorem unhex_eval (s : ByteArray) (hs : s.size ≤ 16777216) : texts_Unhex.f (s.size + 3) s = some (unhexS s) := by
 rw [texts_Unhex.f, unhexS]
 by_cases h : s.toList = [45]
 ·rw [if_pos h, if_pos h]
 ·have := unhex_loop s s.size (bytesOf s) [] 0 (s.size + 3) (by rw [bytesOf_length]; exact Nat.le_refl _) rfl (by rw [bytesOf_length]; omega) rfl (by rw [bytesOf_length]; exact Nat.le_refl _) hs (Nat.le_refl _)
  rw [if_neg h, if_neg h, show (0 : Int) = ((0 : Nat) : Int) from rfl, this]
  congr 2
  simp
theorem unhex_calls (s : ByteArray) (hs : s.size ≤ 16777216) (w : World) : Calls Tryd.prog 15 #[.string s] w fun e w' => e = .returned (.tuple #[.string (unhexS s).1, .int .i64 (unhexS s).2]) ∧ Below w.heap.size w w' :=
 texts_Unhex.calls (s.size + 3) s _ _ w (unhex_eval s hs)
def figs : ByteArray := ⟨#[48, 49, 50, 51, 52, 53, 54, 55, 56, 57, 97, 98, 99, 100, 101, 102]⟩
theorem bt_figs : ∀ i : Nat, i < 16 → bt figs (i : Int) = figF (i : Int) := by
 intro i hi
 have h : ∀ i : Fin 16, bt figs (i.val : Int) = figF (i.val : Int) := by decide +kernel
 exact h ⟨i, hi⟩
theorem cut_figs : ∀ i : Nat, i < 16 → figs.extract i (i + 1) = strOfNums [figF (i : Int)] := by
 intro i hi
 have h : ∀ i : Fin 16, (figs.extract i.val (i.val + 1)).data.toList = (strOfNums [figF (i.val : Int)]).data.toList := by decide +kernel
 apply ByteArray.ext
 exact Array.ext' (h ⟨i, hi⟩)
theorem place_loop (x : Int) : ∀ (n i k : Nat), i + n = 16 → n < k → (∀ j : Nat, j < i → figF (j : Int) ≠ x) → instarref04_place.l0 k x i = some (match halfF x with | some v => v | none => -1)
 | 0, i, k, hi, hk, hne => by
  obtain ⟨k, rfl⟩ : ∃ k', k = k' + 1 := ⟨k - 1, by omega⟩
  rw [instarref04_place.l0, if_neg (by omega)]
  cases h : halfF x with
  | none => rfl
  | some v =>
   obtain ⟨h0, h1, h2⟩ := halfF_some h
   exact absurd (by rw [show ((v.toNat : Nat) : Int) = v by omega]; exact h2) (hne v.toNat (by omega))
 | n + 1, i, k, hi, hk, hne => by
  obtain ⟨k, rfl⟩ : ∃ k', k = k' + 1 := ⟨k - 1, by omega⟩
  rw [instarref04_place.l0, if_pos (by omega), if_pos (by omega)]
  have hb := bt_figs i (by omega)
  unfold figs at hb
  rw [hb]
  by_cases h : figF (i : Int) = x
  ·rw [if_pos h, ← h, halfF_fig _ (by omega)]
  ·rw [if_neg h, IntWalk.wrap64_in _ (by omega)]
   have := place_loop x n (i + 1) k (by omega) (by omega) (fun j hj => by
    by_cases hji : j = i
    ·rw [hji]; exact h
    ·exact hne j (by omega))
   rw [Int.natCast_add] at this
   exact this
theorem place_eval (x : Int) (k : Nat) (hk : 16 < k) : instarref04_place.f k x = some (match halfF x with | some v => v | none => -1) :=
 place_loop x 16 0 k rfl hk (fun j hj => absurd hj (Nat.not_lt_zero _))
theorem r04_unhex_loop (s : ByteArray) : ∀ (n : Nat) (l acc : List Int) (i k : Nat), l.length ≤ n → (bytesOf s).drop i = l → i + l.length = s.size → l.length % 2 = 0 → l.length + 20 ≤ k → s.size ≤ 16777216 → acc.length ≤ i →
  instarref04_Unhex.l0 k s acc i = some (match (unhexL l).map (fun m => acc ++ m) with | some m => (strOfNums m, 0) | none => (⟨#[]⟩, 4))
 | n, [], acc, i, k, hn, hl, hi, he, hk, hs, ha => by
  obtain ⟨k, rfl⟩ : ∃ k', k = k' + 1 := ⟨k - 1, by simp at hk; omega⟩
  simp only [List.length_nil, Nat.add_zero] at hi
  rw [instarref04_Unhex.l0, if_neg (by omega), unhexL, Option.map_some, List.append_nil]
 | n, [a], acc, i, k, hn, hl, hi, he, hk, hs, ha => by
  simp at he
 | 0, a :: b :: l, acc, i, k, hn, hl, hi, he, hk, hs, ha => absurd hn (by simp)
 | n + 1, a :: b :: l, acc, i, k, hn, hl, hi, he, hk, hs, ha => by
  simp only [List.length_cons] at hi hk hn he
  obtain ⟨k, rfl⟩ : ∃ k', k = k' + 2 := ⟨k - 2, by omega⟩
  obtain ⟨r0, r1, r2⟩ := drop_two hl
  rw [rd_bytesOf] at r0 r1
  rw [instarref04_Unhex.l0, if_pos (by omega), if_pos (by omega), r0, place_eval a _ (by omega), Option.bind_some, IntWalk.wrap64_in ((i : Int) + 1) (by omega), if_pos (by omega), if_pos (by omega), r1, place_eval b _ (by omega), Option.bind_some, unhexL]
  cases hha : halfF a with
  | none => rw [if_pos (by decide), Option.bind_none, Option.map_none]
  | some x =>
   obtain ⟨x0, x1, _⟩ := halfF_some hha
   rw [if_neg (show ¬ (x < 0) by omega), Option.bind_some]
   cases hhb : halfF b with
   | none => rw [if_pos (by decide), Option.bind_none, Option.map_none]
   | some y =>
    obtain ⟨y0, y1, _⟩ := halfF_some hhb
    rw [if_neg (show ¬ (y < 0) by omega), if_pos (by omega), IntWalk.wrap64_in (16 * x) (by omega), IntWalk.wrap64_in (16 * x + y) (by omega), show (16 * x + y) % 256 = 16 * x + y by omega, IntWalk.wrap64_in ((i : Int) + 2) (by omega), Option.bind_some]
    have := r04_unhex_loop s n l (acc ++ [16 * x + y]) (i + 2) (k + 1) (by omega) r2 (by omega) (by omega) (by omega) hs (by simp; omega)
    rw [Int.natCast_add] at this
    rw [show ((2 : Nat) : Int) = 2 from rfl] at this
    rw [this, Option.map_map]
    congr 3
    funext m
    simp
theorem unhexL_odd : ∀ (n : Nat) (l : List Int), l.length ≤ n → l.length % 2 = 1 → unhexL l = none
 | n, [], _, h => by simp at h
 | n, [a], _, h => rfl
 | 0, a :: b :: l, h, _ => absurd h (by simp)
 | n + 1, a :: b :: l, hn, h => by
  simp only [List.length_cons] at hn h
  rw [unhexL, unhexL_odd n l (by omega) (by omega)]
  cases halfF a with
  | none => rfl
  | some x => cases halfF b <;> rfl
theorem r04_unhex_eval (s : ByteArray) (hs : s.size ≤ 16777216) : instarref04_Unhex.f (s.size + 30) s = some (unhexS s) := by
 rw [instarref04_Unhex.f, unhexS]
 by_cases h : s.toList = [45]
 ·rw [if_pos h, if_pos h]
 ·rw [if_neg h, if_neg h]
  by_cases h0 : s.size = 0
  ·rw [if_pos (List.eq_nil_of_length_eq_zero (by rw [toList_length]; exact h0)), instarref04_Unhex.j0, if_pos rfl]
   cases unhexL (bytesOf s) with
   | none => rfl
   | some m => exact congrArg some (if_pos h0).symm
  ·rw [if_neg (fun e => h0 (by rw [← toList_length, e]; rfl)), instarref04_Unhex.j0]
   by_cases h1 : s.size % 2 = 1
   ·rw [show ((s.size : Int) % 2 == 1) = true from beq_iff_eq.2 (by omega), if_pos rfl, unhexL_odd _ _ (Nat.le_refl _) (by rw [bytesOf_length]; exact h1), outU]
   ·rw [show ((s.size : Int) % 2 == 1) = false from beq_eq_false_iff_ne.2 (by omega), if_neg Bool.false_ne_true, show (0 : Int) = ((0 : Nat) : Int) from rfl,
     r04_unhex_loop s s.size (bytesOf s) [] 0 _ (by rw [bytesOf_length]; exact Nat.le_refl _) rfl (by rw [bytesOf_length]; omega) (by rw [bytesOf_length]; omega) (by rw [bytesOf_length]; omega) hs (Nat.le_refl _)]
    cases unhexL (bytesOf s) with
    | none => rfl
    | some m => rw [outU, if_neg h0]; rfl
theorem r04_unhex_calls (s : ByteArray) (hs : s.size ≤ 16777216) (w : World) : Calls Tryd.prog 16 #[.string s] w fun e w' => e = .returned (.tuple #[.string (unhexS s).1, .int .i64 (unhexS s).2]) ∧ Below w.heap.size w w' :=
 instarref04_Unhex.calls (s.size + 30) s _ _ w (r04_unhex_eval s hs)
theorem hex_loop (s : ByteArray) : ∀ (l : List Int) (acc : ByteArray) (i k : Nat), (bytesOf s).drop i = l → i + l.length = s.size → l.length < k → s.size ≤ 16777216 → acc.size = 2 * i →
  instarref04_Hex.l0 k s acc i = some (acc ++ strOfNums (hexL l))
 | [], acc, i, k, hl, hi, hk, hs, ha => by
  obtain ⟨k, rfl⟩ : ∃ k', k = k' + 1 := ⟨k - 1, by simp at hk; omega⟩
  simp only [List.length_nil, Nat.add_zero] at hi
  rw [instarref04_Hex.l0, if_neg (by omega)]
  congr 1
  apply ByteArray.ext
  rw [ByteArray.data_append]
  simp [strOfNums, hexL]
 | a :: l, acc, i, k, hl, hi, hk, hs, ha => by
  simp only [List.length_cons] at hi hk
  obtain ⟨k, rfl⟩ : ∃ k', k = k' + 1 := ⟨k - 1, by omega⟩
  have ha0 : bt s (i : Int) = a := by
   rw [← rd_bytesOf]
   have h0 : (bytesOf s)[i]? = some a := by
    have := congrArg (fun l => l[0]?) hl
    simpa using this
   simp [rd, List.getD_eq_getElem?_getD, h0]
  have hd : (bytesOf s).drop (i + 1) = l := by rw [← List.drop_drop, hl]; rfl
  obtain ⟨a0, a1⟩ := bytesOf_byte s a (List.mem_of_mem_drop (by rw [hl]; exact List.mem_cons_self))
  have hq : wrap64 (Int.tdiv a 16) = a / 16 := by rw [Int.tdiv_eq_ediv_of_nonneg a0, IntWalk.wrap64_in _ (by omega)]
  have hm : Int.tmod a 16 = a % 16 := Int.tmod_eq_emod_of_nonneg a0
  have c1 := cut_figs (a / 16).toNat (by omega)
  have c2 := cut_figs (a % 16).toNat (by omega)
  rw [show (((a / 16).toNat : Nat) : Int) = a / 16 by omega] at c1
  rw [show (((a % 16).toNat : Nat) : Int) = a % 16 by omega] at c2
  have q1 : (a / 16 + 1).toNat = (a / 16).toNat + 1 := by omega
  have q2 : (a % 16 + 1).toNat = (a % 16).toNat + 1 := by omega
  unfold figs at c1 c2
  rw [instarref04_Hex.l0, if_pos (by omega), if_pos (by omega), ha0, IntWalk.wrap64_in a (by omega), hq, hm, IntWalk.wrap64_in (a / 16 + 1) (by omega), IntWalk.wrap64_in (a % 16 + 1) (by omega), q1, q2, c1, c2,
   if_pos (by omega), if_pos (by omega), if_pos (by omega), strOf_size, if_pos (by rw [List.length_singleton]; omega), if_pos (by omega), if_pos (by omega), if_pos (by omega), ByteArray.size_append, strOf_size, strOf_size, if_pos (by rw [List.length_singleton]; simp only [List.length_singleton]; omega), IntWalk.wrap64_in _ (by omega)]
  have := hex_loop s l ((acc ++ strOfNums [figF (a / 16)]) ++ strOfNums [figF (a % 16)]) (i + 1) k hd (by omega) (by omega) hs (by rw [ByteArray.size_append, ByteArray.size_append, strOf_size, strOf_size]; simp only [List.length_singleton]; omega)
  rw [Int.natCast_add] at this
  rw [show ((i : Int) + 1) = (i : Int) + ((1 : Nat) : Int) from rfl, this, ByteArray.append_assoc, ByteArray.append_assoc, strOf_append, strOf_append]
  rfl
theorem r04_hex_eval (s : ByteArray) (hs : s.size ≤ 16777216) : instarref04_Hex.f (s.size + 1) s = some (hexF s) := by
 rw [instarref04_Hex.f, hexF]
 by_cases h0 : s.size = 0
 ·rw [if_pos (by omega), if_pos h0]
 ·have h := hex_loop s (bytesOf s) ⟨#[]⟩ 0 (s.size + 1) rfl (by rw [bytesOf_length]; omega) (by rw [bytesOf_length]; omega) hs rfl
  rw [if_neg (by omega), if_neg h0, show (0 : Int) = ((0 : Nat) : Int) from rfl, h, show (⟨#[]⟩ : ByteArray) = strOfNums [] from rfl, strOf_append, List.nil_append]
theorem r04_hex_calls (s : ByteArray) (hs : s.size ≤ 16777216) (w : World) : Calls Tryd.prog 18 #[.string s] w fun e w' => e = .returned (.string (hexF s)) ∧ Drawn0 w w' :=
 instarref04_Hex.calls (s.size + 1) s _ w (r04_hex_eval s hs)
end Go.Proofs.YtiddiboclfpklaaDoor.Tx
namespace Go.Proofs.YtiddiboclfpklaaDoor.Tz
open Go.RowKit Go.Proofs.YtiddiboclfpklaaDoorW.PrintWords Go.Proofs.YtiddiboclfpklaaDoor.PScriptReads Go.Proofs.YtiddiboclfpklaaDoor.Tx
set_option linter.unusedVariables false
theorem un50 : Tryd.prog.underlying 50 = some (.slice 107) := by kernel_rfl
def colonF (s : ByteArray) : Bool := (s.extract 0 1).toList == [58]
def restF (s : ByteArray) : ByteArray := if colonF s then s.extract 1 s.size else s
theorem colon_size {s : ByteArray} (h : colonF s = true) : 1 ≤ s.size := by
 unfold colonF at h
 have h2 := congrArg List.length (beq_iff_eq.1 h)
 rw [Lib.toList_data, data_length] at h2
 simp at h2
 omega
theorem colon_empty {s : ByteArray} (h : ¬ 1 ≤ s.size) : colonF s = false := by
 cases hc : colonF s with
 | false => rfl
 | true => exact absurd (colon_size hc) h
set_option maxHeartbeats 2000000 in
set_option maxRecDepth 100000 in
theorem hasPrefix_calls (s : ByteArray) (w : World) : Calls Tryd.prog 99 #[.string s, .string ⟨#[58]⟩] w fun e w' => e = .returned (.bool (colonF s)) ∧ Drawn0 w w' := by
 by_cases h : 1 ≤ s.size
 ·have e0 : decide (1 ≤ (s.size : Int)) = true := decide_eq_true (by omega)
  have e1 : decide (1 ≤ s.size) = true := decide_eq_true h
  obtain ⟨b, hb⟩ : ∃ b, colonF s = b := ⟨_, rfl⟩
  have hq : ((s.extract 0 1).toList == [58]) = b := hb
  rw [hb]
  clear hb
  go_enter Tryd.func99, Tryd.ntmps99
  go_wp2
  go_ret
  exact ⟨by first | rfl | (simp; done) | (simp [*]; done) | (rw [← hq]; rfl), Drawn0.refl _⟩
 ·rw [colon_empty h]
  have e0 : decide (1 ≤ (s.size : Int)) = false := decide_eq_false (by omega)
  have e1 : decide (1 ≤ s.size) = false := decide_eq_false h
  go_enter Tryd.func99, Tryd.ntmps99
  go_wp2
  go_ret
  exact ⟨rfl, Drawn0.refl _⟩
set_option maxHeartbeats 2000000 in
set_option maxRecDepth 100000 in
theorem cutPrefix1_calls (s : ByteArray) (w : World) : Calls Tryd.prog 93 #[.string s, .string ⟨#[58]⟩] w fun e w' => e = .returned (.tuple #[.string (restF s), .bool (colonF s)]) ∧ Drawn0 w w' := by
 have HP : Aside0 (∀ W, Calls Tryd.prog 99 #[.string s, .string ⟨#[58]⟩] W fun e w' => e = .returned (.bool (colonF s)) ∧ Drawn0 W w') := ⟨fun W => hasPrefix_calls s W⟩
 unfold restF
 cases hc : colonF s with
 | true =>
  have h1 := colon_size hc
  have e0 : (1 ≤ (s.size : Int)) = True := eq_true (by omega)
  have e1 : decide (1 ≤ (s.size : Int)) = true := decide_eq_true (by omega)
  have e2 : decide (1 ≤ s.size) = true := decide_eq_true h1
  rw [hc] at HP
  go_enter Tryd.func93, Tryd.ntmps93
  go_wp2_with (go_at_call 99; refine (HP.out _).mono ?_; rintro e w2 ⟨rfl, ⟨⟨nq, rfl⟩⟩⟩)
  go_ret2
  exact ⟨by first | rfl | (simp; done), ⟨_, rfl⟩⟩
 | false =>
  rw [hc] at HP
  go_enter Tryd.func93, Tryd.ntmps93
  go_wp2_with (go_at_call 99; refine (HP.out _).mono ?_; rintro e w2 ⟨rfl, ⟨⟨nq, rfl⟩⟩⟩)
  go_ret2
  exact ⟨rfl, ⟨_, rfl⟩⟩
set_option maxHeartbeats 2000000 in
set_option maxRecDepth 100000 in
theorem cutPrefix_calls (s : ByteArray) (w : World) : Calls Tryd.prog 88 #[.string s, .string ⟨#[58]⟩] w fun e w' => e = .returned (.tuple #[.string (restF s), .bool (colonF s)]) ∧ Drawn0 w w' := by
 have HP : Aside0 (∀ W, Calls Tryd.prog 93 #[.string s, .string ⟨#[58]⟩] W fun e w' => e = .returned (.tuple #[.string (restF s), .bool (colonF s)]) ∧ Drawn0 W w') := ⟨fun W => cutPrefix1_calls s W⟩
 go_enter Tryd.func88, Tryd.ntmps88
 go_wp2_with (go_at_call 93; refine (HP.out _).mono ?_; rintro e w2 ⟨rfl, ⟨⟨nq, rfl⟩⟩⟩)
 go_ret2
 exact ⟨rfl, ⟨_, rfl⟩⟩
theorem restF_size (s : ByteArray) : (restF s).size ≤ s.size := by
 unfold restF
 split
 ·simp
 ·exact Nat.le_refl _
def isVal (s : ByteArray) : Bool := if colonF s then decide ((unhexS (restF s)).2 = 0) && !decide ((unhexS (restF s)).1.size = 0) else isNum s
def valOf (s : ByteArray) : S107 := if colonF s then ⟨0, (unhexS (restF s)).1⟩ else ⟨numOf s, ⟨#[]⟩⟩
def ValsPost (w : World) (l : List ByteArray) (e : Ending) (w' : World) : Prop :=
 ((l.all isVal = true ∧ ∃ v, e = .returned (.tuple #[v, .bool true]) ∧ Kd.R k107 107 w' w.heap.size (fun _ => True) v (l.map valOf)) ∨ (l.all isVal = false ∧ e = .returned (.tuple #[.slice none 0 0, .bool false]))) ∧ Below w.heap.size w w'
def ValsSt (w wr : World) (v : Value) (ns : List S107) : Prop := Kd.R k107 107 wr w.heap.size (fun _ => True) v ns ∧ Below w.heap.size w wr
set_option maxHeartbeats 4000000 in
set_option maxRecDepth 100000 in
theorem values_calls (l : List ByteArray) (A : Option Addr) (c : Nat) (w : World) (hr : Kd.C Kd.string w A l.length l) (hx : ∀ x ∈ l, x.size ≤ 16777216) (hl : l.length ≤ 16777216) :
  Calls Tryd.prog 81 #[.slice A l.length c] w (ValsPost w l) := by
 have HR := Aside0.mk hr
 have HX := Aside0.mk hx
 clear hr hx
 obtain ⟨N, hN⟩ : ∃ N, l.length = N := ⟨_, rfl⟩
 rw [hN] at HR hl ⊢
 have HN := Aside0.mk hN
 clear hN
 have S0 : Aside0 (ValsSt w w (.slice none 0 0) ((l.take 0).map valOf) ∧ (l.take 0).all isVal = true) := ⟨⟨Kd.R_nil _ _ _ _ _, Below.refl _ _⟩, rfl⟩
 go_enter Tryd.func81, Tryd.ntmps81
 go_wp2_with fail
 go_loopw [4, 15] (fun v i wr => ∃ t : Nat, t ≤ N ∧ i = .int .i64 (t : Int) ∧ Aside0 (ValsSt w wr v ((l.take t).map valOf) ∧ (l.take t).all isVal = true)) (fun _ i _ => N - (intOf i).toNat)
 case atStart => exact ⟨0, by omega, rfl, S0⟩
 case round =>
  clear S0
  obtain ⟨t, ht, rfl, S⟩ := hrel
  obtain ⟨A3, c3, rfl⟩ := Kd.R_slice S.out.1.1
  by_cases hlt : t < N
  ·have hb5 : (0 : Int) ≤ (t : Int) := by omega
   have hb6 : (t : Int) < (N : Int) := by omega
   obtain ⟨ad, cs, rfl, _, hk, hc⟩ := Kd.C_get (Kd.C_below HR.out S.out.1.2) ByteArray.empty (t : Int) hb5 hb6
   rw [Int.toNat_natCast] at hk hc
   have htl : t < l.length := by rw [HN.out]; exact hlt
   obtain ⟨x, hx⟩ : ∃ x, l.getD t ByteArray.empty = x := ⟨_, rfl⟩
   rw [hx] at hk
   have hxe : l[t] = x := by rw [← hx]; simp [htl]
   obtain rfl : cs = [.string x] := hk
   have hc0 : wr.cell? (ad.add t) = some (.string x) := by
    have h := hc 0 (.string x) rfl
    rw [show t * Kd.string.sz + 0 = t from Nat.mul_one t] at h
    exact h
   have hxs := HX.out x (by rw [← hxe]; exact List.getElem_mem htl)
   have htk : l.take (t + 1) = l.take t ++ [x] := by rw [List.take_succ_eq_append_getElem htl, hxe]
   have HRd : Aside0 (∀ W, Calls Tryd.prog 10 #[.string x] W fun e w' => e = .returned (.tuple #[.int .i64 (readU x).1, .int .i64 (readU x).2]) ∧ Below W.heap.size W w') := ⟨fun W => read_calls x (by omega) W⟩
   have HCP : Aside0 (∀ W, Calls Tryd.prog 88 #[.string x, .string ⟨#[58]⟩] W fun e w' => e = .returned (.tuple #[.string (restF x), .bool (colonF x)]) ∧ Drawn0 W w') := ⟨fun W => cutPrefix_calls x W⟩
   have HUx : Aside0 (∀ W, Calls Tryd.prog 15 #[.string (restF x)] W fun e w' => e = .returned (.tuple #[.string (unhexS (restF x)).1, .int .i64 (unhexS (restF x)).2]) ∧ Below W.heap.size W w') := ⟨fun W => unhex_calls (restF x) (by have := restF_size x; omega) W⟩
   have hno : isVal x = false → l.all isVal = false := by
    intro h0
    rw [← Bool.not_eq_true, List.all_eq_true]
    intro h1
    have := h1 l[t] (List.getElem_mem htl)
    rw [hxe, h0] at this
    cases this
   have htm : (l.take (t + 1)).map valOf = (l.take t).map valOf ++ [valOf x] := by rw [htk, List.map_append]; rfl
   have hta : (l.take (t + 1)).all isVal = isVal x := by rw [htk, List.all_append, S.out.2, Bool.true_and]; simp
   obtain ⟨ns, hns⟩ : ∃ ns, (l.take t).map valOf = ns := ⟨_, rfl⟩
   have hnl : ns.length ≤ 16777216 := by rw [← hns, List.length_map, List.length_take]; omega
   rw [hns] at S htm
   rw [hns]
   have hiv : isVal x = if colonF x then decide ((unhexS (restF x)).2 = 0) && !decide ((unhexS (restF x)).1.size = 0) else decide ((readU x).2 = 0) := rfl
   have hvo : valOf x = if colonF x then ⟨0, (unhexS (restF x)).1⟩ else ⟨(readU x).1, ⟨#[]⟩⟩ := rfl
   obtain ⟨cl, hcl⟩ : ∃ cl, colonF x = cl := ⟨_, rfl⟩
   obtain ⟨rs, hrs⟩ : ∃ rs, restF x = rs := ⟨_, rfl⟩
   rw [hcl] at hiv hvo HCP
   rw [hrs] at hiv hvo HCP HUx
   obtain ⟨vx, hvx⟩ : ∃ vx, valOf x = vx := ⟨_, rfl⟩
   rw [hvx] at htm hvo
   have HT := Aside0.mk (And.intro htm (And.intro hta (And.intro hno hnl)))
   clear hx hxe hxs htk hno htm hta hns hnl htl hc hcl hrs hvx
   cases cl with
   | true =>
    rw [if_pos rfl] at hiv hvo
    obtain ⟨us, hus⟩ : ∃ us, (unhexS rs).1 = us := ⟨_, rfl⟩
    obtain ⟨ue, hue⟩ : ∃ ue, (unhexS rs).2 = ue := ⟨_, rfl⟩
    rw [hus, hue] at hiv HUx
    rw [hus] at hvo
    clear hus hue
    have HV := Aside0.mk hvo
    clear hvo
    by_cases h0 : ue = 0
    ·subst h0
     rw [decide_eq_true rfl, Bool.true_and] at hiv
     by_cases hz : us.size = 0
     ·rw [decide_eq_true hz] at hiv
      obtain rfl : us = ⟨#[]⟩ := ByteArray.ext (Array.eq_empty_of_size_eq_zero hz)
      have HOK := Aside0.mk (HT.out.2.2.1 hiv)
      clear hiv hz
      go_wp2_with (first
       | (go_at_call 88; refine (HCP.out _).mono ?_; rintro e w2 ⟨rfl, ⟨⟨nq, rfl⟩⟩⟩)
       | (go_at_call 15; refine (HUx.out _).mono ?_; rintro e w3 ⟨rfl, hB⟩; have B2 := Aside0.mk ((pw_below_drewN S.out.1.2 nq).trans (hB.mono (pw_below_drewN S.out.1.2 nq).size)); clear hB))
      go_ret2
      exact ⟨.inr ⟨HOK.out, rfl⟩, B2.out⟩
     ·rw [decide_eq_false hz] at hiv
      have hne := nonempty_false hz
      have HOK := Aside0.mk hiv
      clear hiv hz
      go_wp2_with (first
       | (go_at_call 88; refine (HCP.out _).mono ?_; rintro e w2 ⟨rfl, ⟨⟨nq, rfl⟩⟩⟩)
       | (go_at_call 15; refine (HUx.out _).mono ?_; rintro e w3 ⟨rfl, hB⟩; have S2 : Aside0 (ValsSt w w3 (.slice A3 ns.length c3) ns) := ⟨⟨Kd.R_below (Kd.R_below S.out.1.1 (pw_below_drewN (Below.refl _ _) nq)) hB, (pw_below_drewN S.out.1.2 nq).trans (hB.mono (pw_below_drewN S.out.1.2 nq).size)⟩⟩; clear hB)
       | ((with_reducible refine gate_builtin (b := .append) (xs := #[.tmp 36, .tmp 39]) rfl ?_); at_builtin; refine Kd.R_append k107 (w0 := w) w.heap.size rfl (.tmp 36) (.tmp 39) 50 107 (.agg #[.int .i64 0, .string ⟨#[]⟩]) 24 rfl un50 info107 rfl (by decide) (by decide) (.slice A3 ns.length c3) ns ⟨0, us⟩ [.int .i64 0, .string us] (fun _ => True) (fun _ => False) rfl rfl (k107_mkM _ _ _ ⟨0, us⟩) (fun _ h => h.elim) (fun _ _ => trivial) S2.out.1 S2.out.2 S2.out.2.size (by have := HT.out.2.2.2; omega) ?_; intro v4 w4 ho hb hg hat; have S4 : Aside0 (ValsSt w w4 v4 (ns ++ [⟨0, us⟩])) := ⟨⟨ho, hb⟩⟩; clear ho hb hg hat))
      refine ⟨⟨t + 1, by omega, by go_num, ⟨⟨by rw [HT.out.1, HV.out]; exact S4.out, by rw [HT.out.2.1]; exact HOK.out⟩⟩⟩, ?_⟩
      simp only [intOf]; omega
    ·have HOK := Aside0.mk (HT.out.2.2.1 (by rw [hiv, decide_eq_false h0, Bool.false_and]))
     have h0' : (ue == 0) = false := beq_eq_false_iff_ne.2 h0
     clear hiv
     go_wp2_with (first
      | (go_at_call 88; refine (HCP.out _).mono ?_; rintro e w2 ⟨rfl, ⟨⟨nq, rfl⟩⟩⟩)
      | (go_at_call 15; refine (HUx.out _).mono ?_; rintro e w3 ⟨rfl, hB⟩; have B2 := Aside0.mk ((pw_below_drewN S.out.1.2 nq).trans (hB.mono (pw_below_drewN S.out.1.2 nq).size)); clear hB))
     go_ret2
     exact ⟨.inr ⟨HOK.out, rfl⟩, B2.out⟩
   | false =>
    rw [if_neg Bool.false_ne_true] at hiv hvo
    clear HUx
    obtain ⟨n, hn⟩ : ∃ n, (readU x).1 = n := ⟨_, rfl⟩
    obtain ⟨e, he⟩ : ∃ e, (readU x).2 = e := ⟨_, rfl⟩
    rw [hn, he] at HRd
    rw [he] at hiv
    rw [hn] at hvo
    clear hn he
    have HV := Aside0.mk hvo
    clear hvo
    by_cases h0 : e = 0
    ·subst h0
     have HOK := Aside0.mk (hiv.trans (decide_eq_true rfl))
     clear hiv
     go_wp2_with (first
      | (go_at_call 88; refine (HCP.out _).mono ?_; rintro e w2 ⟨rfl, ⟨⟨nq, rfl⟩⟩⟩)
      | (go_at_call 10; refine (HRd.out _).mono ?_; rintro e w3 ⟨rfl, hB⟩; have S2 : Aside0 (ValsSt w w3 (.slice A3 ns.length c3) ns) := ⟨⟨Kd.R_below (Kd.R_below S.out.1.1 (pw_below_drewN (Below.refl _ _) nq)) hB, (pw_below_drewN S.out.1.2 nq).trans (hB.mono (pw_below_drewN S.out.1.2 nq).size)⟩⟩; clear hB)
      | ((with_reducible refine gate_builtin (b := .append) (xs := #[.tmp 48, .tmp 51]) rfl ?_); at_builtin; refine Kd.R_append k107 (w0 := w) w.heap.size rfl (.tmp 48) (.tmp 51) 50 107 (.agg #[.int .i64 0, .string ⟨#[]⟩]) 24 rfl un50 info107 rfl (by decide) (by decide) (.slice A3 ns.length c3) ns ⟨n, ⟨#[]⟩⟩ [.int .i64 n, .string ⟨#[]⟩] (fun _ => True) (fun _ => False) rfl rfl (k107_mkM _ _ _ ⟨n, ⟨#[]⟩⟩) (fun _ h => h.elim) (fun _ _ => trivial) S2.out.1 S2.out.2 S2.out.2.size (by have := HT.out.2.2.2; omega) ?_; intro v4 w4 ho hb hg hat; have S4 : Aside0 (ValsSt w w4 v4 (ns ++ [⟨n, ⟨#[]⟩⟩])) := ⟨⟨ho, hb⟩⟩; clear ho hb hg hat))
     refine ⟨⟨t + 1, by omega, by go_num, ⟨⟨by rw [HT.out.1, HV.out]; exact S4.out, by rw [HT.out.2.1]; exact HOK.out⟩⟩⟩, ?_⟩
     simp only [intOf]; omega
    ·have HOK := Aside0.mk (HT.out.2.2.1 (hiv.trans (decide_eq_false h0)))
     have h0' : (e == 0) = false := beq_eq_false_iff_ne.2 h0
     clear hiv
     go_wp2_with (first
      | (go_at_call 88; refine (HCP.out _).mono ?_; rintro e w2 ⟨rfl, ⟨⟨nq, rfl⟩⟩⟩)
      | (go_at_call 10; refine (HRd.out _).mono ?_; rintro e w3 ⟨rfl, hB⟩; have B2 := Aside0.mk ((pw_below_drewN S.out.1.2 nq).trans (hB.mono (pw_below_drewN S.out.1.2 nq).size)); clear hB))
     go_ret2
     exact ⟨.inr ⟨HOK.out, rfl⟩, B2.out⟩
  ·obtain rfl : t = N := by omega
   have hfull : l.take t = l := List.take_of_length_le (by rw [HN.out]; exact Nat.le_refl _)
   have S1 : Aside0 (∃ ns, ValsSt w wr (.slice A3 ((l.take t).map valOf).length c3) ns ∧ ns = l.map valOf ∧ l.all isVal = true) := ⟨_, S.out.1, by rw [hfull], by have := S.out.2; rwa [hfull] at this⟩
   clear hfull
   go_wp2_with fail
   go_ret2
   obtain ⟨ns, h1, h2, h3⟩ := S1.out
   exact ⟨.inl ⟨h3, _, rfl, by rw [← h2]; exact h1.1⟩, h1.2⟩
end Go.Proofs.YtiddiboclfpklaaDoor.Tz
namespace Go.Proofs.YtiddiboclfpklaaDoor.Tz
open Go.RowKit Go.Proofs.YtiddiboclfpklaaDoorW.PrintWords Go.Proofs.YtiddiboclfpklaaDoor.PScriptReads Go.Proofs.YtiddiboclfpklaaDoor.Tx
set_option linter.unusedVariables false
theorem cut84 (A : Option Addr) (c : Nat) (l : List ByteArray) (j : Nat) (hj : j ≤ l.length) (hc : l.length ≤ c) :
  ∃ A', (∀ W : World, (Instr.slice 84 (.slice A l.length c) (some (.int .i64 (j : Int))) none none).run Tryd.prog W = .ok (.slice A' (l.drop j).length (c - j)) W) ∧
   (∀ w : World, Kd.C Kd.string w A l.length l → Kd.C Kd.string w A' (l.drop j).length (l.drop j)) ∧ (l.drop j).length ≤ c - j := by
 obtain ⟨i0, hi, hzz⟩ := Option.map_eq_some_iff.1 info9
 simp only [Prod.mk.injEq] at hzz
 obtain ⟨A', h1, h2, h3⟩ := print_drop_of (P := Tryd.prog) Value.string ByteArray.empty 84 9 .i64 un84 hi hzz.2.1 A c l (j : Int) (by omega) (by omega) hc
 simp only [Int.toNat_natCast] at h1 h2 h3
 exact ⟨A', h1, fun w h => Kd.C_of_reads (h2 w (Kd.reads_of_C h)), h3⟩
theorem cut138 (A : Option Addr) (c : Nat) (l : List Int) (j : Nat) (hj : j ≤ l.length) (hc : l.length ≤ c) :
  ∃ A', (∀ W : World, (Instr.slice 138 (.slice A l.length c) (some (.int .i64 (j : Int))) none none).run Tryd.prog W = .ok (.slice A' (l.drop j).length (c - j)) W) ∧
   (∀ w : World, Kd.C (Kd.int .i64) w A l.length l → Kd.C (Kd.int .i64) w A' (l.drop j).length (l.drop j)) ∧ (l.drop j).length ≤ c - j := by
 obtain ⟨i0, hi, hzz⟩ := Option.map_eq_some_iff.1 info3
 simp only [Prod.mk.injEq] at hzz
 obtain ⟨A', h1, h2, h3⟩ := print_drop_of (P := Tryd.prog) (Value.int .i64) (0 : Int) 138 3 .i64 un138 hi hzz.2.1 A c l (j : Int) (by omega) (by omega) hc
 simp only [Int.toNat_natCast] at h1 h2 h3
 exact ⟨A', h1, fun w h => Kd.C_of_reads (h2 w (Kd.reads_of_C h)), h3⟩
def bytesF (l : List ByteArray) : ByteArray × Bool := match l with
 | [x] => ((unhexS x).1, decide ((unhexS x).2 = 0))
 | _ => (⟨#[]⟩, false)
theorem bytesF_not (l : List ByteArray) (h : l.length ≠ 1) : bytesF l = (⟨#[]⟩, false) := by
 match l, h with
 | [], _ => rfl
 | [x], h => exact absurd rfl h
 | _ :: _ :: _, _ => rfl
set_option maxHeartbeats 2000000 in
set_option maxRecDepth 100000 in
theorem bytes_calls (l : List ByteArray) (A : Option Addr) (c : Nat) (w : World) (hr : Kd.C Kd.string w A l.length l) (hx : ∀ x ∈ l, x.size ≤ 16777216) :
  Calls Tryd.prog 64 #[.slice A l.length c] w fun e w' => e = .returned (.tuple #[.string (bytesF l).1, .bool (bytesF l).2]) ∧ Below w.heap.size w w' := by
 have HB := Aside0.mk (Below.refl w.heap.size w)
 by_cases h1 : l.length = 1
 ·obtain ⟨x, rfl⟩ : ∃ x, l = [x] := by
   match l, h1 with
   | [x], _ => exact ⟨x, rfl⟩
  obtain ⟨ad, rfl, hc⟩ := Kd.at_string hr 0 (by omega) (by simp)
  have hc0 : w.cell? ad = some (.string x) := by
   rw [show (0 : Int).toNat = 0 from rfl, Addr.add_zero'] at hc
   exact hc
  have HU : Aside0 (∀ W, Calls Tryd.prog 15 #[.string x] W fun e w' => e = .returned (.tuple #[.string (unhexS x).1, .int .i64 (unhexS x).2]) ∧ Below W.heap.size W w') := ⟨fun W => unhex_calls x (hx x (by simp)) W⟩
  have hb : bytesF [x] = ((unhexS x).1, decide ((unhexS x).2 = 0)) := rfl
  rw [hb]
  obtain ⟨us, hus⟩ : ∃ us, (unhexS x).1 = us := ⟨_, rfl⟩
  obtain ⟨ue, hue⟩ : ∃ ue, (unhexS x).2 = ue := ⟨_, rfl⟩
  rw [hus, hue] at HU ⊢
  clear hus hue hb hr hx h1 hc
  go_enter Tryd.func64, Tryd.ntmps64
  go_wp2_with (go_at_call 15; refine (HU.out _).mono ?_; rintro e w3 ⟨rfl, hB⟩; have B2 := Aside0.mk (HB.out.trans (hB.mono HB.out.size)); clear hB)
  go_ret2
  exact ⟨by first | rfl | (simp; done) | (simp [beq_eq_decide]; done), B2.out⟩
 ·rw [bytesF_not l h1]
  have e1 : ((l.length : Int) == 1) = false := beq_eq_false_iff_ne.2 (by omega)
  clear hr hx
  go_enter Tryd.func64, Tryd.ntmps64
  go_wp2_with fail
  go_ret2
  exact ⟨rfl, HB.out⟩
def devW : ByteArray := ⟨#[100, 101, 118, 105, 99, 101]⟩
theorem devW_list : devW.toList = [100, 101, 118, 105, 99, 101] := by rw [Lib.toList_data]; rfl
def devOk (x : ByteArray) (r : List ByteArray) : Bool := r.all isNum && ((x.toList == devW.toList) && decide (r.length = 6))
def zero46 : Array Value := #[.int .i64 0, .int .i64 0, .int .i64 0, .int .i64 0, .int .i64 0, .int .i64 0]
theorem size46 : (Tryd.prog.info? 46).map (·.size) = some 6 := by kernel_rfl
theorem one46 (a b c d e f : Int) : (#[Value.int .i64 a, .int .i64 b, .int .i64 c, .int .i64 d, .int .i64 e, .int .i64 f] : Array Value).all (·.oneCell') = true := by simp [Value.oneCell']
def DevPost (w : World) (x : ByteArray) (r : List ByteArray) (e : Ending) (w' : World) : Prop :=
 ((devOk x r = true ∧ ∃ a b c d f g, r.map numOf = [a, b, c, d, f, g] ∧ e = .returned (.tuple #[.agg #[.int .i64 a, .int .i64 b, .int .i64 c, .int .i64 d, .int .i64 f, .int .i64 g], .bool true])) ∨ (devOk x r = false ∧ e = .returned (.tuple #[.agg zero46, .bool false]))) ∧ Below w.heap.size w w'
theorem word_eq (x y : ByteArray) : (x.toList == y.toList) = decide (x = y) := by
 by_cases h : x = y
 ·subst h; simp
 ·rw [decide_eq_false h]
  refine beq_eq_false_iff_ne.2 (fun e => h ?_)
  rw [Lib.toList_data, Lib.toList_data] at e
  exact ByteArray.ext (Array.toList_inj.1 e)
set_option maxHeartbeats 4000000 in
set_option maxRecDepth 100000 in
theorem device_calls (x : ByteArray) (r : List ByteArray) (A : Option Addr) (c : Nat) (w : World) (hr : Kd.C Kd.string w A (x :: r).length (x :: r)) (hc : (x :: r).length ≤ c) (hx : ∀ y ∈ x :: r, y.size ≤ 16777216) (hl : r.length ≤ 16777216) :
  Calls Tryd.prog 63 #[.slice A (r.length + 1) c] w (DevPost w x r) := by
 obtain ⟨A1, hcut, hC1, hc1⟩ := cut84 A c (x :: r) 1 (by simp) hc
 have HB := Aside0.mk (Below.alloc (Below.refl w.heap.size w) (Nat.le_refl _) (.cells #[.int .i64 0, .int .i64 0, .int .i64 0, .int .i64 0, .int .i64 0, .int .i64 0] 46))
 obtain ⟨ad, hA, hc0⟩ := Kd.at_string hr 0 (by omega) (by simp)
 subst hA
 have hce : w.cell? ad = some (.string x) := by
  rw [show (0 : Int).toNat = 0 from rfl, Addr.add_zero'] at hc0
  exact hc0
 have hR1 := hC1 w hr
 replace hR1 : Kd.C Kd.string w A1 r.length r := hR1
 replace hcut : ∀ W : World, (Instr.slice 84 (.slice (some ad) (r.length + 1) c) (some (.int .i64 1)) none none).run Tryd.prog W = .ok (.slice A1 r.length (c - 1)) W := hcut
 have HN : Aside0 (∀ W, Below w.heap.size w W → Calls Tryd.prog 78 #[.slice A1 r.length (c - 1)] W (NumsPost W r)) := ⟨fun W hb => numbers_calls r A1 (c - 1) W (Kd.C_below hR1 hb) (fun y hy => hx y (List.mem_cons_of_mem _ hy)) hl⟩
 have K0 := Aside0.mk (blk_new w (.cells #[.int .i64 0, .int .i64 0, .int .i64 0, .int .i64 0, .int .i64 0, .int .i64 0] 46))
 have HCE := Aside0.mk hce
 have hq1 : (1 : Int) ≤ ((r.length + 1 : Nat) : Int) := by omega
 clear hC1 hR1 hc1 hx hr hc hc0 hl hce
 obtain ⟨dv, hdv⟩ : ∃ dv, (x.toList == devW.toList) = dv := ⟨_, rfl⟩
 have hok : devOk x r = (r.all isNum && (dv && decide (r.length = 6))) := by unfold devOk; rw [hdv]
 have HOK := Aside0.mk hok
 clear hok
 rw [devW_list] at hdv
 cases hall : r.all isNum with
 | false =>
  have HP : Aside0 (devOk x r = false) := ⟨by rw [HOK.out, hall, Bool.false_and]⟩
  have HN2 : Aside0 (∀ W, Below w.heap.size w W → Calls Tryd.prog 78 #[.slice A1 r.length (c - 1)] W fun e w' => e = .returned (.tuple #[.slice none 0 0, .bool false]) ∧ Below W.heap.size W w') := ⟨fun W hb => (HN.out W hb).mono (by
   rintro e w' ⟨⟨h1, _⟩ | ⟨_, h2⟩, hB⟩
   ·rw [hall] at h1; cases h1
   ·exact ⟨h2, hB⟩)⟩
  clear HN HOK hall
  go_enter Tryd.func63, Tryd.ntmps63
  go_wp2_with (first
   | (go_at_call 78; refine (HN2.out _ HB.out).mono ?_; rintro e w2 ⟨rfl, hB⟩; have K2 := Aside0.mk (blk_below K0.out hB); have B2 := Aside0.mk (HB.out.trans (hB.mono HB.out.size)); clear hB)
   | (refine wpList_load_row rfl 46 _ rfl w.heap.size rfl 46 _ (0, 0) _ K2.out Tryd.underlying46 rfl size46 ?_)
   | (refine wpList_store_row rfl 46 _ _ rfl w.heap.size zero46 rfl rfl 46 zero46 K2.out size46 rfl (one46 0 0 0 0 0 0) ?_; rw [setRow_self _ _ zero46 _ _ K2.out]))
  refine bodyPost_ret (results_ct rfl _ _ w.heap.size 46 zero46 (0, 0) _ rfl K2.out Tryd.underlying46 rfl size46) rfl ?_
  exact ⟨.inr ⟨HP.out, rfl⟩, B2.out⟩
 | true =>
  have HN2 : Aside0 (∀ W, Below w.heap.size w W → Calls Tryd.prog 78 #[.slice A1 r.length (c - 1)] W fun e w' => (∃ A3 c3, e = .returned (.tuple #[.slice A3 r.length c3, .bool true]) ∧ Kd.C (Kd.int .i64) w' A3 r.length (r.map numOf)) ∧ Below W.heap.size W w') := ⟨fun W hb => (HN.out W hb).mono (by
   rintro e w' ⟨⟨_, v, rfl, hv⟩ | ⟨h1, _⟩, hB⟩
   ·obtain ⟨A3, c3, rfl, _, h3⟩ := Kd.R_reads hv
    rw [List.length_map] at h3 ⊢
    exact ⟨⟨A3, c3, rfl, h3⟩, hB⟩
   ·rw [hall] at h1; cases h1)⟩
  clear HN
  by_cases hn : dv = true ∧ r.length = 6
  ·obtain ⟨rfl, h6⟩ := hn
   have HP : Aside0 (devOk x r = true) := ⟨by rw [HOK.out, hall, decide_eq_true h6]; rfl⟩
   clear HOK hall
   obtain ⟨ns, hns⟩ : ∃ ns, r.map numOf = ns := ⟨_, rfl⟩
   have hnl : ns.length = 6 := by rw [← hns, List.length_map, h6]
   rw [hns, h6] at HN2
   obtain ⟨g0, g1, g2, g3, g4, g5, rfl⟩ : ∃ a b c d e f, ns = [a, b, c, d, e, f] := by
    match ns, hnl with
    | [a, b, c, d, e, f], _ => exact ⟨a, b, c, d, e, f, rfl⟩
   have HNS := Aside0.mk hns
   rw [h6] at hcut hq1 ⊢
   clear hns hnl h6
   go_enter Tryd.func63, Tryd.ntmps63
   go_wp2_with (first
    | (go_at_call 78; refine (HN2.out _ HB.out).mono ?_; rintro e w2 ⟨⟨A3, c3, rfl, hC3⟩, hB⟩; have K2 := Aside0.mk (blk_below K0.out hB); have B2 := Aside0.mk (HB.out.trans (hB.mono HB.out.size)); have hce2 := pw_cell_below (HB.out.trans (hB.mono HB.out.size)) HCE.out; clear hB; obtain ⟨a3, hA3, n0⟩ := Kd.at_int hC3 0 (by omega) (by simp); subst hA3; obtain ⟨a4, h4, n1⟩ := Kd.at_int hC3 1 (by omega) (by simp); cases h4; obtain ⟨a4, h4, n2⟩ := Kd.at_int hC3 2 (by omega) (by simp); cases h4; obtain ⟨a4, h4, n3⟩ := Kd.at_int hC3 3 (by omega) (by simp); cases h4; obtain ⟨a4, h4, n4⟩ := Kd.at_int hC3 4 (by omega) (by simp); cases h4; obtain ⟨a4, h4, n5⟩ := Kd.at_int hC3 5 (by omega) (by simp); cases h4; clear hC3))
   have m0 : w2.cell? a3 = some (.int .i64 g0) := by
    have h := n0
    rw [show (0 : Int).toNat = 0 from rfl, Addr.add_zero'] at h
    exact h
   replace n1 : w2.cell? ⟨a3.block, a3.off + 1, none⟩ = some (.int .i64 g1) := n1
   replace n2 : w2.cell? ⟨a3.block, a3.off + 2, none⟩ = some (.int .i64 g2) := n2
   replace n3 : w2.cell? ⟨a3.block, a3.off + 3, none⟩ = some (.int .i64 g3) := n3
   replace n4 : w2.cell? ⟨a3.block, a3.off + 4, none⟩ = some (.int .i64 g4) := n4
   replace n5 : w2.cell? ⟨a3.block, a3.off + 5, none⟩ = some (.int .i64 g5) := n5
   clear n0 hce2
   have hu46 := Tryd.underlying46
   have z0 : w2.cell? ⟨w.heap.size, 0, none⟩ = some (.int .i64 0) := (blk_cell K2.out 0).trans rfl
   have z1 : w2.cell? ⟨w.heap.size, 1, none⟩ = some (.int .i64 0) := (blk_cell K2.out 1).trans rfl
   have z2 : w2.cell? ⟨w.heap.size, 2, none⟩ = some (.int .i64 0) := (blk_cell K2.out 2).trans rfl
   have z3 : w2.cell? ⟨w.heap.size, 3, none⟩ = some (.int .i64 0) := (blk_cell K2.out 3).trans rfl
   have z4 : w2.cell? ⟨w.heap.size, 4, none⟩ = some (.int .i64 0) := (blk_cell K2.out 4).trans rfl
   have z5 : w2.cell? ⟨w.heap.size, 5, none⟩ = some (.int .i64 0) := (blk_cell K2.out 5).trans rfl
   have fz0 := blk_frozen K2.out 0
   have fz1 := blk_frozen K2.out 1
   have fz2 := blk_frozen K2.out 2
   have fz3 := blk_frozen K2.out 3
   have fz4 := blk_frozen K2.out 4
   have fz5 := blk_frozen K2.out 5
   go_region
   have K5 : ((((((w2.setCell ⟨w.heap.size, 0, none⟩ (.int .i64 g0)).setCell ⟨w.heap.size, 1, none⟩ (.int .i64 g1)).setCell ⟨w.heap.size, 2, none⟩ (.int .i64 g2)).setCell ⟨w.heap.size, 3, none⟩ (.int .i64 g3)).setCell ⟨w.heap.size, 4, none⟩ (.int .i64 g4)).setCell ⟨w.heap.size, 5, none⟩ (.int .i64 g5)).drew.heap[w.heap.size]? = some (.cells #[.int .i64 g0, .int .i64 g1, .int .i64 g2, .int .i64 g3, .int .i64 g4, .int .i64 g5] 46 (0, 0)) :=
    blk_drew (blk_put (blk_put (blk_put (blk_put (blk_put (blk_put K2.out 0 _ rfl) 1 _ rfl) 2 _ rfl) 3 _ rfl) 4 _ rfl) 5 _ rfl)
   have B5 := below_drew1 (below_set (j := 5) (v := .int .i64 g5) (below_set (j := 4) (v := .int .i64 g4) (below_set (j := 3) (v := .int .i64 g3) (below_set (j := 2) (v := .int .i64 g2) (below_set (j := 1) (v := .int .i64 g1) (below_set (j := 0) (v := .int .i64 g0) B2.out (Nat.le_refl _)) (Nat.le_refl _)) (Nat.le_refl _)) (Nat.le_refl _)) (Nat.le_refl _)) (Nat.le_refl _))
   clear z0 z1 z2 z3 z4 z5 fz0 fz1 fz2 fz3 fz4 fz5 m0 n1 n2 n3 n4 n5 K2 B2
   go_wp2_with fail
   refine bodyPost_ret (results_ct rfl _ _ w.heap.size 46 _ (0, 0) _ rfl K5 Tryd.underlying46 rfl size46) rfl ?_
   exact ⟨.inl ⟨HP.out, _, _, _, _, _, _, HNS.out, rfl⟩, B5⟩
  ·have HP : Aside0 (devOk x r = false) := ⟨by
    rw [HOK.out, hall, Bool.true_and, ← Bool.not_eq_true, Bool.and_eq_true, decide_eq_true_eq]
    exact hn⟩
   clear HOK hall
   cases dv with
   | false =>
    clear hn
    go_enter Tryd.func63, Tryd.ntmps63
    go_wp2_with (first
     | (go_at_call 78; refine (HN2.out _ HB.out).mono ?_; rintro e w2 ⟨⟨A3, c3, rfl, hC3⟩, hB⟩; have K2 := Aside0.mk (blk_below K0.out hB); have B2 := Aside0.mk (HB.out.trans (hB.mono HB.out.size)); have hce2 := pw_cell_below (HB.out.trans (hB.mono HB.out.size)) HCE.out; clear hB)
     | (refine wpList_load_row rfl 46 _ rfl w.heap.size rfl 46 _ (0, 0) _ K2.out Tryd.underlying46 rfl size46 ?_)
     | (refine wpList_store_row rfl 46 _ _ rfl w.heap.size zero46 rfl rfl 46 zero46 K2.out size46 rfl (one46 0 0 0 0 0 0) ?_; rw [setRow_self _ _ zero46 _ _ K2.out]))
    refine bodyPost_ret (results_ct rfl _ _ w.heap.size 46 zero46 (0, 0) _ rfl K2.out Tryd.underlying46 rfl size46) rfl ?_
    exact ⟨.inr ⟨HP.out, rfl⟩, B2.out⟩
   | true =>
    have hn6 : ((r.length : Int) == 6) = false := beq_eq_false_iff_ne.2 (fun e => hn ⟨rfl, by omega⟩)
    clear hn
    go_enter Tryd.func63, Tryd.ntmps63
    go_wp2_with (first
     | (go_at_call 78; refine (HN2.out _ HB.out).mono ?_; rintro e w2 ⟨⟨A3, c3, rfl, hC3⟩, hB⟩; have K2 := Aside0.mk (blk_below K0.out hB); have B2 := Aside0.mk (HB.out.trans (hB.mono HB.out.size)); have hce2 := pw_cell_below (HB.out.trans (hB.mono HB.out.size)) HCE.out; clear hB)
     | (refine wpList_load_row rfl 46 _ rfl w.heap.size rfl 46 _ (0, 0) _ K2.out Tryd.underlying46 rfl size46 ?_)
     | (refine wpList_store_row rfl 46 _ _ rfl w.heap.size zero46 rfl rfl 46 zero46 K2.out size46 rfl (one46 0 0 0 0 0 0) ?_; rw [setRow_self _ _ zero46 _ _ K2.out]))
    refine bodyPost_ret (results_ct rfl _ _ w.heap.size 46 zero46 (0, 0) _ rfl K2.out Tryd.underlying46 rfl size46) rfl ?_
    exact ⟨.inr ⟨HP.out, rfl⟩, B2.out⟩
end Go.Proofs.YtiddiboclfpklaaDoor.Tz
