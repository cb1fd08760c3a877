/- The bytes of a text, and bytes' text: the plain law of both sides. -/
import Derived.Test.YtiddiboclfpklaaDoorTxM
import Derived.Test.YtiddiboclfpklaaDoorTxJ
namespace Go.Proofs.YtiddiboclfpklaaDoor.Tx
open Go.RowKit Go.Proofs.YtiddiboclfpklaaDoorW.PrintWords Go.Proofs.YtiddiboclfpklaaDoor.PTextsNums Go.Proofs.YtiddiboclfpklaaDoor.TxM
set_option linter.unusedVariables false

/-- The half of a byte of a digit. -/
def halfF (x : Int) : Option Int := if 48 ≤ x ∧ x ≤ 57 then some (x - 48) else if 97 ≤ x ∧ x ≤ 102 then some (x - 87) else none
theorem halfF_some {x v : Int} (h : halfF x = some v) : 0 ≤ v ∧ v < 16 ∧ figF v = x := by
  unfold halfF at h
  unfold figF
  split at h
  · have := Option.some.inj h
    refine ⟨by omega, by omega, ?_⟩
    rw [if_pos (by omega)]; omega
  · split at h
    · have := Option.some.inj h
      refine ⟨by omega, by omega, ?_⟩
      rw [if_neg (by omega)]; omega
    · cases h
theorem halfF_fig (v : Int) (h : 0 ≤ v ∧ v < 16) : halfF (figF v) = some v := by
  unfold halfF figF
  by_cases h1 : v < 10
  · rw [if_pos h1, if_pos (by omega)]; congr 1; omega
  · rw [if_neg h1, if_neg (by omega), if_pos (by omega)]; congr 1; omega
/-- The bytes of digits. -/
def unhexL : List Int → Option (List Int)
  | [] => some []
  | [_] => none
  | a :: b :: l => (halfF a).bind fun x => (halfF b).bind fun y => (unhexL l).map fun m => (16 * x + y) :: m
def outU (s : ByteArray) (r : Option (List Int)) : ByteArray × Int := match r with
  | some m => if s.size = 0 then (⟨#[]⟩, 4) else (strOfNums m, 0)
  | none => (⟨#[]⟩, 4)
/-- The bytes of a text, and 0; or none, and 4. -/
def unhexS (s : ByteArray) : ByteArray × Int := if s.toList = [45] then (⟨#[]⟩, 0) else outU s (unhexL (bytesOf s))
theorem unhex_hex : ∀ l : List Int, (∀ x ∈ l, 0 ≤ x ∧ x < 256) → unhexL (hexL l) = some l
  | [], _ => rfl
  | x :: l, h => by
    have hx := h x List.mem_cons_self
    rw [hexL, unhexL, halfF_fig _ (by omega), Option.bind_some, halfF_fig _ (by omega), Option.bind_some, unhex_hex l (fun y hy => h y (List.mem_cons_of_mem _ hy)), Option.map_some]
    congr 2
    omega
theorem hexL_byte : ∀ l : List Int, (∀ x ∈ l, 0 ≤ x ∧ x < 256) → ∀ y ∈ hexL l, 0 ≤ y ∧ y < 256
  | [], _, y, hy => by cases hy
  | x :: l, h, y, hy => by
    have hx := h x List.mem_cons_self
    rw [hexL, List.mem_cons, List.mem_cons] at hy
    have fig : ∀ v : Int, 0 ≤ v ∧ v < 16 → 0 ≤ figF v ∧ figF v < 256 := fun v hv => by
      unfold figF
      split <;> omega
    rcases hy with rfl | rfl | hy
    · exact fig _ (by omega)
    · exact fig _ (by omega)
    · exact hexL_byte l (fun y hy => h y (List.mem_cons_of_mem _ hy)) y hy
theorem toList_length (s : ByteArray) : s.toList.length = s.size := by rw [Lib.toList_data, data_length]
/-- There and back. -/
theorem unhex_of_hex (b : ByteArray) : unhexS (hexF b) = (b, 0) := by
  unfold hexF
  by_cases h0 : b.size = 0
  · rw [if_pos h0]
    obtain rfl : b = ⟨#[]⟩ := ByteArray.ext (Array.eq_empty_of_size_eq_zero h0)
    rw [unhexS, if_pos (by kernel_rfl)]
  · rw [if_neg h0]
    have hb := bytesOf_byte b
    have hz : (strOfNums (hexL (bytesOf b))).size = 2 * b.size := by rw [strOf_size, hexL_length, bytesOf_length]
    rw [unhexS, if_neg (fun e => by have := congrArg List.length e; rw [toList_length, hz] at this; simp at this; omega), bytesOf_strOf _ (hexL_byte _ hb), unhex_hex _ hb, outU, if_neg (by omega), strOf_bytesOf]

/-! ### the program's -/
theorem halfF_a {x : Int} (h : 48 ≤ x ∧ x ≤ 57) : halfF x = some (x - 48) := if_pos h
theorem halfF_b {x : Int} (h : 97 ≤ x ∧ x ≤ 102) : halfF x = some (x - 87) := by unfold halfF; rw [if_neg (by omega), if_pos h]
theorem halfF_n {x : Int} (h : ¬ (48 ≤ x ∧ x ≤ 57)) (h2 : ¬ (97 ≤ x ∧ x ≤ 102)) : halfF x = none := by unfold halfF; rw [if_neg h, if_neg h2]
theorem half_eval (k : Nat) (x : Int) (h : 0 ≤ x ∧ x < 256) : texts_half.f (k + 1) x = some (match halfF x with | some v => (v, true) | none => (0, false)) := by
  rw [texts_half.f]
  by_cases h1 : 48 ≤ x
  · rw [if_pos h1, texts_half.j0]
    by_cases h2 : x ≤ 57
    · rw [decide_eq_true h2, if_pos rfl, halfF_a ⟨h1, h2⟩]
      congr 2; omega
    · rw [decide_eq_false h2, if_neg Bool.false_ne_true]
      by_cases h3 : 97 ≤ x
      · rw [if_pos h3]
        by_cases h4 : x ≤ 102
        · rw [if_pos h4, halfF_b ⟨h3, h4⟩]
          congr 2; omega
        · rw [if_neg h4, halfF_n (by omega) (by omega)]
      · rw [if_neg h3, halfF_n (by omega) (by omega)]
  · rw [if_neg h1, texts_half.j0, if_neg Bool.false_ne_true, if_neg (by omega), halfF_n (by omega) (by omega)]
theorem or_half (a b : Int) (ha : 0 ≤ a ∧ a < 16) (hb : 0 ≤ b ∧ b < 16) : Go.bits .or .u8 ((a * 16) % 256) b = 16 * a + b := by
  rw [u8_or _ b (by omega) (by omega) (by omega) (by omega)]
  have e : ((a * 16) % 256).toNat = a.toNat <<< 4 := by rw [Nat.shiftLeft_eq]; omega
  rw [e, ← Nat.shiftLeft_add_eq_or_of_lt (by omega), Nat.shiftLeft_eq]
  omega
theorem drop_two {l : List Int} {i : Nat} {a b : Int} {r : List Int} (h : l.drop i = a :: b :: r) : rd l (i : Int) = a ∧ rd l ((i : Int) + 1) = b ∧ l.drop (i + 2) = r := by
  have h0 : l[i]? = some a := by
    have := congrArg (fun l => l[0]?) h
    simpa using this
  have h1 : l[i + 1]? = some b := by
    have := congrArg (fun l => l[1]?) h
    simpa using this
  refine ⟨by simp [rd, List.getD_eq_getElem?_getD, h0], ?_, ?_⟩
  · unfold rd
    rw [show ((i : Int) + 1).toNat = i + 1 by omega]
    simp [List.getD_eq_getElem?_getD, h1]
  · rw [← List.drop_drop, h]; rfl
theorem unhex_loop (s : ByteArray) : ∀ (n : Nat) (l acc : List Int) (i k : Nat), l.length ≤ n → (bytesOf s).drop i = l → i + l.length = s.size → i % 2 = 0 → l.length + 3 ≤ k → s.size ≤ 16777216 → acc.length ≤ i →
    texts_Unhex.l0 k s acc i = some (outU s ((unhexL l).map fun m => acc ++ m))
  | n, [], acc, i, k, hn, hl, hi, he, hk, hs, ha => by
    obtain ⟨k, rfl⟩ : ∃ k', k = k' + 1 := ⟨k - 1, by simp at hk; omega⟩
    simp only [List.length_nil, Nat.add_zero] at hi
    rw [texts_Unhex.l0, IntWalk.wrap64_in _ (by omega), if_neg (by omega), unhexL, Option.map_some, List.append_nil, outU]
    by_cases h0 : s.size = 0
    · rw [if_pos (List.eq_nil_of_length_eq_zero (by rw [toList_length]; exact h0)), if_pos h0]
    · rw [if_neg (fun e => h0 (by rw [← toList_length, e]; rfl)), if_neg h0, if_pos (by omega)]
  | n, [a], acc, i, k, hn, hl, hi, he, hk, hs, ha => by
    obtain ⟨k, rfl⟩ : ∃ k', k = k' + 1 := ⟨k - 1, by simp at hk; omega⟩
    simp only [List.length_cons, List.length_nil] at hi
    have hodd : ¬ (s.size : Int) % 2 = 0 := by omega
    have hnn : ¬ s.toList = [] := fun e => by
      have h : s.size = 0 := by rw [← toList_length, e]; rfl
      omega
    rw [texts_Unhex.l0, IntWalk.wrap64_in _ (by omega), if_neg (by omega), unhexL, Option.map_none, outU, if_neg hnn, if_neg hodd]
  | 0, a :: b :: l, acc, i, k, hn, hl, hi, he, hk, hs, ha => absurd hn (by simp)
  | n + 1, a :: b :: l, acc, i, k, hn, hl, hi, he, hk, hs, ha => by
    simp only [List.length_cons] at hi hk hn
    obtain ⟨k, rfl⟩ : ∃ k', k = k' + 2 := ⟨k - 2, by omega⟩
    obtain ⟨r0, r1, r2⟩ := drop_two hl
    rw [rd_bytesOf] at r0 r1
    have hab : ∀ x ∈ a :: b :: l, 0 ≤ x ∧ x < 256 := fun x hx => bytesOf_byte s x (List.mem_of_mem_drop (by rw [hl]; exact hx))
    have hA := hab a List.mem_cons_self
    have hB := hab b (List.mem_cons_of_mem _ List.mem_cons_self)
    rw [texts_Unhex.l0, IntWalk.wrap64_in ((i : Int) + 1) (by omega), if_pos (by omega), if_pos (by omega), if_pos (by omega), r0, r1, half_eval _ a hA, half_eval _ b hB, Option.bind_some, if_pos (by omega), Option.bind_some, unhexL]
    cases hha : halfF a with
    | none => rw [if_neg Bool.false_ne_true, Option.bind_none, Option.map_none, outU]
    | some x =>
      rw [if_pos rfl, Option.bind_some]
      cases hhb : halfF b with
      | none => rw [if_neg Bool.false_ne_true, Option.bind_none, Option.map_none, outU]
      | some y =>
        obtain ⟨x0, x1, _⟩ := halfF_some hha
        obtain ⟨y0, y1, _⟩ := halfF_some hhb
        rw [if_pos rfl, if_pos (by omega), or_half x y ⟨x0, x1⟩ ⟨y0, y1⟩, IntWalk.wrap64_in ((i : Int) + 2) (by omega), Option.bind_some]
        have := unhex_loop s n l (acc ++ [16 * x + y]) (i + 2) (k + 1) (by omega) r2 (by omega) (by omega) (by omega) hs (by simp; omega)
        rw [Int.natCast_add] at this
        rw [show ((2 : Nat) : Int) = 2 from rfl] at this
        rw [this, Option.map_map]
        congr 3
        funext m
        simp
theorem unhex_eval (s : ByteArray) (hs : s.size ≤ 16777216) : texts_Unhex.f (s.size + 3) s = some (unhexS s) := by
  rw [texts_Unhex.f, unhexS]
  by_cases h : s.toList = [45]
  · rw [if_pos h, if_pos h]
  · have := unhex_loop s s.size (bytesOf s) [] 0 (s.size + 3) (by rw [bytesOf_length]; exact Nat.le_refl _) rfl (by rw [bytesOf_length]; omega) rfl (by rw [bytesOf_length]; exact Nat.le_refl _) hs (Nat.le_refl _)
    rw [if_neg h, if_neg h, show (0 : Int) = ((0 : Nat) : Int) from rfl, this]
    congr 2
    simp
theorem unhex_calls (s : ByteArray) (hs : s.size ≤ 16777216) (w : World) : Calls Tryd.prog 15 #[.string s] w fun e w' => e = .returned (.tuple #[.string (unhexS s).1, .int .i64 (unhexS s).2]) ∧ Below w.heap.size w w' :=
  texts_Unhex.calls (s.size + 3) s _ _ w (unhex_eval s hs)

/-! ### the document's -/
def figs : ByteArray := ⟨#[48, 49, 50, 51, 52, 53, 54, 55, 56, 57, 97, 98, 99, 100, 101, 102]⟩
theorem bt_figs : ∀ i : Nat, i < 16 → bt figs (i : Int) = figF (i : Int) := by
  intro i hi
  have h : ∀ i : Fin 16, bt figs (i.val : Int) = figF (i.val : Int) := by decide +kernel
  exact h ⟨i, hi⟩
theorem cut_figs : ∀ i : Nat, i < 16 → figs.extract i (i + 1) = strOfNums [figF (i : Int)] := by
  intro i hi
  have h : ∀ i : Fin 16, (figs.extract i.val (i.val + 1)).data.toList = (strOfNums [figF (i.val : Int)]).data.toList := by decide +kernel
  apply ByteArray.ext
  exact Array.ext' (h ⟨i, hi⟩)
theorem place_loop (x : Int) : ∀ (n i k : Nat), i + n = 16 → n < k → (∀ j : Nat, j < i → figF (j : Int) ≠ x) → instarref04_place.l0 k x i = some (match halfF x with | some v => v | none => -1)
  | 0, i, k, hi, hk, hne => by
    obtain ⟨k, rfl⟩ : ∃ k', k = k' + 1 := ⟨k - 1, by omega⟩
    rw [instarref04_place.l0, if_neg (by omega)]
    cases h : halfF x with
    | none => rfl
    | some v =>
      obtain ⟨h0, h1, h2⟩ := halfF_some h
      exact absurd (by rw [show ((v.toNat : Nat) : Int) = v by omega]; exact h2) (hne v.toNat (by omega))
  | n + 1, i, k, hi, hk, hne => by
    obtain ⟨k, rfl⟩ : ∃ k', k = k' + 1 := ⟨k - 1, by omega⟩
    rw [instarref04_place.l0, if_pos (by omega), if_pos (by omega)]
    have hb := bt_figs i (by omega)
    unfold figs at hb
    rw [hb]
    by_cases h : figF (i : Int) = x
    · rw [if_pos h, ← h, halfF_fig _ (by omega)]
    · rw [if_neg h, IntWalk.wrap64_in _ (by omega)]
      have := place_loop x n (i + 1) k (by omega) (by omega) (fun j hj => by
        by_cases hji : j = i
        · rw [hji]; exact h
        · exact hne j (by omega))
      rw [Int.natCast_add] at this
      exact this
theorem place_eval (x : Int) (k : Nat) (hk : 16 < k) : instarref04_place.f k x = some (match halfF x with | some v => v | none => -1) :=
  place_loop x 16 0 k rfl hk (fun j hj => absurd hj (Nat.not_lt_zero _))
theorem r04_unhex_loop (s : ByteArray) : ∀ (n : Nat) (l acc : List Int) (i k : Nat), l.length ≤ n → (bytesOf s).drop i = l → i + l.length = s.size → l.length % 2 = 0 → l.length + 20 ≤ k → s.size ≤ 16777216 → acc.length ≤ i →
    instarref04_Unhex.l0 k s acc i = some (match (unhexL l).map (fun m => acc ++ m) with | some m => (strOfNums m, 0) | none => (⟨#[]⟩, 4))
  | n, [], acc, i, k, hn, hl, hi, he, hk, hs, ha => by
    obtain ⟨k, rfl⟩ : ∃ k', k = k' + 1 := ⟨k - 1, by simp at hk; omega⟩
    simp only [List.length_nil, Nat.add_zero] at hi
    rw [instarref04_Unhex.l0, if_neg (by omega), unhexL, Option.map_some, List.append_nil]
  | n, [a], acc, i, k, hn, hl, hi, he, hk, hs, ha => by
    simp at he
  | 0, a :: b :: l, acc, i, k, hn, hl, hi, he, hk, hs, ha => absurd hn (by simp)
  | n + 1, a :: b :: l, acc, i, k, hn, hl, hi, he, hk, hs, ha => by
    simp only [List.length_cons] at hi hk hn he
    obtain ⟨k, rfl⟩ : ∃ k', k = k' + 2 := ⟨k - 2, by omega⟩
    obtain ⟨r0, r1, r2⟩ := drop_two hl
    rw [rd_bytesOf] at r0 r1
    rw [instarref04_Unhex.l0, if_pos (by omega), if_pos (by omega), r0, place_eval a _ (by omega), Option.bind_some, IntWalk.wrap64_in ((i : Int) + 1) (by omega), if_pos (by omega), if_pos (by omega), r1, place_eval b _ (by omega), Option.bind_some, unhexL]
    cases hha : halfF a with
    | none => rw [if_pos (by decide), Option.bind_none, Option.map_none]
    | some x =>
      obtain ⟨x0, x1, _⟩ := halfF_some hha
      rw [if_neg (show ¬ (x < 0) by omega), Option.bind_some]
      cases hhb : halfF b with
      | none => rw [if_pos (by decide), Option.bind_none, Option.map_none]
      | some y =>
        obtain ⟨y0, y1, _⟩ := halfF_some hhb
        rw [if_neg (show ¬ (y < 0) by omega), if_pos (by omega), IntWalk.wrap64_in (16 * x) (by omega), IntWalk.wrap64_in (16 * x + y) (by omega), show (16 * x + y) % 256 = 16 * x + y by omega, IntWalk.wrap64_in ((i : Int) + 2) (by omega), Option.bind_some]
        have := r04_unhex_loop s n l (acc ++ [16 * x + y]) (i + 2) (k + 1) (by omega) r2 (by omega) (by omega) (by omega) hs (by simp; omega)
        rw [Int.natCast_add] at this
        rw [show ((2 : Nat) : Int) = 2 from rfl] at this
        rw [this, Option.map_map]
        congr 3
        funext m
        simp
theorem unhexL_odd : ∀ (n : Nat) (l : List Int), l.length ≤ n → l.length % 2 = 1 → unhexL l = none
  | n, [], _, h => by simp at h
  | n, [a], _, h => rfl
  | 0, a :: b :: l, h, _ => absurd h (by simp)
  | n + 1, a :: b :: l, hn, h => by
    simp only [List.length_cons] at hn h
    rw [unhexL, unhexL_odd n l (by omega) (by omega)]
    cases halfF a with
    | none => rfl
    | some x => cases halfF b <;> rfl
theorem r04_unhex_eval (s : ByteArray) (hs : s.size ≤ 16777216) : instarref04_Unhex.f (s.size + 30) s = some (unhexS s) := by
  rw [instarref04_Unhex.f, unhexS]
  by_cases h : s.toList = [45]
  · rw [if_pos h, if_pos h]
  · rw [if_neg h, if_neg h]
    by_cases h0 : s.size = 0
    · rw [if_pos (List.eq_nil_of_length_eq_zero (by rw [toList_length]; exact h0)), instarref04_Unhex.j0, if_pos rfl]
      cases unhexL (bytesOf s) with
      | none => rfl
      | some m => exact congrArg some (if_pos h0).symm
    · rw [if_neg (fun e => h0 (by rw [← toList_length, e]; rfl)), instarref04_Unhex.j0]
      by_cases h1 : s.size % 2 = 1
      · rw [show ((s.size : Int) % 2 == 1) = true from beq_iff_eq.2 (by omega), if_pos rfl, unhexL_odd _ _ (Nat.le_refl _) (by rw [bytesOf_length]; exact h1), outU]
      · rw [show ((s.size : Int) % 2 == 1) = false from beq_eq_false_iff_ne.2 (by omega), if_neg Bool.false_ne_true, show (0 : Int) = ((0 : Nat) : Int) from rfl,
          r04_unhex_loop s s.size (bytesOf s) [] 0 _ (by rw [bytesOf_length]; exact Nat.le_refl _) rfl (by rw [bytesOf_length]; omega) (by rw [bytesOf_length]; omega) (by rw [bytesOf_length]; omega) hs (Nat.le_refl _)]
        cases unhexL (bytesOf s) with
        | none => rfl
        | some m => rw [outU, if_neg h0]; rfl
theorem r04_unhex_calls (s : ByteArray) (hs : s.size ≤ 16777216) (w : World) : Calls Tryd.prog 16 #[.string s] w fun e w' => e = .returned (.tuple #[.string (unhexS s).1, .int .i64 (unhexS s).2]) ∧ Below w.heap.size w w' :=
  instarref04_Unhex.calls (s.size + 30) s _ _ w (r04_unhex_eval s hs)
theorem hex_loop (s : ByteArray) : ∀ (l : List Int) (acc : ByteArray) (i k : Nat), (bytesOf s).drop i = l → i + l.length = s.size → l.length < k → s.size ≤ 16777216 → acc.size = 2 * i →
    instarref04_Hex.l0 k s acc i = some (acc ++ strOfNums (hexL l))
  | [], acc, i, k, hl, hi, hk, hs, ha => by
    obtain ⟨k, rfl⟩ : ∃ k', k = k' + 1 := ⟨k - 1, by simp at hk; omega⟩
    simp only [List.length_nil, Nat.add_zero] at hi
    rw [instarref04_Hex.l0, if_neg (by omega)]
    congr 1
    apply ByteArray.ext
    rw [ByteArray.data_append]
    simp [strOfNums, hexL]
  | a :: l, acc, i, k, hl, hi, hk, hs, ha => by
    simp only [List.length_cons] at hi hk
    obtain ⟨k, rfl⟩ : ∃ k', k = k' + 1 := ⟨k - 1, by omega⟩
    have ha0 : bt s (i : Int) = a := by
      rw [← rd_bytesOf]
      have h0 : (bytesOf s)[i]? = some a := by
        have := congrArg (fun l => l[0]?) hl
        simpa using this
      simp [rd, List.getD_eq_getElem?_getD, h0]
    have hd : (bytesOf s).drop (i + 1) = l := by rw [← List.drop_drop, hl]; rfl
    obtain ⟨a0, a1⟩ := bytesOf_byte s a (List.mem_of_mem_drop (by rw [hl]; exact List.mem_cons_self))
    have hq : wrap64 (Int.tdiv a 16) = a / 16 := by rw [Int.tdiv_eq_ediv_of_nonneg a0, IntWalk.wrap64_in _ (by omega)]
    have hm : Int.tmod a 16 = a % 16 := Int.tmod_eq_emod_of_nonneg a0
    have c1 := cut_figs (a / 16).toNat (by omega)
    have c2 := cut_figs (a % 16).toNat (by omega)
    rw [show (((a / 16).toNat : Nat) : Int) = a / 16 by omega] at c1
    rw [show (((a % 16).toNat : Nat) : Int) = a % 16 by omega] at c2
    have q1 : (a / 16 + 1).toNat = (a / 16).toNat + 1 := by omega
    have q2 : (a % 16 + 1).toNat = (a % 16).toNat + 1 := by omega
    unfold figs at c1 c2
    rw [instarref04_Hex.l0, if_pos (by omega), if_pos (by omega), ha0, IntWalk.wrap64_in a (by omega), hq, hm, IntWalk.wrap64_in (a / 16 + 1) (by omega), IntWalk.wrap64_in (a % 16 + 1) (by omega), q1, q2, c1, c2,
      if_pos (by omega), if_pos (by omega), if_pos (by omega), strOf_size, if_pos (by rw [List.length_singleton]; omega), if_pos (by omega), if_pos (by omega), if_pos (by omega), ByteArray.size_append, strOf_size, strOf_size, if_pos (by rw [List.length_singleton]; simp only [List.length_singleton]; omega), IntWalk.wrap64_in _ (by omega)]
    have := hex_loop s l ((acc ++ strOfNums [figF (a / 16)]) ++ strOfNums [figF (a % 16)]) (i + 1) k hd (by omega) (by omega) hs (by rw [ByteArray.size_append, ByteArray.size_append, strOf_size, strOf_size]; simp only [List.length_singleton]; omega)
    rw [Int.natCast_add] at this
    rw [show ((i : Int) + 1) = (i : Int) + ((1 : Nat) : Int) from rfl, this, ByteArray.append_assoc, ByteArray.append_assoc, strOf_append, strOf_append]
    rfl
theorem r04_hex_eval (s : ByteArray) (hs : s.size ≤ 16777216) : instarref04_Hex.f (s.size + 1) s = some (hexF s) := by
  rw [instarref04_Hex.f, hexF]
  by_cases h0 : s.size = 0
  · rw [if_pos (by omega), if_pos h0]
  · have h := hex_loop s (bytesOf s) ⟨#[]⟩ 0 (s.size + 1) rfl (by rw [bytesOf_length]; omega) (by rw [bytesOf_length]; omega) hs rfl
    rw [if_neg (by omega), if_neg h0, show (0 : Int) = ((0 : Nat) : Int) from rfl, h, show (⟨#[]⟩ : ByteArray) = strOfNums [] from rfl, strOf_append, List.nil_append]
theorem r04_hex_calls (s : ByteArray) (hs : s.size ≤ 16777216) (w : World) : Calls Tryd.prog 18 #[.string s] w fun e w' => e = .returned (.string (hexF s)) ∧ Drawn0 w w' :=
  instarref04_Hex.calls (s.size + 1) s _ w (r04_hex_eval s hs)
end Go.Proofs.YtiddiboclfpklaaDoor.Tx
