/- Lemmas that the claim's theorem uses. -/
import Derived.Test.YtiddiboclfpklaaDoorRdP
import Derived.Test.YtiddiboclfpklaaDoorRdT
import Derived.Test.YtiddiboclfpklaaDoorRdF
import Derived.Test.YtiddiboclfpklaaDoorRdJ
namespace Go.Proofs.YtiddiboclfpklaaDoor.Tx
open Go.RowKit Go.Proofs.YtiddiboclfpklaaDoorW.PrintWords Go.Proofs.YtiddiboclfpklaaDoor.PTextsLines Go.Proofs.YtiddiboclfpklaaDoor.TxS
set_option linter.unusedVariables false
theorem drop_one {l : List Int} {i : Nat} {a : Int} {r : List Int} (h : l.drop i = a :: r) : rd l (i : Int) = a ∧ l.drop (i + 1) = r := by
 have h0 : l[i]? = some a := by
  have := congrArg (fun l => l[0]?) h
  simpa using this
 exact ⟨by simp [rd, List.getD_eq_getElem?_getD, h0], by rw [← List.drop_drop, h]; rfl⟩
theorem word_loop (s : ByteArray) : ∀ (l : List Int) (i k : Nat), (bytesOf s).drop i = l → i + l.length = s.size → s.size ≤ 16777216 → l.length < k → instarref04_Word.l0 k s i = some (l.all okB && decide (0 < s.size))
 | [], i, k, hl, hi, hs, hk => by
  obtain ⟨k, rfl⟩ : ∃ k', k = k' + 1 := ⟨k - 1, by simp at hk; omega⟩
  simp only [List.length_nil, Nat.add_zero] at hi
  rw [instarref04_Word.l0, if_neg (by omega), List.all_nil, Bool.true_and]
  congr 1
  by_cases h : 0 < s.size
  ·rw [decide_eq_true h, decide_eq_true (by omega)]
  ·rw [decide_eq_false h, decide_eq_false (by omega)]
 | a :: l, i, k, hl, hi, hs, hk => by
  simp only [List.length_cons] at hi hk
  obtain ⟨k, rfl⟩ : ∃ k', k = k' + 1 := ⟨k - 1, by omega⟩
  obtain ⟨r0, r1⟩ := drop_one hl
  rw [rd_bytesOf] at r0
  rw [instarref04_Word.l0, if_pos (by omega), if_pos (by omega), r0, List.all_cons]
  by_cases h1 : a < 33
  ·rw [if_pos h1, show okB a = false by simp [okB]; omega, Bool.false_and, Bool.false_and]
  ·rw [if_neg h1]
   by_cases h2 : a > 126
   ·rw [if_pos h2, show okB a = false by simp [okB]; omega, Bool.false_and, Bool.false_and]
   ·rw [if_neg h2, show okB a = true by simp [okB]; omega, Bool.true_and, IntWalk.wrap64_in _ (by omega)]
    have := word_loop s l (i + 1) k r1 (by omega) hs (by omega)
    rw [Int.natCast_add] at this
    exact this
theorem word_eval (s : ByteArray) (k : Nat) (hs : s.size ≤ 16777216) (hk : s.size < k) : instarref04_Word.f k s = some (plainF s) :=
 word_loop s (bytesOf s) 0 k rfl (by rw [bytesOf_length]; omega) hs (by rw [bytesOf_length]; exact hk)
theorem byte_at {s : ByteArray} {at_ : Nat} {a l : List UInt8} {b : UInt8} (h : s.data.toList.drop at_ = a ++ b :: l) : bt s ((at_ + a.length : Nat) : Int) = (b.toNat : Int) := by
 have h0 : s.data.toList[at_ + a.length]? = some b := by
  have := congrArg (fun l => l[a.length]?) h
  simpa using this
 rw [← rd_bytesOf, bytesOf]
 simp only [rd, Int.toNat_natCast]
 rw [List.getD_eq_getElem?_getD, List.getElem?_map, h0]
 rfl
theorem next_at {s : ByteArray} {at_ : Nat} {a l : List UInt8} {b : UInt8} (h : s.data.toList.drop at_ = a ++ b :: l) : s.data.toList.drop (at_ + a.length + 1) = l := by
 rw [Nat.add_assoc, ← List.drop_drop, h, List.drop_append, List.drop_of_length_le (by omega), List.nil_append, Nat.add_sub_cancel_left]
 rfl
theorem cut_at {s : ByteArray} {at_ : Nat} {a l : List UInt8} (h : s.data.toList.drop at_ = a ++ l) : s.extract at_ (at_ + a.length) = ofL a := by
 refine extract_ofL s _ _ _ ?_
 rw [h, Nat.add_sub_cancel_left, List.take_append_of_le_length (Nat.le_refl _), List.take_length]
theorem byte_eq (b c : UInt8) : ((b.toNat : Int) == (c.toNat : Int)) = decide (b = c) := by
 by_cases h : b = c
 ·rw [decide_eq_true h, h]; exact beq_self_eq_true _
 ·rw [decide_eq_false h]
  refine beq_eq_false_iff_ne.2 fun e => h ?_
  exact UInt8.toNat_inj.1 (by omega)
theorem words_loop (s : ByteArray) (hs : s.size ≤ 16777216) : ∀ (l a : List UInt8) (acc : List ByteArray) (at_ k : Nat), s.data.toList.drop at_ = a ++ l → at_ + a.length + l.length = s.size → (∀ x ∈ a, x ≠ 32) → acc.length ≤ at_ → 2 * l.length + s.size + 10 ≤ k →
  instarref04_words.l0 k s acc at_ ((at_ + a.length : Nat) : Int) = some (if ((wordsL (a ++ l)).map ofL).all plainF then (acc ++ (wordsL (a ++ l)).map ofL, true) else ([], false))
 | [], a, acc, at_, k, hd, hi, hn, ha, hk => by
  simp only [List.length_nil, Nat.add_zero] at hi
  obtain ⟨k, rfl⟩ : ∃ k', k = k' + 3 := ⟨k - 3, by omega⟩
  have hc := cut_at hd
  have hz : (ofL a).size ≤ s.size := by rw [ofL_size]; omega
  rw [instarref04_words.l0, if_pos (by omega), if_pos (by omega), instarref04_words.j1, if_pos rfl, if_pos (by omega), if_pos (by omega), if_pos (by omega), Int.toNat_natCast, Int.toNat_natCast, hc, word_eval _ _ (by omega) (by simp at hk; omega), Option.bind_some, List.append_nil, wordsL_none a hn, List.map_cons, List.map_nil, List.all_cons, List.all_nil, Bool.and_true]
  by_cases hp : plainF (ofL a) = true
  ·rw [if_pos hp, if_pos hp, if_pos (by omega), IntWalk.wrap64_in _ (by omega), instarref04_words.l0, if_neg (by omega)]
  ·rw [if_neg hp, if_neg hp]
 | b :: l, a, acc, at_, k, hd, hi, hn, ha, hk => by
  simp only [List.length_cons] at hi hk
  obtain ⟨k, rfl⟩ : ∃ k', k = k' + 2 := ⟨k - 2, by omega⟩
  have hb := byte_at hd
  rw [instarref04_words.l0, if_pos (by omega), if_neg (by omega), if_pos (by omega), if_pos (by omega), hb, show (32 : Int) = ((32 : UInt8).toNat : Int) from rfl, byte_eq, instarref04_words.j1]
  by_cases h32 : b = 32
  ·have hc := cut_at hd
   have hz : (ofL a).size ≤ s.size := by rw [ofL_size]; omega
   subst h32
   rw [decide_eq_true rfl, if_pos rfl, if_pos (by omega), if_pos (by omega), if_pos (by omega), Int.toNat_natCast, Int.toNat_natCast, hc, word_eval _ _ (by omega) (by omega), Option.bind_some, wordsL_app a l hn, List.map_cons, List.all_cons]
   by_cases hp : plainF (ofL a) = true
   ·have h := words_loop s hs l [] (acc ++ [ofL a]) (at_ + a.length + 1) k (next_at hd) (by simp; omega) (by simp) (by simp; omega) (by omega)
    rw [hp, if_pos rfl, if_pos (by omega), IntWalk.wrap64_in _ (by omega), Bool.true_and]
    rw [List.nil_append, List.append_assoc, List.singleton_append] at h
    exact h
   ·rw [if_neg hp, show plainF (ofL a) = false from by simpa using hp, Bool.false_and, if_neg Bool.false_ne_true]
  ·rw [decide_eq_false h32, if_neg Bool.false_ne_true, IntWalk.wrap64_in _ (by omega)]
   have h := words_loop s hs l (a ++ [b]) acc at_ k (by rw [hd, List.append_assoc, List.singleton_append]) (by simp; omega) (by
    intro x hx
    rw [List.mem_append, List.mem_singleton] at hx
    rcases hx with hx | rfl
    ·exact hn x hx
    ·exact h32) ha (by omega)
   rw [List.append_assoc, List.singleton_append, List.length_append, List.length_singleton] at h
   exact h
theorem words_eval (s : ByteArray) (k : Nat) (hs : s.size ≤ 16777216) (hk : 3 * s.size + 10 ≤ k) : instarref04_words.f k s = some (if (wordsF s).all plainF then (wordsF s, true) else ([], false)) := by
 have h := words_loop s hs s.data.toList [] [] 0 k rfl (by rw [data_length]; simp) (by simp) (Nat.le_refl _) (by rw [data_length]; omega)
 rw [List.nil_append, List.nil_append, ← wordsF_L] at h
 exact h
theorem lines_loop (s : ByteArray) (hs : s.size ≤ 16777216) : ∀ (l a : List UInt8) (acc : List (List ByteArray)) (at_ k : Nat), s.data.toList.drop at_ = a ++ l → at_ + a.length + l.length = s.size → (∀ x ∈ a, x ≠ 10) → acc.length ≤ at_ → l.length + 3 * s.size + 20 ≤ k →
  instarref04_Lines.l0 k s acc at_ ((at_ + a.length : Nat) : Int) = some (linesG ((rowsL (a ++ l)).map rowO) acc)
 | [], a, acc, at_, k, hd, hi, hn, ha, hk => by
  simp only [List.length_nil, Nat.add_zero] at hi
  obtain ⟨k, rfl⟩ : ∃ k', k = k' + 1 := ⟨k - 1, by omega⟩
  rw [instarref04_Lines.l0, if_neg (by omega), List.append_nil]
  by_cases h0 : a = []
  ·subst h0
   simp only [List.length_nil, Nat.add_zero] at hi
   rw [if_neg (by omega)]
   rfl
  ·have hl : 0 < a.length := List.length_pos_iff.2 h0
   rw [if_pos (by omega), rowsL_none a hn h0, IntWalk.wrap64_in _ (by omega)]
   rfl
 | b :: l, a, acc, at_, k, hd, hi, hn, ha, hk => by
  simp only [List.length_cons] at hi hk
  obtain ⟨k, rfl⟩ : ∃ k', k = k' + 1 := ⟨k - 1, by omega⟩
  have hb := byte_at hd
  rw [instarref04_Lines.l0, if_pos (by omega), if_pos (by omega), hb]
  by_cases h10 : b = 10
  ·subst h10
   have hc := cut_at hd
   have hz : (ofL a).size ≤ s.size := by rw [ofL_size]; omega
   rw [if_pos (show (((10 : UInt8).toNat : Nat) : Int) = 10 from rfl), if_pos (by omega), if_pos (by omega), if_pos (by omega), Int.toNat_natCast, Int.toNat_natCast, hc, words_eval _ _ (by omega) (by omega), Option.bind_some, rowsL_app a l hn, List.map_cons, linesG]
   have hr : okRow (rowO (a, true)) = (wordsF (ofL a)).all plainF := by rw [okRow]; exact Bool.true_and _
   rw [hr]
   by_cases hp : (wordsF (ofL a)).all plainF = true
   ·have h := lines_loop s hs l [] (acc ++ [wordsF (ofL a)]) (at_ + a.length + 1) k (next_at hd) (by simp; omega) (by simp) (by simp; omega) (by omega)
    rw [if_pos hp, if_pos rfl, if_pos (by omega), IntWalk.wrap64_in _ (by omega), if_pos hp]
    rw [List.nil_append] at h
    exact h
   ·rw [if_neg hp, if_neg Bool.false_ne_true, IntWalk.wrap64_in _ (by omega), if_neg hp]
  ·rw [if_neg (fun e => h10 (UInt8.toNat_inj.1 (by have : ((10 : UInt8).toNat : Int) = 10 := rfl; omega))), IntWalk.wrap64_in _ (by omega)]
   have h := lines_loop s hs l (a ++ [b]) acc at_ k (by rw [hd, List.append_assoc, List.singleton_append]) (by simp; omega) (by
    intro x hx
    rw [List.mem_append, List.mem_singleton] at hx
    rcases hx with hx | rfl
    ·exact hn x hx
    ·exact h10) ha (by omega)
   rw [List.append_assoc, List.singleton_append, List.length_append, List.length_singleton] at h
   exact h
theorem r04_lines_eval (s : ByteArray) (hs : s.size ≤ 16777216) : instarref04_Lines.f (4 * s.size + 20) s = some (linesF s) := by
 have h := lines_loop s hs s.data.toList [] [] 0 (4 * s.size + 20) rfl (by rw [data_length]; simp) (by simp) (Nat.le_refl _) (by rw [data_length]; omega)
 rw [List.nil_append, ← rowsF_L s.size s (Nat.le_refl _)] at h
 exact h
theorem r04_lines_calls (s : ByteArray) (hs : s.size ≤ 16777216) (w : World) :
  Calls Tryd.prog 20 #[.string s] w fun e w' => ∃ v0_ : Value, e = .returned (.tuple #[v0_, .int .i64 (linesF s).2.1, .int .i64 (linesF s).2.2]) ∧ Kd.S (Kd.slice 9 Kd.string) 84 w' w.heap.size (fun _ => True) v0_ (linesF s).1 ∧ Below w.heap.size w w' :=
 instarref04_Lines.calls _ s _ _ _ w (r04_lines_eval s hs)
end Go.Proofs.YtiddiboclfpklaaDoor.Tx
namespace Go.Proofs.YtiddiboclfpklaaDoor.Tx
open Go.RowKit Go.Proofs.YtiddiboclfpklaaDoorW.PrintWords
set_option linter.unusedVariables false
theorem rowsF_length : ∀ (n : Nat) (s : ByteArray), (rowsF n s).length ≤ n
 | 0, s => Nat.le_refl _
 | n + 1, s => by
  rw [rowsF]
  split
  ·exact Nat.zero_le _
  ·split
   ·simp
   ·rw [List.length_cons]
    exact Nat.succ_le_succ (rowsF_length n _)
end Go.Proofs.YtiddiboclfpklaaDoor.Tx
namespace Go.Proofs.YtiddiboclfpklaaDoor.Tx
open Go.RowKit Go.Proofs.YtiddiboclfpklaaDoorW.PrintWords
set_option linter.unusedVariables false
def lineL : List (List UInt8) → List UInt8
 | [] => []
 | x :: l => x ++ l.flatMap fun y => 32 :: y
theorem lineB_ofL (ws : List (List UInt8)) : lineB (ws.map ofL) = lineL ws := by
 cases ws with
 | nil => rfl
 | cons x l =>
  rw [List.map_cons, lineB, lineL, ofL_toList]
  congr 1
  induction l with
  | nil => rfl
  | cons y l ih => rw [List.map_cons, List.flatMap_cons, List.flatMap_cons, ofL_toList, ih]
theorem lineL_words : ∀ l : List UInt8, lineL (wordsL l) = l
 | [] => rfl
 | b :: l => by
  have ih := lineL_words l
  rw [wordsL]
  by_cases h : b = 32
  ·rw [if_pos h]
   cases hw : wordsL l with
   | nil => exact absurd hw (wordsL_ne l)
   | cons w r =>
    rw [hw, lineL] at ih
    rw [lineL, List.nil_append, List.flatMap_cons, h, List.cons_append, ih]
  ·rw [if_neg h]
   cases hw : wordsL l with
   | nil => exact absurd hw (wordsL_ne l)
   | cons w r =>
    rw [hw, lineL] at ih
    show lineL ((b :: w) :: r) = _
    rw [lineL, List.cons_append, ih]
theorem text_rows : ∀ l : List UInt8, (rowsL l).all (fun x => x.2) = true → (rowsL l).flatMap (fun x => x.1 ++ [10]) = l
 | [], _ => rfl
 | b :: l, h => by
  rw [rowsL] at h ⊢
  by_cases hb : b = 10
  ·rw [if_pos hb] at h ⊢
   rw [List.all_cons, Bool.true_and] at h
   rw [List.flatMap_cons, text_rows l h, hb]
   rfl
  ·rw [if_neg hb] at h ⊢
   cases hr : rowsL l with
   | nil =>
    rw [hr] at h
    exact absurd h (by simp)
   | cons x r =>
    rw [hr] at h
    have h2 : (rowsL l).all (fun x => x.2) = true := by
     rw [hr, List.all_cons]
     exact h
    have ih := text_rows l h2
    rw [hr, List.flatMap_cons] at ih
    show ((b :: x.1, x.2) :: r).flatMap _ = _
    rw [List.flatMap_cons]
    show b :: (x.1 ++ [10]) ++ _ = _
    rw [List.cons_append, ih]
theorem back_one (s : ByteArray) (h : (rowsF s.size s).all okRow = true) : joinF ((rowsF s.size s).map fun x => wordsF x.1) = (s, 0) ∧ (textB ((rowsF s.size s).map fun x => wordsF x.1)).length = s.size := by
 rw [rowsF_L s.size s (Nat.le_refl _)] at h ⊢
 rw [List.map_map]
 have h1 : (rowsL s.data.toList).all (fun x => x.2) = true := by
  rw [List.all_eq_true] at h ⊢
  intro x hx
  have := h (rowO x) (List.mem_map_of_mem hx)
  unfold okRow at this
  exact (Bool.and_eq_true_iff.1 this).1
 have h2 : ((rowsL s.data.toList).map ((fun x : ByteArray × Bool => wordsF x.1) ∘ rowO)).all okL = true := by
  rw [List.all_eq_true] at h ⊢
  intro l hl
  obtain ⟨x, hx, rfl⟩ := List.mem_map.1 hl
  have := h (rowO x) (List.mem_map_of_mem hx)
  unfold okRow at this
  have h3 := (Bool.and_eq_true_iff.1 this).2
  show okL (wordsF (rowO x).1) = true
  unfold okL
  rw [h3, Bool.and_true]
  cases hq : wordsF (rowO x).1 with
  | nil =>
   have h4 := wordsF_length (rowO x).1
   rw [hq] at h4
   simp at h4
  | cons a b => rfl
 have h3 : textB ((rowsL s.data.toList).map ((fun x : ByteArray × Bool => wordsF x.1) ∘ rowO)) = s.data.toList := by
  have key : ∀ r : List (List UInt8 × Bool), textB (r.map ((fun x : ByteArray × Bool => wordsF x.1) ∘ rowO)) = r.flatMap fun x => x.1 ++ [10] := by
   intro r
   induction r with
   | nil => rfl
   | cons x r ih =>
    unfold textB at ih ⊢
    rw [List.map_cons, List.flatMap_cons, List.flatMap_cons, ih]
    congr 1
    show lineB (wordsF (ofL x.1)) ++ [10] = _
    rw [wordsF_L, lineB_ofL, ofL_toList, lineL_words]
  rw [key, text_rows _ h1]
 refine ⟨?_, by rw [h3, data_length]⟩
 rw [joinF, h2, if_pos rfl, h3]
theorem plain_bytes (x : ByteArray) (h : plainF x = true) : ∀ b ∈ x.data.toList, b ≠ 32 ∧ b ≠ 10 := by
 intro b hb
 unfold plainF at h
 have h1 := (Bool.and_eq_true_iff.1 h).1
 rw [List.all_eq_true] at h1
 have h2 := h1 (b.toNat : Int) (by unfold bytesOf; exact List.mem_map_of_mem hb)
 unfold okB at h2
 have h3 := of_decide_eq_true (Bool.and_eq_true_iff.1 h2).1
 refine ⟨fun e => ?_, fun e => ?_⟩
 ·rw [e] at h3
  have : ((32 : UInt8).toNat : Int) = 32 := rfl
  omega
 ·rw [e] at h3
  have : ((10 : UInt8).toNat : Int) = 10 := rfl
  omega
theorem words_line : ∀ (l : List ByteArray) (x : ByteArray), (∀ y ∈ x :: l, ∀ b ∈ y.data.toList, b ≠ 32) → wordsL (lineB (x :: l)) = (x :: l).map fun y => y.data.toList
 | [], x, h => by
  rw [lineB, List.flatMap_nil, List.append_nil, wordsL_none _ (h x List.mem_cons_self)]
  rfl
 | y :: l, x, h => by
  have e : lineB (x :: y :: l) = x.data.toList ++ 32 :: lineB (y :: l) := by
   rw [lineB, lineB, List.flatMap_cons, List.cons_append]
  rw [e, wordsL_app _ _ (h x List.mem_cons_self), words_line l y (fun z hz => h z (List.mem_cons_of_mem _ hz))]
  rfl
theorem ok_line (l : List ByteArray) (h : okL l = true) : wordsF (ofL (lineB l)) = l ∧ ∀ b ∈ lineB l, b ≠ 10 := by
 unfold okL at h
 have h1 := (Bool.and_eq_true_iff.1 h).2
 rw [List.all_eq_true] at h1
 cases l with
 | nil => simp at h
 | cons x l =>
  constructor
  ·rw [wordsF_L, ofL_toList, words_line l x (fun y hy b hb => (plain_bytes y (h1 y hy) b hb).1), List.map_map]
   conv => rhs; rw [← List.map_id (x :: l)]
   exact List.map_congr_left fun y hy => ofL_data y
  ·intro b hb
   rw [lineB, List.mem_append, List.mem_flatMap] at hb
   rcases hb with hb | ⟨y, hy, hb⟩
   ·exact (plain_bytes x (h1 x List.mem_cons_self) b hb).2
   ·rw [List.mem_cons] at hb
    rcases hb with rfl | hb
    ·decide
    ·exact (plain_bytes y (h1 y (List.mem_cons_of_mem _ hy)) b hb).2
end Go.Proofs.YtiddiboclfpklaaDoor.Tx
namespace Go.Proofs.YtiddiboclfpklaaDoor.Tz
open Go.RowKit Go.Proofs.YtiddiboclfpklaaDoorW.PrintWords Go.Proofs.YtiddiboclfpklaaDoor.PScriptReads Go.Proofs.YtiddiboclfpklaaDoor.Tx
set_option linter.unusedVariables false
set_option maxHeartbeats 4000000 in
set_option maxRecDepth 100000 in
theorem line_cut (k n : Int) (d : ByteArray) (f : Int) (vs : List S107) (mount : Bool) (m : Int) (ms : List Int) (A4 : Option Addr) (c4 : Nat) (A8 : Option Addr) (c8 : Nat) (w : World) (h8 : Kd.C (Kd.int .u32) w A8 ms.length ms) (hm : I64 m) (hms : ∀ x ∈ ms, 0 ≤ x ∧ x < 4294967296) (hl : ms.length ≤ 16777216) :
  Calls Tryd.prog 53 #[.agg #[.int .i64 k, .int .i64 n, .string d, .int .i64 f, .slice A4 vs.length c4, .bool true, .bool mount, .int .i64 m, .slice A8 ms.length c8]] w fun e w' => (∃ v, e = .returned v ∧ Kd.R Kd.string 9 w' w.heap.size (fun _ => True) v (⟨#[99, 117, 116]⟩ :: decW m :: ms.map decW)) ∧ Below w.heap.size w w' := by
 have HR := Aside0.mk (show ReadsInt w .u32 A8 ms.length ms from Kd.reads_of_C h8)
 have HMS := Aside0.mk hms
 clear h8 hms
 obtain ⟨N, hN⟩ : ∃ N, ms.length = N := ⟨_, rfl⟩
 rw [hN] at HR hl ⊢
 have HN := Aside0.mk hN
 clear hN
 have HB := Aside0.mk (Below.alloc (Below.refl w.heap.size w) (Nat.le_refl _) (.cells #[.int .i64 k, .int .i64 n, .string d, .int .i64 f, .slice A4 vs.length c4, .bool true, .bool mount, .int .i64 m, .slice A8 N c8] 66))
 have HD : Aside0 (∀ W, Calls Tryd.prog 12 #[.int .i64 m] W fun e w' => e = .returned (.string (decW m)) ∧ Below W.heap.size W w') := ⟨fun W => dec_calls m hm W⟩
 go_enter Tryd.func53, Tryd.ntmps53
 go_wp2_with ((go_at_call 12; refine (HD.out _).mono ?_; rintro e w1 ⟨rfl, hB⟩; have K1 := Aside0.mk (blk_below (blk_new w (.cells #[.int .i64 k, .int .i64 n, .string d, .int .i64 f, .slice A4 vs.length c4, .bool true, .bool mount, .int .i64 m, .slice A8 N c8] 66)) hB); have S1 := Aside0.mk (HB.out.trans (hB.mono HB.out.size)); clear hB; have q8 : w1.cell? ⟨w.heap.size, 8, none⟩ = some (.slice A8 N c8) := (blk_cell K1.out 8).trans rfl; have q9 := pw_cell_below ((Below.refl _ w1).alloc (Nat.le_refl _) (.cells #[.string ⟨#[99, 117, 116]⟩, .string (decW m)] 9)) q8))
 have S0 : Aside0 (LineSt w (w1.alloc (.cells #[.string ⟨#[99, 117, 116]⟩, .string (decW m)] 9)) #[.int .i64 k, .int .i64 n, .string d, .int .i64 f, .slice A4 vs.length c4, .bool true, .bool mount, .int .i64 m, .slice A8 N c8] (.slice (some ⟨w1.heap.size, 0, none⟩) 2 2) ([⟨#[99, 117, 116]⟩, decW m] ++ (ms.take 0).map decW)) := ⟨LineSt.lit w w1 _ [⟨#[99, 117, 116]⟩, decW m] (by simp) K1.out S1.out⟩
 go_loopw [3, 19] (fun v i wr => ∃ t : Nat, t ≤ N ∧ i = .int .i64 (t : Int) ∧ Aside0 (LineSt w wr #[.int .i64 k, .int .i64 n, .string d, .int .i64 f, .slice A4 vs.length c4, .bool true, .bool mount, .int .i64 m, .slice A8 N c8] v ([⟨#[99, 117, 116]⟩, decW m] ++ (ms.take t).map decW))) (fun _ i _ => N - (intOf i).toNat)
 case atStart => exact ⟨0, by omega, rfl, S0⟩
 case round =>
  clear S0 q8 q9
  obtain ⟨t, ht, rfl, S⟩ := hrel
  obtain ⟨A3, c3, rfl⟩ := own_slice S.out.own
  by_cases hlt : t < N
  ·have hb5 : (0 : Int) ≤ (t : Int) := by omega
   have hb6 : (t : Int) < (N : Int) := by omega
   obtain ⟨ad, rfl, hc⟩ := (HR.out.below S.out.bel).at_ (t : Int) hb5 hb6
   rw [Int.toNat_natCast] at hc
   obtain ⟨x, hx⟩ : ∃ x, rd ms (t : Int) = x := ⟨_, rfl⟩
   rw [hx] at hc
   have htl : t < ms.length := by rw [HN.out]; exact hlt
   have hxe : ms[t] = x := by rw [← hx]; simp [rd, htl]
   have hxr := HMS.out x (by rw [← hxe]; exact List.getElem_mem htl)
   have hcx : IntKind.i64.wrap x = x := IntWalk.i64_in x (by omega)
   have hcx2 : wrap64 x = x := IntWalk.wrap64_in x (by omega)
   have HX : Aside0 (∀ W, Calls Tryd.prog 12 #[.int .i64 x] W fun e w' => e = .returned (.string (decW x)) ∧ Below W.heap.size W w') := ⟨fun W => dec_calls x (by unfold I64; omega) W⟩
   have htk : (ms.take (t + 1)).map decW = (ms.take t).map decW ++ [decW x] := by rw [List.take_succ_eq_append_getElem htl, hxe, List.map_append]; rfl
   obtain ⟨Lc, hLc⟩ : ∃ Lc, [⟨#[99, 117, 116]⟩, decW m] ++ (ms.take t).map decW = Lc := ⟨_, rfl⟩
   have hLl : Lc.length ≤ 16777218 := by
    rw [← hLc, List.length_append, List.length_map, List.length_take]
    simp; omega
   rw [hLc] at S ⊢
   obtain ⟨dx, hdx⟩ : ∃ dx, decW x = dx := ⟨_, rfl⟩
   rw [hdx] at HX htk
   have HT := Aside0.mk (And.intro htk (And.intro hLc hLl))
   clear hx hxe hxr htl htk hLc hLl hdx
   go_wp2_with (first
    | (go_at_call 12; refine (HX.out _).mono ?_; rintro e w2 ⟨rfl, hB⟩; have S2 := Aside0.mk (S.out.below hB); clear hB)
    | ((with_reducible refine gate_builtin (b := .append) (xs := #[.tmp 23, .tmp 27]) rfl ?_); at_builtin; refine print_append_row_of (w0 := w) Value.string ByteArray.empty w.heap.size rfl (.tmp 23) (.tmp 27) 84 9 (.string ⟨#[]⟩) 16 rfl un84 info9 rfl (by decide) (fun _ => rfl) (.slice A3 Lc.length c3) Lc [dx] (some ⟨w2.heap.size, 0, none⟩) 1 1 rfl rfl (own_alloc S2.out.own _) (lit_readsS w2 [dx] (by simp)) (below_alloc S2.out.bel _) (by have := S2.out.bel.size; rw [World.size_alloc]; omega) (by have := HT.out.2.2; omega) ?_; intro v2 w3 ho hb hg hat; have S3 := Aside0.mk (S2.out.after _ ho hb hg); clear ho hb hg hat; obtain ⟨A5, c5, rfl⟩ := own_slice S3.out.own))
   refine ⟨⟨t + 1, by omega, by go_num, ⟨by have h := S3.out; rw [List.length_append, List.length_singleton] at h; rw [HT.out.1, ← List.append_assoc, HT.out.2.1]; exact h⟩⟩, ?_⟩
   simp only [intOf]; omega
  ·obtain rfl : t = N := by omega
   have hfull : ms.take t = ms := List.take_of_length_le (by rw [HN.out]; exact Nat.le_refl _)
   have S1 : Aside0 (∃ Lx, LineSt w wr #[.int .i64 k, .int .i64 n, .string d, .int .i64 f, .slice A4 vs.length c4, .bool true, .bool mount, .int .i64 m, .slice A8 t c8] (.slice A3 ([⟨#[99, 117, 116]⟩, decW m] ++ (ms.take t).map decW).length c3) Lx ∧ Lx = ⟨#[99, 117, 116]⟩ :: decW m :: ms.map decW) := ⟨_, S.out, (by show [⟨#[99, 117, 116]⟩, decW m] ++ (ms.take t).map decW = _; rw [hfull]; rfl)⟩
   clear hfull
   go_wp2_with fail
   go_ret
   obtain ⟨Lx, h1, h2⟩ := S1.out
   exact ⟨⟨_, rfl, by rw [← h2]; exact h1.made⟩, h1.bel⟩
set_option maxHeartbeats 4000000 in
set_option maxRecDepth 100000 in
theorem line_mount (k n : Int) (d : ByteArray) (f : Int) (vs : List S107) (mount : Bool) (m : Int) (ms : List Int) (A4 : Option Addr) (c4 : Nat) (A8 : Option Addr) (c8 : Nat) (w : World)  :
  Calls Tryd.prog 53 #[.agg #[.int .i64 k, .int .i64 n, .string d, .int .i64 f, .slice A4 vs.length c4, .bool false, .bool true, .int .i64 m, .slice A8 ms.length c8]] w fun e w' => (∃ v, e = .returned v ∧ Kd.R Kd.string 9 w' w.heap.size (fun _ => True) v ([⟨#[109, 111, 117, 110, 116]⟩])) ∧ Below w.heap.size w w' := by
 have HB := Aside0.mk (Below.alloc (Below.refl w.heap.size w) (Nat.le_refl _) (.cells #[.int .i64 k, .int .i64 n, .string d, .int .i64 f, .slice A4 vs.length c4, .bool false, .bool true, .int .i64 m, .slice A8 ms.length c8] 66))
 have K1 := Aside0.mk (blk_new w (.cells #[.int .i64 k, .int .i64 n, .string d, .int .i64 f, .slice A4 vs.length c4, .bool false, .bool true, .int .i64 m, .slice A8 ms.length c8] 66))
 have S0 := LineSt.lit w _ _ [⟨#[109, 111, 117, 110, 116]⟩] (by simp) K1.out HB.out
 rw [World.size_alloc] at S0
 replace S0 := Aside0.mk S0
 go_enter Tryd.func53, Tryd.ntmps53
 go_wp2_with fail
 go_ret
 exact ⟨⟨_, rfl, S0.out.made⟩, S0.out.bel⟩
end Go.Proofs.YtiddiboclfpklaaDoor.Tz
namespace Go.Proofs.YtiddiboclfpklaaDoor.Tz
open Go.RowKit Go.Proofs.YtiddiboclfpklaaDoorW.PrintWords Go.Proofs.YtiddiboclfpklaaDoor.PScriptReads Go.Proofs.YtiddiboclfpklaaDoor.Tx
set_option linter.unusedVariables false
theorem LineSt.drew {w wr : World} {cs : Array Value} {v : Value} {L : List ByteArray} (S : LineSt w wr cs v L) : LineSt w wr.drew cs v L := ⟨S.own, S.box, below_drew1 S.bel⟩
theorem LineSt.drewN {w wr : World} {cs : Array Value} {v : Value} {L : List ByteArray} (S : LineSt w wr cs v L) (n : Nat) : LineSt w (wr.drewN n) cs v L := ⟨S.own, S.box, pw_below_drewN S.bel n⟩
theorem LineSt.alloc {w wr : World} {cs : Array Value} {v : Value} {L : List ByteArray} (S : LineSt w wr cs v L) (o : Obj) : LineSt w (wr.alloc o) cs v L := ⟨own_alloc S.own o, blk_alloc S.box o, below_alloc S.bel o⟩
theorem lit_cellsS (W : World) (xs : List ByteArray) : ∀ j u, (encs Value.string xs)[j]? = some u → (W.alloc (.cells (encs Value.string xs).toArray 9)).cell? ((⟨W.heap.size, 0, none⟩ : Addr).add j) = some u := by
 intro j u hj
 rw [add_plain, blk_cell (blk_new W _) j]
 simpa using hj
theorem one_S (xs : List ByteArray) : ∀ u ∈ encs Value.string xs, u.oneCell' = true := by
 intro u hu
 obtain ⟨x, _, rfl⟩ := List.mem_map.1 hu
 rfl
set_option maxHeartbeats 4000000 in
set_option maxRecDepth 100000 in
theorem line_none (k n : Int) (d : ByteArray) (f : Int) (vs : List S107) (m : Int) (ms : List Int) (A4 : Option Addr) (c4 : Nat) (A8 : Option Addr) (c8 : Nat) (w : World) (h1 : k ≠ 1) (h2 : k ≠ 2) (h3 : k ≠ 11) (h4 : k ≠ 12) (h5 : k ≠ 13) :
  Calls Tryd.prog 53 #[.agg #[.int .i64 k, .int .i64 n, .string d, .int .i64 f, .slice A4 vs.length c4, .bool false, .bool false, .int .i64 m, .slice A8 ms.length c8]] w fun e w' => (∃ v, e = .returned v ∧ Kd.R Kd.string 9 w' w.heap.size (fun _ => True) v ([wordF k])) ∧ Below w.heap.size w w' := by
 have HB := Aside0.mk (Below.alloc (Below.refl w.heap.size w) (Nat.le_refl _) (.cells #[.int .i64 k, .int .i64 n, .string d, .int .i64 f, .slice A4 vs.length c4, .bool false, .bool false, .int .i64 m, .slice A8 ms.length c8] 66))
 obtain ⟨wd, hwd⟩ : ∃ wd, wordF k = wd := ⟨_, rfl⟩
 have HW : Aside0 (∀ W, Calls Tryd.prog 57 #[.int .i64 k] W fun e w' => e = .returned (.string wd) ∧ Drawn0 W w') := ⟨fun W => by rw [← hwd]; exact word_calls k W⟩
 rw [hwd]
 clear hwd
 have e1 : (k == 1) = false := beq_eq_false_iff_ne.2 h1
 have e2 : (k == 2) = false := beq_eq_false_iff_ne.2 h2
 have e3 : (k == 11) = false := beq_eq_false_iff_ne.2 h3
 have e4 : (k == 12) = false := beq_eq_false_iff_ne.2 h4
 have e5 : (k == 13) = false := beq_eq_false_iff_ne.2 h5
 go_enter Tryd.func53, Tryd.ntmps53
 go_wp2_with ((go_at_call 57; refine (HW.out _).mono ?_; rintro e w1 ⟨rfl, hD⟩; have hB := hD.below; have K1 := Aside0.mk (blk_below (blk_new w (.cells #[.int .i64 k, .int .i64 n, .string d, .int .i64 f, .slice A4 vs.length c4, .bool false, .bool false, .int .i64 m, .slice A8 ms.length c8] 66)) hB); have B1 := Aside0.mk (HB.out.trans (hB.mono HB.out.size)); clear hB hD; have S1 := Aside0.mk (LineSt.lit w w1 _ [wd] (by simp) K1.out B1.out); have z0 : (w1.alloc (.cells #[.string wd] 9)).cell? ⟨w.heap.size, 0, none⟩ = some (.int .i64 k) := (blk_cell (blk_alloc K1.out _) 0).trans rfl))
 go_ret
 exact ⟨⟨_, rfl, S1.out.made⟩, S1.out.bel⟩
set_option maxHeartbeats 4000000 in
set_option maxRecDepth 100000 in
theorem line_begin (dummy n : Int) (d : ByteArray) (f : Int) (vs : List S107) (m : Int) (ms : List Int) (A4 : Option Addr) (c4 : Nat) (A8 : Option Addr) (c8 : Nat) (w : World) (hn : I64 n) :
  Calls Tryd.prog 53 #[.agg #[.int .i64 1, .int .i64 n, .string d, .int .i64 f, .slice A4 vs.length c4, .bool false, .bool false, .int .i64 m, .slice A8 ms.length c8]] w fun e w' => (∃ v, e = .returned v ∧ Kd.R Kd.string 9 w' w.heap.size (fun _ => True) v ([wordF 1, decW n])) ∧ Below w.heap.size w w' := by
 have HB := Aside0.mk (Below.alloc (Below.refl w.heap.size w) (Nat.le_refl _) (.cells #[.int .i64 1, .int .i64 n, .string d, .int .i64 f, .slice A4 vs.length c4, .bool false, .bool false, .int .i64 m, .slice A8 ms.length c8] 66))
 obtain ⟨wd, hwd⟩ : ∃ wd, wordF 1 = wd := ⟨_, rfl⟩
 have HW : Aside0 (∀ W, Calls Tryd.prog 57 #[.int .i64 1] W fun e w' => e = .returned (.string wd) ∧ Drawn0 W w') := ⟨fun W => by rw [← hwd]; exact word_calls 1 W⟩
 rw [hwd]
 clear hwd
 obtain ⟨dn, hdn⟩ : ∃ dn, decW n = dn := ⟨_, rfl⟩
 have HN : Aside0 (∀ W, Calls Tryd.prog 12 #[.int .i64 n] W fun e w' => e = .returned (.string dn) ∧ Below W.heap.size W w') := ⟨fun W => by rw [← hdn]; exact dec_calls n hn W⟩
 rw [hdn]
 clear hdn
 go_enter Tryd.func53, Tryd.ntmps53
 go_wp2_with (first
  | (go_at_call 57; refine (HW.out _).mono ?_; rintro e w1 ⟨rfl, hD⟩; have hB := hD.below; have K1 := Aside0.mk (blk_below (blk_new w (.cells #[.int .i64 1, .int .i64 n, .string d, .int .i64 f, .slice A4 vs.length c4, .bool false, .bool false, .int .i64 m, .slice A8 ms.length c8] 66)) hB); have B1 := Aside0.mk (HB.out.trans (hB.mono HB.out.size)); clear hB hD; have S1 := Aside0.mk (LineSt.lit w w1 _ [wd] (by simp) K1.out B1.out); have z0 : (w1.alloc (.cells #[.string wd] 9)).cell? ⟨w.heap.size, 0, none⟩ = some (.int .i64 1) := (blk_cell (blk_alloc K1.out _) 0).trans rfl; have z1 : (w1.alloc (.cells #[.string wd] 9)).cell? ⟨w.heap.size, 1, none⟩ = some (.int .i64 n) := (blk_cell (blk_alloc K1.out _) 1).trans rfl)
  | (go_at_call 12; refine (HN.out _).mono ?_; rintro e w2 ⟨rfl, hB⟩; have S2 := Aside0.mk (S1.out.below hB); clear hB)
  | ((with_reducible refine gate_builtin (b := .append) (xs := #[.tmp 45, .tmp 50]) rfl ?_); at_builtin; refine print_append_row_of (w0 := w) Value.string ByteArray.empty w.heap.size rfl (.tmp 45) (.tmp 50) 84 9 (.string ⟨#[]⟩) 16 rfl un84 info9 rfl (by decide) (fun _ => rfl) (.slice (some ⟨w1.heap.size, 0, none⟩) [wd].length 1) [wd] [dn] (some ⟨w2.heap.size, 0, none⟩) 1 1 rfl rfl (own_alloc S2.out.own _) (lit_readsS w2 [dn] (by simp)) (below_alloc S2.out.bel _) (by have := S2.out.bel.size; rw [World.size_alloc]; omega) (by simp) ?_; intro v2 w3 ho hb hg hat; have S3 := Aside0.mk (S2.out.after _ ho hb hg); clear ho hb hg hat; obtain ⟨A5, c5, rfl⟩ := own_slice S3.out.own))
 go_ret
 exact ⟨⟨_, rfl, S3.out.made⟩, S3.out.bel⟩
set_option maxHeartbeats 4000000 in
set_option maxRecDepth 100000 in
theorem line_chunk (dummy n : Int) (d : ByteArray) (f : Int) (vs : List S107) (m : Int) (ms : List Int) (A4 : Option Addr) (c4 : Nat) (A8 : Option Addr) (c8 : Nat) (w : World) (hd : d.size ≤ 16777216) :
  Calls Tryd.prog 53 #[.agg #[.int .i64 2, .int .i64 n, .string d, .int .i64 f, .slice A4 vs.length c4, .bool false, .bool false, .int .i64 m, .slice A8 ms.length c8]] w fun e w' => (∃ v, e = .returned v ∧ Kd.R Kd.string 9 w' w.heap.size (fun _ => True) v ([wordF 2, hexF d])) ∧ Below w.heap.size w w' := by
 have HB := Aside0.mk (Below.alloc (Below.refl w.heap.size w) (Nat.le_refl _) (.cells #[.int .i64 2, .int .i64 n, .string d, .int .i64 f, .slice A4 vs.length c4, .bool false, .bool false, .int .i64 m, .slice A8 ms.length c8] 66))
 obtain ⟨wd, hwd⟩ : ∃ wd, wordF 2 = wd := ⟨_, rfl⟩
 have HW : Aside0 (∀ W, Calls Tryd.prog 57 #[.int .i64 2] W fun e w' => e = .returned (.string wd) ∧ Drawn0 W w') := ⟨fun W => by rw [← hwd]; exact word_calls 2 W⟩
 rw [hwd]
 clear hwd
 obtain ⟨dn, hdn⟩ : ∃ dn, hexF d = dn := ⟨_, rfl⟩
 have HN : Aside0 (∀ W, Calls Tryd.prog 17 #[.string d] W fun e w' => e = .returned (.string dn) ∧ Below W.heap.size W w') := ⟨fun W => by rw [← hdn]; exact hex_calls d hd W⟩
 rw [hdn]
 clear hdn
 go_enter Tryd.func53, Tryd.ntmps53
 go_wp2_with (first
  | (go_at_call 57; refine (HW.out _).mono ?_; rintro e w1 ⟨rfl, hD⟩; have hB := hD.below; have K1 := Aside0.mk (blk_below (blk_new w (.cells #[.int .i64 2, .int .i64 n, .string d, .int .i64 f, .slice A4 vs.length c4, .bool false, .bool false, .int .i64 m, .slice A8 ms.length c8] 66)) hB); have B1 := Aside0.mk (HB.out.trans (hB.mono HB.out.size)); clear hB hD; have S1 := Aside0.mk (LineSt.lit w w1 _ [wd] (by simp) K1.out B1.out); have z0 : (w1.alloc (.cells #[.string wd] 9)).cell? ⟨w.heap.size, 0, none⟩ = some (.int .i64 2) := (blk_cell (blk_alloc K1.out _) 0).trans rfl; have z2 : (w1.alloc (.cells #[.string wd] 9)).cell? ⟨w.heap.size, 2, none⟩ = some (.string d) := (blk_cell (blk_alloc K1.out _) 2).trans rfl)
  | (go_at_call 17; refine (HN.out _).mono ?_; rintro e w2 ⟨rfl, hB⟩; have S2 := Aside0.mk (S1.out.below hB); clear hB)
  | ((with_reducible refine gate_builtin (b := .append) (xs := #[.tmp 54, .tmp 59]) rfl ?_); at_builtin; refine print_append_row_of (w0 := w) Value.string ByteArray.empty w.heap.size rfl (.tmp 54) (.tmp 59) 84 9 (.string ⟨#[]⟩) 16 rfl un84 info9 rfl (by decide) (fun _ => rfl) (.slice (some ⟨w1.heap.size, 0, none⟩) [wd].length 1) [wd] [dn] (some ⟨w2.heap.size, 0, none⟩) 1 1 rfl rfl (own_alloc S2.out.own _) (lit_readsS w2 [dn] (by simp)) (below_alloc S2.out.bel _) (by have := S2.out.bel.size; rw [World.size_alloc]; omega) (by simp) ?_; intro v2 w3 ho hb hg hat; have S3 := Aside0.mk (S2.out.after _ ho hb hg); clear ho hb hg hat; obtain ⟨A5, c5, rfl⟩ := own_slice S3.out.own))
 go_ret
 exact ⟨⟨_, rfl, S3.out.made⟩, S3.out.bel⟩
end Go.Proofs.YtiddiboclfpklaaDoor.Tz
