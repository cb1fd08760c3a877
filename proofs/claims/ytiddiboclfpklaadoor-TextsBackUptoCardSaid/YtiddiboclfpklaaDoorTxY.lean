/- TextsBack: the plain law there and back, and the walk. -/
import Derived.Test.YtiddiboclfpklaaDoorTxW
namespace Go.Proofs.YtiddiboclfpklaaDoor.Tx
open Go.RowKit Go.Proofs.YtiddiboclfpklaaDoorW.PrintWords
set_option linter.unusedVariables false

/-! ### what was read is told as it was -/
def lineL : List (List UInt8) → List UInt8
  | [] => []
  | x :: l => x ++ l.flatMap fun y => 32 :: y
theorem lineB_ofL (ws : List (List UInt8)) : lineB (ws.map ofL) = lineL ws := by
  cases ws with
  | nil => rfl
  | cons x l =>
    rw [List.map_cons, lineB, lineL, ofL_toList]
    congr 1
    induction l with
    | nil => rfl
    | cons y l ih => rw [List.map_cons, List.flatMap_cons, List.flatMap_cons, ofL_toList, ih]
theorem lineL_words : ∀ l : List UInt8, lineL (wordsL l) = l
  | [] => rfl
  | b :: l => by
    have ih := lineL_words l
    rw [wordsL]
    by_cases h : b = 32
    · rw [if_pos h]
      cases hw : wordsL l with
      | nil => exact absurd hw (wordsL_ne l)
      | cons w r =>
        rw [hw, lineL] at ih
        rw [lineL, List.nil_append, List.flatMap_cons, h, List.cons_append, ih]
    · rw [if_neg h]
      cases hw : wordsL l with
      | nil => exact absurd hw (wordsL_ne l)
      | cons w r =>
        rw [hw, lineL] at ih
        show lineL ((b :: w) :: r) = _
        rw [lineL, List.cons_append, ih]
theorem text_rows : ∀ l : List UInt8, (rowsL l).all (fun x => x.2) = true → (rowsL l).flatMap (fun x => x.1 ++ [10]) = l
  | [], _ => rfl
  | b :: l, h => by
    rw [rowsL] at h ⊢
    by_cases hb : b = 10
    · rw [if_pos hb] at h ⊢
      rw [List.all_cons, Bool.true_and] at h
      rw [List.flatMap_cons, text_rows l h, hb]
      rfl
    · rw [if_neg hb] at h ⊢
      cases hr : rowsL l with
      | nil =>
        rw [hr] at h
        exact absurd h (by simp)
      | cons x r =>
        rw [hr] at h
        have h2 : (rowsL l).all (fun x => x.2) = true := by
          rw [hr, List.all_cons]
          exact h
        have ih := text_rows l h2
        rw [hr, List.flatMap_cons] at ih
        show ((b :: x.1, x.2) :: r).flatMap _ = _
        rw [List.flatMap_cons]
        show b :: (x.1 ++ [10]) ++ _ = _
        rw [List.cons_append, ih]
theorem back_one (s : ByteArray) (h : (rowsF s.size s).all okRow = true) : joinF ((rowsF s.size s).map fun x => wordsF x.1) = (s, 0) ∧ (textB ((rowsF s.size s).map fun x => wordsF x.1)).length = s.size := by
  rw [rowsF_L s.size s (Nat.le_refl _)] at h ⊢
  rw [List.map_map]
  have h1 : (rowsL s.data.toList).all (fun x => x.2) = true := by
    rw [List.all_eq_true] at h ⊢
    intro x hx
    have := h (rowO x) (List.mem_map_of_mem hx)
    unfold okRow at this
    exact (Bool.and_eq_true_iff.1 this).1
  have h2 : ((rowsL s.data.toList).map ((fun x : ByteArray × Bool => wordsF x.1) ∘ rowO)).all okL = true := by
    rw [List.all_eq_true] at h ⊢
    intro l hl
    obtain ⟨x, hx, rfl⟩ := List.mem_map.1 hl
    have := h (rowO x) (List.mem_map_of_mem hx)
    unfold okRow at this
    have h3 := (Bool.and_eq_true_iff.1 this).2
    show okL (wordsF (rowO x).1) = true
    unfold okL
    rw [h3, Bool.and_true]
    cases hq : wordsF (rowO x).1 with
    | nil =>
      have h4 := wordsF_length (rowO x).1
      rw [hq] at h4
      simp at h4
    | cons a b => rfl
  have h3 : textB ((rowsL s.data.toList).map ((fun x : ByteArray × Bool => wordsF x.1) ∘ rowO)) = s.data.toList := by
    have key : ∀ r : List (List UInt8 × Bool), textB (r.map ((fun x : ByteArray × Bool => wordsF x.1) ∘ rowO)) = r.flatMap fun x => x.1 ++ [10] := by
      intro r
      induction r with
      | nil => rfl
      | cons x r ih =>
        unfold textB at ih ⊢
        rw [List.map_cons, List.flatMap_cons, List.flatMap_cons, ih]
        congr 1
        show lineB (wordsF (ofL x.1)) ++ [10] = _
        rw [wordsF_L, lineB_ofL, ofL_toList, lineL_words]
    rw [key, text_rows _ h1]
  refine ⟨?_, by rw [h3, data_length]⟩
  rw [joinF, h2, if_pos rfl, h3]

/-! ### what is told is read as it was -/
theorem plain_bytes (x : ByteArray) (h : plainF x = true) : ∀ b ∈ x.data.toList, b ≠ 32 ∧ b ≠ 10 := by
  intro b hb
  unfold plainF at h
  have h1 := (Bool.and_eq_true_iff.1 h).1
  rw [List.all_eq_true] at h1
  have h2 := h1 (b.toNat : Int) (by unfold bytesOf; exact List.mem_map_of_mem hb)
  unfold okB at h2
  have h3 := of_decide_eq_true (Bool.and_eq_true_iff.1 h2).1
  refine ⟨fun e => ?_, fun e => ?_⟩
  · rw [e] at h3
    have : ((32 : UInt8).toNat : Int) = 32 := rfl
    omega
  · rw [e] at h3
    have : ((10 : UInt8).toNat : Int) = 10 := rfl
    omega
theorem words_line : ∀ (l : List ByteArray) (x : ByteArray), (∀ y ∈ x :: l, ∀ b ∈ y.data.toList, b ≠ 32) → wordsL (lineB (x :: l)) = (x :: l).map fun y => y.data.toList
  | [], x, h => by
    rw [lineB, List.flatMap_nil, List.append_nil, wordsL_none _ (h x List.mem_cons_self)]
    rfl
  | y :: l, x, h => by
    have e : lineB (x :: y :: l) = x.data.toList ++ 32 :: lineB (y :: l) := by
      rw [lineB, lineB, List.flatMap_cons, List.cons_append]
    rw [e, wordsL_app _ _ (h x List.mem_cons_self), words_line l y (fun z hz => h z (List.mem_cons_of_mem _ hz))]
    rfl
theorem ok_line (l : List ByteArray) (h : okL l = true) : wordsF (ofL (lineB l)) = l ∧ ∀ b ∈ lineB l, b ≠ 10 := by
  unfold okL at h
  have h1 := (Bool.and_eq_true_iff.1 h).2
  rw [List.all_eq_true] at h1
  cases l with
  | nil => simp at h
  | cons x l =>
    constructor
    · rw [wordsF_L, ofL_toList, words_line l x (fun y hy b hb => (plain_bytes y (h1 y hy) b hb).1), List.map_map]
      conv => rhs; rw [← List.map_id (x :: l)]
      exact List.map_congr_left fun y hy => ofL_data y
    · intro b hb
      rw [lineB, List.mem_append, List.mem_flatMap] at hb
      rcases hb with hb | ⟨y, hy, hb⟩
      · exact (plain_bytes x (h1 x List.mem_cons_self) b hb).2
      · rw [List.mem_cons] at hb
        rcases hb with rfl | hb
        · decide
        · exact (plain_bytes y (h1 y (List.mem_cons_of_mem _ hy)) b hb).2
theorem rows_text : ∀ ls : List (List ByteArray), ls.all okL = true → rowsL (textB ls) = ls.map fun l => (lineB l, true)
  | [], _ => rfl
  | l :: ls, h => by
    rw [List.all_cons, Bool.and_eq_true] at h
    have e : textB (l :: ls) = lineB l ++ 10 :: textB ls := by
      unfold textB
      rw [List.flatMap_cons, List.append_assoc]
      rfl
    rw [e, rowsL_app _ _ (ok_line l h.1).2, rows_text ls h.2, List.map_cons]
theorem back_two (ls : List (List ByteArray)) (h : ls.all okL = true) : linesF (ofL (textB ls)) = (ls, 0, 0) := by
  have e : rowsF (ofL (textB ls)).size (ofL (textB ls)) = ls.map fun l => (ofL (lineB l), true) := by
    rw [rowsF_L _ _ (Nat.le_refl _), ofL_toList, rows_text ls h, List.map_map]
    rfl
  rw [List.all_eq_true] at h
  have h1 : (ls.map fun l => (ofL (lineB l), true)).all okRow = true := by
    rw [List.all_eq_true]
    intro x hx
    obtain ⟨l, hl, rfl⟩ := List.mem_map.1 hx
    have h2 := h l hl
    unfold okL at h2
    rw [okRow, (ok_line l (h l hl)).1, (Bool.and_eq_true_iff.1 h2).2]
    rfl
  rw [linesF, e, linesG_ok _ _ h1, List.nil_append, List.map_map]
  congr 1
  conv => rhs; rw [← List.map_id ls]
  exact List.map_congr_left fun l hl => (ok_line l (h l hl)).1
/-- Join's answer: the text with 0, or none with 4. -/
theorem joinF_form (ls : List (List ByteArray)) : (ls.all okL = true ∧ joinF ls = (ofL (textB ls), 0)) ∨ joinF ls = (⟨#[]⟩, 4) := by
  cases h : ls.all okL with
  | true => exact .inl ⟨rfl, by rw [joinF, h, if_pos rfl]; rfl⟩
  | false => exact .inr (by rw [joinF, h, if_neg Bool.false_ne_true])
theorem linesF_words (s : ByteArray) (hs : s.size ≤ 8388608) : ∀ l ∈ (linesF s).1, ∀ x ∈ l, x.size ≤ 16777216 := by
  rcases linesF_form s with ⟨_, h⟩ | ⟨h, _⟩
  · rw [h]
    intro l hl x hx
    obtain ⟨y, hy, rfl⟩ := List.mem_map.1 hl
    have h1 := rowsF_size _ _ y hy
    have h2 := splitF_size _ _ _ x hx
    omega
  · rw [h]
    intro l hl
    cases hl

set_option maxHeartbeats 2000000 in
set_option maxRecDepth 100000 in
theorem textsBack_calls (s : ByteArray) (ls : List (List ByteArray)) (A : Option Addr) (c : Nat) (hs : s.size ≤ 8388608) (hl : Small ls) (ht : (textB ls).length ≤ 8388608) (w : World) (hr : Kd.C (Kd.slice 9 Kd.string) w A ls.length ls) (hc : ls.length ≤ c) :
    Calls Tryd.prog 6 #[.string s, .slice A ls.length c] w fun e w' => e = .returned (.bool true) ∧ Below w.heap.size w w' := by
  obtain ⟨hsm1, hsm2⟩ := linesF_small s hs
  have hsm3 := linesF_words s hs
  have hf := linesF_form s
  obtain ⟨L, hL⟩ : ∃ L, (linesF s).1 = L := ⟨_, rfl⟩
  obtain ⟨n1, hn1⟩ : ∃ n1, (linesF s).2.1 = n1 := ⟨_, rfl⟩
  obtain ⟨e1, he1⟩ : ∃ e1, (linesF s).2.2 = e1 := ⟨_, rfl⟩
  have hone : e1 = 4 ∨ (e1 = 0 ∧ joinF L = (s, 0) ∧ (textB L).length ≤ 16777216) := by
    rcases hf with ⟨h1, h2⟩ | ⟨_, h⟩
    · right
      rw [h2] at he1 hL
      obtain ⟨h3, h4⟩ := back_one s h1
      rw [← hL]
      exact ⟨he1.symm, h3, by show (textB (List.map (fun x => wordsF x.1) (rowsF s.size s))).length ≤ 16777216; omega⟩
    · left; rw [← he1]; exact h
  rw [hL] at hsm1 hsm2 hsm3
  have HLn : Aside0 (∀ W, Calls Tryd.prog 19 #[.string s] W fun e w' => (∃ v, e = .returned (.tuple #[v, .int .i64 n1, .int .i64 e1]) ∧ Kd.R (Kd.slice 9 Kd.string) 84 w' W.heap.size (fun _ => True) v L) ∧ Below W.heap.size W w') := ⟨fun W => by
    have h := lines_calls' s (by omega) W
    rw [hL, hn1, he1] at h
    exact h⟩
  obtain ⟨t1, ht1⟩ : ∃ t1, (joinF ls).1 = t1 := ⟨_, rfl⟩
  obtain ⟨f1, hf1⟩ : ∃ f1, (joinF ls).2 = f1 := ⟨_, rfl⟩
  have htwo : f1 = 4 ∨ (f1 = 0 ∧ linesF t1 = (ls, 0, 0) ∧ t1.size ≤ 16777216) := by
    rcases joinF_form ls with ⟨h1, h2⟩ | h
    · right
      rw [h2] at ht1 hf1
      rw [← ht1]
      exact ⟨hf1.symm, back_two ls h1, by rw [ofL_size]; omega⟩
    · left; rw [← hf1, h]
  obtain ⟨n, hn⟩ : ∃ n, ls.length = n := ⟨_, rfl⟩
  have HJ : Aside0 (∀ W, Below w.heap.size w W → Calls Tryd.prog 21 #[.slice A n c] W fun e w' => e = .returned (.tuple #[.string t1, .int .i64 f1]) ∧ Below W.heap.size W w') := ⟨fun W hb => by
    have h := join_calls ls A c W (Kd.C_below hr hb) hc hl.word hl.txt
    rw [ht1, hf1, hn] at h
    exact h⟩
  have HS : Aside0 (∀ (A1 : Option Addr) (c1 : Nat) (W : World), Below w.heap.size w W → Kd.C (Kd.slice 9 Kd.string) W A1 n ls → n ≤ c1 → Calls Tryd.prog 23 #[.slice A1 n c1, .slice A n c] W fun e w' => e = .returned (.bool true) ∧ Drawn0 W w') := ⟨fun A1 c1 W hb h1 h2 => by
    subst hn
    exact same_calls ls A1 c1 A c W h1 h2 (Kd.C_below hr hb) hc hl.len hl.row⟩
  obtain ⟨m, hm⟩ : ∃ m, L.length = m := ⟨_, rfl⟩
  have HM := Aside0.mk hm
  have HN := Aside0.mk hn
  have HSM := Aside0.mk hsm3
  rw [hn]
  clear hL hn1 he1 ht1 hf1 hsm1 hsm2 hsm3 hr hc hl hn hm hf
  go_enter Tryd.func6, Tryd.ntmps6
  go_upto_region 2 with ((go_at_call 19; refine (HLn.out _).mono ?_; rintro e w1 ⟨⟨v1, rfl, hR⟩, hB⟩; have S1 := Aside0.mk hB; clear hB; obtain ⟨A1, c1, rfl, hc1, hC⟩ := Kd.R_reads hR; have C1 := Aside0.mk (And.intro hc1 hC); rw [HM.out]; clear hR hC hc1))
  rcases hone with rfl | ⟨rfl, hj, htx⟩
  · rcases htwo with rfl | ⟨rfl, hli, hts⟩
    · go_wp2_with (first
        | (go_at_call 21; refine (HJ.out _ S1.out).mono ?_; rintro e w3 ⟨rfl, hB⟩; have S3 := Aside0.mk (S1.out.trans (hB.mono S1.out.size)); clear hB)
        | (go_at_call 14; refine (awake_calls _).mono ?_; rintro e w7 ⟨rfl, hB⟩; have S7 := Aside0.mk (S3.out.trans (hB.mono S3.out.size)); clear hB))
      go_ret
      exact ⟨rfl, S7.out⟩
    · have HT : Aside0 (∀ W, Calls Tryd.prog 19 #[.string t1] W fun e w' => (∃ v, e = .returned (.tuple #[v, .int .i64 0, .int .i64 0]) ∧ Kd.R (Kd.slice 9 Kd.string) 84 w' W.heap.size (fun _ => True) v ls) ∧ Below W.heap.size W w') := ⟨fun W => by
        have h := lines_calls' t1 hts W
        rw [hli] at h
        exact h⟩
      clear hli hts
      go_wp2_with (first
        | (go_at_call 21; refine (HJ.out _ S1.out).mono ?_; rintro e w3 ⟨rfl, hB⟩; have S3 := Aside0.mk (S1.out.trans (hB.mono S1.out.size)); clear hB)
        | (go_at_call 19; refine (HT.out _).mono ?_; rintro e w4 ⟨⟨v4, rfl, hR⟩, hB⟩; have S4 := Aside0.mk (S3.out.trans (hB.mono S3.out.size)); clear hB; obtain ⟨A4, c4, rfl, hc4, hC⟩ := Kd.R_reads hR; rw [HN.out] at hC hc4; have C4 := Aside0.mk (And.intro hc4 hC); rw [HN.out]; clear hR hC hc4)
        | (go_at_call 23; refine (HS.out _ _ _ S4.out C4.out.2 C4.out.1).mono ?_; rintro e w5 ⟨rfl, hD⟩; have hB := hD.below; have S5 := Aside0.mk (S4.out.trans (hB.mono S4.out.size)); clear hB hD)
        | (go_at_call 14; refine (awake_calls _).mono ?_; rintro e w7 ⟨rfl, hB⟩; have S7 := Aside0.mk (S5.out.trans (hB.mono S5.out.size)); clear hB))
      go_ret
      exact ⟨rfl, S7.out⟩
  · have HJ1 : Aside0 (Calls Tryd.prog 21 #[.slice A1 m c1] w1 fun e w' => e = .returned (.tuple #[.string s, .int .i64 0]) ∧ Below w1.heap.size w1 w') := ⟨by
      have h := join_calls L A1 c1 w1 C1.out.2 C1.out.1 HSM.out htx
      rw [hj, HM.out] at h
      exact h⟩
    clear hj htx
    rcases htwo with rfl | ⟨rfl, hli, hts⟩
    · go_upto_region 6 with ((go_at_call 21; refine HJ1.out.mono ?_; rintro e w2 ⟨rfl, hB⟩; have S2 := Aside0.mk (S1.out.trans (hB.mono S1.out.size)); clear hB))
      go_wp2_with (first
        | (go_at_call 21; refine (HJ.out _ S2.out).mono ?_; rintro e w3 ⟨rfl, hB⟩; have S3 := Aside0.mk (S2.out.trans (hB.mono S2.out.size)); clear hB)
        | (go_at_call 14; refine (awake_calls _).mono ?_; rintro e w7 ⟨rfl, hB⟩; have S7 := Aside0.mk (S3.out.trans (hB.mono S3.out.size)); clear hB))
      go_ret
      exact ⟨rfl, S7.out⟩
    · have HT : Aside0 (∀ W, Calls Tryd.prog 19 #[.string t1] W fun e w' => (∃ v, e = .returned (.tuple #[v, .int .i64 0, .int .i64 0]) ∧ Kd.R (Kd.slice 9 Kd.string) 84 w' W.heap.size (fun _ => True) v ls) ∧ Below W.heap.size W w') := ⟨fun W => by
        have h := lines_calls' t1 hts W
        rw [hli] at h
        exact h⟩
      clear hli hts
      go_upto_region 6 with ((go_at_call 21; refine HJ1.out.mono ?_; rintro e w2 ⟨rfl, hB⟩; have S2 := Aside0.mk (S1.out.trans (hB.mono S1.out.size)); clear hB))
      go_wp2_with (first
        | (go_at_call 21; refine (HJ.out _ S2.out).mono ?_; rintro e w3 ⟨rfl, hB⟩; have S3 := Aside0.mk (S2.out.trans (hB.mono S2.out.size)); clear hB)
        | (go_at_call 19; refine (HT.out _).mono ?_; rintro e w4 ⟨⟨v4, rfl, hR⟩, hB⟩; have S4 := Aside0.mk (S3.out.trans (hB.mono S3.out.size)); clear hB; obtain ⟨A4, c4, rfl, hc4, hC⟩ := Kd.R_reads hR; rw [HN.out] at hC hc4; have C4 := Aside0.mk (And.intro hc4 hC); rw [HN.out]; clear hR hC hc4)
        | (go_at_call 23; refine (HS.out _ _ _ S4.out C4.out.2 C4.out.1).mono ?_; rintro e w5 ⟨rfl, hD⟩; have hB := hD.below; have S5 := Aside0.mk (S4.out.trans (hB.mono S4.out.size)); clear hB hD)
        | (go_at_call 14; refine (awake_calls _).mono ?_; rintro e w7 ⟨rfl, hB⟩; have S7 := Aside0.mk (S5.out.trans (hB.mono S5.out.size)); clear hB))
      go_ret
      exact ⟨rfl, S7.out⟩
end Go.Proofs.YtiddiboclfpklaaDoor.Tx
