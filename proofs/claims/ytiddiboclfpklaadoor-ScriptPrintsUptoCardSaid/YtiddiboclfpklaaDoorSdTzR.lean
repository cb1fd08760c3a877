import Derived.Test.YtiddiboclfpklaaDoorSdTzQ
import Derived.Test.YtiddiboclfpklaaDoorSdTzP
import Derived.Test.YtiddiboclfpklaaDoorScC
/- Of: a script of the program, plainly; the document's Same, plainly. -/
namespace Go.Proofs.YtiddiboclfpklaaDoor.Tz
open Go.RowKit Go.Proofs.YtiddiboclfpklaaDoorW.PrintWords Go.Proofs.YtiddiboclfpklaaDoor.PScriptReads Go.Proofs.YtiddiboclfpklaaDoor.Tx Go.Proofs.YtiddiboclfpklaaDoor.TzP Go.Proofs.YtiddiboclfpklaaDoor.TzQ
set_option linter.unusedVariables false

/-- An act of the document's, as the program's. -/
def act66 (x : S57) : S66 := ⟨x.f0, x.f1, x.f2, x.f3, x.f4⟩
theorem heap57 : Kd.Heap k57 :=
  Kd.heap_iso _ (Kd.heap_pair (Kd.heap_iso _ (Kd.heap_pair (Kd.heap_int _) (Kd.heap_pair (Kd.heap_int _) (Kd.heap_pair Kd.heap_string (Kd.heap_iso _ (Kd.heap_pair (Kd.heap_int _) (Kd.heap_slice _ (Kd.heap_iso _ (Kd.heap_pair (Kd.heap_int _) Kd.heap_string))))))))) (Kd.heap_pair Kd.heap_bool (Kd.heap_pair Kd.heap_bool (Kd.heap_pair (Kd.heap_int _) (Kd.heap_slice _ (Kd.heap_int _))))))
theorem rd57_at (d : List S57) (x : S57) (r : List S57) (i : Int) (h : i = d.length) : rd_T57 (d ++ x :: r) i = x := by
  subst h
  simp [rd_T57, List.getD_eq_getElem?_getD]
theorem of_loop (g0 g1 g2 g3 g4 g5 : Int) (B : ByteArray) (X : List S57) (hX : X.length ≤ 16777216) : ∀ (l d : List S57) (k : Nat), X = d ++ l → l.length < k →
    instarlaw40_Of.l0 k (d.length : Int) g0 g1 g2 g3 g4 g5 B X g0 g1 g2 g3 g4 g5 B (d.map act66) = some (g0, g1, g2, g3, g4, g5, B, X.map act66)
  | [], d, k, h1, hk => by
    obtain ⟨k, rfl⟩ : ∃ k', k = k' + 1 := ⟨k - 1, by simp at hk; omega⟩
    rw [List.append_nil] at h1
    subst h1
    rw [instarlaw40_Of.l0, if_neg (by omega)]
  | x :: l, d, k, h1, hk => by
    simp only [List.length_cons] at hk
    obtain ⟨k, rfl⟩ : ∃ k', k = k' + 1 := ⟨k - 1, by omega⟩
    have hd : d.length < X.length := by rw [h1]; simp
    have hx : rd_T57 X (d.length : Int) = x := by rw [h1]; exact rd57_at _ _ _ _ rfl
    rw [instarlaw40_Of.l0, if_pos (by omega), if_pos (by omega), if_pos (by rw [List.length_map]; omega), hx, IntWalk.wrap64_in _ (by omega)]
    have hrec := of_loop g0 g1 g2 g3 g4 g5 B X hX l (d ++ [x]) k (by rw [h1, List.append_assoc]; rfl) (by omega)
    rw [List.length_append, List.length_singleton, Int.natCast_add, List.map_append] at hrec
    exact hrec
theorem of_calls57 (g0 g1 g2 g3 g4 g5 : Int) (B : ByteArray) (ls : List S57) (A : Option Addr) (c : Nat) (w : World) (hr : Kd.C k57 w A ls.length ls) (hc : ls.length ≤ c) (hl : ls.length ≤ 16777216) :
    Calls Tryd.prog 27 #[.agg #[.int .i64 g0, .int .i64 g1, .int .i64 g2, .int .i64 g3, .int .i64 g4, .int .i64 g5, .string B, .slice A ls.length c]] w fun e w' =>
      ∃ A2 c2, e = .returned (.agg #[.int .i64 g0, .int .i64 g1, .int .i64 g2, .int .i64 g3, .int .i64 g4, .int .i64 g5, .string B, .slice A2 (ls.map act66).length c2]) ∧ Kd.C k66 w' A2 (ls.map act66).length (ls.map act66) ∧ Below w.heap.size w w' := by
  refine (instarlaw40_Of.calls (ls.length + 1) g0 g1 g2 g3 g4 g5 B (fun k => k < w.heap.size) A c ls g0 g1 g2 g3 g4 g5 B (ls.map act66) w (Kd.V_mk hc (Kd.C_F heap57 hr)) ?_).mono ?_
  · exact of_loop g0 g1 g2 g3 g4 g5 B ls hl ls [] _ rfl (by omega)
  · rintro e w' ⟨v, rfl, hv, hb⟩
    obtain ⟨A2, c2, rfl, _, h⟩ := Kd.N_reads hv
    exact ⟨A2, c2, rfl, h, hb⟩

theorem eqV2_loop (X Y : List S107) (hX : X.length ≤ 16777216) (hl : X.length = Y.length) (f0 f1 : Int) : ∀ (l m d e : List S107) (k : Nat), X = d ++ l → Y = e ++ m → d.length = e.length → l.length < k → instarref14_Same.l0 k (d.length : Int) f0 X f1 Y = some (eqV l m)
  | [], m, d, e, k, h1, h2, h3, hk => by
    obtain ⟨k, rfl⟩ : ∃ k', k = k' + 1 := ⟨k - 1, by simp at hk; omega⟩
    have hm : m = [] := by
      rw [h1, h2, List.append_nil, List.length_append] at hl
      exact List.eq_nil_of_length_eq_zero (by omega)
    subst hm
    rw [List.append_nil] at h1
    subst h1
    rw [instarref14_Same.l0, if_neg (by omega)]
    rfl
  | x :: l, [], d, e, k, h1, h2, h3, hk => by
    rw [h1, h2, List.append_nil, List.length_append, List.length_cons] at hl
    omega
  | x :: l, y :: m, d, e, k, h1, h2, h3, hk => by
    simp only [List.length_cons] at hk
    obtain ⟨k, rfl⟩ : ∃ k', k = k' + 1 := ⟨k - 1, by omega⟩
    have hd : d.length < X.length := by rw [h1]; simp
    have hx : rd_T107 X (d.length : Int) = x := by rw [h1]; exact rd_T_at _ _ _ _ rfl
    have hy : rd_T107 Y (d.length : Int) = y := by rw [h2]; exact rd_T_at _ _ _ _ (by omega)
    have hrec := eqV2_loop X Y hX hl f0 f1 l m (d ++ [x]) (e ++ [y]) k (by rw [h1, List.append_assoc]; rfl) (by rw [h2, List.append_assoc]; rfl) (by simp [h3]) (by omega)
    rw [List.length_append, List.length_singleton, Int.natCast_add] at hrec
    rw [instarref14_Same.l0, if_pos (by omega), if_pos (by omega), if_pos (by omega), hx, hy, IntWalk.wrap64_in _ (by omega), eqV]
    cases h4 : (x.f0 == y.f0) with
    | false => rw [if_pos (by simp)]; rfl
    | true =>
      cases h5 : (x.f1.toList == y.f1.toList) with
      | false => rw [if_pos (by simp)]; rfl
      | true =>
        rw [if_neg (by simp), Bool.true_and, Bool.true_and]
        exact hrec
theorem eqV2_eval (f0 f1 : Int) (X Y : List S107) (k : Nat) (hX : X.length ≤ 16777216) (hk : X.length + 1 < k) : instarref14_Same.f k f0 X f1 Y = some (decide (f0 = f1) && eqV X Y) := by
  obtain ⟨k, rfl⟩ : ∃ k', k = k' + 1 := ⟨k - 1, by omega⟩
  rw [instarref14_Same.f]
  by_cases h0 : f0 = f1
  · rw [if_pos h0, decide_eq_true h0, Bool.true_and, instarref14_Same.j0]
    by_cases h : X.length = Y.length
    · rw [if_neg (by simp [h])]
      exact eqV2_loop X Y hX h f0 f1 X Y [] [] k rfl rfl rfl (by omega)
    · rw [if_pos (by simp; omega), eqV_len X Y h]
  · rw [if_neg h0, decide_eq_false h0, Bool.false_and, instarref14_Same.j0, if_pos rfl]
theorem eqI2_loop (X Y : List Int) (hX : X.length ≤ 16777216) (hl : X.length = Y.length) : ∀ (l m d e : List Int) (k : Nat), X = d ++ l → Y = e ++ m → d.length = e.length → l.length < k → instarref01_Same.l0 k X Y (d.length : Int) = some (eqI l m)
  | [], m, d, e, k, h1, h2, h3, hk => by
    obtain ⟨k, rfl⟩ : ∃ k', k = k' + 1 := ⟨k - 1, by simp at hk; omega⟩
    have hm : m = [] := by
      rw [h1, h2, List.append_nil, List.length_append] at hl
      exact List.eq_nil_of_length_eq_zero (by omega)
    subst hm
    rw [List.append_nil] at h1
    subst h1
    rw [instarref01_Same.l0, if_neg (by omega)]
    rfl
  | x :: l, [], d, e, k, h1, h2, h3, hk => by
    rw [h1, h2, List.append_nil, List.length_append, List.length_cons] at hl
    omega
  | x :: l, y :: m, d, e, k, h1, h2, h3, hk => by
    simp only [List.length_cons] at hk
    obtain ⟨k, rfl⟩ : ∃ k', k = k' + 1 := ⟨k - 1, by omega⟩
    have hd : d.length < X.length := by rw [h1]; simp
    have hx : rd X (d.length : Int) = x := by rw [h1]; exact rd_at _ _ _ _ rfl
    have hy : rd Y (d.length : Int) = y := by rw [h2]; exact rd_at _ _ _ _ (by omega)
    have hrec := eqI2_loop X Y hX hl l m (d ++ [x]) (e ++ [y]) k (by rw [h1, List.append_assoc]; rfl) (by rw [h2, List.append_assoc]; rfl) (by simp [h3]) (by omega)
    rw [List.length_append, List.length_singleton, Int.natCast_add] at hrec
    rw [instarref01_Same.l0, if_pos (by omega), if_pos (by omega), if_pos (by omega), hx, hy, IntWalk.wrap64_in _ (by omega), eqI]
    by_cases h4 : x = y
    · rw [if_pos h4, decide_eq_true h4, Bool.true_and]
      exact hrec
    · rw [if_neg h4, decide_eq_false h4, Bool.false_and]
theorem eqI2_eval (X Y : List Int) (k : Nat) (hX : X.length ≤ 16777216) (hk : X.length < k) : instarref01_Same.f k X Y = some (eqI X Y) := by
  rw [instarref01_Same.f]
  by_cases h : X.length = Y.length
  · rw [if_pos (by omega)]
    exact eqI2_loop X Y hX h X Y [] [] k rfl rfl rfl hk
  · rw [if_neg (by omega), eqI_len X Y h]
theorem same40_eval (a b : S57) (k : Nat) (h1 : a.f0.f3.f1.length ≤ 16777216) (hk : a.f0.f3.f1.length + 1 < k) (h2 : a.f4.length ≤ 16777216) (hk2 : a.f4.length < k) :
    instarref40_Same.f k a.f0.f0 a.f0.f1 a.f0.f2 a.f0.f3.f0 a.f0.f3.f1 a.f1 a.f2 a.f3 a.f4 b.f0.f0 b.f0.f1 b.f0.f2 b.f0.f3.f0 b.f0.f3.f1 b.f1 b.f2 b.f3 b.f4 = some (sameA (act66 a) (act66 b)) := by
  rw [instarref40_Same.f, eqV2_eval _ _ _ _ k h1 hk, Option.bind_some, eqI2_eval _ _ k h2 hk2, Option.bind_some]
  show _ = some ((decide (a.f0.f0 = b.f0.f0) && (decide (a.f0.f1 = b.f0.f1) && (decide (a.f0.f2.toList = b.f0.f2.toList) && (decide (a.f0.f3.f0 = b.f0.f3.f0) && eqV a.f0.f3.f1 b.f0.f3.f1)))) && ((a.f1 == b.f1) && ((a.f2 == b.f2) && (decide (a.f3 = b.f3) && eqI a.f4 b.f4))))
  by_cases c1 : a.f0.f0 = b.f0.f0
  · rw [if_pos c1, decide_eq_true c1, Bool.true_and]
    by_cases c2 : a.f0.f1 = b.f0.f1
    · rw [if_pos c2, decide_eq_true c2, Bool.true_and]
      by_cases c3 : a.f0.f2.toList = b.f0.f2.toList
      · rw [if_pos c3, decide_eq_true c3, Bool.true_and]
        cases (decide (a.f0.f3.f0 = b.f0.f3.f0) && eqV a.f0.f3.f1 b.f0.f3.f1) with
        | false => rw [if_neg Bool.false_ne_true, Bool.false_and]
        | true =>
          rw [if_pos rfl, Bool.true_and]
          cases (a.f1 == b.f1) with
          | false => rw [if_neg Bool.false_ne_true, Bool.false_and]
          | true =>
            rw [if_pos rfl, Bool.true_and]
            cases (a.f2 == b.f2) with
            | false => rw [if_neg Bool.false_ne_true, Bool.false_and]
            | true =>
              rw [if_pos rfl, Bool.true_and]
              by_cases c4 : a.f3 = b.f3
              · rw [if_pos c4, decide_eq_true c4, Bool.true_and]
              · rw [if_neg c4, decide_eq_false c4, Bool.false_and]
      · rw [if_neg c3, decide_eq_false c3, Bool.false_and, Bool.false_and]
    · rw [if_neg c2, decide_eq_false c2, Bool.false_and, Bool.false_and]
  · rw [if_neg c1, decide_eq_false c1, Bool.false_and, Bool.false_and]
/-- An act's value: the document's. -/
def actV57 (a : S57) (A4 : Option Addr) (c4 : Nat) (A8 : Option Addr) (c8 : Nat) : Value := .agg #[.int .i64 a.f0.f0, .int .i64 a.f0.f1, .string a.f0.f2, .int .i64 a.f0.f3.f0, .slice A4 a.f0.f3.f1.length c4, .bool a.f1, .bool a.f2, .int .i64 a.f3, .slice A8 a.f4.length c8]
theorem same_calls57 (a b : S57) (A4 : Option Addr) (c4 : Nat) (A8 : Option Addr) (c8 : Nat) (B4 : Option Addr) (d4 : Nat) (B8 : Option Addr) (d8 : Nat) (w : World)
    (h4 : Kd.C k107 w A4 a.f0.f3.f1.length a.f0.f3.f1) (l4 : a.f0.f3.f1.length ≤ c4) (h8 : Kd.C (Kd.int .u32) w A8 a.f4.length a.f4) (l8 : a.f4.length ≤ c8)
    (g4 : Kd.C k107 w B4 b.f0.f3.f1.length b.f0.f3.f1) (m4 : b.f0.f3.f1.length ≤ d4) (g8 : Kd.C (Kd.int .u32) w B8 b.f4.length b.f4) (m8 : b.f4.length ≤ d8)
    (h1 : a.f0.f3.f1.length ≤ 16777216) (h2 : a.f4.length ≤ 16777216) :
    Calls Tryd.prog 32 #[actV57 a A4 c4 A8 c8, actV57 b B4 d4 B8 d8] w fun e w' => e = .returned (.bool (sameA (act66 a) (act66 b))) ∧ Below w.heap.size w w' :=
  instarref40_Same.calls 16777219 _ _ _ _ A4 c4 _ _ _ _ A8 c8 _ _ _ _ _ B4 d4 _ _ _ _ B8 d8 _ _ w h4 l4 h8 l8 g4 m4 g8 m8 (same40_eval a b 16777219 h1 (by omega) h2 (by omega))
end Go.Proofs.YtiddiboclfpklaaDoor.Tz
