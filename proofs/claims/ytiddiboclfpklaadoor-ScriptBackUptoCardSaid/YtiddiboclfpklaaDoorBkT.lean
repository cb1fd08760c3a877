/- Lemmas that the claim's theorem uses. -/
import Derived.Test.YtiddiboclfpklaaDoorBkR
import Derived.Test.YtiddiboclfpklaaDoorBkS
import Derived.Test.YtiddiboclfpklaaDoorBkI
import Derived.Test.YtiddiboclfpklaaDoorBkG
import Derived.Test.YtiddiboclfpklaaDoorBkQ
import Derived.Test.YtiddiboclfpklaaDoorProg
import Derived.Below
import Derived.Deep.Draws
import Derived.Deep.AppendLies
import Derived.Maps.AppendAt
import Derived.OwnWalk
import Derived.Laws.BytesArg
import Derived.Laws.MakeOwn
import Derived.Laws.OwnMore
import Derived.Deep.OwnRows
import Derived.Tactics
import Derived.Lib.ConvBytes
import Derived.Laws.Slices
import Derived.WalkKit
import Derived.KernelRfl
import Derived.RowKit3
import Derived.Deep.LoopGhost
import Derived.Deep.QuietTactic
import Derived.BigQuiet
import Derived.WideLaws
import Derived.Deep.DeepCutAuto
import Derived.Deep.CutBlock
import Derived.Deep.RegionHeld3
import Derived.Laws.Rows
import Derived.Lib.AppendStr
import Derived.ArgAppend
import Derived.Laws.IdiomCopy
import Derived.OrdersHeld
import Derived.Laws.BitsLemmas
import Derived.RowKit
import Derived.Test.YtiddiboclfpklaaDoorBkA
import Derived.Test.YtiddiboclfpklaaDoorBkB
import Derived.Test.YtiddiboclfpklaaDoorBkC
import Derived.Test.YtiddiboclfpklaaDoorBkO
import Derived.Test.YtiddiboclfpklaaDoorBkF
namespace Go.Proofs.YtiddiboclfpklaaDoor.Tz
open Go.RowKit Go.Proofs.YtiddiboclfpklaaDoorW.PrintWords Go.Proofs.YtiddiboclfpklaaDoor.PScriptReads Go.Proofs.YtiddiboclfpklaaDoor.Tx Go.Proofs.YtiddiboclfpklaaDoor.TzP Go.Proofs.YtiddiboclfpklaaDoor.TzQ
set_option linter.unusedVariables false
/-- An act of the document's, as the program's. -/
def act66 (x : S57) : S66 := ⟨x.f0, x.f1, x.f2, x.f3, x.f4⟩
theorem heap57 : Kd.Heap k57 :=
  Kd.heap_iso _ (Kd.heap_pair (Kd.heap_iso _ (Kd.heap_pair (Kd.heap_int _) (Kd.heap_pair (Kd.heap_int _) (Kd.heap_pair Kd.heap_string (Kd.heap_iso _ (Kd.heap_pair (Kd.heap_int _) (Kd.heap_slice _ (Kd.heap_iso _ (Kd.heap_pair (Kd.heap_int _) Kd.heap_string))))))))) (Kd.heap_pair Kd.heap_bool (Kd.heap_pair Kd.heap_bool (Kd.heap_pair (Kd.heap_int _) (Kd.heap_slice _ (Kd.heap_int _))))))
theorem rd57_at (d : List S57) (x : S57) (r : List S57) (i : Int) (h : i = d.length) : rd_T57 (d ++ x :: r) i = x := by
  subst h
  simp [rd_T57, List.getD_eq_getElem?_getD]
theorem of_loop (g0 g1 g2 g3 g4 g5 : Int) (B : ByteArray) (X : List S57) (hX : X.length ≤ 16777216) : ∀ (l d : List S57) (k : Nat), X = d ++ l → l.length < k →
    instarlaw40_Of.l0 k (d.length : Int) g0 g1 g2 g3 g4 g5 B X g0 g1 g2 g3 g4 g5 B (d.map act66) = some (g0, g1, g2, g3, g4, g5, B, X.map act66)
  | [], d, k, h1, hk => by
    obtain ⟨k, rfl⟩ : ∃ k', k = k' + 1 := ⟨k - 1, by simp at hk; omega⟩
    rw [List.append_nil] at h1
    subst h1
    rw [instarlaw40_Of.l0, if_neg (by omega)]
  | x :: l, d, k, h1, hk => by
    simp only [List.length_cons] at hk
    obtain ⟨k, rfl⟩ : ∃ k', k = k' + 1 := ⟨k - 1, by omega⟩
    have hd : d.length < X.length := by rw [h1]; simp
    have hx : rd_T57 X (d.length : Int) = x := by rw [h1]; exact rd57_at _ _ _ _ rfl
    rw [instarlaw40_Of.l0, if_pos (by omega), if_pos (by omega), if_pos (by rw [List.length_map]; omega), hx, IntWalk.wrap64_in _ (by omega)]
    have hrec := of_loop g0 g1 g2 g3 g4 g5 B X hX l (d ++ [x]) k (by rw [h1, List.append_assoc]; rfl) (by omega)
    rw [List.length_append, List.length_singleton, Int.natCast_add, List.map_append] at hrec
    exact hrec
theorem of_calls57 (g0 g1 g2 g3 g4 g5 : Int) (B : ByteArray) (ls : List S57) (A : Option Addr) (c : Nat) (w : World) (hr : Kd.C k57 w A ls.length ls) (hc : ls.length ≤ c) (hl : ls.length ≤ 16777216) :
    Calls Tryd.prog 27 #[.agg #[.int .i64 g0, .int .i64 g1, .int .i64 g2, .int .i64 g3, .int .i64 g4, .int .i64 g5, .string B, .slice A ls.length c]] w fun e w' =>
      ∃ A2 c2, e = .returned (.agg #[.int .i64 g0, .int .i64 g1, .int .i64 g2, .int .i64 g3, .int .i64 g4, .int .i64 g5, .string B, .slice A2 (ls.map act66).length c2]) ∧ Kd.C k66 w' A2 (ls.map act66).length (ls.map act66) ∧ Below w.heap.size w w' := by
  refine (instarlaw40_Of.calls (ls.length + 1) g0 g1 g2 g3 g4 g5 B (fun k => k < w.heap.size) A c ls g0 g1 g2 g3 g4 g5 B (ls.map act66) w (Kd.V_mk hc (Kd.C_F heap57 hr)) ?_).mono ?_
  · exact of_loop g0 g1 g2 g3 g4 g5 B ls hl ls [] _ rfl (by omega)
  · rintro e w' ⟨v, rfl, hv, hb⟩
    obtain ⟨A2, c2, rfl, _, h⟩ := Kd.N_reads hv
    exact ⟨A2, c2, rfl, h, hb⟩
theorem eqV2_loop (X Y : List S107) (hX : X.length ≤ 16777216) (hl : X.length = Y.length) (f0 f1 : Int) : ∀ (l m d e : List S107) (k : Nat), X = d ++ l → Y = e ++ m → d.length = e.length → l.length < k → instarref14_Same.l0 k (d.length : Int) f0 X f1 Y = some (eqV l m)
  | [], m, d, e, k, h1, h2, h3, hk => by
    obtain ⟨k, rfl⟩ : ∃ k', k = k' + 1 := ⟨k - 1, by simp at hk; omega⟩
    have hm : m = [] := by
      rw [h1, h2, List.append_nil, List.length_append] at hl
      exact List.eq_nil_of_length_eq_zero (by omega)
    subst hm
    rw [List.append_nil] at h1
    subst h1
    rw [instarref14_Same.l0, if_neg (by omega)]
    rfl
  | x :: l, [], d, e, k, h1, h2, h3, hk => by
    rw [h1, h2, List.append_nil, List.length_append, List.length_cons] at hl
    omega
  | x :: l, y :: m, d, e, k, h1, h2, h3, hk => by
    simp only [List.length_cons] at hk
    obtain ⟨k, rfl⟩ : ∃ k', k = k' + 1 := ⟨k - 1, by omega⟩
    have hd : d.length < X.length := by rw [h1]; simp
    have hx : rd_T107 X (d.length : Int) = x := by rw [h1]; exact rd_T_at _ _ _ _ rfl
    have hy : rd_T107 Y (d.length : Int) = y := by rw [h2]; exact rd_T_at _ _ _ _ (by omega)
    have hrec := eqV2_loop X Y hX hl f0 f1 l m (d ++ [x]) (e ++ [y]) k (by rw [h1, List.append_assoc]; rfl) (by rw [h2, List.append_assoc]; rfl) (by simp [h3]) (by omega)
    rw [List.length_append, List.length_singleton, Int.natCast_add] at hrec
    rw [instarref14_Same.l0, if_pos (by omega), if_pos (by omega), if_pos (by omega), hx, hy, IntWalk.wrap64_in _ (by omega), eqV]
    cases h4 : (x.f0 == y.f0) with
    | false => rw [if_pos (by simp)]; rfl
    | true =>
      cases h5 : (x.f1.toList == y.f1.toList) with
      | false => rw [if_pos (by simp)]; rfl
      | true =>
        rw [if_neg (by simp), Bool.true_and, Bool.true_and]
        exact hrec
theorem eqV2_eval (f0 f1 : Int) (X Y : List S107) (k : Nat) (hX : X.length ≤ 16777216) (hk : X.length + 1 < k) : instarref14_Same.f k f0 X f1 Y = some (decide (f0 = f1) && eqV X Y) := by
  obtain ⟨k, rfl⟩ : ∃ k', k = k' + 1 := ⟨k - 1, by omega⟩
  rw [instarref14_Same.f]
  by_cases h0 : f0 = f1
  · rw [if_pos h0, decide_eq_true h0, Bool.true_and, instarref14_Same.j0]
    by_cases h : X.length = Y.length
    · rw [if_neg (by simp [h])]
      exact eqV2_loop X Y hX h f0 f1 X Y [] [] k rfl rfl rfl (by omega)
    · rw [if_pos (by simp; omega), eqV_len X Y h]
  · rw [if_neg h0, decide_eq_false h0, Bool.false_and, instarref14_Same.j0, if_pos rfl]
theorem eqI2_loop (X Y : List Int) (hX : X.length ≤ 16777216) (hl : X.length = Y.length) : ∀ (l m d e : List Int) (k : Nat), X = d ++ l → Y = e ++ m → d.length = e.length → l.length < k → instarref01_Same.l0 k X Y (d.length : Int) = some (eqI l m)
  | [], m, d, e, k, h1, h2, h3, hk => by
    obtain ⟨k, rfl⟩ : ∃ k', k = k' + 1 := ⟨k - 1, by simp at hk; omega⟩
    have hm : m = [] := by
      rw [h1, h2, List.append_nil, List.length_append] at hl
      exact List.eq_nil_of_length_eq_zero (by omega)
    subst hm
    rw [List.append_nil] at h1
    subst h1
    rw [instarref01_Same.l0, if_neg (by omega)]
    rfl
  | x :: l, [], d, e, k, h1, h2, h3, hk => by
    rw [h1, h2, List.append_nil, List.length_append, List.length_cons] at hl
    omega
  | x :: l, y :: m, d, e, k, h1, h2, h3, hk => by
    simp only [List.length_cons] at hk
    obtain ⟨k, rfl⟩ : ∃ k', k = k' + 1 := ⟨k - 1, by omega⟩
    have hd : d.length < X.length := by rw [h1]; simp
    have hx : rd X (d.length : Int) = x := by rw [h1]; exact rd_at _ _ _ _ rfl
    have hy : rd Y (d.length : Int) = y := by rw [h2]; exact rd_at _ _ _ _ (by omega)
    have hrec := eqI2_loop X Y hX hl l m (d ++ [x]) (e ++ [y]) k (by rw [h1, List.append_assoc]; rfl) (by rw [h2, List.append_assoc]; rfl) (by simp [h3]) (by omega)
    rw [List.length_append, List.length_singleton, Int.natCast_add] at hrec
    rw [instarref01_Same.l0, if_pos (by omega), if_pos (by omega), if_pos (by omega), hx, hy, IntWalk.wrap64_in _ (by omega), eqI]
    by_cases h4 : x = y
    · rw [if_pos h4, decide_eq_true h4, Bool.true_and]
      exact hrec
    · rw [if_neg h4, decide_eq_false h4, Bool.false_and]
theorem eqI2_eval (X Y : List Int) (k : Nat) (hX : X.length ≤ 16777216) (hk : X.length < k) : instarref01_Same.f k X Y = some (eqI X Y) := by
  rw [instarref01_Same.f]
  by_cases h : X.length = Y.length
  · rw [if_pos (by omega)]
    exact eqI2_loop X Y hX h X Y [] [] k rfl rfl rfl hk
  · rw [if_neg (by omega), eqI_len X Y h]
theorem same40_eval (a b : S57) (k : Nat) (h1 : a.f0.f3.f1.length ≤ 16777216) (hk : a.f0.f3.f1.length + 1 < k) (h2 : a.f4.length ≤ 16777216) (hk2 : a.f4.length < k) :
    instarref40_Same.f k a.f0.f0 a.f0.f1 a.f0.f2 a.f0.f3.f0 a.f0.f3.f1 a.f1 a.f2 a.f3 a.f4 b.f0.f0 b.f0.f1 b.f0.f2 b.f0.f3.f0 b.f0.f3.f1 b.f1 b.f2 b.f3 b.f4 = some (sameA (act66 a) (act66 b)) := by
  rw [instarref40_Same.f, eqV2_eval _ _ _ _ k h1 hk, Option.bind_some, eqI2_eval _ _ k h2 hk2, Option.bind_some]
  show _ = some ((decide (a.f0.f0 = b.f0.f0) && (decide (a.f0.f1 = b.f0.f1) && (decide (a.f0.f2.toList = b.f0.f2.toList) && (decide (a.f0.f3.f0 = b.f0.f3.f0) && eqV a.f0.f3.f1 b.f0.f3.f1)))) && ((a.f1 == b.f1) && ((a.f2 == b.f2) && (decide (a.f3 = b.f3) && eqI a.f4 b.f4))))
  by_cases c1 : a.f0.f0 = b.f0.f0
  · rw [if_pos c1, decide_eq_true c1, Bool.true_and]
    by_cases c2 : a.f0.f1 = b.f0.f1
    · rw [if_pos c2, decide_eq_true c2, Bool.true_and]
      by_cases c3 : a.f0.f2.toList = b.f0.f2.toList
      · rw [if_pos c3, decide_eq_true c3, Bool.true_and]
        cases (decide (a.f0.f3.f0 = b.f0.f3.f0) && eqV a.f0.f3.f1 b.f0.f3.f1) with
        | false => rw [if_neg Bool.false_ne_true, Bool.false_and]
        | true =>
          rw [if_pos rfl, Bool.true_and]
          cases (a.f1 == b.f1) with
          | false => rw [if_neg Bool.false_ne_true, Bool.false_and]
          | true =>
            rw [if_pos rfl, Bool.true_and]
            cases (a.f2 == b.f2) with
            | false => rw [if_neg Bool.false_ne_true, Bool.false_and]
            | true =>
              rw [if_pos rfl, Bool.true_and]
              by_cases c4 : a.f3 = b.f3
              · rw [if_pos c4, decide_eq_true c4, Bool.true_and]
              · rw [if_neg c4, decide_eq_false c4, Bool.false_and]
      · rw [if_neg c3, decide_eq_false c3, Bool.false_and, Bool.false_and]
    · rw [if_neg c2, decide_eq_false c2, Bool.false_and, Bool.false_and]
  · rw [if_neg c1, decide_eq_false c1, Bool.false_and, Bool.false_and]
/-- An act's value: the document's. -/
def actV57 (a : S57) (A4 : Option Addr) (c4 : Nat) (A8 : Option Addr) (c8 : Nat) : Value := .agg #[.int .i64 a.f0.f0, .int .i64 a.f0.f1, .string a.f0.f2, .int .i64 a.f0.f3.f0, .slice A4 a.f0.f3.f1.length c4, .bool a.f1, .bool a.f2, .int .i64 a.f3, .slice A8 a.f4.length c8]
theorem same_calls57 (a b : S57) (A4 : Option Addr) (c4 : Nat) (A8 : Option Addr) (c8 : Nat) (B4 : Option Addr) (d4 : Nat) (B8 : Option Addr) (d8 : Nat) (w : World)
    (h4 : Kd.C k107 w A4 a.f0.f3.f1.length a.f0.f3.f1) (l4 : a.f0.f3.f1.length ≤ c4) (h8 : Kd.C (Kd.int .u32) w A8 a.f4.length a.f4) (l8 : a.f4.length ≤ c8)
    (g4 : Kd.C k107 w B4 b.f0.f3.f1.length b.f0.f3.f1) (m4 : b.f0.f3.f1.length ≤ d4) (g8 : Kd.C (Kd.int .u32) w B8 b.f4.length b.f4) (m8 : b.f4.length ≤ d8)
    (h1 : a.f0.f3.f1.length ≤ 16777216) (h2 : a.f4.length ≤ 16777216) :
    Calls Tryd.prog 32 #[actV57 a A4 c4 A8 c8, actV57 b B4 d4 B8 d8] w fun e w' => e = .returned (.bool (sameA (act66 a) (act66 b))) ∧ Below w.heap.size w w' :=
  instarref40_Same.calls 16777219 _ _ _ _ A4 c4 _ _ _ _ A8 c8 _ _ _ _ _ B4 d4 _ _ _ _ B8 d8 _ _ w h4 l4 h8 l8 g4 m4 g8 m8 (same40_eval a b 16777219 h1 (by omega) h2 (by omega))
end Go.Proofs.YtiddiboclfpklaaDoor.Tz
namespace Go.Proofs.YtiddiboclfpklaaDoor.PScriptReads
open Go.RowKit Go.Proofs.YtiddiboclfpklaaDoorW.PrintWords Go.Proofs.YtiddiboclfpklaaDoorW.PrintLast Go.Proofs.YtiddiboclfpklaaDoorW.PrintMore
attribute [local go_sem] min2_int min_two
set_option linter.unusedVariables false
set_option linter.unusedSimpArgs false
theorem eqA46 (d : Nat) (w : World) (x0 y0 : Int) (x1 y1 : Int) (x2 y2 : Int) (x3 y3 : Int) (x4 y4 : Int) (x5 y5 : Int) :
    (Op.equalIn (d + 2) 46 (.agg #[.int .i64 x0, .int .i64 x1, .int .i64 x2, .int .i64 x3, .int .i64 x4, .int .i64 x5]) (.agg #[.int .i64 y0, .int .i64 y1, .int .i64 y2, .int .i64 y3, .int .i64 y4, .int .i64 y5])).run Tryd.prog w = .ok (x0 == y0 && (x1 == y1 && (x2 == y2 && (x3 == y3 && (x4 == y4 && (x5 == y5)))))) w := by
  refine eqA_of Tryd.underlying46 (by kernel_rfl) ?_
  refine eqf_cons (by rfl) (by go_simp; rfl) (by go_simp; rfl) (by go_simp) ?_
  refine eqf_cons (by rfl) (by go_simp; rfl) (by go_simp; rfl) (by go_simp) ?_
  refine eqf_cons (by rfl) (by go_simp; rfl) (by go_simp; rfl) (by go_simp) ?_
  refine eqf_cons (by rfl) (by go_simp; rfl) (by go_simp; rfl) (by go_simp) ?_
  refine eqf_cons (by rfl) (by go_simp; rfl) (by go_simp; rfl) (by go_simp) ?_
  exact eqf_last (by rfl) (by go_simp; rfl) (by go_simp; rfl) (by go_simp)
end Go.Proofs.YtiddiboclfpklaaDoor.PScriptReads
namespace Go.Proofs.YtiddiboclfpklaaDoor.Tz
open Go.RowKit Go.Proofs.YtiddiboclfpklaaDoorW.PrintWords Go.Proofs.YtiddiboclfpklaaDoor.PScriptReads Go.Proofs.YtiddiboclfpklaaDoor.Tx Go.Proofs.YtiddiboclfpklaaDoor.TyK
set_option linter.unusedVariables false
/-- An act of the program's, as the document's. -/
def act57 (x : S66) : S57 := ⟨x.f0, x.f1, x.f2, x.f3, x.f4⟩
theorem heap66 : Kd.Heap k66 :=
  Kd.heap_iso _ (Kd.heap_pair (Kd.heap_iso _ (Kd.heap_pair (Kd.heap_int _) (Kd.heap_pair (Kd.heap_int _) (Kd.heap_pair Kd.heap_string (Kd.heap_iso _ (Kd.heap_pair (Kd.heap_int _) (Kd.heap_slice _ (Kd.heap_iso _ (Kd.heap_pair (Kd.heap_int _) Kd.heap_string))))))))) (Kd.heap_pair Kd.heap_bool (Kd.heap_pair Kd.heap_bool (Kd.heap_pair (Kd.heap_int _) (Kd.heap_slice _ (Kd.heap_int _))))))
theorem rd66_at (d : List S66) (x : S66) (r : List S66) (i : Int) (h : i = d.length) : rd_T66 (d ++ x :: r) i = x := by
  subst h
  simp [rd_T66, List.getD_eq_getElem?_getD]
theorem back_loop (g0 g1 g2 g3 g4 g5 : Int) (B : ByteArray) (X : List S66) (hX : X.length ≤ 16777216) : ∀ (l d : List S66) (k : Nat), X = d ++ l → l.length < k →
    instarlaw40_back.l0 k (d.length : Int) g0 g1 g2 g3 g4 g5 B X g0 g1 g2 g3 g4 g5 B (d.map act57) = some (g0, g1, g2, g3, g4, g5, B, X.map act57)
  | [], d, k, h1, hk => by
    obtain ⟨k, rfl⟩ : ∃ k', k = k' + 1 := ⟨k - 1, by simp at hk; omega⟩
    rw [List.append_nil] at h1
    subst h1
    rw [instarlaw40_back.l0, if_neg (by omega)]
  | x :: l, d, k, h1, hk => by
    simp only [List.length_cons] at hk
    obtain ⟨k, rfl⟩ : ∃ k', k = k' + 1 := ⟨k - 1, by omega⟩
    have hd : d.length < X.length := by rw [h1]; simp
    have hx : rd_T66 X (d.length : Int) = x := by rw [h1]; exact rd66_at _ _ _ _ rfl
    rw [instarlaw40_back.l0, if_pos (by omega), if_pos (by omega), if_pos (by rw [List.length_map]; omega), hx, IntWalk.wrap64_in _ (by omega)]
    have hrec := back_loop g0 g1 g2 g3 g4 g5 B X hX l (d ++ [x]) k (by rw [h1, List.append_assoc]; rfl) (by omega)
    rw [List.length_append, List.length_singleton, Int.natCast_add, List.map_append] at hrec
    exact hrec
theorem back_calls (g0 g1 g2 g3 g4 g5 : Int) (B : ByteArray) (ls : List S66) (A : Option Addr) (c : Nat) (w : World) (hr : Kd.C k66 w A ls.length ls) (hc : ls.length ≤ c) (hl : ls.length ≤ 16777216) :
    Calls Tryd.prog 36 #[.agg #[.int .i64 g0, .int .i64 g1, .int .i64 g2, .int .i64 g3, .int .i64 g4, .int .i64 g5, .string B, .slice A ls.length c]] w fun e w' =>
      ∃ A2 c2, e = .returned (.agg #[.int .i64 g0, .int .i64 g1, .int .i64 g2, .int .i64 g3, .int .i64 g4, .int .i64 g5, .string B, .slice A2 (ls.map act57).length c2]) ∧ (ls.map act57).length ≤ c2 ∧ Kd.C k57 w' A2 (ls.map act57).length (ls.map act57) ∧ Below w.heap.size w w' := by
  refine (instarlaw40_back.calls (ls.length + 1) g0 g1 g2 g3 g4 g5 B (fun k => k < w.heap.size) A c ls g0 g1 g2 g3 g4 g5 B (ls.map act57) w (Kd.V_mk hc (Kd.C_F heap66 hr)) ?_).mono ?_
  · exact back_loop g0 g1 g2 g3 g4 g5 B ls hl ls [] _ rfl (by omega)
  · rintro e w' ⟨v, rfl, hv, hb⟩
    obtain ⟨A2, c2, rfl, h2, h⟩ := Kd.N_reads hv
    exact ⟨A2, c2, rfl, h2, h, hb⟩
theorem eqV_self : ∀ l : List S107, eqV l l = true
  | [] => rfl
  | x :: l => by rw [eqV, eqV_self l]; simp
theorem eqI_self : ∀ l : List Int, eqI l l = true
  | [] => rfl
  | x :: l => by rw [eqI, eqI_self l]; simp
theorem sameA_self (a : S66) : sameA a a = true := by
  unfold sameA sameOpF
  rw [eqV_self, eqI_self]
  simp
/-- The two boxes, and nothing elder touched. -/
structure SB (w wr : World) (cs ds : Array Value) : Prop where
  b0 : wr.heap[w.heap.size]? = some (.cells cs 49 (0, 0))
  b1 : wr.heap[w.heap.size + 1]? = some (.cells ds 49 (0, 0))
  bel : Below w.heap.size w wr
theorem SB.below {w wr w2 : World} {cs ds : Array Value} (S : SB w wr cs ds) (hb : Below wr.heap.size wr w2) : SB w w2 cs ds := ⟨blk_below S.b0 hb, blk_below S.b1 hb, S.bel.trans (hb.mono S.bel.size)⟩
theorem SB.new (w : World) (cs ds : Array Value) : SB w ((w.alloc (.cells cs 49)).alloc (.cells ds 49)) cs ds := by
  have h1 := blk_new (w.alloc (.cells cs 49)) (.cells ds 49)
  rw [World.size_alloc] at h1
  exact ⟨blk_alloc (blk_new w _) _, h1, below_alloc (below_alloc (Below.refl _ _) _) _⟩
theorem SB.drewN {w wr : World} {cs ds : Array Value} (S : SB w wr cs ds) (n : Nat) : SB w (wr.drewN n) cs ds := ⟨S.b0, S.b1, pw_below_drewN S.bel n⟩
theorem SB.drew {w wr : World} {cs ds : Array Value} (S : SB w wr cs ds) : SB w wr.drew cs ds := ⟨S.b0, S.b1, below_drew1 S.bel⟩
attribute [local go_sem high] eqA46
set_option maxHeartbeats 2000000 in
set_option maxRecDepth 100000 in
theorem sameScript_calls (g0 g1 g2 g3 g4 g5 : Int) (B : ByteArray) (ls : List S57) (A : Option Addr) (c : Nat) (A' : Option Addr) (c' : Nat) (w : World) (hr : Kd.C k57 w A ls.length ls) (hr' : Kd.C k57 w A' ls.length ls)
    (hls : ∀ a ∈ ls, a.f0.f3.f1.length ≤ 16777216 ∧ a.f4.length ≤ 16777216) (hl : ls.length ≤ 16777216) :
    Calls Tryd.prog 35 #[.agg #[.int .i64 g0, .int .i64 g1, .int .i64 g2, .int .i64 g3, .int .i64 g4, .int .i64 g5, .string B, .slice A ls.length c], .agg #[.int .i64 g0, .int .i64 g1, .int .i64 g2, .int .i64 g3, .int .i64 g4, .int .i64 g5, .string B, .slice A' ls.length c']] w fun e w' => e = .returned (.bool true) ∧ Below w.heap.size w w' := by
  have HR := Aside0.mk (And.intro hr hr')
  have HLS := Aside0.mk hls
  clear hr hr' hls
  obtain ⟨N, hN⟩ : ∃ N, ls.length = N := ⟨_, rfl⟩
  rw [hN] at HR hl ⊢
  have HN := Aside0.mk hN
  clear hN
  have B0 := Aside0.mk (SB.new w #[.int .i64 g0, .int .i64 g1, .int .i64 g2, .int .i64 g3, .int .i64 g4, .int .i64 g5, .string B, .slice A N c] #[.int .i64 g0, .int .i64 g1, .int .i64 g2, .int .i64 g3, .int .i64 g4, .int .i64 g5, .string B, .slice A' N c'])
  have hu46 := Tryd.underlying46
  go_enter Tryd.func35, Tryd.ntmps35
  go_wp2_with fail
  go_loopw [5] (fun i wr => ∃ t : Nat, t ≤ N ∧ i = .int .i64 (t : Int) ∧ Aside0 (SB w wr #[.int .i64 g0, .int .i64 g1, .int .i64 g2, .int .i64 g3, .int .i64 g4, .int .i64 g5, .string B, .slice A N c] #[.int .i64 g0, .int .i64 g1, .int .i64 g2, .int .i64 g3, .int .i64 g4, .int .i64 g5, .string B, .slice A' N c'])) (fun i _ => N - (intOf i).toNat)
  case atStart => exact ⟨0, by omega, rfl, B0⟩
  case round =>
    clear B0
    obtain ⟨t, ht, rfl, S⟩ := hrel
    have p7 : wr.cell? ⟨w.heap.size, 7, none⟩ = some (.slice A N c) := (blk_cell S.out.b0 7).trans rfl
    have q7 : wr.cell? ⟨w.heap.size + 1, 7, none⟩ = some (.slice A' N c') := (blk_cell S.out.b1 7).trans rfl
    by_cases hlt : t < N
    · have hb5 : (0 : Int) ≤ (t : Int) := by omega
      have hb6 : (t : Int) < (N : Int) := by omega
      obtain ⟨x, hx⟩ : ∃ x, rd_T57 ls (t : Int) = x := ⟨_, rfl⟩
      have htl : t < ls.length := by rw [HN.out]; exact hlt
      have hxe : ls[t] = x := by rw [← hx]; simp [rd_T57, List.getD_eq_getElem?_getD, htl]
      have hok := HLS.out x (by rw [← hxe]; exact List.getElem_mem htl)
      obtain ⟨ad, A4, c4, A8, c8, rfl, hc0, hc1, hc2, hc3, hc4, hc5, hc6, hc7, hc8, l4, r4, l8, r8⟩ := at_T57 (Kd.C_below HR.out.1 S.out.bel) (t : Int) hb5 hb6
      obtain ⟨bd, B4, d4, B8, d8, rfl, kc0, kc1, kc2, kc3, kc4, kc5, kc6, kc7, kc8, m4, s4, m8, s8⟩ := at_T57 (Kd.C_below HR.out.2 S.out.bel) (t : Int) hb5 hb6
      rw [Int.toNat_natCast, hx] at hc0 hc1 hc2 hc3 hc4 hc5 hc6 hc7 hc8 kc0 kc1 kc2 kc3 kc4 kc5 kc6 kc7 kc8
      rw [hx] at l4 r4 l8 r8 m4 s4 m8 s8
      have HSm : Aside0 (∀ W, Below wr.heap.size wr W → Calls Tryd.prog 32 #[actV57 x A4 c4 A8 c8, actV57 x B4 d4 B8 d8] W fun e w' => e = .returned (.bool true) ∧ Below W.heap.size W w') := ⟨fun W hb => by
        have h := same_calls57 x x A4 c4 A8 c8 B4 d4 B8 d8 W (Kd.C_below r4 hb) l4 (Kd.C_below r8 hb) l8 (Kd.C_below s4 hb) m4 (Kd.C_below s8 hb) m8 hok.1 hok.2
        rw [sameA_self] at h
        exact h⟩
      clear hx htl hxe hok l4 r4 l8 r8 m4 s4 m8 s8
      obtain ⟨⟨k, n, d, f, vs⟩, cut, mount, m, ms⟩ := x
      replace HSm : Aside0 (∀ W, Below wr.heap.size wr W → Calls Tryd.prog 32 #[.agg #[.int .i64 k, .int .i64 n, .string d, .int .i64 f, .slice A4 vs.length c4, .bool cut, .bool mount, .int .i64 m, .slice A8 ms.length c8], .agg #[.int .i64 k, .int .i64 n, .string d, .int .i64 f, .slice B4 vs.length d4, .bool cut, .bool mount, .int .i64 m, .slice B8 ms.length d8]] W fun e w' => e = .returned (.bool true) ∧ Below W.heap.size W w') := HSm
      replace hc0 : wr.cell? (ad.add (t * 9)) = some (.int .i64 k) := hc0
      replace hc1 : wr.cell? ⟨(ad.add (t * 9)).block, (ad.add (t * 9)).off + 1, none⟩ = some (.int .i64 n) := hc1
      replace hc2 : wr.cell? ⟨(ad.add (t * 9)).block, (ad.add (t * 9)).off + 2, none⟩ = some (.string d) := hc2
      replace hc3 : wr.cell? ⟨(ad.add (t * 9)).block, (ad.add (t * 9)).off + 3, none⟩ = some (.int .i64 f) := hc3
      replace hc4 : wr.cell? ⟨(ad.add (t * 9)).block, (ad.add (t * 9)).off + 4, none⟩ = some (.slice A4 vs.length c4) := hc4
      replace hc5 : wr.cell? ⟨(ad.add (t * 9)).block, (ad.add (t * 9)).off + 5, none⟩ = some (.bool cut) := hc5
      replace hc6 : wr.cell? ⟨(ad.add (t * 9)).block, (ad.add (t * 9)).off + 6, none⟩ = some (.bool mount) := hc6
      replace hc7 : wr.cell? ⟨(ad.add (t * 9)).block, (ad.add (t * 9)).off + 7, none⟩ = some (.int .i64 m) := hc7
      replace hc8 : wr.cell? ⟨(ad.add (t * 9)).block, (ad.add (t * 9)).off + 8, none⟩ = some (.slice A8 ms.length c8) := hc8
      replace kc0 : wr.cell? (bd.add (t * 9)) = some (.int .i64 k) := kc0
      replace kc1 : wr.cell? ⟨(bd.add (t * 9)).block, (bd.add (t * 9)).off + 1, none⟩ = some (.int .i64 n) := kc1
      replace kc2 : wr.cell? ⟨(bd.add (t * 9)).block, (bd.add (t * 9)).off + 2, none⟩ = some (.string d) := kc2
      replace kc3 : wr.cell? ⟨(bd.add (t * 9)).block, (bd.add (t * 9)).off + 3, none⟩ = some (.int .i64 f) := kc3
      replace kc4 : wr.cell? ⟨(bd.add (t * 9)).block, (bd.add (t * 9)).off + 4, none⟩ = some (.slice B4 vs.length d4) := kc4
      replace kc5 : wr.cell? ⟨(bd.add (t * 9)).block, (bd.add (t * 9)).off + 5, none⟩ = some (.bool cut) := kc5
      replace kc6 : wr.cell? ⟨(bd.add (t * 9)).block, (bd.add (t * 9)).off + 6, none⟩ = some (.bool mount) := kc6
      replace kc7 : wr.cell? ⟨(bd.add (t * 9)).block, (bd.add (t * 9)).off + 7, none⟩ = some (.int .i64 m) := kc7
      replace kc8 : wr.cell? ⟨(bd.add (t * 9)).block, (bd.add (t * 9)).off + 8, none⟩ = some (.slice B8 ms.length d8) := kc8
      go_upto_region 6 with (fail)
      go_region_with ((go_at_call 32; refine (HSm.out _ (by repeat (first | exact Below.refl _ _ | apply pw_below_drewN | apply below_drew1))).mono ?_; rintro e w4 ⟨rfl, hB⟩; have S4 := Aside0.mk (SB.below (by repeat (first | exact S.out | apply SB.drewN | apply SB.drew)) hB); clear hB))
      all_goals go_wp2
      all_goals (refine ⟨⟨t + 1, by omega, by go_num, ⟨by repeat (first | exact S4.out | apply SB.drewN | apply SB.drew)⟩⟩, ?_⟩; simp [intOf]; omega)
    · obtain rfl : t = N := by omega
      go_wp2_with fail
      go_ret
      exact ⟨rfl, S.out.bel⟩
end Go.Proofs.YtiddiboclfpklaaDoor.Tz
namespace Go.Proofs.YtiddiboclfpklaaDoor.PTextsLines
open Go.RowKit Go.Proofs.YtiddiboclfpklaaDoorW.PrintWords Go.Proofs.YtiddiboclfpklaaDoorW.PrintLast Go.Proofs.YtiddiboclfpklaaDoorW.PrintMore
attribute [local go_sem] min2_int min_two
set_option linter.unusedVariables false
set_option linter.unusedSimpArgs false
def errW : Option Int → Value
  | none => .nilIface
  | some c => .iface 0 (.int .i64 c)
theorem errW_none : errW none = .nilIface := rfl
theorem errW_some (c : Int) : errW (some c) = .iface 0 (.int .i64 c) := rfl
theorem info5 : (Tryd.prog.info? 5).map (fun i => (i.zero, i.size, i.bytes)) = some (some (.int .u8 0), 1, 1) := by kernel_rfl
theorem info9 : (Tryd.prog.info? 9).map (fun i => (i.zero, i.size, i.bytes)) = some (some (.string ⟨#[]⟩), 1, 16) := by kernel_rfl
theorem info84 : (Tryd.prog.info? 84).map (fun i => (i.zero, i.size, i.bytes)) = some (some (.slice none 0 0), 1, 24) := by kernel_rfl
def rd_L2 (xs : List (List ByteArray)) (i : Int) : (List ByteArray) := xs.getD i.toNat ([] : List ByteArray)
end Go.Proofs.YtiddiboclfpklaaDoor.PTextsLines
namespace Go.Proofs.YtiddiboclfpklaaDoor.TxS
open Go.RowKit Go.Proofs.YtiddiboclfpklaaDoorW.PrintWords Go.Proofs.YtiddiboclfpklaaDoorW.PrintLast Go.Proofs.YtiddiboclfpklaaDoorW.PrintMore Go.Proofs.YtiddiboclfpklaaDoor.PTextsLines
attribute [local go_sem] min2_int min_two
set_option linter.unusedVariables false
set_option linter.unusedSimpArgs false
def instarref04_Word.l0 : Nat → ByteArray → Int → Option (Bool)
  | 0, _, _ => none
  | k + 1, x0, x3 => if x3 < (x0.size : Int) then (if 0 ≤ x3 then (if (bt x0 x3) < 33 then (some false) else (if (bt x0 x3) > 126 then (some false) else (instarref04_Word.l0 k x0 (wrap64 (x3 + 1))))) else (none)) else (some (decide ((x0.size : Int) > 0)))
def instarref04_Word.f (k : Nat) (a0 : ByteArray) : Option (Bool) := instarref04_Word.l0 k a0 0
theorem instarref04_Word.mono_l : ∀ k, (∀ y0 y1, LeO (instarref04_Word.l0 k y0 y1) (instarref04_Word.l0 (k + 1) y0 y1))
  | 0 => fun _ _ r h => by simp [instarref04_Word.l0] at h
  | k + 1 => by
    have ih0 := instarref04_Word.mono_l k
    · intro y0 y1
      unfold instarref04_Word.l0
      repeat' first
      | (with_reducible exact ih0 _ _)
      | (with_reducible exact LeO.refl _)
      | (with_reducible exact LeO.none _)
      | (with_reducible refine LeO.ite ?_ ?_)
      | (with_reducible refine LeO.bind ?_ (fun _ => ?_))
      | exact ih0 _ _
      | exact LeO.none _
      | refine LeO.ite ?_ ?_
      | refine LeO.bind ?_ (fun _ => ?_)
theorem instarref04_Word.mono : ∀ a0 k, LeO (instarref04_Word.f k a0) (instarref04_Word.f (k + 1) a0) := by
  intro a0 k
  have ih0 := instarref04_Word.mono_l k
  unfold instarref04_Word.f
  repeat' first
      | (with_reducible exact ih0 _ _)
      | (with_reducible exact LeO.refl _)
      | (with_reducible exact LeO.none _)
      | (with_reducible refine LeO.ite ?_ ?_)
      | (with_reducible refine LeO.bind ?_ (fun _ => ?_))
      | exact ih0 _ _
      | exact LeO.none _
      | refine LeO.ite ?_ ?_
      | refine LeO.bind ?_ (fun _ => ?_)
mutual
def instarref04_words.l0 : Nat → ByteArray → List ByteArray → Int → Int → Option (List ByteArray × Bool)
  | 0, _, _, _, _ => none
  | k + 1, x0, x4, x5, x6 => if x6 ≤ (x0.size : Int) then (if x6 = (x0.size : Int) then (instarref04_words.j1 k x0 x4 x5 x6 true) else (if 0 ≤ x6 then (if x6 < (x0.size : Int) then (instarref04_words.j1 k x0 x4 x5 x6 ((bt x0 x6) == 32)) else (none)) else (none))) else (some (x4, true))
def instarref04_words.j1 : Nat → ByteArray → List ByteArray → Int → Int → Bool → Option (List ByteArray × Bool)
  | 0, _, _, _, _, _ => none
  | k + 1, x0, x4, x5, x6, x22 => if x22 = true then (if 0 ≤ x5 then (if x5 ≤ x6 then (if x6 ≤ (x0.size : Int) then ((instarref04_Word.f k (x0.extract (x5 : Int).toNat (x6 : Int).toNat)).bind fun t118 => (if t118 = true then (if x4.length < 8796093022208 then (instarref04_words.l0 k x0 (x4 ++ [x0.extract (x5 : Int).toNat (x6 : Int).toNat]) (wrap64 (x6 + 1)) (wrap64 (x6 + 1))) else (none)) else (some (([] : List ByteArray), false)))) else (none)) else (none)) else (none)) else (instarref04_words.l0 k x0 x4 x5 (wrap64 (x6 + 1)))
end
def instarref04_words.f (k : Nat) (a0 : ByteArray) : Option (List ByteArray × Bool) := instarref04_words.l0 k a0 ([] : List ByteArray) 0 0
theorem instarref04_words.mono_l : ∀ k, (∀ y0 y1 y2 y3, LeO (instarref04_words.l0 k y0 y1 y2 y3) (instarref04_words.l0 (k + 1) y0 y1 y2 y3)) ∧ (∀ y0 y1 y2 y3 y4, LeO (instarref04_words.j1 k y0 y1 y2 y3 y4) (instarref04_words.j1 (k + 1) y0 y1 y2 y3 y4))
  | 0 => ⟨fun _ _ _ _ r h => by simp [instarref04_words.l0] at h, fun _ _ _ _ _ r h => by simp [instarref04_words.j1] at h⟩
  | k + 1 => by
    obtain ⟨ih0, ih1⟩ := instarref04_words.mono_l k
    refine ⟨?_, ?_⟩
    · intro y0 y1 y2 y3
      unfold instarref04_words.l0
      repeat' first
      | (with_reducible exact ih0 _ _ _ _)
      | (with_reducible exact ih1 _ _ _ _ _)
      | (with_reducible exact instarref04_Word.mono _ _)
      | (with_reducible exact LeO.refl _)
      | (with_reducible exact LeO.none _)
      | (with_reducible refine LeO.ite ?_ ?_)
      | (with_reducible refine LeO.bind ?_ (fun _ => ?_))
      | exact ih0 _ _ _ _
      | exact ih1 _ _ _ _ _
      | exact instarref04_Word.mono _ _
      | exact LeO.none _
      | refine LeO.ite ?_ ?_
      | refine LeO.bind ?_ (fun _ => ?_)
    · intro y0 y1 y2 y3 y4
      unfold instarref04_words.j1
      repeat' first
      | (with_reducible exact ih0 _ _ _ _)
      | (with_reducible exact ih1 _ _ _ _ _)
      | (with_reducible exact instarref04_Word.mono _ _)
      | (with_reducible exact LeO.refl _)
      | (with_reducible exact LeO.none _)
      | (with_reducible refine LeO.ite ?_ ?_)
      | (with_reducible refine LeO.bind ?_ (fun _ => ?_))
      | exact ih0 _ _ _ _
      | exact ih1 _ _ _ _ _
      | exact instarref04_Word.mono _ _
      | exact LeO.none _
      | refine LeO.ite ?_ ?_
      | refine LeO.bind ?_ (fun _ => ?_)
theorem instarref04_words.mono : ∀ a0 k, LeO (instarref04_words.f k a0) (instarref04_words.f (k + 1) a0) := by
  intro a0 k
  obtain ⟨ih0, ih1⟩ := instarref04_words.mono_l k
  unfold instarref04_words.f
  repeat' first
      | (with_reducible exact ih0 _ _ _ _)
      | (with_reducible exact ih1 _ _ _ _ _)
      | (with_reducible exact instarref04_Word.mono _ _)
      | (with_reducible exact LeO.refl _)
      | (with_reducible exact LeO.none _)
      | (with_reducible refine LeO.ite ?_ ?_)
      | (with_reducible refine LeO.bind ?_ (fun _ => ?_))
      | exact ih0 _ _ _ _
      | exact ih1 _ _ _ _ _
      | exact instarref04_Word.mono _ _
      | exact LeO.none _
      | refine LeO.ite ?_ ?_
      | refine LeO.bind ?_ (fun _ => ?_)
def instarref04_Lines.l0 : Nat → ByteArray → List (List ByteArray) → Int → Int → Option ((List (List ByteArray)) × Int × Int)
  | 0, _, _, _, _ => none
  | k + 1, x0, x5, x6, x7 => if x7 < (x0.size : Int) then (if 0 ≤ x7 then (if (bt x0 x7) = 10 then (if 0 ≤ x6 then (if x6 ≤ x7 then (if x7 ≤ (x0.size : Int) then ((instarref04_words.f k (x0.extract (x6 : Int).toNat (x7 : Int).toNat)).bind fun bt122 => (if bt122.2 = true then (if x5.length < 5864062014805 then (instarref04_Lines.l0 k x0 (x5 ++ [bt122.1]) (wrap64 (x7 + 1)) (wrap64 (x7 + 1))) else (none)) else (some (([] : List (List ByteArray)), wrap64 ((x5.length : Int) + 1), 4)))) else (none)) else (none)) else (none)) else (instarref04_Lines.l0 k x0 x5 x6 (wrap64 (x7 + 1)))) else (none)) else (if x6 < (x0.size : Int) then (some (([] : List (List ByteArray)), wrap64 ((x5.length : Int) + 1), 4)) else (some (x5, 0, 0)))
def instarref04_Lines.f (k : Nat) (a0 : ByteArray) : Option ((List (List ByteArray)) × Int × Int) := instarref04_Lines.l0 k a0 ([] : List (List ByteArray)) 0 0
theorem instarref04_Lines.mono_l : ∀ k, (∀ y0 y1 y2 y3, LeO (instarref04_Lines.l0 k y0 y1 y2 y3) (instarref04_Lines.l0 (k + 1) y0 y1 y2 y3))
  | 0 => fun _ _ _ _ r h => by simp [instarref04_Lines.l0] at h
  | k + 1 => by
    have ih0 := instarref04_Lines.mono_l k
    · intro y0 y1 y2 y3
      unfold instarref04_Lines.l0
      repeat' first
      | (with_reducible exact ih0 _ _ _ _)
      | (with_reducible exact instarref04_words.mono _ _)
      | (with_reducible exact LeO.refl _)
      | (with_reducible exact LeO.none _)
      | (with_reducible refine LeO.ite ?_ ?_)
      | (with_reducible refine LeO.bind ?_ (fun _ => ?_))
      | exact ih0 _ _ _ _
      | exact instarref04_words.mono _ _
      | exact LeO.none _
      | refine LeO.ite ?_ ?_
      | refine LeO.bind ?_ (fun _ => ?_)
theorem instarref04_Lines.mono : ∀ a0 k, LeO (instarref04_Lines.f k a0) (instarref04_Lines.f (k + 1) a0) := by
  intro a0 k
  have ih0 := instarref04_Lines.mono_l k
  unfold instarref04_Lines.f
  repeat' first
      | (with_reducible exact ih0 _ _ _ _)
      | (with_reducible exact instarref04_words.mono _ _)
      | (with_reducible exact LeO.refl _)
      | (with_reducible exact LeO.none _)
      | (with_reducible refine LeO.ite ?_ ?_)
      | (with_reducible refine LeO.bind ?_ (fun _ => ?_))
      | exact ih0 _ _ _ _
      | exact instarref04_words.mono _ _
      | exact LeO.none _
      | refine LeO.ite ?_ ?_
      | refine LeO.bind ?_ (fun _ => ?_)
mutual
def instarref04_Join.l0 : Nat → List (List ByteArray) → ByteArray → Int → Option (ByteArray × Int)
  | 0, _, _, _ => none
  | k + 1, x0, x4, x5 => if x5 < (x0.length : Int) then (if 0 ≤ x5 then (if ((rd_L2 x0 x5).length : Int) = 0 then (some ((⟨#[]⟩ : ByteArray), 4)) else (instarref04_Join.l1 k x0 x4 x5 0)) else (none)) else (some (x4, 0))
def instarref04_Join.l1 : Nat → List (List ByteArray) → ByteArray → Int → Int → Option (ByteArray × Int)
  | 0, _, _, _, _ => none
  | k + 1, x0, x4, x5, x6 => if 0 ≤ x5 then (if x5 < (x0.length : Int) then (if x6 < ((rd_L2 x0 x5).length : Int) then (if 0 ≤ x6 then ((instarref04_Word.f k (rdOf ByteArray.empty (rd_L2 x0 x5) x6)).bind fun t133 => (if t133 = true then (if x6 > 0 then (if x4.size + 1 ≤ 9223372036854775807 then (if (x4 ++ (⟨#[32]⟩ : ByteArray)).size + (rdOf ByteArray.empty (rd_L2 x0 x5) x6).size ≤ 9223372036854775807 then (instarref04_Join.l1 k x0 ((x4 ++ (⟨#[32]⟩ : ByteArray)) ++ (rdOf ByteArray.empty (rd_L2 x0 x5) x6)) x5 (wrap64 (x6 + 1))) else (none)) else (none)) else (if x4.size + (rdOf ByteArray.empty (rd_L2 x0 x5) x6).size ≤ 9223372036854775807 then (instarref04_Join.l1 k x0 (x4 ++ (rdOf ByteArray.empty (rd_L2 x0 x5) x6)) x5 (wrap64 (x6 + 1))) else (none))) else (some ((⟨#[]⟩ : ByteArray), 4)))) else (none)) else (if x4.size + 1 ≤ 9223372036854775807 then (instarref04_Join.l0 k x0 (x4 ++ (⟨#[10]⟩ : ByteArray)) (wrap64 (x5 + 1))) else (none))) else (none)) else (none)
end
def instarref04_Join.f (k : Nat) (l0 : List (List ByteArray)) : Option (ByteArray × Int) := instarref04_Join.l0 k l0 (⟨#[]⟩ : ByteArray) 0
theorem instarref04_Join.mono_l : ∀ k, (∀ y0 y1 y2, LeO (instarref04_Join.l0 k y0 y1 y2) (instarref04_Join.l0 (k + 1) y0 y1 y2)) ∧ (∀ y0 y1 y2 y3, LeO (instarref04_Join.l1 k y0 y1 y2 y3) (instarref04_Join.l1 (k + 1) y0 y1 y2 y3))
  | 0 => ⟨fun _ _ _ r h => by simp [instarref04_Join.l0] at h, fun _ _ _ _ r h => by simp [instarref04_Join.l1] at h⟩
  | k + 1 => by
    obtain ⟨ih0, ih1⟩ := instarref04_Join.mono_l k
    refine ⟨?_, ?_⟩
    · intro y0 y1 y2
      unfold instarref04_Join.l0
      repeat' first
      | (with_reducible exact ih0 _ _ _)
      | (with_reducible exact ih1 _ _ _ _)
      | (with_reducible exact instarref04_Word.mono _ _)
      | (with_reducible exact LeO.refl _)
      | (with_reducible exact LeO.none _)
      | (with_reducible refine LeO.ite ?_ ?_)
      | (with_reducible refine LeO.bind ?_ (fun _ => ?_))
      | exact ih0 _ _ _
      | exact ih1 _ _ _ _
      | exact instarref04_Word.mono _ _
      | exact LeO.none _
      | refine LeO.ite ?_ ?_
      | refine LeO.bind ?_ (fun _ => ?_)
    · intro y0 y1 y2 y3
      unfold instarref04_Join.l1
      repeat' first
      | (with_reducible exact ih0 _ _ _)
      | (with_reducible exact ih1 _ _ _ _)
      | (with_reducible exact instarref04_Word.mono _ _)
      | (with_reducible exact LeO.refl _)
      | (with_reducible exact LeO.none _)
      | (with_reducible refine LeO.ite ?_ ?_)
      | (with_reducible refine LeO.bind ?_ (fun _ => ?_))
      | exact ih0 _ _ _
      | exact ih1 _ _ _ _
      | exact instarref04_Word.mono _ _
      | exact LeO.none _
      | refine LeO.ite ?_ ?_
      | refine LeO.bind ?_ (fun _ => ?_)
theorem instarref04_Join.mono : ∀ a0 k, LeO (instarref04_Join.f k a0) (instarref04_Join.f (k + 1) a0) := by
  intro a0 k
  obtain ⟨ih0, ih1⟩ := instarref04_Join.mono_l k
  unfold instarref04_Join.f
  repeat' first
      | (with_reducible exact ih0 _ _ _)
      | (with_reducible exact ih1 _ _ _ _)
      | (with_reducible exact instarref04_Word.mono _ _)
      | (with_reducible exact LeO.refl _)
      | (with_reducible exact LeO.none _)
      | (with_reducible refine LeO.ite ?_ ?_)
      | (with_reducible refine LeO.bind ?_ (fun _ => ?_))
      | exact ih0 _ _ _
      | exact ih1 _ _ _ _
      | exact instarref04_Word.mono _ _
      | exact LeO.none _
      | refine LeO.ite ?_ ?_
      | refine LeO.bind ?_ (fun _ => ?_)
mutual
def instarref04_Same.l0 : Nat → List (List ByteArray) → List (List ByteArray) → Int → Option (Bool)
  | 0, _, _, _ => none
  | k + 1, x0, x1, x5 => if x5 < (x0.length : Int) then (if 0 ≤ x5 then (if x5 < (x1.length : Int) then (if ((rd_L2 x0 x5).length : Int) = ((rd_L2 x1 x5).length : Int) then (instarref04_Same.l1 k x0 x1 x5 0) else (some false)) else (none)) else (none)) else (some true)
def instarref04_Same.l1 : Nat → List (List ByteArray) → List (List ByteArray) → Int → Int → Option (Bool)
  | 0, _, _, _, _ => none
  | k + 1, x0, x1, x5, x6 => if 0 ≤ x5 then (if x5 < (x0.length : Int) then (if x6 < ((rd_L2 x0 x5).length : Int) then (if 0 ≤ x6 then (if x5 < (x1.length : Int) then (if x6 < ((rd_L2 x1 x5).length : Int) then (if (rdOf ByteArray.empty (rd_L2 x0 x5) x6).toList = (rdOf ByteArray.empty (rd_L2 x1 x5) x6).toList then (instarref04_Same.l1 k x0 x1 x5 (wrap64 (x6 + 1))) else (some false)) else (none)) else (none)) else (none)) else (instarref04_Same.l0 k x0 x1 (wrap64 (x5 + 1)))) else (none)) else (none)
end
def instarref04_Same.f (k : Nat) (l0 : List (List ByteArray)) (l1 : List (List ByteArray)) : Option (Bool) := if (l0.length : Int) = (l1.length : Int) then (instarref04_Same.l0 k l0 l1 0) else (some false)
theorem instarref04_Same.mono_l : ∀ k, (∀ y0 y1 y2, LeO (instarref04_Same.l0 k y0 y1 y2) (instarref04_Same.l0 (k + 1) y0 y1 y2)) ∧ (∀ y0 y1 y2 y3, LeO (instarref04_Same.l1 k y0 y1 y2 y3) (instarref04_Same.l1 (k + 1) y0 y1 y2 y3))
  | 0 => ⟨fun _ _ _ r h => by simp [instarref04_Same.l0] at h, fun _ _ _ _ r h => by simp [instarref04_Same.l1] at h⟩
  | k + 1 => by
    obtain ⟨ih0, ih1⟩ := instarref04_Same.mono_l k
    refine ⟨?_, ?_⟩
    · intro y0 y1 y2
      unfold instarref04_Same.l0
      repeat' first
      | (with_reducible exact ih0 _ _ _)
      | (with_reducible exact ih1 _ _ _ _)
      | (with_reducible exact LeO.refl _)
      | (with_reducible exact LeO.none _)
      | (with_reducible refine LeO.ite ?_ ?_)
      | (with_reducible refine LeO.bind ?_ (fun _ => ?_))
      | exact ih0 _ _ _
      | exact ih1 _ _ _ _
      | exact LeO.none _
      | refine LeO.ite ?_ ?_
      | refine LeO.bind ?_ (fun _ => ?_)
    · intro y0 y1 y2 y3
      unfold instarref04_Same.l1
      repeat' first
      | (with_reducible exact ih0 _ _ _)
      | (with_reducible exact ih1 _ _ _ _)
      | (with_reducible exact LeO.refl _)
      | (with_reducible exact LeO.none _)
      | (with_reducible refine LeO.ite ?_ ?_)
      | (with_reducible refine LeO.bind ?_ (fun _ => ?_))
      | exact ih0 _ _ _
      | exact ih1 _ _ _ _
      | exact LeO.none _
      | refine LeO.ite ?_ ?_
      | refine LeO.bind ?_ (fun _ => ?_)
theorem instarref04_Same.mono : ∀ a0 a1 k, LeO (instarref04_Same.f k a0 a1) (instarref04_Same.f (k + 1) a0 a1) := by
  intro a0 a1 k
  obtain ⟨ih0, ih1⟩ := instarref04_Same.mono_l k
  unfold instarref04_Same.f
  repeat' first
      | (with_reducible exact ih0 _ _ _)
      | (with_reducible exact ih1 _ _ _ _)
      | (with_reducible exact LeO.refl _)
      | (with_reducible exact LeO.none _)
      | (with_reducible refine LeO.ite ?_ ?_)
      | (with_reducible refine LeO.bind ?_ (fun _ => ?_))
      | exact ih0 _ _ _
      | exact ih1 _ _ _ _
      | exact LeO.none _
      | refine LeO.ite ?_ ?_
      | refine LeO.bind ?_ (fun _ => ?_)
end Go.Proofs.YtiddiboclfpklaaDoor.TxS
namespace Go.Proofs.YtiddiboclfpklaaDoor.Tx
open Go.RowKit Go.Proofs.YtiddiboclfpklaaDoorW.PrintWords Go.Proofs.YtiddiboclfpklaaDoor.PTextsLines Go.Proofs.YtiddiboclfpklaaDoor.TxS
set_option linter.unusedVariables false
theorem drop_one {l : List Int} {i : Nat} {a : Int} {r : List Int} (h : l.drop i = a :: r) : rd l (i : Int) = a ∧ l.drop (i + 1) = r := by
  have h0 : l[i]? = some a := by
    have := congrArg (fun l => l[0]?) h
    simpa using this
  exact ⟨by simp [rd, List.getD_eq_getElem?_getD, h0], by rw [← List.drop_drop, h]; rfl⟩
theorem word_loop (s : ByteArray) : ∀ (l : List Int) (i k : Nat), (bytesOf s).drop i = l → i + l.length = s.size → s.size ≤ 16777216 → l.length < k → instarref04_Word.l0 k s i = some (l.all okB && decide (0 < s.size))
  | [], i, k, hl, hi, hs, hk => by
    obtain ⟨k, rfl⟩ : ∃ k', k = k' + 1 := ⟨k - 1, by simp at hk; omega⟩
    simp only [List.length_nil, Nat.add_zero] at hi
    rw [instarref04_Word.l0, if_neg (by omega), List.all_nil, Bool.true_and]
    congr 1
    by_cases h : 0 < s.size
    · rw [decide_eq_true h, decide_eq_true (by omega)]
    · rw [decide_eq_false h, decide_eq_false (by omega)]
  | a :: l, i, k, hl, hi, hs, hk => by
    simp only [List.length_cons] at hi hk
    obtain ⟨k, rfl⟩ : ∃ k', k = k' + 1 := ⟨k - 1, by omega⟩
    obtain ⟨r0, r1⟩ := drop_one hl
    rw [rd_bytesOf] at r0
    rw [instarref04_Word.l0, if_pos (by omega), if_pos (by omega), r0, List.all_cons]
    by_cases h1 : a < 33
    · rw [if_pos h1, show okB a = false by simp [okB]; omega, Bool.false_and, Bool.false_and]
    · rw [if_neg h1]
      by_cases h2 : a > 126
      · rw [if_pos h2, show okB a = false by simp [okB]; omega, Bool.false_and, Bool.false_and]
      · rw [if_neg h2, show okB a = true by simp [okB]; omega, Bool.true_and, IntWalk.wrap64_in _ (by omega)]
        have := word_loop s l (i + 1) k r1 (by omega) hs (by omega)
        rw [Int.natCast_add] at this
        exact this
theorem word_eval (s : ByteArray) (k : Nat) (hs : s.size ≤ 16777216) (hk : s.size < k) : instarref04_Word.f k s = some (plainF s) :=
  word_loop s (bytesOf s) 0 k rfl (by rw [bytesOf_length]; omega) hs (by rw [bytesOf_length]; exact hk)
end Go.Proofs.YtiddiboclfpklaaDoor.Tx
namespace Go.Proofs.YtiddiboclfpklaaDoor.Tx
open Go.RowKit Go.Proofs.YtiddiboclfpklaaDoorW.PrintWords
set_option linter.unusedVariables false
theorem rowsF_length : ∀ (n : Nat) (s : ByteArray), (rowsF n s).length ≤ n
  | 0, s => Nat.le_refl _
  | n + 1, s => by
    rw [rowsF]
    split
    · exact Nat.zero_le _
    · split
      · simp
      · rw [List.length_cons]
        exact Nat.succ_le_succ (rowsF_length n _)
end Go.Proofs.YtiddiboclfpklaaDoor.Tx
namespace Go.Proofs.YtiddiboclfpklaaDoor.Tx
open Go.RowKit Go.Proofs.YtiddiboclfpklaaDoorW.PrintWords
set_option linter.unusedVariables false
def lineL : List (List UInt8) → List UInt8
  | [] => []
  | x :: l => x ++ l.flatMap fun y => 32 :: y
theorem lineB_ofL (ws : List (List UInt8)) : lineB (ws.map ofL) = lineL ws := by
  cases ws with
  | nil => rfl
  | cons x l =>
    rw [List.map_cons, lineB, lineL, ofL_toList]
    congr 1
    induction l with
    | nil => rfl
    | cons y l ih => rw [List.map_cons, List.flatMap_cons, List.flatMap_cons, ofL_toList, ih]
theorem lineL_words : ∀ l : List UInt8, lineL (wordsL l) = l
  | [] => rfl
  | b :: l => by
    have ih := lineL_words l
    rw [wordsL]
    by_cases h : b = 32
    · rw [if_pos h]
      cases hw : wordsL l with
      | nil => exact absurd hw (wordsL_ne l)
      | cons w r =>
        rw [hw, lineL] at ih
        rw [lineL, List.nil_append, List.flatMap_cons, h, List.cons_append, ih]
    · rw [if_neg h]
      cases hw : wordsL l with
      | nil => exact absurd hw (wordsL_ne l)
      | cons w r =>
        rw [hw, lineL] at ih
        show lineL ((b :: w) :: r) = _
        rw [lineL, List.cons_append, ih]
theorem text_rows : ∀ l : List UInt8, (rowsL l).all (fun x => x.2) = true → (rowsL l).flatMap (fun x => x.1 ++ [10]) = l
  | [], _ => rfl
  | b :: l, h => by
    rw [rowsL] at h ⊢
    by_cases hb : b = 10
    · rw [if_pos hb] at h ⊢
      rw [List.all_cons, Bool.true_and] at h
      rw [List.flatMap_cons, text_rows l h, hb]
      rfl
    · rw [if_neg hb] at h ⊢
      cases hr : rowsL l with
      | nil =>
        rw [hr] at h
        exact absurd h (by simp)
      | cons x r =>
        rw [hr] at h
        have h2 : (rowsL l).all (fun x => x.2) = true := by
          rw [hr, List.all_cons]
          exact h
        have ih := text_rows l h2
        rw [hr, List.flatMap_cons] at ih
        show ((b :: x.1, x.2) :: r).flatMap _ = _
        rw [List.flatMap_cons]
        show b :: (x.1 ++ [10]) ++ _ = _
        rw [List.cons_append, ih]
theorem back_one (s : ByteArray) (h : (rowsF s.size s).all okRow = true) : joinF ((rowsF s.size s).map fun x => wordsF x.1) = (s, 0) ∧ (textB ((rowsF s.size s).map fun x => wordsF x.1)).length = s.size := by
  rw [rowsF_L s.size s (Nat.le_refl _)] at h ⊢
  rw [List.map_map]
  have h1 : (rowsL s.data.toList).all (fun x => x.2) = true := by
    rw [List.all_eq_true] at h ⊢
    intro x hx
    have := h (rowO x) (List.mem_map_of_mem hx)
    unfold okRow at this
    exact (Bool.and_eq_true_iff.1 this).1
  have h2 : ((rowsL s.data.toList).map ((fun x : ByteArray × Bool => wordsF x.1) ∘ rowO)).all okL = true := by
    rw [List.all_eq_true] at h ⊢
    intro l hl
    obtain ⟨x, hx, rfl⟩ := List.mem_map.1 hl
    have := h (rowO x) (List.mem_map_of_mem hx)
    unfold okRow at this
    have h3 := (Bool.and_eq_true_iff.1 this).2
    show okL (wordsF (rowO x).1) = true
    unfold okL
    rw [h3, Bool.and_true]
    cases hq : wordsF (rowO x).1 with
    | nil =>
      have h4 := wordsF_length (rowO x).1
      rw [hq] at h4
      simp at h4
    | cons a b => rfl
  have h3 : textB ((rowsL s.data.toList).map ((fun x : ByteArray × Bool => wordsF x.1) ∘ rowO)) = s.data.toList := by
    have key : ∀ r : List (List UInt8 × Bool), textB (r.map ((fun x : ByteArray × Bool => wordsF x.1) ∘ rowO)) = r.flatMap fun x => x.1 ++ [10] := by
      intro r
      induction r with
      | nil => rfl
      | cons x r ih =>
        unfold textB at ih ⊢
        rw [List.map_cons, List.flatMap_cons, List.flatMap_cons, ih]
        congr 1
        show lineB (wordsF (ofL x.1)) ++ [10] = _
        rw [wordsF_L, lineB_ofL, ofL_toList, lineL_words]
    rw [key, text_rows _ h1]
  refine ⟨?_, by rw [h3, data_length]⟩
  rw [joinF, h2, if_pos rfl, h3]
theorem plain_bytes (x : ByteArray) (h : plainF x = true) : ∀ b ∈ x.data.toList, b ≠ 32 ∧ b ≠ 10 := by
  intro b hb
  unfold plainF at h
  have h1 := (Bool.and_eq_true_iff.1 h).1
  rw [List.all_eq_true] at h1
  have h2 := h1 (b.toNat : Int) (by unfold bytesOf; exact List.mem_map_of_mem hb)
  unfold okB at h2
  have h3 := of_decide_eq_true (Bool.and_eq_true_iff.1 h2).1
  refine ⟨fun e => ?_, fun e => ?_⟩
  · rw [e] at h3
    have : ((32 : UInt8).toNat : Int) = 32 := rfl
    omega
  · rw [e] at h3
    have : ((10 : UInt8).toNat : Int) = 10 := rfl
    omega
theorem words_line : ∀ (l : List ByteArray) (x : ByteArray), (∀ y ∈ x :: l, ∀ b ∈ y.data.toList, b ≠ 32) → wordsL (lineB (x :: l)) = (x :: l).map fun y => y.data.toList
  | [], x, h => by
    rw [lineB, List.flatMap_nil, List.append_nil, wordsL_none _ (h x List.mem_cons_self)]
    rfl
  | y :: l, x, h => by
    have e : lineB (x :: y :: l) = x.data.toList ++ 32 :: lineB (y :: l) := by
      rw [lineB, lineB, List.flatMap_cons, List.cons_append]
    rw [e, wordsL_app _ _ (h x List.mem_cons_self), words_line l y (fun z hz => h z (List.mem_cons_of_mem _ hz))]
    rfl
theorem ok_line (l : List ByteArray) (h : okL l = true) : wordsF (ofL (lineB l)) = l ∧ ∀ b ∈ lineB l, b ≠ 10 := by
  unfold okL at h
  have h1 := (Bool.and_eq_true_iff.1 h).2
  rw [List.all_eq_true] at h1
  cases l with
  | nil => simp at h
  | cons x l =>
    constructor
    · rw [wordsF_L, ofL_toList, words_line l x (fun y hy b hb => (plain_bytes y (h1 y hy) b hb).1), List.map_map]
      conv => rhs; rw [← List.map_id (x :: l)]
      exact List.map_congr_left fun y hy => ofL_data y
    · intro b hb
      rw [lineB, List.mem_append, List.mem_flatMap] at hb
      rcases hb with hb | ⟨y, hy, hb⟩
      · exact (plain_bytes x (h1 x List.mem_cons_self) b hb).2
      · rw [List.mem_cons] at hb
        rcases hb with rfl | hb
        · decide
        · exact (plain_bytes y (h1 y (List.mem_cons_of_mem _ hy)) b hb).2
theorem rows_text : ∀ ls : List (List ByteArray), ls.all okL = true → rowsL (textB ls) = ls.map fun l => (lineB l, true)
  | [], _ => rfl
  | l :: ls, h => by
    rw [List.all_cons, Bool.and_eq_true] at h
    have e : textB (l :: ls) = lineB l ++ 10 :: textB ls := by
      unfold textB
      rw [List.flatMap_cons, List.append_assoc]
      rfl
    rw [e, rowsL_app _ _ (ok_line l h.1).2, rows_text ls h.2, List.map_cons]
theorem back_two (ls : List (List ByteArray)) (h : ls.all okL = true) : linesF (ofL (textB ls)) = (ls, 0, 0) := by
  have e : rowsF (ofL (textB ls)).size (ofL (textB ls)) = ls.map fun l => (ofL (lineB l), true) := by
    rw [rowsF_L _ _ (Nat.le_refl _), ofL_toList, rows_text ls h, List.map_map]
    rfl
  rw [List.all_eq_true] at h
  have h1 : (ls.map fun l => (ofL (lineB l), true)).all okRow = true := by
    rw [List.all_eq_true]
    intro x hx
    obtain ⟨l, hl, rfl⟩ := List.mem_map.1 hx
    have h2 := h l hl
    unfold okL at h2
    rw [okRow, (ok_line l (h l hl)).1, (Bool.and_eq_true_iff.1 h2).2]
    rfl
  rw [linesF, e, linesG_ok _ _ h1, List.nil_append, List.map_map]
  congr 1
  conv => rhs; rw [← List.map_id ls]
  exact List.map_congr_left fun l hl => (ok_line l (h l hl)).1
/-- Join's answer: the text with 0, or none with 4. -/
theorem joinF_form (ls : List (List ByteArray)) : (ls.all okL = true ∧ joinF ls = (ofL (textB ls), 0)) ∨ joinF ls = (⟨#[]⟩, 4) := by
  cases h : ls.all okL with
  | true => exact .inl ⟨rfl, by rw [joinF, h, if_pos rfl]; rfl⟩
  | false => exact .inr (by rw [joinF, h, if_neg Bool.false_ne_true])
end Go.Proofs.YtiddiboclfpklaaDoor.Tx
