/- Lemmas that the claim's theorem uses. -/
import Derived.Test.YtiddiboclfpklaaDoorRdR
import Derived.Test.YtiddiboclfpklaaDoorRdS
import Derived.Test.YtiddiboclfpklaaDoorRdI
import Derived.Test.YtiddiboclfpklaaDoorRdG
import Derived.Test.YtiddiboclfpklaaDoorProg
import Derived.Below
import Derived.Deep.Draws
import Derived.Deep.AppendLies
import Derived.Maps.AppendAt
import Derived.OwnWalk
import Derived.Laws.BytesArg
import Derived.Laws.MakeOwn
import Derived.Laws.OwnMore
import Derived.Deep.OwnRows
import Derived.Tactics
import Derived.Lib.ConvBytes
import Derived.Laws.Slices
import Derived.WalkKit
import Derived.KernelRfl
import Derived.RowKit3
import Derived.Deep.LoopGhost
import Derived.Deep.QuietTactic
import Derived.BigQuiet
import Derived.WideLaws
import Derived.Deep.DeepCutAuto
import Derived.Deep.CutBlock
import Derived.Deep.RegionHeld3
import Derived.Laws.Rows
import Derived.Lib.AppendStr
import Derived.ArgAppend
import Derived.Laws.IdiomCopy
import Derived.OrdersHeld
import Derived.Laws.BitsLemmas
import Derived.RowKit
import Derived.Test.YtiddiboclfpklaaDoorRdA
import Derived.Test.YtiddiboclfpklaaDoorRdB
import Derived.Test.YtiddiboclfpklaaDoorRdC
namespace Go.Proofs.YtiddiboclfpklaaDoor.Tz
open Go.RowKit Go.Proofs.YtiddiboclfpklaaDoorW.PrintWords Go.Proofs.YtiddiboclfpklaaDoor.PScriptReads Go.Proofs.YtiddiboclfpklaaDoor.Tx Go.Proofs.YtiddiboclfpklaaDoor.TzP Go.Proofs.YtiddiboclfpklaaDoor.TzQ
set_option linter.unusedVariables false
def act66 (x : S57) : S66 := ⟨x.f0, x.f1, x.f2, x.f3, x.f4⟩
theorem eqV2_loop (X Y : List S107) (hX : X.length ≤ 16777216) (hl : X.length = Y.length) (f0 f1 : Int) : ∀ (l m d e : List S107) (k : Nat), X = d ++ l → Y = e ++ m → d.length = e.length → l.length < k → instarref14_Same.l0 k (d.length : Int) f0 X f1 Y = some (eqV l m)
 | [], m, d, e, k, h1, h2, h3, hk => by
  obtain ⟨k, rfl⟩ : ∃ k', k = k' + 1 := ⟨k - 1, by simp at hk; omega⟩
  have hm : m = [] := by
   rw [h1, h2, List.append_nil, List.length_append] at hl
   exact List.eq_nil_of_length_eq_zero (by omega)
  subst hm
  rw [List.append_nil] at h1
  subst h1
  rw [instarref14_Same.l0, if_neg (by omega)]
  rfl
 | x :: l, [], d, e, k, h1, h2, h3, hk => by
  rw [h1, h2, List.append_nil, List.length_append, List.length_cons] at hl
  omega
 | x :: l, y :: m, d, e, k, h1, h2, h3, hk => by
  simp only [List.length_cons] at hk
  obtain ⟨k, rfl⟩ : ∃ k', k = k' + 1 := ⟨k - 1, by omega⟩
  have hd : d.length < X.length := by rw [h1]; simp
  have hx : rd_T107 X (d.length : Int) = x := by rw [h1]; exact rd_T_at _ _ _ _ rfl
  have hy : rd_T107 Y (d.length : Int) = y := by rw [h2]; exact rd_T_at _ _ _ _ (by omega)
  have hrec := eqV2_loop X Y hX hl f0 f1 l m (d ++ [x]) (e ++ [y]) k (by rw [h1, List.append_assoc]; rfl) (by rw [h2, List.append_assoc]; rfl) (by simp [h3]) (by omega)
  rw [List.length_append, List.length_singleton, Int.natCast_add] at hrec
  rw [instarref14_Same.l0, if_pos (by omega), if_pos (by omega), if_pos (by omega), hx, hy, IntWalk.wrap64_in _ (by omega), eqV]
  cases h4 : (x.f0 == y.f0) with
  | false => rw [if_pos (by simp)]; rfl
  | true =>
   cases h5 : (x.f1.toList == y.f1.toList) with
   | false => rw [if_pos (by simp)]; rfl
   | true =>
    rw [if_neg (by simp), Bool.true_and, Bool.true_and]
    exact hrec
theorem eqV2_eval (f0 f1 : Int) (X Y : List S107) (k : Nat) (hX : X.length ≤ 16777216) (hk : X.length + 1 < k) : instarref14_Same.f k f0 X f1 Y = some (decide (f0 = f1) && eqV X Y) := by
 obtain ⟨k, rfl⟩ : ∃ k', k = k' + 1 := ⟨k - 1, by omega⟩
 rw [instarref14_Same.f]
 by_cases h0 : f0 = f1
 ·rw [if_pos h0, decide_eq_true h0, Bool.true_and, instarref14_Same.j0]
  by_cases h : X.length = Y.length
  ·rw [if_neg (by simp [h])]
   exact eqV2_loop X Y hX h f0 f1 X Y [] [] k rfl rfl rfl (by omega)
  ·rw [if_pos (by simp; omega), eqV_len X Y h]
 ·rw [if_neg h0, decide_eq_false h0, Bool.false_and, instarref14_Same.j0, if_pos rfl]
theorem eqI2_loop (X Y : List Int) (hX : X.length ≤ 16777216) (hl : X.length = Y.length) : ∀ (l m d e : List Int) (k : Nat), X = d ++ l → Y = e ++ m → d.length = e.length → l.length < k → instarref01_Same.l0 k X Y (d.length : Int) = some (eqI l m)
 | [], m, d, e, k, h1, h2, h3, hk => by
  obtain ⟨k, rfl⟩ : ∃ k', k = k' + 1 := ⟨k - 1, by simp at hk; omega⟩
  have hm : m = [] := by
   rw [h1, h2, List.append_nil, List.length_append] at hl
   exact List.eq_nil_of_length_eq_zero (by omega)
  subst hm
  rw [List.append_nil] at h1
  subst h1
  rw [instarref01_Same.l0, if_neg (by omega)]
  rfl
 | x :: l, [], d, e, k, h1, h2, h3, hk => by
  rw [h1, h2, List.append_nil, List.length_append, List.length_cons] at hl
  omega
 | x :: l, y :: m, d, e, k, h1, h2, h3, hk => by
  simp only [List.length_cons] at hk
  obtain ⟨k, rfl⟩ : ∃ k', k = k' + 1 := ⟨k - 1, by omega⟩
  have hd : d.length < X.length := by rw [h1]; simp
  have hx : rd X (d.length : Int) = x := by rw [h1]; exact rd_at _ _ _ _ rfl
  have hy : rd Y (d.length : Int) = y := by rw [h2]; exact rd_at _ _ _ _ (by omega)
  have hrec := eqI2_loop X Y hX hl l m (d ++ [x]) (e ++ [y]) k (by rw [h1, List.append_assoc]; rfl) (by rw [h2, List.append_assoc]; rfl) (by simp [h3]) (by omega)
  rw [List.length_append, List.length_singleton, Int.natCast_add] at hrec
  rw [instarref01_Same.l0, if_pos (by omega), if_pos (by omega), if_pos (by omega), hx, hy, IntWalk.wrap64_in _ (by omega), eqI]
  by_cases h4 : x = y
  ·rw [if_pos h4, decide_eq_true h4, Bool.true_and]
   exact hrec
  ·rw [if_neg h4, decide_eq_false h4, Bool.false_and]
theorem eqI2_eval (X Y : List Int) (k : Nat) (hX : X.length ≤ 16777216) (hk : X.length < k) : instarref01_Same.f k X Y = some (eqI X Y) := by
 rw [instarref01_Same.f]
 by_cases h : X.length = Y.length
 ·rw [if_pos (by omega)]
  exact eqI2_loop X Y hX h X Y [] [] k rfl rfl rfl hk
 ·rw [if_neg (by omega), eqI_len X Y h]
theorem same40_eval (a b : S57) (k : Nat) (h1 : a.f0.f3.f1.length ≤ 16777216) (hk : a.f0.f3.f1.length + 1 < k) (h2 : a.f4.length ≤ 16777216) (hk2 : a.f4.length < k) :
  instarref40_Same.f k a.f0.f0 a.f0.f1 a.f0.f2 a.f0.f3.f0 a.f0.f3.f1 a.f1 a.f2 a.f3 a.f4 b.f0.f0 b.f0.f1 b.f0.f2 b.f0.f3.f0 b.f0.f3.f1 b.f1 b.f2 b.f3 b.f4 = some (sameA (act66 a) (act66 b)) := by
 rw [instarref40_Same.f, eqV2_eval _ _ _ _ k h1 hk, Option.bind_some, eqI2_eval _ _ k h2 hk2, Option.bind_some]
 show _ = some ((decide (a.f0.f0 = b.f0.f0) && (decide (a.f0.f1 = b.f0.f1) && (decide (a.f0.f2.toList = b.f0.f2.toList) && (decide (a.f0.f3.f0 = b.f0.f3.f0) && eqV a.f0.f3.f1 b.f0.f3.f1)))) && ((a.f1 == b.f1) && ((a.f2 == b.f2) && (decide (a.f3 = b.f3) && eqI a.f4 b.f4))))
 by_cases c1 : a.f0.f0 = b.f0.f0
 ·rw [if_pos c1, decide_eq_true c1, Bool.true_and]
  by_cases c2 : a.f0.f1 = b.f0.f1
  ·rw [if_pos c2, decide_eq_true c2, Bool.true_and]
   by_cases c3 : a.f0.f2.toList = b.f0.f2.toList
   ·rw [if_pos c3, decide_eq_true c3, Bool.true_and]
    cases (decide (a.f0.f3.f0 = b.f0.f3.f0) && eqV a.f0.f3.f1 b.f0.f3.f1) with
    | false => rw [if_neg Bool.false_ne_true, Bool.false_and]
    | true =>
     rw [if_pos rfl, Bool.true_and]
     cases (a.f1 == b.f1) with
     | false => rw [if_neg Bool.false_ne_true, Bool.false_and]
     | true =>
      rw [if_pos rfl, Bool.true_and]
      cases (a.f2 == b.f2) with
      | false => rw [if_neg Bool.false_ne_true, Bool.false_and]
      | true =>
       rw [if_pos rfl, Bool.true_and]
       by_cases c4 : a.f3 = b.f3
       ·rw [if_pos c4, decide_eq_true c4, Bool.true_and]
       ·rw [if_neg c4, decide_eq_false c4, Bool.false_and]
   ·rw [if_neg c3, decide_eq_false c3, Bool.false_and, Bool.false_and]
  ·rw [if_neg c2, decide_eq_false c2, Bool.false_and, Bool.false_and]
 ·rw [if_neg c1, decide_eq_false c1, Bool.false_and, Bool.false_and]
def actV57 (a : S57) (A4 : Option Addr) (c4 : Nat) (A8 : Option Addr) (c8 : Nat) : Value := .agg #[.int .i64 a.f0.f0, .int .i64 a.f0.f1, .string a.f0.f2, .int .i64 a.f0.f3.f0, .slice A4 a.f0.f3.f1.length c4, .bool a.f1, .bool a.f2, .int .i64 a.f3, .slice A8 a.f4.length c8]
theorem same_calls57 (a b : S57) (A4 : Option Addr) (c4 : Nat) (A8 : Option Addr) (c8 : Nat) (B4 : Option Addr) (d4 : Nat) (B8 : Option Addr) (d8 : Nat) (w : World)
  (h4 : Kd.C k107 w A4 a.f0.f3.f1.length a.f0.f3.f1) (l4 : a.f0.f3.f1.length ≤ c4) (h8 : Kd.C (Kd.int .u32) w A8 a.f4.length a.f4) (l8 : a.f4.length ≤ c8)
  (g4 : Kd.C k107 w B4 b.f0.f3.f1.length b.f0.f3.f1) (m4 : b.f0.f3.f1.length ≤ d4) (g8 : Kd.C (Kd.int .u32) w B8 b.f4.length b.f4) (m8 : b.f4.length ≤ d8)
  (h1 : a.f0.f3.f1.length ≤ 16777216) (h2 : a.f4.length ≤ 16777216) :
  Calls Tryd.prog 32 #[actV57 a A4 c4 A8 c8, actV57 b B4 d4 B8 d8] w fun e w' => e = .returned (.bool (sameA (act66 a) (act66 b))) ∧ Below w.heap.size w w' :=
 instarref40_Same.calls 16777219 _ _ _ _ A4 c4 _ _ _ _ A8 c8 _ _ _ _ _ B4 d4 _ _ _ _ B8 d8 _ _ w h4 l4 h8 l8 g4 m4 g8 m8 (same40_eval a b 16777219 h1 (by omega) h2 (by omega))
end Go.Proofs.YtiddiboclfpklaaDoor.Tz
namespace Go.Proofs.YtiddiboclfpklaaDoor.PScriptReads
open Go.RowKit Go.Proofs.YtiddiboclfpklaaDoorW.PrintWords Go.Proofs.YtiddiboclfpklaaDoorW.PrintLast Go.Proofs.YtiddiboclfpklaaDoorW.PrintMore
attribute [local go_sem] min2_int min_two
set_option linter.unusedVariables false
set_option linter.unusedSimpArgs false
theorem eqA46 (d : Nat) (w : World) (x0 y0 : Int) (x1 y1 : Int) (x2 y2 : Int) (x3 y3 : Int) (x4 y4 : Int) (x5 y5 : Int) :
  (Op.equalIn (d + 2) 46 (.agg #[.int .i64 x0, .int .i64 x1, .int .i64 x2, .int .i64 x3, .int .i64 x4, .int .i64 x5]) (.agg #[.int .i64 y0, .int .i64 y1, .int .i64 y2, .int .i64 y3, .int .i64 y4, .int .i64 y5])).run Tryd.prog w = .ok (x0 == y0 && (x1 == y1 && (x2 == y2 && (x3 == y3 && (x4 == y4 && (x5 == y5)))))) w := by
 refine eqA_of Tryd.underlying46 (by kernel_rfl) ?_
 refine eqf_cons (by rfl) (by go_simp; rfl) (by go_simp; rfl) (by go_simp) ?_
 refine eqf_cons (by rfl) (by go_simp; rfl) (by go_simp; rfl) (by go_simp) ?_
 refine eqf_cons (by rfl) (by go_simp; rfl) (by go_simp; rfl) (by go_simp) ?_
 refine eqf_cons (by rfl) (by go_simp; rfl) (by go_simp; rfl) (by go_simp) ?_
 refine eqf_cons (by rfl) (by go_simp; rfl) (by go_simp; rfl) (by go_simp) ?_
 exact eqf_last (by rfl) (by go_simp; rfl) (by go_simp; rfl) (by go_simp)
end Go.Proofs.YtiddiboclfpklaaDoor.PScriptReads
namespace Go.Proofs.YtiddiboclfpklaaDoor.Tz
open Go.RowKit Go.Proofs.YtiddiboclfpklaaDoorW.PrintWords Go.Proofs.YtiddiboclfpklaaDoor.PScriptReads Go.Proofs.YtiddiboclfpklaaDoor.Tx Go.Proofs.YtiddiboclfpklaaDoor.TyK
set_option linter.unusedVariables false
def act57 (x : S66) : S57 := ⟨x.f0, x.f1, x.f2, x.f3, x.f4⟩
theorem heap66 : Kd.Heap k66 :=
 Kd.heap_iso _ (Kd.heap_pair (Kd.heap_iso _ (Kd.heap_pair (Kd.heap_int _) (Kd.heap_pair (Kd.heap_int _) (Kd.heap_pair Kd.heap_string (Kd.heap_iso _ (Kd.heap_pair (Kd.heap_int _) (Kd.heap_slice _ (Kd.heap_iso _ (Kd.heap_pair (Kd.heap_int _) Kd.heap_string))))))))) (Kd.heap_pair Kd.heap_bool (Kd.heap_pair Kd.heap_bool (Kd.heap_pair (Kd.heap_int _) (Kd.heap_slice _ (Kd.heap_int _))))))
theorem rd66_at (d : List S66) (x : S66) (r : List S66) (i : Int) (h : i = d.length) : rd_T66 (d ++ x :: r) i = x := by
 subst h
 simp [rd_T66, List.getD_eq_getElem?_getD]
theorem back_loop (g0 g1 g2 g3 g4 g5 : Int) (B : ByteArray) (X : List S66) (hX : X.length ≤ 16777216) : ∀ (l d : List S66) (k : Nat), X = d ++ l → l.length < k →
  instarlaw40_back.l0 k (d.length : Int) g0 g1 g2 g3 g4 g5 B X g0 g1 g2 g3 g4 g5 B (d.map act57) = some (g0, g1, g2, g3, g4, g5, B, X.map act57)
 | [], d, k, h1, hk => by
  obtain ⟨k, rfl⟩ : ∃ k', k = k' + 1 := ⟨k - 1, by simp at hk; omega⟩
  rw [List.append_nil] at h1
  subst h1
  rw [instarlaw40_back.l0, if_neg (by omega)]
 | x :: l, d, k, h1, hk => by
  simp only [List.length_cons] at hk
  obtain ⟨k, rfl⟩ : ∃ k', k = k' + 1 := ⟨k - 1, by omega⟩
  have hd : d.length < X.length := by rw [h1]; simp
  have hx : rd_T66 X (d.length : Int) = x := by rw [h1]; exact rd66_at _ _ _ _ rfl
  rw [instarlaw40_back.l0, if_pos (by omega), if_pos (by omega), if_pos (by rw [List.length_map]; omega), hx, IntWalk.wrap64_in _ (by omega)]
  have hrec := back_loop g0 g1 g2 g3 g4 g5 B X hX l (d ++ [x]) k (by rw [h1, List.append_assoc]; rfl) (by omega)
  rw [List.length_append, List.length_singleton, Int.natCast_add, List.map_append] at hrec
  exact hrec
theorem back_calls (g0 g1 g2 g3 g4 g5 : Int) (B : ByteArray) (ls : List S66) (A : Option Addr) (c : Nat) (w : World) (hr : Kd.C k66 w A ls.length ls) (hc : ls.length ≤ c) (hl : ls.length ≤ 16777216) :
  Calls Tryd.prog 36 #[.agg #[.int .i64 g0, .int .i64 g1, .int .i64 g2, .int .i64 g3, .int .i64 g4, .int .i64 g5, .string B, .slice A ls.length c]] w fun e w' =>
   ∃ A2 c2, e = .returned (.agg #[.int .i64 g0, .int .i64 g1, .int .i64 g2, .int .i64 g3, .int .i64 g4, .int .i64 g5, .string B, .slice A2 (ls.map act57).length c2]) ∧ (ls.map act57).length ≤ c2 ∧ Kd.C k57 w' A2 (ls.map act57).length (ls.map act57) ∧ Below w.heap.size w w' := by
 refine (instarlaw40_back.calls (ls.length + 1) g0 g1 g2 g3 g4 g5 B (fun k => k < w.heap.size) A c ls g0 g1 g2 g3 g4 g5 B (ls.map act57) w (Kd.V_mk hc (Kd.C_F heap66 hr)) ?_).mono ?_
 ·exact back_loop g0 g1 g2 g3 g4 g5 B ls hl ls [] _ rfl (by omega)
 ·rintro e w' ⟨v, rfl, hv, hb⟩
  obtain ⟨A2, c2, rfl, h2, h⟩ := Kd.N_reads hv
  exact ⟨A2, c2, rfl, h2, h, hb⟩
theorem eqV_self : ∀ l : List S107, eqV l l = true
 | [] => rfl
 | x :: l => by rw [eqV, eqV_self l]; simp
theorem eqI_self : ∀ l : List Int, eqI l l = true
 | [] => rfl
 | x :: l => by rw [eqI, eqI_self l]; simp
theorem sameA_self (a : S66) : sameA a a = true := by
 unfold sameA sameOpF
 rw [eqV_self, eqI_self]
 simp
structure SB (w wr : World) (cs ds : Array Value) : Prop where
 b0 : wr.heap[w.heap.size]? = some (.cells cs 49 (0, 0))
 b1 : wr.heap[w.heap.size + 1]? = some (.cells ds 49 (0, 0))
 bel : Below w.heap.size w wr
theorem SB.below {w wr w2 : World} {cs ds : Array Value} (S : SB w wr cs ds) (hb : Below wr.heap.size wr w2) : SB w w2 cs ds := ⟨blk_below S.b0 hb, blk_below S.b1 hb, S.bel.trans (hb.mono S.bel.size)⟩
theorem SB.new (w : World) (cs ds : Array Value) : SB w ((w.alloc (.cells cs 49)).alloc (.cells ds 49)) cs ds := by
 have h1 := blk_new (w.alloc (.cells cs 49)) (.cells ds 49)
 rw [World.size_alloc] at h1
 exact ⟨blk_alloc (blk_new w _) _, h1, below_alloc (below_alloc (Below.refl _ _) _) _⟩
theorem SB.drewN {w wr : World} {cs ds : Array Value} (S : SB w wr cs ds) (n : Nat) : SB w (wr.drewN n) cs ds := ⟨S.b0, S.b1, pw_below_drewN S.bel n⟩
theorem SB.drew {w wr : World} {cs ds : Array Value} (S : SB w wr cs ds) : SB w wr.drew cs ds := ⟨S.b0, S.b1, below_drew1 S.bel⟩
attribute [local go_sem high] eqA46
set_option maxHeartbeats 2000000 in
set_option maxRecDepth 100000 in
theorem sameScript_calls (g0 g1 g2 g3 g4 g5 : Int) (B : ByteArray) (ls : List S57) (A : Option Addr) (c : Nat) (A' : Option Addr) (c' : Nat) (w : World) (hr : Kd.C k57 w A ls.length ls) (hr' : Kd.C k57 w A' ls.length ls)
  (hls : ∀ a ∈ ls, a.f0.f3.f1.length ≤ 16777216 ∧ a.f4.length ≤ 16777216) (hl : ls.length ≤ 16777216) :
  Calls Tryd.prog 35 #[.agg #[.int .i64 g0, .int .i64 g1, .int .i64 g2, .int .i64 g3, .int .i64 g4, .int .i64 g5, .string B, .slice A ls.length c], .agg #[.int .i64 g0, .int .i64 g1, .int .i64 g2, .int .i64 g3, .int .i64 g4, .int .i64 g5, .string B, .slice A' ls.length c']] w fun e w' => e = .returned (.bool true) ∧ Below w.heap.size w w' := by
 have HR := Aside0.mk (And.intro hr hr')
 have HLS := Aside0.mk hls
 clear hr hr' hls
 obtain ⟨N, hN⟩ : ∃ N, ls.length = N := ⟨_, rfl⟩
 rw [hN] at HR hl ⊢
 have HN := Aside0.mk hN
 clear hN
 have B0 := Aside0.mk (SB.new w #[.int .i64 g0, .int .i64 g1, .int .i64 g2, .int .i64 g3, .int .i64 g4, .int .i64 g5, .string B, .slice A N c] #[.int .i64 g0, .int .i64 g1, .int .i64 g2, .int .i64 g3, .int .i64 g4, .int .i64 g5, .string B, .slice A' N c'])
 have hu46 := Tryd.underlying46
 go_enter Tryd.func35, Tryd.ntmps35
 go_wp2_with fail
 go_loopw [5] (fun i wr => ∃ t : Nat, t ≤ N ∧ i = .int .i64 (t : Int) ∧ Aside0 (SB w wr #[.int .i64 g0, .int .i64 g1, .int .i64 g2, .int .i64 g3, .int .i64 g4, .int .i64 g5, .string B, .slice A N c] #[.int .i64 g0, .int .i64 g1, .int .i64 g2, .int .i64 g3, .int .i64 g4, .int .i64 g5, .string B, .slice A' N c'])) (fun i _ => N - (intOf i).toNat)
 case atStart => exact ⟨0, by omega, rfl, B0⟩
 case round =>
  clear B0
  obtain ⟨t, ht, rfl, S⟩ := hrel
  have p7 : wr.cell? ⟨w.heap.size, 7, none⟩ = some (.slice A N c) := (blk_cell S.out.b0 7).trans rfl
  have q7 : wr.cell? ⟨w.heap.size + 1, 7, none⟩ = some (.slice A' N c') := (blk_cell S.out.b1 7).trans rfl
  by_cases hlt : t < N
  ·have hb5 : (0 : Int) ≤ (t : Int) := by omega
   have hb6 : (t : Int) < (N : Int) := by omega
   obtain ⟨x, hx⟩ : ∃ x, rd_T57 ls (t : Int) = x := ⟨_, rfl⟩
   have htl : t < ls.length := by rw [HN.out]; exact hlt
   have hxe : ls[t] = x := by rw [← hx]; simp [rd_T57, List.getD_eq_getElem?_getD, htl]
   have hok := HLS.out x (by rw [← hxe]; exact List.getElem_mem htl)
   obtain ⟨ad, A4, c4, A8, c8, rfl, hc0, hc1, hc2, hc3, hc4, hc5, hc6, hc7, hc8, l4, r4, l8, r8⟩ := at_T57 (Kd.C_below HR.out.1 S.out.bel) (t : Int) hb5 hb6
   obtain ⟨bd, B4, d4, B8, d8, rfl, kc0, kc1, kc2, kc3, kc4, kc5, kc6, kc7, kc8, m4, s4, m8, s8⟩ := at_T57 (Kd.C_below HR.out.2 S.out.bel) (t : Int) hb5 hb6
   rw [Int.toNat_natCast, hx] at hc0 hc1 hc2 hc3 hc4 hc5 hc6 hc7 hc8 kc0 kc1 kc2 kc3 kc4 kc5 kc6 kc7 kc8
   rw [hx] at l4 r4 l8 r8 m4 s4 m8 s8
   have HSm : Aside0 (∀ W, Below wr.heap.size wr W → Calls Tryd.prog 32 #[actV57 x A4 c4 A8 c8, actV57 x B4 d4 B8 d8] W fun e w' => e = .returned (.bool true) ∧ Below W.heap.size W w') := ⟨fun W hb => by
    have h := same_calls57 x x A4 c4 A8 c8 B4 d4 B8 d8 W (Kd.C_below r4 hb) l4 (Kd.C_below r8 hb) l8 (Kd.C_below s4 hb) m4 (Kd.C_below s8 hb) m8 hok.1 hok.2
    rw [sameA_self] at h
    exact h⟩
   clear hx htl hxe hok l4 r4 l8 r8 m4 s4 m8 s8
   obtain ⟨⟨k, n, d, f, vs⟩, cut, mount, m, ms⟩ := x
   replace HSm : Aside0 (∀ W, Below wr.heap.size wr W → Calls Tryd.prog 32 #[.agg #[.int .i64 k, .int .i64 n, .string d, .int .i64 f, .slice A4 vs.length c4, .bool cut, .bool mount, .int .i64 m, .slice A8 ms.length c8], .agg #[.int .i64 k, .int .i64 n, .string d, .int .i64 f, .slice B4 vs.length d4, .bool cut, .bool mount, .int .i64 m, .slice B8 ms.length d8]] W fun e w' => e = .returned (.bool true) ∧ Below W.heap.size W w') := HSm
   replace hc0 : wr.cell? (ad.add (t * 9)) = some (.int .i64 k) := hc0
   replace hc1 : wr.cell? ⟨(ad.add (t * 9)).block, (ad.add (t * 9)).off + 1, none⟩ = some (.int .i64 n) := hc1
   replace hc2 : wr.cell? ⟨(ad.add (t * 9)).block, (ad.add (t * 9)).off + 2, none⟩ = some (.string d) := hc2
   replace hc3 : wr.cell? ⟨(ad.add (t * 9)).block, (ad.add (t * 9)).off + 3, none⟩ = some (.int .i64 f) := hc3
   replace hc4 : wr.cell? ⟨(ad.add (t * 9)).block, (ad.add (t * 9)).off + 4, none⟩ = some (.slice A4 vs.length c4) := hc4
   replace hc5 : wr.cell? ⟨(ad.add (t * 9)).block, (ad.add (t * 9)).off + 5, none⟩ = some (.bool cut) := hc5
   replace hc6 : wr.cell? ⟨(ad.add (t * 9)).block, (ad.add (t * 9)).off + 6, none⟩ = some (.bool mount) := hc6
   replace hc7 : wr.cell? ⟨(ad.add (t * 9)).block, (ad.add (t * 9)).off + 7, none⟩ = some (.int .i64 m) := hc7
   replace hc8 : wr.cell? ⟨(ad.add (t * 9)).block, (ad.add (t * 9)).off + 8, none⟩ = some (.slice A8 ms.length c8) := hc8
   replace kc0 : wr.cell? (bd.add (t * 9)) = some (.int .i64 k) := kc0
   replace kc1 : wr.cell? ⟨(bd.add (t * 9)).block, (bd.add (t * 9)).off + 1, none⟩ = some (.int .i64 n) := kc1
   replace kc2 : wr.cell? ⟨(bd.add (t * 9)).block, (bd.add (t * 9)).off + 2, none⟩ = some (.string d) := kc2
   replace kc3 : wr.cell? ⟨(bd.add (t * 9)).block, (bd.add (t * 9)).off + 3, none⟩ = some (.int .i64 f) := kc3
   replace kc4 : wr.cell? ⟨(bd.add (t * 9)).block, (bd.add (t * 9)).off + 4, none⟩ = some (.slice B4 vs.length d4) := kc4
   replace kc5 : wr.cell? ⟨(bd.add (t * 9)).block, (bd.add (t * 9)).off + 5, none⟩ = some (.bool cut) := kc5
   replace kc6 : wr.cell? ⟨(bd.add (t * 9)).block, (bd.add (t * 9)).off + 6, none⟩ = some (.bool mount) := kc6
   replace kc7 : wr.cell? ⟨(bd.add (t * 9)).block, (bd.add (t * 9)).off + 7, none⟩ = some (.int .i64 m) := kc7
   replace kc8 : wr.cell? ⟨(bd.add (t * 9)).block, (bd.add (t * 9)).off + 8, none⟩ = some (.slice B8 ms.length d8) := kc8
   go_upto_region 6 with (fail)
   go_region_with ((go_at_call 32; refine (HSm.out _ (by repeat (first | exact Below.refl _ _ | apply pw_below_drewN | apply below_drew1))).mono ?_; rintro e w4 ⟨rfl, hB⟩; have S4 := Aside0.mk (SB.below (by repeat (first | exact S.out | apply SB.drewN | apply SB.drew)) hB); clear hB))
   all_goals go_wp2
   all_goals (refine ⟨⟨t + 1, by omega, by go_num, ⟨by repeat (first | exact S4.out | apply SB.drewN | apply SB.drew)⟩⟩, ?_⟩; simp [intOf]; omega)
  ·obtain rfl : t = N := by omega
   go_wp2_with fail
   go_ret
   exact ⟨rfl, S.out.bel⟩
end Go.Proofs.YtiddiboclfpklaaDoor.Tz
namespace Go.Proofs.YtiddiboclfpklaaDoor.PTextsLines
open Go.RowKit Go.Proofs.YtiddiboclfpklaaDoorW.PrintWords Go.Proofs.YtiddiboclfpklaaDoorW.PrintLast Go.Proofs.YtiddiboclfpklaaDoorW.PrintMore
attribute [local go_sem] min2_int min_two
set_option linter.unusedVariables false
set_option linter.unusedSimpArgs false
def errW : Option Int → Value
 | none => .nilIface
 | some c => .iface 0 (.int .i64 c)
theorem errW_none : errW none = .nilIface := rfl
theorem errW_some (c : Int) : errW (some c) = .iface 0 (.int .i64 c) := rfl
theorem info5 : (Tryd.prog.info? 5).map (fun i => (i.zero, i.size, i.bytes)) = some (some (.int .u8 0), 1, 1) := by kernel_rfl
theorem info9 : (Tryd.prog.info? 9).map (fun i => (i.zero, i.size, i.bytes)) = some (some (.string ⟨#[]⟩), 1, 16) := by kernel_rfl
theorem info84 : (Tryd.prog.info? 84).map (fun i => (i.zero, i.size, i.bytes)) = some (some (.slice none 0 0), 1, 24) := by kernel_rfl
end Go.Proofs.YtiddiboclfpklaaDoor.PTextsLines
namespace Go.Proofs.YtiddiboclfpklaaDoor.TxS
open Go.RowKit Go.Proofs.YtiddiboclfpklaaDoorW.PrintWords Go.Proofs.YtiddiboclfpklaaDoorW.PrintLast Go.Proofs.YtiddiboclfpklaaDoorW.PrintMore Go.Proofs.YtiddiboclfpklaaDoor.PTextsLines
attribute [local go_sem] min2_int min_two
set_option linter.unusedVariables false
set_option linter.unusedSimpArgs false
def instarref04_Word.l0 : Nat → ByteArray → Int → Option (Bool)
 | 0, _, _ => none
 | k + 1, x0, x3 => if x3 < (x0.size : Int) then (if 0 ≤ x3 then (if (bt x0 x3) < 33 then (some false) else (if (bt x0 x3) > 126 then (some false) else (instarref04_Word.l0 k x0 (wrap64 (x3 + 1))))) else (none)) else (some (decide ((x0.size : Int) > 0)))
def instarref04_Word.f (k : Nat) (a0 : ByteArray) : Option (Bool) := instarref04_Word.l0 k a0 0
set_option maxHeartbeats 8000000 in
set_option maxRecDepth 100000 in
theorem instarref04_Word.calls (k : Nat) (a0 : ByteArray) (r : Bool) (w : World) (h : instarref04_Word.f k a0 = some r) :
  Calls Tryd.prog 52 #[.string a0] w fun e w' => e = .returned (.bool r) ∧ Drawn0 w w' := by
 have H : (instarref04_Word.l0 k a0 0) = some r := h
 clear h
 have H' := Aside0.mk H
 clear H
 go_enter Tryd.func52, Tryd.ntmps52
 go_wp2
 go_loopg [3] k (fun kq v3 w' => ∃ (x3_1 : Int), v3 = .int .i64 x3_1 ∧ Aside0 (instarref04_Word.l0 kq a0 x3_1 = some r) ∧ Aside0 (kq ≤ k) ∧ Drawn0 w w')
 case atStart => exact ⟨(0), (by first | rfl | (simp; done) | (simp [*]; done)), H', ⟨Nat.le_refl _⟩, by repeat (first | exact Drawn0.refl _ | apply Drawn0.step)⟩
 case round =>
  clear H'
  obtain ⟨x3_1, rfl, HA, HK1, ⟨m1, rfl⟩⟩ := hrel
  cases gk with
  | zero => exact absurd HA.out (by simp [instarref04_Word.l0])
  | succ k1 =>
   have H := HA.out
   clear HA
   simp only [instarref04_Word.l0] at H
   by_cases c2 : x3_1 < (a0.size : Int)
   ·rw [if_pos c2] at H
    have c2b0 : decide (x3_1 < (a0.size : Int)) = true := decide_eq_true c2
    clear c2
    by_cases c3 : 0 ≤ x3_1
    ·rw [if_pos c3] at H
     have c3b0 : decide (0 ≤ x3_1) = true := decide_eq_true c3
     clear c3
     by_cases c5 : (bt a0 x3_1) < 33
     ·rw [if_pos c5] at H
      have c5b0 : decide ((bt a0 x3_1) < 33) = true := decide_eq_true c5
      clear c5
      obtain rfl := Option.some.inj H
      have p4 : 0 ≤ (x3_1 : Int) := of_decide_eq_true (by first | (with_reducible assumption) | assumption)
      have q4 : x3_1 < (a0.size : Int) := of_decide_eq_true (by first | (with_reducible assumption) | assumption)
      have hx4 := bt_at a0 x3_1
      replace p4 := eq_true p4
      replace q4 := eq_true q4
      go_wp2
      go_ret
      exact ⟨by first | rfl | (simp; done) | (simp [*]; done), by repeat (first | exact Drawn0.refl _ | apply Drawn0.step)⟩
     ·rw [if_neg c5] at H
      have c5b0 : decide ((bt a0 x3_1) < 33) = false := decide_eq_false c5
      clear c5
      by_cases c7 : (bt a0 x3_1) > 126
      ·rw [if_pos c7] at H
       have c7b0 : decide (126 < (bt a0 x3_1)) = true := decide_eq_true c7
       clear c7
       obtain rfl := Option.some.inj H
       have p4 : 0 ≤ (x3_1 : Int) := of_decide_eq_true (by first | (with_reducible assumption) | assumption)
       have q4 : x3_1 < (a0.size : Int) := of_decide_eq_true (by first | (with_reducible assumption) | assumption)
       have hx4 := bt_at a0 x3_1
       replace p4 := eq_true p4
       replace q4 := eq_true q4
       have p6 : 0 ≤ (x3_1 : Int) := of_decide_eq_true (by first | (with_reducible assumption) | assumption)
       have q6 : x3_1 < (a0.size : Int) := of_decide_eq_true (by first | (with_reducible assumption) | assumption)
       have hx6 := bt_at a0 x3_1
       replace p6 := eq_true p6
       replace q6 := eq_true q6
       go_wp2
       go_ret
       exact ⟨by first | rfl | (simp; done) | (simp [*]; done), by repeat (first | exact Drawn0.refl _ | apply Drawn0.step)⟩
      ·rw [if_neg c7] at H
       have c7b0 : decide (126 < (bt a0 x3_1)) = false := decide_eq_false c7
       clear c7
       have H' := Aside0.mk H
       clear H
       have p4 : 0 ≤ (x3_1 : Int) := of_decide_eq_true (by first | (with_reducible assumption) | assumption)
       have q4 : x3_1 < (a0.size : Int) := of_decide_eq_true (by first | (with_reducible assumption) | assumption)
       have hx4 := bt_at a0 x3_1
       replace p4 := eq_true p4
       replace q4 := eq_true q4
       have p6 : 0 ≤ (x3_1 : Int) := of_decide_eq_true (by first | (with_reducible assumption) | assumption)
       have q6 : x3_1 < (a0.size : Int) := of_decide_eq_true (by first | (with_reducible assumption) | assumption)
       have hx6 := bt_at a0 x3_1
       replace p6 := eq_true p6
       replace q6 := eq_true q6
       go_wp2
       go_roundg k1
       case measure => have := HK1.out; omega
       case rel => exact ⟨(wrap64 (x3_1 + 1)), (by first | rfl | (simp; done) | (simp [*]; done)), H', ⟨by have := HK1.out; omega⟩, by repeat (first | exact Drawn0.refl _ | apply Drawn0.step)⟩
    ·rw [if_neg c3] at H
     exact absurd H (by simp)
   ·rw [if_neg c2] at H
    have c2b0 : decide (x3_1 < (a0.size : Int)) = false := decide_eq_false c2
    clear c2
    obtain rfl := Option.some.inj H
    go_wp2
    go_ret
    exact ⟨by first | rfl | (simp; done) | (simp [*]; done), by repeat (first | exact Drawn0.refl _ | apply Drawn0.step)⟩
mutual
def instarref04_words.l0 : Nat → ByteArray → List ByteArray → Int → Int → Option (List ByteArray × Bool)
 | 0, _, _, _, _ => none
 | k + 1, x0, x4, x5, x6 => if x6 ≤ (x0.size : Int) then (if x6 = (x0.size : Int) then (instarref04_words.j1 k x0 x4 x5 x6 true) else (if 0 ≤ x6 then (if x6 < (x0.size : Int) then (instarref04_words.j1 k x0 x4 x5 x6 ((bt x0 x6) == 32)) else (none)) else (none))) else (some (x4, true))
def instarref04_words.j1 : Nat → ByteArray → List ByteArray → Int → Int → Bool → Option (List ByteArray × Bool)
 | 0, _, _, _, _, _ => none
 | k + 1, x0, x4, x5, x6, x22 => if x22 = true then (if 0 ≤ x5 then (if x5 ≤ x6 then (if x6 ≤ (x0.size : Int) then ((instarref04_Word.f k (x0.extract (x5 : Int).toNat (x6 : Int).toNat)).bind fun t118 => (if t118 = true then (if x4.length < 8796093022208 then (instarref04_words.l0 k x0 (x4 ++ [x0.extract (x5 : Int).toNat (x6 : Int).toNat]) (wrap64 (x6 + 1)) (wrap64 (x6 + 1))) else (none)) else (some (([] : List ByteArray), false)))) else (none)) else (none)) else (none)) else (instarref04_words.l0 k x0 x4 x5 (wrap64 (x6 + 1)))
end
def instarref04_words.f (k : Nat) (a0 : ByteArray) : Option (List ByteArray × Bool) := instarref04_words.l0 k a0 ([] : List ByteArray) 0 0
set_option maxHeartbeats 8000000 in
set_option maxRecDepth 100000 in
theorem instarref04_words.calls (k : Nat) (a0 : ByteArray) (r1 : List ByteArray) (r2 : Bool) (w : World) (h : instarref04_words.f k a0 = some (r1, r2)) :
  Calls Tryd.prog 48 #[.string a0] w fun e w' => ∃ v0_ : Value, e = .returned (.tuple #[v0_, .bool r2]) ∧ Kd.R Kd.string 9 w' w.heap.size (fun _ => True) v0_ r1 ∧ Below w.heap.size w w' := by
 have HB := Aside0.mk (Below.refl w.heap.size w)
 have H : (instarref04_words.l0 k a0 ([] : List ByteArray) 0 0) = some (r1, r2) := h
 clear h
 have H' := Aside0.mk H
 clear H
 go_enter Tryd.func48, Tryd.ntmps48
 go_wp2
 go_loopg [4, 5, 6] k (fun kq v4 v5 v6 w' => ∃ (x4_1 : List ByteArray) (x5_1 : Int) (x6_1 : Int), v5 = .int .i64 x5_1 ∧ v6 = .int .i64 x6_1 ∧ Aside0 (instarref04_words.l0 kq a0 x4_1 x5_1 x6_1 = some (r1, r2)) ∧ Aside0 (kq ≤ k) ∧ Aside0 (Kd.R Kd.string 9 w' w.heap.size (fun _ => True) v4 x4_1) ∧ Aside0 (Below w.heap.size w w'))
 case atStart => exact ⟨(([] : List ByteArray)), (0), (0), (by first | rfl | (simp; done) | (simp [*]; done)), (by first | rfl | (simp; done) | (simp [*]; done)), H', ⟨Nat.le_refl _⟩, ⟨by first | exact Kd.R_nil _ _ _ _ _ | exact Kd.N_nil _ _ _ _ _ | exact Kd.V_nil _ _ _ _ _ | exact Kd.Q_nil _ _ _ _ _ | exact Kd.S_nil _ _ _ _ _⟩, ⟨by repeat (first | (with_reducible first | exact HB.out | apply below_alloc | apply pw_below_drewN | apply below_drew1) | exact HB.out)⟩⟩
 case round =>
  clear H'
  obtain ⟨x4_1, x5_1, x6_1, rfl, rfl, HA, HK1, HO_4, HB⟩ := hrel
  cases gk with
  | zero => exact absurd HA.out (by simp [instarref04_words.l0])
  | succ k1 =>
   have H := HA.out
   clear HA
   simp only [instarref04_words.l0] at H
   by_cases c2 : x6_1 ≤ (a0.size : Int)
   ·rw [if_pos c2] at H
    have c2b0 : decide (x6_1 ≤ (a0.size : Int)) = true := decide_eq_true c2
    clear c2
    have HC3 := Aside0.mk H
    clear H
    go_upto_region 6 with (fail)
    go_cut [22] (fun v22 wc => ∃ (kq : Nat) (x22_2 : Bool), v22 = .bool x22_2 ∧ Aside0 (instarref04_words.j1 kq a0 x4_1 x5_1 x6_1 x22_2 = some (r1, r2)) ∧ Aside0 (kq ≤ k1) ∧ Aside0 (Kd.R Kd.string 9 wc w.heap.size (fun _ => True) u4 x4_1) ∧ Aside0 (Below w.heap.size w wc))
    case first =>
     have H := HC3.out
     clear HC3
     by_cases c4 : x6_1 = (a0.size : Int)
     ·rw [if_pos c4] at H
      have c4b0 : (x6_1 == (a0.size : Int)) = true := beq_iff_eq.mpr c4
      have c4b1 : (x6_1 != (a0.size : Int)) = false := bne_eq_false_iff_eq.mpr c4
      clear c4
      (first | rw [c4b0] | (simp only [i64_w, i32_w]; rw [c4b0]) | skip)
      have H' := Aside0.mk H
      clear H
      go_wp2
      go_meet
      case rel => exact ⟨_, (true), (by first | rfl | (simp; done) | (simp [*]; done)), H', ⟨by have := HK1.out; first | omega | exact Nat.le_refl _⟩, ⟨by (with_reducible repeat (first | apply Kd.R_alloc | apply Kd.R_drewN | apply Kd.R_drew)); exact HO_4.out⟩, ⟨by repeat (first | (with_reducible first | exact HB.out | apply below_alloc | apply pw_below_drewN | apply below_drew1) | exact HB.out)⟩⟩
     ·rw [if_neg c4] at H
      have c4b0 : (x6_1 == (a0.size : Int)) = false := beq_eq_false_iff_ne.mpr c4
      have c4b1 : (x6_1 != (a0.size : Int)) = true := bne_iff_ne.mpr c4
      (first | rw [c4b0] | (simp only [i64_w, i32_w]; rw [c4b0]) | skip)
      by_cases c5 : 0 ≤ x6_1
      ·rw [if_pos c5] at H
       have c5b0 : decide (0 ≤ x6_1) = true := decide_eq_true c5
       clear c5
       by_cases c6 : x6_1 < (a0.size : Int)
       ·rw [if_pos c6] at H
        have c6b0 : decide (x6_1 < (a0.size : Int)) = true := decide_eq_true c6
        clear c6
        have H' := Aside0.mk H
        clear H
        have p7 : 0 ≤ (x6_1 : Int) := of_decide_eq_true (by first | (with_reducible assumption) | assumption)
        have q7 : x6_1 < (a0.size : Int) := of_decide_eq_true (by first | (with_reducible assumption) | assumption)
        have hx7 := bt_at a0 x6_1
        replace p7 := eq_true p7
        replace q7 := eq_true q7
        go_wp2
        go_meet
        case rel => exact ⟨_, (((bt a0 x6_1) == 32)), (by first | rfl | (simp; done) | (simp [*]; done)), H', ⟨by have := HK1.out; first | omega | exact Nat.le_refl _⟩, ⟨by (with_reducible repeat (first | apply Kd.R_alloc | apply Kd.R_drewN | apply Kd.R_drew)); exact HO_4.out⟩, ⟨by repeat (first | (with_reducible first | exact HB.out | apply below_alloc | apply pw_below_drewN | apply below_drew1) | exact HB.out)⟩⟩
       ·rw [if_neg c6] at H
        exact absurd H (by simp)
      ·rw [if_neg c5] at H
       exact absurd H (by simp)
    case rest =>
     clear HC3
     try clear c2
     try clear c2b0
     try clear p2
     try clear c4
     try clear c4b0
     try clear c4b1
     try clear c5
     try clear c5b0
     try clear c6
     try clear c6b0
     try clear p7
     try clear q7
     try clear hx7
     try clear p7
     try clear q7
     obtain ⟨kq, x22_2, rfl, HA, HJ2, HO_4, HB⟩ := hcut
     cases kq with
     | zero => exact absurd HA.out (by simp [instarref04_words.j1])
     | succ kj2 =>
      have H := HA.out
      clear HA
      simp only [instarref04_words.j1] at H
      by_cases c8 : x22_2 = true
      ·subst c8
       have H1 : (if 0 ≤ x5_1 then (if x5_1 ≤ x6_1 then (if x6_1 ≤ (a0.size : Int) then ((instarref04_Word.f kj2 (a0.extract (x5_1 : Int).toNat (x6_1 : Int).toNat)).bind fun t118 => (if t118 = true then (if x4_1.length < 8796093022208 then (instarref04_words.l0 kj2 a0 (x4_1 ++ [a0.extract (x5_1 : Int).toNat (x6_1 : Int).toNat]) (wrap64 (x6_1 + 1)) (wrap64 (x6_1 + 1))) else (none)) else (some (([] : List ByteArray), false)))) else (none)) else (none)) else (none)) = some (r1, r2) := by rw [if_pos rfl] at H; exact H
       clear H
       have H := H1
       clear H1
       by_cases c9 : 0 ≤ x5_1
       ·rw [if_pos c9] at H
        have c9b0 := eq_true c9
        have c9b1 : decide (0 ≤ x5_1) = true := decide_eq_true c9
        clear c9
        by_cases c10 : x5_1 ≤ x6_1
        ·rw [if_pos c10] at H
         have c10b0 := eq_true c10
         have c10b1 : decide (x5_1 ≤ x6_1) = true := decide_eq_true c10
         clear c10
         by_cases c11 : x6_1 ≤ (a0.size : Int)
         ·rw [if_pos c11] at H
          have c11b0 := eq_true c11
          have c11b1 : decide (x6_1 ≤ (a0.size : Int)) = true := decide_eq_true c11
          clear c11
          replace H := Option.bind_eq_some_iff.mp H
          obtain ⟨t118, A120, H⟩ := H
          replace H : (if t118 = true then (if x4_1.length < 8796093022208 then (instarref04_words.l0 kj2 a0 (x4_1 ++ [a0.extract (x5_1 : Int).toNat (x6_1 : Int).toNat]) (wrap64 (x6_1 + 1)) (wrap64 (x6_1 + 1))) else (none)) else (some (([] : List ByteArray), false))) = some (r1, r2) := H
          have A12 := Aside0.mk A120
          clear A120
          by_cases c13 : t118 = true
          ·subst c13
           have H1 : (if x4_1.length < 8796093022208 then (instarref04_words.l0 kj2 a0 (x4_1 ++ [a0.extract (x5_1 : Int).toNat (x6_1 : Int).toNat]) (wrap64 (x6_1 + 1)) (wrap64 (x6_1 + 1))) else (none)) = some (r1, r2) := by rw [if_pos rfl] at H; exact H
           clear H
           have H := H1
           clear H1
           have c14b0 := eq_true (of_decide_eq_true (by first | (with_reducible assumption) | assumption) : 0 ≤ x5_1)
           have c15b0 := eq_true (of_decide_eq_true (by first | (with_reducible assumption) | assumption) : x5_1 ≤ x6_1)
           have c16b0 := eq_true (of_decide_eq_true (by first | (with_reducible assumption) | assumption) : x6_1 ≤ (a0.size : Int))
           by_cases c17 : x4_1.length < 8796093022208
           ·rw [if_pos c17] at H
            have LMc17 := Aside0.mk c17
            clear c17
            obtain ⟨y119, hy119⟩ : ∃ y_ : List ByteArray, y_ = (x4_1 ++ [a0.extract (x5_1 : Int).toNat (x6_1 : Int).toNat]) := ⟨_, rfl⟩
            replace H : (instarref04_words.l0 kj2 a0 y119 (wrap64 (x6_1 + 1)) (wrap64 (x6_1 + 1))) = some (r1, r2) := by first | (rw [hy119]; with_reducible exact H) | (have H2_ := (Option.bind_some _ _).symm.trans H; rw [hy119]; with_reducible exact H2_) | (have H2_ := (Option.bind_some _ _).symm.trans H; with_reducible exact H2_) | with_reducible exact H | (rw [hy119]; exact H) | exact H
            have Ny119 := Aside0.mk hy119
            clear hy119
            have H' := Aside0.mk H
            clear H
            go_wp2_with (first | ((with_reducible refine gate_callee (f := 52) rfl ?_); refine goesL_ (some 27) rfl rfl Tryd.func52 (by kernel_rfl) rfl #[.string (a0.extract (x5_1 : Int).toNat (x6_1 : Int).toNat)] rfl (by (try simp only [List.map_toArray, List.map_cons, List.map_nil]); first | done | rfl | (simp only [List.length_drop, List.length_take]; rfl)) ?_; (with_reducible refine (instarref04_Word.calls kj2 (a0.extract (x5_1 : Int).toNat (x6_1 : Int).toNat) true _ A12.out).mono ?_); rintro e w' ⟨rfl, ⟨nd, rfl⟩⟩; refine ⟨_, rfl, ?_⟩) | ((with_reducible refine gate_builtin (b := .append) (xs := #[.tmp 29, .tmp 34]) rfl ?_); at_builtin; refine Kd.R_append Kd.string (w0 := w) w.heap.size rfl (.tmp 29) (.tmp 34) 84 9 (.string ⟨#[]⟩) 16 rfl Tryd.underlying84 info9 rfl (by decide) (by omega) u4 x4_1 (a0.extract (x5_1 : Int).toNat (x6_1 : Int).toNat) [.string (a0.extract (x5_1 : Int).toNat (x6_1 : Int).toNat)] (fun _ => True) (fun _ => False) rfl rfl ?aP (fun _ hk => hk.elim) ?aF ?aO ?aB ?aS ?aL ?_; (case aP => exact rfl); (case aB => exact (by repeat (first | (with_reducible first | exact HB.out | apply below_alloc | apply pw_below_drewN | apply below_drew1) | exact HB.out))); (case aF => exact (fun _ _ => trivial)); (case aO => exact (by (with_reducible repeat (first | apply Kd.R_alloc | apply Kd.R_drewN | apply Kd.R_drew)); exact HO_4.out)); (case aS => exact (below_size (by repeat (first | (with_reducible first | exact HB.out | apply below_alloc | apply pw_below_drewN | apply below_drew1) | exact HB.out)))); (case aL => have := LMc17.out; omega); intro v120 w18 ho hb hg hat; rw [← Ny119.out] at ho; have n0_ := Aside0.mk (hb); have n1_ := Aside0.mk (ho); clear HB; clear HO_4; have HB := n0_; have HO121 := n1_; clear n0_ n1_; clear ho hb hg hat))
            go_roundg kj2
            case measure => have := HK1.out; have := HJ2.out; omega
            case rel => exact ⟨(y119), (wrap64 (x6_1 + 1)), (wrap64 (x6_1 + 1)), (by first | rfl | (simp; done) | (simp [*]; done)), (by first | rfl | (simp; done) | (simp [*]; done)), H', ⟨by have := HK1.out; have := HJ2.out; omega⟩, ⟨by (with_reducible repeat (first | apply Kd.R_alloc | apply Kd.R_drewN | apply Kd.R_drew)); exact HO121.out⟩, ⟨by repeat (first | (with_reducible first | exact HB.out | apply below_alloc | apply pw_below_drewN | apply below_drew1) | exact HB.out)⟩⟩
           ·rw [if_neg c17] at H
            exact absurd H (by simp)
          ·replace c13 := Bool.eq_false_iff.mpr c13
           subst c13
           have H1 : (some (([] : List ByteArray), false)) = some (r1, r2) := by rw [if_neg (show ¬ (false = true) by decide)] at H; exact H
           clear H
           have H := H1
           clear H1
           simp only [Option.some.injEq, Prod.mk.injEq] at H
           obtain ⟨rfl, rfl⟩ := H
           go_wp2_with (first | ((with_reducible refine gate_callee (f := 52) rfl ?_); refine goesL_ (some 27) rfl rfl Tryd.func52 (by kernel_rfl) rfl #[.string (a0.extract (x5_1 : Int).toNat (x6_1 : Int).toNat)] rfl (by (try simp only [List.map_toArray, List.map_cons, List.map_nil]); first | done | rfl | (simp only [List.length_drop, List.length_take]; rfl)) ?_; (with_reducible refine (instarref04_Word.calls kj2 (a0.extract (x5_1 : Int).toNat (x6_1 : Int).toNat) false _ A12.out).mono ?_); rintro e w' ⟨rfl, ⟨nd, rfl⟩⟩; refine ⟨_, rfl, ?_⟩))
           go_ret2
           exact ⟨_, by first | rfl | (simp [errW_none, errW_some] <;> rfl) | (simp [*, errW_none, errW_some] <;> rfl), by first | exact Kd.R_nil _ _ _ _ _ | exact Kd.N_nil _ _ _ _ _ | exact Kd.V_nil _ _ _ _ _ | exact Kd.Q_nil _ _ _ _ _ | exact Kd.S_nil _ _ _ _ _, by repeat (first | (with_reducible first | exact HB.out | apply below_alloc | apply pw_below_drewN | apply below_drew1) | exact HB.out)⟩
         ·rw [if_neg c11] at H
          exact absurd H (by simp)
        ·rw [if_neg c10] at H
         exact absurd H (by simp)
       ·rw [if_neg c9] at H
        exact absurd H (by simp)
      ·replace c8 := Bool.eq_false_iff.mpr c8
       subst c8
       have H1 : (instarref04_words.l0 kj2 a0 x4_1 x5_1 (wrap64 (x6_1 + 1))) = some (r1, r2) := by rw [if_neg (show ¬ (false = true) by decide)] at H; exact H
       clear H
       have H := H1
       clear H1
       have H' := Aside0.mk H
       clear H
       go_wp2
       go_roundg kj2
       case measure => have := HK1.out; have := HJ2.out; omega
       case rel => exact ⟨(x4_1), (x5_1), (wrap64 (x6_1 + 1)), (by first | rfl | (simp; done) | (simp [*]; done)), (by first | rfl | (simp; done) | (simp [*]; done)), H', ⟨by have := HK1.out; have := HJ2.out; omega⟩, ⟨by (with_reducible repeat (first | apply Kd.R_alloc | apply Kd.R_drewN | apply Kd.R_drew)); exact HO_4.out⟩, ⟨by repeat (first | (with_reducible first | exact HB.out | apply below_alloc | apply pw_below_drewN | apply below_drew1) | exact HB.out)⟩⟩
   ·rw [if_neg c2] at H
    have c2b0 : decide (x6_1 ≤ (a0.size : Int)) = false := decide_eq_false c2
    clear c2
    simp only [Option.some.injEq, Prod.mk.injEq] at H
    obtain ⟨rfl, rfl⟩ := H
    go_wp2
    go_ret2
    exact ⟨_, by first | rfl | (simp [errW_none, errW_some] <;> rfl) | (simp [*, errW_none, errW_some] <;> rfl), by (with_reducible repeat (first | apply Kd.R_alloc | apply Kd.R_drewN | apply Kd.R_drew)); exact HO_4.out, by repeat (first | (with_reducible first | exact HB.out | apply below_alloc | apply pw_below_drewN | apply below_drew1) | exact HB.out)⟩
def instarref04_Lines.l0 : Nat → ByteArray → List (List ByteArray) → Int → Int → Option ((List (List ByteArray)) × Int × Int)
 | 0, _, _, _, _ => none
 | k + 1, x0, x5, x6, x7 => if x7 < (x0.size : Int) then (if 0 ≤ x7 then (if (bt x0 x7) = 10 then (if 0 ≤ x6 then (if x6 ≤ x7 then (if x7 ≤ (x0.size : Int) then ((instarref04_words.f k (x0.extract (x6 : Int).toNat (x7 : Int).toNat)).bind fun bt122 => (if bt122.2 = true then (if x5.length < 5864062014805 then (instarref04_Lines.l0 k x0 (x5 ++ [bt122.1]) (wrap64 (x7 + 1)) (wrap64 (x7 + 1))) else (none)) else (some (([] : List (List ByteArray)), wrap64 ((x5.length : Int) + 1), 4)))) else (none)) else (none)) else (none)) else (instarref04_Lines.l0 k x0 x5 x6 (wrap64 (x7 + 1)))) else (none)) else (if x6 < (x0.size : Int) then (some (([] : List (List ByteArray)), wrap64 ((x5.length : Int) + 1), 4)) else (some (x5, 0, 0)))
def instarref04_Lines.f (k : Nat) (a0 : ByteArray) : Option ((List (List ByteArray)) × Int × Int) := instarref04_Lines.l0 k a0 ([] : List (List ByteArray)) 0 0
set_option maxHeartbeats 8000000 in
set_option maxRecDepth 100000 in
theorem instarref04_Lines.calls (k : Nat) (a0 : ByteArray) (r1 : List (List ByteArray)) (r2 : Int) (r3 : Int) (w : World) (h : instarref04_Lines.f k a0 = some (r1, r2, r3)) :
  Calls Tryd.prog 20 #[.string a0] w fun e w' => ∃ v0_ : Value, e = .returned (.tuple #[v0_, .int .i64 r2, .int .i64 r3]) ∧ Kd.S (Kd.slice 9 Kd.string) 84 w' w.heap.size (fun _ => True) v0_ r1 ∧ Below w.heap.size w w' := by
 have HB := Aside0.mk (Below.refl w.heap.size w)
 have H : (instarref04_Lines.l0 k a0 ([] : List (List ByteArray)) 0 0) = some (r1, r2, r3) := h
 clear h
 have H' := Aside0.mk H
 clear H
 go_enter Tryd.func20, Tryd.ntmps20
 go_wp2
 go_loopg [5, 6, 7] k (fun kq v5 v6 v7 w' => ∃ (x5_1 : List (List ByteArray)) (x6_1 : Int) (x7_1 : Int), v6 = .int .i64 x6_1 ∧ v7 = .int .i64 x7_1 ∧ Aside0 (instarref04_Lines.l0 kq a0 x5_1 x6_1 x7_1 = some (r1, r2, r3)) ∧ Aside0 (kq ≤ k) ∧ Aside0 (Kd.S (Kd.slice 9 Kd.string) 84 w' w.heap.size (fun _ => True) v5 x5_1) ∧ Aside0 (Below w.heap.size w w'))
 case atStart => exact ⟨(([] : List (List ByteArray))), (0), (0), (by first | rfl | (simp; done) | (simp [*]; done)), (by first | rfl | (simp; done) | (simp [*]; done)), H', ⟨Nat.le_refl _⟩, ⟨by first | exact Kd.S_nil _ _ _ _ _ | exact Kd.N_nil _ _ _ _ _ | exact Kd.V_nil _ _ _ _ _ | exact Kd.Q_nil _ _ _ _ _ | exact Kd.R_nil _ _ _ _ _⟩, ⟨by repeat (first | (with_reducible first | exact HB.out | apply below_alloc | apply pw_below_drewN | apply below_drew1) | exact HB.out)⟩⟩
 case round =>
  clear H'
  obtain ⟨x5_1, x6_1, x7_1, rfl, rfl, HA, HK1, HO_5, HB⟩ := hrel
  cases gk with
  | zero => exact absurd HA.out (by simp [instarref04_Lines.l0])
  | succ k1 =>
   have H := HA.out
   clear HA
   simp only [instarref04_Lines.l0] at H
   by_cases c2 : x7_1 < (a0.size : Int)
   ·rw [if_pos c2] at H
    have c2b0 : decide (x7_1 < (a0.size : Int)) = true := decide_eq_true c2
    clear c2
    by_cases c3 : 0 ≤ x7_1
    ·rw [if_pos c3] at H
     have c3b0 : decide (0 ≤ x7_1) = true := decide_eq_true c3
     clear c3
     by_cases c5 : (bt a0 x7_1) = 10
     ·rw [if_pos c5] at H
      have c5b0 : ((bt a0 x7_1) == 10) = true := beq_iff_eq.mpr c5
      have c5b1 : ((bt a0 x7_1) != 10) = false := bne_eq_false_iff_eq.mpr c5
      clear c5
      by_cases c6 : 0 ≤ x6_1
      ·rw [if_pos c6] at H
       have c6b0 := eq_true c6
       have c6b1 : decide (0 ≤ x6_1) = true := decide_eq_true c6
       clear c6
       by_cases c7 : x6_1 ≤ x7_1
       ·rw [if_pos c7] at H
        have c7b0 := eq_true c7
        have c7b1 : decide (x6_1 ≤ x7_1) = true := decide_eq_true c7
        clear c7
        by_cases c8 : x7_1 ≤ (a0.size : Int)
        ·rw [if_pos c8] at H
         have c8b0 := eq_true c8
         have c8b1 : decide (x7_1 ≤ (a0.size : Int)) = true := decide_eq_true c8
         clear c8
         replace H := Option.bind_eq_some_iff.mp H
         obtain ⟨⟨t122, t123⟩, A90, H⟩ := H
         replace H : (if t123 = true then (if x5_1.length < 5864062014805 then (instarref04_Lines.l0 k1 a0 (x5_1 ++ [t122]) (wrap64 (x7_1 + 1)) (wrap64 (x7_1 + 1))) else (none)) else (some (([] : List (List ByteArray)), wrap64 ((x5_1.length : Int) + 1), 4))) = some (r1, r2, r3) := H
         have A9 := Aside0.mk A90
         clear A90
         by_cases c10 : t123 = true
         ·subst c10
          have H1 : (if x5_1.length < 5864062014805 then (instarref04_Lines.l0 k1 a0 (x5_1 ++ [t122]) (wrap64 (x7_1 + 1)) (wrap64 (x7_1 + 1))) else (none)) = some (r1, r2, r3) := by rw [if_pos rfl] at H; exact H
          clear H
          have H := H1
          clear H1
          by_cases c11 : x5_1.length < 5864062014805
          ·rw [if_pos c11] at H
           have LMc11 := Aside0.mk c11
           clear c11
           obtain ⟨y126, hy126⟩ : ∃ y_ : List (List ByteArray), y_ = (x5_1 ++ [t122]) := ⟨_, rfl⟩
           replace H : (instarref04_Lines.l0 k1 a0 y126 (wrap64 (x7_1 + 1)) (wrap64 (x7_1 + 1))) = some (r1, r2, r3) := by first | (rw [hy126]; with_reducible exact H) | (have H2_ := (Option.bind_some _ _).symm.trans H; rw [hy126]; with_reducible exact H2_) | (have H2_ := (Option.bind_some _ _).symm.trans H; with_reducible exact H2_) | with_reducible exact H | (rw [hy126]; exact H) | exact H
           have Ny126 := Aside0.mk hy126
           clear hy126
           have H' := Aside0.mk H
           clear H
           have p4 : 0 ≤ (x7_1 : Int) := of_decide_eq_true (by first | (with_reducible assumption) | assumption)
           have q4 : x7_1 < (a0.size : Int) := of_decide_eq_true (by first | (with_reducible assumption) | assumption)
           have hx4 := bt_at a0 x7_1
           replace p4 := eq_true p4
           replace q4 := eq_true q4
           go_wp2_with (first | ((with_reducible refine gate_callee (f := 48) rfl ?_); refine goesL_ (some 25) rfl rfl Tryd.func48 (by kernel_rfl) rfl #[.string (a0.extract (x6_1 : Int).toNat (x7_1 : Int).toNat)] rfl (by (try simp only [List.map_toArray, List.map_cons, List.map_nil]); first | done | rfl | (simp only [List.length_drop, List.length_take]; rfl)) ?_; (with_reducible refine (instarref04_words.calls k1 (a0.extract (x6_1 : Int).toNat (x7_1 : Int).toNat) t122 true _ A9.out).mono ?_); rintro e w12 ⟨v124, rfl, ho0, hb⟩; refine ⟨_, rfl, ?_⟩; have n0_ := Aside0.mk (Kd.S_elder' (by (with_reducible repeat (first | apply Kd.S_alloc | apply Kd.S_drewN | apply Kd.S_drew)); exact HO_5.out) (Kd.R_base ho0) hb); have n1_ := Aside0.mk (Kd.R_lower ho0 (below_size (by repeat (first | (with_reducible first | exact HB.out | apply below_alloc | apply pw_below_drewN | apply below_drew1) | exact HB.out)))); have n2_ := Aside0.mk (below_step (by repeat (first | (with_reducible first | exact HB.out | apply below_alloc | apply pw_below_drewN | apply below_drew1) | exact HB.out)) hb); clear HO_5; clear HB; have HO_5 := n0_; have HO125 := n1_; have HB := n2_; clear n0_ n1_ n2_; (try clear hb); (try clear hb2); (try clear hk); (try clear hi); (try clear ho0); obtain ⟨Ao14, co14, eo14⟩ := Kd.R_slice HO125.out; subst eo14) | ((with_reducible refine gate_builtin (b := .append) (xs := #[.tmp 33, .tmp 35]) rfl ?_); at_builtin; refine Kd.S_append (Kd.slice 9 Kd.string) (w0 := w) w.heap.size rfl (.tmp 33) (.tmp 35) 36 84 (.slice none 0 0) 24 rfl Tryd.underlying36 info84 rfl (by decide) (by omega) u5 x5_1 t122 [.slice Ao14 t122.length co14] (fun _ => True) (fun k_ => some k_ = (.slice Ao14 t122.length co14 : Value).ownBlock) rfl rfl ?aP (fun k_ hk_ => ((Kd.R_mono (ok' := fun k_ => ((fun _ => True)) k_ ∧ some k_ ≠ (u5 : Value).ownBlock) (Kd.R_apart' (HO125.out) (Kd.S_typed HO_5.out) (by decide)) (fun k_ hk => ⟨trivial, hk.2⟩))).1 k_ hk_.symm) ?aF ?aO ?aB ?aS ?aL ?_; (case aP => exact Kd.M_row (Kd.R_mono (Kd.R_tight rfl (Kd.R_mono (ok' := fun k_ => ((fun _ => True)) k_ ∧ some k_ ≠ (u5 : Value).ownBlock) (Kd.R_apart' (HO125.out) (Kd.S_typed HO_5.out) (by decide)) (fun k_ hk => ⟨trivial, hk.2⟩))) (fun _ h_ => h_))); (case aB => exact (by repeat (first | (with_reducible first | exact HB.out | apply below_alloc | apply pw_below_drewN | apply below_drew1) | exact HB.out))); (case aF => exact (fun _ _ => trivial)); (case aO => exact (by (with_reducible repeat (first | apply Kd.S_alloc | apply Kd.S_drewN | apply Kd.S_drew)); exact Kd.S_mono HO_5.out (fun k_ hk => ⟨trivial, fun e_ => hk.2 e_⟩))); (case aS => exact (below_size (by repeat (first | (with_reducible first | exact HB.out | apply below_alloc | apply pw_below_drewN | apply below_drew1) | exact HB.out)))); (case aL => have := LMc11.out; omega); intro v127 w13 ho hb hg hat; rw [← Ny126.out] at ho; have n0_ := Aside0.mk (hb); have n1_ := Aside0.mk (ho); clear HB; clear HO_5; clear HO125; have HB := n0_; have HO128 := n1_; clear n0_ n1_; clear ho hb hg hat))
           go_roundg k1
           case measure => have := HK1.out; omega
           case rel => exact ⟨(y126), (wrap64 (x7_1 + 1)), (wrap64 (x7_1 + 1)), (by first | rfl | (simp; done) | (simp [*]; done)), (by first | rfl | (simp; done) | (simp [*]; done)), H', ⟨by have := HK1.out; omega⟩, ⟨by (with_reducible repeat (first | apply Kd.S_alloc | apply Kd.S_drewN | apply Kd.S_drew)); exact HO128.out⟩, ⟨by repeat (first | (with_reducible first | exact HB.out | apply below_alloc | apply pw_below_drewN | apply below_drew1) | exact HB.out)⟩⟩
          ·rw [if_neg c11] at H
           exact absurd H (by simp)
         ·replace c10 := Bool.eq_false_iff.mpr c10
          subst c10
          have H1 : (some (([] : List (List ByteArray)), wrap64 ((x5_1.length : Int) + 1), 4)) = some (r1, r2, r3) := by rw [if_neg (show ¬ (false = true) by decide)] at H; exact H
          clear H
          have H := H1
          clear H1
          simp only [Option.some.injEq, Prod.mk.injEq] at H
          obtain ⟨rfl, rfl, rfl⟩ := H
          have p4 : 0 ≤ (x7_1 : Int) := of_decide_eq_true (by first | (with_reducible assumption) | assumption)
          have q4 : x7_1 < (a0.size : Int) := of_decide_eq_true (by first | (with_reducible assumption) | assumption)
          have hx4 := bt_at a0 x7_1
          replace p4 := eq_true p4
          replace q4 := eq_true q4
          go_wp2_with (first | ((with_reducible refine gate_callee (f := 48) rfl ?_); refine goesL_ (some 25) rfl rfl Tryd.func48 (by kernel_rfl) rfl #[.string (a0.extract (x6_1 : Int).toNat (x7_1 : Int).toNat)] rfl (by (try simp only [List.map_toArray, List.map_cons, List.map_nil]); first | done | rfl | (simp only [List.length_drop, List.length_take]; rfl)) ?_; (with_reducible refine (instarref04_words.calls k1 (a0.extract (x6_1 : Int).toNat (x7_1 : Int).toNat) t122 false _ A9.out).mono ?_); rintro e w15 ⟨v124, rfl, ho0, hb⟩; refine ⟨_, rfl, ?_⟩; have n0_ := Aside0.mk (Kd.S_elder' (by (with_reducible repeat (first | apply Kd.S_alloc | apply Kd.S_drewN | apply Kd.S_drew)); exact HO_5.out) (Kd.R_base ho0) hb); have n1_ := Aside0.mk (Kd.R_lower ho0 (below_size (by repeat (first | (with_reducible first | exact HB.out | apply below_alloc | apply pw_below_drewN | apply below_drew1) | exact HB.out)))); have n2_ := Aside0.mk (below_step (by repeat (first | (with_reducible first | exact HB.out | apply below_alloc | apply pw_below_drewN | apply below_drew1) | exact HB.out)) hb); clear HO_5; clear HB; have HO_5 := n0_; have HO125 := n1_; have HB := n2_; clear n0_ n1_ n2_; (try clear hb); (try clear hb2); (try clear hk); (try clear hi); (try clear ho0); obtain ⟨Ao16, co16, eo16⟩ := Kd.S_slice HO_5.out; subst eo16))
          go_ret3
          exact ⟨_, by first | rfl | (simp [errW_none, errW_some] <;> rfl) | (simp [*, errW_none, errW_some] <;> rfl), by first | exact Kd.S_nil _ _ _ _ _ | exact Kd.N_nil _ _ _ _ _ | exact Kd.V_nil _ _ _ _ _ | exact Kd.Q_nil _ _ _ _ _ | exact Kd.R_nil _ _ _ _ _, by repeat (first | (with_reducible first | exact HB.out | apply below_alloc | apply pw_below_drewN | apply below_drew1) | exact HB.out)⟩
        ·rw [if_neg c8] at H
         exact absurd H (by simp)
       ·rw [if_neg c7] at H
        exact absurd H (by simp)
      ·rw [if_neg c6] at H
       exact absurd H (by simp)
     ·rw [if_neg c5] at H
      have c5b0 : ((bt a0 x7_1) == 10) = false := beq_eq_false_iff_ne.mpr c5
      have c5b1 : ((bt a0 x7_1) != 10) = true := bne_iff_ne.mpr c5
      have H' := Aside0.mk H
      clear H
      have p4 : 0 ≤ (x7_1 : Int) := of_decide_eq_true (by first | (with_reducible assumption) | assumption)
      have q4 : x7_1 < (a0.size : Int) := of_decide_eq_true (by first | (with_reducible assumption) | assumption)
      have hx4 := bt_at a0 x7_1
      replace p4 := eq_true p4
      replace q4 := eq_true q4
      go_wp2
      go_roundg k1
      case measure => have := HK1.out; omega
      case rel => exact ⟨(x5_1), (x6_1), (wrap64 (x7_1 + 1)), (by first | rfl | (simp; done) | (simp [*]; done)), (by first | rfl | (simp; done) | (simp [*]; done)), H', ⟨by have := HK1.out; omega⟩, ⟨by (with_reducible repeat (first | apply Kd.S_alloc | apply Kd.S_drewN | apply Kd.S_drew)); exact HO_5.out⟩, ⟨by repeat (first | (with_reducible first | exact HB.out | apply below_alloc | apply pw_below_drewN | apply below_drew1) | exact HB.out)⟩⟩
    ·rw [if_neg c3] at H
     exact absurd H (by simp)
   ·rw [if_neg c2] at H
    have c2b0 : decide (x7_1 < (a0.size : Int)) = false := decide_eq_false c2
    clear c2
    by_cases c17 : x6_1 < (a0.size : Int)
    ·rw [if_pos c17] at H
     have c17b0 : decide (x6_1 < (a0.size : Int)) = true := decide_eq_true c17
     clear c17
     simp only [Option.some.injEq, Prod.mk.injEq] at H
     obtain ⟨rfl, rfl, rfl⟩ := H
     obtain ⟨Ao18, co18, eo18⟩ := Kd.S_slice HO_5.out
     subst eo18
     go_wp2
     go_ret3
     exact ⟨_, by first | rfl | (simp [errW_none, errW_some] <;> rfl) | (simp [*, errW_none, errW_some] <;> rfl), by first | exact Kd.S_nil _ _ _ _ _ | exact Kd.N_nil _ _ _ _ _ | exact Kd.V_nil _ _ _ _ _ | exact Kd.Q_nil _ _ _ _ _ | exact Kd.R_nil _ _ _ _ _, by repeat (first | (with_reducible first | exact HB.out | apply below_alloc | apply pw_below_drewN | apply below_drew1) | exact HB.out)⟩
    ·rw [if_neg c17] at H
     have c17b0 : decide (x6_1 < (a0.size : Int)) = false := decide_eq_false c17
     clear c17
     simp only [Option.some.injEq, Prod.mk.injEq] at H
     obtain ⟨rfl, rfl, rfl⟩ := H
     go_wp2
     go_ret3
     exact ⟨_, by first | rfl | (simp [errW_none, errW_some] <;> rfl) | (simp [*, errW_none, errW_some] <;> rfl), by (with_reducible repeat (first | apply Kd.S_alloc | apply Kd.S_drewN | apply Kd.S_drew)); exact HO_5.out, by repeat (first | (with_reducible first | exact HB.out | apply below_alloc | apply pw_below_drewN | apply below_drew1) | exact HB.out)⟩
end Go.Proofs.YtiddiboclfpklaaDoor.TxS
