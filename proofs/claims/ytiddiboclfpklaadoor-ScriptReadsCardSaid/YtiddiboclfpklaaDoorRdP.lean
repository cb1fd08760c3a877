/- Lemmas that the claim's theorem uses. -/
import Derived.RangeFuncNested
import Derived.RangeFuncBound
import Derived.RangeFuncCalls
import Derived.RangeFuncLeaves
import Derived.RangeFuncBox
import Derived.Shelf.Abstract
import Derived.Shelf.RegionOpen
import Derived.WalkKit
import Derived.OwnWalkIn
import Derived.TacticsInMore
import Derived.LoopNIn
import Derived.LoopIn
import Derived.Maps.OwnIn
import Derived.Test.YtiddiboclfpklaaDoorRdE
import Derived.Test.YtiddiboclfpklaaDoorRdJ
namespace Go.Proofs.YtiddiboclfpklaaDoor.Tx
open Go.RowKit Go.Shelf Go.Maps Go.Proofs.YtiddiboclfpklaaDoorW.PrintWords
set_option linter.unusedVariables false
attribute [local go_sem] Oper.semAt_some
def AbBox {β : Type} (B : Nat) (J : β → World → Prop) : Prop := ∀ s W W' row, J s W → W.grownBy W' row → (∀ r, row = some r → r = B) → J s W'
def SeqBox {α : Type} (n g : Nat) (lb : Array Value) (encs : α → Array Value) (B : Nat) (Pok : α → Prop) (S Sp : List α → Prop) (N : Nat) (w : World) : Prop :=
 ∀ (l : Nat) (J Jx : List α → World → Prop) (W : World), Below w.heap.size w W → AbBox B J →
  (∀ pre x V, Pok x → J pre V → pre.length < N → YieldAt Fence.wide (n - 1) Tryd.prog l (encs x) V fun e V' =>
   (e = .returned (.bool true) ∧ J (pre ++ [x]) V' ∧ V'.heap[B]? = V.heap[B]?) ∨ (e = .returned (.bool false) ∧ Jx (pre ++ [x]) V')) →
  J [] W →
  CallsIn Fence.wide n Tryd.prog g (#[.func (.yield l) #[] #[]] ++ lb) W fun e V => (∃ v, e = .returned v) ∧ ((∃ xs, S xs ∧ J xs V) ∨ (∃ pre, Sp pre ∧ Jx pre V))
def boxPost {α : Type} (B0 B : Nat) (I Ix : List α → World → Prop) (xs : List α) (W : World) : Exit → Act → World → Prop
 | .normal, _, W' => KeepsFrom B0 W W' ∧ W'.heap[B]? = W.heap[B]? ∧ I xs W'
 | .ret, _, W' => KeepsFrom B0 W W' ∧ Ix xs W'
 | _, _, _ => False
def OwnBox {β : Type} (B0 B : Nat) (I : β → World → Prop) : Prop := ∀ s W W' row, I s W → W.grownBy W' row → (∀ r, row = some r → r = B ∨ (B0 ≤ r ∧ ∃ o : Obj, W.heap[r]? = some o ∧ o.isCells = false)) → I s W'
theorem OwnBox.put {β : Type} {B0 B : Nat} {I : β → World → Prop} (h : OwnBox B0 B I) {s : β} {W : World} {l : Nat} {o : Obj} (o' : Obj) (hs : I s W) (hB : B0 ≤ l) (hl : W.heap[l]? = some o) (ho : o.isCells = false) : I s (W.putObj l o') :=
 h s W _ (some l) hs (grownBy_putObj' W l o') (fun r e => by cases e; exact .inr ⟨hB, o, hl, ho⟩)
theorem OwnBox.lay {β : Type} {B0 B : Nat} {I : β → World → Prop} (h : OwnBox B0 B I) {s : β} {W : World} (o : Obj) (hs : I s W) : I s (W.alloc o) :=
 h s W _ none hs (World.grownBy_alloc W o none) (fun r e => by cases e)
set_option maxHeartbeats 1000000 in
theorem rangeBox {α : Type} {n : Nat} {g : Operand} {ps : Array Tmp} {assign body : Code} {Q : Exit → Act → World → Prop} {a : Act} {w : World}
  (h1 : 1 ≤ n) {gf : Nat} {lb : Array Value} (hg : a.eval g = .func (.func gf) #[] lb) (eg : ∀ args w, (callFunc gf args).run Tryd.prog w = .ok (.enter gf args) w)
  {encs : α → Array Value} {B : Nat} {Pok : α → Prop} {S Sp : List α → Prop} {N : Nat} {w0 : World} (hseq : SeqBox (n - 1) gf lb encs B Pok S Sp N w0)
  (hB : B < w.heap.size) (hb0 : Below w0.heap.size w0 w) (hps : ∀ x, (encs x).size = ps.size)
  (I Ix : List α → World → Prop) (hI : OwnBox w.heap.size B I) (hIx : OwnBox w.heap.size B Ix) (h0 : I [] w) (a₁ : α → Act)
  (hassign : ∀ (l : Nat) (x : α) (W : World) (K : Act → World → Prop), K (a₁ x) W →
   assign.wpIn (Fence.wide.inRound l) (n - 1 - 1) Tryd.prog (Exit.then K (fun _ _ _ => False)) { tmps := (ps.zip (encs x)).foldl (fun t (p, v) => t.setIfInBounds p v) a.tmps, defers := [] } W)
  (hbody : ∀ (l : Nat) (pre : List α) (x : α) (W : World), Pok x → I pre W → pre.length < N → body.wpIn (Fence.wide.inRound l) (n - 1 - 1) Tryd.prog (boxPost w.heap.size B I Ix (pre ++ [x]) W) (a₁ x) W)
  (hdone : ∀ (D : Nat) (xs : List α) (W : World), w.heap.size ≤ D → S xs → I xs W → W.heap[D]? = some (.deferred (some [])) → Q .normal { a with defers := { target := .collected D, args := #[] } :: a.defers } W)
  (hstop : ∀ (D : Nat) (pre : List α) (W : World), w.heap.size ≤ D → Sp pre → Ix pre W → W.heap[D]? = some (.deferred (some [])) → Code.ret.wpIn Fence.wide n Tryd.prog Q { a with defers := { target := .collected D, args := #[] } :: a.defers } W) :
  (Code.rangeFunc g ps assign body).wpIn Fence.wide n Tryd.prog Q a w := by
 refine wpIn_rangeFunc ?_
 intro fn hfn
 rw [show Fence.wide.round = none from rfl]
 obtain ⟨m, hm⟩ : ∃ m, w.heap.size = m := ⟨_, rfl⟩
 rw [hm] at hB hI hIx hbody hdone hstop
 obtain ⟨rc, hrc⟩ : ∃ rc : LoopState → Option Code → Loop, rc = fun st pe => { state := st, pending := pe, fn, tmps := a.tmps, params := ps, assign, body, defers := m } := ⟨_, rfl⟩
 obtain ⟨W1, hW1⟩ : ∃ W1, (w.alloc (.deferred (some []))).alloc (.loop (rc .ready none)) = W1 := ⟨_, rfl⟩
 have hR1 : W1.heap[m + 1]? = some (.loop (rc .ready none)) := by
  rw [← hW1, ← hm]
  have h := World.alloc_heap_new (w.alloc (.deferred (some []))) (.loop (rc .ready none))
  rwa [World.size_alloc] at h
 have hD1 : W1.heap[m]? = some (.deferred (some [])) := by
  rw [← hW1, ← hm]
  exact (Below.heap_alloc _ _ _ (by simp)).trans (World.alloc_heap_new w _)
 have hI1 : I [] W1 := by rw [← hW1]; exact hI.lay _ (hI.lay _ h0)
 have hb1 : Below w0.heap.size w0 W1 := by
  rw [← hW1]
  exact hb0.trans ((((Below.refl _ w).alloc (Nat.le_refl _) _).alloc (by simp) _).mono hb0.size)
 refine ⟨m + 1, [{ target := .collected m, args := #[] }], W1, { target := .fn (.func gf) lb, args := #[.func (.yield (m + 1)) #[] #[]] }, W1, gf, #[.func (.yield (m + 1)) #[] #[]] ++ lb, W1, ?_, ?_, fun _ _ => trivial, ?_, fun _ => h1, ?_⟩
 ·rw [← hW1, hrc, ← hm]; exact run_enterLoop_outer _ _ _ _ _
 ·simp only [resolve, hg]
  simp [go_sem]
 ·simp [invoke, go_sem, eg]
 ·refine (hseq (m + 1) (fun pre W => I pre W ∧ W.heap[m + 1]? = some (.loop (rc .ready none)) ∧ W.heap[m]? = some (.deferred (some [])))
   (fun pre W => Ix pre W ∧ W.heap[m + 1]? = some (.loop (rc .done (some .ret))) ∧ W.heap[m]? = some (.deferred (some []))) W1 hb1 ?_ ?_ ⟨hI1, hR1, hD1⟩).mono ?_
  ·intro s A C row hs hg' hr
   have keep : ∀ k o, m ≤ k → A.heap[k]? = some o → C.heap[k]? = some o := fun k o hk ho => (hg'.block k (Array.getElem?_eq_some_iff.1 ho).1 (fun e => by have := hr k e.symm; omega)).trans ho
   exact ⟨hI s A C row hs.1 hg' (fun r e => .inl (hr r e)), keep _ _ (by omega) hs.2.1, keep _ _ (Nat.le_refl _) hs.2.2⟩
  ·rintro pre x W hx ⟨hi, hl, hk⟩ hlen
   have hlt : m + 1 < W.heap.size := (Array.getElem?_eq_some_iff.1 hl).1
   have hy := run_yield (P := Tryd.prog) (args := encs x) hl (by rw [hrc]; exact hps x)
   rw [hrc] at hy
   refine ⟨fn, _, assign, body, hy, roundIn_of_wpIn hfn (hassign _ x W _ ⟨_, run_beginRound hl (by rw [hrc]), ?_⟩)⟩
   obtain ⟨V, hV⟩ : ∃ V, W.putObj (m + 1) (.loop { rc .ready none with state := .busy }) = V := ⟨_, rfl⟩
   have hl2 : V.heap[m + 1]? = some (.loop { rc .ready none with state := .busy }) := by rw [← hV]; exact World.putObj_heap_same hlt
   have hk2 : V.heap[m]? = some (.deferred (some [])) := by rw [← hV]; exact (World.putObj_heap_other (by omega)).trans hk
   have hv2 : V.heap[B]? = W.heap[B]? := by rw [← hV]; exact World.putObj_heap_other (by omega)
   have hi2 : I pre V := by rw [← hV]; exact hI.put _ hi (by omega) hl rfl
   rw [hV]
   refine wpIn_mono (hbody _ pre x V hx hi2 hlen) ?_
   have fin : ∀ (jump : Option Code) (Z : World), KeepsFrom m V Z →
     (Instr.endRound (m + 1) jump).run Tryd.prog Z = .ok (.bool jump.isNone) (Z.putObj (m + 1) (.loop (rc (if jump.isNone then .ready else .done) jump))) ∧
     Z.heap[m + 1]? = some (.loop { rc .ready none with state := .busy }) ∧
     (Z.putObj (m + 1) (.loop (rc (if jump.isNone then .ready else .done) jump))).heap[m + 1]? = some (.loop (rc (if jump.isNone then .ready else .done) jump)) ∧
     (Z.putObj (m + 1) (.loop (rc (if jump.isNone then .ready else .done) jump))).heap[m]? = some (.deferred (some [])) := fun jump Z hz => by
    have hz1 := hz.same _ _ (by omega) hl2 rfl
    have h := run_endRound (P := Tryd.prog) jump hz1
    rw [hrc] at h ⊢
    exact ⟨h, by rw [hrc] at hz1; exact hz1, World.putObj_heap_same (Array.getElem?_eq_some_iff.1 hz1).1, (World.putObj_heap_other (by omega)).trans (hz.same _ _ (Nat.le_refl _) hk2 rfl)⟩
   rintro e a3 Z hp
   cases e with
   | normal =>
    obtain ⟨hz, hzB, hzi⟩ := hp
    obtain ⟨hr, f1, f2, f3⟩ := fin none Z hz
    exact ⟨_, _, hr, .inl ⟨rfl, ⟨hI.put _ hzi (by omega) f1 rfl, f2, f3⟩, ((World.putObj_heap_other (by omega)).trans hzB).trans hv2⟩⟩
   | ret =>
    obtain ⟨hz, hzi⟩ := hp
    obtain ⟨hr, f1, f2, f3⟩ := fin (some .ret) Z hz
    exact ⟨_, _, hr, .inr ⟨rfl, hIx.put _ hzi (by omega) f1 rfl, f2, f3⟩⟩
   | exit id => exact hp.elim
   | goto t => exact hp.elim
   | panic ch => exact hp.elim
   | outgrown => exact hp.elim
  ·rintro e Z ⟨⟨v, rfl⟩, (⟨xs, hS, hi, hl, hk⟩ | ⟨pre, hSp, hi, hl, hk⟩)⟩
   ·exact ⟨none, _, by have := run_endLoop (P := Tryd.prog) hl (by rw [hrc]; simp); rw [hrc] at this; exact this, hdone _ xs _ (Nat.le_refl _) hS (hI.put _ hi (by omega) hl rfl) ((World.putObj_heap_other (by omega)).trans hk)⟩
   ·exact ⟨some .ret, _, by have := run_endLoop (P := Tryd.prog) hl (by rw [hrc]; simp); rw [hrc] at this; exact this, hstop _ pre _ (Nat.le_refl _) hSp (hIx.put _ hi (by omega) hl rfl) ((World.putObj_heap_other (by omega)).trans hk)⟩
def rowsF : Nat → ByteArray → List (ByteArray × Bool)
 | 0, _ => []
 | n + 1, s => if s.size = 0 then [] else
  if Lib.indexByte s.data.toList 10 = -1 then [(s, false)] else
  (s.extract 0 (Lib.indexByte s.data.toList 10).toNat, true) :: rowsF n (s.extract ((Lib.indexByte s.data.toList 10).toNat + 1) s.size)
def encRow (x : ByteArray × Bool) : Array Value := #[.string x.1, .bool x.2]
end Go.Proofs.YtiddiboclfpklaaDoor.Tx
namespace Go.Proofs.YtiddiboclfpklaaDoor.Tx
open Go.RowKit Go.Shelf Go.Maps Go.Proofs.YtiddiboclfpklaaDoorW.PrintWords
set_option linter.unusedVariables false
attribute [local go_sem] Oper.semAt_some
def sizeAt (B : Nat) (W : World) : Nat := match W.cell? ⟨B, 0, none⟩ with
 | some (.string s) => s.size
 | _ => 0
theorem sizeAt_of {B : Nat} {W : World} {s : ByteArray} (h : Boxed W B 9 (.string s)) : sizeAt B W = s.size := by
 unfold sizeAt
 rw [h.cell]
theorem grown_drewN (w : World) (n : Nat) : w.grownBy (w.drewN n) none := ⟨rfl, rfl, rfl, Nat.le_refl _, fun _ _ _ => rfl⟩
theorem rowsF_nil (n : Nat) (s : ByteArray) (h : s.size = 0) : rowsF n s = [] := by
 cases n with
 | zero => rfl
 | succ n => rw [rowsF, if_pos h]
set_option maxRecDepth 100000 in
set_option maxHeartbeats 2000000 in
theorem rows1_in (n : Nat) (hn : 1 ≤ n) (l B : Nat) (s : ByteArray) (hs : s.size ≤ 140737488355328) (J Jx : List (ByteArray × Bool) → World → Prop) (hJ : AbBox B J)
  (hY : ∀ pre x V, x.1.size ≤ s.size → J pre V → pre.length < s.size → YieldAt Fence.wide (n - 1) Tryd.prog l (encRow x) V fun e V' =>
   (e = .returned (.bool true) ∧ J (pre ++ [x]) V' ∧ V'.heap[B]? = V.heap[B]?) ∨ (e = .returned (.bool false) ∧ Jx (pre ++ [x]) V'))
  (W : World) (hb : Boxed W B 9 (.string s)) (h0 : J [] W) :
  CallsIn Fence.wide n Tryd.prog 69 #[.func (.yield l) #[] #[], .pointer (some ⟨B, 0, none⟩)] W fun e V => (∃ v, e = .returned v) ∧
   ((∃ xs, xs = rowsF s.size s ∧ J xs V) ∨ (∃ pre, (∃ rest, rowsF s.size s = pre ++ rest) ∧ Jx pre V)) := by
 refine callsIn_of_wp Tryd.func69 rfl trivial ?_ rfl
 simp only [Tryd.ntmps69, List.size_toArray, List.length_cons, List.length_nil, Nat.reduceAdd, Nat.reduceSub, Array.replicate_succ, Array.replicate_zero, List.push_toArray, List.append_toArray, List.nil_append, List.cons_append]
 have HY := Aside0.mk hY
 have HJ := Aside0.mk hJ
 clear hY hJ
 obtain ⟨N, hN⟩ : ∃ N, s.size = N := ⟨_, rfl⟩
 have HN := Aside0.mk hN
 gi_wp2
 gi_loopw [] (fun wr => ∃ (m : Nat) (sr : ByteArray), Boxed wr B 9 (.string sr) ∧ sr.size ≤ m ∧ sr.size ≤ N ∧ Aside0 (∃ pre, rowsF s.size s = pre ++ rowsF m sr ∧ pre.length + m = s.size ∧ J pre wr)) (fun wr => sizeAt B wr)
 case atStart => exact ⟨s.size, s, hb, Nat.le_refl _, by omega, ⟨[], rfl, by simp, h0⟩⟩
 case round =>
  obtain ⟨m, sr, hbx, hm, hsN, ⟨pre, hpre, hlen, hJs⟩⟩ := hrel
  have hc := hbx.cell
  have hf := hbx.frozen
  have HBX := Aside0.mk hbx
  have HP := Aside0.mk (And.intro hpre (And.intro hlen hJs))
  clear hbx hpre hlen hJs
  by_cases hz : sr.size = 0
  ·have e : sr = ⟨#[]⟩ := by
    apply ByteArray.ext
    exact Array.eq_empty_of_size_eq_zero hz
   subst e
   gi_wp2
   go_end0
   refine ⟨⟨_, rfl⟩, .inl ⟨pre, ?_, HP.out.2.2⟩⟩
   rw [HP.out.1, rowsF_nil _ _ rfl, List.append_nil]
  ·have hne : sr.toList.isEmpty = false := by
    rw [Lib.toList_data]
    have hl : sr.data.toList.length = sr.size := data_length sr
    cases hq : sr.data.toList with
    | nil => rw [hq] at hl; exact absurd hl.symm hz
    | cons a l => rfl
   obtain ⟨m', rfl⟩ : ∃ m', m = m' + 1 := ⟨m - 1, by omega⟩
   have HNE := Aside0.mk hne
   rcases indexByte_cases sr.data.toList 10 with hi | ⟨k, hi, hk⟩
   ·have HR : Aside0 (rowsF (m' + 1) sr = [(sr, false)] ++ rowsF m' ⟨#[]⟩) := ⟨by rw [rowsF, if_neg hz, if_pos hi, rowsF_nil _ _ rfl]; rfl⟩
    have HI := Aside0.mk hi
    clear hi
    obtain ⟨fn, tmps, assign, body, hy, hR⟩ := HY.out pre (sr, false) wr (by show sr.size ≤ s.size; omega) HP.out.2.2 (by have := HP.out.2.1; omega)
    unfold encRow at hy
    have HR2 := Aside0.mk hR
    clear hR
    gi_wp2_with ((refine ⟨trivial, ?_⟩; gi_at_call 70; refine (callsIn_wide.2 (strings_cut_none _ _ HI.out _)).mono ?_; rintro e w' ⟨rfl, rfl⟩))
    refine HR2.out.mono ?_
    rintro e W3 (⟨rfl, hJ3, hk3⟩ | ⟨rfl, hJx3⟩)
    ·have hb3 : Boxed W3 B 9 (.string sr) := hk3.trans HBX.out
     have hc3 := hb3.cell
     have hf3 := hb3.frozen
     have HB3 := Aside0.mk (hb3.set (.string ⟨#[]⟩))
     have HJ3 := Aside0.mk (HJ.out _ _ _ (some B) hJ3 (grownBy_setCell' W3 B (.string ⟨#[]⟩)) (fun r e => by cases e; rfl))
     clear hb3 hJ3 hk3
     gi_wp2
     go_roundw
     case rel => exact ⟨m', ⟨#[]⟩, HB3.out, Nat.zero_le _, Nat.zero_le _, ⟨pre ++ [(sr, false)], by rw [HP.out.1, HR.out, List.append_assoc], by have := HP.out.2.1; simp; omega, HJ3.out⟩⟩
     case measure =>
      rw [sizeAt_of HB3.out, sizeAt_of HBX.out]
      show 0 < sr.size
      omega
    ·have HX := Aside0.mk hJx3
     clear hJx3
     gi_wp2
     refine bodyPost_ret (results_none rfl _ _ _) rfl ?_
     exact ⟨⟨_, rfl⟩, .inr ⟨pre ++ [(sr, false)], ⟨_, by rw [HP.out.1, HR.out, List.append_assoc]⟩, HX.out⟩⟩
   ·rw [data_length] at hk
    have HR : Aside0 (rowsF (m' + 1) sr = [(sr.extract 0 k, true)] ++ rowsF m' (sr.extract (k + 1) sr.size)) := ⟨by rw [rowsF, if_neg hz, if_neg (by rw [hi]; omega), hi, Int.toNat_natCast]; rfl⟩
    have HI := Aside0.mk hi
    clear hi
    gi_wp2_with ((refine ⟨trivial, ?_⟩; gi_at_call 70; refine (callsIn_wide.2 (strings_cut_some _ _ k HI.out hk (by omega) _)).mono ?_; rintro e w' ⟨rfl, nq, rfl⟩; obtain ⟨fn, tmps, assign, body, hy, hR⟩ := HY.out pre (sr.extract 0 k, true) (wr.drewN nq) (by simp; omega) (HJ.out _ _ _ none HP.out.2.2 (grown_drewN wr nq) (fun r e => by cases e)) (by have := HP.out.2.1; omega); unfold encRow at hy; have HR3 := Aside0.mk hR; clear hR))
    refine HR3.out.mono ?_
    rintro e W3 (⟨rfl, hJ3, hk3⟩ | ⟨rfl, hJx3⟩)
    ·have hb3 : Boxed W3 B 9 (.string sr) := hk3.trans HBX.out
     have hc3 := hb3.cell
     have hf3 := hb3.frozen
     have HB3 := Aside0.mk (hb3.set (.string (sr.extract (k + 1) sr.size)))
     have HJ3 := Aside0.mk (HJ.out _ _ _ (some B) hJ3 (grownBy_setCell' W3 B (.string (sr.extract (k + 1) sr.size))) (fun r e => by cases e; rfl))
     clear hb3 hJ3 hk3
     gi_wp2
     go_roundw
     case rel => exact ⟨m', sr.extract (k + 1) sr.size, HB3.out, by simp; omega, by simp; omega, ⟨pre ++ [(sr.extract 0 k, true)], by rw [HP.out.1, HR.out, List.append_assoc], by have := HP.out.2.1; simp; omega, HJ3.out⟩⟩
     case measure =>
      rw [sizeAt_of HB3.out, sizeAt_of HBX.out]
      simp; omega
    ·have HX := Aside0.mk hJx3
     clear hJx3
     gi_wp2
     refine bodyPost_ret (results_none rfl _ _ _) rfl ?_
     exact ⟨⟨_, rfl⟩, .inr ⟨pre ++ [(sr.extract 0 k, true)], ⟨_, by rw [HP.out.1, HR.out, List.append_assoc]⟩, HX.out⟩⟩
theorem rows1_box (n : Nat) (hn : 1 ≤ n) (B : Nat) (s : ByteArray) (hs : s.size ≤ 140737488355328) (w : World) (hb : Boxed w B 9 (.string s)) :
  SeqBox n 69 #[.pointer (some ⟨B, 0, none⟩)] (fun x : ByteArray × Bool => #[Value.string x.1, Value.bool x.2]) B (fun x => x.1.size ≤ s.size) (fun xs => xs = rowsF s.size s) (fun pre => ∃ rest, rowsF s.size s = pre ++ rest) s.size w := fun l J Jx W hW hJ hY h0 =>
 rows1_in n hn l B s hs J Jx hJ hY W ((hW.block B hb.lt).trans hb) h0
end Go.Proofs.YtiddiboclfpklaaDoor.Tx
namespace Go.Proofs.YtiddiboclfpklaaDoor.Tx
open Go.RowKit Go.Shelf Go.Maps Go.Proofs.YtiddiboclfpklaaDoorW.PrintWords
set_option linter.unusedVariables false
attribute [local go_sem] Oper.semAt_some
def wordsF (s : ByteArray) : List ByteArray := splitF 32 (Lib.countByte s.data.toList 32) s
def okRow (x : ByteArray × Bool) : Bool := x.2 && (wordsF x.1).all plainF
def LinesPost (w : World) (s : ByteArray) (e : Ending) (w' : World) : Prop :=
 (((rowsF s.size s).all okRow = true ∧ ∃ v, e = .returned (.tuple #[v, .int .i64 0, .int .i64 0]) ∧ Kd.R (Kd.slice 9 Kd.string) 84 w' w.heap.size (fun _ => True) v ((rowsF s.size s).map fun x => wordsF x.1))
  ∨ ∃ pre x rest, rowsF s.size s = pre ++ x :: rest ∧ pre.all okRow = true ∧ okRow x = false ∧ e = .returned (.tuple #[.slice none 0 0, .int .i64 ((pre.length : Int) + 1), .int .i64 4])) ∧ Below w.heap.size w w'
theorem rows_calls (s : ByteArray) (w : World) : Calls Tryd.prog 43 #[.string s] w fun e w' => e = .returned (.func (.func 69) #[] #[.pointer (some ⟨w.heap.size, 0, none⟩)]) ∧ w' = w.alloc (.cells #[.string s] 9) := by
 go_enter Tryd.func43, Tryd.ntmps43
 go_wp2_with fail
 go_ret
 exact ⟨rfl, rfl⟩
theorem R_stays {α : Type} {d : Kd α} {e base : Nat} {W W' : World} {v : Value} {xs : List α} {row : Option Nat} (h : d.R e W base (fun _ => True) v xs) (hg : W.grownBy W' row) (hr : ∀ r, row = some r → r < base ∨ ∃ o : Obj, W.heap[r]? = some o ∧ o.isCells = false) : d.R e W' base (fun _ => True) v xs :=
 Kd.R_mono (Kd.R_step (Kd.R_bound h) (fun k hk hlt => hg.block k hlt (fun e => by
  obtain ⟨_, h1, h2, q, _, cells, hc⟩ := hk
  rcases hr k e.symm with h3 | ⟨o, ho, hn⟩
  ·omega
  ·rw [hc] at ho
   injection ho with ho
   subst ho
   cases hn))) (fun _ _ => trivial)
theorem WS.made {w : World} {b : Nat} {xs : List ByteArray} (h : WS w b xs) (hl : xs.length ≤ maxLen) (base : Nat) (hb : base ≤ b) : Kd.R Kd.string 9 w base (fun k => k = b) (.slice (some ⟨b, 0, none⟩) xs.length xs.length) xs :=
 Kd.R_of_own (enc := Value.string) (h1 := fun _ => rfl) ⟨by simp [encs], .inr ⟨b, xs.length, _, rfl, hb, h, Nat.le_refl _, hl, by simp [pw_strs], by simp only [pw_strs, encs, Nat.mul_one]; exact List.take_of_length_le (by simp)⟩⟩ (fun k hk => by simpa [Value.ownBlock] using hk.symm)
theorem WS.reads {w : World} {b : Nat} {xs : List ByteArray} (h : WS w b xs) (hl : xs.length ≤ maxLen) : Kd.C Kd.string w (some ⟨b, 0, none⟩) xs.length xs := by
 obtain ⟨A, c, he, _, hc⟩ := Kd.R_reads (h.made hl 0 (Nat.zero_le _))
 injection he with h1
 subst h1
 exact hc
theorem loadVar_box {w : World} {g t : Nat} {v : Value} (h : Boxed w g t v) (ty : TypeId) (hu : (isAgg ty).run Tryd.prog w = .ok false w) : (loadVar ty ⟨g, 0, none⟩).run Tryd.prog w = .ok v w := by
 simp [loadVar, Sem.run_bind, hu, run_load, h.cell]
theorem un36 : Tryd.prog.underlying 36 = some (.slice 84) := by kernel_rfl
theorem un3 : Tryd.prog.underlying 3 = some (.int .i64) := by kernel_rfl
theorem un22 : Tryd.prog.underlying 22 = some (.int .i64) := by kernel_rfl
theorem agg36 (w : World) : (isAgg 36).run Tryd.prog w = .ok false w := run_isAgg_plain un36 rfl w
theorem agg3 (w : World) : (isAgg 3).run Tryd.prog w = .ok false w := run_isAgg_plain un3 rfl w
theorem agg22 (w : World) : (isAgg 22).run Tryd.prog w = .ok false w := run_isAgg_plain un22 rfl w
theorem results_boxes {fn : Func} {p q r : Tmp} {ty ty' ty'' : TypeId} {w : World} {a b c : Nat} {u v x : Value} (h : fn.results = #[.cell p ty, .cell q ty', .cell r ty'']) (tmps : Array Value)
  (hp : tmps.getD p undef = .pointer (some ⟨a, 0, none⟩)) (hq : tmps.getD q undef = .pointer (some ⟨b, 0, none⟩)) (hr : tmps.getD r undef = .pointer (some ⟨c, 0, none⟩))
  (ha : (loadVar ty ⟨a, 0, none⟩).run Tryd.prog w = .ok u w) (hb : (loadVar ty' ⟨b, 0, none⟩).run Tryd.prog w = .ok v w) (hc : (loadVar ty'' ⟨c, 0, none⟩).run Tryd.prog w = .ok x w) :
  (results fn tmps).run Tryd.prog w = .ok (.tuple #[u, v, x]) w := by
 have h1 : tmps[p]?.getD undef = .pointer (some ⟨a, 0, none⟩) := by simpa using hp
 have h2 : tmps[q]?.getD undef = .pointer (some ⟨b, 0, none⟩) := by simpa using hq
 have h3 : tmps[r]?.getD undef = .pointer (some ⟨c, 0, none⟩) := by simpa using hr
 simp [results, h, h1, h2, h3, asAddr, ha, hb, hc]
def LI (h : Nat) (wL : World) (pre : List (ByteArray × Bool)) (W : World) : Prop := (∃ v, Boxed W (h + 1 + 1 + 1) 36 v ∧ Kd.R (Kd.slice 9 Kd.string) 84 W (h + 5) (fun _ => True) v (pre.map fun x => wordsF x.1)) ∧ Boxed W h 36 (.slice none 0 0) ∧ Boxed W (h + 1) 3 (.int .i64 0) ∧ Boxed W (h + 1 + 1) 22 (.int .i64 0) ∧ pre.all okRow = true ∧ Below h wL W
def LX (h : Nat) (wL : World) (pre : List (ByteArray × Bool)) (W : World) : Prop := ∃ pre0 x, pre = pre0 ++ [x] ∧ pre0.all okRow = true ∧ okRow x = false ∧ Boxed W h 36 (.slice none 0 0) ∧ Boxed W (h + 1) 3 (.int .i64 ((pre0.length : Int) + 1)) ∧ Boxed W (h + 1 + 1) 22 (.int .i64 4) ∧ Below h wL W
theorem boxed_stays {W W' : World} {b t B B0 : Nat} {v : Value} {row : Option Nat} (h : Boxed W b t v) (hg : W.grownBy W' row) (hr : ∀ r, row = some r → r = B ∨ (B0 ≤ r ∧ ∃ o : Obj, W.heap[r]? = some o ∧ o.isCells = false)) (hne : b ≠ B) : Boxed W' b t v :=
 h.kept hg (fun e => by
  rcases hr b e.symm with h1 | ⟨_, o, ho, hn⟩
  ·exact hne h1
  ·rw [show W.heap[b]? = _ from h] at ho
   injection ho with ho
   subst ho
   cases hn)
def BoxX (W : World) (b t : Nat) : Prop := ∃ v, Boxed W b t v
theorem boxX_set {W : World} {b t : Nat} (v : Value) (h : BoxX W b t) : Boxed (W.setCell ⟨b, 0, none⟩ v) b t v := by
 obtain ⟨u, h⟩ := h
 exact h.set v
theorem boxX_other {W : World} {b b' t : Nat} (h : BoxX W b t) (hne : b ≠ b') (u : Value) : BoxX (W.setCell ⟨b', 0, none⟩ u) b t := by
 obtain ⟨v, h⟩ := h
 exact ⟨v, h.other hne u⟩
theorem boxX_drew {W : World} {b t : Nat} (h : BoxX W b t) : BoxX W.drew b t := h
theorem boxed_drew {W : World} {b t : Nat} {v : Value} (h : Boxed W b t v) : Boxed W.drew b t v := h
theorem keepsFrom_set {m : Nat} {W V : World} (h : KeepsFrom m W V) (p : Addr) (v : Value) : KeepsFrom m W (V.setCell p v) := h.trans ((KeepsOthers.setCell _ _ _).from _)
theorem keepsFrom_drew {m : Nat} {W V : World} (h : KeepsFrom m W V) : KeepsFrom m W V.drew := h.trans ((KeepsOthers.drew _).from _)
theorem keepsFrom_below {m : Nat} {W W' : World} (h : Below W.heap.size W W') : KeepsFrom m W W' := ⟨h.size, fun k o _ hk _ => (h.block k (Array.getElem?_eq_some_iff.1 hk).1).trans hk⟩
theorem splitF_size (c : UInt8) : ∀ n s, ∀ x ∈ splitF c n s, x.size ≤ s.size
 | 0, s, x, hx => by
  rw [splitF, List.mem_singleton] at hx
  rw [hx]; exact Nat.le_refl _
 | n + 1, s, x, hx => by
  rw [splitF, List.mem_cons] at hx
  rcases hx with rfl | hx
  ·simp; omega
  ·have := splitF_size c n _ x hx
   simp at this; omega
theorem wordsF_length (line : ByteArray) : (wordsF line).length = Lib.countByte line.data.toList 32 + 1 := splitF_length _ _ _
theorem count_le (line : ByteArray) (c : UInt8) : Lib.countByte line.data.toList c ≤ line.size := by rw [← data_length line]; exact List.count_le_length
theorem contains_words (line : ByteArray) (hl : line.size ≤ 1000000000) (B : Nat) (w : World) (hW : WS w B (wordsF line)) :
  Calls Tryd.prog 45 #[.slice (some ⟨B, 0, none⟩) (Lib.countByte line.data.toList 32 + 1) (Lib.countByte line.data.toList 32 + 1), .func (.func 46) #[] #[]] w fun e w' => e = .returned (.bool (!(wordsF line).all plainF)) ∧ Below w.heap.size w w' := by
 have hc := count_le line 32
 have hm : (wordsF line).length ≤ maxLen := by rw [wordsF_length]; unfold maxLen; omega
 have h := contains_calls (wordsF line) (some ⟨B, 0, none⟩) (Lib.countByte line.data.toList 32 + 1) (fun x hx => by have := splitF_size _ _ _ x hx; omega) w (hW.reads hm)
 rw [wordsF_length] at h
 rw [List.not_all_eq_any_not]
 exact h
theorem info84 : (Tryd.prog.info? 84).map (fun i => (i.zero, i.size, i.bytes)) = some (some (.slice none 0 0), 1, 24) := by kernel_rfl
set_option maxHeartbeats 4000000 in
set_option maxRecDepth 100000 in
theorem lines_calls (s : ByteArray) (hs : s.size ≤ 16777216) (w : World) :
  Calls Tryd.prog 19 #[.string s] w (LinesPost w s) := by
 refine (callsIn_wide (n := 5)).1 ?_
 refine callsIn_of_wp_marks Tryd.func19 rfl trivial ?_ rfl
 simp only [Tryd.ntmps19, List.size_toArray, List.length_cons, List.length_nil, Nat.reduceAdd, Nat.reduceSub, Array.replicate_succ, Array.replicate_zero, List.push_toArray, List.append_toArray, List.nil_append, List.cons_append]
 refine wpIn_wide.2 ?_
 go_wp2_with ((go_at_call 43; refine (rows_calls _ _).mono ?_; rintro e w' ⟨rfl, rfl⟩))
 obtain ⟨h, hh⟩ : ∃ h, w.heap.size = h := ⟨_, rfl⟩
 obtain ⟨wL, hwL⟩ : ∃ wL, ((((w.alloc (.cells #[.slice none 0 0] 36)).alloc (.cells #[.int .i64 0] 3)).alloc (.cells #[.int .i64 0] 22)).alloc (.cells #[.slice none 0 0] 36)).alloc (.cells #[.string s] 9) = wL := ⟨_, rfl⟩
 have b0 : Boxed wL h 36 (.slice none 0 0) := by rw [← hwL, ← hh]; exact ((((Boxed.new w 36 _).alloc _).alloc _).alloc _).alloc _
 have b1 : Boxed wL (h + 1) 3 (.int .i64 0) := by
  rw [← hwL, ← hh]
  have := (((Boxed.new (w.alloc (.cells #[.slice none 0 0] 36)) 3 (.int .i64 0)).alloc (.cells #[.int .i64 0] 22)).alloc (.cells #[.slice none 0 0] 36)).alloc (.cells #[.string s] 9)
  simpa only [World.size_alloc] using this
 have b2 : Boxed wL (h + 1 + 1) 22 (.int .i64 0) := by
  rw [← hwL, ← hh]
  have := ((Boxed.new ((w.alloc (.cells #[.slice none 0 0] 36)).alloc (.cells #[.int .i64 0] 3)) 22 (.int .i64 0)).alloc (.cells #[.slice none 0 0] 36)).alloc (.cells #[.string s] 9)
  simpa only [World.size_alloc] using this
 have b3 : Boxed wL (h + 1 + 1 + 1) 36 (.slice none 0 0) := by
  rw [← hwL, ← hh]
  have := (Boxed.new (((w.alloc (.cells #[.slice none 0 0] 36)).alloc (.cells #[.int .i64 0] 3)).alloc (.cells #[.int .i64 0] 22)) 36 (.slice none 0 0)).alloc (.cells #[.string s] 9)
  simpa only [World.size_alloc] using this
 have b4 : Boxed wL (h + 4) 9 (.string s) := by
  rw [← hwL, ← hh]
  have := Boxed.new ((((w.alloc (.cells #[.slice none 0 0] 36)).alloc (.cells #[.int .i64 0] 3)).alloc (.cells #[.int .i64 0] 22)).alloc (.cells #[.slice none 0 0] 36)) 9 (.string s)
  simpa only [World.size_alloc] using this
 have bw : Below h w wL := by rw [← hwL, ← hh]; exact (((((Below.refl _ w).alloc (Nat.le_refl _) _).alloc (by simp) _).alloc (by simp; omega) _).alloc (by simp; omega) _).alloc (by simp; omega) _
 have hz : wL.heap.size = h + 5 := by rw [← hwL, ← hh]; simp
 rw [hwL, hh]
 have HB0 := Aside0.mk (And.intro b0 (And.intro b1 (And.intro b2 (And.intro b3 (And.intro b4 bw)))))
 clear hwL b0 b1 b2 b3 bw
 refine (wpIn_wide (n := 5)).1 ?_
 refine' rangeBox (w := wL) (by decide) (gf := 69) (lb := #[.pointer (some ⟨h + 4, 0, none⟩)]) rfl (enters_of Tryd.func69 (by kernel_rfl) rfl)
  (rows1_box 4 (by decide) (h + 4) s (by omega) wL b4) (by omega) (Below.refl _ _) (fun _ => rfl)
  (LI h wL)
  (LX h wL)
  ?hI ?hIx ?h0 _ ?assign ?body ?done ?stop
 case assign =>
  intro l x W K hK
  gi_wp2
  exact hK
 case hI =>
  rintro pre W W' row ⟨⟨v, hv, hrow⟩, c0, c1, c2, hall, hB⟩ hg hr
  refine ⟨⟨v, boxed_stays hv hg hr (by omega), R_stays hrow hg (fun r e => ?_)⟩, boxed_stays c0 hg hr (by omega), boxed_stays c1 hg hr (by omega), boxed_stays c2 hg hr (by omega), hall, hB.grown hg (by have := hB.size; omega) (fun k e => ?_)⟩
  ·rcases hr r e with h1 | ⟨_, h2⟩
   ·exact .inl (by omega)
   ·exact .inr h2
  ·rcases hr k e with h1 | ⟨h2, _⟩ <;> omega
 case hIx =>
  rintro pre W W' row ⟨pre0, x, rfl, hall, hx, c0, c1, c2, hB⟩ hg hr
  refine ⟨pre0, x, rfl, hall, hx, boxed_stays c0 hg hr (by omega), boxed_stays c1 hg hr (by omega), boxed_stays c2 hg hr (by omega), hB.grown hg (by have := hB.size; omega) (fun k e => ?_)⟩
  rcases hr k e with h1 | ⟨h2, _⟩ <;> omega
 case h0 => exact ⟨⟨_, HB0.out.2.2.2.1, Kd.R_nil _ _ _ _ _⟩, HB0.out.1, HB0.out.2.1, HB0.out.2.2.1, rfl, Below.refl _ _⟩
 case body =>
  rintro l pre ⟨line, ended⟩ W hx ⟨⟨v, hv, hrow⟩, c0, c1, c2, hall, hB⟩ hlt
  replace hx : line.size ≤ s.size := hx
  have hn : 1 ≤ (5 : Nat) - 1 - 1 := by decide
  have hc3 := hv.cell
  have HO : Aside0 (h + 5 ≤ W.heap.size) := ⟨by have := hB.size; omega⟩
  have hwp : IntKind.i64.wrap ((pre.length : Int) + 1) = (pre.length : Int) + 1 := by rw [IntWalk.i64_in] <;> omega
  cases ended with
  | false =>
   obtain ⟨A, cp, rfl⟩ := Kd.R_slice hrow
   have HV := Aside0.mk hv
   have HR := Aside0.mk hrow
   clear hv hrow
   gi_wp2_with ((refine ⟨trivial, ?_⟩; gi_at_call 44; refine (CallsIn.inRound l (callsIn_wide.2 (strings_split_calls line 32 (by omega) _))).mono ?_; rintro e w1 ⟨B1, rfl, hB1, hW1, hb1⟩; have hc4 := (hb1.block (h + 1 + 1 + 1) HV.out.lt).trans HV.out; have hc5 := (show Boxed w1 (h + 1 + 1 + 1) 36 _ from hc4).cell; have HW1 := Aside0.mk hW1; have HB1 := Aside0.mk hb1; clear hc4 hW1 hb1))
   have d0 : Boxed w1 h 36 (.slice none 0 0) := (HB1.out.block h c0.lt).trans c0
   have d1 : Boxed w1 (h + 1) 3 (.int .i64 0) := (HB1.out.block (h + 1) c1.lt).trans c1
   have d2 : Boxed w1 (h + 1 + 1) 22 (.int .i64 0) := (HB1.out.block (h + 1 + 1) c2.lt).trans c2
   have e0 := d0.cell
   have f0 := d0.frozen
   have e1 := d1.cell
   have f1 := d1.frozen
   have e2 := d2.cell
   have f2 := d2.frozen
   have HD := Aside0.mk (And.intro d0 (And.intro d1 d2))
   have HB := Aside0.mk hB
   have HA := Aside0.mk hall
   clear d0 d1 d2 c0 c1 c2 hB hall hc3
   refine ⟨trivial, ?_⟩
   gi_wp2
   gi_region
   all_goals gi_wp2
   all_goals have D0 := HD.out.1
   all_goals have D1 := HD.out.2.1
   all_goals have D2 := HD.out.2.2
   all_goals have X0 : BoxX w1 h 36 := ⟨_, D0⟩
   all_goals have X1 : BoxX w1 (h + 1) 3 := ⟨_, D1⟩
   all_goals have X2 : BoxX w1 (h + 1 + 1) 22 := ⟨_, D2⟩
   all_goals have DB := HB.out.trans (HB1.out.mono (by have := HB.out.size; omega))
   all_goals have DK : KeepsFrom wL.heap.size W w1 := keepsFrom_below HB1.out
   all_goals refine ⟨?_, pre, (line, false), rfl, HA.out, rfl, ?_, ?_, ?_, ?_⟩
   all_goals (repeat (first | with_reducible exact D0 | with_reducible exact D1 | with_reducible exact D2 | with_reducible exact DB | with_reducible exact DK | with_reducible exact X0 | with_reducible exact X1 | with_reducible exact X2 | with_reducible refine boxX_set _ ?_ | with_reducible refine boxX_drew ?_ | with_reducible refine boxX_other ?_ (by omega) _ | with_reducible refine boxed_drew ?_ | with_reducible refine Below.drew ?_ | with_reducible refine keepsFrom_set ?_ _ _ | with_reducible refine keepsFrom_drew ?_ | with_reducible refine Boxed.other ?_ (by omega) _ | with_reducible refine Below.setCell ?_ (by first | (simp; done) | (simp; omega)) _))
  | true =>
   obtain ⟨A, cp, rfl⟩ := Kd.R_slice hrow
   rw [List.length_map] at hv hrow hc3
   have HV := Aside0.mk hv
   have HR := Aside0.mk hrow
   clear hv hrow
   obtain ⟨i0, hi0, hz0, hz1, hz2⟩ := info_parts info84
   cases hp : (wordsF line).all plainF with
   | false =>
    have HP := Aside0.mk hp
    clear hp
    gi_wp2_with (first
     | ((refine ⟨trivial, ?_⟩; gi_at_call 44; refine (CallsIn.inRound l (callsIn_wide.2 (strings_split_calls line 32 (by omega) _))).mono ?_; rintro e w1 ⟨B1, rfl, hB1, hW1, hb1⟩; have HW1 := Aside0.mk hW1; have HB1 := Aside0.mk hb1; clear hW1 hb1))
     | ((refine ⟨trivial, ?_⟩; gi_at_call 45; refine (CallsIn.inRound l (callsIn_wide.2 (contains_words line (by omega) B1 _ HW1.out))).mono ?_; rintro e w2 ⟨rfl, hb2⟩; rw [HP.out]; have HB2 := Aside0.mk (HB1.out.trans (hb2.mono HB1.out.size)); clear hb2; have hc4 := (HB2.out.block (h + 1 + 1 + 1) HV.out.lt).trans HV.out; have hc5 := (show Boxed w2 (h + 1 + 1 + 1) 36 _ from hc4).cell; clear hc4)))
    have d0 : Boxed w2 h 36 (.slice none 0 0) := (HB2.out.block h c0.lt).trans c0
    have d1 : Boxed w2 (h + 1) 3 (.int .i64 0) := (HB2.out.block (h + 1) c1.lt).trans c1
    have d2 : Boxed w2 (h + 1 + 1) 22 (.int .i64 0) := (HB2.out.block (h + 1 + 1) c2.lt).trans c2
    have e0 := d0.cell
    have f0 := d0.frozen
    have e1 := d1.cell
    have f1 := d1.frozen
    have e2 := d2.cell
    have f2 := d2.frozen
    have HD := Aside0.mk (And.intro d0 (And.intro d1 d2))
    have HB := Aside0.mk hB
    have HA := Aside0.mk hall
    clear d0 d1 d2 c0 c1 c2 hB hall hc3
    gi_region
    all_goals gi_wp2
    all_goals have D0 := HD.out.1
    all_goals have D1 := HD.out.2.1
    all_goals have D2 := HD.out.2.2
    all_goals have X0 : BoxX w2 h 36 := ⟨_, D0⟩
    all_goals have X1 : BoxX w2 (h + 1) 3 := ⟨_, D1⟩
    all_goals have X2 : BoxX w2 (h + 1 + 1) 22 := ⟨_, D2⟩
    all_goals have DB := HB.out.trans (HB2.out.mono (by have := HB.out.size; omega))
    all_goals have DK : KeepsFrom wL.heap.size W w2 := keepsFrom_below HB2.out
    all_goals refine ⟨?_, pre, (line, true), rfl, HA.out, (by show (true && (wordsF line).all plainF) = false; rw [HP.out]; rfl), ?_, ?_, ?_, ?_⟩
    all_goals (repeat (first | with_reducible exact D0 | with_reducible exact D1 | with_reducible exact D2 | with_reducible exact DB | with_reducible exact DK | with_reducible exact X0 | with_reducible exact X1 | with_reducible exact X2 | with_reducible refine boxX_set _ ?_ | with_reducible refine boxX_drew ?_ | with_reducible refine boxX_other ?_ (by omega) _ | with_reducible refine boxed_drew ?_ | with_reducible refine Below.drew ?_ | with_reducible refine keepsFrom_set ?_ _ _ | with_reducible refine keepsFrom_drew ?_ | with_reducible refine Boxed.other ?_ (by omega) _ | with_reducible refine Below.setCell ?_ (by first | (simp; done) | (simp; omega)) _))
   | true =>
    have HP := Aside0.mk hp
    clear hp
    gi_wp2_with (first
     | ((refine ⟨trivial, ?_⟩; gi_at_call 44; refine (CallsIn.inRound l (callsIn_wide.2 (strings_split_calls line 32 (by omega) _))).mono ?_; rintro e w1 ⟨B1, rfl, hB1, hW1, hb1⟩; have HW1 := Aside0.mk hW1; have HB1 := Aside0.mk hb1; clear hW1 hb1))
     | ((refine ⟨trivial, ?_⟩; gi_at_call 45; refine (CallsIn.inRound l (callsIn_wide.2 (contains_words line (by omega) B1 _ HW1.out))).mono ?_; rintro e w2 ⟨rfl, hb2⟩; rw [HP.out]; have HB2 := Aside0.mk (HB1.out.trans (hb2.mono HB1.out.size)); have HW2 := Aside0.mk (show WS w2 B1 (wordsF line) from blk_below HW1.out hb2); clear hb2; have hc4 := (HB2.out.block (h + 1 + 1 + 1) HV.out.lt).trans HV.out; have hc5 := (show Boxed w2 (h + 1 + 1 + 1) 36 _ from hc4).cell; have HX := Aside0.mk (show Boxed w2 (h + 1 + 1 + 1) 36 (.slice A pre.length cp) from hc4); have HR2 := Aside0.mk (Kd.R_below HR.out HB2.out); clear hc4))
     | (gi_at_builtin; obtain ⟨q0, inner, hown, hreps⟩ := Kd.R_below HR2.out ((Below.refl _ w2).alloc (Nat.le_refl _) (.cells #[.slice (some ⟨B1, 0, none⟩) (Lib.countByte line.data.toList 32 + 1) (Lib.countByte line.data.toList 32 + 1)] 84)); (refine wpListIn_append_own_at _ rfl _ _ 36 rfl (h + 5) 84 i0 (.slice none 0 0) 1 24 un36 hi0 hz0 hz1 hz2 rfl (by decide) _ _ _ rfl hown ⟨w2.heap.size, 0, none⟩ 1 1 [.slice (some ⟨B1, 0, none⟩) (Lib.countByte line.data.toList 32 + 1) (Lib.countByte line.data.toList 32 + 1)] rfl rfl (cell_one_new _ _ _) (by simp [Value.oneCell']) (by simp; unfold maxLen; omega) (by simp; omega) (by have := HB2.out.size; have := HO.out; simp; omega) ?_); intro v' w3 hown3 hgrow3 _ hat3; rw [List.length_map] at hown3; have HH := Aside0.mk (And.intro q0 (And.intro hown (And.intro hreps (And.intro hown3 (And.intro hgrow3 hat3))))); clear q0 hreps hat3; obtain ⟨g', cap', rfl⟩ := ownsRow_succ hown3; have hx3 := ((HX.out.alloc (.cells #[.slice (some ⟨B1, 0, none⟩) (Lib.countByte line.data.toList 32 + 1) (Lib.countByte line.data.toList 32 + 1)] 84)).kept hgrow3 (HX.out.alloc (.cells #[.slice (some ⟨B1, 0, none⟩) (Lib.countByte line.data.toList 32 + 1) (Lib.countByte line.data.toList 32 + 1)] 84) |>.not_row (by decide) hown)); have hc6 := hx3.cell; have hf6 := hx3.frozen; clear hx3 hown hown3 hgrow3))
    obtain ⟨q0, hown, hreps, hown3, hgrow3, hat3⟩ := HH.out
    have s0 := HO.out
    have s2 := HB2.out.size
    obtain ⟨_, inner0, how, _⟩ := HR2.out
    obtain ⟨_, hv2, _, hk2, hb2⟩ := HX.out.appended (by decide) (own_weaken how (show h ≤ h + 5 by omega)) (by omega) (by omega) (own_weaken hown3 (show h ≤ h + 5 by omega)) hgrow3
    have hnb : ∀ b, b < W.heap.size → b ≠ h + 1 + 1 + 1 → b < h + 5 → (w3.setCell ⟨h + 1 + 1 + 1, 0, none⟩ (.slice (some ⟨g', 0, none⟩) (pre.length + 1) cap')).heap[b]? = W.heap[b]? := by
     intro b hb1 hb2 hb3
     rw [Below.heap_setCell _ _ _ _ (by simpa using hb2), hgrow3.block b (by simp; omega) (fun e => by have := own_base hown b e.symm; omega), Below.heap_alloc _ _ _ (by omega)]
     exact HB2.out.block b hb1
    have hm : (wordsF line).length ≤ maxLen := by
     have hc := count_le line 32
     rw [wordsF_length]; unfold maxLen; omega
    have hM : (Kd.slice 9 Kd.string).M (w2.alloc (.cells #[.slice (some ⟨B1, 0, none⟩) (Lib.countByte line.data.toList 32 + 1) (Lib.countByte line.data.toList 32 + 1)] 84)) (h + 5) (fun k => k = B1) (wordsF line) [.slice (some ⟨B1, 0, none⟩) (Lib.countByte line.data.toList 32 + 1) (Lib.countByte line.data.toList 32 + 1)] := by
     refine ⟨_, rfl, ?_⟩
     have h1 : WS (w2.alloc (.cells #[.slice (some ⟨B1, 0, none⟩) (Lib.countByte line.data.toList 32 + 1) (Lib.countByte line.data.toList 32 + 1)] 84)) B1 (wordsF line) := blk_below HW2.out ((Below.refl _ w2).alloc (Nat.le_refl _) _)
     have h2 := h1.made hm (h + 5) (by omega)
     rw [wordsF_length] at h2
     exact h2
    have hRa := Kd.R_appended (d := Kd.slice 9 Kd.string) (ok := fun _ => True) q0 hreps hM (fun k hk => ⟨trivial, fun e => by
     obtain ⟨_, _, howW, _⟩ := HR.out
     have := own_lt howW k e.symm
     omega⟩) (fun _ _ => trivial) (by rw [List.length_map]; exact hown3) hgrow3 (hat3.imp id fun e => ⟨_, e, Nat.le_refl _⟩)
    have hBx3 := (HX.out.alloc (.cells #[.slice (some ⟨B1, 0, none⟩) (Lib.countByte line.data.toList 32 + 1) (Lib.countByte line.data.toList 32 + 1)] 84)).kept hgrow3 ((HX.out.alloc (.cells #[.slice (some ⟨B1, 0, none⟩) (Lib.countByte line.data.toList 32 + 1) (Lib.countByte line.data.toList 32 + 1)] 84)).not_row (by decide) hown)
    have hRb := Kd.R_set hRa hBx3 (by decide) 0 (.slice (some ⟨g', 0, none⟩) (pre.length + 1) cap')
    refine ⟨(keepsFrom_below HB2.out).trans (hk2.from _), hnb _ (by omega) (by omega) (by omega), ⟨_, hv2, by rw [List.map_append]; exact hRb⟩, (hnb h c0.lt (by omega) (by omega)).trans c0, (hnb (h + 1) c1.lt (by omega) (by omega)).trans c1, (hnb (h + 1 + 1) c2.lt (by omega) (by omega)).trans c2, ?_, hB.trans ((HB2.out.mono (by omega)).trans hb2)⟩
    rw [List.all_append, hall]
    show (true && ((true && (wordsF line).all plainF) && true)) = true
    rw [HP.out]; rfl
 case done =>
  rintro D ys W hD rfl ⟨⟨v, hv, hrow⟩, c0, c1, c2, hall, hB⟩ hK
  obtain ⟨A, cp, rfl⟩ := Kd.R_slice hrow
  have hc3 := hv.cell
  have hc0 := c0.cell
  have hf0 := c0.frozen
  have hc1 := c1.cell
  have hf1 := c1.frozen
  have hc2 := c2.cell
  have hf2 := c2.frozen
  have HK := Aside0.mk (And.intro c0 (And.intro c1 (And.intro c2 (And.intro hrow (And.intro hB hall)))))
  clear hv hrow c0 c1 c2 hB hall
  gi_wp2
  go_wp2
  have kD : KeepsOthers W (((W.setCell ⟨h, 0, none⟩ (.slice A (rowsF s.size s).length cp)).setCell ⟨h + 1, 0, none⟩ (.int .i64 0)).setCell ⟨h + 1 + 1, 0, none⟩ (.int .i64 0)) := ((KeepsOthers.setCell _ _ _).trans (KeepsOthers.setCell _ _ _)).trans (KeepsOthers.setCell _ _ _)
  have hK2 := kD.same D _ hK rfl
  obtain ⟨c0, c1, c2, hrow, hB, hall⟩ := HK.out
  rw [List.length_map] at hrow
  have g0 := (((c0.set (.slice A (rowsF s.size s).length cp)).other (B' := h + 1) (by omega) (.int .i64 0)).other (B' := h + 1 + 1) (by omega) (.int .i64 0))
  have g1 := (((c1.other (B' := h) (by omega) (.slice A (rowsF s.size s).length cp)).set (.int .i64 0)).other (B' := h + 1 + 1) (by omega) (.int .i64 0))
  have g2 := (((c2.other (B' := h) (by omega) (.slice A (rowsF s.size s).length cp)).other (B' := h + 1) (by omega) (.int .i64 0)).set (.int .i64 0))
  have r1 := Kd.R_set hrow c0 (by decide) 0 (.slice A (rowsF s.size s).length cp)
  have r2 := Kd.R_set r1 (c1.other (B' := h) (by omega) (.slice A (rowsF s.size s).length cp)) (by decide) 0 (.int .i64 0)
  have r3 := Kd.R_set r2 ((c2.other (B' := h) (by omega) (.slice A (rowsF s.size s).length cp)).other (B' := h + 1) (by omega) (.int .i64 0)) (by decide) 0 (.int .i64 0)
  have bl : Below h w (((W.setCell ⟨h, 0, none⟩ (.slice A (rowsF s.size s).length cp)).setCell ⟨h + 1, 0, none⟩ (.int .i64 0)).setCell ⟨h + 1 + 1, 0, none⟩ (.int .i64 0)) := (((HB0.out.2.2.2.2.2.trans hB).setCell (p := ⟨h, 0, none⟩) (Nat.le_refl _) _).setCell (p := ⟨h + 1, 0, none⟩) (by simp) _).setCell (p := ⟨h + 1 + 1, 0, none⟩) (by simp; omega) _
  revert hK2 g0 g1 g2 r3 bl
  generalize (((W.setCell ⟨h, 0, none⟩ (.slice A (rowsF s.size s).length cp)).setCell ⟨h + 1, 0, none⟩ (.int .i64 0)).setCell ⟨h + 1 + 1, 0, none⟩ (.int .i64 0)) = V
  intro hK2 g0 g1 g2 r3 bl
  refine ⟨by simp, .inl ⟨_, _, rfl, run_takeDeferred hK2, ?_⟩⟩
  have hg := grownBy_putObj' V D (.deferred none)
  refine ⟨_, results_boxes rfl _ rfl rfl rfl (loadVar_box (g0.kept hg (by simp; omega)) 36 (agg36 _)) (loadVar_box (g1.kept hg (by simp; omega)) 3 (agg3 _)) (loadVar_box (g2.kept hg (by simp; omega)) 22 (agg22 _)), ?_⟩
  refine ⟨.inl ⟨hall, _, rfl, ?_⟩, ?_⟩
  ·rw [hh]
   exact (R_stays r3 hg (fun r e => by cases e; exact .inr ⟨_, hK2, rfl⟩)) |> fun r => Kd.R_lower r (by omega)
  ·rw [hh]
   exact bl.grown hg (by have := bl.size; omega) (fun k e => by cases e; omega)
 case stop =>
  rintro D pre W hD ⟨rest, hk⟩ ⟨pre0, x, rfl, hall, hx, c0, c1, c2, hB⟩ hK
  gi_wp2
  all_goals (try go_wp2)
  refine ⟨by simp, .inl ⟨_, _, rfl, run_takeDeferred hK, ?_⟩⟩
  have hg := grownBy_putObj' W D (.deferred none)
  refine ⟨_, results_boxes rfl _ rfl rfl rfl (loadVar_box (c0.kept hg (by simp; omega)) 36 (agg36 _)) (loadVar_box (c1.kept hg (by simp; omega)) 3 (agg3 _)) (loadVar_box (c2.kept hg (by simp; omega)) 22 (agg22 _)), ?_⟩
  refine ⟨.inr ⟨pre0, x, rest, by rw [hk, List.append_assoc]; rfl, hall, hx, rfl⟩, ?_⟩
  rw [hh]
  exact (HB0.out.2.2.2.2.2.trans hB).grown hg (by have := (HB0.out.2.2.2.2.2.trans hB).size; omega) (fun k e => by cases e; omega)
end Go.Proofs.YtiddiboclfpklaaDoor.Tx
namespace Go.Proofs.YtiddiboclfpklaaDoor.Tx
open Go.RowKit Go.Proofs.YtiddiboclfpklaaDoorW.PrintWords
set_option linter.unusedVariables false
def ofL (l : List UInt8) : ByteArray := ⟨l.toArray⟩
theorem ofL_toList (l : List UInt8) : (ofL l).data.toList = l := by simp [ofL]
theorem ofL_data (s : ByteArray) : ofL s.data.toList = s := by
 apply ByteArray.ext
 simp [ofL]
theorem ofL_size (l : List UInt8) : (ofL l).size = l.length := by rw [← data_length, ofL_toList]
theorem eq_ofL {s : ByteArray} {l : List UInt8} (h : s.data.toList = l) : s = ofL l := by rw [← h, ofL_data]
theorem extract_ofL (s : ByteArray) (a b : Nat) (l : List UInt8) (h : (s.data.toList.drop a).take (b - a) = l) : s.extract a b = ofL l := by
 apply eq_ofL
 rw [Lib.extract_data, h]
def wordsL : List UInt8 → List (List UInt8)
 | [] => [[]]
 | b :: l => if b = 32 then [] :: wordsL l else match wordsL l with
  | [] => [[b]]
  | w :: r => (b :: w) :: r
def rowsL : List UInt8 → List (List UInt8 × Bool)
 | [] => []
 | b :: l => if b = 10 then ([], true) :: rowsL l else match rowsL l with
  | [] => [([b], false)]
  | x :: r => (b :: x.1, x.2) :: r
theorem wordsL_ne : ∀ l, wordsL l ≠ []
 | [] => by simp [wordsL]
 | b :: l => by
  unfold wordsL
  split
  ·simp
  ·split <;> simp
theorem wordsL_none : ∀ a : List UInt8, (∀ x ∈ a, x ≠ 32) → wordsL a = [a]
 | [], _ => rfl
 | b :: a, h => by
  rw [wordsL, if_neg (h b List.mem_cons_self), wordsL_none a (fun x hx => h x (List.mem_cons_of_mem _ hx))]
theorem wordsL_app : ∀ (a r : List UInt8), (∀ x ∈ a, x ≠ 32) → wordsL (a ++ 32 :: r) = a :: wordsL r
 | [], r, _ => by rw [List.nil_append, wordsL, if_pos rfl]
 | b :: a, r, h => by
  rw [List.cons_append, wordsL, if_neg (h b List.mem_cons_self), wordsL_app a r (fun x hx => h x (List.mem_cons_of_mem _ hx))]
theorem rowsL_none : ∀ a : List UInt8, (∀ x ∈ a, x ≠ 10) → a ≠ [] → rowsL a = [(a, false)]
 | [], _, h => absurd rfl h
 | [b], h, _ => by rw [rowsL, if_neg (h b List.mem_cons_self)]; rfl
 | b :: c :: a, h, _ => by
  rw [rowsL, if_neg (h b List.mem_cons_self), rowsL_none (c :: a) (fun x hx => h x (List.mem_cons_of_mem _ hx)) (by simp)]
theorem rowsL_app : ∀ (a r : List UInt8), (∀ x ∈ a, x ≠ 10) → rowsL (a ++ 10 :: r) = (a, true) :: rowsL r
 | [], r, _ => by rw [List.nil_append, rowsL, if_pos rfl]
 | b :: a, r, h => by
  rw [List.cons_append, rowsL, if_neg (h b List.mem_cons_self), rowsL_app a r (fun x hx => h x (List.mem_cons_of_mem _ hx))]
theorem index_none (c : UInt8) : ∀ l : List UInt8, Lib.indexByte l c = -1 → ∀ x ∈ l, x ≠ c
 | [], _, x, hx => by cases hx
 | b :: l, h, x, hx => by
  unfold Lib.indexByte at h
  by_cases hb : (b == c) = true
  ·rw [if_pos hb] at h; omega
  ·rw [if_neg hb] at h
   have h2 : Lib.indexByte l c = -1 := by
    split at h
    ·rename_i h1; exact beq_iff_eq.1 h1
    ·have := Lib.indexByte_ge l c; omega
   rw [List.mem_cons] at hx
   rcases hx with rfl | hx
   ·exact fun e => hb (beq_iff_eq.2 e)
   ·exact index_none c l h2 x hx
theorem index_some (c : UInt8) : ∀ (l : List UInt8) (k : Nat), Lib.indexByte l c = k → l = l.take k ++ c :: l.drop (k + 1) ∧ ∀ x ∈ l.take k, x ≠ c
 | [], k, h => by unfold Lib.indexByte at h; omega
 | b :: l, k, h => by
  unfold Lib.indexByte at h
  by_cases hb : (b == c) = true
  ·rw [if_pos hb] at h
   obtain rfl : k = 0 := by omega
   refine ⟨by simp [beq_iff_eq.1 hb], by simp⟩
  ·rw [if_neg hb] at h
   split at h
   ·omega
   ·rename_i h3
    have hne : Lib.indexByte l c ≠ -1 := fun e => h3 (beq_iff_eq.2 e)
    obtain ⟨k', rfl⟩ : ∃ k', k = k' + 1 := ⟨k - 1, by have := Lib.indexByte_ge l c; omega⟩
    obtain ⟨h1, h2⟩ := index_some c l k' (by omega)
    refine ⟨by rw [List.take_succ_cons, List.drop_succ_cons, List.cons_append, ← h1], ?_⟩
    intro x hx
    rw [List.take_succ_cons, List.mem_cons] at hx
    rcases hx with rfl | hx
    ·exact fun e => hb (beq_iff_eq.2 e)
    ·exact h2 x hx
theorem count_zero (c : UInt8) (l : List UInt8) (h : Lib.countByte l c = 0) : ∀ x ∈ l, x ≠ c := by
 intro x hx e
 subst e
 exact absurd h (by unfold Lib.countByte; have := List.count_pos_iff.2 hx; omega)
theorem splitF_L : ∀ (n : Nat) (s : ByteArray), Lib.countByte s.data.toList 32 = n → splitF 32 n s = (wordsL s.data.toList).map ofL
 | 0, s, h => by
  rw [splitF, wordsL_none _ (count_zero 32 _ h), List.map_cons, List.map_nil, ofL_data]
 | n + 1, s, h => by
  obtain ⟨k, hk, hl, hc⟩ := count_cut s 32 n h
  obtain ⟨h1, h2⟩ := index_some 32 _ k hk
  rw [splitF, hk, Int.toNat_natCast, splitF_L n _ hc, extract_drop]
  conv => rhs; rw [h1]
  rw [wordsL_app _ _ h2, List.map_cons, extract_ofL s 0 k _ rfl, List.drop_zero, Nat.sub_zero]
theorem wordsF_L (s : ByteArray) : wordsF s = (wordsL s.data.toList).map ofL := splitF_L _ s rfl
def rowO (x : List UInt8 × Bool) : ByteArray × Bool := (ofL x.1, x.2)
theorem rowsF_L : ∀ (n : Nat) (s : ByteArray), s.size ≤ n → rowsF n s = (rowsL s.data.toList).map rowO
 | 0, s, h => by
  have : s.data.toList = [] := List.eq_nil_of_length_eq_zero (by rw [data_length]; omega)
  rw [rowsF, this]; rfl
 | n + 1, s, h => by
  rw [rowsF]
  by_cases h0 : s.size = 0
  ·have : s.data.toList = [] := List.eq_nil_of_length_eq_zero (by rw [data_length]; exact h0)
   rw [if_pos h0, this]; rfl
  ·rw [if_neg h0]
   rcases indexByte_cases s.data.toList 10 with hi | ⟨k, hi, hk⟩
   ·rw [if_pos hi, rowsL_none _ (index_none 10 _ hi) (fun e => h0 (by rw [← data_length, e]; rfl)), List.map_cons, List.map_nil, rowO, ofL_data]
   ·obtain ⟨h1, h2⟩ := index_some 10 _ k hi
    rw [data_length] at hk
    rw [if_neg (by omega), hi, Int.toNat_natCast, rowsF_L n _ (by simp; omega), extract_drop]
    conv => rhs; rw [h1]
    rw [rowsL_app _ _ h2, List.map_cons, extract_ofL s 0 k _ rfl, List.drop_zero, Nat.sub_zero]
    rfl
def linesG : List (ByteArray × Bool) → List (List ByteArray) → List (List ByteArray) × Int × Int
 | [], acc => (acc, 0, 0)
 | x :: r, acc => if okRow x then linesG r (acc ++ [wordsF x.1]) else ([], (acc.length : Int) + 1, 4)
def linesF (s : ByteArray) : List (List ByteArray) × Int × Int := linesG (rowsF s.size s) []
theorem linesG_ok : ∀ (r : List (ByteArray × Bool)) (acc : List (List ByteArray)), r.all okRow = true → linesG r acc = (acc ++ r.map (fun x => wordsF x.1), 0, 0)
 | [], acc, _ => by rw [linesG, List.map_nil, List.append_nil]
 | x :: r, acc, h => by
  rw [List.all_cons, Bool.and_eq_true] at h
  rw [linesG, if_pos h.1, linesG_ok r _ h.2, List.map_cons, List.append_assoc, List.singleton_append]
theorem linesG_bad : ∀ (pre : List (ByteArray × Bool)) (x : ByteArray × Bool) (r : List (ByteArray × Bool)) (acc : List (List ByteArray)), pre.all okRow = true → okRow x = false → linesG (pre ++ x :: r) acc = ([], (acc.length : Int) + (pre.length : Int) + 1, 4)
 | [], x, r, acc, _, h => by rw [List.nil_append, linesG, h, if_neg Bool.false_ne_true]; simp
 | y :: pre, x, r, acc, h, h2 => by
  rw [List.all_cons, Bool.and_eq_true] at h
  rw [List.cons_append, linesG, if_pos h.1, linesG_bad pre x r _ h.2 h2]
  simp only [List.length_append, List.length_cons, List.length_nil]
  congr 2
  omega
theorem linesF_form (s : ByteArray) : ((rowsF s.size s).all okRow = true ∧ linesF s = ((rowsF s.size s).map (fun x => wordsF x.1), 0, 0)) ∨ ((linesF s).1 = [] ∧ (linesF s).2.2 = 4) := by
 by_cases h : (rowsF s.size s).all okRow = true
 ·exact .inl ⟨h, by rw [linesF, linesG_ok _ _ h, List.nil_append]⟩
 ·right
  have key : ∀ (r : List (ByteArray × Bool)) (acc : List (List ByteArray)), ¬ r.all okRow = true → (linesG r acc).1 = [] ∧ (linesG r acc).2.2 = 4 := by
   intro r
   induction r with
   | nil => intro acc h; exact absurd rfl h
   | cons x r ih =>
    intro acc h
    rw [linesG]
    by_cases hx : okRow x = true
    ·rw [if_pos hx]
     exact ih _ (fun e => h (by rw [List.all_cons, hx, e]; rfl))
    ·rw [if_neg hx]
     exact ⟨rfl, rfl⟩
  exact key _ _ h
theorem lines_calls' (s : ByteArray) (hs : s.size ≤ 16777216) (w : World) :
  Calls Tryd.prog 19 #[.string s] w fun e w' => (∃ v, e = .returned (.tuple #[v, .int .i64 (linesF s).2.1, .int .i64 (linesF s).2.2]) ∧ Kd.R (Kd.slice 9 Kd.string) 84 w' w.heap.size (fun _ => True) v (linesF s).1) ∧ Below w.heap.size w w' := by
 refine (lines_calls s hs w).mono ?_
 rintro e w' ⟨h, hb⟩
 refine ⟨?_, hb⟩
 rcases h with ⟨hall, v, he, hR⟩ | ⟨pre, x, rest, hk, hall, hx, he⟩
 ·have e1 : linesF s = ((rowsF s.size s).map (fun x => wordsF x.1), 0, 0) := by rw [linesF, linesG_ok _ _ hall, List.nil_append]
  rw [e1]
  exact ⟨v, he, hR⟩
 ·have e1 : linesF s = ([], (pre.length : Int) + 1, 4) := by
   rw [linesF, hk, linesG_bad _ _ _ _ hall hx]
   simp
  rw [e1]
  exact ⟨_, he, Kd.R_nil _ _ _ _ _⟩
end Go.Proofs.YtiddiboclfpklaaDoor.Tx
