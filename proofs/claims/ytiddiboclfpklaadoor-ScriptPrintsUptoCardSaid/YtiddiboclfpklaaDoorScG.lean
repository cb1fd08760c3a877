import Derived.RangeFuncNested
import Derived.RangeFuncBound
import Derived.RangeFuncCalls
import Derived.RangeFuncLeaves
import Derived.RangeFuncBox
import Derived.Shelf.Abstract
import Derived.Shelf.RegionOpen
import Derived.WalkKit
import Derived.OwnWalkIn
import Derived.TacticsInMore
import Derived.LoopNIn
import Derived.LoopIn
import Derived.Maps.OwnIn
import Derived.Test.YtiddiboclfpklaaDoorScB
/- A range over an iterator that keeps its state in a box of its own: the law, and the iterator of a text's lines. -/
namespace Go.Proofs.YtiddiboclfpklaaDoor.Tx
open Go.RowKit Go.Shelf Go.Maps Go.Proofs.YtiddiboclfpklaaDoorW.PrintWords
set_option linter.unusedVariables false

attribute [local go_sem] Oper.semAt_some

/-- What abides new blocks, draws and turns of the box B. -/
def AbBox {β : Type} (B : Nat) (J : β → World → Prop) : Prop := ∀ s W W' row, J s W → W.grownBy W' row → (∀ r, row = some r → r = B) → J s W'
/-- What an iterator with a box of its own hands on. -/
def SeqBox {α : Type} (n g : Nat) (lb : Array Value) (encs : α → Array Value) (B : Nat) (Pok : α → Prop) (S Sp : List α → Prop) (N : Nat) (w : World) : Prop :=
  ∀ (l : Nat) (J Jx : List α → World → Prop) (W : World), Below w.heap.size w W → AbBox B J →
    (∀ pre x V, Pok x → J pre V → pre.length < N → YieldAt Fence.wide (n - 1) Tryd.prog l (encs x) V fun e V' =>
      (e = .returned (.bool true) ∧ J (pre ++ [x]) V' ∧ V'.heap[B]? = V.heap[B]?) ∨ (e = .returned (.bool false) ∧ Jx (pre ++ [x]) V')) →
    J [] W →
    CallsIn Fence.wide n Tryd.prog g (#[.func (.yield l) #[] #[]] ++ lb) W fun e V => (∃ v, e = .returned v) ∧ ((∃ xs, S xs ∧ J xs V) ∨ (∃ pre, Sp pre ∧ Jx pre V))
/-- How a round may be left. -/
def boxPost {α : Type} (B0 B : Nat) (I Ix : List α → World → Prop) (xs : List α) (W : World) : Exit → Act → World → Prop
  | .normal, _, W' => KeepsFrom B0 W W' ∧ W'.heap[B]? = W.heap[B]? ∧ I xs W'
  | .ret, _, W' => KeepsFrom B0 W W' ∧ Ix xs W'
  | _, _, _ => False
/-- What abides turns of blocks from B0 on that are no cells, and of the box B. -/
def OwnBox {β : Type} (B0 B : Nat) (I : β → World → Prop) : Prop := ∀ s W W' row, I s W → W.grownBy W' row → (∀ r, row = some r → r = B ∨ (B0 ≤ r ∧ ∃ o : Obj, W.heap[r]? = some o ∧ o.isCells = false)) → I s W'
theorem OwnBox.put {β : Type} {B0 B : Nat} {I : β → World → Prop} (h : OwnBox B0 B I) {s : β} {W : World} {l : Nat} {o : Obj} (o' : Obj) (hs : I s W) (hB : B0 ≤ l) (hl : W.heap[l]? = some o) (ho : o.isCells = false) : I s (W.putObj l o') :=
  h s W _ (some l) hs (grownBy_putObj' W l o') (fun r e => by cases e; exact .inr ⟨hB, o, hl, ho⟩)
theorem OwnBox.lay {β : Type} {B0 B : Nat} {I : β → World → Prop} (h : OwnBox B0 B I) {s : β} {W : World} (o : Obj) (hs : I s W) : I s (W.alloc o) :=
  h s W _ none hs (World.grownBy_alloc W o none) (fun r e => by cases e)

set_option maxHeartbeats 1000000 in
theorem rangeBox {α : Type} {n : Nat} {g : Operand} {ps : Array Tmp} {assign body : Code} {Q : Exit → Act → World → Prop} {a : Act} {w : World}
    (h1 : 1 ≤ n) {gf : Nat} {lb : Array Value} (hg : a.eval g = .func (.func gf) #[] lb) (eg : ∀ args w, (callFunc gf args).run Tryd.prog w = .ok (.enter gf args) w)
    {encs : α → Array Value} {B : Nat} {Pok : α → Prop} {S Sp : List α → Prop} {N : Nat} {w0 : World} (hseq : SeqBox (n - 1) gf lb encs B Pok S Sp N w0)
    (hB : B < w.heap.size) (hb0 : Below w0.heap.size w0 w) (hps : ∀ x, (encs x).size = ps.size)
    (I Ix : List α → World → Prop) (hI : OwnBox w.heap.size B I) (hIx : OwnBox w.heap.size B Ix) (h0 : I [] w) (a₁ : α → Act)
    (hassign : ∀ (l : Nat) (x : α) (W : World) (K : Act → World → Prop), K (a₁ x) W →
      assign.wpIn (Fence.wide.inRound l) (n - 1 - 1) Tryd.prog (Exit.then K (fun _ _ _ => False)) { tmps := (ps.zip (encs x)).foldl (fun t (p, v) => t.setIfInBounds p v) a.tmps, defers := [] } W)
    (hbody : ∀ (l : Nat) (pre : List α) (x : α) (W : World), Pok x → I pre W → pre.length < N → body.wpIn (Fence.wide.inRound l) (n - 1 - 1) Tryd.prog (boxPost w.heap.size B I Ix (pre ++ [x]) W) (a₁ x) W)
    (hdone : ∀ (D : Nat) (xs : List α) (W : World), w.heap.size ≤ D → S xs → I xs W → W.heap[D]? = some (.deferred (some [])) → Q .normal { a with defers := { target := .collected D, args := #[] } :: a.defers } W)
    (hstop : ∀ (D : Nat) (pre : List α) (W : World), w.heap.size ≤ D → Sp pre → Ix pre W → W.heap[D]? = some (.deferred (some [])) → Code.ret.wpIn Fence.wide n Tryd.prog Q { a with defers := { target := .collected D, args := #[] } :: a.defers } W) :
    (Code.rangeFunc g ps assign body).wpIn Fence.wide n Tryd.prog Q a w := by
  refine wpIn_rangeFunc ?_
  intro fn hfn
  rw [show Fence.wide.round = none from rfl]
  obtain ⟨m, hm⟩ : ∃ m, w.heap.size = m := ⟨_, rfl⟩
  rw [hm] at hB hI hIx hbody hdone hstop
  obtain ⟨rc, hrc⟩ : ∃ rc : LoopState → Option Code → Loop, rc = fun st pe => { state := st, pending := pe, fn, tmps := a.tmps, params := ps, assign, body, defers := m } := ⟨_, rfl⟩
  obtain ⟨W1, hW1⟩ : ∃ W1, (w.alloc (.deferred (some []))).alloc (.loop (rc .ready none)) = W1 := ⟨_, rfl⟩
  have hR1 : W1.heap[m + 1]? = some (.loop (rc .ready none)) := by
    rw [← hW1, ← hm]
    have h := World.alloc_heap_new (w.alloc (.deferred (some []))) (.loop (rc .ready none))
    rwa [World.size_alloc] at h
  have hD1 : W1.heap[m]? = some (.deferred (some [])) := by
    rw [← hW1, ← hm]
    exact (Below.heap_alloc _ _ _ (by simp)).trans (World.alloc_heap_new w _)
  have hI1 : I [] W1 := by rw [← hW1]; exact hI.lay _ (hI.lay _ h0)
  have hb1 : Below w0.heap.size w0 W1 := by
    rw [← hW1]
    exact hb0.trans ((((Below.refl _ w).alloc (Nat.le_refl _) _).alloc (by simp) _).mono hb0.size)
  refine ⟨m + 1, [{ target := .collected m, args := #[] }], W1, { target := .fn (.func gf) lb, args := #[.func (.yield (m + 1)) #[] #[]] }, W1, gf, #[.func (.yield (m + 1)) #[] #[]] ++ lb, W1, ?_, ?_, fun _ _ => trivial, ?_, fun _ => h1, ?_⟩
  · rw [← hW1, hrc, ← hm]; exact run_enterLoop_outer _ _ _ _ _
  · simp only [resolve, hg]
    simp [go_sem]
  · simp [invoke, go_sem, eg]
  · refine (hseq (m + 1) (fun pre W => I pre W ∧ W.heap[m + 1]? = some (.loop (rc .ready none)) ∧ W.heap[m]? = some (.deferred (some [])))
      (fun pre W => Ix pre W ∧ W.heap[m + 1]? = some (.loop (rc .done (some .ret))) ∧ W.heap[m]? = some (.deferred (some []))) W1 hb1 ?_ ?_ ⟨hI1, hR1, hD1⟩).mono ?_
    · intro s A C row hs hg' hr
      have keep : ∀ k o, m ≤ k → A.heap[k]? = some o → C.heap[k]? = some o := fun k o hk ho => (hg'.block k (Array.getElem?_eq_some_iff.1 ho).1 (fun e => by have := hr k e.symm; omega)).trans ho
      exact ⟨hI s A C row hs.1 hg' (fun r e => .inl (hr r e)), keep _ _ (by omega) hs.2.1, keep _ _ (Nat.le_refl _) hs.2.2⟩
    · rintro pre x W hx ⟨hi, hl, hk⟩ hlen
      have hlt : m + 1 < W.heap.size := (Array.getElem?_eq_some_iff.1 hl).1
      have hy := run_yield (P := Tryd.prog) (args := encs x) hl (by rw [hrc]; exact hps x)
      rw [hrc] at hy
      refine ⟨fn, _, assign, body, hy, roundIn_of_wpIn hfn (hassign _ x W _ ⟨_, run_beginRound hl (by rw [hrc]), ?_⟩)⟩
      obtain ⟨V, hV⟩ : ∃ V, W.putObj (m + 1) (.loop { rc .ready none with state := .busy }) = V := ⟨_, rfl⟩
      have hl2 : V.heap[m + 1]? = some (.loop { rc .ready none with state := .busy }) := by rw [← hV]; exact World.putObj_heap_same hlt
      have hk2 : V.heap[m]? = some (.deferred (some [])) := by rw [← hV]; exact (World.putObj_heap_other (by omega)).trans hk
      have hv2 : V.heap[B]? = W.heap[B]? := by rw [← hV]; exact World.putObj_heap_other (by omega)
      have hi2 : I pre V := by rw [← hV]; exact hI.put _ hi (by omega) hl rfl
      rw [hV]
      refine wpIn_mono (hbody _ pre x V hx hi2 hlen) ?_
      have fin : ∀ (jump : Option Code) (Z : World), KeepsFrom m V Z →
          (Instr.endRound (m + 1) jump).run Tryd.prog Z = .ok (.bool jump.isNone) (Z.putObj (m + 1) (.loop (rc (if jump.isNone then .ready else .done) jump))) ∧
          Z.heap[m + 1]? = some (.loop { rc .ready none with state := .busy }) ∧
          (Z.putObj (m + 1) (.loop (rc (if jump.isNone then .ready else .done) jump))).heap[m + 1]? = some (.loop (rc (if jump.isNone then .ready else .done) jump)) ∧
          (Z.putObj (m + 1) (.loop (rc (if jump.isNone then .ready else .done) jump))).heap[m]? = some (.deferred (some [])) := fun jump Z hz => by
        have hz1 := hz.same _ _ (by omega) hl2 rfl
        have h := run_endRound (P := Tryd.prog) jump hz1
        rw [hrc] at h ⊢
        exact ⟨h, by rw [hrc] at hz1; exact hz1, World.putObj_heap_same (Array.getElem?_eq_some_iff.1 hz1).1, (World.putObj_heap_other (by omega)).trans (hz.same _ _ (Nat.le_refl _) hk2 rfl)⟩
      rintro e a3 Z hp
      cases e with
      | normal =>
        obtain ⟨hz, hzB, hzi⟩ := hp
        obtain ⟨hr, f1, f2, f3⟩ := fin none Z hz
        exact ⟨_, _, hr, .inl ⟨rfl, ⟨hI.put _ hzi (by omega) f1 rfl, f2, f3⟩, ((World.putObj_heap_other (by omega)).trans hzB).trans hv2⟩⟩
      | ret =>
        obtain ⟨hz, hzi⟩ := hp
        obtain ⟨hr, f1, f2, f3⟩ := fin (some .ret) Z hz
        exact ⟨_, _, hr, .inr ⟨rfl, hIx.put _ hzi (by omega) f1 rfl, f2, f3⟩⟩
      | exit id => exact hp.elim
      | goto t => exact hp.elim
      | panic ch => exact hp.elim
      | outgrown => exact hp.elim
    · rintro e Z ⟨⟨v, rfl⟩, (⟨xs, hS, hi, hl, hk⟩ | ⟨pre, hSp, hi, hl, hk⟩)⟩
      · exact ⟨none, _, by have := run_endLoop (P := Tryd.prog) hl (by rw [hrc]; simp); rw [hrc] at this; exact this, hdone _ xs _ (Nat.le_refl _) hS (hI.put _ hi (by omega) hl rfl) ((World.putObj_heap_other (by omega)).trans hk)⟩
      · exact ⟨some .ret, _, by have := run_endLoop (P := Tryd.prog) hl (by rw [hrc]; simp); rw [hrc] at this; exact this, hstop _ pre _ (Nat.le_refl _) hSp (hIx.put _ hi (by omega) hl rfl) ((World.putObj_heap_other (by omega)).trans hk)⟩

/-- A text's lines, and whether each has its end. -/
def rowsF : Nat → ByteArray → List (ByteArray × Bool)
  | 0, _ => []
  | n + 1, s => if s.size = 0 then [] else
    if Lib.indexByte s.data.toList 10 = -1 then [(s, false)] else
    (s.extract 0 (Lib.indexByte s.data.toList 10).toNat, true) :: rowsF n (s.extract ((Lib.indexByte s.data.toList 10).toNat + 1) s.size)
/-- The lines that an iterator hands on. -/
def encRow (x : ByteArray × Bool) : Array Value := #[.string x.1, .bool x.2]
end Go.Proofs.YtiddiboclfpklaaDoor.Tx
/- The iterator of a text's lines. -/
namespace Go.Proofs.YtiddiboclfpklaaDoor.Tx
open Go.RowKit Go.Shelf Go.Maps Go.Proofs.YtiddiboclfpklaaDoorW.PrintWords
set_option linter.unusedVariables false

attribute [local go_sem] Oper.semAt_some

/-- The size of the text in a box. -/
def sizeAt (B : Nat) (W : World) : Nat := match W.cell? ⟨B, 0, none⟩ with
  | some (.string s) => s.size
  | _ => 0
theorem sizeAt_of {B : Nat} {W : World} {s : ByteArray} (h : Boxed W B 9 (.string s)) : sizeAt B W = s.size := by
  unfold sizeAt
  rw [h.cell]
theorem grown_drewN (w : World) (n : Nat) : w.grownBy (w.drewN n) none := ⟨rfl, rfl, rfl, Nat.le_refl _, fun _ _ _ => rfl⟩
theorem rowsF_nil (n : Nat) (s : ByteArray) (h : s.size = 0) : rowsF n s = [] := by
  cases n with
  | zero => rfl
  | succ n => rw [rowsF, if_pos h]

theorem bytes_eq (a b : ByteArray) (h : (a == b) = true) : a = b := by
  have h2 : (a.data == b.data) = true := h
  exact ByteArray.ext (eq_of_beq h2)

set_option maxRecDepth 100000 in
set_option maxHeartbeats 2000000 in
theorem rows1_in (n : Nat) (hn : 1 ≤ n) (l B : Nat) (s : ByteArray) (hs : s.size ≤ 140737488355328) (J Jx : List (ByteArray × Bool) → World → Prop) (hJ : AbBox B J)
    (hY : ∀ pre x V, x.1.size ≤ s.size → J pre V → pre.length < s.size → YieldAt Fence.wide (n - 1) Tryd.prog l (encRow x) V fun e V' =>
      (e = .returned (.bool true) ∧ J (pre ++ [x]) V' ∧ V'.heap[B]? = V.heap[B]?) ∨ (e = .returned (.bool false) ∧ Jx (pre ++ [x]) V'))
    (W : World) (hb : Boxed W B 9 (.string s)) (h0 : J [] W) :
    CallsIn Fence.wide n Tryd.prog 69 #[.func (.yield l) #[] #[], .pointer (some ⟨B, 0, none⟩)] W fun e V => (∃ v, e = .returned v) ∧
      ((∃ xs, xs = rowsF s.size s ∧ J xs V) ∨ (∃ pre, (∃ rest, rowsF s.size s = pre ++ rest) ∧ Jx pre V)) := by
  refine callsIn_of_wp Tryd.func69 rfl trivial ?_ rfl
  simp only [Tryd.ntmps69, List.size_toArray, List.length_cons, List.length_nil, Nat.reduceAdd, Nat.reduceSub, Array.replicate_succ, Array.replicate_zero, List.push_toArray, List.append_toArray, List.nil_append, List.cons_append]
  have HY := Aside0.mk hY
  have HJ := Aside0.mk hJ
  clear hY hJ
  obtain ⟨N, hN⟩ : ∃ N, s.size = N := ⟨_, rfl⟩
  have HN := Aside0.mk hN
  gi_wp2
  gi_loopw [] (fun wr => ∃ (m : Nat) (sr : ByteArray), Boxed wr B 9 (.string sr) ∧ sr.size ≤ m ∧ sr.size ≤ N ∧ Aside0 (∃ pre, rowsF s.size s = pre ++ rowsF m sr ∧ pre.length + m = s.size ∧ J pre wr)) (fun wr => sizeAt B wr)
  case atStart => exact ⟨s.size, s, hb, Nat.le_refl _, by omega, ⟨[], rfl, by simp, h0⟩⟩
  case round =>
    obtain ⟨m, sr, hbx, hm, hsN, ⟨pre, hpre, hlen, hJs⟩⟩ := hrel
    have hc := hbx.cell
    have hf := hbx.frozen
    have HBX := Aside0.mk hbx
    have HP := Aside0.mk (And.intro hpre (And.intro hlen hJs))
    clear hbx hpre hlen hJs
    by_cases hz : sr.size = 0
    · have e : sr = ⟨#[]⟩ := by
        apply ByteArray.ext
        exact Array.eq_empty_of_size_eq_zero hz
      subst e
      gi_wp2
      go_end0
      refine ⟨⟨_, rfl⟩, .inl ⟨pre, ?_, HP.out.2.2⟩⟩
      rw [HP.out.1, rowsF_nil _ _ rfl, List.append_nil]
    · have hne : sr.toList.isEmpty = false := by
        rw [Lib.toList_data]
        have hl : sr.data.toList.length = sr.size := data_length sr
        cases hq : sr.data.toList with
        | nil => rw [hq] at hl; exact absurd hl.symm hz
        | cons a l => rfl
      obtain ⟨m', rfl⟩ : ∃ m', m = m' + 1 := ⟨m - 1, by omega⟩
      have HNE := Aside0.mk hne
      rcases indexByte_cases sr.data.toList 10 with hi | ⟨k, hi, hk⟩
      · have HR : Aside0 (rowsF (m' + 1) sr = [(sr, false)] ++ rowsF m' ⟨#[]⟩) := ⟨by rw [rowsF, if_neg hz, if_pos hi, rowsF_nil _ _ rfl]; rfl⟩
        have HI := Aside0.mk hi
        clear hi
        obtain ⟨fn, tmps, assign, body, hy, hR⟩ := HY.out pre (sr, false) wr (by show sr.size ≤ s.size; omega) HP.out.2.2 (by have := HP.out.2.1; omega)
        unfold encRow at hy
        have HR2 := Aside0.mk hR
        clear hR
        gi_wp2_with ((refine ⟨trivial, ?_⟩; gi_at_call 70; refine (callsIn_wide.2 (strings_cut_none _ _ HI.out _)).mono ?_; rintro e w' ⟨rfl, rfl⟩))
        refine HR2.out.mono ?_
        rintro e W3 (⟨rfl, hJ3, hk3⟩ | ⟨rfl, hJx3⟩)
        · have hb3 : Boxed W3 B 9 (.string sr) := hk3.trans HBX.out
          have hc3 := hb3.cell
          have hf3 := hb3.frozen
          have HB3 := Aside0.mk (hb3.set (.string ⟨#[]⟩))
          have HJ3 := Aside0.mk (HJ.out _ _ _ (some B) hJ3 (grownBy_setCell' W3 B (.string ⟨#[]⟩)) (fun r e => by cases e; rfl))
          clear hb3 hJ3 hk3
          gi_wp2
          go_roundw
          case rel => exact ⟨m', ⟨#[]⟩, HB3.out, Nat.zero_le _, Nat.zero_le _, ⟨pre ++ [(sr, false)], by rw [HP.out.1, HR.out, List.append_assoc], by have := HP.out.2.1; simp; omega, HJ3.out⟩⟩
          case measure =>
            rw [sizeAt_of HB3.out, sizeAt_of HBX.out]
            show 0 < sr.size
            omega
        · have HX := Aside0.mk hJx3
          clear hJx3
          gi_wp2
          refine bodyPost_ret (results_none rfl _ _ _) rfl ?_
          exact ⟨⟨_, rfl⟩, .inr ⟨pre ++ [(sr, false)], ⟨_, by rw [HP.out.1, HR.out, List.append_assoc]⟩, HX.out⟩⟩
      · rw [data_length] at hk
        have HR : Aside0 (rowsF (m' + 1) sr = [(sr.extract 0 k, true)] ++ rowsF m' (sr.extract (k + 1) sr.size)) := ⟨by rw [rowsF, if_neg hz, if_neg (by rw [hi]; omega), hi, Int.toNat_natCast]; rfl⟩
        have HI := Aside0.mk hi
        clear hi
        gi_wp2_with ((refine ⟨trivial, ?_⟩; gi_at_call 70; refine (callsIn_wide.2 (strings_cut_some _ _ k HI.out hk (by omega) _)).mono ?_; rintro e w' ⟨rfl, nq, rfl⟩; obtain ⟨fn, tmps, assign, body, hy, hR⟩ := HY.out pre (sr.extract 0 k, true) (wr.drewN nq) (by simp; omega) (HJ.out _ _ _ none HP.out.2.2 (grown_drewN wr nq) (fun r e => by cases e)) (by have := HP.out.2.1; omega); unfold encRow at hy; have HR3 := Aside0.mk hR; clear hR))
        refine HR3.out.mono ?_
        rintro e W3 (⟨rfl, hJ3, hk3⟩ | ⟨rfl, hJx3⟩)
        · have hb3 : Boxed W3 B 9 (.string sr) := hk3.trans HBX.out
          have hc3 := hb3.cell
          have hf3 := hb3.frozen
          have HB3 := Aside0.mk (hb3.set (.string (sr.extract (k + 1) sr.size)))
          have HJ3 := Aside0.mk (HJ.out _ _ _ (some B) hJ3 (grownBy_setCell' W3 B (.string (sr.extract (k + 1) sr.size))) (fun r e => by cases e; rfl))
          clear hb3 hJ3 hk3
          gi_wp2
          go_roundw
          case rel => exact ⟨m', sr.extract (k + 1) sr.size, HB3.out, by simp; omega, by simp; omega, ⟨pre ++ [(sr.extract 0 k, true)], by rw [HP.out.1, HR.out, List.append_assoc], by have := HP.out.2.1; simp; omega, HJ3.out⟩⟩
          case measure =>
            rw [sizeAt_of HB3.out, sizeAt_of HBX.out]
            simp; omega
        · have HX := Aside0.mk hJx3
          clear hJx3
          gi_wp2
          refine bodyPost_ret (results_none rfl _ _ _) rfl ?_
          exact ⟨⟨_, rfl⟩, .inr ⟨pre ++ [(sr.extract 0 k, true)], ⟨_, by rw [HP.out.1, HR.out, List.append_assoc]⟩, HX.out⟩⟩
    
theorem rows1_box (n : Nat) (hn : 1 ≤ n) (B : Nat) (s : ByteArray) (hs : s.size ≤ 140737488355328) (w : World) (hb : Boxed w B 9 (.string s)) :
    SeqBox n 69 #[.pointer (some ⟨B, 0, none⟩)] (fun x : ByteArray × Bool => #[Value.string x.1, Value.bool x.2]) B (fun x => x.1.size ≤ s.size) (fun xs => xs = rowsF s.size s) (fun pre => ∃ rest, rowsF s.size s = pre ++ rest) s.size w := fun l J Jx W hW hJ hY h0 =>
  rows1_in n hn l B s hs J Jx hJ hY W ((hW.block B hb.lt).trans hb) h0
end Go.Proofs.YtiddiboclfpklaaDoor.Tx
