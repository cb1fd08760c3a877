/- The state of the statement BoxPlays, and what each act makes of it. -/
import Derived.Test.YtnaliaebjeikaaaBoxE
import Derived.Deep.RegionHeld3
import Derived.Deep.RegionWith
import Derived.Deep.DeepCutAuto
import Derived.Deep.CutBlock
namespace Go.Proofs.Ytnaliaebjeikaaa
open Go.RowKit Go.Proofs.YtnaliaebjeikaaaW.PrintWords
set_option linter.unusedVariables false

/-- How an act reads. -/
def ActR (x : Int × Int) (cs : List Value) : Prop := cs = [.int .i64 x.1, .int .i64 x.2]
/-- A slice of acts that is read. -/
def ActsC (w : World) (A : Option Addr) (l : List (Int × Int)) : Prop := ReadsRow ActR 2 w A l.length l

/-- Two boxes and the document's two boxes: they hold the same. -/
structure PlaySt (w0 wr : World) (a ca b cb x y lo : Nat) (capa capb : Nat) (xs ys : List Int) : Prop where
  A : HoldsBox 69 (Value.int .i64) wr a ca capa xs
  B : HoldsBox 69 (Value.int .i64) wr b cb capb ys
  X : HoldsRef wr lo x xs capa
  Y : HoldsRef wr lo y ys capb
  la : xs.length ≤ capa
  lb : ys.length ≤ capb
  g : w0.grownBy wr none
  z : lo ≤ wr.heap.size

/-- The blocks are each another one, new, and below lo. -/
structure Blocks (w0 : World) (a ca b cb x y lo : Nat) : Prop where
  nd : [a, ca, b, cb, x, y].Nodup
  new : ∀ i ∈ [a, ca, b, cb, x, y], w0.heap.size ≤ i ∧ i < lo

theorem cell_keepA {w : World} {a : Addr} {v : Value} (h : w.cell? a = some v) (o : Obj) : (w.alloc o).cell? a = some v := pw_cell_below ((Below.refl _ w).alloc (Nat.le_refl _) o) h
theorem cell_keepD {w : World} {a : Addr} {v : Value} (h : w.cell? a = some v) : w.drew.cell? a = some v := h


section
variable {w0 wr w1 w2 : World} {a ca b cb x y lo capa capb : Nat} {xs ys xs' ys' : List Int}
theorem Blocks.ne {w0 : World} (h : Blocks w0 a ca b cb x y lo) : (a ≠ ca ∧ a ≠ b ∧ a ≠ cb ∧ a ≠ x ∧ a ≠ y) ∧ (ca ≠ b ∧ ca ≠ cb ∧ ca ≠ x ∧ ca ≠ y) ∧ (b ≠ cb ∧ b ≠ x ∧ b ≠ y) ∧ (cb ≠ x ∧ cb ≠ y) ∧ x ≠ y := by
  have := h.nd
  simp only [List.nodup_cons, List.mem_cons, List.not_mem_nil, not_or, or_false] at this
  obtain ⟨h1, h2, h3, h4, h5, _⟩ := this
  exact ⟨h1, h2, h3, h4, h5⟩
theorem Blocks.lts {w0 : World} (h : Blocks w0 a ca b cb x y lo) : (a < lo ∧ ca < lo ∧ b < lo ∧ cb < lo ∧ x < lo ∧ y < lo) ∧ (w0.heap.size ≤ a ∧ w0.heap.size ≤ ca ∧ w0.heap.size ≤ b ∧ w0.heap.size ≤ cb ∧ w0.heap.size ≤ x ∧ w0.heap.size ≤ y) := by
  have := h.new
  simp only [List.mem_cons, List.not_mem_nil, or_false, forall_eq_or_imp, forall_eq] at this
  obtain ⟨h1, h2, h3, h4, h5, h6⟩ := this
  exact ⟨⟨h1.2, h2.2, h3.2, h4.2, h5.2, h6.2⟩, ⟨h1.1, h2.1, h3.1, h4.1, h5.1, h6.1⟩⟩

theorem PlaySt.quiet (P : PlaySt w0 wr a ca b cb x y lo capa capb xs ys) (h : Below wr.heap.size wr w1) : PlaySt w0 w1 a ca b cb x y lo capa capb xs ys := by
  have g := grown_of_below h none
  exact ⟨P.A.kept g (by simp) (by simp), P.B.kept g (by simp) (by simp), P.X.kept g (by simp) (fun i e => by cases e), P.Y.kept g (by simp) (fun i e => by cases e), P.la, P.lb, grown_then P.g g (fun i e => by cases e), Nat.le_trans P.z h.size⟩
theorem PlaySt.drew (P : PlaySt w0 wr a ca b cb x y lo capa capb xs ys) : PlaySt w0 wr.drew a ca b cb x y lo capa capb xs ys := P.quiet (below_drew (Below.refl _ _))
theorem PlaySt.drewN (P : PlaySt w0 wr a ca b cb x y lo capa capb xs ys) (n : Nat) : PlaySt w0 (wr.drewN n) a ca b cb x y lo capa capb xs ys := P.quiet (pw_below_drewN (Below.refl _ _) n)
theorem PlaySt.alloc (P : PlaySt w0 wr a ca b cb x y lo capa capb xs ys) (o : Obj) : PlaySt w0 (wr.alloc o) a ca b cb x y lo capa capb xs ys := P.quiet ((Below.refl _ _).alloc (Nat.le_refl _) o)
theorem PlaySt.below (P : PlaySt w0 wr a ca b cb x y lo capa capb xs ys) : Below w0.heap.size w0 wr := ⟨P.g.os, P.g.tape, P.g.output, P.g.size, fun k hk => P.g.block k hk (by simp)⟩

/-- The first box has turned, then the document's first box. -/
theorem PlaySt.stepA (P : PlaySt w0 wr a ca b cb x y lo capa capb xs ys) (K : Blocks w0 a ca b cb x y lo) (hA : HoldsBox 69 (Value.int .i64) w1 a ca capa xs') (g1 : wr.grownBy w1 (some ca)) :
    HoldsRef w1 lo x xs capa ∧ lo ≤ w1.heap.size ∧ (HoldsRef w2 lo x xs' capa → w1.grownBy w2 (some x) → xs'.length ≤ capa → PlaySt w0 w2 a ca b cb x y lo capa capb xs' ys) := by
  obtain ⟨n1, n2, n3, n4, n5⟩ := K.ne
  obtain ⟨l1, l2⟩ := K.lts
  refine ⟨P.X.kept g1 (by simp; omega) (fun i e => by cases e; omega), Nat.le_trans P.z g1.size, fun hX g2 hl => ⟨hA.kept g2 (by simp; omega) (by simp; omega), ?_, hX, ?_, hl, P.lb, ?_, Nat.le_trans P.z (Nat.le_trans g1.size g2.size)⟩⟩
  · exact (P.B.kept g1 (by simp; omega) (by simp; omega)).kept g2 (by simp; omega) (by simp; omega)
  · exact (P.Y.kept g1 (by simp; omega) (fun i e => by cases e; omega)).kept g2 (by simp; omega) (fun i e => by cases e; omega)
  · exact grown_then (grown_then P.g g1 (fun i e => by cases e; exact .inr (by omega))) g2 (fun i e => by cases e; exact .inr (by omega))
theorem PlaySt.stepB (P : PlaySt w0 wr a ca b cb x y lo capa capb xs ys) (K : Blocks w0 a ca b cb x y lo) (hB : HoldsBox 69 (Value.int .i64) w1 b cb capb ys') (g1 : wr.grownBy w1 (some cb)) :
    HoldsRef w1 lo y ys capb ∧ lo ≤ w1.heap.size ∧ (HoldsRef w2 lo y ys' capb → w1.grownBy w2 (some y) → ys'.length ≤ capb → PlaySt w0 w2 a ca b cb x y lo capa capb xs ys') := by
  obtain ⟨n1, n2, n3, n4, n5⟩ := K.ne
  obtain ⟨l1, l2⟩ := K.lts
  refine ⟨P.Y.kept g1 (by simp; omega) (fun i e => by cases e; omega), Nat.le_trans P.z g1.size, fun hY g2 hl => ⟨?_, hB.kept g2 (by simp; omega) (by simp; omega), ?_, hY, P.la, hl, ?_, Nat.le_trans P.z (Nat.le_trans g1.size g2.size)⟩⟩
  · exact (P.A.kept g1 (by simp; omega) (by simp; omega)).kept g2 (by simp; omega) (by simp; omega)
  · exact (P.X.kept g1 (by simp; omega) (fun i e => by cases e; omega)).kept g2 (by simp; omega) (fun i e => by cases e; omega)
  · exact grown_then (grown_then P.g g1 (fun i e => by cases e; exact .inr (by omega))) g2 (fun i e => by cases e; exact .inr (by omega))
/-- Both boxes have turned; then the document's. -/
theorem PlaySt.stepF (P : PlaySt w0 wr a ca b cb x y lo capa capb xs ys) (K : Blocks w0 a ca b cb x y lo) (hA : HoldsBox 69 (Value.int .i64) w1 a ca capa xs') (hB : HoldsBox 69 (Value.int .i64) w1 b cb capb ys')
    (hX : HoldsRef w1 lo x xs' capa) (hY : HoldsRef w1 lo y ys' capb) (hla : xs'.length ≤ capa) (hlb : ys'.length ≤ capb) (g : w0.grownBy w1 none) (z : lo ≤ w1.heap.size) : PlaySt w0 w1 a ca b cb x y lo capa capb xs' ys' :=
  ⟨hA, hB, hX, hY, hla, hlb, g, z⟩
end

theorem play_start {w w2 : World} (n m : Int) (o0 o1 o2 o3 : Obj) (i j : Nat) (hij : i ≠ j) (hi : i < 4) (hj : j < 4) (hx : [o0, o1, o2, o3][i]? = some (.cells #[.slice none 0 0, .int .i64 (clamp n : Int)] 35 (0, 0))) (hy : [o0, o1, o2, o3][j]? = some (.cells #[.slice none 0 0, .int .i64 (clamp m : Int)] 35 (0, 0)))
    (G : w2.heap.size = w.heap.size + 5 ∧ HoldsBox 69 (Value.int .i64) w2 (w.heap.size + 2) (w.heap.size + 1) (clamp n) [] ∧ HoldsBox 69 (Value.int .i64) w2 (w.heap.size + 4) (w.heap.size + 3) (clamp m) [] ∧ Below w.heap.size w w2) :
    ∃ x y lo, Value.pointer (some ⟨w2.heap.size + i, 0, none⟩) = .pointer (some ⟨x, 0, none⟩) ∧ Value.pointer (some ⟨w2.heap.size + j, 0, none⟩) = .pointer (some ⟨y, 0, none⟩) ∧ Aside0 (Blocks w (w.heap.size + 2) (w.heap.size + 1) (w.heap.size + 4) (w.heap.size + 3) x y lo) ∧
      Aside0 (PlaySt w ((((w2.alloc o0).alloc o1).alloc o2).alloc o3).drew (w.heap.size + 2) (w.heap.size + 1) (w.heap.size + 4) (w.heap.size + 3) x y lo (clamp n) (clamp m) [] []) := by
  obtain ⟨hz, hA, hB, hW⟩ := G
  have hb : Below w2.heap.size w2 ((((w2.alloc o0).alloc o1).alloc o2).alloc o3).drew := below_drew (((((Below.refl _ w2).alloc (Nat.le_refl _) o0).alloc (by simp) o1).alloc (by simp; omega) o2).alloc (by simp; omega) o3)
  have hat : ∀ k, k < 4 → ((((w2.alloc o0).alloc o1).alloc o2).alloc o3).drew.heap[w2.heap.size + k]? = [o0, o1, o2, o3][k]? := by
    intro k hk
    show ((((w2.heap.push o0).push o1).push o2).push o3)[w2.heap.size + k]? = _
    rcases k with _ | _ | _ | _ | k
    · simp only [Array.getElem?_push, Array.size_push]; (repeat' split) <;> first | rfl | omega | exact absurd trivial ‹¬True›
    · simp only [Array.getElem?_push, Array.size_push]; (repeat' split) <;> first | rfl | omega | exact absurd trivial ‹¬True›
    · simp only [Array.getElem?_push, Array.size_push]; (repeat' split) <;> first | rfl | omega | exact absurd trivial ‹¬True›
    · simp only [Array.getElem?_push, Array.size_push]; (repeat' split) <;> first | rfl | omega | exact absurd trivial ‹¬True›
    · omega
  have hs : ((((w2.alloc o0).alloc o1).alloc o2).alloc o3).drew.heap.size = w2.heap.size + 4 := by
    show ((((w2.heap.push o0).push o1).push o2).push o3).size = _
    simp
  have g := grown_of_below hb none
  refine ⟨_, _, w2.heap.size + 4, rfl, rfl, ⟨⟨?_, ?_⟩⟩, ⟨⟨hA.kept g (by simp) (by simp), hB.kept g (by simp) (by simp), ?_, ?_, by simp, by simp, ?_, by omega⟩⟩⟩
  · simp; omega
  · simp; omega
  · exact ⟨none, 0, (hat i hi).trans hx, by simp, fun h0 => by simp at h0, by simp⟩
  · exact ⟨none, 0, (hat j hj).trans hy, by simp, fun h0 => by simp at h0, by simp⟩
  · exact grown_of_below (hW.trans (hb.mono (by omega))) none
end Go.Proofs.Ytnaliaebjeikaaa
