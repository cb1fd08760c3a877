/- box.First, with what a fact needs to outlive it; and what each act does to the state of BoxPlays. -/
import Derived.Test.YtnaliaebjeikaaaBoxF
namespace Go.Proofs.Ytnaliaebjeikaaa
open Go.RowKit Go.Proofs.YtnaliaebjeikaaaW.PrintWords
set_option linter.unusedVariables false

/-- What box.First leaves. -/
def FirstPost2 (w : World) (a b ca cb capa capb : Nat) (xs ys : List Int) (e : Ending) (w' : World) : Prop :=
  e = .returned (.tuple #[.int .i64 (if xs = [] then ys.headD 0 else xs.headD 0), .int .i64 (if xs = [] then (if ys = [] then 0 else 2) else 1)]) ∧
  HoldsBox 69 (Value.int .i64) w' a ca capa xs.tail ∧ HoldsBox 69 (Value.int .i64) w' b cb capb (if xs = [] then ys.tail else ys) ∧
  (∀ S : World → Prop, (∀ u v : World, S u → u.grownBy v (some ca) → S v) → (∀ u v : World, S u → u.grownBy v (some cb) → S v) → S w → S w')

set_option maxHeartbeats 1000000 in
theorem firstI2_calls (w : World) (a b ca cb capa capb : Nat) (xs ys : List Int) (ha : HoldsBox 69 (Value.int .i64) w a ca capa xs) (hb : HoldsBox 69 (Value.int .i64) w b cb capb ys) (h1 : b ≠ ca) (h2 : cb ≠ ca) (h3 : a ≠ cb) :
    Calls Try.prog 23 #[.pointer (some ⟨a, 0, none⟩), .pointer (some ⟨b, 0, none⟩)] w (FirstPost2 w a b ca cb capa capb xs ys) := by
  have HA := Aside0.mk ha
  have HB := Aside0.mk hb
  clear ha hb
  cases xs with
  | nil =>
    cases ys with
    | nil =>
      go_enter Try.func23, Try.ntmps23
      go_wp2_with fail
      refine (takeI_calls w a ca capa [] HA.out).mono ?_
      rintro e w1 ⟨rfl, hA1, g1⟩
      have HA1 := Aside0.mk hA1
      have HB1 := Aside0.mk (HB.out.kept g1 (by simpa using h1) (by simpa using h2))
      have G1 := Aside0.mk g1
      clear hA1 g1
      go_wp2_with fail
      refine (takeI_calls w1 b cb capb [] HB1.out).mono ?_
      rintro e w2 ⟨rfl, hB2, g2⟩
      have HA2 := Aside0.mk (HA1.out.kept g2 (by simpa using h3) (by simpa using fun e => h2 e.symm))
      have HB2 := Aside0.mk hB2
      have G2 := Aside0.mk g2
      clear hB2 g2
      go_wp2
      go_ret2
      exact ⟨rfl, HA2.out, HB2.out, fun S s1 s2 h0 => s2 _ _ (s1 _ _ h0 G1.out) G2.out⟩
    | cons y ys =>
      go_enter Try.func23, Try.ntmps23
      go_wp2_with fail
      refine (takeI_calls w a ca capa [] HA.out).mono ?_
      rintro e w1 ⟨rfl, hA1, g1⟩
      have HA1 := Aside0.mk hA1
      have HB1 := Aside0.mk (HB.out.kept g1 (by simpa using h1) (by simpa using h2))
      have G1 := Aside0.mk g1
      clear hA1 g1
      go_wp2_with fail
      refine (takeI_calls w1 b cb capb (y :: ys) HB1.out).mono ?_
      rintro e w2 ⟨rfl, hB2, g2⟩
      have HA2 := Aside0.mk (HA1.out.kept g2 (by simpa using h3) (by simpa using fun e => h2 e.symm))
      have HB2 := Aside0.mk hB2
      have G2 := Aside0.mk g2
      clear hB2 g2
      go_wp2
      go_ret2
      exact ⟨rfl, HA2.out, HB2.out, fun S s1 s2 h0 => s2 _ _ (s1 _ _ h0 G1.out) G2.out⟩
  | cons x xs =>
    go_enter Try.func23, Try.ntmps23
    go_wp2_with fail
    refine (takeI_calls w a ca capa (x :: xs) HA.out).mono ?_
    rintro e w1 ⟨rfl, hA1, g1⟩
    have HA1 := Aside0.mk hA1
    have HB1 := Aside0.mk (HB.out.kept g1 (by simpa using h1) (by simpa using h2))
    have G1 := Aside0.mk g1
    clear hA1 g1
    go_wp2
    go_ret2
    exact ⟨rfl, HA1.out, HB1.out, fun S s1 s2 h0 => s1 _ _ h0 G1.out⟩


section
variable {w0 wr w1 w2 : World} {a ca b cb x y lo capa capb : Nat} {xs ys xs' ys' : List Int}
/-- Both boxes have turned by First; the document's hold yet. -/
theorem PlaySt.first (P : PlaySt w0 wr a ca b cb x y lo capa capb xs ys) (K : Blocks w0 a ca b cb x y lo)
    (h : ∀ S : World → Prop, (∀ u v : World, S u → u.grownBy v (some ca) → S v) → (∀ u v : World, S u → u.grownBy v (some cb) → S v) → S wr → S w1) :
    HoldsRef w1 lo x xs capa ∧ HoldsRef w1 lo y ys capb ∧ w0.grownBy w1 none ∧ lo ≤ w1.heap.size := by
  obtain ⟨n1, n2, n3, n4, n5⟩ := K.ne
  obtain ⟨l1, l2⟩ := K.lts
  refine h (fun u => HoldsRef u lo x xs capa ∧ HoldsRef u lo y ys capb ∧ w0.grownBy u none ∧ lo ≤ u.heap.size) ?_ ?_ ⟨P.X, P.Y, P.g, P.z⟩
  · rintro u v ⟨h1, h2, h3, h4⟩ g
    exact ⟨h1.kept g (by simp; omega) (fun i e => by cases e; omega), h2.kept g (by simp; omega) (fun i e => by cases e; omega), grown_then h3 g (fun i e => by cases e; exact .inr (by omega)), Nat.le_trans h4 g.size⟩
  · rintro u v ⟨h1, h2, h3, h4⟩ g
    exact ⟨h1.kept g (by simp; omega) (fun i e => by cases e; omega), h2.kept g (by simp; omega) (fun i e => by cases e; omega), grown_then h3 g (fun i e => by cases e; exact .inr (by omega)), Nat.le_trans h4 g.size⟩
/-- Then the document's first box turns. -/
theorem PlaySt.firstX (K : Blocks w0 a ca b cb x y lo) (hA : HoldsBox 69 (Value.int .i64) w1 a ca capa xs') (hB : HoldsBox 69 (Value.int .i64) w1 b cb capb ys') (hY : HoldsRef w1 lo y ys capb) (g1 : w0.grownBy w1 none) (z : lo ≤ w1.heap.size) (g : w1.grownBy w2 (some x)) :
    HoldsBox 69 (Value.int .i64) w2 a ca capa xs' ∧ HoldsBox 69 (Value.int .i64) w2 b cb capb ys' ∧ HoldsRef w2 lo y ys capb ∧ w0.grownBy w2 none ∧ lo ≤ w2.heap.size := by
  obtain ⟨n1, n2, n3, n4, n5⟩ := K.ne
  obtain ⟨l1, l2⟩ := K.lts
  exact ⟨hA.kept g (by simp; omega) (by simp; omega), hB.kept g (by simp; omega) (by simp; omega), hY.kept g (by simp; omega) (fun i e => by cases e; omega), grown_then g1 g (fun i e => by cases e; exact .inr (by omega)), Nat.le_trans z g.size⟩
theorem PlaySt.firstY (K : Blocks w0 a ca b cb x y lo) (hA : HoldsBox 69 (Value.int .i64) w1 a ca capa xs') (hB : HoldsBox 69 (Value.int .i64) w1 b cb capb ys') (hX : HoldsRef w1 lo x xs capa) (g1 : w0.grownBy w1 none) (z : lo ≤ w1.heap.size) (g : w1.grownBy w2 (some y)) :
    HoldsBox 69 (Value.int .i64) w2 a ca capa xs' ∧ HoldsBox 69 (Value.int .i64) w2 b cb capb ys' ∧ HoldsRef w2 lo x xs capa ∧ w0.grownBy w2 none ∧ lo ≤ w2.heap.size := by
  obtain ⟨n1, n2, n3, n4, n5⟩ := K.ne
  obtain ⟨l1, l2⟩ := K.lts
  exact ⟨hA.kept g (by simp; omega) (by simp; omega), hB.kept g (by simp; omega) (by simp; omega), hX.kept g (by simp; omega) (fun i e => by cases e; omega), grown_then g1 g (fun i e => by cases e; exact .inr (by omega)), Nat.le_trans z g.size⟩
end

theorem lenI_same (w : World) (b c cap : Nat) (xs : List Int) (h : HoldsBox 69 (Value.int .i64) w b c cap xs) :
    Calls Try.prog 25 #[.pointer (some ⟨b, 0, none⟩)] w fun e w' => e = .returned (.int .i64 (xs.length : Int)) ∧ w' = w :=
  (lenI_calls w b c cap xs h).mono fun _ _ h => ⟨h.1, h.2.symm⟩
theorem roomI_same (w : World) (b c cap : Nat) (xs : List Int) (h : HoldsBox 69 (Value.int .i64) w b c cap xs) :
    Calls Try.prog 26 #[.pointer (some ⟨b, 0, none⟩)] w fun e w' => e = .returned (.int .i64 (cap : Int)) ∧ w' = w :=
  (roomI_calls w b c cap xs h).mono fun _ _ h => ⟨h.1, h.2.symm⟩

theorem put_same (xs : List Int) (x : Int) (capa : Nat) (h : xs.length ≤ capa) : (!decide ((xs.length : Int) = (capa : Int))) = decide (xs.length < capa) ∧
    (if (xs.length : Int) = (capa : Int) then xs else xs ++ [x]) = (if xs.length < capa then xs ++ [x] else xs) ∧ (if xs.length < capa then xs ++ [x] else xs).length ≤ capa := by
  by_cases h1 : xs.length < capa
  · have h2 : ¬ ((xs.length : Int) = (capa : Int)) := by omega
    refine ⟨by rw [decide_eq_true h1, decide_eq_false h2]; rfl, by rw [if_neg h2, if_pos h1], by rw [if_pos h1]; simp; omega⟩
  · have h2 : ((xs.length : Int) = (capa : Int)) := by omega
    exact ⟨by rw [decide_eq_false h1, decide_eq_true h2]; rfl, by rw [if_pos h2, if_neg h1], by rw [if_neg h1]; exact h⟩

/-- The state, for some lists. -/
def PlayEx (w0 wr : World) (a ca b cb x y lo : Nat) (capa capb : Nat) : Prop := ∃ xs ys, PlaySt w0 wr a ca b cb x y lo capa capb xs ys
/-- A second call's contract, behind a first. -/
def After2 (w0 : World) (a ca b cb x y lo capa capb : Nat) (f : FuncId) (args : Array Value) (v : Value) (w1 : World) : Prop :=
  Below w0.heap.size w0 w1 ∧ Calls Try.prog f args w1 fun e w2 => e = .returned v ∧ PlayEx w0 w2 a ca b cb x y lo capa capb ∧ Below w0.heap.size w0 w2

section
variable {w0 wr : World} {a ca b cb x y lo capa capb : Nat} {xs ys : List Int}
theorem PlaySt.putA (P : PlaySt w0 wr a ca b cb x y lo capa capb xs ys) (K : Blocks w0 a ca b cb x y lo) (hn : capa ≤ 64) (z : Int) :
    ∃ bo, Calls Try.prog 19 #[.pointer (some ⟨a, 0, none⟩), .int .i64 z] wr fun e w1 => e = .returned (.bool bo) ∧ After2 w0 a ca b cb x y lo capa capb 20 #[.pointer (some ⟨x, 0, none⟩), .int .i64 z] (.bool bo) w1 := by
  obtain ⟨e1, e2, e3⟩ := put_same xs z capa P.la
  obtain ⟨l1, l2⟩ := K.lts
  refine ⟨decide (xs.length < capa), (putI_calls z wr a ca capa xs P.A).mono ?_⟩
  rintro e w1 ⟨rfl, hA, g1⟩
  obtain ⟨hX, hz, hfin⟩ := P.stepA (w2 := w1) K hA g1
  refine ⟨rfl, P.below.grown g1 P.below.size (fun k e => by cases e; omega), (refPut_calls z capa w1 lo x xs hX (by omega) hz (by have := P.la; omega)).mono ?_⟩
  rintro e w2 ⟨rfl, hX2, g2⟩
  have Q := (P.stepA (w2 := w2) K hA g1).2.2 (by rw [← e2]; exact hX2) g2 e3
  exact ⟨by rw [e1], ⟨_, _, Q⟩, Q.below⟩
theorem PlaySt.putB (P : PlaySt w0 wr a ca b cb x y lo capa capb xs ys) (K : Blocks w0 a ca b cb x y lo) (hn : capb ≤ 64) (z : Int) :
    ∃ bo, Calls Try.prog 19 #[.pointer (some ⟨b, 0, none⟩), .int .i64 z] wr fun e w1 => e = .returned (.bool bo) ∧ After2 w0 a ca b cb x y lo capa capb 20 #[.pointer (some ⟨y, 0, none⟩), .int .i64 z] (.bool bo) w1 := by
  obtain ⟨e1, e2, e3⟩ := put_same ys z capb P.lb
  obtain ⟨l1, l2⟩ := K.lts
  refine ⟨decide (ys.length < capb), (putI_calls z wr b cb capb ys P.B).mono ?_⟩
  rintro e w1 ⟨rfl, hB, g1⟩
  obtain ⟨hY, hz, hfin⟩ := P.stepB (w2 := w1) K hB g1
  refine ⟨rfl, P.below.grown g1 P.below.size (fun k e => by cases e; omega), (refPut_calls z capb w1 lo y ys hY (by omega) hz (by have := P.lb; omega)).mono ?_⟩
  rintro e w2 ⟨rfl, hY2, g2⟩
  have Q := (P.stepB (w2 := w2) K hB g1).2.2 (by rw [← e2]; exact hY2) g2 e3
  exact ⟨by rw [e1], ⟨_, _, Q⟩, Q.below⟩
theorem PlaySt.takeA (P : PlaySt w0 wr a ca b cb x y lo capa capb xs ys) (K : Blocks w0 a ca b cb x y lo) (hn : capa ≤ 64) :
    ∃ z bo, Calls Try.prog 21 #[.pointer (some ⟨a, 0, none⟩)] wr fun e w1 => e = .returned (.tuple #[.int .i64 z, .bool bo]) ∧ After2 w0 a ca b cb x y lo capa capb 22 #[.pointer (some ⟨x, 0, none⟩)] (.tuple #[.int .i64 z, .bool bo]) w1 := by
  obtain ⟨l1, l2⟩ := K.lts
  refine ⟨xs.headD 0, decide (xs ≠ []), (takeI_calls wr a ca capa xs P.A).mono ?_⟩
  rintro e w1 ⟨rfl, hA, g1⟩
  obtain ⟨hX, hz, hfin⟩ := P.stepA (w2 := w1) K hA g1
  refine ⟨rfl, P.below.grown g1 P.below.size (fun k e => by cases e; omega), (refTake_calls capa w1 lo x xs hX (by omega) (by have := P.la; omega)).mono ?_⟩
  rintro e w2 ⟨rfl, hX2, g2⟩
  have Q := (P.stepA (w2 := w2) K hA g1).2.2 hX2 g2 (by have := P.la; simp; omega)
  exact ⟨rfl, ⟨_, _, Q⟩, Q.below⟩
theorem PlaySt.takeB (P : PlaySt w0 wr a ca b cb x y lo capa capb xs ys) (K : Blocks w0 a ca b cb x y lo) (hn : capb ≤ 64) :
    ∃ z bo, Calls Try.prog 21 #[.pointer (some ⟨b, 0, none⟩)] wr fun e w1 => e = .returned (.tuple #[.int .i64 z, .bool bo]) ∧ After2 w0 a ca b cb x y lo capa capb 22 #[.pointer (some ⟨y, 0, none⟩)] (.tuple #[.int .i64 z, .bool bo]) w1 := by
  obtain ⟨l1, l2⟩ := K.lts
  refine ⟨ys.headD 0, decide (ys ≠ []), (takeI_calls wr b cb capb ys P.B).mono ?_⟩
  rintro e w1 ⟨rfl, hB, g1⟩
  obtain ⟨hY, hz, hfin⟩ := P.stepB (w2 := w1) K hB g1
  refine ⟨rfl, P.below.grown g1 P.below.size (fun k e => by cases e; omega), (refTake_calls capb w1 lo y ys hY (by omega) (by have := P.lb; omega)).mono ?_⟩
  rintro e w2 ⟨rfl, hY2, g2⟩
  have Q := (P.stepB (w2 := w2) K hB g1).2.2 hY2 g2 (by have := P.lb; simp; omega)
  exact ⟨rfl, ⟨_, _, Q⟩, Q.below⟩

/-- First found one in the first box. -/
theorem PlaySt.firstOne (P : PlaySt w0 wr a ca b cb x y lo capa capb xs ys) (K : Blocks w0 a ca b cb x y lo) (hn : capa ≤ 64) (h : xs ≠ []) :
    ∃ z, Calls Try.prog 23 #[.pointer (some ⟨a, 0, none⟩), .pointer (some ⟨b, 0, none⟩)] wr fun e w1 => e = .returned (.tuple #[.int .i64 z, .int .i64 1]) ∧ After2 w0 a ca b cb x y lo capa capb 22 #[.pointer (some ⟨x, 0, none⟩)] (.tuple #[.int .i64 z, .bool true]) w1 := by
  obtain ⟨n1, n2, n3, n4, n5⟩ := K.ne
  obtain ⟨l1, l2⟩ := K.lts
  refine ⟨xs.headD 0, (firstI2_calls wr a b ca cb capa capb xs ys P.A P.B (by omega) (by omega) (by omega)).mono ?_⟩
  rintro e w1 ⟨rfl, hA, hB, hS⟩
  obtain ⟨hX, hY, g, z⟩ := P.first K hS
  rw [if_neg h] at hB
  refine ⟨by rw [if_neg h, if_neg h], ⟨g.os, g.tape, g.output, g.size, fun k hk => g.block k hk (by simp)⟩, (refTake_calls capa w1 lo x xs hX (by omega) (by have := P.la; omega)).mono ?_⟩
  rintro e w2 ⟨rfl, hX2, g2⟩
  obtain ⟨hA2, hB2, hY2, g3, z3⟩ := PlaySt.firstX K hA hB hY g z g2
  have Q : PlaySt w0 w2 a ca b cb x y lo capa capb xs.tail ys := ⟨hA2, hB2, hX2, hY2, by have := P.la; simp; omega, P.lb, g3, z3⟩
  exact ⟨by rw [decide_eq_true h], ⟨_, _, Q⟩, Q.below⟩
/-- First found none in the first box. -/
theorem PlaySt.firstTwo (P : PlaySt w0 wr a ca b cb x y lo capa capb [] ys) (K : Blocks w0 a ca b cb x y lo) (hn : capb ≤ 64) :
    Calls Try.prog 23 #[.pointer (some ⟨a, 0, none⟩), .pointer (some ⟨b, 0, none⟩)] wr fun e w1 => e = .returned (.tuple #[.int .i64 (ys.headD 0), .int .i64 (if ys = [] then 0 else 2)]) ∧
      Below w0.heap.size w0 w1 ∧ Calls Try.prog 22 #[.pointer (some ⟨x, 0, none⟩)] w1 fun e w2 => e = .returned (.tuple #[.int .i64 0, .bool false]) ∧
        After2 w0 a ca b cb x y lo capa capb 22 #[.pointer (some ⟨y, 0, none⟩)] (.tuple #[.int .i64 (ys.headD 0), .bool (decide (ys ≠ []))]) w2 := by
  obtain ⟨n1, n2, n3, n4, n5⟩ := K.ne
  obtain ⟨l1, l2⟩ := K.lts
  refine (firstI2_calls wr a b ca cb capa capb [] ys P.A P.B (by omega) (by omega) (by omega)).mono ?_
  rintro e w1 ⟨rfl, hA, hB, hS⟩
  obtain ⟨hX, hY, g, z⟩ := P.first K hS
  rw [if_pos rfl] at hB
  refine ⟨by rw [if_pos rfl, if_pos rfl], ⟨g.os, g.tape, g.output, g.size, fun k hk => g.block k hk (by simp)⟩, (refTake_calls capa w1 lo x [] hX (by omega) (by simp)).mono ?_⟩
  rintro e w2 ⟨rfl, hX2, g2⟩
  obtain ⟨hA2, hB2, hY2, g3, z3⟩ := PlaySt.firstX K hA hB hY g z g2
  refine ⟨rfl, ⟨g3.os, g3.tape, g3.output, g3.size, fun k hk => g3.block k hk (by simp)⟩, (refTake_calls capb w2 lo y ys hY2 (by omega) (by have := P.lb; omega)).mono ?_⟩
  rintro e w3 ⟨rfl, hY3, g4⟩
  obtain ⟨hA3, hB3, hX3, g5, z5⟩ := PlaySt.firstY K hA2 hB2 hX2 g3 z3 g4
  have Q : PlaySt w0 w3 a ca b cb x y lo capa capb [] ys.tail := ⟨hA3, hB3, hX3, hY3, by simp, by have := P.lb; simp; omega, g5, z5⟩
  exact ⟨rfl, ⟨_, _, Q⟩, Q.below⟩
theorem PlaySt.firstNil (P : PlaySt w0 wr a ca b cb x y lo capa capb [] []) (K : Blocks w0 a ca b cb x y lo) (hn : capb ≤ 64) :
    Calls Try.prog 23 #[.pointer (some ⟨a, 0, none⟩), .pointer (some ⟨b, 0, none⟩)] wr fun e w1 => e = .returned (.tuple #[.int .i64 0, .int .i64 0]) ∧
      Below w0.heap.size w0 w1 ∧ Calls Try.prog 22 #[.pointer (some ⟨x, 0, none⟩)] w1 fun e w2 => e = .returned (.tuple #[.int .i64 0, .bool false]) ∧
        After2 w0 a ca b cb x y lo capa capb 22 #[.pointer (some ⟨y, 0, none⟩)] (.tuple #[.int .i64 0, .bool false]) w2 := by
  have h := P.firstTwo K hn
  rw [if_pos rfl, show (([] : List Int).headD 0) = 0 from rfl, show decide (([] : List Int) ≠ []) = false from by simp] at h
  exact h
theorem PlaySt.firstCons {p : Int} (P : PlaySt w0 wr a ca b cb x y lo capa capb [] (p :: ys)) (K : Blocks w0 a ca b cb x y lo) (hn : capb ≤ 64) :
    Calls Try.prog 23 #[.pointer (some ⟨a, 0, none⟩), .pointer (some ⟨b, 0, none⟩)] wr fun e w1 => e = .returned (.tuple #[.int .i64 p, .int .i64 2]) ∧
      Below w0.heap.size w0 w1 ∧ Calls Try.prog 22 #[.pointer (some ⟨x, 0, none⟩)] w1 fun e w2 => e = .returned (.tuple #[.int .i64 0, .bool false]) ∧
        After2 w0 a ca b cb x y lo capa capb 22 #[.pointer (some ⟨y, 0, none⟩)] (.tuple #[.int .i64 p, .bool true]) w2 := by
  have h := P.firstTwo K hn
  rw [if_neg (by simp), show ((p :: ys).headD 0) = p from rfl, show decide ((p :: ys) ≠ []) = true from by simp] at h
  exact h

/-- What All of the second box leaves. -/
structure AllSt (w0 w1 : World) (a ca b cb x y lo capa capb : Nat) (A1 Ay : Option Addr) (cy : Nat) (ys : List Int) : Prop where
  r1 : Kd.C (Kd.int .i64) w1 A1 ys.length ys
  r2 : ReadsInt w1 .i64 Ay ys.length ys
  c : w1.cell? ⟨y, 0, none⟩ = some (.slice Ay ys.length cy)
  f : w1.frozen? ⟨y, 0, none⟩ = false
  fin : ∀ n : Nat, PlayEx w0 ((w1.drewN n).setCell ⟨y, 0, none⟩ (.slice none 0 0)) a ca b cb x y lo capa capb
theorem PlaySt.allB (P : PlaySt w0 wr a ca b cb x y lo capa capb xs ys) (K : Blocks w0 a ca b cb x y lo) (hn : capb ≤ 64) :
    Calls Try.prog 24 #[.pointer (some ⟨b, 0, none⟩)] wr fun e w1 => ∃ A1 c1 Ay cy, e = .returned (.slice A1 ys.length c1) ∧ AllSt w0 w1 a ca b cb x y lo capa capb A1 Ay cy ys := by
  obtain ⟨n1, n2, n3, n4, n5⟩ := K.ne
  obtain ⟨l1, l2⟩ := K.lts
  refine (allI_calls wr b cb capb ys P.B (by have := P.lb; omega)).mono ?_
  rintro e w1 ⟨v, rfl, hR, hB, g1⟩
  obtain ⟨A1, c1, rfl, hc1, hC1⟩ := Kd.R_reads hR
  obtain ⟨⟨Ay, cy, hY⟩, hz, _⟩ := P.stepB (w2 := w1) K hB g1
  refine ⟨A1, c1, Ay, cy, rfl, hC1, hY.reads, by rw [cell_of_row w1 y 0 _ _ _ hY.blk]; rfl, blk_frozen hY.blk 0, fun n => ?_⟩
  have gn : w1.grownBy (w1.drewN n) none := grown_of_below (pw_below_drewN (Below.refl _ _) n) none
  have g2 : w1.grownBy ((w1.drewN n).setCell ⟨y, 0, none⟩ (.slice none 0 0)) (some y) :=
    ⟨gn.os, gn.tape, gn.output, by simp [World.setCell], fun k hk hne => (Below.heap_setCell (w1.drewN n) ⟨y, 0, none⟩ _ k (fun e => hne (by rw [e]))).trans (gn.block k hk (by simp))⟩
  refine ⟨xs, [], (P.stepB (w2 := (w1.drewN n).setCell ⟨y, 0, none⟩ (.slice none 0 0)) K hB g1).2.2 ⟨none, 0, ?_, by simp, fun h0 => by simp at h0, by simp⟩ g2 (by simp)⟩
  have := blk_set (w := w1.drewN n) hY.blk 0 (.slice none 0 0)
  simpa using this
end
end Go.Proofs.Ytnaliaebjeikaaa
