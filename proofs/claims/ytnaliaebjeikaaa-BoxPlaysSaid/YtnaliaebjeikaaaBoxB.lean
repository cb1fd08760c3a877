/- The walks over a nil box; of box.First; of the statements' own 'awake' of layer 6; the statement BoxNone's walk. -/
import Derived.Test.YtnaliaebjeikaaaBoxA
namespace Go.Proofs.Ytnaliaebjeikaaa
open Go.RowKit Go.Proofs.YtnaliaebjeikaaaW.PrintWords

theorem grown_then {w w1 w2 : World} {row r2 : Option Nat} (h : w.grownBy w1 row) (k : w1.grownBy w2 r2) (hr : ∀ i, r2 = some i → some i = row ∨ w.heap.size ≤ i) : w.grownBy w2 row :=
  ⟨k.os.trans h.os, k.tape.trans h.tape, k.output.trans h.output, Nat.le_trans h.size k.size, fun i hi hn => (k.block i (Nat.lt_of_lt_of_le hi h.size) (fun e => by
    rcases hr i e.symm with h1 | h1
    · exact hn h1
    · omega)).trans (h.block i hi hn)⟩

theorem putI_nil (x : Int) (w : World) : Calls Try.prog 19 #[.pointer none, .int .i64 x] w fun e w' => e = .returned (.bool false) ∧ w = w' := by
  go_enter Try.func19, Try.ntmps19
  go_wp2
  go_ret
  exact ⟨rfl, rfl⟩
theorem takeI_nil (w : World) : Calls Try.prog 21 #[.pointer none] w fun e w' => e = .returned (.tuple #[.int .i64 0, .bool false]) ∧ w = w' := by
  go_enter Try.func21, Try.ntmps21
  go_wp2
  go_ret2
  exact ⟨rfl, rfl⟩
theorem lenI_nil (w : World) : Calls Try.prog 25 #[.pointer none] w fun e w' => e = .returned (.int .i64 0) ∧ w = w' := by
  go_enter Try.func25, Try.ntmps25
  go_wp2
  go_ret
  exact ⟨rfl, rfl⟩
theorem roomI_nil (w : World) : Calls Try.prog 26 #[.pointer none] w fun e w' => e = .returned (.int .i64 0) ∧ w = w' := by
  go_enter Try.func26, Try.ntmps26
  go_wp2
  go_ret
  exact ⟨rfl, rfl⟩
theorem firstI_nil (w : World) : Calls Try.prog 23 #[.pointer none, .pointer none] w fun e w' => e = .returned (.tuple #[.int .i64 0, .int .i64 0]) ∧ w = w' := by
  go_enter Try.func23, Try.ntmps23
  go_wp2_with (go_at_call 21; refine (takeI_nil _).mono ?_; rintro e w' ⟨rfl, rfl⟩)
  go_ret2
  exact ⟨rfl, rfl⟩
set_option maxRecDepth 100000 in
theorem allI_nil (w : World) : Calls Try.prog 24 #[.pointer none] w fun e w' => e = .returned (.slice none 0 0) ∧ w = w' := by
  go_enter Try.func24, Try.ntmps24
  go_wp2_with (go_at_call 25; refine (lenI_nil _).mono ?_; rintro e w' ⟨rfl, rfl⟩)
  refine wp_loop_rounds 1 ?_
  rw [rounds_succ]
  go_wp2
  go_ret
  exact ⟨rfl, rfl⟩

/-- What box.First leaves. -/
def FirstPost (w : World) (a b ca cb capa capb : Nat) (xs ys : List Int) (e : Ending) (w' : World) : Prop :=
  e = .returned (.tuple #[.int .i64 (if xs = [] then ys.headD 0 else xs.headD 0), .int .i64 (if xs = [] then (if ys = [] then 0 else 2) else 1)]) ∧
  HoldsBox 69 (Value.int .i64) w' a ca capa xs.tail ∧ HoldsBox 69 (Value.int .i64) w' b cb capb (if xs = [] then ys.tail else ys) ∧
  (∀ w0 : World, w0.grownBy w none → w0.heap.size ≤ ca → w0.heap.size ≤ cb → w0.grownBy w' none)

set_option maxHeartbeats 1000000 in
theorem firstI_calls (w : World) (a b ca cb capa capb : Nat) (xs ys : List Int) (ha : HoldsBox 69 (Value.int .i64) w a ca capa xs) (hb : HoldsBox 69 (Value.int .i64) w b cb capb ys) (h1 : b ≠ ca) (h2 : cb ≠ ca) (h3 : a ≠ cb) :
    Calls Try.prog 23 #[.pointer (some ⟨a, 0, none⟩), .pointer (some ⟨b, 0, none⟩)] w (FirstPost w a b ca cb capa capb xs ys) := by
  have HA := Aside0.mk ha
  have HB := Aside0.mk hb
  clear ha hb
  cases xs with
  | nil =>
    cases ys with
    | nil =>
      go_enter Try.func23, Try.ntmps23
      go_wp2_with fail
      refine (takeI_calls w a ca capa [] HA.out).mono ?_
      rintro e w1 ⟨rfl, hA1, g1⟩
      have HA1 := Aside0.mk hA1
      have HB1 := Aside0.mk (HB.out.kept g1 (by simpa using h1) (by simpa using h2))
      have G1 := Aside0.mk g1
      clear hA1 g1
      go_wp2_with fail
      refine (takeI_calls w1 b cb capb [] HB1.out).mono ?_
      rintro e w2 ⟨rfl, hB2, g2⟩
      have HA2 := Aside0.mk (HA1.out.kept g2 (by simpa using h3) (by simpa using fun e => h2 e.symm))
      have HB2 := Aside0.mk hB2
      have G2 := Aside0.mk g2
      clear hB2 g2
      go_wp2
      go_ret2
      exact ⟨rfl, HA2.out, HB2.out, fun w0 h0 hc1 hc2 => grown_then (grown_then h0 G1.out (fun i e => by cases e; exact .inr hc1)) G2.out (fun i e => by cases e; exact .inr hc2)⟩
    | cons y ys =>
      go_enter Try.func23, Try.ntmps23
      go_wp2_with fail
      refine (takeI_calls w a ca capa [] HA.out).mono ?_
      rintro e w1 ⟨rfl, hA1, g1⟩
      have HA1 := Aside0.mk hA1
      have HB1 := Aside0.mk (HB.out.kept g1 (by simpa using h1) (by simpa using h2))
      have G1 := Aside0.mk g1
      clear hA1 g1
      go_wp2_with fail
      refine (takeI_calls w1 b cb capb (y :: ys) HB1.out).mono ?_
      rintro e w2 ⟨rfl, hB2, g2⟩
      have HA2 := Aside0.mk (HA1.out.kept g2 (by simpa using h3) (by simpa using fun e => h2 e.symm))
      have HB2 := Aside0.mk hB2
      have G2 := Aside0.mk g2
      clear hB2 g2
      go_wp2
      go_ret2
      exact ⟨rfl, HA2.out, HB2.out, fun w0 h0 hc1 hc2 => grown_then (grown_then h0 G1.out (fun i e => by cases e; exact .inr hc1)) G2.out (fun i e => by cases e; exact .inr hc2)⟩
  | cons x xs =>
    go_enter Try.func23, Try.ntmps23
    go_wp2_with fail
    refine (takeI_calls w a ca capa (x :: xs) HA.out).mono ?_
    rintro e w1 ⟨rfl, hA1, g1⟩
    have HA1 := Aside0.mk hA1
    have HB1 := Aside0.mk (HB.out.kept g1 (by simpa using h1) (by simpa using h2))
    have G1 := Aside0.mk g1
    clear hA1 g1
    go_wp2
    go_ret2
    exact ⟨rfl, HA1.out, HB1.out, fun w0 h0 hc1 hc2 => grown_then h0 G1.out (fun i e => by cases e; exact .inr hc1)⟩

set_option maxHeartbeats 1000000 in
set_option maxRecDepth 100000 in
theorem awake06_calls (w : World) : Calls Try.prog 11 #[] w fun e w' => e = .returned (.bool true) ∧ Below w.heap.size w w' := by
  go_enter Try.func11, Try.ntmps11
  go_wp2_with fail
  refine (newI_calls 2 w).mono ?_
  rintro e w1 ⟨rfl, h1, b1, z1⟩
  have H1 : Aside0 (HoldsBox 69 (Value.int .i64) w1 (w.heap.size + 1) w.heap.size 2 []) := ⟨h1⟩
  have HB1 := Aside0.mk b1
  clear h1 b1 z1
  go_wp2_with fail
  refine (putI_calls 1 w1 _ _ 2 [] H1.out).mono ?_
  rintro e w2 ⟨rfl, h2, g2⟩
  have H2 : Aside0 (HoldsBox 69 (Value.int .i64) w2 (w.heap.size + 1) w.heap.size 2 [1]) := ⟨h2⟩
  have HB2 := Aside0.mk (HB1.out.grown g2 HB1.out.size (fun k e => by cases e; exact Nat.le_refl _))
  clear h2 g2
  go_wp2_with fail
  refine (putI_calls 2 w2 _ _ 2 [1] H2.out).mono ?_
  rintro e w3 ⟨rfl, h3, g3⟩
  have H3 : Aside0 (HoldsBox 69 (Value.int .i64) w3 (w.heap.size + 1) w.heap.size 2 [1, 2]) := ⟨h3⟩
  have HB3 := Aside0.mk (HB2.out.grown g3 HB2.out.size (fun k e => by cases e; exact Nat.le_refl _))
  clear h3 g3
  go_wp2_with fail
  refine (putI_calls 3 w3 _ _ 2 [1, 2] H3.out).mono ?_
  rintro e w4 ⟨rfl, h4, g4⟩
  have H4 : Aside0 (HoldsBox 69 (Value.int .i64) w4 (w.heap.size + 1) w.heap.size 2 [1, 2]) := ⟨h4⟩
  have HB4 := Aside0.mk (HB3.out.grown g4 HB3.out.size (fun k e => by cases e; exact Nat.le_refl _))
  clear h4 g4
  go_wp2_with fail
  refine (takeI_calls w4 _ _ 2 [1, 2] H4.out).mono ?_
  rintro e w5 ⟨rfl, h5, g5⟩
  have H5 : Aside0 (HoldsBox 69 (Value.int .i64) w5 (w.heap.size + 1) w.heap.size 2 [2]) := ⟨h5⟩
  have HB5 := Aside0.mk (HB4.out.grown g5 HB4.out.size (fun k e => by cases e; exact Nat.le_refl _))
  clear h5 g5
  go_wp2_with fail
  refine (lenI_calls w5 _ _ 2 [2] H5.out).mono ?_
  rintro e w6 ⟨rfl, rfl⟩
  go_wp2_with fail
  refine (roomI_calls w5 _ _ 2 [2] H5.out).mono ?_
  rintro e w6 ⟨rfl, rfl⟩
  go_wp2
  go_ret
  exact ⟨rfl, HB5.out⟩

set_option maxHeartbeats 1000000 in
set_option maxRecDepth 100000 in
theorem boxNone_walk (n : Int) (w : World) : Calls Try.prog 6 #[.int .i64 n] w fun e w' => e = .returned (.bool true) ∧ Below w.heap.size w w' := by
  go_enter Try.func6, Try.ntmps6
  go_wp2_with (first
    | (go_at_call 21; refine (takeI_nil _).mono ?_; rintro e w' ⟨rfl, rfl⟩)
    | (go_at_call 23; refine (firstI_nil _).mono ?_; rintro e w' ⟨rfl, rfl⟩)
    | (go_at_call 19; refine (putI_nil _ _).mono ?_; rintro e w' ⟨rfl, rfl⟩)
    | (go_at_call 25; refine (lenI_nil _).mono ?_; rintro e w' ⟨rfl, rfl⟩)
    | (go_at_call 26; refine (roomI_nil _).mono ?_; rintro e w' ⟨rfl, rfl⟩)
    | (go_at_call 24; refine (allI_nil _).mono ?_; rintro e w' ⟨rfl, rfl⟩)
    | (go_at_call 11; refine (awake06_calls _).mono ?_; rintro e w' ⟨rfl, hB⟩; have HB := Aside0.mk hB; clear hB))
  go_ret
  exact ⟨rfl, HB.out⟩
#print axioms boxNone_walk
end Go.Proofs.Ytnaliaebjeikaaa
