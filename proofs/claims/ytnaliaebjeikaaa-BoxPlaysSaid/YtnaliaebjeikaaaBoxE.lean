/- The document's box (layer 6): the walks of its New, Put and Take. -/
import Derived.Test.YtnaliaebjeikaaaBoxD
import Derived.Test.YtnaliaebjeikaaaWMore
namespace Go.Proofs.Ytnaliaebjeikaaa
open Go.RowKit Go.Proofs.YtnaliaebjeikaaaW.PrintWords
set_option linter.unusedVariables false

theorem add_at (b off j : Nat) : (⟨b, off, none⟩ : Addr).add j = ⟨b, off + j, none⟩ := by unfold Addr.add; split <;> simp_all

/-- Block y is the document's box: its list lies in blocks from lo on. -/
structure IsRef (w : World) (lo y : Nat) (A : Option Addr) (c : Nat) (xs : List Int) (room : Int) : Prop where
  blk : w.heap[y]? = some (.cells #[.slice A xs.length c, .int .i64 room] 35 (0, 0))
  cap : xs.length ≤ c
  row : 0 < xs.length → ∃ b off, A = some ⟨b, off, none⟩ ∧ lo ≤ b ∧ ∀ j, j < xs.length → w.cell? ⟨b, off + j, none⟩ = some (.int .i64 (xs.getD j 0))
  big : xs.length ≤ 9223372036854775807
def HoldsRef (w : World) (lo y : Nat) (xs : List Int) (room : Int) : Prop := ∃ A c, IsRef w lo y A c xs room

theorem HoldsRef.kept {w w' : World} {lo y : Nat} {xs : List Int} {room : Int} (h : HoldsRef w lo y xs room) {row : Option Nat} (hg : w.grownBy w' row) (h1 : some y ≠ row) (h2 : ∀ i, row = some i → i < lo) : HoldsRef w' lo y xs room := by
  obtain ⟨A, c, h⟩ := h
  refine ⟨A, c, (hg.block y (Array.getElem?_eq_some_iff.1 h.blk).1 h1).trans h.blk, h.cap, fun h0 => ?_, h.big⟩
  obtain ⟨b, off, e, hb, hc⟩ := h.row h0
  refine ⟨b, off, e, hb, fun j hj => ?_⟩
  exact (World.cell?_of_block (w := w) (hg.block b (World.block_lt_of_cell? w _ (hc j hj)) (fun e => by have := h2 b e.symm; omega))).trans (hc j hj)
theorem IsRef.reads {w : World} {lo y : Nat} {A : Option Addr} {c : Nat} {xs : List Int} {room : Int} (h : IsRef w lo y A c xs room) : ReadsInt w .i64 A xs.length xs :=
  ⟨rfl, h.big, fun h0 => by
    obtain ⟨b, off, rfl, _, hc⟩ := h.row h0
    exact ⟨_, rfl, fun j hj => by rw [add_at]; exact hc j hj⟩⟩
theorem HoldsRef.lt {w : World} {lo y : Nat} {xs : List Int} {room : Int} (h : HoldsRef w lo y xs room) : y < w.heap.size := by
  obtain ⟨A, c, h⟩ := h
  exact (Array.getElem?_eq_some_iff.1 h.blk).1

theorem row_of_own {w : World} {base c : Nat} {A : Option Addr} {xs : List Int} (h : w.ownsRow base 3 1 (.slice A xs.length c) xs.length (nums .i64 xs)) :
    xs.length ≤ c ∧ (0 < xs.length → ∃ b off, A = some ⟨b, off, none⟩ ∧ base ≤ b ∧ b < w.heap.size ∧ ∀ j, j < xs.length → w.cell? ⟨b, off + j, none⟩ = some (.int .i64 (xs.getD j 0))) := by
  obtain ⟨A3, c3, he3, hc3, _⟩ := Kd.R_reads (Kd.R_of_own (enc := Value.int .i64) (h1 := fun _ => rfl) (ok := fun _ => True) h (fun _ _ => trivial))
  injection he3 with e1 e2 e3
  subst e1 e3
  refine ⟨hc3, fun h0 => ?_⟩
  obtain ⟨g, cp, e, hb, hl⟩ := h.form h0
  injection e with e1 e2 e3
  subst e1
  refine ⟨g, 0, rfl, hb, hl, fun j hj => ?_⟩
  have := h.cells (g := g) rfl j (.int .i64 (xs.getD j 0)) (by simp [nums, List.getD, hj])
  rwa [add_at] at this

theorem refNew_calls (n : Int) (w : World) : Calls Try.prog 13 #[.int .i64 n] w fun e w' => e = .returned (.agg #[.slice none 0 0, .int .i64 (clamp n : Int)]) ∧ w' = w.alloc (.cells #[.slice none 0 0, .int .i64 (clamp n : Int)] 35) := by
  by_cases h1 : n < 0
  · have e1 : (clamp n : Int) = 0 := by unfold clamp; rw [if_pos h1]; rfl
    rw [e1]
    clear e1
    go_enter Try.func13, Try.ntmps13
    go_wp2
    exact bodyPost_ret (v := .agg #[.slice none 0 0, .int .i64 0]) (by simp [results, Try.results13, go_sem]) rfl ⟨rfl, rfl⟩
  · by_cases h2 : 64 < n
    · have e1 : (clamp n : Int) = 64 := by unfold clamp; rw [if_neg h1, if_pos h2]; rfl
      rw [e1]
      clear e1
      go_enter Try.func13, Try.ntmps13
      go_wp2
      exact bodyPost_ret (v := .agg #[.slice none 0 0, .int .i64 64]) (by simp [results, Try.results13, go_sem]) rfl ⟨rfl, rfl⟩
    · have e1 : (clamp n : Int) = n := by unfold clamp; rw [if_neg h1, if_neg h2]; omega
      rw [e1]
      clear e1
      go_enter Try.func13, Try.ntmps13
      go_wp2
      exact bodyPost_ret (v := .agg #[.slice none 0 0, .int .i64 n]) (by simp [results, Try.results13, go_sem]) rfl ⟨rfl, rfl⟩

def RefPutPost (w : World) (lo y : Nat) (xs : List Int) (room x : Int) (e : Ending) (w' : World) : Prop :=
  e = .returned (.bool (!decide ((xs.length : Int) = room))) ∧ HoldsRef w' lo y (if (xs.length : Int) = room then xs else xs ++ [x]) room ∧ w.grownBy w' (some y)

set_option maxHeartbeats 2000000 in
set_option maxRecDepth 100000 in
theorem refPut_calls (x room : Int) (w : World) (lo y : Nat) (xs : List Int) (h : HoldsRef w lo y xs room) (hy : y < lo) (hlo : lo ≤ w.heap.size) (hl : xs.length ≤ 1000) :
    Calls Try.prog 20 #[.pointer (some ⟨y, 0, none⟩), .int .i64 x] w (RefPutPost w lo y xs room x) := by
  obtain ⟨A, c, h⟩ := h
  have H := Aside0.mk h
  have hc0 : w.cell? ⟨y, 0, none⟩ = some (.slice A xs.length c) := by rw [cell_of_row w y 0 _ _ _ h.blk]; rfl
  have hc1 : w.cell? ⟨y, 1, none⟩ = some (.int .i64 room) := by rw [cell_of_row w y 1 _ _ _ h.blk]; rfl
  clear h
  by_cases hr : (xs.length : Int) = room
  · have hb : ((xs.length : Int) == room) = true := beq_iff_eq.2 hr
    have HE := Aside0.mk hr
    clear hr
    go_enter Try.func20, Try.ntmps20
    go_wp2
    go_quiet (fail)
    go_wp2
    go_ret
    refine ⟨by rw [HE.out]; simp, ?_, ⟨rfl, rfl, rfl, Nat.le_refl _, fun _ _ _ => rfl⟩⟩
    rw [if_pos HE.out]
    exact HoldsRef.kept (w := w) ⟨A, c, H.out⟩ (row := none) (grown_of_below (pw_below_drewN (Below.refl _ _) _) none) (by simp) (fun i e => by cases e)
  · have hb : ((xs.length : Int) == room) = false := beq_eq_false_iff_ne.2 hr
    have HE := Aside0.mk hr
    clear hr
    go_enter Try.func20, Try.ntmps20
    go_wp2
    go_quiet (fail)
    have hylt := Aside0.mk (Array.getElem?_eq_some_iff.1 H.out.blk).1
    have hfy : w.frozen? ⟨y, 0, none⟩ = false := blk_frozen H.out.blk 0
    have HF := Aside0.mk hfy
    have HC := Aside0.mk hc0
    clear hfy
    have HRd : Aside0 (ReadsInt (w.drewN nq) .i64 A xs.length xs) := ⟨H.out.reads.below (pw_below_drewN (Below.refl _ _) _)⟩
    go_wp2_with (first
      | (at_builtin; refine print_append_row (w0 := w.drewN nq) w.heap.size rfl (.const (.slice none 0 0)) (.tmp 19) 22 3 .i64 8 rfl Try.underlying22 info3c (by decide) (.slice none 0 0) [] xs A xs.length c rfl rfl (own_nil _ _ _ _) HRd.out (Below.refl _ _) (Nat.le_refl _) (by simp; omega) ?_; intro v1 w1 hown hB hg _; simp only [List.nil_append] at hown; have HO1 := Aside0.mk hown; have HB1 := Aside0.mk hB; have HZ := hB.size; clear hown hB hg)
      | (at_builtin; refine print_append_num (w0 := w.drewN nq) w.heap.size rfl (.tmp 20) (.tmp 22) 22 3 .i64 8 rfl Try.underlying22 info3c (by decide) v1 xs x rfl rfl HO1.out HB1.out HB1.out.size (by omega) ?_; intro v2 w2 hown hB hg _; obtain ⟨A2, c2, rfl⟩ := own_slice hown; have HO2 := Aside0.mk hown; have HB2 := Aside0.mk hB; clear hown hB hg; have hy0 : w2.cell? ⟨y, 0, none⟩ = some (.slice A xs.length c) := (HB2.out.cell (p := ⟨y, 0, none⟩) hylt.out).trans HC.out; have hyf : w2.frozen? ⟨y, 0, none⟩ = false := (HB2.out.frozen (p := ⟨y, 0, none⟩) hylt.out).trans HF.out))
    go_ret
    have hb2 : w2.heap[y]? = some (.cells #[.slice A xs.length c, .int .i64 room] 35 (0, 0)) := (HB2.out.block y hylt.out).trans H.out.blk
    obtain ⟨hcap, hrow⟩ := row_of_own HO2.out
    have hyl := hylt.out
    refine ⟨by simpa using HE.out, ?_, ?_⟩
    · rw [if_neg HE.out]
      refine ⟨A2, c2, by have := blk_set hb2 0 (.slice A2 (xs ++ [x]).length c2); simpa using this, hcap, fun h0 => ?_, by simp; omega⟩
      obtain ⟨b, off, e, hb3, hb4, hc⟩ := hrow h0
      exact ⟨b, off, e, by omega, fun j hj => (World.cell?_of_block (w := w2) (Below.heap_setCell w2 ⟨y, 0, none⟩ _ b (by simp; omega))).trans (hc j hj)⟩
    · have g1 : w.grownBy w2 none := ⟨HB2.out.os, HB2.out.tape, HB2.out.output, HB2.out.size, fun k hk _ => HB2.out.block k hk⟩
      exact ⟨g1.os, g1.tape, g1.output, by simpa [World.setCell] using g1.size, fun k hk hne => (Below.heap_setCell w2 ⟨y, 0, none⟩ _ k (fun e => hne (by rw [e]))).trans (g1.block k hk (by simp))⟩

def RefTakePost (w : World) (lo y : Nat) (xs : List Int) (room : Int) (e : Ending) (w' : World) : Prop :=
  e = .returned (.tuple #[.int .i64 (xs.headD 0), .bool (decide (xs ≠ []))]) ∧ HoldsRef w' lo y xs.tail room ∧ w.grownBy w' (some y)

set_option maxHeartbeats 2000000 in
set_option maxRecDepth 100000 in
theorem refTake_calls (room : Int) (w : World) (lo y : Nat) (xs : List Int) (h : HoldsRef w lo y xs room) (hy : y < lo) (hl : xs.length ≤ 1000) :
    Calls Try.prog 22 #[.pointer (some ⟨y, 0, none⟩)] w (RefTakePost w lo y xs room) := by
  obtain ⟨A, c, h⟩ := h
  have H := Aside0.mk h
  have hc0 : w.cell? ⟨y, 0, none⟩ = some (.slice A xs.length c) := by rw [cell_of_row w y 0 _ _ _ h.blk]; rfl
  have hfy : w.frozen? ⟨y, 0, none⟩ = false := blk_frozen h.blk 0
  clear h
  cases xs with
  | nil =>
    go_enter Try.func22, Try.ntmps22
    go_wp2
    go_ret2
    exact ⟨rfl, ⟨A, c, H.out⟩, World.grownBy.refl _ _⟩
  | cons x xs =>
    obtain ⟨b, off, rfl, hlo, hc⟩ := H.out.row (by simp)
    have hx := hc 0 (by simp)
    have HC := Aside0.mk hc
    clear hc
    simp only [Nat.add_zero, List.getD_cons_zero] at hx
    have hcap := H.out.cap
    have hb : (((x :: xs).length : Int) == 0) = false := by simp; omega
    have hcp : 1 ≤ c := by simp at hcap; omega
    have hby : b ≠ y := by omega
    have fin : ∀ u A' c', u = .slice A' xs.length c' → xs.length ≤ c' → (0 < xs.length → A' = some ⟨b, off + 1, none⟩) →
        RefTakePost w lo y (x :: xs) room (.returned (.tuple #[.int .i64 x, .bool true])) (w.setCell ⟨y, 0, none⟩ u) := by
      intro u A' c' hu hc' hA'
      subst hu
      refine ⟨rfl, ⟨A', c', ?_, hc', fun h0 => ⟨b, off + 1, hA' h0, hlo, fun j hj => ?_⟩, by have := H.out.big; simp at this; simp; omega⟩, ?_⟩
      · have := blk_set H.out.blk 0 (.slice A' xs.length c')
        simpa using this
      · have := HC.out (j + 1) (by simp at hj ⊢; omega)
        rw [show off + (j + 1) = off + 1 + j by omega, List.getD_cons_succ] at this
        exact (World.cell?_of_block (w := w) (Below.heap_setCell w ⟨y, 0, none⟩ _ b (by simpa using hby))).trans this
      · exact ⟨rfl, rfl, rfl, by simp [World.setCell], fun k hk hne => Below.heap_setCell w ⟨y, 0, none⟩ _ k (fun e => hne (by rw [e]))⟩
    have FIN := Aside0.mk fin
    clear fin
    by_cases hc1 : c = 1
    · subst hc1
      have hx0 : xs = [] := by simpa using hcap
      subst hx0
      go_enter Try.func22, Try.ntmps22
      go_wp2
      go_ret2
      exact FIN.out _ _ _ rfl (by simp) (by simp)
    · have hc2 : 1 < c := by omega
      clear hc1
      go_enter Try.func22, Try.ntmps22
      go_wp2
      go_ret2
      refine FIN.out _ _ _ rfl ?_ ?_
      · simp at hcap; omega
      · exact fun _ => rfl
end Go.Proofs.Ytnaliaebjeikaaa
