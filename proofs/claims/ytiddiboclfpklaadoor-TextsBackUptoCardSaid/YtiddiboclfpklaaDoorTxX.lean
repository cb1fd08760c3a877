/- How the rows of texts read; what is small. -/
import Derived.Test.YtiddiboclfpklaaDoorRows
import Derived.Test.YtiddiboclfpklaaDoorTxW
import Derived.WalkKit
import Derived.ProofKit
import Derived.OpenShut
import Derived.ChangeOld
import Derived.Lib.SmallJoins
import Derived.Deep.Matrix
import Derived.Deep.Strs
namespace Go.Proofs.YtiddiboclfpklaaDoor.Tx
open Go.ChangeShapes Go.WideShapes Go.ChangeAt Go.RowKit Go.Deep Go.Proofs.YtiddiboclfpklaaDoorW.PrintWords
set_option linter.unusedVariables false

/-- How much a line, and lines, hold. -/
def bulkL : List ByteArray → Nat
  | [] => 1
  | x :: l => x.size + 1 + bulkL l
def bulkLL : List (List ByteArray) → Nat
  | [] => 1
  | l :: r => bulkL l + bulkLL r
theorem bulkL_len : ∀ l : List ByteArray, l.length + 1 ≤ bulkL l
  | [] => Nat.le_refl _
  | x :: l => by
    have := bulkL_len l
    rw [bulkL, List.length_cons]; omega
theorem bulkL_word : ∀ (l : List ByteArray), ∀ x ∈ l, x.size ≤ bulkL l
  | [], x, hx => by cases hx
  | y :: l, x, hx => by
    rw [List.mem_cons] at hx
    rw [bulkL]
    rcases hx with rfl | hx
    · omega
    · have := bulkL_word l x hx; omega
theorem bulkL_text : ∀ l : List ByteArray, (lineB l).length + 1 ≤ bulkL l
  | [] => Nat.le_refl _
  | x :: l => by
    have key : ∀ l : List ByteArray, (l.flatMap fun y => 32 :: y.data.toList).length + 1 ≤ bulkL l := by
      intro l
      induction l with
      | nil => exact Nat.le_refl _
      | cons y l ih =>
        rw [List.flatMap_cons, List.length_append, List.length_cons, data_length, bulkL]; omega
    have := key l
    rw [lineB, List.length_append, data_length, bulkL]; omega
theorem bulkLL_row : ∀ (ls : List (List ByteArray)), ∀ l ∈ ls, bulkL l ≤ bulkLL ls
  | [], l, hl => by cases hl
  | m :: ls, l, hl => by
    rw [List.mem_cons] at hl
    rw [bulkLL]
    rcases hl with rfl | hl
    · omega
    · have := bulkLL_row ls l hl; omega
theorem bulkLL_len : ∀ ls : List (List ByteArray), ls.length + 1 ≤ bulkLL ls
  | [] => Nat.le_refl _
  | l :: ls => by
    have := bulkLL_len ls
    have := bulkL_len l
    rw [bulkLL, List.length_cons]; omega
theorem bulkLL_text : ∀ ls : List (List ByteArray), (textB ls).length + 1 ≤ bulkLL ls
  | [] => Nat.le_refl _
  | l :: ls => by
    have h1 := bulkLL_text ls
    have h2 := bulkL_text l
    unfold textB at h1 ⊢
    rw [List.flatMap_cons, List.length_append, List.length_append, List.length_singleton, bulkLL]; omega
theorem small_of_bulk (ls : List (List ByteArray)) (h : bulkLL ls ≤ 16777216) : Small ls :=
  ⟨by have := bulkLL_text ls; omega, by have := bulkLL_len ls; omega, fun l hl => by have := bulkLL_row ls l hl; have := bulkL_len l; omega, fun l hl x hx => by have := bulkLL_row ls l hl; have := bulkL_word l x hx; omega⟩
section
variable {H : Type} {enc : TypeId × Value → H} {W : World} {base b0 : Nat} {held : Bool} {v : Value} {d : DataW H} {ps : List MemPlace} {r : Reach}
theorem bulk_strs (Sx : Nat → ByteArray) : ∀ l : List Nat, bulkL (l.map Sx) ≤ Rows.uptoBulkAll (l.map fun i => (DataW.lit (.string (Sx i).data.toList) : DataW H)) + 1
  | [] => by simp [bulkL, Rows.uptoBulkAll]
  | i :: l => by
    have := bulk_strs Sx l
    rw [List.map_cons, List.map_cons, bulkL, Rows.uptoBulkAll, Rows.uptoBulk, data_length]; omega
theorem bulk_rows (D : Nat → DataW H) (M : Nat → List ByteArray) : ∀ l : List Nat, (∀ i ∈ l, bulkL (M i) ≤ Rows.uptoBulk (D i)) → bulkLL (l.map M) ≤ Rows.uptoBulkAll (l.map D) + 1
  | [], _ => by simp [bulkLL, Rows.uptoBulkAll]
  | i :: l, h => by
    have h1 := bulk_rows D M l (fun j hj => h j (List.mem_cons_of_mem _ hj))
    have h2 := h i List.mem_cons_self
    rw [List.map_cons, List.map_cons, bulkLL, Rows.uptoBulkAll]; omega
set_option maxRecDepth 100000 in
theorem open_rows (hv : Value.okWide Tryd.prog W r b0 36 v) (h : DataW.Trod enc Tryd.prog W base (fun _ => true) held 36 v d ps) :
    ∃ (A : Option Addr) (c : Nat) (ll : List (List ByteArray)), v = .slice A ll.length c ∧ (Kd.C (Kd.slice 9 Kd.string) W A ll.length ll ∧ ll.length ≤ c) ∧ bulkLL ll ≤ Rows.uptoBulk d := by
  obtain ⟨a, len, cap, rfl⟩ := okWide_slice un36 hv
  obtain ⟨fuel, hf⟩ := h
  have un84 : Tryd.prog.underlying 84 = some (.slice 9) := by kernel_rfl
  have ce : Tryd.prog.cellsOf 84 = 1 := by kernel_rfl
  have cq : Tryd.prog.cellsOf 9 = 1 := by kernel_rfl
  rcases open_slice1 un36 ce hf with ⟨hcs, hx⟩ | ⟨x, ln, cp, m, n, V, D, Pl, hcs, hb, hl, hm, hmm, hx, hrow⟩
  · simp [Value.cells] at hcs
    obtain ⟨rfl, rfl, rfl⟩ := hcs
    simp only [Prod.mk.injEq] at hx
    obtain ⟨rfl, rfl⟩ := hx
    exact ⟨none, 0, [], rfl, ⟨Kd.C_nil _ _, Nat.le_refl _⟩, by simp [bulkLL, Rows.uptoBulk]⟩
  · simp [Value.cells] at hcs
    obtain ⟨rfl, rfl, rfl⟩ := hcs
    simp only [if_true] at hmm
    subst hmm
    simp only [Prod.mk.injEq] at hx
    obtain ⟨rfl, _⟩ := hx
    have each : ∀ i, i < m → ∃ y : Option Addr × Nat × List ByteArray, V i = .slice y.1 y.2.2.length y.2.1 ∧ y.2.2.length ≤ y.2.1 ∧ Kd.C Kd.string W y.1 y.2.2.length y.2.2 ∧ bulkL y.2.2 ≤ Rows.uptoBulk (D i) := by
      intro i hi
      rcases open_strs un84 un9 cq (hrow i hi).2 with ⟨hcs, hy⟩ | ⟨a', l', c', m', Sx, hcs, hb', hl', hm', hmm', hy, hcell⟩
      · refine ⟨(none, 0, []), by simpa using hcs, Nat.le_refl _, Kd.C_nil _ _, ?_⟩
        simp only [Prod.mk.injEq] at hy
        rw [hy.1]
        simp [bulkL, Rows.uptoBulk]
      · simp only [if_true] at hmm'
        subst hmm'
        simp only [Prod.mk.injEq] at hy
        have hlen : ((List.range l').map Sx).length = l' := by simp
        refine ⟨(some a', m', (List.range l').map Sx), ?_, by rw [hlen]; exact hl', ?_, ?_⟩
        · rw [hlen]; simpa using hcs
        · refine Kd.C_of_reads (enc := Value.string) (d := ByteArray.empty) (h1 := fun _ => rfl) ⟨rfl, by rw [hlen]; unfold maxLen at hm'; omega, fun hpos => ⟨a', rfl, fun j hj => ?_⟩⟩
          rw [hlen] at hj
          rw [(hcell j (by omega)).1]
          simp [List.getD_eq_getElem?_getD, hj]
        · rw [hy.1, Rows.uptoBulk]
          have := bulk_strs (H := H) Sx (List.range l')
          show bulkL (List.map Sx (List.range l')) ≤ _
          omega
    obtain ⟨Y, hY⟩ := choose_lt each
    have hlen : ((List.range len).map fun i => (Y i).2.2).length = len := by simp
    refine ⟨some x, m, (List.range len).map fun i => (Y i).2.2, by rw [hlen], ⟨⟨rfl, ?_, fun _ => ⟨x, rfl, fun j p hj => ?_⟩⟩, by rw [hlen]; exact hl⟩, ?_⟩
    · rw [hlen]; unfold maxLen at hm; omega
    · have hjl : j < len := by
        have := (List.getElem?_eq_some_iff.1 hj).1
        simpa using this
      obtain rfl : (Y j).2.2 = p := by simpa [hjl] using hj
      obtain ⟨h1, h2, h3, _⟩ := hY j (by omega)
      refine ⟨[.slice (Y j).1 (Y j).2.2.length (Y j).2.1], rfl, ⟨(Y j).1, (Y j).2.1, rfl, h2, h3⟩, ?_⟩
      intro i u hi
      cases i with
      | zero =>
        simp at hi
        subst hi
        rw [show j * (Kd.slice 9 Kd.string).sz + 0 = j from Nat.mul_one j, (hrow j (by omega)).1, h1]
      | succ i => simp at hi
    · rw [Rows.uptoBulk]
      have := bulk_rows D (fun i => (Y i).2.2) (List.range len) (fun i hi => (hY i (by have := List.mem_range.1 hi; omega)).2.2.2)
      omega
end
end Go.Proofs.YtiddiboclfpklaaDoor.Tx
