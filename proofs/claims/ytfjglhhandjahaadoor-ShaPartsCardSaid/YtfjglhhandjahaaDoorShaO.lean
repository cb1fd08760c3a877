/- How the arguments read: a slice of bytes; a slice of slices of bytes. -/
import Derived.Test.YtfjglhhandjahaaDoorShaR
import Derived.WalkKit
import Derived.ProofKit
import Derived.OpenShut
import Derived.ChangeOld
import Derived.Lib.SmallJoins
import Derived.Deep.Matrix
namespace Go.Proofs.YtfjglhhandjahaaDoor.Sha
open Go.ChangeShapes Go.WideShapes Go.ChangeAt Go.RowKit Go.Proofs.YtfjglhhandjahaaDoorW.PrintWords
set_option linter.unusedVariables false
section
variable {H : Type} {enc : TypeId × Value → H} {P : Program} {W : World} {base b0 : Nat} {held : Bool} {t e : TypeId} {k : IntKind} {v : Value} {d : DataW H} {ps : List MemPlace} {r : Reach}

theorem open_row (hu : P.underlying t = some (.slice e)) (he : P.underlying e = some (.int k)) (hC : P.cellsOf e = 1) (hv : Value.okWide P W r b0 t v) (h : DataW.Trod enc P W base (fun _ => true) held t v d ps) :
    ∃ (A : Option Addr) (c : Nat) (l : List Int), v = .slice A l.length c ∧ Kd.C (Kd.int k) W A l.length l ∧ (∀ n ∈ l, (Lit.int k n).wf = true) ∧ l.length ≤ c := by
  obtain ⟨a, len, cap, rfl⟩ := okWide_slice hu hv
  obtain ⟨z, w⟩ : ∃ zs : List Int, (a = none ∧ len = 0 ∧ cap = 0 ∧ zs = []) ∨ ∃ x, a = some x ∧ len ≤ cap ∧ cap ≤ maxLen ∧ zs.length = cap ∧ (∀ i, i < zs.length → W.cell? (x.add i) = some (.int k (zs.getD i 0))) ∧ ∀ n ∈ zs, (Lit.int k n).wf = true := by
    obtain ⟨fuel, hf⟩ := h
    rcases open_ints hu he hC hf with ⟨hcs, _⟩ | ⟨x, l, c, zs, hcs, _, hl, hm, hz, _, hcell, hwz⟩
    · simp [Value.cells] at hcs
      obtain ⟨rfl, rfl, rfl⟩ := hcs
      exact ⟨[], .inl ⟨rfl, rfl, rfl, rfl⟩⟩
    · simp [Value.cells] at hcs
      obtain ⟨rfl, rfl, rfl⟩ := hcs
      exact ⟨zs, .inr ⟨_, rfl, hl, hm, by simpa using hz, hcell, hwz⟩⟩
  obtain ⟨l, rfl, hr, _, hw, hc⟩ := ReadsInt.ofRowC w
  exact ⟨a, cap, l, rfl, Kd.C_of_reads (enc := Value.int k) (d := (0 : Int)) (h1 := fun _ => rfl) hr, hw, hc⟩
theorem u8_range {n : Int} (h : (Lit.int .u8 n).wf = true) : 0 ≤ n ∧ n < 256 := by
  simp only [Lit.wf, Bool.and_eq_true, decide_eq_true_eq] at h
  have h1 : IntKind.u8.min = 0 := by decide +kernel
  have h2 : IntKind.u8.max = 255 := by decide +kernel
  rw [h1, h2] at h
  omega
theorem open_bytes_rows {q : TypeId} (hu : P.underlying t = some (.slice e)) (he : P.underlying e = some (.slice q)) (hq : P.underlying q = some (.int .u8)) (ce : P.cellsOf e = 1) (cq : P.cellsOf q = 1) (hv : Value.okWide P W r b0 t v)
    (h : DataW.Trod enc P W base (fun _ => true) held t v d ps) :
    ∃ (A : Option Addr) (c : Nat) (ll : List (List Int)), v = .slice A ll.length c ∧ Kd.C (Kd.slice 5 (Kd.int .u8)) W A ll.length ll ∧ (∀ l ∈ ll, ∀ n ∈ l, (Lit.int .u8 n).wf = true) ∧ ll.length ≤ c := by
  obtain ⟨a, len, cap, rfl⟩ := okWide_slice hu hv
  obtain ⟨fuel, hf⟩ := h
  rcases Deep.open_int_rows hu he hq ce cq hf with ⟨hcs, _⟩ | ⟨x, ln, c, AA, L, C, Z, hcs, _, hl, hm, _, hrow⟩
  · simp [Value.cells] at hcs
    obtain ⟨rfl, rfl, rfl⟩ := hcs
    exact ⟨none, 0, [], rfl, Kd.C_nil _ _, by simp, Nat.le_refl _⟩
  · simp [Value.cells] at hcs
    obtain ⟨rfl, rfl, rfl⟩ := hcs
    have hlen : ((List.range len).map fun i => (Z i).take (L i)).length = len := by simp
    refine ⟨some x, cap, (List.range len).map fun i => (Z i).take (L i), by rw [hlen], ⟨rfl, ?_, fun _ => ⟨x, rfl, fun j p hj => ?_⟩⟩, ?_, by omega⟩
    · rw [hlen]; unfold maxLen at hm; omega
    · have hjl : j < len := by
        have := (List.getElem?_eq_some_iff.1 hj).1
        simpa using this
      obtain rfl : (Z j).take (L j) = p := by simpa [hjl] using hj
      obtain ⟨hc, h1, h2, h3, h4, h5, h6⟩ := hrow j (by omega)
      have hpl : ((Z j).take (L j)).length = L j := by rw [List.length_take]; omega
      refine ⟨[.slice (AA j) (L j) (C j)], rfl, ⟨AA j, C j, by rw [hpl], by omega, ?_⟩, ?_⟩
      · refine Kd.C_of_reads (d := 0) ⟨rfl, by unfold maxLen at h2; omega, fun hpos => ?_⟩
        cases hA : AA j with
        | none => have := h5 hA; omega
        | some a' =>
          refine ⟨a', rfl, fun i hi => ?_⟩
          rw [((h6 a' hA).2 i (by omega))]
          simp [List.getD_eq_getElem?_getD, show i < L j by omega]
      · intro i u hi
        cases i with
        | zero =>
          simp at hi
          subst hi
          rw [show j * (Kd.slice 5 (Kd.int IntKind.u8)).sz + 0 = j from Nat.mul_one j]
          exact hc
        | succ i => simp at hi
    · intro l hl2 n hn
      simp only [List.mem_map, List.mem_range] at hl2
      obtain ⟨i, hi, rfl⟩ := hl2
      exact (hrow i (by omega)).2.2.2.2.1 n (List.mem_of_mem_take hn)
end
end Go.Proofs.YtfjglhhandjahaaDoor.Sha
