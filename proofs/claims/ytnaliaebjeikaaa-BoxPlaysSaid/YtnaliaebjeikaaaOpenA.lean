/- How a slice of acts among the arguments reads. -/
import Derived.Test.YtnaliaebjeikaaaOpen
import Derived.Test.YtnaliaebjeikaaaBoxF
import Derived.Deep.Slices
namespace Go.Proofs.Ytnaliaebjeikaaa
open Go.ChangeShapes Go.WideShapes Go.ChangeAt Go.RowKit Go.Proofs.YtnaliaebjeikaaaW.PrintWords
section
variable {H : Type} {enc : TypeId × Value → H} {P : Program} {W : World} {base b0 : Nat} {held : Bool} {t e e0 e1 : TypeId} {v : Value} {d : DataW H} {ps : List MemPlace} {r : Reach} {f0 f1 : Field}

theorem cells?_get {w : World} {base : Nat} {a : Addr} {cs : List Value} : ∀ {n : Nat}, w.cells? base a n = some cs → ∀ i u, cs[i]? = some u → w.cell? (a.add i) = some u := by
  intro n h i u hu
  obtain ⟨_, hl, hc⟩ := World.cells?_some h
  exact (hc i (by have := (List.getElem?_eq_some_iff.1 hu).1; omega)).trans hu

theorem open_acts_row (hu : P.underlying t = some (.slice e)) (he : P.underlying e = some (.struct #[f0, f1])) (h0 : P.underlying f0.type = some (.int .i64)) (h1 : P.underlying f1.type = some (.int .i64)) (hC : P.cellsOf e = 2) (hC0 : P.cellsOf f0.type = 1) (hC1 : P.cellsOf f1.type = 1) (ho0 : f0.offset = 0) (ho1 : f1.offset = 1) (hv : Value.okWide P W r b0 t v) (h : DataW.Trod enc P W base (fun _ => true) held t v d ps) :
    ∃ (A : Option Addr) (c : Nat) (l : List (Int × Int)), v = .slice A l.length c ∧ ActsC W A l ∧ l.length ≤ c := by
  obtain ⟨a, len, cap, rfl⟩ := okWide_slice hu hv
  obtain ⟨fuel, hf⟩ := h
  rcases Deep.open_slice hu hf with ⟨hcs, _⟩ | ⟨x, ln, c, m, n, D, Pl, hcs, _, hl, hm, hmm, _, hx⟩
  · simp [Value.cells] at hcs
    obtain ⟨rfl, rfl, rfl⟩ := hcs
    exact ⟨none, 0, [], rfl, ⟨rfl, by simp, fun h => by simp at h⟩, Nat.le_refl _⟩
  · simp [Value.cells] at hcs
    obtain ⟨rfl, rfl, rfl⟩ := hcs
    simp at hmm
    obtain rfl : cap = m := hmm.symm
    rw [hC] at hx
    have hex : ∀ i, ∃ p : Int × Int, i < len → ∃ cs', W.cells? base (x.add (i * 2)) 2 = some cs' ∧ ActR p cs' := by
      intro i
      by_cases hi : i < len
      · obtain ⟨cs', hcs', ht⟩ := hx i (by omega)
        obtain ⟨y0, y1, n', _, hlen, t0, t1⟩ := trod_struct2 he ht
        rw [ho0, hC0] at t0
        rw [ho1, hC1] at t1
        obtain ⟨k0, e0, _, _⟩ := DataW.trod_int h0 t0
        obtain ⟨k1, e1, _, _⟩ := DataW.trod_int h1 t1
        rw [hC] at hlen
        refine ⟨(k0, k1), fun _ => ⟨cs', hcs', ?_⟩⟩
        match cs', hlen with
        | [u0, u1], _ => simp at e0 e1; subst e0 e1; rfl
      · exact ⟨(0, 0), fun h => absurd h hi⟩
    obtain ⟨g, hg⟩ := Classical.axiomOfChoice hex
    have hlen : ((List.range len).map g).length = len := by simp
    refine ⟨some x, cap, (List.range len).map g, by rw [hlen], ⟨rfl, by rw [hlen]; unfold maxLen at hm; omega, fun _ => ⟨x, rfl, fun j p hj => ?_⟩⟩, by omega⟩
    have hjl : j < len := by have := (List.getElem?_eq_some_iff.1 hj).1; omega
    obtain rfl : g j = p := by simpa [hjl] using hj
    obtain ⟨cs', hcs', hR⟩ := hg j hjl
    refine ⟨cs', by rw [hR]; rfl, hR, fun i u hu => ?_⟩
    have := cells?_get hcs' i u hu
    rwa [Addr.add_add] at this

theorem un43 : Try.prog.underlying 43 = some (.slice 47) := by kernel_rfl
theorem un47b : (match Try.prog.underlying 47 with | some (.struct fs) => fs.toList.map (fun f => (f.type, f.offset)) | _ => []) = [(3, 0), (3, 1)] := by kernel_rfl
theorem un47 : ∃ f0 f1, Try.prog.underlying 47 = some (.struct #[f0, f1]) ∧ f0.type = 3 ∧ f1.type = 3 ∧ f0.offset = 0 ∧ f1.offset = 1 := by
  have h := un47b
  split at h
  · rename_i fs hf
    obtain ⟨fl⟩ := fs
    match fl, h with
    | [f0, f1], h =>
      simp only [List.map_cons, List.map_nil, List.cons.injEq, Prod.mk.injEq, and_true] at h
      exact ⟨f0, f1, hf, h.1.1, h.2.1, h.1.2, h.2.2⟩
  · cases h
theorem open_acts (hv : Value.okWide Try.prog W r b0 43 v) (h : DataW.Trod enc Try.prog W base (fun _ => true) held 43 v d ps) :
    ∃ (A : Option Addr) (c : Nat) (l : List (Int × Int)), v = .slice A l.length c ∧ ActsC W A l ∧ l.length ≤ c :=
  by
  obtain ⟨f0, f1, hu, t0, t1, o0, o1⟩ := un47
  have hc : Try.prog.cellsOf 3 = 1 := by kernel_rfl
  exact open_acts_row un43 hu (by rw [t0]; exact Try.underlying3) (by rw [t1]; exact Try.underlying3) (by kernel_rfl) (by rw [t0]; exact hc) (by rw [t1]; exact hc) o0 o1 hv h
end
end Go.Proofs.Ytnaliaebjeikaaa
