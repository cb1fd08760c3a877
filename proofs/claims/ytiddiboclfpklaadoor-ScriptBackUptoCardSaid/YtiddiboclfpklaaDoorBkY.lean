/- Lemmas that the claim's theorem uses. -/
import Derived.Test.YtiddiboclfpklaaDoorRows
import Derived.WalkKit
import Derived.ProofKit
import Derived.OpenShut
import Derived.ChangeOld
import Derived.Lib.SmallJoins
import Derived.Deep.Matrix
import Derived.Deep.Strs
import Derived.Deep.Slices
import Derived.Test.YtiddiboclfpklaaDoorBkW
namespace Go.Proofs.YtiddiboclfpklaaDoor.Tz
open Go.ChangeShapes Go.WideShapes Go.ChangeAt Go.RowKit Go.Deep Go.Proofs.YtiddiboclfpklaaDoorW.PrintWords Go.Proofs.YtiddiboclfpklaaDoor.PScriptReads Go.Proofs.YtiddiboclfpklaaDoor.Tx
set_option linter.unusedVariables false
set_option linter.unusedSimpArgs false
section
variable {H : Type} {enc : TypeId × Value → H} {W : World} {base : Nat} {held : Bool} {fuel : Nat} {cs : List Value} {x : DataW H × List MemPlace}
/-- A value of the type reads as something of the kind that is ok and whose measure is in the reading's bulk. -/
def Opn {α : Type} (enc : TypeId × Value → H) (W : World) (base : Nat) (held : Bool) (T : TypeId) (d : Kd α) (μ : α → Nat) (ok : α → Prop) : Prop :=
  ∀ (fuel : Nat) (cs : List Value) (x : DataW H × List MemPlace), DataW.trod enc Tryd.prog W base (fun _ => true) held fuel T cs = some x → ∃ y, d.K W y cs ∧ ok y ∧ μ y ≤ Rows.uptoBulk x.1
noncomputable def fieldsOf (T : TypeId) : List (TypeId × Nat) := match Tryd.prog.underlying T with | some (.struct fs) => fs.toList.map (fun f => (f.type, f.offset)) | _ => []
theorem opn_fields (T : TypeId) (fl : List (TypeId × Nat)) (hT : fieldsOf T = fl) (hne : fl ≠ []) (h : DataW.trod enc Tryd.prog W base (fun _ => true) held fuel T cs = some x) :
    ∃ ys : List (DataW H), x.1 = .agg ys ∧ cs.length = Tryd.prog.cellsOf T ∧ ys.length = fl.length ∧ ∀ (i : Nat) (t : TypeId) (o : Nat), fl[i]? = some (t, o) → ∃ (n : Nat) (p : DataW H × List MemPlace), ys[i]? = some p.1 ∧ DataW.trod enc Tryd.prog W base (fun _ => true) held n t ((cs.drop o).take (Tryd.prog.cellsOf t)) = some p := by
  unfold fieldsOf at hT
  split at hT
  · rename_i fs hf
    obtain ⟨xs, n, _, hx, hl, hlen, hg⟩ := DataW.trod_struct hf h
    refine ⟨xs.map (·.1), by rw [hx], hl, by rw [List.length_map, hlen, ← hT, List.length_map, Array.length_toList], fun i t o hi => ?_⟩
    rw [← hT, List.getElem?_map] at hi
    obtain ⟨f, hf2, he⟩ := Option.map_eq_some_iff.1 hi
    simp only [Prod.mk.injEq] at he
    obtain ⟨rfl, rfl⟩ := he
    have h2 := hg i f (by simpa using hf2)
    have hlt : i < xs.length := by
      have := (List.getElem?_eq_some_iff.1 hf2).1
      rw [hlen]
      simpa using this
    rw [List.getElem?_eq_getElem hlt] at h2
    exact ⟨n, xs[i], by rw [List.getElem?_map, List.getElem?_eq_getElem hlt]; rfl, h2⟩
  · exact absurd hT.symm hne
theorem opn_int (T : TypeId) (k : IntKind) (hT : Tryd.prog.underlying T = some (.int k)) : Opn (H := H) enc W base held T (Kd.int k) (fun _ => 1) (fun n => (Lit.int k n).wf = true) := by
  intro fuel cs x h
  obtain ⟨n, rfl, rfl, hw⟩ := DataW.trod_int hT h
  exact ⟨n, rfl, hw, by simp [Rows.uptoBulk]⟩
theorem opn_bool (T : TypeId) (hT : Tryd.prog.underlying T = some .bool) : Opn (H := H) enc W base held T Kd.bool (fun _ => 1) (fun _ => True) := by
  intro fuel cs x h
  obtain ⟨n, rfl, rfl⟩ := DataW.trod_bool hT h
  exact ⟨n, rfl, trivial, by simp [Rows.uptoBulk]⟩
theorem opn_string (T : TypeId) (hT : Tryd.prog.underlying T = some .string) : Opn (H := H) enc W base held T Kd.string (fun s => s.size + 1) (fun _ => True) := by
  intro fuel cs x h
  obtain ⟨s, rfl, rfl, hs⟩ := DataW.trod_string hT h
  exact ⟨s, rfl, trivial, by rw [Rows.uptoBulk, data_length]; exact Nat.le_refl _⟩
def sumF {α : Type} (μ : α → Nat) : List α → Nat
  | [] => 0
  | y :: l => μ y + sumF μ l
theorem sumF_mem {α : Type} (μ : α → Nat) : ∀ (l : List α) (y : α), y ∈ l → μ y ≤ sumF μ l
  | a :: l, y, h => by
    rw [List.mem_cons] at h
    rw [sumF]
    rcases h with rfl | h
    · omega
    · have := sumF_mem μ l y h; omega
theorem sumF_len {α : Type} (μ : α → Nat) : ∀ l : List α, (∀ y ∈ l, 1 ≤ μ y) → l.length ≤ sumF μ l
  | [], _ => Nat.le_refl _
  | a :: l, h => by
    have h1 := h a List.mem_cons_self
    have := sumF_len μ l (fun y hy => h y (List.mem_cons_of_mem _ hy))
    rw [sumF, List.length_cons]; omega
theorem sum_all {α : Type} (μ : α → Nat) (Y : Nat → α) (D : Nat → DataW H) : ∀ l : List Nat, (∀ i ∈ l, μ (Y i) ≤ Rows.uptoBulk (D i)) → sumF μ (l.map Y) ≤ Rows.uptoBulkAll (l.map D)
  | [], _ => Nat.zero_le _
  | i :: l, h => by
    have h1 := h i List.mem_cons_self
    have h2 := sum_all μ Y D l (fun j hj => h j (List.mem_cons_of_mem _ hj))
    rw [List.map_cons, List.map_cons, sumF, Rows.uptoBulkAll]; omega
theorem opn_slice {α : Type} (T e : TypeId) (d : Kd α) (μ : α → Nat) (ok : α → Prop) (hT : Tryd.prog.underlying T = some (.slice e)) (hc : Tryd.prog.cellsOf e = d.sz) (he : Opn (H := H) enc W base held e d μ ok) (e' : Nat) (z : α) :
    Opn (H := H) enc W base held T (Kd.slice e' d) (fun l => sumF μ l + 1) (fun l => ∀ y ∈ l, ok y) := by
  intro fuel cs x h
  haveI : Inhabited α := ⟨z⟩
  rcases Deep.open_slice hT h with ⟨rfl, rfl⟩ | ⟨a, len, cap, m, n, D, Pl, rfl, hb, hl, hm, hmm, rfl, hx⟩
  · exact ⟨[], ⟨none, 0, rfl, Nat.le_refl _, Kd.C_nil _ _⟩, (fun y hy => by cases hy), by simp [sumF, Rows.uptoBulk]⟩
  · simp only [if_true] at hmm
    subst hmm
    rw [hc] at hx
    have each : ∀ i, i < len → ∃ y : α, (∃ cs', cs'.length = d.sz ∧ d.K W y cs' ∧ ∀ j u, cs'[j]? = some u → W.cell? (a.add (i * d.sz + j)) = some u) ∧ ok y ∧ μ y ≤ Rows.uptoBulk (D i) := by
      intro i hi
      obtain ⟨cs', hcs', ht⟩ := hx i (by omega)
      obtain ⟨y, hK, hok, hμ⟩ := he n cs' _ ht
      obtain ⟨_, hlen, hat⟩ := World.cells?_some hcs'
      refine ⟨y, ⟨cs', hlen, hK, fun j u hj => ?_⟩, hok, hμ⟩
      have hj' := (List.getElem?_eq_some_iff.1 hj).1
      rw [← Go.Deep.add_add]
      exact (hat j (by omega)).trans hj
    obtain ⟨Y, hY⟩ := choose_lt each
    have hlen : ((List.range len).map Y).length = len := by simp
    refine ⟨(List.range len).map Y, ⟨some a, m, by rw [hlen], by rw [hlen]; exact hl, ⟨rfl, by rw [hlen]; unfold maxLen at hm; omega, fun _ => ⟨a, rfl, fun j p hj => ?_⟩⟩⟩, fun y hy => ?_, ?_⟩
    · have hjl : j < len := by
        have := (List.getElem?_eq_some_iff.1 hj).1
        simpa using this
      obtain rfl : Y j = p := by simpa [hjl] using hj
      exact (hY j hjl).1
    · obtain ⟨i, hi, rfl⟩ := List.mem_map.1 hy
      exact (hY i (List.mem_range.1 hi)).2.1
    · rw [Rows.uptoBulk]
      have := sum_all μ Y D (List.range len) (fun i hi => (hY i (List.mem_range.1 hi)).2.2)
      show sumF μ (List.map Y (List.range len)) + 1 ≤ _
      omega
end
theorem c3 : Tryd.prog.cellsOf 3 = 1 := by kernel_rfl
theorem c4 : Tryd.prog.cellsOf 4 = 1 := by kernel_rfl
theorem c9 : Tryd.prog.cellsOf 9 = 1 := by kernel_rfl
theorem c50 : Tryd.prog.cellsOf 50 = 1 := by kernel_rfl
theorem c55 : Tryd.prog.cellsOf 55 = 1 := by kernel_rfl
theorem c47 : Tryd.prog.cellsOf 47 = 1 := by kernel_rfl
theorem c52 : Tryd.prog.cellsOf 52 = 2 := by kernel_rfl
theorem c107 : Tryd.prog.cellsOf 107 = 2 := by kernel_rfl
theorem c54 : Tryd.prog.cellsOf 54 = 5 := by kernel_rfl
theorem c57 : Tryd.prog.cellsOf 57 = 9 := by kernel_rfl
theorem c46 : Tryd.prog.cellsOf 46 = 6 := by kernel_rfl
theorem c49 : Tryd.prog.cellsOf 49 = 8 := by kernel_rfl
theorem c116 : Tryd.prog.cellsOf 116 = 1 := by kernel_rfl
theorem f107 : fieldsOf 107 = [(3, 0), (9, 1)] := by kernel_rfl
theorem f52 : fieldsOf 52 = [(3, 0), (50, 1)] := by kernel_rfl
theorem f54 : fieldsOf 54 = [(3, 0), (3, 1), (9, 2), (52, 3)] := by kernel_rfl
theorem f57 : fieldsOf 57 = [(54, 0), (4, 5), (4, 6), (3, 7), (55, 8)] := by kernel_rfl
theorem f46 : fieldsOf 46 = [(3, 0), (3, 1), (3, 2), (3, 3), (3, 4), (3, 5)] := by kernel_rfl
theorem f49 : fieldsOf 49 = [(46, 0), (9, 6), (47, 7)] := by kernel_rfl
theorem wf_i64 {n : Int} (h : (Lit.int .i64 n).wf = true) : I64 n := by
  unfold I64
  simp only [Lit.wf, IntKind.min, IntKind.max, IntKind.signed, IntKind.bits, Bool.and_eq_true, decide_eq_true_eq, if_true, Bool.false_eq_true, if_false] at h
  omega
theorem wf_u32 {n : Int} (h : (Lit.int .u32 n).wf = true) : 0 ≤ n ∧ n < 4294967296 := by
  simp only [Lit.wf, IntKind.min, IntKind.max, IntKind.signed, IntKind.bits, Bool.and_eq_true, decide_eq_true_eq, if_true, Bool.false_eq_true, if_false] at h
  omega
section
variable {H : Type} {enc : TypeId × Value → H} {W : World} {base : Nat} {held : Bool}
theorem opn_i64 : Opn (H := H) enc W base held 3 (Kd.int .i64) (fun _ => 1) I64 := fun fuel cs x h => by
  obtain ⟨n, hk, hw, hb⟩ := opn_int 3 .i64 Tryd.underlying3 fuel cs x h
  exact ⟨n, hk, wf_i64 hw, hb⟩
theorem opn_u32 : Opn (H := H) enc W base held 116 (Kd.int .u32) (fun _ => 1) (fun n => 0 ≤ n ∧ n < 4294967296) := fun fuel cs x h => by
  obtain ⟨n, hk, hw, hb⟩ := opn_int 116 .u32 Tryd.underlying116 fuel cs x h
  exact ⟨n, hk, wf_u32 hw, hb⟩
def m107 (v : S107) : Nat := v.f1.size + 3
set_option maxRecDepth 100000 in
theorem opn107 : Opn (H := H) enc W base held 107 k107 m107 (fun v => I64 v.f0) := fun fuel cs x h => by
  obtain ⟨ys, hx, hl, hlen, hf⟩ := opn_fields 107 _ f107 (by simp) h
  obtain ⟨n0, p0, e0, t0⟩ := hf 0 3 0 rfl
  obtain ⟨n1, p1, e1, t1⟩ := hf 1 9 1 rfl
  rw [c107] at hl
  rw [c3] at t0
  rw [c9] at t1
  match cs, hl with
  | [d0, d1], _ =>
    match ys, hlen with
    | [u0, u1], _ =>
      obtain rfl : u0 = p0.1 := by simpa using e0
      obtain rfl : u1 = p1.1 := by simpa using e1
      obtain ⟨a0, k0, o0, b0⟩ := opn_i64 n0 [d0] p0 t0
      obtain ⟨a1, k1, o1, b1⟩ := opn_string 9 Tryd.underlying9 n1 [d1] p1 t1
      refine ⟨⟨a0, a1⟩, ⟨[d0], [d1], rfl, k0, k1⟩, o0, ?_⟩
      rw [hx, Rows.uptoBulk, Rows.uptoBulkAll, Rows.uptoBulkAll, Rows.uptoBulkAll]
      dsimp only at b0 b1
      show a1.size + 3 ≤ _
      omega
def m52 (y : S52) : Nat := sumF m107 y.f1 + 3
set_option maxRecDepth 100000 in
theorem opn52 : Opn (H := H) enc W base held 52 k52 m52 (fun y => I64 y.f0 ∧ ∀ v ∈ y.f1, I64 v.f0) := fun fuel cs x h => by
  obtain ⟨ys, hx, hl, hlen, hf⟩ := opn_fields 52 _ f52 (by simp) h
  obtain ⟨n0, p0, e0, t0⟩ := hf 0 3 0 rfl
  obtain ⟨n1, p1, e1, t1⟩ := hf 1 50 1 rfl
  rw [c52] at hl
  rw [c3] at t0
  rw [c50] at t1
  match cs, hl with
  | [d0, d1], _ =>
    match ys, hlen with
    | [u0, u1], _ =>
      obtain rfl : u0 = p0.1 := by simpa using e0
      obtain rfl : u1 = p1.1 := by simpa using e1
      obtain ⟨a0, k0, o0, b0⟩ := opn_i64 n0 [d0] p0 t0
      obtain ⟨a1, k1, o1, b1⟩ := opn_slice 50 107 k107 m107 _ Tryd.underlying50 c107 opn107 107 z107 n1 [d1] p1 t1
      refine ⟨⟨a0, a1⟩, ⟨[d0], [d1], rfl, k0, k1⟩, ⟨o0, o1⟩, ?_⟩
      rw [hx, Rows.uptoBulk, Rows.uptoBulkAll, Rows.uptoBulkAll, Rows.uptoBulkAll]
      dsimp only at b0 b1
      show sumF m107 a1 + 3 ≤ _
      omega
def m54 (y : S54) : Nat := y.f2.size + m52 y.f3 + 4
set_option maxRecDepth 100000 in
theorem opn54 : Opn (H := H) enc W base held 54 k54 m54 (fun y => I64 y.f0 ∧ I64 y.f1 ∧ I64 y.f3.f0 ∧ ∀ v ∈ y.f3.f1, I64 v.f0) := fun fuel cs x h => by
  obtain ⟨ys, hx, hl, hlen, hf⟩ := opn_fields 54 _ f54 (by simp) h
  obtain ⟨n0, p0, e0, t0⟩ := hf 0 3 0 rfl
  obtain ⟨n1, p1, e1, t1⟩ := hf 1 3 1 rfl
  obtain ⟨n2, p2, e2, t2⟩ := hf 2 9 2 rfl
  obtain ⟨n3, p3, e3, t3⟩ := hf 3 52 3 rfl
  rw [c54] at hl
  rw [c3] at t0 t1
  rw [c9] at t2
  rw [c52] at t3
  match cs, hl with
  | [d0, d1, d2, d3, d4], _ =>
    match ys, hlen with
    | [u0, u1, u2, u3], _ =>
      obtain rfl : u0 = p0.1 := by simpa using e0
      obtain rfl : u1 = p1.1 := by simpa using e1
      obtain rfl : u2 = p2.1 := by simpa using e2
      obtain rfl : u3 = p3.1 := by simpa using e3
      obtain ⟨a0, k0, o0, b0⟩ := opn_i64 n0 [d0] p0 t0
      obtain ⟨a1, k1, o1, b1⟩ := opn_i64 n1 [d1] p1 t1
      obtain ⟨a2, k2, o2, b2⟩ := opn_string 9 Tryd.underlying9 n2 [d2] p2 t2
      obtain ⟨a3, k3, o3, b3⟩ := opn52 n3 [d3, d4] p3 t3
      refine ⟨⟨a0, a1, a2, a3⟩, ⟨[d0], [d1, d2, d3, d4], rfl, k0, [d1], [d2, d3, d4], rfl, k1, [d2], [d3, d4], rfl, k2, k3⟩, ⟨o0, o1, o3⟩, ?_⟩
      rw [hx]
      simp only [Rows.uptoBulk, Rows.uptoBulkAll]
      dsimp only at b0 b1 b2
      show a2.size + m52 a3 + 4 ≤ _
      omega
def m57 (y : S57) : Nat := m54 y.f0 + y.f4.length + 5
/-- What an argument's act holds. -/
def ok57 (y : S57) : Prop := I64 y.f0.f1 ∧ I64 y.f0.f3.f0 ∧ (∀ v ∈ y.f0.f3.f1, I64 v.f0) ∧ I64 y.f3 ∧ ∀ x ∈ y.f4, 0 ≤ x ∧ x < 4294967296
set_option maxRecDepth 100000 in
theorem opn57 : Opn (H := H) enc W base held 57 k57 m57 ok57 := fun fuel cs x h => by
  obtain ⟨ys, hx, hl, hlen, hf⟩ := opn_fields 57 _ f57 (by simp) h
  obtain ⟨n0, p0, e0, t0⟩ := hf 0 54 0 rfl
  obtain ⟨n1, p1, e1, t1⟩ := hf 1 4 5 rfl
  obtain ⟨n2, p2, e2, t2⟩ := hf 2 4 6 rfl
  obtain ⟨n3, p3, e3, t3⟩ := hf 3 3 7 rfl
  obtain ⟨n4, p4, e4, t4⟩ := hf 4 55 8 rfl
  rw [c57] at hl
  rw [c54] at t0
  rw [c4] at t1 t2
  rw [c3] at t3
  rw [c55] at t4
  match cs, hl with
  | [d0, d1, d2, d3, d4, d5, d6, d7, d8], _ =>
    match ys, hlen with
    | [u0, u1, u2, u3, u4], _ =>
      obtain rfl : u0 = p0.1 := by simpa using e0
      obtain rfl : u1 = p1.1 := by simpa using e1
      obtain rfl : u2 = p2.1 := by simpa using e2
      obtain rfl : u3 = p3.1 := by simpa using e3
      obtain rfl : u4 = p4.1 := by simpa using e4
      obtain ⟨a0, k0, o0, b0⟩ := opn54 n0 [d0, d1, d2, d3, d4] p0 t0
      obtain ⟨a1, k1, o1, b1⟩ := opn_bool 4 Tryd.underlying4 n1 [d5] p1 t1
      obtain ⟨a2, k2, o2, b2⟩ := opn_bool 4 Tryd.underlying4 n2 [d6] p2 t2
      obtain ⟨a3, k3, o3, b3⟩ := opn_i64 n3 [d7] p3 t3
      obtain ⟨a4, k4, o4, b4⟩ := opn_slice 55 116 (Kd.int .u32) (fun _ => 1) _ Tryd.underlying55 c116 opn_u32 116 0 n4 [d8] p4 t4
      refine ⟨⟨a0, a1, a2, a3, a4⟩, ⟨[d0, d1, d2, d3, d4], [d5, d6, d7, d8], rfl, k0, [d5], [d6, d7, d8], rfl, k1, [d6], [d7, d8], rfl, k2, [d7], [d8], rfl, k3, k4⟩, ⟨o0.2.1, o0.2.2.1, o0.2.2.2, o3, o4⟩, ?_⟩
      have hs := sumF_len (fun _ : Int => 1) a4 (fun _ _ => Nat.le_refl _)
      rw [hx]
      simp only [Rows.uptoBulk, Rows.uptoBulkAll]
      dsimp only at b1 b2 b3 b4
      show m54 a0 + a4.length + 5 ≤ _
      omega
set_option maxRecDepth 100000 in
/-- A script among the arguments. -/
theorem opn49 {fuel : Nat} {cs : List Value} {x : DataW H × List MemPlace} (h : DataW.trod enc Tryd.prog W base (fun _ => true) held fuel 49 cs = some x) :
    ∃ (g0 g1 g2 g3 g4 g5 : Int) (B : ByteArray) (A : Option Addr) (c : Nat) (ls : List S57), cs = [.int .i64 g0, .int .i64 g1, .int .i64 g2, .int .i64 g3, .int .i64 g4, .int .i64 g5, .string B, .slice A ls.length c] ∧
      Kd.C k57 W A ls.length ls ∧ ls.length ≤ c ∧ (I64 g0 ∧ I64 g1 ∧ I64 g2 ∧ I64 g3 ∧ I64 g4 ∧ I64 g5) ∧ (∀ a ∈ ls, ok57 a) ∧ B.size + sumF m57 ls ≤ Rows.uptoBulk x.1 := by
  obtain ⟨ys, hx, hl, hlen, hf⟩ := opn_fields 49 _ f49 (by simp) h
  obtain ⟨n0, p0, e0, t0⟩ := hf 0 46 0 rfl
  obtain ⟨n1, p1, e1, t1⟩ := hf 1 9 6 rfl
  obtain ⟨n2, p2, e2, t2⟩ := hf 2 47 7 rfl
  rw [c49] at hl
  rw [c46] at t0
  rw [c9] at t1
  rw [c47] at t2
  match cs, hl with
  | [d0, d1, d2, d3, d4, d5, d6, d7], _ =>
    match ys, hlen with
    | [u0, u1, u2], _ =>
      obtain rfl : u0 = p0.1 := by simpa using e0
      obtain rfl : u1 = p1.1 := by simpa using e1
      obtain rfl : u2 = p2.1 := by simpa using e2
      obtain ⟨zs, _, hl2, _, hg⟩ := opn_fields 46 _ f46 (by simp) t0
      obtain ⟨q0, r0, _, s0⟩ := hg 0 3 0 rfl
      obtain ⟨q1, r1, _, s1⟩ := hg 1 3 1 rfl
      obtain ⟨q2, r2, _, s2⟩ := hg 2 3 2 rfl
      obtain ⟨q3, r3, _, s3⟩ := hg 3 3 3 rfl
      obtain ⟨q4, r4, _, s4⟩ := hg 4 3 4 rfl
      obtain ⟨q5, r5, _, s5⟩ := hg 5 3 5 rfl
      rw [c3] at s0 s1 s2 s3 s4 s5
      obtain ⟨g0, k0, o0, _⟩ := opn_i64 q0 [d0] r0 s0
      obtain ⟨g1, k1, o1, _⟩ := opn_i64 q1 [d1] r1 s1
      obtain ⟨g2, k2, o2, _⟩ := opn_i64 q2 [d2] r2 s2
      obtain ⟨g3, k3, o3, _⟩ := opn_i64 q3 [d3] r3 s3
      obtain ⟨g4, k4, o4, _⟩ := opn_i64 q4 [d4] r4 s4
      obtain ⟨g5, k5, o5, _⟩ := opn_i64 q5 [d5] r5 s5
      obtain ⟨B, kB, _, bB⟩ := opn_string 9 Tryd.underlying9 n1 [d6] p1 t1
      obtain ⟨ls, ⟨A, c, kL, hc, hC⟩, oL, bL⟩ := opn_slice 47 57 k57 m57 _ Tryd.underlying47 c57 opn57 57 z57 n2 [d7] p2 t2
      refine ⟨g0, g1, g2, g3, g4, g5, B, A, c, ls, ?_, hC, hc, ⟨o0, o1, o2, o3, o4, o5⟩, oL, ?_⟩
      · have j0 : [d0] = [Value.int .i64 g0] := k0
        have j1 : [d1] = [Value.int .i64 g1] := k1
        have j2 : [d2] = [Value.int .i64 g2] := k2
        have j3 : [d3] = [Value.int .i64 g3] := k3
        have j4 : [d4] = [Value.int .i64 g4] := k4
        have j5 : [d5] = [Value.int .i64 g5] := k5
        have j6 : [d6] = [Value.string B] := kB
        have j7 : [d7] = [Value.slice A ls.length c] := kL
        simp only [List.cons.injEq, and_true] at j0 j1 j2 j3 j4 j5 j6 j7
        rw [j0, j1, j2, j3, j4, j5, j6, j7]
      · rw [hx]
        simp only [Rows.uptoBulk, Rows.uptoBulkAll]
        dsimp only at bB bL
        omega
end
end Go.Proofs.YtiddiboclfpklaaDoor.Tz
namespace Go.Proofs.YtiddiboclfpklaaDoor.Tz
open Go.RowKit Go.Proofs.YtiddiboclfpklaaDoorW.PrintWords Go.Proofs.YtiddiboclfpklaaDoor.PScriptReads Go.Proofs.YtiddiboclfpklaaDoor.Tx
set_option linter.unusedVariables false
set_option linter.unusedSimpArgs false
theorem decW_size (n : Int) (hn : I64 n) : (decW n).size ≤ 30 := by
  unfold decW
  rw [strOf_size]
  have hn' := hn
  unfold I64 at hn'
  by_cases h : n < 0
  · have := digR_len 18 (-n).toNat (by omega)
    rw [decF_neg n h, List.length_cons, List.length_reverse]; omega
  · have := digR_len 18 n.toNat (by omega)
    rw [decF_pos n h, List.length_reverse]; omega
theorem word_small (k : Int) : (wordF k).size ≤ 30 := by
  by_cases h : (wordF k).size = 0
  · omega
  · obtain ⟨j, hj⟩ := word_num k h
    have := (words_all j).1
    rw [hj]; omega
theorem act_ok (a : S57) (h : ok57 a) (hb : m57 a ≤ 1048576) : ActOk (act66 a) := by
  obtain ⟨h1, h2, h3, h4, h5⟩ := h
  unfold m57 m54 m52 at hb
  refine ⟨h1, h2, h4, ?_, fun v hv => ⟨h3 v hv, ?_⟩, ?_, h5, ?_⟩
  · show a.f0.f2.size ≤ _; omega
  · have := sumF_mem m107 a.f0.f3.f1 v hv
    have h0 : v.f1.size + 3 = m107 v := rfl
    omega
  · have := sumF_len m107 a.f0.f3.f1 (fun v _ => by unfold m107; omega)
    show a.f0.f3.f1.length ≤ _; omega
  · show a.f4.length ≤ _; omega
/-- A line's length, by its words. -/
def wl : List ByteArray → Nat
  | [] => 0
  | x :: l => x.size + 1 + wl l
theorem wl_flat : ∀ l : List ByteArray, (l.flatMap fun y => 32 :: y.data.toList).length = wl l
  | [] => rfl
  | x :: l => by
    rw [List.flatMap_cons, List.length_append, List.length_cons, data_length, wl_flat l, wl]
theorem line_wl (l : List ByteArray) : (lineB l).length ≤ wl l := by
  cases l with
  | nil => exact Nat.le_refl _
  | cons x l => rw [lineB, List.length_append, data_length, wl_flat, wl]; omega
theorem wl_word : ∀ (l : List ByteArray) (x : ByteArray), x ∈ l → x.size ≤ wl l
  | y :: l, x, h => by
    rw [List.mem_cons] at h
    rw [wl]
    rcases h with rfl | h
    · omega
    · have := wl_word l x h; omega
theorem wl_map {α : Type} (f : α → ByteArray) (μ : α → Nat) (k : Nat) : ∀ l : List α, (∀ y ∈ l, (f y).size + 1 ≤ k * μ y) → wl (l.map f) ≤ k * sumF μ l
  | [], _ => by simp [wl, sumF]
  | y :: l, h => by
    have h1 := h y List.mem_cons_self
    have h2 := wl_map f μ k l (fun z hz => h z (List.mem_cons_of_mem _ hz))
    rw [List.map_cons, wl, sumF, Nat.mul_add]; omega
theorem decW_u32 (x : Int) (h0 : 0 ≤ x) (h1 : x < 4294967296) : (decW x).size ≤ 10 := by
  unfold decW
  rw [strOf_size, decF_pos x (by omega), List.length_reverse]
  have := digR_len 9 x.toNat (by omega)
  omega
theorem sum_one : ∀ l : List Int, sumF (fun _ => 1) l = l.length
  | [] => rfl
  | x :: l => by rw [sumF, sum_one l, List.length_cons]; omega
theorem valueF_size (v : S107) (h : I64 v.f0) : (valueF v).size + 1 ≤ 11 * m107 v := by
  unfold valueF m107
  by_cases h0 : v.f1.size = 0
  · rw [if_pos h0]
    have := decW_size v.f0 h
    unfold decW at this
    omega
  · rw [if_neg h0, ByteArray.size_append]
    have := hexF_size v.f1
    have h2 : (⟨#[58]⟩ : ByteArray).size = 1 := rfl
    omega
theorem line_small (a : S57) (h : ok57 a) : wl (lineA (act66 a)) + 1 ≤ 11 * m57 a := by
  obtain ⟨⟨k, n, d, f, vs⟩, cut, mount, m, ms⟩ := a
  obtain ⟨h1, h2, h3, h4, h5⟩ := h
  dsimp only at h1 h2 h3 h4 h5
  have hm := decW_size m h4
  have hn := decW_size n h1
  have hf := decW_size f h2
  have hw := word_small k
  have hx := hexF_size d
  unfold m57 m54 m52 lineA act66
  dsimp only
  have hms : wl (ms.map decW) ≤ 11 * ms.length := by
    have := wl_map decW (fun _ : Int => 1) 11 ms (fun y hy => by have := decW_u32 y (h5 y hy).1 (h5 y hy).2; omega)
    rw [sum_one] at this
    exact this
  have hvs := wl_map valueF m107 11 vs (fun v hv => valueF_size v (h3 v hv))
  have s3 : (⟨#[99, 117, 116]⟩ : ByteArray).size = 3 := rfl
  have s5 : (⟨#[109, 111, 117, 110, 116]⟩ : ByteArray).size = 5 := rfl
  cases cut with
  | true => rw [if_pos rfl, wl, wl]; omega
  | false =>
    rw [if_neg Bool.false_ne_true]
    cases mount with
    | true => rw [if_pos rfl, wl, wl]; omega
    | false =>
      rw [if_neg Bool.false_ne_true, wl]
      by_cases c1 : k = 1
      · rw [if_pos c1, wl, wl]; omega
      · rw [if_neg c1]
        by_cases c2 : k = 2
        · rw [if_pos c2, wl, wl]; omega
        · rw [if_neg c2]
          by_cases c3 : k = 11 ∨ k = 12 ∨ k = 13
          · rw [if_pos c3, wl, wl]; omega
          · rw [if_neg c3, wl]; omega
/-- The lengths of lines together. -/
def tl : List (List ByteArray) → Nat
  | [] => 0
  | l :: r => wl l + 1 + tl r
theorem text_tl : ∀ r : List (List ByteArray), (textB r).length ≤ tl r
  | [] => Nat.le_refl _
  | l :: r => by
    have h1 := text_tl r
    have h2 := line_wl l
    unfold textB at h1 ⊢
    rw [List.flatMap_cons, List.length_append, List.length_append, List.length_singleton, tl]; omega
theorem tl_word : ∀ (r : List (List ByteArray)) (l : List ByteArray), l ∈ r → wl l ≤ tl r
  | m :: r, l, h => by
    rw [List.mem_cons] at h
    rw [tl]
    rcases h with rfl | h
    · omega
    · have := tl_word r l h; omega
theorem tl_lines : ∀ ls : List S57, (∀ a ∈ ls, ok57 a) → tl ((ls.map act66).map lineA) ≤ 11 * sumF m57 ls
  | [], _ => Nat.le_refl _
  | a :: ls, h => by
    have h1 := line_small a (h a List.mem_cons_self)
    have h2 := tl_lines ls (fun y hy => h y (List.mem_cons_of_mem _ hy))
    rw [List.map_cons, List.map_cons, tl, sumF, Nat.mul_add]; omega
theorem rows_small (g0 g1 g2 g3 g4 g5 : Int) (B : ByteArray) (ls : List S57) (hg : I64 g0 ∧ I64 g1 ∧ I64 g2 ∧ I64 g3 ∧ I64 g4 ∧ I64 g5) (h : ∀ a ∈ ls, ok57 a) (hb : B.size + sumF m57 ls ≤ 1048576) :
    tl (rowsOf g0 g1 g2 g3 g4 g5 B (ls.map act66)) ≤ 16000000 := by
  obtain ⟨hg0, hg1, hg2, hg3, hg4, hg5⟩ := hg
  have z0 := decW_size g0 hg0
  have z1 := decW_size g1 hg1
  have z2 := decW_size g2 hg2
  have z3 := decW_size g3 hg3
  have z4 := decW_size g4 hg4
  have z5 := decW_size g5 hg5
  have zx := hexF_size B
  have hl := tl_lines ls h
  unfold rowsOf headF parcelF
  rw [tl, tl, wl, wl, wl, wl, wl, wl, wl, wl, wl, wl, wl]
  have s6 : (⟨#[100, 101, 118, 105, 99, 101]⟩ : ByteArray).size = 6 := rfl
  have s7 : (⟨#[112, 97, 114, 99, 101, 108]⟩ : ByteArray).size = 6 := rfl
  omega
section
open Go.ChangeShapes Go.WideShapes Go.ChangeAt Go.Deep
variable {H : Type} {enc : TypeId × Value → H} {W : World} {base b0 : Nat} {held : Bool} {v : Value} {d : DataW H} {ps : List MemPlace} {r : Reach}
set_option maxRecDepth 100000 in
theorem open_script (hv : Value.okWide Tryd.prog W r b0 49 v) (h : DataW.Trod enc Tryd.prog W base (fun _ => true) held 49 v d ps) :
    ∃ (g0 g1 g2 g3 g4 g5 : Int) (B : ByteArray) (A : Option Addr) (c : Nat) (ls : List S57), v = .agg #[.int .i64 g0, .int .i64 g1, .int .i64 g2, .int .i64 g3, .int .i64 g4, .int .i64 g5, .string B, .slice A ls.length c] ∧
      (Kd.C k57 W A ls.length ls ∧ ls.length ≤ c) ∧ (I64 g0 ∧ I64 g1 ∧ I64 g2 ∧ I64 g3 ∧ I64 g4 ∧ I64 g5) ∧ (∀ a ∈ ls, ok57 a) ∧ B.size + sumF m57 ls ≤ Rows.uptoBulk d := by
  obtain ⟨cs, rfl, _⟩ := okWide_struct Tryd.underlying49 hv
  obtain ⟨fuel, hf⟩ := h
  obtain ⟨l⟩ := cs
  have hf' : DataW.trod enc Tryd.prog W base (fun _ => true) held fuel 49 l = some (d, ps) := by simpa [Value.cells] using hf
  obtain ⟨g0, g1, g2, g3, g4, g5, B, A, c, ls, rfl, h1, h2, h3, h4, h5⟩ := opn49 hf'
  exact ⟨g0, g1, g2, g3, g4, g5, B, A, c, ls, rfl, ⟨h1, h2⟩, h3, h4, h5⟩
end
end Go.Proofs.YtiddiboclfpklaaDoor.Tz
