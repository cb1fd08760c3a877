import Derived.Test.YtiddiboclfpklaaDoorCards
import Derived.Test.YtiddiboclfpklaaDoorTie
import Derived.WalkKit
import Derived.ProofKit
import Derived.OpenShut
import Derived.ChangeMaps5
import Derived.Deep.DeepHandedRow
import Derived.Test.YtiddiboclfpklaaDoorScH
/- PROVED: for every input of bulk at most 1048576 the statement ScriptPrints answers true and leaves its arguments as they were: whether any acts are plain or the same, and any script's text, or that there is none, are as the document says; and the known text comes. Condition: what it reads is of bulk at most 1048576. -/
namespace Go.Proofs.YtiddiboclfpklaaDoor.scriptPrintsUpto
open Go.ChangeShapes Go.ChangeMaps Go.WideShapes Go.ChangeAt Go.RowKit Go.Proofs.YtiddiboclfpklaaDoorW.PrintWords Go.Proofs.YtiddiboclfpklaaDoor.Tx Go.Proofs.YtiddiboclfpklaaDoor.Tz Go.Proofs.YtiddiboclfpklaaDoor.PScriptReads
set_option linter.unusedVariables false
set_option linter.unusedSimpArgs false

theorem own : ownKnob Tryd.prog.godebug = none := by kernel_rfl
theorem laidOut : laidOutB Tryd.prog = true := by kernel_rfl

theorem walk {w : World} (g0 g1 g2 g3 g4 g5 : Int) (B : ByteArray) (A : Option Addr) (c : Nat) (ls : List S57) (hr : Kd.C k57 w A ls.length ls) (hc : ls.length ≤ c) (hg : I64 g0 ∧ I64 g1 ∧ I64 g2 ∧ I64 g3 ∧ I64 g4 ∧ I64 g5) (hls : ∀ x ∈ ls, ok57 x)
    (a : S57) (A4 : Option Addr) (ac4 : Nat) (A8 : Option Addr) (ac8 : Nat) (ha4 : Kd.C k107 w A4 a.f0.f3.f1.length a.f0.f3.f1) (la4 : a.f0.f3.f1.length ≤ ac4) (ha8 : Kd.C (Kd.int .u32) w A8 a.f4.length a.f4) (la8 : a.f4.length ≤ ac8) (Ha : ok57 a)
    (b : S57) (B4 : Option Addr) (bc4 : Nat) (B8 : Option Addr) (bc8 : Nat) (hb4 : Kd.C k107 w B4 b.f0.f3.f1.length b.f0.f3.f1) (lb4 : b.f0.f3.f1.length ≤ bc4) (hb8 : Kd.C (Kd.int .u32) w B8 b.f4.length b.f4) (lb8 : b.f4.length ≤ bc8) (Hb : ok57 b)
    (hs : B.size + sumF m57 ls + (m57 a + m57 b) ≤ 1048576) (_ : World) :
    Calls Tryd.prog 7 #[.agg #[.int .i64 g0, .int .i64 g1, .int .i64 g2, .int .i64 g3, .int .i64 g4, .int .i64 g5, .string B, .slice A ls.length c], actV57 a A4 ac4 A8 ac8, actV57 b B4 bc4 B8 bc8] w fun e w' => e = .returned (.bool true) ∧ Below w.heap.size w w' :=
  prints_small g0 g1 g2 g3 g4 g5 B ls A c a b A4 ac4 A8 ac8 B4 bc4 B8 bc8 w hr hc ha4 la4 ha8 la8 hb4 lb4 hb8 lb8 hg hls Ha Hb hs

set_option maxRecDepth 100000 in
theorem contract (H : Type) (enc : TypeId × Value → H) (W : World) (base : Nat) (args : Array Value) (ds gs : List (DataW H)) (before : List MemPlace)
    (hval0 : ∀ (j : Nat) t v, Tryd.f7.params[j]? = some t → args[j]? = some v → Value.okWide Tryd.prog W .any base t v)
    (hW : DataW.Whole enc Tryd.prog Tryd.f7.params.toList Rows.scriptPrintsSpec.vars false W args.toList ds gs before) (hsm : Rows.uptoSmall H (ds ++ gs) = true) :
    Calls Tryd.prog 7 args W fun e W' => ∃ v, e = .returned v ∧ Rows.scriptPrintsSpec.post enc Tryd.prog Tryd.f7 false true false false W args v W' := by
  have hval : ∀ (j : Nat) t v, Tryd.f7.params[j]? = some t → args[j]? = some v → Value.okWide Tryd.prog W .any base t v := hval0
  have hW' := hW
  obtain ⟨p, q, hA0, hV, rfl, hfz, hnd⟩ := hW
  have hA : DataW.TrodAll enc Tryd.prog W 0 (fun _ => true) true Tryd.f7.params.toList args.toList ds p := hA0
  rw [Tryd.params7] at hA hval
  obtain ⟨v0, vs0, d0, ds0, p0, q0, hargs0, rfl, rfl, h0, r0⟩ := trodAll_cons hA
  obtain ⟨v1, vs1, d1, ds1, p1, q1, hargs1, rfl, rfl, h1, r1⟩ := trodAll_cons r0
  obtain ⟨v2, vs2, d2, ds2, p2, q2, hargs2, rfl, rfl, h2, r2⟩ := trodAll_cons r1
  obtain ⟨rfl, rfl, rfl⟩ := trodAll_nil r2
  obtain rfl : args = #[v0, v1, v2] := by cases args; simp_all
  obtain ⟨rfl, rfl⟩ := trodVars_none hV
  have lt0 : ∀ x ∈ p0, x.block < W.heap.size := by obtain ⟨m, hm⟩ := h0; exact DataW.trod_lt m _ _ _ hm
  have lt1 : ∀ x ∈ p1, x.block < W.heap.size := by obtain ⟨m, hm⟩ := h1; exact DataW.trod_lt m _ _ _ hm
  have lt2 : ∀ x ∈ p2, x.block < W.heap.size := by obtain ⟨m, hm⟩ := h2; exact DataW.trod_lt m _ _ _ hm
  obtain ⟨g0, g1, g2, g3, g4, g5, B0, A0, c0, l0, rfl, ⟨hr0, hc0⟩, hg0, ho0, hd0⟩ := open_script (hval 0 49 v0 rfl rfl) h0
  obtain ⟨a1, A1, c1, E1, f1, rfl, ⟨hr1, hc1, hs1, hf1⟩, ho1, hd1⟩ := open_act (hval 1 57 v1 rfl rfl) h1
  obtain ⟨a2, A2, c2, E2, f2, rfl, ⟨hr2, hc2, hs2, hf2⟩, ho2, hd2⟩ := open_act (hval 2 57 v2 rfl rfl) h2
  clear hA0 hval0
  refine (walk g0 g1 g2 g3 g4 g5 B0 A0 c0 l0 hr0 hc0 hg0 ho0 a1 A1 c1 E1 f1 hr1 hc1 hs1 hf1 ho1 a2 A2 c2 E2 f2 hr2 hc2 hs2 hf2 ho2 (by simp only [Rows.uptoSmall, Rows.uptoBulkAll, Rows.uptoBulk, List.cons_append, List.nil_append, decide_eq_true_eq, data_length] at hsm; omega) W).mono fun e W' ⟨he, bel⟩ => ?_
  subst he
  exact ⟨_, rfl, _, _, _, [], _, [], hW', trodAll_mk1 (shut_bool Tryd.underlying4 _), (trodAll_cons_mk (Below.trod laidOut (by kernel_rfl) (of_decide_eq_true (by kernel_rfl)) h0 bel lt0) (trodAll_cons_mk (Below.trod laidOut (by kernel_rfl) (of_decide_eq_true (by kernel_rfl)) h1 bel lt1) (trodAll_cons_mk (Below.trod laidOut (by kernel_rfl) (of_decide_eq_true (by kernel_rfl)) h2 bel lt2) trodAll_mk0))), rfl, bel.frame _, fun h => by cases h⟩

/-- A world for the witness: the tables hold what their initialisers lay. -/
def layAt (xs : List Int) (o : Obj) : Obj :=
  match o with
  | .cells _ t frozen => .cells (nums .u8 xs).toArray t frozen
  | o => o
def accL : List Int := [128, 191, 160, 191, 128, 159, 144, 191, 128, 143] ++ List.replicate 22 0
def firstL : List Int := Go.Pinned.utf8FirstZ.map fun (n : Nat) => Int.ofNat n
noncomputable def laidWorld (os : Os) : World :=
  { World.holding Tryd.prog os ⟨#[], #[], []⟩ with heap := ((World.holding Tryd.prog os ⟨#[], #[], []⟩).heap.modify 1 (layAt firstL)).modify 2 (layAt accL) }
theorem laid_met (os : Os) : laidMet Tryd.prog Rows.scriptPrintsUptoRow.laid ((laidWorld os).forCall (fun _ _ => 0) ⟨#[], #[Value.agg #[Value.int .i64 0, Value.int .i64 0, Value.int .i64 0, Value.int .i64 0, Value.int .i64 0, Value.int .i64 0, Value.string ByteArray.empty, Value.slice none 0 0], Value.agg #[Value.int .i64 0, Value.int .i64 0, Value.string ByteArray.empty, Value.int .i64 0, Value.slice none 0 0, Value.bool false, Value.bool false, Value.int .i64 0, Value.slice none 0 0], Value.agg #[Value.int .i64 0, Value.int .i64 0, Value.string ByteArray.empty, Value.int .i64 0, Value.slice none 0 0, Value.bool false, Value.bool false, Value.int .i64 0, Value.slice none 0 0]], []⟩).memory :=
  laidMet_of_run' 300 (by kernel_rfl) (by kernel_rfl)
theorem reads (os : Os) {H : Type} (enc : TypeId × Value → H) : ∃ places, DataW.whole enc Tryd.prog ((laidWorld os).forCall (fun _ _ => 0) ⟨#[], #[Value.agg #[Value.int .i64 0, Value.int .i64 0, Value.int .i64 0, Value.int .i64 0, Value.int .i64 0, Value.int .i64 0, Value.string ByteArray.empty, Value.slice none 0 0], Value.agg #[Value.int .i64 0, Value.int .i64 0, Value.string ByteArray.empty, Value.int .i64 0, Value.slice none 0 0, Value.bool false, Value.bool false, Value.int .i64 0, Value.slice none 0 0], Value.agg #[Value.int .i64 0, Value.int .i64 0, Value.string ByteArray.empty, Value.int .i64 0, Value.slice none 0 0, Value.bool false, Value.bool false, Value.int .i64 0, Value.slice none 0 0]], []⟩).memory Tryd.f7.params.toList Rows.scriptPrintsSpec.vars false (#[Value.agg #[Value.int .i64 0, Value.int .i64 0, Value.int .i64 0, Value.int .i64 0, Value.int .i64 0, Value.int .i64 0, Value.string ByteArray.empty, Value.slice none 0 0], Value.agg #[Value.int .i64 0, Value.int .i64 0, Value.string ByteArray.empty, Value.int .i64 0, Value.slice none 0 0, Value.bool false, Value.bool false, Value.int .i64 0, Value.slice none 0 0], Value.agg #[Value.int .i64 0, Value.int .i64 0, Value.string ByteArray.empty, Value.int .i64 0, Value.slice none 0 0, Value.bool false, Value.bool false, Value.int .i64 0, Value.slice none 0 0]] : Array Value).toList 8 = some ([.agg [.agg [.lit (.int .i64 0), .lit (.int .i64 0), .lit (.int .i64 0), .lit (.int .i64 0), .lit (.int .i64 0), .lit (.int .i64 0)], .lit (.string []), .nil], .agg [.agg [.lit (.int .i64 0), .lit (.int .i64 0), .lit (.string []), .agg [.lit (.int .i64 0), .nil]], .lit (.bool false), .lit (.bool false), .lit (.int .i64 0), .nil], .agg [.agg [.lit (.int .i64 0), .lit (.int .i64 0), .lit (.string []), .agg [.lit (.int .i64 0), .nil]], .lit (.bool false), .lit (.bool false), .lit (.int .i64 0), .nil]], [], places) :=
  ⟨[], by kernel_rfl⟩

set_option maxRecDepth 100000 in
theorem lifted (os : Os) (started : os.Started) (H : Type) (enc : TypeId × Value → H) (F : Stop.Interp) :
    ReturnsInHanded {} Tryd.checked os 7 .any ((Rows.OpenSpec.upto Rows.scriptPrintsSpec).preRow enc Tryd.prog Tryd.f7 Rows.scriptPrintsUptoRow.domain false Rows.scriptPrintsUptoRow.laid) (((Rows.OpenSpec.upto Rows.scriptPrintsSpec).at F).post enc Tryd.prog Tryd.f7 false true false false) := by
  obtain ⟨places, hx⟩ := reads os enc
  refine returnsInHanded_of_row (C := Tryd.checked) (s := Rows.OpenSpec.upto Rows.scriptPrintsSpec) own started (by kernel_rfl) Tryd.func7
    (witness_row_at (enc := enc) (C := Tryd.checked) false (laidWorld os) #[Value.agg #[Value.int .i64 0, Value.int .i64 0, Value.int .i64 0, Value.int .i64 0, Value.int .i64 0, Value.int .i64 0, Value.string ByteArray.empty, Value.slice none 0 0], Value.agg #[Value.int .i64 0, Value.int .i64 0, Value.string ByteArray.empty, Value.int .i64 0, Value.slice none 0 0, Value.bool false, Value.bool false, Value.int .i64 0, Value.slice none 0 0], Value.agg #[Value.int .i64 0, Value.int .i64 0, Value.string ByteArray.empty, Value.int .i64 0, Value.slice none 0 0, Value.bool false, Value.bool false, Value.int .i64 0, Value.slice none 0 0]] rfl (by kernel_rfl) (by kernel_rfl) (by kernel_rfl)
      (OpenSpec.preRow_of_cond 8 hx (by kernel_rfl) (fun k hk => by cases hk; rfl) (by kernel_rfl) (laid_met os))) ?_
  intro W base args ds gs before hval hW _ hcd _ hL _ _
  exact contract H enc W base args ds gs before hval hW (hcd _ rfl)

theorem said : Rows.ScriptPrintsUptoSaid :=
  OpenClaim.holds_of_cond 7 Tryd.f7 rfl rfl rfl rfl rfl rfl rfl ⟨rfl, rfl, rfl, rfl, rfl⟩ rfl rfl rfl rfl rfl (by kernel_rfl) Tryd.func7 (by kernel_rfl)
    (of_decide_eq_true (by kernel_rfl)) (by unfold Func.isWrapper; first | (rw [if_pos (by decide +kernel)]; kernel_rfl) | (rw [if_neg (by decide +kernel)]; exact ⟨rfl, rfl⟩))
    (fun os started H enc _ F => by rw [OpenClaim.pre_eq_preRow]; exact lifted os started H enc F)
theorem plain (f : FuncId) (fn : Func) (hf : Tryd.pinned.checked.prog.funcNamed "instar/instarlaw40.ScriptPrints" = some f) (hfn : Tryd.pinned.checked.prog.funcs[f]? = some fn) :
    false = Tryd.pinned.checked.prog.looks [] ∧ ∀ (j : Nat) t, fn.params[j]? = some t → Tryd.pinned.checked.prog.wantsStandIn t = false := by
  obtain rfl : f = 7 := Option.some.inj ((show Tryd.prog.funcNamed "instar/instarlaw40.ScriptPrints" = some 7 by kernel_rfl).symm.trans hf) |>.symm
  obtain rfl : fn = Tryd.f7 := (Option.some.inj (Tryd.func7.symm.trans hfn)).symm
  refine ⟨by kernel_rfl, fun j t ht => ?_⟩
  rw [Tryd.params7] at ht
  have h : t = 49 ∨ t = 57 := by simpa using Array.mem_of_getElem? ht
  rcases h with rfl | rfl
  · exact (show Tryd.prog.wantsStandIn 49 = false by kernel_rfl)
  · exact (show Tryd.prog.wantsStandIn 57 = false by kernel_rfl)

theorem proved : Rows.ScriptPrintsUptoCardSaid :=
  Claim7.holds_tied_plain_at .later [] _ _ _ _ said (fun _ h => by cases h) (by kernel_rfl) (fun _ h => by cases h) scriptPrintsUpto_row_tie rfl ⟨rfl, rfl⟩ (by kernel_rfl) rfl plain (by kernel_rfl)
#print axioms proved
end Go.Proofs.YtiddiboclfpklaaDoor.scriptPrintsUpto
