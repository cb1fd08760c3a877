import Derived.Test.YtiddiboclfpklaaDoorSdTzJ
/- line: an act's words. -/
namespace Go.Proofs.YtiddiboclfpklaaDoor.Tz
open Go.RowKit Go.Proofs.YtiddiboclfpklaaDoorW.PrintWords Go.Proofs.YtiddiboclfpklaaDoor.PScriptReads Go.Proofs.YtiddiboclfpklaaDoor.Tx
set_option linter.unusedVariables false

/-- What holds of an act that is given. -/
structure ActOk (a : S66) : Prop where
  n : I64 a.f0.f1
  f : I64 a.f0.f3.f0
  m : I64 a.f3
  d : a.f0.f2.size ≤ 16777216
  vs : ∀ v ∈ a.f0.f3.f1, I64 v.f0 ∧ v.f1.size ≤ 16777216
  vl : a.f0.f3.f1.length ≤ 16777216
  ms : ∀ x ∈ a.f4, 0 ≤ x ∧ x < 4294967296
  ml : a.f4.length ≤ 16777216

theorem line_calls66 (a : S66) (H : ActOk a) (A4 : Option Addr) (c4 : Nat) (A8 : Option Addr) (c8 : Nat) (w : World)
    (h4 : Kd.C k107 w A4 a.f0.f3.f1.length a.f0.f3.f1) (h8 : Kd.C (Kd.int .u32) w A8 a.f4.length a.f4) :
    Calls Tryd.prog 53 #[actV a A4 c4 A8 c8] w fun e w' => (∃ v, e = .returned v ∧ Kd.R Kd.string 9 w' w.heap.size (fun _ => True) v (lineA a)) ∧ Below w.heap.size w w' := by
  obtain ⟨⟨k, n, d, f, vs⟩, cut, mount, m, ms⟩ := a
  obtain ⟨hn, hf, hm, hd, hvs, hvl, hms, hml⟩ := H
  dsimp only at hn hf hm hd hvs hvl hms hml h4 h8
  cases cut with
  | true => exact line_cut k n d f vs mount m ms A4 c4 A8 c8 w h8 hm hms hml
  | false =>
    cases mount with
    | true => exact line_mount k n d f vs true m ms A4 c4 A8 c8 w
    | false =>
      by_cases h1 : k = 1
      · subst h1; exact line_begin 0 n d f vs m ms A4 c4 A8 c8 w hn
      by_cases h2 : k = 2
      · subst h2; exact line_chunk 0 n d f vs m ms A4 c4 A8 c8 w hd
      by_cases h3 : k = 11
      · subst h3; exact line_keyed11 0 n d f vs m ms A4 c4 A8 c8 w h4 hn hf hvs hvl
      by_cases h4' : k = 12
      · subst h4'; exact line_keyed12 0 n d f vs m ms A4 c4 A8 c8 w h4 hn hf hvs hvl
      by_cases h5 : k = 13
      · subst h5; exact line_keyed13 0 n d f vs m ms A4 c4 A8 c8 w h4 hn hf hvs hvl
      have e : lineA ⟨⟨k, n, d, f, vs⟩, false, false, m, ms⟩ = [wordF k] := by simp [lineA, h1, h2, h3, h4', h5]
      rw [e]
      exact line_none k n d f vs m ms A4 c4 A8 c8 w h1 h2 h3 h4' h5
end Go.Proofs.YtiddiboclfpklaaDoor.Tz
