import Derived.Test.YtiddiboclfpklaaDoorSdTzV
import Derived.Test.YtiddiboclfpklaaDoorSdTzN
import Derived.Test.YtiddiboclfpklaaDoorSdTzL
/- The document's Print, walked. -/
namespace Go.Proofs.YtiddiboclfpklaaDoor.Tz
open Go.RowKit Go.Proofs.YtiddiboclfpklaaDoorW.PrintWords Go.Proofs.YtiddiboclfpklaaDoor.PScriptReads Go.Proofs.YtiddiboclfpklaaDoor.Tx
set_option linter.unusedVariables false
set_option linter.unusedSimpArgs false

theorem line_calls57 (a : S57) (H : ActOk (act66 a)) (hp : plain40 a = true) (A4 : Option Addr) (c4 : Nat) (A8 : Option Addr) (c8 : Nat) (w : World)
    (h4 : Kd.C k107 w A4 a.f0.f3.f1.length a.f0.f3.f1) (h8 : Kd.C (Kd.int .u32) w A8 a.f4.length a.f4) :
    Calls Tryd.prog 54 #[actV57 a A4 c4 A8 c8] w fun e w' => e = .returned (.string (LT (lineA (act66 a)))) ∧ Below w.heap.size w w' := by
  obtain ⟨⟨k, n, d, f, vs⟩, cut, mount, m, ms⟩ := a
  obtain ⟨hn, hf, hm, hd, hvs, hvl, hms, hml⟩ := H
  dsimp only [act66] at hn hf hm hd hvs hvl hms hml h4 h8
  cases cut with
  | true => exact l40_cut k n d f vs m ms A4 c4 A8 c8 w mount h8 hm hms hml
  | false =>
    cases mount with
    | true => exact l40_mount k n d f vs m ms A4 c4 A8 c8 w
    | false =>
      have hr : restB k n d f vs m ms.length = true := hp
      unfold restB at hr
      have h1 : ¬ k < 1 := by
        intro h
        rw [decide_eq_true h] at hr
        simp at hr
      have h2 : ¬ 13 < k := by
        intro h
        rw [decide_eq_true h] at hr
        simp at hr
      have h := l40_op k n d f vs m ms A4 c4 A8 c8 w h4 hn hf hd hvs hvl (by omega) (by omega)
      have e : opL k n d f vs = lineA (act66 ⟨⟨k, n, d, ⟨f, vs⟩⟩, false, false, m, ms⟩) := by
        unfold opL lineA act66
        dsimp only
        rw [if_neg Bool.false_ne_true, if_neg Bool.false_ne_true]
        by_cases c1 : k = 1
        · rw [if_pos c1, if_pos c1]
        · rw [if_neg c1, if_neg c1]
          by_cases c2 : k = 2
          · rw [if_pos c2, if_pos c2]
          · rw [if_neg c2, if_neg c2]
            by_cases c3 : k < 11
            · rw [if_pos c3, if_neg (by omega)]
            · rw [if_neg c3, if_pos (by omega)]
      rw [e] at h
      exact h
/-- The text of lines. -/
def TB (L : List (List ByteArray)) : ByteArray := ⟨(textB L).toArray⟩
theorem TB_size (L : List (List ByteArray)) : (TB L).size = (textB L).length := by show (textB L).toArray.size = _; simp
theorem TB_snoc (L : List (List ByteArray)) (l : List ByteArray) : TB (L ++ [l]) = (TB L ++ LT l) ++ ⟨#[10]⟩ := data_ext (by
  show textB (L ++ [l]) = _
  rw [textB_snoc]
  simp [ByteArray.data_append, TB, LT])
theorem TB_le (a b : List (List ByteArray)) : (TB a).size ≤ (textB (a ++ b)).length := by
  rw [TB_size]
  unfold textB
  rw [List.flatMap_append, List.length_append]
  omega
theorem head_text (g0 g1 g2 g3 g4 g5 : Int) : TB [headF g0 g1 g2 g3 g4 g5] = (((((((((((((⟨#[100, 101, 118, 105, 99, 101, 32]⟩ : ByteArray) ++ decW g0) ++ ⟨#[32]⟩) ++ decW g1) ++ ⟨#[32]⟩) ++ decW g2) ++ ⟨#[32]⟩) ++ decW g3) ++ ⟨#[32]⟩) ++ decW g4) ++ ⟨#[32]⟩) ++ decW g5) ++ ⟨#[10]⟩) := data_ext (by
  show textB _ = _
  simp [textB, lineB, headF, ByteArray.data_append])
theorem parcel_text (L : List (List ByteArray)) (B : ByteArray) : TB (L ++ [parcelF B]) = ((TB L ++ ⟨#[112, 97, 114, 99, 101, 108, 32]⟩) ++ hexF B) ++ ⟨#[10]⟩ := by
  rw [TB_snoc]
  refine data_ext ?_
  simp [parcelF, lineB, LT, ByteArray.data_append]
/-- The script's box and the geometry's, and nothing elder touched. -/
structure PB (w wr : World) (cs ge : Array Value) : Prop where
  box : wr.heap[w.heap.size]? = some (.cells cs 49 (0, 0))
  geo : wr.heap[w.heap.size + 1]? = some (.cells ge 46 (0, 0))
  bel : Below w.heap.size w wr
theorem PB.below {w wr w2 : World} {cs ge : Array Value} (S : PB w wr cs ge) (hb : Below wr.heap.size wr w2) : PB w w2 cs ge := ⟨blk_below S.box hb, blk_below S.geo hb, S.bel.trans (hb.mono S.bel.size)⟩
theorem PB.new (w : World) (cs ge : Array Value) : PB w ((w.alloc (.cells cs 49)).alloc (.cells ge 46)) cs ge := ⟨blk_alloc (blk_new w _) _, by have h := blk_new (w.alloc (.cells cs 49)) (.cells ge 46); rw [World.size_alloc] at h; exact h, below_alloc (below_alloc (Below.refl _ _) _) _⟩
theorem PB.drew {w wr : World} {cs ge : Array Value} (S : PB w wr cs ge) : PB w wr.drew cs ge := ⟨S.box, S.geo, below_drew1 S.bel⟩
theorem PB.drewN {w wr : World} {cs ge : Array Value} (S : PB w wr cs ge) (n : Nat) : PB w (wr.drewN n) cs ge := ⟨S.box, S.geo, pw_below_drewN S.bel n⟩
/-- What the document's Print makes. -/
def print40F (g0 g1 g2 g3 g4 g5 : Int) (B : ByteArray) (ls : List S57) : ByteArray × Int :=
  if ls.all plain40 then (TB (rowsOf g0 g1 g2 g3 g4 g5 B (ls.map act66)), 0) else (⟨#[]⟩, 2)

set_option maxHeartbeats 8000000 in
set_option maxRecDepth 100000 in
theorem print40_calls (g0 g1 g2 g3 g4 g5 : Int) (B : ByteArray) (ls : List S57) (A : Option Addr) (c : Nat) (w : World) (hr : Kd.C k57 w A ls.length ls) (hg : I64 g0 ∧ I64 g1 ∧ I64 g2 ∧ I64 g3 ∧ I64 g4 ∧ I64 g5) (hB : B.size ≤ 16777216) (hls : ∀ a ∈ ls, ActOk (act66 a)) (hl : ls.length ≤ 16777216) (hT : (textB (rowsOf g0 g1 g2 g3 g4 g5 B (ls.map act66))).length ≤ 16777216) :
    Calls Tryd.prog 28 #[.agg #[.int .i64 g0, .int .i64 g1, .int .i64 g2, .int .i64 g3, .int .i64 g4, .int .i64 g5, .string B, .slice A ls.length c]] w fun e w' => e = .returned (.tuple #[.string (print40F g0 g1 g2 g3 g4 g5 B ls).1, .int .i64 (print40F g0 g1 g2 g3 g4 g5 B ls).2]) ∧ Below w.heap.size w w' := by
  have HR := Aside0.mk hr
  have HOK := Aside0.mk hls
  have HSZ := Aside0.mk hT
  clear hr hls hT
  obtain ⟨n, hn⟩ : ∃ n, ls.length = n := ⟨_, rfl⟩
  rw [hn] at HR hl ⊢
  have HN := Aside0.mk hn
  clear hn
  obtain ⟨hg0, hg1, hg2, hg3, hg4, hg5⟩ := hg
  have hz0 := decW_size g0 hg0
  have hz1 := decW_size g1 hg1
  have hz2 := decW_size g2 hg2
  have hz3 := decW_size g3 hg3
  have hz4 := decW_size g4 hg4
  have hz5 := decW_size g5 hg5
  have hth := head_text g0 g1 g2 g3 g4 g5
  obtain ⟨e0, he0⟩ : ∃ e0, decW g0 = e0 := ⟨_, rfl⟩
  have HD0 : Aside0 (∀ W, Calls Tryd.prog 13 #[.int .i64 g0] W fun e w' => e = .returned (.string e0) ∧ Below W.heap.size W w') := ⟨fun W => by rw [← he0]; exact r04_dec_calls g0 hg0 W⟩
  rw [he0] at hz0 hth
  obtain ⟨e1, he1⟩ : ∃ e1, decW g1 = e1 := ⟨_, rfl⟩
  have HD1 : Aside0 (∀ W, Calls Tryd.prog 13 #[.int .i64 g1] W fun e w' => e = .returned (.string e1) ∧ Below W.heap.size W w') := ⟨fun W => by rw [← he1]; exact r04_dec_calls g1 hg1 W⟩
  rw [he1] at hz1 hth
  obtain ⟨e2, he2⟩ : ∃ e2, decW g2 = e2 := ⟨_, rfl⟩
  have HD2 : Aside0 (∀ W, Calls Tryd.prog 13 #[.int .i64 g2] W fun e w' => e = .returned (.string e2) ∧ Below W.heap.size W w') := ⟨fun W => by rw [← he2]; exact r04_dec_calls g2 hg2 W⟩
  rw [he2] at hz2 hth
  obtain ⟨e3, he3⟩ : ∃ e3, decW g3 = e3 := ⟨_, rfl⟩
  have HD3 : Aside0 (∀ W, Calls Tryd.prog 13 #[.int .i64 g3] W fun e w' => e = .returned (.string e3) ∧ Below W.heap.size W w') := ⟨fun W => by rw [← he3]; exact r04_dec_calls g3 hg3 W⟩
  rw [he3] at hz3 hth
  obtain ⟨e4, he4⟩ : ∃ e4, decW g4 = e4 := ⟨_, rfl⟩
  have HD4 : Aside0 (∀ W, Calls Tryd.prog 13 #[.int .i64 g4] W fun e w' => e = .returned (.string e4) ∧ Below W.heap.size W w') := ⟨fun W => by rw [← he4]; exact r04_dec_calls g4 hg4 W⟩
  rw [he4] at hz4 hth
  obtain ⟨e5, he5⟩ : ∃ e5, decW g5 = e5 := ⟨_, rfl⟩
  have HD5 : Aside0 (∀ W, Calls Tryd.prog 13 #[.int .i64 g5] W fun e w' => e = .returned (.string e5) ∧ Below W.heap.size W w') := ⟨fun W => by rw [← he5]; exact r04_dec_calls g5 hg5 W⟩
  rw [he5] at hz5 hth
  have hzx := hexF_size B
  have HX : Aside0 (∀ W, Calls Tryd.prog 18 #[.string B] W fun e w' => e = .returned (.string (hexF B)) ∧ Below W.heap.size W w') := ⟨fun W => (r04_hex_calls B hB W).mono fun e w' h => ⟨h.1, h.2.below⟩⟩
  have hpt := parcel_text [headF g0 g1 g2 g3 g4 g5] B
  rw [hth] at hpt
  obtain ⟨hx, hhx⟩ : ∃ hx, hexF B = hx := ⟨_, rfl⟩
  rw [hhx] at hzx HX hpt
  have hs7 : (⟨#[100, 101, 118, 105, 99, 101, 32]⟩ : ByteArray).size = 7 := rfl
  have q0a : 7 + e0.size ≤ 9223372036854775807 := by omega
  have q0ab0 := eq_true q0a
  have q0ab1 : decide (7 + e0.size ≤ 9223372036854775807) = true := decide_eq_true q0a
  have q0ab2 : (9223372036854775807 < 7 + e0.size) = False := eq_false (Nat.not_lt.2 q0a)
  have q0b : 7 + e0.size + 1 ≤ 9223372036854775807 := by omega
  have q0bb0 := eq_true q0b
  have q0bb1 : decide (7 + e0.size + 1 ≤ 9223372036854775807) = true := decide_eq_true q0b
  have q0bb2 : (9223372036854775807 < 7 + e0.size + 1) = False := eq_false (Nat.not_lt.2 q0b)
  have q1a : 7 + e0.size + 1 + e1.size ≤ 9223372036854775807 := by omega
  have q1ab0 := eq_true q1a
  have q1ab1 : decide (7 + e0.size + 1 + e1.size ≤ 9223372036854775807) = true := decide_eq_true q1a
  have q1ab2 : (9223372036854775807 < 7 + e0.size + 1 + e1.size) = False := eq_false (Nat.not_lt.2 q1a)
  have q1b : 7 + e0.size + 1 + e1.size + 1 ≤ 9223372036854775807 := by omega
  have q1bb0 := eq_true q1b
  have q1bb1 : decide (7 + e0.size + 1 + e1.size + 1 ≤ 9223372036854775807) = true := decide_eq_true q1b
  have q1bb2 : (9223372036854775807 < 7 + e0.size + 1 + e1.size + 1) = False := eq_false (Nat.not_lt.2 q1b)
  have q2a : 7 + e0.size + 1 + e1.size + 1 + e2.size ≤ 9223372036854775807 := by omega
  have q2ab0 := eq_true q2a
  have q2ab1 : decide (7 + e0.size + 1 + e1.size + 1 + e2.size ≤ 9223372036854775807) = true := decide_eq_true q2a
  have q2ab2 : (9223372036854775807 < 7 + e0.size + 1 + e1.size + 1 + e2.size) = False := eq_false (Nat.not_lt.2 q2a)
  have q2b : 7 + e0.size + 1 + e1.size + 1 + e2.size + 1 ≤ 9223372036854775807 := by omega
  have q2bb0 := eq_true q2b
  have q2bb1 : decide (7 + e0.size + 1 + e1.size + 1 + e2.size + 1 ≤ 9223372036854775807) = true := decide_eq_true q2b
  have q2bb2 : (9223372036854775807 < 7 + e0.size + 1 + e1.size + 1 + e2.size + 1) = False := eq_false (Nat.not_lt.2 q2b)
  have q3a : 7 + e0.size + 1 + e1.size + 1 + e2.size + 1 + e3.size ≤ 9223372036854775807 := by omega
  have q3ab0 := eq_true q3a
  have q3ab1 : decide (7 + e0.size + 1 + e1.size + 1 + e2.size + 1 + e3.size ≤ 9223372036854775807) = true := decide_eq_true q3a
  have q3ab2 : (9223372036854775807 < 7 + e0.size + 1 + e1.size + 1 + e2.size + 1 + e3.size) = False := eq_false (Nat.not_lt.2 q3a)
  have q3b : 7 + e0.size + 1 + e1.size + 1 + e2.size + 1 + e3.size + 1 ≤ 9223372036854775807 := by omega
  have q3bb0 := eq_true q3b
  have q3bb1 : decide (7 + e0.size + 1 + e1.size + 1 + e2.size + 1 + e3.size + 1 ≤ 9223372036854775807) = true := decide_eq_true q3b
  have q3bb2 : (9223372036854775807 < 7 + e0.size + 1 + e1.size + 1 + e2.size + 1 + e3.size + 1) = False := eq_false (Nat.not_lt.2 q3b)
  have q4a : 7 + e0.size + 1 + e1.size + 1 + e2.size + 1 + e3.size + 1 + e4.size ≤ 9223372036854775807 := by omega
  have q4ab0 := eq_true q4a
  have q4ab1 : decide (7 + e0.size + 1 + e1.size + 1 + e2.size + 1 + e3.size + 1 + e4.size ≤ 9223372036854775807) = true := decide_eq_true q4a
  have q4ab2 : (9223372036854775807 < 7 + e0.size + 1 + e1.size + 1 + e2.size + 1 + e3.size + 1 + e4.size) = False := eq_false (Nat.not_lt.2 q4a)
  have q4b : 7 + e0.size + 1 + e1.size + 1 + e2.size + 1 + e3.size + 1 + e4.size + 1 ≤ 9223372036854775807 := by omega
  have q4bb0 := eq_true q4b
  have q4bb1 : decide (7 + e0.size + 1 + e1.size + 1 + e2.size + 1 + e3.size + 1 + e4.size + 1 ≤ 9223372036854775807) = true := decide_eq_true q4b
  have q4bb2 : (9223372036854775807 < 7 + e0.size + 1 + e1.size + 1 + e2.size + 1 + e3.size + 1 + e4.size + 1) = False := eq_false (Nat.not_lt.2 q4b)
  have q5a : 7 + e0.size + 1 + e1.size + 1 + e2.size + 1 + e3.size + 1 + e4.size + 1 + e5.size ≤ 9223372036854775807 := by omega
  have q5ab0 := eq_true q5a
  have q5ab1 : decide (7 + e0.size + 1 + e1.size + 1 + e2.size + 1 + e3.size + 1 + e4.size + 1 + e5.size ≤ 9223372036854775807) = true := decide_eq_true q5a
  have q5ab2 : (9223372036854775807 < 7 + e0.size + 1 + e1.size + 1 + e2.size + 1 + e3.size + 1 + e4.size + 1 + e5.size) = False := eq_false (Nat.not_lt.2 q5a)
  have q5b : 7 + e0.size + 1 + e1.size + 1 + e2.size + 1 + e3.size + 1 + e4.size + 1 + e5.size + 1 ≤ 9223372036854775807 := by omega
  have q5bb0 := eq_true q5b
  have q5bb1 : decide (7 + e0.size + 1 + e1.size + 1 + e2.size + 1 + e3.size + 1 + e4.size + 1 + e5.size + 1 ≤ 9223372036854775807) = true := decide_eq_true q5b
  have q5bb2 : (9223372036854775807 < 7 + e0.size + 1 + e1.size + 1 + e2.size + 1 + e3.size + 1 + e4.size + 1 + e5.size + 1) = False := eq_false (Nat.not_lt.2 q5b)
  have q7a : 7 + e0.size + 1 + e1.size + 1 + e2.size + 1 + e3.size + 1 + e4.size + 1 + e5.size + 1 + 7 ≤ 9223372036854775807 := by omega
  have q7b : 7 + e0.size + 1 + e1.size + 1 + e2.size + 1 + e3.size + 1 + e4.size + 1 + e5.size + 1 + 7 + hx.size ≤ 9223372036854775807 := by omega
  have q7c : 7 + e0.size + 1 + e1.size + 1 + e2.size + 1 + e3.size + 1 + e4.size + 1 + e5.size + 1 + 7 + hx.size + 1 ≤ 9223372036854775807 := by omega
  have q7ab0 := eq_true q7a
  have q7ab1 : decide (7 + e0.size + 1 + e1.size + 1 + e2.size + 1 + e3.size + 1 + e4.size + 1 + e5.size + 1 + 7 ≤ 9223372036854775807) = true := decide_eq_true q7a
  have q7ab2 : (9223372036854775807 < 7 + e0.size + 1 + e1.size + 1 + e2.size + 1 + e3.size + 1 + e4.size + 1 + e5.size + 1 + 7) = False := eq_false (Nat.not_lt.2 q7a)
  have q7bb0 := eq_true q7b
  have q7bb1 : decide (7 + e0.size + 1 + e1.size + 1 + e2.size + 1 + e3.size + 1 + e4.size + 1 + e5.size + 1 + 7 + hx.size ≤ 9223372036854775807) = true := decide_eq_true q7b
  have q7bb2 : (9223372036854775807 < 7 + e0.size + 1 + e1.size + 1 + e2.size + 1 + e3.size + 1 + e4.size + 1 + e5.size + 1 + 7 + hx.size) = False := eq_false (Nat.not_lt.2 q7b)
  have q7cb0 := eq_true q7c
  have q7cb1 : decide (7 + e0.size + 1 + e1.size + 1 + e2.size + 1 + e3.size + 1 + e4.size + 1 + e5.size + 1 + 7 + hx.size + 1 ≤ 9223372036854775807) = true := decide_eq_true q7c
  have q7cb2 : (9223372036854775807 < 7 + e0.size + 1 + e1.size + 1 + e2.size + 1 + e3.size + 1 + e4.size + 1 + e5.size + 1 + 7 + hx.size + 1) = False := eq_false (Nat.not_lt.2 q7c)
  have HTH := Aside0.mk hpt
  clear hth hpt hzx hhx hB hs7 hz0 he0 hg0 hz1 he1 hg1 hz2 he2 hg2 hz3 he3 hg3 hz4 he4 hg4 hz5 he5 hg5
  have B0 := Aside0.mk (PB.new w #[.int .i64 g0, .int .i64 g1, .int .i64 g2, .int .i64 g3, .int .i64 g4, .int .i64 g5, .string B, .slice A n c] #[.int .i64 g0, .int .i64 g1, .int .i64 g2, .int .i64 g3, .int .i64 g4, .int .i64 g5])
  go_enter Tryd.func28, Tryd.ntmps28
  go_upto_region 2 with (fail)
  go_region_held3 (fun w' => w'.cell? ⟨w.heap.size + 1, 0, none⟩ = some (.int .i64 g0) ∧ w'.cell? ⟨w.heap.size + 1, 1, none⟩ = some (.int .i64 g1) ∧ w'.cell? ⟨w.heap.size + 1, 2, none⟩ = some (.int .i64 g2) ∧ w'.cell? ⟨w.heap.size + 1, 3, none⟩ = some (.int .i64 g3) ∧ w'.cell? ⟨w.heap.size + 1, 4, none⟩ = some (.int .i64 g4) ∧ w'.cell? ⟨w.heap.size + 1, 5, none⟩ = some (.int .i64 g5))
    (first | go_keep | exact ⟨v00, v01, v02, v03, v04, v05⟩ | exact ⟨v10, v11, v12, v13, v14, v15⟩ | exact ⟨v20, v21, v22, v23, v24, v25⟩ | exact ⟨v30, v31, v32, v33, v34, v35⟩ | exact ⟨v40, v41, v42, v43, v44, v45⟩ | exact ⟨v50, v51, v52, v53, v54, v55⟩)
    ((first
      | (go_at_call 13; (with_reducible refine (HD5.out _).mono ?_); rintro e w6 ⟨rfl, hB⟩; have P5 := Aside0.mk (PB.below (by with_reducible repeat (first | exact P4.out | apply PB.drew | apply PB.drewN)) hB); clear hB; have v50 : w6.cell? ⟨w.heap.size + 1, 0, none⟩ = some (.int .i64 g0) := (blk_cell P5.out.geo 0).trans rfl; have v51 : w6.cell? ⟨w.heap.size + 1, 1, none⟩ = some (.int .i64 g1) := (blk_cell P5.out.geo 1).trans rfl; have v52 : w6.cell? ⟨w.heap.size + 1, 2, none⟩ = some (.int .i64 g2) := (blk_cell P5.out.geo 2).trans rfl; have v53 : w6.cell? ⟨w.heap.size + 1, 3, none⟩ = some (.int .i64 g3) := (blk_cell P5.out.geo 3).trans rfl; have v54 : w6.cell? ⟨w.heap.size + 1, 4, none⟩ = some (.int .i64 g4) := (blk_cell P5.out.geo 4).trans rfl; have v55 : w6.cell? ⟨w.heap.size + 1, 5, none⟩ = some (.int .i64 g5) := (blk_cell P5.out.geo 5).trans rfl)
      | (go_at_call 13; (with_reducible refine (HD4.out _).mono ?_); rintro e w5 ⟨rfl, hB⟩; have P4 := Aside0.mk (PB.below (by with_reducible repeat (first | exact P3.out | apply PB.drew | apply PB.drewN)) hB); clear hB; have v40 : w5.cell? ⟨w.heap.size + 1, 0, none⟩ = some (.int .i64 g0) := (blk_cell P4.out.geo 0).trans rfl; have v41 : w5.cell? ⟨w.heap.size + 1, 1, none⟩ = some (.int .i64 g1) := (blk_cell P4.out.geo 1).trans rfl; have v42 : w5.cell? ⟨w.heap.size + 1, 2, none⟩ = some (.int .i64 g2) := (blk_cell P4.out.geo 2).trans rfl; have v43 : w5.cell? ⟨w.heap.size + 1, 3, none⟩ = some (.int .i64 g3) := (blk_cell P4.out.geo 3).trans rfl; have v44 : w5.cell? ⟨w.heap.size + 1, 4, none⟩ = some (.int .i64 g4) := (blk_cell P4.out.geo 4).trans rfl; have v45 : w5.cell? ⟨w.heap.size + 1, 5, none⟩ = some (.int .i64 g5) := (blk_cell P4.out.geo 5).trans rfl)
      | (go_at_call 13; (with_reducible refine (HD3.out _).mono ?_); rintro e w4 ⟨rfl, hB⟩; have P3 := Aside0.mk (PB.below (by with_reducible repeat (first | exact P2.out | apply PB.drew | apply PB.drewN)) hB); clear hB; have v30 : w4.cell? ⟨w.heap.size + 1, 0, none⟩ = some (.int .i64 g0) := (blk_cell P3.out.geo 0).trans rfl; have v31 : w4.cell? ⟨w.heap.size + 1, 1, none⟩ = some (.int .i64 g1) := (blk_cell P3.out.geo 1).trans rfl; have v32 : w4.cell? ⟨w.heap.size + 1, 2, none⟩ = some (.int .i64 g2) := (blk_cell P3.out.geo 2).trans rfl; have v33 : w4.cell? ⟨w.heap.size + 1, 3, none⟩ = some (.int .i64 g3) := (blk_cell P3.out.geo 3).trans rfl; have v34 : w4.cell? ⟨w.heap.size + 1, 4, none⟩ = some (.int .i64 g4) := (blk_cell P3.out.geo 4).trans rfl; have v35 : w4.cell? ⟨w.heap.size + 1, 5, none⟩ = some (.int .i64 g5) := (blk_cell P3.out.geo 5).trans rfl)
      | (go_at_call 13; (with_reducible refine (HD2.out _).mono ?_); rintro e w3 ⟨rfl, hB⟩; have P2 := Aside0.mk (PB.below (by with_reducible repeat (first | exact P1.out | apply PB.drew | apply PB.drewN)) hB); clear hB; have v20 : w3.cell? ⟨w.heap.size + 1, 0, none⟩ = some (.int .i64 g0) := (blk_cell P2.out.geo 0).trans rfl; have v21 : w3.cell? ⟨w.heap.size + 1, 1, none⟩ = some (.int .i64 g1) := (blk_cell P2.out.geo 1).trans rfl; have v22 : w3.cell? ⟨w.heap.size + 1, 2, none⟩ = some (.int .i64 g2) := (blk_cell P2.out.geo 2).trans rfl; have v23 : w3.cell? ⟨w.heap.size + 1, 3, none⟩ = some (.int .i64 g3) := (blk_cell P2.out.geo 3).trans rfl; have v24 : w3.cell? ⟨w.heap.size + 1, 4, none⟩ = some (.int .i64 g4) := (blk_cell P2.out.geo 4).trans rfl; have v25 : w3.cell? ⟨w.heap.size + 1, 5, none⟩ = some (.int .i64 g5) := (blk_cell P2.out.geo 5).trans rfl)
      | (go_at_call 13; (with_reducible refine (HD1.out _).mono ?_); rintro e w2 ⟨rfl, hB⟩; have P1 := Aside0.mk (PB.below (by with_reducible repeat (first | exact P0.out | apply PB.drew | apply PB.drewN)) hB); clear hB; have v10 : w2.cell? ⟨w.heap.size + 1, 0, none⟩ = some (.int .i64 g0) := (blk_cell P1.out.geo 0).trans rfl; have v11 : w2.cell? ⟨w.heap.size + 1, 1, none⟩ = some (.int .i64 g1) := (blk_cell P1.out.geo 1).trans rfl; have v12 : w2.cell? ⟨w.heap.size + 1, 2, none⟩ = some (.int .i64 g2) := (blk_cell P1.out.geo 2).trans rfl; have v13 : w2.cell? ⟨w.heap.size + 1, 3, none⟩ = some (.int .i64 g3) := (blk_cell P1.out.geo 3).trans rfl; have v14 : w2.cell? ⟨w.heap.size + 1, 4, none⟩ = some (.int .i64 g4) := (blk_cell P1.out.geo 4).trans rfl; have v15 : w2.cell? ⟨w.heap.size + 1, 5, none⟩ = some (.int .i64 g5) := (blk_cell P1.out.geo 5).trans rfl)
      | (go_at_call 13; (with_reducible refine (HD0.out _).mono ?_); rintro e w1 ⟨rfl, hB⟩; have P0 := Aside0.mk (PB.below (by with_reducible repeat (first | exact B0.out | apply PB.drew | apply PB.drewN)) hB); clear hB; have v00 : w1.cell? ⟨w.heap.size + 1, 0, none⟩ = some (.int .i64 g0) := (blk_cell P0.out.geo 0).trans rfl; have v01 : w1.cell? ⟨w.heap.size + 1, 1, none⟩ = some (.int .i64 g1) := (blk_cell P0.out.geo 1).trans rfl; have v02 : w1.cell? ⟨w.heap.size + 1, 2, none⟩ = some (.int .i64 g2) := (blk_cell P0.out.geo 2).trans rfl; have v03 : w1.cell? ⟨w.heap.size + 1, 3, none⟩ = some (.int .i64 g3) := (blk_cell P0.out.geo 3).trans rfl; have v04 : w1.cell? ⟨w.heap.size + 1, 4, none⟩ = some (.int .i64 g4) := (blk_cell P0.out.geo 4).trans rfl; have v05 : w1.cell? ⟨w.heap.size + 1, 5, none⟩ = some (.int .i64 g5) := (blk_cell P0.out.geo 5).trans rfl)
      | fail))
  have u6 : w6.cell? ⟨w.heap.size, 6, none⟩ = some (.string B) := (blk_cell P5.out.box 6).trans rfl
  go_wp2_with ((go_at_call 18; (with_reducible refine (HX.out _).mono ?_); rintro e w7 ⟨rfl, hB⟩; have P6 := Aside0.mk (P5.out.below hB); clear hB))
  clear q0a q0ab0 q0ab1 q0ab2 q0b q0bb0 q0bb1 q0bb2 q1a q1ab0 q1ab1 q1ab2 q1b q1bb0 q1bb1 q1bb2 q2a q2ab0 q2ab1 q2ab2 q2b q2bb0 q2bb1 q2bb2 q3a q3ab0 q3ab1 q3ab2 q3b q3bb0 q3bb1 q3bb2 q4a q4ab0 q4ab1 q4ab2 q4b q4bb0 q4bb1 q4bb2 q5a q5ab0 q5ab1 q5ab2 q5b q5bb0 q5bb1 q5bb2 q7a q7ab0 q7ab1 q7ab2 q7b q7bb0 q7bb1 q7bb2 q7c q7cb0 q7cb1 q7cb2 v00 v01 v02 v03 v04 v05 v10 v11 v12 v13 v14 v15 v20 v21 v22 v23 v24 v25 v30 v31 v32 v33 v34 v35 v40 v41 v42 v43 v44 v45 v50 v51 v52 v53 v54 v55 u6 P0 P1 P2 P3 P4 P5 B0
  go_loopw [5, 6] (fun v i wr => ∃ (t : Nat) (s : ByteArray), t ≤ n ∧ v = .string s ∧ i = .int .i64 (t : Int) ∧ Aside0 (PB w wr #[.int .i64 g0, .int .i64 g1, .int .i64 g2, .int .i64 g3, .int .i64 g4, .int .i64 g5, .string B, .slice A n c] #[.int .i64 g0, .int .i64 g1, .int .i64 g2, .int .i64 g3, .int .i64 g4, .int .i64 g5] ∧ s = TB (rowsOf g0 g1 g2 g3 g4 g5 B ((ls.take t).map act66)) ∧ (ls.take t).all plain40 = true)) (fun _ i _ => n - (intOf i).toNat)
  case atStart => exact ⟨0, _, by omega, rfl, rfl, ⟨P6.out, HTH.out.symm, by simp⟩⟩
  case round =>
    clear P6 HTH
    obtain ⟨t, s, ht, rfl, rfl, S⟩ := hrel
    have u7 : wr.cell? ⟨w.heap.size, 7, none⟩ = some (.slice A n c) := (blk_cell S.out.1.box 7).trans rfl
    by_cases hlt : t < n
    · have hb5 : (0 : Int) ≤ (t : Int) := by omega
      have hb6 : (t : Int) < (n : Int) := by omega
      obtain ⟨ad, A4, c4, A8, c8, rfl, hc0, hc1, hc2, hc3, hc4, hc5, hc6, hc7, hc8, l4, r4, l8, r8⟩ := at_T57 (Kd.C_below HR.out S.out.1.bel) (t : Int) hb5 hb6
      rw [Int.toNat_natCast] at hc0 hc1 hc2 hc3 hc4 hc5 hc6 hc7 hc8
      obtain ⟨x, hx⟩ : ∃ x, rd_T57 ls (t : Int) = x := ⟨_, rfl⟩
      rw [hx] at hc0 hc1 hc2 hc3 hc4 hc5 hc6 hc7 hc8 l4 r4 l8 r8
      have htl : t < ls.length := by rw [HN.out]; exact hlt
      have hxe : ls[t] = x := by rw [← hx]; simp [rd_T57, List.getD_eq_getElem?_getD, htl]
      have hok := HOK.out x (by rw [← hxe]; exact List.getElem_mem htl)
      have htm : (ls.take (t + 1)).map act66 = (ls.take t).map act66 ++ [act66 x] := by rw [List.take_succ_eq_append_getElem htl, hxe, List.map_append]; rfl
      have htk : TB (rowsOf g0 g1 g2 g3 g4 g5 B ((ls.take (t + 1)).map act66)) = (s ++ LT (lineA (act66 x))) ++ ⟨#[10]⟩ := by
        rw [htm, S.out.2.1]
        unfold rowsOf
        rw [List.map_append, ← List.cons_append, ← List.cons_append]
        exact TB_snoc _ _
      have hta : (ls.take (t + 1)).all plain40 = plain40 x := by
        rw [List.take_succ_eq_append_getElem htl, List.all_append, S.out.2.2, Bool.true_and, hxe]; simp
      have hno : plain40 x = false → ls.all plain40 = false := by
        intro h0
        rw [← Bool.not_eq_true, List.all_eq_true]
        intro h1
        have := h1 ls[t] (List.getElem_mem htl)
        rw [hxe, h0] at this
        cases this
      have hle : (TB (rowsOf g0 g1 g2 g3 g4 g5 B ((ls.take (t + 1)).map act66))).size ≤ 16777216 := by
        have h := TB_le (rowsOf g0 g1 g2 g3 g4 g5 B ((ls.take (t + 1)).map act66)) (((ls.drop (t + 1)).map act66).map lineA)
        have e : rowsOf g0 g1 g2 g3 g4 g5 B ((ls.take (t + 1)).map act66) ++ ((ls.drop (t + 1)).map act66).map lineA = rowsOf g0 g1 g2 g3 g4 g5 B (ls.map act66) := by
          unfold rowsOf
          rw [List.cons_append, List.cons_append, ← List.map_append, ← List.map_append, List.take_append_drop]
        rw [e] at h
        exact Nat.le_trans h HSZ.out
      rw [htk, ByteArray.size_append, ByteArray.size_append] at hle
      have HPl : Aside0 (∀ W, Below wr.heap.size wr W → Calls Tryd.prog 30 #[actV57 x A4 c4 A8 c8] W fun e w' => e = .returned (.bool (plain40 x)) ∧ Below W.heap.size W w') := ⟨fun W hb => plain_calls57 x A4 c4 A8 c8 W (Kd.C_below r4 hb) l4 (Kd.C_below r8 hb) l8 hok.vl hok.ml⟩
      have HLn : Aside0 (plain40 x = true → ∀ W, Below wr.heap.size wr W → Calls Tryd.prog 54 #[actV57 x A4 c4 A8 c8] W fun e w' => e = .returned (.string (LT (lineA (act66 x)))) ∧ Below W.heap.size W w') := ⟨fun hp W hb => line_calls57 x hok hp A4 c4 A8 c8 W (Kd.C_below r4 hb) (Kd.C_below r8 hb)⟩
      obtain ⟨lx, hlx⟩ : ∃ lx, LT (lineA (act66 x)) = lx := ⟨_, rfl⟩
      obtain ⟨px, hpx⟩ : ∃ px, plain40 x = px := ⟨_, rfl⟩
      rw [hlx] at htk HLn hle
      rw [hpx] at hta hno HPl HLn
      have hle1 : s.size + lx.size ≤ 9223372036854775807 := by omega
      have hle2 : (s ++ lx).size + 1 ≤ 9223372036854775807 := by
        rw [ByteArray.size_append]
        have : (⟨#[10]⟩ : ByteArray).size = 1 := rfl
        omega
      have hle3 : s.size + lx.size + 1 ≤ 9223372036854775807 := by
        have : (⟨#[10]⟩ : ByteArray).size = 1 := rfl
        omega
      have HT := Aside0.mk (And.intro htk hta)
      have HNO := Aside0.mk hno
      clear hx hxe htl hok htm htk hta hno hlx hpx l4 r4 l8 r8 hle
      obtain ⟨⟨k, n1, d, f, vs⟩, cut, mount, m, ms⟩ := x
      replace hc0 : wr.cell? (ad.add (t * 9)) = some (.int .i64 k) := hc0
      replace hc1 : wr.cell? ⟨(ad.add (t * 9)).block, (ad.add (t * 9)).off + 1, none⟩ = some (.int .i64 n1) := hc1
      replace hc2 : wr.cell? ⟨(ad.add (t * 9)).block, (ad.add (t * 9)).off + 2, none⟩ = some (.string d) := hc2
      replace hc3 : wr.cell? ⟨(ad.add (t * 9)).block, (ad.add (t * 9)).off + 3, none⟩ = some (.int .i64 f) := hc3
      replace hc4 : wr.cell? ⟨(ad.add (t * 9)).block, (ad.add (t * 9)).off + 4, none⟩ = some (.slice A4 vs.length c4) := hc4
      replace hc5 : wr.cell? ⟨(ad.add (t * 9)).block, (ad.add (t * 9)).off + 5, none⟩ = some (.bool cut) := hc5
      replace hc6 : wr.cell? ⟨(ad.add (t * 9)).block, (ad.add (t * 9)).off + 6, none⟩ = some (.bool mount) := hc6
      replace hc7 : wr.cell? ⟨(ad.add (t * 9)).block, (ad.add (t * 9)).off + 7, none⟩ = some (.int .i64 m) := hc7
      replace hc8 : wr.cell? ⟨(ad.add (t * 9)).block, (ad.add (t * 9)).off + 8, none⟩ = some (.slice A8 ms.length c8) := hc8
      replace HPl : Aside0 (∀ W, Below wr.heap.size wr W → Calls Tryd.prog 30 #[.agg #[.int .i64 k, .int .i64 n1, .string d, .int .i64 f, .slice A4 vs.length c4, .bool cut, .bool mount, .int .i64 m, .slice A8 ms.length c8]] W fun e w' => e = .returned (.bool px) ∧ Below W.heap.size W w') := HPl
      replace HLn : Aside0 (px = true → ∀ W, Below wr.heap.size wr W → Calls Tryd.prog 54 #[.agg #[.int .i64 k, .int .i64 n1, .string d, .int .i64 f, .slice A4 vs.length c4, .bool cut, .bool mount, .int .i64 m, .slice A8 ms.length c8]] W fun e w' => e = .returned (.string lx) ∧ Below W.heap.size W w') := HLn
      cases px with
      | false =>
        have HP : Aside0 (print40F g0 g1 g2 g3 g4 g5 B ls = (⟨#[]⟩, 2)) := ⟨by unfold print40F; rw [HNO.out rfl]; rfl⟩
        clear HNO HT HLn
        go_wp2_with ((go_at_call 30; (with_reducible refine (HPl.out _ (Below.refl _ _)).mono ?_); rintro e w8 ⟨rfl, hB⟩; have B2 := Aside0.mk (S.out.1.bel.trans (hB.mono S.out.1.bel.size)); clear hB))
        go_ret2
        rw [HP.out]
        exact ⟨rfl, B2.out⟩
      | true =>
        clear HNO
        replace HLn := Aside0.mk (HLn.out rfl)
        go_wp2_with (first
          | (go_at_call 30; (with_reducible refine (HPl.out _ (Below.refl _ _)).mono ?_); rintro e w8 ⟨rfl, hB⟩; have HW := Aside0.mk hB; have P8 := Aside0.mk (S.out.1.below hB); have v7 : w8.cell? ⟨w.heap.size, 7, none⟩ = some (.slice (some ad) n c) := (blk_cell P8.out.box 7).trans rfl; have y0 : w8.cell? (ad.add (t * 9)) = some (.int .i64 k) := pw_cell_below hB hc0; have y1 : w8.cell? ⟨(ad.add (t * 9)).block, (ad.add (t * 9)).off + 1, none⟩ = some (.int .i64 n1) := pw_cell_below hB hc1; have y2 : w8.cell? ⟨(ad.add (t * 9)).block, (ad.add (t * 9)).off + 2, none⟩ = some (.string d) := pw_cell_below hB hc2; have y3 : w8.cell? ⟨(ad.add (t * 9)).block, (ad.add (t * 9)).off + 3, none⟩ = some (.int .i64 f) := pw_cell_below hB hc3; have y4 : w8.cell? ⟨(ad.add (t * 9)).block, (ad.add (t * 9)).off + 4, none⟩ = some (.slice A4 vs.length c4) := pw_cell_below hB hc4; have y5 : w8.cell? ⟨(ad.add (t * 9)).block, (ad.add (t * 9)).off + 5, none⟩ = some (.bool cut) := pw_cell_below hB hc5; have y6 : w8.cell? ⟨(ad.add (t * 9)).block, (ad.add (t * 9)).off + 6, none⟩ = some (.bool mount) := pw_cell_below hB hc6; have y7 : w8.cell? ⟨(ad.add (t * 9)).block, (ad.add (t * 9)).off + 7, none⟩ = some (.int .i64 m) := pw_cell_below hB hc7; have y8 : w8.cell? ⟨(ad.add (t * 9)).block, (ad.add (t * 9)).off + 8, none⟩ = some (.slice A8 ms.length c8) := pw_cell_below hB hc8; clear hB)
          | (go_at_call 54; (with_reducible refine (HLn.out _ HW.out).mono ?_); rintro e w9 ⟨rfl, hB⟩; have P9 := Aside0.mk (P8.out.below hB); clear hB))
        refine ⟨⟨t + 1, _, by omega, rfl, by go_num, ⟨P9.out, HT.out.1.symm, HT.out.2⟩⟩, ?_⟩
        simp only [intOf]; omega
    · obtain rfl : t = n := by omega
      have hfull : ls.take t = ls := List.take_of_length_le (by rw [HN.out]; exact Nat.le_refl _)
      have h2 := S.out.2
      rw [hfull] at h2
      have HP : Aside0 (print40F g0 g1 g2 g3 g4 g5 B ls = (s, 0)) := ⟨by unfold print40F; rw [h2.2, h2.1]; rfl⟩
      have HB := Aside0.mk S.out.1.bel
      clear hfull h2 S
      go_wp2_with fail
      go_ret2
      rw [HP.out]
      exact ⟨rfl, HB.out⟩
end Go.Proofs.YtiddiboclfpklaaDoor.Tz
