/- Lemmas that the claim's theorem uses. -/
import Derived.Test.YtiddiboclfpklaaDoorRdW
import Derived.Test.YtiddiboclfpklaaDoorRdT
import Derived.Test.YtiddiboclfpklaaDoorRdJ
import Derived.Test.YtiddiboclfpklaaDoorRdZC
namespace Go.Proofs.YtiddiboclfpklaaDoor.Tz
open Go.RowKit Go.Proofs.YtiddiboclfpklaaDoorW.PrintWords Go.Proofs.YtiddiboclfpklaaDoor.PScriptReads Go.Proofs.YtiddiboclfpklaaDoor.Tx
set_option linter.unusedVariables false
set_option linter.unusedSimpArgs false
theorem lit1 {α : Type} (d : Kd α) (W : World) (e : Nat) (x : α) (cs : List Value) (hs : cs.length = d.sz) (hK : d.K (W.alloc (.cells cs.toArray e)) x cs) :
  Kd.C d (W.alloc (.cells cs.toArray e)) (some ⟨W.heap.size, 0, none⟩) 1 [x] := by
 refine ⟨rfl, by omega, fun _ => ⟨_, rfl, fun j p hj => ?_⟩⟩
 match j, hj with
 | 0, hj =>
  obtain rfl : x = p := by simpa using hj
  refine ⟨cs, hs, hK, fun i u hi => ?_⟩
  rw [Nat.zero_mul, Nat.zero_add, add_plain, blk_cell (blk_new W _) i]
  simpa using hi
theorem lit2 {α : Type} (d : Kd α) (W : World) (e : Nat) (x y : α) (cs ds : List Value) (hs : cs.length = d.sz) (ht : ds.length = d.sz) (hK : d.K (W.alloc (.cells (cs ++ ds).toArray e)) x cs) (hL : d.K (W.alloc (.cells (cs ++ ds).toArray e)) y ds) :
  Kd.C d (W.alloc (.cells (cs ++ ds).toArray e)) (some ⟨W.heap.size, 0, none⟩) 2 [x, y] := by
 refine ⟨rfl, by omega, fun _ => ⟨_, rfl, fun j p hj => ?_⟩⟩
 match j, hj with
 | 0, hj =>
  obtain rfl : x = p := by simpa using hj
  refine ⟨cs, hs, hK, fun i u hi => ?_⟩
  rw [Nat.zero_mul, Nat.zero_add, add_plain, blk_cell (blk_new W _) i]
  have hlt := (List.getElem?_eq_some_iff.1 hi).1
  rw [← List.getElem?_toArray] at hi
  simp only [List.getElem?_toArray] at hi ⊢
  rw [List.getElem?_append_left hlt]
  exact hi
 | 1, hj =>
  obtain rfl : y = p := by simpa using hj
  refine ⟨ds, ht, hL, fun i u hi => ?_⟩
  rw [Nat.one_mul, add_plain, blk_cell (blk_new W _) _]
  simp only [List.getElem?_toArray]
  rw [← hs, List.getElem?_append_right (Nat.le_add_right _ _), Nat.add_sub_cancel_left]
  exact hi
theorem decW_small (n : Int) (h0 : 0 ≤ n) (h1 : n < 10) : decW n = strOfNums [48 + n] := by
 unfold decW
 rw [decF_pos n (by omega), digR_small _ (by omega), show ((n.toNat : Nat) : Int) = n by omega]
 rfl
def actW : S57 := ⟨⟨12, 7, ⟨#[]⟩, ⟨2, [⟨5, ⟨#[]⟩⟩, ⟨0, ⟨#[97]⟩⟩]⟩⟩, false, false, 0, []⟩
theorem actW_ok : ActOk (act66 actW) := ⟨by unfold I64 act66 actW; decide, by unfold I64 act66 actW; decide, by unfold I64 act66 actW; decide, by decide, by
 intro v hv
 have hv' : v = ⟨5, ⟨#[]⟩⟩ ∨ v = ⟨0, ⟨#[97]⟩⟩ := by simpa [act66, actW] using hv
 rcases hv' with rfl | rfl
 ·exact ⟨by unfold I64; decide, by decide⟩
 ·exact ⟨by unfold I64; decide, by decide⟩, by decide, by intro x hx; simp [act66, actW] at hx, by decide⟩
theorem rowsW : rowsOf 0 0 0 0 0 0 ⟨#[]⟩ ([actW].map act66) = [[⟨#[100, 101, 118, 105, 99, 101]⟩, ⟨#[48]⟩, ⟨#[48]⟩, ⟨#[48]⟩, ⟨#[48]⟩, ⟨#[48]⟩, ⟨#[48]⟩], [⟨#[112, 97, 114, 99, 101, 108]⟩, ⟨#[45]⟩], [⟨#[112, 117, 116]⟩, ⟨#[50]⟩, ⟨#[55]⟩, ⟨#[53]⟩, ⟨#[58, 54, 49]⟩]] := by
 have d0 : decW 0 = ⟨#[48]⟩ := by rw [decW_small 0 (by decide) (by decide)]; rfl
 have d2 : decW 2 = ⟨#[50]⟩ := by rw [decW_small 2 (by decide) (by decide)]; rfl
 have d7 : decW 7 = ⟨#[55]⟩ := by rw [decW_small 7 (by decide) (by decide)]; rfl
 have d5 : decW 5 = ⟨#[53]⟩ := by rw [decW_small 5 (by decide) (by decide)]; rfl
 have hl : lineA (act66 actW) = [wordF 12, decW 2, decW 7, decW 5, ⟨#[58]⟩ ++ hexF ⟨#[97]⟩] := rfl
 have hx : (⟨#[58]⟩ : ByteArray) ++ hexF ⟨#[97]⟩ = ⟨#[58, 54, 49]⟩ := by decide
 have hw : wordF 12 = ⟨#[112, 117, 116]⟩ := rfl
 have hp : hexF ⟨#[]⟩ = ⟨#[45]⟩ := rfl
 unfold rowsOf headF parcelF
 rw [List.map_cons, List.map_cons, hl, d0, d2, d7, d5, hx, hw, hp]
 rfl
def textW : ByteArray := ⟨#[100, 101, 118, 105, 99, 101, 32, 48, 32, 48, 32, 48, 32, 48, 32, 48, 32, 48, 10, 112, 97, 114, 99, 101, 108, 32, 45, 10, 112, 117, 116, 32, 50, 32, 55, 32, 53, 32, 58, 54, 49, 10]⟩
theorem printW : printF 0 0 0 0 0 0 ⟨#[]⟩ [act66 actW] = (textW, 0) := by
 have hp : [act66 actW].all plainA = true := by
  rw [List.all_cons, show plainA (act66 actW) = true from plain_op 12 7 ⟨#[]⟩ 2 [⟨5, ⟨#[]⟩⟩, ⟨0, ⟨#[97]⟩⟩] (by decide) (by decide) rfl]
  rfl
 unfold printF
 rw [if_pos hp, show [act66 actW] = [actW].map act66 from rfl, rowsW]
 decide
theorem parse_none (w : World) : Calls Tryd.prog 33 #[.string ⟨#[]⟩] w fun e w' => (∃ A c, e = .returned (.tuple #[.agg #[.int .i64 0, .int .i64 0, .int .i64 0, .int .i64 0, .int .i64 0, .int .i64 0, .string ⟨#[]⟩, .slice A 0 c], .int .i64 1, .int .i64 4])) ∧ Below w.heap.size w w' := by
 refine (parse_calls ⟨#[]⟩ (by decide) w (scr0, 1, 4) ⟨rfl⟩).mono ?_
 rintro e w' ⟨⟨g0, g1, g2, g3, g4, g5, B, v, acts, n, er, rfl, hv, ho⟩, hB⟩
 simp only [scr0, Prod.mk.injEq, List.cons.injEq, and_true] at ho
 obtain ⟨⟨⟨rfl, rfl, rfl, rfl, rfl, rfl⟩, rfl, rfl⟩, rfl, rfl⟩ := ho
 obtain ⟨A, c, rfl⟩ := Kd.R_slice hv
 exact ⟨⟨A, c, rfl⟩, hB⟩
set_option maxHeartbeats 4000000 in
set_option maxRecDepth 100000 in
theorem awake40_calls (w : World) : Calls Tryd.prog 25 #[] w fun e w' => e = .returned (.bool true) ∧ Below w.heap.size w w' := by
 have HPr : Aside0 (∀ (W : World) (A : Option Addr), Kd.C k66 W A 1 [act66 actW] → Calls Tryd.prog 26 #[.agg #[.int .i64 0, .int .i64 0, .int .i64 0, .int .i64 0, .int .i64 0, .int .i64 0, .string ⟨#[]⟩, .slice A 1 1]] W fun e w' => e = .returned (.tuple #[.string ⟨#[100, 101, 118, 105, 99, 101, 32, 48, 32, 48, 32, 48, 32, 48, 32, 48, 32, 48, 10, 112, 97, 114, 99, 101, 108, 32, 45, 10, 112, 117, 116, 32, 50, 32, 55, 32, 53, 32, 58, 54, 49, 10]⟩, .int .i64 0]) ∧ Below W.heap.size W w') := ⟨fun W A hC => by
  have h := print_calls 0 0 0 0 0 0 ⟨#[]⟩ [act66 actW] A 1 W hC ⟨by unfold I64; decide, by unfold I64; decide, by unfold I64; decide, by unfold I64; decide, by unfold I64; decide, by unfold I64; decide⟩ (by decide) (fun a ha => by
   obtain rfl : a = act66 actW := by simpa using ha
   exact actW_ok) (by decide) (by
    rw [show [act66 actW] = [actW].map act66 from rfl, rowsW]
    decide) (by
    rw [show [act66 actW] = [actW].map act66 from rfl, rowsW]
    decide)
  rw [printW] at h
  exact h⟩
 have HN : Aside0 (∀ W, Calls Tryd.prog 33 #[.string ⟨#[]⟩] W fun e w' => (∃ A c, e = .returned (.tuple #[.agg #[.int .i64 0, .int .i64 0, .int .i64 0, .int .i64 0, .int .i64 0, .int .i64 0, .string ⟨#[]⟩, .slice A 0 c], .int .i64 1, .int .i64 4])) ∧ Below W.heap.size W w') := ⟨fun W => parse_none W⟩
 have HV := lit2 k107 w 107 ⟨5, ⟨#[]⟩⟩ ⟨0, ⟨#[97]⟩⟩ [.int .i64 5, .string ⟨#[]⟩] [.int .i64 0, .string ⟨#[97]⟩] rfl rfl (k107_mk _ _) (k107_mk _ _)
 have HC0 := lit1 k66 ((w.alloc (.cells #[.int .i64 5, .string ⟨#[]⟩, .int .i64 0, .string ⟨#[97]⟩] 107)).alloc (.cells #[.int .i64 12, .int .i64 7, .string ⟨#[]⟩, .int .i64 2, .slice (some ⟨w.heap.size, 0, none⟩) 2 2, .bool false, .bool false, .int .i64 0, .slice none 0 0] 66)) 66 (act66 actW) [.int .i64 12, .int .i64 7, .string ⟨#[]⟩, .int .i64 2, .slice (some ⟨w.heap.size, 0, none⟩) 2 2, .bool false, .bool false, .int .i64 0, .slice none 0 0] rfl
  (k66_mk _ (act66 actW) (by decide) (Kd.C_below HV (below_alloc (below_alloc (Below.refl _ _) _) _)) (by decide) (Kd.C_nil _ _))
 rw [World.size_alloc, World.size_alloc] at HC0
 have HP1 := Aside0.mk (HPr.out (((w.alloc (.cells #[.int .i64 5, .string ⟨#[]⟩, .int .i64 0, .string ⟨#[97]⟩] 107)).alloc (.cells #[.int .i64 12, .int .i64 7, .string ⟨#[]⟩, .int .i64 2, .slice (some ⟨w.heap.size, 0, none⟩) 2 2, .bool false, .bool false, .int .i64 0, .slice none 0 0] 66)).alloc (.cells #[.int .i64 12, .int .i64 7, .string ⟨#[]⟩, .int .i64 2, .slice (some ⟨w.heap.size, 0, none⟩) 2 2, .bool false, .bool false, .int .i64 0, .slice none 0 0] 66)) (some ⟨w.heap.size + 1 + 1, 0, none⟩) HC0)
 clear HC0 HPr
 have HB := Aside0.mk (below_alloc (below_alloc (below_alloc (Below.refl w.heap.size w) (.cells #[.int .i64 5, .string ⟨#[]⟩, .int .i64 0, .string ⟨#[97]⟩] 107)) (.cells #[.int .i64 12, .int .i64 7, .string ⟨#[]⟩, .int .i64 2, .slice (some ⟨w.heap.size, 0, none⟩) 2 2, .bool false, .bool false, .int .i64 0, .slice none 0 0] 66)) (.cells #[.int .i64 12, .int .i64 7, .string ⟨#[]⟩, .int .i64 2, .slice (some ⟨w.heap.size, 0, none⟩) 2 2, .bool false, .bool false, .int .i64 0, .slice none 0 0] 66))
 clear HV
 go_enter Tryd.func25, Tryd.ntmps25
 go_wp2_with (first
  | (go_at_call 26; (with_reducible refine HP1.out.mono ?_); rintro e w1 ⟨rfl, hB⟩; have S1 := Aside0.mk (HB.out.trans (hB.mono HB.out.size)); clear hB)
  | (go_at_call 33; (with_reducible refine (HN.out _).mono ?_); rintro e w2 ⟨⟨A9, c9, rfl⟩, hB⟩; have S2 := Aside0.mk (below_alloc (S1.out.trans (hB.mono S1.out.size)) (.cells #[.int .i64 0, .int .i64 0, .int .i64 0, .int .i64 0, .int .i64 0, .int .i64 0, .string ⟨#[]⟩, .slice A9 0 c9] 62)); clear hB))
 go_ret
 exact ⟨rfl, S2.out⟩
end Go.Proofs.YtiddiboclfpklaaDoor.Tz
namespace Go.Proofs.YtiddiboclfpklaaDoor.Tz
open Go.RowKit Go.Proofs.YtiddiboclfpklaaDoorW.PrintWords Go.Proofs.YtiddiboclfpklaaDoor.PScriptReads Go.Proofs.YtiddiboclfpklaaDoor.Tx
set_option linter.unusedVariables false
set_option linter.unusedSimpArgs false
theorem map57_66 (ls : List S57) : (ls.map act66).map act57 = ls := by
 rw [List.map_map]
 exact List.map_id' ls
end Go.Proofs.YtiddiboclfpklaaDoor.Tz
namespace Go.Proofs.YtiddiboclfpklaaDoor.Tz
open Go.RowKit Go.Proofs.YtiddiboclfpklaaDoorW.PrintWords Go.Proofs.YtiddiboclfpklaaDoor.PScriptReads Go.Proofs.YtiddiboclfpklaaDoor.Tx
set_option linter.unusedVariables false
set_option linter.unusedSimpArgs false
theorem parseP_or (s : ByteArray) : (parseP s).2.2 = 0 ∨ (parseP s).1 = scr0 := by
 unfold parseP
 split
 ·match (linesF s).1 with
  | [] => exact .inr rfl
  | [d] => rw [rowsP]; split <;> exact .inr rfl
  | d :: p :: al =>
   rw [rowsP]
   split
   ·split
    ·split
     ·exact .inl rfl
     ·exact .inr rfl
    ·exact .inr rfl
   ·exact .inr rfl
 ·exact .inr rfl
theorem parse_acts (s : ByteArray) (hs : s.size ≤ 16000000) (g0 g1 g2 g3 g4 g5 : Int) (B : ByteArray) (acts : List S66) (n er : Int) (h : parseP s = (([g0, g1, g2, g3, g4, g5], B, acts), n, er)) : acts.length ≤ 16777216 ∧ ∀ a ∈ acts, ActOk a := by
 rcases parseP_or s with h0 | h0
 ·have he : er = 0 := by rw [h] at h0; exact h0
  subst he
  obtain ⟨h1, h2, h3, h4, h5, h6, h7, _⟩ := print_parse s g0 g1 g2 g3 g4 g5 B acts n h
  have hr := linesF_rows s hs
  refine ⟨by have := hr.len; omega, fun a ha => ?_⟩
  obtain ⟨l, hl, rfl, ho⟩ := h6 a ha
  cases l with
  | nil => cases ho
  | cons x r =>
   obtain ⟨a, ha⟩ := Option.isSome_iff_exists.1 (show (actP x r).isSome = true from ho)
   rw [show actD (x :: r) = a by show (actP x r).getD z66 = a; rw [ha]; rfl]
   exact actP_ok x r a (fun z hz => hr.word _ hl z (List.mem_cons_of_mem _ hz)) (by have := hr.row _ hl; simp at this; omega) ha
 ·have h1 : acts = [] := by rw [h] at h0; exact congrArg (fun q => q.2.2) h0
  subst h1
  exact ⟨by simp, by intro a ha; cases ha⟩
structure RS (w W : World) (b1 b2 : Nat) (cs1 cs2 : Array Value) (A9 A8 : Option Addr) (acts : List S66) : Prop where
 k1 : W.heap[b1]? = some (.cells cs1 62 (0, 0))
 k2 : W.heap[b2]? = some (.cells cs2 49 (0, 0))
 c1 : Kd.C k66 W A9 acts.length acts
 c2 : Kd.C k57 W A8 acts.length (acts.map act57)
 bel : Below w.heap.size w W
theorem RS.below {w W W2 : World} {b1 b2 : Nat} {cs1 cs2 : Array Value} {A9 A8 : Option Addr} {acts : List S66} (S : RS w W b1 b2 cs1 cs2 A9 A8 acts) (hB : Below W.heap.size W W2) : RS w W2 b1 b2 cs1 cs2 A9 A8 acts :=
 ⟨blk_below S.k1 hB, blk_below S.k2 hB, Kd.C_below S.c1 hB, Kd.C_below S.c2 hB, S.bel.trans (hB.mono S.bel.size)⟩
theorem RS.drew {w W : World} {b1 b2 : Nat} {cs1 cs2 : Array Value} {A9 A8 : Option Addr} {acts : List S66} (S : RS w W b1 b2 cs1 cs2 A9 A8 acts) : RS w W.drew b1 b2 cs1 cs2 A9 A8 acts := S.below (below_drew1 (Below.refl _ _))
theorem RS.drewN {w W : World} {b1 b2 : Nat} {cs1 cs2 : Array Value} {A9 A8 : Option Addr} {acts : List S66} (S : RS w W b1 b2 cs1 cs2 A9 A8 acts) (n : Nat) : RS w (W.drewN n) b1 b2 cs1 cs2 A9 A8 acts := S.below (pw_below_drewN (Below.refl _ _) n)
set_option maxHeartbeats 2000000 in
set_option maxRecDepth 100000 in
theorem reads_great (text : ByteArray) (w : World) (htx : 6000 < text.size) : Calls Tryd.prog 8 #[.string text] w fun e w' => e = .returned (.bool true) ∧ Below w.heap.size w w' := by
 have HAW : Aside0 (∀ W, Calls Tryd.prog 25 #[] W fun e w' => e = .returned (.bool true) ∧ Below W.heap.size W w') := ⟨fun W => awake40_calls W⟩
 have e6 : decide (6000 < (text.size : Int)) = true := decide_eq_true (by omega)
 have e7 : decide (6000 < text.size) = true := decide_eq_true (by omega)
 go_enter Tryd.func8, Tryd.ntmps8
 go_wp2_with (go_at_call 25; (with_reducible refine (HAW.out _).mono ?_); rintro e w2 ⟨rfl, hB⟩; have Q2 := Aside0.mk hB; clear hB)
 go_ret
 exact ⟨rfl, Q2.out⟩
set_option maxHeartbeats 4000000 in
set_option maxRecDepth 100000 in
theorem reads_small (text : ByteArray) (w : World) (htx : text.size ≤ 6000) : Calls Tryd.prog 8 #[.string text] w fun e w' => e = .returned (.bool true) ∧ Below w.heap.size w w' := by
 have HAW : Aside0 (∀ W, Calls Tryd.prog 25 #[] W fun e w' => e = .returned (.bool true) ∧ Below W.heap.size W w') := ⟨fun W => awake40_calls W⟩
 have HP1 : Aside0 (∀ W, Calls Tryd.prog 33 #[.string text] W fun e w' => (∃ g0 g1 g2 g3 g4 g5 B acts A9 c9 n er, e = .returned (.tuple #[.agg #[.int .i64 g0, .int .i64 g1, .int .i64 g2, .int .i64 g3, .int .i64 g4, .int .i64 g5, .string B, .slice A9 acts.length c9], .int .i64 n, .int .i64 er]) ∧ acts.length ≤ c9 ∧ Kd.C k66 w' A9 acts.length acts ∧ parseP text = (([g0, g1, g2, g3, g4, g5], B, acts), n, er)) ∧ Below W.heap.size W w') := ⟨fun W => (parse_calls text (by omega) W _ ⟨rfl⟩).mono (by
  rintro e w' ⟨⟨h0, h1, h2, h3, h4, h5, B2, v, acts, n, er, rfl, hv, ho⟩, hB⟩
  obtain ⟨A8, c8, rfl, h6, h7⟩ := Kd.R_reads hv
  exact ⟨⟨h0, h1, h2, h3, h4, h5, B2, acts, A8, c8, n, er, rfl, h6, h7, ho⟩, hB⟩)⟩
 have HP4 : Aside0 (∀ W g0 g1 g2 g3 g4 g5 B (acts : List S66) n er, parseP text = (([g0, g1, g2, g3, g4, g5], B, acts), n, er) → Calls Tryd.prog 34 #[.string text] W fun e w' => (∃ A8 c8, e = .returned (.tuple #[.agg #[.int .i64 g0, .int .i64 g1, .int .i64 g2, .int .i64 g3, .int .i64 g4, .int .i64 g5, .string B, .slice A8 acts.length c8], .int .i64 n, .int .i64 er]) ∧ Kd.C k57 w' A8 acts.length (acts.map act57)) ∧ Below W.heap.size W w') := ⟨fun W g0 g1 g2 g3 g4 g5 B acts n er hp => (parse40_calls text (by omega) W _ ⟨hp⟩).mono (by
  rintro e w' ⟨⟨h0, h1, h2, h3, h4, h5, B2, v, acts, n, er, rfl, hv, ho⟩, hB⟩
  simp only [Prod.mk.injEq, List.cons.injEq, and_true] at ho
  obtain ⟨⟨⟨rfl, rfl, rfl, rfl, rfl, rfl⟩, rfl, rfl⟩, rfl, rfl⟩ := ho
  obtain ⟨A8, c8, rfl, _, h7⟩ := Kd.R_reads hv
  rw [map57_66, List.length_map]
  exact ⟨⟨A8, c8, rfl, h7⟩, hB⟩)⟩
 have HOKA : Aside0 (∀ g0 g1 g2 g3 g4 g5 B (acts : List S66) n er, parseP text = (([g0, g1, g2, g3, g4, g5], B, acts), n, er) → acts.length ≤ 16777216 ∧ ∀ a ∈ acts, ActOk a) := ⟨fun g0 g1 g2 g3 g4 g5 B acts n er hp => parse_acts text (by omega) g0 g1 g2 g3 g4 g5 B acts n er hp⟩
 have HBk : Aside0 (∀ W g0 g1 g2 g3 g4 g5 B (acts : List S66) A9 c9, Kd.C k66 W A9 acts.length acts → acts.length ≤ c9 → acts.length ≤ 16777216 → Calls Tryd.prog 36 #[.agg #[.int .i64 g0, .int .i64 g1, .int .i64 g2, .int .i64 g3, .int .i64 g4, .int .i64 g5, .string B, .slice A9 acts.length c9]] W fun e w' => (∃ A7 c7, e = .returned (.agg #[.int .i64 g0, .int .i64 g1, .int .i64 g2, .int .i64 g3, .int .i64 g4, .int .i64 g5, .string B, .slice A7 acts.length c7]) ∧ Kd.C k57 w' A7 acts.length (acts.map act57)) ∧ Below W.heap.size W w') := ⟨fun W g0 g1 g2 g3 g4 g5 B acts A9 c9 h9 hc9 hl => by
  have h := back_calls g0 g1 g2 g3 g4 g5 B acts A9 c9 W h9 hc9 hl
  rw [List.length_map] at h
  refine h.mono ?_
  rintro e w' ⟨A2, c2, he, _, hC, hB⟩
  exact ⟨⟨A2, c2, he, hC⟩, hB⟩⟩
 have HSm : Aside0 (∀ W g0 g1 g2 g3 g4 g5 B (acts : List S66) A7 c7 A8 c8, Kd.C k57 W A7 acts.length (acts.map act57) → Kd.C k57 W A8 acts.length (acts.map act57) → acts.length ≤ 16777216 ∧ (∀ a ∈ acts, ActOk a) → Calls Tryd.prog 35 #[.agg #[.int .i64 g0, .int .i64 g1, .int .i64 g2, .int .i64 g3, .int .i64 g4, .int .i64 g5, .string B, .slice A7 acts.length c7], .agg #[.int .i64 g0, .int .i64 g1, .int .i64 g2, .int .i64 g3, .int .i64 g4, .int .i64 g5, .string B, .slice A8 acts.length c8]] W fun e w' => e = .returned (.bool true) ∧ Below W.heap.size W w') := ⟨fun W g0 g1 g2 g3 g4 g5 B acts A7 c7 A8 c8 h7 h8 hok => by
  have h := sameScript_calls g0 g1 g2 g3 g4 g5 B (acts.map act57) A7 c7 A8 c8 W (by rw [List.length_map]; exact h7) (by rw [List.length_map]; exact h8) (fun a ha => by
   obtain ⟨y, hy, rfl⟩ := List.mem_map.1 ha
   exact ⟨(hok.2 y hy).vl, (hok.2 y hy).ml⟩) (by rw [List.length_map]; exact hok.1)
  rw [List.length_map] at h
  exact h⟩
 have e6 : decide (6000 < (text.size : Int)) = false := decide_eq_false (by omega)
 have e7 : decide (6000 < text.size) = false := decide_eq_false (by omega)
 clear htx
 go_enter Tryd.func8, Tryd.ntmps8
 go_upto_region 5 with (first
  | (go_at_call 33; (with_reducible refine (HP1.out _).mono ?_); rintro e w3 ⟨⟨g0, g1, g2, g3, g4, g5, B, acts, A9, c9, n, er, rfl, hc9, hC, hpt⟩, hB⟩; have B3 := Aside0.mk (below_alloc hB (.cells #[.int .i64 g0, .int .i64 g1, .int .i64 g2, .int .i64 g3, .int .i64 g4, .int .i64 g5, .string B, .slice A9 acts.length c9] 62)); have K3 := Aside0.mk (blk_new w3 (.cells #[.int .i64 g0, .int .i64 g1, .int .i64 g2, .int .i64 g3, .int .i64 g4, .int .i64 g5, .string B, .slice A9 acts.length c9] 62)); have C3 := Aside0.mk (Kd.C_below hC (below_alloc (Below.refl _ _) (.cells #[.int .i64 g0, .int .i64 g1, .int .i64 g2, .int .i64 g3, .int .i64 g4, .int .i64 g5, .string B, .slice A9 acts.length c9] 62))); have HPT := Aside0.mk (And.intro hpt (And.intro hc9 (HOKA.out _ _ _ _ _ _ _ _ _ _ hpt))); clear hB hC hpt hc9)
  | (go_at_call 34; (with_reducible refine (HP4.out _ _ _ _ _ _ _ _ _ _ _ HPT.out.1).mono ?_); rintro e w4 ⟨⟨A8, c8, rfl, hC⟩, hB⟩; have Q5 : Aside0 (RS w (w4.alloc (.cells #[.int .i64 g0, .int .i64 g1, .int .i64 g2, .int .i64 g3, .int .i64 g4, .int .i64 g5, .string B, .slice A8 acts.length c8] 49)) w3.heap.size w4.heap.size #[.int .i64 g0, .int .i64 g1, .int .i64 g2, .int .i64 g3, .int .i64 g4, .int .i64 g5, .string B, .slice A9 acts.length c9] #[.int .i64 g0, .int .i64 g1, .int .i64 g2, .int .i64 g3, .int .i64 g4, .int .i64 g5, .string B, .slice A8 acts.length c8] A9 A8 acts) := ⟨⟨blk_alloc (blk_below K3.out hB) _, blk_new w4 _, Kd.C_below (Kd.C_below C3.out hB) (below_alloc (Below.refl _ _) _), Kd.C_below hC (below_alloc (Below.refl _ _) _), below_alloc (B3.out.trans (hB.mono B3.out.size)) _⟩⟩; clear hB hC))
 obtain ⟨w5, hw5⟩ : ∃ w5, w4.alloc (.cells #[.int .i64 g0, .int .i64 g1, .int .i64 g2, .int .i64 g3, .int .i64 g4, .int .i64 g5, .string B, .slice A8 acts.length c8] 49) = w5 := ⟨_, rfl⟩
 rw [hw5] at Q5 ⊢
 clear hw5 K3 C3 B3 HP1 HP4 HOKA
 have zk0 : w5.cell? ⟨w3.heap.size, 0, none⟩ = some (.int .i64 g0) := (blk_cell Q5.out.k1 0).trans rfl
 have zk1 : w5.cell? ⟨w3.heap.size, 1, none⟩ = some (.int .i64 g1) := (blk_cell Q5.out.k1 1).trans rfl
 have zk2 : w5.cell? ⟨w3.heap.size, 2, none⟩ = some (.int .i64 g2) := (blk_cell Q5.out.k1 2).trans rfl
 have zk3 : w5.cell? ⟨w3.heap.size, 3, none⟩ = some (.int .i64 g3) := (blk_cell Q5.out.k1 3).trans rfl
 have zk4 : w5.cell? ⟨w3.heap.size, 4, none⟩ = some (.int .i64 g4) := (blk_cell Q5.out.k1 4).trans rfl
 have zk5 : w5.cell? ⟨w3.heap.size, 5, none⟩ = some (.int .i64 g5) := (blk_cell Q5.out.k1 5).trans rfl
 have zk6 : w5.cell? ⟨w3.heap.size, 6, none⟩ = some (.string B) := (blk_cell Q5.out.k1 6).trans rfl
 have zk7 : w5.cell? ⟨w3.heap.size, 7, none⟩ = some (.slice A9 acts.length c9) := (blk_cell Q5.out.k1 7).trans rfl
 have zq0 : w5.cell? ⟨w4.heap.size, 0, none⟩ = some (.int .i64 g0) := (blk_cell Q5.out.k2 0).trans rfl
 have zq1 : w5.cell? ⟨w4.heap.size, 1, none⟩ = some (.int .i64 g1) := (blk_cell Q5.out.k2 1).trans rfl
 have zq2 : w5.cell? ⟨w4.heap.size, 2, none⟩ = some (.int .i64 g2) := (blk_cell Q5.out.k2 2).trans rfl
 have zq3 : w5.cell? ⟨w4.heap.size, 3, none⟩ = some (.int .i64 g3) := (blk_cell Q5.out.k2 3).trans rfl
 have zq4 : w5.cell? ⟨w4.heap.size, 4, none⟩ = some (.int .i64 g4) := (blk_cell Q5.out.k2 4).trans rfl
 have zq5 : w5.cell? ⟨w4.heap.size, 5, none⟩ = some (.int .i64 g5) := (blk_cell Q5.out.k2 5).trans rfl
 have zq6 : w5.cell? ⟨w4.heap.size, 6, none⟩ = some (.string B) := (blk_cell Q5.out.k2 6).trans rfl
 have zq7 : w5.cell? ⟨w4.heap.size, 7, none⟩ = some (.slice A8 acts.length c8) := (blk_cell Q5.out.k2 7).trans rfl
 go_region_held3 (fun w' => w'.cell? ⟨w3.heap.size, 0, none⟩ = some (.int .i64 g0) ∧ w'.cell? ⟨w3.heap.size, 1, none⟩ = some (.int .i64 g1) ∧ w'.cell? ⟨w3.heap.size, 2, none⟩ = some (.int .i64 g2) ∧ w'.cell? ⟨w3.heap.size, 3, none⟩ = some (.int .i64 g3) ∧ w'.cell? ⟨w3.heap.size, 4, none⟩ = some (.int .i64 g4) ∧ w'.cell? ⟨w3.heap.size, 5, none⟩ = some (.int .i64 g5) ∧ w'.cell? ⟨w3.heap.size, 6, none⟩ = some (.string B) ∧ w'.cell? ⟨w3.heap.size, 7, none⟩ = some (.slice A9 acts.length c9) ∧ w'.cell? ⟨w4.heap.size, 0, none⟩ = some (.int .i64 g0) ∧ w'.cell? ⟨w4.heap.size, 1, none⟩ = some (.int .i64 g1) ∧ w'.cell? ⟨w4.heap.size, 2, none⟩ = some (.int .i64 g2) ∧ w'.cell? ⟨w4.heap.size, 3, none⟩ = some (.int .i64 g3) ∧ w'.cell? ⟨w4.heap.size, 4, none⟩ = some (.int .i64 g4) ∧ w'.cell? ⟨w4.heap.size, 5, none⟩ = some (.int .i64 g5) ∧ w'.cell? ⟨w4.heap.size, 6, none⟩ = some (.string B) ∧ w'.cell? ⟨w4.heap.size, 7, none⟩ = some (.slice A8 acts.length c8))
  (first | go_keep | exact ⟨zk0, zk1, zk2, zk3, zk4, zk5, zk6, zk7, zq0, zq1, zq2, zq3, zq4, zq5, zq6, zq7⟩ | exact ⟨xk0, xk1, xk2, xk3, xk4, xk5, xk6, xk7, xq0, xq1, xq2, xq3, xq4, xq5, xq6, xq7⟩ | exact ⟨yk0, yk1, yk2, yk3, yk4, yk5, yk6, yk7, yq0, yq1, yq2, yq3, yq4, yq5, yq6, yq7⟩ | exact ⟨uk0, uk1, uk2, uk3, uk4, uk5, uk6, uk7, uq0, uq1, uq2, uq3, uq4, uq5, uq6, uq7⟩)
  ((first
   | (go_at_call 36; (with_reducible refine (HBk.out _ _ _ _ _ _ _ _ _ _ _ (RS.c1 (by with_reducible repeat (first | exact Q5.out | apply RS.drew | apply RS.drewN))) HPT.out.2.1 HPT.out.2.2.1).mono ?_); rintro e w7 ⟨⟨A7, c7, rfl, hC⟩, hB⟩; have Q7 := Aside0.mk (RS.below (by with_reducible repeat (first | exact Q5.out | apply RS.drew | apply RS.drewN)) hB); have C7 := Aside0.mk hC; clear hB hC; have xk0 : w7.cell? ⟨w3.heap.size, 0, none⟩ = some (.int .i64 g0) := (blk_cell Q7.out.k1 0).trans rfl; have xk1 : w7.cell? ⟨w3.heap.size, 1, none⟩ = some (.int .i64 g1) := (blk_cell Q7.out.k1 1).trans rfl; have xk2 : w7.cell? ⟨w3.heap.size, 2, none⟩ = some (.int .i64 g2) := (blk_cell Q7.out.k1 2).trans rfl; have xk3 : w7.cell? ⟨w3.heap.size, 3, none⟩ = some (.int .i64 g3) := (blk_cell Q7.out.k1 3).trans rfl; have xk4 : w7.cell? ⟨w3.heap.size, 4, none⟩ = some (.int .i64 g4) := (blk_cell Q7.out.k1 4).trans rfl; have xk5 : w7.cell? ⟨w3.heap.size, 5, none⟩ = some (.int .i64 g5) := (blk_cell Q7.out.k1 5).trans rfl; have xk6 : w7.cell? ⟨w3.heap.size, 6, none⟩ = some (.string B) := (blk_cell Q7.out.k1 6).trans rfl; have xk7 : w7.cell? ⟨w3.heap.size, 7, none⟩ = some (.slice A9 acts.length c9) := (blk_cell Q7.out.k1 7).trans rfl; have xq0 : w7.cell? ⟨w4.heap.size, 0, none⟩ = some (.int .i64 g0) := (blk_cell Q7.out.k2 0).trans rfl; have xq1 : w7.cell? ⟨w4.heap.size, 1, none⟩ = some (.int .i64 g1) := (blk_cell Q7.out.k2 1).trans rfl; have xq2 : w7.cell? ⟨w4.heap.size, 2, none⟩ = some (.int .i64 g2) := (blk_cell Q7.out.k2 2).trans rfl; have xq3 : w7.cell? ⟨w4.heap.size, 3, none⟩ = some (.int .i64 g3) := (blk_cell Q7.out.k2 3).trans rfl; have xq4 : w7.cell? ⟨w4.heap.size, 4, none⟩ = some (.int .i64 g4) := (blk_cell Q7.out.k2 4).trans rfl; have xq5 : w7.cell? ⟨w4.heap.size, 5, none⟩ = some (.int .i64 g5) := (blk_cell Q7.out.k2 5).trans rfl; have xq6 : w7.cell? ⟨w4.heap.size, 6, none⟩ = some (.string B) := (blk_cell Q7.out.k2 6).trans rfl; have xq7 : w7.cell? ⟨w4.heap.size, 7, none⟩ = some (.slice A8 acts.length c8) := (blk_cell Q7.out.k2 7).trans rfl)
   | (go_at_call 35; (with_reducible refine (HSm.out _ _ _ _ _ _ _ _ _ _ _ _ _ (Kd.C_below C7.out (by repeat (first | exact Below.refl _ _ | apply below_drew1 | apply pw_below_drewN))) (RS.c2 (by with_reducible repeat (first | exact Q7.out | apply RS.drew | apply RS.drewN))) HPT.out.2.2).mono ?_); rintro e w8 ⟨rfl, hB⟩; have Q8 := Aside0.mk (RS.below (by with_reducible repeat (first | exact Q7.out | apply RS.drew | apply RS.drewN)) hB); clear hB; have yk0 : w8.cell? ⟨w3.heap.size, 0, none⟩ = some (.int .i64 g0) := (blk_cell Q8.out.k1 0).trans rfl; have yk1 : w8.cell? ⟨w3.heap.size, 1, none⟩ = some (.int .i64 g1) := (blk_cell Q8.out.k1 1).trans rfl; have yk2 : w8.cell? ⟨w3.heap.size, 2, none⟩ = some (.int .i64 g2) := (blk_cell Q8.out.k1 2).trans rfl; have yk3 : w8.cell? ⟨w3.heap.size, 3, none⟩ = some (.int .i64 g3) := (blk_cell Q8.out.k1 3).trans rfl; have yk4 : w8.cell? ⟨w3.heap.size, 4, none⟩ = some (.int .i64 g4) := (blk_cell Q8.out.k1 4).trans rfl; have yk5 : w8.cell? ⟨w3.heap.size, 5, none⟩ = some (.int .i64 g5) := (blk_cell Q8.out.k1 5).trans rfl; have yk6 : w8.cell? ⟨w3.heap.size, 6, none⟩ = some (.string B) := (blk_cell Q8.out.k1 6).trans rfl; have yk7 : w8.cell? ⟨w3.heap.size, 7, none⟩ = some (.slice A9 acts.length c9) := (blk_cell Q8.out.k1 7).trans rfl; have yq0 : w8.cell? ⟨w4.heap.size, 0, none⟩ = some (.int .i64 g0) := (blk_cell Q8.out.k2 0).trans rfl; have yq1 : w8.cell? ⟨w4.heap.size, 1, none⟩ = some (.int .i64 g1) := (blk_cell Q8.out.k2 1).trans rfl; have yq2 : w8.cell? ⟨w4.heap.size, 2, none⟩ = some (.int .i64 g2) := (blk_cell Q8.out.k2 2).trans rfl; have yq3 : w8.cell? ⟨w4.heap.size, 3, none⟩ = some (.int .i64 g3) := (blk_cell Q8.out.k2 3).trans rfl; have yq4 : w8.cell? ⟨w4.heap.size, 4, none⟩ = some (.int .i64 g4) := (blk_cell Q8.out.k2 4).trans rfl; have yq5 : w8.cell? ⟨w4.heap.size, 5, none⟩ = some (.int .i64 g5) := (blk_cell Q8.out.k2 5).trans rfl; have yq6 : w8.cell? ⟨w4.heap.size, 6, none⟩ = some (.string B) := (blk_cell Q8.out.k2 6).trans rfl; have yq7 : w8.cell? ⟨w4.heap.size, 7, none⟩ = some (.slice A8 acts.length c8) := (blk_cell Q8.out.k2 7).trans rfl)
   | (go_at_call 25; (with_reducible refine (HAW.out _).mono ?_); rintro e w9 ⟨rfl, hB⟩; have Q9 := Aside0.mk (RS.below (by with_reducible repeat (first | exact Q8.out | apply RS.drew | apply RS.drewN)) hB); clear hB; have uk0 : w9.cell? ⟨w3.heap.size, 0, none⟩ = some (.int .i64 g0) := (blk_cell Q9.out.k1 0).trans rfl; have uk1 : w9.cell? ⟨w3.heap.size, 1, none⟩ = some (.int .i64 g1) := (blk_cell Q9.out.k1 1).trans rfl; have uk2 : w9.cell? ⟨w3.heap.size, 2, none⟩ = some (.int .i64 g2) := (blk_cell Q9.out.k1 2).trans rfl; have uk3 : w9.cell? ⟨w3.heap.size, 3, none⟩ = some (.int .i64 g3) := (blk_cell Q9.out.k1 3).trans rfl; have uk4 : w9.cell? ⟨w3.heap.size, 4, none⟩ = some (.int .i64 g4) := (blk_cell Q9.out.k1 4).trans rfl; have uk5 : w9.cell? ⟨w3.heap.size, 5, none⟩ = some (.int .i64 g5) := (blk_cell Q9.out.k1 5).trans rfl; have uk6 : w9.cell? ⟨w3.heap.size, 6, none⟩ = some (.string B) := (blk_cell Q9.out.k1 6).trans rfl; have uk7 : w9.cell? ⟨w3.heap.size, 7, none⟩ = some (.slice A9 acts.length c9) := (blk_cell Q9.out.k1 7).trans rfl; have uq0 : w9.cell? ⟨w4.heap.size, 0, none⟩ = some (.int .i64 g0) := (blk_cell Q9.out.k2 0).trans rfl; have uq1 : w9.cell? ⟨w4.heap.size, 1, none⟩ = some (.int .i64 g1) := (blk_cell Q9.out.k2 1).trans rfl; have uq2 : w9.cell? ⟨w4.heap.size, 2, none⟩ = some (.int .i64 g2) := (blk_cell Q9.out.k2 2).trans rfl; have uq3 : w9.cell? ⟨w4.heap.size, 3, none⟩ = some (.int .i64 g3) := (blk_cell Q9.out.k2 3).trans rfl; have uq4 : w9.cell? ⟨w4.heap.size, 4, none⟩ = some (.int .i64 g4) := (blk_cell Q9.out.k2 4).trans rfl; have uq5 : w9.cell? ⟨w4.heap.size, 5, none⟩ = some (.int .i64 g5) := (blk_cell Q9.out.k2 5).trans rfl; have uq6 : w9.cell? ⟨w4.heap.size, 6, none⟩ = some (.string B) := (blk_cell Q9.out.k2 6).trans rfl; have uq7 : w9.cell? ⟨w4.heap.size, 7, none⟩ = some (.slice A8 acts.length c8) := (blk_cell Q9.out.k2 7).trans rfl)
   | fail))
 go_wp2_with fail
 go_ret
 exact ⟨rfl, by repeat (first | exact Q9.out.bel | apply below_drew1 | apply pw_below_drewN)⟩
theorem scriptReads_calls (text : ByteArray) (w : World) : Calls Tryd.prog 8 #[.string text] w fun e w' => e = .returned (.bool true) ∧ Below w.heap.size w w' := by
 by_cases h6 : text.size ≤ 6000
 ·exact reads_small text w h6
 ·exact reads_great text w (by omega)
end Go.Proofs.YtiddiboclfpklaaDoor.Tz
