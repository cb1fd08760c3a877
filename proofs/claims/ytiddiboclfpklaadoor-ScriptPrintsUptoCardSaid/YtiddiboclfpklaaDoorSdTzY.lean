import Derived.Test.YtiddiboclfpklaaDoorSdTzX
import Derived.Test.YtiddiboclfpklaaDoorSdTzM
/- awake, walked. -/
namespace Go.Proofs.YtiddiboclfpklaaDoor.Tz
open Go.RowKit Go.Proofs.YtiddiboclfpklaaDoorW.PrintWords Go.Proofs.YtiddiboclfpklaaDoor.PScriptReads Go.Proofs.YtiddiboclfpklaaDoor.Tx
set_option linter.unusedVariables false
set_option linter.unusedSimpArgs false

theorem lit1 {α : Type} (d : Kd α) (W : World) (e : Nat) (x : α) (cs : List Value) (hs : cs.length = d.sz) (hK : d.K (W.alloc (.cells cs.toArray e)) x cs) :
    Kd.C d (W.alloc (.cells cs.toArray e)) (some ⟨W.heap.size, 0, none⟩) 1 [x] := by
  refine ⟨rfl, by omega, fun _ => ⟨_, rfl, fun j p hj => ?_⟩⟩
  match j, hj with
  | 0, hj =>
    obtain rfl : x = p := by simpa using hj
    refine ⟨cs, hs, hK, fun i u hi => ?_⟩
    rw [Nat.zero_mul, Nat.zero_add, add_plain, blk_cell (blk_new W _) i]
    simpa using hi
theorem lit2 {α : Type} (d : Kd α) (W : World) (e : Nat) (x y : α) (cs ds : List Value) (hs : cs.length = d.sz) (ht : ds.length = d.sz) (hK : d.K (W.alloc (.cells (cs ++ ds).toArray e)) x cs) (hL : d.K (W.alloc (.cells (cs ++ ds).toArray e)) y ds) :
    Kd.C d (W.alloc (.cells (cs ++ ds).toArray e)) (some ⟨W.heap.size, 0, none⟩) 2 [x, y] := by
  refine ⟨rfl, by omega, fun _ => ⟨_, rfl, fun j p hj => ?_⟩⟩
  match j, hj with
  | 0, hj =>
    obtain rfl : x = p := by simpa using hj
    refine ⟨cs, hs, hK, fun i u hi => ?_⟩
    rw [Nat.zero_mul, Nat.zero_add, add_plain, blk_cell (blk_new W _) i]
    have hlt := (List.getElem?_eq_some_iff.1 hi).1
    rw [← List.getElem?_toArray] at hi
    simp only [List.getElem?_toArray] at hi ⊢
    rw [List.getElem?_append_left hlt]
    exact hi
  | 1, hj =>
    obtain rfl : y = p := by simpa using hj
    refine ⟨ds, ht, hL, fun i u hi => ?_⟩
    rw [Nat.one_mul, add_plain, blk_cell (blk_new W _) _]
    simp only [List.getElem?_toArray]
    rw [← hs, List.getElem?_append_right (Nat.le_add_right _ _), Nat.add_sub_cancel_left]
    exact hi
theorem decW_small (n : Int) (h0 : 0 ≤ n) (h1 : n < 10) : decW n = strOfNums [48 + n] := by
  unfold decW
  rw [decF_pos n (by omega), digR_small _ (by omega), show ((n.toNat : Nat) : Int) = n by omega]
  rfl
/-- The act that awake prints. -/
def actW : S57 := ⟨⟨12, 7, ⟨#[]⟩, ⟨2, [⟨5, ⟨#[]⟩⟩, ⟨0, ⟨#[97]⟩⟩]⟩⟩, false, false, 0, []⟩
theorem actW_ok : ActOk (act66 actW) := ⟨by unfold I64 act66 actW; decide, by unfold I64 act66 actW; decide, by unfold I64 act66 actW; decide, by decide, by
  intro v hv
  have hv' : v = ⟨5, ⟨#[]⟩⟩ ∨ v = ⟨0, ⟨#[97]⟩⟩ := by simpa [act66, actW] using hv
  rcases hv' with rfl | rfl
  · exact ⟨by unfold I64; decide, by decide⟩
  · exact ⟨by unfold I64; decide, by decide⟩, by decide, by intro x hx; simp [act66, actW] at hx, by decide⟩
theorem rowsW : rowsOf 0 0 0 0 0 0 ⟨#[]⟩ ([actW].map act66) = [[⟨#[100, 101, 118, 105, 99, 101]⟩, ⟨#[48]⟩, ⟨#[48]⟩, ⟨#[48]⟩, ⟨#[48]⟩, ⟨#[48]⟩, ⟨#[48]⟩], [⟨#[112, 97, 114, 99, 101, 108]⟩, ⟨#[45]⟩], [⟨#[112, 117, 116]⟩, ⟨#[50]⟩, ⟨#[55]⟩, ⟨#[53]⟩, ⟨#[58, 54, 49]⟩]] := by
  have d0 : decW 0 = ⟨#[48]⟩ := by rw [decW_small 0 (by decide) (by decide)]; rfl
  have d2 : decW 2 = ⟨#[50]⟩ := by rw [decW_small 2 (by decide) (by decide)]; rfl
  have d7 : decW 7 = ⟨#[55]⟩ := by rw [decW_small 7 (by decide) (by decide)]; rfl
  have d5 : decW 5 = ⟨#[53]⟩ := by rw [decW_small 5 (by decide) (by decide)]; rfl
  have hl : lineA (act66 actW) = [wordF 12, decW 2, decW 7, decW 5, ⟨#[58]⟩ ++ hexF ⟨#[97]⟩] := rfl
  have hx : (⟨#[58]⟩ : ByteArray) ++ hexF ⟨#[97]⟩ = ⟨#[58, 54, 49]⟩ := by decide
  have hw : wordF 12 = ⟨#[112, 117, 116]⟩ := rfl
  have hp : hexF ⟨#[]⟩ = ⟨#[45]⟩ := rfl
  unfold rowsOf headF parcelF
  rw [List.map_cons, List.map_cons, hl, d0, d2, d7, d5, hx, hw, hp]
  rfl
/-- The text that awake wants. -/
def textW : ByteArray := ⟨#[100, 101, 118, 105, 99, 101, 32, 48, 32, 48, 32, 48, 32, 48, 32, 48, 32, 48, 10, 112, 97, 114, 99, 101, 108, 32, 45, 10, 112, 117, 116, 32, 50, 32, 55, 32, 53, 32, 58, 54, 49, 10]⟩
theorem printW : printF 0 0 0 0 0 0 ⟨#[]⟩ [act66 actW] = (textW, 0) := by
  have h := print_one 0 0 0 0 0 0 ⟨#[]⟩ [actW] ⟨by unfold I64; decide, by unfold I64; decide, by unfold I64; decide, by unfold I64; decide, by unfold I64; decide, by unfold I64; decide⟩ (fun a ha => by
    obtain rfl : a = actW := by simpa using ha
    exact actW_ok)
  rw [show [act66 actW] = [actW].map act66 from rfl, h, print40F, if_pos (by decide), rowsW]
  rfl
set_option maxHeartbeats 4000000 in
set_option maxRecDepth 100000 in
theorem awake40_calls (w : World) : Calls Tryd.prog 25 #[] w fun e w' => e = .returned (.bool true) ∧ Below w.heap.size w w' := by
  have HPr : Aside0 (∀ (W : World) (A : Option Addr), Kd.C k66 W A 1 [act66 actW] → Calls Tryd.prog 26 #[.agg #[.int .i64 0, .int .i64 0, .int .i64 0, .int .i64 0, .int .i64 0, .int .i64 0, .string ⟨#[]⟩, .slice A 1 1]] W fun e w' => e = .returned (.tuple #[.string ⟨#[100, 101, 118, 105, 99, 101, 32, 48, 32, 48, 32, 48, 32, 48, 32, 48, 32, 48, 10, 112, 97, 114, 99, 101, 108, 32, 45, 10, 112, 117, 116, 32, 50, 32, 55, 32, 53, 32, 58, 54, 49, 10]⟩, .int .i64 0]) ∧ Below W.heap.size W w') := ⟨fun W A hC => by
    have h := print_calls 0 0 0 0 0 0 ⟨#[]⟩ [act66 actW] A 1 W hC ⟨by unfold I64; decide, by unfold I64; decide, by unfold I64; decide, by unfold I64; decide, by unfold I64; decide, by unfold I64; decide⟩ (by decide) (fun a ha => by
      obtain rfl : a = act66 actW := by simpa using ha
      exact actW_ok) (by decide) (by
        rw [show [act66 actW] = [actW].map act66 from rfl, rowsW]
        decide) (by
        rw [show [act66 actW] = [actW].map act66 from rfl, rowsW]
        decide)
    rw [printW] at h
    exact h⟩
  have HN : Aside0 (∀ W, Calls Tryd.prog 33 #[.string ⟨#[]⟩] W fun e w' => e = .returned (.tuple #[.agg #[.int .i64 0, .int .i64 0, .int .i64 0, .int .i64 0, .int .i64 0, .int .i64 0, .string ⟨#[]⟩, .slice none 0 0], .int .i64 1, .int .i64 4]) ∧ Below W.heap.size W w') := ⟨fun W => parse_nil W⟩
  have HV := lit2 k107 w 107 ⟨5, ⟨#[]⟩⟩ ⟨0, ⟨#[97]⟩⟩ [.int .i64 5, .string ⟨#[]⟩] [.int .i64 0, .string ⟨#[97]⟩] rfl rfl (k107_mk _ _) (k107_mk _ _)
  have HC0 := lit1 k66 ((w.alloc (.cells #[.int .i64 5, .string ⟨#[]⟩, .int .i64 0, .string ⟨#[97]⟩] 107)).alloc (.cells #[.int .i64 12, .int .i64 7, .string ⟨#[]⟩, .int .i64 2, .slice (some ⟨w.heap.size, 0, none⟩) 2 2, .bool false, .bool false, .int .i64 0, .slice none 0 0] 66)) 66 (act66 actW) [.int .i64 12, .int .i64 7, .string ⟨#[]⟩, .int .i64 2, .slice (some ⟨w.heap.size, 0, none⟩) 2 2, .bool false, .bool false, .int .i64 0, .slice none 0 0] rfl
    (k66_mk _ (act66 actW) (by decide) (Kd.C_below HV (below_alloc (below_alloc (Below.refl _ _) _) _)) (by decide) (Kd.C_nil _ _))
  rw [World.size_alloc, World.size_alloc] at HC0
  have HP1 := Aside0.mk (HPr.out (((w.alloc (.cells #[.int .i64 5, .string ⟨#[]⟩, .int .i64 0, .string ⟨#[97]⟩] 107)).alloc (.cells #[.int .i64 12, .int .i64 7, .string ⟨#[]⟩, .int .i64 2, .slice (some ⟨w.heap.size, 0, none⟩) 2 2, .bool false, .bool false, .int .i64 0, .slice none 0 0] 66)).alloc (.cells #[.int .i64 12, .int .i64 7, .string ⟨#[]⟩, .int .i64 2, .slice (some ⟨w.heap.size, 0, none⟩) 2 2, .bool false, .bool false, .int .i64 0, .slice none 0 0] 66)) (some ⟨w.heap.size + 1 + 1, 0, none⟩) HC0)
  clear HC0 HPr
  have HB := Aside0.mk (below_alloc (below_alloc (below_alloc (Below.refl w.heap.size w) (.cells #[.int .i64 5, .string ⟨#[]⟩, .int .i64 0, .string ⟨#[97]⟩] 107)) (.cells #[.int .i64 12, .int .i64 7, .string ⟨#[]⟩, .int .i64 2, .slice (some ⟨w.heap.size, 0, none⟩) 2 2, .bool false, .bool false, .int .i64 0, .slice none 0 0] 66)) (.cells #[.int .i64 12, .int .i64 7, .string ⟨#[]⟩, .int .i64 2, .slice (some ⟨w.heap.size, 0, none⟩) 2 2, .bool false, .bool false, .int .i64 0, .slice none 0 0] 66))
  clear HV
  go_enter Tryd.func25, Tryd.ntmps25
  go_wp2_with (first
    | (go_at_call 26; (with_reducible refine HP1.out.mono ?_); rintro e w1 ⟨rfl, hB⟩; have S1 := Aside0.mk (HB.out.trans (hB.mono HB.out.size)); clear hB)
    | (go_at_call 33; (with_reducible refine (HN.out _).mono ?_); rintro e w2 ⟨rfl, hB⟩; have S2 := Aside0.mk (below_alloc (S1.out.trans (hB.mono S1.out.size)) (.cells #[.int .i64 0, .int .i64 0, .int .i64 0, .int .i64 0, .int .i64 0, .int .i64 0, .string ⟨#[]⟩, .slice none 0 0] 62)); clear hB))
  go_ret
  exact ⟨rfl, S2.out⟩
end Go.Proofs.YtiddiboclfpklaaDoor.Tz
