import Derived.Test.YtiddiboclfpklaaDoorSdTzT
import Derived.Test.YtiddiboclfpklaaDoorSdTzO
import Derived.Test.YtiddiboclfpklaaDoorSdTzK
/- The document's Line, walked. -/
namespace Go.Proofs.YtiddiboclfpklaaDoor.Tz
open Go.RowKit Go.Proofs.YtiddiboclfpklaaDoorW.PrintWords Go.Proofs.YtiddiboclfpklaaDoor.PScriptReads Go.Proofs.YtiddiboclfpklaaDoor.Tx
set_option linter.unusedVariables false
set_option linter.unusedSimpArgs false

/-- A line's text. -/
def LT (L : List ByteArray) : ByteArray := ⟨(lineB L).toArray⟩
theorem LT_size (L : List ByteArray) : (LT L).size = (lineB L).length := by show (lineB L).toArray.size = _; simp
theorem LT_data (L : List ByteArray) : (LT L).data.toList = lineB L := rfl
theorem data_ext {a b : ByteArray} (h : a.data.toList = b.data.toList) : a = b := ByteArray.ext (Array.ext' h)
theorem LT_one (x : ByteArray) : LT [x] = x := data_ext (by rw [LT_data]; simp [lineB])
theorem LT_snoc (L : List ByteArray) (x : ByteArray) (h : L ≠ []) : LT (L ++ [x]) = (LT L ++ ⟨#[32]⟩) ++ x := by
  refine data_ext ?_
  cases L with
  | nil => exact absurd rfl h
  | cons a L =>
    rw [LT_data, lineB_snoc, sepB]
    simp [ByteArray.data_append, LT]
theorem LT_cut (x : ByteArray) : LT [⟨#[99, 117, 116]⟩, x] = ⟨#[99, 117, 116, 32]⟩ ++ x := data_ext (by rw [LT_data]; simp [lineB, ByteArray.data_append])
theorem colon (s h : ByteArray) : (s ++ ⟨#[32, 58]⟩) ++ h = (s ++ ⟨#[32]⟩) ++ (⟨#[58]⟩ ++ h) := data_ext (by simp [ByteArray.data_append])
theorem decW_size (n : Int) (hn : I64 n) : (decW n).size ≤ 30 := by
  unfold decW
  rw [strOf_size]
  have hn' := hn
  unfold I64 at hn'
  by_cases h : n < 0
  · have := digR_len 18 (-n).toNat (by omega)
    rw [decF_neg n h, List.length_cons, List.length_reverse]; omega
  · have := digR_len 18 n.toNat (by omega)
    rw [decF_pos n h, List.length_reverse]; omega
/-- The act's box, and nothing elder touched. -/
structure BoxSt (w wr : World) (cs : Array Value) : Prop where
  box : wr.heap[w.heap.size]? = some (.cells cs 57 (0, 0))
  bel : Below w.heap.size w wr
theorem BoxSt.below {w wr w2 : World} {cs : Array Value} (S : BoxSt w wr cs) (hb : Below wr.heap.size wr w2) : BoxSt w w2 cs := ⟨blk_below S.box hb, S.bel.trans (hb.mono S.bel.size)⟩
theorem BoxSt.new (w : World) (cs : Array Value) : BoxSt w (w.alloc (.cells cs 57)) cs := ⟨blk_new w _, below_alloc (Below.refl _ _) _⟩
theorem BoxSt.drew {w wr : World} {cs : Array Value} (S : BoxSt w wr cs) : BoxSt w wr.drew cs := ⟨S.box, below_drew1 S.bel⟩
theorem BoxSt.alloc {w wr : World} {cs : Array Value} (S : BoxSt w wr cs) (o : Obj) : BoxSt w (wr.alloc o) cs := ⟨blk_alloc S.box o, below_alloc S.bel o⟩
theorem BoxSt.drewN {w wr : World} {cs : Array Value} (S : BoxSt w wr cs) (n : Nat) : BoxSt w (wr.drewN n) cs := ⟨S.box, pw_below_drewN S.bel n⟩
def wordsL : List ByteArray := [⟨#[]⟩, ⟨#[98, 101, 103, 105, 110]⟩, ⟨#[99, 104, 117, 110, 107]⟩, ⟨#[102, 105, 110, 105, 115, 104]⟩, ⟨#[97, 98, 111, 114, 116]⟩, ⟨#[109, 105, 103, 114, 97, 116, 101]⟩, ⟨#[99, 111, 109, 109, 105, 116]⟩, ⟨#[98, 111, 111, 116]⟩, ⟨#[99, 111, 110, 102, 105, 114, 109]⟩, ⟨#[114, 111, 108, 108, 98, 97, 99, 107]⟩, ⟨#[100, 111, 119, 110, 103, 114, 97, 100, 101]⟩, ⟨#[103, 101, 116]⟩, ⟨#[112, 117, 116]⟩, ⟨#[100, 101, 108, 101, 116, 101]⟩]
theorem words_rd (k : Int) (h1 : 1 ≤ k) (h2 : k ≤ 13) : rdOf ByteArray.empty wordsL k = wordF k := by
  rcases word_cases k h1 h2 with rfl | rfl | rfl | rfl | rfl | rfl | rfl | rfl | rfl | rfl | rfl | rfl | rfl <;> rfl
theorem word_small (k : Int) : (wordF k).size ≤ 30 := by
  by_cases h : 1 ≤ k ∧ k ≤ 13
  · rcases word_cases k h.1 h.2 with rfl | rfl | rfl | rfl | rfl | rfl | rfl | rfl | rfl | rfl | rfl | rfl | rfl <;> decide
  · rw [word_none k (by omega)]; omega
set_option maxHeartbeats 1000000 in
set_option maxRecDepth 100000 in
theorem words_calls (w : World) : Calls Tryd.prog 75 #[] w fun e w' => ∃ ad, e = .returned (.slice (some ad) 14 14) ∧ Kd.C Kd.string w' (some ad) 14 wordsL ∧ Below w.heap.size w w' := by
  have HR := Aside0.mk (lit_readsS w wordsL (by decide))
  have HB := Aside0.mk (below_alloc (Below.refl w.heap.size w) (.cells (encs Value.string wordsL).toArray 9))
  go_enter Tryd.func75, Tryd.ntmps75
  go_wp2_with fail
  go_ret
  exact ⟨_, rfl, Kd.C_of_reads (enc := Value.string) (d := ByteArray.empty) (h1 := fun _ => rfl) HR.out, HB.out⟩

set_option maxHeartbeats 4000000 in
set_option maxRecDepth 100000 in
theorem l40_cut (k n : Int) (d : ByteArray) (f : Int) (vs : List S107) (m : Int) (ms : List Int) (A4 : Option Addr) (c4 : Nat) (A8 : Option Addr) (c8 : Nat) (w : World) (mount : Bool) (h8 : Kd.C (Kd.int .u32) w A8 ms.length ms) (hm : I64 m) (hms : ∀ x ∈ ms, 0 ≤ x ∧ x < 4294967296) (hl : ms.length ≤ 16777216) :
    Calls Tryd.prog 54 #[.agg #[.int .i64 k, .int .i64 n, .string d, .int .i64 f, .slice A4 vs.length c4, .bool true, .bool mount, .int .i64 m, .slice A8 ms.length c8]] w fun e w' => e = .returned (.string (LT (⟨#[99, 117, 116]⟩ :: decW m :: ms.map decW))) ∧ Below w.heap.size w w' := by
  have HR := Aside0.mk (show ReadsInt w .u32 A8 ms.length ms from Kd.reads_of_C h8)
  have HMS := Aside0.mk hms
  clear h8 hms
  obtain ⟨N, hN⟩ : ∃ N, ms.length = N := ⟨_, rfl⟩
  rw [hN] at HR hl ⊢
  have HN := Aside0.mk hN
  clear hN
  have B0 := Aside0.mk (BoxSt.new w #[.int .i64 k, .int .i64 n, .string d, .int .i64 f, .slice A4 vs.length c4, .bool true, .bool mount, .int .i64 m, .slice A8 N c8])
  have hdm := decW_size m hm
  have hl0 := LT_cut (decW m)
  obtain ⟨dm, hdm2⟩ : ∃ dm, decW m = dm := ⟨_, rfl⟩
  have HD : Aside0 (∀ W, Calls Tryd.prog 13 #[.int .i64 m] W fun e w' => e = .returned (.string dm) ∧ Below W.heap.size W w') := ⟨fun W => by rw [← hdm2]; exact r04_dec_calls m hm W⟩
  rw [hdm2] at hdm hl0 ⊢
  have hcat : 4 + dm.size ≤ 9223372036854775807 := by omega
  have HL0 := Aside0.mk hl0
  have HDM := Aside0.mk hdm
  clear hl0 hdm2 hdm
  obtain ⟨R, hR⟩ : ∃ R, LT (⟨#[99, 117, 116]⟩ :: dm :: ms.map decW) = R := ⟨_, rfl⟩
  rw [hR]
  have HRR := Aside0.mk hR
  clear hR
  go_enter Tryd.func54, Tryd.ntmps54
  go_wp2_with ((go_at_call 13; refine (HD.out _).mono ?_; rintro e w1 ⟨rfl, hB⟩; have S1 := Aside0.mk (B0.out.below hB); clear hB))
  go_loopw [3, 4] (fun v i wr => ∃ (t : Nat) (s : ByteArray), t ≤ N ∧ v = .string s ∧ i = .int .i64 (t : Int) ∧ Aside0 (BoxSt w wr #[.int .i64 k, .int .i64 n, .string d, .int .i64 f, .slice A4 vs.length c4, .bool true, .bool mount, .int .i64 m, .slice A8 N c8] ∧ s = LT ([⟨#[99, 117, 116]⟩, dm] ++ (ms.take t).map decW) ∧ s.size ≤ 1000 + 31 * t)) (fun _ i _ => N - (intOf i).toNat)
  case atStart => exact ⟨0, _, by omega, rfl, rfl, ⟨S1.out, HL0.out.symm, by have := HDM.out; rw [ByteArray.size_append]; show 4 + dm.size ≤ _; omega⟩⟩
  case round =>
    clear S1 hcat
    obtain ⟨t, s, ht, rfl, rfl, S⟩ := hrel
    have q8 : wr.cell? ⟨w.heap.size, 8, none⟩ = some (.slice A8 N c8) := (blk_cell S.out.1.box 8).trans rfl
    by_cases hlt : t < N
    · have hb5 : (0 : Int) ≤ (t : Int) := by omega
      have hb6 : (t : Int) < (N : Int) := by omega
      obtain ⟨ad, rfl, hc⟩ := (HR.out.below S.out.1.bel).at_ (t : Int) hb5 hb6
      rw [Int.toNat_natCast] at hc
      obtain ⟨x, hx⟩ : ∃ x, rd ms (t : Int) = x := ⟨_, rfl⟩
      rw [hx] at hc
      have htl : t < ms.length := by rw [HN.out]; exact hlt
      have hxe : ms[t] = x := by rw [← hx]; simp [rd, htl]
      have hxr := HMS.out x (by rw [← hxe]; exact List.getElem_mem htl)
      have hcx : IntKind.i64.wrap x = x := IntWalk.i64_in x (by omega)
      have hcx2 : wrap64 x = x := IntWalk.wrap64_in x (by omega)
      have hxI : I64 x := by unfold I64; omega
      have hdz := decW_size x hxI
      have htk : (ms.take (t + 1)).map decW = (ms.take t).map decW ++ [decW x] := by rw [List.take_succ_eq_append_getElem htl, hxe, List.map_append]; rfl
      have hs2 : (s ++ ⟨#[32]⟩) ++ decW x = LT ([⟨#[99, 117, 116]⟩, dm] ++ (ms.take (t + 1)).map decW) := by
        rw [htk, ← List.append_assoc, LT_snoc _ _ (by simp), S.out.2.1]
      have hs3 : ((s ++ ⟨#[32]⟩) ++ decW x).size ≤ 1000 + 31 * (t + 1) := by
        have := S.out.2.2
        rw [ByteArray.size_append, ByteArray.size_append]
        show s.size + 1 + _ ≤ _
        omega
      have hk1 : s.size + 1 ≤ 9223372036854775807 := by have := S.out.2.2; omega
      have hk2 : (s ++ ⟨#[32]⟩).size + (decW x).size ≤ 9223372036854775807 := by
        have := S.out.2.2
        rw [ByteArray.size_append]
        show s.size + 1 + _ ≤ _
        omega
      obtain ⟨dx, hdx⟩ : ∃ dx, decW x = dx := ⟨_, rfl⟩
      have HX : Aside0 (∀ W, Calls Tryd.prog 13 #[.int .i64 x] W fun e w' => e = .returned (.string dx) ∧ Below W.heap.size W w') := ⟨fun W => by rw [← hdx]; exact r04_dec_calls x hxI W⟩
      rw [hdx] at hk2 hs2 hs3
      have HT := Aside0.mk (And.intro hs2 hs3)
      clear hx hxe hxr htl htk hdx hdz hxI hs2 hs3
      go_wp2_with ((go_at_call 13; refine (HX.out _).mono ?_; rintro e w2 ⟨rfl, hB⟩; have S2 := Aside0.mk (S.out.1.below hB); clear hB))
      refine ⟨⟨t + 1, _, by omega, rfl, by go_num, ⟨S2.out, HT.out.1, HT.out.2⟩⟩, ?_⟩
      simp only [intOf]; omega
    · obtain rfl : t = N := by omega
      have hfull : ms.take t = ms := List.take_of_length_le (by rw [HN.out]; exact Nat.le_refl _)
      have HE : Aside0 (s = R) := ⟨by rw [S.out.2.1, hfull, ← HRR.out]; rfl⟩
      have HB := Aside0.mk S.out.1.bel
      clear hfull
      go_wp2_with fail
      go_ret
      exact ⟨by rw [HE.out]; rfl, HB.out⟩

set_option maxHeartbeats 4000000 in
set_option maxRecDepth 100000 in
theorem l40_mount (k n : Int) (d : ByteArray) (f : Int) (vs : List S107) (m : Int) (ms : List Int) (A4 : Option Addr) (c4 : Nat) (A8 : Option Addr) (c8 : Nat) (w : World) : Calls Tryd.prog 54 #[.agg #[.int .i64 k, .int .i64 n, .string d, .int .i64 f, .slice A4 vs.length c4, .bool false, .bool true, .int .i64 m, .slice A8 ms.length c8]] w fun e w' => e = .returned (.string (LT [⟨#[109, 111, 117, 110, 116]⟩])) ∧ Below w.heap.size w w' := by
  have B0 := Aside0.mk (BoxSt.new w #[.int .i64 k, .int .i64 n, .string d, .int .i64 f, .slice A4 vs.length c4, .bool false, .bool true, .int .i64 m, .slice A8 ms.length c8])
  rw [LT_one]
  go_enter Tryd.func54, Tryd.ntmps54
  go_wp2_with fail
  go_ret
  exact ⟨rfl, B0.out.bel⟩
end Go.Proofs.YtiddiboclfpklaaDoor.Tz
