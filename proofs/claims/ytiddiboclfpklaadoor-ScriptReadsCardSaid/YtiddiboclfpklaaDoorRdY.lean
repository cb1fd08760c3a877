/- Lemmas that the claim's theorem uses. -/
import Derived.Test.YtiddiboclfpklaaDoorRdX
import Derived.Test.YtiddiboclfpklaaDoorRdW
namespace Go.Proofs.YtiddiboclfpklaaDoor.Tz
open Go.RowKit Go.Proofs.YtiddiboclfpklaaDoorW.PrintWords Go.Proofs.YtiddiboclfpklaaDoor.PScriptReads Go.Proofs.YtiddiboclfpklaaDoor.Tx
set_option linter.unusedVariables false
set_option linter.unusedSimpArgs false
def opL (k n : Int) (d : ByteArray) (f : Int) (vs : List S107) : List ByteArray :=
  wordF k :: (if k = 1 then [decW n] else if k = 2 then [hexF d] else if k < 11 then [] else decW f :: decW n :: vs.map valueF)
theorem LT_word (w x : ByteArray) : LT [w, x] = (w ++ ⟨#[32]⟩) ++ x := by
  have h := LT_snoc [w] x (by simp)
  rw [LT_one] at h
  exact h
set_option maxHeartbeats 8000000 in
set_option maxRecDepth 100000 in
theorem l40_op (k n : Int) (d : ByteArray) (f : Int) (vs : List S107) (m : Int) (ms : List Int) (A4 : Option Addr) (c4 : Nat) (A8 : Option Addr) (c8 : Nat) (w : World) (h4 : Kd.C k107 w A4 vs.length vs) (hn : I64 n) (hf : I64 f) (hd : d.size ≤ 16777216) (hvs : ∀ v ∈ vs, I64 v.f0 ∧ v.f1.size ≤ 16777216) (hl : vs.length ≤ 16777216) (h1 : 1 ≤ k) (h2 : k ≤ 13) :
    Calls Tryd.prog 54 #[.agg #[.int .i64 k, .int .i64 n, .string d, .int .i64 f, .slice A4 vs.length c4, .bool false, .bool false, .int .i64 m, .slice A8 ms.length c8]] w fun e w' => e = .returned (.string (LT (opL k n d f vs))) ∧ Below w.heap.size w w' := by
  have HR := Aside0.mk h4
  have HVS := Aside0.mk hvs
  clear h4 hvs
  obtain ⟨N, hN⟩ : ∃ N, vs.length = N := ⟨_, rfl⟩
  rw [hN] at HR hl ⊢
  have HN := Aside0.mk hN
  clear hN
  have B0 := Aside0.mk (BoxSt.new w #[.int .i64 k, .int .i64 n, .string d, .int .i64 f, .slice A4 N c4, .bool false, .bool false, .int .i64 m, .slice A8 ms.length c8])
  have hwr := words_rd k h1 h2
  have hws := word_small k
  obtain ⟨R, hR⟩ : ∃ R, LT (opL k n d f vs) = R := ⟨_, rfl⟩
  rw [hR]
  replace hR : R = LT (opL k n d f vs) := hR.symm
  unfold opL at hR
  obtain ⟨wd, hwd⟩ : ∃ wd, wordF k = wd := ⟨_, rfl⟩
  rw [hwd] at hwr hws hR
  have HRR := Aside0.mk hR
  have HWR := Aside0.mk hwr
  clear hR hwr hwd
  have hcat : wd.size + 1 ≤ 9223372036854775807 := by omega
  have hk0 : (0 : Int) ≤ k := by omega
  have hk14 : k < 14 := by omega
  go_enter Tryd.func54, Tryd.ntmps54
  go_upto_region 10 with (fail)
  go_cut [5] (fun v wc => v = .string wd ∧ Aside0 (BoxSt w wc #[.int .i64 k, .int .i64 n, .string d, .int .i64 f, .slice A4 N c4, .bool false, .bool false, .int .i64 m, .slice A8 ms.length c8]))
  case first =>
    go_region_with
      ((first
        | ((go_at_call 75; (with_reducible refine (words_calls _).mono ?_)); rintro e w1 ⟨aw, rfl, hW, hB⟩
           have B1 := Aside0.mk (BoxSt.below (by with_reducible repeat (first | exact B0.out | apply BoxSt.drew | apply BoxSt.drewN)) hB)
           obtain ⟨ad, e0, hcw⟩ := Kd.at_string hW k hk0 hk14
           obtain rfl : aw = ad := Option.some.inj e0
           rw [HWR.out] at hcw
           clear hB hW e0
           have a0 : w1.cell? ⟨w.heap.size, 0, none⟩ = some (.int .i64 k) := (blk_cell B1.out.box 0).trans rfl)))
    all_goals
      go_wp2_with fail
      go_meet
      exact ⟨rfl, B1⟩
  case rest =>
  obtain ⟨rfl, B1⟩ := hcut
  have a0 : wc.cell? ⟨w.heap.size, 0, none⟩ = some (.int .i64 k) := (blk_cell B1.out.box 0).trans rfl
  have a1 : wc.cell? ⟨w.heap.size, 1, none⟩ = some (.int .i64 n) := (blk_cell B1.out.box 1).trans rfl
  have a2 : wc.cell? ⟨w.heap.size, 2, none⟩ = some (.string d) := (blk_cell B1.out.box 2).trans rfl
  have a3 : wc.cell? ⟨w.heap.size, 3, none⟩ = some (.int .i64 f) := (blk_cell B1.out.box 3).trans rfl
  clear B0
  by_cases c1 : k = 1
  · subst c1
    have hz := decW_size n hn
    have hk2 : (wd ++ ⟨#[32]⟩).size + (decW n).size ≤ 9223372036854775807 := by
      rw [ByteArray.size_append]
      show wd.size + 1 + _ ≤ _
      omega
    obtain ⟨dx, hdx⟩ : ∃ dx, decW n = dx := ⟨_, rfl⟩
    have HX : Aside0 (∀ W, Calls Tryd.prog 13 #[.int .i64 n] W fun e w' => e = .returned (.string dx) ∧ Below W.heap.size W w') := ⟨fun W => by rw [← hdx]; exact r04_dec_calls n hn W⟩
    have HE : Aside0 (R = (wd ++ ⟨#[32]⟩) ++ dx) := ⟨by rw [HRR.out, if_pos rfl, ← hdx, LT_word]⟩
    rw [hdx] at hk2
    clear hdx hz HRR
    go_wp2_with ((go_at_call 13; refine (HX.out _).mono ?_; rintro e w2 ⟨rfl, hB⟩; have S2 := Aside0.mk (B1.out.below hB); clear hB))
    go_ret
    exact ⟨by rw [HE.out]; rfl, S2.out.bel⟩
  by_cases c2 : k = 2
  · subst c2
    have hz := hexF_size d
    have hk2 : (wd ++ ⟨#[32]⟩).size + (hexF d).size ≤ 9223372036854775807 := by
      rw [ByteArray.size_append]
      show wd.size + 1 + _ ≤ _
      omega
    obtain ⟨dx, hdx⟩ : ∃ dx, hexF d = dx := ⟨_, rfl⟩
    have HX : Aside0 (∀ W, Calls Tryd.prog 18 #[.string d] W fun e w' => e = .returned (.string dx) ∧ Below W.heap.size W w') := ⟨fun W => by rw [← hdx]; exact (r04_hex_calls d hd W).mono fun e w' h => ⟨h.1, h.2.below⟩⟩
    have HE : Aside0 (R = (wd ++ ⟨#[32]⟩) ++ dx) := ⟨by rw [HRR.out, if_neg (by decide), if_pos rfl, ← hdx, LT_word]⟩
    rw [hdx] at hk2
    clear hdx hz HRR
    go_wp2_with ((go_at_call 18; refine (HX.out _).mono ?_; rintro e w2 ⟨rfl, hB⟩; have S2 := Aside0.mk (B1.out.below hB); clear hB))
    go_ret
    exact ⟨by rw [HE.out]; rfl, S2.out.bel⟩
  have e1 : (k == 1) = false := beq_eq_false_iff_ne.2 c1
  have e2 : (k == 2) = false := beq_eq_false_iff_ne.2 c2
  by_cases c3 : k < 11
  · have e3 : decide (k < 11) = true := decide_eq_true c3
    have HE : Aside0 (R = wd) := ⟨by rw [HRR.out, if_neg c1, if_neg c2, if_pos c3, LT_one]⟩
    clear HRR
    go_wp2_with fail
    go_ret
    exact ⟨by rw [HE.out]; rfl, B1.out.bel⟩
  have e3 : decide (k < 11) = false := decide_eq_false c3
  have hzf := decW_size f hf
  have hzn := decW_size n hn
  have hv1 : (wd ++ ⟨#[32]⟩).size + (decW f).size ≤ 9223372036854775807 := by
    rw [ByteArray.size_append]
    show wd.size + 1 + _ ≤ _
    omega
  have hv2 : ((wd ++ ⟨#[32]⟩) ++ decW f).size + 1 ≤ 9223372036854775807 := by
    rw [ByteArray.size_append, ByteArray.size_append]
    show wd.size + 1 + _ + 1 ≤ _
    omega
  have hv3 : (((wd ++ ⟨#[32]⟩) ++ decW f) ++ ⟨#[32]⟩).size + (decW n).size ≤ 9223372036854775807 := by
    rw [ByteArray.size_append, ByteArray.size_append, ByteArray.size_append]
    show wd.size + 1 + _ + 1 + _ ≤ _
    omega
  have hv4 : ((((wd ++ ⟨#[32]⟩) ++ decW f) ++ ⟨#[32]⟩) ++ decW n).size ≤ 1000 := by
    rw [ByteArray.size_append, ByteArray.size_append, ByteArray.size_append, ByteArray.size_append]
    show wd.size + 1 + _ + 1 + _ ≤ _
    omega
  have hv5 : (((wd ++ ⟨#[32]⟩) ++ decW f) ++ ⟨#[32]⟩) ++ decW n = LT [wd, decW f, decW n] := by
    have h := LT_snoc [wd, decW f] (decW n) (by simp)
    rw [LT_word] at h
    exact h.symm
  obtain ⟨df, hdf⟩ : ∃ df, decW f = df := ⟨_, rfl⟩
  obtain ⟨dn, hdn⟩ : ∃ dn, decW n = dn := ⟨_, rfl⟩
  have HF : Aside0 (∀ W, Calls Tryd.prog 13 #[.int .i64 f] W fun e w' => e = .returned (.string df) ∧ Below W.heap.size W w') := ⟨fun W => by rw [← hdf]; exact r04_dec_calls f hf W⟩
  have HD : Aside0 (∀ W, Calls Tryd.prog 13 #[.int .i64 n] W fun e w' => e = .returned (.string dn) ∧ Below W.heap.size W w') := ⟨fun W => by rw [← hdn]; exact r04_dec_calls n hn W⟩
  have HE : Aside0 (R = LT ([wd, df, dn] ++ vs.map valueF)) := ⟨by rw [HRR.out, if_neg c1, if_neg c2, if_neg c3, hdf, hdn]; rfl⟩
  rw [hdf] at hv1 hv2 hv3 hv4 hv5
  rw [hdn] at hv3 hv4 hv5
  have HV := Aside0.mk (And.intro hv4 hv5)
  clear hdf hdn hzf hzn hv4 hv5 HRR
  have hcatb0 := eq_true hcat
  have hcatb1 : decide (wd.size + 1 ≤ 9223372036854775807) = true := decide_eq_true hcat
  have hcatb2 : (9223372036854775807 < wd.size + 1) = False := eq_false (Nat.not_lt.2 hcat)
  have nv1 : wd.size + 1 + df.size ≤ 9223372036854775807 := by have := hv1; rw [ByteArray.size_append] at this; exact this
  have nv1b0 := eq_true nv1
  have nv1b1 : decide (wd.size + 1 + df.size ≤ 9223372036854775807) = true := decide_eq_true nv1
  have nv1b2 : (9223372036854775807 < wd.size + 1 + df.size) = False := eq_false (Nat.not_lt.2 nv1)
  have nv2 : wd.size + 1 + df.size + 1 ≤ 9223372036854775807 := by have := hv2; rw [ByteArray.size_append, ByteArray.size_append] at this; exact this
  have nv3 : wd.size + 1 + df.size + 1 + dn.size ≤ 9223372036854775807 := by have := hv3; rw [ByteArray.size_append, ByteArray.size_append, ByteArray.size_append] at this; exact this
  have nv2b0 := eq_true nv2
  have nv2b1 : decide (wd.size + 1 + df.size + 1 ≤ 9223372036854775807) = true := decide_eq_true nv2
  have nv2b2 : (9223372036854775807 < wd.size + 1 + df.size + 1) = False := eq_false (Nat.not_lt.2 nv2)
  have nv3b0 := eq_true nv3
  have nv3b1 : decide (wd.size + 1 + df.size + 1 + dn.size ≤ 9223372036854775807) = true := decide_eq_true nv3
  have nv3b2 : (9223372036854775807 < wd.size + 1 + df.size + 1 + dn.size) = False := eq_false (Nat.not_lt.2 nv3)
  go_upto_region 17 with (fail)
  go_region_held3 (fun w' => w'.cell? ⟨w.heap.size, 1, none⟩ = some (.int .i64 n) ∧ w'.cell? ⟨w.heap.size, 3, none⟩ = some (.int .i64 f))
    (first | go_keep | exact ⟨a1, a3⟩ | exact ⟨b1, b3⟩ | exact ⟨g1, g3⟩)
    ((first
      | (go_at_call 13; first | ((with_reducible refine (HF.out _).mono ?_); rintro e w2 ⟨rfl, hB⟩; have B2 := Aside0.mk (BoxSt.below (by with_reducible repeat (first | exact B1.out | apply BoxSt.drew | apply BoxSt.drewN)) hB); clear hB; have b1 : w2.cell? ⟨w.heap.size, 1, none⟩ = some (.int .i64 n) := (blk_cell B2.out.box 1).trans rfl; have b3 : w2.cell? ⟨w.heap.size, 3, none⟩ = some (.int .i64 f) := (blk_cell B2.out.box 3).trans rfl) | ((with_reducible refine (HD.out _).mono ?_); rintro e w3 ⟨rfl, hB⟩; have B3 := Aside0.mk (BoxSt.below (by with_reducible repeat (first | exact B2.out | apply BoxSt.drew | apply BoxSt.drewN)) hB); clear hB; have g1 : w3.cell? ⟨w.heap.size, 1, none⟩ = some (.int .i64 n) := (blk_cell B3.out.box 1).trans rfl; have g3 : w3.cell? ⟨w.heap.size, 3, none⟩ = some (.int .i64 f) := (blk_cell B3.out.box 3).trans rfl))
      | fail))
  go_wp2_with fail
  clear nv1 nv1b0 nv1b1 nv1b2 nv2 nv2b0 nv2b1 nv2b2 nv3 nv3b0 nv3b1 nv3b2 hv1 hv2 hv3 hcat hcatb0 hcatb1 hcatb2
  go_loopw [5, 6] (fun v i wr => ∃ (t : Nat) (s : ByteArray), t ≤ N ∧ v = .string s ∧ i = .int .i64 (t : Int) ∧ Aside0 (BoxSt w wr #[.int .i64 k, .int .i64 n, .string d, .int .i64 f, .slice A4 N c4, .bool false, .bool false, .int .i64 m, .slice A8 ms.length c8] ∧ s = LT ([wd, df, dn] ++ (vs.take t).map valueF) ∧ s.size ≤ 1000 + 33554440 * t)) (fun _ i _ => N - (intOf i).toNat)
  case atStart => exact ⟨0, _, by omega, rfl, rfl, ⟨B3.out, HV.out.2, HV.out.1⟩⟩
  case round =>
    clear B1 B2 B3 a0 a1 a2 a3 b1 b3 g1 g3
    obtain ⟨t, s, ht, rfl, rfl, S⟩ := hrel
    have q4 : wr.cell? ⟨w.heap.size, 4, none⟩ = some (.slice A4 N c4) := (blk_cell S.out.1.box 4).trans rfl
    by_cases hlt : t < N
    · have hb5 : (0 : Int) ≤ (t : Int) := by omega
      have hb6 : (t : Int) < (N : Int) := by omega
      obtain ⟨ad, rfl, hc0, hc1⟩ := at_T107 (Kd.C_below HR.out S.out.1.bel) (t : Int) hb5 hb6
      rw [Int.toNat_natCast] at hc0 hc1
      obtain ⟨x, hx⟩ : ∃ x, rd_T107 vs (t : Int) = x := ⟨_, rfl⟩
      rw [hx] at hc0 hc1
      obtain ⟨htk, hxm⟩ := rd_T_take vs t x (by rw [HN.out]; exact hlt) hx
      obtain ⟨hx0, hx1⟩ := HVS.out x hxm
      obtain ⟨x0, x1⟩ := x
      replace hc0 : wr.cell? (ad.add (t * 2)) = some (.int .i64 x0) := hc0
      replace hc1 : wr.cell? ⟨(ad.add (t * 2)).block, (ad.add (t * 2)).off + 1, none⟩ = some (.string x1) := hc1
      replace hx0 : I64 x0 := hx0
      replace hx1 : x1.size ≤ 16777216 := hx1
      have SA := Aside0.mk (BoxSt.alloc S.out.1 (.cells #[.int .i64 x0, .string x1] 107))
      have hsz := S.out.2.2
      have hlt2 : (s ++ ⟨#[32]⟩) ++ valueF ⟨x0, x1⟩ = LT ([wd, df, dn] ++ (vs.take (t + 1)).map valueF) := by
        rw [htk, ← List.append_assoc, LT_snoc _ _ (by simp), S.out.2.1]
      have HT := Aside0.mk hlt2
      clear hx hxm htk hlt2
      by_cases h0 : x1.size = 0
      · obtain rfl := empty_of h0
        have hvf : valueF ⟨x0, ⟨#[]⟩⟩ = decW x0 := rfl
        have hz := decW_size x0 hx0
        have hk1 : s.size + 1 ≤ 9223372036854775807 := by omega
        have hk2 : (s ++ ⟨#[32]⟩).size + (decW x0).size ≤ 9223372036854775807 := by
          rw [ByteArray.size_append]
          show s.size + 1 + _ ≤ _
          omega
        have hk3 : ((s ++ ⟨#[32]⟩) ++ decW x0).size ≤ 1000 + 33554440 * (t + 1) := by
          rw [ByteArray.size_append, ByteArray.size_append]
          show s.size + 1 + _ ≤ _
          omega
        obtain ⟨dx, hdx⟩ : ∃ dx, decW x0 = dx := ⟨_, rfl⟩
        have HX : Aside0 (∀ W, Calls Tryd.prog 13 #[.int .i64 x0] W fun e w' => e = .returned (.string dx) ∧ Below W.heap.size W w') := ⟨fun W => by rw [← hdx]; exact r04_dec_calls x0 hx0 W⟩
        rw [hdx] at hk2 hk3 hvf
        rw [hvf] at HT
        have HK := Aside0.mk hk3
        clear hdx hvf hz hk3 hx0 hx1 h0 hsz
        go_wp2_with ((go_at_call 13; refine (HX.out _).mono ?_; rintro e w2 ⟨rfl, hB⟩; have S2 := Aside0.mk (SA.out.below hB); clear hB))
        refine ⟨⟨t + 1, _, by omega, rfl, by go_num, ⟨S2.out, HT.out, HK.out⟩⟩, ?_⟩
        simp only [intOf]; omega
      · have hvf : valueF ⟨x0, x1⟩ = ⟨#[58]⟩ ++ hexF x1 := if_neg h0
        have hne := nonempty_false h0
        have hz := hexF_size x1
        have hk1 : s.size + 2 ≤ 9223372036854775807 := by omega
        have hk2 : (s ++ ⟨#[32, 58]⟩).size + (hexF x1).size ≤ 9223372036854775807 := by
          rw [ByteArray.size_append]
          show s.size + 2 + _ ≤ _
          omega
        have hk3 : ((s ++ ⟨#[32, 58]⟩) ++ hexF x1).size ≤ 1000 + 33554440 * (t + 1) := by
          rw [ByteArray.size_append, ByteArray.size_append]
          show s.size + 2 + _ ≤ _
          omega
        rw [hvf, ← colon] at HT
        obtain ⟨dx, hdx⟩ : ∃ dx, hexF x1 = dx := ⟨_, rfl⟩
        have HX : Aside0 (∀ W, Calls Tryd.prog 18 #[.string x1] W fun e w' => e = .returned (.string dx) ∧ Below W.heap.size W w') := ⟨fun W => by rw [← hdx]; exact (r04_hex_calls x1 hx1 W).mono fun e w' h => ⟨h.1, h.2.below⟩⟩
        rw [hdx] at hk2 hk3 HT
        have HK := Aside0.mk hk3
        clear hdx hvf hz hk3 hx0 hx1 h0 hsz
        go_wp2_with ((go_at_call 18; refine (HX.out _).mono ?_; rintro e w2 ⟨rfl, hB⟩; have S2 := Aside0.mk (SA.out.below hB); clear hB))
        refine ⟨⟨t + 1, _, by omega, rfl, by go_num, ⟨S2.out, HT.out, HK.out⟩⟩, ?_⟩
        simp only [intOf]; omega
    · obtain rfl : t = N := by omega
      have hfull : vs.take t = vs := List.take_of_length_le (by rw [HN.out]; exact Nat.le_refl _)
      have HE2 : Aside0 (s = R) := ⟨by rw [S.out.2.1, hfull, ← HE.out]⟩
      have HB := Aside0.mk S.out.1.bel
      clear hfull
      go_wp2_with fail
      go_ret
      exact ⟨by rw [HE2.out]; rfl, HB.out⟩
end Go.Proofs.YtiddiboclfpklaaDoor.Tz
namespace Go.Proofs.YtiddiboclfpklaaDoor.Tz
open Go.RowKit Go.Proofs.YtiddiboclfpklaaDoorW.PrintWords Go.Proofs.YtiddiboclfpklaaDoor.PScriptReads Go.Proofs.YtiddiboclfpklaaDoor.Tx
set_option linter.unusedVariables false
set_option linter.unusedSimpArgs false
def numAt (l : List ByteArray) (i : Nat) : Int × Bool := if i < l.length then (numOf (l.getD i ByteArray.empty), isNum (l.getD i ByteArray.empty)) else (0, false)
set_option maxHeartbeats 1000000 in
set_option maxRecDepth 100000 in
theorem number_calls (l : List ByteArray) (A : Option Addr) (c : Nat) (i : Nat) (w : World) (hr : Kd.C Kd.string w A l.length l) :
  Calls Tryd.prog 66 #[.slice A l.length c, .int .i64 (i : Int)] w fun e w' => e = .returned (.tuple #[.int .i64 (numAt l i).1, .bool (numAt l i).2]) ∧ Below w.heap.size w w' := by
 have HB := Aside0.mk (Below.refl w.heap.size w)
 by_cases h : i < l.length
 ·obtain ⟨ad, rfl, hc⟩ := Kd.at_string hr (i : Int) (by omega) (by omega)
  rw [Int.toNat_natCast] at hc
  obtain ⟨x, hx⟩ : ∃ x, l.getD i ByteArray.empty = x := ⟨_, rfl⟩
  have hc0 : w.cell? (ad.add i) = some (.string x) := by
   rw [← hx]
   have e : rdOf ByteArray.empty l (i : Int) = l.getD i ByteArray.empty := by simp [rdOf]
   rw [e] at hc
   exact hc
  have hn : numAt l i = ((readS x).1, (readS x).2 == 0) := by
   unfold numAt
   rw [if_pos h, hx]
   unfold numOf isNum
   rw [read_same]
   by_cases h0 : (readS x).2 = 0
   ·rw [h0]; rfl
   ·rw [decide_eq_false h0, show ((readS x).2 == 0) = false from beq_eq_false_iff_ne.2 h0]
  rw [hn]
  have HR : Aside0 (∀ W, Calls Tryd.prog 11 #[.string x] W fun e w' => e = .returned (.tuple #[.int .i64 (readS x).1, .int .i64 (readS x).2]) ∧ Below W.heap.size W w') := ⟨fun W => r04_read_calls x W⟩
  obtain ⟨a, ha⟩ : ∃ a, (readS x).1 = a := ⟨_, rfl⟩
  obtain ⟨b, hb⟩ : ∃ b, (readS x).2 = b := ⟨_, rfl⟩
  rw [ha, hb] at HR ⊢
  have h1 : (0 : Int) ≤ (i : Int) := by omega
  have h2 : (i : Int) < (l.length : Int) := by omega
  have h3 : decide ((l.length : Int) ≤ (i : Int)) = false := decide_eq_false (by omega)
  have h4 : decide (l.length ≤ i) = false := decide_eq_false (by omega)
  clear hr hc hn ha hb hx
  go_enter Tryd.func66, Tryd.ntmps66
  go_wp2_with ((go_at_call 11; refine (HR.out _).mono ?_; rintro e w2 ⟨rfl, hB⟩; have B2 := Aside0.mk (HB.out.trans hB); clear hB))
  go_ret2
  exact ⟨rfl, B2.out⟩
 ·have hn : numAt l i = (0, false) := if_neg h
  rw [hn]
  have h3 : decide ((l.length : Int) ≤ (i : Int)) = true := decide_eq_true (by omega)
  have h4 : decide (l.length ≤ i) = true := decide_eq_true (by omega)
  clear hr hn
  go_enter Tryd.func66, Tryd.ntmps66
  go_wp2_with fail
  go_ret2
  exact ⟨rfl, HB.out⟩
theorem kindF_word (k : Int) (h1 : 1 ≤ k) (h2 : k ≤ 13) : kindF (wordF k) = k := by
 have h := (kind_words ⟨(k - 1).toNat, by omega⟩).1
 have e : (((k - 1).toNat : Nat) : Int) + 1 = k := by omega
 rw [show ((⟨(k - 1).toNat, by omega⟩ : Fin 13).val : Int) + 1 = k from e] at h
 exact h
theorem kindF_none (s : ByteArray) (h : ∀ j : Int, 1 ≤ j → j < 14 → wordF j ≠ s) : kindF s = 0 := by
 rcases kindU_word s 13 with h1 | ⟨k, h1, _, h3⟩
 ·exact h1
 ·exact absurd h3.symm (h ((k : Int) + 1) (by omega) (by omega))
set_option maxHeartbeats 1000000 in
set_option maxRecDepth 100000 in
theorem kind_calls (s : ByteArray) (w : World) : Calls Tryd.prog 82 #[.string s] w fun e w' => e = .returned (.int .i64 (kindF s)) ∧ Below w.heap.size w w' := by
 have HW : Aside0 (∀ W, Calls Tryd.prog 75 #[] W fun e w' => ∃ ad, e = .returned (.slice (some ad) 14 14) ∧ Kd.C Kd.string w' (some ad) 14 wordsL ∧ Below W.heap.size W w') := ⟨fun W => words_calls W⟩
 go_enter Tryd.func82, Tryd.ntmps82
 go_wp2_with ((go_at_call 75; refine (HW.out _).mono ?_; rintro e w2 ⟨ad, rfl, hC, hB⟩; have C2 := Aside0.mk (And.intro hC hB); clear hB hC))
 go_loopw [4] (fun i wr => ∃ t : Nat, 1 ≤ t ∧ t ≤ 14 ∧ i = .int .i64 (t : Int) ∧ wr = w2 ∧ Aside0 (∀ j : Int, 1 ≤ j → j < t → wordF j ≠ s)) (fun i _ => 14 - (intOf i).toNat)
 case atStart => exact ⟨1, by omega, by omega, rfl, rfl, ⟨fun j h1 h2 => by omega⟩⟩
 case round =>
  obtain ⟨t, h1, h14, rfl, rfl, HN⟩ := hrel
  by_cases hlt : t < 14
  ·have hb5 : (0 : Int) ≤ (t : Int) := by omega
   have hb6 : (t : Int) < 14 := by omega
   have hb7 : t < 14 := hlt
   obtain ⟨a2, he, hc⟩ := Kd.at_string C2.out.1 (t : Int) hb5 hb6
   obtain rfl : ad = a2 := Option.some.inj he
   rw [Int.toNat_natCast, words_rd (t : Int) (by omega) (by omega)] at hc
   obtain ⟨wd, hwd⟩ : ∃ wd, wordF (t : Int) = wd := ⟨_, rfl⟩
   rw [hwd] at hc
   by_cases hs : wd = s
   ·have hk : kindF s = (t : Int) := by rw [← hs, ← hwd]; exact kindF_word _ (by omega) (by omega)
    have e1 : (wd.toList == s.toList) = true := by rw [word_eq]; exact decide_eq_true hs
    have HK := Aside0.mk hk
    clear hk hs hwd he
    go_wp2_with fail
    go_ret
    exact ⟨by rw [HK.out]; rfl, C2.out.2⟩
   ·have e1 : (wd.toList == s.toList) = false := by rw [word_eq]; exact decide_eq_false hs
    have HS := Aside0.mk (And.intro hwd hs)
    clear hwd hs he
    go_wp2_with fail
    refine ⟨⟨t + 1, by omega, by omega, by go_num, trivial, ⟨fun j g1 g2 => ?_⟩⟩, ?_⟩
    ·by_cases hj : j < t
     ·exact HN.out j g1 hj
     ·obtain rfl : j = (t : Int) := by omega
      rw [HS.out.1]; exact HS.out.2
    ·simp only [intOf]; omega
  ·obtain rfl : t = 14 := by omega
   have hk := kindF_none s HN.out
   have HK := Aside0.mk hk
   clear hk
   go_wp2_with fail
   go_ret
   exact ⟨by rw [HK.out]; rfl, C2.out.2⟩
set_option maxHeartbeats 1000000 in
set_option maxRecDepth 100000 in
theorem joined_calls (l : List ByteArray) (A : Option Addr) (c : Nat) (w : World) (hr : Kd.C Kd.string w A l.length l) (hs : (lineB l).length ≤ 16777216) (hl : l.length ≤ 16777217) :
  Calls Tryd.prog 68 #[.slice A l.length c] w fun e w' => e = .returned (.string (LT l)) ∧ Below w.heap.size w w' := by
 have HR := Aside0.mk hr
 have HS := Aside0.mk hs
 clear hr hs
 obtain ⟨N, hN⟩ : ∃ N, l.length = N := ⟨_, rfl⟩
 rw [hN] at HR hl ⊢
 have HN := Aside0.mk hN
 clear hN
 go_enter Tryd.func68, Tryd.ntmps68
 go_wp2_with fail
 go_loopw [3, 4] (fun v i wr => ∃ (t : Nat) (s : ByteArray), t ≤ N ∧ v = .string s ∧ i = .int .i64 (t : Int) ∧ Aside0 (s = LT (l.take t)) ∧ wr = w) (fun _ i _ => N - (intOf i).toNat)
 case atStart => exact ⟨0, ⟨#[]⟩, by omega, rfl, rfl, ⟨rfl⟩, rfl⟩
 case round =>
  obtain ⟨t, s, ht, rfl, rfl, HT, rfl⟩ := hrel
  by_cases hlt : t < N
  ·have hb5 : (0 : Int) ≤ (t : Int) := by omega
   have hb6 : (t : Int) < (N : Int) := by omega
   obtain ⟨ad, rfl, hc⟩ := Kd.at_string HR.out (t : Int) hb5 hb6
   rw [Int.toNat_natCast] at hc
   have htl : t < l.length := by rw [HN.out]; exact hlt
   obtain ⟨x, hx⟩ : ∃ x, rdOf ByteArray.empty l (t : Int) = x := ⟨_, rfl⟩
   rw [hx] at hc
   have hxe : l[t] = x := by rw [← hx]; simp [rdOf, htl]
   have htk : l.take (t + 1) = l.take t ++ [x] := by rw [List.take_succ_eq_append_getElem htl, hxe]
   have hz : (LT (l.take (t + 1))).size ≤ 16777216 := by
    rw [LT_size]
    have h1 := lineB_len (l.take (t + 1)) (l.drop (t + 1))
    rw [List.take_append_drop] at h1
    have := HS.out
    omega
   have HTK := Aside0.mk (And.intro htk hz)
   clear hx hxe htl htk hz
   by_cases h0 : t = 0
   ·subst h0
    have hs0 : s = ⟨#[]⟩ := HT.out
    subst hs0
    have he : LT (l.take (0 + 1)) = x := by rw [HTK.out.1, List.take_zero, List.nil_append, LT_one]
    have hxz : x.size ≤ 16777216 := by have := HTK.out.2; rw [he] at this; exact this
    have HE := Aside0.mk he
    have hc1 : wr.cell? ad = some (.string x) := by
     have h := hc
     rw [Addr.add_zero'] at h
     exact h
    clear he hc
    go_wp2_with fail
    refine ⟨⟨0 + 1, _, by omega, rfl, by go_num, ⟨?_⟩, trivial⟩, ?_⟩
    ·rw [HE.out]
     first
      | rfl
      | exact data_ext (by simp)
      | simp
    ·simp only [intOf]; omega
   ·have hn : LT (l.take (t + 1)) = (s ++ ⟨#[32]⟩) ++ x := by
     rw [HTK.out.1, LT_snoc _ _ (fun e => h0 (by have := congrArg List.length e; rw [List.length_take, HN.out] at this; simp at this; omega)), ← HT.out]
    have hsz : s.size + 1 + x.size ≤ 16777216 := by
     have := HTK.out.2
     rw [hn, ByteArray.size_append, ByteArray.size_append, show (⟨#[32]⟩ : ByteArray).size = 1 from rfl] at this
     exact this
    have q1 : s.size + 1 ≤ 9223372036854775807 := by omega
    have q2 : s.size + 1 + x.size ≤ 9223372036854775807 := by omega
    have q10 := eq_true q1
    have q11 : decide (s.size + 1 ≤ 9223372036854775807) = true := decide_eq_true q1
    have q12 : (9223372036854775807 < s.size + 1) = False := eq_false (Nat.not_lt.2 q1)
    have q20 := eq_true q2
    have q21 : decide (s.size + 1 + x.size ≤ 9223372036854775807) = true := decide_eq_true q2
    have q22 : (9223372036854775807 < s.size + 1 + x.size) = False := eq_false (Nat.not_lt.2 q2)
    have hp : decide (0 < (t : Int)) = true := decide_eq_true (by omega)
    have hp2 : decide (0 < t) = true := decide_eq_true (by omega)
    have HH := Aside0.mk hn
    clear hn hsz h0
    go_wp2_with fail
    refine ⟨⟨t + 1, _, by omega, rfl, by go_num, ⟨HH.out.symm⟩, trivial⟩, ?_⟩
    simp only [intOf]; omega
  ·obtain rfl : t = N := by omega
   have hfull : l.take t = l := List.take_of_length_le (by rw [HN.out]; exact Nat.le_refl _)
   have HF : Aside0 (s = LT l) := ⟨by rw [HT.out, hfull]⟩
   clear hfull
   go_wp2_with fail
   go_ret
   exact ⟨by rw [← HF.out]; rfl, Below.refl _ _⟩
end Go.Proofs.YtiddiboclfpklaaDoor.Tz
namespace Go.Proofs.YtiddiboclfpklaaDoor.Tz
open Go.RowKit Go.Proofs.YtiddiboclfpklaaDoorW.PrintWords Go.Proofs.YtiddiboclfpklaaDoor.PScriptReads Go.Proofs.YtiddiboclfpklaaDoor.Tx
set_option linter.unusedVariables false
set_option linter.unusedSimpArgs false
theorem size57 : (Tryd.prog.info? 57).map (·.size) = some 9 := by kernel_rfl
def mask40 (x : Int) : Int := IntKind.u32.wrap (Go.bits .and .i64 x 4294967295)
def val40 (y : ByteArray) : S107 := ⟨numOf y, if colonF y then (unhexS (restF y)).1 else ⟨#[]⟩⟩
def nth (r : List ByteArray) (i : Nat) : Int := if i < r.length then numOf (r.getD i ByteArray.empty) else 0
theorem numAt_nth (x : ByteArray) (r : List ByteArray) (i : Nat) : (numAt (x :: r) (i + 1)).1 = nth r i := by
 unfold numAt nth
 by_cases h : i < r.length
 ·rw [if_pos h, if_pos (by simp; omega)]; rfl
 ·rw [if_neg h, if_neg (by simp; omega)]
def cut40 (r : List ByteArray) : S66 := ⟨z54, true, false, nth r 0, (r.drop 1).map (fun y => mask40 (numOf y))⟩
def kind40 (mt : Bool) (k : Int) (r : List ByteArray) : S66 :=
 if k = 1 then ⟨⟨1, nth r 0, ⟨#[]⟩, ⟨0, []⟩⟩, false, mt, 0, []⟩
 else if k = 2 then ⟨⟨2, 0, if 0 < r.length then (unhexS (r.getD 0 ByteArray.empty)).1 else ⟨#[]⟩, ⟨0, []⟩⟩, false, mt, 0, []⟩
 else if 11 ≤ k then ⟨⟨k, nth r 1, ⟨#[]⟩, ⟨nth r 0, (r.drop 2).map val40⟩⟩, false, mt, 0, []⟩
 else ⟨⟨k, 0, ⟨#[]⟩, ⟨0, []⟩⟩, false, mt, 0, []⟩
def act40 (x : ByteArray) (r : List ByteArray) : S66 := if x = cutW then cut40 r else kind40 (decide (x = mountW)) (kindF x) r
structure A7 (w wr : World) (cs : Array Value) : Prop where
 box : wr.heap[w.heap.size + 1]? = some (.cells cs 57 (0, 0))
 res : wr.heap[w.heap.size]? = some (.cells zero66 57 (0, 0))
 bel : Below w.heap.size w wr
theorem A7.new (w : World) (cs : Array Value) : A7 w ((w.alloc (.cells zero66 57)).alloc (.cells cs 57)) cs := by
 have h1 := blk_new (w.alloc (.cells zero66 57)) (.cells cs 57)
 rw [World.size_alloc] at h1
 exact ⟨h1, blk_alloc (blk_new w _) _, below_alloc (below_alloc (Below.refl _ _) _) _⟩
theorem A7.below {w wr w4 : World} {cs : Array Value} (S : A7 w wr cs) (hB : Below wr.heap.size wr w4) : A7 w w4 cs := ⟨blk_below S.box hB, blk_below S.res hB, S.bel.trans (hB.mono S.bel.size)⟩
theorem A7.put {w wr : World} {cs : Array Value} (S : A7 w wr cs) (j : Nat) (u : Value) : A7 w (wr.setCell ⟨w.heap.size + 1, j, none⟩ u) (cs.setIfInBounds j u) := ⟨blk_set S.box j u, blk_far S.res (by show w.heap.size ≠ w.heap.size + 1; omega) u, below_set S.bel (Nat.le_succ _)⟩
theorem A7.drew {w wr : World} {cs : Array Value} (S : A7 w wr cs) : A7 w wr.drew cs := ⟨S.box, S.res, below_drew1 S.bel⟩
theorem ty116_57 : ∀ q : Nat, q ∈ 116 :: (Kd.int .u32).E → q ≠ 57 := by
 intro q hq
 have h : q ∈ [116] := hq
 rw [List.mem_singleton.1 h]; decide
theorem ty107_57 : ∀ q : Nat, q ∈ 107 :: k107.E → q ≠ 57 := by
 intro q hq
 have h : q ∈ [107] := hq
 rw [List.mem_singleton.1 h]; decide
structure C7 (w wr : World) (n : Int) (v : Value) (ms : List Int) : Prop where
 a7 : A7 w wr (cells66 0 0 ⟨#[]⟩ 0 (.slice none 0 0) true false n v)
 row : Kd.R (Kd.int .u32) 116 wr w.heap.size (fun _ => True) v ms
theorem C7.app {w wr w4 : World} {n m : Int} {v v4 : Value} {ms : List Int} (S : C7 w wr n v ms) (ho : Kd.R (Kd.int .u32) 116 w4 w.heap.size (fun _ => True) v4 (ms ++ [m])) (hb : Below w.heap.size w w4) (hg : wr.grownBy w4 v.ownBlock) :
  C7 w (w4.setCell ⟨w.heap.size + 1, 8, none⟩ v4) n v4 (ms ++ [m]) := by
 have hbox := blk_grown S.a7.box hg (Kd.R_ne S.row S.a7.box (by decide))
 have hres := blk_grown S.a7.res hg (Kd.R_ne S.row S.a7.res (by decide))
 exact ⟨⟨blk_put hbox 8 v4 rfl, blk_far hres (by show w.heap.size ≠ w.heap.size + 1; omega) v4, below_set hb (Nat.le_succ _)⟩, Kd.R_set ho hbox ty116_57 8 v4⟩
theorem C7.below {w wr w4 : World} {n : Int} {v : Value} {ms : List Int} (S : C7 w wr n v ms) (hB : Below wr.heap.size wr w4) : C7 w w4 n v ms := ⟨S.a7.below hB, Kd.R_below S.row hB⟩
def Act40Post (w : World) (a : S66) (e : Ending) (w' : World) : Prop := (∃ v4 v8, e = .returned (.agg (actC a v4 v8)) ∧ ActR w w' a v4 v8) ∧ Below w.heap.size w w'
set_option maxHeartbeats 4000000 in
set_option maxRecDepth 100000 in
theorem act40_cut (x : ByteArray) (r : List ByteArray) (A : Option Addr) (c : Nat) (w : World) (hr : Kd.C Kd.string w A (x :: r).length (x :: r)) (hc : (x :: r).length ≤ c) (hx : ∀ y ∈ x :: r, y.size ≤ 16777216) (hne : ∀ y ∈ r, 0 < y.size) (hl : r.length ≤ 16777216) (hxc : x = cutW) :
  Calls Tryd.prog 67 #[.slice A (r.length + 1) c] w (Act40Post w (cut40 r)) := by
 obtain ⟨ad, hA, hc0⟩ := Kd.at_string hr 0 (by omega) (by simp)
 subst hA
 have hce : w.cell? ad = some (.string x) := by
  rw [show (0 : Int).toNat = 0 from rfl, Addr.add_zero'] at hc0
  exact hc0
 have HX := Aside0.mk (And.intro hr (And.intro hce (And.intro hx (And.intro hne hl))))
 have hcm : ((w.alloc (.cells #[.int .i64 0, .int .i64 0, .string ⟨#[]⟩, .int .i64 0, .slice none 0 0, .bool false, .bool false, .int .i64 0, .slice none 0 0] 57)).alloc (.cells #[.int .i64 0, .int .i64 0, .string ⟨#[]⟩, .int .i64 0, .slice none 0 0, .bool false, .bool false, .int .i64 0, .slice none 0 0] 57)).cell? ad = some (.string x) := pw_cell_below (below_alloc (below_alloc (Below.refl _ _) _) _) hce
 have hcm1 : (w.alloc (.cells #[.int .i64 0, .int .i64 0, .string ⟨#[]⟩, .int .i64 0, .slice none 0 0, .bool false, .bool false, .int .i64 0, .slice none 0 0] 57)).cell? ad = some (.string x) := pw_cell_below (below_alloc (Below.refl _ _) _) hce
 have HNu : Aside0 (∀ W (i : Nat), Below w.heap.size w W → Calls Tryd.prog 66 #[.slice (some ad) (r.length + 1) c, .int .i64 (i : Int)] W fun e w' => e = .returned (.tuple #[.int .i64 (numAt (x :: r) i).1, .bool (numAt (x :: r) i).2]) ∧ Below W.heap.size W w') := ⟨fun W i hb => number_calls (x :: r) (some ad) c i W (Kd.C_below HX.out.1 hb)⟩
 have HN1 : Aside0 (∀ W, Below w.heap.size w W → Calls Tryd.prog 66 #[.slice (some ad) (r.length + 1) c, .int .i64 1] W fun e w' => (∃ b, e = .returned (.tuple #[.int .i64 (nth r 0), .bool b])) ∧ Below W.heap.size W w') := ⟨fun W hb => (HNu.out W 1 hb).mono (by
  rintro e w' ⟨rfl, hB⟩
  exact ⟨⟨_, by rw [numAt_nth]⟩, hB⟩)⟩
 have HN2 : Aside0 (∀ W, Below w.heap.size w W → Calls Tryd.prog 66 #[.slice (some ad) (r.length + 1) c, .int .i64 2] W fun e w' => (∃ b, e = .returned (.tuple #[.int .i64 (nth r 1), .bool b])) ∧ Below W.heap.size W w') := ⟨fun W hb => (HNu.out W 2 hb).mono (by
  rintro e w' ⟨rfl, hB⟩
  exact ⟨⟨_, by rw [numAt_nth]⟩, hB⟩)⟩
 obtain ⟨n, hn⟩ : ∃ n, nth r 0 = n := ⟨_, rfl⟩
 obtain ⟨m, hm⟩ : ∃ m, nth r 1 = m := ⟨_, rfl⟩
 rw [hn] at HN1
 rw [hm] at HN2
 obtain ⟨L, hL⟩ : ∃ L, r.length + 1 = L := ⟨_, rfl⟩
 rw [hL] at HNu HN1 HN2 ⊢
 have HL := Aside0.mk (And.intro hL (And.intro hn hm))
 have S00 := Aside0.mk (A7.new w (cells66 0 0 ⟨#[]⟩ 0 (.slice none 0 0) true false 0 (.slice none 0 0)))
 have hq0 : (0 : Int) < (L : Int) := by omega
 have hLb : L ≤ 16777217 := by omega
 clear hr hc hx hne hl hc0 hL hn hm
 have hw : (x.toList == [99, 117, 116]) = true := by rw [hxc, cutW_list]; simp
 have hw2 : (x.toList == [109, 111, 117, 110, 116]) = false := by rw [hxc, cutW_list]; rfl
 clear hxc
 go_enter Tryd.func67, Tryd.ntmps67
 go_upto_region 1 with (fail)
 go_cut [3] (fun v wc => v = .pointer (some ⟨w.heap.size + 1, 0, none⟩) ∧ Aside0 (A7 w wc (cells66 0 0 ⟨#[]⟩ 0 (.slice none 0 0) true false 0 (.slice none 0 0))))
 case first =>
  go_region
  all_goals go_wp2
  all_goals go_meet
  all_goals exact ⟨rfl, ⟨S00.out.drew⟩⟩
 case rest =>
  obtain ⟨rfl, S0⟩ := hcut
  clear hcm hcm1 hw hw2
  go_wp2_with (first
   | (go_at_call 66; (with_reducible refine (HN1.out _ S0.out.bel).mono ?_); rintro e w4 ⟨⟨b4, rfl⟩, hB⟩; have S4 := Aside0.mk (S0.out.below hB); clear hB)
   | (go_at_call 66; (with_reducible refine (HN2.out _ S4.out.bel).mono ?_); rintro e w5 ⟨⟨b5, rfl⟩, hB⟩; have S5 := Aside0.mk (S4.out.below hB); have z5 : w5.cell? ⟨w.heap.size + 1, 5, none⟩ = some (.bool true) := (blk_cell S5.out.box 5).trans rfl; have f5 := blk_frozen S5.out.box 5; have z7 : w5.cell? ⟨w.heap.size + 1, 7, none⟩ = some (.int .i64 0) := (blk_cell S5.out.box 7).trans rfl; have f7 := blk_frozen S5.out.box 7;  clear hB))
  obtain ⟨ms, hms⟩ : ∃ ms, (r.drop 1).map (fun y => mask40 (numOf y)) = ms := ⟨_, rfl⟩
  have HMS : Aside0 ((r.drop 1).map (fun y => mask40 (numOf y)) = ms ∧ ms.length = L - 2) := ⟨hms, by rw [← hms, List.length_map, List.length_drop, ← HL.out.1]; omega⟩
  clear hms
  have S6 : Aside0 (C7 w (w5.setCell ⟨w.heap.size + 1, 7, none⟩ (.int .i64 n)) n (.slice none 0 0) (ms.take 0)) := ⟨⟨S5.out.put 7 (.int .i64 n), Kd.R_nil _ _ _ _ _⟩⟩
  clear z5 z7 f5 f7 S0 S00
  go_loopw [8] (fun i wr => ∃ k : Nat, 2 ≤ k ∧ (k ≤ L ∨ k = 2) ∧ i = .int .i64 (k : Int) ∧ Aside0 (∃ v, C7 w wr n v (ms.take (k - 2)))) (fun i _ => L - (intOf i).toNat)
  case atStart => exact ⟨2, by omega, .inr rfl, rfl, ⟨_, S6.out⟩⟩
  case round =>
   clear S6 S4 S5
   obtain ⟨k, h2, hk, rfl, S⟩ := hrel
   obtain ⟨v, S⟩ := S.out
   replace S := Aside0.mk S
   obtain ⟨A5, c5, rfl⟩ := Kd.R_slice S.out.row
   by_cases hlt : k < L
   ·have hb6 : (k : Int) < (L : Int) := by omega
    obtain ⟨q, hq⟩ : ∃ q, (numAt (x :: r) k).1 = q := ⟨_, rfl⟩
    obtain ⟨bq, hbq⟩ : ∃ bq, (numAt (x :: r) k).2 = bq := ⟨_, rfl⟩
    have HNk := HNu.out
    replace HNk : Aside0 (∀ W, Below w.heap.size w W → Calls Tryd.prog 66 #[.slice (some ad) L c, .int .i64 (k : Int)] W fun e w' => e = .returned (.tuple #[.int .i64 q, .bool bq]) ∧ Below W.heap.size W w') := ⟨fun W hb => by rw [← hq, ← hbq]; exact HNk W k hb⟩
    have htk : ms.take (k + 1 - 2) = ms.take (k - 2) ++ [mask40 q] := by
     obtain ⟨t, rfl⟩ : ∃ t, k = t + 2 := ⟨k - 2, by omega⟩
     have hL := HL.out.1
     have hms := HMS.out
     have h3 : t < ms.length := by rw [hms.2]; omega
     rw [show t + 2 + 1 - 2 = t + 1 by omega, show t + 2 - 2 = t by omega, List.take_succ_eq_append_getElem h3]
     have h4 : ms[t] = mask40 q := by
      have h5 : q = nth r (t + 1) := by rw [← hq]; exact numAt_nth x r (t + 1)
      rw [h5]
      simp only [← hms.1, List.getElem_map, List.getElem_drop]
      unfold nth
      rw [if_pos (by omega)]
      have h6 : r.getD (t + 1) ByteArray.empty = r[1 + t]'(by omega) := by
       simp [List.getD_eq_getElem?_getD, show t + 1 < r.length by omega, Nat.add_comm 1 t]
      rw [h6]
     rw [h4]
    obtain ⟨dn, hdn⟩ : ∃ dn, ms.take (k - 2) = dn := ⟨_, rfl⟩
    have hdl : dn.length ≤ 16777216 := by
     have h1 := HX.out.2.2.2.2
     have h3 := HL.out.1
     rw [← hdn, List.length_take, HMS.out.2]; omega
    obtain ⟨mk, hmk⟩ : ∃ mk, mask40 q = mk := ⟨_, rfl⟩
    obtain ⟨mp, hmp⟩ : ∃ mp, Go.bits .and .i64 q 4294967295 = mp := ⟨_, rfl⟩
    have hmw : IntKind.u32.wrap mp = mk := by rw [← hmp, ← hmk]; rfl
    rw [hdn] at S htk
    rw [hmk] at htk
    have HT := Aside0.mk (And.intro htk hdl)
    clear hq hbq htk hdn hdl hmk hk
    go_wp2_with (first
     | (go_at_call 66; (with_reducible refine (HNk.out _ S.out.a7.bel).mono ?_); rintro e w6 ⟨rfl, hB⟩; have S7 := Aside0.mk (S.out.below hB); clear hB; have z8 : w6.cell? ⟨w.heap.size + 1, 8, none⟩ = some (.slice A5 dn.length c5) := (blk_cell S7.out.a7.box 8).trans rfl)
     | ((with_reducible refine gate_builtin (b := .append) (xs := #[.tmp 51, .tmp 55]) rfl ?_); at_builtin; refine Kd.R_append (Kd.int .u32) (w0 := w) w.heap.size rfl (.tmp 51) (.tmp 55) 55 116 (.int .u32 0) 4 rfl un55 Tz.info116 rfl (by decide) (by decide) (.slice A5 dn.length c5) dn mk [.int .u32 mk] (fun _ => True) (fun _ => False) rfl rfl rfl (fun _ h => h.elim) (fun _ _ => trivial) S7.out.row S7.out.a7.bel S7.out.a7.bel.size (by have := HT.out.2; omega) ?_; intro v4 w8 ho hb hg hat; obtain ⟨A6, c6, rfl⟩ := Kd.R_slice ho; have S8 := Aside0.mk (S7.out.app ho hb hg); have y8 : w8.cell? ⟨w.heap.size + 1, 8, none⟩ = some (.slice A5 dn.length c5) := (blk_cell (blk_grown S7.out.a7.box hg (Kd.R_ne S7.out.row S7.out.a7.box (by decide))) 8).trans rfl; have f8 := blk_frozen (blk_grown S7.out.a7.box hg (Kd.R_ne S7.out.row S7.out.a7.box (by decide))) 8; clear ho hb hat hg))
    refine ⟨⟨k + 1, by omega, by omega, by go_num, ⟨⟨_, by rw [HT.out.1]; have h := S8.out; rw [List.length_append, List.length_singleton] at h; exact h⟩⟩⟩, ?_⟩
    simp only [intOf]; omega
   ·have hb6 : ¬ (k : Int) < (L : Int) := by omega
    have hfull : ms.take (k - 2) = ms := List.take_of_length_le (by rw [HMS.out.2]; omega)
    rw [hfull] at S
    clear hlt hk h2
    go_wp2_with (first
     | ((with_reducible refine gate_ld (t := 57) rfl rfl ?_); intro g1 g2; refine wpList_load_row g1 57 _ g2 (w.heap.size + 1) rfl 57 (cells66 0 0 ⟨#[]⟩ 0 (.slice none 0 0) true false n (.slice A5 ms.length c5)) (0, 0) _ S.out.a7.box Tryd.underlying57 rfl size57 ?_)
     | ((with_reducible refine gate_st (t := 57) rfl rfl ?_); intro g1 g2; refine wpList_store_row g1 57 _ _ g2 w.heap.size (cells66 0 0 ⟨#[]⟩ 0 (.slice none 0 0) true false n (.slice A5 ms.length c5)) rfl rfl 57 zero66 S.out.a7.res size57 rfl (one66 _ _ _ _ _ _ _ _ _ rfl rfl) ?_))
    refine bodyPost_ret (results_cell_row rfl _ _ w.heap.size 57 _ (0, 0) _ rfl (setRow_heap _ w.heap.size zero66 (cells66 0 0 ⟨#[]⟩ 0 (.slice none 0 0) true false n (.slice A5 ms.length c5)) 57 (0, 0) S.out.a7.res) Tryd.underlying57 rfl size57) rfl ?_
    refine ⟨⟨.slice none 0 0, .slice A5 ms.length c5, ?_, ?_⟩, below_setRow S.out.a7.bel (Nat.le_refl _) _⟩
    ·unfold cut40; rw [HL.out.2.1]; rfl
    ·refine ⟨Kd.R_nil _ _ _ _ _, ?_⟩
     have h := R_setRow S.out.row S.out.a7.res ty116_57 (cells66 0 0 ⟨#[]⟩ 0 (.slice none 0 0) true false n (.slice A5 ms.length c5))
     have e : (cut40 r).f4 = ms := HMS.out.1
     rw [e]
     exact h
end Go.Proofs.YtiddiboclfpklaaDoor.Tz
