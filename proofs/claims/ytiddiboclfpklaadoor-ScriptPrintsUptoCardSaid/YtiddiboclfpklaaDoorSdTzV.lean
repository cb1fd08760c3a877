import Derived.Test.YtiddiboclfpklaaDoorSdTzU
/- The document's Line of an operation, walked. -/
namespace Go.Proofs.YtiddiboclfpklaaDoor.Tz
open Go.RowKit Go.Proofs.YtiddiboclfpklaaDoorW.PrintWords Go.Proofs.YtiddiboclfpklaaDoor.PScriptReads Go.Proofs.YtiddiboclfpklaaDoor.Tx
set_option linter.unusedVariables false
set_option linter.unusedSimpArgs false

def opL (k n : Int) (d : ByteArray) (f : Int) (vs : List S107) : List ByteArray :=
  wordF k :: (if k = 1 then [decW n] else if k = 2 then [hexF d] else if k < 11 then [] else decW f :: decW n :: vs.map valueF)
theorem LT_word (w x : ByteArray) : LT [w, x] = (w ++ ⟨#[32]⟩) ++ x := by
  have h := LT_snoc [w] x (by simp)
  rw [LT_one] at h
  exact h
set_option maxHeartbeats 8000000 in
set_option maxRecDepth 100000 in
theorem l40_op (k n : Int) (d : ByteArray) (f : Int) (vs : List S107) (m : Int) (ms : List Int) (A4 : Option Addr) (c4 : Nat) (A8 : Option Addr) (c8 : Nat) (w : World) (h4 : Kd.C k107 w A4 vs.length vs) (hn : I64 n) (hf : I64 f) (hd : d.size ≤ 16777216) (hvs : ∀ v ∈ vs, I64 v.f0 ∧ v.f1.size ≤ 16777216) (hl : vs.length ≤ 16777216) (h1 : 1 ≤ k) (h2 : k ≤ 13) :
    Calls Tryd.prog 54 #[.agg #[.int .i64 k, .int .i64 n, .string d, .int .i64 f, .slice A4 vs.length c4, .bool false, .bool false, .int .i64 m, .slice A8 ms.length c8]] w fun e w' => e = .returned (.string (LT (opL k n d f vs))) ∧ Below w.heap.size w w' := by
  have HR := Aside0.mk h4
  have HVS := Aside0.mk hvs
  clear h4 hvs
  obtain ⟨N, hN⟩ : ∃ N, vs.length = N := ⟨_, rfl⟩
  rw [hN] at HR hl ⊢
  have HN := Aside0.mk hN
  clear hN
  have B0 := Aside0.mk (BoxSt.new w #[.int .i64 k, .int .i64 n, .string d, .int .i64 f, .slice A4 N c4, .bool false, .bool false, .int .i64 m, .slice A8 ms.length c8])
  have hwr := words_rd k h1 h2
  have hws := word_small k
  obtain ⟨R, hR⟩ : ∃ R, LT (opL k n d f vs) = R := ⟨_, rfl⟩
  rw [hR]
  replace hR : R = LT (opL k n d f vs) := hR.symm
  unfold opL at hR
  obtain ⟨wd, hwd⟩ : ∃ wd, wordF k = wd := ⟨_, rfl⟩
  rw [hwd] at hwr hws hR
  have HRR := Aside0.mk hR
  have HWR := Aside0.mk hwr
  clear hR hwr hwd
  have hcat : wd.size + 1 ≤ 9223372036854775807 := by omega
  have hk0 : (0 : Int) ≤ k := by omega
  have hk14 : k < 14 := by omega
  go_enter Tryd.func54, Tryd.ntmps54
  go_upto_region 10 with (fail)
  go_cut [5] (fun v wc => v = .string wd ∧ Aside0 (BoxSt w wc #[.int .i64 k, .int .i64 n, .string d, .int .i64 f, .slice A4 N c4, .bool false, .bool false, .int .i64 m, .slice A8 ms.length c8]))
  case first =>
    go_region_with
      ((first
        | ((go_at_call 75; (with_reducible refine (words_calls _).mono ?_)); rintro e w1 ⟨aw, rfl, hW, hB⟩
           have B1 := Aside0.mk (BoxSt.below (by with_reducible repeat (first | exact B0.out | apply BoxSt.drew | apply BoxSt.drewN)) hB)
           obtain ⟨ad, e0, hcw⟩ := Kd.at_string hW k hk0 hk14
           obtain rfl : aw = ad := Option.some.inj e0
           rw [HWR.out] at hcw
           clear hB hW e0
           have a0 : w1.cell? ⟨w.heap.size, 0, none⟩ = some (.int .i64 k) := (blk_cell B1.out.box 0).trans rfl)))
    all_goals
      go_wp2_with fail
      go_meet
      exact ⟨rfl, B1⟩
  case rest =>
  obtain ⟨rfl, B1⟩ := hcut
  have a0 : wc.cell? ⟨w.heap.size, 0, none⟩ = some (.int .i64 k) := (blk_cell B1.out.box 0).trans rfl
  have a1 : wc.cell? ⟨w.heap.size, 1, none⟩ = some (.int .i64 n) := (blk_cell B1.out.box 1).trans rfl
  have a2 : wc.cell? ⟨w.heap.size, 2, none⟩ = some (.string d) := (blk_cell B1.out.box 2).trans rfl
  have a3 : wc.cell? ⟨w.heap.size, 3, none⟩ = some (.int .i64 f) := (blk_cell B1.out.box 3).trans rfl
  clear B0
  by_cases c1 : k = 1
  · subst c1
    have hz := decW_size n hn
    have hk2 : (wd ++ ⟨#[32]⟩).size + (decW n).size ≤ 9223372036854775807 := by
      rw [ByteArray.size_append]
      show wd.size + 1 + _ ≤ _
      omega
    obtain ⟨dx, hdx⟩ : ∃ dx, decW n = dx := ⟨_, rfl⟩
    have HX : Aside0 (∀ W, Calls Tryd.prog 13 #[.int .i64 n] W fun e w' => e = .returned (.string dx) ∧ Below W.heap.size W w') := ⟨fun W => by rw [← hdx]; exact r04_dec_calls n hn W⟩
    have HE : Aside0 (R = (wd ++ ⟨#[32]⟩) ++ dx) := ⟨by rw [HRR.out, if_pos rfl, ← hdx, LT_word]⟩
    rw [hdx] at hk2
    clear hdx hz HRR
    go_wp2_with ((go_at_call 13; refine (HX.out _).mono ?_; rintro e w2 ⟨rfl, hB⟩; have S2 := Aside0.mk (B1.out.below hB); clear hB))
    go_ret
    exact ⟨by rw [HE.out]; rfl, S2.out.bel⟩
  by_cases c2 : k = 2
  · subst c2
    have hz := hexF_size d
    have hk2 : (wd ++ ⟨#[32]⟩).size + (hexF d).size ≤ 9223372036854775807 := by
      rw [ByteArray.size_append]
      show wd.size + 1 + _ ≤ _
      omega
    obtain ⟨dx, hdx⟩ : ∃ dx, hexF d = dx := ⟨_, rfl⟩
    have HX : Aside0 (∀ W, Calls Tryd.prog 18 #[.string d] W fun e w' => e = .returned (.string dx) ∧ Below W.heap.size W w') := ⟨fun W => by rw [← hdx]; exact (r04_hex_calls d hd W).mono fun e w' h => ⟨h.1, h.2.below⟩⟩
    have HE : Aside0 (R = (wd ++ ⟨#[32]⟩) ++ dx) := ⟨by rw [HRR.out, if_neg (by decide), if_pos rfl, ← hdx, LT_word]⟩
    rw [hdx] at hk2
    clear hdx hz HRR
    go_wp2_with ((go_at_call 18; refine (HX.out _).mono ?_; rintro e w2 ⟨rfl, hB⟩; have S2 := Aside0.mk (B1.out.below hB); clear hB))
    go_ret
    exact ⟨by rw [HE.out]; rfl, S2.out.bel⟩
  have e1 : (k == 1) = false := beq_eq_false_iff_ne.2 c1
  have e2 : (k == 2) = false := beq_eq_false_iff_ne.2 c2
  by_cases c3 : k < 11
  · have e3 : decide (k < 11) = true := decide_eq_true c3
    have HE : Aside0 (R = wd) := ⟨by rw [HRR.out, if_neg c1, if_neg c2, if_pos c3, LT_one]⟩
    clear HRR
    go_wp2_with fail
    go_ret
    exact ⟨by rw [HE.out]; rfl, B1.out.bel⟩
  have e3 : decide (k < 11) = false := decide_eq_false c3
  have hzf := decW_size f hf
  have hzn := decW_size n hn
  have hv1 : (wd ++ ⟨#[32]⟩).size + (decW f).size ≤ 9223372036854775807 := by
    rw [ByteArray.size_append]
    show wd.size + 1 + _ ≤ _
    omega
  have hv2 : ((wd ++ ⟨#[32]⟩) ++ decW f).size + 1 ≤ 9223372036854775807 := by
    rw [ByteArray.size_append, ByteArray.size_append]
    show wd.size + 1 + _ + 1 ≤ _
    omega
  have hv3 : (((wd ++ ⟨#[32]⟩) ++ decW f) ++ ⟨#[32]⟩).size + (decW n).size ≤ 9223372036854775807 := by
    rw [ByteArray.size_append, ByteArray.size_append, ByteArray.size_append]
    show wd.size + 1 + _ + 1 + _ ≤ _
    omega
  have hv4 : ((((wd ++ ⟨#[32]⟩) ++ decW f) ++ ⟨#[32]⟩) ++ decW n).size ≤ 1000 := by
    rw [ByteArray.size_append, ByteArray.size_append, ByteArray.size_append, ByteArray.size_append]
    show wd.size + 1 + _ + 1 + _ ≤ _
    omega
  have hv5 : (((wd ++ ⟨#[32]⟩) ++ decW f) ++ ⟨#[32]⟩) ++ decW n = LT [wd, decW f, decW n] := by
    have h := LT_snoc [wd, decW f] (decW n) (by simp)
    rw [LT_word] at h
    exact h.symm
  obtain ⟨df, hdf⟩ : ∃ df, decW f = df := ⟨_, rfl⟩
  obtain ⟨dn, hdn⟩ : ∃ dn, decW n = dn := ⟨_, rfl⟩
  have HF : Aside0 (∀ W, Calls Tryd.prog 13 #[.int .i64 f] W fun e w' => e = .returned (.string df) ∧ Below W.heap.size W w') := ⟨fun W => by rw [← hdf]; exact r04_dec_calls f hf W⟩
  have HD : Aside0 (∀ W, Calls Tryd.prog 13 #[.int .i64 n] W fun e w' => e = .returned (.string dn) ∧ Below W.heap.size W w') := ⟨fun W => by rw [← hdn]; exact r04_dec_calls n hn W⟩
  have HE : Aside0 (R = LT ([wd, df, dn] ++ vs.map valueF)) := ⟨by rw [HRR.out, if_neg c1, if_neg c2, if_neg c3, hdf, hdn]; rfl⟩
  rw [hdf] at hv1 hv2 hv3 hv4 hv5
  rw [hdn] at hv3 hv4 hv5
  have HV := Aside0.mk (And.intro hv4 hv5)
  clear hdf hdn hzf hzn hv4 hv5 HRR
  have hcatb0 := eq_true hcat
  have hcatb1 : decide (wd.size + 1 ≤ 9223372036854775807) = true := decide_eq_true hcat
  have hcatb2 : (9223372036854775807 < wd.size + 1) = False := eq_false (Nat.not_lt.2 hcat)
  have nv1 : wd.size + 1 + df.size ≤ 9223372036854775807 := by have := hv1; rw [ByteArray.size_append] at this; exact this
  have nv1b0 := eq_true nv1
  have nv1b1 : decide (wd.size + 1 + df.size ≤ 9223372036854775807) = true := decide_eq_true nv1
  have nv1b2 : (9223372036854775807 < wd.size + 1 + df.size) = False := eq_false (Nat.not_lt.2 nv1)
  have nv2 : wd.size + 1 + df.size + 1 ≤ 9223372036854775807 := by have := hv2; rw [ByteArray.size_append, ByteArray.size_append] at this; exact this
  have nv3 : wd.size + 1 + df.size + 1 + dn.size ≤ 9223372036854775807 := by have := hv3; rw [ByteArray.size_append, ByteArray.size_append, ByteArray.size_append] at this; exact this
  have nv2b0 := eq_true nv2
  have nv2b1 : decide (wd.size + 1 + df.size + 1 ≤ 9223372036854775807) = true := decide_eq_true nv2
  have nv2b2 : (9223372036854775807 < wd.size + 1 + df.size + 1) = False := eq_false (Nat.not_lt.2 nv2)
  have nv3b0 := eq_true nv3
  have nv3b1 : decide (wd.size + 1 + df.size + 1 + dn.size ≤ 9223372036854775807) = true := decide_eq_true nv3
  have nv3b2 : (9223372036854775807 < wd.size + 1 + df.size + 1 + dn.size) = False := eq_false (Nat.not_lt.2 nv3)
  go_upto_region 17 with (fail)
  go_region_held3 (fun w' => w'.cell? ⟨w.heap.size, 1, none⟩ = some (.int .i64 n) ∧ w'.cell? ⟨w.heap.size, 3, none⟩ = some (.int .i64 f))
    (first | go_keep | exact ⟨a1, a3⟩ | exact ⟨b1, b3⟩ | exact ⟨g1, g3⟩)
    ((first
      | (go_at_call 13; first | ((with_reducible refine (HF.out _).mono ?_); rintro e w2 ⟨rfl, hB⟩; have B2 := Aside0.mk (BoxSt.below (by with_reducible repeat (first | exact B1.out | apply BoxSt.drew | apply BoxSt.drewN)) hB); clear hB; have b1 : w2.cell? ⟨w.heap.size, 1, none⟩ = some (.int .i64 n) := (blk_cell B2.out.box 1).trans rfl; have b3 : w2.cell? ⟨w.heap.size, 3, none⟩ = some (.int .i64 f) := (blk_cell B2.out.box 3).trans rfl) | ((with_reducible refine (HD.out _).mono ?_); rintro e w3 ⟨rfl, hB⟩; have B3 := Aside0.mk (BoxSt.below (by with_reducible repeat (first | exact B2.out | apply BoxSt.drew | apply BoxSt.drewN)) hB); clear hB; have g1 : w3.cell? ⟨w.heap.size, 1, none⟩ = some (.int .i64 n) := (blk_cell B3.out.box 1).trans rfl; have g3 : w3.cell? ⟨w.heap.size, 3, none⟩ = some (.int .i64 f) := (blk_cell B3.out.box 3).trans rfl))
      | fail))
  go_wp2_with fail
  clear nv1 nv1b0 nv1b1 nv1b2 nv2 nv2b0 nv2b1 nv2b2 nv3 nv3b0 nv3b1 nv3b2 hv1 hv2 hv3 hcat hcatb0 hcatb1 hcatb2
  go_loopw [5, 6] (fun v i wr => ∃ (t : Nat) (s : ByteArray), t ≤ N ∧ v = .string s ∧ i = .int .i64 (t : Int) ∧ Aside0 (BoxSt w wr #[.int .i64 k, .int .i64 n, .string d, .int .i64 f, .slice A4 N c4, .bool false, .bool false, .int .i64 m, .slice A8 ms.length c8] ∧ s = LT ([wd, df, dn] ++ (vs.take t).map valueF) ∧ s.size ≤ 1000 + 33554440 * t)) (fun _ i _ => N - (intOf i).toNat)
  case atStart => exact ⟨0, _, by omega, rfl, rfl, ⟨B3.out, HV.out.2, HV.out.1⟩⟩
  case round =>
    clear B1 B2 B3 a0 a1 a2 a3 b1 b3 g1 g3
    obtain ⟨t, s, ht, rfl, rfl, S⟩ := hrel
    have q4 : wr.cell? ⟨w.heap.size, 4, none⟩ = some (.slice A4 N c4) := (blk_cell S.out.1.box 4).trans rfl
    by_cases hlt : t < N
    · have hb5 : (0 : Int) ≤ (t : Int) := by omega
      have hb6 : (t : Int) < (N : Int) := by omega
      obtain ⟨ad, rfl, hc0, hc1⟩ := at_T107 (Kd.C_below HR.out S.out.1.bel) (t : Int) hb5 hb6
      rw [Int.toNat_natCast] at hc0 hc1
      obtain ⟨x, hx⟩ : ∃ x, rd_T107 vs (t : Int) = x := ⟨_, rfl⟩
      rw [hx] at hc0 hc1
      obtain ⟨htk, hxm⟩ := rd_T_take vs t x (by rw [HN.out]; exact hlt) hx
      obtain ⟨hx0, hx1⟩ := HVS.out x hxm
      obtain ⟨x0, x1⟩ := x
      replace hc0 : wr.cell? (ad.add (t * 2)) = some (.int .i64 x0) := hc0
      replace hc1 : wr.cell? ⟨(ad.add (t * 2)).block, (ad.add (t * 2)).off + 1, none⟩ = some (.string x1) := hc1
      replace hx0 : I64 x0 := hx0
      replace hx1 : x1.size ≤ 16777216 := hx1
      have SA := Aside0.mk (BoxSt.alloc S.out.1 (.cells #[.int .i64 x0, .string x1] 107))
      have hsz := S.out.2.2
      have hlt2 : (s ++ ⟨#[32]⟩) ++ valueF ⟨x0, x1⟩ = LT ([wd, df, dn] ++ (vs.take (t + 1)).map valueF) := by
        rw [htk, ← List.append_assoc, LT_snoc _ _ (by simp), S.out.2.1]
      have HT := Aside0.mk hlt2
      clear hx hxm htk hlt2
      by_cases h0 : x1.size = 0
      · obtain rfl := empty_of h0
        have hvf : valueF ⟨x0, ⟨#[]⟩⟩ = decW x0 := rfl
        have hz := decW_size x0 hx0
        have hk1 : s.size + 1 ≤ 9223372036854775807 := by omega
        have hk2 : (s ++ ⟨#[32]⟩).size + (decW x0).size ≤ 9223372036854775807 := by
          rw [ByteArray.size_append]
          show s.size + 1 + _ ≤ _
          omega
        have hk3 : ((s ++ ⟨#[32]⟩) ++ decW x0).size ≤ 1000 + 33554440 * (t + 1) := by
          rw [ByteArray.size_append, ByteArray.size_append]
          show s.size + 1 + _ ≤ _
          omega
        obtain ⟨dx, hdx⟩ : ∃ dx, decW x0 = dx := ⟨_, rfl⟩
        have HX : Aside0 (∀ W, Calls Tryd.prog 13 #[.int .i64 x0] W fun e w' => e = .returned (.string dx) ∧ Below W.heap.size W w') := ⟨fun W => by rw [← hdx]; exact r04_dec_calls x0 hx0 W⟩
        rw [hdx] at hk2 hk3 hvf
        rw [hvf] at HT
        have HK := Aside0.mk hk3
        clear hdx hvf hz hk3 hx0 hx1 h0 hsz
        go_wp2_with ((go_at_call 13; refine (HX.out _).mono ?_; rintro e w2 ⟨rfl, hB⟩; have S2 := Aside0.mk (SA.out.below hB); clear hB))
        refine ⟨⟨t + 1, _, by omega, rfl, by go_num, ⟨S2.out, HT.out, HK.out⟩⟩, ?_⟩
        simp only [intOf]; omega
      · have hvf : valueF ⟨x0, x1⟩ = ⟨#[58]⟩ ++ hexF x1 := if_neg h0
        have hne := nonempty_false h0
        have hz := hexF_size x1
        have hk1 : s.size + 2 ≤ 9223372036854775807 := by omega
        have hk2 : (s ++ ⟨#[32, 58]⟩).size + (hexF x1).size ≤ 9223372036854775807 := by
          rw [ByteArray.size_append]
          show s.size + 2 + _ ≤ _
          omega
        have hk3 : ((s ++ ⟨#[32, 58]⟩) ++ hexF x1).size ≤ 1000 + 33554440 * (t + 1) := by
          rw [ByteArray.size_append, ByteArray.size_append]
          show s.size + 2 + _ ≤ _
          omega
        rw [hvf, ← colon] at HT
        obtain ⟨dx, hdx⟩ : ∃ dx, hexF x1 = dx := ⟨_, rfl⟩
        have HX : Aside0 (∀ W, Calls Tryd.prog 18 #[.string x1] W fun e w' => e = .returned (.string dx) ∧ Below W.heap.size W w') := ⟨fun W => by rw [← hdx]; exact (r04_hex_calls x1 hx1 W).mono fun e w' h => ⟨h.1, h.2.below⟩⟩
        rw [hdx] at hk2 hk3 HT
        have HK := Aside0.mk hk3
        clear hdx hvf hz hk3 hx0 hx1 h0 hsz
        go_wp2_with ((go_at_call 18; refine (HX.out _).mono ?_; rintro e w2 ⟨rfl, hB⟩; have S2 := Aside0.mk (SA.out.below hB); clear hB))
        refine ⟨⟨t + 1, _, by omega, rfl, by go_num, ⟨S2.out, HT.out, HK.out⟩⟩, ?_⟩
        simp only [intOf]; omega
    · obtain rfl : t = N := by omega
      have hfull : vs.take t = vs := List.take_of_length_le (by rw [HN.out]; exact Nat.le_refl _)
      have HE2 : Aside0 (s = R) := ⟨by rw [S.out.2.1, hfull, ← HE.out]⟩
      have HB := Aside0.mk S.out.1.bel
      clear hfull
      go_wp2_with fail
      go_ret
      exact ⟨by rw [HE2.out]; rfl, HB.out⟩
end Go.Proofs.YtiddiboclfpklaaDoor.Tz
