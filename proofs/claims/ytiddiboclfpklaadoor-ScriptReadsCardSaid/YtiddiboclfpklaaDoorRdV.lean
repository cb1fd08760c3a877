/- Lemmas that the claim's theorem uses. -/
import Derived.Test.YtiddiboclfpklaaDoorRdU
namespace Go.Proofs.YtiddiboclfpklaaDoor.Tz
open Go.RowKit Go.Proofs.YtiddiboclfpklaaDoorW.PrintWords Go.Proofs.YtiddiboclfpklaaDoor.PScriptReads Go.Proofs.YtiddiboclfpklaaDoor.Tx
set_option linter.unusedVariables false
theorem rd_T_take (vs : List S107) (t : Nat) (x : S107) (ht : t < vs.length) (hx : rd_T107 vs (t : Int) = x) : (vs.take (t + 1)).map valueF = (vs.take t).map valueF ++ [valueF x] ∧ x ∈ vs := by
  have hxe : vs[t] = x := by rw [← hx]; simp [rd_T107, List.getD_eq_getElem?_getD, ht]
  exact ⟨by rw [List.take_succ_eq_append_getElem ht, hxe, List.map_append]; rfl, by rw [← hxe]; exact List.getElem_mem ht⟩
set_option maxHeartbeats 4000000 in
set_option maxRecDepth 100000 in
theorem line_keyed11 (dummy n : Int) (d : ByteArray) (f : Int) (vs : List S107) (m : Int) (ms : List Int) (A4 : Option Addr) (c4 : Nat) (A8 : Option Addr) (c8 : Nat) (w : World) (h4 : Kd.C k107 w A4 vs.length vs) (hn : I64 n) (hf : I64 f) (hvs : ∀ v ∈ vs, I64 v.f0 ∧ v.f1.size ≤ 16777216) (hl : vs.length ≤ 16777216) :
    Calls Tryd.prog 53 #[.agg #[.int .i64 11, .int .i64 n, .string d, .int .i64 f, .slice A4 vs.length c4, .bool false, .bool false, .int .i64 m, .slice A8 ms.length c8]] w fun e w' => (∃ v, e = .returned v ∧ Kd.R Kd.string 9 w' w.heap.size (fun _ => True) v (wordF 11 :: decW f :: decW n :: vs.map valueF)) ∧ Below w.heap.size w w' := by
  have HR := Aside0.mk h4
  have HVS := Aside0.mk hvs
  clear h4 hvs
  obtain ⟨N, hN⟩ : ∃ N, vs.length = N := ⟨_, rfl⟩
  rw [hN] at HR hl ⊢
  have HN := Aside0.mk hN
  clear hN
  have HB := Aside0.mk (Below.alloc (Below.refl w.heap.size w) (Nat.le_refl _) (.cells #[.int .i64 11, .int .i64 n, .string d, .int .i64 f, .slice A4 N c4, .bool false, .bool false, .int .i64 m, .slice A8 ms.length c8] 66))
  obtain ⟨wd, hwd⟩ : ∃ wd, wordF 11 = wd := ⟨_, rfl⟩
  have HW : Aside0 (∀ W, Calls Tryd.prog 57 #[.int .i64 11] W fun e w' => e = .returned (.string wd) ∧ Drawn0 W w') := ⟨fun W => by rw [← hwd]; exact word_calls 11 W⟩
  rw [hwd]
  clear hwd
  obtain ⟨dn, hdn⟩ : ∃ dn, decW n = dn := ⟨_, rfl⟩
  obtain ⟨df, hdf⟩ : ∃ df, decW f = df := ⟨_, rfl⟩
  have HDN : Aside0 (∀ W, Calls Tryd.prog 12 #[.int .i64 n] W fun e w' => e = .returned (.string dn) ∧ Below W.heap.size W w') := ⟨fun W => by rw [← hdn]; exact dec_calls n hn W⟩
  have HDF : Aside0 (∀ W, Calls Tryd.prog 12 #[.int .i64 f] W fun e w' => e = .returned (.string df) ∧ Below W.heap.size W w') := ⟨fun W => by rw [← hdf]; exact dec_calls f hf W⟩
  rw [hdn, hdf]
  clear hdn hdf
  obtain ⟨i9, hi9, hz9⟩ := Option.map_eq_some_iff.1 info9
  simp only [Prod.mk.injEq] at hz9
  have HI := Aside0.mk (And.intro hi9 hz9)
  clear hi9 hz9
  go_enter Tryd.func53, Tryd.ntmps53
  go_upto_region 20 with ((go_at_call 57; refine (HW.out _).mono ?_; rintro e w1 ⟨rfl, hD⟩; have hB := hD.below; have K1 := Aside0.mk (blk_below (blk_new w (.cells #[.int .i64 11, .int .i64 n, .string d, .int .i64 f, .slice A4 N c4, .bool false, .bool false, .int .i64 m, .slice A8 ms.length c8] 66)) hB); have B1 := Aside0.mk (HB.out.trans (hB.mono HB.out.size)); clear hB hD; have S1 := Aside0.mk (LineSt.lit w w1 _ [wd] (by simp) K1.out B1.out); have z0 : (w1.alloc (.cells #[.string wd] 9)).cell? ⟨w.heap.size, 0, none⟩ = some (.int .i64 11) := (blk_cell (blk_alloc K1.out _) 0).trans rfl; have z1 : (w1.alloc (.cells #[.string wd] 9)).cell? ⟨w.heap.size, 1, none⟩ = some (.int .i64 n) := (blk_cell (blk_alloc K1.out _) 1).trans rfl; have z3 : (w1.alloc (.cells #[.string wd] 9)).cell? ⟨w.heap.size, 3, none⟩ = some (.int .i64 f) := (blk_cell (blk_alloc K1.out _) 3).trans rfl; have z4 : (w1.alloc (.cells #[.string wd] 9)).cell? ⟨w.heap.size, 4, none⟩ = some (.slice A4 N c4) := (blk_cell (blk_alloc K1.out _) 4).trans rfl))
  go_cut [6] (fun v wc => Aside0 (LineSt w wc #[.int .i64 11, .int .i64 n, .string d, .int .i64 f, .slice A4 N c4, .bool false, .bool false, .int .i64 m, .slice A8 ms.length c8] v ([wd, df, dn] ++ (vs.take 0).map valueF)))
  case first =>
    replace S1 : Aside0 (LineSt w (w1.alloc (.cells #[.string wd] 9)) #[.int .i64 11, .int .i64 n, .string d, .int .i64 f, .slice A4 N c4, .bool false, .bool false, .int .i64 m, .slice A8 ms.length c8] (.slice (some ⟨w1.heap.size, 0, none⟩) 1 1) [wd]) := S1
    go_region_held3 (fun w' => w'.cell? ⟨w.heap.size, 1, none⟩ = some (.int .i64 n) ∧ w'.cell? ⟨w.heap.size, 3, none⟩ = some (.int .i64 f))
      (first | go_keep | exact ⟨z1, z3⟩ | exact ⟨x1, x3⟩ | exact ⟨y1, y3⟩ | exact ⟨t1, t3⟩ | exact ⟨u1, u3⟩)
      ((first
        | (go_at_call 12; first | ((with_reducible refine (HDF.out _).mono ?_); rintro e w3 ⟨rfl, hB⟩; have S3 := Aside0.mk (LineSt.below (by with_reducible repeat (first | exact S2.out | apply LineSt.drew | apply LineSt.drewN)) hB); clear hB; have y1 : w3.cell? ⟨w.heap.size, 1, none⟩ = some (.int .i64 n) := (blk_cell S3.out.box 1).trans rfl; have y3 : w3.cell? ⟨w.heap.size, 3, none⟩ = some (.int .i64 f) := (blk_cell S3.out.box 3).trans rfl; have t1 : (w3.alloc (.cells #[.string df, .string dn] 9)).cell? ⟨w.heap.size, 1, none⟩ = some (.int .i64 n) := (blk_cell (blk_alloc S3.out.box _) 1).trans rfl; have t3 : (w3.alloc (.cells #[.string df, .string dn] 9)).cell? ⟨w.heap.size, 3, none⟩ = some (.int .i64 f) := (blk_cell (blk_alloc S3.out.box _) 3).trans rfl) | ((with_reducible refine (HDF.out _).mono ?_); rintro e w2 ⟨rfl, hB⟩; have S2 := Aside0.mk (LineSt.below (by with_reducible repeat (first | exact S1.out | apply LineSt.drew | apply LineSt.drewN)) hB); clear hB; have x1 : w2.cell? ⟨w.heap.size, 1, none⟩ = some (.int .i64 n) := (blk_cell S2.out.box 1).trans rfl; have x3 : w2.cell? ⟨w.heap.size, 3, none⟩ = some (.int .i64 f) := (blk_cell S2.out.box 3).trans rfl))
        | (go_at_call 12; first | ((with_reducible refine (HDN.out _).mono ?_); rintro e w3 ⟨rfl, hB⟩; have S3 := Aside0.mk (LineSt.below (by with_reducible repeat (first | exact S2.out | apply LineSt.drew | apply LineSt.drewN)) hB); clear hB; have y1 : w3.cell? ⟨w.heap.size, 1, none⟩ = some (.int .i64 n) := (blk_cell S3.out.box 1).trans rfl; have y3 : w3.cell? ⟨w.heap.size, 3, none⟩ = some (.int .i64 f) := (blk_cell S3.out.box 3).trans rfl; have t1 : (w3.alloc (.cells #[.string df, .string dn] 9)).cell? ⟨w.heap.size, 1, none⟩ = some (.int .i64 n) := (blk_cell (blk_alloc S3.out.box _) 1).trans rfl; have t3 : (w3.alloc (.cells #[.string df, .string dn] 9)).cell? ⟨w.heap.size, 3, none⟩ = some (.int .i64 f) := (blk_cell (blk_alloc S3.out.box _) 3).trans rfl) | ((with_reducible refine (HDN.out _).mono ?_); rintro e w2 ⟨rfl, hB⟩; have S2 := Aside0.mk (LineSt.below (by with_reducible repeat (first | exact S1.out | apply LineSt.drew | apply LineSt.drewN)) hB); clear hB; have x1 : w2.cell? ⟨w.heap.size, 1, none⟩ = some (.int .i64 n) := (blk_cell S2.out.box 1).trans rfl; have x3 : w2.cell? ⟨w.heap.size, 3, none⟩ = some (.int .i64 f) := (blk_cell S2.out.box 3).trans rfl))
        | ((refine step_append_lies _ rfl (.tmp 65) (.tmp 75) 84 rfl w.heap.size 9 i9 (.string ⟨#[]⟩) 1 16 un84 HI.out.1 HI.out.2.1 HI.out.2.2.1 HI.out.2.2.2 rfl (by decide) (.slice (some ⟨w1.heap.size, 0, none⟩) 1 1) 1 (encs Value.string [wd]) rfl (own_alloc S3.out.own _) ⟨w3.heap.size, 0, none⟩ 2 2 (encs Value.string [df, dn]) rfl rfl (lit_cellsS w3 [df, dn]) (one_S _) (by decide) (by decide) (by decide) (by have := S3.out.bel.size; rw [World.size_alloc]; omega) _ rfl ?_)
           intro g4 cap4 w4 ho hg hat hlt4
           have S4 : Aside0 (LineSt w w4 #[.int .i64 11, .int .i64 n, .string d, .int .i64 f, .slice A4 N c4, .bool false, .bool false, .int .i64 m, .slice A8 ms.length c8] (.slice (some ⟨g4, 0, none⟩) 3 cap4) [wd, df, dn]) := ⟨S3.out.after (ys := [df, dn]) (.cells #[.string df, .string dn] 9) ho ((below_alloc S3.out.bel _).grown hg (by have := S3.out.bel.size; rw [World.size_alloc]; omega) (own_base (own_alloc S3.out.own (.cells #[.string df, .string dn] 9)))) hg⟩
           have u1 : w4.cell? ⟨w.heap.size, 1, none⟩ = some (.int .i64 n) := (blk_cell S4.out.box 1).trans rfl
           have u3 : w4.cell? ⟨w.heap.size, 3, none⟩ = some (.int .i64 f) := (blk_cell S4.out.box 3).trans rfl
           have u4 : w4.cell? ⟨w.heap.size, 4, none⟩ = some (.slice A4 N c4) := (blk_cell S4.out.box 4).trans rfl
           clear ho hg hat hlt4)
        | fail))
    all_goals
      go_wp2_with fail
      go_meet
      exact S4
  case rest =>
    have S4 := hcut
    clear hcut z0 z1 z3 z4
    have u4 : wc.cell? ⟨w.heap.size, 4, none⟩ = some (.slice A4 N c4) := (blk_cell S4.out.box 4).trans rfl
    go_wp2_with fail
    clear u4
    go_loopw [6, 82] (fun v i wr => ∃ t : Nat, t ≤ N ∧ i = .int .i64 (t : Int) ∧ Aside0 (LineSt w wr #[.int .i64 11, .int .i64 n, .string d, .int .i64 f, .slice A4 N c4, .bool false, .bool false, .int .i64 m, .slice A8 ms.length c8] v ([wd, df, dn] ++ (vs.take t).map valueF))) (fun _ i _ => N - (intOf i).toNat)
    case atStart => exact ⟨0, by omega, rfl, S4⟩
    case round =>
      clear S4
      obtain ⟨t, ht, rfl, S⟩ := hrel
      obtain ⟨A3, c3, rfl⟩ := own_slice S.out.own
      by_cases hlt : t < N
      · have hb5 : (0 : Int) ≤ (t : Int) := by omega
        have hb6 : (t : Int) < (N : Int) := by omega
        obtain ⟨ad, rfl, hc0, hc1⟩ := at_T107 (Kd.C_below HR.out S.out.bel) (t : Int) hb5 hb6
        rw [Int.toNat_natCast] at hc0 hc1
        obtain ⟨x, hx⟩ : ∃ x, rd_T107 vs (t : Int) = x := ⟨_, rfl⟩
        rw [hx] at hc0 hc1
        obtain ⟨htk, hxm⟩ := rd_T_take vs t x (by rw [HN.out]; exact hlt) hx
        obtain ⟨hx0, hx1⟩ := HVS.out x hxm
        obtain ⟨x0, x1⟩ := x
        replace hc0 : wr.cell? (ad.add (t * 2)) = some (.int .i64 x0) := hc0
        replace hc1 : wr.cell? ⟨(ad.add (t * 2)).block, (ad.add (t * 2)).off + 1, none⟩ = some (.string x1) := hc1
        obtain ⟨dx, hdx⟩ : ∃ dx, valueF ⟨x0, x1⟩ = dx := ⟨_, rfl⟩
        have HX : Aside0 (∀ W, Calls Tryd.prog 74 #[.agg #[.int .i64 x0, .string x1]] W fun e w' => e = .returned (.string dx) ∧ Below W.heap.size W w') := ⟨fun W => by rw [← hdx]; exact value_calls ⟨x0, x1⟩ hx0 hx1 W⟩
        obtain ⟨Lc, hLc⟩ : ∃ Lc, [wd, df, dn] ++ (vs.take t).map valueF = Lc := ⟨_, rfl⟩
        have hLl : Lc.length ≤ 16777219 := by
          rw [← hLc, List.length_append, List.length_map, List.length_take]
          simp; omega
        rw [hLc] at S ⊢
        rw [hdx] at htk
        have HT := Aside0.mk (And.intro htk (And.intro hLc hLl))
        have SA := Aside0.mk (S.out.alloc (.cells #[.int .i64 x0, .string x1] 107))
        clear hx hxm hx0 hx1 htk hLc hLl hdx
        go_wp2_with (first
          | (go_at_call 74; refine (HX.out _).mono ?_; rintro e w2 ⟨rfl, hB⟩; have S2 := Aside0.mk (SA.out.below hB); clear hB)
          | ((with_reducible refine gate_builtin (b := .append) (xs := #[.tmp 86, .tmp 89]) rfl ?_); at_builtin; refine print_append_row_of (w0 := w) Value.string ByteArray.empty w.heap.size rfl (.tmp 86) (.tmp 89) 84 9 (.string ⟨#[]⟩) 16 rfl un84 info9 rfl (by decide) (fun _ => rfl) (.slice A3 Lc.length c3) Lc [dx] (some ⟨w2.heap.size, 0, none⟩) 1 1 rfl rfl (own_alloc S2.out.own _) (lit_readsS w2 [dx] (by simp)) (below_alloc S2.out.bel _) (by have := S2.out.bel.size; rw [World.size_alloc]; omega) (by have := HT.out.2.2; omega) ?_; intro v2 w3 ho hb hg hat; have S3 := Aside0.mk (S2.out.after _ ho hb hg); clear ho hb hg hat; obtain ⟨A5, c5, rfl⟩ := own_slice S3.out.own))
        refine ⟨⟨t + 1, by omega, by go_num, ⟨by have h := S3.out; rw [List.length_append, List.length_singleton] at h; rw [HT.out.1, ← List.append_assoc, HT.out.2.1]; exact h⟩⟩, ?_⟩
        simp only [intOf]; omega
      · obtain rfl : t = N := by omega
        have hfull : vs.take t = vs := List.take_of_length_le (by rw [HN.out]; exact Nat.le_refl _)
        have S1 : Aside0 (∃ Lx, LineSt w wr #[.int .i64 11, .int .i64 n, .string d, .int .i64 f, .slice A4 t c4, .bool false, .bool false, .int .i64 m, .slice A8 ms.length c8] (.slice A3 ([wd, df, dn] ++ (vs.take t).map valueF).length c3) Lx ∧ Lx = wd :: df :: dn :: vs.map valueF) := ⟨_, S.out, (by show [wd, df, dn] ++ (vs.take t).map valueF = _; rw [hfull]; rfl)⟩
        clear hfull
        go_wp2_with fail
        go_ret
        obtain ⟨Lx, h1, h2⟩ := S1.out
        exact ⟨⟨_, rfl, by rw [← h2]; exact h1.made⟩, h1.bel⟩
set_option maxHeartbeats 4000000 in
set_option maxRecDepth 100000 in
theorem line_keyed12 (dummy n : Int) (d : ByteArray) (f : Int) (vs : List S107) (m : Int) (ms : List Int) (A4 : Option Addr) (c4 : Nat) (A8 : Option Addr) (c8 : Nat) (w : World) (h4 : Kd.C k107 w A4 vs.length vs) (hn : I64 n) (hf : I64 f) (hvs : ∀ v ∈ vs, I64 v.f0 ∧ v.f1.size ≤ 16777216) (hl : vs.length ≤ 16777216) :
    Calls Tryd.prog 53 #[.agg #[.int .i64 12, .int .i64 n, .string d, .int .i64 f, .slice A4 vs.length c4, .bool false, .bool false, .int .i64 m, .slice A8 ms.length c8]] w fun e w' => (∃ v, e = .returned v ∧ Kd.R Kd.string 9 w' w.heap.size (fun _ => True) v (wordF 12 :: decW f :: decW n :: vs.map valueF)) ∧ Below w.heap.size w w' := by
  have HR := Aside0.mk h4
  have HVS := Aside0.mk hvs
  clear h4 hvs
  obtain ⟨N, hN⟩ : ∃ N, vs.length = N := ⟨_, rfl⟩
  rw [hN] at HR hl ⊢
  have HN := Aside0.mk hN
  clear hN
  have HB := Aside0.mk (Below.alloc (Below.refl w.heap.size w) (Nat.le_refl _) (.cells #[.int .i64 12, .int .i64 n, .string d, .int .i64 f, .slice A4 N c4, .bool false, .bool false, .int .i64 m, .slice A8 ms.length c8] 66))
  obtain ⟨wd, hwd⟩ : ∃ wd, wordF 12 = wd := ⟨_, rfl⟩
  have HW : Aside0 (∀ W, Calls Tryd.prog 57 #[.int .i64 12] W fun e w' => e = .returned (.string wd) ∧ Drawn0 W w') := ⟨fun W => by rw [← hwd]; exact word_calls 12 W⟩
  rw [hwd]
  clear hwd
  obtain ⟨dn, hdn⟩ : ∃ dn, decW n = dn := ⟨_, rfl⟩
  obtain ⟨df, hdf⟩ : ∃ df, decW f = df := ⟨_, rfl⟩
  have HDN : Aside0 (∀ W, Calls Tryd.prog 12 #[.int .i64 n] W fun e w' => e = .returned (.string dn) ∧ Below W.heap.size W w') := ⟨fun W => by rw [← hdn]; exact dec_calls n hn W⟩
  have HDF : Aside0 (∀ W, Calls Tryd.prog 12 #[.int .i64 f] W fun e w' => e = .returned (.string df) ∧ Below W.heap.size W w') := ⟨fun W => by rw [← hdf]; exact dec_calls f hf W⟩
  rw [hdn, hdf]
  clear hdn hdf
  obtain ⟨i9, hi9, hz9⟩ := Option.map_eq_some_iff.1 info9
  simp only [Prod.mk.injEq] at hz9
  have HI := Aside0.mk (And.intro hi9 hz9)
  clear hi9 hz9
  go_enter Tryd.func53, Tryd.ntmps53
  go_upto_region 20 with ((go_at_call 57; refine (HW.out _).mono ?_; rintro e w1 ⟨rfl, hD⟩; have hB := hD.below; have K1 := Aside0.mk (blk_below (blk_new w (.cells #[.int .i64 12, .int .i64 n, .string d, .int .i64 f, .slice A4 N c4, .bool false, .bool false, .int .i64 m, .slice A8 ms.length c8] 66)) hB); have B1 := Aside0.mk (HB.out.trans (hB.mono HB.out.size)); clear hB hD; have S1 := Aside0.mk (LineSt.lit w w1 _ [wd] (by simp) K1.out B1.out); have z0 : (w1.alloc (.cells #[.string wd] 9)).cell? ⟨w.heap.size, 0, none⟩ = some (.int .i64 12) := (blk_cell (blk_alloc K1.out _) 0).trans rfl; have z1 : (w1.alloc (.cells #[.string wd] 9)).cell? ⟨w.heap.size, 1, none⟩ = some (.int .i64 n) := (blk_cell (blk_alloc K1.out _) 1).trans rfl; have z3 : (w1.alloc (.cells #[.string wd] 9)).cell? ⟨w.heap.size, 3, none⟩ = some (.int .i64 f) := (blk_cell (blk_alloc K1.out _) 3).trans rfl; have z4 : (w1.alloc (.cells #[.string wd] 9)).cell? ⟨w.heap.size, 4, none⟩ = some (.slice A4 N c4) := (blk_cell (blk_alloc K1.out _) 4).trans rfl))
  go_cut [6] (fun v wc => Aside0 (LineSt w wc #[.int .i64 12, .int .i64 n, .string d, .int .i64 f, .slice A4 N c4, .bool false, .bool false, .int .i64 m, .slice A8 ms.length c8] v ([wd, df, dn] ++ (vs.take 0).map valueF)))
  case first =>
    replace S1 : Aside0 (LineSt w (w1.alloc (.cells #[.string wd] 9)) #[.int .i64 12, .int .i64 n, .string d, .int .i64 f, .slice A4 N c4, .bool false, .bool false, .int .i64 m, .slice A8 ms.length c8] (.slice (some ⟨w1.heap.size, 0, none⟩) 1 1) [wd]) := S1
    go_region_held3 (fun w' => w'.cell? ⟨w.heap.size, 1, none⟩ = some (.int .i64 n) ∧ w'.cell? ⟨w.heap.size, 3, none⟩ = some (.int .i64 f))
      (first | go_keep | exact ⟨z1, z3⟩ | exact ⟨x1, x3⟩ | exact ⟨y1, y3⟩ | exact ⟨t1, t3⟩ | exact ⟨u1, u3⟩)
      ((first
        | (go_at_call 12; first | ((with_reducible refine (HDF.out _).mono ?_); rintro e w3 ⟨rfl, hB⟩; have S3 := Aside0.mk (LineSt.below (by with_reducible repeat (first | exact S2.out | apply LineSt.drew | apply LineSt.drewN)) hB); clear hB; have y1 : w3.cell? ⟨w.heap.size, 1, none⟩ = some (.int .i64 n) := (blk_cell S3.out.box 1).trans rfl; have y3 : w3.cell? ⟨w.heap.size, 3, none⟩ = some (.int .i64 f) := (blk_cell S3.out.box 3).trans rfl; have t1 : (w3.alloc (.cells #[.string df, .string dn] 9)).cell? ⟨w.heap.size, 1, none⟩ = some (.int .i64 n) := (blk_cell (blk_alloc S3.out.box _) 1).trans rfl; have t3 : (w3.alloc (.cells #[.string df, .string dn] 9)).cell? ⟨w.heap.size, 3, none⟩ = some (.int .i64 f) := (blk_cell (blk_alloc S3.out.box _) 3).trans rfl) | ((with_reducible refine (HDF.out _).mono ?_); rintro e w2 ⟨rfl, hB⟩; have S2 := Aside0.mk (LineSt.below (by with_reducible repeat (first | exact S1.out | apply LineSt.drew | apply LineSt.drewN)) hB); clear hB; have x1 : w2.cell? ⟨w.heap.size, 1, none⟩ = some (.int .i64 n) := (blk_cell S2.out.box 1).trans rfl; have x3 : w2.cell? ⟨w.heap.size, 3, none⟩ = some (.int .i64 f) := (blk_cell S2.out.box 3).trans rfl))
        | (go_at_call 12; first | ((with_reducible refine (HDN.out _).mono ?_); rintro e w3 ⟨rfl, hB⟩; have S3 := Aside0.mk (LineSt.below (by with_reducible repeat (first | exact S2.out | apply LineSt.drew | apply LineSt.drewN)) hB); clear hB; have y1 : w3.cell? ⟨w.heap.size, 1, none⟩ = some (.int .i64 n) := (blk_cell S3.out.box 1).trans rfl; have y3 : w3.cell? ⟨w.heap.size, 3, none⟩ = some (.int .i64 f) := (blk_cell S3.out.box 3).trans rfl; have t1 : (w3.alloc (.cells #[.string df, .string dn] 9)).cell? ⟨w.heap.size, 1, none⟩ = some (.int .i64 n) := (blk_cell (blk_alloc S3.out.box _) 1).trans rfl; have t3 : (w3.alloc (.cells #[.string df, .string dn] 9)).cell? ⟨w.heap.size, 3, none⟩ = some (.int .i64 f) := (blk_cell (blk_alloc S3.out.box _) 3).trans rfl) | ((with_reducible refine (HDN.out _).mono ?_); rintro e w2 ⟨rfl, hB⟩; have S2 := Aside0.mk (LineSt.below (by with_reducible repeat (first | exact S1.out | apply LineSt.drew | apply LineSt.drewN)) hB); clear hB; have x1 : w2.cell? ⟨w.heap.size, 1, none⟩ = some (.int .i64 n) := (blk_cell S2.out.box 1).trans rfl; have x3 : w2.cell? ⟨w.heap.size, 3, none⟩ = some (.int .i64 f) := (blk_cell S2.out.box 3).trans rfl))
        | ((refine step_append_lies _ rfl (.tmp 65) (.tmp 75) 84 rfl w.heap.size 9 i9 (.string ⟨#[]⟩) 1 16 un84 HI.out.1 HI.out.2.1 HI.out.2.2.1 HI.out.2.2.2 rfl (by decide) (.slice (some ⟨w1.heap.size, 0, none⟩) 1 1) 1 (encs Value.string [wd]) rfl (own_alloc S3.out.own _) ⟨w3.heap.size, 0, none⟩ 2 2 (encs Value.string [df, dn]) rfl rfl (lit_cellsS w3 [df, dn]) (one_S _) (by decide) (by decide) (by decide) (by have := S3.out.bel.size; rw [World.size_alloc]; omega) _ rfl ?_)
           intro g4 cap4 w4 ho hg hat hlt4
           have S4 : Aside0 (LineSt w w4 #[.int .i64 12, .int .i64 n, .string d, .int .i64 f, .slice A4 N c4, .bool false, .bool false, .int .i64 m, .slice A8 ms.length c8] (.slice (some ⟨g4, 0, none⟩) 3 cap4) [wd, df, dn]) := ⟨S3.out.after (ys := [df, dn]) (.cells #[.string df, .string dn] 9) ho ((below_alloc S3.out.bel _).grown hg (by have := S3.out.bel.size; rw [World.size_alloc]; omega) (own_base (own_alloc S3.out.own (.cells #[.string df, .string dn] 9)))) hg⟩
           have u1 : w4.cell? ⟨w.heap.size, 1, none⟩ = some (.int .i64 n) := (blk_cell S4.out.box 1).trans rfl
           have u3 : w4.cell? ⟨w.heap.size, 3, none⟩ = some (.int .i64 f) := (blk_cell S4.out.box 3).trans rfl
           have u4 : w4.cell? ⟨w.heap.size, 4, none⟩ = some (.slice A4 N c4) := (blk_cell S4.out.box 4).trans rfl
           clear ho hg hat hlt4)
        | fail))
    all_goals
      go_wp2_with fail
      go_meet
      exact S4
  case rest =>
    have S4 := hcut
    clear hcut z0 z1 z3 z4
    have u4 : wc.cell? ⟨w.heap.size, 4, none⟩ = some (.slice A4 N c4) := (blk_cell S4.out.box 4).trans rfl
    go_wp2_with fail
    clear u4
    go_loopw [6, 82] (fun v i wr => ∃ t : Nat, t ≤ N ∧ i = .int .i64 (t : Int) ∧ Aside0 (LineSt w wr #[.int .i64 12, .int .i64 n, .string d, .int .i64 f, .slice A4 N c4, .bool false, .bool false, .int .i64 m, .slice A8 ms.length c8] v ([wd, df, dn] ++ (vs.take t).map valueF))) (fun _ i _ => N - (intOf i).toNat)
    case atStart => exact ⟨0, by omega, rfl, S4⟩
    case round =>
      clear S4
      obtain ⟨t, ht, rfl, S⟩ := hrel
      obtain ⟨A3, c3, rfl⟩ := own_slice S.out.own
      by_cases hlt : t < N
      · have hb5 : (0 : Int) ≤ (t : Int) := by omega
        have hb6 : (t : Int) < (N : Int) := by omega
        obtain ⟨ad, rfl, hc0, hc1⟩ := at_T107 (Kd.C_below HR.out S.out.bel) (t : Int) hb5 hb6
        rw [Int.toNat_natCast] at hc0 hc1
        obtain ⟨x, hx⟩ : ∃ x, rd_T107 vs (t : Int) = x := ⟨_, rfl⟩
        rw [hx] at hc0 hc1
        obtain ⟨htk, hxm⟩ := rd_T_take vs t x (by rw [HN.out]; exact hlt) hx
        obtain ⟨hx0, hx1⟩ := HVS.out x hxm
        obtain ⟨x0, x1⟩ := x
        replace hc0 : wr.cell? (ad.add (t * 2)) = some (.int .i64 x0) := hc0
        replace hc1 : wr.cell? ⟨(ad.add (t * 2)).block, (ad.add (t * 2)).off + 1, none⟩ = some (.string x1) := hc1
        obtain ⟨dx, hdx⟩ : ∃ dx, valueF ⟨x0, x1⟩ = dx := ⟨_, rfl⟩
        have HX : Aside0 (∀ W, Calls Tryd.prog 74 #[.agg #[.int .i64 x0, .string x1]] W fun e w' => e = .returned (.string dx) ∧ Below W.heap.size W w') := ⟨fun W => by rw [← hdx]; exact value_calls ⟨x0, x1⟩ hx0 hx1 W⟩
        obtain ⟨Lc, hLc⟩ : ∃ Lc, [wd, df, dn] ++ (vs.take t).map valueF = Lc := ⟨_, rfl⟩
        have hLl : Lc.length ≤ 16777219 := by
          rw [← hLc, List.length_append, List.length_map, List.length_take]
          simp; omega
        rw [hLc] at S ⊢
        rw [hdx] at htk
        have HT := Aside0.mk (And.intro htk (And.intro hLc hLl))
        have SA := Aside0.mk (S.out.alloc (.cells #[.int .i64 x0, .string x1] 107))
        clear hx hxm hx0 hx1 htk hLc hLl hdx
        go_wp2_with (first
          | (go_at_call 74; refine (HX.out _).mono ?_; rintro e w2 ⟨rfl, hB⟩; have S2 := Aside0.mk (SA.out.below hB); clear hB)
          | ((with_reducible refine gate_builtin (b := .append) (xs := #[.tmp 86, .tmp 89]) rfl ?_); at_builtin; refine print_append_row_of (w0 := w) Value.string ByteArray.empty w.heap.size rfl (.tmp 86) (.tmp 89) 84 9 (.string ⟨#[]⟩) 16 rfl un84 info9 rfl (by decide) (fun _ => rfl) (.slice A3 Lc.length c3) Lc [dx] (some ⟨w2.heap.size, 0, none⟩) 1 1 rfl rfl (own_alloc S2.out.own _) (lit_readsS w2 [dx] (by simp)) (below_alloc S2.out.bel _) (by have := S2.out.bel.size; rw [World.size_alloc]; omega) (by have := HT.out.2.2; omega) ?_; intro v2 w3 ho hb hg hat; have S3 := Aside0.mk (S2.out.after _ ho hb hg); clear ho hb hg hat; obtain ⟨A5, c5, rfl⟩ := own_slice S3.out.own))
        refine ⟨⟨t + 1, by omega, by go_num, ⟨by have h := S3.out; rw [List.length_append, List.length_singleton] at h; rw [HT.out.1, ← List.append_assoc, HT.out.2.1]; exact h⟩⟩, ?_⟩
        simp only [intOf]; omega
      · obtain rfl : t = N := by omega
        have hfull : vs.take t = vs := List.take_of_length_le (by rw [HN.out]; exact Nat.le_refl _)
        have S1 : Aside0 (∃ Lx, LineSt w wr #[.int .i64 12, .int .i64 n, .string d, .int .i64 f, .slice A4 t c4, .bool false, .bool false, .int .i64 m, .slice A8 ms.length c8] (.slice A3 ([wd, df, dn] ++ (vs.take t).map valueF).length c3) Lx ∧ Lx = wd :: df :: dn :: vs.map valueF) := ⟨_, S.out, (by show [wd, df, dn] ++ (vs.take t).map valueF = _; rw [hfull]; rfl)⟩
        clear hfull
        go_wp2_with fail
        go_ret
        obtain ⟨Lx, h1, h2⟩ := S1.out
        exact ⟨⟨_, rfl, by rw [← h2]; exact h1.made⟩, h1.bel⟩
set_option maxHeartbeats 4000000 in
set_option maxRecDepth 100000 in
theorem line_keyed13 (dummy n : Int) (d : ByteArray) (f : Int) (vs : List S107) (m : Int) (ms : List Int) (A4 : Option Addr) (c4 : Nat) (A8 : Option Addr) (c8 : Nat) (w : World) (h4 : Kd.C k107 w A4 vs.length vs) (hn : I64 n) (hf : I64 f) (hvs : ∀ v ∈ vs, I64 v.f0 ∧ v.f1.size ≤ 16777216) (hl : vs.length ≤ 16777216) :
    Calls Tryd.prog 53 #[.agg #[.int .i64 13, .int .i64 n, .string d, .int .i64 f, .slice A4 vs.length c4, .bool false, .bool false, .int .i64 m, .slice A8 ms.length c8]] w fun e w' => (∃ v, e = .returned v ∧ Kd.R Kd.string 9 w' w.heap.size (fun _ => True) v (wordF 13 :: decW f :: decW n :: vs.map valueF)) ∧ Below w.heap.size w w' := by
  have HR := Aside0.mk h4
  have HVS := Aside0.mk hvs
  clear h4 hvs
  obtain ⟨N, hN⟩ : ∃ N, vs.length = N := ⟨_, rfl⟩
  rw [hN] at HR hl ⊢
  have HN := Aside0.mk hN
  clear hN
  have HB := Aside0.mk (Below.alloc (Below.refl w.heap.size w) (Nat.le_refl _) (.cells #[.int .i64 13, .int .i64 n, .string d, .int .i64 f, .slice A4 N c4, .bool false, .bool false, .int .i64 m, .slice A8 ms.length c8] 66))
  obtain ⟨wd, hwd⟩ : ∃ wd, wordF 13 = wd := ⟨_, rfl⟩
  have HW : Aside0 (∀ W, Calls Tryd.prog 57 #[.int .i64 13] W fun e w' => e = .returned (.string wd) ∧ Drawn0 W w') := ⟨fun W => by rw [← hwd]; exact word_calls 13 W⟩
  rw [hwd]
  clear hwd
  obtain ⟨dn, hdn⟩ : ∃ dn, decW n = dn := ⟨_, rfl⟩
  obtain ⟨df, hdf⟩ : ∃ df, decW f = df := ⟨_, rfl⟩
  have HDN : Aside0 (∀ W, Calls Tryd.prog 12 #[.int .i64 n] W fun e w' => e = .returned (.string dn) ∧ Below W.heap.size W w') := ⟨fun W => by rw [← hdn]; exact dec_calls n hn W⟩
  have HDF : Aside0 (∀ W, Calls Tryd.prog 12 #[.int .i64 f] W fun e w' => e = .returned (.string df) ∧ Below W.heap.size W w') := ⟨fun W => by rw [← hdf]; exact dec_calls f hf W⟩
  rw [hdn, hdf]
  clear hdn hdf
  obtain ⟨i9, hi9, hz9⟩ := Option.map_eq_some_iff.1 info9
  simp only [Prod.mk.injEq] at hz9
  have HI := Aside0.mk (And.intro hi9 hz9)
  clear hi9 hz9
  go_enter Tryd.func53, Tryd.ntmps53
  go_upto_region 20 with ((go_at_call 57; refine (HW.out _).mono ?_; rintro e w1 ⟨rfl, hD⟩; have hB := hD.below; have K1 := Aside0.mk (blk_below (blk_new w (.cells #[.int .i64 13, .int .i64 n, .string d, .int .i64 f, .slice A4 N c4, .bool false, .bool false, .int .i64 m, .slice A8 ms.length c8] 66)) hB); have B1 := Aside0.mk (HB.out.trans (hB.mono HB.out.size)); clear hB hD; have S1 := Aside0.mk (LineSt.lit w w1 _ [wd] (by simp) K1.out B1.out); have z0 : (w1.alloc (.cells #[.string wd] 9)).cell? ⟨w.heap.size, 0, none⟩ = some (.int .i64 13) := (blk_cell (blk_alloc K1.out _) 0).trans rfl; have z1 : (w1.alloc (.cells #[.string wd] 9)).cell? ⟨w.heap.size, 1, none⟩ = some (.int .i64 n) := (blk_cell (blk_alloc K1.out _) 1).trans rfl; have z3 : (w1.alloc (.cells #[.string wd] 9)).cell? ⟨w.heap.size, 3, none⟩ = some (.int .i64 f) := (blk_cell (blk_alloc K1.out _) 3).trans rfl; have z4 : (w1.alloc (.cells #[.string wd] 9)).cell? ⟨w.heap.size, 4, none⟩ = some (.slice A4 N c4) := (blk_cell (blk_alloc K1.out _) 4).trans rfl))
  go_cut [6] (fun v wc => Aside0 (LineSt w wc #[.int .i64 13, .int .i64 n, .string d, .int .i64 f, .slice A4 N c4, .bool false, .bool false, .int .i64 m, .slice A8 ms.length c8] v ([wd, df, dn] ++ (vs.take 0).map valueF)))
  case first =>
    replace S1 : Aside0 (LineSt w (w1.alloc (.cells #[.string wd] 9)) #[.int .i64 13, .int .i64 n, .string d, .int .i64 f, .slice A4 N c4, .bool false, .bool false, .int .i64 m, .slice A8 ms.length c8] (.slice (some ⟨w1.heap.size, 0, none⟩) 1 1) [wd]) := S1
    go_region_held3 (fun w' => w'.cell? ⟨w.heap.size, 1, none⟩ = some (.int .i64 n) ∧ w'.cell? ⟨w.heap.size, 3, none⟩ = some (.int .i64 f))
      (first | go_keep | exact ⟨z1, z3⟩ | exact ⟨x1, x3⟩ | exact ⟨y1, y3⟩ | exact ⟨t1, t3⟩ | exact ⟨u1, u3⟩)
      ((first
        | (go_at_call 12; first | ((with_reducible refine (HDF.out _).mono ?_); rintro e w3 ⟨rfl, hB⟩; have S3 := Aside0.mk (LineSt.below (by with_reducible repeat (first | exact S2.out | apply LineSt.drew | apply LineSt.drewN)) hB); clear hB; have y1 : w3.cell? ⟨w.heap.size, 1, none⟩ = some (.int .i64 n) := (blk_cell S3.out.box 1).trans rfl; have y3 : w3.cell? ⟨w.heap.size, 3, none⟩ = some (.int .i64 f) := (blk_cell S3.out.box 3).trans rfl; have t1 : (w3.alloc (.cells #[.string df, .string dn] 9)).cell? ⟨w.heap.size, 1, none⟩ = some (.int .i64 n) := (blk_cell (blk_alloc S3.out.box _) 1).trans rfl; have t3 : (w3.alloc (.cells #[.string df, .string dn] 9)).cell? ⟨w.heap.size, 3, none⟩ = some (.int .i64 f) := (blk_cell (blk_alloc S3.out.box _) 3).trans rfl) | ((with_reducible refine (HDF.out _).mono ?_); rintro e w2 ⟨rfl, hB⟩; have S2 := Aside0.mk (LineSt.below (by with_reducible repeat (first | exact S1.out | apply LineSt.drew | apply LineSt.drewN)) hB); clear hB; have x1 : w2.cell? ⟨w.heap.size, 1, none⟩ = some (.int .i64 n) := (blk_cell S2.out.box 1).trans rfl; have x3 : w2.cell? ⟨w.heap.size, 3, none⟩ = some (.int .i64 f) := (blk_cell S2.out.box 3).trans rfl))
        | (go_at_call 12; first | ((with_reducible refine (HDN.out _).mono ?_); rintro e w3 ⟨rfl, hB⟩; have S3 := Aside0.mk (LineSt.below (by with_reducible repeat (first | exact S2.out | apply LineSt.drew | apply LineSt.drewN)) hB); clear hB; have y1 : w3.cell? ⟨w.heap.size, 1, none⟩ = some (.int .i64 n) := (blk_cell S3.out.box 1).trans rfl; have y3 : w3.cell? ⟨w.heap.size, 3, none⟩ = some (.int .i64 f) := (blk_cell S3.out.box 3).trans rfl; have t1 : (w3.alloc (.cells #[.string df, .string dn] 9)).cell? ⟨w.heap.size, 1, none⟩ = some (.int .i64 n) := (blk_cell (blk_alloc S3.out.box _) 1).trans rfl; have t3 : (w3.alloc (.cells #[.string df, .string dn] 9)).cell? ⟨w.heap.size, 3, none⟩ = some (.int .i64 f) := (blk_cell (blk_alloc S3.out.box _) 3).trans rfl) | ((with_reducible refine (HDN.out _).mono ?_); rintro e w2 ⟨rfl, hB⟩; have S2 := Aside0.mk (LineSt.below (by with_reducible repeat (first | exact S1.out | apply LineSt.drew | apply LineSt.drewN)) hB); clear hB; have x1 : w2.cell? ⟨w.heap.size, 1, none⟩ = some (.int .i64 n) := (blk_cell S2.out.box 1).trans rfl; have x3 : w2.cell? ⟨w.heap.size, 3, none⟩ = some (.int .i64 f) := (blk_cell S2.out.box 3).trans rfl))
        | ((refine step_append_lies _ rfl (.tmp 65) (.tmp 75) 84 rfl w.heap.size 9 i9 (.string ⟨#[]⟩) 1 16 un84 HI.out.1 HI.out.2.1 HI.out.2.2.1 HI.out.2.2.2 rfl (by decide) (.slice (some ⟨w1.heap.size, 0, none⟩) 1 1) 1 (encs Value.string [wd]) rfl (own_alloc S3.out.own _) ⟨w3.heap.size, 0, none⟩ 2 2 (encs Value.string [df, dn]) rfl rfl (lit_cellsS w3 [df, dn]) (one_S _) (by decide) (by decide) (by decide) (by have := S3.out.bel.size; rw [World.size_alloc]; omega) _ rfl ?_)
           intro g4 cap4 w4 ho hg hat hlt4
           have S4 : Aside0 (LineSt w w4 #[.int .i64 13, .int .i64 n, .string d, .int .i64 f, .slice A4 N c4, .bool false, .bool false, .int .i64 m, .slice A8 ms.length c8] (.slice (some ⟨g4, 0, none⟩) 3 cap4) [wd, df, dn]) := ⟨S3.out.after (ys := [df, dn]) (.cells #[.string df, .string dn] 9) ho ((below_alloc S3.out.bel _).grown hg (by have := S3.out.bel.size; rw [World.size_alloc]; omega) (own_base (own_alloc S3.out.own (.cells #[.string df, .string dn] 9)))) hg⟩
           have u1 : w4.cell? ⟨w.heap.size, 1, none⟩ = some (.int .i64 n) := (blk_cell S4.out.box 1).trans rfl
           have u3 : w4.cell? ⟨w.heap.size, 3, none⟩ = some (.int .i64 f) := (blk_cell S4.out.box 3).trans rfl
           have u4 : w4.cell? ⟨w.heap.size, 4, none⟩ = some (.slice A4 N c4) := (blk_cell S4.out.box 4).trans rfl
           clear ho hg hat hlt4)
        | fail))
    all_goals
      go_wp2_with fail
      go_meet
      exact S4
  case rest =>
    have S4 := hcut
    clear hcut z0 z1 z3 z4
    have u4 : wc.cell? ⟨w.heap.size, 4, none⟩ = some (.slice A4 N c4) := (blk_cell S4.out.box 4).trans rfl
    go_wp2_with fail
    clear u4
    go_loopw [6, 82] (fun v i wr => ∃ t : Nat, t ≤ N ∧ i = .int .i64 (t : Int) ∧ Aside0 (LineSt w wr #[.int .i64 13, .int .i64 n, .string d, .int .i64 f, .slice A4 N c4, .bool false, .bool false, .int .i64 m, .slice A8 ms.length c8] v ([wd, df, dn] ++ (vs.take t).map valueF))) (fun _ i _ => N - (intOf i).toNat)
    case atStart => exact ⟨0, by omega, rfl, S4⟩
    case round =>
      clear S4
      obtain ⟨t, ht, rfl, S⟩ := hrel
      obtain ⟨A3, c3, rfl⟩ := own_slice S.out.own
      by_cases hlt : t < N
      · have hb5 : (0 : Int) ≤ (t : Int) := by omega
        have hb6 : (t : Int) < (N : Int) := by omega
        obtain ⟨ad, rfl, hc0, hc1⟩ := at_T107 (Kd.C_below HR.out S.out.bel) (t : Int) hb5 hb6
        rw [Int.toNat_natCast] at hc0 hc1
        obtain ⟨x, hx⟩ : ∃ x, rd_T107 vs (t : Int) = x := ⟨_, rfl⟩
        rw [hx] at hc0 hc1
        obtain ⟨htk, hxm⟩ := rd_T_take vs t x (by rw [HN.out]; exact hlt) hx
        obtain ⟨hx0, hx1⟩ := HVS.out x hxm
        obtain ⟨x0, x1⟩ := x
        replace hc0 : wr.cell? (ad.add (t * 2)) = some (.int .i64 x0) := hc0
        replace hc1 : wr.cell? ⟨(ad.add (t * 2)).block, (ad.add (t * 2)).off + 1, none⟩ = some (.string x1) := hc1
        obtain ⟨dx, hdx⟩ : ∃ dx, valueF ⟨x0, x1⟩ = dx := ⟨_, rfl⟩
        have HX : Aside0 (∀ W, Calls Tryd.prog 74 #[.agg #[.int .i64 x0, .string x1]] W fun e w' => e = .returned (.string dx) ∧ Below W.heap.size W w') := ⟨fun W => by rw [← hdx]; exact value_calls ⟨x0, x1⟩ hx0 hx1 W⟩
        obtain ⟨Lc, hLc⟩ : ∃ Lc, [wd, df, dn] ++ (vs.take t).map valueF = Lc := ⟨_, rfl⟩
        have hLl : Lc.length ≤ 16777219 := by
          rw [← hLc, List.length_append, List.length_map, List.length_take]
          simp; omega
        rw [hLc] at S ⊢
        rw [hdx] at htk
        have HT := Aside0.mk (And.intro htk (And.intro hLc hLl))
        have SA := Aside0.mk (S.out.alloc (.cells #[.int .i64 x0, .string x1] 107))
        clear hx hxm hx0 hx1 htk hLc hLl hdx
        go_wp2_with (first
          | (go_at_call 74; refine (HX.out _).mono ?_; rintro e w2 ⟨rfl, hB⟩; have S2 := Aside0.mk (SA.out.below hB); clear hB)
          | ((with_reducible refine gate_builtin (b := .append) (xs := #[.tmp 86, .tmp 89]) rfl ?_); at_builtin; refine print_append_row_of (w0 := w) Value.string ByteArray.empty w.heap.size rfl (.tmp 86) (.tmp 89) 84 9 (.string ⟨#[]⟩) 16 rfl un84 info9 rfl (by decide) (fun _ => rfl) (.slice A3 Lc.length c3) Lc [dx] (some ⟨w2.heap.size, 0, none⟩) 1 1 rfl rfl (own_alloc S2.out.own _) (lit_readsS w2 [dx] (by simp)) (below_alloc S2.out.bel _) (by have := S2.out.bel.size; rw [World.size_alloc]; omega) (by have := HT.out.2.2; omega) ?_; intro v2 w3 ho hb hg hat; have S3 := Aside0.mk (S2.out.after _ ho hb hg); clear ho hb hg hat; obtain ⟨A5, c5, rfl⟩ := own_slice S3.out.own))
        refine ⟨⟨t + 1, by omega, by go_num, ⟨by have h := S3.out; rw [List.length_append, List.length_singleton] at h; rw [HT.out.1, ← List.append_assoc, HT.out.2.1]; exact h⟩⟩, ?_⟩
        simp only [intOf]; omega
      · obtain rfl : t = N := by omega
        have hfull : vs.take t = vs := List.take_of_length_le (by rw [HN.out]; exact Nat.le_refl _)
        have S1 : Aside0 (∃ Lx, LineSt w wr #[.int .i64 13, .int .i64 n, .string d, .int .i64 f, .slice A4 t c4, .bool false, .bool false, .int .i64 m, .slice A8 ms.length c8] (.slice A3 ([wd, df, dn] ++ (vs.take t).map valueF).length c3) Lx ∧ Lx = wd :: df :: dn :: vs.map valueF) := ⟨_, S.out, (by show [wd, df, dn] ++ (vs.take t).map valueF = _; rw [hfull]; rfl)⟩
        clear hfull
        go_wp2_with fail
        go_ret
        obtain ⟨Lx, h1, h2⟩ := S1.out
        exact ⟨⟨_, rfl, by rw [← h2]; exact h1.made⟩, h1.bel⟩
end Go.Proofs.YtiddiboclfpklaaDoor.Tz
namespace Go.Proofs.YtiddiboclfpklaaDoor.Tz
open Go.RowKit Go.Proofs.YtiddiboclfpklaaDoorW.PrintWords Go.Proofs.YtiddiboclfpklaaDoor.PScriptReads Go.Proofs.YtiddiboclfpklaaDoor.Tx
set_option linter.unusedVariables false
structure ActOk (a : S66) : Prop where
 n : I64 a.f0.f1
 f : I64 a.f0.f3.f0
 m : I64 a.f3
 d : a.f0.f2.size ≤ 16777216
 vs : ∀ v ∈ a.f0.f3.f1, I64 v.f0 ∧ v.f1.size ≤ 16777216
 vl : a.f0.f3.f1.length ≤ 16777216
 ms : ∀ x ∈ a.f4, 0 ≤ x ∧ x < 4294967296
 ml : a.f4.length ≤ 16777216
theorem line_calls66 (a : S66) (H : ActOk a) (A4 : Option Addr) (c4 : Nat) (A8 : Option Addr) (c8 : Nat) (w : World)
  (h4 : Kd.C k107 w A4 a.f0.f3.f1.length a.f0.f3.f1) (h8 : Kd.C (Kd.int .u32) w A8 a.f4.length a.f4) :
  Calls Tryd.prog 53 #[actV a A4 c4 A8 c8] w fun e w' => (∃ v, e = .returned v ∧ Kd.R Kd.string 9 w' w.heap.size (fun _ => True) v (lineA a)) ∧ Below w.heap.size w w' := by
 obtain ⟨⟨k, n, d, f, vs⟩, cut, mount, m, ms⟩ := a
 obtain ⟨hn, hf, hm, hd, hvs, hvl, hms, hml⟩ := H
 dsimp only at hn hf hm hd hvs hvl hms hml h4 h8
 cases cut with
 | true => exact line_cut k n d f vs mount m ms A4 c4 A8 c8 w h8 hm hms hml
 | false =>
  cases mount with
  | true => exact line_mount k n d f vs true m ms A4 c4 A8 c8 w
  | false =>
   by_cases h1 : k = 1
   ·subst h1; exact line_begin 0 n d f vs m ms A4 c4 A8 c8 w hn
   by_cases h2 : k = 2
   ·subst h2; exact line_chunk 0 n d f vs m ms A4 c4 A8 c8 w hd
   by_cases h3 : k = 11
   ·subst h3; exact line_keyed11 0 n d f vs m ms A4 c4 A8 c8 w h4 hn hf hvs hvl
   by_cases h4' : k = 12
   ·subst h4'; exact line_keyed12 0 n d f vs m ms A4 c4 A8 c8 w h4 hn hf hvs hvl
   by_cases h5 : k = 13
   ·subst h5; exact line_keyed13 0 n d f vs m ms A4 c4 A8 c8 w h4 hn hf hvs hvl
   have e : lineA ⟨⟨k, n, d, f, vs⟩, false, false, m, ms⟩ = [wordF k] := by simp [lineA, h1, h2, h3, h4', h5]
   rw [e]
   exact line_none k n d f vs m ms A4 c4 A8 c8 w h1 h2 h3 h4' h5
end Go.Proofs.YtiddiboclfpklaaDoor.Tz
