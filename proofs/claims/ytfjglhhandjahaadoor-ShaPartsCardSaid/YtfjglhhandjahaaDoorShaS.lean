/- The bytes of a digest, both ways. -/
import Derived.Test.YtfjglhhandjahaaDoorShaR
namespace Go.Proofs.YtfjglhhandjahaaDoor.Sha
open Go.RowKit Go.Proofs.YtfjglhhandjahaaDoorW.PrintWords Go.Proofs.YtfjglhhandjahaaDoor.PShaOf
set_option linter.unusedVariables false

set_option maxHeartbeats 1000000 in
set_option maxRecDepth 100000 in
theorem bytes_calls (d : List Int) (hd : d.length = 8) (w : World) :
    Calls Tryd.prog 13 #[.agg (nums .u32 d).toArray] w fun e w' => ∃ v, e = .returned v ∧ OwnB w w' v (bytesL d) := by
  have z0 : Aside0 (OwnB w (w.alloc (.cells (nums .u32 d).toArray 29)) (.slice none 0 0) []) := ⟨(OwnB.nil w).alloc _⟩
  have hsz : (Tryd.prog.info? 29).map (·.size) = some (nums .u32 d).toArray.size := by rw [size29]; simp [nums, hd]
  have HB := Aside0.mk (And.intro (blk_new w (.cells (nums .u32 d).toArray 29)) hsz)
  clear hsz
  go_enter Tryd.func13, Tryd.ntmps13
  go_wp2_with (refine wpList_load_row rfl 29 _ rfl w.heap.size rfl 29 _ (0, 0) _ HB.out.1 un29 rfl HB.out.2 ?_)
  go_loopw [3, 7] (fun v i wr => ∃ t : Nat, t ≤ 8 ∧ i = .int .i64 (t : Int) ∧ Aside0 (OwnB w wr v (bytesL (d.take t)))) (fun _ i _ => 8 - (intOf i).toNat)
  case atStart => exact ⟨0, by omega, rfl, z0⟩
  case round =>
    clear z0
    obtain ⟨t, ht, rfl, S⟩ := hrel
    obtain ⟨A4, c4, rfl⟩ := S.out.slice
    have hm1 : (bytesL (d.take t)).length = 4 * t := by rw [bytesL_length, List.length_take]; omega
    obtain ⟨m, hm⟩ : ∃ m, (bytesL (d.take t)).length = m := ⟨_, rfl⟩
    rw [hm] at hm1
    simp only [hm]
    have HM := Aside0.mk (And.intro hm hm1)
    rw [hm] at S
    clear hm hm1
    by_cases hlt : t < 8
    · have hix := ix29 hd hlt
      obtain ⟨x, hx⟩ : ∃ x, d.getD t 0 = x := ⟨_, rfl⟩
      rw [hx] at hix
      have HX := Aside0.mk hx
      clear hx
      go_wp2_with ((refine print_append_row (w0 := w) w.heap.size rfl (.tmp 10) (.tmp 22) 23 5 .u8 1 rfl un23 info5 (by decide) (.slice A4 m c4) (bytesL (d.take t)) (four x) (some ⟨wr.heap.size, 0, none⟩) 4 4 rfl rfl (S.out.alloc _).own (reads_lit wr (four x) (by simp [four])) (S.out.alloc _).bel (S.out.alloc _).bel.size (by have := HM.out.1; have := HM.out.2; omega) ?_; intro v2 w2 ho hb _ _; have S2 : Aside0 (OwnB w w2 v2 (bytesL (d.take t) ++ four x)) := ⟨⟨ho, hb⟩⟩; clear ho hb))
      refine ⟨⟨t + 1, by omega, by go_num, ⟨?_⟩⟩, ?_⟩
      · rw [bytesL_take d (by omega), HX.out]; exact S2.out
      · simp only [intOf]; omega
    · obtain rfl : t = 8 := by omega
      go_wp2_with fail
      have FIN : OwnB w wr (.slice A4 m c4) (bytesL d) := by
        have h2 := S.out
        rw [List.take_of_length_le (by omega)] at h2
        exact h2
      go_ret
      exact ⟨_, rfl, FIN⟩

theorem lit_cells (W : World) (ys : List Int) : ∀ (j : Nat) (u : Value), (nums .u8 ys)[j]? = some u → (W.drew.alloc (.cells (nums .u8 ys).toArray 5)).cell? ((⟨W.heap.size, 0, none⟩ : Addr).add j) = some u := by
  intro j u hu
  rw [add_plain]
  refine (blk_cell (blk_new W.drew (.cells (nums .u8 ys).toArray 5)) j).trans ?_
  simpa using hu
theorem OwnB.grown {w wr w2 : World} {v v2 : Value} {xs : List Int} {m : Nat} (S : OwnB w wr v xs) (ys : List Int) (hm : xs.length = m) (ho : w2.ownsRow w.heap.size 5 1 v2 (m + ys.length) (nums .u8 xs ++ nums .u8 ys)) (hg : (wr.drew.alloc (.cells (nums .u8 ys).toArray 5)).grownBy w2 v.ownBlock) : OwnB w w2 v2 (xs ++ ys) := by
  refine ⟨?_, ?_⟩
  · rw [← nums_append] at ho
    rw [List.length_append, hm]
    exact ho
  · exact (below_alloc (below_drew S.bel) _).grown hg (by have := S.bel.size; simp; omega) (own_base S.own)
theorem OwnB.lower {w w1 wr : World} {v : Value} {xs : List Int} (h : OwnB w1 wr v xs) (hb : Below w.heap.size w w1) : OwnB w wr v xs :=
  ⟨own_weaken h.own hb.size, hb.trans (h.bel.mono hb.size)⟩

set_option maxHeartbeats 1000000 in
set_option maxRecDepth 100000 in
theorem rbytes_calls (d : List Int) (hd : d.length = 8) (hpos : ∀ x ∈ d, 0 ≤ x) (w : World) :
    Calls Tryd.prog 14 #[.agg (nums .u32 d).toArray] w fun e w' => ∃ v, e = .returned v ∧ OwnB w w' v (bytesL d) := by
  have HP := Aside0.mk hpos
  clear hpos
  obtain ⟨wb, hwb⟩ : ∃ wb, w.alloc (.cells (nums .u32 d).toArray 29) = wb := ⟨_, rfl⟩
  have z0 : Aside0 (OwnB wb wb (.slice none 0 0) []) := ⟨OwnB.nil wb⟩
  have hsz : (Tryd.prog.info? 29).map (·.size) = some (nums .u32 d).toArray.size := by rw [size29]; simp [nums, hd]
  have HB : Aside0 (W32 wb w.heap.size 29 d ∧ Below w.heap.size w wb) := ⟨by rw [← hwb]; exact ⟨blk_new w _, below_alloc (Below.refl _ _) _⟩⟩
  go_enter Tryd.func14, Tryd.ntmps14
  go_upto_region 2 with (fail)

  clear hwb hsz
  go_wp2_with fail
  go_loopw [3, 4] (fun v i wr => ∃ t : Nat, t ≤ 8 ∧ i = .int .i64 (t : Int) ∧ Aside0 (OwnB wb wr v (bytesL (d.take t)))) (fun _ i _ => 8 - (intOf i).toNat)
  case atStart => exact ⟨0, by omega, rfl, z0⟩
  case round =>
    clear z0
    obtain ⟨t, ht, rfl, S⟩ := hrel
    obtain ⟨A4, c4, rfl⟩ := S.out.slice
    have hm1 : (bytesL (d.take t)).length = 4 * t := by rw [bytesL_length, List.length_take]; omega
    obtain ⟨m, hm⟩ : ∃ m, (bytesL (d.take t)).length = m := ⟨_, rfl⟩
    rw [hm] at hm1
    simp only [hm]
    have HM := Aside0.mk (And.intro hm hm1)
    rw [hm] at S
    clear hm hm1
    by_cases hlt : t < 8
    · have hb5 : (0 : Int) ≤ (t : Int) := by omega
      have hb6 : (t : Int) < 8 := by omega
      obtain ⟨x, hx⟩ : ∃ x, d.getD t 0 = x := ⟨_, rfl⟩
      have hcx : wr.cell? ⟨w.heap.size, t, none⟩ = some (.int .u32 x) := by
        rw [← hx]
        exact pw_cell_below S.out.bel (HB.out.1.cell t (by omega))
      have hx0 : 0 ≤ x := by
        rw [← hx]
        refine HP.out _ ?_
        simp [List.getD_eq_getElem?_getD, show t < d.length by omega]
      have HX := Aside0.mk hx
      have HX2 : Aside0 (wb.cell? ⟨w.heap.size, t, none⟩ = some (.int .u32 x)) := ⟨by rw [← hx]; exact HB.out.1.cell t (by omega)⟩
      clear hx
      go_upto_region 5 with (fail)
      obtain ⟨i5, hi5, hz5⟩ := Option.map_eq_some_iff.1 info5
      simp only [Prod.mk.injEq] at hz5
      have HI := Aside0.mk (And.intro hi5 hz5)
      clear hi5 hz5
      have hcy : (wr.drew.alloc (.cells (nums .u8 (four x)).toArray 5)).cell? ⟨w.heap.size, t, none⟩ = some (.int .u32 x) := pw_cell_below (below_alloc (Below.refl _ _) _) hcx
      have HY := Aside0.mk hcy
      clear hcy
      have he1 : IntKind.u8.wrap (IntKind.u32.wrap (x.tdiv 16777216)) = x / 16777216 % 256 := by rw [Int.tdiv_eq_ediv_of_nonneg hx0, IntKind.wrap_u32, IntKind.wrap_u8]; omega
      have he2 : IntKind.u8.wrap ((IntKind.u32.wrap (x.tdiv 65536)).tmod 256) = x / 65536 % 256 := by rw [Int.tdiv_eq_ediv_of_nonneg hx0, IntKind.wrap_u32, IntKind.wrap_u8, Int.tmod_eq_emod_of_nonneg (by omega)]; omega
      have he3 : IntKind.u8.wrap ((IntKind.u32.wrap (x.tdiv 256)).tmod 256) = x / 256 % 256 := by rw [Int.tdiv_eq_ediv_of_nonneg hx0, IntKind.wrap_u32, IntKind.wrap_u8, Int.tmod_eq_emod_of_nonneg (by omega)]; omega
      have he4 : IntKind.u8.wrap (x.tmod 256) = x % 256 := by rw [IntKind.wrap_u8, Int.tmod_eq_emod_of_nonneg hx0]; omega
      go_region_held3 (fun w' => w'.cell? ⟨w.heap.size, t, none⟩ = some (.int .u32 x)) (first | exact hcx | exact HY.out | exact hc2 | fail "no keep")
        ((first
          | ((refine step_append_lies _ rfl (.tmp 9) (.tmp 32) 23 rfl wb.heap.size 5 i5 (.int .u8 0) 1 1 un23 HI.out.1 HI.out.2.1 HI.out.2.2.1 HI.out.2.2.2 rfl (by decide) (.slice A4 m c4) m (nums .u8 (bytesL (d.take t))) rfl (by have := (S.out.alloc (.cells (nums .u8 (four x)).toArray 5)).own; rw [HM.out.1] at this; exact this) ⟨wr.heap.size, 0, none⟩ 4 4 (nums .u8 (four x)) rfl rfl (lit_cells wr (four x)) (one_k _ _) (by decide) (by have := HM.out.2; have h9 : maxLen = 9223372036854775807 := rfl; omega) (by have := HM.out.2; omega) (S.out.alloc (.cells (nums .u8 (four x)).toArray 5)).bel.size _ rfl ?_)
             intro g3 cap3 w2 ho hg hat hlt2
             have S2 : Aside0 (OwnB wb w2 (.slice (some ⟨g3, 0, none⟩) (m + 4) cap3) (bytesL (d.take t) ++ four x)) := ⟨S.out.grown (four x) HM.out.1 ho hg⟩
             have hc2 : w2.cell? ⟨w.heap.size, t, none⟩ = some (.int .u32 x) := pw_cell_below S2.out.bel (HX2.out)
             clear ho hg hat hlt2)))
      go_wp2_with fail
      refine ⟨⟨t + 1, by omega, by go_num, ⟨?_⟩⟩, ?_⟩
      · rw [bytesL_take d (by omega), HX.out]; exact S2.out
      · simp only [intOf]; omega
    · obtain rfl : t = 8 := by omega
      go_wp2_with fail
      have FIN : OwnB w wr (.slice A4 m c4) (bytesL d) := by
        have h2 := S.out
        rw [List.take_of_length_le (by omega)] at h2
        exact h2.lower HB.out.2
      go_ret
      exact ⟨_, rfl, FIN⟩
end Go.Proofs.YtfjglhhandjahaaDoor.Sha
