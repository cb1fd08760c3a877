/- The walk of the statement PoolFinds: it answers true. -/
import Derived.Test.YtnaliaebjeikaaaPoolF
import Derived.Test.YtnaliaebjeikaaaPoolL
namespace Go.Proofs.Ytnaliaebjeikaaa
open Go.RowKit Go.Shelf Go.Maps Go.Proofs.YtnaliaebjeikaaaW.PrintWords

theorem findR_le (p : Int) (l : List Int) (f n : Int) : (findR p l f n).1.length ≤ 128 := by
  unfold findR
  split
  · simp
  · split
    · simp
    · have := come_len p f l p.toNat
      unfold badAsk at *
      simp only [List.length_take]
      omega

set_option maxHeartbeats 4000000 in
set_option maxRecDepth 100000 in
theorem poolFinds_out (p : Int) (A1 : Option Addr) (c1 len : Nat) (x y : Int) (w : World) (h : 300 < len) :
    Calls Try.prog 7 #[.int .i64 p, .slice A1 len c1, .agg #[.int .i64 x, .int .i64 y]] w (LawPost w) := by
  have HB0 := Aside0.mk (show Below w.heap.size w (w.alloc (.cells #[.int .i64 x, .int .i64 y] 23)) from (Below.refl _ _).alloc (Nat.le_refl _) _)
  go_enter Try.func7, Try.ntmps7
  go_wp2_with (go_at_call 8; refine (awake26_calls _).mono ?_; rintro e w' ⟨rfl, hB⟩; have HB := Aside0.mk hB; clear hB)
  go_ret
  exact ⟨rfl, HB0.out.trans (HB.out.mono (by simp))⟩

set_option maxHeartbeats 4000000 in
set_option maxRecDepth 100000 in
theorem poolFinds_in (p : Int) (A1 : Option Addr) (c1 : Nat) (l1 : List Int) (x y : Int) (w : World) (hr1 : Kd.C (Kd.int .i64) w A1 l1.length l1) (hl : l1.length ≤ 300) (hwf : ∀ n ∈ l1, (Lit.int .i64 n).wf = true) (hc1 : l1.length ≤ c1) :
    Calls Try.prog 7 #[.int .i64 p, .slice A1 l1.length c1, .agg #[.int .i64 x, .int .i64 y]] w (LawPost w) := by
  have HR1 := Aside0.mk hr1
  have HW := Aside0.mk hwf
  have HB0 := Aside0.mk (show Below w.heap.size w (w.alloc (.cells #[.int .i64 x, .int .i64 y] 23)) from (Below.refl _ _).alloc (Nat.le_refl _) _)
  clear hr1 hwf
  go_enter Try.func7, Try.ntmps7
  go_wp2_with fail
  refine (find_calls p x y A1 c1 l1 _ (Kd.C_alloc HR1.out _) hl HW.out).mono ?_
  rintro e w1 ⟨v1, rfl, hR1, hB1⟩
  obtain ⟨B1, d1, rfl, hd1, hC1⟩ := Kd.R_reads hR1
  have hx0 : w1.cell? ⟨w.heap.size, 0, none⟩ = some (.int .i64 x) := (hB1.cell (p := ⟨w.heap.size, 0, none⟩) (by simp)).trans (by simp)
  have hx1 : w1.cell? ⟨w.heap.size, 1, none⟩ = some (.int .i64 y) := (hB1.cell (p := ⟨w.heap.size, 1, none⟩) (by simp)).trans (by simp)
  have HB1 := Aside0.mk (show Below w.heap.size w w1 from HB0.out.trans (hB1.mono (by simp)))
  have HC1 := Aside0.mk hC1
  clear hR1 hB1 hC1
  go_wp2_with fail
  refine (PPoolFinds.instarref26_Find.calls 1000 p A1 c1 l1 x y (findR p l1 x y).1 (findR p l1 x y).2 _ (Kd.C_below HR1.out HB1.out) hc1 (find_f p x y l1 hl)).mono ?_
  rintro e w2 ⟨v2, rfl, hR2, hB2⟩
  obtain ⟨B2, d2, rfl, hd2, hC2⟩ := Kd.R_reads hR2
  have HC1 := Aside0.mk (Kd.C_below HC1.out hB2)
  have HB2 := Aside0.mk (show Below w.heap.size w w2 from HB1.out.trans (hB2.mono HB1.out.size))
  have HC2 := Aside0.mk hC2
  clear hR2 hB2 hC2 HB1 hx0 hx1
  go_wp2_with fail
  refine (PPoolFinds.instarref26_Rest.calls 1000 p A1 c1 l1 _ _ (Kd.C_below HR1.out HB2.out) hc1 (rest_f p l1 hl 1000 (by omega))).mono ?_
  rintro e w3 ⟨v3, rfl, hR3, hB3⟩
  obtain ⟨B3, d3, rfl, hd3, hC3⟩ := Kd.R_reads hR3
  have HC1 := Aside0.mk (Kd.C_below HC1.out hB3)
  have HC2 := Aside0.mk (Kd.C_below HC2.out hB3)
  have HB3 := Aside0.mk (show Below w.heap.size w w3 from HB2.out.trans (hB3.mono HB2.out.size))
  have HC3 := Aside0.mk hC3
  clear hR3 hB3 hC3 HB2
  have hle := findR_le p l1 x y
  have hle3 := restR_le p l1
  have hq : ((findR p l1 x y).2 == (findR p l1 x y).2) = true := beq_self_eq_true _
  have hq3 : (freeN p l1 == ((restR p l1).length : Int)) = true := by rw [restR_len]; exact beq_self_eq_true _
  have SF := Aside0.mk (same_f (findR p l1 x y).1 (by omega))
  have SR := Aside0.mk (same_f (restR p l1) (by omega))
  generalize (findR p l1 x y).1 = L at *
  generalize (findR p l1 x y).2 = E at *
  go_wp2_with fail
  refine (PPoolFinds.instarref26_Same.calls 1001 B1 d1 L B2 d2 L true _ HC1.out hd1 HC2.out hd2 SF.out).mono ?_
  rintro e w' ⟨rfl, ⟨nd, rfl⟩⟩
  have HC3 := Aside0.mk (Kd.C_drewN HC3.out nd)
  have HB4 := Aside0.mk (pw_below_drewN HB3.out nd)
  generalize w3.drewN nd = w4 at *
  clear HB3
  go_wp2_with fail
  refine (free_calls p A1 c1 l1 _ (Kd.C_below HR1.out HB4.out) hl HW.out).mono ?_
  rintro e w5 ⟨rfl, hB5⟩
  have HC3 := Aside0.mk (Kd.C_below HC3.out hB5)
  have HB5 := Aside0.mk (show Below w.heap.size w w5 from HB4.out.trans (hB5.mono HB4.out.size))
  clear hB5 HB4
  go_wp2_with fail
  refine (rest_calls p A1 c1 l1 _ (Kd.C_below HR1.out HB5.out) hl HW.out).mono ?_
  rintro e w6 ⟨v6, rfl, hR6, hB6⟩
  obtain ⟨B6, d6, rfl, hd6, hC6⟩ := Kd.R_reads hR6
  have HC3 := Aside0.mk (Kd.C_below HC3.out hB6)
  have HB6 := Aside0.mk (show Below w.heap.size w w6 from HB5.out.trans (hB6.mono HB5.out.size))
  have HC6 := Aside0.mk hC6
  clear hR6 hB6 hC6 HB5
  go_wp2_with fail
  refine (PPoolFinds.instarref26_Same.calls 1001 B6 d6 (restR p l1) B3 d3 (restR p l1) true _ HC6.out hd6 HC3.out hd3 SR.out).mono ?_
  rintro e w' ⟨rfl, ⟨nd, rfl⟩⟩
  have HB7 := Aside0.mk (pw_below_drewN HB6.out nd)
  generalize w6.drewN nd = w7 at *
  go_wp2_with fail
  refine (awake26_calls _).mono ?_
  rintro e w8 ⟨rfl, hB8⟩
  have HB8 := Aside0.mk (show Below w.heap.size w w8 from HB7.out.trans (hB8.mono HB7.out.size))
  clear hB8
  go_wp2
  go_ret
  exact ⟨rfl, HB8.out⟩
#print axioms poolFinds_in
end Go.Proofs.Ytnaliaebjeikaaa
