/- The walk of the statement PoolFree inside its guards. -/
import Derived.Test.YtnaliaebjeikaaaPoolF
import Derived.Test.YtnaliaebjeikaaaPoolH
namespace Go.Proofs.Ytnaliaebjeikaaa
open Go.RowKit Go.Shelf Go.Maps Go.Proofs.YtnaliaebjeikaaaW.PrintWords

set_option maxHeartbeats 4000000 in
set_option maxRecDepth 100000 in
theorem poolFree_few (p : Int) (A1 : Option Addr) (c1 : Nat) (l1 : List Int) (x y : Int) (w : World) (hr1 : Kd.C (Kd.int .i64) w A1 l1.length l1) (hl : l1.length ≤ 300) (hwf : ∀ n ∈ l1, (Lit.int .i64 n).wf = true)
    (h1 : 1 ≤ p) (h2 : p ≤ 128) (h3 : 0 ≤ x) (h4 : x < p) (h5 : 0 ≤ y) (hn : freeN p l1 < y) :
    Calls Try.prog 3 #[.int .i64 p, .slice A1 l1.length c1, .agg #[.int .i64 x, .int .i64 y]] w (LawPost w) := by
  have HR1 := Aside0.mk hr1
  have HW := Aside0.mk hwf
  have HB0 := Aside0.mk (show Below w.heap.size w (w.alloc (.cells #[.int .i64 x, .int .i64 y] 23)) from (Below.refl _ _).alloc (Nat.le_refl _) _)
  have hnb : ¬ badAsk p x y := by unfold badAsk; omega
  have F1 := find_calls p x y A1 c1 l1 (w.alloc (.cells #[.int .i64 x, .int .i64 y] 23)) (Kd.C_alloc hr1 _) hl hwf
  rw [findR, if_neg hnb] at F1
  clear hr1 hwf hnb
  rw [if_pos hn] at F1
  have F := Aside0.mk F1
  clear F1
  go_enter Try.func3, Try.ntmps3
  go_wp2_with fail
  refine F.out.mono ?_
  rintro e w1 ⟨v, rfl, hR, hB⟩
  obtain ⟨A, c, rfl, hc, hC⟩ := Kd.R_reads hR
  have hx1 : w1.cell? ⟨w.heap.size, 1, none⟩ = some (.int .i64 y) := (hB.cell (p := ⟨w.heap.size, 1, none⟩) (by simp)).trans (by simp)
  have HB := Aside0.mk (show Below w.heap.size w w1 from HB0.out.trans (hB.mono (by simp)))
  clear F hR hB hC
  go_wp2_with fail
  go_region_held3 (fun w' => w'.cell? ⟨w.heap.size, 1, none⟩ = some (.int .i64 y))
    (first | go_keep | exact hcx | exact hcz)
    ((first
      | (go_at_call 10; refine (free_calls p _ _ l1 _ (by repeat (first | exact Kd.C_below HR1.out HB.out | (with_reducible refine Kd.C_alloc ?_ _) | (with_reducible refine Kd.C_drewN ?_ _) | (with_reducible refine Kd.C_drew ?_))) hl HW.out).mono ?_; rintro e w2 ⟨rfl, hB2⟩; have hcx : w2.cell? ⟨w.heap.size, 1, none⟩ = some (.int .i64 y) := (hB2.cell (p := ⟨w.heap.size, 1, none⟩) (World.block_lt_of_cell? _ _ hx1)).trans hx1)
      | (go_at_call 8; refine (awake26_calls _).mono ?_; rintro e w3 ⟨rfl, hB3⟩; have hcz : w3.cell? ⟨w.heap.size, 1, none⟩ = some (.int .i64 y) := (hB3.cell (p := ⟨w.heap.size, 1, none⟩) (World.block_lt_of_cell? _ _ hcx)).trans hcx)))
  have HB2 := Aside0.mk hB2
  have HB3 := Aside0.mk hB3
  clear hB2 hB3
  go_wp2
  go_ret
  refine ⟨rfl, ?_⟩
  have a2 : Below w.heap.size w w2 := HB.out.trans ((below_drew (Below.refl _ _)).trans (HB2.out.mono HB.out.size))
  exact a2.trans (HB3.out.mono a2.size)
end Go.Proofs.Ytnaliaebjeikaaa
