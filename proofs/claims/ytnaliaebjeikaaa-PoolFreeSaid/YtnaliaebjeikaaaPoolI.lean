/- The walk of the statement PoolFree where pages are found. -/
import Derived.Test.YtnaliaebjeikaaaPoolF
import Derived.Test.YtnaliaebjeikaaaPoolH
namespace Go.Proofs.Ytnaliaebjeikaaa
open Go.RowKit Go.Shelf Go.Maps Go.Proofs.YtnaliaebjeikaaaW.PrintWords

set_option maxHeartbeats 4000000 in
set_option maxRecDepth 100000 in
theorem poolFree_found (p : Int) (A1 : Option Addr) (c1 : Nat) (l1 : List Int) (x y : Int) (w : World) (hr1 : Kd.C (Kd.int .i64) w A1 l1.length l1) (hl : l1.length ≤ 300) (hwf : ∀ n ∈ l1, (Lit.int .i64 n).wf = true)
    (h1 : 1 ≤ p) (h2 : p ≤ 128) (h3 : 0 ≤ x) (h4 : x < p) (h5 : 0 ≤ y) (hn : ¬ freeN p l1 < y) :
    Calls Try.prog 3 #[.int .i64 p, .slice A1 l1.length c1, .agg #[.int .i64 x, .int .i64 y]] w (LawPost w) := by
  have HR1 := Aside0.mk hr1
  have HW := Aside0.mk hwf
  have HB0 := Aside0.mk (show Below w.heap.size w (w.alloc (.cells #[.int .i64 x, .int .i64 y] 23)) from (Below.refl _ _).alloc (Nat.le_refl _) _)
  have hnb : ¬ badAsk p x y := by unfold badAsk; omega
  have F1 := find_calls p x y A1 c1 l1 (w.alloc (.cells #[.int .i64 x, .int .i64 y] 23)) (Kd.C_alloc hr1 _) hl hwf
  rw [findR, if_neg hnb] at F1
  clear hr1 hwf hnb
  rw [if_neg hn] at F1
  have F := Aside0.mk F1
  clear F1
  go_enter Try.func3, Try.ntmps3
  go_wp2_with fail
  refine F.out.mono ?_
  rintro e w1 ⟨v, rfl, hR, hB⟩
  have hx1 : w1.cell? ⟨w.heap.size, 1, none⟩ = some (.int .i64 y) := (hB.cell (p := ⟨w.heap.size, 1, none⟩) (by simp)).trans (by simp)
  have HB := Aside0.mk (show Below w.heap.size w w1 from HB0.out.trans (hB.mono (by simp)))
  have HS := Aside0.mk (show w.heap.size < w1.heap.size from by have := hB.size; simp at this; omega)
  generalize hcome : List.take y.toNat (come p x l1 p.toNat) = r at hR
  obtain ⟨A, c, rfl, hc, hC⟩ := Kd.R_reads hR
  have HC := Aside0.mk hC
  have hrl : r.length ≤ 128 := by
    have h6 := come_len p x l1 p.toNat
    rw [← hcome, List.length_take]
    omega
  have HX1 := Aside0.mk hx1
  have HMEM : Aside0 (∀ n ∈ r, 0 ≤ n ∧ n < p ∧ l1.contains n = false) := ⟨by rw [← hcome]; exact fun n hn => come_mem p x l1 _ h1 n (List.mem_of_mem_take hn)⟩
  have HND : Aside0 (r.Nodup) := ⟨by rw [← hcome]; exact List.Nodup.sublist (List.take_sublist _ _) (come_nodup p x l1 h1 h3 h4)⟩
  have HLEN : Aside0 (((r.length : Int) == y) = true) := ⟨by
    have h6 := come_len_all p x l1 h1 h2 h3 h4
    rw [beq_iff_eq, ← hcome, List.length_take]
    omega⟩
  have HQ := Aside0.mk hcome
  clear F hR hB hC hcome
  have hz := zero29
  have HZ : Below w1.heap.size w1 (w1.alloc (.cells (seenA []) 29)) := (Below.refl _ _).alloc (Nat.le_refl _) _
  have HBZ := Aside0.mk (HB.out.trans (HZ.mono (Nat.le_of_lt HS.out)))
  have hbl : (w1.alloc (.cells (seenA []) 29)).heap[w1.heap.size]? = some (.cells (seenA []) 29 (0, 0)) := heap_alloc_new w1 _
  go_wp2_with fail
  clear hz
  have hx2 : (w1.alloc (.cells (seenA []) 29)).cell? ⟨w.heap.size, 1, none⟩ = some (.int .i64 y) := (HZ.cell (p := ⟨w.heap.size, 1, none⟩) HS.out).trans hx1
  have HS2 := Aside0.mk (show w1.heap.size < (w1.alloc (.cells (seenA []) 29)).heap.size from by simp)
  generalize w1.alloc (.cells (seenA []) 29) = wz at *
  go_loopw [10] (fun i wr => ∃ k : Nat, k ≤ l1.length ∧ i = .int .i64 k ∧ Aside0 (wr.heap[w1.heap.size]? = some (.cells (seenA (l1.take k)) 29 (0, 0))) ∧ Aside0 (Below w1.heap.size wz wr))
    (fun i _ => l1.length - (intOf i).toNat)
  case atStart => exact ⟨0, Nat.zero_le _, rfl, ⟨hbl⟩, ⟨Below.refl _ _⟩⟩
  case round =>
    obtain ⟨k, hk, rfl, HBL, HBW⟩ := hrel
    clear hx2 hx1 hbl
    by_cases hlt : k < l1.length
    · obtain ⟨ad, e1, hx⟩ := Kd.at_int (Kd.C_below HR1.out (HBZ.out.trans (HBW.out.mono (Nat.le_of_lt HS.out)))) (k : Int) (by omega) (by omega)
      cases e1
      simp only [Int.toNat_natCast] at hx
      have HT := Aside0.mk (take_snoc hlt)
      generalize hX : rd l1 (k : Int) = n at hx HT
      clear hX
      by_cases c0 : 0 ≤ n
      · by_cases c1 : n < 128
        · have hcs : wr.cell? ⟨w1.heap.size, n.toNat, none⟩ = some (.bool ((l1.take k).contains n)) := (blk_cell HBL.out _).trans (seenA_at _ _ c0 c1)
          have hcf : wr.frozen? ⟨w1.heap.size, n.toNat, none⟩ = false := blk_frozen HBL.out _
          have HN := Aside0.mk (seenA_set (l1.take k) n c0 c1)
          go_wp2
          go_roundw
          case rel => exact ⟨k + 1, by omega, by go_num, ⟨by rw [HT.out, ← HN.out]; exact blk_set HBL.out _ _⟩, ⟨HBW.out.setCell (Nat.le_refl _) _⟩⟩
          case measure => simp [intOf]; omega
        · have HN := Aside0.mk (seenA_out (l1.take k) n (fun h => c1 h.2))
          go_wp2
          go_roundw
          case rel => exact ⟨k + 1, by omega, by go_num, ⟨by rw [HT.out, HN.out]; exact HBL.out⟩, HBW⟩
          case measure => simp [intOf]; omega
      · have HN := Aside0.mk (seenA_out (l1.take k) n (fun h => c0 h.1))
        go_wp2
        go_roundw
        case rel => exact ⟨k + 1, by omega, by go_num, ⟨by rw [HT.out, HN.out]; exact HBL.out⟩, HBW⟩
        case measure => simp [intOf]; omega
    · obtain rfl : k = l1.length := by omega
      rw [List.take_length] at HBL
      go_wp2
      obtain ⟨wo, rfl⟩ : ∃ wo : World, wo = wr := ⟨_, rfl⟩
      go_loopw [11] (fun i wr => ∃ k : Nat, k ≤ r.length ∧ i = .int .i64 k ∧ Aside0 (wr.heap[w1.heap.size]? = some (.cells (seenA (l1 ++ r.take k)) 29 (0, 0))) ∧ Aside0 (Below w1.heap.size wo wr))
        (fun i _ => r.length - (intOf i).toNat)
      case atStart => exact ⟨0, Nat.zero_le _, rfl, ⟨by rw [List.take_zero, List.append_nil]; exact HBL.out⟩, ⟨Below.refl _ _⟩⟩
      case round =>
        obtain ⟨k, hk, rfl, HBL2, HBW2⟩ := hrel
        by_cases hlt : k < r.length
        · obtain ⟨ad, e1, hx⟩ := Kd.at_int (Kd.C_below HC.out (HZ.trans (HBW.out.trans HBW2.out))) (k : Int) (by omega) (by omega)
          cases e1
          simp only [Int.toNat_natCast] at hx
          have hfacts := HMEM.out (rd r k) (rd_mem hlt)
          have HT := Aside0.mk (take_snoc hlt)
          have hns := not_seen l1 r k hlt (fun n hn => (HMEM.out n hn).2.2) HND.out
          have HQS := Aside0.mk (seenA_set (l1 ++ r.take k) (rd r k) hfacts.1 (by omega))
          have hcs := (blk_cell HBL2.out (rd r k).toNat).trans (seenA_at _ (rd r k) hfacts.1 (by omega))
          have hcf : wr.frozen? ⟨w1.heap.size, (rd r k).toNat, none⟩ = false := blk_frozen HBL2.out _
          rw [hns] at hcs
          obtain ⟨g0, g1, _⟩ := hfacts
          clear hns
          generalize hX : rd r (k : Int) = n at *
          clear hX
          go_wp2
          go_roundw
          case rel => exact ⟨k + 1, by omega, by go_num, ⟨by rw [HT.out, ← List.append_assoc, ← HQS.out]; exact blk_set HBL2.out _ _⟩, ⟨HBW2.out.setCell (Nat.le_refl _) _⟩⟩
          case measure => simp [intOf]; omega
        · obtain rfl : k = r.length := by omega
          have hxy : wr.cell? ⟨w.heap.size, 1, none⟩ = some (.int .i64 y) := ((HZ.trans (HBW.out.trans HBW2.out)).cell (p := ⟨w.heap.size, 1, none⟩) HS.out).trans HX1.out
          have hle := HLEN.out
          have HBR := Aside0.mk (show Below w.heap.size w wr from HBZ.out.trans ((HBW.out.trans HBW2.out).mono (Nat.le_of_lt HS.out)))
          go_wp2_with (go_at_call 8; refine (awake26_calls _).mono ?_; rintro e w3 ⟨rfl, hB3⟩; have HB3 := Aside0.mk hB3; clear hB3)
          go_ret
          exact ⟨rfl, HBR.out.trans (HB3.out.mono HBR.out.size)⟩
#print axioms poolFree_found
end Go.Proofs.Ytnaliaebjeikaaa
