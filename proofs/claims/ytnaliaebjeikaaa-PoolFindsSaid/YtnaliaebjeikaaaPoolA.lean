/- The walks of pool.fine, pool.of and pool.Free: what they hand back. -/
import Derived.Test.YtnaliaebjeikaaaWWords
import Derived.Test.YtnaliaebjeikaaaPoolPlain
import Derived.Test.YtnaliaebjeikaaaProg
import Derived.Maps.OwnSet
import Derived.Maps.AppendAt
import Derived.Lib.Hide
import Derived.Outline
namespace Go.Proofs.Ytnaliaebjeikaaa
open Go.RowKit Go.Maps Go.Proofs.YtnaliaebjeikaaaW.PrintWords

theorem law3 : Keyed Try.prog 3 := int_keyed Try.underlying3
theorem zero74 (w : World) : (zeroValue 74).run Try.prog w = .ok (.agg #[]) w := by kernel_rfl

theorem fine_calls (a0 : Int) (w : World) : Calls Try.prog 31 #[.int .i64 a0] w fun e w' => e = .returned (.bool (decide (0 ≤ a0 ∧ a0 ≤ 128))) ∧ w = w' := by
  by_cases h : 0 ≤ a0
  · go_enter Try.func31, Try.ntmps31
    go_wp2
    go_ret
    exact ⟨by simp [h], rfl⟩
  · go_enter Try.func31, Try.ntmps31
    go_wp2
    go_ret
    exact ⟨by simp; omega, rfl⟩

theorem take_snoc {l : List Int} {k : Nat} (h : k < l.length) : l.take (k + 1) = l.take k ++ [rd l k] := by
  rw [List.take_succ_eq_append_getElem h]
  simp [rd, List.getD, h]
theorem rd_mem {l : List Int} {k : Nat} (h : k < l.length) : rd l k ∈ l := by
  have : rd l k = l[k] := by simp [rd, List.getD, h]
  rw [this]
  exact List.getElem_mem h

set_option maxHeartbeats 800000 in
set_option maxRecDepth 100000 in
theorem of_calls (a0 : Int) (A1 : Option Addr) (c1 : Nat) (l1 : List Int) (w : World) (hr1 : Kd.C (Kd.int .i64) w A1 l1.length l1) (hl : l1.length ≤ 300) (hwf : ∀ n ∈ l1, (Lit.int .i64 n).wf = true) :
    Calls Try.prog 32 #[.int .i64 a0, .slice A1 l1.length c1] w fun e w' => e = .returned (.map (some w.heap.size)) ∧ w'.ownsMap Try.prog 3 unitElem w.heap.size l1.length (setD Unit (inn a0 l1)) ∧ Below w.heap.size w w' := by
  have HR1 := Aside0.mk hr1
  clear hr1
  have HW := Aside0.mk hwf
  clear hwf
  have hmm := @run_makeMap Try.prog
  go_enter Try.func32, Try.ntmps32
  go_wp2
  go_loopw [11] (fun i wr => ∃ k : Nat, k ≤ l1.length ∧ i = .int .i64 k ∧ Aside0 (wr.ownsMap Try.prog 3 unitElem w.heap.size k (setD Unit (inn a0 (l1.take k)))) ∧ Aside0 (Below w.heap.size w wr))
    (fun i _ => l1.length - (intOf i).toNat)
  case atStart => exact ⟨0, Nat.zero_le _, rfl, ⟨by rw [List.take_zero]; exact (setD_nil Unit) ▸ World.ownsMap_made _ _ _ _⟩, ⟨(Below.refl _ _).alloc (Nat.le_refl _) _⟩⟩
  case round =>
    obtain ⟨k, hk, rfl, HO, HB⟩ := hrel
    by_cases hlt : k < l1.length
    · obtain ⟨ad, e1, hx⟩ := Kd.at_int (Kd.C_below HR1.out (HB.out.mono (by omega))) (k : Int) (by omega) (by omega)
      cases e1
      have hkey : keyOf Try.prog 3 (.int .i64 (rd l1 k)) = some (.int .i64 (rd l1 k)) := keyOf_int_mk Try.underlying3 (HW.out _ (rd_mem hlt))
      have HT := Aside0.mk (take_snoc hlt)
      simp only [Int.toNat_natCast] at hx
      generalize hX : rd l1 (k : Int) = x at hx hkey HT
      clear hX
      have r1 := HB.out.size
      by_cases c0 : 0 ≤ x ∧ x < a0
      · obtain ⟨c0, c1⟩ := c0
        go_wp2_with (first
          | (at_mapUpdate; refine wpList_mapUpdate_own _ rfl _ _ _ 61 rfl 3 74 law3 Try.underlying61 (unitElem (H := Unit)) w.heap.size k _ rfl HO.out (by unfold maxLen; omega) _ _ _ rfl rfl hkey _ [] unitElem_mk ?_; intro w1 hown1 hgrow1)
          | go_in)
        go_roundw
        case rel => exact ⟨k + 1, by omega, by go_num, ⟨by rw [HT.out, inn_snoc_in _ _ c0 c1, setD_snoc]; exact hown1⟩, ⟨HB.out.grown hgrow1 HB.out.size (fun k e => by cases e; exact Nat.le_refl _)⟩⟩
        case measure => simp [intOf]; omega
      · have HN := Aside0.mk c0
        by_cases c1 : 0 ≤ x
        · have c2 : ¬ x < a0 := fun h => c0 ⟨c1, h⟩
          clear c0
          go_wp2
          go_roundw
          case rel => exact ⟨k + 1, by omega, by go_num, ⟨by rw [HT.out, inn_snoc_out _ _ HN.out]; exact HO.out.mono (Nat.le_succ _)⟩, HB⟩
          case measure => simp [intOf]; omega
        · clear c0
          go_wp2
          go_roundw
          case rel => exact ⟨k + 1, by omega, by go_num, ⟨by rw [HT.out, inn_snoc_out _ _ HN.out]; exact HO.out.mono (Nat.le_succ _)⟩, HB⟩
          case measure => simp [intOf]; omega
    · go_wp2
      obtain rfl : k = l1.length := by omega
      go_ret
      have h := HO.out
      rw [List.take_length] at h
      exact ⟨rfl, h, HB.out⟩

/-- What pool.Free answers. -/
def freeN (p : Int) (l : List Int) : Int := if 0 ≤ p ∧ p ≤ 128 then ((frees p.toNat l).length : Int) else 0

set_option maxHeartbeats 800000 in
theorem free_calls (a0 : Int) (A1 : Option Addr) (c1 : Nat) (l1 : List Int) (w : World) (hr1 : Kd.C (Kd.int .i64) w A1 l1.length l1) (hl : l1.length ≤ 300) (hwf : ∀ n ∈ l1, (Lit.int .i64 n).wf = true) :
    Calls Try.prog 10 #[.int .i64 a0, .slice A1 l1.length c1] w fun e w' => e = .returned (.int .i64 (freeN a0 l1)) ∧ Below w.heap.size w w' := by
  have HR1 := Aside0.mk hr1
  clear hr1
  have HW := Aside0.mk hwf
  clear hwf
  by_cases h : 0 ≤ a0 ∧ a0 ≤ 128
  · have hf : decide (0 ≤ a0 ∧ a0 ≤ 128) = true := decide_eq_true h
    have HF := Aside0.mk (show freeN a0 l1 = ((frees a0.toNat l1).length : Int) from if_pos h)
    have HS := Aside0.mk (size_inn Unit a0.toNat l1)
    obtain ⟨p, rfl⟩ : ∃ p : Nat, a0 = (p : Int) := ⟨a0.toNat, by omega⟩
    rw [Int.toNat_natCast] at HF HS
    obtain ⟨h0, h1⟩ := h
    go_enter Try.func10, Try.ntmps10
    go_wp2_with (first
      | (go_at_call 31; refine (fine_calls _ _).mono ?_; rintro e w' ⟨rfl, rfl⟩)
      | (go_at_call 32; refine (of_calls (p : Int) _ _ l1 _ ?s1 hl HW.out).mono ?_; (case s1 => exact HR1.out); rintro e w1 ⟨rfl, hown, hB⟩; have HB := Aside0.mk hB; clear hB)
      | (at_len; refine wpList_len_own _ rfl _ 61 rfl 3 74 Try.underlying61 (unitElem (H := Unit)) w.heap.size _ _ rfl hown ?_))
    go_ret
    refine ⟨?_, HB.out⟩
    have := HS.out
    rw [HF.out]
    refine congrArg (fun x => Ending.returned (.int .i64 x)) ?_
    rw [IntWalk.wrap64_in _ ⟨by omega, by omega⟩]
    omega
  · have hf : decide (0 ≤ a0 ∧ a0 ≤ 128) = false := decide_eq_false h
    have HF := Aside0.mk (show freeN a0 l1 = 0 from if_neg h)
    clear h
    go_enter Try.func10, Try.ntmps10
    go_wp2_with (go_at_call 31; refine (fine_calls _ _).mono ?_; rintro e w' ⟨rfl, rfl⟩)
    go_ret
    exact ⟨by rw [HF.out]; rfl, Below.refl _ _⟩
end Go.Proofs.Ytnaliaebjeikaaa
