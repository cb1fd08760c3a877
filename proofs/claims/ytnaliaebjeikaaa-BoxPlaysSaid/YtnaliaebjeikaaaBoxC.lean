/- The walks of box.All. Printed by wip/gen/box_c.py. -/
import Derived.Test.YtnaliaebjeikaaaBoxB
import Derived.Maps.AppendAt
import Derived.RangeFuncBox
namespace Go.Proofs.Ytnaliaebjeikaaa
open Go.RowKit Go.Proofs.YtnaliaebjeikaaaW.PrintWords

theorem HoldsBox.lts {α : Type} {T : Nat} {enc : α → Value} {w : World} {b c cap : Nat} {xs : List α} (h : HoldsBox T enc w b c cap xs) : b < w.heap.size ∧ c < w.heap.size := by
  obtain ⟨s, r, hb⟩ := h
  exact ⟨(Array.getElem?_eq_some_iff.1 hb.box).1, (Array.getElem?_eq_some_iff.1 hb.chan).1⟩
theorem HoldsBox.alloc {α : Type} {T : Nat} {enc : α → Value} {w : World} {b c cap : Nat} {xs : List α} (h : HoldsBox T enc w b c cap xs) (o : Obj) : HoldsBox T enc (w.alloc o) b c cap xs :=
  h.kept (World.grownBy_alloc w o none) (by simp) (by simp)

theorem info3c : (Try.prog.info? 3).map (fun i => (i.zero, i.size, i.bytes)) = some (some (.int .i64 0), 1, 8) := by kernel_rfl

set_option maxHeartbeats 1000000 in
set_option maxRecDepth 100000 in
theorem allI_calls (w : World) (b c cap : Nat) (xs : List Int) (h : HoldsBox 69 (Value.int .i64) w b c cap xs) (hl : xs.length ≤ 64) :
    Calls Try.prog 24 #[.pointer (some ⟨b, 0, none⟩)] w fun e w' => ∃ v, e = .returned v ∧ Kd.R (Kd.int .i64) 3 w' w.heap.size (fun _ => True) v xs ∧ HoldsBox 69 (Value.int .i64) w' b c cap [] ∧ w.grownBy w' (some c) := by
  obtain ⟨i0, hi, hz0, hz1, hz2⟩ := info_parts info3c
  have hlts := h.lts
  have H := Aside0.mk h
  clear h
  go_enter Try.func24, Try.ntmps24
  go_wp2_with (go_at_call 25; refine (lenI_calls _ b c cap xs H.out).mono ?_; rintro e w' ⟨rfl, rfl⟩)
  go_loopw [3, 8] (fun v i wr => ∃ k : Nat, k ≤ xs.length ∧ i = .int .i64 k ∧ Aside0 (wr.ownsRow w.heap.size 3 1 v k ((xs.take k).map (Value.int .i64))) ∧ Aside0 (HoldsBox 69 (Value.int .i64) wr b c cap (xs.drop k)) ∧ Aside0 (w.grownBy wr (some c)))
    (fun _ i _ => xs.length - (intOf i).toNat)
  case atStart => exact ⟨0, Nat.zero_le _, rfl, ⟨by rw [List.take_zero]; exact World.ownsRow_nil _ _ _ _⟩, ⟨by rw [List.drop_zero]; exact H.out⟩, ⟨World.grownBy.refl _ _⟩⟩
  case round =>
    obtain ⟨k, hk, rfl, HR, HX, HG⟩ := hrel
    by_cases hlt : k < xs.length
    · obtain ⟨x, hx⟩ : ∃ x, xs[k] = x := ⟨_, rfl⟩
      have hd : xs.drop k = x :: xs.drop (k + 1) := by rw [List.drop_eq_getElem_cons hlt, hx]
      have ht : xs.take (k + 1) = xs.take k ++ [x] := by rw [List.take_succ_eq_append_getElem hlt, hx]
      have HT := Aside0.mk ht
      rw [hd] at HX
      clear hd ht hx
      obtain ⟨A, cp, rfl⟩ := own_slice HR.out
      have hsz := HG.out.size
      go_wp2_with fail
      refine (takeI_calls wr b c cap (x :: xs.drop (k + 1)) HX.out).mono ?_
      rintro e w1 ⟨rfl, hX1, g1⟩
      have HX1 : Aside0 (HoldsBox 69 (Value.int .i64) w1 b c cap (xs.drop (k + 1))) := ⟨hX1⟩
      have HR1 := Aside0.mk (HR.out.kept g1 (.inr (fun e => by have := own_base HR.out c e; omega)))
      have HG1 := Aside0.mk (grown_then HG.out g1 (fun i e => .inl (by rw [e])))
      have hsz1 := HG1.out.size
      clear hX1 g1 HX
      go_wp2_with (at_builtin; refine wpList_append_own _ rfl _ _ 22 rfl w.heap.size 3 i0 (.int .i64 0) 1 8 Try.underlying22 hi hz0 hz1 hz2 rfl (by decide) _ _ _ rfl (HR1.out.alloc _) ⟨w1.heap.size, 0, none⟩ 1 1 [.int .i64 x] rfl rfl (cell_one_new _ _ _) (by simp [Value.oneCell']) (by unfold maxLen; omega) (by omega) (by simp; omega) ?_; intro v' w2 hown' hgrow _; obtain ⟨g', cap', rfl⟩ := ownsRow_succ hown'; have HO2 := Aside0.mk hown'; have HG2 := Aside0.mk hgrow; clear hown' hgrow)
      have hne : ∀ i, (Value.slice A k cp).ownBlock = some i → w.heap.size ≤ i := fun i e => own_base HR1.out i e
      go_roundw
      case rel =>
        refine ⟨k + 1, by omega, by go_num, ⟨?_⟩, ⟨?_⟩, ⟨?_⟩⟩
        · rw [HT.out, List.map_append]; exact HO2.out
        · exact (HX1.out.alloc _).kept HG2.out (fun e => by have := hne b e.symm; omega) (fun e => by have := hne c e.symm; omega)
        · exact grown_then (grown_then HG1.out (World.grownBy_alloc _ _ none) (fun i e => by cases e)) HG2.out (fun i e => .inr (hne i e))
      case measure => simp [intOf]; omega
    · obtain rfl : k = xs.length := by omega
      go_wp2
      go_ret
      have hr := HR.out
      rw [List.take_length] at hr
      have hx := HX.out
      rw [List.drop_length] at hx
      exact ⟨_, rfl, Kd.R_of_own (enc := (Value.int .i64)) (h1 := fun _ => rfl) hr (fun _ _ => trivial), hx, HG.out⟩

theorem info9 : (Try.prog.info? 9).map (fun i => (i.zero, i.size, i.bytes)) = some (some (.string { data := #[] }), 1, 16) := by kernel_rfl

set_option maxHeartbeats 1000000 in
set_option maxRecDepth 100000 in
theorem allS_calls (w : World) (b c cap : Nat) (xs : List ByteArray) (h : HoldsBox 66 Value.string w b c cap xs) (hl : xs.length ≤ 64) :
    Calls Try.prog 15 #[.pointer (some ⟨b, 0, none⟩)] w fun e w' => ∃ v, e = .returned v ∧ Kd.R Kd.string 9 w' w.heap.size (fun _ => True) v xs ∧ HoldsBox 66 Value.string w' b c cap [] ∧ w.grownBy w' (some c) := by
  obtain ⟨i0, hi, hz0, hz1, hz2⟩ := info_parts info9
  have hlts := h.lts
  have H := Aside0.mk h
  clear h
  go_enter Try.func15, Try.ntmps15
  go_wp2_with (go_at_call 17; refine (lenS_calls _ b c cap xs H.out).mono ?_; rintro e w' ⟨rfl, rfl⟩)
  go_loopw [3, 8] (fun v i wr => ∃ k : Nat, k ≤ xs.length ∧ i = .int .i64 k ∧ Aside0 (wr.ownsRow w.heap.size 9 1 v k ((xs.take k).map Value.string)) ∧ Aside0 (HoldsBox 66 Value.string wr b c cap (xs.drop k)) ∧ Aside0 (w.grownBy wr (some c)))
    (fun _ i _ => xs.length - (intOf i).toNat)
  case atStart => exact ⟨0, Nat.zero_le _, rfl, ⟨by rw [List.take_zero]; exact World.ownsRow_nil _ _ _ _⟩, ⟨by rw [List.drop_zero]; exact H.out⟩, ⟨World.grownBy.refl _ _⟩⟩
  case round =>
    obtain ⟨k, hk, rfl, HR, HX, HG⟩ := hrel
    by_cases hlt : k < xs.length
    · obtain ⟨x, hx⟩ : ∃ x, xs[k] = x := ⟨_, rfl⟩
      have hd : xs.drop k = x :: xs.drop (k + 1) := by rw [List.drop_eq_getElem_cons hlt, hx]
      have ht : xs.take (k + 1) = xs.take k ++ [x] := by rw [List.take_succ_eq_append_getElem hlt, hx]
      have HT := Aside0.mk ht
      rw [hd] at HX
      clear hd ht hx
      obtain ⟨A, cp, rfl⟩ := own_slice HR.out
      have hsz := HG.out.size
      go_wp2_with fail
      refine (takeS_calls wr b c cap (x :: xs.drop (k + 1)) HX.out).mono ?_
      rintro e w1 ⟨rfl, hX1, g1⟩
      have HX1 : Aside0 (HoldsBox 66 Value.string w1 b c cap (xs.drop (k + 1))) := ⟨hX1⟩
      have HR1 := Aside0.mk (HR.out.kept g1 (.inr (fun e => by have := own_base HR.out c e; omega)))
      have HG1 := Aside0.mk (grown_then HG.out g1 (fun i e => .inl (by rw [e])))
      have hsz1 := HG1.out.size
      clear hX1 g1 HX
      go_wp2_with (at_builtin; refine wpList_append_own _ rfl _ _ 31 rfl w.heap.size 9 i0 (.string { data := #[] }) 1 16 Try.underlying31 hi hz0 hz1 hz2 rfl (by decide) _ _ _ rfl (HR1.out.alloc _) ⟨w1.heap.size, 0, none⟩ 1 1 [.string x] rfl rfl (cell_one_new _ _ _) (by simp [Value.oneCell']) (by unfold maxLen; omega) (by omega) (by simp; omega) ?_; intro v' w2 hown' hgrow _; obtain ⟨g', cap', rfl⟩ := ownsRow_succ hown'; have HO2 := Aside0.mk hown'; have HG2 := Aside0.mk hgrow; clear hown' hgrow)
      have hne : ∀ i, (Value.slice A k cp).ownBlock = some i → w.heap.size ≤ i := fun i e => own_base HR1.out i e
      go_roundw
      case rel =>
        refine ⟨k + 1, by omega, by go_num, ⟨?_⟩, ⟨?_⟩, ⟨?_⟩⟩
        · rw [HT.out, List.map_append]; exact HO2.out
        · exact (HX1.out.alloc _).kept HG2.out (fun e => by have := hne b e.symm; omega) (fun e => by have := hne c e.symm; omega)
        · exact grown_then (grown_then HG1.out (World.grownBy_alloc _ _ none) (fun i e => by cases e)) HG2.out (fun i e => .inr (hne i e))
      case measure => simp [intOf]; omega
    · obtain rfl : k = xs.length := by omega
      go_wp2
      go_ret
      have hr := HR.out
      rw [List.take_length] at hr
      have hx := HX.out
      rw [List.drop_length] at hx
      exact ⟨_, rfl, Kd.R_of_own (enc := Value.string) (h1 := fun _ => rfl) hr (fun _ _ => trivial), hx, HG.out⟩
end Go.Proofs.Ytnaliaebjeikaaa
