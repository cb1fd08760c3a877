/- The iterator of pool.round: what it hands on, one page after the other. -/
import Derived.RangeFuncNested
import Derived.RangeFuncBound
import Derived.RangeFuncCalls
import Derived.RangeFuncLeaves
import Derived.RangeFuncBox
import Derived.Shelf.Abstract
import Derived.Shelf.RegionOpen
import Derived.WalkKit
import Derived.OwnWalkIn
import Derived.TacticsInMore
import Derived.LoopNIn
import Derived.LoopIn
import Derived.Maps.OwnIn
import Derived.Test.YtnaliaebjeikaaaPoolA
namespace Go.Proofs.Ytnaliaebjeikaaa
open Go.RowKit Go.Shelf Go.Maps Go.Proofs.YtnaliaebjeikaaaW.PrintWords

attribute [local go_sem] Oper.semAt_some

/-- The pages in the order in which they are looked at. -/
def turnAt (p f : Int) (i : Nat) : Int := (f + (i : Int)) % p
/-- Those that are free, of the first k. -/
def come (p f : Int) (l : List Int) (k : Nat) : List Int := ((List.range k).map (turnAt p f)).filter fun n => !(inn p l).contains n
theorem come_zero (p f : Int) (l : List Int) : come p f l 0 = [] := rfl
theorem come_take (p f : Int) (l : List Int) (k : Nat) (h : (inn p l).contains (turnAt p f k) = true) : come p f l (k + 1) = come p f l k := by
  unfold come
  rw [List.range_succ, List.map_append, List.filter_append]
  simp only [List.map_cons, List.map_nil, List.filter_cons, h]
  simp
theorem come_free (p f : Int) (l : List Int) (k : Nat) (h : (inn p l).contains (turnAt p f k) = false) : come p f l (k + 1) = come p f l k ++ [turnAt p f k] := by
  unfold come
  rw [List.range_succ, List.map_append, List.filter_append]
  simp only [List.map_cons, List.map_nil, List.filter_cons, h]
  simp
theorem come_len (p f : Int) (l : List Int) (k : Nat) : (come p f l k).length ≤ k := by
  have := List.length_filter_le (fun n => !(inn p l).contains n) ((List.range k).map (turnAt p f))
  simpa [come] using this
theorem come_prefix (p f : Int) (l : List Int) (k m : Nat) (h : k ≤ m) : come p f l k <+: come p f l m := by
  unfold come
  have : List.range k <+: List.range m := by
    rw [List.prefix_iff_eq_take]
    simp [List.take_range, Nat.min_eq_left h]
  exact (this.map _).filter _

/-- The blocks of S are as they were; none has gone. -/
structure Kept (S : Nat → Prop) (W W' : World) : Prop where
  size : W.heap.size ≤ W'.heap.size
  block : ∀ i, S i → i < W.heap.size → W'.heap[i]? = W.heap[i]?
theorem Kept.refl (S : Nat → Prop) (W : World) : Kept S W W := ⟨Nat.le_refl _, fun _ _ _ => rfl⟩
theorem Kept.trans {S : Nat → Prop} {A B C : World} (h : Kept S A B) (k : Kept S B C) : Kept S A C :=
  ⟨Nat.le_trans h.size k.size, fun i hi hlt => (k.block i hi (Nat.lt_of_lt_of_le hlt h.size)).trans (h.block i hi hlt)⟩
theorem Kept.alloc (S : Nat → Prop) (W : World) (o : Obj) : Kept S W (W.alloc o) := ⟨by simp, fun _ _ h => Below.heap_alloc _ _ _ h⟩
theorem Kept.of_below {S : Nat → Prop} {W W' : World} {B : Nat} (h : Below B W W') (hS : ∀ i, S i → i < B) : Kept S W W' := ⟨h.size, fun i hi _ => h.block i (hS i hi)⟩
theorem Kept.cell {S : Nat → Prop} {W W' : World} (h : Kept S W W') {b o : Nat} {v : Value} (hb : S b) (hc : W.cell? ⟨b, o, none⟩ = some v) : W'.cell? ⟨b, o, none⟩ = some v :=
  (World.cell?_of_block (w := W) (h.block b hb (World.block_lt_of_cell? W _ hc))).trans hc

theorem ownsMap_kept {w w' : World} {b n : Nat} {S : Nat → Prop} {D : DataW Unit} (h : w.ownsMap Try.prog 3 unitElem b n D) (hB : Kept S w w') (hb : S b) : w'.ownsMap Try.prog 3 unitElem b n D := by
  obtain ⟨es, clock, hh, r⟩ := h
  exact ⟨es, clock, (hB.block b hb (Array.getElem?_eq_some_iff.1 hh).1).trans hh, r⟩

set_option maxHeartbeats 1000000 in
theorem round_calls (b : Nat) (p f : Int) (w : World) : CallsIn Fence.wide 5 Try.prog 33 #[.map (some b), .int .i64 p, .int .i64 f] w fun e w' =>
    e = .returned (.func (.func 36) #[] #[.pointer (some ⟨w.heap.size + 1, 0, none⟩), .pointer (some ⟨w.heap.size + 2, 0, none⟩), .pointer (some ⟨w.heap.size, 0, none⟩)]) ∧
      w' = ((w.alloc (.cells #[.map (some b)] 61)).alloc (.cells #[.int .i64 p] 3)).alloc (.cells #[.int .i64 f] 3) := by
  refine callsIn_of_wp Try.func33 rfl trivial ?_ rfl
  simp only [Try.ntmps33, List.size_toArray, List.length_cons, List.length_nil, Nat.reduceAdd, Nat.reduceSub, Array.replicate_succ, Array.replicate_zero, List.push_toArray, List.append_toArray, List.nil_append, List.cons_append]
  gi_wp2
  go_ret
  exact ⟨rfl, rfl⟩

set_option maxRecDepth 100000 in
set_option maxHeartbeats 2000000 in
theorem iter_in (n : Nat) (hn : 1 ≤ n) (l b m : Nat) (S : Nat → Prop) (p f : Int) (ls : List Int) (hp0 : 1 ≤ p) (hp1 : p ≤ 128) (hf0 : 0 ≤ f) (hf1 : f < p) (hb : S b) (J Jx : List Int → World → Prop)
    (W0 : Nat) (hJa : ∀ pre W, J pre W → J pre (W.alloc (.cells #[] 74)))
    (hY : ∀ pre x W, J pre W → pre.length < 128 → YieldAt Fence.wide (n - 1) Try.prog l #[.int .i64 x] W fun e W' =>
      (e = .returned (.bool true) ∧ J (pre ++ [x]) W' ∧ Kept S W W') ∨ (e = .returned (.bool false) ∧ Jx (pre ++ [x]) W'))
    (W : World) (hBp : W.cell? ⟨W0 + 1, 0, none⟩ = some (.int .i64 p)) (hBf : W.cell? ⟨W0 + 2, 0, none⟩ = some (.int .i64 f)) (hBm : W.cell? ⟨W0, 0, none⟩ = some (.map (some b)))
    (hS0 : S W0) (hS1 : S (W0 + 1)) (hS2 : S (W0 + 2)) (hown : W.ownsMap Try.prog 3 unitElem b m (setD Unit (inn p ls))) (h0 : J [] W) :
    CallsIn Fence.wide n Try.prog 36 #[.func (.yield l) #[] #[], .pointer (some ⟨W0 + 1, 0, none⟩), .pointer (some ⟨W0 + 2, 0, none⟩), .pointer (some ⟨W0, 0, none⟩)] W fun e W' => (∃ v, e = .returned v) ∧
      ((∃ ys, ys = come p f ls p.toNat ∧ J ys W') ∨ (∃ pre, (∃ k, k ≤ p.toNat ∧ pre = come p f ls k) ∧ Jx pre W')) := by
  refine callsIn_of_wp Try.func36 rfl trivial ?_ rfl
  simp only [Try.ntmps36, List.size_toArray, List.length_cons, List.length_nil, Nat.reduceAdd, Nat.reduceSub, Array.replicate_succ, Array.replicate_zero, List.push_toArray, List.append_toArray, List.nil_append, List.cons_append]
  gi_wp2
  gi_loopw [10] (fun i wr => ∃ k : Nat, (k : Int) ≤ p ∧ i = .int .i64 k ∧ Aside0 (J (come p f ls k) wr) ∧ Aside0 (Kept S W wr))
    (fun i _ => p.toNat - (intOf i).toNat)
  case atStart => exact ⟨0, by omega, rfl, ⟨by rw [come_zero]; exact h0⟩, ⟨Kept.refl _ _⟩⟩
  case round =>
    obtain ⟨k, hk, rfl, hJs, hnx⟩ := hrel
    by_cases hlt : (k : Int) < p
    · have hc1 : wr.cell? ⟨W0 + 1, 0, none⟩ = some (.int .i64 p) := hnx.out.cell hS1 hBp
      have hc2 : wr.cell? ⟨W0 + 2, 0, none⟩ = some (.int .i64 f) := hnx.out.cell hS2 hBf
      have hc3 : wr.cell? ⟨W0, 0, none⟩ = some (.map (some b)) := hnx.out.cell hS0 hBm
      have hw := Aside0.mk (ownsMap_kept hown hnx.out hb)
      have hx0 : 0 ≤ (f + (k : Int)) % p := Int.emod_nonneg _ (by omega)
      have hx1 : (f + (k : Int)) % p < p := Int.emod_lt_of_pos _ (by omega)
      have hkey : keyOf Try.prog 3 (.int .i64 ((f + (k : Int)) % p)) = some (.int .i64 ((f + (k : Int)) % p)) := keyOf_int_mk Try.underlying3 (WalkArith.wf_i64 (by omega))
      have HT := Aside0.mk (has_setD Unit (inn p ls) ((f + (k : Int)) % p))
      by_cases hc : (inn p ls).contains ((f + (k : Int)) % p) = true
      · have hh : Maps.has (setD Unit (inn p ls)) (.int .i64 ((f + (k : Int)) % p)) = true := HT.out.trans hc
        gi_wp2_with (first
          | (gi_at_lookup; refine wpListIn_lookup_own_unit _ rfl _ _ 61 rfl 3 74 law3 Try.underlying61 (zero74 _) b m _ rfl hw.out _ _ rfl hkey ?_))
        refine ⟨fun _ h => (by cases h), ?_⟩
        gi_wp2
        go_roundw
        case rel =>
          refine ⟨k + 1, by omega, by go_num, ⟨?_⟩, ⟨?_⟩⟩
          · rw [come_take p f ls k hc]; exact hJa _ _ hJs.out
          · exact hnx.out.trans (Kept.alloc _ _ _)
        case measure => simp [intOf]; omega
      · have hc' : (inn p ls).contains ((f + (k : Int)) % p) = false := by simpa using hc
        clear hc
        have hh : Maps.has (setD Unit (inn p ls)) (.int .i64 ((f + (k : Int)) % p)) = false := HT.out.trans hc'
        obtain ⟨fn, tmps, assign, body, hy, hR⟩ := hY _ ((f + (k : Int)) % p) (wr.alloc (.cells #[] 74)) (hJa _ _ hJs.out) (by have := come_len p f ls k; omega)
        have HR := Aside0.mk hR
        clear hR
        gi_wp2_with (first
          | (gi_at_lookup; refine wpListIn_lookup_own_unit _ rfl _ _ 61 rfl 3 74 law3 Try.underlying61 (zero74 _) b m _ rfl hw.out _ _ rfl hkey ?_))
        refine HR.out.mono ?_
        rintro e W3 (⟨rfl, hJ3, hk3⟩ | ⟨rfl, hJx3⟩)
        · have HJ := Aside0.mk hJ3
          have HK := Aside0.mk hk3
          clear hJ3 hk3
          gi_wp2
          go_roundw
          case rel =>
            refine ⟨k + 1, by omega, by go_num, ⟨?_⟩, ⟨?_⟩⟩
            · rw [come_free p f ls k hc']; exact HJ.out
            · exact (hnx.out.trans (Kept.alloc _ _ _)).trans HK.out
          case measure => simp [intOf]; omega
        · have HJ := Aside0.mk hJx3
          clear hJx3
          gi_wp2
          refine bodyPost_ret (results_none rfl _ _ _) rfl ?_
          exact ⟨⟨_, rfl⟩, .inr ⟨_, ⟨k + 1, by omega, rfl⟩, by rw [come_free p f ls k hc']; exact HJ.out⟩⟩
    · gi_wp2
      go_end0
      refine ⟨⟨_, rfl⟩, .inl ?_⟩
      have : k = p.toNat := by omega
      rw [← this]
      exact hJs.out

/-- What pool.round hands back: all free pages from f on, round the ring; or a first part of them, where a round has said that it is enough. -/
theorem iter_stops (n : Nat) (hn : 1 ≤ n) (b m : Nat) (S : Nat → Prop) (p f : Int) (ls : List Int) (hp0 : 1 ≤ p) (hp1 : p ≤ 128) (hf0 : 0 ≤ f) (hf1 : f < p) (hb : S b) (W0 : Nat) (w : World)
    (hBp : w.cell? ⟨W0 + 1, 0, none⟩ = some (.int .i64 p)) (hBf : w.cell? ⟨W0 + 2, 0, none⟩ = some (.int .i64 f)) (hBm : w.cell? ⟨W0, 0, none⟩ = some (.map (some b)))
    (hS0 : S W0) (hS1 : S (W0 + 1)) (hS2 : S (W0 + 2)) (hSw : ∀ i, S i → i < w.heap.size) (hown : w.ownsMap Try.prog 3 unitElem b m (setD Unit (inn p ls))) :
    SeqStopsK Fence.wide n Try.prog 36 #[.pointer (some ⟨W0 + 1, 0, none⟩), .pointer (some ⟨W0 + 2, 0, none⟩), .pointer (some ⟨W0, 0, none⟩)] (fun x : Int => #[Value.int .i64 x]) (Kept S)
      (fun ys => ys = come p f ls p.toNat) (fun pre => ∃ k, k ≤ p.toNat ∧ pre = come p f ls k) 128 w := fun l J Jx W hW hJ _ hY h0 => by
  have hk : Kept S w W := Kept.of_below hW hSw
  exact iter_in n hn l b m S p f ls hp0 hp1 hf0 hf1 hb J Jx W0 (fun pre V h => hJ pre V _ none h (World.grownBy_alloc V _ _) (fun r e => by cases e)) hY W
    (hk.cell hS1 hBp) (hk.cell hS2 hBf) (hk.cell hS0 hBm) hS0 hS1 hS2 (ownsMap_kept hown hk hb) h0
end Go.Proofs.Ytnaliaebjeikaaa
