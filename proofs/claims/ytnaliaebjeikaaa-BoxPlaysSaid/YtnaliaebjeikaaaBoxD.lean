/- The walk of the statement BoxOrder: it answers true. -/
import Derived.Test.YtnaliaebjeikaaaBoxC
import Derived.Deep.QuietTactic
import Derived.BigQuiet
namespace Go.Proofs.Ytnaliaebjeikaaa
open Go.RowKit Go.Proofs.YtnaliaebjeikaaaW.PrintWords

theorem clamp_le (n : Int) : clamp n ≤ 64 := by unfold clamp; split <;> (try split) <;> omega

set_option maxHeartbeats 400000 in
theorem ref06New_calls (n : Int) (w : World) : Calls Try.prog 13 #[.int .i64 n] w fun e w' => e = .returned (.agg #[.slice none 0 0, .int .i64 (clamp n : Int)]) ∧ Below w.heap.size w w' := by
  have fin : ∀ x, Below w.heap.size w (w.alloc (.cells x 35)) := fun x => (Below.refl _ _).alloc (Nat.le_refl _) _
  have HF := Aside0.mk fin
  clear fin
  by_cases h1 : n < 0
  · have e1 : (clamp n : Int) = 0 := by unfold clamp; rw [if_pos h1]; rfl
    rw [e1]
    clear e1
    go_enter Try.func13, Try.ntmps13
    go_wp2
    exact bodyPost_ret (v := .agg #[.slice none 0 0, .int .i64 0]) (by simp [results, Try.results13, go_sem]) rfl ⟨rfl, HF.out _⟩
  · by_cases h2 : 64 < n
    · have e1 : (clamp n : Int) = 64 := by unfold clamp; rw [if_neg h1, if_pos h2]; rfl
      rw [e1]
      clear e1
      go_enter Try.func13, Try.ntmps13
      go_wp2
      exact bodyPost_ret (v := .agg #[.slice none 0 0, .int .i64 64]) (by simp [results, Try.results13, go_sem]) rfl ⟨rfl, HF.out _⟩
    · have e1 : (clamp n : Int) = n := by unfold clamp; rw [if_neg h1, if_neg h2]; omega
      rw [e1]
      clear e1
      go_enter Try.func13, Try.ntmps13
      go_wp2
      exact bodyPost_ret (v := .agg #[.slice none 0 0, .int .i64 n]) (by simp [results, Try.results13, go_sem]) rfl ⟨rfl, HF.out _⟩

theorem field35 (x : Int) (w : World) : (Instr.field 35 (.agg #[.slice none 0 0, .int .i64 x]) 1).run Try.prog w = .ok (.int .i64 x) w := by kernel_rfl

def TruePost (w : World) (e : Ending) (w' : World) : Prop := e = .returned (.bool true) ∧ Below w.heap.size w w'

set_option maxHeartbeats 2000000 in
theorem boxOrder_out (A : Option Addr) (c1 len : Nat) (n : Int) (w : World) (h : 200 < len) :
    Calls Try.prog 4 #[.slice A len c1, .int .i64 n] w (TruePost w) := by
  go_enter Try.func4, Try.ntmps4
  go_wp2_with (go_at_call 11; refine (awake06_calls _).mono ?_; rintro e w' ⟨rfl, hB⟩; have HB := Aside0.mk hB; clear hB)
  go_ret
  exact ⟨rfl, HB.out⟩

set_option maxHeartbeats 4000000 in
set_option maxRecDepth 100000 in
theorem boxOrder_in (A : Option Addr) (c1 : Nat) (l : List ByteArray) (n : Int) (w : World) (hr : Kd.C Kd.string w A l.length l) (hl : l.length ≤ 200) :
    Calls Try.prog 4 #[.slice A l.length c1, .int .i64 n] w (TruePost w) := by
  have HR := Aside0.mk hr
  clear hr
  have hcl := clamp_le n
  go_enter Try.func4, Try.ntmps4
  go_wp2_with fail
  refine (newS_calls n w).mono ?_
  rintro e w1 ⟨rfl, h1, b1, z1⟩
  have H1 := Aside0.mk h1
  have HB1 := Aside0.mk b1
  clear h1 b1
  go_wp2_with fail
  refine (ref06New_calls n w1).mono ?_
  rintro e w2 ⟨rfl, b2⟩
  have H2 := Aside0.mk (H1.out.kept (row := none) (grown_of_below b2 none) (by simp) (by simp))
  have HB2 := Aside0.mk (HB1.out.trans (b2.mono HB1.out.size))
  clear b2 H1 HB1 z1
  generalize clamp n = cap at *
  have hf := field35
  go_wp2_with fail
  clear hf
  go_loopw [7] (fun i wr => ∃ k : Nat, k ≤ l.length ∧ i = .int .i64 k ∧ Aside0 (HoldsBox 66 Value.string wr (w.heap.size + 1) w.heap.size cap (l.take (min k cap))) ∧ Aside0 (Below w.heap.size w wr))
    (fun i _ => l.length - (intOf i).toNat)
  case atStart => exact ⟨0, Nat.zero_le _, rfl, ⟨by simpa using H2.out⟩, HB2⟩
  case round =>
    obtain ⟨k, hk, rfl, HX, HB⟩ := hrel
    by_cases hlt : k < l.length
    · obtain ⟨ad, e1, hx⟩ := Kd.at_string (Kd.C_below HR.out HB.out) (k : Int) (by omega) (by omega)
      cases e1
      simp only [Int.toNat_natCast] at hx
      have hlen : (l.take (min k cap)).length = min k cap := by rw [List.length_take]; omega
      have HS : Aside0 ((if (l.take (min k cap)).length < cap then l.take (min k cap) ++ [rdOf ByteArray.empty l (k : Int)] else l.take (min k cap)) = l.take (min (k + 1) cap)) := ⟨by
        rw [hlen]
        by_cases hc : k < cap
        · rw [if_pos (by omega), show min k cap = k by omega, show min (k + 1) cap = k + 1 by omega, List.take_succ_eq_append_getElem hlt]
          simp [rdOf, hlt]
        · rw [if_neg (by omega), show min k cap = min (k + 1) cap by omega]⟩
      have hd : decide ((l.take (min k cap)).length < cap) = decide (k < cap) := by
        rw [hlen]; congr 1; simp; omega
      have HD := Aside0.mk hd
      clear hd hlen
      generalize hX : rdOf ByteArray.empty l (k : Int) = x at *
      clear hX
      have P := Aside0.mk (putS_calls x wr (w.heap.size + 1) w.heap.size cap _ HX.out)
      rw [HD.out, HS.out] at P
      clear HS HD
      have hnn : ∀ b : Bool, (b != b) = false := by decide
      go_wp2_with fail
      refine P.out.mono ?_
      rintro e w3 ⟨rfl, h3, g3⟩
      have H3 := Aside0.mk h3
      have HB3 := Aside0.mk (HB.out.grown g3 HB.out.size (fun k e => by cases e; exact Nat.le_refl _))
      clear h3 g3 P
      by_cases hc : k < cap
      · go_wp2
        go_roundw
        case rel => exact ⟨k + 1, by omega, by go_num, H3, HB3⟩
        case measure => simp [intOf]; omega
      · go_wp2
        go_roundw
        case rel => exact ⟨k + 1, by omega, by go_num, H3, HB3⟩
        case measure => simp [intOf]; omega
    · obtain rfl : k = l.length := by omega
      clear H2 HB2
      have hX : ∃ X, l.take (min l.length cap) = X := ⟨_, rfl⟩
      obtain ⟨X, hX⟩ := hX
      rw [hX] at HX
      have hXl : X.length = min l.length cap := by rw [← hX, List.length_take]; omega
      have HXq := Aside0.mk hX
      have HXl := Aside0.mk hXl
      have hX64 : X.length ≤ 64 := by omega
      have hXn : X.length ≤ l.length := by omega
      clear hX hXl
      go_wp2_with fail
      refine (allS_calls wr (w.heap.size + 1) w.heap.size cap X HX.out hX64).mono ?_
      rintro e w3 ⟨v, rfl, hR3, hX3, g3⟩
      obtain ⟨B, c3, rfl, hc3, hC3⟩ := Kd.R_reads hR3
      have HB3 := Aside0.mk (HB.out.grown g3 HB.out.size (fun k e => by cases e; exact Nat.le_refl _))
      have HC3 := Aside0.mk hC3
      have HX3 := Aside0.mk hX3
      clear hR3 hC3 hX3 g3 HX
      have hmin : (if l.length < cap then (l.length : Int) else (cap : Int)) = (X.length : Int) := by
        rw [HXl.out]; split <;> omega
      go_wp2_with fail
      clear hmin
      go_loopw [9] (fun i wq => ∃ k : Nat, k ≤ X.length ∧ i = .int .i64 k ∧ Aside0 (Drawn0 w3 wq))
        (fun i _ => X.length - (intOf i).toNat)
      case atStart => exact ⟨0, Nat.zero_le _, rfl, ⟨Drawn0.refl _⟩⟩
      case round =>
        obtain ⟨k, hk2, rfl, HD⟩ := hrel
        obtain ⟨nd, hnd⟩ := HD.out.out
        by_cases hlt2 : k < X.length
        · obtain ⟨a1, e1, hx⟩ := Kd.at_string (Kd.C_drewN HC3.out nd) (k : Int) (by omega) (by omega)
          cases e1
          obtain ⟨a2, e2, hy⟩ := Kd.at_string (Kd.C_drewN (Kd.C_below HR.out HB3.out) nd) (k : Int) (by omega) (by omega)
          cases e2
          simp only [Int.toNat_natCast] at hx hy
          rw [← hnd] at hx hy
          have he : rdOf ByteArray.empty X (k : Int) = rdOf ByteArray.empty l (k : Int) := by
            rw [← HXq.out]
            have hk3 : k < min l.length cap := by have := HXl.out; omega
            have hk4 : k < l.length := by omega
            simp [rdOf, hk3, hk4]
          rw [he] at hx
          clear he hnd
          generalize rdOf ByteArray.empty l (k : Int) = x at hx hy
          go_wp2_with fail
          go_quiet (fail)
          go_wp2_with fail
          go_roundw
          case rel => exact ⟨k + 1, by omega, by go_num, ⟨HD.out.step _⟩⟩
          case measure => simp [intOf]; omega
        · obtain rfl : k = X.length := by omega
          have HX4 : Aside0 (HoldsBox 66 Value.string wr (w.heap.size + 1) w.heap.size cap []) := ⟨HX3.out.kept (row := none) (grown_of_below HD.out.below none) (by simp) (by simp)⟩
          have HB4 := Aside0.mk (HB3.out.trans (HD.out.below.mono HB3.out.size))
          clear hnd
          go_wp2_with fail
          refine (takeS_calls wr (w.heap.size + 1) w.heap.size cap [] HX4.out).mono ?_
          rintro e w5 ⟨rfl, hX5, g5⟩
          have HX5 : Aside0 (HoldsBox 66 Value.string w5 (w.heap.size + 1) w.heap.size cap []) := ⟨hX5⟩
          have HB5 := Aside0.mk (HB4.out.grown g5 HB4.out.size (fun k e => by cases e; exact Nat.le_refl _))
          clear hX5 g5
          have hem : (([] : List ByteArray).headD ByteArray.empty) = { data := #[] } := rfl
          rw [hem]
          go_wp2_with fail
          refine (lenS_calls w5 (w.heap.size + 1) w.heap.size cap [] HX5.out).mono ?_
          rintro e w6 ⟨rfl, rfl⟩
          go_wp2_with (go_at_call 11; refine (awake06_calls _).mono ?_; rintro e w' ⟨rfl, hB⟩; have HB6 := Aside0.mk hB; clear hB)
          go_ret
          exact ⟨rfl, HB5.out.trans (HB6.out.mono HB5.out.size)⟩
#print axioms boxOrder_in
end Go.Proofs.Ytnaliaebjeikaaa
