/- The document's filled, and the bytes of a digest. -/
import Derived.Test.YtfjglhhandjahaaDoorShaEq
namespace Go.Proofs.YtfjglhhandjahaaDoor.Sha
open Go.RowKit Go.Proofs.YtfjglhhandjahaaDoorW.PrintWords Go.Proofs.YtfjglhhandjahaaDoor.PShaOf
set_option linter.unusedVariables false

/-- A row of bytes of the call's own. -/
structure OwnB (w wr : World) (v : Value) (xs : List Int) : Prop where
  own : wr.ownsRow w.heap.size 5 1 v xs.length (nums .u8 xs)
  bel : Below w.heap.size w wr
theorem info5 : (Tryd.prog.info? 5).map (fun i => (i.zero, i.size, i.bytes)) = some (some (.int .u8 0), 1, 1) := by kernel_rfl
theorem OwnB.nil (w : World) : OwnB w w (.slice none 0 0) [] := ⟨own_nil w w.heap.size 5 1, Below.refl _ w⟩
theorem OwnB.alloc {w wr : World} {v : Value} {xs : List Int} (h : OwnB w wr v xs) (o : Obj) : OwnB w (wr.alloc o) v xs := ⟨pw_own_below h.own (below_alloc (Below.refl _ _) o), below_alloc h.bel o⟩
theorem OwnB.slice {w wr : World} {v : Value} {xs : List Int} (h : OwnB w wr v xs) : ∃ A c, v = .slice A xs.length c := own_slice h.own
theorem OwnB.reads {w wr : World} {v : Value} {xs : List Int} (h : OwnB w wr v xs) : ∃ A c, v = .slice A xs.length c ∧ xs.length ≤ c ∧ Kd.C (Kd.int .u8) wr A xs.length xs := by
  obtain ⟨A, c, hv, hR⟩ := own_reads h.own
  refine ⟨A, c, hv, ?_, Kd.C_of_reads (d := 0) hR⟩
  rcases h.own.2 with ⟨e, h0⟩ | ⟨g, cap, cur, e, _, _, hle, _⟩
  · omega
  · rw [hv] at e
    injection e with _ _ e3
    omega
theorem reads_lit (W : World) (ys : List Int) (hy : ys.length ≤ 1000000) : ReadsInt (W.alloc (.cells (nums .u8 ys).toArray 5)) .u8 (some ⟨W.heap.size, 0, none⟩) ys.length ys :=
  Kd.reads_of_C (lit_C W ys hy 5)
theorem reads_of {w : World} {A : Option Addr} {n : Nat} {l : List Int} (h : Kd.C (Kd.int .u8) w A n l) : ReadsInt w .u8 A n l := Kd.reads_of_C h

theorem lenRow_take (n : Int) {t : Nat} (ht : t < 8) : (lenRow n 8).take (t + 1) = (lenRow n 8).take t ++ [n * 8 / 2 ^ (8 * (7 - t)) % 256] := by
  have hl : (lenRow n 8).length = 8 := by simp [lenRow]
  rw [List.take_succ_eq_append_getElem (by omega)]
  congr 2
  simp [lenRow, ht, lenByte]
set_option maxHeartbeats 1000000 in
set_option maxRecDepth 100000 in
theorem filled_calls (l : List Int) (A : Option Addr) (c : Nat) (w : World) (hr : Kd.C (Kd.int .u8) w A l.length l) (hc : l.length ≤ c) (hlen : l.length ≤ 900000) :
    Calls Tryd.prog 16 #[.slice A l.length c] w fun e w' => ∃ v, e = .returned v ∧ OwnB w w' v (padL l) := by
  have HR := Aside0.mk (reads_of hr)
  clear hr
  have z0 := Aside0.mk (OwnB.nil w)
  go_enter Tryd.func16, Tryd.ntmps16
  go_upto_region 1 with (fail)
  go_wp2_with (first
    | (refine print_append_row (w0 := w) w.heap.size rfl _ (.tmp 6) 23 5 .u8 1 rfl un23 info5 (by decide) (.slice none 0 0) [] l A l.length c rfl rfl z0.out.own HR.out z0.out.bel (Nat.le_refl _) (by simp; omega) ?_; intro v1 w1 ho hb _ _; have S1 : Aside0 (OwnB w w1 v1 l) := ⟨⟨ho, hb⟩⟩; clear ho hb)
    | (refine print_append_row (w0 := w) w.heap.size rfl (.tmp 7) (.tmp 8) 23 5 .u8 1 rfl un23 info5 (by decide) v1 l [128] (some ⟨w1.heap.size, 0, none⟩) 1 1 rfl rfl (S1.out.alloc _).own (reads_lit w1 [128] (by simp)) (S1.out.alloc _).bel (S1.out.alloc _).bel.size (by omega) ?_; intro v2 w2 ho hb _ _; have S2 : Aside0 (OwnB w w2 v2 (l ++ [128])) := ⟨⟨ho, hb⟩⟩; clear ho hb))
  have hpad : (l.length + 1 + padN l.length) % 64 = 56 := by unfold padN; omega
  have hpad2 : padN l.length < 64 := by unfold padN; omega
  obtain ⟨P, hP⟩ : ∃ P, padN l.length = P := ⟨_, rfl⟩
  rw [hP] at hpad hpad2
  have HP := Aside0.mk (And.intro hP hpad)
  clear hP hpad
  go_loopw [3] (fun v wr => ∃ j, j ≤ P ∧ Aside0 (OwnB w wr v (l ++ 128 :: List.replicate j 0))) (fun v _ => (120 - slLen v % 64) % 64)
  case atStart => exact ⟨0, by omega, S2⟩
  case round =>
    clear S1 S2 z0
    obtain ⟨j, hj, S⟩ := hrel
    obtain ⟨A3, c3, rfl⟩ := S.out.slice
    have hn1 : (l ++ 128 :: List.replicate j 0).length = l.length + 1 + j := by simp; omega
    obtain ⟨n, hn⟩ : ∃ n, (l ++ 128 :: List.replicate j 0).length = n := ⟨_, rfl⟩
    rw [hn] at hn1
    simp only [hn]
    have HN := Aside0.mk (And.intro hn hn1)
    rw [hn] at S
    have hrem : ((n : Int)).tmod 64 = ((n % 64 : Nat) : Int) := by rw [Int.tmod_eq_emod_of_nonneg (by omega)]; rfl
    clear hn hn1
    by_cases h56 : n % 64 = 56
    · have h58 : ((n % 64 : Nat) : Int) = 56 := by omega
      go_wp2_with fail
      obtain rfl : j = P := by have := HP.out.2; have := HN.out.2; omega
      clear h56 h58 hrem
      have S3 := S
      generalize Value.slice A3 n c3 = v3 at *
      go_loopw [3, 5] (fun v i wr => ∃ t : Nat, t ≤ 8 ∧ i = .int .i64 (7 - (t : Int)) ∧ Aside0 (OwnB w wr v ((l ++ 128 :: List.replicate j 0) ++ (lenRow l.length 8).take t))) (fun _ i _ => (intOf i + 1).toNat)
      case atStart => exact ⟨0, by omega, rfl, by rw [List.take_zero, List.append_nil]; exact S3⟩
      case round =>
        clear S S3
        obtain ⟨t, ht, rfl, S⟩ := hrel
        obtain ⟨A4, c4, rfl⟩ := S.out.slice
        have hm1 : ((l ++ 128 :: List.replicate j 0) ++ (lenRow l.length 8).take t).length = l.length + 1 + j + t := by simp [lenRow]; omega
        obtain ⟨m, hm⟩ : ∃ m, ((l ++ 128 :: List.replicate j 0) ++ (lenRow l.length 8).take t).length = m := ⟨_, rfl⟩
        rw [hm] at hm1
        simp only [hm]
        have HM := Aside0.mk (And.intro hm hm1)
        rw [hm] at S
        clear hm hm1
        by_cases hlt : t < 8
        · obtain ⟨u, hu⟩ : ∃ u : Nat, 7 - (t : Int) = u := ⟨7 - t, by omega⟩
          rw [hu]
          have hu2 : u = 7 - t := by omega
          have hu3 : (0 : Int) ≤ (u : Int) := by omega
          have hu4 : (u : Int) ≤ 7 := by omega
          have HU := Aside0.mk (And.intro hu hu2)
          clear hu hu2
          go_wp2_with ((refine print_append_row (w0 := w) w.heap.size rfl (.tmp 25) (.tmp 32) 23 5 .u8 1 rfl un23 info5 (by decide) (.slice A4 m c4) ((l ++ 128 :: List.replicate j 0) ++ (lenRow l.length 8).take t) [(l.length : Int) * 8 / 2 ^ (8 * u) % 256] (some ⟨wr.heap.size, 0, none⟩) 1 1 rfl rfl (S.out.alloc _).own (reads_lit wr [(l.length : Int) * 8 / 2 ^ (8 * u) % 256] (by simp)) (S.out.alloc _).bel (S.out.alloc _).bel.size (by have := HM.out.1; have := HM.out.2; omega) ?_; intro v2 w2 ho hb _ _; have S2 : Aside0 (OwnB w w2 v2 (((l ++ 128 :: List.replicate j 0) ++ (lenRow l.length 8).take t) ++ [(l.length : Int) * 8 / 2 ^ (8 * u) % 256])) := ⟨⟨ho, hb⟩⟩; clear ho hb))
          refine ⟨⟨t + 1, by omega, ?_, ⟨?_⟩⟩, ?_⟩
          · have h1 := HU.out.1
            rw [show (u : Int) - 1 = 7 - ((t + 1 : Nat) : Int) by omega]
          · have h2 := S2.out
            rw [HU.out.2, List.append_assoc, ← lenRow_take l.length hlt] at h2
            exact h2
          · simp only [intOf]; omega
        · obtain rfl : t = 8 := by omega
          go_wp2_with fail
          have FIN : OwnB w wr (.slice A4 m c4) (padL l) := by
            have h2 := S.out
            rw [List.take_of_length_le (show (lenRow (l.length : Int) 8).length ≤ 8 by simp [lenRow]), ← HP.out.1] at h2
            exact h2
          go_ret
          exact ⟨_, rfl, FIN⟩
    · have h57 : ¬ ((n % 64 : Nat) : Int) = 56 := by omega
      go_wp2_with ((refine print_append_row (w0 := w) w.heap.size rfl (.tmp 14) (.tmp 15) 23 5 .u8 1 rfl un23 info5 (by decide) (.slice A3 n c3) (l ++ 128 :: List.replicate j 0) [0] (some ⟨wr.heap.size, 0, none⟩) 1 1 rfl rfl (S.out.alloc _).own (reads_lit wr [0] (by simp)) (S.out.alloc _).bel (S.out.alloc _).bel.size (by have := HN.out.1; have := HN.out.2; omega) ?_; intro v2 w2 ho hb _ _; have S2 : Aside0 (OwnB w w2 v2 ((l ++ 128 :: List.replicate j 0) ++ [0])) := ⟨⟨ho, hb⟩⟩; clear ho hb))
      refine ⟨⟨j + 1, ?_, ⟨?_⟩⟩, ?_⟩
      · have := HP.out.2; have := HN.out.2; omega
      · have := S2.out
        rw [List.append_assoc, List.cons_append, ← List.replicate_succ'] at this
        exact this
      · obtain ⟨A5, c5, rfl⟩ := S2.out.slice
        have h1 := HN.out.1
        simp only [slLen]
        rw [List.length_append, h1, List.length_singleton]
        omega
/-- The four bytes of a word. -/
def four (x : Int) : List Int := [x / 16777216 % 256, x / 65536 % 256, x / 256 % 256, x % 256]
/-- The bytes of words. -/
def bytesL (d : List Int) : List Int := d.flatMap four
theorem bytesL_take (d : List Int) {t : Nat} (ht : t < d.length) : bytesL (d.take (t + 1)) = bytesL (d.take t) ++ four (d.getD t 0) := by
  unfold bytesL
  rw [List.take_succ_eq_append_getElem ht, List.flatMap_append]
  simp [List.getD_eq_getElem?_getD, ht]
theorem bytesL_length (d : List Int) : (bytesL d).length = 4 * d.length := by
  unfold bytesL
  induction d with
  | nil => rfl
  | cons x d ih => rw [List.flatMap_cons, List.length_append, ih]; simp [four]; omega
theorem ix29 {W : List Int} (hl : W.length = 8) {t : Nat} (ht : t < 8) (w : World) : (Instr.index 29 (.agg (nums .u32 W).toArray) (.int .i64 (t : Int))).run Tryd.prog w = .ok (.int .u32 (W.getD t 0)) w := by
  have hu := un29
  have hs := size28
  have h2 : (0 : Int) ≤ (t : Int) := by omega
  have h3 : (nums .u32 W)[t]? = some (.int .u32 (W.getD t 0)) := by simp [nums, hl, ht]
  cases hq : Tryd.prog.info? 28 with
  | none => simp [hq] at hs
  | some i =>
    have hi : i.size = 1 := by simpa [hq] using hs
    simp [Instr.index, run_underlying hu, go_sem, sizeOf, typeInfo, hq, hi, h2, h3]
    intro h
    omega

end Go.Proofs.YtfjglhhandjahaaDoor.Sha
