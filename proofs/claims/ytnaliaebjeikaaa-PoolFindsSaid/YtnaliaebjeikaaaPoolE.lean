/- pool.Find as one contract; the statements' own 'awake' of layer 26. -/
import Derived.Test.YtnaliaebjeikaaaPoolD
import Derived.Test.YtnaliaebjeikaaaPPoolFindsx1
namespace Go.Proofs.Ytnaliaebjeikaaa
open Go.RowKit Go.Shelf Go.Maps Go.Proofs.YtnaliaebjeikaaaW.PrintWords

instance (p f n : Int) : Decidable (badAsk p f n) := by unfold badAsk; infer_instance

/-- What pool.Find answers. -/
def findR (p : Int) (l : List Int) (f n : Int) : List Int × Int :=
  if badAsk p f n then ([], 2) else if freeN p l < n then ([], 14) else ((come p f l p.toNat).take n.toNat, 0)

theorem find_calls (p f n : Int) (A1 : Option Addr) (c1 : Nat) (l1 : List Int) (w : World) (hr1 : Kd.C (Kd.int .i64) w A1 l1.length l1) (hl : l1.length ≤ 300) (hwf : ∀ n ∈ l1, (Lit.int .i64 n).wf = true) :
    Calls Try.prog 9 #[.int .i64 p, .slice A1 l1.length c1, .int .i64 f, .int .i64 n] w (FindPost w (findR p l1 f n).1 (findR p l1 f n).2) := by
  unfold findR
  by_cases h : badAsk p f n
  · rw [if_pos h]; exact find_bad p f n A1 c1 _ w h
  · rw [if_neg h]
    by_cases h' : freeN p l1 < n
    · rw [if_pos h']; exact find_full p f n A1 c1 l1 w hr1 hl hwf h h'
    · rw [if_neg h']; exact find_ok p f n A1 c1 l1 w hr1 hl hwf h (by omega)

theorem lit_C (W : World) (e : TypeId) (xs : List Int) (hm : xs.length ≤ 9223372036854775807) : Kd.C (Kd.int .i64) (W.alloc (.cells (nums .i64 xs).toArray e)) (some ⟨W.heap.size, 0, none⟩) xs.length xs := by
  obtain ⟨A, c, he, _, hc⟩ := Kd.R_reads (Kd.R_of_own (enc := Value.int .i64) (h1 := fun _ => rfl) (ok := fun _ => True) (own_lit W W.heap.size e .i64 xs (Nat.le_refl _) hm) (fun _ _ => trivial))
  injection he with h1 h2 h3
  subst h1
  exact hc

theorem same_nil (x : List Int) (h : x = [3, 0]) : PPoolFinds.instarref26_Same.f 9 x [3, 0] = some true := by subst h; decide +kernel
theorem findR_awake : findR 4 [1] 3 2 = ([3, 0], 0) := by decide +kernel
theorem freeN_awake : freeN 4 [1, 1, 9] = 3 := by decide +kernel

set_option maxHeartbeats 2000000 in
set_option maxRecDepth 100000 in
theorem awake26_calls (w : World) : Calls Try.prog 8 #[] w fun e w' => e = .returned (.bool true) ∧ Below w.heap.size w w' := by
  have f1 := find_calls 4 3 2 (some ⟨w.heap.size, 0, none⟩) 1 [1] (w.alloc (.cells #[.int .i64 1] 3)) (lit_C w 3 [1] (by decide)) (by decide) (by intro n hn; simp at hn; subst hn; decide)
  rw [findR_awake] at f1
  have F1 := Aside0.mk f1
  clear f1
  go_enter Try.func8, Try.ntmps8
  go_wp2_with fail
  refine F1.out.mono ?_
  rintro e w1 ⟨v, rfl, hR, hB⟩
  obtain ⟨A, c, rfl, hc, hC⟩ := Kd.R_reads hR
  have HC := Aside0.mk hC
  have HB := Aside0.mk (show Below w.heap.size w w1 from ((Below.refl _ _).alloc (Nat.le_refl _) _).trans (hB.mono (by simp)))
  clear hR hB hC F1
  go_wp2_with fail
  refine (PPoolFinds.instarref26_Same.calls 9 A c [3, 0] (some ⟨w1.heap.size, 0, none⟩) 2 [3, 0] true _ ?s1 ?s2 ?s3 ?s4 (same_nil _ rfl)).mono ?_
  case s1 => exact Kd.C_alloc HC.out _
  case s2 => exact hc
  case s3 => exact lit_C w1 3 [3, 0] (by decide)
  case s4 => decide
  rintro e w' ⟨rfl, ⟨nd, rfl⟩⟩
  have HB2 := Aside0.mk (show Below w.heap.size w ((w1.alloc (.cells #[.int .i64 3, .int .i64 0] 3)).drewN nd) from pw_below_drewN (HB.out.alloc HB.out.size _) nd)
  generalize (w1.alloc (.cells #[.int .i64 3, .int .i64 0] 3)).drewN nd = w2 at HB2 ⊢
  go_wp2_with fail
  refine (free_calls 4 (some ⟨w2.heap.size, 0, none⟩) 3 [1, 1, 9] _ (lit_C w2 3 [1, 1, 9] (by decide)) (by decide) (by intro n hn; simp at hn; rcases hn with rfl | rfl | rfl <;> decide)).mono ?_
  rintro e w3 ⟨rfl, hB3⟩
  have HB3 := Aside0.mk (show Below w.heap.size w w3 from (HB2.out.alloc HB2.out.size _).trans (hB3.mono (by have := HB2.out.size; simp; omega)))
  clear hB3
  rw [freeN_awake]
  go_wp2
  go_ret
  exact ⟨rfl, HB3.out⟩
#print axioms awake26_calls
end Go.Proofs.Ytnaliaebjeikaaa
