/- The document's turn and its schedule. -/
import Derived.Test.YtfjglhhandjahaaDoorShaS
import Derived.Test.YtfjglhhandjahaaDoorShaQ
import Derived.Test.YtfjglhhandjahaaDoorShaPs
namespace Go.Proofs.YtfjglhhandjahaaDoor.Sha
open Go.RowKit Go.Proofs.YtfjglhhandjahaaDoorW.PrintWords Go.Proofs.YtfjglhhandjahaaDoor.PShaOf
set_option linter.unusedVariables false

/-- The document's turn. -/
theorem turn_at (x n : Int) (h1 : 0 ≤ IntKind.u64.wrap n) (h2 : 0 ≤ IntKind.u64.wrap (wrap64 (32 - n))) (h3 : 0 ≤ Go.bits .and .u64 (IntKind.u64.wrap (-n)) 31) (h4 : 0 ≤ IntKind.u64.wrap (32 - Go.bits .and .u64 (IntKind.u64.wrap (-n)) 31))
    (e1 : Go.bits .and .u64 (IntKind.u64.wrap (-n)) 31 = IntKind.u64.wrap (wrap64 (32 - n))) (e2 : IntKind.u64.wrap (32 - Go.bits .and .u64 (IntKind.u64.wrap (-n)) 31) = IntKind.u64.wrap n) : instarref03_turn.f x n = some (rl x (-n)) := by
  unfold rl instarref03_turn.f bits_RotateLeft32.f
  rw [if_pos h1, if_pos h2, if_pos h3, if_pos h4, e2, e1, or_comm32, Option.getD_some]
theorem turn_7 (x : Int) : instarref03_turn.f x 7 = some (rl x (-7)) := turn_at x 7 (by decide +kernel) (by decide +kernel) (by decide +kernel) (by decide +kernel) (by decide +kernel) (by decide +kernel)
theorem turn_18 (x : Int) : instarref03_turn.f x 18 = some (rl x (-18)) := turn_at x 18 (by decide +kernel) (by decide +kernel) (by decide +kernel) (by decide +kernel) (by decide +kernel) (by decide +kernel)
theorem turn_17 (x : Int) : instarref03_turn.f x 17 = some (rl x (-17)) := turn_at x 17 (by decide +kernel) (by decide +kernel) (by decide +kernel) (by decide +kernel) (by decide +kernel) (by decide +kernel)
theorem turn_19 (x : Int) : instarref03_turn.f x 19 = some (rl x (-19)) := turn_at x 19 (by decide +kernel) (by decide +kernel) (by decide +kernel) (by decide +kernel) (by decide +kernel) (by decide +kernel)
theorem turn_6 (x : Int) : instarref03_turn.f x 6 = some (rl x (-6)) := turn_at x 6 (by decide +kernel) (by decide +kernel) (by decide +kernel) (by decide +kernel) (by decide +kernel) (by decide +kernel)
theorem turn_11 (x : Int) : instarref03_turn.f x 11 = some (rl x (-11)) := turn_at x 11 (by decide +kernel) (by decide +kernel) (by decide +kernel) (by decide +kernel) (by decide +kernel) (by decide +kernel)
theorem turn_25 (x : Int) : instarref03_turn.f x 25 = some (rl x (-25)) := turn_at x 25 (by decide +kernel) (by decide +kernel) (by decide +kernel) (by decide +kernel) (by decide +kernel) (by decide +kernel)
theorem turn_2 (x : Int) : instarref03_turn.f x 2 = some (rl x (-2)) := turn_at x 2 (by decide +kernel) (by decide +kernel) (by decide +kernel) (by decide +kernel) (by decide +kernel) (by decide +kernel)
theorem turn_13 (x : Int) : instarref03_turn.f x 13 = some (rl x (-13)) := turn_at x 13 (by decide +kernel) (by decide +kernel) (by decide +kernel) (by decide +kernel) (by decide +kernel) (by decide +kernel)
theorem turn_22 (x : Int) : instarref03_turn.f x 22 = some (rl x (-22)) := turn_at x 22 (by decide +kernel) (by decide +kernel) (by decide +kernel) (by decide +kernel) (by decide +kernel) (by decide +kernel)
theorem rot_at (x n : Int) (h3 : 0 ≤ Go.bits .and .u64 (IntKind.u64.wrap n) 31) (h4 : 0 ≤ IntKind.u64.wrap (32 - Go.bits .and .u64 (IntKind.u64.wrap n) 31)) : bits_RotateLeft32.f x n = some (rl x n) := by
  unfold rl bits_RotateLeft32.f
  rw [if_pos h3, if_pos h4]; rfl
theorem tn_6 (x : Int) : tn x 6 11 25 = Go.bits .xor .u32 (Go.bits .xor .u32 (rl x (-6)) (rl x (-11))) (rl x (-25)) := by
  unfold tn sha_turned.f
  rw [show wrap64 (-6) = -6 by decide +kernel, show wrap64 (-11) = -11 by decide +kernel, show wrap64 (-25) = -25 by decide +kernel, rot_at x (-6) (by decide +kernel) (by decide +kernel), rot_at x (-11) (by decide +kernel) (by decide +kernel), rot_at x (-25) (by decide +kernel) (by decide +kernel)]; rfl
theorem tn_2 (x : Int) : tn x 2 13 22 = Go.bits .xor .u32 (Go.bits .xor .u32 (rl x (-2)) (rl x (-13))) (rl x (-22)) := by
  unfold tn sha_turned.f
  rw [show wrap64 (-2) = -2 by decide +kernel, show wrap64 (-13) = -13 by decide +kernel, show wrap64 (-22) = -22 by decide +kernel, rot_at x (-2) (by decide +kernel) (by decide +kernel), rot_at x (-13) (by decide +kernel) (by decide +kernel), rot_at x (-22) (by decide +kernel) (by decide +kernel)]; rfl

theorem sched_step (k : Nat) (xs : List Int) (t j15 j2 j16 j7 j1 : Int) (e15 : wrap64 (t - 15) = j15) (e2 : wrap64 (t - 2) = j2) (e16 : wrap64 (t - 16) = j16) (e7 : wrap64 (t - 7) = j7) (e1 : wrap64 (t + 1) = j1)
    (c0 : t < 64) (a15 : 0 ≤ j15) (b15 : j15 < (xs.length : Int)) (a2 : 0 ≤ j2) (b2 : j2 < (xs.length : Int)) (a16 : 0 ≤ j16) (b16 : j16 < (xs.length : Int)) (a7 : 0 ≤ j7) (b7 : j7 < (xs.length : Int)) (cl : xs.length < 35184372088832) :
    instarref03_schedule.l0 (k + 1) xs t = instarref03_schedule.l0 k (xs ++ [((((((rd xs j16) + (Go.bits .xor .u32 (Go.bits .xor .u32 (rl (rd xs j15) (-7)) (rl (rd xs j15) (-18))) ((rd xs j15) / 8))) % 4294967296) + (rd xs j7)) % 4294967296) + (Go.bits .xor .u32 (Go.bits .xor .u32 (rl (rd xs j2) (-17)) (rl (rd xs j2) (-19))) ((rd xs j2) / 1024))) % 4294967296]) j1 := by
  subst e15 e2 e16 e7 e1
  rw [instarref03_schedule.l0, if_pos c0, if_pos a15, if_pos b15, if_pos a2, if_pos b2, turn_7, turn_18, turn_17, turn_19, Option.bind_some, Option.bind_some, Option.bind_some, Option.bind_some, if_pos a16, if_pos b16, if_pos a7, if_pos b7, if_pos cl]
theorem sched_go : ∀ (n k t : Nat) (xs : List Int), 16 ≤ t → t + n = 64 → n < k → xs.length = t → instarref03_schedule.l0 k xs (t : Int) = some (wideGo n t (xs ++ List.replicate n 0))
  | 0, k, t, xs, h16, ht, hk, hx => by
    obtain ⟨k, rfl⟩ : ∃ j, k = j + 1 := ⟨k - 1, by omega⟩
    rw [instarref03_schedule.l0, if_neg (by omega)]
    simp [wideGo]
  | n + 1, k, t, xs, h16, ht, hk, hx => by
    obtain ⟨k, rfl⟩ : ∃ j, k = j + 1 := ⟨k - 1, by omega⟩
    have c0 : (t : Int) < 64 := by omega
    have l15 : -9223372036854775808 ≤ (t : Int) - 15 ∧ (t : Int) - 15 ≤ 9223372036854775807 := ⟨by omega, by omega⟩
    have l2 : -9223372036854775808 ≤ (t : Int) - 2 ∧ (t : Int) - 2 ≤ 9223372036854775807 := ⟨by omega, by omega⟩
    have l16 : -9223372036854775808 ≤ (t : Int) - 16 ∧ (t : Int) - 16 ≤ 9223372036854775807 := ⟨by omega, by omega⟩
    have l7 : -9223372036854775808 ≤ (t : Int) - 7 ∧ (t : Int) - 7 ≤ 9223372036854775807 := ⟨by omega, by omega⟩
    have l1 : -9223372036854775808 ≤ (t : Int) + 1 ∧ (t : Int) + 1 ≤ 9223372036854775807 := ⟨by omega, by omega⟩
    have n15 : (t : Int) - 15 = ((t - 15 : Nat) : Int) := by omega
    have n2 : (t : Int) - 2 = ((t - 2 : Nat) : Int) := by omega
    have n16 : (t : Int) - 16 = ((t - 16 : Nat) : Int) := by omega
    have n7 : (t : Int) - 7 = ((t - 7 : Nat) : Int) := by omega
    have n1 : (t : Int) + 1 = ((t + 1 : Nat) : Int) := by omega
    have b15 : ((t - 15 : Nat) : Int) < (xs.length : Int) := by omega
    have b2 : ((t - 2 : Nat) : Int) < (xs.length : Int) := by omega
    have b16 : ((t - 16 : Nat) : Int) < (xs.length : Int) := by omega
    have b7 : ((t - 7 : Nat) : Int) < (xs.length : Int) := by omega
    have cl : xs.length < 35184372088832 := by omega
    have g1 : 16 ≤ t + 1 := by omega
    have g2 : t + 1 + n = 64 := by omega
    have g3 : n < k := by omega
    have g4 : xs.length ≤ t := by omega
    have f16 : t - 16 < t := by omega
    have f15 : t - 15 < t := by omega
    have f7 : t - 7 < t := by omega
    have f2 : t - 2 < t := by omega
    have ap : ∀ i : Nat, i < t → (xs ++ List.replicate (n + 1) 0).getD i 0 = xs.getD i 0 := fun i hi => by simp [List.getD_eq_getElem?_getD, List.getElem?_append, hx, hi]
    have w15 : wrap64 ((t : Int) - 15) = ((t - 15 : Nat) : Int) := (IntWalk.wrap64_in _ l15).trans n15
    have w2 : wrap64 ((t : Int) - 2) = ((t - 2 : Nat) : Int) := (IntWalk.wrap64_in _ l2).trans n2
    have w16 : wrap64 ((t : Int) - 16) = ((t - 16 : Nat) : Int) := (IntWalk.wrap64_in _ l16).trans n16
    have w7 : wrap64 ((t : Int) - 7) = ((t - 7 : Nat) : Int) := (IntWalk.wrap64_in _ l7).trans n7
    have w1 : wrap64 ((t : Int) + 1) = ((t + 1 : Nat) : Int) := (IntWalk.wrap64_in _ l1).trans n1
    have rdn : ∀ i : Nat, rd xs (i : Int) = xs.getD i 0 := fun i => by simp [rd]
    rw [sched_step k xs t _ _ _ _ _ w15 w2 w16 w7 w1 c0 (Int.natCast_nonneg _) b15 (Int.natCast_nonneg _) b2 (Int.natCast_nonneg _) b16 (Int.natCast_nonneg _) b7 cl, rdn, rdn, rdn, rdn]
    have hv : wideNext (xs ++ List.replicate (n + 1) 0) t = (((((xs.getD (t - 16) 0) + (Go.bits .xor .u32 (Go.bits .xor .u32 (rl (xs.getD (t - 15) 0) (-7)) (rl (xs.getD (t - 15) 0) (-18))) ((xs.getD (t - 15) 0) / 8))) % 4294967296) + (xs.getD (t - 7) 0)) % 4294967296 + (Go.bits .xor .u32 (Go.bits .xor .u32 (rl (xs.getD (t - 2) 0) (-17)) (rl (xs.getD (t - 2) 0) (-19))) ((xs.getD (t - 2) 0) / 1024))) % 4294967296 := by
      unfold wideNext
      rw [ap (t - 16) f16, ap (t - 15) f15, ap (t - 7) f7, ap (t - 2) f2, IntKind.wrap_u32, IntKind.wrap_u32, IntKind.wrap_u32]
    rw [← hv, wideGo]
    generalize wideNext (xs ++ List.replicate (n + 1) 0) t = v
    have hset : (xs ++ List.replicate (n + 1) 0).set t v = (xs ++ [v]) ++ List.replicate n 0 := by
      rw [List.set_append_right _ _ g4, hx, Nat.sub_self, List.replicate_succ, List.set_cons_zero, List.append_assoc, List.singleton_append]
    rw [sched_go n k (t + 1) (xs ++ [v]) g1 g2 g3 (by simp [hx]), ← hset]
theorem sched_is (l : List Int) (hl : l.length = 64) (hb : ∀ x ∈ l, 0 ≤ x ∧ x < 256) : instarref03_schedule.f 200 l = some (wideL (packL l)) := by
  unfold instarref03_schedule.f
  rw [pack1_is l hl hb, Option.bind_some]
  exact sched_go 48 200 16 (packL l) (by omega) (by omega) (by omega) (pack_64 l hl).2
end Go.Proofs.YtfjglhhandjahaaDoor.Sha
