/- The document's words and the program's are one. -/
import Derived.Test.YtfjglhhandjahaaDoorShaS
import Derived.Test.YtfjglhhandjahaaDoorShaL
import Derived.Test.YtfjglhhandjahaaDoorShaPs
namespace Go.Proofs.YtfjglhhandjahaaDoor.Sha
open Go.RowKit Go.Proofs.YtfjglhhandjahaaDoorW.PrintWords Go.Proofs.YtfjglhhandjahaaDoor.PShaOf
set_option linter.unusedVariables false

theorem or_comm32 (a b : Int) : Go.bits .or .u32 a b = Go.bits .or .u32 b a := by
  unfold Go.bits
  simp [BitVec.or_comm]
theorem wraps_u32 (n : Int) (h₀ : 0 ≤ n) (h₁ : n < 2 ^ 32) : IntKind.u32.wrap n = n := by rw [IntKind.wrap_u32]; omega
theorem or_sum (i : Nat) (x y : Int) (hx₀ : 0 ≤ x) (hx : x % 2 ^ i = 0) (hx₁ : x < 2 ^ 32) (hy₀ : 0 ≤ y) (hy : y < 2 ^ i) (hy₁ : y < 2 ^ 32) : Go.bits .or .u32 x y = x + y :=
  bits_join .u32 32 (by decide) wraps_u32 i x y hx₀ hx hx₁ hy₀ hy hy₁
theorem w4_eq (b0 b1 b2 b3 : Int) (h0 : 0 ≤ b0 ∧ b0 < 256) (h1 : 0 ≤ b1 ∧ b1 < 256) (h2 : 0 ≤ b2 ∧ b2 < 256) (h3 : 0 ≤ b3 ∧ b3 < 256) : w4 b0 b1 b2 b3 = v4 b0 b1 b2 b3 := by
  have s24 : ∀ x, shl .u32 x 24 = IntKind.u32.wrap (x * 16777216) := fun x => rfl
  have s16 : ∀ x, shl .u32 x 16 = IntKind.u32.wrap (x * 65536) := fun x => rfl
  have s8 : ∀ x, shl .u32 x 8 = IntKind.u32.wrap (x * 256) := fun x => rfl
  have s0 : ∀ x, shl .u32 x 0 = IntKind.u32.wrap (x * 1) := fun x => rfl
  have m0 : b0 % 4294967296 = b0 := by omega
  have m1 : b1 % 4294967296 = b1 := by omega
  have m2 : b2 % 4294967296 = b2 := by omega
  have m3 : b3 % 4294967296 = b3 := by omega
  have p0 : shl .u32 b0 24 = b0 * 16777216 := by rw [s24, IntKind.wrap_u32]; omega
  have p1 : shl .u32 b1 16 = b1 * 65536 := by rw [s16, IntKind.wrap_u32]; omega
  have p2 : shl .u32 b2 8 = b2 * 256 := by rw [s8, IntKind.wrap_u32]; omega
  have p3 : shl .u32 b3 0 = b3 := by rw [s0, IntKind.wrap_u32]; omega
  have q0 : Go.bits .or .u32 0 (b0 * 16777216) = b0 * 16777216 := by rw [or_comm32, or_sum 1 (b0 * 16777216) 0 (by omega) (by omega) (by omega) (by omega) (by omega) (by omega), Int.add_zero]
  have q1 : Go.bits .or .u32 (b0 * 16777216) (b1 * 65536) = b0 * 16777216 + b1 * 65536 := or_sum 24 _ _ (by omega) (by omega) (by omega) (by omega) (by omega) (by omega)
  have q2 : Go.bits .or .u32 (b0 * 16777216 + b1 * 65536) (b2 * 256) = b0 * 16777216 + b1 * 65536 + b2 * 256 := or_sum 16 _ _ (by omega) (by omega) (by omega) (by omega) (by omega) (by omega)
  have q3 : Go.bits .or .u32 (b0 * 16777216 + b1 * 65536 + b2 * 256) b3 = b0 * 16777216 + b1 * 65536 + b2 * 256 + b3 := or_sum 8 _ _ (by omega) (by omega) (by omega) (by omega) (by omega) (by omega)
  unfold w4 v4
  rw [m0, m1, m2, m3, p0, p1, p2, p3, q0, q1, q2, q3]
  omega
theorem list64 (l : List Int) (hl : l.length = 64) : l = [l.getD 0 0, l.getD 1 0, l.getD 2 0, l.getD 3 0, l.getD 4 0, l.getD 5 0, l.getD 6 0, l.getD 7 0, l.getD 8 0, l.getD 9 0, l.getD 10 0, l.getD 11 0, l.getD 12 0, l.getD 13 0, l.getD 14 0, l.getD 15 0, l.getD 16 0, l.getD 17 0, l.getD 18 0, l.getD 19 0, l.getD 20 0, l.getD 21 0, l.getD 22 0, l.getD 23 0, l.getD 24 0, l.getD 25 0, l.getD 26 0, l.getD 27 0, l.getD 28 0, l.getD 29 0, l.getD 30 0, l.getD 31 0, l.getD 32 0, l.getD 33 0, l.getD 34 0, l.getD 35 0, l.getD 36 0, l.getD 37 0, l.getD 38 0, l.getD 39 0, l.getD 40 0, l.getD 41 0, l.getD 42 0, l.getD 43 0, l.getD 44 0, l.getD 45 0, l.getD 46 0, l.getD 47 0, l.getD 48 0, l.getD 49 0, l.getD 50 0, l.getD 51 0, l.getD 52 0, l.getD 53 0, l.getD 54 0, l.getD 55 0, l.getD 56 0, l.getD 57 0, l.getD 58 0, l.getD 59 0, l.getD 60 0, l.getD 61 0, l.getD 62 0, l.getD 63 0] := by
  have h : l = (List.range 64).map (fun i => l.getD i 0) := by
    apply List.ext_getElem
    · simp [hl]
    · intro i h1 h2
      simp [List.getD_eq_getElem?_getD, h1]
  exact h
theorem pack_is (l : List Int) (hl : l.length = 64) : packL l = [w4 (l.getD 0 0) (l.getD 1 0) (l.getD 2 0) (l.getD 3 0), w4 (l.getD 4 0) (l.getD 5 0) (l.getD 6 0) (l.getD 7 0), w4 (l.getD 8 0) (l.getD 9 0) (l.getD 10 0) (l.getD 11 0), w4 (l.getD 12 0) (l.getD 13 0) (l.getD 14 0) (l.getD 15 0), w4 (l.getD 16 0) (l.getD 17 0) (l.getD 18 0) (l.getD 19 0), w4 (l.getD 20 0) (l.getD 21 0) (l.getD 22 0) (l.getD 23 0), w4 (l.getD 24 0) (l.getD 25 0) (l.getD 26 0) (l.getD 27 0), w4 (l.getD 28 0) (l.getD 29 0) (l.getD 30 0) (l.getD 31 0), w4 (l.getD 32 0) (l.getD 33 0) (l.getD 34 0) (l.getD 35 0), w4 (l.getD 36 0) (l.getD 37 0) (l.getD 38 0) (l.getD 39 0), w4 (l.getD 40 0) (l.getD 41 0) (l.getD 42 0) (l.getD 43 0), w4 (l.getD 44 0) (l.getD 45 0) (l.getD 46 0) (l.getD 47 0), w4 (l.getD 48 0) (l.getD 49 0) (l.getD 50 0) (l.getD 51 0), w4 (l.getD 52 0) (l.getD 53 0) (l.getD 54 0) (l.getD 55 0), w4 (l.getD 56 0) (l.getD 57 0) (l.getD 58 0) (l.getD 59 0), w4 (l.getD 60 0) (l.getD 61 0) (l.getD 62 0) (l.getD 63 0)] := by
  have e := (congrArg (word_Pack.f 65) (list64 l hl)).trans (pack_lit (l.getD 0 0) (l.getD 1 0) (l.getD 2 0) (l.getD 3 0) (l.getD 4 0) (l.getD 5 0) (l.getD 6 0) (l.getD 7 0) (l.getD 8 0) (l.getD 9 0) (l.getD 10 0) (l.getD 11 0) (l.getD 12 0) (l.getD 13 0) (l.getD 14 0) (l.getD 15 0) (l.getD 16 0) (l.getD 17 0) (l.getD 18 0) (l.getD 19 0) (l.getD 20 0) (l.getD 21 0) (l.getD 22 0) (l.getD 23 0) (l.getD 24 0) (l.getD 25 0) (l.getD 26 0) (l.getD 27 0) (l.getD 28 0) (l.getD 29 0) (l.getD 30 0) (l.getD 31 0) (l.getD 32 0) (l.getD 33 0) (l.getD 34 0) (l.getD 35 0) (l.getD 36 0) (l.getD 37 0) (l.getD 38 0) (l.getD 39 0) (l.getD 40 0) (l.getD 41 0) (l.getD 42 0) (l.getD 43 0) (l.getD 44 0) (l.getD 45 0) (l.getD 46 0) (l.getD 47 0) (l.getD 48 0) (l.getD 49 0) (l.getD 50 0) (l.getD 51 0) (l.getD 52 0) (l.getD 53 0) (l.getD 54 0) (l.getD 55 0) (l.getD 56 0) (l.getD 57 0) (l.getD 58 0) (l.getD 59 0) (l.getD 60 0) (l.getD 61 0) (l.getD 62 0) (l.getD 63 0))
  unfold packL
  rw [e]; rfl
theorem pack1_is (l : List Int) (hl : l.length = 64) (hb : ∀ x ∈ l, 0 ≤ x ∧ x < 256) : instarref01_Pack.f 200 l = some (packL l) := by
  have e := (congrArg (instarref01_Pack.f 200) (list64 l hl)).trans (pack1_lit (l.getD 0 0) (l.getD 1 0) (l.getD 2 0) (l.getD 3 0) (l.getD 4 0) (l.getD 5 0) (l.getD 6 0) (l.getD 7 0) (l.getD 8 0) (l.getD 9 0) (l.getD 10 0) (l.getD 11 0) (l.getD 12 0) (l.getD 13 0) (l.getD 14 0) (l.getD 15 0) (l.getD 16 0) (l.getD 17 0) (l.getD 18 0) (l.getD 19 0) (l.getD 20 0) (l.getD 21 0) (l.getD 22 0) (l.getD 23 0) (l.getD 24 0) (l.getD 25 0) (l.getD 26 0) (l.getD 27 0) (l.getD 28 0) (l.getD 29 0) (l.getD 30 0) (l.getD 31 0) (l.getD 32 0) (l.getD 33 0) (l.getD 34 0) (l.getD 35 0) (l.getD 36 0) (l.getD 37 0) (l.getD 38 0) (l.getD 39 0) (l.getD 40 0) (l.getD 41 0) (l.getD 42 0) (l.getD 43 0) (l.getD 44 0) (l.getD 45 0) (l.getD 46 0) (l.getD 47 0) (l.getD 48 0) (l.getD 49 0) (l.getD 50 0) (l.getD 51 0) (l.getD 52 0) (l.getD 53 0) (l.getD 54 0) (l.getD 55 0) (l.getD 56 0) (l.getD 57 0) (l.getD 58 0) (l.getD 59 0) (l.getD 60 0) (l.getD 61 0) (l.getD 62 0) (l.getD 63 0))
  have h : ∀ i, 0 ≤ l.getD i 0 ∧ l.getD i 0 < 256 := by
    intro i
    by_cases hi : i < l.length
    · rw [show l.getD i 0 = l[i] by simp [List.getD_eq_getElem?_getD, hi]]
      exact hb _ (List.getElem_mem hi)
    · rw [show l.getD i 0 = 0 by simp [List.getD_eq_getElem?_getD, hi]]
      omega
  have e0 := w4_eq (l.getD 0 0) (l.getD 1 0) (l.getD 2 0) (l.getD 3 0) (h 0) (h 1) (h 2) (h 3)
  have e1 := w4_eq (l.getD 4 0) (l.getD 5 0) (l.getD 6 0) (l.getD 7 0) (h 4) (h 5) (h 6) (h 7)
  have e2 := w4_eq (l.getD 8 0) (l.getD 9 0) (l.getD 10 0) (l.getD 11 0) (h 8) (h 9) (h 10) (h 11)
  have e3 := w4_eq (l.getD 12 0) (l.getD 13 0) (l.getD 14 0) (l.getD 15 0) (h 12) (h 13) (h 14) (h 15)
  have e4 := w4_eq (l.getD 16 0) (l.getD 17 0) (l.getD 18 0) (l.getD 19 0) (h 16) (h 17) (h 18) (h 19)
  have e5 := w4_eq (l.getD 20 0) (l.getD 21 0) (l.getD 22 0) (l.getD 23 0) (h 20) (h 21) (h 22) (h 23)
  have e6 := w4_eq (l.getD 24 0) (l.getD 25 0) (l.getD 26 0) (l.getD 27 0) (h 24) (h 25) (h 26) (h 27)
  have e7 := w4_eq (l.getD 28 0) (l.getD 29 0) (l.getD 30 0) (l.getD 31 0) (h 28) (h 29) (h 30) (h 31)
  have e8 := w4_eq (l.getD 32 0) (l.getD 33 0) (l.getD 34 0) (l.getD 35 0) (h 32) (h 33) (h 34) (h 35)
  have e9 := w4_eq (l.getD 36 0) (l.getD 37 0) (l.getD 38 0) (l.getD 39 0) (h 36) (h 37) (h 38) (h 39)
  have e10 := w4_eq (l.getD 40 0) (l.getD 41 0) (l.getD 42 0) (l.getD 43 0) (h 40) (h 41) (h 42) (h 43)
  have e11 := w4_eq (l.getD 44 0) (l.getD 45 0) (l.getD 46 0) (l.getD 47 0) (h 44) (h 45) (h 46) (h 47)
  have e12 := w4_eq (l.getD 48 0) (l.getD 49 0) (l.getD 50 0) (l.getD 51 0) (h 48) (h 49) (h 50) (h 51)
  have e13 := w4_eq (l.getD 52 0) (l.getD 53 0) (l.getD 54 0) (l.getD 55 0) (h 52) (h 53) (h 54) (h 55)
  have e14 := w4_eq (l.getD 56 0) (l.getD 57 0) (l.getD 58 0) (l.getD 59 0) (h 56) (h 57) (h 58) (h 59)
  have e15 := w4_eq (l.getD 60 0) (l.getD 61 0) (l.getD 62 0) (l.getD 63 0) (h 60) (h 61) (h 62) (h 63)
  rw [pack_is l hl, e0, e1, e2, e3, e4, e5, e6, e7, e8, e9, e10, e11, e12, e13, e14, e15]
  exact e

end Go.Proofs.YtfjglhhandjahaaDoor.Sha
