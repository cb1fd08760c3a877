/- Lemmas that the claim's theorem uses. -/
import Derived.Test.YtiddiboclfpklaaDoorRdD
import Derived.Lib.Bytealg
import Derived.Lib.Index
import Derived.Lib.IndexBytes
namespace Go.Proofs.YtiddiboclfpklaaDoor.PTextsNums
open Go.RowKit Go.Proofs.YtiddiboclfpklaaDoorW.PrintWords Go.Proofs.YtiddiboclfpklaaDoorW.PrintLast Go.Proofs.YtiddiboclfpklaaDoorW.PrintMore
attribute [local go_sem] min2_int min_two
set_option linter.unusedVariables false
set_option linter.unusedSimpArgs false
mutual
def instarref04_Read.j0 : Nat → ByteArray → ByteArray → Bool → Option (Int × Int)
 | 0, _, _, _ => none
 | k + 1, x0, x4, x16 => if x16 = true then (if 1 ≤ (x4.size : Int) then (instarref04_Read.j1 k x0 (x4.extract 1 x4.size)) else (none)) else (instarref04_Read.j1 k x0 x4)
def instarref04_Read.j1 : Nat → ByteArray → ByteArray → Option (Int × Int)
 | 0, _, _ => none
 | k + 1, x0, x4 => if (x4.size : Int) < 1 then (instarref04_Read.j2 k x0 x4 true) else (instarref04_Read.j2 k x0 x4 (decide ((x4.size : Int) > 19)))
def instarref04_Read.j2 : Nat → ByteArray → ByteArray → Bool → Option (Int × Int)
 | 0, _, _, _ => none
 | k + 1, x0, x4, x26 => if x26 = true then (some (0, 4)) else (instarref04_Read.l0 k x0 x4 0 0)
def instarref04_Read.l0 : Nat → ByteArray → ByteArray → Int → Int → Option (Int × Int)
 | 0, _, _, _, _ => none
 | k + 1, x0, x4, x5, x6 => if x6 < (x4.size : Int) then (if 0 ≤ x6 then (if (wrap64 ((wrap64 (bt x4 x6)) - 48)) < 0 then (instarref04_Read.j4 k x0 x4 x5 x6 (wrap64 ((wrap64 (bt x4 x6)) - 48)) true) else (instarref04_Read.j4 k x0 x4 x5 x6 (wrap64 ((wrap64 (bt x4 x6)) - 48)) (decide ((wrap64 ((wrap64 (bt x4 x6)) - 48)) > 9)))) else (none)) else ((instarref04_Dec.f k x5).bind fun t124 => (if t124.toList = x0.toList then (some (x5, 0)) else (some (0, 4))))
def instarref04_Read.j4 : Nat → ByteArray → ByteArray → Int → Int → Int → Bool → Option (Int × Int)
 | 0, _, _, _, _, _, _ => none
 | k + 1, x0, x4, x5, x6, x7, x43 => if x43 = true then (some (0, 4)) else (if (x4.size : Int) < (x0.size : Int) then (instarref04_Read.l0 k x0 x4 (wrap64 ((wrap64 (10 * x5)) - x7)) (wrap64 (x6 + 1))) else (instarref04_Read.l0 k x0 x4 (wrap64 ((wrap64 (10 * x5)) + x7)) (wrap64 (x6 + 1))))
end
def instarref04_Read.f (k : Nat) (a0 : ByteArray) : Option (Int × Int) := if (a0.size : Int) > 0 then (if 0 < (a0.size : Int) then (instarref04_Read.j0 k a0 a0 ((bt a0 0) == 45)) else (none)) else (instarref04_Read.j0 k a0 a0 false)
set_option maxHeartbeats 8000000 in
set_option maxRecDepth 100000 in
theorem instarref04_Read.calls (k : Nat) (a0 : ByteArray) (r1 : Int) (r2 : Int) (w : World) (h : instarref04_Read.f k a0 = some (r1, r2)) :
  Calls Tryd.prog 11 #[.string a0] w fun e w' => e = .returned (.tuple #[.int .i64 r1, .int .i64 r2]) ∧ Below w.heap.size w w' := by
 have HB := Aside0.mk (Below.refl w.heap.size w)
 have H : (if (a0.size : Int) > 0 then (if 0 < (a0.size : Int) then (instarref04_Read.j0 k a0 a0 ((bt a0 0) == 45)) else (none)) else (instarref04_Read.j0 k a0 a0 false)) = some (r1, r2) := h
 clear h
 have HC2 := Aside0.mk H
 clear H
 go_enter Tryd.func11, Tryd.ntmps11
 go_upto_region 2 with (fail)
 go_cut [16] (fun v16 wc => ∃ (kq : Nat) (x16_1 : Bool), v16 = .bool x16_1 ∧ Aside0 (instarref04_Read.j0 kq a0 a0 x16_1 = some (r1, r2)) ∧ Aside0 (kq ≤ k) ∧ Aside0 (Below w.heap.size w wc))
 case first =>
  have H := HC2.out
  clear HC2
  by_cases c3 : (a0.size : Int) > 0
  ·rw [if_pos c3] at H
   have c3b0 : decide (0 < (a0.size : Int)) = true := decide_eq_true c3
   have c3b1 : decide (0 < a0.size) = true := decide_eq_true (by omega)
   clear c3
   (first | rw [c3b0] | (simp only [i64_w, i32_w]; rw [c3b0]) | skip)
   by_cases c4 : 0 < (a0.size : Int)
   ·rw [if_pos c4] at H
    have c4b0 : decide (0 < (a0.size : Int)) = true := decide_eq_true c4
    have c4b1 : decide (0 < a0.size) = true := decide_eq_true (by omega)
    clear c4
    have H' := Aside0.mk H
    clear H
    have p5 : 0 ≤ (0 : Int) := (by omega)
    have q5 : 0 < a0.size := (by have : (0 : Int) < (a0.size : Int) := of_decide_eq_true (by first | (with_reducible assumption) | assumption); omega)
    have hx5 : ∀ h : 0 < a0.size, ((a0[0]'h).toNat : Int) = bt a0 0 := bt_at a0 0
    clear p5
    have qi5 : (0 < (a0.size : Int)) = True := eq_true (of_decide_eq_true (by first | (with_reducible assumption) | assumption))
    replace q5 := eq_true q5
    go_wp2
    go_meet
    case rel => exact ⟨_, (((bt a0 0) == 45)), (by first | rfl | (simp; done) | (simp [*]; done)), H', ⟨by first | omega | exact Nat.le_refl _⟩, ⟨by repeat (first | (with_reducible first | exact HB.out | apply below_alloc | apply pw_below_drewN | apply below_drew1) | exact HB.out)⟩⟩
   ·rw [if_neg c4] at H
    exact absurd H (by simp)
  ·rw [if_neg c3] at H
   have c3b0 : decide (0 < (a0.size : Int)) = false := decide_eq_false c3
   have c3b1 : decide (0 < a0.size) = false := decide_eq_false (by omega)
   clear c3
   (first | rw [c3b0] | (simp only [i64_w, i32_w]; rw [c3b0]) | skip)
   have H' := Aside0.mk H
   clear H
   go_wp2
   go_meet
   case rel => exact ⟨_, (false), (by first | rfl | (simp; done) | (simp [*]; done)), H', ⟨by first | omega | exact Nat.le_refl _⟩, ⟨by repeat (first | (with_reducible first | exact HB.out | apply below_alloc | apply pw_below_drewN | apply below_drew1) | exact HB.out)⟩⟩
 case rest =>
  clear HC2
  try clear c1
  try clear p2
  try clear c3
  try clear c3b0
  try clear c3b1
  try clear c4
  try clear c4b0
  try clear c4b1
  try clear p5
  try clear q5
  try clear hx5
  try clear qi5
  try clear p5
  try clear q5
  obtain ⟨kq, x16_1, rfl, HA, HJ1, HB⟩ := hcut
  cases kq with
  | zero => exact absurd HA.out (by simp [instarref04_Read.j0])
  | succ kj1 =>
   have H := HA.out
   clear HA
   simp only [instarref04_Read.j0] at H
   have HC6 := Aside0.mk H
   clear H
   go_upto_if 16 with (fail)
   go_cut [4] (fun v4 wc => ∃ (kq : Nat) (x4_5 : ByteArray), v4 = .string x4_5 ∧ Aside0 (instarref04_Read.j1 kq a0 x4_5 = some (r1, r2)) ∧ Aside0 (kq ≤ kj1) ∧ Aside0 (Below w.heap.size w wc))
   case first =>
    have H := HC6.out
    clear HC6
    by_cases c7 : x16_1 = true
    ·subst c7
     have H1 : (if 1 ≤ (a0.size : Int) then (instarref04_Read.j1 kj1 a0 (a0.extract 1 a0.size)) else (none)) = some (r1, r2) := by rw [if_pos rfl] at H; exact H
     clear H
     have H := H1
     clear H1
     by_cases c8 : 1 ≤ (a0.size : Int)
     ·rw [if_pos c8] at H
      have c8b0 := eq_true c8
      have c8b1 : decide (1 ≤ (a0.size : Int)) = true := decide_eq_true c8
      clear c8
      have H' := Aside0.mk H
      clear H
      go_wp2
      go_meet
      case rel => exact ⟨_, (a0.extract 1 a0.size), (by first | rfl | (simp; done) | (simp [*]; done)), H', ⟨by have := HJ1.out; first | omega | exact Nat.le_refl _⟩, ⟨by repeat (first | (with_reducible first | exact HB.out | apply below_alloc | apply pw_below_drewN | apply below_drew1) | exact HB.out)⟩⟩
     ·rw [if_neg c8] at H
      exact absurd H (by simp)
    ·replace c7 := Bool.eq_false_iff.mpr c7
     subst c7
     have H1 : (instarref04_Read.j1 kj1 a0 a0) = some (r1, r2) := by rw [if_neg (show ¬ (false = true) by decide)] at H; exact H
     clear H
     have H := H1
     clear H1
     have H' := Aside0.mk H
     clear H
     go_wp2
     go_meet
     case rel => exact ⟨_, (a0), (by first | rfl | (simp; done) | (simp [*]; done)), H', ⟨by have := HJ1.out; first | omega | exact Nat.le_refl _⟩, ⟨by repeat (first | (with_reducible first | exact HB.out | apply below_alloc | apply pw_below_drewN | apply below_drew1) | exact HB.out)⟩⟩
   case rest =>
    clear HC6
    try clear c1
    try clear p2
    try clear c3
    try clear c3b0
    try clear c3b1
    try clear c4
    try clear c4b0
    try clear c4b1
    try clear p5
    try clear q5
    try clear hx5
    try clear qi5
    try clear c7
    try clear c8
    try clear c8b0
    try clear c8b1
    try clear p2
    try clear p5
    try clear q5
    obtain ⟨kq, x4_5, rfl, HA, HJ5, HB⟩ := hcut
    cases kq with
    | zero => exact absurd HA.out (by simp [instarref04_Read.j1])
    | succ kj5 =>
     have H := HA.out
     clear HA
     simp only [instarref04_Read.j1] at H
     have HC9 := Aside0.mk H
     clear H
     go_upto_region 4 with (fail)
     go_cut [26] (fun v26 wc => ∃ (kq : Nat) (x26_8 : Bool), v26 = .bool x26_8 ∧ Aside0 (instarref04_Read.j2 kq a0 x4_5 x26_8 = some (r1, r2)) ∧ Aside0 (kq ≤ kj5) ∧ Aside0 (Below w.heap.size w wc))
     case first =>
      have H := HC9.out
      clear HC9
      by_cases c10 : (x4_5.size : Int) < 1
      ·rw [if_pos c10] at H
       have c10b0 : decide ((x4_5.size : Int) < 1) = true := decide_eq_true c10
       have c10b1 : decide (x4_5.size < 1) = true := decide_eq_true (by omega)
       clear c10
       (first | rw [c10b0] | (simp only [i64_w, i32_w]; rw [c10b0]) | skip)
       have H' := Aside0.mk H
       clear H
       go_wp2
       go_meet
       case rel => exact ⟨_, (true), (by first | rfl | (simp; done) | (simp [*]; done)), H', ⟨by have := HJ1.out; have := HJ5.out; first | omega | exact Nat.le_refl _⟩, ⟨by repeat (first | (with_reducible first | exact HB.out | apply below_alloc | apply pw_below_drewN | apply below_drew1) | exact HB.out)⟩⟩
      ·rw [if_neg c10] at H
       have c10b0 : decide ((x4_5.size : Int) < 1) = false := decide_eq_false c10
       have c10b1 : decide (x4_5.size < 1) = false := decide_eq_false (by omega)
       clear c10
       (first | rw [c10b0] | (simp only [i64_w, i32_w]; rw [c10b0]) | skip)
       have H' := Aside0.mk H
       clear H
       go_wp2
       go_meet
       case rel => exact ⟨_, (decide ((x4_5.size : Int) > 19)), (by first | rfl | (simp; done) | (simp [*]; done)), H', ⟨by have := HJ1.out; have := HJ5.out; first | omega | exact Nat.le_refl _⟩, ⟨by repeat (first | (with_reducible first | exact HB.out | apply below_alloc | apply pw_below_drewN | apply below_drew1) | exact HB.out)⟩⟩
     case rest =>
      clear HC9
      try clear c1
      try clear p2
      try clear c3
      try clear c3b0
      try clear c3b1
      try clear c4
      try clear c4b0
      try clear c4b1
      try clear p5
      try clear q5
      try clear hx5
      try clear qi5
      try clear c7
      try clear c8
      try clear c8b0
      try clear c8b1
      try clear c10
      try clear c10b0
      try clear c10b1
      try clear p2
      try clear p5
      try clear q5
      obtain ⟨kq, x26_8, rfl, HA, HJ8, HB⟩ := hcut
      cases kq with
      | zero => exact absurd HA.out (by simp [instarref04_Read.j2])
      | succ kj8 =>
       have H := HA.out
       clear HA
       simp only [instarref04_Read.j2] at H
       by_cases c11 : x26_8 = true
       ·subst c11
        have H1 : (some (0, 4)) = some (r1, r2) := by rw [if_pos rfl] at H; exact H
        clear H
        have H := H1
        clear H1
        simp only [Option.some.injEq, Prod.mk.injEq] at H
        obtain ⟨rfl, rfl⟩ := H
        go_wp2
        go_ret2
        exact ⟨by first | rfl | (simp [errW_none, errW_some] <;> rfl) | (simp [*, errW_none, errW_some] <;> rfl), by repeat (first | (with_reducible first | exact HB.out | apply below_alloc | apply pw_below_drewN | apply below_drew1) | exact HB.out)⟩
       ·replace c11 := Bool.eq_false_iff.mpr c11
        subst c11
        have H1 : (instarref04_Read.l0 kj8 a0 x4_5 0 0) = some (r1, r2) := by rw [if_neg (show ¬ (false = true) by decide)] at H; exact H
        clear H
        have H := H1
        clear H1
        have H' := Aside0.mk H
        clear H
        go_wp2
        go_loopg [5, 6] kj8 (fun kq v5 v6 w' => ∃ (x5_4 : Int) (x6_4 : Int), v5 = .int .i64 x5_4 ∧ v6 = .int .i64 x6_4 ∧ Aside0 (instarref04_Read.l0 kq a0 x4_5 x5_4 x6_4 = some (r1, r2)) ∧ Aside0 (kq ≤ kj8) ∧ Aside0 (Below w.heap.size w w'))
        case atStart => exact ⟨(0), (0), (by first | rfl | (simp; done) | (simp [*]; done)), (by first | rfl | (simp; done) | (simp [*]; done)), H', ⟨Nat.le_refl _⟩, ⟨by repeat (first | (with_reducible first | exact HB.out | apply below_alloc | apply pw_below_drewN | apply below_drew1) | exact HB.out)⟩⟩
        case round =>
         clear H'
         try clear c1
         try clear p2
         try clear c3
         try clear c3b0
         try clear c3b1
         try clear c4
         try clear c4b0
         try clear c4b1
         try clear p5
         try clear q5
         try clear hx5
         try clear qi5
         try clear c7
         try clear c8
         try clear c8b0
         try clear c8b1
         try clear c10
         try clear c10b0
         try clear c10b1
         try clear c11
         try clear p2
         try clear p5
         try clear q5
         obtain ⟨x5_4, x6_4, rfl, rfl, HA, HK4, HB⟩ := hrel
         cases gk with
         | zero => exact absurd HA.out (by simp [instarref04_Read.l0])
         | succ k4 =>
          have H := HA.out
          clear HA
          simp only [instarref04_Read.l0] at H
          by_cases c12 : x6_4 < (x4_5.size : Int)
          ·rw [if_pos c12] at H
           have c12b0 : decide (x6_4 < (x4_5.size : Int)) = true := decide_eq_true c12
           clear c12
           by_cases c13 : 0 ≤ x6_4
           ·rw [if_pos c13] at H
            have c13b0 : decide (0 ≤ x6_4) = true := decide_eq_true c13
            clear c13
            have HC15 := Aside0.mk H
            clear H
            have p14 : 0 ≤ (x6_4 : Int) := of_decide_eq_true (by first | (with_reducible assumption) | assumption)
            have q14 : x6_4 < (x4_5.size : Int) := of_decide_eq_true (by first | (with_reducible assumption) | assumption)
            have hx14 := bt_at x4_5 x6_4
            replace p14 := eq_true p14
            replace q14 := eq_true q14
            go_upto_region 11 with (fail)
            go_cut [43] (fun v43 wc => ∃ (kq : Nat) (x43_14 : Bool), v43 = .bool x43_14 ∧ Aside0 (instarref04_Read.j4 kq a0 x4_5 x5_4 x6_4 (wrap64 ((wrap64 (bt x4_5 x6_4)) - 48)) x43_14 = some (r1, r2)) ∧ Aside0 (kq ≤ k4) ∧ Aside0 (Below w.heap.size w wc))
            case first =>
             have H := HC15.out
             clear HC15
             by_cases c16 : (wrap64 ((wrap64 (bt x4_5 x6_4)) - 48)) < 0
             ·rw [if_pos c16] at H
              have c16b0 : decide ((wrap64 ((wrap64 (bt x4_5 x6_4)) - 48)) < 0) = true := decide_eq_true c16
              clear c16
              (first | rw [c16b0] | (simp only [i64_w, i32_w]; rw [c16b0]) | skip)
              have H' := Aside0.mk H
              clear H
              go_wp2
              go_meet
              case rel => exact ⟨_, (true), (by first | rfl | (simp; done) | (simp [*]; done)), H', ⟨by have := HJ1.out; have := HJ5.out; have := HJ8.out; have := HK4.out; first | omega | exact Nat.le_refl _⟩, ⟨by repeat (first | (with_reducible first | exact HB.out | apply below_alloc | apply pw_below_drewN | apply below_drew1) | exact HB.out)⟩⟩
             ·rw [if_neg c16] at H
              have c16b0 : decide ((wrap64 ((wrap64 (bt x4_5 x6_4)) - 48)) < 0) = false := decide_eq_false c16
              clear c16
              (first | rw [c16b0] | (simp only [i64_w, i32_w]; rw [c16b0]) | skip)
              have H' := Aside0.mk H
              clear H
              go_wp2
              go_meet
              case rel => exact ⟨_, (decide ((wrap64 ((wrap64 (bt x4_5 x6_4)) - 48)) > 9)), (by first | rfl | (simp; done) | (simp [*]; done)), H', ⟨by have := HJ1.out; have := HJ5.out; have := HJ8.out; have := HK4.out; first | omega | exact Nat.le_refl _⟩, ⟨by repeat (first | (with_reducible first | exact HB.out | apply below_alloc | apply pw_below_drewN | apply below_drew1) | exact HB.out)⟩⟩
            case rest =>
             clear HC15
             try clear c1
             try clear p1
             try clear q1
             try clear hx1
             try clear p2
             try clear c3
             try clear c3b0
             try clear c3b1
             try clear c4
             try clear c4b0
             try clear c4b1
             try clear p5
             try clear q5
             try clear hx5
             try clear qi5
             try clear p6
             try clear c7
             try clear c8
             try clear c8b0
             try clear c8b1
             try clear c10
             try clear c10b0
             try clear c10b1
             try clear c11
             try clear c12
             try clear c12b0
             try clear c13
             try clear c13b0
             try clear p14
             try clear q14
             try clear hx14
             try clear c16
             try clear c16b0
             try clear p14
             try clear p2
             try clear p5
             try clear q14
             try clear q5
             obtain ⟨kq, x43_14, rfl, HA, HJ14, HB⟩ := hcut
             cases kq with
             | zero => exact absurd HA.out (by simp [instarref04_Read.j4])
             | succ kj14 =>
              have H := HA.out
              clear HA
              simp only [instarref04_Read.j4] at H
              by_cases c17 : x43_14 = true
              ·subst c17
               have H1 : (some (0, 4)) = some (r1, r2) := by rw [if_pos rfl] at H; exact H
               clear H
               have H := H1
               clear H1
               simp only [Option.some.injEq, Prod.mk.injEq] at H
               obtain ⟨rfl, rfl⟩ := H
               go_wp2
               go_ret2
               exact ⟨by first | rfl | (simp [errW_none, errW_some] <;> rfl) | (simp [*, errW_none, errW_some] <;> rfl), by repeat (first | (with_reducible first | exact HB.out | apply below_alloc | apply pw_below_drewN | apply below_drew1) | exact HB.out)⟩
              ·replace c17 := Bool.eq_false_iff.mpr c17
               subst c17
               have H1 : (if (x4_5.size : Int) < (a0.size : Int) then (instarref04_Read.l0 kj14 a0 x4_5 (wrap64 ((wrap64 (10 * x5_4)) - (wrap64 ((wrap64 (bt x4_5 x6_4)) - 48)))) (wrap64 (x6_4 + 1))) else (instarref04_Read.l0 kj14 a0 x4_5 (wrap64 ((wrap64 (10 * x5_4)) + (wrap64 ((wrap64 (bt x4_5 x6_4)) - 48)))) (wrap64 (x6_4 + 1)))) = some (r1, r2) := by rw [if_neg (show ¬ (false = true) by decide)] at H; exact H
               clear H
               have H := H1
               clear H1
               by_cases c18 : (x4_5.size : Int) < (a0.size : Int)
               ·rw [if_pos c18] at H
                have c18b0 : decide ((x4_5.size : Int) < (a0.size : Int)) = true := decide_eq_true c18
                have c18b1 : decide (x4_5.size < a0.size) = true := decide_eq_true (Int.ofNat_lt.mp c18)
                clear c18
                have H' := Aside0.mk H
                clear H
                go_wp2
                go_roundg kj14
                case measure => have := HJ1.out; have := HJ5.out; have := HJ8.out; have := HK4.out; have := HJ14.out; omega
                case rel => exact ⟨(wrap64 ((wrap64 (10 * x5_4)) - (wrap64 ((wrap64 (bt x4_5 x6_4)) - 48)))), (wrap64 (x6_4 + 1)), (by first | rfl | (simp; done) | (simp [*]; done)), (by first | rfl | (simp; done) | (simp [*]; done)), H', ⟨by have := HJ1.out; have := HJ5.out; have := HJ8.out; have := HK4.out; have := HJ14.out; omega⟩, ⟨by repeat (first | (with_reducible first | exact HB.out | apply below_alloc | apply pw_below_drewN | apply below_drew1) | exact HB.out)⟩⟩
               ·rw [if_neg c18] at H
                have c18b0 : decide ((x4_5.size : Int) < (a0.size : Int)) = false := decide_eq_false c18
                have c18b1 : decide (x4_5.size < a0.size) = false := decide_eq_false (fun h => c18 (Int.ofNat_lt.mpr h))
                clear c18
                have H' := Aside0.mk H
                clear H
                go_wp2
                go_roundg kj14
                case measure => have := HJ1.out; have := HJ5.out; have := HJ8.out; have := HK4.out; have := HJ14.out; omega
                case rel => exact ⟨(wrap64 ((wrap64 (10 * x5_4)) + (wrap64 ((wrap64 (bt x4_5 x6_4)) - 48)))), (wrap64 (x6_4 + 1)), (by first | rfl | (simp; done) | (simp [*]; done)), (by first | rfl | (simp; done) | (simp [*]; done)), H', ⟨by have := HJ1.out; have := HJ5.out; have := HJ8.out; have := HK4.out; have := HJ14.out; omega⟩, ⟨by repeat (first | (with_reducible first | exact HB.out | apply below_alloc | apply pw_below_drewN | apply below_drew1) | exact HB.out)⟩⟩
           ·rw [if_neg c13] at H
            exact absurd H (by simp)
          ·rw [if_neg c12] at H
           have c12b0 : decide (x6_4 < (x4_5.size : Int)) = false := decide_eq_false c12
           clear c12
           replace H := Option.bind_eq_some_iff.mp H
           obtain ⟨t124, A190, H⟩ := H
           replace H : (if t124.toList = a0.toList then (some (x5_4, 0)) else (some (0, 4))) = some (r1, r2) := H
           have A19 := Aside0.mk A190
           clear A190
           by_cases c20 : t124.toList = a0.toList
           ·rw [if_pos c20] at H
            have c20b0 : (t124.toList == a0.toList) = true := beq_iff_eq.mpr c20
            have c20b1 : (t124.toList != a0.toList) = false := bne_eq_false_iff_eq.mpr c20
            clear c20
            simp only [Option.some.injEq, Prod.mk.injEq] at H
            obtain ⟨rfl, rfl⟩ := H
            go_wp2_with (first | ((with_reducible refine gate_callee (f := 13) rfl ?_); refine goesL_ (some 58) rfl rfl Tryd.func13 (by kernel_rfl) rfl #[.int .i64 x5_4] rfl (by (try simp only [List.map_toArray, List.map_cons, List.map_nil]); first | done | rfl | (simp only [List.length_drop, List.length_take]; rfl)) ?_; (with_reducible refine (instarref04_Dec.calls k4 x5_4 t124 _ A19.out).mono ?_); rintro e w21 ⟨rfl, hb⟩; refine ⟨_, rfl, ?_⟩; have n0_ := Aside0.mk (below_step (by repeat (first | (with_reducible first | exact HB.out | apply below_alloc | apply pw_below_drewN | apply below_drew1) | exact HB.out)) hb); clear HB; have HB := n0_; clear n0_; (try clear hb); (try clear hb2); (try clear hk); (try clear hi)))
            go_ret2
            exact ⟨by first | rfl | (simp [errW_none, errW_some] <;> rfl) | (simp [*, errW_none, errW_some] <;> rfl), by repeat (first | (with_reducible first | exact HB.out | apply below_alloc | apply pw_below_drewN | apply below_drew1) | exact HB.out)⟩
           ·rw [if_neg c20] at H
            have c20b0 : (t124.toList == a0.toList) = false := beq_eq_false_iff_ne.mpr c20
            have c20b1 : (t124.toList != a0.toList) = true := bne_iff_ne.mpr c20
            simp only [Option.some.injEq, Prod.mk.injEq] at H
            obtain ⟨rfl, rfl⟩ := H
            go_wp2_with (first | ((with_reducible refine gate_callee (f := 13) rfl ?_); refine goesL_ (some 58) rfl rfl Tryd.func13 (by kernel_rfl) rfl #[.int .i64 x5_4] rfl (by (try simp only [List.map_toArray, List.map_cons, List.map_nil]); first | done | rfl | (simp only [List.length_drop, List.length_take]; rfl)) ?_; (with_reducible refine (instarref04_Dec.calls k4 x5_4 t124 _ A19.out).mono ?_); rintro e w22 ⟨rfl, hb⟩; refine ⟨_, rfl, ?_⟩; have n0_ := Aside0.mk (below_step (by repeat (first | (with_reducible first | exact HB.out | apply below_alloc | apply pw_below_drewN | apply below_drew1) | exact HB.out)) hb); clear HB; have HB := n0_; clear n0_; (try clear hb); (try clear hb2); (try clear hk); (try clear hi)))
            go_ret2
            exact ⟨by first | rfl | (simp [errW_none, errW_some] <;> rfl) | (simp [*, errW_none, errW_some] <;> rfl), by repeat (first | (with_reducible first | exact HB.out | apply below_alloc | apply pw_below_drewN | apply below_drew1) | exact HB.out)⟩
def texts_figure.f (a0 : Int) : Option (Int) := if a0 < 10 then (some ((48 + a0) % 256)) else (some ((((97 + a0) % 256) - 10) % 256))
set_option maxHeartbeats 8000000 in
set_option maxRecDepth 100000 in
theorem texts_figure.calls (a0 : Int) (r : Int) (w : World) (h : texts_figure.f a0 = some r) :
  Calls Tryd.prog 42 #[.int .u8 a0] w fun e w' => e = .returned (.int .u8 r) ∧ Drawn0 w w' := by
 have H : (if a0 < 10 then (some ((48 + a0) % 256)) else (some ((((97 + a0) % 256) - 10) % 256))) = some r := h
 clear h
 by_cases c2 : a0 < 10
 ·rw [if_pos c2] at H
  have c2b0 : decide (a0 < 10) = true := decide_eq_true c2
  clear c2
  obtain rfl := Option.some.inj H
  go_enter Tryd.func42, Tryd.ntmps42
  go_wp2
  go_ret
  exact ⟨by first | rfl | (simp; done) | (simp [*]; done), by repeat (first | exact Drawn0.refl _ | apply Drawn0.step)⟩
 ·rw [if_neg c2] at H
  have c2b0 : decide (a0 < 10) = false := decide_eq_false c2
  clear c2
  obtain rfl := Option.some.inj H
  go_enter Tryd.func42, Tryd.ntmps42
  go_wp2
  go_ret
  exact ⟨by first | rfl | (simp; done) | (simp [*]; done), by repeat (first | exact Drawn0.refl _ | apply Drawn0.step)⟩
end Go.Proofs.YtiddiboclfpklaaDoor.PTextsNums
namespace Go.Proofs.YtiddiboclfpklaaDoor.Tx
open Go.RowKit Go.Proofs.YtiddiboclfpklaaDoorW.PrintWords
set_option linter.unusedVariables false
set_option maxHeartbeats 1000000 in
set_option maxRecDepth 100000 in
theorem indexByte_calls (s : ByteArray) (c : Int) (w : World) :
  Calls Tryd.prog 94 #[.string s, .int .u8 c] w fun e w' => e = .returned (.int .i64 (Lib.indexByte s.data.toList c.toNat.toUInt8)) ∧ w' = w := by
 go_enter Tryd.func94, Tryd.ntmps94
 go_wp2_with fail
 rw [run_callFunc_extern Tryd.func100 (by kernel_rfl) (by kernel_rfl) (by kernel_rfl) (e := Extern.BytealgIndexByte.indexByte) (by kernel_rfl), Lib.run_indexByteString]
 simp only [Result.andThen]
 rw [Oper.upon_value]
 go_wp2_with fail
 go_ret
 exact ⟨rfl, rfl⟩
set_option maxHeartbeats 1000000 in
set_option maxRecDepth 100000 in
theorem index_calls (s : ByteArray) (c : UInt8) (w : World) :
  Calls Tryd.prog 89 #[.string s, .string ⟨#[c]⟩] w fun e w' => e = .returned (.int .i64 (Lib.indexByte s.data.toList c)) ∧ w' = w := by
 go_enter Tryd.func89, Tryd.ntmps89
 go_wp2_with ((go_at_call 94; refine (indexByte_calls _ _ _).mono ?_; rintro e w' ⟨rfl, rfl⟩))
 ·have h : ([c] == s.toList) = true := by assumption
  go_ret
  refine ⟨?_, rfl⟩
  have e : s.data.toList = [c] := by rw [← Lib.toList_data]; exact (beq_iff_eq.1 h).symm
  rw [e]
  simp [Lib.indexByte]
 ·go_ret
  exact ⟨rfl, rfl⟩
set_option maxHeartbeats 1000000 in
theorem strings_index_calls (s : ByteArray) (c : UInt8) (w : World) :
  Calls Tryd.prog 86 #[.string s, .string ⟨#[c]⟩] w fun e w' => e = .returned (.int .i64 (Lib.indexByte s.data.toList c)) ∧ w' = w := by
 go_enter Tryd.func86, Tryd.ntmps86
 go_wp2_with ((go_at_call 89; refine (index_calls _ _ _).mono ?_; rintro e w' ⟨rfl, rfl⟩))
 go_ret
 exact ⟨rfl, rfl⟩
set_option maxHeartbeats 1000000 in
set_option maxRecDepth 100000 in
theorem count_calls (s : ByteArray) (c : UInt8) (w : World) :
  Calls Tryd.prog 85 #[.string s, .string ⟨#[c]⟩] w fun e w' => e = .returned (.int .i64 (Lib.countByte s.data.toList c)) ∧ w' = w := by
 go_enter Tryd.func85, Tryd.ntmps85
 go_wp2_with fail
 rw [run_callFunc_extern Tryd.func92 (by kernel_rfl) (by kernel_rfl) (by kernel_rfl) (e := Extern.BytealgCount.count) (by kernel_rfl), Lib.run_countString]
 simp only [Result.andThen]
 rw [Oper.upon_value]
 go_wp2_with fail
 go_ret
 exact ⟨rfl, rfl⟩
theorem indexByte_cases (l : List UInt8) (c : UInt8) : Lib.indexByte l c = -1 ∨ ∃ k : Nat, Lib.indexByte l c = k ∧ k < l.length := by
 induction l with
 | nil => exact .inl rfl
 | cons b l ih =>
  unfold Lib.indexByte
  by_cases h : (b == c) = true
  ·rw [if_pos h]; exact .inr ⟨0, rfl, by simp⟩
  ·rw [if_neg h]
   rcases ih with e | ⟨k, e, hk⟩
   ·rw [e]; exact .inl rfl
   ·rw [e, if_neg (by simp)]
    exact .inr ⟨k + 1, by simp, by simp; omega⟩
set_option maxHeartbeats 1000000 in
set_option maxRecDepth 100000 in
theorem cut_none (s : ByteArray) (c : UInt8) (h : Lib.indexByte s.data.toList c = -1) (w : World) :
  Calls Tryd.prog 83 #[.string s, .string ⟨#[c]⟩] w fun e w' => e = .returned (.tuple #[.string s, .string ⟨#[]⟩, .bool false]) ∧ w' = w := by
 go_enter Tryd.func83, Tryd.ntmps83
 go_wp2_with ((go_at_call 89; refine (index_calls _ _ _).mono ?_; rintro e w' ⟨rfl, rfl⟩; rw [h]))
 go_ret3
 exact ⟨rfl, rfl⟩
set_option maxHeartbeats 1000000 in
set_option maxRecDepth 100000 in
theorem cut_some (s : ByteArray) (c : UInt8) (k : Nat) (h : Lib.indexByte s.data.toList c = k) (hk : k < s.size) (hs : s.size ≤ 140737488355328) (w : World) :
  Calls Tryd.prog 83 #[.string s, .string ⟨#[c]⟩] w fun e w' => e = .returned (.tuple #[.string (s.extract 0 k), .string (s.extract (k + 1) s.size), .bool true]) ∧ ∃ n, w' = w.drewN n := by
 have h1 : (0 : Int) ≤ (k : Int) := by omega
 have h2 : (k : Int) ≤ (s.size : Int) := by omega
 have h3 : (k : Int) + 1 ≤ (s.size : Int) := by omega
 have h4 : IntKind.i64.wrap ((k : Int) + 1) = (k : Int) + 1 := by rw [IntWalk.i64_in] <;> omega
 have H := Aside0.mk h
 clear h
 go_enter Tryd.func83, Tryd.ntmps83
 go_upto_region 3 with ((go_at_call 89; refine (index_calls _ _ _).mono ?_; rintro e w' ⟨rfl, rfl⟩; rw [H.out]))
 go_quiet (fail)
 go_wp2_with fail
 go_ret3
 exact ⟨rfl, nq, rfl⟩
set_option maxHeartbeats 1000000 in
theorem strings_cut_none (s : ByteArray) (c : UInt8) (h : Lib.indexByte s.data.toList c = -1) (w : World) :
  Calls Tryd.prog 70 #[.string s, .string ⟨#[c]⟩] w fun e w' => e = .returned (.tuple #[.string s, .string ⟨#[]⟩, .bool false]) ∧ w' = w := by
 have H := Aside0.mk h
 clear h
 go_enter Tryd.func70, Tryd.ntmps70
 go_wp2_with ((go_at_call 83; refine (cut_none _ _ H.out _).mono ?_; rintro e w' ⟨rfl, rfl⟩))
 go_ret3
 exact ⟨rfl, rfl⟩
set_option maxHeartbeats 1000000 in
theorem strings_cut_some (s : ByteArray) (c : UInt8) (k : Nat) (h : Lib.indexByte s.data.toList c = k) (hk : k < s.size) (hs : s.size ≤ 140737488355328) (w : World) :
  Calls Tryd.prog 70 #[.string s, .string ⟨#[c]⟩] w fun e w' => e = .returned (.tuple #[.string (s.extract 0 k), .string (s.extract (k + 1) s.size), .bool true]) ∧ ∃ n, w' = w.drewN n := by
 have H := Aside0.mk h
 clear h
 go_enter Tryd.func70, Tryd.ntmps70
 go_wp2_with ((go_at_call 83; refine (cut_some _ _ k H.out hk hs _).mono ?_; rintro e w' ⟨rfl, nq, rfl⟩))
 go_ret3
 exact ⟨rfl, nq, rfl⟩
theorem un80 : Tryd.prog.underlying 80 = some (.slice 5) := by kernel_rfl
theorem un5 : Tryd.prog.underlying 5 = some (.int .u8) := by kernel_rfl
theorem un9 : Tryd.prog.underlying 9 = some .string := by kernel_rfl
def okB (b : Int) : Bool := decide (33 ≤ b) && decide (b ≤ 126)
def plainF (s : ByteArray) : Bool := (bytesOf s).all okB && decide (0 < s.size)
set_option maxHeartbeats 1000000 in
set_option maxRecDepth 100000 in
theorem plain_calls (s : ByteArray) (hs : s.size ≤ 140737488355328) (w : World) :
  Calls Tryd.prog 47 #[.string s] w fun e w' => e = .returned (.bool (plainF s)) ∧ Below w.heap.size w w' := by
 have hcv := fun W => print_bytes (P := Tryd.prog) 9 80 5 un9 un80 un5 s W
 have hrd := Aside0.mk (bytes_reads w 5 s (by omega))
 have hbl := Aside0.mk (bytes_below (Below.refl w.heap.size w) (Nat.le_refl _) 5 s)
 go_enter Tryd.func47, Tryd.ntmps47
 go_wp2_with fail
 have hcap : Aside0 (s.size ≤ grownCap w s.size 0 5 ∨ True) := ⟨.inr trivial⟩
 clear hcv
 go_loopw [8] (fun i wr => ∃ t : Nat, t ≤ s.size ∧ i = .int .i64 (t : Int) ∧ Aside0 (ReadsInt wr .u8 (some ⟨w.heap.size, 0, none⟩) s.size (bytesOf s) ∧ Below w.heap.size w wr ∧ ((bytesOf s).take t).all okB = true)) (fun i _ => s.size - (intOf i).toNat)
 case atStart => exact ⟨0, by omega, rfl, ⟨hrd.out, hbl.out, by simp⟩⟩
 case round =>
  clear hrd hbl
  obtain ⟨t, ht, rfl, S⟩ := hrel
  by_cases hlt : t < s.size
  ·have hb5 : (0 : Int) ≤ (t : Int) := by omega
   have hb6 : (t : Int) < (s.size : Int) := by omega
   obtain ⟨ad, he, hc⟩ := S.out.1.at_ (t : Int) hb5 hb6
   obtain rfl : (⟨w.heap.size, 0, none⟩ : Addr) = ad := Option.some.inj he
   rw [Int.toNat_natCast, add_plain] at hc
   obtain ⟨x, hx⟩ : ∃ x, rd (bytesOf s) (t : Int) = x := ⟨_, rfl⟩
   rw [hx] at hc
   have hnx : ((bytesOf s).take (t + 1)).all okB = okB x := by
    have hl : t < (bytesOf s).length := by rw [bytesOf_length]; exact hlt
    rw [List.take_succ_eq_append_getElem hl, List.all_append, S.out.2.2, Bool.true_and]
    rw [← hx]
    simp [rd, hl]
   have HX := Aside0.mk hnx
   have hal : okB x = false → plainF s = false := by
    intro h0
    have hl : t < (bytesOf s).length := by rw [bytesOf_length]; exact hlt
    have hm : (bytesOf s).all okB = false := by
     rw [List.all_eq_false]
     refine ⟨(bytesOf s)[t], List.getElem_mem hl, ?_⟩
     rw [show (bytesOf s)[t] = x by rw [← hx]; simp [rd, hl], h0]; simp
    rw [plainF, hm, Bool.false_and]
   have HAL := Aside0.mk hal
   clear he hx hnx hal
   by_cases h1 : x ≤ 32
   ·have h3 : decide (x ≤ 32) = true := by simpa using h1
    go_wp2_with fail
    go_ret
    exact ⟨by rw [HAL.out (by simp [okB]; omega)]; rfl, S.out.2.1⟩
   ·have h3 : decide (x ≤ 32) = false := by simpa using h1
    by_cases h2 : 126 < x
    ·have h4 : decide (126 < x) = true := by simpa using h2
     go_wp2_with fail
     go_ret
     exact ⟨by rw [HAL.out (by simp [okB]; omega)]; rfl, S.out.2.1⟩
    ·have h4 : decide (126 < x) = false := by simpa using h2
     go_wp2_with fail
     refine ⟨⟨t + 1, by omega, by go_num, ⟨S.out.1, S.out.2.1, by rw [HX.out]; simp [okB]; omega⟩⟩, ?_⟩
     simp only [intOf]; omega
  ·obtain rfl : t = s.size := by omega
   have hall : (bytesOf s).all okB = true := by
    have h := S.out.2.2
    rw [List.take_of_length_le (by rw [bytesOf_length]; exact Nat.le_refl _)] at h
    exact h
   have HP := Aside0.mk hall
   clear hall
   go_wp2_with fail
   have hfin : (!s.toList.isEmpty) = plainF s := by
    rw [plainF, HP.out, Bool.true_and, Lib.toList_data]
    have hl : s.data.toList.length = s.size := data_length s
    cases hq : s.data.toList with
    | nil => rw [hq] at hl; simp at hl; simp [← hl]
    | cons a l => rw [hq] at hl; simp at hl; simp; omega
   go_ret
   exact ⟨by rw [← hfin]; rfl, S.out.2.1⟩
end Go.Proofs.YtiddiboclfpklaaDoor.Tx
namespace Go.Proofs.YtiddiboclfpklaaDoor.Tx
open Go.RowKit Go.Proofs.YtiddiboclfpklaaDoorW.PrintWords
set_option linter.unusedVariables false
def splitF (c : UInt8) : Nat → ByteArray → List ByteArray
 | 0, s => [s]
 | n + 1, s => s.extract 0 (Lib.indexByte s.data.toList c).toNat :: splitF c n (s.extract ((Lib.indexByte s.data.toList c).toNat + 1) s.size)
theorem splitF_length (c : UInt8) : ∀ n s, (splitF c n s).length = n + 1
 | 0, _ => rfl
 | n + 1, s => by rw [splitF, List.length_cons, splitF_length c n]
def WS (w : World) (b : Nat) (xs : List ByteArray) : Prop := w.heap[b]? = some (.cells (pw_strs xs).toArray 9 (0, 0))
theorem WS.cell {w : World} {b : Nat} {xs : List ByteArray} (h : WS w b xs) (i : Nat) (hi : i < xs.length) : w.cell? ⟨b, i, none⟩ = some (.string (xs.getD i ByteArray.empty)) := by
 rw [blk_cell h i]
 simp [pw_strs, hi]
theorem WS.frozen {w : World} {b : Nat} {xs : List ByteArray} (h : WS w b xs) (i : Nat) : w.frozen? ⟨b, i, none⟩ = false := blk_frozen h i
theorem WS.set {w : World} {b : Nat} {xs : List ByteArray} (h : WS w b xs) (i : Nat) (v : ByteArray) : WS (w.setCell ⟨b, i, none⟩ (.string v)) b (xs.set i v) := by
 have := blk_set h i (.string v)
 unfold WS
 rw [this]
 simp [pw_strs, List.map_set]
theorem made9 (m : Nat) (hm : m * 16 ≤ 281474976710656) (W : World) : (Instr.makeSlice 84 (.int .i64 (m : Int)) (.int .i64 (m : Int))).run Tryd.prog W = .ok (.slice (some ⟨W.heap.size, 0, none⟩) m m) (W.alloc (.cells (pw_strs (List.replicate m ByteArray.empty)).toArray 9)) := by
 have h := print_make_of (P := Tryd.prog) 84 9 (.string ByteArray.empty) 16 (by kernel_rfl) (by kernel_rfl) rfl (by decide) m hm W
 have e : madeCells #[Value.string ByteArray.empty] m = (pw_strs (List.replicate m ByteArray.empty)).toArray := by
  apply Array.ext
  ·simp [madeCells, pw_strs]
  ·intro i h1 h2
   simp [madeCells, pw_strs, Nat.mod_one]
 rw [e] at h
 exact h
theorem count_list (c : UInt8) (n : Nat) : ∀ l : List UInt8, Lib.countByte l c = n + 1 → ∃ k : Nat, Lib.indexByte l c = k ∧ k < l.length ∧ Lib.countByte (l.drop (k + 1)) c = n
 | [], h => by simp [Lib.countByte] at h
 | b :: l, h => by
  unfold Lib.indexByte
  by_cases hb : (b == c) = true
  ·rw [if_pos hb]
   refine ⟨0, rfl, by simp, ?_⟩
   unfold Lib.countByte at h ⊢
   rw [List.count_cons, if_pos hb] at h
   simpa using h
  ·have h2 : Lib.countByte l c = n + 1 := by
    unfold Lib.countByte at h ⊢
    rw [List.count_cons, if_neg hb] at h
    simpa using h
   obtain ⟨k, hk, hl, hc⟩ := count_list c n l h2
   rw [if_neg hb, hk, if_neg (by simp)]
   exact ⟨k + 1, by simp, by simp; omega, by simpa using hc⟩
theorem extract_drop (s : ByteArray) (a : Nat) : (s.extract a s.size).data.toList = s.data.toList.drop a := Lib.extract_to_end s a
theorem count_cut (s : ByteArray) (c : UInt8) (n : Nat) (h : Lib.countByte s.data.toList c = n + 1) : ∃ k : Nat, Lib.indexByte s.data.toList c = k ∧ k < s.size ∧ Lib.countByte (s.extract (k + 1) s.size).data.toList c = n := by
 obtain ⟨k, h1, h2, h3⟩ := count_list c n _ h
 exact ⟨k, h1, by rw [← data_length s]; exact h2, by rw [extract_drop]; exact h3⟩
structure SplSt (w wr : World) (c : UInt8) (s : ByteArray) (N t : Nat) (sr : ByteArray) (done : List ByteArray) : Prop where
 dl : done.length = t
 row : WS wr w.heap.size (done ++ List.replicate (N + 1 - t) ByteArray.empty)
 cnt : Lib.countByte sr.data.toList c = N - t
 eq : splitF c N s = done ++ splitF c (N - t) sr
 sz : sr.size ≤ s.size
 bel : Below w.heap.size w wr
theorem set_at (done : List ByteArray) (n t : Nat) (x e : ByteArray) (hd : done.length = t) (hn : 0 < n) : (done ++ List.replicate n e).set t x = (done ++ [x]) ++ List.replicate (n - 1) e := by
 obtain ⟨m, rfl⟩ : ∃ m, n = m + 1 := ⟨n - 1, by omega⟩
 rw [List.set_append_right _ _ (by omega), hd, Nat.sub_self, List.replicate_succ, List.set_cons_zero, List.append_assoc, List.singleton_append, Nat.add_sub_cancel]
theorem SplSt.step {w wr : World} {c : UInt8} {s : ByteArray} {N t : Nat} {sr : ByteArray} {done : List ByteArray} (S : SplSt w wr c s N t sr done) (ht : t < N) (k : Nat) (h1 : Lib.indexByte sr.data.toList c = k) (h3 : Lib.countByte (sr.extract (k + 1) sr.size).data.toList c = N - (t + 1)) :
  SplSt w (wr.setCell ⟨w.heap.size, t, none⟩ (.string (sr.extract 0 k))) c s N (t + 1) (sr.extract (k + 1) sr.size) (done ++ [sr.extract 0 k]) := by
 refine ⟨by rw [List.length_append, S.dl]; rfl, ?_, h3, ?_, ?_, S.bel.setCell (Nat.le_refl _) _⟩
 ·have h := S.row.set t (sr.extract 0 k)
  rw [set_at done _ t _ _ S.dl (by omega)] at h
  rw [show N + 1 - (t + 1) = N + 1 - t - 1 by omega]
  exact h
 ·rw [S.eq, show N - t = (N - (t + 1)) + 1 by omega, splitF, h1, Int.toNat_natCast, List.append_assoc, List.singleton_append]
 ·have := S.sz
  simp
  omega
theorem SplSt.fin {w wr : World} {c : UInt8} {s : ByteArray} {N : Nat} {sr : ByteArray} {done : List ByteArray} (S : SplSt w wr c s N N sr done) : WS (wr.setCell ⟨w.heap.size, N, none⟩ (.string sr)) w.heap.size (splitF c N s) := by
 have h := S.row.set N sr
 rw [set_at done _ N _ _ S.dl (by omega), show N + 1 - N - 1 = 0 by omega, List.replicate_zero, List.append_nil] at h
 rw [S.eq, Nat.sub_self]
 exact h
set_option maxHeartbeats 1000000 in
set_option maxRecDepth 100000 in
theorem split_calls (s : ByteArray) (c : UInt8) (hs : s.size ≤ 1000000000) (w : World) :
  Calls Tryd.prog 71 #[.string s, .string ⟨#[c]⟩, .int .i64 0, .int .i64 (-1)] w fun e w' => ∃ B, e = .returned (.slice (some ⟨B, 0, none⟩) (Lib.countByte s.data.toList c + 1) (Lib.countByte s.data.toList c + 1)) ∧ w.heap.size ≤ B ∧ WS w' B (splitF c (Lib.countByte s.data.toList c) s) ∧ Below w.heap.size w w' := by
 obtain ⟨N, hN⟩ : ∃ N, Lib.countByte s.data.toList c = N := ⟨_, rfl⟩
 have hle : N ≤ s.size := by rw [← hN, ← data_length s]; exact List.count_le_length
 rw [hN]
 have HN := Aside0.mk hN
 clear hN
 have hmk := made9 (N + 1) (by omega)
 have hw1 : IntKind.i64.wrap ((N : Int) + 1) = (N : Int) + 1 := by rw [IntWalk.i64_in] <;> omega
 have hw2 : IntKind.i64.wrap ((s.size : Int) + 1) = (s.size : Int) + 1 := by rw [IntWalk.i64_in] <;> omega
 have hmin : min ((N : Int) + 1) ((s.size : Int) + 1) = (N : Int) + 1 := by omega
 have hc1 : (((N + 1 : Nat)) : Int) = (N : Int) + 1 := by omega
 rw [hc1] at hmk
 go_enter Tryd.func71, Tryd.ntmps71
 go_wp2_with ((go_at_call 85; refine (count_calls _ _ _).mono ?_; rintro e w' ⟨rfl, hw⟩; rw [HN.out, hw]; clear hw))
 have I0 : Aside0 (SplSt w (w.alloc (.cells (pw_strs (List.replicate (N + 1) ByteArray.empty)).toArray 9)) c s N 0 s []) := ⟨⟨rfl, blk_new w _, by rw [HN.out]; rfl, rfl, Nat.le_refl _, below_alloc (Below.refl _ _) _⟩⟩
 go_loopw [0, 10] (fun s0 i wr => ∃ (t : Nat) (sr : ByteArray), t ≤ N ∧ s0 = .string sr ∧ i = .int .i64 (t : Int) ∧ Aside0 (∃ done, SplSt w wr c s N t sr done)) (fun _ i _ => N - (intOf i).toNat)
 case atStart => exact ⟨0, s, by omega, rfl, rfl, ⟨_, I0.out⟩⟩
 case round =>
  clear I0 hmk hmin
  obtain ⟨t, sr, ht, rfl, rfl, HS⟩ := hrel
  obtain ⟨done, hS⟩ := HS.out
  have S := Aside0.mk hS
  clear hS HS
  have hl0 : t < (done ++ List.replicate (N + 1 - t) ByteArray.empty).length := by have := S.out.dl; simp; omega
  have hcw : ∃ y, wr.cell? ⟨w.heap.size, t, none⟩ = some (.string y) := ⟨_, S.out.row.cell t hl0⟩
  obtain ⟨y, hcw⟩ := hcw
  have hfw := S.out.row.frozen t
  have hb5 : (0 : Int) ≤ (t : Int) := by omega
  have hb6 : (t : Int) < (N : Int) + 1 := by omega
  have hb7 : t < N + 1 := by omega
  clear hl0
  by_cases hlt : t < N
  ·obtain ⟨k, hk1, hk2, hk3⟩ := count_cut sr c (N - (t + 1)) (by rw [S.out.cnt]; omega)
   have HK := Aside0.mk (And.intro hk1 hk3)
   have hsz := S.out.sz
   have h1 : (0 : Int) ≤ (k : Int) := by omega
   have h2 : (k : Int) ≤ (sr.size : Int) := by omega
   have h3 : (k : Int) + 1 ≤ (sr.size : Int) := by omega
   have h4 : IntKind.i64.wrap ((k : Int) + 1) = (k : Int) + 1 := by rw [IntWalk.i64_in] <;> omega
   clear hk1 hk3
   go_wp2_with ((go_at_call 86; refine (strings_index_calls _ _ _).mono ?_; rintro e w' ⟨rfl, hw⟩; rw [HK.out.1, hw]; clear hw))
   refine ⟨⟨t + 1, _, by omega, rfl, by go_num, ⟨_, S.out.step hlt k HK.out.1 HK.out.2⟩⟩, ?_⟩
   simp only [intOf]; omega
  ·obtain rfl : t = N := by omega
   go_wp2_with fail
   have FIN := S.out.fin
   have FB := S.out.bel.setCell (p := ⟨w.heap.size, t, none⟩) (Nat.le_refl _) (.string sr)
   go_ret
   exact ⟨w.heap.size, rfl, Nat.le_refl _, FIN, FB⟩
set_option maxHeartbeats 1000000 in
theorem strings_split_calls (s : ByteArray) (c : UInt8) (hs : s.size ≤ 1000000000) (w : World) :
  Calls Tryd.prog 44 #[.string s, .string ⟨#[c]⟩] w fun e w' => ∃ B, e = .returned (.slice (some ⟨B, 0, none⟩) (Lib.countByte s.data.toList c + 1) (Lib.countByte s.data.toList c + 1)) ∧ w.heap.size ≤ B ∧ WS w' B (splitF c (Lib.countByte s.data.toList c) s) ∧ Below w.heap.size w w' := by
 go_enter Tryd.func44, Tryd.ntmps44
 go_wp2_with ((go_at_call 71; refine (split_calls _ _ hs _).mono ?_; rintro e w' ⟨B, rfl, h1, h2, h3⟩; have S := Aside0.mk (And.intro h1 (And.intro h2 h3)); clear h1 h2 h3))
 go_ret
 exact ⟨B, rfl, S.out⟩
end Go.Proofs.YtiddiboclfpklaaDoor.Tx
namespace Go.Proofs.YtiddiboclfpklaaDoor.Tx
open Go.RowKit Go.Proofs.YtiddiboclfpklaaDoorW.PrintWords
set_option linter.unusedVariables false
set_option maxHeartbeats 1000000 in
theorem notPlain_calls (s : ByteArray) (hs : s.size ≤ 140737488355328) (w : World) :
  Calls Tryd.prog 46 #[.string s] w fun e w' => e = .returned (.bool (!plainF s)) ∧ Below w.heap.size w w' := by
 go_enter Tryd.func46, Tryd.ntmps46
 go_wp2_with ((go_at_call 47; refine (plain_calls s hs _).mono ?_; rintro e w' ⟨rfl, hB⟩; have S := Aside0.mk hB; clear hB))
 go_ret
 exact ⟨rfl, S.out⟩
set_option maxHeartbeats 1000000 in
set_option maxRecDepth 100000 in
theorem indexFunc_calls (xs : List ByteArray) (A : Option Addr) (c : Nat) (hx : ∀ x ∈ xs, x.size ≤ 140737488355328) (w : World) (hr : Kd.C Kd.string w A xs.length xs) :
  Calls Tryd.prog 72 #[.slice A xs.length c, .func (.func 46) #[] #[]] w fun e w' => ∃ i : Int, e = .returned (.int .i64 i) ∧ (decide (0 ≤ i) = xs.any fun x => !plainF x) ∧ Below w.heap.size w w' := by
 have HR := Aside0.mk hr
 have HX := Aside0.mk hx
 clear hr hx
 obtain ⟨n, hn⟩ : ∃ n, xs.length = n := ⟨_, rfl⟩
 rw [hn] at HR ⊢
 have HN := Aside0.mk hn
 clear hn
 have hn63 : n ≤ 9223372036854775807 := Kd.C_max HR.out
 go_enter Tryd.func72, Tryd.ntmps72
 go_wp2_with fail
 go_loopw [8] (fun i wr => ∃ t : Nat, t ≤ n ∧ i = .int .i64 (t : Int) ∧ Aside0 (Below w.heap.size w wr ∧ (xs.take t).all plainF = true)) (fun i _ => n - (intOf i).toNat)
 case atStart => exact ⟨0, by omega, rfl, ⟨Below.refl _ _, by simp⟩⟩
 case round =>
  obtain ⟨t, ht, rfl, S⟩ := hrel
  by_cases hlt : t < n
  ·have hb5 : (0 : Int) ≤ (t : Int) := by omega
   have hb6 : (t : Int) < (n : Int) := by omega
   obtain ⟨ad, cs, rfl, _, hk, hcell⟩ := Kd.C_get HR.out ByteArray.empty (t : Int) hb5 hb6
   rw [Int.toNat_natCast] at hk hcell
   obtain ⟨x, hx⟩ : ∃ x, xs.getD t ByteArray.empty = x := ⟨_, rfl⟩
   rw [hx] at hk
   obtain rfl : cs = [.string x] := hk
   have hcw : wr.cell? (ad.add t) = some (.string x) := by
    refine pw_cell_below S.out.1 ?_
    have h1 := hcell 0 (.string x) rfl
    rw [show t * Kd.string.sz + 0 = t from Nat.mul_one t] at h1
    exact h1
   have hl : t < xs.length := by rw [HN.out]; exact hlt
   have hxe : xs[t] = x := by rw [← hx]; simp [List.getD_eq_getElem?_getD, hl]
   have hsx : x.size ≤ 140737488355328 := HX.out x (by rw [← hxe]; exact List.getElem_mem hl)
   have hnx : ((xs.take (t + 1)).all plainF) = plainF x := by
    rw [List.take_succ_eq_append_getElem hl, List.all_append, S.out.2, Bool.true_and, hxe]
    simp
   have hany : plainF x = false → (xs.any fun x => !plainF x) = true := by
    intro h0
    rw [List.any_eq_true]
    exact ⟨xs[t], List.getElem_mem hl, by rw [hxe, h0]; rfl⟩
   have HX2 := Aside0.mk (And.intro hnx hany)
   clear hnx hany hxe hx hcell hl
   cases hp : plainF x with
   | true =>
    have HP := Aside0.mk hp
    clear hp
    go_wp2_with ((go_at_call 46; refine (notPlain_calls x hsx _).mono ?_; rintro e w' ⟨rfl, hB⟩; rw [HP.out]; have S2 := Aside0.mk (S.out.1.trans (hB.mono S.out.1.size)); clear hB))
    refine ⟨⟨t + 1, by omega, by go_num, ⟨S2.out, by rw [HX2.out.1, HP.out]⟩⟩, ?_⟩
    simp only [intOf]; omega
   | false =>
    have HP := Aside0.mk hp
    clear hp
    go_wp2_with ((go_at_call 46; refine (notPlain_calls x hsx _).mono ?_; rintro e w' ⟨rfl, hB⟩; rw [HP.out]; have S2 := Aside0.mk (S.out.1.trans (hB.mono S.out.1.size)); clear hB))
    go_ret
    exact ⟨(t : Int), rfl, by rw [HX2.out.2 HP.out]; simp, S2.out⟩
  ·obtain rfl : t = n := by omega
   go_wp2_with fail
   have hall : (xs.any fun x => !plainF x) = false := by
    have h := S.out.2
    rw [List.take_of_length_le (by rw [HN.out]; exact Nat.le_refl _), List.all_eq_true] at h
    rw [List.any_eq_false]
    intro x hx
    rw [h x hx]; simp
   go_ret
   exact ⟨-1, rfl, by rw [hall]; rfl, S.out.1⟩
set_option maxHeartbeats 1000000 in
theorem contains_calls (xs : List ByteArray) (A : Option Addr) (c : Nat) (hx : ∀ x ∈ xs, x.size ≤ 140737488355328) (w : World) (hr : Kd.C Kd.string w A xs.length xs) :
  Calls Tryd.prog 45 #[.slice A xs.length c, .func (.func 46) #[] #[]] w fun e w' => e = .returned (.bool (xs.any fun x => !plainF x)) ∧ Below w.heap.size w w' := by
 go_enter Tryd.func45, Tryd.ntmps45
 go_wp2_with ((go_at_call 72; refine (indexFunc_calls xs A c hx _ hr).mono ?_; rintro e w' ⟨i, rfl, hi, hB⟩; have S := Aside0.mk (And.intro hi hB); clear hi hB))
 go_ret
 exact ⟨by rw [← S.out.1]; rfl, S.out.2⟩
end Go.Proofs.YtiddiboclfpklaaDoor.Tx
