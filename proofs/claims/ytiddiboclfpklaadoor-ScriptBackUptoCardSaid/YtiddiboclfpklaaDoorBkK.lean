/- Lemmas that the claim's theorem uses. -/
import Derived.Test.YtiddiboclfpklaaDoorBkD
import Derived.Test.YtiddiboclfpklaaDoorBkF
import Derived.Test.YtiddiboclfpklaaDoorBkJ
namespace Go.Proofs.YtiddiboclfpklaaDoor.TxM
open Go.RowKit Go.Proofs.YtiddiboclfpklaaDoorW.PrintWords Go.Proofs.YtiddiboclfpklaaDoorW.PrintLast Go.Proofs.YtiddiboclfpklaaDoorW.PrintMore Go.Proofs.YtiddiboclfpklaaDoor.PTextsNums
attribute [local go_sem] min2_int min_two
set_option linter.unusedVariables false
set_option linter.unusedSimpArgs false
def texts_half.j0 : Nat → Int → Bool → Option (Int × Bool)
  | 0, _, _ => none
  | k + 1, x0, x4 => if x4 = true then (some ((x0 - 48) % 256, true)) else (if x0 ≥ 97 then (if x0 ≤ 102 then (some ((((x0 - 97) % 256) + 10) % 256, true)) else (some (0, false))) else (some (0, false)))
def texts_half.f (k : Nat) (a0 : Int) : Option (Int × Bool) := if a0 ≥ 48 then (texts_half.j0 k a0 (decide (a0 ≤ 57))) else (texts_half.j0 k a0 false)
theorem texts_half.mono_l : ∀ k, (∀ y0 y1, LeO (texts_half.j0 k y0 y1) (texts_half.j0 (k + 1) y0 y1))
  | 0 => fun _ _ r h => by simp [texts_half.j0] at h
  | k + 1 => by
    have ih0 := texts_half.mono_l k
    · intro y0 y1
      unfold texts_half.j0
      repeat' first
      | (with_reducible exact ih0 _ _)
      | (with_reducible exact LeO.refl _)
      | (with_reducible exact LeO.none _)
      | (with_reducible refine LeO.ite ?_ ?_)
      | (with_reducible refine LeO.bind ?_ (fun _ => ?_))
      | exact ih0 _ _
      | exact LeO.none _
      | refine LeO.ite ?_ ?_
      | refine LeO.bind ?_ (fun _ => ?_)
theorem texts_half.mono : ∀ a0 k, LeO (texts_half.f k a0) (texts_half.f (k + 1) a0) := by
  intro a0 k
  have ih0 := texts_half.mono_l k
  unfold texts_half.f
  repeat' first
      | (with_reducible exact ih0 _ _)
      | (with_reducible exact LeO.refl _)
      | (with_reducible exact LeO.none _)
      | (with_reducible refine LeO.ite ?_ ?_)
      | (with_reducible refine LeO.bind ?_ (fun _ => ?_))
      | exact ih0 _ _
      | exact LeO.none _
      | refine LeO.ite ?_ ?_
      | refine LeO.bind ?_ (fun _ => ?_)
set_option maxHeartbeats 8000000 in
set_option maxRecDepth 100000 in
theorem texts_half.calls (k : Nat) (a0 : Int) (r1 : Int) (r2 : Bool) (w : World) (h : texts_half.f k a0 = some (r1, r2)) :
    Calls Tryd.prog 40 #[.int .u8 a0] w fun e w' => e = .returned (.tuple #[.int .u8 r1, .bool r2]) ∧ Drawn0 w w' := by
  have H : (if a0 ≥ 48 then (texts_half.j0 k a0 (decide (a0 ≤ 57))) else (texts_half.j0 k a0 false)) = some (r1, r2) := h
  clear h
  have HC2 := Aside0.mk H
  clear H
  go_enter Tryd.func40, Tryd.ntmps40
  go_upto_region 1 with (fail)
  go_cut [4] (fun v4 wc => ∃ (kq : Nat) (x4_1 : Bool), v4 = .bool x4_1 ∧ Aside0 (texts_half.j0 kq a0 x4_1 = some (r1, r2)) ∧ Aside0 (kq ≤ k) ∧ Drawn0 w wc)
  case first =>
    have H := HC2.out
    clear HC2
    by_cases c3 : a0 ≥ 48
    · rw [if_pos c3] at H
      have c3b0 : decide (48 ≤ a0) = true := decide_eq_true c3
      clear c3
      (first | rw [c3b0] | (simp only [i64_w, i32_w]; rw [c3b0]) | skip)
      have H' := Aside0.mk H
      clear H
      go_wp2
      go_meet
      case rel => exact ⟨_, (decide (a0 ≤ 57)), (by first | rfl | (simp; done) | (simp [*]; done)), H', ⟨by first | omega | exact Nat.le_refl _⟩, by repeat (first | exact Drawn0.refl _ | apply Drawn0.step)⟩
    · rw [if_neg c3] at H
      have c3b0 : decide (48 ≤ a0) = false := decide_eq_false c3
      clear c3
      (first | rw [c3b0] | (simp only [i64_w, i32_w]; rw [c3b0]) | skip)
      have H' := Aside0.mk H
      clear H
      go_wp2
      go_meet
      case rel => exact ⟨_, (false), (by first | rfl | (simp; done) | (simp [*]; done)), H', ⟨by first | omega | exact Nat.le_refl _⟩, by repeat (first | exact Drawn0.refl _ | apply Drawn0.step)⟩
  case rest =>
    clear HC2
    try clear p2
    try clear c3
    try clear c3b0
    obtain ⟨kq, x4_1, rfl, HA, HJ1, ⟨mc1, rfl⟩⟩ := hcut
    cases kq with
    | zero => exact absurd HA.out (by simp [texts_half.j0])
    | succ kj1 =>
      have H := HA.out
      clear HA
      simp only [texts_half.j0] at H
      by_cases c4 : x4_1 = true
      · subst c4
        have H1 : (some ((a0 - 48) % 256, true)) = some (r1, r2) := by rw [if_pos rfl] at H; exact H
        clear H
        have H := H1
        clear H1
        simp only [Option.some.injEq, Prod.mk.injEq] at H
        obtain ⟨rfl, rfl⟩ := H
        go_wp2
        go_ret2
        exact ⟨by first | rfl | (simp; done) | (simp [*]; done), by repeat (first | exact Drawn0.refl _ | apply Drawn0.step)⟩
      · replace c4 := Bool.eq_false_iff.mpr c4
        subst c4
        have H1 : (if a0 ≥ 97 then (if a0 ≤ 102 then (some ((((a0 - 97) % 256) + 10) % 256, true)) else (some (0, false))) else (some (0, false))) = some (r1, r2) := by rw [if_neg (show ¬ (false = true) by decide)] at H; exact H
        clear H
        have H := H1
        clear H1
        by_cases c5 : a0 ≥ 97
        · rw [if_pos c5] at H
          have c5b0 : decide (97 ≤ a0) = true := decide_eq_true c5
          clear c5
          by_cases c6 : a0 ≤ 102
          · rw [if_pos c6] at H
            have c6b0 : decide (a0 ≤ 102) = true := decide_eq_true c6
            clear c6
            simp only [Option.some.injEq, Prod.mk.injEq] at H
            obtain ⟨rfl, rfl⟩ := H
            go_wp2
            go_ret2
            exact ⟨by first | rfl | (simp; done) | (simp [*]; done), by repeat (first | exact Drawn0.refl _ | apply Drawn0.step)⟩
          · rw [if_neg c6] at H
            have c6b0 : decide (a0 ≤ 102) = false := decide_eq_false c6
            clear c6
            simp only [Option.some.injEq, Prod.mk.injEq] at H
            obtain ⟨rfl, rfl⟩ := H
            go_wp2
            go_ret2
            exact ⟨by first | rfl | (simp; done) | (simp [*]; done), by repeat (first | exact Drawn0.refl _ | apply Drawn0.step)⟩
        · rw [if_neg c5] at H
          have c5b0 : decide (97 ≤ a0) = false := decide_eq_false c5
          clear c5
          simp only [Option.some.injEq, Prod.mk.injEq] at H
          obtain ⟨rfl, rfl⟩ := H
          go_wp2
          go_ret2
          exact ⟨by first | rfl | (simp; done) | (simp [*]; done), by repeat (first | exact Drawn0.refl _ | apply Drawn0.step)⟩
def texts_Unhex.l0 : Nat → ByteArray → List Int → Int → Option (ByteArray × Int)
  | 0, _, _, _ => none
  | k + 1, x0, x4, x5 => if (wrap64 (x5 + 1)) < (x0.size : Int) then (if 0 ≤ x5 then (if x5 < (x0.size : Int) then ((texts_half.f k (bt x0 x5)).bind fun bt118 => (if 0 ≤ (wrap64 (x5 + 1)) then ((texts_half.f k (bt x0 (wrap64 (x5 + 1)))).bind fun bt120 => (if bt118.2 = true then (if bt120.2 = true then (if x4.length < 140737488355328 then (texts_Unhex.l0 k x0 (x4 ++ [Go.bits .or .u8 ((bt118.1 * 16) % 256) bt120.1]) (wrap64 (x5 + 2))) else (none)) else (some ((⟨#[]⟩ : ByteArray), 4))) else (some ((⟨#[]⟩ : ByteArray), 4)))) else (none))) else (none)) else (none)) else (if x0.toList = ([] : List UInt8) then (some ((⟨#[]⟩ : ByteArray), 4)) else (if ((x0.size : Int) % 2) = 0 then (some (strOfNums x4, 0)) else (some ((⟨#[]⟩ : ByteArray), 4))))
def texts_Unhex.f (k : Nat) (a0 : ByteArray) : Option (ByteArray × Int) := if a0.toList = ([45] : List UInt8) then (some ((⟨#[]⟩ : ByteArray), 0)) else (texts_Unhex.l0 k a0 ([] : List Int) 0)
theorem texts_Unhex.mono_l : ∀ k, (∀ y0 y1 y2, LeO (texts_Unhex.l0 k y0 y1 y2) (texts_Unhex.l0 (k + 1) y0 y1 y2))
  | 0 => fun _ _ _ r h => by simp [texts_Unhex.l0] at h
  | k + 1 => by
    have ih0 := texts_Unhex.mono_l k
    · intro y0 y1 y2
      unfold texts_Unhex.l0
      repeat' first
      | (with_reducible exact ih0 _ _ _)
      | (with_reducible exact texts_half.mono _ _)
      | (with_reducible exact LeO.refl _)
      | (with_reducible exact LeO.none _)
      | (with_reducible refine LeO.ite ?_ ?_)
      | (with_reducible refine LeO.bind ?_ (fun _ => ?_))
      | exact ih0 _ _ _
      | exact texts_half.mono _ _
      | exact LeO.none _
      | refine LeO.ite ?_ ?_
      | refine LeO.bind ?_ (fun _ => ?_)
theorem texts_Unhex.mono : ∀ a0 k, LeO (texts_Unhex.f k a0) (texts_Unhex.f (k + 1) a0) := by
  intro a0 k
  have ih0 := texts_Unhex.mono_l k
  unfold texts_Unhex.f
  repeat' first
      | (with_reducible exact ih0 _ _ _)
      | (with_reducible exact texts_half.mono _ _)
      | (with_reducible exact LeO.refl _)
      | (with_reducible exact LeO.none _)
      | (with_reducible refine LeO.ite ?_ ?_)
      | (with_reducible refine LeO.bind ?_ (fun _ => ?_))
      | exact ih0 _ _ _
      | exact texts_half.mono _ _
      | exact LeO.none _
      | refine LeO.ite ?_ ?_
      | refine LeO.bind ?_ (fun _ => ?_)
set_option maxHeartbeats 8000000 in
set_option maxRecDepth 100000 in
theorem texts_Unhex.calls (k : Nat) (a0 : ByteArray) (r1 : ByteArray) (r2 : Int) (w : World) (h : texts_Unhex.f k a0 = some (r1, r2)) :
    Calls Tryd.prog 15 #[.string a0] w fun e w' => e = .returned (.tuple #[.string r1, .int .i64 r2]) ∧ Below w.heap.size w w' := by
  have HB := Aside0.mk (Below.refl w.heap.size w)
  have H : (if a0.toList = ([45] : List UInt8) then (some ((⟨#[]⟩ : ByteArray), 0)) else (texts_Unhex.l0 k a0 ([] : List Int) 0)) = some (r1, r2) := h
  clear h
  by_cases c2 : a0.toList = ([45] : List UInt8)
  · rw [if_pos c2] at H
    have c2b0 : (a0.toList == ([45] : List UInt8)) = true := beq_iff_eq.mpr c2
    have c2b1 : (a0.toList != ([45] : List UInt8)) = false := bne_eq_false_iff_eq.mpr c2
    clear c2
    simp only [Option.some.injEq, Prod.mk.injEq] at H
    obtain ⟨rfl, rfl⟩ := H
    go_enter Tryd.func15, Tryd.ntmps15
    go_wp2
    go_ret2
    exact ⟨by first | rfl | (simp [errW_none, errW_some] <;> rfl) | (simp [*, errW_none, errW_some] <;> rfl), by repeat (first | (with_reducible first | exact HB.out | apply below_alloc | apply pw_below_drewN | apply below_drew1) | exact HB.out)⟩
  · rw [if_neg c2] at H
    have c2b0 : (a0.toList == ([45] : List UInt8)) = false := beq_eq_false_iff_ne.mpr c2
    have c2b1 : (a0.toList != ([45] : List UInt8)) = true := bne_iff_ne.mpr c2
    have H' := Aside0.mk H
    clear H
    go_enter Tryd.func15, Tryd.ntmps15
    go_wp2
    go_loopg [4, 5] k (fun kq v4 v5 w' => ∃ (x4_1 : List Int) (x5_1 : Int), v5 = .int .i64 x5_1 ∧ Aside0 (texts_Unhex.l0 kq a0 x4_1 x5_1 = some (r1, r2)) ∧ Aside0 (kq ≤ k) ∧ Aside0 (Kd.R (Kd.int .u8) 5 w' w.heap.size (fun _ => True) v4 x4_1) ∧ Aside0 (Below w.heap.size w w'))
    case atStart => exact ⟨(([] : List Int)), (0), (by first | rfl | (simp; done) | (simp [*]; done)), H', ⟨Nat.le_refl _⟩, ⟨by first | exact Kd.R_nil _ _ _ _ _ | exact Kd.N_nil _ _ _ _ _ | exact Kd.V_nil _ _ _ _ _ | exact Kd.Q_nil _ _ _ _ _ | exact Kd.S_nil _ _ _ _ _⟩, ⟨by repeat (first | (with_reducible first | exact HB.out | apply below_alloc | apply pw_below_drewN | apply below_drew1) | exact HB.out)⟩⟩
    case round =>
      clear H'
      try clear c1
      try clear c2
      try clear c2b0
      try clear c2b1
      try clear p2
      obtain ⟨x4_1, x5_1, rfl, HA, HK1, HO_4, HB⟩ := hrel
      cases gk with
      | zero => exact absurd HA.out (by simp [texts_Unhex.l0])
      | succ k1 =>
        have H := HA.out
        clear HA
        simp only [texts_Unhex.l0] at H
        by_cases c3 : (wrap64 (x5_1 + 1)) < (a0.size : Int)
        · rw [if_pos c3] at H
          have c3b0 : decide ((wrap64 (x5_1 + 1)) < (a0.size : Int)) = true := decide_eq_true c3
          clear c3
          by_cases c4 : 0 ≤ x5_1
          · rw [if_pos c4] at H
            have c4b0 : decide (0 ≤ x5_1) = true := decide_eq_true c4
            clear c4
            by_cases c5 : x5_1 < (a0.size : Int)
            · rw [if_pos c5] at H
              have c5b0 : decide (x5_1 < (a0.size : Int)) = true := decide_eq_true c5
              clear c5
              replace H := Option.bind_eq_some_iff.mp H
              obtain ⟨⟨t118, t119⟩, A70, H⟩ := H
              replace H : (if 0 ≤ (wrap64 (x5_1 + 1)) then ((texts_half.f k1 (bt a0 (wrap64 (x5_1 + 1)))).bind fun bt120 => (if t119 = true then (if bt120.2 = true then (if x4_1.length < 140737488355328 then (texts_Unhex.l0 k1 a0 (x4_1 ++ [Go.bits .or .u8 ((t118 * 16) % 256) bt120.1]) (wrap64 (x5_1 + 2))) else (none)) else (some ((⟨#[]⟩ : ByteArray), 4))) else (some ((⟨#[]⟩ : ByteArray), 4)))) else (none)) = some (r1, r2) := H
              have A7 := Aside0.mk A70
              clear A70
              obtain ⟨ji8, hji8⟩ : ∃ j_ : Int, (wrap64 (x5_1 + 1)) = j_ := ⟨_, rfl⟩
              replace H : (if 0 ≤ (ji8) then ((texts_half.f k1 (bt a0 (ji8))).bind fun bt120 => (if t119 = true then (if bt120.2 = true then (if x4_1.length < 140737488355328 then (texts_Unhex.l0 k1 a0 (x4_1 ++ [Go.bits .or .u8 ((t118 * 16) % 256) bt120.1]) (wrap64 (x5_1 + 2))) else (none)) else (some ((⟨#[]⟩ : ByteArray), 4))) else (some ((⟨#[]⟩ : ByteArray), 4)))) else (none)) = some (r1, r2) := by first | (rw [hji8] at H; exact H) | (simp only [hji8] at H ⊢; exact H)
              (try rw [hji8] at c3b0)
              (try rw [hji8] at A7)
              have hji8w : (IntKind.i64.wrap (x5_1 + 1)) = ji8 := (i64_w _).trans hji8
              by_cases c9 : 0 ≤ (ji8)
              · rw [if_pos c9] at H
                have c9b0 : decide (0 ≤ (ji8)) = true := decide_eq_true c9
                clear c9
                replace H := Option.bind_eq_some_iff.mp H
                obtain ⟨⟨t120, t121⟩, A110, H⟩ := H
                replace H : (if t119 = true then (if t121 = true then (if x4_1.length < 140737488355328 then (texts_Unhex.l0 k1 a0 (x4_1 ++ [Go.bits .or .u8 ((t118 * 16) % 256) t120]) (wrap64 (x5_1 + 2))) else (none)) else (some ((⟨#[]⟩ : ByteArray), 4))) else (some ((⟨#[]⟩ : ByteArray), 4))) = some (r1, r2) := H
                have A11 := Aside0.mk A110
                clear A110
                by_cases c12 : t119 = true
                · subst c12
                  have H1 : (if t121 = true then (if x4_1.length < 140737488355328 then (texts_Unhex.l0 k1 a0 (x4_1 ++ [Go.bits .or .u8 ((t118 * 16) % 256) t120]) (wrap64 (x5_1 + 2))) else (none)) else (some ((⟨#[]⟩ : ByteArray), 4))) = some (r1, r2) := by rw [if_pos rfl] at H; exact H
                  clear H
                  have H := H1
                  clear H1
                  by_cases c13 : t121 = true
                  · subst c13
                    have H1 : (if x4_1.length < 140737488355328 then (texts_Unhex.l0 k1 a0 (x4_1 ++ [Go.bits .or .u8 ((t118 * 16) % 256) t120]) (wrap64 (x5_1 + 2))) else (none)) = some (r1, r2) := by rw [if_pos rfl] at H; exact H
                    clear H
                    have H := H1
                    clear H1
                    by_cases c14 : x4_1.length < 140737488355328
                    · rw [if_pos c14] at H
                      have LMc14 := Aside0.mk c14
                      clear c14
                      obtain ⟨y122, hy122⟩ : ∃ y_ : List Int, y_ = (x4_1 ++ [Go.bits .or .u8 ((t118 * 16) % 256) t120]) := ⟨_, rfl⟩
                      replace H : (texts_Unhex.l0 k1 a0 y122 (wrap64 (x5_1 + 2))) = some (r1, r2) := by first | (rw [hy122]; with_reducible exact H) | (have H2_ := (Option.bind_some _ _).symm.trans H; rw [hy122]; with_reducible exact H2_) | (have H2_ := (Option.bind_some _ _).symm.trans H; with_reducible exact H2_) | with_reducible exact H | (rw [hy122]; exact H) | exact H
                      have Ny122 := Aside0.mk hy122
                      clear hy122
                      have H' := Aside0.mk H
                      clear H
                      have p6 : 0 ≤ (x5_1 : Int) := of_decide_eq_true (by first | (with_reducible assumption) | assumption)
                      have q6 : x5_1 < (a0.size : Int) := of_decide_eq_true (by first | (with_reducible assumption) | assumption)
                      have hx6 := bt_at a0 x5_1
                      replace p6 := eq_true p6
                      replace q6 := eq_true q6
                      go_wp2_with (first | ((with_reducible refine gate_callee (f := 40) rfl ?_); refine goesL_ (some 23) rfl rfl Tryd.func40 (by kernel_rfl) rfl #[.int .u8 (bt a0 x5_1)] rfl (by (try simp only [List.map_toArray, List.map_cons, List.map_nil]); first | done | rfl | (simp only [List.length_drop, List.length_take]; rfl)) ?_; (with_reducible refine (texts_half.calls k1 (bt a0 x5_1) t118 true _ A7.out).mono ?_); rintro e w' ⟨rfl, ⟨nd, rfl⟩⟩; refine ⟨_, rfl, ?_⟩; have p10 : 0 ≤ ((ji8) : Int) := of_decide_eq_true (by first | (with_reducible assumption) | assumption); have q10 : (ji8) < (a0.size : Int) := of_decide_eq_true (by first | (with_reducible assumption) | assumption); have hx10 := bt_at a0 (ji8); replace p10 := eq_true p10; replace q10 := eq_true q10) | ((with_reducible refine gate_callee (f := 40) rfl ?_); refine goesL_ (some 31) rfl rfl Tryd.func40 (by kernel_rfl) rfl #[.int .u8 (bt a0 (ji8))] rfl (by (try simp only [List.map_toArray, List.map_cons, List.map_nil]); first | done | (simp only [hji8]; rfl) | rfl | (simp only [List.length_drop, List.length_take]; rfl)) ?_; (with_reducible refine (texts_half.calls k1 (bt a0 (ji8)) t120 true _ A11.out).mono ?_); rintro e w' ⟨rfl, ⟨nd, rfl⟩⟩; refine ⟨_, rfl, ?_⟩) | ((with_reducible refine gate_builtin (b := .append) (xs := #[.tmp 40, .tmp 45]) rfl ?_); (try (refine gate_guard (by rfl) ?_; dsimp only)); at_builtin; refine Kd.R_append (Kd.int .u8) (w0 := w) w.heap.size rfl (.tmp 40) (.tmp 45) 80 5 (.int .u8 0) 1 rfl Tryd.underlying80 info5 rfl (by decide) (by omega) u4 x4_1 (Go.bits .or .u8 ((t118 * 16) % 256) t120) [.int .u8 (Go.bits .or .u8 ((t118 * 16) % 256) t120)] (fun _ => True) (fun _ => False) rfl rfl ?aP (fun _ hk => hk.elim) ?aF ?aO ?aB ?aS ?aL ?_; (case aP => exact rfl); (case aB => exact (by repeat (first | (with_reducible first | exact HB.out | apply below_alloc | apply pw_below_drewN | apply below_drew1) | exact HB.out))); (case aF => exact (fun _ _ => trivial)); (case aO => exact (by (with_reducible repeat (first | apply Kd.R_alloc | apply Kd.R_drewN | apply Kd.R_drew)); exact HO_4.out)); (case aS => exact (below_size (by repeat (first | (with_reducible first | exact HB.out | apply below_alloc | apply pw_below_drewN | apply below_drew1) | exact HB.out)))); (case aL => have := LMc14.out; omega); intro v123 w15 ho hb hg hat; rw [← Ny122.out] at ho; have n0_ := Aside0.mk (hb); have n1_ := Aside0.mk (ho); clear HB; clear HO_4; have HB := n0_; have HO124 := n1_; clear n0_ n1_; clear ho hb hg hat))
                      go_roundg k1
                      case measure => have := HK1.out; omega
                      case rel => exact ⟨(y122), (wrap64 (x5_1 + 2)), (by first | rfl | (simp; done) | (simp [*]; done)), H', ⟨by have := HK1.out; omega⟩, ⟨by (with_reducible repeat (first | apply Kd.R_alloc | apply Kd.R_drewN | apply Kd.R_drew)); exact HO124.out⟩, ⟨by repeat (first | (with_reducible first | exact HB.out | apply below_alloc | apply pw_below_drewN | apply below_drew1) | exact HB.out)⟩⟩
                    · rw [if_neg c14] at H
                      exact absurd H (by simp)
                  · replace c13 := Bool.eq_false_iff.mpr c13
                    subst c13
                    have H1 : (some ((⟨#[]⟩ : ByteArray), 4)) = some (r1, r2) := by rw [if_neg (show ¬ (false = true) by decide)] at H; exact H
                    clear H
                    have H := H1
                    clear H1
                    simp only [Option.some.injEq, Prod.mk.injEq] at H
                    obtain ⟨rfl, rfl⟩ := H
                    have p6 : 0 ≤ (x5_1 : Int) := of_decide_eq_true (by first | (with_reducible assumption) | assumption)
                    have q6 : x5_1 < (a0.size : Int) := of_decide_eq_true (by first | (with_reducible assumption) | assumption)
                    have hx6 := bt_at a0 x5_1
                    replace p6 := eq_true p6
                    replace q6 := eq_true q6
                    go_wp2_with (first | ((with_reducible refine gate_callee (f := 40) rfl ?_); refine goesL_ (some 23) rfl rfl Tryd.func40 (by kernel_rfl) rfl #[.int .u8 (bt a0 x5_1)] rfl (by (try simp only [List.map_toArray, List.map_cons, List.map_nil]); first | done | rfl | (simp only [List.length_drop, List.length_take]; rfl)) ?_; (with_reducible refine (texts_half.calls k1 (bt a0 x5_1) t118 true _ A7.out).mono ?_); rintro e w' ⟨rfl, ⟨nd, rfl⟩⟩; refine ⟨_, rfl, ?_⟩; have p10 : 0 ≤ ((ji8) : Int) := of_decide_eq_true (by first | (with_reducible assumption) | assumption); have q10 : (ji8) < (a0.size : Int) := of_decide_eq_true (by first | (with_reducible assumption) | assumption); have hx10 := bt_at a0 (ji8); replace p10 := eq_true p10; replace q10 := eq_true q10) | ((with_reducible refine gate_callee (f := 40) rfl ?_); refine goesL_ (some 31) rfl rfl Tryd.func40 (by kernel_rfl) rfl #[.int .u8 (bt a0 (ji8))] rfl (by (try simp only [List.map_toArray, List.map_cons, List.map_nil]); first | done | (simp only [hji8]; rfl) | rfl | (simp only [List.length_drop, List.length_take]; rfl)) ?_; (with_reducible refine (texts_half.calls k1 (bt a0 (ji8)) t120 false _ A11.out).mono ?_); rintro e w' ⟨rfl, ⟨nd, rfl⟩⟩; refine ⟨_, rfl, ?_⟩))
                    go_ret2
                    exact ⟨by first | rfl | (simp [errW_none, errW_some] <;> rfl) | (simp only [← hji8]; first | rfl | (simp [errW_none, errW_some] <;> rfl)) | (simp [*, errW_none, errW_some] <;> rfl), by repeat (first | (with_reducible first | exact HB.out | apply below_alloc | apply pw_below_drewN | apply below_drew1) | exact HB.out)⟩
                · replace c12 := Bool.eq_false_iff.mpr c12
                  subst c12
                  have H1 : (some ((⟨#[]⟩ : ByteArray), 4)) = some (r1, r2) := by rw [if_neg (show ¬ (false = true) by decide)] at H; exact H
                  clear H
                  have H := H1
                  clear H1
                  simp only [Option.some.injEq, Prod.mk.injEq] at H
                  obtain ⟨rfl, rfl⟩ := H
                  have p6 : 0 ≤ (x5_1 : Int) := of_decide_eq_true (by first | (with_reducible assumption) | assumption)
                  have q6 : x5_1 < (a0.size : Int) := of_decide_eq_true (by first | (with_reducible assumption) | assumption)
                  have hx6 := bt_at a0 x5_1
                  replace p6 := eq_true p6
                  replace q6 := eq_true q6
                  go_wp2_with (first | ((with_reducible refine gate_callee (f := 40) rfl ?_); refine goesL_ (some 23) rfl rfl Tryd.func40 (by kernel_rfl) rfl #[.int .u8 (bt a0 x5_1)] rfl (by (try simp only [List.map_toArray, List.map_cons, List.map_nil]); first | done | rfl | (simp only [List.length_drop, List.length_take]; rfl)) ?_; (with_reducible refine (texts_half.calls k1 (bt a0 x5_1) t118 false _ A7.out).mono ?_); rintro e w' ⟨rfl, ⟨nd, rfl⟩⟩; refine ⟨_, rfl, ?_⟩; have p10 : 0 ≤ ((ji8) : Int) := of_decide_eq_true (by first | (with_reducible assumption) | assumption); have q10 : (ji8) < (a0.size : Int) := of_decide_eq_true (by first | (with_reducible assumption) | assumption); have hx10 := bt_at a0 (ji8); replace p10 := eq_true p10; replace q10 := eq_true q10) | ((with_reducible refine gate_callee (f := 40) rfl ?_); refine goesL_ (some 31) rfl rfl Tryd.func40 (by kernel_rfl) rfl #[.int .u8 (bt a0 (ji8))] rfl (by (try simp only [List.map_toArray, List.map_cons, List.map_nil]); first | done | (simp only [hji8]; rfl) | rfl | (simp only [List.length_drop, List.length_take]; rfl)) ?_; (with_reducible refine (texts_half.calls k1 (bt a0 (ji8)) t120 t121 _ A11.out).mono ?_); rintro e w' ⟨rfl, ⟨nd, rfl⟩⟩; refine ⟨_, rfl, ?_⟩))
                  go_ret2
                  exact ⟨by first | rfl | (simp [errW_none, errW_some] <;> rfl) | (simp only [← hji8]; first | rfl | (simp [errW_none, errW_some] <;> rfl)) | (simp [*, errW_none, errW_some] <;> rfl), by repeat (first | (with_reducible first | exact HB.out | apply below_alloc | apply pw_below_drewN | apply below_drew1) | exact HB.out)⟩
              · rw [if_neg c9] at H
                exact absurd H (by simp)
            · rw [if_neg c5] at H
              exact absurd H (by simp)
          · rw [if_neg c4] at H
            exact absurd H (by simp)
        · rw [if_neg c3] at H
          have c3b0 : decide ((wrap64 (x5_1 + 1)) < (a0.size : Int)) = false := decide_eq_false c3
          clear c3
          by_cases c16 : a0.toList = ([] : List UInt8)
          · rw [if_pos c16] at H
            have c16b0 : (a0.toList == ([] : List UInt8)) = true := beq_iff_eq.mpr c16
            have c16b1 : (a0.toList != ([] : List UInt8)) = false := bne_eq_false_iff_eq.mpr c16
            clear c16
            simp only [Option.some.injEq, Prod.mk.injEq] at H
            obtain ⟨rfl, rfl⟩ := H
            go_wp2
            go_ret2
            exact ⟨by first | rfl | (simp [errW_none, errW_some] <;> rfl) | (simp [*, errW_none, errW_some] <;> rfl), by repeat (first | (with_reducible first | exact HB.out | apply below_alloc | apply pw_below_drewN | apply below_drew1) | exact HB.out)⟩
          · rw [if_neg c16] at H
            have c16b0 : (a0.toList == ([] : List UInt8)) = false := beq_eq_false_iff_ne.mpr c16
            have c16b1 : (a0.toList != ([] : List UInt8)) = true := bne_iff_ne.mpr c16
            by_cases c17 : ((a0.size : Int) % 2) = 0
            · rw [if_pos c17] at H
              have c17b0 : (((a0.size : Int) % 2) == 0) = true := beq_iff_eq.mpr c17
              have c17b1 : (((a0.size : Int) % 2) != 0) = false := bne_eq_false_iff_eq.mpr c17
              clear c17
              simp only [Option.some.injEq, Prod.mk.injEq] at H
              obtain ⟨rfl, rfl⟩ := H
              have hcv18 := own_string (P := Tryd.prog) Tryd.underlying80 Tryd.underlying5 Tryd.underlying9 (Kd.own_of_R HO_4.out)
              go_wp2
              go_ret2
              exact ⟨by first | rfl | (simp [errW_none, errW_some] <;> rfl) | (simp [*, errW_none, errW_some] <;> rfl), by repeat (first | (with_reducible first | exact HB.out | apply below_alloc | apply pw_below_drewN | apply below_drew1) | exact HB.out)⟩
            · rw [if_neg c17] at H
              have c17b0 : (((a0.size : Int) % 2) == 0) = false := beq_eq_false_iff_ne.mpr c17
              have c17b1 : (((a0.size : Int) % 2) != 0) = true := bne_iff_ne.mpr c17
              simp only [Option.some.injEq, Prod.mk.injEq] at H
              obtain ⟨rfl, rfl⟩ := H
              go_wp2
              go_ret2
              exact ⟨by first | rfl | (simp [errW_none, errW_some] <;> rfl) | (simp [*, errW_none, errW_some] <;> rfl), by repeat (first | (with_reducible first | exact HB.out | apply below_alloc | apply pw_below_drewN | apply below_drew1) | exact HB.out)⟩
def instarref04_place.l0 : Nat → Int → Int → Option (Int)
  | 0, _, _ => none
  | k + 1, x0, x3 => if x3 < 16 then (if 0 ≤ x3 then (if (bt (⟨#[48, 49, 50, 51, 52, 53, 54, 55, 56, 57, 97, 98, 99, 100, 101, 102]⟩ : ByteArray) x3) = x0 then (some x3) else (instarref04_place.l0 k x0 (wrap64 (x3 + 1)))) else (none)) else (some (-1))
def instarref04_place.f (k : Nat) (a0 : Int) : Option (Int) := instarref04_place.l0 k a0 0
theorem instarref04_place.mono_l : ∀ k, (∀ y0 y1, LeO (instarref04_place.l0 k y0 y1) (instarref04_place.l0 (k + 1) y0 y1))
  | 0 => fun _ _ r h => by simp [instarref04_place.l0] at h
  | k + 1 => by
    have ih0 := instarref04_place.mono_l k
    · intro y0 y1
      unfold instarref04_place.l0
      repeat' first
      | (with_reducible exact ih0 _ _)
      | (with_reducible exact LeO.refl _)
      | (with_reducible exact LeO.none _)
      | (with_reducible refine LeO.ite ?_ ?_)
      | (with_reducible refine LeO.bind ?_ (fun _ => ?_))
      | exact ih0 _ _
      | exact LeO.none _
      | refine LeO.ite ?_ ?_
      | refine LeO.bind ?_ (fun _ => ?_)
theorem instarref04_place.mono : ∀ a0 k, LeO (instarref04_place.f k a0) (instarref04_place.f (k + 1) a0) := by
  intro a0 k
  have ih0 := instarref04_place.mono_l k
  unfold instarref04_place.f
  repeat' first
      | (with_reducible exact ih0 _ _)
      | (with_reducible exact LeO.refl _)
      | (with_reducible exact LeO.none _)
      | (with_reducible refine LeO.ite ?_ ?_)
      | (with_reducible refine LeO.bind ?_ (fun _ => ?_))
      | exact ih0 _ _
      | exact LeO.none _
      | refine LeO.ite ?_ ?_
      | refine LeO.bind ?_ (fun _ => ?_)
mutual
def instarref04_Unhex.j0 : Nat → ByteArray → Bool → Option (ByteArray × Int)
  | 0, _, _ => none
  | k + 1, x0, x17 => if x17 = true then (some ((⟨#[]⟩ : ByteArray), 4)) else (instarref04_Unhex.l0 k x0 ([] : List Int) 0)
def instarref04_Unhex.l0 : Nat → ByteArray → List Int → Int → Option (ByteArray × Int)
  | 0, _, _, _ => none
  | k + 1, x0, x4, x5 => if x5 < (x0.size : Int) then (if 0 ≤ x5 then ((instarref04_place.f k (bt x0 x5)).bind fun t125 => (if 0 ≤ (wrap64 (x5 + 1)) then (if (wrap64 (x5 + 1)) < (x0.size : Int) then ((instarref04_place.f k (bt x0 (wrap64 (x5 + 1)))).bind fun t126 => (if t125 < 0 then (some ((⟨#[]⟩ : ByteArray), 4)) else (if t126 < 0 then (some ((⟨#[]⟩ : ByteArray), 4)) else (if x4.length < 140737488355328 then (instarref04_Unhex.l0 k x0 (x4 ++ [(wrap64 ((wrap64 (16 * t125)) + t126)) % 256]) (wrap64 (x5 + 2))) else (none))))) else (none)) else (none))) else (none)) else (some (strOfNums x4, 0))
end
def instarref04_Unhex.f (k : Nat) (a0 : ByteArray) : Option (ByteArray × Int) := if a0.toList = ([45] : List UInt8) then (some ((⟨#[]⟩ : ByteArray), 0)) else (if a0.toList = ([] : List UInt8) then (instarref04_Unhex.j0 k a0 true) else (instarref04_Unhex.j0 k a0 (((a0.size : Int) % 2) == 1)))
theorem instarref04_Unhex.mono_l : ∀ k, (∀ y0 y1, LeO (instarref04_Unhex.j0 k y0 y1) (instarref04_Unhex.j0 (k + 1) y0 y1)) ∧ (∀ y0 y1 y2, LeO (instarref04_Unhex.l0 k y0 y1 y2) (instarref04_Unhex.l0 (k + 1) y0 y1 y2))
  | 0 => ⟨fun _ _ r h => by simp [instarref04_Unhex.j0] at h, fun _ _ _ r h => by simp [instarref04_Unhex.l0] at h⟩
  | k + 1 => by
    obtain ⟨ih0, ih1⟩ := instarref04_Unhex.mono_l k
    refine ⟨?_, ?_⟩
    · intro y0 y1
      unfold instarref04_Unhex.j0
      repeat' first
      | (with_reducible exact ih0 _ _)
      | (with_reducible exact ih1 _ _ _)
      | (with_reducible exact instarref04_place.mono _ _)
      | (with_reducible exact LeO.refl _)
      | (with_reducible exact LeO.none _)
      | (with_reducible refine LeO.ite ?_ ?_)
      | (with_reducible refine LeO.bind ?_ (fun _ => ?_))
      | exact ih0 _ _
      | exact ih1 _ _ _
      | exact instarref04_place.mono _ _
      | exact LeO.none _
      | refine LeO.ite ?_ ?_
      | refine LeO.bind ?_ (fun _ => ?_)
    · intro y0 y1 y2
      unfold instarref04_Unhex.l0
      repeat' first
      | (with_reducible exact ih0 _ _)
      | (with_reducible exact ih1 _ _ _)
      | (with_reducible exact instarref04_place.mono _ _)
      | (with_reducible exact LeO.refl _)
      | (with_reducible exact LeO.none _)
      | (with_reducible refine LeO.ite ?_ ?_)
      | (with_reducible refine LeO.bind ?_ (fun _ => ?_))
      | exact ih0 _ _
      | exact ih1 _ _ _
      | exact instarref04_place.mono _ _
      | exact LeO.none _
      | refine LeO.ite ?_ ?_
      | refine LeO.bind ?_ (fun _ => ?_)
theorem instarref04_Unhex.mono : ∀ a0 k, LeO (instarref04_Unhex.f k a0) (instarref04_Unhex.f (k + 1) a0) := by
  intro a0 k
  obtain ⟨ih0, ih1⟩ := instarref04_Unhex.mono_l k
  unfold instarref04_Unhex.f
  repeat' first
      | (with_reducible exact ih0 _ _)
      | (with_reducible exact ih1 _ _ _)
      | (with_reducible exact instarref04_place.mono _ _)
      | (with_reducible exact LeO.refl _)
      | (with_reducible exact LeO.none _)
      | (with_reducible refine LeO.ite ?_ ?_)
      | (with_reducible refine LeO.bind ?_ (fun _ => ?_))
      | exact ih0 _ _
      | exact ih1 _ _ _
      | exact instarref04_place.mono _ _
      | exact LeO.none _
      | refine LeO.ite ?_ ?_
      | refine LeO.bind ?_ (fun _ => ?_)
def instarref04_Hex.l0 : Nat → ByteArray → ByteArray → Int → Option (ByteArray)
  | 0, _, _, _ => none
  | k + 1, x0, x3, x4 => if x4 < (x0.size : Int) then (if 0 ≤ x4 then (if 0 ≤ (wrap64 (Int.tdiv (wrap64 (bt x0 x4)) 16)) then (if (wrap64 (Int.tdiv (wrap64 (bt x0 x4)) 16)) ≤ (wrap64 ((wrap64 (Int.tdiv (wrap64 (bt x0 x4)) 16)) + 1)) then (if (wrap64 ((wrap64 (Int.tdiv (wrap64 (bt x0 x4)) 16)) + 1)) ≤ 16 then (if x3.size + ((⟨#[48, 49, 50, 51, 52, 53, 54, 55, 56, 57, 97, 98, 99, 100, 101, 102]⟩ : ByteArray).extract ((wrap64 (Int.tdiv (wrap64 (bt x0 x4)) 16)) : Int).toNat ((wrap64 ((wrap64 (Int.tdiv (wrap64 (bt x0 x4)) 16)) + 1)) : Int).toNat).size ≤ 9223372036854775807 then (if 0 ≤ (Int.tmod (wrap64 (bt x0 x4)) 16) then (if (Int.tmod (wrap64 (bt x0 x4)) 16) ≤ (wrap64 ((Int.tmod (wrap64 (bt x0 x4)) 16) + 1)) then (if (wrap64 ((Int.tmod (wrap64 (bt x0 x4)) 16) + 1)) ≤ 16 then (if (x3 ++ ((⟨#[48, 49, 50, 51, 52, 53, 54, 55, 56, 57, 97, 98, 99, 100, 101, 102]⟩ : ByteArray).extract ((wrap64 (Int.tdiv (wrap64 (bt x0 x4)) 16)) : Int).toNat ((wrap64 ((wrap64 (Int.tdiv (wrap64 (bt x0 x4)) 16)) + 1)) : Int).toNat)).size + ((⟨#[48, 49, 50, 51, 52, 53, 54, 55, 56, 57, 97, 98, 99, 100, 101, 102]⟩ : ByteArray).extract ((Int.tmod (wrap64 (bt x0 x4)) 16) : Int).toNat ((wrap64 ((Int.tmod (wrap64 (bt x0 x4)) 16) + 1)) : Int).toNat).size ≤ 9223372036854775807 then (instarref04_Hex.l0 k x0 ((x3 ++ ((⟨#[48, 49, 50, 51, 52, 53, 54, 55, 56, 57, 97, 98, 99, 100, 101, 102]⟩ : ByteArray).extract ((wrap64 (Int.tdiv (wrap64 (bt x0 x4)) 16)) : Int).toNat ((wrap64 ((wrap64 (Int.tdiv (wrap64 (bt x0 x4)) 16)) + 1)) : Int).toNat)) ++ ((⟨#[48, 49, 50, 51, 52, 53, 54, 55, 56, 57, 97, 98, 99, 100, 101, 102]⟩ : ByteArray).extract ((Int.tmod (wrap64 (bt x0 x4)) 16) : Int).toNat ((wrap64 ((Int.tmod (wrap64 (bt x0 x4)) 16) + 1)) : Int).toNat)) (wrap64 (x4 + 1))) else (none)) else (none)) else (none)) else (none)) else (none)) else (none)) else (none)) else (none)) else (none)) else (some x3)
def instarref04_Hex.f (k : Nat) (a0 : ByteArray) : Option (ByteArray) := if (a0.size : Int) = 0 then (some (⟨#[45]⟩ : ByteArray)) else (instarref04_Hex.l0 k a0 (⟨#[]⟩ : ByteArray) 0)
theorem instarref04_Hex.mono_l : ∀ k, (∀ y0 y1 y2, LeO (instarref04_Hex.l0 k y0 y1 y2) (instarref04_Hex.l0 (k + 1) y0 y1 y2))
  | 0 => fun _ _ _ r h => by simp [instarref04_Hex.l0] at h
  | k + 1 => by
    have ih0 := instarref04_Hex.mono_l k
    · intro y0 y1 y2
      unfold instarref04_Hex.l0
      repeat' first
      | (with_reducible exact ih0 _ _ _)
      | (with_reducible exact LeO.refl _)
      | (with_reducible exact LeO.none _)
      | (with_reducible refine LeO.ite ?_ ?_)
      | (with_reducible refine LeO.bind ?_ (fun _ => ?_))
      | exact ih0 _ _ _
      | exact LeO.none _
      | refine LeO.ite ?_ ?_
      | refine LeO.bind ?_ (fun _ => ?_)
theorem instarref04_Hex.mono : ∀ a0 k, LeO (instarref04_Hex.f k a0) (instarref04_Hex.f (k + 1) a0) := by
  intro a0 k
  have ih0 := instarref04_Hex.mono_l k
  unfold instarref04_Hex.f
  repeat' first
      | (with_reducible exact ih0 _ _ _)
      | (with_reducible exact LeO.refl _)
      | (with_reducible exact LeO.none _)
      | (with_reducible refine LeO.ite ?_ ?_)
      | (with_reducible refine LeO.bind ?_ (fun _ => ?_))
      | exact ih0 _ _ _
      | exact LeO.none _
      | refine LeO.ite ?_ ?_
      | refine LeO.bind ?_ (fun _ => ?_)
end Go.Proofs.YtiddiboclfpklaaDoor.TxM
namespace Go.Proofs.YtiddiboclfpklaaDoor.Tx
open Go.RowKit Go.Proofs.YtiddiboclfpklaaDoorW.PrintWords Go.Proofs.YtiddiboclfpklaaDoor.PTextsNums Go.Proofs.YtiddiboclfpklaaDoor.TxM
set_option linter.unusedVariables false
/-- The half of a byte of a digit. -/
def halfF (x : Int) : Option Int := if 48 ≤ x ∧ x ≤ 57 then some (x - 48) else if 97 ≤ x ∧ x ≤ 102 then some (x - 87) else none
theorem halfF_some {x v : Int} (h : halfF x = some v) : 0 ≤ v ∧ v < 16 ∧ figF v = x := by
  unfold halfF at h
  unfold figF
  split at h
  · have := Option.some.inj h
    refine ⟨by omega, by omega, ?_⟩
    rw [if_pos (by omega)]; omega
  · split at h
    · have := Option.some.inj h
      refine ⟨by omega, by omega, ?_⟩
      rw [if_neg (by omega)]; omega
    · cases h
theorem halfF_fig (v : Int) (h : 0 ≤ v ∧ v < 16) : halfF (figF v) = some v := by
  unfold halfF figF
  by_cases h1 : v < 10
  · rw [if_pos h1, if_pos (by omega)]; congr 1; omega
  · rw [if_neg h1, if_neg (by omega), if_pos (by omega)]; congr 1; omega
/-- The bytes of digits. -/
def unhexL : List Int → Option (List Int)
  | [] => some []
  | [_] => none
  | a :: b :: l => (halfF a).bind fun x => (halfF b).bind fun y => (unhexL l).map fun m => (16 * x + y) :: m
def outU (s : ByteArray) (r : Option (List Int)) : ByteArray × Int := match r with
  | some m => if s.size = 0 then (⟨#[]⟩, 4) else (strOfNums m, 0)
  | none => (⟨#[]⟩, 4)
/-- The bytes of a text, and 0; or none, and 4. -/
def unhexS (s : ByteArray) : ByteArray × Int := if s.toList = [45] then (⟨#[]⟩, 0) else outU s (unhexL (bytesOf s))
theorem unhex_hex : ∀ l : List Int, (∀ x ∈ l, 0 ≤ x ∧ x < 256) → unhexL (hexL l) = some l
  | [], _ => rfl
  | x :: l, h => by
    have hx := h x List.mem_cons_self
    rw [hexL, unhexL, halfF_fig _ (by omega), Option.bind_some, halfF_fig _ (by omega), Option.bind_some, unhex_hex l (fun y hy => h y (List.mem_cons_of_mem _ hy)), Option.map_some]
    congr 2
    omega
theorem hexL_byte : ∀ l : List Int, (∀ x ∈ l, 0 ≤ x ∧ x < 256) → ∀ y ∈ hexL l, 0 ≤ y ∧ y < 256
  | [], _, y, hy => by cases hy
  | x :: l, h, y, hy => by
    have hx := h x List.mem_cons_self
    rw [hexL, List.mem_cons, List.mem_cons] at hy
    have fig : ∀ v : Int, 0 ≤ v ∧ v < 16 → 0 ≤ figF v ∧ figF v < 256 := fun v hv => by
      unfold figF
      split <;> omega
    rcases hy with rfl | rfl | hy
    · exact fig _ (by omega)
    · exact fig _ (by omega)
    · exact hexL_byte l (fun y hy => h y (List.mem_cons_of_mem _ hy)) y hy
theorem toList_length (s : ByteArray) : s.toList.length = s.size := by rw [Lib.toList_data, data_length]
/-- There and back. -/
theorem unhex_of_hex (b : ByteArray) : unhexS (hexF b) = (b, 0) := by
  unfold hexF
  by_cases h0 : b.size = 0
  · rw [if_pos h0]
    obtain rfl : b = ⟨#[]⟩ := ByteArray.ext (Array.eq_empty_of_size_eq_zero h0)
    rw [unhexS, if_pos (by kernel_rfl)]
  · rw [if_neg h0]
    have hb := bytesOf_byte b
    have hz : (strOfNums (hexL (bytesOf b))).size = 2 * b.size := by rw [strOf_size, hexL_length, bytesOf_length]
    rw [unhexS, if_neg (fun e => by have := congrArg List.length e; rw [toList_length, hz] at this; simp at this; omega), bytesOf_strOf _ (hexL_byte _ hb), unhex_hex _ hb, outU, if_neg (by omega), strOf_bytesOf]
theorem halfF_a {x : Int} (h : 48 ≤ x ∧ x ≤ 57) : halfF x = some (x - 48) := if_pos h
theorem halfF_b {x : Int} (h : 97 ≤ x ∧ x ≤ 102) : halfF x = some (x - 87) := by unfold halfF; rw [if_neg (by omega), if_pos h]
theorem halfF_n {x : Int} (h : ¬ (48 ≤ x ∧ x ≤ 57)) (h2 : ¬ (97 ≤ x ∧ x ≤ 102)) : halfF x = none := by unfold halfF; rw [if_neg h, if_neg h2]
theorem half_eval (k : Nat) (x : Int) (h : 0 ≤ x ∧ x < 256) : texts_half.f (k + 1) x = some (match halfF x with | some v => (v, true) | none => (0, false)) := by
  rw [texts_half.f]
  by_cases h1 : 48 ≤ x
  · rw [if_pos h1, texts_half.j0]
    by_cases h2 : x ≤ 57
    · rw [decide_eq_true h2, if_pos rfl, halfF_a ⟨h1, h2⟩]
      congr 2; omega
    · rw [decide_eq_false h2, if_neg Bool.false_ne_true]
      by_cases h3 : 97 ≤ x
      · rw [if_pos h3]
        by_cases h4 : x ≤ 102
        · rw [if_pos h4, halfF_b ⟨h3, h4⟩]
          congr 2; omega
        · rw [if_neg h4, halfF_n (by omega) (by omega)]
      · rw [if_neg h3, halfF_n (by omega) (by omega)]
  · rw [if_neg h1, texts_half.j0, if_neg Bool.false_ne_true, if_neg (by omega), halfF_n (by omega) (by omega)]
theorem or_half (a b : Int) (ha : 0 ≤ a ∧ a < 16) (hb : 0 ≤ b ∧ b < 16) : Go.bits .or .u8 ((a * 16) % 256) b = 16 * a + b := by
  rw [u8_or _ b (by omega) (by omega) (by omega) (by omega)]
  have e : ((a * 16) % 256).toNat = a.toNat <<< 4 := by rw [Nat.shiftLeft_eq]; omega
  rw [e, ← Nat.shiftLeft_add_eq_or_of_lt (by omega), Nat.shiftLeft_eq]
  omega
theorem drop_two {l : List Int} {i : Nat} {a b : Int} {r : List Int} (h : l.drop i = a :: b :: r) : rd l (i : Int) = a ∧ rd l ((i : Int) + 1) = b ∧ l.drop (i + 2) = r := by
  have h0 : l[i]? = some a := by
    have := congrArg (fun l => l[0]?) h
    simpa using this
  have h1 : l[i + 1]? = some b := by
    have := congrArg (fun l => l[1]?) h
    simpa using this
  refine ⟨by simp [rd, List.getD_eq_getElem?_getD, h0], ?_, ?_⟩
  · unfold rd
    rw [show ((i : Int) + 1).toNat = i + 1 by omega]
    simp [List.getD_eq_getElem?_getD, h1]
  · rw [← List.drop_drop, h]; rfl
theorem unhex_loop (s : ByteArray) : ∀ (n : Nat) (l acc : List Int) (i k : Nat), l.length ≤ n → (bytesOf s).drop i = l → i + l.length = s.size → i % 2 = 0 → l.length + 3 ≤ k → s.size ≤ 16777216 → acc.length ≤ i →
    texts_Unhex.l0 k s acc i = some (outU s ((unhexL l).map fun m => acc ++ m))
  | n, [], acc, i, k, hn, hl, hi, he, hk, hs, ha => by
    obtain ⟨k, rfl⟩ : ∃ k', k = k' + 1 := ⟨k - 1, by simp at hk; omega⟩
    simp only [List.length_nil, Nat.add_zero] at hi
    rw [texts_Unhex.l0, IntWalk.wrap64_in _ (by omega), if_neg (by omega), unhexL, Option.map_some, List.append_nil, outU]
    by_cases h0 : s.size = 0
    · rw [if_pos (List.eq_nil_of_length_eq_zero (by rw [toList_length]; exact h0)), if_pos h0]
    · rw [if_neg (fun e => h0 (by rw [← toList_length, e]; rfl)), if_neg h0, if_pos (by omega)]
  | n, [a], acc, i, k, hn, hl, hi, he, hk, hs, ha => by
    obtain ⟨k, rfl⟩ : ∃ k', k = k' + 1 := ⟨k - 1, by simp at hk; omega⟩
    simp only [List.length_cons, List.length_nil] at hi
    have hodd : ¬ (s.size : Int) % 2 = 0 := by omega
    have hnn : ¬ s.toList = [] := fun e => by
      have h : s.size = 0 := by rw [← toList_length, e]; rfl
      omega
    rw [texts_Unhex.l0, IntWalk.wrap64_in _ (by omega), if_neg (by omega), unhexL, Option.map_none, outU, if_neg hnn, if_neg hodd]
  | 0, a :: b :: l, acc, i, k, hn, hl, hi, he, hk, hs, ha => absurd hn (by simp)
  | n + 1, a :: b :: l, acc, i, k, hn, hl, hi, he, hk, hs, ha => by
    simp only [List.length_cons] at hi hk hn
    obtain ⟨k, rfl⟩ : ∃ k', k = k' + 2 := ⟨k - 2, by omega⟩
    obtain ⟨r0, r1, r2⟩ := drop_two hl
    rw [rd_bytesOf] at r0 r1
    have hab : ∀ x ∈ a :: b :: l, 0 ≤ x ∧ x < 256 := fun x hx => bytesOf_byte s x (List.mem_of_mem_drop (by rw [hl]; exact hx))
    have hA := hab a List.mem_cons_self
    have hB := hab b (List.mem_cons_of_mem _ List.mem_cons_self)
    rw [texts_Unhex.l0, IntWalk.wrap64_in ((i : Int) + 1) (by omega), if_pos (by omega), if_pos (by omega), if_pos (by omega), r0, r1, half_eval _ a hA, half_eval _ b hB, Option.bind_some, if_pos (by omega), Option.bind_some, unhexL]
    cases hha : halfF a with
    | none => rw [if_neg Bool.false_ne_true, Option.bind_none, Option.map_none, outU]
    | some x =>
      rw [if_pos rfl, Option.bind_some]
      cases hhb : halfF b with
      | none => rw [if_neg Bool.false_ne_true, Option.bind_none, Option.map_none, outU]
      | some y =>
        obtain ⟨x0, x1, _⟩ := halfF_some hha
        obtain ⟨y0, y1, _⟩ := halfF_some hhb
        rw [if_pos rfl, if_pos (by omega), or_half x y ⟨x0, x1⟩ ⟨y0, y1⟩, IntWalk.wrap64_in ((i : Int) + 2) (by omega), Option.bind_some]
        have := unhex_loop s n l (acc ++ [16 * x + y]) (i + 2) (k + 1) (by omega) r2 (by omega) (by omega) (by omega) hs (by simp; omega)
        rw [Int.natCast_add] at this
        rw [show ((2 : Nat) : Int) = 2 from rfl] at this
        rw [this, Option.map_map]
        congr 3
        funext m
        simp
theorem unhex_eval (s : ByteArray) (hs : s.size ≤ 16777216) : texts_Unhex.f (s.size + 3) s = some (unhexS s) := by
  rw [texts_Unhex.f, unhexS]
  by_cases h : s.toList = [45]
  · rw [if_pos h, if_pos h]
  · have := unhex_loop s s.size (bytesOf s) [] 0 (s.size + 3) (by rw [bytesOf_length]; exact Nat.le_refl _) rfl (by rw [bytesOf_length]; omega) rfl (by rw [bytesOf_length]; exact Nat.le_refl _) hs (Nat.le_refl _)
    rw [if_neg h, if_neg h, show (0 : Int) = ((0 : Nat) : Int) from rfl, this]
    congr 2
    simp
theorem unhex_calls (s : ByteArray) (hs : s.size ≤ 16777216) (w : World) : Calls Tryd.prog 15 #[.string s] w fun e w' => e = .returned (.tuple #[.string (unhexS s).1, .int .i64 (unhexS s).2]) ∧ Below w.heap.size w w' :=
  texts_Unhex.calls (s.size + 3) s _ _ w (unhex_eval s hs)
end Go.Proofs.YtiddiboclfpklaaDoor.Tx
namespace Go.Proofs.YtiddiboclfpklaaDoor.Tz
open Go.RowKit Go.Proofs.YtiddiboclfpklaaDoorW.PrintWords Go.Proofs.YtiddiboclfpklaaDoor.PScriptReads Go.Proofs.YtiddiboclfpklaaDoor.Tx
set_option linter.unusedVariables false
theorem un50 : Tryd.prog.underlying 50 = some (.slice 107) := by kernel_rfl
/-- Whether a word begins with a colon; what is behind it. -/
def colonF (s : ByteArray) : Bool := (s.extract 0 1).toList == [58]
def restF (s : ByteArray) : ByteArray := if colonF s then s.extract 1 s.size else s
theorem colon_size {s : ByteArray} (h : colonF s = true) : 1 ≤ s.size := by
  unfold colonF at h
  have h2 := congrArg List.length (beq_iff_eq.1 h)
  rw [Lib.toList_data, data_length] at h2
  simp at h2
  omega
theorem colon_empty {s : ByteArray} (h : ¬ 1 ≤ s.size) : colonF s = false := by
  cases hc : colonF s with
  | false => rfl
  | true => exact absurd (colon_size hc) h
set_option maxHeartbeats 2000000 in
set_option maxRecDepth 100000 in
theorem hasPrefix_calls (s : ByteArray) (w : World) : Calls Tryd.prog 99 #[.string s, .string ⟨#[58]⟩] w fun e w' => e = .returned (.bool (colonF s)) ∧ Drawn0 w w' := by
  by_cases h : 1 ≤ s.size
  · have e0 : decide (1 ≤ (s.size : Int)) = true := decide_eq_true (by omega)
    have e1 : decide (1 ≤ s.size) = true := decide_eq_true h
    obtain ⟨b, hb⟩ : ∃ b, colonF s = b := ⟨_, rfl⟩
    have hq : ((s.extract 0 1).toList == [58]) = b := hb
    rw [hb]
    clear hb
    go_enter Tryd.func99, Tryd.ntmps99
    go_wp2
    go_ret
    exact ⟨by first | rfl | (simp; done) | (simp [*]; done) | (rw [← hq]; rfl), Drawn0.refl _⟩
  · rw [colon_empty h]
    have e0 : decide (1 ≤ (s.size : Int)) = false := decide_eq_false (by omega)
    have e1 : decide (1 ≤ s.size) = false := decide_eq_false h
    go_enter Tryd.func99, Tryd.ntmps99
    go_wp2
    go_ret
    exact ⟨rfl, Drawn0.refl _⟩
set_option maxHeartbeats 2000000 in
set_option maxRecDepth 100000 in
theorem cutPrefix1_calls (s : ByteArray) (w : World) : Calls Tryd.prog 93 #[.string s, .string ⟨#[58]⟩] w fun e w' => e = .returned (.tuple #[.string (restF s), .bool (colonF s)]) ∧ Drawn0 w w' := by
  have HP : Aside0 (∀ W, Calls Tryd.prog 99 #[.string s, .string ⟨#[58]⟩] W fun e w' => e = .returned (.bool (colonF s)) ∧ Drawn0 W w') := ⟨fun W => hasPrefix_calls s W⟩
  unfold restF
  cases hc : colonF s with
  | true =>
    have h1 := colon_size hc
    have e0 : (1 ≤ (s.size : Int)) = True := eq_true (by omega)
    have e1 : decide (1 ≤ (s.size : Int)) = true := decide_eq_true (by omega)
    have e2 : decide (1 ≤ s.size) = true := decide_eq_true h1
    rw [hc] at HP
    go_enter Tryd.func93, Tryd.ntmps93
    go_wp2_with (go_at_call 99; refine (HP.out _).mono ?_; rintro e w2 ⟨rfl, ⟨⟨nq, rfl⟩⟩⟩)
    go_ret2
    exact ⟨by first | rfl | (simp; done), ⟨_, rfl⟩⟩
  | false =>
    rw [hc] at HP
    go_enter Tryd.func93, Tryd.ntmps93
    go_wp2_with (go_at_call 99; refine (HP.out _).mono ?_; rintro e w2 ⟨rfl, ⟨⟨nq, rfl⟩⟩⟩)
    go_ret2
    exact ⟨rfl, ⟨_, rfl⟩⟩
set_option maxHeartbeats 2000000 in
set_option maxRecDepth 100000 in
theorem cutPrefix_calls (s : ByteArray) (w : World) : Calls Tryd.prog 88 #[.string s, .string ⟨#[58]⟩] w fun e w' => e = .returned (.tuple #[.string (restF s), .bool (colonF s)]) ∧ Drawn0 w w' := by
  have HP : Aside0 (∀ W, Calls Tryd.prog 93 #[.string s, .string ⟨#[58]⟩] W fun e w' => e = .returned (.tuple #[.string (restF s), .bool (colonF s)]) ∧ Drawn0 W w') := ⟨fun W => cutPrefix1_calls s W⟩
  go_enter Tryd.func88, Tryd.ntmps88
  go_wp2_with (go_at_call 93; refine (HP.out _).mono ?_; rintro e w2 ⟨rfl, ⟨⟨nq, rfl⟩⟩⟩)
  go_ret2
  exact ⟨rfl, ⟨_, rfl⟩⟩
theorem restF_size (s : ByteArray) : (restF s).size ≤ s.size := by
  unfold restF
  split
  · simp
  · exact Nat.le_refl _
/-- A word that is a value; the value. -/
def isVal (s : ByteArray) : Bool := if colonF s then decide ((unhexS (restF s)).2 = 0) && !decide ((unhexS (restF s)).1.size = 0) else isNum s
def valOf (s : ByteArray) : S107 := if colonF s then ⟨0, (unhexS (restF s)).1⟩ else ⟨numOf s, ⟨#[]⟩⟩
/-- What values makes. -/
def ValsPost (w : World) (l : List ByteArray) (e : Ending) (w' : World) : Prop :=
  ((l.all isVal = true ∧ ∃ v, e = .returned (.tuple #[v, .bool true]) ∧ Kd.R k107 107 w' w.heap.size (fun _ => True) v (l.map valOf)) ∨ (l.all isVal = false ∧ e = .returned (.tuple #[.slice none 0 0, .bool false]))) ∧ Below w.heap.size w w'
/-- Between two rounds. -/
def ValsSt (w wr : World) (v : Value) (ns : List S107) : Prop := Kd.R k107 107 wr w.heap.size (fun _ => True) v ns ∧ Below w.heap.size w wr
set_option maxHeartbeats 4000000 in
set_option maxRecDepth 100000 in
theorem values_calls (l : List ByteArray) (A : Option Addr) (c : Nat) (w : World) (hr : Kd.C Kd.string w A l.length l) (hx : ∀ x ∈ l, x.size ≤ 16777216) (hl : l.length ≤ 16777216) :
    Calls Tryd.prog 81 #[.slice A l.length c] w (ValsPost w l) := by
  have HR := Aside0.mk hr
  have HX := Aside0.mk hx
  clear hr hx
  obtain ⟨N, hN⟩ : ∃ N, l.length = N := ⟨_, rfl⟩
  rw [hN] at HR hl ⊢
  have HN := Aside0.mk hN
  clear hN
  have S0 : Aside0 (ValsSt w w (.slice none 0 0) ((l.take 0).map valOf) ∧ (l.take 0).all isVal = true) := ⟨⟨Kd.R_nil _ _ _ _ _, Below.refl _ _⟩, rfl⟩
  go_enter Tryd.func81, Tryd.ntmps81
  go_wp2_with fail
  go_loopw [4, 15] (fun v i wr => ∃ t : Nat, t ≤ N ∧ i = .int .i64 (t : Int) ∧ Aside0 (ValsSt w wr v ((l.take t).map valOf) ∧ (l.take t).all isVal = true)) (fun _ i _ => N - (intOf i).toNat)
  case atStart => exact ⟨0, by omega, rfl, S0⟩
  case round =>
    clear S0
    obtain ⟨t, ht, rfl, S⟩ := hrel
    obtain ⟨A3, c3, rfl⟩ := Kd.R_slice S.out.1.1
    by_cases hlt : t < N
    · have hb5 : (0 : Int) ≤ (t : Int) := by omega
      have hb6 : (t : Int) < (N : Int) := by omega
      obtain ⟨ad, cs, rfl, _, hk, hc⟩ := Kd.C_get (Kd.C_below HR.out S.out.1.2) ByteArray.empty (t : Int) hb5 hb6
      rw [Int.toNat_natCast] at hk hc
      have htl : t < l.length := by rw [HN.out]; exact hlt
      obtain ⟨x, hx⟩ : ∃ x, l.getD t ByteArray.empty = x := ⟨_, rfl⟩
      rw [hx] at hk
      have hxe : l[t] = x := by rw [← hx]; simp [htl]
      obtain rfl : cs = [.string x] := hk
      have hc0 : wr.cell? (ad.add t) = some (.string x) := by
        have h := hc 0 (.string x) rfl
        rw [show t * Kd.string.sz + 0 = t from Nat.mul_one t] at h
        exact h
      have hxs := HX.out x (by rw [← hxe]; exact List.getElem_mem htl)
      have htk : l.take (t + 1) = l.take t ++ [x] := by rw [List.take_succ_eq_append_getElem htl, hxe]
      have HRd : Aside0 (∀ W, Calls Tryd.prog 10 #[.string x] W fun e w' => e = .returned (.tuple #[.int .i64 (readU x).1, .int .i64 (readU x).2]) ∧ Below W.heap.size W w') := ⟨fun W => read_calls x (by omega) W⟩
      have HCP : Aside0 (∀ W, Calls Tryd.prog 88 #[.string x, .string ⟨#[58]⟩] W fun e w' => e = .returned (.tuple #[.string (restF x), .bool (colonF x)]) ∧ Drawn0 W w') := ⟨fun W => cutPrefix_calls x W⟩
      have HUx : Aside0 (∀ W, Calls Tryd.prog 15 #[.string (restF x)] W fun e w' => e = .returned (.tuple #[.string (unhexS (restF x)).1, .int .i64 (unhexS (restF x)).2]) ∧ Below W.heap.size W w') := ⟨fun W => unhex_calls (restF x) (by have := restF_size x; omega) W⟩
      have hno : isVal x = false → l.all isVal = false := by
        intro h0
        rw [← Bool.not_eq_true, List.all_eq_true]
        intro h1
        have := h1 l[t] (List.getElem_mem htl)
        rw [hxe, h0] at this
        cases this
      have htm : (l.take (t + 1)).map valOf = (l.take t).map valOf ++ [valOf x] := by rw [htk, List.map_append]; rfl
      have hta : (l.take (t + 1)).all isVal = isVal x := by rw [htk, List.all_append, S.out.2, Bool.true_and]; simp
      obtain ⟨ns, hns⟩ : ∃ ns, (l.take t).map valOf = ns := ⟨_, rfl⟩
      have hnl : ns.length ≤ 16777216 := by rw [← hns, List.length_map, List.length_take]; omega
      rw [hns] at S htm
      rw [hns]
      have hiv : isVal x = if colonF x then decide ((unhexS (restF x)).2 = 0) && !decide ((unhexS (restF x)).1.size = 0) else decide ((readU x).2 = 0) := rfl
      have hvo : valOf x = if colonF x then ⟨0, (unhexS (restF x)).1⟩ else ⟨(readU x).1, ⟨#[]⟩⟩ := rfl
      obtain ⟨cl, hcl⟩ : ∃ cl, colonF x = cl := ⟨_, rfl⟩
      obtain ⟨rs, hrs⟩ : ∃ rs, restF x = rs := ⟨_, rfl⟩
      rw [hcl] at hiv hvo HCP
      rw [hrs] at hiv hvo HCP HUx
      obtain ⟨vx, hvx⟩ : ∃ vx, valOf x = vx := ⟨_, rfl⟩
      rw [hvx] at htm hvo
      have HT := Aside0.mk (And.intro htm (And.intro hta (And.intro hno hnl)))
      clear hx hxe hxs htk hno htm hta hns hnl htl hc hcl hrs hvx
      cases cl with
      | true =>
        rw [if_pos rfl] at hiv hvo
        obtain ⟨us, hus⟩ : ∃ us, (unhexS rs).1 = us := ⟨_, rfl⟩
        obtain ⟨ue, hue⟩ : ∃ ue, (unhexS rs).2 = ue := ⟨_, rfl⟩
        rw [hus, hue] at hiv HUx
        rw [hus] at hvo
        clear hus hue
        have HV := Aside0.mk hvo
        clear hvo
        by_cases h0 : ue = 0
        · subst h0
          rw [decide_eq_true rfl, Bool.true_and] at hiv
          by_cases hz : us.size = 0
          · rw [decide_eq_true hz] at hiv
            obtain rfl : us = ⟨#[]⟩ := ByteArray.ext (Array.eq_empty_of_size_eq_zero hz)
            have HOK := Aside0.mk (HT.out.2.2.1 hiv)
            clear hiv hz
            go_wp2_with (first
              | (go_at_call 88; refine (HCP.out _).mono ?_; rintro e w2 ⟨rfl, ⟨⟨nq, rfl⟩⟩⟩)
              | (go_at_call 15; refine (HUx.out _).mono ?_; rintro e w3 ⟨rfl, hB⟩; have B2 := Aside0.mk ((pw_below_drewN S.out.1.2 nq).trans (hB.mono (pw_below_drewN S.out.1.2 nq).size)); clear hB))
            go_ret2
            exact ⟨.inr ⟨HOK.out, rfl⟩, B2.out⟩
          · rw [decide_eq_false hz] at hiv
            have hne := nonempty_false hz
            have HOK := Aside0.mk hiv
            clear hiv hz
            go_wp2_with (first
              | (go_at_call 88; refine (HCP.out _).mono ?_; rintro e w2 ⟨rfl, ⟨⟨nq, rfl⟩⟩⟩)
              | (go_at_call 15; refine (HUx.out _).mono ?_; rintro e w3 ⟨rfl, hB⟩; have S2 : Aside0 (ValsSt w w3 (.slice A3 ns.length c3) ns) := ⟨⟨Kd.R_below (Kd.R_below S.out.1.1 (pw_below_drewN (Below.refl _ _) nq)) hB, (pw_below_drewN S.out.1.2 nq).trans (hB.mono (pw_below_drewN S.out.1.2 nq).size)⟩⟩; clear hB)
              | ((with_reducible refine gate_builtin (b := .append) (xs := #[.tmp 36, .tmp 39]) rfl ?_); at_builtin; refine Kd.R_append k107 (w0 := w) w.heap.size rfl (.tmp 36) (.tmp 39) 50 107 (.agg #[.int .i64 0, .string ⟨#[]⟩]) 24 rfl un50 info107 rfl (by decide) (by decide) (.slice A3 ns.length c3) ns ⟨0, us⟩ [.int .i64 0, .string us] (fun _ => True) (fun _ => False) rfl rfl (k107_mkM _ _ _ ⟨0, us⟩) (fun _ h => h.elim) (fun _ _ => trivial) S2.out.1 S2.out.2 S2.out.2.size (by have := HT.out.2.2.2; omega) ?_; intro v4 w4 ho hb hg hat; have S4 : Aside0 (ValsSt w w4 v4 (ns ++ [⟨0, us⟩])) := ⟨⟨ho, hb⟩⟩; clear ho hb hg hat))
            refine ⟨⟨t + 1, by omega, by go_num, ⟨⟨by rw [HT.out.1, HV.out]; exact S4.out, by rw [HT.out.2.1]; exact HOK.out⟩⟩⟩, ?_⟩
            simp only [intOf]; omega
        · have HOK := Aside0.mk (HT.out.2.2.1 (by rw [hiv, decide_eq_false h0, Bool.false_and]))
          have h0' : (ue == 0) = false := beq_eq_false_iff_ne.2 h0
          clear hiv
          go_wp2_with (first
            | (go_at_call 88; refine (HCP.out _).mono ?_; rintro e w2 ⟨rfl, ⟨⟨nq, rfl⟩⟩⟩)
            | (go_at_call 15; refine (HUx.out _).mono ?_; rintro e w3 ⟨rfl, hB⟩; have B2 := Aside0.mk ((pw_below_drewN S.out.1.2 nq).trans (hB.mono (pw_below_drewN S.out.1.2 nq).size)); clear hB))
          go_ret2
          exact ⟨.inr ⟨HOK.out, rfl⟩, B2.out⟩
      | false =>
        rw [if_neg Bool.false_ne_true] at hiv hvo
        clear HUx
        obtain ⟨n, hn⟩ : ∃ n, (readU x).1 = n := ⟨_, rfl⟩
        obtain ⟨e, he⟩ : ∃ e, (readU x).2 = e := ⟨_, rfl⟩
        rw [hn, he] at HRd
        rw [he] at hiv
        rw [hn] at hvo
        clear hn he
        have HV := Aside0.mk hvo
        clear hvo
        by_cases h0 : e = 0
        · subst h0
          have HOK := Aside0.mk (hiv.trans (decide_eq_true rfl))
          clear hiv
          go_wp2_with (first
            | (go_at_call 88; refine (HCP.out _).mono ?_; rintro e w2 ⟨rfl, ⟨⟨nq, rfl⟩⟩⟩)
            | (go_at_call 10; refine (HRd.out _).mono ?_; rintro e w3 ⟨rfl, hB⟩; have S2 : Aside0 (ValsSt w w3 (.slice A3 ns.length c3) ns) := ⟨⟨Kd.R_below (Kd.R_below S.out.1.1 (pw_below_drewN (Below.refl _ _) nq)) hB, (pw_below_drewN S.out.1.2 nq).trans (hB.mono (pw_below_drewN S.out.1.2 nq).size)⟩⟩; clear hB)
            | ((with_reducible refine gate_builtin (b := .append) (xs := #[.tmp 48, .tmp 51]) rfl ?_); at_builtin; refine Kd.R_append k107 (w0 := w) w.heap.size rfl (.tmp 48) (.tmp 51) 50 107 (.agg #[.int .i64 0, .string ⟨#[]⟩]) 24 rfl un50 info107 rfl (by decide) (by decide) (.slice A3 ns.length c3) ns ⟨n, ⟨#[]⟩⟩ [.int .i64 n, .string ⟨#[]⟩] (fun _ => True) (fun _ => False) rfl rfl (k107_mkM _ _ _ ⟨n, ⟨#[]⟩⟩) (fun _ h => h.elim) (fun _ _ => trivial) S2.out.1 S2.out.2 S2.out.2.size (by have := HT.out.2.2.2; omega) ?_; intro v4 w4 ho hb hg hat; have S4 : Aside0 (ValsSt w w4 v4 (ns ++ [⟨n, ⟨#[]⟩⟩])) := ⟨⟨ho, hb⟩⟩; clear ho hb hg hat))
          refine ⟨⟨t + 1, by omega, by go_num, ⟨⟨by rw [HT.out.1, HV.out]; exact S4.out, by rw [HT.out.2.1]; exact HOK.out⟩⟩⟩, ?_⟩
          simp only [intOf]; omega
        · have HOK := Aside0.mk (HT.out.2.2.1 (hiv.trans (decide_eq_false h0)))
          have h0' : (e == 0) = false := beq_eq_false_iff_ne.2 h0
          clear hiv
          go_wp2_with (first
            | (go_at_call 88; refine (HCP.out _).mono ?_; rintro e w2 ⟨rfl, ⟨⟨nq, rfl⟩⟩⟩)
            | (go_at_call 10; refine (HRd.out _).mono ?_; rintro e w3 ⟨rfl, hB⟩; have B2 := Aside0.mk ((pw_below_drewN S.out.1.2 nq).trans (hB.mono (pw_below_drewN S.out.1.2 nq).size)); clear hB))
          go_ret2
          exact ⟨.inr ⟨HOK.out, rfl⟩, B2.out⟩
    · obtain rfl : t = N := by omega
      have hfull : l.take t = l := List.take_of_length_le (by rw [HN.out]; exact Nat.le_refl _)
      have S1 : Aside0 (∃ ns, ValsSt w wr (.slice A3 ((l.take t).map valOf).length c3) ns ∧ ns = l.map valOf ∧ l.all isVal = true) := ⟨_, S.out.1, by rw [hfull], by have := S.out.2; rwa [hfull] at this⟩
      clear hfull
      go_wp2_with fail
      go_ret2
      obtain ⟨ns, h1, h2, h3⟩ := S1.out
      exact ⟨.inl ⟨h3, _, rfl, by rw [← h2]; exact h1.1⟩, h1.2⟩
end Go.Proofs.YtiddiboclfpklaaDoor.Tz
