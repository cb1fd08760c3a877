/- The walk of the statement BoxPlays: it answers true. -/
import Derived.Test.YtnaliaebjeikaaaBoxFa
import Derived.BigQuiet
import Derived.Deep.QuietTactic
namespace Go.Proofs.Ytnaliaebjeikaaa
open Go.RowKit Go.Proofs.YtnaliaebjeikaaaW.PrintWords
set_option linter.unusedVariables false

set_option maxHeartbeats 4000000 in
set_option maxRecDepth 100000 in
theorem boxPlays_in (n m : Int) (A : Option Addr) (c1 : Nat) (l : List (Int × Int)) (w : World) (hr : ActsC w A l) (hl : l.length ≤ 300) :
    Calls Try.prog 5 #[.agg #[.int .i64 n, .int .i64 m], .slice A l.length c1] w (TruePost w) := by
  have HR := Aside0.mk hr
  clear hr
  have W0 := Aside0.mk (show Below w.heap.size w (w.alloc (.cells #[.int .i64 n, .int .i64 m] 23)) from (Below.refl _ _).alloc (Nat.le_refl _) _)
  go_enter Try.func5, Try.ntmps5
  go_wp2_with fail
  go_region_held3 (fun w' => w'.cell? ⟨w.heap.size, 0, none⟩ = some (.int .i64 n) ∧ w'.cell? ⟨w.heap.size, 1, none⟩ = some (.int .i64 m))
    (first | go_keep | exact ⟨hn1, hm1⟩ | exact ⟨hn2, hm2⟩)
    ((first
      | (go_at_call 18; refine (newI_calls n _).mono ?_; rintro e w1 ⟨rfl, hA, hB1, hz1⟩; simp at hz1; have hn1 : w1.cell? ⟨w.heap.size, 0, none⟩ = some (.int .i64 n) := (hB1.cell (p := ⟨w.heap.size, 0, none⟩) (by simp)).trans (by simp); have hm1 : w1.cell? ⟨w.heap.size, 1, none⟩ = some (.int .i64 m) := (hB1.cell (p := ⟨w.heap.size, 1, none⟩) (by simp)).trans (by simp))
      | (go_at_call 18; refine (newI_calls m _).mono ?_; rintro e w2 ⟨rfl, hA2, hB2, hz2⟩; have hn2 : w2.cell? ⟨w.heap.size, 0, none⟩ = some (.int .i64 n) := (hB2.cell (p := ⟨w.heap.size, 0, none⟩) (by show w.heap.size < _; omega)).trans hn1; have hm2 : w2.cell? ⟨w.heap.size, 1, none⟩ = some (.int .i64 m) := (hB2.cell (p := ⟨w.heap.size, 1, none⟩) (by show w.heap.size < _; omega)).trans hm1)))
  have hA2' := hA.kept (row := none) (grown_of_below hB2 none) (by simp) (by simp)
  have hsz : w2.heap.size = w.heap.size + 5 := by omega
  have hA3 : HoldsBox 69 (Value.int .i64) w2 (w.heap.size + 2) (w.heap.size + 1) (clamp n) [] := by simpa using hA2'
  have hB3 : HoldsBox 69 (Value.int .i64) w2 (w.heap.size + 4) (w.heap.size + 3) (clamp m) [] := by rw [hz1] at hA2; exact hA2
  have hW2 : Below w.heap.size w w2 := W0.out.trans ((below_drew (Below.refl _ _)).trans ((hB1.mono (by simp)).trans (hB2.mono (by omega))))
  have G := Aside0.mk (And.intro hsz (And.intro hA3 (And.intro hB3 hW2)))
  clear hA hz1 hB1 hA2 hB2 hz2 hA2' hsz hA3 hB3 hW2 hn1 hm1 W0
  have hlt : w.heap.size < w2.heap.size := by have := G.out.1; omega
  go_upto_region 4 with (fail)
  go_cut [7, 8] (fun v7 v8 wc => ∃ x y lo, v7 = .pointer (some ⟨x, 0, none⟩) ∧ v8 = .pointer (some ⟨y, 0, none⟩) ∧ Aside0 (Blocks w (w.heap.size + 2) (w.heap.size + 1) (w.heap.size + 4) (w.heap.size + 3) x y lo) ∧ Aside0 (PlaySt w wc (w.heap.size + 2) (w.heap.size + 1) (w.heap.size + 4) (w.heap.size + 3) x y lo (clamp n) (clamp m) [] []))
  case first =>
    as_aux_lemma =>
      go_region_held3 (fun w' => w'.cell? ⟨w.heap.size, 0, none⟩ = some (.int .i64 n) ∧ w'.cell? ⟨w.heap.size, 1, none⟩ = some (.int .i64 m))
        (first | (refine ⟨?_, ?_⟩ <;> repeat (first | exact hn2 | exact hm2 | refine cell_keepA ?_ _ | refine cell_keepD ?_)) | fail "no keep")
        ((first | (go_at_call 13; refine (refNew_calls _ _).mono ?_; rintro e w' ⟨rfl, rfl⟩)))
      all_goals
        go_wp2_with fail
        go_meet
      all_goals first
        | exact play_start n m _ _ _ _ 0 1 (by decide) (by decide) (by decide) rfl rfl G.out
        | exact play_start n m _ _ _ _ 0 2 (by decide) (by decide) (by decide) rfl rfl G.out
        | exact play_start n m _ _ _ _ 0 3 (by decide) (by decide) (by decide) rfl rfl G.out
        | exact play_start n m _ _ _ _ 1 0 (by decide) (by decide) (by decide) rfl rfl G.out
        | exact play_start n m _ _ _ _ 1 2 (by decide) (by decide) (by decide) rfl rfl G.out
        | exact play_start n m _ _ _ _ 1 3 (by decide) (by decide) (by decide) rfl rfl G.out
        | exact play_start n m _ _ _ _ 2 0 (by decide) (by decide) (by decide) rfl rfl G.out
        | exact play_start n m _ _ _ _ 2 1 (by decide) (by decide) (by decide) rfl rfl G.out
        | exact play_start n m _ _ _ _ 2 3 (by decide) (by decide) (by decide) rfl rfl G.out
        | exact play_start n m _ _ _ _ 3 0 (by decide) (by decide) (by decide) rfl rfl G.out
        | exact play_start n m _ _ _ _ 3 1 (by decide) (by decide) (by decide) rfl rfl G.out
        | exact play_start n m _ _ _ _ 3 2 (by decide) (by decide) (by decide) rfl rfl G.out
  case rest =>
    obtain ⟨x, y, lo, rfl, rfl, HBl, HP⟩ := hcut
    have hcn := clamp_le n
    have hcm := clamp_le m
    clear hcm
    have hcm := clamp_le m
    generalize clamp n = capa at *
    generalize clamp m = capb at *
    generalize hgb : w.heap.size + 4 = bb at *
    generalize hgcb : w.heap.size + 3 = bcb at *
    generalize hga : w.heap.size + 2 = ba at *
    generalize hgca : w.heap.size + 1 = bca at *
    clear hga hgca hgb hgcb
    clear hn2 hm2 hlt
    have HCN := Aside0.mk (And.intro hcn hcm)
    clear hcn hcm
    go_wp2_with fail
    go_loopw [9] (fun i wr => ∃ k : Nat, k ≤ l.length ∧ i = .int .i64 k ∧ Aside0 (∃ xs ys, PlaySt w wr ba bca bb bcb x y lo capa capb xs ys))
      (fun i _ => l.length - (intOf i).toNat)
    case atStart => exact ⟨0, Nat.zero_le _, rfl, ⟨_, _, HP.out⟩⟩
    case round =>
      obtain ⟨k, hk, rfl, HS⟩ := hrel
      clear HP G
      obtain ⟨xs, ys, hS⟩ := HS.out
      have S := Aside0.mk hS
      clear hS HS
      by_cases hlt : k < l.length
      · obtain ⟨ad, cs, e1, hc2, hact, hcell⟩ := ReadsRow.get_ HR.out ((0, 0) : Int × Int) (k : Int) (by omega) (by omega)
        simp only [Int.toNat_natCast] at hact hcell
        generalize l.getD k (0, 0) = act at *
        obtain ⟨kind, x1⟩ := act
        have hk0 : wr.cell? (ad.add (k * 2)) = some (.int .i64 kind) := by have := pw_cell_below S.out.below (hcell 0 (.int .i64 kind) (by rw [hact]; rfl)); simpa using this
        have hkw : w.cell? (⟨(ad.add (k * 2)).block, (ad.add (k * 2)).off + 1, none⟩ : Addr) = some (.int .i64 x1) := by rw [show (⟨(ad.add (k * 2)).block, (ad.add (k * 2)).off + 1, none⟩ : Addr) = (ad.add (k * 2)).add 1 from rfl, Addr.add_add]; exact hcell 1 (.int .i64 x1) (by rw [hact]; rfl)
        have hk1 := pw_cell_below S.out.below hkw
        have HK := Aside0.mk hkw
        clear hcell hact hc2 hkw
        cases e1
        go_upto_block 2 with (fail)
        go_cut [10] (fun v wc => v = .bool true ∧ Aside0 (∃ xs ys, PlaySt w wc ba bca bb bcb x y lo capa capb xs ys))
        case first =>
          by_cases h0 : kind = 0
          · subst h0
            as_aux_lemma =>
              go_upto_region 18 with (fail)
              obtain ⟨bo, H⟩ := S.out.drew.putA HBl.out HCN.out.1 x1
              have HC := Aside0.mk H
              clear H
              go_region_held3 (fun w' => w'.cell? (⟨(ad.add (k * 2)).block, (ad.add (k * 2)).off + 1, none⟩ : Addr) = some (.int .i64 x1))
                (first | go_keep | exact hk3 | exact hk4 | fail "no keep")
                ((first
                  | (go_at_call 19; refine HC.out.mono ?_; rintro e w1 ⟨rfl, hA⟩; have HA := Aside0.mk hA; have hk3 := pw_cell_below hA.1 HK.out; clear hA)
                  | (go_at_call 20; refine HA.out.2.mono ?_; rintro e w2 ⟨rfl, hE, hB⟩; have HE := Aside0.mk hE; have hk4 := pw_cell_below hB HK.out; clear hE hB)))
              go_wp2_with fail
              go_meet
              exact ⟨rfl, ⟨HE.out⟩⟩
          · by_cases h1 : kind = 1
            · subst h1
              as_aux_lemma =>
                go_upto_region 20 with (fail)
                obtain ⟨bo, H⟩ := S.out.drew.putB HBl.out HCN.out.2 x1
                have HC := Aside0.mk H
                clear H
                go_region_held3 (fun w' => w'.cell? (⟨(ad.add (k * 2)).block, (ad.add (k * 2)).off + 1, none⟩ : Addr) = some (.int .i64 x1))
                  (first | go_keep | exact hk3 | exact hk4 | fail "no keep")
                  ((first
                    | (go_at_call 19; refine HC.out.mono ?_; rintro e w1 ⟨rfl, hA⟩; have HA := Aside0.mk hA; have hk3 := pw_cell_below hA.1 HK.out; clear hA)
                    | (go_at_call 20; refine HA.out.2.mono ?_; rintro e w2 ⟨rfl, hE, hB⟩; have HE := Aside0.mk hE; have hk4 := pw_cell_below hB HK.out; clear hE hB)))
                go_wp2_with fail
                go_meet
                exact ⟨rfl, ⟨HE.out⟩⟩
            · clear hk1 HK
              by_cases h2 : kind = 2
              · subst h2
                as_aux_lemma =>
                  obtain ⟨z, bo, H⟩ := S.out.takeA HBl.out HCN.out.1
                  have HC := Aside0.mk H
                  clear H
                  go_wp2_with (first
                    | (go_at_call 21; refine HC.out.mono ?_; rintro e w1 ⟨rfl, hA⟩; have HA := Aside0.mk hA; clear hA)
                    | (go_at_call 22; refine HA.out.2.mono ?_; rintro e w2 ⟨rfl, hE, hB⟩; have HE := Aside0.mk hE; clear hE hB))
                  go_meet
                  exact ⟨rfl, ⟨HE.out⟩⟩
              · by_cases h3 : kind = 3
                · subst h3
                  as_aux_lemma =>
                    obtain ⟨z, bo, H⟩ := S.out.takeB HBl.out HCN.out.2
                    have HC := Aside0.mk H
                    clear H
                    go_wp2_with (first
                      | (go_at_call 21; refine HC.out.mono ?_; rintro e w1 ⟨rfl, hA⟩; have HA := Aside0.mk hA; clear hA)
                      | (go_at_call 22; refine HA.out.2.mono ?_; rintro e w2 ⟨rfl, hE, hB⟩; have HE := Aside0.mk hE; clear hE hB))
                    go_meet
                    exact ⟨rfl, ⟨HE.out⟩⟩
                · by_cases h4 : kind = 4
                  · subst h4
                    as_aux_lemma =>
                      cases xs with
                      | cons p xs =>
                        obtain ⟨z, H⟩ := S.out.firstOne HBl.out HCN.out.1 (by simp)
                        have HC := Aside0.mk H
                        clear H
                        go_wp2_with (first
                          | (go_at_call 23; refine HC.out.mono ?_; rintro e w1 ⟨rfl, hA⟩; have HA := Aside0.mk hA; clear hA)
                          | (go_at_call 22; refine HA.out.2.mono ?_; rintro e w2 ⟨rfl, hE, hB⟩; have HE := Aside0.mk hE; clear hE hB))
                        go_meet
                        exact ⟨rfl, ⟨HE.out⟩⟩
                      | nil =>
                        cases ys with
                        | nil =>
                          have HC := Aside0.mk (S.out.firstNil HBl.out HCN.out.2)
                          go_wp2_with (first
                            | (go_at_call 23; refine HC.out.mono ?_; rintro e w1 ⟨rfl, hA⟩; have HA := Aside0.mk hA; clear hA)
                            | (go_at_call_of 22 x; refine HA.out.2.mono ?_; rintro e w2 ⟨rfl, hB⟩; have HB := Aside0.mk hB; clear hB)
                            | (go_at_call_of 22 y; refine HB.out.2.mono ?_; rintro e w3 ⟨rfl, hE, hB2⟩; have HE := Aside0.mk hE; clear hE hB2))
                          go_meet
                          exact ⟨rfl, ⟨HE.out⟩⟩
                        | cons p ys =>
                          have HC := Aside0.mk (S.out.firstCons HBl.out HCN.out.2)
                          go_wp2_with (first
                            | (go_at_call 23; refine HC.out.mono ?_; rintro e w1 ⟨rfl, hA⟩; have HA := Aside0.mk hA; clear hA)
                            | (go_at_call_of 22 x; refine HA.out.2.mono ?_; rintro e w2 ⟨rfl, hB⟩; have HB := Aside0.mk hB; clear hB)
                            | (go_at_call_of 22 y; refine HB.out.2.mono ?_; rintro e w3 ⟨rfl, hE, hB2⟩; have HE := Aside0.mk hE; clear hE hB2))
                          go_meet
                          exact ⟨rfl, ⟨HE.out⟩⟩
                  · as_aux_lemma =>
                      have HC := Aside0.mk (S.out.allB HBl.out HCN.out.2)
                      have hys : ys.length ≤ 64 := by have := S.out.lb; have := HCN.out.2; omega
                      go_upto_region 11 with (go_at_call 24; refine HC.out.mono ?_; rintro e w1 ⟨A1, cc, Ay, cy, rfl, hA⟩; have HA := Aside0.mk hA; clear hA)
                      have hcy := HA.out.c
                      have hfy := HA.out.f
                      go_wp2_with fail
                      clear hcy hfy S
                      go_loopw [10, 25] (fun v i wq => ∃ j : Nat, j ≤ ys.length ∧ v = .bool true ∧ i = .int .i64 j ∧ Aside0 (Drawn0 w1 wq))
                        (fun _ i _ => ys.length - (intOf i).toNat)
                      case atStart => exact ⟨0, Nat.zero_le _, rfl, rfl, ⟨Drawn0.refl _⟩⟩
                      case round =>
                        obtain ⟨j, hj2, rfl, rfl, HD⟩ := hrel
                        obtain ⟨nd, hnd⟩ := HD.out.out
                        have hcq : wr.cell? ⟨y, 0, none⟩ = some (.slice Ay ys.length cy) := by rw [hnd]; exact HA.out.c
                        by_cases hlt2 : j < ys.length
                        · obtain ⟨a1, e1, hx⟩ := Kd.at_int (Kd.C_drewN HA.out.r1 nd) (j : Int) (by omega) (by omega)
                          cases e1
                          obtain ⟨a2, e2, hy⟩ := (HA.out.r2.drewN nd).at_ (j : Int) (by omega) (by omega)
                          cases e2
                          simp only [Int.toNat_natCast] at hx hy
                          rw [← hnd] at hx hy
                          clear hnd
                          generalize rd ys (j : Int) = p at hx hy
                          go_wp2_with fail
                          go_quiet (fail)
                          go_wp2_with fail
                          go_roundw
                          case rel => exact ⟨j + 1, by omega, rfl, by go_num, ⟨HD.out.step _⟩⟩
                          case measure => simp [intOf]; omega
                        · obtain rfl : j = ys.length := by omega
                          have hfq : wr.frozen? ⟨y, 0, none⟩ = false := by rw [hnd]; exact HA.out.f
                          have FIN : Aside0 (PlayEx w (wr.setCell ⟨y, 0, none⟩ (.slice none 0 0)) ba bca bb bcb x y lo capa capb) := ⟨by rw [hnd]; exact HA.out.fin nd⟩
                          clear hnd
                          go_wp2_with fail
                          go_meet
                          exact ⟨rfl, ⟨FIN.out⟩⟩
        case rest =>
          as_aux_lemma =>
            obtain ⟨rfl, HS2⟩ := hcut
            clear S hk0 hk1 HK
            obtain ⟨xs2, ys2, hS2⟩ := HS2.out
            have S := Aside0.mk hS2
            clear HS2 hS2
            obtain ⟨Ax, cx, hX⟩ := S.out.X
            obtain ⟨Ay, cy, hY⟩ := S.out.Y
            have hx0 : wc.cell? ⟨x, 0, none⟩ = some (.slice Ax xs2.length cx) := by rw [cell_of_row wc x 0 _ _ _ hX.blk]; rfl
            have hx1 : wc.cell? ⟨x, 1, none⟩ = some (.int .i64 capa) := by rw [cell_of_row wc x 1 _ _ _ hX.blk]; rfl
            have hy0 : wc.cell? ⟨y, 0, none⟩ = some (.slice Ay ys2.length cy) := by rw [cell_of_row wc y 0 _ _ _ hY.blk]; rfl
            have hy1 : wc.cell? ⟨y, 1, none⟩ = some (.int .i64 capb) := by rw [cell_of_row wc y 1 _ _ _ hY.blk]; rfl
            clear hX hY
            go_wp2_with fail
            go_quiet (first
              | (go_at_call_of 25 ba; exact Calls.quiet_of_same (lenI_same _ _ _ _ _ (S.out.drewN _).A))
              | (go_at_call_of 25 bb; exact Calls.quiet_of_same (lenI_same _ _ _ _ _ (S.out.drewN _).B))
              | (go_at_call_of 26 ba; exact Calls.quiet_of_same (roomI_same _ _ _ _ _ (S.out.drewN _).A))
              | (go_at_call_of 26 bb; exact Calls.quiet_of_same (roomI_same _ _ _ _ _ (S.out.drewN _).B)))
            go_wp2
            go_roundw
            case rel => exact ⟨k + 1, by omega, by go_num, ⟨_, _, S.out.drewN _⟩⟩
            case measure => simp [intOf]; omega
      · obtain rfl : k = l.length := by omega
        go_wp2_with fail
        refine (awake06_calls wr).mono ?_
        rintro e w' ⟨rfl, hb⟩
        have HB := Aside0.mk hb
        clear hb
        go_wp2
        go_ret
        exact ⟨rfl, S.out.below.trans (HB.out.mono S.out.below.size)⟩
end Go.Proofs.Ytnaliaebjeikaaa
