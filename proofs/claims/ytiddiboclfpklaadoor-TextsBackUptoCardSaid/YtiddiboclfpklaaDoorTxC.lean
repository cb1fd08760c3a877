/- Whether a row of texts holds one that is no word. -/
import Derived.Test.YtiddiboclfpklaaDoorTxB
namespace Go.Proofs.YtiddiboclfpklaaDoor.Tx
open Go.RowKit Go.Proofs.YtiddiboclfpklaaDoorW.PrintWords
set_option linter.unusedVariables false

set_option maxHeartbeats 1000000 in
theorem notPlain_calls (s : ByteArray) (hs : s.size ≤ 140737488355328) (w : World) :
    Calls Tryd.prog 46 #[.string s] w fun e w' => e = .returned (.bool (!plainF s)) ∧ Below w.heap.size w w' := by
  go_enter Tryd.func46, Tryd.ntmps46
  go_wp2_with ((go_at_call 47; refine (plain_calls s hs _).mono ?_; rintro e w' ⟨rfl, hB⟩; have S := Aside0.mk hB; clear hB))
  go_ret
  exact ⟨rfl, S.out⟩

set_option maxHeartbeats 1000000 in
set_option maxRecDepth 100000 in
theorem indexFunc_calls (xs : List ByteArray) (A : Option Addr) (c : Nat) (hx : ∀ x ∈ xs, x.size ≤ 140737488355328) (w : World) (hr : Kd.C Kd.string w A xs.length xs) :
    Calls Tryd.prog 72 #[.slice A xs.length c, .func (.func 46) #[] #[]] w fun e w' => ∃ i : Int, e = .returned (.int .i64 i) ∧ (decide (0 ≤ i) = xs.any fun x => !plainF x) ∧ Below w.heap.size w w' := by
  have HR := Aside0.mk hr
  have HX := Aside0.mk hx
  clear hr hx
  obtain ⟨n, hn⟩ : ∃ n, xs.length = n := ⟨_, rfl⟩
  rw [hn] at HR ⊢
  have HN := Aside0.mk hn
  clear hn
  have hn63 : n ≤ 9223372036854775807 := Kd.C_max HR.out
  go_enter Tryd.func72, Tryd.ntmps72
  go_wp2_with fail
  go_loopw [8] (fun i wr => ∃ t : Nat, t ≤ n ∧ i = .int .i64 (t : Int) ∧ Aside0 (Below w.heap.size w wr ∧ (xs.take t).all plainF = true)) (fun i _ => n - (intOf i).toNat)
  case atStart => exact ⟨0, by omega, rfl, ⟨Below.refl _ _, by simp⟩⟩
  case round =>
    obtain ⟨t, ht, rfl, S⟩ := hrel
    by_cases hlt : t < n
    · have hb5 : (0 : Int) ≤ (t : Int) := by omega
      have hb6 : (t : Int) < (n : Int) := by omega
      obtain ⟨ad, cs, rfl, _, hk, hcell⟩ := Kd.C_get HR.out ByteArray.empty (t : Int) hb5 hb6
      rw [Int.toNat_natCast] at hk hcell
      obtain ⟨x, hx⟩ : ∃ x, xs.getD t ByteArray.empty = x := ⟨_, rfl⟩
      rw [hx] at hk
      obtain rfl : cs = [.string x] := hk
      have hcw : wr.cell? (ad.add t) = some (.string x) := by
        refine pw_cell_below S.out.1 ?_
        have h1 := hcell 0 (.string x) rfl
        rw [show t * Kd.string.sz + 0 = t from Nat.mul_one t] at h1
        exact h1
      have hl : t < xs.length := by rw [HN.out]; exact hlt
      have hxe : xs[t] = x := by rw [← hx]; simp [List.getD_eq_getElem?_getD, hl]
      have hsx : x.size ≤ 140737488355328 := HX.out x (by rw [← hxe]; exact List.getElem_mem hl)
      have hnx : ((xs.take (t + 1)).all plainF) = plainF x := by
        rw [List.take_succ_eq_append_getElem hl, List.all_append, S.out.2, Bool.true_and, hxe]
        simp
      have hany : plainF x = false → (xs.any fun x => !plainF x) = true := by
        intro h0
        rw [List.any_eq_true]
        exact ⟨xs[t], List.getElem_mem hl, by rw [hxe, h0]; rfl⟩
      have HX2 := Aside0.mk (And.intro hnx hany)
      clear hnx hany hxe hx hcell hl
      cases hp : plainF x with
      | true =>
        have HP := Aside0.mk hp
        clear hp
        go_wp2_with ((go_at_call 46; refine (notPlain_calls x hsx _).mono ?_; rintro e w' ⟨rfl, hB⟩; rw [HP.out]; have S2 := Aside0.mk (S.out.1.trans (hB.mono S.out.1.size)); clear hB))
        refine ⟨⟨t + 1, by omega, by go_num, ⟨S2.out, by rw [HX2.out.1, HP.out]⟩⟩, ?_⟩
        simp only [intOf]; omega
      | false =>
        have HP := Aside0.mk hp
        clear hp
        go_wp2_with ((go_at_call 46; refine (notPlain_calls x hsx _).mono ?_; rintro e w' ⟨rfl, hB⟩; rw [HP.out]; have S2 := Aside0.mk (S.out.1.trans (hB.mono S.out.1.size)); clear hB))
        go_ret
        exact ⟨(t : Int), rfl, by rw [HX2.out.2 HP.out]; simp, S2.out⟩
    · obtain rfl : t = n := by omega
      go_wp2_with fail
      have hall : (xs.any fun x => !plainF x) = false := by
        have h := S.out.2
        rw [List.take_of_length_le (by rw [HN.out]; exact Nat.le_refl _), List.all_eq_true] at h
        rw [List.any_eq_false]
        intro x hx
        rw [h x hx]; simp
      go_ret
      exact ⟨-1, rfl, by rw [hall]; rfl, S.out.1⟩
set_option maxHeartbeats 1000000 in
theorem contains_calls (xs : List ByteArray) (A : Option Addr) (c : Nat) (hx : ∀ x ∈ xs, x.size ≤ 140737488355328) (w : World) (hr : Kd.C Kd.string w A xs.length xs) :
    Calls Tryd.prog 45 #[.slice A xs.length c, .func (.func 46) #[] #[]] w fun e w' => e = .returned (.bool (xs.any fun x => !plainF x)) ∧ Below w.heap.size w w' := by
  go_enter Tryd.func45, Tryd.ntmps45
  go_wp2_with ((go_at_call 72; refine (indexFunc_calls xs A c hx _ hr).mono ?_; rintro e w' ⟨i, rfl, hi, hB⟩; have S := Aside0.mk (And.intro hi hB); clear hi hB))
  go_ret
  exact ⟨by rw [← S.out.1]; rfl, S.out.2⟩
end Go.Proofs.YtiddiboclfpklaaDoor.Tx
