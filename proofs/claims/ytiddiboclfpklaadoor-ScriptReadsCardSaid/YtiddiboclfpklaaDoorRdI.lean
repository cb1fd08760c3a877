/- Lemmas that the claim's theorem uses. -/
import Derived.Test.YtiddiboclfpklaaDoorRdG
import Derived.Test.YtiddiboclfpklaaDoorRdE
import Derived.Test.YtiddiboclfpklaaDoorRdH
namespace Go.Proofs.YtiddiboclfpklaaDoor.Tz
open Go.RowKit Go.Proofs.YtiddiboclfpklaaDoorW.PrintWords Go.Proofs.YtiddiboclfpklaaDoor.PScriptReads Go.Proofs.YtiddiboclfpklaaDoor.Tx
set_option linter.unusedVariables false
def onlyV (k n : Int) (d : ByteArray) (f : Int) (v : Value) : Value :=
 if k = 1 then .agg #[.int .i64 k, .int .i64 n, .string ⟨#[]⟩, .int .i64 0, .slice none 0 0]
 else if k = 2 then .agg #[.int .i64 k, .int .i64 0, .string d, .int .i64 0, .slice none 0 0]
 else if k = 12 then .agg #[.int .i64 k, .int .i64 n, .string ⟨#[]⟩, .int .i64 f, v]
 else if k = 11 ∨ k = 13 then .agg #[.int .i64 k, .int .i64 n, .string ⟨#[]⟩, .int .i64 f, .slice none 0 0]
 else .agg #[.int .i64 k, .int .i64 0, .string ⟨#[]⟩, .int .i64 0, .slice none 0 0]
theorem three_blocks (w : World) (X Y Z : Obj) : (((w.alloc X).alloc Y).alloc Z).heap[w.heap.size + 1]? = some Y := by
 refine blk_alloc ?_ _
 have h := blk_new (w.alloc X) Y
 rw [World.size_alloc] at h
 exact h
theorem three_below (w : World) (X Y Z : Obj) : Below w.heap.size w (((w.alloc X).alloc Y).alloc Z) := below_alloc (below_alloc (below_alloc (Below.refl _ _) _) _) _
set_option maxHeartbeats 4000000 in
set_option maxRecDepth 100000 in
theorem only_calls (k n : Int) (d : ByteArray) (f : Int) (A : Option Addr) (l c : Nat) (w : World) :
  Calls Tryd.prog 58 #[.agg #[.int .i64 k, .int .i64 n, .string d, .int .i64 f, .slice A l c]] w fun e w' => e = .returned (onlyV k n d f (.slice A l c)) ∧ Below w.heap.size w w' := by
 go_enter Tryd.func58, Tryd.ntmps58
 by_cases h1 : k = 1
 ·subst h1
  go_wp2_with fail
  exact bodyPost_ret (results_cell_row rfl _ _ (w.heap.size + 1) 54 #[.int .i64 1, .int .i64 n, .string ⟨#[]⟩, .int .i64 0, .slice none 0 0] (0, 0) _ rfl (three_blocks _ _ _ _) Tryd.underlying54 rfl (by kernel_rfl)) rfl ⟨rfl, three_below _ _ _ _⟩
 ·by_cases h2 : k = 2
  ·subst h2
   go_wp2_with fail
   exact bodyPost_ret (results_cell_row rfl _ _ (w.heap.size + 1) 54 #[.int .i64 2, .int .i64 0, .string d, .int .i64 0, .slice none 0 0] (0, 0) _ rfl (three_blocks _ _ _ _) Tryd.underlying54 rfl (by kernel_rfl)) rfl ⟨rfl, three_below _ _ _ _⟩
  ·by_cases h12 : k = 12
   ·subst h12
    go_wp2_with fail
    go_region
    all_goals go_wp2
    all_goals exact bodyPost_ret (results_cell_row rfl _ _ (w.heap.size + 1) 54 #[.int .i64 12, .int .i64 n, .string ⟨#[]⟩, .int .i64 f, .slice A l c] (0, 0) _ rfl (three_blocks _ _ _ _) Tryd.underlying54 rfl (by kernel_rfl)) rfl ⟨rfl, by first | exact three_below _ _ _ _ | exact Below.drew (three_below _ _ _ _)⟩
   ·by_cases h11 : k = 11
    ·subst h11
     go_wp2_with fail
     go_region
     all_goals go_wp2
     all_goals exact bodyPost_ret (results_cell_row rfl _ _ (w.heap.size + 1) 54 #[.int .i64 11, .int .i64 n, .string ⟨#[]⟩, .int .i64 f, .slice none 0 0] (0, 0) _ rfl (three_blocks _ _ _ _) Tryd.underlying54 rfl (by kernel_rfl)) rfl ⟨rfl, by first | exact three_below _ _ _ _ | exact Below.drew (three_below _ _ _ _)⟩
    ·by_cases h13 : k = 13
     ·subst h13
      go_wp2_with fail
      go_region
      all_goals go_wp2
      all_goals exact bodyPost_ret (results_cell_row rfl _ _ (w.heap.size + 1) 54 #[.int .i64 13, .int .i64 n, .string ⟨#[]⟩, .int .i64 f, .slice none 0 0] (0, 0) _ rfl (three_blocks _ _ _ _) Tryd.underlying54 rfl (by kernel_rfl)) rfl ⟨rfl, by first | exact three_below _ _ _ _ | exact Below.drew (three_below _ _ _ _)⟩
     ·have e1 : (k == 1) = false := beq_eq_false_iff_ne.2 h1
      have e2 : (k == 2) = false := beq_eq_false_iff_ne.2 h2
      have e3 : (k == 12) = false := beq_eq_false_iff_ne.2 h12
      have e4 : (k == 11) = false := beq_eq_false_iff_ne.2 h11
      have e5 : (k == 13) = false := beq_eq_false_iff_ne.2 h13
      go_wp2_with fail
      exact bodyPost_ret (results_cell_row rfl _ _ (w.heap.size + 1) 54 #[.int .i64 k, .int .i64 0, .string ⟨#[]⟩, .int .i64 0, .slice none 0 0] (0, 0) _ rfl (three_blocks _ _ _ _) Tryd.underlying54 rfl (by kernel_rfl)) rfl ⟨by unfold onlyV; rw [if_neg h1, if_neg h2, if_neg h12, if_neg (by omega)], three_below _ _ _ _⟩
end Go.Proofs.YtiddiboclfpklaaDoor.Tz
namespace Go.Proofs.YtiddiboclfpklaaDoor.Tz
open Go.RowKit Go.Proofs.YtiddiboclfpklaaDoorW.PrintWords Go.Proofs.YtiddiboclfpklaaDoor.PScriptReads Go.Proofs.YtiddiboclfpklaaDoor.Tx
set_option linter.unusedVariables false
def bothF (v : S107) : Bool := !decide (v.f0 = 0) && !decide (v.f1.size = 0)
theorem nonempty_false {s : ByteArray} (h0 : ¬ s.size = 0) : s.toList.isEmpty = false := by
 rw [Lib.toList_data]
 have hl : s.data.toList.length = s.size := data_length s
 cases hq : s.data.toList with
 | nil => rw [hq] at hl; exact absurd hl.symm h0
 | cons a l => rfl
set_option maxHeartbeats 1000000 in
set_option maxRecDepth 100000 in
theorem both_calls (v : S107) (w : World) :
  Calls Tryd.prog 56 #[.agg #[.int .i64 v.f0, .string v.f1]] w fun e w' => e = .returned (.bool (bothF v)) ∧ Below w.heap.size w w' := by
 obtain ⟨n, s⟩ := v
 have HB := Aside0.mk (Below.alloc (Below.refl w.heap.size w) (Nat.le_refl _) (.cells #[.int .i64 n, .string s] 107))
 go_enter Tryd.func56, Tryd.ntmps56
 by_cases h1 : n = 0
 ·have HV : Aside0 (bothF ⟨n, s⟩ = false) := ⟨by rw [bothF, decide_eq_true h1]; rfl⟩
  subst h1
  go_wp2_with fail
  go_ret
  exact ⟨by rw [HV.out]; rfl, HB.out⟩
 ·have e1 : (n != 0) = true := bne_iff_ne.2 h1
  have e2 : (n == 0) = false := beq_eq_false_iff_ne.2 h1
  by_cases h2 : s.size = 0
  ·have HV : Aside0 (bothF ⟨n, s⟩ = false) := ⟨by rw [bothF, decide_eq_true h2]; simp⟩
   obtain rfl : s = ⟨#[]⟩ := ByteArray.ext (Array.eq_empty_of_size_eq_zero h2)
   go_wp2_with fail
   go_ret
   exact ⟨by rw [HV.out]; rfl, HB.out⟩
  ·have HV : Aside0 (bothF ⟨n, s⟩ = true) := ⟨by rw [bothF, decide_eq_false h1, decide_eq_false h2]; rfl⟩
   have hne := nonempty_false h2
   go_wp2_with fail
   go_ret
   exact ⟨by rw [HV.out]; rfl, HB.out⟩
set_option maxHeartbeats 1000000 in
set_option maxRecDepth 100000 in
theorem indexBoth_calls (xs : List S107) (A : Option Addr) (c : Nat) (w : World) (hr : Kd.C k107 w A xs.length xs) :
  Calls Tryd.prog 76 #[.slice A xs.length c, .func (.func 56) #[] #[]] w fun e w' => ∃ i : Int, e = .returned (.int .i64 i) ∧ (decide (0 ≤ i) = xs.any bothF) ∧ Below w.heap.size w w' := by
 have HR := Aside0.mk hr
 clear hr
 obtain ⟨n, hn⟩ : ∃ n, xs.length = n := ⟨_, rfl⟩
 rw [hn] at HR ⊢
 have HN := Aside0.mk hn
 clear hn
 have hn63 : n ≤ 9223372036854775807 := Kd.C_max HR.out
 go_enter Tryd.func76, Tryd.ntmps76
 go_wp2_with fail
 go_loopw [8] (fun i wr => ∃ t : Nat, t ≤ n ∧ i = .int .i64 (t : Int) ∧ Aside0 (Below w.heap.size w wr ∧ (xs.take t).any bothF = false)) (fun i _ => n - (intOf i).toNat)
 case atStart => exact ⟨0, by omega, rfl, ⟨Below.refl _ _, by simp⟩⟩
 case round =>
  obtain ⟨t, ht, rfl, S⟩ := hrel
  by_cases hlt : t < n
  ·have hb5 : (0 : Int) ≤ (t : Int) := by omega
   have hb6 : (t : Int) < (n : Int) := by omega
   obtain ⟨ad, rfl, hc0, hc1⟩ := at_T107 (Kd.C_below HR.out S.out.1) (t : Int) hb5 hb6
   rw [Int.toNat_natCast] at hc0 hc1
   obtain ⟨x, hx⟩ : ∃ x, rd_T107 xs (t : Int) = x := ⟨_, rfl⟩
   rw [hx] at hc0 hc1
   have hl : t < xs.length := by rw [HN.out]; exact hlt
   have hxe : xs[t] = x := by rw [← hx]; simp [rd_T107, List.getD_eq_getElem?_getD, hl]
   have hnx : ((xs.take (t + 1)).any bothF) = bothF x := by
    rw [List.take_succ_eq_append_getElem hl, List.any_append, S.out.2, Bool.false_or, hxe]
    simp
   have hany : bothF x = true → (xs.any bothF) = true := by
    intro h0
    rw [List.any_eq_true]
    exact ⟨xs[t], List.getElem_mem hl, by rw [hxe, h0]⟩
   have HX2 := Aside0.mk (And.intro hnx hany)
   clear hnx hany hxe hx hl
   obtain ⟨x0, x1⟩ := x
   have HC : Aside0 (∀ W, Calls Tryd.prog 56 #[.agg #[.int .i64 x0, .string x1]] W fun e w' => e = .returned (.bool (bothF ⟨x0, x1⟩)) ∧ Below W.heap.size W w') := ⟨fun W => both_calls ⟨x0, x1⟩ W⟩
   replace hc0 : wr.cell? (ad.add (t * 2)) = some (.int .i64 x0) := hc0
   replace hc1 : wr.cell? ⟨(ad.add (t * 2)).block, (ad.add (t * 2)).off + 1, none⟩ = some (.string x1) := hc1
   cases hp : bothF ⟨x0, x1⟩ with
   | false =>
    have HP := Aside0.mk hp
    clear hp
    go_wp2_with ((go_at_call 56; refine (HC.out _).mono ?_; rintro e w' ⟨rfl, hB⟩; rw [HP.out]; have S2 := Aside0.mk (S.out.1.trans (hB.mono S.out.1.size)); clear hB))
    refine ⟨⟨t + 1, by omega, by go_num, ⟨S2.out, by rw [HX2.out.1, HP.out]⟩⟩, ?_⟩
    simp only [intOf]; omega
   | true =>
    have HP := Aside0.mk hp
    clear hp
    go_wp2_with ((go_at_call 56; refine (HC.out _).mono ?_; rintro e w' ⟨rfl, hB⟩; rw [HP.out]; have S2 := Aside0.mk (S.out.1.trans (hB.mono S.out.1.size)); clear hB))
    go_ret
    exact ⟨(t : Int), rfl, by rw [HX2.out.2 HP.out]; simp, S2.out⟩
  ·obtain rfl : t = n := by omega
   go_wp2_with fail
   have hall : (xs.any bothF) = false := by
    have h := S.out.2
    rw [List.take_of_length_le (by rw [HN.out]; exact Nat.le_refl _)] at h
    exact h
   go_ret
   exact ⟨-1, rfl, by rw [hall]; rfl, S.out.1⟩
set_option maxHeartbeats 1000000 in
theorem anyBoth_calls (xs : List S107) (A : Option Addr) (c : Nat) (w : World) (hr : Kd.C k107 w A xs.length xs) :
  Calls Tryd.prog 55 #[.slice A xs.length c, .func (.func 56) #[] #[]] w fun e w' => e = .returned (.bool (xs.any bothF)) ∧ Below w.heap.size w w' := by
 go_enter Tryd.func55, Tryd.ntmps55
 go_wp2_with ((go_at_call 76; refine (indexBoth_calls xs A c _ hr).mono ?_; rintro e w' ⟨i, rfl, hi, hB⟩; have S := Aside0.mk (And.intro hi hB); clear hi hB))
 go_ret
 exact ⟨by rw [← S.out.1]; rfl, S.out.2⟩
end Go.Proofs.YtiddiboclfpklaaDoor.Tz
namespace Go.Proofs.YtiddiboclfpklaaDoor.Tz
open Go.RowKit Go.Proofs.YtiddiboclfpklaaDoorW.PrintWords Go.Proofs.YtiddiboclfpklaaDoor.PScriptReads Go.Proofs.YtiddiboclfpklaaDoor.Tx
set_option linter.unusedVariables false
def eqV : List S107 → List S107 → Bool
 | [], [] => true
 | x :: l, y :: m => (x.f0 == y.f0 && (x.f1.toList == y.f1.toList)) && eqV l m
 | _, _ => false
def eqI : List Int → List Int → Bool
 | [], [] => true
 | x :: l, y :: m => decide (x = y) && eqI l m
 | _, _ => false
theorem eqV_len : ∀ (l m : List S107), l.length ≠ m.length → eqV l m = false
 | [], [], h => absurd rfl h
 | [], _ :: _, _ => rfl
 | _ :: _, [], _ => rfl
 | x :: l, y :: m, h => by rw [eqV, eqV_len l m (fun e => h (by simp [e])), Bool.and_false]
theorem eqI_len : ∀ (l m : List Int), l.length ≠ m.length → eqI l m = false
 | [], [], h => absurd rfl h
 | [], _ :: _, _ => rfl
 | _ :: _, [], _ => rfl
 | x :: l, y :: m, h => by rw [eqI, eqI_len l m (fun e => h (by simp [e])), Bool.and_false]
theorem rd_T_at (d : List S107) (x : S107) (r : List S107) (i : Int) (h : i = d.length) : rd_T107 (d ++ x :: r) i = x := by
 subst h
 simp [rd_T107, List.getD_eq_getElem?_getD]
theorem rd_at (d : List Int) (x : Int) (r : List Int) (i : Int) (h : i = d.length) : rd (d ++ x :: r) i = x := by
 subst h
 simp [rd, List.getD_eq_getElem?_getD]
theorem eqV_loop (X Y : List S107) (hX : X.length ≤ 16777216) (hl : X.length = Y.length) : ∀ (l m d e : List S107) (k : Nat), X = d ++ l → Y = e ++ m → d.length = e.length → l.length < k → api_Value_77.l0 k X Y (X.length : Int) (d.length : Int) = some (eqV l m)
 | [], m, d, e, k, h1, h2, h3, hk => by
  obtain ⟨k, rfl⟩ : ∃ k', k = k' + 1 := ⟨k - 1, by simp at hk; omega⟩
  have hm : m = [] := by
   rw [h1, h2, List.append_nil, List.length_append] at hl
   exact List.eq_nil_of_length_eq_zero (by omega)
  subst hm
  rw [List.append_nil] at h1
  subst h1
  rw [api_Value_77.l0, if_neg (by omega)]
  rfl
 | x :: l, [], d, e, k, h1, h2, h3, hk => by
  rw [h1, h2, List.append_nil, List.length_append, List.length_cons] at hl
  omega
 | x :: l, y :: m, d, e, k, h1, h2, h3, hk => by
  simp only [List.length_cons] at hk
  obtain ⟨k, rfl⟩ : ∃ k', k = k' + 1 := ⟨k - 1, by omega⟩
  have hd : d.length < X.length := by rw [h1]; simp
  have hx : rd_T107 X (d.length : Int) = x := by rw [h1]; exact rd_T_at _ _ _ _ rfl
  have hy : rd_T107 Y (d.length : Int) = y := by rw [h2]; exact rd_T_at _ _ _ _ (by omega)
  rw [api_Value_77.l0, if_pos (by omega), if_pos (by omega), if_pos (by omega), if_pos (by omega), hx, hy, IntWalk.wrap64_in _ (by omega), eqV]
  have hrec := eqV_loop X Y hX hl l m (d ++ [x]) (e ++ [y]) k (by rw [h1, List.append_assoc]; rfl) (by rw [h2, List.append_assoc]; rfl) (by simp [h3]) (by omega)
  rw [List.length_append, List.length_singleton, Int.natCast_add] at hrec
  cases h4 : (x.f0 == y.f0) with
  | false => rw [if_pos (by simp)]; rfl
  | true =>
   cases h5 : (x.f1.toList == y.f1.toList) with
   | false => rw [if_pos (by simp)]; rfl
   | true =>
    rw [if_neg (by simp), Bool.true_and, Bool.true_and]
    exact hrec
theorem eqV_eval (X Y : List S107) (k : Nat) (hX : X.length ≤ 16777216) (hk : X.length < k) : api_Value_77.f k X Y = some (eqV X Y) := by
 rw [api_Value_77.f]
 by_cases h : X.length = Y.length
 ·rw [if_pos (by omega)]
  exact eqV_loop X Y hX h X Y [] [] k rfl rfl rfl hk
 ·rw [if_neg (by omega), eqV_len X Y h]
theorem eqI_loop (X Y : List Int) (hX : X.length ≤ 16777216) (hl : X.length = Y.length) : ∀ (l m d e : List Int) (k : Nat), X = d ++ l → Y = e ++ m → d.length = e.length → l.length < k → slices_Equal_uint32_uint32.l0 k X Y (X.length : Int) (d.length : Int) = some (eqI l m)
 | [], m, d, e, k, h1, h2, h3, hk => by
  obtain ⟨k, rfl⟩ : ∃ k', k = k' + 1 := ⟨k - 1, by simp at hk; omega⟩
  have hm : m = [] := by
   rw [h1, h2, List.append_nil, List.length_append] at hl
   exact List.eq_nil_of_length_eq_zero (by omega)
  subst hm
  rw [List.append_nil] at h1
  subst h1
  rw [slices_Equal_uint32_uint32.l0, if_neg (by omega)]
  rfl
 | x :: l, [], d, e, k, h1, h2, h3, hk => by
  rw [h1, h2, List.append_nil, List.length_append, List.length_cons] at hl
  omega
 | x :: l, y :: m, d, e, k, h1, h2, h3, hk => by
  simp only [List.length_cons] at hk
  obtain ⟨k, rfl⟩ : ∃ k', k = k' + 1 := ⟨k - 1, by omega⟩
  have hd : d.length < X.length := by rw [h1]; simp
  have hx : rd X (d.length : Int) = x := by rw [h1]; exact rd_at _ _ _ _ rfl
  have hy : rd Y (d.length : Int) = y := by rw [h2]; exact rd_at _ _ _ _ (by omega)
  rw [slices_Equal_uint32_uint32.l0, if_pos (by omega), if_pos (by omega), if_pos (by omega), if_pos (by omega), hx, hy, IntWalk.wrap64_in _ (by omega), eqI]
  have hrec := eqI_loop X Y hX hl l m (d ++ [x]) (e ++ [y]) k (by rw [h1, List.append_assoc]; rfl) (by rw [h2, List.append_assoc]; rfl) (by simp [h3]) (by omega)
  rw [List.length_append, List.length_singleton, Int.natCast_add] at hrec
  by_cases h4 : x = y
  ·rw [if_pos h4, decide_eq_true h4, Bool.true_and]
   exact hrec
  ·rw [if_neg h4, decide_eq_false h4, Bool.false_and]
theorem eqI_eval (X Y : List Int) (k : Nat) (hX : X.length ≤ 16777216) (hk : X.length < k) : slices_Equal_uint32_uint32.f k X Y = some (eqI X Y) := by
 rw [slices_Equal_uint32_uint32.f]
 by_cases h : X.length = Y.length
 ·rw [if_pos (by omega)]
  exact eqI_loop X Y hX h X Y [] [] k rfl rfl rfl hk
 ·rw [if_neg (by omega), eqI_len X Y h]
def sameOpF (a b : S54) : Bool := decide (a.f0 = b.f0) && (decide (a.f1 = b.f1) && (decide (a.f2.toList = b.f2.toList) && (decide (a.f3.f0 = b.f3.f0) && eqV a.f3.f1 b.f3.f1)))
def sameA (a b : S66) : Bool := sameOpF a.f0 b.f0 && ((a.f1 == b.f1) && ((a.f2 == b.f2) && (decide (a.f3 = b.f3) && eqI a.f4 b.f4)))
theorem sameOp_eval (a b : S54) (k : Nat) (h1 : a.f3.f1.length ≤ 16777216) (hk : a.f3.f1.length < k) : script_sameOp.f k a.f0 a.f1 a.f2 a.f3.f0 a.f3.f1 b.f0 b.f1 b.f2 b.f3.f0 b.f3.f1 = some (sameOpF a b) := by
 rw [script_sameOp.f, eqV_eval _ _ k h1 hk, Option.bind_some, sameOpF]
 by_cases c1 : a.f0 = b.f0
 ·rw [if_pos c1, decide_eq_true c1, Bool.true_and]
  by_cases c2 : a.f1 = b.f1
  ·rw [if_pos c2, decide_eq_true c2, Bool.true_and]
   by_cases c3 : a.f2.toList = b.f2.toList
   ·rw [if_pos c3, decide_eq_true c3, Bool.true_and]
    by_cases c4 : a.f3.f0 = b.f3.f0
    ·rw [if_pos c4, decide_eq_true c4, Bool.true_and]
    ·rw [if_neg c4, decide_eq_false c4, Bool.false_and]
   ·rw [if_neg c3, decide_eq_false c3, Bool.false_and]
  ·rw [if_neg c2, decide_eq_false c2, Bool.false_and]
 ·rw [if_neg c1, decide_eq_false c1, Bool.false_and]
theorem same_eval (a b : S66) (k : Nat) (h1 : a.f0.f3.f1.length ≤ 16777216) (hk : a.f0.f3.f1.length < k) (h2 : a.f4.length ≤ 16777216) (hk2 : a.f4.length < k) :
  script_Same.f k a.f0.f0 a.f0.f1 a.f0.f2 a.f0.f3.f0 a.f0.f3.f1 a.f1 a.f2 a.f3 a.f4 b.f0.f0 b.f0.f1 b.f0.f2 b.f0.f3.f0 b.f0.f3.f1 b.f1 b.f2 b.f3 b.f4 = some (sameA a b) := by
 rw [script_Same.f, sameOp_eval a.f0 b.f0 k h1 hk, Option.bind_some, eqI_eval _ _ k h2 hk2, Option.bind_some, sameA]
 cases sameOpF a.f0 b.f0 with
 | false => rw [if_neg Bool.false_ne_true, Bool.false_and]
 | true =>
  rw [if_pos rfl, Bool.true_and]
  cases (a.f1 == b.f1) with
  | false => rw [if_neg Bool.false_ne_true, Bool.false_and]
  | true =>
   rw [if_pos rfl, Bool.true_and]
   cases (a.f2 == b.f2) with
   | false => rw [if_neg Bool.false_ne_true, Bool.false_and]
   | true =>
    rw [if_pos rfl, Bool.true_and]
    by_cases c4 : a.f3 = b.f3
    ·rw [if_pos c4, decide_eq_true c4, Bool.true_and]
    ·rw [if_neg c4, decide_eq_false c4, Bool.false_and]
def wordF (k : Int) : ByteArray := (script_word.f k).getD ⟨#[]⟩
theorem ite_some {α : Type} {p : Prop} [Decidable p] {x y : Option α} (hx : ∃ r, x = some r) (hy : ∃ r, y = some r) : ∃ r, (if p then x else y) = some r := by
 by_cases h : p
 ·rw [if_pos h]; exact hx
 ·rw [if_neg h]; exact hy
theorem word_some (k : Int) : ∃ r, script_word.f k = some r := by
 unfold script_word.f
 repeat (refine ite_some ⟨_, rfl⟩ ?_)
 exact ⟨_, rfl⟩
theorem word_eval (k : Int) : script_word.f k = some (wordF k) := by
 obtain ⟨r, h⟩ := word_some k
 rw [wordF, h]
 rfl
theorem word_calls (k : Int) (w : World) : Calls Tryd.prog 57 #[.int .i64 k] w fun e w' => e = .returned (.string (wordF k)) ∧ Drawn0 w w' := script_word.calls k (wordF k) w (word_eval k)
def actV (a : S66) (A4 : Option Addr) (c4 : Nat) (A8 : Option Addr) (c8 : Nat) : Value := .agg #[.int .i64 a.f0.f0, .int .i64 a.f0.f1, .string a.f0.f2, .int .i64 a.f0.f3.f0, .slice A4 a.f0.f3.f1.length c4, .bool a.f1, .bool a.f2, .int .i64 a.f3, .slice A8 a.f4.length c8]
theorem same_calls66 (a b : S66) (A4 : Option Addr) (c4 : Nat) (A8 : Option Addr) (c8 : Nat) (B4 : Option Addr) (d4 : Nat) (B8 : Option Addr) (d8 : Nat) (w : World)
  (h4 : Kd.C k107 w A4 a.f0.f3.f1.length a.f0.f3.f1) (l4 : a.f0.f3.f1.length ≤ c4) (h8 : Kd.C (Kd.int .u32) w A8 a.f4.length a.f4) (l8 : a.f4.length ≤ c8)
  (g4 : Kd.C k107 w B4 b.f0.f3.f1.length b.f0.f3.f1) (m4 : b.f0.f3.f1.length ≤ d4) (g8 : Kd.C (Kd.int .u32) w B8 b.f4.length b.f4) (m8 : b.f4.length ≤ d8)
  (h1 : a.f0.f3.f1.length ≤ 16777216) (h2 : a.f4.length ≤ 16777216) :
  Calls Tryd.prog 31 #[actV a A4 c4 A8 c8, actV b B4 d4 B8 d8] w fun e w' => e = .returned (.bool (sameA a b)) ∧ Below w.heap.size w w' :=
 script_Same.calls 16777218 _ _ _ _ A4 c4 _ _ _ _ A8 c8 _ _ _ _ _ B4 d4 _ _ _ _ B8 d8 _ (sameA a b) w h4 l4 h8 l8 g4 m4 g8 m8 (same_eval a b 16777218 h1 (by omega) h2 (by omega))
end Go.Proofs.YtiddiboclfpklaaDoor.Tz
namespace Go.Proofs.YtiddiboclfpklaaDoor.Tz
open Go.RowKit Go.Proofs.YtiddiboclfpklaaDoorW.PrintWords Go.Proofs.YtiddiboclfpklaaDoor.PScriptReads Go.Proofs.YtiddiboclfpklaaDoor.Tx
set_option linter.unusedVariables false
def onlyO (o : S54) : S54 :=
 if o.f0 = 1 then ⟨o.f0, o.f1, ⟨#[]⟩, ⟨0, []⟩⟩
 else if o.f0 = 2 then ⟨o.f0, 0, o.f2, ⟨0, []⟩⟩
 else if o.f0 = 12 then ⟨o.f0, o.f1, ⟨#[]⟩, ⟨o.f3.f0, o.f3.f1⟩⟩
 else if o.f0 = 11 ∨ o.f0 = 13 then ⟨o.f0, o.f1, ⟨#[]⟩, ⟨o.f3.f0, []⟩⟩
 else ⟨o.f0, 0, ⟨#[]⟩, ⟨0, []⟩⟩
def plainA (a : S66) : Bool :=
 if a.f1 then sameA a ⟨⟨0, 0, ⟨#[]⟩, ⟨0, []⟩⟩, true, false, a.f3, a.f4⟩
 else if a.f2 then sameA a ⟨⟨0, 0, ⟨#[]⟩, ⟨0, []⟩⟩, false, true, 0, []⟩
 else !decide ((wordF a.f0.f0).size = 0) && (!a.f0.f3.f1.any bothF && sameA a ⟨onlyO a.f0, false, false, 0, []⟩)
set_option maxHeartbeats 4000000 in
set_option maxRecDepth 100000 in
theorem plain_calls66 (a : S66) (A4 : Option Addr) (c4 : Nat) (A8 : Option Addr) (c8 : Nat) (w : World)
  (h4 : Kd.C k107 w A4 a.f0.f3.f1.length a.f0.f3.f1) (l4 : a.f0.f3.f1.length ≤ c4) (h8 : Kd.C (Kd.int .u32) w A8 a.f4.length a.f4) (l8 : a.f4.length ≤ c8) (h1 : a.f0.f3.f1.length ≤ 16777216) (h2 : a.f4.length ≤ 16777216) :
  Calls Tryd.prog 29 #[actV a A4 c4 A8 c8] w fun e w' => e = .returned (.bool (plainA a)) ∧ Below w.heap.size w w' := by
 have HS : Aside0 (∀ (b : S66) (B4 : Option Addr) (d4 : Nat) (B8 : Option Addr) (d8 : Nat) (W : World), Below w.heap.size w W → Kd.C k107 W B4 b.f0.f3.f1.length b.f0.f3.f1 → b.f0.f3.f1.length ≤ d4 → Kd.C (Kd.int .u32) W B8 b.f4.length b.f4 → b.f4.length ≤ d8 →
   Calls Tryd.prog 31 #[actV a A4 c4 A8 c8, actV b B4 d4 B8 d8] W fun e w' => e = .returned (.bool (sameA a b)) ∧ Below W.heap.size W w') := ⟨fun b B4 d4 B8 d8 W hb g4 m4 g8 m8 => same_calls66 a b A4 c4 A8 c8 B4 d4 B8 d8 W (Kd.C_below h4 hb) l4 (Kd.C_below h8 hb) l8 g4 m4 g8 m8 h1 h2⟩
 have H4 := Aside0.mk (And.intro h4 l4)
 have H8 := Aside0.mk (And.intro h8 l8)
 clear h4 l4 h8 l8
 obtain ⟨⟨k, n, d, f, vs⟩, cut, mount, m, ms⟩ := a
 have HB := Aside0.mk (Below.alloc (Below.refl w.heap.size w) (Nat.le_refl _) (.cells #[.int .i64 k, .int .i64 n, .string d, .int .i64 f, .slice A4 vs.length c4, .bool cut, .bool mount, .int .i64 m, .slice A8 ms.length c8] 66))
 cases cut with
 | true =>
  have HP : Aside0 (plainA ⟨⟨k, n, d, ⟨f, vs⟩⟩, true, mount, m, ms⟩ = sameA ⟨⟨k, n, d, ⟨f, vs⟩⟩, true, mount, m, ms⟩ ⟨⟨0, 0, ⟨#[]⟩, ⟨0, []⟩⟩, true, false, m, ms⟩) := ⟨rfl⟩
  obtain ⟨r, hr⟩ : ∃ r, sameA ⟨⟨k, n, d, ⟨f, vs⟩⟩, true, mount, m, ms⟩ ⟨⟨0, 0, ⟨#[]⟩, ⟨0, []⟩⟩, true, false, m, ms⟩ = r := ⟨_, rfl⟩
  have HC : Aside0 (∀ W, Below w.heap.size w W → Calls Tryd.prog 31 #[.agg #[.int .i64 k, .int .i64 n, .string d, .int .i64 f, .slice A4 vs.length c4, .bool true, .bool mount, .int .i64 m, .slice A8 ms.length c8], .agg #[.int .i64 0, .int .i64 0, .string ⟨#[]⟩, .int .i64 0, .slice none 0 0, .bool true, .bool false, .int .i64 m, .slice A8 ms.length c8]] W fun e w' => e = .returned (.bool r) ∧ Below W.heap.size W w') := ⟨fun W hb => by
   have h := HS.out ⟨⟨0, 0, ⟨#[]⟩, ⟨0, []⟩⟩, true, false, m, ms⟩ none 0 A8 c8 W hb (Kd.C_nil _ _) (Nat.le_refl _) (Kd.C_below H8.out.1 hb) H8.out.2
   rw [hr] at h
   exact h⟩
  rw [hr] at HP
  clear hr
  show Calls Tryd.prog 29 #[.agg #[.int .i64 k, .int .i64 n, .string d, .int .i64 f, .slice A4 vs.length c4, .bool true, .bool mount, .int .i64 m, .slice A8 ms.length c8]] w _
  go_enter Tryd.func29, Tryd.ntmps29
  go_wp2_with ((go_at_call 31; refine (HC.out _ HB.out).mono ?_; rintro e w1 ⟨rfl, hB⟩; have S1 := Aside0.mk (HB.out.trans (hB.mono HB.out.size)); clear hB))
  go_ret
  exact ⟨by rw [HP.out]; rfl, S1.out⟩
 | false =>
  cases mount with
  | true =>
   have HP : Aside0 (plainA ⟨⟨k, n, d, ⟨f, vs⟩⟩, false, true, m, ms⟩ = sameA ⟨⟨k, n, d, ⟨f, vs⟩⟩, false, true, m, ms⟩ ⟨⟨0, 0, ⟨#[]⟩, ⟨0, []⟩⟩, false, true, 0, []⟩) := ⟨rfl⟩
   obtain ⟨r, hr⟩ : ∃ r, sameA ⟨⟨k, n, d, ⟨f, vs⟩⟩, false, true, m, ms⟩ ⟨⟨0, 0, ⟨#[]⟩, ⟨0, []⟩⟩, false, true, 0, []⟩ = r := ⟨_, rfl⟩
   have HC : Aside0 (∀ W, Below w.heap.size w W → Calls Tryd.prog 31 #[.agg #[.int .i64 k, .int .i64 n, .string d, .int .i64 f, .slice A4 vs.length c4, .bool false, .bool true, .int .i64 m, .slice A8 ms.length c8], .agg #[.int .i64 0, .int .i64 0, .string ⟨#[]⟩, .int .i64 0, .slice none 0 0, .bool false, .bool true, .int .i64 0, .slice none 0 0]] W fun e w' => e = .returned (.bool r) ∧ Below W.heap.size W w') := ⟨fun W hb => by
    have h := HS.out ⟨⟨0, 0, ⟨#[]⟩, ⟨0, []⟩⟩, false, true, 0, []⟩ none 0 none 0 W hb (Kd.C_nil _ _) (Nat.le_refl _) (Kd.C_nil _ _) (Nat.le_refl _)
    rw [hr] at h
    exact h⟩
   rw [hr] at HP
   clear hr
   show Calls Tryd.prog 29 #[.agg #[.int .i64 k, .int .i64 n, .string d, .int .i64 f, .slice A4 vs.length c4, .bool false, .bool true, .int .i64 m, .slice A8 ms.length c8]] w _
   go_enter Tryd.func29, Tryd.ntmps29
   go_wp2_with ((go_at_call 31; refine (HC.out _ HB.out).mono ?_; rintro e w1 ⟨rfl, hB⟩; have S1 := Aside0.mk (HB.out.trans (hB.mono HB.out.size)); clear hB))
   go_ret
   exact ⟨by rw [HP.out]; rfl, S1.out⟩
  | false =>
   have HP : Aside0 (plainA ⟨⟨k, n, d, ⟨f, vs⟩⟩, false, false, m, ms⟩ = (!decide ((wordF k).size = 0) && (!vs.any bothF && sameA ⟨⟨k, n, d, ⟨f, vs⟩⟩, false, false, m, ms⟩ ⟨onlyO ⟨k, n, d, ⟨f, vs⟩⟩, false, false, 0, []⟩))) := ⟨rfl⟩
   obtain ⟨r, hr⟩ : ∃ r, sameA ⟨⟨k, n, d, ⟨f, vs⟩⟩, false, false, m, ms⟩ ⟨onlyO ⟨k, n, d, ⟨f, vs⟩⟩, false, false, 0, []⟩ = r := ⟨_, rfl⟩
   obtain ⟨ob, hob⟩ : ∃ ob, onlyO ⟨k, n, d, ⟨f, vs⟩⟩ = ob := ⟨_, rfl⟩
   have hoV : ∃ B4 d4, onlyV k n d f (.slice A4 vs.length c4) = .agg #[.int .i64 ob.f0, .int .i64 ob.f1, .string ob.f2, .int .i64 ob.f3.f0, .slice B4 ob.f3.f1.length d4] ∧ Kd.C k107 w B4 ob.f3.f1.length ob.f3.f1 ∧ ob.f3.f1.length ≤ d4 := by
    rw [← hob]
    unfold onlyV onlyO
    by_cases h1 : k = 1
    ·rw [if_pos h1, if_pos h1]; exact ⟨none, 0, rfl, Kd.C_nil _ _, Nat.le_refl _⟩
    ·rw [if_neg h1, if_neg h1]
     by_cases h2 : k = 2
     ·rw [if_pos h2, if_pos h2]; exact ⟨none, 0, rfl, Kd.C_nil _ _, Nat.le_refl _⟩
     ·rw [if_neg h2, if_neg h2]
      by_cases h3 : k = 12
      ·rw [if_pos h3, if_pos h3]; exact ⟨A4, c4, rfl, H4.out.1, H4.out.2⟩
      ·rw [if_neg h3, if_neg h3]
       by_cases h4 : k = 11 ∨ k = 13
       ·rw [if_pos h4, if_pos h4]; exact ⟨none, 0, rfl, Kd.C_nil _ _, Nat.le_refl _⟩
       ·rw [if_neg h4, if_neg h4]; exact ⟨none, 0, rfl, Kd.C_nil _ _, Nat.le_refl _⟩
   obtain ⟨B4, d4, hoV, hoC, hoL⟩ := hoV
   rw [hob] at hr HP
   have HO : Aside0 (∀ W, Calls Tryd.prog 58 #[.agg #[.int .i64 k, .int .i64 n, .string d, .int .i64 f, .slice A4 vs.length c4]] W fun e w' => e = .returned (.agg #[.int .i64 ob.f0, .int .i64 ob.f1, .string ob.f2, .int .i64 ob.f3.f0, .slice B4 ob.f3.f1.length d4]) ∧ Below W.heap.size W w') := ⟨fun W => by
    have h := only_calls k n d f A4 vs.length c4 W
    rw [hoV] at h
    exact h⟩
   have HC : Aside0 (∀ W, Below w.heap.size w W → Calls Tryd.prog 31 #[.agg #[.int .i64 k, .int .i64 n, .string d, .int .i64 f, .slice A4 vs.length c4, .bool false, .bool false, .int .i64 m, .slice A8 ms.length c8], .agg #[.int .i64 ob.f0, .int .i64 ob.f1, .string ob.f2, .int .i64 ob.f3.f0, .slice B4 ob.f3.f1.length d4, .bool false, .bool false, .int .i64 0, .slice none 0 0]] W fun e w' => e = .returned (.bool r) ∧ Below W.heap.size W w') := ⟨fun W hb => by
    have h := HS.out ⟨ob, false, false, 0, []⟩ B4 d4 none 0 W hb (Kd.C_below hoC hb) hoL (Kd.C_nil _ _) (Nat.le_refl _)
    rw [hr] at h
    exact h⟩
   rw [hr] at HP
   have HA : Aside0 (∀ W, Below w.heap.size w W → Calls Tryd.prog 55 #[.slice A4 vs.length c4, .func (.func 56) #[] #[]] W fun e w' => e = .returned (.bool (vs.any bothF)) ∧ Below W.heap.size W w') := ⟨fun W hb => anyBoth_calls vs A4 c4 W (Kd.C_below H4.out.1 hb)⟩
   have HW : Aside0 (∀ W, Calls Tryd.prog 57 #[.int .i64 k] W fun e w' => e = .returned (.string (wordF k)) ∧ Drawn0 W w') := ⟨fun W => word_calls k W⟩
   obtain ⟨b, hb⟩ : ∃ b, vs.any bothF = b := ⟨_, rfl⟩
   obtain ⟨wd, hwd⟩ : ∃ wd, wordF k = wd := ⟨_, rfl⟩
   obtain ⟨o0, o1, o2, o3, o4⟩ := ob
   rw [hb] at HA HP
   rw [hwd] at HW HP
   clear hr hob hoV hoC hoL hb hwd HS
   show Calls Tryd.prog 29 #[.agg #[.int .i64 k, .int .i64 n, .string d, .int .i64 f, .slice A4 vs.length c4, .bool false, .bool false, .int .i64 m, .slice A8 ms.length c8]] w _
   go_enter Tryd.func29, Tryd.ntmps29
   go_upto_region 6 with ((go_at_call 55; refine (HA.out _ HB.out).mono ?_; rintro e w1 ⟨rfl, hB⟩; have K1 := Aside0.mk (blk_below (blk_new w (.cells #[.int .i64 k, .int .i64 n, .string d, .int .i64 f, .slice A4 vs.length c4, .bool false, .bool false, .int .i64 m, .slice A8 ms.length c8] 66)) hB); have S1 := Aside0.mk (HB.out.trans (hB.mono HB.out.size)); clear hB))
   have a0 : w1.cell? ⟨w.heap.size, 0, none⟩ = some (.int .i64 k) := (blk_cell K1.out 0).trans rfl
   have a1 : w1.cell? ⟨w.heap.size, 1, none⟩ = some (.int .i64 n) := (blk_cell K1.out 1).trans rfl
   have a2 : w1.cell? ⟨w.heap.size, 2, none⟩ = some (.string d) := (blk_cell K1.out 2).trans rfl
   have a3 : w1.cell? ⟨w.heap.size, 3, none⟩ = some (.int .i64 f) := (blk_cell K1.out 3).trans rfl
   have a4 : w1.cell? ⟨w.heap.size, 4, none⟩ = some (.slice A4 vs.length c4) := (blk_cell K1.out 4).trans rfl
   have a5 : w1.cell? ⟨w.heap.size, 5, none⟩ = some (.bool false) := (blk_cell K1.out 5).trans rfl
   have a6 : w1.cell? ⟨w.heap.size, 6, none⟩ = some (.bool false) := (blk_cell K1.out 6).trans rfl
   have a7 : w1.cell? ⟨w.heap.size, 7, none⟩ = some (.int .i64 m) := (blk_cell K1.out 7).trans rfl
   have a8 : w1.cell? ⟨w.heap.size, 8, none⟩ = some (.slice A8 ms.length c8) := (blk_cell K1.out 8).trans rfl
   by_cases hz : wd.size = 0
   ·have HP2 := Aside0.mk (show plainA ⟨⟨k, n, d, ⟨f, vs⟩⟩, false, false, m, ms⟩ = false by rw [HP.out, decide_eq_true hz]; rfl)
    obtain rfl : wd = ⟨#[]⟩ := ByteArray.ext (Array.eq_empty_of_size_eq_zero hz)
    clear hz HP
    go_quiet ((go_at_call 57; refine (HW.out _).mono ?_; rintro e w2 ⟨rfl, ⟨⟨nq, rfl⟩⟩⟩; (try first | exact ⟨rfl, _, World.drewN_drewN _ _ _⟩ | exact ⟨rfl, _, Eq.trans (World.drewN_drewN _ _ _) (congrArg (World.drewN _) (Nat.add_assoc _ _ _))⟩)))
    go_wp2
    go_ret
    exact ⟨by rw [HP2.out]; rfl, pw_below_drewN S1.out _⟩
   ·have hne := nonempty_false hz
    cases b with
    | true =>
     have HP2 := Aside0.mk (show plainA ⟨⟨k, n, d, ⟨f, vs⟩⟩, false, false, m, ms⟩ = false by rw [HP.out]; simp)
     clear hz HP
     go_quiet ((go_at_call 57; refine (HW.out _).mono ?_; rintro e w2 ⟨rfl, ⟨⟨nq, rfl⟩⟩⟩; (try first | exact ⟨rfl, _, World.drewN_drewN _ _ _⟩ | exact ⟨rfl, _, Eq.trans (World.drewN_drewN _ _ _) (congrArg (World.drewN _) (Nat.add_assoc _ _ _))⟩)))
     go_wp2
     go_ret
     exact ⟨by rw [HP2.out]; rfl, pw_below_drewN S1.out _⟩
    | false =>
     have HP2 := Aside0.mk (show plainA ⟨⟨k, n, d, ⟨f, vs⟩⟩, false, false, m, ms⟩ = r by rw [HP.out, decide_eq_false hz]; simp)
     clear hz HP
     go_region_with (first
      | (go_at_call 57; refine (HW.out _).mono ?_; rintro e w2 ⟨rfl, ⟨⟨nq, rfl⟩⟩⟩)
      | (go_at_call 58; refine (HO.out _).mono ?_; rintro e w3 ⟨rfl, hB⟩; have K3 := Aside0.mk (blk_below (blk_drewN K1.out _) hB); have S3 := Aside0.mk ((pw_below_drewN S1.out _).trans (hB.mono S1.out.size)); clear hB; have q0 : w3.cell? ⟨w.heap.size, 0, none⟩ = some (.int .i64 k) := (blk_cell K3.out 0).trans rfl; have q1 : w3.cell? ⟨w.heap.size, 1, none⟩ = some (.int .i64 n) := (blk_cell K3.out 1).trans rfl; have q2 : w3.cell? ⟨w.heap.size, 2, none⟩ = some (.string d) := (blk_cell K3.out 2).trans rfl; have q3 : w3.cell? ⟨w.heap.size, 3, none⟩ = some (.int .i64 f) := (blk_cell K3.out 3).trans rfl; have q4 : w3.cell? ⟨w.heap.size, 4, none⟩ = some (.slice A4 vs.length c4) := (blk_cell K3.out 4).trans rfl; have q5 : w3.cell? ⟨w.heap.size, 5, none⟩ = some (.bool false) := (blk_cell K3.out 5).trans rfl; have q6 : w3.cell? ⟨w.heap.size, 6, none⟩ = some (.bool false) := (blk_cell K3.out 6).trans rfl; have q7 : w3.cell? ⟨w.heap.size, 7, none⟩ = some (.int .i64 m) := (blk_cell K3.out 7).trans rfl; have q8 : w3.cell? ⟨w.heap.size, 8, none⟩ = some (.slice A8 ms.length c8) := (blk_cell K3.out 8).trans rfl)
      | (go_at_call 31; refine (HC.out _ (by repeat (first | exact S3.out | apply pw_below_drewN | apply below_drew1))).mono ?_; rintro e w4 ⟨rfl, hB⟩; have S4 := Aside0.mk (S3.out.trans (hB.mono S3.out.size)); clear hB))
     all_goals go_wp2
     all_goals go_ret
     all_goals exact ⟨by rw [HP2.out]; rfl, by repeat (first | exact S4.out | apply pw_below_drewN | apply below_drew1)⟩
end Go.Proofs.YtiddiboclfpklaaDoor.Tz
