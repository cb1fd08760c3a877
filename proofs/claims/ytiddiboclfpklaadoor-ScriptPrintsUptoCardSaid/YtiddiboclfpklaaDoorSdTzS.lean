import Derived.Test.YtiddiboclfpklaaDoorSdTzR
/- The document's Plain, walked. -/
namespace Go.Proofs.YtiddiboclfpklaaDoor.Tz
open Go.RowKit Go.Proofs.YtiddiboclfpklaaDoorW.PrintWords Go.Proofs.YtiddiboclfpklaaDoor.PScriptReads Go.Proofs.YtiddiboclfpklaaDoor.Tx
set_option linter.unusedVariables false
set_option linter.unusedSimpArgs false

def tailB (k n : Int) (d : ByteArray) (f : Int) (N : Nat) : Bool :=
  (decide (k = 1) || decide (11 ≤ k) || decide (n = 0)) && ((decide (k = 2) || decide (d.size = 0)) && ((decide (11 ≤ k) || decide (f = 0)) && (decide (k = 12) || decide (N = 0))))
def restB (k n : Int) (d : ByteArray) (f : Int) (vs : List S107) (m : Int) (M : Nat) : Bool :=
  !decide (k < 1) && (!decide (13 < k) && (decide (m = 0) && (decide (M = 0) && (!vs.any bothF && tailB k n d f vs.length))))
/-- Whether an act may be: the document's. -/
def plain40 (a : S57) : Bool :=
  if a.f1 then !a.f2 && sameA ⟨a.f0, false, false, 0, []⟩ ⟨⟨0, 0, ⟨#[]⟩, ⟨0, []⟩⟩, false, false, 0, []⟩
  else if a.f2 then sameA (act66 a) ⟨⟨0, 0, ⟨#[]⟩, ⟨0, []⟩⟩, false, true, 0, []⟩
  else restB a.f0.f0 a.f0.f1 a.f0.f2 a.f0.f3.f0 a.f0.f3.f1 a.f3 a.f4.length
theorem size0 : (⟨#[]⟩ : ByteArray).size = 0 := rfl
theorem empty_of {s : ByteArray} (h : s.size = 0) : s = ⟨#[]⟩ := ByteArray.ext (Array.eq_empty_of_size_eq_zero h)

set_option maxHeartbeats 8000000 in
set_option maxRecDepth 100000 in
theorem plain_calls57 (a : S57) (A4 : Option Addr) (c4 : Nat) (A8 : Option Addr) (c8 : Nat) (w : World)
    (h4 : Kd.C k107 w A4 a.f0.f3.f1.length a.f0.f3.f1) (l4 : a.f0.f3.f1.length ≤ c4) (h8 : Kd.C (Kd.int .u32) w A8 a.f4.length a.f4) (l8 : a.f4.length ≤ c8) (h1 : a.f0.f3.f1.length ≤ 16777216) (h2 : a.f4.length ≤ 16777216) :
    Calls Tryd.prog 30 #[actV57 a A4 c4 A8 c8] w fun e w' => e = .returned (.bool (plain40 a)) ∧ Below w.heap.size w w' := by
  have HS : Aside0 (∀ (a b : S57) (A4 : Option Addr) (c4 : Nat) (A8 : Option Addr) (c8 : Nat) (B4 : Option Addr) (d4 : Nat) (B8 : Option Addr) (d8 : Nat) (W : World), Kd.C k107 W A4 a.f0.f3.f1.length a.f0.f3.f1 → a.f0.f3.f1.length ≤ c4 → Kd.C (Kd.int .u32) W A8 a.f4.length a.f4 → a.f4.length ≤ c8 → a.f0.f3.f1.length ≤ 16777216 → a.f4.length ≤ 16777216 → Kd.C k107 W B4 b.f0.f3.f1.length b.f0.f3.f1 → b.f0.f3.f1.length ≤ d4 → Kd.C (Kd.int .u32) W B8 b.f4.length b.f4 → b.f4.length ≤ d8 →
      Calls Tryd.prog 32 #[actV57 a A4 c4 A8 c8, actV57 b B4 d4 B8 d8] W fun e w' => e = .returned (.bool (sameA (act66 a) (act66 b))) ∧ Below W.heap.size W w') := ⟨fun a b A4 c4 A8 c8 B4 d4 B8 d8 W h4 l4 h8 l8 h1 h2 g4 m4 g8 m8 => same_calls57 a b A4 c4 A8 c8 B4 d4 B8 d8 W h4 l4 h8 l8 g4 m4 g8 m8 h1 h2⟩
  have H4 := Aside0.mk (And.intro h4 (And.intro l4 h1))
  have H8 := Aside0.mk (And.intro h8 (And.intro l8 h2))
  clear h4 l4 h8 l8 h1 h2
  obtain ⟨⟨k, n, d, f, vs⟩, cut, mount, m, ms⟩ := a
  cases cut with
  | true =>
    have HB := Aside0.mk (below_alloc (below_alloc (Below.refl w.heap.size w) (.cells #[.int .i64 k, .int .i64 n, .string d, .int .i64 f, .slice A4 vs.length c4, .bool true, .bool mount, .int .i64 m, .slice A8 ms.length c8] 57)) (.cells #[.int .i64 0, .int .i64 0, .string ⟨#[]⟩, .int .i64 0, .slice none 0 0, .bool false, .bool false, .int .i64 0, .slice none 0 0] 57))
    cases mount with
    | true =>
      have HP : Aside0 (plain40 ⟨⟨k, n, d, ⟨f, vs⟩⟩, true, true, m, ms⟩ = false) := ⟨rfl⟩
      show Calls Tryd.prog 30 #[.agg #[.int .i64 k, .int .i64 n, .string d, .int .i64 f, .slice A4 vs.length c4, .bool true, .bool true, .int .i64 m, .slice A8 ms.length c8]] w _
      go_enter Tryd.func30, Tryd.ntmps30
      go_wp2_with fail
      go_ret
      exact ⟨by rw [HP.out]; rfl, HB.out⟩
    | false =>
      have HP : Aside0 (plain40 ⟨⟨k, n, d, ⟨f, vs⟩⟩, true, false, m, ms⟩ = sameA ⟨⟨k, n, d, ⟨f, vs⟩⟩, false, false, 0, []⟩ ⟨⟨0, 0, ⟨#[]⟩, ⟨0, []⟩⟩, false, false, 0, []⟩) := ⟨rfl⟩
      obtain ⟨r, hr⟩ : ∃ r, sameA ⟨⟨k, n, d, ⟨f, vs⟩⟩, false, false, 0, []⟩ ⟨⟨0, 0, ⟨#[]⟩, ⟨0, []⟩⟩, false, false, 0, []⟩ = r := ⟨_, rfl⟩
      have HC : Aside0 (∀ W, Below w.heap.size w W → Calls Tryd.prog 32 #[.agg #[.int .i64 k, .int .i64 n, .string d, .int .i64 f, .slice A4 vs.length c4, .bool false, .bool false, .int .i64 0, .slice none 0 0], .agg #[.int .i64 0, .int .i64 0, .string ⟨#[]⟩, .int .i64 0, .slice none 0 0, .bool false, .bool false, .int .i64 0, .slice none 0 0]] W fun e w' => e = .returned (.bool r) ∧ Below W.heap.size W w') := ⟨fun W hb => by
        have h := HS.out ⟨⟨k, n, d, ⟨f, vs⟩⟩, false, false, 0, []⟩ ⟨⟨0, 0, ⟨#[]⟩, ⟨0, []⟩⟩, false, false, 0, []⟩ A4 c4 none 0 none 0 none 0 W (Kd.C_below H4.out.1 hb) H4.out.2.1 (Kd.C_nil _ _) (Nat.le_refl _) H4.out.2.2 (by simp) (Kd.C_nil _ _) (Nat.le_refl _) (Kd.C_nil _ _) (Nat.le_refl _)
        rw [← hr]
        exact h⟩
      rw [hr] at HP
      clear hr HS
      show Calls Tryd.prog 30 #[.agg #[.int .i64 k, .int .i64 n, .string d, .int .i64 f, .slice A4 vs.length c4, .bool true, .bool false, .int .i64 m, .slice A8 ms.length c8]] w _
      go_enter Tryd.func30, Tryd.ntmps30
      go_wp2_with ((go_at_call 32; refine (HC.out _ HB.out).mono ?_; rintro e w1 ⟨rfl, hB⟩; have S1 := Aside0.mk (HB.out.trans (hB.mono HB.out.size)); clear hB))
      go_ret
      exact ⟨by rw [HP.out]; rfl, S1.out⟩
  | false =>
    cases mount with
    | true =>
      have HB := Aside0.mk (below_alloc (below_alloc (Below.refl w.heap.size w) (.cells #[.int .i64 k, .int .i64 n, .string d, .int .i64 f, .slice A4 vs.length c4, .bool false, .bool true, .int .i64 m, .slice A8 ms.length c8] 57)) (.cells #[.int .i64 0, .int .i64 0, .string ⟨#[]⟩, .int .i64 0, .slice none 0 0, .bool false, .bool false, .int .i64 0, .slice none 0 0] 57))
      have HP : Aside0 (plain40 ⟨⟨k, n, d, ⟨f, vs⟩⟩, false, true, m, ms⟩ = sameA ⟨⟨k, n, d, ⟨f, vs⟩⟩, false, true, m, ms⟩ ⟨⟨0, 0, ⟨#[]⟩, ⟨0, []⟩⟩, false, true, 0, []⟩) := ⟨rfl⟩
      obtain ⟨r, hr⟩ : ∃ r, sameA ⟨⟨k, n, d, ⟨f, vs⟩⟩, false, true, m, ms⟩ ⟨⟨0, 0, ⟨#[]⟩, ⟨0, []⟩⟩, false, true, 0, []⟩ = r := ⟨_, rfl⟩
      have HC : Aside0 (∀ W, Below w.heap.size w W → Calls Tryd.prog 32 #[.agg #[.int .i64 k, .int .i64 n, .string d, .int .i64 f, .slice A4 vs.length c4, .bool false, .bool true, .int .i64 m, .slice A8 ms.length c8], .agg #[.int .i64 0, .int .i64 0, .string ⟨#[]⟩, .int .i64 0, .slice none 0 0, .bool false, .bool true, .int .i64 0, .slice none 0 0]] W fun e w' => e = .returned (.bool r) ∧ Below W.heap.size W w') := ⟨fun W hb => by
        have h := HS.out ⟨⟨k, n, d, ⟨f, vs⟩⟩, false, true, m, ms⟩ ⟨⟨0, 0, ⟨#[]⟩, ⟨0, []⟩⟩, false, true, 0, []⟩ A4 c4 A8 c8 none 0 none 0 W (Kd.C_below H4.out.1 hb) H4.out.2.1 (Kd.C_below H8.out.1 hb) H8.out.2.1 H4.out.2.2 H8.out.2.2 (Kd.C_nil _ _) (Nat.le_refl _) (Kd.C_nil _ _) (Nat.le_refl _)
        rw [← hr]
        exact h⟩
      rw [hr] at HP
      clear hr HS
      show Calls Tryd.prog 30 #[.agg #[.int .i64 k, .int .i64 n, .string d, .int .i64 f, .slice A4 vs.length c4, .bool false, .bool true, .int .i64 m, .slice A8 ms.length c8]] w _
      go_enter Tryd.func30, Tryd.ntmps30
      go_wp2_with ((go_at_call 32; refine (HC.out _ HB.out).mono ?_; rintro e w1 ⟨rfl, hB⟩; have S1 := Aside0.mk (HB.out.trans (hB.mono HB.out.size)); clear hB))
      go_ret
      exact ⟨by rw [HP.out]; rfl, S1.out⟩
    | false =>
      have HB := Aside0.mk (below_alloc (below_alloc (Below.refl w.heap.size w) (.cells #[.int .i64 k, .int .i64 n, .string d, .int .i64 f, .slice A4 vs.length c4, .bool false, .bool false, .int .i64 m, .slice A8 ms.length c8] 57)) (.cells #[.int .i64 0, .int .i64 0, .string ⟨#[]⟩, .int .i64 0, .slice none 0 0, .bool false, .bool false, .int .i64 0, .slice none 0 0] 57))
      replace HB := Aside0.mk (below_alloc HB.out (.cells #[.int .i64 k, .int .i64 n, .string d, .int .i64 f, .slice A4 vs.length c4] 54))
      have HP : Aside0 (plain40 ⟨⟨k, n, d, ⟨f, vs⟩⟩, false, false, m, ms⟩ = restB k n d f vs m ms.length) := ⟨rfl⟩
      obtain ⟨r, hr⟩ : ∃ r, plain40 ⟨⟨k, n, d, ⟨f, vs⟩⟩, false, false, m, ms⟩ = r := ⟨_, rfl⟩
      show Calls Tryd.prog 30 #[.agg #[.int .i64 k, .int .i64 n, .string d, .int .i64 f, .slice A4 vs.length c4, .bool false, .bool false, .int .i64 m, .slice A8 ms.length c8]] w _
      rw [hr] at HP
      rw [hr]
      clear hr HS
      replace H4 := Aside0.mk H4.out.1
      obtain ⟨N, hN⟩ : ∃ N, vs.length = N := ⟨_, rfl⟩
      obtain ⟨M, hM⟩ : ∃ M, ms.length = M := ⟨_, rfl⟩
      rw [hN] at H4 HB ⊢
      rw [hM] at HB HP ⊢
      have HN := Aside0.mk hN
      clear hN hM H8
      have hn63 : N ≤ 9223372036854775807 := Kd.C_max H4.out
      go_enter Tryd.func30, Tryd.ntmps30
      by_cases hk1 : k < 1
      · have e1 : decide (k < 1) = true := decide_eq_true hk1
        have HL := Aside0.mk (show r = false by rw [HP.out]; simp [restB, hk1])
        clear HP
        go_wp2_with fail
        go_ret
        exact ⟨by rw [HL.out]; rfl, HB.out⟩
      have e1 : decide (k < 1) = false := decide_eq_false hk1
      by_cases hk2 : 13 < k
      · have e2 : decide (13 < k) = true := decide_eq_true hk2
        have HL := Aside0.mk (show r = false by rw [HP.out]; simp [restB, hk2])
        clear HP
        go_wp2_with fail
        go_ret
        exact ⟨by rw [HL.out]; rfl, HB.out⟩
      have e2 : decide (13 < k) = false := decide_eq_false hk2
      by_cases hm : m = 0
      rotate_left
      · have e3 : (m == 0) = false := beq_eq_false_iff_ne.2 hm
        have HL := Aside0.mk (show r = false by rw [HP.out]; simp [restB, hm])
        clear HP
        go_wp2_with fail
        go_ret
        exact ⟨by rw [HL.out]; rfl, HB.out⟩
      subst hm
      by_cases hM : M = 0
      rotate_left
      · have e4 : decide ((0 : Int) < M) = true := decide_eq_true (by omega)
        have e5 : (0 : Int) < M := by omega
        have e6 : 0 < M := by omega
        have HL := Aside0.mk (show r = false by rw [HP.out]; simp [restB, hM])
        clear HP
        go_wp2_with fail
        go_ret
        exact ⟨by rw [HL.out]; rfl, HB.out⟩
      subst hM
      replace HP : Aside0 (r = (!vs.any bothF && tailB k n d f N)) := ⟨by rw [HP.out, restB, HN.out]; simp [hk1, hk2]⟩
      go_wp2_with fail
      go_loopw [5] (fun i wr => ∃ t : Nat, t ≤ N ∧ i = .int .i64 (t : Int) ∧ wr = ((w.alloc (.cells #[.int .i64 k, .int .i64 n, .string d, .int .i64 f, .slice A4 N c4, .bool false, .bool false, .int .i64 0, .slice A8 0 c8] 57)).alloc (.cells #[.int .i64 0, .int .i64 0, .string ⟨#[]⟩, .int .i64 0, .slice none 0 0, .bool false, .bool false, .int .i64 0, .slice none 0 0] 57)).alloc (.cells #[.int .i64 k, .int .i64 n, .string d, .int .i64 f, .slice A4 N c4] 54) ∧ Aside0 ((vs.take t).any bothF = false)) (fun i _ => N - (intOf i).toNat)
      case atStart => exact ⟨0, by omega, rfl, rfl, ⟨by simp⟩⟩
      case round =>
        obtain ⟨t, ht, rfl, rfl, S⟩ := hrel
        by_cases hlt : t < N
        · have hb5 : (0 : Int) ≤ (t : Int) := by omega
          have hb6 : (t : Int) < (N : Int) := by omega
          obtain ⟨ad, rfl, hc0, hc1⟩ := at_T107 (Kd.C_below H4.out HB.out) (t : Int) hb5 hb6
          rw [Int.toNat_natCast] at hc0 hc1
          obtain ⟨x, hx⟩ : ∃ x, rd_T107 vs (t : Int) = x := ⟨_, rfl⟩
          rw [hx] at hc0 hc1
          have hl : t < vs.length := by rw [HN.out]; exact hlt
          have hxe : vs[t] = x := by rw [← hx]; simp [rd_T107, List.getD_eq_getElem?_getD, hl]
          have hnx : ((vs.take (t + 1)).any bothF) = bothF x := by
            rw [List.take_succ_eq_append_getElem hl, List.any_append, S.out, Bool.false_or, hxe]
            simp
          have hany : bothF x = true → (vs.any bothF) = true := by
            intro h0
            rw [List.any_eq_true]
            exact ⟨vs[t], List.getElem_mem hl, by rw [hxe, h0]⟩
          have HX2 := Aside0.mk hnx
          have HX3 := Aside0.mk hany
          clear hnx hany hxe hx hl
          obtain ⟨x0, x1⟩ := x
          replace hc0 : (((w.alloc (.cells #[.int .i64 k, .int .i64 n, .string d, .int .i64 f, .slice (some ad) N c4, .bool false, .bool false, .int .i64 0, .slice A8 0 c8] 57)).alloc (.cells #[.int .i64 0, .int .i64 0, .string ⟨#[]⟩, .int .i64 0, .slice none 0 0, .bool false, .bool false, .int .i64 0, .slice none 0 0] 57)).alloc (.cells #[.int .i64 k, .int .i64 n, .string d, .int .i64 f, .slice (some ad) N c4] 54)).cell? (ad.add (t * 2)) = some (.int .i64 x0) := hc0
          replace hc1 : (((w.alloc (.cells #[.int .i64 k, .int .i64 n, .string d, .int .i64 f, .slice (some ad) N c4, .bool false, .bool false, .int .i64 0, .slice A8 0 c8] 57)).alloc (.cells #[.int .i64 0, .int .i64 0, .string ⟨#[]⟩, .int .i64 0, .slice none 0 0, .bool false, .bool false, .int .i64 0, .slice none 0 0] 57)).alloc (.cells #[.int .i64 k, .int .i64 n, .string d, .int .i64 f, .slice (some ad) N c4] 54)).cell? ⟨(ad.add (t * 2)).block, (ad.add (t * 2)).off + 1, none⟩ = some (.string x1) := hc1
          by_cases hx0 : x0 = 0
          · subst hx0
            clear HX3
            go_wp2_with fail
            refine ⟨⟨t + 1, by omega, by go_num, trivial, ⟨by rw [HX2.out]; rfl⟩⟩, ?_⟩
            simp only [intOf]; omega
          · have e7 : (x0 == 0) = false := beq_eq_false_iff_ne.2 hx0
            by_cases hx1 : x1.size = 0
            · obtain rfl := empty_of hx1
              clear HX3
              go_wp2_with fail
              refine ⟨⟨t + 1, by omega, by go_num, trivial, ⟨by rw [HX2.out]; simp [bothF, size0]⟩⟩, ?_⟩
              simp only [intOf]; omega
            · have hne := nonempty_false hx1
              have HL := Aside0.mk (show r = false by rw [HP.out, HX3.out (by simp [bothF, hx0, hx1])]; rfl)
              clear HX3 HP HX2
              go_wp2_with fail
              go_ret
              exact ⟨by rw [HL.out]; rfl, HB.out⟩
        · obtain rfl : t = N := by omega
          have hall : (vs.any bothF) = false := by
            have h := S.out
            rw [List.take_of_length_le (by rw [HN.out]; exact Nat.le_refl _)] at h
            exact h
          replace HP : Aside0 (r = tailB k n d f t) := ⟨by rw [HP.out, hall]; rfl⟩
          clear hall S
          by_cases c1 : k = 1
          · subst c1
            clear hk1 hk2 e1 e2
            by_cases hd : d.size = 0
            rotate_left
            · have f2 := nonempty_false hd
              have HL := Aside0.mk (show r = false by rw [HP.out]; simp [tailB, size0, hd])
              clear HP
              go_wp2_with fail
              go_ret
              exact ⟨by rw [HL.out]; rfl, HB.out⟩
            obtain rfl := empty_of hd
            by_cases hf : f = 0
            rotate_left
            · have f3 : (f == 0) = false := beq_eq_false_iff_ne.2 hf
              have HL := Aside0.mk (show r = false by rw [HP.out]; simp [tailB, size0, hf])
              clear HP
              go_wp2_with fail
              go_ret
              exact ⟨by rw [HL.out]; rfl, HB.out⟩
            subst hf
            by_cases ht0 : t = 0
            rotate_left
            · have f4 : ((t : Int) == 0) = false := beq_eq_false_iff_ne.2 (by omega)
              have HL := Aside0.mk (show r = false by rw [HP.out]; simp [tailB, size0, ht0])
              clear HP
              go_wp2_with fail
              go_ret
              exact ⟨by rw [HL.out]; rfl, HB.out⟩
            subst ht0
            have HL := Aside0.mk (show r = true by rw [HP.out]; simp [tailB, size0])
            clear HP
            go_wp2_with fail
            go_ret
            exact ⟨by rw [HL.out]; rfl, HB.out⟩
          by_cases c2 : k = 2
          · subst c2
            clear hk1 hk2 e1 e2
            by_cases hn : n = 0
            rotate_left
            · have f1 : (n == 0) = false := beq_eq_false_iff_ne.2 hn
              have HL := Aside0.mk (show r = false by rw [HP.out]; simp [tailB, size0, hn])
              clear HP
              go_wp2_with fail
              go_ret
              exact ⟨by rw [HL.out]; rfl, HB.out⟩
            subst hn
            by_cases hf : f = 0
            rotate_left
            · have f3 : (f == 0) = false := beq_eq_false_iff_ne.2 hf
              have HL := Aside0.mk (show r = false by rw [HP.out]; simp [tailB, size0, hf])
              clear HP
              go_wp2_with fail
              go_ret
              exact ⟨by rw [HL.out]; rfl, HB.out⟩
            subst hf
            by_cases ht0 : t = 0
            rotate_left
            · have f4 : ((t : Int) == 0) = false := beq_eq_false_iff_ne.2 (by omega)
              have HL := Aside0.mk (show r = false by rw [HP.out]; simp [tailB, size0, ht0])
              clear HP
              go_wp2_with fail
              go_ret
              exact ⟨by rw [HL.out]; rfl, HB.out⟩
            subst ht0
            have HL := Aside0.mk (show r = true by rw [HP.out]; simp [tailB, size0])
            clear HP
            go_wp2_with fail
            go_ret
            exact ⟨by rw [HL.out]; rfl, HB.out⟩
          by_cases c12 : k = 12
          · subst c12
            clear hk1 hk2 e1 e2
            by_cases hd : d.size = 0
            rotate_left
            · have f2 := nonempty_false hd
              have HL := Aside0.mk (show r = false by rw [HP.out]; simp [tailB, size0, hd])
              clear HP
              go_wp2_with fail
              go_ret
              exact ⟨by rw [HL.out]; rfl, HB.out⟩
            obtain rfl := empty_of hd
            have HL := Aside0.mk (show r = true by rw [HP.out]; simp [tailB, size0])
            clear HP
            go_wp2_with fail
            go_ret
            exact ⟨by rw [HL.out]; rfl, HB.out⟩
          by_cases c11 : k = 11
          · subst c11
            clear hk1 hk2 e1 e2
            by_cases hd : d.size = 0
            rotate_left
            · have f2 := nonempty_false hd
              have HL := Aside0.mk (show r = false by rw [HP.out]; simp [tailB, size0, hd])
              clear HP
              go_wp2_with fail
              go_ret
              exact ⟨by rw [HL.out]; rfl, HB.out⟩
            obtain rfl := empty_of hd
            by_cases ht0 : t = 0
            rotate_left
            · have f4 : ((t : Int) == 0) = false := beq_eq_false_iff_ne.2 (by omega)
              have HL := Aside0.mk (show r = false by rw [HP.out]; simp [tailB, size0, ht0])
              clear HP
              go_wp2_with fail
              go_ret
              exact ⟨by rw [HL.out]; rfl, HB.out⟩
            subst ht0
            have HL := Aside0.mk (show r = true by rw [HP.out]; simp [tailB, size0])
            clear HP
            go_wp2_with fail
            go_ret
            exact ⟨by rw [HL.out]; rfl, HB.out⟩
          by_cases c13 : k = 13
          · subst c13
            clear hk1 hk2 e1 e2
            by_cases hd : d.size = 0
            rotate_left
            · have f2 := nonempty_false hd
              have HL := Aside0.mk (show r = false by rw [HP.out]; simp [tailB, size0, hd])
              clear HP
              go_wp2_with fail
              go_ret
              exact ⟨by rw [HL.out]; rfl, HB.out⟩
            obtain rfl := empty_of hd
            by_cases ht0 : t = 0
            rotate_left
            · have f4 : ((t : Int) == 0) = false := beq_eq_false_iff_ne.2 (by omega)
              have HL := Aside0.mk (show r = false by rw [HP.out]; simp [tailB, size0, ht0])
              clear HP
              go_wp2_with fail
              go_ret
              exact ⟨by rw [HL.out]; rfl, HB.out⟩
            subst ht0
            have HL := Aside0.mk (show r = true by rw [HP.out]; simp [tailB, size0])
            clear HP
            go_wp2_with fail
            go_ret
            exact ⟨by rw [HL.out]; rfl, HB.out⟩
          have g1 : (k == 1) = false := beq_eq_false_iff_ne.2 c1
          have g2 : (k == 2) = false := beq_eq_false_iff_ne.2 c2
          have g3 : (k == 12) = false := beq_eq_false_iff_ne.2 c12
          have c0 : ¬ 11 ≤ k := by omega
          have g4 : decide (11 ≤ k) = false := decide_eq_false c0
          by_cases hn : n = 0
          rotate_left
          · have f1 : (n == 0) = false := beq_eq_false_iff_ne.2 hn
            have HL := Aside0.mk (show r = false by rw [HP.out]; simp [tailB, size0, hn, c1, c2, c12, c0])
            clear HP
            go_wp2_with fail
            go_ret
            exact ⟨by rw [HL.out]; rfl, HB.out⟩
          subst hn
          by_cases hd : d.size = 0
          rotate_left
          · have f2 := nonempty_false hd
            have HL := Aside0.mk (show r = false by rw [HP.out]; simp [tailB, size0, hd, c1, c2, c12, c0])
            clear HP
            go_wp2_with fail
            go_ret
            exact ⟨by rw [HL.out]; rfl, HB.out⟩
          obtain rfl := empty_of hd
          by_cases hf : f = 0
          rotate_left
          · have f3 : (f == 0) = false := beq_eq_false_iff_ne.2 hf
            have HL := Aside0.mk (show r = false by rw [HP.out]; simp [tailB, size0, hf, c1, c2, c12, c0])
            clear HP
            go_wp2_with fail
            go_ret
            exact ⟨by rw [HL.out]; rfl, HB.out⟩
          subst hf
          by_cases ht0 : t = 0
          rotate_left
          · have f4 : ((t : Int) == 0) = false := beq_eq_false_iff_ne.2 (by omega)
            have HL := Aside0.mk (show r = false by rw [HP.out]; simp [tailB, size0, ht0, c1, c2, c12, c0])
            clear HP
            go_wp2_with fail
            go_ret
            exact ⟨by rw [HL.out]; rfl, HB.out⟩
          subst ht0
          have HL := Aside0.mk (show r = true by rw [HP.out]; simp [tailB, size0, c1, c2, c12, c0])
          clear HP
          go_wp2_with fail
          go_ret
          exact ⟨by rw [HL.out]; rfl, HB.out⟩
end Go.Proofs.YtiddiboclfpklaaDoor.Tz
