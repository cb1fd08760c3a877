import Derived.Test.YtiddiboclfpklaaDoorScE
/- Great, walked: it says something. -/
namespace Go.Proofs.YtiddiboclfpklaaDoor.Tz
open Go.RowKit Go.Proofs.YtiddiboclfpklaaDoorW.PrintWords Go.Proofs.YtiddiboclfpklaaDoor.PScriptReads Go.Proofs.YtiddiboclfpklaaDoor.Tx
set_option linter.unusedVariables false

/-- It says something. -/
def Says (e : Ending) : Prop := ∃ b, e = .returned (.bool b)

set_option maxHeartbeats 4000000 in
set_option maxRecDepth 100000 in
theorem great_calls (g0 g1 g2 g3 g4 g5 : Int) (B : ByteArray) (ls : List S57) (A : Option Addr) (c : Nat) (w : World) (hr : Kd.C k57 w A ls.length ls) :
    Calls Tryd.prog 24 #[.agg #[.int .i64 g0, .int .i64 g1, .int .i64 g2, .int .i64 g3, .int .i64 g4, .int .i64 g5, .string B, .slice A ls.length c]] w fun e w' => Says e ∧ Below w.heap.size w w' := by
  have HR := Aside0.mk (Kd.C_below hr (below_alloc (Below.refl w.heap.size w) (.cells #[.int .i64 g0, .int .i64 g1, .int .i64 g2, .int .i64 g3, .int .i64 g4, .int .i64 g5, .string B, .slice A ls.length c] 49)))
  have HB := Aside0.mk (below_alloc (Below.refl w.heap.size w) (.cells #[.int .i64 g0, .int .i64 g1, .int .i64 g2, .int .i64 g3, .int .i64 g4, .int .i64 g5, .string B, .slice A ls.length c] 49))
  clear hr
  obtain ⟨n, hn⟩ : ∃ n, ls.length = n := ⟨_, rfl⟩
  rw [hn] at HR HB ⊢
  have HN := Aside0.mk hn
  clear hn
  have hn63 : n ≤ 9223372036854775807 := Kd.C_max HR.out
  go_enter Tryd.func24, Tryd.ntmps24
  go_wp2_with fail
  go_loopw [3] (fun i wr => ∃ t : Nat, t ≤ n ∧ i = .int .i64 (t : Int) ∧ wr = w.alloc (.cells #[.int .i64 g0, .int .i64 g1, .int .i64 g2, .int .i64 g3, .int .i64 g4, .int .i64 g5, .string B, .slice A n c] 49)) (fun i _ => n - (intOf i).toNat)
  case atStart => exact ⟨0, by omega, rfl, rfl⟩
  case round =>
    obtain ⟨t, ht, rfl, rfl⟩ := hrel
    by_cases hlt : t < n
    · have hb5 : (0 : Int) ≤ (t : Int) := by omega
      have hb6 : (t : Int) < (n : Int) := by omega
      by_cases h81 : t < 81
      · have hb7 : (t : Int) < 81 := by omega
        obtain ⟨ad, A4, c4, A8, c8, rfl, hc0, hc1, hc2, hc3, hc4, hc5, hc6, hc7, hc8, l4, r4, l8, r8⟩ := at_T57 HR.out (t : Int) hb5 hb6
        rw [Int.toNat_natCast] at hc0 hc1 hc2 hc3 hc4 hc5 hc6 hc7 hc8
        obtain ⟨x, hx⟩ : ∃ x, rd_T57 ls (t : Int) = x := ⟨_, rfl⟩
        rw [hx] at hc0 hc1 hc2 hc3 hc4 hc5 hc6 hc7 hc8
        clear l4 r4 l8 r8 hx hc0 hc1 hc3 hc5 hc6 hc7
        obtain ⟨vn, hvn⟩ : ∃ vn, x.f0.f3.f1.length = vn := ⟨_, rfl⟩
        obtain ⟨mn, hmn⟩ : ∃ mn, x.f4.length = mn := ⟨_, rfl⟩
        rw [hvn] at hc4
        rw [hmn] at hc8
        obtain ⟨d, hd⟩ : ∃ d, x.f0.f2 = d := ⟨_, rfl⟩
        rw [hd] at hc2
        clear hvn hmn hd
        by_cases h1 : (1000 : Int) < d.size
        · have e1 : decide ((1000 : Int) < d.size) = true := decide_eq_true h1
          go_wp2_with fail
          go_ret
          exact ⟨⟨_, rfl⟩, HB.out⟩
        · have e1 : decide ((1000 : Int) < d.size) = false := decide_eq_false h1
          by_cases h2 : (40 : Int) < vn
          · have e2 : decide ((40 : Int) < vn) = true := decide_eq_true h2
            go_wp2_with fail
            go_ret
            exact ⟨⟨_, rfl⟩, HB.out⟩
          · have e2 : decide ((40 : Int) < vn) = false := decide_eq_false h2
            by_cases h3 : (100 : Int) < mn
            · have e3 : decide ((100 : Int) < mn) = true := decide_eq_true h3
              go_wp2_with fail
              go_ret
              exact ⟨⟨_, rfl⟩, HB.out⟩
            · have e3 : decide ((100 : Int) < mn) = false := decide_eq_false h3
              go_wp2_with fail
              refine ⟨⟨t + 1, by omega, by go_num, trivial⟩, ?_⟩
              simp only [intOf]; omega
      · have hb7 : ¬ (t : Int) < 81 := by omega
        have hb8 : (80 : Int) < n := by omega
        have e8 : decide ((80 : Int) < n) = true := decide_eq_true hb8
        go_wp2_with fail
        go_ret
        exact ⟨⟨_, rfl⟩, HB.out⟩
    · obtain rfl : t = n := by omega
      by_cases h8 : (80 : Int) < t
      · have e8 : decide ((80 : Int) < t) = true := decide_eq_true h8
        go_wp2_with fail
        go_ret
        exact ⟨⟨_, rfl⟩, HB.out⟩
      · have e8 : decide ((80 : Int) < t) = false := decide_eq_false h8
        go_wp2_with fail
        go_ret
        exact ⟨⟨_, rfl⟩, HB.out⟩
end Go.Proofs.YtiddiboclfpklaaDoor.Tz
