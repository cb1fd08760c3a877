/- ShaParts, walked. -/
import Derived.Test.YtfjglhhandjahaaDoorShaT
namespace Go.Proofs.YtfjglhhandjahaaDoor.Sha
open Go.RowKit Go.Proofs.YtfjglhhandjahaaDoorW.PrintWords Go.Proofs.YtfjglhhandjahaaDoor.PShaOf
set_option linter.unusedVariables false

/-- The state of the loop of ShaParts: the hash and all the bytes so far. -/
structure PartSt (w wr : World) (v : Value) (L : List Int) : Prop where
  is : HIs roundL firstL wr w.heap.size L
  own : wr.ownsRow (w.heap.size + 1) 5 1 v L.length (nums .u8 L)
  bel : Below w.heap.size w wr
  len : L.length ≤ 6300
  byt : ∀ x ∈ L, 0 ≤ x ∧ x < 256

set_option maxHeartbeats 1500000 in
set_option maxRecDepth 100000 in
theorem parts_calls (ll : List (List Int)) (A : Option Addr) (c : Nat) (w : World) (hr : Kd.C (Kd.slice 5 (Kd.int .u8)) w A ll.length ll) (hc : ll.length ≤ c) (hb : ∀ l ∈ ll, ∀ x ∈ l, 0 ≤ x ∧ x < 256) (hF : TB w 0 firstL) (hK : TB w 1 roundL) :
    Calls Tryd.prog 3 #[.slice A ll.length c] w fun e w' => e = .returned (.bool true) ∧ Below w.heap.size w w' := by
  have HF := Aside0.mk hF
  have HK := Aside0.mk hK
  have HR := Aside0.mk hr
  have HBY := Aside0.mk hb
  have hw1 : 1 < w.heap.size := hK.lt
  clear hF hK hr hb
  have HN : Aside0 (Calls Tryd.prog 6 #[] w fun e w' => e = .returned (.pointer (some ⟨w.heap.size, 0, none⟩)) ∧ HIs roundL firstL w' w.heap.size [] ∧ Below w.heap.size w w') := ⟨new_calls roundL _ _ _ _ _ _ _ _ w HF.out⟩
  go_enter Tryd.func3, Tryd.ntmps3
  by_cases h20 : ll.length ≤ 20
  · have h21 : ¬ (20 : Int) < (ll.length : Int) := by omega
    go_wp2_with ((go_at_call 6; refine HN.out.mono ?_; rintro e w1 ⟨rfl, hI, hB⟩; have S1 : Aside0 (PartSt w w1 (.slice none 0 0) []) := ⟨⟨hI, own_nil _ _ _ _, hB, by simp, by simp⟩⟩; clear hI hB))
    go_loopw [3, 5] (fun v i wr => ∃ t : Nat, t ≤ ll.length ∧ i = .int .i64 (t : Int) ∧ Aside0 (∃ L, PartSt w wr v L ∧ L.length ≤ 300 * t)) (fun _ i _ => ll.length - (intOf i).toNat)
    case atStart => exact ⟨0, by omega, rfl, ⟨[], S1.out, by simp⟩⟩
    case round =>
      clear S1
      obtain ⟨t, ht, rfl, HS⟩ := hrel
      obtain ⟨L, hS, hL⟩ := HS.out
      obtain ⟨A3, c3, rfl⟩ := own_slice hS.own
      have S := Aside0.mk hS
      clear HS hS
      by_cases hlt : t < ll.length
      · have hb5 : (0 : Int) ≤ (t : Int) := by omega
        have hb6 : (t : Int) < (ll.length : Int) := by omega
        obtain ⟨ad, cs, rfl, _, ⟨Ae, ce, rfl, hce, hCe⟩, hcell⟩ := Kd.C_get HR.out [] (t : Int) hb5 hb6
        obtain ⟨l, hl⟩ : ∃ l, ll.getD t [] = l := ⟨_, rfl⟩
        rw [Int.toNat_natCast, hl] at hce hCe
        have hcw : w.cell? (ad.add t) = some (.slice Ae l.length ce) := by
          have h1 := hcell 0 (.slice Ae l.length ce) (by rw [Int.toNat_natCast, hl]; rfl)
          rw [Int.toNat_natCast, show t * (Kd.slice 5 (Kd.int IntKind.u8)).sz + 0 = t from Nat.mul_one t] at h1
          exact h1
        have hlb : ∀ x ∈ l, 0 ≤ x ∧ x < 256 := HBY.out l (by rw [← hl]; simp [List.getD_eq_getElem?_getD, hlt])
        have hcr := pw_cell_below S.out.bel hcw
        have HE := Aside0.mk (And.intro hCe (And.intro hcw hlb))
        clear hcell hcw hlb hl hCe
        obtain ⟨m, hm⟩ : ∃ m, l.length = m := ⟨_, rfl⟩
        rw [hm] at hcr hce
        have HM := Aside0.mk hm
        by_cases h300 : m ≤ 300
        · have h301 : ¬ (300 : Int) < (m : Int) := by omega
          have hlen2 : (L ++ l).length ≤ 6300 := by rw [List.length_append]; omega
          have hbyt2 : ∀ x ∈ L ++ l, 0 ≤ x ∧ x < 256 := fun x hx => (List.mem_append.1 hx).elim (S.out.byt x) (HE.out.2.2 x)
          have HW : Aside0 (Calls Tryd.prog 8 #[.pointer (some ⟨w.heap.size, 0, none⟩), .slice Ae m ce] wr fun e w' => e = .returned (.tuple #[]) ∧ HIs roundL firstL w' w.heap.size (L ++ l) ∧ wr.grownBy w' (some w.heap.size)) := ⟨by
            have h := write_is roundL firstL w.heap.size L l Ae ce wr S.out.is (fun W' hk => C_came HE.out.1 S.out.bel (Nat.le_refl _) hk) (by omega) (by omega) rfl (HK.out.below S.out.bel) (by omega)
            rw [hm] at h
            exact h⟩
          have HL2 := Aside0.mk (And.intro hlen2 hbyt2)
          clear hlen2 hbyt2 hm
          go_upto_region 11 with ((go_at_call 8; refine HW.out.mono ?_; rintro e w1 ⟨rfl, hI, hG⟩; have S1 := Aside0.mk (And.intro hI hG); clear hI hG))
          have SB : Aside0 (Below w.heap.size w w1 ∧ w1.ownsRow (w.heap.size + 1) 5 1 (.slice A3 L.length c3) L.length (nums .u8 L)) := ⟨S.out.bel.grown S1.out.2 S.out.bel.size (fun k hk => by cases hk; exact Nat.le_refl _),
            own_other S.out.own S1.out.2 (by
              by_cases hn : (Value.slice A3 L.length c3).ownBlock = none
              · exact .inl hn
              · right
                intro e
                have := own_base S.out.own w.heap.size e
                omega)⟩
          have hc1 : w1.cell? (ad.add t) = some (.slice Ae m ce) := by rw [← HM.out]; exact pw_cell_below SB.out.1 HE.out.2.1
          have HRD : Aside0 (ReadsInt w1 .u8 Ae m l) := ⟨by rw [← HM.out]; exact reads_of (Kd.C_below HE.out.1 SB.out.1)⟩
          have hsz1 : Aside0 (w.heap.size + 1 ≤ w1.heap.size) := ⟨S1.out.1.lt⟩
          go_upto_region 12 with ((refine print_append_row (w0 := w1) (w.heap.size + 1) rfl (.tmp 30) (.tmp 34) 23 5 .u8 1 rfl un23 info5 (by decide) (.slice A3 L.length c3) L l Ae m ce rfl rfl SB.out.2 HRD.out (Below.refl _ _) hsz1.out (by have := S.out.len; omega) ?_; intro v2 w2 ho hb2 _ _; have S2 := Aside0.mk (And.intro ho hb2); clear ho hb2))
          obtain ⟨M, hM⟩ : ∃ M, L ++ l = M := ⟨_, rfl⟩
          rw [hM] at S1 S2 HL2
          have P2 : Aside0 (PartSt w w2 v2 M) := ⟨⟨S1.out.1.kept (S2.out.2.block _ (by omega)), S2.out.1, SB.out.1.trans (S2.out.2.mono (by omega)), HL2.out.1, HL2.out.2⟩⟩
          have hML : M.length = L.length + m := by rw [← hM, List.length_append, HM.out]
          clear S1 S2 SB HL2 hM HRD hsz1 hc1 hcr HW
          obtain ⟨A5, c5, hv5, hR5⟩ := own_reads P2.out.own
          have hc5 : M.length ≤ c5 := by
            rcases P2.out.own.2 with ⟨e, h0⟩ | ⟨g5, cap, cur, e, _, _, hle, _⟩
            · omega
            · rw [hv5] at e
              injection e with _ _ e3
              omega
          subst hv5
          obtain ⟨d0, d1, d2, d3, d4, d5, d6, d7, hd⟩ := eight _ (digest_length roundL firstL M rfl)
          have heq : ∀ W, (Op.equalIn 10000 29 (.agg #[.int .u32 d0, .int .u32 d1, .int .u32 d2, .int .u32 d3, .int .u32 d4, .int .u32 d5, .int .u32 d6, .int .u32 d7]) (.agg #[.int .u32 d0, .int .u32 d1, .int .u32 d2, .int .u32 d3, .int .u32 d4, .int .u32 d5, .int .u32 d6, .int .u32 d7])).run Tryd.prog W = .ok true W := fun W => by
            have h := eq29 [d0, d1, d2, d3, d4, d5, d6, d7] [d0, d1, d2, d3, d4, d5, d6, d7] rfl rfl W
            rw [decide_eq_true rfl] at h
            exact h
          have HSM : Aside0 (Calls Tryd.prog 9 #[.pointer (some ⟨w.heap.size, 0, none⟩)] w2 fun e w' => e = .returned (.agg #[.int .u32 d0, .int .u32 d1, .int .u32 d2, .int .u32 d3, .int .u32 d4, .int .u32 d5, .int .u32 d6, .int .u32 d7]) ∧ Below w2.heap.size w2 w') := ⟨by
            have h := sum_calls roundL firstL w.heap.size M w2 P2.out.is (by have := P2.out.len; omega) rfl rfl (HK.out.below P2.out.bel) (by omega)
            rw [hd] at h
            exact h⟩
          have HRF : Aside0 (∀ W, Below w2.heap.size w2 W → Calls Tryd.prog 10 #[.slice A5 M.length c5] W fun e w' => e = .returned (.agg #[.int .u32 d0, .int .u32 d1, .int .u32 d2, .int .u32 d3, .int .u32 d4, .int .u32 d5, .int .u32 d6, .int .u32 d7]) ∧ Below W.heap.size W w') := ⟨fun W hW => by
            have h := rof_calls M A5 c5 W (Kd.C_below (Kd.C_of_reads (d := 0) hR5) hW) hc5 (by have := P2.out.len; omega) P2.out.byt
            rw [hd] at h
            exact h⟩
          have HCT : Aside0 (∀ W, Below w2.heap.size w2 W → Calls Tryd.prog 11 #[.pointer (some ⟨w.heap.size, 0, none⟩)] W fun e w' => e = .returned (.int .i64 M.length) ∧ w' = W) := ⟨fun W hW => count_calls roundL firstL w.heap.size M W (P2.out.is.below hW)⟩
          clear hd hR5
          obtain ⟨n, hn⟩ : ∃ n, M.length = n := ⟨_, rfl⟩
          rw [hn] at HRF HCT hML
          simp only [hn]
          have HNN := Aside0.mk (And.intro hn (And.intro hML (And.intro hc5 h300)))
          clear hn hML hc5 hc hce h301 h300
          go_wp2_with (first
            | (go_at_call 9; refine HSM.out.mono ?_; rintro e w3 ⟨rfl, hB⟩; have S3 := Aside0.mk hB; clear hB)
            | (go_at_call 10; refine (HRF.out _ S3.out).mono ?_; rintro e w4 ⟨rfl, hB⟩; have S4 := Aside0.mk (S3.out.trans (hB.mono S3.out.size)); clear hB)
            | (go_at_call 11; refine (HCT.out _ S4.out).mono ?_; rintro e w5 ⟨rfl, rfl⟩))
          refine ⟨⟨t + 1, by omega, by go_num, ⟨M, ⟨P2.out.is.below S4.out, ?_, P2.out.bel.trans (S4.out.mono P2.out.bel.size), P2.out.len, P2.out.byt⟩, ?_⟩⟩, ?_⟩
          · have h := pw_own_below P2.out.own S4.out
            rw [HNN.out.1] at h ⊢
            exact h
          · have h1 := HNN.out.1
            have h2 := HNN.out.2.1
            have h3 := HNN.out.2.2.2
            omega
          · simp only [intOf]; omega
        · have h301 : (300 : Int) < (m : Int) := by omega
          go_wp2_with ((go_at_call 7; refine (awake_calls _ (HF.out.below S.out.bel) (HK.out.below S.out.bel)).mono ?_; rintro e w2 ⟨rfl, hB⟩; have S2 := Aside0.mk (S.out.bel.trans (hB.mono S.out.bel.size)); clear hB))
          go_ret
          exact ⟨rfl, S2.out⟩
      · obtain rfl : t = ll.length := by omega
        have hc5 : L.length ≤ c3 := by
          rcases S.out.own.2 with ⟨e, h0⟩ | ⟨g5, cap, cur, e, _, _, hle, _⟩
          · omega
          · injection e with _ _ e3
            omega
        have hRL : Aside0 (Kd.C (Kd.int .u8) wr A3 L.length L) := ⟨by
          obtain ⟨A', c', e, hR⟩ := own_reads S.out.own
          injection e with e1 _ _
          rw [e1]
          exact Kd.C_of_reads (d := 0) hR⟩
        obtain ⟨d0, d1, d2, d3, d4, d5, d6, d7, hd⟩ := eight _ (digest_length roundL firstL L rfl)
        have heq : ∀ W, (Op.equalIn 10000 29 (.agg #[.int .u32 d0, .int .u32 d1, .int .u32 d2, .int .u32 d3, .int .u32 d4, .int .u32 d5, .int .u32 d6, .int .u32 d7]) (.agg #[.int .u32 d0, .int .u32 d1, .int .u32 d2, .int .u32 d3, .int .u32 d4, .int .u32 d5, .int .u32 d6, .int .u32 d7])).run Tryd.prog W = .ok true W := fun W => by
          have h := eq29 [d0, d1, d2, d3, d4, d5, d6, d7] [d0, d1, d2, d3, d4, d5, d6, d7] rfl rfl W
          rw [decide_eq_true rfl] at h
          exact h
        have HSM : Aside0 (Calls Tryd.prog 9 #[.pointer (some ⟨w.heap.size, 0, none⟩)] wr fun e w' => e = .returned (.agg #[.int .u32 d0, .int .u32 d1, .int .u32 d2, .int .u32 d3, .int .u32 d4, .int .u32 d5, .int .u32 d6, .int .u32 d7]) ∧ Below wr.heap.size wr w') := ⟨by
          have h := sum_calls roundL firstL w.heap.size L wr S.out.is (by have := S.out.len; omega) rfl rfl (HK.out.below S.out.bel) (by omega)
          rw [hd] at h
          exact h⟩
        have HOF : Aside0 (∀ W, Below wr.heap.size wr W → Calls Tryd.prog 12 #[.slice A3 L.length c3] W fun e w' => e = .returned (.agg #[.int .u32 d0, .int .u32 d1, .int .u32 d2, .int .u32 d3, .int .u32 d4, .int .u32 d5, .int .u32 d6, .int .u32 d7]) ∧ Below W.heap.size W w') := ⟨fun W hW => by
          have hb := S.out.bel.trans (hW.mono S.out.bel.size)
          have h := of_is L A3 c3 W (HF.out.below hb) (HK.out.below hb) (Kd.C_below hRL.out hW) hc5 (by have := S.out.len; omega)
          rw [hd] at h
          exact h⟩
        clear hd hc5 hc
        obtain ⟨n, hn⟩ : ∃ n, L.length = n := ⟨_, rfl⟩
        rw [hn] at HOF
        simp only [hn]
        clear hL hRL hn
        go_wp2_with (first
          | (go_at_call 9; refine HSM.out.mono ?_; rintro e w3 ⟨rfl, hB⟩; have S3 := Aside0.mk hB; clear hB)
          | (go_at_call 12; refine (HOF.out _ S3.out).mono ?_; rintro e w4 ⟨rfl, hB⟩; have S4 := Aside0.mk (S.out.bel.trans ((S3.out.trans (hB.mono S3.out.size)).mono S.out.bel.size)); clear hB)
          | (go_at_call 7; refine (awake_calls _ (HF.out.below S4.out) (HK.out.below S4.out)).mono ?_; rintro e w5 ⟨rfl, hB⟩; have S5 := Aside0.mk (S4.out.trans (hB.mono S4.out.size)); clear hB))
        go_ret
        exact ⟨rfl, S5.out⟩
  · have h21 : (20 : Int) < (ll.length : Int) := by omega
    go_wp2_with (first
      | (go_at_call 6; refine HN.out.mono ?_; rintro e w1 ⟨rfl, hI, hB⟩; have S1 := Aside0.mk hB; clear hI hB)
      | (go_at_call 7; refine (awake_calls _ (HF.out.below S1.out) (HK.out.below S1.out)).mono ?_; rintro e w2 ⟨rfl, hB⟩; have S2 := Aside0.mk (S1.out.trans (hB.mono S1.out.size)); clear hB))
    go_ret
    exact ⟨rfl, S2.out⟩
end Go.Proofs.YtfjglhhandjahaaDoor.Sha
