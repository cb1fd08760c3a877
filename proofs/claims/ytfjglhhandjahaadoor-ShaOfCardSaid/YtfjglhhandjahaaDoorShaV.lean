/- ShaOf, walked. -/
import Derived.Test.YtfjglhhandjahaaDoorShaT
namespace Go.Proofs.YtfjglhhandjahaaDoor.Sha
open Go.RowKit Go.Proofs.YtfjglhhandjahaaDoorW.PrintWords Go.Proofs.YtfjglhhandjahaaDoor.PShaOf
set_option linter.unusedVariables false

theorem addL_nonneg (vs ss : List Int) : ∀ x ∈ addL vs ss, 0 ≤ x := by
  intro x hx
  unfold addL at hx
  rw [List.mem_iff_getElem] at hx
  obtain ⟨i, hi, rfl⟩ := hx
  simp only [List.getElem_zipWith]
  exact Int.emod_nonneg _ (by decide)
theorem stepL_nonneg (rs W st : List Int) : ∀ x ∈ stepL rs W st, 0 ≤ x := by
  intro x hx
  unfold stepL at hx
  split at hx
  · exact addL_nonneg _ _ x hx
  · cases hx
theorem blkL_nonneg : ∀ n l, ∀ x ∈ blkL roundL firstL n l, 0 ≤ x
  | 0, _ => show ∀ x ∈ firstL, 0 ≤ x by decide
  | n + 1, l => stepL_nonneg _ _ _
theorem digest_nonneg (l : List Int) : ∀ x ∈ digest roundL firstL l, 0 ≤ x := blkL_nonneg _ _
theorem OwnB.str {w wr : World} {v : Value} {xs : List Int} (h : OwnB w wr v xs) : (convert 23 9 v).run Tryd.prog wr = .ok (.string (strOfNums xs)) wr :=
  own_string un23 (by kernel_rfl) (by kernel_rfl) h.own

theorem OwnB.strs {w wr : World} {v : Value} {xs : List Int} {s : ByteArray} (h : OwnB w wr v xs) (hs : strOfNums xs = s) : ∀ W', Below wr.heap.size wr W' → (convert 23 9 v).run Tryd.prog W' = .ok (.string s) W' := fun W' hW => by
  subst hs
  exact OwnB.str ⟨pw_own_below h.own hW, h.bel.trans (hW.mono h.bel.size)⟩
theorem W32.cells8 {w : World} {b : Nat} {d0 d1 d2 d3 d4 d5 d6 d7 : Int} (h : W32 w b 29 [d0, d1, d2, d3, d4, d5, d6, d7]) :
    w.cell? ⟨b, 0, none⟩ = some (.int .u32 d0) ∧ w.cell? ⟨b, 1, none⟩ = some (.int .u32 d1) ∧ w.cell? ⟨b, 2, none⟩ = some (.int .u32 d2) ∧ w.cell? ⟨b, 3, none⟩ = some (.int .u32 d3) ∧
    w.cell? ⟨b, 4, none⟩ = some (.int .u32 d4) ∧ w.cell? ⟨b, 5, none⟩ = some (.int .u32 d5) ∧ w.cell? ⟨b, 6, none⟩ = some (.int .u32 d6) ∧ w.cell? ⟨b, 7, none⟩ = some (.int .u32 d7) := by
  unfold W32 at h
  refine ⟨?_, ?_, ?_, ?_, ?_, ?_, ?_, ?_⟩ <;> (rw [blk_cell h]; rfl)
def OfSt (w W : World) (b : Nat) (ds : List Int) : Prop := Below w.heap.size w W ∧ W32 W b 29 ds
theorem OfSt.next {w W W' : World} {b : Nat} {ds : List Int} (h : OfSt w W b ds) (hB : Below W.heap.size W W') : OfSt w W' b ds := ⟨h.1.trans (hB.mono h.1.size), blk_below h.2 hB⟩
theorem OfSt.drew {w W : World} {b : Nat} {ds : List Int} (h : OfSt w W b ds) : OfSt w W.drew b ds := ⟨below_drew h.1, h.2⟩
set_option maxHeartbeats 100000000 in
set_option maxRecDepth 100000 in
theorem shaOf_calls (l : List Int) (A : Option Addr) (c : Nat) (w : World) (hr : Kd.C (Kd.int .u8) w A l.length l) (hc : l.length ≤ c) (hb : ∀ x ∈ l, 0 ≤ x ∧ x < 256) (hF : TB w 0 firstL) (hK : TB w 1 roundL) :
    Calls Tryd.prog 5 #[.slice A l.length c] w fun e w' => e = .returned (.bool true) ∧ Below w.heap.size w w' := by
  have HF := Aside0.mk hF
  have HK := Aside0.mk hK
  have HR := Aside0.mk hr
  have HBY := Aside0.mk hb
  clear hF hK hr hb
  have z2 := zeroV29
  by_cases hlen : l.length ≤ 4000
  · have hl4 : ¬ (4000 : Int) < (l.length : Int) := by omega
    obtain ⟨d0, d1, d2, d3, d4, d5, d6, d7, hd⟩ := eight _ (digest_length roundL firstL l rfl)
    have hp := digest_nonneg l
    rw [hd] at hp
    have HO : Aside0 (Calls Tryd.prog 10 #[.slice A l.length c] w fun e w' => e = .returned (.agg #[.int .u32 d0, .int .u32 d1, .int .u32 d2, .int .u32 d3, .int .u32 d4, .int .u32 d5, .int .u32 d6, .int .u32 d7]) ∧ Below w.heap.size w w') := ⟨by have h := rof_calls l A c w HR.out hc (by omega) HBY.out; rw [hd] at h; exact h⟩
    have HO2 : Aside0 (∀ W, Below w.heap.size w W → Calls Tryd.prog 12 #[.slice A l.length c] W fun e w' => e = .returned (.agg #[.int .u32 d0, .int .u32 d1, .int .u32 d2, .int .u32 d3, .int .u32 d4, .int .u32 d5, .int .u32 d6, .int .u32 d7]) ∧ Below W.heap.size W w') := ⟨fun W hW => by have h := of_is l A c W (HF.out.below hW) (HK.out.below hW) (Kd.C_below HR.out hW) hc (by omega); rw [hd] at h; exact h⟩
    have HB1 : Aside0 (∀ W, Calls Tryd.prog 13 #[.agg #[.int .u32 d0, .int .u32 d1, .int .u32 d2, .int .u32 d3, .int .u32 d4, .int .u32 d5, .int .u32 d6, .int .u32 d7]] W fun e w' => ∃ v, e = .returned v ∧ OwnB W w' v (bytesL [d0, d1, d2, d3, d4, d5, d6, d7])) := ⟨fun W => bytes_calls [d0, d1, d2, d3, d4, d5, d6, d7] rfl W⟩
    have HB2 : Aside0 (∀ W, Calls Tryd.prog 14 #[.agg #[.int .u32 d0, .int .u32 d1, .int .u32 d2, .int .u32 d3, .int .u32 d4, .int .u32 d5, .int .u32 d6, .int .u32 d7]] W fun e w' => ∃ v, e = .returned v ∧ OwnB W w' v (bytesL [d0, d1, d2, d3, d4, d5, d6, d7])) := ⟨fun W => rbytes_calls [d0, d1, d2, d3, d4, d5, d6, d7] rfl hp W⟩
    have heq : ∀ W, (Op.equalIn 10000 29 (.agg #[.int .u32 d0, .int .u32 d1, .int .u32 d2, .int .u32 d3, .int .u32 d4, .int .u32 d5, .int .u32 d6, .int .u32 d7]) (.agg #[.int .u32 d0, .int .u32 d1, .int .u32 d2, .int .u32 d3, .int .u32 d4, .int .u32 d5, .int .u32 d6, .int .u32 d7])).run Tryd.prog W = .ok true W := fun W => by
      have h := eq29 [d0, d1, d2, d3, d4, d5, d6, d7] [d0, d1, d2, d3, d4, d5, d6, d7] rfl rfl W
      rw [decide_eq_true rfl] at h
      exact h
    clear hd hp
    obtain ⟨str, hstr⟩ : ∃ s, strOfNums (bytesL [d0, d1, d2, d3, d4, d5, d6, d7]) = s := ⟨_, rfl⟩
    have HSTR := Aside0.mk hstr
    clear hstr
    go_enter Tryd.func5, Tryd.ntmps5
    go_upto_region 4 with ((go_at_call 10; refine HO.out.mono ?_; rintro e w1 ⟨rfl, hB⟩; have S1 := Aside0.mk hB; clear hB))
    have SD : Aside0 (OfSt w (w1.alloc (.cells #[.int .u32 d0, .int .u32 d1, .int .u32 d2, .int .u32 d3, .int .u32 d4, .int .u32 d5, .int .u32 d6, .int .u32 d7] 29)) w1.heap.size [d0, d1, d2, d3, d4, d5, d6, d7]) := ⟨below_alloc S1.out _, blk_new w1 _⟩
    obtain ⟨wD, hwD⟩ : ∃ wD, w1.alloc (.cells #[.int .u32 d0, .int .u32 d1, .int .u32 d2, .int .u32 d3, .int .u32 d4, .int .u32 d5, .int .u32 d6, .int .u32 d7] 29) = wD := ⟨_, rfl⟩
    rw [hwD] at SD ⊢
    clear hwD z2
    have C0 := SD.out.2.cells8
    go_cut [2] (fun v wc => v = .bool true ∧ Aside0 (Below w.heap.size w wc))
    case first =>
      go_region_with ((first
          | (go_at_call 12; refine (HO2.out _ (below_drew SD.out.1)).mono ?_; rintro e w2 ⟨rfl, hB⟩; have S2 := Aside0.mk (SD.out.drew.next hB); have C2 := S2.out.2.cells8; clear hB)
          | (go_at_call 13; refine (HB1.out _).mono ?_; rintro e w3 ⟨v3, rfl, hO3⟩; have S3 : Aside0 (OfSt w w3 w1.heap.size [d0, d1, d2, d3, d4, d5, d6, d7]) := ⟨by first | exact S2.out.next hO3.bel | exact S4.out.next hO3.bel⟩; have C3 := S3.out.2.cells8; have E3 := Aside0.mk (hO3.strs HSTR.out); have hv3 := E3.out _ (Below.refl _ _); (try have hv4b := E4.out _ hO3.bel); clear hO3)
          | (go_at_call 14; refine (HB2.out _).mono ?_; rintro e w4 ⟨v4, rfl, hO4⟩; have S4 : Aside0 (OfSt w w4 w1.heap.size [d0, d1, d2, d3, d4, d5, d6, d7]) := ⟨by first | exact S2.out.next hO4.bel | exact S3.out.next hO4.bel⟩; have C4 := S4.out.2.cells8; have E4 := Aside0.mk (hO4.strs HSTR.out); have hv4 := E4.out _ (Below.refl _ _); (try have hv3b := E3.out _ hO4.bel); clear hO4)
          | (go_at_call 7; first | (refine (awake_calls _ (HF.out.below S4.out.1) (HK.out.below S4.out.1)).mono ?_; rintro e w5 ⟨rfl, hB⟩; have S5 := Aside0.mk (S4.out.next hB); clear hB) | (refine (awake_calls _ (HF.out.below S3.out.1) (HK.out.below S3.out.1)).mono ?_; rintro e w5 ⟨rfl, hB⟩; have S5 := Aside0.mk (S3.out.next hB); clear hB))))
      all_goals
        go_wp2_with fail
        go_meet
        exact ⟨rfl, ⟨S5.out.1⟩⟩
    case rest =>
      obtain ⟨rfl, hS⟩ := hcut
      go_wp2_with fail
      go_ret
      exact ⟨rfl, hS.out⟩
  · have hl4 : (4000 : Int) < (l.length : Int) := by omega
    go_enter Tryd.func5, Tryd.ntmps5
    go_wp2_with ((go_at_call 7; refine (awake_calls w HF.out HK.out).mono ?_; rintro e w1 ⟨rfl, hB⟩; have S1 := Aside0.mk hB; clear hB))
    go_ret
    exact ⟨rfl, S1.out⟩
end Go.Proofs.YtfjglhhandjahaaDoor.Sha
