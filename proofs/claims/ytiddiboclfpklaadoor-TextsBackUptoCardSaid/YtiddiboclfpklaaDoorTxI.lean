/- Read, walked: the number of a text. -/
import Derived.Test.YtiddiboclfpklaaDoorTxH
namespace Go.Proofs.YtiddiboclfpklaaDoor.Tx
open Go.RowKit Go.Proofs.YtiddiboclfpklaaDoorW.PrintWords Go.Proofs.YtiddiboclfpklaaDoor.PTextsNums
set_option linter.unusedVariables false

/-- Whether a text begins with a sign; its bytes behind it; their number; what Read makes. -/
def signF (s : ByteArray) : Bool := if 1 < s.size then bt s 0 == 45 else false
def dg (sg : Bool) (l : List Int) : List Int := if sg then l.drop 1 else l
def numU (s : ByteArray) : Int := if signF s then wrap64 (IntKind.u64.wrap (-((dg (signF s) (bytesOf s)).foldl stepU 0))) else wrap64 ((dg (signF s) (bytesOf s)).foldl stepU 0)
def readU (s : ByteArray) : Int × Int := if (dg (signF s) (bytesOf s)).all isD then (if bytesOf s = decF (numU s) then (numU s, 0) else (0, 4)) else (0, 4)
theorem dg_t (l : List Int) : dg true l = l.drop 1 := if_pos rfl
theorem dg_f (l : List Int) : dg false l = l := if_neg Bool.false_ne_true
theorem numU_t (s : ByteArray) (h : signF s = true) : numU s = wrap64 (IntKind.u64.wrap (-((dg true (bytesOf s)).foldl stepU 0))) := by rw [numU, h, if_pos rfl]
theorem numU_f (s : ByteArray) (h : signF s = false) : numU s = wrap64 ((dg false (bytesOf s)).foldl stepU 0) := by rw [numU, h, if_neg Bool.false_ne_true]
theorem numU_I (s : ByteArray) : I64 (numU s) := by
  cases h : signF s
  · rw [numU_f s h]; exact wrap64_I _
  · rw [numU_t s h]; exact wrap64_I _
theorem dg_step (sg : Bool) (l : List Int) (x : Int) (h : sg = true → 0 < l.length) : dg sg (l ++ [x]) = dg sg l ++ [x] := by
  cases sg with
  | false => rw [dg_f, dg_f]
  | true =>
    rw [dg_t, dg_t, List.drop_append_of_le_length (h rfl)]
theorem readU_is (s : ByteArray) : IsRead s (readU s) := by
  have key : ∀ n, I64 n → bytesOf s = decF n → readU s = (n, 0) := by
    intro n hn he
    have hn' := hn
    unfold I64 at hn
    by_cases h0 : n < 0
    · rw [decF_neg n h0] at he
      obtain ⟨h1, h2⟩ := bt0 s _ _ he
      have hl := digR_len 18 (-n).toNat (by omega)
      rw [List.length_reverse] at h2
      have hs : signF s = true := by rw [signF, if_pos (by omega), h1]; rfl
      have hd : dg true (bytesOf s) = (digR (-n).toNat).reverse := by rw [he]; rfl
      have hf := foldU_digR (-n).toNat (by omega)
      have hnum : numU s = n := by
        rw [numU_t s hs, hd, hf, show (-(((-n).toNat : Nat) : Int)) = n by omega]
        simp only [wrap64, IntKind.wrap, IntKind.bits, IntKind.signed]
        simp
        omega
      rw [readU, hs, hd, digR_isD, if_pos rfl, hnum, if_pos (by rw [he, decF_neg n h0])]
    · rw [decF_pos n h0] at he
      obtain ⟨x, l, hx, hx2⟩ := digR_head n.toNat
      obtain ⟨h1, h2⟩ := bt0 s x l (he.trans hx)
      have hs : signF s = false := by
        rw [signF]
        split
        · rw [h1]; exact beq_eq_false_iff_ne.2 (by omega)
        · rfl
      have hf := foldU_digR n.toNat (by omega)
      have hnum : numU s = n := by rw [numU_f s hs, dg_f, he, hf, IntWalk.wrap64_in _ (by omega)]; omega
      rw [readU, hs, dg_f, he, digR_isD, if_pos rfl, hnum, if_pos (decF_pos n h0).symm]
  have form : readU s = (0, 4) ∨ ∃ n, I64 n ∧ bytesOf s = decF n ∧ readU s = (n, 0) := by
    unfold readU
    split
    · split
      · rename_i h
        exact .inr ⟨_, numU_I s, h, rfl⟩
      · exact .inl rfl
    · exact .inl rfl
  rcases form with h | ⟨n, hn, he, hr⟩
  · refine .inr ⟨h, fun n hn he => ?_⟩
    rw [key n hn he] at h
    exact absurd (Prod.mk.inj h).2 (by decide)
  · rw [hr]
    exact .inl ⟨rfl, hn, he⟩
theorem read_same (s : ByteArray) : readU s = readS s := (readU_is s).same (readS_is s)
theorem read_dec (n : Int) (hn : I64 n) : readU (strOfNums (decF n)) = (n, 0) := (readU_is _).of n hn (bytesOf_strOf _ (decF_byte' n))

set_option maxHeartbeats 2000000 in
set_option maxRecDepth 100000 in
theorem read_calls (s : ByteArray) (hs : s.size ≤ 9223372036854775807) (w : World) :
    Calls Tryd.prog 10 #[.string s] w fun e w' => e = .returned (.tuple #[.int .i64 (readU s).1, .int .i64 (readU s).2]) ∧ Below w.heap.size w w' := by
  have hcv := fun W => print_bytes (P := Tryd.prog) 9 80 5 un9 un80 un5 s W
  have hrd := Aside0.mk (bytes_reads w 5 s (by omega))
  have hbl := Aside0.mk (bytes_below (Below.refl w.heap.size w) (Nat.le_refl _) 5 s)
  obtain ⟨sg, hsg⟩ : ∃ sg, signF s = sg := ⟨_, rfl⟩
  have HSG := Aside0.mk hsg
  unfold signF at hsg
  obtain ⟨b0, hb0⟩ : ∃ b0, bt s 0 = b0 := ⟨_, rfl⟩
  rw [hb0] at hsg
  have HC := Aside0.mk (And.intro hsg hb0)
  clear hsg hb0
  go_enter Tryd.func10, Tryd.ntmps10
  go_upto_region 2 with (fail)
  go_cut [5] (fun v5 wc => v5 = .bool sg ∧ w = wc)
  case first =>
    obtain ⟨hsg, hb0⟩ := HC.out
    by_cases h1 : 1 < s.size
    · rw [if_pos h1] at hsg
      have hs0 : 0 < s.size := by omega
      have hx : ((s[0]'hs0).toNat : Int) = b0 := by rw [← hb0]; exact bt_at s 0 hs0
      have e1 : decide (1 < (s.size : Int)) = true := decide_eq_true (by omega)
      have e2 : decide (1 < s.size) = true := decide_eq_true h1
      have p5 : 0 ≤ (0 : Int) := by omega
      have q5 : (0 < s.size) = True := eq_true hs0
      have hx5 : ∀ h : 0 < s.size, ((s[0]'h).toNat : Int) = b0 := fun _ => hx
      have qi5 : (0 < (s.size : Int)) = True := eq_true (by omega)
      have HS2 := Aside0.mk hsg
      clear hsg hb0 p5 hx
      go_wp2_with fail
      go_meet
      case rel => exact ⟨by rw [← HS2.out], rfl⟩
    · rw [if_neg h1] at hsg
      have e1 : decide (1 < (s.size : Int)) = false := decide_eq_false (by omega)
      have e2 : decide (1 < s.size) = false := decide_eq_false h1
      have HS2 := Aside0.mk hsg
      clear hsg hb0
      go_wp2_with fail
      go_meet
      case rel => exact ⟨by rw [← HS2.out], rfl⟩
  case rest =>
  obtain ⟨rfl, rfl⟩ := hcut
  clear HC
  go_wp2_with fail
  clear hcv
  go_loopw [4, 20] (fun v i wr => ∃ t : Nat, t ≤ s.size ∧ v = .int .u64 ((dg sg ((bytesOf s).take t)).foldl stepU 0) ∧ i = .int .i64 (t : Int) ∧ Aside0 (ReadsInt wr .u8 (some ⟨w.heap.size, 0, none⟩) s.size (bytesOf s) ∧ Below w.heap.size w wr ∧ (dg sg ((bytesOf s).take t)).all isD = true)) (fun _ i _ => s.size - (intOf i).toNat)
  case atStart => exact ⟨0, by omega, by cases sg <;> rfl, rfl, ⟨hrd.out, hbl.out, by cases sg <;> rfl⟩⟩
  case round =>
    clear hrd hbl
    obtain ⟨t, ht, rfl, rfl, S⟩ := hrel
    by_cases hlt : t < s.size
    · have hb5 : (0 : Int) ≤ (t : Int) := by omega
      have hb6 : (t : Int) < (s.size : Int) := by omega
      obtain ⟨ad, he, hc⟩ := S.out.1.at_ (t : Int) hb5 hb6
      obtain rfl : (⟨w.heap.size, 0, none⟩ : Addr) = ad := Option.some.inj he
      rw [Int.toNat_natCast, add_plain] at hc
      obtain ⟨x, hx⟩ : ∃ x, rd (bytesOf s) (t : Int) = x := ⟨_, rfl⟩
      rw [hx] at hc
      have hl : t < (bytesOf s).length := by rw [bytesOf_length]; exact hlt
      have hxe : (bytesOf s)[t] = x := by rw [← hx]; simp [rd, hl]
      have hbx : 0 ≤ x ∧ x < 256 := bytesOf_byte s x (by rw [← hxe]; exact List.getElem_mem hl)
      have hbx1 := hbx.1
      have hbx2 := hbx.2
      have htk : (bytesOf s).take (t + 1) = (bytesOf s).take t ++ [x] := by rw [List.take_succ_eq_append_getElem hl, hxe]
      have hlen : ((bytesOf s).take t).length = t := by rw [List.length_take]; omega
      have hal : isD x = false → (sg = true → 0 < t) → readU s = (0, 4) := by
        intro h0 h1
        have hm : x ∈ dg sg (bytesOf s) := by
          cases sg with
          | false => rw [dg_f, ← hxe]; exact List.getElem_mem hl
          | true =>
            rw [dg_t]
            have := h1 rfl
            rw [← hxe]
            have : (bytesOf s)[t] = ((bytesOf s).drop 1)[t - 1]'(by rw [List.length_drop]; omega) := by
              rw [List.getElem_drop]; congr 1; omega
            rw [this]; exact List.getElem_mem _
        have hf : (dg sg (bytesOf s)).all isD = false := by
          rw [List.all_eq_false]
          exact ⟨x, hm, by rw [h0]; exact Bool.false_ne_true⟩
        rw [readU, HSG.out, hf, if_neg Bool.false_ne_true]
      have hst : (sg = true → 0 < t) → dg sg ((bytesOf s).take (t + 1)) = dg sg ((bytesOf s).take t) ++ [x] := by
        intro h1
        rw [htk, dg_step sg _ x (fun h => by rw [hlen]; exact h1 h)]
      have HTK := Aside0.mk htk
      obtain ⟨u, hu⟩ : ∃ u, (dg sg ((bytesOf s).take t)).foldl stepU 0 = u := ⟨_, rfl⟩
      rw [hu]
      have HU := Aside0.mk hu
      clear hu he hx hxe hbx htk hlen hl
      by_cases h0 : t = 0
      · subst h0
        cases sg with
        | true =>
          clear hal hst
          go_wp2_with fail
          refine ⟨⟨1, by omega, by rw [← HU.out, HTK.out]; rfl, by go_num, ⟨S.out.1, S.out.2.1, by rw [HTK.out]; rfl⟩⟩, ?_⟩
          simp only [intOf]; omega
        | false =>
          have HAL := Aside0.mk (fun h => hal h (fun e => absurd e Bool.false_ne_true))
          have HX := Aside0.mk (And.intro (hst (fun e => absurd e Bool.false_ne_true)) True.intro)
          clear hal hst
          by_cases h1 : x ≤ 47
          · have h3 : decide (x ≤ 47) = true := by simpa using h1
            go_wp2_with fail
            go_ret2
            exact ⟨by rw [HAL.out (by simp [isD]; omega)]; rfl, S.out.2.1⟩
          · have h3 : decide (x ≤ 47) = false := by simpa using h1
            by_cases h2 : 57 < x
            · have h4 : decide (57 < x) = true := by simpa using h2
              go_wp2_with fail
              go_ret2
              exact ⟨by rw [HAL.out (by simp [isD]; omega)]; rfl, S.out.2.1⟩
            · have h4 : decide (57 < x) = false := by simpa using h2
              go_wp2_with fail
              refine ⟨⟨1, by omega, ?_, by go_num, ⟨S.out.1, S.out.2.1, by rw [HX.out.1, List.all_append, S.out.2.2]; simp [isD]; omega⟩⟩, ?_⟩
              · rw [HX.out.1, List.foldl_append]; rw [List.foldl_cons, List.foldl_nil, HU.out]; rfl
              · simp only [intOf]; omega
      · have hn0 : decide ((t : Int) = 0) = false := decide_eq_false (by omega)
        have hn1 : ((t : Int) == 0) = false := beq_eq_false_iff_ne.2 (by omega)
        have hn2 : ¬ (t : Int) = 0 := by omega
        have HAL := Aside0.mk (fun h => hal h (fun e => by omega))
        have HX := Aside0.mk (And.intro (hst (fun e => by omega)) True.intro)
        clear hal hst
        by_cases h1 : x ≤ 47
        · have h3 : decide (x ≤ 47) = true := by simpa using h1
          go_wp2_with fail
          go_ret2
          exact ⟨by rw [HAL.out (by simp [isD]; omega)]; rfl, S.out.2.1⟩
        · have h3 : decide (x ≤ 47) = false := by simpa using h1
          by_cases h2 : 57 < x
          · have h4 : decide (57 < x) = true := by simpa using h2
            go_wp2_with fail
            go_ret2
            exact ⟨by rw [HAL.out (by simp [isD]; omega)]; rfl, S.out.2.1⟩
          · have h4 : decide (57 < x) = false := by simpa using h2
            go_wp2_with fail
            refine ⟨⟨t + 1, by omega, ?_, by go_num, ⟨S.out.1, S.out.2.1, by rw [HX.out.1, List.all_append, S.out.2.2]; simp [isD]; omega⟩⟩, ?_⟩
            · rw [HX.out.1, List.foldl_append]; rw [List.foldl_cons, List.foldl_nil, HU.out]; rfl
            · simp only [intOf]; omega
    · obtain rfl : t = s.size := by omega
      obtain ⟨-, -, hall⟩ := S.out
      have hfull : (bytesOf s).take s.size = bytesOf s := List.take_of_length_le (by rw [bytesOf_length]; exact Nat.le_refl _)
      rw [hfull] at hall ⊢
      obtain ⟨u, hu⟩ : ∃ u, (dg sg (bytesOf s)).foldl stepU 0 = u := ⟨_, rfl⟩
      rw [hu]
      obtain ⟨m, hm⟩ : ∃ m, numU s = m := ⟨_, rfl⟩
      have hmI : I64 m := by rw [← hm]; exact numU_I s
      have HM := Aside0.mk (And.intro hm hmI)
      have hrd : readU s = if bytesOf s = decF m then (m, 0) else (0, 4) := by rw [readU, HSG.out, hall, if_pos rfl, hm]
      obtain ⟨d, hd⟩ : ∃ d, strOfNums (decF m) = d := ⟨_, rfl⟩
      have HD : Aside0 (∀ W, Calls Tryd.prog 12 #[.int .i64 m] W fun e w' => e = .returned (.string d) ∧ Below W.heap.size W w') := ⟨fun W => by rw [← hd]; exact dec_calls m hmI W⟩
      have hde : (d.toList == s.toList) = decide (bytesOf s = decF m) := by
        have := str_eq (decF m) s (decF_byte' m)
        rw [hd] at this
        by_cases h : bytesOf s = decF m
        · rw [decide_eq_true h]; exact beq_iff_eq.2 (this.2 h)
        · rw [decide_eq_false h]; exact beq_eq_false_iff_ne.2 (fun e => h (this.1 e))
      have HR := Aside0.mk hrd
      have SB := Aside0.mk S.out.2.1
      clear hall hfull hmI hrd S hd
      by_cases hq : bytesOf s = decF m
      · rw [decide_eq_true hq] at hde
        have HR2 : Aside0 (readU s = (m, 0)) := ⟨by rw [HR.out, if_pos hq]⟩
        clear hq HR
        cases sg with
        | true =>
          have hmu : IntKind.i64.wrap (IntKind.u64.wrap (-u)) = m := by
            have := numU_t s HSG.out
            rw [hu, HM.out.1] at this
            rw [this]; unfold wrap64; exact IntKind.wrap_i64 _
          clear hm hu
          go_wp2_with ((go_at_call 12; refine (HD.out _).mono ?_; rintro e w1 ⟨rfl, hB⟩; have S2 := Aside0.mk (SB.out.trans (hB.mono SB.out.size)); clear hB))
          go_ret2
          exact ⟨by rw [HR2.out]; rfl, S2.out⟩
        | false =>
          have hmu : IntKind.i64.wrap u = m := by
            have := numU_f s HSG.out
            rw [hu, HM.out.1] at this
            rw [this]; unfold wrap64; exact IntKind.wrap_i64 _
          clear hm hu
          go_wp2_with ((go_at_call 12; refine (HD.out _).mono ?_; rintro e w1 ⟨rfl, hB⟩; have S2 := Aside0.mk (SB.out.trans (hB.mono SB.out.size)); clear hB))
          go_ret2
          exact ⟨by rw [HR2.out]; rfl, S2.out⟩
      · rw [decide_eq_false hq] at hde
        have HR2 : Aside0 (readU s = (0, 4)) := ⟨by rw [HR.out, if_neg hq]⟩
        clear hq HR
        cases sg with
        | true =>
          have hmu : IntKind.i64.wrap (IntKind.u64.wrap (-u)) = m := by
            have := numU_t s HSG.out
            rw [hu, HM.out.1] at this
            rw [this]; unfold wrap64; exact IntKind.wrap_i64 _
          clear hm hu
          go_wp2_with ((go_at_call 12; refine (HD.out _).mono ?_; rintro e w1 ⟨rfl, hB⟩; have S2 := Aside0.mk (SB.out.trans (hB.mono SB.out.size)); clear hB))
          go_ret2
          exact ⟨by rw [HR2.out]; rfl, S2.out⟩
        | false =>
          have hmu : IntKind.i64.wrap u = m := by
            have := numU_f s HSG.out
            rw [hu, HM.out.1] at this
            rw [this]; unfold wrap64; exact IntKind.wrap_i64 _
          clear hm hu
          go_wp2_with ((go_at_call 12; refine (HD.out _).mono ?_; rintro e w1 ⟨rfl, hB⟩; have S2 := Aside0.mk (SB.out.trans (hB.mono SB.out.size)); clear hB))
          go_ret2
          exact ⟨by rw [HR2.out]; rfl, S2.out⟩
end Go.Proofs.YtiddiboclfpklaaDoor.Tx
