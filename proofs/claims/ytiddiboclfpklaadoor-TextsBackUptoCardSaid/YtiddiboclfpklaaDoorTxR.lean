/- Join, walked: lines' text. -/
import Derived.Test.YtiddiboclfpklaaDoorTxQ
import Derived.Test.YtiddiboclfpklaaDoorTxC
namespace Go.Proofs.YtiddiboclfpklaaDoor.Tx
open Go.RowKit Go.Shelf Go.Maps Go.Proofs.YtiddiboclfpklaaDoorW.PrintWords
set_option linter.unusedVariables false

/-- A line's bytes, without its end; lines' bytes; lines that have a text. -/
def sepB (l : List ByteArray) : List UInt8 := if l.isEmpty then [] else [32]
def lineB : List ByteArray → List UInt8
  | [] => []
  | x :: l => x.data.toList ++ l.flatMap fun y => 32 :: y.data.toList
def textB (ls : List (List ByteArray)) : List UInt8 := ls.flatMap fun l => lineB l ++ [10]
def okL (l : List ByteArray) : Bool := !l.isEmpty && l.all plainF
/-- What Join makes. -/
def joinF (ls : List (List ByteArray)) : ByteArray × Int := if ls.all okL then (⟨(textB ls).toArray⟩, 0) else (⟨#[]⟩, 4)
theorem lineB_snoc (l : List ByteArray) (x : ByteArray) : lineB (l ++ [x]) = lineB l ++ (sepB l ++ x.data.toList) := by
  cases l with
  | nil => simp [lineB, sepB]
  | cons a l => simp [lineB, sepB, List.flatMap_append]
theorem textB_snoc (ls : List (List ByteArray)) (l : List ByteArray) : textB (ls ++ [l]) = textB ls ++ (lineB l ++ [10]) := by
  simp [textB, List.flatMap_append]
theorem lineB_len : ∀ (a b : List ByteArray), (lineB a).length ≤ (lineB (a ++ b)).length
  | [], b => Nat.zero_le _
  | x :: a, b => by simp [lineB, List.flatMap_append]
theorem textB_len (a : List (List ByteArray)) (l : List ByteArray) (b : List (List ByteArray)) : (textB a).length + (lineB l).length + 1 ≤ (textB (a ++ l :: b)).length := by
  simp [textB, List.flatMap_append]; omega
theorem isB_below {B b : Nat} {bs : List Value} {w w1 : World} (h : IsB B b bs w) (hb : Below w.heap.size w w1) : IsB B b bs w1 := by
  have key : ∀ p, Lib.BuilderAt 99 5 B b p bs w → Lib.BuilderAt 99 5 B b p bs w1 := by
    rintro p ⟨hB, v, hbk, hown, hne⟩
    exact ⟨hB, v, blk_below hbk hb, own_move hown (fun k hk => hb.block k (own_lt hown k hk)), hne⟩
  exact h.imp (key _) (key _)
/-- The state of the loop over the lines; over a line's words. -/
structure JoinSt (w wr : World) (bs : List UInt8) : Prop where
  is : IsB w.heap.size w.heap.size (Lib.byteCells bs) wr
  bel : Below w.heap.size w wr
theorem JoinSt.below {w wr w1 : World} {bs : List UInt8} (S : JoinSt w wr bs) (hb : Below wr.heap.size wr w1) : JoinSt w w1 bs := ⟨isB_below S.is hb, S.bel.trans (hb.mono S.bel.size)⟩
theorem JoinSt.wrote {w wr w1 : World} {bs cs : List UInt8} (S : JoinSt w wr bs) (h : AtB w.heap.size w.heap.size (Lib.byteCells cs) w1) (hb : Below w.heap.size wr w1) : JoinSt w w1 cs := ⟨.inr h, S.bel.trans hb⟩
theorem byteCells_snoc (bs : List UInt8) (c : UInt8) : Lib.byteCells bs ++ [.int .u8 (c.toNat : Int)] = Lib.byteCells (bs ++ [c]) := by rw [Lib.byteCells_append]; rfl
theorem byteCells_str (bs : List UInt8) (s : ByteArray) : Lib.byteCells bs ++ Lib.strCells s = Lib.byteCells (bs ++ s.data.toList) := by rw [Lib.byteCells_append, Lib.strCells_eq]

theorem JoinSt.writeByte {w wr : World} {bs : List UInt8} (S : JoinSt w wr bs) (c : UInt8) (h : bs.length + 1 ≤ 140737488355328) :
    Calls Tryd.prog 49 #[.pointer (some ⟨w.heap.size, 0, none⟩), .int .u8 (c.toNat : Int)] wr fun e w1 => e = .returned .nilIface ∧ JoinSt w w1 (bs ++ [c]) := by
  refine (writeByte_calls w.heap.size w.heap.size _ (c.toNat : Int) wr S.is (by rw [Lib.byteCells_length]; exact h) S.bel.size).mono ?_
  rintro e w1 ⟨rfl, h1, h2⟩
  rw [byteCells_snoc] at h1
  exact ⟨rfl, S.wrote h1 h2⟩
theorem JoinSt.writeString {w wr : World} {bs : List UInt8} (S : JoinSt w wr bs) (s : ByteArray) (h : bs.length + s.size ≤ 140737488355328) :
    Calls Tryd.prog 50 #[.pointer (some ⟨w.heap.size, 0, none⟩), .string s] wr fun e w1 => (∃ v, e = .returned v) ∧ JoinSt w w1 (bs ++ s.data.toList) := by
  refine (writeString_calls w.heap.size w.heap.size _ s wr S.is (by rw [Lib.byteCells_length]; exact h) S.bel.size).mono ?_
  rintro e w1 ⟨hv, h1, h2⟩
  rw [byteCells_str] at h1
  exact ⟨hv, S.wrote h1 h2⟩

set_option maxHeartbeats 2000000 in
set_option maxRecDepth 100000 in
theorem join_calls (ls : List (List ByteArray)) (A : Option Addr) (c : Nat) (w : World) (hr : Kd.C (Kd.slice 9 Kd.string) w A ls.length ls) (hc : ls.length ≤ c) (hx : ∀ l ∈ ls, ∀ x ∈ l, x.size ≤ 16777216) (hT : (textB ls).length ≤ 16777216) :
    Calls Tryd.prog 21 #[.slice A ls.length c] w fun e w' => e = .returned (.tuple #[.string (joinF ls).1, .int .i64 (joinF ls).2]) ∧ Below w.heap.size w w' := by
  have HR := Aside0.mk hr
  have HX := Aside0.mk hx
  have HT := Aside0.mk hT
  clear hr hx hT
  obtain ⟨n, hn⟩ : ∃ n, ls.length = n := ⟨_, rfl⟩
  rw [hn] at HR hc ⊢
  have HN := Aside0.mk hn
  clear hn
  have hn63 : n ≤ 9223372036854775807 := Kd.C_max HR.out
  go_enter Tryd.func21, Tryd.ntmps21
  go_wp2_with fail
  have I0 : Aside0 (JoinSt w (w.alloc (.cells #[.pointer none, .slice none 0 0] 99)) []) := ⟨⟨Lib.fresh_isBuilder 99 5 w, below_alloc (Below.refl _ _) _⟩⟩
  go_loopw [11] (fun i wr => ∃ t : Nat, t ≤ n ∧ i = .int .i64 (t : Int) ∧ Aside0 (JoinSt w wr (textB (ls.take t)) ∧ (ls.take t).all okL = true)) (fun i _ => n - (intOf i).toNat)
  case atStart => exact ⟨0, by omega, rfl, ⟨I0.out, rfl⟩⟩
  case round =>
    clear I0
    obtain ⟨t, ht, rfl, S⟩ := hrel
    by_cases hlt : t < n
    · have hb5 : (0 : Int) ≤ (t : Int) := by omega
      have hb6 : (t : Int) < (n : Int) := by omega
      obtain ⟨ad, cs, rfl, _, ⟨Ae, ce, rfl, hce, hCe⟩, hcell⟩ := Kd.C_get HR.out [] (t : Int) hb5 hb6
      obtain ⟨l, hl⟩ : ∃ l, ls.getD t [] = l := ⟨_, rfl⟩
      rw [Int.toNat_natCast, hl] at hce hCe
      have hcw : w.cell? (ad.add t) = some (.slice Ae l.length ce) := by
        have h1 := hcell 0 (.slice Ae l.length ce) (by rw [Int.toNat_natCast, hl]; rfl)
        rw [Int.toNat_natCast, show t * (Kd.slice 9 Kd.string).sz + 0 = t from Nat.mul_one t] at h1
        exact h1
      have htl : t < ls.length := by rw [HN.out]; exact hlt
      have hle : ls[t] = l := by rw [← hl]; simp [List.getD_eq_getElem?_getD, htl]
      have hmem : l ∈ ls := by rw [← hle]; exact List.getElem_mem htl
      have htk : ls.take (t + 1) = ls.take t ++ [l] := by rw [List.take_succ_eq_append_getElem htl, hle]
      have hTl : (textB (ls.take t)).length + (lineB l).length + 1 ≤ 16777216 := by
        have h1 := textB_len (ls.take t) l (ls.drop (t + 1))
        rw [← List.singleton_append, ← List.append_assoc, ← htk, List.take_append_drop] at h1
        exact Nat.le_trans h1 HT.out
      have hbad : okL l = false → joinF ls = (⟨#[]⟩, 4) := by
        intro h0
        have : ls.all okL = false := by
          rw [List.all_eq_false]
          exact ⟨l, hmem, by rw [h0]; exact Bool.false_ne_true⟩
        rw [joinF, this, if_neg Bool.false_ne_true]
      have hcr := pw_cell_below S.out.1.bel hcw
      obtain ⟨X, hX⟩ : ∃ X, textB (ls.take t) = X := ⟨_, rfl⟩
      rw [hX] at hTl
      have hnx : textB (ls.take (t + 1)) = X ++ (lineB l ++ [10]) := by rw [htk, textB_snoc, hX]
      have hok : (ls.take (t + 1)).all okL = okL l := by rw [htk, List.all_append, S.out.2, Bool.true_and]; simp
      obtain ⟨m, hm⟩ : ∃ m, l.length = m := ⟨_, rfl⟩
      rw [hm] at hcr hce hCe
      have S0 : Aside0 (JoinSt w wr (X ++ lineB (l.take 0))) := ⟨by
        have h := S.out.1
        rw [hX] at h
        rw [List.take_zero]
        simpa [lineB] using h⟩
      have HE := Aside0.mk (And.intro hCe (And.intro (HX.out l hmem) (And.intro hTl (And.intro hbad (And.intro hnx hok)))))
      have HM := Aside0.mk hm
      have hm63 : m ≤ 9223372036854775807 := Kd.C_max hCe
      clear hcell hcw hle hmem htk hTl hbad hX hnx hok hm hCe hl htl S
      go_wp2_with fail
      rename World => wo
      go_loopw [17] (fun i wr => ∃ u : Nat, u ≤ m ∧ i = .int .i64 (u : Int) ∧ Aside0 (JoinSt w wr (X ++ lineB (l.take u)) ∧ (l.take u).all plainF = true)) (fun i _ => m - (intOf i).toNat)
      case atStart => exact ⟨0, by omega, rfl, ⟨S0.out, rfl⟩⟩
      case round =>
        clear S0 hcr
        obtain ⟨u, hu, rfl, S⟩ := hrel
        by_cases hlu : u < m
        · have hu5 : (0 : Int) ≤ (u : Int) := by omega
          have hu6 : (u : Int) < (m : Int) := by omega
          obtain ⟨ad2, cs2, rfl, _, hk2, hcell2⟩ := Kd.C_get HE.out.1 ByteArray.empty (u : Int) hu5 hu6
          rw [Int.toNat_natCast] at hk2 hcell2
          obtain ⟨x, hx⟩ : ∃ x, l.getD u ByteArray.empty = x := ⟨_, rfl⟩
          rw [hx] at hk2
          obtain rfl : cs2 = [.string x] := hk2
          have hcx : wr.cell? (ad2.add u) = some (.string x) := by
            refine pw_cell_below S.out.1.bel ?_
            have h1 := hcell2 0 (.string x) rfl
            rw [show u * Kd.string.sz + 0 = u from Nat.mul_one u] at h1
            exact h1
          have hul : u < l.length := by rw [HM.out]; exact hlu
          have hxe : l[u] = x := by rw [← hx]; simp [List.getD_eq_getElem?_getD, hul]
          have hxm : x ∈ l := by rw [← hxe]; exact List.getElem_mem hul
          have hxs : x.size ≤ 16777216 := HE.out.2.1 x hxm
          have hxl : x.data.toList.length = x.size := data_length x
          have htk2 : l.take (u + 1) = l.take u ++ [x] := by rw [List.take_succ_eq_append_getElem hul, hxe]
          have hlen : (lineB (l.take u)).length + ((sepB (l.take u)).length + x.size) ≤ (lineB l).length := by
            have h1 := lineB_len (l.take (u + 1)) (l.drop (u + 1))
            rw [List.take_append_drop, htk2, lineB_snoc, List.length_append, List.length_append, hxl] at h1
            exact h1
          have hsep : sepB (l.take u) = if u = 0 then [] else [32] := by
            unfold sepB
            by_cases h0 : u = 0
            · subst h0; rfl
            · rw [if_neg h0, if_neg]
              intro h
              have := congrArg List.length (List.isEmpty_iff.1 h)
              rw [List.length_take, Nat.min_eq_left (by omega)] at this
              exact h0 this
          have hnl : lineB (l.take (u + 1)) = lineB (l.take u) ++ ((if u = 0 then [] else [32]) ++ x.data.toList) := by rw [htk2, lineB_snoc, hsep]
          have hnp : (l.take (u + 1)).all plainF = plainF x := by rw [htk2, List.all_append, S.out.2, Bool.true_and]; simp
          have hpx : plainF x = false → okL l = false := by
            intro h0
            have : l.all plainF = false := by
              rw [List.all_eq_false]
              exact ⟨x, hxm, by rw [h0]; exact Bool.false_ne_true⟩
            rw [okL, this, Bool.and_false]
          obtain ⟨Y, hY⟩ : ∃ Y, X ++ lineB (l.take u) = Y := ⟨_, rfl⟩
          have hYl : Y.length + ((if u = 0 then ([] : List UInt8) else [32]).length + x.size) + 1 ≤ 16777216 := by
            rw [← hY, List.length_append, ← hsep]
            have := HE.out.2.2.1
            omega
          have hnY : X ++ lineB (l.take (u + 1)) = Y ++ ((if u = 0 then [] else [32]) ++ x.data.toList) := by rw [hnl, ← hY, List.append_assoc]
          have S1 : Aside0 (JoinSt w wr Y) := ⟨by rw [← hY]; exact S.out.1⟩
          have HU := Aside0.mk (And.intro hYl (And.intro hnY (And.intro hnp hpx)))
          clear hcell2 hul hxe hxm hxl htk2 hlen hsep hnl hnp hpx hY hYl hnY hx S
          have hxs2 : x.size ≤ 140737488355328 := by omega
          cases hp : plainF x with
          | false =>
            have HP := Aside0.mk hp
            clear hp
            go_wp2_with ((go_at_call 47; refine (plain_calls x hxs2 _).mono ?_; rintro e w1 ⟨rfl, hB⟩; rw [HP.out]; have S2 := Aside0.mk (S1.out.below hB); clear hB))
            go_ret2
            exact ⟨by rw [HE.out.2.2.2.1 (HU.out.2.2.2 HP.out)]; rfl, S2.out.bel⟩
          | true =>
            have HP := Aside0.mk hp
            clear hp
            by_cases h0 : u = 0
            · have hnY := HU.out.2.1
              have hYl := HU.out.1
              rw [if_pos h0] at hnY hYl
              rw [List.nil_append] at hnY
              have HU2 := Aside0.mk (And.intro hnY hYl)
              clear hnY hYl
              have hg : decide (0 < (u : Int)) = false := decide_eq_false (by omega)
              have hg2 : decide (0 < u) = false := decide_eq_false (by omega)
              have hg3 : ¬ (0 < u) := by omega
              subst h0
              rw [Addr.add_zero'] at hcx
              go_wp2_with (first
                | (go_at_call 47; refine (plain_calls x hxs2 _).mono ?_; rintro e w1 ⟨rfl, hB⟩; rw [HP.out]; have S2 := Aside0.mk (S1.out.below hB); clear hB)
                | (go_at_call 50; refine (S2.out.writeString x (by have := HU2.out.2; simp at this; omega)).mono ?_; rintro e w2 ⟨⟨v2, rfl⟩, hS⟩; have S3 := Aside0.mk hS; clear hS))
              refine ⟨⟨0 + 1, by omega, by go_num, ⟨by rw [HU2.out.1]; exact S3.out, by rw [HU.out.2.2.1, HP.out]⟩⟩, ?_⟩
              simp only [intOf]; omega
            · have hnY := HU.out.2.1
              have hYl := HU.out.1
              rw [if_neg h0] at hnY hYl
              have HU2 := Aside0.mk (And.intro hnY hYl)
              clear hnY hYl
              have hg : decide (0 < (u : Int)) = true := decide_eq_true (by omega)
              go_wp2_with (first
                | (go_at_call 47; refine (plain_calls x hxs2 _).mono ?_; rintro e w1 ⟨rfl, hB⟩; rw [HP.out]; have S2 := Aside0.mk (S1.out.below hB); clear hB)
                | (go_at_call 49; refine (S2.out.writeByte 32 (by have := HU2.out.2; omega)).mono ?_; rintro e w2 ⟨rfl, hS⟩; have S3 := Aside0.mk hS; clear hS)
                | (go_at_call 50; refine (S3.out.writeString x (by have := HU2.out.2; rw [List.length_append]; simp at this ⊢; omega)).mono ?_; rintro e w3 ⟨⟨v2, rfl⟩, hS⟩; have S4 := Aside0.mk hS; clear hS))
              refine ⟨⟨u + 1, by omega, by go_num, ⟨by rw [HU2.out.1, ← List.append_assoc]; exact S4.out, by rw [HU.out.2.2.1, HP.out]⟩⟩, ?_⟩
              simp only [intOf]; omega
        · obtain rfl : u = m := by omega
          have hfull : l.take u = l := List.take_of_length_le (by rw [HM.out]; exact Nat.le_refl _)
          have S1 : Aside0 (JoinSt w wr (X ++ lineB l) ∧ l.all plainF = true) := ⟨by have h := S.out; rw [hfull] at h; exact h⟩
          clear S hfull
          by_cases h0 : u = 0
          · have HB : Aside0 (okL l = false) := ⟨by
              have : l = [] := List.eq_nil_of_length_eq_zero (by rw [HM.out, h0])
              rw [this]; rfl⟩
            have hg : ((u : Int) == 0) = true := beq_iff_eq.2 (by omega)
            have hg2 : decide ((u : Int) = 0) = true := decide_eq_true (by omega)
            have hg3 : (u : Int) = 0 := by omega
            subst h0
            go_wp2_with fail
            go_ret2
            exact ⟨by rw [HE.out.2.2.2.1 HB.out]; rfl, S1.out.1.bel⟩
          · have HB : Aside0 (okL l = true) := ⟨by
              rw [okL, S1.out.2, Bool.and_true]
              cases hq : l with
              | nil => rw [← HM.out, hq] at h0; exact absurd rfl h0
              | cons a r => rfl⟩
            have hg : ((u : Int) == 0) = false := beq_eq_false_iff_ne.2 (by omega)
            have hg2 : decide ((u : Int) = 0) = false := decide_eq_false (by omega)
            have hg3 : ¬ (u : Int) = 0 := by omega
            go_wp2_with ((go_at_call 49; refine (S1.out.1.writeByte 10 (by rw [List.length_append]; have := HE.out.2.2.1; omega)).mono ?_; rintro e w2 ⟨rfl, hS⟩; have S3 := Aside0.mk hS; clear hS))
            refine ⟨⟨t + 1, by omega, by go_num, ⟨by rw [HE.out.2.2.2.2.1, ← List.append_assoc]; exact S3.out, by rw [HE.out.2.2.2.2.2, HB.out]⟩⟩, ?_⟩
            simp only [intOf]; omega
    · obtain rfl : t = n := by omega
      have hfull : ls.take t = ls := List.take_of_length_le (by rw [HN.out]; exact Nat.le_refl _)
      have S1 : Aside0 (JoinSt w wr (textB ls) ∧ ls.all okL = true) := ⟨by have h := S.out; rw [hfull] at h; exact h⟩
      have HJ : Aside0 (joinF ls = (⟨(textB ls).toArray⟩, 0)) := ⟨by rw [joinF, S1.out.2, if_pos rfl]⟩
      clear S hfull
      go_wp2_with ((go_at_call 51; refine (string_calls w.heap.size w.heap.size (textB ls) _ S1.out.1.is S1.out.1.bel.size).mono ?_; rintro e w2 ⟨rfl, hB⟩; have S2 := Aside0.mk (S1.out.1.bel.trans hB); clear hB))
      go_ret2
      exact ⟨by rw [HJ.out]; rfl, S2.out⟩
end Go.Proofs.YtiddiboclfpklaaDoor.Tx
