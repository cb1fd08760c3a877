/- What Write does. -/
import Derived.Test.YtfjglhhandjahaaDoorShaC
namespace Go.Proofs.YtfjglhhandjahaaDoor.Sha
open Go.RowKit Go.Proofs.YtfjglhhandjahaaDoorW.PrintWords Go.Proofs.YtfjglhhandjahaaDoor.PShaOf
set_option linter.unusedVariables false

theorem un23 : Tryd.prog.underlying 23 = some (.slice 5) := by kernel_rfl
theorem size5 : (Tryd.prog.info? 5).map (·.size) = some 1 := by kernel_rfl
theorem one_k (k : IntKind) (xs : List Int) : ∀ v ∈ nums k xs, v.oneCell' = true := by
  intro v hv
  simp only [nums, List.mem_map] at hv
  obtain ⟨a, _, rfl⟩ := hv
  rfl
/-- A row that is read, cell by cell. -/
theorem reads_k {k : IntKind} {w : World} {A : Option Addr} {n : Nat} {l : List Int} (h : Kd.C (Kd.int k) w A n l) (hn : 0 < l.length) (hl : l.length = n := by rfl) : ∃ ad, A = some ad ∧ ∀ j v, (nums k l)[j]? = some v → w.cell? (ad.add j) = some v := by
  obtain ⟨ad, e, _⟩ := Kd.at_int h 0 (by omega) (by omega)
  refine ⟨ad, e, fun j v hv => ?_⟩
  have hj : j < l.length := by have := (List.getElem?_eq_some_iff.1 hv).1; simpa [nums] using this
  obtain ⟨ad', e', hc⟩ := Kd.at_int h (j : Int) (by omega) (by omega)
  rw [e] at e'; cases e'
  rw [Int.toNat_natCast] at hc
  rw [hc]
  have : (nums k l)[j]? = some (.int k (rd l (j : Int))) := by simp [nums, rd, hj]
  rw [← hv, this]
theorem step_st (rs l st : List Int) (A : Option Addr) (w : World) (hst : st.length = 8) (hl : l.length = 64) (hr : Kd.C (Kd.int .u8) w A 64 l) (hrs : rs.length = 64) (hK : TB w 1 rs) :
    Calls Tryd.prog 15 #[.agg (nums .u32 st).toArray, .slice A 64 64] w fun e w' => e = .returned (.agg (nums .u32 (stepB rs l st)).toArray) ∧ Below w.heap.size w w' := by
  match st, hst with
  | [a0, a1, a2, a3, a4, a5, a6, a7], _ =>
    have h := step_calls 65 A 64 l (packL l) rs a0 a1 a2 a3 a4 a5 a6 a7 w (by rw [hl]; exact hr) (by omega) (pack_64 l hl).1 (pack_64 l hl).2 hrs hK
    rw [hl] at h
    exact h
theorem HashIs.fed {rs fs : List Int} {w w' : World} {g : Nat} {L : List Int} {n : Int} {st part : List Int} (H : HashIs rs fs w g L n st part) {h : Nat} (hh : L.length % 64 = h) (ys : List Int) (hy : h + ys.length < 64)
    (hb : HBlk w' g st (part.take h ++ ys ++ part.drop (h + ys.length)) ((h + ys.length : Nat) : Int) n) : HashIs rs fs w' g (L ++ ys) n st (part.take h ++ ys ++ part.drop (h + ys.length)) := by
  have hl : (L ++ ys).length = L.length + ys.length := by simp
  have hm : (L ++ ys).length % 64 = h + ys.length := by omega
  have hd : (L ++ ys).length / 64 = L.length / 64 := by omega
  refine ⟨by rw [hm]; exact hb, ?_, ?_⟩
  · rw [hd, blkL_append _ _ _ _ _ (by omega)]; exact H.eq
  · have ht := H.tail
    have lp := H.blk.lp
    rw [hh] at ht
    rw [hm, hd, List.drop_append_of_le_length (by omega), ← ht, List.take_append_of_le_length (by simp [lp]; omega), List.take_of_length_le (by simp [lp]; omega)]
theorem HashIs.full {rs fs : List Int} {w w' : World} {g : Nat} {L : List Int} {n : Int} {st part : List Int} (H : HashIs rs fs w g L n st part) {h : Nat} (hh : L.length % 64 = h) (ys : List Int) (hy : h + ys.length = 64)
    (hb : HBlk w' g (stepB rs (part.take h ++ ys ++ part.drop (h + ys.length)) st) (part.take h ++ ys ++ part.drop (h + ys.length)) 0 n) : HashIs rs fs w' g (L ++ ys) n (stepB rs (part.take h ++ ys ++ part.drop (h + ys.length)) st) (part.take h ++ ys ++ part.drop (h + ys.length)) := by
  have hl : (L ++ ys).length = L.length + ys.length := by simp
  have hm : (L ++ ys).length % 64 = 0 := by omega
  have hd : (L ++ ys).length / 64 = L.length / 64 + 1 := by omega
  have ht := H.tail
  have lp := H.blk.lp
  rw [hh] at ht
  have e : part.take h ++ ys ++ part.drop (h + ys.length) = ((L ++ ys).drop (64 * (L.length / 64))).take 64 := by
    rw [List.drop_append_of_le_length (by omega), ← ht, hy, show part.drop 64 = [] from List.drop_eq_nil_of_le (by omega), List.append_nil, List.take_of_length_le (l := part.take h ++ ys) (by rw [List.length_append, List.length_take, lp]; omega)]
  refine ⟨by rw [hm]; exact hb, ?_, ?_⟩
  · rw [hd, blkL, blkL_append _ _ _ _ _ (by omega), ← H.eq, ← e]
  · rw [hm, hd, List.take_zero, List.drop_eq_nil_of_le (by rw [hl]; omega)]
theorem eight (l : List Int) (h : l.length = 8) : ∃ s0 s1 s2 s3 s4 s5 s6 s7, l = [s0, s1, s2, s3, s4, s5, s6, s7] := by
  match l, h with
  | [s0, s1, s2, s3, s4, s5, s6, s7], _ => exact ⟨s0, s1, s2, s3, s4, s5, s6, s7, rfl⟩
theorem HBlk.cells8 {w : World} {g : Nat} {st part : List Int} {h n : Int} (H : HBlk w g st part h n) {s0 s1 s2 s3 s4 s5 s6 s7 : Int} (hs : st = [s0, s1, s2, s3, s4, s5, s6, s7]) :
    w.cell? ⟨g, 0, none⟩ = some (.int .u32 s0) ∧ w.cell? ⟨g, 1, none⟩ = some (.int .u32 s1) ∧ w.cell? ⟨g, 2, none⟩ = some (.int .u32 s2) ∧ w.cell? ⟨g, 3, none⟩ = some (.int .u32 s3) ∧
    w.cell? ⟨g, 4, none⟩ = some (.int .u32 s4) ∧ w.cell? ⟨g, 5, none⟩ = some (.int .u32 s5) ∧ w.cell? ⟨g, 6, none⟩ = some (.int .u32 s6) ∧ w.cell? ⟨g, 7, none⟩ = some (.int .u32 s7) := by
  subst hs
  have hb := H.blk
  refine ⟨?_, ?_, ?_, ?_, ?_, ?_, ?_, ?_⟩ <;> (rw [blk_cell hb]; rfl)
theorem stored_run {w : World} {g : Nat} {st part : List Int} {h n : Int} (H : HBlk w g st part h n) (st' : List Int) (hs : st'.length = 8) :
    ∃ w2, (storeCells ⟨g, 0, none⟩ (nums .u32 st')).run Tryd.prog w = .ok () w2 ∧ HBlk w2 g st' part h n ∧ w.grownBy w2 (some g) := by
  refine ⟨_, run_storeCells_at (P := Tryd.prog) g 0 38 (nums .u32 st') 0 _ w H.blk (by rw [nums_length, hs, List.size_toArray, hrow_length H.ls H.lp]; omega) (one_k _ _), H.setState st' hs, ?_⟩
  exact ⟨rfl, rfl, rfl, by simp [World.setRow], fun k hk hne => setRow_other _ _ _ _ (fun e => hne (congrArg some e))⟩
/-- How long a slice is. -/
def slLen : Value → Nat | .slice _ n _ => n | _ => 0

/-- The state of the loop of Write. -/
structure WrSt (w wr : World) (rs fs : List Int) (g : Nat) (l m : List Int) (t : Nat) (A : Option Addr) (st part : List Int) : Prop where
  is : HashIs rs fs wr g (l ++ m.take t) ((l.length : Int) + m.length) st part
  src : ∀ W', KeepBut wr W' g none → Kd.C (Kd.int .u8) W' A (m.drop t).length (m.drop t)
  gr : w.grownBy wr (some g)

theorem gr_trans {w w1 w2 : World} {g : Nat} (h : w.grownBy w1 (some g)) (k : w1.grownBy w2 (some g)) : w.grownBy w2 (some g) :=
  ⟨k.os.trans h.os, k.tape.trans h.tape, k.output.trans h.output, Nat.le_trans h.size k.size, fun i hi hne => (k.block i (Nat.lt_of_lt_of_le hi h.size) hne).trans (h.block i hi hne)⟩
theorem gr_setCell (w : World) (g i : Nat) (u : Value) : w.grownBy (w.setCell ⟨g, i, none⟩ u) (some g) :=
  ⟨rfl, rfl, rfl, by simp [World.setCell], fun k hk hne => Below.heap_setCell w _ _ k (fun e => hne (congrArg some e))⟩
theorem gr_setRow (w : World) (g : Nat) (cs : Array Value) : w.grownBy (w.setRow g cs) (some g) :=
  ⟨rfl, rfl, rfl, by simp [World.setRow], fun k hk hne => setRow_other _ _ _ _ (fun e => hne (congrArg some e))⟩
theorem gr_drew {w w1 : World} {g : Nat} (h : w.drew.grownBy w1 (some g)) : w.grownBy w1 (some g) := ⟨h.os, h.tape, h.output, h.size, h.block⟩
theorem gr_keep {w w1 : World} {g : Nat} (h : w.grownBy w1 (some g)) : KeepBut w w1 g none := ⟨h.size, fun i hi hne _ => h.block i hi (fun e => hne (Option.some.inj e))⟩
theorem gr_of_below {w w1 : World} {g : Nat} (h : Below w.heap.size w w1) : w.grownBy w1 (some g) := ⟨h.os, h.tape, h.output, h.size, fun i hi _ => h.block i hi⟩
theorem WrSt.src_next {w wr wr' : World} {rs fs : List Int} {g : Nat} {l m r : List Int} {t k c' : Nat} {ad ad2 : Addr} {st part : List Int} (S : WrSt w wr rs fs g l m t (some ad) st part) (hr : m.drop t = r) (hk : wr.grownBy wr' (some g))
    (hk1 : k ≤ r.length) (hc : r.length ≤ c') (hA : (if c' = k then ad else ad.add k) = ad2) : ∀ W', KeepBut wr' W' g none → Kd.C (Kd.int .u8) W' (some ad2) (m.drop (t + k)).length (m.drop (t + k)) := by
  intro W' hW
  have h := S.src W' ((gr_keep hk).trans hW (.inl rfl))
  rw [hr] at h
  have h2 := Kd.C_drop h hk1 hc
  rw [← List.drop_drop, hr, ← hA]
  have e : (if c' = k then some ad else (some ad).map (·.add (k * (Kd.int .u8).sz))) = some (if c' = k then ad else ad.add k) := by
    rw [show k * (Kd.int IntKind.u8).sz = k from Nat.mul_one k]
    split <;> rfl
  rw [e] at h2
  exact h2
theorem take_next {m r : List Int} {t k n : Nat} (hr : m.drop t = r) (hk : (r.take n).length = k) : m.take (t + k) = m.take t ++ r.take n := by
  rw [List.take_add, hr, ← hk]
  congr 1
  rw [List.length_take, ← List.take_take, List.take_length]

set_option maxHeartbeats 1000000 in
set_option maxRecDepth 100000 in
theorem write_calls (rs fs : List Int) (g : Nat) (l m st part : List Int) (A : Option Addr) (c : Nat) (w : World) (hI : HashIs rs fs w g l l.length st part) (hr : ∀ W', KeepBut w W' g none → Kd.C (Kd.int .u8) W' A m.length m) (hc : m.length ≤ c)
    (hlen : l.length + m.length ≤ 1000000) (hrs : rs.length = 64) (hK : TB w 1 rs) (hg : g ≠ 1) :
    Calls Tryd.prog 8 #[.pointer (some ⟨g, 0, none⟩), .slice A m.length c] w fun e w' => e = .returned (.tuple #[]) ∧ ∃ st part, HashIs rs fs w' g (l ++ m) ((l.length : Int) + m.length) st part ∧ w.grownBy w' (some g) := by
  have hcell := hI.blk.count
  have hfr := hI.blk.frozen 73
  have HI := Aside0.mk hI
  have HR := Aside0.mk hr
  have HK := Aside0.mk hK
  clear hI hr hK
  go_enter Tryd.func8, Tryd.ntmps8
  go_wp2_with fail
  have W0 : Aside0 (∃ st part, WrSt w (w.setCell ⟨g, 73, none⟩ (.int .i64 ((l.length : Int) + m.length))) rs fs g l m 0 A st part) := ⟨st, part, ⟨⟨by rw [List.take_zero, List.append_nil]; exact HI.out.blk.setCount _, by rw [List.take_zero, List.append_nil]; exact HI.out.eq, by rw [List.take_zero, List.append_nil]; exact HI.out.tail⟩, fun W' hk => HR.out W' (KeepBut.trans (gr_keep (gr_setCell _ _ _ _)) hk (.inl rfl)), gr_setCell _ _ _ _⟩⟩
  have h93 : (l.length : Int) + (m.length : Int) ≤ 1000000 := by omega
  go_loopw [1] (fun b wr => ∃ (t : Nat) (A' : Option Addr) (c' : Nat), b = .slice A' (m.drop t).length c' ∧ t ≤ m.length ∧ (m.drop t).length ≤ c' ∧ Aside0 (∃ st part, WrSt w wr rs fs g l m t A' st part)) (fun b _ => slLen b)
  case atStart => exact ⟨0, A, c, rfl, by omega, hc, W0⟩
  case round =>
    clear W0 hcell hfr
    obtain ⟨t, A', c', rfl, ht, hc', HS⟩ := hrel
    obtain ⟨st', part', hS⟩ := HS.out
    obtain ⟨r, hr⟩ : ∃ r, m.drop t = r := ⟨_, rfl⟩
    have hS' := hS
    obtain ⟨h, hh⟩ : ∃ h, (l ++ m.take t).length % 64 = h := ⟨_, rfl⟩
    have hb := hS.is.blk
    rw [hr] at hc'
    rw [hh] at hb
    have hh64 : h < 64 := by omega
    simp only [hr]
    have S := Aside0.mk hS
    have HR := Aside0.mk hr
    have HH := Aside0.mk hh
    have HB := Aside0.mk hb
    clear hS hS' HS hr hh hb
    by_cases hlt : 0 < r.length
    · have hc72 := HB.out.have_
      have hf72 := HB.out.frozen 72
      obtain ⟨ad, rfl, hsrc⟩ : ∃ ad, A' = some ad ∧ ∀ j v, (nums .u8 r)[j]? = some v → wr.cell? (ad.add j) = some v := reads_k (by have := S.out.src wr (KeepBut.refl _ _ _); rw [HR.out] at this; exact this) hlt
      have hcp := run_copy_row Tryd.prog wr.drew 23 23 3 5 g (8 + h) (64 - h) (64 - h) ad r.length c' _ 38 (nums .u8 (r.take (64 - h))) un23 size5 HB.out.drew.blk (by simp [nums_length, Nat.min_comm]) (fun j v hv => hsrc j v (by rw [nums, List.map_take, List.getElem?_take] at hv; split at hv; exact hv; cases hv))
        (by rw [nums_length, List.size_toArray, hrow_length HB.out.ls HB.out.lp, List.length_take]; omega) (one_k _ _)
      have HB2 := HB.out.drew.copy h (r.take (64 - h)) (by rw [List.length_take]; omega)
      obtain ⟨wn, hwn⟩ : ∃ wn, wr.drew.setRow g ((hrow st' part' h ((l.length : Int) + m.length)).toArray.toList.take (8 + h) ++ nums .u8 (r.take (64 - h)) ++ (hrow st' part' h ((l.length : Int) + m.length)).toArray.toList.drop (8 + h + (nums .u8 (r.take (64 - h))).length)).toArray = wn := ⟨_, rfl⟩
      rw [hwn] at hcp HB2
      obtain ⟨k, hk⟩ : ∃ k, (r.take (64 - h)).length = k := ⟨_, rfl⟩
      rw [nums_length, hk] at hcp
      have hk0 : 0 < k := by rw [← hk, List.length_take]; omega
      have hk1 : k ≤ r.length := by rw [← hk, List.length_take]; omega
      have hk2 : h + k ≤ 64 := by rw [← hk, List.length_take]; omega
      have hn72 := HB2.have_
      have hnf72 := HB2.frozen 72
      have HB2 := Aside0.mk (And.intro HB2 (And.intro hwn (And.intro hk hsrc)))
      clear hsrc hwn hk
      have hsl := sl36 g h hh64
      go_upto_region 3 with (fail)
      go_region_held3 (fun w' => w'.cell? ⟨g, 72, none⟩ = some (.int .i64 h)) (first | exact hc72 | exact hn72 | fail "no keep") ((first | (go_at_call 99; skip)))
      have hk3 : (0 : Int) ≤ (k : Int) := by omega
      have hk4 : (k : Int) ≤ (r.length : Int) := by omega
      have hk5 : k ≤ c' := by omega
      have hk6 : (h : Int) + (k : Int) ≤ 64 := by omega
      obtain ⟨ad2, hA2⟩ : ∃ ad2, (if c' = k then ad else ad.add k) = ad2 := ⟨_, rfl⟩
      have hA3 : (if c' = k then some ad else some (ad.add k)) = some ad2 := by rw [← hA2]; split <;> rfl
      obtain ⟨part2, hp2⟩ : ∃ p, part'.take h ++ r.take (64 - h) ++ part'.drop (h + (r.take (64 - h)).length) = p := ⟨_, rfl⟩
      by_cases hf : h + k = 64
      · have hf1 : (h : Int) + (k : Int) = 64 := by omega
        have HB3 := Aside0.mk (HB2.out.1.setHave 64)
        rw [hp2] at HB3
        have HP2 := Aside0.mk hp2
        clear hp2
        have hK3 : Aside0 (TB (wn.setCell ⟨g, 72, none⟩ (.int .i64 64)) 1 rs) := ⟨by
          have e1 : wr.heap[1]? = w.heap[1]? := S.out.gr.block 1 HK.out.lt (fun e => hg (Option.some.inj e).symm)
          have e2 : wn.heap[1]? = wr.heap[1]? := by rw [← HB2.out.2.1]; exact setRow_other _ _ _ _ (Ne.symm hg)
          exact HK.out.kept ((Below.heap_setCell _ _ _ 1 (Ne.symm hg)).trans (e2.trans e1))⟩
        have hstep := fun w0 h1 h2 => step_st rs part2 st' (some ⟨g, 8, none⟩) w0 HB3.out.ls HB3.out.lp h1 hrs h2
        have hL1 : (stepB rs part2 st').length = 8 := stepL_length _ _ _ HB3.out.ls
        obtain ⟨s0, s1, s2, s3, s4, s5, s6, s7, hs⟩ : ∃ s0 s1 s2 s3 s4 s5 s6 s7, st' = [s0, s1, s2, s3, s4, s5, s6, s7] := eight st' HB3.out.ls
        obtain ⟨r0, r1, r2, r3, r4, r5, r6, r7, hrr⟩ : ∃ s0 s1 s2 s3 s4 s5 s6 s7, stepB rs part2 st' = [s0, s1, s2, s3, s4, s5, s6, s7] := eight _ hL1
        rw [hrr] at hstep
        rw [hs] at hstep
        have HC := Aside0.mk (And.intro hs hrr)
        have HS := Aside0.mk hstep
        clear hs hrr hstep hL1
        go_upto_region 7 with (fail)
        have hsa := sl36all g
        clear hcp hnf72 hn72 hc72 hf72 hsl
        have HG0 : Aside0 (wr.grownBy (wn.setCell ⟨g, 72, none⟩ (.int .i64 64)) (some g)) := ⟨by
          rw [← HB2.out.2.1]
          exact gr_trans (gr_drew (gr_setRow _ _ _)) (gr_setCell _ _ _ _)⟩
        have HA := Aside0.mk hA2
        generalize wn.setCell ⟨g, 72, none⟩ (.int .i64 64) = wm at *
        have HPR : Aside0 (Kd.C (Kd.int .u8) wm.drew (some ⟨g, 8, none⟩) 64 part2) := ⟨by have := HB3.out.drew.part_reads; rw [HB3.out.lp] at this; exact this⟩
        have HC0 := HB3.out.cells8 HC.out.1
        have hq0 := HC0.1
        have hq1 := HC0.2.1
        have hq2 := HC0.2.2.1
        have hq3 := HC0.2.2.2.1
        have hq4 := HC0.2.2.2.2.1
        have hq5 := HC0.2.2.2.2.2.1
        have hq6 := HC0.2.2.2.2.2.2.1
        have hq7 := HC0.2.2.2.2.2.2.2
        clear HC0
        go_region_with ((first
            | (go_at_call 15
               go_loud (refine (HS.out wm.drew HPR.out hK3.out).mono ?_; rintro e w1 ⟨rfl, hB⟩; obtain ⟨w2, hst, HB5, hw2⟩ := stored_run (HB3.out.kept (hB.block g (blk_lt HB3.out.drew.blk))) [r0, r1, r2, r3, r4, r5, r6, r7] rfl; have h72 := HB5.have_; have hf2 := HB5.frozen; have HB5 := Aside0.mk (And.intro HB5 (And.intro hw2 hB)); have HG : Aside0 (wr.grownBy (w2.setCell ⟨g, 72, none⟩ (.int .i64 0)) (some g)) := ⟨gr_trans HG0.out (gr_trans (gr_drew (gr_of_below hB)) (gr_trans hw2 (gr_setCell _ _ _ _)))⟩; clear hB hw2))))
        go_wp2_with fail
        refine ⟨⟨t + k, some ad2, c' - k, ?_, ?_, ?_, ?_⟩, ?_⟩
        · rw [← List.drop_drop, HR.out, List.length_drop]
        · have := congrArg List.length HR.out
          rw [List.length_drop] at this
          omega
        · rw [← List.drop_drop, HR.out, List.length_drop]; omega
        · refine ⟨⟨stepB rs part2 st', part2, ?_, S.out.src_next HR.out HG.out hk1 hc' HA.out, gr_trans S.out.gr HG.out⟩⟩
          have e := HB2.out.2.2.1
          have hb := HB5.out.1.setHave 0
          rw [← HC.out.2] at hb
          rw [take_next HR.out e, ← List.append_assoc]
          have := S.out.is.full (w' := w2.setCell ⟨g, 72, none⟩ (.int .i64 0)) HH.out (r.take (64 - h)) (by rw [e]; exact hf) (by rw [HP2.out]; exact hb)
          rw [HP2.out] at this
          exact this
        · simp only [slLen]; omega
      · have hf1 : ¬ ((h : Int) + (k : Int) = 64) := by omega
        have hfk : h + k < 64 := by omega
        go_wp2_with fail
        refine ⟨⟨t + k, some ad2, c' - k, ?_, ?_, ?_, ?_⟩, ?_⟩
        · rw [← List.drop_drop, HR.out, List.length_drop]
        · have := congrArg List.length HR.out
          rw [List.length_drop] at this
          omega
        · rw [← List.drop_drop, HR.out, List.length_drop]; omega
        · have HG : wr.grownBy (wn.setCell ⟨g, 72, none⟩ (.int .i64 ((h : Int) + (k : Int)))) (some g) := by
            rw [← HB2.out.2.1]
            exact gr_trans (gr_drew (gr_setRow _ _ _)) (gr_setCell _ _ _ _)
          refine ⟨⟨st', part'.take h ++ r.take (64 - h) ++ part'.drop (h + (r.take (64 - h)).length), ?_, S.out.src_next HR.out HG hk1 hc' hA2, gr_trans S.out.gr HG⟩⟩
          rw [take_next HR.out HB2.out.2.2.1, ← List.append_assoc]
          have e := HB2.out.2.2.1
          refine S.out.is.fed HH.out _ (by rw [e]; omega) ?_
          have hb := HB2.out.1.setHave ((h : Int) + (k : Int))
          rw [e, Int.natCast_add]
          rw [e] at hb
          exact hb
        · simp only [slLen]; omega
    · have hr0 : r = [] := List.eq_nil_of_length_eq_zero (by omega)
      go_wp2_with fail
      have FIN : ∃ st part, HashIs rs fs wr g (l ++ m) ((l.length : Int) + m.length) st part ∧ w.grownBy wr (some g) := by
        have e : m.take t = m := by
          apply List.take_of_length_le
          have := congrArg List.length HR.out
          rw [List.length_drop, hr0, List.length_nil] at this
          omega
        have hi := S.out.is
        rw [e] at hi
        exact ⟨_, _, hi, S.out.gr⟩
      exact bodyPost_end (v := .tuple #[]) (by simp [results]) rfl ⟨rfl, FIN⟩

/-- The hash in this block stands for these bytes. -/
def HIs (rs fs : List Int) (w : World) (g : Nat) (l : List Int) : Prop := ∃ st part, HashIs rs fs w g l l.length st part
theorem write_is (rs fs : List Int) (g : Nat) (l m : List Int) (A : Option Addr) (c : Nat) (w : World) (hI : HIs rs fs w g l) (hr : ∀ W', KeepBut w W' g none → Kd.C (Kd.int .u8) W' A m.length m) (hc : m.length ≤ c)
    (hlen : l.length + m.length ≤ 1000000) (hrs : rs.length = 64) (hK : TB w 1 rs) (hg : g ≠ 1) :
    Calls Tryd.prog 8 #[.pointer (some ⟨g, 0, none⟩), .slice A m.length c] w fun e w' => e = .returned (.tuple #[]) ∧ HIs rs fs w' g (l ++ m) ∧ w.grownBy w' (some g) := by
  obtain ⟨st, part, h⟩ := hI
  refine (write_calls rs fs g l m st part A c w h hr hc hlen hrs hK hg).mono ?_
  rintro e w' ⟨he, st', part', h', hg'⟩
  exact ⟨he, ⟨st', part', by rw [List.length_append, Int.natCast_add]; exact h'⟩, hg'⟩
end Go.Proofs.YtfjglhhandjahaaDoor.Sha
