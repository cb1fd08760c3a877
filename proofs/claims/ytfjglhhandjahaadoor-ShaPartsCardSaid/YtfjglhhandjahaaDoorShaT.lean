/- The document's digest. -/
import Derived.Test.YtfjglhhandjahaaDoorShaU
namespace Go.Proofs.YtfjglhhandjahaaDoor.Sha
open Go.RowKit Go.Proofs.YtfjglhhandjahaaDoorW.PrintWords Go.Proofs.YtfjglhhandjahaaDoor.PShaOf
set_option linter.unusedVariables false

/-- What the document's Of has made ahead of its blocks: all the bytes, the numbers of the rounds. -/
structure RefHd (w wb : World) (all : List Int) (A3 A4 : Option Addr) : Prop where
  a3 : Kd.C (Kd.int .u8) wb A3 all.length all
  a4 : Kd.C (Kd.int .u32) wb A4 64 roundL
  res : wb.heap[w.heap.size]? = some (.cells #[.int .u32 0, .int .u32 0, .int .u32 0, .int .u32 0, .int .u32 0, .int .u32 0, .int .u32 0, .int .u32 0] 29 (0, 0))
  bel : Below w.heap.size w wb
/-- The first words as they are laid. -/
structure InitSt (w2 w4 wr : World) (t : Nat) : Prop where
  blk : W32 wr w2.heap.size 29 (firstL.take t ++ List.replicate (8 - t) 0)
  bel : Below w2.heap.size w2 wr
  keep : KeepBut w4 wr w2.heap.size none
theorem InitSt.step {w2 w4 wr : World} {t : Nat} (S : InitSt w2 w4 wr t) (ht : t < 8) (x : Int) (hx : x = firstL.getD t 0) : InitSt w2 w4 (wr.setCell ⟨w2.heap.size, t, none⟩ (.int .u32 x)) (t + 1) := by
  refine ⟨?_, S.bel.setCell (Nat.le_refl _) _, S.keep.set_ t _⟩
  have h := S.blk.set t x
  rw [show firstL.take (t + 1) ++ List.replicate (8 - (t + 1)) 0 = (firstL.take t ++ List.replicate (8 - t) 0).set t x by
    have hl : firstL.length = 8 := rfl
    have e1 : firstL.take (t + 1) = firstL.take t ++ [x] := by
      rw [List.take_succ_eq_append_getElem (by omega), hx]
      simp [List.getD_eq_getElem?_getD, show t < firstL.length by omega]
    rw [e1, List.set_append_right _ _ (by rw [List.length_take]; omega), List.length_take, hl, Nat.min_eq_left (by omega), Nat.sub_self, show 8 - t = (8 - (t + 1)) + 1 by omega, List.replicate_succ, List.set_cons_zero, List.append_assoc, List.singleton_append]]
  exact h
theorem padL_length (l : List Int) : (padL l).length = l.length + 1 + padN l.length + 8 := by simp [padL, lenRow]; omega
theorem padL_mod (l : List Int) : (padL l).length % 64 = 0 ∧ (padL l).length ≤ l.length + 72 := by
  rw [padL_length]
  unfold padN
  omega
theorem padL_bytes (l : List Int) (hb : ∀ x ∈ l, 0 ≤ x ∧ x < 256) : ∀ x ∈ padL l, 0 ≤ x ∧ x < 256 := by
  intro x hx
  simp only [padL, List.mem_append, List.mem_cons, List.mem_replicate, lenRow, List.mem_map, List.mem_range] at hx
  rcases hx with (hx | hx | hx) | ⟨k, hk, hx⟩
  · exact hb x hx
  · omega
  · omega
  · rw [if_pos hk, lenByte] at hx
    rw [← hx]
    exact ⟨Int.emod_nonneg _ (by decide), Int.emod_lt_of_pos _ (by decide)⟩
/-- The words behind so many blocks. -/
structure RefSt (w2 wr : World) (all : List Int) (q : Nat) : Prop where
  blk : W32 wr w2.heap.size 29 (blkL roundL firstL q all)
  bel : Below w2.heap.size w2 wr

/-- The rounds' words. -/
structure RndSt (w5 wr : World) (W : List Int) (h0 h1 h2 h3 h4 h5 h6 h7 : Int) (t : Nat) (v0 v1 v2 v3 v4 v5 v6 v7 : Int) : Prop where
  blk : W32 wr w5.heap.size 29 [v0, v1, v2, v3, v4, v5, v6, v7]
  bel : Below w5.heap.size w5 wr
  eq : stGo roundL W (64 - t) t v0 v1 v2 v3 v4 v5 v6 v7 = stGo roundL W 64 0 h0 h1 h2 h3 h4 h5 h6 h7
theorem RndSt.drewN {w5 wr : World} {W : List Int} {h0 h1 h2 h3 h4 h5 h6 h7 : Int} {t : Nat} {v0 v1 v2 v3 v4 v5 v6 v7 : Int} (S : RndSt w5 wr W h0 h1 h2 h3 h4 h5 h6 h7 t v0 v1 v2 v3 v4 v5 v6 v7) (n : Nat) : RndSt w5 (wr.drewN n) W h0 h1 h2 h3 h4 h5 h6 h7 t v0 v1 v2 v3 v4 v5 v6 v7 :=
  ⟨S.blk, pw_below_drewN S.bel n, S.eq⟩
theorem RndSt.cells {w5 wr : World} {W : List Int} {h0 h1 h2 h3 h4 h5 h6 h7 : Int} {t : Nat} {v0 v1 v2 v3 v4 v5 v6 v7 : Int} (S : RndSt w5 wr W h0 h1 h2 h3 h4 h5 h6 h7 t v0 v1 v2 v3 v4 v5 v6 v7) :
    wr.cell? ⟨w5.heap.size, 0, none⟩ = some (.int .u32 v0) ∧ wr.cell? ⟨w5.heap.size, 1, none⟩ = some (.int .u32 v1) ∧ wr.cell? ⟨w5.heap.size, 2, none⟩ = some (.int .u32 v2) ∧ wr.cell? ⟨w5.heap.size, 3, none⟩ = some (.int .u32 v3) ∧
    wr.cell? ⟨w5.heap.size, 4, none⟩ = some (.int .u32 v4) ∧ wr.cell? ⟨w5.heap.size, 5, none⟩ = some (.int .u32 v5) ∧ wr.cell? ⟨w5.heap.size, 6, none⟩ = some (.int .u32 v6) ∧ wr.cell? ⟨w5.heap.size, 7, none⟩ = some (.int .u32 v7) := by
  have hb := S.blk
  unfold W32 at hb
  refine ⟨?_, ?_, ?_, ?_, ?_, ?_, ?_, ?_⟩ <;> (rw [blk_cell hb]; rfl)
theorem RndSt.next {w5 wr : World} {W : List Int} {h0 h1 h2 h3 h4 h5 h6 h7 : Int} {t : Nat} {v0 v1 v2 v3 v4 v5 v6 v7 : Int} (S : RndSt w5 wr W h0 h1 h2 h3 h4 h5 h6 h7 t v0 v1 v2 v3 v4 v5 v6 v7) (ht : t < 64) (x0 x4 : Int)
    (e0 : x0 = (stUp v4 v5 v6 v7 (roundL.getD t 0) (W.getD t 0) + stDown v0 v1 v2) % 4294967296) (e4 : x4 = (v3 + stUp v4 v5 v6 v7 (roundL.getD t 0) (W.getD t 0)) % 4294967296) :
    RndSt w5 ((((((((wr.setCell ⟨w5.heap.size, 0, none⟩ (.int .u32 x0)).setCell ⟨w5.heap.size, 1, none⟩ (.int .u32 v0)).setCell ⟨w5.heap.size, 2, none⟩ (.int .u32 v1)).setCell ⟨w5.heap.size, 3, none⟩ (.int .u32 v2)).setCell ⟨w5.heap.size, 4, none⟩ (.int .u32 x4)).setCell ⟨w5.heap.size, 5, none⟩ (.int .u32 v4)).setCell ⟨w5.heap.size, 6, none⟩ (.int .u32 v5)).setCell ⟨w5.heap.size, 7, none⟩ (.int .u32 v6))
      W h0 h1 h2 h3 h4 h5 h6 h7 (t + 1) x0 v0 v1 v2 x4 v4 v5 v6 := by
  have hl : w5.heap.size ≤ w5.heap.size := Nat.le_refl _
  refine ⟨(((((((S.blk.set 0 x0).set 1 v0).set 2 v1).set 3 v2).set 4 x4).set 5 v4).set 6 v5).set 7 v6, (((((((S.bel.setCell hl _).setCell hl _).setCell hl _).setCell hl _).setCell hl _).setCell hl _).setCell hl _).setCell hl _, ?_⟩
  have e := S.eq
  rw [show 64 - t = (64 - (t + 1)) + 1 by omega, stGo] at e
  rw [e0, e4]; exact e
theorem mod_add (a b : Int) : (a % 4294967296 + b % 4294967296) % 4294967296 = (a + b) % 4294967296 := by omega
theorem mod_add' (a b : Int) : (a + b % 4294967296) % 4294967296 = (a + b) % 4294967296 := by omega
/-- The state of the document's additions. -/
structure Sum8 (w2 w5 wr : World) (hs vs : List Int) (t : Nat) (xs : List Int) : Prop where
  len : xs.length = 8
  vlen : vs.length = 8
  blk : W32 wr w2.heap.size 29 xs
  vb : W32 wr w5.heap.size 29 vs
  ne : w2.heap.size ≠ w5.heap.size
  bel : Below w2.heap.size w2 wr
  lo : ∀ i, i < t → xs.getD i 0 = (hs.getD i 0 + vs.getD i 0) % 4294967296
  hi : ∀ i, t ≤ i → xs.getD i 0 = hs.getD i 0
theorem Sum8.drew {w2 w5 wr : World} {hs vs : List Int} {t : Nat} {xs : List Int} (S : Sum8 w2 w5 wr hs vs t xs) : Sum8 w2 w5 wr.drew hs vs t xs := ⟨S.len, S.vlen, S.blk, S.vb, S.ne, below_drew S.bel, S.lo, S.hi⟩
theorem Sum8.step {w2 w5 wr : World} {hs vs : List Int} {t : Nat} {xs : List Int} (S : Sum8 w2 w5 wr hs vs t xs) (ht : t < 8) (v : Int) (hv : v = (xs.getD t 0 + vs.getD t 0) % 4294967296) :
    Sum8 w2 w5 (wr.setCell ⟨w2.heap.size, t, none⟩ (.int .u32 v)) hs vs (t + 1) (xs.set t v) := by
  have hl := S.len
  refine ⟨by simpa using S.len, S.vlen, S.blk.set t v, (Below.heap_setCell _ _ _ _ (Ne.symm S.ne)).trans S.vb, S.ne, S.bel.setCell (Nat.le_refl _) _, ?_, ?_⟩
  · intro i hi
    by_cases e : i = t
    · subst e
      have hh := S.hi i (Nat.le_refl _)
      rw [show (xs.set i v).getD i 0 = v by simp [hl, ht], hv, hh]
    · rw [show (xs.set t v).getD i 0 = xs.getD i 0 by simp [List.getD_eq_getElem?_getD, List.getElem?_set_ne (Ne.symm e)]]
      exact S.lo i (by omega)
  · intro i hi
    rw [show (xs.set t v).getD i 0 = xs.getD i 0 by simp [List.getD_eq_getElem?_getD, List.getElem?_set_ne (show t ≠ i by omega)]]
    exact S.hi i (by omega)
theorem Sum8.fin {w2 w5 wr : World} {hs vs : List Int} {xs : List Int} (S : Sum8 w2 w5 wr hs vs 8 xs) (hh : hs.length = 8) : xs = addL vs hs := by
  have hl := S.len
  have hv := S.vlen
  apply List.ext_getElem
  · simp [addL, hl, hh, hv]
  · intro i h1 h2
    have := S.lo i (by omega)
    simp only [List.getD_eq_getElem?_getD, List.getElem?_eq_getElem h1, List.getElem?_eq_getElem (show i < vs.length by omega), List.getElem?_eq_getElem (show i < hs.length by omega), Option.getD_some] at this
    simp only [addL, List.getElem_zipWith]
    rw [this, Int.add_comm]
theorem turn_call (x n r : Int) (h : instarref03_turn.f x n = some r) : ∀ w0 : World, Calls Tryd.prog 20 #[.int .u32 x, .int .i64 n] w0 fun e w' => e = .returned (.int .u32 r) ∧ ∃ m, w' = w0.drewN m :=
  fun w0 => (instarref03_turn.calls x n r w0 h).mono fun _ _ k => ⟨k.1, k.2.out⟩
theorem sched64 (A : Option Addr) (c : Nat) (b : List Int) (w : World) (hr : Kd.C (Kd.int .u8) w A 64 b) (hl : b.length = 64) (hc : 64 ≤ c) (hb : ∀ x ∈ b, 0 ≤ x ∧ x < 256) :
    Calls Tryd.prog 19 #[.slice A 64 c] w fun e w' => ∃ v, e = .returned v ∧ Kd.R (Kd.int .u32) 28 w' w.heap.size (fun _ => True) v (wideL (packL b)) ∧ Below w.heap.size w w' := by
  have h := instarref03_schedule.calls 200 A c b (wideL (packL b)) w (by rw [hl]; exact hr) (by omega) (sched_is b hl hb)
  rw [hl] at h
  exact h
set_option maxHeartbeats 1000000 in
set_option maxRecDepth 100000 in
theorem rof_calls (l : List Int) (A : Option Addr) (c : Nat) (w : World) (hr : Kd.C (Kd.int .u8) w A l.length l) (hc : l.length ≤ c) (hlen : l.length ≤ 900000) (hb : ∀ x ∈ l, 0 ≤ x ∧ x < 256) :
    Calls Tryd.prog 10 #[.slice A l.length c] w fun e w' => e = .returned (.agg (nums .u32 (digest roundL firstL l)).toArray) ∧ Below w.heap.size w w' := by
  have HR := Aside0.mk hr
  have HBY := Aside0.mk hb
  clear hr hb
  have z2 := zeroV29
  go_enter Tryd.func10, Tryd.ntmps10
  go_upto_region 3 with (first
    | (go_at_call 16; refine (filled_calls l A c _ (Kd.C_alloc HR.out _) hc hlen).mono ?_; rintro e w1 ⟨v3, rfl, hO⟩; have S1 := Aside0.mk hO; clear hO)
    | (go_at_call 17; refine (instarref03_rounds.calls roundL _ rfl).mono ?_; rintro e w2 ⟨v4, rfl, hR, hB⟩; have S2 := Aside0.mk (And.intro hR hB); clear hR hB))
  obtain ⟨all, hall⟩ : ∃ a, padL l = a := ⟨_, rfl⟩
  rw [hall] at S1
  obtain ⟨A3, c3, rfl, hc3, hC3⟩ := S1.out.reads
  obtain ⟨A4, c4, rfl, hc4, hC4⟩ := Kd.R_reads S2.out.1
  have HD : Aside0 (RefHd w w2 all A3 A4) := ⟨by
    have b1 := S1.out.bel
    have hs1 := b1.size
    simp only [World.size_alloc] at b1 hs1
    refine ⟨Kd.C_below hC3 S2.out.2, hC4, ?_, ?_⟩
    · rw [S2.out.2.block _ (by omega), b1.block _ (by omega)]; exact blk_new w _
    · exact ((below_alloc (Below.refl _ _) _).trans (b1.mono (by omega))).trans (S2.out.2.mono (by omega))⟩
  have hal : all.length % 64 = 0 ∧ all.length ≤ 900200 := by rw [← hall]; have := padL_mod l; exact ⟨this.1, by omega⟩
  have hby : ∀ x ∈ all, 0 ≤ x ∧ x < 256 := by rw [← hall]; exact padL_bytes l HBY.out
  have HAL := Aside0.mk (And.intro hall hby)
  clear hall hby hC3 hC4 S1 S2
  obtain ⟨n, hn⟩ : ∃ n, all.length = n := ⟨_, rfl⟩
  rw [hn] at hc3 hal
  simp only [hn, show roundL.length = 64 from rfl]
  have HN := Aside0.mk hn
  clear hn
  go_upto_region 5 with ((go_at_call 18; refine (instarref03_first.calls firstL _ rfl).mono ?_; rintro e w4 ⟨v6, rfl, hR, hB⟩; have S4 := Aside0.mk (And.intro hR hB); clear hR hB))
  obtain ⟨A6, c6, rfl, hc6, hC6⟩ := Kd.R_reads S4.out.1
  have I0 : Aside0 (InitSt w2 w4 w4 0) := ⟨⟨blk_below (blk_new w2 _) S4.out.2, (below_alloc (Below.refl _ _) _).trans (S4.out.2.mono (by simp)), KeepBut.refl _ _ _⟩⟩
  have HF6 : Aside0 (∀ W', KeepBut w4 W' w2.heap.size none → Kd.C (Kd.int .u32) W' A6 firstL.length firstL) := ⟨Kd.C_foot_own (Kd.R_bound S4.out.1) (fun k hk => by have h1 := hk.2; simp at h1; omega)⟩
  clear hC6 S4
  go_wp2_with fail
  go_loopw [7] (fun i wr => ∃ t : Nat, t ≤ 8 ∧ i = .int .i64 (t : Int) ∧ Aside0 (InitSt w2 w4 wr t)) (fun i _ => 8 - (intOf i).toNat)
  case atStart => exact ⟨0, by omega, rfl, I0⟩
  case round =>
    clear I0
    obtain ⟨t, ht, rfl, S⟩ := hrel
    by_cases hlt : t < 8
    · have hb5 : (0 : Int) ≤ (t : Int) := by omega
      have hb6 : (t : Int) < 8 := by omega
      have hfl : firstL.length = 8 := rfl
      obtain ⟨ad6, he6, hcr⟩ := Kd.at_int (HF6.out wr S.out.keep) (t : Int) (by omega) (by omega)
      subst he6
      rw [Int.toNat_natCast, show rd firstL (t : Int) = firstL.getD t 0 by simp [rd]] at hcr
      obtain ⟨x, hx⟩ : ∃ x, firstL.getD t 0 = x := ⟨_, rfl⟩
      rw [hx] at hcr
      have HX := Aside0.mk hx
      have hcw : ∃ y, wr.cell? ⟨w2.heap.size, t, none⟩ = some (.int .u32 y) := ⟨_, S.out.blk.cell t (by simp [hfl]; omega)⟩
      obtain ⟨y, hcw⟩ := hcw
      have hfw := S.out.blk.frozen t
      clear hx
      go_wp2_with fail
      refine ⟨⟨t + 1, by omega, by go_num, ⟨S.out.step hlt x HX.out.symm⟩⟩, ?_⟩
      simp only [intOf]; omega
    · obtain rfl : t = 8 := by omega
      have R0 : Aside0 (RefSt w2 wr all 0) := ⟨⟨by have h := S.out.blk; rw [show firstL.take 8 ++ List.replicate (8 - 8) 0 = firstL from rfl] at h; exact h, S.out.bel⟩⟩
      clear S HF6
      obtain ⟨N, hN⟩ : ∃ N, n = 64 * N := ⟨n / 64, by omega⟩
      have HNN := Aside0.mk hN
      clear hN
      go_wp2_with fail
      go_loopw [8] (fun i wr => ∃ q : Nat, q ≤ N ∧ i = .int .i64 ((64 * q : Nat) : Int) ∧ Aside0 (RefSt w2 wr all q)) (fun i _ => n - (intOf i).toNat)
      case atStart => exact ⟨0, by omega, rfl, R0⟩
      case round =>
        clear R0
        obtain ⟨q, hq, rfl, S⟩ := hrel
        obtain ⟨p, hp⟩ : ∃ p, 64 * q = p := ⟨_, rfl⟩
        rw [hp]
        by_cases hlt : p < n
        · have hp64 : p + 64 ≤ n := by have := HNN.out; omega
          have HP := Aside0.mk hp
          clear hp hq
          obtain ⟨ad3, rfl⟩ : ∃ a, A3 = some a := by
            obtain ⟨ad, e, _⟩ := Kd.at_int HD.out.a3 0 (by omega) (by rw [HN.out]; omega)
            exact ⟨ad, e⟩
          have hne : ¬ (c3 = p) := by omega
          have hb5 : (0 : Int) ≤ (p : Int) := by omega
          have hb6 : (p : Int) ≤ (p : Int) + 64 := by omega
          have hb7 : (p : Int) + 64 ≤ (n : Int) := by omega
          have hb8 : (p : Int) + 64 ≤ (c3 : Int) := by omega
          have hb9 : IntKind.i64.wrap ((p : Int) + 64) = (p : Int) + 64 := by rw [IntWalk.i64_in] <;> omega
          have ht9 : ((p : Int) + 64).toNat = p + 64 := by omega
          have hs9 : p + 64 - p = 64 := by omega
          obtain ⟨bk, hbk⟩ : ∃ b, (all.drop p).take 64 = b := ⟨_, rfl⟩
          have HK : Aside0 (bk.length = 64 ∧ (∀ x ∈ bk, 0 ≤ x ∧ x < 256) ∧ Kd.C (Kd.int .u8) wr (some (ad3.add p)) 64 bk ∧ 64 ≤ c3 - p) := ⟨by
            have h1 := HN.out
            have hbl : bk.length = 64 := by rw [← hbk, List.length_take, List.length_drop]; omega
            refine ⟨hbl, fun x hx => HAL.out.2 x (by rw [← hbk] at hx; exact List.mem_of_mem_drop (List.mem_of_mem_take hx)), ?_, by omega⟩
            have h2 := Kd.C_mid (c := c3) (lo := p) (hi := p + 64) (Kd.C_below HD.out.a3 S.out.bel) (by omega) (by omega) (by omega)
            rw [if_neg hne, show (all.take (p + 64)).drop p = bk by rw [← hbk, List.drop_take]; congr 1, hbl] at h2
            rw [show p * (Kd.int IntKind.u8).sz = p from Nat.mul_one p] at h2
            exact h2⟩
          have HBK := Aside0.mk hbk
          clear hbk
          go_upto_region 13 with ((go_at_call 19; refine (sched64 _ _ bk _ HK.out.2.2.1 HK.out.1 HK.out.2.2.2 HK.out.2.1).mono ?_; rintro e w5 ⟨v9, rfl, hR, hB⟩; have S5 := Aside0.mk (And.intro hR hB); clear hR hB))
          obtain ⟨A9, c9, rfl, hc9, hC9⟩ := Kd.R_reads S5.out.1
          have hwl : (wideL (packL bk)).length = 64 := by rw [wideL, wideGo_length]; simp [(pack_64 bk HK.out.1).2]
          obtain ⟨W, hW⟩ : ∃ W, wideL (packL bk) = W := ⟨_, rfl⟩
          rw [hW] at hwl hC9 hc9
          simp only [hW, hwl]
          rw [hwl] at hC9 hc9
          have HW := Aside0.mk hW
          have HC9 := Aside0.mk hC9
          have BT : Aside0 (Below w2.heap.size w2 w5) := ⟨S.out.bel.trans (S5.out.2.mono S.out.bel.size)⟩
          have hhl := blkL_length roundL firstL rfl q all
          obtain ⟨hs, hhs⟩ : ∃ hs, blkL roundL firstL q all = hs := ⟨_, rfl⟩
          have HB5 : Aside0 (w5.heap[w2.heap.size]? = some (.cells (nums .u32 hs).toArray 29 (0, 0))) := ⟨by rw [← hhs]; exact blk_below S.out.blk S5.out.2⟩
          rw [hhs] at hhl
          have HHS := Aside0.mk hhs
          have hsz : (Tryd.prog.info? 29).map (·.size) = some (nums .u32 hs).toArray.size := by rw [size29]; simp [nums, hhl]
          have hs8 : (#[.int .u32 0, .int .u32 0, .int .u32 0, .int .u32 0, .int .u32 0, .int .u32 0, .int .u32 0, .int .u32 0] : Array Value).size = (nums .u32 hs).toArray.size := by simp [nums, hhl]
          have hz5 := blk_new w5 (.cells #[.int .u32 0, .int .u32 0, .int .u32 0, .int .u32 0, .int .u32 0, .int .u32 0, .int .u32 0, .int .u32 0] 29)
          have HZ := Aside0.mk (And.intro hsz (And.intro hs8 hz5))
          clear hW hC9 hhs hsz hs8 hz5 S5
          go_wp2_with (first
            | (refine wpList_load_row rfl 29 _ rfl w2.heap.size rfl 29 _ (0, 0) _ HB5.out un29 rfl HZ.out.1 ?_)
            | (refine wpList_store_row rfl 29 _ _ rfl w5.heap.size (nums .u32 hs).toArray rfl rfl 29 _ HZ.out.2.2 HZ.out.1 HZ.out.2.1 (one_nums _) ?_))
          obtain ⟨h0, h1, h2, h3, h4, h5, h6, h7, rfl⟩ := eight hs hhl
          have D0 : Aside0 (RndSt w5 ((w5.alloc (.cells #[.int .u32 0, .int .u32 0, .int .u32 0, .int .u32 0, .int .u32 0, .int .u32 0, .int .u32 0, .int .u32 0] 29)).setRow w5.heap.size (nums .u32 [h0, h1, h2, h3, h4, h5, h6, h7]).toArray) W h0 h1 h2 h3 h4 h5 h6 h7 0 h0 h1 h2 h3 h4 h5 h6 h7) := ⟨⟨setRow_heap _ _ _ _ 29 (0, 0) HZ.out.2.2, below_setRow (below_alloc (Below.refl _ _) _) (Nat.le_refl _) _, rfl⟩⟩
          go_loopw [11] (fun i wr => ∃ t : Nat, t ≤ 64 ∧ i = .int .i64 (t : Int) ∧ Aside0 (∃ v0 v1 v2 v3 v4 v5 v6 v7, RndSt w5 wr W h0 h1 h2 h3 h4 h5 h6 h7 t v0 v1 v2 v3 v4 v5 v6 v7)) (fun i _ => 64 - (intOf i).toNat)
          case atStart => exact ⟨0, by omega, rfl, ⟨_, _, _, _, _, _, _, _, D0.out⟩⟩
          case round =>
            clear D0
            obtain ⟨t, ht, rfl, HS⟩ := hrel
            obtain ⟨v0, v1, v2, v3, v4, v5, v6, v7, hD⟩ := HS.out
            have D := Aside0.mk hD
            clear hD HS
            by_cases hlt : t < 64
            · have hb5 : (0 : Int) ≤ (t : Int) := by omega
              have hb6 : (t : Int) < 64 := by omega
              obtain ⟨ad4, rfl, hk4⟩ : ∃ ad, A4 = some ad ∧ ∀ W', Below w5.heap.size w5 W' → W'.cell? (ad.add t) = some (.int .u32 (roundL.getD t 0)) := by
                obtain ⟨ad, e, _⟩ := Kd.at_int HD.out.a4 (t : Int) (by omega) (by omega)
                refine ⟨ad, e, fun W' hW' => ?_⟩
                obtain ⟨ad', e', h⟩ := Kd.at_int (Kd.C_below HD.out.a4 (BT.out.trans (hW'.mono BT.out.size))) (t : Int) (by omega) (by omega)
                rw [e] at e'; cases e'
                rw [Int.toNat_natCast, show rd roundL (t : Int) = roundL.getD t 0 by simp [rd]] at h
                exact h
              obtain ⟨ad9, rfl, hk9⟩ : ∃ ad, A9 = some ad ∧ ∀ W', Below w5.heap.size w5 W' → W'.cell? (ad.add t) = some (.int .u32 (W.getD t 0)) := by
                obtain ⟨ad, e, _⟩ := Kd.at_int HC9.out (t : Int) (by omega) (by omega)
                refine ⟨ad, e, fun W' hW' => ?_⟩
                obtain ⟨ad', e', h⟩ := Kd.at_int (Kd.C_below HC9.out hW') (t : Int) (by omega) (by omega)
                rw [e] at e'; cases e'
                rw [Int.toNat_natCast, show rd W (t : Int) = W.getD t 0 by simp [rd]] at h
                exact h
              have HK4 := Aside0.mk hk4
              have HK9 := Aside0.mk hk9
              clear hk4 hk9
              obtain ⟨kt, hkt⟩ : ∃ x, roundL.getD t 0 = x := ⟨_, rfl⟩
              obtain ⟨wt, hwt⟩ : ∃ x, W.getD t 0 = x := ⟨_, rfl⟩
              have HKW := Aside0.mk (And.intro hkt hwt)
              obtain ⟨r6, hr6⟩ : ∃ x, rl v4 (-6) = x := ⟨_, rfl⟩
              obtain ⟨r11, hr11⟩ : ∃ x, rl v4 (-11) = x := ⟨_, rfl⟩
              obtain ⟨r25, hr25⟩ : ∃ x, rl v4 (-25) = x := ⟨_, rfl⟩
              obtain ⟨r2, hr2⟩ : ∃ x, rl v0 (-2) = x := ⟨_, rfl⟩
              obtain ⟨r13, hr13⟩ : ∃ x, rl v0 (-13) = x := ⟨_, rfl⟩
              obtain ⟨r22, hr22⟩ : ∃ x, rl v0 (-22) = x := ⟨_, rfl⟩
              have T6 := Aside0.mk (turn_call v4 6 r6 (by rw [← hr6]; exact turn_6 v4))
              have T11 := Aside0.mk (turn_call v4 11 r11 (by rw [← hr11]; exact turn_11 v4))
              have T25 := Aside0.mk (turn_call v4 25 r25 (by rw [← hr25]; exact turn_25 v4))
              have T2 := Aside0.mk (turn_call v0 2 r2 (by rw [← hr2]; exact turn_2 v0))
              have T13 := Aside0.mk (turn_call v0 13 r13 (by rw [← hr13]; exact turn_13 v0))
              have T22 := Aside0.mk (turn_call v0 22 r22 (by rw [← hr22]; exact turn_22 v0))
              have HT6 : Aside0 (tn v4 6 11 25 = Go.bits .xor .u32 (Go.bits .xor .u32 r6 r11) r25) := ⟨by rw [tn_6, hr6, hr11, hr25]⟩
              have HT2 : Aside0 (tn v0 2 13 22 = Go.bits .xor .u32 (Go.bits .xor .u32 r2 r13) r22) := ⟨by rw [tn_2, hr2, hr13, hr22]⟩
              clear hkt hwt hr6 hr11 hr25 hr2 hr13 hr22
              have hc4 := D.out.cells.2.2.2.2.1
              go_upto_region 17 with (fail)
              go_quiet ((go_at_call 20; first | (with_reducible exact Calls.quiet_of (T6.out _)) | (with_reducible exact Calls.quiet_of (T11.out _)) | (with_reducible exact Calls.quiet_of (T25.out _))))
              go_wp2_with fail
              have D2 := Aside0.mk (D.out.drewN nq)
              clear hc4 D T6 T11 T25
              generalize wr.drewN nq = wq at *
              have hc4 := D2.out.cells.2.2.2.2.1
              have hc5 := D2.out.cells.2.2.2.2.2.1
              have hc6 := D2.out.cells.2.2.2.2.2.2.1
              have hc7 := D2.out.cells.2.2.2.2.2.2.2
              have hck := HK4.out wq D2.out.bel
              have hcw := HK9.out wq D2.out.bel
              rw [HKW.out.1] at hck
              rw [HKW.out.2] at hcw
              go_quiet (fail)
              go_wp2_with fail
              have D3 := Aside0.mk (D2.out.drewN nq)
              clear hc4 hc5 hc6 hc7 hck hcw D2
              generalize wq.drewN nq = wp at *
              have hc0 := D3.out.cells.1
              go_quiet ((go_at_call 20; first | (with_reducible exact Calls.quiet_of (T2.out _)) | (with_reducible exact Calls.quiet_of (T13.out _)) | (with_reducible exact Calls.quiet_of (T22.out _))))
              go_upto_region 20 with (fail)
              have D4 := Aside0.mk (D3.out.drewN nq)
              clear hc0 D3 T2 T13 T22
              generalize wp.drewN nq = wo at *
              have hc0 := D4.out.cells.1
              have hc1 := D4.out.cells.2.1
              have hc2 := D4.out.cells.2.2.1
              have hc3 := D4.out.cells.2.2.2.1
              have hc4 := D4.out.cells.2.2.2.2.1
              have hc5 := D4.out.cells.2.2.2.2.2.1
              have hc6 := D4.out.cells.2.2.2.2.2.2.1
              have HB4 := Aside0.mk (show wo.heap[w5.heap.size]? = some (.cells (nums .u32 [v0, v1, v2, v3, v4, v5, v6, v7]).toArray 29 (0, 0)) from D4.out.blk)
              go_upto_region 21 with (fail)
              generalize hT1 : (v7 + Go.bits .xor .u32 (Go.bits .xor .u32 r6 r11) r25 + Go.bits .xor .u32 (Go.bits .and .u32 v4 v5) (Go.bits .and .u32 (Go.bits .xor .u32 IntKind.u32.max v4) v6) + kt + wt) % 4294967296 = T1
              generalize hT2 : (Go.bits .xor .u32 (Go.bits .xor .u32 r2 r13) r22 + Go.bits .xor .u32 (Go.bits .xor .u32 (Go.bits .and .u32 v0 v1) (Go.bits .and .u32 v0 v2)) (Go.bits .and .u32 v1 v2)) % 4294967296 = T2
              have HT := Aside0.mk (And.intro hT1 hT2)
              clear hT1 hT2
              have hc7 := D4.out.cells.2.2.2.2.2.2.2
              have hfz := D4.out.blk.frozen
              go_wp2_with fail
              refine ⟨⟨t + 1, by omega, by go_num, ⟨_, _, _, _, _, _, _, _, D4.out.next hlt _ _ ?_ ?_⟩⟩, ?_⟩
              · rw [← HT.out.1, ← HT.out.2, mod_add, ← HT6.out, ← HT2.out, HKW.out.1, HKW.out.2]; rfl
              · rw [← HT.out.1, mod_add', ← HT6.out, HKW.out.1, HKW.out.2]; rfl
              · simp only [intOf]; omega
            · obtain rfl : t = 64 := by omega
              have Q0 : Aside0 (Sum8 w2 w5 wr [h0, h1, h2, h3, h4, h5, h6, h7] [v0, v1, v2, v3, v4, v5, v6, v7] 0 [h0, h1, h2, h3, h4, h5, h6, h7]) := ⟨by
                have hlt2 := blk_lt HB5.out
                refine ⟨rfl, rfl, (D.out.bel.block _ hlt2).trans HB5.out, D.out.blk, by omega, BT.out.trans (D.out.bel.mono BT.out.size), fun i h => absurd h (Nat.not_lt_zero _), fun i _ => rfl⟩⟩
              have HE := Aside0.mk (show [v0, v1, v2, v3, v4, v5, v6, v7] = stGo roundL W 64 0 h0 h1 h2 h3 h4 h5 h6 h7 from D.out.eq)
              clear D
              go_wp2_with fail
              go_loopw [16] (fun i wr => ∃ t : Nat, t ≤ 8 ∧ i = .int .i64 t ∧ Aside0 (∃ xs, Sum8 w2 w5 wr [h0, h1, h2, h3, h4, h5, h6, h7] [v0, v1, v2, v3, v4, v5, v6, v7] t xs)) (fun i _ => 8 - (intOf i).toNat)
              case atStart => exact ⟨0, by omega, rfl, ⟨_, Q0.out⟩⟩
              case round =>
                clear Q0 ht hlt
                obtain ⟨t, ht, rfl, HS⟩ := hrel
                obtain ⟨xs, hQ⟩ := HS.out
                have Q := Aside0.mk hQ
                clear hQ HS
                by_cases hlt : t < 8
                · have hb5 : (0 : Int) ≤ (t : Int) := by omega
                  have hb6 : (t : Int) < 8 := by omega
                  obtain ⟨x, hx⟩ : ∃ x, xs.getD t 0 = x := ⟨_, rfl⟩
                  obtain ⟨y, hy⟩ : ∃ y, ([v0, v1, v2, v3, v4, v5, v6, v7] : List Int).getD t 0 = y := ⟨_, rfl⟩
                  have hcx := Q.out.blk.cell t (by rw [Q.out.len]; exact hlt)
                  have hcy := Q.out.vb.cell t (by rw [Q.out.vlen]; exact hlt)
                  have hf := Q.out.blk.frozen t
                  rw [hx] at hcx
                  rw [hy] at hcy
                  have HX := Aside0.mk (And.intro hx hy)
                  clear hx hy
                  go_upto_region 25 with (fail)
                  go_still_tail 9, (by kernel_rfl)
                  go_wp2_with fail
                  refine ⟨⟨_, _, _, _, _, _, _, _, _, _, _, _, _, _, ?rel, rfl⟩, ?measure⟩
                  case rel => exact ⟨t + 1, by omega, by go_num, ⟨_, (Q.out.step hlt _ (by rw [HX.out.1, HX.out.2])).drew⟩⟩
                  case measure => simp [intOf]; omega
                · obtain rfl : t = 8 := by omega
                  have R1 : Aside0 (RefSt w2 wr all (q + 1)) := ⟨⟨by
                    have hf := Q.out.fin rfl
                    have e : blkL roundL firstL (q + 1) all = xs := by
                      rw [blkL, HP.out, HBK.out, HHS.out, stepB, HW.out, hf, HE.out]; rfl
                    rw [e]; exact Q.out.blk, Q.out.bel⟩⟩
                  go_wp2_with fail
                  refine ⟨?_, ?measure⟩
                  repeat apply Exists.intro
                  refine ⟨?rel, rfl⟩
                  case rel =>
                    refine ⟨q + 1, ?_, ?_, R1⟩
                    · have h1 := HP.out
                      have h2 := HNN.out
                      omega
                    · have h1 := HP.out
                      rw [show ((64 * (q + 1) : Nat) : Int) = (p : Int) + 64 by omega]
                  case measure => simp [intOf]; omega
        · have hqN : q = N := by have h1 := HNN.out; have h2 := hp; omega
          subst hqN
          have hfl : (blkL roundL firstL q all).length = 8 := blkL_length _ _ rfl _ _
          obtain ⟨ds, hds⟩ : ∃ ds, blkL roundL firstL q all = ds := ⟨_, rfl⟩
          have hbk : wr.heap[w2.heap.size]? = some (.cells (nums .u32 ds).toArray 29 (0, 0)) := by rw [← hds]; exact S.out.blk
          rw [hds] at hfl
          have hdig : digest roundL firstL l = ds := by
            have h1 := HAL.out.1
            have h2 := HN.out
            have h3 := HNN.out
            rw [digest, h1, h2, h3, Nat.mul_div_cancel_left _ (by decide), hds]
          have hre : wr.heap[w.heap.size]? = some (.cells #[.int .u32 0, .int .u32 0, .int .u32 0, .int .u32 0, .int .u32 0, .int .u32 0, .int .u32 0, .int .u32 0] 29 (0, 0)) := blk_below HD.out.res S.out.bel
          have hi : (Tryd.prog.info? 29).map (·.size) = some (nums .u32 ds).toArray.size := by rw [size29]; simp [nums, hfl]
          have hsz : (#[.int .u32 0, .int .u32 0, .int .u32 0, .int .u32 0, .int .u32 0, .int .u32 0, .int .u32 0, .int .u32 0] : Array Value).size = (nums .u32 ds).toArray.size := by simp [nums, hfl]
          have HL := Aside0.mk (And.intro hbk (And.intro hre (And.intro hi (And.intro hsz (And.intro (one_nums ds) hdig)))))
          clear hbk hre hi hsz hdig hds hfl hp
          go_wp2_with (first
            | (refine wpList_load_row rfl 29 _ rfl w2.heap.size rfl 29 _ (0, 0) _ HL.out.1 un29 rfl HL.out.2.2.1 ?_)
            | (refine wpList_store_row rfl 29 _ _ rfl w.heap.size (nums .u32 ds).toArray rfl rfl 29 _ HL.out.2.1 HL.out.2.2.1 HL.out.2.2.2.1 HL.out.2.2.2.2.1 ?_))
          have hbl : Below w.heap.size w (wr.setRow w.heap.size (nums .u32 ds).toArray) := below_setRow (HD.out.bel.trans (S.out.bel.mono HD.out.bel.size)) (Nat.le_refl _) _
          exact bodyPost_ret (v := .agg (nums .u32 ds).toArray) (results_c (p := 2) (ty := 29) (by kernel_rfl) _ _ w.heap.size 29 _ (0, 0) _ rfl (setRow_heap _ _ _ _ 29 (0, 0) HL.out.2.1) un29 rfl HL.out.2.2.1) rfl ⟨by rw [HL.out.2.2.2.2.2], hbl⟩
end Go.Proofs.YtfjglhhandjahaaDoor.Sha
