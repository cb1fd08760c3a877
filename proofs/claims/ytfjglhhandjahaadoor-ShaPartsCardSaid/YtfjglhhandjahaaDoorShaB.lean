/- What a block makes of eight words (sha.step). -/
import Derived.Test.YtfjglhhandjahaaDoorShaIx
import Derived.StillTailTactics
namespace Go.Proofs.YtfjglhhandjahaaDoor.Sha
open Go.RowKit Go.Proofs.YtfjglhhandjahaaDoorW.PrintWords Go.Proofs.YtfjglhhandjahaaDoor.PShaOf
set_option linter.unusedVariables false

/-- A word turned right by three numbers. -/
def tn (x a b c : Int) : Int := (sha_turned.f x a b c).getD 0
theorem rot_6 (x : Int) : ∃ r, bits_RotateLeft32.f x (wrap64 (-6)) = some r := by
  unfold bits_RotateLeft32.f
  rw [if_pos (by decide +kernel), if_pos (by decide +kernel)]; exact ⟨_, rfl⟩
theorem turned_6 (x : Int) : sha_turned.f x 6 11 25 = some (tn x 6 11 25) := by
  unfold tn sha_turned.f bits_RotateLeft32.f
  rw [if_pos (by decide +kernel), if_pos (by decide +kernel), if_pos (by decide +kernel), if_pos (by decide +kernel), if_pos (by decide +kernel), if_pos (by decide +kernel)]; rfl
theorem turned_2 (x : Int) : sha_turned.f x 2 13 22 = some (tn x 2 13 22) := by
  unfold tn sha_turned.f bits_RotateLeft32.f
  rw [if_pos (by decide +kernel), if_pos (by decide +kernel), if_pos (by decide +kernel), if_pos (by decide +kernel), if_pos (by decide +kernel), if_pos (by decide +kernel)]; rfl

theorem zeroV29 (w : World) : (zeroValue 29).run Tryd.prog w = .ok (.agg #[.int .u32 0, .int .u32 0, .int .u32 0, .int .u32 0, .int .u32 0, .int .u32 0, .int .u32 0, .int .u32 0]) w := by kernel_rfl
theorem un29 : Tryd.prog.underlying 29 = some (.array 8 28) := by kernel_rfl
theorem size29 : (Tryd.prog.info? 29).map (·.size) = some 8 := by kernel_rfl

/-- A table of words lies in this block. -/
def TB (w : World) (b : Nat) (xs : List Int) : Prop := ∃ t fr, w.heap[b]? = some (.cells (nums .u32 xs).toArray t fr)
theorem TB.cell {w : World} {b : Nat} {xs : List Int} (h : TB w b xs) (i : Nat) (hi : i < xs.length) : w.cell? ⟨b, i, none⟩ = some (.int .u32 (xs.getD i 0)) := by
  obtain ⟨t, fr, h⟩ := h
  rw [cell_of_row w b i _ t fr h]
  simp [nums, hi]
theorem TB.kept {w w' : World} {b : Nat} {xs : List Int} (h : TB w b xs) (e : w'.heap[b]? = w.heap[b]?) : TB w' b xs := by
  obtain ⟨t, fr, h⟩ := h
  exact ⟨t, fr, e.trans h⟩
theorem TB.lt {w : World} {b : Nat} {xs : List Int} (h : TB w b xs) : b < w.heap.size := by
  obtain ⟨t, fr, h⟩ := h
  exact blk_lt h
theorem TB.below {w w' : World} {b : Nat} {xs : List Int} (h : TB w b xs) (hb : Below w.heap.size w w') : TB w' b xs := h.kept (hb.block b h.lt)

/-- What a round adds. -/
def stUp (v4 v5 v6 v7 kt wt : Int) : Int := v7 + tn v4 6 11 25 + Go.bits .xor .u32 (Go.bits .and .u32 v4 v5) (Go.bits .and .u32 (Go.bits .xor .u32 IntKind.u32.max v4) v6) + kt + wt
def stDown (v0 v1 v2 : Int) : Int := tn v0 2 13 22 + Go.bits .xor .u32 (Go.bits .xor .u32 (Go.bits .and .u32 v0 v1) (Go.bits .and .u32 v0 v2)) (Go.bits .and .u32 v1 v2)
/-- So many rounds more, from the t-th on. -/
def stGo (rs W : List Int) : Nat → Nat → Int → Int → Int → Int → Int → Int → Int → Int → List Int
  | 0, _, v0, v1, v2, v3, v4, v5, v6, v7 => [v0, v1, v2, v3, v4, v5, v6, v7]
  | n + 1, t, v0, v1, v2, v3, v4, v5, v6, v7 =>
    stGo rs W n (t + 1) ((stUp v4 v5 v6 v7 (rs.getD t 0) (W.getD t 0) + stDown v0 v1 v2) % 4294967296) v0 v1 v2 ((v3 + stUp v4 v5 v6 v7 (rs.getD t 0) (W.getD t 0)) % 4294967296) v4 v5 v6

/-- The state of the rounds. -/
structure StepSt (w wr : World) (rs W : List Int) (a0 a1 a2 a3 a4 a5 a6 a7 : Int) (t : Nat) (v0 v1 v2 v3 v4 v5 v6 v7 : Int) : Prop where
  blk : wr.heap[w.heap.size + 2]? = some (.cells #[.int .u32 v0, .int .u32 v1, .int .u32 v2, .int .u32 v3, .int .u32 v4, .int .u32 v5, .int .u32 v6, .int .u32 v7] 29 (0, 0))
  src : wr.heap[w.heap.size]? = some (.cells #[.int .u32 a0, .int .u32 a1, .int .u32 a2, .int .u32 a3, .int .u32 a4, .int .u32 a5, .int .u32 a6, .int .u32 a7] 29 (0, 0))
  res : wr.heap[w.heap.size + 1]? = some (.cells #[.int .u32 0, .int .u32 0, .int .u32 0, .int .u32 0, .int .u32 0, .int .u32 0, .int .u32 0, .int .u32 0] 29 (0, 0))
  tab : TB wr 1 rs
  bel : Below w.heap.size w wr
  eq : stGo rs W (64 - t) t v0 v1 v2 v3 v4 v5 v6 v7 = stGo rs W 64 0 a0 a1 a2 a3 a4 a5 a6 a7

theorem StepSt.drewN {w wr : World} {rs W : List Int} {a0 a1 a2 a3 a4 a5 a6 a7 : Int} {t : Nat} {v0 v1 v2 v3 v4 v5 v6 v7 : Int} (S : StepSt w wr rs W a0 a1 a2 a3 a4 a5 a6 a7 t v0 v1 v2 v3 v4 v5 v6 v7) (n : Nat) : StepSt w (wr.drewN n) rs W a0 a1 a2 a3 a4 a5 a6 a7 t v0 v1 v2 v3 v4 v5 v6 v7 :=
  ⟨S.blk, S.src, S.res, S.tab, pw_below_drewN S.bel n, S.eq⟩

/-- Two rows of words added. -/
def addL (vs ss : List Int) : List Int := List.zipWith (fun a b => (a + b) % 4294967296) vs ss
/-- What a block makes of eight words. -/
def stepL (rs W : List Int) : List Int → List Int
  | [a0, a1, a2, a3, a4, a5, a6, a7] => addL (stGo rs W 64 0 a0 a1 a2 a3 a4 a5 a6 a7) [a0, a1, a2, a3, a4, a5, a6, a7]
  | _ => []
/-- The state of the additions. -/
structure AddSt (w wr : World) (vs ss : List Int) (t : Nat) (xs : List Int) : Prop where
  len : xs.length = 8
  slen : ss.length = 8
  blk : W32 wr (w.heap.size + 1 + 1) 29 xs
  src : W32 wr w.heap.size 29 ss
  res : wr.heap[w.heap.size + 1]? = some (.cells #[.int .u32 0, .int .u32 0, .int .u32 0, .int .u32 0, .int .u32 0, .int .u32 0, .int .u32 0, .int .u32 0] 29 (0, 0))
  bel : Below w.heap.size w wr
  lo : ∀ i, i < t → xs.getD i 0 = (vs.getD i 0 + ss.getD i 0) % 4294967296
  hi : ∀ i, t ≤ i → xs.getD i 0 = vs.getD i 0
theorem AddSt.drewN {w wr : World} {vs ss : List Int} {t : Nat} {xs : List Int} (S : AddSt w wr vs ss t xs) (n : Nat) : AddSt w (wr.drewN n) vs ss t xs :=
  ⟨S.len, S.slen, S.blk, S.src, S.res, pw_below_drewN S.bel n, S.lo, S.hi⟩
theorem AddSt.drew {w wr : World} {vs ss : List Int} {t : Nat} {xs : List Int} (S : AddSt w wr vs ss t xs) : AddSt w wr.drew vs ss t xs :=
  ⟨S.len, S.slen, S.blk, S.src, S.res, below_drew S.bel, S.lo, S.hi⟩
theorem AddSt.step {w wr : World} {vs ss : List Int} {t : Nat} {xs : List Int} (S : AddSt w wr vs ss t xs) (ht : t < 8) (v : Int) (hv : v = (xs.getD t 0 + ss.getD t 0) % 4294967296) :
    AddSt w (wr.setCell ⟨w.heap.size + 1 + 1, t, none⟩ (.int .u32 v)) vs ss (t + 1) (xs.set t v) := by
  have far : ∀ b, b ≠ w.heap.size + 1 + 1 → ∀ o, wr.heap[b]? = some o → (wr.setCell ⟨w.heap.size + 1 + 1, t, none⟩ (.int .u32 v)).heap[b]? = some o := by
    intro b hb o ho
    rw [Below.heap_setCell _ _ _ b (by simpa using hb)]; exact ho
  have hl := S.len
  refine ⟨by simpa using S.len, S.slen, S.blk.set t v, far _ (by omega) _ S.src, far _ (by omega) _ S.res, S.bel.trans ⟨rfl, rfl, rfl, by simp [World.setCell], fun k hk => Below.heap_setCell wr _ _ k (by simp; omega)⟩, ?_, ?_⟩
  · intro i hi
    by_cases e : i = t
    · subst e
      have hh := S.hi i (Nat.le_refl _)
      rw [show (xs.set i v).getD i 0 = v by simp [hl, ht], hv, hh]
    · rw [show (xs.set t v).getD i 0 = xs.getD i 0 by simp [List.getD_eq_getElem?_getD, List.getElem?_set_ne (Ne.symm e)]]
      exact S.lo i (by omega)
  · intro i hi
    rw [show (xs.set t v).getD i 0 = xs.getD i 0 by simp [List.getD_eq_getElem?_getD, List.getElem?_set_ne (show t ≠ i by omega)]]
    exact S.hi i (by omega)
theorem AddSt.fin {w wr : World} {vs ss : List Int} {xs : List Int} (S : AddSt w wr vs ss 8 xs) (hv : vs.length = 8) : xs = addL vs ss := by
  have hl := S.len
  have hs := S.slen
  apply List.ext_getElem
  · simp [addL, hl, hs, hv]
  · intro i h1 h2
    have := S.lo i (by omega)
    simp only [List.getD_eq_getElem?_getD, List.getElem?_eq_getElem h1, List.getElem?_eq_getElem (show i < vs.length by omega), List.getElem?_eq_getElem (show i < ss.length by omega), Option.getD_some] at this
    simp [addL, this]
theorem stGo_length (rs W : List Int) : ∀ n t v0 v1 v2 v3 v4 v5 v6 v7, (stGo rs W n t v0 v1 v2 v3 v4 v5 v6 v7).length = 8
  | 0, _, _, _, _, _, _, _, _, _ => rfl
  | n + 1, t, v0, v1, v2, v3, v4, v5, v6, v7 => by rw [stGo, stGo_length]

theorem StepSt.next {w wo : World} {rs W : List Int} {a0 a1 a2 a3 a4 a5 a6 a7 : Int} {t : Nat} {v0 v1 v2 v3 v4 v5 v6 v7 : Int} (S : StepSt w wo rs W a0 a1 a2 a3 a4 a5 a6 a7 t v0 v1 v2 v3 v4 v5 v6 v7) (ht : t < 64) (x y : Int)
    (hx : x = (v3 + stUp v4 v5 v6 v7 (rs.getD t 0) (W.getD t 0)) % 4294967296) (hy : y = (stUp v4 v5 v6 v7 (rs.getD t 0) (W.getD t 0) + stDown v0 v1 v2) % 4294967296) :
    StepSt w (((wo.drew.setRow (w.heap.size + 1 + 1) #[.int .u32 v0, .int .u32 v0, .int .u32 v1, .int .u32 v2, .int .u32 v3, .int .u32 v4, .int .u32 v5, .int .u32 v6]).setCell ⟨w.heap.size + 1 + 1, 4, none⟩ (.int .u32 x)).setCell ⟨w.heap.size + 1 + 1, 0, none⟩ (.int .u32 y)) rs W a0 a1 a2 a3 a4 a5 a6 a7 (t + 1) y v0 v1 v2 x v4 v5 v6 := by
  have hcb := setRow_heap wo.drew (w.heap.size + 1 + 1) _ (#[.int .u32 v0, .int .u32 v0, .int .u32 v1, .int .u32 v2, .int .u32 v3, .int .u32 v4, .int .u32 v5, .int .u32 v6] : Array Value) 29 (0, 0) S.blk
  have far : ∀ b, b ≠ w.heap.size + 1 + 1 → ∀ o, wo.heap[b]? = some o → (((wo.drew.setRow (w.heap.size + 1 + 1) #[.int .u32 v0, .int .u32 v0, .int .u32 v1, .int .u32 v2, .int .u32 v3, .int .u32 v4, .int .u32 v5, .int .u32 v6]).setCell ⟨w.heap.size + 1 + 1, 4, none⟩ (.int .u32 x)).setCell ⟨w.heap.size + 1 + 1, 0, none⟩ (.int .u32 y)).heap[b]? = some o := by
    intro b hb o ho
    rw [Below.heap_setCell _ _ _ b (by simpa using hb), Below.heap_setCell _ _ _ b (by simpa using hb), setRow_other _ _ _ _ hb]; exact ho
  have hbl : Below w.heap.size w (wo.drew.setRow (w.heap.size + 1 + 1) #[.int .u32 v0, .int .u32 v0, .int .u32 v1, .int .u32 v2, .int .u32 v3, .int .u32 v4, .int .u32 v5, .int .u32 v6]) := below_setRow (below_drew S.bel) (by omega) _
  have setB : ∀ (wx : World) (i : Nat) (u : Value), Below w.heap.size w wx → Below w.heap.size w (wx.setCell ⟨w.heap.size + 1 + 1, i, none⟩ u) := fun wx i u h => h.trans ⟨rfl, rfl, rfl, by simp [World.setCell], fun k hk => Below.heap_setCell wx _ _ k (by simp; omega)⟩
  refine ⟨?_, far _ (by omega) _ S.src, far _ (by omega) _ S.res, (by obtain ⟨t1, fr1, ht1⟩ := S.tab; exact ⟨t1, fr1, far _ (by omega) _ ht1⟩), setB _ _ _ (setB _ _ _ hbl), ?_⟩
  · have h1 := blk_set hcb 4 (.int .u32 x)
    have h2 := blk_set h1 0 (.int .u32 y)
    exact h2
  · have e := S.eq
    rw [show 64 - t = (64 - (t + 1)) + 1 by omega, stGo] at e
    rw [hx, hy]; exact e

set_option maxHeartbeats 1000000 in
set_option maxRecDepth 100000 in
theorem step_calls (k : Nat) (A : Option Addr) (c : Nat) (l ws rs : List Int) (a0 a1 a2 a3 a4 a5 a6 a7 : Int) (w : World) (hr : Kd.C (Kd.int .u8) w A l.length l) (hc : l.length ≤ c) (hp : word_Pack.f k l = some ws) (hws : ws.length = 16) (hrs : rs.length = 64) (hK : TB w 1 rs) :
    Calls Tryd.prog 15 #[.agg #[.int .u32 a0, .int .u32 a1, .int .u32 a2, .int .u32 a3, .int .u32 a4, .int .u32 a5, .int .u32 a6, .int .u32 a7], .slice A l.length c] w fun e w' => e = .returned (.agg (nums .u32 (stepL rs (wideL ws) [a0, a1, a2, a3, a4, a5, a6, a7])).toArray) ∧ Below w.heap.size w w' := by
  have HR := Aside0.mk hr
  have HP := Aside0.mk hp
  have HK := Aside0.mk hK
  clear hr hp hK
  have z := zeroV29
  go_enter Tryd.func15, Tryd.ntmps15
  have BL0 : Aside0 (Below w.heap.size w (((w.alloc (.cells #[.int .u32 a0, .int .u32 a1, .int .u32 a2, .int .u32 a3, .int .u32 a4, .int .u32 a5, .int .u32 a6, .int .u32 a7] 29)).alloc (.cells #[.int .u32 0, .int .u32 0, .int .u32 0, .int .u32 0, .int .u32 0, .int .u32 0, .int .u32 0, .int .u32 0] 29)).alloc (.cells #[.int .u32 a0, .int .u32 a1, .int .u32 a2, .int .u32 a3, .int .u32 a4, .int .u32 a5, .int .u32 a6, .int .u32 a7] 29))) := ⟨(((Below.refl _ w).alloc (Nat.le_refl _) _).alloc (by simp) _).alloc (by simp; omega) _⟩
  go_wp2_with (go_at_call 21; refine (wide_calls k A c l ws _ (Kd.C_below HR.out BL0.out) hc HP.out hws).mono ?_; rintro e w1 ⟨rfl, hB⟩; have HB1 := Aside0.mk hB; clear hB)
  obtain ⟨W, hW⟩ : ∃ W, wideL ws = W := ⟨_, rfl⟩
  rw [hW]
  have S0 : Aside0 (StepSt w w1 rs W a0 a1 a2 a3 a4 a5 a6 a7 0 a0 a1 a2 a3 a4 a5 a6 a7) := by
    have hB := HB1.out
    have e0 := blk_alloc (blk_alloc (blk_new w (.cells #[.int .u32 a0, .int .u32 a1, .int .u32 a2, .int .u32 a3, .int .u32 a4, .int .u32 a5, .int .u32 a6, .int .u32 a7] 29)) (.cells #[.int .u32 0, .int .u32 0, .int .u32 0, .int .u32 0, .int .u32 0, .int .u32 0, .int .u32 0, .int .u32 0] 29)) (.cells #[.int .u32 a0, .int .u32 a1, .int .u32 a2, .int .u32 a3, .int .u32 a4, .int .u32 a5, .int .u32 a6, .int .u32 a7] 29)
    have e1 := blk_alloc (blk_new (w.alloc (.cells #[.int .u32 a0, .int .u32 a1, .int .u32 a2, .int .u32 a3, .int .u32 a4, .int .u32 a5, .int .u32 a6, .int .u32 a7] 29)) (.cells #[.int .u32 0, .int .u32 0, .int .u32 0, .int .u32 0, .int .u32 0, .int .u32 0, .int .u32 0, .int .u32 0] 29)) (.cells #[.int .u32 a0, .int .u32 a1, .int .u32 a2, .int .u32 a3, .int .u32 a4, .int .u32 a5, .int .u32 a6, .int .u32 a7] 29)
    have e2 := blk_new ((w.alloc (.cells #[.int .u32 a0, .int .u32 a1, .int .u32 a2, .int .u32 a3, .int .u32 a4, .int .u32 a5, .int .u32 a6, .int .u32 a7] 29)).alloc (.cells #[.int .u32 0, .int .u32 0, .int .u32 0, .int .u32 0, .int .u32 0, .int .u32 0, .int .u32 0, .int .u32 0] 29)) (.cells #[.int .u32 a0, .int .u32 a1, .int .u32 a2, .int .u32 a3, .int .u32 a4, .int .u32 a5, .int .u32 a6, .int .u32 a7] 29)
    simp only [World.alloc, Array.size_push] at e1 e2
    exact ⟨blk_below e2 hB, blk_below e0 hB, blk_below e1 hB, (HK.out.below BL0.out).below (hB.mono (Nat.le_refl _)), BL0.out.trans (hB.mono BL0.out.size), rfl⟩
  have HW := Aside0.mk hW
  clear hW
  go_loopw [16] (fun i wr => ∃ t : Nat, t ≤ 64 ∧ i = .int .i64 t ∧ Aside0 (∃ v0 v1 v2 v3 v4 v5 v6 v7, StepSt w wr rs W a0 a1 a2 a3 a4 a5 a6 a7 t v0 v1 v2 v3 v4 v5 v6 v7)) (fun i _ => 64 - (intOf i).toNat)
  case atStart => exact ⟨0, by omega, rfl, ⟨_, _, _, _, _, _, _, _, S0.out⟩⟩
  case round =>
    obtain ⟨t, h64, rfl, HS⟩ := hrel
    obtain ⟨v0, v1, v2, v3, v4, v5, v6, v7, hS⟩ := HS.out
    have S := Aside0.mk hS
    clear hS HS S0
    by_cases hlt : t < 64
    · have hWl : W.length = 64 := by rw [← HW.out, wideL, wideGo_length]; simp [hws]
      have hb5 : (0 : Int) ≤ (t : Int) := by omega
      have hb6 : (t : Int) < 64 := by omega
      go_upto_region 4 with (fail)
      have hix := ix47 hWl hlt wr
      go_wp2_with fail
      have hc0 : wr.cell? ⟨w.heap.size + 1 + 1, 0, none⟩ = some (.int .u32 v0) := by rw [blk_cell S.out.blk 0]; rfl
      have hc1 : wr.cell? ⟨w.heap.size + 1 + 1, 1, none⟩ = some (.int .u32 v1) := by rw [blk_cell S.out.blk 1]; rfl
      have hc2 : wr.cell? ⟨w.heap.size + 1 + 1, 2, none⟩ = some (.int .u32 v2) := by rw [blk_cell S.out.blk 2]; rfl
      have hc4 : wr.cell? ⟨w.heap.size + 1 + 1, 4, none⟩ = some (.int .u32 v4) := by rw [blk_cell S.out.blk 4]; rfl
      have hc5 : wr.cell? ⟨w.heap.size + 1 + 1, 5, none⟩ = some (.int .u32 v5) := by rw [blk_cell S.out.blk 5]; rfl
      have hc6 : wr.cell? ⟨w.heap.size + 1 + 1, 6, none⟩ = some (.int .u32 v6) := by rw [blk_cell S.out.blk 6]; rfl
      have hc7 : wr.cell? ⟨w.heap.size + 1 + 1, 7, none⟩ = some (.int .u32 v7) := by rw [blk_cell S.out.blk 7]; rfl
      go_quiet (fail)
      go_wp2_with fail
      have S2 := Aside0.mk (S.out.drewN nq)
      clear hc0 hc1 hc2 hc4 hc5 hc6 hc7 hix S
      generalize wr.drewN nq = wq at *
      have hc1 : wq.cell? ⟨w.heap.size + 1 + 1, 1, none⟩ = some (.int .u32 v1) := by rw [blk_cell S2.out.blk 1]; rfl
      have hc2 : wq.cell? ⟨w.heap.size + 1 + 1, 2, none⟩ = some (.int .u32 v2) := by rw [blk_cell S2.out.blk 2]; rfl
      have hc5 : wq.cell? ⟨w.heap.size + 1 + 1, 5, none⟩ = some (.int .u32 v5) := by rw [blk_cell S2.out.blk 5]; rfl
      have hc6 : wq.cell? ⟨w.heap.size + 1 + 1, 6, none⟩ = some (.int .u32 v6) := by rw [blk_cell S2.out.blk 6]; rfl
      have hc7 : wq.cell? ⟨w.heap.size + 1 + 1, 7, none⟩ = some (.int .u32 v7) := by rw [blk_cell S2.out.blk 7]; rfl
      have hk0 : wq.cell? ⟨1, t, none⟩ = some (.int .u32 (rs.getD t 0)) := S2.out.tab.cell t (by omega)
      go_quiet ((go_at_call 22; exact Calls.quiet_of ((sha_turned.calls _ _ _ _ _ _ (turned_6 v4)).mono fun _ _ h => ⟨h.1, h.2.out⟩)))
      go_wp2_with fail
      have S3 := Aside0.mk (S2.out.drewN nq)
      clear hc1 hc2 hc5 hc6 hc7 hk0 S2
      generalize wq.drewN nq = wp at *
      have hd1 : wp.cell? ⟨w.heap.size + 1 + 1, 1, none⟩ = some (.int .u32 v1) := by rw [blk_cell S3.out.blk 1]; rfl
      have hd2 : wp.cell? ⟨w.heap.size + 1 + 1, 2, none⟩ = some (.int .u32 v2) := by rw [blk_cell S3.out.blk 2]; rfl
      go_quiet ((go_at_call 22; exact Calls.quiet_of ((sha_turned.calls _ _ _ _ _ _ (turned_2 v0)).mono fun _ _ h => ⟨h.1, h.2.out⟩)))
      go_wp2_with fail
      have S4 := Aside0.mk (S3.out.drewN nq)
      clear hd1 hd2 S3
      generalize wp.drewN nq = wo at *
      have hcp := run_copy_row Tryd.prog wo.drew 43 43 3 28 (w.heap.size + 1 + 1) 1 7 7 ⟨w.heap.size + 1 + 1, 0, none⟩ 7 8 #[.int .u32 v0, .int .u32 v1, .int .u32 v2, .int .u32 v3, .int .u32 v4, .int .u32 v5, .int .u32 v6, .int .u32 v7] 29 [.int .u32 v0, .int .u32 v1, .int .u32 v2, .int .u32 v3, .int .u32 v4, .int .u32 v5, .int .u32 v6] un43 size28 S4.out.blk rfl (fun j u hu => by
        rw [show (⟨w.heap.size + 1 + 1, 0, none⟩ : Addr).add j = ⟨w.heap.size + 1 + 1, j, none⟩ by rw [Addr.add_mid, Nat.zero_add], show wo.drew.cell? ⟨w.heap.size + 1 + 1, j, none⟩ = wo.cell? ⟨w.heap.size + 1 + 1, j, none⟩ from rfl, blk_cell S4.out.blk j]
        rcases j with _ | _ | _ | _ | _ | _ | _ | j <;> simp_all) (by simp) (by intro v hv; simp at hv; rcases hv with rfl | rfl | rfl | rfl | rfl | rfl | rfl <;> rfl)
      go_region_held3 (fun w' => True) (first | trivial | fail "no keep") ((first | (go_at_call 99; skip)))
      go_upto_region 9 with (fail)
      have hcb := setRow_heap wo.drew (w.heap.size + 1 + 1) _ (#[.int .u32 v0, .int .u32 v0, .int .u32 v1, .int .u32 v2, .int .u32 v3, .int .u32 v4, .int .u32 v5, .int .u32 v6] : Array Value) 29 (0, 0) S4.out.blk
      have hbl : Below w.heap.size w (wo.drew.setRow (w.heap.size + 1 + 1) #[.int .u32 v0, .int .u32 v0, .int .u32 v1, .int .u32 v2, .int .u32 v3, .int .u32 v4, .int .u32 v5, .int .u32 v6]) := below_setRow (below_drew S4.out.bel) (by omega) _
      clear hcp
      have HN := Aside0.mk (fun x y => StepSt.next S4.out hlt x y)
      generalize wo.drew.setRow (w.heap.size + 1 + 1) #[.int .u32 v0, .int .u32 v0, .int .u32 v1, .int .u32 v2, .int .u32 v3, .int .u32 v4, .int .u32 v5, .int .u32 v6] = wn at *
      have he4 : wn.cell? ⟨w.heap.size + 1 + 1, 4, none⟩ = some (.int .u32 v3) := by rw [blk_cell hcb 4]; rfl
      have he0 : wn.cell? ⟨w.heap.size + 1 + 1, 0, none⟩ = some (.int .u32 v0) := by rw [blk_cell hcb 0]; rfl
      have hf4 : wn.frozen? ⟨w.heap.size + 1 + 1, 4, none⟩ = false := blk_frozen hcb 4
      have hf0 : wn.frozen? ⟨w.heap.size + 1 + 1, 0, none⟩ = false := blk_frozen hcb 0
      have HCB := Aside0.mk (And.intro hcb hbl)
      clear hcb hbl
      go_wp2_with fail
      go_roundw
      case rel => 
        have hr : rs.getD t 0 = rs[t] := by simp [List.getD_eq_getElem?_getD, hrs, hlt]
        have hw : W.getD t 0 = W[t] := by simp [List.getD_eq_getElem?_getD, hWl, hlt]
        exact ⟨t + 1, by omega, by go_num, ⟨_, _, _, _, _, _, _, _, HN.out _ _ (by unfold stUp; rw [hr, hw]) (by unfold stUp stDown; rw [hr, hw])⟩⟩
      case measure => simp [intOf]; omega
    · obtain rfl : t = 64 := by omega
      have A0 : Aside0 (AddSt w wr [v0, v1, v2, v3, v4, v5, v6, v7] [a0, a1, a2, a3, a4, a5, a6, a7] 0 [v0, v1, v2, v3, v4, v5, v6, v7]) := ⟨rfl, rfl, S.out.blk, S.out.src, S.out.res, S.out.bel, fun i h => absurd h (Nat.not_lt_zero _), fun i _ => rfl⟩
      have HE := Aside0.mk (show [v0, v1, v2, v3, v4, v5, v6, v7] = stGo rs W 64 0 a0 a1 a2 a3 a4 a5 a6 a7 from S.out.eq)
      clear S
      go_wp2_with fail
      go_loopw [77] (fun i wr => ∃ t : Nat, t ≤ 8 ∧ i = .int .i64 t ∧ Aside0 (∃ xs, AddSt w wr [v0, v1, v2, v3, v4, v5, v6, v7] [a0, a1, a2, a3, a4, a5, a6, a7] t xs)) (fun i _ => 8 - (intOf i).toNat)
      case atStart => exact ⟨0, by omega, rfl, ⟨_, A0.out⟩⟩
      case round =>
        clear A0 h64 hlt
        obtain ⟨t, h64, rfl, HS⟩ := hrel
        obtain ⟨xs, hS⟩ := HS.out
        have S := Aside0.mk hS
        clear hS HS
        by_cases hlt : t < 8
        · have hb5 : (0 : Int) ≤ (t : Int) := by omega
          have hb6 : (t : Int) < 8 := by omega
          obtain ⟨x, hx⟩ : ∃ x, xs.getD t 0 = x := ⟨_, rfl⟩
          obtain ⟨y, hy⟩ : ∃ y, ([a0, a1, a2, a3, a4, a5, a6, a7] : List Int).getD t 0 = y := ⟨_, rfl⟩
          have hc := S.out.blk.cell t (by rw [S.out.len]; exact hlt)
          have hd := S.out.src.cell t (by rw [S.out.slen]; exact hlt)
          have hf := S.out.blk.frozen t
          rw [hx] at hc
          rw [hy] at hd
          have HX := Aside0.mk (And.intro hx hy)
          clear hx hy
          go_upto_region 15 with (fail)
          go_still_tail 8, (by kernel_rfl)
          go_wp2_with fail
          refine ⟨⟨_, _, _, _, _, _, _, _, _, _, _, _, _, ?rel, rfl⟩, ?measure⟩
          case rel => exact ⟨t + 1, by omega, by go_num, ⟨_, (S.out.step hlt _ (by rw [HX.out.1, HX.out.2])).drew⟩⟩
          case measure => simp [intOf]; omega
        · obtain rfl : t = 8 := by omega
          have hl := S.out.len
          have hbk : wr.heap[w.heap.size + 1 + 1]? = some (.cells (nums .u32 xs).toArray 29 (0, 0)) := S.out.blk
          have hre := S.out.res
          have hi : (Tryd.prog.info? 29).map (·.size) = some (nums .u32 xs).toArray.size := by rw [size29]; simp [nums, hl]
          have hsz : (#[.int .u32 0, .int .u32 0, .int .u32 0, .int .u32 0, .int .u32 0, .int .u32 0, .int .u32 0, .int .u32 0] : Array Value).size = (nums .u32 xs).toArray.size := by simp [nums, hl]
          have h1 := one_nums xs
          have eq := S.out.fin rfl
          have HL := Aside0.mk (And.intro hbk (And.intro hre (And.intro hi (And.intro hsz (And.intro h1 (And.intro hl eq))))))
          clear hbk hre hi hsz h1 hl eq
          go_wp2_with (first
            | (refine wpList_load_row rfl 29 _ rfl (w.heap.size + 1 + 1) rfl 29 _ (0, 0) _ HL.out.1 un29 rfl HL.out.2.2.1 ?_)
            | (refine wpList_store_row rfl 29 _ _ rfl (w.heap.size + 1) (nums .u32 xs).toArray rfl rfl 29 _ HL.out.2.1 HL.out.2.2.1 HL.out.2.2.2.1 HL.out.2.2.2.2.1 ?_))
          have hfin : (wr.setRow (w.heap.size + 1) (nums .u32 xs).toArray).heap[w.heap.size + 1]? = some (.cells (nums .u32 xs).toArray 29 (0, 0)) := setRow_heap wr (w.heap.size + 1) _ _ 29 (0, 0) HL.out.2.1
          have hbl : Below w.heap.size w (wr.setRow (w.heap.size + 1) (nums .u32 xs).toArray) := below_setRow S.out.bel (by omega) _
          exact bodyPost_ret (v := .agg (nums .u32 xs).toArray) (results_c (p := 4) (ty := 29) (by kernel_rfl) _ _ (w.heap.size + 1) 29 _ (0, 0) _ rfl hfin un29 rfl HL.out.2.2.1) rfl ⟨by rw [HL.out.2.2.2.2.2.2, HE.out, ← HW.out]; rfl, hbl⟩
end Go.Proofs.YtfjglhhandjahaaDoor.Sha
