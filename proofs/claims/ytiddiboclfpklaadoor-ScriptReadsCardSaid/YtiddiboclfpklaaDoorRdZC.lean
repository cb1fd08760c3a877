/- Lemmas that the claim's theorem uses. -/
import Derived.Test.YtiddiboclfpklaaDoorRdZB
import Derived.Test.YtiddiboclfpklaaDoorRdU
namespace Go.Proofs.YtiddiboclfpklaaDoor.Tz
open Go.RowKit Go.Proofs.YtiddiboclfpklaaDoorW.PrintWords Go.Proofs.YtiddiboclfpklaaDoor.PScriptReads Go.Proofs.YtiddiboclfpklaaDoor.Tx
set_option linter.unusedVariables false
set_option linter.unusedSimpArgs false
theorem lines_okL (s : ByteArray) : ∀ l ∈ (linesF s).1, okL l = true := by
 rcases linesF_form s with ⟨ho, h⟩ | ⟨h, _⟩
 ·rw [h]
  intro l hl
  obtain ⟨y, hy, rfl⟩ := List.mem_map.1 hl
  have h1 := List.all_eq_true.1 ho y hy
  unfold okRow at h1
  rw [Bool.and_eq_true] at h1
  have h2 := wordsF_length y.1
  unfold okL
  rw [h1.2]
  cases hw : wordsF y.1 with
  | nil => rw [hw] at h2; simp at h2
  | cons a b => rfl
 ·rw [h]; intro l hl; cases hl
theorem okL_pos {x : ByteArray} {r : List ByteArray} (h : okL (x :: r) = true) : ∀ y ∈ r, 0 < y.size := by
 intro y hy
 unfold okL at h
 rw [Bool.and_eq_true] at h
 have h1 := List.all_eq_true.1 h.2 y (List.mem_cons_of_mem _ hy)
 unfold plainF at h1
 rw [Bool.and_eq_true] at h1
 exact of_decide_eq_true h1.2
theorem textB_mem : ∀ (ls : List (List ByteArray)) (l : List ByteArray), l ∈ ls → (lineB l).length ≤ (textB ls).length
 | a :: ls, l, h => by
  unfold textB
  rw [List.flatMap_cons, List.length_append, List.length_append]
  rcases List.mem_cons.1 h with rfl | h
  ·omega
  ·have h2 := textB_mem ls l h
   unfold textB at h2
   omega
theorem lines_len (s : ByteArray) : ∀ l ∈ (linesF s).1, (lineB l).length ≤ s.size := by
 rcases linesF_form s with ⟨ho, h⟩ | ⟨h, _⟩
 ·rw [h]
  intro l hl
  have h1 := textB_mem _ l hl
  rw [(back_one s ho).2] at h1
  exact h1
 ·rw [h]; intro l hl; cases hl
theorem on49 : cs0.all (·.oneCell') = true := on62
theorem sz49 : (Tryd.prog.info? 49).map (·.size) = some 8 := by kernel_rfl
theorem ty57_49 : ∀ q : Nat, q ∈ 57 :: k57.E → q ≠ 49 := by
 intro q hq
 have h : q ∈ [57, 107, 116] := hq
 simp at h; omega
structure P4 (w w2 wr : World) (cs : Array Value) (v : Value) (acts : List S57) : Prop where
 box : wr.heap[w2.heap.size]? = some (.cells cs 49 (0, 0))
 res : wr.heap[w.heap.size]? = some (.cells cs0 49 (0, 0))
 row : Kd.R k57 57 wr w2.heap.size (fun _ => True) v acts
 bel : Below w2.heap.size w2 wr
 lt : w.heap.size < w2.heap.size
theorem P4.below {w w2 wr w4 : World} {cs : Array Value} {v : Value} {acts : List S57} (S : P4 w w2 wr cs v acts) (hB : Below wr.heap.size wr w4) : P4 w w2 w4 cs v acts :=
 ⟨blk_below S.box hB, blk_below S.res hB, Kd.R_below S.row hB, S.bel.trans (hB.mono S.bel.size), S.lt⟩
theorem P4.put {w w2 wr : World} {cs : Array Value} {v : Value} {acts : List S57} (S : P4 w w2 wr cs v acts) (j : Nat) (u : Value) : P4 w w2 (wr.setCell ⟨w2.heap.size, j, none⟩ u) (cs.setIfInBounds j u) v acts :=
 ⟨blk_set S.box j u, blk_far S.res (by have := S.lt; show w.heap.size ≠ w2.heap.size; omega) u, Kd.R_set S.row S.box ty57_49 j u, below_set S.bel (Nat.le_refl _), S.lt⟩
theorem P4.all {w w2 wr : World} {cs : Array Value} {v : Value} {acts : List S57} (S : P4 w w2 wr cs v acts) (hB : Below w.heap.size w w2) : Below w.heap.size w wr := hB.trans (S.bel.mono hB.size)
theorem P4.app {w w2 wr w4 : World} {cs : Array Value} {v v4 : Value} {acts as2 : List S57} (S : P4 w w2 wr cs v acts) (ho : Kd.R k57 57 w4 w2.heap.size (fun _ => True) v4 as2) (hb : Below w2.heap.size w2 w4) (hg : wr.grownBy w4 v.ownBlock) : P4 w w2 w4 cs v4 as2 :=
 ⟨blk_grown S.box hg (Kd.R_ne S.row S.box (by decide)), blk_grown S.res hg (Kd.R_ne S.row S.res (by decide)), ho, hb, S.lt⟩
theorem P4.put7 {w w2 wr : World} {g0 g1 g2 g3 g4 g5 : Int} {B : ByteArray} {v5 v : Value} {acts : List S57} (S : P4 w w2 wr (cells62 g0 g1 g2 g3 g4 g5 B v5) v acts) : P4 w w2 (wr.setCell ⟨w2.heap.size, 7, none⟩ v) (cells62 g0 g1 g2 g3 g4 g5 B v) v acts := S.put 7 v
structure QA (w w2 wr W : World) (h : Nat) (cs9 cs : Array Value) (v : Value) (acts : List S57) (v4 v8 : Value) (vs : List S107) (ms : List Int) : Prop where
 ps : P4 w w2 W cs v acts
 box : W.heap[h]? = some (.cells cs9 57 (0, 0))
 bel : Below wr.heap.size wr W
 r4 : Kd.R k107 107 W wr.heap.size (fun _ => True) v4 vs
 r8 : Kd.R (Kd.int .u32) 116 W wr.heap.size (fun _ => True) v8 ms
theorem QA.below {w w2 wr W W2 : World} {h : Nat} {cs9 cs : Array Value} {v : Value} {acts : List S57} {v4 v8 : Value} {vs : List S107} {ms : List Int} (S : QA w w2 wr W h cs9 cs v acts v4 v8 vs ms) (hB : Below W.heap.size W W2) : QA w w2 wr W2 h cs9 cs v acts v4 v8 vs ms :=
 ⟨S.ps.below hB, blk_below S.box hB, S.bel.trans (hB.mono S.bel.size), Kd.R_below S.r4 hB, Kd.R_below S.r8 hB⟩
theorem QA.drew {w w2 wr W : World} {h : Nat} {cs9 cs : Array Value} {v : Value} {acts : List S57} {v4 v8 : Value} {vs : List S107} {ms : List Int} (S : QA w w2 wr W h cs9 cs v acts v4 v8 vs ms) : QA w w2 wr W.drew h cs9 cs v acts v4 v8 vs ms := S.below (below_drew1 (Below.refl _ _))
theorem QA.drewN {w w2 wr W : World} {h : Nat} {cs9 cs : Array Value} {v : Value} {acts : List S57} {v4 v8 : Value} {vs : List S107} {ms : List Int} (S : QA w w2 wr W h cs9 cs v acts v4 v8 vs ms) (n : Nat) : QA w w2 wr (W.drewN n) h cs9 cs v acts v4 v8 vs ms := S.below (pw_below_drewN (Below.refl _ _) n)
def Parse40Post (w : World) (o : (List Int × ByteArray × List S66) × Int × Int) (e : Ending) (w' : World) : Prop :=
 (∃ g0 g1 g2 g3 g4 g5 B v acts n er, e = .returned (.tuple #[.agg (cells62 g0 g1 g2 g3 g4 g5 B v), .int .i64 n, .int .i64 er]) ∧ Kd.R k57 57 w' w.heap.size (fun _ => True) v acts ∧ o = (([g0, g1, g2, g3, g4, g5], B, acts.map act66), n, er)) ∧ Below w.heap.size w w'
theorem one_ready {P : Program} {md : Region.Mode} {l : List Oper} {Q : Exit → Act → World → Prop} {S : World → Prop} {fuel : Nat} {listed : Array Bool} {a : Act} {w : World} (i : Nat) {o : Oper}
  (hr : Region.ready md l.toArray listed = [i]) (ho : l[i]? = some o)
  (h : ∀ K' : Act → World → Prop, Shut (∀ a w, S w → (S w → wpAnyH P md l.toArray Q S fuel (listed.setIfInBounds i true) a w) → K' a w) → if Region.wanted o (yielded l.toArray a.tmps) = true then Oper.wp P o a w K' Q else K' (a.put o.dst undef) w) :
  wpAnyH P md l.toArray Q S (fuel + 1) listed a w := wpAnyH_ready hr (by simp) (AllReadyH.cons (by simpa using ho) h AllReadyH.nil)
theorem one_skip {P : Program} {md : Region.Mode} {l : List Oper} {Q : Exit → Act → World → Prop} {S : World → Prop} {fuel : Nat} {listed : Array Bool} {a : Act} {w : World} (i : Nat) {o : Oper}
  (hs : Region.noSelect l.toArray = true) (hf : Region.free md l.toArray listed i = true) (hr : (Region.ready md l.toArray listed).contains i = true)
  (ho : l[i]? = some o) (hQ : ∀ c a w, Q (.panic c) (a.put o.dst undef) w → Q (.panic c) a w) (hw : Region.wanted o (yielded l.toArray a.tmps) = false) (hS : S w)
  (h : wpAnyH P md l.toArray Q S fuel (listed.setIfInBounds i true) (a.put o.dst undef) w) : wpAnyH P md l.toArray Q S (fuel + 1) listed a w :=
 wpAnyH_take (by simpa using ho) hs hf hr hQ (Or.inr ⟨hw, rfl⟩) hS h
theorem info57 : (Tryd.prog.info? 57).map (fun i => (i.zero, i.size, i.bytes)) = some (some (.agg #[(.int .i64 0), (.int .i64 0), (.string ⟨#[]⟩), (.int .i64 0), (.slice none 0 0), (.bool false), (.bool false), (.int .i64 0), (.slice none 0 0)]), 9, 104) := by kernel_rfl
theorem sz57 : (Tryd.prog.info? 57).map (·.size) = some 9 := by kernel_rfl
theorem actD_40 (x : ByteArray) (r : List ByteArray) (a : S66) (h : act40 x r = a) (hs : (actP x r).isSome = true) : okAct (x :: r) = true ∧ actD (x :: r) = a := by
 obtain ⟨b, hb⟩ := Option.isSome_iff_exists.1 hs
 refine ⟨hs, ?_⟩
 show (actP x r).getD z66 = a
 rw [hb, ← h, act40_of x r b hb]
 rfl
theorem ty57_108 : ∀ q : Nat, q ∈ 57 :: k57.E → q ≠ 108 := by
 intro q hq
 have h : q ∈ [57, 107, 116] := hq
 simp at h; omega
theorem P4.far {w w2 W : World} {cs : Array Value} {v : Value} {acts : List S57} (S : P4 w w2 W cs v acts) {h : Nat} {ns : Array Value} (hb : W.heap[h]? = some (.cells ns 108 (0, 0))) (hne : w2.heap.size < h) (j : Nat) (u : Value) : P4 w w2 (W.setCell ⟨h, j, none⟩ u) cs v acts :=
 ⟨blk_far S.box (by show w2.heap.size ≠ h; omega) u, blk_far S.res (by have := S.lt; show w.heap.size ≠ h; omega) u, Kd.R_set S.row hb ty57_108 j u, below_set S.bel (Nat.le_of_lt hne), S.lt⟩
def nsAt (f : Nat → Int × Bool) (t : Nat) : List Int := (List.range 6).map (fun i => if i < t then (f i).1 else 0)
theorem nsAt_put (f : Nat → Int × Bool) (t : Nat) (h : t < 6) : (nsAt f t).set t (f t).1 = nsAt f (t + 1) := by
 match t, h with
 | 0, _ => rfl
 | 1, _ => rfl
 | 2, _ => rfl
 | 3, _ => rfl
 | 4, _ => rfl
 | 5, _ => rfl
 | n + 6, h => omega
theorem nsAt_get (f : Nat → Int × Bool) (t : Nat) (h : t < 6) : ((nsAt f t).map (Value.int .i64)).toArray[t]? = some (.int .i64 0) := by
 match t, h with
 | 0, _ => rfl
 | 1, _ => rfl
 | 2, _ => rfl
 | 3, _ => rfl
 | 4, _ => rfl
 | 5, _ => rfl
 | n + 6, h => omega
def okAt (f : Nat → Int × Bool) (b : Bool) : Nat → Bool
 | 0 => b
 | t + 1 => okAt f b t && (f t).2
theorem six_of (r : List ByteArray) (h : r.length = 6) : ∃ a b c d e f, r = [a, b, c, d, e, f] := by
 match r, h with
 | [a, b, c, d, e, f], _ => exact ⟨a, b, c, d, e, f, rfl⟩
theorem dev_ok (x : ByteArray) (r : List ByteArray) : okAt (fun i => numAt (x :: r) (i + 1)) ((x.toList == devW.toList) && decide (r.length = 6)) 6 = devOk x r := by
 unfold devOk
 by_cases h : r.length = 6
 ·obtain ⟨a, b, c, d, e, f, rfl⟩ := six_of r h
  simp [okAt, numAt]
  cases x.toList == devW.toList <;> cases isNum a <;> cases isNum b <;> cases isNum c <;> cases isNum d <;> cases isNum e <;> cases isNum f <;> rfl
 ·simp [okAt, h]
theorem dev_nums (x : ByteArray) (r : List ByteArray) (h : devOk x r = true) : nsAt (fun i => numAt (x :: r) (i + 1)) 6 = r.map numOf := by
 unfold devOk at h
 rw [Bool.and_eq_true, Bool.and_eq_true] at h
 obtain ⟨a, b, c, d, e, f, rfl⟩ := six_of r (of_decide_eq_true h.2.2)
 rfl
structure QD (w w2 wo W : World) (v : Value) (ns : List Int) : Prop where
 ps : P4 w w2 W (cells62 0 0 0 0 0 0 ⟨#[]⟩ v) v []
 box : W.heap[wo.heap.size]? = some (.cells (ns.map (Value.int .i64)).toArray 108 (0, 0))
 bel : Below wo.heap.size wo W
 lt : w2.heap.size < wo.heap.size
theorem QD.below {w w2 wo W W2 : World} {v : Value} {ns : List Int} (S : QD w w2 wo W v ns) (hB : Below W.heap.size W W2) : QD w w2 wo W2 v ns :=
 ⟨S.ps.below hB, blk_below S.box hB, S.bel.trans (hB.mono S.bel.size), S.lt⟩
theorem QD.put {w w2 wo W : World} {v : Value} {ns : List Int} (S : QD w w2 wo W v ns) (t : Nat) (n : Int) : QD w w2 wo (W.setCell ⟨wo.heap.size, t, none⟩ (.int .i64 n)) v (ns.set t n) :=
 ⟨S.ps.far S.box S.lt t _, by
  have h := blk_set S.box t (.int .i64 n)
  rw [show (ns.map (Value.int .i64)).toArray.setIfInBounds t (.int .i64 n) = ((ns.set t n).map (Value.int .i64)).toArray by simp [List.map_set]] at h
  exact h, below_set S.bel (Nat.le_refl _), S.lt⟩
theorem QD.step {w w2 wo W : World} {v : Value} {f : Nat → Int × Bool} {t : Nat} (S : QD w w2 wo W v (nsAt f t)) (h : t < 6) : QD w w2 wo (W.setCell ⟨wo.heap.size, t, none⟩ (.int .i64 (f t).1)) v (nsAt f (t + 1)) := by
 have h1 := S.put t (f t).1
 rw [nsAt_put f t h] at h1
 exact h1
theorem QD.new {w w2 wo : World} {v : Value} (S : P4 w w2 wo (cells62 0 0 0 0 0 0 ⟨#[]⟩ v) v []) (f : Nat → Int × Bool) : QD w w2 wo (wo.alloc (.cells #[.int .i64 0, .int .i64 0, .int .i64 0, .int .i64 0, .int .i64 0, .int .i64 0] 108)) v (nsAt f 0) :=
 ⟨S.below (below_alloc (Below.refl _ _) _), blk_new wo _, below_alloc (Below.refl _ _) _, blk_lt S.box⟩
set_option maxHeartbeats 4000000 in
set_option maxRecDepth 100000 in
theorem parse40_calls (s : ByteArray) (hs : s.size ≤ 16000000) (w : World) (o : (List Int × ByteArray × List S66) × Int × Int) (HO : Aside0 (parseP s = o)) : Calls Tryd.prog 34 #[.string s] w (Parse40Post w o) := by
 have HL : Aside0 (∀ W, Calls Tryd.prog 20 #[.string s] W fun e w' => (∃ A c, e = .returned (.tuple #[.slice A (linesF s).1.length c, .int .i64 (linesF s).2.1, .int .i64 (linesF s).2.2]) ∧ Kd.C (Kd.slice 9 Kd.string) w' A (linesF s).1.length (linesF s).1) ∧ Below W.heap.size W w') := ⟨fun W => (r04_lines_calls s (by omega) W).mono (by
  rintro e w' ⟨v, rfl, hv, hB⟩
  obtain ⟨A, c, rfl, _, h⟩ := Kd.S_reads hv
  exact ⟨⟨A, c, rfl, h⟩, hB⟩)⟩
 have HOK := Aside0.mk (linesF_rows s hs)
 have HOL := Aside0.mk (lines_okL s)
 have HLB : Aside0 (∀ l ∈ (linesF s).1, (lineB l).length ≤ 16000000) := ⟨fun l hl => Nat.le_trans (lines_len s l hl) hs⟩
 have hform : (linesF s).2.2 = 0 ∨ (linesF s).2.2 = 4 := by
  rcases linesF_form s with ⟨_, h⟩ | ⟨_, h⟩
  ·exact .inl (by rw [h])
  ·exact .inr h
 unfold parseP at HO
 obtain ⟨rows, hrows⟩ : ∃ rows, (linesF s).1 = rows := ⟨_, rfl⟩
 obtain ⟨ln, hln⟩ : ∃ ln, (linesF s).2.1 = ln := ⟨_, rfl⟩
 obtain ⟨le, hle⟩ : ∃ le, (linesF s).2.2 = le := ⟨_, rfl⟩
 rw [hrows, hln, hle] at HL HO
 rw [hrows] at HOK HOL HLB
 rw [hle] at hform
 clear hrows hln hle hs
 have HB := Aside0.mk (Below.alloc (Below.refl w.heap.size w) (Nat.le_refl _) (.cells #[.int .i64 0, .int .i64 0, .int .i64 0, .int .i64 0, .int .i64 0, .int .i64 0, .string ⟨#[]⟩, .slice none 0 0] 49))
 have K0 := Aside0.mk (blk_new w (.cells cs0 49))
 rcases hform with rfl | rfl
 case inr =>
  have HO2 : Aside0 (o = (scr0, ln, 4)) := ⟨HO.out.symm⟩
  clear HO HOK HOL HLB
  go_enter Tryd.func34, Tryd.ntmps34
  go_wp2_with (first
   | (go_at_call 20; refine (HL.out _).mono ?_; rintro e w2 ⟨⟨A, c, rfl, _⟩, hB⟩; have K2 := Aside0.mk (blk_below K0.out hB); have B2 := Aside0.mk (HB.out.trans (hB.mono HB.out.size)); clear hB)
   | ((with_reducible refine gate_st (t := 49) rfl rfl ?_); intro h1_ h2_; refine wpList_store_row h1_ 49 _ _ h2_ w.heap.size cs0 rfl rfl 49 cs0 K2.out sz49 rfl on49 ?_; rw [setRow_self _ _ cs0 _ _ K2.out]))
  refine bodyPost_ret (results_ctt rfl _ _ w.heap.size 49 cs0 (0, 0) _ rfl K2.out Tryd.underlying49 rfl sz49) rfl ?_
  exact ⟨⟨0, 0, 0, 0, 0, 0, ⟨#[]⟩, .slice none 0 0, [], ln, 4, rfl, Kd.R_nil _ _ _ _ _, HO2.out⟩, B2.out⟩
 case inl =>
 replace HO : Aside0 (rowsP rows = o) := ⟨HO.out⟩
 obtain ⟨N, hN⟩ : ∃ N, rows.length = N := ⟨_, rfl⟩
 rw [hN] at HL
 have HLN := Aside0.mk hN
 have hNb : N ≤ 16777216 := by rw [← hN]; exact HOK.out.len
 clear hN
 go_enter Tryd.func34, Tryd.ntmps34
 go_wp2_with (go_at_call 20; refine (HL.out _).mono ?_; rintro e w2 ⟨⟨A, c, rfl, hC⟩, hB⟩; have HR := Aside0.mk hC; have K2 := Aside0.mk (blk_below K0.out hB); have B2 := Aside0.mk (HB.out.trans (hB.mono HB.out.size)); clear hB hC)
 have S0 : Aside0 (P4 w w2 (w2.alloc (.cells (cells62 0 0 0 0 0 0 ⟨#[]⟩ (.slice none 0 0)) 49)) (cells62 0 0 0 0 0 0 ⟨#[]⟩ (.slice none 0 0)) (.slice none 0 0) []) := ⟨⟨blk_new _ _, blk_alloc K2.out _, Kd.R_nil _ _ _ _ _, below_alloc (Below.refl _ _) _, blk_lt K2.out⟩⟩
 go_loopw [9] (fun i wr => ∃ t : Nat, t ≤ N ∧ i = .int .i64 (t : Int) ∧ Aside0 (∃ g0 g1 g2 g3 g4 g5 B v acts, P4 w w2 wr (cells62 g0 g1 g2 g3 g4 g5 B v) v acts ∧ Got rows t [g0, g1, g2, g3, g4, g5] B (acts.map act66))) (fun i _ => N - (intOf i).toNat)
 case atStart => exact ⟨0, by omega, rfl, ⟨_, _, _, _, _, _, _, _, _, S0.out, .zero⟩⟩
 case round =>
  clear S0 K2 HL HB K0
  obtain ⟨t, ht, rfl, S⟩ := hrel
  obtain ⟨g0, g1, g2, g3, g4, g5, B, v, acts, hS, hG⟩ := S.out
  clear S
  have S := Aside0.mk hS
  clear hS
  by_cases hlt : t < N
  ·have hb5 : (0 : Int) ≤ (t : Int) := by omega
   have hb6 : (t : Int) < (N : Int) := by omega
   obtain ⟨ad, cs, rfl, _, ⟨Ae, ce, rfl, hce, hCe⟩, hcell⟩ := Kd.C_get HR.out [] (t : Int) hb5 hb6
   rw [Int.toNat_natCast] at hce hCe hcell
   have htl : t < rows.length := by rw [HLN.out]; exact hlt
   obtain ⟨row, hrow⟩ : ∃ row, rows.getD t [] = row := ⟨_, rfl⟩
   rw [hrow] at hce hCe hcell
   have hre : rows[t] = row := by rw [← hrow]; simp [htl]
   have hmem : row ∈ rows := by rw [← hre]; exact List.getElem_mem htl
   have hne := HOK.out.ne row hmem
   have hrl := HOK.out.row row hmem
   have hwd := HOK.out.word row hmem
   obtain ⟨x, r, rfl⟩ : ∃ x r, row = x :: r := by
    cases row with
    | nil => exact absurd rfl hne
    | cons x r => exact ⟨x, r, rfl⟩
   have hc0 : wr.cell? (ad.add t) = some (.slice Ae (r.length + 1) ce) := pw_cell_below S.out.bel (by
    have h := hcell 0 _ rfl
    rw [show t * (Kd.slice 9 Kd.string).sz + 0 = t from Nat.mul_one t] at h
    exact h)
   replace hrl : r.length ≤ 16777216 := by simp at hrl; omega
   have HX := Aside0.mk (And.intro hce (And.intro hCe hwd))
   clear hcell hrow hmem hne hce hCe hwd
   generalize hgs : [g0, g1, g2, g3, g4, g5] = gs at hG
   generalize hga : acts.map act66 = al at hG
   cases hG with
   | zero =>
    simp only [List.cons.injEq, and_true] at hgs
    obtain ⟨rfl, rfl, rfl, rfl, rfl, rfl⟩ := hgs
    obtain rfl : acts = [] := List.map_eq_nil_iff.1 hga
    obtain ⟨ls, hls⟩ : ∃ ls, rows = (x :: r) :: ls := by
     match rows, htl, hre with
     | a :: l, _, h => exact ⟨l, by rw [show a = x :: r from h]⟩
    obtain ⟨ad0, hA0, hx0⟩ := Kd.at_string HX.out.2.1 0 (by omega) (by simp)
    subst hA0
    have hx1 : wr.cell? ad0 = some (.string x) := pw_cell_below S.out.bel (by
     rw [show (0 : Int).toNat = 0 from rfl, Addr.add_zero'] at hx0
     exact hx0)
    have hc1 : wr.cell? ad = some (.slice (some ad0) (r.length + 1) ce) := by
     have h := hc0
     rw [Addr.add_zero'] at h
     exact h
    have hu46 := Tryd.underlying46
    have hu108 := Tryd.underlying108
    have h0N : (0 : Int) < (N : Int) := hb6
    have HLS := Aside0.mk hls
    obtain ⟨f, hf⟩ : ∃ f : Nat → Int × Bool, (fun i => numAt (x :: r) (i + 1)) = f := ⟨_, rfl⟩
    have HNum : Aside0 (∀ (W : World) (t : Nat), Below wr.heap.size wr W → Calls Tryd.prog 66 #[.slice (some ad0) (r.length + 1) ce, .int .i64 ((t : Int) + 1)] W fun e w' => e = .returned (.tuple #[.int .i64 (f t).1, .bool (f t).2]) ∧ Below W.heap.size W w') := ⟨fun W t hb => by
     have h := number_calls (x :: r) (some ad0) ce (t + 1) W (Kd.C_below HX.out.2.1 (S.out.bel.trans (hb.mono S.out.bel.size)))
     rw [← hf]
     exact h⟩
    obtain ⟨dv, hdv⟩ : ∃ dv, (x.toList == devW.toList) = dv := ⟨_, rfl⟩
    have hok0 : okAt f (dv && decide (r.length = 6)) 6 = devOk x r := by rw [← hf, ← hdv]; exact dev_ok x r
    have HNF : Aside0 (devOk x r = true → nsAt f 6 = r.map numOf) := ⟨fun h => by rw [← hf]; exact dev_nums x r h⟩
    rw [devW_list] at hdv
    clear hc0 htl hre hrl hls hx0 hf
    obtain ⟨A5, c5, rfl⟩ := Kd.R_slice S.out.row
    generalize wr = wo at *
    have S0 := Aside0.mk (QD.new S.out f)
    have ha0 := pw_cell_below S0.out.bel hx1
    have ha1 := pw_cell_below S0.out.bel hc1
    have HC1 := Aside0.mk hc1
    by_cases hl6 : r.length = 6
    ·rw [decide_eq_true hl6, Bool.and_true] at hok0
     have HOK0 := Aside0.mk hok0
     have hl7 : r.length + 1 = 7 := by omega
     rw [hl7] at hc1 ha1 HC1 HNum
     clear hok0 hl6 hl7
     go_wp2_with fail
     go_loopw [10, 12] (fun q i wr => ∃ (t : Nat) (b : Bool), t ≤ 6 ∧ q = .bool b ∧ i = .int .i64 (t : Int) ∧ Aside0 (QD w w2 wo wr (.slice A5 0 c5) (nsAt f t) ∧ okAt f dv t = b)) (fun _ i _ => 6 - (intOf i).toNat)
     case atStart => exact ⟨0, _, by omega, rfl, rfl, ⟨S0.out, rfl⟩⟩
     case round =>
      clear S0 ha0 ha1 hc1 hx1
      obtain ⟨t, b, ht, rfl, rfl, S⟩ := hrel
      have hcS : wr.cell? ad = some (.slice (some ad0) 7 ce) := pw_cell_below S.out.1.bel HC1.out
      by_cases hlt : t < 6
      ·have hb5 : (0 : Int) ≤ (t : Int) := by omega
       have hb6 : (t : Int) < 6 := by omega
       obtain ⟨n, hn⟩ : ∃ n, (f t).1 = n := ⟨_, rfl⟩
       obtain ⟨b2, hb2⟩ : ∃ b2, (f t).2 = b2 := ⟨_, rfl⟩
       have HNk : Aside0 (∀ W, Below wo.heap.size wo W → Calls Tryd.prog 66 #[.slice (some ad0) 7 ce, .int .i64 ((t : Int) + 1)] W fun e w' => e = .returned (.tuple #[.int .i64 n, .bool b2]) ∧ Below W.heap.size W w') := ⟨fun W hb => by rw [← hn, ← hb2]; exact HNum.out W t hb⟩
       have HT := Aside0.mk (And.intro hn hb2)
       clear hn hb2
       cases b with
       | false =>
        go_wp2_with (go_at_call 66; (with_reducible refine (HNk.out _ S.out.1.bel).mono ?_); rintro e w5 ⟨rfl, hB⟩; have S5 := Aside0.mk (S.out.1.below hB); have q5 : w5.cell? ⟨wo.heap.size, t, none⟩ = some (.int .i64 0) := (blk_cell S5.out.box t).trans (nsAt_get f t hlt); have f5 := blk_frozen S5.out.box t; have S7 : Aside0 (QD w w2 wo (w5.setCell ⟨wo.heap.size, t, none⟩ (.int .i64 n)) (.slice A5 0 c5) (nsAt f (t + 1))) := ⟨by have h := S5.out.step hlt; rw [HT.out.1] at h; exact h⟩; clear hB)
        refine ⟨?_, ?measure⟩
        repeat apply Exists.intro
        refine ⟨?rel, rfl⟩
        case rel => exact ⟨t + 1, false, by omega, rfl, by go_num, ⟨S7.out, by rw [okAt, S.out.2]; rfl⟩⟩
        case measure => show 6 - ((t : Int) + 1).toNat < 6 - (t : Int).toNat; omega
       | true =>
        go_wp2_with (go_at_call 66; (with_reducible refine (HNk.out _ S.out.1.bel).mono ?_); rintro e w5 ⟨rfl, hB⟩; have S5 := Aside0.mk (S.out.1.below hB); have q5 : w5.cell? ⟨wo.heap.size, t, none⟩ = some (.int .i64 0) := (blk_cell S5.out.box t).trans (nsAt_get f t hlt); have f5 := blk_frozen S5.out.box t; have S7 : Aside0 (QD w w2 wo (w5.setCell ⟨wo.heap.size, t, none⟩ (.int .i64 n)) (.slice A5 0 c5) (nsAt f (t + 1))) := ⟨by have h := S5.out.step hlt; rw [HT.out.1] at h; exact h⟩; clear hB)
        refine ⟨?_, ?measure⟩
        repeat apply Exists.intro
        refine ⟨?rel, rfl⟩
        case rel => exact ⟨t + 1, b2, by omega, rfl, by go_num, ⟨S7.out, by rw [okAt, S.out.2, HT.out.2]; rfl⟩⟩
        case measure => show 6 - ((t : Int) + 1).toNat < 6 - (t : Int).toNat; omega
      ·obtain rfl : t = 6 := by omega
       obtain ⟨n0, hn0⟩ : ∃ n, (f 0).1 = n := ⟨_, rfl⟩
       obtain ⟨n1, hn1⟩ : ∃ n, (f 1).1 = n := ⟨_, rfl⟩
       obtain ⟨n2, hn2⟩ : ∃ n, (f 2).1 = n := ⟨_, rfl⟩
       obtain ⟨n3, hn3⟩ : ∃ n, (f 3).1 = n := ⟨_, rfl⟩
       obtain ⟨n4, hn4⟩ : ∃ n, (f 4).1 = n := ⟨_, rfl⟩
       obtain ⟨n5, hn5⟩ : ∃ n, (f 5).1 = n := ⟨_, rfl⟩
       have HNS : Aside0 (nsAt f 6 = [n0, n1, n2, n3, n4, n5]) := ⟨by rw [← hn0, ← hn1, ← hn2, ← hn3, ← hn4, ← hn5]; rfl⟩
       have S6 : Aside0 (QD w w2 wo wr (.slice A5 0 c5) [n0, n1, n2, n3, n4, n5]) := ⟨by have h := S.out.1; rw [HNS.out] at h; exact h⟩
       clear hn0 hn1 hn2 hn3 hn4 hn5 ht hlt
       have z0 : wr.cell? ⟨w2.heap.size, 0, none⟩ = some (.int .i64 0) := (blk_cell S6.out.ps.box 0).trans rfl
       have f0 := blk_frozen S6.out.ps.box 0
       have k0 : wr.cell? ⟨wo.heap.size, 0, none⟩ = some (.int .i64 n0) := (blk_cell S6.out.box 0).trans rfl
       have z1 : wr.cell? ⟨w2.heap.size, 1, none⟩ = some (.int .i64 0) := (blk_cell S6.out.ps.box 1).trans rfl
       have f1 := blk_frozen S6.out.ps.box 1
       have k1 : wr.cell? ⟨wo.heap.size, 1, none⟩ = some (.int .i64 n1) := (blk_cell S6.out.box 1).trans rfl
       have z2 : wr.cell? ⟨w2.heap.size, 2, none⟩ = some (.int .i64 0) := (blk_cell S6.out.ps.box 2).trans rfl
       have f2 := blk_frozen S6.out.ps.box 2
       have k2 : wr.cell? ⟨wo.heap.size, 2, none⟩ = some (.int .i64 n2) := (blk_cell S6.out.box 2).trans rfl
       have z3 : wr.cell? ⟨w2.heap.size, 3, none⟩ = some (.int .i64 0) := (blk_cell S6.out.ps.box 3).trans rfl
       have f3 := blk_frozen S6.out.ps.box 3
       have k3 : wr.cell? ⟨wo.heap.size, 3, none⟩ = some (.int .i64 n3) := (blk_cell S6.out.box 3).trans rfl
       have z4 : wr.cell? ⟨w2.heap.size, 4, none⟩ = some (.int .i64 0) := (blk_cell S6.out.ps.box 4).trans rfl
       have f4 := blk_frozen S6.out.ps.box 4
       have k4 : wr.cell? ⟨wo.heap.size, 4, none⟩ = some (.int .i64 n4) := (blk_cell S6.out.box 4).trans rfl
       have z5 : wr.cell? ⟨w2.heap.size, 5, none⟩ = some (.int .i64 0) := (blk_cell S6.out.ps.box 5).trans rfl
       have f5 := blk_frozen S6.out.ps.box 5
       have k5 : wr.cell? ⟨wo.heap.size, 5, none⟩ = some (.int .i64 n5) := (blk_cell S6.out.box 5).trans rfl
       have S5 : Aside0 (P4 w w2 ((((((wr.setCell ⟨w2.heap.size, 0, none⟩ (.int .i64 n0)).setCell ⟨w2.heap.size, 1, none⟩ (.int .i64 n1)).setCell ⟨w2.heap.size, 2, none⟩ (.int .i64 n2)).setCell ⟨w2.heap.size, 3, none⟩ (.int .i64 n3)).setCell ⟨w2.heap.size, 4, none⟩ (.int .i64 n4)).setCell ⟨w2.heap.size, 5, none⟩ (.int .i64 n5)) (cells62 n0 n1 n2 n3 n4 n5 ⟨#[]⟩ (.slice A5 0 c5)) (.slice A5 0 c5) []) := ⟨((((((S6.out.ps.put 0 (.int .i64 n0)).put 1 (.int .i64 n1)).put 2 (.int .i64 n2)).put 3 (.int .i64 n3)).put 4 (.int .i64 n4)).put 5 (.int .i64 n5))⟩
       cases b with
       | false =>
        have HO2 : Aside0 (o = (scr0, 1, 4)) := ⟨by rw [← HO.out, HLS.out]; exact rowsP_dev _ _ (by show devOk x r = false; rw [← HOK0.out]; exact S.out.2)⟩
        go_wp2_with ((with_reducible refine gate_st (t := 49) rfl rfl ?_); intro h1_ h2_; refine wpList_store_row h1_ 49 _ _ h2_ w.heap.size cs0 rfl rfl 49 cs0 S5.out.res sz49 rfl on49 ?_; rw [setRow_self _ _ cs0 _ _ S5.out.res])
        refine bodyPost_ret (results_ctt rfl _ _ w.heap.size 49 cs0 (0, 0) _ rfl S5.out.res Tryd.underlying49 rfl sz49) rfl ?_
        exact ⟨⟨0, 0, 0, 0, 0, 0, ⟨#[]⟩, .slice none 0 0, [], 1, 4, by first | rfl | (simp; done) | (go_num; done), Kd.R_nil _ _ _ _ _, HO2.out⟩, S5.out.all B2.out⟩
       | true =>
        have HDV : Aside0 (devOk x r = true) := ⟨by rw [← HOK0.out]; exact S.out.2⟩
        go_wp2_with fail
        refine ⟨⟨0 + 1, by omega, by go_num, ⟨⟨_, _, _, _, _, _, _, _, _, S5.out, by rw [← HNS.out, HNF.out HDV.out]; exact Got.one (x :: r) ls HLS.out HDV.out⟩⟩⟩, ?_⟩
        simp [intOf]; omega
    ·rw [decide_eq_false hl6, Bool.and_false] at hok0
     have HOK0 := Aside0.mk hok0
     have hl2 : (((r.length + 1 : Nat) : Int) == 7) = false := beq_eq_false_iff_ne.2 (by omega)
     have hl3 : ((r.length : Int) + 1 == 7) = false := beq_eq_false_iff_ne.2 (by omega)
     clear hok0 hl6
     go_wp2_with fail
     go_loopw [10, 12] (fun q i wr => ∃ (t : Nat) (b : Bool), t ≤ 6 ∧ q = .bool b ∧ i = .int .i64 (t : Int) ∧ Aside0 (QD w w2 wo wr (.slice A5 0 c5) (nsAt f t) ∧ okAt f false t = b)) (fun _ i _ => 6 - (intOf i).toNat)
     case atStart => exact ⟨0, _, by omega, rfl, rfl, ⟨S0.out, rfl⟩⟩
     case round =>
      clear S0 ha0 ha1 hc1 hx1
      obtain ⟨t, b, ht, rfl, rfl, S⟩ := hrel
      have hcS : wr.cell? ad = some (.slice (some ad0) (r.length + 1) ce) := pw_cell_below S.out.1.bel HC1.out
      by_cases hlt : t < 6
      ·have hb5 : (0 : Int) ≤ (t : Int) := by omega
       have hb6 : (t : Int) < 6 := by omega
       obtain ⟨n, hn⟩ : ∃ n, (f t).1 = n := ⟨_, rfl⟩
       obtain ⟨b2, hb2⟩ : ∃ b2, (f t).2 = b2 := ⟨_, rfl⟩
       have HNk : Aside0 (∀ W, Below wo.heap.size wo W → Calls Tryd.prog 66 #[.slice (some ad0) (r.length + 1) ce, .int .i64 ((t : Int) + 1)] W fun e w' => e = .returned (.tuple #[.int .i64 n, .bool b2]) ∧ Below W.heap.size W w') := ⟨fun W hb => by rw [← hn, ← hb2]; exact HNum.out W t hb⟩
       have HT := Aside0.mk (And.intro hn hb2)
       clear hn hb2
       cases b with
       | false =>
        go_wp2_with (go_at_call 66; (with_reducible refine (HNk.out _ S.out.1.bel).mono ?_); rintro e w5 ⟨rfl, hB⟩; have S5 := Aside0.mk (S.out.1.below hB); have q5 : w5.cell? ⟨wo.heap.size, t, none⟩ = some (.int .i64 0) := (blk_cell S5.out.box t).trans (nsAt_get f t hlt); have f5 := blk_frozen S5.out.box t; have S7 : Aside0 (QD w w2 wo (w5.setCell ⟨wo.heap.size, t, none⟩ (.int .i64 n)) (.slice A5 0 c5) (nsAt f (t + 1))) := ⟨by have h := S5.out.step hlt; rw [HT.out.1] at h; exact h⟩; clear hB)
        refine ⟨?_, ?measure⟩
        repeat apply Exists.intro
        refine ⟨?rel, rfl⟩
        case rel => exact ⟨t + 1, false, by omega, rfl, by go_num, ⟨S7.out, by rw [okAt, S.out.2]; rfl⟩⟩
        case measure => show 6 - ((t : Int) + 1).toNat < 6 - (t : Int).toNat; omega
       | true =>
        go_wp2_with (go_at_call 66; (with_reducible refine (HNk.out _ S.out.1.bel).mono ?_); rintro e w5 ⟨rfl, hB⟩; have S5 := Aside0.mk (S.out.1.below hB); have q5 : w5.cell? ⟨wo.heap.size, t, none⟩ = some (.int .i64 0) := (blk_cell S5.out.box t).trans (nsAt_get f t hlt); have f5 := blk_frozen S5.out.box t; have S7 : Aside0 (QD w w2 wo (w5.setCell ⟨wo.heap.size, t, none⟩ (.int .i64 n)) (.slice A5 0 c5) (nsAt f (t + 1))) := ⟨by have h := S5.out.step hlt; rw [HT.out.1] at h; exact h⟩; clear hB)
        refine ⟨?_, ?measure⟩
        repeat apply Exists.intro
        refine ⟨?rel, rfl⟩
        case rel => exact ⟨t + 1, b2, by omega, rfl, by go_num, ⟨S7.out, by rw [okAt, S.out.2, HT.out.2]; rfl⟩⟩
        case measure => show 6 - ((t : Int) + 1).toNat < 6 - (t : Int).toNat; omega
      ·obtain rfl : t = 6 := by omega
       obtain ⟨n0, hn0⟩ : ∃ n, (f 0).1 = n := ⟨_, rfl⟩
       obtain ⟨n1, hn1⟩ : ∃ n, (f 1).1 = n := ⟨_, rfl⟩
       obtain ⟨n2, hn2⟩ : ∃ n, (f 2).1 = n := ⟨_, rfl⟩
       obtain ⟨n3, hn3⟩ : ∃ n, (f 3).1 = n := ⟨_, rfl⟩
       obtain ⟨n4, hn4⟩ : ∃ n, (f 4).1 = n := ⟨_, rfl⟩
       obtain ⟨n5, hn5⟩ : ∃ n, (f 5).1 = n := ⟨_, rfl⟩
       have HNS : Aside0 (nsAt f 6 = [n0, n1, n2, n3, n4, n5]) := ⟨by rw [← hn0, ← hn1, ← hn2, ← hn3, ← hn4, ← hn5]; rfl⟩
       have S6 : Aside0 (QD w w2 wo wr (.slice A5 0 c5) [n0, n1, n2, n3, n4, n5]) := ⟨by have h := S.out.1; rw [HNS.out] at h; exact h⟩
       clear hn0 hn1 hn2 hn3 hn4 hn5 ht hlt
       have z0 : wr.cell? ⟨w2.heap.size, 0, none⟩ = some (.int .i64 0) := (blk_cell S6.out.ps.box 0).trans rfl
       have f0 := blk_frozen S6.out.ps.box 0
       have k0 : wr.cell? ⟨wo.heap.size, 0, none⟩ = some (.int .i64 n0) := (blk_cell S6.out.box 0).trans rfl
       have z1 : wr.cell? ⟨w2.heap.size, 1, none⟩ = some (.int .i64 0) := (blk_cell S6.out.ps.box 1).trans rfl
       have f1 := blk_frozen S6.out.ps.box 1
       have k1 : wr.cell? ⟨wo.heap.size, 1, none⟩ = some (.int .i64 n1) := (blk_cell S6.out.box 1).trans rfl
       have z2 : wr.cell? ⟨w2.heap.size, 2, none⟩ = some (.int .i64 0) := (blk_cell S6.out.ps.box 2).trans rfl
       have f2 := blk_frozen S6.out.ps.box 2
       have k2 : wr.cell? ⟨wo.heap.size, 2, none⟩ = some (.int .i64 n2) := (blk_cell S6.out.box 2).trans rfl
       have z3 : wr.cell? ⟨w2.heap.size, 3, none⟩ = some (.int .i64 0) := (blk_cell S6.out.ps.box 3).trans rfl
       have f3 := blk_frozen S6.out.ps.box 3
       have k3 : wr.cell? ⟨wo.heap.size, 3, none⟩ = some (.int .i64 n3) := (blk_cell S6.out.box 3).trans rfl
       have z4 : wr.cell? ⟨w2.heap.size, 4, none⟩ = some (.int .i64 0) := (blk_cell S6.out.ps.box 4).trans rfl
       have f4 := blk_frozen S6.out.ps.box 4
       have k4 : wr.cell? ⟨wo.heap.size, 4, none⟩ = some (.int .i64 n4) := (blk_cell S6.out.box 4).trans rfl
       have z5 : wr.cell? ⟨w2.heap.size, 5, none⟩ = some (.int .i64 0) := (blk_cell S6.out.ps.box 5).trans rfl
       have f5 := blk_frozen S6.out.ps.box 5
       have k5 : wr.cell? ⟨wo.heap.size, 5, none⟩ = some (.int .i64 n5) := (blk_cell S6.out.box 5).trans rfl
       have S5 : Aside0 (P4 w w2 ((((((wr.setCell ⟨w2.heap.size, 0, none⟩ (.int .i64 n0)).setCell ⟨w2.heap.size, 1, none⟩ (.int .i64 n1)).setCell ⟨w2.heap.size, 2, none⟩ (.int .i64 n2)).setCell ⟨w2.heap.size, 3, none⟩ (.int .i64 n3)).setCell ⟨w2.heap.size, 4, none⟩ (.int .i64 n4)).setCell ⟨w2.heap.size, 5, none⟩ (.int .i64 n5)) (cells62 n0 n1 n2 n3 n4 n5 ⟨#[]⟩ (.slice A5 0 c5)) (.slice A5 0 c5) []) := ⟨((((((S6.out.ps.put 0 (.int .i64 n0)).put 1 (.int .i64 n1)).put 2 (.int .i64 n2)).put 3 (.int .i64 n3)).put 4 (.int .i64 n4)).put 5 (.int .i64 n5))⟩
       cases b with
       | false =>
        have HO2 : Aside0 (o = (scr0, 1, 4)) := ⟨by rw [← HO.out, HLS.out]; exact rowsP_dev _ _ (by show devOk x r = false; rw [← HOK0.out]; exact S.out.2)⟩
        go_wp2_with ((with_reducible refine gate_st (t := 49) rfl rfl ?_); intro h1_ h2_; refine wpList_store_row h1_ 49 _ _ h2_ w.heap.size cs0 rfl rfl 49 cs0 S5.out.res sz49 rfl on49 ?_; rw [setRow_self _ _ cs0 _ _ S5.out.res])
        refine bodyPost_ret (results_ctt rfl _ _ w.heap.size 49 cs0 (0, 0) _ rfl S5.out.res Tryd.underlying49 rfl sz49) rfl ?_
        exact ⟨⟨0, 0, 0, 0, 0, 0, ⟨#[]⟩, .slice none 0 0, [], 1, 4, by first | rfl | (simp; done) | (go_num; done), Kd.R_nil _ _ _ _ _, HO2.out⟩, S5.out.all B2.out⟩
       | true =>
        have HDV : Aside0 (devOk x r = true) := ⟨by rw [← HOK0.out]; exact S.out.2⟩
        go_wp2_with fail
        refine ⟨⟨0 + 1, by omega, by go_num, ⟨⟨_, _, _, _, _, _, _, _, _, S5.out, by rw [← HNS.out, HNF.out HDV.out]; exact Got.one (x :: r) ls HLS.out HDV.out⟩⟩⟩, ?_⟩
        simp [intOf]; omega
   | one d ls hr h =>
    obtain ⟨ls2, hls⟩ : ∃ ls2, rows = d :: (x :: r) :: ls2 := by
     subst hr
     match ls, htl, hre with
     | a :: l, _, h2 => exact ⟨l, by rw [show a = x :: r from h2]⟩
     | [], h2, _ => exact absurd h2 (by simp)
    obtain rfl : acts = [] := List.map_eq_nil_iff.1 hga
    obtain ⟨ad0, hA0, hx0⟩ := Kd.at_string HX.out.2.1 0 (by omega) (by simp)
    subst hA0
    have hx0' : wr.cell? ad0 = some (.string x) := pw_cell_below S.out.bel (by
     rw [show (0 : Int).toNat = 0 from rfl, Addr.add_zero'] at hx0
     exact hx0)
    have hc1 : wr.cell? ⟨ad.block, ad.off + 1, none⟩ = some (.slice (some ad0) (r.length + 1) ce) := hc0
    have HLS := Aside0.mk (And.intro hls (And.intro hgs h))
    have hpk : okPar (x :: r) = ((bytesF r).2 && (x.toList == parW.toList)) := rfl
    obtain ⟨dv, hdv⟩ : ∃ dv, (x.toList == parW.toList) = dv := ⟨_, rfl⟩
    rw [hdv] at hpk
    rw [parW_list] at hdv
    have HPK := Aside0.mk hpk
    have h0N : (1 : Int) < (N : Int) := hb6
    have hq0 : (0 : Int) < ((r.length + 1 : Nat) : Int) := by omega
    obtain ⟨A5, c5, rfl⟩ := Kd.R_slice S.out.row
    by_cases hl1 : r.length = 1
    ·obtain ⟨y, rfl⟩ : ∃ y, r = [y] := List.length_eq_one_iff.1 hl1
     obtain ⟨ad1, hA1, hx1⟩ := Kd.at_string HX.out.2.1 1 (by omega) (by simp)
     cases hA1
     have hx1' : wr.cell? ⟨ad0.block, ad0.off + 1, none⟩ = some (.string y) := pw_cell_below S.out.bel hx1
     have hyz : y.size ≤ 16777216 := HX.out.2.2 y (by simp)
     obtain ⟨d0, hd0⟩ : ∃ d0, (unhexS y).1 = d0 := ⟨_, rfl⟩
     obtain ⟨e0, he0⟩ : ∃ e0, (unhexS y).2 = e0 := ⟨_, rfl⟩
     have HU : Aside0 (∀ W, Calls Tryd.prog 16 #[.string y] W fun e w' => e = .returned (.tuple #[.string d0, .int .i64 e0]) ∧ Below W.heap.size W w') := ⟨fun W => by rw [← hd0, ← he0]; exact r04_unhex_calls y hyz W⟩
     have HBF : Aside0 (bytesF [y] = (d0, decide (e0 = 0))) := ⟨by rw [← hd0, ← he0]; rfl⟩
     clear hx0 hx1 hc0 htl hre hrl hls hpk hgs hga hr hd0 he0 hyz hl1
     cases dv with
     | false =>
      have HO2 : Aside0 (o = (scr0, 2, 4)) := ⟨by rw [← HO.out, HLS.out.1]; exact rowsP_par _ _ _ h (by rw [HPK.out, Bool.and_comm]; rfl)⟩
      clear h
      go_wp2_with ((with_reducible refine gate_st (t := 49) rfl rfl ?_); intro h1_ h2_; refine wpList_store_row h1_ 49 _ _ h2_ w.heap.size cs0 rfl rfl 49 cs0 S.out.res sz49 rfl on49 ?_; rw [setRow_self _ _ cs0 _ _ S.out.res])
      refine bodyPost_ret (results_ctt rfl _ _ w.heap.size 49 cs0 (0, 0) _ rfl S.out.res Tryd.underlying49 rfl sz49) rfl ?_
      exact ⟨⟨0, 0, 0, 0, 0, 0, ⟨#[]⟩, .slice none 0 0, [], 2, 4, by first | rfl | (simp; done) | (go_num; done), Kd.R_nil _ _ _ _ _, HO2.out⟩, S.out.all B2.out⟩
     | true =>
      by_cases he : e0 = 0
      ·subst he
       clear h
       go_wp2_with (go_at_call 16; (with_reducible refine (HU.out _).mono ?_); rintro e w4 ⟨rfl, hB⟩; have S4 := Aside0.mk (S.out.below hB); have z6 : w4.cell? ⟨w2.heap.size, 6, none⟩ = some (.string ⟨#[]⟩) := (blk_cell S4.out.box 6).trans rfl; have f6 := blk_frozen S4.out.box 6; have S5 : Aside0 (P4 w w2 (w4.setCell ⟨w2.heap.size, 6, none⟩ (.string d0)) (cells62 g0 g1 g2 g3 g4 g5 d0 (.slice A5 0 c5)) (.slice A5 0 c5) []) := ⟨S4.out.put 6 (.string d0)⟩; clear hB)
       refine ⟨⟨1 + 1, by omega, by go_num, ⟨⟨_, _, _, _, _, _, _, _, _, S5.out, by rw [HLS.out.2.1, show d0 = (bytesF [y]).1 by rw [HBF.out]]; exact Got.more d (x :: [y]) [] ls2 2 rfl HLS.out.1 HLS.out.2.2 (by rw [HPK.out, HBF.out]; rfl) rfl⟩⟩⟩, ?_⟩
       simp [intOf]; omega
      ·have hbe : (e0 == 0) = false := beq_eq_false_iff_ne.2 he
       have HO2 : Aside0 (o = (scr0, 2, 4)) := ⟨by rw [← HO.out, HLS.out.1]; exact rowsP_par _ _ _ h (by rw [HPK.out, HBF.out, decide_eq_false he]; rfl)⟩
       clear h he
       go_wp2_with (first
        | (go_at_call 16; (with_reducible refine (HU.out _).mono ?_); rintro e w4 ⟨rfl, hB⟩; have S4 := Aside0.mk (S.out.below hB); have z6 : w4.cell? ⟨w2.heap.size, 6, none⟩ = some (.string ⟨#[]⟩) := (blk_cell S4.out.box 6).trans rfl; have f6 := blk_frozen S4.out.box 6; have S5 : Aside0 (P4 w w2 (w4.setCell ⟨w2.heap.size, 6, none⟩ (.string d0)) (cells62 g0 g1 g2 g3 g4 g5 d0 (.slice A5 0 c5)) (.slice A5 0 c5) []) := ⟨S4.out.put 6 (.string d0)⟩; clear hB)
        | ((with_reducible refine gate_st (t := 49) rfl rfl ?_); intro h1_ h2_; refine wpList_store_row h1_ 49 _ _ h2_ w.heap.size cs0 rfl rfl 49 cs0 S5.out.res sz49 rfl on49 ?_; rw [setRow_self _ _ cs0 _ _ S5.out.res]))
       refine bodyPost_ret (results_ctt rfl _ _ w.heap.size 49 cs0 (0, 0) _ rfl S5.out.res Tryd.underlying49 rfl sz49) rfl ?_
       exact ⟨⟨0, 0, 0, 0, 0, 0, ⟨#[]⟩, .slice none 0 0, [], 2, 4, by first | rfl | (simp; done) | (go_num; done), Kd.R_nil _ _ _ _ _, HO2.out⟩, S5.out.all B2.out⟩
    ·have hl2 : (((r.length + 1 : Nat) : Int) == 2) = false := beq_eq_false_iff_ne.2 (by omega)
     have hl3 : ((r.length : Int) + 1 == 2) = false := beq_eq_false_iff_ne.2 (by omega)
     have HO2 : Aside0 (o = (scr0, 2, 4)) := ⟨by rw [← HO.out, HLS.out.1]; exact rowsP_par _ _ _ h (by rw [HPK.out, bytesF_not r hl1]; rfl)⟩
     clear h hx0 hc0 htl hre hrl hls hpk hgs hga hr hl1
     go_wp2_with ((with_reducible refine gate_st (t := 49) rfl rfl ?_); intro h1_ h2_; refine wpList_store_row h1_ 49 _ _ h2_ w.heap.size cs0 rfl rfl 49 cs0 S.out.res sz49 rfl on49 ?_; rw [setRow_self _ _ cs0 _ _ S.out.res])
     refine bodyPost_ret (results_ctt rfl _ _ w.heap.size 49 cs0 (0, 0) _ rfl S.out.res Tryd.underlying49 rfl sz49) rfl ?_
     exact ⟨⟨0, 0, 0, 0, 0, 0, ⟨#[]⟩, .slice none 0 0, [], 2, 4, by first | rfl | (simp; done) | (go_num; done), Kd.R_nil _ _ _ _ _, HO2.out⟩, S.out.all B2.out⟩
   | more d p done rest t ht2 hr hd hp ha =>
    obtain ⟨rest2, hls⟩ : ∃ rest2, rest = (x :: r) :: rest2 := by
     cases rest with
     | nil =>
      exfalso
      rw [hr, List.append_nil, List.length_cons, List.length_cons] at htl
      omega
     | cons a l =>
      refine ⟨l, ?_⟩
      have h3 : rows[t]? = some (x :: r) := by rw [List.getElem?_eq_getElem htl, hre]
      rw [hr, ht2, List.getElem?_cons_succ, List.getElem?_cons_succ, List.getElem?_append_right (Nat.le_refl _), Nat.sub_self] at h3
      rw [show a = x :: r from Option.some.inj h3]
    have HAL : Aside0 (acts.length ≤ 16777216) := ⟨by
     have h4 := congrArg List.length hga
     rw [List.length_map, List.length_map] at h4
     have h3 := HOK.out.len
     rw [hr, List.length_cons, List.length_cons, List.length_append] at h3
     omega⟩
    have hn0 : ((t : Int) == 0) = false := beq_eq_false_iff_ne.2 (by omega)
    have hn1 : ((t : Int) == 1) = false := beq_eq_false_iff_ne.2 (by omega)
    obtain ⟨B, hB⟩ : ∃ B, (bytesF p.tail).1 = B := ⟨_, rfl⟩
    rw [hB] at S
    have hrow : (x :: r) ∈ rows := by rw [← hre]; exact List.getElem_mem htl
    have hol := HOL.out _ hrow
    have HJ : Aside0 (∀ W, Below w2.heap.size w2 W → Calls Tryd.prog 68 #[.slice Ae (r.length + 1) ce] W fun e w' => e = .returned (.string (LT (x :: r))) ∧ Below W.heap.size W w') := ⟨fun W hb => joined_calls (x :: r) Ae ce W (Kd.C_below HX.out.2.1 hb) (by have := HLB.out _ hrow; omega) (by simp; omega)⟩
    have HG := Aside0.mk (And.intro ht2 (And.intro hr (And.intro hd (And.intro hp (And.intro ha (And.intro hls (And.intro hgs (And.intro hB hga))))))))
    have HOk : Aside0 (ok40 x r = (actP x r).isSome) := ⟨ok40_is x r hol (fun y hy => HX.out.2.2 y (List.mem_cons_of_mem _ hy)) hrl⟩
    have HAo := act40_ok x r (fun y hy => HX.out.2.2 y (List.mem_cons_of_mem _ hy)) hrl
    have HA : Aside0 (∀ W, Below wr.heap.size wr W → Calls Tryd.prog 67 #[.slice Ae (r.length + 1) ce] W (Act40Post W (act40 x r))) := ⟨fun W hb => act40_calls x r Ae ce W (Kd.C_below HX.out.2.1 (S.out.bel.trans (hb.mono S.out.bel.size))) HX.out.1 HX.out.2.2 (okL_pos hol) hrl⟩
    obtain ⟨a, haa⟩ : ∃ a, act40 x r = a := ⟨_, rfl⟩
    have hok : ok40 x r = (plainA a && decide (LT (lineA a) = LT (x :: r))) := by rw [← haa]; rfl
    rw [haa] at HA HAo
    obtain ⟨⟨k, n, d9, f, vs⟩, cut, mount, m, ms⟩ := a
    have HAC := Aside0.mk (And.intro haa HAo)
    obtain ⟨sb, hsb⟩ : ∃ sb, LT (x :: r) = sb := ⟨_, rfl⟩
    obtain ⟨sa, hsa⟩ : ∃ sa, LT (lineA ⟨⟨k, n, d9, f, vs⟩, cut, mount, m, ms⟩) = sa := ⟨_, rfl⟩
    obtain ⟨pl, hpl⟩ : ∃ pl, plainA ⟨⟨k, n, d9, f, vs⟩, cut, mount, m, ms⟩ = pl := ⟨_, rfl⟩
    rw [hsb] at HJ hok
    rw [hsa, hpl] at hok
    have HA2 : Aside0 (∀ W, Below wr.heap.size wr W → Calls Tryd.prog 67 #[.slice Ae (r.length + 1) ce] W fun e w' => (∃ A6 c6 A7 c7, e = .returned (.agg #[.int .i64 k, .int .i64 n, .string d9, .int .i64 f, .slice A6 vs.length c6, .bool cut, .bool mount, .int .i64 m, .slice A7 ms.length c7]) ∧ Kd.R k107 107 w' W.heap.size (fun _ => True) (.slice A6 vs.length c6) vs ∧ Kd.R (Kd.int .u32) 116 w' W.heap.size (fun _ => True) (.slice A7 ms.length c7) ms) ∧ Below W.heap.size W w') := ⟨fun W hb => (HA.out W hb).mono (by
     rintro e w' ⟨⟨v4, v8, rfl, h6, h7⟩, hB⟩
     obtain ⟨A6, c6, rfl⟩ := Kd.R_slice h6
     obtain ⟨A7, c7, rfl⟩ := Kd.R_slice h7
     exact ⟨⟨A6, c6, A7, c7, rfl, h6, h7⟩, hB⟩)⟩
    have HPl : Aside0 (∀ W A6 c6 A7 c7, Kd.R k107 107 W wr.heap.size (fun _ => True) (.slice A6 vs.length c6) vs → Kd.R (Kd.int .u32) 116 W wr.heap.size (fun _ => True) (.slice A7 ms.length c7) ms → Calls Tryd.prog 30 #[.agg #[.int .i64 k, .int .i64 n, .string d9, .int .i64 f, .slice A6 vs.length c6, .bool cut, .bool mount, .int .i64 m, .slice A7 ms.length c7]] W fun e w' => e = .returned (.bool pl) ∧ Below W.heap.size W w') := ⟨fun W A6 c6 A7 c7 h6 h7 => by
     obtain ⟨A6', c6', he6, l6, g6⟩ := Kd.R_reads h6
     cases he6
     obtain ⟨A7', c7', he7, l7, g7⟩ := Kd.R_reads h7
     cases he7
     have h := plain_calls57 (⟨⟨k, n, d9, f, vs⟩, cut, mount, m, ms⟩ : S57) A6 c6 A7 c7 W g6 l6 g7 l7 HAC.out.2.vl HAC.out.2.ml
     rw [plain_one, show plainA (act66 (⟨⟨k, n, d9, f, vs⟩, cut, mount, m, ms⟩ : S57)) = pl from hpl] at h
     exact h⟩
    obtain ⟨A5, c5, rfl⟩ := Kd.R_slice S.out.row
    obtain ⟨_, how⟩ := Kd.R_own S.out.row
    have HOW := Aside0.mk how
    have HC0 := Aside0.mk hc0
    have HSA := Aside0.mk (And.intro hsa (And.intro hpl hok))
    clear how htl hre hrl hls hr hd hp ha hgs hB ht2 hga hrow hol HA HAo hok haa hsa hsb
    cases pl with
    | false =>
     clear hpl
     go_upto_region 25 with ((go_at_call 67; (with_reducible refine (HA2.out _ (Below.refl _ _)).mono ?_); rintro e w4 ⟨⟨A6, c6, A7, c7, rfl, h6, h7⟩, hB⟩; have Q5 : Aside0 (QA w w2 wr (w4.alloc (.cells #[.int .i64 k, .int .i64 n, .string d9, .int .i64 f, .slice A6 vs.length c6, .bool cut, .bool mount, .int .i64 m, .slice A7 ms.length c7] 57)) w4.heap.size (#[.int .i64 k, .int .i64 n, .string d9, .int .i64 f, .slice A6 vs.length c6, .bool cut, .bool mount, .int .i64 m, .slice A7 ms.length c7]) (cells62 g0 g1 g2 g3 g4 g5 B (.slice A5 acts.length c5)) (.slice A5 acts.length c5) acts (.slice A6 vs.length c6) (.slice A7 ms.length c7) vs ms) := ⟨⟨(S.out.below hB).below (below_alloc (Below.refl _ _) _), blk_new w4 _, below_alloc hB _, Kd.R_alloc h6 _, Kd.R_alloc h7 _⟩⟩; clear hB h6 h7))
     go_cut [10] (fun v wc => v = .bool false ∧ Aside0 (QA w w2 wr wc w4.heap.size (#[.int .i64 k, .int .i64 n, .string d9, .int .i64 f, .slice A6 vs.length c6, .bool cut, .bool mount, .int .i64 m, .slice A7 ms.length c7]) (cells62 g0 g1 g2 g3 g4 g5 B (.slice A5 acts.length c5)) (.slice A5 acts.length c5) acts (.slice A6 vs.length c6) (.slice A7 ms.length c7) vs ms))
     case first =>
      obtain ⟨w5, hw5⟩ : ∃ w5, w4.alloc (.cells #[.int .i64 k, .int .i64 n, .string d9, .int .i64 f, .slice A6 vs.length c6, .bool cut, .bool mount, .int .i64 m, .slice A7 ms.length c7] 57) = w5 := ⟨_, rfl⟩
      rw [hw5] at Q5 ⊢
      clear hw5
      have z0 : w5.cell? ⟨w4.heap.size, 0, none⟩ = some (.int .i64 k) := (blk_cell Q5.out.box 0).trans rfl; have z1 : w5.cell? ⟨w4.heap.size, 1, none⟩ = some (.int .i64 n) := (blk_cell Q5.out.box 1).trans rfl; have z2 : w5.cell? ⟨w4.heap.size, 2, none⟩ = some (.string d9) := (blk_cell Q5.out.box 2).trans rfl; have z3 : w5.cell? ⟨w4.heap.size, 3, none⟩ = some (.int .i64 f) := (blk_cell Q5.out.box 3).trans rfl; have z4 : w5.cell? ⟨w4.heap.size, 4, none⟩ = some (.slice A6 vs.length c6) := (blk_cell Q5.out.box 4).trans rfl; have z5 : w5.cell? ⟨w4.heap.size, 5, none⟩ = some (.bool cut) := (blk_cell Q5.out.box 5).trans rfl; have z6 : w5.cell? ⟨w4.heap.size, 6, none⟩ = some (.bool mount) := (blk_cell Q5.out.box 6).trans rfl; have z7 : w5.cell? ⟨w4.heap.size, 7, none⟩ = some (.int .i64 m) := (blk_cell Q5.out.box 7).trans rfl; have z8 : w5.cell? ⟨w4.heap.size, 8, none⟩ = some (.slice A7 ms.length c7) := (blk_cell Q5.out.box 8).trans rfl; have zr : w5.cell? (ad.add t) = some (.slice Ae (r.length + 1) ce) := pw_cell_below Q5.out.bel HC0.out
      refine wp_region_held_drew (S := fun _ => True) (by kernel_rfl) trivial (fun hHeld => ?_)
      clear hHeld
      refine one_ready 0 (by kernel_rfl) rfl (fun K hK => ?_)
      go_simp
      refine hK.out _ _ trivial (fun _ => ?_)
      clear hK K
      try simp only [Act.put, List.setIfInBounds_toArray, List.set_cons_zero, List.set_cons_succ]
      refine one_ready 1 (by kernel_rfl) rfl (fun K hK => ?_)
      go_simp
      (go_at_call 30; (with_reducible refine (HPl.out _ _ _ _ _ (QA.r4 (by with_reducible repeat (first | exact Q5.out | apply QA.drew | apply QA.drewN))) (QA.r8 (by with_reducible repeat (first | exact Q5.out | apply QA.drew | apply QA.drewN)))).mono ?_); rintro e w6 ⟨rfl, hB⟩; have Q6 := Aside0.mk (QA.below (by with_reducible repeat (first | exact Q5.out | apply QA.drew | apply QA.drewN)) hB); clear hB; have x0 : w6.cell? ⟨w4.heap.size, 0, none⟩ = some (.int .i64 k) := (blk_cell Q6.out.box 0).trans rfl; have x1 : w6.cell? ⟨w4.heap.size, 1, none⟩ = some (.int .i64 n) := (blk_cell Q6.out.box 1).trans rfl; have x2 : w6.cell? ⟨w4.heap.size, 2, none⟩ = some (.string d9) := (blk_cell Q6.out.box 2).trans rfl; have x3 : w6.cell? ⟨w4.heap.size, 3, none⟩ = some (.int .i64 f) := (blk_cell Q6.out.box 3).trans rfl; have x4 : w6.cell? ⟨w4.heap.size, 4, none⟩ = some (.slice A6 vs.length c6) := (blk_cell Q6.out.box 4).trans rfl; have x5 : w6.cell? ⟨w4.heap.size, 5, none⟩ = some (.bool cut) := (blk_cell Q6.out.box 5).trans rfl; have x6 : w6.cell? ⟨w4.heap.size, 6, none⟩ = some (.bool mount) := (blk_cell Q6.out.box 6).trans rfl; have x7 : w6.cell? ⟨w4.heap.size, 7, none⟩ = some (.int .i64 m) := (blk_cell Q6.out.box 7).trans rfl; have x8 : w6.cell? ⟨w4.heap.size, 8, none⟩ = some (.slice A7 ms.length c7) := (blk_cell Q6.out.box 8).trans rfl; have xr : w6.cell? (ad.add t) = some (.slice Ae (r.length + 1) ce) := pw_cell_below Q6.out.bel HC0.out)
      refine hK.out _ _ trivial (fun _ => ?_)
      clear hK K
      try simp only [Act.put, List.setIfInBounds_toArray, List.set_cons_zero, List.set_cons_succ]
      refine one_ready 2 (by kernel_rfl) rfl (fun K hK => ?_)
      go_simp
      refine hK.out _ _ trivial (fun _ => ?_)
      clear hK K
      try simp only [Act.put, List.setIfInBounds_toArray, List.set_cons_zero, List.set_cons_succ]
      refine one_skip 3 (by kernel_rfl) (by kernel_rfl) (by kernel_rfl) rfl (fun _ _ _ h => h) rfl trivial ?_
      try simp only [Act.put, List.setIfInBounds_toArray, List.set_cons_zero, List.set_cons_succ]
      refine one_skip 5 (by kernel_rfl) (by kernel_rfl) (by kernel_rfl) rfl (fun _ _ _ h => h) rfl trivial ?_
      try simp only [Act.put, List.setIfInBounds_toArray, List.set_cons_zero, List.set_cons_succ]
      refine one_skip 6 (by kernel_rfl) (by kernel_rfl) (by kernel_rfl) rfl (fun _ _ _ h => h) rfl trivial ?_
      try simp only [Act.put, List.setIfInBounds_toArray, List.set_cons_zero, List.set_cons_succ]
      refine one_skip 7 (by kernel_rfl) (by kernel_rfl) (by kernel_rfl) rfl (fun _ _ _ h => h) rfl trivial ?_
      try simp only [Act.put, List.setIfInBounds_toArray, List.set_cons_zero, List.set_cons_succ]
      refine one_skip 8 (by kernel_rfl) (by kernel_rfl) (by kernel_rfl) rfl (fun _ _ _ h => h) rfl trivial ?_
      try simp only [Act.put, List.setIfInBounds_toArray, List.set_cons_zero, List.set_cons_succ]
      refine one_ready 4 (by kernel_rfl) rfl (fun K hK => ?_)
      go_simp
      refine hK.out _ _ trivial (fun _ => ?_)
      clear hK K
      try simp only [Act.put, List.setIfInBounds_toArray, List.set_cons_zero, List.set_cons_succ]
      refine one_ready 9 (by kernel_rfl) rfl (fun K hK => ?_)
      go_simp
      refine hK.out _ _ trivial (fun _ => ?_)
      clear hK K
      try simp only [Act.put, List.setIfInBounds_toArray, List.set_cons_zero, List.set_cons_succ]
      refine one_ready 10 (by kernel_rfl) rfl (fun K hK => ?_)
      go_simp
      refine hK.out _ _ trivial (fun _ => ?_)
      clear hK K
      try simp only [Act.put, List.setIfInBounds_toArray, List.set_cons_zero, List.set_cons_succ]
      refine one_ready 11 (by kernel_rfl) rfl (fun K hK => ?_)
      go_simp
      refine hK.out _ _ trivial (fun _ => ?_)
      clear hK K
      try simp only [Act.put, List.setIfInBounds_toArray, List.set_cons_zero, List.set_cons_succ]
      refine one_ready 12 (by kernel_rfl) rfl (fun K hK => ?_)
      go_simp
      refine hK.out _ _ trivial (fun _ => ?_)
      clear hK K
      try simp only [Act.put, List.setIfInBounds_toArray, List.set_cons_zero, List.set_cons_succ]
      refine wpAnyH_done (by kernel_rfl) ?_ _
      go_wp2_with fail
      go_meet
      exact ⟨rfl, ⟨by repeat (first | exact Q6.out | apply QA.drewN | apply QA.drew)⟩⟩
     case rest =>
     obtain ⟨rfl, Q9⟩ := hcut
     have HKB : Aside0 ((actP x r).isSome = false) := ⟨by rw [← HOk.out, HSA.out.2.2]; rfl⟩
     have z7 : wc.cell? ⟨w2.heap.size, 7, none⟩ = some (.slice A5 acts.length c5) := (blk_cell Q9.out.ps.box 7).trans rfl
     have HM : Aside0 (k57.M wc w2.heap.size (fun q => True ∧ some q ≠ (Value.slice A5 acts.length c5).ownBlock) (⟨⟨k, n, d9, f, vs⟩, cut, mount, m, ms⟩ : S57) [.int .i64 k, .int .i64 n, .string d9, .int .i64 f, .slice A6 vs.length c6, .bool cut, .bool mount, .int .i64 m, .slice A7 ms.length c7] ) := ⟨k57.M_lower S.out.bel.size (Kd.M_new (W := wr) (k57_mkM wc _ _ (⟨⟨k, n, d9, f, vs⟩, cut, mount, m, ms⟩ : S57) Q9.out.r4 Q9.out.r8) HOW.out)⟩
     have HO2 : Aside0 (o = (scr0, (t : Int) + 1, 4)) := ⟨by
      rw [← HO.out, HG.out.2.1, HG.out.2.2.2.2.2.1, rowsP_more _ _ _ HG.out.2.2.1 HG.out.2.2.2.1, badFrom_at _ _ _ _ HG.out.2.2.2.2.1 (show okAct (x :: r) = false from HKB.out)]
      have := HG.out.1
      show (scr0, (((2 + done.length : Nat) : Int) + 1), (4 : Int)) = _
      rw [show ((2 + done.length : Nat) : Int) = (t : Int) by omega]⟩
     go_wp2_with (first
      | ((with_reducible refine gate_ld (t := 57) rfl rfl ?_); intro h1_ h2_; refine wpList_load_row h1_ 57 _ h2_ w4.heap.size rfl 57 (#[.int .i64 k, .int .i64 n, .string d9, .int .i64 f, .slice A6 vs.length c6, .bool cut, .bool mount, .int .i64 m, .slice A7 ms.length c7] : Array Value) (0, 0) _ Q9.out.box Tryd.underlying57 rfl sz57 ?_)
      | ((with_reducible refine gate_builtin (b := .append) (xs := #[.tmp 130, .tmp 132]) rfl ?_); at_builtin; refine Kd.R_append k57 (w0 := w2) w2.heap.size rfl (.tmp 130) (.tmp 132) 47 57 (.agg #[.int .i64 0, .int .i64 0, .string ⟨#[]⟩, .int .i64 0, .slice none 0 0, .bool false, .bool false, .int .i64 0, .slice none 0 0]) 104 rfl Tryd.underlying47 info57 rfl (by decide) (by decide) (.slice A5 acts.length c5) acts (⟨⟨k, n, d9, f, vs⟩, cut, mount, m, ms⟩ : S57) [.int .i64 k, .int .i64 n, .string d9, .int .i64 f, .slice A6 vs.length c6, .bool cut, .bool mount, .int .i64 m, .slice A7 ms.length c7] (fun _ => True) (fun q => True ∧ some q ≠ (Value.slice A5 acts.length c5).ownBlock) rfl (by first | (rw [World.size_alloc]; rfl) | rfl) HM.out (fun _ h => h) (fun _ _ => trivial) Q9.out.ps.row Q9.out.ps.bel Q9.out.ps.bel.size (by have := HAL.out; omega) ?_; intro v6 w6 ho hb hg hat; obtain ⟨A8, c8, rfl⟩ := Kd.R_slice ho; have S6 := Aside0.mk (Q9.out.ps.app ho hb hg); have y7 : w6.cell? ⟨w2.heap.size, 7, none⟩ = some (.slice A5 acts.length c5) := (blk_cell S6.out.box 7).trans rfl; have f7 := blk_frozen S6.out.box 7; have S7_ := S6.out.put7; rw [List.length_append, List.length_singleton] at S7_; have S7 := Aside0.mk S7_; clear S7_; clear ho hb hg hat)
      | ((with_reducible refine gate_st (t := 49) rfl rfl ?_); intro h1_ h2_; refine wpList_store_row h1_ 49 _ _ h2_ w.heap.size cs0 rfl rfl 49 cs0 S7.out.res sz49 rfl on49 ?_; rw [setRow_self _ _ cs0 _ _ S7.out.res]))
     refine bodyPost_ret (results_ctt rfl _ _ w.heap.size 49 cs0 (0, 0) _ rfl S7.out.res Tryd.underlying49 rfl sz49) rfl ?_
     exact ⟨⟨0, 0, 0, 0, 0, 0, ⟨#[]⟩, .slice none 0 0, [], (t : Int) + 1, 4, by first | rfl | (simp; done) | (go_num; done), Kd.R_nil _ _ _ _ _, HO2.out⟩, S7.out.all B2.out⟩
    | true =>
     have HLi : Aside0 (∀ W A6 c6 A7 c7, Kd.R k107 107 W wr.heap.size (fun _ => True) (.slice A6 vs.length c6) vs → Kd.R (Kd.int .u32) 116 W wr.heap.size (fun _ => True) (.slice A7 ms.length c7) ms → Calls Tryd.prog 54 #[.agg #[.int .i64 k, .int .i64 n, .string d9, .int .i64 f, .slice A6 vs.length c6, .bool cut, .bool mount, .int .i64 m, .slice A7 ms.length c7]] W fun e w' => e = .returned (.string sa) ∧ Below W.heap.size W w') := ⟨fun W A6 c6 A7 c7 h6 h7 => by
      obtain ⟨A6', c6', he6, l6, g6⟩ := Kd.R_reads h6
      cases he6
      obtain ⟨A7', c7', he7, l7, g7⟩ := Kd.R_reads h7
      cases he7
      have h := line_calls57 (⟨⟨k, n, d9, f, vs⟩, cut, mount, m, ms⟩ : S57) HAC.out.2 (by rw [plain_one]; exact hpl) A6 c6 A7 c7 W g6 g7
      rw [show LT (lineA (act66 (⟨⟨k, n, d9, f, vs⟩, cut, mount, m, ms⟩ : S57))) = sa from HSA.out.1] at h
      exact h⟩
     clear hpl
     obtain ⟨bb, hbb⟩ : ∃ bb, decide (sa = sb) = bb := ⟨_, rfl⟩
     have hbs : (sa.toList == sb.toList) = bb := by rw [word_eq]; exact hbb
     have HBB := Aside0.mk hbb
     clear hbb
     go_upto_region 25 with ((go_at_call 67; (with_reducible refine (HA2.out _ (Below.refl _ _)).mono ?_); rintro e w4 ⟨⟨A6, c6, A7, c7, rfl, h6, h7⟩, hB⟩; have Q5 : Aside0 (QA w w2 wr (w4.alloc (.cells #[.int .i64 k, .int .i64 n, .string d9, .int .i64 f, .slice A6 vs.length c6, .bool cut, .bool mount, .int .i64 m, .slice A7 ms.length c7] 57)) w4.heap.size (#[.int .i64 k, .int .i64 n, .string d9, .int .i64 f, .slice A6 vs.length c6, .bool cut, .bool mount, .int .i64 m, .slice A7 ms.length c7]) (cells62 g0 g1 g2 g3 g4 g5 B (.slice A5 acts.length c5)) (.slice A5 acts.length c5) acts (.slice A6 vs.length c6) (.slice A7 ms.length c7) vs ms) := ⟨⟨(S.out.below hB).below (below_alloc (Below.refl _ _) _), blk_new w4 _, below_alloc hB _, Kd.R_alloc h6 _, Kd.R_alloc h7 _⟩⟩; clear hB h6 h7))
     go_cut [10] (fun v wc => v = .bool bb ∧ Aside0 (QA w w2 wr wc w4.heap.size (#[.int .i64 k, .int .i64 n, .string d9, .int .i64 f, .slice A6 vs.length c6, .bool cut, .bool mount, .int .i64 m, .slice A7 ms.length c7]) (cells62 g0 g1 g2 g3 g4 g5 B (.slice A5 acts.length c5)) (.slice A5 acts.length c5) acts (.slice A6 vs.length c6) (.slice A7 ms.length c7) vs ms))
     case first =>
      obtain ⟨w5, hw5⟩ : ∃ w5, w4.alloc (.cells #[.int .i64 k, .int .i64 n, .string d9, .int .i64 f, .slice A6 vs.length c6, .bool cut, .bool mount, .int .i64 m, .slice A7 ms.length c7] 57) = w5 := ⟨_, rfl⟩
      rw [hw5] at Q5 ⊢
      clear hw5
      have z0 : w5.cell? ⟨w4.heap.size, 0, none⟩ = some (.int .i64 k) := (blk_cell Q5.out.box 0).trans rfl; have z1 : w5.cell? ⟨w4.heap.size, 1, none⟩ = some (.int .i64 n) := (blk_cell Q5.out.box 1).trans rfl; have z2 : w5.cell? ⟨w4.heap.size, 2, none⟩ = some (.string d9) := (blk_cell Q5.out.box 2).trans rfl; have z3 : w5.cell? ⟨w4.heap.size, 3, none⟩ = some (.int .i64 f) := (blk_cell Q5.out.box 3).trans rfl; have z4 : w5.cell? ⟨w4.heap.size, 4, none⟩ = some (.slice A6 vs.length c6) := (blk_cell Q5.out.box 4).trans rfl; have z5 : w5.cell? ⟨w4.heap.size, 5, none⟩ = some (.bool cut) := (blk_cell Q5.out.box 5).trans rfl; have z6 : w5.cell? ⟨w4.heap.size, 6, none⟩ = some (.bool mount) := (blk_cell Q5.out.box 6).trans rfl; have z7 : w5.cell? ⟨w4.heap.size, 7, none⟩ = some (.int .i64 m) := (blk_cell Q5.out.box 7).trans rfl; have z8 : w5.cell? ⟨w4.heap.size, 8, none⟩ = some (.slice A7 ms.length c7) := (blk_cell Q5.out.box 8).trans rfl; have zr : w5.cell? (ad.add t) = some (.slice Ae (r.length + 1) ce) := pw_cell_below Q5.out.bel HC0.out
      go_region_held3 (fun w' => w'.cell? ⟨w4.heap.size, 0, none⟩ = some (.int .i64 k) ∧ w'.cell? ⟨w4.heap.size, 1, none⟩ = some (.int .i64 n) ∧ w'.cell? ⟨w4.heap.size, 2, none⟩ = some (.string d9) ∧ w'.cell? ⟨w4.heap.size, 3, none⟩ = some (.int .i64 f) ∧ w'.cell? ⟨w4.heap.size, 4, none⟩ = some (.slice A6 vs.length c6) ∧ w'.cell? ⟨w4.heap.size, 5, none⟩ = some (.bool cut) ∧ w'.cell? ⟨w4.heap.size, 6, none⟩ = some (.bool mount) ∧ w'.cell? ⟨w4.heap.size, 7, none⟩ = some (.int .i64 m) ∧ w'.cell? ⟨w4.heap.size, 8, none⟩ = some (.slice A7 ms.length c7) ∧ w'.cell? (ad.add t) = some (.slice Ae (r.length + 1) ce))
       (first | go_keep | exact ⟨z0, z1, z2, z3, z4, z5, z6, z7, z8, zr⟩ | exact ⟨x0, x1, x2, x3, x4, x5, x6, x7, x8, xr⟩ | exact ⟨y0, y1, y2, y3, y4, y5, y6, y7, y8, yr⟩ | exact ⟨u0, u1, u2, u3, u4, u5, u6, u7, u8, ur⟩)
       ((first
        | (go_at_call 30; (with_reducible refine (HPl.out _ _ _ _ _ (QA.r4 (by with_reducible repeat (first | exact Q5.out | apply QA.drew | apply QA.drewN))) (QA.r8 (by with_reducible repeat (first | exact Q5.out | apply QA.drew | apply QA.drewN)))).mono ?_); rintro e w6 ⟨rfl, hB⟩; have Q6 := Aside0.mk (QA.below (by with_reducible repeat (first | exact Q5.out | apply QA.drew | apply QA.drewN)) hB); clear hB; have x0 : w6.cell? ⟨w4.heap.size, 0, none⟩ = some (.int .i64 k) := (blk_cell Q6.out.box 0).trans rfl; have x1 : w6.cell? ⟨w4.heap.size, 1, none⟩ = some (.int .i64 n) := (blk_cell Q6.out.box 1).trans rfl; have x2 : w6.cell? ⟨w4.heap.size, 2, none⟩ = some (.string d9) := (blk_cell Q6.out.box 2).trans rfl; have x3 : w6.cell? ⟨w4.heap.size, 3, none⟩ = some (.int .i64 f) := (blk_cell Q6.out.box 3).trans rfl; have x4 : w6.cell? ⟨w4.heap.size, 4, none⟩ = some (.slice A6 vs.length c6) := (blk_cell Q6.out.box 4).trans rfl; have x5 : w6.cell? ⟨w4.heap.size, 5, none⟩ = some (.bool cut) := (blk_cell Q6.out.box 5).trans rfl; have x6 : w6.cell? ⟨w4.heap.size, 6, none⟩ = some (.bool mount) := (blk_cell Q6.out.box 6).trans rfl; have x7 : w6.cell? ⟨w4.heap.size, 7, none⟩ = some (.int .i64 m) := (blk_cell Q6.out.box 7).trans rfl; have x8 : w6.cell? ⟨w4.heap.size, 8, none⟩ = some (.slice A7 ms.length c7) := (blk_cell Q6.out.box 8).trans rfl; have xr : w6.cell? (ad.add t) = some (.slice Ae (r.length + 1) ce) := pw_cell_below Q6.out.bel HC0.out)
        | (go_at_call 54; (with_reducible refine (HLi.out _ _ _ _ _ (QA.r4 (by with_reducible repeat (first | exact Q6.out | apply QA.drew | apply QA.drewN))) (QA.r8 (by with_reducible repeat (first | exact Q6.out | apply QA.drew | apply QA.drewN)))).mono ?_); rintro e w7 ⟨rfl, hB⟩; have Q7 := Aside0.mk (QA.below (by with_reducible repeat (first | exact Q6.out | apply QA.drew | apply QA.drewN)) hB); clear hB; have y0 : w7.cell? ⟨w4.heap.size, 0, none⟩ = some (.int .i64 k) := (blk_cell Q7.out.box 0).trans rfl; have y1 : w7.cell? ⟨w4.heap.size, 1, none⟩ = some (.int .i64 n) := (blk_cell Q7.out.box 1).trans rfl; have y2 : w7.cell? ⟨w4.heap.size, 2, none⟩ = some (.string d9) := (blk_cell Q7.out.box 2).trans rfl; have y3 : w7.cell? ⟨w4.heap.size, 3, none⟩ = some (.int .i64 f) := (blk_cell Q7.out.box 3).trans rfl; have y4 : w7.cell? ⟨w4.heap.size, 4, none⟩ = some (.slice A6 vs.length c6) := (blk_cell Q7.out.box 4).trans rfl; have y5 : w7.cell? ⟨w4.heap.size, 5, none⟩ = some (.bool cut) := (blk_cell Q7.out.box 5).trans rfl; have y6 : w7.cell? ⟨w4.heap.size, 6, none⟩ = some (.bool mount) := (blk_cell Q7.out.box 6).trans rfl; have y7 : w7.cell? ⟨w4.heap.size, 7, none⟩ = some (.int .i64 m) := (blk_cell Q7.out.box 7).trans rfl; have y8 : w7.cell? ⟨w4.heap.size, 8, none⟩ = some (.slice A7 ms.length c7) := (blk_cell Q7.out.box 8).trans rfl; have yr : w7.cell? (ad.add t) = some (.slice Ae (r.length + 1) ce) := pw_cell_below Q7.out.bel HC0.out)
        | (go_at_call 68; (with_reducible refine (HJ.out _ (P4.bel (QA.ps (by with_reducible repeat (first | exact Q7.out | apply QA.drew | apply QA.drewN))))).mono ?_); rintro e w8 ⟨rfl, hB⟩; have Q8 := Aside0.mk (QA.below (by with_reducible repeat (first | exact Q7.out | apply QA.drew | apply QA.drewN)) hB); clear hB; have u0 : w8.cell? ⟨w4.heap.size, 0, none⟩ = some (.int .i64 k) := (blk_cell Q8.out.box 0).trans rfl; have u1 : w8.cell? ⟨w4.heap.size, 1, none⟩ = some (.int .i64 n) := (blk_cell Q8.out.box 1).trans rfl; have u2 : w8.cell? ⟨w4.heap.size, 2, none⟩ = some (.string d9) := (blk_cell Q8.out.box 2).trans rfl; have u3 : w8.cell? ⟨w4.heap.size, 3, none⟩ = some (.int .i64 f) := (blk_cell Q8.out.box 3).trans rfl; have u4 : w8.cell? ⟨w4.heap.size, 4, none⟩ = some (.slice A6 vs.length c6) := (blk_cell Q8.out.box 4).trans rfl; have u5 : w8.cell? ⟨w4.heap.size, 5, none⟩ = some (.bool cut) := (blk_cell Q8.out.box 5).trans rfl; have u6 : w8.cell? ⟨w4.heap.size, 6, none⟩ = some (.bool mount) := (blk_cell Q8.out.box 6).trans rfl; have u7 : w8.cell? ⟨w4.heap.size, 7, none⟩ = some (.int .i64 m) := (blk_cell Q8.out.box 7).trans rfl; have u8 : w8.cell? ⟨w4.heap.size, 8, none⟩ = some (.slice A7 ms.length c7) := (blk_cell Q8.out.box 8).trans rfl; have ur : w8.cell? (ad.add t) = some (.slice Ae (r.length + 1) ce) := pw_cell_below Q8.out.bel HC0.out)
        | fail))
      go_wp2_with fail
      go_meet
      exact ⟨rfl, ⟨by repeat (first | exact Q8.out | apply QA.drewN | apply QA.drew)⟩⟩
     case rest =>
     obtain ⟨rfl, Q9⟩ := hcut
     have HKB : Aside0 ((actP x r).isSome = bb) := ⟨by rw [← HOk.out, HSA.out.2.2, HBB.out]; rfl⟩
     cases bb with
     | false =>
      have z7 : wc.cell? ⟨w2.heap.size, 7, none⟩ = some (.slice A5 acts.length c5) := (blk_cell Q9.out.ps.box 7).trans rfl
      have HM : Aside0 (k57.M wc w2.heap.size (fun q => True ∧ some q ≠ (Value.slice A5 acts.length c5).ownBlock) (⟨⟨k, n, d9, f, vs⟩, cut, mount, m, ms⟩ : S57) [.int .i64 k, .int .i64 n, .string d9, .int .i64 f, .slice A6 vs.length c6, .bool cut, .bool mount, .int .i64 m, .slice A7 ms.length c7] ) := ⟨k57.M_lower S.out.bel.size (Kd.M_new (W := wr) (k57_mkM wc _ _ (⟨⟨k, n, d9, f, vs⟩, cut, mount, m, ms⟩ : S57) Q9.out.r4 Q9.out.r8) HOW.out)⟩
      have HO2 : Aside0 (o = (scr0, (t : Int) + 1, 4)) := ⟨by
       rw [← HO.out, HG.out.2.1, HG.out.2.2.2.2.2.1, rowsP_more _ _ _ HG.out.2.2.1 HG.out.2.2.2.1, badFrom_at _ _ _ _ HG.out.2.2.2.2.1 (show okAct (x :: r) = false from HKB.out)]
       have := HG.out.1
       show (scr0, (((2 + done.length : Nat) : Int) + 1), (4 : Int)) = _
       rw [show ((2 + done.length : Nat) : Int) = (t : Int) by omega]⟩
      go_wp2_with (first
       | ((with_reducible refine gate_ld (t := 57) rfl rfl ?_); intro h1_ h2_; refine wpList_load_row h1_ 57 _ h2_ w4.heap.size rfl 57 (#[.int .i64 k, .int .i64 n, .string d9, .int .i64 f, .slice A6 vs.length c6, .bool cut, .bool mount, .int .i64 m, .slice A7 ms.length c7] : Array Value) (0, 0) _ Q9.out.box Tryd.underlying57 rfl sz57 ?_)
       | ((with_reducible refine gate_builtin (b := .append) (xs := #[.tmp 130, .tmp 132]) rfl ?_); at_builtin; refine Kd.R_append k57 (w0 := w2) w2.heap.size rfl (.tmp 130) (.tmp 132) 47 57 (.agg #[.int .i64 0, .int .i64 0, .string ⟨#[]⟩, .int .i64 0, .slice none 0 0, .bool false, .bool false, .int .i64 0, .slice none 0 0]) 104 rfl Tryd.underlying47 info57 rfl (by decide) (by decide) (.slice A5 acts.length c5) acts (⟨⟨k, n, d9, f, vs⟩, cut, mount, m, ms⟩ : S57) [.int .i64 k, .int .i64 n, .string d9, .int .i64 f, .slice A6 vs.length c6, .bool cut, .bool mount, .int .i64 m, .slice A7 ms.length c7] (fun _ => True) (fun q => True ∧ some q ≠ (Value.slice A5 acts.length c5).ownBlock) rfl (by first | (rw [World.size_alloc]; rfl) | rfl) HM.out (fun _ h => h) (fun _ _ => trivial) Q9.out.ps.row Q9.out.ps.bel Q9.out.ps.bel.size (by have := HAL.out; omega) ?_; intro v6 w6 ho hb hg hat; obtain ⟨A8, c8, rfl⟩ := Kd.R_slice ho; have S6 := Aside0.mk (Q9.out.ps.app ho hb hg); have y7 : w6.cell? ⟨w2.heap.size, 7, none⟩ = some (.slice A5 acts.length c5) := (blk_cell S6.out.box 7).trans rfl; have f7 := blk_frozen S6.out.box 7; have S7_ := S6.out.put7; rw [List.length_append, List.length_singleton] at S7_; have S7 := Aside0.mk S7_; clear S7_; clear ho hb hg hat)
       | ((with_reducible refine gate_st (t := 49) rfl rfl ?_); intro h1_ h2_; refine wpList_store_row h1_ 49 _ _ h2_ w.heap.size cs0 rfl rfl 49 cs0 S7.out.res sz49 rfl on49 ?_; rw [setRow_self _ _ cs0 _ _ S7.out.res]))
      refine bodyPost_ret (results_ctt rfl _ _ w.heap.size 49 cs0 (0, 0) _ rfl S7.out.res Tryd.underlying49 rfl sz49) rfl ?_
      exact ⟨⟨0, 0, 0, 0, 0, 0, ⟨#[]⟩, .slice none 0 0, [], (t : Int) + 1, 4, by first | rfl | (simp; done) | (go_num; done), Kd.R_nil _ _ _ _ _, HO2.out⟩, S7.out.all B2.out⟩
     | true =>
      have z7 : wc.cell? ⟨w2.heap.size, 7, none⟩ = some (.slice A5 acts.length c5) := (blk_cell Q9.out.ps.box 7).trans rfl
      have HM : Aside0 (k57.M wc w2.heap.size (fun q => True ∧ some q ≠ (Value.slice A5 acts.length c5).ownBlock) (⟨⟨k, n, d9, f, vs⟩, cut, mount, m, ms⟩ : S57) [.int .i64 k, .int .i64 n, .string d9, .int .i64 f, .slice A6 vs.length c6, .bool cut, .bool mount, .int .i64 m, .slice A7 ms.length c7] ) := ⟨k57.M_lower S.out.bel.size (Kd.M_new (W := wr) (k57_mkM wc _ _ (⟨⟨k, n, d9, f, vs⟩, cut, mount, m, ms⟩ : S57) Q9.out.r4 Q9.out.r8) HOW.out)⟩
      have HAP := Aside0.mk (actD_40 x r _ HAC.out.1 HKB.out)
      go_wp2_with (first
       | ((with_reducible refine gate_ld (t := 57) rfl rfl ?_); intro h1_ h2_; refine wpList_load_row h1_ 57 _ h2_ w4.heap.size rfl 57 (#[.int .i64 k, .int .i64 n, .string d9, .int .i64 f, .slice A6 vs.length c6, .bool cut, .bool mount, .int .i64 m, .slice A7 ms.length c7] : Array Value) (0, 0) _ Q9.out.box Tryd.underlying57 rfl sz57 ?_)
       | ((with_reducible refine gate_builtin (b := .append) (xs := #[.tmp 130, .tmp 132]) rfl ?_); at_builtin; refine Kd.R_append k57 (w0 := w2) w2.heap.size rfl (.tmp 130) (.tmp 132) 47 57 (.agg #[.int .i64 0, .int .i64 0, .string ⟨#[]⟩, .int .i64 0, .slice none 0 0, .bool false, .bool false, .int .i64 0, .slice none 0 0]) 104 rfl Tryd.underlying47 info57 rfl (by decide) (by decide) (.slice A5 acts.length c5) acts (⟨⟨k, n, d9, f, vs⟩, cut, mount, m, ms⟩ : S57) [.int .i64 k, .int .i64 n, .string d9, .int .i64 f, .slice A6 vs.length c6, .bool cut, .bool mount, .int .i64 m, .slice A7 ms.length c7] (fun _ => True) (fun q => True ∧ some q ≠ (Value.slice A5 acts.length c5).ownBlock) rfl (by first | (rw [World.size_alloc]; rfl) | rfl) HM.out (fun _ h => h) (fun _ _ => trivial) Q9.out.ps.row Q9.out.ps.bel Q9.out.ps.bel.size (by have := HAL.out; omega) ?_; intro v6 w6 ho hb hg hat; obtain ⟨A8, c8, rfl⟩ := Kd.R_slice ho; have S6 := Aside0.mk (Q9.out.ps.app ho hb hg); have y7 : w6.cell? ⟨w2.heap.size, 7, none⟩ = some (.slice A5 acts.length c5) := (blk_cell S6.out.box 7).trans rfl; have f7 := blk_frozen S6.out.box 7; have S7_ := S6.out.put7; rw [List.length_append, List.length_singleton] at S7_; have S7 := Aside0.mk S7_; clear S7_; clear ho hb hg hat))
      refine ⟨⟨t + 1, by omega, by go_num, ⟨⟨_, _, _, _, _, _, _, _, _, S7.out, ?got9⟩⟩⟩, ?_⟩
      case got9 =>
       obtain ⟨q1, q2, q3, q4, q5, q6, q7, q8, q9⟩ := HG.out
       have h3 := Got.more (rows := rows) d p (done ++ [x :: r]) rest2 (t + 1) (by rw [List.length_append, List.length_singleton]; omega) (by rw [q2, q6, List.append_assoc]; rfl) q3 q4 (by rw [List.all_append, q5, Bool.true_and, List.all_cons, HAP.out.1]; rfl)
       rw [List.map_append, ← q9, List.map_singleton, HAP.out.2, q8, ← q7] at h3
       rw [List.map_append]
       exact h3
      simp [intOf]; omega
  ·obtain rfl : t = N := by omega
   clear ht hlt
   generalize hgs : [g0, g1, g2, g3, g4, g5] = gs at hG
   generalize hga : acts.map act66 = al at hG
   cases hG with
   | zero =>
    have hr0 : rows = [] := List.eq_nil_of_length_eq_zero HLN.out
    have HO2 : Aside0 (o = (scr0, 1, 4)) := ⟨by rw [← HO.out, hr0]; rfl⟩
    clear hr0 hgs hga
    go_wp2_with ((with_reducible refine gate_st (t := 49) rfl rfl ?_); intro h1_ h2_; refine wpList_store_row h1_ 49 _ _ h2_ w.heap.size cs0 rfl rfl 49 cs0 S.out.res sz49 rfl on49 ?_; rw [setRow_self _ _ cs0 _ _ S.out.res])
    refine bodyPost_ret (results_ctt rfl _ _ w.heap.size 49 cs0 (0, 0) _ rfl S.out.res Tryd.underlying49 rfl sz49) rfl ?_
    exact ⟨⟨0, 0, 0, 0, 0, 0, ⟨#[]⟩, .slice none 0 0, [], 1, 4, by first | rfl | (simp; done) | (go_num; done), Kd.R_nil _ _ _ _ _, HO2.out⟩, S.out.all B2.out⟩
   | one d ls hr h =>
    have hl0 : ls = [] := List.eq_nil_of_length_eq_zero (by have h2 := HLN.out; rw [hr, List.length_cons] at h2; omega)
    have HO2 : Aside0 (o = (scr0, 2, 4)) := ⟨by rw [← HO.out, hr, hl0, rowsP, if_pos h]⟩
    clear hr hl0 h hgs hga
    go_wp2_with ((with_reducible refine gate_st (t := 49) rfl rfl ?_); intro h1_ h2_; refine wpList_store_row h1_ 49 _ _ h2_ w.heap.size cs0 rfl rfl 49 cs0 S.out.res sz49 rfl on49 ?_; rw [setRow_self _ _ cs0 _ _ S.out.res])
    refine bodyPost_ret (results_ctt rfl _ _ w.heap.size 49 cs0 (0, 0) _ rfl S.out.res Tryd.underlying49 rfl sz49) rfl ?_
    exact ⟨⟨0, 0, 0, 0, 0, 0, ⟨#[]⟩, .slice none 0 0, [], 2, 4, by first | rfl | (simp; done) | (go_num; done), Kd.R_nil _ _ _ _ _, HO2.out⟩, S.out.all B2.out⟩
   | more d p done rest t ht2 hr hd hp ha =>
    have hl0 : rest = [] := List.eq_nil_of_length_eq_zero (by have h2 := HLN.out; rw [hr, List.length_cons, List.length_cons, List.length_append] at h2; omega)
    have HO2 : Aside0 (o = (([g0, g1, g2, g3, g4, g5], (bytesF p.tail).1, acts.map act66), 0, 0)) := ⟨by rw [← HO.out, hr, hl0, List.append_nil, rowsP_more _ _ _ hd hp, badFrom_ok _ _ ha, hgs, hga]⟩
    have hN2 : ¬ ((t : Int) < 2) := by omega
    have hN3 : decide ((t : Int) < 2) = false := decide_eq_false hN2
    have hN4 : decide (t < 2) = false := decide_eq_false (by omega)
    have hN5 : ¬ t < 2 := by omega
    obtain ⟨B, hB⟩ : ∃ B, (bytesF p.tail).1 = B := ⟨_, rfl⟩
    rw [hB] at S HO2
    clear hr hl0 hd hp ha hgs hga ht2 hB
    have HON := Aside0.mk (one62' g0 g1 g2 g3 g4 g5 B v (R_one S.out.row))
    go_wp2_with (first
     | ((with_reducible refine gate_ld (t := 49) rfl rfl ?_); intro h1_ h2_; refine wpList_load_row h1_ 49 _ h2_ w2.heap.size rfl 49 _ (0, 0) _ S.out.box Tryd.underlying49 rfl sz49 ?_)
     | ((with_reducible refine gate_st (t := 49) rfl rfl ?_); intro h1_ h2_; refine wpList_store_row h1_ 49 _ _ h2_ w.heap.size (cells62 g0 g1 g2 g3 g4 g5 B v) rfl rfl 49 cs0 S.out.res sz49 rfl HON.out ?_))
    refine bodyPost_ret (results_ctt rfl _ _ w.heap.size 49 _ (0, 0) _ rfl (setRow_heap wr w.heap.size cs0 (cells62 g0 g1 g2 g3 g4 g5 B v) 49 (0, 0) S.out.res) Tryd.underlying49 rfl sz49) rfl ?_
    exact ⟨⟨g0, g1, g2, g3, g4, g5, B, v, _, 0, 0, rfl, Kd.R_lower (R_setRow S.out.row S.out.res ty57_49 _) B2.out.size, HO2.out⟩, below_setRow (S.out.all B2.out) (Nat.le_refl _) _⟩
end Go.Proofs.YtiddiboclfpklaaDoor.Tz
