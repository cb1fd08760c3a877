import Derived.Test.YtiddiboclfpklaaDoorScG
/- A text's lines, as texts.Lines reads them. -/
namespace Go.Proofs.YtiddiboclfpklaaDoor.Tx
open Go.RowKit Go.Shelf Go.Maps Go.Proofs.YtiddiboclfpklaaDoorW.PrintWords
set_option linter.unusedVariables false

attribute [local go_sem] Oper.semAt_some

/-- A line's words. -/
def wordsF (s : ByteArray) : List ByteArray := splitF 32 (Lib.countByte s.data.toList 32) s
/-- A line that is one. -/
def okRow (x : ByteArray × Bool) : Bool := x.2 && (wordsF x.1).all plainF
/-- What is laid behind Lines. -/
def LinesPost (w : World) (s : ByteArray) (e : Ending) (w' : World) : Prop :=
  (((rowsF s.size s).all okRow = true ∧ ∃ v, e = .returned (.tuple #[v, .int .i64 0, .int .i64 0]) ∧ Kd.R (Kd.slice 9 Kd.string) 84 w' w.heap.size (fun _ => True) v ((rowsF s.size s).map fun x => wordsF x.1))
    ∨ ∃ pre x rest, rowsF s.size s = pre ++ x :: rest ∧ pre.all okRow = true ∧ okRow x = false ∧ e = .returned (.tuple #[.slice none 0 0, .int .i64 ((pre.length : Int) + 1), .int .i64 4])) ∧ Below w.heap.size w w'

theorem rows_calls (s : ByteArray) (w : World) : Calls Tryd.prog 43 #[.string s] w fun e w' => e = .returned (.func (.func 69) #[] #[.pointer (some ⟨w.heap.size, 0, none⟩)]) ∧ w' = w.alloc (.cells #[.string s] 9) := by
  go_enter Tryd.func43, Tryd.ntmps43
  go_wp2_with fail
  go_ret
  exact ⟨rfl, rfl⟩

/-- A row of rows keeps, where no block of cells from its base on turns. -/
theorem R_stays {α : Type} {d : Kd α} {e base : Nat} {W W' : World} {v : Value} {xs : List α} {row : Option Nat} (h : d.R e W base (fun _ => True) v xs) (hg : W.grownBy W' row) (hr : ∀ r, row = some r → r < base ∨ ∃ o : Obj, W.heap[r]? = some o ∧ o.isCells = false) : d.R e W' base (fun _ => True) v xs :=
  Kd.R_mono (Kd.R_step (Kd.R_bound h) (fun k hk hlt => hg.block k hlt (fun e => by
    obtain ⟨_, h1, h2, q, _, cells, hc⟩ := hk
    rcases hr k e.symm with h3 | ⟨o, ho, hn⟩
    · omega
    · rw [hc] at ho
      injection ho with ho
      subst ho
      cases hn))) (fun _ _ => trivial)
theorem WS.made {w : World} {b : Nat} {xs : List ByteArray} (h : WS w b xs) (hl : xs.length ≤ maxLen) (base : Nat) (hb : base ≤ b) : Kd.R Kd.string 9 w base (fun k => k = b) (.slice (some ⟨b, 0, none⟩) xs.length xs.length) xs :=
  Kd.R_of_own (enc := Value.string) (h1 := fun _ => rfl) ⟨by simp [encs], .inr ⟨b, xs.length, _, rfl, hb, h, Nat.le_refl _, hl, by simp [pw_strs], by simp only [pw_strs, encs, Nat.mul_one]; exact List.take_of_length_le (by simp)⟩⟩ (fun k hk => by simpa [Value.ownBlock] using hk.symm)
/-- A row of texts in a block is read. -/
theorem WS.reads {w : World} {b : Nat} {xs : List ByteArray} (h : WS w b xs) (hl : xs.length ≤ maxLen) : Kd.C Kd.string w (some ⟨b, 0, none⟩) xs.length xs := by
  obtain ⟨A, c, he, _, hc⟩ := Kd.R_reads (h.made hl 0 (Nat.zero_le _))
  injection he with h1
  subst h1
  exact hc
theorem loadVar_box {w : World} {g t : Nat} {v : Value} (h : Boxed w g t v) (ty : TypeId) (hu : (isAgg ty).run Tryd.prog w = .ok false w) : (loadVar ty ⟨g, 0, none⟩).run Tryd.prog w = .ok v w := by
  simp [loadVar, Sem.run_bind, hu, run_load, h.cell]
theorem un36 : Tryd.prog.underlying 36 = some (.slice 84) := by kernel_rfl
theorem un3 : Tryd.prog.underlying 3 = some (.int .i64) := by kernel_rfl
theorem un22 : Tryd.prog.underlying 22 = some (.int .i64) := by kernel_rfl
theorem agg36 (w : World) : (isAgg 36).run Tryd.prog w = .ok false w := run_isAgg_plain un36 rfl w
theorem agg3 (w : World) : (isAgg 3).run Tryd.prog w = .ok false w := run_isAgg_plain un3 rfl w
theorem agg22 (w : World) : (isAgg 22).run Tryd.prog w = .ok false w := run_isAgg_plain un22 rfl w
theorem results_boxes {fn : Func} {p q r : Tmp} {ty ty' ty'' : TypeId} {w : World} {a b c : Nat} {u v x : Value} (h : fn.results = #[.cell p ty, .cell q ty', .cell r ty'']) (tmps : Array Value)
    (hp : tmps.getD p undef = .pointer (some ⟨a, 0, none⟩)) (hq : tmps.getD q undef = .pointer (some ⟨b, 0, none⟩)) (hr : tmps.getD r undef = .pointer (some ⟨c, 0, none⟩))
    (ha : (loadVar ty ⟨a, 0, none⟩).run Tryd.prog w = .ok u w) (hb : (loadVar ty' ⟨b, 0, none⟩).run Tryd.prog w = .ok v w) (hc : (loadVar ty'' ⟨c, 0, none⟩).run Tryd.prog w = .ok x w) :
    (results fn tmps).run Tryd.prog w = .ok (.tuple #[u, v, x]) w := by
  have h1 : tmps[p]?.getD undef = .pointer (some ⟨a, 0, none⟩) := by simpa using hp
  have h2 : tmps[q]?.getD undef = .pointer (some ⟨b, 0, none⟩) := by simpa using hq
  have h3 : tmps[r]?.getD undef = .pointer (some ⟨c, 0, none⟩) := by simpa using hr
  simp [results, h, h1, h2, h3, asAddr, ha, hb, hc]
/-- Between two rounds of Lines; and where a round has left. -/
def LI (h : Nat) (wL : World) (pre : List (ByteArray × Bool)) (W : World) : Prop := (∃ v, Boxed W (h + 1 + 1 + 1) 36 v ∧ Kd.R (Kd.slice 9 Kd.string) 84 W (h + 5) (fun _ => True) v (pre.map fun x => wordsF x.1)) ∧ Boxed W h 36 (.slice none 0 0) ∧ Boxed W (h + 1) 3 (.int .i64 0) ∧ Boxed W (h + 1 + 1) 22 (.int .i64 0) ∧ pre.all okRow = true ∧ Below h wL W
def LX (h : Nat) (wL : World) (pre : List (ByteArray × Bool)) (W : World) : Prop := ∃ pre0 x, pre = pre0 ++ [x] ∧ pre0.all okRow = true ∧ okRow x = false ∧ Boxed W h 36 (.slice none 0 0) ∧ Boxed W (h + 1) 3 (.int .i64 ((pre0.length : Int) + 1)) ∧ Boxed W (h + 1 + 1) 22 (.int .i64 4) ∧ Below h wL W
theorem boxed_stays {W W' : World} {b t B B0 : Nat} {v : Value} {row : Option Nat} (h : Boxed W b t v) (hg : W.grownBy W' row) (hr : ∀ r, row = some r → r = B ∨ (B0 ≤ r ∧ ∃ o : Obj, W.heap[r]? = some o ∧ o.isCells = false)) (hne : b ≠ B) : Boxed W' b t v :=
  h.kept hg (fun e => by
    rcases hr b e.symm with h1 | ⟨_, o, ho, hn⟩
    · exact hne h1
    · rw [show W.heap[b]? = _ from h] at ho
      injection ho with ho
      subst ho
      cases hn)
def BoxX (W : World) (b t : Nat) : Prop := ∃ v, Boxed W b t v
theorem boxX_set {W : World} {b t : Nat} (v : Value) (h : BoxX W b t) : Boxed (W.setCell ⟨b, 0, none⟩ v) b t v := by
  obtain ⟨u, h⟩ := h
  exact h.set v
theorem boxX_other {W : World} {b b' t : Nat} (h : BoxX W b t) (hne : b ≠ b') (u : Value) : BoxX (W.setCell ⟨b', 0, none⟩ u) b t := by
  obtain ⟨v, h⟩ := h
  exact ⟨v, h.other hne u⟩
theorem boxX_drew {W : World} {b t : Nat} (h : BoxX W b t) : BoxX W.drew b t := h
theorem boxed_drew {W : World} {b t : Nat} {v : Value} (h : Boxed W b t v) : Boxed W.drew b t v := h
theorem keepsFrom_set {m : Nat} {W V : World} (h : KeepsFrom m W V) (p : Addr) (v : Value) : KeepsFrom m W (V.setCell p v) := h.trans ((KeepsOthers.setCell _ _ _).from _)
theorem keepsFrom_drew {m : Nat} {W V : World} (h : KeepsFrom m W V) : KeepsFrom m W V.drew := h.trans ((KeepsOthers.drew _).from _)
theorem keepsFrom_below {m : Nat} {W W' : World} (h : Below W.heap.size W W') : KeepsFrom m W W' := ⟨h.size, fun k o _ hk _ => (h.block k (Array.getElem?_eq_some_iff.1 hk).1).trans hk⟩

theorem splitF_size (c : UInt8) : ∀ n s, ∀ x ∈ splitF c n s, x.size ≤ s.size
  | 0, s, x, hx => by
    rw [splitF, List.mem_singleton] at hx
    rw [hx]; exact Nat.le_refl _
  | n + 1, s, x, hx => by
    rw [splitF, List.mem_cons] at hx
    rcases hx with rfl | hx
    · simp; omega
    · have := splitF_size c n _ x hx
      simp at this; omega
theorem wordsF_length (line : ByteArray) : (wordsF line).length = Lib.countByte line.data.toList 32 + 1 := splitF_length _ _ _
theorem count_le (line : ByteArray) (c : UInt8) : Lib.countByte line.data.toList c ≤ line.size := by rw [← data_length line]; exact List.count_le_length
theorem contains_words (line : ByteArray) (hl : line.size ≤ 1000000000) (B : Nat) (w : World) (hW : WS w B (wordsF line)) :
    Calls Tryd.prog 45 #[.slice (some ⟨B, 0, none⟩) (Lib.countByte line.data.toList 32 + 1) (Lib.countByte line.data.toList 32 + 1), .func (.func 46) #[] #[]] w fun e w' => e = .returned (.bool (!(wordsF line).all plainF)) ∧ Below w.heap.size w w' := by
  have hc := count_le line 32
  have hm : (wordsF line).length ≤ maxLen := by rw [wordsF_length]; unfold maxLen; omega
  have h := contains_calls (wordsF line) (some ⟨B, 0, none⟩) (Lib.countByte line.data.toList 32 + 1) (fun x hx => by have := splitF_size _ _ _ x hx; omega) w (hW.reads hm)
  rw [wordsF_length] at h
  rw [List.not_all_eq_any_not]
  exact h
theorem info84 : (Tryd.prog.info? 84).map (fun i => (i.zero, i.size, i.bytes)) = some (some (.slice none 0 0), 1, 24) := by kernel_rfl
theorem un36' : Tryd.prog.underlying 36 = some (.slice 84) := un36

set_option maxHeartbeats 4000000 in
set_option maxRecDepth 100000 in
theorem lines_calls (s : ByteArray) (hs : s.size ≤ 16777216) (w : World) :
    Calls Tryd.prog 19 #[.string s] w (LinesPost w s) := by
  refine (callsIn_wide (n := 5)).1 ?_
  refine callsIn_of_wp_marks Tryd.func19 rfl trivial ?_ rfl
  simp only [Tryd.ntmps19, List.size_toArray, List.length_cons, List.length_nil, Nat.reduceAdd, Nat.reduceSub, Array.replicate_succ, Array.replicate_zero, List.push_toArray, List.append_toArray, List.nil_append, List.cons_append]
  refine wpIn_wide.2 ?_
  go_wp2_with ((go_at_call 43; refine (rows_calls _ _).mono ?_; rintro e w' ⟨rfl, rfl⟩))
  obtain ⟨h, hh⟩ : ∃ h, w.heap.size = h := ⟨_, rfl⟩
  obtain ⟨wL, hwL⟩ : ∃ wL, ((((w.alloc (.cells #[.slice none 0 0] 36)).alloc (.cells #[.int .i64 0] 3)).alloc (.cells #[.int .i64 0] 22)).alloc (.cells #[.slice none 0 0] 36)).alloc (.cells #[.string s] 9) = wL := ⟨_, rfl⟩
  have b0 : Boxed wL h 36 (.slice none 0 0) := by rw [← hwL, ← hh]; exact ((((Boxed.new w 36 _).alloc _).alloc _).alloc _).alloc _
  have b1 : Boxed wL (h + 1) 3 (.int .i64 0) := by
    rw [← hwL, ← hh]
    have := (((Boxed.new (w.alloc (.cells #[.slice none 0 0] 36)) 3 (.int .i64 0)).alloc (.cells #[.int .i64 0] 22)).alloc (.cells #[.slice none 0 0] 36)).alloc (.cells #[.string s] 9)
    simpa only [World.size_alloc] using this
  have b2 : Boxed wL (h + 1 + 1) 22 (.int .i64 0) := by
    rw [← hwL, ← hh]
    have := ((Boxed.new ((w.alloc (.cells #[.slice none 0 0] 36)).alloc (.cells #[.int .i64 0] 3)) 22 (.int .i64 0)).alloc (.cells #[.slice none 0 0] 36)).alloc (.cells #[.string s] 9)
    simpa only [World.size_alloc] using this
  have b3 : Boxed wL (h + 1 + 1 + 1) 36 (.slice none 0 0) := by
    rw [← hwL, ← hh]
    have := (Boxed.new (((w.alloc (.cells #[.slice none 0 0] 36)).alloc (.cells #[.int .i64 0] 3)).alloc (.cells #[.int .i64 0] 22)) 36 (.slice none 0 0)).alloc (.cells #[.string s] 9)
    simpa only [World.size_alloc] using this
  have b4 : Boxed wL (h + 4) 9 (.string s) := by
    rw [← hwL, ← hh]
    have := Boxed.new ((((w.alloc (.cells #[.slice none 0 0] 36)).alloc (.cells #[.int .i64 0] 3)).alloc (.cells #[.int .i64 0] 22)).alloc (.cells #[.slice none 0 0] 36)) 9 (.string s)
    simpa only [World.size_alloc] using this
  have bw : Below h w wL := by rw [← hwL, ← hh]; exact (((((Below.refl _ w).alloc (Nat.le_refl _) _).alloc (by simp) _).alloc (by simp; omega) _).alloc (by simp; omega) _).alloc (by simp; omega) _
  have hz : wL.heap.size = h + 5 := by rw [← hwL, ← hh]; simp
  rw [hwL, hh]
  have HB0 := Aside0.mk (And.intro b0 (And.intro b1 (And.intro b2 (And.intro b3 (And.intro b4 bw)))))
  clear hwL b0 b1 b2 b3 bw
  refine (wpIn_wide (n := 5)).1 ?_
  refine' rangeBox (w := wL) (by decide) (gf := 69) (lb := #[.pointer (some ⟨h + 4, 0, none⟩)]) rfl (enters_of Tryd.func69 (by kernel_rfl) rfl)
    (rows1_box 4 (by decide) (h + 4) s (by omega) wL b4) (by omega) (Below.refl _ _) (fun _ => rfl)
    (LI h wL)
    (LX h wL)
    ?hI ?hIx ?h0 _ ?assign ?body ?done ?stop
  case assign =>
    intro l x W K hK
    gi_wp2
    exact hK
  case hI =>
    rintro pre W W' row ⟨⟨v, hv, hrow⟩, c0, c1, c2, hall, hB⟩ hg hr
    refine ⟨⟨v, boxed_stays hv hg hr (by omega), R_stays hrow hg (fun r e => ?_)⟩, boxed_stays c0 hg hr (by omega), boxed_stays c1 hg hr (by omega), boxed_stays c2 hg hr (by omega), hall, hB.grown hg (by have := hB.size; omega) (fun k e => ?_)⟩
    · rcases hr r e with h1 | ⟨_, h2⟩
      · exact .inl (by omega)
      · exact .inr h2
    · rcases hr k e with h1 | ⟨h2, _⟩ <;> omega
  case hIx =>
    rintro pre W W' row ⟨pre0, x, rfl, hall, hx, c0, c1, c2, hB⟩ hg hr
    refine ⟨pre0, x, rfl, hall, hx, boxed_stays c0 hg hr (by omega), boxed_stays c1 hg hr (by omega), boxed_stays c2 hg hr (by omega), hB.grown hg (by have := hB.size; omega) (fun k e => ?_)⟩
    rcases hr k e with h1 | ⟨h2, _⟩ <;> omega
  case h0 => exact ⟨⟨_, HB0.out.2.2.2.1, Kd.R_nil _ _ _ _ _⟩, HB0.out.1, HB0.out.2.1, HB0.out.2.2.1, rfl, Below.refl _ _⟩
  case body =>
    rintro l pre ⟨line, ended⟩ W hx ⟨⟨v, hv, hrow⟩, c0, c1, c2, hall, hB⟩ hlt
    replace hx : line.size ≤ s.size := hx
    have hn : 1 ≤ (5 : Nat) - 1 - 1 := by decide
    have hc3 := hv.cell
    have HO : Aside0 (h + 5 ≤ W.heap.size) := ⟨by have := hB.size; omega⟩
    have hwp : IntKind.i64.wrap ((pre.length : Int) + 1) = (pre.length : Int) + 1 := by rw [IntWalk.i64_in] <;> omega
    cases ended with
    | false =>
      obtain ⟨A, cp, rfl⟩ := Kd.R_slice hrow
      have HV := Aside0.mk hv
      have HR := Aside0.mk hrow
      clear hv hrow
      gi_wp2_with ((refine ⟨trivial, ?_⟩; gi_at_call 44; refine (CallsIn.inRound l (callsIn_wide.2 (strings_split_calls line 32 (by omega) _))).mono ?_; rintro e w1 ⟨B1, rfl, hB1, hW1, hb1⟩; have hc4 := (hb1.block (h + 1 + 1 + 1) HV.out.lt).trans HV.out; have hc5 := (show Boxed w1 (h + 1 + 1 + 1) 36 _ from hc4).cell; have HW1 := Aside0.mk hW1; have HB1 := Aside0.mk hb1; clear hc4 hW1 hb1))
      have d0 : Boxed w1 h 36 (.slice none 0 0) := (HB1.out.block h c0.lt).trans c0
      have d1 : Boxed w1 (h + 1) 3 (.int .i64 0) := (HB1.out.block (h + 1) c1.lt).trans c1
      have d2 : Boxed w1 (h + 1 + 1) 22 (.int .i64 0) := (HB1.out.block (h + 1 + 1) c2.lt).trans c2
      have e0 := d0.cell
      have f0 := d0.frozen
      have e1 := d1.cell
      have f1 := d1.frozen
      have e2 := d2.cell
      have f2 := d2.frozen
      have HD := Aside0.mk (And.intro d0 (And.intro d1 d2))
      have HB := Aside0.mk hB
      have HA := Aside0.mk hall
      clear d0 d1 d2 c0 c1 c2 hB hall hc3
      refine ⟨trivial, ?_⟩
      gi_wp2
      gi_region
      all_goals gi_wp2
      all_goals have D0 := HD.out.1
      all_goals have D1 := HD.out.2.1
      all_goals have D2 := HD.out.2.2
      all_goals have X0 : BoxX w1 h 36 := ⟨_, D0⟩
      all_goals have X1 : BoxX w1 (h + 1) 3 := ⟨_, D1⟩
      all_goals have X2 : BoxX w1 (h + 1 + 1) 22 := ⟨_, D2⟩
      all_goals have DB := HB.out.trans (HB1.out.mono (by have := HB.out.size; omega))
      all_goals have DK : KeepsFrom wL.heap.size W w1 := keepsFrom_below HB1.out
      all_goals refine ⟨?_, pre, (line, false), rfl, HA.out, rfl, ?_, ?_, ?_, ?_⟩
      all_goals (repeat (first | with_reducible exact D0 | with_reducible exact D1 | with_reducible exact D2 | with_reducible exact DB | with_reducible exact DK | with_reducible exact X0 | with_reducible exact X1 | with_reducible exact X2 | with_reducible refine boxX_set _ ?_ | with_reducible refine boxX_drew ?_ | with_reducible refine boxX_other ?_ (by omega) _ | with_reducible refine boxed_drew ?_ | with_reducible refine Below.drew ?_ | with_reducible refine keepsFrom_set ?_ _ _ | with_reducible refine keepsFrom_drew ?_ | with_reducible refine Boxed.other ?_ (by omega) _ | with_reducible refine Below.setCell ?_ (by first | (simp; done) | (simp; omega)) _))
    | true =>
      obtain ⟨A, cp, rfl⟩ := Kd.R_slice hrow
      rw [List.length_map] at hv hrow hc3
      have HV := Aside0.mk hv
      have HR := Aside0.mk hrow
      clear hv hrow
      obtain ⟨i0, hi0, hz0, hz1, hz2⟩ := info_parts info84
      cases hp : (wordsF line).all plainF with
      | false =>
        have HP := Aside0.mk hp
        clear hp
        gi_wp2_with (first
          | ((refine ⟨trivial, ?_⟩; gi_at_call 44; refine (CallsIn.inRound l (callsIn_wide.2 (strings_split_calls line 32 (by omega) _))).mono ?_; rintro e w1 ⟨B1, rfl, hB1, hW1, hb1⟩; have HW1 := Aside0.mk hW1; have HB1 := Aside0.mk hb1; clear hW1 hb1))
          | ((refine ⟨trivial, ?_⟩; gi_at_call 45; refine (CallsIn.inRound l (callsIn_wide.2 (contains_words line (by omega) B1 _ HW1.out))).mono ?_; rintro e w2 ⟨rfl, hb2⟩; rw [HP.out]; have HB2 := Aside0.mk (HB1.out.trans (hb2.mono HB1.out.size)); clear hb2; have hc4 := (HB2.out.block (h + 1 + 1 + 1) HV.out.lt).trans HV.out; have hc5 := (show Boxed w2 (h + 1 + 1 + 1) 36 _ from hc4).cell; clear hc4)))
        have d0 : Boxed w2 h 36 (.slice none 0 0) := (HB2.out.block h c0.lt).trans c0
        have d1 : Boxed w2 (h + 1) 3 (.int .i64 0) := (HB2.out.block (h + 1) c1.lt).trans c1
        have d2 : Boxed w2 (h + 1 + 1) 22 (.int .i64 0) := (HB2.out.block (h + 1 + 1) c2.lt).trans c2
        have e0 := d0.cell
        have f0 := d0.frozen
        have e1 := d1.cell
        have f1 := d1.frozen
        have e2 := d2.cell
        have f2 := d2.frozen
        have HD := Aside0.mk (And.intro d0 (And.intro d1 d2))
        have HB := Aside0.mk hB
        have HA := Aside0.mk hall
        clear d0 d1 d2 c0 c1 c2 hB hall hc3
        gi_region
        all_goals gi_wp2
        all_goals have D0 := HD.out.1
        all_goals have D1 := HD.out.2.1
        all_goals have D2 := HD.out.2.2
        all_goals have X0 : BoxX w2 h 36 := ⟨_, D0⟩
        all_goals have X1 : BoxX w2 (h + 1) 3 := ⟨_, D1⟩
        all_goals have X2 : BoxX w2 (h + 1 + 1) 22 := ⟨_, D2⟩
        all_goals have DB := HB.out.trans (HB2.out.mono (by have := HB.out.size; omega))
        all_goals have DK : KeepsFrom wL.heap.size W w2 := keepsFrom_below HB2.out
        all_goals refine ⟨?_, pre, (line, true), rfl, HA.out, (by show (true && (wordsF line).all plainF) = false; rw [HP.out]; rfl), ?_, ?_, ?_, ?_⟩
        all_goals (repeat (first | with_reducible exact D0 | with_reducible exact D1 | with_reducible exact D2 | with_reducible exact DB | with_reducible exact DK | with_reducible exact X0 | with_reducible exact X1 | with_reducible exact X2 | with_reducible refine boxX_set _ ?_ | with_reducible refine boxX_drew ?_ | with_reducible refine boxX_other ?_ (by omega) _ | with_reducible refine boxed_drew ?_ | with_reducible refine Below.drew ?_ | with_reducible refine keepsFrom_set ?_ _ _ | with_reducible refine keepsFrom_drew ?_ | with_reducible refine Boxed.other ?_ (by omega) _ | with_reducible refine Below.setCell ?_ (by first | (simp; done) | (simp; omega)) _))
      | true =>
        have HP := Aside0.mk hp
        clear hp
        gi_wp2_with (first
          | ((refine ⟨trivial, ?_⟩; gi_at_call 44; refine (CallsIn.inRound l (callsIn_wide.2 (strings_split_calls line 32 (by omega) _))).mono ?_; rintro e w1 ⟨B1, rfl, hB1, hW1, hb1⟩; have HW1 := Aside0.mk hW1; have HB1 := Aside0.mk hb1; clear hW1 hb1))
          | ((refine ⟨trivial, ?_⟩; gi_at_call 45; refine (CallsIn.inRound l (callsIn_wide.2 (contains_words line (by omega) B1 _ HW1.out))).mono ?_; rintro e w2 ⟨rfl, hb2⟩; rw [HP.out]; have HB2 := Aside0.mk (HB1.out.trans (hb2.mono HB1.out.size)); have HW2 := Aside0.mk (show WS w2 B1 (wordsF line) from blk_below HW1.out hb2); clear hb2; have hc4 := (HB2.out.block (h + 1 + 1 + 1) HV.out.lt).trans HV.out; have hc5 := (show Boxed w2 (h + 1 + 1 + 1) 36 _ from hc4).cell; have HX := Aside0.mk (show Boxed w2 (h + 1 + 1 + 1) 36 (.slice A pre.length cp) from hc4); have HR2 := Aside0.mk (Kd.R_below HR.out HB2.out); clear hc4))
          | (gi_at_builtin; obtain ⟨q0, inner, hown, hreps⟩ := Kd.R_below HR2.out ((Below.refl _ w2).alloc (Nat.le_refl _) (.cells #[.slice (some ⟨B1, 0, none⟩) (Lib.countByte line.data.toList 32 + 1) (Lib.countByte line.data.toList 32 + 1)] 84)); (refine wpListIn_append_own_at _ rfl _ _ 36 rfl (h + 5) 84 i0 (.slice none 0 0) 1 24 un36 hi0 hz0 hz1 hz2 rfl (by decide) _ _ _ rfl hown ⟨w2.heap.size, 0, none⟩ 1 1 [.slice (some ⟨B1, 0, none⟩) (Lib.countByte line.data.toList 32 + 1) (Lib.countByte line.data.toList 32 + 1)] rfl rfl (cell_one_new _ _ _) (by simp [Value.oneCell']) (by simp; unfold maxLen; omega) (by simp; omega) (by have := HB2.out.size; have := HO.out; simp; omega) ?_); intro v' w3 hown3 hgrow3 _ hat3; rw [List.length_map] at hown3; have HH := Aside0.mk (And.intro q0 (And.intro hown (And.intro hreps (And.intro hown3 (And.intro hgrow3 hat3))))); clear q0 hreps hat3; obtain ⟨g', cap', rfl⟩ := ownsRow_succ hown3; have hx3 := ((HX.out.alloc (.cells #[.slice (some ⟨B1, 0, none⟩) (Lib.countByte line.data.toList 32 + 1) (Lib.countByte line.data.toList 32 + 1)] 84)).kept hgrow3 (HX.out.alloc (.cells #[.slice (some ⟨B1, 0, none⟩) (Lib.countByte line.data.toList 32 + 1) (Lib.countByte line.data.toList 32 + 1)] 84) |>.not_row (by decide) hown)); have hc6 := hx3.cell; have hf6 := hx3.frozen; clear hx3 hown hown3 hgrow3))
        obtain ⟨q0, hown, hreps, hown3, hgrow3, hat3⟩ := HH.out
        have s0 := HO.out
        have s2 := HB2.out.size
        obtain ⟨_, inner0, how, _⟩ := HR2.out
        obtain ⟨_, hv2, _, hk2, hb2⟩ := HX.out.appended (by decide) (own_weaken how (show h ≤ h + 5 by omega)) (by omega) (by omega) (own_weaken hown3 (show h ≤ h + 5 by omega)) hgrow3
        have hnb : ∀ b, b < W.heap.size → b ≠ h + 1 + 1 + 1 → b < h + 5 → (w3.setCell ⟨h + 1 + 1 + 1, 0, none⟩ (.slice (some ⟨g', 0, none⟩) (pre.length + 1) cap')).heap[b]? = W.heap[b]? := by
          intro b hb1 hb2 hb3
          rw [Below.heap_setCell _ _ _ _ (by simpa using hb2), hgrow3.block b (by simp; omega) (fun e => by have := own_base hown b e.symm; omega), Below.heap_alloc _ _ _ (by omega)]
          exact HB2.out.block b hb1
        have hm : (wordsF line).length ≤ maxLen := by
          have hc := count_le line 32
          rw [wordsF_length]; unfold maxLen; omega
        have hM : (Kd.slice 9 Kd.string).M (w2.alloc (.cells #[.slice (some ⟨B1, 0, none⟩) (Lib.countByte line.data.toList 32 + 1) (Lib.countByte line.data.toList 32 + 1)] 84)) (h + 5) (fun k => k = B1) (wordsF line) [.slice (some ⟨B1, 0, none⟩) (Lib.countByte line.data.toList 32 + 1) (Lib.countByte line.data.toList 32 + 1)] := by
          refine ⟨_, rfl, ?_⟩
          have h1 : WS (w2.alloc (.cells #[.slice (some ⟨B1, 0, none⟩) (Lib.countByte line.data.toList 32 + 1) (Lib.countByte line.data.toList 32 + 1)] 84)) B1 (wordsF line) := blk_below HW2.out ((Below.refl _ w2).alloc (Nat.le_refl _) _)
          have h2 := h1.made hm (h + 5) (by omega)
          rw [wordsF_length] at h2
          exact h2
        have hRa := Kd.R_appended (d := Kd.slice 9 Kd.string) (ok := fun _ => True) q0 hreps hM (fun k hk => ⟨trivial, fun e => by
          obtain ⟨_, _, howW, _⟩ := HR.out
          have := own_lt howW k e.symm
          omega⟩) (fun _ _ => trivial) (by rw [List.length_map]; exact hown3) hgrow3 (hat3.imp id fun e => ⟨_, e, Nat.le_refl _⟩)
        have hBx3 := (HX.out.alloc (.cells #[.slice (some ⟨B1, 0, none⟩) (Lib.countByte line.data.toList 32 + 1) (Lib.countByte line.data.toList 32 + 1)] 84)).kept hgrow3 ((HX.out.alloc (.cells #[.slice (some ⟨B1, 0, none⟩) (Lib.countByte line.data.toList 32 + 1) (Lib.countByte line.data.toList 32 + 1)] 84)).not_row (by decide) hown)
        have hRb := Kd.R_set hRa hBx3 (by decide) 0 (.slice (some ⟨g', 0, none⟩) (pre.length + 1) cap')
        refine ⟨(keepsFrom_below HB2.out).trans (hk2.from _), hnb _ (by omega) (by omega) (by omega), ⟨_, hv2, by rw [List.map_append]; exact hRb⟩, (hnb h c0.lt (by omega) (by omega)).trans c0, (hnb (h + 1) c1.lt (by omega) (by omega)).trans c1, (hnb (h + 1 + 1) c2.lt (by omega) (by omega)).trans c2, ?_, hB.trans ((HB2.out.mono (by omega)).trans hb2)⟩
        rw [List.all_append, hall]
        show (true && ((true && (wordsF line).all plainF) && true)) = true
        rw [HP.out]; rfl
  case done =>
    rintro D ys W hD rfl ⟨⟨v, hv, hrow⟩, c0, c1, c2, hall, hB⟩ hK
    obtain ⟨A, cp, rfl⟩ := Kd.R_slice hrow
    have hc3 := hv.cell
    have hc0 := c0.cell
    have hf0 := c0.frozen
    have hc1 := c1.cell
    have hf1 := c1.frozen
    have hc2 := c2.cell
    have hf2 := c2.frozen
    have HK := Aside0.mk (And.intro c0 (And.intro c1 (And.intro c2 (And.intro hrow (And.intro hB hall)))))
    clear hv hrow c0 c1 c2 hB hall
    gi_wp2
    go_wp2
    have kD : KeepsOthers W (((W.setCell ⟨h, 0, none⟩ (.slice A (rowsF s.size s).length cp)).setCell ⟨h + 1, 0, none⟩ (.int .i64 0)).setCell ⟨h + 1 + 1, 0, none⟩ (.int .i64 0)) := ((KeepsOthers.setCell _ _ _).trans (KeepsOthers.setCell _ _ _)).trans (KeepsOthers.setCell _ _ _)
    have hK2 := kD.same D _ hK rfl
    obtain ⟨c0, c1, c2, hrow, hB, hall⟩ := HK.out
    rw [List.length_map] at hrow
    have g0 := (((c0.set (.slice A (rowsF s.size s).length cp)).other (B' := h + 1) (by omega) (.int .i64 0)).other (B' := h + 1 + 1) (by omega) (.int .i64 0))
    have g1 := (((c1.other (B' := h) (by omega) (.slice A (rowsF s.size s).length cp)).set (.int .i64 0)).other (B' := h + 1 + 1) (by omega) (.int .i64 0))
    have g2 := (((c2.other (B' := h) (by omega) (.slice A (rowsF s.size s).length cp)).other (B' := h + 1) (by omega) (.int .i64 0)).set (.int .i64 0))
    have r1 := Kd.R_set hrow c0 (by decide) 0 (.slice A (rowsF s.size s).length cp)
    have r2 := Kd.R_set r1 (c1.other (B' := h) (by omega) (.slice A (rowsF s.size s).length cp)) (by decide) 0 (.int .i64 0)
    have r3 := Kd.R_set r2 ((c2.other (B' := h) (by omega) (.slice A (rowsF s.size s).length cp)).other (B' := h + 1) (by omega) (.int .i64 0)) (by decide) 0 (.int .i64 0)
    have bl : Below h w (((W.setCell ⟨h, 0, none⟩ (.slice A (rowsF s.size s).length cp)).setCell ⟨h + 1, 0, none⟩ (.int .i64 0)).setCell ⟨h + 1 + 1, 0, none⟩ (.int .i64 0)) := (((HB0.out.2.2.2.2.2.trans hB).setCell (p := ⟨h, 0, none⟩) (Nat.le_refl _) _).setCell (p := ⟨h + 1, 0, none⟩) (by simp) _).setCell (p := ⟨h + 1 + 1, 0, none⟩) (by simp; omega) _
    revert hK2 g0 g1 g2 r3 bl
    generalize (((W.setCell ⟨h, 0, none⟩ (.slice A (rowsF s.size s).length cp)).setCell ⟨h + 1, 0, none⟩ (.int .i64 0)).setCell ⟨h + 1 + 1, 0, none⟩ (.int .i64 0)) = V
    intro hK2 g0 g1 g2 r3 bl
    refine ⟨by simp, .inl ⟨_, _, rfl, run_takeDeferred hK2, ?_⟩⟩
    have hg := grownBy_putObj' V D (.deferred none)
    refine ⟨_, results_boxes rfl _ rfl rfl rfl (loadVar_box (g0.kept hg (by simp; omega)) 36 (agg36 _)) (loadVar_box (g1.kept hg (by simp; omega)) 3 (agg3 _)) (loadVar_box (g2.kept hg (by simp; omega)) 22 (agg22 _)), ?_⟩
    refine ⟨.inl ⟨hall, _, rfl, ?_⟩, ?_⟩
    · rw [hh]
      exact (R_stays r3 hg (fun r e => by cases e; exact .inr ⟨_, hK2, rfl⟩)) |> fun r => Kd.R_lower r (by omega)
    · rw [hh]
      exact bl.grown hg (by have := bl.size; omega) (fun k e => by cases e; omega)
  case stop =>
    rintro D pre W hD ⟨rest, hk⟩ ⟨pre0, x, rfl, hall, hx, c0, c1, c2, hB⟩ hK
    gi_wp2
    all_goals (try go_wp2)
    refine ⟨by simp, .inl ⟨_, _, rfl, run_takeDeferred hK, ?_⟩⟩
    have hg := grownBy_putObj' W D (.deferred none)
    refine ⟨_, results_boxes rfl _ rfl rfl rfl (loadVar_box (c0.kept hg (by simp; omega)) 36 (agg36 _)) (loadVar_box (c1.kept hg (by simp; omega)) 3 (agg3 _)) (loadVar_box (c2.kept hg (by simp; omega)) 22 (agg22 _)), ?_⟩
    refine ⟨.inr ⟨pre0, x, rest, by rw [hk, List.append_assoc]; rfl, hall, hx, rfl⟩, ?_⟩
    rw [hh]
    exact (HB0.out.2.2.2.2.2.trans hB).grown hg (by have := (HB0.out.2.2.2.2.2.trans hB).size; omega) (fun k e => by cases e; omega)
end Go.Proofs.YtiddiboclfpklaaDoor.Tx
