/- Lemmas that the claim's theorem uses. -/
import Derived.Test.YtiddiboclfpklaaDoorBkW
import Derived.Test.YtiddiboclfpklaaDoorBkT
namespace Go.Proofs.YtiddiboclfpklaaDoor.Tz
open Go.RowKit Go.Proofs.YtiddiboclfpklaaDoorW.PrintWords Go.Proofs.YtiddiboclfpklaaDoor.PScriptReads Go.Proofs.YtiddiboclfpklaaDoor.Tx
set_option linter.unusedVariables false
set_option linter.unusedSimpArgs false
/-- The box, and nothing elder touched. -/
structure QC (w wr : World) (cs : Array Value) : Prop where
  b0 : wr.heap[w.heap.size]? = some (.cells cs 49 (0, 0))
  bel : Below w.heap.size w wr
theorem QC.below {w wr w2 : World} {cs : Array Value} (S : QC w wr cs) (hb : Below wr.heap.size wr w2) : QC w w2 cs := ⟨blk_below S.b0 hb, S.bel.trans (hb.mono S.bel.size)⟩
theorem QC.new (w : World) (cs : Array Value) : QC w (w.alloc (.cells cs 49)) cs := ⟨blk_new w _, below_alloc (Below.refl _ _) _⟩
theorem QC.drew {w wr : World} {cs : Array Value} (S : QC w wr cs) : QC w wr.drew cs := ⟨S.b0, below_drew1 S.bel⟩
theorem QC.drewN {w wr : World} {cs : Array Value} (S : QC w wr cs) (n : Nat) : QC w (wr.drewN n) cs := ⟨S.b0, pw_below_drewN S.bel n⟩
theorem QC.alloc {w wr : World} {cs : Array Value} (S : QC w wr cs) (o : Obj) : QC w (wr.alloc o) cs := ⟨blk_alloc S.b0 o, below_alloc S.bel o⟩
theorem map57_66 (ls : List S57) : (ls.map act66).map act57 = ls := by
  rw [List.map_map]
  exact List.map_id' ls
theorem printF_size (g0 g1 g2 g3 g4 g5 : Int) (B : ByteArray) (ls : List S66) (k : Nat) (h : (textB (rowsOf g0 g1 g2 g3 g4 g5 B ls)).length ≤ k) : (printF g0 g1 g2 g3 g4 g5 B ls).1.size ≤ k := by
  unfold printF
  split
  · rcases joinF_form (rowsOf g0 g1 g2 g3 g4 g5 B ls) with ⟨_, h2⟩ | h2
    · rw [h2]; show (ofL _).size ≤ k; rw [ofL_size]; exact h
    · rw [h2]; exact Nat.zero_le _
  · exact Nat.zero_le _
/-- A text's script, printed. -/
theorem print_read (s : ByteArray) (hs : s.size ≤ 16000000) (g0 g1 g2 g3 g4 g5 : Int) (B : ByteArray) (acts : List S66) (n : Int) (h : parseP s = (([g0, g1, g2, g3, g4, g5], B, acts), n, 0)) (A : Option Addr) (c : Nat) (W : World) (hC : Kd.C k66 W A acts.length acts) :
    Calls Tryd.prog 26 #[.agg #[.int .i64 g0, .int .i64 g1, .int .i64 g2, .int .i64 g3, .int .i64 g4, .int .i64 g5, .string B, .slice A acts.length c]] W fun e w' => e = .returned (.tuple #[.string s, .int .i64 0]) ∧ Below W.heap.size W w' := by
  obtain ⟨h1, h2, h3, h4, h5, h6, h7, l, hl, y, hy, hB⟩ := print_parse s g0 g1 g2 g3 g4 g5 B acts n h
  have hr := linesF_rows s hs
  have hp : printF g0 g1 g2 g3 g4 g5 B acts = (s, 0) := by unfold printF; rw [if_pos h2, h1, h3]
  have hc := print_calls g0 g1 g2 g3 g4 g5 B acts A c W hC h5 (by have q1 := unhexS_size y; have q2 := hr.word l hl y hy; rw [hB]; omega) (fun a ha => by
    obtain ⟨l, hl, rfl, ho⟩ := h6 a ha
    cases l with
    | nil => cases ho
    | cons x r =>
      obtain ⟨a, ha⟩ := Option.isSome_iff_exists.1 (show (actP x r).isSome = true from ho)
      rw [show actD (x :: r) = a by show (actP x r).getD z66 = a; rw [ha]; rfl]
      exact actP_ok x r a (fun z hz => hr.word _ hl z (List.mem_cons_of_mem _ hz)) (by have := hr.row _ hl; simp at this; omega) ha) (by have := hr.len; omega) (by rw [h1]; exact hr.word) (by rw [h1, h4]; omega)
  rw [hp] at hc
  exact hc
theorem parseP_er (s : ByteArray) : (parseP s).2.2 = 0 ∨ (parseP s).2.2 = 4 := by
  unfold parseP
  split
  · match (linesF s).1 with
    | [] => exact .inr rfl
    | [d] => rw [rowsP]; split <;> exact .inr rfl
    | d :: p :: al =>
      rw [rowsP]
      split
      · split
        · split
          · exact .inl rfl
          · exact .inr rfl
        · exact .inr rfl
      · exact .inr rfl
  · rename_i hne
    rcases linesF_form s with ⟨_, h⟩ | ⟨_, h⟩
    · exact absurd (by rw [h]) hne
    · exact .inr h
set_option maxHeartbeats 2000000 in
set_option maxRecDepth 100000 in
theorem back_great (g0 g1 g2 g3 g4 g5 : Int) (B : ByteArray) (ls : List S57) (A : Option Addr) (c : Nat) (text : ByteArray) (w : World)
    (hr : Kd.C k57 w A ls.length ls) (hc : ls.length ≤ c) (hg : I64 g0 ∧ I64 g1 ∧ I64 g2 ∧ I64 g3 ∧ I64 g4 ∧ I64 g5) (hB : B.size ≤ 16777216) (hls : ∀ x ∈ ls, ActOk (act66 x)) (hl : ls.length ≤ 16777216)
    (hsz : ∀ l ∈ rowsOf g0 g1 g2 g3 g4 g5 B (ls.map act66), ∀ x ∈ l, x.size ≤ 16777216) (hT : (textB (rowsOf g0 g1 g2 g3 g4 g5 B (ls.map act66))).length ≤ 16000000) (htx : 6000 < text.size) :
    Calls Tryd.prog 9 #[.agg #[.int .i64 g0, .int .i64 g1, .int .i64 g2, .int .i64 g3, .int .i64 g4, .int .i64 g5, .string B, .slice A ls.length c], .string text] w fun e w' => e = .returned (.bool true) ∧ Below w.heap.size w w' := by
  have HG : Aside0 (∀ W, Below w.heap.size w W → Calls Tryd.prog 24 #[.agg #[.int .i64 g0, .int .i64 g1, .int .i64 g2, .int .i64 g3, .int .i64 g4, .int .i64 g5, .string B, .slice A ls.length c]] W fun e w' => Says e ∧ Below W.heap.size W w') := ⟨fun W hb => great_calls g0 g1 g2 g3 g4 g5 B ls A c W (Kd.C_below hr hb)⟩
  have HAW : Aside0 (∀ W, Calls Tryd.prog 25 #[] W fun e w' => e = .returned (.bool true) ∧ Below W.heap.size W w') := ⟨fun W => awake40_calls W⟩
  clear hr hc hg hB hls hl hsz hT
  obtain ⟨n, hn⟩ : ∃ n, ls.length = n := ⟨_, rfl⟩
  rw [hn] at HG ⊢
  clear hn
  have Q0 := Aside0.mk (QC.new w #[.int .i64 g0, .int .i64 g1, .int .i64 g2, .int .i64 g3, .int .i64 g4, .int .i64 g5, .string B, .slice A n c])
  have e6 : decide (6000 < (text.size : Int)) = true := decide_eq_true (by omega)
  have e7 : decide (6000 < text.size) = true := decide_eq_true (by omega)
  go_enter Tryd.func9, Tryd.ntmps9
  go_wp2_with (first
    | (go_at_call 24; (with_reducible refine (HG.out _ Q0.out.bel).mono ?_); rintro e w1 ⟨⟨gb, rfl⟩, hB⟩; have Q1 := Aside0.mk (Q0.out.below hB); clear hB)
    | (go_at_call 25; (with_reducible refine (HAW.out _).mono ?_); rintro e w2 ⟨rfl, hB⟩; have Q2 := Aside0.mk (Q1.out.below hB); clear hB))
  all_goals go_ret
  all_goals exact ⟨rfl, Q2.out.bel⟩
set_option maxHeartbeats 2000000 in
set_option maxRecDepth 100000 in
theorem back_nn (g0 g1 g2 g3 g4 g5 : Int) (B : ByteArray) (ls : List S57) (A : Option Addr) (c : Nat) (text : ByteArray) (w : World)
    (hr : Kd.C k57 w A ls.length ls) (hc : ls.length ≤ c) (hg : I64 g0 ∧ I64 g1 ∧ I64 g2 ∧ I64 g3 ∧ I64 g4 ∧ I64 g5) (hB : B.size ≤ 16777216) (hls : ∀ x ∈ ls, ActOk (act66 x)) (hl : ls.length ≤ 16777216)
    (hsz : ∀ l ∈ rowsOf g0 g1 g2 g3 g4 g5 B (ls.map act66), ∀ x ∈ l, x.size ≤ 16777216) (hT : (textB (rowsOf g0 g1 g2 g3 g4 g5 B (ls.map act66))).length ≤ 16000000) (htx6 : text.size ≤ 6000) (hex0 : ¬ (printF g0 g1 g2 g3 g4 g5 B (ls.map act66)).2 = 0) (her0 : (parseP text).2.2 = 4) :
    Calls Tryd.prog 9 #[.agg #[.int .i64 g0, .int .i64 g1, .int .i64 g2, .int .i64 g3, .int .i64 g4, .int .i64 g5, .string B, .slice A ls.length c], .string text] w fun e w' => e = .returned (.bool true) ∧ Below w.heap.size w w' := by
  have HG : Aside0 (∀ W, Below w.heap.size w W → Calls Tryd.prog 24 #[.agg #[.int .i64 g0, .int .i64 g1, .int .i64 g2, .int .i64 g3, .int .i64 g4, .int .i64 g5, .string B, .slice A ls.length c]] W fun e w' => Says e ∧ Below W.heap.size W w') := ⟨fun W hb => great_calls g0 g1 g2 g3 g4 g5 B ls A c W (Kd.C_below hr hb)⟩
  have HAW : Aside0 (∀ W, Calls Tryd.prog 25 #[] W fun e w' => e = .returned (.bool true) ∧ Below W.heap.size W w') := ⟨fun W => awake40_calls W⟩
  have HOf : Aside0 (∀ W, Below w.heap.size w W → Calls Tryd.prog 27 #[.agg #[.int .i64 g0, .int .i64 g1, .int .i64 g2, .int .i64 g3, .int .i64 g4, .int .i64 g5, .string B, .slice A ls.length c]] W fun e w' => ∃ A2 c2, e = .returned (.agg #[.int .i64 g0, .int .i64 g1, .int .i64 g2, .int .i64 g3, .int .i64 g4, .int .i64 g5, .string B, .slice A2 ls.length c2]) ∧ Kd.C k66 w' A2 ls.length (ls.map act66) ∧ Below W.heap.size W w') := ⟨fun W hb => by
    have h := of_calls57 g0 g1 g2 g3 g4 g5 B ls A c W (Kd.C_below hr hb) hc hl
    rw [List.length_map] at h
    exact h⟩
  have hok : ∀ a ∈ ls.map act66, ActOk a := fun a ha => by
    obtain ⟨y, hy, rfl⟩ := List.mem_map.1 ha
    exact hls y hy
  have HPr : Aside0 (∀ W A2 c2, Kd.C k66 W A2 ls.length (ls.map act66) → Calls Tryd.prog 26 #[.agg #[.int .i64 g0, .int .i64 g1, .int .i64 g2, .int .i64 g3, .int .i64 g4, .int .i64 g5, .string B, .slice A2 ls.length c2]] W fun e w' => e = .returned (.tuple #[.string (printF g0 g1 g2 g3 g4 g5 B (ls.map act66)).1, .int .i64 (printF g0 g1 g2 g3 g4 g5 B (ls.map act66)).2]) ∧ Below W.heap.size W w') := ⟨fun W A2 c2 h2 => by
    have h := print_calls g0 g1 g2 g3 g4 g5 B (ls.map act66) A2 c2 W (by rw [List.length_map]; exact h2) hg hB hok (by rw [List.length_map]; exact hl) hsz (by omega)
    rw [List.length_map] at h
    exact h⟩
  have HBk : Aside0 (∀ W A9 c9, Kd.C k66 W A9 ls.length (ls.map act66) → ls.length ≤ c9 → Calls Tryd.prog 36 #[.agg #[.int .i64 g0, .int .i64 g1, .int .i64 g2, .int .i64 g3, .int .i64 g4, .int .i64 g5, .string B, .slice A9 ls.length c9]] W fun e w' => (∃ A2 c2, e = .returned (.agg #[.int .i64 g0, .int .i64 g1, .int .i64 g2, .int .i64 g3, .int .i64 g4, .int .i64 g5, .string B, .slice A2 ls.length c2]) ∧ Kd.C k57 w' A2 ls.length ls) ∧ Below W.heap.size W w') := ⟨fun W A9 c9 h9 hc9 => by
    have h := back_calls g0 g1 g2 g3 g4 g5 B (ls.map act66) A9 c9 W (by rw [List.length_map]; exact h9) (by rw [List.length_map]; exact hc9) (by rw [List.length_map]; exact hl)
    rw [map57_66, List.length_map] at h
    refine h.mono ?_
    rintro e w' ⟨A2, c2, he, _, hC, hB⟩
    exact ⟨⟨A2, c2, he, hC⟩, hB⟩⟩
  have HSm : Aside0 (∀ W A2 c2, Below w.heap.size w W → Kd.C k57 W A2 ls.length ls → Calls Tryd.prog 35 #[.agg #[.int .i64 g0, .int .i64 g1, .int .i64 g2, .int .i64 g3, .int .i64 g4, .int .i64 g5, .string B, .slice A2 ls.length c2], .agg #[.int .i64 g0, .int .i64 g1, .int .i64 g2, .int .i64 g3, .int .i64 g4, .int .i64 g5, .string B, .slice A ls.length c]] W fun e w' => e = .returned (.bool true) ∧ Below W.heap.size W w') := ⟨fun W A2 c2 hb h2 => sameScript_calls g0 g1 g2 g3 g4 g5 B ls A2 c2 A c W h2 (Kd.C_below hr hb) (fun a ha => ⟨(hls a ha).vl, (hls a ha).ml⟩) hl⟩
  have hpz := printF_size g0 g1 g2 g3 g4 g5 B (ls.map act66) 16000000 hT
  obtain ⟨tx, htx⟩ : ∃ tx, (printF g0 g1 g2 g3 g4 g5 B (ls.map act66)).1 = tx := ⟨_, rfl⟩
  obtain ⟨ex, hex⟩ : ∃ ex, (printF g0 g1 g2 g3 g4 g5 B (ls.map act66)).2 = ex := ⟨_, rfl⟩
  rw [htx, hex] at HPr
  rw [htx] at hpz
  have ex1 : (ex == 0) = false := beq_eq_false_iff_ne.2 (fun e => hex0 (hex.trans e))
  have HP2 : Aside0 (∀ W, Calls Tryd.prog 33 #[.string text] W fun e w' => (∃ h0 h1 h2 h3 h4 h5 B2 A8 m8 c8 n2, e = .returned (.tuple #[.agg #[.int .i64 h0, .int .i64 h1, .int .i64 h2, .int .i64 h3, .int .i64 h4, .int .i64 h5, .string B2, .slice A8 m8 c8], .int .i64 n2, .int .i64 4])) ∧ Below W.heap.size W w') := ⟨fun W => (parse_calls text (by omega) W _ ⟨rfl⟩).mono (by
    rintro e w' ⟨⟨h0, h1, h2, h3, h4, h5, B2, v, acts, n, er, rfl, hv, ho⟩, hB⟩
    obtain ⟨A8, c8, rfl⟩ := Kd.R_slice hv
    have he : er = 4 := by rw [ho] at her0; exact her0
    subst he
    exact ⟨⟨h0, h1, h2, h3, h4, h5, B2, A8, _, c8, n, rfl⟩, hB⟩)⟩
  clear hr hc hg hB hls hl hsz hT hok hpz her0 htx hex hex0
  obtain ⟨n, hn⟩ : ∃ n, ls.length = n := ⟨_, rfl⟩
  rw [hn] at HG HOf HPr HBk HSm  ⊢
  clear hn
  have Q0 := Aside0.mk (QC.new w #[.int .i64 g0, .int .i64 g1, .int .i64 g2, .int .i64 g3, .int .i64 g4, .int .i64 g5, .string B, .slice A n c])
  have e6 : decide (6000 < (text.size : Int)) = false := decide_eq_false (by omega)
  have e7 : decide (6000 < text.size) = false := decide_eq_false (by omega)
  go_enter Tryd.func9, Tryd.ntmps9
  go_wp2_with (first
    | (go_at_call 24; (with_reducible refine (HG.out _ Q0.out.bel).mono ?_); rintro e w1 ⟨⟨gb, rfl⟩, hB⟩; have Q1 := Aside0.mk (Q0.out.below hB); clear hB; have p0 : w1.cell? ⟨w.heap.size, 0, none⟩ = some (.int .i64 g0) := (blk_cell Q1.out.b0 0).trans rfl; have p1 : w1.cell? ⟨w.heap.size, 1, none⟩ = some (.int .i64 g1) := (blk_cell Q1.out.b0 1).trans rfl; have p2 : w1.cell? ⟨w.heap.size, 2, none⟩ = some (.int .i64 g2) := (blk_cell Q1.out.b0 2).trans rfl; have p3 : w1.cell? ⟨w.heap.size, 3, none⟩ = some (.int .i64 g3) := (blk_cell Q1.out.b0 3).trans rfl; have p4 : w1.cell? ⟨w.heap.size, 4, none⟩ = some (.int .i64 g4) := (blk_cell Q1.out.b0 4).trans rfl; have p5 : w1.cell? ⟨w.heap.size, 5, none⟩ = some (.int .i64 g5) := (blk_cell Q1.out.b0 5).trans rfl; have p6 : w1.cell? ⟨w.heap.size, 6, none⟩ = some (.string B) := (blk_cell Q1.out.b0 6).trans rfl; have p7 : w1.cell? ⟨w.heap.size, 7, none⟩ = some (.slice A n c) := (blk_cell Q1.out.b0 7).trans rfl)
    | (go_at_call 27; (with_reducible refine (HOf.out _ Q1.out.bel).mono ?_); rintro e w2 ⟨A2, c2, rfl, hC, hB⟩; have Q2 := Aside0.mk (Q1.out.below hB); have C2 := Aside0.mk hC; clear hB hC)
    | (go_at_call 26; (with_reducible refine (HPr.out _ _ _ C2.out).mono ?_); rintro e w3 ⟨rfl, hB⟩; have Q3 := Aside0.mk (Q2.out.below hB); clear hB)
    | (go_at_call 33; (with_reducible refine (HP2.out _).mono ?_); rintro e w5 ⟨⟨h0, h1, h2, h3, h4, h5, B2, A8, m8, c8, n2, rfl⟩, hB⟩; have Q5 := Aside0.mk ((Q3.out.below hB).alloc (.cells #[.int .i64 h0, .int .i64 h1, .int .i64 h2, .int .i64 h3, .int .i64 h4, .int .i64 h5, .string B2, .slice A8 m8 c8] 62)); clear hB)
    | (go_at_call 25; (with_reducible refine (HAW.out _).mono ?_); rintro e w9 ⟨rfl, hB⟩; have Q9 := Aside0.mk (Q5.out.below hB); clear hB)
    | (go_at_call 25; (with_reducible refine (HAW.out _).mono ?_); rintro e w9 ⟨rfl, hB⟩; have Q9 := Aside0.mk (Q1.out.below hB); clear hB))
  all_goals go_ret
  all_goals exact ⟨rfl, Q9.out.bel⟩
set_option maxHeartbeats 2000000 in
set_option maxRecDepth 100000 in
theorem back_ny (g0 g1 g2 g3 g4 g5 : Int) (B : ByteArray) (ls : List S57) (A : Option Addr) (c : Nat) (text : ByteArray) (w : World)
    (hr : Kd.C k57 w A ls.length ls) (hc : ls.length ≤ c) (hg : I64 g0 ∧ I64 g1 ∧ I64 g2 ∧ I64 g3 ∧ I64 g4 ∧ I64 g5) (hB : B.size ≤ 16777216) (hls : ∀ x ∈ ls, ActOk (act66 x)) (hl : ls.length ≤ 16777216)
    (hsz : ∀ l ∈ rowsOf g0 g1 g2 g3 g4 g5 B (ls.map act66), ∀ x ∈ l, x.size ≤ 16777216) (hT : (textB (rowsOf g0 g1 g2 g3 g4 g5 B (ls.map act66))).length ≤ 16000000) (htx6 : text.size ≤ 6000) (hex0 : ¬ (printF g0 g1 g2 g3 g4 g5 B (ls.map act66)).2 = 0) (her0 : (parseP text).2.2 = 0) :
    Calls Tryd.prog 9 #[.agg #[.int .i64 g0, .int .i64 g1, .int .i64 g2, .int .i64 g3, .int .i64 g4, .int .i64 g5, .string B, .slice A ls.length c], .string text] w fun e w' => e = .returned (.bool true) ∧ Below w.heap.size w w' := by
  have HG : Aside0 (∀ W, Below w.heap.size w W → Calls Tryd.prog 24 #[.agg #[.int .i64 g0, .int .i64 g1, .int .i64 g2, .int .i64 g3, .int .i64 g4, .int .i64 g5, .string B, .slice A ls.length c]] W fun e w' => Says e ∧ Below W.heap.size W w') := ⟨fun W hb => great_calls g0 g1 g2 g3 g4 g5 B ls A c W (Kd.C_below hr hb)⟩
  have HAW : Aside0 (∀ W, Calls Tryd.prog 25 #[] W fun e w' => e = .returned (.bool true) ∧ Below W.heap.size W w') := ⟨fun W => awake40_calls W⟩
  have HOf : Aside0 (∀ W, Below w.heap.size w W → Calls Tryd.prog 27 #[.agg #[.int .i64 g0, .int .i64 g1, .int .i64 g2, .int .i64 g3, .int .i64 g4, .int .i64 g5, .string B, .slice A ls.length c]] W fun e w' => ∃ A2 c2, e = .returned (.agg #[.int .i64 g0, .int .i64 g1, .int .i64 g2, .int .i64 g3, .int .i64 g4, .int .i64 g5, .string B, .slice A2 ls.length c2]) ∧ Kd.C k66 w' A2 ls.length (ls.map act66) ∧ Below W.heap.size W w') := ⟨fun W hb => by
    have h := of_calls57 g0 g1 g2 g3 g4 g5 B ls A c W (Kd.C_below hr hb) hc hl
    rw [List.length_map] at h
    exact h⟩
  have hok : ∀ a ∈ ls.map act66, ActOk a := fun a ha => by
    obtain ⟨y, hy, rfl⟩ := List.mem_map.1 ha
    exact hls y hy
  have HPr : Aside0 (∀ W A2 c2, Kd.C k66 W A2 ls.length (ls.map act66) → Calls Tryd.prog 26 #[.agg #[.int .i64 g0, .int .i64 g1, .int .i64 g2, .int .i64 g3, .int .i64 g4, .int .i64 g5, .string B, .slice A2 ls.length c2]] W fun e w' => e = .returned (.tuple #[.string (printF g0 g1 g2 g3 g4 g5 B (ls.map act66)).1, .int .i64 (printF g0 g1 g2 g3 g4 g5 B (ls.map act66)).2]) ∧ Below W.heap.size W w') := ⟨fun W A2 c2 h2 => by
    have h := print_calls g0 g1 g2 g3 g4 g5 B (ls.map act66) A2 c2 W (by rw [List.length_map]; exact h2) hg hB hok (by rw [List.length_map]; exact hl) hsz (by omega)
    rw [List.length_map] at h
    exact h⟩
  have HBk : Aside0 (∀ W A9 c9, Kd.C k66 W A9 ls.length (ls.map act66) → ls.length ≤ c9 → Calls Tryd.prog 36 #[.agg #[.int .i64 g0, .int .i64 g1, .int .i64 g2, .int .i64 g3, .int .i64 g4, .int .i64 g5, .string B, .slice A9 ls.length c9]] W fun e w' => (∃ A2 c2, e = .returned (.agg #[.int .i64 g0, .int .i64 g1, .int .i64 g2, .int .i64 g3, .int .i64 g4, .int .i64 g5, .string B, .slice A2 ls.length c2]) ∧ Kd.C k57 w' A2 ls.length ls) ∧ Below W.heap.size W w') := ⟨fun W A9 c9 h9 hc9 => by
    have h := back_calls g0 g1 g2 g3 g4 g5 B (ls.map act66) A9 c9 W (by rw [List.length_map]; exact h9) (by rw [List.length_map]; exact hc9) (by rw [List.length_map]; exact hl)
    rw [map57_66, List.length_map] at h
    refine h.mono ?_
    rintro e w' ⟨A2, c2, he, _, hC, hB⟩
    exact ⟨⟨A2, c2, he, hC⟩, hB⟩⟩
  have HSm : Aside0 (∀ W A2 c2, Below w.heap.size w W → Kd.C k57 W A2 ls.length ls → Calls Tryd.prog 35 #[.agg #[.int .i64 g0, .int .i64 g1, .int .i64 g2, .int .i64 g3, .int .i64 g4, .int .i64 g5, .string B, .slice A2 ls.length c2], .agg #[.int .i64 g0, .int .i64 g1, .int .i64 g2, .int .i64 g3, .int .i64 g4, .int .i64 g5, .string B, .slice A ls.length c]] W fun e w' => e = .returned (.bool true) ∧ Below W.heap.size W w') := ⟨fun W A2 c2 hb h2 => sameScript_calls g0 g1 g2 g3 g4 g5 B ls A2 c2 A c W h2 (Kd.C_below hr hb) (fun a ha => ⟨(hls a ha).vl, (hls a ha).ml⟩) hl⟩
  have hpz := printF_size g0 g1 g2 g3 g4 g5 B (ls.map act66) 16000000 hT
  obtain ⟨tx, htx⟩ : ∃ tx, (printF g0 g1 g2 g3 g4 g5 B (ls.map act66)).1 = tx := ⟨_, rfl⟩
  obtain ⟨ex, hex⟩ : ∃ ex, (printF g0 g1 g2 g3 g4 g5 B (ls.map act66)).2 = ex := ⟨_, rfl⟩
  rw [htx, hex] at HPr
  rw [htx] at hpz
  have ex1 : (ex == 0) = false := beq_eq_false_iff_ne.2 (fun e => hex0 (hex.trans e))
  have HP2 : Aside0 (∀ W, Calls Tryd.prog 33 #[.string text] W fun e w' => (∃ h0 h1 h2 h3 h4 h5 B2 A8 c8 acts n2, e = .returned (.tuple #[.agg #[.int .i64 h0, .int .i64 h1, .int .i64 h2, .int .i64 h3, .int .i64 h4, .int .i64 h5, .string B2, .slice A8 acts.length c8], .int .i64 n2, .int .i64 0]) ∧ Kd.C k66 w' A8 acts.length acts ∧ parseP text = (([h0, h1, h2, h3, h4, h5], B2, acts), n2, 0)) ∧ Below W.heap.size W w') := ⟨fun W => (parse_calls text (by omega) W _ ⟨rfl⟩).mono (by
    rintro e w' ⟨⟨h0, h1, h2, h3, h4, h5, B2, v, acts, n, er, rfl, hv, ho⟩, hB⟩
    obtain ⟨A8, c8, rfl, _, h7⟩ := Kd.R_reads hv
    have he : er = 0 := by rw [ho] at her0; exact her0
    subst he
    exact ⟨⟨h0, h1, h2, h3, h4, h5, B2, A8, c8, acts, n, rfl, h7, ho⟩, hB⟩)⟩
  have HP3 : Aside0 (∀ W h0 h1 h2 h3 h4 h5 B2 A8 c8 (acts : List S66) n2, parseP text = (([h0, h1, h2, h3, h4, h5], B2, acts), n2, 0) → Kd.C k66 W A8 acts.length acts → Calls Tryd.prog 26 #[.agg #[.int .i64 h0, .int .i64 h1, .int .i64 h2, .int .i64 h3, .int .i64 h4, .int .i64 h5, .string B2, .slice A8 acts.length c8]] W fun e w' => e = .returned (.tuple #[.string text, .int .i64 0]) ∧ Below W.heap.size W w') := ⟨fun W h0 h1 h2 h3 h4 h5 B2 A8 c8 acts n2 hp hC => print_read text (by omega) h0 h1 h2 h3 h4 h5 B2 acts n2 hp A8 c8 W hC⟩
  clear hr hc hg hB hls hl hsz hT hok hpz her0 htx hex hex0
  obtain ⟨n, hn⟩ : ∃ n, ls.length = n := ⟨_, rfl⟩
  rw [hn] at HG HOf HPr HBk HSm  ⊢
  clear hn
  have Q0 := Aside0.mk (QC.new w #[.int .i64 g0, .int .i64 g1, .int .i64 g2, .int .i64 g3, .int .i64 g4, .int .i64 g5, .string B, .slice A n c])
  have e6 : decide (6000 < (text.size : Int)) = false := decide_eq_false (by omega)
  have e7 : decide (6000 < text.size) = false := decide_eq_false (by omega)
  go_enter Tryd.func9, Tryd.ntmps9
  go_wp2_with (first
    | (go_at_call 24; (with_reducible refine (HG.out _ Q0.out.bel).mono ?_); rintro e w1 ⟨⟨gb, rfl⟩, hB⟩; have Q1 := Aside0.mk (Q0.out.below hB); clear hB; have p0 : w1.cell? ⟨w.heap.size, 0, none⟩ = some (.int .i64 g0) := (blk_cell Q1.out.b0 0).trans rfl; have p1 : w1.cell? ⟨w.heap.size, 1, none⟩ = some (.int .i64 g1) := (blk_cell Q1.out.b0 1).trans rfl; have p2 : w1.cell? ⟨w.heap.size, 2, none⟩ = some (.int .i64 g2) := (blk_cell Q1.out.b0 2).trans rfl; have p3 : w1.cell? ⟨w.heap.size, 3, none⟩ = some (.int .i64 g3) := (blk_cell Q1.out.b0 3).trans rfl; have p4 : w1.cell? ⟨w.heap.size, 4, none⟩ = some (.int .i64 g4) := (blk_cell Q1.out.b0 4).trans rfl; have p5 : w1.cell? ⟨w.heap.size, 5, none⟩ = some (.int .i64 g5) := (blk_cell Q1.out.b0 5).trans rfl; have p6 : w1.cell? ⟨w.heap.size, 6, none⟩ = some (.string B) := (blk_cell Q1.out.b0 6).trans rfl; have p7 : w1.cell? ⟨w.heap.size, 7, none⟩ = some (.slice A n c) := (blk_cell Q1.out.b0 7).trans rfl)
    | (go_at_call 27; (with_reducible refine (HOf.out _ Q1.out.bel).mono ?_); rintro e w2 ⟨A2, c2, rfl, hC, hB⟩; have Q2 := Aside0.mk (Q1.out.below hB); have C2 := Aside0.mk hC; clear hB hC)
    | (go_at_call 26; (with_reducible refine (HPr.out _ _ _ C2.out).mono ?_); rintro e w3 ⟨rfl, hB⟩; have Q3 := Aside0.mk (Q2.out.below hB); clear hB)
    | (go_at_call 33; (with_reducible refine (HP2.out _).mono ?_); rintro e w5 ⟨⟨h0, h1, h2, h3, h4, h5, B2, A8, c8, acts, n2, rfl, hC, hpt⟩, hB⟩; have Q5 := Aside0.mk ((Q3.out.below hB).alloc (.cells #[.int .i64 h0, .int .i64 h1, .int .i64 h2, .int .i64 h3, .int .i64 h4, .int .i64 h5, .string B2, .slice A8 acts.length c8] 62)); have C5 := Aside0.mk (And.intro (Kd.C_below hC (below_alloc (Below.refl _ _) (.cells #[.int .i64 h0, .int .i64 h1, .int .i64 h2, .int .i64 h3, .int .i64 h4, .int .i64 h5, .string B2, .slice A8 acts.length c8] 62))) hpt); clear hB hC hpt)
    | (go_at_call 26; (with_reducible refine (HP3.out _ _ _ _ _ _ _ _ _ _ _ _ C5.out.2 C5.out.1).mono ?_); rintro e w6 ⟨rfl, hB⟩; have Q6 := Aside0.mk (Q5.out.below hB); clear hB)
    | (go_at_call 25; (with_reducible refine (HAW.out _).mono ?_); rintro e w9 ⟨rfl, hB⟩; have Q9 := Aside0.mk (Q6.out.below hB); clear hB)
    | (go_at_call 25; (with_reducible refine (HAW.out _).mono ?_); rintro e w9 ⟨rfl, hB⟩; have Q9 := Aside0.mk (Q1.out.below hB); clear hB))
  all_goals go_ret
  all_goals exact ⟨rfl, Q9.out.bel⟩
set_option maxHeartbeats 2000000 in
set_option maxRecDepth 100000 in
theorem back_yn (g0 g1 g2 g3 g4 g5 : Int) (B : ByteArray) (ls : List S57) (A : Option Addr) (c : Nat) (text : ByteArray) (w : World)
    (hr : Kd.C k57 w A ls.length ls) (hc : ls.length ≤ c) (hg : I64 g0 ∧ I64 g1 ∧ I64 g2 ∧ I64 g3 ∧ I64 g4 ∧ I64 g5) (hB : B.size ≤ 16777216) (hls : ∀ x ∈ ls, ActOk (act66 x)) (hl : ls.length ≤ 16777216)
    (hsz : ∀ l ∈ rowsOf g0 g1 g2 g3 g4 g5 B (ls.map act66), ∀ x ∈ l, x.size ≤ 16777216) (hT : (textB (rowsOf g0 g1 g2 g3 g4 g5 B (ls.map act66))).length ≤ 16000000) (htx6 : text.size ≤ 6000) (hex0 : (printF g0 g1 g2 g3 g4 g5 B (ls.map act66)).2 = 0) (her0 : (parseP text).2.2 = 4) :
    Calls Tryd.prog 9 #[.agg #[.int .i64 g0, .int .i64 g1, .int .i64 g2, .int .i64 g3, .int .i64 g4, .int .i64 g5, .string B, .slice A ls.length c], .string text] w fun e w' => e = .returned (.bool true) ∧ Below w.heap.size w w' := by
  have HG : Aside0 (∀ W, Below w.heap.size w W → Calls Tryd.prog 24 #[.agg #[.int .i64 g0, .int .i64 g1, .int .i64 g2, .int .i64 g3, .int .i64 g4, .int .i64 g5, .string B, .slice A ls.length c]] W fun e w' => Says e ∧ Below W.heap.size W w') := ⟨fun W hb => great_calls g0 g1 g2 g3 g4 g5 B ls A c W (Kd.C_below hr hb)⟩
  have HAW : Aside0 (∀ W, Calls Tryd.prog 25 #[] W fun e w' => e = .returned (.bool true) ∧ Below W.heap.size W w') := ⟨fun W => awake40_calls W⟩
  have HOf : Aside0 (∀ W, Below w.heap.size w W → Calls Tryd.prog 27 #[.agg #[.int .i64 g0, .int .i64 g1, .int .i64 g2, .int .i64 g3, .int .i64 g4, .int .i64 g5, .string B, .slice A ls.length c]] W fun e w' => ∃ A2 c2, e = .returned (.agg #[.int .i64 g0, .int .i64 g1, .int .i64 g2, .int .i64 g3, .int .i64 g4, .int .i64 g5, .string B, .slice A2 ls.length c2]) ∧ Kd.C k66 w' A2 ls.length (ls.map act66) ∧ Below W.heap.size W w') := ⟨fun W hb => by
    have h := of_calls57 g0 g1 g2 g3 g4 g5 B ls A c W (Kd.C_below hr hb) hc hl
    rw [List.length_map] at h
    exact h⟩
  have hok : ∀ a ∈ ls.map act66, ActOk a := fun a ha => by
    obtain ⟨y, hy, rfl⟩ := List.mem_map.1 ha
    exact hls y hy
  have HPr : Aside0 (∀ W A2 c2, Kd.C k66 W A2 ls.length (ls.map act66) → Calls Tryd.prog 26 #[.agg #[.int .i64 g0, .int .i64 g1, .int .i64 g2, .int .i64 g3, .int .i64 g4, .int .i64 g5, .string B, .slice A2 ls.length c2]] W fun e w' => e = .returned (.tuple #[.string (printF g0 g1 g2 g3 g4 g5 B (ls.map act66)).1, .int .i64 (printF g0 g1 g2 g3 g4 g5 B (ls.map act66)).2]) ∧ Below W.heap.size W w') := ⟨fun W A2 c2 h2 => by
    have h := print_calls g0 g1 g2 g3 g4 g5 B (ls.map act66) A2 c2 W (by rw [List.length_map]; exact h2) hg hB hok (by rw [List.length_map]; exact hl) hsz (by omega)
    rw [List.length_map] at h
    exact h⟩
  have HBk : Aside0 (∀ W A9 c9, Kd.C k66 W A9 ls.length (ls.map act66) → ls.length ≤ c9 → Calls Tryd.prog 36 #[.agg #[.int .i64 g0, .int .i64 g1, .int .i64 g2, .int .i64 g3, .int .i64 g4, .int .i64 g5, .string B, .slice A9 ls.length c9]] W fun e w' => (∃ A2 c2, e = .returned (.agg #[.int .i64 g0, .int .i64 g1, .int .i64 g2, .int .i64 g3, .int .i64 g4, .int .i64 g5, .string B, .slice A2 ls.length c2]) ∧ Kd.C k57 w' A2 ls.length ls) ∧ Below W.heap.size W w') := ⟨fun W A9 c9 h9 hc9 => by
    have h := back_calls g0 g1 g2 g3 g4 g5 B (ls.map act66) A9 c9 W (by rw [List.length_map]; exact h9) (by rw [List.length_map]; exact hc9) (by rw [List.length_map]; exact hl)
    rw [map57_66, List.length_map] at h
    refine h.mono ?_
    rintro e w' ⟨A2, c2, he, _, hC, hB⟩
    exact ⟨⟨A2, c2, he, hC⟩, hB⟩⟩
  have HSm : Aside0 (∀ W A2 c2, Below w.heap.size w W → Kd.C k57 W A2 ls.length ls → Calls Tryd.prog 35 #[.agg #[.int .i64 g0, .int .i64 g1, .int .i64 g2, .int .i64 g3, .int .i64 g4, .int .i64 g5, .string B, .slice A2 ls.length c2], .agg #[.int .i64 g0, .int .i64 g1, .int .i64 g2, .int .i64 g3, .int .i64 g4, .int .i64 g5, .string B, .slice A ls.length c]] W fun e w' => e = .returned (.bool true) ∧ Below W.heap.size W w') := ⟨fun W A2 c2 hb h2 => sameScript_calls g0 g1 g2 g3 g4 g5 B ls A2 c2 A c W h2 (Kd.C_below hr hb) (fun a ha => ⟨(hls a ha).vl, (hls a ha).ml⟩) hl⟩
  have hpz := printF_size g0 g1 g2 g3 g4 g5 B (ls.map act66) 16000000 hT
  obtain ⟨tx, htx⟩ : ∃ tx, (printF g0 g1 g2 g3 g4 g5 B (ls.map act66)).1 = tx := ⟨_, rfl⟩
  obtain ⟨ex, hex⟩ : ∃ ex, (printF g0 g1 g2 g3 g4 g5 B (ls.map act66)).2 = ex := ⟨_, rfl⟩
  rw [htx, hex] at HPr
  rw [htx] at hpz
  obtain rfl : ex = 0 := hex.symm.trans hex0
  have hpp := parse_print g0 g1 g2 g3 g4 g5 B (ls.map act66) tx hg hok (Prod.ext htx hex)
  have HP1 : Aside0 (∀ W, Calls Tryd.prog 33 #[.string tx] W fun e w' => (∃ A9 c9, e = .returned (.tuple #[.agg #[.int .i64 g0, .int .i64 g1, .int .i64 g2, .int .i64 g3, .int .i64 g4, .int .i64 g5, .string B, .slice A9 ls.length c9], .int .i64 0, .int .i64 0]) ∧ ls.length ≤ c9 ∧ Kd.C k66 w' A9 ls.length (ls.map act66)) ∧ Below W.heap.size W w') := ⟨fun W => (parse_calls tx hpz W _ ⟨hpp⟩).mono (by
    rintro e w' ⟨⟨h0, h1, h2, h3, h4, h5, B2, v, acts, n, er, rfl, hv, ho⟩, hB⟩
    simp only [Prod.mk.injEq, List.cons.injEq, and_true] at ho
    obtain ⟨⟨⟨rfl, rfl, rfl, rfl, rfl, rfl⟩, rfl, rfl⟩, rfl, rfl⟩ := ho
    obtain ⟨A9, c9, rfl, h6, h7⟩ := Kd.R_reads hv
    rw [List.length_map] at h6 h7 ⊢
    exact ⟨⟨A9, c9, rfl, h6, h7⟩, hB⟩)⟩
  have HP2 : Aside0 (∀ W, Calls Tryd.prog 33 #[.string text] W fun e w' => (∃ h0 h1 h2 h3 h4 h5 B2 A8 m8 c8 n2, e = .returned (.tuple #[.agg #[.int .i64 h0, .int .i64 h1, .int .i64 h2, .int .i64 h3, .int .i64 h4, .int .i64 h5, .string B2, .slice A8 m8 c8], .int .i64 n2, .int .i64 4])) ∧ Below W.heap.size W w') := ⟨fun W => (parse_calls text (by omega) W _ ⟨rfl⟩).mono (by
    rintro e w' ⟨⟨h0, h1, h2, h3, h4, h5, B2, v, acts, n, er, rfl, hv, ho⟩, hB⟩
    obtain ⟨A8, c8, rfl⟩ := Kd.R_slice hv
    have he : er = 4 := by rw [ho] at her0; exact her0
    subst he
    exact ⟨⟨h0, h1, h2, h3, h4, h5, B2, A8, _, c8, n, rfl⟩, hB⟩)⟩
  clear hr hc hg hB hls hl hsz hT hok hpz her0 hpp htx hex
  obtain ⟨n, hn⟩ : ∃ n, ls.length = n := ⟨_, rfl⟩
  rw [hn] at HG HOf HPr HBk HSm HP1 ⊢
  clear hn
  have Q0 := Aside0.mk (QC.new w #[.int .i64 g0, .int .i64 g1, .int .i64 g2, .int .i64 g3, .int .i64 g4, .int .i64 g5, .string B, .slice A n c])
  have e6 : decide (6000 < (text.size : Int)) = false := decide_eq_false (by omega)
  have e7 : decide (6000 < text.size) = false := decide_eq_false (by omega)
  go_enter Tryd.func9, Tryd.ntmps9
  go_upto_region 6 with (first
    | (go_at_call 24; (with_reducible refine (HG.out _ Q0.out.bel).mono ?_); rintro e w1 ⟨⟨gb, rfl⟩, hB⟩; have Q1 := Aside0.mk (Q0.out.below hB); clear hB; have p0 : w1.cell? ⟨w.heap.size, 0, none⟩ = some (.int .i64 g0) := (blk_cell Q1.out.b0 0).trans rfl; have p1 : w1.cell? ⟨w.heap.size, 1, none⟩ = some (.int .i64 g1) := (blk_cell Q1.out.b0 1).trans rfl; have p2 : w1.cell? ⟨w.heap.size, 2, none⟩ = some (.int .i64 g2) := (blk_cell Q1.out.b0 2).trans rfl; have p3 : w1.cell? ⟨w.heap.size, 3, none⟩ = some (.int .i64 g3) := (blk_cell Q1.out.b0 3).trans rfl; have p4 : w1.cell? ⟨w.heap.size, 4, none⟩ = some (.int .i64 g4) := (blk_cell Q1.out.b0 4).trans rfl; have p5 : w1.cell? ⟨w.heap.size, 5, none⟩ = some (.int .i64 g5) := (blk_cell Q1.out.b0 5).trans rfl; have p6 : w1.cell? ⟨w.heap.size, 6, none⟩ = some (.string B) := (blk_cell Q1.out.b0 6).trans rfl; have p7 : w1.cell? ⟨w.heap.size, 7, none⟩ = some (.slice A n c) := (blk_cell Q1.out.b0 7).trans rfl)
    | (go_at_call 27; (with_reducible refine (HOf.out _ Q1.out.bel).mono ?_); rintro e w2 ⟨A2, c2, rfl, hC, hB⟩; have Q2 := Aside0.mk (Q1.out.below hB); have C2 := Aside0.mk hC; clear hB hC)
    | (go_at_call 26; (with_reducible refine (HPr.out _ _ _ C2.out).mono ?_); rintro e w3 ⟨rfl, hB⟩; have Q3 := Aside0.mk (Q2.out.below hB); clear hB)
    | (go_at_call 33; (with_reducible refine (HP1.out _).mono ?_); rintro e w4 ⟨⟨A9, c9, rfl, hc9, hC⟩, hB⟩; have Q4 := Aside0.mk ((Q3.out.below hB).alloc (.cells #[.int .i64 g0, .int .i64 g1, .int .i64 g2, .int .i64 g3, .int .i64 g4, .int .i64 g5, .string B, .slice A9 n c9] 62)); have C4 := Aside0.mk (And.intro hc9 (Kd.C_below hC (below_alloc (Below.refl _ _) (.cells #[.int .i64 g0, .int .i64 g1, .int .i64 g2, .int .i64 g3, .int .i64 g4, .int .i64 g5, .string B, .slice A9 n c9] 62)))); have K4 := Aside0.mk (blk_new w4 (.cells #[.int .i64 g0, .int .i64 g1, .int .i64 g2, .int .i64 g3, .int .i64 g4, .int .i64 g5, .string B, .slice A9 n c9] 62)); clear hB hC hc9; have k0 : (w4.alloc (.cells #[.int .i64 g0, .int .i64 g1, .int .i64 g2, .int .i64 g3, .int .i64 g4, .int .i64 g5, .string B, .slice A9 n c9] 62)).cell? ⟨w4.heap.size, 0, none⟩ = some (.int .i64 g0) := (blk_cell K4.out 0).trans rfl; have k1 : (w4.alloc (.cells #[.int .i64 g0, .int .i64 g1, .int .i64 g2, .int .i64 g3, .int .i64 g4, .int .i64 g5, .string B, .slice A9 n c9] 62)).cell? ⟨w4.heap.size, 1, none⟩ = some (.int .i64 g1) := (blk_cell K4.out 1).trans rfl; have k2 : (w4.alloc (.cells #[.int .i64 g0, .int .i64 g1, .int .i64 g2, .int .i64 g3, .int .i64 g4, .int .i64 g5, .string B, .slice A9 n c9] 62)).cell? ⟨w4.heap.size, 2, none⟩ = some (.int .i64 g2) := (blk_cell K4.out 2).trans rfl; have k3 : (w4.alloc (.cells #[.int .i64 g0, .int .i64 g1, .int .i64 g2, .int .i64 g3, .int .i64 g4, .int .i64 g5, .string B, .slice A9 n c9] 62)).cell? ⟨w4.heap.size, 3, none⟩ = some (.int .i64 g3) := (blk_cell K4.out 3).trans rfl; have k4 : (w4.alloc (.cells #[.int .i64 g0, .int .i64 g1, .int .i64 g2, .int .i64 g3, .int .i64 g4, .int .i64 g5, .string B, .slice A9 n c9] 62)).cell? ⟨w4.heap.size, 4, none⟩ = some (.int .i64 g4) := (blk_cell K4.out 4).trans rfl; have k5 : (w4.alloc (.cells #[.int .i64 g0, .int .i64 g1, .int .i64 g2, .int .i64 g3, .int .i64 g4, .int .i64 g5, .string B, .slice A9 n c9] 62)).cell? ⟨w4.heap.size, 5, none⟩ = some (.int .i64 g5) := (blk_cell K4.out 5).trans rfl; have k6 : (w4.alloc (.cells #[.int .i64 g0, .int .i64 g1, .int .i64 g2, .int .i64 g3, .int .i64 g4, .int .i64 g5, .string B, .slice A9 n c9] 62)).cell? ⟨w4.heap.size, 6, none⟩ = some (.string B) := (blk_cell K4.out 6).trans rfl; have k7 : (w4.alloc (.cells #[.int .i64 g0, .int .i64 g1, .int .i64 g2, .int .i64 g3, .int .i64 g4, .int .i64 g5, .string B, .slice A9 n c9] 62)).cell? ⟨w4.heap.size, 7, none⟩ = some (.slice A9 n c9) := (blk_cell K4.out 7).trans rfl; have q0 : (w4.alloc (.cells #[.int .i64 g0, .int .i64 g1, .int .i64 g2, .int .i64 g3, .int .i64 g4, .int .i64 g5, .string B, .slice A9 n c9] 62)).cell? ⟨w.heap.size, 0, none⟩ = some (.int .i64 g0) := (blk_cell Q4.out.b0 0).trans rfl; have q1 : (w4.alloc (.cells #[.int .i64 g0, .int .i64 g1, .int .i64 g2, .int .i64 g3, .int .i64 g4, .int .i64 g5, .string B, .slice A9 n c9] 62)).cell? ⟨w.heap.size, 1, none⟩ = some (.int .i64 g1) := (blk_cell Q4.out.b0 1).trans rfl; have q2 : (w4.alloc (.cells #[.int .i64 g0, .int .i64 g1, .int .i64 g2, .int .i64 g3, .int .i64 g4, .int .i64 g5, .string B, .slice A9 n c9] 62)).cell? ⟨w.heap.size, 2, none⟩ = some (.int .i64 g2) := (blk_cell Q4.out.b0 2).trans rfl; have q3 : (w4.alloc (.cells #[.int .i64 g0, .int .i64 g1, .int .i64 g2, .int .i64 g3, .int .i64 g4, .int .i64 g5, .string B, .slice A9 n c9] 62)).cell? ⟨w.heap.size, 3, none⟩ = some (.int .i64 g3) := (blk_cell Q4.out.b0 3).trans rfl; have q4 : (w4.alloc (.cells #[.int .i64 g0, .int .i64 g1, .int .i64 g2, .int .i64 g3, .int .i64 g4, .int .i64 g5, .string B, .slice A9 n c9] 62)).cell? ⟨w.heap.size, 4, none⟩ = some (.int .i64 g4) := (blk_cell Q4.out.b0 4).trans rfl; have q5 : (w4.alloc (.cells #[.int .i64 g0, .int .i64 g1, .int .i64 g2, .int .i64 g3, .int .i64 g4, .int .i64 g5, .string B, .slice A9 n c9] 62)).cell? ⟨w.heap.size, 5, none⟩ = some (.int .i64 g5) := (blk_cell Q4.out.b0 5).trans rfl; have q6 : (w4.alloc (.cells #[.int .i64 g0, .int .i64 g1, .int .i64 g2, .int .i64 g3, .int .i64 g4, .int .i64 g5, .string B, .slice A9 n c9] 62)).cell? ⟨w.heap.size, 6, none⟩ = some (.string B) := (blk_cell Q4.out.b0 6).trans rfl; have q7 : (w4.alloc (.cells #[.int .i64 g0, .int .i64 g1, .int .i64 g2, .int .i64 g3, .int .i64 g4, .int .i64 g5, .string B, .slice A9 n c9] 62)).cell? ⟨w.heap.size, 7, none⟩ = some (.slice A n c) := (blk_cell Q4.out.b0 7).trans rfl)
    | (go_at_call 25; (with_reducible refine (HAW.out _).mono ?_); rintro e w9 ⟨rfl, hB⟩; have Q9 := Aside0.mk (Q1.out.below hB); clear hB))
  · go_ret
    exact ⟨rfl, Q9.out.bel⟩
  go_cut [49] (fun v wc => v = .bool false ∧ Aside0 (QC w wc #[.int .i64 g0, .int .i64 g1, .int .i64 g2, .int .i64 g3, .int .i64 g4, .int .i64 g5, .string B, .slice A n c]))
  case first =>
    obtain ⟨w5, hw5⟩ : ∃ w5, w4.alloc (.cells #[.int .i64 g0, .int .i64 g1, .int .i64 g2, .int .i64 g3, .int .i64 g4, .int .i64 g5, .string B, .slice A9 n c9] 62) = w5 := ⟨_, rfl⟩
    rw [hw5] at Q4 C4 K4 ⊢
    clear k0 q0 k1 q1 k2 q2 k3 q3 k4 q4 k5 q5 k6 q6 k7 q7 hw5
    have zk0 : w5.cell? ⟨w4.heap.size, 0, none⟩ = some (.int .i64 g0) := (blk_cell K4.out 0).trans rfl
    have zk1 : w5.cell? ⟨w4.heap.size, 1, none⟩ = some (.int .i64 g1) := (blk_cell K4.out 1).trans rfl
    have zk2 : w5.cell? ⟨w4.heap.size, 2, none⟩ = some (.int .i64 g2) := (blk_cell K4.out 2).trans rfl
    have zk3 : w5.cell? ⟨w4.heap.size, 3, none⟩ = some (.int .i64 g3) := (blk_cell K4.out 3).trans rfl
    have zk4 : w5.cell? ⟨w4.heap.size, 4, none⟩ = some (.int .i64 g4) := (blk_cell K4.out 4).trans rfl
    have zk5 : w5.cell? ⟨w4.heap.size, 5, none⟩ = some (.int .i64 g5) := (blk_cell K4.out 5).trans rfl
    have zk6 : w5.cell? ⟨w4.heap.size, 6, none⟩ = some (.string B) := (blk_cell K4.out 6).trans rfl
    have zk7 : w5.cell? ⟨w4.heap.size, 7, none⟩ = some (.slice A9 n c9) := (blk_cell K4.out 7).trans rfl
    have zq0 : w5.cell? ⟨w.heap.size, 0, none⟩ = some (.int .i64 g0) := (blk_cell Q4.out.b0 0).trans rfl
    have zq1 : w5.cell? ⟨w.heap.size, 1, none⟩ = some (.int .i64 g1) := (blk_cell Q4.out.b0 1).trans rfl
    have zq2 : w5.cell? ⟨w.heap.size, 2, none⟩ = some (.int .i64 g2) := (blk_cell Q4.out.b0 2).trans rfl
    have zq3 : w5.cell? ⟨w.heap.size, 3, none⟩ = some (.int .i64 g3) := (blk_cell Q4.out.b0 3).trans rfl
    have zq4 : w5.cell? ⟨w.heap.size, 4, none⟩ = some (.int .i64 g4) := (blk_cell Q4.out.b0 4).trans rfl
    have zq5 : w5.cell? ⟨w.heap.size, 5, none⟩ = some (.int .i64 g5) := (blk_cell Q4.out.b0 5).trans rfl
    have zq6 : w5.cell? ⟨w.heap.size, 6, none⟩ = some (.string B) := (blk_cell Q4.out.b0 6).trans rfl
    have zq7 : w5.cell? ⟨w.heap.size, 7, none⟩ = some (.slice A n c) := (blk_cell Q4.out.b0 7).trans rfl
    go_region_held3 (fun w' => w'.cell? ⟨w4.heap.size, 0, none⟩ = some (.int .i64 g0) ∧ w'.cell? ⟨w4.heap.size, 1, none⟩ = some (.int .i64 g1) ∧ w'.cell? ⟨w4.heap.size, 2, none⟩ = some (.int .i64 g2) ∧ w'.cell? ⟨w4.heap.size, 3, none⟩ = some (.int .i64 g3) ∧ w'.cell? ⟨w4.heap.size, 4, none⟩ = some (.int .i64 g4) ∧ w'.cell? ⟨w4.heap.size, 5, none⟩ = some (.int .i64 g5) ∧ w'.cell? ⟨w4.heap.size, 6, none⟩ = some (.string B) ∧ w'.cell? ⟨w4.heap.size, 7, none⟩ = some (.slice A9 n c9) ∧ w'.cell? ⟨w.heap.size, 0, none⟩ = some (.int .i64 g0) ∧ w'.cell? ⟨w.heap.size, 1, none⟩ = some (.int .i64 g1) ∧ w'.cell? ⟨w.heap.size, 2, none⟩ = some (.int .i64 g2) ∧ w'.cell? ⟨w.heap.size, 3, none⟩ = some (.int .i64 g3) ∧ w'.cell? ⟨w.heap.size, 4, none⟩ = some (.int .i64 g4) ∧ w'.cell? ⟨w.heap.size, 5, none⟩ = some (.int .i64 g5) ∧ w'.cell? ⟨w.heap.size, 6, none⟩ = some (.string B) ∧ w'.cell? ⟨w.heap.size, 7, none⟩ = some (.slice A n c))
      (first | go_keep | exact ⟨zk0, zk1, zk2, zk3, zk4, zk5, zk6, zk7, zq0, zq1, zq2, zq3, zq4, zq5, zq6, zq7⟩ | exact ⟨xk0, xk1, xk2, xk3, xk4, xk5, xk6, xk7, xq0, xq1, xq2, xq3, xq4, xq5, xq6, xq7⟩ | exact ⟨yk0, yk1, yk2, yk3, yk4, yk5, yk6, yk7, yq0, yq1, yq2, yq3, yq4, yq5, yq6, yq7⟩)
      ((first
        | (go_at_call 36; (with_reducible refine (HBk.out _ _ _ (Kd.C_below C4.out.2 (by repeat (first | exact Below.refl _ _ | apply below_drew1 | apply pw_below_drewN))) C4.out.1).mono ?_); rintro e w7 ⟨⟨A7, c7, rfl, hC⟩, hB⟩; have Q7 := Aside0.mk (QC.below (by with_reducible repeat (first | exact Q4.out | apply QC.drew | apply QC.drewN)) hB); have K7 := Aside0.mk (blk_below (by repeat (first | exact K4.out | apply blk_drew | apply blk_drewN)) hB); have C7 := Aside0.mk hC; clear hB hC; have xk0 : w7.cell? ⟨w4.heap.size, 0, none⟩ = some (.int .i64 g0) := (blk_cell K7.out 0).trans rfl; have xk1 : w7.cell? ⟨w4.heap.size, 1, none⟩ = some (.int .i64 g1) := (blk_cell K7.out 1).trans rfl; have xk2 : w7.cell? ⟨w4.heap.size, 2, none⟩ = some (.int .i64 g2) := (blk_cell K7.out 2).trans rfl; have xk3 : w7.cell? ⟨w4.heap.size, 3, none⟩ = some (.int .i64 g3) := (blk_cell K7.out 3).trans rfl; have xk4 : w7.cell? ⟨w4.heap.size, 4, none⟩ = some (.int .i64 g4) := (blk_cell K7.out 4).trans rfl; have xk5 : w7.cell? ⟨w4.heap.size, 5, none⟩ = some (.int .i64 g5) := (blk_cell K7.out 5).trans rfl; have xk6 : w7.cell? ⟨w4.heap.size, 6, none⟩ = some (.string B) := (blk_cell K7.out 6).trans rfl; have xk7 : w7.cell? ⟨w4.heap.size, 7, none⟩ = some (.slice A9 n c9) := (blk_cell K7.out 7).trans rfl; have xq0 : w7.cell? ⟨w.heap.size, 0, none⟩ = some (.int .i64 g0) := (blk_cell Q7.out.b0 0).trans rfl; have xq1 : w7.cell? ⟨w.heap.size, 1, none⟩ = some (.int .i64 g1) := (blk_cell Q7.out.b0 1).trans rfl; have xq2 : w7.cell? ⟨w.heap.size, 2, none⟩ = some (.int .i64 g2) := (blk_cell Q7.out.b0 2).trans rfl; have xq3 : w7.cell? ⟨w.heap.size, 3, none⟩ = some (.int .i64 g3) := (blk_cell Q7.out.b0 3).trans rfl; have xq4 : w7.cell? ⟨w.heap.size, 4, none⟩ = some (.int .i64 g4) := (blk_cell Q7.out.b0 4).trans rfl; have xq5 : w7.cell? ⟨w.heap.size, 5, none⟩ = some (.int .i64 g5) := (blk_cell Q7.out.b0 5).trans rfl; have xq6 : w7.cell? ⟨w.heap.size, 6, none⟩ = some (.string B) := (blk_cell Q7.out.b0 6).trans rfl; have xq7 : w7.cell? ⟨w.heap.size, 7, none⟩ = some (.slice A n c) := (blk_cell Q7.out.b0 7).trans rfl)
        | (go_at_call 35; (with_reducible refine (HSm.out _ _ _ (QC.bel (cs := #[.int .i64 g0, .int .i64 g1, .int .i64 g2, .int .i64 g3, .int .i64 g4, .int .i64 g5, .string B, .slice A n c]) (by with_reducible repeat (first | exact Q7.out | apply QC.drew | apply QC.drewN))) (Kd.C_below C7.out (by repeat (first | exact Below.refl _ _ | apply below_drew1 | apply pw_below_drewN)))).mono ?_); rintro e w8 ⟨rfl, hB⟩; have Q8 := Aside0.mk (QC.below (by with_reducible repeat (first | exact Q7.out | apply QC.drew | apply QC.drewN)) hB); have K8 := Aside0.mk (blk_below (by repeat (first | exact K7.out | apply blk_drew | apply blk_drewN)) hB); clear hB; have yk0 : w8.cell? ⟨w4.heap.size, 0, none⟩ = some (.int .i64 g0) := (blk_cell K8.out 0).trans rfl; have yk1 : w8.cell? ⟨w4.heap.size, 1, none⟩ = some (.int .i64 g1) := (blk_cell K8.out 1).trans rfl; have yk2 : w8.cell? ⟨w4.heap.size, 2, none⟩ = some (.int .i64 g2) := (blk_cell K8.out 2).trans rfl; have yk3 : w8.cell? ⟨w4.heap.size, 3, none⟩ = some (.int .i64 g3) := (blk_cell K8.out 3).trans rfl; have yk4 : w8.cell? ⟨w4.heap.size, 4, none⟩ = some (.int .i64 g4) := (blk_cell K8.out 4).trans rfl; have yk5 : w8.cell? ⟨w4.heap.size, 5, none⟩ = some (.int .i64 g5) := (blk_cell K8.out 5).trans rfl; have yk6 : w8.cell? ⟨w4.heap.size, 6, none⟩ = some (.string B) := (blk_cell K8.out 6).trans rfl; have yk7 : w8.cell? ⟨w4.heap.size, 7, none⟩ = some (.slice A9 n c9) := (blk_cell K8.out 7).trans rfl; have yq0 : w8.cell? ⟨w.heap.size, 0, none⟩ = some (.int .i64 g0) := (blk_cell Q8.out.b0 0).trans rfl; have yq1 : w8.cell? ⟨w.heap.size, 1, none⟩ = some (.int .i64 g1) := (blk_cell Q8.out.b0 1).trans rfl; have yq2 : w8.cell? ⟨w.heap.size, 2, none⟩ = some (.int .i64 g2) := (blk_cell Q8.out.b0 2).trans rfl; have yq3 : w8.cell? ⟨w.heap.size, 3, none⟩ = some (.int .i64 g3) := (blk_cell Q8.out.b0 3).trans rfl; have yq4 : w8.cell? ⟨w.heap.size, 4, none⟩ = some (.int .i64 g4) := (blk_cell Q8.out.b0 4).trans rfl; have yq5 : w8.cell? ⟨w.heap.size, 5, none⟩ = some (.int .i64 g5) := (blk_cell Q8.out.b0 5).trans rfl; have yq6 : w8.cell? ⟨w.heap.size, 6, none⟩ = some (.string B) := (blk_cell Q8.out.b0 6).trans rfl; have yq7 : w8.cell? ⟨w.heap.size, 7, none⟩ = some (.slice A n c) := (blk_cell Q8.out.b0 7).trans rfl)
        | fail))
    go_wp2_with fail
    go_meet
    exact ⟨rfl, ⟨by repeat (first | exact Q8.out | apply QC.drewN | apply QC.drew)⟩⟩
  case rest =>
  obtain ⟨rfl, Q7⟩ := hcut
  go_wp2_with (first
    | (go_at_call 33; (with_reducible refine (HP2.out _).mono ?_); rintro e w5 ⟨⟨h0, h1, h2, h3, h4, h5, B2, A8, m8, c8, n2, rfl⟩, hB⟩; have Q5 := Aside0.mk ((Q7.out.below hB).alloc (.cells #[.int .i64 h0, .int .i64 h1, .int .i64 h2, .int .i64 h3, .int .i64 h4, .int .i64 h5, .string B2, .slice A8 m8 c8] 62)); clear hB)
    | (go_at_call 25; (with_reducible refine (HAW.out _).mono ?_); rintro e w9 ⟨rfl, hB⟩; have Q9 := Aside0.mk (Q5.out.below hB); clear hB))
  go_ret
  exact ⟨rfl, Q9.out.bel⟩
set_option maxHeartbeats 2000000 in
set_option maxRecDepth 100000 in
theorem back_yy (g0 g1 g2 g3 g4 g5 : Int) (B : ByteArray) (ls : List S57) (A : Option Addr) (c : Nat) (text : ByteArray) (w : World)
    (hr : Kd.C k57 w A ls.length ls) (hc : ls.length ≤ c) (hg : I64 g0 ∧ I64 g1 ∧ I64 g2 ∧ I64 g3 ∧ I64 g4 ∧ I64 g5) (hB : B.size ≤ 16777216) (hls : ∀ x ∈ ls, ActOk (act66 x)) (hl : ls.length ≤ 16777216)
    (hsz : ∀ l ∈ rowsOf g0 g1 g2 g3 g4 g5 B (ls.map act66), ∀ x ∈ l, x.size ≤ 16777216) (hT : (textB (rowsOf g0 g1 g2 g3 g4 g5 B (ls.map act66))).length ≤ 16000000) (htx6 : text.size ≤ 6000) (hex0 : (printF g0 g1 g2 g3 g4 g5 B (ls.map act66)).2 = 0) (her0 : (parseP text).2.2 = 0) :
    Calls Tryd.prog 9 #[.agg #[.int .i64 g0, .int .i64 g1, .int .i64 g2, .int .i64 g3, .int .i64 g4, .int .i64 g5, .string B, .slice A ls.length c], .string text] w fun e w' => e = .returned (.bool true) ∧ Below w.heap.size w w' := by
  have HG : Aside0 (∀ W, Below w.heap.size w W → Calls Tryd.prog 24 #[.agg #[.int .i64 g0, .int .i64 g1, .int .i64 g2, .int .i64 g3, .int .i64 g4, .int .i64 g5, .string B, .slice A ls.length c]] W fun e w' => Says e ∧ Below W.heap.size W w') := ⟨fun W hb => great_calls g0 g1 g2 g3 g4 g5 B ls A c W (Kd.C_below hr hb)⟩
  have HAW : Aside0 (∀ W, Calls Tryd.prog 25 #[] W fun e w' => e = .returned (.bool true) ∧ Below W.heap.size W w') := ⟨fun W => awake40_calls W⟩
  have HOf : Aside0 (∀ W, Below w.heap.size w W → Calls Tryd.prog 27 #[.agg #[.int .i64 g0, .int .i64 g1, .int .i64 g2, .int .i64 g3, .int .i64 g4, .int .i64 g5, .string B, .slice A ls.length c]] W fun e w' => ∃ A2 c2, e = .returned (.agg #[.int .i64 g0, .int .i64 g1, .int .i64 g2, .int .i64 g3, .int .i64 g4, .int .i64 g5, .string B, .slice A2 ls.length c2]) ∧ Kd.C k66 w' A2 ls.length (ls.map act66) ∧ Below W.heap.size W w') := ⟨fun W hb => by
    have h := of_calls57 g0 g1 g2 g3 g4 g5 B ls A c W (Kd.C_below hr hb) hc hl
    rw [List.length_map] at h
    exact h⟩
  have hok : ∀ a ∈ ls.map act66, ActOk a := fun a ha => by
    obtain ⟨y, hy, rfl⟩ := List.mem_map.1 ha
    exact hls y hy
  have HPr : Aside0 (∀ W A2 c2, Kd.C k66 W A2 ls.length (ls.map act66) → Calls Tryd.prog 26 #[.agg #[.int .i64 g0, .int .i64 g1, .int .i64 g2, .int .i64 g3, .int .i64 g4, .int .i64 g5, .string B, .slice A2 ls.length c2]] W fun e w' => e = .returned (.tuple #[.string (printF g0 g1 g2 g3 g4 g5 B (ls.map act66)).1, .int .i64 (printF g0 g1 g2 g3 g4 g5 B (ls.map act66)).2]) ∧ Below W.heap.size W w') := ⟨fun W A2 c2 h2 => by
    have h := print_calls g0 g1 g2 g3 g4 g5 B (ls.map act66) A2 c2 W (by rw [List.length_map]; exact h2) hg hB hok (by rw [List.length_map]; exact hl) hsz (by omega)
    rw [List.length_map] at h
    exact h⟩
  have HBk : Aside0 (∀ W A9 c9, Kd.C k66 W A9 ls.length (ls.map act66) → ls.length ≤ c9 → Calls Tryd.prog 36 #[.agg #[.int .i64 g0, .int .i64 g1, .int .i64 g2, .int .i64 g3, .int .i64 g4, .int .i64 g5, .string B, .slice A9 ls.length c9]] W fun e w' => (∃ A2 c2, e = .returned (.agg #[.int .i64 g0, .int .i64 g1, .int .i64 g2, .int .i64 g3, .int .i64 g4, .int .i64 g5, .string B, .slice A2 ls.length c2]) ∧ Kd.C k57 w' A2 ls.length ls) ∧ Below W.heap.size W w') := ⟨fun W A9 c9 h9 hc9 => by
    have h := back_calls g0 g1 g2 g3 g4 g5 B (ls.map act66) A9 c9 W (by rw [List.length_map]; exact h9) (by rw [List.length_map]; exact hc9) (by rw [List.length_map]; exact hl)
    rw [map57_66, List.length_map] at h
    refine h.mono ?_
    rintro e w' ⟨A2, c2, he, _, hC, hB⟩
    exact ⟨⟨A2, c2, he, hC⟩, hB⟩⟩
  have HSm : Aside0 (∀ W A2 c2, Below w.heap.size w W → Kd.C k57 W A2 ls.length ls → Calls Tryd.prog 35 #[.agg #[.int .i64 g0, .int .i64 g1, .int .i64 g2, .int .i64 g3, .int .i64 g4, .int .i64 g5, .string B, .slice A2 ls.length c2], .agg #[.int .i64 g0, .int .i64 g1, .int .i64 g2, .int .i64 g3, .int .i64 g4, .int .i64 g5, .string B, .slice A ls.length c]] W fun e w' => e = .returned (.bool true) ∧ Below W.heap.size W w') := ⟨fun W A2 c2 hb h2 => sameScript_calls g0 g1 g2 g3 g4 g5 B ls A2 c2 A c W h2 (Kd.C_below hr hb) (fun a ha => ⟨(hls a ha).vl, (hls a ha).ml⟩) hl⟩
  have hpz := printF_size g0 g1 g2 g3 g4 g5 B (ls.map act66) 16000000 hT
  obtain ⟨tx, htx⟩ : ∃ tx, (printF g0 g1 g2 g3 g4 g5 B (ls.map act66)).1 = tx := ⟨_, rfl⟩
  obtain ⟨ex, hex⟩ : ∃ ex, (printF g0 g1 g2 g3 g4 g5 B (ls.map act66)).2 = ex := ⟨_, rfl⟩
  rw [htx, hex] at HPr
  rw [htx] at hpz
  obtain rfl : ex = 0 := hex.symm.trans hex0
  have hpp := parse_print g0 g1 g2 g3 g4 g5 B (ls.map act66) tx hg hok (Prod.ext htx hex)
  have HP1 : Aside0 (∀ W, Calls Tryd.prog 33 #[.string tx] W fun e w' => (∃ A9 c9, e = .returned (.tuple #[.agg #[.int .i64 g0, .int .i64 g1, .int .i64 g2, .int .i64 g3, .int .i64 g4, .int .i64 g5, .string B, .slice A9 ls.length c9], .int .i64 0, .int .i64 0]) ∧ ls.length ≤ c9 ∧ Kd.C k66 w' A9 ls.length (ls.map act66)) ∧ Below W.heap.size W w') := ⟨fun W => (parse_calls tx hpz W _ ⟨hpp⟩).mono (by
    rintro e w' ⟨⟨h0, h1, h2, h3, h4, h5, B2, v, acts, n, er, rfl, hv, ho⟩, hB⟩
    simp only [Prod.mk.injEq, List.cons.injEq, and_true] at ho
    obtain ⟨⟨⟨rfl, rfl, rfl, rfl, rfl, rfl⟩, rfl, rfl⟩, rfl, rfl⟩ := ho
    obtain ⟨A9, c9, rfl, h6, h7⟩ := Kd.R_reads hv
    rw [List.length_map] at h6 h7 ⊢
    exact ⟨⟨A9, c9, rfl, h6, h7⟩, hB⟩)⟩
  have HP2 : Aside0 (∀ W, Calls Tryd.prog 33 #[.string text] W fun e w' => (∃ h0 h1 h2 h3 h4 h5 B2 A8 c8 acts n2, e = .returned (.tuple #[.agg #[.int .i64 h0, .int .i64 h1, .int .i64 h2, .int .i64 h3, .int .i64 h4, .int .i64 h5, .string B2, .slice A8 acts.length c8], .int .i64 n2, .int .i64 0]) ∧ Kd.C k66 w' A8 acts.length acts ∧ parseP text = (([h0, h1, h2, h3, h4, h5], B2, acts), n2, 0)) ∧ Below W.heap.size W w') := ⟨fun W => (parse_calls text (by omega) W _ ⟨rfl⟩).mono (by
    rintro e w' ⟨⟨h0, h1, h2, h3, h4, h5, B2, v, acts, n, er, rfl, hv, ho⟩, hB⟩
    obtain ⟨A8, c8, rfl, _, h7⟩ := Kd.R_reads hv
    have he : er = 0 := by rw [ho] at her0; exact her0
    subst he
    exact ⟨⟨h0, h1, h2, h3, h4, h5, B2, A8, c8, acts, n, rfl, h7, ho⟩, hB⟩)⟩
  have HP3 : Aside0 (∀ W h0 h1 h2 h3 h4 h5 B2 A8 c8 (acts : List S66) n2, parseP text = (([h0, h1, h2, h3, h4, h5], B2, acts), n2, 0) → Kd.C k66 W A8 acts.length acts → Calls Tryd.prog 26 #[.agg #[.int .i64 h0, .int .i64 h1, .int .i64 h2, .int .i64 h3, .int .i64 h4, .int .i64 h5, .string B2, .slice A8 acts.length c8]] W fun e w' => e = .returned (.tuple #[.string text, .int .i64 0]) ∧ Below W.heap.size W w') := ⟨fun W h0 h1 h2 h3 h4 h5 B2 A8 c8 acts n2 hp hC => print_read text (by omega) h0 h1 h2 h3 h4 h5 B2 acts n2 hp A8 c8 W hC⟩
  clear hr hc hg hB hls hl hsz hT hok hpz her0 hpp htx hex
  obtain ⟨n, hn⟩ : ∃ n, ls.length = n := ⟨_, rfl⟩
  rw [hn] at HG HOf HPr HBk HSm HP1 ⊢
  clear hn
  have Q0 := Aside0.mk (QC.new w #[.int .i64 g0, .int .i64 g1, .int .i64 g2, .int .i64 g3, .int .i64 g4, .int .i64 g5, .string B, .slice A n c])
  have e6 : decide (6000 < (text.size : Int)) = false := decide_eq_false (by omega)
  have e7 : decide (6000 < text.size) = false := decide_eq_false (by omega)
  go_enter Tryd.func9, Tryd.ntmps9
  go_upto_region 6 with (first
    | (go_at_call 24; (with_reducible refine (HG.out _ Q0.out.bel).mono ?_); rintro e w1 ⟨⟨gb, rfl⟩, hB⟩; have Q1 := Aside0.mk (Q0.out.below hB); clear hB; have p0 : w1.cell? ⟨w.heap.size, 0, none⟩ = some (.int .i64 g0) := (blk_cell Q1.out.b0 0).trans rfl; have p1 : w1.cell? ⟨w.heap.size, 1, none⟩ = some (.int .i64 g1) := (blk_cell Q1.out.b0 1).trans rfl; have p2 : w1.cell? ⟨w.heap.size, 2, none⟩ = some (.int .i64 g2) := (blk_cell Q1.out.b0 2).trans rfl; have p3 : w1.cell? ⟨w.heap.size, 3, none⟩ = some (.int .i64 g3) := (blk_cell Q1.out.b0 3).trans rfl; have p4 : w1.cell? ⟨w.heap.size, 4, none⟩ = some (.int .i64 g4) := (blk_cell Q1.out.b0 4).trans rfl; have p5 : w1.cell? ⟨w.heap.size, 5, none⟩ = some (.int .i64 g5) := (blk_cell Q1.out.b0 5).trans rfl; have p6 : w1.cell? ⟨w.heap.size, 6, none⟩ = some (.string B) := (blk_cell Q1.out.b0 6).trans rfl; have p7 : w1.cell? ⟨w.heap.size, 7, none⟩ = some (.slice A n c) := (blk_cell Q1.out.b0 7).trans rfl)
    | (go_at_call 27; (with_reducible refine (HOf.out _ Q1.out.bel).mono ?_); rintro e w2 ⟨A2, c2, rfl, hC, hB⟩; have Q2 := Aside0.mk (Q1.out.below hB); have C2 := Aside0.mk hC; clear hB hC)
    | (go_at_call 26; (with_reducible refine (HPr.out _ _ _ C2.out).mono ?_); rintro e w3 ⟨rfl, hB⟩; have Q3 := Aside0.mk (Q2.out.below hB); clear hB)
    | (go_at_call 33; (with_reducible refine (HP1.out _).mono ?_); rintro e w4 ⟨⟨A9, c9, rfl, hc9, hC⟩, hB⟩; have Q4 := Aside0.mk ((Q3.out.below hB).alloc (.cells #[.int .i64 g0, .int .i64 g1, .int .i64 g2, .int .i64 g3, .int .i64 g4, .int .i64 g5, .string B, .slice A9 n c9] 62)); have C4 := Aside0.mk (And.intro hc9 (Kd.C_below hC (below_alloc (Below.refl _ _) (.cells #[.int .i64 g0, .int .i64 g1, .int .i64 g2, .int .i64 g3, .int .i64 g4, .int .i64 g5, .string B, .slice A9 n c9] 62)))); have K4 := Aside0.mk (blk_new w4 (.cells #[.int .i64 g0, .int .i64 g1, .int .i64 g2, .int .i64 g3, .int .i64 g4, .int .i64 g5, .string B, .slice A9 n c9] 62)); clear hB hC hc9; have k0 : (w4.alloc (.cells #[.int .i64 g0, .int .i64 g1, .int .i64 g2, .int .i64 g3, .int .i64 g4, .int .i64 g5, .string B, .slice A9 n c9] 62)).cell? ⟨w4.heap.size, 0, none⟩ = some (.int .i64 g0) := (blk_cell K4.out 0).trans rfl; have k1 : (w4.alloc (.cells #[.int .i64 g0, .int .i64 g1, .int .i64 g2, .int .i64 g3, .int .i64 g4, .int .i64 g5, .string B, .slice A9 n c9] 62)).cell? ⟨w4.heap.size, 1, none⟩ = some (.int .i64 g1) := (blk_cell K4.out 1).trans rfl; have k2 : (w4.alloc (.cells #[.int .i64 g0, .int .i64 g1, .int .i64 g2, .int .i64 g3, .int .i64 g4, .int .i64 g5, .string B, .slice A9 n c9] 62)).cell? ⟨w4.heap.size, 2, none⟩ = some (.int .i64 g2) := (blk_cell K4.out 2).trans rfl; have k3 : (w4.alloc (.cells #[.int .i64 g0, .int .i64 g1, .int .i64 g2, .int .i64 g3, .int .i64 g4, .int .i64 g5, .string B, .slice A9 n c9] 62)).cell? ⟨w4.heap.size, 3, none⟩ = some (.int .i64 g3) := (blk_cell K4.out 3).trans rfl; have k4 : (w4.alloc (.cells #[.int .i64 g0, .int .i64 g1, .int .i64 g2, .int .i64 g3, .int .i64 g4, .int .i64 g5, .string B, .slice A9 n c9] 62)).cell? ⟨w4.heap.size, 4, none⟩ = some (.int .i64 g4) := (blk_cell K4.out 4).trans rfl; have k5 : (w4.alloc (.cells #[.int .i64 g0, .int .i64 g1, .int .i64 g2, .int .i64 g3, .int .i64 g4, .int .i64 g5, .string B, .slice A9 n c9] 62)).cell? ⟨w4.heap.size, 5, none⟩ = some (.int .i64 g5) := (blk_cell K4.out 5).trans rfl; have k6 : (w4.alloc (.cells #[.int .i64 g0, .int .i64 g1, .int .i64 g2, .int .i64 g3, .int .i64 g4, .int .i64 g5, .string B, .slice A9 n c9] 62)).cell? ⟨w4.heap.size, 6, none⟩ = some (.string B) := (blk_cell K4.out 6).trans rfl; have k7 : (w4.alloc (.cells #[.int .i64 g0, .int .i64 g1, .int .i64 g2, .int .i64 g3, .int .i64 g4, .int .i64 g5, .string B, .slice A9 n c9] 62)).cell? ⟨w4.heap.size, 7, none⟩ = some (.slice A9 n c9) := (blk_cell K4.out 7).trans rfl; have q0 : (w4.alloc (.cells #[.int .i64 g0, .int .i64 g1, .int .i64 g2, .int .i64 g3, .int .i64 g4, .int .i64 g5, .string B, .slice A9 n c9] 62)).cell? ⟨w.heap.size, 0, none⟩ = some (.int .i64 g0) := (blk_cell Q4.out.b0 0).trans rfl; have q1 : (w4.alloc (.cells #[.int .i64 g0, .int .i64 g1, .int .i64 g2, .int .i64 g3, .int .i64 g4, .int .i64 g5, .string B, .slice A9 n c9] 62)).cell? ⟨w.heap.size, 1, none⟩ = some (.int .i64 g1) := (blk_cell Q4.out.b0 1).trans rfl; have q2 : (w4.alloc (.cells #[.int .i64 g0, .int .i64 g1, .int .i64 g2, .int .i64 g3, .int .i64 g4, .int .i64 g5, .string B, .slice A9 n c9] 62)).cell? ⟨w.heap.size, 2, none⟩ = some (.int .i64 g2) := (blk_cell Q4.out.b0 2).trans rfl; have q3 : (w4.alloc (.cells #[.int .i64 g0, .int .i64 g1, .int .i64 g2, .int .i64 g3, .int .i64 g4, .int .i64 g5, .string B, .slice A9 n c9] 62)).cell? ⟨w.heap.size, 3, none⟩ = some (.int .i64 g3) := (blk_cell Q4.out.b0 3).trans rfl; have q4 : (w4.alloc (.cells #[.int .i64 g0, .int .i64 g1, .int .i64 g2, .int .i64 g3, .int .i64 g4, .int .i64 g5, .string B, .slice A9 n c9] 62)).cell? ⟨w.heap.size, 4, none⟩ = some (.int .i64 g4) := (blk_cell Q4.out.b0 4).trans rfl; have q5 : (w4.alloc (.cells #[.int .i64 g0, .int .i64 g1, .int .i64 g2, .int .i64 g3, .int .i64 g4, .int .i64 g5, .string B, .slice A9 n c9] 62)).cell? ⟨w.heap.size, 5, none⟩ = some (.int .i64 g5) := (blk_cell Q4.out.b0 5).trans rfl; have q6 : (w4.alloc (.cells #[.int .i64 g0, .int .i64 g1, .int .i64 g2, .int .i64 g3, .int .i64 g4, .int .i64 g5, .string B, .slice A9 n c9] 62)).cell? ⟨w.heap.size, 6, none⟩ = some (.string B) := (blk_cell Q4.out.b0 6).trans rfl; have q7 : (w4.alloc (.cells #[.int .i64 g0, .int .i64 g1, .int .i64 g2, .int .i64 g3, .int .i64 g4, .int .i64 g5, .string B, .slice A9 n c9] 62)).cell? ⟨w.heap.size, 7, none⟩ = some (.slice A n c) := (blk_cell Q4.out.b0 7).trans rfl)
    | (go_at_call 25; (with_reducible refine (HAW.out _).mono ?_); rintro e w9 ⟨rfl, hB⟩; have Q9 := Aside0.mk (Q1.out.below hB); clear hB))
  · go_ret
    exact ⟨rfl, Q9.out.bel⟩
  go_cut [49] (fun v wc => v = .bool false ∧ Aside0 (QC w wc #[.int .i64 g0, .int .i64 g1, .int .i64 g2, .int .i64 g3, .int .i64 g4, .int .i64 g5, .string B, .slice A n c]))
  case first =>
    obtain ⟨w5, hw5⟩ : ∃ w5, w4.alloc (.cells #[.int .i64 g0, .int .i64 g1, .int .i64 g2, .int .i64 g3, .int .i64 g4, .int .i64 g5, .string B, .slice A9 n c9] 62) = w5 := ⟨_, rfl⟩
    rw [hw5] at Q4 C4 K4 ⊢
    clear k0 q0 k1 q1 k2 q2 k3 q3 k4 q4 k5 q5 k6 q6 k7 q7 hw5
    have zk0 : w5.cell? ⟨w4.heap.size, 0, none⟩ = some (.int .i64 g0) := (blk_cell K4.out 0).trans rfl
    have zk1 : w5.cell? ⟨w4.heap.size, 1, none⟩ = some (.int .i64 g1) := (blk_cell K4.out 1).trans rfl
    have zk2 : w5.cell? ⟨w4.heap.size, 2, none⟩ = some (.int .i64 g2) := (blk_cell K4.out 2).trans rfl
    have zk3 : w5.cell? ⟨w4.heap.size, 3, none⟩ = some (.int .i64 g3) := (blk_cell K4.out 3).trans rfl
    have zk4 : w5.cell? ⟨w4.heap.size, 4, none⟩ = some (.int .i64 g4) := (blk_cell K4.out 4).trans rfl
    have zk5 : w5.cell? ⟨w4.heap.size, 5, none⟩ = some (.int .i64 g5) := (blk_cell K4.out 5).trans rfl
    have zk6 : w5.cell? ⟨w4.heap.size, 6, none⟩ = some (.string B) := (blk_cell K4.out 6).trans rfl
    have zk7 : w5.cell? ⟨w4.heap.size, 7, none⟩ = some (.slice A9 n c9) := (blk_cell K4.out 7).trans rfl
    have zq0 : w5.cell? ⟨w.heap.size, 0, none⟩ = some (.int .i64 g0) := (blk_cell Q4.out.b0 0).trans rfl
    have zq1 : w5.cell? ⟨w.heap.size, 1, none⟩ = some (.int .i64 g1) := (blk_cell Q4.out.b0 1).trans rfl
    have zq2 : w5.cell? ⟨w.heap.size, 2, none⟩ = some (.int .i64 g2) := (blk_cell Q4.out.b0 2).trans rfl
    have zq3 : w5.cell? ⟨w.heap.size, 3, none⟩ = some (.int .i64 g3) := (blk_cell Q4.out.b0 3).trans rfl
    have zq4 : w5.cell? ⟨w.heap.size, 4, none⟩ = some (.int .i64 g4) := (blk_cell Q4.out.b0 4).trans rfl
    have zq5 : w5.cell? ⟨w.heap.size, 5, none⟩ = some (.int .i64 g5) := (blk_cell Q4.out.b0 5).trans rfl
    have zq6 : w5.cell? ⟨w.heap.size, 6, none⟩ = some (.string B) := (blk_cell Q4.out.b0 6).trans rfl
    have zq7 : w5.cell? ⟨w.heap.size, 7, none⟩ = some (.slice A n c) := (blk_cell Q4.out.b0 7).trans rfl
    go_region_held3 (fun w' => w'.cell? ⟨w4.heap.size, 0, none⟩ = some (.int .i64 g0) ∧ w'.cell? ⟨w4.heap.size, 1, none⟩ = some (.int .i64 g1) ∧ w'.cell? ⟨w4.heap.size, 2, none⟩ = some (.int .i64 g2) ∧ w'.cell? ⟨w4.heap.size, 3, none⟩ = some (.int .i64 g3) ∧ w'.cell? ⟨w4.heap.size, 4, none⟩ = some (.int .i64 g4) ∧ w'.cell? ⟨w4.heap.size, 5, none⟩ = some (.int .i64 g5) ∧ w'.cell? ⟨w4.heap.size, 6, none⟩ = some (.string B) ∧ w'.cell? ⟨w4.heap.size, 7, none⟩ = some (.slice A9 n c9) ∧ w'.cell? ⟨w.heap.size, 0, none⟩ = some (.int .i64 g0) ∧ w'.cell? ⟨w.heap.size, 1, none⟩ = some (.int .i64 g1) ∧ w'.cell? ⟨w.heap.size, 2, none⟩ = some (.int .i64 g2) ∧ w'.cell? ⟨w.heap.size, 3, none⟩ = some (.int .i64 g3) ∧ w'.cell? ⟨w.heap.size, 4, none⟩ = some (.int .i64 g4) ∧ w'.cell? ⟨w.heap.size, 5, none⟩ = some (.int .i64 g5) ∧ w'.cell? ⟨w.heap.size, 6, none⟩ = some (.string B) ∧ w'.cell? ⟨w.heap.size, 7, none⟩ = some (.slice A n c))
      (first | go_keep | exact ⟨zk0, zk1, zk2, zk3, zk4, zk5, zk6, zk7, zq0, zq1, zq2, zq3, zq4, zq5, zq6, zq7⟩ | exact ⟨xk0, xk1, xk2, xk3, xk4, xk5, xk6, xk7, xq0, xq1, xq2, xq3, xq4, xq5, xq6, xq7⟩ | exact ⟨yk0, yk1, yk2, yk3, yk4, yk5, yk6, yk7, yq0, yq1, yq2, yq3, yq4, yq5, yq6, yq7⟩)
      ((first
        | (go_at_call 36; (with_reducible refine (HBk.out _ _ _ (Kd.C_below C4.out.2 (by repeat (first | exact Below.refl _ _ | apply below_drew1 | apply pw_below_drewN))) C4.out.1).mono ?_); rintro e w7 ⟨⟨A7, c7, rfl, hC⟩, hB⟩; have Q7 := Aside0.mk (QC.below (by with_reducible repeat (first | exact Q4.out | apply QC.drew | apply QC.drewN)) hB); have K7 := Aside0.mk (blk_below (by repeat (first | exact K4.out | apply blk_drew | apply blk_drewN)) hB); have C7 := Aside0.mk hC; clear hB hC; have xk0 : w7.cell? ⟨w4.heap.size, 0, none⟩ = some (.int .i64 g0) := (blk_cell K7.out 0).trans rfl; have xk1 : w7.cell? ⟨w4.heap.size, 1, none⟩ = some (.int .i64 g1) := (blk_cell K7.out 1).trans rfl; have xk2 : w7.cell? ⟨w4.heap.size, 2, none⟩ = some (.int .i64 g2) := (blk_cell K7.out 2).trans rfl; have xk3 : w7.cell? ⟨w4.heap.size, 3, none⟩ = some (.int .i64 g3) := (blk_cell K7.out 3).trans rfl; have xk4 : w7.cell? ⟨w4.heap.size, 4, none⟩ = some (.int .i64 g4) := (blk_cell K7.out 4).trans rfl; have xk5 : w7.cell? ⟨w4.heap.size, 5, none⟩ = some (.int .i64 g5) := (blk_cell K7.out 5).trans rfl; have xk6 : w7.cell? ⟨w4.heap.size, 6, none⟩ = some (.string B) := (blk_cell K7.out 6).trans rfl; have xk7 : w7.cell? ⟨w4.heap.size, 7, none⟩ = some (.slice A9 n c9) := (blk_cell K7.out 7).trans rfl; have xq0 : w7.cell? ⟨w.heap.size, 0, none⟩ = some (.int .i64 g0) := (blk_cell Q7.out.b0 0).trans rfl; have xq1 : w7.cell? ⟨w.heap.size, 1, none⟩ = some (.int .i64 g1) := (blk_cell Q7.out.b0 1).trans rfl; have xq2 : w7.cell? ⟨w.heap.size, 2, none⟩ = some (.int .i64 g2) := (blk_cell Q7.out.b0 2).trans rfl; have xq3 : w7.cell? ⟨w.heap.size, 3, none⟩ = some (.int .i64 g3) := (blk_cell Q7.out.b0 3).trans rfl; have xq4 : w7.cell? ⟨w.heap.size, 4, none⟩ = some (.int .i64 g4) := (blk_cell Q7.out.b0 4).trans rfl; have xq5 : w7.cell? ⟨w.heap.size, 5, none⟩ = some (.int .i64 g5) := (blk_cell Q7.out.b0 5).trans rfl; have xq6 : w7.cell? ⟨w.heap.size, 6, none⟩ = some (.string B) := (blk_cell Q7.out.b0 6).trans rfl; have xq7 : w7.cell? ⟨w.heap.size, 7, none⟩ = some (.slice A n c) := (blk_cell Q7.out.b0 7).trans rfl)
        | (go_at_call 35; (with_reducible refine (HSm.out _ _ _ (QC.bel (cs := #[.int .i64 g0, .int .i64 g1, .int .i64 g2, .int .i64 g3, .int .i64 g4, .int .i64 g5, .string B, .slice A n c]) (by with_reducible repeat (first | exact Q7.out | apply QC.drew | apply QC.drewN))) (Kd.C_below C7.out (by repeat (first | exact Below.refl _ _ | apply below_drew1 | apply pw_below_drewN)))).mono ?_); rintro e w8 ⟨rfl, hB⟩; have Q8 := Aside0.mk (QC.below (by with_reducible repeat (first | exact Q7.out | apply QC.drew | apply QC.drewN)) hB); have K8 := Aside0.mk (blk_below (by repeat (first | exact K7.out | apply blk_drew | apply blk_drewN)) hB); clear hB; have yk0 : w8.cell? ⟨w4.heap.size, 0, none⟩ = some (.int .i64 g0) := (blk_cell K8.out 0).trans rfl; have yk1 : w8.cell? ⟨w4.heap.size, 1, none⟩ = some (.int .i64 g1) := (blk_cell K8.out 1).trans rfl; have yk2 : w8.cell? ⟨w4.heap.size, 2, none⟩ = some (.int .i64 g2) := (blk_cell K8.out 2).trans rfl; have yk3 : w8.cell? ⟨w4.heap.size, 3, none⟩ = some (.int .i64 g3) := (blk_cell K8.out 3).trans rfl; have yk4 : w8.cell? ⟨w4.heap.size, 4, none⟩ = some (.int .i64 g4) := (blk_cell K8.out 4).trans rfl; have yk5 : w8.cell? ⟨w4.heap.size, 5, none⟩ = some (.int .i64 g5) := (blk_cell K8.out 5).trans rfl; have yk6 : w8.cell? ⟨w4.heap.size, 6, none⟩ = some (.string B) := (blk_cell K8.out 6).trans rfl; have yk7 : w8.cell? ⟨w4.heap.size, 7, none⟩ = some (.slice A9 n c9) := (blk_cell K8.out 7).trans rfl; have yq0 : w8.cell? ⟨w.heap.size, 0, none⟩ = some (.int .i64 g0) := (blk_cell Q8.out.b0 0).trans rfl; have yq1 : w8.cell? ⟨w.heap.size, 1, none⟩ = some (.int .i64 g1) := (blk_cell Q8.out.b0 1).trans rfl; have yq2 : w8.cell? ⟨w.heap.size, 2, none⟩ = some (.int .i64 g2) := (blk_cell Q8.out.b0 2).trans rfl; have yq3 : w8.cell? ⟨w.heap.size, 3, none⟩ = some (.int .i64 g3) := (blk_cell Q8.out.b0 3).trans rfl; have yq4 : w8.cell? ⟨w.heap.size, 4, none⟩ = some (.int .i64 g4) := (blk_cell Q8.out.b0 4).trans rfl; have yq5 : w8.cell? ⟨w.heap.size, 5, none⟩ = some (.int .i64 g5) := (blk_cell Q8.out.b0 5).trans rfl; have yq6 : w8.cell? ⟨w.heap.size, 6, none⟩ = some (.string B) := (blk_cell Q8.out.b0 6).trans rfl; have yq7 : w8.cell? ⟨w.heap.size, 7, none⟩ = some (.slice A n c) := (blk_cell Q8.out.b0 7).trans rfl)
        | fail))
    go_wp2_with fail
    go_meet
    exact ⟨rfl, ⟨by repeat (first | exact Q8.out | apply QC.drewN | apply QC.drew)⟩⟩
  case rest =>
  obtain ⟨rfl, Q7⟩ := hcut
  go_wp2_with (first
    | (go_at_call 33; (with_reducible refine (HP2.out _).mono ?_); rintro e w5 ⟨⟨h0, h1, h2, h3, h4, h5, B2, A8, c8, acts, n2, rfl, hC, hpt⟩, hB⟩; have Q5 := Aside0.mk ((Q7.out.below hB).alloc (.cells #[.int .i64 h0, .int .i64 h1, .int .i64 h2, .int .i64 h3, .int .i64 h4, .int .i64 h5, .string B2, .slice A8 acts.length c8] 62)); have C5 := Aside0.mk (And.intro (Kd.C_below hC (below_alloc (Below.refl _ _) (.cells #[.int .i64 h0, .int .i64 h1, .int .i64 h2, .int .i64 h3, .int .i64 h4, .int .i64 h5, .string B2, .slice A8 acts.length c8] 62))) hpt); clear hB hC hpt)
    | (go_at_call 26; (with_reducible refine (HP3.out _ _ _ _ _ _ _ _ _ _ _ _ C5.out.2 C5.out.1).mono ?_); rintro e w6 ⟨rfl, hB⟩; have Q6 := Aside0.mk (Q5.out.below hB); clear hB)
    | (go_at_call 25; (with_reducible refine (HAW.out _).mono ?_); rintro e w9 ⟨rfl, hB⟩; have Q9 := Aside0.mk (Q6.out.below hB); clear hB))
  go_ret
  exact ⟨rfl, Q9.out.bel⟩
theorem scriptBack_calls (g0 g1 g2 g3 g4 g5 : Int) (B : ByteArray) (ls : List S57) (A : Option Addr) (c : Nat) (text : ByteArray) (w : World)
    (hr : Kd.C k57 w A ls.length ls) (hc : ls.length ≤ c) (hg : I64 g0 ∧ I64 g1 ∧ I64 g2 ∧ I64 g3 ∧ I64 g4 ∧ I64 g5) (hB : B.size ≤ 16777216) (hls : ∀ x ∈ ls, ActOk (act66 x)) (hl : ls.length ≤ 16777216)
    (hsz : ∀ l ∈ rowsOf g0 g1 g2 g3 g4 g5 B (ls.map act66), ∀ x ∈ l, x.size ≤ 16777216) (hT : (textB (rowsOf g0 g1 g2 g3 g4 g5 B (ls.map act66))).length ≤ 16000000) :
    Calls Tryd.prog 9 #[.agg #[.int .i64 g0, .int .i64 g1, .int .i64 g2, .int .i64 g3, .int .i64 g4, .int .i64 g5, .string B, .slice A ls.length c], .string text] w fun e w' => e = .returned (.bool true) ∧ Below w.heap.size w w' := by
  by_cases h6 : text.size ≤ 6000
  · by_cases he : (printF g0 g1 g2 g3 g4 g5 B (ls.map act66)).2 = 0
    · rcases parseP_er text with h | h
      · exact back_yy g0 g1 g2 g3 g4 g5 B ls A c text w hr hc hg hB hls hl hsz hT h6 he h
      · exact back_yn g0 g1 g2 g3 g4 g5 B ls A c text w hr hc hg hB hls hl hsz hT h6 he h
    · rcases parseP_er text with h | h
      · exact back_ny g0 g1 g2 g3 g4 g5 B ls A c text w hr hc hg hB hls hl hsz hT h6 he h
      · exact back_nn g0 g1 g2 g3 g4 g5 B ls A c text w hr hc hg hB hls hl hsz hT h6 he h
  · exact back_great g0 g1 g2 g3 g4 g5 B ls A c text w hr hc hg hB hls hl hsz hT (by omega)
end Go.Proofs.YtiddiboclfpklaaDoor.Tz
