/- Lemmas that the claim's theorem uses. -/
import Derived.Test.YtiddiboclfpklaaDoorRdO
import Derived.Test.YtiddiboclfpklaaDoorRdP
namespace Go.Proofs.YtiddiboclfpklaaDoor.Tz
open Go.RowKit Go.Proofs.YtiddiboclfpklaaDoorW.PrintWords Go.Proofs.YtiddiboclfpklaaDoor.PScriptReads Go.Proofs.YtiddiboclfpklaaDoor.Tx
set_option linter.unusedVariables false
theorem rowsF_length : ∀ (n : Nat) (s : ByteArray), (rowsF n s).length ≤ n
 | 0, s => Nat.le_refl _
 | n + 1, s => by
  rw [rowsF]
  split
  ·exact Nat.zero_le _
  ·split
   ·exact Nat.succ_le_succ (Nat.zero_le _)
   ·rw [List.length_cons]; exact Nat.succ_le_succ (rowsF_length n _)
theorem rowsF_sz : ∀ (n : Nat) (s : ByteArray), ∀ x ∈ rowsF n s, x.1.size ≤ s.size
 | 0, s, x, hx => by cases hx
 | n + 1, s, x, hx => by
  rw [rowsF] at hx
  split at hx
  ·cases hx
  ·split at hx
   ·rw [List.mem_singleton] at hx
    rw [hx]; exact Nat.le_refl _
   ·rw [List.mem_cons] at hx
    rcases hx with rfl | hx
    ·simp; omega
    ·have := rowsF_sz n _ x hx
     simp at this; omega
structure RowsOk (ls : List (List ByteArray)) : Prop where
 len : ls.length ≤ 16777216
 ne : ∀ l ∈ ls, l ≠ []
 row : ∀ l ∈ ls, l.length ≤ 16777216
 word : ∀ l ∈ ls, ∀ x ∈ l, x.size ≤ 16777216
theorem linesF_rows (s : ByteArray) (hs : s.size ≤ 16000000) : RowsOk (linesF s).1 := by
 rcases linesF_form s with ⟨_, h⟩ | ⟨h, _⟩
 ·rw [h]
  refine ⟨?_, ?_, ?_, ?_⟩
  ·rw [List.length_map]; have := rowsF_length s.size s; omega
  ·intro l hl e
   obtain ⟨y, hy, rfl⟩ := List.mem_map.1 hl
   have h1 := wordsF_length y.1
   rw [e] at h1
   simp at h1
  ·intro l hl
   obtain ⟨y, hy, rfl⟩ := List.mem_map.1 hl
   have h1 := rowsF_sz _ _ y hy
   have h2 := wordsF_length y.1
   have h3 := count_le y.1 32
   omega
  ·intro l hl x hx
   obtain ⟨y, hy, rfl⟩ := List.mem_map.1 hl
   have h1 := rowsF_sz _ _ y hy
   have h2 := splitF_size _ _ _ x hx
   omega
 ·rw [h]
  exact ⟨by simp, by simp, by simp, by simp⟩
def parW : ByteArray := ⟨#[112, 97, 114, 99, 101, 108]⟩
theorem parW_list : parW.toList = [112, 97, 114, 99, 101, 108] := by rw [Lib.toList_data]; rfl
def okDev : List ByteArray → Bool
 | x :: r => devOk x r
 | [] => false
def okPar : List ByteArray → Bool
 | x :: r => (bytesF r).2 && (x.toList == parW.toList)
 | [] => false
def okAct : List ByteArray → Bool
 | x :: r => (actP x r).isSome
 | [] => false
def actD : List ByteArray → S66
 | x :: r => (actP x r).getD z66
 | [] => z66
def badFrom : Nat → List (List ByteArray) → Option Nat
 | _, [] => none
 | i, l :: ls => if okAct l then badFrom (i + 1) ls else some i
def scr0 : List Int × ByteArray × List S66 := ([0, 0, 0, 0, 0, 0], ⟨#[]⟩, [])
def rowsP : List (List ByteArray) → (List Int × ByteArray × List S66) × Int × Int
 | [] => (scr0, 1, 4)
 | [d] => if okDev d then (scr0, 2, 4) else (scr0, 1, 4)
 | d :: p :: al => if okDev d then (if okPar p then (match badFrom 2 al with
  | none => ((d.tail.map numOf, (bytesF p.tail).1, al.map actD), 0, 0)
  | some i => (scr0, (i : Int) + 1, 4)) else (scr0, 2, 4)) else (scr0, 1, 4)
def parseP (s : ByteArray) : (List Int × ByteArray × List S66) × Int × Int := if (linesF s).2.2 = 0 then rowsP (linesF s).1 else (scr0, (linesF s).2.1, (linesF s).2.2)
theorem badFrom_ok : ∀ (ls : List (List ByteArray)) (i : Nat), ls.all okAct = true → badFrom i ls = none
 | [], i, _ => rfl
 | l :: ls, i, h => by
  rw [List.all_cons, Bool.and_eq_true] at h
  rw [badFrom, if_pos h.1, badFrom_ok ls (i + 1) h.2]
theorem badFrom_at : ∀ (d : List (List ByteArray)) (l : List ByteArray) (r : List (List ByteArray)) (i : Nat), d.all okAct = true → okAct l = false → badFrom i (d ++ l :: r) = some (i + d.length)
 | [], l, r, i, _, h => by rw [List.nil_append, badFrom, h, if_neg Bool.false_ne_true]; rfl
 | x :: d, l, r, i, h, h2 => by
  rw [List.all_cons, Bool.and_eq_true] at h
  rw [List.cons_append, badFrom, if_pos h.1, badFrom_at d l r (i + 1) h.2 h2, List.length_cons]
  congr 1; omega
theorem rowsP_dev : ∀ (d : List ByteArray) (ls : List (List ByteArray)), okDev d = false → rowsP (d :: ls) = (scr0, 1, 4)
 | d, [], h => by rw [rowsP, h, if_neg Bool.false_ne_true]
 | d, p :: al, h => by rw [rowsP, h, if_neg Bool.false_ne_true]
theorem rowsP_par (d p : List ByteArray) (al : List (List ByteArray)) (h : okDev d = true) (h2 : okPar p = false) : rowsP (d :: p :: al) = (scr0, 2, 4) := by rw [rowsP, if_pos h, h2, if_neg Bool.false_ne_true]
theorem rowsP_more (d p : List ByteArray) (al : List (List ByteArray)) (h : okDev d = true) (h2 : okPar p = true) : rowsP (d :: p :: al) = (match badFrom 2 al with
  | none => ((d.tail.map numOf, (bytesF p.tail).1, al.map actD), 0, 0)
  | some i => (scr0, (i : Int) + 1, 4)) := by rw [rowsP, if_pos h, if_pos h2]
inductive Got (rows : List (List ByteArray)) : Nat → List Int → ByteArray → List S66 → Prop
 | zero : Got rows 0 [0, 0, 0, 0, 0, 0] ⟨#[]⟩ []
 | one (d : List ByteArray) (ls : List (List ByteArray)) (hr : rows = d :: ls) (h : okDev d = true) : Got rows 1 (d.tail.map numOf) ⟨#[]⟩ []
 | more (d p : List ByteArray) (done rest : List (List ByteArray)) (t : Nat) (ht : t = done.length + 2) (hr : rows = d :: p :: (done ++ rest)) (hd : okDev d = true) (hp : okPar p = true) (ha : done.all okAct = true) : Got rows t (d.tail.map numOf) (bytesF p.tail).1 (done.map actD)
def cs0 : Array Value := #[.int .i64 0, .int .i64 0, .int .i64 0, .int .i64 0, .int .i64 0, .int .i64 0, .string ⟨#[]⟩, .slice none 0 0]
theorem on62 : cs0.all (·.oneCell') = true := by kernel_rfl
theorem sz62 : (Tryd.prog.info? 62).map (·.size) = some 8 := by kernel_rfl
theorem info66 : (Tryd.prog.info? 66).map (fun i => (i.zero, i.size, i.bytes)) = some (some (.agg #[(.int .i64 0), (.int .i64 0), (.string ⟨#[]⟩), (.int .i64 0), (.slice none 0 0), (.bool false), (.bool false), (.int .i64 0), (.slice none 0 0)]), 9, 104) := by kernel_rfl
def cells62 (g0 g1 g2 g3 g4 g5 : Int) (B : ByteArray) (v : Value) : Array Value := #[.int .i64 g0, .int .i64 g1, .int .i64 g2, .int .i64 g3, .int .i64 g4, .int .i64 g5, .string B, v]
theorem one62' (g0 g1 g2 g3 g4 g5 : Int) (B : ByteArray) (v : Value) (h : v.oneCell' = true) : (cells62 g0 g1 g2 g3 g4 g5 B v).all (·.oneCell') = true := by
 simp [cells62, Value.oneCell']
 simp only [Value.oneCell'] at h
 exact h
structure PS (w w2 wr : World) (cs : Array Value) (v : Value) (acts : List S66) : Prop where
 box : wr.heap[w2.heap.size]? = some (.cells cs 62 (0, 0))
 res : wr.heap[w.heap.size]? = some (.cells cs0 62 (0, 0))
 row : Kd.R k66 66 wr w2.heap.size (fun _ => True) v acts
 bel : Below w2.heap.size w2 wr
 lt : w.heap.size < w2.heap.size
theorem setRow_size (w : World) (g : Nat) (cs : Array Value) : (w.setRow g cs).heap.size = w.heap.size := by simp
theorem ty66 : ∀ q : Nat, q ∈ 66 :: k66.E → q ≠ 62 := by
 intro q hq
 have h : q ∈ [66, 107, 116] := hq
 simp at h; omega
theorem ty66E : ∀ q : Nat, q ∈ k66.E → q ≠ 66 := by
 intro q hq
 have h : q ∈ [107, 116] := hq
 simp at h; omega
theorem PS.below {w w2 wr w4 : World} {cs : Array Value} {v : Value} {acts : List S66} (S : PS w w2 wr cs v acts) (hB : Below wr.heap.size wr w4) : PS w w2 w4 cs v acts :=
 ⟨blk_below S.box hB, blk_below S.res hB, Kd.R_below S.row hB, S.bel.trans (hB.mono S.bel.size), S.lt⟩
theorem PS.put {w w2 wr : World} {cs : Array Value} {v : Value} {acts : List S66} (S : PS w w2 wr cs v acts) (j : Nat) (u : Value) : PS w w2 (wr.setCell ⟨w2.heap.size, j, none⟩ u) (cs.setIfInBounds j u) v acts :=
 ⟨blk_set S.box j u, blk_far S.res (by have := S.lt; show w.heap.size ≠ w2.heap.size; omega) u, Kd.R_set S.row S.box ty66 j u, below_set S.bel (Nat.le_refl _), S.lt⟩
theorem PS.all {w w2 wr : World} {cs : Array Value} {v : Value} {acts : List S66} (S : PS w w2 wr cs v acts) (hB : Below w.heap.size w w2) : Below w.heap.size w wr := hB.trans (S.bel.mono hB.size)
theorem PS.app {w w2 wr w4 : World} {cs : Array Value} {v v4 : Value} {acts as2 : List S66} (S : PS w w2 wr cs v acts) (ho : Kd.R k66 66 w4 w2.heap.size (fun _ => True) v4 as2) (hb : Below w2.heap.size w2 w4) (hg : wr.grownBy w4 v.ownBlock) : PS w w2 w4 cs v4 as2 :=
 ⟨blk_grown S.box hg (Kd.R_ne S.row S.box (by decide)), blk_grown S.res hg (Kd.R_ne S.row S.res (by decide)), ho, hb, S.lt⟩
theorem PS.put7 {w w2 wr : World} {g0 g1 g2 g3 g4 g5 : Int} {B : ByteArray} {v5 v : Value} {acts : List S66} (S : PS w w2 wr (cells62 g0 g1 g2 g3 g4 g5 B v5) v acts) : PS w w2 (wr.setCell ⟨w2.heap.size, 7, none⟩ v) (cells62 g0 g1 g2 g3 g4 g5 B v) v acts := S.put 7 v
def ParsePost (w : World) (o : (List Int × ByteArray × List S66) × Int × Int) (e : Ending) (w' : World) : Prop :=
 (∃ g0 g1 g2 g3 g4 g5 B v acts n er, e = .returned (.tuple #[.agg (cells62 g0 g1 g2 g3 g4 g5 B v), .int .i64 n, .int .i64 er]) ∧ Kd.R k66 66 w' w.heap.size (fun _ => True) v acts ∧ o = (([g0, g1, g2, g3, g4, g5], B, acts), n, er)) ∧ Below w.heap.size w w'
set_option maxHeartbeats 4000000 in
set_option maxRecDepth 100000 in
theorem parse_calls (s : ByteArray) (hs : s.size ≤ 16000000) (w : World) (o : (List Int × ByteArray × List S66) × Int × Int) (HO : Aside0 (parseP s = o)) : Calls Tryd.prog 33 #[.string s] w (ParsePost w o) := by
 have HL : Aside0 (∀ W, Calls Tryd.prog 19 #[.string s] W fun e w' => (∃ A c, e = .returned (.tuple #[.slice A (linesF s).1.length c, .int .i64 (linesF s).2.1, .int .i64 (linesF s).2.2]) ∧ Kd.C (Kd.slice 9 Kd.string) w' A (linesF s).1.length (linesF s).1) ∧ Below W.heap.size W w') := ⟨fun W => (lines_calls' s (by omega) W).mono (by
  rintro e w' ⟨⟨v, rfl, hv⟩, hB⟩
  obtain ⟨A, c, rfl, _, h⟩ := Kd.R_reads hv
  exact ⟨⟨A, c, rfl, h⟩, hB⟩)⟩
 have HOK := Aside0.mk (linesF_rows s hs)
 have hform : (linesF s).2.2 = 0 ∨ (linesF s).2.2 = 4 := by
  rcases linesF_form s with ⟨_, h⟩ | ⟨_, h⟩
  ·exact .inl (by rw [h])
  ·exact .inr h
 unfold parseP at HO
 obtain ⟨rows, hrows⟩ : ∃ rows, (linesF s).1 = rows := ⟨_, rfl⟩
 obtain ⟨ln, hln⟩ : ∃ ln, (linesF s).2.1 = ln := ⟨_, rfl⟩
 obtain ⟨le, hle⟩ : ∃ le, (linesF s).2.2 = le := ⟨_, rfl⟩
 rw [hrows, hln, hle] at HL HO
 rw [hrows] at HOK
 rw [hle] at hform
 clear hrows hln hle hs
 have HB := Aside0.mk (Below.alloc (Below.refl w.heap.size w) (Nat.le_refl _) (.cells #[.int .i64 0, .int .i64 0, .int .i64 0, .int .i64 0, .int .i64 0, .int .i64 0, .string ⟨#[]⟩, .slice none 0 0] 62))
 have K0 := Aside0.mk (blk_new w (.cells cs0 62))
 rcases hform with rfl | rfl
 case inr =>
  have HO2 : Aside0 (o = (scr0, ln, 4)) := ⟨HO.out.symm⟩
  clear HO HOK
  go_enter Tryd.func33, Tryd.ntmps33
  go_wp2_with (first
   | (go_at_call 19; refine (HL.out _).mono ?_; rintro e w2 ⟨⟨A, c, rfl, _⟩, hB⟩; have K2 := Aside0.mk (blk_below K0.out hB); have B2 := Aside0.mk (HB.out.trans (hB.mono HB.out.size)); clear hB)
   | ((with_reducible refine gate_st (t := 62) rfl rfl ?_); intro h1_ h2_; refine wpList_store_row h1_ 62 _ _ h2_ w.heap.size cs0 rfl rfl 62 cs0 K2.out sz62 rfl on62 ?_; rw [setRow_self _ _ cs0 _ _ K2.out]))
  refine bodyPost_ret (results_ctt rfl _ _ w.heap.size 62 cs0 (0, 0) _ rfl K2.out Tryd.underlying62 rfl sz62) rfl ?_
  exact ⟨⟨0, 0, 0, 0, 0, 0, ⟨#[]⟩, .slice none 0 0, [], ln, 4, rfl, Kd.R_nil _ _ _ _ _, HO2.out⟩, B2.out⟩
 case inl =>
 replace HO : Aside0 (rowsP rows = o) := ⟨HO.out⟩
 obtain ⟨N, hN⟩ : ∃ N, rows.length = N := ⟨_, rfl⟩
 rw [hN] at HL
 have HLN := Aside0.mk hN
 have hNb : N ≤ 16777216 := by rw [← hN]; exact HOK.out.len
 clear hN
 go_enter Tryd.func33, Tryd.ntmps33
 go_wp2_with (go_at_call 19; refine (HL.out _).mono ?_; rintro e w2 ⟨⟨A, c, rfl, hC⟩, hB⟩; have HR := Aside0.mk hC; have K2 := Aside0.mk (blk_below K0.out hB); have B2 := Aside0.mk (HB.out.trans (hB.mono HB.out.size)); clear hB hC)
 have S0 : Aside0 (PS w w2 (w2.alloc (.cells (cells62 0 0 0 0 0 0 ⟨#[]⟩ (.slice none 0 0)) 62)) (cells62 0 0 0 0 0 0 ⟨#[]⟩ (.slice none 0 0)) (.slice none 0 0) []) := ⟨⟨blk_new _ _, blk_alloc K2.out _, Kd.R_nil _ _ _ _ _, below_alloc (Below.refl _ _) _, blk_lt K2.out⟩⟩
 go_loopw [26] (fun i wr => ∃ t : Nat, t ≤ N ∧ i = .int .i64 (t : Int) ∧ Aside0 (∃ g0 g1 g2 g3 g4 g5 B v acts, PS w w2 wr (cells62 g0 g1 g2 g3 g4 g5 B v) v acts ∧ Got rows t [g0, g1, g2, g3, g4, g5] B acts)) (fun i _ => N - (intOf i).toNat)
 case atStart => exact ⟨0, by omega, rfl, ⟨_, _, _, _, _, _, _, _, _, S0.out, .zero⟩⟩
 case round =>
  clear S0 K2 HL HB K0
  obtain ⟨t, ht, rfl, S⟩ := hrel
  obtain ⟨g0, g1, g2, g3, g4, g5, B, v, acts, hS, hG⟩ := S.out
  clear S
  have S := Aside0.mk hS
  clear hS
  by_cases hlt : t < N
  ·have hb5 : (0 : Int) ≤ (t : Int) := by omega
   have hb6 : (t : Int) < (N : Int) := by omega
   obtain ⟨ad, cs, rfl, _, ⟨Ae, ce, rfl, hce, hCe⟩, hcell⟩ := Kd.C_get HR.out [] (t : Int) hb5 hb6
   rw [Int.toNat_natCast] at hce hCe hcell
   have htl : t < rows.length := by rw [HLN.out]; exact hlt
   obtain ⟨row, hrow⟩ : ∃ row, rows.getD t [] = row := ⟨_, rfl⟩
   rw [hrow] at hce hCe hcell
   have hre : rows[t] = row := by rw [← hrow]; simp [htl]
   have hmem : row ∈ rows := by rw [← hre]; exact List.getElem_mem htl
   have hne := HOK.out.ne row hmem
   have hrl := HOK.out.row row hmem
   have hwd := HOK.out.word row hmem
   obtain ⟨x, r, rfl⟩ : ∃ x r, row = x :: r := by
    cases row with
    | nil => exact absurd rfl hne
    | cons x r => exact ⟨x, r, rfl⟩
   have hc0 : wr.cell? (ad.add t) = some (.slice Ae (r.length + 1) ce) := pw_cell_below S.out.bel (by
    have h := hcell 0 _ rfl
    rw [show t * (Kd.slice 9 Kd.string).sz + 0 = t from Nat.mul_one t] at h
    exact h)
   replace hrl : r.length ≤ 16777216 := by simp at hrl; omega
   have HX := Aside0.mk (And.intro hce (And.intro hCe hwd))
   clear hcell hrow hmem hne hce hCe hwd
   generalize hgs : [g0, g1, g2, g3, g4, g5] = gs at hG
   cases hG with
   | zero =>
    simp only [List.cons.injEq, and_true] at hgs
    obtain ⟨rfl, rfl, rfl, rfl, rfl, rfl⟩ := hgs
    obtain ⟨ls, hls⟩ : ∃ ls, rows = (x :: r) :: ls := by
     match rows, htl, hre with
     | a :: l, _, h => exact ⟨l, by rw [show a = x :: r from h]⟩
    have HD : Aside0 (∀ W, Below wr.heap.size wr W → Calls Tryd.prog 63 #[.slice Ae (r.length + 1) ce] W (DevPost W x r)) := ⟨fun W hb => device_calls x r Ae ce W (Kd.C_below HX.out.2.1 (S.out.bel.trans (hb.mono S.out.bel.size))) HX.out.1 HX.out.2.2 hrl⟩
    have hc1 : wr.cell? ad = some (.slice Ae (r.length + 1) ce) := by
     have h := hc0
     rw [Addr.add_zero'] at h
     exact h
    have hu46 := Tryd.underlying46
    have HLS := Aside0.mk hls
    clear hc0 htl hre hrl hls
    obtain ⟨A5, c5, rfl⟩ := Kd.R_slice S.out.row
    cases hdv : devOk x r with
    | true =>
     have HD2 : Aside0 (∀ W, Below wr.heap.size wr W → Calls Tryd.prog 63 #[.slice Ae (r.length + 1) ce] W fun e w' => (∃ a b c d f g, r.map numOf = [a, b, c, d, f, g] ∧ e = .returned (.tuple #[.agg #[.int .i64 a, .int .i64 b, .int .i64 c, .int .i64 d, .int .i64 f, .int .i64 g], .bool true])) ∧ Below W.heap.size W w') := ⟨fun W hb => (HD.out W hb).mono (by
      rintro e w' ⟨⟨_, h⟩ | ⟨h, _⟩, hB⟩
      ·exact ⟨h, hB⟩
      ·rw [hdv] at h; cases h)⟩
     have HDV := Aside0.mk hdv
     clear HD hdv
     go_wp2_with ((go_at_call 63; refine (HD2.out _ (Below.refl _ _)).mono ?_; rintro e w4 ⟨⟨a0, a1, a2, a3, a4, a5, hm, rfl⟩, hB⟩; have HM := Aside0.mk hm; have S4 := Aside0.mk (S.out.below hB); have z0 : w4.cell? ⟨w2.heap.size, 0, none⟩ = some (.int .i64 0) := (blk_cell S4.out.box 0).trans rfl; have f0 := blk_frozen S4.out.box 0; have z1 : w4.cell? ⟨w2.heap.size, 1, none⟩ = some (.int .i64 0) := (blk_cell S4.out.box 1).trans rfl; have f1 := blk_frozen S4.out.box 1; have z2 : w4.cell? ⟨w2.heap.size, 2, none⟩ = some (.int .i64 0) := (blk_cell S4.out.box 2).trans rfl; have f2 := blk_frozen S4.out.box 2; have z3 : w4.cell? ⟨w2.heap.size, 3, none⟩ = some (.int .i64 0) := (blk_cell S4.out.box 3).trans rfl; have f3 := blk_frozen S4.out.box 3; have z4 : w4.cell? ⟨w2.heap.size, 4, none⟩ = some (.int .i64 0) := (blk_cell S4.out.box 4).trans rfl; have f4 := blk_frozen S4.out.box 4; have z5 : w4.cell? ⟨w2.heap.size, 5, none⟩ = some (.int .i64 0) := (blk_cell S4.out.box 5).trans rfl; have f5 := blk_frozen S4.out.box 5; have S5 : Aside0 (PS w w2 ((((((w4.setCell ⟨w2.heap.size, 0, none⟩ (.int .i64 a0)).setCell ⟨w2.heap.size, 1, none⟩ (.int .i64 a1)).setCell ⟨w2.heap.size, 2, none⟩ (.int .i64 a2)).setCell ⟨w2.heap.size, 3, none⟩ (.int .i64 a3)).setCell ⟨w2.heap.size, 4, none⟩ (.int .i64 a4)).setCell ⟨w2.heap.size, 5, none⟩ (.int .i64 a5)) (cells62 a0 a1 a2 a3 a4 a5 ⟨#[]⟩ (.slice A5 0 c5)) (.slice A5 0 c5) []) := ⟨((((((S4.out.put 0 (.int .i64 a0)).put 1 (.int .i64 a1)).put 2 (.int .i64 a2)).put 3 (.int .i64 a3)).put 4 (.int .i64 a4)).put 5 (.int .i64 a5))⟩; clear hB hm))
     refine ⟨⟨0 + 1, by omega, by go_num, ⟨⟨_, _, _, _, _, _, _, _, _, S5.out, by rw [← HM.out]; exact Got.one (x :: r) ls HLS.out HDV.out⟩⟩⟩, ?_⟩
     simp [intOf]; omega
    | false =>
     have HD2 : Aside0 (∀ W, Below wr.heap.size wr W → Calls Tryd.prog 63 #[.slice Ae (r.length + 1) ce] W fun e w' => e = .returned (.tuple #[.agg #[.int .i64 0, .int .i64 0, .int .i64 0, .int .i64 0, .int .i64 0, .int .i64 0], .bool false]) ∧ Below W.heap.size W w') := ⟨fun W hb => (HD.out W hb).mono (by
      rintro e w' ⟨⟨h, _⟩ | ⟨_, h⟩, hB⟩
      ·rw [hdv] at h; cases h
      ·exact ⟨h, hB⟩)⟩
     have HO2 : Aside0 (o = (scr0, 1, 4)) := ⟨by rw [← HO.out, HLS.out]; exact rowsP_dev _ _ hdv⟩
     clear HD hdv
     go_wp2_with (first
      | (go_at_call 63; refine (HD2.out _ (Below.refl _ _)).mono ?_; rintro e w4 ⟨rfl, hB⟩; have S4 := Aside0.mk (S.out.below hB); have z0 : w4.cell? ⟨w2.heap.size, 0, none⟩ = some (.int .i64 0) := (blk_cell S4.out.box 0).trans rfl; have f0 := blk_frozen S4.out.box 0; have z1 : w4.cell? ⟨w2.heap.size, 1, none⟩ = some (.int .i64 0) := (blk_cell S4.out.box 1).trans rfl; have f1 := blk_frozen S4.out.box 1; have z2 : w4.cell? ⟨w2.heap.size, 2, none⟩ = some (.int .i64 0) := (blk_cell S4.out.box 2).trans rfl; have f2 := blk_frozen S4.out.box 2; have z3 : w4.cell? ⟨w2.heap.size, 3, none⟩ = some (.int .i64 0) := (blk_cell S4.out.box 3).trans rfl; have f3 := blk_frozen S4.out.box 3; have z4 : w4.cell? ⟨w2.heap.size, 4, none⟩ = some (.int .i64 0) := (blk_cell S4.out.box 4).trans rfl; have f4 := blk_frozen S4.out.box 4; have z5 : w4.cell? ⟨w2.heap.size, 5, none⟩ = some (.int .i64 0) := (blk_cell S4.out.box 5).trans rfl; have f5 := blk_frozen S4.out.box 5; have S5 : Aside0 (PS w w2 ((((((w4.setCell ⟨w2.heap.size, 0, none⟩ (.int .i64 0)).setCell ⟨w2.heap.size, 1, none⟩ (.int .i64 0)).setCell ⟨w2.heap.size, 2, none⟩ (.int .i64 0)).setCell ⟨w2.heap.size, 3, none⟩ (.int .i64 0)).setCell ⟨w2.heap.size, 4, none⟩ (.int .i64 0)).setCell ⟨w2.heap.size, 5, none⟩ (.int .i64 0)) (cells62 0 0 0 0 0 0 ⟨#[]⟩ (.slice A5 0 c5)) (.slice A5 0 c5) []) := ⟨((((((S4.out.put 0 (.int .i64 0)).put 1 (.int .i64 0)).put 2 (.int .i64 0)).put 3 (.int .i64 0)).put 4 (.int .i64 0)).put 5 (.int .i64 0))⟩; clear hB)
      | ((with_reducible refine gate_st (t := 62) rfl rfl ?_); intro h1_ h2_; refine wpList_store_row h1_ 62 _ _ h2_ w.heap.size cs0 rfl rfl 62 cs0 S5.out.res sz62 rfl on62 ?_; rw [setRow_self _ _ cs0 _ _ S5.out.res]))
     refine bodyPost_ret (results_ctt rfl _ _ w.heap.size 62 cs0 (0, 0) _ rfl S5.out.res Tryd.underlying62 rfl sz62) rfl ?_
     exact ⟨⟨0, 0, 0, 0, 0, 0, ⟨#[]⟩, .slice none 0 0, [], 1, 4, by first | rfl | (simp; done) | (go_num; done), Kd.R_nil _ _ _ _ _, HO2.out⟩, S5.out.all B2.out⟩
   | one d ls hr h =>
    obtain ⟨ls2, hls⟩ : ∃ ls2, rows = d :: (x :: r) :: ls2 := by
     subst hr
     match ls, htl, hre with
     | a :: l, _, h2 => exact ⟨l, by rw [show a = x :: r from h2]⟩
     | [], h2, _ => exact absurd h2 (by simp)
    obtain ⟨A1, hcut, hC1, _⟩ := cut84 Ae ce (x :: r) 1 (by simp) HX.out.1
    replace hcut : ∀ W : World, (Instr.slice 84 (.slice Ae (r.length + 1) ce) (some (.int .i64 1)) none none).run Tryd.prog W = .ok (.slice A1 r.length (ce - 1)) W := hcut
    have HBy : Aside0 (∀ W, Below wr.heap.size wr W → Calls Tryd.prog 64 #[.slice A1 r.length (ce - 1)] W fun e w' => e = .returned (.tuple #[.string (bytesF r).1, .bool (bytesF r).2]) ∧ Below W.heap.size W w') := ⟨fun W hb => bytes_calls r A1 (ce - 1) W (hC1 W (Kd.C_below HX.out.2.1 (S.out.bel.trans (hb.mono S.out.bel.size)))) (fun y hy => HX.out.2.2 y (List.mem_cons_of_mem _ hy))⟩
    obtain ⟨ad0, hA0, hx0⟩ := Kd.at_string HX.out.2.1 0 (by omega) (by simp)
    subst hA0
    have HX0 := Aside0.mk (show w2.cell? ad0 = some (.string x) by
     rw [show (0 : Int).toNat = 0 from rfl, Addr.add_zero'] at hx0
     exact hx0)
    have hq1 : (1 : Int) ≤ ((r.length + 1 : Nat) : Int) := by omega
    have hc1 : wr.cell? ⟨ad.block, ad.off + 1, none⟩ = some (.slice (some ad0) (r.length + 1) ce) := hc0
    have HLS := Aside0.mk (And.intro hls (And.intro hgs h))
    have hpk : okPar (x :: r) = ((bytesF r).2 && (x.toList == parW.toList)) := rfl
    obtain ⟨d0, hd0⟩ : ∃ d0, (bytesF r).1 = d0 := ⟨_, rfl⟩
    obtain ⟨b0, hb0⟩ : ∃ b0, (bytesF r).2 = b0 := ⟨_, rfl⟩
    obtain ⟨dv, hdv⟩ : ∃ dv, (x.toList == parW.toList) = dv := ⟨_, rfl⟩
    rw [hdv, hb0] at hpk
    rw [hd0, hb0] at HBy
    rw [parW_list] at hdv
    have HD0 := Aside0.mk hd0
    have HPK := Aside0.mk hpk
    clear hc0 htl hre hrl hls hx0 hC1 hd0 hb0 hpk hgs hr
    obtain ⟨A5, c5, rfl⟩ := Kd.R_slice S.out.row
    cases b0 with
    | false =>
     have HO2 : Aside0 (o = (scr0, 2, 4)) := ⟨by rw [← HO.out, HLS.out.1]; exact rowsP_par _ _ _ h HPK.out⟩
     clear h
     go_wp2_with (first
      | (go_at_call 64; refine (HBy.out _ (Below.refl _ _)).mono ?_; rintro e w4 ⟨rfl, hB⟩; have S4 := Aside0.mk (S.out.below hB); have z6 : w4.cell? ⟨w2.heap.size, 6, none⟩ = some (.string ⟨#[]⟩) := (blk_cell S4.out.box 6).trans rfl; have f6 := blk_frozen S4.out.box 6; have S5 : Aside0 (PS w w2 (w4.setCell ⟨w2.heap.size, 6, none⟩ (.string d0)) (cells62 g0 g1 g2 g3 g4 g5 d0 (.slice A5 0 c5)) (.slice A5 0 c5) []) := ⟨S4.out.put 6 (.string d0)⟩; have hx5 := pw_cell_below S5.out.bel HX0.out; clear hB)
      | ((with_reducible refine gate_st (t := 62) rfl rfl ?_); intro h1_ h2_; refine wpList_store_row h1_ 62 _ _ h2_ w.heap.size cs0 rfl rfl 62 cs0 S5.out.res sz62 rfl on62 ?_; rw [setRow_self _ _ cs0 _ _ S5.out.res]))
     refine bodyPost_ret (results_ctt rfl _ _ w.heap.size 62 cs0 (0, 0) _ rfl S5.out.res Tryd.underlying62 rfl sz62) rfl ?_
     exact ⟨⟨0, 0, 0, 0, 0, 0, ⟨#[]⟩, .slice none 0 0, [], 2, 4, by first | rfl | (simp; done) | (go_num; done), Kd.R_nil _ _ _ _ _, HO2.out⟩, S5.out.all B2.out⟩
    | true =>
     cases dv with
     | false =>
      have HO2 : Aside0 (o = (scr0, 2, 4)) := ⟨by rw [← HO.out, HLS.out.1]; exact rowsP_par _ _ _ h HPK.out⟩
      clear h
      go_wp2_with (first
       | (go_at_call 64; refine (HBy.out _ (Below.refl _ _)).mono ?_; rintro e w4 ⟨rfl, hB⟩; have S4 := Aside0.mk (S.out.below hB); have z6 : w4.cell? ⟨w2.heap.size, 6, none⟩ = some (.string ⟨#[]⟩) := (blk_cell S4.out.box 6).trans rfl; have f6 := blk_frozen S4.out.box 6; have S5 : Aside0 (PS w w2 (w4.setCell ⟨w2.heap.size, 6, none⟩ (.string d0)) (cells62 g0 g1 g2 g3 g4 g5 d0 (.slice A5 0 c5)) (.slice A5 0 c5) []) := ⟨S4.out.put 6 (.string d0)⟩; have hx5 := pw_cell_below S5.out.bel HX0.out; clear hB)
       | ((with_reducible refine gate_st (t := 62) rfl rfl ?_); intro h1_ h2_; refine wpList_store_row h1_ 62 _ _ h2_ w.heap.size cs0 rfl rfl 62 cs0 S5.out.res sz62 rfl on62 ?_; rw [setRow_self _ _ cs0 _ _ S5.out.res]))
      refine bodyPost_ret (results_ctt rfl _ _ w.heap.size 62 cs0 (0, 0) _ rfl S5.out.res Tryd.underlying62 rfl sz62) rfl ?_
      exact ⟨⟨0, 0, 0, 0, 0, 0, ⟨#[]⟩, .slice none 0 0, [], 2, 4, by first | rfl | (simp; done) | (go_num; done), Kd.R_nil _ _ _ _ _, HO2.out⟩, S5.out.all B2.out⟩
     | true =>
      clear h
      go_wp2_with ((go_at_call 64; refine (HBy.out _ (Below.refl _ _)).mono ?_; rintro e w4 ⟨rfl, hB⟩; have S4 := Aside0.mk (S.out.below hB); have z6 : w4.cell? ⟨w2.heap.size, 6, none⟩ = some (.string ⟨#[]⟩) := (blk_cell S4.out.box 6).trans rfl; have f6 := blk_frozen S4.out.box 6; have S5 : Aside0 (PS w w2 (w4.setCell ⟨w2.heap.size, 6, none⟩ (.string d0)) (cells62 g0 g1 g2 g3 g4 g5 d0 (.slice A5 0 c5)) (.slice A5 0 c5) []) := ⟨S4.out.put 6 (.string d0)⟩; have hx5 := pw_cell_below S5.out.bel HX0.out; clear hB))
      refine ⟨⟨1 + 1, by omega, by go_num, ⟨⟨_, _, _, _, _, _, _, _, _, S5.out, by rw [HLS.out.2.1, ← HD0.out]; exact Got.more d (x :: r) [] ls2 2 rfl HLS.out.1 HLS.out.2.2 HPK.out rfl⟩⟩⟩, ?_⟩
      simp [intOf]; omega
   | more d p done rest t ht2 hr hd hp ha =>
    obtain ⟨rest2, hls⟩ : ∃ rest2, rest = (x :: r) :: rest2 := by
     cases rest with
     | nil =>
      exfalso
      rw [hr, List.append_nil, List.length_cons, List.length_cons] at htl
      omega
     | cons a l =>
      refine ⟨l, ?_⟩
      have h3 : rows[t]? = some (x :: r) := by rw [List.getElem?_eq_getElem htl, hre]
      rw [hr, ht2, List.getElem?_cons_succ, List.getElem?_cons_succ, List.getElem?_append_right (Nat.le_refl _), Nat.sub_self] at h3
      rw [show a = x :: r from Option.some.inj h3]
    obtain ⟨acts, hacts⟩ : ∃ acts, done.map actD = acts := ⟨_, rfl⟩
    have HAL : Aside0 (acts.length ≤ 16777216) := ⟨by
     rw [← hacts, List.length_map]
     have h3 := HOK.out.len
     rw [hr, List.length_cons, List.length_cons, List.length_append] at h3
     omega⟩
    rw [hacts] at S
    have hn0 : ((t : Int) == 0) = false := beq_eq_false_iff_ne.2 (by omega)
    have hn1 : ((t : Int) == 1) = false := beq_eq_false_iff_ne.2 (by omega)
    obtain ⟨B, hB⟩ : ∃ B, (bytesF p.tail).1 = B := ⟨_, rfl⟩
    rw [hB] at S
    have HG := Aside0.mk (And.intro ht2 (And.intro hr (And.intro hd (And.intro hp (And.intro ha (And.intro hls (And.intro hgs (And.intro hB hacts))))))))
    have hokA : okAct (x :: r) = (actP x r).isSome := rfl
    have HA : Aside0 (∀ W, Below wr.heap.size wr W → Calls Tryd.prog 65 #[.slice Ae (r.length + 1) ce] W (ActPost W (actP x r))) := ⟨fun W hb => act_calls x r Ae ce W (Kd.C_below HX.out.2.1 (S.out.bel.trans (hb.mono S.out.bel.size))) HX.out.1 HX.out.2.2 hrl⟩
    obtain ⟨A5, c5, rfl⟩ := Kd.R_slice S.out.row
    obtain ⟨_, how⟩ := Kd.R_own S.out.row
    have HOW := Aside0.mk how
    clear how htl hre hrl hls hr hd hp ha hgs hB ht2 hacts
    cases hap : actP x r with
    | none =>
     have HA2 : Aside0 (∀ W, Below wr.heap.size wr W → Calls Tryd.prog 65 #[.slice Ae (r.length + 1) ce] W fun e w' => (∃ k n d9 f vs cut mount m ms A6 c6 A7 c7, e = .returned (.tuple #[.agg #[.int .i64 k, .int .i64 n, .string d9, .int .i64 f, .slice A6 vs.length c6, .bool cut, .bool mount, .int .i64 m, .slice A7 ms.length c7], .bool false]) ∧ Kd.R k107 107 w' W.heap.size (fun _ => True) (.slice A6 vs.length c6) vs ∧ Kd.R (Kd.int .u32) 116 w' W.heap.size (fun _ => True) (.slice A7 ms.length c7) ms) ∧ Below W.heap.size W w') := ⟨fun W hb => (HA.out W hb).mono (by
      rintro e w' ⟨⟨⟨⟨k, n, d9, f, vs⟩, cut, mount, m, ms⟩, v4, v8, b, rfl, ⟨h6, h7⟩, h1, _⟩, hB⟩
      obtain ⟨A6, c6, rfl⟩ := Kd.R_slice h6
      obtain ⟨A7, c7, rfl⟩ := Kd.R_slice h7
      cases b with
      | true => rw [hap] at h1; cases h1 rfl
      | false => exact ⟨⟨k, n, d9, f, vs, cut, mount, m, ms, A6, c6, A7, c7, rfl, h6, h7⟩, hB⟩)⟩
     have HO2 : Aside0 (o = (scr0, (t : Int) + 1, 4)) := ⟨by
      rw [← HO.out, HG.out.2.1, HG.out.2.2.2.2.2.1, rowsP_more _ _ _ HG.out.2.2.1 HG.out.2.2.2.1, badFrom_at _ _ _ _ HG.out.2.2.2.2.1 (by rw [hokA, hap]; rfl)]
      have := HG.out.1
      show (scr0, (((2 + done.length : Nat) : Int) + 1), (4 : Int)) = _
      rw [show ((2 + done.length : Nat) : Int) = (t : Int) by omega]⟩
     clear HA hap hokA
     go_wp2_with (first
      | (go_at_call 65; refine (HA2.out _ (below_alloc (Below.refl _ _) _)).mono ?_; rintro e w4 ⟨⟨k, n, d9, f, vs, cut, mount, m, ms, A6, c6, A7, c7, rfl, h6, h7⟩, hB⟩; have K12 := Aside0.mk (blk_below (blk_new wr (.cells zero66 66)) hB); have Bw := Aside0.mk (below_step (below_alloc (Below.refl _ wr) (.cells zero66 66)) hB); have S5 := Aside0.mk (S.out.below (below_setRow Bw.out (Nat.le_refl _) (#[.int .i64 k, .int .i64 n, .string d9, .int .i64 f, .slice A6 vs.length c6, .bool cut, .bool mount, .int .i64 m, .slice A7 ms.length c7] : Array Value))); have z7 : (w4.setRow wr.heap.size (#[.int .i64 k, .int .i64 n, .string d9, .int .i64 f, .slice A6 vs.length c6, .bool cut, .bool mount, .int .i64 m, .slice A7 ms.length c7] : Array Value)).cell? ⟨w2.heap.size, 7, none⟩ = some (.slice A5 acts.length c5) := (blk_cell S5.out.box 7).trans rfl; have K13 := Aside0.mk (setRow_heap w4 wr.heap.size zero66 (#[.int .i64 k, .int .i64 n, .string d9, .int .i64 f, .slice A6 vs.length c6, .bool cut, .bool mount, .int .i64 m, .slice A7 ms.length c7] : Array Value) 66 (0, 0) K12.out); have HM : Aside0 (k66.M (w4.setRow wr.heap.size (#[.int .i64 k, .int .i64 n, .string d9, .int .i64 f, .slice A6 vs.length c6, .bool cut, .bool mount, .int .i64 m, .slice A7 ms.length c7] : Array Value)) w2.heap.size (fun q => True ∧ some q ≠ (Value.slice A5 acts.length c5).ownBlock) ⟨⟨k, n, d9, ⟨f, vs⟩⟩, cut, mount, m, ms⟩ [.int .i64 k, .int .i64 n, .string d9, .int .i64 f, .slice A6 vs.length c6, .bool cut, .bool mount, .int .i64 m, .slice A7 ms.length c7]) := ⟨k66.M_lower S.out.bel.size (M_setRow (k66.M_lower (by rw [World.size_alloc]; exact Nat.le_succ _) (Kd.M_new (W := wr.alloc (.cells zero66 66)) (k66_mkM w4 _ _ ⟨⟨k, n, d9, ⟨f, vs⟩⟩, cut, mount, m, ms⟩ h6 h7) (own_alloc HOW.out _))) K12.out ty66E _)⟩; clear hB h6 h7)
      | ((with_reducible refine gate_st (t := 66) rfl rfl ?_); intro h1_ h2_; refine wpList_store_row h1_ 66 _ _ h2_ wr.heap.size (#[.int .i64 k, .int .i64 n, .string d9, .int .i64 f, .slice A6 vs.length c6, .bool cut, .bool mount, .int .i64 m, .slice A7 ms.length c7] : Array Value) rfl rfl 66 zero66 K12.out size66 rfl (one66 k n d9 f (.slice A6 vs.length c6) cut mount m (.slice A7 ms.length c7) rfl rfl) ?_)
      | ((with_reducible refine gate_ld (t := 66) rfl rfl ?_); intro h1_ h2_; refine wpList_load_row h1_ 66 _ h2_ wr.heap.size rfl 66 (#[.int .i64 k, .int .i64 n, .string d9, .int .i64 f, .slice A6 vs.length c6, .bool cut, .bool mount, .int .i64 m, .slice A7 ms.length c7] : Array Value) (0, 0) _ K13.out Tryd.underlying66 rfl size66 ?_)
      | ((with_reducible refine gate_builtin (b := .append) (xs := #[.tmp 38, .tmp 40]) rfl ?_); at_builtin; refine Kd.R_append k66 (w0 := w2) w2.heap.size rfl (.tmp 38) (.tmp 40) 60 66 (.agg #[.int .i64 0, .int .i64 0, .string ⟨#[]⟩, .int .i64 0, .slice none 0 0, .bool false, .bool false, .int .i64 0, .slice none 0 0]) 104 rfl Tryd.underlying60 info66 rfl (by decide) (by decide) (.slice A5 acts.length c5) acts ⟨⟨k, n, d9, ⟨f, vs⟩⟩, cut, mount, m, ms⟩ [.int .i64 k, .int .i64 n, .string d9, .int .i64 f, .slice A6 vs.length c6, .bool cut, .bool mount, .int .i64 m, .slice A7 ms.length c7] (fun _ => True) (fun q => True ∧ some q ≠ (Value.slice A5 acts.length c5).ownBlock) rfl (by rw [setRow_size]; rfl) HM.out (fun _ h => h) (fun _ _ => trivial) S5.out.row S5.out.bel S5.out.bel.size (by have := HAL.out; omega) ?_; intro v6 w6 ho hb hg hat; obtain ⟨A8, c8, rfl⟩ := Kd.R_slice ho; have S6 := Aside0.mk (S5.out.app ho hb hg); have y7 : w6.cell? ⟨w2.heap.size, 7, none⟩ = some (.slice A5 acts.length c5) := (blk_cell S6.out.box 7).trans rfl; have f7 := blk_frozen S6.out.box 7; have S7_ := S6.out.put7; rw [List.length_append, List.length_singleton] at S7_; have S7 := Aside0.mk S7_; clear S7_; clear ho hb hg hat)
      | ((with_reducible refine gate_st (t := 62) rfl rfl ?_); intro h1_ h2_; refine wpList_store_row h1_ 62 _ _ h2_ w.heap.size cs0 rfl rfl 62 cs0 S7.out.res sz62 rfl on62 ?_; rw [setRow_self _ _ cs0 _ _ S7.out.res]))
     refine bodyPost_ret (results_ctt rfl _ _ w.heap.size 62 cs0 (0, 0) _ rfl S7.out.res Tryd.underlying62 rfl sz62) rfl ?_
     exact ⟨⟨0, 0, 0, 0, 0, 0, ⟨#[]⟩, .slice none 0 0, [], (t : Int) + 1, 4, by first | rfl | (simp; done) | (go_num; done), Kd.R_nil _ _ _ _ _, HO2.out⟩, S7.out.all B2.out⟩
    | some a =>
     have HA2 : Aside0 (∀ W, Below wr.heap.size wr W → Calls Tryd.prog 65 #[.slice Ae (r.length + 1) ce] W fun e w' => (∃ k n d9 f vs cut mount m ms A6 c6 A7 c7, e = .returned (.tuple #[.agg #[.int .i64 k, .int .i64 n, .string d9, .int .i64 f, .slice A6 vs.length c6, .bool cut, .bool mount, .int .i64 m, .slice A7 ms.length c7], .bool true]) ∧ Kd.R k107 107 w' W.heap.size (fun _ => True) (.slice A6 vs.length c6) vs ∧ Kd.R (Kd.int .u32) 116 w' W.heap.size (fun _ => True) (.slice A7 ms.length c7) ms ∧ a = ⟨⟨k, n, d9, ⟨f, vs⟩⟩, cut, mount, m, ms⟩) ∧ Below W.heap.size W w') := ⟨fun W hb => (HA.out W hb).mono (by
      rintro e w' ⟨⟨⟨⟨k, n, d9, f, vs⟩, cut, mount, m, ms⟩, v4, v8, b, rfl, ⟨h6, h7⟩, h1, h0⟩, hB⟩
      obtain ⟨A6, c6, rfl⟩ := Kd.R_slice h6
      obtain ⟨A7, c7, rfl⟩ := Kd.R_slice h7
      cases b with
      | false => rw [hap] at h0; cases h0 rfl
      | true => exact ⟨⟨k, n, d9, f, vs, cut, mount, m, ms, A6, c6, A7, c7, rfl, h6, h7, by have h3 := h1 rfl; rw [hap] at h3; exact Option.some.inj h3⟩, hB⟩)⟩
     have HAP : Aside0 (okAct (x :: r) = true ∧ actD (x :: r) = a) := ⟨by rw [hokA, hap]; rfl, by show (actP x r).getD z66 = a; rw [hap]; rfl⟩
     clear HA hap hokA
     go_wp2_with (first
      | (go_at_call 65; refine (HA2.out _ (below_alloc (Below.refl _ _) _)).mono ?_; rintro e w4 ⟨⟨k, n, d9, f, vs, cut, mount, m, ms, A6, c6, A7, c7, rfl, h6, h7, hea⟩, hB⟩; have K12 := Aside0.mk (blk_below (blk_new wr (.cells zero66 66)) hB); have Bw := Aside0.mk (below_step (below_alloc (Below.refl _ wr) (.cells zero66 66)) hB); have S5 := Aside0.mk (S.out.below (below_setRow Bw.out (Nat.le_refl _) (#[.int .i64 k, .int .i64 n, .string d9, .int .i64 f, .slice A6 vs.length c6, .bool cut, .bool mount, .int .i64 m, .slice A7 ms.length c7] : Array Value))); have z7 : (w4.setRow wr.heap.size (#[.int .i64 k, .int .i64 n, .string d9, .int .i64 f, .slice A6 vs.length c6, .bool cut, .bool mount, .int .i64 m, .slice A7 ms.length c7] : Array Value)).cell? ⟨w2.heap.size, 7, none⟩ = some (.slice A5 acts.length c5) := (blk_cell S5.out.box 7).trans rfl; have K13 := Aside0.mk (setRow_heap w4 wr.heap.size zero66 (#[.int .i64 k, .int .i64 n, .string d9, .int .i64 f, .slice A6 vs.length c6, .bool cut, .bool mount, .int .i64 m, .slice A7 ms.length c7] : Array Value) 66 (0, 0) K12.out); have HM : Aside0 (k66.M (w4.setRow wr.heap.size (#[.int .i64 k, .int .i64 n, .string d9, .int .i64 f, .slice A6 vs.length c6, .bool cut, .bool mount, .int .i64 m, .slice A7 ms.length c7] : Array Value)) w2.heap.size (fun q => True ∧ some q ≠ (Value.slice A5 acts.length c5).ownBlock) ⟨⟨k, n, d9, ⟨f, vs⟩⟩, cut, mount, m, ms⟩ [.int .i64 k, .int .i64 n, .string d9, .int .i64 f, .slice A6 vs.length c6, .bool cut, .bool mount, .int .i64 m, .slice A7 ms.length c7]) := ⟨k66.M_lower S.out.bel.size (M_setRow (k66.M_lower (by rw [World.size_alloc]; exact Nat.le_succ _) (Kd.M_new (W := wr.alloc (.cells zero66 66)) (k66_mkM w4 _ _ ⟨⟨k, n, d9, ⟨f, vs⟩⟩, cut, mount, m, ms⟩ h6 h7) (own_alloc HOW.out _))) K12.out ty66E _)⟩; have HEA := Aside0.mk hea; clear hB h6 h7 hea)
      | ((with_reducible refine gate_st (t := 66) rfl rfl ?_); intro h1_ h2_; refine wpList_store_row h1_ 66 _ _ h2_ wr.heap.size (#[.int .i64 k, .int .i64 n, .string d9, .int .i64 f, .slice A6 vs.length c6, .bool cut, .bool mount, .int .i64 m, .slice A7 ms.length c7] : Array Value) rfl rfl 66 zero66 K12.out size66 rfl (one66 k n d9 f (.slice A6 vs.length c6) cut mount m (.slice A7 ms.length c7) rfl rfl) ?_)
      | ((with_reducible refine gate_ld (t := 66) rfl rfl ?_); intro h1_ h2_; refine wpList_load_row h1_ 66 _ h2_ wr.heap.size rfl 66 (#[.int .i64 k, .int .i64 n, .string d9, .int .i64 f, .slice A6 vs.length c6, .bool cut, .bool mount, .int .i64 m, .slice A7 ms.length c7] : Array Value) (0, 0) _ K13.out Tryd.underlying66 rfl size66 ?_)
      | ((with_reducible refine gate_builtin (b := .append) (xs := #[.tmp 38, .tmp 40]) rfl ?_); at_builtin; refine Kd.R_append k66 (w0 := w2) w2.heap.size rfl (.tmp 38) (.tmp 40) 60 66 (.agg #[.int .i64 0, .int .i64 0, .string ⟨#[]⟩, .int .i64 0, .slice none 0 0, .bool false, .bool false, .int .i64 0, .slice none 0 0]) 104 rfl Tryd.underlying60 info66 rfl (by decide) (by decide) (.slice A5 acts.length c5) acts ⟨⟨k, n, d9, ⟨f, vs⟩⟩, cut, mount, m, ms⟩ [.int .i64 k, .int .i64 n, .string d9, .int .i64 f, .slice A6 vs.length c6, .bool cut, .bool mount, .int .i64 m, .slice A7 ms.length c7] (fun _ => True) (fun q => True ∧ some q ≠ (Value.slice A5 acts.length c5).ownBlock) rfl (by rw [setRow_size]; rfl) HM.out (fun _ h => h) (fun _ _ => trivial) S5.out.row S5.out.bel S5.out.bel.size (by have := HAL.out; omega) ?_; intro v6 w6 ho hb hg hat; obtain ⟨A8, c8, rfl⟩ := Kd.R_slice ho; have S6 := Aside0.mk (S5.out.app ho hb hg); have y7 : w6.cell? ⟨w2.heap.size, 7, none⟩ = some (.slice A5 acts.length c5) := (blk_cell S6.out.box 7).trans rfl; have f7 := blk_frozen S6.out.box 7; have S7_ := S6.out.put7; rw [List.length_append, List.length_singleton] at S7_; have S7 := Aside0.mk S7_; clear S7_; clear ho hb hg hat))
     refine ⟨⟨t + 1, by omega, by go_num, ⟨_, _, _, _, _, _, _, _, _, S7.out, ?got9⟩⟩, ?_⟩
     case got9 =>
      obtain ⟨q1, q2, q3, q4, q5, q6, q7, q8, q9⟩ := HG.out
      rw [q7, ← q8, ← q9, ← HEA.out, ← HAP.out.2]
      have h3 := Got.more (rows := rows) d p (done ++ [x :: r]) rest2 (t + 1) (by rw [List.length_append, List.length_singleton]; omega) (by rw [q2, q6, List.append_assoc]; rfl) q3 q4 (by rw [List.all_append, q5, Bool.true_and, List.all_cons, HAP.out.1]; rfl)
      rw [List.map_append] at h3
      exact h3
     simp [intOf]; omega
  ·obtain rfl : t = N := by omega
   clear ht hlt
   generalize hgs : [g0, g1, g2, g3, g4, g5] = gs at hG
   cases hG with
   | zero =>
    have hr0 : rows = [] := List.eq_nil_of_length_eq_zero HLN.out
    have HO2 : Aside0 (o = (scr0, 1, 4)) := ⟨by rw [← HO.out, hr0]; rfl⟩
    clear hr0 hgs
    go_wp2_with ((with_reducible refine gate_st (t := 62) rfl rfl ?_); intro h1_ h2_; refine wpList_store_row h1_ 62 _ _ h2_ w.heap.size cs0 rfl rfl 62 cs0 S.out.res sz62 rfl on62 ?_; rw [setRow_self _ _ cs0 _ _ S.out.res])
    refine bodyPost_ret (results_ctt rfl _ _ w.heap.size 62 cs0 (0, 0) _ rfl S.out.res Tryd.underlying62 rfl sz62) rfl ?_
    exact ⟨⟨0, 0, 0, 0, 0, 0, ⟨#[]⟩, .slice none 0 0, [], 1, 4, by first | rfl | (simp; done) | (go_num; done), Kd.R_nil _ _ _ _ _, HO2.out⟩, S.out.all B2.out⟩
   | one d ls hr h =>
    have hl0 : ls = [] := List.eq_nil_of_length_eq_zero (by have h2 := HLN.out; rw [hr, List.length_cons] at h2; omega)
    have HO2 : Aside0 (o = (scr0, 2, 4)) := ⟨by rw [← HO.out, hr, hl0, rowsP, if_pos h]⟩
    clear hr hl0 h hgs
    go_wp2_with ((with_reducible refine gate_st (t := 62) rfl rfl ?_); intro h1_ h2_; refine wpList_store_row h1_ 62 _ _ h2_ w.heap.size cs0 rfl rfl 62 cs0 S.out.res sz62 rfl on62 ?_; rw [setRow_self _ _ cs0 _ _ S.out.res])
    refine bodyPost_ret (results_ctt rfl _ _ w.heap.size 62 cs0 (0, 0) _ rfl S.out.res Tryd.underlying62 rfl sz62) rfl ?_
    exact ⟨⟨0, 0, 0, 0, 0, 0, ⟨#[]⟩, .slice none 0 0, [], 2, 4, by first | rfl | (simp; done) | (go_num; done), Kd.R_nil _ _ _ _ _, HO2.out⟩, S.out.all B2.out⟩
   | more d p done rest t ht2 hr hd hp ha =>
    have hl0 : rest = [] := List.eq_nil_of_length_eq_zero (by have h2 := HLN.out; rw [hr, List.length_cons, List.length_cons, List.length_append] at h2; omega)
    have HO2 : Aside0 (o = (([g0, g1, g2, g3, g4, g5], (bytesF p.tail).1, done.map actD), 0, 0)) := ⟨by rw [← HO.out, hr, hl0, List.append_nil, rowsP_more _ _ _ hd hp, badFrom_ok _ _ ha, hgs]⟩
    have hN2 : ¬ ((t : Int) < 2) := by omega
    have hN3 : decide ((t : Int) < 2) = false := decide_eq_false hN2
    have hN4 : decide (t < 2) = false := decide_eq_false (by omega)
    have hN5 : ¬ t < 2 := by omega
    obtain ⟨B, hB⟩ : ∃ B, (bytesF p.tail).1 = B := ⟨_, rfl⟩
    rw [hB] at S HO2
    clear hr hl0 hd hp ha hgs ht2 hB
    have HON := Aside0.mk (one62' g0 g1 g2 g3 g4 g5 B v (R_one S.out.row))
    go_wp2_with (first
     | ((with_reducible refine gate_ld (t := 62) rfl rfl ?_); intro h1_ h2_; refine wpList_load_row h1_ 62 _ h2_ w2.heap.size rfl 62 _ (0, 0) _ S.out.box Tryd.underlying62 rfl sz62 ?_)
     | ((with_reducible refine gate_st (t := 62) rfl rfl ?_); intro h1_ h2_; refine wpList_store_row h1_ 62 _ _ h2_ w.heap.size (cells62 g0 g1 g2 g3 g4 g5 B v) rfl rfl 62 cs0 S.out.res sz62 rfl HON.out ?_))
    refine bodyPost_ret (results_ctt rfl _ _ w.heap.size 62 _ (0, 0) _ rfl (setRow_heap wr w.heap.size cs0 (cells62 g0 g1 g2 g3 g4 g5 B v) 62 (0, 0) S.out.res) Tryd.underlying62 rfl sz62) rfl ?_
    exact ⟨⟨g0, g1, g2, g3, g4, g5, B, v, _, 0, 0, rfl, Kd.R_lower (R_setRow S.out.row S.out.res ty66 _) B2.out.size, HO2.out⟩, below_setRow (S.out.all B2.out) (Nat.le_refl _) _⟩
end Go.Proofs.YtiddiboclfpklaaDoor.Tz
