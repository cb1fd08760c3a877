/- Lemmas that the claim's theorem uses. -/
import Derived.Test.YtiddiboclfpklaaDoorRdV
import Derived.Test.YtiddiboclfpklaaDoorRdQ
import Derived.Test.YtiddiboclfpklaaDoorRdT
import Derived.Test.YtiddiboclfpklaaDoorRdU
namespace Go.Proofs.YtiddiboclfpklaaDoor.Tz
open Go.RowKit Go.Proofs.YtiddiboclfpklaaDoorW.PrintWords Go.Proofs.YtiddiboclfpklaaDoor.PScriptReads Go.Proofs.YtiddiboclfpklaaDoor.Tx
set_option linter.unusedVariables false
def headF (g0 g1 g2 g3 g4 g5 : Int) : List ByteArray := [⟨#[100, 101, 118, 105, 99, 101]⟩, decW g0, decW g1, decW g2, decW g3, decW g4, decW g5]
def parcelF (B : ByteArray) : List ByteArray := [⟨#[112, 97, 114, 99, 101, 108]⟩, hexF B]
def rowsOf (g0 g1 g2 g3 g4 g5 : Int) (B : ByteArray) (ls : List S66) : List (List ByteArray) := headF g0 g1 g2 g3 g4 g5 :: parcelF B :: ls.map lineA
def printF (g0 g1 g2 g3 g4 g5 : Int) (B : ByteArray) (ls : List S66) : ByteArray × Int :=
 if ls.all plainA then joinF (rowsOf g0 g1 g2 g3 g4 g5 B ls) else (⟨#[]⟩, 2)
structure HeadSt (w wr : World) (cs : Array Value) (v : Value) (L : List ByteArray) : Prop where
 own : wr.ownsRow w.heap.size 9 1 v L.length (encs Value.string L)
 box : wr.heap[w.heap.size]? = some (.cells cs 62 (0, 0))
 bel : Below w.heap.size w wr
theorem HeadSt.after {w wr w2 : World} {cs : Array Value} {v v2 : Value} {L ys : List ByteArray} (S : HeadSt w wr cs v L) (o : Obj) (ho : w2.ownsRow w.heap.size 9 1 v2 (L ++ ys).length (encs Value.string (L ++ ys))) (hb : Below w.heap.size w w2)
  (hg : (wr.alloc o).grownBy w2 v.ownBlock) : HeadSt w w2 cs v2 (L ++ ys) :=
 ⟨ho, blk_grown (blk_alloc S.box o) hg (own_ne S.own S.box (by decide)), hb⟩
theorem HeadSt.below {w wr w2 : World} {cs : Array Value} {v : Value} {L : List ByteArray} (S : HeadSt w wr cs v L) (hb : Below wr.heap.size wr w2) : HeadSt w w2 cs v L :=
 ⟨own_move S.own (fun k hk => hb.block k (own_lt S.own k hk)), blk_below S.box hb, S.bel.trans (hb.mono S.bel.size)⟩
theorem HeadSt.made {w wr : World} {cs : Array Value} {v : Value} {L : List ByteArray} (S : HeadSt w wr cs v L) : Kd.R Kd.string 9 wr w.heap.size (fun _ => True) v L :=
 Kd.R_of_own (enc := Value.string) (h1 := fun _ => rfl) S.own (fun _ _ => trivial)
theorem HeadSt.start (w : World) (cs : Array Value) (o : Obj) (x : ByteArray) : HeadSt w (((w.alloc (.cells cs 62)).alloc o).alloc (.cells #[.string x] 9)) cs (.slice (some ⟨w.heap.size + 1 + 1, 0, none⟩) 1 1) [x] := by
 have h := own_lit_of (enc := Value.string) ((w.alloc (.cells cs 62)).alloc o) w.heap.size 9 [x] (by rw [World.size_alloc, World.size_alloc]; omega) (by simp)
 rw [World.size_alloc, World.size_alloc] at h
 exact ⟨h, blk_alloc (blk_alloc (blk_new w _) _) _, below_alloc (below_alloc (below_alloc (Below.refl _ _) _) _) _⟩
theorem un108 : Tryd.prog.underlying 108 = some (.array 6 3) := by kernel_rfl
theorem size3 : (Tryd.prog.info? 3).map (·.size) = some 1 := by kernel_rfl
theorem ix108 (cs : List Int) (hl : cs.length = 6) (t : Nat) (ht : t < 6) (w : World) : (Instr.index 108 (.agg (nums .i64 cs).toArray) (.int .i64 (t : Int))).run Tryd.prog w = .ok (.int .i64 (cs.getD t 0)) w := by
 have hu := un108
 have hs := size3
 have h2 : (0 : Int) ≤ (t : Int) := by omega
 have h3 : (nums .i64 cs)[t]? = some (.int .i64 (cs.getD t 0)) := by simp [nums, hl, ht]
 cases hq : Tryd.prog.info? 3 with
 | none => simp [hq] at hs
 | some i =>
  have hi : i.size = 1 := by simpa [hq] using hs
  simp [Instr.index, run_underlying hu, go_sem, sizeOf, typeInfo, hq, hi, h2, h3]
  intro h
  omega
theorem rows_lit2 (W : World) (base : Nat) (s1 s2 : Value) (l1 l2 : List ByteArray) (h1 : Kd.R Kd.string 9 W base (fun _ => True) s1 l1) (h2 : Kd.R Kd.string 9 W base (fun _ => True) s2 l2) (hb : base ≤ W.heap.size) :
  Kd.R (Kd.slice 9 Kd.string) 84 (W.alloc (.cells #[s1, s2] 84)) base (fun _ => True) (.slice (some ⟨W.heap.size, 0, none⟩) 2 2) [l1, l2] := by
 have m : ∀ s l, Kd.R Kd.string 9 W base (fun _ => True) s l → (Kd.slice 9 Kd.string).M (W.alloc (.cells #[s1, s2] 84)) base (fun k => True ∧ some k ≠ (Value.slice (some ⟨W.heap.size, 0, none⟩) 2 2).ownBlock) l [s] := fun s l h =>
  ⟨s, rfl, Kd.R_mono (Kd.R_below (Kd.R_bound h) (below_alloc (Below.refl _ W) _)) (fun k hk => ⟨trivial, fun e => by
   have h3 : k = W.heap.size := by simpa [Value.ownBlock] using e
   have := hk.2.2.1
   omega⟩)⟩
 refine ⟨fun _ _ => trivial, [s1, s2], ?_, ⟨rfl, fun j p hj => ?_⟩⟩
 ·have := World.ownsRow_lit (base := base) (e := 84) (size := 1) W #[s1, s2] 2 hb (by unfold maxLen; omega) rfl
  exact this
 ·match j, hj with
  | 0, hj =>
   obtain rfl : l1 = p := by simpa using hj
   exact m s1 l1 h1
  | 1, hj =>
   obtain rfl : l2 = p := by simpa using hj
   exact m s2 l2 h2
structure PrSt (w wr : World) (v : Value) (rows : List (List ByteArray)) : Prop where
 row : Kd.R (Kd.slice 9 Kd.string) 84 wr w.heap.size (fun _ => True) v rows
 bel : Below w.heap.size w wr
theorem PrSt.below {w wr w2 : World} {v : Value} {rows : List (List ByteArray)} (S : PrSt w wr v rows) (hb : Below wr.heap.size wr w2) : PrSt w w2 v rows :=
 ⟨Kd.R_below S.row hb, S.bel.trans (hb.mono S.bel.size)⟩
theorem PrSt.mrow {w wr w2 : World} {v lv : Value} {rows : List (List ByteArray)} {lx : List ByteArray} (S : PrSt w wr v rows) (h : Kd.R Kd.string 9 w2 wr.heap.size (fun _ => True) lv lx) :
  (Kd.slice 9 Kd.string).M w2 w.heap.size (fun k => wr.heap.size ≤ k) lx [lv] :=
 ⟨lv, rfl, Kd.R_lower (Kd.R_mono (Kd.R_bound h) (fun k hk => hk.2.1)) S.bel.size⟩
theorem PrSt.okp {w wr : World} {v : Value} {rows : List (List ByteArray)} (S : PrSt w wr v rows) : ∀ k, wr.heap.size ≤ k → True ∧ some k ≠ v.ownBlock := by
 intro k hk
 refine ⟨trivial, fun e => ?_⟩
 have := ((Kd.R_bound S.row).1 k e.symm).2.2.1
 omega
set_option maxHeartbeats 8000000 in
set_option maxRecDepth 100000 in
theorem print_calls (g0 g1 g2 g3 g4 g5 : Int) (B : ByteArray) (ls : List S66) (A : Option Addr) (c : Nat) (w : World) (hr : Kd.C k66 w A ls.length ls) (hg : I64 g0 ∧ I64 g1 ∧ I64 g2 ∧ I64 g3 ∧ I64 g4 ∧ I64 g5) (hB : B.size ≤ 16777216) (hls : ∀ a ∈ ls, ActOk a) (hl : ls.length ≤ 16777216) (hsz : ∀ l ∈ rowsOf g0 g1 g2 g3 g4 g5 B ls, ∀ x ∈ l, x.size ≤ 16777216) (hT : (textB (rowsOf g0 g1 g2 g3 g4 g5 B ls)).length ≤ 16777216) :
  Calls Tryd.prog 26 #[.agg #[.int .i64 g0, .int .i64 g1, .int .i64 g2, .int .i64 g3, .int .i64 g4, .int .i64 g5, .string B, .slice A ls.length c]] w fun e w' => e = .returned (.tuple #[.string (printF g0 g1 g2 g3 g4 g5 B ls).1, .int .i64 (printF g0 g1 g2 g3 g4 g5 B ls).2]) ∧ Below w.heap.size w w' := by
 have HR := Aside0.mk hr
 have HOK := Aside0.mk hls
 have HSZ := Aside0.mk (And.intro hsz hT)
 clear hr hls hsz hT
 obtain ⟨n, hn⟩ : ∃ n, ls.length = n := ⟨_, rfl⟩
 rw [hn] at HR hl ⊢
 have HN := Aside0.mk hn
 clear hn
 obtain ⟨hg0, hg1, hg2, hg3, hg4, hg5⟩ := hg
 have HD0 : Aside0 (∀ W, Calls Tryd.prog 12 #[.int .i64 g0] W fun e w' => e = .returned (.string (decW g0)) ∧ Below W.heap.size W w') := ⟨fun W => dec_calls g0 hg0 W⟩
 have HD1 : Aside0 (∀ W, Calls Tryd.prog 12 #[.int .i64 g1] W fun e w' => e = .returned (.string (decW g1)) ∧ Below W.heap.size W w') := ⟨fun W => dec_calls g1 hg1 W⟩
 have HD2 : Aside0 (∀ W, Calls Tryd.prog 12 #[.int .i64 g2] W fun e w' => e = .returned (.string (decW g2)) ∧ Below W.heap.size W w') := ⟨fun W => dec_calls g2 hg2 W⟩
 have HD3 : Aside0 (∀ W, Calls Tryd.prog 12 #[.int .i64 g3] W fun e w' => e = .returned (.string (decW g3)) ∧ Below W.heap.size W w') := ⟨fun W => dec_calls g3 hg3 W⟩
 have HD4 : Aside0 (∀ W, Calls Tryd.prog 12 #[.int .i64 g4] W fun e w' => e = .returned (.string (decW g4)) ∧ Below W.heap.size W w') := ⟨fun W => dec_calls g4 hg4 W⟩
 have HD5 : Aside0 (∀ W, Calls Tryd.prog 12 #[.int .i64 g5] W fun e w' => e = .returned (.string (decW g5)) ∧ Below W.heap.size W w') := ⟨fun W => dec_calls g5 hg5 W⟩
 have HX : Aside0 (∀ W, Calls Tryd.prog 17 #[.string B] W fun e w' => e = .returned (.string (hexF B)) ∧ Below W.heap.size W w') := ⟨fun W => hex_calls B hB W⟩
 clear hg0 hg1 hg2 hg3 hg4 hg5 hB
 have I0 := Aside0.mk (HeadSt.start w #[.int .i64 g0, .int .i64 g1, .int .i64 g2, .int .i64 g3, .int .i64 g4, .int .i64 g5, .string B, .slice A n c] (.cells #[.int .i64 g0, .int .i64 g1, .int .i64 g2, .int .i64 g3, .int .i64 g4, .int .i64 g5] 46) ⟨#[100, 101, 118, 105, 99, 101]⟩)
 go_enter Tryd.func26, Tryd.ntmps26
 go_wp2_with fail
 go_loopw [5, 27] (fun v i wr => ∃ t : Nat, t ≤ 6 ∧ i = .int .i64 (t : Int) ∧ Aside0 (HeadSt w wr #[.int .i64 g0, .int .i64 g1, .int .i64 g2, .int .i64 g3, .int .i64 g4, .int .i64 g5, .string B, .slice A n c] v ((headF g0 g1 g2 g3 g4 g5).take (t + 1)))) (fun _ i _ => 6 - (intOf i).toNat)
 case atStart => exact ⟨0, by omega, rfl, I0⟩
 case round =>
  clear I0
  obtain ⟨t, ht, rfl, S⟩ := hrel
  obtain ⟨A3, c3, hv⟩ := own_slice S.out.own
  have htt : t = 0 ∨ t = 1 ∨ t = 2 ∨ t = 3 ∨ t = 4 ∨ t = 5 ∨ t = 6 := by omega
  rcases htt with rfl | rfl | rfl | rfl | rfl | rfl | rfl
  ·obtain rfl : _ = Value.slice A3 1 c3 := hv
   have hix : ∀ W, (Instr.index 108 (.agg #[.int .i64 g0, .int .i64 g1, .int .i64 g2, .int .i64 g3, .int .i64 g4, .int .i64 g5]) (.int .i64 0)).run Tryd.prog W = .ok (.int .i64 g0) W := fun W => ix108 [g0, g1, g2, g3, g4, g5] rfl 0 (by decide) W
   go_wp2_with (first
    | (go_at_call 12; refine (HD0.out _).mono ?_; rintro e w2 ⟨rfl, hB⟩; have S2 := Aside0.mk (S.out.below hB); clear hB)
    | ((with_reducible refine gate_builtin (b := .append) (xs := #[.tmp 30, .tmp 33]) rfl ?_); at_builtin; refine print_append_row_of (w0 := w) Value.string ByteArray.empty w.heap.size rfl (.tmp 30) (.tmp 33) 84 9 (.string ⟨#[]⟩) 16 rfl un84 info9 rfl (by decide) (fun _ => rfl) (.slice A3 1 c3) (List.take (0 + 1) (headF g0 g1 g2 g3 g4 g5)) [decW g0] (some ⟨w2.heap.size, 0, none⟩) 1 1 rfl rfl (own_alloc S2.out.own _) (lit_readsS w2 [decW g0] (by simp)) (below_alloc S2.out.bel _) (by have := S2.out.bel.size; rw [World.size_alloc]; omega) (by simp [headF]) ?_; intro v2 w3 ho hb hg hat; have S3 := Aside0.mk (S2.out.after _ ho hb hg); clear ho hb hg hat; obtain ⟨A5, c5, e5⟩ := own_slice S3.out.own; obtain rfl : v2 = Value.slice A5 2 c5 := e5))
   refine ⟨⟨0 + 1, by omega, by go_num, S3⟩, ?_⟩
   simp only [intOf]; omega
  ·obtain rfl : _ = Value.slice A3 2 c3 := hv
   have hix : ∀ W, (Instr.index 108 (.agg #[.int .i64 g0, .int .i64 g1, .int .i64 g2, .int .i64 g3, .int .i64 g4, .int .i64 g5]) (.int .i64 1)).run Tryd.prog W = .ok (.int .i64 g1) W := fun W => ix108 [g0, g1, g2, g3, g4, g5] rfl 1 (by decide) W
   go_wp2_with (first
    | (go_at_call 12; refine (HD1.out _).mono ?_; rintro e w2 ⟨rfl, hB⟩; have S2 := Aside0.mk (S.out.below hB); clear hB)
    | ((with_reducible refine gate_builtin (b := .append) (xs := #[.tmp 30, .tmp 33]) rfl ?_); at_builtin; refine print_append_row_of (w0 := w) Value.string ByteArray.empty w.heap.size rfl (.tmp 30) (.tmp 33) 84 9 (.string ⟨#[]⟩) 16 rfl un84 info9 rfl (by decide) (fun _ => rfl) (.slice A3 2 c3) (List.take (1 + 1) (headF g0 g1 g2 g3 g4 g5)) [decW g1] (some ⟨w2.heap.size, 0, none⟩) 1 1 rfl rfl (own_alloc S2.out.own _) (lit_readsS w2 [decW g1] (by simp)) (below_alloc S2.out.bel _) (by have := S2.out.bel.size; rw [World.size_alloc]; omega) (by simp [headF]) ?_; intro v2 w3 ho hb hg hat; have S3 := Aside0.mk (S2.out.after _ ho hb hg); clear ho hb hg hat; obtain ⟨A5, c5, e5⟩ := own_slice S3.out.own; obtain rfl : v2 = Value.slice A5 3 c5 := e5))
   refine ⟨⟨1 + 1, by omega, by go_num, S3⟩, ?_⟩
   simp only [intOf]; omega
  ·obtain rfl : _ = Value.slice A3 3 c3 := hv
   have hix : ∀ W, (Instr.index 108 (.agg #[.int .i64 g0, .int .i64 g1, .int .i64 g2, .int .i64 g3, .int .i64 g4, .int .i64 g5]) (.int .i64 2)).run Tryd.prog W = .ok (.int .i64 g2) W := fun W => ix108 [g0, g1, g2, g3, g4, g5] rfl 2 (by decide) W
   go_wp2_with (first
    | (go_at_call 12; refine (HD2.out _).mono ?_; rintro e w2 ⟨rfl, hB⟩; have S2 := Aside0.mk (S.out.below hB); clear hB)
    | ((with_reducible refine gate_builtin (b := .append) (xs := #[.tmp 30, .tmp 33]) rfl ?_); at_builtin; refine print_append_row_of (w0 := w) Value.string ByteArray.empty w.heap.size rfl (.tmp 30) (.tmp 33) 84 9 (.string ⟨#[]⟩) 16 rfl un84 info9 rfl (by decide) (fun _ => rfl) (.slice A3 3 c3) (List.take (2 + 1) (headF g0 g1 g2 g3 g4 g5)) [decW g2] (some ⟨w2.heap.size, 0, none⟩) 1 1 rfl rfl (own_alloc S2.out.own _) (lit_readsS w2 [decW g2] (by simp)) (below_alloc S2.out.bel _) (by have := S2.out.bel.size; rw [World.size_alloc]; omega) (by simp [headF]) ?_; intro v2 w3 ho hb hg hat; have S3 := Aside0.mk (S2.out.after _ ho hb hg); clear ho hb hg hat; obtain ⟨A5, c5, e5⟩ := own_slice S3.out.own; obtain rfl : v2 = Value.slice A5 4 c5 := e5))
   refine ⟨⟨2 + 1, by omega, by go_num, S3⟩, ?_⟩
   simp only [intOf]; omega
  ·obtain rfl : _ = Value.slice A3 4 c3 := hv
   have hix : ∀ W, (Instr.index 108 (.agg #[.int .i64 g0, .int .i64 g1, .int .i64 g2, .int .i64 g3, .int .i64 g4, .int .i64 g5]) (.int .i64 3)).run Tryd.prog W = .ok (.int .i64 g3) W := fun W => ix108 [g0, g1, g2, g3, g4, g5] rfl 3 (by decide) W
   go_wp2_with (first
    | (go_at_call 12; refine (HD3.out _).mono ?_; rintro e w2 ⟨rfl, hB⟩; have S2 := Aside0.mk (S.out.below hB); clear hB)
    | ((with_reducible refine gate_builtin (b := .append) (xs := #[.tmp 30, .tmp 33]) rfl ?_); at_builtin; refine print_append_row_of (w0 := w) Value.string ByteArray.empty w.heap.size rfl (.tmp 30) (.tmp 33) 84 9 (.string ⟨#[]⟩) 16 rfl un84 info9 rfl (by decide) (fun _ => rfl) (.slice A3 4 c3) (List.take (3 + 1) (headF g0 g1 g2 g3 g4 g5)) [decW g3] (some ⟨w2.heap.size, 0, none⟩) 1 1 rfl rfl (own_alloc S2.out.own _) (lit_readsS w2 [decW g3] (by simp)) (below_alloc S2.out.bel _) (by have := S2.out.bel.size; rw [World.size_alloc]; omega) (by simp [headF]) ?_; intro v2 w3 ho hb hg hat; have S3 := Aside0.mk (S2.out.after _ ho hb hg); clear ho hb hg hat; obtain ⟨A5, c5, e5⟩ := own_slice S3.out.own; obtain rfl : v2 = Value.slice A5 5 c5 := e5))
   refine ⟨⟨3 + 1, by omega, by go_num, S3⟩, ?_⟩
   simp only [intOf]; omega
  ·obtain rfl : _ = Value.slice A3 5 c3 := hv
   have hix : ∀ W, (Instr.index 108 (.agg #[.int .i64 g0, .int .i64 g1, .int .i64 g2, .int .i64 g3, .int .i64 g4, .int .i64 g5]) (.int .i64 4)).run Tryd.prog W = .ok (.int .i64 g4) W := fun W => ix108 [g0, g1, g2, g3, g4, g5] rfl 4 (by decide) W
   go_wp2_with (first
    | (go_at_call 12; refine (HD4.out _).mono ?_; rintro e w2 ⟨rfl, hB⟩; have S2 := Aside0.mk (S.out.below hB); clear hB)
    | ((with_reducible refine gate_builtin (b := .append) (xs := #[.tmp 30, .tmp 33]) rfl ?_); at_builtin; refine print_append_row_of (w0 := w) Value.string ByteArray.empty w.heap.size rfl (.tmp 30) (.tmp 33) 84 9 (.string ⟨#[]⟩) 16 rfl un84 info9 rfl (by decide) (fun _ => rfl) (.slice A3 5 c3) (List.take (4 + 1) (headF g0 g1 g2 g3 g4 g5)) [decW g4] (some ⟨w2.heap.size, 0, none⟩) 1 1 rfl rfl (own_alloc S2.out.own _) (lit_readsS w2 [decW g4] (by simp)) (below_alloc S2.out.bel _) (by have := S2.out.bel.size; rw [World.size_alloc]; omega) (by simp [headF]) ?_; intro v2 w3 ho hb hg hat; have S3 := Aside0.mk (S2.out.after _ ho hb hg); clear ho hb hg hat; obtain ⟨A5, c5, e5⟩ := own_slice S3.out.own; obtain rfl : v2 = Value.slice A5 6 c5 := e5))
   refine ⟨⟨4 + 1, by omega, by go_num, S3⟩, ?_⟩
   simp only [intOf]; omega
  ·obtain rfl : _ = Value.slice A3 6 c3 := hv
   have hix : ∀ W, (Instr.index 108 (.agg #[.int .i64 g0, .int .i64 g1, .int .i64 g2, .int .i64 g3, .int .i64 g4, .int .i64 g5]) (.int .i64 5)).run Tryd.prog W = .ok (.int .i64 g5) W := fun W => ix108 [g0, g1, g2, g3, g4, g5] rfl 5 (by decide) W
   go_wp2_with (first
    | (go_at_call 12; refine (HD5.out _).mono ?_; rintro e w2 ⟨rfl, hB⟩; have S2 := Aside0.mk (S.out.below hB); clear hB)
    | ((with_reducible refine gate_builtin (b := .append) (xs := #[.tmp 30, .tmp 33]) rfl ?_); at_builtin; refine print_append_row_of (w0 := w) Value.string ByteArray.empty w.heap.size rfl (.tmp 30) (.tmp 33) 84 9 (.string ⟨#[]⟩) 16 rfl un84 info9 rfl (by decide) (fun _ => rfl) (.slice A3 6 c3) (List.take (5 + 1) (headF g0 g1 g2 g3 g4 g5)) [decW g5] (some ⟨w2.heap.size, 0, none⟩) 1 1 rfl rfl (own_alloc S2.out.own _) (lit_readsS w2 [decW g5] (by simp)) (below_alloc S2.out.bel _) (by have := S2.out.bel.size; rw [World.size_alloc]; omega) (by simp [headF]) ?_; intro v2 w3 ho hb hg hat; have S3 := Aside0.mk (S2.out.after _ ho hb hg); clear ho hb hg hat; obtain ⟨A5, c5, e5⟩ := own_slice S3.out.own; obtain rfl : v2 = Value.slice A5 7 c5 := e5))
   refine ⟨⟨5 + 1, by omega, by go_num, S3⟩, ?_⟩
   simp only [intOf]; omega
  ·obtain rfl : _ = Value.slice A3 7 c3 := hv
   have q6 : wr.cell? ⟨w.heap.size, 6, none⟩ = some (.string B) := (blk_cell S.out.box 6).trans rfl
   go_wp2_with ((go_at_call 17; refine (HX.out _).mono ?_; rintro e w2 ⟨rfl, hB⟩; have S2 := Aside0.mk (S.out.below hB); clear hB; have q7 : ((w2.alloc (.cells #[.string ⟨#[112, 97, 114, 99, 101, 108]⟩, .string (hexF B)] 9)).alloc (.cells #[.slice A3 7 c3, .slice (some ⟨w2.heap.size, 0, none⟩) 2 2] 84)).cell? ⟨w.heap.size, 7, none⟩ = some (.slice A n c) := (blk_cell (blk_alloc (blk_alloc S2.out.box _) _) 7).trans rfl))
   have P0 : Aside0 (PrSt w ((w2.alloc (.cells #[.string ⟨#[112, 97, 114, 99, 101, 108]⟩, .string (hexF B)] 9)).alloc (.cells #[.slice A3 7 c3, .slice (some ⟨w2.heap.size, 0, none⟩) 2 2] 84)) (.slice (some ⟨w2.heap.size + 1, 0, none⟩) 2 2) (headF g0 g1 g2 g3 g4 g5 :: parcelF B :: (ls.take 0).map lineA)) := ⟨by
    have hb := S2.out.bel.size
    have hp := own_lit_of (enc := Value.string) w2 w.heap.size 9 (parcelF B) hb (by simp [parcelF])
    have h := rows_lit2 (w2.alloc (.cells #[.string ⟨#[112, 97, 114, 99, 101, 108]⟩, .string (hexF B)] 9)) w.heap.size (.slice A3 7 c3) (.slice (some ⟨w2.heap.size, 0, none⟩) 2 2) (headF g0 g1 g2 g3 g4 g5) (parcelF B) (Kd.R_below S2.out.made (below_alloc (Below.refl _ _) _)) (Kd.R_of_own (enc := Value.string) (h1 := fun _ => rfl) hp (fun _ _ => trivial)) (by rw [World.size_alloc]; omega)
    rw [World.size_alloc] at h
    exact ⟨h, below_alloc (below_alloc S2.out.bel _) _⟩⟩
   clear S q6 q7
   go_wp2_with fail
   go_loopw [8, 45] (fun vx ix wx => ∃ t : Nat, t ≤ n ∧ ix = .int .i64 (t : Int) ∧ Aside0 (PrSt w wx vx (headF g0 g1 g2 g3 g4 g5 :: parcelF B :: (ls.take t).map lineA) ∧ (ls.take t).all plainA = true)) (fun _ ix _ => n - (intOf ix).toNat)
   case atStart => exact ⟨0, by omega, rfl, ⟨P0.out, by simp⟩⟩
   case round =>
    clear P0 S2
    obtain ⟨t, ht, rfl, S⟩ := hrel
    obtain ⟨Ar, cr, rfl⟩ := Kd.R_slice S.out.1.row
    by_cases hlt : t < n
    ·have hb5 : (0 : Int) ≤ (t : Int) := by omega
     have hb6 : (t : Int) < (n : Int) := by omega
     obtain ⟨ad, A4, c4, A8, c8, rfl, hc0, hc1, hc2, hc3, hc4, hc5, hc6, hc7, hc8, l4, r4, l8, r8⟩ := at_T66 (Kd.C_below HR.out S.out.1.bel) (t : Int) hb5 hb6
     rw [Int.toNat_natCast] at hc0 hc1 hc2 hc3 hc4 hc5 hc6 hc7 hc8
     obtain ⟨x, hx⟩ : ∃ x, rd_T66 ls (t : Int) = x := ⟨_, rfl⟩
     rw [hx] at hc0 hc1 hc2 hc3 hc4 hc5 hc6 hc7 hc8 l4 r4 l8 r8
     have htl : t < ls.length := by rw [HN.out]; exact hlt
     have hxe : ls[t] = x := by rw [← hx]; simp [rd_T66, List.getD_eq_getElem?_getD, htl]
     have hok := HOK.out x (by rw [← hxe]; exact List.getElem_mem htl)
     have htk : (ls.take (t + 1)).map lineA = (ls.take t).map lineA ++ [lineA x] := by rw [List.take_succ_eq_append_getElem htl, hxe, List.map_append]; rfl
     have hta : (ls.take (t + 1)).all plainA = plainA x := by
      rw [List.take_succ_eq_append_getElem htl, List.all_append, S.out.2, Bool.true_and, hxe]; simp
     have hno : plainA x = false → ls.all plainA = false := by
      intro h0
      rw [← Bool.not_eq_true, List.all_eq_true]
      intro h1
      have := h1 ls[t] (List.getElem_mem htl)
      rw [hxe, h0] at this
      cases this
     have HPl : Aside0 (∀ W, Below wr.heap.size wr W → Calls Tryd.prog 29 #[actV x A4 c4 A8 c8] W fun e w' => e = .returned (.bool (plainA x)) ∧ Below W.heap.size W w') := ⟨fun W hb => plain_calls66 x A4 c4 A8 c8 W (Kd.C_below r4 hb) l4 (Kd.C_below r8 hb) l8 hok.vl hok.ml⟩
     have HLn : Aside0 (∀ W, Below wr.heap.size wr W → Calls Tryd.prog 53 #[actV x A4 c4 A8 c8] W fun e w' => (∃ v, e = .returned v ∧ Kd.R Kd.string 9 w' W.heap.size (fun _ => True) v (lineA x)) ∧ Below W.heap.size W w') := ⟨fun W hb => line_calls66 x hok A4 c4 A8 c8 W (Kd.C_below r4 hb) (Kd.C_below r8 hb)⟩
     obtain ⟨lx, hlx⟩ : ∃ lx, lineA x = lx := ⟨_, rfl⟩
     obtain ⟨px, hpx⟩ : ∃ px, plainA x = px := ⟨_, rfl⟩
     rw [hlx] at htk HLn
     rw [hpx] at hta hno HPl
     obtain ⟨Rw, hRw⟩ : ∃ Rw, headF g0 g1 g2 g3 g4 g5 :: parcelF B :: (ls.take t).map lineA = Rw := ⟨_, rfl⟩
     have hRl : Rw.length ≤ 16777218 := by
      rw [← hRw, List.length_cons, List.length_cons, List.length_map, List.length_take]
      omega
     rw [hRw] at S ⊢
     have HT := Aside0.mk (And.intro htk (And.intro hRw (And.intro hta hRl)))
     have HNO := Aside0.mk hno
     clear hx hxe htl hok htk hRw hta hno hRl hlx hpx l4 r4 l8 r8
     obtain ⟨⟨k, n1, d, f, vs⟩, cut, mount, m, ms⟩ := x
     replace hc0 : wr.cell? (ad.add (t * 9)) = some (.int .i64 k) := hc0
     replace hc1 : wr.cell? ⟨(ad.add (t * 9)).block, (ad.add (t * 9)).off + 1, none⟩ = some (.int .i64 n1) := hc1
     replace hc2 : wr.cell? ⟨(ad.add (t * 9)).block, (ad.add (t * 9)).off + 2, none⟩ = some (.string d) := hc2
     replace hc3 : wr.cell? ⟨(ad.add (t * 9)).block, (ad.add (t * 9)).off + 3, none⟩ = some (.int .i64 f) := hc3
     replace hc4 : wr.cell? ⟨(ad.add (t * 9)).block, (ad.add (t * 9)).off + 4, none⟩ = some (.slice A4 vs.length c4) := hc4
     replace hc5 : wr.cell? ⟨(ad.add (t * 9)).block, (ad.add (t * 9)).off + 5, none⟩ = some (.bool cut) := hc5
     replace hc6 : wr.cell? ⟨(ad.add (t * 9)).block, (ad.add (t * 9)).off + 6, none⟩ = some (.bool mount) := hc6
     replace hc7 : wr.cell? ⟨(ad.add (t * 9)).block, (ad.add (t * 9)).off + 7, none⟩ = some (.int .i64 m) := hc7
     replace hc8 : wr.cell? ⟨(ad.add (t * 9)).block, (ad.add (t * 9)).off + 8, none⟩ = some (.slice A8 ms.length c8) := hc8
     replace HPl : Aside0 (∀ W, Below wr.heap.size wr W → Calls Tryd.prog 29 #[.agg #[.int .i64 k, .int .i64 n1, .string d, .int .i64 f, .slice A4 vs.length c4, .bool cut, .bool mount, .int .i64 m, .slice A8 ms.length c8]] W fun e w' => e = .returned (.bool px) ∧ Below W.heap.size W w') := HPl
     replace HLn : Aside0 (∀ W, Below wr.heap.size wr W → Calls Tryd.prog 53 #[.agg #[.int .i64 k, .int .i64 n1, .string d, .int .i64 f, .slice A4 vs.length c4, .bool cut, .bool mount, .int .i64 m, .slice A8 ms.length c8]] W fun e w' => (∃ v, e = .returned v ∧ Kd.R Kd.string 9 w' W.heap.size (fun _ => True) v lx) ∧ Below W.heap.size W w') := HLn
     cases px with
     | false =>
      have HP : Aside0 (printF g0 g1 g2 g3 g4 g5 B ls = (⟨#[]⟩, 2)) := ⟨by unfold printF; rw [HNO.out rfl]; rfl⟩
      go_wp2_with ((go_at_call 29; refine (HPl.out _ (below_alloc (Below.refl _ _) _)).mono ?_; rintro e w2 ⟨rfl, hB⟩; have B2 := Aside0.mk (S.out.1.bel.trans ((below_step (below_alloc (Below.refl _ wr) _) hB).mono S.out.1.bel.size)); clear hB))
      go_ret2
      rw [HP.out]
      exact ⟨rfl, B2.out⟩
     | true =>
      clear HNO
      go_wp2_with (first
       | (go_at_call 29; refine (HPl.out _ (below_alloc (Below.refl _ _) _)).mono ?_; rintro e w2 ⟨rfl, hB⟩; have HW2 := Aside0.mk (below_step (below_alloc (Below.refl _ wr) _) hB); have S2 := Aside0.mk (S.out.1.below HW2.out); have K2 := Aside0.mk (blk_below (blk_new wr (.cells #[.int .i64 k, .int .i64 n1, .string d, .int .i64 f, .slice A4 vs.length c4, .bool cut, .bool mount, .int .i64 m, .slice A8 ms.length c8] 66)) hB); clear hB; have y0 : w2.cell? ⟨wr.heap.size, 0, none⟩ = some (.int .i64 k) := (blk_cell K2.out 0).trans rfl; have y1 : w2.cell? ⟨wr.heap.size, 1, none⟩ = some (.int .i64 n1) := (blk_cell K2.out 1).trans rfl; have y2 : w2.cell? ⟨wr.heap.size, 2, none⟩ = some (.string d) := (blk_cell K2.out 2).trans rfl; have y3 : w2.cell? ⟨wr.heap.size, 3, none⟩ = some (.int .i64 f) := (blk_cell K2.out 3).trans rfl; have y4 : w2.cell? ⟨wr.heap.size, 4, none⟩ = some (.slice A4 vs.length c4) := (blk_cell K2.out 4).trans rfl; have y5 : w2.cell? ⟨wr.heap.size, 5, none⟩ = some (.bool cut) := (blk_cell K2.out 5).trans rfl; have y6 : w2.cell? ⟨wr.heap.size, 6, none⟩ = some (.bool mount) := (blk_cell K2.out 6).trans rfl; have y7 : w2.cell? ⟨wr.heap.size, 7, none⟩ = some (.int .i64 m) := (blk_cell K2.out 7).trans rfl; have y8 : w2.cell? ⟨wr.heap.size, 8, none⟩ = some (.slice A8 ms.length c8) := (blk_cell K2.out 8).trans rfl)
       | (go_at_call 53; refine (HLn.out _ HW2.out).mono ?_; rintro e w3 ⟨⟨lv, rfl, hlv⟩, hB⟩; obtain ⟨Al, cl, rfl⟩ := Kd.R_slice hlv; have HM := Aside0.mk (PrSt.mrow S2.out hlv); have S3 := Aside0.mk (S2.out.below hB); clear hB hlv)
       | ((with_reducible refine gate_builtin (b := .append) (xs := #[.tmp 52, .tmp 55]) rfl ?_); at_builtin; refine Kd.R_append (Kd.slice 9 Kd.string) (w0 := w) w.heap.size rfl (.tmp 52) (.tmp 55) 36 84 (.slice none 0 0) 24 rfl Tryd.underlying36 Tx.info84 rfl (by decide) (by decide) (.slice Ar Rw.length cr) Rw lx [.slice Al lx.length cl] (fun _ => True) (fun k => w2.heap.size ≤ k) rfl rfl HM.out (S2.out.okp) (fun _ _ => trivial) S3.out.row S3.out.bel S3.out.bel.size (by have := HT.out.2.2.2; show (Rw.length + 1) * 24 ≤ 140737488355328; omega) ?_; intro v4 w4 ho hb hg hat; have S4 := Aside0.mk (PrSt.mk ho hb); clear ho hb hg hat))
      refine ⟨⟨t + 1, by omega, by go_num, ⟨⟨by rw [HT.out.1, ← List.cons_append, ← List.cons_append, HT.out.2.1]; exact S4.out, HT.out.2.2.1⟩⟩⟩, ?_⟩
      simp only [intOf]; omega
    ·obtain rfl : t = n := by omega
     have hfull : ls.take t = ls := List.take_of_length_le (by rw [HN.out]; exact Nat.le_refl _)
     have S1 := S.out
     rw [hfull] at S1
     have hw : headF g0 g1 g2 g3 g4 g5 :: parcelF B :: (ls.take t).map lineA = rowsOf g0 g1 g2 g3 g4 g5 B ls := by rw [hfull]; rfl
     rw [hw]
     obtain ⟨Rw, hRw⟩ : ∃ Rw, rowsOf g0 g1 g2 g3 g4 g5 B ls = Rw := ⟨_, rfl⟩
     rw [hRw]
     have h0 := S.out.1.row
     rw [hw, hRw] at h0
     obtain ⟨_, h1, h2⟩ := Kd.R_reads' h0
     have HJ0 := join_calls Rw Ar cr wr h2 h1 (by rw [← hRw]; exact HSZ.out.1) (by rw [← hRw]; exact HSZ.out.2)
     have hp : printF g0 g1 g2 g3 g4 g5 B ls = joinF Rw := by unfold printF; rw [S1.2, hRw]; rfl
     have HP := Aside0.mk hp
     obtain ⟨tx, htx⟩ : ∃ tx, (joinF Rw).1 = tx := ⟨_, rfl⟩
     obtain ⟨ex, hex⟩ : ∃ ex, (joinF Rw).2 = ex := ⟨_, rfl⟩
     rw [htx, hex] at HJ0
     have HTX := Aside0.mk (And.intro htx hex)
     have HJ := Aside0.mk HJ0
     have HB9 := Aside0.mk S.out.1.bel
     clear hfull S1 hw hRw h0 h1 h2 HJ0 hp htx hex S
     go_wp2_with ((go_at_call 21; refine HJ.out.mono ?_; rintro e w2 ⟨rfl, hB⟩; have B2 := Aside0.mk (HB9.out.trans (hB.mono HB9.out.size)); clear hB))
     go_ret2
     rw [HP.out, HTX.out.1, HTX.out.2]
     exact ⟨rfl, B2.out⟩
end Go.Proofs.YtiddiboclfpklaaDoor.Tz
namespace Go.Proofs.YtiddiboclfpklaaDoor.Tz
open Go.RowKit Go.Proofs.YtiddiboclfpklaaDoorW.PrintWords Go.Proofs.YtiddiboclfpklaaDoor.PScriptReads Go.Proofs.YtiddiboclfpklaaDoor.Tx
set_option linter.unusedVariables false
theorem readU_decW (n : Int) (h : I64 n) : readU (decW n) = (n, 0) := read_dec n h
theorem isNum_decW (n : Int) (h : I64 n) : isNum (decW n) = true := by unfold isNum; rw [readU_decW n h]; rfl
theorem numOf_decW (n : Int) (h : I64 n) : numOf (decW n) = n := by unfold numOf; rw [readU_decW n h]
theorem decW_numOf (s : ByteArray) (h : isNum s = true) : decW (numOf s) = s ∧ I64 (numOf s) := by
 unfold isNum at h
 rw [decide_eq_true_eq] at h
 rcases readU_is s with ⟨h1, h2, h3⟩ | ⟨h1, _⟩
 ·refine ⟨?_, h2⟩
  unfold decW numOf
  rw [← h3, strOf_bytesOf]
 ·rw [h1] at h
  exact absurd h (by decide)
theorem map_decW : ∀ l : List ByteArray, l.all isNum = true → (l.map numOf).map decW = l
 | [], _ => rfl
 | x :: l, h => by
  rw [List.all_cons, Bool.and_eq_true] at h
  rw [List.map_cons, List.map_cons, (decW_numOf x h.1).1, map_decW l h.2]
theorem map_numOf : ∀ l : List Int, (∀ x ∈ l, I64 x) → (l.map decW).all isNum = true ∧ (l.map decW).map numOf = l
 | [], _ => ⟨rfl, rfl⟩
 | x :: l, h => by
  obtain ⟨h1, h2⟩ := map_numOf l (fun y hy => h y (List.mem_cons_of_mem _ hy))
  have hx := h x List.mem_cons_self
  rw [List.map_cons, List.all_cons, List.map_cons, isNum_decW x hx, numOf_decW x hx, h1, h2]
  exact ⟨rfl, rfl⟩
theorem hex_unhexL : ∀ (n : Nat) (l m : List Int), l.length ≤ n → unhexL l = some m → hexL m = l ∧ (∀ x ∈ m, 0 ≤ x ∧ x < 256) ∧ (l ≠ [] → m ≠ [])
 | n, [], m, _, h => by
  obtain rfl : [] = m := by rw [unhexL] at h; exact Option.some.inj h
  exact ⟨rfl, by simp, fun h => absurd rfl h⟩
 | n, [_], m, _, h => by rw [unhexL] at h; cases h
 | 0, a :: b :: l, m, hl, h => by simp at hl
 | n + 1, a :: b :: l, m, hl, h => by
  rw [unhexL] at h
  obtain ⟨x, hx, h⟩ := Option.bind_eq_some_iff.1 h
  obtain ⟨y, hy, h⟩ := Option.bind_eq_some_iff.1 h
  obtain ⟨r, hr, rfl⟩ := Option.map_eq_some_iff.1 h
  obtain ⟨h1, h2, _⟩ := hex_unhexL n l r (by simp at hl; omega) hr
  obtain ⟨x0, x1, xe⟩ := halfF_some hx
  obtain ⟨y0, y1, ye⟩ := halfF_some hy
  refine ⟨?_, ?_, fun _ => by simp⟩
  ·rw [hexL, h1, show (16 * x + y) / 16 = x by omega, show (16 * x + y) % 16 = y by omega, xe, ye]
  ·intro z hz
   rcases List.mem_cons.1 hz with rfl | hz
   ·omega
   ·exact h2 z hz
theorem hex_of_unhex (s : ByteArray) (h : (unhexS s).2 = 0) : hexF (unhexS s).1 = s := by
 unfold unhexS at h ⊢
 by_cases h0 : s.toList = [45]
 ·rw [if_pos h0]
  have : s = ⟨#[45]⟩ := by
   rw [Lib.toList_data] at h0
   exact ByteArray.ext (Array.toList_inj.1 h0)
  rw [this]; rfl
 ·rw [if_neg h0] at h ⊢
  cases hu : unhexL (bytesOf s) with
  | none => rw [hu] at h; exact absurd h (by simp [outU])
  | some m =>
   rw [hu, outU] at h
   rw [outU]
   by_cases hz : s.size = 0
   ·rw [if_pos hz] at h; exact absurd h (by decide)
   ·rw [if_neg hz]
    obtain ⟨h1, h2, h3⟩ := hex_unhexL _ _ _ (Nat.le_refl _) hu
    have hm : m ≠ [] := h3 (fun e => hz (by rw [← bytesOf_length, e]; rfl))
    unfold hexF
    rw [strOf_size, if_neg (fun e => hm (List.eq_nil_of_length_eq_zero e)), bytesOf_strOf _ h2, h1, strOf_bytesOf]
theorem unhexS_size (s : ByteArray) : (unhexS s).1.size ≤ s.size := by
 by_cases h : (unhexS s).2 = 0
 ·have h1 := hex_of_unhex s h
  have h2 : (unhexS s).1.size ≤ (hexF (unhexS s).1).size := by
   unfold hexF
   split
   ·omega
   ·rw [strOf_size, hexL_length, bytesOf_length]; omega
  rwa [h1] at h2
 ·have : (unhexS s).1 = ⟨#[]⟩ := by
   unfold unhexS outU at h ⊢
   split
   ·rfl
   ·rename_i h0
    rw [if_neg h0] at h
    split
    ·rename_i m hm
     rw [hm] at h
     split
     ·rfl
     ·rename_i hz
      have h2 : ¬ ((if s.size = 0 then ((⟨#[]⟩ : ByteArray), (4 : Int)) else (strOfNums m, 0)).2 = 0) := h
      rw [if_neg hz] at h2
      exact absurd rfl h2
    ·rfl
  rw [this]; exact Nat.zero_le _
theorem sized0 {s : ByteArray} (h : s.size = 0) : s = ⟨#[]⟩ := ByteArray.ext (Array.eq_empty_of_size_eq_zero h)
theorem colon_pre (s : ByteArray) : colonF (⟨#[58]⟩ ++ s) = true ∧ restF (⟨#[58]⟩ ++ s) = s := by
 have hd : (⟨#[58]⟩ ++ s : ByteArray).data.toList = 58 :: s.data.toList := by simp [ByteArray.data_append]
 have hc : colonF (⟨#[58]⟩ ++ s) = true := by
  unfold colonF
  rw [Lib.toList_data, ByteArray.data_extract, Array.toList_extract, hd]
  rfl
 refine ⟨hc, ?_⟩
 unfold restF
 rw [if_pos hc]
 apply ByteArray.ext
 apply Array.toList_inj.1
 have h2 := Lib.extract_to_end (⟨#[58]⟩ ++ s) 1
 rw [h2, hd]
 rfl
theorem colon_rest (s : ByteArray) (h : colonF s = true) : s = ⟨#[58]⟩ ++ restF s := by
 have hs := colon_size h
 unfold restF
 rw [if_pos h]
 unfold colonF at h
 have h1 := beq_iff_eq.1 h
 rw [Lib.toList_data, ByteArray.data_extract, Array.toList_extract] at h1
 apply ByteArray.ext
 apply Array.toList_inj.1
 have h2 := Lib.extract_to_end s 1
 have h3 : (⟨#[58]⟩ ++ s.extract 1 s.size : ByteArray).data.toList = 58 :: s.data.toList.drop 1 := by
  rw [ByteArray.data_append, Array.toList_append, h2]; rfl
 rw [h3]
 cases hq : s.data.toList with
 | nil => rw [hq] at h1; simp at h1
 | cons a l =>
  rw [hq] at h1
  simp at h1
  rw [h1]; rfl
theorem decW_head (n : Int) : ∃ b l, (decW n).data.toList = b :: l ∧ b ≠ 58 := by
 have key : ∀ l : List Int, (∀ x ∈ l, (48 ≤ x ∧ x ≤ 57) ∨ x = 45) → l ≠ [] → ∃ b r, (strOfNums l).data.toList = b :: r ∧ b ≠ 58 := by
  intro l hl hne
  have hb := bytesOf_strOf l (fun x hx => by rcases hl x hx with h | h <;> omega)
  unfold bytesOf at hb
  cases hq : (strOfNums l).data.toList with
  | nil => rw [hq] at hb; exact absurd hb.symm hne
  | cons b r =>
   refine ⟨b, r, rfl, fun e => ?_⟩
   rw [hq, List.map_cons] at hb
   have := hl (b.toNat : Int) (by rw [← hb]; exact List.mem_cons_self)
   rw [e] at this
   rcases this with h | h
   ·exact absurd h (by decide)
   ·exact absurd h (by decide)
 unfold decW
 have hne : ∀ u : Nat, (digR u).reverse ≠ [] := by
  intro u e
  obtain ⟨x, l, h, _⟩ := digR_head u
  rw [h] at e; cases e
 by_cases h : n < 0
 ·rw [decF_neg n h]
  refine key _ (fun x hx => ?_) (by simp)
  rcases List.mem_cons.1 hx with rfl | hx
  ·exact .inr rfl
  ·have := digR_byte _ x (List.mem_reverse.1 hx); exact .inl (by omega)
 ·rw [decF_pos n h]
  exact key _ (fun x hx => .inl (by have := digR_byte _ x (List.mem_reverse.1 hx); omega)) (hne _)
theorem colon_decW (n : Int) : colonF (decW n) = false := by
 obtain ⟨b, l, h, hb⟩ := decW_head n
 unfold colonF
 rw [Lib.toList_data, ByteArray.data_extract, Array.toList_extract, h]
 refine beq_eq_false_iff_ne.2 (fun e => hb ?_)
 simp at e
 exact e
theorem val_of_valueF (v : S107) (hn : I64 v.f0) (hb : bothF v = false) : isVal (valueF v) = true ∧ valOf (valueF v) = v := by
 obtain ⟨n, s⟩ := v
 unfold valueF bothF at *
 by_cases h0 : s.size = 0
 ·obtain rfl := sized0 h0
  have e : (if (⟨#[]⟩ : ByteArray).size = 0 then strOfNums (decF n) else ⟨#[58]⟩ ++ hexF ⟨#[]⟩) = decW n := rfl
  show isVal (if (⟨#[]⟩ : ByteArray).size = 0 then strOfNums (decF n) else ⟨#[58]⟩ ++ hexF ⟨#[]⟩) = true ∧ valOf (if (⟨#[]⟩ : ByteArray).size = 0 then strOfNums (decF n) else ⟨#[58]⟩ ++ hexF ⟨#[]⟩) = _
  rw [e]
  unfold isVal valOf
  rw [colon_decW, if_neg Bool.false_ne_true, if_neg Bool.false_ne_true, isNum_decW n hn, numOf_decW n hn]
  exact ⟨rfl, rfl⟩
 ·have hn0 : n = 0 := by
   have h2 : (!decide (n = 0) && !decide (s.size = 0)) = false := hb
   rw [decide_eq_false h0] at h2
   simpa using h2
  show isVal (if s.size = 0 then strOfNums (decF n) else ⟨#[58]⟩ ++ hexF s) = true ∧ valOf (if s.size = 0 then strOfNums (decF n) else ⟨#[58]⟩ ++ hexF s) = _
  rw [if_neg h0]
  obtain ⟨h1, h2⟩ := colon_pre (hexF s)
  unfold isVal valOf
  rw [h1, h2, if_pos rfl, if_pos rfl, unhex_of_hex, decide_eq_false h0, hn0]
  exact ⟨rfl, rfl⟩
theorem valueF_valOf (x : ByteArray) (h : isVal x = true) : valueF (valOf x) = x ∧ bothF (valOf x) = false := by
 unfold isVal at h
 unfold valOf
 cases hc : colonF x with
 | true =>
  rw [hc, if_pos rfl, Bool.and_eq_true, decide_eq_true_eq] at h
  obtain ⟨h1, h2⟩ := h
  have hz : ¬ (unhexS (restF x)).1.size = 0 := by simpa using h2
  rw [if_pos rfl]
  unfold valueF bothF
  refine ⟨?_, rfl⟩
  show (if (unhexS (restF x)).1.size = 0 then _ else _) = x
  rw [if_neg hz, hex_of_unhex _ h1, ← colon_rest x hc]
 | false =>
  rw [hc, if_neg Bool.false_ne_true] at h
  rw [if_neg Bool.false_ne_true]
  unfold valueF bothF
  exact ⟨(decW_numOf x h).1, by show (_ && !decide ((⟨#[]⟩ : ByteArray).size = 0)) = false; rw [Bool.and_comm]; rfl⟩
theorem map_valueF : ∀ l : List ByteArray, l.all isVal = true → (l.map valOf).map valueF = l ∧ (l.map valOf).any bothF = false
 | [], _ => ⟨rfl, rfl⟩
 | x :: l, h => by
  rw [List.all_cons, Bool.and_eq_true] at h
  obtain ⟨h1, h2⟩ := map_valueF l h.2
  obtain ⟨h3, h4⟩ := valueF_valOf x h.1
  rw [List.map_cons, List.map_cons, h3, h1, List.any_cons, h4, h2]
  exact ⟨rfl, rfl⟩
theorem map_valOf : ∀ l : List S107, (∀ v ∈ l, I64 v.f0) → l.any bothF = false → (l.map valueF).all isVal = true ∧ (l.map valueF).map valOf = l
 | [], _, _ => ⟨rfl, rfl⟩
 | v :: l, h, hb => by
  rw [List.any_cons, Bool.or_eq_false_iff] at hb
  obtain ⟨h1, h2⟩ := map_valOf l (fun y hy => h y (List.mem_cons_of_mem _ hy)) hb.2
  obtain ⟨h3, h4⟩ := val_of_valueF v (h v List.mem_cons_self) hb.1
  rw [List.map_cons, List.all_cons, List.map_cons, h3, h4, h1, h2]
  exact ⟨rfl, rfl⟩
theorem kindU_word (s : ByteArray) : ∀ t : Nat, kindU t s = 0 ∨ ∃ k : Nat, k < t ∧ kindU t s = (k : Int) + 1 ∧ s = wordF ((k : Int) + 1)
 | 0 => .inl rfl
 | t + 1 => by
  rw [kindU]
  by_cases h : s = wordF ((t : Int) + 1)
  ·rw [if_pos h]; exact .inr ⟨t, Nat.lt_succ_self _, rfl, h⟩
  ·rw [if_neg h]
   rcases kindU_word s t with h1 | ⟨k, h1, h2, h3⟩
   ·exact .inl h1
   ·exact .inr ⟨k, Nat.lt_succ_of_lt h1, h2, h3⟩
theorem kind_words : ∀ k : Fin 13, kindF (wordF ((k.val : Int) + 1)) = (k.val : Int) + 1 ∧ wordF ((k.val : Int) + 1) ≠ cutW ∧ wordF ((k.val : Int) + 1) ≠ mountW := by decide
theorem word_num (k : Int) (h : ¬ (wordF k).size = 0) : ∃ j : Fin 13, k = (j.val : Int) + 1 := by
 by_cases hk : 1 ≤ k ∧ k ≤ 13
 ·exact ⟨⟨(k - 1).toNat, by omega⟩, by show k = (((k - 1).toNat : Nat) : Int) + 1; omega⟩
 ·exfalso
  apply h
  unfold wordF script_word.f
  have n1 : k ≠ 1 := by omega
  have n2 : k ≠ 2 := by omega
  have n3 : k ≠ 3 := by omega
  have n4 : k ≠ 4 := by omega
  have n5 : k ≠ 5 := by omega
  have n6 : k ≠ 6 := by omega
  have n7 : k ≠ 7 := by omega
  have n8 : k ≠ 8 := by omega
  have n9 : k ≠ 9 := by omega
  have n10 : k ≠ 10 := by omega
  have n11 : k ≠ 11 := by omega
  have n12 : k ≠ 12 := by omega
  have n13 : k ≠ 13 := by omega
  simp only [n1, n2, n3, n4, n5, n6, n7, n8, n9, n10, n11, n12, n13, if_false]
  rfl
end Go.Proofs.YtiddiboclfpklaaDoor.Tz
namespace Go.Proofs.YtiddiboclfpklaaDoor.Tz
open Go.RowKit Go.Proofs.YtiddiboclfpklaaDoorW.PrintWords Go.Proofs.YtiddiboclfpklaaDoor.PScriptReads Go.Proofs.YtiddiboclfpklaaDoor.Tx
set_option linter.unusedVariables false
set_option linter.unusedSimpArgs false
theorem list_bytes {a b : ByteArray} (h : a.toList = b.toList) : a = b := by
 rw [Lib.toList_data, Lib.toList_data] at h
 exact ByteArray.ext (Array.toList_inj.1 h)
theorem eqV_eq : ∀ l m : List S107, eqV l m = true → l = m
 | [], [], _ => rfl
 | [], _ :: _, h => by cases h
 | _ :: _, [], h => by cases h
 | ⟨a, s⟩ :: l, ⟨b, t⟩ :: m, h => by
  rw [eqV, Bool.and_eq_true, Bool.and_eq_true] at h
  obtain ⟨⟨h1, h2⟩, h3⟩ := h
  rw [eqV_eq l m h3, show a = b from beq_iff_eq.1 h1, show s = t from list_bytes (beq_iff_eq.1 h2)]
theorem eqI_eq : ∀ l m : List Int, eqI l m = true → l = m
 | [], [], _ => rfl
 | [], _ :: _, h => by cases h
 | _ :: _, [], h => by cases h
 | a :: l, b :: m, h => by
  rw [eqI, Bool.and_eq_true, decide_eq_true_eq] at h
  rw [eqI_eq l m h.2, h.1]
theorem sameA_eq (a b : S66) (h : sameA a b = true) : a = b := by
 obtain ⟨⟨k, n, d, ⟨f, vs⟩⟩, c, mt, m, ms⟩ := a
 obtain ⟨⟨k', n', d', ⟨f', vs'⟩⟩, c', mt', m', ms'⟩ := b
 unfold sameA sameOpF at h
 simp only [Bool.and_eq_true, decide_eq_true_eq, beq_iff_eq] at h
 obtain ⟨⟨h1, h2, h3, h4, h5⟩, h6, h7, h8, h9⟩ := h
 rw [h1, h2, list_bytes h3, h4, eqV_eq _ _ h5, h6, h7, h8, eqI_eq _ _ h9]
theorem act_line (a : S66) (hp : plainA a = true) (H : ActOk a) : ∃ x r, lineA a = x :: r ∧ actP x r = some a := by
 obtain ⟨hn, hf, hm, -, hvs, -, hms, -⟩ := H
 obtain ⟨⟨k, n, d, ⟨f, vs⟩⟩, cut, mount, m, ms⟩ := a
 dsimp only at hn hf hm hvs hms
 cases cut with
 | true =>
  have e := sameA_eq _ _ (show sameA ⟨⟨k, n, d, ⟨f, vs⟩⟩, true, mount, m, ms⟩ ⟨⟨0, 0, ⟨#[]⟩, ⟨0, []⟩⟩, true, false, m, ms⟩ = true from hp)
  simp only [S66.mk.injEq, S54.mk.injEq, S52.mk.injEq, and_true, true_and] at e
  obtain ⟨⟨rfl, rfl, rfl, rfl, rfl⟩, rfl⟩ := e
  refine ⟨cutW, decW m :: ms.map decW, rfl, ?_⟩
  obtain ⟨h1, h2⟩ := map_numOf (m :: ms) (fun x hx => by
   rcases List.mem_cons.1 hx with rfl | hx
   ·exact hm
   ·have := hms x hx; unfold I64; omega)
  rw [List.map_cons] at h1 h2
  have hc : cutOk (decW m :: ms.map decW) = true := by
   unfold cutOk
   rw [h1, h2, Bool.true_and]
   show ms.all inU = true
   rw [List.all_eq_true]
   intro x hx
   have := hms x hx
   unfold inU
   rw [decide_eq_false (by omega), decide_eq_false (by omega)]
   rfl
  rw [actP, if_pos rfl, if_pos hc, h2]
  rfl
 | false =>
  cases mount with
  | true =>
   have e := sameA_eq _ _ (show sameA ⟨⟨k, n, d, ⟨f, vs⟩⟩, false, true, m, ms⟩ ⟨⟨0, 0, ⟨#[]⟩, ⟨0, []⟩⟩, false, true, 0, []⟩ = true from hp)
   simp only [S66.mk.injEq, S54.mk.injEq, S52.mk.injEq, and_true, true_and] at e
   obtain ⟨⟨rfl, rfl, rfl, rfl, rfl⟩, rfl, rfl⟩ := e
   exact ⟨mountW, [], rfl, by rw [actP, if_neg (by decide), if_pos rfl]; rfl⟩
  | false =>
   replace hp : (!decide ((wordF k).size = 0) && (!vs.any bothF && sameA ⟨⟨k, n, d, ⟨f, vs⟩⟩, false, false, m, ms⟩ ⟨onlyO ⟨k, n, d, ⟨f, vs⟩⟩, false, false, 0, []⟩)) = true := hp
   rw [Bool.and_eq_true, Bool.and_eq_true] at hp
   obtain ⟨h1, h2, h3⟩ := hp
   have hz : ¬ (wordF k).size = 0 := by simpa using h1
   have hnb : vs.any bothF = false := by simpa using h2
   obtain ⟨j, hj⟩ := word_num k hz
   obtain ⟨kf, nc, nm⟩ := kind_words j
   rw [← hj] at kf nc nm
   have e := sameA_eq _ _ h3
   simp only [S66.mk.injEq, and_true, true_and] at e
   obtain ⟨e, rfl, rfl⟩ := e
   have hact : ∀ r, actP (wordF k) r = kindP k r := fun r => by rw [actP, if_neg nc, if_neg nm, kf]
   have hl : lineA ⟨⟨k, n, d, ⟨f, vs⟩⟩, false, false, 0, []⟩ = wordF k :: (if k = 1 then [decW n] else if k = 2 then [hexF d] else if k = 11 ∨ k = 12 ∨ k = 13 then decW f :: decW n :: vs.map valueF else []) := rfl
   refine ⟨wordF k, _, hl, ?_⟩
   rw [hact]
   clear hl hact kf nc nm h1 h2 h3
   unfold kindP
   unfold onlyO at e
   dsimp only at e
   by_cases k1 : k = 1
   ·rw [if_pos k1] at e
    rw [if_pos k1, if_pos k1]
    simp only [S54.mk.injEq, S52.mk.injEq, true_and] at e
    obtain ⟨rfl, rfl, rfl⟩ := e
    unfold beginP
    rw [show [decW n].all isNum = true by rw [List.all_cons, isNum_decW n hn]; rfl, k1]
    show some (opA 1 (numOf (decW n)) ⟨#[]⟩ 0 []) = _
    rw [numOf_decW n hn]; rfl
   rw [if_neg k1] at e
   rw [if_neg k1, if_neg k1]
   by_cases k2 : k = 2
   ·rw [if_pos k2] at e
    rw [if_pos k2, if_pos k2]
    simp only [S54.mk.injEq, S52.mk.injEq, true_and] at e
    obtain ⟨rfl, rfl, rfl⟩ := e
    have hb2 : bytesF [hexF d] = (d, true) := by
     show ((unhexS (hexF d)).1, decide ((unhexS (hexF d)).2 = 0)) = _
     rw [unhex_of_hex]
     rfl
    unfold chunkP
    rw [hb2, k2]
    rfl
   rw [if_neg k2] at e
   rw [if_neg k2, if_neg k2]
   by_cases k12 : k = 12
   ·rw [if_pos k12] at e
    rw [if_pos (.inr (.inl k12)), if_pos (.inr (.inl k12))]
    simp only [S54.mk.injEq, S52.mk.injEq, true_and, and_true] at e
    obtain rfl := e
    obtain ⟨q1, q2⟩ := map_valOf vs (fun v hv => (hvs v hv).1) hnb
    have hko : keyedOk k (decW f :: decW n :: vs.map valueF) = true := by
     unfold keyedOk
     show ([decW f, decW n].all isNum && ((vs.map valueF).all isVal && (true && (decide (k = 12) || _)))) = true
     rw [q1, k12, List.all_cons, List.all_cons, isNum_decW f hf, isNum_decW n hn]
     rfl
    unfold keyedP
    rw [if_pos hko]
    show some (opA k (numOf (decW n)) ⟨#[]⟩ (numOf (decW f)) ((vs.map valueF).map valOf)) = _
    rw [numOf_decW n hn, numOf_decW f hf, q2]
    rfl
   rw [if_neg k12] at e
   by_cases k13 : k = 11 ∨ k = 13
   ·rw [if_pos k13] at e
    have k3 : k = 11 ∨ k = 12 ∨ k = 13 := by omega
    rw [if_pos k3, if_pos k3]
    simp only [S54.mk.injEq, S52.mk.injEq, true_and] at e
    obtain ⟨rfl, rfl⟩ := e
    have hko : keyedOk k (decW f :: decW n :: ([] : List S107).map valueF) = true := by
     unfold keyedOk
     show ([decW f, decW n].all isNum && (true && (true && (decide (k = 12) || true)))) = true
     rw [List.all_cons, List.all_cons, isNum_decW f hf, isNum_decW n hn, Bool.or_true]
     rfl
    unfold keyedP
    rw [if_pos hko]
    show some (opA k (numOf (decW n)) ⟨#[]⟩ (numOf (decW f)) []) = _
    rw [numOf_decW n hn, numOf_decW f hf]
    rfl
   rw [if_neg k13] at e
   have k3 : ¬ (k = 11 ∨ k = 12 ∨ k = 13) := by omega
   rw [if_neg k3, if_neg k3]
   simp only [S54.mk.injEq, S52.mk.injEq, true_and] at e
   obtain ⟨rfl, rfl, rfl, rfl⟩ := e
   rw [if_neg (by omega)]
   rfl
theorem cutA_line : ∀ (r : List ByteArray), r.all isNum = true → cutG (r.map numOf) = true → lineA (cutA (r.map numOf)) = cutW :: r ∧ plainA (cutA (r.map numOf)) = true
 | [], _, h => by cases h
 | y :: r, h, _ => by
  rw [List.all_cons, Bool.and_eq_true] at h
  refine ⟨?_, ?_⟩
  ·show cutW :: decW (numOf y) :: (r.map numOf).map decW = _
   rw [(decW_numOf y h.1).1, map_decW r h.2]
  ·exact sameA_self _
theorem plain_op (k n : Int) (d : ByteArray) (f : Int) (vs : List S107) (hz : ¬ (wordF k).size = 0) (hb : vs.any bothF = false) (ho : onlyO ⟨k, n, d, ⟨f, vs⟩⟩ = ⟨k, n, d, ⟨f, vs⟩⟩) : plainA (opA k n d f vs) = true := by
 show (!decide ((wordF k).size = 0) && (!vs.any bothF && sameA (opA k n d f vs) ⟨onlyO ⟨k, n, d, ⟨f, vs⟩⟩, false, false, 0, []⟩)) = true
 rw [ho, hb, decide_eq_false hz]
 exact sameA_self _
theorem line_op (k n : Int) (d : ByteArray) (f : Int) (vs : List S107) : lineA (opA k n d f vs) = wordF k :: (if k = 1 then [decW n] else if k = 2 then [hexF d] else if k = 11 ∨ k = 12 ∨ k = 13 then decW f :: decW n :: vs.map valueF else []) := rfl
theorem line_act (x : ByteArray) (r : List ByteArray) (a : S66) (h : actP x r = some a) : lineA a = x :: r ∧ plainA a = true := by
 unfold actP at h
 by_cases hc : x = cutW
 ·rw [if_pos hc] at h
  by_cases ho : cutOk r = true
  ·rw [if_pos ho] at h
   obtain rfl := Option.some.inj h
   unfold cutOk at ho
   rw [Bool.and_eq_true] at ho
   rw [hc]
   exact cutA_line r ho.1 ho.2
  ·rw [if_neg ho] at h; cases h
 rw [if_neg hc] at h
 by_cases hm : x = mountW
 ·rw [if_pos hm] at h
  by_cases hr : r.length = 0
  ·rw [if_pos hr] at h
   obtain rfl := Option.some.inj h
   rw [hm, List.eq_nil_of_length_eq_zero hr]
   exact ⟨rfl, sameA_self _⟩
  ·rw [if_neg hr] at h; cases h
 rw [if_neg hm] at h
 rcases kindU_word x 13 with hk | ⟨j, hj, hk, hw⟩
 ·rw [show kindF x = 0 from hk] at h
  unfold kindP at h
  simp at h
 obtain ⟨k, hkk⟩ : ∃ k, kindF x = k := ⟨_, rfl⟩
 have hkj : k = (j : Int) + 1 := by rw [← hkk]; exact hk
 rw [hkk] at h
 rw [← hkj] at hw
 have hz : ¬ (wordF k).size = 0 := by
  have := (words_all ⟨j, hj⟩).2
  rw [hkj]; exact this
 clear hkk hk hc hm
 subst hw
 unfold kindP at h
 by_cases k1 : k = 1
 ·rw [if_pos k1] at h
  unfold beginP at h
  split at h
  ·rename_i hb
   rw [Bool.and_eq_true, decide_eq_true_eq] at hb
   obtain ⟨hb, hl⟩ := hb
   match r, hl, hb, h with
   | [y], _, hb, h =>
    obtain rfl := Option.some.inj h
    rw [List.all_cons, Bool.and_eq_true] at hb
    subst k1
    refine ⟨?_, plain_op _ _ _ _ _ hz rfl rfl⟩
    rw [line_op, if_pos rfl]
    show [_, decW (numOf y)] = _
    rw [(decW_numOf y hb.1).1]
  ·cases h
 rw [if_neg k1] at h
 by_cases k2 : k = 2
 ·rw [if_pos k2] at h
  unfold chunkP at h
  split at h
  ·rename_i hb
   match r, hb, h with
   | [y], hb, h =>
    obtain rfl := Option.some.inj h
    have hu : (unhexS y).2 = 0 := by simpa [bytesF] using hb
    subst k2
    refine ⟨?_, plain_op _ _ _ _ _ hz rfl rfl⟩
    rw [line_op, if_neg (by decide), if_pos rfl]
    show [_, hexF (unhexS y).1] = _
    rw [hex_of_unhex y hu]
   | [], hb, _ => cases hb
   | _ :: _ :: _, hb, _ => cases hb
  ·cases h
 rw [if_neg k2] at h
 by_cases k3 : k = 11 ∨ k = 12 ∨ k = 13
 ·rw [if_pos k3] at h
  unfold keyedP at h
  split at h
  ·rename_i hb
   unfold keyedOk at hb
   match r, hb, h with
   | p :: q :: vs, hb, h =>
    replace hb : ([p, q].all isNum && (vs.all isVal && (true && (decide (k = 12) || decide (vs.length = 0))))) = true := hb
    rw [Bool.and_eq_true, Bool.and_eq_true, Bool.true_and] at hb
    obtain ⟨h1, h2, h3⟩ := hb
    rw [List.all_cons, List.all_cons, Bool.and_eq_true, Bool.and_eq_true] at h1
    obtain rfl := Option.some.inj h
    obtain ⟨q1, q2⟩ := map_valueF vs h2
    have hl : lineA (opA k (numOf q) ⟨#[]⟩ (numOf p) (vs.map valOf)) = wordF k :: p :: q :: vs := by
     rw [line_op, if_neg k1, if_neg k2, if_pos k3, q1, (decW_numOf p h1.1).1, (decW_numOf q h1.2.1).1]
    refine ⟨hl, plain_op _ _ _ _ _ hz q2 ?_⟩
    unfold onlyO
    dsimp only
    rw [if_neg k1, if_neg k2]
    by_cases k12 : k = 12
    ·rw [if_pos k12]
    ·have hv : vs = [] := by
      rw [decide_eq_false k12, Bool.false_or, decide_eq_true_eq] at h3
      exact List.eq_nil_of_length_eq_zero h3
     rw [if_neg k12, if_pos (by omega), hv]
     rfl
   | [], hb, _ => simp at hb
   | [_], hb, _ => simp at hb
  ·cases h
 rw [if_neg k3] at h
 have k0 : ¬ k = 0 := by omega
 rw [if_neg k0] at h
 by_cases hr : r.length = 0
 ·rw [if_pos hr] at h
  obtain rfl := Option.some.inj h
  refine ⟨?_, plain_op _ _ _ _ _ hz rfl ?_⟩
  ·rw [line_op, if_neg k1, if_neg k2, if_neg k3, List.eq_nil_of_length_eq_zero hr]
  ·unfold onlyO
   dsimp only
   rw [if_neg k1, if_neg k2, if_neg (by omega), if_neg (by omega)]
 ·rw [if_neg hr] at h; cases h
theorem numOf_I (s : ByteArray) : I64 (numOf s) := by
 unfold numOf
 rcases readU_is s with ⟨_, h, _⟩ | ⟨h, _⟩
 ·exact h
 ·rw [h]; unfold I64; decide
theorem acts_back : ∀ (al : List (List ByteArray)) (i : Nat), badFrom i al = none → al.all okAct = true ∧ (al.map actD).map lineA = al ∧ (al.map actD).all plainA = true
 | [], _, _ => ⟨rfl, rfl, rfl⟩
 | l :: al, i, h => by
  rw [badFrom] at h
  by_cases ho : okAct l = true
  ·rw [if_pos ho] at h
   obtain ⟨h1, h2, h3⟩ := acts_back al (i + 1) h
   cases l with
   | nil => cases ho
   | cons x r =>
    obtain ⟨a, ha⟩ := Option.isSome_iff_exists.1 (show (actP x r).isSome = true from ho)
    have o2 : actD (x :: r) = a := by show (actP x r).getD z66 = a; rw [ha]; rfl
    obtain ⟨q1, q2⟩ := line_act x r a ha
    rw [List.map_cons, List.map_cons, List.all_cons, List.all_cons, h1, h2, h3, o2, q1, q2, ho]
    exact ⟨rfl, rfl, rfl⟩
  ·rw [if_neg ho] at h; cases h
theorem print_parse (s : ByteArray) (g0 g1 g2 g3 g4 g5 : Int) (B : ByteArray) (acts : List S66) (n : Int) (h : parseP s = (([g0, g1, g2, g3, g4, g5], B, acts), n, 0)) :
  rowsOf g0 g1 g2 g3 g4 g5 B acts = (linesF s).1 ∧ acts.all plainA = true ∧ joinF (linesF s).1 = (s, 0) ∧ (textB (linesF s).1).length = s.size ∧ (I64 g0 ∧ I64 g1 ∧ I64 g2 ∧ I64 g3 ∧ I64 g4 ∧ I64 g5) ∧ (∀ a ∈ acts, ∃ l ∈ (linesF s).1, a = actD l ∧ okAct l = true) ∧ acts.length ≤ (linesF s).1.length ∧ ∃ l ∈ (linesF s).1, ∃ y ∈ l, B = (unhexS y).1 := by
 unfold parseP at h
 by_cases he : (linesF s).2.2 = 0
 ·rw [if_pos he] at h
  have hj : joinF (linesF s).1 = (s, 0) ∧ (textB (linesF s).1).length = s.size := by
   rcases linesF_form s with ⟨h1, h2⟩ | ⟨_, h2⟩
   ·rw [h2]; exact back_one s h1
   ·rw [h2] at he; exact absurd he (by decide)
  obtain ⟨rows, hrows⟩ : ∃ rows, (linesF s).1 = rows := ⟨_, rfl⟩
  rw [hrows] at h hj ⊢
  match rows, h, hj with
  | [], h, _ => exact absurd (Prod.mk.inj (Prod.mk.inj h).2).2 (by decide)
  | [d], h, _ =>
   rw [rowsP] at h
   split at h
   ·exact absurd (Prod.mk.inj (Prod.mk.inj h).2).2 (by decide)
   ·exact absurd (Prod.mk.inj (Prod.mk.inj h).2).2 (by decide)
  | d :: p :: al, h, hj =>
   cases hd : okDev d with
   | false => rw [rowsP_dev _ _ hd] at h; exact absurd (Prod.mk.inj (Prod.mk.inj h).2).2 (by decide)
   | true =>
    cases hp : okPar p with
    | false => rw [rowsP_par _ _ _ hd hp] at h; exact absurd (Prod.mk.inj (Prod.mk.inj h).2).2 (by decide)
    | true =>
     rw [rowsP_more _ _ _ hd hp] at h
     cases hb : badFrom 2 al with
     | some i => rw [hb] at h; exact absurd (Prod.mk.inj (Prod.mk.inj h).2).2 (by decide)
     | none =>
      rw [hb] at h
      obtain ⟨hs, -⟩ := Prod.mk.inj h
      obtain ⟨hgs, hs⟩ := Prod.mk.inj hs
      obtain ⟨hB, hacts⟩ := Prod.mk.inj hs
      obtain ⟨a1, a2, a3⟩ := acts_back al 2 hb
      cases d with
      | nil => cases hd
      | cons x r =>
       cases p with
       | nil => cases hp
       | cons y q =>
        unfold okDev devOk at hd
        rw [Bool.and_eq_true, Bool.and_eq_true] at hd
        obtain ⟨d1, d2, -⟩ := hd
        have hx : x = devW := list_bytes (beq_iff_eq.1 d2)
        replace hgs : r.map numOf = [g0, g1, g2, g3, g4, g5] := hgs
        have hr : [g0, g1, g2, g3, g4, g5].map decW = r := by rw [← hgs]; exact map_decW r d1
        unfold okPar at hp
        rw [Bool.and_eq_true] at hp
        have hy : y = parW := list_bytes (beq_iff_eq.1 hp.2)
        match q, hp.1, hB with
        | [z], hz, hB =>
         have hu : (unhexS z).2 = 0 := by simpa [bytesF] using hz
         replace hB : (unhexS z).1 = B := hB
         refine ⟨?_, by rw [← hacts]; exact a3, hj.1, hj.2, ?_, ?_, ?_, ?_⟩
         ·unfold rowsOf
          rw [← hacts, a2, hx, hy, ← hr]
          show headF g0 g1 g2 g3 g4 g5 :: [parW, hexF B] :: al = _
          rw [← hB, hex_of_unhex z hu]
          rfl
         ·have hI : ∀ g ∈ [g0, g1, g2, g3, g4, g5], I64 g := fun g hg => by
           rw [← hgs] at hg
           obtain ⟨w, _, rfl⟩ := List.mem_map.1 hg
           exact numOf_I w
          exact ⟨hI _ (by simp), hI _ (by simp), hI _ (by simp), hI _ (by simp), hI _ (by simp), hI _ (by simp)⟩
         ·intro a ha
          rw [← hacts] at ha
          obtain ⟨l, hl, rfl⟩ := List.mem_map.1 ha
          exact ⟨l, List.mem_cons_of_mem _ (List.mem_cons_of_mem _ hl), rfl, (List.all_eq_true.1 a1) l hl⟩
         ·rw [← hacts, List.length_map]; simp; omega
         ·exact ⟨[y, z], List.mem_cons_of_mem _ List.mem_cons_self, z, by simp, hB.symm⟩
        | [], hz, _ => cases hz
        | _ :: _ :: _, hz, _ => cases hz
 ·rw [if_neg he] at h
  exact absurd (Prod.mk.inj (Prod.mk.inj h).2).2 he
theorem valOf_ok (x : ByteArray) (hx : x.size ≤ 16777216) : I64 (valOf x).f0 ∧ (valOf x).f1.size ≤ 16777216 := by
 unfold valOf
 split
 ·exact ⟨by show I64 0; unfold I64; decide, by have h1 := unhexS_size (restF x); have h2 := restF_size x; show (unhexS (restF x)).1.size ≤ _; omega⟩
 ·exact ⟨numOf_I x, by exact Nat.zero_le _⟩
theorem actP_ok (x : ByteArray) (r : List ByteArray) (a : S66) (hr : ∀ y ∈ r, y.size ≤ 16777216) (hl : r.length ≤ 16777216) (h : actP x r = some a) : ActOk a := by
 have I0 : I64 0 := by unfold I64; decide
 have hop : ∀ (k n : Int) (d : ByteArray) (f : Int) (vs : List S107), I64 n → I64 f → d.size ≤ 16777216 → (∀ v ∈ vs, I64 v.f0 ∧ v.f1.size ≤ 16777216) → vs.length ≤ 16777216 → ActOk (opA k n d f vs) :=
  fun k n d f vs h1 h2 h3 h4 h5 => ⟨h1, h2, I0, h3, h4, h5, (by intro x hx; cases hx), by show (0 : Nat) ≤ _; omega⟩
 have e0 : (⟨#[]⟩ : ByteArray).size ≤ 16777216 := Nat.zero_le _
 unfold actP at h
 split at h
 ·split at h
  ·rename_i ho
   obtain rfl := Option.some.inj h
   unfold cutOk at ho
   rw [Bool.and_eq_true] at ho
   match r, ho.2, hr, hl with
   | y :: r, h2, hr, hl =>
    replace h2 : (r.map numOf).all inU = true := h2
    refine ⟨I0, I0, numOf_I y, e0, (by intro v hv; cases hv), by show (0 : Nat) ≤ _; omega, ?_, ?_⟩
    ·intro m hm
     have := (List.all_eq_true.1 h2) m hm
     unfold inU at this
     simp at this
     omega
    ·show (r.map numOf).length ≤ _
     rw [List.length_map]; simp at hl; omega
   | [], h2, _, _ => cases h2
  ·cases h
 ·split at h
  ·split at h
   ·obtain rfl := Option.some.inj h
    exact ⟨I0, I0, I0, e0, (by intro v hv; cases hv), by show (0 : Nat) ≤ _; omega, (by intro v hv; cases hv), by show (0 : Nat) ≤ _; omega⟩
   ·cases h
  ·unfold kindP at h
   split at h
   ·unfold beginP at h
    split at h
    ·obtain rfl := Option.some.inj h
     exact hop _ _ _ _ _ (numOf_I _) I0 e0 (by intro v hv; cases hv) (by simp)
    ·cases h
   ·split at h
    ·unfold chunkP at h
     split at h
     ·obtain rfl := Option.some.inj h
      refine hop _ _ _ _ _ I0 I0 ?_ (by intro v hv; cases hv) (by simp)
      unfold bytesF
      split
      ·rename_i z _
       have h1 := unhexS_size z
       have h2 := hr z (by simp)
       show (unhexS z).1.size ≤ _
       omega
      ·exact e0
     ·cases h
    ·split at h
     ·unfold keyedP at h
      split at h
      ·obtain rfl := Option.some.inj h
       refine hop _ _ _ _ _ (numOf_I _) (numOf_I _) e0 ?_ (by rw [List.length_map, List.length_drop]; omega)
       intro v hv
       obtain ⟨y, hy, rfl⟩ := List.mem_map.1 hv
       exact valOf_ok y (hr y (List.mem_of_mem_drop hy))
      ·cases h
     ·split at h
      ·cases h
      ·split at h
       ·obtain rfl := Option.some.inj h
        exact hop _ _ _ _ _ I0 I0 e0 (by intro v hv; cases hv) (by simp)
       ·cases h
end Go.Proofs.YtiddiboclfpklaaDoor.Tz
