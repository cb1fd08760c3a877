/- Lemmas that the claim's theorem uses. -/
import Derived.Shelf.Strings.Builder1
import Derived.Test.YtiddiboclfpklaaDoorRdF
import Derived.OwnWalkIn
import Derived.Maps.OwnIn
import Derived.Test.YtiddiboclfpklaaDoorRdE
import Derived.Test.YtiddiboclfpklaaDoorRdG
import Derived.Test.YtiddiboclfpklaaDoorRdI
namespace Go.Proofs.YtiddiboclfpklaaDoor.Tx
open Go.RowKit Go.Shelf Go.Maps Go.Proofs.YtiddiboclfpklaaDoorW.PrintWords
set_option linter.unusedVariables false
def renB : Ren := ⟨fun | 169 => 51 | n => n, fun | 70 => 97 | 72 => 99 | 37 => 80 | 127 => 133 | n => n, fun n => n⟩
theorem lays169 : Lays.n169 Tryd.prog renB where
 mixed := by kernel_rfl
 f169 := by kernel_rfl
 t0 := Tryd.underlying0
 a0 := Tryd.isAgg0
 z0 := Tryd.sizeOf0
 v0 := Tryd.zeroValue0
 t3 := Tryd.underlying3
 a3 := Tryd.isAgg3
 z3 := Tryd.sizeOf3
 v3 := Tryd.zeroValue3
 t9 := Tryd.underlying9
 a9 := Tryd.isAgg9
 z9 := Tryd.sizeOf9
 v9 := Tryd.zeroValue9
 t37 := Tryd.underlying80
 a37 := Tryd.isAgg80
 z37 := Tryd.sizeOf80
 v37 := Tryd.zeroValue80
 t70 := Tryd.underlying97
 a70 := Tryd.isAgg97
 z70 := Tryd.sizeOf97
 v70 := Tryd.zeroValue97
 t72 := Tryd.underlying99
 a72 := Tryd.isAgg99
 z72 := Tryd.sizeOf99
 v72 := Tryd.zeroValue99
 t127 := Tryd.underlying133
 a127 := Tryd.isAgg133
 z127 := Tryd.sizeOf133
 v127 := Tryd.zeroValue133
theorem extraB : Builder.Extra Tryd.prog renB where
 sizeBuilder := by kernel_rfl
 liesBuilder := by kernel_rfl
 t5 := Tryd.underlying5
 a5 := Tryd.isAgg5
 z5 := Tryd.sizeOf5
 v5 := Tryd.zeroValue5
 infoByte := by kernel_rfl
 cellsByte := by kernel_rfl
 sizeByte := by kernel_rfl
 neB5 := by decide
abbrev IsB (B b : Nat) (bs : List Value) (w : World) : Prop := Lib.IsBuilder 99 5 B b bs w
abbrev AtB (B b : Nat) (bs : List Value) (w : World) : Prop := Lib.BuilderAt 99 5 B b (.pointer (some ⟨b, 0, none⟩)) bs w
theorem string_calls (B b : Nat) (l : List UInt8) (w : World) (h : IsB B b (Lib.byteCells l) w) (hB : B ≤ w.heap.size) :
  Calls Tryd.prog 51 #[.pointer (some ⟨b, 0, none⟩)] w fun e w' => e = .returned (.string ⟨l.toArray⟩) ∧ Below B w w' := Any.Builder_String_any lays169 extraB B b l w h hB
theorem un97 : Tryd.prog.underlying 97 = some (.pointer 99) := by kernel_rfl
theorem un148 : Tryd.prog.underlying 148 = some .unsafePointer := by kernel_rfl
set_option maxHeartbeats 1000000 in
set_option maxRecDepth 100000 in
theorem check_used (b : Nat) (w : World) (h0 : w.cell? ⟨b, 0, none⟩ = some (.pointer (some ⟨b, 0, none⟩))) :
  Calls Tryd.prog 73 #[.pointer (some ⟨b, 0, none⟩)] w fun e w' => e = .returned (.tuple #[]) ∧ w' = w := by
 obtain ⟨j, hj, _⟩ := Option.map_eq_some_iff.1 extraB.sizeBuilder
 have hn := Lib.run_neq_ptr_same (P := Tryd.prog) w ⟨b, 0, none⟩ un97 hj
 clear hj
 go_enter Tryd.func73, Tryd.ntmps73
 go_wp2_with fail
 go_end0
 exact ⟨rfl, rfl⟩
set_option maxHeartbeats 1000000 in
set_option maxRecDepth 100000 in
theorem check_fresh (b : Nat) (w : World) (h0 : w.cell? ⟨b, 0, none⟩ = some (.pointer none)) (hsh : w.shape? b = some (99, 2)) (hfz : w.frozen? ⟨b, 0, none⟩ = false) :
  Calls Tryd.prog 73 #[.pointer (some ⟨b, 0, none⟩)] w fun e w' => e = .returned (.tuple #[]) ∧ w' = w.setCell ⟨b, 0, none⟩ (.pointer (some ⟨b, 0, none⟩)) := by
 obtain ⟨j, hj, hjs⟩ := Option.map_eq_some_iff.1 extraB.sizeBuilder
 have h1 := Lib.run_to_unsafe (P := Tryd.prog) w ⟨b, 0, none⟩ un97 un148 hj (by rw [hjs]; decide) hsh (Nat.zero_lt_succ 1)
 have h2 := Lib.run_from_unsafe (P := Tryd.prog) w ⟨b, 0, none⟩ un148 un97 hj hsh extraB.liesBuilder
 clear hj hjs
 go_enter Tryd.func73, Tryd.ntmps73
 go_wp2_with fail
 rw [run_callFunc_extern Tryd.func87 (by kernel_rfl) (by kernel_rfl) (by kernel_rfl) (e := Extern.AbiNoEscape.same) (by kernel_rfl), Lib.run_noEscape]
 simp only [Result.andThen]
 rw [Oper.upon_value]
 go_wp2_with fail
 go_end0
 exact ⟨rfl, rfl⟩
theorem check_calls (B b : Nat) (bs : List Value) (w : World) (h : IsB B b bs w) :
  Calls Tryd.prog 73 #[.pointer (some ⟨b, 0, none⟩)] w fun e w' => e = .returned (.tuple #[]) ∧ AtB B b bs w' ∧ Below B w w' := by
 rcases h with h | h
 ·refine (check_fresh b w h.cell0 h.shape h.frozen0).mono ?_
  rintro e w' ⟨rfl, rfl⟩
  exact ⟨rfl, h.used _, (Below.refl B w).setCell (p := ⟨b, 0, none⟩) h.1 _⟩
 ·refine (check_used b w h.cell0).mono ?_
  rintro e w' ⟨rfl, rfl⟩
  exact ⟨rfl, h, Below.refl B _⟩
theorem infoB : (Tryd.prog.info? 5).map (fun i => (i.zero, i.size, i.bytes)) = some (some (.int .u8 0), 1, 1) := by kernel_rfl
theorem at_grown {B b : Nat} {bs : List Value} {w1 w2 : World} {v : Value} {row : Option Nat} (hb : w1.heap[b]? = some (.cells #[.pointer (some ⟨b, 0, none⟩), v] 99 (0, 0))) (hg : w1.grownBy w2 row) (hne : row ≠ some b) : w2.heap[b]? = some (.cells #[.pointer (some ⟨b, 0, none⟩), v] 99 (0, 0)) :=
 (hg.block b (Array.getElem?_eq_some_iff.1 hb).1 (fun e => hne e.symm)).trans hb
set_option maxHeartbeats 2000000 in
set_option maxRecDepth 100000 in
theorem writeByte_calls (B b : Nat) (bs : List Value) (c : Int) (w : World) (h : IsB B b bs w) (hlen : bs.length + 1 ≤ 140737488355328) (hBw : B ≤ w.heap.size) :
  Calls Tryd.prog 49 #[.pointer (some ⟨b, 0, none⟩), .int .u8 c] w fun e w' => e = .returned .nilIface ∧ AtB B b (bs ++ [.int .u8 c]) w' ∧ Below B w w' := by
 obtain ⟨i0, hi, hz0, hz1, hz2⟩ := info_parts infoB
 have HI := Aside0.mk (And.intro hi (And.intro hz0 (And.intro hz1 hz2)))
 have HH := Aside0.mk h
 clear hi hz0 hz1 hz2 h
 go_enter Tryd.func49, Tryd.ntmps49
 go_wp2_with (first
  | (go_at_call 73; refine (check_calls B b bs _ HH.out).mono ?_; rintro e w1 ⟨rfl, ⟨hB, v, hbk, hown, hne⟩, hb1⟩; have c0 : w1.cell? ⟨b, 0, none⟩ = some (.pointer (some ⟨b, 0, none⟩)) := (by rw [Lib.cell_of_heap hbk]; rfl); have c1 : w1.cell? ⟨b, 1, none⟩ = some v := (by rw [Lib.cell_of_heap hbk]; rfl); have S1 := Aside0.mk (And.intro hB (And.intro hbk (And.intro hown (And.intro hne hb1)))); clear hB hbk hown hne hb1)
  | ((with_reducible refine gate_builtin (b := .append) (xs := #[.tmp 11, .tmp 13]) rfl ?_); at_builtin; refine wpList_append_own _ rfl _ _ 80 rfl B 5 i0 (.int .u8 0) 1 1 un80 HI.out.1 HI.out.2.1 HI.out.2.2.1 HI.out.2.2.2 rfl (by decide) _ _ _ rfl (S1.out.2.2.1.alloc _) ⟨w1.heap.size, 0, none⟩ 1 1 [.int .u8 c] rfl rfl (cell_one_new _ _ _) (by simp [Value.oneCell']) (by unfold maxLen; omega) (by omega) (by have := S1.out.2.2.2.2.size; rw [World.size_alloc]; omega) ?_; intro v2 w2 hown2 hgrow _; have hb2 := at_grown (B := B) (bs := bs) (w1 := w1.alloc (.cells #[.int .u8 c] 5)) (blk_below S1.out.2.1 ((Below.refl _ w1).alloc (Nat.le_refl _) _)) hgrow S1.out.2.2.2.1; have d0 : w2.cell? ⟨b, 0, none⟩ = some (.pointer (some ⟨b, 0, none⟩)) := (by rw [Lib.cell_of_heap hb2]; rfl); have d1 : w2.cell? ⟨b, 1, none⟩ = some v := (by rw [Lib.cell_of_heap hb2]; rfl); have f1 : w2.frozen? ⟨b, 1, none⟩ = false := Lib.frozen_of_heap hb2 1; have S2 := Aside0.mk (And.intro hb2 (And.intro hown2 hgrow)); clear hb2 hgrow; obtain ⟨A2, c2, rfl⟩ := own_slice hown2; clear hown2))
 go_ret
 refine ⟨rfl, ?_, ?_⟩
 ·exact Lib.BuilderAt.put (T := 99) (e := 5) S1.out.1 S2.out.1 (bs' := bs ++ [.int .u8 c]) (by simpa using S2.out.2.1) (by decide)
 ·have hb1 := S1.out.2.2.2.2
  exact ((hb1.alloc (by have := hb1.size; omega) _).grown S2.out.2.2 (by have := hb1.size; rw [World.size_alloc]; omega) (fun k hk => (S1.out.2.2.1.lt k hk).1)).setCell (p := ⟨b, 1, none⟩) S1.out.1 _
set_option maxHeartbeats 2000000 in
set_option maxRecDepth 100000 in
theorem writeString_calls (B b : Nat) (bs : List Value) (s : ByteArray) (w : World) (h : IsB B b bs w) (hlen : bs.length + s.size ≤ 140737488355328) (hBw : B ≤ w.heap.size) :
  Calls Tryd.prog 50 #[.pointer (some ⟨b, 0, none⟩), .string s] w fun e w' => (∃ v, e = .returned v) ∧ AtB B b (bs ++ Lib.strCells s) w' ∧ Below B w w' := by
 obtain ⟨i0, hi, hz0, hz1, hz2⟩ := info_parts infoB
 have HI := Aside0.mk (And.intro hi (And.intro hz0 (And.intro hz1 hz2)))
 have HH := Aside0.mk h
 clear hi hz0 hz1 hz2 h
 go_enter Tryd.func50, Tryd.ntmps50
 go_wp2_with (first
  | (go_at_call 73; refine (check_calls B b bs _ HH.out).mono ?_; rintro e w1 ⟨rfl, ⟨hB, v, hbk, hown, hne⟩, hb1⟩; have c0 : w1.cell? ⟨b, 0, none⟩ = some (.pointer (some ⟨b, 0, none⟩)) := (by rw [Lib.cell_of_heap hbk]; rfl); have c1 : w1.cell? ⟨b, 1, none⟩ = some v := (by rw [Lib.cell_of_heap hbk]; rfl); have S1 := Aside0.mk (And.intro hB (And.intro hbk (And.intro hown (And.intro hne hb1)))); clear hB hbk hown hne hb1)
  | ((with_reducible refine gate_builtin (b := .append) (xs := #[.tmp 12, .tmp 13]) rfl ?_); at_builtin; refine Lib.wpList_append_own_string _ rfl _ _ 80 9 rfl B 5 i0 un80 un9 HI.out.1 HI.out.2.1 HI.out.2.2.1 HI.out.2.2.2 _ _ _ rfl S1.out.2.2.1 s rfl (by unfold maxLen; omega) (by omega) (by have := S1.out.2.2.2.2.size; omega) ?_; intro v2 w2 hown2 hgrow _; have hb2 := at_grown (B := B) (bs := bs) S1.out.2.1 hgrow S1.out.2.2.2.1; have d0 : w2.cell? ⟨b, 0, none⟩ = some (.pointer (some ⟨b, 0, none⟩)) := (by rw [Lib.cell_of_heap hb2]; rfl); have d1 : w2.cell? ⟨b, 1, none⟩ = some v := (by rw [Lib.cell_of_heap hb2]; rfl); have f1 : w2.frozen? ⟨b, 1, none⟩ = false := Lib.frozen_of_heap hb2 1; have S2 := Aside0.mk (And.intro hb2 (And.intro hown2 hgrow)); clear hb2 hgrow; obtain ⟨A2, c2, rfl⟩ := own_slice hown2; clear hown2))
 go_ret2
 refine ⟨⟨_, rfl⟩, ?_, ?_⟩
 ·exact Lib.BuilderAt.put (T := 99) (e := 5) S1.out.1 S2.out.1 (bs' := bs ++ Lib.strCells s) (by simpa [Lib.strCells_length] using S2.out.2.1) (by decide)
 ·have hb1 := S1.out.2.2.2.2
  exact (hb1.grown S2.out.2.2 (by have := hb1.size; omega) (fun k hk => (S1.out.2.2.1.lt k hk).1)).setCell (p := ⟨b, 1, none⟩) S1.out.1 _
end Go.Proofs.YtiddiboclfpklaaDoor.Tx
namespace Go.Proofs.YtiddiboclfpklaaDoor.Tx
open Go.RowKit Go.Shelf Go.Maps Go.Proofs.YtiddiboclfpklaaDoorW.PrintWords
set_option linter.unusedVariables false
def sepB (l : List ByteArray) : List UInt8 := if l.isEmpty then [] else [32]
def lineB : List ByteArray → List UInt8
 | [] => []
 | x :: l => x.data.toList ++ l.flatMap fun y => 32 :: y.data.toList
def textB (ls : List (List ByteArray)) : List UInt8 := ls.flatMap fun l => lineB l ++ [10]
def okL (l : List ByteArray) : Bool := !l.isEmpty && l.all plainF
def joinF (ls : List (List ByteArray)) : ByteArray × Int := if ls.all okL then (⟨(textB ls).toArray⟩, 0) else (⟨#[]⟩, 4)
theorem lineB_snoc (l : List ByteArray) (x : ByteArray) : lineB (l ++ [x]) = lineB l ++ (sepB l ++ x.data.toList) := by
 cases l with
 | nil => simp [lineB, sepB]
 | cons a l => simp [lineB, sepB, List.flatMap_append]
theorem textB_snoc (ls : List (List ByteArray)) (l : List ByteArray) : textB (ls ++ [l]) = textB ls ++ (lineB l ++ [10]) := by
 simp [textB, List.flatMap_append]
theorem lineB_len : ∀ (a b : List ByteArray), (lineB a).length ≤ (lineB (a ++ b)).length
 | [], b => Nat.zero_le _
 | x :: a, b => by simp [lineB, List.flatMap_append]
theorem textB_len (a : List (List ByteArray)) (l : List ByteArray) (b : List (List ByteArray)) : (textB a).length + (lineB l).length + 1 ≤ (textB (a ++ l :: b)).length := by
 simp [textB, List.flatMap_append]; omega
theorem isB_below {B b : Nat} {bs : List Value} {w w1 : World} (h : IsB B b bs w) (hb : Below w.heap.size w w1) : IsB B b bs w1 := by
 have key : ∀ p, Lib.BuilderAt 99 5 B b p bs w → Lib.BuilderAt 99 5 B b p bs w1 := by
  rintro p ⟨hB, v, hbk, hown, hne⟩
  exact ⟨hB, v, blk_below hbk hb, own_move hown (fun k hk => hb.block k (own_lt hown k hk)), hne⟩
 exact h.imp (key _) (key _)
structure JoinSt (w wr : World) (bs : List UInt8) : Prop where
 is : IsB w.heap.size w.heap.size (Lib.byteCells bs) wr
 bel : Below w.heap.size w wr
theorem JoinSt.below {w wr w1 : World} {bs : List UInt8} (S : JoinSt w wr bs) (hb : Below wr.heap.size wr w1) : JoinSt w w1 bs := ⟨isB_below S.is hb, S.bel.trans (hb.mono S.bel.size)⟩
theorem JoinSt.wrote {w wr w1 : World} {bs cs : List UInt8} (S : JoinSt w wr bs) (h : AtB w.heap.size w.heap.size (Lib.byteCells cs) w1) (hb : Below w.heap.size wr w1) : JoinSt w w1 cs := ⟨.inr h, S.bel.trans hb⟩
theorem byteCells_snoc (bs : List UInt8) (c : UInt8) : Lib.byteCells bs ++ [.int .u8 (c.toNat : Int)] = Lib.byteCells (bs ++ [c]) := by rw [Lib.byteCells_append]; rfl
theorem byteCells_str (bs : List UInt8) (s : ByteArray) : Lib.byteCells bs ++ Lib.strCells s = Lib.byteCells (bs ++ s.data.toList) := by rw [Lib.byteCells_append, Lib.strCells_eq]
theorem JoinSt.writeByte {w wr : World} {bs : List UInt8} (S : JoinSt w wr bs) (c : UInt8) (h : bs.length + 1 ≤ 140737488355328) :
  Calls Tryd.prog 49 #[.pointer (some ⟨w.heap.size, 0, none⟩), .int .u8 (c.toNat : Int)] wr fun e w1 => e = .returned .nilIface ∧ JoinSt w w1 (bs ++ [c]) := by
 refine (writeByte_calls w.heap.size w.heap.size _ (c.toNat : Int) wr S.is (by rw [Lib.byteCells_length]; exact h) S.bel.size).mono ?_
 rintro e w1 ⟨rfl, h1, h2⟩
 rw [byteCells_snoc] at h1
 exact ⟨rfl, S.wrote h1 h2⟩
theorem JoinSt.writeString {w wr : World} {bs : List UInt8} (S : JoinSt w wr bs) (s : ByteArray) (h : bs.length + s.size ≤ 140737488355328) :
  Calls Tryd.prog 50 #[.pointer (some ⟨w.heap.size, 0, none⟩), .string s] wr fun e w1 => (∃ v, e = .returned v) ∧ JoinSt w w1 (bs ++ s.data.toList) := by
 refine (writeString_calls w.heap.size w.heap.size _ s wr S.is (by rw [Lib.byteCells_length]; exact h) S.bel.size).mono ?_
 rintro e w1 ⟨hv, h1, h2⟩
 rw [byteCells_str] at h1
 exact ⟨hv, S.wrote h1 h2⟩
set_option maxHeartbeats 2000000 in
set_option maxRecDepth 100000 in
theorem join_calls (ls : List (List ByteArray)) (A : Option Addr) (c : Nat) (w : World) (hr : Kd.C (Kd.slice 9 Kd.string) w A ls.length ls) (hc : ls.length ≤ c) (hx : ∀ l ∈ ls, ∀ x ∈ l, x.size ≤ 16777216) (hT : (textB ls).length ≤ 16777216) :
  Calls Tryd.prog 21 #[.slice A ls.length c] w fun e w' => e = .returned (.tuple #[.string (joinF ls).1, .int .i64 (joinF ls).2]) ∧ Below w.heap.size w w' := by
 have HR := Aside0.mk hr
 have HX := Aside0.mk hx
 have HT := Aside0.mk hT
 clear hr hx hT
 obtain ⟨n, hn⟩ : ∃ n, ls.length = n := ⟨_, rfl⟩
 rw [hn] at HR hc ⊢
 have HN := Aside0.mk hn
 clear hn
 have hn63 : n ≤ 9223372036854775807 := Kd.C_max HR.out
 go_enter Tryd.func21, Tryd.ntmps21
 go_wp2_with fail
 have I0 : Aside0 (JoinSt w (w.alloc (.cells #[.pointer none, .slice none 0 0] 99)) []) := ⟨⟨Lib.fresh_isBuilder 99 5 w, below_alloc (Below.refl _ _) _⟩⟩
 go_loopw [11] (fun i wr => ∃ t : Nat, t ≤ n ∧ i = .int .i64 (t : Int) ∧ Aside0 (JoinSt w wr (textB (ls.take t)) ∧ (ls.take t).all okL = true)) (fun i _ => n - (intOf i).toNat)
 case atStart => exact ⟨0, by omega, rfl, ⟨I0.out, rfl⟩⟩
 case round =>
  clear I0
  obtain ⟨t, ht, rfl, S⟩ := hrel
  by_cases hlt : t < n
  ·have hb5 : (0 : Int) ≤ (t : Int) := by omega
   have hb6 : (t : Int) < (n : Int) := by omega
   obtain ⟨ad, cs, rfl, _, ⟨Ae, ce, rfl, hce, hCe⟩, hcell⟩ := Kd.C_get HR.out [] (t : Int) hb5 hb6
   obtain ⟨l, hl⟩ : ∃ l, ls.getD t [] = l := ⟨_, rfl⟩
   rw [Int.toNat_natCast, hl] at hce hCe
   have hcw : w.cell? (ad.add t) = some (.slice Ae l.length ce) := by
    have h1 := hcell 0 (.slice Ae l.length ce) (by rw [Int.toNat_natCast, hl]; rfl)
    rw [Int.toNat_natCast, show t * (Kd.slice 9 Kd.string).sz + 0 = t from Nat.mul_one t] at h1
    exact h1
   have htl : t < ls.length := by rw [HN.out]; exact hlt
   have hle : ls[t] = l := by rw [← hl]; simp [List.getD_eq_getElem?_getD, htl]
   have hmem : l ∈ ls := by rw [← hle]; exact List.getElem_mem htl
   have htk : ls.take (t + 1) = ls.take t ++ [l] := by rw [List.take_succ_eq_append_getElem htl, hle]
   have hTl : (textB (ls.take t)).length + (lineB l).length + 1 ≤ 16777216 := by
    have h1 := textB_len (ls.take t) l (ls.drop (t + 1))
    rw [← List.singleton_append, ← List.append_assoc, ← htk, List.take_append_drop] at h1
    exact Nat.le_trans h1 HT.out
   have hbad : okL l = false → joinF ls = (⟨#[]⟩, 4) := by
    intro h0
    have : ls.all okL = false := by
     rw [List.all_eq_false]
     exact ⟨l, hmem, by rw [h0]; exact Bool.false_ne_true⟩
    rw [joinF, this, if_neg Bool.false_ne_true]
   have hcr := pw_cell_below S.out.1.bel hcw
   obtain ⟨X, hX⟩ : ∃ X, textB (ls.take t) = X := ⟨_, rfl⟩
   rw [hX] at hTl
   have hnx : textB (ls.take (t + 1)) = X ++ (lineB l ++ [10]) := by rw [htk, textB_snoc, hX]
   have hok : (ls.take (t + 1)).all okL = okL l := by rw [htk, List.all_append, S.out.2, Bool.true_and]; simp
   obtain ⟨m, hm⟩ : ∃ m, l.length = m := ⟨_, rfl⟩
   rw [hm] at hcr hce hCe
   have S0 : Aside0 (JoinSt w wr (X ++ lineB (l.take 0))) := ⟨by
    have h := S.out.1
    rw [hX] at h
    rw [List.take_zero]
    simpa [lineB] using h⟩
   have HE := Aside0.mk (And.intro hCe (And.intro (HX.out l hmem) (And.intro hTl (And.intro hbad (And.intro hnx hok)))))
   have HM := Aside0.mk hm
   have hm63 : m ≤ 9223372036854775807 := Kd.C_max hCe
   clear hcell hcw hle hmem htk hTl hbad hX hnx hok hm hCe hl htl S
   go_wp2_with fail
   rename World => wo
   go_loopw [17] (fun i wr => ∃ u : Nat, u ≤ m ∧ i = .int .i64 (u : Int) ∧ Aside0 (JoinSt w wr (X ++ lineB (l.take u)) ∧ (l.take u).all plainF = true)) (fun i _ => m - (intOf i).toNat)
   case atStart => exact ⟨0, by omega, rfl, ⟨S0.out, rfl⟩⟩
   case round =>
    clear S0 hcr
    obtain ⟨u, hu, rfl, S⟩ := hrel
    by_cases hlu : u < m
    ·have hu5 : (0 : Int) ≤ (u : Int) := by omega
     have hu6 : (u : Int) < (m : Int) := by omega
     obtain ⟨ad2, cs2, rfl, _, hk2, hcell2⟩ := Kd.C_get HE.out.1 ByteArray.empty (u : Int) hu5 hu6
     rw [Int.toNat_natCast] at hk2 hcell2
     obtain ⟨x, hx⟩ : ∃ x, l.getD u ByteArray.empty = x := ⟨_, rfl⟩
     rw [hx] at hk2
     obtain rfl : cs2 = [.string x] := hk2
     have hcx : wr.cell? (ad2.add u) = some (.string x) := by
      refine pw_cell_below S.out.1.bel ?_
      have h1 := hcell2 0 (.string x) rfl
      rw [show u * Kd.string.sz + 0 = u from Nat.mul_one u] at h1
      exact h1
     have hul : u < l.length := by rw [HM.out]; exact hlu
     have hxe : l[u] = x := by rw [← hx]; simp [List.getD_eq_getElem?_getD, hul]
     have hxm : x ∈ l := by rw [← hxe]; exact List.getElem_mem hul
     have hxs : x.size ≤ 16777216 := HE.out.2.1 x hxm
     have hxl : x.data.toList.length = x.size := data_length x
     have htk2 : l.take (u + 1) = l.take u ++ [x] := by rw [List.take_succ_eq_append_getElem hul, hxe]
     have hlen : (lineB (l.take u)).length + ((sepB (l.take u)).length + x.size) ≤ (lineB l).length := by
      have h1 := lineB_len (l.take (u + 1)) (l.drop (u + 1))
      rw [List.take_append_drop, htk2, lineB_snoc, List.length_append, List.length_append, hxl] at h1
      exact h1
     have hsep : sepB (l.take u) = if u = 0 then [] else [32] := by
      unfold sepB
      by_cases h0 : u = 0
      ·subst h0; rfl
      ·rw [if_neg h0, if_neg]
       intro h
       have := congrArg List.length (List.isEmpty_iff.1 h)
       rw [List.length_take, Nat.min_eq_left (by omega)] at this
       exact h0 this
     have hnl : lineB (l.take (u + 1)) = lineB (l.take u) ++ ((if u = 0 then [] else [32]) ++ x.data.toList) := by rw [htk2, lineB_snoc, hsep]
     have hnp : (l.take (u + 1)).all plainF = plainF x := by rw [htk2, List.all_append, S.out.2, Bool.true_and]; simp
     have hpx : plainF x = false → okL l = false := by
      intro h0
      have : l.all plainF = false := by
       rw [List.all_eq_false]
       exact ⟨x, hxm, by rw [h0]; exact Bool.false_ne_true⟩
      rw [okL, this, Bool.and_false]
     obtain ⟨Y, hY⟩ : ∃ Y, X ++ lineB (l.take u) = Y := ⟨_, rfl⟩
     have hYl : Y.length + ((if u = 0 then ([] : List UInt8) else [32]).length + x.size) + 1 ≤ 16777216 := by
      rw [← hY, List.length_append, ← hsep]
      have := HE.out.2.2.1
      omega
     have hnY : X ++ lineB (l.take (u + 1)) = Y ++ ((if u = 0 then [] else [32]) ++ x.data.toList) := by rw [hnl, ← hY, List.append_assoc]
     have S1 : Aside0 (JoinSt w wr Y) := ⟨by rw [← hY]; exact S.out.1⟩
     have HU := Aside0.mk (And.intro hYl (And.intro hnY (And.intro hnp hpx)))
     clear hcell2 hul hxe hxm hxl htk2 hlen hsep hnl hnp hpx hY hYl hnY hx S
     have hxs2 : x.size ≤ 140737488355328 := by omega
     cases hp : plainF x with
     | false =>
      have HP := Aside0.mk hp
      clear hp
      go_wp2_with ((go_at_call 47; refine (plain_calls x hxs2 _).mono ?_; rintro e w1 ⟨rfl, hB⟩; rw [HP.out]; have S2 := Aside0.mk (S1.out.below hB); clear hB))
      go_ret2
      exact ⟨by rw [HE.out.2.2.2.1 (HU.out.2.2.2 HP.out)]; rfl, S2.out.bel⟩
     | true =>
      have HP := Aside0.mk hp
      clear hp
      by_cases h0 : u = 0
      ·have hnY := HU.out.2.1
       have hYl := HU.out.1
       rw [if_pos h0] at hnY hYl
       rw [List.nil_append] at hnY
       have HU2 := Aside0.mk (And.intro hnY hYl)
       clear hnY hYl
       have hg : decide (0 < (u : Int)) = false := decide_eq_false (by omega)
       have hg2 : decide (0 < u) = false := decide_eq_false (by omega)
       have hg3 : ¬ (0 < u) := by omega
       subst h0
       rw [Addr.add_zero'] at hcx
       go_wp2_with (first
        | (go_at_call 47; refine (plain_calls x hxs2 _).mono ?_; rintro e w1 ⟨rfl, hB⟩; rw [HP.out]; have S2 := Aside0.mk (S1.out.below hB); clear hB)
        | (go_at_call 50; refine (S2.out.writeString x (by have := HU2.out.2; simp at this; omega)).mono ?_; rintro e w2 ⟨⟨v2, rfl⟩, hS⟩; have S3 := Aside0.mk hS; clear hS))
       refine ⟨⟨0 + 1, by omega, by go_num, ⟨by rw [HU2.out.1]; exact S3.out, by rw [HU.out.2.2.1, HP.out]⟩⟩, ?_⟩
       simp only [intOf]; omega
      ·have hnY := HU.out.2.1
       have hYl := HU.out.1
       rw [if_neg h0] at hnY hYl
       have HU2 := Aside0.mk (And.intro hnY hYl)
       clear hnY hYl
       have hg : decide (0 < (u : Int)) = true := decide_eq_true (by omega)
       go_wp2_with (first
        | (go_at_call 47; refine (plain_calls x hxs2 _).mono ?_; rintro e w1 ⟨rfl, hB⟩; rw [HP.out]; have S2 := Aside0.mk (S1.out.below hB); clear hB)
        | (go_at_call 49; refine (S2.out.writeByte 32 (by have := HU2.out.2; omega)).mono ?_; rintro e w2 ⟨rfl, hS⟩; have S3 := Aside0.mk hS; clear hS)
        | (go_at_call 50; refine (S3.out.writeString x (by have := HU2.out.2; rw [List.length_append]; simp at this ⊢; omega)).mono ?_; rintro e w3 ⟨⟨v2, rfl⟩, hS⟩; have S4 := Aside0.mk hS; clear hS))
       refine ⟨⟨u + 1, by omega, by go_num, ⟨by rw [HU2.out.1, ← List.append_assoc]; exact S4.out, by rw [HU.out.2.2.1, HP.out]⟩⟩, ?_⟩
       simp only [intOf]; omega
    ·obtain rfl : u = m := by omega
     have hfull : l.take u = l := List.take_of_length_le (by rw [HM.out]; exact Nat.le_refl _)
     have S1 : Aside0 (JoinSt w wr (X ++ lineB l) ∧ l.all plainF = true) := ⟨by have h := S.out; rw [hfull] at h; exact h⟩
     clear S hfull
     by_cases h0 : u = 0
     ·have HB : Aside0 (okL l = false) := ⟨by
       have : l = [] := List.eq_nil_of_length_eq_zero (by rw [HM.out, h0])
       rw [this]; rfl⟩
      have hg : ((u : Int) == 0) = true := beq_iff_eq.2 (by omega)
      have hg2 : decide ((u : Int) = 0) = true := decide_eq_true (by omega)
      have hg3 : (u : Int) = 0 := by omega
      subst h0
      go_wp2_with fail
      go_ret2
      exact ⟨by rw [HE.out.2.2.2.1 HB.out]; rfl, S1.out.1.bel⟩
     ·have HB : Aside0 (okL l = true) := ⟨by
       rw [okL, S1.out.2, Bool.and_true]
       cases hq : l with
       | nil => rw [← HM.out, hq] at h0; exact absurd rfl h0
       | cons a r => rfl⟩
      have hg : ((u : Int) == 0) = false := beq_eq_false_iff_ne.2 (by omega)
      have hg2 : decide ((u : Int) = 0) = false := decide_eq_false (by omega)
      have hg3 : ¬ (u : Int) = 0 := by omega
      go_wp2_with ((go_at_call 49; refine (S1.out.1.writeByte 10 (by rw [List.length_append]; have := HE.out.2.2.1; omega)).mono ?_; rintro e w2 ⟨rfl, hS⟩; have S3 := Aside0.mk hS; clear hS))
      refine ⟨⟨t + 1, by omega, by go_num, ⟨by rw [HE.out.2.2.2.2.1, ← List.append_assoc]; exact S3.out, by rw [HE.out.2.2.2.2.2, HB.out]⟩⟩, ?_⟩
      simp only [intOf]; omega
  ·obtain rfl : t = n := by omega
   have hfull : ls.take t = ls := List.take_of_length_le (by rw [HN.out]; exact Nat.le_refl _)
   have S1 : Aside0 (JoinSt w wr (textB ls) ∧ ls.all okL = true) := ⟨by have h := S.out; rw [hfull] at h; exact h⟩
   have HJ : Aside0 (joinF ls = (⟨(textB ls).toArray⟩, 0)) := ⟨by rw [joinF, S1.out.2, if_pos rfl]⟩
   clear S hfull
   go_wp2_with ((go_at_call 51; refine (string_calls w.heap.size w.heap.size (textB ls) _ S1.out.1.is S1.out.1.bel.size).mono ?_; rintro e w2 ⟨rfl, hB⟩; have S2 := Aside0.mk (S1.out.1.bel.trans hB); clear hB))
   go_ret2
   exact ⟨by rw [HJ.out]; rfl, S2.out⟩
end Go.Proofs.YtiddiboclfpklaaDoor.Tx
namespace Go.Proofs.YtiddiboclfpklaaDoor.Tz
open Go.RowKit Go.Proofs.YtiddiboclfpklaaDoorW.PrintWords Go.Proofs.YtiddiboclfpklaaDoor.PScriptReads Go.Proofs.YtiddiboclfpklaaDoor.Tx
set_option linter.unusedVariables false
def valueF (v : S107) : ByteArray := if v.f1.size = 0 then strOfNums (decF v.f0) else ⟨#[58]⟩ ++ hexF v.f1
theorem hexF_size (s : ByteArray) : (hexF s).size ≤ 2 * s.size + 1 := by
 unfold hexF
 split
 ·exact Nat.le_add_left _ _
 ·rw [strOf_size, hexL_length, bytesOf_length]; omega
set_option maxHeartbeats 2000000 in
set_option maxRecDepth 100000 in
theorem value_calls (v : S107) (hn : I64 v.f0) (hs : v.f1.size ≤ 16777216) (w : World) :
  Calls Tryd.prog 74 #[.agg #[.int .i64 v.f0, .string v.f1]] w fun e w' => e = .returned (.string (valueF v)) ∧ Below w.heap.size w w' := by
 obtain ⟨n, s⟩ := v
 by_cases h0 : s.size = 0
 ·obtain rfl : s = ⟨#[]⟩ := ByteArray.ext (Array.eq_empty_of_size_eq_zero h0)
  have HV : Aside0 (valueF ⟨n, ⟨#[]⟩⟩ = strOfNums (decF n)) := ⟨rfl⟩
  obtain ⟨d, hd⟩ : ∃ d, strOfNums (decF n) = d := ⟨_, rfl⟩
  rw [hd] at HV
  have HD : Aside0 (∀ W, Calls Tryd.prog 12 #[.int .i64 n] W fun e w' => e = .returned (.string d) ∧ Below W.heap.size W w') := ⟨fun W => by rw [← hd]; exact dec_calls n hn W⟩
  clear hd h0 hs
  have HB := Aside0.mk (Below.alloc (Below.refl w.heap.size w) (Nat.le_refl _) (.cells #[.int .i64 n, .string ⟨#[]⟩] 107))
  go_enter Tryd.func74, Tryd.ntmps74
  go_wp2_with ((go_at_call 12; refine (HD.out _).mono ?_; rintro e w1 ⟨rfl, hB⟩; have S1 := Aside0.mk (HB.out.trans (hB.mono HB.out.size)); clear hB))
  go_ret
  exact ⟨by rw [HV.out]; rfl, S1.out⟩
 ·replace hs : s.size ≤ 16777216 := hs
  have HV : Aside0 (valueF ⟨n, s⟩ = ⟨#[58]⟩ ++ hexF s) := ⟨if_neg h0⟩
  have hz := hexF_size s
  obtain ⟨d, hd⟩ : ∃ d, hexF s = d := ⟨_, rfl⟩
  rw [hd] at HV hz
  have HD : Aside0 (∀ W, Calls Tryd.prog 17 #[.string s] W fun e w' => e = .returned (.string d) ∧ Below W.heap.size W w') := ⟨fun W => by rw [← hd]; exact hex_calls s hs W⟩
  have hne : s.toList.isEmpty = false := by
   rw [Lib.toList_data]
   have hl : s.data.toList.length = s.size := data_length s
   cases hq : s.data.toList with
   | nil => rw [hq] at hl; exact absurd hl.symm h0
   | cons a l => rfl
  have hcat : 1 + d.size ≤ 9223372036854775807 := by omega
  clear hd hz
  have HB := Aside0.mk (Below.alloc (Below.refl w.heap.size w) (Nat.le_refl _) (.cells #[.int .i64 n, .string s] 107))
  go_enter Tryd.func74, Tryd.ntmps74
  go_wp2_with ((go_at_call 17; refine (HD.out _).mono ?_; rintro e w1 ⟨rfl, hB⟩; have S1 := Aside0.mk (HB.out.trans (hB.mono HB.out.size)); clear hB))
  go_ret
  exact ⟨by rw [HV.out]; rfl, S1.out⟩
end Go.Proofs.YtiddiboclfpklaaDoor.Tz
namespace Go.Proofs.YtiddiboclfpklaaDoor.Tz
open Go.RowKit Go.Proofs.YtiddiboclfpklaaDoorW.PrintWords Go.Proofs.YtiddiboclfpklaaDoor.PScriptReads Go.Proofs.YtiddiboclfpklaaDoor.Tx
set_option linter.unusedVariables false
theorem un84 : Tryd.prog.underlying 84 = some (.slice 9) := by kernel_rfl
def decW (n : Int) : ByteArray := strOfNums (decF n)
def lineA (a : S66) : List ByteArray :=
 if a.f1 then ⟨#[99, 117, 116]⟩ :: decW a.f3 :: a.f4.map decW
 else if a.f2 then [⟨#[109, 111, 117, 110, 116]⟩]
 else wordF a.f0.f0 :: (if a.f0.f0 = 1 then [decW a.f0.f1] else if a.f0.f0 = 2 then [hexF a.f0.f2]
  else if a.f0.f0 = 11 ∨ a.f0.f0 = 12 ∨ a.f0.f0 = 13 then decW a.f0.f3.f0 :: decW a.f0.f1 :: a.f0.f3.f1.map valueF else [])
structure LineSt (w wr : World) (cs : Array Value) (v : Value) (L : List ByteArray) : Prop where
 own : wr.ownsRow w.heap.size 9 1 v L.length (encs Value.string L)
 box : wr.heap[w.heap.size]? = some (.cells cs 66 (0, 0))
 bel : Below w.heap.size w wr
theorem lit_readsS (W : World) (xs : List ByteArray) (h : xs.length ≤ 9223372036854775807) : ReadsOf Value.string ByteArray.empty (W.alloc (.cells (encs Value.string xs).toArray 9)) (some ⟨W.heap.size, 0, none⟩) xs.length xs := by
 refine ⟨rfl, h, fun _ => ⟨_, rfl, fun j hj => ?_⟩⟩
 rw [add_plain, blk_cell (blk_new W _) j]
 simp [encs, hj]
theorem LineSt.after {w wr w2 : World} {cs : Array Value} {v v2 : Value} {L ys : List ByteArray} (S : LineSt w wr cs v L) (o : Obj) (ho : w2.ownsRow w.heap.size 9 1 v2 (L ++ ys).length (encs Value.string (L ++ ys))) (hb : Below w.heap.size w w2)
  (hg : (wr.alloc o).grownBy w2 v.ownBlock) : LineSt w w2 cs v2 (L ++ ys) :=
 ⟨ho, blk_grown (blk_alloc S.box o) hg (own_ne S.own S.box (by decide)), hb⟩
theorem LineSt.below {w wr w2 : World} {cs : Array Value} {v : Value} {L : List ByteArray} (S : LineSt w wr cs v L) (hb : Below wr.heap.size wr w2) : LineSt w w2 cs v L :=
 ⟨own_move S.own (fun k hk => hb.block k (own_lt S.own k hk)), blk_below S.box hb, S.bel.trans (hb.mono S.bel.size)⟩
theorem LineSt.lit (w wr : World) (cs : Array Value) (L : List ByteArray) (h : L.length ≤ 9223372036854775807) (hbox : wr.heap[w.heap.size]? = some (.cells cs 66 (0, 0))) (hb : Below w.heap.size w wr) :
  LineSt w (wr.alloc (.cells (encs Value.string L).toArray 9)) cs (.slice (some ⟨wr.heap.size, 0, none⟩) L.length L.length) L :=
 ⟨own_lit_of wr w.heap.size 9 L hb.size h, blk_alloc hbox _, below_alloc hb _⟩
theorem LineSt.made {w wr : World} {cs : Array Value} {v : Value} {L : List ByteArray} (S : LineSt w wr cs v L) : Kd.R Kd.string 9 wr w.heap.size (fun _ => True) v L :=
 Kd.R_of_own (enc := Value.string) (h1 := fun _ => rfl) S.own (fun _ _ => trivial)
end Go.Proofs.YtiddiboclfpklaaDoor.Tz
namespace Go.Proofs.YtiddiboclfpklaaDoor.Tz
open Go.RowKit Go.Proofs.YtiddiboclfpklaaDoorW.PrintWords Go.Proofs.YtiddiboclfpklaaDoor.PScriptReads Go.Proofs.YtiddiboclfpklaaDoor.Tx
set_option linter.unusedVariables false
theorem un138 : Tryd.prog.underlying 138 = some (.slice 3) := by kernel_rfl
theorem info3 : (Tryd.prog.info? 3).map (fun i => (i.zero, i.size, i.bytes)) = some (some (.int .i64 0), 1, 8) := by kernel_rfl
def isNum (s : ByteArray) : Bool := decide ((readU s).2 = 0)
def numOf (s : ByteArray) : Int := (readU s).1
def NumsPost (w : World) (l : List ByteArray) (e : Ending) (w' : World) : Prop :=
 ((l.all isNum = true ∧ ∃ v, e = .returned (.tuple #[v, .bool true]) ∧ Kd.R (Kd.int .i64) 3 w' w.heap.size (fun _ => True) v (l.map numOf)) ∨ (l.all isNum = false ∧ e = .returned (.tuple #[.slice none 0 0, .bool false]))) ∧ Below w.heap.size w w'
def NumsSt (w wr : World) (v : Value) (ns : List Int) : Prop := Kd.R (Kd.int .i64) 3 wr w.heap.size (fun _ => True) v ns ∧ Below w.heap.size w wr
set_option maxHeartbeats 4000000 in
set_option maxRecDepth 100000 in
theorem numbers_calls (l : List ByteArray) (A : Option Addr) (c : Nat) (w : World) (hr : Kd.C Kd.string w A l.length l) (hx : ∀ x ∈ l, x.size ≤ 16777216) (hl : l.length ≤ 16777216) :
  Calls Tryd.prog 78 #[.slice A l.length c] w (NumsPost w l) := by
 have HR := Aside0.mk hr
 have HX := Aside0.mk hx
 clear hr hx
 obtain ⟨N, hN⟩ : ∃ N, l.length = N := ⟨_, rfl⟩
 rw [hN] at HR hl ⊢
 have HN := Aside0.mk hN
 clear hN
 have S0 : Aside0 (NumsSt w w (.slice none 0 0) ((l.take 0).map numOf) ∧ (l.take 0).all isNum = true) := ⟨⟨Kd.R_nil _ _ _ _ _, Below.refl _ _⟩, rfl⟩
 go_enter Tryd.func78, Tryd.ntmps78
 go_wp2_with fail
 go_loopw [4, 11] (fun v i wr => ∃ t : Nat, t ≤ N ∧ i = .int .i64 (t : Int) ∧ Aside0 (NumsSt w wr v ((l.take t).map numOf) ∧ (l.take t).all isNum = true)) (fun _ i _ => N - (intOf i).toNat)
 case atStart => exact ⟨0, by omega, rfl, S0⟩
 case round =>
  clear S0
  obtain ⟨t, ht, rfl, S⟩ := hrel
  obtain ⟨A3, c3, rfl⟩ := Kd.R_slice S.out.1.1
  by_cases hlt : t < N
  ·have hb5 : (0 : Int) ≤ (t : Int) := by omega
   have hb6 : (t : Int) < (N : Int) := by omega
   obtain ⟨ad, cs, rfl, _, hk, hc⟩ := Kd.C_get (Kd.C_below HR.out S.out.1.2) ByteArray.empty (t : Int) hb5 hb6
   rw [Int.toNat_natCast] at hk hc
   have htl : t < l.length := by rw [HN.out]; exact hlt
   obtain ⟨x, hx⟩ : ∃ x, l.getD t ByteArray.empty = x := ⟨_, rfl⟩
   rw [hx] at hk
   have hxe : l[t] = x := by rw [← hx]; simp [htl]
   obtain rfl : cs = [.string x] := hk
   have hc0 : wr.cell? (ad.add t) = some (.string x) := by
    have h := hc 0 (.string x) rfl
    rw [show t * Kd.string.sz + 0 = t from Nat.mul_one t] at h
    exact h
   have hxs := HX.out x (by rw [← hxe]; exact List.getElem_mem htl)
   have htk : l.take (t + 1) = l.take t ++ [x] := by rw [List.take_succ_eq_append_getElem htl, hxe]
   have HRd : Aside0 (∀ W, Calls Tryd.prog 10 #[.string x] W fun e w' => e = .returned (.tuple #[.int .i64 (readU x).1, .int .i64 (readU x).2]) ∧ Below W.heap.size W w') := ⟨fun W => read_calls x (by omega) W⟩
   have hno : isNum x = false → l.all isNum = false := by
    intro h0
    rw [← Bool.not_eq_true, List.all_eq_true]
    intro h1
    have := h1 l[t] (List.getElem_mem htl)
    rw [hxe, h0] at this
    cases this
   have htm : (l.take (t + 1)).map numOf = (l.take t).map numOf ++ [(readU x).1] := by rw [htk, List.map_append]; rfl
   have hta : (l.take (t + 1)).all isNum = isNum x := by rw [htk, List.all_append, S.out.2, Bool.true_and]; simp
   have hok : isNum x = decide ((readU x).2 = 0) := rfl
   obtain ⟨n, hn⟩ : ∃ n, (readU x).1 = n := ⟨_, rfl⟩
   obtain ⟨e, he⟩ : ∃ e, (readU x).2 = e := ⟨_, rfl⟩
   rw [hn] at htm
   rw [he] at hok
   rw [hn, he] at HRd
   obtain ⟨ns, hns⟩ : ∃ ns, (l.take t).map numOf = ns := ⟨_, rfl⟩
   have hnl : ns.length ≤ 16777216 := by rw [← hns, List.length_map, List.length_take]; omega
   rw [hns] at S htm
   rw [hns]
   have HT := Aside0.mk (And.intro htm (And.intro hta (And.intro hno hnl)))
   clear hx hxe hxs htk hno htm hta hn he hns hnl htl hc
   by_cases h0 : e = 0
   ·subst h0
    have HOK := Aside0.mk (hok.trans (decide_eq_true rfl))
    clear hok
    go_wp2_with (first
     | (go_at_call 10; refine (HRd.out _).mono ?_; rintro e w2 ⟨rfl, hB⟩; have S2 : Aside0 (NumsSt w w2 (.slice A3 ns.length c3) ns) := ⟨⟨Kd.R_below S.out.1.1 hB, S.out.1.2.trans (hB.mono S.out.1.2.size)⟩⟩; clear hB)
     | ((with_reducible refine gate_builtin (b := .append) (xs := #[.tmp 22, .tmp 24]) rfl ?_); at_builtin; refine Kd.R_append (Kd.int .i64) (w0 := w) w.heap.size rfl (.tmp 22) (.tmp 24) 138 3 (.int .i64 0) 8 rfl un138 info3 rfl (by decide) (by decide) (.slice A3 ns.length c3) ns n [.int .i64 n] (fun _ => True) (fun _ => False) rfl rfl rfl (fun _ h => h.elim) (fun _ _ => trivial) S2.out.1 S2.out.2 S2.out.2.size (by have := HT.out.2.2.2; omega) ?_; intro v4 w4 ho hb hg hat; have S4 : Aside0 (NumsSt w w4 v4 (ns ++ [n])) := ⟨⟨ho, hb⟩⟩; clear ho hb hg hat))
    refine ⟨⟨t + 1, by omega, by go_num, ⟨⟨by rw [HT.out.1]; exact S4.out, by rw [HT.out.2.1]; exact HOK.out⟩⟩⟩, ?_⟩
    simp only [intOf]; omega
   ·have HOK := Aside0.mk (HT.out.2.2.1 (hok.trans (decide_eq_false h0)))
    have h0' : (e == 0) = false := beq_eq_false_iff_ne.2 h0
    clear hok
    go_wp2_with (go_at_call 10; refine (HRd.out _).mono ?_; rintro e w2 ⟨rfl, hB⟩; have B2 := Aside0.mk (S.out.1.2.trans (hB.mono S.out.1.2.size)); clear hB)
    go_ret2
    exact ⟨.inr ⟨HOK.out, rfl⟩, B2.out⟩
  ·obtain rfl : t = N := by omega
   have hfull : l.take t = l := List.take_of_length_le (by rw [HN.out]; exact Nat.le_refl _)
   have S1 : Aside0 (∃ ns, NumsSt w wr (.slice A3 ((l.take t).map numOf).length c3) ns ∧ ns = l.map numOf ∧ l.all isNum = true) := ⟨_, S.out.1, by rw [hfull], by have := S.out.2; rwa [hfull] at this⟩
   clear hfull
   go_wp2_with fail
   go_ret2
   obtain ⟨ns, h1, h2, h3⟩ := S1.out
   exact ⟨.inl ⟨h3, _, rfl, by rw [← h2]; exact h1.1⟩, h1.2⟩
end Go.Proofs.YtiddiboclfpklaaDoor.Tz
