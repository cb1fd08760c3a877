/- Lemmas that the claim's theorem uses. -/
import Derived.Test.YtiddiboclfpklaaDoorProg
import Derived.Below
import Derived.Deep.Draws
import Derived.Deep.AppendLies
import Derived.Maps.AppendAt
import Derived.OwnWalk
import Derived.Laws.BytesArg
import Derived.Laws.MakeOwn
import Derived.Laws.OwnMore
import Derived.Deep.OwnRows
import Derived.Tactics
import Derived.Lib.ConvBytes
import Derived.Laws.Slices
import Derived.WalkKit
import Derived.KernelRfl
import Derived.RowKit3
import Derived.Deep.LoopGhost
import Derived.Deep.QuietTactic
import Derived.BigQuiet
import Derived.WideLaws
import Derived.Deep.DeepCutAuto
import Derived.Deep.CutBlock
import Derived.Deep.RegionHeld3
import Derived.Laws.Rows
import Derived.Lib.AppendStr
import Derived.ArgAppend
import Derived.Laws.IdiomCopy
import Derived.OrdersHeld
import Derived.Laws.BitsLemmas
import Derived.RowKit
import Derived.Test.YtiddiboclfpklaaDoorRdA
import Derived.Test.YtiddiboclfpklaaDoorRdB
import Derived.Test.YtiddiboclfpklaaDoorRdC
namespace Go.Proofs.YtiddiboclfpklaaDoor.PScriptReads
open Go.RowKit Go.Proofs.YtiddiboclfpklaaDoorW.PrintWords Go.Proofs.YtiddiboclfpklaaDoorW.PrintLast Go.Proofs.YtiddiboclfpklaaDoorW.PrintMore
attribute [local go_sem] min2_int min_two
set_option linter.unusedVariables false
set_option linter.unusedSimpArgs false
def errW : Option Int → Value
 | none => .nilIface
 | some c => .iface 0 (.int .i64 c)
theorem errW_none : errW none = .nilIface := rfl
theorem errW_some (c : Int) : errW (some c) = .iface 0 (.int .i64 c) := rfl
theorem info5 : (Tryd.prog.info? 5).map (fun i => (i.zero, i.size, i.bytes)) = some (some (.int .u8 0), 1, 1) := by kernel_rfl
theorem info9 : (Tryd.prog.info? 9).map (fun i => (i.zero, i.size, i.bytes)) = some (some (.string ⟨#[]⟩), 1, 16) := by kernel_rfl
theorem info57 : (Tryd.prog.info? 57).map (fun i => (i.zero, i.size, i.bytes)) = some (some (.agg #[(.int .i64 0), (.int .i64 0), (.string ⟨#[]⟩), (.int .i64 0), (.slice none 0 0), (.bool false), (.bool false), (.int .i64 0), (.slice none 0 0)]), 9, 104) := by kernel_rfl
theorem info84 : (Tryd.prog.info? 84).map (fun i => (i.zero, i.size, i.bytes)) = some (some (.slice none 0 0), 1, 24) := by kernel_rfl
theorem info107 : (Tryd.prog.info? 107).map (fun i => (i.zero, i.size, i.bytes)) = some (some (.agg #[(.int .i64 0), (.string ⟨#[]⟩)]), 2, 24) := by kernel_rfl
theorem info116 : (Tryd.prog.info? 116).map (fun i => (i.zero, i.size, i.bytes)) = some (some (.int .u32 0), 1, 4) := by kernel_rfl
structure S107 where
 f0 : Int
 f1 : ByteArray
def z107 : S107 := ⟨(0 : Int), (⟨#[]⟩ : ByteArray)⟩
def k107 : Kd S107 := Kd.iso (Kd.pair (Kd.int .i64) Kd.string) (fun x : S107 => (x.f0, x.f1))
theorem k107_open {w : World} {x : S107} {cs : List Value} (h : k107.K w x cs) : cs = [.int .i64 x.f0, .string x.f1] := by
 obtain ⟨_, _, rfl, rfl, rfl⟩ := h
 exact rfl
theorem k107_mk (w : World) (x : S107)  : k107.K w x [.int .i64 x.f0, .string x.f1] := ⟨[.int .i64 x.f0], [.string x.f1], rfl, rfl, rfl⟩
theorem k107_mkM (w : World) (base : Nat) (ok : Nat → Prop) (x : S107)  : k107.M w base ok x [.int .i64 x.f0, .string x.f1] := ⟨[.int .i64 x.f0], [.string x.f1], rfl, rfl, rfl⟩
def rd_T107 (xs : List S107) (i : Int) : S107 := xs.getD i.toNat z107
theorem at_T107 {w : World} {A : Option Addr} {n : Nat} {xs : List S107} (h : Kd.C k107 w A n xs) (i : Int) (h0 : 0 ≤ i) (h1 : i < n) : ∃ ad , A = some ad ∧ w.cell? (ad.add (i.toNat * 2)) = some (.int .i64 (rd_T107 xs i).f0) ∧ w.cell? ⟨(ad.add (i.toNat * 2)).block, (ad.add (i.toNat * 2)).off + 1, none⟩ = some (.string (rd_T107 xs i).f1) := by
 obtain ⟨ad, c, e, _, hK, hc0⟩ := Kd.C_get h z107 i h0 h1
 have hc : ∀ j u, c[j]? = some u → w.cell? (ad.add (i.toNat * 2 + j)) = some u := hc0
 obtain rfl := k107_open hK
 exact ⟨ad, e, hc 0 _ rfl, by rw [← add_field _ _ 1 (by omega)]; exact hc 1 _ rfl⟩
structure S52 where
 f0 : Int
 f1 : (List S107)
def z52 : S52 := ⟨(0 : Int), ([] : List S107)⟩
def k52 : Kd S52 := Kd.iso (Kd.pair (Kd.int .i64) (Kd.slice 107 k107)) (fun x : S52 => (x.f0, x.f1))
theorem k52_open {w : World} {x : S52} {cs : List Value} (h : k52.K w x cs) : ∃ A1 c1, cs = [.int .i64 x.f0, .slice A1 x.f1.length c1] ∧ x.f1.length ≤ c1 ∧ k107.C w A1 x.f1.length x.f1 := by
 obtain ⟨_, _, rfl, rfl, ⟨A1, c1, rfl, l1, g1⟩⟩ := h
 exact ⟨A1, c1, rfl, l1, g1⟩
theorem k52_mk (w : World) (x : S52) {A1 : Option Addr} {c1 : Nat} (l1 : x.f1.length ≤ c1) (g1 : k107.C w A1 x.f1.length x.f1) : k52.K w x [.int .i64 x.f0, .slice A1 x.f1.length c1] := ⟨[.int .i64 x.f0], [.slice A1 x.f1.length c1], rfl, rfl, ⟨A1, c1, rfl, l1, g1⟩⟩
theorem k52_mkM (w : World) (base : Nat) (ok : Nat → Prop) (x : S52) {v1 : Value} (g1 : k107.R 107 w base ok v1 x.f1) : k52.M w base ok x [.int .i64 x.f0, v1] := ⟨[.int .i64 x.f0], [v1], rfl, rfl, ⟨v1, rfl, g1⟩⟩
structure S54 where
 f0 : Int
 f1 : Int
 f2 : ByteArray
 f3 : S52
def z54 : S54 := ⟨(0 : Int), (0 : Int), (⟨#[]⟩ : ByteArray), z52⟩
def k54 : Kd S54 := Kd.iso (Kd.pair (Kd.int .i64) (Kd.pair (Kd.int .i64) (Kd.pair Kd.string k52))) (fun x : S54 => (x.f0, x.f1, x.f2, x.f3))
theorem k54_open {w : World} {x : S54} {cs : List Value} (h : k54.K w x cs) : ∃ A4 c4, cs = [.int .i64 x.f0, .int .i64 x.f1, .string x.f2, .int .i64 x.f3.f0, .slice A4 x.f3.f1.length c4] ∧ x.f3.f1.length ≤ c4 ∧ k107.C w A4 x.f3.f1.length x.f3.f1 := by
 obtain ⟨_, _, rfl, rfl, ⟨_, _, rfl, rfl, ⟨_, _, rfl, rfl, s3⟩⟩⟩ := h
 obtain ⟨A4, c4, rfl, l4, g4⟩ := k52_open s3
 exact ⟨A4, c4, rfl, l4, g4⟩
theorem k54_mk (w : World) (x : S54) {A4 : Option Addr} {c4 : Nat} (l4 : x.f3.f1.length ≤ c4) (g4 : k107.C w A4 x.f3.f1.length x.f3.f1) : k54.K w x [.int .i64 x.f0, .int .i64 x.f1, .string x.f2, .int .i64 x.f3.f0, .slice A4 x.f3.f1.length c4] := ⟨[.int .i64 x.f0], [.int .i64 x.f1, .string x.f2, .int .i64 x.f3.f0, .slice A4 x.f3.f1.length c4], rfl, rfl, ⟨[.int .i64 x.f1], [.string x.f2, .int .i64 x.f3.f0, .slice A4 x.f3.f1.length c4], rfl, rfl, ⟨[.string x.f2], [.int .i64 x.f3.f0, .slice A4 x.f3.f1.length c4], rfl, rfl, (k52_mk w x.f3 l4 g4)⟩⟩⟩
theorem k54_mkM (w : World) (base : Nat) (ok : Nat → Prop) (x : S54) {v4 : Value} (g4 : k107.R 107 w base ok v4 x.f3.f1) : k54.M w base ok x [.int .i64 x.f0, .int .i64 x.f1, .string x.f2, .int .i64 x.f3.f0, v4] := ⟨[.int .i64 x.f0], [.int .i64 x.f1, .string x.f2, .int .i64 x.f3.f0, v4], rfl, rfl, ⟨[.int .i64 x.f1], [.string x.f2, .int .i64 x.f3.f0, v4], rfl, rfl, ⟨[.string x.f2], [.int .i64 x.f3.f0, v4], rfl, rfl, (k52_mkM w base ok x.f3 g4)⟩⟩⟩
structure S57 where
 f0 : S54
 f1 : Bool
 f2 : Bool
 f3 : Int
 f4 : (List Int)
def z57 : S57 := ⟨z54, false, false, (0 : Int), ([] : List Int)⟩
def k57 : Kd S57 := Kd.iso (Kd.pair k54 (Kd.pair Kd.bool (Kd.pair Kd.bool (Kd.pair (Kd.int .i64) (Kd.slice 116 (Kd.int .u32)))))) (fun x : S57 => (x.f0, x.f1, x.f2, x.f3, x.f4))
theorem k57_open {w : World} {x : S57} {cs : List Value} (h : k57.K w x cs) : ∃ A4 c4 A8 c8, cs = [.int .i64 x.f0.f0, .int .i64 x.f0.f1, .string x.f0.f2, .int .i64 x.f0.f3.f0, .slice A4 x.f0.f3.f1.length c4, .bool x.f1, .bool x.f2, .int .i64 x.f3, .slice A8 x.f4.length c8] ∧ x.f0.f3.f1.length ≤ c4 ∧ k107.C w A4 x.f0.f3.f1.length x.f0.f3.f1 ∧ x.f4.length ≤ c8 ∧ (Kd.int .u32).C w A8 x.f4.length x.f4 := by
 obtain ⟨_, _, rfl, s0, ⟨_, _, rfl, rfl, ⟨_, _, rfl, rfl, ⟨_, _, rfl, rfl, ⟨A8, c8, rfl, l8, g8⟩⟩⟩⟩⟩ := h
 obtain ⟨A4, c4, rfl, l4, g4⟩ := k54_open s0
 exact ⟨A4, c4, A8, c8, rfl, l4, g4, l8, g8⟩
theorem k57_mk (w : World) (x : S57) {A4 : Option Addr} {c4 : Nat} (l4 : x.f0.f3.f1.length ≤ c4) (g4 : k107.C w A4 x.f0.f3.f1.length x.f0.f3.f1) {A8 : Option Addr} {c8 : Nat} (l8 : x.f4.length ≤ c8) (g8 : (Kd.int .u32).C w A8 x.f4.length x.f4) : k57.K w x [.int .i64 x.f0.f0, .int .i64 x.f0.f1, .string x.f0.f2, .int .i64 x.f0.f3.f0, .slice A4 x.f0.f3.f1.length c4, .bool x.f1, .bool x.f2, .int .i64 x.f3, .slice A8 x.f4.length c8] := ⟨[.int .i64 x.f0.f0, .int .i64 x.f0.f1, .string x.f0.f2, .int .i64 x.f0.f3.f0, .slice A4 x.f0.f3.f1.length c4], [.bool x.f1, .bool x.f2, .int .i64 x.f3, .slice A8 x.f4.length c8], rfl, (k54_mk w x.f0 l4 g4), ⟨[.bool x.f1], [.bool x.f2, .int .i64 x.f3, .slice A8 x.f4.length c8], rfl, rfl, ⟨[.bool x.f2], [.int .i64 x.f3, .slice A8 x.f4.length c8], rfl, rfl, ⟨[.int .i64 x.f3], [.slice A8 x.f4.length c8], rfl, rfl, ⟨A8, c8, rfl, l8, g8⟩⟩⟩⟩⟩
theorem k57_mkM (w : World) (base : Nat) (ok : Nat → Prop) (x : S57) {v4 : Value} (g4 : k107.R 107 w base ok v4 x.f0.f3.f1) {v8 : Value} (g8 : (Kd.int .u32).R 116 w base ok v8 x.f4) : k57.M w base ok x [.int .i64 x.f0.f0, .int .i64 x.f0.f1, .string x.f0.f2, .int .i64 x.f0.f3.f0, v4, .bool x.f1, .bool x.f2, .int .i64 x.f3, v8] := ⟨[.int .i64 x.f0.f0, .int .i64 x.f0.f1, .string x.f0.f2, .int .i64 x.f0.f3.f0, v4], [.bool x.f1, .bool x.f2, .int .i64 x.f3, v8], rfl, (k54_mkM w base ok x.f0 g4), ⟨[.bool x.f1], [.bool x.f2, .int .i64 x.f3, v8], rfl, rfl, ⟨[.bool x.f2], [.int .i64 x.f3, v8], rfl, rfl, ⟨[.int .i64 x.f3], [v8], rfl, rfl, ⟨v8, rfl, g8⟩⟩⟩⟩⟩
theorem k57_mkF (W : World) (ok : Nat → Prop) (x : S57) {A4 : Option Addr} {c4 : Nat} (l4 : x.f0.f3.f1.length ≤ c4) (g4 : Kd.F k107 W ok A4 x.f0.f3.f1.length x.f0.f3.f1) {A8 : Option Addr} {c8 : Nat} (l8 : x.f4.length ≤ c8) (g8 : Kd.F (Kd.int .u32) W ok A8 x.f4.length x.f4) : Kd.FK k57 W ok x [.int .i64 x.f0.f0, .int .i64 x.f0.f1, .string x.f0.f2, .int .i64 x.f0.f3.f0, .slice A4 x.f0.f3.f1.length c4, .bool x.f1, .bool x.f2, .int .i64 x.f3, .slice A8 x.f4.length c8] := fun W2 hW => k57_mk W2 x l4 (g4 W2 hW) l8 (g8 W2 hW)
def rd_T57 (xs : List S57) (i : Int) : S57 := xs.getD i.toNat z57
theorem at_T57 {w : World} {A : Option Addr} {n : Nat} {xs : List S57} (h : Kd.C k57 w A n xs) (i : Int) (h0 : 0 ≤ i) (h1 : i < n) : ∃ ad A4 c4 A8 c8, A = some ad ∧ w.cell? (ad.add (i.toNat * 9)) = some (.int .i64 (rd_T57 xs i).f0.f0) ∧ w.cell? ⟨(ad.add (i.toNat * 9)).block, (ad.add (i.toNat * 9)).off + 1, none⟩ = some (.int .i64 (rd_T57 xs i).f0.f1) ∧ w.cell? ⟨(ad.add (i.toNat * 9)).block, (ad.add (i.toNat * 9)).off + 2, none⟩ = some (.string (rd_T57 xs i).f0.f2) ∧ w.cell? ⟨(ad.add (i.toNat * 9)).block, (ad.add (i.toNat * 9)).off + 3, none⟩ = some (.int .i64 (rd_T57 xs i).f0.f3.f0) ∧ w.cell? ⟨(ad.add (i.toNat * 9)).block, (ad.add (i.toNat * 9)).off + 4, none⟩ = some (.slice A4 (rd_T57 xs i).f0.f3.f1.length c4) ∧ w.cell? ⟨(ad.add (i.toNat * 9)).block, (ad.add (i.toNat * 9)).off + 5, none⟩ = some (.bool (rd_T57 xs i).f1) ∧ w.cell? ⟨(ad.add (i.toNat * 9)).block, (ad.add (i.toNat * 9)).off + 6, none⟩ = some (.bool (rd_T57 xs i).f2) ∧ w.cell? ⟨(ad.add (i.toNat * 9)).block, (ad.add (i.toNat * 9)).off + 7, none⟩ = some (.int .i64 (rd_T57 xs i).f3) ∧ w.cell? ⟨(ad.add (i.toNat * 9)).block, (ad.add (i.toNat * 9)).off + 8, none⟩ = some (.slice A8 (rd_T57 xs i).f4.length c8) ∧ (rd_T57 xs i).f0.f3.f1.length ≤ c4 ∧ k107.C w A4 (rd_T57 xs i).f0.f3.f1.length (rd_T57 xs i).f0.f3.f1 ∧ (rd_T57 xs i).f4.length ≤ c8 ∧ (Kd.int .u32).C w A8 (rd_T57 xs i).f4.length (rd_T57 xs i).f4 := by
 obtain ⟨ad, c, e, _, hK, hc0⟩ := Kd.C_get h z57 i h0 h1
 have hc : ∀ j u, c[j]? = some u → w.cell? (ad.add (i.toNat * 9 + j)) = some u := hc0
 obtain ⟨A4, c4, A8, c8, rfl, l4, g4, l8, g8⟩ := k57_open hK
 exact ⟨ad, A4, c4, A8, c8, e, hc 0 _ rfl, by rw [← add_field _ _ 1 (by omega)]; exact hc 1 _ rfl, by rw [← add_field _ _ 2 (by omega)]; exact hc 2 _ rfl, by rw [← add_field _ _ 3 (by omega)]; exact hc 3 _ rfl, by rw [← add_field _ _ 4 (by omega)]; exact hc 4 _ rfl, by rw [← add_field _ _ 5 (by omega)]; exact hc 5 _ rfl, by rw [← add_field _ _ 6 (by omega)]; exact hc 6 _ rfl, by rw [← add_field _ _ 7 (by omega)]; exact hc 7 _ rfl, by rw [← add_field _ _ 8 (by omega)]; exact hc 8 _ rfl, l4, g4, l8, g8⟩
structure S66 where
 f0 : S54
 f1 : Bool
 f2 : Bool
 f3 : Int
 f4 : (List Int)
def z66 : S66 := ⟨z54, false, false, (0 : Int), ([] : List Int)⟩
def k66 : Kd S66 := Kd.iso (Kd.pair k54 (Kd.pair Kd.bool (Kd.pair Kd.bool (Kd.pair (Kd.int .i64) (Kd.slice 116 (Kd.int .u32)))))) (fun x : S66 => (x.f0, x.f1, x.f2, x.f3, x.f4))
theorem k66_open {w : World} {x : S66} {cs : List Value} (h : k66.K w x cs) : ∃ A4 c4 A8 c8, cs = [.int .i64 x.f0.f0, .int .i64 x.f0.f1, .string x.f0.f2, .int .i64 x.f0.f3.f0, .slice A4 x.f0.f3.f1.length c4, .bool x.f1, .bool x.f2, .int .i64 x.f3, .slice A8 x.f4.length c8] ∧ x.f0.f3.f1.length ≤ c4 ∧ k107.C w A4 x.f0.f3.f1.length x.f0.f3.f1 ∧ x.f4.length ≤ c8 ∧ (Kd.int .u32).C w A8 x.f4.length x.f4 := by
 obtain ⟨_, _, rfl, s0, ⟨_, _, rfl, rfl, ⟨_, _, rfl, rfl, ⟨_, _, rfl, rfl, ⟨A8, c8, rfl, l8, g8⟩⟩⟩⟩⟩ := h
 obtain ⟨A4, c4, rfl, l4, g4⟩ := k54_open s0
 exact ⟨A4, c4, A8, c8, rfl, l4, g4, l8, g8⟩
theorem k66_mk (w : World) (x : S66) {A4 : Option Addr} {c4 : Nat} (l4 : x.f0.f3.f1.length ≤ c4) (g4 : k107.C w A4 x.f0.f3.f1.length x.f0.f3.f1) {A8 : Option Addr} {c8 : Nat} (l8 : x.f4.length ≤ c8) (g8 : (Kd.int .u32).C w A8 x.f4.length x.f4) : k66.K w x [.int .i64 x.f0.f0, .int .i64 x.f0.f1, .string x.f0.f2, .int .i64 x.f0.f3.f0, .slice A4 x.f0.f3.f1.length c4, .bool x.f1, .bool x.f2, .int .i64 x.f3, .slice A8 x.f4.length c8] := ⟨[.int .i64 x.f0.f0, .int .i64 x.f0.f1, .string x.f0.f2, .int .i64 x.f0.f3.f0, .slice A4 x.f0.f3.f1.length c4], [.bool x.f1, .bool x.f2, .int .i64 x.f3, .slice A8 x.f4.length c8], rfl, (k54_mk w x.f0 l4 g4), ⟨[.bool x.f1], [.bool x.f2, .int .i64 x.f3, .slice A8 x.f4.length c8], rfl, rfl, ⟨[.bool x.f2], [.int .i64 x.f3, .slice A8 x.f4.length c8], rfl, rfl, ⟨[.int .i64 x.f3], [.slice A8 x.f4.length c8], rfl, rfl, ⟨A8, c8, rfl, l8, g8⟩⟩⟩⟩⟩
theorem k66_mkM (w : World) (base : Nat) (ok : Nat → Prop) (x : S66) {v4 : Value} (g4 : k107.R 107 w base ok v4 x.f0.f3.f1) {v8 : Value} (g8 : (Kd.int .u32).R 116 w base ok v8 x.f4) : k66.M w base ok x [.int .i64 x.f0.f0, .int .i64 x.f0.f1, .string x.f0.f2, .int .i64 x.f0.f3.f0, v4, .bool x.f1, .bool x.f2, .int .i64 x.f3, v8] := ⟨[.int .i64 x.f0.f0, .int .i64 x.f0.f1, .string x.f0.f2, .int .i64 x.f0.f3.f0, v4], [.bool x.f1, .bool x.f2, .int .i64 x.f3, v8], rfl, (k54_mkM w base ok x.f0 g4), ⟨[.bool x.f1], [.bool x.f2, .int .i64 x.f3, v8], rfl, rfl, ⟨[.bool x.f2], [.int .i64 x.f3, v8], rfl, rfl, ⟨[.int .i64 x.f3], [v8], rfl, rfl, ⟨v8, rfl, g8⟩⟩⟩⟩⟩
theorem k66_openF {W : World} {ok : Nat → Prop} {x : S66} {cs : List Value} (h : Kd.FK k66 W ok x cs) : ∃ A4 c4 A8 c8, cs = [.int .i64 x.f0.f0, .int .i64 x.f0.f1, .string x.f0.f2, .int .i64 x.f0.f3.f0, .slice A4 x.f0.f3.f1.length c4, .bool x.f1, .bool x.f2, .int .i64 x.f3, .slice A8 x.f4.length c8] ∧ x.f0.f3.f1.length ≤ c4 ∧ Kd.F k107 W ok A4 x.f0.f3.f1.length x.f0.f3.f1 ∧ x.f4.length ≤ c8 ∧ Kd.F (Kd.int .u32) W ok A8 x.f4.length x.f4 := by
 obtain ⟨A4, c4, A8, c8, rfl, l4, _, l8, _⟩ := k66_open (Kd.FK_now h)
 exact ⟨A4, c4, A8, c8, rfl, l4, (fun W' hW => by obtain ⟨A4_, c4_, A8_, c8_, he, l4_, g4_, l8_, g8_⟩ := k66_open (h W' hW); injection (Option.some.inj (show some (Value.slice A4 x.f0.f3.f1.length c4) = some (Value.slice A4_ x.f0.f3.f1.length c4_) from congrArg (fun l => l[4]?) he)) with ha_ _ _; rw [ha_]; exact g4_), l8, (fun W' hW => by obtain ⟨A4_, c4_, A8_, c8_, he, l4_, g4_, l8_, g8_⟩ := k66_open (h W' hW); injection (Option.some.inj (show some (Value.slice A8 x.f4.length c8) = some (Value.slice A8_ x.f4.length c8_) from congrArg (fun l => l[8]?) he)) with ha_ _ _; rw [ha_]; exact g8_)⟩
def rd_T66 (xs : List S66) (i : Int) : S66 := xs.getD i.toNat z66
theorem at_T66 {w : World} {A : Option Addr} {n : Nat} {xs : List S66} (h : Kd.C k66 w A n xs) (i : Int) (h0 : 0 ≤ i) (h1 : i < n) : ∃ ad A4 c4 A8 c8, A = some ad ∧ w.cell? (ad.add (i.toNat * 9)) = some (.int .i64 (rd_T66 xs i).f0.f0) ∧ w.cell? ⟨(ad.add (i.toNat * 9)).block, (ad.add (i.toNat * 9)).off + 1, none⟩ = some (.int .i64 (rd_T66 xs i).f0.f1) ∧ w.cell? ⟨(ad.add (i.toNat * 9)).block, (ad.add (i.toNat * 9)).off + 2, none⟩ = some (.string (rd_T66 xs i).f0.f2) ∧ w.cell? ⟨(ad.add (i.toNat * 9)).block, (ad.add (i.toNat * 9)).off + 3, none⟩ = some (.int .i64 (rd_T66 xs i).f0.f3.f0) ∧ w.cell? ⟨(ad.add (i.toNat * 9)).block, (ad.add (i.toNat * 9)).off + 4, none⟩ = some (.slice A4 (rd_T66 xs i).f0.f3.f1.length c4) ∧ w.cell? ⟨(ad.add (i.toNat * 9)).block, (ad.add (i.toNat * 9)).off + 5, none⟩ = some (.bool (rd_T66 xs i).f1) ∧ w.cell? ⟨(ad.add (i.toNat * 9)).block, (ad.add (i.toNat * 9)).off + 6, none⟩ = some (.bool (rd_T66 xs i).f2) ∧ w.cell? ⟨(ad.add (i.toNat * 9)).block, (ad.add (i.toNat * 9)).off + 7, none⟩ = some (.int .i64 (rd_T66 xs i).f3) ∧ w.cell? ⟨(ad.add (i.toNat * 9)).block, (ad.add (i.toNat * 9)).off + 8, none⟩ = some (.slice A8 (rd_T66 xs i).f4.length c8) ∧ (rd_T66 xs i).f0.f3.f1.length ≤ c4 ∧ k107.C w A4 (rd_T66 xs i).f0.f3.f1.length (rd_T66 xs i).f0.f3.f1 ∧ (rd_T66 xs i).f4.length ≤ c8 ∧ (Kd.int .u32).C w A8 (rd_T66 xs i).f4.length (rd_T66 xs i).f4 := by
 obtain ⟨ad, c, e, _, hK, hc0⟩ := Kd.C_get h z66 i h0 h1
 have hc : ∀ j u, c[j]? = some u → w.cell? (ad.add (i.toNat * 9 + j)) = some u := hc0
 obtain ⟨A4, c4, A8, c8, rfl, l4, g4, l8, g8⟩ := k66_open hK
 exact ⟨ad, A4, c4, A8, c8, e, hc 0 _ rfl, by rw [← add_field _ _ 1 (by omega)]; exact hc 1 _ rfl, by rw [← add_field _ _ 2 (by omega)]; exact hc 2 _ rfl, by rw [← add_field _ _ 3 (by omega)]; exact hc 3 _ rfl, by rw [← add_field _ _ 4 (by omega)]; exact hc 4 _ rfl, by rw [← add_field _ _ 5 (by omega)]; exact hc 5 _ rfl, by rw [← add_field _ _ 6 (by omega)]; exact hc 6 _ rfl, by rw [← add_field _ _ 7 (by omega)]; exact hc 7 _ rfl, by rw [← add_field _ _ 8 (by omega)]; exact hc 8 _ rfl, l4, g4, l8, g8⟩
end Go.Proofs.YtiddiboclfpklaaDoor.PScriptReads
namespace Go.Proofs.YtiddiboclfpklaaDoor.PScriptReads
open Go.RowKit Go.Proofs.YtiddiboclfpklaaDoorW.PrintWords Go.Proofs.YtiddiboclfpklaaDoorW.PrintLast Go.Proofs.YtiddiboclfpklaaDoorW.PrintMore
attribute [local go_sem] min2_int min_two
set_option linter.unusedVariables false
set_option linter.unusedSimpArgs false
theorem eqA107 (d : Nat) (w : World) (x0 y0 : Int) (x1 y1 : ByteArray) :
  (Op.equalIn (d + 2) 107 (.agg #[.int .i64 x0, .string x1]) (.agg #[.int .i64 y0, .string y1])).run Tryd.prog w = .ok (x0 == y0 && (x1.toList == y1.toList)) w := by
 refine eqA_of Tryd.underlying107 (by kernel_rfl) ?_
 refine eqf_cons (by rfl) (by go_simp; rfl) (by go_simp; rfl) (by go_simp) ?_
 exact eqf_last (by rfl) (by go_simp; rfl) (by go_simp; rfl) (by go_simp)
end Go.Proofs.YtiddiboclfpklaaDoor.PScriptReads
