/- Lemmas that the claim's theorem uses. -/
import Derived.Test.YtiddiboclfpklaaDoorRdL
import Derived.Test.YtiddiboclfpklaaDoorRdI
import Derived.Maps.OwnSet
import Derived.StringKeys
namespace Go.Proofs.YtiddiboclfpklaaDoor.Tz
open Go.RowKit Go.Proofs.YtiddiboclfpklaaDoorW.PrintWords Go.Proofs.YtiddiboclfpklaaDoor.PScriptReads Go.Proofs.YtiddiboclfpklaaDoor.Tx
set_option linter.unusedVariables false
theorem gr_setRow (w : World) (g : Nat) (cs : Array Value) : w.grownBy (w.setRow g cs) (some g) :=
 ⟨rfl, rfl, rfl, by simp, fun k _ hk => setRow_other w g k cs (fun e => hk (by rw [e]))⟩
theorem R_setRow {α : Type} {d : Kd α} {e base : Nat} {ok : Nat → Prop} {w : World} {v : Value} {xs : List α} (h : d.R e w base ok v xs) {g t : Nat} {cells : Array Value} (hb : w.heap[g]? = some (.cells cells t (0, 0))) (ht : ∀ q, q ∈ e :: d.E → q ≠ t) (cs : Array Value) : d.R e (w.setRow g cs) base ok v xs :=
 Kd.R_mono (Kd.R_grown (Kd.R_types h hb ht) (gr_setRow w g cs) (fun k hk e => hk.2 (by injection e))) (fun _ hk => hk.1)
theorem M_setRow {α : Type} {d : Kd α} {base : Nat} {ok : Nat → Prop} {w : World} {x : α} {c : List Value} (h : d.M w base ok x c) {g t : Nat} {cells : Array Value} (hb : w.heap[g]? = some (.cells cells t (0, 0))) (ht : ∀ q, q ∈ d.E → q ≠ t) (cs : Array Value) : d.M (w.setRow g cs) base ok x c :=
 d.M_mono (fun _ hk => hk.1) (Kd.M_grown (Kd.M_types h hb ht) (gr_setRow w g cs) (fun k hk e => hk.2 (by injection e)))
theorem below_setRow {w W : World} {g : Nat} (h : Below w.heap.size w W) (hg : w.heap.size ≤ g) (cs : Array Value) : Below w.heap.size w (W.setRow g cs) :=
 h.grown (gr_setRow W g cs) h.size (fun k hk => by cases hk; exact hg)
theorem un55 : Tryd.prog.underlying 55 = some (.slice 116) := by kernel_rfl
theorem info116 : (Tryd.prog.info? 116).map (fun i => (i.zero, i.size, i.bytes)) = some (some (.int .u32 0), 1, 4) := by kernel_rfl
theorem size66 : (Tryd.prog.info? 66).map (·.size) = some 9 := by kernel_rfl
def cells66 (k n : Int) (d : ByteArray) (f : Int) (v4 : Value) (cut mount : Bool) (m : Int) (v8 : Value) : Array Value := #[.int .i64 k, .int .i64 n, .string d, .int .i64 f, v4, .bool cut, .bool mount, .int .i64 m, v8]
def zero66 : Array Value := cells66 0 0 ⟨#[]⟩ 0 (.slice none 0 0) false false 0 (.slice none 0 0)
theorem one66 (k n : Int) (d : ByteArray) (f : Int) (v4 : Value) (cut mount : Bool) (m : Int) (v8 : Value) (h4 : v4.oneCell' = true) (h8 : v8.oneCell' = true) : (cells66 k n d f v4 cut mount m v8).all (·.oneCell') = true := by
 simp [cells66, Value.oneCell']
 simp only [Value.oneCell'] at h4 h8
 exact ⟨h4, h8⟩
theorem one_slice (A : Option Addr) (n c : Nat) : (Value.slice A n c).oneCell' = true := rfl
theorem R_one {α : Type} {d : Kd α} {e base : Nat} {ok : Nat → Prop} {w : World} {v : Value} {xs : List α} (h : d.R e w base ok v xs) : v.oneCell' = true := by
 obtain ⟨A, c, rfl⟩ := Kd.R_slice h
 rfl
def inU (m : Int) : Bool := !decide (m < 0) && !decide (4294967295 < m)
def cutG : List Int → Bool
 | [] => false
 | _ :: ms => ms.all inU
def cutOk (l : List ByteArray) : Bool := l.all isNum && cutG (l.map numOf)
def CutPost (w : World) (l : List ByteArray) (e : Ending) (w' : World) : Prop :=
 ((cutOk l = true ∧ ∃ n ms v, l.map numOf = n :: ms ∧ e = .returned (.tuple #[.agg (cells66 0 0 ⟨#[]⟩ 0 (.slice none 0 0) true false n v), .bool true]) ∧ Kd.R (Kd.int .u32) 116 w' w.heap.size (fun _ => True) v ms) ∨ (cutOk l = false ∧ e = .returned (.tuple #[.agg zero66, .bool false]))) ∧ Below w.heap.size w w'
structure CutSt (w w2 wr : World) (n : Int) (v : Value) (ms : List Int) : Prop where
 box : wr.heap[w2.heap.size]? = some (.cells (cells66 0 0 ⟨#[]⟩ 0 (.slice none 0 0) true false n v) 66 (0, 0))
 res : wr.heap[w.heap.size]? = some (.cells zero66 66 (0, 0))
 row : Kd.R (Kd.int .u32) 116 wr w2.heap.size (fun _ => True) v ms
 bel : Below w2.heap.size w2 wr
 lt : w.heap.size < w2.heap.size
theorem ty116 : ∀ q : Nat, q ∈ 116 :: (Kd.int .u32).E → q ≠ 66 := by
 intro q hq
 have h : q ∈ [116] := hq
 rw [List.mem_singleton.1 h]; decide
theorem CutSt.app {w w2 wr w4 : World} {n m : Int} {v v4 : Value} {ms : List Int} (S : CutSt w w2 wr n v ms) (ho : Kd.R (Kd.int .u32) 116 w4 w2.heap.size (fun _ => True) v4 (ms ++ [m])) (hb : Below w2.heap.size w2 w4) (hg : wr.grownBy w4 v.ownBlock) :
  CutSt w w2 (w4.setCell ⟨w2.heap.size, 8, none⟩ v4) n v4 (ms ++ [m]) := by
 have hbox := blk_grown S.box hg (Kd.R_ne S.row S.box (by decide))
 have hres := blk_grown S.res hg (Kd.R_ne S.row S.res (by decide))
 exact ⟨blk_put hbox 8 v4 rfl, blk_far hres (by have := S.lt; show w.heap.size ≠ w2.heap.size; omega) v4, Kd.R_set ho hbox ty116 8 v4, below_set hb (Nat.le_refl _), S.lt⟩
theorem CutSt.all {w w2 wr : World} {n : Int} {v : Value} {ms : List Int} (S : CutSt w w2 wr n v ms) (hB : Below w.heap.size w w2) : Below w.heap.size w wr := hB.trans (S.bel.mono hB.size)
set_option maxHeartbeats 4000000 in
set_option maxRecDepth 100000 in
theorem cut_calls (l : List ByteArray) (A : Option Addr) (c : Nat) (w : World) (hr : Kd.C Kd.string w A l.length l) (hx : ∀ y ∈ l, y.size ≤ 16777216) (hl : l.length ≤ 16777216) :
  Calls Tryd.prog 79 #[.slice A l.length c] w (CutPost w l) := by
 have HN : Aside0 (∀ W, Below w.heap.size w W → Calls Tryd.prog 78 #[.slice A l.length c] W (NumsPost W l)) := ⟨fun W hb => numbers_calls l A c W (Kd.C_below hr hb) hx hl⟩
 have HB := Aside0.mk (Below.alloc (Below.refl w.heap.size w) (Nat.le_refl _) (.cells #[.int .i64 0, .int .i64 0, .string ⟨#[]⟩, .int .i64 0, .slice none 0 0, .bool false, .bool false, .int .i64 0, .slice none 0 0] 66))
 have K0 := Aside0.mk (blk_new w (.cells zero66 66))
 have hzz : zero66.all (·.oneCell') = true := one66 _ _ _ _ _ _ _ _ _ rfl rfl
 have HZ := Aside0.mk hzz
 clear hzz hr hx
 cases hall : l.all isNum with
 | false =>
  have HP : Aside0 (cutOk l = false) := ⟨by unfold cutOk; rw [hall, Bool.false_and]⟩
  have HN2 : Aside0 (∀ W, Below w.heap.size w W → Calls Tryd.prog 78 #[.slice A l.length c] W fun e w' => e = .returned (.tuple #[.slice none 0 0, .bool false]) ∧ Below W.heap.size W w') := ⟨fun W hb => (HN.out W hb).mono (by
   rintro e w' ⟨⟨h1, _⟩ | ⟨_, h2⟩, hB⟩
   ·rw [hall] at h1; cases h1
   ·exact ⟨h2, hB⟩)⟩
  clear HN hall
  go_enter Tryd.func79, Tryd.ntmps79
  go_wp2_with (first
   | (go_at_call 78; refine (HN2.out _ HB.out).mono ?_; rintro e w2 ⟨rfl, hB⟩; have K2 := Aside0.mk (blk_below K0.out hB); have B2 := Aside0.mk (HB.out.trans (hB.mono HB.out.size)); clear hB)
   | (refine wpList_store_row rfl 66 _ _ rfl w.heap.size zero66 rfl rfl 66 zero66 K2.out size66 rfl HZ.out ?_; rw [setRow_self _ _ zero66 _ _ K2.out]))
  refine bodyPost_ret (results_ct rfl _ _ w.heap.size 66 zero66 (0, 0) _ rfl K2.out Tryd.underlying66 rfl size66) rfl ?_
  exact ⟨.inr ⟨HP.out, rfl⟩, B2.out⟩
 | true =>
  have hcok : cutOk l = cutG (l.map numOf) := by unfold cutOk; rw [hall, Bool.true_and]
  have HN2 : Aside0 (∀ W, Below w.heap.size w W → Calls Tryd.prog 78 #[.slice A l.length c] W fun e w' => (∃ A3 c3, e = .returned (.tuple #[.slice A3 l.length c3, .bool true]) ∧ l.length ≤ c3 ∧ Kd.C (Kd.int .i64) w' A3 l.length (l.map numOf)) ∧ Below W.heap.size W w') := ⟨fun W hb => (HN.out W hb).mono (by
   rintro e w' ⟨⟨_, v, rfl, hv⟩ | ⟨h1, _⟩, hB⟩
   ·obtain ⟨A3, c3, rfl, h2, h3⟩ := Kd.R_reads hv
    rw [List.length_map] at h2 h3 ⊢
    exact ⟨⟨A3, c3, rfl, h2, h3⟩, hB⟩
   ·rw [hall] at h1; cases h1)⟩
  clear HN hall
  obtain ⟨ns, hns⟩ : ∃ ns, l.map numOf = ns := ⟨_, rfl⟩
  have hnl : l.length = ns.length := by rw [← hns, List.length_map]
  rw [hns, hnl] at HN2
  rw [hns] at hcok
  rw [hnl] at hl ⊢
  have HNS := Aside0.mk hns
  clear hns hnl
  cases ns with
  | nil =>
   have HP : Aside0 (cutOk l = false) := ⟨hcok⟩
   clear hcok
   go_enter Tryd.func79, Tryd.ntmps79
   go_wp2_with (first
    | (go_at_call 78; refine (HN2.out _ HB.out).mono ?_; rintro e w2 ⟨⟨A3, c3, rfl, _, _⟩, hB⟩; have K2 := Aside0.mk (blk_below K0.out hB); have B2 := Aside0.mk (HB.out.trans (hB.mono HB.out.size)); clear hB)
    | (refine wpList_store_row rfl 66 _ _ rfl w.heap.size zero66 rfl rfl 66 zero66 K2.out size66 rfl HZ.out ?_; rw [setRow_self _ _ zero66 _ _ K2.out]))
   refine bodyPost_ret (results_ct rfl _ _ w.heap.size 66 zero66 (0, 0) _ rfl K2.out Tryd.underlying66 rfl size66) rfl ?_
   exact ⟨.inr ⟨HP.out, rfl⟩, B2.out⟩
  | cons n ms =>
   replace hcok : cutOk l = ms.all inU := hcok
   have HCO := Aside0.mk hcok
   clear hcok
   obtain ⟨N, hN⟩ : ∃ N, ms.length = N := ⟨_, rfl⟩
   have HLN := Aside0.mk hN
   rw [List.length_cons, hN] at hl HN2
   rw [List.length_cons, hN]
   clear hN
   have hn1 : ((N + 1 : Nat) : Int) ≠ 0 := by omega
   have hn2 : (((N + 1 : Nat) : Int) == 0) = false := beq_eq_false_iff_ne.2 (by omega)
   go_enter Tryd.func79, Tryd.ntmps79
   go_wp2_with (first
    | (go_at_call 78; refine (HN2.out _ HB.out).mono ?_; rintro e w2 ⟨⟨A3, c3, rfl, h3, hC3⟩, hB⟩; obtain ⟨A4, hcn, hC4, _⟩ := cut138 A3 c3 (n :: ms) 1 (by simp) (by rw [List.length_cons, HLN.out]; exact h3); have H4 := Aside0.mk (show Kd.C (Kd.int .i64) w2 A4 N ms by (have h := hC4 w2 (by rw [List.length_cons, HLN.out]; exact hC3); rw [← HLN.out]; exact h)); replace hcn : ∀ W : World, (Instr.slice 138 (.slice A3 (N + 1) c3) (some (.int .i64 1)) none none).run Tryd.prog W = .ok (.slice A4 N (c3 - 1)) W := (by rw [← HLN.out]; exact hcn); have K2 := Aside0.mk (blk_below K0.out hB); have B2 := Aside0.mk (HB.out.trans (hB.mono HB.out.size)); clear hB hC4 h3; obtain ⟨a3, hA3, n0⟩ := Kd.at_int hC3 0 (by omega) (by omega); subst hA3; clear hC3; have m0 : w2.cell? a3 = some (.int .i64 n) := (by (have h := n0; rw [show (0 : Int).toNat = 0 from rfl, Addr.add_zero'] at h; exact h)); clear n0))
   have S0 : Aside0 (CutSt w w2 (w2.alloc (.cells (cells66 0 0 ⟨#[]⟩ 0 (.slice none 0 0) true false n (.slice none 0 0)) 66)) n (.slice none 0 0) (ms.take 0) ∧ (ms.take 0).all inU = true) :=
    ⟨⟨blk_new w2 _, blk_alloc K2.out _, Kd.R_nil _ _ _ _ _, below_alloc (Below.refl _ _) _, blk_lt K2.out⟩, rfl⟩
   clear m0 hcn hn1 hn2
   go_loopw [29] (fun i wr => ∃ t : Nat, t ≤ N ∧ i = .int .i64 (t : Int) ∧ Aside0 (∃ v, CutSt w w2 wr n v (ms.take t) ∧ (ms.take t).all inU = true)) (fun i _ => N - (intOf i).toNat)
   case atStart => exact ⟨0, by omega, rfl, ⟨_, S0.out.1, S0.out.2⟩⟩
   case round =>
    clear S0 K2
    obtain ⟨t, ht, rfl, S⟩ := hrel
    obtain ⟨v, S⟩ := S.out
    replace S := Aside0.mk S
    obtain ⟨A5, c5, rfl⟩ := Kd.R_slice S.out.1.row
    by_cases hlt : t < N
    ·have hb5 : (0 : Int) ≤ (t : Int) := by omega
     have hb6 : (t : Int) < (N : Int) := by omega
     obtain ⟨ad, rfl, hc0⟩ := Kd.at_int (Kd.C_below H4.out S.out.1.bel) (t : Int) hb5 hb6
     rw [Int.toNat_natCast] at hc0
     obtain ⟨x, hx⟩ : ∃ x, rd ms (t : Int) = x := ⟨_, rfl⟩
     rw [hx] at hc0
     have htl : t < ms.length := by rw [HLN.out]; exact hlt
     have hxe : ms[t] = x := by rw [← hx]; simp [rd, htl]
     have hno : inU x = false → ms.all inU = false := by
      intro h0
      rw [← Bool.not_eq_true, List.all_eq_true]
      intro h1
      have := h1 ms[t] (List.getElem_mem htl)
      rw [hxe, h0] at this
      cases this
     have htk : ms.take (t + 1) = ms.take t ++ [x] := by rw [List.take_succ_eq_append_getElem htl, hxe]
     have hta : (ms.take (t + 1)).all inU = inU x := by rw [htk, List.all_append, S.out.2, Bool.true_and]; simp
     obtain ⟨dn, hdn⟩ : ∃ dn, ms.take t = dn := ⟨_, rfl⟩
     have hdl : dn.length ≤ 16777216 := by rw [← hdn, List.length_take]; omega
     rw [hdn] at S htk
     have HT := Aside0.mk (And.intro htk (And.intro hta (And.intro hno hdl)))
     clear hx hxe htl htk hta hno hdn hdl
     by_cases h1 : x < 0
     ·have e1 : decide (x < 0) = true := decide_eq_true h1
      have HP : Aside0 (cutOk l = false) := ⟨by rw [HCO.out]; exact HT.out.2.2.1 (by unfold inU; rw [e1]; rfl)⟩
      clear h1
      go_wp2_with (refine wpList_store_row rfl 66 _ _ rfl w.heap.size zero66 rfl rfl 66 zero66 S.out.1.res size66 rfl HZ.out ?_; rw [setRow_self _ _ zero66 _ _ S.out.1.res])
      refine bodyPost_ret (results_ct rfl _ _ w.heap.size 66 zero66 (0, 0) _ rfl S.out.1.res Tryd.underlying66 rfl size66) rfl ?_
      exact ⟨.inr ⟨HP.out, rfl⟩, S.out.1.all B2.out⟩
     ·have e1 : decide (x < 0) = false := decide_eq_false h1
      by_cases h2 : 4294967295 < x
      ·have e2 : decide (4294967295 < x) = true := decide_eq_true h2
       have HP : Aside0 (cutOk l = false) := ⟨by rw [HCO.out]; exact HT.out.2.2.1 (by unfold inU; rw [e2, Bool.and_comm]; rfl)⟩
       clear h1 h2
       go_wp2_with (refine wpList_store_row rfl 66 _ _ rfl w.heap.size zero66 rfl rfl 66 zero66 S.out.1.res size66 rfl HZ.out ?_; rw [setRow_self _ _ zero66 _ _ S.out.1.res])
       refine bodyPost_ret (results_ct rfl _ _ w.heap.size 66 zero66 (0, 0) _ rfl S.out.1.res Tryd.underlying66 rfl size66) rfl ?_
       exact ⟨.inr ⟨HP.out, rfl⟩, S.out.1.all B2.out⟩
      ·have e2 : decide (4294967295 < x) = false := decide_eq_false h2
       have HU : Aside0 (inU x = true) := ⟨by unfold inU; rw [e1, e2]; rfl⟩
       have hwu : IntKind.u32.wrap x = x := by
        simp only [IntKind.wrap, IntKind.bits, IntKind.signed]
        simp
        omega
       clear h1 h2
       have z8 : wr.cell? ⟨w2.heap.size, 8, none⟩ = some (.slice A5 dn.length c5) := (blk_cell S.out.1.box 8).trans rfl
       go_wp2_with ((with_reducible refine gate_builtin (b := .append) (xs := #[.tmp 41, .tmp 44]) rfl ?_); at_builtin; refine Kd.R_append (Kd.int .u32) (w0 := w2) w2.heap.size rfl (.tmp 41) (.tmp 44) 55 116 (.int .u32 0) 4 rfl un55 info116 rfl (by decide) (by decide) (.slice A5 dn.length c5) dn x [.int .u32 x] (fun _ => True) (fun _ => False) rfl rfl rfl (fun _ h => h.elim) (fun _ _ => trivial) S.out.1.row S.out.1.bel S.out.1.bel.size (by have := HT.out.2.2.2; omega) ?_; intro v4 w4 ho hb hg hat; obtain ⟨A6, c6, rfl⟩ := Kd.R_slice ho; have S4 := Aside0.mk (S.out.1.app ho hb hg); have y8 : w4.cell? ⟨w2.heap.size, 8, none⟩ = some (.slice A5 dn.length c5) := (blk_cell (blk_grown S.out.1.box hg (Kd.R_ne S.out.1.row S.out.1.box (by decide))) 8).trans rfl; have f8 := blk_frozen (blk_grown S.out.1.box hg (Kd.R_ne S.out.1.row S.out.1.box (by decide))) 8; clear ho hb hat hg)
       refine ⟨?_, ?measure⟩
       repeat apply Exists.intro
       refine ⟨?rel, rfl⟩
       case rel => exact ⟨t + 1, by omega, by go_num, ⟨⟨_, by rw [HT.out.1]; have h := S4.out; rw [List.length_append, List.length_singleton] at h; exact h, by rw [HT.out.2.1]; exact HU.out⟩⟩⟩
       case measure => simp [intOf]; omega
    ·obtain rfl : t = N := by omega
     have hfull : ms.take t = ms := List.take_of_length_le (by rw [HLN.out]; exact Nat.le_refl _)
     rw [hfull] at S
     have HP : Aside0 (cutOk l = true) := ⟨by rw [HCO.out]; exact S.out.2⟩
     have hone := R_one S.out.1.row
     have H9 := Aside0.mk (one66 0 0 ⟨#[]⟩ 0 (.slice none 0 0) true false n _ rfl hone)
     have hres := setRow_heap wr w.heap.size zero66 (cells66 0 0 ⟨#[]⟩ 0 (.slice none 0 0) true false n (.slice A5 ms.length c5)) 66 (0, 0) S.out.1.res
     have HR := Aside0.mk hres
     clear hone hres
     go_wp2_with (first
      | (refine wpList_load_row rfl 66 _ rfl w2.heap.size rfl 66 _ (0, 0) _ S.out.1.box Tryd.underlying66 rfl size66 ?_)
      | (refine wpList_store_row rfl 66 _ _ rfl w.heap.size _ rfl rfl 66 zero66 S.out.1.res size66 rfl H9.out ?_))
     refine bodyPost_ret (results_ct rfl _ _ w.heap.size 66 _ (0, 0) _ rfl HR.out Tryd.underlying66 rfl size66) rfl ?_
     exact ⟨.inl ⟨HP.out, n, ms, _, HNS.out, rfl, Kd.R_lower (R_setRow S.out.1.row S.out.1.res ty116 _) B2.out.size⟩, below_setRow (S.out.1.all B2.out) (Nat.le_refl _) _⟩
end Go.Proofs.YtiddiboclfpklaaDoor.Tz
namespace Go.Proofs.YtiddiboclfpklaaDoor.Tz
open Go.RowKit Go.Maps Go.WideShapes Go.ChangeShapes Go.WideMaps Go.Proofs.YtiddiboclfpklaaDoorW.PrintWords Go.Proofs.YtiddiboclfpklaaDoor.PScriptReads Go.Proofs.YtiddiboclfpklaaDoor.Tx
set_option linter.unusedVariables false
theorem un9s : Tryd.prog.underlying 9 = some .string := by kernel_rfl
theorem un141 : Tryd.prog.underlying 141 = some (.map 9 3) := by kernel_rfl
theorem un3i : Tryd.prog.underlying 3 = some (.int .i64) := by kernel_rfl
theorem law9 : Keyed Tryd.prog 9 := string_keyed un9s
def kindsD : Nat → DataW Unit
 | 0 => .map []
 | t + 1 => (kindsD t).put (.string (wordF ((t : Int) + 1)).data.toList) (.lit (.int .i64 ((t : Int) + 1)))
theorem words_all : ∀ t : Fin 13, (wordF ((t.val : Int) + 1)).size ≤ 9 ∧ ¬ (wordF ((t.val : Int) + 1)).size = 0 := by decide
theorem word_end : wordF 14 = ⟨#[]⟩ := rfl
set_option maxHeartbeats 4000000 in
set_option maxRecDepth 100000 in
theorem kinds_calls (w : World) :
  Calls Tryd.prog 80 #[] w fun e w' => e = .returned (.map (some w.heap.size)) ∧ w'.ownsMap Tryd.prog 9 (plainElem Tryd.prog 3) w.heap.size 13 (kindsD 13) ∧ Below w.heap.size w w' := by
 have hmm := @run_makeMap Tryd.prog
 have S0 : Aside0 ((w.alloc (.map #[] 0)).ownsMap Tryd.prog 9 (plainElem Tryd.prog 3) w.heap.size 0 (kindsD 0) ∧ Below w.heap.size w (w.alloc (.map #[] 0))) := ⟨⟨World.ownsMap_made _ _ _ _, (Below.refl _ _).alloc (Nat.le_refl _) _⟩⟩
 go_enter Tryd.func80, Tryd.ntmps80
 go_wp2_with fail
 clear hmm
 go_loopw [2] (fun i wr => ∃ t : Nat, t ≤ 13 ∧ i = .int .i64 ((t : Int) + 1) ∧ Aside0 (wr.ownsMap Tryd.prog 9 (plainElem Tryd.prog 3) w.heap.size t (kindsD t) ∧ Below w.heap.size w wr)) (fun i _ => 14 - (intOf i).toNat)
 case atStart => exact ⟨0, by omega, rfl, S0⟩
 case round =>
  clear S0
  obtain ⟨t, ht, rfl, S⟩ := hrel
  by_cases hlt : t < 13
  ·have hw := words_all ⟨t, hlt⟩
   obtain ⟨wd, hwd⟩ : ∃ wd, wordF ((t : Int) + 1) = wd := ⟨_, rfl⟩
   have hD : kindsD (t + 1) = (kindsD t).put (.string wd.data.toList) (.lit (.int .i64 ((t : Int) + 1))) := by rw [← hwd]; rfl
   have HW : Aside0 (∀ W, Calls Tryd.prog 57 #[.int .i64 ((t : Int) + 1)] W fun e w' => e = .returned (.string wd) ∧ Drawn0 W w') := ⟨fun W => by rw [← hwd]; exact word_calls _ W⟩
   simp only [hwd] at hw
   have hne := nonempty_false hw.2
   have hlen := hw.1
   have HD := Aside0.mk hD
   have hkey : keyOf Tryd.prog 9 (.string wd) = some (.string wd.data.toList) := keyOf_string_mk un9s (by unfold maxLen; omega)
   have HK := Aside0.mk hkey
   clear hw hwd hD hkey
   go_wp2_with (first
    | (go_at_call 57; refine (HW.out _).mono ?_; rintro e w2 ⟨rfl, ⟨⟨nq, rfl⟩⟩⟩)
    | (at_mapUpdate; refine wpList_mapUpdate_own _ rfl _ _ _ 141 rfl 9 3 law9 un141 _ w.heap.size t _ rfl (show World.ownsMap _ Tryd.prog 9 (plainElem Tryd.prog 3) w.heap.size t (kindsD t) from S.out.1) (by unfold maxLen; omega) _ _ _ rfl rfl HK.out _ [] (plainElem_int un3i (WalkArith.wf_i64 (by omega))) ?_; intro w1 hown1 hgrow1))
   refine ⟨⟨t + 1, by omega, by go_num, ⟨by rw [HD.out]; exact hown1, ?b⟩⟩, ?_⟩
   case b => exact (pw_below_drewN S.out.2 _).grown hgrow1 (by have := S.out.2.size; simpa using this) (fun j hj => by cases hj; exact Nat.le_refl _)
   simp only [intOf]; omega
  ·obtain rfl : t = 13 := by omega
   have HW : Aside0 (∀ W, Calls Tryd.prog 57 #[.int .i64 14] W fun e w' => e = .returned (.string ⟨#[]⟩) ∧ Drawn0 W w') := ⟨fun W => by rw [← word_end]; exact word_calls _ W⟩
   go_wp2_with (go_at_call 57; refine (HW.out _).mono ?_; rintro e w2 ⟨rfl, ⟨⟨nq, rfl⟩⟩⟩)
   go_ret
   exact ⟨rfl, S.out.1, pw_below_drewN S.out.2 _⟩
end Go.Proofs.YtiddiboclfpklaaDoor.Tz
namespace Go.Proofs.YtiddiboclfpklaaDoor.Tz
open Go.RowKit Go.Maps Go.WideShapes Go.ChangeShapes Go.WideMaps Go.Proofs.YtiddiboclfpklaaDoorW.PrintWords Go.Proofs.YtiddiboclfpklaaDoor.PScriptReads Go.Proofs.YtiddiboclfpklaaDoor.Tx
set_option linter.unusedVariables false
def kindU : Nat → ByteArray → Int
 | 0, _ => 0
 | t + 1, s => if s = wordF ((t : Int) + 1) then (t : Int) + 1 else kindU t s
def kindF (s : ByteArray) : Int := kindU 13 s
theorem key_ne {a b : ByteArray} (h : a ≠ b) : (Lit.string a.data.toList) ≠ .string b.data.toList := by
 intro e
 injection e with e
 exact h (ByteArray.ext (Array.toList_inj.1 e))
theorem kinds_at (s : ByteArray) : ∀ t : Nat, IsMap (kindsD t) ∧ (kindsD t).atKey (.string s.data.toList) (.lit (.int .i64 0)) = .lit (.int .i64 (kindU t s)) ∧ Maps.has (kindsD t) (.string s.data.toList) = !decide (kindU t s = 0)
 | 0 => ⟨isMap_empty, rfl, rfl⟩
 | t + 1 => by
  obtain ⟨h1, h2, h3⟩ := kinds_at s t
  refine ⟨h1.put _ _, ?_, ?_⟩
  ·rw [kindsD, kindU]
   by_cases h : s = wordF ((t : Int) + 1)
   ·rw [if_pos h, h, atKey_put_same h1 (show WideAt.IsKeyLit (.string _) from trivial)]
   ·rw [if_neg h, atKey_put_other (key_ne h), h2]
  ·rw [kindsD, kindU]
   by_cases h : s = wordF ((t : Int) + 1)
   ·rw [if_pos h, h, has_put_same h1 (show WideAt.IsKeyLit (.string _) from trivial), decide_eq_false (by omega)]; rfl
   ·rw [if_neg h, has_put_other (key_ne h), h3]
theorem zero3 (w : World) : (zeroValue 3).run Tryd.prog w = .ok (.int .i64 0) w := by kernel_rfl
theorem kinds_look {W : World} {b : Nat} (h : W.ownsMap Tryd.prog 9 (plainElem Tryd.prog 3) b 13 (kindsD 13)) (x : ByteArray) (hx : x.size ≤ 16777216) :
  (Instr.lookup 141 (.map (some b)) (.string x) true).run Tryd.prog W = .ok (.tuple #[.int .i64 (kindF x), .bool (!decide (kindF x = 0))]) W := by
 have hkey : keyOf Tryd.prog 9 (.string x) = some (.string x.data.toList) := keyOf_string_mk un9s (by unfold maxLen; omega)
 obtain ⟨v, ps, hrun, hv⟩ := h.look_ok law9 un141 (zero3 W) (plainElem_int un3i (by decide)) hkey
 obtain ⟨c, rfl, hc, _⟩ := plainElem_int_inv un3i hv
 obtain ⟨_, h2, h3⟩ := kinds_at x 13
 unfold kindF
 obtain ⟨K, hK⟩ : ∃ K, kindU 13 x = K := ⟨_, rfl⟩
 rw [hK] at h2 h3 ⊢
 simp only [Prod.mk.injEq] at hc
 rw [h2] at hc
 have hck : K = c :=
   (Lit.int.inj (DataW.lit.inj hc.1)).2
 rw [hrun, h3, hck]
def cutW : ByteArray := ⟨#[99, 117, 116]⟩
def mountW : ByteArray := ⟨#[109, 111, 117, 110, 116]⟩
theorem cutW_list : cutW.toList = [99, 117, 116] := by rw [Lib.toList_data]; rfl
theorem mountW_list : mountW.toList = [109, 111, 117, 110, 116] := by rw [Lib.toList_data]; rfl
def cutA : List Int → S66
 | [] => z66
 | n :: ms => ⟨z54, true, false, n, ms⟩
def opA (k n : Int) (d : ByteArray) (f : Int) (vs : List S107) : S66 := ⟨⟨k, n, d, ⟨f, vs⟩⟩, false, false, 0, []⟩
def beginP (r : List ByteArray) : Option S66 := if r.all isNum && decide (r.length = 1) then some (opA 1 (numOf (r.getD 0 ⟨#[]⟩)) ⟨#[]⟩ 0 []) else none
def chunkP (r : List ByteArray) : Option S66 := if (bytesF r).2 then some (opA 2 0 (bytesF r).1 0 []) else none
def keyedOk (k : Int) (r : List ByteArray) : Bool := (r.take 2).all isNum && ((r.drop 2).all isVal && (decide ((r.take 2).length = 2) && (decide (k = 12) || decide ((r.drop 2).length = 0))))
def keyedP (k : Int) (r : List ByteArray) : Option S66 := if keyedOk k r then some (opA k (numOf (r.getD 1 ⟨#[]⟩)) ⟨#[]⟩ (numOf (r.getD 0 ⟨#[]⟩)) ((r.drop 2).map valOf)) else none
def kindP (k : Int) (r : List ByteArray) : Option S66 :=
 if k = 1 then beginP r else if k = 2 then chunkP r else if k = 11 ∨ k = 12 ∨ k = 13 then keyedP k r
 else if k = 0 then none else if r.length = 0 then some (opA k 0 ⟨#[]⟩ 0 []) else none
def actP (x : ByteArray) (r : List ByteArray) : Option S66 :=
 if x = cutW then (if cutOk r then some (cutA (r.map numOf)) else none)
 else if x = mountW then (if r.length = 0 then some ⟨z54, false, true, 0, []⟩ else none)
 else kindP (kindF x) r
def actC (a : S66) (v4 v8 : Value) : Array Value := cells66 a.f0.f0 a.f0.f1 a.f0.f2 a.f0.f3.f0 v4 a.f1 a.f2 a.f3 v8
def ActR (w w' : World) (a : S66) (v4 v8 : Value) : Prop := Kd.R k107 107 w' w.heap.size (fun _ => True) v4 a.f0.f3.f1 ∧ Kd.R (Kd.int .u32) 116 w' w.heap.size (fun _ => True) v8 a.f4
def ActPost (w : World) (o : Option S66) (e : Ending) (w' : World) : Prop :=
 (∃ (a : S66) (v4 v8 : Value) (b : Bool), e = .returned (.tuple #[.agg (actC a v4 v8), .bool b]) ∧ ActR w w' a v4 v8 ∧ (b = true → o = some a) ∧ (b = false → o = none)) ∧ Below w.heap.size w w'
theorem actR_nil (w w' : World) (k n : Int) (d : ByteArray) (f : Int) (cut mount : Bool) (m : Int) : ActR w w' ⟨⟨k, n, d, ⟨f, []⟩⟩, cut, mount, m, []⟩ (.slice none 0 0) (.slice none 0 0) := ⟨Kd.R_nil _ _ _ _ _, Kd.R_nil _ _ _ _ _⟩
structure AS (w w3 wr : World) (cs : Array Value) : Prop where
 box : wr.heap[w3.heap.size]? = some (.cells cs 66 (0, 0))
 res : wr.heap[w.heap.size]? = some (.cells zero66 66 (0, 0))
 bel : Below w.heap.size w wr
 lt : w.heap.size < w3.heap.size
theorem AS.new {w w3 : World} (h : w3.heap[w.heap.size]? = some (.cells zero66 66 (0, 0))) (hb : Below w.heap.size w w3) (cs : Array Value) : AS w w3 (w3.alloc (.cells cs 66)) cs := ⟨blk_new _ _, blk_alloc h _, below_alloc hb _, blk_lt h⟩
theorem AS.below {w w3 wr w4 : World} {cs : Array Value} (S : AS w w3 wr cs) (hB : Below wr.heap.size wr w4) : AS w w3 w4 cs := ⟨blk_below S.box hB, blk_below S.res hB, S.bel.trans (hB.mono S.bel.size), S.lt⟩
theorem AS.put {w w3 wr : World} {cs : Array Value} (S : AS w w3 wr cs) (j : Nat) (u : Value) : AS w w3 (wr.setCell ⟨w3.heap.size, j, none⟩ u) (cs.setIfInBounds j u) := ⟨blk_set S.box j u, blk_far S.res (by have := S.lt; show w.heap.size ≠ w3.heap.size; omega) u, below_set S.bel (Nat.le_of_lt S.lt), S.lt⟩
set_option maxHeartbeats 4000000 in
set_option maxRecDepth 100000 in
theorem act_cut (x : ByteArray) (r : List ByteArray) (A : Option Addr) (c : Nat) (w : World) (hr : Kd.C Kd.string w A (x :: r).length (x :: r)) (hc : (x :: r).length ≤ c) (hx : ∀ y ∈ x :: r, y.size ≤ 16777216) (hl : r.length ≤ 16777216) (hxc : x = cutW) (o : Option S66) (HO : Aside0 ((if cutOk r then some (cutA (r.map numOf)) else none) = o)) :
  Calls Tryd.prog 65 #[.slice A (r.length + 1) c] w (ActPost w o) := by
 obtain ⟨A1, hcut, hC1, hc1⟩ := cut84 A c (x :: r) 1 (by simp) hc
 have HB := Aside0.mk (Below.alloc (Below.refl w.heap.size w) (Nat.le_refl _) (.cells #[.int .i64 0, .int .i64 0, .string ⟨#[]⟩, .int .i64 0, .slice none 0 0, .bool false, .bool false, .int .i64 0, .slice none 0 0] 66))
 obtain ⟨ad, hA, hc0⟩ := Kd.at_string hr 0 (by omega) (by simp)
 subst hA
 have hce : w.cell? ad = some (.string x) := by
  rw [show (0 : Int).toNat = 0 from rfl, Addr.add_zero'] at hc0
  exact hc0
 have hR1 := hC1 w hr
 replace hR1 : Kd.C Kd.string w A1 r.length r := hR1
 replace hcut : ∀ W : World, (Instr.slice 84 (.slice (some ad) (r.length + 1) c) (some (.int .i64 1)) none none).run Tryd.prog W = .ok (.slice A1 r.length (c - 1)) W := hcut
 replace hc1 : r.length ≤ c - 1 := hc1
 have K0 := Aside0.mk (blk_new w (.cells zero66 66))
 have HCE := Aside0.mk hce
 have HR1 := Aside0.mk (And.intro hR1 hc1)
 have HX := Aside0.mk (And.intro (hx x (by simp)) (fun y (hy : y ∈ r) => hx y (List.mem_cons_of_mem _ hy)))
 have hcm := pw_cell_below HB.out hce
 have hq1 : (1 : Int) ≤ ((r.length + 1 : Nat) : Int) := by omega
 have HZ := Aside0.mk (show zero66.all (·.oneCell') = true from one66 _ _ _ _ _ _ _ _ _ rfl rfl)
 clear hC1 hR1 hc1 hx hr hc hc0 hce
 have hw : (x.toList == [99, 117, 116]) = true := by rw [hxc, cutW_list]; simp
 have HC : Aside0 (∀ W, Below w.heap.size w W → Calls Tryd.prog 79 #[.slice A1 r.length (c - 1)] W fun e w' => (∃ a v8 b, e = .returned (.tuple #[.agg (actC a (.slice none 0 0) v8), .bool b]) ∧ a.f0 = z54 ∧ Kd.R (Kd.int .u32) 116 w' w.heap.size (fun _ => True) v8 a.f4 ∧ (b = true → o = some a) ∧ (b = false → o = none)) ∧ Below W.heap.size W w') := ⟨fun W hb => (cut_calls r A1 (c - 1) W (Kd.C_below HR1.out.1 hb) HX.out.2 hl).mono (by
  rintro e w' ⟨⟨h1, n, ms, v, h2, rfl, h3⟩ | ⟨h1, rfl⟩, hB⟩
  ·exact ⟨⟨⟨z54, true, false, n, ms⟩, v, true, rfl, rfl, Kd.R_lower h3 hb.size, fun _ => by rw [← HO.out, if_pos h1, h2]; rfl, fun h => by cases h⟩, hB⟩
  ·exact ⟨⟨z66, .slice none 0 0, false, rfl, rfl, Kd.R_nil _ _ _ _ _, fun h => (by cases h), fun _ => by rw [← HO.out, h1]; rfl⟩, hB⟩)⟩
 clear hxc hl
 go_enter Tryd.func65, Tryd.ntmps65
 go_wp2_with (first
  | (go_at_call 79; refine (HC.out _ HB.out).mono ?_; rintro e w2 ⟨⟨a, v8, b, rfl, ha, h8, hb1, hb0⟩, hB⟩; have K2 := Aside0.mk (blk_below K0.out hB); have B2 := Aside0.mk (HB.out.trans (hB.mono HB.out.size)); have H8 := Aside0.mk (And.intro ha (And.intro h8 (And.intro hb1 hb0))); clear hB ha h8 hb1 hb0)
  | (refine wpList_store_row rfl 66 _ _ rfl w.heap.size (actC a (.slice none 0 0) v8) rfl rfl 66 zero66 K2.out size66 rfl (one66 _ _ _ _ _ _ _ _ _ rfl (R_one H8.out.2.1)) ?_))
 refine bodyPost_ret (results_ct rfl _ _ w.heap.size 66 _ (0, 0) _ rfl (setRow_heap w2 w.heap.size zero66 (actC a (.slice none 0 0) v8) 66 (0, 0) K2.out) Tryd.underlying66 rfl size66) rfl ?_
 exact ⟨⟨a, .slice none 0 0, v8, b, rfl, ⟨by rw [H8.out.1]; exact Kd.R_nil _ _ _ _ _, R_setRow H8.out.2.1 K2.out ty116 _⟩, H8.out.2.2.1, H8.out.2.2.2⟩, below_setRow B2.out (Nat.le_refl _) _⟩
set_option maxHeartbeats 4000000 in
set_option maxRecDepth 100000 in
theorem act_mount (x : ByteArray) (r : List ByteArray) (A : Option Addr) (c : Nat) (w : World) (hr : Kd.C Kd.string w A (x :: r).length (x :: r)) (hc : (x :: r).length ≤ c) (hx : ∀ y ∈ x :: r, y.size ≤ 16777216) (hl : r.length ≤ 16777216) (hxc : x = mountW) (o : Option S66) (HO : Aside0 ((if r.length = 0 then some ⟨z54, false, true, 0, []⟩ else none) = o)) :
  Calls Tryd.prog 65 #[.slice A (r.length + 1) c] w (ActPost w o) := by
 obtain ⟨A1, hcut, hC1, hc1⟩ := cut84 A c (x :: r) 1 (by simp) hc
 have HB := Aside0.mk (Below.alloc (Below.refl w.heap.size w) (Nat.le_refl _) (.cells #[.int .i64 0, .int .i64 0, .string ⟨#[]⟩, .int .i64 0, .slice none 0 0, .bool false, .bool false, .int .i64 0, .slice none 0 0] 66))
 obtain ⟨ad, hA, hc0⟩ := Kd.at_string hr 0 (by omega) (by simp)
 subst hA
 have hce : w.cell? ad = some (.string x) := by
  rw [show (0 : Int).toNat = 0 from rfl, Addr.add_zero'] at hc0
  exact hc0
 have hR1 := hC1 w hr
 replace hR1 : Kd.C Kd.string w A1 r.length r := hR1
 replace hcut : ∀ W : World, (Instr.slice 84 (.slice (some ad) (r.length + 1) c) (some (.int .i64 1)) none none).run Tryd.prog W = .ok (.slice A1 r.length (c - 1)) W := hcut
 replace hc1 : r.length ≤ c - 1 := hc1
 have K0 := Aside0.mk (blk_new w (.cells zero66 66))
 have HCE := Aside0.mk hce
 have HR1 := Aside0.mk (And.intro hR1 hc1)
 have HX := Aside0.mk (And.intro (hx x (by simp)) (fun y (hy : y ∈ r) => hx y (List.mem_cons_of_mem _ hy)))
 have hcm := pw_cell_below HB.out hce
 have hq1 : (1 : Int) ≤ ((r.length + 1 : Nat) : Int) := by omega
 have HZ := Aside0.mk (show zero66.all (·.oneCell') = true from one66 _ _ _ _ _ _ _ _ _ rfl rfl)
 clear hC1 hR1 hc1 hx hr hc hc0 hce
 have hw0 : (x.toList == [99, 117, 116]) = false := by rw [hxc, mountW_list]; rfl
 have hw : (x.toList == [109, 111, 117, 110, 116]) = true := by rw [hxc, mountW_list]; simp
 clear hxc hl
 by_cases h0 : r.length = 0
 ·have HO2 := Aside0.mk (HO.out.symm.trans (if_pos h0))
  rw [h0] at hcut hq1 ⊢
  clear h0 HO
  go_enter Tryd.func65, Tryd.ntmps65
  go_wp2_with (refine wpList_store_row rfl 66 _ _ rfl w.heap.size (cells66 0 0 ⟨#[]⟩ 0 (.slice none 0 0) false true 0 (.slice none 0 0)) rfl rfl 66 zero66 K0.out size66 rfl (one66 _ _ _ _ _ _ _ _ _ rfl rfl) ?_)
  refine bodyPost_ret (results_ct rfl _ _ w.heap.size 66 _ (0, 0) _ rfl (setRow_heap _ w.heap.size zero66 (cells66 0 0 ⟨#[]⟩ 0 (.slice none 0 0) false true 0 (.slice none 0 0)) 66 (0, 0) K0.out) Tryd.underlying66 rfl size66) rfl ?_
  exact ⟨⟨⟨z54, false, true, 0, []⟩, .slice none 0 0, .slice none 0 0, true, rfl, actR_nil _ _ _ _ _ _ _ _ _, fun h => HO2.out, fun h => by cases h⟩, below_setRow HB.out (Nat.le_refl _) _⟩
 ·have hb2 : (((r.length + 1 : Nat) : Int) == 1) = false := beq_eq_false_iff_ne.2 (by omega)
  have hb3 : ((r.length : Int) + 1 == 1) = false := beq_eq_false_iff_ne.2 (by omega)
  have HO2 := Aside0.mk (HO.out.symm.trans (if_neg h0))
  clear HO
  go_enter Tryd.func65, Tryd.ntmps65
  go_wp2_with (refine wpList_store_row rfl 66 _ _ rfl w.heap.size (cells66 0 0 ⟨#[]⟩ 0 (.slice none 0 0) false true 0 (.slice none 0 0)) rfl rfl 66 zero66 K0.out size66 rfl (one66 _ _ _ _ _ _ _ _ _ rfl rfl) ?_)
  refine bodyPost_ret (results_ct rfl _ _ w.heap.size 66 _ (0, 0) _ rfl (setRow_heap _ w.heap.size zero66 (cells66 0 0 ⟨#[]⟩ 0 (.slice none 0 0) false true 0 (.slice none 0 0)) 66 (0, 0) K0.out) Tryd.underlying66 rfl size66) rfl ?_
  exact ⟨⟨⟨z54, false, true, 0, []⟩, .slice none 0 0, .slice none 0 0, false, by first | rfl | (simp [hb2, hb3]; rfl), actR_nil _ _ _ _ _ _ _ _ _, fun h => (by cases h), fun h => HO2.out⟩, below_setRow HB.out (Nat.le_refl _) _⟩
set_option maxHeartbeats 4000000 in
set_option maxRecDepth 100000 in
theorem act_other (x : ByteArray) (r : List ByteArray) (A : Option Addr) (c : Nat) (w : World) (hr : Kd.C Kd.string w A (x :: r).length (x :: r)) (hc : (x :: r).length ≤ c) (hx : ∀ y ∈ x :: r, y.size ≤ 16777216) (hl : r.length ≤ 16777216) (h1 : x ≠ cutW) (h2 : x ≠ mountW) (hk3 : ¬ (kindF x = 11 ∨ kindF x = 12 ∨ kindF x = 13)) (o : Option S66) (HO : Aside0 ((kindP (kindF x) r) = o)) :
  Calls Tryd.prog 65 #[.slice A (r.length + 1) c] w (ActPost w o) := by
 obtain ⟨A1, hcut, hC1, hc1⟩ := cut84 A c (x :: r) 1 (by simp) hc
 have HB := Aside0.mk (Below.alloc (Below.refl w.heap.size w) (Nat.le_refl _) (.cells #[.int .i64 0, .int .i64 0, .string ⟨#[]⟩, .int .i64 0, .slice none 0 0, .bool false, .bool false, .int .i64 0, .slice none 0 0] 66))
 obtain ⟨ad, hA, hc0⟩ := Kd.at_string hr 0 (by omega) (by simp)
 subst hA
 have hce : w.cell? ad = some (.string x) := by
  rw [show (0 : Int).toNat = 0 from rfl, Addr.add_zero'] at hc0
  exact hc0
 have hR1 := hC1 w hr
 replace hR1 : Kd.C Kd.string w A1 r.length r := hR1
 replace hcut : ∀ W : World, (Instr.slice 84 (.slice (some ad) (r.length + 1) c) (some (.int .i64 1)) none none).run Tryd.prog W = .ok (.slice A1 r.length (c - 1)) W := hcut
 replace hc1 : r.length ≤ c - 1 := hc1
 have K0 := Aside0.mk (blk_new w (.cells zero66 66))
 have HCE := Aside0.mk hce
 have HR1 := Aside0.mk (And.intro hR1 hc1)
 have HX := Aside0.mk (And.intro (hx x (by simp)) (fun y (hy : y ∈ r) => hx y (List.mem_cons_of_mem _ hy)))
 have hcm := pw_cell_below HB.out hce
 have hq1 : (1 : Int) ≤ ((r.length + 1 : Nat) : Int) := by omega
 have HZ := Aside0.mk (show zero66.all (·.oneCell') = true from one66 _ _ _ _ _ _ _ _ _ rfl rfl)
 clear hC1 hR1 hc1 hx hr hc hc0 hce
 have hw0 : (x.toList == [99, 117, 116]) = false := by rw [← cutW_list, word_eq, decide_eq_false h1]
 have hw1 : (x.toList == [109, 111, 117, 110, 116]) = false := by rw [← mountW_list, word_eq, decide_eq_false h2]
 have HKn : Aside0 (∀ W, Calls Tryd.prog 80 #[] W fun e w' => e = .returned (.map (some W.heap.size)) ∧ w'.ownsMap Tryd.prog 9 (plainElem Tryd.prog 3) W.heap.size 13 (kindsD 13) ∧ Below W.heap.size W w') := ⟨fun W => kinds_calls W⟩
 have HNn : Aside0 (∀ W, Below w.heap.size w W → Calls Tryd.prog 78 #[.slice A1 r.length (c - 1)] W (NumsPost W r)) := ⟨fun W hb => numbers_calls r A1 (c - 1) W (Kd.C_below HR1.out.1 hb) HX.out.2 hl⟩
 have HBy : Aside0 (∀ W, Below w.heap.size w W → Calls Tryd.prog 64 #[.slice A1 r.length (c - 1)] W fun e w' => e = .returned (.tuple #[.string (bytesF r).1, .bool (bytesF r).2]) ∧ Below W.heap.size W w') := ⟨fun W hb => bytes_calls r A1 (c - 1) W (Kd.C_below HR1.out.1 hb) HX.out.2⟩
 obtain ⟨K, hK⟩ : ∃ K, kindF x = K := ⟨_, rfl⟩
 rw [hK] at HO hk3
 have HLk : Aside0 (∀ (W : World) (b : Nat), W.ownsMap Tryd.prog 9 (plainElem Tryd.prog 3) b 13 (kindsD 13) → (Instr.lookup 141 (.map (some b)) (.string x) true).run Tryd.prog W = .ok (.tuple #[.int .i64 K, .bool (!decide (K = 0))]) W) := ⟨fun W b h => by rw [← hK]; exact kinds_look h x HX.out.1⟩
 obtain ⟨kb, hkb⟩ : ∃ kb, (!decide (K = 0)) = kb := ⟨_, rfl⟩
 rw [hkb] at HLk
 have HKB := Aside0.mk hkb
 clear h1 h2 hK hkb hl
 go_enter Tryd.func65, Tryd.ntmps65
 go_upto_region 5 with (fail)
 go_cut [4, 5] (fun k v wc => k = .int .i64 K ∧ v = .bool kb ∧ Aside0 (wc.heap[w.heap.size]? = some (.cells zero66 66 (0, 0)) ∧ Below w.heap.size w wc))
 case first =>
  go_region_with ((go_at_call 80; refine (HKn.out _).mono ?_; rintro e w2 ⟨rfl, hm, hB⟩; replace hm : w2.ownsMap Tryd.prog 9 (plainElem Tryd.prog 3) (w.heap.size + 1) 13 (kindsD 13) := (by first | exact hm | simpa using hm); have hl0 := HLk.out w2 _ hm; have hl1 := HLk.out w2.drew _ hm; have hl2 := fun n => HLk.out (w2.drewN n) _ hm; have hce2 := pw_cell_below (HB.out.trans ((below_step (by repeat (first | exact Below.refl _ _ | apply pw_below_drewN | apply below_drew1)) hB).mono HB.out.size)) HCE.out; have K2 := Aside0.mk (blk_below K0.out (below_step (by repeat (first | exact Below.refl _ _ | apply pw_below_drewN | apply below_drew1)) hB)); have B2 := Aside0.mk (HB.out.trans ((below_step (by repeat (first | exact Below.refl _ _ | apply pw_below_drewN | apply below_drew1)) hB).mono HB.out.size)); clear hB hm))
  all_goals go_wp2
  all_goals go_meet
  all_goals exact ⟨rfl, rfl, ⟨K2.out, by repeat (first | exact B2.out | apply pw_below_drewN | apply below_drew1)⟩⟩
 case rest =>
 obtain ⟨rfl, rfl, HS⟩ := hcut
 rename World => w3
 have S0 : Aside0 (AS w w3 (w3.alloc (.cells (cells66 K 0 ⟨#[]⟩ 0 (.slice none 0 0) false false 0 (.slice none 0 0)) 66)) (cells66 K 0 ⟨#[]⟩ 0 (.slice none 0 0) false false 0 (.slice none 0 0))) := ⟨AS.new HS.out.1 HS.out.2 _⟩
 clear HKn HLk
 by_cases hk1 : K = 1
 ·subst hk1
  clear HBy
  replace HO : Aside0 (beginP r = o) := ⟨HO.out⟩
  cases hall : r.all isNum with
  | false =>
   have HO2 : Aside0 (o = none) := ⟨by rw [← HO.out]; unfold beginP; rw [hall]; rfl⟩
   have HN2 : Aside0 (∀ W, Below w.heap.size w W → Calls Tryd.prog 78 #[.slice A1 r.length (c - 1)] W fun e w' => e = .returned (.tuple #[.slice none 0 0, .bool false]) ∧ Below W.heap.size W w') := ⟨fun W hb => (HNn.out W hb).mono (by
    rintro e w' ⟨⟨h1, _⟩ | ⟨_, h2⟩, hB⟩
    ·rw [hall] at h1; cases h1
    ·exact ⟨h2, hB⟩)⟩
   clear HNn hall HO
   go_wp2_with (first
    | (go_at_call 78; refine (HN2.out _ S0.out.bel).mono ?_; rintro e w4 ⟨rfl, hB⟩; have S4 := Aside0.mk (S0.out.below hB); clear hB)
    | (refine wpList_load_row rfl 66 _ rfl w3.heap.size rfl 66 _ (0, 0) _ S4.out.box Tryd.underlying66 rfl size66 ?_)
    | (refine wpList_store_row rfl 66 _ _ rfl w.heap.size _ rfl rfl 66 zero66 S4.out.res size66 rfl (one66 _ _ _ _ _ _ _ _ _ rfl rfl) ?_))
   refine bodyPost_ret (results_ct rfl _ _ w.heap.size 66 _ (0, 0) _ rfl (setRow_heap _ w.heap.size zero66 (cells66 1 0 ⟨#[]⟩ 0 (.slice none 0 0) false false 0 (.slice none 0 0)) 66 (0, 0) S4.out.res) Tryd.underlying66 rfl size66) rfl ?_
   exact ⟨⟨opA 1 0 ⟨#[]⟩ 0 [], .slice none 0 0, .slice none 0 0, false, by first | rfl | (simp; done), actR_nil _ _ _ _ _ _ _ _ _, fun h => (by cases h), fun _ => HO2.out⟩, below_setRow S4.out.bel (Nat.le_refl _) _⟩
  | true =>
   have HN2 : Aside0 (∀ W, Below w.heap.size w W → Calls Tryd.prog 78 #[.slice A1 r.length (c - 1)] W fun e w' => (∃ A3 c3, e = .returned (.tuple #[.slice A3 r.length c3, .bool true]) ∧ Kd.C (Kd.int .i64) w' A3 r.length (r.map numOf)) ∧ Below W.heap.size W w') := ⟨fun W hb => (HNn.out W hb).mono (by
    rintro e w' ⟨⟨_, v, rfl, hv⟩ | ⟨h1, _⟩, hB⟩
    ·obtain ⟨A3, c3, rfl, h2, h3⟩ := Kd.R_reads hv
     rw [List.length_map] at h2 h3 ⊢
     exact ⟨⟨A3, c3, rfl, h3⟩, hB⟩
    ·rw [hall] at h1; cases h1)⟩
   by_cases hl1 : r.length = 1
   ·obtain ⟨n, hn⟩ : ∃ n, numOf (r.getD 0 ⟨#[]⟩) = n := ⟨_, rfl⟩
    have HO2 : Aside0 (o = some (opA 1 n ⟨#[]⟩ 0 [])) := ⟨by rw [← HO.out]; unfold beginP; rw [hall, decide_eq_true hl1, hn]; rfl⟩
    have hrm : r.map numOf = [n] := by
     rw [← hn]
     match r, hl1 with
     | [y], _ => rfl
    rw [hrm] at HN2
    have hb1 : ((r.length : Int) == 1) = true := beq_iff_eq.2 (by omega)
    have hpos : 0 < r.length := by omega
    have hpos2 : (0 : Int) < (r.length : Int) := by omega
    clear HNn hall HO hl1 hn hrm
    go_wp2_with (first
     | (go_at_call 78; refine (HN2.out _ S0.out.bel).mono ?_; rintro e w4 ⟨⟨A3, c3, rfl, hC3⟩, hB⟩; have S4 := Aside0.mk (S0.out.below hB); have S5 := Aside0.mk (S4.out.put 1 (.int .i64 n)); have z1 : w4.cell? ⟨w3.heap.size, 1, none⟩ = some (.int .i64 0) := (blk_cell S4.out.box 1).trans rfl; have f1 := blk_frozen S4.out.box 1; clear hB; obtain ⟨a3, hA3, n0⟩ := Kd.at_int hC3 0 (by omega) hpos2; subst hA3; clear hC3; have m0 : w4.cell? a3 = some (.int .i64 n) := (by (have h := n0; rw [show (0 : Int).toNat = 0 from rfl, Addr.add_zero'] at h; exact h)); clear n0)
     | (refine wpList_load_row rfl 66 _ rfl w3.heap.size rfl 66 _ (0, 0) _ S5.out.box Tryd.underlying66 rfl size66 ?_)
     | (refine wpList_store_row rfl 66 _ _ rfl w.heap.size _ rfl rfl 66 zero66 S5.out.res size66 rfl (one66 _ _ _ _ _ _ _ _ _ rfl rfl) ?_))
    refine bodyPost_ret (results_ct rfl _ _ w.heap.size 66 _ (0, 0) _ rfl (setRow_heap _ w.heap.size zero66 (cells66 1 n ⟨#[]⟩ 0 (.slice none 0 0) false false 0 (.slice none 0 0)) 66 (0, 0) S5.out.res) Tryd.underlying66 rfl size66) rfl ?_
    exact ⟨⟨opA 1 n ⟨#[]⟩ 0 [], .slice none 0 0, .slice none 0 0, true, by first | rfl | (simp; done), actR_nil _ _ _ _ _ _ _ _ _, fun _ => HO2.out, fun h => (by cases h)⟩, below_setRow S5.out.bel (Nat.le_refl _) _⟩
   ·have HO2 : Aside0 (o = none) := ⟨by rw [← HO.out]; unfold beginP; rw [decide_eq_false hl1, Bool.and_false]; rfl⟩
    have hb1 : ((r.length : Int) == 1) = false := beq_eq_false_iff_ne.2 (by omega)
    clear HNn hall HO
    go_wp2_with (first
     | (go_at_call 78; refine (HN2.out _ S0.out.bel).mono ?_; rintro e w4 ⟨⟨A3, c3, rfl, _⟩, hB⟩; have S4 := Aside0.mk (S0.out.below hB); clear hB)
     | (refine wpList_load_row rfl 66 _ rfl w3.heap.size rfl 66 _ (0, 0) _ S4.out.box Tryd.underlying66 rfl size66 ?_)
     | (refine wpList_store_row rfl 66 _ _ rfl w.heap.size _ rfl rfl 66 zero66 S4.out.res size66 rfl (one66 _ _ _ _ _ _ _ _ _ rfl rfl) ?_))
    refine bodyPost_ret (results_ct rfl _ _ w.heap.size 66 _ (0, 0) _ rfl (setRow_heap _ w.heap.size zero66 (cells66 1 0 ⟨#[]⟩ 0 (.slice none 0 0) false false 0 (.slice none 0 0)) 66 (0, 0) S4.out.res) Tryd.underlying66 rfl size66) rfl ?_
    exact ⟨⟨opA 1 0 ⟨#[]⟩ 0 [], .slice none 0 0, .slice none 0 0, false, by first | rfl | (simp; done), actR_nil _ _ _ _ _ _ _ _ _, fun h => (by cases h), fun _ => HO2.out⟩, below_setRow S4.out.bel (Nat.le_refl _) _⟩
 by_cases hk2 : K = 2
 ·subst hk2
  clear HNn
  obtain ⟨d, hd⟩ : ∃ d, (bytesF r).1 = d := ⟨_, rfl⟩
  obtain ⟨b, hb⟩ : ∃ b, (bytesF r).2 = b := ⟨_, rfl⟩
  have HO2 : Aside0 ((if b = true then some (opA 2 0 d 0 []) else none) = o) := ⟨by rw [← HO.out, ← hd, ← hb]; rfl⟩
  rw [hd, hb] at HBy
  clear HO hd hb
  go_wp2_with (first
   | (go_at_call 64; refine (HBy.out _ S0.out.bel).mono ?_; rintro e w4 ⟨rfl, hB⟩; have S4 := Aside0.mk (S0.out.below hB); have S5 := Aside0.mk (S4.out.put 2 (.string d)); have z1 : w4.cell? ⟨w3.heap.size, 2, none⟩ = some (.string ⟨#[]⟩) := (blk_cell S4.out.box 2).trans rfl; have f1 := blk_frozen S4.out.box 2; clear hB)
   | (refine wpList_load_row rfl 66 _ rfl w3.heap.size rfl 66 _ (0, 0) _ S5.out.box Tryd.underlying66 rfl size66 ?_)
   | (refine wpList_store_row rfl 66 _ _ rfl w.heap.size _ rfl rfl 66 zero66 S5.out.res size66 rfl (one66 _ _ _ _ _ _ _ _ _ rfl rfl) ?_))
  refine bodyPost_ret (results_ct rfl _ _ w.heap.size 66 _ (0, 0) _ rfl (setRow_heap _ w.heap.size zero66 (cells66 2 0 d 0 (.slice none 0 0) false false 0 (.slice none 0 0)) 66 (0, 0) S5.out.res) Tryd.underlying66 rfl size66) rfl ?_
  exact ⟨⟨opA 2 0 d 0 [], .slice none 0 0, .slice none 0 0, b, by first | rfl | (simp; done), actR_nil _ _ _ _ _ _ _ _ _, fun h => (by rw [← HO2.out, if_pos h]), fun h => (by rw [← HO2.out, h]; rfl)⟩, below_setRow S5.out.bel (Nat.le_refl _) _⟩
 clear HNn HBy
 have e1 : (K == 1) = false := beq_eq_false_iff_ne.2 hk1
 have e2 : (K == 2) = false := beq_eq_false_iff_ne.2 hk2
 have e3 : (K == 11) = false := beq_eq_false_iff_ne.2 (by omega)
 have e4 : (K == 12) = false := beq_eq_false_iff_ne.2 (by omega)
 have e5 : (K == 13) = false := beq_eq_false_iff_ne.2 (by omega)
 have HP : kindP K r = if K = 0 then none else if r.length = 0 then some (opA K 0 ⟨#[]⟩ 0 []) else none := by
  unfold kindP
  rw [if_neg hk1, if_neg hk2, if_neg hk3]
 by_cases hk0 : K = 0
 ·subst hk0
  have HO2 : Aside0 (o = none) := ⟨by rw [← HO.out, HP]; rfl⟩
  obtain rfl : kb = false := by rw [← HKB.out]; rfl
  clear HO HP hk1 hk2 hk3
  go_wp2_with (first
   | (refine wpList_load_row rfl 66 _ rfl w3.heap.size rfl 66 _ (0, 0) _ S0.out.box Tryd.underlying66 rfl size66 ?_)
   | (refine wpList_store_row rfl 66 _ _ rfl w.heap.size _ rfl rfl 66 zero66 S0.out.res size66 rfl (one66 _ _ _ _ _ _ _ _ _ rfl rfl) ?_))
  refine bodyPost_ret (results_ct rfl _ _ w.heap.size 66 _ (0, 0) _ rfl (setRow_heap _ w.heap.size zero66 (cells66 0 0 ⟨#[]⟩ 0 (.slice none 0 0) false false 0 (.slice none 0 0)) 66 (0, 0) S0.out.res) Tryd.underlying66 rfl size66) rfl ?_
  exact ⟨⟨opA 0 0 ⟨#[]⟩ 0 [], .slice none 0 0, .slice none 0 0, false, by first | rfl | (simp; done), actR_nil _ _ _ _ _ _ _ _ _, fun h => (by cases h), fun _ => HO2.out⟩, below_setRow S0.out.bel (Nat.le_refl _) _⟩
 ·obtain rfl : kb = true := by rw [← HKB.out, decide_eq_false hk0]; rfl
  rw [if_neg hk0] at HP
  by_cases hl0 : r.length = 0
  ·have HO2 : Aside0 (o = some (opA K 0 ⟨#[]⟩ 0 [])) := ⟨by rw [← HO.out, HP, if_pos hl0]⟩
   have hcut1 : ∀ W : World, (Instr.slice 84 (.slice (some ad) 1 c) (some (.int .i64 1)) none none).run Tryd.prog W = .ok (.slice A1 0 (c - 1)) W := by have h := hcut; rw [hl0] at h; exact h
   have hb0 : ((r.length : Int) == 0) = true := beq_iff_eq.2 (by omega)
   clear HO HP hk1 hk2 hk3 hk0
   go_wp2_with (first
    | (refine wpList_load_row rfl 66 _ rfl w3.heap.size rfl 66 _ (0, 0) _ S0.out.box Tryd.underlying66 rfl size66 ?_)
    | (refine wpList_store_row rfl 66 _ _ rfl w.heap.size _ rfl rfl 66 zero66 S0.out.res size66 rfl (one66 _ _ _ _ _ _ _ _ _ rfl rfl) ?_))
   refine bodyPost_ret (results_ct rfl _ _ w.heap.size 66 _ (0, 0) _ rfl (setRow_heap _ w.heap.size zero66 (cells66 K 0 ⟨#[]⟩ 0 (.slice none 0 0) false false 0 (.slice none 0 0)) 66 (0, 0) S0.out.res) Tryd.underlying66 rfl size66) rfl ?_
   exact ⟨⟨opA K 0 ⟨#[]⟩ 0 [], .slice none 0 0, .slice none 0 0, true, by first | rfl | (simp; done), actR_nil _ _ _ _ _ _ _ _ _, fun _ => HO2.out, fun h => (by cases h)⟩, below_setRow S0.out.bel (Nat.le_refl _) _⟩
  ·have HO2 : Aside0 (o = none) := ⟨by rw [← HO.out, HP, if_neg hl0]⟩
   have hb0 : ((r.length : Int) == 0) = false := beq_eq_false_iff_ne.2 (by omega)
   clear HO HP hk1 hk2 hk3 hk0
   go_wp2_with (first
    | (refine wpList_load_row rfl 66 _ rfl w3.heap.size rfl 66 _ (0, 0) _ S0.out.box Tryd.underlying66 rfl size66 ?_)
    | (refine wpList_store_row rfl 66 _ _ rfl w.heap.size _ rfl rfl 66 zero66 S0.out.res size66 rfl (one66 _ _ _ _ _ _ _ _ _ rfl rfl) ?_))
   refine bodyPost_ret (results_ct rfl _ _ w.heap.size 66 _ (0, 0) _ rfl (setRow_heap _ w.heap.size zero66 (cells66 K 0 ⟨#[]⟩ 0 (.slice none 0 0) false false 0 (.slice none 0 0)) 66 (0, 0) S0.out.res) Tryd.underlying66 rfl size66) rfl ?_
   exact ⟨⟨opA K 0 ⟨#[]⟩ 0 [], .slice none 0 0, .slice none 0 0, false, by first | rfl | (simp; done), actR_nil _ _ _ _ _ _ _ _ _, fun h => (by cases h), fun _ => HO2.out⟩, below_setRow S0.out.bel (Nat.le_refl _) _⟩
end Go.Proofs.YtiddiboclfpklaaDoor.Tz
