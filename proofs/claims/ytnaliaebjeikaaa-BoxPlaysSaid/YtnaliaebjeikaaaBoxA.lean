/- The walks of the boxes' methods: a select of one case with a default, in one goroutine. Printed by wip/gen/box_a.py. -/
import Derived.Test.YtnaliaebjeikaaaProg
import Derived.Test.YtnaliaebjeikaaaWWords
import Derived.Conc.LoneSelect
import Derived.Conc.LoneSelectN
import Derived.KernelRfl
import Derived.Laws.Rows
import Derived.WalkKit
import Derived.OwnWalk
import Derived.Outline
namespace Go.Proofs.Ytnaliaebjeikaaa
open Go.Conc Go.RowKit Go.Proofs.YtnaliaebjeikaaaW.PrintWords

/-- Block b is a box, of type T; its channel lies in block c, has room for cap, and holds buf. -/
structure IsBox (T : Nat) (w : World) (b c cap s r : Nat) (buf : Array Value) : Prop where
  box : w.heap[b]? = some (.cells #[.chan (some c)] T (0, 0))
  chan : w.heap[c]? = some (.chan cap buf false s r false)

theorem IsBox.cell {T : Nat} {w : World} {b c cap s r : Nat} {buf : Array Value} (h : IsBox T w b c cap s r buf) : w.cell? ⟨b, 0, none⟩ = some (.chan (some c)) := (cell_of_row w b 0 _ _ _ h.box)
theorem IsBox.ne {T : Nat} {w : World} {b c cap s r : Nat} {buf : Array Value} (h : IsBox T w b c cap s r buf) : b ≠ c := fun e => by
  have h1 := h.box
  rw [e, h.chan] at h1
  cases h1
theorem IsBox.set {T : Nat} {w : World} {b c cap s r : Nat} {buf : Array Value} (h : IsBox T w b c cap s r buf) (buf' : Array Value) (s' r' : Nat) : IsBox T (w.setChan c cap buf' false s' r' false) b c cap s' r' buf' :=
  ⟨by rw [← h.box]; simp [World.setChan, Array.getElem?_setIfInBounds_ne h.ne.symm], heap_setChan w c cap buf' false s' r' false (Array.getElem?_eq_some_iff.1 h.chan).1⟩
theorem grown_setChan (w : World) (c cap : Nat) (buf : Array Value) (s r : Nat) : w.grownBy (w.setChan c cap buf false s r false) (some c) :=
  ⟨rfl, rfl, rfl, by simp [World.setChan], fun k _ hk => by simp [World.setChan, Array.getElem?_setIfInBounds_ne (fun e => hk (by rw [e]) : c ≠ k)]⟩

/-- A box that holds the list xs. -/
def HoldsBox {α : Type} (T : Nat) (enc : α → Value) (w : World) (b c cap : Nat) (xs : List α) : Prop := ∃ s r, IsBox T w b c cap s r (xs.map enc).toArray
theorem HoldsBox.kept {α : Type} {T : Nat} {enc : α → Value} {w w' : World} {b c cap : Nat} {xs : List α} (h : HoldsBox T enc w b c cap xs) {row : Option Nat} (hg : w.grownBy w' row) (h1 : some b ≠ row) (h2 : some c ≠ row) : HoldsBox T enc w' b c cap xs := by
  obtain ⟨s, r, hb⟩ := h
  exact ⟨s, r, (hg.block b (Array.getElem?_eq_some_iff.1 hb.box).1 h1).trans hb.box, (hg.block c (Array.getElem?_eq_some_iff.1 hb.chan).1 h2).trans hb.chan⟩

/-- How much room a box has of which so much was asked. -/
def clamp (n : Int) : Nat := if n < 0 then 0 else if 64 < n then 64 else n.toNat

/-! ### at int -/
set_option maxRecDepth 100000 in
theorem putI_room (x : Int) (w : World) (b c cap s r : Nat) (buf : Array Value) (h : IsBox 69 w b c cap s r buf) (hroom : buf.size < cap) :
    Calls Try.prog 19 #[.pointer (some ⟨b, 0, none⟩), .int .i64 x] w fun e w' => e = .returned (.bool true) ∧ w' = w.setChan c cap (buf.push (.int .i64 x)) false (s + 1) r false := by
  refine calls_of_loneTo fun cs => ?_
  have e : Frame.enter Try.prog 19 #[.pointer (some ⟨b, 0, none⟩), .int .i64 x] .normal = (base 19).at ⟨#[.pointer (some ⟨b, 0, none⟩), .int .i64 x, undef, undef, undef, undef, undef, undef, undef, undef, undef, undef, undef, undef, undef], []⟩ [.code (Try.f19.body.getD .skip)] := by
    simp [Frame.enter, Frame.at, Try.func19, base, Try.f19]
  rw [e]
  have hc := h.cell
  refine LoneTo.goes (n := 40) ?_
  simp only [Try.f19, Option.getD_some]
  s_c stepG_seq
  s_reg
  s_op
  s_c stepG_region_end
  s_c stepG_seq
  s_c stepG_seq
  s_reg
  s_op
  s_op
  s_c stepG_region_end
  s_cond false
  s_c stepG_skip
  s_c stepG_seq
  s_c stepG_seq
  s_reg
  s_op
  s_op
  s_op
  s_op
  s_c stepG_region_end
  s_reg
  s_op
  s_c stepG_region_end
  s_c stepG_seq
  s_reg
  s_stop
  refine LoneTo.step (step_lone_select_send_room (c := c) (cap := cap) (buf := buf) (s := s) (r := r) (tm := false) (v := .int .i64 x) (z' := .int .i64 0) (stepG_comm (cases := #[scase c (.int .i64 x) (.int .i64 0)]) (blocking := false) (shape := .select) (w' := w) rfl rfl (by decide) (by simp [go_sem, execOp, scase, Act.eval])) h.chan hroom) ?_
  rw [Frame.finish_at]
  walk_nrm
  refine LoneTo.goes (n := 20) ?_
  s_op
  s_op
  s_c stepG_region_end
  s_c stepG_block
  s_cond true
  s_c stepG_seq
  s_reg
  s_op
  s_c stepG_region_end
  s_c stepG_ret'
  s_stop
  exact LoneTo.done ⟨.returned (.bool true), _, rfl, ⟨rfl, rfl⟩, rfl, rfl, rfl, rfl, _, Try.func19, by simp [results, Try.f19, Frame.at]⟩

set_option maxRecDepth 100000 in
theorem putI_full (x : Int) (w : World) (b c cap s r : Nat) (buf : Array Value) (h : IsBox 69 w b c cap s r buf) (hfull : cap ≤ buf.size) :
    Calls Try.prog 19 #[.pointer (some ⟨b, 0, none⟩), .int .i64 x] w fun e w' => e = .returned (.bool false) ∧ w' = w := by
  refine calls_of_loneTo fun cs => ?_
  have e : Frame.enter Try.prog 19 #[.pointer (some ⟨b, 0, none⟩), .int .i64 x] .normal = (base 19).at ⟨#[.pointer (some ⟨b, 0, none⟩), .int .i64 x, undef, undef, undef, undef, undef, undef, undef, undef, undef, undef, undef, undef, undef], []⟩ [.code (Try.f19.body.getD .skip)] := by
    simp [Frame.enter, Frame.at, Try.func19, base, Try.f19]
  rw [e]
  have hc := h.cell
  refine LoneTo.goes (n := 40) ?_
  simp only [Try.f19, Option.getD_some]
  s_c stepG_seq
  s_reg
  s_op
  s_c stepG_region_end
  s_c stepG_seq
  s_c stepG_seq
  s_reg
  s_op
  s_op
  s_c stepG_region_end
  s_cond false
  s_c stepG_skip
  s_c stepG_seq
  s_c stepG_seq
  s_reg
  s_op
  s_op
  s_op
  s_op
  s_c stepG_region_end
  s_reg
  s_op
  s_c stepG_region_end
  s_c stepG_seq
  s_reg
  s_stop
  refine LoneTo.step (step_lone_select_send_full (c := c) (cap := cap) (buf := buf) (s := s) (r := r) (tm := false) (v := .int .i64 x) (z' := .int .i64 0) (stepG_comm (cases := #[scase c (.int .i64 x) (.int .i64 0)]) (blocking := false) (shape := .select) (w' := w) rfl rfl (by decide) (by simp [go_sem, execOp, scase, Act.eval])) h.chan hfull) ?_
  rw [Frame.finish_at]
  walk_nrm
  refine LoneTo.goes (n := 20) ?_
  s_op
  s_op
  s_c stepG_region_end
  s_c stepG_block
  s_cond false
  s_c stepG_seq
  s_reg
  s_op
  s_c stepG_region_end
  s_c stepG_ret'
  s_stop
  exact LoneTo.done ⟨.returned (.bool false), _, rfl, ⟨rfl, rfl⟩, rfl, rfl, rfl, rfl, _, Try.func19, by simp [results, Try.f19, Frame.at]⟩

theorem putI_calls (x : Int) (w : World) (b c cap : Nat) (xs : List Int) (h : HoldsBox 69 (Value.int .i64) w b c cap xs) :
    Calls Try.prog 19 #[.pointer (some ⟨b, 0, none⟩), .int .i64 x] w fun e w' => e = .returned (.bool (decide (xs.length < cap))) ∧ HoldsBox 69 (Value.int .i64) w' b c cap (if xs.length < cap then xs ++ [x] else xs) ∧ w.grownBy w' (some c) := by
  obtain ⟨s, r, hb⟩ := h
  by_cases hlt : xs.length < cap
  · refine (putI_room x w b c cap s r _ hb (by simpa using hlt)).mono ?_
    rintro e w' ⟨rfl, rfl⟩
    refine ⟨by rw [decide_eq_true hlt], ?_, grown_setChan _ _ _ _ _ _⟩
    rw [if_pos hlt, show ((xs.map (Value.int .i64)).toArray).push (.int .i64 x) = ((xs ++ [x]).map (Value.int .i64)).toArray by simp]
    exact ⟨s + 1, r, hb.set _ _ _⟩
  · refine (putI_full x w b c cap s r _ hb (by simpa using hlt)).mono ?_
    rintro e w' ⟨rfl, rfl⟩
    refine ⟨by rw [decide_eq_false hlt], ?_, World.grownBy.refl _ _⟩
    rw [if_neg hlt]
    exact ⟨s, r, hb⟩

set_option maxRecDepth 100000 in
theorem takeI_some (x : Int) (w : World) (b c cap s r : Nat) (buf : Array Value) (h : IsBox 69 w b c cap s r buf) (hs : 0 < buf.size) (hx : buf.getD 0 undef = .int .i64 x) :
    Calls Try.prog 21 #[.pointer (some ⟨b, 0, none⟩)] w fun e w' => e = .returned (.tuple #[.int .i64 x, .bool true]) ∧ w' = w.setChan c cap (buf.extract 1 buf.size) false s (r + 1) false := by
  refine calls_of_loneTo fun cs => ?_
  have e : Frame.enter Try.prog 21 #[.pointer (some ⟨b, 0, none⟩)] .normal = (base 21).at ⟨#[.pointer (some ⟨b, 0, none⟩), undef, undef, undef, undef, undef, undef, undef, undef, undef, undef, undef, undef, undef, undef, undef, undef], []⟩ [.code (Try.f21.body.getD .skip)] := by
    simp [Frame.enter, Frame.at, Try.func21, base, Try.f21]
  rw [e]
  have hc := h.cell
  refine LoneTo.goes (n := 40) ?_
  simp only [Try.f21, Option.getD_some]
  s_c stepG_seq
  s_reg
  s_op
  s_op
  s_c stepG_region_end
  s_c stepG_seq
  s_c stepG_seq
  s_reg
  s_op
  s_op
  s_c stepG_region_end
  s_cond false
  s_c stepG_skip
  s_c stepG_seq
  s_reg
  s_op
  s_op
  s_op
  s_op
  s_c stepG_region_end
  s_c stepG_seq
  s_reg
  s_stop
  refine LoneTo.step (step_lone_select_recv_buf (c := c) (cap := cap) (buf := buf) (s := s) (r := r) (tm := false) (closed := false) (z := .int .i64 0) (stepG_comm (cases := #[rcase c (.int .i64 0)]) (blocking := false) (shape := .select) (w' := w) rfl rfl (by decide) (by simp [go_sem, execOp, rcase, Act.eval])) h.chan hs) ?_
  rw [Frame.finish_at, hx]
  walk_nrm
  refine LoneTo.goes (n := 30) ?_
  s_op
  s_op
  s_c stepG_region_end
  s_c stepG_block
  s_cond true
  s_c stepG_seq
  s_reg
  s_op
  s_op
  s_c stepG_region_end
  s_c stepG_seq
  s_reg
  s_op
  s_op
  s_op
  s_c stepG_region_end
  s_c stepG_ret'
  s_stop
  exact LoneTo.done ⟨.returned (.tuple #[.int .i64 x, .bool true]), _, rfl, ⟨rfl, rfl⟩, rfl, rfl, rfl, rfl, _, Try.func21, by simp [results, Try.f21, Frame.at]⟩

set_option maxRecDepth 100000 in
theorem takeI_none (w : World) (b c cap s r : Nat) (h : IsBox 69 w b c cap s r #[]) :
    Calls Try.prog 21 #[.pointer (some ⟨b, 0, none⟩)] w fun e w' => e = .returned (.tuple #[.int .i64 0, .bool false]) ∧ w' = w := by
  refine calls_of_loneTo fun cs => ?_
  have e : Frame.enter Try.prog 21 #[.pointer (some ⟨b, 0, none⟩)] .normal = (base 21).at ⟨#[.pointer (some ⟨b, 0, none⟩), undef, undef, undef, undef, undef, undef, undef, undef, undef, undef, undef, undef, undef, undef, undef, undef], []⟩ [.code (Try.f21.body.getD .skip)] := by
    simp [Frame.enter, Frame.at, Try.func21, base, Try.f21]
  rw [e]
  have hc := h.cell
  refine LoneTo.goes (n := 40) ?_
  simp only [Try.f21, Option.getD_some]
  s_c stepG_seq
  s_reg
  s_op
  s_op
  s_c stepG_region_end
  s_c stepG_seq
  s_c stepG_seq
  s_reg
  s_op
  s_op
  s_c stepG_region_end
  s_cond false
  s_c stepG_skip
  s_c stepG_seq
  s_reg
  s_op
  s_op
  s_op
  s_op
  s_c stepG_region_end
  s_c stepG_seq
  s_reg
  s_stop
  refine LoneTo.step (step_lone_select_default (c := c) (cap := cap) (s := s) (r := r) (tm := false) (z := .int .i64 0) (stepG_comm (cases := #[rcase c (.int .i64 0)]) (blocking := false) (shape := .select) (w' := w) rfl rfl (by decide) (by simp [go_sem, execOp, rcase, Act.eval])) h.chan) ?_
  rw [Frame.finish_at]
  walk_nrm
  refine LoneTo.goes (n := 30) ?_
  s_op
  s_op
  s_c stepG_region_end
  s_c stepG_block
  s_cond false
  s_c stepG_seq
  s_reg
  s_op
  s_op
  s_op
  s_c stepG_region_end
  s_c stepG_ret'
  s_stop
  exact LoneTo.done ⟨.returned (.tuple #[.int .i64 0, .bool false]), _, rfl, ⟨rfl, rfl⟩, rfl, rfl, rfl, rfl, _, Try.func21, by simp [results, Try.f21, Frame.at]⟩

theorem takeI_calls (w : World) (b c cap : Nat) (xs : List Int) (h : HoldsBox 69 (Value.int .i64) w b c cap xs) :
    Calls Try.prog 21 #[.pointer (some ⟨b, 0, none⟩)] w fun e w' => e = .returned (.tuple #[.int .i64 (xs.headD 0), .bool (decide (xs ≠ []))]) ∧ HoldsBox 69 (Value.int .i64) w' b c cap xs.tail ∧ w.grownBy w' (some c) := by
  obtain ⟨s, r, hb⟩ := h
  cases xs with
  | nil =>
    refine (takeI_none w b c cap s r (by simpa using hb)).mono ?_
    rintro e w' ⟨rfl, rfl⟩
    exact ⟨rfl, ⟨s, r, hb⟩, World.grownBy.refl _ _⟩
  | cons x xs =>
    refine (takeI_some x w b c cap s r _ hb (by simp) (by simp)).mono ?_
    rintro e w' ⟨rfl, rfl⟩
    refine ⟨rfl, ?_, grown_setChan _ _ _ _ _ _⟩
    rw [show (((x :: xs).map (Value.int .i64)).toArray).extract 1 (((x :: xs).map (Value.int .i64)).toArray).size = (xs.map (Value.int .i64)).toArray by simp [List.take_of_length_le]]
    exact ⟨s, r + 1, hb.set _ _ _⟩

set_option maxHeartbeats 400000 in
theorem lenI_calls (w : World) (b c cap : Nat) (xs : List Int) (h : HoldsBox 69 (Value.int .i64) w b c cap xs) :
    Calls Try.prog 25 #[.pointer (some ⟨b, 0, none⟩)] w fun e w' => e = .returned (.int .i64 (xs.length : Int)) ∧ w = w' := by
  obtain ⟨s, r, hb⟩ := h
  have hc := hb.cell
  have hlen := fun ty => run_len_chan (P := Try.prog) 67 ty Try.underlying67 hb.chan
  go_enter Try.func25, Try.ntmps25
  go_wp2
  go_ret
  exact ⟨by simp, rfl⟩

theorem info3b : ∃ i, Try.prog.info? 3 = some i ∧ i.bytes = 8 := by
  have h : (Try.prog.info? 3).map (·.bytes) = some 8 := by kernel_rfl
  obtain ⟨i, hi, hb⟩ := Option.map_eq_some_iff.1 h
  exact ⟨i, hi, hb⟩
theorem mkI (n : Nat) (hn : n ≤ 64) (w : World) : (Instr.makeChan 67 (.int .i64 n)).run Try.prog w = .ok (.chan (some w.heap.size)) (w.alloc (.chan n #[] false 0 0 false)) := by
  obtain ⟨i, hi, hb⟩ := info3b
  simpa using run_makeChan (P := Try.prog) (w := w) Try.underlying67 hi .i64 n (by omega) (by rw [hb]; omega)

set_option maxHeartbeats 400000 in
theorem newI_calls (n : Int) (w : World) :
    Calls Try.prog 18 #[.int .i64 n] w fun e w' => e = .returned (.pointer (some ⟨w.heap.size + 1, 0, none⟩)) ∧ HoldsBox 69 (Value.int .i64) w' (w.heap.size + 1) w.heap.size (clamp n) [] ∧ Below w.heap.size w w' ∧ w'.heap.size = w.heap.size + 2 := by
  have hcl : clamp n ≤ 64 := by unfold clamp; split <;> (try split) <;> omega
  have hm := mkI (clamp n) hcl
  have fin : ∀ k : Nat, HoldsBox 69 (Value.int .i64) ((w.alloc (.chan k #[] false 0 0 false)).alloc (.cells #[.chan (some w.heap.size)] 69)) (w.heap.size + 1) w.heap.size k [] ∧ Below w.heap.size w ((w.alloc (.chan k #[] false 0 0 false)).alloc (.cells #[.chan (some w.heap.size)] 69)) ∧ ((w.alloc (.chan k #[] false 0 0 false)).alloc (.cells #[.chan (some w.heap.size)] 69)).heap.size = w.heap.size + 2 := by
    intro k
    refine ⟨⟨0, 0, ?_, ?_⟩, ((Below.refl _ _).alloc (Nat.le_refl _) _).alloc (by simp) _, by simp⟩
    · have := heap_alloc_new (w.alloc (.chan k #[] false 0 0 false)) (.cells #[.chan (some w.heap.size)] 69)
      simpa only [World.size_alloc] using this
    · rw [Below.heap_alloc _ _ _ (by simp)]
      exact heap_alloc_new w _
  have HF := Aside0.mk (fin (clamp n))
  clear fin
  by_cases h1 : n < 0
  · have e1 : clamp n = 0 := by unfold clamp; rw [if_pos h1]
    rw [e1] at HF ⊢
    clear e1 hcl hm
    have hm : ∀ w : World, (Instr.makeChan 67 (.int .i64 0)).run Try.prog w = .ok (.chan (some w.heap.size)) (w.alloc (.chan 0 #[] false 0 0 false)) := mkI 0 (by omega)
    go_enter Try.func18, Try.ntmps18
    go_wp2
    go_ret
    exact ⟨rfl, HF.out.1, HF.out.2⟩
  · by_cases h2 : 64 < n
    · have e1 : clamp n = 64 := by unfold clamp; rw [if_neg h1, if_pos h2]
      rw [e1] at HF ⊢
      clear e1 hcl hm
      have hm : ∀ w : World, (Instr.makeChan 67 (.int .i64 64)).run Try.prog w = .ok (.chan (some w.heap.size)) (w.alloc (.chan 64 #[] false 0 0 false)) := mkI 64 (by omega)
      go_enter Try.func18, Try.ntmps18
      go_wp2
      go_ret
      exact ⟨rfl, HF.out.1, HF.out.2⟩
    · obtain ⟨k, rfl⟩ : ∃ k : Nat, n = (k : Int) := ⟨n.toNat, by omega⟩
      have e1 : clamp (k : Int) = k := by unfold clamp; rw [if_neg h1, if_neg h2]; rfl
      rw [e1] at HF hm ⊢
      clear e1 hcl
      go_enter Try.func18, Try.ntmps18
      go_wp2
      go_ret
      exact ⟨rfl, HF.out.1, HF.out.2⟩

/-! ### at string -/
set_option maxRecDepth 100000 in
theorem putS_room (x : ByteArray) (w : World) (b c cap s r : Nat) (buf : Array Value) (h : IsBox 66 w b c cap s r buf) (hroom : buf.size < cap) :
    Calls Try.prog 14 #[.pointer (some ⟨b, 0, none⟩), .string x] w fun e w' => e = .returned (.bool true) ∧ w' = w.setChan c cap (buf.push (.string x)) false (s + 1) r false := by
  refine calls_of_loneTo fun cs => ?_
  have e : Frame.enter Try.prog 14 #[.pointer (some ⟨b, 0, none⟩), .string x] .normal = (base 14).at ⟨#[.pointer (some ⟨b, 0, none⟩), .string x, undef, undef, undef, undef, undef, undef, undef, undef, undef, undef, undef, undef, undef], []⟩ [.code (Try.f14.body.getD .skip)] := by
    simp [Frame.enter, Frame.at, Try.func14, base, Try.f14]
  rw [e]
  have hc := h.cell
  refine LoneTo.goes (n := 40) ?_
  simp only [Try.f14, Option.getD_some]
  s_c stepG_seq
  s_reg
  s_op
  s_c stepG_region_end
  s_c stepG_seq
  s_c stepG_seq
  s_reg
  s_op
  s_op
  s_c stepG_region_end
  s_cond false
  s_c stepG_skip
  s_c stepG_seq
  s_c stepG_seq
  s_reg
  s_op
  s_op
  s_op
  s_op
  s_c stepG_region_end
  s_reg
  s_op
  s_c stepG_region_end
  s_c stepG_seq
  s_reg
  s_stop
  refine LoneTo.step (step_lone_select_send_room (c := c) (cap := cap) (buf := buf) (s := s) (r := r) (tm := false) (v := .string x) (z' := .string { data := #[] }) (stepG_comm (cases := #[scase c (.string x) (.string { data := #[] })]) (blocking := false) (shape := .select) (w' := w) rfl rfl (by decide) (by simp [go_sem, execOp, scase, Act.eval])) h.chan hroom) ?_
  rw [Frame.finish_at]
  walk_nrm
  refine LoneTo.goes (n := 20) ?_
  s_op
  s_op
  s_c stepG_region_end
  s_c stepG_block
  s_cond true
  s_c stepG_seq
  s_reg
  s_op
  s_c stepG_region_end
  s_c stepG_ret'
  s_stop
  exact LoneTo.done ⟨.returned (.bool true), _, rfl, ⟨rfl, rfl⟩, rfl, rfl, rfl, rfl, _, Try.func14, by simp [results, Try.f14, Frame.at]⟩

set_option maxRecDepth 100000 in
theorem putS_full (x : ByteArray) (w : World) (b c cap s r : Nat) (buf : Array Value) (h : IsBox 66 w b c cap s r buf) (hfull : cap ≤ buf.size) :
    Calls Try.prog 14 #[.pointer (some ⟨b, 0, none⟩), .string x] w fun e w' => e = .returned (.bool false) ∧ w' = w := by
  refine calls_of_loneTo fun cs => ?_
  have e : Frame.enter Try.prog 14 #[.pointer (some ⟨b, 0, none⟩), .string x] .normal = (base 14).at ⟨#[.pointer (some ⟨b, 0, none⟩), .string x, undef, undef, undef, undef, undef, undef, undef, undef, undef, undef, undef, undef, undef], []⟩ [.code (Try.f14.body.getD .skip)] := by
    simp [Frame.enter, Frame.at, Try.func14, base, Try.f14]
  rw [e]
  have hc := h.cell
  refine LoneTo.goes (n := 40) ?_
  simp only [Try.f14, Option.getD_some]
  s_c stepG_seq
  s_reg
  s_op
  s_c stepG_region_end
  s_c stepG_seq
  s_c stepG_seq
  s_reg
  s_op
  s_op
  s_c stepG_region_end
  s_cond false
  s_c stepG_skip
  s_c stepG_seq
  s_c stepG_seq
  s_reg
  s_op
  s_op
  s_op
  s_op
  s_c stepG_region_end
  s_reg
  s_op
  s_c stepG_region_end
  s_c stepG_seq
  s_reg
  s_stop
  refine LoneTo.step (step_lone_select_send_full (c := c) (cap := cap) (buf := buf) (s := s) (r := r) (tm := false) (v := .string x) (z' := .string { data := #[] }) (stepG_comm (cases := #[scase c (.string x) (.string { data := #[] })]) (blocking := false) (shape := .select) (w' := w) rfl rfl (by decide) (by simp [go_sem, execOp, scase, Act.eval])) h.chan hfull) ?_
  rw [Frame.finish_at]
  walk_nrm
  refine LoneTo.goes (n := 20) ?_
  s_op
  s_op
  s_c stepG_region_end
  s_c stepG_block
  s_cond false
  s_c stepG_seq
  s_reg
  s_op
  s_c stepG_region_end
  s_c stepG_ret'
  s_stop
  exact LoneTo.done ⟨.returned (.bool false), _, rfl, ⟨rfl, rfl⟩, rfl, rfl, rfl, rfl, _, Try.func14, by simp [results, Try.f14, Frame.at]⟩

theorem putS_calls (x : ByteArray) (w : World) (b c cap : Nat) (xs : List ByteArray) (h : HoldsBox 66 Value.string w b c cap xs) :
    Calls Try.prog 14 #[.pointer (some ⟨b, 0, none⟩), .string x] w fun e w' => e = .returned (.bool (decide (xs.length < cap))) ∧ HoldsBox 66 Value.string w' b c cap (if xs.length < cap then xs ++ [x] else xs) ∧ w.grownBy w' (some c) := by
  obtain ⟨s, r, hb⟩ := h
  by_cases hlt : xs.length < cap
  · refine (putS_room x w b c cap s r _ hb (by simpa using hlt)).mono ?_
    rintro e w' ⟨rfl, rfl⟩
    refine ⟨by rw [decide_eq_true hlt], ?_, grown_setChan _ _ _ _ _ _⟩
    rw [if_pos hlt, show ((xs.map Value.string).toArray).push (.string x) = ((xs ++ [x]).map Value.string).toArray by simp]
    exact ⟨s + 1, r, hb.set _ _ _⟩
  · refine (putS_full x w b c cap s r _ hb (by simpa using hlt)).mono ?_
    rintro e w' ⟨rfl, rfl⟩
    refine ⟨by rw [decide_eq_false hlt], ?_, World.grownBy.refl _ _⟩
    rw [if_neg hlt]
    exact ⟨s, r, hb⟩

set_option maxRecDepth 100000 in
theorem takeS_some (x : ByteArray) (w : World) (b c cap s r : Nat) (buf : Array Value) (h : IsBox 66 w b c cap s r buf) (hs : 0 < buf.size) (hx : buf.getD 0 undef = .string x) :
    Calls Try.prog 16 #[.pointer (some ⟨b, 0, none⟩)] w fun e w' => e = .returned (.tuple #[.string x, .bool true]) ∧ w' = w.setChan c cap (buf.extract 1 buf.size) false s (r + 1) false := by
  refine calls_of_loneTo fun cs => ?_
  have e : Frame.enter Try.prog 16 #[.pointer (some ⟨b, 0, none⟩)] .normal = (base 16).at ⟨#[.pointer (some ⟨b, 0, none⟩), undef, undef, undef, undef, undef, undef, undef, undef, undef, undef, undef, undef, undef, undef, undef, undef], []⟩ [.code (Try.f16.body.getD .skip)] := by
    simp [Frame.enter, Frame.at, Try.func16, base, Try.f16]
  rw [e]
  have hc := h.cell
  refine LoneTo.goes (n := 40) ?_
  simp only [Try.f16, Option.getD_some]
  s_c stepG_seq
  s_reg
  s_op
  s_op
  s_c stepG_region_end
  s_c stepG_seq
  s_c stepG_seq
  s_reg
  s_op
  s_op
  s_c stepG_region_end
  s_cond false
  s_c stepG_skip
  s_c stepG_seq
  s_reg
  s_op
  s_op
  s_op
  s_op
  s_c stepG_region_end
  s_c stepG_seq
  s_reg
  s_stop
  refine LoneTo.step (step_lone_select_recv_buf (c := c) (cap := cap) (buf := buf) (s := s) (r := r) (tm := false) (closed := false) (z := .string { data := #[] }) (stepG_comm (cases := #[rcase c (.string { data := #[] })]) (blocking := false) (shape := .select) (w' := w) rfl rfl (by decide) (by simp [go_sem, execOp, rcase, Act.eval])) h.chan hs) ?_
  rw [Frame.finish_at, hx]
  walk_nrm
  refine LoneTo.goes (n := 30) ?_
  s_op
  s_op
  s_c stepG_region_end
  s_c stepG_block
  s_cond true
  s_c stepG_seq
  s_reg
  s_op
  s_op
  s_c stepG_region_end
  s_c stepG_seq
  s_reg
  s_op
  s_op
  s_op
  s_c stepG_region_end
  s_c stepG_ret'
  s_stop
  exact LoneTo.done ⟨.returned (.tuple #[.string x, .bool true]), _, rfl, ⟨rfl, rfl⟩, rfl, rfl, rfl, rfl, _, Try.func16, by simp [results, Try.f16, Frame.at]⟩

set_option maxRecDepth 100000 in
theorem takeS_none (w : World) (b c cap s r : Nat) (h : IsBox 66 w b c cap s r #[]) :
    Calls Try.prog 16 #[.pointer (some ⟨b, 0, none⟩)] w fun e w' => e = .returned (.tuple #[.string { data := #[] }, .bool false]) ∧ w' = w := by
  refine calls_of_loneTo fun cs => ?_
  have e : Frame.enter Try.prog 16 #[.pointer (some ⟨b, 0, none⟩)] .normal = (base 16).at ⟨#[.pointer (some ⟨b, 0, none⟩), undef, undef, undef, undef, undef, undef, undef, undef, undef, undef, undef, undef, undef, undef, undef, undef], []⟩ [.code (Try.f16.body.getD .skip)] := by
    simp [Frame.enter, Frame.at, Try.func16, base, Try.f16]
  rw [e]
  have hc := h.cell
  refine LoneTo.goes (n := 40) ?_
  simp only [Try.f16, Option.getD_some]
  s_c stepG_seq
  s_reg
  s_op
  s_op
  s_c stepG_region_end
  s_c stepG_seq
  s_c stepG_seq
  s_reg
  s_op
  s_op
  s_c stepG_region_end
  s_cond false
  s_c stepG_skip
  s_c stepG_seq
  s_reg
  s_op
  s_op
  s_op
  s_op
  s_c stepG_region_end
  s_c stepG_seq
  s_reg
  s_stop
  refine LoneTo.step (step_lone_select_default (c := c) (cap := cap) (s := s) (r := r) (tm := false) (z := .string { data := #[] }) (stepG_comm (cases := #[rcase c (.string { data := #[] })]) (blocking := false) (shape := .select) (w' := w) rfl rfl (by decide) (by simp [go_sem, execOp, rcase, Act.eval])) h.chan) ?_
  rw [Frame.finish_at]
  walk_nrm
  refine LoneTo.goes (n := 30) ?_
  s_op
  s_op
  s_c stepG_region_end
  s_c stepG_block
  s_cond false
  s_c stepG_seq
  s_reg
  s_op
  s_op
  s_op
  s_c stepG_region_end
  s_c stepG_ret'
  s_stop
  exact LoneTo.done ⟨.returned (.tuple #[.string { data := #[] }, .bool false]), _, rfl, ⟨rfl, rfl⟩, rfl, rfl, rfl, rfl, _, Try.func16, by simp [results, Try.f16, Frame.at]⟩

theorem takeS_calls (w : World) (b c cap : Nat) (xs : List ByteArray) (h : HoldsBox 66 Value.string w b c cap xs) :
    Calls Try.prog 16 #[.pointer (some ⟨b, 0, none⟩)] w fun e w' => e = .returned (.tuple #[.string (xs.headD ByteArray.empty), .bool (decide (xs ≠ []))]) ∧ HoldsBox 66 Value.string w' b c cap xs.tail ∧ w.grownBy w' (some c) := by
  obtain ⟨s, r, hb⟩ := h
  cases xs with
  | nil =>
    refine (takeS_none w b c cap s r (by simpa using hb)).mono ?_
    rintro e w' ⟨rfl, rfl⟩
    exact ⟨rfl, ⟨s, r, hb⟩, World.grownBy.refl _ _⟩
  | cons x xs =>
    refine (takeS_some x w b c cap s r _ hb (by simp) (by simp)).mono ?_
    rintro e w' ⟨rfl, rfl⟩
    refine ⟨rfl, ?_, grown_setChan _ _ _ _ _ _⟩
    rw [show (((x :: xs).map Value.string).toArray).extract 1 (((x :: xs).map Value.string).toArray).size = (xs.map Value.string).toArray by simp [List.take_of_length_le]]
    exact ⟨s, r + 1, hb.set _ _ _⟩

set_option maxHeartbeats 400000 in
theorem lenS_calls (w : World) (b c cap : Nat) (xs : List ByteArray) (h : HoldsBox 66 Value.string w b c cap xs) :
    Calls Try.prog 17 #[.pointer (some ⟨b, 0, none⟩)] w fun e w' => e = .returned (.int .i64 (xs.length : Int)) ∧ w = w' := by
  obtain ⟨s, r, hb⟩ := h
  have hc := hb.cell
  have hlen := fun ty => run_len_chan (P := Try.prog) 64 ty Try.underlying64 hb.chan
  go_enter Try.func17, Try.ntmps17
  go_wp2
  go_ret
  exact ⟨by simp, rfl⟩

theorem info9b : ∃ i, Try.prog.info? 9 = some i ∧ i.bytes = 16 := by
  have h : (Try.prog.info? 9).map (·.bytes) = some 16 := by kernel_rfl
  obtain ⟨i, hi, hb⟩ := Option.map_eq_some_iff.1 h
  exact ⟨i, hi, hb⟩
theorem mkS (n : Nat) (hn : n ≤ 64) (w : World) : (Instr.makeChan 64 (.int .i64 n)).run Try.prog w = .ok (.chan (some w.heap.size)) (w.alloc (.chan n #[] false 0 0 false)) := by
  obtain ⟨i, hi, hb⟩ := info9b
  simpa using run_makeChan (P := Try.prog) (w := w) Try.underlying64 hi .i64 n (by omega) (by rw [hb]; omega)

set_option maxHeartbeats 400000 in
theorem newS_calls (n : Int) (w : World) :
    Calls Try.prog 12 #[.int .i64 n] w fun e w' => e = .returned (.pointer (some ⟨w.heap.size + 1, 0, none⟩)) ∧ HoldsBox 66 Value.string w' (w.heap.size + 1) w.heap.size (clamp n) [] ∧ Below w.heap.size w w' ∧ w'.heap.size = w.heap.size + 2 := by
  have hcl : clamp n ≤ 64 := by unfold clamp; split <;> (try split) <;> omega
  have hm := mkS (clamp n) hcl
  have fin : ∀ k : Nat, HoldsBox 66 Value.string ((w.alloc (.chan k #[] false 0 0 false)).alloc (.cells #[.chan (some w.heap.size)] 66)) (w.heap.size + 1) w.heap.size k [] ∧ Below w.heap.size w ((w.alloc (.chan k #[] false 0 0 false)).alloc (.cells #[.chan (some w.heap.size)] 66)) ∧ ((w.alloc (.chan k #[] false 0 0 false)).alloc (.cells #[.chan (some w.heap.size)] 66)).heap.size = w.heap.size + 2 := by
    intro k
    refine ⟨⟨0, 0, ?_, ?_⟩, ((Below.refl _ _).alloc (Nat.le_refl _) _).alloc (by simp) _, by simp⟩
    · have := heap_alloc_new (w.alloc (.chan k #[] false 0 0 false)) (.cells #[.chan (some w.heap.size)] 66)
      simpa only [World.size_alloc] using this
    · rw [Below.heap_alloc _ _ _ (by simp)]
      exact heap_alloc_new w _
  have HF := Aside0.mk (fin (clamp n))
  clear fin
  by_cases h1 : n < 0
  · have e1 : clamp n = 0 := by unfold clamp; rw [if_pos h1]
    rw [e1] at HF ⊢
    clear e1 hcl hm
    have hm : ∀ w : World, (Instr.makeChan 64 (.int .i64 0)).run Try.prog w = .ok (.chan (some w.heap.size)) (w.alloc (.chan 0 #[] false 0 0 false)) := mkS 0 (by omega)
    go_enter Try.func12, Try.ntmps12
    go_wp2
    go_ret
    exact ⟨rfl, HF.out.1, HF.out.2⟩
  · by_cases h2 : 64 < n
    · have e1 : clamp n = 64 := by unfold clamp; rw [if_neg h1, if_pos h2]
      rw [e1] at HF ⊢
      clear e1 hcl hm
      have hm : ∀ w : World, (Instr.makeChan 64 (.int .i64 64)).run Try.prog w = .ok (.chan (some w.heap.size)) (w.alloc (.chan 64 #[] false 0 0 false)) := mkS 64 (by omega)
      go_enter Try.func12, Try.ntmps12
      go_wp2
      go_ret
      exact ⟨rfl, HF.out.1, HF.out.2⟩
    · obtain ⟨k, rfl⟩ : ∃ k : Nat, n = (k : Int) := ⟨n.toNat, by omega⟩
      have e1 : clamp (k : Int) = k := by unfold clamp; rw [if_neg h1, if_neg h2]; rfl
      rw [e1] at HF hm ⊢
      clear e1 hcl
      go_enter Try.func12, Try.ntmps12
      go_wp2
      go_ret
      exact ⟨rfl, HF.out.1, HF.out.2⟩

set_option maxHeartbeats 400000 in
theorem roomI_calls (w : World) (b c cap : Nat) (xs : List Int) (h : HoldsBox 69 (Value.int .i64) w b c cap xs) :
    Calls Try.prog 26 #[.pointer (some ⟨b, 0, none⟩)] w fun e w' => e = .returned (.int .i64 (cap : Int)) ∧ w = w' := by
  obtain ⟨s, r, hb⟩ := h
  have hc := hb.cell
  have hlen := fun ty => run_cap_chan (P := Try.prog) 67 ty Try.underlying67 hb.chan
  go_enter Try.func26, Try.ntmps26
  go_wp2
  go_ret
  exact ⟨by simp, rfl⟩
end Go.Proofs.Ytnaliaebjeikaaa
