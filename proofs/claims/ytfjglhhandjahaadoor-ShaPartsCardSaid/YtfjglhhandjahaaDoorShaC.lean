/- The state of a hash in memory, and what it stands for. -/
import Derived.Test.YtfjglhhandjahaaDoorShaB
namespace Go.Proofs.YtfjglhhandjahaaDoor.Sha
open Go.RowKit Go.Proofs.YtfjglhhandjahaaDoorW.PrintWords Go.Proofs.YtfjglhhandjahaaDoor.PShaOf
set_option linter.unusedVariables false

/-- The words of a block's bytes. -/
def packL (l : List Int) : List Int := (word_Pack.f 65 l).getD []
theorem pack_go (l : List Int) (hl : l.length = 64) : ∀ (n k : Nat) (x : List Int) (i : Int), 0 ≤ i → i + n = 64 → n < k → x.length = 16 → ∃ ws, word_Pack.l0 k l x 64 i = some ws ∧ ws.length = 16
  | 0, k, x, i, h0, h1, hk, hx => by
    obtain ⟨k, rfl⟩ : ∃ j, k = j + 1 := ⟨k - 1, by omega⟩
    rw [word_Pack.l0, if_neg (by omega)]
    exact ⟨x, rfl, hx⟩
  | n + 1, k, x, i, h0, h1, hk, hx => by
    obtain ⟨k, rfl⟩ : ∃ j, k = j + 1 := ⟨k - 1, by omega⟩
    have hd : wrap64 (Int.tdiv i 4) = i / 4 := by rw [Int.tdiv_eq_ediv_of_nonneg h0]; exact IntWalk.wrap64_in _ ⟨by omega, by omega⟩
    have hw : wrap64 (i + 1) = i + 1 := IntWalk.wrap64_in _ ⟨by omega, by omega⟩
    have hu : ∀ y, 0 ≤ IntKind.u64.wrap y := fun y => by rw [IntKind.wrap_u64]; exact Int.emod_nonneg _ (by decide)
    rw [word_Pack.l0, if_pos (by omega), hd, if_pos (by omega), if_pos (by omega), if_pos (by omega), if_pos (by omega), if_pos (hu _), hw]
    exact pack_go l hl n k _ (i + 1) (by omega) (by omega) (by omega) (by simpa using hx)
theorem pack_64 (l : List Int) (hl : l.length = 64) : word_Pack.f 65 l = some (packL l) ∧ (packL l).length = 16 := by
  have hn : word_Need.f (l.length : Int) = some 16 := by rw [hl]; decide +kernel
  obtain ⟨ws, h, hw⟩ := pack_go l hl 64 65 (List.replicate 16 0) 0 (by omega) (by omega) (by omega) (by simp)
  have e : word_Pack.f 65 l = some ws := by
    unfold word_Pack.f
    rw [hn, Option.bind_some, if_pos (by omega), if_pos (by decide), hl]
    exact h
  unfold packL
  rw [e]
  exact ⟨rfl, hw⟩

theorem addL_length (vs ss : List Int) (h1 : vs.length = 8) (h2 : ss.length = 8) : (addL vs ss).length = 8 := by simp [addL, h1, h2]
theorem stepL_length (rs W st : List Int) (h : st.length = 8) : (stepL rs W st).length = 8 := by
  match st, h with
  | [a0, a1, a2, a3, a4, a5, a6, a7], _ => exact addL_length _ _ (stGo_length _ _ _ _ _ _ _ _ _ _ _ _) rfl

/-- What a block makes of eight words, of its bytes. -/
def stepB (rs l st : List Int) : List Int := stepL rs (wideL (packL l)) st
/-- What so many blocks make. -/
def blkL (rs fs : List Int) : Nat → List Int → List Int
  | 0, _ => fs
  | n + 1, l => stepB rs ((l.drop (64 * n)).take 64) (blkL rs fs n l)
theorem blkL_length (rs fs : List Int) (hf : fs.length = 8) : ∀ n l, (blkL rs fs n l).length = 8
  | 0, _ => hf
  | n + 1, l => stepL_length _ _ _ (blkL_length rs fs hf n l)
theorem blkL_append (rs fs : List Int) : ∀ n (l m : List Int), 64 * n ≤ l.length → blkL rs fs n (l ++ m) = blkL rs fs n l
  | 0, _, _, _ => rfl
  | n + 1, l, m, h => by
    rw [blkL, blkL, blkL_append rs fs n l m (by omega)]
    congr 1
    rw [List.drop_append_of_le_length (by omega), List.take_append_of_le_length (by simp; omega)]

/-- A hash's cells. -/
def hrow (st part : List Int) (h n : Int) : List Value := nums .u32 st ++ (nums .u8 part ++ [.int .i64 h, .int .i64 n])
structure HBlk (w : World) (g : Nat) (st part : List Int) (h n : Int) : Prop where
  blk : w.heap[g]? = some (.cells (hrow st part h n).toArray 38 (0, 0))
  ls : st.length = 8
  lp : part.length = 64
theorem hrow_have {st part : List Int} {h n : Int} (ls : st.length = 8) (lp : part.length = 64) : (hrow st part h n)[72]? = some (.int .i64 h) := by
  simp [hrow, nums, ls, lp]
theorem hrow_count {st part : List Int} {h n : Int} (ls : st.length = 8) (lp : part.length = 64) : (hrow st part h n)[73]? = some (.int .i64 n) := by
  simp [hrow, nums, ls, lp]
theorem hrow_length {st part : List Int} {h n : Int} (ls : st.length = 8) (lp : part.length = 64) : (hrow st part h n).length = 74 := by
  simp [hrow, nums, ls, lp]
theorem hrow_part {st part : List Int} {h n : Int} (ls : st.length = 8) (lp : part.length = 64) (j : Nat) (hj : j < 64) : (hrow st part h n)[8 + j]? = some (.int .u8 (part.getD j 0)) := by
  have h1 : ¬ (8 + j < 8) := by omega
  simp [hrow, nums, List.getElem?_append, ls, lp, hj]
theorem hrow_state {st part : List Int} {h n : Int} (ls : st.length = 8) (j : Nat) (hj : j < 8) : (hrow st part h n)[j]? = some (.int .u32 (st.getD j 0)) := by
  simp [hrow, nums, List.getElem?_append, ls, hj]
section
variable {w : World} {g : Nat} {st part : List Int} {h n : Int}
theorem HBlk.have_ (H : HBlk w g st part h n) : w.cell? ⟨g, 72, none⟩ = some (.int .i64 h) := by
  rw [blk_cell H.blk 72, List.getElem?_toArray, hrow_have H.ls H.lp]
theorem HBlk.count (H : HBlk w g st part h n) : w.cell? ⟨g, 73, none⟩ = some (.int .i64 n) := by
  rw [blk_cell H.blk 73, List.getElem?_toArray, hrow_count H.ls H.lp]
theorem HBlk.frozen (H : HBlk w g st part h n) (i : Nat) : w.frozen? ⟨g, i, none⟩ = false := blk_frozen H.blk i
theorem HBlk.setHave (H : HBlk w g st part h n) (v : Int) : HBlk (w.setCell ⟨g, 72, none⟩ (.int .i64 v)) g st part v n := by
  refine ⟨(blk_set H.blk 72 _).trans ?_, H.ls, H.lp⟩
  rw [List.setIfInBounds_toArray]
  congr 3
  simp [hrow, nums, H.ls, H.lp]
theorem HBlk.setCount (H : HBlk w g st part h n) (v : Int) : HBlk (w.setCell ⟨g, 73, none⟩ (.int .i64 v)) g st part h v := by
  refine ⟨(blk_set H.blk 73 _).trans ?_, H.ls, H.lp⟩
  rw [List.setIfInBounds_toArray]
  congr 3
  simp [hrow, nums, H.ls, H.lp]
theorem HBlk.drew (H : HBlk w g st part h n) : HBlk w.drew g st part h n := ⟨H.blk, H.ls, H.lp⟩
theorem HBlk.drewN (H : HBlk w g st part h n) (m : Nat) : HBlk (w.drewN m) g st part h n := ⟨H.blk, H.ls, H.lp⟩
theorem HBlk.kept {w' : World} (H : HBlk w g st part h n) (hk : w'.heap[g]? = w.heap[g]?) : HBlk w' g st part h n := ⟨hk.trans H.blk, H.ls, H.lp⟩
theorem HBlk.copy (H : HBlk w g st part h n) (o : Nat) (ys : List Int) (ho : o + ys.length ≤ 64) :
    HBlk (w.setRow g ((hrow st part h n).toArray.toList.take (8 + o) ++ nums .u8 ys ++ (hrow st part h n).toArray.toList.drop (8 + o + (nums .u8 ys).length)).toArray) g st (part.take o ++ ys ++ part.drop (o + ys.length)) h n := by
  have ls := H.ls
  have lp := H.lp
  refine ⟨(setRow_heap w g _ _ 38 _ H.blk).trans ?_, ls, by simp [lp]; omega⟩
  congr 3
  simp only [hrow, nums_length]
  rw [List.take_append, List.drop_append, nums_length, ls, show 8 + o - 8 = o by omega, show 8 + o + ys.length - 8 = o + ys.length by omega, List.take_of_length_le (by rw [nums_length]; omega), List.drop_eq_nil_of_le (by rw [nums_length]; omega),
    List.take_append_of_le_length (by rw [nums_length]; omega), List.drop_append_of_le_length (by rw [nums_length]; omega)]
  simp [nums]
theorem HBlk.setState (H : HBlk w g st part h n) (st' : List Int) (hs : st'.length = 8) :
    HBlk (w.setRow g ((hrow st part h n).toArray.toList.take 0 ++ nums .u32 st' ++ (hrow st part h n).toArray.toList.drop (0 + (nums .u32 st').length)).toArray) g st' part h n := by
  have ls := H.ls
  refine ⟨(setRow_heap w g _ _ 38 _ H.blk).trans ?_, hs, H.lp⟩
  congr 3
  simp only [hrow, nums_length, hs]
  rw [List.drop_append_of_le_length (by rw [nums_length]; omega), List.drop_eq_nil_of_le (by rw [nums_length]; omega)]
  simp
theorem HBlk.part_reads (H : HBlk w g st part h n) : Kd.C (Kd.int .u8) w (some ⟨g, 8, none⟩) part.length part :=
  Kd.C_of_reads (d := 0) ⟨rfl, by rw [H.lp]; decide, fun _ => ⟨_, rfl, fun j hj => by rw [Addr.add_mid, blk_cell H.blk, List.getElem?_toArray, hrow_part H.ls H.lp j (by rw [H.lp] at hj; exact hj)]⟩⟩
theorem HBlk.state_range (H : HBlk w g st part h n) : w.rangeAt g 0 (nums .u32 st) := fun j v hv => by
  have hj : j < 8 := by have := (List.getElem?_eq_some_iff.1 hv).1; rw [nums_length, H.ls] at this; exact this
  rw [Nat.zero_add, blk_cell H.blk, List.getElem?_toArray, hrow_state H.ls j hj, ← hv]
  simp [nums, H.ls, hj]
theorem HBlk.state_there (H : HBlk w g st part h n) : w.there g 0 8 := fun j hj => by
  rw [Nat.zero_add]
  refine ⟨?_, H.frozen j⟩
  rw [blk_cell H.blk, List.getElem?_toArray, hrow_state H.ls j hj]; rfl
end
theorem setCells_row (g : Nat) (t : TypeId) : ∀ (vs : List Value) (o : Nat) (w : World) (cur : Array Value), w.heap[g]? = some (.cells cur t (0, 0)) → o + vs.length ≤ cur.size → w.setCells g o vs = w.setRow g (cur.toList.take o ++ vs ++ cur.toList.drop (o + vs.length)).toArray
  | [], o, w, cur, hg, _ => by
    simp only [World.setCells, List.append_nil, List.length_nil, Nat.add_zero, List.take_append_drop, Array.toArray_toList]
    rw [setRow_self w g cur t (0, 0) hg]
  | v :: rest, o, w, cur, hg, hl => by
    have ih := setCells_row g t rest (o + 1) (w.setRow g (cur.setIfInBounds o v)) (cur.setIfInBounds o v) (setRow_heap w g cur _ t _ hg) (by simp at hl ⊢; omega)
    rw [World.setCells, setCell_eq_setRow w g o cur t (0, 0) v hg, ih, setRow_setRow]
    congr 2
    have e := list_seg_step cur.toList o v rest (by simp at hl ⊢; omega)
    simpa [Array.toList_setIfInBounds, Nat.add_assoc] using e
theorem HBlk.stored {w : World} {g : Nat} {st part : List Int} {h n : Int} (H : HBlk w g st part h n) (st' : List Int) (hs : st'.length = 8) : HBlk (w.setCells g 0 (nums .u32 st')) g st' part h n := by
  rw [setCells_row g 38 _ 0 w _ H.blk (by rw [nums_length, hs, List.size_toArray, hrow_length H.ls H.lp]; omega)]
  exact H.setState st' hs

theorem un36 : Tryd.prog.underlying 36 = some (.array (Tryd.prog.arrayLen 36) (Tryd.prog.elem 36)) := by kernel_rfl
theorem len36 : Tryd.prog.arrayLen 36 = 64 := by kernel_rfl
theorem elem36 (w : World) : (sizeOf (Tryd.prog.elem 36)).run Tryd.prog w = .ok 1 w := by kernel_rfl
theorem sl36 (g h : Nat) (hh : h < 64) (w : World) : (Instr.sliceAt 36 (.pointer (some ⟨g, 8, none⟩)) (some (.int .i64 (h : Int))) none none).run Tryd.prog w = .ok (.slice (some ⟨g, 8 + h, none⟩) (64 - h) (64 - h)) w := by
  rw [run_sliceAt_array_l w 36 ⟨g, 8, none⟩ un36 .i64 (h : Int) (by omega) (by rw [len36]; omega), elem36, len36]
  simp only [Result.andThen_ok, slicedAt, Int.toNat_natCast, Nat.mul_one, Addr.add_mid]
  rw [if_neg (by omega)]
theorem sl36all (g : Nat) (w : World) : (Instr.sliceAt 36 (.pointer (some ⟨g, 8, none⟩)) none none none).run Tryd.prog w = .ok (.slice (some ⟨g, 8, none⟩) 64 64) w := by
  rw [run_sliceAt_array_all w 36 ⟨g, 8, none⟩ un36, elem36, len36]
  simp only [Result.andThen_ok, slicedAt, Nat.zero_mul, Addr.add_mid]
  rw [if_neg (by omega)]

/-- The hash stands for these bytes. -/
structure HashIs (rs fs : List Int) (w : World) (g : Nat) (l : List Int) (n : Int) (st part : List Int) : Prop where
  blk : HBlk w g st part ((l.length % 64 : Nat) : Int) n
  eq : st = blkL rs fs (l.length / 64) l
  tail : part.take (l.length % 64) = l.drop (64 * (l.length / 64))
end Go.Proofs.YtfjglhhandjahaaDoor.Sha
