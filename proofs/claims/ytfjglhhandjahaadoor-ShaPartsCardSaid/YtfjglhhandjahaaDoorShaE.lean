/- What Sum tells. -/
import Derived.Test.YtfjglhhandjahaaDoorShaD
namespace Go.Proofs.YtfjglhhandjahaaDoor.Sha
open Go.RowKit Go.Proofs.YtfjglhhandjahaaDoorW.PrintWords Go.Proofs.YtfjglhhandjahaaDoor.PShaOf
set_option linter.unusedVariables false

def zero38 : Array Value := (hrow (List.replicate 8 0) (List.replicate 64 0) 0 0).toArray
theorem zeroV38 (w : World) : (zeroValue 38).run Tryd.prog w = .ok (.agg zero38) w := by kernel_rfl
theorem un38 : ∃ f, Tryd.prog.underlying 38 = some (.struct f) := by
  have h : (match Tryd.prog.underlying 38 with | some (.struct _) => true | _ => false) = true := by kernel_rfl
  revert h
  cases hq : Tryd.prog.underlying 38 with
  | none => intro h; cases h
  | some d =>
    intro h
    cases d <;> first | exact ⟨_, rfl⟩ | cases h
theorem size38 : (Tryd.prog.info? 38).map (·.size) = some 74 := by kernel_rfl

theorem hrow_one (st part : List Int) (h n : Int) : (hrow st part h n).toArray.all (·.oneCell') = true := by
  rw [Array.all_eq_true_iff_forall_mem]
  intro v hv
  simp only [hrow, List.mem_toArray, List.mem_append, List.mem_cons, List.not_mem_nil, or_false] at hv
  rcases hv with hv | hv | rfl | rfl
  · exact one_k _ _ _ hv
  · exact one_k _ _ _ hv
  · rfl
  · rfl
/-- The state of Sum. -/
structure SumSt (rs fs : List Int) (w wr : World) (l : List Int) : Prop where
  is : HIs rs fs wr (w.heap.size + 1) l
  res : wr.heap[w.heap.size]? = some (.cells #[.int .u32 0, .int .u32 0, .int .u32 0, .int .u32 0, .int .u32 0, .int .u32 0, .int .u32 0, .int .u32 0] 29 (0, 0))
  bel : Below w.heap.size w wr
theorem HIs.kept {rs fs : List Int} {w w' : World} {g : Nat} {l : List Int} (h : HIs rs fs w g l) (hk : w'.heap[g]? = w.heap[g]?) : HIs rs fs w' g l := by
  obtain ⟨st, part, hi⟩ := h
  exact ⟨st, part, ⟨hi.blk.kept hk, hi.eq, hi.tail⟩⟩
theorem HIs.lt {rs fs : List Int} {w : World} {g : Nat} {l : List Int} (h : HIs rs fs w g l) : g < w.heap.size := by
  obtain ⟨st, part, hi⟩ := h
  exact blk_lt hi.blk.blk
theorem HIs.below {rs fs : List Int} {w w' : World} {g : Nat} {l : List Int} (h : HIs rs fs w g l) (hb : Below w.heap.size w w') : HIs rs fs w' g l := h.kept (hb.block g h.lt)
theorem SumSt.lt {rs fs : List Int} {w wr : World} {l : List Int} (S : SumSt rs fs w wr l) : w.heap.size + 1 < wr.heap.size := S.is.lt
theorem SumSt.tab {rs fs : List Int} {w wr : World} {l : List Int} (S : SumSt rs fs w wr l) (h : TB w 1 rs) : TB wr 1 rs := TB.below h S.bel
theorem SumSt.wrote {rs fs : List Int} {w wr wa w' : World} {l l' : List Int} (S : SumSt rs fs w wr l) (ha : Below wr.heap.size wr wa) (hI : HIs rs fs w' (w.heap.size + 1) l') (hg : wa.grownBy w' (some (w.heap.size + 1))) : SumSt rs fs w w' l' := by
  have hlt := S.lt
  have hsz := ha.size
  refine ⟨hI, ?_, (S.bel.trans (ha.mono (by omega))).grown hg (by omega) (fun k hk => by cases hk; omega)⟩
  rw [hg.block _ (by omega) (fun e => by have := Option.some.inj e; omega), ha.block _ (by omega)]
  exact S.res
theorem lit_foot (W : World) (g : Nat) (hg : g < W.heap.size) (xs : List Int) (hx : xs.length ≤ 1000000) (T : TypeId) : ∀ W', KeepBut (W.alloc (.cells (nums .u8 xs).toArray T)) W' g none → Kd.C (Kd.int .u8) W' (some ⟨W.heap.size, 0, none⟩) xs.length xs := by
  intro W' hk
  have hb := hk.blk (blk_new W _) (by omega) (by simp)
  refine Kd.C_of_reads (d := 0) ⟨rfl, by omega, fun _ => ⟨_, rfl, fun j hj => ?_⟩⟩
  rw [add_plain, blk_cell hb j]
  simp [nums, hj]
theorem write_one (rs fs : List Int) (g : Nat) (l : List Int) (b : Int) (W : World) (hI : HIs rs fs W g l) (hlen : l.length ≤ 999999) (hrs : rs.length = 64) (hK : TB W 1 rs) (hg : g ≠ 1) :
    Calls Tryd.prog 8 #[.pointer (some ⟨g, 0, none⟩), .slice (some ⟨W.heap.size, 0, none⟩) 1 1] (W.alloc (.cells #[.int .u8 b] 5)) fun e w' => e = .returned (.tuple #[]) ∧ HIs rs fs w' g (l ++ [b]) ∧ (W.alloc (.cells #[.int .u8 b] 5)).grownBy w' (some g) :=
  write_is rs fs g l [b] (some ⟨W.heap.size, 0, none⟩) 1 (W.alloc (.cells #[.int .u8 b] 5)) (hI.below (below_alloc (Below.refl _ _) _)) (lit_foot W g hI.lt [b] (by simp) 5) (Nat.le_refl _) (by simp; omega) hrs (TB.below hK (below_alloc (Below.refl _ _) _)) hg
/-- How far it is to the last words. -/
def haveM (w : World) (E : Nat) : Nat := ((120 - intOf ((w.cell? ⟨E, 72, none⟩).getD undef)) % 64).toNat
theorem HIs.have_ {rs fs : List Int} {w : World} {g : Nat} {l : List Int} (h : HIs rs fs w g l) : w.cell? ⟨g, 72, none⟩ = some (.int .i64 ((l.length % 64 : Nat) : Int)) := by
  obtain ⟨st, part, hi⟩ := h
  exact hi.blk.have_
theorem SumSt.have_ {rs fs : List Int} {w wr : World} {l : List Int} (S : SumSt rs fs w wr l) : wr.cell? ⟨w.heap.size + 1, 72, none⟩ = some (.int .i64 ((l.length % 64 : Nat) : Int)) := S.is.have_
theorem SumSt.alloc8 {rs fs : List Int} {w wr : World} {l : List Int} (S : SumSt rs fs w wr l) (o : Obj) : SumSt rs fs w (wr.alloc o) l := by
  have hlt := S.lt
  refine ⟨S.is.below (below_alloc (Below.refl _ _) _), (below_alloc (Below.refl _ _) o).block _ (by omega) |>.trans S.res, S.bel.alloc (by omega) _⟩
theorem made8 (W : World) : (Instr.makeSlice 23 (.int .i64 8) (.int .i64 8)).run Tryd.prog W = .ok (.slice (some ⟨W.heap.size, 0, none⟩) 8 8) (W.alloc (.cells (nums .u8 (List.replicate 8 0)).toArray 5)) := by
  have h := print_make (P := Tryd.prog) 23 5 .u8 1 (by kernel_rfl) (by kernel_rfl) (by decide) 8 (by decide) W
  rw [show madeCells #[Value.int .u8 0] 8 = (nums .u8 (List.replicate 8 0)).toArray from by kernel_rfl] at h
  exact h
/-- A byte of the count of bits. -/
def lenByte (n : Int) (k : Nat) : Int := n * 8 / 2 ^ (8 * (7 - k)) % 256
/-- So many of the eight bytes. -/
def lenRow (n : Int) (t : Nat) : List Int := (List.range 8).map fun k => if k < t then lenByte n k else 0
theorem lenRow_step (n : Int) {t : Nat} (ht : t < 8) : (lenRow n t).set t (lenByte n t) = lenRow n (t + 1) := by
  apply List.ext_getElem
  · simp [lenRow]
  · intro i h1 h2
    simp only [lenRow, List.getElem_set, List.getElem_map, List.getElem_range]
    by_cases e : t = i
    · subst e; simp
    · rw [if_neg e]
      by_cases h : i < t
      · rw [if_pos h, if_pos (by omega)]
      · rw [if_neg h, if_neg (by omega)]
/-- How many zeros come behind. -/
def padN (n : Nat) : Nat := (119 - n % 64) % 64
/-- The bytes with what comes behind. -/
def padL (l : List Int) : List Int := (l ++ 128 :: List.replicate (padN l.length) 0) ++ lenRow l.length 8
/-- The digest. -/
def digest (rs fs l : List Int) : List Int := blkL rs fs ((padL l).length / 64) (padL l)
/-- The state of Sum's last loop. -/
structure LastSt (rs fs : List Int) (w wr : World) (l : List Int) (j B t : Nat) : Prop where
  sum : SumSt rs fs w wr (l ++ 128 :: List.replicate j 0)
  row : wr.heap[B]? = some (.cells (nums .u8 (lenRow l.length t)).toArray 5 (0, 0))
  far : w.heap.size + 1 < B
theorem LastSt.step {rs fs : List Int} {w wr : World} {l : List Int} {j B t : Nat} (S : LastSt rs fs w wr l j B t) (ht : t < 8) : LastSt rs fs w (wr.setCell ⟨B, t, none⟩ (.int .u8 ((l.length : Int) * 8 / 2 ^ (8 * (7 - t)) % 256))) l j B (t + 1) := by
  have hb := S.far
  refine ⟨⟨S.sum.is.kept (Below.heap_setCell _ _ _ _ (by simp; omega)), (Below.heap_setCell _ _ _ _ (by simp; omega)).trans S.sum.res, S.sum.bel.setCell (by simp; omega) _⟩, ?_, hb⟩
  refine (blk_set S.row t _).trans ?_
  rw [← lenRow_step _ ht]
  simp [nums, List.map_set, lenByte]
theorem write_last (rs fs : List Int) {w : World} (wq : World) {l : List Int} {j B : Nat} (S : LastSt rs fs w wq l j B 8) (hrs : rs.length = 64) (hK : TB w 1 rs) (hw1 : 1 < w.heap.size) (hlen : l.length ≤ 900000) (hj : j < 64) :
    Calls Tryd.prog 8 #[.pointer (some ⟨w.heap.size + 1, 0, none⟩), .slice (some ⟨B, 0, none⟩) 8 8] wq fun e w' => e = .returned (.tuple #[]) ∧ HIs rs fs w' (w.heap.size + 1) ((l ++ 128 :: List.replicate j 0) ++ lenRow l.length 8) ∧ wq.grownBy w' (some (w.heap.size + 1)) := by
  have h8 : (lenRow l.length 8).length = 8 := by simp [lenRow]
  have h := write_is rs fs (w.heap.size + 1) (l ++ 128 :: List.replicate j 0) (lenRow l.length 8) (some ⟨B, 0, none⟩) 8 wq S.sum.is (fun W' hk => by
    have hb := hk.blk S.row (by have := S.far; omega) (by simp)
    refine Kd.C_of_reads (d := 0) ⟨rfl, by omega, fun _ => ⟨_, rfl, fun i hi => ?_⟩⟩
    rw [add_plain, blk_cell hb i]
    simp [nums, lenRow] at hi ⊢
    simp [hi]) (by omega) (by simp [lenRow]; omega) hrs (S.sum.tab hK) (by omega)
  rw [h8] at h
  exact h
set_option maxHeartbeats 1000000 in
set_option maxRecDepth 100000 in
theorem sum_calls (rs fs : List Int) (g : Nat) (l : List Int) (w : World) (hI : HIs rs fs w g l) (hlen : l.length ≤ 900000) (hrs : rs.length = 64) (hfs : fs.length = 8) (hK : TB w 1 rs) (hg : g ≠ 1) :
    Calls Tryd.prog 9 #[.pointer (some ⟨g, 0, none⟩)] w fun e w' => e = .returned (.agg (nums .u32 (digest rs fs l)).toArray) ∧ Below w.heap.size w w' := by
  obtain ⟨st, part, hi⟩ := hI
  have hcnt := hi.blk.count
  have HI := Aside0.mk hi
  have HK := Aside0.mk hK
  have hw1 : 1 < w.heap.size := hK.lt
  clear hi hK
  have z := zeroV38
  have z2 := zeroV29
  obtain ⟨f38, hd38⟩ := un38
  have HD := Aside0.mk hd38
  clear hd38
  have hb0 : (w.alloc (.cells #[.int .u32 0, .int .u32 0, .int .u32 0, .int .u32 0, .int .u32 0, .int .u32 0, .int .u32 0, .int .u32 0] 29)).heap[g]? = some (.cells (hrow st part ((l.length % 64 : Nat) : Int) l.length).toArray 38 (0, 0)) := blk_alloc HI.out.blk.blk _
  have hb1 : ((w.alloc (.cells #[.int .u32 0, .int .u32 0, .int .u32 0, .int .u32 0, .int .u32 0, .int .u32 0, .int .u32 0, .int .u32 0] 29)).alloc (.cells zero38 38)).heap[w.heap.size + 1]? = some (.cells zero38 38 (0, 0)) := by
    have := blk_new (w.alloc (.cells #[.int .u32 0, .int .u32 0, .int .u32 0, .int .u32 0, .int .u32 0, .int .u32 0, .int .u32 0, .int .u32 0] 29)) (.cells zero38 38)
    simpa using this
  have hsz : (Tryd.prog.info? 38).map (·.size) = some (hrow st part ((l.length % 64 : Nat) : Int) l.length).toArray.size := by rw [size38, List.size_toArray, hrow_length HI.out.blk.ls HI.out.blk.lp]
  have hs2 : zero38.size = (hrow st part ((l.length % 64 : Nat) : Int) l.length).toArray.size := by rw [show (hrow st part ((l.length % 64 : Nat) : Int) l.length).toArray.size = 74 from hrow_length HI.out.blk.ls HI.out.blk.lp]; rfl
  have ho : (hrow st part ((l.length % 64 : Nat) : Int) l.length).toArray.all (·.oneCell') = true := hrow_one _ _ _ _
  obtain ⟨row, hrow0⟩ : ∃ r, (hrow st part ((l.length % 64 : Nat) : Int) l.length).toArray = r := ⟨_, rfl⟩
  rw [hrow0] at hb0 hsz hs2 ho
  have HL := Aside0.mk (And.intro hb0 (And.intro hb1 (And.intro hsz (And.intro hs2 (And.intro ho hrow0)))))
  clear hb0 hb1 hsz hs2 ho hrow0
  go_enter Tryd.func9, Tryd.ntmps9
  go_upto_region 3 with (fail)
  go_cut [3] (fun p wc => p = .pointer (some ⟨w.heap.size + 1, 0, none⟩) ∧ Aside0 (SumSt rs fs w wc l))
  case first =>
    go_wp2_with (first
      | (refine wpList_load_row rfl 38 _ rfl g rfl 38 row (0, 0) _ HL.out.1 HD.out rfl HL.out.2.2.1 ?_)
      | (refine wpList_store_row rfl 38 _ _ rfl (w.heap.size + 1) row rfl rfl 38 zero38 HL.out.2.1 HL.out.2.2.1 HL.out.2.2.2.1 HL.out.2.2.2.2.1 ?_))
    go_meet
    refine ⟨rfl, ⟨⟨⟨st, part, ⟨⟨(setRow_heap _ _ zero38 row 38 (0, 0) HL.out.2.1).trans (by rw [← HL.out.2.2.2.2.2]), HI.out.blk.ls, HI.out.blk.lp⟩, HI.out.eq, HI.out.tail⟩⟩, (setRow_other _ _ _ _ (by omega)).trans (blk_alloc (blk_new w _) _),
      below_setRow (((Below.refl _ w).alloc (Nat.le_refl _) _).alloc (by simp) _) (by omega) _⟩⟩⟩
  case rest =>
    obtain ⟨rfl, hS⟩ := hcut
    have hcnt2 := pw_cell_below hS.out.bel hcnt
    clear hcnt
    go_wp2_with ((go_at_call 8; refine (write_one rs fs (w.heap.size + 1) l 128 wc hS.out.is (by omega) hrs (hS.out.tab HK.out) (by omega)).mono ?_; rintro e w1 ⟨rfl, hI1, hG1⟩; have S1 := Aside0.mk (hS.out.wrote (below_alloc (Below.refl _ _) _) hI1 hG1); clear hI1 hG1 hcnt2))
    have hpad : (l.length + 1 + padN l.length) % 64 = 56 := by unfold padN; omega
    have hpad2 : padN l.length < 64 := by unfold padN; omega
    obtain ⟨P, hP⟩ : ∃ P, padN l.length = P := ⟨_, rfl⟩
    rw [hP] at hpad hpad2
    have HP := Aside0.mk (And.intro hP hpad)
    clear hP hpad
    go_loopw [23] (fun _ wr => ∃ j, j ≤ P ∧ Aside0 (SumSt rs fs w wr (l ++ 128 :: List.replicate j 0))) (fun _ wr => haveM wr (w.heap.size + 1))
    case atStart => exact ⟨0, by omega, S1⟩
    case round =>
      obtain ⟨j, hj, HS⟩ := hrel
      have S := HS
      have hc := S.out.have_
      have hlen1 : (l ++ 128 :: List.replicate j 0).length = l.length + 1 + j := by simp; omega
      rw [hlen1] at hc
      clear HS S1 hS
      by_cases h56 : (l.length + 1 + j) % 64 = 56
      · obtain rfl : j = P := by have := HP.out.2; omega
        generalize wr = w3 at *
        have S8 := Aside0.mk (S.out.alloc8 (.cells (nums .u8 (List.replicate 8 0)).toArray 5))
        have S8lt : w.heap.size + 1 < w3.heap.size := S.out.lt
        have hmk := made8
        have hnum : (nums .u8 (List.replicate 8 0)).toArray = #[.int .u8 0, .int .u8 0, .int .u8 0, .int .u8 0, .int .u8 0, .int .u8 0, .int .u8 0, .int .u8 0] := rfl
        have h58 : (((l.length + 1 + j) % 64 : Nat) : Int) = 56 := by omega
        go_upto_region 8 with (fail)
        clear S hlen1 hc h56 h58 hj
        go_wp2_with fail
        go_loopw [29] (fun i wq => ∃ t : Nat, t ≤ 8 ∧ i = .int .i64 t ∧ Aside0 (LastSt rs fs w wq l j w3.heap.size t)) (fun i _ => 8 - (intOf i).toNat)
        case atStart => exact ⟨0, by omega, rfl, ⟨⟨S8.out, blk_new w3 _, S8lt⟩⟩⟩
        case round =>
          clear S8 S8lt hmk hnum
          obtain ⟨t, ht, rfl, HS⟩ := hrel
          by_cases hlt : t < 8
          · have hb5 : (0 : Int) ≤ (t : Int) := by omega
            have hb6 : (t : Int) < 8 := by omega
            have hc1 : wr.cell? ⟨w3.heap.size, t, none⟩ = some (.int .u8 ((lenRow l.length t).getD t 0)) := by
              rw [blk_cell HS.out.row t]; simp [nums, lenRow, hlt]
            have hf1 : wr.frozen? ⟨w3.heap.size, t, none⟩ = false := blk_frozen HS.out.row t
            go_wp2_with fail
            refine ⟨⟨t + 1, by omega, by go_num, ⟨HS.out.step hlt⟩⟩, ?_⟩
            simp [intOf]; omega
          · obtain rfl : t = 8 := by omega
            have hrw : (lenRow l.length 8).length = 8 := by simp [lenRow]
            have HZ := Aside0.mk hrw
            clear hrw
            go_upto_region 15 with ((go_at_call 8; refine (write_last rs fs wr HS.out hrs HK.out hw1 hlen hpad2).mono ?_; rintro e w2 ⟨rfl, hI1, hG1⟩; have S2 := Aside0.mk (HS.out.sum.wrote (Below.refl _ _) hI1 hG1); clear hI1 hG1))
            obtain ⟨st2, part2, hi2⟩ := S2.out.is
            have hst2 : st2.length = 8 := hi2.blk.ls
            have hrg := hi2.blk.state_range
            have hn2 : (Tryd.prog.info? 29).map (·.size) = some (nums .u32 st2).length := by rw [size29, nums_length, hst2]
            have hn3 : (Tryd.prog.info? 29).map (·.size) = some (nums .u32 st2).toArray.size := by rw [size29]; simp [nums, hst2]
            have hsz : (#[.int .u32 0, .int .u32 0, .int .u32 0, .int .u32 0, .int .u32 0, .int .u32 0, .int .u32 0, .int .u32 0] : Array Value).size = (nums .u32 st2).toArray.size := by simp [nums, hst2]
            have h1 := one_nums st2
            have hre := S2.out.res
            have eq := hi2.eq
            have HX := Aside0.mk (And.intro hrg (And.intro hn2 (And.intro hn3 (And.intro hsz (And.intro h1 (And.intro hre eq))))))
            clear hrg hn2 hn3 hsz h1 hre eq hi2 hst2
            go_wp2_with (first
              | (refine wpList_load_mid rfl 29 _ rfl (w.heap.size + 1) 0 rfl (nums .u32 st2) _ HX.out.1 un29 rfl HX.out.2.1 ?_)
              | (refine wpList_store_row rfl 29 _ _ rfl w.heap.size (nums .u32 st2).toArray rfl rfl 29 _ HX.out.2.2.2.2.2.1 HX.out.2.2.1 HX.out.2.2.2.1 HX.out.2.2.2.2.1 ?_))
            have hfin : (w2.setRow w.heap.size (nums .u32 st2).toArray).heap[w.heap.size]? = some (.cells (nums .u32 st2).toArray 29 (0, 0)) := setRow_heap w2 w.heap.size _ _ 29 (0, 0) HX.out.2.2.2.2.2.1
            have hbl : Below w.heap.size w (w2.setRow w.heap.size (nums .u32 st2).toArray) := below_setRow S2.out.bel (Nat.le_refl _) _
            exact bodyPost_ret (v := .agg (nums .u32 st2).toArray) (results_c (p := 2) (ty := 29) (by kernel_rfl) _ _ w.heap.size 29 _ (0, 0) _ rfl hfin un29 rfl HX.out.2.2.1) rfl ⟨by rw [HX.out.2.2.2.2.2.2, ← HP.out.1]; rfl, hbl⟩
      · have h57 : ¬ (((l.length + 1 + j) % 64 : Nat) : Int) = 56 := by omega
        go_wp2_with ((go_at_call 8; refine (write_one rs fs (w.heap.size + 1) _ 0 wr S.out.is (by rw [hlen1]; omega) hrs (S.out.tab HK.out) (by omega)).mono ?_; rintro e w2 ⟨rfl, hI1, hG1⟩; have S2 := Aside0.mk (S.out.wrote (below_alloc (Below.refl _ _) _) hI1 hG1); clear hI1 hG1))
        refine ⟨⟨j + 1, ?_, ⟨?_⟩⟩, ?_⟩
        · have := HP.out.2; omega
        · have := S2.out
          rw [List.append_assoc, List.cons_append, ← List.replicate_succ'] at this
          exact this
        · have h2 := S2.out.have_
          rw [List.length_append, hlen1] at h2
          simp only [haveM, hc, h2, Option.getD_some, intOf, List.length_cons, List.length_nil]
          omega
end Go.Proofs.YtfjglhhandjahaaDoor.Sha
