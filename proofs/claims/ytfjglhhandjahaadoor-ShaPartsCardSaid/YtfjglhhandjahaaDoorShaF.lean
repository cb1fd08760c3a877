/- New, Of, Count, what a hash that is none tells, and awake. -/
import Derived.Test.YtfjglhhandjahaaDoorShaE
namespace Go.Proofs.YtfjglhhandjahaaDoor.Sha
open Go.RowKit Go.Proofs.YtfjglhhandjahaaDoorW.PrintWords Go.Proofs.YtfjglhhandjahaaDoor.PShaOf
set_option linter.unusedVariables false

theorem C_came {w W W' : World} {A : Option Addr} {n g : Nat} {xs : List Int} (h : Kd.C (Kd.int .u8) w A n xs) (hb : Below w.heap.size w W) (hg : w.heap.size ≤ g) (hk : KeepBut W W' g none) : Kd.C (Kd.int .u8) W' A n xs :=
  Kd.C_foot_came (Kd.heap_int .u8) h hb hg W' hk

set_option maxHeartbeats 1000000 in
set_option maxRecDepth 100000 in
theorem new_calls (rs : List Int) (f0 f1 f2 f3 f4 f5 f6 f7 : Int) (w : World) (hF : TB w 0 [f0, f1, f2, f3, f4, f5, f6, f7]) :
    Calls Tryd.prog 6 #[] w fun e w' => e = .returned (.pointer (some ⟨w.heap.size, 0, none⟩)) ∧ HIs rs [f0, f1, f2, f3, f4, f5, f6, f7] w' w.heap.size [] ∧ Below w.heap.size w w' := by
  have z := zeroV38
  have hc0 : w.cell? ⟨0, 0, none⟩ = some (.int .u32 f0) := hF.cell 0 (by simp)
  have hc1 : w.cell? ⟨0, 1, none⟩ = some (.int .u32 f1) := hF.cell 1 (by simp)
  have hc2 : w.cell? ⟨0, 2, none⟩ = some (.int .u32 f2) := hF.cell 2 (by simp)
  have hc3 : w.cell? ⟨0, 3, none⟩ = some (.int .u32 f3) := hF.cell 3 (by simp)
  have hc4 : w.cell? ⟨0, 4, none⟩ = some (.int .u32 f4) := hF.cell 4 (by simp)
  have hc5 : w.cell? ⟨0, 5, none⟩ = some (.int .u32 f5) := hF.cell 5 (by simp)
  have hc6 : w.cell? ⟨0, 6, none⟩ = some (.int .u32 f6) := hF.cell 6 (by simp)
  have hc7 : w.cell? ⟨0, 7, none⟩ = some (.int .u32 f7) := hF.cell 7 (by simp)
  clear hF
  go_enter Tryd.func6, Tryd.ntmps6
  go_wp2_with fail
  go_ret
  exact ⟨rfl, ⟨[f0, f1, f2, f3, f4, f5, f6, f7], List.replicate 64 0, ⟨⟨(blk_new w _).trans rfl, rfl, rfl⟩, rfl, rfl⟩⟩, below_alloc (Below.refl _ _) _⟩

set_option maxHeartbeats 1000000 in
theorem write_nil (v : Value) (w : World) : Calls Tryd.prog 8 #[.pointer none, v] w fun e w' => e = .returned (.tuple #[]) ∧ w' = w := by
  go_enter Tryd.func8, Tryd.ntmps8
  go_wp2_with fail
  exact bodyPost_ret (v := .tuple #[]) (by simp [results]) rfl ⟨rfl, rfl⟩
set_option maxHeartbeats 1000000 in
theorem count_nil (w : World) : Calls Tryd.prog 11 #[.pointer none] w fun e w' => e = .returned (.int .i64 0) ∧ w' = w := by
  go_enter Tryd.func11, Tryd.ntmps11
  go_wp2_with fail
  go_ret
  exact ⟨rfl, rfl⟩
set_option maxHeartbeats 1000000 in
theorem count_calls (rs fs : List Int) (g : Nat) (l : List Int) (w : World) (hI : HIs rs fs w g l) : Calls Tryd.prog 11 #[.pointer (some ⟨g, 0, none⟩)] w fun e w' => e = .returned (.int .i64 l.length) ∧ w' = w := by
  obtain ⟨st, part, hi⟩ := hI
  have hc := hi.blk.count
  clear hi
  go_enter Tryd.func11, Tryd.ntmps11
  go_wp2_with fail
  go_ret
  exact ⟨rfl, rfl⟩
set_option maxHeartbeats 1000000 in
theorem sum_nil (w : World) : Calls Tryd.prog 9 #[.pointer none] w fun e w' => e = .returned (.agg (nums .u32 (List.replicate 8 0)).toArray) ∧ Below w.heap.size w w' := by
  have z2 := zeroV29
  go_enter Tryd.func9, Tryd.ntmps9
  have hb := blk_new w (.cells #[.int .u32 0, .int .u32 0, .int .u32 0, .int .u32 0, .int .u32 0, .int .u32 0, .int .u32 0, .int .u32 0] 29)
  have HB := Aside0.mk hb
  clear hb
  go_wp2_with (refine wpList_store_row rfl 29 _ _ rfl w.heap.size (nums .u32 (List.replicate 8 0)).toArray rfl rfl 29 _ HB.out size29 rfl (one_nums _) ?_)
  exact bodyPost_ret (v := .agg (nums .u32 (List.replicate 8 0)).toArray) (results_c (p := 2) (ty := 29) (by kernel_rfl) _ _ w.heap.size 29 _ (0, 0) _ rfl (setRow_heap _ _ _ _ 29 (0, 0) HB.out) un29 rfl size29) rfl ⟨rfl, below_setRow (below_alloc (Below.refl _ _) _) (Nat.le_refl _) _⟩
theorem SumSt.start {rs fs : List Int} {w w1 : World}
    (hI : HIs rs fs w1 (w.alloc (.cells #[.int .u32 0, .int .u32 0, .int .u32 0, .int .u32 0, .int .u32 0, .int .u32 0, .int .u32 0, .int .u32 0] 29)).heap.size [])
    (hB : Below (w.alloc (.cells #[.int .u32 0, .int .u32 0, .int .u32 0, .int .u32 0, .int .u32 0, .int .u32 0, .int .u32 0, .int .u32 0] 29)).heap.size (w.alloc (.cells #[.int .u32 0, .int .u32 0, .int .u32 0, .int .u32 0, .int .u32 0, .int .u32 0, .int .u32 0, .int .u32 0] 29)) w1) : SumSt rs fs w w1 [] := by
  have e : (w.alloc (.cells #[.int .u32 0, .int .u32 0, .int .u32 0, .int .u32 0, .int .u32 0, .int .u32 0, .int .u32 0, .int .u32 0] 29)).heap.size = w.heap.size + 1 := by simp
  rw [e] at hI hB
  exact ⟨hI, (hB.block _ (by omega)).trans (blk_new w _), (below_alloc (Below.refl _ _) _).trans (hB.mono (by omega))⟩
set_option maxHeartbeats 1000000 in
theorem of_calls (rs : List Int) (f0 f1 f2 f3 f4 f5 f6 f7 : Int) (m : List Int) (A : Option Addr) (c : Nat) (w : World) (hF : TB w 0 [f0, f1, f2, f3, f4, f5, f6, f7]) (hK : TB w 1 rs) (hrs : rs.length = 64)
    (hm : Kd.C (Kd.int .u8) w A m.length m) (hc : m.length ≤ c) (hlen : m.length ≤ 900000) :
    Calls Tryd.prog 12 #[.slice A m.length c] w fun e w' => e = .returned (.agg (nums .u32 (digest rs [f0, f1, f2, f3, f4, f5, f6, f7] m)).toArray) ∧ Below w.heap.size w w' := by
  have HF := Aside0.mk hF
  have HK := Aside0.mk hK
  have HM := Aside0.mk hm
  have hw1 : 1 < w.heap.size := hK.lt
  clear hF hK hm
  have z2 := zeroV29
  obtain ⟨fs, hfs⟩ : ∃ fs, [f0, f1, f2, f3, f4, f5, f6, f7] = fs := ⟨_, rfl⟩
  have hfl : fs.length = 8 := by rw [← hfs]; rfl
  have HN : Aside0 (∀ w0, TB w0 0 fs → Calls Tryd.prog 6 #[] w0 fun e w' => e = .returned (.pointer (some ⟨w0.heap.size, 0, none⟩)) ∧ HIs rs fs w' w0.heap.size [] ∧ Below w0.heap.size w0 w') := ⟨fun w0 h => by rw [← hfs] at h ⊢; exact new_calls rs f0 f1 f2 f3 f4 f5 f6 f7 w0 h⟩
  rw [hfs] at HF ⊢
  clear hfs
  have hdl : (digest rs fs m).length = 8 := blkL_length _ _ hfl _ _
  have HD := Aside0.mk hdl
  clear hdl
  go_enter Tryd.func12, Tryd.ntmps12
  go_wp2_with fail
  go_wp2_with (first
    | (go_at_call 6; refine (HN.out _ (HF.out.below (below_alloc (Below.refl _ _) _))).mono ?_; rintro e w1 ⟨rfl, hI, hB⟩; have S1 := Aside0.mk (SumSt.start hI hB); clear hI hB)
    | (go_at_call 8; refine (write_is rs fs (w.heap.size + 1) [] m A c w1 S1.out.is (fun W' hk => C_came HM.out S1.out.bel (Nat.le_succ _) hk) hc (by simp; omega) hrs (S1.out.tab HK.out) (by omega)).mono ?_; rintro e w2 ⟨rfl, hI, hG⟩; have S2 := Aside0.mk (S1.out.wrote (Below.refl _ _) hI hG); clear hI hG)
    | (go_at_call 9; refine (sum_calls rs fs (w.heap.size + 1) m w2 S2.out.is hlen hrs hfl (S2.out.tab HK.out) (by omega)).mono ?_; rintro e w3 ⟨rfl, hB⟩; have S3 := Aside0.mk (S2.out.wrote (Below.refl _ _) (S2.out.is.below hB) (gr_of_below hB)); clear hB)
    | (refine wpList_store_row rfl 29 _ _ rfl w.heap.size (nums .u32 (digest rs fs m)).toArray rfl rfl 29 _ S3.out.res (by rw [size29]; simp [nums, HD.out]) (by simp [nums, HD.out]) (one_nums _) ?_))
  exact bodyPost_ret (v := .agg (nums .u32 (digest rs fs m)).toArray) (results_c (p := 2) (ty := 29) (by kernel_rfl) _ _ w.heap.size 29 _ (0, 0) _ rfl (setRow_heap _ _ _ _ 29 (0, 0) S3.out.res) un29 rfl (by rw [size29]; simp [nums, HD.out])) rfl ⟨rfl, below_setRow S3.out.bel (Nat.le_refl _) _⟩
end Go.Proofs.YtfjglhhandjahaaDoor.Sha
