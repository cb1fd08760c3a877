/- The words of a block (sha.wide). -/
import Derived.Test.YtfjglhhandjahaaDoorShaP
import Derived.Laws.CopyRow
import Derived.Laws.CopyOwn
import Derived.Deep.MidRow
namespace Go.Proofs.YtfjglhhandjahaaDoor.Sha
open Go.RowKit Go.Proofs.YtfjglhhandjahaaDoorW.PrintWords Go.Proofs.YtfjglhhandjahaaDoor.PShaOf
set_option linter.unusedVariables false

/-- A word turned left. -/
def rl (x n : Int) : Int := (bits_RotateLeft32.f x n).getD 0
theorem rot7 (x : Int) : bits_RotateLeft32.f x (-7) = some (rl x (-7)) := by
  unfold rl bits_RotateLeft32.f
  rw [if_pos (by decide +kernel), if_pos (by decide +kernel)]; rfl
theorem rot18 (x : Int) : bits_RotateLeft32.f x (-18) = some (rl x (-18)) := by
  unfold rl bits_RotateLeft32.f
  rw [if_pos (by decide +kernel), if_pos (by decide +kernel)]; rfl
theorem rot17 (x : Int) : bits_RotateLeft32.f x (-17) = some (rl x (-17)) := by
  unfold rl bits_RotateLeft32.f
  rw [if_pos (by decide +kernel), if_pos (by decide +kernel)]; rfl
theorem rot19 (x : Int) : bits_RotateLeft32.f x (-19) = some (rl x (-19)) := by
  unfold rl bits_RotateLeft32.f
  rw [if_pos (by decide +kernel), if_pos (by decide +kernel)]; rfl

def zero64 : Array Value := (nums .u32 (List.replicate 64 0)).toArray
theorem zeroV47 (w : World) : (zeroValue 47).run Tryd.prog w = .ok (.agg zero64) w := by kernel_rfl

/-- The next word. -/
def wideNext (xs : List Int) (t : Nat) : Int :=
  IntKind.u32.wrap (IntKind.u32.wrap (IntKind.u32.wrap (xs.getD (t - 16) 0 + Go.bits .xor .u32 (Go.bits .xor .u32 (rl (xs.getD (t - 15) 0) (-7)) (rl (xs.getD (t - 15) 0) (-18))) (xs.getD (t - 15) 0 / 8)) + xs.getD (t - 7) 0) +
    Go.bits .xor .u32 (Go.bits .xor .u32 (rl (xs.getD (t - 2) 0) (-17)) (rl (xs.getD (t - 2) 0) (-19))) (xs.getD (t - 2) 0 / 1024))
/-- So many words more, from the t-th on. -/
def wideGo : Nat → Nat → List Int → List Int
  | 0, _, xs => xs
  | k + 1, t, xs => wideGo k (t + 1) (xs.set t (wideNext xs t))
theorem wideGo_length : ∀ k t xs, (wideGo k t xs).length = xs.length
  | 0, _, _ => rfl
  | k + 1, t, xs => by rw [wideGo, wideGo_length]; simp
def wideL (ws : List Int) : List Int := wideGo 48 16 (ws ++ List.replicate 48 0)

theorem un43 : Tryd.prog.underlying 43 = some (.slice 28) := by kernel_rfl
theorem size28 : (Tryd.prog.info? 28).map (·.size) = some 1 := by kernel_rfl

/-- Block b holds these words. -/
def W32 (w : World) (b : Nat) (T : TypeId) (xs : List Int) : Prop := w.heap[b]? = some (.cells (nums .u32 xs).toArray T (0, 0))
theorem W32.cell {w : World} {b : Nat} {T : TypeId} {xs : List Int} (h : W32 w b T xs) (i : Nat) (hi : i < xs.length) : w.cell? ⟨b, i, none⟩ = some (.int .u32 (xs.getD i 0)) := by
  rw [blk_cell h i]
  simp [nums, hi]
theorem W32.frozen {w : World} {b : Nat} {T : TypeId} {xs : List Int} (h : W32 w b T xs) (i : Nat) : w.frozen? ⟨b, i, none⟩ = false := blk_frozen h i
theorem W32.set {w : World} {b : Nat} {T : TypeId} {xs : List Int} (h : W32 w b T xs) (i : Nat) (v : Int) : W32 (w.setCell ⟨b, i, none⟩ (.int .u32 v)) b T (xs.set i v) := by
  have := blk_set h i (.int .u32 v)
  unfold W32
  rw [this]
  simp [nums, List.map_set]
theorem W32.drewN {w : World} {b : Nat} {T : TypeId} {xs : List Int} (h : W32 w b T xs) (n : Nat) : W32 (w.drewN n) b T xs := h
theorem W32.ofCopy {w : World} {b : Nat} {T : TypeId} {xs : List Int} (h : W32 w b T xs) (o : Nat) (ys : List Int) :
    W32 (w.setRow b ((nums .u32 xs).toArray.toList.take o ++ nums .u32 ys ++ (nums .u32 xs).toArray.toList.drop (o + (nums .u32 ys).length)).toArray) b T (xs.take o ++ ys ++ xs.drop (o + ys.length)) := by
  unfold W32
  rw [setRow_heap w b _ _ T _ h]
  simp [nums, List.map_take, List.map_drop]

/-- A row that is read, cell by cell. -/
theorem reads_nums {w : World} {A : Option Addr} {n : Nat} {l : List Int} (h : Kd.C (Kd.int .u32) w A n l) (hn : 0 < l.length) (hl : l.length = n := by rfl) : ∃ ad, A = some ad ∧ ∀ j v, (nums .u32 l)[j]? = some v → w.cell? (ad.add j) = some v := by
  obtain ⟨ad, e, _⟩ := Kd.at_int h 0 (by omega) (by omega)
  refine ⟨ad, e, fun j v hv => ?_⟩
  have hj : j < l.length := by have := (List.getElem?_eq_some_iff.1 hv).1; simpa [nums] using this
  obtain ⟨ad', e', hc⟩ := Kd.at_int h (j : Int) (by omega) (by omega)
  rw [e] at e'; cases e'
  rw [Int.toNat_natCast] at hc
  rw [hc]
  have : (nums .u32 l)[j]? = some (.int .u32 (rd l (j : Int))) := by simp [nums, rd, hj]
  rw [← hv, this]

section
variable {P : Program}
theorem ld_row {w : World} {g : Nat} {t ty : TypeId} {cs : Array Value} {fr : Nat × Nat} {d : TypeDesc} (hg : w.heap[g]? = some (.cells cs t fr))
    (hu : P.underlying ty = some d) (hd : (match d with | .struct _ | .array _ _ => true | _ => false) = true) (hi : (P.info? ty).map (·.size) = some cs.size) :
    (Instr.loadAt ty (.pointer (some ⟨g, 0, none⟩))).run P w = .ok (.agg cs) w := by
  simp only [Instr.loadAt, Instr.sureAddr, Sem.run_bind, Sem.run_pure, Result.andThen_ok, run_loadVar_row w g t ty cs fr d hg hu hd hi]
theorem st_row {w : World} {g : Nat} {t ty : TypeId} {old cells : Array Value} (hg : w.heap[g]? = some (.cells old t (0, 0))) (hi : (P.info? ty).map (·.size) = some cells.size)
    (ho : old.size = cells.size) (h1 : cells.all (·.oneCell') = true) :
    (Instr.storeAt ty (.pointer (some ⟨g, 0, none⟩)) (.agg cells)).run P w = .ok () (w.setRow g cells) := by
  simp only [Instr.storeAt, Instr.sureAddr, Sem.run_bind, Sem.run_pure, Result.andThen_ok, run_storeVar_row (P := P) w g t ty old cells hg hi ho h1]
theorem results_c {fn : Func} {p : Tmp} {ty : TypeId} (h : fn.results = #[.cell p ty]) (tmps : Array Value) (w : World) (g : Nat) (t : TypeId) (cs : Array Value) (fr : Nat × Nat) (d : TypeDesc)
    (hp : tmps.getD p undef = .pointer (some ⟨g, 0, none⟩)) (hg : w.heap[g]? = some (.cells cs t fr))
    (hu : P.underlying ty = some d) (hd : (match d with | .struct _ | .array _ _ => true | _ => false) = true) (hi : (P.info? ty).map (·.size) = some cs.size) :
    (results fn tmps).run P w = .ok (.agg cs) w := by
  have hp' : tmps[p]?.getD undef = .pointer (some ⟨g, 0, none⟩) := by simpa using hp
  simp [results, h, hp', asAddr, run_loadVar_row w g t ty cs fr d hg hu hd hi]
end
theorem one_nums (xs : List Int) : (nums .u32 xs).toArray.all (·.oneCell') = true := by
  rw [Array.all_eq_true_iff_forall_mem]
  intro v hv
  simp only [nums, List.mem_toArray, List.mem_map] at hv
  obtain ⟨a, _, rfl⟩ := hv
  rfl
theorem un47 : Tryd.prog.underlying 47 = some (.array 64 28) := by kernel_rfl
theorem size47 : (Tryd.prog.info? 47).map (·.size) = some 64 := by kernel_rfl

/-- The state of the loop of wide. -/
structure WideSt (w wr : World) (ws : List Int) (t : Nat) (xs : List Int) : Prop where
  len : xs.length = 64
  blk : W32 wr (w.heap.size + 1) 47 xs
  res : wr.heap[w.heap.size]? = some (.cells zero64 47 (0, 0))
  eq : wideGo (64 - t) t xs = wideL ws
  bel : Below w.heap.size w wr

theorem WideSt.drewN {w wr : World} {ws : List Int} {t : Nat} {xs : List Int} (S : WideSt w wr ws t xs) (n : Nat) : WideSt w (wr.drewN n) ws t xs := ⟨S.len, S.blk, S.res, S.eq, pw_below_drewN S.bel n⟩
theorem WideSt.drew {w wr : World} {ws : List Int} {t : Nat} {xs : List Int} (S : WideSt w wr ws t xs) : WideSt w wr.drew ws t xs := ⟨S.len, S.blk, S.res, S.eq, below_drew S.bel⟩
theorem WideSt.step {w wr : World} {ws : List Int} {t : Nat} {xs : List Int} (S : WideSt w wr ws t xs) (h16 : 16 ≤ t) (ht : t < 64) (v : Int) (hv : v = wideNext xs t) : WideSt w (wr.setCell ⟨w.heap.size + 1, t, none⟩ (.int .u32 v)) ws (t + 1) (xs.set t v) := by
  refine ⟨by simpa using S.len, S.blk.set t v, (Below.heap_setCell wr ⟨w.heap.size + 1, t, none⟩ _ w.heap.size (by simp)).trans S.res, ?_, S.bel.trans ⟨rfl, rfl, rfl, by simp [World.setCell], fun k hk => Below.heap_setCell wr ⟨w.heap.size + 1, t, none⟩ _ k (by simp; omega)⟩⟩
  have e := S.eq
  rw [show 64 - t = (64 - (t + 1)) + 1 by omega] at e
  rw [hv]
  exact e
theorem cell_far {w : World} {b i j : Nat} {u v : Value} (h : w.cell? ⟨b, j, none⟩ = some u) (hne : i ≠ j) : (w.setCell ⟨b, i, none⟩ v).drew.cell? ⟨b, j, none⟩ = some u :=
  (World.cell?_setCell_other w _ _ _ (fun e => hne (congrArg Addr.off e))).trans h

set_option maxHeartbeats 2000000 in
set_option maxRecDepth 100000 in
theorem wide_calls (k : Nat) (A : Option Addr) (c : Nat) (l ws : List Int) (w : World) (hr : Kd.C (Kd.int .u8) w A l.length l) (hc : l.length ≤ c) (hp : word_Pack.f k l = some ws) (hws : ws.length = 16) :
    Calls Tryd.prog 21 #[.slice A l.length c] w fun e w' => e = .returned (.agg (nums .u32 (wideL ws)).toArray) ∧ Below w.heap.size w w' := by
  have HR := Aside0.mk hr
  have HP := Aside0.mk hp
  clear hr hp
  have z := zeroV47
  go_enter Tryd.func21, Tryd.ntmps21
  go_wp2_with fail
  have hb0 : ((w.alloc (.cells zero64 47)).alloc (.cells zero64 47)).heap[w.heap.size + 1]? = some (.cells zero64 47 (0, 0)) := by
    have := blk_new (w.alloc (.cells zero64 47)) (.cells zero64 47)
    simpa using this
  have hr0 : ((w.alloc (.cells zero64 47)).alloc (.cells zero64 47)).heap[w.heap.size]? = some (.cells zero64 47 (0, 0)) := blk_alloc (blk_new w _) _
  have HB0 := Aside0.mk hb0
  have HR0 := Aside0.mk hr0
  have BL0 := Aside0.mk (show Below w.heap.size w ((w.alloc (.cells zero64 47)).alloc (.cells zero64 47)).drew from below_drew (((Below.refl _ w).alloc (Nat.le_refl _) _).alloc (by simp) _))
  clear hb0 hr0
  go_upto_region 3 with (fail)
  go_cut [] (fun wc => Aside0 (WideSt w wc ws 16 (ws ++ List.replicate 48 0)))
  case first =>
    go_region_held3 (fun w' => True) (first | trivial | fail "no keep")
      ((first
        | (go_at_call 24; refine (word_Pack.calls k A c l ws _ (Kd.C_below HR.out BL0.out) hc HP.out).mono ?_; rintro e w1 ⟨v, rfl, hR, hB⟩
           obtain ⟨A1, c1, rfl, hc1, hC1⟩ := Kd.R_reads hR
           have hb1 : W32 w1 (w.heap.size + 1) 47 (List.replicate 64 0) := blk_below (w := ((w.alloc (.cells zero64 47)).alloc (.cells zero64 47)).drew) HB0.out hB
           have hr1 : w1.heap[w.heap.size]? = some (.cells zero64 47 (0, 0)) := blk_below (w := ((w.alloc (.cells zero64 47)).alloc (.cells zero64 47)).drew) HR0.out hB
           have hbel := BL0.out.trans (hB.mono BL0.out.size)
           obtain ⟨ad, rfl, hsrc⟩ : ∃ ad, A1 = some ad ∧ ∀ j v, (nums .u32 ws)[j]? = some v → w1.cell? (ad.add j) = some v := reads_nums hC1 (by omega)
           have hcopy := run_copy_row Tryd.prog w1 43 43 3 28 (w.heap.size + 1) 0 16 64 ad ws.length c1 _ 47 (nums .u32 ws) un43 size28 hb1 (by simp [nums, hws]) hsrc (by simp [nums, hws]) (fun v hv => by simp only [nums, List.mem_map] at hv; obtain ⟨a, _, rfl⟩ := hv; rfl)
           have hset := hb1.ofCopy 0 ws
           have hlt1 : w.heap.size ≠ w.heap.size + 1 := by omega
           have hres := (setRow_other w1 (w.heap.size + 1) w.heap.size ((nums .u32 (List.replicate 64 0)).toArray.toList.take 0 ++ nums .u32 ws ++ (nums .u32 (List.replicate 64 0)).toArray.toList.drop (0 + (nums .u32 ws).length)).toArray (by omega)).trans hr1
           have hbel2 := below_setRow hbel (Nat.le_succ _) ((nums .u32 (List.replicate 64 0)).toArray.toList.take 0 ++ nums .u32 ws ++ (nums .u32 (List.replicate 64 0)).toArray.toList.drop (0 + (nums .u32 ws).length)).toArray
           obtain ⟨w2, hw2⟩ : ∃ w2, w1.setRow (w.heap.size + 1) ((nums .u32 (List.replicate 64 0)).toArray.toList.take 0 ++ nums .u32 ws ++ (nums .u32 (List.replicate 64 0)).toArray.toList.drop (0 + (nums .u32 ws).length)).toArray = w2 := ⟨_, rfl⟩
           rw [hw2] at hcopy hset hres hbel2
           have FIN : Aside0 (WideSt w w2 ws 16 (ws ++ List.replicate 48 0)) := ⟨⟨by simp [hws], by rw [hws] at hset; simpa using hset, hres, rfl, hbel2⟩⟩
           rw [show (nums .u32 ws).length = 16 by simp [nums, hws], hws] at hcopy
           clear hR hB hC1 hb1 hr1 hbel hsrc hset hres hbel2 hw2 hlt1)))
    go_wp2_with fail
    go_meet
    exact FIN
  case rest =>
    go_wp2_with fail
    go_loopw [4] (fun i wr => ∃ t : Nat, 16 ≤ t ∧ t ≤ 64 ∧ i = .int .i64 t ∧ Aside0 (∃ xs, WideSt w wr ws t xs)) (fun i _ => 64 - (intOf i).toNat)
    case atStart => exact ⟨16, by omega, by omega, rfl, ⟨_, hcut.out⟩⟩
    case round =>
      obtain ⟨t, h16, h64, rfl, HS⟩ := hrel
      obtain ⟨xs, hS⟩ := HS.out
      have S := Aside0.mk hS
      clear hS HS
      by_cases hlt : t < 64
      · have hl := S.out.len
        have hx1 := S.out.blk.cell (t - 15) (by omega)
        have hx2 := S.out.blk.cell (t - 2) (by omega)
        have hx16 := S.out.blk.cell (t - 16) (by omega)
        have hx7 := S.out.blk.cell (t - 7) (by omega)
        have hxt := S.out.blk.cell t (by omega)
        have hft := S.out.blk.frozen t
        have HC := Aside0.mk (And.intro hx16 (And.intro hx7 (And.intro hxt hft)))
        clear hx16 hx7 hxt hft hl
        generalize ha15 : xs.getD (t - 15) 0 = a15 at *
        generalize ha2 : xs.getD (t - 2) 0 = a2 at *
        go_wp2_with fail
        go_quiet (fail)
        clear hx1 hx2
        have S2 := Aside0.mk (S.out.drewN nq)
        go_wp2_with fail
        refine (bits_RotateLeft32.calls a15 (-7) (rl a15 (-7)) _ (rot7 a15)).mono ?_
        rintro e w' ⟨rfl, ⟨n1, rfl⟩⟩
        go_wp2_with fail
        refine (bits_RotateLeft32.calls a15 (-18) (rl a15 (-18)) _ (rot18 a15)).mono ?_
        rintro e w' ⟨rfl, ⟨n2, rfl⟩⟩
        go_wp2_with fail
        refine (bits_RotateLeft32.calls a2 (-17) (rl a2 (-17)) _ (rot17 a2)).mono ?_
        rintro e w' ⟨rfl, ⟨n3, rfl⟩⟩
        go_wp2_with fail
        refine (bits_RotateLeft32.calls a2 (-19) (rl a2 (-19)) _ (rot19 a2)).mono ?_
        rintro e w' ⟨rfl, ⟨n4, rfl⟩⟩
        obtain ⟨hx16, hx7, hxt, hft⟩ := HC.out
        go_upto_region 9 with (fail)
        generalize hwz : wr.drewN (nq + n1 + n2 + n3 + n4) = wz
        have hz16 : wz.cell? ⟨w.heap.size + 1, t - 16, none⟩ = some (.int .u32 (xs.getD (t - 16) 0)) := by rw [← hwz]; exact hx16
        have hz7 : wz.cell? ⟨w.heap.size + 1, t - 7, none⟩ = some (.int .u32 (xs.getD (t - 7) 0)) := by rw [← hwz]; exact hx7
        have hzt : wz.drew.cell? ⟨w.heap.size + 1, t, none⟩ = some (.int .u32 (xs.getD t 0)) := by rw [← hwz]; exact hxt
        have hzf : wz.drew.frozen? ⟨w.heap.size + 1, t, none⟩ = false := by rw [← hwz]; exact hft
        have SZ : Aside0 (WideSt w wz ws t xs) := ⟨by rw [← hwz]; exact S.out.drewN _⟩
        clear hx16 hx7 hxt hft hwz S S2 HC
        generalize hv16 : xs.getD (t - 16) 0 = v16 at *
        generalize hv7 : xs.getD (t - 7) 0 = v7 at *
        have HV := Aside0.mk (And.intro hv16 (And.intro hv7 (And.intro ha15 ha2)))
        clear hv16 hv7 ha15 ha2
        have hb1 : (0 : Int) ≤ (t : Int) - 16 := by omega
        have hb2 : (t : Int) - 16 < 64 := by omega
        have hb3 : (0 : Int) ≤ (t : Int) - 7 := by omega
        have hb4 : (t : Int) - 7 < 64 := by omega
        have hb5 : (0 : Int) ≤ (t : Int) := by omega
        have hb6 : (t : Int) < 64 := by omega
        have he1 : (16 : Int) ≤ (t : Int) := by omega
        have he2 : (7 : Int) ≤ (t : Int) := by omega
        have he3 : (t : Int) < 80 := by omega
        have he4 : (t : Int) < 71 := by omega
        have he5 : (t : Int) < 64 + 16 := by omega
        have he6 : (t : Int) < 64 + 7 := by omega
        have hw1 : IntKind.i64.wrap ((t : Int) - 16) = (t : Int) - 16 := by rw [IntWalk.i64_in] <;> omega
        have hw2 : IntKind.i64.wrap ((t : Int) - 7) = (t : Int) - 7 := by rw [IntWalk.i64_in] <;> omega
        have hn1 : ((t : Int) - 16).toNat = t - 16 := by omega
        have hn2 : ((t : Int) - 7).toNat = t - 7 := by omega
        go_region_held3 (fun w' => w'.cell? ⟨w.heap.size + 1, t - 16, none⟩ = some (.int .u32 v16) ∧ w'.cell? ⟨w.heap.size + 1, t - 7, none⟩ = some (.int .u32 v7))
          (first | exact ⟨hz16, hz7⟩ | exact ⟨cell_far hz16 (by omega), cell_far hz7 (by omega)⟩ | go_keep | fail "no keep")
          ((first | (go_at_call 99; skip)))
        all_goals
          go_wp2_with fail
          go_roundw
          case rel => exact ⟨t + 1, by omega, by omega, by go_num, ⟨_, (SZ.out.step h16 hlt _ (by simp only [wideNext, HV.out.1, HV.out.2.1, HV.out.2.2.1, HV.out.2.2.2, IntKind.wrap_u32])).drew⟩⟩
          case measure => simp [intOf]; omega
      · obtain rfl : t = 64 := by omega
        have hl := S.out.len
        have hbk : wr.heap[w.heap.size + 1]? = some (.cells (nums .u32 xs).toArray 47 (0, 0)) := S.out.blk
        have hre := S.out.res
        have hi : (Tryd.prog.info? 47).map (·.size) = some (nums .u32 xs).toArray.size := by rw [size47]; simp [nums, hl]
        have hsz : zero64.size = (nums .u32 xs).toArray.size := by simp [zero64, nums, hl]
        have h1 := one_nums xs
        have eq := S.out.eq
        have HL := Aside0.mk (And.intro hbk (And.intro hre (And.intro hi (And.intro hsz (And.intro h1 (And.intro hl eq))))))
        clear hbk hre hi hsz h1 hl eq
        go_wp2_with (first
          | (refine wpList_load_row rfl 47 _ rfl (w.heap.size + 1) rfl 47 _ (0, 0) _ HL.out.1 un47 rfl HL.out.2.2.1 ?_)
          | (refine wpList_store_row rfl 47 _ _ rfl w.heap.size (nums .u32 xs).toArray rfl rfl 47 _ HL.out.2.1 HL.out.2.2.1 HL.out.2.2.2.1 HL.out.2.2.2.2.1 ?_))
        have hfin : (wr.setRow w.heap.size (nums .u32 xs).toArray).heap[w.heap.size]? = some (.cells (nums .u32 xs).toArray 47 (0, 0)) := setRow_heap wr w.heap.size _ _ 47 (0, 0) HL.out.2.1
        have hbl : Below w.heap.size w (wr.setRow w.heap.size (nums .u32 xs).toArray) := below_setRow S.out.bel (Nat.le_refl _) _
        exact bodyPost_ret (v := .agg (nums .u32 xs).toArray) (results_c (p := 2) (ty := 47) (by kernel_rfl) _ _ w.heap.size 47 _ (0, 0) _ rfl hfin un47 rfl HL.out.2.2.1) rfl ⟨by rw [← HL.out.2.2.2.2.2.2]; rfl, hbl⟩
end Go.Proofs.YtfjglhhandjahaaDoor.Sha
