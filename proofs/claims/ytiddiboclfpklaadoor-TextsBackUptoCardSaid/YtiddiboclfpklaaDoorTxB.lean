/- A text split at a byte. -/
import Derived.Test.YtiddiboclfpklaaDoorTxA
import Derived.Lib.IndexBytes
namespace Go.Proofs.YtiddiboclfpklaaDoor.Tx
open Go.RowKit Go.Proofs.YtiddiboclfpklaaDoorW.PrintWords
set_option linter.unusedVariables false

/-- The pieces of a text between a byte's places. -/
def splitF (c : UInt8) : Nat → ByteArray → List ByteArray
  | 0, s => [s]
  | n + 1, s => s.extract 0 (Lib.indexByte s.data.toList c).toNat :: splitF c n (s.extract ((Lib.indexByte s.data.toList c).toNat + 1) s.size)
theorem splitF_length (c : UInt8) : ∀ n s, (splitF c n s).length = n + 1
  | 0, _ => rfl
  | n + 1, s => by rw [splitF, List.length_cons, splitF_length c n]
/-- A row of texts in a block. -/
def WS (w : World) (b : Nat) (xs : List ByteArray) : Prop := w.heap[b]? = some (.cells (pw_strs xs).toArray 9 (0, 0))
theorem WS.cell {w : World} {b : Nat} {xs : List ByteArray} (h : WS w b xs) (i : Nat) (hi : i < xs.length) : w.cell? ⟨b, i, none⟩ = some (.string (xs.getD i ByteArray.empty)) := by
  rw [blk_cell h i]
  simp [pw_strs, hi]
theorem WS.frozen {w : World} {b : Nat} {xs : List ByteArray} (h : WS w b xs) (i : Nat) : w.frozen? ⟨b, i, none⟩ = false := blk_frozen h i
theorem WS.set {w : World} {b : Nat} {xs : List ByteArray} (h : WS w b xs) (i : Nat) (v : ByteArray) : WS (w.setCell ⟨b, i, none⟩ (.string v)) b (xs.set i v) := by
  have := blk_set h i (.string v)
  unfold WS
  rw [this]
  simp [pw_strs, List.map_set]
theorem made9 (m : Nat) (hm : m * 16 ≤ 281474976710656) (W : World) : (Instr.makeSlice 84 (.int .i64 (m : Int)) (.int .i64 (m : Int))).run Tryd.prog W = .ok (.slice (some ⟨W.heap.size, 0, none⟩) m m) (W.alloc (.cells (pw_strs (List.replicate m ByteArray.empty)).toArray 9)) := by
  have h := print_make_of (P := Tryd.prog) 84 9 (.string ByteArray.empty) 16 (by kernel_rfl) (by kernel_rfl) rfl (by decide) m hm W
  have e : madeCells #[Value.string ByteArray.empty] m = (pw_strs (List.replicate m ByteArray.empty)).toArray := by
    apply Array.ext
    · simp [madeCells, pw_strs]
    · intro i h1 h2
      simp [madeCells, pw_strs, Nat.mod_one]
  rw [e] at h
  exact h
theorem count_list (c : UInt8) (n : Nat) : ∀ l : List UInt8, Lib.countByte l c = n + 1 → ∃ k : Nat, Lib.indexByte l c = k ∧ k < l.length ∧ Lib.countByte (l.drop (k + 1)) c = n
  | [], h => by simp [Lib.countByte] at h
  | b :: l, h => by
    unfold Lib.indexByte
    by_cases hb : (b == c) = true
    · rw [if_pos hb]
      refine ⟨0, rfl, by simp, ?_⟩
      unfold Lib.countByte at h ⊢
      rw [List.count_cons, if_pos hb] at h
      simpa using h
    · have h2 : Lib.countByte l c = n + 1 := by
        unfold Lib.countByte at h ⊢
        rw [List.count_cons, if_neg hb] at h
        simpa using h
      obtain ⟨k, hk, hl, hc⟩ := count_list c n l h2
      rw [if_neg hb, hk, if_neg (by simp)]
      exact ⟨k + 1, by simp, by simp; omega, by simpa using hc⟩
theorem extract_drop (s : ByteArray) (a : Nat) : (s.extract a s.size).data.toList = s.data.toList.drop a := Lib.extract_to_end s a
/-- How a count turns at a cut. -/
theorem count_cut (s : ByteArray) (c : UInt8) (n : Nat) (h : Lib.countByte s.data.toList c = n + 1) : ∃ k : Nat, Lib.indexByte s.data.toList c = k ∧ k < s.size ∧ Lib.countByte (s.extract (k + 1) s.size).data.toList c = n := by
  obtain ⟨k, h1, h2, h3⟩ := count_list c n _ h
  exact ⟨k, h1, by rw [← data_length s]; exact h2, by rw [extract_drop]; exact h3⟩
/-- The state of the split. -/
structure SplSt (w wr : World) (c : UInt8) (s : ByteArray) (N t : Nat) (sr : ByteArray) (done : List ByteArray) : Prop where
  dl : done.length = t
  row : WS wr w.heap.size (done ++ List.replicate (N + 1 - t) ByteArray.empty)
  cnt : Lib.countByte sr.data.toList c = N - t
  eq : splitF c N s = done ++ splitF c (N - t) sr
  sz : sr.size ≤ s.size
  bel : Below w.heap.size w wr

theorem set_at (done : List ByteArray) (n t : Nat) (x e : ByteArray) (hd : done.length = t) (hn : 0 < n) : (done ++ List.replicate n e).set t x = (done ++ [x]) ++ List.replicate (n - 1) e := by
  obtain ⟨m, rfl⟩ : ∃ m, n = m + 1 := ⟨n - 1, by omega⟩
  rw [List.set_append_right _ _ (by omega), hd, Nat.sub_self, List.replicate_succ, List.set_cons_zero, List.append_assoc, List.singleton_append, Nat.add_sub_cancel]
theorem SplSt.step {w wr : World} {c : UInt8} {s : ByteArray} {N t : Nat} {sr : ByteArray} {done : List ByteArray} (S : SplSt w wr c s N t sr done) (ht : t < N) (k : Nat) (h1 : Lib.indexByte sr.data.toList c = k) (h3 : Lib.countByte (sr.extract (k + 1) sr.size).data.toList c = N - (t + 1)) :
    SplSt w (wr.setCell ⟨w.heap.size, t, none⟩ (.string (sr.extract 0 k))) c s N (t + 1) (sr.extract (k + 1) sr.size) (done ++ [sr.extract 0 k]) := by
  refine ⟨by rw [List.length_append, S.dl]; rfl, ?_, h3, ?_, ?_, S.bel.setCell (Nat.le_refl _) _⟩
  · have h := S.row.set t (sr.extract 0 k)
    rw [set_at done _ t _ _ S.dl (by omega)] at h
    rw [show N + 1 - (t + 1) = N + 1 - t - 1 by omega]
    exact h
  · rw [S.eq, show N - t = (N - (t + 1)) + 1 by omega, splitF, h1, Int.toNat_natCast, List.append_assoc, List.singleton_append]
  · have := S.sz
    simp
    omega
theorem SplSt.fin {w wr : World} {c : UInt8} {s : ByteArray} {N : Nat} {sr : ByteArray} {done : List ByteArray} (S : SplSt w wr c s N N sr done) : WS (wr.setCell ⟨w.heap.size, N, none⟩ (.string sr)) w.heap.size (splitF c N s) := by
  have h := S.row.set N sr
  rw [set_at done _ N _ _ S.dl (by omega), show N + 1 - N - 1 = 0 by omega, List.replicate_zero, List.append_nil] at h
  rw [S.eq, Nat.sub_self]
  exact h

set_option maxHeartbeats 1000000 in
set_option maxRecDepth 100000 in
theorem split_calls (s : ByteArray) (c : UInt8) (hs : s.size ≤ 1000000000) (w : World) :
    Calls Tryd.prog 71 #[.string s, .string ⟨#[c]⟩, .int .i64 0, .int .i64 (-1)] w fun e w' => ∃ B, e = .returned (.slice (some ⟨B, 0, none⟩) (Lib.countByte s.data.toList c + 1) (Lib.countByte s.data.toList c + 1)) ∧ w.heap.size ≤ B ∧ WS w' B (splitF c (Lib.countByte s.data.toList c) s) ∧ Below w.heap.size w w' := by
  obtain ⟨N, hN⟩ : ∃ N, Lib.countByte s.data.toList c = N := ⟨_, rfl⟩
  have hle : N ≤ s.size := by rw [← hN, ← data_length s]; exact List.count_le_length
  rw [hN]
  have HN := Aside0.mk hN
  clear hN
  have hmk := made9 (N + 1) (by omega)
  have hw1 : IntKind.i64.wrap ((N : Int) + 1) = (N : Int) + 1 := by rw [IntWalk.i64_in] <;> omega
  have hw2 : IntKind.i64.wrap ((s.size : Int) + 1) = (s.size : Int) + 1 := by rw [IntWalk.i64_in] <;> omega
  have hmin : min ((N : Int) + 1) ((s.size : Int) + 1) = (N : Int) + 1 := by omega
  have hc1 : (((N + 1 : Nat)) : Int) = (N : Int) + 1 := by omega
  rw [hc1] at hmk
  go_enter Tryd.func71, Tryd.ntmps71
  go_wp2_with ((go_at_call 85; refine (count_calls _ _ _).mono ?_; rintro e w' ⟨rfl, hw⟩; rw [HN.out, hw]; clear hw))
  have I0 : Aside0 (SplSt w (w.alloc (.cells (pw_strs (List.replicate (N + 1) ByteArray.empty)).toArray 9)) c s N 0 s []) := ⟨⟨rfl, blk_new w _, by rw [HN.out]; rfl, rfl, Nat.le_refl _, below_alloc (Below.refl _ _) _⟩⟩
  go_loopw [0, 10] (fun s0 i wr => ∃ (t : Nat) (sr : ByteArray), t ≤ N ∧ s0 = .string sr ∧ i = .int .i64 (t : Int) ∧ Aside0 (∃ done, SplSt w wr c s N t sr done)) (fun _ i _ => N - (intOf i).toNat)
  case atStart => exact ⟨0, s, by omega, rfl, rfl, ⟨_, I0.out⟩⟩
  case round =>
    clear I0 hmk hmin
    obtain ⟨t, sr, ht, rfl, rfl, HS⟩ := hrel
    obtain ⟨done, hS⟩ := HS.out
    have S := Aside0.mk hS
    clear hS HS
    have hl0 : t < (done ++ List.replicate (N + 1 - t) ByteArray.empty).length := by have := S.out.dl; simp; omega
    have hcw : ∃ y, wr.cell? ⟨w.heap.size, t, none⟩ = some (.string y) := ⟨_, S.out.row.cell t hl0⟩
    obtain ⟨y, hcw⟩ := hcw
    have hfw := S.out.row.frozen t
    have hb5 : (0 : Int) ≤ (t : Int) := by omega
    have hb6 : (t : Int) < (N : Int) + 1 := by omega
    have hb7 : t < N + 1 := by omega
    clear hl0
    by_cases hlt : t < N
    · obtain ⟨k, hk1, hk2, hk3⟩ := count_cut sr c (N - (t + 1)) (by rw [S.out.cnt]; omega)
      have HK := Aside0.mk (And.intro hk1 hk3)
      have hsz := S.out.sz
      have h1 : (0 : Int) ≤ (k : Int) := by omega
      have h2 : (k : Int) ≤ (sr.size : Int) := by omega
      have h3 : (k : Int) + 1 ≤ (sr.size : Int) := by omega
      have h4 : IntKind.i64.wrap ((k : Int) + 1) = (k : Int) + 1 := by rw [IntWalk.i64_in] <;> omega
      clear hk1 hk3
      go_wp2_with ((go_at_call 86; refine (strings_index_calls _ _ _).mono ?_; rintro e w' ⟨rfl, hw⟩; rw [HK.out.1, hw]; clear hw))
      refine ⟨⟨t + 1, _, by omega, rfl, by go_num, ⟨_, S.out.step hlt k HK.out.1 HK.out.2⟩⟩, ?_⟩
      simp only [intOf]; omega
    · obtain rfl : t = N := by omega
      go_wp2_with fail
      have FIN := S.out.fin
      have FB := S.out.bel.setCell (p := ⟨w.heap.size, t, none⟩) (Nat.le_refl _) (.string sr)
      go_ret
      exact ⟨w.heap.size, rfl, Nat.le_refl _, FIN, FB⟩
set_option maxHeartbeats 1000000 in
theorem strings_split_calls (s : ByteArray) (c : UInt8) (hs : s.size ≤ 1000000000) (w : World) :
    Calls Tryd.prog 44 #[.string s, .string ⟨#[c]⟩] w fun e w' => ∃ B, e = .returned (.slice (some ⟨B, 0, none⟩) (Lib.countByte s.data.toList c + 1) (Lib.countByte s.data.toList c + 1)) ∧ w.heap.size ≤ B ∧ WS w' B (splitF c (Lib.countByte s.data.toList c) s) ∧ Below w.heap.size w w' := by
  go_enter Tryd.func44, Tryd.ntmps44
  go_wp2_with ((go_at_call 71; refine (split_calls _ _ hs _).mono ?_; rintro e w' ⟨B, rfl, h1, h2, h3⟩; have S := Aside0.mk (And.intro h1 (And.intro h2 h3)); clear h1 h2 h3))
  go_ret
  exact ⟨B, rfl, S.out⟩
end Go.Proofs.YtiddiboclfpklaaDoor.Tx
