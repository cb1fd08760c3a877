/- A byte's place in a text; a text cut at a byte; a text that is a word. -/
import Derived.Test.YtiddiboclfpklaaDoorPTextsNumsx0
import Derived.Lib.Bytealg
import Derived.Lib.Index
namespace Go.Proofs.YtiddiboclfpklaaDoor.Tx
open Go.RowKit Go.Proofs.YtiddiboclfpklaaDoorW.PrintWords
set_option linter.unusedVariables false

set_option maxHeartbeats 1000000 in
set_option maxRecDepth 100000 in
theorem indexByte_calls (s : ByteArray) (c : Int) (w : World) :
    Calls Tryd.prog 94 #[.string s, .int .u8 c] w fun e w' => e = .returned (.int .i64 (Lib.indexByte s.data.toList c.toNat.toUInt8)) ∧ w' = w := by
  go_enter Tryd.func94, Tryd.ntmps94
  go_wp2_with fail
  rw [run_callFunc_extern Tryd.func100 (by kernel_rfl) (by kernel_rfl) (by kernel_rfl) (e := Extern.BytealgIndexByte.indexByte) (by kernel_rfl), Lib.run_indexByteString]
  simp only [Result.andThen]
  rw [Oper.upon_value]
  go_wp2_with fail
  go_ret
  exact ⟨rfl, rfl⟩

set_option maxHeartbeats 1000000 in
set_option maxRecDepth 100000 in
/-- Where a byte comes first. -/
theorem index_calls (s : ByteArray) (c : UInt8) (w : World) :
    Calls Tryd.prog 89 #[.string s, .string ⟨#[c]⟩] w fun e w' => e = .returned (.int .i64 (Lib.indexByte s.data.toList c)) ∧ w' = w := by
  go_enter Tryd.func89, Tryd.ntmps89
  go_wp2_with ((go_at_call 94; refine (indexByte_calls _ _ _).mono ?_; rintro e w' ⟨rfl, rfl⟩))
  · have h : ([c] == s.toList) = true := by assumption
    go_ret
    refine ⟨?_, rfl⟩
    have e : s.data.toList = [c] := by rw [← Lib.toList_data]; exact (beq_iff_eq.1 h).symm
    rw [e]
    simp [Lib.indexByte]
  · go_ret
    exact ⟨rfl, rfl⟩

set_option maxHeartbeats 1000000 in
theorem strings_index_calls (s : ByteArray) (c : UInt8) (w : World) :
    Calls Tryd.prog 86 #[.string s, .string ⟨#[c]⟩] w fun e w' => e = .returned (.int .i64 (Lib.indexByte s.data.toList c)) ∧ w' = w := by
  go_enter Tryd.func86, Tryd.ntmps86
  go_wp2_with ((go_at_call 89; refine (index_calls _ _ _).mono ?_; rintro e w' ⟨rfl, rfl⟩))
  go_ret
  exact ⟨rfl, rfl⟩

set_option maxHeartbeats 1000000 in
set_option maxRecDepth 100000 in
theorem count_calls (s : ByteArray) (c : UInt8) (w : World) :
    Calls Tryd.prog 85 #[.string s, .string ⟨#[c]⟩] w fun e w' => e = .returned (.int .i64 (Lib.countByte s.data.toList c)) ∧ w' = w := by
  go_enter Tryd.func85, Tryd.ntmps85
  go_wp2_with fail
  rw [run_callFunc_extern Tryd.func92 (by kernel_rfl) (by kernel_rfl) (by kernel_rfl) (e := Extern.BytealgCount.count) (by kernel_rfl), Lib.run_countString]
  simp only [Result.andThen]
  rw [Oper.upon_value]
  go_wp2_with fail
  go_ret
  exact ⟨rfl, rfl⟩

/-- A byte's place is none, or one of the text's. -/
theorem indexByte_cases (l : List UInt8) (c : UInt8) : Lib.indexByte l c = -1 ∨ ∃ k : Nat, Lib.indexByte l c = k ∧ k < l.length := by
  induction l with
  | nil => exact .inl rfl
  | cons b l ih =>
    unfold Lib.indexByte
    by_cases h : (b == c) = true
    · rw [if_pos h]; exact .inr ⟨0, rfl, by simp⟩
    · rw [if_neg h]
      rcases ih with e | ⟨k, e, hk⟩
      · rw [e]; exact .inl rfl
      · rw [e, if_neg (by simp)]
        exact .inr ⟨k + 1, by simp, by simp; omega⟩

set_option maxHeartbeats 1000000 in
set_option maxRecDepth 100000 in
theorem cut_none (s : ByteArray) (c : UInt8) (h : Lib.indexByte s.data.toList c = -1) (w : World) :
    Calls Tryd.prog 83 #[.string s, .string ⟨#[c]⟩] w fun e w' => e = .returned (.tuple #[.string s, .string ⟨#[]⟩, .bool false]) ∧ w' = w := by
  go_enter Tryd.func83, Tryd.ntmps83
  go_wp2_with ((go_at_call 89; refine (index_calls _ _ _).mono ?_; rintro e w' ⟨rfl, rfl⟩; rw [h]))
  go_ret3
  exact ⟨rfl, rfl⟩
set_option maxHeartbeats 1000000 in
set_option maxRecDepth 100000 in
theorem cut_some (s : ByteArray) (c : UInt8) (k : Nat) (h : Lib.indexByte s.data.toList c = k) (hk : k < s.size) (hs : s.size ≤ 140737488355328) (w : World) :
    Calls Tryd.prog 83 #[.string s, .string ⟨#[c]⟩] w fun e w' => e = .returned (.tuple #[.string (s.extract 0 k), .string (s.extract (k + 1) s.size), .bool true]) ∧ ∃ n, w' = w.drewN n := by
  have h1 : (0 : Int) ≤ (k : Int) := by omega
  have h2 : (k : Int) ≤ (s.size : Int) := by omega
  have h3 : (k : Int) + 1 ≤ (s.size : Int) := by omega
  have h4 : IntKind.i64.wrap ((k : Int) + 1) = (k : Int) + 1 := by rw [IntWalk.i64_in] <;> omega
  have H := Aside0.mk h
  clear h
  go_enter Tryd.func83, Tryd.ntmps83
  go_upto_region 3 with ((go_at_call 89; refine (index_calls _ _ _).mono ?_; rintro e w' ⟨rfl, rfl⟩; rw [H.out]))
  go_quiet (fail)
  go_wp2_with fail
  go_ret3
  exact ⟨rfl, nq, rfl⟩
set_option maxHeartbeats 1000000 in
theorem strings_cut_none (s : ByteArray) (c : UInt8) (h : Lib.indexByte s.data.toList c = -1) (w : World) :
    Calls Tryd.prog 70 #[.string s, .string ⟨#[c]⟩] w fun e w' => e = .returned (.tuple #[.string s, .string ⟨#[]⟩, .bool false]) ∧ w' = w := by
  have H := Aside0.mk h
  clear h
  go_enter Tryd.func70, Tryd.ntmps70
  go_wp2_with ((go_at_call 83; refine (cut_none _ _ H.out _).mono ?_; rintro e w' ⟨rfl, rfl⟩))
  go_ret3
  exact ⟨rfl, rfl⟩
set_option maxHeartbeats 1000000 in
theorem strings_cut_some (s : ByteArray) (c : UInt8) (k : Nat) (h : Lib.indexByte s.data.toList c = k) (hk : k < s.size) (hs : s.size ≤ 140737488355328) (w : World) :
    Calls Tryd.prog 70 #[.string s, .string ⟨#[c]⟩] w fun e w' => e = .returned (.tuple #[.string (s.extract 0 k), .string (s.extract (k + 1) s.size), .bool true]) ∧ ∃ n, w' = w.drewN n := by
  have H := Aside0.mk h
  clear h
  go_enter Tryd.func70, Tryd.ntmps70
  go_wp2_with ((go_at_call 83; refine (cut_some _ _ k H.out hk hs _).mono ?_; rintro e w' ⟨rfl, nq, rfl⟩))
  go_ret3
  exact ⟨rfl, nq, rfl⟩

theorem un80 : Tryd.prog.underlying 80 = some (.slice 5) := by kernel_rfl
theorem un5 : Tryd.prog.underlying 5 = some (.int .u8) := by kernel_rfl
theorem un9 : Tryd.prog.underlying 9 = some .string := by kernel_rfl
/-- A byte that a word may have. -/
def okB (b : Int) : Bool := decide (33 ≤ b) && decide (b ≤ 126)
/-- A text that is a word. -/
def plainF (s : ByteArray) : Bool := (bytesOf s).all okB && decide (0 < s.size)

set_option maxHeartbeats 1000000 in
set_option maxRecDepth 100000 in
theorem plain_calls (s : ByteArray) (hs : s.size ≤ 140737488355328) (w : World) :
    Calls Tryd.prog 47 #[.string s] w fun e w' => e = .returned (.bool (plainF s)) ∧ Below w.heap.size w w' := by
  have hcv := fun W => print_bytes (P := Tryd.prog) 9 80 5 un9 un80 un5 s W
  have hrd := Aside0.mk (bytes_reads w 5 s (by omega))
  have hbl := Aside0.mk (bytes_below (Below.refl w.heap.size w) (Nat.le_refl _) 5 s)
  go_enter Tryd.func47, Tryd.ntmps47
  go_wp2_with fail
  have hcap : Aside0 (s.size ≤ grownCap w s.size 0 5 ∨ True) := ⟨.inr trivial⟩
  clear hcv
  go_loopw [8] (fun i wr => ∃ t : Nat, t ≤ s.size ∧ i = .int .i64 (t : Int) ∧ Aside0 (ReadsInt wr .u8 (some ⟨w.heap.size, 0, none⟩) s.size (bytesOf s) ∧ Below w.heap.size w wr ∧ ((bytesOf s).take t).all okB = true)) (fun i _ => s.size - (intOf i).toNat)
  case atStart => exact ⟨0, by omega, rfl, ⟨hrd.out, hbl.out, by simp⟩⟩
  case round =>
    clear hrd hbl
    obtain ⟨t, ht, rfl, S⟩ := hrel
    by_cases hlt : t < s.size
    · have hb5 : (0 : Int) ≤ (t : Int) := by omega
      have hb6 : (t : Int) < (s.size : Int) := by omega
      obtain ⟨ad, he, hc⟩ := S.out.1.at_ (t : Int) hb5 hb6
      obtain rfl : (⟨w.heap.size, 0, none⟩ : Addr) = ad := Option.some.inj he
      rw [Int.toNat_natCast, add_plain] at hc
      obtain ⟨x, hx⟩ : ∃ x, rd (bytesOf s) (t : Int) = x := ⟨_, rfl⟩
      rw [hx] at hc
      have hnx : ((bytesOf s).take (t + 1)).all okB = okB x := by
        have hl : t < (bytesOf s).length := by rw [bytesOf_length]; exact hlt
        rw [List.take_succ_eq_append_getElem hl, List.all_append, S.out.2.2, Bool.true_and]
        rw [← hx]
        simp [rd, hl]
      have HX := Aside0.mk hnx
      have hal : okB x = false → plainF s = false := by
        intro h0
        have hl : t < (bytesOf s).length := by rw [bytesOf_length]; exact hlt
        have hm : (bytesOf s).all okB = false := by
          rw [List.all_eq_false]
          refine ⟨(bytesOf s)[t], List.getElem_mem hl, ?_⟩
          rw [show (bytesOf s)[t] = x by rw [← hx]; simp [rd, hl], h0]; simp
        rw [plainF, hm, Bool.false_and]
      have HAL := Aside0.mk hal
      clear he hx hnx hal
      by_cases h1 : x ≤ 32
      · have h3 : decide (x ≤ 32) = true := by simpa using h1
        go_wp2_with fail
        go_ret
        exact ⟨by rw [HAL.out (by simp [okB]; omega)]; rfl, S.out.2.1⟩
      · have h3 : decide (x ≤ 32) = false := by simpa using h1
        by_cases h2 : 126 < x
        · have h4 : decide (126 < x) = true := by simpa using h2
          go_wp2_with fail
          go_ret
          exact ⟨by rw [HAL.out (by simp [okB]; omega)]; rfl, S.out.2.1⟩
        · have h4 : decide (126 < x) = false := by simpa using h2
          go_wp2_with fail
          refine ⟨⟨t + 1, by omega, by go_num, ⟨S.out.1, S.out.2.1, by rw [HX.out]; simp [okB]; omega⟩⟩, ?_⟩
          simp only [intOf]; omega
    · obtain rfl : t = s.size := by omega
      have hall : (bytesOf s).all okB = true := by
        have h := S.out.2.2
        rw [List.take_of_length_le (by rw [bytesOf_length]; exact Nat.le_refl _)] at h
        exact h
      have HP := Aside0.mk hall
      clear hall
      go_wp2_with fail
      have hfin : (!s.toList.isEmpty) = plainF s := by
        rw [plainF, HP.out, Bool.true_and, Lib.toList_data]
        have hl : s.data.toList.length = s.size := data_length s
        cases hq : s.data.toList with
        | nil => rw [hq] at hl; simp at hl; simp [← hl]
        | cons a l => rw [hq] at hl; simp at hl; simp; omega
      go_ret
      exact ⟨by rw [← hfin]; rfl, S.out.2.1⟩
end Go.Proofs.YtiddiboclfpklaaDoor.Tx
