/- The iterator of a text's lines. -/
import Derived.Test.YtiddiboclfpklaaDoorTxD
namespace Go.Proofs.YtiddiboclfpklaaDoor.Tx
open Go.RowKit Go.Shelf Go.Maps Go.Proofs.YtiddiboclfpklaaDoorW.PrintWords
set_option linter.unusedVariables false

attribute [local go_sem] Oper.semAt_some

/-- The size of the text in a box. -/
def sizeAt (B : Nat) (W : World) : Nat := match W.cell? ⟨B, 0, none⟩ with
  | some (.string s) => s.size
  | _ => 0
theorem sizeAt_of {B : Nat} {W : World} {s : ByteArray} (h : Boxed W B 9 (.string s)) : sizeAt B W = s.size := by
  unfold sizeAt
  rw [h.cell]
theorem grown_drewN (w : World) (n : Nat) : w.grownBy (w.drewN n) none := ⟨rfl, rfl, rfl, Nat.le_refl _, fun _ _ _ => rfl⟩
theorem rowsF_nil (n : Nat) (s : ByteArray) (h : s.size = 0) : rowsF n s = [] := by
  cases n with
  | zero => rfl
  | succ n => rw [rowsF, if_pos h]

theorem bytes_eq (a b : ByteArray) (h : (a == b) = true) : a = b := by
  have h2 : (a.data == b.data) = true := h
  exact ByteArray.ext (eq_of_beq h2)

set_option maxRecDepth 100000 in
set_option maxHeartbeats 2000000 in
theorem rows1_in (n : Nat) (hn : 1 ≤ n) (l B : Nat) (s : ByteArray) (hs : s.size ≤ 140737488355328) (J Jx : List (ByteArray × Bool) → World → Prop) (hJ : AbBox B J)
    (hY : ∀ pre x V, x.1.size ≤ s.size → J pre V → pre.length < s.size → YieldAt Fence.wide (n - 1) Tryd.prog l (encRow x) V fun e V' =>
      (e = .returned (.bool true) ∧ J (pre ++ [x]) V' ∧ V'.heap[B]? = V.heap[B]?) ∨ (e = .returned (.bool false) ∧ Jx (pre ++ [x]) V'))
    (W : World) (hb : Boxed W B 9 (.string s)) (h0 : J [] W) :
    CallsIn Fence.wide n Tryd.prog 69 #[.func (.yield l) #[] #[], .pointer (some ⟨B, 0, none⟩)] W fun e V => (∃ v, e = .returned v) ∧
      ((∃ xs, xs = rowsF s.size s ∧ J xs V) ∨ (∃ pre, (∃ rest, rowsF s.size s = pre ++ rest) ∧ Jx pre V)) := by
  refine callsIn_of_wp Tryd.func69 rfl trivial ?_ rfl
  simp only [Tryd.ntmps69, List.size_toArray, List.length_cons, List.length_nil, Nat.reduceAdd, Nat.reduceSub, Array.replicate_succ, Array.replicate_zero, List.push_toArray, List.append_toArray, List.nil_append, List.cons_append]
  have HY := Aside0.mk hY
  have HJ := Aside0.mk hJ
  clear hY hJ
  obtain ⟨N, hN⟩ : ∃ N, s.size = N := ⟨_, rfl⟩
  have HN := Aside0.mk hN
  gi_wp2
  gi_loopw [] (fun wr => ∃ (m : Nat) (sr : ByteArray), Boxed wr B 9 (.string sr) ∧ sr.size ≤ m ∧ sr.size ≤ N ∧ Aside0 (∃ pre, rowsF s.size s = pre ++ rowsF m sr ∧ pre.length + m = s.size ∧ J pre wr)) (fun wr => sizeAt B wr)
  case atStart => exact ⟨s.size, s, hb, Nat.le_refl _, by omega, ⟨[], rfl, by simp, h0⟩⟩
  case round =>
    obtain ⟨m, sr, hbx, hm, hsN, ⟨pre, hpre, hlen, hJs⟩⟩ := hrel
    have hc := hbx.cell
    have hf := hbx.frozen
    have HBX := Aside0.mk hbx
    have HP := Aside0.mk (And.intro hpre (And.intro hlen hJs))
    clear hbx hpre hlen hJs
    by_cases hz : sr.size = 0
    · have e : sr = ⟨#[]⟩ := by
        apply ByteArray.ext
        exact Array.eq_empty_of_size_eq_zero hz
      subst e
      gi_wp2
      go_end0
      refine ⟨⟨_, rfl⟩, .inl ⟨pre, ?_, HP.out.2.2⟩⟩
      rw [HP.out.1, rowsF_nil _ _ rfl, List.append_nil]
    · have hne : sr.toList.isEmpty = false := by
        rw [Lib.toList_data]
        have hl : sr.data.toList.length = sr.size := data_length sr
        cases hq : sr.data.toList with
        | nil => rw [hq] at hl; exact absurd hl.symm hz
        | cons a l => rfl
      obtain ⟨m', rfl⟩ : ∃ m', m = m' + 1 := ⟨m - 1, by omega⟩
      have HNE := Aside0.mk hne
      rcases indexByte_cases sr.data.toList 10 with hi | ⟨k, hi, hk⟩
      · have HR : Aside0 (rowsF (m' + 1) sr = [(sr, false)] ++ rowsF m' ⟨#[]⟩) := ⟨by rw [rowsF, if_neg hz, if_pos hi, rowsF_nil _ _ rfl]; rfl⟩
        have HI := Aside0.mk hi
        clear hi
        obtain ⟨fn, tmps, assign, body, hy, hR⟩ := HY.out pre (sr, false) wr (by show sr.size ≤ s.size; omega) HP.out.2.2 (by have := HP.out.2.1; omega)
        unfold encRow at hy
        have HR2 := Aside0.mk hR
        clear hR
        gi_wp2_with ((refine ⟨trivial, ?_⟩; gi_at_call 70; refine (callsIn_wide.2 (strings_cut_none _ _ HI.out _)).mono ?_; rintro e w' ⟨rfl, rfl⟩))
        refine HR2.out.mono ?_
        rintro e W3 (⟨rfl, hJ3, hk3⟩ | ⟨rfl, hJx3⟩)
        · have hb3 : Boxed W3 B 9 (.string sr) := hk3.trans HBX.out
          have hc3 := hb3.cell
          have hf3 := hb3.frozen
          have HB3 := Aside0.mk (hb3.set (.string ⟨#[]⟩))
          have HJ3 := Aside0.mk (HJ.out _ _ _ (some B) hJ3 (grownBy_setCell' W3 B (.string ⟨#[]⟩)) (fun r e => by cases e; rfl))
          clear hb3 hJ3 hk3
          gi_wp2
          go_roundw
          case rel => exact ⟨m', ⟨#[]⟩, HB3.out, Nat.zero_le _, Nat.zero_le _, ⟨pre ++ [(sr, false)], by rw [HP.out.1, HR.out, List.append_assoc], by have := HP.out.2.1; simp; omega, HJ3.out⟩⟩
          case measure =>
            rw [sizeAt_of HB3.out, sizeAt_of HBX.out]
            show 0 < sr.size
            omega
        · have HX := Aside0.mk hJx3
          clear hJx3
          gi_wp2
          refine bodyPost_ret (results_none rfl _ _ _) rfl ?_
          exact ⟨⟨_, rfl⟩, .inr ⟨pre ++ [(sr, false)], ⟨_, by rw [HP.out.1, HR.out, List.append_assoc]⟩, HX.out⟩⟩
      · rw [data_length] at hk
        have HR : Aside0 (rowsF (m' + 1) sr = [(sr.extract 0 k, true)] ++ rowsF m' (sr.extract (k + 1) sr.size)) := ⟨by rw [rowsF, if_neg hz, if_neg (by rw [hi]; omega), hi, Int.toNat_natCast]; rfl⟩
        have HI := Aside0.mk hi
        clear hi
        gi_wp2_with ((refine ⟨trivial, ?_⟩; gi_at_call 70; refine (callsIn_wide.2 (strings_cut_some _ _ k HI.out hk (by omega) _)).mono ?_; rintro e w' ⟨rfl, nq, rfl⟩; obtain ⟨fn, tmps, assign, body, hy, hR⟩ := HY.out pre (sr.extract 0 k, true) (wr.drewN nq) (by simp; omega) (HJ.out _ _ _ none HP.out.2.2 (grown_drewN wr nq) (fun r e => by cases e)) (by have := HP.out.2.1; omega); unfold encRow at hy; have HR3 := Aside0.mk hR; clear hR))
        refine HR3.out.mono ?_
        rintro e W3 (⟨rfl, hJ3, hk3⟩ | ⟨rfl, hJx3⟩)
        · have hb3 : Boxed W3 B 9 (.string sr) := hk3.trans HBX.out
          have hc3 := hb3.cell
          have hf3 := hb3.frozen
          have HB3 := Aside0.mk (hb3.set (.string (sr.extract (k + 1) sr.size)))
          have HJ3 := Aside0.mk (HJ.out _ _ _ (some B) hJ3 (grownBy_setCell' W3 B (.string (sr.extract (k + 1) sr.size))) (fun r e => by cases e; rfl))
          clear hb3 hJ3 hk3
          gi_wp2
          go_roundw
          case rel => exact ⟨m', sr.extract (k + 1) sr.size, HB3.out, by simp; omega, by simp; omega, ⟨pre ++ [(sr.extract 0 k, true)], by rw [HP.out.1, HR.out, List.append_assoc], by have := HP.out.2.1; simp; omega, HJ3.out⟩⟩
          case measure =>
            rw [sizeAt_of HB3.out, sizeAt_of HBX.out]
            simp; omega
        · have HX := Aside0.mk hJx3
          clear hJx3
          gi_wp2
          refine bodyPost_ret (results_none rfl _ _ _) rfl ?_
          exact ⟨⟨_, rfl⟩, .inr ⟨pre ++ [(sr.extract 0 k, true)], ⟨_, by rw [HP.out.1, HR.out, List.append_assoc]⟩, HX.out⟩⟩
    
theorem rows1_box (n : Nat) (hn : 1 ≤ n) (B : Nat) (s : ByteArray) (hs : s.size ≤ 140737488355328) (w : World) (hb : Boxed w B 9 (.string s)) :
    SeqBox n 69 #[.pointer (some ⟨B, 0, none⟩)] (fun x : ByteArray × Bool => #[Value.string x.1, Value.bool x.2]) B (fun x => x.1.size ≤ s.size) (fun xs => xs = rowsF s.size s) (fun pre => ∃ rest, rowsF s.size s = pre ++ rest) s.size w := fun l J Jx W hW hJ hY h0 =>
  rows1_in n hn l B s hs J Jx hJ hY W ((hW.block B hb.lt).trans hb) h0
end Go.Proofs.YtiddiboclfpklaaDoor.Tx
