/- The document's Join and Same: what they make; and the laws there and back. -/
import Derived.Test.YtiddiboclfpklaaDoorTxU
namespace Go.Proofs.YtiddiboclfpklaaDoor.Tx
open Go.RowKit Go.Proofs.YtiddiboclfpklaaDoorW.PrintWords Go.Proofs.YtiddiboclfpklaaDoor.PTextsLines Go.Proofs.YtiddiboclfpklaaDoor.TxS
set_option linter.unusedVariables false

theorem ofL_append (a b : List UInt8) : ofL a ++ ofL b = ofL (a ++ b) := by
  apply ByteArray.ext
  rw [ByteArray.data_append]
  simp [ofL]
theorem rd_L2_at (d : List (List ByteArray)) (l : List ByteArray) (r : List (List ByteArray)) : rd_L2 (d ++ l :: r) (d.length : Int) = l := by
  simp [rd_L2, List.getD_eq_getElem?_getD]
theorem rdOf_at (d : List ByteArray) (x : ByteArray) (r : List ByteArray) : rdOf ByteArray.empty (d ++ x :: r) (d.length : Int) = x := by
  simp [rdOf, List.getD_eq_getElem?_getD]
theorem join_l1 (ls d' : List (List ByteArray)) (l : List ByteArray) (r' : List (List ByteArray)) (hls : ls = d' ++ l :: r') (X : List UInt8) (V : Option (ByteArray × Int)) (K : Nat) (hK : ∀ x ∈ l, x.size < K) (hs : ∀ x ∈ l, x.size ≤ 16777216) (hlen : X.length + (lineB l).length + 1 ≤ 16777216) (hll : l.length ≤ 16777216) (hl2 : ls.length ≤ 16777216)
    (hV : ∀ k', K ≤ k' → instarref04_Join.l0 k' ls (ofL (X ++ lineB l ++ [10])) ((d'.length : Int) + 1) = V) : ∀ (r d : List ByteArray) (k : Nat), l = d ++ r → K + r.length < k →
    instarref04_Join.l1 k ls (ofL (X ++ lineB d)) d'.length d.length = if r.all plainF then V else some (⟨#[]⟩, 4)
  | [], d, k, hd, hk => by
    obtain ⟨k, rfl⟩ : ∃ k', k = k' + 1 := ⟨k - 1, by omega⟩
    rw [List.append_nil] at hd
    subst hd
    have hn : d'.length < ls.length := by rw [hls]; simp
    have hrd : rd_L2 ls (d'.length : Int) = l := by rw [hls]; exact rd_L2_at _ _ _
    rw [instarref04_Join.l1, if_pos (by omega), if_pos (by omega), hrd, if_neg (by omega), ofL_size, if_pos (by rw [List.length_append]; omega), IntWalk.wrap64_in _ (by omega), show (⟨#[10]⟩ : ByteArray) = ofL [10] from rfl, ofL_append, hV k (by simp at hk; omega), List.all_nil, if_pos rfl]
  | x :: r, d, k, hd, hk => by
    simp only [List.length_cons] at hk
    obtain ⟨k, rfl⟩ : ∃ k', k = k' + 1 := ⟨k - 1, by omega⟩
    have hn : d'.length < ls.length := by rw [hls]; simp
    have hrd : rd_L2 ls (d'.length : Int) = l := by rw [hls]; exact rd_L2_at _ _ _
    have hxm : x ∈ l := by rw [hd]; simp
    have hx1 : rdOf ByteArray.empty l (d.length : Int) = x := by rw [hd]; exact rdOf_at _ _ _
    have hdl : d.length < l.length := by rw [hd]; simp
    have hxs := hs x hxm
    have hxk := hK x hxm
    have hsn := lineB_snoc d x
    have hbig : (lineB (d ++ [x])).length ≤ (lineB l).length := by
      have := lineB_len (d ++ [x]) r
      rw [List.append_assoc, List.singleton_append, ← hd] at this
      exact this
    have hxl : x.data.toList.length = x.size := data_length x
    rw [hsn, List.length_append, List.length_append, hxl] at hbig
    rw [instarref04_Join.l1, if_pos (by omega), if_pos (by omega), hrd, if_pos (by omega), if_pos (by omega), hx1, word_eval x k (by omega) (by omega), Option.bind_some, List.all_cons]
    by_cases hp : plainF x = true
    · have hrec := join_l1 ls d' l r' hls X V K hK hs hlen hll hl2 hV r (d ++ [x]) k (by rw [hd, List.append_assoc]; rfl) (by omega)
      rw [hp, if_pos rfl, Bool.true_and]
      rw [hsn, List.length_append, List.length_singleton, Int.natCast_add] at hrec
      by_cases h0 : d.length = 0
      · obtain rfl : d = [] := List.eq_nil_of_length_eq_zero h0
        rw [if_neg (by simp), ofL_size, if_pos (by rw [List.length_append]; omega), IntWalk.wrap64_in _ (by omega)]
        have e : ofL (X ++ lineB []) ++ x = ofL (X ++ (lineB [] ++ (sepB [] ++ x.data.toList))) := by
          conv => lhs; rw [← ofL_data x]
          rw [ofL_append]
          simp [sepB]
        rw [e]
        exact hrec
      · have hsep : sepB d = [32] := by
          unfold sepB
          rw [if_neg]
          intro h
          exact h0 (by rw [List.isEmpty_iff.1 h]; rfl)
        rw [hsep] at hrec hbig
        rw [if_pos (by omega), ofL_size, if_pos (by rw [List.length_append]; omega), show (⟨#[32]⟩ : ByteArray) = ofL [32] from rfl, ofL_append, ofL_size, if_pos (by rw [List.length_append, List.length_append, List.length_singleton]; simp at hbig; omega), IntWalk.wrap64_in _ (by omega)]
        have e : ofL (X ++ lineB d ++ [32]) ++ x = ofL (X ++ (lineB d ++ ([32] ++ x.data.toList))) := by
          conv => lhs; rw [← ofL_data x]
          rw [ofL_append]
          simp
        rw [e]
        exact hrec
    · rw [if_neg hp, show plainF x = false from by simpa using hp, Bool.false_and, if_neg Bool.false_ne_true]
/-- The steps that the document's Join may take. -/
def fuelJ : List (List ByteArray) → Nat
  | [] => 2
  | l :: r => l.length + 3 + fuelJ r
theorem join_l0 (ls : List (List ByteArray)) (M : Nat) (hM : ∀ l ∈ ls, ∀ x ∈ l, x.size < M) (hs : ∀ l ∈ ls, ∀ x ∈ l, x.size ≤ 16777216) (hT : (textB ls).length ≤ 16777216) (hl2 : ls.length ≤ 16777216) (hll : ∀ l ∈ ls, l.length ≤ 16777216) :
    ∀ (r d : List (List ByteArray)) (k : Nat), ls = d ++ r → M + fuelJ r ≤ k → instarref04_Join.l0 k ls (ofL (textB d)) d.length = some (if r.all okL then (ofL (textB ls), 0) else (⟨#[]⟩, 4))
  | [], d, k, hd, hk => by
    rw [List.append_nil] at hd
    subst hd
    unfold fuelJ at hk
    obtain ⟨k, rfl⟩ : ∃ k', k = k' + 1 := ⟨k - 1, by omega⟩
    rw [instarref04_Join.l0, if_neg (by omega), List.all_nil, if_pos rfl]
  | l :: r, d, k, hd, hk => by
    unfold fuelJ at hk
    obtain ⟨k, rfl⟩ : ∃ k', k = k' + 1 := ⟨k - 1, by omega⟩
    have hn : d.length < ls.length := by rw [hd]; simp
    have hlm : l ∈ ls := by rw [hd]; simp
    have hrd : rd_L2 ls (d.length : Int) = l := by rw [hd]; exact rd_L2_at _ _ _
    have hlen := textB_len d l r
    rw [← hd] at hlen
    rw [instarref04_Join.l0, if_pos (by omega), if_pos (by omega), hrd, List.all_cons]
    by_cases h0 : l.length = 0
    · obtain rfl : l = [] := List.eq_nil_of_length_eq_zero h0
      rw [if_pos (by simp), show okL [] = false from rfl, Bool.false_and, if_neg Bool.false_ne_true]
    · rw [if_neg (by omega)]
      have hok : okL l = l.all plainF := by
        unfold okL
        cases hq : l with
        | nil => rw [hq] at h0; exact absurd rfl h0
        | cons a b => rfl
      have h1 := join_l1 ls d l r hd (textB d) (some (if r.all okL then (ofL (textB ls), 0) else (⟨#[]⟩, 4))) (M + fuelJ r) (fun x hx => by have := hM l hlm x hx; omega) (hs l hlm) (by omega) (hll l hlm) hl2 (fun k' hk' => by
        have h2 := join_l0 ls M hM hs hT hl2 hll r (d ++ [l]) k' (by rw [hd, List.append_assoc]; rfl) hk'
        rw [textB_snoc, ← List.append_assoc, List.length_append, List.length_singleton, Int.natCast_add] at h2
        exact h2) l [] k rfl (by omega)
      rw [show lineB [] = [] from rfl, List.append_nil] at h1
      rw [show ((0 : Int)) = ((([] : List ByteArray).length : Nat) : Int) from rfl, h1, hok]
      cases l.all plainF with
      | true => rw [if_pos rfl, Bool.true_and]; rfl
      | false => rw [if_neg Bool.false_ne_true, Bool.false_and, if_neg Bool.false_ne_true]
theorem r04_join_eval (ls : List (List ByteArray)) (hs : ∀ l ∈ ls, ∀ x ∈ l, x.size ≤ 16777216) (hT : (textB ls).length ≤ 16777216) (hl2 : ls.length ≤ 16777216) (hll : ∀ l ∈ ls, l.length ≤ 16777216) :
    instarref04_Join.f (16777217 + fuelJ ls) ls = some (joinF ls) := by
  have h := join_l0 ls 16777217 (fun l hl x hx => Nat.lt_succ_of_le (hs l hl x hx)) hs hT hl2 hll ls [] _ rfl (Nat.le_refl _)
  exact h
theorem r04_join_calls (ls : List (List ByteArray)) (A : Option Addr) (c : Nat) (w : World) (hr : Kd.C (Kd.slice 9 Kd.string) w A ls.length ls) (hc : ls.length ≤ c) (hs : ∀ l ∈ ls, ∀ x ∈ l, x.size ≤ 16777216) (hT : (textB ls).length ≤ 16777216) (hl2 : ls.length ≤ 16777216) (hll : ∀ l ∈ ls, l.length ≤ 16777216) :
    Calls Tryd.prog 22 #[.slice A ls.length c] w fun e w' => e = .returned (.tuple #[.string (joinF ls).1, .int .i64 (joinF ls).2]) ∧ Drawn0 w w' :=
  instarref04_Join.calls _ A c ls _ _ w hr hc (r04_join_eval ls hs hT hl2 hll)

theorem same_l1 (ls d' : List (List ByteArray)) (l : List ByteArray) (r' : List (List ByteArray)) (hls : ls = d' ++ l :: r') (V : Option Bool) (K : Nat) (hll : l.length ≤ 16777216) (hl2 : ls.length ≤ 16777216)
    (hV : ∀ k', K ≤ k' → instarref04_Same.l0 k' ls ls ((d'.length : Int) + 1) = V) : ∀ (r d : List ByteArray) (k : Nat), l = d ++ r → K + r.length < k →
    instarref04_Same.l1 k ls ls d'.length d.length = V
  | [], d, k, hd, hk => by
    obtain ⟨k, rfl⟩ : ∃ k', k = k' + 1 := ⟨k - 1, by omega⟩
    rw [List.append_nil] at hd
    subst hd
    have hn : d'.length < ls.length := by rw [hls]; simp
    have hrd : rd_L2 ls (d'.length : Int) = l := by rw [hls]; exact rd_L2_at _ _ _
    rw [instarref04_Same.l1, if_pos (by omega), if_pos (by omega), hrd, if_neg (by omega), IntWalk.wrap64_in _ (by omega), hV k (by simp at hk; omega)]
  | x :: r, d, k, hd, hk => by
    simp only [List.length_cons] at hk
    obtain ⟨k, rfl⟩ : ∃ k', k = k' + 1 := ⟨k - 1, by omega⟩
    have hn : d'.length < ls.length := by rw [hls]; simp
    have hrd : rd_L2 ls (d'.length : Int) = l := by rw [hls]; exact rd_L2_at _ _ _
    have hdl : d.length < l.length := by rw [hd]; simp
    rw [instarref04_Same.l1, if_pos (by omega), if_pos (by omega), hrd, if_pos (by omega), if_pos (by omega), if_pos (by omega), if_pos (by omega), if_pos rfl, IntWalk.wrap64_in _ (by omega)]
    have h := same_l1 ls d' l r' hls V K hll hl2 hV r (d ++ [x]) k (by rw [hd, List.append_assoc]; rfl) (by omega)
    rw [List.length_append, List.length_singleton, Int.natCast_add] at h
    exact h
theorem same_l0 (ls : List (List ByteArray)) (hl2 : ls.length ≤ 16777216) (hll : ∀ l ∈ ls, l.length ≤ 16777216) :
    ∀ (r d : List (List ByteArray)) (k : Nat), ls = d ++ r → fuelJ r ≤ k → instarref04_Same.l0 k ls ls d.length = some true
  | [], d, k, hd, hk => by
    rw [List.append_nil] at hd
    subst hd
    unfold fuelJ at hk
    obtain ⟨k, rfl⟩ : ∃ k', k = k' + 1 := ⟨k - 1, by omega⟩
    rw [instarref04_Same.l0, if_neg (by omega)]
  | l :: r, d, k, hd, hk => by
    unfold fuelJ at hk
    obtain ⟨k, rfl⟩ : ∃ k', k = k' + 1 := ⟨k - 1, by omega⟩
    have hn : d.length < ls.length := by rw [hd]; simp
    have hlm : l ∈ ls := by rw [hd]; simp
    have hrd : rd_L2 ls (d.length : Int) = l := by rw [hd]; exact rd_L2_at _ _ _
    rw [instarref04_Same.l0, if_pos (by omega), if_pos (by omega), if_pos (by omega), if_pos rfl]
    exact same_l1 ls d l r hd (some true) (fuelJ r) (hll l hlm) hl2 (fun k' hk' => by
      have h2 := same_l0 ls hl2 hll r (d ++ [l]) k' (by rw [hd, List.append_assoc]; rfl) hk'
      rw [List.length_append, List.length_singleton, Int.natCast_add] at h2
      exact h2) l [] k rfl (by omega)
theorem same_calls (ls : List (List ByteArray)) (A : Option Addr) (c : Nat) (A' : Option Addr) (c' : Nat) (w : World) (hr : Kd.C (Kd.slice 9 Kd.string) w A ls.length ls) (hc : ls.length ≤ c) (hr' : Kd.C (Kd.slice 9 Kd.string) w A' ls.length ls) (hc' : ls.length ≤ c') (hl2 : ls.length ≤ 16777216) (hll : ∀ l ∈ ls, l.length ≤ 16777216) :
    Calls Tryd.prog 23 #[.slice A ls.length c, .slice A' ls.length c'] w fun e w' => e = .returned (.bool true) ∧ Drawn0 w w' :=
  instarref04_Same.calls (fuelJ ls) A c ls A' c' ls true w hr hc hr' hc' (by
    rw [instarref04_Same.f, if_pos rfl]
    exact same_l0 ls hl2 hll ls [] _ rfl (Nat.le_refl _))
end Go.Proofs.YtiddiboclfpklaaDoor.Tx
