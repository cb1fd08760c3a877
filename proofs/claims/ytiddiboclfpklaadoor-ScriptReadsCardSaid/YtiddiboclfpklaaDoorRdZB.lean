/- Lemmas that the claim's theorem uses. -/
import Derived.Test.YtiddiboclfpklaaDoorRdZA
import Derived.Test.YtiddiboclfpklaaDoorRdU
namespace Go.Proofs.YtiddiboclfpklaaDoor.Tz
open Go.RowKit Go.Proofs.YtiddiboclfpklaaDoorW.PrintWords Go.Proofs.YtiddiboclfpklaaDoor.PScriptReads Go.Proofs.YtiddiboclfpklaaDoor.Tx
set_option linter.unusedVariables false
set_option linter.unusedSimpArgs false
theorem plain_of (a : List Int) (h : ∀ x ∈ a, 33 ≤ x ∧ x ≤ 126) (hl : 0 < a.length) : plainF (strOfNums a) = true := by
 unfold plainF
 rw [bytesOf_strOf a (fun x hx => by have := h x hx; omega), strOf_size, decide_eq_true hl, Bool.and_true, List.all_eq_true]
 intro x hx
 have := h x hx
 unfold okB
 rw [decide_eq_true this.1, decide_eq_true this.2]
 rfl
theorem decW_plain (n : Int) (hn : I64 n) : plainF (decW n) = true := by
 unfold decW
 have hn' := hn
 unfold I64 at hn'
 by_cases h : n < 0
 ·rw [decF_neg n h]
  refine plain_of _ (fun x hx => ?_) (by simp)
  rw [List.mem_cons] at hx
  rcases hx with rfl | hx
  ·omega
  ·have := digR_byte _ x (List.mem_reverse.1 hx); omega
 ·rw [decF_pos n h]
  have hl := digR_len 18 n.toNat (by omega)
  refine plain_of _ (fun x hx => ?_) (by rw [List.length_reverse]; omega)
  have := digR_byte _ x (List.mem_reverse.1 hx); omega
theorem hexL_plain : ∀ l : List Int, (∀ x ∈ l, 0 ≤ x ∧ x < 256) → ∀ x ∈ hexL l, 33 ≤ x ∧ x ≤ 126
 | [], _, x, hx => by cases hx
 | a :: l, h, x, hx => by
  obtain ⟨h0, h1⟩ := h a List.mem_cons_self
  rw [hexL, List.mem_cons, List.mem_cons] at hx
  rcases hx with rfl | rfl | hx
  ·unfold figF; split <;> omega
  ·unfold figF; split <;> omega
  ·exact hexL_plain l (fun y hy => h y (List.mem_cons_of_mem _ hy)) x hx
theorem bytes_small (s : ByteArray) : ∀ x ∈ bytesOf s, 0 ≤ x ∧ x < 256 := by
 intro x hx
 obtain ⟨b, _, rfl⟩ := List.mem_map.1 hx
 have := b.toNat_lt
 omega
theorem hexF_plain (s : ByteArray) : plainF (hexF s) = true := by
 unfold hexF
 by_cases h : s.size = 0
 ·rw [if_pos h]; decide
 ·rw [if_neg h]
  exact plain_of _ (hexL_plain _ (bytes_small s)) (by rw [hexL_length, bytesOf_length]; omega)
theorem colon_plain (x : ByteArray) (h : plainF x = true) : plainF (⟨#[58]⟩ ++ x) = true := by
 unfold plainF at h ⊢
 rw [Bool.and_eq_true] at h
 have e : bytesOf (⟨#[58]⟩ ++ x) = 58 :: bytesOf x := by
  unfold bytesOf
  rw [ByteArray.data_append]
  simp
 rw [e, List.all_cons, h.1, ByteArray.size_append, decide_eq_true (by have : (⟨#[58]⟩ : ByteArray).size = 1 := rfl; omega)]
 rfl
theorem valueF_plain (v : S107) (h : I64 v.f0) : plainF (valueF v) = true := by
 unfold valueF
 by_cases h0 : v.f1.size = 0
 ·rw [if_pos h0]; exact decW_plain v.f0 h
 ·rw [if_neg h0]; exact colon_plain _ (hexF_plain _)
theorem word_plain (k : Int) (h1 : 1 ≤ k) (h2 : k ≤ 13) : plainF (wordF k) = true := by
 rcases word_cases k h1 h2 with rfl | rfl | rfl | rfl | rfl | rfl | rfl | rfl | rfl | rfl | rfl | rfl | rfl <;> decide
theorem okL_cons (x : ByteArray) (l : List ByteArray) (h : plainF x = true) (hl : l.all plainF = true) : okL (x :: l) = true := by
 unfold okL
 rw [List.all_cons, h, hl]
 rfl
theorem all_map {α : Type} (f : α → ByteArray) (l : List α) (h : ∀ x ∈ l, plainF (f x) = true) : (l.map f).all plainF = true := by
 rw [List.all_map, List.all_eq_true]
 exact h
theorem line_ok (a : S57) (H : ActOk (act66 a)) (hp : plain40 a = true) : okL (lineA (act66 a)) = true := by
 obtain ⟨⟨k, n, d, f, vs⟩, cut, mount, m, ms⟩ := a
 obtain ⟨hn, hf, hm, hd, hvs, hvl, hms, hml⟩ := H
 dsimp only [act66] at hn hf hm hd hvs hvl hms hml
 cases cut with
 | true => exact okL_cons _ _ (by decide) (by dsimp only [act66]; rw [List.all_cons, decW_plain m hm, Bool.true_and]; exact all_map decW ms (fun x hx => decW_plain x (by have := hms x hx; unfold I64; omega)))
 | false =>
  cases mount with
  | true => exact okL_cons _ _ (by decide) rfl
  | false =>
   have hr : restB k n d f vs m ms.length = true := hp
   unfold restB at hr
   have h1 : ¬ k < 1 := by
    intro h
    rw [decide_eq_true h] at hr
    simp at hr
   have h2 : ¬ 13 < k := by
    intro h
    rw [decide_eq_true h] at hr
    simp at hr
   unfold lineA act66
   dsimp only
   rw [if_neg Bool.false_ne_true, if_neg Bool.false_ne_true]
   refine okL_cons _ _ (word_plain k (by omega) (by omega)) ?_
   by_cases c1 : k = 1
   ·rw [if_pos c1, List.all_cons, decW_plain n hn]; rfl
   ·rw [if_neg c1]
    by_cases c2 : k = 2
    ·rw [if_pos c2, List.all_cons, hexF_plain]; rfl
    ·rw [if_neg c2]
     by_cases c3 : k = 11 ∨ k = 12 ∨ k = 13
     ·rw [if_pos c3, List.all_cons, List.all_cons, decW_plain f hf, decW_plain n hn]
      exact all_map valueF vs (fun v hv => valueF_plain v (hvs v hv).1)
     ·rw [if_neg c3]; rfl
end Go.Proofs.YtiddiboclfpklaaDoor.Tz
namespace Go.Proofs.YtiddiboclfpklaaDoor.Tz
open Go.RowKit Go.Proofs.YtiddiboclfpklaaDoorW.PrintWords Go.Proofs.YtiddiboclfpklaaDoor.PScriptReads Go.Proofs.YtiddiboclfpklaaDoor.Tx
set_option linter.unusedVariables false
theorem nth_I (r : List ByteArray) (i : Nat) : I64 (nth r i) := by
 unfold nth
 split
 ·exact numOf_I _
 ·unfold I64; decide
theorem mask40_range (x : Int) : 0 ≤ mask40 x ∧ mask40 x < 4294967296 := by
 unfold mask40
 rw [and32]
 simp only [IntKind.wrap, IntKind.bits, IntKind.signed]
 simp
 omega
theorem val40_ok (y : ByteArray) (h : y.size ≤ 16777216) : I64 (val40 y).f0 ∧ (val40 y).f1.size ≤ 16777216 := by
 refine ⟨numOf_I y, ?_⟩
 unfold val40
 split
 ·have h1 := unhexS_size (restF y); have h2 := restF_size y; show (unhexS (restF y)).1.size ≤ _; omega
 ·exact Nat.zero_le _
theorem getD_size (r : List ByteArray) (i : Nat) (hr : ∀ y ∈ r, y.size ≤ 16777216) : (r.getD i ByteArray.empty).size ≤ 16777216 := by
 by_cases h : i < r.length
 ·rw [getD_at r i h]; exact hr _ (List.getElem_mem h)
 ·rw [List.getD_eq_getElem?_getD, List.getElem?_eq_none (by omega)]; exact Nat.zero_le _
theorem act40_ok (x : ByteArray) (r : List ByteArray) (hr : ∀ y ∈ r, y.size ≤ 16777216) (hl : r.length ≤ 16777216) : ActOk (act40 x r) := by
 have I0 : I64 0 := by unfold I64; decide
 have e0 : (⟨#[]⟩ : ByteArray).size ≤ 16777216 := Nat.zero_le _
 have hop : ∀ (k n : Int) (d : ByteArray) (f : Int) (vs : List S107) (mt : Bool), I64 n → I64 f → d.size ≤ 16777216 → (∀ v ∈ vs, I64 v.f0 ∧ v.f1.size ≤ 16777216) → vs.length ≤ 16777216 → ActOk ⟨⟨k, n, d, ⟨f, vs⟩⟩, false, mt, 0, []⟩ :=
  fun k n d f vs mt h1 h2 h3 h4 h5 => ⟨h1, h2, I0, h3, h4, h5, (by intro x hx; cases hx), by show (0 : Nat) ≤ _; omega⟩
 unfold act40
 by_cases hc : x = cutW
 ·rw [if_pos hc]
  refine ⟨I0, I0, nth_I r 0, e0, (by intro v hv; cases hv), by show (0 : Nat) ≤ _; omega, ?_, ?_⟩
  ·intro m hm
   obtain ⟨y, _, rfl⟩ := List.mem_map.1 hm
   exact mask40_range _
  ·show ((r.drop 1).map _).length ≤ _
   rw [List.length_map, List.length_drop]; omega
 ·rw [if_neg hc]
  unfold kind40
  split
  ·exact hop _ _ _ _ _ _ (nth_I _ _) I0 e0 (by intro v hv; cases hv) (by simp)
  ·split
   ·refine hop _ _ _ _ _ _ I0 I0 ?_ (by intro v hv; cases hv) (by simp)
    split
    ·have h1 := unhexS_size (r.getD 0 ByteArray.empty)
     have h2 := getD_size r 0 hr
     omega
    ·exact e0
   ·split
    ·refine hop _ _ _ _ _ _ (nth_I _ _) (nth_I _ _) e0 ?_ (by rw [List.length_map, List.length_drop]; omega)
     intro v hv
     obtain ⟨y, hy, rfl⟩ := List.mem_map.1 hv
     exact val40_ok y (hr y (List.mem_of_mem_drop hy))
    ·exact hop _ _ _ _ _ _ I0 I0 e0 (by intro v hv; cases hv) (by simp)
def ok40 (x : ByteArray) (r : List ByteArray) : Bool := plainA (act40 x r) && decide (LT (lineA (act40 x r)) = LT (x :: r))
theorem ok40_is (x : ByteArray) (r : List ByteArray) (hok : okL (x :: r) = true) (hr : ∀ y ∈ r, y.size ≤ 16777216) (hl : r.length ≤ 16777216) : ok40 x r = (actP x r).isSome := by
 cases ha : actP x r with
 | some a =>
  have e := act40_of x r a ha
  obtain ⟨h1, h2⟩ := line_act x r a ha
  unfold ok40
  rw [e, h1, h2, decide_eq_true rfl]
  rfl
 | none =>
  show ok40 x r = false
  cases ho : ok40 x r with
  | false => rfl
  | true =>
   unfold ok40 at ho
   rw [Bool.and_eq_true] at ho
   have hp := ho.1
   have he := of_decide_eq_true ho.2
   have H := act40_ok x r hr hl
   obtain ⟨x2, r2, h1, h2⟩ := act_line _ hp H
   have hk : okL (lineA (act40 x r)) = true := line_ok (act57 (act40 x r)) H ((plain_one (act57 (act40 x r))).trans hp)
   have w1 := (ok_line _ hk).1
   have w2 := (ok_line _ hok).1
   have hb : lineB (lineA (act40 x r)) = lineB (x :: r) := by
    have := congrArg (fun s : ByteArray => s.data.toList) he
    simpa only [LT_data] using this
   rw [hb, w2, h1] at w1
   injection w1 with g1 g2
   rw [← g1, ← g2, ha] at h2
   cases h2
end Go.Proofs.YtiddiboclfpklaaDoor.Tz
