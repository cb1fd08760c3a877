/- Hex, walked: bytes' text. -/
import Derived.Laws.BitsAllLaws
import Derived.Test.YtiddiboclfpklaaDoorTxI
namespace Go.Proofs.YtiddiboclfpklaaDoor.Tx
open Go.RowKit Go.Proofs.YtiddiboclfpklaaDoorW.PrintWords Go.Proofs.YtiddiboclfpklaaDoor.PTextsNums
set_option linter.unusedVariables false

/-- The digit of half a byte; the digits of bytes; bytes' text. -/
def figF (x : Int) : Int := if x < 10 then 48 + x else 87 + x
def hexL : List Int → List Int
  | [] => []
  | x :: l => figF (x / 16) :: figF (x % 16) :: hexL l
def hexF (s : ByteArray) : ByteArray := if s.size = 0 then ⟨#[45]⟩ else strOfNums (hexL (bytesOf s))
theorem hexL_append : ∀ a b : List Int, hexL (a ++ b) = hexL a ++ hexL b
  | [], b => rfl
  | x :: a, b => by
    rw [List.cons_append, hexL, hexL_append a b]; rfl
theorem hexL_length : ∀ a : List Int, (hexL a).length = 2 * a.length
  | [] => rfl
  | x :: a => by
    rw [hexL, List.length_cons, List.length_cons, hexL_length a, List.length_cons]; omega
theorem figure_calls (x : Int) (h : 0 ≤ x ∧ x < 16) (w : World) : Calls Tryd.prog 42 #[.int .u8 x] w fun e w' => e = .returned (.int .u8 (figF x)) ∧ Drawn0 w w' := by
  refine texts_figure.calls x (figF x) w ?_
  rw [texts_figure.f]
  unfold figF
  by_cases h1 : x < 10
  · rw [if_pos h1, if_pos h1]; congr 1; omega
  · rw [if_neg h1, if_neg h1]; congr 1; omega
theorem and15 (x : Int) (h0 : 0 ≤ x) (h : x < 256) : Go.bits .and .u8 x 15 = x % 16 := by
  rw [u8_and x 15 h0 h (by decide) (by decide), show (15 : Int).toNat = 2 ^ 4 - 1 from rfl, Nat.and_two_pow_sub_one_eq_mod]
  omega
theorem reads_grown {w w' : World} {k : IntKind} {ad : Addr} {n : Nat} {xs : List Int} (h : ReadsInt w k (some ad) n xs) {row : Option Nat} (hg : w.grownBy w' row) (hne : some ad.block ≠ row) : ReadsInt w' k (some ad) n xs :=
  ⟨h.1, h.2.1, fun hn => by
    obtain ⟨ad', e, hc⟩ := h.2.2 hn
    obtain rfl : ad = ad' := Option.some.inj e
    exact ⟨ad, rfl, fun j hj => hg.cell (hc j hj) (by rw [show (ad.add j).block = ad.block by unfold Addr.add; first | rfl | (split <;> rfl)]; exact hne)⟩⟩
theorem strOf_toList (s : ByteArray) : strOfNums (bytesOf s) = s := strOf_bytesOf s

theorem lit_reads (W : World) (xs : List Int) (h : xs.length ≤ 9223372036854775807) : ReadsInt (W.alloc (.cells (nums .u8 xs).toArray 5)) .u8 (some ⟨W.heap.size, 0, none⟩) xs.length xs := by
  refine ⟨rfl, h, fun _ => ⟨_, rfl, fun j hj => ?_⟩⟩
  rw [add_plain, blk_cell (blk_new W _) j]
  simp [nums, hj]
/-- The state of the loop of Hex. -/
structure HexSt (w wr : World) (s : ByteArray) (B : Nat) (v : Value) (t : Nat) : Prop where
  own : wr.ownsRow w.heap.size 5 1 v (2 * t) (nums .u8 (hexL ((bytesOf s).take t)))
  rd : ReadsInt wr .u8 (some ⟨B, 0, none⟩) s.size (bytesOf s)
  ne : v.ownBlock ≠ some B
  bel : Below w.heap.size w wr
  sz : w.heap.size < B ∧ B < wr.heap.size

theorem HexSt.drawn {w wr w1 : World} {s : ByteArray} {B : Nat} {v : Value} {t : Nat} (S : HexSt w wr s B v t) (h : Drawn0 wr w1) : HexSt w w1 s B v t := by
  have hb := h.below
  obtain ⟨⟨n, rfl⟩⟩ := h
  exact ⟨S.own, S.rd.below hb, S.ne, S.bel.trans (hb.mono S.bel.size), S.sz⟩
theorem HexSt.owns {w wr : World} {s : ByteArray} {B : Nat} {v : Value} {t : Nat} (S : HexSt w wr s B v t) (L : List Int) (hL : hexL ((bytesOf s).take t) = L) (hl : L.length = 2 * t) (o : Obj) : (wr.alloc o).ownsRow w.heap.size 5 1 v L.length (nums .u8 L) := by
  rw [hl, ← hL]
  exact own_alloc S.own o
theorem HexSt.after {w wr w2 : World} {s : ByteArray} {B : Nat} {v v2 : Value} {t : Nat} (S : HexSt w wr s B v t) (o : Obj) (ho : w2.ownsRow w.heap.size 5 1 v2 (2 * (t + 1)) (nums .u8 (hexL ((bytesOf s).take (t + 1))))) (hb : Below w.heap.size w w2)
    (hg : (wr.alloc o).grownBy w2 v.ownBlock) (hat : v2.ownBlock = v.ownBlock ∨ ∃ b, v2.ownBlock = some b ∧ (wr.alloc o).heap.size ≤ b) : HexSt w w2 s B v2 (t + 1) := by
  have hr := reads_grown (S.rd.below ((Below.refl wr.heap.size wr).alloc (Nat.le_refl _) o)) hg (fun e => S.ne e.symm)
  have hz := hg.size
  have hs := S.sz
  rw [World.size_alloc] at hz hat
  refine ⟨ho, hr, ?_, hb, hs.1, by omega⟩
  rcases hat with e | ⟨b, e, hle⟩
  · rw [e]; exact S.ne
  · rw [e]
    intro h
    have := Option.some.inj h
    omega

set_option maxHeartbeats 2000000 in
set_option maxRecDepth 100000 in
theorem hex_calls (s : ByteArray) (hs : s.size ≤ 16777216) (w : World) :
    Calls Tryd.prog 17 #[.string s] w fun e w' => e = .returned (.string (hexF s)) ∧ Below w.heap.size w w' := by
  have hcv := fun W => print_bytes (P := Tryd.prog) 9 80 5 un9 un80 un5 s W
  go_enter Tryd.func17, Tryd.ntmps17
  by_cases hz : s.size = 0
  · obtain rfl : s = ⟨#[]⟩ := ByteArray.ext (Array.eq_empty_of_size_eq_zero hz)
    go_wp2_with fail
    go_ret
    exact ⟨rfl, Below.refl _ _⟩
  · have hne : s.toList.isEmpty = false := by
      rw [Lib.toList_data]
      have hl : s.data.toList.length = s.size := data_length s
      cases hq : s.data.toList with
      | nil => rw [hq] at hl; exact absurd hl.symm hz
      | cons a l => rfl
    obtain ⟨i0, hi0, hz0, hz1, hz2⟩ := info_parts info5
    obtain ⟨wm, hmk, hmo, hmg⟩ := run_make_own (P := Tryd.prog) w w.heap.size 80 5 i0 _ 1 un80 hi0 hz0 hz1 .i64 .i64 (s.size + s.size) (by rw [hz2]; omega) (by unfold maxLen; omega) (Nat.le_refl _)
    have hw2 : IntKind.i64.wrap ((s.size : Int) + (s.size : Int)) = (s.size : Int) + (s.size : Int) := IntWalk.i64_in _ (by omega)
    rw [Int.natCast_add] at hmk
    have hlt := own_lt hmo w.heap.size rfl
    have hbm : Below w.heap.size w wm := (Below.refl _ w).grown hmg (Nat.le_refl _) (fun k e => by cases e)
    obtain ⟨B, hB⟩ : ∃ B, wm.heap.size = B := ⟨_, rfl⟩
    have hcv1 := hcv wm
    rw [hB] at hcv1
    have I0 : Aside0 (HexSt w (Lib.bytesWorld wm 5 s) s B (.slice (some ⟨w.heap.size, 0, none⟩) 0 (s.size + s.size)) 0) := ⟨by
      have hg : wm.grownBy (Lib.bytesWorld wm 5 s) none := grown_of_below (bytes_below (Below.refl wm.heap.size wm) (Nat.le_refl _) 5 s) none
      have hr := bytes_reads wm 5 s (by omega)
      rw [hB] at hr
      exact ⟨own_other hmo hg (.inr (by simp [Value.ownBlock])), hr, by simp only [Value.ownBlock, ne_eq, Option.some.injEq]; omega, bytes_below hbm (by omega) 5 s, by omega, by rw [Lib.bytesWorld_size]; omega⟩⟩
    clear hmo hmg hi0 hz0 hz1 hz2 hcv hbm hB hlt
    go_wp2_with fail
    clear hcv1 hmk hw2
    go_loopw [3, 17] (fun v i wr => ∃ t : Nat, t ≤ s.size ∧ i = .int .i64 (t : Int) ∧ Aside0 (HexSt w wr s B v t)) (fun _ i _ => s.size - (intOf i).toNat)
    case atStart => exact ⟨0, by omega, rfl, I0⟩
    case round =>
      clear I0
      obtain ⟨t, ht, rfl, S⟩ := hrel
      obtain ⟨A3, c3, rfl⟩ := own_slice S.out.own
      by_cases hlt : t < s.size
      · have hb5 : (0 : Int) ≤ (t : Int) := by omega
        have hb6 : (t : Int) < (s.size : Int) := by omega
        obtain ⟨ad, he, hc⟩ := S.out.rd.at_ (t : Int) hb5 hb6
        obtain rfl : (⟨B, 0, none⟩ : Addr) = ad := Option.some.inj he
        rw [Int.toNat_natCast, add_plain] at hc
        obtain ⟨x, hx⟩ : ∃ x, rd (bytesOf s) (t : Int) = x := ⟨_, rfl⟩
        rw [hx] at hc
        have hl : t < (bytesOf s).length := by rw [bytesOf_length]; exact hlt
        have hxe : (bytesOf s)[t] = x := by rw [← hx]; simp [rd, hl]
        have hbx : 0 ≤ x ∧ x < 256 := bytesOf_byte s x (by rw [← hxe]; exact List.getElem_mem hl)
        have hbx1 := hbx.1
        have hbx2 := hbx.2
        have htk : hexL ((bytesOf s).take (t + 1)) = hexL ((bytesOf s).take t) ++ [figF (x / 16), figF (x % 16)] := by
          rw [List.take_succ_eq_append_getElem hl, hxe, hexL_append]; rfl
        have hand := and15 x hbx1 hbx2
        have HF1 : Aside0 (∀ W, Calls Tryd.prog 42 #[.int .u8 (x / 16)] W fun e w' => e = .returned (.int .u8 (figF (x / 16))) ∧ Drawn0 W w') := ⟨fun W => figure_calls _ (by omega) W⟩
        have HF2 : Aside0 (∀ W, Calls Tryd.prog 42 #[.int .u8 (x % 16)] W fun e w' => e = .returned (.int .u8 (figF (x % 16))) ∧ Drawn0 W w') := ⟨fun W => figure_calls _ (by omega) W⟩
        obtain ⟨f1, hf1⟩ : ∃ f1, figF (x / 16) = f1 := ⟨_, rfl⟩
        obtain ⟨f2, hf2⟩ : ∃ f2, figF (x % 16) = f2 := ⟨_, rfl⟩
        rw [hf1, hf2] at htk
        obtain ⟨L, hL⟩ : ∃ L, hexL ((bytesOf s).take t) = L := ⟨_, rfl⟩
        have hLl : L.length = 2 * t := by rw [← hL, hexL_length, List.length_take, Nat.min_eq_left (by omega)]
        rw [hL] at htk
        have HL := Aside0.mk (And.intro hL hLl)
        rw [hf1] at HF1
        rw [hf2] at HF2
        have HTK := Aside0.mk htk
        clear hx he hl hxe hbx htk hf1 hf2 hL hLl
        go_wp2_with (first
          | (go_at_call 42; refine (HF1.out _).mono ?_; rintro e w1 ⟨rfl, hD⟩; have S1 := Aside0.mk (S.out.drawn hD); clear hD)
          | (go_at_call 42; refine (HF2.out _).mono ?_; rintro e w2 ⟨rfl, hD⟩; have S2 := Aside0.mk (S1.out.drawn hD); clear hD)
          | ((with_reducible refine gate_builtin (b := .append) (xs := #[.tmp 21, .tmp 28]) rfl ?_); at_builtin; refine print_append_row (w0 := w) w.heap.size rfl (.tmp 21) (.tmp 28) 80 5 .u8 1 rfl un80 info5 (by decide) (.slice A3 (2 * t) c3) L [f1, f2] (some ⟨w2.heap.size, 0, none⟩) 2 2 rfl rfl (S2.out.owns L HL.out.1 HL.out.2 _) (lit_reads w2 [f1, f2] (by simp)) (Below.alloc S2.out.bel (by have := S2.out.sz; omega) _) (by have := S2.out.sz; rw [World.size_alloc]; omega) (by have := HL.out.2; omega) ?_; intro v2 w3 ho hb2 hg2 hat2; have S3 := Aside0.mk (S2.out.after _ (by have e := HL.out.2; rw [HTK.out]; rw [List.length_append, e] at ho; exact ho) hb2 hg2 hat2); clear ho hb2 hg2 hat2; obtain ⟨A4, c4, rfl⟩ := own_slice S3.out.own))
        refine ⟨⟨t + 1, by omega, by go_num, S3⟩, ?_⟩
        simp only [intOf]; omega
      · obtain rfl : t = s.size := by omega
        have hfull : (bytesOf s).take s.size = bytesOf s := List.take_of_length_le (by rw [bytesOf_length]; exact Nat.le_refl _)
        have hown := S.out.own
        rw [hfull] at hown
        have hstr := own_string (P := Tryd.prog) un80 un5 un9 hown
        have hF : Aside0 (hexF s = strOfNums (hexL (bytesOf s))) := ⟨if_neg hz⟩
        clear hown hfull
        go_wp2_with fail
        go_ret
        exact ⟨by rw [hF.out]; rfl, S.out.bel⟩
end Go.Proofs.YtiddiboclfpklaaDoor.Tx
