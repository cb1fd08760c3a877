/- Lemmas that the claim's theorem uses. -/
import Derived.Test.YtiddiboclfpklaaDoorRdY
import Derived.Laws.BitsLemmas
import Derived.Test.YtiddiboclfpklaaDoorRdJ
import Derived.Test.YtiddiboclfpklaaDoorRdW
namespace Go.Proofs.YtiddiboclfpklaaDoor.Tz
open Go.RowKit Go.Proofs.YtiddiboclfpklaaDoorW.PrintWords Go.Proofs.YtiddiboclfpklaaDoor.PScriptReads Go.Proofs.YtiddiboclfpklaaDoor.Tx
set_option linter.unusedVariables false
set_option linter.unusedSimpArgs false
set_option maxHeartbeats 4000000 in
set_option maxRecDepth 100000 in
theorem act40_begin (x : ByteArray) (r : List ByteArray) (A : Option Addr) (c : Nat) (w : World) (hr : Kd.C Kd.string w A (x :: r).length (x :: r)) (hc : (x :: r).length ≤ c) (hx : ∀ y ∈ x :: r, y.size ≤ 16777216) (hne : ∀ y ∈ r, 0 < y.size) (hl : r.length ≤ 16777216) (mt : Bool) (h1 : x ≠ cutW) (h2 : mt = decide (x = mountW)) (hk : kindF x = 1) :
  Calls Tryd.prog 67 #[.slice A (r.length + 1) c] w (Act40Post w (kind40 mt (kindF x) r)) := by
 obtain ⟨ad, hA, hc0⟩ := Kd.at_string hr 0 (by omega) (by simp)
 subst hA
 have hce : w.cell? ad = some (.string x) := by
  rw [show (0 : Int).toNat = 0 from rfl, Addr.add_zero'] at hc0
  exact hc0
 have HX := Aside0.mk (And.intro hr (And.intro hce (And.intro hx (And.intro hne hl))))
 have hcm : ((w.alloc (.cells #[.int .i64 0, .int .i64 0, .string ⟨#[]⟩, .int .i64 0, .slice none 0 0, .bool false, .bool false, .int .i64 0, .slice none 0 0] 57)).alloc (.cells #[.int .i64 0, .int .i64 0, .string ⟨#[]⟩, .int .i64 0, .slice none 0 0, .bool false, .bool false, .int .i64 0, .slice none 0 0] 57)).cell? ad = some (.string x) := pw_cell_below (below_alloc (below_alloc (Below.refl _ _) _) _) hce
 have hcm1 : (w.alloc (.cells #[.int .i64 0, .int .i64 0, .string ⟨#[]⟩, .int .i64 0, .slice none 0 0, .bool false, .bool false, .int .i64 0, .slice none 0 0] 57)).cell? ad = some (.string x) := pw_cell_below (below_alloc (Below.refl _ _) _) hce
 have HNu : Aside0 (∀ W (i : Nat), Below w.heap.size w W → Calls Tryd.prog 66 #[.slice (some ad) (r.length + 1) c, .int .i64 (i : Int)] W fun e w' => e = .returned (.tuple #[.int .i64 (numAt (x :: r) i).1, .bool (numAt (x :: r) i).2]) ∧ Below W.heap.size W w') := ⟨fun W i hb => number_calls (x :: r) (some ad) c i W (Kd.C_below HX.out.1 hb)⟩
 have HN1 : Aside0 (∀ W, Below w.heap.size w W → Calls Tryd.prog 66 #[.slice (some ad) (r.length + 1) c, .int .i64 1] W fun e w' => (∃ b, e = .returned (.tuple #[.int .i64 (nth r 0), .bool b])) ∧ Below W.heap.size W w') := ⟨fun W hb => (HNu.out W 1 hb).mono (by
  rintro e w' ⟨rfl, hB⟩
  exact ⟨⟨_, by rw [numAt_nth]⟩, hB⟩)⟩
 have HN2 : Aside0 (∀ W, Below w.heap.size w W → Calls Tryd.prog 66 #[.slice (some ad) (r.length + 1) c, .int .i64 2] W fun e w' => (∃ b, e = .returned (.tuple #[.int .i64 (nth r 1), .bool b])) ∧ Below W.heap.size W w') := ⟨fun W hb => (HNu.out W 2 hb).mono (by
  rintro e w' ⟨rfl, hB⟩
  exact ⟨⟨_, by rw [numAt_nth]⟩, hB⟩)⟩
 obtain ⟨n, hn⟩ : ∃ n, nth r 0 = n := ⟨_, rfl⟩
 obtain ⟨m, hm⟩ : ∃ m, nth r 1 = m := ⟨_, rfl⟩
 rw [hn] at HN1
 rw [hm] at HN2
 obtain ⟨L, hL⟩ : ∃ L, r.length + 1 = L := ⟨_, rfl⟩
 rw [hL] at HNu HN1 HN2 ⊢
 have HL := Aside0.mk (And.intro hL (And.intro hn hm))
 have S00 := Aside0.mk (A7.new w (cells66 0 0 ⟨#[]⟩ 0 (.slice none 0 0) false mt 0 (.slice none 0 0)))
 have hq0 : (0 : Int) < (L : Int) := by omega
 have hLb : L ≤ 16777217 := by omega
 clear hr hc hx hne hl hc0 hL hn hm
 have hw : (x.toList == [99, 117, 116]) = false := by rw [show [99, 117, 116] = cutW.toList from cutW_list.symm, word_eq]; exact decide_eq_false h1
 have hw2 : (x.toList == [109, 111, 117, 110, 116]) = mt := by rw [show [109, 111, 117, 110, 116] = mountW.toList from mountW_list.symm, word_eq]; exact h2.symm
 clear h1 h2
 have HK : Aside0 (∀ W, Calls Tryd.prog 82 #[.string x] W fun e w' => e = .returned (.int .i64 1) ∧ Below W.heap.size W w') := ⟨fun W => (kind_calls x W).mono (by
  rintro e w' ⟨rfl, hB⟩
  exact ⟨by rw [hk], hB⟩)⟩
 have ha : kind40 mt (kindF x) r = ⟨⟨1, n, ⟨#[]⟩, ⟨0, []⟩⟩, false, mt, 0, []⟩ := by rw [hk]; unfold kind40; rw [if_pos rfl, HL.out.2.1]
 rw [ha]
 clear ha hk
 go_enter Tryd.func67, Tryd.ntmps67
 go_upto_region 1 with (fail)
 go_cut [3] (fun v wc => v = .pointer (some ⟨w.heap.size + 1, 0, none⟩) ∧ Aside0 (A7 w wc (cells66 0 0 ⟨#[]⟩ 0 (.slice none 0 0) false mt 0 (.slice none 0 0))))
 case first =>
  go_region
  all_goals go_wp2
  all_goals go_meet
  all_goals exact ⟨rfl, ⟨S00.out.drew⟩⟩
 case rest =>
  obtain ⟨rfl, S0⟩ := hcut
  clear hcm hcm1 hw hw2
  go_wp2_with (first
   | (go_at_call 66; (with_reducible refine (HN1.out _ S0.out.bel).mono ?_); rintro e w4 ⟨⟨b4, rfl⟩, hB⟩; have S4 := Aside0.mk (S0.out.below hB); clear hB)
   | (go_at_call 66; (with_reducible refine (HN2.out _ S4.out.bel).mono ?_); rintro e w5 ⟨⟨b5, rfl⟩, hB⟩; have S5 := Aside0.mk (S4.out.below hB); have z5 : w5.cell? ⟨w.heap.size + 1, 5, none⟩ = some (.bool false) := (blk_cell S5.out.box 5).trans rfl; have f5 := blk_frozen S5.out.box 5; have hce5 := pw_cell_below S5.out.bel hce; clear hB)
   | (go_at_call 82; (with_reducible refine (HK.out _).mono ?_); rintro e w6 ⟨rfl, hB⟩; have S6 := Aside0.mk (S5.out.below hB); have S8 : Aside0 (A7 w ((w6.setCell ⟨w.heap.size + 1, 0, none⟩ (.int .i64 1)).setCell ⟨w.heap.size + 1, 1, none⟩ (.int .i64 n)) (cells66 1 n ⟨#[]⟩ 0 (.slice none 0 0) false mt 0 (.slice none 0 0))) := ⟨((S6.out.put 0 (.int .i64 1)).put 1 (.int .i64 n))⟩; have z0 : w6.cell? ⟨w.heap.size + 1, 0, none⟩ = some (.int .i64 0) := (blk_cell S6.out.box 0).trans rfl; have f0 := blk_frozen S6.out.box 0; have z1 : w6.cell? ⟨w.heap.size + 1, 1, none⟩ = some (.int .i64 0) := (blk_cell S6.out.box 1).trans rfl; have f1 := blk_frozen S6.out.box 1; clear hB)
   | ((with_reducible refine gate_ld (t := 57) rfl rfl ?_); intro g1 g2; refine wpList_load_row g1 57 _ g2 (w.heap.size + 1) rfl 57 (cells66 1 n ⟨#[]⟩ 0 (.slice none 0 0) false mt 0 (.slice none 0 0)) (0, 0) _ S8.out.box Tryd.underlying57 rfl size57 ?_)
   | ((with_reducible refine gate_st (t := 57) rfl rfl ?_); intro g1 g2; refine wpList_store_row g1 57 _ _ g2 w.heap.size (cells66 1 n ⟨#[]⟩ 0 (.slice none 0 0) false mt 0 (.slice none 0 0)) rfl rfl 57 zero66 S8.out.res size57 rfl (one66 _ _ _ _ _ _ _ _ _ rfl rfl) ?_))
  refine bodyPost_ret (results_cell_row rfl _ _ w.heap.size 57 _ (0, 0) _ rfl (setRow_heap _ w.heap.size zero66 (cells66 1 n ⟨#[]⟩ 0 (.slice none 0 0) false mt 0 (.slice none 0 0)) 57 (0, 0) S8.out.res) Tryd.underlying57 rfl size57) rfl ?_
  exact ⟨⟨.slice none 0 0, .slice none 0 0, rfl, actR_nil _ _ _ _ _ _ _ _ _⟩, below_setRow S8.out.bel (Nat.le_refl _) _⟩
set_option maxHeartbeats 4000000 in
set_option maxRecDepth 100000 in
theorem act40_else (x : ByteArray) (r : List ByteArray) (A : Option Addr) (c : Nat) (w : World) (hr : Kd.C Kd.string w A (x :: r).length (x :: r)) (hc : (x :: r).length ≤ c) (hx : ∀ y ∈ x :: r, y.size ≤ 16777216) (hne : ∀ y ∈ r, 0 < y.size) (hl : r.length ≤ 16777216) (mt : Bool) (h1 : x ≠ cutW) (h2 : mt = decide (x = mountW)) (hk1 : kindF x ≠ 1) (hk2 : kindF x ≠ 2) (hk11 : kindF x < 11) :
  Calls Tryd.prog 67 #[.slice A (r.length + 1) c] w (Act40Post w (kind40 mt (kindF x) r)) := by
 obtain ⟨ad, hA, hc0⟩ := Kd.at_string hr 0 (by omega) (by simp)
 subst hA
 have hce : w.cell? ad = some (.string x) := by
  rw [show (0 : Int).toNat = 0 from rfl, Addr.add_zero'] at hc0
  exact hc0
 have HX := Aside0.mk (And.intro hr (And.intro hce (And.intro hx (And.intro hne hl))))
 have hcm : ((w.alloc (.cells #[.int .i64 0, .int .i64 0, .string ⟨#[]⟩, .int .i64 0, .slice none 0 0, .bool false, .bool false, .int .i64 0, .slice none 0 0] 57)).alloc (.cells #[.int .i64 0, .int .i64 0, .string ⟨#[]⟩, .int .i64 0, .slice none 0 0, .bool false, .bool false, .int .i64 0, .slice none 0 0] 57)).cell? ad = some (.string x) := pw_cell_below (below_alloc (below_alloc (Below.refl _ _) _) _) hce
 have hcm1 : (w.alloc (.cells #[.int .i64 0, .int .i64 0, .string ⟨#[]⟩, .int .i64 0, .slice none 0 0, .bool false, .bool false, .int .i64 0, .slice none 0 0] 57)).cell? ad = some (.string x) := pw_cell_below (below_alloc (Below.refl _ _) _) hce
 have HNu : Aside0 (∀ W (i : Nat), Below w.heap.size w W → Calls Tryd.prog 66 #[.slice (some ad) (r.length + 1) c, .int .i64 (i : Int)] W fun e w' => e = .returned (.tuple #[.int .i64 (numAt (x :: r) i).1, .bool (numAt (x :: r) i).2]) ∧ Below W.heap.size W w') := ⟨fun W i hb => number_calls (x :: r) (some ad) c i W (Kd.C_below HX.out.1 hb)⟩
 have HN1 : Aside0 (∀ W, Below w.heap.size w W → Calls Tryd.prog 66 #[.slice (some ad) (r.length + 1) c, .int .i64 1] W fun e w' => (∃ b, e = .returned (.tuple #[.int .i64 (nth r 0), .bool b])) ∧ Below W.heap.size W w') := ⟨fun W hb => (HNu.out W 1 hb).mono (by
  rintro e w' ⟨rfl, hB⟩
  exact ⟨⟨_, by rw [numAt_nth]⟩, hB⟩)⟩
 have HN2 : Aside0 (∀ W, Below w.heap.size w W → Calls Tryd.prog 66 #[.slice (some ad) (r.length + 1) c, .int .i64 2] W fun e w' => (∃ b, e = .returned (.tuple #[.int .i64 (nth r 1), .bool b])) ∧ Below W.heap.size W w') := ⟨fun W hb => (HNu.out W 2 hb).mono (by
  rintro e w' ⟨rfl, hB⟩
  exact ⟨⟨_, by rw [numAt_nth]⟩, hB⟩)⟩
 obtain ⟨n, hn⟩ : ∃ n, nth r 0 = n := ⟨_, rfl⟩
 obtain ⟨m, hm⟩ : ∃ m, nth r 1 = m := ⟨_, rfl⟩
 rw [hn] at HN1
 rw [hm] at HN2
 obtain ⟨L, hL⟩ : ∃ L, r.length + 1 = L := ⟨_, rfl⟩
 rw [hL] at HNu HN1 HN2 ⊢
 have HL := Aside0.mk (And.intro hL (And.intro hn hm))
 have S00 := Aside0.mk (A7.new w (cells66 0 0 ⟨#[]⟩ 0 (.slice none 0 0) false mt 0 (.slice none 0 0)))
 have hq0 : (0 : Int) < (L : Int) := by omega
 have hLb : L ≤ 16777217 := by omega
 clear hr hc hx hne hl hc0 hL hn hm
 have hw : (x.toList == [99, 117, 116]) = false := by rw [show [99, 117, 116] = cutW.toList from cutW_list.symm, word_eq]; exact decide_eq_false h1
 have hw2 : (x.toList == [109, 111, 117, 110, 116]) = mt := by rw [show [109, 111, 117, 110, 116] = mountW.toList from mountW_list.symm, word_eq]; exact h2.symm
 clear h1 h2
 obtain ⟨K, hk⟩ : ∃ K, kindF x = K := ⟨_, rfl⟩
 have HK : Aside0 (∀ W, Calls Tryd.prog 82 #[.string x] W fun e w' => e = .returned (.int .i64 K) ∧ Below W.heap.size W w') := ⟨fun W => (kind_calls x W).mono (by
  rintro e w' ⟨rfl, hB⟩
  exact ⟨by rw [hk], hB⟩)⟩
 have ha : kind40 mt (kindF x) r = ⟨⟨K, 0, ⟨#[]⟩, ⟨0, []⟩⟩, false, mt, 0, []⟩ := by unfold kind40; rw [if_neg hk1, if_neg hk2, if_neg (by omega), hk]
 rw [ha]
 rw [hk] at hk1 hk2 hk11
 have hb1 : (K == 1) = false := beq_eq_false_iff_ne.2 hk1
 have hb2 : (K == 2) = false := beq_eq_false_iff_ne.2 hk2
 have hb3 : decide (11 ≤ K) = false := decide_eq_false (by omega)
 clear ha hk hk1 hk2 hk11
 go_enter Tryd.func67, Tryd.ntmps67
 go_upto_region 1 with (fail)
 go_cut [3] (fun v wc => v = .pointer (some ⟨w.heap.size + 1, 0, none⟩) ∧ Aside0 (A7 w wc (cells66 0 0 ⟨#[]⟩ 0 (.slice none 0 0) false mt 0 (.slice none 0 0))))
 case first =>
  go_region
  all_goals go_wp2
  all_goals go_meet
  all_goals exact ⟨rfl, ⟨S00.out.drew⟩⟩
 case rest =>
  obtain ⟨rfl, S0⟩ := hcut
  clear hcm hcm1 hw hw2
  go_wp2_with (first
   | (go_at_call 66; (with_reducible refine (HN1.out _ S0.out.bel).mono ?_); rintro e w4 ⟨⟨b4, rfl⟩, hB⟩; have S4 := Aside0.mk (S0.out.below hB); clear hB)
   | (go_at_call 66; (with_reducible refine (HN2.out _ S4.out.bel).mono ?_); rintro e w5 ⟨⟨b5, rfl⟩, hB⟩; have S5 := Aside0.mk (S4.out.below hB); have z5 : w5.cell? ⟨w.heap.size + 1, 5, none⟩ = some (.bool false) := (blk_cell S5.out.box 5).trans rfl; have f5 := blk_frozen S5.out.box 5; have hce5 := pw_cell_below S5.out.bel hce; clear hB)
   | (go_at_call 82; (with_reducible refine (HK.out _).mono ?_); rintro e w6 ⟨rfl, hB⟩; have S6 := Aside0.mk (S5.out.below hB); have S8 : Aside0 (A7 w (w6.setCell ⟨w.heap.size + 1, 0, none⟩ (.int .i64 K)) (cells66 K 0 ⟨#[]⟩ 0 (.slice none 0 0) false mt 0 (.slice none 0 0))) := ⟨(S6.out.put 0 (.int .i64 K))⟩; have z0 : w6.cell? ⟨w.heap.size + 1, 0, none⟩ = some (.int .i64 0) := (blk_cell S6.out.box 0).trans rfl; have f0 := blk_frozen S6.out.box 0; have z1 : w6.cell? ⟨w.heap.size + 1, 1, none⟩ = some (.int .i64 0) := (blk_cell S6.out.box 1).trans rfl; have f1 := blk_frozen S6.out.box 1; clear hB)
   | ((with_reducible refine gate_ld (t := 57) rfl rfl ?_); intro g1 g2; refine wpList_load_row g1 57 _ g2 (w.heap.size + 1) rfl 57 (cells66 K 0 ⟨#[]⟩ 0 (.slice none 0 0) false mt 0 (.slice none 0 0)) (0, 0) _ S8.out.box Tryd.underlying57 rfl size57 ?_)
   | ((with_reducible refine gate_st (t := 57) rfl rfl ?_); intro g1 g2; refine wpList_store_row g1 57 _ _ g2 w.heap.size (cells66 K 0 ⟨#[]⟩ 0 (.slice none 0 0) false mt 0 (.slice none 0 0)) rfl rfl 57 zero66 S8.out.res size57 rfl (one66 _ _ _ _ _ _ _ _ _ rfl rfl) ?_))
  refine bodyPost_ret (results_cell_row rfl _ _ w.heap.size 57 _ (0, 0) _ rfl (setRow_heap _ w.heap.size zero66 (cells66 K 0 ⟨#[]⟩ 0 (.slice none 0 0) false mt 0 (.slice none 0 0)) 57 (0, 0) S8.out.res) Tryd.underlying57 rfl size57) rfl ?_
  exact ⟨⟨.slice none 0 0, .slice none 0 0, rfl, actR_nil _ _ _ _ _ _ _ _ _⟩, below_setRow S8.out.bel (Nat.le_refl _) _⟩
set_option maxHeartbeats 4000000 in
set_option maxRecDepth 100000 in
theorem act40_short (x : ByteArray) (r : List ByteArray) (A : Option Addr) (c : Nat) (w : World) (hr : Kd.C Kd.string w A (x :: r).length (x :: r)) (hc : (x :: r).length ≤ c) (hx : ∀ y ∈ x :: r, y.size ≤ 16777216) (hne : ∀ y ∈ r, 0 < y.size) (hl : r.length ≤ 16777216) (mt : Bool) (h1 : x ≠ cutW) (h2 : mt = decide (x = mountW)) (hk : kindF x = 2) (h0 : ¬ 0 < r.length) :
  Calls Tryd.prog 67 #[.slice A (r.length + 1) c] w (Act40Post w (kind40 mt (kindF x) r)) := by
 obtain ⟨ad, hA, hc0⟩ := Kd.at_string hr 0 (by omega) (by simp)
 subst hA
 have hce : w.cell? ad = some (.string x) := by
  rw [show (0 : Int).toNat = 0 from rfl, Addr.add_zero'] at hc0
  exact hc0
 have HX := Aside0.mk (And.intro hr (And.intro hce (And.intro hx (And.intro hne hl))))
 have hcm : ((w.alloc (.cells #[.int .i64 0, .int .i64 0, .string ⟨#[]⟩, .int .i64 0, .slice none 0 0, .bool false, .bool false, .int .i64 0, .slice none 0 0] 57)).alloc (.cells #[.int .i64 0, .int .i64 0, .string ⟨#[]⟩, .int .i64 0, .slice none 0 0, .bool false, .bool false, .int .i64 0, .slice none 0 0] 57)).cell? ad = some (.string x) := pw_cell_below (below_alloc (below_alloc (Below.refl _ _) _) _) hce
 have hcm1 : (w.alloc (.cells #[.int .i64 0, .int .i64 0, .string ⟨#[]⟩, .int .i64 0, .slice none 0 0, .bool false, .bool false, .int .i64 0, .slice none 0 0] 57)).cell? ad = some (.string x) := pw_cell_below (below_alloc (Below.refl _ _) _) hce
 have HNu : Aside0 (∀ W (i : Nat), Below w.heap.size w W → Calls Tryd.prog 66 #[.slice (some ad) (r.length + 1) c, .int .i64 (i : Int)] W fun e w' => e = .returned (.tuple #[.int .i64 (numAt (x :: r) i).1, .bool (numAt (x :: r) i).2]) ∧ Below W.heap.size W w') := ⟨fun W i hb => number_calls (x :: r) (some ad) c i W (Kd.C_below HX.out.1 hb)⟩
 have HN1 : Aside0 (∀ W, Below w.heap.size w W → Calls Tryd.prog 66 #[.slice (some ad) (r.length + 1) c, .int .i64 1] W fun e w' => (∃ b, e = .returned (.tuple #[.int .i64 (nth r 0), .bool b])) ∧ Below W.heap.size W w') := ⟨fun W hb => (HNu.out W 1 hb).mono (by
  rintro e w' ⟨rfl, hB⟩
  exact ⟨⟨_, by rw [numAt_nth]⟩, hB⟩)⟩
 have HN2 : Aside0 (∀ W, Below w.heap.size w W → Calls Tryd.prog 66 #[.slice (some ad) (r.length + 1) c, .int .i64 2] W fun e w' => (∃ b, e = .returned (.tuple #[.int .i64 (nth r 1), .bool b])) ∧ Below W.heap.size W w') := ⟨fun W hb => (HNu.out W 2 hb).mono (by
  rintro e w' ⟨rfl, hB⟩
  exact ⟨⟨_, by rw [numAt_nth]⟩, hB⟩)⟩
 obtain ⟨n, hn⟩ : ∃ n, nth r 0 = n := ⟨_, rfl⟩
 obtain ⟨m, hm⟩ : ∃ m, nth r 1 = m := ⟨_, rfl⟩
 rw [hn] at HN1
 rw [hm] at HN2
 obtain ⟨L, hL⟩ : ∃ L, r.length + 1 = L := ⟨_, rfl⟩
 rw [hL] at HNu HN1 HN2 ⊢
 have HL := Aside0.mk (And.intro hL (And.intro hn hm))
 have S00 := Aside0.mk (A7.new w (cells66 0 0 ⟨#[]⟩ 0 (.slice none 0 0) false mt 0 (.slice none 0 0)))
 have hq0 : (0 : Int) < (L : Int) := by omega
 have hLb : L ≤ 16777217 := by omega
 clear hr hc hx hne hl hc0 hL hn hm
 have hw : (x.toList == [99, 117, 116]) = false := by rw [show [99, 117, 116] = cutW.toList from cutW_list.symm, word_eq]; exact decide_eq_false h1
 have hw2 : (x.toList == [109, 111, 117, 110, 116]) = mt := by rw [show [109, 111, 117, 110, 116] = mountW.toList from mountW_list.symm, word_eq]; exact h2.symm
 clear h1 h2
 have HK : Aside0 (∀ W, Calls Tryd.prog 82 #[.string x] W fun e w' => e = .returned (.int .i64 2) ∧ Below W.heap.size W w') := ⟨fun W => (kind_calls x W).mono (by
  rintro e w' ⟨rfl, hB⟩
  exact ⟨by rw [hk], hB⟩)⟩
 have ha : kind40 mt (kindF x) r = ⟨⟨2, 0, ⟨#[]⟩, ⟨0, []⟩⟩, false, mt, 0, []⟩ := by rw [hk]; unfold kind40; rw [if_neg (by decide), if_pos rfl, if_neg h0]
 rw [ha]
 have hb1 : decide ((1 : Int) < (L : Int)) = false := decide_eq_false (by have := HL.out.1; omega)
 have hb2 : decide (1 < L) = false := decide_eq_false (by have := HL.out.1; omega)
 have hb3 : ¬ (1 : Int) < (L : Int) := (by have := HL.out.1; omega)
 clear ha hk h0
 go_enter Tryd.func67, Tryd.ntmps67
 go_upto_region 1 with (fail)
 go_cut [3] (fun v wc => v = .pointer (some ⟨w.heap.size + 1, 0, none⟩) ∧ Aside0 (A7 w wc (cells66 0 0 ⟨#[]⟩ 0 (.slice none 0 0) false mt 0 (.slice none 0 0))))
 case first =>
  go_region
  all_goals go_wp2
  all_goals go_meet
  all_goals exact ⟨rfl, ⟨S00.out.drew⟩⟩
 case rest =>
  obtain ⟨rfl, S0⟩ := hcut
  clear hcm hcm1 hw hw2
  go_wp2_with (first
   | (go_at_call 66; (with_reducible refine (HN1.out _ S0.out.bel).mono ?_); rintro e w4 ⟨⟨b4, rfl⟩, hB⟩; have S4 := Aside0.mk (S0.out.below hB); clear hB)
   | (go_at_call 66; (with_reducible refine (HN2.out _ S4.out.bel).mono ?_); rintro e w5 ⟨⟨b5, rfl⟩, hB⟩; have S5 := Aside0.mk (S4.out.below hB); have z5 : w5.cell? ⟨w.heap.size + 1, 5, none⟩ = some (.bool false) := (blk_cell S5.out.box 5).trans rfl; have f5 := blk_frozen S5.out.box 5; have hce5 := pw_cell_below S5.out.bel hce; clear hB)
   | (go_at_call 82; (with_reducible refine (HK.out _).mono ?_); rintro e w6 ⟨rfl, hB⟩; have S6 := Aside0.mk (S5.out.below hB); have S8 : Aside0 (A7 w (w6.setCell ⟨w.heap.size + 1, 0, none⟩ (.int .i64 2)) (cells66 2 0 ⟨#[]⟩ 0 (.slice none 0 0) false mt 0 (.slice none 0 0))) := ⟨(S6.out.put 0 (.int .i64 2))⟩; have z0 : w6.cell? ⟨w.heap.size + 1, 0, none⟩ = some (.int .i64 0) := (blk_cell S6.out.box 0).trans rfl; have f0 := blk_frozen S6.out.box 0; have z1 : w6.cell? ⟨w.heap.size + 1, 1, none⟩ = some (.int .i64 0) := (blk_cell S6.out.box 1).trans rfl; have f1 := blk_frozen S6.out.box 1; clear hB)
   | ((with_reducible refine gate_ld (t := 57) rfl rfl ?_); intro g1 g2; refine wpList_load_row g1 57 _ g2 (w.heap.size + 1) rfl 57 (cells66 2 0 ⟨#[]⟩ 0 (.slice none 0 0) false mt 0 (.slice none 0 0)) (0, 0) _ S8.out.box Tryd.underlying57 rfl size57 ?_)
   | ((with_reducible refine gate_st (t := 57) rfl rfl ?_); intro g1 g2; refine wpList_store_row g1 57 _ _ g2 w.heap.size (cells66 2 0 ⟨#[]⟩ 0 (.slice none 0 0) false mt 0 (.slice none 0 0)) rfl rfl 57 zero66 S8.out.res size57 rfl (one66 _ _ _ _ _ _ _ _ _ rfl rfl) ?_))
  refine bodyPost_ret (results_cell_row rfl _ _ w.heap.size 57 _ (0, 0) _ rfl (setRow_heap _ w.heap.size zero66 (cells66 2 0 ⟨#[]⟩ 0 (.slice none 0 0) false mt 0 (.slice none 0 0)) 57 (0, 0) S8.out.res) Tryd.underlying57 rfl size57) rfl ?_
  exact ⟨⟨.slice none 0 0, .slice none 0 0, rfl, actR_nil _ _ _ _ _ _ _ _ _⟩, below_setRow S8.out.bel (Nat.le_refl _) _⟩
set_option maxHeartbeats 4000000 in
set_option maxRecDepth 100000 in
theorem act40_chunk (x : ByteArray) (r : List ByteArray) (A : Option Addr) (c : Nat) (w : World) (hr : Kd.C Kd.string w A (x :: r).length (x :: r)) (hc : (x :: r).length ≤ c) (hx : ∀ y ∈ x :: r, y.size ≤ 16777216) (hne : ∀ y ∈ r, 0 < y.size) (hl : r.length ≤ 16777216) (mt : Bool) (h1 : x ≠ cutW) (h2 : mt = decide (x = mountW)) (hk : kindF x = 2) (h0 : 0 < r.length) :
  Calls Tryd.prog 67 #[.slice A (r.length + 1) c] w (Act40Post w (kind40 mt (kindF x) r)) := by
 obtain ⟨ad, hA, hc0⟩ := Kd.at_string hr 0 (by omega) (by simp)
 subst hA
 have hce : w.cell? ad = some (.string x) := by
  rw [show (0 : Int).toNat = 0 from rfl, Addr.add_zero'] at hc0
  exact hc0
 have HX := Aside0.mk (And.intro hr (And.intro hce (And.intro hx (And.intro hne hl))))
 have hcm : ((w.alloc (.cells #[.int .i64 0, .int .i64 0, .string ⟨#[]⟩, .int .i64 0, .slice none 0 0, .bool false, .bool false, .int .i64 0, .slice none 0 0] 57)).alloc (.cells #[.int .i64 0, .int .i64 0, .string ⟨#[]⟩, .int .i64 0, .slice none 0 0, .bool false, .bool false, .int .i64 0, .slice none 0 0] 57)).cell? ad = some (.string x) := pw_cell_below (below_alloc (below_alloc (Below.refl _ _) _) _) hce
 have hcm1 : (w.alloc (.cells #[.int .i64 0, .int .i64 0, .string ⟨#[]⟩, .int .i64 0, .slice none 0 0, .bool false, .bool false, .int .i64 0, .slice none 0 0] 57)).cell? ad = some (.string x) := pw_cell_below (below_alloc (Below.refl _ _) _) hce
 have HNu : Aside0 (∀ W (i : Nat), Below w.heap.size w W → Calls Tryd.prog 66 #[.slice (some ad) (r.length + 1) c, .int .i64 (i : Int)] W fun e w' => e = .returned (.tuple #[.int .i64 (numAt (x :: r) i).1, .bool (numAt (x :: r) i).2]) ∧ Below W.heap.size W w') := ⟨fun W i hb => number_calls (x :: r) (some ad) c i W (Kd.C_below HX.out.1 hb)⟩
 have HN1 : Aside0 (∀ W, Below w.heap.size w W → Calls Tryd.prog 66 #[.slice (some ad) (r.length + 1) c, .int .i64 1] W fun e w' => (∃ b, e = .returned (.tuple #[.int .i64 (nth r 0), .bool b])) ∧ Below W.heap.size W w') := ⟨fun W hb => (HNu.out W 1 hb).mono (by
  rintro e w' ⟨rfl, hB⟩
  exact ⟨⟨_, by rw [numAt_nth]⟩, hB⟩)⟩
 have HN2 : Aside0 (∀ W, Below w.heap.size w W → Calls Tryd.prog 66 #[.slice (some ad) (r.length + 1) c, .int .i64 2] W fun e w' => (∃ b, e = .returned (.tuple #[.int .i64 (nth r 1), .bool b])) ∧ Below W.heap.size W w') := ⟨fun W hb => (HNu.out W 2 hb).mono (by
  rintro e w' ⟨rfl, hB⟩
  exact ⟨⟨_, by rw [numAt_nth]⟩, hB⟩)⟩
 obtain ⟨n, hn⟩ : ∃ n, nth r 0 = n := ⟨_, rfl⟩
 obtain ⟨m, hm⟩ : ∃ m, nth r 1 = m := ⟨_, rfl⟩
 rw [hn] at HN1
 rw [hm] at HN2
 obtain ⟨L, hL⟩ : ∃ L, r.length + 1 = L := ⟨_, rfl⟩
 rw [hL] at HNu HN1 HN2 ⊢
 have HL := Aside0.mk (And.intro hL (And.intro hn hm))
 have S00 := Aside0.mk (A7.new w (cells66 0 0 ⟨#[]⟩ 0 (.slice none 0 0) false mt 0 (.slice none 0 0)))
 have hq0 : (0 : Int) < (L : Int) := by omega
 have hLb : L ≤ 16777217 := by omega
 clear hr hc hx hne hl hc0 hL hn hm
 have hw : (x.toList == [99, 117, 116]) = false := by rw [show [99, 117, 116] = cutW.toList from cutW_list.symm, word_eq]; exact decide_eq_false h1
 have hw2 : (x.toList == [109, 111, 117, 110, 116]) = mt := by rw [show [109, 111, 117, 110, 116] = mountW.toList from mountW_list.symm, word_eq]; exact h2.symm
 clear h1 h2
 have HK : Aside0 (∀ W, Calls Tryd.prog 82 #[.string x] W fun e w' => e = .returned (.int .i64 2) ∧ Below W.heap.size W w') := ⟨fun W => (kind_calls x W).mono (by
  rintro e w' ⟨rfl, hB⟩
  exact ⟨by rw [hk], hB⟩)⟩
 obtain ⟨y, hy⟩ : ∃ y, r.getD 0 ByteArray.empty = y := ⟨_, rfl⟩
 obtain ⟨u, hu⟩ : ∃ u, (unhexS y).1 = u := ⟨_, rfl⟩
 obtain ⟨ue, hue⟩ : ∃ ue, (unhexS y).2 = ue := ⟨_, rfl⟩
 have ha : kind40 mt (kindF x) r = ⟨⟨2, 0, u, ⟨0, []⟩⟩, false, mt, 0, []⟩ := by rw [hk]; unfold kind40; rw [if_neg (by decide), if_pos rfl, if_pos h0, hy, hu]
 rw [ha]
 obtain ⟨a1, ha1, hcy⟩ := Kd.at_string HX.out.1 1 (by omega) (by simp; omega)
 cases ha1
 replace hcy : w.cell? (ad.add 1) = some (.string y) := by
  have e : rdOf ByteArray.empty (x :: r) (1 : Int) = y := by rw [← hy]; simp [rdOf]
  rw [e] at hcy
  exact hcy
 have HCY := Aside0.mk hcy
 have hyz : y.size ≤ 16777216 := by
  match r, h0, hy with
  | z :: r', _, hy => cases hy; exact HX.out.2.2.1 _ (by simp)
 have HU : Aside0 (∀ W, Calls Tryd.prog 16 #[.string y] W fun e w' => e = .returned (.tuple #[.string u, .int .i64 ue]) ∧ Below W.heap.size W w') := ⟨fun W => by rw [← hu, ← hue]; exact r04_unhex_calls y hyz W⟩
 have hb1 : decide ((1 : Int) < (L : Int)) = true := decide_eq_true (by have := HL.out.1; omega)
 have hb2 : decide (1 < L) = true := decide_eq_true (by have := HL.out.1; omega)
 have hb3 : (1 : Int) < (L : Int) := (by have := HL.out.1; omega)
 clear ha hk h0 hy hu hue hyz hcy
 go_enter Tryd.func67, Tryd.ntmps67
 go_upto_region 1 with (fail)
 go_cut [3] (fun v wc => v = .pointer (some ⟨w.heap.size + 1, 0, none⟩) ∧ Aside0 (A7 w wc (cells66 0 0 ⟨#[]⟩ 0 (.slice none 0 0) false mt 0 (.slice none 0 0))))
 case first =>
  go_region
  all_goals go_wp2
  all_goals go_meet
  all_goals exact ⟨rfl, ⟨S00.out.drew⟩⟩
 case rest =>
  obtain ⟨rfl, S0⟩ := hcut
  clear hcm hcm1 hw hw2
  go_wp2_with (first
   | (go_at_call 66; (with_reducible refine (HN1.out _ S0.out.bel).mono ?_); rintro e w4 ⟨⟨b4, rfl⟩, hB⟩; have S4 := Aside0.mk (S0.out.below hB); clear hB)
   | (go_at_call 66; (with_reducible refine (HN2.out _ S4.out.bel).mono ?_); rintro e w5 ⟨⟨b5, rfl⟩, hB⟩; have S5 := Aside0.mk (S4.out.below hB); have z5 : w5.cell? ⟨w.heap.size + 1, 5, none⟩ = some (.bool false) := (blk_cell S5.out.box 5).trans rfl; have f5 := blk_frozen S5.out.box 5; have hce5 := pw_cell_below S5.out.bel hce; clear hB)
   | (go_at_call 82; (with_reducible refine (HK.out _).mono ?_); rintro e w6 ⟨rfl, hB⟩; have S6 := Aside0.mk (S5.out.below hB); have S7 : Aside0 (A7 w (w6.setCell ⟨w.heap.size + 1, 0, none⟩ (.int .i64 2)) (cells66 2 0 ⟨#[]⟩ 0 (.slice none 0 0) false mt 0 (.slice none 0 0))) := ⟨S6.out.put 0 (.int .i64 2)⟩; have z0 : w6.cell? ⟨w.heap.size + 1, 0, none⟩ = some (.int .i64 0) := (blk_cell S6.out.box 0).trans rfl; have f0 := blk_frozen S6.out.box 0; have z2 : w6.cell? ⟨w.heap.size + 1, 2, none⟩ = some (.string ⟨#[]⟩) := (blk_cell S6.out.box 2).trans rfl; have f2 := blk_frozen S6.out.box 2; have hcy6 : w6.cell? ⟨ad.block, ad.off + 1, none⟩ = some (.string y) := pw_cell_below S6.out.bel HCY.out; clear hB)
   | (go_at_call 16; (with_reducible refine (HU.out _).mono ?_); rintro e w7 ⟨rfl, hB⟩; have S9 := Aside0.mk (S7.out.below hB); have S8 : Aside0 (A7 w (w7.setCell ⟨w.heap.size + 1, 2, none⟩ (.string u)) (cells66 2 0 u 0 (.slice none 0 0) false mt 0 (.slice none 0 0))) := ⟨S9.out.put 2 (.string u)⟩; have y0 : w7.cell? ⟨w.heap.size + 1, 0, none⟩ = some (.int .i64 2) := (blk_cell S9.out.box 0).trans rfl; have e0 := blk_frozen S9.out.box 0; have y2 : w7.cell? ⟨w.heap.size + 1, 2, none⟩ = some (.string ⟨#[]⟩) := (blk_cell S9.out.box 2).trans rfl; have e2 := blk_frozen S9.out.box 2; clear hB)
   | ((with_reducible refine gate_ld (t := 57) rfl rfl ?_); intro g1 g2; refine wpList_load_row g1 57 _ g2 (w.heap.size + 1) rfl 57 (cells66 2 0 u 0 (.slice none 0 0) false mt 0 (.slice none 0 0)) (0, 0) _ S8.out.box Tryd.underlying57 rfl size57 ?_)
   | ((with_reducible refine gate_st (t := 57) rfl rfl ?_); intro g1 g2; refine wpList_store_row g1 57 _ _ g2 w.heap.size (cells66 2 0 u 0 (.slice none 0 0) false mt 0 (.slice none 0 0)) rfl rfl 57 zero66 S8.out.res size57 rfl (one66 _ _ _ _ _ _ _ _ _ rfl rfl) ?_))
  refine bodyPost_ret (results_cell_row rfl _ _ w.heap.size 57 _ (0, 0) _ rfl (setRow_heap _ w.heap.size zero66 (cells66 2 0 u 0 (.slice none 0 0) false mt 0 (.slice none 0 0)) 57 (0, 0) S8.out.res) Tryd.underlying57 rfl size57) rfl ?_
  exact ⟨⟨.slice none 0 0, .slice none 0 0, rfl, actR_nil _ _ _ _ _ _ _ _ _⟩, below_setRow S8.out.bel (Nat.le_refl _) _⟩
end Go.Proofs.YtiddiboclfpklaaDoor.Tz
namespace Go.Proofs.YtiddiboclfpklaaDoor.Tz
open Go.RowKit Go.Proofs.YtiddiboclfpklaaDoorW.PrintWords Go.Proofs.YtiddiboclfpklaaDoor.PScriptReads Go.Proofs.YtiddiboclfpklaaDoor.Tx
set_option linter.unusedVariables false
set_option linter.unusedSimpArgs false
theorem size107_ : (Tryd.prog.info? 107).map (·.size) = some 2 := by kernel_rfl
structure E7 (w wr : World) (K m n : Int) (mt : Bool) (v : Value) (vs : List S107) : Prop where
 a7 : A7 w wr (cells66 K m ⟨#[]⟩ n v false mt 0 (.slice none 0 0))
 row : Kd.R k107 107 wr w.heap.size (fun _ => True) v vs
theorem E7.app {w wr w4 : World} {K m n : Int} {mt : Bool} {a : S107} {v v4 : Value} {vs : List S107} (S : E7 w wr K m n mt v vs) (ho : Kd.R k107 107 w4 w.heap.size (fun _ => True) v4 (vs ++ [a])) (hb : Below w.heap.size w w4) (hg : wr.grownBy w4 v.ownBlock) :
  E7 w (w4.setCell ⟨w.heap.size + 1, 4, none⟩ v4) K m n mt v4 (vs ++ [a]) := by
 have hbox := blk_grown S.a7.box hg (Kd.R_ne S.row S.a7.box (by decide))
 have hres := blk_grown S.a7.res hg (Kd.R_ne S.row S.a7.res (by decide))
 exact ⟨⟨blk_put hbox 4 v4 rfl, blk_far hres (by show w.heap.size ≠ w.heap.size + 1; omega) v4, below_set hb (Nat.le_succ _)⟩, Kd.R_set ho hbox ty107_57 4 v4⟩
theorem E7.below {w wr w4 : World} {K m n : Int} {mt : Bool} {v : Value} {vs : List S107} (S : E7 w wr K m n mt v vs) (hB : Below wr.heap.size wr w4) : E7 w w4 K m n mt v vs := ⟨S.a7.below hB, Kd.R_below S.row hB⟩
theorem getD_at (l : List ByteArray) (k : Nat) (h : k < l.length) : l.getD k ByteArray.empty = l[k] := by
 rw [List.getD_eq_getElem?_getD, List.getElem?_eq_getElem h]; rfl
theorem mem_at (x : ByteArray) (r : List ByteArray) (k : Nat) (h3 : 3 ≤ k) (hk : k < (x :: r).length) : (x :: r).getD k ByteArray.empty ∈ r := by
 obtain ⟨j, rfl⟩ : ∃ j, k = j + 1 := ⟨k - 1, by omega⟩
 have h : j < r.length := by simp at hk; omega
 rw [show (x :: r).getD (j + 1) ByteArray.empty = r.getD j ByteArray.empty from rfl, getD_at r j h]
 exact List.getElem_mem h
theorem at_drop (x : ByteArray) (r : List ByteArray) (k : Nat) (h3 : 3 ≤ k) (hk : k < (x :: r).length) : ((r.drop 2).map val40).take (k + 1 - 3) = ((r.drop 2).map val40).take (k - 3) ++ [val40 ((x :: r).getD k ByteArray.empty)] := by
 obtain ⟨t, rfl⟩ : ∃ t, k = t + 3 := ⟨k - 3, by omega⟩
 have h : t + 2 < r.length := by simp at hk; omega
 have h4 : t < ((r.drop 2).map val40).length := by simp; omega
 rw [show t + 3 + 1 - 3 = t + 1 by omega, show t + 3 - 3 = t by omega, List.take_succ_eq_append_getElem h4]
 rw [show (x :: r).getD (t + 3) ByteArray.empty = r.getD (t + 2) ByteArray.empty from rfl, getD_at r (t + 2) h]
 simp only [List.getElem_map, List.getElem_drop, Nat.add_comm 2 t]
theorem colon_bt (y : ByteArray) (h : 0 < y.size) : (bt y 0 == 58) = colonF y := by
 have e : (y.extract 0 1).toList = [y[0]'h] := by
  rw [Lib.toList_data, ByteArray.data_extract, Array.toList_extract]
  have h2 : 0 < y.data.toList.length := by rw [data_length]; exact h
  show (y.data.toList.extract 0 1) = _
  rw [List.extract_eq_take_drop]
  match hd : y.data.toList, h2 with
  | a :: l, _ =>
   have h3 : y[0]'h = a := by
    have h4 : y[0]'h = y.data.toList[0]'(by rw [hd]; simp) := rfl
    rw [h4]; simp [hd]
   rw [h3]; rfl
 unfold colonF
 rw [e]
 have hb : bt y 0 = ((y[0]'h).toNat : Int) := (bt_at y 0 h).symm
 rw [hb]
 by_cases hc : y[0]'h = 58
 ·rw [hc]; rfl
 ·have h1 : ¬ ((y[0]'h).toNat : Int) = 58 := fun e2 => hc (UInt8.toNat_inj.1 (by have : (58 : UInt8).toNat = 58 := rfl; omega))
  rw [beq_eq_false_iff_ne.2 h1]
  symm
  rw [beq_eq_false_iff_ne]
  intro e2
  exact hc (List.cons.inj e2).1
set_option maxHeartbeats 4000000 in
set_option maxRecDepth 100000 in
theorem act40_values (x : ByteArray) (r : List ByteArray) (A : Option Addr) (c : Nat) (w : World) (hr : Kd.C Kd.string w A (x :: r).length (x :: r)) (hc : (x :: r).length ≤ c) (hx : ∀ y ∈ x :: r, y.size ≤ 16777216) (hne : ∀ y ∈ r, 0 < y.size) (hl : r.length ≤ 16777216) (mt : Bool) (h1 : x ≠ cutW) (h2 : mt = decide (x = mountW)) (hk11 : 11 ≤ kindF x) :
  Calls Tryd.prog 67 #[.slice A (r.length + 1) c] w (Act40Post w (kind40 mt (kindF x) r)) := by
 obtain ⟨ad, hA, hc0⟩ := Kd.at_string hr 0 (by omega) (by simp)
 subst hA
 have hce : w.cell? ad = some (.string x) := by
  rw [show (0 : Int).toNat = 0 from rfl, Addr.add_zero'] at hc0
  exact hc0
 have HX := Aside0.mk (And.intro hr (And.intro hce (And.intro hx (And.intro hne hl))))
 have hcm : ((w.alloc (.cells #[.int .i64 0, .int .i64 0, .string ⟨#[]⟩, .int .i64 0, .slice none 0 0, .bool false, .bool false, .int .i64 0, .slice none 0 0] 57)).alloc (.cells #[.int .i64 0, .int .i64 0, .string ⟨#[]⟩, .int .i64 0, .slice none 0 0, .bool false, .bool false, .int .i64 0, .slice none 0 0] 57)).cell? ad = some (.string x) := pw_cell_below (below_alloc (below_alloc (Below.refl _ _) _) _) hce
 have hcm1 : (w.alloc (.cells #[.int .i64 0, .int .i64 0, .string ⟨#[]⟩, .int .i64 0, .slice none 0 0, .bool false, .bool false, .int .i64 0, .slice none 0 0] 57)).cell? ad = some (.string x) := pw_cell_below (below_alloc (Below.refl _ _) _) hce
 have HNu : Aside0 (∀ W (i : Nat), Below w.heap.size w W → Calls Tryd.prog 66 #[.slice (some ad) (r.length + 1) c, .int .i64 (i : Int)] W fun e w' => e = .returned (.tuple #[.int .i64 (numAt (x :: r) i).1, .bool (numAt (x :: r) i).2]) ∧ Below W.heap.size W w') := ⟨fun W i hb => number_calls (x :: r) (some ad) c i W (Kd.C_below HX.out.1 hb)⟩
 have HN1 : Aside0 (∀ W, Below w.heap.size w W → Calls Tryd.prog 66 #[.slice (some ad) (r.length + 1) c, .int .i64 1] W fun e w' => (∃ b, e = .returned (.tuple #[.int .i64 (nth r 0), .bool b])) ∧ Below W.heap.size W w') := ⟨fun W hb => (HNu.out W 1 hb).mono (by
  rintro e w' ⟨rfl, hB⟩
  exact ⟨⟨_, by rw [numAt_nth]⟩, hB⟩)⟩
 have HN2 : Aside0 (∀ W, Below w.heap.size w W → Calls Tryd.prog 66 #[.slice (some ad) (r.length + 1) c, .int .i64 2] W fun e w' => (∃ b, e = .returned (.tuple #[.int .i64 (nth r 1), .bool b])) ∧ Below W.heap.size W w') := ⟨fun W hb => (HNu.out W 2 hb).mono (by
  rintro e w' ⟨rfl, hB⟩
  exact ⟨⟨_, by rw [numAt_nth]⟩, hB⟩)⟩
 obtain ⟨n, hn⟩ : ∃ n, nth r 0 = n := ⟨_, rfl⟩
 obtain ⟨m, hm⟩ : ∃ m, nth r 1 = m := ⟨_, rfl⟩
 rw [hn] at HN1
 rw [hm] at HN2
 obtain ⟨L, hL⟩ : ∃ L, r.length + 1 = L := ⟨_, rfl⟩
 rw [hL] at HNu HN1 HN2 ⊢
 have HL := Aside0.mk (And.intro hL (And.intro hn hm))
 have S00 := Aside0.mk (A7.new w (cells66 0 0 ⟨#[]⟩ 0 (.slice none 0 0) false mt 0 (.slice none 0 0)))
 have hq0 : (0 : Int) < (L : Int) := by omega
 have hLb : L ≤ 16777217 := by omega
 clear hr hc hx hne hl hc0 hL hn hm
 have hw : (x.toList == [99, 117, 116]) = false := by rw [show [99, 117, 116] = cutW.toList from cutW_list.symm, word_eq]; exact decide_eq_false h1
 have hw2 : (x.toList == [109, 111, 117, 110, 116]) = mt := by rw [show [109, 111, 117, 110, 116] = mountW.toList from mountW_list.symm, word_eq]; exact h2.symm
 clear h1 h2
 obtain ⟨K, hk⟩ : ∃ K, kindF x = K := ⟨_, rfl⟩
 have HK : Aside0 (∀ W, Calls Tryd.prog 82 #[.string x] W fun e w' => e = .returned (.int .i64 K) ∧ Below W.heap.size W w') := ⟨fun W => (kind_calls x W).mono (by
  rintro e w' ⟨rfl, hB⟩
  exact ⟨by rw [hk], hB⟩)⟩
 have ha : kind40 mt (kindF x) r = ⟨⟨K, m, ⟨#[]⟩, ⟨n, (r.drop 2).map val40⟩⟩, false, mt, 0, []⟩ := by unfold kind40; rw [if_neg (by omega), if_neg (by omega), if_pos hk11, hk, HL.out.2.1, HL.out.2.2]
 rw [ha]
 rw [hk] at hk11
 have hb1 : (K == 1) = false := beq_eq_false_iff_ne.2 (by omega)
 have hb2 : (K == 2) = false := beq_eq_false_iff_ne.2 (by omega)
 have hb3 : decide (11 ≤ K) = true := decide_eq_true hk11
 clear ha hk hk11
 go_enter Tryd.func67, Tryd.ntmps67
 go_upto_region 1 with (fail)
 go_cut [3] (fun v wc => v = .pointer (some ⟨w.heap.size + 1, 0, none⟩) ∧ Aside0 (A7 w wc (cells66 0 0 ⟨#[]⟩ 0 (.slice none 0 0) false mt 0 (.slice none 0 0))))
 case first =>
  go_region
  all_goals go_wp2
  all_goals go_meet
  all_goals exact ⟨rfl, ⟨S00.out.drew⟩⟩
 case rest =>
  obtain ⟨rfl, S0⟩ := hcut
  clear hcm hcm1 hw hw2
  go_wp2_with (first
   | (go_at_call 66; (with_reducible refine (HN1.out _ S0.out.bel).mono ?_); rintro e w4 ⟨⟨b4, rfl⟩, hB⟩; have S4 := Aside0.mk (S0.out.below hB); clear hB)
   | (go_at_call 66; (with_reducible refine (HN2.out _ S4.out.bel).mono ?_); rintro e w5 ⟨⟨b5, rfl⟩, hB⟩; have S5 := Aside0.mk (S4.out.below hB); have z5 : w5.cell? ⟨w.heap.size + 1, 5, none⟩ = some (.bool false) := (blk_cell S5.out.box 5).trans rfl; have f5 := blk_frozen S5.out.box 5; have hce5 := pw_cell_below S5.out.bel hce; clear hB)
   | (go_at_call 82; (with_reducible refine (HK.out _).mono ?_); rintro e w6 ⟨rfl, hB⟩; have S6 := Aside0.mk (S5.out.below hB); have S8 : Aside0 (A7 w (((w6.setCell ⟨w.heap.size + 1, 0, none⟩ (.int .i64 K)).setCell ⟨w.heap.size + 1, 1, none⟩ (.int .i64 m)).setCell ⟨w.heap.size + 1, 3, none⟩ (.int .i64 n)) (cells66 K m ⟨#[]⟩ n (.slice none 0 0) false mt 0 (.slice none 0 0))) := ⟨(((S6.out.put 0 (.int .i64 K)).put 1 (.int .i64 m)).put 3 (.int .i64 n))⟩; have z0 : w6.cell? ⟨w.heap.size + 1, 0, none⟩ = some (.int .i64 0) := (blk_cell S6.out.box 0).trans rfl; have f0 := blk_frozen S6.out.box 0; have z1 : w6.cell? ⟨w.heap.size + 1, 1, none⟩ = some (.int .i64 0) := (blk_cell S6.out.box 1).trans rfl; have f1 := blk_frozen S6.out.box 1; have z3 : w6.cell? ⟨w.heap.size + 1, 3, none⟩ = some (.int .i64 0) := (blk_cell S6.out.box 3).trans rfl; have f3 := blk_frozen S6.out.box 3; clear hB))
  clear z0 f0 z1 f1 z3 f3
  obtain ⟨vs, hvs⟩ : ∃ vs, (r.drop 2).map val40 = vs := ⟨_, rfl⟩
  have HVS : Aside0 ((r.drop 2).map val40 = vs ∧ vs.length = L - 3) := ⟨hvs, by rw [← hvs, List.length_map, List.length_drop, ← HL.out.1]; omega⟩
  clear hvs
  have S10 : Aside0 (E7 w _ K m n mt (.slice none 0 0) (vs.take 0)) := ⟨⟨S8.out, Kd.R_nil _ _ _ _ _⟩⟩
  clear z5 f5 S0 S00 hb1 hb2 hb3 hce5
  go_loopw [11] (fun i wr => ∃ k : Nat, 3 ≤ k ∧ (k ≤ L ∨ k = 3) ∧ i = .int .i64 (k : Int) ∧ Aside0 (∃ v, E7 w wr K m n mt v (vs.take (k - 3)))) (fun i _ => L - (intOf i).toNat)
  case atStart => exact ⟨3, by omega, .inr rfl, rfl, ⟨_, S10.out⟩⟩
  case round =>
   clear S6 S4 S5 S8 S10
   obtain ⟨k, h2, hk, rfl, S⟩ := hrel
   obtain ⟨v, S⟩ := S.out
   replace S := Aside0.mk S
   obtain ⟨A5, c5, rfl⟩ := Kd.R_slice S.out.row
   by_cases hlt : k < L
   ·have hb6 : (k : Int) < (L : Int) := by omega
    have hb7 : (0 : Int) ≤ (k : Int) := by omega
    have hkl : k < (x :: r).length := by rw [List.length_cons, HL.out.1]; exact hlt
    obtain ⟨q, hq⟩ : ∃ q, (numAt (x :: r) k).1 = q := ⟨_, rfl⟩
    obtain ⟨bq, hbq⟩ : ∃ bq, (numAt (x :: r) k).2 = bq := ⟨_, rfl⟩
    have HNk := HNu.out
    replace HNk : Aside0 (∀ W, Below w.heap.size w W → Calls Tryd.prog 66 #[.slice (some ad) L c, .int .i64 (k : Int)] W fun e w' => e = .returned (.tuple #[.int .i64 q, .bool bq]) ∧ Below W.heap.size W w') := ⟨fun W hb => by rw [← hq, ← hbq]; exact HNk W k hb⟩
    obtain ⟨y, hy⟩ : ∃ y, (x :: r).getD k ByteArray.empty = y := ⟨_, rfl⟩
    have hqy : numOf y = q := by rw [← hq, ← hy]; unfold numAt; rw [if_pos hkl]
    obtain ⟨a1, ha1, hcy⟩ := Kd.at_string HX.out.1 (k : Int) (by omega) (by omega)
    cases ha1
    replace hcy : w.cell? (ad.add k) = some (.string y) := by
     have e : rdOf ByteArray.empty (x :: r) (k : Int) = y := by rw [← hy]; simp [rdOf]
     rw [e, Int.toNat_natCast] at hcy
     exact hcy
    have HCY := Aside0.mk hcy
    have hyr : y ∈ r := by rw [← hy]; exact mem_at x r k h2 hkl
    have hyz : y.size ≤ 16777216 := HX.out.2.2.1 _ (List.mem_cons_of_mem _ hyr)
    have hy0 : 0 < y.size := HX.out.2.2.2.1 _ hyr
    obtain ⟨b0, hb0⟩ : ∃ b0, bt y 0 = b0 := ⟨_, rfl⟩
    have hcol := colon_bt y hy0
    rw [hb0] at hcol
    have hx0 : ((y[0]'hy0).toNat : Int) = b0 := by rw [← hb0]; exact bt_at y 0 hy0
    have hx5 : ∀ h : 0 < y.size, ((y[0]'h).toNat : Int) = b0 := fun _ => hx0
    have q5 : (0 < y.size) = True := eq_true hy0
    have qi5 : (0 < (y.size : Int)) = True := eq_true (by omega)
    have d1 : decide (1 ≤ (y.size : Int)) = true := decide_eq_true (by omega)
    have d2 : decide (1 ≤ y.size) = true := decide_eq_true hy0
    have d3 : (1 : Int) ≤ (y.size : Int) := by omega
    have d4 : ((y.size : Int) < 1) = False := eq_false (by omega)
    have htk : vs.take (k + 1 - 3) = vs.take (k - 3) ++ [val40 y] := by rw [← HVS.out.1, ← hy]; exact at_drop x r k h2 hkl
    obtain ⟨dn, hdn⟩ : ∃ dn, vs.take (k - 3) = dn := ⟨_, rfl⟩
    have hdl : dn.length ≤ 16777216 := by
     have h1 := HX.out.2.2.2.2
     have h3 := HL.out.1
     rw [← hdn, List.length_take, HVS.out.2]; omega
    rw [hdn] at S htk
    have HT := Aside0.mk (And.intro htk hdl)
    have HY := Aside0.mk (And.intro hqy (And.intro hyz hy0))
    clear hq hbq hy hqy hyr hyz htk hdn hdl hk hx0 hb0 hcy hkl
    cases hc : colonF y with
    | true =>
     rw [hc] at hcol
     obtain ⟨u, hu⟩ : ∃ u, (unhexS (y.extract 1 y.size)).1 = u := ⟨_, rfl⟩
     obtain ⟨ue, hue⟩ : ∃ ue, (unhexS (y.extract 1 y.size)).2 = ue := ⟨_, rfl⟩
     have HU : Aside0 (∀ W, Calls Tryd.prog 16 #[.string (y.extract 1 y.size)] W fun e w' => e = .returned (.tuple #[.string u, .int .i64 ue]) ∧ Below W.heap.size W w') := ⟨fun W => by rw [← hu, ← hue]; exact r04_unhex_calls _ (by have := HY.out.2.1; simp; omega) W⟩
     have HVL : Aside0 (val40 y = ⟨q, u⟩) := ⟨by unfold val40 restF; rw [if_pos hc, if_pos hc, HY.out.1, hu]⟩
     clear hu hue hc hy0
     go_wp2_with (first
      | (go_at_call 66; (with_reducible refine (HNk.out _ S.out.a7.bel).mono ?_); rintro e w6 ⟨rfl, hB⟩; have HBn := Aside0.mk (below_alloc hB (.cells #[.int .i64 q, .string ⟨#[]⟩] 107)); have K6 := Aside0.mk (blk_new w6 (.cells #[.int .i64 q, .string ⟨#[]⟩] 107)); have S7 := Aside0.mk (S.out.below HBn.out); have hcy6 : (w6.alloc (.cells #[.int .i64 q, .string ⟨#[]⟩] 107)).cell? (ad.add k) = some (.string y) := pw_cell_below S7.out.a7.bel HCY.out; have hcy5 : w6.cell? (ad.add k) = some (.string y) := pw_cell_below (S.out.below hB).a7.bel HCY.out; have hlt6 : w.heap.size + 1 < w6.heap.size := (blk_lt (S.out.below hB).a7.box); have hne6 : w6.heap.size ≠ w.heap.size + 1 := (by omega); have hne7 : w.heap.size + 1 ≠ w6.heap.size := (by omega); have hle6 := Aside0.mk hB.size; clear hlt6; clear hB)
      | (go_at_call 16; (with_reducible refine (HU.out _).mono ?_); rintro e w7 ⟨rfl, hB⟩; have K7 := Aside0.mk (blk_below K6.out hB); have z1 : w7.cell? ⟨w6.heap.size, 1, none⟩ = some (.string ⟨#[]⟩) := (blk_cell K7.out 1).trans rfl; have f1 := blk_frozen K7.out 1; have K8 : Aside0 ((w7.setCell ⟨w6.heap.size, 1, none⟩ (.string u)).heap[w6.heap.size]? = some (.cells #[.int .i64 q, .string u] 107 (0, 0))) := ⟨blk_set K7.out 1 (.string u)⟩; have S8 := Aside0.mk (S.out.below (below_set (HBn.out.trans (hB.mono HBn.out.size)) hle6.out : Below _ _ (w7.setCell ⟨w6.heap.size, 1, none⟩ (.string u)))); have z4 : w7.cell? ⟨w.heap.size + 1, 4, none⟩ = some (.slice A5 dn.length c5) := (blk_cell (S7.out.a7.below hB).box 4).trans rfl; clear hB)
      | ((with_reducible refine gate_ld (t := 107) rfl rfl ?_); intro g1 g2; refine wpList_load_row g1 107 _ g2 w6.heap.size rfl 107 #[.int .i64 q, .string u] (0, 0) _ K8.out Tryd.underlying107 rfl size107_ ?_)
      | ((with_reducible refine gate_builtin (b := .append) (xs := #[.tmp 134, .tmp 136]) rfl ?_); at_builtin; refine Kd.R_append k107 (w0 := w) w.heap.size rfl (.tmp 134) (.tmp 136) 50 107 (.agg #[.int .i64 0, .string ⟨#[]⟩]) 24 rfl un50 info107 rfl (by decide) (by decide) (.slice A5 dn.length c5) dn ⟨q, u⟩ [.int .i64 q, .string u] (fun _ => True) (fun _ => False) rfl (by first | (rw [World.size_setCell]; rfl) | (rw [World.size_alloc]; rfl) | rfl) (k107_mkM _ _ _ ⟨q, u⟩) (fun _ h => h.elim) (fun _ _ => trivial) S8.out.row S8.out.a7.bel S8.out.a7.bel.size (by have := HT.out.2; omega) ?_; intro v4 w8 ho hb hg hat; obtain ⟨A6, c6, rfl⟩ := Kd.R_slice ho; have S9 := Aside0.mk (S8.out.app ho hb hg); have y4 : w8.cell? ⟨w.heap.size + 1, 4, none⟩ = some (.slice A5 dn.length c5) := (blk_cell (blk_grown S8.out.a7.box hg (Kd.R_ne S8.out.row S8.out.a7.box (by decide))) 4).trans rfl; have f4 := blk_frozen (blk_grown S8.out.a7.box hg (Kd.R_ne S8.out.row S8.out.a7.box (by decide))) 4; clear ho hb hat hg))
     refine ⟨⟨k + 1, by omega, by omega, by go_num, ⟨⟨_, by rw [HT.out.1, HVL.out]; have h := S9.out; rw [List.length_append, List.length_singleton] at h; exact h⟩⟩⟩, ?_⟩
     simp only [intOf]; omega
    | false =>
     rw [hc] at hcol
     have HVL : Aside0 (val40 y = ⟨q, ⟨#[]⟩⟩) := ⟨by unfold val40; rw [hc, HY.out.1]; rfl⟩
     clear hc hy0
     go_wp2_with (first
      | (go_at_call 66; (with_reducible refine (HNk.out _ S.out.a7.bel).mono ?_); rintro e w6 ⟨rfl, hB⟩; have HBn := Aside0.mk (below_alloc hB (.cells #[.int .i64 q, .string ⟨#[]⟩] 107)); have K6 := Aside0.mk (blk_new w6 (.cells #[.int .i64 q, .string ⟨#[]⟩] 107)); have S7 := Aside0.mk (S.out.below HBn.out); have hcy6 : (w6.alloc (.cells #[.int .i64 q, .string ⟨#[]⟩] 107)).cell? (ad.add k) = some (.string y) := pw_cell_below S7.out.a7.bel HCY.out; have hcy5 : w6.cell? (ad.add k) = some (.string y) := pw_cell_below (S.out.below hB).a7.bel HCY.out; have hlt6 : w.heap.size + 1 < w6.heap.size := (blk_lt (S.out.below hB).a7.box); have hne6 : w6.heap.size ≠ w.heap.size + 1 := (by omega); have hne7 : w.heap.size + 1 ≠ w6.heap.size := (by omega); have hle6 := Aside0.mk hB.size; clear hlt6; have z4 : (w6.alloc (.cells #[.int .i64 q, .string ⟨#[]⟩] 107)).cell? ⟨w.heap.size + 1, 4, none⟩ = some (.slice A5 dn.length c5) := (blk_cell S7.out.a7.box 4).trans rfl; clear hB)
      | ((with_reducible refine gate_ld (t := 107) rfl rfl ?_); intro g1 g2; refine wpList_load_row g1 107 _ g2 w6.heap.size rfl 107 #[.int .i64 q, .string ⟨#[]⟩] (0, 0) _ K6.out Tryd.underlying107 rfl size107_ ?_)
      | ((with_reducible refine gate_builtin (b := .append) (xs := #[.tmp 134, .tmp 136]) rfl ?_); at_builtin; refine Kd.R_append k107 (w0 := w) w.heap.size rfl (.tmp 134) (.tmp 136) 50 107 (.agg #[.int .i64 0, .string ⟨#[]⟩]) 24 rfl un50 info107 rfl (by decide) (by decide) (.slice A5 dn.length c5) dn ⟨q, ⟨#[]⟩⟩ [.int .i64 q, .string ⟨#[]⟩] (fun _ => True) (fun _ => False) rfl (by first | (rw [World.size_setCell]; rfl) | (rw [World.size_alloc]; rfl) | rfl) (k107_mkM _ _ _ ⟨q, ⟨#[]⟩⟩) (fun _ h => h.elim) (fun _ _ => trivial) S7.out.row S7.out.a7.bel S7.out.a7.bel.size (by have := HT.out.2; omega) ?_; intro v4 w8 ho hb hg hat; obtain ⟨A6, c6, rfl⟩ := Kd.R_slice ho; have S9 := Aside0.mk (S7.out.app ho hb hg); have y4 : w8.cell? ⟨w.heap.size + 1, 4, none⟩ = some (.slice A5 dn.length c5) := (blk_cell (blk_grown S7.out.a7.box hg (Kd.R_ne S7.out.row S7.out.a7.box (by decide))) 4).trans rfl; have f4 := blk_frozen (blk_grown S7.out.a7.box hg (Kd.R_ne S7.out.row S7.out.a7.box (by decide))) 4; clear ho hb hat hg))
     refine ⟨⟨k + 1, by omega, by omega, by go_num, ⟨⟨_, by rw [HT.out.1, HVL.out]; have h := S9.out; rw [List.length_append, List.length_singleton] at h; exact h⟩⟩⟩, ?_⟩
     simp only [intOf]; omega
   ·have hb6 : ¬ (k : Int) < (L : Int) := by omega
    have hfull : vs.take (k - 3) = vs := List.take_of_length_le (by rw [HVS.out.2]; omega)
    rw [hfull] at S
    clear hlt hk h2
    go_wp2_with (first
     | ((with_reducible refine gate_ld (t := 57) rfl rfl ?_); intro g1 g2; refine wpList_load_row g1 57 _ g2 (w.heap.size + 1) rfl 57 (cells66 K m ⟨#[]⟩ n (.slice A5 vs.length c5) false mt 0 (.slice none 0 0)) (0, 0) _ S.out.a7.box Tryd.underlying57 rfl size57 ?_)
     | ((with_reducible refine gate_st (t := 57) rfl rfl ?_); intro g1 g2; refine wpList_store_row g1 57 _ _ g2 w.heap.size (cells66 K m ⟨#[]⟩ n (.slice A5 vs.length c5) false mt 0 (.slice none 0 0)) rfl rfl 57 zero66 S.out.a7.res size57 rfl (one66 _ _ _ _ _ _ _ _ _ rfl rfl) ?_))
    refine bodyPost_ret (results_cell_row rfl _ _ w.heap.size 57 _ (0, 0) _ rfl (setRow_heap _ w.heap.size zero66 (cells66 K m ⟨#[]⟩ n (.slice A5 vs.length c5) false mt 0 (.slice none 0 0)) 57 (0, 0) S.out.a7.res) Tryd.underlying57 rfl size57) rfl ?_
    refine ⟨⟨.slice A5 vs.length c5, .slice none 0 0, rfl, ?_⟩, below_setRow S.out.a7.bel (Nat.le_refl _) _⟩
    refine ⟨?_, Kd.R_nil _ _ _ _ _⟩
    have e : List.drop 2 (List.map val40 r) = vs := by rw [← List.map_drop]; exact HVS.out.1
    show Kd.R k107 107 _ _ _ _ (List.drop 2 (List.map val40 r))
    rw [e]
    exact R_setRow S.out.row S.out.a7.res ty107_57 _
theorem act40_calls (x : ByteArray) (r : List ByteArray) (A : Option Addr) (c : Nat) (w : World) (hr : Kd.C Kd.string w A (x :: r).length (x :: r)) (hc : (x :: r).length ≤ c) (hx : ∀ y ∈ x :: r, y.size ≤ 16777216) (hne : ∀ y ∈ r, 0 < y.size) (hl : r.length ≤ 16777216) :
  Calls Tryd.prog 67 #[.slice A (r.length + 1) c] w (Act40Post w (act40 x r)) := by
 by_cases h1 : x = cutW
 ·rw [act40, if_pos h1]; exact act40_cut x r A c w hr hc hx hne hl h1
 rw [act40, if_neg h1]
 by_cases k1 : kindF x = 1
 ·exact act40_begin x r A c w hr hc hx hne hl _ h1 rfl k1
 by_cases k2 : kindF x = 2
 ·by_cases h0 : 0 < r.length
  ·exact act40_chunk x r A c w hr hc hx hne hl _ h1 rfl k2 h0
  ·exact act40_short x r A c w hr hc hx hne hl _ h1 rfl k2 h0
 by_cases k11 : 11 ≤ kindF x
 ·exact act40_values x r A c w hr hc hx hne hl _ h1 rfl k11
 ·exact act40_else x r A c w hr hc hx hne hl _ h1 rfl k1 k2 (by omega)
end Go.Proofs.YtiddiboclfpklaaDoor.Tz
namespace Go.Proofs.YtiddiboclfpklaaDoor.Tz
open Go.RowKit Go.Proofs.YtiddiboclfpklaaDoorW.PrintWords Go.Proofs.YtiddiboclfpklaaDoor.PScriptReads Go.Proofs.YtiddiboclfpklaaDoor.Tx
set_option linter.unusedVariables false
theorem and32 (n : Int) : Go.bits .and .i64 n 4294967295 = n % 4294967296 := by
 have h127 : (BitVec.ofInt 64 4294967295).toNat = 2 ^ 32 - 1 := by decide
 have key : (BitVec.ofInt 64 n &&& BitVec.ofInt 64 4294967295).toNat = (n % ((2 ^ 64 : Nat) : Int)).toNat % 2 ^ 32 := by
  rw [BitVec.toNat_and, BitVec.toNat_ofInt, h127, Nat.and_two_pow_sub_one_eq_mod]
 show IntKind.i64.wrap ((BitVec.ofInt 64 n &&& BitVec.ofInt 64 4294967295).toNat : Nat) = n % 4294967296
 rw [key, IntKind.wrap_i64]
 omega
theorem mask40_id (x : Int) (h : inU x = true) : mask40 x = x := by
 unfold inU at h
 rw [Bool.and_eq_true] at h
 have h1 : ¬ x < 0 := by have := h.1; simp at this; omega
 have h2 : ¬ 4294967295 < x := by have := h.2; simp at this; omega
 unfold mask40
 rw [and32]
 simp only [IntKind.wrap, IntKind.bits, IntKind.signed]
 simp
 omega
theorem num_bad (y : ByteArray) (h : isNum y = false) : numOf y = 0 := by
 have h2 : (readS y).2 ≠ 0 := by
  intro e
  unfold isNum at h
  rw [read_same, e] at h
  cases h
 unfold numOf
 rw [read_same]
 unfold readS at h2 ⊢
 by_cases c1 : ((bare y).size < 1 ∨ 19 < (bare y).size)
 ·rw [if_pos c1]
 ·rw [if_neg c1] at h2 ⊢
  by_cases c2 : (bytesOf (bare y)).all isD = true
  ·rw [if_pos c2] at h2 ⊢
   by_cases c3 : bytesOf y = decF ((bytesOf (bare y)).foldl (stepS (decide ((bare y).size < y.size))) 0)
   ·rw [if_pos c3] at h2; exact absurd rfl h2
   ·rw [if_neg c3]
  ·rw [if_neg c2]
theorem colon_num (y : ByteArray) (h : colonF y = true) : numOf y = 0 := by
 cases hn : isNum y with
 | false => exact num_bad y hn
 | true =>
  have h1 := (decW_numOf y hn).1
  rw [← h1, colon_decW] at h
  cases h
theorem val40_of (y : ByteArray) : val40 y = valOf y := by
 unfold val40 valOf
 cases hc : colonF y with
 | true => rw [colon_num y hc]; rfl
 | false => rfl
theorem kindU_le : ∀ (t : Nat) (s : ByteArray), kindU t s ≤ (t : Int) ∧ 0 ≤ kindU t s
 | 0, s => ⟨Int.le_refl _, Int.le_refl _⟩
 | t + 1, s => by
  rw [kindU]
  have := kindU_le t s
  split <;> omega
theorem nth_at (r : List ByteArray) (i : Nat) (h : i < r.length) : nth r i = numOf (r.getD i ⟨#[]⟩) := by unfold nth; rw [if_pos h]; rfl
theorem kindF_mount : kindF mountW = 0 := by kernel_rfl
theorem act40_of (x : ByteArray) (r : List ByteArray) (a : S66) (h : actP x r = some a) : act40 x r = a := by
 unfold actP at h
 by_cases hc : x = cutW
 ·rw [if_pos hc] at h
  by_cases ho : cutOk r = true
  ·rw [if_pos ho] at h
   rw [act40, if_pos hc, ← Option.some.inj h]
   match r, ho with
   | [], ho => exact absurd ho (by decide)
   | y :: ys, ho =>
    unfold cutOk at ho
    rw [Bool.and_eq_true] at ho
    have h2 : (ys.map numOf).all inU = true := ho.2
    have e : ys.map (fun y => mask40 (numOf y)) = ys.map numOf := List.map_congr_left (fun z hz => mask40_id _ (List.all_eq_true.1 h2 _ (List.mem_map_of_mem hz)))
    show (⟨z54, true, false, nth (y :: ys) 0, ys.map (fun y => mask40 (numOf y))⟩ : S66) = ⟨z54, true, false, numOf y, ys.map numOf⟩
    rw [e, nth_at _ _ (by simp)]; rfl
  ·rw [if_neg ho] at h; cases h
 rw [if_neg hc] at h
 by_cases hm : x = mountW
 ·rw [if_pos hm] at h
  by_cases hl : r.length = 0
  ·rw [if_pos hl] at h
   rw [← Option.some.inj h, act40, if_neg hc, decide_eq_true hm, hm, kindF_mount]
   rfl
  ·rw [if_neg hl] at h; cases h
 rw [if_neg hm] at h
 rw [act40, if_neg hc, decide_eq_false hm]
 have hk := kindU_le 13 x
 change kindF x ≤ 13 ∧ 0 ≤ kindF x at hk
 generalize kindF x = k at h hk ⊢
 unfold kindP at h
 unfold kind40
 by_cases k1 : k = 1
 ·rw [if_pos k1] at h ⊢
  unfold beginP at h
  by_cases hb : (r.all isNum && decide (r.length = 1)) = true
  ·rw [if_pos hb] at h
   rw [Bool.and_eq_true] at hb
   have hl := of_decide_eq_true hb.2
   rw [← Option.some.inj h, nth_at r 0 (by omega)]; rfl
  ·rw [if_neg hb] at h; cases h
 rw [if_neg k1] at h ⊢
 by_cases k2 : k = 2
 ·rw [if_pos k2] at h ⊢
  unfold chunkP at h
  by_cases hb : (bytesF r).2 = true
  ·rw [if_pos hb] at h
   rw [← Option.some.inj h]
   match r, hb with
   | [y], hb => rfl
  ·rw [if_neg hb] at h; cases h
 rw [if_neg k2] at h ⊢
 by_cases k3 : k = 11 ∨ k = 12 ∨ k = 13
 ·rw [if_pos k3] at h
  rw [if_pos (by omega)]
  unfold keyedP at h
  by_cases hb : keyedOk k r = true
  ·rw [if_pos hb] at h
   rw [← Option.some.inj h]
   have hl : 2 ≤ r.length := by
    unfold keyedOk at hb
    simp only [Bool.and_eq_true, decide_eq_true_eq] at hb
    have := hb.2.2.1
    rw [List.length_take] at this; omega
   rw [nth_at r 0 (by omega), nth_at r 1 (by omega)]
   have e : (r.drop 2).map val40 = (r.drop 2).map valOf := List.map_congr_left (fun z _ => val40_of z)
   rw [e]; rfl
  ·rw [if_neg hb] at h; cases h
 rw [if_neg k3] at h
 by_cases k0 : k = 0
 ·rw [if_pos k0] at h; cases h
 rw [if_neg k0] at h
 rw [if_neg (by omega)]
 by_cases hl : r.length = 0
 ·rw [if_pos hl] at h
  rw [← Option.some.inj h]; rfl
 ·rw [if_neg hl] at h; cases h
end Go.Proofs.YtiddiboclfpklaaDoor.Tz
namespace Go.Proofs.YtiddiboclfpklaaDoor.Tz
open Go.RowKit Go.Proofs.YtiddiboclfpklaaDoorW.PrintWords Go.Proofs.YtiddiboclfpklaaDoor.PScriptReads Go.Proofs.YtiddiboclfpklaaDoor.Tx
set_option linter.unusedVariables false
set_option linter.unusedSimpArgs false
theorem line_calls57 (a : S57) (H : ActOk (act66 a)) (hp : plain40 a = true) (A4 : Option Addr) (c4 : Nat) (A8 : Option Addr) (c8 : Nat) (w : World)
  (h4 : Kd.C k107 w A4 a.f0.f3.f1.length a.f0.f3.f1) (h8 : Kd.C (Kd.int .u32) w A8 a.f4.length a.f4) :
  Calls Tryd.prog 54 #[actV57 a A4 c4 A8 c8] w fun e w' => e = .returned (.string (LT (lineA (act66 a)))) ∧ Below w.heap.size w w' := by
 obtain ⟨⟨k, n, d, f, vs⟩, cut, mount, m, ms⟩ := a
 obtain ⟨hn, hf, hm, hd, hvs, hvl, hms, hml⟩ := H
 dsimp only [act66] at hn hf hm hd hvs hvl hms hml h4 h8
 cases cut with
 | true => exact l40_cut k n d f vs m ms A4 c4 A8 c8 w mount h8 hm hms hml
 | false =>
  cases mount with
  | true => exact l40_mount k n d f vs m ms A4 c4 A8 c8 w
  | false =>
   have hr : restB k n d f vs m ms.length = true := hp
   unfold restB at hr
   have h1 : ¬ k < 1 := by
    intro h
    rw [decide_eq_true h] at hr
    simp at hr
   have h2 : ¬ 13 < k := by
    intro h
    rw [decide_eq_true h] at hr
    simp at hr
   have h := l40_op k n d f vs m ms A4 c4 A8 c8 w h4 hn hf hd hvs hvl (by omega) (by omega)
   have e : opL k n d f vs = lineA (act66 ⟨⟨k, n, d, ⟨f, vs⟩⟩, false, false, m, ms⟩) := by
    unfold opL lineA act66
    dsimp only
    rw [if_neg Bool.false_ne_true, if_neg Bool.false_ne_true]
    by_cases c1 : k = 1
    ·rw [if_pos c1, if_pos c1]
    ·rw [if_neg c1, if_neg c1]
     by_cases c2 : k = 2
     ·rw [if_pos c2, if_pos c2]
     ·rw [if_neg c2, if_neg c2]
      by_cases c3 : k < 11
      ·rw [if_pos c3, if_neg (by omega)]
      ·rw [if_neg c3, if_pos (by omega)]
   rw [e] at h
   exact h
end Go.Proofs.YtiddiboclfpklaaDoor.Tz
