/- Lemmas that the claim's theorem uses. -/
import Derived.Test.YtiddiboclfpklaaDoorBkV
import Derived.Test.YtiddiboclfpklaaDoorBkT
import Derived.Test.YtiddiboclfpklaaDoorBkJ
namespace Go.Proofs.YtiddiboclfpklaaDoor.Tz
open Go.RowKit Go.Proofs.YtiddiboclfpklaaDoorW.PrintWords Go.Proofs.YtiddiboclfpklaaDoor.PScriptReads Go.Proofs.YtiddiboclfpklaaDoor.Tx
set_option linter.unusedVariables false
set_option linter.unusedSimpArgs false
theorem list_bytes {a b : ByteArray} (h : a.toList = b.toList) : a = b := by
  rw [Lib.toList_data, Lib.toList_data] at h
  exact ByteArray.ext (Array.toList_inj.1 h)
theorem eqV_eq : ∀ l m : List S107, eqV l m = true → l = m
  | [], [], _ => rfl
  | [], _ :: _, h => by cases h
  | _ :: _, [], h => by cases h
  | ⟨a, s⟩ :: l, ⟨b, t⟩ :: m, h => by
    rw [eqV, Bool.and_eq_true, Bool.and_eq_true] at h
    obtain ⟨⟨h1, h2⟩, h3⟩ := h
    rw [eqV_eq l m h3, show a = b from beq_iff_eq.1 h1, show s = t from list_bytes (beq_iff_eq.1 h2)]
theorem eqI_eq : ∀ l m : List Int, eqI l m = true → l = m
  | [], [], _ => rfl
  | [], _ :: _, h => by cases h
  | _ :: _, [], h => by cases h
  | a :: l, b :: m, h => by
    rw [eqI, Bool.and_eq_true, decide_eq_true_eq] at h
    rw [eqI_eq l m h.2, h.1]
theorem sameA_eq (a b : S66) (h : sameA a b = true) : a = b := by
  obtain ⟨⟨k, n, d, ⟨f, vs⟩⟩, c, mt, m, ms⟩ := a
  obtain ⟨⟨k', n', d', ⟨f', vs'⟩⟩, c', mt', m', ms'⟩ := b
  unfold sameA sameOpF at h
  simp only [Bool.and_eq_true, decide_eq_true_eq, beq_iff_eq] at h
  obtain ⟨⟨h1, h2, h3, h4, h5⟩, h6, h7, h8, h9⟩ := h
  rw [h1, h2, list_bytes h3, h4, eqV_eq _ _ h5, h6, h7, h8, eqI_eq _ _ h9]
theorem act_line (a : S66) (hp : plainA a = true) (H : ActOk a) : ∃ x r, lineA a = x :: r ∧ actP x r = some a := by
  obtain ⟨hn, hf, hm, -, hvs, -, hms, -⟩ := H
  obtain ⟨⟨k, n, d, ⟨f, vs⟩⟩, cut, mount, m, ms⟩ := a
  dsimp only at hn hf hm hvs hms
  cases cut with
  | true =>
    have e := sameA_eq _ _ (show sameA ⟨⟨k, n, d, ⟨f, vs⟩⟩, true, mount, m, ms⟩ ⟨⟨0, 0, ⟨#[]⟩, ⟨0, []⟩⟩, true, false, m, ms⟩ = true from hp)
    simp only [S66.mk.injEq, S54.mk.injEq, S52.mk.injEq, and_true, true_and] at e
    obtain ⟨⟨rfl, rfl, rfl, rfl, rfl⟩, rfl⟩ := e
    refine ⟨cutW, decW m :: ms.map decW, rfl, ?_⟩
    obtain ⟨h1, h2⟩ := map_numOf (m :: ms) (fun x hx => by
      rcases List.mem_cons.1 hx with rfl | hx
      · exact hm
      · have := hms x hx; unfold I64; omega)
    rw [List.map_cons] at h1 h2
    have hc : cutOk (decW m :: ms.map decW) = true := by
      unfold cutOk
      rw [h1, h2, Bool.true_and]
      show ms.all inU = true
      rw [List.all_eq_true]
      intro x hx
      have := hms x hx
      unfold inU
      rw [decide_eq_false (by omega), decide_eq_false (by omega)]
      rfl
    rw [actP, if_pos rfl, if_pos hc, h2]
    rfl
  | false =>
    cases mount with
    | true =>
      have e := sameA_eq _ _ (show sameA ⟨⟨k, n, d, ⟨f, vs⟩⟩, false, true, m, ms⟩ ⟨⟨0, 0, ⟨#[]⟩, ⟨0, []⟩⟩, false, true, 0, []⟩ = true from hp)
      simp only [S66.mk.injEq, S54.mk.injEq, S52.mk.injEq, and_true, true_and] at e
      obtain ⟨⟨rfl, rfl, rfl, rfl, rfl⟩, rfl, rfl⟩ := e
      exact ⟨mountW, [], rfl, by rw [actP, if_neg (by decide), if_pos rfl]; rfl⟩
    | false =>
      replace hp : (!decide ((wordF k).size = 0) && (!vs.any bothF && sameA ⟨⟨k, n, d, ⟨f, vs⟩⟩, false, false, m, ms⟩ ⟨onlyO ⟨k, n, d, ⟨f, vs⟩⟩, false, false, 0, []⟩)) = true := hp
      rw [Bool.and_eq_true, Bool.and_eq_true] at hp
      obtain ⟨h1, h2, h3⟩ := hp
      have hz : ¬ (wordF k).size = 0 := by simpa using h1
      have hnb : vs.any bothF = false := by simpa using h2
      obtain ⟨j, hj⟩ := word_num k hz
      obtain ⟨kf, nc, nm⟩ := kind_words j
      rw [← hj] at kf nc nm
      have e := sameA_eq _ _ h3
      simp only [S66.mk.injEq, and_true, true_and] at e
      obtain ⟨e, rfl, rfl⟩ := e
      have hact : ∀ r, actP (wordF k) r = kindP k r := fun r => by rw [actP, if_neg nc, if_neg nm, kf]
      have hl : lineA ⟨⟨k, n, d, ⟨f, vs⟩⟩, false, false, 0, []⟩ = wordF k :: (if k = 1 then [decW n] else if k = 2 then [hexF d] else if k = 11 ∨ k = 12 ∨ k = 13 then decW f :: decW n :: vs.map valueF else []) := rfl
      refine ⟨wordF k, _, hl, ?_⟩
      rw [hact]
      clear hl hact kf nc nm h1 h2 h3
      unfold kindP
      unfold onlyO at e
      dsimp only at e
      by_cases k1 : k = 1
      · rw [if_pos k1] at e
        rw [if_pos k1, if_pos k1]
        simp only [S54.mk.injEq, S52.mk.injEq, true_and] at e
        obtain ⟨rfl, rfl, rfl⟩ := e
        unfold beginP
        rw [show [decW n].all isNum = true by rw [List.all_cons, isNum_decW n hn]; rfl, k1]
        show some (opA 1 (numOf (decW n)) ⟨#[]⟩ 0 []) = _
        rw [numOf_decW n hn]; rfl
      rw [if_neg k1] at e
      rw [if_neg k1, if_neg k1]
      by_cases k2 : k = 2
      · rw [if_pos k2] at e
        rw [if_pos k2, if_pos k2]
        simp only [S54.mk.injEq, S52.mk.injEq, true_and] at e
        obtain ⟨rfl, rfl, rfl⟩ := e
        have hb2 : bytesF [hexF d] = (d, true) := by
          show ((unhexS (hexF d)).1, decide ((unhexS (hexF d)).2 = 0)) = _
          rw [unhex_of_hex]
          rfl
        unfold chunkP
        rw [hb2, k2]
        rfl
      rw [if_neg k2] at e
      rw [if_neg k2, if_neg k2]
      by_cases k12 : k = 12
      · rw [if_pos k12] at e
        rw [if_pos (.inr (.inl k12)), if_pos (.inr (.inl k12))]
        simp only [S54.mk.injEq, S52.mk.injEq, true_and, and_true] at e
        obtain rfl := e
        obtain ⟨q1, q2⟩ := map_valOf vs (fun v hv => (hvs v hv).1) hnb
        have hko : keyedOk k (decW f :: decW n :: vs.map valueF) = true := by
          unfold keyedOk
          show ([decW f, decW n].all isNum && ((vs.map valueF).all isVal && (true && (decide (k = 12) || _)))) = true
          rw [q1, k12, List.all_cons, List.all_cons, isNum_decW f hf, isNum_decW n hn]
          rfl
        unfold keyedP
        rw [if_pos hko]
        show some (opA k (numOf (decW n)) ⟨#[]⟩ (numOf (decW f)) ((vs.map valueF).map valOf)) = _
        rw [numOf_decW n hn, numOf_decW f hf, q2]
        rfl
      rw [if_neg k12] at e
      by_cases k13 : k = 11 ∨ k = 13
      · rw [if_pos k13] at e
        have k3 : k = 11 ∨ k = 12 ∨ k = 13 := by omega
        rw [if_pos k3, if_pos k3]
        simp only [S54.mk.injEq, S52.mk.injEq, true_and] at e
        obtain ⟨rfl, rfl⟩ := e
        have hko : keyedOk k (decW f :: decW n :: ([] : List S107).map valueF) = true := by
          unfold keyedOk
          show ([decW f, decW n].all isNum && (true && (true && (decide (k = 12) || true)))) = true
          rw [List.all_cons, List.all_cons, isNum_decW f hf, isNum_decW n hn, Bool.or_true]
          rfl
        unfold keyedP
        rw [if_pos hko]
        show some (opA k (numOf (decW n)) ⟨#[]⟩ (numOf (decW f)) []) = _
        rw [numOf_decW n hn, numOf_decW f hf]
        rfl
      rw [if_neg k13] at e
      have k3 : ¬ (k = 11 ∨ k = 12 ∨ k = 13) := by omega
      rw [if_neg k3, if_neg k3]
      simp only [S54.mk.injEq, S52.mk.injEq, true_and] at e
      obtain ⟨rfl, rfl, rfl, rfl⟩ := e
      rw [if_neg (by omega)]
      rfl
theorem cutA_line : ∀ (r : List ByteArray), r.all isNum = true → cutG (r.map numOf) = true → lineA (cutA (r.map numOf)) = cutW :: r ∧ plainA (cutA (r.map numOf)) = true
  | [], _, h => by cases h
  | y :: r, h, _ => by
    rw [List.all_cons, Bool.and_eq_true] at h
    refine ⟨?_, ?_⟩
    · show cutW :: decW (numOf y) :: (r.map numOf).map decW = _
      rw [(decW_numOf y h.1).1, map_decW r h.2]
    · exact sameA_self _
theorem plain_op (k n : Int) (d : ByteArray) (f : Int) (vs : List S107) (hz : ¬ (wordF k).size = 0) (hb : vs.any bothF = false) (ho : onlyO ⟨k, n, d, ⟨f, vs⟩⟩ = ⟨k, n, d, ⟨f, vs⟩⟩) : plainA (opA k n d f vs) = true := by
  show (!decide ((wordF k).size = 0) && (!vs.any bothF && sameA (opA k n d f vs) ⟨onlyO ⟨k, n, d, ⟨f, vs⟩⟩, false, false, 0, []⟩)) = true
  rw [ho, hb, decide_eq_false hz]
  exact sameA_self _
theorem line_op (k n : Int) (d : ByteArray) (f : Int) (vs : List S107) : lineA (opA k n d f vs) = wordF k :: (if k = 1 then [decW n] else if k = 2 then [hexF d] else if k = 11 ∨ k = 12 ∨ k = 13 then decW f :: decW n :: vs.map valueF else []) := rfl
theorem line_act (x : ByteArray) (r : List ByteArray) (a : S66) (h : actP x r = some a) : lineA a = x :: r ∧ plainA a = true := by
  unfold actP at h
  by_cases hc : x = cutW
  · rw [if_pos hc] at h
    by_cases ho : cutOk r = true
    · rw [if_pos ho] at h
      obtain rfl := Option.some.inj h
      unfold cutOk at ho
      rw [Bool.and_eq_true] at ho
      rw [hc]
      exact cutA_line r ho.1 ho.2
    · rw [if_neg ho] at h; cases h
  rw [if_neg hc] at h
  by_cases hm : x = mountW
  · rw [if_pos hm] at h
    by_cases hr : r.length = 0
    · rw [if_pos hr] at h
      obtain rfl := Option.some.inj h
      rw [hm, List.eq_nil_of_length_eq_zero hr]
      exact ⟨rfl, sameA_self _⟩
    · rw [if_neg hr] at h; cases h
  rw [if_neg hm] at h
  rcases kindU_word x 13 with hk | ⟨j, hj, hk, hw⟩
  · rw [show kindF x = 0 from hk] at h
    unfold kindP at h
    simp at h
  obtain ⟨k, hkk⟩ : ∃ k, kindF x = k := ⟨_, rfl⟩
  have hkj : k = (j : Int) + 1 := by rw [← hkk]; exact hk
  rw [hkk] at h
  rw [← hkj] at hw
  have hz : ¬ (wordF k).size = 0 := by
    have := (words_all ⟨j, hj⟩).2
    rw [hkj]; exact this
  clear hkk hk hc hm
  subst hw
  unfold kindP at h
  by_cases k1 : k = 1
  · rw [if_pos k1] at h
    unfold beginP at h
    split at h
    · rename_i hb
      rw [Bool.and_eq_true, decide_eq_true_eq] at hb
      obtain ⟨hb, hl⟩ := hb
      match r, hl, hb, h with
      | [y], _, hb, h =>
        obtain rfl := Option.some.inj h
        rw [List.all_cons, Bool.and_eq_true] at hb
        subst k1
        refine ⟨?_, plain_op _ _ _ _ _ hz rfl rfl⟩
        rw [line_op, if_pos rfl]
        show [_, decW (numOf y)] = _
        rw [(decW_numOf y hb.1).1]
    · cases h
  rw [if_neg k1] at h
  by_cases k2 : k = 2
  · rw [if_pos k2] at h
    unfold chunkP at h
    split at h
    · rename_i hb
      match r, hb, h with
      | [y], hb, h =>
        obtain rfl := Option.some.inj h
        have hu : (unhexS y).2 = 0 := by simpa [bytesF] using hb
        subst k2
        refine ⟨?_, plain_op _ _ _ _ _ hz rfl rfl⟩
        rw [line_op, if_neg (by decide), if_pos rfl]
        show [_, hexF (unhexS y).1] = _
        rw [hex_of_unhex y hu]
      | [], hb, _ => cases hb
      | _ :: _ :: _, hb, _ => cases hb
    · cases h
  rw [if_neg k2] at h
  by_cases k3 : k = 11 ∨ k = 12 ∨ k = 13
  · rw [if_pos k3] at h
    unfold keyedP at h
    split at h
    · rename_i hb
      unfold keyedOk at hb
      match r, hb, h with
      | p :: q :: vs, hb, h =>
        replace hb : ([p, q].all isNum && (vs.all isVal && (true && (decide (k = 12) || decide (vs.length = 0))))) = true := hb
        rw [Bool.and_eq_true, Bool.and_eq_true, Bool.true_and] at hb
        obtain ⟨h1, h2, h3⟩ := hb
        rw [List.all_cons, List.all_cons, Bool.and_eq_true, Bool.and_eq_true] at h1
        obtain rfl := Option.some.inj h
        obtain ⟨q1, q2⟩ := map_valueF vs h2
        have hl : lineA (opA k (numOf q) ⟨#[]⟩ (numOf p) (vs.map valOf)) = wordF k :: p :: q :: vs := by
          rw [line_op, if_neg k1, if_neg k2, if_pos k3, q1, (decW_numOf p h1.1).1, (decW_numOf q h1.2.1).1]
        refine ⟨hl, plain_op _ _ _ _ _ hz q2 ?_⟩
        unfold onlyO
        dsimp only
        rw [if_neg k1, if_neg k2]
        by_cases k12 : k = 12
        · rw [if_pos k12]
        · have hv : vs = [] := by
            rw [decide_eq_false k12, Bool.false_or, decide_eq_true_eq] at h3
            exact List.eq_nil_of_length_eq_zero h3
          rw [if_neg k12, if_pos (by omega), hv]
          rfl
      | [], hb, _ => simp at hb
      | [_], hb, _ => simp at hb
    · cases h
  rw [if_neg k3] at h
  have k0 : ¬ k = 0 := by omega
  rw [if_neg k0] at h
  by_cases hr : r.length = 0
  · rw [if_pos hr] at h
    obtain rfl := Option.some.inj h
    refine ⟨?_, plain_op _ _ _ _ _ hz rfl ?_⟩
    · rw [line_op, if_neg k1, if_neg k2, if_neg k3, List.eq_nil_of_length_eq_zero hr]
    · unfold onlyO
      dsimp only
      rw [if_neg k1, if_neg k2, if_neg (by omega), if_neg (by omega)]
  · rw [if_neg hr] at h; cases h
theorem rows_back (g0 g1 g2 g3 g4 g5 : Int) (B : ByteArray) (ls : List S66) (hg : I64 g0 ∧ I64 g1 ∧ I64 g2 ∧ I64 g3 ∧ I64 g4 ∧ I64 g5) (hp : ls.all plainA = true) (hok : ∀ a ∈ ls, ActOk a) : rowsP (rowsOf g0 g1 g2 g3 g4 g5 B ls) = (([g0, g1, g2, g3, g4, g5], B, ls), 0, 0) := by
  obtain ⟨h1, h2⟩ := map_numOf [g0, g1, g2, g3, g4, g5] (fun x hx => by
    obtain ⟨a, b, c, d, e, f⟩ := hg
    simp only [List.mem_cons, List.not_mem_nil, or_false] at hx
    rcases hx with rfl | rfl | rfl | rfl | rfl | rfl <;> assumption)
  have hd : okDev (headF g0 g1 g2 g3 g4 g5) = true := by
    show devOk devW ([g0, g1, g2, g3, g4, g5].map decW) = true
    unfold devOk
    rw [h1]
    simp
  have hpk : okPar (parcelF B) = true := by
    show ((bytesF [hexF B]).2 && (parW.toList == parW.toList)) = true
    have hb2 : bytesF [hexF B] = (B, true) := by
      show ((unhexS (hexF B)).1, decide ((unhexS (hexF B)).2 = 0)) = _
      rw [unhex_of_hex]
      rfl
    rw [hb2]
    simp
  have ha : (ls.map lineA).all okAct = true ∧ (ls.map lineA).map actD = ls := by
    clear hd hpk h1 h2
    induction ls with
    | nil => exact ⟨rfl, rfl⟩
    | cons a ls ih =>
      rw [List.all_cons, Bool.and_eq_true] at hp
      obtain ⟨q1, q2⟩ := ih hp.2 (fun b hb => hok b (List.mem_cons_of_mem _ hb))
      obtain ⟨x, r, e1, e2⟩ := act_line a hp.1 (hok a List.mem_cons_self)
      rw [List.map_cons, List.all_cons, List.map_cons, q1, q2, e1]
      have o1 : okAct (x :: r) = true := by show (actP x r).isSome = true; rw [e2]; rfl
      have o2 : actD (x :: r) = a := by show (actP x r).getD z66 = a; rw [e2]; rfl
      rw [o1, o2]
      exact ⟨rfl, rfl⟩
  unfold rowsOf
  rw [rowsP_more _ _ _ hd hpk, badFrom_ok _ _ ha.1, ha.2]
  show ((([g0, g1, g2, g3, g4, g5].map decW).map numOf, (bytesF [hexF B]).1, ls), (0 : Int), (0 : Int)) = _
  rw [h2]
  show ((_, (unhexS (hexF B)).1, _), _) = _
  rw [unhex_of_hex]
theorem parse_print (g0 g1 g2 g3 g4 g5 : Int) (B : ByteArray) (ls : List S66) (t : ByteArray) (hg : I64 g0 ∧ I64 g1 ∧ I64 g2 ∧ I64 g3 ∧ I64 g4 ∧ I64 g5) (hok : ∀ a ∈ ls, ActOk a) (h : printF g0 g1 g2 g3 g4 g5 B ls = (t, 0)) : parseP t = (([g0, g1, g2, g3, g4, g5], B, ls), 0, 0) := by
  unfold printF at h
  by_cases hp : ls.all plainA = true
  · rw [if_pos hp] at h
    rcases joinF_form (rowsOf g0 g1 g2 g3 g4 g5 B ls) with ⟨h1, h2⟩ | h2
    · rw [h2] at h
      have ht := (Prod.mk.inj h).1
      rw [← ht]
      unfold parseP
      rw [back_two _ h1, if_pos rfl]
      exact rows_back g0 g1 g2 g3 g4 g5 B ls hg hp hok
    · rw [h2] at h
      exact absurd (Prod.mk.inj h).2 (by decide)
  · rw [if_neg hp] at h
    exact absurd (Prod.mk.inj h).2 (by decide)
theorem numOf_I (s : ByteArray) : I64 (numOf s) := by
  unfold numOf
  rcases readU_is s with ⟨_, h, _⟩ | ⟨h, _⟩
  · exact h
  · rw [h]; unfold I64; decide
theorem acts_back : ∀ (al : List (List ByteArray)) (i : Nat), badFrom i al = none → al.all okAct = true ∧ (al.map actD).map lineA = al ∧ (al.map actD).all plainA = true
  | [], _, _ => ⟨rfl, rfl, rfl⟩
  | l :: al, i, h => by
    rw [badFrom] at h
    by_cases ho : okAct l = true
    · rw [if_pos ho] at h
      obtain ⟨h1, h2, h3⟩ := acts_back al (i + 1) h
      cases l with
      | nil => cases ho
      | cons x r =>
        obtain ⟨a, ha⟩ := Option.isSome_iff_exists.1 (show (actP x r).isSome = true from ho)
        have o2 : actD (x :: r) = a := by show (actP x r).getD z66 = a; rw [ha]; rfl
        obtain ⟨q1, q2⟩ := line_act x r a ha
        rw [List.map_cons, List.map_cons, List.all_cons, List.all_cons, h1, h2, h3, o2, q1, q2, ho]
        exact ⟨rfl, rfl, rfl⟩
    · rw [if_neg ho] at h; cases h
/-- What holds of a script that was read. -/
theorem print_parse (s : ByteArray) (g0 g1 g2 g3 g4 g5 : Int) (B : ByteArray) (acts : List S66) (n : Int) (h : parseP s = (([g0, g1, g2, g3, g4, g5], B, acts), n, 0)) :
    rowsOf g0 g1 g2 g3 g4 g5 B acts = (linesF s).1 ∧ acts.all plainA = true ∧ joinF (linesF s).1 = (s, 0) ∧ (textB (linesF s).1).length = s.size ∧ (I64 g0 ∧ I64 g1 ∧ I64 g2 ∧ I64 g3 ∧ I64 g4 ∧ I64 g5) ∧ (∀ a ∈ acts, ∃ l ∈ (linesF s).1, a = actD l ∧ okAct l = true) ∧ acts.length ≤ (linesF s).1.length ∧ ∃ l ∈ (linesF s).1, ∃ y ∈ l, B = (unhexS y).1 := by
  unfold parseP at h
  by_cases he : (linesF s).2.2 = 0
  · rw [if_pos he] at h
    have hj : joinF (linesF s).1 = (s, 0) ∧ (textB (linesF s).1).length = s.size := by
      rcases linesF_form s with ⟨h1, h2⟩ | ⟨_, h2⟩
      · rw [h2]; exact back_one s h1
      · rw [h2] at he; exact absurd he (by decide)
    obtain ⟨rows, hrows⟩ : ∃ rows, (linesF s).1 = rows := ⟨_, rfl⟩
    rw [hrows] at h hj ⊢
    match rows, h, hj with
    | [], h, _ => exact absurd (Prod.mk.inj (Prod.mk.inj h).2).2 (by decide)
    | [d], h, _ =>
      rw [rowsP] at h
      split at h
      · exact absurd (Prod.mk.inj (Prod.mk.inj h).2).2 (by decide)
      · exact absurd (Prod.mk.inj (Prod.mk.inj h).2).2 (by decide)
    | d :: p :: al, h, hj =>
      cases hd : okDev d with
      | false => rw [rowsP_dev _ _ hd] at h; exact absurd (Prod.mk.inj (Prod.mk.inj h).2).2 (by decide)
      | true =>
        cases hp : okPar p with
        | false => rw [rowsP_par _ _ _ hd hp] at h; exact absurd (Prod.mk.inj (Prod.mk.inj h).2).2 (by decide)
        | true =>
          rw [rowsP_more _ _ _ hd hp] at h
          cases hb : badFrom 2 al with
          | some i => rw [hb] at h; exact absurd (Prod.mk.inj (Prod.mk.inj h).2).2 (by decide)
          | none =>
            rw [hb] at h
            obtain ⟨hs, -⟩ := Prod.mk.inj h
            obtain ⟨hgs, hs⟩ := Prod.mk.inj hs
            obtain ⟨hB, hacts⟩ := Prod.mk.inj hs
            obtain ⟨a1, a2, a3⟩ := acts_back al 2 hb
            cases d with
            | nil => cases hd
            | cons x r =>
              cases p with
              | nil => cases hp
              | cons y q =>
                unfold okDev devOk at hd
                rw [Bool.and_eq_true, Bool.and_eq_true] at hd
                obtain ⟨d1, d2, -⟩ := hd
                have hx : x = devW := list_bytes (beq_iff_eq.1 d2)
                replace hgs : r.map numOf = [g0, g1, g2, g3, g4, g5] := hgs
                have hr : [g0, g1, g2, g3, g4, g5].map decW = r := by rw [← hgs]; exact map_decW r d1
                unfold okPar at hp
                rw [Bool.and_eq_true] at hp
                have hy : y = parW := list_bytes (beq_iff_eq.1 hp.2)
                match q, hp.1, hB with
                | [z], hz, hB =>
                  have hu : (unhexS z).2 = 0 := by simpa [bytesF] using hz
                  replace hB : (unhexS z).1 = B := hB
                  refine ⟨?_, by rw [← hacts]; exact a3, hj.1, hj.2, ?_, ?_, ?_, ?_⟩
                  · unfold rowsOf
                    rw [← hacts, a2, hx, hy, ← hr]
                    show headF g0 g1 g2 g3 g4 g5 :: [parW, hexF B] :: al = _
                    rw [← hB, hex_of_unhex z hu]
                    rfl
                  · have hI : ∀ g ∈ [g0, g1, g2, g3, g4, g5], I64 g := fun g hg => by
                      rw [← hgs] at hg
                      obtain ⟨w, _, rfl⟩ := List.mem_map.1 hg
                      exact numOf_I w
                    exact ⟨hI _ (by simp), hI _ (by simp), hI _ (by simp), hI _ (by simp), hI _ (by simp), hI _ (by simp)⟩
                  · intro a ha
                    rw [← hacts] at ha
                    obtain ⟨l, hl, rfl⟩ := List.mem_map.1 ha
                    exact ⟨l, List.mem_cons_of_mem _ (List.mem_cons_of_mem _ hl), rfl, (List.all_eq_true.1 a1) l hl⟩
                  · rw [← hacts, List.length_map]; simp; omega
                  · exact ⟨[y, z], List.mem_cons_of_mem _ List.mem_cons_self, z, by simp, hB.symm⟩
                | [], hz, _ => cases hz
                | _ :: _ :: _, hz, _ => cases hz
  · rw [if_neg he] at h
    exact absurd (Prod.mk.inj (Prod.mk.inj h).2).2 he
theorem valOf_ok (x : ByteArray) (hx : x.size ≤ 16777216) : I64 (valOf x).f0 ∧ (valOf x).f1.size ≤ 16777216 := by
  unfold valOf
  split
  · exact ⟨by show I64 0; unfold I64; decide, by have h1 := unhexS_size (restF x); have h2 := restF_size x; show (unhexS (restF x)).1.size ≤ _; omega⟩
  · exact ⟨numOf_I x, by exact Nat.zero_le _⟩
/-- An act that was read of small words is small. -/
theorem actP_ok (x : ByteArray) (r : List ByteArray) (a : S66) (hr : ∀ y ∈ r, y.size ≤ 16777216) (hl : r.length ≤ 16777216) (h : actP x r = some a) : ActOk a := by
  have I0 : I64 0 := by unfold I64; decide
  have hop : ∀ (k n : Int) (d : ByteArray) (f : Int) (vs : List S107), I64 n → I64 f → d.size ≤ 16777216 → (∀ v ∈ vs, I64 v.f0 ∧ v.f1.size ≤ 16777216) → vs.length ≤ 16777216 → ActOk (opA k n d f vs) :=
    fun k n d f vs h1 h2 h3 h4 h5 => ⟨h1, h2, I0, h3, h4, h5, (by intro x hx; cases hx), by show (0 : Nat) ≤ _; omega⟩
  have e0 : (⟨#[]⟩ : ByteArray).size ≤ 16777216 := Nat.zero_le _
  unfold actP at h
  split at h
  · split at h
    · rename_i ho
      obtain rfl := Option.some.inj h
      unfold cutOk at ho
      rw [Bool.and_eq_true] at ho
      match r, ho.2, hr, hl with
      | y :: r, h2, hr, hl =>
        replace h2 : (r.map numOf).all inU = true := h2
        refine ⟨I0, I0, numOf_I y, e0, (by intro v hv; cases hv), by show (0 : Nat) ≤ _; omega, ?_, ?_⟩
        · intro m hm
          have := (List.all_eq_true.1 h2) m hm
          unfold inU at this
          simp at this
          omega
        · show (r.map numOf).length ≤ _
          rw [List.length_map]; simp at hl; omega
      | [], h2, _, _ => cases h2
    · cases h
  · split at h
    · split at h
      · obtain rfl := Option.some.inj h
        exact ⟨I0, I0, I0, e0, (by intro v hv; cases hv), by show (0 : Nat) ≤ _; omega, (by intro v hv; cases hv), by show (0 : Nat) ≤ _; omega⟩
      · cases h
    · unfold kindP at h
      split at h
      · unfold beginP at h
        split at h
        · obtain rfl := Option.some.inj h
          exact hop _ _ _ _ _ (numOf_I _) I0 e0 (by intro v hv; cases hv) (by simp)
        · cases h
      · split at h
        · unfold chunkP at h
          split at h
          · obtain rfl := Option.some.inj h
            refine hop _ _ _ _ _ I0 I0 ?_ (by intro v hv; cases hv) (by simp)
            unfold bytesF
            split
            · rename_i z _
              have h1 := unhexS_size z
              have h2 := hr z (by simp)
              show (unhexS z).1.size ≤ _
              omega
            · exact e0
          · cases h
        · split at h
          · unfold keyedP at h
            split at h
            · obtain rfl := Option.some.inj h
              refine hop _ _ _ _ _ (numOf_I _) (numOf_I _) e0 ?_ (by rw [List.length_map, List.length_drop]; omega)
              intro v hv
              obtain ⟨y, hy, rfl⟩ := List.mem_map.1 hv
              exact valOf_ok y (hr y (List.mem_of_mem_drop hy))
            · cases h
          · split at h
            · cases h
            · split at h
              · obtain rfl := Option.some.inj h
                exact hop _ _ _ _ _ I0 I0 e0 (by intro v hv; cases hv) (by simp)
              · cases h
end Go.Proofs.YtiddiboclfpklaaDoor.Tz
namespace Go.Proofs.YtiddiboclfpklaaDoor.Tz
open Go.RowKit Go.Proofs.YtiddiboclfpklaaDoorW.PrintWords Go.Proofs.YtiddiboclfpklaaDoor.PScriptReads Go.Proofs.YtiddiboclfpklaaDoor.Tx
set_option linter.unusedVariables false
set_option linter.unusedSimpArgs false
theorem lit1 {α : Type} (d : Kd α) (W : World) (e : Nat) (x : α) (cs : List Value) (hs : cs.length = d.sz) (hK : d.K (W.alloc (.cells cs.toArray e)) x cs) :
    Kd.C d (W.alloc (.cells cs.toArray e)) (some ⟨W.heap.size, 0, none⟩) 1 [x] := by
  refine ⟨rfl, by omega, fun _ => ⟨_, rfl, fun j p hj => ?_⟩⟩
  match j, hj with
  | 0, hj =>
    obtain rfl : x = p := by simpa using hj
    refine ⟨cs, hs, hK, fun i u hi => ?_⟩
    rw [Nat.zero_mul, Nat.zero_add, add_plain, blk_cell (blk_new W _) i]
    simpa using hi
theorem lit2 {α : Type} (d : Kd α) (W : World) (e : Nat) (x y : α) (cs ds : List Value) (hs : cs.length = d.sz) (ht : ds.length = d.sz) (hK : d.K (W.alloc (.cells (cs ++ ds).toArray e)) x cs) (hL : d.K (W.alloc (.cells (cs ++ ds).toArray e)) y ds) :
    Kd.C d (W.alloc (.cells (cs ++ ds).toArray e)) (some ⟨W.heap.size, 0, none⟩) 2 [x, y] := by
  refine ⟨rfl, by omega, fun _ => ⟨_, rfl, fun j p hj => ?_⟩⟩
  match j, hj with
  | 0, hj =>
    obtain rfl : x = p := by simpa using hj
    refine ⟨cs, hs, hK, fun i u hi => ?_⟩
    rw [Nat.zero_mul, Nat.zero_add, add_plain, blk_cell (blk_new W _) i]
    have hlt := (List.getElem?_eq_some_iff.1 hi).1
    rw [← List.getElem?_toArray] at hi
    simp only [List.getElem?_toArray] at hi ⊢
    rw [List.getElem?_append_left hlt]
    exact hi
  | 1, hj =>
    obtain rfl : y = p := by simpa using hj
    refine ⟨ds, ht, hL, fun i u hi => ?_⟩
    rw [Nat.one_mul, add_plain, blk_cell (blk_new W _) _]
    simp only [List.getElem?_toArray]
    rw [← hs, List.getElem?_append_right (Nat.le_add_right _ _), Nat.add_sub_cancel_left]
    exact hi
theorem decW_small (n : Int) (h0 : 0 ≤ n) (h1 : n < 10) : decW n = strOfNums [48 + n] := by
  unfold decW
  rw [decF_pos n (by omega), digR_small _ (by omega), show ((n.toNat : Nat) : Int) = n by omega]
  rfl
/-- The act that awake prints. -/
def actW : S57 := ⟨⟨12, 7, ⟨#[]⟩, ⟨2, [⟨5, ⟨#[]⟩⟩, ⟨0, ⟨#[97]⟩⟩]⟩⟩, false, false, 0, []⟩
theorem actW_ok : ActOk (act66 actW) := ⟨by unfold I64 act66 actW; decide, by unfold I64 act66 actW; decide, by unfold I64 act66 actW; decide, by decide, by
  intro v hv
  have hv' : v = ⟨5, ⟨#[]⟩⟩ ∨ v = ⟨0, ⟨#[97]⟩⟩ := by simpa [act66, actW] using hv
  rcases hv' with rfl | rfl
  · exact ⟨by unfold I64; decide, by decide⟩
  · exact ⟨by unfold I64; decide, by decide⟩, by decide, by intro x hx; simp [act66, actW] at hx, by decide⟩
theorem rowsW : rowsOf 0 0 0 0 0 0 ⟨#[]⟩ ([actW].map act66) = [[⟨#[100, 101, 118, 105, 99, 101]⟩, ⟨#[48]⟩, ⟨#[48]⟩, ⟨#[48]⟩, ⟨#[48]⟩, ⟨#[48]⟩, ⟨#[48]⟩], [⟨#[112, 97, 114, 99, 101, 108]⟩, ⟨#[45]⟩], [⟨#[112, 117, 116]⟩, ⟨#[50]⟩, ⟨#[55]⟩, ⟨#[53]⟩, ⟨#[58, 54, 49]⟩]] := by
  have d0 : decW 0 = ⟨#[48]⟩ := by rw [decW_small 0 (by decide) (by decide)]; rfl
  have d2 : decW 2 = ⟨#[50]⟩ := by rw [decW_small 2 (by decide) (by decide)]; rfl
  have d7 : decW 7 = ⟨#[55]⟩ := by rw [decW_small 7 (by decide) (by decide)]; rfl
  have d5 : decW 5 = ⟨#[53]⟩ := by rw [decW_small 5 (by decide) (by decide)]; rfl
  have hl : lineA (act66 actW) = [wordF 12, decW 2, decW 7, decW 5, ⟨#[58]⟩ ++ hexF ⟨#[97]⟩] := rfl
  have hx : (⟨#[58]⟩ : ByteArray) ++ hexF ⟨#[97]⟩ = ⟨#[58, 54, 49]⟩ := by decide
  have hw : wordF 12 = ⟨#[112, 117, 116]⟩ := rfl
  have hp : hexF ⟨#[]⟩ = ⟨#[45]⟩ := rfl
  unfold rowsOf headF parcelF
  rw [List.map_cons, List.map_cons, hl, d0, d2, d7, d5, hx, hw, hp]
  rfl
/-- The text that awake wants. -/
def textW : ByteArray := ⟨#[100, 101, 118, 105, 99, 101, 32, 48, 32, 48, 32, 48, 32, 48, 32, 48, 32, 48, 10, 112, 97, 114, 99, 101, 108, 32, 45, 10, 112, 117, 116, 32, 50, 32, 55, 32, 53, 32, 58, 54, 49, 10]⟩
theorem printW : printF 0 0 0 0 0 0 ⟨#[]⟩ [act66 actW] = (textW, 0) := by
  have hp : [act66 actW].all plainA = true := by
    rw [List.all_cons, show plainA (act66 actW) = true from plain_op 12 7 ⟨#[]⟩ 2 [⟨5, ⟨#[]⟩⟩, ⟨0, ⟨#[97]⟩⟩] (by decide) (by decide) rfl]
    rfl
  unfold printF
  rw [if_pos hp, show [act66 actW] = [actW].map act66 from rfl, rowsW]
  decide
theorem parse_none (w : World) : Calls Tryd.prog 33 #[.string ⟨#[]⟩] w fun e w' => (∃ A c, e = .returned (.tuple #[.agg #[.int .i64 0, .int .i64 0, .int .i64 0, .int .i64 0, .int .i64 0, .int .i64 0, .string ⟨#[]⟩, .slice A 0 c], .int .i64 1, .int .i64 4])) ∧ Below w.heap.size w w' := by
  refine (parse_calls ⟨#[]⟩ (by decide) w (scr0, 1, 4) ⟨rfl⟩).mono ?_
  rintro e w' ⟨⟨g0, g1, g2, g3, g4, g5, B, v, acts, n, er, rfl, hv, ho⟩, hB⟩
  simp only [scr0, Prod.mk.injEq, List.cons.injEq, and_true] at ho
  obtain ⟨⟨⟨rfl, rfl, rfl, rfl, rfl, rfl⟩, rfl, rfl⟩, rfl, rfl⟩ := ho
  obtain ⟨A, c, rfl⟩ := Kd.R_slice hv
  exact ⟨⟨A, c, rfl⟩, hB⟩
set_option maxHeartbeats 4000000 in
set_option maxRecDepth 100000 in
theorem awake40_calls (w : World) : Calls Tryd.prog 25 #[] w fun e w' => e = .returned (.bool true) ∧ Below w.heap.size w w' := by
  have HPr : Aside0 (∀ (W : World) (A : Option Addr), Kd.C k66 W A 1 [act66 actW] → Calls Tryd.prog 26 #[.agg #[.int .i64 0, .int .i64 0, .int .i64 0, .int .i64 0, .int .i64 0, .int .i64 0, .string ⟨#[]⟩, .slice A 1 1]] W fun e w' => e = .returned (.tuple #[.string ⟨#[100, 101, 118, 105, 99, 101, 32, 48, 32, 48, 32, 48, 32, 48, 32, 48, 32, 48, 10, 112, 97, 114, 99, 101, 108, 32, 45, 10, 112, 117, 116, 32, 50, 32, 55, 32, 53, 32, 58, 54, 49, 10]⟩, .int .i64 0]) ∧ Below W.heap.size W w') := ⟨fun W A hC => by
    have h := print_calls 0 0 0 0 0 0 ⟨#[]⟩ [act66 actW] A 1 W hC ⟨by unfold I64; decide, by unfold I64; decide, by unfold I64; decide, by unfold I64; decide, by unfold I64; decide, by unfold I64; decide⟩ (by decide) (fun a ha => by
      obtain rfl : a = act66 actW := by simpa using ha
      exact actW_ok) (by decide) (by
        rw [show [act66 actW] = [actW].map act66 from rfl, rowsW]
        decide) (by
        rw [show [act66 actW] = [actW].map act66 from rfl, rowsW]
        decide)
    rw [printW] at h
    exact h⟩
  have HN : Aside0 (∀ W, Calls Tryd.prog 33 #[.string ⟨#[]⟩] W fun e w' => (∃ A c, e = .returned (.tuple #[.agg #[.int .i64 0, .int .i64 0, .int .i64 0, .int .i64 0, .int .i64 0, .int .i64 0, .string ⟨#[]⟩, .slice A 0 c], .int .i64 1, .int .i64 4])) ∧ Below W.heap.size W w') := ⟨fun W => parse_none W⟩
  have HV := lit2 k107 w 107 ⟨5, ⟨#[]⟩⟩ ⟨0, ⟨#[97]⟩⟩ [.int .i64 5, .string ⟨#[]⟩] [.int .i64 0, .string ⟨#[97]⟩] rfl rfl (k107_mk _ _) (k107_mk _ _)
  have HC0 := lit1 k66 ((w.alloc (.cells #[.int .i64 5, .string ⟨#[]⟩, .int .i64 0, .string ⟨#[97]⟩] 107)).alloc (.cells #[.int .i64 12, .int .i64 7, .string ⟨#[]⟩, .int .i64 2, .slice (some ⟨w.heap.size, 0, none⟩) 2 2, .bool false, .bool false, .int .i64 0, .slice none 0 0] 66)) 66 (act66 actW) [.int .i64 12, .int .i64 7, .string ⟨#[]⟩, .int .i64 2, .slice (some ⟨w.heap.size, 0, none⟩) 2 2, .bool false, .bool false, .int .i64 0, .slice none 0 0] rfl
    (k66_mk _ (act66 actW) (by decide) (Kd.C_below HV (below_alloc (below_alloc (Below.refl _ _) _) _)) (by decide) (Kd.C_nil _ _))
  rw [World.size_alloc, World.size_alloc] at HC0
  have HP1 := Aside0.mk (HPr.out (((w.alloc (.cells #[.int .i64 5, .string ⟨#[]⟩, .int .i64 0, .string ⟨#[97]⟩] 107)).alloc (.cells #[.int .i64 12, .int .i64 7, .string ⟨#[]⟩, .int .i64 2, .slice (some ⟨w.heap.size, 0, none⟩) 2 2, .bool false, .bool false, .int .i64 0, .slice none 0 0] 66)).alloc (.cells #[.int .i64 12, .int .i64 7, .string ⟨#[]⟩, .int .i64 2, .slice (some ⟨w.heap.size, 0, none⟩) 2 2, .bool false, .bool false, .int .i64 0, .slice none 0 0] 66)) (some ⟨w.heap.size + 1 + 1, 0, none⟩) HC0)
  clear HC0 HPr
  have HB := Aside0.mk (below_alloc (below_alloc (below_alloc (Below.refl w.heap.size w) (.cells #[.int .i64 5, .string ⟨#[]⟩, .int .i64 0, .string ⟨#[97]⟩] 107)) (.cells #[.int .i64 12, .int .i64 7, .string ⟨#[]⟩, .int .i64 2, .slice (some ⟨w.heap.size, 0, none⟩) 2 2, .bool false, .bool false, .int .i64 0, .slice none 0 0] 66)) (.cells #[.int .i64 12, .int .i64 7, .string ⟨#[]⟩, .int .i64 2, .slice (some ⟨w.heap.size, 0, none⟩) 2 2, .bool false, .bool false, .int .i64 0, .slice none 0 0] 66))
  clear HV
  go_enter Tryd.func25, Tryd.ntmps25
  go_wp2_with (first
    | (go_at_call 26; (with_reducible refine HP1.out.mono ?_); rintro e w1 ⟨rfl, hB⟩; have S1 := Aside0.mk (HB.out.trans (hB.mono HB.out.size)); clear hB)
    | (go_at_call 33; (with_reducible refine (HN.out _).mono ?_); rintro e w2 ⟨⟨A9, c9, rfl⟩, hB⟩; have S2 := Aside0.mk (below_alloc (S1.out.trans (hB.mono S1.out.size)) (.cells #[.int .i64 0, .int .i64 0, .int .i64 0, .int .i64 0, .int .i64 0, .int .i64 0, .string ⟨#[]⟩, .slice A9 0 c9] 62)); clear hB))
  go_ret
  exact ⟨rfl, S2.out⟩
end Go.Proofs.YtiddiboclfpklaaDoor.Tz
namespace Go.Proofs.YtiddiboclfpklaaDoor.Tz
open Go.RowKit Go.Proofs.YtiddiboclfpklaaDoorW.PrintWords Go.Proofs.YtiddiboclfpklaaDoor.PScriptReads Go.Proofs.YtiddiboclfpklaaDoor.Tx
set_option linter.unusedVariables false
/-- It says something. -/
def Says (e : Ending) : Prop := ∃ b, e = .returned (.bool b)
set_option maxHeartbeats 4000000 in
set_option maxRecDepth 100000 in
theorem great_calls (g0 g1 g2 g3 g4 g5 : Int) (B : ByteArray) (ls : List S57) (A : Option Addr) (c : Nat) (w : World) (hr : Kd.C k57 w A ls.length ls) :
    Calls Tryd.prog 24 #[.agg #[.int .i64 g0, .int .i64 g1, .int .i64 g2, .int .i64 g3, .int .i64 g4, .int .i64 g5, .string B, .slice A ls.length c]] w fun e w' => Says e ∧ Below w.heap.size w w' := by
  have HR := Aside0.mk (Kd.C_below hr (below_alloc (Below.refl w.heap.size w) (.cells #[.int .i64 g0, .int .i64 g1, .int .i64 g2, .int .i64 g3, .int .i64 g4, .int .i64 g5, .string B, .slice A ls.length c] 49)))
  have HB := Aside0.mk (below_alloc (Below.refl w.heap.size w) (.cells #[.int .i64 g0, .int .i64 g1, .int .i64 g2, .int .i64 g3, .int .i64 g4, .int .i64 g5, .string B, .slice A ls.length c] 49))
  clear hr
  obtain ⟨n, hn⟩ : ∃ n, ls.length = n := ⟨_, rfl⟩
  rw [hn] at HR HB ⊢
  have HN := Aside0.mk hn
  clear hn
  have hn63 : n ≤ 9223372036854775807 := Kd.C_max HR.out
  go_enter Tryd.func24, Tryd.ntmps24
  go_wp2_with fail
  go_loopw [3] (fun i wr => ∃ t : Nat, t ≤ n ∧ i = .int .i64 (t : Int) ∧ wr = w.alloc (.cells #[.int .i64 g0, .int .i64 g1, .int .i64 g2, .int .i64 g3, .int .i64 g4, .int .i64 g5, .string B, .slice A n c] 49)) (fun i _ => n - (intOf i).toNat)
  case atStart => exact ⟨0, by omega, rfl, rfl⟩
  case round =>
    obtain ⟨t, ht, rfl, rfl⟩ := hrel
    by_cases hlt : t < n
    · have hb5 : (0 : Int) ≤ (t : Int) := by omega
      have hb6 : (t : Int) < (n : Int) := by omega
      by_cases h81 : t < 81
      · have hb7 : (t : Int) < 81 := by omega
        obtain ⟨ad, A4, c4, A8, c8, rfl, hc0, hc1, hc2, hc3, hc4, hc5, hc6, hc7, hc8, l4, r4, l8, r8⟩ := at_T57 HR.out (t : Int) hb5 hb6
        rw [Int.toNat_natCast] at hc0 hc1 hc2 hc3 hc4 hc5 hc6 hc7 hc8
        obtain ⟨x, hx⟩ : ∃ x, rd_T57 ls (t : Int) = x := ⟨_, rfl⟩
        rw [hx] at hc0 hc1 hc2 hc3 hc4 hc5 hc6 hc7 hc8
        clear l4 r4 l8 r8 hx hc0 hc1 hc3 hc5 hc6 hc7
        obtain ⟨vn, hvn⟩ : ∃ vn, x.f0.f3.f1.length = vn := ⟨_, rfl⟩
        obtain ⟨mn, hmn⟩ : ∃ mn, x.f4.length = mn := ⟨_, rfl⟩
        rw [hvn] at hc4
        rw [hmn] at hc8
        obtain ⟨d, hd⟩ : ∃ d, x.f0.f2 = d := ⟨_, rfl⟩
        rw [hd] at hc2
        clear hvn hmn hd
        by_cases h1 : (1000 : Int) < d.size
        · have e1 : decide ((1000 : Int) < d.size) = true := decide_eq_true h1
          go_wp2_with fail
          go_ret
          exact ⟨⟨_, rfl⟩, HB.out⟩
        · have e1 : decide ((1000 : Int) < d.size) = false := decide_eq_false h1
          by_cases h2 : (40 : Int) < vn
          · have e2 : decide ((40 : Int) < vn) = true := decide_eq_true h2
            go_wp2_with fail
            go_ret
            exact ⟨⟨_, rfl⟩, HB.out⟩
          · have e2 : decide ((40 : Int) < vn) = false := decide_eq_false h2
            by_cases h3 : (100 : Int) < mn
            · have e3 : decide ((100 : Int) < mn) = true := decide_eq_true h3
              go_wp2_with fail
              go_ret
              exact ⟨⟨_, rfl⟩, HB.out⟩
            · have e3 : decide ((100 : Int) < mn) = false := decide_eq_false h3
              go_wp2_with fail
              refine ⟨⟨t + 1, by omega, by go_num, trivial⟩, ?_⟩
              simp only [intOf]; omega
      · have hb7 : ¬ (t : Int) < 81 := by omega
        have hb8 : (80 : Int) < n := by omega
        have e8 : decide ((80 : Int) < n) = true := decide_eq_true hb8
        go_wp2_with fail
        go_ret
        exact ⟨⟨_, rfl⟩, HB.out⟩
    · obtain rfl : t = n := by omega
      by_cases h8 : (80 : Int) < t
      · have e8 : decide ((80 : Int) < t) = true := decide_eq_true h8
        go_wp2_with fail
        go_ret
        exact ⟨⟨_, rfl⟩, HB.out⟩
      · have e8 : decide ((80 : Int) < t) = false := decide_eq_false h8
        go_wp2_with fail
        go_ret
        exact ⟨⟨_, rfl⟩, HB.out⟩
end Go.Proofs.YtiddiboclfpklaaDoor.Tz
