/- What the laws' own marks of texts answer, and that lists of texts equal themselves. Conditions: lists of bounded length. -/
import Derived.Test.YtmfmmcmccapocaaFnExactCurrenciesOfLd
namespace Go.Proofs.Ytmfmmcmccapocaa.L
set_option linter.unusedVariables false
set_option linter.unusedSimpArgs false
open Go.RowKit Go.Proofs.Ytmfmmcmccapocaa.P Go.Proofs.YtmfmmcmccapocaaW.PrintWords Go.Proofs.YtmfmmcmccapocaaW.PrintLast Go.Proofs.YtmfmmcmccapocaaW.PrintMore

theorem strOfNums_one (x : Int) : (strOfNums [x]).size = 1 := by
  simp [strOfNums, ByteArray.size]
theorem laws_markText_l0 : ∀ (n : Nat) (x : Int) (s : ByteArray), x ≤ n → x ≤ 100000000 → s.size + n ≤ 1000000000 → ∃ r, Ev (fun k => laws_markText.l0 k x s) r := by
  intro n
  induction n with
  | zero =>
    intro x s h0 h1 h2
    refine ⟨(⟨#[109]⟩ : ByteArray) ++ s, Ev.step (f := fun _ => some ((⟨#[109]⟩ : ByteArray) ++ s)) (fun k => ?_) (Ev.pure rfl)⟩
    simp only [laws_markText.l0]; rw [if_neg (by omega), if_pos (by omega)]
  | succ n ih =>
    intro x s h0 h1 h2
    by_cases h : x > 0
    · have hd : Int.tdiv x 10 = x / 10 := tdiv_pos (by omega)
      obtain ⟨r, hr⟩ := ih (Int.tdiv x 10) ((strOfNums [(wrap64 (48 + (Int.tmod x 10))) % 256]) ++ s) (by rw [hd]; omega) (by rw [hd]; omega) (by rw [ByteArray.size_append, strOfNums_one]; omega)
      refine ⟨r, Ev.step (fun k => ?_) hr⟩
      simp only [laws_markText.l0, Option.bind_some]
      rw [if_pos h, strOfNums_one, if_pos (by omega), w64 (x := Int.tdiv x 10) (by rw [hd]; omega) (by rw [hd]; omega)]
    · refine ⟨(⟨#[109]⟩ : ByteArray) ++ s, Ev.step (f := fun _ => some ((⟨#[109]⟩ : ByteArray) ++ s)) (fun k => ?_) (Ev.pure rfl)⟩
      simp only [laws_markText.l0]; rw [if_neg h, if_pos (by omega)]
theorem laws_markText (x : Int) (h : x ≤ 100000000) : ∃ r, Ev (fun k => laws_markText.f k x) r := by
  unfold laws_markText.f
  by_cases h0 : x ≤ 0
  · exact ⟨_, by simp only [h0, if_true]; exact Ev.pure rfl⟩
  · obtain ⟨r, hr⟩ := laws_markText_l0 x.toNat x ⟨#[]⟩ (by omega) h (by simp only [ByteArray.size]; simp; omega)
    exact ⟨r, by simp only [h0, if_false]; exact hr⟩
theorem laws_eqStringS_l0 (a : List ByteArray) (hl : a.length ≤ 1048576) : ∀ (j : Nat) (i : Int), 0 ≤ i → i + j = a.length → Ev (fun k => laws_eqStringS.l0 k a a i) true := by
  intro j
  induction j with
  | zero =>
    intro i h0 h1
    refine Ev.step (f := fun _ => some true) (fun k => ?_) (Ev.pure rfl)
    simp only [laws_eqStringS.l0]; rw [if_neg (by omega)]
  | succ j ih =>
    intro i h0 h1
    refine Ev.step (fun k => ?_) (ih (i + 1) (by omega) (by omega))
    simp only [laws_eqStringS.l0, if_true]
    rw [if_pos (by omega), if_pos h0, if_pos (by omega), w64 (by omega) (by omega)]
theorem laws_eqStringS (a : List ByteArray) (hl : a.length ≤ 1048576) : Ev (fun k => laws_eqStringS.f k a a) true := by
  unfold laws_eqStringS.f
  simp only [if_true]
  exact laws_eqStringS_l0 a hl a.length 0 (by omega) (by omega)
theorem getD_set (x : List ByteArray) (i j : Nat) (t : ByteArray) (h : i < x.length) : (x.set i t).getD j ByteArray.empty = if j = i then t else x.getD j ByteArray.empty := by
  rw [List.getD_eq_getElem?_getD, List.getD_eq_getElem?_getD, List.getElem?_set]
  by_cases e : i = j
  · subst e; rw [if_pos rfl, if_pos h, if_pos rfl]; rfl
  · rw [if_neg e, if_neg (fun q => e q.symm)]
theorem laws_markStringS_l0 : ∀ (j : Nat) (x : List ByteArray) (m i : Int), x.length ≤ 1048576 → 0 ≤ i → i + j = x.length → 0 ≤ m → m + j ≤ 100000000 →
    ∃ x', Ev (fun k => laws_markStringS.l0 k x m i) (m + j, x') ∧ x'.length = x.length ∧ (∀ q : Nat, (q : Int) < i → x'.getD q ByteArray.empty = x.getD q ByteArray.empty) ∧
      (∀ q : Nat, i ≤ (q : Int) → q < x.length → Ev (fun k => laws_markText.f k (m + ((q : Int) - i))) (x'.getD q ByteArray.empty)) := by
  intro j
  induction j with
  | zero =>
    intro x m i hl h0 h1 h2 h3
    refine ⟨x, Ev.step (f := fun _ => some (m, x)) (fun k => ?_) (Ev.pure (by simp)), rfl, fun _ _ => rfl, fun q h4 h5 => by omega⟩
    simp only [laws_markStringS.l0]; rw [if_neg (by omega)]
  | succ j ih =>
    intro x m i hl h0 h1 h2 h3
    obtain ⟨t, ht⟩ := laws_markText m (by omega)
    obtain ⟨x', e1, e2, e3, e4⟩ := ih (x.set i.toNat t) (m + 1) (i + 1) (by rw [List.length_set]; exact hl) (by omega) (by rw [List.length_set]; omega) (by omega) (by omega)
    rw [List.length_set] at e2 e4
    refine ⟨x', Ev.step (fun k => ?_) (Ev.bind ht (f := fun k u => laws_markStringS.l0 k (x.set i.toNat u) (m + 1) (i + 1)) (by rw [show m + ((j + 1 : Nat) : Int) = m + 1 + (j : Int) by omega]; exact e1)), e2, fun q hq => ?_, fun q h4 h5 => ?_⟩
    · simp only [laws_markStringS.l0]
      rw [if_pos (by omega)]
      simp only [h0, if_true]
      rw [w64 (x := m + 1) (by omega) (by omega), w64 (x := i + 1) (by omega) (by omega)]
    · rw [e3 q (by omega), getD_set _ _ _ _ (by omega), if_neg (by omega)]
    · by_cases c : (q : Int) = i
      · rw [e3 q (by omega), getD_set _ _ _ _ (by omega), if_pos (by omega), show m + ((q : Int) - i) = m by omega]
        exact ht
      · have := e4 q (by omega) h5
        rw [show m + 1 + ((q : Int) - (i + 1)) = m + ((q : Int) - i) by omega] at this
        exact this
theorem laws_heldStringS_l0 (x : List ByteArray) (hl : x.length ≤ 1048576) : ∀ (j : Nat) (m i : Int), 0 ≤ i → i + j = x.length → 0 ≤ m → m + j ≤ 100000000 →
    (∀ q : Nat, i ≤ (q : Int) → q < x.length → Ev (fun k => laws_markText.f k (m + ((q : Int) - i))) (x.getD q ByteArray.empty)) → Ev (fun k => laws_heldStringS.l0 k x m i) (m + j) := by
  intro j
  induction j with
  | zero =>
    intro m i h0 h1 h2 h3 h4
    refine Ev.step (f := fun _ => some m) (fun k => ?_) (Ev.pure (by simp))
    simp only [laws_heldStringS.l0]; rw [if_neg (by omega)]
  | succ j ih =>
    intro m i h0 h1 h2 h3 h4
    have ht := h4 i.toNat (by omega) (by omega)
    rw [show m + (((i.toNat : Nat) : Int) - i) = m by omega] at ht
    have e := ih (m + 1) (i + 1) (by omega) (by omega) (by omega) (by omega) fun q h5 h6 => by
      have := h4 q (by omega) h6
      rw [show m + ((q : Int) - i) = m + 1 + ((q : Int) - (i + 1)) by omega] at this
      exact this
    refine Ev.step (fun k => ?_) (Ev.bind ht (f := fun k u => if (rdOf ByteArray.empty x i).toList = u.toList then laws_heldStringS.l0 k x (m + 1) (i + 1) else some (-1)) ?_)
    · simp only [laws_heldStringS.l0]
      rw [if_pos (by omega), if_pos h0, w64 (x := m + 1) (by omega) (by omega), w64 (x := i + 1) (by omega) (by omega)]
    · simp only [rdOf, if_true]
      rw [show m + ((j + 1 : Nat) : Int) = m + 1 + (j : Int) by omega]; exact e
theorem marks_both (x : List ByteArray) (hl : x.length ≤ 1048576) : ∃ x', x'.length = x.length ∧ Ev (fun k => laws_markStringS.f k x 1) (1 + (x.length : Int), x') ∧ Ev (fun k => laws_heldStringS.f k x' 1) (1 + (x.length : Int)) := by
  obtain ⟨x', e1, e2, _, e4⟩ := laws_markStringS_l0 x.length x 1 0 hl (by omega) (by omega) (by omega) (by omega)
  refine ⟨x', e2, e1, ?_⟩
  have := laws_heldStringS_l0 x' (by omega) x'.length 1 0 (by omega) (by omega) (by omega) (by omega) (fun q h h' => e4 q h (by omega))
  rw [e2] at this
  exact this
end Go.Proofs.Ytmfmmcmccapocaa.L

