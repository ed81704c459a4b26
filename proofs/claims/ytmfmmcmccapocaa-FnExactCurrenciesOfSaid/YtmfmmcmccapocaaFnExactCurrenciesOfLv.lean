/- What the functions of chapter 3 answer that look for a rate. Conditions: texts and lists of bounded size. -/
import Derived.Test.YtmfmmcmccapocaaFnExactCurrenciesOfLu
namespace Go.Proofs.Ytmfmmcmccapocaa.L
set_option linter.unusedVariables false
set_option linter.unusedSimpArgs false
open Go.RowKit Go.Proofs.Ytmfmmcmccapocaa.P Go.Proofs.YtmfmmcmccapocaaW.PrintWords Go.Proofs.YtmfmmcmccapocaaW.PrintLast Go.Proofs.YtmfmmcmccapocaaW.PrintMore

/-- The last rate of a currency up to a day. -/
def rateL (c : ByteArray) (d : Int) : S53 × Bool → List S53 → S53 × Bool
  | o, [] => o
  | o, x :: l => rateL c d (if x.f0.toList = c.toList then (if x.f1 ≤ d then (x, true) else o) else o) l
theorem rateL_two (c : ByteArray) (d : Int) : ∀ (l : List S53) (o o' : S53 × Bool),
    (rateL c d o l = o ∧ rateL c d o' l = o') ∨ (∃ x ∈ l, x.f0.toList = c.toList ∧ rateL c d o l = (x, true) ∧ rateL c d o' l = (x, true))
  | [], _, _ => .inl ⟨rfl, rfl⟩
  | x :: l, o, o' => by
    simp only [rateL]
    by_cases h : x.f0.toList = c.toList
    · by_cases h2 : x.f1 ≤ d
      · simp only [h, h2, if_true]
        rcases rateL_two c d l (x, true) (x, true) with ⟨e, _⟩ | ⟨y, hy, hc, e, _⟩
        · exact .inr ⟨x, List.mem_cons_self, h, e, e⟩
        · exact .inr ⟨y, List.mem_cons_of_mem _ hy, hc, e, e⟩
      · simp only [h, h2, if_true, if_false]
        rcases rateL_two c d l o o' with e | ⟨y, hy, hc, e⟩
        · exact .inl e
        · exact .inr ⟨y, List.mem_cons_of_mem _ hy, hc, e⟩
    · simp only [h, if_false]
      rcases rateL_two c d l o o' with e | ⟨y, hy, hc, e⟩
      · exact .inl e
      · exact .inr ⟨y, List.mem_cons_of_mem _ hy, hc, e⟩
theorem impl_rateOn_l0 (l : List S53) (hl : l.length ≤ 1048576) (c : ByteArray) (d : Int) : ∀ (j : Nat) (i : Int) (o : S53 × Bool), 0 ≤ i → i + j = l.length →
    Ev (fun k => impl_rateOn.l0 k c d o.2 l (l.length : Int) i o.1.f0 o.1.f1 o.1.f2 o.1.f3) ((rateL c d o (l.drop i.toNat)).1.f0, (rateL c d o (l.drop i.toNat)).1.f1, (rateL c d o (l.drop i.toNat)).1.f2, (rateL c d o (l.drop i.toNat)).1.f3, (rateL c d o (l.drop i.toNat)).2) := by
  intro j
  induction j with
  | zero =>
    intro i o h0 h1
    refine Ev.step (f := fun _ => some (o.1.f0, o.1.f1, o.1.f2, o.1.f3, o.2)) (fun k => ?_) (Ev.pure ?_)
    · simp only [impl_rateOn.l0]; rw [if_neg (by omega)]
    · rw [drop_end l (by omega)]; rfl
  | succ j ih =>
    intro i o h0 h1
    have hd : l.drop i.toNat = rd_T53 l i :: l.drop (i + 1).toNat := drop_stepD l z53 h0 (by omega)
    rw [hd]; simp only [rateL]
    by_cases hc : (rd_T53 l i).f0.toList = c.toList
    · by_cases hc2 : (rd_T53 l i).f1 ≤ d
      · simp only [hc, hc2, if_true]
        refine Ev.step (fun k => ?_) (ih (i + 1) (rd_T53 l i, true) (by omega) (by omega))
        simp only [impl_rateOn.l0]; rw [if_pos (by omega), if_pos h0, if_pos (by omega), if_pos hc, if_pos hc2, w64 (by omega) (by omega)]
      · simp only [hc, hc2, if_true, if_false]
        refine Ev.step (fun k => ?_) (ih (i + 1) o (by omega) (by omega))
        simp only [impl_rateOn.l0]; rw [if_pos (by omega), if_pos h0, if_pos (by omega), if_pos hc, if_neg hc2, w64 (by omega) (by omega)]
    · simp only [hc, if_false]
      refine Ev.step (fun k => ?_) (ih (i + 1) o (by omega) (by omega))
      simp only [impl_rateOn.l0]; rw [if_pos (by omega), if_pos h0, if_pos (by omega), if_neg hc, w64 (by omega) (by omega)]
theorem spec_l03Rate_l0 (l : List S53) (hl : l.length ≤ 1048576) (c : ByteArray) (d : Int) : ∀ (j : Nat) (i : Int) (o : S53 × Bool), 0 ≤ i → i + j = l.length →
    Ev (fun k => spec_l03Rate.l0 k l c d o.1.f2 o.1.f3 i) ((rateL c d o (l.drop i.toNat)).1.f2, (rateL c d o (l.drop i.toNat)).1.f3, decide ((rateL c d o (l.drop i.toNat)).1.f3 > 0)) := by
  intro j
  induction j with
  | zero =>
    intro i o h0 h1
    refine Ev.step (f := fun _ => some (o.1.f2, o.1.f3, decide (o.1.f3 > 0))) (fun k => ?_) (Ev.pure ?_)
    · simp only [spec_l03Rate.l0]; rw [if_neg (by omega)]
    · rw [drop_end l (by omega)]; rfl
  | succ j ih =>
    intro i o h0 h1
    have hd : l.drop i.toNat = rd_T53 l i :: l.drop (i + 1).toNat := drop_stepD l z53 h0 (by omega)
    rw [hd]; simp only [rateL]
    by_cases hc : (rd_T53 l i).f0.toList = c.toList
    · by_cases hc2 : (rd_T53 l i).f1 ≤ d
      · simp only [hc, hc2, if_true]
        refine Ev.step (fun k => ?_) (ih (i + 1) (rd_T53 l i, true) (by omega) (by omega))
        simp only [spec_l03Rate.l0]; rw [if_pos (by omega), if_pos h0, if_pos hc, if_pos hc2, w64 (by omega) (by omega)]
      · simp only [hc, hc2, if_true, if_false]
        refine Ev.step (fun k => ?_) (ih (i + 1) o (by omega) (by omega))
        simp only [spec_l03Rate.l0]; rw [if_pos (by omega), if_pos h0, if_pos hc, if_neg hc2, w64 (by omega) (by omega)]
    · simp only [hc, if_false]
      refine Ev.step (fun k => ?_) (ih (i + 1) o (by omega) (by omega))
      simp only [spec_l03Rate.l0]; rw [if_pos (by omega), if_pos h0, if_neg hc, w64 (by omega) (by omega)]
theorem tableB_rate {l : List S53} (h : tableB l = true) : ∀ x ∈ l, rateB x = true := by
  unfold tableB at h
  rw [Bool.and_eq_true, Bool.and_eq_true] at h
  exact List.all_eq_true.1 h.1.1
theorem tableB_len {l : List S53} (h : tableB l = true) : l.length ≤ 20 := by
  unfold tableB at h
  rw [Bool.and_eq_true] at h
  have := of_decide_eq_true h.2
  omega
theorem rateB_facts {x : S53} (h : rateB x = true) : x.f0.toList ≠ ([88, 68, 82] : List UInt8) ∧ (1 ≤ x.f2 ∧ x.f2 ≤ 1000000) ∧ 1 ≤ x.f3 ∧ x.f3 ≤ 1000000 := by
  unfold rateB at h
  rw [Bool.and_eq_true, Bool.and_eq_true, Bool.and_eq_true, Bool.and_eq_true] at h
  obtain ⟨_, h1, _, h2, h3⟩ := h
  exact ⟨by simpa using h1, of_decide_eq_true h2, of_decide_eq_true h3⟩
/-- Both find the same rate. -/
theorem rates_both {l : List S53} (h : tableB l = true) (c : ByteArray) (d : Int) : ∃ a0 a1 n e b m g, Ev (fun k => impl_rateOn.f k l c d) (a0, a1, n, e, b) ∧ Ev (fun k => spec_l03Rate.f k l c d) (m, g, b) ∧
    (b = true → m = n ∧ g = e ∧ (1 ≤ n ∧ n ≤ 1000000) ∧ 1 ≤ e ∧ e ≤ 1000000) := by
  have hl := tableB_len h
  have hi := impl_rateOn_l0 l (by omega) c d l.length 0 (⟨⟨#[]⟩, 0, 1, 1⟩, c.toList == ([88, 68, 82] : List UInt8)) (by omega) (by omega)
  have hs := spec_l03Rate_l0 l (by omega) c d l.length 0 (⟨⟨#[]⟩, 0, 0, 0⟩, false) (by omega) (by omega)
  rw [show l.drop (0 : Int).toNat = l from rfl] at hi hs
  unfold impl_rateOn.f spec_l03Rate.f
  by_cases hc : c.toList = ([88, 68, 82] : List UInt8)
  · simp only [hc, if_true, BEq.rfl]
    rw [hc, BEq.rfl] at hi
    rcases rateL_two c d l (⟨⟨#[]⟩, 0, 1, 1⟩, true) (⟨⟨#[]⟩, 0, 1, 1⟩, true) with ⟨e, _⟩ | ⟨x, hx, e, _⟩
    · rw [e] at hi
      exact ⟨_, _, _, _, _, 1, 1, hi, Ev.pure rfl, fun _ => ⟨rfl, rfl, by decide, by decide⟩⟩
    · exact absurd (e.trans hc) (rateB_facts (tableB_rate h x hx)).1
  · have hb : (c.toList == ([88, 68, 82] : List UInt8)) = false := beq_eq_false_iff_ne.2 hc
    simp only [hc, if_false, hb]
    rw [hb] at hi
    rcases rateL_two c d l (⟨⟨#[]⟩, 0, 1, 1⟩, false) (⟨⟨#[]⟩, 0, 0, 0⟩, false) with ⟨e, e'⟩ | ⟨x, hx, _, e, e'⟩
    · rw [e] at hi; rw [e'] at hs
      exact ⟨_, _, _, _, _, _, _, hi, hs, fun q => by cases q⟩
    · rw [e] at hi; rw [e'] at hs
      have f := rateB_facts (tableB_rate h x hx)
      have hx3 : decide (x.f3 > 0) = true := decide_eq_true (by omega)
      simp only [hx3] at hs
      exact ⟨_, _, _, _, _, _, _, hi, hs, fun _ => ⟨rfl, rfl, f.2⟩⟩
def markRow1 (x : List S53) (t : ByteArray) (i : Int) : List S53 := x.set i.toNat ⟨t, (rd_T53 x i).f1, (rd_T53 x i).f2, (rd_T53 x i).f3⟩
def markRow2 (x : List S53) (t : ByteArray) (m i : Int) : List S53 := (markRow1 x t i).set i.toNat ⟨(rd_T53 (markRow1 x t i) i).f0, m + 1, (rd_T53 (markRow1 x t i) i).f2, (rd_T53 (markRow1 x t i) i).f3⟩
def markRow3 (x : List S53) (t : ByteArray) (m i : Int) : List S53 := (markRow2 x t m i).set i.toNat ⟨(rd_T53 (markRow2 x t m i) i).f0, (rd_T53 (markRow2 x t m i) i).f1, m + 1 + 1, (rd_T53 (markRow2 x t m i) i).f3⟩
def markRow4 (x : List S53) (t : ByteArray) (m i : Int) : List S53 := (markRow3 x t m i).set i.toNat ⟨(rd_T53 (markRow3 x t m i) i).f0, (rd_T53 (markRow3 x t m i) i).f1, (rd_T53 (markRow3 x t m i) i).f2, m + 1 + 1 + 1⟩
theorem markRow4_length (x : List S53) (t : ByteArray) (m i : Int) : (markRow4 x t m i).length = x.length := by simp only [markRow4, markRow3, markRow2, markRow1, List.length_set]
theorem laws_markRateS_l0 : ∀ (j : Nat) (x : List S53) (m i : Int), x.length ≤ 1048576 → 0 ≤ i → i + j = x.length → 0 ≤ m → m + 4 * j ≤ 100000000 → ∃ r : Int × List S53, Ev (fun k => laws_markRateS.l0 k x m i) r ∧ 0 ≤ r.1 := by
  intro j
  induction j with
  | zero =>
    intro x m i hl h0 h1 h2 h3
    refine ⟨(m, x), Ev.step (f := fun _ => some (m, x)) (fun k => ?_) (Ev.pure rfl), h2⟩
    simp only [laws_markRateS.l0]; rw [if_neg (by omega)]
  | succ j ih =>
    intro x m i hl h0 h1 h2 h3
    obtain ⟨t, ht⟩ := laws_markText m (by omega)
    obtain ⟨r, hr, hr0⟩ := ih (markRow4 x t m i) (m + 1 + 1 + 1 + 1) (i + 1) (by rw [markRow4_length]; exact hl) (by omega) (by rw [markRow4_length]; omega) (by omega) (by omega)
    refine ⟨r, Ev.step (fun k => ?_) (Ev.bind ht (f := fun k u => laws_markRateS.l0 k (markRow4 x u m i) (m + 1 + 1 + 1 + 1) (i + 1)) hr), hr0⟩
    simp only [laws_markRateS.l0, Option.bind_some]
    rw [if_pos (by omega)]
    simp only [h0, if_true]
    rw [w64 (x := m + 1) (by omega) (by omega), w64 (x := m + 1 + 1) (by omega) (by omega), w64 (x := m + 1 + 1 + 1) (by omega) (by omega), w64 (x := m + 1 + 1 + 1 + 1) (by omega) (by omega), w64 (x := i + 1) (by omega) (by omega)]
    rfl
theorem laws_markRateS (x : List S53) (hl : x.length ≤ 1048576) : ∃ r : Int × List S53, Ev (fun k => laws_markRateS.f k x 1) r ∧ 0 ≤ r.1 := by
  unfold laws_markRateS.f
  exact laws_markRateS_l0 x.length x 1 0 hl (by omega) (by omega) (by omega) (by omega)
end Go.Proofs.Ytmfmmcmccapocaa.L

