/- What the functions of chapter 1 over lists answer (sums, shares, fair shares, what is taken down), in the program and in the reference. Conditions: amounts, and no more elements than the laws let pass. -/
import Derived.Test.YtccnbjaaaaljoaaFnSharesLb
namespace Go.Proofs.Ytccnbjaaaaljoaa.L
set_option linter.unusedVariables false
set_option linter.unusedSimpArgs false
open Go.RowKit Go.Proofs.Ytccnbjaaaaljoaa.P Go.Proofs.YtccnbjaaaaljoaaW.PrintWords Go.Proofs.YtccnbjaaaaljoaaW.PrintLast Go.Proofs.YtccnbjaaaaljoaaW.PrintMore

theorem sum_nonneg {l : List Int} (h : ∀ x ∈ l, 0 ≤ x) : 0 ≤ l.sum := by
  induction l with
  | nil => simp
  | cons x xs ih => rw [List.sum_cons]; have := ih fun y hy => h y (List.mem_cons_of_mem _ hy); have := h x List.mem_cons_self; omega
theorem mn_comm (a b : Int) : mn a b = mn b a := by unfold mn; repeat' split <;> omega
theorem drop_mem {α : Type} {l : List α} {n : Nat} {x : α} (h : x ∈ l.drop n) : x ∈ l := List.mem_of_mem_drop h
theorem impl_sum_l0 (l : List Int) (hl : l.length ≤ 1048576) (hp : ∀ x ∈ l, 0 ≤ x) : ∀ (j : Nat) (i x : Int), 0 ≤ i → i + j = l.length → 0 ≤ x → x + (l.drop i.toNat).sum ≤ 4000000000000000000 →
    Ev (fun k => impl_sum.l0 k x l (l.length : Int) i) (x + (l.drop i.toNat).sum) := by
  intro j
  induction j with
  | zero =>
    intro i x h0 h1 h2 h3
    refine Ev.step (f := fun _ => some x) (fun k => ?_) (Ev.pure ?_)
    · simp only [impl_sum.l0]; rw [if_neg (by omega)]
    · rw [drop_end l (by omega)]; simp
  | succ j ih =>
    intro i x h0 h1 h2 h3
    have hr : 0 ≤ rd l i := hp _ (rd_mem l h0 (by omega))
    have hs := sum_nonneg (l := l.drop (i + 1).toNat) fun y hy => hp y (drop_mem hy)
    rw [drop_step l h0 (by omega), List.sum_cons] at h3 ⊢
    have h := ih (i + 1) (x + rd l i) (by omega) (by omega) (by omega) (by omega)
    refine Ev.step (fun k => ?_) (f := fun k => impl_sum.l0 k (x + rd l i) l (l.length : Int) (i + 1)) ?_
    · simp only [impl_sum.l0]
      rw [if_pos (by omega), if_pos h0, if_pos (by omega), w64 (by omega) (by omega), w64 (by omega) (by omega)]
    · rw [show x + (rd l i + (l.drop (i + 1).toNat).sum) = x + rd l i + (l.drop (i + 1).toNat).sum by omega]; exact h
theorem impl_sum (l : List Int) (hl : l.length ≤ 1048576) (hp : ∀ x ∈ l, 0 ≤ x) (hs : l.sum ≤ 4000000000000000000) : Ev (fun k => impl_sum.f k l) l.sum := by
  have h := impl_sum_l0 l hl hp l.length 0 0 (by omega) (by omega) (by omega) (by simpa using hs)
  unfold impl_sum.f
  simpa using h
theorem spec_l01Sum_l0 (l : List Int) (hl : l.length ≤ 1048576) (hp : ∀ x ∈ l, 0 ≤ x) : ∀ (j : Nat) (i x : Int), 0 ≤ i → i + j = l.length → 0 ≤ x → x + (l.drop i.toNat).sum ≤ 4000000000000000000 →
    Ev (fun k => spec_l01Sum.l0 k l x i) (x + (l.drop i.toNat).sum) := by
  intro j
  induction j with
  | zero =>
    intro i x h0 h1 h2 h3
    refine Ev.step (f := fun _ => some x) (fun k => ?_) (Ev.pure ?_)
    · simp only [spec_l01Sum.l0]; rw [if_neg (by omega)]
    · rw [drop_end l (by omega)]; simp
  | succ j ih =>
    intro i x h0 h1 h2 h3
    have hr : 0 ≤ rd l i := hp _ (rd_mem l h0 (by omega))
    have hs := sum_nonneg (l := l.drop (i + 1).toNat) fun y hy => hp y (drop_mem hy)
    rw [drop_step l h0 (by omega), List.sum_cons] at h3 ⊢
    have h := ih (i + 1) (x + rd l i) (by omega) (by omega) (by omega) (by omega)
    refine Ev.step (fun k => ?_) (f := fun k => spec_l01Sum.l0 k l (x + rd l i) (i + 1)) ?_
    · simp only [spec_l01Sum.l0]
      rw [if_pos (by omega), if_pos h0, w64 (by omega) (by omega), w64 (by omega) (by omega)]
    · rw [show x + (rd l i + (l.drop (i + 1).toNat).sum) = x + rd l i + (l.drop (i + 1).toNat).sum by omega]; exact h
theorem spec_l01Sum (l : List Int) (hl : l.length ≤ 1048576) (hp : ∀ x ∈ l, 0 ≤ x) (hs : l.sum ≤ 4000000000000000000) : Ev (fun k => spec_l01Sum.f k l) l.sum := by
  have h := spec_l01Sum_l0 l hl hp l.length 0 0 (by omega) (by omega) (by omega) (by simpa using hs)
  unfold spec_l01Sum.f
  simpa using h
theorem amounts_sum {l : List Int} (h : Amounts l) (hl : l.length ≤ 1048576) : 0 ≤ l.sum ∧ l.sum ≤ 1048576000000000 := by
  have := sum_bd h; omega
theorem amounts_pos {l : List Int} (h : Amounts l) : ∀ x ∈ l, 0 ≤ x := fun x hx => (h x hx).1
theorem spec_l01Amounts_l0 (l : List Int) (hl : l.length ≤ 1048576) : ∀ (j : Nat) (i : Int), 0 ≤ i → i + j = l.length →
    Ev (fun k => spec_l01Amounts.l0 k l i) (decide (Amounts (l.drop i.toNat))) := by
  intro j
  induction j with
  | zero =>
    intro i h0 h1
    refine Ev.step (f := fun _ => some true) (fun k => ?_) (Ev.pure ?_)
    · simp only [spec_l01Amounts.l0]; rw [if_neg (by omega)]
    · rw [drop_end l (by omega)]; simp [Amounts]
  | succ j ih =>
    intro i h0 h1
    have h := ih (i + 1) (by omega) (by omega)
    rw [drop_step l h0 (by omega)]
    by_cases ha : 0 ≤ rd l i ∧ rd l i ≤ 1000000000
    · refine Ev.step (fun k => ?_) (f := fun k => spec_l01Amounts.l0 k l (i + 1)) ?_
      · simp only [spec_l01Amounts.l0]
        rw [if_pos (by omega), if_pos h0, spec_IsAmount, Option.bind_some, if_pos (decide_eq_true ha), w64 (by omega) (by omega)]
      · rw [show decide (Amounts (rd l i :: l.drop (i + 1).toNat)) = decide (Amounts (l.drop (i + 1).toNat)) by rw [decide_eq_decide]; unfold Amounts; simp [ha]]
        exact h
    · refine Ev.step (f := fun _ => some false) (fun k => ?_) (Ev.pure ?_)
      · simp only [spec_l01Amounts.l0]
        rw [if_pos (by omega), if_pos h0, spec_IsAmount, Option.bind_some, if_neg (by simp [ha])]
      · rw [decide_eq_false]; intro q; exact ha (q _ List.mem_cons_self)
theorem spec_l01Amounts (l : List Int) (hl : l.length ≤ 1048576) : Ev (fun k => spec_l01Amounts.f k l) (decide (Amounts l)) := by
  have h := spec_l01Amounts_l0 l hl l.length 0 (by omega) (by omega)
  unfold spec_l01Amounts.f
  simpa using h
theorem impl_allAmounts (l : List Int) : impl_all_Int__impl_IsAmount.f l = some (decide (Amounts l)) := by
  unfold impl_all_Int__impl_IsAmount.f
  rw [X.allM_some (q := fun x => decide (0 ≤ x ∧ x ≤ 1000000000)) l (fun x _ => impl_IsAmount x)]
  congr 1
  rw [Bool.eq_iff_iff, decide_eq_true_iff]; simp [Amounts]
theorem impl_fewAmounts (l : List Int) : impl_fewAmounts.f l = some (decide (l.length ≤ 12 ∧ Amounts l)) := by
  unfold impl_fewAmounts.f
  simp only [impl_allAmounts, Option.bind_some]
  by_cases h : l.length ≤ 12
  · rw [if_pos (by omega)]; simp [h]
  · rw [if_neg (by omega)]; simp [h]
/-- The code of a total and weights. -/
def sharesV (t : Int) (l : List Int) : Int := if ¬ ((0 ≤ t ∧ t ≤ 1000000000) ∧ l.length ≤ 12 ∧ Amounts l) then 2 else if l.sum = 0 then 5 else 0
theorem impl_shares (t : Int) (l : List Int) : Ev (fun k => impl_shares.f k t l) (sharesV t l) := by
  unfold impl_shares.f sharesV
  simp only [impl_IsAmount, impl_fewAmounts, Option.bind_some]
  by_cases h1 : 0 ≤ t ∧ t ≤ 1000000000
  · by_cases h2 : l.length ≤ 12 ∧ Amounts l
    · have b := amounts_sum h2.2 (by omega)
      simp only [h1, h2, and_self, decide_true, if_true, Bool.not_true, not_true, if_false]
      refine Ev.step (fun k => ?_) (Ev.bind (g := fun k => impl_sum.f k l) (f := fun k t211 => if t211 = 0 then some 5 else some 0) (impl_sum l (by omega) (amounts_pos h2.2) (by omega)) (Ev.pure ?_))
      · simp only [impl_shares.j0, Bool.false_eq_true, if_false]
      · split <;> rfl
    · simp only [h1, h2, and_self, decide_true, if_true, decide_false, Bool.not_false, and_false, not_false_eq_true]
      exact Ev.step (f := fun _ => some 2) (fun k => by simp [impl_shares.j0]) (Ev.pure rfl)
  · simp only [h1, decide_false, Bool.false_eq_true, if_false, false_and, not_false_eq_true, if_true]
    exact Ev.step (f := fun _ => some 2) (fun k => by simp [impl_shares.j0]) (Ev.pure rfl)
theorem spec_l01Code (t : Int) (l : List Int) (hl : l.length ≤ 1048576) : Ev (fun k => spec_l01Code.f k t l) (sharesV t l) := by
  unfold spec_l01Code.f sharesV
  have two : Ev (fun k => spec_l01Code.j0 k l true) 2 := Ev.step (f := fun _ => some 2) (fun k => by simp [spec_l01Code.j0]) (Ev.pure rfl)
  simp only [spec_IsAmount, Option.bind_some]
  by_cases h1 : 0 ≤ t ∧ t ≤ 1000000000
  · simp only [h1, and_self, decide_true, if_true, true_and]
    refine Ev.bind (spec_l01Amounts l hl) ?_
    by_cases h2 : Amounts l
    · simp only [h2, decide_true, if_true, and_true]
      have b := amounts_sum h2 hl
      by_cases h3 : l.length ≤ 12
      · simp only [h3, not_true, if_false]
        refine Ev.step (fun k => ?_) (Ev.bind (g := fun k => spec_l01Sum.f k l) (f := fun k t211 => if t211 = 0 then some 5 else some 0) (spec_l01Sum l hl (amounts_pos h2) (by omega)) (Ev.pure ?_))
        · simp only [spec_l01Code.j0]; rw [if_neg (by simp; omega)]
        · split <;> rfl
      · simp only [h3, not_false_eq_true, if_true]
        rw [show decide ((l.length : Int) > 12) = true from decide_eq_true (by omega)]
        exact two
    · simp only [h2, decide_false, Bool.false_eq_true, if_false, and_false, not_false_eq_true, if_true]; exact two
  · simp only [h1, decide_false, Bool.false_eq_true, if_false, false_and, not_false_eq_true, if_true]; exact two
/-- A part is a fair one. -/
def Fair1 (t s w p : Int) : Prop := p = t * w / s ∨ (t * w % s ≠ 0 ∧ p = t * w / s + 1)
instance (t s w p : Int) : Decidable (Fair1 t s w p) := by unfold Fair1; infer_instance
def fairL (t s : Int) : List Int → List Int → Bool
  | w :: ws, p :: ps => decide (Fair1 t s w p) && fairL t s ws ps
  | _, _ => true
/-- What IsFairShare answers. -/
def fairV (t : Int) (w p : List Int) : Bool × Int :=
  if ¬ Amounts p then (false, 2) else if ¬ sharesV t w = 0 then (false, sharesV t w) else if ¬ (p.length = w.length ∧ p.sum = t) then (false, 0) else (fairL t w.sum w p, 0)
theorem share_bd {t w s : Int} (ht : 0 ≤ t ∧ t ≤ 1000000000) (hw : 0 ≤ w ∧ w ≤ 1000000000) (hs : 0 < s) : (0 ≤ t * w ∧ t * w ≤ 1000000000000000000) ∧ 0 ≤ t * w / s ∧ t * w / s ≤ 1000000000000000000 ∧ 0 ≤ t * w % s ∧ t * w % s < s := by
  have m := proportion_bd ht hw
  have q := quot_bd m.1 hs
  exact ⟨m, q.1, by omega, q.2.2.1, q.2.2.2⟩
theorem sharesV_zero {t : Int} {l : List Int} (h : sharesV t l = 0) : (0 ≤ t ∧ t ≤ 1000000000) ∧ l.length ≤ 12 ∧ Amounts l ∧ 0 < l.sum := by
  unfold sharesV at h
  split at h
  · cases h
  · rename_i h1
    split at h
    · cases h
    · rename_i h2
      have h1 := Decidable.not_not.1 h1
      have b := amounts_sum h1.2.2 (by omega)
      exact ⟨h1.1, h1.2.1, h1.2.2, by omega⟩
theorem impl_IsFairShare_l0 (t : Int) (w p : List Int) (ht : 0 ≤ t ∧ t ≤ 1000000000) (hw : Amounts w) (hl : w.length ≤ 12) (hp : p.length = w.length) (s : Int) (hs : 0 < s) : ∀ (j : Nat) (i : Int), 0 ≤ i → i + j = w.length →
    Ev (fun k => impl_IsFairShare.l0 k t p s w (w.length : Int) i) (fairL t s (w.drop i.toNat) (p.drop i.toNat), 0) := by
  intro j
  induction j with
  | zero =>
    intro i h0 h1
    refine Ev.step (f := fun _ => some (true, 0)) (fun k => ?_) (Ev.pure ?_)
    · simp only [impl_IsFairShare.l0]; rw [if_neg (by omega)]
    · rw [drop_end w (by omega)]; simp [fairL]
  | succ j ih =>
    intro i h0 h1
    have b := share_bd ht (hw _ (rd_mem w h0 (show i < (w.length : Int) by omega))) hs
    have h := ih (i + 1) (by omega) (by omega)
    rw [drop_step w h0 (by omega), drop_step p h0 (by omega)]
    simp only [fairL]
    have st : ∀ k, impl_IsFairShare.l0 (k + 1) t p s w (w.length : Int) i = if rd p i = t * rd w i / s then impl_IsFairShare.l0 k t p s w (w.length : Int) (i + 1) else if t * rd w i % s = 0 then some (false, 0) else if rd p i = t * rd w i / s + 1 then impl_IsFairShare.l0 k t p s w (w.length : Int) (i + 1) else some (false, 0) := by
      intro k
      simp only [impl_IsFairShare.l0]
      rw [if_pos (by omega), if_pos h0, if_pos (by omega), if_neg (by omega), if_pos (by omega), w64 (x := t * rd w i) (by omega) (by omega), tdiv_pos b.1.1, tmod_pos b.1.1, w64 (x := t * rd w i / s) (by omega) (by omega), w64 (x := i + 1) (by omega) (by omega), w64 (x := t * rd w i / s + 1) (by omega) (by omega)]
    by_cases e1 : rd p i = t * rd w i / s
    · refine Ev.step (fun k => (st k).trans (if_pos e1)) ?_
      rw [show decide (Fair1 t s (rd w i) (rd p i)) = true from decide_eq_true (.inl e1), Bool.true_and]
      exact h
    · by_cases e2 : t * rd w i % s = 0
      · refine Ev.step (f := fun _ => some (false, 0)) (fun k => (st k).trans (by rw [if_neg e1, if_pos e2])) (Ev.pure ?_)
        rw [show decide (Fair1 t s (rd w i) (rd p i)) = false from decide_eq_false (fun q => Or.elim q e1 (fun q => q.1 e2)), Bool.false_and]
      · by_cases e3 : rd p i = t * rd w i / s + 1
        · refine Ev.step (fun k => (st k).trans (by rw [if_neg e1, if_neg e2, if_pos e3])) ?_
          rw [show decide (Fair1 t s (rd w i) (rd p i)) = true from decide_eq_true (.inr ⟨e2, e3⟩), Bool.true_and]
          exact h
        · refine Ev.step (f := fun _ => some (false, 0)) (fun k => (st k).trans (by rw [if_neg e1, if_neg e2, if_neg e3])) (Ev.pure ?_)
          rw [show decide (Fair1 t s (rd w i) (rd p i)) = false from decide_eq_false (fun q => Or.elim q e1 (fun q => e3 q.2)), Bool.false_and]
theorem impl_IsFairShare (t : Int) (w p : List Int) (hpl : p.length ≤ 1048576) : Ev (fun k => impl_IsFairShare.f k t w p) (fairV t w p) := by
  unfold impl_IsFairShare.f fairV
  have no : Ev (fun k => impl_IsFairShare.j0 k t w p true) (false, 0) := Ev.step (f := fun _ => some (false, 0)) (fun k => by simp [impl_IsFairShare.j0]) (Ev.pure rfl)
  simp only [impl_allAmounts, Option.bind_some]
  by_cases h1 : Amounts p
  · simp only [h1, decide_true, if_true, not_true, if_false]
    refine Ev.bind (impl_shares t w) ?_
    by_cases h2 : sharesV t w = 0
    · obtain ⟨a1, a2, a3, a4⟩ := sharesV_zero h2
      simp only [h2, if_true, not_true, if_false]
      by_cases h3 : p.length = w.length
      · simp only [if_pos (show (p.length : Int) = (w.length : Int) by omega)]
        have b := amounts_sum h1 hpl
        refine Ev.bind (impl_sum p hpl (amounts_pos h1) (by omega)) ?_
        by_cases h4 : p.sum = t
        · rw [if_neg (not_not_intro ⟨h3, h4⟩)]
          simp only [h4, bne_self_eq_false]
          have b2 := amounts_sum a3 (by omega)
          refine Ev.step (fun k => ?_) (Ev.bind (g := fun k => impl_sum.f k w) (f := fun k s => impl_IsFairShare.l0 k t p s w (w.length : Int) 0) (impl_sum w (by omega) (amounts_pos a3) (by omega)) ?_)
          · simp only [impl_IsFairShare.j0, Bool.false_eq_true, if_false]
          · have := impl_IsFairShare_l0 t w p a1 a3 a2 h3 w.sum a4 w.length 0 (by omega) (by omega)
            simpa using this
        · rw [if_pos (fun q => h4 q.2), show (p.sum != t) = true from bne_iff_ne.2 h4]
          exact no
      · simp only [if_neg (show ¬ ((p.length : Int) = (w.length : Int)) by omega)]; rw [if_pos (fun q => h3 q.1)]
        exact no
    · simp only [h2, if_false, not_false_eq_true, if_true]; exact Ev.pure rfl
  · simp only [h1, decide_false, Bool.false_eq_true, if_false, not_false_eq_true, if_true]; exact Ev.pure rfl
theorem spec_IsFairShare_l0 (t : Int) (w p : List Int) (ht : 0 ≤ t ∧ t ≤ 1000000000) (hw : Amounts w) (hl : w.length ≤ 12) (hp : p.length = w.length) (s : Int) (hs : 0 < s) : ∀ (j : Nat) (i : Int), 0 ≤ i → i + j = w.length →
    Ev (fun k => spec_IsFairShare.l0 k t w p s i) (fairL t s (w.drop i.toNat) (p.drop i.toNat), 0) := by
  intro j
  induction j with
  | zero =>
    intro i h0 h1
    refine Ev.step (f := fun _ => some (true, 0)) (fun k => ?_) (Ev.pure ?_)
    · simp only [spec_IsFairShare.l0]; rw [if_neg (by omega)]
    · rw [drop_end w (by omega)]; simp [fairL]
  | succ j ih =>
    intro i h0 h1
    have b := share_bd ht (hw _ (rd_mem w h0 (show i < (w.length : Int) by omega))) hs
    have h := ih (i + 1) (by omega) (by omega)
    rw [drop_step w h0 (by omega), drop_step p h0 (by omega)]
    simp only [fairL]
    have st : ∀ k, spec_IsFairShare.l0 (k + 1) t w p s i = if rd p i < t * rd w i / s then some (false, 0) else if rd p i > t * rd w i / s + 1 then some (false, 0) else if t * rd w i % s = 0 then (if rd p i = t * rd w i / s then spec_IsFairShare.l0 k t w p s (i + 1) else some (false, 0)) else spec_IsFairShare.l0 k t w p s (i + 1) := by
      intro k
      simp only [spec_IsFairShare.l0]
      rw [if_pos (by omega), if_pos h0, if_pos (by omega), if_neg (by omega), w64 (x := t * rd w i) (by omega) (by omega), tdiv_pos b.1.1, tmod_pos b.1.1, w64 (x := t * rd w i / s) (by omega) (by omega), w64 (x := i + 1) (by omega) (by omega), w64 (x := t * rd w i / s + 1) (by omega) (by omega)]
    by_cases hf : Fair1 t s (rd w i) (rd p i)
    · rw [show decide (Fair1 t s (rd w i) (rd p i)) = true from decide_eq_true hf, Bool.true_and]
      refine Ev.step (fun k => (st k).trans ?_) h
      unfold Fair1 at hf
      rw [if_neg (by omega), if_neg (by omega)]
      by_cases e : t * rd w i % s = 0
      · rw [if_pos e, if_pos (by omega)]
      · rw [if_neg e]
    · rw [show decide (Fair1 t s (rd w i) (rd p i)) = false from decide_eq_false hf, Bool.false_and]
      refine Ev.step (f := fun _ => some (false, 0)) (fun k => (st k).trans ?_) (Ev.pure rfl)
      unfold Fair1 at hf
      by_cases e1 : rd p i < t * rd w i / s
      · rw [if_pos e1]
      by_cases e2 : rd p i > t * rd w i / s + 1
      · rw [if_neg e1, if_pos e2]
      rw [if_neg e1, if_neg e2, if_pos (by omega), if_neg (by omega)]
theorem spec_IsFairShare (t : Int) (w p : List Int) (hwl : w.length ≤ 1048576) (hpl : p.length ≤ 1048576) : Ev (fun k => spec_IsFairShare.f k t w p) (fairV t w p) := by
  unfold spec_IsFairShare.f fairV
  have no : Ev (fun k => spec_IsFairShare.j0 k t w p true) (false, 0) := Ev.step (f := fun _ => some (false, 0)) (fun k => by simp [spec_IsFairShare.j0]) (Ev.pure rfl)
  refine Ev.bind (spec_l01Amounts p hpl) ?_
  by_cases h1 : Amounts p
  · simp only [h1, decide_true, if_true, not_true, if_false]
    refine Ev.bind (spec_l01Code t w hwl) ?_
    by_cases h2 : sharesV t w = 0
    · obtain ⟨a1, a2, a3, a4⟩ := sharesV_zero h2
      simp only [h2, if_true, not_true, if_false]
      by_cases h3 : p.length = w.length
      · simp only [if_pos (show (p.length : Int) = (w.length : Int) by omega)]
        have b := amounts_sum h1 hpl
        refine Ev.bind (spec_l01Sum p hpl (amounts_pos h1) (by omega)) ?_
        by_cases h4 : p.sum = t
        · rw [if_neg (not_not_intro ⟨h3, h4⟩)]
          simp only [h4, bne_self_eq_false]
          have b2 := amounts_sum a3 hwl
          refine Ev.step (fun k => ?_) (Ev.bind (g := fun k => spec_l01Sum.f k w) (f := fun k s => spec_IsFairShare.l0 k t w p s 0) (spec_l01Sum w hwl (amounts_pos a3) (by omega)) ?_)
          · simp only [spec_IsFairShare.j0, Bool.false_eq_true, if_false]
          · have := spec_IsFairShare_l0 t w p a1 a3 a2 h3 w.sum a4 w.length 0 (by omega) (by omega)
            simpa using this
        · rw [if_pos (fun q => h4 q.2), show (p.sum != t) = true from bne_iff_ne.2 h4]
          exact no
      · simp only [if_neg (show ¬ ((p.length : Int) = (w.length : Int)) by omega)]; rw [if_pos (fun q => h3 q.1)]
        exact no
    · simp only [h2, if_false, not_false_eq_true, if_true]; exact Ev.pure rfl
  · simp only [h1, decide_false, Bool.false_eq_true, if_false, not_false_eq_true, if_true]; exact Ev.pure rfl
end Go.Proofs.Ytccnbjaaaaljoaa.L

