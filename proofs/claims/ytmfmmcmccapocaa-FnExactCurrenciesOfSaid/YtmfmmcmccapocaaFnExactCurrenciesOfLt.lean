/- What the functions of chapter 3 answer (tables of rates), in the program and in the reference. Conditions: texts and lists of bounded size. -/
import Derived.Test.YtmfmmcmccapocaaFnExactCurrenciesOfLm
namespace Go.Proofs.Ytmfmmcmccapocaa.L
set_option linter.unusedVariables false
set_option linter.unusedSimpArgs false
open Go.RowKit Go.Proofs.Ytmfmmcmccapocaa.P Go.Proofs.YtmfmmcmccapocaaW.PrintWords Go.Proofs.YtmfmmcmccapocaaW.PrintLast Go.Proofs.YtmfmmcmccapocaaW.PrintMore

theorem laws_szRateS_l0 (l : List S52) (hl : l.length ≤ 1048576) (hs : ∀ x ∈ l, x.f0.size ≤ 9223372036854775807) : ∀ (j : Nat) (i t : Int), 0 ≤ i → i + j = l.length → 0 ≤ t → t ≤ 1048576 →
    ∃ r, Ev (fun k => laws_szRateS.l0 k l t i) r ∧ (0 ≤ r → ∀ x ∈ l.drop i.toNat, x.f0.size ≤ 1048576) := by
  intro j
  induction j with
  | zero =>
    intro i t h0 h1 h2 h3
    refine ⟨t, Ev.step (f := fun _ => some t) (fun k => ?_) (Ev.pure rfl), fun _ x hx => ?_⟩
    · simp only [laws_szRateS.l0]; rw [if_neg (by omega)]
    · rw [drop_end l (by omega)] at hx; cases hx
  | succ j ih =>
    intro i t h0 h1 h2 h3
    have hd : l.drop i.toNat = rd_T52 l i :: l.drop (i + 1).toNat := drop_stepD l z52 h0 (by omega)
    have hm : rd_T52 l i ∈ l := List.mem_of_mem_drop (i := i.toNat) (by rw [hd]; exact List.mem_cons_self)
    have b := hs _ hm
    by_cases h : t - ((rd_T52 l i).f0.size : Int) < 0
    · refine ⟨-1, Ev.step (f := fun _ => some (-1)) (fun k => ?_) (Ev.pure rfl), fun q => absurd q (by decide)⟩
      simp only [laws_szRateS.l0, laws_szRate.f]
      rw [if_pos (by omega), if_pos h0, w64 (x := t - ((rd_T52 l i).f0.size : Int)) (by omega) (by omega), if_pos h, Option.bind_some, if_pos (by decide)]
    · obtain ⟨r, r1, r2⟩ := ih (i + 1) (t - ((rd_T52 l i).f0.size : Int)) (by omega) (by omega) (by omega) (by omega)
      refine ⟨r, Ev.step (fun k => ?_) r1, fun q x hx => ?_⟩
      · simp only [laws_szRateS.l0, laws_szRate.f]
        rw [if_pos (by omega), if_pos h0, w64 (x := t - ((rd_T52 l i).f0.size : Int)) (by omega) (by omega), if_neg h, Option.bind_some, if_neg h, w64 (x := i + 1) (by omega) (by omega)]
      · rw [hd] at hx
        rcases List.mem_cons.1 hx with rfl | hx
        · omega
        · exact r2 q x hx
theorem laws_szRateS (l : List S52) (hl : l.length * 40 ≤ 140737488351232) (hs : ∀ x ∈ l, x.f0.size ≤ 9223372036854775807) :
    ∃ r, Ev (fun k => laws_szRateS.f k l 1048576) r ∧ (0 ≤ r → l.length ≤ 1048576 ∧ ∀ x ∈ l, x.f0.size ≤ 1048576) := by
  unfold laws_szRateS.f
  rw [w64 (by omega) (by omega)]
  by_cases h : (1048576 : Int) - (l.length : Int) < 0
  · exact ⟨-1, by simp only [h, if_true]; exact Ev.pure rfl, fun q => absurd q (by decide)⟩
  · simp only [h, if_false]
    obtain ⟨r, r1, r2⟩ := laws_szRateS_l0 l (by omega) hs l.length 0 (1048576 - (l.length : Int)) (by omega) (by omega) (by omega) (by omega)
    exact ⟨r, r1, fun q => ⟨by omega, by simpa using r2 q⟩⟩
/-- A rate as it may be; the order of two; a table. -/
def rateB (x : S53) : Bool := spelledV x.f0 3 3 65 90 && (!(decide (x.f0.toList = ([88, 68, 82] : List UInt8))) && (decide (0 ≤ x.f1 ∧ x.f1 ≤ 36524) && (decide (1 ≤ x.f2 ∧ x.f2 ≤ 1000000) && decide (1 ≤ x.f3 ∧ x.f3 ≤ 1000000))))
def rateLt (x y : S53) : Bool := Op.bytesLess x.f0.toList y.f0.toList || (decide (x.f0.toList = y.f0.toList) && decide (x.f1 < y.f1))
def tableB (l : List S53) : Bool := (l.all rateB && X.risesB rateLt l) && decide ((l.length : Int) ≤ 20)
theorem cmp_Or2 (a b : Int) : Ev (fun k => cmp_Or_int.f k [a, b]) (if a = 0 then b else a) := by
  unfold cmp_Or_int.f
  refine Ev.step (f := fun k => if a = 0 then cmp_Or_int.l0 k 0 [a, b] 2 1 else some a) (fun k => ?_) ?_
  · simp only [cmp_Or_int.l0, List.length_cons, List.length_nil]
    rw [if_pos (by decide), if_pos (by decide), if_pos (by decide), w64 (by omega) (by omega)]; rfl
  by_cases h : a = 0
  · simp only [h, if_true]
    refine Ev.step (f := fun k => if b = 0 then cmp_Or_int.l0 k 0 [0, b] 2 2 else some b) (fun k => ?_) ?_
    · simp only [cmp_Or_int.l0, List.length_cons, List.length_nil]
      rw [if_pos (by decide), if_pos (by decide), if_pos (by decide), w64 (by omega) (by omega)]; rfl
    by_cases h2 : b = 0
    · simp only [h2, if_true]
      exact Ev.step (f := fun _ => some 0) (fun k => by simp only [cmp_Or_int.l0]; rw [if_neg (by decide)]) (Ev.pure rfl)
    · simp only [h2, if_false]; exact Ev.pure rfl
  · simp only [h, if_false]; exact Ev.pure rfl
theorem impl_compareRates (x y : S53) : ∃ c, Ev (fun k => impl_compareRates.f k x.f0 x.f1 x.f2 x.f3 y.f0 y.f1 y.f2 y.f3) c ∧ rateLt x y = decide (c < 0) := by
  unfold impl_compareRates.f
  simp only [cmp_Compare, cmp_Compare_string.f, Option.bind_some]
  refine ⟨_, Ev.bind (cmp_Or2 _ _) (Ev.pure rfl), ?_⟩
  unfold rateLt
  by_cases h1 : Op.bytesLess x.f0.toList y.f0.toList = true
  · simp [h1]
  · by_cases h2 : Op.bytesLess y.f0.toList x.f0.toList = true
    · have e : x.f0.toList ≠ y.f0.toList := fun e => by rw [e, X.bl_irrefl] at h2; cases h2
      simp [h1, h2, e]
    · have e := X.bl_tri _ _ (Bool.eq_false_iff.2 h1) (Bool.eq_false_iff.2 h2)
      by_cases h3 : x.f1 < y.f1
      · simp [e, h3, X.bl_irrefl]
      · by_cases h4 : y.f1 < x.f1 <;> simp [e, h3, h4, X.bl_irrefl]
theorem impl_isRate (x : S53) (hx : x.f0.size ≤ 1048576) : Ev (fun k => impl_isRate.f k x.f0 x.f1 x.f2 x.f3) (rateB x) := by
  unfold impl_isRate.f rateB
  refine Ev.bind (impl_IsCode x.f0 (by omega)) ?_
  cases spelledV x.f0 3 3 65 90
  · simp only [Bool.false_eq_true, if_false, Bool.false_and]; exact Ev.pure rfl
  simp only [if_true, Bool.true_and]
  by_cases h : x.f0.toList = ([88, 68, 82] : List UInt8)
  · simp only [h, if_true, decide_true, Bool.not_true, Bool.false_and]; exact Ev.pure rfl
  simp only [h, if_false, decide_false, Bool.not_false, Bool.true_and]
  refine Ev.bind (impl_isDay x.f1) ?_
  by_cases h1 : 0 ≤ x.f1 ∧ x.f1 ≤ 36524
  · simp only [h1, and_self, decide_true, if_true, Bool.true_and]
    have e2 := impl_in x.f2 1 1000000
    have e3 := impl_in x.f3 1 1000000
    simp only [e2, e3, Option.bind_some]
    by_cases h2 : 1 ≤ x.f2 ∧ x.f2 ≤ 1000000
    · simp only [h2, and_self, decide_true, if_true, Bool.true_and]; exact Ev.pure rfl
    · simp only [h2, decide_false, Bool.false_eq_true, if_false, Bool.false_and]; exact Ev.pure rfl
  · simp only [h1, decide_false, Bool.false_eq_true, if_false, Bool.false_and]; exact Ev.pure rfl
theorem impl_IsTable (l : List S53) (hs : ∀ x ∈ l, x.f0.size ≤ 1048576) : Ev (fun k => impl_IsTable.f k l) (tableB l) := by
  unfold impl_IsTable.f tableB
  by_cases h : (l.length : Int) ≤ 20
  · simp only [h, if_true, decide_true, Bool.and_true]
    have ha : Ev (fun k => impl_all_Rate__impl_isRate.f k l) (l.all rateB) := by
      unfold impl_all_Rate__impl_isRate.f
      exact X.allM_ev l fun x hx => impl_isRate x (hs x hx)
    have hr : Ev (fun k => impl_rising_Rate__impl_compareRates.f k l) (X.risesB rateLt l) := by
      unfold impl_rising_Rate__impl_compareRates.f
      exact X.risingM_ev l fun x _ y _ => impl_compareRates x y
    refine Ev.bind ha ?_
    cases l.all rateB
    · simp only [Bool.false_eq_true, if_false, Bool.false_and]; exact Ev.pure rfl
    · simp only [if_true, Bool.true_and]; exact Ev.bind hr (Ev.pure rfl)
  · simp only [h, if_false, decide_false, Bool.and_false]; exact Ev.pure rfl
theorem spec_l03Before (x y : S53) : spec_l03Before.f x.f0 x.f1 x.f2 x.f3 y.f0 y.f1 y.f2 y.f3 = some (rateLt x y) := by
  unfold spec_l03Before.f rateLt
  by_cases h : Op.bytesLess x.f0.toList y.f0.toList = true
  · rw [if_pos h, h, Bool.true_or]
  · rw [if_neg h, Bool.eq_false_iff.2 h, Bool.false_or]
    by_cases h2 : x.f0.toList = y.f0.toList
    · rw [if_pos h2, decide_eq_true h2, Bool.true_and]
    · rw [if_neg h2, decide_eq_false h2, Bool.false_and]
theorem spec_rate (x : S53) (hx : x.f0.size ≤ 1048576) {rest : Nat → Option Bool} {b : Bool} (h : Ev rest b) :
    Ev (fun k => (spec_IsCode.f k x.f0).bind fun t395 => (if t395 = true then (if x.f0.toList = ([88, 68, 82] : List UInt8) then (some false) else ((spec_l02Is.f x.f1).bind fun t396 => (if t396 = true then ((spec_l01In.f x.f2 1 1000000).bind fun t397 => (if t397 = true then ((spec_l01In.f x.f3 1 1000000).bind fun t398 => (if t398 = true then rest k else (some false))) else (some false))) else (some false)))) else (some false))) (rateB x && b) := by
  unfold rateB
  refine Ev.bind (spec_IsCode x.f0 (by omega)) ?_
  cases spelledV x.f0 3 3 65 90
  · simp only [Bool.false_eq_true, if_false, Bool.false_and]; exact Ev.pure rfl
  simp only [if_true, Bool.true_and]
  by_cases h0 : x.f0.toList = ([88, 68, 82] : List UInt8)
  · simp only [h0, if_true, decide_true, Bool.not_true, Bool.false_and]; exact Ev.pure rfl
  simp only [h0, if_false, decide_false, Bool.not_false, Bool.true_and, spec_l02Is, spec_l01In, Option.bind_some]
  by_cases h1 : 0 ≤ x.f1 ∧ x.f1 ≤ 36524
  · simp only [h1, and_self, decide_true, if_true, Bool.true_and]
    by_cases h2 : 1 ≤ x.f2 ∧ x.f2 ≤ 1000000
    · simp only [h2, and_self, decide_true, if_true, Bool.true_and]
      by_cases h3 : 1 ≤ x.f3 ∧ x.f3 ≤ 1000000
      · simp only [h3, and_self, decide_true, if_true, Bool.true_and]; exact h
      · simp only [h3, decide_false, Bool.false_eq_true, if_false, Bool.false_and]; exact Ev.pure rfl
    · simp only [h2, decide_false, Bool.false_eq_true, if_false, Bool.false_and]; exact Ev.pure rfl
  · simp only [h1, decide_false, Bool.false_eq_true, if_false, Bool.false_and]; exact Ev.pure rfl
theorem spec_IsTable_l0 (l : List S53) (hl : l.length ≤ 1048576) (hs : ∀ x ∈ l, x.f0.size ≤ 1048576) : ∀ (j : Nat) (i : Int), 0 ≤ i → i + j = l.length →
    Ev (fun k => spec_IsTable.l0 k l i) (((l.drop i.toNat).all rateB && X.risesB rateLt (l.drop (i - 1).toNat)) && decide ((l.length : Int) ≤ 20)) := by
  intro j
  induction j with
  | zero =>
    intro i h0 h1
    refine Ev.step (f := fun _ => some (decide ((l.length : Int) ≤ 20))) (fun k => ?_) (Ev.pure ?_)
    · simp only [spec_IsTable.l0]; rw [if_neg (by omega)]
    · have e : X.risesB rateLt (l.drop (i - 1).toNat) = true := by
        have hlen : (l.drop (i - 1).toNat).length ≤ 1 := by rw [List.length_drop]; omega
        match l.drop (i - 1).toNat, hlen with
        | [], _ => rfl
        | [x], _ => rfl
      rw [drop_end l (by omega), e]; simp
  | succ j ih =>
    intro i h0 h1
    have h := ih (i + 1) (by omega) (by omega)
    have hd : l.drop i.toNat = rd_T53 l i :: l.drop (i + 1).toNat := drop_stepD l z53 h0 (by omega)
    have hm : rd_T53 l i ∈ l := List.mem_of_mem_drop (i := i.toNat) (by rw [hd]; exact List.mem_cons_self)
    rw [show i + 1 - 1 = i by omega] at h
    have hrest : Ev (fun k => if i > 0 then (if 0 ≤ (wrap64 (i - 1)) then (if (wrap64 (i - 1)) < (l.length : Int) then ((spec_l03Before.f ((rd_T53 l (wrap64 (i - 1))).f0) ((rd_T53 l (wrap64 (i - 1))).f1) ((rd_T53 l (wrap64 (i - 1))).f2) ((rd_T53 l (wrap64 (i - 1))).f3) ((rd_T53 l i).f0) ((rd_T53 l i).f1) ((rd_T53 l i).f2) ((rd_T53 l i).f3)).bind fun t400 => (if t400 = true then (spec_IsTable.l0 k l (wrap64 (i + 1))) else (some false))) else (none)) else (none)) else (spec_IsTable.l0 k l (wrap64 (i + 1))))
        ((((l.drop (i + 1).toNat).all rateB) && X.risesB rateLt (l.drop (i - 1).toNat)) && decide ((l.length : Int) ≤ 20)) := by
      rw [w64 (x := i + 1) (by omega) (by omega)]
      by_cases hi : i > 0
      · have hd2 : l.drop (i - 1).toNat = rd_T53 l (i - 1) :: l.drop (i - 1 + 1).toNat := drop_stepD l z53 (by omega) (by omega)
        rw [show i - 1 + 1 = i by omega] at hd2
        rw [w64 (x := i - 1) (by omega) (by omega)]
        simp only [hi, if_true, show (0 : Int) ≤ i - 1 by omega, show i - 1 < (l.length : Int) by omega, spec_l03Before, Option.bind_some]
        rw [hd2, hd]
        simp only [X.risesB]
        cases rateLt (rd_T53 l (i - 1)) (rd_T53 l i)
        · simp only [Bool.false_eq_true, if_false, Bool.false_and, Bool.and_false]; exact Ev.pure rfl
        · simp only [if_true, Bool.true_and]; rw [hd] at h; exact h
      · simp only [hi, if_false]
        rw [show (i - 1).toNat = i.toNat by omega]
        exact h
    have hb := spec_rate _ (hs _ hm) hrest
    refine Ev.step (fun k => ?_) (show Ev _ _ from by
      rw [show (((l.drop i.toNat).all rateB && X.risesB rateLt (l.drop (i - 1).toNat)) && decide ((l.length : Int) ≤ 20)) = (rateB (rd_T53 l i) && ((((l.drop (i + 1).toNat).all rateB) && X.risesB rateLt (l.drop (i - 1).toNat)) && decide ((l.length : Int) ≤ 20))) by rw [hd, List.all_cons]; simp only [Bool.and_assoc]]
      exact hb)
    simp only [spec_IsTable.l0]
    rw [if_pos (by omega), if_pos h0]
theorem spec_IsTable (l : List S53) (hl : l.length ≤ 1048576) (hs : ∀ x ∈ l, x.f0.size ≤ 1048576) : Ev (fun k => spec_IsTable.f k l) (tableB l) := by
  have h := spec_IsTable_l0 l hl hs l.length 0 (by omega) (by omega)
  unfold spec_IsTable.f tableB
  simpa using h
end Go.Proofs.Ytmfmmcmccapocaa.L

