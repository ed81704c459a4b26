/- The plain laws over drawn arguments (shares, proportions, days): what the printed law comes to is 'true', for all codes. -/
import Derived.Test.YtccnbjaaaaljoaaFnDaysLq
namespace Go.Proofs.Ytccnbjaaaaljoaa.Pure
set_option linter.unusedVariables false
set_option linter.unusedSimpArgs false
open Go.RowKit Go.Proofs.Ytccnbjaaaaljoaa.P Go.Proofs.Ytccnbjaaaaljoaa.L Go.Proofs.YtccnbjaaaaljoaaW.PrintWords Go.Proofs.YtccnbjaaaaljoaaW.PrintLast Go.Proofs.YtccnbjaaaaljoaaW.PrintMore

/-- A law over a code begins so: too long a code is out of its reach. -/
theorem beginC {f : Nat → Option Bool} (l : List Int) (hq : ∀ x ∈ l, (Lit.int .u8 x).wf = true) (h : l.length ≤ 4096 → (∀ x ∈ l, 0 ≤ x ∧ x ≤ 255) → Ev f true) :
    ∃ k, ((laws_big.f l).bind fun t => if t = true then some true else f k) = some true := by
  have e : laws_big.f l = some (decide ((l.length : Int) > 4096)) := rfl
  by_cases hl : (l.length : Int) > 4096
  · exact ⟨0, by rw [e, Option.bind_some, decide_eq_true hl, if_pos rfl]⟩
  · obtain ⟨k, hk⟩ := (h (by omega) fun x hx => bounds_u8 (hq x hx)).rounds
    exact ⟨k, by rw [e, Option.bind_some, decide_eq_false hl, if_neg (by decide)]; exact hk⟩
theorem FnDays' (l : List Int) (hb : l.length * 1 ≤ 140737488351232) (hq : ∀ x ∈ l, (Lit.int .u8 x).wf = true) : ∃ k, laws_FnDays.f k l = some true := by
  unfold laws_FnDays.f
  refine beginC l hq fun h1 h2 => ?_
  obtain ⟨y, m, d, e1⟩ := drawDayOf l h1 h2
  obtain ⟨n, e2⟩ := drawDateOf l h1 h2
  obtain ⟨g, gs, e3⟩ := drawNextBusinessDay l h1 h2
  obtain ⟨w, e4⟩ := drawWeekdayOf l h1 h2
  obtain ⟨y', m', d', c', k1, k2, k3⟩ := L.dateOf_both n
  have a1 := L.impl_DayOf y m d
  have a2 := L.spec_DayOf y m d
  have b1 := L.impl_NextBusinessDay g gs
  have b2 := L.spec_NextBusinessDay g gs
  have w1 := L.impl_WeekdayOf w
  have w2 := L.spec_WeekdayOf w
  have d1 := L.impl_IsDate y m d
  refine Ev.bind e1 (Ev.bind a1 (Ev.bind a2 (Ev.bind e2 (Ev.bind k1 (Ev.bind k2 (Ev.bind e3 (Ev.bind b1 (Ev.bind b2 (Ev.bind e4 (Ev.bind w1 ?_))))))))))
  simp only [w2, Option.bind_some, if_true, BEq.rfl, Bool.not_true, Bool.or_false, Bool.false_eq_true, if_false]
  refine Ev.bind d1 ?_
  have hx : (decide (Ok y m d) != ((dayOfV y m d).2 == 0)) = false := by
    unfold dayOfV
    by_cases hO : Ok y m d
    · rw [if_pos hO, decide_eq_true hO]; rfl
    · rw [if_neg hO, decide_eq_false hO]; rfl
  simp only [hx]
  -- the last question: the date of the number of a date
  have last : ∃ r : Int × Int × Int × Int, Ev (fun k => impl_DateOf.f k (dayOfV y m d).1) r ∧ ((dayOfV y m d).2 = 0 → r = (y, m, d, 0)) := by
    obtain ⟨y2, m2, d2, c2, q1, _, q3⟩ := L.dateOf_both (dayOfV y m d).1
    refine ⟨_, q1, fun h0 => ?_⟩
    unfold dayOfV at h0 q3
    by_cases hO : Ok y m d
    · rw [if_pos hO] at q3
      have nb := num_bd hO
      rcases q3 with ⟨_, _, hO2, e, ec⟩ | ⟨hn, _⟩
      · obtain ⟨rfl, rfl, rfl⟩ := num_inj hO2 hO e
        rw [ec]
      · exact absurd nb hn
    · rw [if_neg hO] at h0; cases h0
  obtain ⟨r, r1, r2⟩ := last
  have fin : Ev (fun k => if (dayOfV y m d).2 = 0 then ((impl_DateOf.f k (dayOfV y m d).1).bind fun bt686 => (if bt686.2.2.2 = 0 then (some (bt686.1 == y && (bt686.2.1 == m && (bt686.2.2.1 == d)))) else (some false))) else (some true)) true := by
    by_cases h0 : (dayOfV y m d).2 = 0
    · simp only [h0, if_true]
      rw [r2 h0] at r1
      exact Ev.bind r1 (Ev.pure (by simp))
    · simp only [h0, if_false]; exact Ev.pure rfl
  have j2 : Ev (fun k => laws_FnDays.j2 k (dayOfV y m d).1 (dayOfV y m d).2 false y m d) true :=
    Ev.step (fun k => by simp only [laws_FnDays.j2, Bool.false_eq_true, if_false]) fin
  have j1 : Ev (fun k => laws_FnDays.j1 k (dayOfV y m d).1 (dayOfV y m d).2 g gs (nextV g gs).1 (nextV g gs).2 y m d) true := by
    by_cases h0 : (nextV g gs).2 = 0
    · have hn : (0 ≤ (nextV g gs).1 ∧ (nextV g gs).1 ≤ 36524) ∧ ((nextV g gs).1 + 3) % 7 ≤ 4 ∧ g + gs ≤ (nextV g gs).1 ∧ (0 ≤ g ∧ g ≤ 36524) ∧ 0 ≤ gs ∧ gs ≤ 1000 := by
        unfold nextV at h0 ⊢
        split at h0
        · cases h0
        · rename_i hc
          have hc := Decidable.not_not.1 hc
          split at h0
          · rename_i hd
            rw [if_neg (fun q => q hc), if_pos hd]
            have o1 := onB_bd g
            have o2 := bday_bd gs.toNat (onB g)
            exact ⟨hd, bday_day _ _ (onB_day g), by simp only; omega, hc.1, hc.2⟩
          · cases h0
      obtain ⟨z1, z2, z3, z4, z5⟩ := hn
      have hwd := L.impl_WeekdayOf (nextV g gs).1
      unfold weekdayV at hwd
      rw [if_pos z1] at hwd
      refine Ev.step (fun k => by simp only [laws_FnDays.j1, h0, if_true]) (Ev.bind hwd (f := fun k (bt679 : Int × Int) => if bt679.2 = 0 then (if bt679.1 > 4 then (laws_FnDays.j2 k (dayOfV y m d).1 (dayOfV y m d).2 true y m d) else (laws_FnDays.j2 k (dayOfV y m d).1 (dayOfV y m d).2 (decide ((nextV g gs).1 < (wrap64 (g + gs)))) y m d)) else (laws_FnDays.j2 k (dayOfV y m d).1 (dayOfV y m d).2 true y m d)) ?_)
      simp only [if_true, show ¬ (((nextV g gs).1 + 3) % 7 > 4) by omega, if_false]
      rw [w64 (x := g + gs) (by omega) (by omega), decide_eq_false (by omega)]
      exact j2
    · exact Ev.step (fun k => by simp only [laws_FnDays.j1, h0, if_false]) fin
  rcases k3 with ⟨n0, n1, hO, en, rfl⟩ | ⟨_, _, _, _, rfl⟩
  · have hd2 := L.impl_DayOf y' m' d'
    unfold dayOfV at hd2
    rw [if_pos hO, en] at hd2
    refine Ev.step (fun k => by simp only [laws_FnDays.j0, Bool.false_eq_true, if_false, if_true]) (Ev.bind hd2 (f := fun k (bt677 : Int × Int) => if bt677.2 = 0 then (if bt677.1 = n then (laws_FnDays.j1 k (dayOfV y m d).1 (dayOfV y m d).2 g gs (nextV g gs).1 (nextV g gs).2 y m d) else (some false)) else (some false)) ?_)
    simp only [if_true]
    exact j1
  · exact Ev.step (fun k => by simp only [laws_FnDays.j0, Bool.false_eq_true, if_false, show ¬ ((2 : Int) = 0) by omega]) j1
end Go.Proofs.Ytccnbjaaaaljoaa.Pure

