/- The plain laws over drawn arguments (shares, proportions, days): what the printed law comes to is 'true', for all codes. -/
import Derived.Test.YtccnbjaaaaljoaaFnProportionsLq
namespace Go.Proofs.Ytccnbjaaaaljoaa.Pure
set_option linter.unusedVariables false
set_option linter.unusedSimpArgs false
open Go.RowKit Go.Proofs.Ytccnbjaaaaljoaa.P Go.Proofs.Ytccnbjaaaaljoaa.L Go.Proofs.YtccnbjaaaaljoaaW.PrintWords Go.Proofs.YtccnbjaaaaljoaaW.PrintLast Go.Proofs.YtccnbjaaaaljoaaW.PrintMore

/-- A law over a code begins so: too long a code is out of its reach. -/
theorem beginC {f : Nat → Option Bool} (l : List Int) (hq : ∀ x ∈ l, (Lit.int .u8 x).wf = true) (h : l.length ≤ 4096 → (∀ x ∈ l, 0 ≤ x ∧ x ≤ 255) → Ev f true) :
    ∃ k, ((laws_big.f l).bind fun t => if t = true then some true else f k) = some true := by
  have e : laws_big.f l = some (decide ((l.length : Int) > 4096)) := rfl
  by_cases hl : (l.length : Int) > 4096
  · exact ⟨0, by rw [e, Option.bind_some, decide_eq_true hl, if_pos rfl]⟩
  · obtain ⟨k, hk⟩ := (h (by omega) fun x hx => bounds_u8 (hq x hx)).rounds
    exact ⟨k, by rw [e, Option.bind_some, decide_eq_false hl, if_neg (by decide)]; exact hk⟩
theorem proportion_fin (a b c : Int) : (if (proportionV a b c).2 = 0 then (if (wrap64 (2 * (wrap64 ((wrap64 ((proportionV a b c).1 * c)) - (wrap64 (a * b)))))) ≤ c then (some (decide ((wrap64 (2 * (wrap64 ((wrap64 (a * b)) - (wrap64 ((proportionV a b c).1 * c)))))) < (wrap64 (c + 1))))) else (some false)) else (some true)) = some true := by
  by_cases h1 : (0 ≤ a ∧ a ≤ 1000000000) ∧ (0 ≤ b ∧ b ≤ 1000000000) ∧ (0 ≤ c ∧ c ≤ 1000000000)
  · by_cases h2 : c = 0
    · have e : proportionV a b c = (0, 5) := by unfold proportionV; rw [if_neg (not_not_intro h1), if_pos h2]
      rw [e]; rfl
    · by_cases h3 : 0 ≤ near (a * b) c ∧ near (a * b) c ≤ 1000000000
      · have e : proportionV a b c = (near (a * b) c, 0) := by unfold proportionV; rw [if_neg (not_not_intro h1), if_neg h2, if_pos h3]
        rw [e]
        have m := proportion_bd h1.1 h1.2.1
        have m2 := proportion_bd h3 h1.2.2
        obtain ⟨f1, f2⟩ := near_fact (n := a * b) (c := c) m.1 (by omega)
        simp only [if_true]
        rw [w64 (x := near (a * b) c * c) (by omega) (by omega), w64 (x := a * b) (by omega) (by omega), w64 (x := near (a * b) c * c - a * b) (by omega) (by omega), w64 (x := a * b - near (a * b) c * c) (by omega) (by omega), w64 (x := 2 * (near (a * b) c * c - a * b)) (by omega) (by omega), w64 (x := 2 * (a * b - near (a * b) c * c)) (by omega) (by omega), w64 (x := c + 1) (by omega) (by omega), if_pos f1, decide_eq_true f2]
      · have e : proportionV a b c = (0, 3) := by unfold proportionV; rw [if_neg (not_not_intro h1), if_neg h2, if_neg h3]
        rw [e]; rfl
  · have e : proportionV a b c = (0, 2) := by unfold proportionV; rw [if_pos h1]
    rw [e]; rfl
theorem FnProportions' (l : List Int) (hb : l.length * 1 ≤ 140737488351232) (hq : ∀ x ∈ l, (Lit.int .u8 x).wf = true) : ∃ k, laws_FnProportions.f k l = some true := by
  unfold laws_FnProportions.f
  refine beginC l hq fun h1 h2 => ?_
  obtain ⟨a, b, c, e1⟩ := drawProportionOf l h1 h2
  obtain ⟨t, w, e2, hw⟩ := drawTakeDown l h1 h2
  obtain ⟨z, e3, hz⟩ := drawSumAmounts l h1 h2
  obtain ⟨n, e4⟩ := drawIsAmount l h1 h2
  have p1 := L.impl_ProportionOf a b c
  have p2 := L.spec_ProportionOf a b c
  have fin := proportion_fin a b c
  have t1 := L.impl_TakeDown t w
  have t2 := L.spec_TakeDown t w (by omega)
  have s1 := L.impl_SumAmounts z (by omega)
  have s2 := L.spec_SumAmounts z (by omega)
  have ht : (takeV t w).1.length ≤ 60 ∧ ((takeV t w).2 = 0 → ((takeV t w).1.sum ≤ t ∧ ((takeV t w).1.sum < t → (takeV t w).1 = w)) ∧ Amounts (takeV t w).1) := by
    unfold takeV
    split
    · rename_i hc
      obtain ⟨_, q1, q2, q3⟩ := takeL_sum w t hc.1.1 hc.2.2
      exact ⟨by rw [takeL_length]; omega, fun _ => ⟨⟨q1, q2⟩, q3⟩⟩
    · exact ⟨by simp, fun q => by cases q⟩
  generalize proportionV a b c = pv at p1 p2 fin
  generalize takeV t w = tv at t1 t2 ht
  generalize sumV z = sv at s1 s2
  obtain ⟨p, bad⟩ := pv
  obtain ⟨q, tc⟩ := tv
  obtain ⟨ht1, ht2⟩ := ht
  refine Ev.bind e1 (Ev.bind p1 (Ev.bind p2 (Ev.bind e2 (Ev.bind t1 (Ev.bind t2 (Ev.bind e3 (Ev.bind s1 (Ev.bind s2 (Ev.bind e4 ?_)))))))))
  simp only [if_true]
  refine Ev.bind (L.laws_likeInts q q (by simp only at ht1; omega)) ?_
  simp only [decide_true, if_true, L.impl_IsAmount, L.spec_IsAmount, Option.bind_some, bne_self_eq_false]
  have j1 : Ev (fun k => laws_FnProportions.j1 k a b c p bad false) true :=
    Ev.step (f := fun _ => some true) (fun k => by simp only [laws_FnProportions.j1, Bool.false_eq_true, if_false]; exact fin) (Ev.pure rfl)
  by_cases c0 : tc = 0
  · obtain ⟨⟨g1, g2⟩, g3⟩ := ht2 c0
    simp only at ht1 g1 g2 g3
    have hsum := L.laws_sum q (by omega) (amounts_pos g3) (by have := amounts_sum g3 (by omega); omega)
    refine Ev.step (fun k => by simp only [laws_FnProportions.j0, Bool.false_eq_true, if_false, c0, if_true]) (Ev.bind hsum (f := fun k t324 => if t324 > t then (laws_FnProportions.j1 k a b c p bad true) else ((laws_sum.f k q).bind fun t325 => (if t325 < t then ((laws_likeInts.f k q w).bind fun t326 => (laws_FnProportions.j1 k a b c p bad (!t326))) else (laws_FnProportions.j1 k a b c p bad false)))) ?_)
    simp only [show ¬ (q.sum > t) by omega, if_false]
    refine Ev.bind hsum ?_
    by_cases c1 : q.sum < t
    · simp only [c1, if_true]
      refine Ev.bind (L.laws_likeInts q w (by omega)) ?_
      rw [decide_eq_true (g2 c1)]
      exact j1
    · simp only [c1, if_false]; exact j1
  · exact Ev.step (f := fun _ => some true) (fun k => by simp only [laws_FnProportions.j0, Bool.false_eq_true, if_false, c0]; exact fin) (Ev.pure rfl)
end Go.Proofs.Ytccnbjaaaaljoaa.Pure

