/- The draws of chapter 4 (schedules of interest) end, and what is known of weights and interest. Condition: a source as told (Src). -/
import Derived.Test.YtooioiedombklaaFnDueLq
import Derived.Laws.BitsLemmas
namespace Go.Proofs.Ytooioiedombklaa.L
set_option linter.unusedVariables false
set_option linter.unusedSimpArgs false
open Go.RowKit Go.Proofs.Ytooioiedombklaa.P Go.Proofs.YtooioiedombklaaW.PrintWords Go.Proofs.YtooioiedombklaaW.PrintLast Go.Proofs.YtooioiedombklaaW.PrintMore

theorem draw4Valid_l0 (b : List Int) : ∀ (m : Nat) (x : List S37) (d p s : Int), Src b p s → x.length + m ≤ 20 →
    ∃ w p' s', Ev (fun k => spec_l04Valid.l0 k x d (m : Int) b p s) (w, p', s') ∧ Src b p' s' ∧ w.length = x.length + m := by
  intro m
  induction m with
  | zero =>
    intro x d p s h h1
    refine ⟨x, p, s, Ev.step (f := fun _ => some (x, p, s)) (fun k => ?_) (Ev.pure rfl), h, rfl⟩
    simp only [spec_l04Valid.l0]; rw [if_neg (by omega)]
  | succ m ih =>
    intro x d p s h h1
    obtain ⟨r1, p1, s1, e1, h1', _⟩ := next h 1000 (by omega)
    obtain ⟨r2, p2, s2, e2, h2, _⟩ := pick h1' [400, 700, r1, 0] (by simp) (by simp)
    obtain ⟨r3, p3, s3, e3, h3, _⟩ := next h2 300 (by omega)
    obtain ⟨w, p', s', e, hs, hw⟩ := ih (x ++ [⟨d, r2⟩]) (wrap64 (wrap64 (d + 1) + r3)) p3 s3 h3 (by simp; omega)
    refine ⟨w, p', s', Ev.step (fun k => ?_) e, hs, by rw [hw]; simp; omega⟩
    simp only [spec_l04Valid.l0]; rw [if_pos (by omega)]; simp only [e1, e2, e3, Option.bind_some]
    rw [if_pos (by omega), w64 (x := ((m + 1 : Nat) : Int) - 1) (by omega) (by omega), show ((m + 1 : Nat) : Int) - 1 = (m : Int) by omega]
theorem draw4Valid {b : List Int} {p s : Int} (h : Src b p s) : ∃ w p' s', Ev (fun k => spec_l04Valid.f k b p s) (w, p', s') ∧ Src b p' s' ∧ 1 ≤ w.length ∧ w.length ≤ 5 := by
  obtain ⟨r1, p1, s1, e1, h1, _⟩ := next h 200 (by omega)
  obtain ⟨r2, p2, s2, e2, h2, r20, r21, _⟩ := next h1 4 (by omega)
  have r22 := r21 (by omega)
  obtain ⟨w, p', s', e, hs, hw⟩ := draw4Valid_l0 b (1 + r2).toNat [] (wrap64 (19900 + r1)) p2 s2 h2 (by simp; omega)
  rw [show (((1 + r2).toNat : Nat) : Int) = 1 + r2 by omega] at e
  unfold spec_l04Valid.f
  refine ⟨w, p', s', ?_, hs, by rw [hw]; simp; omega, by rw [hw]; simp; omega⟩
  simp only [e1, e2, Option.bind_some]
  rw [w64 (x := 1 + r2) (by omega) (by omega)]
  exact e
theorem draw4 {b : List Int} {p s : Int} (h : Src b p s) : ∃ w p' s', Ev (fun k => spec_l04Draw.f k b p s) (w, p', s') ∧ Src b p' s' ∧ w.length ≤ 60 := by
  obtain ⟨w, p1, s1, e1, h1, hw1, hw2⟩ := draw4Valid h
  obtain ⟨r, p2, s2, e2, h2, _⟩ := next h1 24 (by omega)
  have hw : 0 < (w.length : Int) := by omega
  unfold spec_l04Draw.f
  by_cases c0 : r = 0
  · obtain ⟨v, p3, s3, e3, h3, _⟩ := pick h2 [-1, 10000, 10001] (by simp) (by simp)
    exact ⟨_, p3, s3, Ev.bind e1 (by simp only [e2, e3, c0, Option.bind_some, if_true, hw]; exact Ev.pure rfl), h3, by rw [List.length_set]; omega⟩
  by_cases c1 : r = 1
  · exact ⟨_, p2, s2, Ev.bind e1 (by simp only [e2, c1, Option.bind_some, show ¬ ((1 : Int) = 0) by omega, if_true, if_false, hw, show w.length < 8796093022208 by omega]; exact Ev.pure rfl), h2, by simp; omega⟩
  by_cases c2 : r = 2
  · exact ⟨_, p2, s2, Ev.bind e1 (by simp only [e2, c2, Option.bind_some, show ¬ ((2 : Int) = 0) by omega, show ¬ ((2 : Int) = 1) by omega, if_true, if_false, show (0 : Int) ≤ (w.length : Int) by omega]; exact Ev.pure rfl), h2, by simp⟩
  by_cases c3 : r = 3
  · obtain ⟨v, p3, s3, e3, h3⟩ := drawDay h2
    exact ⟨_, p3, s3, Ev.bind e1 (by simp only [e2, e3, c3, Option.bind_some, show ¬ ((3 : Int) = 0) by omega, show ¬ ((3 : Int) = 1) by omega, show ¬ ((3 : Int) = 2) by omega, if_true, if_false, hw]; exact Ev.pure rfl), h3, by rw [List.length_set]; omega⟩
  · exact ⟨w, p2, s2, Ev.bind e1 (by simp only [e2, Option.bind_some, c0, c1, c2, c3, if_false]; exact Ev.pure rfl), h2, by omega⟩
theorem draw4Day {b : List Int} {p s : Int} (h : Src b p s) : ∃ r p' s', spec_l04DrawDay.f b p s = some (r, p', s') ∧ Src b p' s' := by
  obtain ⟨r1, p1, s1, e1, h1, _⟩ := next h 1200 (by omega)
  obtain ⟨r2, p2, s2, e2, h2, _⟩ := next h1 1200 (by omega)
  obtain ⟨r3, p3, s3, e3, h3, _⟩ := next h2 1200 (by omega)
  obtain ⟨r4, p4, s4, e4, h4⟩ := drawDay h3
  obtain ⟨r, p', s', e, hs, _⟩ := pick h4 [wrap64 (19900 + r1), wrap64 (19900 + r2), wrap64 (19900 + r3), r4] (by simp) (by simp)
  exact ⟨r, p', s', by unfold spec_l04DrawDay.f; simp only [e1, e2, e3, e4, e, Option.bind_some], hs⟩
theorem draw4Points {b : List Int} {p s : Int} (h : Src b p s) : ∃ r p' s', spec_l04DrawPoints.f b p s = some (r, p', s') ∧ Src b p' s' := by
  obtain ⟨r1, p1, s1, e1, h1, _⟩ := next h 1000 (by omega)
  obtain ⟨r2, p2, s2, e2, h2, _⟩ := next h1 1000 (by omega)
  obtain ⟨r, p', s', e, hs, _⟩ := pick h2 [200, 700, r1, 0, 10000, 10001, -1, r2] (by simp) (by simp)
  exact ⟨r, p', s', by unfold spec_l04DrawPoints.f; simp only [e1, e2, e, Option.bind_some], hs⟩
theorem drawInterestBetween (b : List Int) (h1 : b.length ≤ 4096) (h2 : ∀ x ∈ b, 0 ≤ x ∧ x ≤ 255) : ∃ l a f t, Ev (fun k => spec_DrawInterestBetween.f k b) (l, a, f, t) ∧ l.length ≤ 60 := by
  obtain ⟨s, e0, h0⟩ := from_ev b h1 h2
  obtain ⟨l, p1, s1, e1, h1, hl⟩ := draw4 h0
  obtain ⟨a, p2, s2, e2, h2⟩ := drawAmount h1
  obtain ⟨f, p3, s3, e3, h3⟩ := draw4Day h2
  obtain ⟨t, p4, s4, e4, h4⟩ := draw4Day h3
  unfold spec_DrawInterestBetween.f
  exact ⟨l, a, f, t, Ev.bind e0 (Ev.bind e1 (by simp only [e2, e3, e4, Option.bind_some]; exact Ev.pure rfl)), hl⟩
theorem drawSimpleInterest (b : List Int) (h1 : b.length ≤ 4096) (h2 : ∀ x ∈ b, 0 ≤ x ∧ x ≤ 255) : ∃ x y z, Ev (fun k => spec_DrawSimpleInterest.f k b) (x, y, z) := by
  obtain ⟨s, e0, h0⟩ := from_ev b h1 h2
  obtain ⟨r1, p1, s1, e1, h1⟩ := drawAmount h0
  obtain ⟨r2, p2, s2, e2, h2⟩ := draw4Points h1
  obtain ⟨r3, p3, s3, e3, h3, _⟩ := next h2 1000 (by omega)
  obtain ⟨r4, p4, s4, e4, h4, _⟩ := next h3 1000 (by omega)
  obtain ⟨r5, p5, s5, e5, h5, _⟩ := pick h4 [0, 365, r3, 36524, 36525, -1, r4] (by simp) (by simp)
  unfold spec_DrawSimpleInterest.f
  exact ⟨r1, r2, r5, Ev.bind e0 (by simp only [e1, e2, e3, e4, e5, Option.bind_some]; exact Ev.pure rfl)⟩
theorem drawCommissionOf (b : List Int) (h1 : b.length ≤ 4096) (h2 : ∀ x ∈ b, 0 ≤ x ∧ x ≤ 255) : ∃ x y, Ev (fun k => spec_DrawCommissionOf.f k b) (x, y) := by
  obtain ⟨x, y, z, e⟩ := drawSimpleInterest b h1 h2
  unfold spec_DrawCommissionOf.f
  exact ⟨x, y, Ev.bind e (Ev.pure rfl)⟩
theorem drawDayWhenReached (b : List Int) (h1 : b.length ≤ 4096) (h2 : ∀ x ∈ b, 0 ≤ x ∧ x ≤ 255) : ∃ l a f g, Ev (fun k => spec_DrawDayWhenReached.f k b) (l, a, f, g) ∧ l.length ≤ 60 := by
  obtain ⟨s, e0, h0⟩ := from_ev b h1 h2
  obtain ⟨l, a, f, t, e, hl⟩ := drawInterestBetween b h1 h2
  obtain ⟨r1, p1, s1, e1, h1, _⟩ := next h0 1000 (by omega)
  obtain ⟨r2, p2, s2, e2, h2, _⟩ := next h1 100000 (by omega)
  obtain ⟨g, p3, s3, e3, h3, _⟩ := pick h2 [0, r1, r2, 1000000001] (by simp) (by simp)
  unfold spec_DrawDayWhenReached.f
  exact ⟨l, a, f, g, Ev.bind e0 (Ev.bind e (by simp only [e1, e2, e3, Option.bind_some]; exact Ev.pure rfl)), hl⟩
theorem drawPointsOn (b : List Int) (h1 : b.length ≤ 4096) (h2 : ∀ x ∈ b, 0 ≤ x ∧ x ≤ 255) : ∃ l d, Ev (fun k => spec_DrawPointsOn.f k b) (l, d) ∧ l.length ≤ 60 := by
  obtain ⟨s, e0, h0⟩ := from_ev b h1 h2
  obtain ⟨l, p1, s1, e1, h1, hl⟩ := draw4 h0
  obtain ⟨d, p2, s2, e2, h2⟩ := draw4Day h1
  unfold spec_DrawPointsOn.f
  exact ⟨l, d, Ev.bind e0 (Ev.bind e1 (by simp only [e2, Option.bind_some]; exact Ev.pure rfl)), hl⟩
theorem drawTotalDue (b : List Int) (h1 : b.length ≤ 4096) (h2 : ∀ x ∈ b, 0 ≤ x ∧ x ≤ 255) : ∃ l a c f t, Ev (fun k => spec_DrawTotalDue.f k b) (l, a, c, f, t) ∧ l.length ≤ 60 := by
  obtain ⟨s, e0, h0⟩ := from_ev b h1 h2
  obtain ⟨l, a, f, t, e, hl⟩ := drawInterestBetween b h1 h2
  obtain ⟨c, p1, s1, e1, h1⟩ := draw4Points h0
  unfold spec_DrawTotalDue.f
  exact ⟨l, a, c, f, t, Ev.bind e0 (Ev.bind e (by simp only [e1, Option.bind_some]; exact Ev.pure rfl)), hl⟩
end Go.Proofs.Ytooioiedombklaa.L

