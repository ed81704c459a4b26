/- The draws of the reference end and stay within their ranges. Condition: a source as told (Src). -/
import Derived.Test.YtccnbjaaaaljoaaFnProportionsLp
namespace Go.Proofs.Ytccnbjaaaaljoaa.L
set_option linter.unusedVariables false
set_option linter.unusedSimpArgs false
open Go.RowKit Go.Proofs.Ytccnbjaaaaljoaa.P Go.Proofs.YtccnbjaaaaljoaaW.PrintWords Go.Proofs.YtccnbjaaaaljoaaW.PrintLast Go.Proofs.YtccnbjaaaaljoaaW.PrintMore

/-- A source: a short code of bytes, a place in it, a seed. -/
def Src (b : List Int) (p s : Int) : Prop := b.length ≤ 4096 ∧ (∀ x ∈ b, 0 ≤ x ∧ x ≤ 255) ∧ 0 ≤ p ∧ p ≤ (b.length : Int) ∧ 0 ≤ s ∧ s < 2147483647
theorem next {b : List Int} {p s : Int} (h : Src b p s) (n : Int) (hn : n ≤ 10000000000) :
    ∃ r p' s', spec_l01Next.f b p s n = some (r, p', s') ∧ Src b p' s' ∧ 0 ≤ r ∧ (1 < n → r < n) ∧ (n ≤ 1 → r = 0) := by
  obtain ⟨h1, h2, h3, h4, h5, h6⟩ := h
  unfold spec_l01Next.f
  by_cases hn1 : n ≤ 1
  · exact ⟨0, p, s, by rw [if_pos hn1], ⟨h1, h2, h3, h4, h5, h6⟩, Int.le_refl _, fun q => absurd q (by omega), fun _ => rfl⟩
  rw [if_neg hn1]
  have e1 : wrap64 (wrap64 (s * 48271) + 29) = s * 48271 + 29 := by rw [w64 (x := s * 48271) (by omega) (by omega), w64 (by omega) (by omega)]
  rw [e1, tmod_pos (a := s * 48271 + 29) (by omega)]
  have g1 := Int.emod_nonneg (s * 48271 + 29) (show (2147483647 : Int) ≠ 0 by decide)
  have g2 := Int.emod_lt_of_pos (s * 48271 + 29) (show (0 : Int) < 2147483647 by decide)
  generalize (s * 48271 + 29) % 2147483647 = s' at g1 g2
  have hd : Int.tdiv s' 31 = s' / 31 := tdiv_pos g1
  have fin : ∀ v : Int, 0 ≤ v → ∀ q, 0 ≤ q → q ≤ (b.length : Int) → ∃ r p' s'', some (Int.tmod v n, q, s') = some (r, p', s'') ∧ Src b p' s'' ∧ 0 ≤ r ∧ (1 < n → r < n) ∧ (n ≤ 1 → r = 0) := by
    intro v hv q hq1 hq2
    refine ⟨Int.tmod v n, q, s', rfl, ⟨h1, h2, hq1, hq2, g1, g2⟩, ?_, fun _ => ?_, fun c => absurd c hn1⟩
    · rw [tmod_pos hv]; exact Int.emod_nonneg _ (by omega)
    · rw [tmod_pos hv]; exact Int.emod_lt_of_pos _ (by omega)
  rw [hd, w64 (x := s' / 31) (by omega) (by omega)]
  by_cases hp : p < (b.length : Int)
  · have hb := h2 _ (rd_mem b h3 hp)
    rw [if_pos hp, if_pos h3, w64 (x := p + 1) (by omega) (by omega), w64 (x := p + 1 - 1) (by omega) (by omega), show p + 1 - 1 = p by omega, w64 (x := rd b p) (by omega) (by omega), w64 (x := s' / 31 + rd b p) (by omega) (by omega)]
    by_cases hn2 : n ≤ 256
    · rw [if_pos hn2]
      by_cases hm : Int.tmod (p + 1) 2 = 0
      · rw [if_pos hm, if_pos h3, if_pos hp, if_neg (by omega)]
        exact fin _ hb.1 _ (by omega) (by omega)
      · rw [if_neg hm, if_neg (by omega)]
        exact fin _ (by omega) _ (by omega) (by omega)
    · rw [if_neg hn2, if_neg (by omega)]
      exact fin _ (by omega) _ (by omega) (by omega)
  · rw [if_neg hp, if_neg (by omega)]
    exact fin _ (by omega) _ (by omega) (by omega)
theorem pick {b : List Int} {p s : Int} (h : Src b p s) (l : List Int) (h0 : 0 < l.length) (hl : l.length ≤ 1000) :
    ∃ r p' s', spec_l01Pick.f b p s l = some (r, p', s') ∧ Src b p' s' ∧ r ∈ l := by
  obtain ⟨r, p', s', e, hs, r0, r1, r2⟩ := next h (l.length : Int) (by omega)
  have hr : r < (l.length : Int) := by
    by_cases c : (1 : Int) < (l.length : Int)
    · exact r1 c
    · have := r2 (by omega); omega
  exact ⟨rd l r, p', s', by unfold spec_l01Pick.f; rw [e]; simp only [Option.bind_some]; rw [if_pos r0, if_pos hr], hs, rd_mem l r0 hr⟩
theorem from_l0 (b : List Int) (h1 : b.length ≤ 4096) (h2 : ∀ x ∈ b, 0 ≤ x ∧ x ≤ 255) : ∀ (j : Nat) (i s : Int), 0 ≤ i → i + j = b.length → 0 ≤ s → s < 2147483647 →
    ∃ s', Ev (fun k => spec_l01From.l0 k b i b 0 s) (b, 0, s') ∧ Src b 0 s' := by
  intro j
  induction j with
  | zero =>
    intro i s h0 hj g1 g2
    refine ⟨s, Ev.step (f := fun _ => some (b, 0, s)) (fun k => ?_) (Ev.pure rfl), ⟨h1, h2, by omega, by omega, g1, g2⟩⟩
    simp only [spec_l01From.l0]; rw [if_neg (by omega)]
  | succ j ih =>
    intro i s h0 hj g1 g2
    by_cases h64 : i < 64
    · have hb := h2 _ (rd_mem b h0 (show i < (b.length : Int) by omega))
      have e : Int.tmod (wrap64 (wrap64 (s * 67) + wrap64 (rd b i))) 2147483647 = (s * 67 + rd b i) % 2147483647 := by
        rw [w64 (x := s * 67) (by omega) (by omega), w64 (x := rd b i) (by omega) (by omega), w64 (by omega) (by omega), tmod_pos (by omega)]
      have q1 := Int.emod_nonneg (s * 67 + rd b i) (show (2147483647 : Int) ≠ 0 by decide)
      have q2 := Int.emod_lt_of_pos (s * 67 + rd b i) (show (0 : Int) < 2147483647 by decide)
      obtain ⟨s', e1, e2⟩ := ih (i + 1) ((s * 67 + rd b i) % 2147483647) (by omega) (by omega) q1 q2
      refine ⟨s', Ev.step (fun k => ?_) e1, e2⟩
      simp only [spec_l01From.l0]; rw [if_pos (by omega), if_pos h64, if_pos h0, e, w64 (by omega) (by omega)]
    · refine ⟨s, Ev.step (f := fun _ => some (b, 0, s)) (fun k => ?_) (Ev.pure rfl), ⟨h1, h2, by omega, by omega, g1, g2⟩⟩
      simp only [spec_l01From.l0]; rw [if_pos (by omega), if_neg h64]
theorem from_ev (b : List Int) (h1 : b.length ≤ 4096) (h2 : ∀ x ∈ b, 0 ≤ x ∧ x ≤ 255) : ∃ s, Ev (fun k => spec_l01From.f k b) (b, 0, s) ∧ Src b 0 s := by
  unfold spec_l01From.f
  exact from_l0 b h1 h2 b.length 0 41017 (by omega) (by omega) (by omega) (by omega)
theorem drawAmount {b : List Int} {p s : Int} (h : Src b p s) : ∃ r p' s', spec_l01DrawAmount.f b p s = some (r, p', s') ∧ Src b p' s' := by
  obtain ⟨r1, p1, s1, e1, h1, _⟩ := next h 1000 (by omega)
  obtain ⟨r2, p2, s2, e2, h2, _⟩ := next h1 100000 (by omega)
  obtain ⟨r3, p3, s3, e3, h3, _⟩ := next h2 10000000 (by omega)
  obtain ⟨r4, p4, s4, e4, h4, _⟩ := next h3 10000 (by omega)
  obtain ⟨r5, p5, s5, e5, h5, _⟩ := next h4 100000 (by omega)
  obtain ⟨r6, p6, s6, e6, h6, _⟩ := next h5 2000000 (by omega)
  obtain ⟨r, p', s', e, hs, _⟩ := pick h6 [r1, r2, r3, wrap64 (100 * r4), 0, 1, r5, 1000000000, wrap64 (r6 - 1), 1000000001] (by simp) (by simp)
  exact ⟨r, p', s', by unfold spec_l01DrawAmount.f; simp only [e1, e2, e3, e4, e5, e6, e, Option.bind_some], hs⟩
theorem drawGood {b : List Int} {p s : Int} (h : Src b p s) : ∃ r p' s', spec_l01DrawGood.f b p s = some (r, p', s') ∧ Src b p' s' := by
  obtain ⟨r1, p1, s1, e1, h1, _⟩ := next h 1000 (by omega)
  obtain ⟨r2, p2, s2, e2, h2, _⟩ := next h1 100000 (by omega)
  obtain ⟨r3, p3, s3, e3, h3, _⟩ := next h2 1000000 (by omega)
  obtain ⟨r4, p4, s4, e4, h4, _⟩ := next h3 10000 (by omega)
  obtain ⟨r, p', s', e, hs, _⟩ := pick h4 [r1, r2, r3, wrap64 (100 * r4), 0] (by simp) (by simp)
  exact ⟨r, p', s', by unfold spec_l01DrawGood.f; simp only [e1, e2, e3, e4, e, Option.bind_some], hs⟩
theorem drawWeights_l1 (b : List Int) : ∀ (m : Nat) (x : List Int) (p s : Int), Src b p s → 13 ≤ x.length + m → x.length + m ≤ 60 →
    ∃ w p' s', Ev (fun k => spec_l01DrawWeights.l1 k x b p s) (w, p', s') ∧ Src b p' s' ∧ w.length ≤ 60 := by
  intro m
  induction m with
  | zero =>
    intro x p s h h1 h2
    obtain ⟨r, p', s', e, hs, r0, r1, _⟩ := next h 2 (by omega)
    have r2 := r1 (by omega)
    refine ⟨x, p', s', Ev.step (f := fun _ => some (x, p', s')) (fun k => ?_) (Ev.pure rfl), hs, by omega⟩
    simp only [spec_l01DrawWeights.l1, e, Option.bind_some]; rw [w64 (by omega) (by omega), if_neg (by omega)]
  | succ m ih =>
    intro x p s h h1 h2
    obtain ⟨r, p', s', e, hs, r0, r1, _⟩ := next h 2 (by omega)
    have r2 := r1 (by omega)
    by_cases hc : (x.length : Int) < 12 + r
    · obtain ⟨w, p2, s2, e2, hs2, hw⟩ := ih (x ++ [1]) p' s' hs (by simp; omega) (by simp; omega)
      refine ⟨w, p2, s2, Ev.step (fun k => ?_) e2, hs2, hw⟩
      simp only [spec_l01DrawWeights.l1, e, Option.bind_some]; rw [w64 (by omega) (by omega), if_pos hc, if_pos (by omega)]
    · refine ⟨x, p', s', Ev.step (f := fun _ => some (x, p', s')) (fun k => ?_) (Ev.pure rfl), hs, by omega⟩
      simp only [spec_l01DrawWeights.l1, e, Option.bind_some]; rw [w64 (by omega) (by omega), if_neg hc]
theorem drawWeights_l0 (b : List Int) : ∀ (m : Nat) (x : List Int) (p s : Int), Src b p s → x.length + m ≤ 20 →
    ∃ w p' s', Ev (fun k => spec_l01DrawWeights.l0 k x (m : Int) b p s) (w, p', s') ∧ Src b p' s' ∧ w.length ≤ 60 := by
  intro m
  induction m with
  | zero =>
    intro x p s h h1
    obtain ⟨r, p1, s1, e, hs, _⟩ := next h 24 (by omega)
    by_cases c0 : r = 0
    · obtain ⟨a, p2, s2, e2, hs2⟩ := drawAmount hs
      refine ⟨x ++ [a], p2, s2, Ev.step (f := fun _ => some (x ++ [a], p2, s2)) (fun k => ?_) (Ev.pure rfl), hs2, by simp; omega⟩
      simp only [spec_l01DrawWeights.l0]; rw [if_neg (by omega)]; simp only [e, e2, c0, Option.bind_some, if_true]; rw [if_pos (by omega)]
    by_cases c1 : r = 1
    · obtain ⟨w, p2, s2, e2, hs2, hw⟩ := drawWeights_l1 b (40 - x.length) x p1 s1 hs (by omega) (by omega)
      refine ⟨w, p2, s2, Ev.step (fun k => ?_) e2, hs2, hw⟩
      simp only [spec_l01DrawWeights.l0]; rw [if_neg (by omega)]; simp only [e, Option.bind_some]; rw [if_neg c0, if_pos c1]
    by_cases c2 : r = 2
    · refine ⟨[0, 0], p1, s1, Ev.step (f := fun _ => some ([0, 0], p1, s1)) (fun k => ?_) (Ev.pure rfl), hs, by simp⟩
      simp only [spec_l01DrawWeights.l0]; rw [if_neg (by omega)]; simp only [e, Option.bind_some]; rw [if_neg c0, if_neg c1, if_pos c2]
    · refine ⟨x, p1, s1, Ev.step (f := fun _ => some (x, p1, s1)) (fun k => ?_) (Ev.pure rfl), hs, by omega⟩
      simp only [spec_l01DrawWeights.l0]; rw [if_neg (by omega)]; simp only [e, Option.bind_some]; rw [if_neg c0, if_neg c1, if_neg c2]
  | succ m ih =>
    intro x p s h h1
    obtain ⟨a, p1, s1, e, hs⟩ := drawGood h
    obtain ⟨w, p2, s2, e2, hs2, hw⟩ := ih (x ++ [a]) p1 s1 hs (by simp; omega)
    refine ⟨w, p2, s2, Ev.step (fun k => ?_) e2, hs2, hw⟩
    simp only [spec_l01DrawWeights.l0]; rw [if_pos (by omega)]; simp only [e, Option.bind_some]
    rw [if_pos (by omega), w64 (by omega) (by omega), show ((m + 1 : Nat) : Int) - 1 = (m : Int) by omega]
theorem drawWeights {b : List Int} {p s : Int} (h : Src b p s) : ∃ w p' s', Ev (fun k => spec_l01DrawWeights.f k b p s) (w, p', s') ∧ Src b p' s' ∧ w.length ≤ 60 := by
  obtain ⟨r, p1, s1, e, hs, r0, r1, _⟩ := next h 7 (by omega)
  have r2 := r1 (by omega)
  obtain ⟨w, p2, s2, e2, hs2, hw⟩ := drawWeights_l0 b r.toNat [] p1 s1 hs (by simp; omega)
  rw [show ((r.toNat : Nat) : Int) = r by omega] at e2
  unfold spec_l01DrawWeights.f
  exact ⟨w, p2, s2, by simp only [e, Option.bind_some]; exact e2, hs2, hw⟩
theorem drawShareOut (b : List Int) (h1 : b.length ≤ 4096) (h2 : ∀ x ∈ b, 0 ≤ x ∧ x ≤ 255) : ∃ t w, Ev (fun k => spec_DrawShareOut.f k b) (t, w) ∧ w.length ≤ 60 := by
  obtain ⟨s, e0, h0⟩ := from_ev b h1 h2
  obtain ⟨t, p1, s1, e1, h1⟩ := drawAmount h0
  obtain ⟨w, p2, s2, e2, h2, hw⟩ := drawWeights h1
  unfold spec_DrawShareOut.f
  exact ⟨t, w, Ev.bind e0 (by simp only [e1, Option.bind_some]; exact Ev.bind e2 (Ev.pure rfl)), hw⟩
theorem drawTakeDown (b : List Int) (h1 : b.length ≤ 4096) (h2 : ∀ x ∈ b, 0 ≤ x ∧ x ≤ 255) : ∃ t w, Ev (fun k => spec_DrawTakeDown.f k b) (t, w) ∧ w.length ≤ 60 := by
  obtain ⟨t, w, e, hw⟩ := drawShareOut b h1 h2
  unfold spec_DrawTakeDown.f
  exact ⟨t, w, Ev.bind e (Ev.pure rfl), hw⟩
theorem drawProportionOf (b : List Int) (h1 : b.length ≤ 4096) (h2 : ∀ x ∈ b, 0 ≤ x ∧ x ≤ 255) : ∃ x y z, Ev (fun k => spec_DrawProportionOf.f k b) (x, y, z) := by
  obtain ⟨s, e0, h0⟩ := from_ev b h1 h2
  obtain ⟨r1, p1, s1, e1, h1⟩ := drawAmount h0
  obtain ⟨r2, p2, s2, e2, h2⟩ := drawAmount h1
  obtain ⟨r3, p3, s3, e3, h3⟩ := drawAmount h2
  obtain ⟨r4, p4, s4, e4, h4⟩ := drawAmount h3
  obtain ⟨r5, p5, s5, e5, h5, _⟩ := pick h4 [r3, r4, 0, 2, 3, 7, 100] (by simp) (by simp)
  unfold spec_DrawProportionOf.f
  exact ⟨r1, r2, r5, Ev.bind e0 (by simp only [e1, e2, e3, e4, e5, Option.bind_some]; exact Ev.pure rfl)⟩
theorem drawSumAmounts (b : List Int) (h1 : b.length ≤ 4096) (h2 : ∀ x ∈ b, 0 ≤ x ∧ x ≤ 255) : ∃ w, Ev (fun k => spec_DrawSumAmounts.f k b) w ∧ w.length ≤ 100 := by
  obtain ⟨s, e0, h0⟩ := from_ev b h1 h2
  obtain ⟨w, p2, s2, e2, h2, hw⟩ := drawWeights h0
  obtain ⟨r, p3, s3, e3, h3, _⟩ := next h2 8 (by omega)
  unfold spec_DrawSumAmounts.f
  by_cases c : r = 0
  · exact ⟨w ++ [1000000000], Ev.bind e0 (Ev.bind e2 (by simp only [e3, Option.bind_some, c, if_true, show w.length < 17592186044416 by omega]; exact Ev.pure rfl)), by simp; omega⟩
  · exact ⟨w, Ev.bind e0 (Ev.bind e2 (by simp only [e3, Option.bind_some, c, if_false]; exact Ev.pure rfl)), by omega⟩
theorem drawIsAmount (b : List Int) (h1 : b.length ≤ 4096) (h2 : ∀ x ∈ b, 0 ≤ x ∧ x ≤ 255) : ∃ x, Ev (fun k => spec_DrawIsAmount.f k b) x := by
  obtain ⟨s, e0, h0⟩ := from_ev b h1 h2
  obtain ⟨r1, p1, s1, e1, h1⟩ := drawAmount h0
  unfold spec_DrawIsAmount.f
  exact ⟨r1, Ev.bind e0 (by simp only [e1, Option.bind_some]; exact Ev.pure rfl)⟩
end Go.Proofs.Ytccnbjaaaaljoaa.L

