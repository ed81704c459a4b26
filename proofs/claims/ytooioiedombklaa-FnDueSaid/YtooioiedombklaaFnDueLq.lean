/- The draws of the reference end and stay within their ranges. Condition: a source as told (Src). -/
import Derived.Test.YtooioiedombklaaFnDueLm
namespace Go.Proofs.Ytooioiedombklaa.L
set_option linter.unusedVariables false
set_option linter.unusedSimpArgs false
open Go.RowKit Go.Proofs.Ytooioiedombklaa.P Go.Proofs.YtooioiedombklaaW.PrintWords Go.Proofs.YtooioiedombklaaW.PrintLast Go.Proofs.YtooioiedombklaaW.PrintMore

/-- A source: a short code of bytes, a place in it, a seed. -/
def Src (b : List Int) (p s : Int) : Prop := b.length ≤ 4096 ∧ (∀ x ∈ b, 0 ≤ x ∧ x ≤ 255) ∧ 0 ≤ p ∧ p ≤ (b.length : Int) ∧ 0 ≤ s ∧ s < 2147483647
theorem next {b : List Int} {p s : Int} (h : Src b p s) (n : Int) (hn : n ≤ 10000000000) :
    ∃ r p' s', spec_l01Next.f b p s n = some (r, p', s') ∧ Src b p' s' ∧ 0 ≤ r ∧ (1 < n → r < n) ∧ (n ≤ 1 → r = 0) := by
  obtain ⟨h1, h2, h3, h4, h5, h6⟩ := h
  unfold spec_l01Next.f
  by_cases hn1 : n ≤ 1
  · exact ⟨0, p, s, by rw [if_pos hn1], ⟨h1, h2, h3, h4, h5, h6⟩, Int.le_refl _, fun q => absurd q (by omega), fun _ => rfl⟩
  rw [if_neg hn1]
  have e1 : wrap64 (wrap64 (s * 48271) + 29) = s * 48271 + 29 := by rw [w64 (x := s * 48271) (by omega) (by omega), w64 (by omega) (by omega)]
  rw [e1, tmod_pos (a := s * 48271 + 29) (by omega)]
  have g1 := Int.emod_nonneg (s * 48271 + 29) (show (2147483647 : Int) ≠ 0 by decide)
  have g2 := Int.emod_lt_of_pos (s * 48271 + 29) (show (0 : Int) < 2147483647 by decide)
  generalize (s * 48271 + 29) % 2147483647 = s' at g1 g2
  have hd : Int.tdiv s' 31 = s' / 31 := tdiv_pos g1
  have fin : ∀ v : Int, 0 ≤ v → ∀ q, 0 ≤ q → q ≤ (b.length : Int) → ∃ r p' s'', some (Int.tmod v n, q, s') = some (r, p', s'') ∧ Src b p' s'' ∧ 0 ≤ r ∧ (1 < n → r < n) ∧ (n ≤ 1 → r = 0) := by
    intro v hv q hq1 hq2
    refine ⟨Int.tmod v n, q, s', rfl, ⟨h1, h2, hq1, hq2, g1, g2⟩, ?_, fun _ => ?_, fun c => absurd c hn1⟩
    · rw [tmod_pos hv]; exact Int.emod_nonneg _ (by omega)
    · rw [tmod_pos hv]; exact Int.emod_lt_of_pos _ (by omega)
  rw [hd, w64 (x := s' / 31) (by omega) (by omega)]
  by_cases hp : p < (b.length : Int)
  · have hb := h2 _ (rd_mem b h3 hp)
    rw [if_pos hp, if_pos h3, w64 (x := p + 1) (by omega) (by omega), w64 (x := p + 1 - 1) (by omega) (by omega), show p + 1 - 1 = p by omega, w64 (x := rd b p) (by omega) (by omega), w64 (x := s' / 31 + rd b p) (by omega) (by omega)]
    by_cases hn2 : n ≤ 256
    · rw [if_pos hn2]
      by_cases hm : Int.tmod (p + 1) 2 = 0
      · rw [if_pos hm, if_pos h3, if_pos hp, if_neg (by omega)]
        exact fin _ hb.1 _ (by omega) (by omega)
      · rw [if_neg hm, if_neg (by omega)]
        exact fin _ (by omega) _ (by omega) (by omega)
    · rw [if_neg hn2, if_neg (by omega)]
      exact fin _ (by omega) _ (by omega) (by omega)
  · rw [if_neg hp, if_neg (by omega)]
    exact fin _ (by omega) _ (by omega) (by omega)
theorem pick {b : List Int} {p s : Int} (h : Src b p s) (l : List Int) (h0 : 0 < l.length) (hl : l.length ≤ 1000) :
    ∃ r p' s', spec_l01Pick.f b p s l = some (r, p', s') ∧ Src b p' s' ∧ r ∈ l := by
  obtain ⟨r, p', s', e, hs, r0, r1, r2⟩ := next h (l.length : Int) (by omega)
  have hr : r < (l.length : Int) := by
    by_cases c : (1 : Int) < (l.length : Int)
    · exact r1 c
    · have := r2 (by omega); omega
  exact ⟨rd l r, p', s', by unfold spec_l01Pick.f; rw [e]; simp only [Option.bind_some]; rw [if_pos r0, if_pos hr], hs, rd_mem l r0 hr⟩
theorem from_l0 (b : List Int) (h1 : b.length ≤ 4096) (h2 : ∀ x ∈ b, 0 ≤ x ∧ x ≤ 255) : ∀ (j : Nat) (i s : Int), 0 ≤ i → i + j = b.length → 0 ≤ s → s < 2147483647 →
    ∃ s', Ev (fun k => spec_l01From.l0 k b i b 0 s) (b, 0, s') ∧ Src b 0 s' := by
  intro j
  induction j with
  | zero =>
    intro i s h0 hj g1 g2
    refine ⟨s, Ev.step (f := fun _ => some (b, 0, s)) (fun k => ?_) (Ev.pure rfl), ⟨h1, h2, by omega, by omega, g1, g2⟩⟩
    simp only [spec_l01From.l0]; rw [if_neg (by omega)]
  | succ j ih =>
    intro i s h0 hj g1 g2
    by_cases h64 : i < 64
    · have hb := h2 _ (rd_mem b h0 (show i < (b.length : Int) by omega))
      have e : Int.tmod (wrap64 (wrap64 (s * 67) + wrap64 (rd b i))) 2147483647 = (s * 67 + rd b i) % 2147483647 := by
        rw [w64 (x := s * 67) (by omega) (by omega), w64 (x := rd b i) (by omega) (by omega), w64 (by omega) (by omega), tmod_pos (by omega)]
      have q1 := Int.emod_nonneg (s * 67 + rd b i) (show (2147483647 : Int) ≠ 0 by decide)
      have q2 := Int.emod_lt_of_pos (s * 67 + rd b i) (show (0 : Int) < 2147483647 by decide)
      obtain ⟨s', e1, e2⟩ := ih (i + 1) ((s * 67 + rd b i) % 2147483647) (by omega) (by omega) q1 q2
      refine ⟨s', Ev.step (fun k => ?_) e1, e2⟩
      simp only [spec_l01From.l0]; rw [if_pos (by omega), if_pos h64, if_pos h0, e, w64 (by omega) (by omega)]
    · refine ⟨s, Ev.step (f := fun _ => some (b, 0, s)) (fun k => ?_) (Ev.pure rfl), ⟨h1, h2, by omega, by omega, g1, g2⟩⟩
      simp only [spec_l01From.l0]; rw [if_pos (by omega), if_neg h64]
theorem from_ev (b : List Int) (h1 : b.length ≤ 4096) (h2 : ∀ x ∈ b, 0 ≤ x ∧ x ≤ 255) : ∃ s, Ev (fun k => spec_l01From.f k b) (b, 0, s) ∧ Src b 0 s := by
  unfold spec_l01From.f
  exact from_l0 b h1 h2 b.length 0 41017 (by omega) (by omega) (by omega) (by omega)
theorem drawAmount {b : List Int} {p s : Int} (h : Src b p s) : ∃ r p' s', spec_l01DrawAmount.f b p s = some (r, p', s') ∧ Src b p' s' := by
  obtain ⟨r1, p1, s1, e1, h1, _⟩ := next h 1000 (by omega)
  obtain ⟨r2, p2, s2, e2, h2, _⟩ := next h1 100000 (by omega)
  obtain ⟨r3, p3, s3, e3, h3, _⟩ := next h2 10000000 (by omega)
  obtain ⟨r4, p4, s4, e4, h4, _⟩ := next h3 10000 (by omega)
  obtain ⟨r5, p5, s5, e5, h5, _⟩ := next h4 100000 (by omega)
  obtain ⟨r6, p6, s6, e6, h6, _⟩ := next h5 2000000 (by omega)
  obtain ⟨r, p', s', e, hs, _⟩ := pick h6 [r1, r2, r3, wrap64 (100 * r4), 0, 1, r5, 1000000000, wrap64 (r6 - 1), 1000000001] (by simp) (by simp)
  exact ⟨r, p', s', by unfold spec_l01DrawAmount.f; simp only [e1, e2, e3, e4, e5, e6, e, Option.bind_some], hs⟩
theorem drawDay {b : List Int} {p s : Int} (h : Src b p s) : ∃ r p' s', spec_l02DrawDay.f b p s = some (r, p', s') ∧ Src b p' s' := by
  obtain ⟨r1, p1, s1, e1, h1, _⟩ := next h 36525 (by omega)
  obtain ⟨r2, p2, s2, e2, h2, _⟩ := next h1 4000 (by omega)
  obtain ⟨r3, p3, s3, e3, h3, _⟩ := next h2 4000 (by omega)
  obtain ⟨r4, p4, s4, e4, h4, _⟩ := next h3 4000 (by omega)
  obtain ⟨r, p', s', e, hs, _⟩ := pick h4 [r1, wrap64 (18000 + r2), 0, 36524, 36525, -1, wrap64 (18000 + r3), wrap64 (18000 + r4)] (by simp) (by simp)
  exact ⟨r, p', s', by unfold spec_l02DrawDay.f; simp only [e1, e2, e3, e4, e, Option.bind_some], hs⟩
end Go.Proofs.Ytooioiedombklaa.L

