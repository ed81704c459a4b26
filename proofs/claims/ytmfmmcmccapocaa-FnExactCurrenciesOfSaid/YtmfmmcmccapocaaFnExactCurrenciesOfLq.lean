/- The draws of the reference end and stay within their ranges. Condition: a source as told (Src). -/
import Derived.Test.YtmfmmcmccapocaaFnExactCurrenciesOfLt
namespace Go.Proofs.Ytmfmmcmccapocaa.L
set_option linter.unusedVariables false
set_option linter.unusedSimpArgs false
open Go.RowKit Go.Proofs.Ytmfmmcmccapocaa.P Go.Proofs.YtmfmmcmccapocaaW.PrintWords Go.Proofs.YtmfmmcmccapocaaW.PrintLast Go.Proofs.YtmfmmcmccapocaaW.PrintMore

/-- A source: a short code of bytes, a place in it, a seed. -/
def Src (b : List Int) (p s : Int) : Prop := b.length ≤ 4096 ∧ (∀ x ∈ b, 0 ≤ x ∧ x ≤ 255) ∧ 0 ≤ p ∧ p ≤ (b.length : Int) ∧ 0 ≤ s ∧ s < 2147483647
theorem next {b : List Int} {p s : Int} (h : Src b p s) (n : Int) (hn : n ≤ 10000000000) :
    ∃ r p' s', spec_l01Next.f b p s n = some (r, p', s') ∧ Src b p' s' ∧ 0 ≤ r ∧ (1 < n → r < n) ∧ (n ≤ 1 → r = 0) := by
  obtain ⟨h1, h2, h3, h4, h5, h6⟩ := h
  unfold spec_l01Next.f
  by_cases hn1 : n ≤ 1
  · exact ⟨0, p, s, by rw [if_pos hn1], ⟨h1, h2, h3, h4, h5, h6⟩, Int.le_refl _, fun q => absurd q (by omega), fun _ => rfl⟩
  rw [if_neg hn1]
  have e1 : wrap64 (wrap64 (s * 48271) + 29) = s * 48271 + 29 := by rw [w64 (x := s * 48271) (by omega) (by omega), w64 (by omega) (by omega)]
  rw [e1, tmod_pos (a := s * 48271 + 29) (by omega)]
  have g1 := Int.emod_nonneg (s * 48271 + 29) (show (2147483647 : Int) ≠ 0 by decide)
  have g2 := Int.emod_lt_of_pos (s * 48271 + 29) (show (0 : Int) < 2147483647 by decide)
  generalize (s * 48271 + 29) % 2147483647 = s' at g1 g2
  have hd : Int.tdiv s' 31 = s' / 31 := tdiv_pos g1
  have fin : ∀ v : Int, 0 ≤ v → ∀ q, 0 ≤ q → q ≤ (b.length : Int) → ∃ r p' s'', some (Int.tmod v n, q, s') = some (r, p', s'') ∧ Src b p' s'' ∧ 0 ≤ r ∧ (1 < n → r < n) ∧ (n ≤ 1 → r = 0) := by
    intro v hv q hq1 hq2
    refine ⟨Int.tmod v n, q, s', rfl, ⟨h1, h2, hq1, hq2, g1, g2⟩, ?_, fun _ => ?_, fun c => absurd c hn1⟩
    · rw [tmod_pos hv]; exact Int.emod_nonneg _ (by omega)
    · rw [tmod_pos hv]; exact Int.emod_lt_of_pos _ (by omega)
  rw [hd, w64 (x := s' / 31) (by omega) (by omega)]
  by_cases hp : p < (b.length : Int)
  · have hb := h2 _ (rd_mem b h3 hp)
    rw [if_pos hp, if_pos h3, w64 (x := p + 1) (by omega) (by omega), w64 (x := p + 1 - 1) (by omega) (by omega), show p + 1 - 1 = p by omega, w64 (x := rd b p) (by omega) (by omega), w64 (x := s' / 31 + rd b p) (by omega) (by omega)]
    by_cases hn2 : n ≤ 256
    · rw [if_pos hn2]
      by_cases hm : Int.tmod (p + 1) 2 = 0
      · rw [if_pos hm, if_pos h3, if_pos hp, if_neg (by omega)]
        exact fin _ hb.1 _ (by omega) (by omega)
      · rw [if_neg hm, if_neg (by omega)]
        exact fin _ (by omega) _ (by omega) (by omega)
    · rw [if_neg hn2, if_neg (by omega)]
      exact fin _ (by omega) _ (by omega) (by omega)
  · rw [if_neg hp, if_neg (by omega)]
    exact fin _ (by omega) _ (by omega) (by omega)
end Go.Proofs.Ytmfmmcmccapocaa.L

