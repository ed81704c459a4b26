/- The draws of chapter 4 (schedules of interest) end, and what is known of weights and interest. Condition: a source as told (Src). -/
import Derived.Test.YtooioiedombklaaFnInterestLq
import Derived.Laws.BitsLemmas
namespace Go.Proofs.Ytooioiedombklaa.L
set_option linter.unusedVariables false
set_option linter.unusedSimpArgs false
open Go.RowKit Go.Proofs.Ytooioiedombklaa.P Go.Proofs.YtooioiedombklaaW.PrintWords Go.Proofs.YtooioiedombklaaW.PrintLast Go.Proofs.YtooioiedombklaaW.PrintMore

theorem draw4Valid_l0 (b : List Int) : ∀ (m : Nat) (x : List S37) (d p s : Int), Src b p s → x.length + m ≤ 20 →
    ∃ w p' s', Ev (fun k => spec_l04Valid.l0 k x d (m : Int) b p s) (w, p', s') ∧ Src b p' s' ∧ w.length = x.length + m := by
  intro m
  induction m with
  | zero =>
    intro x d p s h h1
    refine ⟨x, p, s, Ev.step (f := fun _ => some (x, p, s)) (fun k => ?_) (Ev.pure rfl), h, rfl⟩
    simp only [spec_l04Valid.l0]; rw [if_neg (by omega)]
  | succ m ih =>
    intro x d p s h h1
    obtain ⟨r1, p1, s1, e1, h1', _⟩ := next h 1000 (by omega)
    obtain ⟨r2, p2, s2, e2, h2, _⟩ := pick h1' [400, 700, r1, 0] (by simp) (by simp)
    obtain ⟨r3, p3, s3, e3, h3, _⟩ := next h2 300 (by omega)
    obtain ⟨w, p', s', e, hs, hw⟩ := ih (x ++ [⟨d, r2⟩]) (wrap64 (wrap64 (d + 1) + r3)) p3 s3 h3 (by simp; omega)
    refine ⟨w, p', s', Ev.step (fun k => ?_) e, hs, by rw [hw]; simp; omega⟩
    simp only [spec_l04Valid.l0]; rw [if_pos (by omega)]; simp only [e1, e2, e3, Option.bind_some]
    rw [if_pos (by omega), w64 (x := ((m + 1 : Nat) : Int) - 1) (by omega) (by omega), show ((m + 1 : Nat) : Int) - 1 = (m : Int) by omega]
theorem draw4Valid {b : List Int} {p s : Int} (h : Src b p s) : ∃ w p' s', Ev (fun k => spec_l04Valid.f k b p s) (w, p', s') ∧ Src b p' s' ∧ 1 ≤ w.length ∧ w.length ≤ 5 := by
  obtain ⟨r1, p1, s1, e1, h1, _⟩ := next h 200 (by omega)
  obtain ⟨r2, p2, s2, e2, h2, r20, r21, _⟩ := next h1 4 (by omega)
  have r22 := r21 (by omega)
  obtain ⟨w, p', s', e, hs, hw⟩ := draw4Valid_l0 b (1 + r2).toNat [] (wrap64 (19900 + r1)) p2 s2 h2 (by simp; omega)
  rw [show (((1 + r2).toNat : Nat) : Int) = 1 + r2 by omega] at e
  unfold spec_l04Valid.f
  refine ⟨w, p', s', ?_, hs, by rw [hw]; simp; omega, by rw [hw]; simp; omega⟩
  simp only [e1, e2, Option.bind_some]
  rw [w64 (x := 1 + r2) (by omega) (by omega)]
  exact e
theorem draw4 {b : List Int} {p s : Int} (h : Src b p s) : ∃ w p' s', Ev (fun k => spec_l04Draw.f k b p s) (w, p', s') ∧ Src b p' s' ∧ w.length ≤ 60 := by
  obtain ⟨w, p1, s1, e1, h1, hw1, hw2⟩ := draw4Valid h
  obtain ⟨r, p2, s2, e2, h2, _⟩ := next h1 24 (by omega)
  have hw : 0 < (w.length : Int) := by omega
  unfold spec_l04Draw.f
  by_cases c0 : r = 0
  · obtain ⟨v, p3, s3, e3, h3, _⟩ := pick h2 [-1, 10000, 10001] (by simp) (by simp)
    exact ⟨_, p3, s3, Ev.bind e1 (by simp only [e2, e3, c0, Option.bind_some, if_true, hw]; exact Ev.pure rfl), h3, by rw [List.length_set]; omega⟩
  by_cases c1 : r = 1
  · exact ⟨_, p2, s2, Ev.bind e1 (by simp only [e2, c1, Option.bind_some, show ¬ ((1 : Int) = 0) by omega, if_true, if_false, hw, show w.length < 8796093022208 by omega]; exact Ev.pure rfl), h2, by simp; omega⟩
  by_cases c2 : r = 2
  · exact ⟨_, p2, s2, Ev.bind e1 (by simp only [e2, c2, Option.bind_some, show ¬ ((2 : Int) = 0) by omega, show ¬ ((2 : Int) = 1) by omega, if_true, if_false, show (0 : Int) ≤ (w.length : Int) by omega]; exact Ev.pure rfl), h2, by simp⟩
  by_cases c3 : r = 3
  · obtain ⟨v, p3, s3, e3, h3⟩ := drawDay h2
    exact ⟨_, p3, s3, Ev.bind e1 (by simp only [e2, e3, c3, Option.bind_some, show ¬ ((3 : Int) = 0) by omega, show ¬ ((3 : Int) = 1) by omega, show ¬ ((3 : Int) = 2) by omega, if_true, if_false, hw]; exact Ev.pure rfl), h3, by rw [List.length_set]; omega⟩
  · exact ⟨w, p2, s2, Ev.bind e1 (by simp only [e2, Option.bind_some, c0, c1, c2, c3, if_false]; exact Ev.pure rfl), h2, by omega⟩
theorem draw4Day {b : List Int} {p s : Int} (h : Src b p s) : ∃ r p' s', spec_l04DrawDay.f b p s = some (r, p', s') ∧ Src b p' s' := by
  obtain ⟨r1, p1, s1, e1, h1, _⟩ := next h 1200 (by omega)
  obtain ⟨r2, p2, s2, e2, h2, _⟩ := next h1 1200 (by omega)
  obtain ⟨r3, p3, s3, e3, h3, _⟩ := next h2 1200 (by omega)
  obtain ⟨r4, p4, s4, e4, h4⟩ := drawDay h3
  obtain ⟨r, p', s', e, hs, _⟩ := pick h4 [wrap64 (19900 + r1), wrap64 (19900 + r2), wrap64 (19900 + r3), r4] (by simp) (by simp)
  exact ⟨r, p', s', by unfold spec_l04DrawDay.f; simp only [e1, e2, e3, e4, e, Option.bind_some], hs⟩
theorem draw4Points {b : List Int} {p s : Int} (h : Src b p s) : ∃ r p' s', spec_l04DrawPoints.f b p s = some (r, p', s') ∧ Src b p' s' := by
  obtain ⟨r1, p1, s1, e1, h1, _⟩ := next h 1000 (by omega)
  obtain ⟨r2, p2, s2, e2, h2, _⟩ := next h1 1000 (by omega)
  obtain ⟨r, p', s', e, hs, _⟩ := pick h2 [200, 700, r1, 0, 10000, 10001, -1, r2] (by simp) (by simp)
  exact ⟨r, p', s', by unfold spec_l04DrawPoints.f; simp only [e1, e2, e, Option.bind_some], hs⟩
theorem drawInterestBetween (b : List Int) (h1 : b.length ≤ 4096) (h2 : ∀ x ∈ b, 0 ≤ x ∧ x ≤ 255) : ∃ l a f t, Ev (fun k => spec_DrawInterestBetween.f k b) (l, a, f, t) ∧ l.length ≤ 60 := by
  obtain ⟨s, e0, h0⟩ := from_ev b h1 h2
  obtain ⟨l, p1, s1, e1, h1, hl⟩ := draw4 h0
  obtain ⟨a, p2, s2, e2, h2⟩ := drawAmount h1
  obtain ⟨f, p3, s3, e3, h3⟩ := draw4Day h2
  obtain ⟨t, p4, s4, e4, h4⟩ := draw4Day h3
  unfold spec_DrawInterestBetween.f
  exact ⟨l, a, f, t, Ev.bind e0 (Ev.bind e1 (by simp only [e2, e3, e4, Option.bind_some]; exact Ev.pure rfl)), hl⟩
theorem drawSimpleInterest (b : List Int) (h1 : b.length ≤ 4096) (h2 : ∀ x ∈ b, 0 ≤ x ∧ x ≤ 255) : ∃ x y z, Ev (fun k => spec_DrawSimpleInterest.f k b) (x, y, z) := by
  obtain ⟨s, e0, h0⟩ := from_ev b h1 h2
  obtain ⟨r1, p1, s1, e1, h1⟩ := drawAmount h0
  obtain ⟨r2, p2, s2, e2, h2⟩ := draw4Points h1
  obtain ⟨r3, p3, s3, e3, h3, _⟩ := next h2 1000 (by omega)
  obtain ⟨r4, p4, s4, e4, h4, _⟩ := next h3 1000 (by omega)
  obtain ⟨r5, p5, s5, e5, h5, _⟩ := pick h4 [0, 365, r3, 36524, 36525, -1, r4] (by simp) (by simp)
  unfold spec_DrawSimpleInterest.f
  exact ⟨r1, r2, r5, Ev.bind e0 (by simp only [e1, e2, e3, e4, e5, Option.bind_some]; exact Ev.pure rfl)⟩
theorem drawWeightOf (b : List Int) (h1 : b.length ≤ 4096) (h2 : ∀ x ∈ b, 0 ≤ x ∧ x ≤ 255) : ∃ l f t, Ev (fun k => spec_DrawWeightOf.f k b) (l, f, t) ∧ l.length ≤ 60 := by
  obtain ⟨l, a, f, t, e, hl⟩ := drawInterestBetween b h1 h2
  unfold spec_DrawWeightOf.f
  exact ⟨l, f, t, Ev.bind e (Ev.pure rfl), hl⟩
theorem roll_l0 (b : List Int) (h1 : b.length ≤ 4096) : ∀ (j : Nat) (i s : Int), 0 ≤ i → i + j = b.length → ∃ s', Ev (fun k => laws_roll.l0 k b i b 0 s) (b, 0, s') := by
  intro j
  induction j with
  | zero =>
    intro i s h0 hj
    refine ⟨s, Ev.step (f := fun _ => some (b, 0, s)) (fun k => ?_) (Ev.pure rfl)⟩
    simp only [laws_roll.l0]; rw [if_neg (by omega)]
  | succ j ih =>
    intro i s h0 hj
    obtain ⟨s', e⟩ := ih (i + 1) (IntKind.u64.wrap ((IntKind.u64.wrap ((IntKind.u64.wrap (s * 1099511628211)) + (IntKind.u64.wrap (rd b i)))) + 3)) (by omega) (by omega)
    refine ⟨s', Ev.step (fun k => ?_) e⟩
    simp only [laws_roll.l0]; rw [if_pos (by omega), if_pos h0, w64 (by omega) (by omega)]
theorem roll_ev (b : List Int) (h1 : b.length ≤ 4096) (n : Int) : ∃ s, Ev (fun k => laws_roll.f k b n) (b, 0, s) := by
  unfold laws_roll.f
  exact roll_l0 b h1 b.length 0 _ (by omega) (by omega)
theorem u64_bd (x : Int) : 0 ≤ IntKind.u64.wrap x ∧ IntKind.u64.wrap x < 18446744073709551616 := by
  have h := bounds_u64 (wf_wrap .u64 x)
  omega
theorem wraps63 (n : Int) (h₀ : 0 ≤ n) (h₁ : n < 2 ^ 63) : IntKind.u64.wrap n = n := by rw [IntKind.wrap_u64]; omega
theorem mask24 (x : Int) (h0 : 0 ≤ x) (h1 : x < 4294967296) : 0 ≤ Go.bits .and .u64 x 16777215 ∧ Go.bits .and .u64 x 16777215 ≤ 16777215 := by
  have h := bits_mask .u64 63 (by decide) wraps63 24 (by decide) x h0 (by omega)
  have e : ((2 : Int) ^ 24 - 1) = 16777215 := by decide
  have e2 : ((2 : Int) ^ 24) = 16777216 := by decide
  rw [e, e2] at h
  rw [h]
  omega
theorem dice_below (b : List Int) (h1 : 0 < (b.length : Int) → 0 ≤ rd b 0 ∧ rd b 0 ≤ 255) (s n : Int) (hn : 1 ≤ n) : ∃ r i s', laws_dice_below.f b 0 s n = some (r, i, s') ∧ 0 ≤ r ∧ r < n := by
  have w1 := u64_bd (IntKind.u64.wrap (s * 6364136223846793005) + 1442695040888963407)
  unfold laws_dice_below.f
  generalize IntKind.u64.wrap (IntKind.u64.wrap (s * 6364136223846793005) + 1442695040888963407) = h at w1
  have m := mask24 (h / 8589934592) (by omega) (by omega)
  generalize Go.bits .and .u64 (h / 8589934592) 16777215 = y at m
  have fin : ∀ v : Int, 0 ≤ v → ∀ q : Int, ∃ r i s', some (Int.tmod v n, q, h) = some (r, i, s') ∧ 0 ≤ r ∧ r < n := by
    intro v hv q
    refine ⟨Int.tmod v n, q, h, rfl, ?_, ?_⟩
    · rw [tmod_pos hv]; exact Int.emod_nonneg _ (by omega)
    · rw [tmod_pos hv]; exact Int.emod_lt_of_pos _ (by omega)
  rw [w64 (x := y) (by omega) (by omega)]
  by_cases hp : 0 < (b.length : Int)
  · have hb := h1 hp
    rw [if_pos hp, if_pos (Int.le_refl 0), if_neg (by omega), w64 (x := rd b 0) (by omega) (by omega), w64 (x := y + rd b 0) (by omega) (by omega)]
    exact fin _ (by omega) _
  · rw [if_neg hp, if_neg (by omega)]
    exact fin _ (by omega) _
theorem len_add {s f m t u : Int} (h1 : f ≤ m) (h2 : m ≤ t) : mx (mn m u - mx s f) 0 + mx (mn t u - mx s m) 0 = mx (mn t u - mx s f) 0 := by
  unfold mx mn; repeat' split <;> omega
theorem len_add1 {s f m t : Int} (h1 : f ≤ m) (h2 : m ≤ t) : mx (m - mx s f) 0 + mx (t - mx s m) 0 = mx (t - mx s f) 0 := by
  unfold mx; repeat' split <;> omega
theorem wt_add {f m t : Int} (h1 : f ≤ m) (h2 : m ≤ t) : ∀ l : List S37, wt f m l + wt m t l = wt f t l
  | [] => rfl
  | [x] => by
    simp only [wt, part1]
    rw [← Int.mul_add, len_add1 h1 h2]
  | x :: y :: l => by
    have ih := wt_add h1 h2 (y :: l)
    have e : part1 f (mn m y.f0) x + part1 m (mn t y.f0) x = part1 f (mn t y.f0) x := by
      simp only [part1]
      rw [← Int.mul_add, len_add h1 h2]
    simp only [wt] at ih ⊢
    omega
end Go.Proofs.Ytooioiedombklaa.L

