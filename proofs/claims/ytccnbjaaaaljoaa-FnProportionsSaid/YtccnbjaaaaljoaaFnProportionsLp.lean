/- What the laws' own small functions answer (equal lists, sums), and what is known of amounts that are taken down. Conditions: lists of bounded length. -/
import Derived.Test.YtccnbjaaaaljoaaFnProportionsLg
namespace Go.Proofs.Ytccnbjaaaaljoaa.L
set_option linter.unusedVariables false
set_option linter.unusedSimpArgs false
open Go.RowKit Go.Proofs.Ytccnbjaaaaljoaa.P Go.Proofs.YtccnbjaaaaljoaaW.PrintWords Go.Proofs.YtccnbjaaaaljoaaW.PrintLast Go.Proofs.YtccnbjaaaaljoaaW.PrintMore

theorem laws_likeInts_l0 (a b : List Int) (hl : a.length ≤ 1048576) (hb : a.length = b.length) : ∀ (j : Nat) (i : Int), 0 ≤ i → i + j = a.length →
    Ev (fun k => laws_likeInts.l0 k a b i) (decide (a.drop i.toNat = b.drop i.toNat)) := by
  intro j
  induction j with
  | zero =>
    intro i h0 h1
    refine Ev.step (f := fun _ => some true) (fun k => ?_) (Ev.pure ?_)
    · simp only [laws_likeInts.l0]; rw [if_neg (by omega)]
    · rw [drop_end a (by omega), drop_end b (by omega)]; rfl
  | succ j ih =>
    intro i h0 h1
    rw [drop_step a h0 (by omega), drop_step b h0 (by omega)]
    by_cases h : rd a i = rd b i
    · refine Ev.step (fun k => ?_) (f := fun k => laws_likeInts.l0 k a b (i + 1)) ?_
      · simp only [laws_likeInts.l0]
        rw [if_pos (by omega), if_pos h0, if_pos (by omega), if_pos h, w64 (by omega) (by omega)]
      · have := ih (i + 1) (by omega) (by omega)
        rw [show decide (rd a i :: a.drop (i + 1).toNat = rd b i :: b.drop (i + 1).toNat) = decide (a.drop (i + 1).toNat = b.drop (i + 1).toNat) by simp [h]]
        exact this
    · refine Ev.step (f := fun _ => some false) (fun k => ?_) (Ev.pure (by simp [h]))
      simp only [laws_likeInts.l0]
      rw [if_pos (by omega), if_pos h0, if_pos (by omega), if_neg h]
theorem laws_likeInts (a b : List Int) (hl : a.length ≤ 1048576) : Ev (fun k => laws_likeInts.f k a b) (decide (a = b)) := by
  unfold laws_likeInts.f
  by_cases h : (a.length : Int) = (b.length : Int)
  · simp only [h, if_true]
    have := laws_likeInts_l0 a b hl (by omega) a.length 0 (by omega) (by omega)
    simpa using this
  · simp only [h, if_false]
    exact Ev.pure (by rw [decide_eq_false]; intro q; rw [q] at h; exact h rfl)
theorem laws_sum_l0 (l : List Int) (hl : l.length ≤ 1048576) (hp : ∀ x ∈ l, 0 ≤ x) : ∀ (j : Nat) (i x : Int), 0 ≤ i → i + j = l.length → 0 ≤ x → x + (l.drop i.toNat).sum ≤ 4000000000000000000 →
    Ev (fun k => laws_sum.l0 k l x i) (x + (l.drop i.toNat).sum) := by
  intro j
  induction j with
  | zero =>
    intro i x h0 h1 h2 h3
    refine Ev.step (f := fun _ => some x) (fun k => ?_) (Ev.pure ?_)
    · simp only [laws_sum.l0]; rw [if_neg (by omega)]
    · rw [drop_end l (by omega)]; simp
  | succ j ih =>
    intro i x h0 h1 h2 h3
    have hr : 0 ≤ rd l i := hp _ (rd_mem l h0 (by omega))
    have hs := sum_nonneg (l := l.drop (i + 1).toNat) fun y hy => hp y (drop_mem hy)
    rw [drop_step l h0 (by omega), List.sum_cons] at h3 ⊢
    have h := ih (i + 1) (x + rd l i) (by omega) (by omega) (by omega) (by omega)
    refine Ev.step (fun k => ?_) (f := fun k => laws_sum.l0 k l (x + rd l i) (i + 1)) ?_
    · simp only [laws_sum.l0]
      rw [if_pos (by omega), if_pos h0, w64 (by omega) (by omega), w64 (by omega) (by omega)]
    · rw [show x + (rd l i + (l.drop (i + 1).toNat).sum) = x + rd l i + (l.drop (i + 1).toNat).sum by omega]; exact h
theorem laws_sum (l : List Int) (hl : l.length ≤ 1048576) (hp : ∀ x ∈ l, 0 ≤ x) (hs : l.sum ≤ 4000000000000000000) : Ev (fun k => laws_sum.f k l) l.sum := by
  have h := laws_sum_l0 l hl hp l.length 0 0 (by omega) (by omega) (by omega) (by simpa using hs)
  unfold laws_sum.f
  simpa using h
theorem takeL_sum : ∀ (l : List Int) (a : Int), 0 ≤ a → Amounts l → 0 ≤ (takeL a l).sum ∧ (takeL a l).sum ≤ a ∧ ((takeL a l).sum < a → takeL a l = l) ∧ Amounts (takeL a l)
  | [], a, h, _ => ⟨by simp [takeL], by simpa [takeL] using h, fun _ => rfl, fun x hx => by simp [takeL] at hx⟩
  | x :: l, a, h, hl => by
    have hx := hl x List.mem_cons_self
    have hm := mn_bd h hx.1
    obtain ⟨i0, i1, i2, i3⟩ := takeL_sum l (a - mn a x) (by omega) fun y hy => hl y (List.mem_cons_of_mem _ hy)
    simp only [takeL, List.sum_cons]
    refine ⟨by omega, by omega, fun hlt => ?_, fun y hy => ?_⟩
    · have e := i2 (by omega)
      have : mn a x = x := by
        unfold mn at i0 i1 hlt ⊢
        by_cases hc : x < a
        · rw [if_pos hc]
        · rw [if_neg hc] at i0 i1 hlt ⊢; omega
      rw [e, this]
    · rcases List.mem_cons.1 hy with rfl | hy
      · omega
      · exact i3 y hy
theorem near_fact {n c : Int} (hn : 0 ≤ n) (hc : 0 < c) : 2 * (near n c * c - n) ≤ c ∧ 2 * (n - near n c * c) < c + 1 := by
  have h1 := Int.mul_ediv_add_emod n c
  have h2 := Int.emod_nonneg n (show c ≠ 0 by omega)
  have h3 := Int.emod_lt_of_pos n hc
  unfold near
  split
  · have e : (n / c + 1) * c = c * (n / c) + c := by rw [Int.add_mul, Int.mul_comm]; omega
    rw [e]; omega
  · have e : n / c * c = c * (n / c) := Int.mul_comm _ _
    rw [e]; omega
end Go.Proofs.Ytccnbjaaaaljoaa.L

