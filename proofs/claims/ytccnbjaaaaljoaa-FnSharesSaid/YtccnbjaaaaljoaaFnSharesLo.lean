/- What is shared out is fair: the parts add up to the total, each is the exact one rounded down or up. -/
import Derived.Test.YtccnbjaaaaljoaaFnSharesLh
namespace Go.Proofs.Ytccnbjaaaaljoaa.L
set_option linter.unusedVariables false
set_option linter.unusedSimpArgs false
open Go.RowKit Go.Proofs.Ytccnbjaaaaljoaa.P Go.Proofs.YtccnbjaaaaljoaaW.PrintWords Go.Proofs.YtccnbjaaaaljoaaW.PrintLast Go.Proofs.YtccnbjaaaaljoaaW.PrintMore

def pp (x : Int) : Int := if 0 < x then x else 0
theorem sum_set : ∀ (l : List Int) (k : Nat) (x : Int), k < l.length → (l.set k x).sum = l.sum - l.getD k 0 + x
  | [], _, _, h => by simp at h
  | y :: l, 0, x, _ => by simp only [List.set_cons_zero, List.sum_cons, List.getD_cons_zero]; omega
  | y :: l, k + 1, x, h => by
    have := sum_set l k x (by simpa using h)
    simp only [List.set_cons_succ, List.sum_cons, List.getD_cons_succ]; omega
theorem pp_zero : ∀ (r : List Int), (∀ x ∈ r, x ≤ 0) → (r.map pp).sum = 0
  | [], _ => rfl
  | y :: r, h => by
    have h1 := h y List.mem_cons_self
    have h2 := pp_zero r fun x hx => h x (List.mem_cons_of_mem _ hx)
    simp only [List.map_cons, List.sum_cons, h2, pp, show ¬ (0 < y) by omega, if_false]; rfl
theorem mem_rd0 {r : List Int} {x : Int} (h : x ∈ r) : ∃ j : Int, 0 ≤ j ∧ j < (r.length : Int) ∧ rd r j = x := by
  obtain ⟨n, hn, rfl⟩ := List.mem_iff_getElem.1 h
  refine ⟨n, by omega, by omega, ?_⟩
  unfold rd
  rw [List.getD_eq_getElem?_getD, show (n : Int).toNat = n by omega, List.getElem?_eq_getElem hn]; rfl
theorem Gives.fair {s : Int} (hs : 0 < s) {n : Nat} {p r q : List Int} (h : Gives n p r q) : p.length = r.length → (∀ x ∈ r, x < s) → s * n ≤ (r.map pp).sum →
    q.sum = p.sum + n ∧ ∀ j : Int, 0 ≤ j → rd q j = rd p j ∨ (0 < rd r j ∧ rd q j = rd p j + 1) := by
  induction h with
  | done p r => intro _ _ _; exact ⟨by omega, fun j _ => .inl rfl⟩
  | @more n p r q k h g ih =>
    intro hl hr hu
    obtain ⟨k1, k2, k3, k4⟩ := h
    have hsn : s * ((n + 1 : Nat) : Int) = s * (n : Int) + s := by rw [Int.natCast_add, Int.mul_add]; omega
    have hn0 : 0 ≤ s * (n : Int) := Int.mul_nonneg (by omega) (by omega)
    have hk : 0 < rd r k := by
      apply Decidable.byContradiction
      intro hk
      have := pp_zero r fun x hx => by
        obtain ⟨j, j1, j2, rfl⟩ := mem_rd0 hx
        have := k3 j j1 j2
        omega
      omega
    have hks : rd r k < s := by
      obtain ⟨x, hx, e⟩ : ∃ x ∈ r, x = rd r k := ⟨_, rd_mem r k1 k2, rfl⟩
      have := hr x hx; omega
    have hset : ((r.set k.toNat (-1)).map pp).sum = (r.map pp).sum - rd r k := by
      rw [List.map_set, sum_set _ _ _ (by rw [List.length_map]; omega)]
      have e : (r.map pp).getD k.toNat 0 = rd r k := by
        rw [List.getD_eq_getElem?_getD, List.getElem?_map, List.getElem?_eq_getElem (show k.toNat < r.length by omega)]
        have e2 : rd r k = r[k.toNat]'(by omega) := by
          unfold rd
          rw [List.getD_eq_getElem?_getD, List.getElem?_eq_getElem (show k.toNat < r.length by omega)]; rfl
        rw [e2] at hk ⊢
        simp only [Option.map_some, Option.getD_some, pp, hk, if_true]
      rw [e]
      have : pp (-1) = 0 := by unfold pp; rw [if_neg (by omega)]
      omega
    obtain ⟨i1, i2⟩ := ih (by rw [List.length_set, List.length_set]; exact hl) (fun x hx => by
      rcases List.mem_or_eq_of_mem_set hx with hx | rfl
      · exact hr x hx
      · omega) (by rw [hset]; omega)
    refine ⟨?_, fun j hj => ?_⟩
    · rw [i1, sum_set _ _ _ (by omega)]
      have : p.getD k.toNat 0 = rd p k := rfl
      omega
    · have e := i2 j hj
      rw [rd_set p k j _ k1 (by omega) hj, rd_set r k j _ k1 k2 hj] at e
      by_cases hjk : j = k
      · subst hjk
        simp only [if_true] at e
        rcases e with e | ⟨e, _⟩
        · exact .inr ⟨hk, e⟩
        · omega
      · simp only [hjk, if_false] at e; exact e
theorem fairL_of (t s : Int) : ∀ (w q : List Int), q.length = w.length → (∀ j : Int, 0 ≤ j → j < (w.length : Int) → Fair1 t s (rd w j) (rd q j)) → fairL t s w q = true
  | [], _, _, _ => by unfold fairL; rfl
  | _ :: _, [], h, _ => by simp at h
  | x :: w, y :: q, h, hf => by
    unfold fairL
    have h0 : Fair1 t s x y := hf 0 (by omega) (by simp only [List.length_cons]; omega)
    rw [decide_eq_true h0, Bool.true_and]
    refine fairL_of t s w q (by simpa using h) fun j j0 j1 => ?_
    have := hf (j + 1) (by omega) (by simp only [List.length_cons]; omega)
    unfold rd at this ⊢
    rw [show (j + 1).toNat = j.toNat + 1 by omega, List.getD_cons_succ, List.getD_cons_succ] at this
    exact this
theorem shares_fair (t : Int) (w q : List Int) (h : sharesV t w = 0) (g : Gives (t - (lows t w.sum w).sum).toNat (lows t w.sum w) (rests t w.sum w) q) :
    q.length = w.length ∧ q.sum = t ∧ Amounts q ∧ fairV t w q = (true, 0) := by
  obtain ⟨ht, hl, ha, hs⟩ := sharesV_zero h
  have hle := lows_le t w.sum w hs rfl
  have lr := lows_rests t w.sum w
  have hlen : q.length = w.length := by rw [g.length]; simp [lows]
  have hrb := rests_bd t w.sum w hs
  have hpp : ((rests t w.sum w).map pp).sum = (rests t w.sum w).sum := by
    have : ∀ r : List Int, (∀ x ∈ r, 0 ≤ x) → (r.map pp).sum = r.sum := by
      intro r
      induction r with
      | nil => intro _; rfl
      | cons y r ih =>
        intro hr
        have h1 := hr y List.mem_cons_self
        have h2 := ih fun x hx => hr x (List.mem_cons_of_mem _ hx)
        simp only [List.map_cons, List.sum_cons, h2, pp]
        split <;> omega
    exact this _ fun x hx => (hrb x hx).1
  have hmul : w.sum * (((t - (lows t w.sum w).sum).toNat : Nat) : Int) = t * w.sum - w.sum * (lows t w.sum w).sum := by
    rw [show (((t - (lows t w.sum w).sum).toNat : Nat) : Int) = t - (lows t w.sum w).sum by omega, Int.mul_sub, Int.mul_comm t]
  obtain ⟨f1, f2⟩ := g.fair hs (by simp [lows, rests]) (fun x hx => (hrb x hx).2) (by rw [hmul, hpp]; omega)
  have hsum : q.sum = t := by omega
  have hfair : ∀ j : Int, 0 ≤ j → j < (w.length : Int) → Fair1 t w.sum (rd w j) (rd q j) := by
    intro j j0 j1
    have e1 : rd (lows t w.sum w) j = t * rd w j / w.sum := by
      unfold rd lows
      rw [List.getD_eq_getElem?_getD, List.getD_eq_getElem?_getD, List.getElem?_map, List.getElem?_eq_getElem (show j.toNat < w.length by omega)]; rfl
    have e2 : rd (rests t w.sum w) j = t * rd w j % w.sum := by
      unfold rd rests
      rw [List.getD_eq_getElem?_getD, List.getD_eq_getElem?_getD, List.getElem?_map, List.getElem?_eq_getElem (show j.toNat < w.length by omega)]; rfl
    have := f2 j j0
    rw [e1, e2] at this
    unfold Fair1
    rcases this with h | ⟨h, h'⟩
    · exact .inl h
    · exact .inr ⟨by omega, h'⟩
  have hpos : ∀ x ∈ q, 0 ≤ x := fun x hx => by
    obtain ⟨j, j0, j1, rfl⟩ := mem_rd0 hx
    have hw : 0 ≤ rd w j := amounts_pos ha _ (rd_mem w j0 (by omega))
    have hq : 0 ≤ t * rd w j / w.sum := Int.ediv_nonneg (Int.mul_nonneg ht.1 hw) (by omega)
    rcases hfair j j0 (by omega) with h | ⟨_, h⟩ <;> omega
  have hle2 := le_sum hpos
  have hA : Amounts q := fun x hx => ⟨hpos x hx, by have := hle2 x hx; omega⟩
  refine ⟨hlen, hsum, hA, ?_⟩
  unfold fairV
  rw [if_neg (fun c => c hA), if_neg (fun c => c h), if_neg (fun c => c ⟨hlen, hsum⟩), fairL_of t w.sum w q hlen hfair]
end Go.Proofs.Ytccnbjaaaaljoaa.L

