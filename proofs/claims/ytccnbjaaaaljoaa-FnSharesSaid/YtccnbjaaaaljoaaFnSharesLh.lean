/- Sharing out: the program and the reference give the same parts; the parts are fair and add up to the total. Conditions: a total and weights without an error code. -/
import Derived.Test.YtccnbjaaaaljoaaFnSharesLg
namespace Go.Proofs.Ytccnbjaaaaljoaa.L
set_option linter.unusedVariables false
set_option linter.unusedSimpArgs false
open Go.RowKit Go.Proofs.Ytccnbjaaaaljoaa.P Go.Proofs.YtccnbjaaaaljoaaW.PrintWords Go.Proofs.YtccnbjaaaaljoaaW.PrintLast Go.Proofs.YtccnbjaaaaljoaaW.PrintMore

/-- The place of the first greatest number. -/
def IsFirstMax (r : List Int) (k : Int) : Prop := 0 ≤ k ∧ k < (r.length : Int) ∧ (∀ j : Int, 0 ≤ j → j < (r.length : Int) → rd r j ≤ rd r k) ∧ ∀ j : Int, 0 ≤ j → j < k → rd r j < rd r k
theorem IsFirstMax.unique {r : List Int} {k k' : Int} (h : IsFirstMax r k) (h' : IsFirstMax r k') : k = k' := by
  obtain ⟨a1, a2, a3, a4⟩ := h
  obtain ⟨b1, b2, b3, b4⟩ := h'
  rcases Int.lt_trichotomy k k' with l | l | l
  · have := b4 k a1 l; have := a3 k' b1 b2; omega
  · exact l
  · have := a4 k' b1 l; have := b3 k a1 a2; omega
theorem firstMax_exists : ∀ (r : List Int), r ≠ [] → ∃ k, IsFirstMax r k := by
  intro r hr
  have key : ∀ n : Nat, n < r.length → ∃ k : Int, 0 ≤ k ∧ k ≤ n ∧ (∀ j : Int, 0 ≤ j → j ≤ n → rd r j ≤ rd r k) ∧ ∀ j : Int, 0 ≤ j → j < k → rd r j < rd r k := by
    intro n
    induction n with
    | zero => exact fun _ => ⟨0, by omega, by omega, fun j h1 h2 => by rw [show j = 0 by omega]; omega, fun j h1 h2 => by omega⟩
    | succ n ih =>
      intro hn
      obtain ⟨k, h1, h2, h3, h4⟩ := ih (by omega)
      by_cases h : rd r k < rd r ((n : Int) + 1)
      · refine ⟨(n : Int) + 1, by omega, by omega, fun j a b => ?_, fun j a b => ?_⟩
        · by_cases e : j = (n : Int) + 1
          · rw [e]; omega
          · have := h3 j a (by omega); omega
        · have := h3 j a (by omega); omega
      · refine ⟨k, h1, by omega, fun j a b => ?_, h4⟩
        by_cases e : j = (n : Int) + 1
        · rw [e]; omega
        · exact h3 j a (by omega)
  have hl : 0 < r.length := List.length_pos_iff.2 hr
  obtain ⟨k, h1, h2, h3, h4⟩ := key (r.length - 1) (by omega)
  exact ⟨k, h1, by omega, fun j a b => h3 j a (by omega), h4⟩
/-- What is left is given out, one each. -/
inductive Gives : Nat → List Int → List Int → List Int → Prop
  | done (p r : List Int) : Gives 0 p r p
  | more {n : Nat} {p r q : List Int} {k : Int} (h : IsFirstMax r k) (g : Gives n (p.set k.toNat (rd p k + 1)) (r.set k.toNat (-1)) q) : Gives (n + 1) p r q
theorem Gives.unique {n : Nat} {p r q : List Int} (h : Gives n p r q) : ∀ {q' : List Int}, Gives n p r q' → q = q' := by
  induction h with
  | done p r => intro q' h'; cases h'; rfl
  | more h g ih =>
    intro q' h'
    cases h' with
    | more h2 g2 =>
      have e := h.unique h2
      subst e
      exact ih g2
theorem rd_set (l : List Int) (k j x : Int) (h0 : 0 ≤ k) (h1 : k < (l.length : Int)) (h2 : 0 ≤ j) : rd (l.set k.toNat x) j = if j = k then x else rd l j := by
  unfold rd
  rw [List.getD_eq_getElem?_getD, List.getD_eq_getElem?_getD, List.getElem?_set]
  by_cases h : j = k
  · subst h; rw [if_pos rfl, if_pos (by omega), if_pos rfl]; rfl
  · rw [if_neg (by omega), if_neg h]
theorem slices_Max_l0 (l : List Int) (hl : l.length ≤ 1048576) : ∀ (j : Nat) (i m : Int), 0 ≤ i → i + j = l.length → m ∈ l → (∀ q : Int, 0 ≤ q → q < i → rd l q ≤ m) →
    ∃ r, r ∈ l ∧ (∀ q : Int, 0 ≤ q → q < (l.length : Int) → rd l q ≤ r) ∧ Ev (fun k => slices_Max_int64_int64.l0 k l m i) r := by
  intro j
  induction j with
  | zero =>
    intro i m h0 h1 h2 h3
    refine ⟨m, h2, fun q a b => h3 q a (by omega), Ev.step (f := fun _ => some m) (fun k => ?_) (Ev.pure rfl)⟩
    simp only [slices_Max_int64_int64.l0]; rw [if_neg (by omega)]
  | succ j ih =>
    intro i m h0 h1 h2 h3
    have hm := rd_mem l h0 (show i < (l.length : Int) by omega)
    obtain ⟨r, r1, r2, r3⟩ := ih (i + 1) (mx m (rd l i)) (by omega) (by omega) (show mx m (rd l i) ∈ l by unfold mx; split <;> assumption) (fun q a b => by
      by_cases e : q = i
      · subst e; unfold mx; split <;> omega
      · have := h3 q a (by omega); unfold mx; split <;> omega)
    refine ⟨r, r1, r2, Ev.step (fun k => ?_) r3⟩
    simp only [slices_Max_int64_int64.l0]
    rw [if_pos (by omega), if_pos h0, w64 (by omega) (by omega)]
theorem slices_Max (l : List Int) (hl : l.length ≤ 1048576) (h0 : 0 < l.length) : ∃ r, r ∈ l ∧ (∀ q : Int, 0 ≤ q → q < (l.length : Int) → rd l q ≤ r) ∧ Ev (fun k => slices_Max_int64_int64.f k l) r := by
  unfold slices_Max_int64_int64.f
  simp only [if_neg (show ¬ ((l.length : Int) < 1) by omega), if_pos (show (0 : Int) < (l.length : Int) by omega)]
  exact slices_Max_l0 l hl (l.length - 1) 1 (rd l 0) (by omega) (by omega) (rd_mem l (by omega) (by omega)) (fun q a b => by rw [show q = 0 by omega]; omega)
theorem slices_Index_l0 (l : List Int) (x : Int) (hl : l.length ≤ 1048576) : ∀ (j : Nat) (i : Int), 0 ≤ i → i + j = l.length → (∃ q : Int, i ≤ q ∧ q < (l.length : Int) ∧ rd l q = x) → (∀ q : Int, 0 ≤ q → q < i → rd l q ≠ x) →
    ∃ r : Int, 0 ≤ r ∧ r < (l.length : Int) ∧ rd l r = x ∧ (∀ q : Int, 0 ≤ q → q < r → rd l q ≠ x) ∧ Ev (fun k => slices_Index_int64_int64.l0 k l x (l.length : Int) i) r := by
  intro j
  induction j with
  | zero =>
    intro i h0 h1 h2 h3
    obtain ⟨q, a, b, _⟩ := h2
    omega
  | succ j ih =>
    intro i h0 h1 h2 h3
    by_cases e : x = rd l i
    · refine ⟨i, h0, by omega, e.symm, h3, Ev.step (f := fun _ => some i) (fun k => ?_) (Ev.pure rfl)⟩
      simp only [slices_Index_int64_int64.l0]
      rw [if_pos (by omega), if_pos h0, if_pos (by omega), if_pos e]
    · obtain ⟨q, a, b, c⟩ := h2
      have hq : i + 1 ≤ q := by
        by_cases e2 : q = i
        · subst e2; exact absurd c.symm e
        · omega
      obtain ⟨r, r1, r2, r3, r4, r5⟩ := ih (i + 1) (by omega) (by omega) ⟨q, hq, b, c⟩ (fun q a b => by
        by_cases e2 : q = i
        · subst e2; exact fun h => e h.symm
        · exact h3 q a (by omega))
      refine ⟨r, r1, r2, r3, r4, Ev.step (fun k => ?_) r5⟩
      simp only [slices_Index_int64_int64.l0]
      rw [if_pos (by omega), if_pos h0, if_pos (by omega), if_neg e, w64 (by omega) (by omega)]
theorem mem_rd {l : List Int} {x : Int} (h : x ∈ l) : ∃ q : Int, 0 ≤ q ∧ q < (l.length : Int) ∧ rd l q = x := by
  obtain ⟨n, hn, rfl⟩ := List.mem_iff_getElem.1 h
  refine ⟨n, by omega, by omega, ?_⟩
  unfold rd
  rw [List.getD_eq_getElem?_getD, show ((n : Int)).toNat = n by omega, List.getElem?_eq_getElem hn, Option.getD_some]
theorem slices_Index (l : List Int) (x : Int) (hl : l.length ≤ 1048576) (h : x ∈ l) :
    ∃ r : Int, 0 ≤ r ∧ r < (l.length : Int) ∧ rd l r = x ∧ (∀ q : Int, 0 ≤ q → q < r → rd l q ≠ x) ∧ Ev (fun k => slices_Index_int64_int64.f k l x) r := by
  obtain ⟨q, a, b, c⟩ := mem_rd h
  unfold slices_Index_int64_int64.f
  exact slices_Index_l0 l x hl l.length 0 (by omega) (by omega) ⟨q, a, b, c⟩ (fun q a b => by omega)
/-- The parts, rounded down, and the remainders. -/
def lows (t s : Int) (w : List Int) : List Int := w.map fun x => t * x / s
def rests (t s : Int) (w : List Int) : List Int := w.map fun x => t * x % s
theorem le_sum {l : List Int} (h : ∀ x ∈ l, 0 ≤ x) : ∀ x ∈ l, x ≤ l.sum := by
  induction l with
  | nil => intro x hx; cases hx
  | cons y ys ih =>
    intro x hx
    have h1 := sum_nonneg (l := ys) fun z hz => h z (List.mem_cons_of_mem _ hz)
    have h2 := h y List.mem_cons_self
    rw [List.sum_cons]
    rcases List.mem_cons.1 hx with rfl | hx
    · omega
    · have := ih (fun z hz => h z (List.mem_cons_of_mem _ hz)) x hx; omega
/-- A part is no more than the total. -/
theorem low_bd {t w s : Int} (ht : 0 ≤ t ∧ t ≤ 1000000000) (hw : 0 ≤ w) (hws : w ≤ s) (hs : 0 < s) : 0 ≤ t * w / s ∧ t * w / s ≤ 1000000000 := by
  refine ⟨Int.ediv_nonneg (Int.mul_nonneg ht.1 hw) (by omega), ?_⟩
  have h1 : t * w / s ≤ t * s / s := Int.ediv_le_ediv hs (Int.mul_le_mul_of_nonneg_left hws ht.1)
  rw [Int.mul_ediv_cancel _ (by omega)] at h1
  omega
theorem lows_rests (t s : Int) (w : List Int) : s * (lows t s w).sum + (rests t s w).sum = t * w.sum := by
  induction w with
  | nil => simp [lows, rests]
  | cons x xs ih =>
    have h := Int.mul_ediv_add_emod (t * x) s
    simp only [lows, rests, List.map_cons, List.sum_cons, Int.mul_add] at ih ⊢
    omega
theorem rests_bd (t s : Int) (w : List Int) (hs : 0 < s) : ∀ x ∈ rests t s w, 0 ≤ x ∧ x < s := fun x hx => by
  obtain ⟨y, _, rfl⟩ := List.mem_map.1 hx
  exact ⟨Int.emod_nonneg _ (by omega), Int.emod_lt_of_pos _ hs⟩
theorem lows_le (t s : Int) (w : List Int) (hs : 0 < s) (e : w.sum = s) : (lows t s w).sum ≤ t := by
  have h1 := lows_rests t s w
  have h2 := sum_nonneg (l := rests t s w) fun x hx => (rests_bd t s w hs x hx).1
  rw [e, Int.mul_comm t s] at h1
  exact Int.le_of_mul_le_mul_left (by omega) hs
theorem mem_set {l : List Int} {n : Nat} {x y : Int} (h : y ∈ l.set n x) : y = x ∨ y ∈ l := (List.mem_or_eq_of_mem_set h).symm
theorem impl_shareOut_l1 : ∀ (n : Nat) (p r : List Int) (left : Int), left = n → p.length = r.length → 0 < r.length → r.length ≤ 12 → (∀ x ∈ p, 0 ≤ x ∧ x + n ≤ 4000000000000000000) → n ≤ 4000000000000000000 →
    ∃ q, Gives n p r q ∧ Ev (fun k => impl_shareOut.l1 k p r left) q := by
  intro n
  induction n with
  | zero =>
    intro p r left h0 h1 h2 h3 h4 h5
    refine ⟨p, .done p r, Ev.step (f := fun _ => some p) (fun k => ?_) (Ev.pure rfl)⟩
    simp only [impl_shareOut.l1]; rw [if_neg (by omega)]
  | succ n ih =>
    intro p r left h0 h1 h2 h3 h4 h5
    obtain ⟨m, m1, m2, m3⟩ := slices_Max r (by omega) h2
    obtain ⟨k, k1, k2, k3, k4, k5⟩ := slices_Index r m (by omega) m1
    have hfm : IsFirstMax r k := ⟨k1, k2, fun j a b => by rw [k3]; exact m2 j a b, fun j a b => by
      have := m2 j a (by omega); have := k4 j a b; omega⟩
    have hpk := h4 _ (rd_mem p k1 (by omega))
    obtain ⟨q, q1, q2⟩ := ih (p.set k.toNat (rd p k + 1)) (r.set k.toNat (-1)) (left - 1) (by omega) (by simp [h1]) (by simp; omega) (by simp; omega) (fun x hx => by
      rcases mem_set hx with rfl | hx
      · omega
      · have := h4 x hx; omega) (by omega)
    refine ⟨q, .more hfm q1, Ev.step (fun K => ?_) (Ev.bind (g := fun K => slices_Max_int64_int64.f K r) (f := fun K t345 => (slices_Index_int64_int64.f K r t345).bind fun t346 => if 0 ≤ t346 then (if t346 < (p.length : Int) then (if t346 < (r.length : Int) then (impl_shareOut.l1 K (p.set (t346 : Int).toNat (wrap64 ((rd p t346) + 1))) (r.set (t346 : Int).toNat (-1)) (wrap64 (left - 1))) else none) else none) else none) m3 (Ev.bind k5 ?_))⟩
    · simp only [impl_shareOut.l1]; rw [if_pos (by omega)]
    · simp only [if_pos k1, if_pos (show k < (p.length : Int) by omega), if_pos k2, w64 (x := rd p k + 1) (by omega) (by omega), w64 (x := left - 1) (by omega) (by omega)]
      exact q2
theorem impl_shareOut_l0 (t s : Int) (w : List Int) (ht : 0 ≤ t ∧ t ≤ 1000000000) (hw : Amounts w) (hl : w.length ≤ 12) (hs : 0 < s) (hm : ∀ x ∈ w, x ≤ s) (q : List Int) (sl : Int) (hsum : (lows t s w).sum = sl)
    (hg : Ev (fun k => impl_shareOut.l1 k (lows t s w) (rests t s w) (wrap64 (t - sl))) q) : ∀ (j : Nat) (i : Int), 0 ≤ i → i + j = w.length →
    Ev (fun k => impl_shareOut.l0 k t s (lows t s (w.take i.toNat)) (rests t s (w.take i.toNat)) w (w.length : Int) i) q := by
  intro j
  induction j with
  | zero =>
    intro i h0 h1
    have e : w.take i.toNat = w := List.take_of_length_le (by omega)
    rw [e]
    have pos : ∀ x ∈ lows t s w, 0 ≤ x ∧ x ≤ 1000000000 := fun x hx => by
      obtain ⟨y, hy, rfl⟩ := List.mem_map.1 hx
      exact low_bd ht (hw y hy).1 (hm y hy) hs
    have b := sum_bd pos
    have hlen : (lows t s w).length = w.length := by simp [lows]
    refine Ev.step (fun k => ?_) (Ev.bind (g := fun k => impl_sum.f k (lows t s w)) (f := fun k u => impl_shareOut.l1 k (lows t s w) (rests t s w) (wrap64 (t - u))) ?_ (hsum ▸ hg))
    · simp only [impl_shareOut.l0]; rw [if_neg (by omega)]
    · exact impl_sum _ (by omega) (fun x hx => (pos x hx).1) (by rw [hlen] at b; omega)
  | succ j ih =>
    intro i h0 h1
    have b := share_bd ht (hw _ (rd_mem w h0 (show i < (w.length : Int) by omega))) hs
    have h := ih (i + 1) (by omega) (by omega)
    have et : w.take (i + 1).toNat = w.take i.toNat ++ [rd w i] := by
      rw [show (i + 1).toNat = i.toNat + 1 by omega, List.take_succ_eq_append_getElem (by omega)]
      congr 2
      unfold rd; rw [List.getD_eq_getElem?_getD, List.getElem?_eq_getElem (by omega), Option.getD_some]
    have el : lows t s (w.take (i + 1).toNat) = lows t s (w.take i.toNat) ++ [t * rd w i / s] := by rw [et]; simp [lows]
    have er : rests t s (w.take (i + 1).toNat) = rests t s (w.take i.toNat) ++ [t * rd w i % s] := by rw [et]; simp [rests]
    rw [el, er] at h
    have l1 : (lows t s (w.take i.toNat)).length ≤ 12 := by simp [lows]; omega
    have l2 : (rests t s (w.take i.toNat)).length ≤ 12 := by simp [rests]; omega
    refine Ev.step (fun k => ?_) h
    simp only [impl_shareOut.l0]
    rw [if_pos (by omega), if_pos h0, if_pos (by omega), if_neg (by omega), w64 (x := t * rd w i) (by omega) (by omega), tdiv_pos b.1.1, tmod_pos b.1.1, w64 (x := t * rd w i / s) (by omega) (by omega), w64 (x := i + 1) (by omega) (by omega)]
    simp only [Option.bind_some, List.length_cons, List.length_nil]
    rw [if_pos (by omega), if_pos (by omega)]
theorem spec_l01Share_l2 (p r : List Int) (left : Int) (hl : r.length ≤ 12) (hp : p.length = r.length) (hpb : ∀ x ∈ p, 0 ≤ x ∧ x ≤ 4000000000000000000) (hlf : 0 < left ∧ left ≤ 4000000000000000001) (q : List Int) (k : Int) (hk : IsFirstMax r k)
    (hg : Ev (fun K => spec_l01Share.l1 K (p.set k.toNat (rd p k + 1)) (r.set k.toNat (-1)) (left - 1)) q) : ∀ (j : Nat) (i b : Int), 0 ≤ i → i + j = r.length → 0 ≤ b → b < (r.length : Int) → (∀ u : Int, 0 ≤ u → u < i → rd r u ≤ rd r b) → (∀ u : Int, 0 ≤ u → u < b → rd r u < rd r b) →
    Ev (fun K => spec_l01Share.l2 K p r left b i) q := by
  intro j
  induction j with
  | zero =>
    intro i b h0 h1 h2 h3 h4 h5
    have e : b = k := IsFirstMax.unique ⟨h2, h3, fun u x y => h4 u x (by omega), h5⟩ hk
    subst e
    have hpk := hpb _ (rd_mem p h2 (by omega))
    refine Ev.step (fun K => ?_) hg
    simp only [spec_l01Share.l2]
    rw [if_neg (by omega), if_pos h2, if_pos (by omega), if_pos h3, w64 (by omega) (by omega), w64 (by omega) (by omega)]
  | succ j ih =>
    intro i b h0 h1 h2 h3 h4 h5
    by_cases e : rd r i > rd r b
    · refine Ev.step (fun K => ?_) (ih (i + 1) i (by omega) (by omega) h0 (by omega) (fun u x y => ?_) (fun u x y => ?_))
      · simp only [spec_l01Share.l2]
        rw [if_pos (by omega), if_pos h0, if_pos h2, if_pos h3, if_pos e, w64 (by omega) (by omega)]
      · by_cases e2 : u = i
        · rw [e2]; omega
        · have := h4 u x (by omega); omega
      · have := h4 u x y; omega
    · refine Ev.step (fun K => ?_) (ih (i + 1) b (by omega) (by omega) h2 h3 (fun u x y => ?_) h5)
      · simp only [spec_l01Share.l2]
        rw [if_pos (by omega), if_pos h0, if_pos h2, if_pos h3, if_neg e, w64 (by omega) (by omega)]
      · by_cases e2 : u = i
        · rw [e2]; omega
        · exact h4 u x (by omega)
theorem spec_l01Share_l1 : ∀ (n : Nat) (p r : List Int) (left : Int), left = n → p.length = r.length → 0 < r.length → r.length ≤ 12 → (∀ x ∈ p, 0 ≤ x ∧ x + n ≤ 4000000000000000000) → n ≤ 4000000000000000000 →
    ∃ q, Gives n p r q ∧ Ev (fun k => spec_l01Share.l1 k p r left) q := by
  intro n
  induction n with
  | zero =>
    intro p r left h0 h1 h2 h3 h4 h5
    refine ⟨p, .done p r, Ev.step (f := fun _ => some p) (fun k => ?_) (Ev.pure rfl)⟩
    simp only [spec_l01Share.l1]; rw [if_neg (by omega)]
  | succ n ih =>
    intro p r left h0 h1 h2 h3 h4 h5
    obtain ⟨k, hk⟩ := firstMax_exists r (List.length_pos_iff.1 h2)
    have hpk := h4 _ (rd_mem p hk.1 (by have := hk.2.1; omega))
    obtain ⟨q, q1, q2⟩ := ih (p.set k.toNat (rd p k + 1)) (r.set k.toNat (-1)) (left - 1) (by omega) (by simp [h1]) (by simp; omega) (by simp; omega) (fun x hx => by
      rcases mem_set hx with rfl | hx
      · omega
      · have := h4 x hx; omega) (by omega)
    refine ⟨q, .more hk q1, Ev.step (fun K => ?_) (spec_l01Share_l2 p r left h3 h1 (fun x hx => by have := h4 x hx; omega) (by omega) q k hk q2 r.length 0 0 (by omega) (by omega) (by omega) (by omega) (fun u x y => by omega) (fun u x y => by omega))⟩
    simp only [spec_l01Share.l1]; rw [if_pos (by omega)]
theorem spec_l01Share_l0 (t s : Int) (w : List Int) (ht : 0 ≤ t ∧ t ≤ 1000000000) (hw : Amounts w) (hl : w.length ≤ 12) (hs : 0 < s) (hm : ∀ x ∈ w, x ≤ s) (q : List Int)
    (hg : Ev (fun k => spec_l01Share.l1 k (lows t s w) (rests t s w) (t - (lows t s w).sum)) q) : ∀ (j : Nat) (i : Int), 0 ≤ i → i + j = w.length →
    Ev (fun k => spec_l01Share.l0 k t w s (lows t s (w.take i.toNat)) (rests t s (w.take i.toNat)) (t - (lows t s (w.take i.toNat)).sum) i) q := by
  intro j
  induction j with
  | zero =>
    intro i h0 h1
    have e : w.take i.toNat = w := List.take_of_length_le (by omega)
    rw [e]
    refine Ev.step (fun k => ?_) hg
    simp only [spec_l01Share.l0]; rw [if_neg (by omega)]
  | succ j ih =>
    intro i h0 h1
    have b := share_bd ht (hw _ (rd_mem w h0 (show i < (w.length : Int) by omega))) hs
    have b3 := low_bd ht (hw _ (rd_mem w h0 (show i < (w.length : Int) by omega))).1 (hm _ (rd_mem w h0 (by omega))) hs
    have h := ih (i + 1) (by omega) (by omega)
    have et : w.take (i + 1).toNat = w.take i.toNat ++ [rd w i] := by
      rw [show (i + 1).toNat = i.toNat + 1 by omega, List.take_succ_eq_append_getElem (by omega)]
      congr 2
      unfold rd; rw [List.getD_eq_getElem?_getD, List.getElem?_eq_getElem (by omega), Option.getD_some]
    have el : lows t s (w.take (i + 1).toNat) = lows t s (w.take i.toNat) ++ [t * rd w i / s] := by rw [et]; simp [lows]
    have er : rests t s (w.take (i + 1).toNat) = rests t s (w.take i.toNat) ++ [t * rd w i % s] := by rw [et]; simp [rests]
    have pos : ∀ x ∈ lows t s (w.take i.toNat), 0 ≤ x ∧ x ≤ 1000000000 := fun x hx => by
      obtain ⟨y, hy, rfl⟩ := List.mem_map.1 hx
      have hy := List.mem_of_mem_take hy
      exact low_bd ht (hw y hy).1 (hm y hy) hs
    have bs := sum_bd pos
    have ll : (lows t s (w.take i.toNat)).length = i.toNat := by simp [lows]; omega
    have l2 : (rests t s (w.take i.toNat)).length = i.toNat := by simp [rests]; omega
    have last : rd (lows t s (w.take i.toNat) ++ [t * rd w i / s]) i = t * rd w i / s := by
      unfold rd
      rw [List.getD_eq_getElem?_getD, List.getElem?_append_right (by omega), ll, Nat.sub_self]; rfl
    rw [el, er, List.sum_append, List.sum_cons, List.sum_nil] at h
    refine Ev.step (fun k => ?_) h
    simp only [spec_l01Share.l0]
    rw [if_pos (by omega), if_pos h0, if_neg (by omega), if_pos (by omega), w64 (x := t * rd w i) (by omega) (by omega), tdiv_pos b.1.1, tmod_pos b.1.1, w64 (x := t * rd w i / s) (by omega) (by omega), w64 (x := i + 1) (by omega) (by omega), Option.bind_some]
    rw [if_pos (by omega), if_pos (by simp; omega), last, w64 (by omega) (by omega)]
    rw [show t - (lows t s (w.take i.toNat)).sum - t * rd w i / s = t - ((lows t s (w.take i.toNat)).sum + (t * rd w i / s + 0)) by omega]
/-- Both share out alike. -/
theorem shareOut_both (t : Int) (w : List Int) (h : sharesV t w = 0) :
    ∃ q, Gives (t - (lows t w.sum w).sum).toNat (lows t w.sum w) (rests t w.sum w) q ∧ Ev (fun k => impl_shareOut.f k t w) q ∧ Ev (fun k => spec_l01Share.f k t w) q := by
  obtain ⟨ht, hl, ha, hs⟩ := sharesV_zero h
  have hm := le_sum (amounts_pos ha)
  have b := amounts_sum ha (by omega)
  have hle := lows_le t w.sum w hs rfl
  have pos : ∀ x ∈ lows t w.sum w, 0 ≤ x ∧ x ≤ 1000000000 := fun x hx => by
    obtain ⟨y, hy, rfl⟩ := List.mem_map.1 hx
    exact low_bd ht (ha y hy).1 (hm y hy) hs
  have bs := sum_bd pos
  have ll : (lows t w.sum w).length = w.length := by simp [lows]
  have lr : (rests t w.sum w).length = w.length := by simp [rests]
  have hne : 0 < w.length := by
    cases w with
    | nil => simp at hs
    | cons x xs => simp
  have e : t - (lows t w.sum w).sum = ((t - (lows t w.sum w).sum).toNat : Int) := by omega
  obtain ⟨q, q1, q2⟩ := impl_shareOut_l1 _ (lows t w.sum w) (rests t w.sum w) _ e (by omega) (by omega) (by omega) (fun x hx => by have := pos x hx; omega) (by omega)
  obtain ⟨q', q1', q2'⟩ := spec_l01Share_l1 _ (lows t w.sum w) (rests t w.sum w) _ e (by omega) (by omega) (by omega) (fun x hx => by have := pos x hx; omega) (by omega)
  obtain rfl := q1.unique q1'
  refine ⟨q, q1, ?_, ?_⟩
  · unfold impl_shareOut.f
    refine Ev.bind (impl_sum w (by omega) (amounts_pos ha) (by omega)) ?_
    have h0 := impl_shareOut_l0 t w.sum w ht ha hl hs hm q _ rfl (by rw [w64 (by omega) (by omega)]; exact q2) w.length 0 (by omega) (by omega)
    simpa [lows, rests] using h0
  · unfold spec_l01Share.f
    refine Ev.bind (spec_l01Sum w (by omega) (amounts_pos ha) (by omega)) ?_
    have h0 := spec_l01Share_l0 t w.sum w ht ha hl hs hm q q2' w.length 0 (by omega) (by omega)
    simpa [lows, rests] using h0
theorem shareOut_all (t : Int) (w : List Int) (hw : w.length ≤ 1048576) : ∃ v : List Int × Int, Ev (fun k => impl_ShareOut.f k t w) v ∧ Ev (fun k => spec_ShareOut.f k t w) v ∧ v.2 = sharesV t w ∧
    (sharesV t w = 0 → Gives (t - (lows t w.sum w).sum).toNat (lows t w.sum w) (rests t w.sum w) v.1) ∧ (sharesV t w ≠ 0 → v.1 = []) := by
  by_cases h : sharesV t w = 0
  · obtain ⟨q, q1, q2, q3⟩ := shareOut_both t w h
    refine ⟨(q, 0), ?_, ?_, h.symm, fun _ => q1, fun h2 => absurd h h2⟩
    · unfold impl_ShareOut.f
      refine Ev.bind (impl_shares t w) ?_
      simp only [h, if_true]
      exact Ev.bind q2 (Ev.pure rfl)
    · unfold spec_ShareOut.f
      refine Ev.bind (spec_l01Code t w hw) ?_
      simp only [h, if_true]
      exact Ev.bind q3 (Ev.pure rfl)
  · refine ⟨([], sharesV t w), ?_, ?_, rfl, fun h2 => absurd h2 h, fun _ => rfl⟩
    · unfold impl_ShareOut.f
      refine Ev.bind (impl_shares t w) ?_
      simp only [h, if_false]
      exact Ev.pure rfl
    · unfold spec_ShareOut.f
      refine Ev.bind (spec_l01Code t w hw) ?_
      simp only [h, if_false]
      exact Ev.pure rfl
theorem Gives.length {n : Nat} {p r q : List Int} (h : Gives n p r q) : q.length = p.length := by
  induction h with
  | done p r => rfl
  | more h g ih => rw [ih, List.length_set]
end Go.Proofs.Ytccnbjaaaaljoaa.L

