/- Words for functions that take a function value: the answers of 'all', 'rising' and their kin, told with an answer of the function value that may fail. Plain Lean; no program is in sight. -/
import Derived.Test.YtmfmmcmccapocaaWMore
namespace Go.Proofs.Ytmfmmcmccapocaa.X
set_option linter.unusedVariables false
set_option linter.unusedSimpArgs false
open Go.RowKit Go.Proofs.YtmfmmcmccapocaaW.PrintWords Go.Proofs.YtmfmmcmccapocaaW.PrintLast Go.Proofs.YtmfmmcmccapocaaW.PrintMore

/-- The index, from i on, of the first element of which p tells b; -1 if there is none. -/
def idxM {α : Type} (p : α → Option Bool) (b : Bool) : List α → Int → Option Int
  | [], _ => some (-1)
  | x :: xs, i => (p x).bind fun c => if c = b then some i else idxM p b xs (i + 1)
/-- Does p tell true of all elements? -/
def allM {α : Type} (p : α → Option Bool) : List α → Option Bool
  | [] => some true
  | x :: xs => (p x).bind fun c => if c = true then allM p xs else some false
theorem idxM_all {α : Type} (p : α → Option Bool) : ∀ (l : List α) (i : Int), 0 ≤ i → ∀ r, allM p l = some r → ∃ q, idxM p false l i = some q ∧ r = !(decide (0 ≤ q)) := by
  intro l
  induction l with
  | nil => intro i _ r h; simp [allM] at h; exact ⟨-1, rfl, by simp [← h]⟩
  | cons x xs ih =>
    intro i hi r h
    simp only [allM, idxM] at h ⊢
    cases hp : p x with
    | none => rw [hp] at h; cases h
    | some c =>
      rw [hp, Option.bind_some] at h
      cases c with
      | true =>
        obtain ⟨q, h1, h2⟩ := ih (i + 1) (by omega) r (by simpa using h)
        exact ⟨q, by simpa using h1, h2⟩
      | false =>
        refine ⟨i, by simp, ?_⟩
        have : r = false := by simpa using h.symm
        rw [this]; simp [hi]
theorem allM_leO {α : Type} {p q : α → Option Bool} (h : ∀ x, LeO (p x) (q x)) : ∀ l : List α, LeO (allM p l) (allM q l)
  | [] => LeO.refl _
  | x :: xs => by
    intro r hr
    simp only [allM] at hr ⊢
    cases hp : p x with
    | none => rw [hp] at hr; cases hr
    | some c =>
      rw [hp, Option.bind_some] at hr
      rw [h x c hp, Option.bind_some]
      cases c with
      | true => simpa using allM_leO h xs r (by simpa using hr)
      | false => simpa using hr
theorem allM_some {α : Type} {p : α → Option Bool} {q : α → Bool} : ∀ (l : List α), (∀ x ∈ l, p x = some (q x)) → allM p l = some (l.all q)
  | [], _ => rfl
  | x :: xs, h => by
    simp only [allM]
    rw [h x List.mem_cons_self, Option.bind_some, allM_some xs fun y hy => h y (List.mem_cons_of_mem _ hy)]
    cases hq : q x <;> simp [List.all_cons, hq]
theorem allM_ev {α : Type} {p : Nat → α → Option Bool} {q : α → Bool} : ∀ (l : List α), (∀ x ∈ l, Ev (fun k => p k x) (q x)) → Ev (fun k => allM (p k) l) (l.all q)
  | [], _ => ⟨0, fun _ _ => rfl⟩
  | x :: xs, h => by
    simp only [allM]
    refine Ev.bind (h x List.mem_cons_self) ?_
    have ih := allM_ev xs fun y hy => h y (List.mem_cons_of_mem _ hy)
    cases hq : q x with
    | true => simpa [hq] using ih
    | false => exact ⟨0, fun _ _ => by simp [hq]⟩
theorem idxM_step {α : Type} {p : α → Option Bool} {b : Bool} {l : List α} {z : α} {i : Int} (h0 : 0 ≤ i) (h1 : i < (l.length : Int)) :
    idxM p b (l.drop i.toNat) i = (p (l.getD i.toNat z)).bind fun c => if c = b then some i else idxM p b (l.drop (i + 1).toNat) (i + 1) := by
  have hl : i.toNat < l.length := by omega
  rw [List.drop_eq_getElem_cons hl, show (i + 1).toNat = i.toNat + 1 by omega]
  simp only [idxM, List.getD_eq_getElem?_getD, List.getElem?_eq_getElem hl, Option.getD_some]
theorem idxM_end {α : Type} {p : α → Option Bool} {b : Bool} {l : List α} {i : Int} (h1 : ¬ i < (l.length : Int)) : idxM p b (l.drop i.toNat) i = some (-1) := by
  rw [List.drop_eq_nil_of_le (by omega)]; rfl
/-! the order of texts -/
theorem bl_irrefl : ∀ x : List UInt8, Op.bytesLess x x = false
  | [] => rfl
  | a :: x => by simp [Op.bytesLess, bl_irrefl x]
theorem bl_tri : ∀ x y : List UInt8, Op.bytesLess x y = false → Op.bytesLess y x = false → x = y
  | [], [], _, _ => rfl
  | [], _ :: _, h, _ => by simp [Op.bytesLess] at h
  | _ :: _, [], _, h => by simp [Op.bytesLess] at h
  | a :: x, b :: y, h, k => by
    simp only [Op.bytesLess, Bool.or_eq_false_iff, decide_eq_false_iff_not, Bool.and_eq_false_imp, beq_iff_eq] at h k
    have e : a = b := by
      have h1 := h.1; have k1 := k.1
      rw [UInt8.lt_iff_toNat_lt] at h1 k1
      exact UInt8.toNat_inj.1 (by omega)
    rw [e, bl_tri x y (h.2 e) (k.2 e.symm)]
theorem bl_asymm : ∀ x y : List UInt8, Op.bytesLess x y = true → Op.bytesLess y x = false
  | [], [], h => by simp [Op.bytesLess] at h
  | [], _ :: _, _ => rfl
  | _ :: _, [], h => by simp [Op.bytesLess] at h
  | a :: x, b :: y, h => by
    simp only [Op.bytesLess, Bool.or_eq_true, decide_eq_true_eq, Bool.and_eq_true, beq_iff_eq] at h
    simp only [Op.bytesLess, Bool.or_eq_false_iff, decide_eq_false_iff_not, Bool.and_eq_false_imp, beq_iff_eq]
    rcases h with h | ⟨rfl, h⟩
    · rw [UInt8.lt_iff_toNat_lt] at h
      refine ⟨by rw [UInt8.lt_iff_toNat_lt]; omega, fun e => ?_⟩
      subst e; omega
    · exact ⟨by rw [UInt8.lt_iff_toNat_lt]; omega, fun _ => bl_asymm x y h⟩
theorem bl_trans : ∀ x y z : List UInt8, Op.bytesLess x y = true → Op.bytesLess y z = true → Op.bytesLess x z = true
  | x, [], _, h, _ => by cases x <;> simp [Op.bytesLess] at h
  | _, _ :: _, [], _, k => by simp [Op.bytesLess] at k
  | [], _ :: _, _ :: _, _, _ => rfl
  | a :: x, b :: y, c :: z, h, k => by
    simp only [Op.bytesLess, Bool.or_eq_true, decide_eq_true_eq, Bool.and_eq_true, beq_iff_eq, UInt8.lt_iff_toNat_lt] at h k ⊢
    rcases h with h | ⟨rfl, h⟩ <;> rcases k with k | ⟨rfl, k⟩
    · exact .inl (by omega)
    · exact .inl h
    · exact .inl k
    · exact .inr ⟨rfl, bl_trans x y z h k⟩
/-- Is each element greater than the one before it, by p? -/
def risingM {α : Type} (p : α → α → Option Int) : List α → Option Bool
  | x :: y :: l => (p x y).bind fun c => if 0 ≤ c then some false else risingM p (y :: l)
  | _ => some true
theorem risingM_step {α : Type} {p : α → α → Option Int} {l : List α} {z : α} {i : Int} (h0 : 1 ≤ i) (h1 : i < (l.length : Int)) :
    risingM p (l.drop (i - 1).toNat) = (p (l.getD (i - 1).toNat z) (l.getD i.toNat z)).bind fun c => if 0 ≤ c then some false else risingM p (l.drop (i + 1 - 1).toNat) := by
  have hl : (i - 1).toNat < l.length := by omega
  have hl2 : (i - 1).toNat + 1 < l.length := by omega
  rw [List.drop_eq_getElem_cons hl, List.drop_eq_getElem_cons hl2, show (i + 1 - 1).toNat = (i - 1).toNat + 1 by omega, show i.toNat = (i - 1).toNat + 1 by omega]
  simp only [risingM, List.getD_eq_getElem?_getD, List.getElem?_eq_getElem hl, List.getElem?_eq_getElem hl2, Option.getD_some]
  rw [List.drop_eq_getElem_cons hl2]
theorem risingM_end {α : Type} {p : α → α → Option Int} {l : List α} {i : Int} (h0 : 1 ≤ i) (h1 : ¬ i < (l.length : Int)) : risingM p (l.drop (i - 1).toNat) = some true := by
  have : (l.drop (i - 1).toNat).length ≤ 1 := by rw [List.length_drop]; omega
  match l.drop (i - 1).toNat, this with
  | [], _ => rfl
  | [x], _ => rfl
theorem risingM_leO {α : Type} {p q : α → α → Option Int} (h : ∀ x y, LeO (p x y) (q x y)) : ∀ l : List α, LeO (risingM p l) (risingM q l)
  | [] => LeO.refl _
  | [x] => LeO.refl _
  | x :: y :: l => by
    intro r hr
    simp only [risingM] at hr ⊢
    cases hp : p x y with
    | none => rw [hp] at hr; cases hr
    | some c =>
      rw [hp, Option.bind_some] at hr
      rw [h x y c hp, Option.bind_some]
      by_cases hc : 0 ≤ c
      · simpa [hc] using hr
      · rw [if_neg hc] at hr ⊢
        exact risingM_leO h (y :: l) r hr
/-- Each element is less than the next, by a test. -/
def risesB {α : Type} (lt : α → α → Bool) : List α → Bool
  | x :: y :: l => lt x y && risesB lt (y :: l)
  | _ => true
theorem risingM_ev {α : Type} {p : Nat → α → α → Option Int} {lt : α → α → Bool} : ∀ (l : List α), (∀ x ∈ l, ∀ y ∈ l, ∃ c, Ev (fun k => p k x y) c ∧ lt x y = decide (c < 0)) → Ev (fun k => risingM (p k) l) (risesB lt l)
  | [], _ => ⟨0, fun _ _ => rfl⟩
  | [x], _ => ⟨0, fun _ _ => rfl⟩
  | x :: y :: l, h => by
    obtain ⟨c, h1, h2⟩ := h x List.mem_cons_self y (List.mem_cons_of_mem _ List.mem_cons_self)
    have ih := risingM_ev (y :: l) fun a ha b hb => h a (List.mem_cons_of_mem _ ha) b (List.mem_cons_of_mem _ hb)
    simp only [risingM, risesB]
    refine Ev.bind h1 ?_
    rw [h2]
    by_cases hc : 0 ≤ c
    · simp only [hc, if_true, show decide (c < 0) = false from decide_eq_false (by omega), Bool.false_and]
      exact ⟨0, fun _ _ => rfl⟩
    · simp only [hc, if_false, show decide (c < 0) = true from decide_eq_true (by omega), Bool.true_and]
      exact ih
end Go.Proofs.Ytmfmmcmccapocaa.X

