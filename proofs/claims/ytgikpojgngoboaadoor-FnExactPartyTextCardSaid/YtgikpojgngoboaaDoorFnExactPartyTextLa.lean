/- Plain facts on whole numbers and on the calendar, as the other texts of this claim use them; no program is in sight. Conditions: each fact's own premises. -/
import Derived.Test.YtgikpojgngoboaaDoorFnExactPartyTextT
import Derived.Test.YtgikpojgngoboaaDoorFnExactPartyTextP0
import Derived.Test.YtgikpojgngoboaaDoorFnExactPartyTextP1
import Derived.OpenShut
namespace Go.Proofs.YtgikpojgngoboaaDoor.L
set_option linter.unusedVariables false
set_option linter.unusedSimpArgs false
open Go.RowKit Go.Proofs.YtgikpojgngoboaaDoorW.PrintWords Go.Proofs.YtgikpojgngoboaaDoorW.PrintLast Go.Proofs.YtgikpojgngoboaaDoorW.PrintMore

/-! ### numbers -/
theorem w64 {x : Int} (h1 : -9223372036854775808 ≤ x) (h2 : x ≤ 9223372036854775807) : wrap64 x = x := by
  unfold wrap64; omega

theorem tdiv_pos {a b : Int} (h : 0 ≤ a) : Int.tdiv a b = a / b := Int.tdiv_eq_ediv_of_nonneg h
theorem tmod_pos {a b : Int} (h : 0 ≤ a) : Int.tmod a b = a % b := Int.tmod_eq_emod_of_nonneg h
theorem tmod_zero_iff (a : Int) : Int.tmod a 4 = 0 ↔ a % 4 = 0 := by
  rw [← Int.dvd_iff_tmod_eq_zero, Int.dvd_iff_emod_eq_zero]

theorem mul_bd {a b A B : Int} (ha : 0 ≤ a) (hA : a ≤ A) (hb : 0 ≤ b) (hB : b ≤ B) : 0 ≤ a * b ∧ a * b ≤ A * B :=
  ⟨Int.mul_nonneg ha hb, Int.mul_le_mul hA hB hb (by omega)⟩

theorem proportion_bd {a b : Int} (h1 : 0 ≤ a ∧ a ≤ 1000000000) (h2 : 0 ≤ b ∧ b ≤ 1000000000) : 0 ≤ a * b ∧ a * b ≤ 1000000000000000000 := mul_bd h1.1 h1.2 h2.1 h2.2
theorem commission_bd {a b : Int} (h1 : 0 ≤ a ∧ a ≤ 1000000000) (h2 : 0 ≤ b ∧ b ≤ 10000) : 0 ≤ a * b ∧ a * b ≤ 10000000000000 := mul_bd h1.1 h1.2 h2.1 h2.2
theorem simple_bd {a p d : Int} (h1 : 0 ≤ a ∧ a ≤ 1000000000) (h2 : 0 ≤ p ∧ p ≤ 10000) (h3 : 0 ≤ d ∧ d ≤ 36524) : (0 ≤ p * d ∧ p * d ≤ 365240000) ∧ 0 ≤ a * (p * d) ∧ a * (p * d) ≤ 365240000000000000 := by
  have m := mul_bd h2.1 h2.2 h3.1 h3.2
  exact ⟨m, mul_bd h1.1 h1.2 m.1 m.2⟩
/-- The nearest whole number to a quotient. -/
def near (a b : Int) : Int := if b ≤ 2 * (a % b) then a / b + 1 else a / b

theorem near_nonneg {a b : Int} (ha : 0 ≤ a) (hb : 0 < b) : 0 ≤ near a b := by
  have h := Int.ediv_nonneg ha (by omega : 0 ≤ b)
  unfold near; split <;> omega

theorem near_le {a b : Int} (ha : 0 ≤ a) (hb : 0 < b) : near a b ≤ a + 1 := by
  have h : a / b ≤ a := Int.ediv_le_self _ ha
  unfold near; split <;> omega

theorem quot_bd {a b : Int} (ha : 0 ≤ a) (hb : 0 < b) : 0 ≤ a / b ∧ a / b ≤ a ∧ 0 ≤ a % b ∧ a % b < b :=
  ⟨Int.ediv_nonneg ha (by omega), Int.ediv_le_self _ ha, Int.emod_nonneg _ (by omega), Int.emod_lt_of_pos _ hb⟩

/-! ### the calendar -/
/-- The days of a month. -/
def dim (y m : Int) : Int := if m = 2 then (if y % 4 = 0 then 29 else 28) else if m = 4 ∨ m = 6 ∨ m = 9 ∨ m = 11 then 30 else 31

theorem dim_bd (y m : Int) : 28 ≤ dim y m ∧ dim y m ≤ 31 := by unfold dim; repeat' split <;> omega

/-- The days of the year before the first of a month. -/
def cum (y m : Int) : Int :=
  (if m ≤ 1 then 0 else if m = 2 then 31 else if m = 3 then 59 else if m = 4 then 90 else if m = 5 then 120 else if m = 6 then 151 else if m = 7 then 181 else if m = 8 then 212 else if m = 9 then 243 else if m = 10 then 273 else if m = 11 then 304 else if m = 12 then 334 else 365)
    + (if 3 ≤ m ∧ y % 4 = 0 then 1 else 0)

theorem cum_one (y : Int) : cum y 1 = 0 := by unfold cum; simp
theorem months {m : Int} (h1 : 1 ≤ m) (h2 : m ≤ 12) : m = 1 ∨ m = 2 ∨ m = 3 ∨ m = 4 ∨ m = 5 ∨ m = 6 ∨ m = 7 ∨ m = 8 ∨ m = 9 ∨ m = 10 ∨ m = 11 ∨ m = 12 := by omega
theorem cum_succ (y m : Int) (h1 : 1 ≤ m) (h2 : m ≤ 12) : cum y (m + 1) = cum y m + dim y m := by
  rcases months h1 h2 with rfl | rfl | rfl | rfl | rfl | rfl | rfl | rfl | rfl | rfl | rfl | rfl <;> by_cases h : y % 4 = 0 <;> simp [cum, dim, h]
theorem cum_bd (y m : Int) : 0 ≤ cum y m ∧ cum y m ≤ 366 := by unfold cum; repeat' split <;> omega
theorem cum_year (y : Int) : cum y 13 = 337 + dim y 2 := by unfold cum dim; by_cases h : y % 4 = 0 <;> simp [h]
theorem cum_mono (y : Int) {m m' : Int} (h1 : 1 ≤ m) (h2 : m < m') (h3 : m' ≤ 13) : cum y m + dim y m ≤ cum y m' := by
  have key : ∀ d : Nat, ∀ m' : Int, m' = m + 1 + d → m' ≤ 13 → cum y m + dim y m ≤ cum y m' := by
    intro d
    induction d with
    | zero => intro m' e h; rw [e, ← cum_succ y m h1 (by omega)]; simp
    | succ d ih =>
      intro m' e h
      have h' := ih (m' - 1) (by omega) (by omega)
      have h'' := cum_succ y (m' - 1) (by omega) (by omega)
      have h3 := dim_bd y (m' - 1)
      rw [show m' - 1 + 1 = m' by omega] at h''
      omega
  exact key (m' - m - 1).toNat m' (by omega) h3

/-- The days before a year. -/
def yr (y : Int) : Int := 365 * (y - 1970) + (y - 1969) / 4
theorem yr_first : yr 1970 = 0 := by unfold yr; omega
theorem yr_succ (y : Int) : yr (y + 1) = yr y + 337 + dim y 2 := by
  unfold yr dim; rw [if_pos rfl]; split <;> omega
theorem yr_bd {y : Int} (h1 : 1970 ≤ y) (h2 : y ≤ 2070) : 0 ≤ yr y ∧ yr y ≤ 36525 := by unfold yr; omega
theorem yr_last : yr 2070 = 36525 := by unfold yr; omega
theorem yr_mono {y y' : Int} (h : y < y') : yr y + 337 + dim y 2 ≤ yr y' := by
  have := yr_succ y; unfold yr at *; omega

/-- The number of a date. -/
def num (y m d : Int) : Int := yr y + cum y m + d - 1

/-- A date that is valid. -/
def Ok (y m d : Int) : Prop := 1970 ≤ y ∧ y ≤ 2069 ∧ 1 ≤ m ∧ m ≤ 12 ∧ 1 ≤ d ∧ d ≤ dim y m

theorem num_bd {y m d : Int} (h : Ok y m d) : 0 ≤ num y m d ∧ num y m d ≤ 36524 := by
  obtain ⟨h1, h2, h3, h4, h5, h6⟩ := h
  have a := cum_bd y m
  have b := yr_bd h1 (by omega : y ≤ 2070)
  have c := yr_mono (show y < 2070 by omega)
  rw [yr_last] at c
  have d := cum_mono y h3 (show m < 13 by omega) (by omega)
  rw [cum_year] at d
  unfold num; omega

theorem num_year {y m d : Int} (h : Ok y m d) : yr y ≤ num y m d ∧ num y m d < yr (y + 1) := by
  obtain ⟨h1, h2, h3, h4, h5, h6⟩ := h
  have a := cum_bd y m
  have c := yr_succ y
  have d := cum_mono y h3 (show m < 13 by omega) (by omega)
  rw [cum_year] at d
  unfold num; omega

theorem num_inj {y m d y' m' d' : Int} (h : Ok y m d) (h' : Ok y' m' d') (e : num y m d = num y' m' d') : y = y' ∧ m = m' ∧ d = d' := by
  have a := num_year h
  have a' := num_year h'
  have ey : y = y' := by
    rcases Int.lt_trichotomy y y' with l | l | l
    · have := yr_mono l; rw [← yr_succ] at this; omega
    · exact l
    · have := yr_mono l; rw [← yr_succ] at this; omega
  subst ey
  obtain ⟨h1, h2, h3, h4, h5, h6⟩ := h
  obtain ⟨k1, k2, k3, k4, k5, k6⟩ := h'
  unfold num at e
  have em : m = m' := by
    rcases Int.lt_trichotomy m m' with l | l | l
    · have := cum_mono y h3 l (by omega); omega
    · exact l
    · have := cum_mono y k3 l (by omega); omega
  subst em
  exact ⟨rfl, rfl, by omega⟩

/-! ### eventually -/
theorem Ev.intro {α : Type} {g : Nat → Option α} {r : α} (v : Option α) (h : ∀ k, g k = v) (hv : v = some r) : Ev g r := ⟨0, fun k _ => (h k).trans hv⟩
theorem Ev.pure {α : Type} {v : Option α} {r : α} (hv : v = some r) : Ev (fun _ => v) r := ⟨0, fun _ _ => hv⟩
/-- A number that is bound to be within an int64. -/
theorem i64_bd {x : Int} (h : (Lit.int .i64 x).wf = true) : -9223372036854775808 ≤ x ∧ x ≤ 9223372036854775807 := bounds_i64 h


/-! ### lists, walked by an index -/
theorem drop_stepD {α : Type} (l : List α) (z : α) {i : Int} (h0 : 0 ≤ i) (h1 : i < (l.length : Int)) : l.drop i.toNat = l.getD i.toNat z :: l.drop (i + 1).toNat := by
  have hl : i.toNat < l.length := by omega
  rw [List.drop_eq_getElem_cons hl, show (i + 1).toNat = i.toNat + 1 by omega]
  simp only [List.getD_eq_getElem?_getD, List.getElem?_eq_getElem hl, Option.getD_some]
theorem drop_step (l : List Int) {i : Int} (h0 : 0 ≤ i) (h1 : i < (l.length : Int)) : l.drop i.toNat = rd l i :: l.drop (i + 1).toNat := drop_stepD l 0 h0 h1
theorem drop_end {α : Type} (l : List α) {i : Int} (h1 : ¬ i < (l.length : Int)) : l.drop i.toNat = [] := List.drop_eq_nil_of_le (by omega)
theorem rd_mem (l : List Int) {i : Int} (h0 : 0 ≤ i) (h1 : i < (l.length : Int)) : rd l i ∈ l := by
  have hl : i.toNat < l.length := by omega
  unfold rd
  rw [List.getD_eq_getElem?_getD, List.getElem?_eq_getElem hl, Option.getD_some]
  exact List.getElem_mem hl
theorem getD_mem {α : Type} (l : List α) (z : α) {i : Int} (h0 : 0 ≤ i) (h1 : i < (l.length : Int)) : l.getD i.toNat z ∈ l := by
  have hl : i.toNat < l.length := by omega
  rw [List.getD_eq_getElem?_getD, List.getElem?_eq_getElem hl, Option.getD_some]
  exact List.getElem_mem hl
/-- m, m + 1, .. -/
def seqI (m : Int) : Nat → List Int
  | 0 => []
  | n + 1 => m :: seqI (m + 1) n
theorem seqI_length (n : Nat) : ∀ m, (seqI m n).length = n := by
  induction n with
  | zero => intro m; rfl
  | succ n ih => intro m; simp [seqI, ih]
/-- The sum of a list of amounts, bounded. -/
def Amounts (l : List Int) : Prop := ∀ x ∈ l, 0 ≤ x ∧ x ≤ 1000000000
instance (l : List Int) : Decidable (Amounts l) := by unfold Amounts; infer_instance
theorem sum_bd {l : List Int} {B : Int} (h : ∀ x ∈ l, 0 ≤ x ∧ x ≤ B) : 0 ≤ l.sum ∧ l.sum ≤ B * (l.length : Int) := by
  induction l with
  | nil => simp
  | cons x xs ih =>
    have h1 := ih fun y hy => h y (List.mem_cons_of_mem _ hy)
    have h2 := h x List.mem_cons_self
    rw [List.sum_cons, List.length_cons, show B * ((xs.length + 1 : Nat) : Int) = B * (xs.length : Int) + B by rw [Int.natCast_add, Int.mul_add]; simp]
    omega
theorem sum_drop (l : List Int) (n : Nat) : (l.take n).sum + (l.drop n).sum = l.sum := by
  conv => rhs; rw [← List.take_append_drop n l]
  rw [List.sum_append]
/-- Set, and then set on behind it. -/
theorem set_drop {α : Type} (l : List α) (n : Nat) (x : α) (h : n < l.length) : (l.set n x).take (n + 1) = l.take n ++ [x] := by
  rw [List.take_set, List.take_succ_eq_append_getElem h, List.set_append_right _ _ (by simp; omega)]
  simp [Nat.min_eq_left (Nat.le_of_lt h)]
end Go.Proofs.YtgikpojgngoboaaDoor.L

