/- What the functions of chapter 6 answer (manifests of interests), in the program and in the reference, and the plain laws about them. Conditions: texts and lists of bounded size. -/
import Derived.Test.YtccnbjaaaaljoaaFnExactFindInterestLs
namespace Go.Proofs.Ytccnbjaaaaljoaa.L
set_option linter.unusedVariables false
set_option linter.unusedSimpArgs false
open Go.RowKit Go.Proofs.Ytccnbjaaaaljoaa.P Go.Proofs.YtccnbjaaaaljoaaW.PrintWords Go.Proofs.YtccnbjaaaaljoaaW.PrintLast Go.Proofs.YtccnbjaaaaljoaaW.PrintMore

theorem laws_szInterestS_l0 (l : List S101) (hl : l.length ≤ 1048576) (hs : ∀ x ∈ l, x.f0.size ≤ 9223372036854775807 ∧ x.f2.size ≤ 9223372036854775807) : ∀ (j : Nat) (i t : Int), 0 ≤ i → i + j = l.length → 0 ≤ t → t ≤ 1048576 →
    ∃ r, Ev (fun k => laws_szInterestS.l0 k l t i) r ∧ (0 ≤ r → ∀ x ∈ l.drop i.toNat, x.f0.size ≤ 1048576 ∧ x.f2.size ≤ 1048576) := by
  intro j
  induction j with
  | zero =>
    intro i t h0 h1 h2 h3
    refine ⟨t, Ev.step (f := fun _ => some t) (fun k => ?_) (Ev.pure rfl), fun _ x hx => ?_⟩
    · simp only [laws_szInterestS.l0]; rw [if_neg (by omega)]
    · rw [drop_end l (by omega)] at hx; cases hx
  | succ j ih =>
    intro i t h0 h1 h2 h3
    have hd : l.drop i.toNat = rd_T101 l i :: l.drop (i + 1).toNat := drop_stepD l z101 h0 (by omega)
    have hm : rd_T101 l i ∈ l := List.mem_of_mem_drop (i := i.toNat) (by rw [hd]; exact List.mem_cons_self)
    have b := hs _ hm
    have stop : ∀ v : Int, laws_szInterest.f (rd_T101 l i).f0 (rd_T101 l i).f1 (rd_T101 l i).f2 (rd_T101 l i).f3 (rd_T101 l i).f4 t = some (-1) → ∃ r, Ev (fun k => laws_szInterestS.l0 k l t i) r ∧ (0 ≤ r → ∀ x ∈ l.drop i.toNat, x.f0.size ≤ 1048576 ∧ x.f2.size ≤ 1048576) := by
      intro v hv
      refine ⟨-1, Ev.step (f := fun _ => some (-1)) (fun k => ?_) (Ev.pure rfl), fun q => absurd q (by decide)⟩
      simp only [laws_szInterestS.l0]
      rw [if_pos (by omega), if_pos h0, hv, Option.bind_some, if_pos (by decide)]
    have e1 : wrap64 (t - ((rd_T101 l i).f0.size : Int)) = t - ((rd_T101 l i).f0.size : Int) := w64 (by omega) (by omega)
    by_cases h : t - ((rd_T101 l i).f0.size : Int) < 0
    · exact stop 0 (by unfold laws_szInterest.f; rw [e1, if_pos h])
    have e2 : wrap64 (t - ((rd_T101 l i).f0.size : Int) - ((rd_T101 l i).f2.size : Int)) = t - ((rd_T101 l i).f0.size : Int) - ((rd_T101 l i).f2.size : Int) := w64 (by omega) (by omega)
    by_cases h' : t - ((rd_T101 l i).f0.size : Int) - ((rd_T101 l i).f2.size : Int) < 0
    · exact stop 0 (by unfold laws_szInterest.f; rw [e1, e2, if_neg h, if_pos h'])
    · obtain ⟨r, r1, r2⟩ := ih (i + 1) (t - ((rd_T101 l i).f0.size : Int) - ((rd_T101 l i).f2.size : Int)) (by omega) (by omega) (by omega) (by omega)
      refine ⟨r, Ev.step (fun k => ?_) r1, fun q x hx => ?_⟩
      · simp only [laws_szInterestS.l0, laws_szInterest.f]
        rw [if_pos (by omega), if_pos h0, e1, e2, if_neg h, if_neg h', Option.bind_some, if_neg h', w64 (x := i + 1) (by omega) (by omega)]
      · rw [hd] at hx
        rcases List.mem_cons.1 hx with rfl | hx
        · omega
        · exact r2 q x hx
theorem laws_szInterestS (l : List S101) (hl : l.length * 56 ≤ 140737488351232) (hs : ∀ x ∈ l, x.f0.size ≤ 9223372036854775807 ∧ x.f2.size ≤ 9223372036854775807) :
    ∃ r, Ev (fun k => laws_szInterestS.f k l 1048576) r ∧ (0 ≤ r → l.length ≤ 1048576 ∧ ∀ x ∈ l, x.f0.size ≤ 1048576 ∧ x.f2.size ≤ 1048576) := by
  unfold laws_szInterestS.f
  rw [w64 (by omega) (by omega)]
  by_cases h : (1048576 : Int) - (l.length : Int) < 0
  · exact ⟨-1, by simp only [h, if_true]; exact Ev.pure rfl, fun q => absurd q (by decide)⟩
  · simp only [h, if_false]
    obtain ⟨r, r1, r2⟩ := laws_szInterestS_l0 l (by omega) hs l.length 0 (1048576 - (l.length : Int)) (by omega) (by omega) (by omega) (by omega)
    exact ⟨r, r1, fun q => ⟨by omega, by simpa using r2 q⟩⟩
theorem data_toListI (s : ByteArray) : s.data.toList = s.toList := by
  first | rfl | exact (ByteArray.toList_data s).symm | simp [ByteArray.toList_eq]
theorem cmp_lessI : ∀ a b : List UInt8, Op.bytesLess a b = decide (Go.Lib.compareBytes a b < 0)
  | [], [] => rfl
  | [], _ :: _ => rfl
  | _ :: _, [] => rfl
  | a :: x, b :: y => by
    have ih := cmp_lessI x y
    simp only [Op.bytesLess, Go.Lib.compareBytes]
    by_cases h : a < b
    · simp [h]
    · by_cases h2 : b < a
      · have hne : (a == b) = false := by
          rw [beq_eq_false_iff_ne]; intro e; subst e; exact h h2
        simp [h, h2, hne]
      · have he : a = b := by
          rcases Nat.lt_trichotomy a.toNat b.toNat with q | q | q
          · exact absurd (UInt8.lt_iff_toNat_lt.2 q) h
          · exact UInt8.toNat_inj.1 q
          · exact absurd (UInt8.lt_iff_toNat_lt.2 q) h2
        subst he
        simp [h, ih]
def intLt (x y : S103) : Bool := Op.bytesLess x.f0.toList y.f0.toList
theorem impl_compareInterests (x y : S103) : ∃ c, Ev (fun _ => impl_compareInterests.f x.f0 x.f1 x.f2 x.f3 x.f4 y.f0 y.f1 y.f2 y.f3 y.f4) c ∧ intLt x y = decide (c < 0) := by
  refine ⟨Go.Lib.compareBytes x.f0.toList y.f0.toList, Ev.pure ?_, cmp_lessI _ _⟩
  unfold impl_compareInterests.f strings_Compare.f bytealg_CompareString.f
  simp only [Option.bind_some, data_toListI]
def intB (x : S103) : Bool := interestV x.f0 x.f1 x.f2 x.f3 x.f4
theorem intB_kind {x : S103} (h : intB x = true) : 0 ≤ x.f1 ∧ x.f1 ≤ 3 := by
  unfold intB interestV at h
  simp only [Bool.and_eq_true] at h
  exact of_decide_eq_true h.2.2.1
/-- The kinds are counted, as long as each interest is as it may be. -/
def cntV : List S103 → Int → Int → Int → Int → Option (Int × Int × Int × Int)
  | [], a, b, c, d => some (a, b, c, d)
  | x :: l, a, b, c, d => if intB x = true then (if x.f1 = 0 then cntV l (wrap64 (a + 1)) b c d else if x.f1 = 1 then cntV l a (wrap64 (b + 1)) c d else if x.f1 = 2 then cntV l a b (wrap64 (c + 1)) d else cntV l a b c (wrap64 (d + 1))) else none
def endV (l : List S103) (s : Bool) : Option (Int × Int × Int × Int) → Bool
  | none => false
  | some (a, b, c, _) => (decide (a = 1) && (decide (b ≤ 1) && (decide (c ≤ 1) && decide ((l.length : Int) ≤ 10)))) && s
def manB (l : List S103) : Bool := endV l (X.risesB intLt l) (cntV l 0 0 0 0)
theorem cntM_ev : ∀ (l : List S103), (∀ x ∈ l, x.f0.size ≤ 1048576 ∧ x.f2.size ≤ 1048576) → ∀ a b c d : Int, Ev (fun k => X.cntM (fun x : S103 => impl_IsInterest.f k x.f0 x.f1 x.f2 x.f3 x.f4) l a b c d) (cntV l a b c d)
  | [], _, a, b, c, d => Ev.pure rfl
  | x :: l, hs, a, b, c, d => by
    have ih := cntM_ev l fun y hy => hs y (List.mem_cons_of_mem _ hy)
    have hx := hs x List.mem_cons_self
    have hi := impl_IsInterest x.f0 x.f1 x.f2 x.f3 x.f4 (by omega) (by omega)
    simp only [X.cntM, cntV]
    refine Ev.bind hi ?_
    cases h : intB x
    · simp only [show interestV x.f0 x.f1 x.f2 x.f3 x.f4 = false from h, Bool.false_eq_true, if_false]; exact Ev.pure rfl
    · simp only [show interestV x.f0 x.f1 x.f2 x.f3 x.f4 = true from h, if_true]
      have hk := intB_kind h
      by_cases k0 : x.f1 = 0
      · simp only [k0, if_true]; exact ih _ _ _ _
      by_cases k1 : x.f1 = 1
      · simp only [k0, k1, if_true, if_false]; exact ih _ _ _ _
      by_cases k2 : x.f1 = 2
      · simp only [k0, k1, k2, if_true, if_false]; exact ih _ _ _ _
      · simp only [k0, k1, k2, if_false, show x.f1 = 3 by omega, if_true]; exact ih _ _ _ _
theorem impl_IsManifest (l : List S103) (hs : ∀ x ∈ l, x.f0.size ≤ 1048576 ∧ x.f2.size ≤ 1048576) : Ev (fun k => impl_IsManifest.f k l) (manB l) := by
  unfold impl_IsManifest.f manB
  refine Ev.bind (cntM_ev l hs 0 0 0 0) ?_
  cases cntV l 0 0 0 0 with
  | none => exact Ev.pure rfl
  | some v =>
    obtain ⟨a, b, c, d⟩ := v
    simp only [X.manF, endV]
    by_cases c1 : a = 1
    · by_cases c2 : b ≤ 1
      · by_cases c3 : c ≤ 1
        · by_cases c4 : (l.length : Int) ≤ 10
          · simp only [c1, c2, c3, c4, if_true, decide_true, Bool.true_and]
            exact X.risingM_ev (p := fun _ (x y : S103) => impl_compareInterests.f x.f0 x.f1 x.f2 x.f3 x.f4 y.f0 y.f1 y.f2 y.f3 y.f4) l fun x _ y _ => impl_compareInterests x y
          · simp only [c1, c2, c3, c4, if_true, if_false, decide_false, Bool.and_false, Bool.false_and]; exact Ev.pure rfl
        · simp only [c1, c2, c3, if_true, if_false, decide_false, Bool.and_false, Bool.false_and]; exact Ev.pure rfl
      · simp only [c1, c2, if_true, if_false, decide_false, Bool.and_false, Bool.false_and]; exact Ev.pure rfl
    · simp only [c1, if_false, decide_false, Bool.false_and]; exact Ev.pure rfl
theorem endV_false (l : List S103) (v : Option (Int × Int × Int × Int)) : endV l false v = false := by
  cases v with
  | none => rfl
  | some v => obtain ⟨a, b, c, d⟩ := v; simp [endV]
theorem spec_IsManifest_l0 (l : List S103) (hl : l.length ≤ 1048576) (hs : ∀ x ∈ l, x.f0.size ≤ 1048576 ∧ x.f2.size ≤ 1048576) : ∀ (j : Nat) (i a b c d : Int), 0 ≤ i → i + j = l.length →
    Ev (fun k => spec_IsManifest.l0 k l [a, b, c, d] i) (endV l (X.risesB intLt (l.drop (i - 1).toNat)) (cntV (l.drop i.toNat) a b c d)) := by
  intro j
  induction j with
  | zero =>
    intro i a b c d h0 h1
    have e : X.risesB intLt (l.drop (i - 1).toNat) = true := by
      have hlen : (l.drop (i - 1).toNat).length ≤ 1 := by rw [List.length_drop]; omega
      match l.drop (i - 1).toNat, hlen with
      | [], _ => rfl
      | [x], _ => rfl
    rw [e, drop_end l (by omega)]
    simp only [cntV, endV, Bool.and_true]
    refine Ev.step (f := fun _ => some (decide (a = 1) && (decide (b ≤ 1) && (decide (c ≤ 1) && decide ((l.length : Int) ≤ 10))))) (fun k => ?_) (Ev.pure rfl)
    simp only [spec_IsManifest.l0]
    rw [if_neg (by omega)]
    simp only [rd, List.length_cons, List.length_nil, List.getD_cons_zero, show (1 : Int).toNat = 1 from rfl, show (2 : Int).toNat = 2 from rfl, show (0 : Int).toNat = 0 from rfl, List.getD_cons_succ]
    by_cases c4 : (l.length : Int) ≤ 10 <;> by_cases c1 : a = 1 <;> by_cases c2 : b ≤ 1 <;> simp [c4, c1, c2]
  | succ j ih =>
    intro i a b c d h0 h1
    have hd : l.drop i.toNat = rd_T103 l i :: l.drop (i + 1).toNat := drop_stepD l z103 h0 (by omega)
    have hm : rd_T103 l i ∈ l := List.mem_of_mem_drop (i := i.toNat) (by rw [hd]; exact List.mem_cons_self)
    have hx := hs _ hm
    have hsp := spec_IsInterest (rd_T103 l i).f0 (rd_T103 l i).f1 (rd_T103 l i).f2 (rd_T103 l i).f3 (rd_T103 l i).f4 (by omega) (by omega)
    refine Ev.step (fun k => by simp only [spec_IsManifest.l0]; rw [if_pos (show i < (l.length : Int) by omega), if_pos h0]) (Ev.bind hsp (f := fun k t705 => (if t705 = true then (if i > 0 then (if 0 ≤ (wrap64 (i - 1)) then (if (wrap64 (i - 1)) < (l.length : Int) then (if ((Op.bytesLess (((rd_T103 l (wrap64 (i - 1))).f0).toList) (((rd_T103 l i).f0).toList)) = true) then (if 0 ≤ ((rd_T103 l i).f1) then (if ((rd_T103 l i).f1) < ((([a, b, c, d] : List Int)).length : Int) then (spec_IsManifest.l0 k l (([a, b, c, d] : List Int).set (((rd_T103 l i).f1) : Int).toNat (wrap64 ((rd ([a, b, c, d] : List Int) ((rd_T103 l i).f1)) + 1))) (wrap64 (i + 1))) else (none)) else (none)) else (some false)) else (none)) else (none)) else (if 0 ≤ ((rd_T103 l i).f1) then (if ((rd_T103 l i).f1) < ((([a, b, c, d] : List Int)).length : Int) then (spec_IsManifest.l0 k l (([a, b, c, d] : List Int).set (((rd_T103 l i).f1) : Int).toNat (wrap64 ((rd ([a, b, c, d] : List Int) ((rd_T103 l i).f1)) + 1))) (wrap64 (i + 1))) else (none)) else (none))) else (some false))) ?_)
    rw [hd]
    simp only [cntV]
    cases hb : intB (rd_T103 l i)
    · simp only [show interestV (rd_T103 l i).f0 (rd_T103 l i).f1 (rd_T103 l i).f2 (rd_T103 l i).f3 (rd_T103 l i).f4 = false from hb, Bool.false_eq_true, if_false, endV]
      exact Ev.pure rfl
    have hk := intB_kind hb
    simp only [show interestV (rd_T103 l i).f0 (rd_T103 l i).f1 (rd_T103 l i).f2 (rd_T103 l i).f3 (rd_T103 l i).f4 = true from hb, if_true]
    -- the next round
    have rest : Ev (fun k => if 0 ≤ ((rd_T103 l i).f1) then (if ((rd_T103 l i).f1) < ((([a, b, c, d] : List Int)).length : Int) then (spec_IsManifest.l0 k l (([a, b, c, d] : List Int).set (((rd_T103 l i).f1) : Int).toNat (wrap64 ((rd ([a, b, c, d] : List Int) ((rd_T103 l i).f1)) + 1))) (wrap64 (i + 1))) else (none)) else (none))
        (endV l (X.risesB intLt (l.drop i.toNat)) (if (rd_T103 l i).f1 = 0 then cntV (l.drop (i + 1).toNat) (wrap64 (a + 1)) b c d else if (rd_T103 l i).f1 = 1 then cntV (l.drop (i + 1).toNat) a (wrap64 (b + 1)) c d else if (rd_T103 l i).f1 = 2 then cntV (l.drop (i + 1).toNat) a b (wrap64 (c + 1)) d else cntV (l.drop (i + 1).toNat) a b c (wrap64 (d + 1)))) := by
      rw [w64 (x := i + 1) (by omega) (by omega)]
      have ih' := fun a b c d => ih (i + 1) a b c d (by omega) (by omega)
      rw [show i + 1 - 1 = i by omega] at ih'
      generalize (rd_T103 l i).f1 = kd at hk
      rcases (show kd = 0 ∨ kd = 1 ∨ kd = 2 ∨ kd = 3 by omega) with rfl | rfl | rfl | rfl
      · exact ih' _ _ _ _
      · exact ih' _ _ _ _
      · exact ih' _ _ _ _
      · exact ih' _ _ _ _
    by_cases hi : i > 0
    · have hd2 : l.drop (i - 1).toNat = rd_T103 l (i - 1) :: l.drop (i - 1 + 1).toNat := drop_stepD l z103 (by omega) (by omega)
      rw [show i - 1 + 1 = i by omega] at hd2
      rw [w64 (x := i - 1) (by omega) (by omega)]
      simp only [hi, if_true, show (0 : Int) ≤ i - 1 by omega, show i - 1 < (l.length : Int) by omega]
      rw [hd2, hd]
      simp only [X.risesB]
      cases ho : Op.bytesLess (rd_T103 l (i - 1)).f0.toList (rd_T103 l i).f0.toList
      · rw [show intLt (rd_T103 l (i - 1)) (rd_T103 l i) = false from ho, Bool.false_and, endV_false]
        simp only [Bool.false_eq_true, if_false]; exact Ev.pure rfl
      · rw [show intLt (rd_T103 l (i - 1)) (rd_T103 l i) = true from ho, Bool.true_and]
        simp only [if_true]
        rw [hd] at rest; exact rest
    · simp only [hi, if_false]
      rw [show (i - 1).toNat = i.toNat by omega]
      exact rest
theorem spec_IsManifest (l : List S103) (hl : l.length ≤ 1048576) (hs : ∀ x ∈ l, x.f0.size ≤ 1048576 ∧ x.f2.size ≤ 1048576) : Ev (fun k => spec_IsManifest.f k l) (manB l) := by
  have h := spec_IsManifest_l0 l hl hs l.length 0 0 0 0 0 (by omega) (by omega)
  unfold spec_IsManifest.f manB
  simpa using h
def fndI (c : ByteArray) : List S103 → Int → Int
  | [], _ => -1
  | x :: l, i => if x.f0.toList = c.toList then i else fndI c l (i + 1)
theorem idxM_fndI (c : ByteArray) : ∀ (l : List S103) (i : Int), X.idxM (fun x : S103 => some (decide (x.f0.toList = c.toList))) true l i = some (fndI c l i)
  | [], _ => rfl
  | x :: l, i => by
    simp only [X.idxM, fndI, Option.bind_some]
    by_cases h : x.f0.toList = c.toList
    · simp [h]
    · simp only [h, decide_false, if_false, Bool.false_eq_true]
      exact idxM_fndI c l (i + 1)
theorem spec_l06Find_l0 (l : List S103) (hl : l.length ≤ 1048576) (c : ByteArray) : ∀ (j : Nat) (i : Int), 0 ≤ i → i + j = l.length → Ev (fun k => spec_l06Find.l0 k l c i) (fndI c (l.drop i.toNat) i) := by
  intro j
  induction j with
  | zero =>
    intro i h0 h1
    refine Ev.step (f := fun _ => some (-1)) (fun k => ?_) (Ev.pure ?_)
    · simp only [spec_l06Find.l0]; rw [if_neg (by omega)]
    · rw [drop_end l (by omega)]; rfl
  | succ j ih =>
    intro i h0 h1
    have hd : l.drop i.toNat = rd_T103 l i :: l.drop (i + 1).toNat := drop_stepD l z103 h0 (by omega)
    rw [hd]; simp only [fndI]
    by_cases hc : (rd_T103 l i).f0.toList = c.toList
    · rw [if_pos hc]
      refine Ev.step (f := fun _ => some i) (fun k => ?_) (Ev.pure rfl)
      simp only [spec_l06Find.l0]; rw [if_pos (by omega), if_pos h0, if_pos hc]
    · rw [if_neg hc]
      refine Ev.step (fun k => ?_) (ih (i + 1) (by omega) (by omega))
      simp only [spec_l06Find.l0]; rw [if_pos (by omega), if_pos h0, if_neg hc, w64 (by omega) (by omega)]
def findIV (l : List S103) (c : ByteArray) : Int × Int := if manB l = true then (if fndI c l 0 < 0 then (0, 4) else (fndI c l 0, 0)) else (0, 1)
theorem impl_FindInterest (l : List S103) (hs : ∀ x ∈ l, x.f0.size ≤ 1048576 ∧ x.f2.size ≤ 1048576) (c : ByteArray) (hc : c.size ≤ 1048576) : Ev (fun k => impl_FindInterest.f k l c) (findIV l c) := by
  unfold impl_FindInterest.f findIV impl_findInterest.f
  refine Ev.bind (impl_IsManifest l hs) ?_
  cases manB l
  · simp only [Bool.false_eq_true, if_false]; exact Ev.pure rfl
  · simp only [if_true, idxM_fndI, Option.bind_some]
    exact Ev.pure (by unfold X.idxV; rfl)
theorem spec_FindInterest (l : List S103) (hl : l.length ≤ 1048576) (hs : ∀ x ∈ l, x.f0.size ≤ 1048576 ∧ x.f2.size ≤ 1048576) (c : ByteArray) (hc : c.size ≤ 1048576) : Ev (fun k => spec_FindInterest.f k l c) (findIV l c) := by
  unfold spec_FindInterest.f findIV spec_l06Find.f
  refine Ev.bind (spec_IsManifest l hl hs) ?_
  cases manB l
  · simp only [Bool.false_eq_true, if_false]; exact Ev.pure rfl
  · simp only [if_true]
    refine Ev.bind (spec_l06Find_l0 l hl c l.length 0 (by omega) (by omega)) ?_
    simp only [show l.drop (0 : Int).toNat = l from rfl]
    by_cases h : fndI c l 0 < 0
    · simp only [h, if_true]; exact Ev.pure rfl
    · simp only [h, if_false]; exact Ev.pure rfl
end Go.Proofs.Ytccnbjaaaaljoaa.L

