/- What the functions of chapter 5 answer (registers of parties), in the program and in the reference. Conditions: texts and lists of bounded size. -/
import Derived.Test.YtccnbjaaaaljoaaFnExactClientsOfLs
namespace Go.Proofs.Ytccnbjaaaaljoaa.L
set_option linter.unusedVariables false
set_option linter.unusedSimpArgs false
open Go.RowKit Go.Proofs.Ytccnbjaaaaljoaa.P Go.Proofs.YtccnbjaaaaljoaaW.PrintWords Go.Proofs.YtccnbjaaaaljoaaW.PrintLast Go.Proofs.YtccnbjaaaaljoaaW.PrintMore

theorem laws_szPartyS_l0 (l : List S112) (hl : l.length ≤ 1048576) (hs : ∀ x ∈ l, x.f0.size ≤ 9223372036854775807 ∧ x.f2.size ≤ 9223372036854775807) : ∀ (j : Nat) (i t : Int), 0 ≤ i → i + j = l.length → 0 ≤ t → t ≤ 1048576 →
    ∃ r, Ev (fun k => laws_szPartyS.l0 k l t i) r ∧ (0 ≤ r → ∀ x ∈ l.drop i.toNat, x.f0.size ≤ 1048576 ∧ x.f2.size ≤ 1048576) := by
  intro j
  induction j with
  | zero =>
    intro i t h0 h1 h2 h3
    refine ⟨t, Ev.step (f := fun _ => some t) (fun k => ?_) (Ev.pure rfl), fun _ x hx => ?_⟩
    · simp only [laws_szPartyS.l0]; rw [if_neg (by omega)]
    · rw [drop_end l (by omega)] at hx; cases hx
  | succ j ih =>
    intro i t h0 h1 h2 h3
    have hd : l.drop i.toNat = rd_T112 l i :: l.drop (i + 1).toNat := drop_stepD l z112 h0 (by omega)
    have hm : rd_T112 l i ∈ l := List.mem_of_mem_drop (i := i.toNat) (by rw [hd]; exact List.mem_cons_self)
    have b := hs _ hm
    have stop : ∀ v : Int, laws_szParty.f (rd_T112 l i).f0 (rd_T112 l i).f1 (rd_T112 l i).f2 t = some (-1) → ∃ r, Ev (fun k => laws_szPartyS.l0 k l t i) r ∧ (0 ≤ r → ∀ x ∈ l.drop i.toNat, x.f0.size ≤ 1048576 ∧ x.f2.size ≤ 1048576) := by
      intro v hv
      refine ⟨-1, Ev.step (f := fun _ => some (-1)) (fun k => ?_) (Ev.pure rfl), fun q => absurd q (by decide)⟩
      simp only [laws_szPartyS.l0]
      rw [if_pos (by omega), if_pos h0, hv, Option.bind_some, if_pos (by decide)]
    have e1 : wrap64 (t - ((rd_T112 l i).f0.size : Int)) = t - ((rd_T112 l i).f0.size : Int) := w64 (by omega) (by omega)
    by_cases h : t - ((rd_T112 l i).f0.size : Int) < 0
    · exact stop 0 (by unfold laws_szParty.f; rw [e1, if_pos h])
    have e2 : wrap64 (t - ((rd_T112 l i).f0.size : Int) - ((rd_T112 l i).f2.size : Int)) = t - ((rd_T112 l i).f0.size : Int) - ((rd_T112 l i).f2.size : Int) := w64 (by omega) (by omega)
    by_cases h' : t - ((rd_T112 l i).f0.size : Int) - ((rd_T112 l i).f2.size : Int) < 0
    · exact stop 0 (by unfold laws_szParty.f; rw [e1, e2, if_neg h, if_pos h'])
    · obtain ⟨r, r1, r2⟩ := ih (i + 1) (t - ((rd_T112 l i).f0.size : Int) - ((rd_T112 l i).f2.size : Int)) (by omega) (by omega) (by omega) (by omega)
      refine ⟨r, Ev.step (fun k => ?_) r1, fun q x hx => ?_⟩
      · simp only [laws_szPartyS.l0, laws_szParty.f]
        rw [if_pos (by omega), if_pos h0, e1, e2, if_neg h, if_neg h', Option.bind_some, if_neg h', w64 (x := i + 1) (by omega) (by omega)]
      · rw [hd] at hx
        rcases List.mem_cons.1 hx with rfl | hx
        · omega
        · exact r2 q x hx
theorem laws_szPartyS (l : List S112) (hl : l.length * 40 ≤ 140737488351232) (hs : ∀ x ∈ l, x.f0.size ≤ 9223372036854775807 ∧ x.f2.size ≤ 9223372036854775807) :
    ∃ r, Ev (fun k => laws_szPartyS.f k l 1048576) r ∧ (0 ≤ r → l.length ≤ 1048576 ∧ ∀ x ∈ l, x.f0.size ≤ 1048576 ∧ x.f2.size ≤ 1048576) := by
  unfold laws_szPartyS.f
  rw [w64 (by omega) (by omega)]
  by_cases h : (1048576 : Int) - (l.length : Int) < 0
  · exact ⟨-1, by simp only [h, if_true]; exact Ev.pure rfl, fun q => absurd q (by decide)⟩
  · simp only [h, if_false]
    obtain ⟨r, r1, r2⟩ := laws_szPartyS_l0 l (by omega) hs l.length 0 (1048576 - (l.length : Int)) (by omega) (by omega) (by omega) (by omega)
    exact ⟨r, r1, fun q => ⟨by omega, by simpa using r2 q⟩⟩
theorem data_toList (s : ByteArray) : s.data.toList = s.toList := by
  first | rfl | exact (ByteArray.toList_data s).symm | simp [ByteArray.toList_eq]
theorem size_ne {s : ByteArray} (h : s.size ≠ 0) : s.toList ≠ ([] : List UInt8) := by
  intro e
  apply h
  rw [← data_toList] at e
  have : s.data.toList.length = s.data.size := Array.length_toList
  rw [e] at this
  exact this.symm
/-- A party as it may be. -/
def partyB (x : S113) : Bool := spelledV x.f0 1 6 97 122 && (decide (0 ≤ x.f1 ∧ x.f1 ≤ 4) && (decide (x.f2.toList = ([] : List UInt8)) || (spelledV x.f2 1 6 97 122 && !(decide (x.f2.toList = x.f0.toList)))))
theorem impl_isParty (x : S113) (h0 : x.f0.size ≤ 1048576) (h2 : x.f2.size ≤ 1048576) : Ev (fun k => impl_isParty.f k x.f0 x.f1 x.f2) (partyB x) := by
  unfold impl_isParty.f partyB
  refine Ev.bind (impl_IsPartyCode x.f0 (by omega)) ?_
  cases hc : spelledV x.f0 1 6 97 122
  · simp only [Bool.false_eq_true, if_false, Bool.false_and]; exact Ev.pure rfl
  simp only [if_true, Bool.true_and, impl_in, Option.bind_some]
  by_cases h1 : 0 ≤ x.f1 ∧ x.f1 ≤ 4
  · simp only [h1, and_self, decide_true, if_true, Bool.true_and]
    have hne : x.f0.toList ≠ ([] : List UInt8) := size_ne (by
      unfold spelledV at hc
      rw [Bool.and_eq_true] at hc
      have := of_decide_eq_true hc.2
      omega)
    by_cases h3 : x.f2.toList = x.f0.toList
    · have h4 : ¬ (x.f2.toList = ([] : List UInt8)) := by rw [h3]; exact hne
      simp only [h3, if_true]
      rw [h3] at h4
      simp only [h4, decide_false, decide_true, Bool.not_true, Bool.and_false, Bool.or_false]
      exact Ev.pure rfl
    · simp only [h3, if_false, decide_false, Bool.not_false, Bool.and_true]
      by_cases h4 : x.f2.toList = ([] : List UInt8)
      · simp only [h4, if_true, decide_true, Bool.true_or]; exact Ev.pure rfl
      · simp only [h4, if_false, decide_false, Bool.false_or]
        exact Ev.bind (impl_IsPartyCode x.f2 (by omega)) (Ev.pure rfl)
  · simp only [h1, decide_false, Bool.false_eq_true, if_false, Bool.false_and]; exact Ev.pure rfl
theorem spec_l05Party (x : S113) (h0 : x.f0.size ≤ 1048576) (h2 : x.f2.size ≤ 1048576) : Ev (fun k => spec_l05Party.f k x.f0 x.f1 x.f2) (partyB x) := by
  unfold spec_l05Party.f partyB
  refine Ev.bind (spec_IsPartyCode x.f0 (by omega)) ?_
  cases hc : spelledV x.f0 1 6 97 122
  · simp only [Bool.false_eq_true, if_false, Bool.false_and]; exact Ev.pure rfl
  simp only [if_true, Bool.true_and, spec_l01In, Option.bind_some]
  by_cases h1 : 0 ≤ x.f1 ∧ x.f1 ≤ 4
  · simp only [h1, and_self, decide_true, if_true, Bool.true_and]
    by_cases h4 : x.f2.toList = ([] : List UInt8)
    · simp only [h4, if_true, decide_true, Bool.true_or]; exact Ev.pure rfl
    · simp only [h4, if_false, decide_false, Bool.false_or]
      refine Ev.bind (spec_IsPartyCode x.f2 (by omega)) ?_
      cases spelledV x.f2 1 6 97 122
      · simp only [Bool.false_eq_true, if_false, Bool.false_and]; exact Ev.pure rfl
      · simp only [if_true, Bool.true_and]
        exact Ev.pure (by
          congr 1
          by_cases h5 : x.f2.toList = x.f0.toList
          · rw [decide_eq_true h5, h5]; exact bne_self_eq_false _
          · rw [decide_eq_false h5]; exact bne_iff_ne.2 h5)
  · simp only [h1, decide_false, Bool.false_eq_true, if_false, Bool.false_and]; exact Ev.pure rfl
/-- The place of a code. -/
def fnd (c : ByteArray) : List S113 → Int → Int
  | [], _ => -1
  | x :: l, i => if x.f0.toList = c.toList then i else fnd c l (i + 1)
theorem idxM_fnd (c : ByteArray) : ∀ (l : List S113) (i : Int), X.idxM (fun x : S113 => some (decide (x.f0.toList = c.toList))) true l i = some (fnd c l i)
  | [], _ => rfl
  | x :: l, i => by
    simp only [X.idxM, fnd, Option.bind_some]
    by_cases h : x.f0.toList = c.toList
    · simp [h]
    · simp only [h, decide_false, if_false, Bool.false_eq_true]
      exact idxM_fnd c l (i + 1)
theorem fnd_bd (c : ByteArray) : ∀ (l : List S113) (i : Int), 0 ≤ i → -1 ≤ fnd c l i ∧ fnd c l i < i + (l.length : Int)
  | [], i, h => by simp [fnd]; omega
  | x :: l, i, h => by
    have := fnd_bd c l (i + 1) (by omega)
    simp only [fnd, List.length_cons]
    split <;> omega
theorem impl_findParty (l : List S113) (c : ByteArray) : impl_findParty.f l c = some (X.idxV (fnd c l 0)) := by
  unfold impl_findParty.f
  rw [idxM_fnd, Option.bind_some]
theorem spec_l05Find_l0 (l : List S113) (hl : l.length ≤ 1048576) (c : ByteArray) : ∀ (j : Nat) (i : Int), 0 ≤ i → i + j = l.length → Ev (fun k => spec_l05Find.l0 k l c i) (fnd c (l.drop i.toNat) i) := by
  intro j
  induction j with
  | zero =>
    intro i h0 h1
    refine Ev.step (f := fun _ => some (-1)) (fun k => ?_) (Ev.pure ?_)
    · simp only [spec_l05Find.l0]; rw [if_neg (by omega)]
    · rw [drop_end l (by omega)]; rfl
  | succ j ih =>
    intro i h0 h1
    have hd : l.drop i.toNat = rd_T113 l i :: l.drop (i + 1).toNat := drop_stepD l z113 h0 (by omega)
    rw [hd]; simp only [fnd]
    by_cases hc : (rd_T113 l i).f0.toList = c.toList
    · rw [if_pos hc]
      refine Ev.step (f := fun _ => some i) (fun k => ?_) (Ev.pure rfl)
      simp only [spec_l05Find.l0]; rw [if_pos (by omega), if_pos h0, if_pos hc]
    · rw [if_neg hc]
      refine Ev.step (fun k => ?_) (ih (i + 1) (by omega) (by omega))
      simp only [spec_l05Find.l0]; rw [if_pos (by omega), if_pos h0, if_neg hc, w64 (by omega) (by omega)]
theorem spec_l05Find (l : List S113) (hl : l.length ≤ 1048576) (c : ByteArray) : Ev (fun k => spec_l05Find.f k l c) (fnd c l 0) := by
  unfold spec_l05Find.f
  exact spec_l05Find_l0 l hl c l.length 0 (by omega) (by omega)
theorem cmp_less : ∀ a b : List UInt8, Op.bytesLess a b = decide (Go.Lib.compareBytes a b < 0)
  | [], [] => rfl
  | [], _ :: _ => rfl
  | _ :: _, [] => rfl
  | a :: x, b :: y => by
    have ih := cmp_less x y
    simp only [Op.bytesLess, Go.Lib.compareBytes]
    by_cases h : a < b
    · simp [h]
    · by_cases h2 : b < a
      · have hne : (a == b) = false := by
          rw [beq_eq_false_iff_ne]; intro e; subst e; exact h h2
        simp [h, h2, hne]
      · have he : a = b := by
          rcases Nat.lt_trichotomy a.toNat b.toNat with q | q | q
          · exact absurd (UInt8.lt_iff_toNat_lt.2 q) h
          · exact UInt8.toNat_inj.1 q
          · exact absurd (UInt8.lt_iff_toNat_lt.2 q) h2
        subst he
        simp [h, ih]
def partyLt (x y : S113) : Bool := Op.bytesLess x.f0.toList y.f0.toList
theorem impl_compareParties (x y : S113) : ∃ c, Ev (fun _ => impl_compareParties.f x.f0 x.f1 x.f2 y.f0 y.f1 y.f2) c ∧ partyLt x y = decide (c < 0) := by
  refine ⟨Go.Lib.compareBytes x.f0.toList y.f0.toList, Ev.pure ?_, cmp_less _ _⟩
  unfold impl_compareParties.f strings_Compare.f bytealg_CompareString.f
  simp only [Option.bind_some, data_toList]
/-- A party's agent acts for himself. -/
def agentB (l : List S113) (x : S113) : Bool := decide (x.f2.toList = ([] : List UInt8)) || (decide (0 ≤ fnd x.f2 l 0) && decide ((rd_T113 l (fnd x.f2 l 0)).f2.toList = ([] : List UInt8)))
def regB (l : List S113) : Bool := ((l.all partyB && X.risesB partyLt l) && l.all (agentB l)) && decide ((l.length : Int) ≤ 12)
theorem regM_agent (l : List S113) (x : S113) : X.regM l x = some (agentB l x) := by
  unfold X.regM agentB
  by_cases h : x.f2.toList = ([] : List UInt8)
  · rw [if_pos h, decide_eq_true h, Bool.true_or]
  · rw [if_neg h, decide_eq_false h, Bool.false_or, idxM_fnd, Option.bind_some]
    by_cases h2 : fnd x.f2 l 0 < 0
    · rw [if_pos h2, decide_eq_false (show ¬ (0 ≤ fnd x.f2 l 0) by omega), Bool.false_and]
    · rw [if_neg h2, decide_eq_true (show 0 ≤ fnd x.f2 l 0 by omega), Bool.true_and]
theorem impl_IsRegister (l : List S113) (hs : ∀ x ∈ l, x.f0.size ≤ 1048576 ∧ x.f2.size ≤ 1048576) : Ev (fun k => impl_IsRegister.f k l) (regB l) := by
  unfold impl_IsRegister.f regB
  by_cases h : (l.length : Int) > 12
  · simp only [h, if_true, show ¬ ((l.length : Int) ≤ 12) by omega, decide_false, Bool.and_false]; exact Ev.pure rfl
  simp only [h, if_false, show (l.length : Int) ≤ 12 by omega, decide_true, Bool.and_true]
  refine Ev.bind (X.allM_ev (p := fun k (x : S113) => impl_isParty.f k x.f0 x.f1 x.f2) (q := partyB) l fun x hx => impl_isParty x (hs x hx).1 (hs x hx).2) ?_
  cases l.all partyB
  · simp only [Bool.false_eq_true, if_false, Bool.false_and]; exact Ev.pure rfl
  simp only [if_true, Bool.true_and]
  refine Ev.bind (X.risingM_ev (p := fun _ (x y : S113) => impl_compareParties.f x.f0 x.f1 x.f2 y.f0 y.f1 y.f2) l fun x _ y _ => impl_compareParties x y) ?_
  cases X.risesB partyLt l
  · simp only [Bool.false_eq_true, if_false, Bool.false_and]; exact Ev.pure rfl
  simp only [if_true, Bool.true_and]
  exact Ev.pure (X.allM_some l fun x _ => regM_agent l x)
theorem shuf : ∀ b1 X R Y D : Bool, (((X && R) && (b1 && Y)) && D) = (b1 && (((X && R) && Y) && D)) := by decide
theorem spec_IsRegister_l0 (l : List S113) (hl : l.length ≤ 1048576) (hs : ∀ x ∈ l, x.f0.size ≤ 1048576 ∧ x.f2.size ≤ 1048576) : ∀ (j : Nat) (i : Int), 0 ≤ i → i + j = l.length →
    Ev (fun k => spec_IsRegister.l0 k l i) ((((l.drop i.toNat).all partyB && X.risesB partyLt (l.drop (i - 1).toNat)) && (l.drop i.toNat).all (agentB l)) && decide ((l.length : Int) ≤ 12)) := by
  intro j
  induction j with
  | zero =>
    intro i h0 h1
    refine Ev.step (f := fun _ => some (decide ((l.length : Int) ≤ 12))) (fun k => ?_) (Ev.pure ?_)
    · simp only [spec_IsRegister.l0]; rw [if_neg (by omega)]
    · have e : X.risesB partyLt (l.drop (i - 1).toNat) = true := by
        have hlen : (l.drop (i - 1).toNat).length ≤ 1 := by rw [List.length_drop]; omega
        match l.drop (i - 1).toNat, hlen with
        | [], _ => rfl
        | [x], _ => rfl
      rw [drop_end l (by omega), e]; simp
  | succ j ih =>
    intro i h0 h1
    have h := ih (i + 1) (by omega) (by omega)
    have hd : l.drop i.toNat = rd_T113 l i :: l.drop (i + 1).toNat := drop_stepD l z113 h0 (by omega)
    have hm : rd_T113 l i ∈ l := List.mem_of_mem_drop (i := i.toNat) (by rw [hd]; exact List.mem_cons_self)
    rw [show i + 1 - 1 = i by omega] at h
    -- the rows behind the first check
    have j1f : Ev (fun k => spec_IsRegister.j1 k l i true (rd_T113 l i).f0 (rd_T113 l i).f1 (rd_T113 l i).f2) false :=
      Ev.step (f := fun _ => some false) (fun k => by simp only [spec_IsRegister.j1, if_true]) (Ev.pure rfl)
    have j1t : Ev (fun k => spec_IsRegister.j1 k l i false (rd_T113 l i).f0 (rd_T113 l i).f1 (rd_T113 l i).f2) (agentB l (rd_T113 l i) && ((((l.drop (i + 1).toNat).all partyB && X.risesB partyLt (l.drop i.toNat)) && (l.drop (i + 1).toNat).all (agentB l)) && decide ((l.length : Int) ≤ 12))) := by
      unfold agentB
      by_cases c : (rd_T113 l i).f2.toList = ([] : List UInt8)
      · rw [decide_eq_true c, Bool.true_or, Bool.true_and]
        refine Ev.step (fun k => ?_) h
        simp only [spec_IsRegister.j1, Bool.false_eq_true, if_false]
        rw [if_pos c, w64 (by omega) (by omega)]
      · rw [decide_eq_false c, Bool.false_or]
        have hf := spec_l05Find l hl (rd_T113 l i).f2
        have hb := fnd_bd (rd_T113 l i).f2 l 0 (by omega)
        generalize fnd (rd_T113 l i).f2 l 0 = r at hf hb
        refine Ev.step (fun k => by simp only [spec_IsRegister.j1, Bool.false_eq_true, if_false]; rw [if_neg c]) (Ev.bind hf (f := fun k t788 => (if t788 < 0 then (some false) else (if 0 ≤ t788 then (if t788 < (l.length : Int) then (if ((rd_T113 l t788).f2).toList = ([] : List UInt8) then (spec_IsRegister.l0 k l (wrap64 (i + 1))) else (some false)) else (none)) else (none)))) ?_)
        by_cases c2 : r < 0
        · simp only [c2, if_true, show ¬ (0 ≤ r) by omega, decide_false, Bool.false_and]; exact Ev.pure rfl
        · simp only [c2, if_false, show 0 ≤ r by omega, if_true, decide_true, Bool.true_and, show r < (l.length : Int) by omega]
          by_cases c3 : (rd_T113 l r).f2.toList = ([] : List UInt8)
          · simp only [c3, if_true, decide_true, Bool.true_and]
            rw [w64 (x := i + 1) (by omega) (by omega)]; exact h
          · simp only [c3, if_false, decide_false, Bool.false_and]; exact Ev.pure rfl
    have hp := spec_l05Party (rd_T113 l i) (hs _ hm).1 (hs _ hm).2
    refine Ev.step (fun k => by simp only [spec_IsRegister.l0]; rw [if_pos (show i < (l.length : Int) by omega), if_pos h0]) (Ev.bind hp (f := fun k t786 => (if t786 = true then (if i > 0 then (if 0 ≤ (wrap64 (i - 1)) then (if (wrap64 (i - 1)) < (l.length : Int) then (spec_IsRegister.j1 k l i (!(Op.bytesLess (((rd_T113 l (wrap64 (i - 1))).f0).toList) (((rd_T113 l i).f0).toList))) ((rd_T113 l i).f0) ((rd_T113 l i).f1) ((rd_T113 l i).f2)) else (none)) else (none)) else (spec_IsRegister.j1 k l i false ((rd_T113 l i).f0) ((rd_T113 l i).f1) ((rd_T113 l i).f2))) else (spec_IsRegister.j1 k l i true ((rd_T113 l i).f0) ((rd_T113 l i).f1) ((rd_T113 l i).f2)))) ?_)
    cases hpb : partyB (rd_T113 l i)
    · simp only [Bool.false_eq_true, if_false]
      rw [hd]; simp only [List.all_cons, hpb, Bool.false_and]
      exact j1f
    simp only [if_true]
    by_cases hi : i > 0
    · have hd2 : l.drop (i - 1).toNat = rd_T113 l (i - 1) :: l.drop (i - 1 + 1).toNat := drop_stepD l z113 (by omega) (by omega)
      rw [show i - 1 + 1 = i by omega] at hd2
      rw [w64 (x := i - 1) (by omega) (by omega)]
      simp only [hi, if_true, show (0 : Int) ≤ i - 1 by omega, show i - 1 < (l.length : Int) by omega]
      rw [hd2, hd]
      simp only [X.risesB, List.all_cons, hpb, Bool.true_and]
      change Ev (fun k => spec_IsRegister.j1 k l i (!(partyLt (rd_T113 l (i - 1)) (rd_T113 l i))) ((rd_T113 l i).f0) ((rd_T113 l i).f1) ((rd_T113 l i).f2)) _
      cases partyLt (rd_T113 l (i - 1)) (rd_T113 l i)
      · simp only [Bool.not_false, Bool.false_and, Bool.and_false]; exact j1f
      · simp only [Bool.not_true, Bool.true_and]
        rw [hd] at j1t
        rw [shuf]; exact j1t
    · simp only [hi, if_false]
      rw [show (i - 1).toNat = i.toNat by omega, hd]
      simp only [List.all_cons, hpb, Bool.true_and]
      rw [hd] at j1t
      rw [shuf]; exact j1t
theorem spec_IsRegister (l : List S113) (hl : l.length ≤ 1048576) (hs : ∀ x ∈ l, x.f0.size ≤ 1048576 ∧ x.f2.size ≤ 1048576) : Ev (fun k => spec_IsRegister.f k l) (regB l) := by
  have h := spec_IsRegister_l0 l hl hs l.length 0 (by omega) (by omega)
  unfold spec_IsRegister.f regB
  simpa using h
/-- The code of a register and a code of a party. -/
def codeV (l : List S113) (c : ByteArray) : Int := if regB l = true ∧ spelledV c 1 6 97 122 = true then (if fnd c l 0 < 0 then 4 else 0) else 1
def findV (l : List S113) (c : ByteArray) : Int × Int := if codeV l c = 0 then (fnd c l 0, 0) else (0, codeV l c)
theorem spec_l05Code (l : List S113) (hl : l.length ≤ 1048576) (hs : ∀ x ∈ l, x.f0.size ≤ 1048576 ∧ x.f2.size ≤ 1048576) (c : ByteArray) (hc : c.size ≤ 1048576) : Ev (fun k => spec_l05Code.f k l c) (codeV l c) := by
  have j1 : Ev (fun k => spec_l05Code.j0 k l c true) 1 := Ev.step (f := fun _ => some 1) (fun k => by simp only [spec_l05Code.j0, if_true]) (Ev.pure rfl)
  unfold spec_l05Code.f codeV
  refine Ev.bind (spec_IsRegister l hl hs) ?_
  cases regB l
  · simp only [Bool.false_eq_true, if_false, false_and]; exact j1
  simp only [if_true, true_and]
  refine Ev.bind (spec_IsPartyCode c (by omega)) ?_
  cases spelledV c 1 6 97 122
  · exact j1
  · refine Ev.step (fun k => by simp only [spec_l05Code.j0, Bool.not_true, Bool.false_eq_true, if_false]) (Ev.bind (spec_l05Find l hl c) (f := fun k t825 => (if t825 < 0 then (some 4) else (some 0))) ?_)
    by_cases h : fnd c l 0 < 0
    · simp only [h, if_true]; exact Ev.pure rfl
    · simp only [h, if_true, if_false]; exact Ev.pure rfl
theorem codeV_zero {l : List S113} {c : ByteArray} (h : codeV l c = 0) : 0 ≤ fnd c l 0 ∧ fnd c l 0 < (l.length : Int) := by
  have hb := fnd_bd c l 0 (by omega)
  unfold codeV at h
  split at h
  · split at h
    · cases h
    · omega
  · cases h
theorem impl_FindParty (l : List S113) (hs : ∀ x ∈ l, x.f0.size ≤ 1048576 ∧ x.f2.size ≤ 1048576) (c : ByteArray) (hc : c.size ≤ 1048576) : Ev (fun k => impl_FindParty.f k l c) (findV l c) := by
  unfold impl_FindParty.f findV codeV
  refine Ev.bind (impl_IsRegister l hs) ?_
  cases regB l
  · simp only [Bool.false_eq_true, if_false, false_and]; exact Ev.pure rfl
  simp only [if_true, true_and]
  refine Ev.bind (impl_IsPartyCode c (by omega)) ?_
  cases spelledV c 1 6 97 122
  · simp only [Bool.false_eq_true, if_false]; exact Ev.pure rfl
  · simp only [if_true, impl_findParty, Option.bind_some]
    refine Ev.pure ?_
    unfold X.idxV
    by_cases h : fnd c l 0 < 0 <;> simp [h]
end Go.Proofs.Ytccnbjaaaaljoaa.L

