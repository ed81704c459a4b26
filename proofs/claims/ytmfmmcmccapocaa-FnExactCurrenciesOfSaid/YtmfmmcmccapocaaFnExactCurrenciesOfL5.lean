/- What CurrenciesOf answers, in the program and in the reference, and its plain law. Conditions: texts and lists of bounded size. -/
import Derived.Test.YtmfmmcmccapocaaFnExactCurrenciesOfLv
namespace Go.Proofs.Ytmfmmcmccapocaa.Pure
set_option linter.unusedVariables false
set_option linter.unusedSimpArgs false
open Go.RowKit Go.Proofs.Ytmfmmcmccapocaa.P Go.Proofs.Ytmfmmcmccapocaa.L Go.Proofs.YtmfmmcmccapocaaW.PrintWords Go.Proofs.YtmfmmcmccapocaaW.PrintLast Go.Proofs.YtmfmmcmccapocaaW.PrintMore

theorem textsM_some : ∀ (l : List S53) (o : List ByteArray), o.length + l.length ≤ 1000 → X.textsM o l = some (o ++ l.map (·.f0))
  | [], o, _ => by simp [X.textsM]
  | x :: l, o, h => by
    simp only [List.length_cons] at h
    simp only [X.textsM]
    rw [if_pos (by omega), textsM_some l (o ++ [x.f0]) (by simp; omega)]
    simp
def curV (l : List S53) : List ByteArray × Int := if tableB l = true then (X.compB (l.map (·.f0)), 0) else ([], 1)
theorem impl_CurrenciesOf (l : List S53) (hs : ∀ x ∈ l, x.f0.size ≤ 1048576) : Ev (fun k => impl_CurrenciesOf.f k l) (curV l) := by
  unfold impl_CurrenciesOf.f curV
  refine Ev.bind (L.impl_IsTable l hs) ?_
  cases h : tableB l
  · simp only [Bool.false_eq_true, if_false]; exact Ev.pure rfl
  · have hl := tableB_len h
    simp only [if_true]
    rw [textsM_some l [] (by simp; omega), Option.bind_some, if_pos (by simp; omega)]
    exact Ev.pure (by simp)
theorem bytes_toList (s : ByteArray) : s.data.toList = s.toList := by
  first | rfl | exact (ByteArray.toList_data s).symm | simp [ByteArray.toList_eq]
/-- The codes so far. -/
def curC (l : List S53) (i : Nat) : List ByteArray := (Go.Lib.compactUpTo (l.map fun x => X.toB x.f0).toArray i).map X.ofBytes
theorem cur_at (l : List S53) (i : Nat) (h : i < l.length) : (l.map fun x => X.toB x.f0).toArray[i]! = X.toB (rd_T53 l (i : Int)).f0 := by
  have e : rd_T53 l (i : Int) = l[i] := by
    unfold rd_T53
    rw [List.getD_eq_getElem?_getD, show ((i : Int)).toNat = i by omega, List.getElem?_eq_getElem h]; rfl
  rw [e]
  simp [h]
theorem curC_succ (l : List S53) (i : Nat) (h : i < l.length) : curC l (i + 1) = curC l i ++ (if Go.Lib.keeps (l.map fun x => X.toB x.f0).toArray i = true then [(rd_T53 l (i : Int)).f0] else []) := by
  unfold curC
  rw [Go.Lib.compactUpTo_succ, List.map_append]
  congr 1
  rw [cur_at l i h]
  by_cases c : Go.Lib.keeps (l.map fun x => X.toB x.f0).toArray i = true
  · simp only [c, if_true, List.map_cons, List.map_nil]; rfl
  · simp only [c, if_false, List.map_nil]; rfl
theorem keeps_zero (l : List S53) : Go.Lib.keeps (l.map fun x => X.toB x.f0).toArray 0 = true := Go.Lib.keeps_lt_one _ 0 (by omega)
theorem keeps_pos (l : List S53) (i : Nat) (h : i < l.length) (h0 : 0 < i) : Go.Lib.keeps (l.map fun x => X.toB x.f0).toArray i = !(decide ((rd_T53 l (i : Int)).f0.toList = (rd_T53 l ((i : Int) - 1)).f0.toList)) := by
  have e1 := cur_at l i h
  have e2 := cur_at l (i - 1) (by omega)
  rw [show (((i - 1 : Nat)) : Int) = (i : Int) - 1 by omega] at e2
  unfold Go.Lib.keeps
  rw [e1, e2]
  simp only [X.toB, bytes_toList]
  by_cases c : (rd_T53 l (i : Int)).f0.toList = (rd_T53 l ((i : Int) - 1)).f0.toList <;> simp [c, show ¬ (i = 0) by omega]
theorem curC_len (l : List S53) (i : Nat) : (curC l i).length ≤ i := by
  unfold curC Go.Lib.compactUpTo
  rw [List.length_map, List.length_map]
  have := List.length_filter_le (Go.Lib.keeps (l.map fun x => X.toB x.f0).toArray) (List.range i)
  rw [List.length_range] at this
  exact this
theorem spec_CurrenciesOf_l0 (l : List S53) (hl : l.length ≤ 20) : ∀ (j : Nat) (i : Int), 0 ≤ i → i + j = l.length → Ev (fun k => spec_CurrenciesOf.l0 k l (curC l i.toNat) i) (curC l l.length, 0) := by
  intro j
  induction j with
  | zero =>
    intro i h0 h1
    refine Ev.step (f := fun _ => some (curC l i.toNat, 0)) (fun k => ?_) (Ev.pure ?_)
    · simp only [spec_CurrenciesOf.l0]; rw [if_neg (by omega)]
    · rw [show i.toNat = l.length by omega]
  | succ j ih =>
    intro i h0 h1
    have h := ih (i + 1) (by omega) (by omega)
    have hi : i.toNat < l.length := by omega
    have hc := curC_succ l i.toNat hi
    have hlen := curC_len l i.toNat
    rw [show (i + 1).toNat = i.toNat + 1 by omega, hc, show ((i.toNat : Nat) : Int) = i by omega] at h
    by_cases c0 : i = 0
    · have hk : Go.Lib.keeps (l.map fun x => X.toB x.f0).toArray i.toNat = true := by rw [show i.toNat = 0 by omega]; exact keeps_zero l
      rw [if_pos hk] at h
      refine Ev.step (fun k => ?_) h
      simp only [spec_CurrenciesOf.l0]; rw [if_pos (by omega), if_pos c0, if_pos h0, if_pos (by omega), w64 (by omega) (by omega)]
    · have hk := keeps_pos l i.toNat hi (by omega)
      rw [show ((i.toNat : Nat) : Int) = i by omega] at hk
      by_cases c1 : (rd_T53 l i).f0.toList = (rd_T53 l (i - 1)).f0.toList
      · rw [decide_eq_true c1, Bool.not_true] at hk
        rw [if_neg (by rw [hk]; decide), List.append_nil] at h
        refine Ev.step (fun k => ?_) h
        simp only [spec_CurrenciesOf.l0]; rw [if_pos (by omega), if_neg c0, if_pos h0, w64 (x := i - 1) (by omega) (by omega), if_pos (by omega), if_pos (by omega), if_pos c1, w64 (by omega) (by omega)]
      · rw [decide_eq_false c1, Bool.not_false] at hk
        rw [if_pos hk] at h
        refine Ev.step (fun k => ?_) h
        simp only [spec_CurrenciesOf.l0]; rw [if_pos (by omega), if_neg c0, if_pos h0, w64 (x := i - 1) (by omega) (by omega), if_pos (by omega), if_pos (by omega), if_neg c1, if_pos (by omega), w64 (by omega) (by omega)]
theorem curC_all (l : List S53) : curC l l.length = X.compB (l.map (·.f0)) := by
  unfold curC X.compB Go.Lib.compact
  rw [List.map_map, List.length_map]; rfl
theorem spec_CurrenciesOf (l : List S53) (hl : l.length ≤ 1048576) (hs : ∀ x ∈ l, x.f0.size ≤ 1048576) : Ev (fun k => spec_CurrenciesOf.f k l) (curV l) := by
  unfold spec_CurrenciesOf.f curV
  refine Ev.bind (L.spec_IsTable l hl hs) ?_
  cases h : tableB l
  · simp only [Bool.false_eq_true, if_false]; exact Ev.pure rfl
  · have hl := tableB_len h
    simp only [if_true]
    have h0 := spec_CurrenciesOf_l0 l hl l.length 0 (by omega) (by omega)
    rw [curC_all] at h0
    exact h0
theorem curV_len (l : List S53) (hl : l.length ≤ 1048576) : (curV l).1.length ≤ 1048576 := by
  unfold curV
  split
  · rw [← curC_all]
    have := curC_len l l.length
    simp only; omega
  · simp
theorem FnExactCurrenciesOf_tail (l : List S52) (q : List ByteArray) (c : Int) (hl : l.length ≤ 1048576) (hq : q.length ≤ 1048576) (him : Ev (fun k => impl_CurrenciesOf.f k (l.map L.convRate)) (q, c)) :
    Ev (fun k => laws_FnExactCurrenciesOf.j0 k l q c (l.map L.convRate) q c false) true := by
  have hm : (l.map L.convRate).length ≤ 1048576 := by rw [List.length_map]; exact hl
  obtain ⟨q', n1, n2, n3⟩ := L.marks_both q hq
  have j2 : Ev (fun k => laws_FnExactCurrenciesOf.j2 k q' (1 + (q.length : Int)) false) true :=
    Ev.step (f := fun k => (laws_heldStringS.f k q' 1).bind fun t195 => if t195 < 0 then some false else if t195 = 1 + (q.length : Int) then some true else some false) (fun k => by simp only [laws_FnExactCurrenciesOf.j2, Bool.false_eq_true, if_false])
      (Ev.bind n3 (Ev.pure (by rw [if_neg (by omega), if_pos rfl])))
  have j1 : Ev (fun k => laws_FnExactCurrenciesOf.j1 k l q c q false) true := by
    refine Ev.step (fun k => by simp only [laws_FnExactCurrenciesOf.j1, Bool.false_eq_true, if_false]) (Ev.bind n2 (f := fun k (bt184 : Int × List ByteArray) => (laws_heldStringS.f k bt184.2 1).bind fun t186 => (if t186 < 0 then (some false) else (if t186 = bt184.1 then ((laws_toRateS.f k l).bind fun t187 => ((impl_CurrenciesOf.f k t187).bind fun bt190 => ((laws_eqStringS.f k bt190.1 q).bind fun t194 => (if t194 = true then (laws_FnExactCurrenciesOf.j2 k bt184.2 bt184.1 (bt190.2 != c)) else (laws_FnExactCurrenciesOf.j2 k bt184.2 bt184.1 true))))) else (some false)))) ?_)
    refine Ev.bind n3 ?_
    simp only [show ¬ (1 + (q.length : Int) < 0) by omega, if_false, if_true]
    refine Ev.bind (L.laws_toRateS l hl) (Ev.bind him (Ev.bind (L.laws_eqStringS q hq) ?_))
    simp only [if_true, bne_self_eq_false]
    exact j2
  obtain ⟨⟨mk, ml⟩, m1, m2⟩ := L.laws_markRateS (l.map L.convRate) hm
  refine Ev.step (fun k => by simp only [laws_FnExactCurrenciesOf.j0, Bool.false_eq_true, if_false]) (Ev.bind (L.laws_toRateS l hl) (f := fun k t695 => (laws_eqRateS.f k (l.map L.convRate) t695).bind fun t698 => (if t698 = true then ((laws_markRateS.f k (l.map L.convRate) 1).bind fun bt699 => (if bt699.1 < 0 then (laws_FnExactCurrenciesOf.j1 k l q c q true) else ((laws_eqStringS.f k q q).bind fun t701 => (if t701 = true then (laws_FnExactCurrenciesOf.j1 k l q c q (c != c)) else (laws_FnExactCurrenciesOf.j1 k l q c q true))))) else (some false))) ?_)
  refine Ev.bind (L.laws_eqRateS _ hm) ?_
  simp only [if_true]
  refine Ev.bind m1 ?_
  simp only [show ¬ (mk < 0) from by simpa using m2, if_false]
  refine Ev.bind (L.laws_eqStringS q hq) ?_
  simp only [if_true, bne_self_eq_false]
  exact j1
theorem FnExactCurrenciesOf' (l : List S52) (hb : l.length * 40 ≤ 140737488351232) (hq : ∀ x ∈ l, Read1 x) : ∃ k, laws_FnExactCurrenciesOf.f k l = some true := by
  unfold laws_FnExactCurrenciesOf.f
  refine beginR l hb hq (fun k t h => by rw [if_pos h]) (fun hl hs r hn => ?_)
  have hm : (l.map L.convRate).length ≤ 1048576 := by rw [List.length_map]; exact hl
  have h1 := impl_CurrenciesOf _ hs
  have h2 := spec_CurrenciesOf _ hm hs
  have hlen := curV_len _ hm
  generalize curV (l.map L.convRate) = v at h1 h2 hlen
  obtain ⟨q, e⟩ := v
  simp only [hn, if_false]
  refine Ev.bind (L.laws_toRateS l hl) (Ev.bind h2 (Ev.bind (L.laws_toRateS l hl) (Ev.bind h1 (Ev.bind (L.laws_eqStringS q hlen) ?_))))
  simp only [if_true, bne_self_eq_false]
  exact FnExactCurrenciesOf_tail l q e hl hlen h1
end Go.Proofs.Ytmfmmcmccapocaa.Pure

