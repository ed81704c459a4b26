/- The plain laws of chapter 5 that list codes of parties: what the printed law of each function comes to is 'true', for all arguments of their kinds. -/
import Derived.Test.YtccnbjaaaaljoaaFnExactClientsOfLz
namespace Go.Proofs.Ytccnbjaaaaljoaa.Pure
set_option linter.unusedVariables false
set_option linter.unusedSimpArgs false
open Go.RowKit Go.Proofs.Ytccnbjaaaaljoaa.P Go.Proofs.Ytccnbjaaaaljoaa.L Go.Proofs.YtccnbjaaaaljoaaW.PrintWords Go.Proofs.YtccnbjaaaaljoaaW.PrintLast Go.Proofs.YtccnbjaaaaljoaaW.PrintMore

theorem codesM_some {p : S113 → Bool} : ∀ (l : List S113) (o : List ByteArray), o.length + l.length ≤ 1000 → X.codesM (fun x => some (p x)) o l = some (o ++ (l.filter p).map (·.f0))
  | [], o, _ => by simp [X.codesM]
  | x :: l, o, h => by
    simp only [List.length_cons] at h
    simp only [X.codesM, Option.bind_some]
    cases hp : p x
    · simp only [Bool.false_eq_true, if_false]
      rw [codesM_some l o (by omega)]
      simp [hp]
    · rw [if_pos rfl, if_pos (by omega), codesM_some l (o ++ [x.f0]) (by simp; omega)]
      simp [hp]
theorem regB_len {l : List S113} (h : regB l = true) : l.length ≤ 12 := by
  unfold regB at h
  rw [Bool.and_eq_true] at h
  have := of_decide_eq_true h.2
  omega
theorem spec_ClientsOf_l0 (l : List S113) (hl : l.length ≤ 12) (c : ByteArray) : ∀ (j : Nat) (i : Int) (o : List ByteArray), 0 ≤ i → i + j = l.length → o.length + j ≤ 100 →
    Ev (fun k => spec_ClientsOf.l0 k l c o i) (o ++ ((l.drop i.toNat).filter fun x => decide (x.f2.toList = c.toList)).map (·.f0), 0) := by
  intro j
  induction j with
  | zero =>
    intro i o h0 h1 h2
    refine Ev.step (f := fun _ => some (o, 0)) (fun k => ?_) (Ev.pure ?_)
    · simp only [spec_ClientsOf.l0]; rw [if_neg (by omega)]
    · rw [drop_end l (by omega)]; simp
  | succ j ih =>
    intro i o h0 h1 h2
    have hd : l.drop i.toNat = rd_T113 l i :: l.drop (i + 1).toNat := drop_stepD l z113 h0 (by omega)
    rw [hd]
    by_cases hc : (rd_T113 l i).f2.toList = c.toList
    · have h := ih (i + 1) (o ++ [(rd_T113 l i).f0]) (by omega) (by omega) (by simp; omega)
      rw [show o ++ ((rd_T113 l i :: l.drop (i + 1).toNat).filter fun x => decide (x.f2.toList = c.toList)).map (·.f0) = o ++ [(rd_T113 l i).f0] ++ ((l.drop (i + 1).toNat).filter fun x => decide (x.f2.toList = c.toList)).map (·.f0) by simp [hc]]
      refine Ev.step (fun k => ?_) h
      simp only [spec_ClientsOf.l0]; rw [if_pos (by omega), if_pos h0, if_pos hc, if_pos (by omega), w64 (by omega) (by omega)]
    · have h := ih (i + 1) o (by omega) (by omega) (by omega)
      rw [show ((rd_T113 l i :: l.drop (i + 1).toNat).filter fun x => decide (x.f2.toList = c.toList)) = (l.drop (i + 1).toNat).filter fun x => decide (x.f2.toList = c.toList) by simp [hc]]
      refine Ev.step (fun k => ?_) h
      simp only [spec_ClientsOf.l0]; rw [if_pos (by omega), if_pos h0, if_neg hc, w64 (by omega) (by omega)]
/-- What ClientsOf answers. -/
def clientsV (l : List S113) (c : ByteArray) : List ByteArray × Int := if codeV l c = 0 then ((l.filter fun x => decide (x.f2.toList = c.toList)).map (·.f0), 0) else ([], codeV l c)
theorem codeV_reg {l : List S113} {c : ByteArray} (h : codeV l c = 0) : regB l = true := by
  unfold codeV at h
  split at h
  · rename_i q; exact q.1
  · cases h
theorem impl_ClientsOf (l : List S113) (hs : ∀ x ∈ l, x.f0.size ≤ 1048576 ∧ x.f2.size ≤ 1048576) (c : ByteArray) (hc : c.size ≤ 1048576) : Ev (fun k => impl_ClientsOf.f k l c) (clientsV l c) := by
  have h1 := L.impl_FindParty l hs c hc
  unfold impl_ClientsOf.f clientsV
  unfold findV at h1
  by_cases h : codeV l c = 0
  · have := regB_len (codeV_reg h)
    rw [if_pos h] at h1
    refine Ev.bind h1 ?_
    simp only [h, if_true, BEq.rfl]
    rw [codesM_some (p := fun x => decide (x.f2.toList = c.toList)) l [] (by simp; omega)]
    exact Ev.pure (by simp)
  · rw [if_neg h] at h1
    refine Ev.bind h1 ?_
    have hb : (codeV l c == 0) = false := beq_eq_false_iff_ne.2 h
    simp only [h, hb, if_false, Bool.false_eq_true]
    exact Ev.pure rfl
theorem spec_ClientsOf (l : List S113) (hl : l.length ≤ 1048576) (hs : ∀ x ∈ l, x.f0.size ≤ 1048576 ∧ x.f2.size ≤ 1048576) (c : ByteArray) (hc : c.size ≤ 1048576) : Ev (fun k => spec_ClientsOf.f k l c) (clientsV l c) := by
  unfold spec_ClientsOf.f clientsV
  refine Ev.bind (L.spec_l05Code l hl hs c hc) ?_
  by_cases h : codeV l c = 0
  · have := regB_len (codeV_reg h)
    simp only [h, if_true]
    have h0 := spec_ClientsOf_l0 l this c l.length 0 [] (by omega) (by omega) (by simp; omega)
    simpa using h0
  · simp only [h, if_false]; exact Ev.pure rfl
theorem clientsV_len (l : List S113) (hl : l.length ≤ 1048576) (c : ByteArray) : (clientsV l c).1.length ≤ 1048576 := by
  unfold clientsV
  split
  · have := List.length_filter_le (fun x : S113 => decide (x.f2.toList = c.toList)) l
    simp only [List.length_map]; omega
  · simp
theorem FnExactClientsOf_tail (l : List S112) (a : ByteArray) (q : List ByteArray) (c : Int) (hl : l.length ≤ 1048576) (hq : q.length ≤ 1048576) (him : Ev (fun k => impl_ClientsOf.f k (l.map L.convParty) a) (q, c)) :
    Ev (fun k => laws_FnExactClientsOf.j0 k l a q c (l.map L.convParty) q c false) true := by
  have hm : (l.map L.convParty).length ≤ 1048576 := by rw [List.length_map]; exact hl
  obtain ⟨q', n1, n2, n3⟩ := L.marks_both q hq
  have j2 : Ev (fun k => laws_FnExactClientsOf.j2 k q' (1 + (q.length : Int)) false) true :=
    Ev.step (f := fun k => (laws_heldStringS.f k q' 1).bind fun t195 => if t195 < 0 then some false else if t195 = 1 + (q.length : Int) then some true else some false) (fun k => by simp only [laws_FnExactClientsOf.j2, Bool.false_eq_true, if_false])
      (Ev.bind n3 (Ev.pure (by rw [if_neg (by omega), if_pos rfl])))
  have j1 : Ev (fun k => laws_FnExactClientsOf.j1 k l a q c q false) true := by
    refine Ev.step (fun k => by simp only [laws_FnExactClientsOf.j1, Bool.false_eq_true, if_false]) (Ev.bind n2 (f := fun k (bt184 : Int × List ByteArray) => (laws_heldStringS.f k bt184.2 1).bind fun t186 => (if t186 < 0 then (some false) else (if t186 = bt184.1 then ((laws_toPartyS.f k l).bind fun t187 => ((impl_ClientsOf.f k t187 a).bind fun bt190 => ((laws_eqStringS.f k bt190.1 q).bind fun t194 => (if t194 = true then (laws_FnExactClientsOf.j2 k bt184.2 bt184.1 (bt190.2 != c)) else (laws_FnExactClientsOf.j2 k bt184.2 bt184.1 true))))) else (some false)))) ?_)
    refine Ev.bind n3 ?_
    simp only [show ¬ (1 + (q.length : Int) < 0) by omega, if_false, if_true]
    refine Ev.bind (L.laws_toPartyS l hl) (Ev.bind him (Ev.bind (L.laws_eqStringS q hq) ?_))
    simp only [if_true, bne_self_eq_false]
    exact j2
  obtain ⟨⟨mk, ml⟩, m1, m2⟩ := L.laws_markPartyS (l.map L.convParty) hm
  refine Ev.step (fun k => by simp only [laws_FnExactClientsOf.j0, Bool.false_eq_true, if_false]) (Ev.bind (L.laws_toPartyS l hl) (f := fun k t695 => (laws_eqPartyS.f k (l.map L.convParty) t695).bind fun t698 => (if t698 = true then ((laws_markPartyS.f k (l.map L.convParty) 1).bind fun bt699 => (if bt699.1 < 0 then (laws_FnExactClientsOf.j1 k l a q c q true) else ((laws_eqStringS.f k q q).bind fun t701 => (if t701 = true then (laws_FnExactClientsOf.j1 k l a q c q (c != c)) else (laws_FnExactClientsOf.j1 k l a q c q true))))) else (some false))) ?_)
  refine Ev.bind (L.laws_eqPartyS _ hm) ?_
  simp only [if_true]
  refine Ev.bind m1 ?_
  simp only [show ¬ (mk < 0) from by simpa using m2, if_false]
  refine Ev.bind (L.laws_eqStringS q hq) ?_
  simp only [if_true, bne_self_eq_false]
  exact j1
theorem FnExactClientsOf' (l : List S112) (c : ByteArray) (hb : l.length * 40 ≤ 140737488351232) (hq : ∀ x ∈ l, ReadP x) (_ : c.size ≤ 140737488351232) : ∃ k, laws_FnExactClientsOf.f k l c = some true := by
  unfold laws_FnExactClientsOf.f
  by_cases hc : (c.size : Int) > 1048576
  · exact ⟨0, by rw [if_pos hc]⟩
  simp only [hc, if_false]
  refine beginP l hb hq (fun k t h => by rw [if_pos h]) (fun hl hs r hn => ?_)
  have hm : (l.map L.convParty).length ≤ 1048576 := by rw [List.length_map]; exact hl
  have h1 := impl_ClientsOf _ hs c (by omega)
  have h2 := spec_ClientsOf _ hm hs c (by omega)
  have hlen := clientsV_len _ hm c
  generalize clientsV (l.map L.convParty) c = v at h1 h2 hlen
  obtain ⟨q, e⟩ := v
  simp only [hn, if_false]
  refine Ev.bind (L.laws_toPartyS l hl) (Ev.bind h2 (Ev.bind (L.laws_toPartyS l hl) (Ev.bind h1 (Ev.bind (L.laws_eqStringS q hlen) ?_))))
  simp only [if_true, bne_self_eq_false]
  exact FnExactClientsOf_tail l c q e hl hlen h1
end Go.Proofs.Ytccnbjaaaaljoaa.Pure

