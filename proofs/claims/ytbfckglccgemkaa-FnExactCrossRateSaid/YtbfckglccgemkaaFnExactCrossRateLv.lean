/- What the functions of chapter 3 answer that look for a rate. Conditions: texts and lists of bounded size. -/
import Derived.Test.YtbfckglccgemkaaFnExactCrossRateLu
namespace Go.Proofs.Ytbfckglccgemkaa.L
set_option linter.unusedVariables false
set_option linter.unusedSimpArgs false
open Go.RowKit Go.Proofs.Ytbfckglccgemkaa.P Go.Proofs.YtbfckglccgemkaaW.PrintWords Go.Proofs.YtbfckglccgemkaaW.PrintLast Go.Proofs.YtbfckglccgemkaaW.PrintMore

/-- The last rate of a currency up to a day. -/
def rateL (c : ByteArray) (d : Int) : S91 × Bool → List S91 → S91 × Bool
  | o, [] => o
  | o, x :: l => rateL c d (if x.f0.toList = c.toList then (if x.f1 ≤ d then (x, true) else o) else o) l
theorem rateL_two (c : ByteArray) (d : Int) : ∀ (l : List S91) (o o' : S91 × Bool),
    (rateL c d o l = o ∧ rateL c d o' l = o') ∨ (∃ x ∈ l, x.f0.toList = c.toList ∧ rateL c d o l = (x, true) ∧ rateL c d o' l = (x, true))
  | [], _, _ => .inl ⟨rfl, rfl⟩
  | x :: l, o, o' => by
    simp only [rateL]
    by_cases h : x.f0.toList = c.toList
    · by_cases h2 : x.f1 ≤ d
      · simp only [h, h2, if_true]
        rcases rateL_two c d l (x, true) (x, true) with ⟨e, _⟩ | ⟨y, hy, hc, e, _⟩
        · exact .inr ⟨x, List.mem_cons_self, h, e, e⟩
        · exact .inr ⟨y, List.mem_cons_of_mem _ hy, hc, e, e⟩
      · simp only [h, h2, if_true, if_false]
        rcases rateL_two c d l o o' with e | ⟨y, hy, hc, e⟩
        · exact .inl e
        · exact .inr ⟨y, List.mem_cons_of_mem _ hy, hc, e⟩
    · simp only [h, if_false]
      rcases rateL_two c d l o o' with e | ⟨y, hy, hc, e⟩
      · exact .inl e
      · exact .inr ⟨y, List.mem_cons_of_mem _ hy, hc, e⟩
theorem impl_rateOn_l0 (l : List S91) (hl : l.length ≤ 1048576) (c : ByteArray) (d : Int) : ∀ (j : Nat) (i : Int) (o : S91 × Bool), 0 ≤ i → i + j = l.length →
    Ev (fun k => impl_rateOn.l0 k c d o.2 l (l.length : Int) i o.1.f0 o.1.f1 o.1.f2 o.1.f3) ((rateL c d o (l.drop i.toNat)).1.f0, (rateL c d o (l.drop i.toNat)).1.f1, (rateL c d o (l.drop i.toNat)).1.f2, (rateL c d o (l.drop i.toNat)).1.f3, (rateL c d o (l.drop i.toNat)).2) := by
  intro j
  induction j with
  | zero =>
    intro i o h0 h1
    refine Ev.step (f := fun _ => some (o.1.f0, o.1.f1, o.1.f2, o.1.f3, o.2)) (fun k => ?_) (Ev.pure ?_)
    · simp only [impl_rateOn.l0]; rw [if_neg (by omega)]
    · rw [drop_end l (by omega)]; rfl
  | succ j ih =>
    intro i o h0 h1
    have hd : l.drop i.toNat = rd_T91 l i :: l.drop (i + 1).toNat := drop_stepD l z91 h0 (by omega)
    rw [hd]; simp only [rateL]
    by_cases hc : (rd_T91 l i).f0.toList = c.toList
    · by_cases hc2 : (rd_T91 l i).f1 ≤ d
      · simp only [hc, hc2, if_true]
        refine Ev.step (fun k => ?_) (ih (i + 1) (rd_T91 l i, true) (by omega) (by omega))
        simp only [impl_rateOn.l0]; rw [if_pos (by omega), if_pos h0, if_pos (by omega), if_pos hc, if_pos hc2, w64 (by omega) (by omega)]
      · simp only [hc, hc2, if_true, if_false]
        refine Ev.step (fun k => ?_) (ih (i + 1) o (by omega) (by omega))
        simp only [impl_rateOn.l0]; rw [if_pos (by omega), if_pos h0, if_pos (by omega), if_pos hc, if_neg hc2, w64 (by omega) (by omega)]
    · simp only [hc, if_false]
      refine Ev.step (fun k => ?_) (ih (i + 1) o (by omega) (by omega))
      simp only [impl_rateOn.l0]; rw [if_pos (by omega), if_pos h0, if_pos (by omega), if_neg hc, w64 (by omega) (by omega)]
theorem spec_l03Rate_l0 (l : List S91) (hl : l.length ≤ 1048576) (c : ByteArray) (d : Int) : ∀ (j : Nat) (i : Int) (o : S91 × Bool), 0 ≤ i → i + j = l.length →
    Ev (fun k => spec_l03Rate.l0 k l c d o.1.f2 o.1.f3 i) ((rateL c d o (l.drop i.toNat)).1.f2, (rateL c d o (l.drop i.toNat)).1.f3, decide ((rateL c d o (l.drop i.toNat)).1.f3 > 0)) := by
  intro j
  induction j with
  | zero =>
    intro i o h0 h1
    refine Ev.step (f := fun _ => some (o.1.f2, o.1.f3, decide (o.1.f3 > 0))) (fun k => ?_) (Ev.pure ?_)
    · simp only [spec_l03Rate.l0]; rw [if_neg (by omega)]
    · rw [drop_end l (by omega)]; rfl
  | succ j ih =>
    intro i o h0 h1
    have hd : l.drop i.toNat = rd_T91 l i :: l.drop (i + 1).toNat := drop_stepD l z91 h0 (by omega)
    rw [hd]; simp only [rateL]
    by_cases hc : (rd_T91 l i).f0.toList = c.toList
    · by_cases hc2 : (rd_T91 l i).f1 ≤ d
      · simp only [hc, hc2, if_true]
        refine Ev.step (fun k => ?_) (ih (i + 1) (rd_T91 l i, true) (by omega) (by omega))
        simp only [spec_l03Rate.l0]; rw [if_pos (by omega), if_pos h0, if_pos hc, if_pos hc2, w64 (by omega) (by omega)]
      · simp only [hc, hc2, if_true, if_false]
        refine Ev.step (fun k => ?_) (ih (i + 1) o (by omega) (by omega))
        simp only [spec_l03Rate.l0]; rw [if_pos (by omega), if_pos h0, if_pos hc, if_neg hc2, w64 (by omega) (by omega)]
    · simp only [hc, if_false]
      refine Ev.step (fun k => ?_) (ih (i + 1) o (by omega) (by omega))
      simp only [spec_l03Rate.l0]; rw [if_pos (by omega), if_pos h0, if_neg hc, w64 (by omega) (by omega)]
theorem tableB_rate {l : List S91} (h : tableB l = true) : ∀ x ∈ l, rateB x = true := by
  unfold tableB at h
  rw [Bool.and_eq_true, Bool.and_eq_true] at h
  exact List.all_eq_true.1 h.1.1
theorem tableB_len {l : List S91} (h : tableB l = true) : l.length ≤ 20 := by
  unfold tableB at h
  rw [Bool.and_eq_true] at h
  have := of_decide_eq_true h.2
  omega
theorem rateB_facts {x : S91} (h : rateB x = true) : x.f0.toList ≠ ([88, 68, 82] : List UInt8) ∧ (1 ≤ x.f2 ∧ x.f2 ≤ 1000000) ∧ 1 ≤ x.f3 ∧ x.f3 ≤ 1000000 := by
  unfold rateB at h
  rw [Bool.and_eq_true, Bool.and_eq_true, Bool.and_eq_true, Bool.and_eq_true] at h
  obtain ⟨_, h1, _, h2, h3⟩ := h
  exact ⟨by simpa using h1, of_decide_eq_true h2, of_decide_eq_true h3⟩
/-- Both find the same rate. -/
theorem rates_both {l : List S91} (h : tableB l = true) (c : ByteArray) (d : Int) : ∃ a0 a1 n e b m g, Ev (fun k => impl_rateOn.f k l c d) (a0, a1, n, e, b) ∧ Ev (fun k => spec_l03Rate.f k l c d) (m, g, b) ∧
    (b = true → m = n ∧ g = e ∧ (1 ≤ n ∧ n ≤ 1000000) ∧ 1 ≤ e ∧ e ≤ 1000000) := by
  have hl := tableB_len h
  have hi := impl_rateOn_l0 l (by omega) c d l.length 0 (⟨⟨#[]⟩, 0, 1, 1⟩, c.toList == ([88, 68, 82] : List UInt8)) (by omega) (by omega)
  have hs := spec_l03Rate_l0 l (by omega) c d l.length 0 (⟨⟨#[]⟩, 0, 0, 0⟩, false) (by omega) (by omega)
  rw [show l.drop (0 : Int).toNat = l from rfl] at hi hs
  unfold impl_rateOn.f spec_l03Rate.f
  by_cases hc : c.toList = ([88, 68, 82] : List UInt8)
  · simp only [hc, if_true, BEq.rfl]
    rw [hc, BEq.rfl] at hi
    rcases rateL_two c d l (⟨⟨#[]⟩, 0, 1, 1⟩, true) (⟨⟨#[]⟩, 0, 1, 1⟩, true) with ⟨e, _⟩ | ⟨x, hx, e, _⟩
    · rw [e] at hi
      exact ⟨_, _, _, _, _, 1, 1, hi, Ev.pure rfl, fun _ => ⟨rfl, rfl, by decide, by decide⟩⟩
    · exact absurd (e.trans hc) (rateB_facts (tableB_rate h x hx)).1
  · have hb : (c.toList == ([88, 68, 82] : List UInt8)) = false := beq_eq_false_iff_ne.2 hc
    simp only [hc, if_false, hb]
    rw [hb] at hi
    rcases rateL_two c d l (⟨⟨#[]⟩, 0, 1, 1⟩, false) (⟨⟨#[]⟩, 0, 0, 0⟩, false) with ⟨e, e'⟩ | ⟨x, hx, _, e, e'⟩
    · rw [e] at hi; rw [e'] at hs
      exact ⟨_, _, _, _, _, _, _, hi, hs, fun q => by cases q⟩
    · rw [e] at hi; rw [e'] at hs
      have f := rateB_facts (tableB_rate h x hx)
      have hx3 : decide (x.f3 > 0) = true := decide_eq_true (by omega)
      simp only [hx3] at hs
      exact ⟨_, _, _, _, _, _, _, hi, hs, fun _ => ⟨rfl, rfl, f.2⟩⟩
/-- The code of a table, codes and a day. -/
def ratedV (l : List S91) (d : Int) (b : Bool) : Int := if tableB l = true ∧ b = true then (if 0 ≤ d ∧ d ≤ 36524 then 0 else 2) else 1
theorem impl_rated (l : List S91) (hs : ∀ x ∈ l, x.f0.size ≤ 1048576) (d : Int) (cs : List ByteArray) (hc : ∀ c ∈ cs, c.size ≤ 1048576) :
    Ev (fun k => impl_rated.f k l d cs) (ratedV l d (cs.all fun c => spelledV c 3 3 65 90)) := by
  have ha : Ev (fun k => impl_all_Str__impl_IsCode.f k cs) (cs.all fun c => spelledV c 3 3 65 90) := by
    unfold impl_all_Str__impl_IsCode.f
    exact X.allM_ev cs fun c hx => impl_IsCode c (by have := hc c hx; omega)
  unfold impl_rated.f ratedV
  refine Ev.bind (impl_IsTable l hs) ?_
  cases tableB l
  · simp only [Bool.false_eq_true, if_false, false_and]
    exact Ev.step (f := fun _ => some 1) (fun k => by simp only [impl_rated.j0, if_true]) (Ev.pure rfl)
  simp only [if_true, true_and]
  refine Ev.bind ha ?_
  cases cs.all fun c => spelledV c 3 3 65 90
  · exact Ev.step (f := fun _ => some 1) (fun k => by simp only [impl_rated.j0, Bool.not_false, if_true]) (Ev.pure rfl)
  · refine Ev.step (fun k => by simp only [impl_rated.j0, Bool.not_true, Bool.false_eq_true, if_false]) (Ev.bind (impl_isDay d) (f := fun k t => if t = true then some 0 else some 2) ?_)
    by_cases h : 0 ≤ d ∧ d ≤ 36524
    · simp only [h, and_self, decide_true, if_true]; exact Ev.pure rfl
    · simp only [h, decide_false, Bool.false_eq_true, if_false, if_true]; exact Ev.pure rfl
theorem spec_l03Code (l : List S91) (hl : l.length ≤ 1048576) (hs : ∀ x ∈ l, x.f0.size ≤ 1048576) (a b : ByteArray) (ha : a.size ≤ 1048576) (hb : b.size ≤ 1048576) (d : Int) :
    Ev (fun k => spec_l03Code.f k l a b d 0) (ratedV l d (spelledV a 3 3 65 90 && spelledV b 3 3 65 90)) := by
  have j1 : Ev (fun k => spec_l03Code.j0 k d 0 true) 1 := Ev.step (f := fun _ => some 1) (fun k => by simp only [spec_l03Code.j0, if_true]) (Ev.pure rfl)
  unfold spec_l03Code.f ratedV
  refine Ev.bind (spec_IsTable l hl hs) ?_
  cases tableB l
  · simp only [Bool.false_eq_true, if_false, false_and]; exact j1
  simp only [if_true, true_and]
  refine Ev.bind (spec_IsCode a (by omega)) ?_
  cases spelledV a 3 3 65 90
  · simp only [Bool.false_eq_true, if_false, Bool.false_and]; exact j1
  simp only [if_true, Bool.true_and]
  refine Ev.bind (spec_IsCode b (by omega)) ?_
  cases spelledV b 3 3 65 90
  · exact j1
  · refine Ev.step (f := fun k => some (if 0 ≤ d ∧ d ≤ 36524 then 0 else 2)) (fun k => ?_) (Ev.pure (by simp only [if_true]))
    simp only [spec_l03Code.j0, Bool.not_true, Bool.false_eq_true, if_false, spec_l02Is, spec_IsAmount, Option.bind_some]
    by_cases h : 0 ≤ d ∧ d ≤ 36524
    · simp only [h, and_self, decide_true, if_true]; rfl
    · simp only [h, decide_false, Bool.false_eq_true, if_false]
theorem ratedV_zero {l : List S91} {d : Int} {b : Bool} (h : ratedV l d b = 0) : tableB l = true := by
  unfold ratedV at h
  split at h
  · rename_i q; exact q.1
  · cases h
theorem impl_gcd_l0 : ∀ (n m : Nat), Ev (fun k => impl_gcd.l0 k (m : Int) (n : Int)) ((Nat.gcd m n : Nat) : Int) := by
  intro n
  induction n using Nat.strongRecOn with
  | _ n ih =>
    intro m
    by_cases h : n = 0
    · subst h
      refine Ev.step (f := fun _ => some (m : Int)) (fun k => ?_) (Ev.pure (by simp))
      simp only [impl_gcd.l0]; rw [if_pos (by rfl)]
    · have := ih (m % n) (Nat.mod_lt m (by omega)) n
      rw [show Nat.gcd m n = Nat.gcd n (m % n) by rw [Nat.gcd_comm m n, Nat.gcd_rec n m, Nat.gcd_comm]]
      refine Ev.step (fun k => ?_) this
      simp only [impl_gcd.l0]; rw [if_neg (by omega)]; rfl
theorem spec_l03Cross_l0 (x y : Int) : ∀ (n m : Nat), 0 < m ∨ 0 < n → Ev (fun k => spec_l03Cross.l0 k x y (m : Int) (n : Int)) (wrap64 (Int.tdiv x ((Nat.gcd m n : Nat) : Int)), wrap64 (Int.tdiv y ((Nat.gcd m n : Nat) : Int)), true) := by
  intro n
  induction n using Nat.strongRecOn with
  | _ n ih =>
    intro m hm
    by_cases h : n = 0
    · subst h
      refine Ev.step (f := fun _ => some (wrap64 (Int.tdiv x (m : Int)), wrap64 (Int.tdiv y (m : Int)), true)) (fun k => ?_) (Ev.pure (by simp))
      simp only [spec_l03Cross.l0]; rw [if_pos (by rfl), if_neg (by omega)]
    · have := ih (m % n) (Nat.mod_lt m (by omega)) n (.inl (by omega))
      rw [show Nat.gcd m n = Nat.gcd n (m % n) by rw [Nat.gcd_comm m n, Nat.gcd_rec n m, Nat.gcd_comm]]
      refine Ev.step (fun k => ?_) this
      simp only [spec_l03Cross.l0]; rw [if_neg (by omega)]; rfl
theorem crossRate_both (l : List S91) (hl : l.length ≤ 1048576) (hs : ∀ x ∈ l, x.f0.size ≤ 1048576) (a b : ByteArray) (ha : a.size ≤ 1048576) (hb : b.size ≤ 1048576) (d : Int) :
    ∃ v, Ev (fun k => impl_CrossRate.f k l a b d) v ∧ Ev (fun k => spec_CrossRate.f k l a b d) v := by
  have h1 := impl_rated l hs d [a, b] (by intro c hc; rcases List.mem_cons.1 hc with rfl | hc; exact ha; rcases List.mem_cons.1 hc with rfl | hc; exact hb; cases hc)
  have h2 := spec_l03Code l hl hs a b ha hb d
  rw [show ([a, b].all fun c => spelledV c 3 3 65 90) = (spelledV a 3 3 65 90 && spelledV b 3 3 65 90) by simp] at h1
  unfold impl_CrossRate.f spec_CrossRate.f
  generalize (spelledV a 3 3 65 90 && spelledV b 3 3 65 90) = sb at h1 h2
  by_cases h : ratedV l d sb = 0
  · obtain ⟨a0, a1, n, e, b1, m, g, k1, k2, k3⟩ := rates_both (ratedV_zero h) a d
    obtain ⟨c0, c1, n', e', b2, m', g', q1, q2, q3⟩ := rates_both (ratedV_zero h) b d
    have hi : Ev (fun k => impl_cross.f k l a b d) (wrap64 (n * e'), wrap64 (e * n'), b1 && b2) := by
      unfold impl_cross.f
      refine Ev.bind k1 (Ev.bind q1 ?_)
      cases b1
      · simp only [Bool.false_eq_true, if_false, Bool.false_and]; exact Ev.pure rfl
      · simp only [if_true, Bool.true_and]; exact Ev.pure rfl
    have j0 : Ev (fun k => spec_l03Cross.j0 k m g m' g' true) (0, 0, false) := Ev.step (f := fun _ => some (0, 0, false)) (fun k => by simp only [spec_l03Cross.j0, if_true]) (Ev.pure rfl)
    have no : (b1 && b2) = false → ∃ v, Ev (fun k => (impl_rated.f k l d [a, b]).bind fun t => if t = 0 then ((impl_cross.f k l a b d).bind fun u => (if u.2.2 = true then ((impl_gcd.f k u.1 u.2.1).bind fun t743 => (if t743 = 0 then (none) else (some (wrap64 (Int.tdiv u.1 t743), wrap64 (Int.tdiv u.2.1 t743), (0 : Int))))) else (some (0, 0, 4)))) else some (0, 0, t)) v ∧
        Ev (fun k => (spec_l03Code.f k l a b d 0).bind fun t => if t = 0 then ((spec_l03Cross.f k l a b d).bind fun u => (if u.2.2 = true then (some (u.1, u.2.1, (0 : Int))) else (some (0, 0, 4)))) else some (0, 0, t)) v := by
      intro hb12
      have hsp : Ev (fun k => spec_l03Cross.f k l a b d) (0, 0, false) := by
        unfold spec_l03Cross.f
        refine Ev.bind k2 (Ev.bind q2 ?_)
        cases b1
        · simp only [Bool.false_eq_true, if_false]; exact j0
        · cases b2
          · simp only [if_true, Bool.not_false]; exact j0
          · cases hb12
      rw [hb12] at hi
      exact ⟨(0, 0, 4), Ev.bind h1 (by simp only [h, if_true]; exact Ev.bind hi (by simp only [Bool.false_eq_true, if_false]; exact Ev.pure rfl)), Ev.bind h2 (by simp only [h, if_true]; exact Ev.bind hsp (by simp only [Bool.false_eq_true, if_false]; exact Ev.pure rfl))⟩
    cases b1
    · exact no rfl
    cases b2
    · exact no rfl
    obtain ⟨rfl, rfl, z1, z2⟩ := k3 rfl
    obtain ⟨rfl, rfl, z3, z4⟩ := q3 rfl
    have p1 := mul_bd (show 0 ≤ m by omega) z1.2 (show 0 ≤ g' by omega) z4.2
    have p2 := mul_bd (show 0 ≤ g by omega) z2.2 (show 0 ≤ m' by omega) z3.2
    have p3 : 0 < m * g' := Int.mul_pos (by omega) (by omega)
    rw [w64 (by omega) (by omega), w64 (by omega) (by omega)] at hi
    obtain ⟨u, hu⟩ := Int.eq_ofNat_of_zero_le p1.1
    obtain ⟨v, hv⟩ := Int.eq_ofNat_of_zero_le p2.1
    have hu0 : 0 < u := by omega
    have hg := impl_gcd_l0 v u
    have hgp : 0 < Nat.gcd u v := Nat.gcd_pos_of_pos_left v hu0
    have hsp : Ev (fun k => spec_l03Cross.f k l a b d) (wrap64 (Int.tdiv (u : Int) ((Nat.gcd u v : Nat) : Int)), wrap64 (Int.tdiv (v : Int) ((Nat.gcd u v : Nat) : Int)), true) := by
      unfold spec_l03Cross.f
      refine Ev.bind k2 (Ev.bind q2 ?_)
      simp only [if_true, Bool.not_true]
      refine Ev.step (fun k => ?_) (spec_l03Cross_l0 (u : Int) (v : Int) v u (.inl hu0))
      simp only [spec_l03Cross.j0, Bool.false_eq_true, if_false]
      rw [w64 (x := m * g') (by omega) (by omega), w64 (x := g * m') (by omega) (by omega), hu, hv]
    rw [hu, hv] at hi
    refine ⟨(wrap64 (Int.tdiv (u : Int) ((Nat.gcd u v : Nat) : Int)), wrap64 (Int.tdiv (v : Int) ((Nat.gcd u v : Nat) : Int)), 0), Ev.bind h1 ?_, Ev.bind h2 ?_⟩
    · simp only [h, if_true]
      refine Ev.bind hi ?_
      simp only [Bool.and_self, if_true]
      unfold impl_gcd.f
      refine Ev.bind hg ?_
      simp only [show ¬ (((Nat.gcd u v : Nat) : Int) = 0) by omega, if_false]
      exact Ev.pure rfl
    · simp only [h, if_true]
      refine Ev.bind hsp ?_
      simp only [if_true]; exact Ev.pure rfl
  · exact ⟨(0, 0, ratedV l d sb), Ev.bind h1 (by simp only [h, if_false]; exact Ev.pure rfl), Ev.bind h2 (by simp only [h, if_false]; exact Ev.pure rfl)⟩
end Go.Proofs.Ytbfckglccgemkaa.L

