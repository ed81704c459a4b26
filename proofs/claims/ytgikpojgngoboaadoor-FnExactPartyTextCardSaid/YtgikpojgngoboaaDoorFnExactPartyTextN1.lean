/- What the functions answer that write numbers, parties, dates and amounts as texts, in the program and in the reference. Conditions: numbers within an int64. -/
import Derived.Test.YtgikpojgngoboaaDoorFnExactPartyTextLd
namespace Go.Proofs.YtgikpojgngoboaaDoor.L
set_option linter.unusedVariables false
set_option linter.unusedSimpArgs false
open Go.RowKit Go.Proofs.YtgikpojgngoboaaDoor.P Go.Proofs.YtgikpojgngoboaaDoorW.PrintWords Go.Proofs.YtgikpojgngoboaaDoorW.PrintLast Go.Proofs.YtgikpojgngoboaaDoorW.PrintMore

theorem dec_len : ∀ u : Nat, (Lib.decDigits u).length ≤ u + 1 := by
  intro u
  induction u using Nat.strongRecOn with
  | _ u ih =>
    rw [Lib.decDigits]
    by_cases h : u < 10
    · rw [dif_pos h]; simp
    · rw [dif_neg h]
      have := ih (u / 10) (by omega)
      simp only [List.length_append, List.length_cons, List.length_nil]
      omega
/-- The decimal digits of a number. -/
def digB (u : Nat) : ByteArray := ⟨(Lib.decDigits u).toArray⟩
theorem digB_size (u : Nat) : (digB u).size ≤ u + 1 := by
  have : (digB u).size = (Lib.decDigits u).length := by simp [digB, ByteArray.size]
  rw [this]; exact dec_len u
theorem digB_one {u : Nat} (h : u < 10) : digB u = strOfNums [wrap64 (48 + (u : Int)) % 256] := by
  rw [w64 (by omega) (by omega)]
  unfold digB strOfNums
  rw [Lib.decDigits, dif_pos h]
  congr 2
  simp only [List.map_cons, List.map_nil]
  congr 2
  omega
theorem digB_more {u : Nat} (h : ¬ u < 10) : digB u = digB (u / 10) ++ strOfNums [wrap64 (48 + Int.tmod (u : Int) 10) % 256] := by
  have e : Int.tmod (u : Int) 10 = ((u % 10 : Nat) : Int) := by rw [Int.tmod_eq_emod_of_nonneg (by omega)]; omega
  rw [e, w64 (by omega) (by omega)]
  unfold digB
  rw [Lib.decDigits, dif_neg h]
  apply ByteArray.ext
  rw [ByteArray.data_append]
  have e2 : ((48 + ((u % 10 : Nat) : Int)) % 256).toNat = 48 + u % 10 := by omega
  show (Lib.decDigits (u / 10) ++ [UInt8.ofNat (48 + u % 10)]).toArray = (Lib.decDigits (u / 10)).toArray ++ [UInt8.ofNat ((48 + ((u % 10 : Nat) : Int)) % 256).toNat].toArray
  rw [e2]
  first | rfl | simp only [List.append_toArray] | simp only [List.toArray_append]
theorem spec_l01Dec_nat : ∀ u : Nat, u ≤ 9223372036854775807 → Ev (fun k => spec_l01Dec.f k (u : Int)) (digB u) := by
  intro u
  induction u using Nat.strongRecOn with
  | _ u ih =>
    intro hu
    by_cases h : u < 10
    · refine Ev.step (f := fun _ => some (digB u)) (fun k => ?_) (Ev.pure rfl)
      simp only [spec_l01Dec.f]
      rw [if_pos (by omega), digB_one h]
    · have e1 : wrap64 (Int.tdiv (u : Int) 10) = ((u / 10 : Nat) : Int) := by
        rw [Int.tdiv_eq_ediv_of_nonneg (by omega), w64 (by omega) (by omega)]; omega
      have hs := digB_size (u / 10)
      let S := strOfNums [wrap64 (48 + Int.tmod (u : Int) 10) % 256]
      have hS : S.size = 1 := strOfNums_size _
      refine Ev.step (f := fun k => (spec_l01Dec.f k ((u / 10 : Nat) : Int)).bind fun t => if t.size + S.size ≤ 9223372036854775807 then some (t ++ S) else none) (fun k => ?_) (Ev.bind (ih (u / 10) (by omega) (by omega)) ?_)
      · simp only [spec_l01Dec.f]
        rw [if_neg (by omega), e1]
        rfl
      · exact Ev.pure (by rw [if_pos (by omega), digB_more h])
theorem decB_nat (n : Int) (h : 0 ≤ n) : X.decB n = digB n.toNat := by
  unfold X.decB digB Lib.itoa
  rw [if_neg (by omega)]
theorem spec_l01Dec (n : Int) (h0 : 0 ≤ n) (h1 : n ≤ 9223372036854775807) : Ev (fun k => spec_l01Dec.f k n) (digB n.toNat) := by
  have := spec_l01Dec_nat n.toNat (by omega)
  rwa [Int.toNat_of_nonneg h0] at this
theorem impl_decimal (n : Int) (h0 : 0 ≤ n) (h1 : n ≤ 9223372036854775807) : impl_decimal.f n = some (digB n.toNat) := by
  unfold impl_decimal.f
  rw [if_pos ⟨by omega, h1⟩, decB_nat n h0]
theorem data_toList3 (s : ByteArray) : s.data.toList = s.toList := by
  first | rfl | exact (ByteArray.toList_data s).symm | simp [ByteArray.toList_eq]
theorem size_ne3 {s : ByteArray} (h : s.size ≠ 0) : s.toList ≠ ([] : List UInt8) := by
  intro e
  apply h
  rw [← data_toList3] at e
  have : s.data.toList.length = s.data.size := Array.length_toList
  rw [e] at this
  exact this.symm
/-- A party as it may be. -/
def party3 (c : ByteArray) (n : Int) (a : ByteArray) : Bool := spelledV c 1 6 97 122 && (decide (0 ≤ n ∧ n ≤ 4) && (decide (a.toList = ([] : List UInt8)) || (spelledV a 1 6 97 122 && !(decide (a.toList = c.toList)))))
theorem impl_isParty3 (c : ByteArray) (n : Int) (a : ByteArray) (h0 : c.size ≤ 1048576) (h2 : a.size ≤ 1048576) : Ev (fun k => impl_isParty.f k c n a) (party3 c n a) := by
  unfold impl_isParty.f party3
  refine Ev.bind (impl_IsPartyCode c (by omega)) ?_
  cases hc : spelledV c 1 6 97 122
  · simp only [Bool.false_eq_true, if_false, Bool.false_and]; exact Ev.pure rfl
  simp only [if_true, Bool.true_and, impl_in, Option.bind_some]
  by_cases h1 : 0 ≤ n ∧ n ≤ 4
  · simp only [h1, and_self, decide_true, if_true, Bool.true_and]
    have hne : c.toList ≠ ([] : List UInt8) := size_ne3 (by
      unfold spelledV at hc
      rw [Bool.and_eq_true] at hc
      have := of_decide_eq_true hc.2
      omega)
    by_cases h3 : a.toList = c.toList
    · have h4 : ¬ (a.toList = ([] : List UInt8)) := by rw [h3]; exact hne
      simp only [h3, if_true]
      rw [h3] at h4
      simp only [h4, decide_false, decide_true, Bool.not_true, Bool.and_false, Bool.or_false]
      exact Ev.pure rfl
    · simp only [h3, if_false, decide_false, Bool.not_false, Bool.and_true]
      by_cases h4 : a.toList = ([] : List UInt8)
      · simp only [h4, if_true, decide_true, Bool.true_or]; exact Ev.pure rfl
      · simp only [h4, if_false, decide_false, Bool.false_or]
        exact Ev.bind (impl_IsPartyCode a (by omega)) (Ev.pure rfl)
  · simp only [h1, decide_false, Bool.false_eq_true, if_false, Bool.false_and]; exact Ev.pure rfl
theorem spec_l05Party3 (c : ByteArray) (n : Int) (a : ByteArray) (h0 : c.size ≤ 1048576) (h2 : a.size ≤ 1048576) : Ev (fun k => spec_l05Party.f k c n a) (party3 c n a) := by
  unfold spec_l05Party.f party3
  refine Ev.bind (spec_IsPartyCode c (by omega)) ?_
  cases hc : spelledV c 1 6 97 122
  · simp only [Bool.false_eq_true, if_false, Bool.false_and]; exact Ev.pure rfl
  simp only [if_true, Bool.true_and, spec_l01In, Option.bind_some]
  by_cases h1 : 0 ≤ n ∧ n ≤ 4
  · simp only [h1, and_self, decide_true, if_true, Bool.true_and]
    by_cases h4 : a.toList = ([] : List UInt8)
    · simp only [h4, if_true, decide_true, Bool.true_or]; exact Ev.pure rfl
    · simp only [h4, if_false, decide_false, Bool.false_or]
      refine Ev.bind (spec_IsPartyCode a (by omega)) ?_
      cases spelledV a 1 6 97 122
      · simp only [Bool.false_eq_true, if_false, Bool.false_and]; exact Ev.pure rfl
      · simp only [if_true, Bool.true_and]
        exact Ev.pure (by
          congr 1
          by_cases h5 : a.toList = c.toList
          · rw [decide_eq_true h5, h5]; exact bne_self_eq_false _
          · rw [decide_eq_false h5]; exact bne_iff_ne.2 h5)
  · simp only [h1, decide_false, Bool.false_eq_true, if_false, Bool.false_and]; exact Ev.pure rfl
theorem party3_num {c : ByteArray} {n : Int} {a : ByteArray} (h : party3 c n a = true) : 0 ≤ n ∧ n ≤ 4 := by
  unfold party3 at h
  simp only [Bool.and_eq_true, decide_eq_true_eq] at h
  exact h.2.1
/-- The text of a party. -/
def partyT (c : ByteArray) (n : Int) (a : ByteArray) : ByteArray := (((c ++ (⟨#[47]⟩ : ByteArray)) ++ digB n.toNat) ++ (⟨#[47]⟩ : ByteArray)) ++ (if a.toList = ([] : List UInt8) then (⟨#[45]⟩ : ByteArray) else a)
theorem spec_l05Text (c : ByteArray) (n : Int) (a : ByteArray) (h0 : c.size ≤ 1048576) (h2 : a.size ≤ 1048576) (hn : 0 ≤ n ∧ n ≤ 4) : Ev (fun k => spec_l05Text.f k c n a) (partyT c n a) := by
  unfold spec_l05Text.f partyT
  have hd := digB_size n.toNat
  have e1 : (⟨#[47]⟩ : ByteArray).size = 1 := rfl
  have e2 : (⟨#[45]⟩ : ByteArray).size = 1 := rfl
  have d1 : c.size + 1 ≤ 9223372036854775807 := by omega
  by_cases h : a.toList = ([] : List UInt8)
  · simp only [h, if_true, d1]
    refine Ev.bind (spec_l01Dec n hn.1 (by omega)) (Ev.pure ?_)
    simp only [ByteArray.size_append, e1]
    rw [if_pos (by omega), if_pos (by omega), if_pos (by omega)]
  · simp only [h, if_false, d1, if_true]
    refine Ev.bind (spec_l01Dec n hn.1 (by omega)) (Ev.pure ?_)
    simp only [ByteArray.size_append, e1]
    rw [if_pos (by omega), if_pos (by omega), if_pos (by omega)]
theorem impl_partyText (c : ByteArray) (n : Int) (a : ByteArray) (h0 : c.size ≤ 1048576) (h2 : a.size ≤ 1048576) (hn : 0 ≤ n ∧ n ≤ 4) : impl_partyText.f c n a = some (partyT c n a) := by
  unfold impl_partyText.f partyT impl_orMark.f
  have hd := digB_size n.toNat
  have e1 : (⟨#[47]⟩ : ByteArray).size = 1 := rfl
  have e2 : (⟨#[45]⟩ : ByteArray).size = 1 := rfl
  rw [if_pos (by omega), impl_decimal n hn.1 (by omega)]
  simp only [Option.bind_some, ByteArray.size_append, e1]
  rw [if_pos (by omega), if_pos (by omega)]
  by_cases h : a.toList = ([] : List UInt8)
  · simp only [h, if_true, Option.bind_some, e2]
    rw [if_pos (by omega)]
  · simp only [h, if_false, Option.bind_some]
    rw [if_pos (by omega)]
/-- What the text of a party is asked to be. -/
def partyTV (c : ByteArray) (n : Int) (a : ByteArray) : ByteArray × Int := if party3 c n a = true then (partyT c n a, 0) else ((⟨#[]⟩ : ByteArray), 1)
theorem spec_PartyText (c : ByteArray) (n : Int) (a : ByteArray) (h0 : c.size ≤ 1048576) (h2 : a.size ≤ 1048576) : Ev (fun k => spec_PartyText.f k c n a) (partyTV c n a) := by
  unfold spec_PartyText.f partyTV
  refine Ev.bind (spec_l05Party3 c n a h0 h2) ?_
  by_cases h : party3 c n a = true
  · simp only [h, if_true]
    exact Ev.bind (spec_l05Text c n a h0 h2 (party3_num h)) (Ev.pure rfl)
  · simp only [h, if_false]; exact Ev.pure rfl
theorem impl_PartyText (c : ByteArray) (n : Int) (a : ByteArray) (h0 : c.size ≤ 1048576) (h2 : a.size ≤ 1048576) : Ev (fun k => impl_PartyText.f k c n a) (partyTV c n a) := by
  unfold impl_PartyText.f partyTV
  refine Ev.bind (impl_isParty3 c n a h0 h2) ?_
  by_cases h : party3 c n a = true
  · simp only [h, if_true]
    rw [impl_partyText c n a h0 h2 (party3_num h)]; exact Ev.pure rfl
  · simp only [h, if_false]; exact Ev.pure rfl
end Go.Proofs.YtgikpojgngoboaaDoor.L

