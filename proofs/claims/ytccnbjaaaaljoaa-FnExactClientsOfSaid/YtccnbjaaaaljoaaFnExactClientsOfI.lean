/- Contracts of impl.indexOf and of the searches that hand it a function value with a captured text. Conditions: the slice reads as told; the function value may make memory, but turns nothing that was there. -/
import Derived.Test.YtccnbjaaaaljoaaFnExactClientsOfH
namespace Go.Proofs.Ytccnbjaaaaljoaa.X
set_option linter.unusedVariables false
set_option linter.unusedSimpArgs false
open Go.RowKit Go.Shelf Go.Proofs.Ytccnbjaaaaljoaa.P Go.Proofs.YtccnbjaaaaljoaaW.PrintWords Go.Proofs.YtccnbjaaaaljoaaW.PrintLast Go.Proofs.YtccnbjaaaaljoaaW.PrintMore
attribute [local go_sem] max2_int min2_int max_two min_two max_three min_three max_four min_four

/-- What impl.indexOf makes of an index. -/
def idxV (r : Int) : Int × Int := if r < 0 then (0, 4) else (r, 0)
set_option maxHeartbeats 2000000 in
set_option maxRecDepth 100000 in
theorem indexOf_Party (g : Nat) (lb : Array Value) (eg : ∀ args w, (callFunc g args).run Try.prog w = .ok (.enter g args) w) (p : S113 → Option Bool)
    (A0 : Option Addr) (c0 : Nat) (l0 : List S113) (r : Int) (w : World) (hp0 : Tells g lb encParty p w) (hr0 : Kd.C k113 w A0 l0.length l0) (h : idxM p true l0 0 = some r) :
    Calls Try.prog 151 #[.slice A0 l0.length c0, .func (.func g) #[] lb] w fun e w' => e = .returned (.tuple #[.int .i64 (idxV r).1, .int .i64 (idxV r).2]) ∧ Below w.heap.size w w' := by
  have hcon := indexFunc_Party g lb eg p A0 c0 l0 r w hp0 hr0 h
  clear hp0 hr0 h eg
  unfold idxV
  by_cases hr : r < 0
  · rw [if_pos hr]
    go_enter Try.func151, Try.ntmps151
    go_wp2_with (go_at_call 157; refine hcon.mono ?_; rintro e w' ⟨rfl, hb'⟩)
    go_ret2
    exact ⟨rfl, hb'⟩
  · rw [if_neg hr]
    go_enter Try.func151, Try.ntmps151
    go_wp2_with (go_at_call 157; refine hcon.mono ?_; rintro e w' ⟨rfl, hb'⟩)
    go_ret2
    exact ⟨rfl, hb'⟩
set_option maxHeartbeats 2000000 in
set_option maxRecDepth 100000 in
theorem find_Party (A0 : Option Addr) (c0 : Nat) (l0 : List S113) (a : ByteArray) (r : Int) (w : World) (hr0 : Kd.C k113 w A0 l0.length l0) (h : idxM (fun x : S113 => some (decide (x.f0.toList = a.toList))) true l0 0 = some r) :
    Calls Try.prog 128 #[.slice A0 l0.length c0, .string a] w fun e w' => e = .returned (.tuple #[.int .i64 (idxV r).1, .int .i64 (idxV r).2]) ∧ Below w.heap.size w w' := by
  have eg2 : ∀ args w, (callFunc 152 args).run Try.prog w = .ok (.enter 152 args) w := enters_of Try.func152 (by kernel_rfl) rfl
  have hb0 : Below w.heap.size w (w.alloc (.cells #[.string a] 9)) := (Below.refl _ _).alloc (Nat.le_refl _) _
  have htell : Tells 152 #[.pointer (some ⟨w.heap.size, 0, none⟩)] encParty (fun x => some (decide (x.f0.toList = a.toList))) (w.alloc (.cells #[.string a] 9)) := by
    intro W x b hb hpx
    obtain rfl := Option.some.inj hpx
    have hcell : W.cell? ⟨w.heap.size, 0, none⟩ = some (.string a) := (hb.cell (p := ⟨w.heap.size, 0, none⟩) (by simp)).trans (by simp)
    have hbw : Below W.heap.size W (W.alloc (.cells #[.string x.f0, .int .i64 x.f1, .string x.f2] 113)) := (Below.refl _ _).alloc (Nat.le_refl _) _
    have hcell2 : (W.alloc (.cells #[.string x.f0, .int .i64 x.f1, .string x.f2] 113)).cell? ⟨w.heap.size, 0, none⟩ = some (.string a) := (hbw.cell (World.block_lt_of_cell? W _ hcell)).trans hcell
    clear hpx hr0 h hcell
    show Calls Try.prog 152 #[.agg #[.string x.f0, .int .i64 x.f1, .string x.f2], .pointer (some ⟨w.heap.size, 0, none⟩)] W _
    by_cases c : x.f0.toList = a.toList
    · have c0 : (x.f0.toList == a.toList) = true := beq_iff_eq.mpr c
      rw [decide_eq_true c]
      clear c
      go_enter Try.func152, Try.ntmps152
      go_wp2
      go_ret
      exact ⟨rfl, hbw⟩
    · have c0 : (x.f0.toList == a.toList) = false := beq_eq_false_iff_ne.mpr c
      rw [decide_eq_false c]
      clear c
      go_enter Try.func152, Try.ntmps152
      go_wp2
      go_ret
      exact ⟨rfl, hbw⟩
  have hcon := indexOf_Party 152 _ eg2 _ A0 c0 l0 r _ htell (hr0.imp_ hb0 (fun _ _ hk => k113.K_below hb0 hk)) h
  have hcon' := Aside0.mk hcon
  clear hcon htell hr0 h
  go_enter Try.func128, Try.ntmps128
  go_wp2_with (go_at_call 151; refine (hcon'.out).mono ?_; rintro e w' ⟨rfl, hb'⟩)
  go_ret2
  exact ⟨rfl, below_step hb0 hb'⟩
theorem idxM_bound {α : Type} (p : α → Option Bool) : ∀ (l : List α) (i r : Int), idxM p true l i = some r → 0 ≤ i → 0 ≤ r → i ≤ r ∧ r < i + (l.length : Int)
  | [], i, r, h, _, h0 => by simp [idxM] at h; omega
  | x :: xs, i, r, h, hi, h0 => by
    simp only [idxM] at h
    cases hp : p x with
    | none => rw [hp] at h; cases h
    | some c =>
      rw [hp, Option.bind_some] at h
      cases c
      · simp at h
        have := idxM_bound p xs (i + 1) r h (by omega) h0
        simp only [List.length_cons]; omega
      · simp at h
        simp only [List.length_cons]; omega
set_option maxHeartbeats 2000000 in
set_option maxRecDepth 100000 in
/-- impl.all at a function with captured variables. -/
theorem allL_Party (g : Nat) (lb : Array Value) (eg : ∀ args w, (callFunc g args).run Try.prog w = .ok (.enter g args) w) (p : S113 → Option Bool)
    (A0 : Option Addr) (c0 : Nat) (l0 : List S113) (r : Bool) (w : World) (hp0 : Tells g lb encParty p w) (hr0 : Kd.C k113 w A0 l0.length l0) (h : allM p l0 = some r) :
    Calls Try.prog 123 #[.slice A0 l0.length c0, .func (.func g) #[] lb] w fun e w' => e = .returned (.bool r) ∧ Below w.heap.size w w' := by
  obtain ⟨q, hq, hr⟩ := idxM_all p l0 0 (Int.le_refl _) r h
  have eg2 : ∀ args w, (callFunc 150 args).run Try.prog w = .ok (.enter 150 args) w := enters_of Try.func150 (by kernel_rfl) rfl
  have hb0 : Below w.heap.size w (w.alloc (.cells #[.func (.func g) #[] lb] 114)) := (Below.refl _ _).alloc (Nat.le_refl _) _
  have htell : Tells 150 #[.pointer (some ⟨w.heap.size, 0, none⟩)] encParty (fun x => (p x).map (!·)) (w.alloc (.cells #[.func (.func g) #[] lb] 114)) := by
    intro W x b hb hpx
    obtain ⟨c, hc, hcb⟩ := Option.map_eq_some_iff.1 hpx
    have hcell : W.cell? ⟨w.heap.size, 0, none⟩ = some (.func (.func g) #[] lb) := (hb.cell (p := ⟨w.heap.size, 0, none⟩) (by simp)).trans (by simp)
    have hBW : w.heap.size < W.heap.size := Nat.lt_of_lt_of_le (by simp) hb.size
    have hne : w.heap.size ≠ W.heap.size := by omega
    have hcall := fun o => hp0 (W.alloc o) x c (below_step hb0 (below_alloc hb o)) hc
    simp only [encParty] at hcall
    have hcall' := Aside0.mk hcall
    clear hcall hpx hc hp0 hr0 h hr hq
    show Calls Try.prog 150 #[.agg #[.string x.f0, .int .i64 x.f1, .string x.f2], .pointer (some ⟨w.heap.size, 0, none⟩)] W _
    go_enter Try.func150, Try.ntmps150
    go_wp2_with (go_at_fn g; refine (hcall'.out _).mono ?_; rintro e w' ⟨rfl, hb'⟩)
    go_ret
    exact ⟨by rw [← hcb]; rfl, below_then ((Below.refl _ _).alloc (Nat.le_refl _) _) (by simp) hb'⟩
  have hcon := contains_Party 150 _ eg2 _ A0 c0 l0 q _ htell (hr0.imp_ hb0 (fun _ _ hk => k113.K_below hb0 hk)) (by rw [idxM_not]; exact hq)
  have hcon' := Aside0.mk hcon
  clear hcon htell hp0 hr0 h hq
  go_enter Try.func123, Try.ntmps123
  go_wp2_with (go_at_call 149; refine (hcon'.out).mono ?_; rintro e w' ⟨rfl, hb'⟩)
  go_ret
  exact ⟨by rw [hr]; rfl, below_step hb0 hb'⟩
/-- A party's agent acts for himself. -/
def regM (l : List S113) (x : S113) : Option Bool := if x.f2.toList = ([] : List UInt8) then some true else
  (idxM (fun y : S113 => some (decide (y.f0.toList = x.f2.toList))) true l 0).bind fun r => some (if r < 0 then false else decide ((rd_T113 l r).f2.toList = ([] : List UInt8)))
set_option maxHeartbeats 2000000 in
set_option maxRecDepth 100000 in
theorem tells_reg (A0 : Option Addr) (c0 : Nat) (l0 : List S113) (w : World) (hr0 : Kd.C k113 w A0 l0.length l0) (gb : Nat) (hg : w.cell? ⟨gb, 0, none⟩ = some (.slice A0 l0.length c0)) :
    Tells 127 #[.pointer (some ⟨gb, 0, none⟩)] encParty (regM l0) w := by
  intro W x b hb hpx
  have hb1 : Below w.heap.size w (W.alloc (.cells #[.string x.f0, .int .i64 x.f1, .string x.f2] 113)) := below_alloc hb _
  have hbw : Below W.heap.size W (W.alloc (.cells #[.string x.f0, .int .i64 x.f1, .string x.f2] 113)) := (Below.refl _ _).alloc (Nat.le_refl _) _
  have hcell : W.cell? ⟨gb, 0, none⟩ = some (.slice A0 l0.length c0) := (hb.cell (World.block_lt_of_cell? _ _ hg)).trans hg
  have hcell2 : (W.alloc (.cells #[.string x.f0, .int .i64 x.f1, .string x.f2] 113)).cell? ⟨gb, 0, none⟩ = some (.slice A0 l0.length c0) := (hbw.cell (World.block_lt_of_cell? W _ hcell)).trans hcell
  clear hcell
  unfold regM at hpx
  show Calls Try.prog 127 #[.agg #[.string x.f0, .int .i64 x.f1, .string x.f2], .pointer (some ⟨gb, 0, none⟩)] W _
  by_cases c : x.f2.toList = ([] : List UInt8)
  · rw [if_pos c] at hpx
    obtain rfl := Option.some.inj hpx
    have cb : (x.f2.toList == ([] : List UInt8)) = true := beq_iff_eq.mpr c
    clear hpx c hr0 hg hb hb1
    go_enter Try.func127, Try.ntmps127
    go_wp2
    go_ret
    exact ⟨rfl, hbw⟩
  rw [if_neg c] at hpx
  have cb : (x.f2.toList == ([] : List UInt8)) = false := beq_eq_false_iff_ne.mpr c
  obtain ⟨r, hr, hbb⟩ := Option.bind_eq_some_iff.1 hpx
  have hfind := find_Party A0 c0 l0 x.f2 r _ (hr0.imp_ hb1 (fun _ _ hk => k113.K_below hb1 hk)) hr
  have hbd := fun h0 => idxM_bound _ l0 0 r hr (by omega) h0
  unfold idxV at hfind
  by_cases c2 : r < 0
  · rw [if_pos c2] at hbb hfind
    obtain rfl := Option.some.inj hbb
    have hf := Aside0.mk hfind
    clear hpx hr hbb hfind hr0 hbd c hg
    go_enter Try.func127, Try.ntmps127
    go_wp2_with (go_at_call 128; refine (hf.out).mono ?_; rintro e w' ⟨rfl, hb'⟩)
    go_ret
    exact ⟨rfl, below_step hbw hb'⟩
  · rw [if_neg c2] at hbb hfind
    obtain ⟨k1, k2⟩ := hbd (by omega)
    obtain ⟨ad, hA, hx0, hx1, hx2⟩ := at_T113 hr0 r (by omega) (by omega)
    cases hA
    have hf := Aside0.mk hfind
    have hlt := World.block_lt_of_cell? w _ hx2
    have hgl := World.block_lt_of_cell? w _ hg
    have k3 : 0 ≤ r := by omega
    have k4 : r < (l0.length : Int) := by omega
    by_cases c3 : (rd_T113 l0 r).f2.toList = ([] : List UInt8)
    · have c3b : ((rd_T113 l0 r).f2.toList == ([] : List UInt8)) = true := beq_iff_eq.mpr c3
      rw [decide_eq_true c3] at hbb
      obtain rfl := Option.some.inj hbb
      clear hpx hr hbb hfind hr0 hbd c c2 c3 k1 k2
      go_enter Try.func127, Try.ntmps127
      go_wp2_with (go_at_call 128; refine (hf.out).mono ?_; rintro e w' ⟨rfl, hb'⟩; have hcell3 := ((below_step hb1 hb').cell hgl).trans hg; have hx2' := ((below_step hb1 hb').cell hlt).trans hx2)
      go_ret
      exact ⟨rfl, below_step hbw hb'⟩
    · have c3b : ((rd_T113 l0 r).f2.toList == ([] : List UInt8)) = false := beq_eq_false_iff_ne.mpr c3
      rw [decide_eq_false c3] at hbb
      obtain rfl := Option.some.inj hbb
      clear hpx hr hbb hfind hr0 hbd c c2 c3 k1 k2
      go_enter Try.func127, Try.ntmps127
      go_wp2_with (go_at_call 128; refine (hf.out).mono ?_; rintro e w' ⟨rfl, hb'⟩; have hcell3 := ((below_step hb1 hb').cell hgl).trans hg; have hx2' := ((below_step hb1 hb').cell hlt).trans hx2)
      go_ret
      exact ⟨rfl, below_step hbw hb'⟩
end Go.Proofs.Ytccnbjaaaaljoaa.X

