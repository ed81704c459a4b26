/- Contracts of slices.IndexFunc, slices.ContainsFunc and impl.all at the element types of this seat: what they answer at whatever function value whose answers are told. Conditions: the slice reads as told; the function value may make memory, but turns nothing that was there. -/
import Derived.Test.YtmfmmcmccapocaaFnExactCurrenciesOfX
import Derived.Test.YtmfmmcmccapocaaFnExactCurrenciesOfP0
import Derived.Shelf.Abstract
import Derived.StillTailTactics
import Derived.IntWalk
import Derived.Deep.QuietTactic
import Derived.BigQuiet
namespace Go.Proofs.Ytmfmmcmccapocaa.X
set_option linter.unusedVariables false
set_option linter.unusedSimpArgs false
open Go.RowKit Go.Shelf Go.Proofs.Ytmfmmcmccapocaa.P Go.Proofs.YtmfmmcmccapocaaW.PrintWords Go.Proofs.YtmfmmcmccapocaaW.PrintLast Go.Proofs.YtmfmmcmccapocaaW.PrintMore
attribute [local go_sem] max2_int min2_int max_two min_two max_three min_three max_four min_four

/-- What is asked of a function value: function g, captured lb, at a value: it answers what p tells, and turns nothing. -/
def Tells {α : Type} (g : Nat) (lb : Array Value) (enc : α → Value) (p : α → Option Bool) (w : World) : Prop :=
  ∀ (W : World) (x : α) (b : Bool), Below w.heap.size w W → p x = some b → Calls Try.prog g (#[enc x] ++ lb) W fun e w' => e = .returned (.bool b) ∧ Below W.heap.size W w'
/-- The same of a function of two values that answers a number. -/
def TellsC {α : Type} (g : Nat) (lb : Array Value) (enc : α → Value) (p : α → α → Option Int) (w : World) : Prop :=
  ∀ (W : World) (x y : α) (r : Int), Below w.heap.size w W → p x y = some r → Calls Try.prog g (#[enc x, enc y] ++ lb) W fun e w' => e = .returned (.int .i64 r) ∧ Below W.heap.size W w'
theorem Tells.later {α : Type} {g : Nat} {lb : Array Value} {enc : α → Value} {p : α → Option Bool} {w W : World} (h : Tells g lb enc p w) (hb : Below w.heap.size w W) : Tells g lb enc p W :=
  fun W' x b hb' hp => h W' x b (below_then hb hb.size hb') hp
/-- The answers turned round. -/
theorem idxM_not {α : Type} (p : α → Option Bool) : ∀ (l : List α) (i : Int), idxM (fun x => (p x).map (!·)) true l i = idxM p false l i
  | [], _ => rfl
  | x :: xs, i => by
    simp only [idxM]
    cases hp : p x with
    | none => rfl
    | some c => simp only [Option.map_some, Option.bind_some]; rw [idxM_not p xs (i + 1)]; cases c <;> rfl
def encRate (x : S53) : Value := .agg #[.string x.f0, .int .i64 x.f1, .int .i64 x.f2, .int .i64 x.f3]
set_option maxHeartbeats 2000000 in
set_option maxRecDepth 100000 in
theorem indexFunc_Rate (g : Nat) (lb : Array Value) (eg : ∀ args w, (callFunc g args).run Try.prog w = .ok (.enter g args) w) (p : S53 → Option Bool)
    (A0 : Option Addr) (c0 : Nat) (l0 : List S53) (r : Int) (w : World) (hp0 : Tells g lb encRate p w) (hr0 : Kd.C k53 w A0 l0.length l0) (h : idxM p true l0 0 = some r) :
    Calls Try.prog 76 #[.slice A0 l0.length c0, .func (.func g) #[] lb] w fun e w' => e = .returned (.int .i64 r) ∧ Below w.heap.size w w' := by
  have hu53 := Try.underlying53
  have HR0 := Aside0.mk hr0
  have hlen : l0.length ≤ 9223372036854775807 := hr0.2.1
  have HP := Aside0.mk hp0
  have H := Aside0.mk h
  clear hr0 hp0 h
  have HB := Aside0.mk (Below.refl w.heap.size w)
  go_enter Try.func76, Try.ntmps76
  go_wp2
  go_loopg [5, 8] l0.length (fun kq v5 v8 w' => ∃ i : Int, v8 = .int .i64 i ∧ 0 ≤ i ∧ i ≤ (l0.length : Int) ∧ (l0.length : Int) - i ≤ kq ∧ Aside0 (idxM p true (l0.drop i.toNat) i = some r) ∧ Aside0 (Below w.heap.size w w'))
  case atStart => exact ⟨0, rfl, by omega, by omega, by omega, H, HB⟩
  case round =>
    clear H HB
    obtain ⟨i, rfl, h0, h1, h2, HA, HB⟩ := hrel
    by_cases hlt : i < (l0.length : Int)
    · have hst := idxM_step (p := p) (b := true) (z := z53) h0 hlt
      have hA := HA.out
      rw [hst] at hA
      clear hst HA
      obtain ⟨ad, rfl, hx0, hx1, hx2, hx3⟩ := at_T53 HR0.out i h0 hlt
      replace hx0 := (HB.out.cell (World.block_lt_of_cell? w _ hx0)).trans hx0
      replace hx1 := (HB.out.cell (World.block_lt_of_cell? w _ hx1)).trans hx1
      replace hx2 := (HB.out.cell (World.block_lt_of_cell? w _ hx2)).trans hx2
      replace hx3 := (HB.out.cell (World.block_lt_of_cell? w _ hx3)).trans hx3
      change ((p (rd_T53 l0 i)).bind _) = _ at hA
      generalize rd_T53 l0 i = y at hx0 hx1 hx2 hx3 hA
      cases hp : p y with
      | none => rw [hp] at hA; cases hA
      | some c =>
        rw [hp, Option.bind_some] at hA
        have hcall := HP.out _ y c HB.out hp
        simp only [encRate] at hcall
        cases c with
        | true =>
          have hA' := Aside0.mk hA
          clear hA hp
          go_wp2_with (go_at_fn g; refine hcall.mono ?_; rintro e w' ⟨rfl, hb'⟩)
          go_ret
          exact ⟨by have := hA'.out; simp at this; subst this; rfl, below_step HB.out hb'⟩
        | false =>
          have hA' := Aside0.mk hA
          clear hA hp
          go_wp2_with (go_at_fn g; refine hcall.mono ?_; rintro e w' ⟨rfl, hb'⟩)
          go_roundg (gk - 1)
          case measure => omega
          case rel =>
            refine ⟨i + 1, by go_num, by omega, by omega, by omega, ⟨?_⟩, ⟨below_step HB.out hb'⟩⟩
            have := hA'.out; simpa using this
    · have hA := HA.out
      rw [idxM_end hlt] at hA
      have hA' := Aside0.mk hA
      clear hA HA
      go_wp2
      go_ret
      exact ⟨by have := Option.some.inj hA'.out; subst this; rfl, HB.out⟩
set_option maxHeartbeats 2000000 in
set_option maxRecDepth 100000 in
theorem contains_Rate (g : Nat) (lb : Array Value) (eg : ∀ args w, (callFunc g args).run Try.prog w = .ok (.enter g args) w) (p : S53 → Option Bool)
    (A0 : Option Addr) (c0 : Nat) (l0 : List S53) (r : Int) (w : World) (hp0 : Tells g lb encRate p w) (hr0 : Kd.C k53 w A0 l0.length l0) (h : idxM p true l0 0 = some r) :
    Calls Try.prog 64 #[.slice A0 l0.length c0, .func (.func g) #[] lb] w fun e w' => e = .returned (.bool (decide (0 ≤ r))) ∧ Below w.heap.size w w' := by
  have hcon := indexFunc_Rate g lb eg p A0 c0 l0 r w hp0 hr0 h
  clear hp0 hr0 h eg
  go_enter Try.func64, Try.ntmps64
  go_wp2_with (go_at_call 76; refine hcon.mono ?_; rintro e w' ⟨rfl, hb'⟩)
  go_ret
  exact ⟨rfl, hb'⟩
set_option maxHeartbeats 2000000 in
set_option maxRecDepth 100000 in
/-- impl.all at a function without captured variables. -/
theorem all_Rate (g : Nat) (eg : ∀ args w, (callFunc g args).run Try.prog w = .ok (.enter g args) w) (p : S53 → Option Bool)
    (A0 : Option Addr) (c0 : Nat) (l0 : List S53) (r : Bool) (w : World) (hp0 : Tells g #[] encRate p w) (hr0 : Kd.C k53 w A0 l0.length l0) (h : allM p l0 = some r) :
    Calls Try.prog 46 #[.slice A0 l0.length c0, .func (.func g) #[] #[]] w fun e w' => e = .returned (.bool r) ∧ Below w.heap.size w w' := by
  obtain ⟨q, hq, hr⟩ := idxM_all p l0 0 (Int.le_refl _) r h
  have eg2 : ∀ args w, (callFunc 65 args).run Try.prog w = .ok (.enter 65 args) w := enters_of Try.func65 (by kernel_rfl) rfl
  have hb0 : Below w.heap.size w (w.alloc (.cells #[.func (.func g) #[] #[]] 74)) := (Below.refl _ _).alloc (Nat.le_refl _) _
  have htell : Tells 65 #[.pointer (some ⟨w.heap.size, 0, none⟩)] encRate (fun x => (p x).map (!·)) (w.alloc (.cells #[.func (.func g) #[] #[]] 74)) := by
    intro W x b hb hpx
    obtain ⟨c, hc, hcb⟩ := Option.map_eq_some_iff.1 hpx
    have hcell : W.cell? ⟨w.heap.size, 0, none⟩ = some (.func (.func g) #[] #[]) := (hb.cell (p := ⟨w.heap.size, 0, none⟩) (by simp)).trans (by simp)
    have hBW : w.heap.size < W.heap.size := Nat.lt_of_lt_of_le (by simp) hb.size
    have hne : w.heap.size ≠ W.heap.size := by omega
    have hcall := fun o => hp0 (W.alloc o) x c (below_step hb0 (below_alloc hb o)) hc
    simp only [encRate] at hcall
    have hcall' := Aside0.mk hcall
    clear hcall hpx hc hp0 hr0 h hr hq
    show Calls Try.prog 65 #[.agg #[.string x.f0, .int .i64 x.f1, .int .i64 x.f2, .int .i64 x.f3], .pointer (some ⟨w.heap.size, 0, none⟩)] W _
    go_enter Try.func65, Try.ntmps65
    go_wp2_with (go_at_fn g; refine (hcall'.out _).mono ?_; rintro e w' ⟨rfl, hb'⟩)
    go_ret
    exact ⟨by rw [← hcb]; rfl, below_then ((Below.refl _ _).alloc (Nat.le_refl _) _) (by simp) hb'⟩
  have hcon := contains_Rate 65 _ eg2 _ A0 c0 l0 q _ htell (hr0.imp_ hb0 (fun _ _ hk => k53.K_below hb0 hk)) (by rw [idxM_not]; exact hq)
  have hcon' := Aside0.mk hcon
  clear hcon htell hp0 hr0 h hq
  go_enter Try.func46, Try.ntmps46
  go_wp2_with (go_at_call 64; refine (hcon'.out).mono ?_; rintro e w' ⟨rfl, hb'⟩)
  go_ret
  exact ⟨by rw [hr]; rfl, below_step hb0 hb'⟩
set_option maxHeartbeats 2000000 in
set_option maxRecDepth 100000 in
/-- impl.rising at a function without captured variables. -/
theorem rising_Rate (g : Nat) (eg : ∀ args w, (callFunc g args).run Try.prog w = .ok (.enter g args) w) (p : S53 → S53 → Option Int)
    (A0 : Option Addr) (c0 : Nat) (l0 : List S53) (r : Bool) (w : World) (hp0 : TellsC g #[] encRate p w) (hr0 : Kd.C k53 w A0 l0.length l0) (h : risingM p l0 = some r) :
    Calls Try.prog 48 #[.slice A0 l0.length c0, .func (.func g) #[] #[]] w fun e w' => e = .returned (.bool r) ∧ Below w.heap.size w w' := by
  have hu53 := Try.underlying53
  have HR0 := Aside0.mk hr0
  have hlen : l0.length ≤ 9223372036854775807 := hr0.2.1
  have HP := Aside0.mk hp0
  have H : Aside0 (risingM p (l0.drop ((1 : Int) - 1).toNat) = some r) := ⟨by simpa using h⟩
  clear hr0 hp0 h
  have HB := Aside0.mk (Below.refl w.heap.size w)
  go_enter Try.func48, Try.ntmps48
  go_wp2
  go_loopg [5] l0.length (fun kq v5 w' => ∃ i : Int, v5 = .int .i64 i ∧ 1 ≤ i ∧ (l0.length : Int) + 1 - i ≤ kq + 1 ∧ i ≤ (l0.length : Int) + 1 ∧ Aside0 (risingM p (l0.drop (i - 1).toNat) = some r) ∧ Aside0 (Below w.heap.size w w'))
  case atStart => exact ⟨1, rfl, by omega, by omega, by omega, H, HB⟩
  case round =>
    clear H HB
    obtain ⟨i, rfl, h0, h2, h3, HA, HB⟩ := hrel
    by_cases hlt : i < (l0.length : Int)
    · have hst := risingM_step (p := p) (z := z53) h0 hlt
      have hA := HA.out
      rw [hst] at hA
      clear hst HA
      have h0' : 0 ≤ i := by omega
      have h0'' : 0 ≤ i - 1 := by omega
      have hlt' : i - 1 < (l0.length : Int) := by omega
      obtain ⟨ad, rfl, hx0, hx1, hx2, hx3⟩ := at_T53 HR0.out (i - 1) h0'' hlt'
      obtain ⟨ad', e', hy0, hy1, hy2, hy3⟩ := at_T53 HR0.out i h0' hlt
      cases e'
      rw [show (i - 1).toNat = i.toNat - 1 by omega] at hx0 hx1 hx2 hx3
      replace hx0 := (HB.out.cell (World.block_lt_of_cell? w _ hx0)).trans hx0
      replace hx1 := (HB.out.cell (World.block_lt_of_cell? w _ hx1)).trans hx1
      replace hx2 := (HB.out.cell (World.block_lt_of_cell? w _ hx2)).trans hx2
      replace hx3 := (HB.out.cell (World.block_lt_of_cell? w _ hx3)).trans hx3
      replace hy0 := (HB.out.cell (World.block_lt_of_cell? w _ hy0)).trans hy0
      replace hy1 := (HB.out.cell (World.block_lt_of_cell? w _ hy1)).trans hy1
      replace hy2 := (HB.out.cell (World.block_lt_of_cell? w _ hy2)).trans hy2
      replace hy3 := (HB.out.cell (World.block_lt_of_cell? w _ hy3)).trans hy3
      change ((p (rd_T53 l0 (i - 1)) (rd_T53 l0 i)).bind _) = _ at hA
      generalize rd_T53 l0 (i - 1) = x at hx0 hx1 hx2 hx3 hA
      generalize rd_T53 l0 i = y at hy0 hy1 hy2 hy3 hA
      cases hp : p x y with
      | none => rw [hp] at hA; cases hA
      | some c =>
        rw [hp, Option.bind_some] at hA
        have hcall := fun W hb => HP.out W x y c hb hp
        simp only [encRate] at hcall
        have HC := Aside0.mk hcall
        have hA' := Aside0.mk hA
        clear hA hp hcall
        have hw1 : IntKind.i64.wrap (i - 1) = i - 1 := IntWalk.i64_in _ (by omega)
        have q1 := eq_true h0''
        have q2 := eq_true hlt'
        have q3 := eq_true h0'
        have q4 := eq_true hlt
        have K0 := Aside0.mk h0
        have K2 := Aside0.mk h2
        have K3 := Aside0.mk h3
        have KL := Aside0.mk hlt
        have KN := Aside0.mk hlen
        clear h0'' hlt' h0' h2 h3 hlen h0
        go_wp2_with fail
        have q5 := eq_true K0.out
        go_still_tail 10, (by kernel_rfl)
        change wpList _ _ _ _ _ wr.drew
        have HB2 : Aside0 (Below w.heap.size w wr.drew) := ⟨below_drew HB.out⟩
        generalize wr.drew = w2 at HB2 ⊢
        clear hw1 q1 q2 q3 q4 q5
        have h0 := K0.out
        have hlen := KN.out
        have hcall := HC.out w2 HB2.out
        cases c' : decide (0 ≤ c) with
        | true =>
          go_wp2_with (go_at_fn g; refine hcall.mono ?_; rintro e w' ⟨rfl, hb'⟩)
          go_ret
          exact ⟨by have := hA'.out; rw [if_pos (of_decide_eq_true c')] at this; cases this; rfl, below_step HB2.out hb'⟩
        | false =>
          go_wp2_with (go_at_fn g; refine hcall.mono ?_; rintro e w' ⟨rfl, hb'⟩)
          go_roundg (gk - 1)
          case measure => (have k1 := KL.out; have k2 := K0.out; have k3 := K2.out; omega)
          case rel =>
            have k1 := KL.out; have k2 := K0.out; have k3 := K2.out; have k4 := KN.out
            refine ⟨i + 1, by go_num, by omega, by omega, by omega, ⟨?_⟩, ⟨below_step HB2.out hb'⟩⟩
            have := hA'.out; rwa [if_neg (of_decide_eq_false c')] at this
    · have hA := HA.out
      rw [risingM_end h0 hlt] at hA
      have hA' := Aside0.mk hA
      clear hA HA
      go_wp2
      go_ret
      exact ⟨by have := Option.some.inj hA'.out; subst this; rfl, HB.out⟩
end Go.Proofs.Ytmfmmcmccapocaa.X

