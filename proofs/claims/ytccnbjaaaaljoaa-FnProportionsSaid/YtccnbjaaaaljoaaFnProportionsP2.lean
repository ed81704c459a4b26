-- Written by a program of this session, with the kit's print.py, out of the translation. Not trusted: Lean checks it.
import Derived.Test.YtccnbjaaaaljoaaFnProportionsP0
import Derived.Test.YtccnbjaaaaljoaaFnProportionsP1
namespace Go.Proofs.Ytccnbjaaaaljoaa.P
open Go.RowKit Go.Proofs.YtccnbjaaaaljoaaW.PrintWords Go.Proofs.YtccnbjaaaaljoaaW.PrintLast Go.Proofs.YtccnbjaaaaljoaaW.PrintMore
attribute [local go_sem] max2_int min2_int max_two min_two max_three min_three max_four min_four   -- for this text's walks alone
set_option linter.unusedVariables false
set_option linter.unusedSimpArgs false

/-! ### impl_SumAmounts: function 22 -/
def impl_SumAmounts.f (k : Nat) (l0 : List Int) : Option (Int × Int) := (impl_all_Int__impl_IsAmount.f l0).bind fun t276 => (if t276 = true then ((impl_sum.f k l0).bind fun t277 => ((impl_amountOf.f t277).bind fun bt278 => (some (bt278.1, bt278.2)))) else (some (0, 2)))
theorem impl_SumAmounts.mono : ∀ a0 k, LeO (impl_SumAmounts.f k a0) (impl_SumAmounts.f (k + 1) a0) := by
  intro a0 k
  unfold impl_SumAmounts.f
  repeat' first
      | (with_reducible exact impl_sum.mono _ _)
      | (with_reducible exact LeO.refl _)
      | (with_reducible exact LeO.none _)
      | (with_reducible refine LeO.ite ?_ ?_)
      | (with_reducible refine LeO.bind ?_ (fun _ => ?_))
      | exact impl_sum.mono _ _
      | exact LeO.none _
      | refine LeO.ite ?_ ?_
      | refine LeO.bind ?_ (fun _ => ?_)
set_option maxHeartbeats 8000000 in
set_option maxRecDepth 100000 in
theorem impl_SumAmounts.calls (k : Nat) (A0 : Option Addr) (c0 : Nat) (l0 : List Int) (r1 : Int) (r2 : Int) (w : World) (hr0 : Kd.C (Kd.int .i64) w A0 l0.length l0) (hc0 : l0.length ≤ c0) (h : impl_SumAmounts.f k l0 = some (r1, r2)) :
    Calls Try.prog 22 #[.slice A0 l0.length c0] w fun e w' => e = .returned (.tuple #[.int .i64 r1, .int .i64 r2]) ∧ Below w.heap.size w w' := by
  have HR0 := Aside0.mk hr0
  have HC0 := Aside0.mk hc0
  clear hr0 hc0
  have HB := Aside0.mk (Below.refl w.heap.size w)
  have H : ((impl_all_Int__impl_IsAmount.f l0).bind fun t276 => (if t276 = true then ((impl_sum.f k l0).bind fun t277 => ((impl_amountOf.f t277).bind fun bt278 => (some (bt278.1, bt278.2)))) else (some (0, 2)))) = some (r1, r2) := h
  clear h
  replace H := Option.bind_eq_some_iff.mp H
  obtain ⟨t276, A20, H⟩ := H
  replace H : (if t276 = true then ((impl_sum.f k l0).bind fun t277 => ((impl_amountOf.f t277).bind fun bt278 => (some (bt278.1, bt278.2)))) else (some (0, 2))) = some (r1, r2) := H
  have A2 := Aside0.mk A20
  clear A20
  by_cases c3 : t276 = true
  · subst c3
    have H1 : ((impl_sum.f k l0).bind fun t277 => ((impl_amountOf.f t277).bind fun bt278 => (some (bt278.1, bt278.2)))) = some (r1, r2) := by rw [if_pos rfl] at H; exact H
    clear H
    have H := H1
    clear H1
    replace H := Option.bind_eq_some_iff.mp H
    obtain ⟨t277, A40, H⟩ := H
    replace H : ((impl_amountOf.f t277).bind fun bt278 => (some (bt278.1, bt278.2))) = some (r1, r2) := H
    have A4 := Aside0.mk A40
    clear A40
    replace H := Option.bind_eq_some_iff.mp H
    obtain ⟨⟨t278, t279⟩, A50, H⟩ := H
    replace H : (some (t278, t279)) = some (r1, r2) := H
    have A5 := Aside0.mk A50
    clear A50
    simp only [Option.some.injEq, Prod.mk.injEq] at H
    obtain ⟨rfl, rfl⟩ := H
    go_enter Try.func22, Try.ntmps22
    go_wp2_with (first | ((with_reducible refine gate_callee (f := 86) rfl ?_); refine goesL_ (some 5) rfl rfl Try.func86 (by kernel_rfl) rfl #[.slice A0 l0.length c0, .func (.func 26) #[] #[]] rfl (by (try simp only [List.map_toArray, List.map_cons, List.map_nil]); first | done | rfl | (simp only [List.length_drop, List.length_take]; rfl)) ?_; (with_reducible refine (impl_all_Int__impl_IsAmount.calls _ _ l0 true _ ?side1 ?side2 A2.out).mono ?_); (case side1 => repeat (first | exact HR0.out | (with_reducible refine Kd.C_alloc ?_ _) | (with_reducible refine Kd.C_drewN ?_ _) | (with_reducible refine Kd.C_drew ?_))); (case side2 => exact HC0.out); rintro e w6 ⟨rfl, hb⟩; refine ⟨_, rfl, ?_⟩; have n0_ := Aside0.mk (below_step (by repeat (first | (with_reducible first | exact HB.out | apply below_alloc | apply pw_below_drewN | apply below_drew1) | exact HB.out)) hb); clear HB; have HB := n0_; clear n0_; (try clear hb); (try clear hb2); (try clear hk); (try clear hi)) | ((with_reducible refine gate_callee (f := 87) rfl ?_); refine goesL_ (some 8) rfl rfl Try.func87 (by kernel_rfl) rfl #[.slice A0 l0.length c0] rfl (by (try simp only [List.map_toArray, List.map_cons, List.map_nil]); first | done | rfl | (simp only [List.length_drop, List.length_take]; rfl)) ?_; (with_reducible refine (impl_sum.calls k _ _ l0 t277 _ ?side1 ?side2 A4.out).mono ?_); (case side1 => repeat (first | exact (Kd.C_below HR0.out HB.out) | (with_reducible refine Kd.C_alloc ?_ _) | (with_reducible refine Kd.C_drewN ?_ _) | (with_reducible refine Kd.C_drew ?_))); (case side2 => exact HC0.out); rintro e w' ⟨rfl, ⟨nd, rfl⟩⟩; refine ⟨_, rfl, ?_⟩) | ((with_reducible refine gate_callee (f := 77) rfl ?_); refine goesL_ (some 9) rfl rfl Try.func77 (by kernel_rfl) rfl #[.int .i64 t277] rfl (by (try simp only [List.map_toArray, List.map_cons, List.map_nil]); first | done | rfl | (simp only [List.length_drop, List.length_take]; rfl)) ?_; (with_reducible refine (impl_amountOf.calls t277 t278 t279 _ A5.out).mono ?_); rintro e w' ⟨rfl, ⟨nd, rfl⟩⟩; refine ⟨_, rfl, ?_⟩))
    go_ret2
    exact ⟨by first | rfl | (simp [errW_none, errW_some] <;> rfl) | (simp [*, errW_none, errW_some] <;> rfl), by repeat (first | (with_reducible first | exact HB.out | apply below_alloc | apply pw_below_drewN | apply below_drew1) | exact HB.out)⟩
  · replace c3 := Bool.eq_false_iff.mpr c3
    subst c3
    have H1 : (some (0, 2)) = some (r1, r2) := by rw [if_neg (show ¬ (false = true) by decide)] at H; exact H
    clear H
    have H := H1
    clear H1
    simp only [Option.some.injEq, Prod.mk.injEq] at H
    obtain ⟨rfl, rfl⟩ := H
    go_enter Try.func22, Try.ntmps22
    go_wp2_with (first | ((with_reducible refine gate_callee (f := 86) rfl ?_); refine goesL_ (some 5) rfl rfl Try.func86 (by kernel_rfl) rfl #[.slice A0 l0.length c0, .func (.func 26) #[] #[]] rfl (by (try simp only [List.map_toArray, List.map_cons, List.map_nil]); first | done | rfl | (simp only [List.length_drop, List.length_take]; rfl)) ?_; (with_reducible refine (impl_all_Int__impl_IsAmount.calls _ _ l0 false _ ?side1 ?side2 A2.out).mono ?_); (case side1 => repeat (first | exact HR0.out | (with_reducible refine Kd.C_alloc ?_ _) | (with_reducible refine Kd.C_drewN ?_ _) | (with_reducible refine Kd.C_drew ?_))); (case side2 => exact HC0.out); rintro e w7 ⟨rfl, hb⟩; refine ⟨_, rfl, ?_⟩; have n0_ := Aside0.mk (below_step (by repeat (first | (with_reducible first | exact HB.out | apply below_alloc | apply pw_below_drewN | apply below_drew1) | exact HB.out)) hb); clear HB; have HB := n0_; clear n0_; (try clear hb); (try clear hb2); (try clear hk); (try clear hi)))
    go_ret2
    exact ⟨by first | rfl | (simp [errW_none, errW_some] <;> rfl) | (simp [*, errW_none, errW_some] <;> rfl), by repeat (first | (with_reducible first | exact HB.out | apply below_alloc | apply pw_below_drewN | apply below_drew1) | exact HB.out)⟩

/-! ### spec_SumAmounts: function 23 -/
def spec_SumAmounts.l0 : Nat → List Int → Int → Int → Option (Int × Int)
  | 0, _, _, _ => none
  | k + 1, x0, x4, x5 => if x5 < (x0.length : Int) then (if 0 ≤ x5 then ((spec_IsAmount.f (wrap64 (x4 + (rd x0 x5)))).bind fun t282 => (if t282 = true then (spec_SumAmounts.l0 k x0 (wrap64 (x4 + (rd x0 x5))) (wrap64 (x5 + 1))) else (some (0, 3)))) else (none)) else (some (x4, 0))
def spec_SumAmounts.f (k : Nat) (l0 : List Int) : Option (Int × Int) := (spec_l01Amounts.f k l0).bind fun t280 => (if t280 = true then (spec_SumAmounts.l0 k l0 0 0) else (some (0, 2)))
theorem spec_SumAmounts.mono_l : ∀ k, (∀ y0 y1 y2, LeO (spec_SumAmounts.l0 k y0 y1 y2) (spec_SumAmounts.l0 (k + 1) y0 y1 y2))
  | 0 => fun _ _ _ r h => by simp [spec_SumAmounts.l0] at h
  | k + 1 => by
    have ih0 := spec_SumAmounts.mono_l k
    · intro y0 y1 y2
      unfold spec_SumAmounts.l0
      repeat' first
      | (with_reducible exact ih0 _ _ _)
      | (with_reducible exact spec_l01Amounts.mono _ _)
      | (with_reducible exact LeO.refl _)
      | (with_reducible exact LeO.none _)
      | (with_reducible refine LeO.ite ?_ ?_)
      | (with_reducible refine LeO.bind ?_ (fun _ => ?_))
      | exact ih0 _ _ _
      | exact spec_l01Amounts.mono _ _
      | exact LeO.none _
      | refine LeO.ite ?_ ?_
      | refine LeO.bind ?_ (fun _ => ?_)
theorem spec_SumAmounts.mono : ∀ a0 k, LeO (spec_SumAmounts.f k a0) (spec_SumAmounts.f (k + 1) a0) := by
  intro a0 k
  have ih0 := spec_SumAmounts.mono_l k
  unfold spec_SumAmounts.f
  repeat' first
      | (with_reducible exact ih0 _ _ _)
      | (with_reducible exact spec_l01Amounts.mono _ _)
      | (with_reducible exact LeO.refl _)
      | (with_reducible exact LeO.none _)
      | (with_reducible refine LeO.ite ?_ ?_)
      | (with_reducible refine LeO.bind ?_ (fun _ => ?_))
      | exact ih0 _ _ _
      | exact spec_l01Amounts.mono _ _
      | exact LeO.none _
      | refine LeO.ite ?_ ?_
      | refine LeO.bind ?_ (fun _ => ?_)
set_option maxHeartbeats 8000000 in
set_option maxRecDepth 100000 in
theorem spec_SumAmounts.calls (k : Nat) (A0 : Option Addr) (c0 : Nat) (l0 : List Int) (r1 : Int) (r2 : Int) (w : World) (hr0 : Kd.C (Kd.int .i64) w A0 l0.length l0) (hc0 : l0.length ≤ c0) (h : spec_SumAmounts.f k l0 = some (r1, r2)) :
    Calls Try.prog 23 #[.slice A0 l0.length c0] w fun e w' => e = .returned (.tuple #[.int .i64 r1, .int .i64 r2]) ∧ Drawn0 w w' := by
  have HR0 := Aside0.mk hr0
  have HC0 := Aside0.mk hc0
  clear hr0 hc0
  have H : ((spec_l01Amounts.f k l0).bind fun t280 => (if t280 = true then (spec_SumAmounts.l0 k l0 0 0) else (some (0, 2)))) = some (r1, r2) := h
  clear h
  replace H := Option.bind_eq_some_iff.mp H
  obtain ⟨t280, A20, H⟩ := H
  replace H : (if t280 = true then (spec_SumAmounts.l0 k l0 0 0) else (some (0, 2))) = some (r1, r2) := H
  have A2 := Aside0.mk A20
  clear A20
  by_cases c3 : t280 = true
  · subst c3
    have H1 : (spec_SumAmounts.l0 k l0 0 0) = some (r1, r2) := by rw [if_pos rfl] at H; exact H
    clear H
    have H := H1
    clear H1
    have H' := Aside0.mk H
    clear H
    go_enter Try.func23, Try.ntmps23
    go_wp2_with (first | ((with_reducible refine gate_callee (f := 82) rfl ?_); refine goesL_ (some 7) rfl rfl Try.func82 (by kernel_rfl) rfl #[.slice A0 l0.length c0] rfl (by (try simp only [List.map_toArray, List.map_cons, List.map_nil]); first | done | rfl | (simp only [List.length_drop, List.length_take]; rfl)) ?_; (with_reducible refine (spec_l01Amounts.calls k _ _ l0 true _ ?side1 ?side2 A2.out).mono ?_); (case side1 => repeat (first | exact HR0.out | (with_reducible refine Kd.C_alloc ?_ _) | (with_reducible refine Kd.C_drewN ?_ _) | (with_reducible refine Kd.C_drew ?_))); (case side2 => exact HC0.out); rintro e w' ⟨rfl, ⟨nd, rfl⟩⟩; refine ⟨_, rfl, ?_⟩))
    go_loopg [4, 5] k (fun kq v4 v5 w' => ∃ (x4_1 : Int) (x5_1 : Int), v4 = .int .i64 x4_1 ∧ v5 = .int .i64 x5_1 ∧ Aside0 (spec_SumAmounts.l0 kq l0 x4_1 x5_1 = some (r1, r2)) ∧ Aside0 (kq ≤ k) ∧ Drawn0 w w')
    case atStart => exact ⟨(0), (0), (by first | rfl | (simp; done) | (simp [*]; done)), (by first | rfl | (simp; done) | (simp [*]; done)), H', ⟨Nat.le_refl _⟩, by repeat (first | exact Drawn0.refl _ | apply Drawn0.step)⟩
    case round =>
      clear H'
      try clear c2
      try clear p2
      try clear c3
      obtain ⟨x4_1, x5_1, rfl, rfl, HA, HK1, ⟨m1, rfl⟩⟩ := hrel
      cases gk with
      | zero => exact absurd HA.out (by simp [spec_SumAmounts.l0])
      | succ k1 =>
        have H := HA.out
        clear HA
        simp only [spec_SumAmounts.l0] at H
        by_cases c4 : x5_1 < (l0.length : Int)
        · rw [if_pos c4] at H
          have c4b0 : decide (x5_1 < (l0.length : Int)) = true := decide_eq_true c4
          clear c4
          by_cases c5 : 0 ≤ x5_1
          · rw [if_pos c5] at H
            have c5b0 : decide (0 ≤ x5_1) = true := decide_eq_true c5
            clear c5
            replace H := Option.bind_eq_some_iff.mp H
            obtain ⟨t282, A60, H⟩ := H
            replace H : (if t282 = true then (spec_SumAmounts.l0 k1 l0 (wrap64 (x4_1 + (rd l0 x5_1))) (wrap64 (x5_1 + 1))) else (some (0, 3))) = some (r1, r2) := H
            have A6 := Aside0.mk A60
            clear A60
            by_cases c7 : t282 = true
            · subst c7
              have H1 : (spec_SumAmounts.l0 k1 l0 (wrap64 (x4_1 + (rd l0 x5_1))) (wrap64 (x5_1 + 1))) = some (r1, r2) := by rw [if_pos rfl] at H; exact H
              clear H
              have H := H1
              clear H1
              have H' := Aside0.mk H
              clear H
              have p281 : 0 ≤ (x5_1 : Int) := of_decide_eq_true (by first | (with_reducible assumption) | assumption)
              have q281 : x5_1 < (l0.length : Int) := of_decide_eq_true (by first | (with_reducible assumption) | assumption)
              obtain ⟨ad281, e281, hx281_0⟩ := Kd.at_int HR0.out x5_1 p281 q281
              cases e281
              replace p281 := eq_true p281
              replace q281 := eq_true q281
              go_wp2_with (first | ((with_reducible refine gate_callee (f := 27) rfl ?_); refine goesL_ (some 22) rfl rfl Try.func27 (by kernel_rfl) rfl #[.int .i64 (wrap64 (x4_1 + (rd l0 x5_1)))] rfl (by (try simp only [List.map_toArray, List.map_cons, List.map_nil]); first | done | rfl | (simp only [List.length_drop, List.length_take]; rfl)) ?_; (with_reducible refine (spec_IsAmount.calls (wrap64 (x4_1 + (rd l0 x5_1))) true _ A6.out).mono ?_); rintro e w' ⟨rfl, ⟨nd, rfl⟩⟩; refine ⟨_, rfl, ?_⟩))
              go_roundg k1
              case measure => have := HK1.out; omega
              case rel => exact ⟨(wrap64 (x4_1 + (rd l0 x5_1))), (wrap64 (x5_1 + 1)), (by first | rfl | (simp; done) | (simp [*]; done)), (by first | rfl | (simp; done) | (simp [*]; done)), H', ⟨by have := HK1.out; omega⟩, by repeat (first | exact Drawn0.refl _ | apply Drawn0.step)⟩
            · replace c7 := Bool.eq_false_iff.mpr c7
              subst c7
              have H1 : (some (0, 3)) = some (r1, r2) := by rw [if_neg (show ¬ (false = true) by decide)] at H; exact H
              clear H
              have H := H1
              clear H1
              simp only [Option.some.injEq, Prod.mk.injEq] at H
              obtain ⟨rfl, rfl⟩ := H
              have p281 : 0 ≤ (x5_1 : Int) := of_decide_eq_true (by first | (with_reducible assumption) | assumption)
              have q281 : x5_1 < (l0.length : Int) := of_decide_eq_true (by first | (with_reducible assumption) | assumption)
              obtain ⟨ad281, e281, hx281_0⟩ := Kd.at_int HR0.out x5_1 p281 q281
              cases e281
              replace p281 := eq_true p281
              replace q281 := eq_true q281
              go_wp2_with (first | ((with_reducible refine gate_callee (f := 27) rfl ?_); refine goesL_ (some 22) rfl rfl Try.func27 (by kernel_rfl) rfl #[.int .i64 (wrap64 (x4_1 + (rd l0 x5_1)))] rfl (by (try simp only [List.map_toArray, List.map_cons, List.map_nil]); first | done | rfl | (simp only [List.length_drop, List.length_take]; rfl)) ?_; (with_reducible refine (spec_IsAmount.calls (wrap64 (x4_1 + (rd l0 x5_1))) false _ A6.out).mono ?_); rintro e w' ⟨rfl, ⟨nd, rfl⟩⟩; refine ⟨_, rfl, ?_⟩))
              go_ret2
              exact ⟨by first | rfl | (simp; done) | (simp [*]; done), by repeat (first | exact Drawn0.refl _ | apply Drawn0.step)⟩
          · rw [if_neg c5] at H
            exact absurd H (by simp)
        · rw [if_neg c4] at H
          have c4b0 : decide (x5_1 < (l0.length : Int)) = false := decide_eq_false c4
          clear c4
          simp only [Option.some.injEq, Prod.mk.injEq] at H
          obtain ⟨rfl, rfl⟩ := H
          go_wp2
          go_ret2
          exact ⟨by first | rfl | (simp; done) | (simp [*]; done), by repeat (first | exact Drawn0.refl _ | apply Drawn0.step)⟩
  · replace c3 := Bool.eq_false_iff.mpr c3
    subst c3
    have H1 : (some (0, 2)) = some (r1, r2) := by rw [if_neg (show ¬ (false = true) by decide)] at H; exact H
    clear H
    have H := H1
    clear H1
    simp only [Option.some.injEq, Prod.mk.injEq] at H
    obtain ⟨rfl, rfl⟩ := H
    go_enter Try.func23, Try.ntmps23
    go_wp2_with (first | ((with_reducible refine gate_callee (f := 82) rfl ?_); refine goesL_ (some 7) rfl rfl Try.func82 (by kernel_rfl) rfl #[.slice A0 l0.length c0] rfl (by (try simp only [List.map_toArray, List.map_cons, List.map_nil]); first | done | rfl | (simp only [List.length_drop, List.length_take]; rfl)) ?_; (with_reducible refine (spec_l01Amounts.calls k _ _ l0 false _ ?side1 ?side2 A2.out).mono ?_); (case side1 => repeat (first | exact HR0.out | (with_reducible refine Kd.C_alloc ?_ _) | (with_reducible refine Kd.C_drewN ?_ _) | (with_reducible refine Kd.C_drew ?_))); (case side2 => exact HC0.out); rintro e w' ⟨rfl, ⟨nd, rfl⟩⟩; refine ⟨_, rfl, ?_⟩))
    go_ret2
    exact ⟨by first | rfl | (simp; done) | (simp [*]; done), by repeat (first | exact Drawn0.refl _ | apply Drawn0.step)⟩

/-! ### spec_DrawIsAmount: function 24 -/
def spec_DrawIsAmount.f (k : Nat) (l0 : List Int) : Option (Int) := (spec_l01From.f k l0).bind fun bt283 => ((spec_l01DrawAmount.f bt283.1 bt283.2.1 bt283.2.2).bind fun bt287 => (some bt287.1))
theorem spec_DrawIsAmount.mono : ∀ a0 k, LeO (spec_DrawIsAmount.f k a0) (spec_DrawIsAmount.f (k + 1) a0) := by
  intro a0 k
  unfold spec_DrawIsAmount.f
  repeat' first
      | (with_reducible exact spec_l01From.mono _ _)
      | (with_reducible exact LeO.refl _)
      | (with_reducible exact LeO.none _)
      | (with_reducible refine LeO.ite ?_ ?_)
      | (with_reducible refine LeO.bind ?_ (fun _ => ?_))
      | exact spec_l01From.mono _ _
      | exact LeO.none _
      | refine LeO.ite ?_ ?_
      | refine LeO.bind ?_ (fun _ => ?_)
set_option maxHeartbeats 8000000 in
set_option maxRecDepth 100000 in
theorem spec_DrawIsAmount.calls (k : Nat) (A0 : Option Addr) (c0 : Nat) (l0 : List Int) (r : Int) (w : World) (hr0 : Kd.C (Kd.int .u8) w A0 l0.length l0) (hc0 : l0.length ≤ c0) (h : spec_DrawIsAmount.f k l0 = some r) :
    Calls Try.prog 24 #[.slice A0 l0.length c0] w fun e w' => e = .returned (.int .i64 r) ∧ Below w.heap.size w w' := by
  have HR0 := Aside0.mk hr0
  have HC0 := Aside0.mk hc0
  clear hr0 hc0
  have HB := Aside0.mk (Below.refl w.heap.size w)
  have H : ((spec_l01From.f k l0).bind fun bt283 => ((spec_l01DrawAmount.f bt283.1 bt283.2.1 bt283.2.2).bind fun bt287 => (some bt287.1))) = some r := h
  clear h
  replace H := Option.bind_eq_some_iff.mp H
  obtain ⟨⟨t283, t284, t285⟩, A20, H⟩ := H
  replace H : ((spec_l01DrawAmount.f t283 t284 t285).bind fun bt287 => (some bt287.1)) = some r := H
  have A2 := Aside0.mk A20
  clear A20
  replace H := Option.bind_eq_some_iff.mp H
  obtain ⟨⟨t287, t288, t289⟩, A30, H⟩ := H
  replace H : (some t287) = some r := H
  have A3 := Aside0.mk A30
  clear A30
  obtain rfl := Option.some.inj H
  go_enter Try.func24, Try.ntmps24
  go_wp2_with (first | ((with_reducible refine gate_callee (f := 74) rfl ?_); refine goesL_ (some 4) rfl rfl Try.func74 (by kernel_rfl) rfl #[.slice A0 l0.length c0] rfl (by (try simp only [List.map_toArray, List.map_cons, List.map_nil]); first | done | rfl | (simp only [List.length_drop, List.length_take]; rfl)) ?_; (with_reducible refine (spec_l01From.calls k _ _ l0 t283 t284 t285 w _ ?side1 ?side2 ?side3 A2.out).mono ?_); (case side1 => repeat (first | (with_reducible first | exact HB.out | apply below_alloc | apply pw_below_drewN | apply below_drew1) | exact HB.out)); (case side2 => exact HR0.out); (case side3 => exact HC0.out); rintro e w4 ⟨g286, rfl, hi, hb, hb2⟩; refine ⟨_, rfl, ?_⟩; have n0_ := Aside0.mk (hb); have n1_ := Aside0.mk (hi); clear HB; have HB := n0_; have HI286 := n1_; clear n0_ n1_; (try clear hb); (try clear hb2); (try clear hk); (try clear hi)) | ((with_reducible refine gate_callee (f := 75) rfl ?_); refine goesL_ (some 5) rfl rfl Try.func75 (by kernel_rfl) rfl #[.pointer (some ⟨g286, 0, none⟩)] rfl (by (try simp only [List.map_toArray, List.map_cons, List.map_nil]); first | done | rfl | (simp only [List.length_drop, List.length_take]; rfl)) ?_; (with_reducible refine (spec_l01DrawAmount.calls g286 t283 t284 t285 t287 t288 t289 w _ ?side1 ?side2 A3.out).mono ?_); (case side1 => repeat (first | (with_reducible first | exact HI286.out | apply IsS126.alloc | apply IsS126.drewN | apply IsS126.drew | apply IsS126.set_1 | apply IsS126.set_2) | exact HI286.out)); (case side2 => repeat (first | (with_reducible first | exact HB.out | apply below_alloc | apply pw_below_drewN | apply below_drew1 | refine below_set ?_ (IsS126.ge HI286.out)) | exact HB.out)); rintro e w5 ⟨rfl, hi, hb, hk⟩; refine ⟨_, rfl, ?_⟩; have n0_ := Aside0.mk (hb); have n1_ := Aside0.mk (hi); clear HB; clear HI286; have HB := n0_; have HI286 := n1_; clear n0_ n1_; (try clear hb); (try clear hb2); (try clear hk); (try clear hi)))
  go_ret
  exact ⟨by first | rfl | (simp [errW_none, errW_some] <;> rfl) | (simp [*, errW_none, errW_some] <;> rfl), by repeat (first | (with_reducible first | exact HB.out | apply below_alloc | apply pw_below_drewN | apply below_drew1 | refine below_set ?_ (IsS126.ge HI286.out)) | exact HB.out)⟩

/-! ### laws_likeInts: function 25 -/
def laws_likeInts.l0 : Nat → List Int → List Int → Int → Option (Bool)
  | 0, _, _, _ => none
  | k + 1, x0, x1, x5 => if x5 < (x0.length : Int) then (if 0 ≤ x5 then (if x5 < (x1.length : Int) then (if (rd x0 x5) = (rd x1 x5) then (laws_likeInts.l0 k x0 x1 (wrap64 (x5 + 1))) else (some false)) else (none)) else (none)) else (some true)
def laws_likeInts.f (k : Nat) (l0 : List Int) (l1 : List Int) : Option (Bool) := if (l0.length : Int) = (l1.length : Int) then (laws_likeInts.l0 k l0 l1 0) else (some false)
theorem laws_likeInts.mono_l : ∀ k, (∀ y0 y1 y2, LeO (laws_likeInts.l0 k y0 y1 y2) (laws_likeInts.l0 (k + 1) y0 y1 y2))
  | 0 => fun _ _ _ r h => by simp [laws_likeInts.l0] at h
  | k + 1 => by
    have ih0 := laws_likeInts.mono_l k
    · intro y0 y1 y2
      unfold laws_likeInts.l0
      repeat' first
      | (with_reducible exact ih0 _ _ _)
      | (with_reducible exact LeO.refl _)
      | (with_reducible exact LeO.none _)
      | (with_reducible refine LeO.ite ?_ ?_)
      | (with_reducible refine LeO.bind ?_ (fun _ => ?_))
      | exact ih0 _ _ _
      | exact LeO.none _
      | refine LeO.ite ?_ ?_
      | refine LeO.bind ?_ (fun _ => ?_)
theorem laws_likeInts.mono : ∀ a0 a1 k, LeO (laws_likeInts.f k a0 a1) (laws_likeInts.f (k + 1) a0 a1) := by
  intro a0 a1 k
  have ih0 := laws_likeInts.mono_l k
  unfold laws_likeInts.f
  repeat' first
      | (with_reducible exact ih0 _ _ _)
      | (with_reducible exact LeO.refl _)
      | (with_reducible exact LeO.none _)
      | (with_reducible refine LeO.ite ?_ ?_)
      | (with_reducible refine LeO.bind ?_ (fun _ => ?_))
      | exact ih0 _ _ _
      | exact LeO.none _
      | refine LeO.ite ?_ ?_
      | refine LeO.bind ?_ (fun _ => ?_)
set_option maxHeartbeats 8000000 in
set_option maxRecDepth 100000 in
theorem laws_likeInts.calls (k : Nat) (A0 : Option Addr) (c0 : Nat) (l0 : List Int) (A1 : Option Addr) (c1 : Nat) (l1 : List Int) (r : Bool) (w : World) (hr0 : Kd.C (Kd.int .i64) w A0 l0.length l0) (hc0 : l0.length ≤ c0) (hr1 : Kd.C (Kd.int .i64) w A1 l1.length l1) (hc1 : l1.length ≤ c1) (h : laws_likeInts.f k l0 l1 = some r) :
    Calls Try.prog 25 #[.slice A0 l0.length c0, .slice A1 l1.length c1] w fun e w' => e = .returned (.bool r) ∧ Drawn0 w w' := by
  have HR0 := Aside0.mk hr0
  have HC0 := Aside0.mk hc0
  clear hr0 hc0
  have HR1 := Aside0.mk hr1
  have HC1 := Aside0.mk hc1
  clear hr1 hc1
  have H : (if (l0.length : Int) = (l1.length : Int) then (laws_likeInts.l0 k l0 l1 0) else (some false)) = some r := h
  clear h
  by_cases c3 : (l0.length : Int) = (l1.length : Int)
  · rw [if_pos c3] at H
    have c3b0 : ((l0.length : Int) == (l1.length : Int)) = true := beq_iff_eq.mpr c3
    have c3b1 : ((l0.length : Int) != (l1.length : Int)) = false := bne_eq_false_iff_eq.mpr c3
    have c3b2 : (l0.length == l1.length) = true := by first | simpa using c3 | (simp at c3 ⊢; omega)
    clear c3
    have H' := Aside0.mk H
    clear H
    go_enter Try.func25, Try.ntmps25
    go_wp2
    repeat (go_quiet (fail); try go_wp2)
    go_loopg [5] k (fun kq v5 w' => ∃ (x5_1 : Int), v5 = .int .i64 x5_1 ∧ Aside0 (laws_likeInts.l0 kq l0 l1 x5_1 = some r) ∧ Aside0 (kq ≤ k) ∧ Drawn0 w w')
    case atStart => exact ⟨(0), (by first | rfl | (simp; done) | (simp [*]; done)), H', ⟨Nat.le_refl _⟩, by repeat (first | exact Drawn0.refl _ | apply Drawn0.step)⟩
    case round =>
      clear H'
      try clear c1
      try clear c2
      try clear p2
      try clear c3
      try clear c3b0
      try clear c3b1
      try clear c3b2
      obtain ⟨x5_1, rfl, HA, HK1, ⟨m1, rfl⟩⟩ := hrel
      cases gk with
      | zero => exact absurd HA.out (by simp [laws_likeInts.l0])
      | succ k1 =>
        have H := HA.out
        clear HA
        simp only [laws_likeInts.l0] at H
        by_cases c4 : x5_1 < (l0.length : Int)
        · rw [if_pos c4] at H
          have c4b0 : decide (x5_1 < (l0.length : Int)) = true := decide_eq_true c4
          clear c4
          by_cases c5 : 0 ≤ x5_1
          · rw [if_pos c5] at H
            have c5b0 : decide (0 ≤ x5_1) = true := decide_eq_true c5
            clear c5
            by_cases c6 : x5_1 < (l1.length : Int)
            · rw [if_pos c6] at H
              have c6b0 : decide (x5_1 < (l1.length : Int)) = true := decide_eq_true c6
              clear c6
              by_cases c7 : (rd l0 x5_1) = (rd l1 x5_1)
              · rw [if_pos c7] at H
                have c7b0 : ((rd l0 x5_1) == (rd l1 x5_1)) = true := beq_iff_eq.mpr c7
                have c7b1 : ((rd l0 x5_1) != (rd l1 x5_1)) = false := bne_eq_false_iff_eq.mpr c7
                clear c7
                have H' := Aside0.mk H
                clear H
                have p290 : 0 ≤ (x5_1 : Int) := of_decide_eq_true (by first | (with_reducible assumption) | assumption)
                have q290 : x5_1 < (l0.length : Int) := of_decide_eq_true (by first | (with_reducible assumption) | assumption)
                obtain ⟨ad290, e290, hx290_0⟩ := Kd.at_int HR0.out x5_1 p290 q290
                cases e290
                replace p290 := eq_true p290
                replace q290 := eq_true q290
                have p291 : 0 ≤ (x5_1 : Int) := of_decide_eq_true (by first | (with_reducible assumption) | assumption)
                have q291 : x5_1 < (l1.length : Int) := of_decide_eq_true (by first | (with_reducible assumption) | assumption)
                obtain ⟨ad291, e291, hx291_0⟩ := Kd.at_int HR1.out x5_1 p291 q291
                cases e291
                replace p291 := eq_true p291
                replace q291 := eq_true q291
                go_wp2
                repeat (go_quiet (fail); try go_wp2)
                go_roundg k1
                case measure => have := HK1.out; omega
                case rel => exact ⟨(wrap64 (x5_1 + 1)), (by first | rfl | (simp; done) | (simp [*]; done)), H', ⟨by have := HK1.out; omega⟩, by repeat (first | exact Drawn0.refl _ | apply Drawn0.step)⟩
              · rw [if_neg c7] at H
                have c7b0 : ((rd l0 x5_1) == (rd l1 x5_1)) = false := beq_eq_false_iff_ne.mpr c7
                have c7b1 : ((rd l0 x5_1) != (rd l1 x5_1)) = true := bne_iff_ne.mpr c7
                obtain rfl := Option.some.inj H
                have p290 : 0 ≤ (x5_1 : Int) := of_decide_eq_true (by first | (with_reducible assumption) | assumption)
                have q290 : x5_1 < (l0.length : Int) := of_decide_eq_true (by first | (with_reducible assumption) | assumption)
                obtain ⟨ad290, e290, hx290_0⟩ := Kd.at_int HR0.out x5_1 p290 q290
                cases e290
                replace p290 := eq_true p290
                replace q290 := eq_true q290
                have p291 : 0 ≤ (x5_1 : Int) := of_decide_eq_true (by first | (with_reducible assumption) | assumption)
                have q291 : x5_1 < (l1.length : Int) := of_decide_eq_true (by first | (with_reducible assumption) | assumption)
                obtain ⟨ad291, e291, hx291_0⟩ := Kd.at_int HR1.out x5_1 p291 q291
                cases e291
                replace p291 := eq_true p291
                replace q291 := eq_true q291
                go_wp2
                repeat (go_quiet (fail); try go_wp2)
                go_ret
                exact ⟨by first | rfl | (simp; done) | (simp [*]; done), by repeat (first | exact Drawn0.refl _ | apply Drawn0.step)⟩
            · rw [if_neg c6] at H
              exact absurd H (by simp)
          · rw [if_neg c5] at H
            exact absurd H (by simp)
        · rw [if_neg c4] at H
          have c4b0 : decide (x5_1 < (l0.length : Int)) = false := decide_eq_false c4
          clear c4
          obtain rfl := Option.some.inj H
          go_wp2
          repeat (go_quiet (fail); try go_wp2)
          go_ret
          exact ⟨by first | rfl | (simp; done) | (simp [*]; done), by repeat (first | exact Drawn0.refl _ | apply Drawn0.step)⟩
  · rw [if_neg c3] at H
    have c3b0 : ((l0.length : Int) == (l1.length : Int)) = false := beq_eq_false_iff_ne.mpr c3
    have c3b1 : ((l0.length : Int) != (l1.length : Int)) = true := bne_iff_ne.mpr c3
    have c3b2 : (l0.length == l1.length) = false := by first | simpa using c3 | (simp at c3 ⊢; omega)
    obtain rfl := Option.some.inj H
    go_enter Try.func25, Try.ntmps25
    go_wp2
    repeat (go_quiet (fail); try go_wp2)
    go_ret
    exact ⟨by first | rfl | (simp; done) | (simp [*]; done), by repeat (first | exact Drawn0.refl _ | apply Drawn0.step)⟩

/-! ### laws_sum: function 28 -/
def laws_sum.l0 : Nat → List Int → Int → Int → Option (Int)
  | 0, _, _, _ => none
  | k + 1, x0, x3, x4 => if x4 < (x0.length : Int) then (if 0 ≤ x4 then (laws_sum.l0 k x0 (wrap64 (x3 + (rd x0 x4))) (wrap64 (x4 + 1))) else (none)) else (some x3)
def laws_sum.f (k : Nat) (l0 : List Int) : Option (Int) := laws_sum.l0 k l0 0 0
theorem laws_sum.mono_l : ∀ k, (∀ y0 y1 y2, LeO (laws_sum.l0 k y0 y1 y2) (laws_sum.l0 (k + 1) y0 y1 y2))
  | 0 => fun _ _ _ r h => by simp [laws_sum.l0] at h
  | k + 1 => by
    have ih0 := laws_sum.mono_l k
    · intro y0 y1 y2
      unfold laws_sum.l0
      repeat' first
      | (with_reducible exact ih0 _ _ _)
      | (with_reducible exact LeO.refl _)
      | (with_reducible exact LeO.none _)
      | (with_reducible refine LeO.ite ?_ ?_)
      | (with_reducible refine LeO.bind ?_ (fun _ => ?_))
      | exact ih0 _ _ _
      | exact LeO.none _
      | refine LeO.ite ?_ ?_
      | refine LeO.bind ?_ (fun _ => ?_)
theorem laws_sum.mono : ∀ a0 k, LeO (laws_sum.f k a0) (laws_sum.f (k + 1) a0) := by
  intro a0 k
  have ih0 := laws_sum.mono_l k
  unfold laws_sum.f
  repeat' first
      | (with_reducible exact ih0 _ _ _)
      | (with_reducible exact LeO.refl _)
      | (with_reducible exact LeO.none _)
      | (with_reducible refine LeO.ite ?_ ?_)
      | (with_reducible refine LeO.bind ?_ (fun _ => ?_))
      | exact ih0 _ _ _
      | exact LeO.none _
      | refine LeO.ite ?_ ?_
      | refine LeO.bind ?_ (fun _ => ?_)
set_option maxHeartbeats 8000000 in
set_option maxRecDepth 100000 in
theorem laws_sum.calls (k : Nat) (A0 : Option Addr) (c0 : Nat) (l0 : List Int) (r : Int) (w : World) (hr0 : Kd.C (Kd.int .i64) w A0 l0.length l0) (hc0 : l0.length ≤ c0) (h : laws_sum.f k l0 = some r) :
    Calls Try.prog 28 #[.slice A0 l0.length c0] w fun e w' => e = .returned (.int .i64 r) ∧ Drawn0 w w' := by
  have HR0 := Aside0.mk hr0
  have HC0 := Aside0.mk hc0
  clear hr0 hc0
  have H : (laws_sum.l0 k l0 0 0) = some r := h
  clear h
  have H' := Aside0.mk H
  clear H
  go_enter Try.func28, Try.ntmps28
  go_wp2
  go_loopg [3, 4] k (fun kq v3 v4 w' => ∃ (x3_1 : Int) (x4_1 : Int), v3 = .int .i64 x3_1 ∧ v4 = .int .i64 x4_1 ∧ Aside0 (laws_sum.l0 kq l0 x3_1 x4_1 = some r) ∧ Aside0 (kq ≤ k) ∧ Drawn0 w w')
  case atStart => exact ⟨(0), (0), (by first | rfl | (simp; done) | (simp [*]; done)), (by first | rfl | (simp; done) | (simp [*]; done)), H', ⟨Nat.le_refl _⟩, by repeat (first | exact Drawn0.refl _ | apply Drawn0.step)⟩
  case round =>
    clear H'
    obtain ⟨x3_1, x4_1, rfl, rfl, HA, HK1, ⟨m1, rfl⟩⟩ := hrel
    cases gk with
    | zero => exact absurd HA.out (by simp [laws_sum.l0])
    | succ k1 =>
      have H := HA.out
      clear HA
      simp only [laws_sum.l0] at H
      by_cases c2 : x4_1 < (l0.length : Int)
      · rw [if_pos c2] at H
        have c2b0 : decide (x4_1 < (l0.length : Int)) = true := decide_eq_true c2
        clear c2
        by_cases c3 : 0 ≤ x4_1
        · rw [if_pos c3] at H
          have c3b0 : decide (0 ≤ x4_1) = true := decide_eq_true c3
          clear c3
          have H' := Aside0.mk H
          clear H
          have p292 : 0 ≤ (x4_1 : Int) := of_decide_eq_true (by first | (with_reducible assumption) | assumption)
          have q292 : x4_1 < (l0.length : Int) := of_decide_eq_true (by first | (with_reducible assumption) | assumption)
          obtain ⟨ad292, e292, hx292_0⟩ := Kd.at_int HR0.out x4_1 p292 q292
          cases e292
          replace p292 := eq_true p292
          replace q292 := eq_true q292
          go_wp2
          go_roundg k1
          case measure => have := HK1.out; omega
          case rel => exact ⟨(wrap64 (x3_1 + (rd l0 x4_1))), (wrap64 (x4_1 + 1)), (by first | rfl | (simp; done) | (simp [*]; done)), (by first | rfl | (simp; done) | (simp [*]; done)), H', ⟨by have := HK1.out; omega⟩, by repeat (first | exact Drawn0.refl _ | apply Drawn0.step)⟩
        · rw [if_neg c3] at H
          exact absurd H (by simp)
      · rw [if_neg c2] at H
        have c2b0 : decide (x4_1 < (l0.length : Int)) = false := decide_eq_false c2
        clear c2
        obtain rfl := Option.some.inj H
        go_wp2
        go_ret
        exact ⟨by first | rfl | (simp; done) | (simp [*]; done), by repeat (first | exact Drawn0.refl _ | apply Drawn0.step)⟩

/-! ### laws_FnProportions: function 3 -/
mutual
def laws_FnProportions.j0 : Nat → Int → Int → Int → Int → Int → Int → List Int → List Int → Int → Bool → Option (Bool)
  | 0, _, _, _, _, _, _, _, _, _, _ => none
  | k + 1, x3, x4, x5, x6, x7, x10, x11, x12, x13, x110 => if x110 = true then (some false) else (if x13 = 0 then ((laws_sum.f k x12).bind fun t324 => (if t324 > x10 then (laws_FnProportions.j1 k x3 x4 x5 x6 x7 true) else ((laws_sum.f k x12).bind fun t325 => (if t325 < x10 then ((laws_likeInts.f k x12 x11).bind fun t326 => (laws_FnProportions.j1 k x3 x4 x5 x6 x7 (!t326))) else (laws_FnProportions.j1 k x3 x4 x5 x6 x7 false))))) else (if x7 = 0 then (if (wrap64 (2 * (wrap64 ((wrap64 (x6 * x5)) - (wrap64 (x3 * x4)))))) ≤ x5 then (some (decide ((wrap64 (2 * (wrap64 ((wrap64 (x3 * x4)) - (wrap64 (x6 * x5)))))) < (wrap64 (x5 + 1))))) else (some false)) else (some true)))
def laws_FnProportions.j1 : Nat → Int → Int → Int → Int → Int → Bool → Option (Bool)
  | 0, _, _, _, _, _, _ => none
  | k + 1, x3, x4, x5, x6, x7, x128 => if x128 = true then (some false) else (if x7 = 0 then (if (wrap64 (2 * (wrap64 ((wrap64 (x6 * x5)) - (wrap64 (x3 * x4)))))) ≤ x5 then (some (decide ((wrap64 (2 * (wrap64 ((wrap64 (x3 * x4)) - (wrap64 (x6 * x5)))))) < (wrap64 (x5 + 1))))) else (some false)) else (some true))
end
def laws_FnProportions.f (k : Nat) (l0 : List Int) : Option (Bool) := (laws_big.f l0).bind fun t293 => (if t293 = true then (some true) else ((spec_DrawProportionOf.f k l0).bind fun bt294 => ((impl_ProportionOf.f k bt294.1 bt294.2.1 bt294.2.2).bind fun bt297 => ((spec_ProportionOf.f k bt294.1 bt294.2.1 bt294.2.2).bind fun bt299 => ((spec_DrawTakeDown.f k l0).bind fun bt301 => ((impl_TakeDown.f k bt301.1 bt301.2).bind fun bt305 => ((spec_TakeDown.f k bt301.1 bt301.2).bind fun bt309 => ((spec_DrawSumAmounts.f k l0).bind fun t313 => ((impl_SumAmounts.f k t313).bind fun bt316 => ((spec_SumAmounts.f k t313).bind fun bt318 => ((spec_DrawIsAmount.f k l0).bind fun t320 => (if bt297.2 = bt299.2 then (if bt297.1 = bt299.1 then (if bt305.2 = bt309.2 then ((laws_likeInts.f k bt305.1 bt309.1).bind fun t321 => (if t321 = true then (if bt316.2 = bt318.2 then (if bt316.1 = bt318.1 then ((impl_IsAmount.f t320).bind fun t322 => ((spec_IsAmount.f t320).bind fun t323 => (laws_FnProportions.j0 k bt294.1 bt294.2.1 bt294.2.2 bt297.1 bt297.2 bt301.1 bt301.2 bt305.1 bt305.2 (t322 != t323)))) else (laws_FnProportions.j0 k bt294.1 bt294.2.1 bt294.2.2 bt297.1 bt297.2 bt301.1 bt301.2 bt305.1 bt305.2 true)) else (laws_FnProportions.j0 k bt294.1 bt294.2.1 bt294.2.2 bt297.1 bt297.2 bt301.1 bt301.2 bt305.1 bt305.2 true)) else (laws_FnProportions.j0 k bt294.1 bt294.2.1 bt294.2.2 bt297.1 bt297.2 bt301.1 bt301.2 bt305.1 bt305.2 true))) else (laws_FnProportions.j0 k bt294.1 bt294.2.1 bt294.2.2 bt297.1 bt297.2 bt301.1 bt301.2 bt305.1 bt305.2 true)) else (laws_FnProportions.j0 k bt294.1 bt294.2.1 bt294.2.2 bt297.1 bt297.2 bt301.1 bt301.2 bt305.1 bt305.2 true)) else (laws_FnProportions.j0 k bt294.1 bt294.2.1 bt294.2.2 bt297.1 bt297.2 bt301.1 bt301.2 bt305.1 bt305.2 true)))))))))))))
theorem laws_FnProportions.mono_l : ∀ k, (∀ y0 y1 y2 y3 y4 y5 y6 y7 y8 y9, LeO (laws_FnProportions.j0 k y0 y1 y2 y3 y4 y5 y6 y7 y8 y9) (laws_FnProportions.j0 (k + 1) y0 y1 y2 y3 y4 y5 y6 y7 y8 y9)) ∧ (∀ y0 y1 y2 y3 y4 y5, LeO (laws_FnProportions.j1 k y0 y1 y2 y3 y4 y5) (laws_FnProportions.j1 (k + 1) y0 y1 y2 y3 y4 y5))
  | 0 => ⟨fun _ _ _ _ _ _ _ _ _ _ r h => by simp [laws_FnProportions.j0] at h, fun _ _ _ _ _ _ r h => by simp [laws_FnProportions.j1] at h⟩
  | k + 1 => by
    obtain ⟨ih0, ih1⟩ := laws_FnProportions.mono_l k
    refine ⟨?_, ?_⟩
    · intro y0 y1 y2 y3 y4 y5 y6 y7 y8 y9
      unfold laws_FnProportions.j0
      repeat' first
      | (with_reducible exact ih0 _ _ _ _ _ _ _ _ _ _)
      | (with_reducible exact ih1 _ _ _ _ _ _)
      | (with_reducible exact impl_ProportionOf.mono _ _ _ _)
      | (with_reducible exact impl_SumAmounts.mono _ _)
      | (with_reducible exact impl_TakeDown.mono _ _ _)
      | (with_reducible exact laws_likeInts.mono _ _ _)
      | (with_reducible exact laws_sum.mono _ _)
      | (with_reducible exact spec_DrawIsAmount.mono _ _)
      | (with_reducible exact spec_DrawProportionOf.mono _ _)
      | (with_reducible exact spec_DrawSumAmounts.mono _ _)
      | (with_reducible exact spec_DrawTakeDown.mono _ _)
      | (with_reducible exact spec_ProportionOf.mono _ _ _ _)
      | (with_reducible exact spec_SumAmounts.mono _ _)
      | (with_reducible exact spec_TakeDown.mono _ _ _)
      | (with_reducible exact LeO.refl _)
      | (with_reducible exact LeO.none _)
      | (with_reducible refine LeO.ite ?_ ?_)
      | (with_reducible refine LeO.bind ?_ (fun _ => ?_))
      | exact ih0 _ _ _ _ _ _ _ _ _ _
      | exact ih1 _ _ _ _ _ _
      | exact impl_ProportionOf.mono _ _ _ _
      | exact impl_SumAmounts.mono _ _
      | exact impl_TakeDown.mono _ _ _
      | exact laws_likeInts.mono _ _ _
      | exact laws_sum.mono _ _
      | exact spec_DrawIsAmount.mono _ _
      | exact spec_DrawProportionOf.mono _ _
      | exact spec_DrawSumAmounts.mono _ _
      | exact spec_DrawTakeDown.mono _ _
      | exact spec_ProportionOf.mono _ _ _ _
      | exact spec_SumAmounts.mono _ _
      | exact spec_TakeDown.mono _ _ _
      | exact LeO.none _
      | refine LeO.ite ?_ ?_
      | refine LeO.bind ?_ (fun _ => ?_)
    · intro y0 y1 y2 y3 y4 y5
      unfold laws_FnProportions.j1
      repeat' first
      | (with_reducible exact ih0 _ _ _ _ _ _ _ _ _ _)
      | (with_reducible exact ih1 _ _ _ _ _ _)
      | (with_reducible exact impl_ProportionOf.mono _ _ _ _)
      | (with_reducible exact impl_SumAmounts.mono _ _)
      | (with_reducible exact impl_TakeDown.mono _ _ _)
      | (with_reducible exact laws_likeInts.mono _ _ _)
      | (with_reducible exact laws_sum.mono _ _)
      | (with_reducible exact spec_DrawIsAmount.mono _ _)
      | (with_reducible exact spec_DrawProportionOf.mono _ _)
      | (with_reducible exact spec_DrawSumAmounts.mono _ _)
      | (with_reducible exact spec_DrawTakeDown.mono _ _)
      | (with_reducible exact spec_ProportionOf.mono _ _ _ _)
      | (with_reducible exact spec_SumAmounts.mono _ _)
      | (with_reducible exact spec_TakeDown.mono _ _ _)
      | (with_reducible exact LeO.refl _)
      | (with_reducible exact LeO.none _)
      | (with_reducible refine LeO.ite ?_ ?_)
      | (with_reducible refine LeO.bind ?_ (fun _ => ?_))
      | exact ih0 _ _ _ _ _ _ _ _ _ _
      | exact ih1 _ _ _ _ _ _
      | exact impl_ProportionOf.mono _ _ _ _
      | exact impl_SumAmounts.mono _ _
      | exact impl_TakeDown.mono _ _ _
      | exact laws_likeInts.mono _ _ _
      | exact laws_sum.mono _ _
      | exact spec_DrawIsAmount.mono _ _
      | exact spec_DrawProportionOf.mono _ _
      | exact spec_DrawSumAmounts.mono _ _
      | exact spec_DrawTakeDown.mono _ _
      | exact spec_ProportionOf.mono _ _ _ _
      | exact spec_SumAmounts.mono _ _
      | exact spec_TakeDown.mono _ _ _
      | exact LeO.none _
      | refine LeO.ite ?_ ?_
      | refine LeO.bind ?_ (fun _ => ?_)
theorem laws_FnProportions.mono : ∀ a0 k, LeO (laws_FnProportions.f k a0) (laws_FnProportions.f (k + 1) a0) := by
  intro a0 k
  obtain ⟨ih0, ih1⟩ := laws_FnProportions.mono_l k
  unfold laws_FnProportions.f
  repeat' first
      | (with_reducible exact ih0 _ _ _ _ _ _ _ _ _ _)
      | (with_reducible exact ih1 _ _ _ _ _ _)
      | (with_reducible exact impl_ProportionOf.mono _ _ _ _)
      | (with_reducible exact impl_SumAmounts.mono _ _)
      | (with_reducible exact impl_TakeDown.mono _ _ _)
      | (with_reducible exact laws_likeInts.mono _ _ _)
      | (with_reducible exact laws_sum.mono _ _)
      | (with_reducible exact spec_DrawIsAmount.mono _ _)
      | (with_reducible exact spec_DrawProportionOf.mono _ _)
      | (with_reducible exact spec_DrawSumAmounts.mono _ _)
      | (with_reducible exact spec_DrawTakeDown.mono _ _)
      | (with_reducible exact spec_ProportionOf.mono _ _ _ _)
      | (with_reducible exact spec_SumAmounts.mono _ _)
      | (with_reducible exact spec_TakeDown.mono _ _ _)
      | (with_reducible exact LeO.refl _)
      | (with_reducible exact LeO.none _)
      | (with_reducible refine LeO.ite ?_ ?_)
      | (with_reducible refine LeO.bind ?_ (fun _ => ?_))
      | exact ih0 _ _ _ _ _ _ _ _ _ _
      | exact ih1 _ _ _ _ _ _
      | exact impl_ProportionOf.mono _ _ _ _
      | exact impl_SumAmounts.mono _ _
      | exact impl_TakeDown.mono _ _ _
      | exact laws_likeInts.mono _ _ _
      | exact laws_sum.mono _ _
      | exact spec_DrawIsAmount.mono _ _
      | exact spec_DrawProportionOf.mono _ _
      | exact spec_DrawSumAmounts.mono _ _
      | exact spec_DrawTakeDown.mono _ _
      | exact spec_ProportionOf.mono _ _ _ _
      | exact spec_SumAmounts.mono _ _
      | exact spec_TakeDown.mono _ _ _
      | exact LeO.none _
      | refine LeO.ite ?_ ?_
      | refine LeO.bind ?_ (fun _ => ?_)
set_option maxHeartbeats 8000000 in
set_option maxRecDepth 100000 in
theorem laws_FnProportions.calls (k : Nat) (A0 : Option Addr) (c0 : Nat) (l0 : List Int) (r : Bool) (w : World) (hr0 : Kd.C (Kd.int .u8) w A0 l0.length l0) (hc0 : l0.length ≤ c0) (h : laws_FnProportions.f k l0 = some r) :
    Calls Try.prog 3 #[.slice A0 l0.length c0] w fun e w' => e = .returned (.bool r) ∧ Below w.heap.size w w' := by
  have HR0 := Aside0.mk hr0
  have HC0 := Aside0.mk hc0
  clear hr0 hc0
  have HB := Aside0.mk (Below.refl w.heap.size w)
  have H : ((laws_big.f l0).bind fun t293 => (if t293 = true then (some true) else ((spec_DrawProportionOf.f k l0).bind fun bt294 => ((impl_ProportionOf.f k bt294.1 bt294.2.1 bt294.2.2).bind fun bt297 => ((spec_ProportionOf.f k bt294.1 bt294.2.1 bt294.2.2).bind fun bt299 => ((spec_DrawTakeDown.f k l0).bind fun bt301 => ((impl_TakeDown.f k bt301.1 bt301.2).bind fun bt305 => ((spec_TakeDown.f k bt301.1 bt301.2).bind fun bt309 => ((spec_DrawSumAmounts.f k l0).bind fun t313 => ((impl_SumAmounts.f k t313).bind fun bt316 => ((spec_SumAmounts.f k t313).bind fun bt318 => ((spec_DrawIsAmount.f k l0).bind fun t320 => (if bt297.2 = bt299.2 then (if bt297.1 = bt299.1 then (if bt305.2 = bt309.2 then ((laws_likeInts.f k bt305.1 bt309.1).bind fun t321 => (if t321 = true then (if bt316.2 = bt318.2 then (if bt316.1 = bt318.1 then ((impl_IsAmount.f t320).bind fun t322 => ((spec_IsAmount.f t320).bind fun t323 => (laws_FnProportions.j0 k bt294.1 bt294.2.1 bt294.2.2 bt297.1 bt297.2 bt301.1 bt301.2 bt305.1 bt305.2 (t322 != t323)))) else (laws_FnProportions.j0 k bt294.1 bt294.2.1 bt294.2.2 bt297.1 bt297.2 bt301.1 bt301.2 bt305.1 bt305.2 true)) else (laws_FnProportions.j0 k bt294.1 bt294.2.1 bt294.2.2 bt297.1 bt297.2 bt301.1 bt301.2 bt305.1 bt305.2 true)) else (laws_FnProportions.j0 k bt294.1 bt294.2.1 bt294.2.2 bt297.1 bt297.2 bt301.1 bt301.2 bt305.1 bt305.2 true))) else (laws_FnProportions.j0 k bt294.1 bt294.2.1 bt294.2.2 bt297.1 bt297.2 bt301.1 bt301.2 bt305.1 bt305.2 true)) else (laws_FnProportions.j0 k bt294.1 bt294.2.1 bt294.2.2 bt297.1 bt297.2 bt301.1 bt301.2 bt305.1 bt305.2 true)) else (laws_FnProportions.j0 k bt294.1 bt294.2.1 bt294.2.2 bt297.1 bt297.2 bt301.1 bt301.2 bt305.1 bt305.2 true)))))))))))))) = some r := h
  clear h
  replace H := Option.bind_eq_some_iff.mp H
  obtain ⟨t293, A20, H⟩ := H
  replace H : (if t293 = true then (some true) else ((spec_DrawProportionOf.f k l0).bind fun bt294 => ((impl_ProportionOf.f k bt294.1 bt294.2.1 bt294.2.2).bind fun bt297 => ((spec_ProportionOf.f k bt294.1 bt294.2.1 bt294.2.2).bind fun bt299 => ((spec_DrawTakeDown.f k l0).bind fun bt301 => ((impl_TakeDown.f k bt301.1 bt301.2).bind fun bt305 => ((spec_TakeDown.f k bt301.1 bt301.2).bind fun bt309 => ((spec_DrawSumAmounts.f k l0).bind fun t313 => ((impl_SumAmounts.f k t313).bind fun bt316 => ((spec_SumAmounts.f k t313).bind fun bt318 => ((spec_DrawIsAmount.f k l0).bind fun t320 => (if bt297.2 = bt299.2 then (if bt297.1 = bt299.1 then (if bt305.2 = bt309.2 then ((laws_likeInts.f k bt305.1 bt309.1).bind fun t321 => (if t321 = true then (if bt316.2 = bt318.2 then (if bt316.1 = bt318.1 then ((impl_IsAmount.f t320).bind fun t322 => ((spec_IsAmount.f t320).bind fun t323 => (laws_FnProportions.j0 k bt294.1 bt294.2.1 bt294.2.2 bt297.1 bt297.2 bt301.1 bt301.2 bt305.1 bt305.2 (t322 != t323)))) else (laws_FnProportions.j0 k bt294.1 bt294.2.1 bt294.2.2 bt297.1 bt297.2 bt301.1 bt301.2 bt305.1 bt305.2 true)) else (laws_FnProportions.j0 k bt294.1 bt294.2.1 bt294.2.2 bt297.1 bt297.2 bt301.1 bt301.2 bt305.1 bt305.2 true)) else (laws_FnProportions.j0 k bt294.1 bt294.2.1 bt294.2.2 bt297.1 bt297.2 bt301.1 bt301.2 bt305.1 bt305.2 true))) else (laws_FnProportions.j0 k bt294.1 bt294.2.1 bt294.2.2 bt297.1 bt297.2 bt301.1 bt301.2 bt305.1 bt305.2 true)) else (laws_FnProportions.j0 k bt294.1 bt294.2.1 bt294.2.2 bt297.1 bt297.2 bt301.1 bt301.2 bt305.1 bt305.2 true)) else (laws_FnProportions.j0 k bt294.1 bt294.2.1 bt294.2.2 bt297.1 bt297.2 bt301.1 bt301.2 bt305.1 bt305.2 true))))))))))))) = some r := H
  have A2 := Aside0.mk A20
  clear A20
  by_cases c3 : t293 = true
  · subst c3
    have H1 : (some true) = some r := by rw [if_pos rfl] at H; exact H
    clear H
    have H := H1
    clear H1
    obtain rfl := Option.some.inj H
    go_enter Try.func3, Try.ntmps3
    go_wp2_with (first | ((with_reducible refine gate_callee (f := 14) rfl ?_); refine goesL_ (some 23) rfl rfl Try.func14 (by kernel_rfl) rfl #[.slice A0 l0.length c0] rfl (by (try simp only [List.map_toArray, List.map_cons, List.map_nil]); first | done | rfl | (simp only [List.length_drop, List.length_take]; rfl)) ?_; (with_reducible refine (laws_big.calls _ _ l0 true _ ?side1 ?side2 A2.out).mono ?_); (case side1 => repeat (first | exact HR0.out | (with_reducible refine Kd.C_alloc ?_ _) | (with_reducible refine Kd.C_drewN ?_ _) | (with_reducible refine Kd.C_drew ?_))); (case side2 => exact HC0.out); rintro e w' ⟨rfl, ⟨nd, rfl⟩⟩; refine ⟨_, rfl, ?_⟩))
    go_ret
    exact ⟨by first | rfl | (simp [errW_none, errW_some] <;> rfl) | (simp [*, errW_none, errW_some] <;> rfl), by repeat (first | (with_reducible first | exact HB.out | apply below_alloc | apply pw_below_drewN | apply below_drew1) | exact HB.out)⟩
  · replace c3 := Bool.eq_false_iff.mpr c3
    subst c3
    have H1 : ((spec_DrawProportionOf.f k l0).bind fun bt294 => ((impl_ProportionOf.f k bt294.1 bt294.2.1 bt294.2.2).bind fun bt297 => ((spec_ProportionOf.f k bt294.1 bt294.2.1 bt294.2.2).bind fun bt299 => ((spec_DrawTakeDown.f k l0).bind fun bt301 => ((impl_TakeDown.f k bt301.1 bt301.2).bind fun bt305 => ((spec_TakeDown.f k bt301.1 bt301.2).bind fun bt309 => ((spec_DrawSumAmounts.f k l0).bind fun t313 => ((impl_SumAmounts.f k t313).bind fun bt316 => ((spec_SumAmounts.f k t313).bind fun bt318 => ((spec_DrawIsAmount.f k l0).bind fun t320 => (if bt297.2 = bt299.2 then (if bt297.1 = bt299.1 then (if bt305.2 = bt309.2 then ((laws_likeInts.f k bt305.1 bt309.1).bind fun t321 => (if t321 = true then (if bt316.2 = bt318.2 then (if bt316.1 = bt318.1 then ((impl_IsAmount.f t320).bind fun t322 => ((spec_IsAmount.f t320).bind fun t323 => (laws_FnProportions.j0 k bt294.1 bt294.2.1 bt294.2.2 bt297.1 bt297.2 bt301.1 bt301.2 bt305.1 bt305.2 (t322 != t323)))) else (laws_FnProportions.j0 k bt294.1 bt294.2.1 bt294.2.2 bt297.1 bt297.2 bt301.1 bt301.2 bt305.1 bt305.2 true)) else (laws_FnProportions.j0 k bt294.1 bt294.2.1 bt294.2.2 bt297.1 bt297.2 bt301.1 bt301.2 bt305.1 bt305.2 true)) else (laws_FnProportions.j0 k bt294.1 bt294.2.1 bt294.2.2 bt297.1 bt297.2 bt301.1 bt301.2 bt305.1 bt305.2 true))) else (laws_FnProportions.j0 k bt294.1 bt294.2.1 bt294.2.2 bt297.1 bt297.2 bt301.1 bt301.2 bt305.1 bt305.2 true)) else (laws_FnProportions.j0 k bt294.1 bt294.2.1 bt294.2.2 bt297.1 bt297.2 bt301.1 bt301.2 bt305.1 bt305.2 true)) else (laws_FnProportions.j0 k bt294.1 bt294.2.1 bt294.2.2 bt297.1 bt297.2 bt301.1 bt301.2 bt305.1 bt305.2 true)))))))))))) = some r := by rw [if_neg (show ¬ (false = true) by decide)] at H; exact H
    clear H
    have H := H1
    clear H1
    replace H := Option.bind_eq_some_iff.mp H
    obtain ⟨⟨t294, t295, t296⟩, A40, H⟩ := H
    replace H : ((impl_ProportionOf.f k t294 t295 t296).bind fun bt297 => ((spec_ProportionOf.f k t294 t295 t296).bind fun bt299 => ((spec_DrawTakeDown.f k l0).bind fun bt301 => ((impl_TakeDown.f k bt301.1 bt301.2).bind fun bt305 => ((spec_TakeDown.f k bt301.1 bt301.2).bind fun bt309 => ((spec_DrawSumAmounts.f k l0).bind fun t313 => ((impl_SumAmounts.f k t313).bind fun bt316 => ((spec_SumAmounts.f k t313).bind fun bt318 => ((spec_DrawIsAmount.f k l0).bind fun t320 => (if bt297.2 = bt299.2 then (if bt297.1 = bt299.1 then (if bt305.2 = bt309.2 then ((laws_likeInts.f k bt305.1 bt309.1).bind fun t321 => (if t321 = true then (if bt316.2 = bt318.2 then (if bt316.1 = bt318.1 then ((impl_IsAmount.f t320).bind fun t322 => ((spec_IsAmount.f t320).bind fun t323 => (laws_FnProportions.j0 k t294 t295 t296 bt297.1 bt297.2 bt301.1 bt301.2 bt305.1 bt305.2 (t322 != t323)))) else (laws_FnProportions.j0 k t294 t295 t296 bt297.1 bt297.2 bt301.1 bt301.2 bt305.1 bt305.2 true)) else (laws_FnProportions.j0 k t294 t295 t296 bt297.1 bt297.2 bt301.1 bt301.2 bt305.1 bt305.2 true)) else (laws_FnProportions.j0 k t294 t295 t296 bt297.1 bt297.2 bt301.1 bt301.2 bt305.1 bt305.2 true))) else (laws_FnProportions.j0 k t294 t295 t296 bt297.1 bt297.2 bt301.1 bt301.2 bt305.1 bt305.2 true)) else (laws_FnProportions.j0 k t294 t295 t296 bt297.1 bt297.2 bt301.1 bt301.2 bt305.1 bt305.2 true)) else (laws_FnProportions.j0 k t294 t295 t296 bt297.1 bt297.2 bt301.1 bt301.2 bt305.1 bt305.2 true))))))))))) = some r := H
    have A4 := Aside0.mk A40
    clear A40
    replace H := Option.bind_eq_some_iff.mp H
    obtain ⟨⟨t297, t298⟩, A50, H⟩ := H
    replace H : ((spec_ProportionOf.f k t294 t295 t296).bind fun bt299 => ((spec_DrawTakeDown.f k l0).bind fun bt301 => ((impl_TakeDown.f k bt301.1 bt301.2).bind fun bt305 => ((spec_TakeDown.f k bt301.1 bt301.2).bind fun bt309 => ((spec_DrawSumAmounts.f k l0).bind fun t313 => ((impl_SumAmounts.f k t313).bind fun bt316 => ((spec_SumAmounts.f k t313).bind fun bt318 => ((spec_DrawIsAmount.f k l0).bind fun t320 => (if t298 = bt299.2 then (if t297 = bt299.1 then (if bt305.2 = bt309.2 then ((laws_likeInts.f k bt305.1 bt309.1).bind fun t321 => (if t321 = true then (if bt316.2 = bt318.2 then (if bt316.1 = bt318.1 then ((impl_IsAmount.f t320).bind fun t322 => ((spec_IsAmount.f t320).bind fun t323 => (laws_FnProportions.j0 k t294 t295 t296 t297 t298 bt301.1 bt301.2 bt305.1 bt305.2 (t322 != t323)))) else (laws_FnProportions.j0 k t294 t295 t296 t297 t298 bt301.1 bt301.2 bt305.1 bt305.2 true)) else (laws_FnProportions.j0 k t294 t295 t296 t297 t298 bt301.1 bt301.2 bt305.1 bt305.2 true)) else (laws_FnProportions.j0 k t294 t295 t296 t297 t298 bt301.1 bt301.2 bt305.1 bt305.2 true))) else (laws_FnProportions.j0 k t294 t295 t296 t297 t298 bt301.1 bt301.2 bt305.1 bt305.2 true)) else (laws_FnProportions.j0 k t294 t295 t296 t297 t298 bt301.1 bt301.2 bt305.1 bt305.2 true)) else (laws_FnProportions.j0 k t294 t295 t296 t297 t298 bt301.1 bt301.2 bt305.1 bt305.2 true)))))))))) = some r := H
    have A5 := Aside0.mk A50
    clear A50
    replace H := Option.bind_eq_some_iff.mp H
    obtain ⟨⟨t299, t300⟩, A60, H⟩ := H
    replace H : ((spec_DrawTakeDown.f k l0).bind fun bt301 => ((impl_TakeDown.f k bt301.1 bt301.2).bind fun bt305 => ((spec_TakeDown.f k bt301.1 bt301.2).bind fun bt309 => ((spec_DrawSumAmounts.f k l0).bind fun t313 => ((impl_SumAmounts.f k t313).bind fun bt316 => ((spec_SumAmounts.f k t313).bind fun bt318 => ((spec_DrawIsAmount.f k l0).bind fun t320 => (if t298 = t300 then (if t297 = t299 then (if bt305.2 = bt309.2 then ((laws_likeInts.f k bt305.1 bt309.1).bind fun t321 => (if t321 = true then (if bt316.2 = bt318.2 then (if bt316.1 = bt318.1 then ((impl_IsAmount.f t320).bind fun t322 => ((spec_IsAmount.f t320).bind fun t323 => (laws_FnProportions.j0 k t294 t295 t296 t297 t298 bt301.1 bt301.2 bt305.1 bt305.2 (t322 != t323)))) else (laws_FnProportions.j0 k t294 t295 t296 t297 t298 bt301.1 bt301.2 bt305.1 bt305.2 true)) else (laws_FnProportions.j0 k t294 t295 t296 t297 t298 bt301.1 bt301.2 bt305.1 bt305.2 true)) else (laws_FnProportions.j0 k t294 t295 t296 t297 t298 bt301.1 bt301.2 bt305.1 bt305.2 true))) else (laws_FnProportions.j0 k t294 t295 t296 t297 t298 bt301.1 bt301.2 bt305.1 bt305.2 true)) else (laws_FnProportions.j0 k t294 t295 t296 t297 t298 bt301.1 bt301.2 bt305.1 bt305.2 true)) else (laws_FnProportions.j0 k t294 t295 t296 t297 t298 bt301.1 bt301.2 bt305.1 bt305.2 true))))))))) = some r := H
    have A6 := Aside0.mk A60
    clear A60
    replace H := Option.bind_eq_some_iff.mp H
    obtain ⟨⟨t301, t302⟩, A70, H⟩ := H
    replace H : ((impl_TakeDown.f k t301 t302).bind fun bt305 => ((spec_TakeDown.f k t301 t302).bind fun bt309 => ((spec_DrawSumAmounts.f k l0).bind fun t313 => ((impl_SumAmounts.f k t313).bind fun bt316 => ((spec_SumAmounts.f k t313).bind fun bt318 => ((spec_DrawIsAmount.f k l0).bind fun t320 => (if t298 = t300 then (if t297 = t299 then (if bt305.2 = bt309.2 then ((laws_likeInts.f k bt305.1 bt309.1).bind fun t321 => (if t321 = true then (if bt316.2 = bt318.2 then (if bt316.1 = bt318.1 then ((impl_IsAmount.f t320).bind fun t322 => ((spec_IsAmount.f t320).bind fun t323 => (laws_FnProportions.j0 k t294 t295 t296 t297 t298 t301 t302 bt305.1 bt305.2 (t322 != t323)))) else (laws_FnProportions.j0 k t294 t295 t296 t297 t298 t301 t302 bt305.1 bt305.2 true)) else (laws_FnProportions.j0 k t294 t295 t296 t297 t298 t301 t302 bt305.1 bt305.2 true)) else (laws_FnProportions.j0 k t294 t295 t296 t297 t298 t301 t302 bt305.1 bt305.2 true))) else (laws_FnProportions.j0 k t294 t295 t296 t297 t298 t301 t302 bt305.1 bt305.2 true)) else (laws_FnProportions.j0 k t294 t295 t296 t297 t298 t301 t302 bt305.1 bt305.2 true)) else (laws_FnProportions.j0 k t294 t295 t296 t297 t298 t301 t302 bt305.1 bt305.2 true)))))))) = some r := H
    have A7 := Aside0.mk A70
    clear A70
    replace H := Option.bind_eq_some_iff.mp H
    obtain ⟨⟨t305, t306⟩, A80, H⟩ := H
    replace H : ((spec_TakeDown.f k t301 t302).bind fun bt309 => ((spec_DrawSumAmounts.f k l0).bind fun t313 => ((impl_SumAmounts.f k t313).bind fun bt316 => ((spec_SumAmounts.f k t313).bind fun bt318 => ((spec_DrawIsAmount.f k l0).bind fun t320 => (if t298 = t300 then (if t297 = t299 then (if t306 = bt309.2 then ((laws_likeInts.f k t305 bt309.1).bind fun t321 => (if t321 = true then (if bt316.2 = bt318.2 then (if bt316.1 = bt318.1 then ((impl_IsAmount.f t320).bind fun t322 => ((spec_IsAmount.f t320).bind fun t323 => (laws_FnProportions.j0 k t294 t295 t296 t297 t298 t301 t302 t305 t306 (t322 != t323)))) else (laws_FnProportions.j0 k t294 t295 t296 t297 t298 t301 t302 t305 t306 true)) else (laws_FnProportions.j0 k t294 t295 t296 t297 t298 t301 t302 t305 t306 true)) else (laws_FnProportions.j0 k t294 t295 t296 t297 t298 t301 t302 t305 t306 true))) else (laws_FnProportions.j0 k t294 t295 t296 t297 t298 t301 t302 t305 t306 true)) else (laws_FnProportions.j0 k t294 t295 t296 t297 t298 t301 t302 t305 t306 true)) else (laws_FnProportions.j0 k t294 t295 t296 t297 t298 t301 t302 t305 t306 true))))))) = some r := H
    have A8 := Aside0.mk A80
    clear A80
    replace H := Option.bind_eq_some_iff.mp H
    obtain ⟨⟨t309, t310⟩, A90, H⟩ := H
    replace H : ((spec_DrawSumAmounts.f k l0).bind fun t313 => ((impl_SumAmounts.f k t313).bind fun bt316 => ((spec_SumAmounts.f k t313).bind fun bt318 => ((spec_DrawIsAmount.f k l0).bind fun t320 => (if t298 = t300 then (if t297 = t299 then (if t306 = t310 then ((laws_likeInts.f k t305 t309).bind fun t321 => (if t321 = true then (if bt316.2 = bt318.2 then (if bt316.1 = bt318.1 then ((impl_IsAmount.f t320).bind fun t322 => ((spec_IsAmount.f t320).bind fun t323 => (laws_FnProportions.j0 k t294 t295 t296 t297 t298 t301 t302 t305 t306 (t322 != t323)))) else (laws_FnProportions.j0 k t294 t295 t296 t297 t298 t301 t302 t305 t306 true)) else (laws_FnProportions.j0 k t294 t295 t296 t297 t298 t301 t302 t305 t306 true)) else (laws_FnProportions.j0 k t294 t295 t296 t297 t298 t301 t302 t305 t306 true))) else (laws_FnProportions.j0 k t294 t295 t296 t297 t298 t301 t302 t305 t306 true)) else (laws_FnProportions.j0 k t294 t295 t296 t297 t298 t301 t302 t305 t306 true)) else (laws_FnProportions.j0 k t294 t295 t296 t297 t298 t301 t302 t305 t306 true)))))) = some r := H
    have A9 := Aside0.mk A90
    clear A90
    replace H := Option.bind_eq_some_iff.mp H
    obtain ⟨t313, A100, H⟩ := H
    replace H : ((impl_SumAmounts.f k t313).bind fun bt316 => ((spec_SumAmounts.f k t313).bind fun bt318 => ((spec_DrawIsAmount.f k l0).bind fun t320 => (if t298 = t300 then (if t297 = t299 then (if t306 = t310 then ((laws_likeInts.f k t305 t309).bind fun t321 => (if t321 = true then (if bt316.2 = bt318.2 then (if bt316.1 = bt318.1 then ((impl_IsAmount.f t320).bind fun t322 => ((spec_IsAmount.f t320).bind fun t323 => (laws_FnProportions.j0 k t294 t295 t296 t297 t298 t301 t302 t305 t306 (t322 != t323)))) else (laws_FnProportions.j0 k t294 t295 t296 t297 t298 t301 t302 t305 t306 true)) else (laws_FnProportions.j0 k t294 t295 t296 t297 t298 t301 t302 t305 t306 true)) else (laws_FnProportions.j0 k t294 t295 t296 t297 t298 t301 t302 t305 t306 true))) else (laws_FnProportions.j0 k t294 t295 t296 t297 t298 t301 t302 t305 t306 true)) else (laws_FnProportions.j0 k t294 t295 t296 t297 t298 t301 t302 t305 t306 true)) else (laws_FnProportions.j0 k t294 t295 t296 t297 t298 t301 t302 t305 t306 true))))) = some r := H
    have A10 := Aside0.mk A100
    clear A100
    replace H := Option.bind_eq_some_iff.mp H
    obtain ⟨⟨t316, t317⟩, A110, H⟩ := H
    replace H : ((spec_SumAmounts.f k t313).bind fun bt318 => ((spec_DrawIsAmount.f k l0).bind fun t320 => (if t298 = t300 then (if t297 = t299 then (if t306 = t310 then ((laws_likeInts.f k t305 t309).bind fun t321 => (if t321 = true then (if t317 = bt318.2 then (if t316 = bt318.1 then ((impl_IsAmount.f t320).bind fun t322 => ((spec_IsAmount.f t320).bind fun t323 => (laws_FnProportions.j0 k t294 t295 t296 t297 t298 t301 t302 t305 t306 (t322 != t323)))) else (laws_FnProportions.j0 k t294 t295 t296 t297 t298 t301 t302 t305 t306 true)) else (laws_FnProportions.j0 k t294 t295 t296 t297 t298 t301 t302 t305 t306 true)) else (laws_FnProportions.j0 k t294 t295 t296 t297 t298 t301 t302 t305 t306 true))) else (laws_FnProportions.j0 k t294 t295 t296 t297 t298 t301 t302 t305 t306 true)) else (laws_FnProportions.j0 k t294 t295 t296 t297 t298 t301 t302 t305 t306 true)) else (laws_FnProportions.j0 k t294 t295 t296 t297 t298 t301 t302 t305 t306 true)))) = some r := H
    have A11 := Aside0.mk A110
    clear A110
    replace H := Option.bind_eq_some_iff.mp H
    obtain ⟨⟨t318, t319⟩, A120, H⟩ := H
    replace H : ((spec_DrawIsAmount.f k l0).bind fun t320 => (if t298 = t300 then (if t297 = t299 then (if t306 = t310 then ((laws_likeInts.f k t305 t309).bind fun t321 => (if t321 = true then (if t317 = t319 then (if t316 = t318 then ((impl_IsAmount.f t320).bind fun t322 => ((spec_IsAmount.f t320).bind fun t323 => (laws_FnProportions.j0 k t294 t295 t296 t297 t298 t301 t302 t305 t306 (t322 != t323)))) else (laws_FnProportions.j0 k t294 t295 t296 t297 t298 t301 t302 t305 t306 true)) else (laws_FnProportions.j0 k t294 t295 t296 t297 t298 t301 t302 t305 t306 true)) else (laws_FnProportions.j0 k t294 t295 t296 t297 t298 t301 t302 t305 t306 true))) else (laws_FnProportions.j0 k t294 t295 t296 t297 t298 t301 t302 t305 t306 true)) else (laws_FnProportions.j0 k t294 t295 t296 t297 t298 t301 t302 t305 t306 true)) else (laws_FnProportions.j0 k t294 t295 t296 t297 t298 t301 t302 t305 t306 true))) = some r := H
    have A12 := Aside0.mk A120
    clear A120
    replace H := Option.bind_eq_some_iff.mp H
    obtain ⟨t320, A130, H⟩ := H
    replace H : (if t298 = t300 then (if t297 = t299 then (if t306 = t310 then ((laws_likeInts.f k t305 t309).bind fun t321 => (if t321 = true then (if t317 = t319 then (if t316 = t318 then ((impl_IsAmount.f t320).bind fun t322 => ((spec_IsAmount.f t320).bind fun t323 => (laws_FnProportions.j0 k t294 t295 t296 t297 t298 t301 t302 t305 t306 (t322 != t323)))) else (laws_FnProportions.j0 k t294 t295 t296 t297 t298 t301 t302 t305 t306 true)) else (laws_FnProportions.j0 k t294 t295 t296 t297 t298 t301 t302 t305 t306 true)) else (laws_FnProportions.j0 k t294 t295 t296 t297 t298 t301 t302 t305 t306 true))) else (laws_FnProportions.j0 k t294 t295 t296 t297 t298 t301 t302 t305 t306 true)) else (laws_FnProportions.j0 k t294 t295 t296 t297 t298 t301 t302 t305 t306 true)) else (laws_FnProportions.j0 k t294 t295 t296 t297 t298 t301 t302 t305 t306 true)) = some r := H
    have A13 := Aside0.mk A130
    clear A130
    have HC14 := Aside0.mk H
    clear H
    go_enter Try.func3, Try.ntmps3
    go_upto_region 13 with (first | ((with_reducible refine gate_callee (f := 14) rfl ?_); refine goesL_ (some 23) rfl rfl Try.func14 (by kernel_rfl) rfl #[.slice A0 l0.length c0] rfl (by (try simp only [List.map_toArray, List.map_cons, List.map_nil]); first | done | rfl | (simp only [List.length_drop, List.length_take]; rfl)) ?_; (with_reducible refine (laws_big.calls _ _ l0 false _ ?side1 ?side2 A2.out).mono ?_); (case side1 => repeat (first | exact HR0.out | (with_reducible refine Kd.C_alloc ?_ _) | (with_reducible refine Kd.C_drewN ?_ _) | (with_reducible refine Kd.C_drew ?_))); (case side2 => exact HC0.out); rintro e w' ⟨rfl, ⟨nd, rfl⟩⟩; refine ⟨_, rfl, ?_⟩) | ((with_reducible refine gate_callee (f := 15) rfl ?_); refine goesL_ (some 26) rfl rfl Try.func15 (by kernel_rfl) rfl #[.slice A0 l0.length c0] rfl (by (try simp only [List.map_toArray, List.map_cons, List.map_nil]); first | done | rfl | (simp only [List.length_drop, List.length_take]; rfl)) ?_; (with_reducible refine (spec_DrawProportionOf.calls k _ _ l0 t294 t295 t296 _ ?side1 ?side2 A4.out).mono ?_); (case side1 => repeat (first | exact HR0.out | (with_reducible refine Kd.C_alloc ?_ _) | (with_reducible refine Kd.C_drewN ?_ _) | (with_reducible refine Kd.C_drew ?_))); (case side2 => exact HC0.out); rintro e w15 ⟨rfl, hb⟩; refine ⟨_, rfl, ?_⟩; have n0_ := Aside0.mk (below_step (by repeat (first | (with_reducible first | exact HB.out | apply below_alloc | apply pw_below_drewN | apply below_drew1) | exact HB.out)) hb); clear HB; have HB := n0_; clear n0_; (try clear hb); (try clear hb2); (try clear hk); (try clear hi)) | ((with_reducible refine gate_callee (f := 16) rfl ?_); refine goesL_ (some 34) rfl rfl Try.func16 (by kernel_rfl) rfl #[.int .i64 t294, .int .i64 t295, .int .i64 t296] rfl (by (try simp only [List.map_toArray, List.map_cons, List.map_nil]); first | done | rfl | (simp only [List.length_drop, List.length_take]; rfl)) ?_; (with_reducible refine (impl_ProportionOf.calls k t294 t295 t296 t297 t298 _ A5.out).mono ?_); rintro e w' ⟨rfl, ⟨nd, rfl⟩⟩; refine ⟨_, rfl, ?_⟩) | ((with_reducible refine gate_callee (f := 17) rfl ?_); refine goesL_ (some 41) rfl rfl Try.func17 (by kernel_rfl) rfl #[.int .i64 t294, .int .i64 t295, .int .i64 t296] rfl (by (try simp only [List.map_toArray, List.map_cons, List.map_nil]); first | done | rfl | (simp only [List.length_drop, List.length_take]; rfl)) ?_; (with_reducible refine (spec_ProportionOf.calls k t294 t295 t296 t299 t300 _ A6.out).mono ?_); rintro e w' ⟨rfl, ⟨nd, rfl⟩⟩; refine ⟨_, rfl, ?_⟩) | ((with_reducible refine gate_callee (f := 18) rfl ?_); refine goesL_ (some 46) rfl rfl Try.func18 (by kernel_rfl) rfl #[.slice A0 l0.length c0] rfl (by (try simp only [List.map_toArray, List.map_cons, List.map_nil]); first | done | rfl | (simp only [List.length_drop, List.length_take]; rfl)) ?_; (with_reducible refine (spec_DrawTakeDown.calls k _ _ l0 t301 t302 _ ?side1 ?side2 A7.out).mono ?_); (case side1 => repeat (first | exact (Kd.C_below HR0.out (by repeat (first | (with_reducible first | exact HB.out | apply below_alloc | apply pw_below_drewN | apply below_drew1) | exact HB.out))) | (with_reducible refine Kd.C_alloc ?_ _) | (with_reducible refine Kd.C_drewN ?_ _) | (with_reducible refine Kd.C_drew ?_))); (case side2 => exact HC0.out); rintro e w16 ⟨v303, rfl, ho0, hb⟩; refine ⟨_, rfl, ?_⟩; have n0_ := Aside0.mk (Kd.R_lower ho0 (below_size (by repeat (first | (with_reducible first | exact HB.out | apply below_alloc | apply pw_below_drewN | apply below_drew1) | exact HB.out)))); have n1_ := Aside0.mk (below_step (by repeat (first | (with_reducible first | exact HB.out | apply below_alloc | apply pw_below_drewN | apply below_drew1) | exact HB.out)) hb); clear HB; have HO304 := n0_; have HB := n1_; clear n0_ n1_; (try clear hb); (try clear hb2); (try clear hk); (try clear hi); (try clear ho0); obtain ⟨Ao17, co17, eo17⟩ := Kd.R_slice HO304.out; subst eo17) | ((with_reducible refine gate_callee (f := 19) rfl ?_); refine goesL_ (some 52) rfl rfl Try.func19 (by kernel_rfl) rfl #[.int .i64 t301, .slice Ao17 t302.length co17] rfl (by (try simp only [List.map_toArray, List.map_cons, List.map_nil]); first | done | rfl | (simp only [List.length_drop, List.length_take]; rfl)) ?_; (with_reducible refine (impl_TakeDown.calls k t301 _ _ t302 t305 t306 _ ?side1 ?side2 A8.out).mono ?_); (case side1 => repeat (first | exact (Kd.R_reads' HO304.out).2.2 | (with_reducible refine Kd.C_alloc ?_ _) | (with_reducible refine Kd.C_drewN ?_ _) | (with_reducible refine Kd.C_drew ?_))); (case side2 => exact (Kd.R_reads' HO304.out).2.1); rintro e w18 ⟨v307, rfl, ho0, hb⟩; refine ⟨_, rfl, ?_⟩; have n0_ := Aside0.mk (Kd.R_elder' (by (with_reducible repeat (first | apply Kd.R_alloc | apply Kd.R_drewN | apply Kd.R_drew)); exact HO304.out) (Kd.R_base ho0) hb); have n1_ := Aside0.mk (Kd.R_lower (Kd.R_new' ho0 (Kd.R_lt (by (with_reducible repeat (first | apply Kd.R_alloc | apply Kd.R_drewN | apply Kd.R_drew)); exact HO304.out))) (below_size (by repeat (first | (with_reducible first | exact HB.out | apply below_alloc | apply pw_below_drewN | apply below_drew1) | exact HB.out)))); have n2_ := Aside0.mk (below_step (by repeat (first | (with_reducible first | exact HB.out | apply below_alloc | apply pw_below_drewN | apply below_drew1) | exact HB.out)) hb); clear HO304; clear HB; have HO304 := n0_; have HO308 := n1_; have HB := n2_; clear n0_ n1_ n2_; (try clear hb); (try clear hb2); (try clear hk); (try clear hi); (try clear ho0)) | ((with_reducible refine gate_callee (f := 20) rfl ?_); refine goesL_ (some 58) rfl rfl Try.func20 (by kernel_rfl) rfl #[.int .i64 t301, .slice Ao17 t302.length co17] rfl (by (try simp only [List.map_toArray, List.map_cons, List.map_nil]); first | done | rfl | (simp only [List.length_drop, List.length_take]; rfl)) ?_; (with_reducible refine (spec_TakeDown.calls k t301 _ _ t302 t309 t310 _ ?side1 ?side2 A9.out).mono ?_); (case side1 => repeat (first | exact (Kd.R_reads' HO304.out).2.2 | (with_reducible refine Kd.C_alloc ?_ _) | (with_reducible refine Kd.C_drewN ?_ _) | (with_reducible refine Kd.C_drew ?_))); (case side2 => exact (Kd.R_reads' HO304.out).2.1); rintro e w19 ⟨v311, rfl, ho0, hb⟩; refine ⟨_, rfl, ?_⟩; have n0_ := Aside0.mk (Kd.R_elder' (by (with_reducible repeat (first | apply Kd.R_alloc | apply Kd.R_drewN | apply Kd.R_drew)); exact HO304.out) (Kd.R_base ho0) hb); have n1_ := Aside0.mk (Kd.R_elder' (by (with_reducible repeat (first | apply Kd.R_alloc | apply Kd.R_drewN | apply Kd.R_drew)); exact HO308.out) (Kd.R_base ho0) hb); have n2_ := Aside0.mk (Kd.R_lower (Kd.R_new' (Kd.R_new' ho0 (Kd.R_lt (by (with_reducible repeat (first | apply Kd.R_alloc | apply Kd.R_drewN | apply Kd.R_drew)); exact HO304.out))) (Kd.R_lt (by (with_reducible repeat (first | apply Kd.R_alloc | apply Kd.R_drewN | apply Kd.R_drew)); exact HO308.out))) (below_size (by repeat (first | (with_reducible first | exact HB.out | apply below_alloc | apply pw_below_drewN | apply below_drew1) | exact HB.out)))); have n3_ := Aside0.mk (below_step (by repeat (first | (with_reducible first | exact HB.out | apply below_alloc | apply pw_below_drewN | apply below_drew1) | exact HB.out)) hb); clear HO304; clear HO308; clear HB; have HO304 := n0_; have HO308 := n1_; have HO312 := n2_; have HB := n3_; clear n0_ n1_ n2_ n3_; (try clear hb); (try clear hb2); (try clear hk); (try clear hi); (try clear ho0)) | ((with_reducible refine gate_callee (f := 21) rfl ?_); refine goesL_ (some 62) rfl rfl Try.func21 (by kernel_rfl) rfl #[.slice A0 l0.length c0] rfl (by (try simp only [List.map_toArray, List.map_cons, List.map_nil]); first | done | rfl | (simp only [List.length_drop, List.length_take]; rfl)) ?_; (with_reducible refine (spec_DrawSumAmounts.calls k _ _ l0 t313 _ ?side1 ?side2 A10.out).mono ?_); (case side1 => repeat (first | exact (Kd.C_below HR0.out HB.out) | (with_reducible refine Kd.C_alloc ?_ _) | (with_reducible refine Kd.C_drewN ?_ _) | (with_reducible refine Kd.C_drew ?_))); (case side2 => exact HC0.out); rintro e w20 ⟨v314, rfl, ho0, hb⟩; refine ⟨_, rfl, ?_⟩; have n0_ := Aside0.mk (Kd.R_elder' (by (with_reducible repeat (first | apply Kd.R_alloc | apply Kd.R_drewN | apply Kd.R_drew)); exact HO304.out) (Kd.R_base ho0) hb); have n1_ := Aside0.mk (Kd.R_elder' (by (with_reducible repeat (first | apply Kd.R_alloc | apply Kd.R_drewN | apply Kd.R_drew)); exact HO308.out) (Kd.R_base ho0) hb); have n2_ := Aside0.mk (Kd.R_elder' (by (with_reducible repeat (first | apply Kd.R_alloc | apply Kd.R_drewN | apply Kd.R_drew)); exact HO312.out) (Kd.R_base ho0) hb); have n3_ := Aside0.mk (Kd.R_lower (Kd.R_new' (Kd.R_new' (Kd.R_new' ho0 (Kd.R_lt (by (with_reducible repeat (first | apply Kd.R_alloc | apply Kd.R_drewN | apply Kd.R_drew)); exact HO304.out))) (Kd.R_lt (by (with_reducible repeat (first | apply Kd.R_alloc | apply Kd.R_drewN | apply Kd.R_drew)); exact HO308.out))) (Kd.R_lt (by (with_reducible repeat (first | apply Kd.R_alloc | apply Kd.R_drewN | apply Kd.R_drew)); exact HO312.out))) (below_size (by repeat (first | (with_reducible first | exact HB.out | apply below_alloc | apply pw_below_drewN | apply below_drew1) | exact HB.out)))); have n4_ := Aside0.mk (below_step (by repeat (first | (with_reducible first | exact HB.out | apply below_alloc | apply pw_below_drewN | apply below_drew1) | exact HB.out)) hb); clear HO304; clear HO308; clear HO312; clear HB; have HO304 := n0_; have HO308 := n1_; have HO312 := n2_; have HO315 := n3_; have HB := n4_; clear n0_ n1_ n2_ n3_ n4_; (try clear hb); (try clear hb2); (try clear hk); (try clear hi); (try clear ho0); obtain ⟨Ao21, co21, eo21⟩ := Kd.R_slice HO315.out; subst eo21) | ((with_reducible refine gate_callee (f := 22) rfl ?_); refine goesL_ (some 65) rfl rfl Try.func22 (by kernel_rfl) rfl #[.slice Ao21 t313.length co21] rfl (by (try simp only [List.map_toArray, List.map_cons, List.map_nil]); first | done | rfl | (simp only [List.length_drop, List.length_take]; rfl)) ?_; (with_reducible refine (impl_SumAmounts.calls k _ _ t313 t316 t317 _ ?side1 ?side2 A11.out).mono ?_); (case side1 => repeat (first | exact (Kd.R_reads' HO315.out).2.2 | (with_reducible refine Kd.C_alloc ?_ _) | (with_reducible refine Kd.C_drewN ?_ _) | (with_reducible refine Kd.C_drew ?_))); (case side2 => exact (Kd.R_reads' HO315.out).2.1); rintro e w22 ⟨rfl, hb⟩; refine ⟨_, rfl, ?_⟩; have n0_ := Aside0.mk (Kd.R_below (by (with_reducible repeat (first | apply Kd.R_alloc | apply Kd.R_drewN | apply Kd.R_drew)); exact HO304.out) hb); have n1_ := Aside0.mk (Kd.R_below (by (with_reducible repeat (first | apply Kd.R_alloc | apply Kd.R_drewN | apply Kd.R_drew)); exact HO308.out) hb); have n2_ := Aside0.mk (Kd.R_below (by (with_reducible repeat (first | apply Kd.R_alloc | apply Kd.R_drewN | apply Kd.R_drew)); exact HO312.out) hb); have n3_ := Aside0.mk (Kd.R_below (by (with_reducible repeat (first | apply Kd.R_alloc | apply Kd.R_drewN | apply Kd.R_drew)); exact HO315.out) hb); have n4_ := Aside0.mk (below_step (by repeat (first | (with_reducible first | exact HB.out | apply below_alloc | apply pw_below_drewN | apply below_drew1) | exact HB.out)) hb); clear HO304; clear HO308; clear HO312; clear HO315; clear HB; have HO304 := n0_; have HO308 := n1_; have HO312 := n2_; have HO315 := n3_; have HB := n4_; clear n0_ n1_ n2_ n3_ n4_; (try clear hb); (try clear hb2); (try clear hk); (try clear hi)) | ((with_reducible refine gate_callee (f := 23) rfl ?_); refine goesL_ (some 70) rfl rfl Try.func23 (by kernel_rfl) rfl #[.slice Ao21 t313.length co21] rfl (by (try simp only [List.map_toArray, List.map_cons, List.map_nil]); first | done | rfl | (simp only [List.length_drop, List.length_take]; rfl)) ?_; (with_reducible refine (spec_SumAmounts.calls k _ _ t313 t318 t319 _ ?side1 ?side2 A12.out).mono ?_); (case side1 => repeat (first | exact (Kd.R_reads' HO315.out).2.2 | (with_reducible refine Kd.C_alloc ?_ _) | (with_reducible refine Kd.C_drewN ?_ _) | (with_reducible refine Kd.C_drew ?_))); (case side2 => exact (Kd.R_reads' HO315.out).2.1); rintro e w' ⟨rfl, ⟨nd, rfl⟩⟩; refine ⟨_, rfl, ?_⟩) | ((with_reducible refine gate_callee (f := 24) rfl ?_); refine goesL_ (some 74) rfl rfl Try.func24 (by kernel_rfl) rfl #[.slice A0 l0.length c0] rfl (by (try simp only [List.map_toArray, List.map_cons, List.map_nil]); first | done | rfl | (simp only [List.length_drop, List.length_take]; rfl)) ?_; (with_reducible refine (spec_DrawIsAmount.calls k _ _ l0 t320 _ ?side1 ?side2 A13.out).mono ?_); (case side1 => repeat (first | exact (Kd.C_below HR0.out (by repeat (first | (with_reducible first | exact HB.out | apply below_alloc | apply pw_below_drewN | apply below_drew1) | exact HB.out))) | (with_reducible refine Kd.C_alloc ?_ _) | (with_reducible refine Kd.C_drewN ?_ _) | (with_reducible refine Kd.C_drew ?_))); (case side2 => exact HC0.out); rintro e w23 ⟨rfl, hb⟩; refine ⟨_, rfl, ?_⟩; have n0_ := Aside0.mk (Kd.R_below (by (with_reducible repeat (first | apply Kd.R_alloc | apply Kd.R_drewN | apply Kd.R_drew)); exact HO304.out) hb); have n1_ := Aside0.mk (Kd.R_below (by (with_reducible repeat (first | apply Kd.R_alloc | apply Kd.R_drewN | apply Kd.R_drew)); exact HO308.out) hb); have n2_ := Aside0.mk (Kd.R_below (by (with_reducible repeat (first | apply Kd.R_alloc | apply Kd.R_drewN | apply Kd.R_drew)); exact HO312.out) hb); have n3_ := Aside0.mk (Kd.R_below (by (with_reducible repeat (first | apply Kd.R_alloc | apply Kd.R_drewN | apply Kd.R_drew)); exact HO315.out) hb); have n4_ := Aside0.mk (below_step (by repeat (first | (with_reducible first | exact HB.out | apply below_alloc | apply pw_below_drewN | apply below_drew1) | exact HB.out)) hb); clear HO304; clear HO308; clear HO312; clear HO315; clear HB; have HO304 := n0_; have HO308 := n1_; have HO312 := n2_; have HO315 := n3_; have HB := n4_; clear n0_ n1_ n2_ n3_ n4_; (try clear hb); (try clear hb2); (try clear hk); (try clear hi)))
    (try simp only [Act.put, List.setIfInBounds_toArray, List.set_cons_zero, List.set_cons_succ])
    go_cut [110] (fun v110 wc => ∃ (kq : Nat) (x110_13 : Bool), v110 = .bool x110_13 ∧ Aside0 (laws_FnProportions.j0 kq t294 t295 t296 t297 t298 t301 t302 t305 t306 x110_13 = some r) ∧ Aside0 (kq ≤ k) ∧ Aside0 (Kd.R (Kd.int .i64) 2 wc w.heap.size (fun k_ => some k_ ≠ (v307 : Value).ownBlock) (.slice Ao17 t302.length co17) t302) ∧ Aside0 (Kd.R (Kd.int .i64) 2 wc w.heap.size (fun k_ => some k_ ≠ ((.slice Ao17 t302.length co17) : Value).ownBlock) v307 t305) ∧ Aside0 (Below w.heap.size w wc))
    case first =>
      have H := HC14.out
      clear HC14
      by_cases c24 : t298 = t300
      · rw [if_pos c24] at H
        have c24b0 : (t298 == t300) = true := beq_iff_eq.mpr c24
        have c24b1 : (t298 != t300) = false := bne_eq_false_iff_eq.mpr c24
        clear c24
        (first | rw [c24b0] | (simp only [i64_w, i32_w]; rw [c24b0]) | skip)
        by_cases c25 : t297 = t299
        · rw [if_pos c25] at H
          have c25b0 : (t297 == t299) = true := beq_iff_eq.mpr c25
          have c25b1 : (t297 != t299) = false := bne_eq_false_iff_eq.mpr c25
          clear c25
          by_cases c26 : t306 = t310
          · rw [if_pos c26] at H
            have c26b0 : (t306 == t310) = true := beq_iff_eq.mpr c26
            have c26b1 : (t306 != t310) = false := bne_eq_false_iff_eq.mpr c26
            clear c26
            replace H := Option.bind_eq_some_iff.mp H
            obtain ⟨t321, A270, H⟩ := H
            replace H : (if t321 = true then (if t317 = t319 then (if t316 = t318 then ((impl_IsAmount.f t320).bind fun t322 => ((spec_IsAmount.f t320).bind fun t323 => (laws_FnProportions.j0 k t294 t295 t296 t297 t298 t301 t302 t305 t306 (t322 != t323)))) else (laws_FnProportions.j0 k t294 t295 t296 t297 t298 t301 t302 t305 t306 true)) else (laws_FnProportions.j0 k t294 t295 t296 t297 t298 t301 t302 t305 t306 true)) else (laws_FnProportions.j0 k t294 t295 t296 t297 t298 t301 t302 t305 t306 true)) = some r := H
            have A27 := Aside0.mk A270
            clear A270
            by_cases c28 : t321 = true
            · subst c28
              have H1 : (if t317 = t319 then (if t316 = t318 then ((impl_IsAmount.f t320).bind fun t322 => ((spec_IsAmount.f t320).bind fun t323 => (laws_FnProportions.j0 k t294 t295 t296 t297 t298 t301 t302 t305 t306 (t322 != t323)))) else (laws_FnProportions.j0 k t294 t295 t296 t297 t298 t301 t302 t305 t306 true)) else (laws_FnProportions.j0 k t294 t295 t296 t297 t298 t301 t302 t305 t306 true)) = some r := by rw [if_pos rfl] at H; exact H
              clear H
              have H := H1
              clear H1
              by_cases c29 : t317 = t319
              · rw [if_pos c29] at H
                have c29b0 : (t317 == t319) = true := beq_iff_eq.mpr c29
                have c29b1 : (t317 != t319) = false := bne_eq_false_iff_eq.mpr c29
                clear c29
                by_cases c30 : t316 = t318
                · rw [if_pos c30] at H
                  have c30b0 : (t316 == t318) = true := beq_iff_eq.mpr c30
                  have c30b1 : (t316 != t318) = false := bne_eq_false_iff_eq.mpr c30
                  clear c30
                  replace H := Option.bind_eq_some_iff.mp H
                  obtain ⟨t322, A310, H⟩ := H
                  replace H : ((spec_IsAmount.f t320).bind fun t323 => (laws_FnProportions.j0 k t294 t295 t296 t297 t298 t301 t302 t305 t306 (t322 != t323))) = some r := H
                  have A31 := Aside0.mk A310
                  clear A310
                  replace H := Option.bind_eq_some_iff.mp H
                  obtain ⟨t323, A320, H⟩ := H
                  replace H : (laws_FnProportions.j0 k t294 t295 t296 t297 t298 t301 t302 t305 t306 (t322 != t323)) = some r := H
                  have A32 := Aside0.mk A320
                  clear A320
                  have H' := Aside0.mk H
                  clear H
                  obtain ⟨Ao33, co33, eo33⟩ := Kd.R_slice HO308.out
                  subst eo33
                  obtain ⟨Ao34, co34, eo34⟩ := Kd.R_slice HO312.out
                  subst eo34
                  go_wp2_with (first | (go_at_call 25; (with_reducible refine (laws_likeInts.calls k _ _ t305 _ _ t309 true _ ?side1 ?side2 ?side3 ?side4 A27.out).mono ?_); (case side1 => repeat (first | exact (Kd.R_reads' HO308.out).2.2 | (with_reducible refine Kd.C_alloc ?_ _) | (with_reducible refine Kd.C_drewN ?_ _) | (with_reducible refine Kd.C_drew ?_))); (case side2 => exact (Kd.R_reads' HO308.out).2.1); (case side3 => repeat (first | exact (Kd.R_reads' HO312.out).2.2 | (with_reducible refine Kd.C_alloc ?_ _) | (with_reducible refine Kd.C_drewN ?_ _) | (with_reducible refine Kd.C_drew ?_))); (case side4 => exact (Kd.R_reads' HO312.out).2.1); rintro e w' ⟨rfl, ⟨nd, rfl⟩⟩) | (go_at_call 26; (with_reducible refine (impl_IsAmount.calls t320 t322 _ A31.out).mono ?_); rintro e w' ⟨rfl, ⟨nd, rfl⟩⟩) | (go_at_call 27; (with_reducible refine (spec_IsAmount.calls t320 t323 _ A32.out).mono ?_); rintro e w' ⟨rfl, ⟨nd, rfl⟩⟩))
                  go_meet
                  case rel => exact ⟨_, ((t322 != t323)), (by first | rfl | (simp; done) | (simp [*]; done)), H', ⟨by first | omega | exact Nat.le_refl _⟩, ⟨by (with_reducible repeat (first | apply Kd.R_alloc | apply Kd.R_drewN | apply Kd.R_drew)); exact Kd.R_mono HO304.out (fun _ hk => hk.1.1.2)⟩, ⟨by (with_reducible repeat (first | apply Kd.R_alloc | apply Kd.R_drewN | apply Kd.R_drew)); exact Kd.R_mono HO308.out (fun _ hk => hk.1.1.2)⟩, ⟨by repeat (first | (with_reducible first | exact HB.out | apply below_alloc | apply pw_below_drewN | apply below_drew1) | exact HB.out)⟩⟩
                · rw [if_neg c30] at H
                  have c30b0 : (t316 == t318) = false := beq_eq_false_iff_ne.mpr c30
                  have c30b1 : (t316 != t318) = true := bne_iff_ne.mpr c30
                  have H' := Aside0.mk H
                  clear H
                  obtain ⟨Ao35, co35, eo35⟩ := Kd.R_slice HO308.out
                  subst eo35
                  obtain ⟨Ao36, co36, eo36⟩ := Kd.R_slice HO312.out
                  subst eo36
                  go_wp2_with (first | (go_at_call 25; (with_reducible refine (laws_likeInts.calls k _ _ t305 _ _ t309 true _ ?side1 ?side2 ?side3 ?side4 A27.out).mono ?_); (case side1 => repeat (first | exact (Kd.R_reads' HO308.out).2.2 | (with_reducible refine Kd.C_alloc ?_ _) | (with_reducible refine Kd.C_drewN ?_ _) | (with_reducible refine Kd.C_drew ?_))); (case side2 => exact (Kd.R_reads' HO308.out).2.1); (case side3 => repeat (first | exact (Kd.R_reads' HO312.out).2.2 | (with_reducible refine Kd.C_alloc ?_ _) | (with_reducible refine Kd.C_drewN ?_ _) | (with_reducible refine Kd.C_drew ?_))); (case side4 => exact (Kd.R_reads' HO312.out).2.1); rintro e w' ⟨rfl, ⟨nd, rfl⟩⟩))
                  go_meet
                  case rel => exact ⟨_, (true), (by first | rfl | (simp; done) | (simp [*]; done)), H', ⟨by first | omega | exact Nat.le_refl _⟩, ⟨by (with_reducible repeat (first | apply Kd.R_alloc | apply Kd.R_drewN | apply Kd.R_drew)); exact Kd.R_mono HO304.out (fun _ hk => hk.1.1.2)⟩, ⟨by (with_reducible repeat (first | apply Kd.R_alloc | apply Kd.R_drewN | apply Kd.R_drew)); exact Kd.R_mono HO308.out (fun _ hk => hk.1.1.2)⟩, ⟨by repeat (first | (with_reducible first | exact HB.out | apply below_alloc | apply pw_below_drewN | apply below_drew1) | exact HB.out)⟩⟩
              · rw [if_neg c29] at H
                have c29b0 : (t317 == t319) = false := beq_eq_false_iff_ne.mpr c29
                have c29b1 : (t317 != t319) = true := bne_iff_ne.mpr c29
                have H' := Aside0.mk H
                clear H
                obtain ⟨Ao37, co37, eo37⟩ := Kd.R_slice HO308.out
                subst eo37
                obtain ⟨Ao38, co38, eo38⟩ := Kd.R_slice HO312.out
                subst eo38
                go_wp2_with (first | (go_at_call 25; (with_reducible refine (laws_likeInts.calls k _ _ t305 _ _ t309 true _ ?side1 ?side2 ?side3 ?side4 A27.out).mono ?_); (case side1 => repeat (first | exact (Kd.R_reads' HO308.out).2.2 | (with_reducible refine Kd.C_alloc ?_ _) | (with_reducible refine Kd.C_drewN ?_ _) | (with_reducible refine Kd.C_drew ?_))); (case side2 => exact (Kd.R_reads' HO308.out).2.1); (case side3 => repeat (first | exact (Kd.R_reads' HO312.out).2.2 | (with_reducible refine Kd.C_alloc ?_ _) | (with_reducible refine Kd.C_drewN ?_ _) | (with_reducible refine Kd.C_drew ?_))); (case side4 => exact (Kd.R_reads' HO312.out).2.1); rintro e w' ⟨rfl, ⟨nd, rfl⟩⟩))
                go_meet
                case rel => exact ⟨_, (true), (by first | rfl | (simp; done) | (simp [*]; done)), H', ⟨by first | omega | exact Nat.le_refl _⟩, ⟨by (with_reducible repeat (first | apply Kd.R_alloc | apply Kd.R_drewN | apply Kd.R_drew)); exact Kd.R_mono HO304.out (fun _ hk => hk.1.1.2)⟩, ⟨by (with_reducible repeat (first | apply Kd.R_alloc | apply Kd.R_drewN | apply Kd.R_drew)); exact Kd.R_mono HO308.out (fun _ hk => hk.1.1.2)⟩, ⟨by repeat (first | (with_reducible first | exact HB.out | apply below_alloc | apply pw_below_drewN | apply below_drew1) | exact HB.out)⟩⟩
            · replace c28 := Bool.eq_false_iff.mpr c28
              subst c28
              have H1 : (laws_FnProportions.j0 k t294 t295 t296 t297 t298 t301 t302 t305 t306 true) = some r := by rw [if_neg (show ¬ (false = true) by decide)] at H; exact H
              clear H
              have H := H1
              clear H1
              have H' := Aside0.mk H
              clear H
              obtain ⟨Ao39, co39, eo39⟩ := Kd.R_slice HO308.out
              subst eo39
              obtain ⟨Ao40, co40, eo40⟩ := Kd.R_slice HO312.out
              subst eo40
              go_wp2_with (first | (go_at_call 25; (with_reducible refine (laws_likeInts.calls k _ _ t305 _ _ t309 false _ ?side1 ?side2 ?side3 ?side4 A27.out).mono ?_); (case side1 => repeat (first | exact (Kd.R_reads' HO308.out).2.2 | (with_reducible refine Kd.C_alloc ?_ _) | (with_reducible refine Kd.C_drewN ?_ _) | (with_reducible refine Kd.C_drew ?_))); (case side2 => exact (Kd.R_reads' HO308.out).2.1); (case side3 => repeat (first | exact (Kd.R_reads' HO312.out).2.2 | (with_reducible refine Kd.C_alloc ?_ _) | (with_reducible refine Kd.C_drewN ?_ _) | (with_reducible refine Kd.C_drew ?_))); (case side4 => exact (Kd.R_reads' HO312.out).2.1); rintro e w' ⟨rfl, ⟨nd, rfl⟩⟩))
              go_meet
              case rel => exact ⟨_, (true), (by first | rfl | (simp; done) | (simp [*]; done)), H', ⟨by first | omega | exact Nat.le_refl _⟩, ⟨by (with_reducible repeat (first | apply Kd.R_alloc | apply Kd.R_drewN | apply Kd.R_drew)); exact Kd.R_mono HO304.out (fun _ hk => hk.1.1.2)⟩, ⟨by (with_reducible repeat (first | apply Kd.R_alloc | apply Kd.R_drewN | apply Kd.R_drew)); exact Kd.R_mono HO308.out (fun _ hk => hk.1.1.2)⟩, ⟨by repeat (first | (with_reducible first | exact HB.out | apply below_alloc | apply pw_below_drewN | apply below_drew1) | exact HB.out)⟩⟩
          · rw [if_neg c26] at H
            have c26b0 : (t306 == t310) = false := beq_eq_false_iff_ne.mpr c26
            have c26b1 : (t306 != t310) = true := bne_iff_ne.mpr c26
            have H' := Aside0.mk H
            clear H
            go_wp2
            go_meet
            case rel => exact ⟨_, (true), (by first | rfl | (simp; done) | (simp [*]; done)), H', ⟨by first | omega | exact Nat.le_refl _⟩, ⟨by (with_reducible repeat (first | apply Kd.R_alloc | apply Kd.R_drewN | apply Kd.R_drew)); exact Kd.R_mono HO304.out (fun _ hk => hk.1.1.2)⟩, ⟨by (with_reducible repeat (first | apply Kd.R_alloc | apply Kd.R_drewN | apply Kd.R_drew)); exact Kd.R_mono HO308.out (fun _ hk => hk.1.1.2)⟩, ⟨by repeat (first | (with_reducible first | exact HB.out | apply below_alloc | apply pw_below_drewN | apply below_drew1) | exact HB.out)⟩⟩
        · rw [if_neg c25] at H
          have c25b0 : (t297 == t299) = false := beq_eq_false_iff_ne.mpr c25
          have c25b1 : (t297 != t299) = true := bne_iff_ne.mpr c25
          have H' := Aside0.mk H
          clear H
          go_wp2
          go_meet
          case rel => exact ⟨_, (true), (by first | rfl | (simp; done) | (simp [*]; done)), H', ⟨by first | omega | exact Nat.le_refl _⟩, ⟨by (with_reducible repeat (first | apply Kd.R_alloc | apply Kd.R_drewN | apply Kd.R_drew)); exact Kd.R_mono HO304.out (fun _ hk => hk.1.1.2)⟩, ⟨by (with_reducible repeat (first | apply Kd.R_alloc | apply Kd.R_drewN | apply Kd.R_drew)); exact Kd.R_mono HO308.out (fun _ hk => hk.1.1.2)⟩, ⟨by repeat (first | (with_reducible first | exact HB.out | apply below_alloc | apply pw_below_drewN | apply below_drew1) | exact HB.out)⟩⟩
      · rw [if_neg c24] at H
        have c24b0 : (t298 == t300) = false := beq_eq_false_iff_ne.mpr c24
        have c24b1 : (t298 != t300) = true := bne_iff_ne.mpr c24
        (first | rw [c24b0] | (simp only [i64_w, i32_w]; rw [c24b0]) | skip)
        have H' := Aside0.mk H
        clear H
        go_wp2
        go_meet
        case rel => exact ⟨_, (true), (by first | rfl | (simp; done) | (simp [*]; done)), H', ⟨by first | omega | exact Nat.le_refl _⟩, ⟨by (with_reducible repeat (first | apply Kd.R_alloc | apply Kd.R_drewN | apply Kd.R_drew)); exact Kd.R_mono HO304.out (fun _ hk => hk.1.1.2)⟩, ⟨by (with_reducible repeat (first | apply Kd.R_alloc | apply Kd.R_drewN | apply Kd.R_drew)); exact Kd.R_mono HO308.out (fun _ hk => hk.1.1.2)⟩, ⟨by repeat (first | (with_reducible first | exact HB.out | apply below_alloc | apply pw_below_drewN | apply below_drew1) | exact HB.out)⟩⟩
    case rest =>
      clear HC14
      try clear c1
      try clear c2
      try clear p2
      try clear c3
      try clear c14
      try clear c15
      try clear c16
      try clear c17
      try clear c18
      try clear c19
      try clear c20
      try clear c21
      try clear c22
      try clear c23
      try clear c24
      try clear c24b0
      try clear c24b1
      try clear c25
      try clear c25b0
      try clear c25b1
      try clear c26
      try clear c26b0
      try clear c26b1
      try clear c28
      try clear c29
      try clear c29b0
      try clear c29b1
      try clear c30
      try clear c30b0
      try clear c30b1
      obtain ⟨kq, x110_13, rfl, HA, HJ13, HO_11, HO_12, HB⟩ := hcut
      cases kq with
      | zero => exact absurd HA.out (by simp [laws_FnProportions.j0])
      | succ kj13 =>
        have H := HA.out
        clear HA
        simp only [laws_FnProportions.j0] at H
        by_cases c41 : x110_13 = true
        · subst c41
          have H1 : (some false) = some r := by rw [if_pos rfl] at H; exact H
          clear H
          have H := H1
          clear H1
          obtain rfl := Option.some.inj H
          go_wp2
          go_ret
          exact ⟨by first | rfl | (simp [errW_none, errW_some] <;> rfl) | (simp [*, errW_none, errW_some] <;> rfl), by repeat (first | (with_reducible first | exact HB.out | apply below_alloc | apply pw_below_drewN | apply below_drew1) | exact HB.out)⟩
        · replace c41 := Bool.eq_false_iff.mpr c41
          subst c41
          have H1 : (if t306 = 0 then ((laws_sum.f kj13 t305).bind fun t324 => (if t324 > t301 then (laws_FnProportions.j1 kj13 t294 t295 t296 t297 t298 true) else ((laws_sum.f kj13 t305).bind fun t325 => (if t325 < t301 then ((laws_likeInts.f kj13 t305 t302).bind fun t326 => (laws_FnProportions.j1 kj13 t294 t295 t296 t297 t298 (!t326))) else (laws_FnProportions.j1 kj13 t294 t295 t296 t297 t298 false))))) else (if t298 = 0 then (if (wrap64 (2 * (wrap64 ((wrap64 (t297 * t296)) - (wrap64 (t294 * t295)))))) ≤ t296 then (some (decide ((wrap64 (2 * (wrap64 ((wrap64 (t294 * t295)) - (wrap64 (t297 * t296)))))) < (wrap64 (t296 + 1))))) else (some false)) else (some true))) = some r := by rw [if_neg (show ¬ (false = true) by decide)] at H; exact H
          clear H
          have H := H1
          clear H1
          by_cases c42 : t306 = 0
          · rw [if_pos c42] at H
            have c42b0 : (t306 == 0) = true := beq_iff_eq.mpr c42
            have c42b1 : (t306 != 0) = false := bne_eq_false_iff_eq.mpr c42
            clear c42
            have HC43 := Aside0.mk H
            clear H
            go_upto_region 16 with (fail)
            go_cut [128] (fun v128 wc => ∃ (kq : Nat) (x128_42 : Bool), v128 = .bool x128_42 ∧ Aside0 (laws_FnProportions.j1 kq t294 t295 t296 t297 t298 x128_42 = some r) ∧ Aside0 (kq ≤ kj13) ∧ Aside0 (Below w.heap.size w wc))
            case first =>
              have H := HC43.out
              clear HC43
              replace H := Option.bind_eq_some_iff.mp H
              obtain ⟨t324, A440, H⟩ := H
              replace H : (if t324 > t301 then (laws_FnProportions.j1 kj13 t294 t295 t296 t297 t298 true) else ((laws_sum.f kj13 t305).bind fun t325 => (if t325 < t301 then ((laws_likeInts.f kj13 t305 t302).bind fun t326 => (laws_FnProportions.j1 kj13 t294 t295 t296 t297 t298 (!t326))) else (laws_FnProportions.j1 kj13 t294 t295 t296 t297 t298 false)))) = some r := H
              have A44 := Aside0.mk A440
              clear A440
              by_cases c45 : t324 > t301
              · rw [if_pos c45] at H
                have c45b0 : decide (t301 < t324) = true := decide_eq_true c45
                clear c45
                (first | rw [c45b0] | (simp only [i64_w, i32_w]; rw [c45b0]) | skip)
                have H' := Aside0.mk H
                clear H
                obtain ⟨Ao46, co46, eo46⟩ := Kd.R_slice HO_12.out
                subst eo46
                go_wp2_with (first | ((with_reducible refine gate_callee (f := 28) rfl ?_); refine goesL_ (some 114) rfl rfl Try.func28 (by kernel_rfl) rfl #[.slice Ao46 t305.length co46] rfl (by (try simp only [List.map_toArray, List.map_cons, List.map_nil]); first | done | rfl | (simp only [List.length_drop, List.length_take]; rfl)) ?_; (with_reducible refine (laws_sum.calls kj13 _ _ t305 t324 _ ?side1 ?side2 A44.out).mono ?_); (case side1 => repeat (first | exact (Kd.R_reads' HO_12.out).2.2 | (with_reducible refine Kd.C_alloc ?_ _) | (with_reducible refine Kd.C_drewN ?_ _) | (with_reducible refine Kd.C_drew ?_))); (case side2 => exact (Kd.R_reads' HO_12.out).2.1); rintro e w' ⟨rfl, ⟨nd, rfl⟩⟩; refine ⟨_, rfl, ?_⟩))
                go_meet
                case rel => exact ⟨_, (true), (by first | rfl | (simp; done) | (simp [*]; done)), H', ⟨by have := HJ13.out; first | omega | exact Nat.le_refl _⟩, ⟨by repeat (first | (with_reducible first | exact HB.out | apply below_alloc | apply pw_below_drewN | apply below_drew1) | exact HB.out)⟩⟩
              · rw [if_neg c45] at H
                have c45b0 : decide (t301 < t324) = false := decide_eq_false c45
                clear c45
                (first | rw [c45b0] | (simp only [i64_w, i32_w]; rw [c45b0]) | skip)
                replace H := Option.bind_eq_some_iff.mp H
                obtain ⟨t325, A470, H⟩ := H
                replace H : (if t325 < t301 then ((laws_likeInts.f kj13 t305 t302).bind fun t326 => (laws_FnProportions.j1 kj13 t294 t295 t296 t297 t298 (!t326))) else (laws_FnProportions.j1 kj13 t294 t295 t296 t297 t298 false)) = some r := H
                have A47 := Aside0.mk A470
                clear A470
                by_cases c48 : t325 < t301
                · rw [if_pos c48] at H
                  have c48b0 : decide (t325 < t301) = true := decide_eq_true c48
                  clear c48
                  replace H := Option.bind_eq_some_iff.mp H
                  obtain ⟨t326, A490, H⟩ := H
                  replace H : (laws_FnProportions.j1 kj13 t294 t295 t296 t297 t298 (!t326)) = some r := H
                  have A49 := Aside0.mk A490
                  clear A490
                  have H' := Aside0.mk H
                  clear H
                  obtain ⟨Ao50, co50, eo50⟩ := Kd.R_slice HO_12.out
                  subst eo50
                  go_wp2_with (first | ((with_reducible refine gate_callee (f := 28) rfl ?_); refine goesL_ (some 114) rfl rfl Try.func28 (by kernel_rfl) rfl #[.slice Ao50 t305.length co50] rfl (by (try simp only [List.map_toArray, List.map_cons, List.map_nil]); first | done | rfl | (simp only [List.length_drop, List.length_take]; rfl)) ?_; (with_reducible refine (laws_sum.calls kj13 _ _ t305 t324 _ ?side1 ?side2 A44.out).mono ?_); (case side1 => repeat (first | exact (Kd.R_reads' HO_12.out).2.2 | (with_reducible refine Kd.C_alloc ?_ _) | (with_reducible refine Kd.C_drewN ?_ _) | (with_reducible refine Kd.C_drew ?_))); (case side2 => exact (Kd.R_reads' HO_12.out).2.1); rintro e w' ⟨rfl, ⟨nd, rfl⟩⟩; refine ⟨_, rfl, ?_⟩) | (go_at_call 28; (with_reducible refine (laws_sum.calls kj13 _ _ t305 t325 _ ?side1 ?side2 A47.out).mono ?_); (case side1 => repeat (first | exact (Kd.R_reads' HO_12.out).2.2 | (with_reducible refine Kd.C_alloc ?_ _) | (with_reducible refine Kd.C_drewN ?_ _) | (with_reducible refine Kd.C_drew ?_))); (case side2 => exact (Kd.R_reads' HO_12.out).2.1); rintro e w' ⟨rfl, ⟨nd, rfl⟩⟩) | (go_at_call 25; (with_reducible refine (laws_likeInts.calls kj13 _ _ t305 _ _ t302 t326 _ ?side1 ?side2 ?side3 ?side4 A49.out).mono ?_); (case side1 => repeat (first | exact (Kd.R_reads' HO_12.out).2.2 | (with_reducible refine Kd.C_alloc ?_ _) | (with_reducible refine Kd.C_drewN ?_ _) | (with_reducible refine Kd.C_drew ?_))); (case side2 => exact (Kd.R_reads' HO_12.out).2.1); (case side3 => repeat (first | exact (Kd.R_reads' HO_11.out).2.2 | (with_reducible refine Kd.C_alloc ?_ _) | (with_reducible refine Kd.C_drewN ?_ _) | (with_reducible refine Kd.C_drew ?_))); (case side4 => exact (Kd.R_reads' HO_11.out).2.1); rintro e w' ⟨rfl, ⟨nd, rfl⟩⟩))
                  go_meet
                  case rel => exact ⟨_, (!t326), (by first | rfl | (simp; done) | (simp [*]; done)), H', ⟨by have := HJ13.out; first | omega | exact Nat.le_refl _⟩, ⟨by repeat (first | (with_reducible first | exact HB.out | apply below_alloc | apply pw_below_drewN | apply below_drew1) | exact HB.out)⟩⟩
                · rw [if_neg c48] at H
                  have c48b0 : decide (t325 < t301) = false := decide_eq_false c48
                  clear c48
                  have H' := Aside0.mk H
                  clear H
                  obtain ⟨Ao51, co51, eo51⟩ := Kd.R_slice HO_12.out
                  subst eo51
                  go_wp2_with (first | ((with_reducible refine gate_callee (f := 28) rfl ?_); refine goesL_ (some 114) rfl rfl Try.func28 (by kernel_rfl) rfl #[.slice Ao51 t305.length co51] rfl (by (try simp only [List.map_toArray, List.map_cons, List.map_nil]); first | done | rfl | (simp only [List.length_drop, List.length_take]; rfl)) ?_; (with_reducible refine (laws_sum.calls kj13 _ _ t305 t324 _ ?side1 ?side2 A44.out).mono ?_); (case side1 => repeat (first | exact (Kd.R_reads' HO_12.out).2.2 | (with_reducible refine Kd.C_alloc ?_ _) | (with_reducible refine Kd.C_drewN ?_ _) | (with_reducible refine Kd.C_drew ?_))); (case side2 => exact (Kd.R_reads' HO_12.out).2.1); rintro e w' ⟨rfl, ⟨nd, rfl⟩⟩; refine ⟨_, rfl, ?_⟩) | (go_at_call 28; (with_reducible refine (laws_sum.calls kj13 _ _ t305 t325 _ ?side1 ?side2 A47.out).mono ?_); (case side1 => repeat (first | exact (Kd.R_reads' HO_12.out).2.2 | (with_reducible refine Kd.C_alloc ?_ _) | (with_reducible refine Kd.C_drewN ?_ _) | (with_reducible refine Kd.C_drew ?_))); (case side2 => exact (Kd.R_reads' HO_12.out).2.1); rintro e w' ⟨rfl, ⟨nd, rfl⟩⟩))
                  go_meet
                  case rel => exact ⟨_, (false), (by first | rfl | (simp; done) | (simp [*]; done)), H', ⟨by have := HJ13.out; first | omega | exact Nat.le_refl _⟩, ⟨by repeat (first | (with_reducible first | exact HB.out | apply below_alloc | apply pw_below_drewN | apply below_drew1) | exact HB.out)⟩⟩
            case rest =>
              clear HC43
              try clear c1
              try clear c2
              try clear p2
              try clear c3
              try clear c4
              try clear p6
              try clear c14
              try clear c15
              try clear c16
              try clear c17
              try clear c18
              try clear c19
              try clear c20
              try clear c21
              try clear c22
              try clear c23
              try clear c24
              try clear c24b0
              try clear c24b1
              try clear c25
              try clear c25b0
              try clear c25b1
              try clear c26
              try clear c26b0
              try clear c26b1
              try clear c28
              try clear c29
              try clear c29b0
              try clear c29b1
              try clear c30
              try clear c30b0
              try clear c30b1
              try clear c41
              try clear c42
              try clear c42b0
              try clear c42b1
              try clear c45
              try clear c45b0
              try clear c48
              try clear c48b0
              try clear p2
              obtain ⟨kq, x128_42, rfl, HA, HJ42, HB⟩ := hcut
              cases kq with
              | zero => exact absurd HA.out (by simp [laws_FnProportions.j1])
              | succ kj42 =>
                have H := HA.out
                clear HA
                simp only [laws_FnProportions.j1] at H
                by_cases c52 : x128_42 = true
                · subst c52
                  have H1 : (some false) = some r := by rw [if_pos rfl] at H; exact H
                  clear H
                  have H := H1
                  clear H1
                  obtain rfl := Option.some.inj H
                  go_wp2
                  go_ret
                  exact ⟨by first | rfl | (simp [errW_none, errW_some] <;> rfl) | (simp [*, errW_none, errW_some] <;> rfl), by repeat (first | (with_reducible first | exact HB.out | apply below_alloc | apply pw_below_drewN | apply below_drew1) | exact HB.out)⟩
                · replace c52 := Bool.eq_false_iff.mpr c52
                  subst c52
                  have H1 : (if t298 = 0 then (if (wrap64 (2 * (wrap64 ((wrap64 (t297 * t296)) - (wrap64 (t294 * t295)))))) ≤ t296 then (some (decide ((wrap64 (2 * (wrap64 ((wrap64 (t294 * t295)) - (wrap64 (t297 * t296)))))) < (wrap64 (t296 + 1))))) else (some false)) else (some true)) = some r := by rw [if_neg (show ¬ (false = true) by decide)] at H; exact H
                  clear H
                  have H := H1
                  clear H1
                  by_cases c53 : t298 = 0
                  · rw [if_pos c53] at H
                    have c53b0 : (t298 == 0) = true := beq_iff_eq.mpr c53
                    have c53b1 : (t298 != 0) = false := bne_eq_false_iff_eq.mpr c53
                    clear c53
                    by_cases c54 : (wrap64 (2 * (wrap64 ((wrap64 (t297 * t296)) - (wrap64 (t294 * t295)))))) ≤ t296
                    · rw [if_pos c54] at H
                      have c54b0 : decide ((wrap64 (2 * (wrap64 ((wrap64 (t297 * t296)) - (wrap64 (t294 * t295)))))) ≤ t296) = true := decide_eq_true c54
                      clear c54
                      obtain rfl := Option.some.inj H
                      go_wp2
                      go_ret
                      exact ⟨by first | rfl | (simp [errW_none, errW_some] <;> rfl) | (simp [*, errW_none, errW_some] <;> rfl), by repeat (first | (with_reducible first | exact HB.out | apply below_alloc | apply pw_below_drewN | apply below_drew1) | exact HB.out)⟩
                    · rw [if_neg c54] at H
                      have c54b0 : decide ((wrap64 (2 * (wrap64 ((wrap64 (t297 * t296)) - (wrap64 (t294 * t295)))))) ≤ t296) = false := decide_eq_false c54
                      clear c54
                      obtain rfl := Option.some.inj H
                      go_wp2
                      go_ret
                      exact ⟨by first | rfl | (simp [errW_none, errW_some] <;> rfl) | (simp [*, errW_none, errW_some] <;> rfl), by repeat (first | (with_reducible first | exact HB.out | apply below_alloc | apply pw_below_drewN | apply below_drew1) | exact HB.out)⟩
                  · rw [if_neg c53] at H
                    have c53b0 : (t298 == 0) = false := beq_eq_false_iff_ne.mpr c53
                    have c53b1 : (t298 != 0) = true := bne_iff_ne.mpr c53
                    obtain rfl := Option.some.inj H
                    go_wp2
                    go_ret
                    exact ⟨by first | rfl | (simp [errW_none, errW_some] <;> rfl) | (simp [*, errW_none, errW_some] <;> rfl), by repeat (first | (with_reducible first | exact HB.out | apply below_alloc | apply pw_below_drewN | apply below_drew1) | exact HB.out)⟩
          · rw [if_neg c42] at H
            have c42b0 : (t306 == 0) = false := beq_eq_false_iff_ne.mpr c42
            have c42b1 : (t306 != 0) = true := bne_iff_ne.mpr c42
            by_cases c55 : t298 = 0
            · rw [if_pos c55] at H
              have c55b0 : (t298 == 0) = true := beq_iff_eq.mpr c55
              have c55b1 : (t298 != 0) = false := bne_eq_false_iff_eq.mpr c55
              clear c55
              by_cases c56 : (wrap64 (2 * (wrap64 ((wrap64 (t297 * t296)) - (wrap64 (t294 * t295)))))) ≤ t296
              · rw [if_pos c56] at H
                have c56b0 : decide ((wrap64 (2 * (wrap64 ((wrap64 (t297 * t296)) - (wrap64 (t294 * t295)))))) ≤ t296) = true := decide_eq_true c56
                clear c56
                obtain rfl := Option.some.inj H
                go_wp2
                go_ret
                exact ⟨by first | rfl | (simp [errW_none, errW_some] <;> rfl) | (simp [*, errW_none, errW_some] <;> rfl), by repeat (first | (with_reducible first | exact HB.out | apply below_alloc | apply pw_below_drewN | apply below_drew1) | exact HB.out)⟩
              · rw [if_neg c56] at H
                have c56b0 : decide ((wrap64 (2 * (wrap64 ((wrap64 (t297 * t296)) - (wrap64 (t294 * t295)))))) ≤ t296) = false := decide_eq_false c56
                clear c56
                obtain rfl := Option.some.inj H
                go_wp2
                go_ret
                exact ⟨by first | rfl | (simp [errW_none, errW_some] <;> rfl) | (simp [*, errW_none, errW_some] <;> rfl), by repeat (first | (with_reducible first | exact HB.out | apply below_alloc | apply pw_below_drewN | apply below_drew1) | exact HB.out)⟩
            · rw [if_neg c55] at H
              have c55b0 : (t298 == 0) = false := beq_eq_false_iff_ne.mpr c55
              have c55b1 : (t298 != 0) = true := bne_iff_ne.mpr c55
              obtain rfl := Option.some.inj H
              go_wp2
              go_ret
              exact ⟨by first | rfl | (simp [errW_none, errW_some] <;> rfl) | (simp [*, errW_none, errW_some] <;> rfl), by repeat (first | (with_reducible first | exact HB.out | apply below_alloc | apply pw_below_drewN | apply below_drew1) | exact HB.out)⟩

/-- THE ONE PURE STATEMENT of laws_FnProportions: yours. -/
def laws_FnProportions.Pure : Prop := ∀ (l0 : List Int), l0.length ≤ maxLen → l0.length * 1 ≤ 140737488351232 → (∀ x ∈ l0, (Lit.int .u8 x).wf = true) → ∃ k, laws_FnProportions.f k l0 = some true
theorem laws_FnProportions.walk (P : laws_FnProportions.Pure) (a0 : Option Addr) (len0 cap0 : Nat) (z0 : List Int) (w : World) (w0 : (a0 = none ∧ len0 = 0 ∧ cap0 = 0 ∧ z0 = []) ∨ ∃ x, a0 = some x ∧ len0 ≤ cap0 ∧ cap0 ≤ maxLen ∧ z0.length = cap0 ∧ (∀ i, i < z0.length → w.cell? (x.add i) = some (.int .u8 (z0.getD i 0))) ∧ ∀ n ∈ z0, (Lit.int .u8 n).wf = true) (y0 : len0 * 1 ≤ 140737488351232) :
    Calls Try.prog 3 #[.slice a0 len0 cap0] w fun e w' => e = .returned (.bool true) ∧ Below w.heap.size w w' := by
  obtain ⟨l0, rfl, hr0, hm0, hw0, hc0⟩ := ReadsInt.ofRowC w0
  obtain ⟨k, h⟩ := P l0 hm0 y0 hw0
  refine (laws_FnProportions.calls k _ _ l0 true w (Kd.C_of_reads (d := (0 : Int)) (h1 := fun _ => rfl) hr0) hc0 h).mono ?_
  rintro e w' ⟨rfl, hd⟩
  exact ⟨rfl, hd⟩

/-! ### impl_shares: function 90 -/
def impl_shares.j0 : Nat → List Int → Bool → Option (Int)
  | 0, _, _ => none
  | k + 1, x1, x5 => if x5 = true then (some 2) else ((impl_sum.f k x1).bind fun t329 => (if t329 = 0 then (some 5) else (some 0)))
def impl_shares.f (k : Nat) (a0 : Int) (l1 : List Int) : Option (Int) := (impl_IsAmount.f a0).bind fun t327 => (if t327 = true then ((impl_fewAmounts.f l1).bind fun t328 => (impl_shares.j0 k l1 (!t328))) else (impl_shares.j0 k l1 true))
theorem impl_shares.mono_l : ∀ k, (∀ y0 y1, LeO (impl_shares.j0 k y0 y1) (impl_shares.j0 (k + 1) y0 y1))
  | 0 => fun _ _ r h => by simp [impl_shares.j0] at h
  | k + 1 => by
    have ih0 := impl_shares.mono_l k
    · intro y0 y1
      unfold impl_shares.j0
      repeat' first
      | (with_reducible exact ih0 _ _)
      | (with_reducible exact impl_sum.mono _ _)
      | (with_reducible exact LeO.refl _)
      | (with_reducible exact LeO.none _)
      | (with_reducible refine LeO.ite ?_ ?_)
      | (with_reducible refine LeO.bind ?_ (fun _ => ?_))
      | exact ih0 _ _
      | exact impl_sum.mono _ _
      | exact LeO.none _
      | refine LeO.ite ?_ ?_
      | refine LeO.bind ?_ (fun _ => ?_)
theorem impl_shares.mono : ∀ a0 a1 k, LeO (impl_shares.f k a0 a1) (impl_shares.f (k + 1) a0 a1) := by
  intro a0 a1 k
  have ih0 := impl_shares.mono_l k
  unfold impl_shares.f
  repeat' first
      | (with_reducible exact ih0 _ _)
      | (with_reducible exact impl_sum.mono _ _)
      | (with_reducible exact LeO.refl _)
      | (with_reducible exact LeO.none _)
      | (with_reducible refine LeO.ite ?_ ?_)
      | (with_reducible refine LeO.bind ?_ (fun _ => ?_))
      | exact ih0 _ _
      | exact impl_sum.mono _ _
      | exact LeO.none _
      | refine LeO.ite ?_ ?_
      | refine LeO.bind ?_ (fun _ => ?_)
set_option maxHeartbeats 8000000 in
set_option maxRecDepth 100000 in
theorem impl_shares.calls (k : Nat) (a0 : Int) (A1 : Option Addr) (c1 : Nat) (l1 : List Int) (r : Int) (w : World) (hr1 : Kd.C (Kd.int .i64) w A1 l1.length l1) (hc1 : l1.length ≤ c1) (h : impl_shares.f k a0 l1 = some r) :
    Calls Try.prog 90 #[.int .i64 a0, .slice A1 l1.length c1] w fun e w' => e = .returned (.int .i64 r) ∧ Below w.heap.size w w' := by
  have HR1 := Aside0.mk hr1
  have HC1 := Aside0.mk hc1
  clear hr1 hc1
  have HB := Aside0.mk (Below.refl w.heap.size w)
  have H : ((impl_IsAmount.f a0).bind fun t327 => (if t327 = true then ((impl_fewAmounts.f l1).bind fun t328 => (impl_shares.j0 k l1 (!t328))) else (impl_shares.j0 k l1 true))) = some r := h
  clear h
  have HC3 := Aside0.mk H
  clear H
  go_enter Try.func90, Try.ntmps90
  go_upto_region 1 with (fail)
  go_cut [5] (fun v5 wc => ∃ (kq : Nat) (x5_2 : Bool), v5 = .bool x5_2 ∧ Aside0 (impl_shares.j0 kq l1 x5_2 = some r) ∧ Aside0 (kq ≤ k) ∧ Aside0 (Below w.heap.size w wc))
  case first =>
    have H := HC3.out
    clear HC3
    replace H := Option.bind_eq_some_iff.mp H
    obtain ⟨t327, A40, H⟩ := H
    replace H : (if t327 = true then ((impl_fewAmounts.f l1).bind fun t328 => (impl_shares.j0 k l1 (!t328))) else (impl_shares.j0 k l1 true)) = some r := H
    have A4 := Aside0.mk A40
    clear A40
    by_cases c5 : t327 = true
    · subst c5
      have H1 : ((impl_fewAmounts.f l1).bind fun t328 => (impl_shares.j0 k l1 (!t328))) = some r := by rw [if_pos rfl] at H; exact H
      clear H
      have H := H1
      clear H1
      replace H := Option.bind_eq_some_iff.mp H
      obtain ⟨t328, A60, H⟩ := H
      replace H : (impl_shares.j0 k l1 (!t328)) = some r := H
      have A6 := Aside0.mk A60
      clear A60
      have H' := Aside0.mk H
      clear H
      go_wp2_with (first | ((with_reducible refine gate_callee (f := 26) rfl ?_); refine goesL_ (some 7) rfl rfl Try.func26 (by kernel_rfl) rfl #[.int .i64 a0] rfl (by (try simp only [List.map_toArray, List.map_cons, List.map_nil]); first | done | rfl | (simp only [List.length_drop, List.length_take]; rfl)) ?_; (with_reducible refine (impl_IsAmount.calls a0 true _ A4.out).mono ?_); rintro e w' ⟨rfl, ⟨nd, rfl⟩⟩; refine ⟨_, rfl, ?_⟩) | (go_at_call 80; (with_reducible refine (impl_fewAmounts.calls _ _ l1 t328 _ ?side1 ?side2 A6.out).mono ?_); (case side1 => repeat (first | exact (Kd.C_below HR1.out (by repeat (first | (with_reducible first | exact HB.out | apply below_alloc | apply pw_below_drewN | apply below_drew1) | exact HB.out))) | (with_reducible refine Kd.C_alloc ?_ _) | (with_reducible refine Kd.C_drewN ?_ _) | (with_reducible refine Kd.C_drew ?_))); (case side2 => exact HC1.out); rintro e w7 ⟨rfl, hb⟩; have n0_ := Aside0.mk (below_step (by repeat (first | (with_reducible first | exact HB.out | apply below_alloc | apply pw_below_drewN | apply below_drew1) | exact HB.out)) hb); clear HB; have HB := n0_; clear n0_; (try clear hb); (try clear hb2); (try clear hk); (try clear hi)))
      go_meet
      case rel => exact ⟨_, (!t328), (by first | rfl | (simp; done) | (simp [*]; done)), H', ⟨by first | omega | exact Nat.le_refl _⟩, ⟨by repeat (first | (with_reducible first | exact HB.out | apply below_alloc | apply pw_below_drewN | apply below_drew1) | exact HB.out)⟩⟩
    · replace c5 := Bool.eq_false_iff.mpr c5
      subst c5
      have H1 : (impl_shares.j0 k l1 true) = some r := by rw [if_neg (show ¬ (false = true) by decide)] at H; exact H
      clear H
      have H := H1
      clear H1
      have H' := Aside0.mk H
      clear H
      go_wp2_with (first | ((with_reducible refine gate_callee (f := 26) rfl ?_); refine goesL_ (some 7) rfl rfl Try.func26 (by kernel_rfl) rfl #[.int .i64 a0] rfl (by (try simp only [List.map_toArray, List.map_cons, List.map_nil]); first | done | rfl | (simp only [List.length_drop, List.length_take]; rfl)) ?_; (with_reducible refine (impl_IsAmount.calls a0 false _ A4.out).mono ?_); rintro e w' ⟨rfl, ⟨nd, rfl⟩⟩; refine ⟨_, rfl, ?_⟩))
      go_meet
      case rel => exact ⟨_, (true), (by first | rfl | (simp; done) | (simp [*]; done)), H', ⟨by first | omega | exact Nat.le_refl _⟩, ⟨by repeat (first | (with_reducible first | exact HB.out | apply below_alloc | apply pw_below_drewN | apply below_drew1) | exact HB.out)⟩⟩
  case rest =>
    clear HC3
    try clear c1
    try clear c2
    try clear p2
    try clear c5
    obtain ⟨kq, x5_2, rfl, HA, HJ2, HB⟩ := hcut
    cases kq with
    | zero => exact absurd HA.out (by simp [impl_shares.j0])
    | succ kj2 =>
      have H := HA.out
      clear HA
      simp only [impl_shares.j0] at H
      by_cases c8 : x5_2 = true
      · subst c8
        have H1 : (some 2) = some r := by rw [if_pos rfl] at H; exact H
        clear H
        have H := H1
        clear H1
        obtain rfl := Option.some.inj H
        go_wp2
        go_ret
        exact ⟨by first | rfl | (simp [errW_none, errW_some] <;> rfl) | (simp [*, errW_none, errW_some] <;> rfl), by repeat (first | (with_reducible first | exact HB.out | apply below_alloc | apply pw_below_drewN | apply below_drew1) | exact HB.out)⟩
      · replace c8 := Bool.eq_false_iff.mpr c8
        subst c8
        have H1 : ((impl_sum.f kj2 l1).bind fun t329 => (if t329 = 0 then (some 5) else (some 0))) = some r := by rw [if_neg (show ¬ (false = true) by decide)] at H; exact H
        clear H
        have H := H1
        clear H1
        replace H := Option.bind_eq_some_iff.mp H
        obtain ⟨t329, A90, H⟩ := H
        replace H : (if t329 = 0 then (some 5) else (some 0)) = some r := H
        have A9 := Aside0.mk A90
        clear A90
        by_cases c10 : t329 = 0
        · rw [if_pos c10] at H
          have c10b0 : (t329 == 0) = true := beq_iff_eq.mpr c10
          have c10b1 : (t329 != 0) = false := bne_eq_false_iff_eq.mpr c10
          clear c10
          obtain rfl := Option.some.inj H
          go_wp2_with (first | ((with_reducible refine gate_callee (f := 87) rfl ?_); refine goesL_ (some 16) rfl rfl Try.func87 (by kernel_rfl) rfl #[.slice A1 l1.length c1] rfl (by (try simp only [List.map_toArray, List.map_cons, List.map_nil]); first | done | rfl | (simp only [List.length_drop, List.length_take]; rfl)) ?_; (with_reducible refine (impl_sum.calls kj2 _ _ l1 t329 _ ?side1 ?side2 A9.out).mono ?_); (case side1 => repeat (first | exact (Kd.C_below HR1.out HB.out) | (with_reducible refine Kd.C_alloc ?_ _) | (with_reducible refine Kd.C_drewN ?_ _) | (with_reducible refine Kd.C_drew ?_))); (case side2 => exact HC1.out); rintro e w' ⟨rfl, ⟨nd, rfl⟩⟩; refine ⟨_, rfl, ?_⟩))
          go_ret
          exact ⟨by first | rfl | (simp [errW_none, errW_some] <;> rfl) | (simp [*, errW_none, errW_some] <;> rfl), by repeat (first | (with_reducible first | exact HB.out | apply below_alloc | apply pw_below_drewN | apply below_drew1) | exact HB.out)⟩
        · rw [if_neg c10] at H
          have c10b0 : (t329 == 0) = false := beq_eq_false_iff_ne.mpr c10
          have c10b1 : (t329 != 0) = true := bne_iff_ne.mpr c10
          obtain rfl := Option.some.inj H
          go_wp2_with (first | ((with_reducible refine gate_callee (f := 87) rfl ?_); refine goesL_ (some 16) rfl rfl Try.func87 (by kernel_rfl) rfl #[.slice A1 l1.length c1] rfl (by (try simp only [List.map_toArray, List.map_cons, List.map_nil]); first | done | rfl | (simp only [List.length_drop, List.length_take]; rfl)) ?_; (with_reducible refine (impl_sum.calls kj2 _ _ l1 t329 _ ?side1 ?side2 A9.out).mono ?_); (case side1 => repeat (first | exact (Kd.C_below HR1.out HB.out) | (with_reducible refine Kd.C_alloc ?_ _) | (with_reducible refine Kd.C_drewN ?_ _) | (with_reducible refine Kd.C_drew ?_))); (case side2 => exact HC1.out); rintro e w' ⟨rfl, ⟨nd, rfl⟩⟩; refine ⟨_, rfl, ?_⟩))
          go_ret
          exact ⟨by first | rfl | (simp [errW_none, errW_some] <;> rfl) | (simp [*, errW_none, errW_some] <;> rfl), by repeat (first | (with_reducible first | exact HB.out | apply below_alloc | apply pw_below_drewN | apply below_drew1) | exact HB.out)⟩

end Go.Proofs.Ytccnbjaaaaljoaa.P
