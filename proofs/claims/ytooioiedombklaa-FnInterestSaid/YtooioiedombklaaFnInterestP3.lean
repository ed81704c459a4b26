-- Written by a program of this session, with the kit's print.py, out of the translation. Not trusted: Lean checks it.
import Derived.Test.YtooioiedombklaaFnInterestP0
import Derived.Test.YtooioiedombklaaFnInterestP1
import Derived.Test.YtooioiedombklaaFnInterestP2
namespace Go.Proofs.Ytooioiedombklaa.P
open Go.RowKit Go.Proofs.YtooioiedombklaaW.PrintWords Go.Proofs.YtooioiedombklaaW.PrintLast Go.Proofs.YtooioiedombklaaW.PrintMore
attribute [local go_sem] max2_int min2_int max_two min_two max_three min_three max_four min_four   -- for this text's walks alone
set_option linter.unusedVariables false
set_option linter.unusedSimpArgs false

/-! ### spec_SimpleInterest: function 11 -/
def spec_SimpleInterest.j0 : Nat → Int → Int → Int → Bool → Option (Int × Int)
  | 0, _, _, _, _ => none
  | k + 1, x0, x1, x2, x20 => if x20 = true then (some (0, 2)) else ((spec_l04Interest.f x0 (wrap64 (x1 * x2))).bind fun t337 => ((spec_l04Result.f t337).bind fun bt338 => (some (bt338.1, bt338.2))))
def spec_SimpleInterest.f (k : Nat) (a0 : Int) (a1 : Int) (a2 : Int) : Option (Int × Int) := (spec_IsAmount.f a0).bind fun t334 => (if t334 = true then ((spec_l04Points.f a1).bind fun t335 => (if t335 = true then ((spec_l02Is.f a2).bind fun t336 => (spec_SimpleInterest.j0 k a0 a1 a2 (!t336))) else (spec_SimpleInterest.j0 k a0 a1 a2 true))) else (spec_SimpleInterest.j0 k a0 a1 a2 true))
theorem spec_SimpleInterest.mono_l : ∀ k, (∀ y0 y1 y2 y3, LeO (spec_SimpleInterest.j0 k y0 y1 y2 y3) (spec_SimpleInterest.j0 (k + 1) y0 y1 y2 y3))
  | 0 => fun _ _ _ _ r h => by simp [spec_SimpleInterest.j0] at h
  | k + 1 => by
    have ih0 := spec_SimpleInterest.mono_l k
    · intro y0 y1 y2 y3
      unfold spec_SimpleInterest.j0
      repeat' first
      | (with_reducible exact ih0 _ _ _ _)
      | (with_reducible exact LeO.refl _)
      | (with_reducible exact LeO.none _)
      | (with_reducible refine LeO.ite ?_ ?_)
      | (with_reducible refine LeO.bind ?_ (fun _ => ?_))
      | exact ih0 _ _ _ _
      | exact LeO.none _
      | refine LeO.ite ?_ ?_
      | refine LeO.bind ?_ (fun _ => ?_)
theorem spec_SimpleInterest.mono : ∀ a0 a1 a2 k, LeO (spec_SimpleInterest.f k a0 a1 a2) (spec_SimpleInterest.f (k + 1) a0 a1 a2) := by
  intro a0 a1 a2 k
  have ih0 := spec_SimpleInterest.mono_l k
  unfold spec_SimpleInterest.f
  repeat' first
      | (with_reducible exact ih0 _ _ _ _)
      | (with_reducible exact LeO.refl _)
      | (with_reducible exact LeO.none _)
      | (with_reducible refine LeO.ite ?_ ?_)
      | (with_reducible refine LeO.bind ?_ (fun _ => ?_))
      | exact ih0 _ _ _ _
      | exact LeO.none _
      | refine LeO.ite ?_ ?_
      | refine LeO.bind ?_ (fun _ => ?_)
set_option maxHeartbeats 8000000 in
set_option maxRecDepth 100000 in
theorem spec_SimpleInterest.calls (k : Nat) (a0 : Int) (a1 : Int) (a2 : Int) (r1 : Int) (r2 : Int) (w : World) (h : spec_SimpleInterest.f k a0 a1 a2 = some (r1, r2)) :
    Calls Try.prog 11 #[.int .i64 a0, .int .i64 a1, .int .i64 a2] w fun e w' => e = .returned (.tuple #[.int .i64 r1, .int .i64 r2]) ∧ Drawn0 w w' := by
  have H : ((spec_IsAmount.f a0).bind fun t334 => (if t334 = true then ((spec_l04Points.f a1).bind fun t335 => (if t335 = true then ((spec_l02Is.f a2).bind fun t336 => (spec_SimpleInterest.j0 k a0 a1 a2 (!t336))) else (spec_SimpleInterest.j0 k a0 a1 a2 true))) else (spec_SimpleInterest.j0 k a0 a1 a2 true))) = some (r1, r2) := h
  clear h
  have HC4 := Aside0.mk H
  clear H
  go_enter Try.func11, Try.ntmps11
  go_upto_region 1 with (fail)
  go_cut [20] (fun v20 wc => ∃ (kq : Nat) (x20_3 : Bool), v20 = .bool x20_3 ∧ Aside0 (spec_SimpleInterest.j0 kq a0 a1 a2 x20_3 = some (r1, r2)) ∧ Aside0 (kq ≤ k) ∧ Drawn0 w wc)
  case first =>
    have H := HC4.out
    clear HC4
    replace H := Option.bind_eq_some_iff.mp H
    obtain ⟨t334, A50, H⟩ := H
    replace H : (if t334 = true then ((spec_l04Points.f a1).bind fun t335 => (if t335 = true then ((spec_l02Is.f a2).bind fun t336 => (spec_SimpleInterest.j0 k a0 a1 a2 (!t336))) else (spec_SimpleInterest.j0 k a0 a1 a2 true))) else (spec_SimpleInterest.j0 k a0 a1 a2 true)) = some (r1, r2) := H
    have A5 := Aside0.mk A50
    clear A50
    by_cases c6 : t334 = true
    · subst c6
      have H1 : ((spec_l04Points.f a1).bind fun t335 => (if t335 = true then ((spec_l02Is.f a2).bind fun t336 => (spec_SimpleInterest.j0 k a0 a1 a2 (!t336))) else (spec_SimpleInterest.j0 k a0 a1 a2 true))) = some (r1, r2) := by rw [if_pos rfl] at H; exact H
      clear H
      have H := H1
      clear H1
      replace H := Option.bind_eq_some_iff.mp H
      obtain ⟨t335, A70, H⟩ := H
      replace H : (if t335 = true then ((spec_l02Is.f a2).bind fun t336 => (spec_SimpleInterest.j0 k a0 a1 a2 (!t336))) else (spec_SimpleInterest.j0 k a0 a1 a2 true)) = some (r1, r2) := H
      have A7 := Aside0.mk A70
      clear A70
      by_cases c8 : t335 = true
      · subst c8
        have H1 : ((spec_l02Is.f a2).bind fun t336 => (spec_SimpleInterest.j0 k a0 a1 a2 (!t336))) = some (r1, r2) := by rw [if_pos rfl] at H; exact H
        clear H
        have H := H1
        clear H1
        replace H := Option.bind_eq_some_iff.mp H
        obtain ⟨t336, A90, H⟩ := H
        replace H : (spec_SimpleInterest.j0 k a0 a1 a2 (!t336)) = some (r1, r2) := H
        have A9 := Aside0.mk A90
        clear A90
        have H' := Aside0.mk H
        clear H
        go_wp2_with (first | ((with_reducible refine gate_callee (f := 49) rfl ?_); refine goesL_ (some 9) rfl rfl Try.func49 (by kernel_rfl) rfl #[.int .i64 a0] rfl (by (try simp only [List.map_toArray, List.map_cons, List.map_nil]); first | done | rfl | (simp only [List.length_drop, List.length_take]; rfl)) ?_; (with_reducible refine (spec_IsAmount.calls a0 true _ A5.out).mono ?_); rintro e w' ⟨rfl, ⟨nd, rfl⟩⟩; refine ⟨_, rfl, ?_⟩) | (go_at_call 50; (with_reducible refine (spec_l04Points.calls a1 true _ A7.out).mono ?_); rintro e w' ⟨rfl, ⟨nd, rfl⟩⟩) | (go_at_call 51; (with_reducible refine (spec_l02Is.calls a2 t336 _ A9.out).mono ?_); rintro e w' ⟨rfl, ⟨nd, rfl⟩⟩))
        go_meet
        case rel => exact ⟨_, (!t336), (by first | rfl | (simp; done) | (simp [*]; done)), H', ⟨by first | omega | exact Nat.le_refl _⟩, by repeat (first | exact Drawn0.refl _ | apply Drawn0.step)⟩
      · replace c8 := Bool.eq_false_iff.mpr c8
        subst c8
        have H1 : (spec_SimpleInterest.j0 k a0 a1 a2 true) = some (r1, r2) := by rw [if_neg (show ¬ (false = true) by decide)] at H; exact H
        clear H
        have H := H1
        clear H1
        have H' := Aside0.mk H
        clear H
        go_wp2_with (first | ((with_reducible refine gate_callee (f := 49) rfl ?_); refine goesL_ (some 9) rfl rfl Try.func49 (by kernel_rfl) rfl #[.int .i64 a0] rfl (by (try simp only [List.map_toArray, List.map_cons, List.map_nil]); first | done | rfl | (simp only [List.length_drop, List.length_take]; rfl)) ?_; (with_reducible refine (spec_IsAmount.calls a0 true _ A5.out).mono ?_); rintro e w' ⟨rfl, ⟨nd, rfl⟩⟩; refine ⟨_, rfl, ?_⟩) | (go_at_call 50; (with_reducible refine (spec_l04Points.calls a1 false _ A7.out).mono ?_); rintro e w' ⟨rfl, ⟨nd, rfl⟩⟩))
        go_meet
        case rel => exact ⟨_, (true), (by first | rfl | (simp; done) | (simp [*]; done)), H', ⟨by first | omega | exact Nat.le_refl _⟩, by repeat (first | exact Drawn0.refl _ | apply Drawn0.step)⟩
    · replace c6 := Bool.eq_false_iff.mpr c6
      subst c6
      have H1 : (spec_SimpleInterest.j0 k a0 a1 a2 true) = some (r1, r2) := by rw [if_neg (show ¬ (false = true) by decide)] at H; exact H
      clear H
      have H := H1
      clear H1
      have H' := Aside0.mk H
      clear H
      go_wp2_with (first | ((with_reducible refine gate_callee (f := 49) rfl ?_); refine goesL_ (some 9) rfl rfl Try.func49 (by kernel_rfl) rfl #[.int .i64 a0] rfl (by (try simp only [List.map_toArray, List.map_cons, List.map_nil]); first | done | rfl | (simp only [List.length_drop, List.length_take]; rfl)) ?_; (with_reducible refine (spec_IsAmount.calls a0 false _ A5.out).mono ?_); rintro e w' ⟨rfl, ⟨nd, rfl⟩⟩; refine ⟨_, rfl, ?_⟩))
      go_meet
      case rel => exact ⟨_, (true), (by first | rfl | (simp; done) | (simp [*]; done)), H', ⟨by first | omega | exact Nat.le_refl _⟩, by repeat (first | exact Drawn0.refl _ | apply Drawn0.step)⟩
  case rest =>
    clear HC4
    try clear c1
    try clear p2
    try clear c4
    try clear c6
    try clear c8
    obtain ⟨kq, x20_3, rfl, HA, HJ3, ⟨mc3, rfl⟩⟩ := hcut
    cases kq with
    | zero => exact absurd HA.out (by simp [spec_SimpleInterest.j0])
    | succ kj3 =>
      have H := HA.out
      clear HA
      simp only [spec_SimpleInterest.j0] at H
      by_cases c10 : x20_3 = true
      · subst c10
        have H1 : (some (0, 2)) = some (r1, r2) := by rw [if_pos rfl] at H; exact H
        clear H
        have H := H1
        clear H1
        simp only [Option.some.injEq, Prod.mk.injEq] at H
        obtain ⟨rfl, rfl⟩ := H
        go_wp2
        go_ret2
        exact ⟨by first | rfl | (simp; done) | (simp [*]; done), by repeat (first | exact Drawn0.refl _ | apply Drawn0.step)⟩
      · replace c10 := Bool.eq_false_iff.mpr c10
        subst c10
        have H1 : ((spec_l04Interest.f a0 (wrap64 (a1 * a2))).bind fun t337 => ((spec_l04Result.f t337).bind fun bt338 => (some (bt338.1, bt338.2)))) = some (r1, r2) := by rw [if_neg (show ¬ (false = true) by decide)] at H; exact H
        clear H
        have H := H1
        clear H1
        replace H := Option.bind_eq_some_iff.mp H
        obtain ⟨t337, A110, H⟩ := H
        replace H : ((spec_l04Result.f t337).bind fun bt338 => (some (bt338.1, bt338.2))) = some (r1, r2) := H
        have A11 := Aside0.mk A110
        clear A110
        replace H := Option.bind_eq_some_iff.mp H
        obtain ⟨⟨t338, t339⟩, A120, H⟩ := H
        replace H : (some (t338, t339)) = some (r1, r2) := H
        have A12 := Aside0.mk A120
        clear A120
        simp only [Option.some.injEq, Prod.mk.injEq] at H
        obtain ⟨rfl, rfl⟩ := H
        go_wp2_with (first | ((with_reducible refine gate_callee (f := 41) rfl ?_); refine goesL_ (some 25) rfl rfl Try.func41 (by kernel_rfl) rfl #[.int .i64 a0, .int .i64 (wrap64 (a1 * a2))] rfl (by (try simp only [List.map_toArray, List.map_cons, List.map_nil]); first | done | rfl | (simp only [List.length_drop, List.length_take]; rfl)) ?_; (with_reducible refine (spec_l04Interest.calls a0 (wrap64 (a1 * a2)) t337 _ A11.out).mono ?_); rintro e w' ⟨rfl, ⟨nd, rfl⟩⟩; refine ⟨_, rfl, ?_⟩) | ((with_reducible refine gate_callee (f := 40) rfl ?_); refine goesL_ (some 26) rfl rfl Try.func40 (by kernel_rfl) rfl #[.int .i64 t337] rfl (by (try simp only [List.map_toArray, List.map_cons, List.map_nil]); first | done | rfl | (simp only [List.length_drop, List.length_take]; rfl)) ?_; (with_reducible refine (spec_l04Result.calls t337 t338 t339 _ A12.out).mono ?_); rintro e w' ⟨rfl, ⟨nd, rfl⟩⟩; refine ⟨_, rfl, ?_⟩))
        go_ret2
        exact ⟨by first | rfl | (simp; done) | (simp [*]; done), by repeat (first | exact Drawn0.refl _ | apply Drawn0.step)⟩

/-! ### spec_DrawWeightOf: function 12 -/
def spec_DrawWeightOf.f (k : Nat) (l0 : List Int) : Option ((List (S37)) × Int × Int) := (spec_DrawInterestBetween.f k l0).bind fun bt340 => (some (bt340.1, bt340.2.2.1, bt340.2.2.2))
theorem spec_DrawWeightOf.mono : ∀ a0 k, LeO (spec_DrawWeightOf.f k a0) (spec_DrawWeightOf.f (k + 1) a0) := by
  intro a0 k
  unfold spec_DrawWeightOf.f
  repeat' first
      | (with_reducible exact spec_DrawInterestBetween.mono _ _)
      | (with_reducible exact LeO.refl _)
      | (with_reducible exact LeO.none _)
      | (with_reducible refine LeO.ite ?_ ?_)
      | (with_reducible refine LeO.bind ?_ (fun _ => ?_))
      | exact spec_DrawInterestBetween.mono _ _
      | exact LeO.none _
      | refine LeO.ite ?_ ?_
      | refine LeO.bind ?_ (fun _ => ?_)
set_option maxHeartbeats 8000000 in
set_option maxRecDepth 100000 in
theorem spec_DrawWeightOf.calls (k : Nat) (A0 : Option Addr) (c0 : Nat) (l0 : List Int) (r1 : List (S37)) (r2 : Int) (r3 : Int) (w : World) (hr0 : Kd.C (Kd.int .u8) w A0 l0.length l0) (hc0 : l0.length ≤ c0) (h : spec_DrawWeightOf.f k l0 = some (r1, r2, r3)) :
    Calls Try.prog 12 #[.slice A0 l0.length c0] w fun e w' => ∃ v0_ : Value, e = .returned (.tuple #[v0_, .int .i64 r2, .int .i64 r3]) ∧ Kd.R k37 37 w' w.heap.size (fun _ => True) v0_ r1 ∧ Below w.heap.size w w' := by
  have HR0 := Aside0.mk hr0
  have HC0 := Aside0.mk hc0
  clear hr0 hc0
  have HB := Aside0.mk (Below.refl w.heap.size w)
  have H : ((spec_DrawInterestBetween.f k l0).bind fun bt340 => (some (bt340.1, bt340.2.2.1, bt340.2.2.2))) = some (r1, r2, r3) := h
  clear h
  replace H := Option.bind_eq_some_iff.mp H
  obtain ⟨⟨t340, t341, t342, t343⟩, A20, H⟩ := H
  replace H : (some (t340, t342, t343)) = some (r1, r2, r3) := H
  have A2 := Aside0.mk A20
  clear A20
  simp only [Option.some.injEq, Prod.mk.injEq] at H
  obtain ⟨rfl, rfl, rfl⟩ := H
  go_enter Try.func12, Try.ntmps12
  go_wp2_with (first | ((with_reducible refine gate_callee (f := 6) rfl ?_); refine goesL_ (some 11) rfl rfl Try.func6 (by kernel_rfl) rfl #[.slice A0 l0.length c0] rfl (by (try simp only [List.map_toArray, List.map_cons, List.map_nil]); first | done | rfl | (simp only [List.length_drop, List.length_take]; rfl)) ?_; (with_reducible refine (spec_DrawInterestBetween.calls k _ _ l0 t340 t341 t342 t343 _ ?side1 ?side2 A2.out).mono ?_); (case side1 => repeat (first | exact HR0.out | (with_reducible refine Kd.C_alloc ?_ _) | (with_reducible refine Kd.C_drewN ?_ _) | (with_reducible refine Kd.C_drew ?_))); (case side2 => exact HC0.out); rintro e w3 ⟨v344, rfl, ho0, hb⟩; refine ⟨_, rfl, ?_⟩; have n0_ := Aside0.mk (Kd.R_lower ho0 (below_size (by repeat (first | (with_reducible first | exact HB.out | apply below_alloc | apply pw_below_drewN | apply below_drew1) | exact HB.out)))); have n1_ := Aside0.mk (below_step (by repeat (first | (with_reducible first | exact HB.out | apply below_alloc | apply pw_below_drewN | apply below_drew1) | exact HB.out)) hb); clear HB; have HO345 := n0_; have HB := n1_; clear n0_ n1_; (try clear hb); (try clear hb2); (try clear hk); (try clear hi); (try clear ho0)))
  go_ret3
  exact ⟨_, by first | rfl | (simp [errW_none, errW_some] <;> rfl) | (simp [*, errW_none, errW_some] <;> rfl), by (with_reducible repeat (first | apply Kd.R_alloc | apply Kd.R_drewN | apply Kd.R_drew)); exact HO345.out, by repeat (first | (with_reducible first | exact HB.out | apply below_alloc | apply pw_below_drewN | apply below_drew1) | exact HB.out)⟩

/-! ### impl_WeightOf: function 13 -/
def impl_WeightOf.f (k : Nat) (l0 : List (S37)) (a1 : Int) (a2 : Int) : Option (Int × Int) := (impl_scheduled.f k l0 0 (([a1, a2] : List Int))).bind fun t349 => (if t349 = 0 then ((impl_weight.f k l0 a1 a2).bind fun t350 => (some (t350, 0))) else (some (0, t349)))
theorem impl_WeightOf.mono : ∀ a0 a1 a2 k, LeO (impl_WeightOf.f k a0 a1 a2) (impl_WeightOf.f (k + 1) a0 a1 a2) := by
  intro a0 a1 a2 k
  unfold impl_WeightOf.f
  repeat' first
      | (with_reducible exact impl_scheduled.mono _ _ _ _)
      | (with_reducible exact impl_weight.mono _ _ _ _)
      | (with_reducible exact LeO.refl _)
      | (with_reducible exact LeO.none _)
      | (with_reducible refine LeO.ite ?_ ?_)
      | (with_reducible refine LeO.bind ?_ (fun _ => ?_))
      | exact impl_scheduled.mono _ _ _ _
      | exact impl_weight.mono _ _ _ _
      | exact LeO.none _
      | refine LeO.ite ?_ ?_
      | refine LeO.bind ?_ (fun _ => ?_)
set_option maxHeartbeats 8000000 in
set_option maxRecDepth 100000 in
theorem impl_WeightOf.calls (k : Nat) (A0 : Option Addr) (c0 : Nat) (l0 : List (S37)) (a1 : Int) (a2 : Int) (r1 : Int) (r2 : Int) (w : World) (hr0 : Kd.C k37 w A0 l0.length l0) (hc0 : l0.length ≤ c0) (h : impl_WeightOf.f k l0 a1 a2 = some (r1, r2)) :
    Calls Try.prog 13 #[.slice A0 l0.length c0, .int .i64 a1, .int .i64 a2] w fun e w' => e = .returned (.tuple #[.int .i64 r1, .int .i64 r2]) ∧ Below w.heap.size w w' := by
  have HR0 := Aside0.mk hr0
  have HC0 := Aside0.mk hc0
  clear hr0 hc0
  have HB := Aside0.mk (Below.refl w.heap.size w)
  have H : ((impl_scheduled.f k l0 0 (([a1, a2] : List Int))).bind fun t349 => (if t349 = 0 then ((impl_weight.f k l0 a1 a2).bind fun t350 => (some (t350, 0))) else (some (0, t349)))) = some (r1, r2) := h
  clear h
  obtain ⟨y346, hy346⟩ : ∃ y_ : List Int, y_ = (([a1, a2] : List Int)) := ⟨_, rfl⟩
  replace H : ((impl_scheduled.f k l0 0 y346).bind fun t349 => (if t349 = 0 then ((impl_weight.f k l0 a1 a2).bind fun t350 => (some (t350, 0))) else (some (0, t349)))) = some (r1, r2) := by first | (rw [hy346]; with_reducible exact H) | (have H2_ := (Option.bind_some _ _).symm.trans H; rw [hy346]; with_reducible exact H2_) | (have H2_ := (Option.bind_some _ _).symm.trans H; with_reducible exact H2_) | with_reducible exact H | (rw [hy346]; exact H) | exact H
  have Ny346 := Aside0.mk hy346
  clear hy346
  replace H := Option.bind_eq_some_iff.mp H
  obtain ⟨t349, A40, H⟩ := H
  replace H : (if t349 = 0 then ((impl_weight.f k l0 a1 a2).bind fun t350 => (some (t350, 0))) else (some (0, t349))) = some (r1, r2) := H
  have A4 := Aside0.mk A40
  clear A40
  by_cases c5 : t349 = 0
  · rw [if_pos c5] at H
    have c5b0 : (t349 == 0) = true := beq_iff_eq.mpr c5
    have c5b1 : (t349 != 0) = false := bne_eq_false_iff_eq.mpr c5
    clear c5
    replace H := Option.bind_eq_some_iff.mp H
    obtain ⟨t350, A60, H⟩ := H
    replace H : (some (t350, 0)) = some (r1, r2) := H
    have A6 := Aside0.mk A60
    clear A60
    simp only [Option.some.injEq, Prod.mk.injEq] at H
    obtain ⟨rfl, rfl⟩ := H
    go_enter Try.func13, Try.ntmps13
    go_wp2_with (first | ((with_reducible refine gate_dst (N := 12) rfl ?_); refine Kd.R_lit (Kd.int .i64) _ 2 ?hg (N := 12) ?hd (xs := ([a1, a2] : List Int)) (inner := [.int .i64 a1, .int .i64 a2]) (ok := fun _ => True) (okp := fun _ => True) ?hr ?hp (fun _ hk => hk) trivial (Below.refl _ _) (Nat.le_refl _) (by simp) ?_; (case hd => rfl); (case hg => rfl); (case hr => first | (go_simp; done) | (go_simp; rfl)); (case hp => exact (Reps.one (show Kd.M (Kd.int .i64) _ _ _ a1 [.int .i64 a1] from rfl) (Reps.one (show Kd.M (Kd.int .i64) _ _ _ a2 [.int .i64 a2] from rfl) (Reps.none _ _)))); intro v347 w7 ho8 hb hg_ hnew_; clear hg_ hnew_; (first | rw [← Ny346.out] at ho8 | (simp only [Int.reduceToNat] at ho8; rw [← Ny346.out] at ho8)); have n0_ := Aside0.mk (Kd.R_lower ho8 (below_size (by repeat (first | (with_reducible first | exact HB.out | apply below_alloc | apply pw_below_drewN | apply below_drew1) | exact HB.out)))); have n1_ := Aside0.mk (below_step (by repeat (first | (with_reducible first | exact HB.out | apply below_alloc | apply pw_below_drewN | apply below_drew1) | exact HB.out)) hb); clear HB; have HO348 := n0_; have HB := n1_; clear n0_ n1_; clear hb ho8; obtain ⟨Ao9, co9, eo9⟩ := Kd.R_slice HO348.out; subst eo9) | ((with_reducible refine gate_callee (f := 35) rfl ?_); refine goesL_ (some 13) rfl rfl Try.func35 (by kernel_rfl) rfl #[.slice A0 l0.length c0, .int .i64 0, .slice Ao9 y346.length co9] rfl (by (try simp only [List.map_toArray, List.map_cons, List.map_nil]); first | done | rfl | (simp only [List.length_drop, List.length_take]; rfl)) ?_; (with_reducible refine (impl_scheduled.calls k _ _ l0 0 _ _ y346 t349 _ ?side1 ?side2 ?side3 ?side4 A4.out).mono ?_); (case side1 => repeat (first | exact (Kd.C_below HR0.out HB.out) | (with_reducible refine Kd.C_alloc ?_ _) | (with_reducible refine Kd.C_drewN ?_ _) | (with_reducible refine Kd.C_drew ?_))); (case side2 => exact HC0.out); (case side3 => repeat (first | exact (Kd.R_reads' HO348.out).2.2 | (with_reducible refine Kd.C_alloc ?_ _) | (with_reducible refine Kd.C_drewN ?_ _) | (with_reducible refine Kd.C_drew ?_))); (case side4 => exact (Kd.R_reads' HO348.out).2.1); rintro e w10 ⟨rfl, hb⟩; refine ⟨_, rfl, ?_⟩; have n0_ := Aside0.mk (Kd.R_below (by (with_reducible repeat (first | apply Kd.R_alloc | apply Kd.R_drewN | apply Kd.R_drew)); exact HO348.out) hb); have n1_ := Aside0.mk (below_step (by repeat (first | (with_reducible first | exact HB.out | apply below_alloc | apply pw_below_drewN | apply below_drew1) | exact HB.out)) hb); clear HO348; clear HB; have HO348 := n0_; have HB := n1_; clear n0_ n1_; (try clear hb); (try clear hb2); (try clear hk); (try clear hi)) | ((with_reducible refine gate_callee (f := 38) rfl ?_); refine goesL_ (some 20) rfl rfl Try.func38 (by kernel_rfl) rfl #[.slice A0 l0.length c0, .int .i64 a1, .int .i64 a2] rfl (by (try simp only [List.map_toArray, List.map_cons, List.map_nil]); first | done | rfl | (simp only [List.length_drop, List.length_take]; rfl)) ?_; (with_reducible refine (impl_weight.calls k _ _ l0 a1 a2 t350 _ ?side1 ?side2 A6.out).mono ?_); (case side1 => repeat (first | exact (Kd.C_below HR0.out HB.out) | (with_reducible refine Kd.C_alloc ?_ _) | (with_reducible refine Kd.C_drewN ?_ _) | (with_reducible refine Kd.C_drew ?_))); (case side2 => exact HC0.out); rintro e w11 ⟨rfl, hb⟩; refine ⟨_, rfl, ?_⟩; have n0_ := Aside0.mk (Kd.R_below (by (with_reducible repeat (first | apply Kd.R_alloc | apply Kd.R_drewN | apply Kd.R_drew)); exact HO348.out) hb); have n1_ := Aside0.mk (below_step (by repeat (first | (with_reducible first | exact HB.out | apply below_alloc | apply pw_below_drewN | apply below_drew1) | exact HB.out)) hb); clear HO348; clear HB; have HO348 := n0_; have HB := n1_; clear n0_ n1_; (try clear hb); (try clear hb2); (try clear hk); (try clear hi)))
    go_ret2
    exact ⟨by first | rfl | (simp [errW_none, errW_some] <;> rfl) | (simp [*, errW_none, errW_some] <;> rfl), by repeat (first | (with_reducible first | exact HB.out | apply below_alloc | apply pw_below_drewN | apply below_drew1) | exact HB.out)⟩
  · rw [if_neg c5] at H
    have c5b0 : (t349 == 0) = false := beq_eq_false_iff_ne.mpr c5
    have c5b1 : (t349 != 0) = true := bne_iff_ne.mpr c5
    simp only [Option.some.injEq, Prod.mk.injEq] at H
    obtain ⟨rfl, rfl⟩ := H
    go_enter Try.func13, Try.ntmps13
    go_wp2_with (first | ((with_reducible refine gate_dst (N := 12) rfl ?_); refine Kd.R_lit (Kd.int .i64) _ 2 ?hg (N := 12) ?hd (xs := ([a1, a2] : List Int)) (inner := [.int .i64 a1, .int .i64 a2]) (ok := fun _ => True) (okp := fun _ => True) ?hr ?hp (fun _ hk => hk) trivial (Below.refl _ _) (Nat.le_refl _) (by simp) ?_; (case hd => rfl); (case hg => rfl); (case hr => first | (go_simp; done) | (go_simp; rfl)); (case hp => exact (Reps.one (show Kd.M (Kd.int .i64) _ _ _ a1 [.int .i64 a1] from rfl) (Reps.one (show Kd.M (Kd.int .i64) _ _ _ a2 [.int .i64 a2] from rfl) (Reps.none _ _)))); intro v347 w12 ho13 hb hg_ hnew_; clear hg_ hnew_; (first | rw [← Ny346.out] at ho13 | (simp only [Int.reduceToNat] at ho13; rw [← Ny346.out] at ho13)); have n0_ := Aside0.mk (Kd.R_lower ho13 (below_size (by repeat (first | (with_reducible first | exact HB.out | apply below_alloc | apply pw_below_drewN | apply below_drew1) | exact HB.out)))); have n1_ := Aside0.mk (below_step (by repeat (first | (with_reducible first | exact HB.out | apply below_alloc | apply pw_below_drewN | apply below_drew1) | exact HB.out)) hb); clear HB; have HO348 := n0_; have HB := n1_; clear n0_ n1_; clear hb ho13; obtain ⟨Ao14, co14, eo14⟩ := Kd.R_slice HO348.out; subst eo14) | ((with_reducible refine gate_callee (f := 35) rfl ?_); refine goesL_ (some 13) rfl rfl Try.func35 (by kernel_rfl) rfl #[.slice A0 l0.length c0, .int .i64 0, .slice Ao14 y346.length co14] rfl (by (try simp only [List.map_toArray, List.map_cons, List.map_nil]); first | done | rfl | (simp only [List.length_drop, List.length_take]; rfl)) ?_; (with_reducible refine (impl_scheduled.calls k _ _ l0 0 _ _ y346 t349 _ ?side1 ?side2 ?side3 ?side4 A4.out).mono ?_); (case side1 => repeat (first | exact (Kd.C_below HR0.out HB.out) | (with_reducible refine Kd.C_alloc ?_ _) | (with_reducible refine Kd.C_drewN ?_ _) | (with_reducible refine Kd.C_drew ?_))); (case side2 => exact HC0.out); (case side3 => repeat (first | exact (Kd.R_reads' HO348.out).2.2 | (with_reducible refine Kd.C_alloc ?_ _) | (with_reducible refine Kd.C_drewN ?_ _) | (with_reducible refine Kd.C_drew ?_))); (case side4 => exact (Kd.R_reads' HO348.out).2.1); rintro e w15 ⟨rfl, hb⟩; refine ⟨_, rfl, ?_⟩; have n0_ := Aside0.mk (Kd.R_below (by (with_reducible repeat (first | apply Kd.R_alloc | apply Kd.R_drewN | apply Kd.R_drew)); exact HO348.out) hb); have n1_ := Aside0.mk (below_step (by repeat (first | (with_reducible first | exact HB.out | apply below_alloc | apply pw_below_drewN | apply below_drew1) | exact HB.out)) hb); clear HO348; clear HB; have HO348 := n0_; have HB := n1_; clear n0_ n1_; (try clear hb); (try clear hb2); (try clear hk); (try clear hi)))
    go_ret2
    exact ⟨by first | rfl | (simp [errW_none, errW_some] <;> rfl) | (simp [*, errW_none, errW_some] <;> rfl), by repeat (first | (with_reducible first | exact HB.out | apply below_alloc | apply pw_below_drewN | apply below_drew1) | exact HB.out)⟩

/-! ### spec_WeightOf: function 14 -/
def spec_WeightOf.f (k : Nat) (l0 : List (S37)) (a1 : Int) (a2 : Int) : Option (Int × Int) := (spec_l04Code.f k l0 0 a1 a2).bind fun t351 => (if t351 = 0 then ((spec_l04Weight.f k l0 a1 a2).bind fun t352 => (some (t352, 0))) else (some (0, t351)))
theorem spec_WeightOf.mono : ∀ a0 a1 a2 k, LeO (spec_WeightOf.f k a0 a1 a2) (spec_WeightOf.f (k + 1) a0 a1 a2) := by
  intro a0 a1 a2 k
  unfold spec_WeightOf.f
  repeat' first
      | (with_reducible exact spec_l04Code.mono _ _ _ _ _)
      | (with_reducible exact spec_l04Weight.mono _ _ _ _)
      | (with_reducible exact LeO.refl _)
      | (with_reducible exact LeO.none _)
      | (with_reducible refine LeO.ite ?_ ?_)
      | (with_reducible refine LeO.bind ?_ (fun _ => ?_))
      | exact spec_l04Code.mono _ _ _ _ _
      | exact spec_l04Weight.mono _ _ _ _
      | exact LeO.none _
      | refine LeO.ite ?_ ?_
      | refine LeO.bind ?_ (fun _ => ?_)
set_option maxHeartbeats 8000000 in
set_option maxRecDepth 100000 in
theorem spec_WeightOf.calls (k : Nat) (A0 : Option Addr) (c0 : Nat) (l0 : List (S37)) (a1 : Int) (a2 : Int) (r1 : Int) (r2 : Int) (w : World) (hr0 : Kd.C k37 w A0 l0.length l0) (hc0 : l0.length ≤ c0) (h : spec_WeightOf.f k l0 a1 a2 = some (r1, r2)) :
    Calls Try.prog 14 #[.slice A0 l0.length c0, .int .i64 a1, .int .i64 a2] w fun e w' => e = .returned (.tuple #[.int .i64 r1, .int .i64 r2]) ∧ Below w.heap.size w w' := by
  have HR0 := Aside0.mk hr0
  have HC0 := Aside0.mk hc0
  clear hr0 hc0
  have HB := Aside0.mk (Below.refl w.heap.size w)
  have H : ((spec_l04Code.f k l0 0 a1 a2).bind fun t351 => (if t351 = 0 then ((spec_l04Weight.f k l0 a1 a2).bind fun t352 => (some (t352, 0))) else (some (0, t351)))) = some (r1, r2) := h
  clear h
  replace H := Option.bind_eq_some_iff.mp H
  obtain ⟨t351, A40, H⟩ := H
  replace H : (if t351 = 0 then ((spec_l04Weight.f k l0 a1 a2).bind fun t352 => (some (t352, 0))) else (some (0, t351))) = some (r1, r2) := H
  have A4 := Aside0.mk A40
  clear A40
  by_cases c5 : t351 = 0
  · rw [if_pos c5] at H
    have c5b0 : (t351 == 0) = true := beq_iff_eq.mpr c5
    have c5b1 : (t351 != 0) = false := bne_eq_false_iff_eq.mpr c5
    clear c5
    replace H := Option.bind_eq_some_iff.mp H
    obtain ⟨t352, A60, H⟩ := H
    replace H : (some (t352, 0)) = some (r1, r2) := H
    have A6 := Aside0.mk A60
    clear A60
    simp only [Option.some.injEq, Prod.mk.injEq] at H
    obtain ⟨rfl, rfl⟩ := H
    go_enter Try.func14, Try.ntmps14
    go_wp2_with (first | ((with_reducible refine gate_callee (f := 39) rfl ?_); refine goesL_ (some 12) rfl rfl Try.func39 (by kernel_rfl) rfl #[.slice A0 l0.length c0, .int .i64 0, .int .i64 a1, .int .i64 a2] rfl (by (try simp only [List.map_toArray, List.map_cons, List.map_nil]); first | done | rfl | (simp only [List.length_drop, List.length_take]; rfl)) ?_; (with_reducible refine (spec_l04Code.calls k _ _ l0 0 a1 a2 t351 _ ?side1 ?side2 A4.out).mono ?_); (case side1 => repeat (first | exact HR0.out | (with_reducible refine Kd.C_alloc ?_ _) | (with_reducible refine Kd.C_drewN ?_ _) | (with_reducible refine Kd.C_drew ?_))); (case side2 => exact HC0.out); rintro e w7 ⟨rfl, hb⟩; refine ⟨_, rfl, ?_⟩; have n0_ := Aside0.mk (below_step (by repeat (first | (with_reducible first | exact HB.out | apply below_alloc | apply pw_below_drewN | apply below_drew1) | exact HB.out)) hb); clear HB; have HB := n0_; clear n0_; (try clear hb); (try clear hb2); (try clear hk); (try clear hi)) | ((with_reducible refine gate_callee (f := 42) rfl ?_); refine goesL_ (some 19) rfl rfl Try.func42 (by kernel_rfl) rfl #[.slice A0 l0.length c0, .int .i64 a1, .int .i64 a2] rfl (by (try simp only [List.map_toArray, List.map_cons, List.map_nil]); first | done | rfl | (simp only [List.length_drop, List.length_take]; rfl)) ?_; (with_reducible refine (spec_l04Weight.calls k _ _ l0 a1 a2 t352 _ ?side1 ?side2 A6.out).mono ?_); (case side1 => repeat (first | exact (Kd.C_below HR0.out HB.out) | (with_reducible refine Kd.C_alloc ?_ _) | (with_reducible refine Kd.C_drewN ?_ _) | (with_reducible refine Kd.C_drew ?_))); (case side2 => exact HC0.out); rintro e w8 ⟨rfl, hb⟩; refine ⟨_, rfl, ?_⟩; have n0_ := Aside0.mk (below_step (by repeat (first | (with_reducible first | exact HB.out | apply below_alloc | apply pw_below_drewN | apply below_drew1) | exact HB.out)) hb); clear HB; have HB := n0_; clear n0_; (try clear hb); (try clear hb2); (try clear hk); (try clear hi)))
    go_ret2
    exact ⟨by first | rfl | (simp [errW_none, errW_some] <;> rfl) | (simp [*, errW_none, errW_some] <;> rfl), by repeat (first | (with_reducible first | exact HB.out | apply below_alloc | apply pw_below_drewN | apply below_drew1) | exact HB.out)⟩
  · rw [if_neg c5] at H
    have c5b0 : (t351 == 0) = false := beq_eq_false_iff_ne.mpr c5
    have c5b1 : (t351 != 0) = true := bne_iff_ne.mpr c5
    simp only [Option.some.injEq, Prod.mk.injEq] at H
    obtain ⟨rfl, rfl⟩ := H
    go_enter Try.func14, Try.ntmps14
    go_wp2_with (first | ((with_reducible refine gate_callee (f := 39) rfl ?_); refine goesL_ (some 12) rfl rfl Try.func39 (by kernel_rfl) rfl #[.slice A0 l0.length c0, .int .i64 0, .int .i64 a1, .int .i64 a2] rfl (by (try simp only [List.map_toArray, List.map_cons, List.map_nil]); first | done | rfl | (simp only [List.length_drop, List.length_take]; rfl)) ?_; (with_reducible refine (spec_l04Code.calls k _ _ l0 0 a1 a2 t351 _ ?side1 ?side2 A4.out).mono ?_); (case side1 => repeat (first | exact HR0.out | (with_reducible refine Kd.C_alloc ?_ _) | (with_reducible refine Kd.C_drewN ?_ _) | (with_reducible refine Kd.C_drew ?_))); (case side2 => exact HC0.out); rintro e w9 ⟨rfl, hb⟩; refine ⟨_, rfl, ?_⟩; have n0_ := Aside0.mk (below_step (by repeat (first | (with_reducible first | exact HB.out | apply below_alloc | apply pw_below_drewN | apply below_drew1) | exact HB.out)) hb); clear HB; have HB := n0_; clear n0_; (try clear hb); (try clear hb2); (try clear hk); (try clear hi)))
    go_ret2
    exact ⟨by first | rfl | (simp [errW_none, errW_some] <;> rfl) | (simp [*, errW_none, errW_some] <;> rfl), by repeat (first | (with_reducible first | exact HB.out | apply below_alloc | apply pw_below_drewN | apply below_drew1) | exact HB.out)⟩

/-- A state of type 69 at block g of W; what its slices lead to came in by w0. -/
def IsS69 (w0 W : World) (g : Nat) (f0 : List Int) (f1 : Int) (f2 : Int) : Prop := ∃ A0 c0, W.heap[g]? = some (.cells #[.slice A0 f0.length c0, .int .i64 f1, .int .u64 f2] 69 (0, 0)) ∧ w0.heap.size ≤ g ∧ Kd.C (Kd.int .u8) w0 A0 f0.length f0
theorem IsS69.grown {w0 W : World} {g : Nat} {f0 : List Int} {f1 : Int} {f2 : Int} {W1 : World} {row : Option Nat} (h : IsS69 w0 W g f0 f1 f2) (hw : W.grownBy W1 row) (hne : some g ≠ row) : IsS69 w0 W1 g f0 f1 f2 := by
  obtain ⟨A0, c0, hb, hg, hr0⟩ := h
  exact ⟨A0, c0, blk_grown hb hw hne, hg, hr0⟩
theorem IsS69.own_neN {w0 W : World} {g : Nat} {f0 : List Int} {f1 : Int} {f2 : Int} {α : Type} {d : Kd α} {e : Nat} {base : Nat} {ok : Nat → Prop} {v : Value} {xs : List α} (h : IsS69 w0 W g f0 f1 f2) (ho : Kd.N d e W base ok v xs) (ht : e ≠ 69) : some g ≠ v.ownBlock := by
  obtain ⟨A0, c0, hb, hg, hr0⟩ := h
  exact Kd.N_ne ho hb ht
theorem IsS69.fresh {w0 W : World} {g : Nat} {f0 : List Int} {f1 : Int} {f2 : Int} (h : IsS69 w0 W g f0 f1 f2) : ∀ k, W.heap.size ≤ k → k ≠ g := by
  obtain ⟨A0, c0, hb, hg, hr0⟩ := h
  exact Kd.freshB hb
theorem IsS69.kept {w0 W : World} {g : Nat} {f0 : List Int} {f1 : Int} {f2 : Int} {W1 : World} {S : Nat → Prop} (h : IsS69 w0 W g f0 f1 f2) (hk : Kept W W1 S) (hne : ¬ S g) : IsS69 w0 W1 g f0 f1 f2 := by
  obtain ⟨A0, c0, hb, hg, hr0⟩ := h
  exact ⟨A0, c0, blk_kept hb hk hne, hg, hr0⟩
theorem IsS69.below {w0 W : World} {g : Nat} {f0 : List Int} {f1 : Int} {f2 : Int} {W1 : World} (h : IsS69 w0 W g f0 f1 f2) (hw : Below W.heap.size W W1) : IsS69 w0 W1 g f0 f1 f2 := h.grown (grown_of_below hw none) (by simp)
theorem IsS69.alloc {w0 W : World} {g : Nat} {f0 : List Int} {f1 : Int} {f2 : Int} (h : IsS69 w0 W g f0 f1 f2) (o : Obj) : IsS69 w0 (W.alloc o) g f0 f1 f2 := h.below (below_alloc (Below.refl _ _) o)
theorem IsS69.drewN {w0 W : World} {g : Nat} {f0 : List Int} {f1 : Int} {f2 : Int} (h : IsS69 w0 W g f0 f1 f2) (m : Nat) : IsS69 w0 (W.drewN m) g f0 f1 f2 := h
theorem IsS69.drew {w0 W : World} {g : Nat} {f0 : List Int} {f1 : Int} {f2 : Int} (h : IsS69 w0 W g f0 f1 f2) : IsS69 w0 W.drew g f0 f1 f2 := h
theorem IsS69.at_ {w0 W : World} {g : Nat} {f0 : List Int} {f1 : Int} {f2 : Int} {w' : World} {m : Nat} (hq : W.drewN m = w') (h : IsS69 w0 W g f0 f1 f2) : IsS69 w0 w' g f0 f1 f2 := by subst hq; exact IsS69.drewN h m
theorem IsS69.apart {w0 W : World} {g : Nat} {f0 : List Int} {f1 : Int} {f2 : Int} {α : Type} {d : Kd α} {e : Nat} {base : Nat} {ok : Nat → Prop} {v : Value} {xs : List α} (h : IsS69 w0 W g f0 f1 f2) (ho : d.R e W base ok v xs) (ht : ∀ q, q ∈ e :: d.E → q ≠ 69) : d.R e W base (fun k => ok k ∧ k ≠ g) v xs := by
  obtain ⟨A0, c0, hb, hg, hr0⟩ := h
  exact Kd.R_types ho hb ht
theorem IsS69.own_ne {w0 W : World} {g : Nat} {f0 : List Int} {f1 : Int} {f2 : Int} {α : Type} {d : Kd α} {e : Nat} {base : Nat} {ok : Nat → Prop} {v : Value} {xs : List α} (h : IsS69 w0 W g f0 f1 f2) (ho : d.R e W base ok v xs) (ht : e ≠ 69) : some g ≠ v.ownBlock := by
  obtain ⟨A0, c0, hb, hg, hr0⟩ := h
  exact Kd.R_ne ho hb ht
theorem IsS69.apartQ {w0 W : World} {g : Nat} {f0 : List Int} {f1 : Int} {f2 : Int} {α : Type} {d : Kd α} {e : Nat} {base : Nat} {ok : Nat → Prop} {v : Value} {xs : List α} (h : IsS69 w0 W g f0 f1 f2) (ho : d.Q e W base ok v xs) (ht : ∀ q, q ∈ e :: d.E → q ≠ 69) : d.Q e W base (fun k => ok k ∧ k ≠ g) v xs := by
  obtain ⟨A0, c0, hb, hg, hr0⟩ := h
  exact Kd.Q_types ho hb ht
theorem IsS69.own_neQ {w0 W : World} {g : Nat} {f0 : List Int} {f1 : Int} {f2 : Int} {α : Type} {d : Kd α} {e : Nat} {base : Nat} {ok : Nat → Prop} {v : Value} {xs : List α} (h : IsS69 w0 W g f0 f1 f2) (ho : d.Q e W base ok v xs) (ht : e ≠ 69) : some g ≠ v.ownBlock := by
  obtain ⟨A0, c0, hb, hg, hr0⟩ := h
  exact Kd.Q_ne ho hb ht
theorem IsS69.apartS {w0 W : World} {g : Nat} {f0 : List Int} {f1 : Int} {f2 : Int} {α : Type} {d : Kd α} {e : Nat} {base : Nat} {ok : Nat → Prop} {v : Value} {xs : List α} (h : IsS69 w0 W g f0 f1 f2) (ho : d.S e W base ok v xs) (ht : ∀ q, q ∈ e :: d.E → q ≠ 69) : d.S e W base (fun k => ok k ∧ k ≠ g) v xs := by
  obtain ⟨A0, c0, hb, hg, hr0⟩ := h
  exact Kd.S_types ho hb ht
theorem IsS69.own_neS {w0 W : World} {g : Nat} {f0 : List Int} {f1 : Int} {f2 : Int} {α : Type} {d : Kd α} {e : Nat} {base : Nat} {ok : Nat → Prop} {v : Value} {xs : List α} (h : IsS69 w0 W g f0 f1 f2) (ho : d.S e W base ok v xs) (ht : e ≠ 69) : some g ≠ v.ownBlock := by
  obtain ⟨A0, c0, hb, hg, hr0⟩ := h
  exact Kd.S_ne ho hb ht
theorem IsS69.lt {w0 W : World} {g : Nat} {f0 : List Int} {f1 : Int} {f2 : Int} (h : IsS69 w0 W g f0 f1 f2) : g < W.heap.size := by
  obtain ⟨A0, c0, hb, hg, hr0⟩ := h
  exact blk_lt hb
theorem IsS69.ge {w0 W : World} {g : Nat} {f0 : List Int} {f1 : Int} {f2 : Int} (h : IsS69 w0 W g f0 f1 f2) : w0.heap.size ≤ g := by
  obtain ⟨A0, c0, hb, hg, hr0⟩ := h
  exact hg
theorem IsS69.ne_blk {w0 W : World} {g : Nat} {f0 : List Int} {f1 : Int} {f2 : Int} {a : Nat} {cs : Array Value} {t : TypeId} {fr : Nat × Nat} (h : IsS69 w0 W g f0 f1 f2) (hb2 : W.heap[a]? = some (.cells cs t fr)) (ht : t ≠ 69) : g ≠ a := by
  obtain ⟨A0, c0, hb, hg, hr0⟩ := h
  rintro rfl
  rw [hb] at hb2
  injection hb2 with hb2
  injection hb2 with _ ht2
  exact ht ht2.symm
theorem IsS69.far {w0 W : World} {g : Nat} {f0 : List Int} {f1 : Int} {f2 : Int} {p : Addr} (h : IsS69 w0 W g f0 f1 f2) (hne : g ≠ p.block) (u : Value) : IsS69 w0 (W.setCell p u) g f0 f1 f2 := by
  obtain ⟨A0, c0, hb, hg, hr0⟩ := h
  exact ⟨A0, c0, blk_far hb hne u, hg, hr0⟩
theorem cellS69_0 {W : World} {g : Nat} {A0 : Option Addr} {c0 : Nat} {f0 : List Int} {f1 : Int} {f2 : Int} (h : W.heap[g]? = some (.cells #[.slice A0 f0.length c0, .int .i64 f1, .int .u64 f2] 69 (0, 0))) : W.cell? ⟨g, 0, none⟩ = some (.slice A0 f0.length c0) := (blk_cell h 0).trans rfl
theorem cellS69_1 {W : World} {g : Nat} {A0 : Option Addr} {c0 : Nat} {f0 : List Int} {f1 : Int} {f2 : Int} (h : W.heap[g]? = some (.cells #[.slice A0 f0.length c0, .int .i64 f1, .int .u64 f2] 69 (0, 0))) : W.cell? ⟨g, 1, none⟩ = some (.int .i64 f1) := (blk_cell h 1).trans rfl
theorem IsS69.set_1 {w0 W : World} {g : Nat} {f0 : List Int} {f1 : Int} {f2 : Int} (h : IsS69 w0 W g f0 f1 f2) (x : Int) : IsS69 w0 (W.setCell ⟨g, 1, none⟩ (.int .i64 x)) g f0 x f2 := by
  obtain ⟨A0, c0, hb, hg, hr0⟩ := h
  exact ⟨A0, c0, by simpa using blk_set hb 1 (.int .i64 x), hg, hr0⟩
theorem cellS69_2 {W : World} {g : Nat} {A0 : Option Addr} {c0 : Nat} {f0 : List Int} {f1 : Int} {f2 : Int} (h : W.heap[g]? = some (.cells #[.slice A0 f0.length c0, .int .i64 f1, .int .u64 f2] 69 (0, 0))) : W.cell? ⟨g, 2, none⟩ = some (.int .u64 f2) := (blk_cell h 2).trans rfl
theorem IsS69.set_2 {w0 W : World} {g : Nat} {f0 : List Int} {f1 : Int} {f2 : Int} (h : IsS69 w0 W g f0 f1 f2) (x : Int) : IsS69 w0 (W.setCell ⟨g, 2, none⟩ (.int .u64 x)) g f0 f1 x := by
  obtain ⟨A0, c0, hb, hg, hr0⟩ := h
  exact ⟨A0, c0, by simpa using blk_set hb 2 (.int .u64 x), hg, hr0⟩
theorem IsS69.new (w0 W : World) (A0 : Option Addr) (c0 : Nat) (f0 : List Int) (f1 : Int) (f2 : Int) (hB : Below w0.heap.size w0 W) (hr0 : Kd.C (Kd.int .u8) w0 A0 f0.length f0) : IsS69 w0 (W.alloc (.cells #[.slice A0 f0.length c0, .int .i64 f1, .int .u64 f2] 69)) W.heap.size f0 f1 f2 := ⟨A0, c0, by simpa using heap_alloc_new W _, hB.size, hr0⟩

/-! ### laws_roll: function 17 -/
def laws_roll.l0 : Nat → List Int → Int → List Int → Int → Int → Option (List Int × Int × Int)
  | 0, _, _, _, _, _ => none
  | k + 1, x0, x6, x354000, x354001, x354002 => if x6 < (x0.length : Int) then (if 0 ≤ x6 then (laws_roll.l0 k x0 (wrap64 (x6 + 1)) x354000 x354001 (IntKind.u64.wrap ((IntKind.u64.wrap ((IntKind.u64.wrap (x354002 * 1099511628211)) + (IntKind.u64.wrap (rd x0 x6)))) + 3))) else (none)) else (some (x354000, x354001, x354002))
def laws_roll.f (k : Nat) (l0 : List Int) (a1 : Int) : Option (List Int × Int × Int) := laws_roll.l0 k l0 0 l0 0 (IntKind.u64.wrap ((IntKind.u64.wrap (a1 * 7919)) + (IntKind.u64.wrap ((l0.length : Int)))))
theorem laws_roll.mono_l : ∀ k, (∀ y0 y1 y2 y3 y4, LeO (laws_roll.l0 k y0 y1 y2 y3 y4) (laws_roll.l0 (k + 1) y0 y1 y2 y3 y4))
  | 0 => fun _ _ _ _ _ r h => by simp [laws_roll.l0] at h
  | k + 1 => by
    have ih0 := laws_roll.mono_l k
    · intro y0 y1 y2 y3 y4
      unfold laws_roll.l0
      repeat' first
      | (with_reducible exact ih0 _ _ _ _ _)
      | (with_reducible exact LeO.refl _)
      | (with_reducible exact LeO.none _)
      | (with_reducible refine LeO.ite ?_ ?_)
      | (with_reducible refine LeO.bind ?_ (fun _ => ?_))
      | exact ih0 _ _ _ _ _
      | exact LeO.none _
      | refine LeO.ite ?_ ?_
      | refine LeO.bind ?_ (fun _ => ?_)
theorem laws_roll.mono : ∀ a0 a1 k, LeO (laws_roll.f k a0 a1) (laws_roll.f (k + 1) a0 a1) := by
  intro a0 a1 k
  have ih0 := laws_roll.mono_l k
  unfold laws_roll.f
  repeat' first
      | (with_reducible exact ih0 _ _ _ _ _)
      | (with_reducible exact LeO.refl _)
      | (with_reducible exact LeO.none _)
      | (with_reducible refine LeO.ite ?_ ?_)
      | (with_reducible refine LeO.bind ?_ (fun _ => ?_))
      | exact ih0 _ _ _ _ _
      | exact LeO.none _
      | refine LeO.ite ?_ ?_
      | refine LeO.bind ?_ (fun _ => ?_)
def laws_roll.T5 : Bool × List (List Nat × List Nat) := (true, [([], []), ([], []), ([1], [1]), ([2], [2]), ([3], [3]), ([4], [4]), ([], []), ([], []), ([6, 7], [6, 7]), ([8], [8]), ([9], [9]), ([5, 10], [5, 10]), ([11], [11]), ([0, 0, 1, 2, 3, 4, 5, 6, 7, 8, 9, 10, 11, 12], [0]), ([13, 0, 1, 2, 3, 4, 5, 6, 7, 8, 9, 10, 11, 12], [13]), ([14, 12, 0, 1, 2, 3, 4, 5, 6, 7, 8, 9, 10, 11, 12], [12, 14])])
def laws_roll.B5 : List Nat := [0, 0, 2, 6, 14, 30, 0, 0, 192, 448, 960, 2046, 4094, 8191, 16383, 32767]
theorem laws_roll.tab5 : rtab .any (opsOf Try.f17 5) = laws_roll.T5 := by kernel_rfl
theorem laws_roll.bits5 : waitsOk laws_roll.T5.2 laws_roll.B5 = true := by kernel_rfl
set_option maxHeartbeats 8000000 in
set_option maxRecDepth 100000 in
theorem laws_roll.calls (k : Nat) (A0 : Option Addr) (c0 : Nat) (l0 : List Int) (a1 : Int) (r1 : List Int) (r2 : Int) (r3 : Int) (w0 w : World) (hB : Below w0.heap.size w0 w) (hr0 : Kd.C (Kd.int .u8) w0 A0 l0.length l0) (hc0 : l0.length ≤ c0) (h : laws_roll.f k l0 a1 = some (r1, r2, r3)) :
    Calls Try.prog 17 #[.slice A0 l0.length c0, .int .u64 a1] w fun e w' => ∃ g_ : Nat, e = .returned (.pointer (some ⟨g_, 0, none⟩)) ∧ IsS69 w0 w' g_ r1 r2 r3 ∧ Below w0.heap.size w0 w' ∧ Below w.heap.size w w' := by
  have hu69 := Try.underlying69
  have HR0 := Aside0.mk hr0
  have HC0 := Aside0.mk hc0
  clear hr0 hc0
  have HBW := Aside0.mk (Below.refl w.heap.size w)
  have HW0 := Aside0.mk hB.size
  have HB := Aside0.mk hB
  clear hB
  have H : (laws_roll.l0 k l0 0 l0 0 (IntKind.u64.wrap ((IntKind.u64.wrap (a1 * 7919)) + (IntKind.u64.wrap ((l0.length : Int)))))) = some (r1, r2, r3) := h
  clear h
  have H' := Aside0.mk H
  clear H
  go_enter Try.func17, Try.ntmps17
  go_wp2_with (first | ((with_reducible refine gate_dst (N := 15) rfl ?_); refine box_event ?hg (N := 15) ?hd (cs := #[.slice A0 l0.length c0, .int .i64 0, .int .u64 (IntKind.u64.wrap ((IntKind.u64.wrap (a1 * 7919)) + (IntKind.u64.wrap ((l0.length : Int)))))]) (t := 69) ?hr ?_; (case hd => rfl); (case hg => rfl); (case hr => first | (go_simp; done) | (go_simp; rfl)); intro gb353 hg w3 hbox hb; have n0_ := Aside0.mk (below_step HBW.out hb); have n1_ := Aside0.mk (below_step (by repeat (first | (with_reducible first | exact HB.out | apply below_alloc | apply pw_below_drewN | apply below_drew1) | exact HB.out)) hb); have n2_ := Aside0.mk (hbox); have n3_ := Aside0.mk ((by rw [hg]; exact (below_size (by repeat (first | (with_reducible first | exact HBW.out | apply below_alloc | apply pw_below_drewN | apply below_drew1) | exact HBW.out))) : w.heap.size ≤ gb353)); have n4_ := Aside0.mk ((Nat.le_trans HW0.out (by rw [hg]; exact (below_size (by repeat (first | (with_reducible first | exact HBW.out | apply below_alloc | apply pw_below_drewN | apply below_drew1) | exact HBW.out))) : w.heap.size ≤ gb353) : w0.heap.size ≤ gb353)); clear HBW; clear HB; have HBW := n0_; have HB := n1_; have BK353 := n2_; have GW353 := n3_; have GE353 := n4_; clear n0_ n1_ n2_ n3_ n4_; clear hb hbox hg))
  go_loopg [6] k (fun kq v6 w' => ∃ (x6_1 : Int) (x354002_1 : Int), v6 = .int .i64 x6_1 ∧ Aside0 (laws_roll.l0 kq l0 x6_1 l0 0 x354002_1 = some (r1, r2, r3)) ∧ Aside0 (kq ≤ k) ∧ Aside0 (w'.heap[gb353]? = some (.cells #[(.slice A0 l0.length c0), .int .i64 0, .int .u64 x354002_1] 69 (0, 0))) ∧ Aside0 (Below w0.heap.size w0 w') ∧ Aside0 (Below w.heap.size w w'))
  case atStart => exact ⟨(0), (IntKind.u64.wrap ((IntKind.u64.wrap (a1 * 7919)) + (IntKind.u64.wrap ((l0.length : Int))))), (by first | rfl | (simp; done) | (simp [*]; done)), H', ⟨Nat.le_refl _⟩, ⟨by (with_reducible repeat (first | refine blk_drewN ?_ _ | refine blk_drew ?_ | refine blk_alloc ?_ _)); exact BK353.out⟩, ⟨by repeat (first | (with_reducible first | exact HB.out | apply below_alloc | apply pw_below_drewN | apply below_drew1 | refine below_set ?_ GE353.out) | exact HB.out)⟩, ⟨by repeat (first | (with_reducible first | exact HBW.out | apply below_alloc | apply pw_below_drewN | apply below_drew1 | refine below_set ?_ GW353.out) | exact HBW.out)⟩⟩
  case round =>
    clear H'
    try clear c1
    try clear p2
    obtain ⟨x6_1, x354002_1, rfl, HA, HK1, BK353, HB, HBW⟩ := hrel
    cases gk with
    | zero => exact absurd HA.out (by simp [laws_roll.l0])
    | succ k1 =>
      have H := HA.out
      clear HA
      simp only [laws_roll.l0] at H
      by_cases c4 : x6_1 < (l0.length : Int)
      · rw [if_pos c4] at H
        have c4b0 : decide (x6_1 < (l0.length : Int)) = true := decide_eq_true c4
        clear c4
        by_cases c5 : 0 ≤ x6_1
        · rw [if_pos c5] at H
          have c5b0 : decide (0 ≤ x6_1) = true := decide_eq_true c5
          clear c5
          have H' := Aside0.mk H
          clear H
          try go_wp2
          have n0_ := Aside0.mk (blk_drew BK353.out)
          have n1_ := Aside0.mk (below_drew1 HB.out)
          have HBW := Aside0.mk (below_drew1 HBW.out)
          clear BK353
          clear HB
          have BK353 := n0_
          have HB := n1_
          clear n0_ n1_
          have p354 : 0 ≤ (x6_1 : Int) := of_decide_eq_true (by first | (with_reducible assumption) | assumption)
          have q354 : x6_1 < (l0.length : Int) := of_decide_eq_true (by first | (with_reducible assumption) | assumption)
          obtain ⟨ad354, e354, hx354_0⟩ := Kd.at_int HR0.out x6_1 p354 q354
          have hw354_0 := hx354_0
          cases e354
          replace hx354_0 := pw_cell_below HB.out hx354_0
          replace p354 := eq_true p354
          replace q354 := eq_true q354
          refine start_ (n := 16) (S := fun w' => w'.cell? ⟨gb353, 0, none⟩ = some (.slice (some ad354) l0.length c0) ∧ w'.cell? ⟨gb353, 1, none⟩ = some (.int .i64 0) ∧ w'.cell? ⟨gb353, 2, none⟩ = some (.int .u64 x354002_1) ∧ w'.cell? (ad354.add (x6_1).toNat) = some (.int .u8 (rd l0 x6_1))) (ds := [15]) #[false, false, false, false, false, false, false, false, false, false, false, false, false, false, false, false] (by kernel_rfl) rfl rfl ⟨(blk_cell BK353.out 0).trans rfl, (blk_cell BK353.out 1).trans rfl, (blk_cell BK353.out 2).trans rfl, ((HB.out.cell (World.block_lt_of_cell? _ _ hw354_0)).trans hw354_0)⟩ (fun hHeld => ?_); refine with_tabW laws_roll.tab5 laws_roll.bits5 (fun HT_ HW_ => ?_)
          generalize wr.drew = w6 at BK353 HB HBW hx354_0 hHeld ⊢
          refine pure_ (i := 0) (N := some 22) (v := ?_) (a' := ?_) #[true, false, false, false, false, false, false, false, false, false, false, false, false, false, false, false] rfl rfl (any_of HT_.out (by kernel_rfl)) (fun _ _ _ h => h) (Or.inl ⟨by rfl, ?_⟩) ?_ ?_
          rotate_left
          · intro w'
            go_simp
            with_reducible rfl
          rotate_left
          · simp only [Act.put, List.setIfInBounds_toArray, List.set_cons_zero, List.set_cons_succ, i64_w, i32_w]
            rfl
          refine pure_ (i := 1) (N := some 23) (v := ?_) (a' := ?_) #[true, true, false, false, false, false, false, false, false, false, false, false, false, false, false, false] rfl rfl (any_of HT_.out (by kernel_rfl)) (fun _ _ _ h => h) (Or.inl ⟨by rfl, ?_⟩) ?_ ?_
          rotate_left
          · intro w'
            go_simp
            with_reducible rfl
          rotate_left
          · simp only [Act.put, List.setIfInBounds_toArray, List.set_cons_zero, List.set_cons_succ, i64_w, i32_w]
            rfl
          refine pure_ (i := 2) (N := some 24) (v := ?_) (a' := ?_) #[true, true, true, false, false, false, false, false, false, false, false, false, false, false, false, false] rfl rfl (any_of HT_.out (by kernel_rfl)) (fun _ _ _ h => h) (Or.inl ⟨by rfl, ?_⟩) ?_ ?_
          rotate_left
          · intro w'
            go_simp
            with_reducible rfl
          rotate_left
          · simp only [Act.put, List.setIfInBounds_toArray, List.set_cons_zero, List.set_cons_succ, i64_w, i32_w]
            rfl
          refine pure_ (i := 3) (N := some 25) (v := ?_) (a' := ?_) #[true, true, true, true, false, false, false, false, false, false, false, false, false, false, false, false] rfl rfl (any_of HT_.out (by kernel_rfl)) (fun _ _ _ h => h) (Or.inl ⟨by rfl, ?_⟩) ?_ ?_
          rotate_left
          · intro w'
            go_simp
            with_reducible rfl
          rotate_left
          · simp only [Act.put, List.setIfInBounds_toArray, List.set_cons_zero, List.set_cons_succ, i64_w, i32_w]
            rfl
          refine pure_ (i := 6) (N := some 28) (v := ?_) (a' := ?_) #[true, true, true, true, false, false, true, false, false, false, false, false, false, false, false, false] rfl rfl (any_of HT_.out (by kernel_rfl)) (fun _ _ _ h => h) (Or.inl ⟨by rfl, ?_⟩) ?_ ?_
          rotate_left
          · intro w'
            go_simp
            with_reducible rfl
          rotate_left
          · simp only [Act.put, List.setIfInBounds_toArray, List.set_cons_zero, List.set_cons_succ, i64_w, i32_w]
            rfl
          refine pure_ (i := 7) (N := some 29) (v := ?_) (a' := ?_) #[true, true, true, true, false, false, true, true, false, false, false, false, false, false, false, false] rfl rfl (any_of HT_.out (by kernel_rfl)) (fun _ _ _ h => h) (Or.inl ⟨by rfl, ?_⟩) ?_ ?_
          rotate_left
          · intro w'
            go_simp
            with_reducible rfl
          rotate_left
          · simp only [Act.put, List.setIfInBounds_toArray, List.set_cons_zero, List.set_cons_succ, i64_w, i32_w]
            rfl
          refine pure_ (i := 8) (N := some 30) (v := ?_) (a' := ?_) #[true, true, true, true, false, false, true, true, true, false, false, false, false, false, false, false] rfl rfl (any_of HT_.out (by kernel_rfl)) (fun _ _ _ h => h) (Or.inl ⟨by rfl, ?_⟩) ?_ ?_
          rotate_left
          · intro w'
            go_simp
            with_reducible rfl
          rotate_left
          · simp only [Act.put, List.setIfInBounds_toArray, List.set_cons_zero, List.set_cons_succ, i64_w, i32_w]
            rfl
          refine take_ (i := 4) (N := some 26) (v := ?_) (a' := ?_) #[true, true, true, true, true, false, true, true, true, false, false, false, false, false, false, false] rfl rfl (take_ofW HT_.out HW_.out (by kernel_rfl)) (fun _ _ _ h => h) (Or.inl ⟨by rfl, ?_⟩) hHeld ?_ ?_
          rotate_left
          · rintro w' ⟨s0, s1, s2, s3⟩
            go_simp
            with_reducible rfl
          rotate_left
          · simp only [Act.put, List.setIfInBounds_toArray, List.set_cons_zero, List.set_cons_succ, i64_w, i32_w]
            rfl
          refine pure_ (i := 5) (N := some 27) (v := ?_) (a' := ?_) #[true, true, true, true, true, true, true, true, true, false, false, false, false, false, false, false] rfl rfl (any_of HT_.out (by kernel_rfl)) (fun _ _ _ h => h) (Or.inl ⟨by rfl, ?_⟩) ?_ ?_
          rotate_left
          · intro w'
            go_simp
            with_reducible rfl
          rotate_left
          · simp only [Act.put, List.setIfInBounds_toArray, List.set_cons_zero, List.set_cons_succ, i64_w, i32_w]
            rfl
          refine take_ (i := 9) (N := some 31) (v := ?_) (a' := ?_) #[true, true, true, true, true, true, true, true, true, true, false, false, false, false, false, false] rfl rfl (take_ofW HT_.out HW_.out (by kernel_rfl)) (fun _ _ _ h => h) (Or.inl ⟨by rfl, ?_⟩) hHeld ?_ ?_
          rotate_left
          · rintro w' ⟨s0, s1, s2, s3⟩
            go_simp
            with_reducible rfl
          rotate_left
          · simp only [Act.put, List.setIfInBounds_toArray, List.set_cons_zero, List.set_cons_succ, i64_w, i32_w]
            rfl
          refine pure_ (i := 10) (N := some 32) (v := ?_) (a' := ?_) #[true, true, true, true, true, true, true, true, true, true, true, false, false, false, false, false] rfl rfl (any_of HT_.out (by kernel_rfl)) (fun _ _ _ h => h) (Or.inl ⟨by rfl, ?_⟩) ?_ ?_
          rotate_left
          · intro w'
            go_simp
            with_reducible rfl
          rotate_left
          · simp only [Act.put, List.setIfInBounds_toArray, List.set_cons_zero, List.set_cons_succ, i64_w, i32_w]
            rfl
          refine pure_ (i := 11) (N := some 33) (v := ?_) (a' := ?_) #[true, true, true, true, true, true, true, true, true, true, true, true, false, false, false, false] rfl rfl (any_of HT_.out (by kernel_rfl)) (fun _ _ _ h => h) (Or.inl ⟨by rfl, ?_⟩) ?_ ?_
          rotate_left
          · intro w'
            go_simp
            with_reducible rfl
          rotate_left
          · simp only [Act.put, List.setIfInBounds_toArray, List.set_cons_zero, List.set_cons_succ, i64_w, i32_w]
            rfl
          refine pure_ (i := 12) (N := some 34) (v := ?_) (a' := ?_) #[true, true, true, true, true, true, true, true, true, true, true, true, true, false, false, false] rfl rfl (any_of HT_.out (by kernel_rfl)) (fun _ _ _ h => h) (Or.inl ⟨by rfl, ?_⟩) ?_ ?_
          rotate_left
          · intro w'
            go_simp
            with_reducible rfl
          rotate_left
          · simp only [Act.put, List.setIfInBounds_toArray, List.set_cons_zero, List.set_cons_succ, i64_w, i32_w]
            rfl
          refine pure_ (i := 13) (N := some 35) (v := ?_) (a' := ?_) #[true, true, true, true, true, true, true, true, true, true, true, true, true, true, false, false] rfl rfl (any_of HT_.out (by kernel_rfl)) (fun _ _ _ h => h) (Or.inl ⟨by rfl, ?_⟩) ?_ ?_
          rotate_left
          · intro w'
            go_simp
            with_reducible rfl
          rotate_left
          · simp only [Act.put, List.setIfInBounds_toArray, List.set_cons_zero, List.set_cons_succ, i64_w, i32_w]
            rfl
          refine pure_ (i := 14) (N := some 36) (v := ?_) (a' := ?_) #[true, true, true, true, true, true, true, true, true, true, true, true, true, true, true, false] rfl rfl (any_of HT_.out (by kernel_rfl)) (fun _ _ _ h => h) (Or.inl ⟨by rfl, ?_⟩) ?_ ?_
          rotate_left
          · intro w'
            go_simp
            with_reducible rfl
          rotate_left
          · simp only [Act.put, List.setIfInBounds_toArray, List.set_cons_zero, List.set_cons_succ, i64_w, i32_w]
            rfl
          refine last_ (i := 15) (N := none) #[true, true, true, true, true, true, true, true, true, true, true, true, true, true, true, true] rfl rfl (one_of HT_.out (by kernel_rfl)) (by decide) (fun K hK => ?_)
          have hs7 : w6.cell? ⟨gb353, 2, none⟩ = some (.int .u64 x354002_1) := (blk_cell BK353.out 2).trans rfl
          have hfs7 := blk_frozen BK353.out 2
          refine skip_ (w1 := ?_) (by rfl) rfl ?_ ?_
          rotate_left
          · go_simp
            rfl
          refine hK.out _ _ ?_
          clear hK K
          refine done_ (done_of HT_.out (by kernel_rfl)) ?_
          try go_wp2
          go_roundg k1
          case measure => have := HK1.out; omega
          case rel => exact ⟨(wrap64 (x6_1 + 1)), (IntKind.u64.wrap ((IntKind.u64.wrap ((IntKind.u64.wrap (x354002_1 * 1099511628211)) + (IntKind.u64.wrap (rd l0 x6_1)))) + 3)), (by first | rfl | (simp; done) | (simp [*]; done)), H', ⟨by have := HK1.out; omega⟩, ⟨by (with_reducible repeat (first | refine blk_drewN ?_ _ | refine blk_drew ?_ | refine blk_alloc ?_ _)); refine blk_put (cs := #[.slice (some ad354) l0.length c0, .int .i64 0, .int .u64 x354002_1]) ?_ 2 _ rfl; (with_reducible repeat (first | refine blk_drewN ?_ _ | refine blk_drew ?_ | refine blk_alloc ?_ _)); exact BK353.out⟩, ⟨by repeat (first | (with_reducible first | exact HB.out | apply below_alloc | apply pw_below_drewN | apply below_drew1 | refine below_set ?_ GE353.out) | exact HB.out)⟩, ⟨by repeat (first | (with_reducible first | exact HBW.out | apply below_alloc | apply pw_below_drewN | apply below_drew1 | refine below_set ?_ GW353.out) | exact HBW.out)⟩⟩
        · rw [if_neg c5] at H
          exact absurd H (by simp)
      · rw [if_neg c4] at H
        have c4b0 : decide (x6_1 < (l0.length : Int)) = false := decide_eq_false c4
        clear c4
        simp only [Option.some.injEq, Prod.mk.injEq] at H
        obtain ⟨rfl, rfl, rfl⟩ := H
        go_wp2
        go_ret
        exact ⟨_, rfl, (show IsS69 w0 _ gb353 l0 0 x354002_1 from ⟨_, _, by (with_reducible repeat (first | refine blk_drewN ?_ _ | refine blk_drew ?_ | refine blk_alloc ?_ _)); exact BK353.out, GE353.out, HR0.out⟩), by repeat (first | (with_reducible first | exact HB.out | apply below_alloc | apply pw_below_drewN | apply below_drew1 | refine below_set ?_ GE353.out) | exact HB.out), by repeat (first | (with_reducible first | exact HBW.out | apply below_alloc | apply pw_below_drewN | apply below_drew1 | refine below_set ?_ GW353.out) | exact HBW.out)⟩

/-! ### laws_dice_below: function 18 -/
def laws_dice_below.f (s0_0 : List Int) (s0_1 : Int) (s0_2 : Int) (a1 : Int) : Option (Int × Int × Int) := if s0_1 < (s0_0.length : Int) then (if 0 ≤ s0_1 then (if a1 = 0 then (none) else (some (Int.tmod (wrap64 ((wrap64 (Go.bits .and .u64 ((IntKind.u64.wrap ((IntKind.u64.wrap (s0_2 * 6364136223846793005)) + 1442695040888963407)) / 8589934592) 16777215)) + (wrap64 (rd s0_0 s0_1)))) a1, wrap64 (s0_1 + 1), IntKind.u64.wrap ((IntKind.u64.wrap (s0_2 * 6364136223846793005)) + 1442695040888963407)))) else (none)) else (if a1 = 0 then (none) else (some (Int.tmod (wrap64 (Go.bits .and .u64 ((IntKind.u64.wrap ((IntKind.u64.wrap (s0_2 * 6364136223846793005)) + 1442695040888963407)) / 8589934592) 16777215)) a1, s0_1, IntKind.u64.wrap ((IntKind.u64.wrap (s0_2 * 6364136223846793005)) + 1442695040888963407))))
set_option maxHeartbeats 8000000 in
set_option maxRecDepth 100000 in
theorem laws_dice_below.calls (g : Nat) (s0_0 : List Int) (s0_1 : Int) (s0_2 : Int) (a1 : Int) (r1 : Int) (r2 : Int) (r3 : Int) (w0 w : World) (hI : IsS69 w0 w g s0_0 s0_1 s0_2) (hB : Below w0.heap.size w0 w) (h : laws_dice_below.f s0_0 s0_1 s0_2 a1 = some (r1, r2, r3)) :
    Calls Try.prog 18 #[.pointer (some ⟨g, 0, none⟩), .int .i64 a1] w fun e w' => e = .returned (.int .i64 r1) ∧ IsS69 w0 w' g s0_0 r2 r3 ∧ Below w0.heap.size w0 w' ∧ KeepBut w w' g none := by
  have HI0 := Aside0.mk hI
  have HK := Aside0.mk (KeepBut.refl w g none)
  have HL := Aside0.mk hB.size
  clear hI
  have HW0 := Aside0.mk hB.size
  have HB := Aside0.mk hB
  clear hB
  have H : (if s0_1 < (s0_0.length : Int) then (if 0 ≤ s0_1 then (if a1 = 0 then (none) else (some (Int.tmod (wrap64 ((wrap64 (Go.bits .and .u64 ((IntKind.u64.wrap ((IntKind.u64.wrap (s0_2 * 6364136223846793005)) + 1442695040888963407)) / 8589934592) 16777215)) + (wrap64 (rd s0_0 s0_1)))) a1, wrap64 (s0_1 + 1), IntKind.u64.wrap ((IntKind.u64.wrap (s0_2 * 6364136223846793005)) + 1442695040888963407)))) else (none)) else (if a1 = 0 then (none) else (some (Int.tmod (wrap64 (Go.bits .and .u64 ((IntKind.u64.wrap ((IntKind.u64.wrap (s0_2 * 6364136223846793005)) + 1442695040888963407)) / 8589934592) 16777215)) a1, s0_1, IntKind.u64.wrap ((IntKind.u64.wrap (s0_2 * 6364136223846793005)) + 1442695040888963407))))) = some (r1, r2, r3) := h
  clear h
  by_cases c3 : s0_1 < (s0_0.length : Int)
  · rw [if_pos c3] at H
    have c3b0 : decide (s0_1 < (s0_0.length : Int)) = true := decide_eq_true c3
    clear c3
    by_cases c4 : 0 ≤ s0_1
    · rw [if_pos c4] at H
      have c4b0 : decide (0 ≤ s0_1) = true := decide_eq_true c4
      clear c4
      by_cases c5 : a1 = 0
      · rw [if_pos c5] at H
        exact absurd H (by simp)
      · rw [if_neg c5] at H
        have c5b0 : (a1 == 0) = false := beq_eq_false_iff_ne.mpr c5
        have c5b1 : (a1 != 0) = true := bne_iff_ne.mpr c5
        simp only [Option.some.injEq, Prod.mk.injEq] at H
        obtain ⟨rfl, rfl, rfl⟩ := H
        obtain ⟨ASz6_0, cSz6_0, HGz6, hgz6, HSz6_0⟩ := HI0.out
        have hcz6_0 := cellS69_0 HGz6
        have hcz6_1 := cellS69_1 HGz6
        have hcz6_2 := cellS69_2 HGz6
        have hfz6_1 := blk_frozen HGz6 1
        have hfz6_2 := blk_frozen HGz6 2
        clear HGz6 hgz6
        have p355 : 0 ≤ (s0_1 : Int) := of_decide_eq_true (by first | (with_reducible assumption) | assumption)
        have q355 : s0_1 < (s0_0.length : Int) := of_decide_eq_true (by first | (with_reducible assumption) | assumption)
        obtain ⟨ad355, e355, hx355_0⟩ := Kd.at_int HSz6_0 s0_1 p355 q355
        cases e355
        have hn355_0 : ad355.block ≠ g := Nat.ne_of_lt (Nat.lt_of_lt_of_le (by have := World.block_lt_of_cell? _ _ hx355_0; first | rwa [add_block] at this | exact this) (IsS69.ge HI0.out))
        replace hx355_0 := pw_cell_below HB.out hx355_0
        replace hx355_0 := (cell_far (p := ⟨g, 2, none⟩) (by first | (rw [add_block]; exact hn355_0) | (show (Addr.add _ _).block ≠ _; rw [add_block]; exact hn355_0) | exact hn355_0) (.int .u64 (IntKind.u64.wrap ((IntKind.u64.wrap (s0_2 * 6364136223846793005)) + 1442695040888963407)))).trans hx355_0
        (try have hy355_0 := fun (n_ : Nat) => (show (((w.drewN n_).setCell ⟨g, 2, none⟩ (.int .u64 (IntKind.u64.wrap ((IntKind.u64.wrap (s0_2 * 6364136223846793005)) + 1442695040888963407))))).cell? _ = some _ from hx355_0))
        (try have hz355_0 := fun (n_ : Nat) => (show (((w.setCell ⟨g, 2, none⟩ (.int .u64 (IntKind.u64.wrap ((IntKind.u64.wrap (s0_2 * 6364136223846793005)) + 1442695040888963407)))).drewN n_)).cell? _ = some _ from hx355_0))
        clear hn355_0
        replace p355 := eq_true p355
        replace q355 := eq_true q355
        go_enter Try.func18, Try.ntmps18
        go_wp2
        repeat (go_quiet (fail); try go_wp2)
        go_ret
        exact ⟨by first | rfl | (simp [errW_none, errW_some] <;> rfl) | (simp [*, errW_none, errW_some] <;> rfl), by repeat (first | (with_reducible first | exact HI0.out | apply IsS69.alloc | apply IsS69.drewN | apply IsS69.drew | apply IsS69.set_1 | apply IsS69.set_2) | exact HI0.out), by repeat (first | (with_reducible first | exact HB.out | apply below_alloc | apply pw_below_drewN | apply below_drew1 | refine below_set ?_ (IsS69.ge HI0.out)) | exact HB.out), by repeat (first | (with_reducible first | exact HK.out | apply KeepBut.set_ | apply keep_drewN | apply keep_drew | apply keep_alloc) | exact HK.out)⟩
    · rw [if_neg c4] at H
      exact absurd H (by simp)
  · rw [if_neg c3] at H
    have c3b0 : decide (s0_1 < (s0_0.length : Int)) = false := decide_eq_false c3
    clear c3
    by_cases c7 : a1 = 0
    · rw [if_pos c7] at H
      exact absurd H (by simp)
    · rw [if_neg c7] at H
      have c7b0 : (a1 == 0) = false := beq_eq_false_iff_ne.mpr c7
      have c7b1 : (a1 != 0) = true := bne_iff_ne.mpr c7
      simp only [Option.some.injEq, Prod.mk.injEq] at H
      obtain ⟨rfl, rfl, rfl⟩ := H
      obtain ⟨ASz8_0, cSz8_0, HGz8, hgz8, HSz8_0⟩ := HI0.out
      have hcz8_0 := cellS69_0 HGz8
      have hcz8_1 := cellS69_1 HGz8
      have hcz8_2 := cellS69_2 HGz8
      have hfz8_1 := blk_frozen HGz8 1
      have hfz8_2 := blk_frozen HGz8 2
      clear HGz8 hgz8
      go_enter Try.func18, Try.ntmps18
      go_wp2
      repeat (go_quiet (fail); try go_wp2)
      go_ret
      exact ⟨by first | rfl | (simp [errW_none, errW_some] <;> rfl) | (simp [*, errW_none, errW_some] <;> rfl), by repeat (first | (with_reducible first | exact HI0.out | apply IsS69.alloc | apply IsS69.drewN | apply IsS69.drew | apply IsS69.set_1 | apply IsS69.set_2) | exact HI0.out), by repeat (first | (with_reducible first | exact HB.out | apply below_alloc | apply pw_below_drewN | apply below_drew1 | refine below_set ?_ (IsS69.ge HI0.out)) | exact HB.out), by repeat (first | (with_reducible first | exact HK.out | apply KeepBut.set_ | apply keep_drewN | apply keep_drew | apply keep_alloc) | exact HK.out)⟩

/-! ### laws_FnInterest: function 3 -/
mutual
def laws_FnInterest.j0 : Nat → List Int → List (S37) → Int → Int → Int → Int → Int → Int → Int → Int → Int → Int → List (S37) → Int → Int → Int → Int → Bool → Option (Bool)
  | 0, _, _, _, _, _, _, _, _, _, _, _, _, _, _, _, _, _, _ => none
  | k + 1, x0, x3, x4, x5, x6, x7, x8, x11, x12, x13, x14, x15, x18, x19, x20, x21, x22, x133 => if x133 = true then (some false) else (if x15 = 0 then ((impl_InterestBetween.f k (([(⟨0, x12⟩ : S37)] : List (S37))) x11 0 x13).bind fun bt388 => (if bt388.2 = 0 then (if bt388.1 = x14 then (laws_FnInterest.j1 k x0 x3 x4 x5 x6 x7 x8 x18 x19 x20 x21 x22) else (some false)) else (some false))) else (laws_FnInterest.j1 k x0 x3 x4 x5 x6 x7 x8 x18 x19 x20 x21 x22))
def laws_FnInterest.j1 : Nat → List Int → List (S37) → Int → Int → Int → Int → Int → List (S37) → Int → Int → Int → Int → Option (Bool)
  | 0, _, _, _, _, _, _, _, _, _, _, _, _ => none
  | k + 1, x0, x3, x4, x5, x6, x7, x8, x18, x19, x20, x21, x22 => if x22 = 0 then (laws_FnInterest.j2 k x0 x3 x4 x5 x6 x7 x8 x18 x19 x20 x21 (decide (x19 < x20))) else (laws_FnInterest.j2 k x0 x3 x4 x5 x6 x7 x8 x18 x19 x20 x21 false)
def laws_FnInterest.j2 : Nat → List Int → List (S37) → Int → Int → Int → Int → Int → List (S37) → Int → Int → Int → Bool → Option (Bool)
  | 0, _, _, _, _, _, _, _, _, _, _, _, _ => none
  | k + 1, x0, x3, x4, x5, x6, x7, x8, x18, x19, x20, x21, x158 => if x158 = true then ((laws_roll.f k x0 401).bind fun bt390 => ((laws_dice_below.f bt390.1 bt390.2.1 bt390.2.2 (wrap64 (x20 - x19))).bind fun bt394 => ((impl_WeightOf.f k x18 x19 (wrap64 (x19 + bt394.1))).bind fun bt397 => ((impl_WeightOf.f k x18 (wrap64 (x19 + bt394.1)) x20).bind fun bt399 => (if bt397.2 = 0 then (if bt399.2 = 0 then (laws_FnInterest.j3 k x3 x4 x5 x6 x7 x8 ((wrap64 (bt397.1 + bt399.1)) != x21)) else (laws_FnInterest.j3 k x3 x4 x5 x6 x7 x8 true)) else (laws_FnInterest.j3 k x3 x4 x5 x6 x7 x8 true)))))) else (if x8 = 0 then (if x6 = 36524 then (some true) else (if x6 < x5 then (some true) else ((impl_InterestBetween.f k x3 x4 x5 (wrap64 (x6 + 1))).bind fun bt403 => (if bt403.2 = 3 then (some true) else (if bt403.2 = 0 then (some (decide (bt403.1 ≥ x7))) else (some false)))))) else (some true))
def laws_FnInterest.j3 : Nat → List (S37) → Int → Int → Int → Int → Int → Bool → Option (Bool)
  | 0, _, _, _, _, _, _, _ => none
  | k + 1, x3, x4, x5, x6, x7, x8, x193 => if x193 = true then (some false) else (if x8 = 0 then (if x6 = 36524 then (some true) else (if x6 < x5 then (some true) else ((impl_InterestBetween.f k x3 x4 x5 (wrap64 (x6 + 1))).bind fun bt401 => (if bt401.2 = 3 then (some true) else (if bt401.2 = 0 then (some (decide (bt401.1 ≥ x7))) else (some false)))))) else (some true))
end
def laws_FnInterest.f (k : Nat) (l0 : List Int) : Option (Bool) := (laws_big.f l0).bind fun t356 => (if t356 = true then (some true) else ((spec_DrawInterestBetween.f k l0).bind fun bt357 => ((impl_InterestBetween.f k bt357.1 bt357.2.1 bt357.2.2.1 bt357.2.2.2).bind fun bt363 => ((spec_InterestBetween.f k bt357.1 bt357.2.1 bt357.2.2.1 bt357.2.2.2).bind fun bt365 => ((spec_DrawSimpleInterest.f k l0).bind fun bt367 => ((impl_SimpleInterest.f k bt367.1 bt367.2.1 bt367.2.2).bind fun bt370 => ((spec_SimpleInterest.f k bt367.1 bt367.2.1 bt367.2.2).bind fun bt372 => ((spec_DrawWeightOf.f k l0).bind fun bt374 => ((impl_WeightOf.f k bt374.1 bt374.2.1 bt374.2.2).bind fun bt379 => ((spec_WeightOf.f k bt374.1 bt374.2.1 bt374.2.2).bind fun bt381 => (if bt363.2 = bt365.2 then (if bt363.1 = bt365.1 then (if bt370.2 = bt372.2 then (if bt370.1 = bt372.1 then (if bt379.2 = bt381.2 then (if bt379.1 = bt381.1 then ((impl_IsSchedule.f k bt374.1).bind fun t383 => ((spec_IsSchedule.f k bt374.1).bind fun t384 => (laws_FnInterest.j0 k l0 bt357.1 bt357.2.1 bt357.2.2.1 bt357.2.2.2 bt363.1 bt363.2 bt367.1 bt367.2.1 bt367.2.2 bt370.1 bt370.2 bt374.1 bt374.2.1 bt374.2.2 bt379.1 bt379.2 (t383 != t384)))) else (laws_FnInterest.j0 k l0 bt357.1 bt357.2.1 bt357.2.2.1 bt357.2.2.2 bt363.1 bt363.2 bt367.1 bt367.2.1 bt367.2.2 bt370.1 bt370.2 bt374.1 bt374.2.1 bt374.2.2 bt379.1 bt379.2 true)) else (laws_FnInterest.j0 k l0 bt357.1 bt357.2.1 bt357.2.2.1 bt357.2.2.2 bt363.1 bt363.2 bt367.1 bt367.2.1 bt367.2.2 bt370.1 bt370.2 bt374.1 bt374.2.1 bt374.2.2 bt379.1 bt379.2 true)) else (laws_FnInterest.j0 k l0 bt357.1 bt357.2.1 bt357.2.2.1 bt357.2.2.2 bt363.1 bt363.2 bt367.1 bt367.2.1 bt367.2.2 bt370.1 bt370.2 bt374.1 bt374.2.1 bt374.2.2 bt379.1 bt379.2 true)) else (laws_FnInterest.j0 k l0 bt357.1 bt357.2.1 bt357.2.2.1 bt357.2.2.2 bt363.1 bt363.2 bt367.1 bt367.2.1 bt367.2.2 bt370.1 bt370.2 bt374.1 bt374.2.1 bt374.2.2 bt379.1 bt379.2 true)) else (laws_FnInterest.j0 k l0 bt357.1 bt357.2.1 bt357.2.2.1 bt357.2.2.2 bt363.1 bt363.2 bt367.1 bt367.2.1 bt367.2.2 bt370.1 bt370.2 bt374.1 bt374.2.1 bt374.2.2 bt379.1 bt379.2 true)) else (laws_FnInterest.j0 k l0 bt357.1 bt357.2.1 bt357.2.2.1 bt357.2.2.2 bt363.1 bt363.2 bt367.1 bt367.2.1 bt367.2.2 bt370.1 bt370.2 bt374.1 bt374.2.1 bt374.2.2 bt379.1 bt379.2 true))))))))))))
theorem laws_FnInterest.mono_l : ∀ k, (∀ y0 y1 y2 y3 y4 y5 y6 y7 y8 y9 y10 y11 y12 y13 y14 y15 y16 y17, LeO (laws_FnInterest.j0 k y0 y1 y2 y3 y4 y5 y6 y7 y8 y9 y10 y11 y12 y13 y14 y15 y16 y17) (laws_FnInterest.j0 (k + 1) y0 y1 y2 y3 y4 y5 y6 y7 y8 y9 y10 y11 y12 y13 y14 y15 y16 y17)) ∧ (∀ y0 y1 y2 y3 y4 y5 y6 y7 y8 y9 y10 y11, LeO (laws_FnInterest.j1 k y0 y1 y2 y3 y4 y5 y6 y7 y8 y9 y10 y11) (laws_FnInterest.j1 (k + 1) y0 y1 y2 y3 y4 y5 y6 y7 y8 y9 y10 y11)) ∧ (∀ y0 y1 y2 y3 y4 y5 y6 y7 y8 y9 y10 y11, LeO (laws_FnInterest.j2 k y0 y1 y2 y3 y4 y5 y6 y7 y8 y9 y10 y11) (laws_FnInterest.j2 (k + 1) y0 y1 y2 y3 y4 y5 y6 y7 y8 y9 y10 y11)) ∧ (∀ y0 y1 y2 y3 y4 y5 y6, LeO (laws_FnInterest.j3 k y0 y1 y2 y3 y4 y5 y6) (laws_FnInterest.j3 (k + 1) y0 y1 y2 y3 y4 y5 y6))
  | 0 => ⟨fun _ _ _ _ _ _ _ _ _ _ _ _ _ _ _ _ _ _ r h => by simp [laws_FnInterest.j0] at h, fun _ _ _ _ _ _ _ _ _ _ _ _ r h => by simp [laws_FnInterest.j1] at h, fun _ _ _ _ _ _ _ _ _ _ _ _ r h => by simp [laws_FnInterest.j2] at h, fun _ _ _ _ _ _ _ r h => by simp [laws_FnInterest.j3] at h⟩
  | k + 1 => by
    obtain ⟨ih0, ih1, ih2, ih3⟩ := laws_FnInterest.mono_l k
    refine ⟨?_, ?_, ?_, ?_⟩
    · intro y0 y1 y2 y3 y4 y5 y6 y7 y8 y9 y10 y11 y12 y13 y14 y15 y16 y17
      unfold laws_FnInterest.j0
      repeat' first
      | (with_reducible exact ih0 _ _ _ _ _ _ _ _ _ _ _ _ _ _ _ _ _ _)
      | (with_reducible exact ih1 _ _ _ _ _ _ _ _ _ _ _ _)
      | (with_reducible exact ih2 _ _ _ _ _ _ _ _ _ _ _ _)
      | (with_reducible exact ih3 _ _ _ _ _ _ _)
      | (with_reducible exact impl_InterestBetween.mono _ _ _ _ _)
      | (with_reducible exact impl_IsSchedule.mono _ _)
      | (with_reducible exact impl_SimpleInterest.mono _ _ _ _)
      | (with_reducible exact impl_WeightOf.mono _ _ _ _)
      | (with_reducible exact laws_roll.mono _ _ _)
      | (with_reducible exact spec_DrawInterestBetween.mono _ _)
      | (with_reducible exact spec_DrawSimpleInterest.mono _ _)
      | (with_reducible exact spec_DrawWeightOf.mono _ _)
      | (with_reducible exact spec_InterestBetween.mono _ _ _ _ _)
      | (with_reducible exact spec_IsSchedule.mono _ _)
      | (with_reducible exact spec_SimpleInterest.mono _ _ _ _)
      | (with_reducible exact spec_WeightOf.mono _ _ _ _)
      | (with_reducible exact LeO.refl _)
      | (with_reducible exact LeO.none _)
      | (with_reducible refine LeO.ite ?_ ?_)
      | (with_reducible refine LeO.bind ?_ (fun _ => ?_))
      | exact ih0 _ _ _ _ _ _ _ _ _ _ _ _ _ _ _ _ _ _
      | exact ih1 _ _ _ _ _ _ _ _ _ _ _ _
      | exact ih2 _ _ _ _ _ _ _ _ _ _ _ _
      | exact ih3 _ _ _ _ _ _ _
      | exact impl_InterestBetween.mono _ _ _ _ _
      | exact impl_IsSchedule.mono _ _
      | exact impl_SimpleInterest.mono _ _ _ _
      | exact impl_WeightOf.mono _ _ _ _
      | exact laws_roll.mono _ _ _
      | exact spec_DrawInterestBetween.mono _ _
      | exact spec_DrawSimpleInterest.mono _ _
      | exact spec_DrawWeightOf.mono _ _
      | exact spec_InterestBetween.mono _ _ _ _ _
      | exact spec_IsSchedule.mono _ _
      | exact spec_SimpleInterest.mono _ _ _ _
      | exact spec_WeightOf.mono _ _ _ _
      | exact LeO.none _
      | refine LeO.ite ?_ ?_
      | refine LeO.bind ?_ (fun _ => ?_)
    · intro y0 y1 y2 y3 y4 y5 y6 y7 y8 y9 y10 y11
      unfold laws_FnInterest.j1
      repeat' first
      | (with_reducible exact ih0 _ _ _ _ _ _ _ _ _ _ _ _ _ _ _ _ _ _)
      | (with_reducible exact ih1 _ _ _ _ _ _ _ _ _ _ _ _)
      | (with_reducible exact ih2 _ _ _ _ _ _ _ _ _ _ _ _)
      | (with_reducible exact ih3 _ _ _ _ _ _ _)
      | (with_reducible exact impl_InterestBetween.mono _ _ _ _ _)
      | (with_reducible exact impl_IsSchedule.mono _ _)
      | (with_reducible exact impl_SimpleInterest.mono _ _ _ _)
      | (with_reducible exact impl_WeightOf.mono _ _ _ _)
      | (with_reducible exact laws_roll.mono _ _ _)
      | (with_reducible exact spec_DrawInterestBetween.mono _ _)
      | (with_reducible exact spec_DrawSimpleInterest.mono _ _)
      | (with_reducible exact spec_DrawWeightOf.mono _ _)
      | (with_reducible exact spec_InterestBetween.mono _ _ _ _ _)
      | (with_reducible exact spec_IsSchedule.mono _ _)
      | (with_reducible exact spec_SimpleInterest.mono _ _ _ _)
      | (with_reducible exact spec_WeightOf.mono _ _ _ _)
      | (with_reducible exact LeO.refl _)
      | (with_reducible exact LeO.none _)
      | (with_reducible refine LeO.ite ?_ ?_)
      | (with_reducible refine LeO.bind ?_ (fun _ => ?_))
      | exact ih0 _ _ _ _ _ _ _ _ _ _ _ _ _ _ _ _ _ _
      | exact ih1 _ _ _ _ _ _ _ _ _ _ _ _
      | exact ih2 _ _ _ _ _ _ _ _ _ _ _ _
      | exact ih3 _ _ _ _ _ _ _
      | exact impl_InterestBetween.mono _ _ _ _ _
      | exact impl_IsSchedule.mono _ _
      | exact impl_SimpleInterest.mono _ _ _ _
      | exact impl_WeightOf.mono _ _ _ _
      | exact laws_roll.mono _ _ _
      | exact spec_DrawInterestBetween.mono _ _
      | exact spec_DrawSimpleInterest.mono _ _
      | exact spec_DrawWeightOf.mono _ _
      | exact spec_InterestBetween.mono _ _ _ _ _
      | exact spec_IsSchedule.mono _ _
      | exact spec_SimpleInterest.mono _ _ _ _
      | exact spec_WeightOf.mono _ _ _ _
      | exact LeO.none _
      | refine LeO.ite ?_ ?_
      | refine LeO.bind ?_ (fun _ => ?_)
    · intro y0 y1 y2 y3 y4 y5 y6 y7 y8 y9 y10 y11
      unfold laws_FnInterest.j2
      repeat' first
      | (with_reducible exact ih0 _ _ _ _ _ _ _ _ _ _ _ _ _ _ _ _ _ _)
      | (with_reducible exact ih1 _ _ _ _ _ _ _ _ _ _ _ _)
      | (with_reducible exact ih2 _ _ _ _ _ _ _ _ _ _ _ _)
      | (with_reducible exact ih3 _ _ _ _ _ _ _)
      | (with_reducible exact impl_InterestBetween.mono _ _ _ _ _)
      | (with_reducible exact impl_IsSchedule.mono _ _)
      | (with_reducible exact impl_SimpleInterest.mono _ _ _ _)
      | (with_reducible exact impl_WeightOf.mono _ _ _ _)
      | (with_reducible exact laws_roll.mono _ _ _)
      | (with_reducible exact spec_DrawInterestBetween.mono _ _)
      | (with_reducible exact spec_DrawSimpleInterest.mono _ _)
      | (with_reducible exact spec_DrawWeightOf.mono _ _)
      | (with_reducible exact spec_InterestBetween.mono _ _ _ _ _)
      | (with_reducible exact spec_IsSchedule.mono _ _)
      | (with_reducible exact spec_SimpleInterest.mono _ _ _ _)
      | (with_reducible exact spec_WeightOf.mono _ _ _ _)
      | (with_reducible exact LeO.refl _)
      | (with_reducible exact LeO.none _)
      | (with_reducible refine LeO.ite ?_ ?_)
      | (with_reducible refine LeO.bind ?_ (fun _ => ?_))
      | exact ih0 _ _ _ _ _ _ _ _ _ _ _ _ _ _ _ _ _ _
      | exact ih1 _ _ _ _ _ _ _ _ _ _ _ _
      | exact ih2 _ _ _ _ _ _ _ _ _ _ _ _
      | exact ih3 _ _ _ _ _ _ _
      | exact impl_InterestBetween.mono _ _ _ _ _
      | exact impl_IsSchedule.mono _ _
      | exact impl_SimpleInterest.mono _ _ _ _
      | exact impl_WeightOf.mono _ _ _ _
      | exact laws_roll.mono _ _ _
      | exact spec_DrawInterestBetween.mono _ _
      | exact spec_DrawSimpleInterest.mono _ _
      | exact spec_DrawWeightOf.mono _ _
      | exact spec_InterestBetween.mono _ _ _ _ _
      | exact spec_IsSchedule.mono _ _
      | exact spec_SimpleInterest.mono _ _ _ _
      | exact spec_WeightOf.mono _ _ _ _
      | exact LeO.none _
      | refine LeO.ite ?_ ?_
      | refine LeO.bind ?_ (fun _ => ?_)
    · intro y0 y1 y2 y3 y4 y5 y6
      unfold laws_FnInterest.j3
      repeat' first
      | (with_reducible exact ih0 _ _ _ _ _ _ _ _ _ _ _ _ _ _ _ _ _ _)
      | (with_reducible exact ih1 _ _ _ _ _ _ _ _ _ _ _ _)
      | (with_reducible exact ih2 _ _ _ _ _ _ _ _ _ _ _ _)
      | (with_reducible exact ih3 _ _ _ _ _ _ _)
      | (with_reducible exact impl_InterestBetween.mono _ _ _ _ _)
      | (with_reducible exact impl_IsSchedule.mono _ _)
      | (with_reducible exact impl_SimpleInterest.mono _ _ _ _)
      | (with_reducible exact impl_WeightOf.mono _ _ _ _)
      | (with_reducible exact laws_roll.mono _ _ _)
      | (with_reducible exact spec_DrawInterestBetween.mono _ _)
      | (with_reducible exact spec_DrawSimpleInterest.mono _ _)
      | (with_reducible exact spec_DrawWeightOf.mono _ _)
      | (with_reducible exact spec_InterestBetween.mono _ _ _ _ _)
      | (with_reducible exact spec_IsSchedule.mono _ _)
      | (with_reducible exact spec_SimpleInterest.mono _ _ _ _)
      | (with_reducible exact spec_WeightOf.mono _ _ _ _)
      | (with_reducible exact LeO.refl _)
      | (with_reducible exact LeO.none _)
      | (with_reducible refine LeO.ite ?_ ?_)
      | (with_reducible refine LeO.bind ?_ (fun _ => ?_))
      | exact ih0 _ _ _ _ _ _ _ _ _ _ _ _ _ _ _ _ _ _
      | exact ih1 _ _ _ _ _ _ _ _ _ _ _ _
      | exact ih2 _ _ _ _ _ _ _ _ _ _ _ _
      | exact ih3 _ _ _ _ _ _ _
      | exact impl_InterestBetween.mono _ _ _ _ _
      | exact impl_IsSchedule.mono _ _
      | exact impl_SimpleInterest.mono _ _ _ _
      | exact impl_WeightOf.mono _ _ _ _
      | exact laws_roll.mono _ _ _
      | exact spec_DrawInterestBetween.mono _ _
      | exact spec_DrawSimpleInterest.mono _ _
      | exact spec_DrawWeightOf.mono _ _
      | exact spec_InterestBetween.mono _ _ _ _ _
      | exact spec_IsSchedule.mono _ _
      | exact spec_SimpleInterest.mono _ _ _ _
      | exact spec_WeightOf.mono _ _ _ _
      | exact LeO.none _
      | refine LeO.ite ?_ ?_
      | refine LeO.bind ?_ (fun _ => ?_)
theorem laws_FnInterest.mono : ∀ a0 k, LeO (laws_FnInterest.f k a0) (laws_FnInterest.f (k + 1) a0) := by
  intro a0 k
  obtain ⟨ih0, ih1, ih2, ih3⟩ := laws_FnInterest.mono_l k
  unfold laws_FnInterest.f
  repeat' first
      | (with_reducible exact ih0 _ _ _ _ _ _ _ _ _ _ _ _ _ _ _ _ _ _)
      | (with_reducible exact ih1 _ _ _ _ _ _ _ _ _ _ _ _)
      | (with_reducible exact ih2 _ _ _ _ _ _ _ _ _ _ _ _)
      | (with_reducible exact ih3 _ _ _ _ _ _ _)
      | (with_reducible exact impl_InterestBetween.mono _ _ _ _ _)
      | (with_reducible exact impl_IsSchedule.mono _ _)
      | (with_reducible exact impl_SimpleInterest.mono _ _ _ _)
      | (with_reducible exact impl_WeightOf.mono _ _ _ _)
      | (with_reducible exact laws_roll.mono _ _ _)
      | (with_reducible exact spec_DrawInterestBetween.mono _ _)
      | (with_reducible exact spec_DrawSimpleInterest.mono _ _)
      | (with_reducible exact spec_DrawWeightOf.mono _ _)
      | (with_reducible exact spec_InterestBetween.mono _ _ _ _ _)
      | (with_reducible exact spec_IsSchedule.mono _ _)
      | (with_reducible exact spec_SimpleInterest.mono _ _ _ _)
      | (with_reducible exact spec_WeightOf.mono _ _ _ _)
      | (with_reducible exact LeO.refl _)
      | (with_reducible exact LeO.none _)
      | (with_reducible refine LeO.ite ?_ ?_)
      | (with_reducible refine LeO.bind ?_ (fun _ => ?_))
      | exact ih0 _ _ _ _ _ _ _ _ _ _ _ _ _ _ _ _ _ _
      | exact ih1 _ _ _ _ _ _ _ _ _ _ _ _
      | exact ih2 _ _ _ _ _ _ _ _ _ _ _ _
      | exact ih3 _ _ _ _ _ _ _
      | exact impl_InterestBetween.mono _ _ _ _ _
      | exact impl_IsSchedule.mono _ _
      | exact impl_SimpleInterest.mono _ _ _ _
      | exact impl_WeightOf.mono _ _ _ _
      | exact laws_roll.mono _ _ _
      | exact spec_DrawInterestBetween.mono _ _
      | exact spec_DrawSimpleInterest.mono _ _
      | exact spec_DrawWeightOf.mono _ _
      | exact spec_InterestBetween.mono _ _ _ _ _
      | exact spec_IsSchedule.mono _ _
      | exact spec_SimpleInterest.mono _ _ _ _
      | exact spec_WeightOf.mono _ _ _ _
      | exact LeO.none _
      | refine LeO.ite ?_ ?_
      | refine LeO.bind ?_ (fun _ => ?_)
set_option maxHeartbeats 8000000 in
set_option maxRecDepth 100000 in
theorem laws_FnInterest.calls (k : Nat) (A0 : Option Addr) (c0 : Nat) (l0 : List Int) (r : Bool) (w : World) (hr0 : Kd.C (Kd.int .u8) w A0 l0.length l0) (hc0 : l0.length ≤ c0) (h : laws_FnInterest.f k l0 = some r) :
    Calls Try.prog 3 #[.slice A0 l0.length c0] w fun e w' => e = .returned (.bool r) ∧ Below w.heap.size w w' := by
  have hu37 := Try.underlying37
  have HR0 := Aside0.mk hr0
  have HC0 := Aside0.mk hc0
  clear hr0 hc0
  have HB := Aside0.mk (Below.refl w.heap.size w)
  have H : ((laws_big.f l0).bind fun t356 => (if t356 = true then (some true) else ((spec_DrawInterestBetween.f k l0).bind fun bt357 => ((impl_InterestBetween.f k bt357.1 bt357.2.1 bt357.2.2.1 bt357.2.2.2).bind fun bt363 => ((spec_InterestBetween.f k bt357.1 bt357.2.1 bt357.2.2.1 bt357.2.2.2).bind fun bt365 => ((spec_DrawSimpleInterest.f k l0).bind fun bt367 => ((impl_SimpleInterest.f k bt367.1 bt367.2.1 bt367.2.2).bind fun bt370 => ((spec_SimpleInterest.f k bt367.1 bt367.2.1 bt367.2.2).bind fun bt372 => ((spec_DrawWeightOf.f k l0).bind fun bt374 => ((impl_WeightOf.f k bt374.1 bt374.2.1 bt374.2.2).bind fun bt379 => ((spec_WeightOf.f k bt374.1 bt374.2.1 bt374.2.2).bind fun bt381 => (if bt363.2 = bt365.2 then (if bt363.1 = bt365.1 then (if bt370.2 = bt372.2 then (if bt370.1 = bt372.1 then (if bt379.2 = bt381.2 then (if bt379.1 = bt381.1 then ((impl_IsSchedule.f k bt374.1).bind fun t383 => ((spec_IsSchedule.f k bt374.1).bind fun t384 => (laws_FnInterest.j0 k l0 bt357.1 bt357.2.1 bt357.2.2.1 bt357.2.2.2 bt363.1 bt363.2 bt367.1 bt367.2.1 bt367.2.2 bt370.1 bt370.2 bt374.1 bt374.2.1 bt374.2.2 bt379.1 bt379.2 (t383 != t384)))) else (laws_FnInterest.j0 k l0 bt357.1 bt357.2.1 bt357.2.2.1 bt357.2.2.2 bt363.1 bt363.2 bt367.1 bt367.2.1 bt367.2.2 bt370.1 bt370.2 bt374.1 bt374.2.1 bt374.2.2 bt379.1 bt379.2 true)) else (laws_FnInterest.j0 k l0 bt357.1 bt357.2.1 bt357.2.2.1 bt357.2.2.2 bt363.1 bt363.2 bt367.1 bt367.2.1 bt367.2.2 bt370.1 bt370.2 bt374.1 bt374.2.1 bt374.2.2 bt379.1 bt379.2 true)) else (laws_FnInterest.j0 k l0 bt357.1 bt357.2.1 bt357.2.2.1 bt357.2.2.2 bt363.1 bt363.2 bt367.1 bt367.2.1 bt367.2.2 bt370.1 bt370.2 bt374.1 bt374.2.1 bt374.2.2 bt379.1 bt379.2 true)) else (laws_FnInterest.j0 k l0 bt357.1 bt357.2.1 bt357.2.2.1 bt357.2.2.2 bt363.1 bt363.2 bt367.1 bt367.2.1 bt367.2.2 bt370.1 bt370.2 bt374.1 bt374.2.1 bt374.2.2 bt379.1 bt379.2 true)) else (laws_FnInterest.j0 k l0 bt357.1 bt357.2.1 bt357.2.2.1 bt357.2.2.2 bt363.1 bt363.2 bt367.1 bt367.2.1 bt367.2.2 bt370.1 bt370.2 bt374.1 bt374.2.1 bt374.2.2 bt379.1 bt379.2 true)) else (laws_FnInterest.j0 k l0 bt357.1 bt357.2.1 bt357.2.2.1 bt357.2.2.2 bt363.1 bt363.2 bt367.1 bt367.2.1 bt367.2.2 bt370.1 bt370.2 bt374.1 bt374.2.1 bt374.2.2 bt379.1 bt379.2 true))))))))))))) = some r := h
  clear h
  replace H := Option.bind_eq_some_iff.mp H
  obtain ⟨t356, A20, H⟩ := H
  replace H : (if t356 = true then (some true) else ((spec_DrawInterestBetween.f k l0).bind fun bt357 => ((impl_InterestBetween.f k bt357.1 bt357.2.1 bt357.2.2.1 bt357.2.2.2).bind fun bt363 => ((spec_InterestBetween.f k bt357.1 bt357.2.1 bt357.2.2.1 bt357.2.2.2).bind fun bt365 => ((spec_DrawSimpleInterest.f k l0).bind fun bt367 => ((impl_SimpleInterest.f k bt367.1 bt367.2.1 bt367.2.2).bind fun bt370 => ((spec_SimpleInterest.f k bt367.1 bt367.2.1 bt367.2.2).bind fun bt372 => ((spec_DrawWeightOf.f k l0).bind fun bt374 => ((impl_WeightOf.f k bt374.1 bt374.2.1 bt374.2.2).bind fun bt379 => ((spec_WeightOf.f k bt374.1 bt374.2.1 bt374.2.2).bind fun bt381 => (if bt363.2 = bt365.2 then (if bt363.1 = bt365.1 then (if bt370.2 = bt372.2 then (if bt370.1 = bt372.1 then (if bt379.2 = bt381.2 then (if bt379.1 = bt381.1 then ((impl_IsSchedule.f k bt374.1).bind fun t383 => ((spec_IsSchedule.f k bt374.1).bind fun t384 => (laws_FnInterest.j0 k l0 bt357.1 bt357.2.1 bt357.2.2.1 bt357.2.2.2 bt363.1 bt363.2 bt367.1 bt367.2.1 bt367.2.2 bt370.1 bt370.2 bt374.1 bt374.2.1 bt374.2.2 bt379.1 bt379.2 (t383 != t384)))) else (laws_FnInterest.j0 k l0 bt357.1 bt357.2.1 bt357.2.2.1 bt357.2.2.2 bt363.1 bt363.2 bt367.1 bt367.2.1 bt367.2.2 bt370.1 bt370.2 bt374.1 bt374.2.1 bt374.2.2 bt379.1 bt379.2 true)) else (laws_FnInterest.j0 k l0 bt357.1 bt357.2.1 bt357.2.2.1 bt357.2.2.2 bt363.1 bt363.2 bt367.1 bt367.2.1 bt367.2.2 bt370.1 bt370.2 bt374.1 bt374.2.1 bt374.2.2 bt379.1 bt379.2 true)) else (laws_FnInterest.j0 k l0 bt357.1 bt357.2.1 bt357.2.2.1 bt357.2.2.2 bt363.1 bt363.2 bt367.1 bt367.2.1 bt367.2.2 bt370.1 bt370.2 bt374.1 bt374.2.1 bt374.2.2 bt379.1 bt379.2 true)) else (laws_FnInterest.j0 k l0 bt357.1 bt357.2.1 bt357.2.2.1 bt357.2.2.2 bt363.1 bt363.2 bt367.1 bt367.2.1 bt367.2.2 bt370.1 bt370.2 bt374.1 bt374.2.1 bt374.2.2 bt379.1 bt379.2 true)) else (laws_FnInterest.j0 k l0 bt357.1 bt357.2.1 bt357.2.2.1 bt357.2.2.2 bt363.1 bt363.2 bt367.1 bt367.2.1 bt367.2.2 bt370.1 bt370.2 bt374.1 bt374.2.1 bt374.2.2 bt379.1 bt379.2 true)) else (laws_FnInterest.j0 k l0 bt357.1 bt357.2.1 bt357.2.2.1 bt357.2.2.2 bt363.1 bt363.2 bt367.1 bt367.2.1 bt367.2.2 bt370.1 bt370.2 bt374.1 bt374.2.1 bt374.2.2 bt379.1 bt379.2 true)))))))))))) = some r := H
  have A2 := Aside0.mk A20
  clear A20
  by_cases c3 : t356 = true
  · subst c3
    have H1 : (some true) = some r := by rw [if_pos rfl] at H; exact H
    clear H
    have H := H1
    clear H1
    obtain rfl := Option.some.inj H
    go_enter Try.func3, Try.ntmps3
    go_wp2_with (first | ((with_reducible refine gate_callee (f := 5) rfl ?_); refine goesL_ (some 35) rfl rfl Try.func5 (by kernel_rfl) rfl #[.slice A0 l0.length c0] rfl (by (try simp only [List.map_toArray, List.map_cons, List.map_nil]); first | done | rfl | (simp only [List.length_drop, List.length_take]; rfl)) ?_; (with_reducible refine (laws_big.calls _ _ l0 true _ ?side1 ?side2 A2.out).mono ?_); (case side1 => repeat (first | exact HR0.out | (with_reducible refine Kd.C_alloc ?_ _) | (with_reducible refine Kd.C_drewN ?_ _) | (with_reducible refine Kd.C_drew ?_))); (case side2 => exact HC0.out); rintro e w' ⟨rfl, ⟨nd, rfl⟩⟩; refine ⟨_, rfl, ?_⟩))
    go_ret
    exact ⟨by first | rfl | (simp [errW_none, errW_some] <;> rfl) | (simp [*, errW_none, errW_some] <;> rfl), by repeat (first | (with_reducible first | exact HB.out | apply below_alloc | apply pw_below_drewN | apply below_drew1) | exact HB.out)⟩
  · replace c3 := Bool.eq_false_iff.mpr c3
    subst c3
    have H1 : ((spec_DrawInterestBetween.f k l0).bind fun bt357 => ((impl_InterestBetween.f k bt357.1 bt357.2.1 bt357.2.2.1 bt357.2.2.2).bind fun bt363 => ((spec_InterestBetween.f k bt357.1 bt357.2.1 bt357.2.2.1 bt357.2.2.2).bind fun bt365 => ((spec_DrawSimpleInterest.f k l0).bind fun bt367 => ((impl_SimpleInterest.f k bt367.1 bt367.2.1 bt367.2.2).bind fun bt370 => ((spec_SimpleInterest.f k bt367.1 bt367.2.1 bt367.2.2).bind fun bt372 => ((spec_DrawWeightOf.f k l0).bind fun bt374 => ((impl_WeightOf.f k bt374.1 bt374.2.1 bt374.2.2).bind fun bt379 => ((spec_WeightOf.f k bt374.1 bt374.2.1 bt374.2.2).bind fun bt381 => (if bt363.2 = bt365.2 then (if bt363.1 = bt365.1 then (if bt370.2 = bt372.2 then (if bt370.1 = bt372.1 then (if bt379.2 = bt381.2 then (if bt379.1 = bt381.1 then ((impl_IsSchedule.f k bt374.1).bind fun t383 => ((spec_IsSchedule.f k bt374.1).bind fun t384 => (laws_FnInterest.j0 k l0 bt357.1 bt357.2.1 bt357.2.2.1 bt357.2.2.2 bt363.1 bt363.2 bt367.1 bt367.2.1 bt367.2.2 bt370.1 bt370.2 bt374.1 bt374.2.1 bt374.2.2 bt379.1 bt379.2 (t383 != t384)))) else (laws_FnInterest.j0 k l0 bt357.1 bt357.2.1 bt357.2.2.1 bt357.2.2.2 bt363.1 bt363.2 bt367.1 bt367.2.1 bt367.2.2 bt370.1 bt370.2 bt374.1 bt374.2.1 bt374.2.2 bt379.1 bt379.2 true)) else (laws_FnInterest.j0 k l0 bt357.1 bt357.2.1 bt357.2.2.1 bt357.2.2.2 bt363.1 bt363.2 bt367.1 bt367.2.1 bt367.2.2 bt370.1 bt370.2 bt374.1 bt374.2.1 bt374.2.2 bt379.1 bt379.2 true)) else (laws_FnInterest.j0 k l0 bt357.1 bt357.2.1 bt357.2.2.1 bt357.2.2.2 bt363.1 bt363.2 bt367.1 bt367.2.1 bt367.2.2 bt370.1 bt370.2 bt374.1 bt374.2.1 bt374.2.2 bt379.1 bt379.2 true)) else (laws_FnInterest.j0 k l0 bt357.1 bt357.2.1 bt357.2.2.1 bt357.2.2.2 bt363.1 bt363.2 bt367.1 bt367.2.1 bt367.2.2 bt370.1 bt370.2 bt374.1 bt374.2.1 bt374.2.2 bt379.1 bt379.2 true)) else (laws_FnInterest.j0 k l0 bt357.1 bt357.2.1 bt357.2.2.1 bt357.2.2.2 bt363.1 bt363.2 bt367.1 bt367.2.1 bt367.2.2 bt370.1 bt370.2 bt374.1 bt374.2.1 bt374.2.2 bt379.1 bt379.2 true)) else (laws_FnInterest.j0 k l0 bt357.1 bt357.2.1 bt357.2.2.1 bt357.2.2.2 bt363.1 bt363.2 bt367.1 bt367.2.1 bt367.2.2 bt370.1 bt370.2 bt374.1 bt374.2.1 bt374.2.2 bt379.1 bt379.2 true))))))))))) = some r := by rw [if_neg (show ¬ (false = true) by decide)] at H; exact H
    clear H
    have H := H1
    clear H1
    replace H := Option.bind_eq_some_iff.mp H
    obtain ⟨⟨t357, t358, t359, t360⟩, A40, H⟩ := H
    replace H : ((impl_InterestBetween.f k t357 t358 t359 t360).bind fun bt363 => ((spec_InterestBetween.f k t357 t358 t359 t360).bind fun bt365 => ((spec_DrawSimpleInterest.f k l0).bind fun bt367 => ((impl_SimpleInterest.f k bt367.1 bt367.2.1 bt367.2.2).bind fun bt370 => ((spec_SimpleInterest.f k bt367.1 bt367.2.1 bt367.2.2).bind fun bt372 => ((spec_DrawWeightOf.f k l0).bind fun bt374 => ((impl_WeightOf.f k bt374.1 bt374.2.1 bt374.2.2).bind fun bt379 => ((spec_WeightOf.f k bt374.1 bt374.2.1 bt374.2.2).bind fun bt381 => (if bt363.2 = bt365.2 then (if bt363.1 = bt365.1 then (if bt370.2 = bt372.2 then (if bt370.1 = bt372.1 then (if bt379.2 = bt381.2 then (if bt379.1 = bt381.1 then ((impl_IsSchedule.f k bt374.1).bind fun t383 => ((spec_IsSchedule.f k bt374.1).bind fun t384 => (laws_FnInterest.j0 k l0 t357 t358 t359 t360 bt363.1 bt363.2 bt367.1 bt367.2.1 bt367.2.2 bt370.1 bt370.2 bt374.1 bt374.2.1 bt374.2.2 bt379.1 bt379.2 (t383 != t384)))) else (laws_FnInterest.j0 k l0 t357 t358 t359 t360 bt363.1 bt363.2 bt367.1 bt367.2.1 bt367.2.2 bt370.1 bt370.2 bt374.1 bt374.2.1 bt374.2.2 bt379.1 bt379.2 true)) else (laws_FnInterest.j0 k l0 t357 t358 t359 t360 bt363.1 bt363.2 bt367.1 bt367.2.1 bt367.2.2 bt370.1 bt370.2 bt374.1 bt374.2.1 bt374.2.2 bt379.1 bt379.2 true)) else (laws_FnInterest.j0 k l0 t357 t358 t359 t360 bt363.1 bt363.2 bt367.1 bt367.2.1 bt367.2.2 bt370.1 bt370.2 bt374.1 bt374.2.1 bt374.2.2 bt379.1 bt379.2 true)) else (laws_FnInterest.j0 k l0 t357 t358 t359 t360 bt363.1 bt363.2 bt367.1 bt367.2.1 bt367.2.2 bt370.1 bt370.2 bt374.1 bt374.2.1 bt374.2.2 bt379.1 bt379.2 true)) else (laws_FnInterest.j0 k l0 t357 t358 t359 t360 bt363.1 bt363.2 bt367.1 bt367.2.1 bt367.2.2 bt370.1 bt370.2 bt374.1 bt374.2.1 bt374.2.2 bt379.1 bt379.2 true)) else (laws_FnInterest.j0 k l0 t357 t358 t359 t360 bt363.1 bt363.2 bt367.1 bt367.2.1 bt367.2.2 bt370.1 bt370.2 bt374.1 bt374.2.1 bt374.2.2 bt379.1 bt379.2 true)))))))))) = some r := H
    have A4 := Aside0.mk A40
    clear A40
    replace H := Option.bind_eq_some_iff.mp H
    obtain ⟨⟨t363, t364⟩, A50, H⟩ := H
    replace H : ((spec_InterestBetween.f k t357 t358 t359 t360).bind fun bt365 => ((spec_DrawSimpleInterest.f k l0).bind fun bt367 => ((impl_SimpleInterest.f k bt367.1 bt367.2.1 bt367.2.2).bind fun bt370 => ((spec_SimpleInterest.f k bt367.1 bt367.2.1 bt367.2.2).bind fun bt372 => ((spec_DrawWeightOf.f k l0).bind fun bt374 => ((impl_WeightOf.f k bt374.1 bt374.2.1 bt374.2.2).bind fun bt379 => ((spec_WeightOf.f k bt374.1 bt374.2.1 bt374.2.2).bind fun bt381 => (if t364 = bt365.2 then (if t363 = bt365.1 then (if bt370.2 = bt372.2 then (if bt370.1 = bt372.1 then (if bt379.2 = bt381.2 then (if bt379.1 = bt381.1 then ((impl_IsSchedule.f k bt374.1).bind fun t383 => ((spec_IsSchedule.f k bt374.1).bind fun t384 => (laws_FnInterest.j0 k l0 t357 t358 t359 t360 t363 t364 bt367.1 bt367.2.1 bt367.2.2 bt370.1 bt370.2 bt374.1 bt374.2.1 bt374.2.2 bt379.1 bt379.2 (t383 != t384)))) else (laws_FnInterest.j0 k l0 t357 t358 t359 t360 t363 t364 bt367.1 bt367.2.1 bt367.2.2 bt370.1 bt370.2 bt374.1 bt374.2.1 bt374.2.2 bt379.1 bt379.2 true)) else (laws_FnInterest.j0 k l0 t357 t358 t359 t360 t363 t364 bt367.1 bt367.2.1 bt367.2.2 bt370.1 bt370.2 bt374.1 bt374.2.1 bt374.2.2 bt379.1 bt379.2 true)) else (laws_FnInterest.j0 k l0 t357 t358 t359 t360 t363 t364 bt367.1 bt367.2.1 bt367.2.2 bt370.1 bt370.2 bt374.1 bt374.2.1 bt374.2.2 bt379.1 bt379.2 true)) else (laws_FnInterest.j0 k l0 t357 t358 t359 t360 t363 t364 bt367.1 bt367.2.1 bt367.2.2 bt370.1 bt370.2 bt374.1 bt374.2.1 bt374.2.2 bt379.1 bt379.2 true)) else (laws_FnInterest.j0 k l0 t357 t358 t359 t360 t363 t364 bt367.1 bt367.2.1 bt367.2.2 bt370.1 bt370.2 bt374.1 bt374.2.1 bt374.2.2 bt379.1 bt379.2 true)) else (laws_FnInterest.j0 k l0 t357 t358 t359 t360 t363 t364 bt367.1 bt367.2.1 bt367.2.2 bt370.1 bt370.2 bt374.1 bt374.2.1 bt374.2.2 bt379.1 bt379.2 true))))))))) = some r := H
    have A5 := Aside0.mk A50
    clear A50
    replace H := Option.bind_eq_some_iff.mp H
    obtain ⟨⟨t365, t366⟩, A60, H⟩ := H
    replace H : ((spec_DrawSimpleInterest.f k l0).bind fun bt367 => ((impl_SimpleInterest.f k bt367.1 bt367.2.1 bt367.2.2).bind fun bt370 => ((spec_SimpleInterest.f k bt367.1 bt367.2.1 bt367.2.2).bind fun bt372 => ((spec_DrawWeightOf.f k l0).bind fun bt374 => ((impl_WeightOf.f k bt374.1 bt374.2.1 bt374.2.2).bind fun bt379 => ((spec_WeightOf.f k bt374.1 bt374.2.1 bt374.2.2).bind fun bt381 => (if t364 = t366 then (if t363 = t365 then (if bt370.2 = bt372.2 then (if bt370.1 = bt372.1 then (if bt379.2 = bt381.2 then (if bt379.1 = bt381.1 then ((impl_IsSchedule.f k bt374.1).bind fun t383 => ((spec_IsSchedule.f k bt374.1).bind fun t384 => (laws_FnInterest.j0 k l0 t357 t358 t359 t360 t363 t364 bt367.1 bt367.2.1 bt367.2.2 bt370.1 bt370.2 bt374.1 bt374.2.1 bt374.2.2 bt379.1 bt379.2 (t383 != t384)))) else (laws_FnInterest.j0 k l0 t357 t358 t359 t360 t363 t364 bt367.1 bt367.2.1 bt367.2.2 bt370.1 bt370.2 bt374.1 bt374.2.1 bt374.2.2 bt379.1 bt379.2 true)) else (laws_FnInterest.j0 k l0 t357 t358 t359 t360 t363 t364 bt367.1 bt367.2.1 bt367.2.2 bt370.1 bt370.2 bt374.1 bt374.2.1 bt374.2.2 bt379.1 bt379.2 true)) else (laws_FnInterest.j0 k l0 t357 t358 t359 t360 t363 t364 bt367.1 bt367.2.1 bt367.2.2 bt370.1 bt370.2 bt374.1 bt374.2.1 bt374.2.2 bt379.1 bt379.2 true)) else (laws_FnInterest.j0 k l0 t357 t358 t359 t360 t363 t364 bt367.1 bt367.2.1 bt367.2.2 bt370.1 bt370.2 bt374.1 bt374.2.1 bt374.2.2 bt379.1 bt379.2 true)) else (laws_FnInterest.j0 k l0 t357 t358 t359 t360 t363 t364 bt367.1 bt367.2.1 bt367.2.2 bt370.1 bt370.2 bt374.1 bt374.2.1 bt374.2.2 bt379.1 bt379.2 true)) else (laws_FnInterest.j0 k l0 t357 t358 t359 t360 t363 t364 bt367.1 bt367.2.1 bt367.2.2 bt370.1 bt370.2 bt374.1 bt374.2.1 bt374.2.2 bt379.1 bt379.2 true)))))))) = some r := H
    have A6 := Aside0.mk A60
    clear A60
    replace H := Option.bind_eq_some_iff.mp H
    obtain ⟨⟨t367, t368, t369⟩, A70, H⟩ := H
    replace H : ((impl_SimpleInterest.f k t367 t368 t369).bind fun bt370 => ((spec_SimpleInterest.f k t367 t368 t369).bind fun bt372 => ((spec_DrawWeightOf.f k l0).bind fun bt374 => ((impl_WeightOf.f k bt374.1 bt374.2.1 bt374.2.2).bind fun bt379 => ((spec_WeightOf.f k bt374.1 bt374.2.1 bt374.2.2).bind fun bt381 => (if t364 = t366 then (if t363 = t365 then (if bt370.2 = bt372.2 then (if bt370.1 = bt372.1 then (if bt379.2 = bt381.2 then (if bt379.1 = bt381.1 then ((impl_IsSchedule.f k bt374.1).bind fun t383 => ((spec_IsSchedule.f k bt374.1).bind fun t384 => (laws_FnInterest.j0 k l0 t357 t358 t359 t360 t363 t364 t367 t368 t369 bt370.1 bt370.2 bt374.1 bt374.2.1 bt374.2.2 bt379.1 bt379.2 (t383 != t384)))) else (laws_FnInterest.j0 k l0 t357 t358 t359 t360 t363 t364 t367 t368 t369 bt370.1 bt370.2 bt374.1 bt374.2.1 bt374.2.2 bt379.1 bt379.2 true)) else (laws_FnInterest.j0 k l0 t357 t358 t359 t360 t363 t364 t367 t368 t369 bt370.1 bt370.2 bt374.1 bt374.2.1 bt374.2.2 bt379.1 bt379.2 true)) else (laws_FnInterest.j0 k l0 t357 t358 t359 t360 t363 t364 t367 t368 t369 bt370.1 bt370.2 bt374.1 bt374.2.1 bt374.2.2 bt379.1 bt379.2 true)) else (laws_FnInterest.j0 k l0 t357 t358 t359 t360 t363 t364 t367 t368 t369 bt370.1 bt370.2 bt374.1 bt374.2.1 bt374.2.2 bt379.1 bt379.2 true)) else (laws_FnInterest.j0 k l0 t357 t358 t359 t360 t363 t364 t367 t368 t369 bt370.1 bt370.2 bt374.1 bt374.2.1 bt374.2.2 bt379.1 bt379.2 true)) else (laws_FnInterest.j0 k l0 t357 t358 t359 t360 t363 t364 t367 t368 t369 bt370.1 bt370.2 bt374.1 bt374.2.1 bt374.2.2 bt379.1 bt379.2 true))))))) = some r := H
    have A7 := Aside0.mk A70
    clear A70
    replace H := Option.bind_eq_some_iff.mp H
    obtain ⟨⟨t370, t371⟩, A80, H⟩ := H
    replace H : ((spec_SimpleInterest.f k t367 t368 t369).bind fun bt372 => ((spec_DrawWeightOf.f k l0).bind fun bt374 => ((impl_WeightOf.f k bt374.1 bt374.2.1 bt374.2.2).bind fun bt379 => ((spec_WeightOf.f k bt374.1 bt374.2.1 bt374.2.2).bind fun bt381 => (if t364 = t366 then (if t363 = t365 then (if t371 = bt372.2 then (if t370 = bt372.1 then (if bt379.2 = bt381.2 then (if bt379.1 = bt381.1 then ((impl_IsSchedule.f k bt374.1).bind fun t383 => ((spec_IsSchedule.f k bt374.1).bind fun t384 => (laws_FnInterest.j0 k l0 t357 t358 t359 t360 t363 t364 t367 t368 t369 t370 t371 bt374.1 bt374.2.1 bt374.2.2 bt379.1 bt379.2 (t383 != t384)))) else (laws_FnInterest.j0 k l0 t357 t358 t359 t360 t363 t364 t367 t368 t369 t370 t371 bt374.1 bt374.2.1 bt374.2.2 bt379.1 bt379.2 true)) else (laws_FnInterest.j0 k l0 t357 t358 t359 t360 t363 t364 t367 t368 t369 t370 t371 bt374.1 bt374.2.1 bt374.2.2 bt379.1 bt379.2 true)) else (laws_FnInterest.j0 k l0 t357 t358 t359 t360 t363 t364 t367 t368 t369 t370 t371 bt374.1 bt374.2.1 bt374.2.2 bt379.1 bt379.2 true)) else (laws_FnInterest.j0 k l0 t357 t358 t359 t360 t363 t364 t367 t368 t369 t370 t371 bt374.1 bt374.2.1 bt374.2.2 bt379.1 bt379.2 true)) else (laws_FnInterest.j0 k l0 t357 t358 t359 t360 t363 t364 t367 t368 t369 t370 t371 bt374.1 bt374.2.1 bt374.2.2 bt379.1 bt379.2 true)) else (laws_FnInterest.j0 k l0 t357 t358 t359 t360 t363 t364 t367 t368 t369 t370 t371 bt374.1 bt374.2.1 bt374.2.2 bt379.1 bt379.2 true)))))) = some r := H
    have A8 := Aside0.mk A80
    clear A80
    replace H := Option.bind_eq_some_iff.mp H
    obtain ⟨⟨t372, t373⟩, A90, H⟩ := H
    replace H : ((spec_DrawWeightOf.f k l0).bind fun bt374 => ((impl_WeightOf.f k bt374.1 bt374.2.1 bt374.2.2).bind fun bt379 => ((spec_WeightOf.f k bt374.1 bt374.2.1 bt374.2.2).bind fun bt381 => (if t364 = t366 then (if t363 = t365 then (if t371 = t373 then (if t370 = t372 then (if bt379.2 = bt381.2 then (if bt379.1 = bt381.1 then ((impl_IsSchedule.f k bt374.1).bind fun t383 => ((spec_IsSchedule.f k bt374.1).bind fun t384 => (laws_FnInterest.j0 k l0 t357 t358 t359 t360 t363 t364 t367 t368 t369 t370 t371 bt374.1 bt374.2.1 bt374.2.2 bt379.1 bt379.2 (t383 != t384)))) else (laws_FnInterest.j0 k l0 t357 t358 t359 t360 t363 t364 t367 t368 t369 t370 t371 bt374.1 bt374.2.1 bt374.2.2 bt379.1 bt379.2 true)) else (laws_FnInterest.j0 k l0 t357 t358 t359 t360 t363 t364 t367 t368 t369 t370 t371 bt374.1 bt374.2.1 bt374.2.2 bt379.1 bt379.2 true)) else (laws_FnInterest.j0 k l0 t357 t358 t359 t360 t363 t364 t367 t368 t369 t370 t371 bt374.1 bt374.2.1 bt374.2.2 bt379.1 bt379.2 true)) else (laws_FnInterest.j0 k l0 t357 t358 t359 t360 t363 t364 t367 t368 t369 t370 t371 bt374.1 bt374.2.1 bt374.2.2 bt379.1 bt379.2 true)) else (laws_FnInterest.j0 k l0 t357 t358 t359 t360 t363 t364 t367 t368 t369 t370 t371 bt374.1 bt374.2.1 bt374.2.2 bt379.1 bt379.2 true)) else (laws_FnInterest.j0 k l0 t357 t358 t359 t360 t363 t364 t367 t368 t369 t370 t371 bt374.1 bt374.2.1 bt374.2.2 bt379.1 bt379.2 true))))) = some r := H
    have A9 := Aside0.mk A90
    clear A90
    replace H := Option.bind_eq_some_iff.mp H
    obtain ⟨⟨t374, t375, t376⟩, A100, H⟩ := H
    replace H : ((impl_WeightOf.f k t374 t375 t376).bind fun bt379 => ((spec_WeightOf.f k t374 t375 t376).bind fun bt381 => (if t364 = t366 then (if t363 = t365 then (if t371 = t373 then (if t370 = t372 then (if bt379.2 = bt381.2 then (if bt379.1 = bt381.1 then ((impl_IsSchedule.f k t374).bind fun t383 => ((spec_IsSchedule.f k t374).bind fun t384 => (laws_FnInterest.j0 k l0 t357 t358 t359 t360 t363 t364 t367 t368 t369 t370 t371 t374 t375 t376 bt379.1 bt379.2 (t383 != t384)))) else (laws_FnInterest.j0 k l0 t357 t358 t359 t360 t363 t364 t367 t368 t369 t370 t371 t374 t375 t376 bt379.1 bt379.2 true)) else (laws_FnInterest.j0 k l0 t357 t358 t359 t360 t363 t364 t367 t368 t369 t370 t371 t374 t375 t376 bt379.1 bt379.2 true)) else (laws_FnInterest.j0 k l0 t357 t358 t359 t360 t363 t364 t367 t368 t369 t370 t371 t374 t375 t376 bt379.1 bt379.2 true)) else (laws_FnInterest.j0 k l0 t357 t358 t359 t360 t363 t364 t367 t368 t369 t370 t371 t374 t375 t376 bt379.1 bt379.2 true)) else (laws_FnInterest.j0 k l0 t357 t358 t359 t360 t363 t364 t367 t368 t369 t370 t371 t374 t375 t376 bt379.1 bt379.2 true)) else (laws_FnInterest.j0 k l0 t357 t358 t359 t360 t363 t364 t367 t368 t369 t370 t371 t374 t375 t376 bt379.1 bt379.2 true)))) = some r := H
    have A10 := Aside0.mk A100
    clear A100
    replace H := Option.bind_eq_some_iff.mp H
    obtain ⟨⟨t379, t380⟩, A110, H⟩ := H
    replace H : ((spec_WeightOf.f k t374 t375 t376).bind fun bt381 => (if t364 = t366 then (if t363 = t365 then (if t371 = t373 then (if t370 = t372 then (if t380 = bt381.2 then (if t379 = bt381.1 then ((impl_IsSchedule.f k t374).bind fun t383 => ((spec_IsSchedule.f k t374).bind fun t384 => (laws_FnInterest.j0 k l0 t357 t358 t359 t360 t363 t364 t367 t368 t369 t370 t371 t374 t375 t376 t379 t380 (t383 != t384)))) else (laws_FnInterest.j0 k l0 t357 t358 t359 t360 t363 t364 t367 t368 t369 t370 t371 t374 t375 t376 t379 t380 true)) else (laws_FnInterest.j0 k l0 t357 t358 t359 t360 t363 t364 t367 t368 t369 t370 t371 t374 t375 t376 t379 t380 true)) else (laws_FnInterest.j0 k l0 t357 t358 t359 t360 t363 t364 t367 t368 t369 t370 t371 t374 t375 t376 t379 t380 true)) else (laws_FnInterest.j0 k l0 t357 t358 t359 t360 t363 t364 t367 t368 t369 t370 t371 t374 t375 t376 t379 t380 true)) else (laws_FnInterest.j0 k l0 t357 t358 t359 t360 t363 t364 t367 t368 t369 t370 t371 t374 t375 t376 t379 t380 true)) else (laws_FnInterest.j0 k l0 t357 t358 t359 t360 t363 t364 t367 t368 t369 t370 t371 t374 t375 t376 t379 t380 true))) = some r := H
    have A11 := Aside0.mk A110
    clear A110
    replace H := Option.bind_eq_some_iff.mp H
    obtain ⟨⟨t381, t382⟩, A120, H⟩ := H
    replace H : (if t364 = t366 then (if t363 = t365 then (if t371 = t373 then (if t370 = t372 then (if t380 = t382 then (if t379 = t381 then ((impl_IsSchedule.f k t374).bind fun t383 => ((spec_IsSchedule.f k t374).bind fun t384 => (laws_FnInterest.j0 k l0 t357 t358 t359 t360 t363 t364 t367 t368 t369 t370 t371 t374 t375 t376 t379 t380 (t383 != t384)))) else (laws_FnInterest.j0 k l0 t357 t358 t359 t360 t363 t364 t367 t368 t369 t370 t371 t374 t375 t376 t379 t380 true)) else (laws_FnInterest.j0 k l0 t357 t358 t359 t360 t363 t364 t367 t368 t369 t370 t371 t374 t375 t376 t379 t380 true)) else (laws_FnInterest.j0 k l0 t357 t358 t359 t360 t363 t364 t367 t368 t369 t370 t371 t374 t375 t376 t379 t380 true)) else (laws_FnInterest.j0 k l0 t357 t358 t359 t360 t363 t364 t367 t368 t369 t370 t371 t374 t375 t376 t379 t380 true)) else (laws_FnInterest.j0 k l0 t357 t358 t359 t360 t363 t364 t367 t368 t369 t370 t371 t374 t375 t376 t379 t380 true)) else (laws_FnInterest.j0 k l0 t357 t358 t359 t360 t363 t364 t367 t368 t369 t370 t371 t374 t375 t376 t379 t380 true)) = some r := H
    have A12 := Aside0.mk A120
    clear A120
    have HC13 := Aside0.mk H
    clear H
    go_enter Try.func3, Try.ntmps3
    go_upto_region 12 with (first | ((with_reducible refine gate_callee (f := 5) rfl ?_); refine goesL_ (some 35) rfl rfl Try.func5 (by kernel_rfl) rfl #[.slice A0 l0.length c0] rfl (by (try simp only [List.map_toArray, List.map_cons, List.map_nil]); first | done | rfl | (simp only [List.length_drop, List.length_take]; rfl)) ?_; (with_reducible refine (laws_big.calls _ _ l0 false _ ?side1 ?side2 A2.out).mono ?_); (case side1 => repeat (first | exact HR0.out | (with_reducible refine Kd.C_alloc ?_ _) | (with_reducible refine Kd.C_drewN ?_ _) | (with_reducible refine Kd.C_drew ?_))); (case side2 => exact HC0.out); rintro e w' ⟨rfl, ⟨nd, rfl⟩⟩; refine ⟨_, rfl, ?_⟩) | ((with_reducible refine gate_callee (f := 6) rfl ?_); refine goesL_ (some 38) rfl rfl Try.func6 (by kernel_rfl) rfl #[.slice A0 l0.length c0] rfl (by (try simp only [List.map_toArray, List.map_cons, List.map_nil]); first | done | rfl | (simp only [List.length_drop, List.length_take]; rfl)) ?_; (with_reducible refine (spec_DrawInterestBetween.calls k _ _ l0 t357 t358 t359 t360 _ ?side1 ?side2 A4.out).mono ?_); (case side1 => repeat (first | exact HR0.out | (with_reducible refine Kd.C_alloc ?_ _) | (with_reducible refine Kd.C_drewN ?_ _) | (with_reducible refine Kd.C_drew ?_))); (case side2 => exact HC0.out); rintro e w14 ⟨v361, rfl, ho0, hb⟩; refine ⟨_, rfl, ?_⟩; have n0_ := Aside0.mk (Kd.R_lower ho0 (below_size (by repeat (first | (with_reducible first | exact HB.out | apply below_alloc | apply pw_below_drewN | apply below_drew1) | exact HB.out)))); have n1_ := Aside0.mk (below_step (by repeat (first | (with_reducible first | exact HB.out | apply below_alloc | apply pw_below_drewN | apply below_drew1) | exact HB.out)) hb); clear HB; have HO362 := n0_; have HB := n1_; clear n0_ n1_; (try clear hb); (try clear hb2); (try clear hk); (try clear hi); (try clear ho0); obtain ⟨Ao15, co15, eo15⟩ := Kd.R_slice HO362.out; subst eo15) | ((with_reducible refine gate_callee (f := 7) rfl ?_); refine goesL_ (some 48) rfl rfl Try.func7 (by kernel_rfl) rfl #[.slice Ao15 t357.length co15, .int .i64 t358, .int .i64 t359, .int .i64 t360] rfl (by (try simp only [List.map_toArray, List.map_cons, List.map_nil]); first | done | rfl | (simp only [List.length_drop, List.length_take]; rfl)) ?_; (with_reducible refine (impl_InterestBetween.calls k _ _ t357 t358 t359 t360 t363 t364 _ ?side1 ?side2 A5.out).mono ?_); (case side1 => repeat (first | exact (Kd.R_reads' HO362.out).2.2 | (with_reducible refine Kd.C_alloc ?_ _) | (with_reducible refine Kd.C_drewN ?_ _) | (with_reducible refine Kd.C_drew ?_))); (case side2 => exact (Kd.R_reads' HO362.out).2.1); rintro e w16 ⟨rfl, hb⟩; refine ⟨_, rfl, ?_⟩; have n0_ := Aside0.mk (Kd.R_below (by (with_reducible repeat (first | apply Kd.R_alloc | apply Kd.R_drewN | apply Kd.R_drew)); exact HO362.out) hb); have n1_ := Aside0.mk (below_step (by repeat (first | (with_reducible first | exact HB.out | apply below_alloc | apply pw_below_drewN | apply below_drew1) | exact HB.out)) hb); clear HO362; clear HB; have HO362 := n0_; have HB := n1_; clear n0_ n1_; (try clear hb); (try clear hb2); (try clear hk); (try clear hi)) | ((with_reducible refine gate_callee (f := 8) rfl ?_); refine goesL_ (some 56) rfl rfl Try.func8 (by kernel_rfl) rfl #[.slice Ao15 t357.length co15, .int .i64 t358, .int .i64 t359, .int .i64 t360] rfl (by (try simp only [List.map_toArray, List.map_cons, List.map_nil]); first | done | rfl | (simp only [List.length_drop, List.length_take]; rfl)) ?_; (with_reducible refine (spec_InterestBetween.calls k _ _ t357 t358 t359 t360 t365 t366 _ ?side1 ?side2 A6.out).mono ?_); (case side1 => repeat (first | exact (Kd.R_reads' HO362.out).2.2 | (with_reducible refine Kd.C_alloc ?_ _) | (with_reducible refine Kd.C_drewN ?_ _) | (with_reducible refine Kd.C_drew ?_))); (case side2 => exact (Kd.R_reads' HO362.out).2.1); rintro e w17 ⟨rfl, hb⟩; refine ⟨_, rfl, ?_⟩; have n0_ := Aside0.mk (Kd.R_below (by (with_reducible repeat (first | apply Kd.R_alloc | apply Kd.R_drewN | apply Kd.R_drew)); exact HO362.out) hb); have n1_ := Aside0.mk (below_step (by repeat (first | (with_reducible first | exact HB.out | apply below_alloc | apply pw_below_drewN | apply below_drew1) | exact HB.out)) hb); clear HO362; clear HB; have HO362 := n0_; have HB := n1_; clear n0_ n1_; (try clear hb); (try clear hb2); (try clear hk); (try clear hi)) | ((with_reducible refine gate_callee (f := 9) rfl ?_); refine goesL_ (some 61) rfl rfl Try.func9 (by kernel_rfl) rfl #[.slice A0 l0.length c0] rfl (by (try simp only [List.map_toArray, List.map_cons, List.map_nil]); first | done | rfl | (simp only [List.length_drop, List.length_take]; rfl)) ?_; (with_reducible refine (spec_DrawSimpleInterest.calls k _ _ l0 t367 t368 t369 _ ?side1 ?side2 A7.out).mono ?_); (case side1 => repeat (first | exact (Kd.C_below HR0.out HB.out) | (with_reducible refine Kd.C_alloc ?_ _) | (with_reducible refine Kd.C_drewN ?_ _) | (with_reducible refine Kd.C_drew ?_))); (case side2 => exact HC0.out); rintro e w18 ⟨rfl, hb⟩; refine ⟨_, rfl, ?_⟩; have n0_ := Aside0.mk (Kd.R_below (by (with_reducible repeat (first | apply Kd.R_alloc | apply Kd.R_drewN | apply Kd.R_drew)); exact HO362.out) hb); have n1_ := Aside0.mk (below_step (by repeat (first | (with_reducible first | exact HB.out | apply below_alloc | apply pw_below_drewN | apply below_drew1) | exact HB.out)) hb); clear HO362; clear HB; have HO362 := n0_; have HB := n1_; clear n0_ n1_; (try clear hb); (try clear hb2); (try clear hk); (try clear hi)) | ((with_reducible refine gate_callee (f := 10) rfl ?_); refine goesL_ (some 69) rfl rfl Try.func10 (by kernel_rfl) rfl #[.int .i64 t367, .int .i64 t368, .int .i64 t369] rfl (by (try simp only [List.map_toArray, List.map_cons, List.map_nil]); first | done | rfl | (simp only [List.length_drop, List.length_take]; rfl)) ?_; (with_reducible refine (impl_SimpleInterest.calls k t367 t368 t369 t370 t371 _ A8.out).mono ?_); rintro e w' ⟨rfl, ⟨nd, rfl⟩⟩; refine ⟨_, rfl, ?_⟩) | ((with_reducible refine gate_callee (f := 11) rfl ?_); refine goesL_ (some 76) rfl rfl Try.func11 (by kernel_rfl) rfl #[.int .i64 t367, .int .i64 t368, .int .i64 t369] rfl (by (try simp only [List.map_toArray, List.map_cons, List.map_nil]); first | done | rfl | (simp only [List.length_drop, List.length_take]; rfl)) ?_; (with_reducible refine (spec_SimpleInterest.calls k t367 t368 t369 t372 t373 _ A9.out).mono ?_); rintro e w' ⟨rfl, ⟨nd, rfl⟩⟩; refine ⟨_, rfl, ?_⟩) | ((with_reducible refine gate_callee (f := 12) rfl ?_); refine goesL_ (some 81) rfl rfl Try.func12 (by kernel_rfl) rfl #[.slice A0 l0.length c0] rfl (by (try simp only [List.map_toArray, List.map_cons, List.map_nil]); first | done | rfl | (simp only [List.length_drop, List.length_take]; rfl)) ?_; (with_reducible refine (spec_DrawWeightOf.calls k _ _ l0 t374 t375 t376 _ ?side1 ?side2 A10.out).mono ?_); (case side1 => repeat (first | exact (Kd.C_below HR0.out (by repeat (first | (with_reducible first | exact HB.out | apply below_alloc | apply pw_below_drewN | apply below_drew1) | exact HB.out))) | (with_reducible refine Kd.C_alloc ?_ _) | (with_reducible refine Kd.C_drewN ?_ _) | (with_reducible refine Kd.C_drew ?_))); (case side2 => exact HC0.out); rintro e w19 ⟨v377, rfl, ho0, hb⟩; refine ⟨_, rfl, ?_⟩; have n0_ := Aside0.mk (Kd.R_elder' (by (with_reducible repeat (first | apply Kd.R_alloc | apply Kd.R_drewN | apply Kd.R_drew)); exact HO362.out) (Kd.R_base ho0) hb); have n1_ := Aside0.mk (Kd.R_lower (Kd.R_new' ho0 (Kd.R_lt (by (with_reducible repeat (first | apply Kd.R_alloc | apply Kd.R_drewN | apply Kd.R_drew)); exact HO362.out))) (below_size (by repeat (first | (with_reducible first | exact HB.out | apply below_alloc | apply pw_below_drewN | apply below_drew1) | exact HB.out)))); have n2_ := Aside0.mk (below_step (by repeat (first | (with_reducible first | exact HB.out | apply below_alloc | apply pw_below_drewN | apply below_drew1) | exact HB.out)) hb); clear HO362; clear HB; have HO362 := n0_; have HO378 := n1_; have HB := n2_; clear n0_ n1_ n2_; (try clear hb); (try clear hb2); (try clear hk); (try clear hi); (try clear ho0); obtain ⟨Ao20, co20, eo20⟩ := Kd.R_slice HO378.out; subst eo20) | ((with_reducible refine gate_callee (f := 13) rfl ?_); refine goesL_ (some 89) rfl rfl Try.func13 (by kernel_rfl) rfl #[.slice Ao20 t374.length co20, .int .i64 t375, .int .i64 t376] rfl (by (try simp only [List.map_toArray, List.map_cons, List.map_nil]); first | done | rfl | (simp only [List.length_drop, List.length_take]; rfl)) ?_; (with_reducible refine (impl_WeightOf.calls k _ _ t374 t375 t376 t379 t380 _ ?side1 ?side2 A11.out).mono ?_); (case side1 => repeat (first | exact (Kd.R_reads' HO378.out).2.2 | (with_reducible refine Kd.C_alloc ?_ _) | (with_reducible refine Kd.C_drewN ?_ _) | (with_reducible refine Kd.C_drew ?_))); (case side2 => exact (Kd.R_reads' HO378.out).2.1); rintro e w21 ⟨rfl, hb⟩; refine ⟨_, rfl, ?_⟩; have n0_ := Aside0.mk (Kd.R_below (by (with_reducible repeat (first | apply Kd.R_alloc | apply Kd.R_drewN | apply Kd.R_drew)); exact HO362.out) hb); have n1_ := Aside0.mk (Kd.R_below (by (with_reducible repeat (first | apply Kd.R_alloc | apply Kd.R_drewN | apply Kd.R_drew)); exact HO378.out) hb); have n2_ := Aside0.mk (below_step (by repeat (first | (with_reducible first | exact HB.out | apply below_alloc | apply pw_below_drewN | apply below_drew1) | exact HB.out)) hb); clear HO362; clear HO378; clear HB; have HO362 := n0_; have HO378 := n1_; have HB := n2_; clear n0_ n1_ n2_; (try clear hb); (try clear hb2); (try clear hk); (try clear hi)) | ((with_reducible refine gate_callee (f := 14) rfl ?_); refine goesL_ (some 96) rfl rfl Try.func14 (by kernel_rfl) rfl #[.slice Ao20 t374.length co20, .int .i64 t375, .int .i64 t376] rfl (by (try simp only [List.map_toArray, List.map_cons, List.map_nil]); first | done | rfl | (simp only [List.length_drop, List.length_take]; rfl)) ?_; (with_reducible refine (spec_WeightOf.calls k _ _ t374 t375 t376 t381 t382 _ ?side1 ?side2 A12.out).mono ?_); (case side1 => repeat (first | exact (Kd.R_reads' HO378.out).2.2 | (with_reducible refine Kd.C_alloc ?_ _) | (with_reducible refine Kd.C_drewN ?_ _) | (with_reducible refine Kd.C_drew ?_))); (case side2 => exact (Kd.R_reads' HO378.out).2.1); rintro e w22 ⟨rfl, hb⟩; refine ⟨_, rfl, ?_⟩; have n0_ := Aside0.mk (Kd.R_below (by (with_reducible repeat (first | apply Kd.R_alloc | apply Kd.R_drewN | apply Kd.R_drew)); exact HO362.out) hb); have n1_ := Aside0.mk (Kd.R_below (by (with_reducible repeat (first | apply Kd.R_alloc | apply Kd.R_drewN | apply Kd.R_drew)); exact HO378.out) hb); have n2_ := Aside0.mk (below_step (by repeat (first | (with_reducible first | exact HB.out | apply below_alloc | apply pw_below_drewN | apply below_drew1) | exact HB.out)) hb); clear HO362; clear HO378; clear HB; have HO362 := n0_; have HO378 := n1_; have HB := n2_; clear n0_ n1_ n2_; (try clear hb); (try clear hb2); (try clear hk); (try clear hi)))
    (try simp only [Act.put, List.setIfInBounds_toArray, List.set_cons_zero, List.set_cons_succ])
    go_cut [133] (fun v133 wc => ∃ (kq : Nat) (x133_12 : Bool), v133 = .bool x133_12 ∧ Aside0 (laws_FnInterest.j0 kq l0 t357 t358 t359 t360 t363 t364 t367 t368 t369 t370 t371 t374 t375 t376 t379 t380 x133_12 = some r) ∧ Aside0 (kq ≤ k) ∧ Aside0 (Kd.R k37 37 wc w.heap.size (fun k_ => some k_ ≠ ((.slice Ao20 t374.length co20) : Value).ownBlock) (.slice Ao15 t357.length co15) t357) ∧ Aside0 (Kd.R k37 37 wc w.heap.size (fun k_ => some k_ ≠ ((.slice Ao15 t357.length co15) : Value).ownBlock) (.slice Ao20 t374.length co20) t374) ∧ Aside0 (Below w.heap.size w wc))
    case first =>
      as_aux_lemma =>
        have H := HC13.out
        clear HC13
        by_cases c23 : t364 = t366
        · rw [if_pos c23] at H
          have c23b0 : (t364 == t366) = true := beq_iff_eq.mpr c23
          have c23b1 : (t364 != t366) = false := bne_eq_false_iff_eq.mpr c23
          clear c23
          (first | rw [c23b0] | (simp only [i64_w, i32_w]; rw [c23b0]) | skip)
          by_cases c24 : t363 = t365
          · rw [if_pos c24] at H
            have c24b0 : (t363 == t365) = true := beq_iff_eq.mpr c24
            have c24b1 : (t363 != t365) = false := bne_eq_false_iff_eq.mpr c24
            clear c24
            by_cases c25 : t371 = t373
            · rw [if_pos c25] at H
              have c25b0 : (t371 == t373) = true := beq_iff_eq.mpr c25
              have c25b1 : (t371 != t373) = false := bne_eq_false_iff_eq.mpr c25
              clear c25
              by_cases c26 : t370 = t372
              · rw [if_pos c26] at H
                have c26b0 : (t370 == t372) = true := beq_iff_eq.mpr c26
                have c26b1 : (t370 != t372) = false := bne_eq_false_iff_eq.mpr c26
                clear c26
                by_cases c27 : t380 = t382
                · rw [if_pos c27] at H
                  have c27b0 : (t380 == t382) = true := beq_iff_eq.mpr c27
                  have c27b1 : (t380 != t382) = false := bne_eq_false_iff_eq.mpr c27
                  clear c27
                  by_cases c28 : t379 = t381
                  · rw [if_pos c28] at H
                    have c28b0 : (t379 == t381) = true := beq_iff_eq.mpr c28
                    have c28b1 : (t379 != t381) = false := bne_eq_false_iff_eq.mpr c28
                    clear c28
                    replace H := Option.bind_eq_some_iff.mp H
                    obtain ⟨t383, A290, H⟩ := H
                    replace H : ((spec_IsSchedule.f k t374).bind fun t384 => (laws_FnInterest.j0 k l0 t357 t358 t359 t360 t363 t364 t367 t368 t369 t370 t371 t374 t375 t376 t379 t380 (t383 != t384))) = some r := H
                    have A29 := Aside0.mk A290
                    clear A290
                    replace H := Option.bind_eq_some_iff.mp H
                    obtain ⟨t384, A300, H⟩ := H
                    replace H : (laws_FnInterest.j0 k l0 t357 t358 t359 t360 t363 t364 t367 t368 t369 t370 t371 t374 t375 t376 t379 t380 (t383 != t384)) = some r := H
                    have A30 := Aside0.mk A300
                    clear A300
                    have H' := Aside0.mk H
                    clear H
                    go_wp2_with (first | (go_at_call 15; (with_reducible refine (impl_IsSchedule.calls k _ _ t374 t383 _ ?side1 ?side2 A29.out).mono ?_); (case side1 => repeat (first | exact (Kd.R_reads' HO378.out).2.2 | (with_reducible refine Kd.C_alloc ?_ _) | (with_reducible refine Kd.C_drewN ?_ _) | (with_reducible refine Kd.C_drew ?_))); (case side2 => exact (Kd.R_reads' HO378.out).2.1); rintro e w31 ⟨rfl, hb⟩; have n0_ := Aside0.mk (Kd.R_below (by (with_reducible repeat (first | apply Kd.R_alloc | apply Kd.R_drewN | apply Kd.R_drew)); exact HO362.out) hb); have n1_ := Aside0.mk (Kd.R_below (by (with_reducible repeat (first | apply Kd.R_alloc | apply Kd.R_drewN | apply Kd.R_drew)); exact HO378.out) hb); have n2_ := Aside0.mk (below_step (by repeat (first | (with_reducible first | exact HB.out | apply below_alloc | apply pw_below_drewN | apply below_drew1) | exact HB.out)) hb); clear HO362; clear HO378; clear HB; have HO362 := n0_; have HO378 := n1_; have HB := n2_; clear n0_ n1_ n2_; (try clear hb); (try clear hb2); (try clear hk); (try clear hi)) | (go_at_call 16; (with_reducible refine (spec_IsSchedule.calls k _ _ t374 t384 _ ?side1 ?side2 A30.out).mono ?_); (case side1 => repeat (first | exact (Kd.R_reads' HO378.out).2.2 | (with_reducible refine Kd.C_alloc ?_ _) | (with_reducible refine Kd.C_drewN ?_ _) | (with_reducible refine Kd.C_drew ?_))); (case side2 => exact (Kd.R_reads' HO378.out).2.1); rintro e w32 ⟨rfl, hb⟩; have n0_ := Aside0.mk (Kd.R_below (by (with_reducible repeat (first | apply Kd.R_alloc | apply Kd.R_drewN | apply Kd.R_drew)); exact HO362.out) hb); have n1_ := Aside0.mk (Kd.R_below (by (with_reducible repeat (first | apply Kd.R_alloc | apply Kd.R_drewN | apply Kd.R_drew)); exact HO378.out) hb); have n2_ := Aside0.mk (below_step (by repeat (first | (with_reducible first | exact HB.out | apply below_alloc | apply pw_below_drewN | apply below_drew1) | exact HB.out)) hb); clear HO362; clear HO378; clear HB; have HO362 := n0_; have HO378 := n1_; have HB := n2_; clear n0_ n1_ n2_; (try clear hb); (try clear hb2); (try clear hk); (try clear hi)))
                    go_meet
                    case rel => exact ⟨_, ((t383 != t384)), (by first | rfl | (simp; done) | (simp [*]; done)), H', ⟨by first | omega | exact Nat.le_refl _⟩, ⟨by (with_reducible repeat (first | apply Kd.R_alloc | apply Kd.R_drewN | apply Kd.R_drew)); exact Kd.R_mono HO362.out (fun _ hk => hk.2)⟩, ⟨by (with_reducible repeat (first | apply Kd.R_alloc | apply Kd.R_drewN | apply Kd.R_drew)); exact Kd.R_mono HO378.out (fun _ hk => hk.2)⟩, ⟨by repeat (first | (with_reducible first | exact HB.out | apply below_alloc | apply pw_below_drewN | apply below_drew1) | exact HB.out)⟩⟩
                  · rw [if_neg c28] at H
                    have c28b0 : (t379 == t381) = false := beq_eq_false_iff_ne.mpr c28
                    have c28b1 : (t379 != t381) = true := bne_iff_ne.mpr c28
                    have H' := Aside0.mk H
                    clear H
                    go_wp2
                    go_meet
                    case rel => exact ⟨_, (true), (by first | rfl | (simp; done) | (simp [*]; done)), H', ⟨by first | omega | exact Nat.le_refl _⟩, ⟨by (with_reducible repeat (first | apply Kd.R_alloc | apply Kd.R_drewN | apply Kd.R_drew)); exact Kd.R_mono HO362.out (fun _ hk => hk.2)⟩, ⟨by (with_reducible repeat (first | apply Kd.R_alloc | apply Kd.R_drewN | apply Kd.R_drew)); exact Kd.R_mono HO378.out (fun _ hk => hk.2)⟩, ⟨by repeat (first | (with_reducible first | exact HB.out | apply below_alloc | apply pw_below_drewN | apply below_drew1) | exact HB.out)⟩⟩
                · rw [if_neg c27] at H
                  have c27b0 : (t380 == t382) = false := beq_eq_false_iff_ne.mpr c27
                  have c27b1 : (t380 != t382) = true := bne_iff_ne.mpr c27
                  have H' := Aside0.mk H
                  clear H
                  go_wp2
                  go_meet
                  case rel => exact ⟨_, (true), (by first | rfl | (simp; done) | (simp [*]; done)), H', ⟨by first | omega | exact Nat.le_refl _⟩, ⟨by (with_reducible repeat (first | apply Kd.R_alloc | apply Kd.R_drewN | apply Kd.R_drew)); exact Kd.R_mono HO362.out (fun _ hk => hk.2)⟩, ⟨by (with_reducible repeat (first | apply Kd.R_alloc | apply Kd.R_drewN | apply Kd.R_drew)); exact Kd.R_mono HO378.out (fun _ hk => hk.2)⟩, ⟨by repeat (first | (with_reducible first | exact HB.out | apply below_alloc | apply pw_below_drewN | apply below_drew1) | exact HB.out)⟩⟩
              · rw [if_neg c26] at H
                have c26b0 : (t370 == t372) = false := beq_eq_false_iff_ne.mpr c26
                have c26b1 : (t370 != t372) = true := bne_iff_ne.mpr c26
                have H' := Aside0.mk H
                clear H
                go_wp2
                go_meet
                case rel => exact ⟨_, (true), (by first | rfl | (simp; done) | (simp [*]; done)), H', ⟨by first | omega | exact Nat.le_refl _⟩, ⟨by (with_reducible repeat (first | apply Kd.R_alloc | apply Kd.R_drewN | apply Kd.R_drew)); exact Kd.R_mono HO362.out (fun _ hk => hk.2)⟩, ⟨by (with_reducible repeat (first | apply Kd.R_alloc | apply Kd.R_drewN | apply Kd.R_drew)); exact Kd.R_mono HO378.out (fun _ hk => hk.2)⟩, ⟨by repeat (first | (with_reducible first | exact HB.out | apply below_alloc | apply pw_below_drewN | apply below_drew1) | exact HB.out)⟩⟩
            · rw [if_neg c25] at H
              have c25b0 : (t371 == t373) = false := beq_eq_false_iff_ne.mpr c25
              have c25b1 : (t371 != t373) = true := bne_iff_ne.mpr c25
              have H' := Aside0.mk H
              clear H
              go_wp2
              go_meet
              case rel => exact ⟨_, (true), (by first | rfl | (simp; done) | (simp [*]; done)), H', ⟨by first | omega | exact Nat.le_refl _⟩, ⟨by (with_reducible repeat (first | apply Kd.R_alloc | apply Kd.R_drewN | apply Kd.R_drew)); exact Kd.R_mono HO362.out (fun _ hk => hk.2)⟩, ⟨by (with_reducible repeat (first | apply Kd.R_alloc | apply Kd.R_drewN | apply Kd.R_drew)); exact Kd.R_mono HO378.out (fun _ hk => hk.2)⟩, ⟨by repeat (first | (with_reducible first | exact HB.out | apply below_alloc | apply pw_below_drewN | apply below_drew1) | exact HB.out)⟩⟩
          · rw [if_neg c24] at H
            have c24b0 : (t363 == t365) = false := beq_eq_false_iff_ne.mpr c24
            have c24b1 : (t363 != t365) = true := bne_iff_ne.mpr c24
            have H' := Aside0.mk H
            clear H
            go_wp2
            go_meet
            case rel => exact ⟨_, (true), (by first | rfl | (simp; done) | (simp [*]; done)), H', ⟨by first | omega | exact Nat.le_refl _⟩, ⟨by (with_reducible repeat (first | apply Kd.R_alloc | apply Kd.R_drewN | apply Kd.R_drew)); exact Kd.R_mono HO362.out (fun _ hk => hk.2)⟩, ⟨by (with_reducible repeat (first | apply Kd.R_alloc | apply Kd.R_drewN | apply Kd.R_drew)); exact Kd.R_mono HO378.out (fun _ hk => hk.2)⟩, ⟨by repeat (first | (with_reducible first | exact HB.out | apply below_alloc | apply pw_below_drewN | apply below_drew1) | exact HB.out)⟩⟩
        · rw [if_neg c23] at H
          have c23b0 : (t364 == t366) = false := beq_eq_false_iff_ne.mpr c23
          have c23b1 : (t364 != t366) = true := bne_iff_ne.mpr c23
          (first | rw [c23b0] | (simp only [i64_w, i32_w]; rw [c23b0]) | skip)
          have H' := Aside0.mk H
          clear H
          go_wp2
          go_meet
          case rel => exact ⟨_, (true), (by first | rfl | (simp; done) | (simp [*]; done)), H', ⟨by first | omega | exact Nat.le_refl _⟩, ⟨by (with_reducible repeat (first | apply Kd.R_alloc | apply Kd.R_drewN | apply Kd.R_drew)); exact Kd.R_mono HO362.out (fun _ hk => hk.2)⟩, ⟨by (with_reducible repeat (first | apply Kd.R_alloc | apply Kd.R_drewN | apply Kd.R_drew)); exact Kd.R_mono HO378.out (fun _ hk => hk.2)⟩, ⟨by repeat (first | (with_reducible first | exact HB.out | apply below_alloc | apply pw_below_drewN | apply below_drew1) | exact HB.out)⟩⟩
    case rest =>
      as_aux_lemma =>
        clear HC13
        try clear c1
        try clear c2
        try clear p2
        try clear c3
        try clear c5
        try clear c6
        try clear c7
        try clear c8
        try clear c9
        try clear c10
        try clear c11
        try clear c12
        try clear c13
        try clear c14
        try clear c23
        try clear c23b0
        try clear c23b1
        try clear c24
        try clear c24b0
        try clear c24b1
        try clear c25
        try clear c25b0
        try clear c25b1
        try clear c26
        try clear c26b0
        try clear c26b1
        try clear c27
        try clear c27b0
        try clear c27b1
        try clear c28
        try clear c28b0
        try clear c28b1
        obtain ⟨kq, x133_12, rfl, HA, HJ12, HO_3, HO_18, HB⟩ := hcut
        cases kq with
        | zero => exact absurd HA.out (by simp [laws_FnInterest.j0])
        | succ kj12 =>
          have H := HA.out
          clear HA
          simp only [laws_FnInterest.j0] at H
          by_cases c33 : x133_12 = true
          · subst c33
            have H1 : (some false) = some r := by rw [if_pos rfl] at H; exact H
            clear H
            have H := H1
            clear H1
            obtain rfl := Option.some.inj H
            go_wp2
            go_ret
            exact ⟨by first | rfl | (simp [errW_none, errW_some] <;> rfl) | (simp [*, errW_none, errW_some] <;> rfl), by repeat (first | (with_reducible first | exact HB.out | apply below_alloc | apply pw_below_drewN | apply below_drew1) | exact HB.out)⟩
          · replace c33 := Bool.eq_false_iff.mpr c33
            subst c33
            have H1 : (if t371 = 0 then ((impl_InterestBetween.f kj12 (([(⟨0, t368⟩ : S37)] : List (S37))) t367 0 t369).bind fun bt388 => (if bt388.2 = 0 then (if bt388.1 = t370 then (laws_FnInterest.j1 kj12 l0 t357 t358 t359 t360 t363 t364 t374 t375 t376 t379 t380) else (some false)) else (some false))) else (laws_FnInterest.j1 kj12 l0 t357 t358 t359 t360 t363 t364 t374 t375 t376 t379 t380)) = some r := by rw [if_neg (show ¬ (false = true) by decide)] at H; exact H
            clear H
            have H := H1
            clear H1
            have HC34 := Aside0.mk H
            clear H
            go_upto_if 135 with (fail)
            go_cut [] (fun wc => ∃ (kq : Nat), Aside0 (laws_FnInterest.j1 kq l0 t357 t358 t359 t360 t363 t364 t374 t375 t376 t379 t380 = some r) ∧ Aside0 (kq ≤ kj12) ∧ Aside0 (Kd.R k37 37 wc w.heap.size (fun k_ => some k_ ≠ ((.slice Ao20 t374.length co20) : Value).ownBlock) (.slice Ao15 t357.length co15) t357) ∧ Aside0 (Kd.R k37 37 wc w.heap.size (fun k_ => some k_ ≠ ((.slice Ao15 t357.length co15) : Value).ownBlock) (.slice Ao20 t374.length co20) t374) ∧ Aside0 (Below w.heap.size w wc))
            case first =>
              as_aux_lemma =>
                have H := HC34.out
                clear HC34
                by_cases c35 : t371 = 0
                · rw [if_pos c35] at H
                  have c35b0 : (t371 == 0) = true := beq_iff_eq.mpr c35
                  have c35b1 : (t371 != 0) = false := bne_eq_false_iff_eq.mpr c35
                  clear c35
                  (first | rw [c35b0] | (simp only [i64_w, i32_w]; rw [c35b0]) | skip)
                  obtain ⟨y385, hy385⟩ : ∃ y_ : List (S37), y_ = (([(⟨0, t368⟩ : S37)] : List (S37))) := ⟨_, rfl⟩
                  replace H : ((impl_InterestBetween.f kj12 y385 t367 0 t369).bind fun bt388 => (if bt388.2 = 0 then (if bt388.1 = t370 then (laws_FnInterest.j1 kj12 l0 t357 t358 t359 t360 t363 t364 t374 t375 t376 t379 t380) else (some false)) else (some false))) = some r := by first | (rw [hy385]; with_reducible exact H) | (have H2_ := (Option.bind_some _ _).symm.trans H; rw [hy385]; with_reducible exact H2_) | (have H2_ := (Option.bind_some _ _).symm.trans H; with_reducible exact H2_) | with_reducible exact H | (rw [hy385]; exact H) | exact H
                  have Ny385 := Aside0.mk hy385
                  clear hy385
                  replace H := Option.bind_eq_some_iff.mp H
                  obtain ⟨⟨t388, t389⟩, A360, H⟩ := H
                  replace H : (if t389 = 0 then (if t388 = t370 then (laws_FnInterest.j1 kj12 l0 t357 t358 t359 t360 t363 t364 t374 t375 t376 t379 t380) else (some false)) else (some false)) = some r := H
                  have A36 := Aside0.mk A360
                  clear A360
                  by_cases c37 : t389 = 0
                  · rw [if_pos c37] at H
                    have c37b0 : (t389 == 0) = true := beq_iff_eq.mpr c37
                    have c37b1 : (t389 != 0) = false := bne_eq_false_iff_eq.mpr c37
                    clear c37
                    by_cases c38 : t388 = t370
                    · rw [if_pos c38] at H
                      have c38b0 : (t388 == t370) = true := beq_iff_eq.mpr c38
                      have c38b1 : (t388 != t370) = false := bne_eq_false_iff_eq.mpr c38
                      clear c38
                      have H' := Aside0.mk H
                      clear H
                      go_wp2_with (first | ((with_reducible refine gate_dst (N := 139) rfl ?_); refine Kd.R_lit k37 _ 37 ?hg (N := 139) ?hd (xs := ([(⟨0, t368⟩ : S37)] : List (S37))) (inner := [.int .i64 0, .int .i64 t368]) (ok := fun _ => True) (okp := fun _ => True) ?hr ?hp (fun _ hk => hk) trivial (Below.refl _ _) (Nat.le_refl _) (by simp) ?_; (case hd => rfl); (case hg => rfl); (case hr => first | (go_simp; done) | (go_simp; rfl)); (case hp => exact (Reps.c2 (show Kd.M k37 _ _ _ (⟨0, t368⟩ : S37) [.int .i64 0, .int .i64 t368] from (k37_mkM _ _ _ (⟨0, t368⟩ : S37) )) (Reps.none _ _))); intro v386 w39 ho40 hb hg_ hnew_; clear hg_ hnew_; (first | rw [← Ny385.out] at ho40 | (simp only [Int.reduceToNat] at ho40; rw [← Ny385.out] at ho40)); have n0_ := Aside0.mk (Kd.R_elder' (by (with_reducible repeat (first | apply Kd.R_alloc | apply Kd.R_drewN | apply Kd.R_drew)); exact HO_3.out) (Kd.R_base ho40) hb); have n1_ := Aside0.mk (Kd.R_elder' (by (with_reducible repeat (first | apply Kd.R_alloc | apply Kd.R_drewN | apply Kd.R_drew)); exact HO_18.out) (Kd.R_base ho40) hb); have n2_ := Aside0.mk (Kd.R_lower (Kd.R_new' (Kd.R_new' ho40 (Kd.R_lt (by (with_reducible repeat (first | apply Kd.R_alloc | apply Kd.R_drewN | apply Kd.R_drew)); exact HO_3.out))) (Kd.R_lt (by (with_reducible repeat (first | apply Kd.R_alloc | apply Kd.R_drewN | apply Kd.R_drew)); exact HO_18.out))) (below_size (by repeat (first | (with_reducible first | exact HB.out | apply below_alloc | apply pw_below_drewN | apply below_drew1) | exact HB.out)))); have n3_ := Aside0.mk (below_step (by repeat (first | (with_reducible first | exact HB.out | apply below_alloc | apply pw_below_drewN | apply below_drew1) | exact HB.out)) hb); clear HO_3; clear HO_18; clear HB; have HO_3 := n0_; have HO_18 := n1_; have HO387 := n2_; have HB := n3_; clear n0_ n1_ n2_ n3_; clear hb ho40; obtain ⟨Ao41, co41, eo41⟩ := Kd.R_slice HO387.out; subst eo41) | ((with_reducible refine gate_callee (f := 7) rfl ?_); refine goesL_ (some 142) rfl rfl Try.func7 (by kernel_rfl) rfl #[.slice Ao41 y385.length co41, .int .i64 t367, .int .i64 0, .int .i64 t369] rfl (by (try simp only [List.map_toArray, List.map_cons, List.map_nil]); first | done | rfl | (simp only [List.length_drop, List.length_take]; rfl)) ?_; (with_reducible refine (impl_InterestBetween.calls kj12 _ _ y385 t367 0 t369 t388 t389 _ ?side1 ?side2 A36.out).mono ?_); (case side1 => repeat (first | exact (Kd.R_reads' HO387.out).2.2 | (with_reducible refine Kd.C_alloc ?_ _) | (with_reducible refine Kd.C_drewN ?_ _) | (with_reducible refine Kd.C_drew ?_))); (case side2 => exact (Kd.R_reads' HO387.out).2.1); rintro e w42 ⟨rfl, hb⟩; refine ⟨_, rfl, ?_⟩; have n0_ := Aside0.mk (Kd.R_below (by (with_reducible repeat (first | apply Kd.R_alloc | apply Kd.R_drewN | apply Kd.R_drew)); exact HO_3.out) hb); have n1_ := Aside0.mk (Kd.R_below (by (with_reducible repeat (first | apply Kd.R_alloc | apply Kd.R_drewN | apply Kd.R_drew)); exact HO_18.out) hb); have n2_ := Aside0.mk (Kd.R_below (by (with_reducible repeat (first | apply Kd.R_alloc | apply Kd.R_drewN | apply Kd.R_drew)); exact HO387.out) hb); have n3_ := Aside0.mk (below_step (by repeat (first | (with_reducible first | exact HB.out | apply below_alloc | apply pw_below_drewN | apply below_drew1) | exact HB.out)) hb); clear HO_3; clear HO_18; clear HO387; clear HB; have HO_3 := n0_; have HO_18 := n1_; have HO387 := n2_; have HB := n3_; clear n0_ n1_ n2_ n3_; (try clear hb); (try clear hb2); (try clear hk); (try clear hi)))
                      go_meet
                      case rel => exact ⟨_, H', ⟨by have := HJ12.out; first | omega | exact Nat.le_refl _⟩, ⟨by (with_reducible repeat (first | apply Kd.R_alloc | apply Kd.R_drewN | apply Kd.R_drew)); exact Kd.R_mono HO_3.out (fun _ hk => hk.1)⟩, ⟨by (with_reducible repeat (first | apply Kd.R_alloc | apply Kd.R_drewN | apply Kd.R_drew)); exact Kd.R_mono HO_18.out (fun _ hk => hk.1)⟩, ⟨by repeat (first | (with_reducible first | exact HB.out | apply below_alloc | apply pw_below_drewN | apply below_drew1) | exact HB.out)⟩⟩
                    · rw [if_neg c38] at H
                      have c38b0 : (t388 == t370) = false := beq_eq_false_iff_ne.mpr c38
                      have c38b1 : (t388 != t370) = true := bne_iff_ne.mpr c38
                      obtain rfl := Option.some.inj H
                      go_wp2_with (first | ((with_reducible refine gate_dst (N := 139) rfl ?_); refine Kd.R_lit k37 _ 37 ?hg (N := 139) ?hd (xs := ([(⟨0, t368⟩ : S37)] : List (S37))) (inner := [.int .i64 0, .int .i64 t368]) (ok := fun _ => True) (okp := fun _ => True) ?hr ?hp (fun _ hk => hk) trivial (Below.refl _ _) (Nat.le_refl _) (by simp) ?_; (case hd => rfl); (case hg => rfl); (case hr => first | (go_simp; done) | (go_simp; rfl)); (case hp => exact (Reps.c2 (show Kd.M k37 _ _ _ (⟨0, t368⟩ : S37) [.int .i64 0, .int .i64 t368] from (k37_mkM _ _ _ (⟨0, t368⟩ : S37) )) (Reps.none _ _))); intro v386 w43 ho44 hb hg_ hnew_; clear hg_ hnew_; (first | rw [← Ny385.out] at ho44 | (simp only [Int.reduceToNat] at ho44; rw [← Ny385.out] at ho44)); have n0_ := Aside0.mk (Kd.R_elder' (by (with_reducible repeat (first | apply Kd.R_alloc | apply Kd.R_drewN | apply Kd.R_drew)); exact HO_3.out) (Kd.R_base ho44) hb); have n1_ := Aside0.mk (Kd.R_elder' (by (with_reducible repeat (first | apply Kd.R_alloc | apply Kd.R_drewN | apply Kd.R_drew)); exact HO_18.out) (Kd.R_base ho44) hb); have n2_ := Aside0.mk (Kd.R_lower (Kd.R_new' (Kd.R_new' ho44 (Kd.R_lt (by (with_reducible repeat (first | apply Kd.R_alloc | apply Kd.R_drewN | apply Kd.R_drew)); exact HO_3.out))) (Kd.R_lt (by (with_reducible repeat (first | apply Kd.R_alloc | apply Kd.R_drewN | apply Kd.R_drew)); exact HO_18.out))) (below_size (by repeat (first | (with_reducible first | exact HB.out | apply below_alloc | apply pw_below_drewN | apply below_drew1) | exact HB.out)))); have n3_ := Aside0.mk (below_step (by repeat (first | (with_reducible first | exact HB.out | apply below_alloc | apply pw_below_drewN | apply below_drew1) | exact HB.out)) hb); clear HO_3; clear HO_18; clear HB; have HO_3 := n0_; have HO_18 := n1_; have HO387 := n2_; have HB := n3_; clear n0_ n1_ n2_ n3_; clear hb ho44; obtain ⟨Ao45, co45, eo45⟩ := Kd.R_slice HO387.out; subst eo45) | ((with_reducible refine gate_callee (f := 7) rfl ?_); refine goesL_ (some 142) rfl rfl Try.func7 (by kernel_rfl) rfl #[.slice Ao45 y385.length co45, .int .i64 t367, .int .i64 0, .int .i64 t369] rfl (by (try simp only [List.map_toArray, List.map_cons, List.map_nil]); first | done | rfl | (simp only [List.length_drop, List.length_take]; rfl)) ?_; (with_reducible refine (impl_InterestBetween.calls kj12 _ _ y385 t367 0 t369 t388 t389 _ ?side1 ?side2 A36.out).mono ?_); (case side1 => repeat (first | exact (Kd.R_reads' HO387.out).2.2 | (with_reducible refine Kd.C_alloc ?_ _) | (with_reducible refine Kd.C_drewN ?_ _) | (with_reducible refine Kd.C_drew ?_))); (case side2 => exact (Kd.R_reads' HO387.out).2.1); rintro e w46 ⟨rfl, hb⟩; refine ⟨_, rfl, ?_⟩; have n0_ := Aside0.mk (Kd.R_below (by (with_reducible repeat (first | apply Kd.R_alloc | apply Kd.R_drewN | apply Kd.R_drew)); exact HO_3.out) hb); have n1_ := Aside0.mk (Kd.R_below (by (with_reducible repeat (first | apply Kd.R_alloc | apply Kd.R_drewN | apply Kd.R_drew)); exact HO_18.out) hb); have n2_ := Aside0.mk (Kd.R_below (by (with_reducible repeat (first | apply Kd.R_alloc | apply Kd.R_drewN | apply Kd.R_drew)); exact HO387.out) hb); have n3_ := Aside0.mk (below_step (by repeat (first | (with_reducible first | exact HB.out | apply below_alloc | apply pw_below_drewN | apply below_drew1) | exact HB.out)) hb); clear HO_3; clear HO_18; clear HO387; clear HB; have HO_3 := n0_; have HO_18 := n1_; have HO387 := n2_; have HB := n3_; clear n0_ n1_ n2_ n3_; (try clear hb); (try clear hb2); (try clear hk); (try clear hi)))
                      go_ret
                      exact ⟨by first | rfl | (simp [errW_none, errW_some] <;> rfl) | (simp [*, errW_none, errW_some] <;> rfl), by repeat (first | (with_reducible first | exact HB.out | apply below_alloc | apply pw_below_drewN | apply below_drew1) | exact HB.out)⟩
                  · rw [if_neg c37] at H
                    have c37b0 : (t389 == 0) = false := beq_eq_false_iff_ne.mpr c37
                    have c37b1 : (t389 != 0) = true := bne_iff_ne.mpr c37
                    obtain rfl := Option.some.inj H
                    go_wp2_with (first | ((with_reducible refine gate_dst (N := 139) rfl ?_); refine Kd.R_lit k37 _ 37 ?hg (N := 139) ?hd (xs := ([(⟨0, t368⟩ : S37)] : List (S37))) (inner := [.int .i64 0, .int .i64 t368]) (ok := fun _ => True) (okp := fun _ => True) ?hr ?hp (fun _ hk => hk) trivial (Below.refl _ _) (Nat.le_refl _) (by simp) ?_; (case hd => rfl); (case hg => rfl); (case hr => first | (go_simp; done) | (go_simp; rfl)); (case hp => exact (Reps.c2 (show Kd.M k37 _ _ _ (⟨0, t368⟩ : S37) [.int .i64 0, .int .i64 t368] from (k37_mkM _ _ _ (⟨0, t368⟩ : S37) )) (Reps.none _ _))); intro v386 w47 ho48 hb hg_ hnew_; clear hg_ hnew_; (first | rw [← Ny385.out] at ho48 | (simp only [Int.reduceToNat] at ho48; rw [← Ny385.out] at ho48)); have n0_ := Aside0.mk (Kd.R_elder' (by (with_reducible repeat (first | apply Kd.R_alloc | apply Kd.R_drewN | apply Kd.R_drew)); exact HO_3.out) (Kd.R_base ho48) hb); have n1_ := Aside0.mk (Kd.R_elder' (by (with_reducible repeat (first | apply Kd.R_alloc | apply Kd.R_drewN | apply Kd.R_drew)); exact HO_18.out) (Kd.R_base ho48) hb); have n2_ := Aside0.mk (Kd.R_lower (Kd.R_new' (Kd.R_new' ho48 (Kd.R_lt (by (with_reducible repeat (first | apply Kd.R_alloc | apply Kd.R_drewN | apply Kd.R_drew)); exact HO_3.out))) (Kd.R_lt (by (with_reducible repeat (first | apply Kd.R_alloc | apply Kd.R_drewN | apply Kd.R_drew)); exact HO_18.out))) (below_size (by repeat (first | (with_reducible first | exact HB.out | apply below_alloc | apply pw_below_drewN | apply below_drew1) | exact HB.out)))); have n3_ := Aside0.mk (below_step (by repeat (first | (with_reducible first | exact HB.out | apply below_alloc | apply pw_below_drewN | apply below_drew1) | exact HB.out)) hb); clear HO_3; clear HO_18; clear HB; have HO_3 := n0_; have HO_18 := n1_; have HO387 := n2_; have HB := n3_; clear n0_ n1_ n2_ n3_; clear hb ho48; obtain ⟨Ao49, co49, eo49⟩ := Kd.R_slice HO387.out; subst eo49) | ((with_reducible refine gate_callee (f := 7) rfl ?_); refine goesL_ (some 142) rfl rfl Try.func7 (by kernel_rfl) rfl #[.slice Ao49 y385.length co49, .int .i64 t367, .int .i64 0, .int .i64 t369] rfl (by (try simp only [List.map_toArray, List.map_cons, List.map_nil]); first | done | rfl | (simp only [List.length_drop, List.length_take]; rfl)) ?_; (with_reducible refine (impl_InterestBetween.calls kj12 _ _ y385 t367 0 t369 t388 t389 _ ?side1 ?side2 A36.out).mono ?_); (case side1 => repeat (first | exact (Kd.R_reads' HO387.out).2.2 | (with_reducible refine Kd.C_alloc ?_ _) | (with_reducible refine Kd.C_drewN ?_ _) | (with_reducible refine Kd.C_drew ?_))); (case side2 => exact (Kd.R_reads' HO387.out).2.1); rintro e w50 ⟨rfl, hb⟩; refine ⟨_, rfl, ?_⟩; have n0_ := Aside0.mk (Kd.R_below (by (with_reducible repeat (first | apply Kd.R_alloc | apply Kd.R_drewN | apply Kd.R_drew)); exact HO_3.out) hb); have n1_ := Aside0.mk (Kd.R_below (by (with_reducible repeat (first | apply Kd.R_alloc | apply Kd.R_drewN | apply Kd.R_drew)); exact HO_18.out) hb); have n2_ := Aside0.mk (Kd.R_below (by (with_reducible repeat (first | apply Kd.R_alloc | apply Kd.R_drewN | apply Kd.R_drew)); exact HO387.out) hb); have n3_ := Aside0.mk (below_step (by repeat (first | (with_reducible first | exact HB.out | apply below_alloc | apply pw_below_drewN | apply below_drew1) | exact HB.out)) hb); clear HO_3; clear HO_18; clear HO387; clear HB; have HO_3 := n0_; have HO_18 := n1_; have HO387 := n2_; have HB := n3_; clear n0_ n1_ n2_ n3_; (try clear hb); (try clear hb2); (try clear hk); (try clear hi)))
                    go_ret
                    exact ⟨by first | rfl | (simp [errW_none, errW_some] <;> rfl) | (simp [*, errW_none, errW_some] <;> rfl), by repeat (first | (with_reducible first | exact HB.out | apply below_alloc | apply pw_below_drewN | apply below_drew1) | exact HB.out)⟩
                · rw [if_neg c35] at H
                  have c35b0 : (t371 == 0) = false := beq_eq_false_iff_ne.mpr c35
                  have c35b1 : (t371 != 0) = true := bne_iff_ne.mpr c35
                  (first | rw [c35b0] | (simp only [i64_w, i32_w]; rw [c35b0]) | skip)
                  have H' := Aside0.mk H
                  clear H
                  go_wp2
                  go_meet
                  case rel => exact ⟨_, H', ⟨by have := HJ12.out; first | omega | exact Nat.le_refl _⟩, ⟨by (with_reducible repeat (first | apply Kd.R_alloc | apply Kd.R_drewN | apply Kd.R_drew)); exact HO_3.out⟩, ⟨by (with_reducible repeat (first | apply Kd.R_alloc | apply Kd.R_drewN | apply Kd.R_drew)); exact HO_18.out⟩, ⟨by repeat (first | (with_reducible first | exact HB.out | apply below_alloc | apply pw_below_drewN | apply below_drew1) | exact HB.out)⟩⟩
            case rest =>
              as_aux_lemma =>
                clear HC34
                try clear c1
                try clear c2
                try clear p2
                try clear c3
                try clear c5
                try clear c6
                try clear c7
                try clear c8
                try clear c9
                try clear c10
                try clear c11
                try clear c12
                try clear c13
                try clear c14
                try clear c23
                try clear c23b0
                try clear c23b1
                try clear c24
                try clear c24b0
                try clear c24b1
                try clear c25
                try clear c25b0
                try clear c25b1
                try clear c26
                try clear c26b0
                try clear c26b1
                try clear c27
                try clear c27b0
                try clear c27b1
                try clear c28
                try clear c28b0
                try clear c28b1
                try clear c33
                try clear c35
                try clear c35b0
                try clear c35b1
                try clear c37
                try clear c37b0
                try clear c37b1
                try clear c38
                try clear c38b0
                try clear c38b1
                try clear p2
                obtain ⟨kq, HA, HJ33, HO_3, HO_18, HB⟩ := hcut
                cases kq with
                | zero => exact absurd HA.out (by simp [laws_FnInterest.j1])
                | succ kj33 =>
                  have H := HA.out
                  clear HA
                  simp only [laws_FnInterest.j1] at H
                  have HC51 := Aside0.mk H
                  clear H
                  go_upto_region 18 with (fail)
                  go_cut [158] (fun v158 wc => ∃ (kq : Nat) (x158_50 : Bool), v158 = .bool x158_50 ∧ Aside0 (laws_FnInterest.j2 kq l0 t357 t358 t359 t360 t363 t364 t374 t375 t376 t379 x158_50 = some r) ∧ Aside0 (kq ≤ kj33) ∧ Aside0 (Kd.R k37 37 wc w.heap.size (fun k_ => some k_ ≠ ((.slice Ao20 t374.length co20) : Value).ownBlock) (.slice Ao15 t357.length co15) t357) ∧ Aside0 (Kd.R k37 37 wc w.heap.size (fun k_ => some k_ ≠ ((.slice Ao15 t357.length co15) : Value).ownBlock) (.slice Ao20 t374.length co20) t374) ∧ Aside0 (Below w.heap.size w wc))
                  case first =>
                    as_aux_lemma =>
                      have H := HC51.out
                      clear HC51
                      by_cases c52 : t380 = 0
                      · rw [if_pos c52] at H
                        have c52b0 : (t380 == 0) = true := beq_iff_eq.mpr c52
                        have c52b1 : (t380 != 0) = false := bne_eq_false_iff_eq.mpr c52
                        clear c52
                        (first | rw [c52b0] | (simp only [i64_w, i32_w]; rw [c52b0]) | skip)
                        have H' := Aside0.mk H
                        clear H
                        go_wp2
                        go_meet
                        case rel => exact ⟨_, (decide (t375 < t376)), (by first | rfl | (simp; done) | (simp [*]; done)), H', ⟨by have := HJ12.out; have := HJ33.out; first | omega | exact Nat.le_refl _⟩, ⟨by (with_reducible repeat (first | apply Kd.R_alloc | apply Kd.R_drewN | apply Kd.R_drew)); exact HO_3.out⟩, ⟨by (with_reducible repeat (first | apply Kd.R_alloc | apply Kd.R_drewN | apply Kd.R_drew)); exact HO_18.out⟩, ⟨by repeat (first | (with_reducible first | exact HB.out | apply below_alloc | apply pw_below_drewN | apply below_drew1) | exact HB.out)⟩⟩
                      · rw [if_neg c52] at H
                        have c52b0 : (t380 == 0) = false := beq_eq_false_iff_ne.mpr c52
                        have c52b1 : (t380 != 0) = true := bne_iff_ne.mpr c52
                        (first | rw [c52b0] | (simp only [i64_w, i32_w]; rw [c52b0]) | skip)
                        have H' := Aside0.mk H
                        clear H
                        go_wp2
                        go_meet
                        case rel => exact ⟨_, (false), (by first | rfl | (simp; done) | (simp [*]; done)), H', ⟨by have := HJ12.out; have := HJ33.out; first | omega | exact Nat.le_refl _⟩, ⟨by (with_reducible repeat (first | apply Kd.R_alloc | apply Kd.R_drewN | apply Kd.R_drew)); exact HO_3.out⟩, ⟨by (with_reducible repeat (first | apply Kd.R_alloc | apply Kd.R_drewN | apply Kd.R_drew)); exact HO_18.out⟩, ⟨by repeat (first | (with_reducible first | exact HB.out | apply below_alloc | apply pw_below_drewN | apply below_drew1) | exact HB.out)⟩⟩
                  case rest =>
                    as_aux_lemma =>
                      clear HC51
                      try clear c1
                      try clear c2
                      try clear p2
                      try clear c3
                      try clear c5
                      try clear c6
                      try clear c7
                      try clear c8
                      try clear c9
                      try clear c10
                      try clear c11
                      try clear c12
                      try clear c13
                      try clear c14
                      try clear c23
                      try clear c23b0
                      try clear c23b1
                      try clear c24
                      try clear c24b0
                      try clear c24b1
                      try clear c25
                      try clear c25b0
                      try clear c25b1
                      try clear c26
                      try clear c26b0
                      try clear c26b1
                      try clear c27
                      try clear c27b0
                      try clear c27b1
                      try clear c28
                      try clear c28b0
                      try clear c28b1
                      try clear c33
                      try clear c35
                      try clear c35b0
                      try clear c35b1
                      try clear c37
                      try clear c37b0
                      try clear c37b1
                      try clear c38
                      try clear c38b0
                      try clear c38b1
                      try clear c52
                      try clear c52b0
                      try clear c52b1
                      try clear p2
                      obtain ⟨kq, x158_50, rfl, HA, HJ50, HO_3, HO_18, HB⟩ := hcut
                      cases kq with
                      | zero => exact absurd HA.out (by simp [laws_FnInterest.j2])
                      | succ kj50 =>
                        have H := HA.out
                        clear HA
                        simp only [laws_FnInterest.j2] at H
                        by_cases c53 : x158_50 = true
                        · subst c53
                          have H1 : ((laws_roll.f kj50 l0 401).bind fun bt390 => ((laws_dice_below.f bt390.1 bt390.2.1 bt390.2.2 (wrap64 (t376 - t375))).bind fun bt394 => ((impl_WeightOf.f kj50 t374 t375 (wrap64 (t375 + bt394.1))).bind fun bt397 => ((impl_WeightOf.f kj50 t374 (wrap64 (t375 + bt394.1)) t376).bind fun bt399 => (if bt397.2 = 0 then (if bt399.2 = 0 then (laws_FnInterest.j3 kj50 t357 t358 t359 t360 t363 t364 ((wrap64 (bt397.1 + bt399.1)) != t379)) else (laws_FnInterest.j3 kj50 t357 t358 t359 t360 t363 t364 true)) else (laws_FnInterest.j3 kj50 t357 t358 t359 t360 t363 t364 true)))))) = some r := by rw [if_pos rfl] at H; exact H
                          clear H
                          have H := H1
                          clear H1
                          replace H := Option.bind_eq_some_iff.mp H
                          obtain ⟨⟨t390, t391, t392⟩, A540, H⟩ := H
                          replace H : ((laws_dice_below.f t390 t391 t392 (wrap64 (t376 - t375))).bind fun bt394 => ((impl_WeightOf.f kj50 t374 t375 (wrap64 (t375 + bt394.1))).bind fun bt397 => ((impl_WeightOf.f kj50 t374 (wrap64 (t375 + bt394.1)) t376).bind fun bt399 => (if bt397.2 = 0 then (if bt399.2 = 0 then (laws_FnInterest.j3 kj50 t357 t358 t359 t360 t363 t364 ((wrap64 (bt397.1 + bt399.1)) != t379)) else (laws_FnInterest.j3 kj50 t357 t358 t359 t360 t363 t364 true)) else (laws_FnInterest.j3 kj50 t357 t358 t359 t360 t363 t364 true))))) = some r := H
                          have A54 := Aside0.mk A540
                          clear A540
                          replace H := Option.bind_eq_some_iff.mp H
                          obtain ⟨⟨t394, t395, t396⟩, A550, H⟩ := H
                          replace H : ((impl_WeightOf.f kj50 t374 t375 (wrap64 (t375 + t394))).bind fun bt397 => ((impl_WeightOf.f kj50 t374 (wrap64 (t375 + t394)) t376).bind fun bt399 => (if bt397.2 = 0 then (if bt399.2 = 0 then (laws_FnInterest.j3 kj50 t357 t358 t359 t360 t363 t364 ((wrap64 (bt397.1 + bt399.1)) != t379)) else (laws_FnInterest.j3 kj50 t357 t358 t359 t360 t363 t364 true)) else (laws_FnInterest.j3 kj50 t357 t358 t359 t360 t363 t364 true)))) = some r := H
                          have A55 := Aside0.mk A550
                          clear A550
                          replace H := Option.bind_eq_some_iff.mp H
                          obtain ⟨⟨t397, t398⟩, A560, H⟩ := H
                          replace H : ((impl_WeightOf.f kj50 t374 (wrap64 (t375 + t394)) t376).bind fun bt399 => (if t398 = 0 then (if bt399.2 = 0 then (laws_FnInterest.j3 kj50 t357 t358 t359 t360 t363 t364 ((wrap64 (t397 + bt399.1)) != t379)) else (laws_FnInterest.j3 kj50 t357 t358 t359 t360 t363 t364 true)) else (laws_FnInterest.j3 kj50 t357 t358 t359 t360 t363 t364 true))) = some r := H
                          have A56 := Aside0.mk A560
                          clear A560
                          replace H := Option.bind_eq_some_iff.mp H
                          obtain ⟨⟨t399, t400⟩, A570, H⟩ := H
                          replace H : (if t398 = 0 then (if t400 = 0 then (laws_FnInterest.j3 kj50 t357 t358 t359 t360 t363 t364 ((wrap64 (t397 + t399)) != t379)) else (laws_FnInterest.j3 kj50 t357 t358 t359 t360 t363 t364 true)) else (laws_FnInterest.j3 kj50 t357 t358 t359 t360 t363 t364 true)) = some r := H
                          have A57 := Aside0.mk A570
                          clear A570
                          have HC58 := Aside0.mk H
                          clear H
                          go_upto_region 22 with (first | ((with_reducible refine gate_callee (f := 17) rfl ?_); refine goesL_ (some 161) rfl rfl Try.func17 (by kernel_rfl) rfl #[.slice A0 l0.length c0, .int .u64 401] rfl (by (try simp only [List.map_toArray, List.map_cons, List.map_nil]); first | done | rfl | (simp only [List.length_drop, List.length_take]; rfl)) ?_; (with_reducible refine (laws_roll.calls kj50 _ _ l0 401 t390 t391 t392 w _ ?side1 ?side2 ?side3 A54.out).mono ?_); (case side1 => repeat (first | (with_reducible first | exact HB.out | apply below_alloc | apply pw_below_drewN | apply below_drew1) | exact HB.out)); (case side2 => exact HR0.out); (case side3 => exact HC0.out); rintro e w59 ⟨g393, rfl, hi, hb, hb2⟩; refine ⟨_, rfl, ?_⟩; have n0_ := Aside0.mk (Kd.R_below (by (with_reducible repeat (first | apply Kd.R_alloc | apply Kd.R_drewN | apply Kd.R_drew)); exact HO_3.out) hb2); have n1_ := Aside0.mk (Kd.R_below (by (with_reducible repeat (first | apply Kd.R_alloc | apply Kd.R_drewN | apply Kd.R_drew)); exact HO_18.out) hb2); have n2_ := Aside0.mk (hb); have n3_ := Aside0.mk (hi); clear HO_3; clear HO_18; clear HB; have HO_3 := n0_; have HO_18 := n1_; have HB := n2_; have HI393 := n3_; clear n0_ n1_ n2_ n3_; (try clear hb); (try clear hb2); (try clear hk); (try clear hi)) | ((with_reducible refine gate_callee (f := 18) rfl ?_); refine goesL_ (some 165) rfl rfl Try.func18 (by kernel_rfl) rfl #[.pointer (some ⟨g393, 0, none⟩), .int .i64 (wrap64 (t376 - t375))] rfl (by (try simp only [List.map_toArray, List.map_cons, List.map_nil]); first | done | rfl | (simp only [List.length_drop, List.length_take]; rfl)) ?_; (with_reducible refine (laws_dice_below.calls g393 t390 t391 t392 (wrap64 (t376 - t375)) t394 t395 t396 w _ ?side1 ?side2 A55.out).mono ?_); (case side1 => repeat (first | (with_reducible first | exact HI393.out | apply IsS69.alloc | apply IsS69.drewN | apply IsS69.drew | apply IsS69.set_1 | apply IsS69.set_2) | exact HI393.out)); (case side2 => repeat (first | (with_reducible first | exact HB.out | apply below_alloc | apply pw_below_drewN | apply below_drew1 | refine below_set ?_ (IsS69.ge HI393.out)) | exact HB.out)); rintro e w60 ⟨rfl, hi, hb, hk⟩; refine ⟨_, rfl, ?_⟩; have n0_ := Aside0.mk (Kd.R_mono (Kd.R_keep (IsS69.apart (show IsS69 w _ g393 t390 t391 t392 from by repeat (first | (with_reducible first | exact HI393.out | apply IsS69.alloc | apply IsS69.drewN | apply IsS69.drew | apply IsS69.set_1 | apply IsS69.set_2) | exact HI393.out)) (by (with_reducible repeat (first | apply Kd.R_alloc | apply Kd.R_drewN | apply Kd.R_drew)); exact HO_3.out) (by decide)) hk (fun _ h => h.2)) (fun _ h => h.1)); have n1_ := Aside0.mk (Kd.R_mono (Kd.R_keep (IsS69.apart (show IsS69 w _ g393 t390 t391 t392 from by repeat (first | (with_reducible first | exact HI393.out | apply IsS69.alloc | apply IsS69.drewN | apply IsS69.drew | apply IsS69.set_1 | apply IsS69.set_2) | exact HI393.out)) (by (with_reducible repeat (first | apply Kd.R_alloc | apply Kd.R_drewN | apply Kd.R_drew)); exact HO_18.out) (by decide)) hk (fun _ h => h.2)) (fun _ h => h.1)); have n2_ := Aside0.mk (hb); have n3_ := Aside0.mk (hi); clear HO_3; clear HO_18; clear HB; clear HI393; have HO_3 := n0_; have HO_18 := n1_; have HB := n2_; have HI393 := n3_; clear n0_ n1_ n2_ n3_; (try clear hb); (try clear hb2); (try clear hk); (try clear hi)) | ((with_reducible refine gate_callee (f := 13) rfl ?_); refine goesL_ (some 171) rfl rfl Try.func13 (by kernel_rfl) rfl #[.slice Ao20 t374.length co20, .int .i64 t375, .int .i64 (wrap64 (t375 + t394))] rfl (by (try simp only [List.map_toArray, List.map_cons, List.map_nil]); first | done | rfl | (simp only [List.length_drop, List.length_take]; rfl)) ?_; (with_reducible refine (impl_WeightOf.calls kj50 _ _ t374 t375 (wrap64 (t375 + t394)) t397 t398 _ ?side1 ?side2 A56.out).mono ?_); (case side1 => repeat (first | exact (Kd.R_reads' HO_18.out).2.2 | (with_reducible refine Kd.C_alloc ?_ _) | (with_reducible refine Kd.C_drewN ?_ _) | (with_reducible refine Kd.C_drew ?_))); (case side2 => exact (Kd.R_reads' HO_18.out).2.1); rintro e w61 ⟨rfl, hb⟩; refine ⟨_, rfl, ?_⟩; have n0_ := Aside0.mk (Kd.R_below (by (with_reducible repeat (first | apply Kd.R_alloc | apply Kd.R_drewN | apply Kd.R_drew)); exact HO_3.out) hb); have n1_ := Aside0.mk (Kd.R_below (by (with_reducible repeat (first | apply Kd.R_alloc | apply Kd.R_drewN | apply Kd.R_drew)); exact HO_18.out) hb); have n2_ := Aside0.mk (IsS69.below (by repeat (first | (with_reducible first | exact HI393.out | apply IsS69.alloc | apply IsS69.drewN | apply IsS69.drew | apply IsS69.set_1 | apply IsS69.set_2) | exact HI393.out)) hb); have n3_ := Aside0.mk (below_step (by repeat (first | (with_reducible first | exact HB.out | apply below_alloc | apply pw_below_drewN | apply below_drew1 | refine below_set ?_ (IsS69.ge HI393.out)) | exact HB.out)) hb); clear HO_3; clear HO_18; clear HI393; clear HB; have HO_3 := n0_; have HO_18 := n1_; have HI393 := n2_; have HB := n3_; clear n0_ n1_ n2_ n3_; (try clear hb); (try clear hb2); (try clear hk); (try clear hi)) | ((with_reducible refine gate_callee (f := 13) rfl ?_); refine goesL_ (some 178) rfl rfl Try.func13 (by kernel_rfl) rfl #[.slice Ao20 t374.length co20, .int .i64 (wrap64 (t375 + t394)), .int .i64 t376] rfl (by (try simp only [List.map_toArray, List.map_cons, List.map_nil]); first | done | rfl | (simp only [List.length_drop, List.length_take]; rfl)) ?_; (with_reducible refine (impl_WeightOf.calls kj50 _ _ t374 (wrap64 (t375 + t394)) t376 t399 t400 _ ?side1 ?side2 A57.out).mono ?_); (case side1 => repeat (first | exact (Kd.R_reads' HO_18.out).2.2 | (with_reducible refine Kd.C_alloc ?_ _) | (with_reducible refine Kd.C_drewN ?_ _) | (with_reducible refine Kd.C_drew ?_))); (case side2 => exact (Kd.R_reads' HO_18.out).2.1); rintro e w62 ⟨rfl, hb⟩; refine ⟨_, rfl, ?_⟩; have n0_ := Aside0.mk (Kd.R_below (by (with_reducible repeat (first | apply Kd.R_alloc | apply Kd.R_drewN | apply Kd.R_drew)); exact HO_3.out) hb); have n1_ := Aside0.mk (Kd.R_below (by (with_reducible repeat (first | apply Kd.R_alloc | apply Kd.R_drewN | apply Kd.R_drew)); exact HO_18.out) hb); have n2_ := Aside0.mk (IsS69.below (by repeat (first | (with_reducible first | exact HI393.out | apply IsS69.alloc | apply IsS69.drewN | apply IsS69.drew | apply IsS69.set_1 | apply IsS69.set_2) | exact HI393.out)) hb); have n3_ := Aside0.mk (below_step (by repeat (first | (with_reducible first | exact HB.out | apply below_alloc | apply pw_below_drewN | apply below_drew1 | refine below_set ?_ (IsS69.ge HI393.out)) | exact HB.out)) hb); clear HO_3; clear HO_18; clear HI393; clear HB; have HO_3 := n0_; have HO_18 := n1_; have HI393 := n2_; have HB := n3_; clear n0_ n1_ n2_ n3_; (try clear hb); (try clear hb2); (try clear hk); (try clear hi)))
                          (try simp only [Act.put, List.setIfInBounds_toArray, List.set_cons_zero, List.set_cons_succ])
                          go_cut [193] (fun v193 wc => ∃ (kq : Nat) (x193_57 : Bool), v193 = .bool x193_57 ∧ Aside0 (laws_FnInterest.j3 kq t357 t358 t359 t360 t363 t364 x193_57 = some r) ∧ Aside0 (kq ≤ kj50) ∧ Aside0 (Kd.R k37 37 wc w.heap.size (fun _ => True) (.slice Ao15 t357.length co15) t357) ∧ Aside0 (Below w.heap.size w wc))
                          case first =>
                            as_aux_lemma =>
                              have H := HC58.out
                              clear HC58
                              by_cases c63 : t398 = 0
                              · rw [if_pos c63] at H
                                have c63b0 : (t398 == 0) = true := beq_iff_eq.mpr c63
                                have c63b1 : (t398 != 0) = false := bne_eq_false_iff_eq.mpr c63
                                clear c63
                                (first | rw [c63b0] | (simp only [i64_w, i32_w]; rw [c63b0]) | skip)
                                by_cases c64 : t400 = 0
                                · rw [if_pos c64] at H
                                  have c64b0 : (t400 == 0) = true := beq_iff_eq.mpr c64
                                  have c64b1 : (t400 != 0) = false := bne_eq_false_iff_eq.mpr c64
                                  clear c64
                                  have H' := Aside0.mk H
                                  clear H
                                  go_wp2
                                  go_meet
                                  case rel => exact ⟨_, (((wrap64 (t397 + t399)) != t379)), (by first | rfl | (simp; done) | (simp [*]; done)), H', ⟨by have := HJ12.out; have := HJ33.out; have := HJ50.out; first | omega | exact Nat.le_refl _⟩, ⟨by (with_reducible repeat (first | apply Kd.R_alloc | apply Kd.R_drewN | apply Kd.R_drew)); exact Kd.R_mono HO_3.out (fun _ hk => trivial)⟩, ⟨by repeat (first | (with_reducible first | exact HB.out | apply below_alloc | apply pw_below_drewN | apply below_drew1 | refine below_set ?_ (IsS69.ge HI393.out)) | exact HB.out)⟩⟩
                                · rw [if_neg c64] at H
                                  have c64b0 : (t400 == 0) = false := beq_eq_false_iff_ne.mpr c64
                                  have c64b1 : (t400 != 0) = true := bne_iff_ne.mpr c64
                                  have H' := Aside0.mk H
                                  clear H
                                  go_wp2
                                  go_meet
                                  case rel => exact ⟨_, (true), (by first | rfl | (simp; done) | (simp [*]; done)), H', ⟨by have := HJ12.out; have := HJ33.out; have := HJ50.out; first | omega | exact Nat.le_refl _⟩, ⟨by (with_reducible repeat (first | apply Kd.R_alloc | apply Kd.R_drewN | apply Kd.R_drew)); exact Kd.R_mono HO_3.out (fun _ hk => trivial)⟩, ⟨by repeat (first | (with_reducible first | exact HB.out | apply below_alloc | apply pw_below_drewN | apply below_drew1 | refine below_set ?_ (IsS69.ge HI393.out)) | exact HB.out)⟩⟩
                              · rw [if_neg c63] at H
                                have c63b0 : (t398 == 0) = false := beq_eq_false_iff_ne.mpr c63
                                have c63b1 : (t398 != 0) = true := bne_iff_ne.mpr c63
                                (first | rw [c63b0] | (simp only [i64_w, i32_w]; rw [c63b0]) | skip)
                                have H' := Aside0.mk H
                                clear H
                                go_wp2
                                go_meet
                                case rel => exact ⟨_, (true), (by first | rfl | (simp; done) | (simp [*]; done)), H', ⟨by have := HJ12.out; have := HJ33.out; have := HJ50.out; first | omega | exact Nat.le_refl _⟩, ⟨by (with_reducible repeat (first | apply Kd.R_alloc | apply Kd.R_drewN | apply Kd.R_drew)); exact Kd.R_mono HO_3.out (fun _ hk => trivial)⟩, ⟨by repeat (first | (with_reducible first | exact HB.out | apply below_alloc | apply pw_below_drewN | apply below_drew1 | refine below_set ?_ (IsS69.ge HI393.out)) | exact HB.out)⟩⟩
                          case rest =>
                            as_aux_lemma =>
                              clear HC58
                              try clear c1
                              try clear c2
                              try clear p2
                              try clear c3
                              try clear c5
                              try clear c6
                              try clear p6
                              try clear c7
                              try clear c8
                              try clear c9
                              try clear c10
                              try clear c11
                              try clear c12
                              try clear c13
                              try clear c14
                              try clear c17
                              try clear c18
                              try clear c23
                              try clear c23b0
                              try clear c23b1
                              try clear c24
                              try clear c24b0
                              try clear c24b1
                              try clear c25
                              try clear c25b0
                              try clear c25b1
                              try clear c26
                              try clear c26b0
                              try clear c26b1
                              try clear c27
                              try clear c27b0
                              try clear c27b1
                              try clear c28
                              try clear c28b0
                              try clear c28b1
                              try clear c33
                              try clear c35
                              try clear c35b0
                              try clear c35b1
                              try clear c37
                              try clear c37b0
                              try clear c37b1
                              try clear c38
                              try clear c38b0
                              try clear c38b1
                              try clear c52
                              try clear c52b0
                              try clear c52b1
                              try clear c53
                              try clear c63
                              try clear c63b0
                              try clear c63b1
                              try clear c64
                              try clear c64b0
                              try clear c64b1
                              try clear p64
                              try clear p2
                              obtain ⟨kq, x193_57, rfl, HA, HJ57, HO_3, HB⟩ := hcut
                              cases kq with
                              | zero => exact absurd HA.out (by simp [laws_FnInterest.j3])
                              | succ kj57 =>
                                have H := HA.out
                                clear HA
                                simp only [laws_FnInterest.j3] at H
                                by_cases c65 : x193_57 = true
                                · subst c65
                                  have H1 : (some false) = some r := by rw [if_pos rfl] at H; exact H
                                  clear H
                                  have H := H1
                                  clear H1
                                  obtain rfl := Option.some.inj H
                                  go_wp2
                                  go_ret
                                  exact ⟨by first | rfl | (simp [errW_none, errW_some] <;> rfl) | (simp [*, errW_none, errW_some] <;> rfl), by repeat (first | (with_reducible first | exact HB.out | apply below_alloc | apply pw_below_drewN | apply below_drew1) | exact HB.out)⟩
                                · replace c65 := Bool.eq_false_iff.mpr c65
                                  subst c65
                                  have H1 : (if t364 = 0 then (if t360 = 36524 then (some true) else (if t360 < t359 then (some true) else ((impl_InterestBetween.f kj57 t357 t358 t359 (wrap64 (t360 + 1))).bind fun bt401 => (if bt401.2 = 3 then (some true) else (if bt401.2 = 0 then (some (decide (bt401.1 ≥ t363))) else (some false)))))) else (some true)) = some r := by rw [if_neg (show ¬ (false = true) by decide)] at H; exact H
                                  clear H
                                  have H := H1
                                  clear H1
                                  by_cases c66 : t364 = 0
                                  · rw [if_pos c66] at H
                                    have c66b0 : (t364 == 0) = true := beq_iff_eq.mpr c66
                                    have c66b1 : (t364 != 0) = false := bne_eq_false_iff_eq.mpr c66
                                    clear c66
                                    by_cases c67 : t360 = 36524
                                    · rw [if_pos c67] at H
                                      have c67b0 : (t360 == 36524) = true := beq_iff_eq.mpr c67
                                      have c67b1 : (t360 != 36524) = false := bne_eq_false_iff_eq.mpr c67
                                      clear c67
                                      obtain rfl := Option.some.inj H
                                      go_wp2
                                      go_ret
                                      exact ⟨by first | rfl | (simp [errW_none, errW_some] <;> rfl) | (simp [*, errW_none, errW_some] <;> rfl), by repeat (first | (with_reducible first | exact HB.out | apply below_alloc | apply pw_below_drewN | apply below_drew1) | exact HB.out)⟩
                                    · rw [if_neg c67] at H
                                      have c67b0 : (t360 == 36524) = false := beq_eq_false_iff_ne.mpr c67
                                      have c67b1 : (t360 != 36524) = true := bne_iff_ne.mpr c67
                                      by_cases c68 : t360 < t359
                                      · rw [if_pos c68] at H
                                        have c68b0 : decide (t360 < t359) = true := decide_eq_true c68
                                        clear c68
                                        obtain rfl := Option.some.inj H
                                        go_wp2
                                        go_ret
                                        exact ⟨by first | rfl | (simp [errW_none, errW_some] <;> rfl) | (simp [*, errW_none, errW_some] <;> rfl), by repeat (first | (with_reducible first | exact HB.out | apply below_alloc | apply pw_below_drewN | apply below_drew1) | exact HB.out)⟩
                                      · rw [if_neg c68] at H
                                        have c68b0 : decide (t360 < t359) = false := decide_eq_false c68
                                        clear c68
                                        replace H := Option.bind_eq_some_iff.mp H
                                        obtain ⟨⟨t401, t402⟩, A690, H⟩ := H
                                        replace H : (if t402 = 3 then (some true) else (if t402 = 0 then (some (decide (t401 ≥ t363))) else (some false))) = some r := H
                                        have A69 := Aside0.mk A690
                                        clear A690
                                        by_cases c70 : t402 = 3
                                        · rw [if_pos c70] at H
                                          have c70b0 : (t402 == 3) = true := beq_iff_eq.mpr c70
                                          have c70b1 : (t402 != 3) = false := bne_eq_false_iff_eq.mpr c70
                                          clear c70
                                          obtain rfl := Option.some.inj H
                                          go_wp2_with (first | ((with_reducible refine gate_callee (f := 7) rfl ?_); refine goesL_ (some 211) rfl rfl Try.func7 (by kernel_rfl) rfl #[.slice Ao15 t357.length co15, .int .i64 t358, .int .i64 t359, .int .i64 (wrap64 (t360 + 1))] rfl (by (try simp only [List.map_toArray, List.map_cons, List.map_nil]); first | done | rfl | (simp only [List.length_drop, List.length_take]; rfl)) ?_; (with_reducible refine (impl_InterestBetween.calls kj57 _ _ t357 t358 t359 (wrap64 (t360 + 1)) t401 t402 _ ?side1 ?side2 A69.out).mono ?_); (case side1 => repeat (first | exact (Kd.R_reads' HO_3.out).2.2 | (with_reducible refine Kd.C_alloc ?_ _) | (with_reducible refine Kd.C_drewN ?_ _) | (with_reducible refine Kd.C_drew ?_))); (case side2 => exact (Kd.R_reads' HO_3.out).2.1); rintro e w71 ⟨rfl, hb⟩; refine ⟨_, rfl, ?_⟩; have n0_ := Aside0.mk (Kd.R_below (by (with_reducible repeat (first | apply Kd.R_alloc | apply Kd.R_drewN | apply Kd.R_drew)); exact HO_3.out) hb); have n1_ := Aside0.mk (below_step (by repeat (first | (with_reducible first | exact HB.out | apply below_alloc | apply pw_below_drewN | apply below_drew1) | exact HB.out)) hb); clear HO_3; clear HB; have HO_3 := n0_; have HB := n1_; clear n0_ n1_; (try clear hb); (try clear hb2); (try clear hk); (try clear hi)))
                                          go_ret
                                          exact ⟨by first | rfl | (simp [errW_none, errW_some] <;> rfl) | (simp [*, errW_none, errW_some] <;> rfl), by repeat (first | (with_reducible first | exact HB.out | apply below_alloc | apply pw_below_drewN | apply below_drew1) | exact HB.out)⟩
                                        · rw [if_neg c70] at H
                                          have c70b0 : (t402 == 3) = false := beq_eq_false_iff_ne.mpr c70
                                          have c70b1 : (t402 != 3) = true := bne_iff_ne.mpr c70
                                          by_cases c72 : t402 = 0
                                          · rw [if_pos c72] at H
                                            have c72b0 : (t402 == 0) = true := beq_iff_eq.mpr c72
                                            have c72b1 : (t402 != 0) = false := bne_eq_false_iff_eq.mpr c72
                                            clear c72
                                            obtain rfl := Option.some.inj H
                                            go_wp2_with (first | ((with_reducible refine gate_callee (f := 7) rfl ?_); refine goesL_ (some 211) rfl rfl Try.func7 (by kernel_rfl) rfl #[.slice Ao15 t357.length co15, .int .i64 t358, .int .i64 t359, .int .i64 (wrap64 (t360 + 1))] rfl (by (try simp only [List.map_toArray, List.map_cons, List.map_nil]); first | done | rfl | (simp only [List.length_drop, List.length_take]; rfl)) ?_; (with_reducible refine (impl_InterestBetween.calls kj57 _ _ t357 t358 t359 (wrap64 (t360 + 1)) t401 t402 _ ?side1 ?side2 A69.out).mono ?_); (case side1 => repeat (first | exact (Kd.R_reads' HO_3.out).2.2 | (with_reducible refine Kd.C_alloc ?_ _) | (with_reducible refine Kd.C_drewN ?_ _) | (with_reducible refine Kd.C_drew ?_))); (case side2 => exact (Kd.R_reads' HO_3.out).2.1); rintro e w73 ⟨rfl, hb⟩; refine ⟨_, rfl, ?_⟩; have n0_ := Aside0.mk (Kd.R_below (by (with_reducible repeat (first | apply Kd.R_alloc | apply Kd.R_drewN | apply Kd.R_drew)); exact HO_3.out) hb); have n1_ := Aside0.mk (below_step (by repeat (first | (with_reducible first | exact HB.out | apply below_alloc | apply pw_below_drewN | apply below_drew1) | exact HB.out)) hb); clear HO_3; clear HB; have HO_3 := n0_; have HB := n1_; clear n0_ n1_; (try clear hb); (try clear hb2); (try clear hk); (try clear hi)))
                                            go_ret
                                            exact ⟨by first | rfl | (simp [errW_none, errW_some] <;> rfl) | (simp [*, errW_none, errW_some] <;> rfl), by repeat (first | (with_reducible first | exact HB.out | apply below_alloc | apply pw_below_drewN | apply below_drew1) | exact HB.out)⟩
                                          · rw [if_neg c72] at H
                                            have c72b0 : (t402 == 0) = false := beq_eq_false_iff_ne.mpr c72
                                            have c72b1 : (t402 != 0) = true := bne_iff_ne.mpr c72
                                            obtain rfl := Option.some.inj H
                                            go_wp2_with (first | ((with_reducible refine gate_callee (f := 7) rfl ?_); refine goesL_ (some 211) rfl rfl Try.func7 (by kernel_rfl) rfl #[.slice Ao15 t357.length co15, .int .i64 t358, .int .i64 t359, .int .i64 (wrap64 (t360 + 1))] rfl (by (try simp only [List.map_toArray, List.map_cons, List.map_nil]); first | done | rfl | (simp only [List.length_drop, List.length_take]; rfl)) ?_; (with_reducible refine (impl_InterestBetween.calls kj57 _ _ t357 t358 t359 (wrap64 (t360 + 1)) t401 t402 _ ?side1 ?side2 A69.out).mono ?_); (case side1 => repeat (first | exact (Kd.R_reads' HO_3.out).2.2 | (with_reducible refine Kd.C_alloc ?_ _) | (with_reducible refine Kd.C_drewN ?_ _) | (with_reducible refine Kd.C_drew ?_))); (case side2 => exact (Kd.R_reads' HO_3.out).2.1); rintro e w74 ⟨rfl, hb⟩; refine ⟨_, rfl, ?_⟩; have n0_ := Aside0.mk (Kd.R_below (by (with_reducible repeat (first | apply Kd.R_alloc | apply Kd.R_drewN | apply Kd.R_drew)); exact HO_3.out) hb); have n1_ := Aside0.mk (below_step (by repeat (first | (with_reducible first | exact HB.out | apply below_alloc | apply pw_below_drewN | apply below_drew1) | exact HB.out)) hb); clear HO_3; clear HB; have HO_3 := n0_; have HB := n1_; clear n0_ n1_; (try clear hb); (try clear hb2); (try clear hk); (try clear hi)))
                                            go_ret
                                            exact ⟨by first | rfl | (simp [errW_none, errW_some] <;> rfl) | (simp [*, errW_none, errW_some] <;> rfl), by repeat (first | (with_reducible first | exact HB.out | apply below_alloc | apply pw_below_drewN | apply below_drew1) | exact HB.out)⟩
                                  · rw [if_neg c66] at H
                                    have c66b0 : (t364 == 0) = false := beq_eq_false_iff_ne.mpr c66
                                    have c66b1 : (t364 != 0) = true := bne_iff_ne.mpr c66
                                    obtain rfl := Option.some.inj H
                                    go_wp2
                                    go_ret
                                    exact ⟨by first | rfl | (simp [errW_none, errW_some] <;> rfl) | (simp [*, errW_none, errW_some] <;> rfl), by repeat (first | (with_reducible first | exact HB.out | apply below_alloc | apply pw_below_drewN | apply below_drew1) | exact HB.out)⟩
                        · replace c53 := Bool.eq_false_iff.mpr c53
                          subst c53
                          have H1 : (if t364 = 0 then (if t360 = 36524 then (some true) else (if t360 < t359 then (some true) else ((impl_InterestBetween.f kj50 t357 t358 t359 (wrap64 (t360 + 1))).bind fun bt403 => (if bt403.2 = 3 then (some true) else (if bt403.2 = 0 then (some (decide (bt403.1 ≥ t363))) else (some false)))))) else (some true)) = some r := by rw [if_neg (show ¬ (false = true) by decide)] at H; exact H
                          clear H
                          have H := H1
                          clear H1
                          by_cases c75 : t364 = 0
                          · rw [if_pos c75] at H
                            have c75b0 : (t364 == 0) = true := beq_iff_eq.mpr c75
                            have c75b1 : (t364 != 0) = false := bne_eq_false_iff_eq.mpr c75
                            clear c75
                            by_cases c76 : t360 = 36524
                            · rw [if_pos c76] at H
                              have c76b0 : (t360 == 36524) = true := beq_iff_eq.mpr c76
                              have c76b1 : (t360 != 36524) = false := bne_eq_false_iff_eq.mpr c76
                              clear c76
                              obtain rfl := Option.some.inj H
                              go_wp2
                              go_ret
                              exact ⟨by first | rfl | (simp [errW_none, errW_some] <;> rfl) | (simp [*, errW_none, errW_some] <;> rfl), by repeat (first | (with_reducible first | exact HB.out | apply below_alloc | apply pw_below_drewN | apply below_drew1) | exact HB.out)⟩
                            · rw [if_neg c76] at H
                              have c76b0 : (t360 == 36524) = false := beq_eq_false_iff_ne.mpr c76
                              have c76b1 : (t360 != 36524) = true := bne_iff_ne.mpr c76
                              by_cases c77 : t360 < t359
                              · rw [if_pos c77] at H
                                have c77b0 : decide (t360 < t359) = true := decide_eq_true c77
                                clear c77
                                obtain rfl := Option.some.inj H
                                go_wp2
                                go_ret
                                exact ⟨by first | rfl | (simp [errW_none, errW_some] <;> rfl) | (simp [*, errW_none, errW_some] <;> rfl), by repeat (first | (with_reducible first | exact HB.out | apply below_alloc | apply pw_below_drewN | apply below_drew1) | exact HB.out)⟩
                              · rw [if_neg c77] at H
                                have c77b0 : decide (t360 < t359) = false := decide_eq_false c77
                                clear c77
                                replace H := Option.bind_eq_some_iff.mp H
                                obtain ⟨⟨t403, t404⟩, A780, H⟩ := H
                                replace H : (if t404 = 3 then (some true) else (if t404 = 0 then (some (decide (t403 ≥ t363))) else (some false))) = some r := H
                                have A78 := Aside0.mk A780
                                clear A780
                                by_cases c79 : t404 = 3
                                · rw [if_pos c79] at H
                                  have c79b0 : (t404 == 3) = true := beq_iff_eq.mpr c79
                                  have c79b1 : (t404 != 3) = false := bne_eq_false_iff_eq.mpr c79
                                  clear c79
                                  obtain rfl := Option.some.inj H
                                  go_wp2_with (first | ((with_reducible refine gate_callee (f := 7) rfl ?_); refine goesL_ (some 211) rfl rfl Try.func7 (by kernel_rfl) rfl #[.slice Ao15 t357.length co15, .int .i64 t358, .int .i64 t359, .int .i64 (wrap64 (t360 + 1))] rfl (by (try simp only [List.map_toArray, List.map_cons, List.map_nil]); first | done | rfl | (simp only [List.length_drop, List.length_take]; rfl)) ?_; (with_reducible refine (impl_InterestBetween.calls kj50 _ _ t357 t358 t359 (wrap64 (t360 + 1)) t403 t404 _ ?side1 ?side2 A78.out).mono ?_); (case side1 => repeat (first | exact (Kd.R_reads' HO_3.out).2.2 | (with_reducible refine Kd.C_alloc ?_ _) | (with_reducible refine Kd.C_drewN ?_ _) | (with_reducible refine Kd.C_drew ?_))); (case side2 => exact (Kd.R_reads' HO_3.out).2.1); rintro e w80 ⟨rfl, hb⟩; refine ⟨_, rfl, ?_⟩; have n0_ := Aside0.mk (Kd.R_below (by (with_reducible repeat (first | apply Kd.R_alloc | apply Kd.R_drewN | apply Kd.R_drew)); exact HO_3.out) hb); have n1_ := Aside0.mk (Kd.R_below (by (with_reducible repeat (first | apply Kd.R_alloc | apply Kd.R_drewN | apply Kd.R_drew)); exact HO_18.out) hb); have n2_ := Aside0.mk (below_step (by repeat (first | (with_reducible first | exact HB.out | apply below_alloc | apply pw_below_drewN | apply below_drew1) | exact HB.out)) hb); clear HO_3; clear HO_18; clear HB; have HO_3 := n0_; have HO_18 := n1_; have HB := n2_; clear n0_ n1_ n2_; (try clear hb); (try clear hb2); (try clear hk); (try clear hi)))
                                  go_ret
                                  exact ⟨by first | rfl | (simp [errW_none, errW_some] <;> rfl) | (simp [*, errW_none, errW_some] <;> rfl), by repeat (first | (with_reducible first | exact HB.out | apply below_alloc | apply pw_below_drewN | apply below_drew1) | exact HB.out)⟩
                                · rw [if_neg c79] at H
                                  have c79b0 : (t404 == 3) = false := beq_eq_false_iff_ne.mpr c79
                                  have c79b1 : (t404 != 3) = true := bne_iff_ne.mpr c79
                                  by_cases c81 : t404 = 0
                                  · rw [if_pos c81] at H
                                    have c81b0 : (t404 == 0) = true := beq_iff_eq.mpr c81
                                    have c81b1 : (t404 != 0) = false := bne_eq_false_iff_eq.mpr c81
                                    clear c81
                                    obtain rfl := Option.some.inj H
                                    go_wp2_with (first | ((with_reducible refine gate_callee (f := 7) rfl ?_); refine goesL_ (some 211) rfl rfl Try.func7 (by kernel_rfl) rfl #[.slice Ao15 t357.length co15, .int .i64 t358, .int .i64 t359, .int .i64 (wrap64 (t360 + 1))] rfl (by (try simp only [List.map_toArray, List.map_cons, List.map_nil]); first | done | rfl | (simp only [List.length_drop, List.length_take]; rfl)) ?_; (with_reducible refine (impl_InterestBetween.calls kj50 _ _ t357 t358 t359 (wrap64 (t360 + 1)) t403 t404 _ ?side1 ?side2 A78.out).mono ?_); (case side1 => repeat (first | exact (Kd.R_reads' HO_3.out).2.2 | (with_reducible refine Kd.C_alloc ?_ _) | (with_reducible refine Kd.C_drewN ?_ _) | (with_reducible refine Kd.C_drew ?_))); (case side2 => exact (Kd.R_reads' HO_3.out).2.1); rintro e w82 ⟨rfl, hb⟩; refine ⟨_, rfl, ?_⟩; have n0_ := Aside0.mk (Kd.R_below (by (with_reducible repeat (first | apply Kd.R_alloc | apply Kd.R_drewN | apply Kd.R_drew)); exact HO_3.out) hb); have n1_ := Aside0.mk (Kd.R_below (by (with_reducible repeat (first | apply Kd.R_alloc | apply Kd.R_drewN | apply Kd.R_drew)); exact HO_18.out) hb); have n2_ := Aside0.mk (below_step (by repeat (first | (with_reducible first | exact HB.out | apply below_alloc | apply pw_below_drewN | apply below_drew1) | exact HB.out)) hb); clear HO_3; clear HO_18; clear HB; have HO_3 := n0_; have HO_18 := n1_; have HB := n2_; clear n0_ n1_ n2_; (try clear hb); (try clear hb2); (try clear hk); (try clear hi)))
                                    go_ret
                                    exact ⟨by first | rfl | (simp [errW_none, errW_some] <;> rfl) | (simp [*, errW_none, errW_some] <;> rfl), by repeat (first | (with_reducible first | exact HB.out | apply below_alloc | apply pw_below_drewN | apply below_drew1) | exact HB.out)⟩
                                  · rw [if_neg c81] at H
                                    have c81b0 : (t404 == 0) = false := beq_eq_false_iff_ne.mpr c81
                                    have c81b1 : (t404 != 0) = true := bne_iff_ne.mpr c81
                                    obtain rfl := Option.some.inj H
                                    go_wp2_with (first | ((with_reducible refine gate_callee (f := 7) rfl ?_); refine goesL_ (some 211) rfl rfl Try.func7 (by kernel_rfl) rfl #[.slice Ao15 t357.length co15, .int .i64 t358, .int .i64 t359, .int .i64 (wrap64 (t360 + 1))] rfl (by (try simp only [List.map_toArray, List.map_cons, List.map_nil]); first | done | rfl | (simp only [List.length_drop, List.length_take]; rfl)) ?_; (with_reducible refine (impl_InterestBetween.calls kj50 _ _ t357 t358 t359 (wrap64 (t360 + 1)) t403 t404 _ ?side1 ?side2 A78.out).mono ?_); (case side1 => repeat (first | exact (Kd.R_reads' HO_3.out).2.2 | (with_reducible refine Kd.C_alloc ?_ _) | (with_reducible refine Kd.C_drewN ?_ _) | (with_reducible refine Kd.C_drew ?_))); (case side2 => exact (Kd.R_reads' HO_3.out).2.1); rintro e w83 ⟨rfl, hb⟩; refine ⟨_, rfl, ?_⟩; have n0_ := Aside0.mk (Kd.R_below (by (with_reducible repeat (first | apply Kd.R_alloc | apply Kd.R_drewN | apply Kd.R_drew)); exact HO_3.out) hb); have n1_ := Aside0.mk (Kd.R_below (by (with_reducible repeat (first | apply Kd.R_alloc | apply Kd.R_drewN | apply Kd.R_drew)); exact HO_18.out) hb); have n2_ := Aside0.mk (below_step (by repeat (first | (with_reducible first | exact HB.out | apply below_alloc | apply pw_below_drewN | apply below_drew1) | exact HB.out)) hb); clear HO_3; clear HO_18; clear HB; have HO_3 := n0_; have HO_18 := n1_; have HB := n2_; clear n0_ n1_ n2_; (try clear hb); (try clear hb2); (try clear hk); (try clear hi)))
                                    go_ret
                                    exact ⟨by first | rfl | (simp [errW_none, errW_some] <;> rfl) | (simp [*, errW_none, errW_some] <;> rfl), by repeat (first | (with_reducible first | exact HB.out | apply below_alloc | apply pw_below_drewN | apply below_drew1) | exact HB.out)⟩
                          · rw [if_neg c75] at H
                            have c75b0 : (t364 == 0) = false := beq_eq_false_iff_ne.mpr c75
                            have c75b1 : (t364 != 0) = true := bne_iff_ne.mpr c75
                            obtain rfl := Option.some.inj H
                            go_wp2
                            go_ret
                            exact ⟨by first | rfl | (simp [errW_none, errW_some] <;> rfl) | (simp [*, errW_none, errW_some] <;> rfl), by repeat (first | (with_reducible first | exact HB.out | apply below_alloc | apply pw_below_drewN | apply below_drew1) | exact HB.out)⟩

/-- THE ONE PURE STATEMENT of laws_FnInterest: yours. -/
def laws_FnInterest.Pure : Prop := ∀ (l0 : List Int), l0.length ≤ maxLen → l0.length * 1 ≤ 140737488351232 → (∀ x ∈ l0, (Lit.int .u8 x).wf = true) → ∃ k, laws_FnInterest.f k l0 = some true
theorem laws_FnInterest.walk (P : laws_FnInterest.Pure) (a0 : Option Addr) (len0 cap0 : Nat) (z0 : List Int) (w : World) (w0 : (a0 = none ∧ len0 = 0 ∧ cap0 = 0 ∧ z0 = []) ∨ ∃ x, a0 = some x ∧ len0 ≤ cap0 ∧ cap0 ≤ maxLen ∧ z0.length = cap0 ∧ (∀ i, i < z0.length → w.cell? (x.add i) = some (.int .u8 (z0.getD i 0))) ∧ ∀ n ∈ z0, (Lit.int .u8 n).wf = true) (y0 : len0 * 1 ≤ 140737488351232) :
    Calls Try.prog 3 #[.slice a0 len0 cap0] w fun e w' => e = .returned (.bool true) ∧ Below w.heap.size w w' := by
  obtain ⟨l0, rfl, hr0, hm0, hw0, hc0⟩ := ReadsInt.ofRowC w0
  obtain ⟨k, h⟩ := P l0 hm0 y0 hw0
  refine (laws_FnInterest.calls k _ _ l0 true w (Kd.C_of_reads (d := (0 : Int)) (h1 := fun _ => rfl) hr0) hc0 h).mono ?_
  rintro e w' ⟨rfl, hd⟩
  exact ⟨rfl, hd⟩

end Go.Proofs.Ytooioiedombklaa.P
