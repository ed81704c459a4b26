-- Written by a program of this session, with the kit's print.py, out of the translation. Not trusted: Lean checks it.
import Derived.Test.YtooioiedombklaaFnDueP0
import Derived.Test.YtooioiedombklaaFnDueP1
import Derived.Test.YtooioiedombklaaFnDueP2
namespace Go.Proofs.Ytooioiedombklaa.P
open Go.RowKit Go.Proofs.YtooioiedombklaaW.PrintWords Go.Proofs.YtooioiedombklaaW.PrintLast Go.Proofs.YtooioiedombklaaW.PrintMore
attribute [local go_sem] max2_int min2_int max_two min_two max_three min_three max_four min_four   -- for this text's walks alone
set_option linter.unusedVariables false
set_option linter.unusedSimpArgs false

/-! ### impl_DayWhenReached: function 20 -/
def impl_DayWhenReached.l0 : Nat → List (S37) → Int → Int → Int → Int → Option (Int × Int)
  | 0, _, _, _, _, _ => none
  | k + 1, x0, x1, x2, x3, x11 => (impl_isDay.f k x11).bind fun t432 => (if t432 = true then ((impl_weight.f k x0 x2 x11).bind fun t433 => ((impl_nearest.f (wrap64 (x1 * t433)) 3650000).bind fun t434 => (if t434 ≥ x3 then (some (x11, 0)) else (impl_DayWhenReached.l0 k x0 x1 x2 x3 (wrap64 (x11 + 1)))))) else (some (0, 4)))
def impl_DayWhenReached.f (k : Nat) (l0 : List (S37)) (a1 : Int) (a2 : Int) (a3 : Int) : Option (Int × Int) := (impl_scheduled.f k l0 a1 (([a2] : List Int))).bind fun t430 => (if t430 = 0 then ((impl_IsAmount.f a3).bind fun t431 => (if t431 = true then (impl_DayWhenReached.l0 k l0 a1 a2 a3 a2) else (some (0, 2)))) else (some (0, t430)))
theorem impl_DayWhenReached.mono_l : ∀ k, (∀ y0 y1 y2 y3 y4, LeO (impl_DayWhenReached.l0 k y0 y1 y2 y3 y4) (impl_DayWhenReached.l0 (k + 1) y0 y1 y2 y3 y4))
  | 0 => fun _ _ _ _ _ r h => by simp [impl_DayWhenReached.l0] at h
  | k + 1 => by
    have ih0 := impl_DayWhenReached.mono_l k
    · intro y0 y1 y2 y3 y4
      unfold impl_DayWhenReached.l0
      repeat' first
      | (with_reducible exact ih0 _ _ _ _ _)
      | (with_reducible exact impl_isDay.mono _ _)
      | (with_reducible exact impl_scheduled.mono _ _ _ _)
      | (with_reducible exact impl_weight.mono _ _ _ _)
      | (with_reducible exact LeO.refl _)
      | (with_reducible exact LeO.none _)
      | (with_reducible refine LeO.ite ?_ ?_)
      | (with_reducible refine LeO.bind ?_ (fun _ => ?_))
      | exact ih0 _ _ _ _ _
      | exact impl_isDay.mono _ _
      | exact impl_scheduled.mono _ _ _ _
      | exact impl_weight.mono _ _ _ _
      | exact LeO.none _
      | refine LeO.ite ?_ ?_
      | refine LeO.bind ?_ (fun _ => ?_)
theorem impl_DayWhenReached.mono : ∀ a0 a1 a2 a3 k, LeO (impl_DayWhenReached.f k a0 a1 a2 a3) (impl_DayWhenReached.f (k + 1) a0 a1 a2 a3) := by
  intro a0 a1 a2 a3 k
  have ih0 := impl_DayWhenReached.mono_l k
  unfold impl_DayWhenReached.f
  repeat' first
      | (with_reducible exact ih0 _ _ _ _ _)
      | (with_reducible exact impl_isDay.mono _ _)
      | (with_reducible exact impl_scheduled.mono _ _ _ _)
      | (with_reducible exact impl_weight.mono _ _ _ _)
      | (with_reducible exact LeO.refl _)
      | (with_reducible exact LeO.none _)
      | (with_reducible refine LeO.ite ?_ ?_)
      | (with_reducible refine LeO.bind ?_ (fun _ => ?_))
      | exact ih0 _ _ _ _ _
      | exact impl_isDay.mono _ _
      | exact impl_scheduled.mono _ _ _ _
      | exact impl_weight.mono _ _ _ _
      | exact LeO.none _
      | refine LeO.ite ?_ ?_
      | refine LeO.bind ?_ (fun _ => ?_)
set_option maxHeartbeats 8000000 in
set_option maxRecDepth 100000 in
theorem impl_DayWhenReached.calls (k : Nat) (A0 : Option Addr) (c0 : Nat) (l0 : List (S37)) (a1 : Int) (a2 : Int) (a3 : Int) (r1 : Int) (r2 : Int) (w : World) (hr0 : Kd.C k37 w A0 l0.length l0) (hc0 : l0.length ≤ c0) (h : impl_DayWhenReached.f k l0 a1 a2 a3 = some (r1, r2)) :
    Calls Try.prog 20 #[.slice A0 l0.length c0, .int .i64 a1, .int .i64 a2, .int .i64 a3] w fun e w' => e = .returned (.tuple #[.int .i64 r1, .int .i64 r2]) ∧ Below w.heap.size w w' := by
  have HR0 := Aside0.mk hr0
  have HC0 := Aside0.mk hc0
  clear hr0 hc0
  have HB := Aside0.mk (Below.refl w.heap.size w)
  have H : ((impl_scheduled.f k l0 a1 (([a2] : List Int))).bind fun t430 => (if t430 = 0 then ((impl_IsAmount.f a3).bind fun t431 => (if t431 = true then (impl_DayWhenReached.l0 k l0 a1 a2 a3 a2) else (some (0, 2)))) else (some (0, t430)))) = some (r1, r2) := h
  clear h
  obtain ⟨y427, hy427⟩ : ∃ y_ : List Int, y_ = (([a2] : List Int)) := ⟨_, rfl⟩
  replace H : ((impl_scheduled.f k l0 a1 y427).bind fun t430 => (if t430 = 0 then ((impl_IsAmount.f a3).bind fun t431 => (if t431 = true then (impl_DayWhenReached.l0 k l0 a1 a2 a3 a2) else (some (0, 2)))) else (some (0, t430)))) = some (r1, r2) := by first | (rw [hy427]; with_reducible exact H) | (have H2_ := (Option.bind_some _ _).symm.trans H; rw [hy427]; with_reducible exact H2_) | (have H2_ := (Option.bind_some _ _).symm.trans H; with_reducible exact H2_) | with_reducible exact H | (rw [hy427]; exact H) | exact H
  have Ny427 := Aside0.mk hy427
  clear hy427
  replace H := Option.bind_eq_some_iff.mp H
  obtain ⟨t430, A50, H⟩ := H
  replace H : (if t430 = 0 then ((impl_IsAmount.f a3).bind fun t431 => (if t431 = true then (impl_DayWhenReached.l0 k l0 a1 a2 a3 a2) else (some (0, 2)))) else (some (0, t430))) = some (r1, r2) := H
  have A5 := Aside0.mk A50
  clear A50
  by_cases c6 : t430 = 0
  · rw [if_pos c6] at H
    have c6b0 : (t430 == 0) = true := beq_iff_eq.mpr c6
    have c6b1 : (t430 != 0) = false := bne_eq_false_iff_eq.mpr c6
    clear c6
    replace H := Option.bind_eq_some_iff.mp H
    obtain ⟨t431, A70, H⟩ := H
    replace H : (if t431 = true then (impl_DayWhenReached.l0 k l0 a1 a2 a3 a2) else (some (0, 2))) = some (r1, r2) := H
    have A7 := Aside0.mk A70
    clear A70
    by_cases c8 : t431 = true
    · subst c8
      have H1 : (impl_DayWhenReached.l0 k l0 a1 a2 a3 a2) = some (r1, r2) := by rw [if_pos rfl] at H; exact H
      clear H
      have H := H1
      clear H1
      have H' := Aside0.mk H
      clear H
      go_enter Try.func20, Try.ntmps20
      go_wp2_with (first | ((with_reducible refine gate_dst (N := 15) rfl ?_); refine Kd.R_lit (Kd.int .i64) _ 2 ?hg (N := 15) ?hd (xs := ([a2] : List Int)) (inner := [.int .i64 a2]) (ok := fun _ => True) (okp := fun _ => True) ?hr ?hp (fun _ hk => hk) trivial (Below.refl _ _) (Nat.le_refl _) (by simp) ?_; (case hd => rfl); (case hg => rfl); (case hr => first | (go_simp; done) | (go_simp; rfl)); (case hp => exact (Reps.one (show Kd.M (Kd.int .i64) _ _ _ a2 [.int .i64 a2] from rfl) (Reps.none _ _))); intro v428 w9 ho10 hb hg_ hnew_; clear hg_ hnew_; (first | rw [← Ny427.out] at ho10 | (simp only [Int.reduceToNat] at ho10; rw [← Ny427.out] at ho10)); have n0_ := Aside0.mk (Kd.R_lower ho10 (below_size (by repeat (first | (with_reducible first | exact HB.out | apply below_alloc | apply pw_below_drewN | apply below_drew1) | exact HB.out)))); have n1_ := Aside0.mk (below_step (by repeat (first | (with_reducible first | exact HB.out | apply below_alloc | apply pw_below_drewN | apply below_drew1) | exact HB.out)) hb); clear HB; have HO429 := n0_; have HB := n1_; clear n0_ n1_; clear hb ho10; obtain ⟨Ao11, co11, eo11⟩ := Kd.R_slice HO429.out; subst eo11) | ((with_reducible refine gate_callee (f := 35) rfl ?_); refine goesL_ (some 16) rfl rfl Try.func35 (by kernel_rfl) rfl #[.slice A0 l0.length c0, .int .i64 a1, .slice Ao11 y427.length co11] rfl (by (try simp only [List.map_toArray, List.map_cons, List.map_nil]); first | done | rfl | (simp only [List.length_drop, List.length_take]; rfl)) ?_; (with_reducible refine (impl_scheduled.calls k _ _ l0 a1 _ _ y427 t430 _ ?side1 ?side2 ?side3 ?side4 A5.out).mono ?_); (case side1 => repeat (first | exact (Kd.C_below HR0.out HB.out) | (with_reducible refine Kd.C_alloc ?_ _) | (with_reducible refine Kd.C_drewN ?_ _) | (with_reducible refine Kd.C_drew ?_))); (case side2 => exact HC0.out); (case side3 => repeat (first | exact (Kd.R_reads' HO429.out).2.2 | (with_reducible refine Kd.C_alloc ?_ _) | (with_reducible refine Kd.C_drewN ?_ _) | (with_reducible refine Kd.C_drew ?_))); (case side4 => exact (Kd.R_reads' HO429.out).2.1); rintro e w12 ⟨rfl, hb⟩; refine ⟨_, rfl, ?_⟩; have n0_ := Aside0.mk (Kd.R_below (by (with_reducible repeat (first | apply Kd.R_alloc | apply Kd.R_drewN | apply Kd.R_drew)); exact HO429.out) hb); have n1_ := Aside0.mk (below_step (by repeat (first | (with_reducible first | exact HB.out | apply below_alloc | apply pw_below_drewN | apply below_drew1) | exact HB.out)) hb); clear HO429; clear HB; have HO429 := n0_; have HB := n1_; clear n0_ n1_; (try clear hb); (try clear hb2); (try clear hk); (try clear hi)) | ((with_reducible refine gate_callee (f := 46) rfl ?_); refine goesL_ (some 23) rfl rfl Try.func46 (by kernel_rfl) rfl #[.int .i64 a3] rfl (by (try simp only [List.map_toArray, List.map_cons, List.map_nil]); first | done | rfl | (simp only [List.length_drop, List.length_take]; rfl)) ?_; (with_reducible refine (impl_IsAmount.calls a3 true _ A7.out).mono ?_); rintro e w' ⟨rfl, ⟨nd, rfl⟩⟩; refine ⟨_, rfl, ?_⟩))
      go_loopg [11] k (fun kq v11 w' => ∃ (x11_1 : Int), v11 = .int .i64 x11_1 ∧ Aside0 (impl_DayWhenReached.l0 kq l0 a1 a2 a3 x11_1 = some (r1, r2)) ∧ Aside0 (kq ≤ k) ∧ Aside0 (Below w.heap.size w w'))
      case atStart => exact ⟨(a2), (by first | rfl | (simp; done) | (simp [*]; done)), H', ⟨Nat.le_refl _⟩, ⟨by repeat (first | (with_reducible first | exact HB.out | apply below_alloc | apply pw_below_drewN | apply below_drew1) | exact HB.out)⟩⟩
      case round =>
        clear H'
        try clear c2
        try clear p2
        try clear c3
        try clear c4
        try clear c6
        try clear c6b0
        try clear c6b1
        try clear c8
        obtain ⟨x11_1, rfl, HA, HK1, HB⟩ := hrel
        cases gk with
        | zero => exact absurd HA.out (by simp [impl_DayWhenReached.l0])
        | succ k1 =>
          have H := HA.out
          clear HA
          simp only [impl_DayWhenReached.l0] at H
          replace H := Option.bind_eq_some_iff.mp H
          obtain ⟨t432, A130, H⟩ := H
          replace H : (if t432 = true then ((impl_weight.f k1 l0 a2 x11_1).bind fun t433 => ((impl_nearest.f (wrap64 (a1 * t433)) 3650000).bind fun t434 => (if t434 ≥ a3 then (some (x11_1, 0)) else (impl_DayWhenReached.l0 k1 l0 a1 a2 a3 (wrap64 (x11_1 + 1)))))) else (some (0, 4))) = some (r1, r2) := H
          have A13 := Aside0.mk A130
          clear A130
          by_cases c14 : t432 = true
          · subst c14
            have H1 : ((impl_weight.f k1 l0 a2 x11_1).bind fun t433 => ((impl_nearest.f (wrap64 (a1 * t433)) 3650000).bind fun t434 => (if t434 ≥ a3 then (some (x11_1, 0)) else (impl_DayWhenReached.l0 k1 l0 a1 a2 a3 (wrap64 (x11_1 + 1)))))) = some (r1, r2) := by rw [if_pos rfl] at H; exact H
            clear H
            have H := H1
            clear H1
            replace H := Option.bind_eq_some_iff.mp H
            obtain ⟨t433, A150, H⟩ := H
            replace H : ((impl_nearest.f (wrap64 (a1 * t433)) 3650000).bind fun t434 => (if t434 ≥ a3 then (some (x11_1, 0)) else (impl_DayWhenReached.l0 k1 l0 a1 a2 a3 (wrap64 (x11_1 + 1))))) = some (r1, r2) := H
            have A15 := Aside0.mk A150
            clear A150
            replace H := Option.bind_eq_some_iff.mp H
            obtain ⟨t434, A160, H⟩ := H
            replace H : (if t434 ≥ a3 then (some (x11_1, 0)) else (impl_DayWhenReached.l0 k1 l0 a1 a2 a3 (wrap64 (x11_1 + 1)))) = some (r1, r2) := H
            have A16 := Aside0.mk A160
            clear A160
            by_cases c17 : t434 ≥ a3
            · rw [if_pos c17] at H
              have c17b0 : decide (a3 ≤ t434) = true := decide_eq_true c17
              clear c17
              simp only [Option.some.injEq, Prod.mk.injEq] at H
              obtain ⟨rfl, rfl⟩ := H
              go_wp2_with (first | ((with_reducible refine gate_callee (f := 54) rfl ?_); refine goesL_ (some 27) rfl rfl Try.func54 (by kernel_rfl) rfl #[.int .i64 x11_1] rfl (by (try simp only [List.map_toArray, List.map_cons, List.map_nil]); first | done | rfl | (simp only [List.length_drop, List.length_take]; rfl)) ?_; (with_reducible refine (impl_isDay.calls k1 x11_1 true _ A13.out).mono ?_); rintro e w18 ⟨rfl, hb⟩; refine ⟨_, rfl, ?_⟩; have n0_ := Aside0.mk (below_step (by repeat (first | (with_reducible first | exact HB.out | apply below_alloc | apply pw_below_drewN | apply below_drew1) | exact HB.out)) hb); clear HB; have HB := n0_; clear n0_; (try clear hb); (try clear hb2); (try clear hk); (try clear hi)) | ((with_reducible refine gate_callee (f := 38) rfl ?_); refine goesL_ (some 34) rfl rfl Try.func38 (by kernel_rfl) rfl #[.slice A0 l0.length c0, .int .i64 a2, .int .i64 x11_1] rfl (by (try simp only [List.map_toArray, List.map_cons, List.map_nil]); first | done | rfl | (simp only [List.length_drop, List.length_take]; rfl)) ?_; (with_reducible refine (impl_weight.calls k1 _ _ l0 a2 x11_1 t433 _ ?side1 ?side2 A15.out).mono ?_); (case side1 => repeat (first | exact (Kd.C_below HR0.out HB.out) | (with_reducible refine Kd.C_alloc ?_ _) | (with_reducible refine Kd.C_drewN ?_ _) | (with_reducible refine Kd.C_drew ?_))); (case side2 => exact HC0.out); rintro e w19 ⟨rfl, hb⟩; refine ⟨_, rfl, ?_⟩; have n0_ := Aside0.mk (below_step (by repeat (first | (with_reducible first | exact HB.out | apply below_alloc | apply pw_below_drewN | apply below_drew1) | exact HB.out)) hb); clear HB; have HB := n0_; clear n0_; (try clear hb); (try clear hb2); (try clear hk); (try clear hi)) | ((with_reducible refine gate_callee (f := 59) rfl ?_); refine goesL_ (some 36) rfl rfl Try.func59 (by kernel_rfl) rfl #[.int .i64 (wrap64 (a1 * t433)), .int .i64 3650000] rfl (by (try simp only [List.map_toArray, List.map_cons, List.map_nil]); first | done | rfl | (simp only [List.length_drop, List.length_take]; rfl)) ?_; (with_reducible refine (impl_nearest.calls (wrap64 (a1 * t433)) 3650000 t434 _ A16.out).mono ?_); rintro e w' ⟨rfl, ⟨nd, rfl⟩⟩; refine ⟨_, rfl, ?_⟩))
              go_ret2
              exact ⟨by first | rfl | (simp [errW_none, errW_some] <;> rfl) | (simp [*, errW_none, errW_some] <;> rfl), by repeat (first | (with_reducible first | exact HB.out | apply below_alloc | apply pw_below_drewN | apply below_drew1) | exact HB.out)⟩
            · rw [if_neg c17] at H
              have c17b0 : decide (a3 ≤ t434) = false := decide_eq_false c17
              clear c17
              have H' := Aside0.mk H
              clear H
              go_wp2_with (first | ((with_reducible refine gate_callee (f := 54) rfl ?_); refine goesL_ (some 27) rfl rfl Try.func54 (by kernel_rfl) rfl #[.int .i64 x11_1] rfl (by (try simp only [List.map_toArray, List.map_cons, List.map_nil]); first | done | rfl | (simp only [List.length_drop, List.length_take]; rfl)) ?_; (with_reducible refine (impl_isDay.calls k1 x11_1 true _ A13.out).mono ?_); rintro e w20 ⟨rfl, hb⟩; refine ⟨_, rfl, ?_⟩; have n0_ := Aside0.mk (below_step (by repeat (first | (with_reducible first | exact HB.out | apply below_alloc | apply pw_below_drewN | apply below_drew1) | exact HB.out)) hb); clear HB; have HB := n0_; clear n0_; (try clear hb); (try clear hb2); (try clear hk); (try clear hi)) | ((with_reducible refine gate_callee (f := 38) rfl ?_); refine goesL_ (some 34) rfl rfl Try.func38 (by kernel_rfl) rfl #[.slice A0 l0.length c0, .int .i64 a2, .int .i64 x11_1] rfl (by (try simp only [List.map_toArray, List.map_cons, List.map_nil]); first | done | rfl | (simp only [List.length_drop, List.length_take]; rfl)) ?_; (with_reducible refine (impl_weight.calls k1 _ _ l0 a2 x11_1 t433 _ ?side1 ?side2 A15.out).mono ?_); (case side1 => repeat (first | exact (Kd.C_below HR0.out HB.out) | (with_reducible refine Kd.C_alloc ?_ _) | (with_reducible refine Kd.C_drewN ?_ _) | (with_reducible refine Kd.C_drew ?_))); (case side2 => exact HC0.out); rintro e w21 ⟨rfl, hb⟩; refine ⟨_, rfl, ?_⟩; have n0_ := Aside0.mk (below_step (by repeat (first | (with_reducible first | exact HB.out | apply below_alloc | apply pw_below_drewN | apply below_drew1) | exact HB.out)) hb); clear HB; have HB := n0_; clear n0_; (try clear hb); (try clear hb2); (try clear hk); (try clear hi)) | ((with_reducible refine gate_callee (f := 59) rfl ?_); refine goesL_ (some 36) rfl rfl Try.func59 (by kernel_rfl) rfl #[.int .i64 (wrap64 (a1 * t433)), .int .i64 3650000] rfl (by (try simp only [List.map_toArray, List.map_cons, List.map_nil]); first | done | rfl | (simp only [List.length_drop, List.length_take]; rfl)) ?_; (with_reducible refine (impl_nearest.calls (wrap64 (a1 * t433)) 3650000 t434 _ A16.out).mono ?_); rintro e w' ⟨rfl, ⟨nd, rfl⟩⟩; refine ⟨_, rfl, ?_⟩))
              go_roundg k1
              case measure => have := HK1.out; omega
              case rel => exact ⟨(wrap64 (x11_1 + 1)), (by first | rfl | (simp; done) | (simp [*]; done)), H', ⟨by have := HK1.out; omega⟩, ⟨by repeat (first | (with_reducible first | exact HB.out | apply below_alloc | apply pw_below_drewN | apply below_drew1) | exact HB.out)⟩⟩
          · replace c14 := Bool.eq_false_iff.mpr c14
            subst c14
            have H1 : (some (0, 4)) = some (r1, r2) := by rw [if_neg (show ¬ (false = true) by decide)] at H; exact H
            clear H
            have H := H1
            clear H1
            simp only [Option.some.injEq, Prod.mk.injEq] at H
            obtain ⟨rfl, rfl⟩ := H
            go_wp2_with (first | ((with_reducible refine gate_callee (f := 54) rfl ?_); refine goesL_ (some 27) rfl rfl Try.func54 (by kernel_rfl) rfl #[.int .i64 x11_1] rfl (by (try simp only [List.map_toArray, List.map_cons, List.map_nil]); first | done | rfl | (simp only [List.length_drop, List.length_take]; rfl)) ?_; (with_reducible refine (impl_isDay.calls k1 x11_1 false _ A13.out).mono ?_); rintro e w22 ⟨rfl, hb⟩; refine ⟨_, rfl, ?_⟩; have n0_ := Aside0.mk (below_step (by repeat (first | (with_reducible first | exact HB.out | apply below_alloc | apply pw_below_drewN | apply below_drew1) | exact HB.out)) hb); clear HB; have HB := n0_; clear n0_; (try clear hb); (try clear hb2); (try clear hk); (try clear hi)))
            go_ret2
            exact ⟨by first | rfl | (simp [errW_none, errW_some] <;> rfl) | (simp [*, errW_none, errW_some] <;> rfl), by repeat (first | (with_reducible first | exact HB.out | apply below_alloc | apply pw_below_drewN | apply below_drew1) | exact HB.out)⟩
    · replace c8 := Bool.eq_false_iff.mpr c8
      subst c8
      have H1 : (some (0, 2)) = some (r1, r2) := by rw [if_neg (show ¬ (false = true) by decide)] at H; exact H
      clear H
      have H := H1
      clear H1
      simp only [Option.some.injEq, Prod.mk.injEq] at H
      obtain ⟨rfl, rfl⟩ := H
      go_enter Try.func20, Try.ntmps20
      go_wp2_with (first | ((with_reducible refine gate_dst (N := 15) rfl ?_); refine Kd.R_lit (Kd.int .i64) _ 2 ?hg (N := 15) ?hd (xs := ([a2] : List Int)) (inner := [.int .i64 a2]) (ok := fun _ => True) (okp := fun _ => True) ?hr ?hp (fun _ hk => hk) trivial (Below.refl _ _) (Nat.le_refl _) (by simp) ?_; (case hd => rfl); (case hg => rfl); (case hr => first | (go_simp; done) | (go_simp; rfl)); (case hp => exact (Reps.one (show Kd.M (Kd.int .i64) _ _ _ a2 [.int .i64 a2] from rfl) (Reps.none _ _))); intro v428 w23 ho24 hb hg_ hnew_; clear hg_ hnew_; (first | rw [← Ny427.out] at ho24 | (simp only [Int.reduceToNat] at ho24; rw [← Ny427.out] at ho24)); have n0_ := Aside0.mk (Kd.R_lower ho24 (below_size (by repeat (first | (with_reducible first | exact HB.out | apply below_alloc | apply pw_below_drewN | apply below_drew1) | exact HB.out)))); have n1_ := Aside0.mk (below_step (by repeat (first | (with_reducible first | exact HB.out | apply below_alloc | apply pw_below_drewN | apply below_drew1) | exact HB.out)) hb); clear HB; have HO429 := n0_; have HB := n1_; clear n0_ n1_; clear hb ho24; obtain ⟨Ao25, co25, eo25⟩ := Kd.R_slice HO429.out; subst eo25) | ((with_reducible refine gate_callee (f := 35) rfl ?_); refine goesL_ (some 16) rfl rfl Try.func35 (by kernel_rfl) rfl #[.slice A0 l0.length c0, .int .i64 a1, .slice Ao25 y427.length co25] rfl (by (try simp only [List.map_toArray, List.map_cons, List.map_nil]); first | done | rfl | (simp only [List.length_drop, List.length_take]; rfl)) ?_; (with_reducible refine (impl_scheduled.calls k _ _ l0 a1 _ _ y427 t430 _ ?side1 ?side2 ?side3 ?side4 A5.out).mono ?_); (case side1 => repeat (first | exact (Kd.C_below HR0.out HB.out) | (with_reducible refine Kd.C_alloc ?_ _) | (with_reducible refine Kd.C_drewN ?_ _) | (with_reducible refine Kd.C_drew ?_))); (case side2 => exact HC0.out); (case side3 => repeat (first | exact (Kd.R_reads' HO429.out).2.2 | (with_reducible refine Kd.C_alloc ?_ _) | (with_reducible refine Kd.C_drewN ?_ _) | (with_reducible refine Kd.C_drew ?_))); (case side4 => exact (Kd.R_reads' HO429.out).2.1); rintro e w26 ⟨rfl, hb⟩; refine ⟨_, rfl, ?_⟩; have n0_ := Aside0.mk (Kd.R_below (by (with_reducible repeat (first | apply Kd.R_alloc | apply Kd.R_drewN | apply Kd.R_drew)); exact HO429.out) hb); have n1_ := Aside0.mk (below_step (by repeat (first | (with_reducible first | exact HB.out | apply below_alloc | apply pw_below_drewN | apply below_drew1) | exact HB.out)) hb); clear HO429; clear HB; have HO429 := n0_; have HB := n1_; clear n0_ n1_; (try clear hb); (try clear hb2); (try clear hk); (try clear hi)) | ((with_reducible refine gate_callee (f := 46) rfl ?_); refine goesL_ (some 23) rfl rfl Try.func46 (by kernel_rfl) rfl #[.int .i64 a3] rfl (by (try simp only [List.map_toArray, List.map_cons, List.map_nil]); first | done | rfl | (simp only [List.length_drop, List.length_take]; rfl)) ?_; (with_reducible refine (impl_IsAmount.calls a3 false _ A7.out).mono ?_); rintro e w' ⟨rfl, ⟨nd, rfl⟩⟩; refine ⟨_, rfl, ?_⟩))
      go_ret2
      exact ⟨by first | rfl | (simp [errW_none, errW_some] <;> rfl) | (simp [*, errW_none, errW_some] <;> rfl), by repeat (first | (with_reducible first | exact HB.out | apply below_alloc | apply pw_below_drewN | apply below_drew1) | exact HB.out)⟩
  · rw [if_neg c6] at H
    have c6b0 : (t430 == 0) = false := beq_eq_false_iff_ne.mpr c6
    have c6b1 : (t430 != 0) = true := bne_iff_ne.mpr c6
    simp only [Option.some.injEq, Prod.mk.injEq] at H
    obtain ⟨rfl, rfl⟩ := H
    go_enter Try.func20, Try.ntmps20
    go_wp2_with (first | ((with_reducible refine gate_dst (N := 15) rfl ?_); refine Kd.R_lit (Kd.int .i64) _ 2 ?hg (N := 15) ?hd (xs := ([a2] : List Int)) (inner := [.int .i64 a2]) (ok := fun _ => True) (okp := fun _ => True) ?hr ?hp (fun _ hk => hk) trivial (Below.refl _ _) (Nat.le_refl _) (by simp) ?_; (case hd => rfl); (case hg => rfl); (case hr => first | (go_simp; done) | (go_simp; rfl)); (case hp => exact (Reps.one (show Kd.M (Kd.int .i64) _ _ _ a2 [.int .i64 a2] from rfl) (Reps.none _ _))); intro v428 w27 ho28 hb hg_ hnew_; clear hg_ hnew_; (first | rw [← Ny427.out] at ho28 | (simp only [Int.reduceToNat] at ho28; rw [← Ny427.out] at ho28)); have n0_ := Aside0.mk (Kd.R_lower ho28 (below_size (by repeat (first | (with_reducible first | exact HB.out | apply below_alloc | apply pw_below_drewN | apply below_drew1) | exact HB.out)))); have n1_ := Aside0.mk (below_step (by repeat (first | (with_reducible first | exact HB.out | apply below_alloc | apply pw_below_drewN | apply below_drew1) | exact HB.out)) hb); clear HB; have HO429 := n0_; have HB := n1_; clear n0_ n1_; clear hb ho28; obtain ⟨Ao29, co29, eo29⟩ := Kd.R_slice HO429.out; subst eo29) | ((with_reducible refine gate_callee (f := 35) rfl ?_); refine goesL_ (some 16) rfl rfl Try.func35 (by kernel_rfl) rfl #[.slice A0 l0.length c0, .int .i64 a1, .slice Ao29 y427.length co29] rfl (by (try simp only [List.map_toArray, List.map_cons, List.map_nil]); first | done | rfl | (simp only [List.length_drop, List.length_take]; rfl)) ?_; (with_reducible refine (impl_scheduled.calls k _ _ l0 a1 _ _ y427 t430 _ ?side1 ?side2 ?side3 ?side4 A5.out).mono ?_); (case side1 => repeat (first | exact (Kd.C_below HR0.out HB.out) | (with_reducible refine Kd.C_alloc ?_ _) | (with_reducible refine Kd.C_drewN ?_ _) | (with_reducible refine Kd.C_drew ?_))); (case side2 => exact HC0.out); (case side3 => repeat (first | exact (Kd.R_reads' HO429.out).2.2 | (with_reducible refine Kd.C_alloc ?_ _) | (with_reducible refine Kd.C_drewN ?_ _) | (with_reducible refine Kd.C_drew ?_))); (case side4 => exact (Kd.R_reads' HO429.out).2.1); rintro e w30 ⟨rfl, hb⟩; refine ⟨_, rfl, ?_⟩; have n0_ := Aside0.mk (Kd.R_below (by (with_reducible repeat (first | apply Kd.R_alloc | apply Kd.R_drewN | apply Kd.R_drew)); exact HO429.out) hb); have n1_ := Aside0.mk (below_step (by repeat (first | (with_reducible first | exact HB.out | apply below_alloc | apply pw_below_drewN | apply below_drew1) | exact HB.out)) hb); clear HO429; clear HB; have HO429 := n0_; have HB := n1_; clear n0_ n1_; (try clear hb); (try clear hb2); (try clear hk); (try clear hi)))
    go_ret2
    exact ⟨by first | rfl | (simp [errW_none, errW_some] <;> rfl) | (simp [*, errW_none, errW_some] <;> rfl), by repeat (first | (with_reducible first | exact HB.out | apply below_alloc | apply pw_below_drewN | apply below_drew1) | exact HB.out)⟩

/-! ### spec_DayWhenReached: function 21 -/
mutual
def spec_DayWhenReached.j0 : Nat → List (S37) → Int → Int → Int → Int → Bool → Option (Int × Int)
  | 0, _, _, _, _, _, _ => none
  | k + 1, x0, x1, x2, x3, x10, x25 => if x25 = true then (spec_DayWhenReached.j1 k x0 x1 x2 x3 2) else (spec_DayWhenReached.j1 k x0 x1 x2 x3 x10)
def spec_DayWhenReached.j1 : Nat → List (S37) → Int → Int → Int → Int → Option (Int × Int)
  | 0, _, _, _, _, _ => none
  | k + 1, x0, x1, x2, x3, x10 => if x10 = 0 then (spec_DayWhenReached.l0 k x0 x1 x2 x3 (wrap64 (x2 - 1)) 36525) else (some (0, x10))
def spec_DayWhenReached.l0 : Nat → List (S37) → Int → Int → Int → Int → Int → Option (Int × Int)
  | 0, _, _, _, _, _, _ => none
  | k + 1, x0, x1, x2, x3, x11, x12 => if (wrap64 (x12 - x11)) > 1 then ((spec_l04Weight.f k x0 x2 (wrap64 (Int.tdiv (wrap64 (x11 + x12)) 2))).bind fun t438 => ((spec_l04Interest.f x1 t438).bind fun t439 => (if t439 ≥ x3 then (spec_DayWhenReached.l0 k x0 x1 x2 x3 x11 (wrap64 (Int.tdiv (wrap64 (x11 + x12)) 2))) else (spec_DayWhenReached.l0 k x0 x1 x2 x3 (wrap64 (Int.tdiv (wrap64 (x11 + x12)) 2)) x12)))) else ((spec_l02Is.f x12).bind fun t437 => (if t437 = true then (some (x12, 0)) else (some (0, 4))))
end
def spec_DayWhenReached.f (k : Nat) (l0 : List (S37)) (a1 : Int) (a2 : Int) (a3 : Int) : Option (Int × Int) := (spec_l04Code.f k l0 a1 a2 a2).bind fun t435 => (if t435 = 0 then ((spec_IsAmount.f a3).bind fun t436 => (spec_DayWhenReached.j0 k l0 a1 a2 a3 t435 (!t436))) else (spec_DayWhenReached.j0 k l0 a1 a2 a3 t435 false))
theorem spec_DayWhenReached.mono_l : ∀ k, (∀ y0 y1 y2 y3 y4 y5, LeO (spec_DayWhenReached.j0 k y0 y1 y2 y3 y4 y5) (spec_DayWhenReached.j0 (k + 1) y0 y1 y2 y3 y4 y5)) ∧ (∀ y0 y1 y2 y3 y4, LeO (spec_DayWhenReached.j1 k y0 y1 y2 y3 y4) (spec_DayWhenReached.j1 (k + 1) y0 y1 y2 y3 y4)) ∧ (∀ y0 y1 y2 y3 y4 y5, LeO (spec_DayWhenReached.l0 k y0 y1 y2 y3 y4 y5) (spec_DayWhenReached.l0 (k + 1) y0 y1 y2 y3 y4 y5))
  | 0 => ⟨fun _ _ _ _ _ _ r h => by simp [spec_DayWhenReached.j0] at h, fun _ _ _ _ _ r h => by simp [spec_DayWhenReached.j1] at h, fun _ _ _ _ _ _ r h => by simp [spec_DayWhenReached.l0] at h⟩
  | k + 1 => by
    obtain ⟨ih0, ih1, ih2⟩ := spec_DayWhenReached.mono_l k
    refine ⟨?_, ?_, ?_⟩
    · intro y0 y1 y2 y3 y4 y5
      unfold spec_DayWhenReached.j0
      repeat' first
      | (with_reducible exact ih0 _ _ _ _ _ _)
      | (with_reducible exact ih1 _ _ _ _ _)
      | (with_reducible exact ih2 _ _ _ _ _ _)
      | (with_reducible exact spec_l04Code.mono _ _ _ _ _)
      | (with_reducible exact spec_l04Weight.mono _ _ _ _)
      | (with_reducible exact LeO.refl _)
      | (with_reducible exact LeO.none _)
      | (with_reducible refine LeO.ite ?_ ?_)
      | (with_reducible refine LeO.bind ?_ (fun _ => ?_))
      | exact ih0 _ _ _ _ _ _
      | exact ih1 _ _ _ _ _
      | exact ih2 _ _ _ _ _ _
      | exact spec_l04Code.mono _ _ _ _ _
      | exact spec_l04Weight.mono _ _ _ _
      | exact LeO.none _
      | refine LeO.ite ?_ ?_
      | refine LeO.bind ?_ (fun _ => ?_)
    · intro y0 y1 y2 y3 y4
      unfold spec_DayWhenReached.j1
      repeat' first
      | (with_reducible exact ih0 _ _ _ _ _ _)
      | (with_reducible exact ih1 _ _ _ _ _)
      | (with_reducible exact ih2 _ _ _ _ _ _)
      | (with_reducible exact spec_l04Code.mono _ _ _ _ _)
      | (with_reducible exact spec_l04Weight.mono _ _ _ _)
      | (with_reducible exact LeO.refl _)
      | (with_reducible exact LeO.none _)
      | (with_reducible refine LeO.ite ?_ ?_)
      | (with_reducible refine LeO.bind ?_ (fun _ => ?_))
      | exact ih0 _ _ _ _ _ _
      | exact ih1 _ _ _ _ _
      | exact ih2 _ _ _ _ _ _
      | exact spec_l04Code.mono _ _ _ _ _
      | exact spec_l04Weight.mono _ _ _ _
      | exact LeO.none _
      | refine LeO.ite ?_ ?_
      | refine LeO.bind ?_ (fun _ => ?_)
    · intro y0 y1 y2 y3 y4 y5
      unfold spec_DayWhenReached.l0
      repeat' first
      | (with_reducible exact ih0 _ _ _ _ _ _)
      | (with_reducible exact ih1 _ _ _ _ _)
      | (with_reducible exact ih2 _ _ _ _ _ _)
      | (with_reducible exact spec_l04Code.mono _ _ _ _ _)
      | (with_reducible exact spec_l04Weight.mono _ _ _ _)
      | (with_reducible exact LeO.refl _)
      | (with_reducible exact LeO.none _)
      | (with_reducible refine LeO.ite ?_ ?_)
      | (with_reducible refine LeO.bind ?_ (fun _ => ?_))
      | exact ih0 _ _ _ _ _ _
      | exact ih1 _ _ _ _ _
      | exact ih2 _ _ _ _ _ _
      | exact spec_l04Code.mono _ _ _ _ _
      | exact spec_l04Weight.mono _ _ _ _
      | exact LeO.none _
      | refine LeO.ite ?_ ?_
      | refine LeO.bind ?_ (fun _ => ?_)
theorem spec_DayWhenReached.mono : ∀ a0 a1 a2 a3 k, LeO (spec_DayWhenReached.f k a0 a1 a2 a3) (spec_DayWhenReached.f (k + 1) a0 a1 a2 a3) := by
  intro a0 a1 a2 a3 k
  obtain ⟨ih0, ih1, ih2⟩ := spec_DayWhenReached.mono_l k
  unfold spec_DayWhenReached.f
  repeat' first
      | (with_reducible exact ih0 _ _ _ _ _ _)
      | (with_reducible exact ih1 _ _ _ _ _)
      | (with_reducible exact ih2 _ _ _ _ _ _)
      | (with_reducible exact spec_l04Code.mono _ _ _ _ _)
      | (with_reducible exact spec_l04Weight.mono _ _ _ _)
      | (with_reducible exact LeO.refl _)
      | (with_reducible exact LeO.none _)
      | (with_reducible refine LeO.ite ?_ ?_)
      | (with_reducible refine LeO.bind ?_ (fun _ => ?_))
      | exact ih0 _ _ _ _ _ _
      | exact ih1 _ _ _ _ _
      | exact ih2 _ _ _ _ _ _
      | exact spec_l04Code.mono _ _ _ _ _
      | exact spec_l04Weight.mono _ _ _ _
      | exact LeO.none _
      | refine LeO.ite ?_ ?_
      | refine LeO.bind ?_ (fun _ => ?_)
set_option maxHeartbeats 8000000 in
set_option maxRecDepth 100000 in
theorem spec_DayWhenReached.calls (k : Nat) (A0 : Option Addr) (c0 : Nat) (l0 : List (S37)) (a1 : Int) (a2 : Int) (a3 : Int) (r1 : Int) (r2 : Int) (w : World) (hr0 : Kd.C k37 w A0 l0.length l0) (hc0 : l0.length ≤ c0) (h : spec_DayWhenReached.f k l0 a1 a2 a3 = some (r1, r2)) :
    Calls Try.prog 21 #[.slice A0 l0.length c0, .int .i64 a1, .int .i64 a2, .int .i64 a3] w fun e w' => e = .returned (.tuple #[.int .i64 r1, .int .i64 r2]) ∧ Below w.heap.size w w' := by
  have HR0 := Aside0.mk hr0
  have HC0 := Aside0.mk hc0
  clear hr0 hc0
  have HB := Aside0.mk (Below.refl w.heap.size w)
  have H : ((spec_l04Code.f k l0 a1 a2 a2).bind fun t435 => (if t435 = 0 then ((spec_IsAmount.f a3).bind fun t436 => (spec_DayWhenReached.j0 k l0 a1 a2 a3 t435 (!t436))) else (spec_DayWhenReached.j0 k l0 a1 a2 a3 t435 false))) = some (r1, r2) := h
  clear h
  replace H := Option.bind_eq_some_iff.mp H
  obtain ⟨t435, A50, H⟩ := H
  replace H : (if t435 = 0 then ((spec_IsAmount.f a3).bind fun t436 => (spec_DayWhenReached.j0 k l0 a1 a2 a3 t435 (!t436))) else (spec_DayWhenReached.j0 k l0 a1 a2 a3 t435 false)) = some (r1, r2) := H
  have A5 := Aside0.mk A50
  clear A50
  have HC6 := Aside0.mk H
  clear H
  go_enter Try.func21, Try.ntmps21
  go_upto_region 2 with (first | ((with_reducible refine gate_callee (f := 39) rfl ?_); refine goesL_ (some 18) rfl rfl Try.func39 (by kernel_rfl) rfl #[.slice A0 l0.length c0, .int .i64 a1, .int .i64 a2, .int .i64 a2] rfl (by (try simp only [List.map_toArray, List.map_cons, List.map_nil]); first | done | rfl | (simp only [List.length_drop, List.length_take]; rfl)) ?_; (with_reducible refine (spec_l04Code.calls k _ _ l0 a1 a2 a2 t435 _ ?side1 ?side2 A5.out).mono ?_); (case side1 => repeat (first | exact HR0.out | (with_reducible refine Kd.C_alloc ?_ _) | (with_reducible refine Kd.C_drewN ?_ _) | (with_reducible refine Kd.C_drew ?_))); (case side2 => exact HC0.out); rintro e w7 ⟨rfl, hb⟩; refine ⟨_, rfl, ?_⟩; have n0_ := Aside0.mk (below_step (by repeat (first | (with_reducible first | exact HB.out | apply below_alloc | apply pw_below_drewN | apply below_drew1) | exact HB.out)) hb); clear HB; have HB := n0_; clear n0_; (try clear hb); (try clear hb2); (try clear hk); (try clear hi)))
  (try simp only [Act.put, List.setIfInBounds_toArray, List.set_cons_zero, List.set_cons_succ])
  go_cut [25] (fun v25 wc => ∃ (kq : Nat) (x25_5 : Bool), v25 = .bool x25_5 ∧ Aside0 (spec_DayWhenReached.j0 kq l0 a1 a2 a3 t435 x25_5 = some (r1, r2)) ∧ Aside0 (kq ≤ k) ∧ Aside0 (Below w.heap.size w wc))
  case first =>
    have H := HC6.out
    clear HC6
    by_cases c8 : t435 = 0
    · rw [if_pos c8] at H
      have c8b0 : (t435 == 0) = true := beq_iff_eq.mpr c8
      have c8b1 : (t435 != 0) = false := bne_eq_false_iff_eq.mpr c8
      clear c8
      (first | rw [c8b0] | (simp only [i64_w, i32_w]; rw [c8b0]) | skip)
      replace H := Option.bind_eq_some_iff.mp H
      obtain ⟨t436, A90, H⟩ := H
      replace H : (spec_DayWhenReached.j0 k l0 a1 a2 a3 t435 (!t436)) = some (r1, r2) := H
      have A9 := Aside0.mk A90
      clear A90
      have H' := Aside0.mk H
      clear H
      go_wp2_with (first | (go_at_call 49; (with_reducible refine (spec_IsAmount.calls a3 t436 _ A9.out).mono ?_); rintro e w' ⟨rfl, ⟨nd, rfl⟩⟩))
      go_meet
      case rel => exact ⟨_, (!t436), (by first | rfl | (simp; done) | (simp [*]; done)), H', ⟨by first | omega | exact Nat.le_refl _⟩, ⟨by repeat (first | (with_reducible first | exact HB.out | apply below_alloc | apply pw_below_drewN | apply below_drew1) | exact HB.out)⟩⟩
    · rw [if_neg c8] at H
      have c8b0 : (t435 == 0) = false := beq_eq_false_iff_ne.mpr c8
      have c8b1 : (t435 != 0) = true := bne_iff_ne.mpr c8
      (first | rw [c8b0] | (simp only [i64_w, i32_w]; rw [c8b0]) | skip)
      have H' := Aside0.mk H
      clear H
      go_wp2
      go_meet
      case rel => exact ⟨_, (false), (by first | rfl | (simp; done) | (simp [*]; done)), H', ⟨by first | omega | exact Nat.le_refl _⟩, ⟨by repeat (first | (with_reducible first | exact HB.out | apply below_alloc | apply pw_below_drewN | apply below_drew1) | exact HB.out)⟩⟩
  case rest =>
    clear HC6
    try clear c2
    try clear p2
    try clear c3
    try clear c8
    try clear c8b0
    try clear c8b1
    obtain ⟨kq, x25_5, rfl, HA, HJ5, HB⟩ := hcut
    cases kq with
    | zero => exact absurd HA.out (by simp [spec_DayWhenReached.j0])
    | succ kj5 =>
      have H := HA.out
      clear HA
      simp only [spec_DayWhenReached.j0] at H
      have HC10 := Aside0.mk H
      clear H
      go_upto_if 25 with (fail)
      go_cut [10] (fun v10 wc => ∃ (kq : Nat) (x10_9 : Int), v10 = .int .i64 x10_9 ∧ Aside0 (spec_DayWhenReached.j1 kq l0 a1 a2 a3 x10_9 = some (r1, r2)) ∧ Aside0 (kq ≤ kj5) ∧ Aside0 (Below w.heap.size w wc))
      case first =>
        have H := HC10.out
        clear HC10
        by_cases c11 : x25_5 = true
        · subst c11
          have H1 : (spec_DayWhenReached.j1 kj5 l0 a1 a2 a3 2) = some (r1, r2) := by rw [if_pos rfl] at H; exact H
          clear H
          have H := H1
          clear H1
          have H' := Aside0.mk H
          clear H
          go_wp2
          go_meet
          case rel => exact ⟨_, (2), (by first | rfl | (simp; done) | (simp [*]; done)), H', ⟨by have := HJ5.out; first | omega | exact Nat.le_refl _⟩, ⟨by repeat (first | (with_reducible first | exact HB.out | apply below_alloc | apply pw_below_drewN | apply below_drew1) | exact HB.out)⟩⟩
        · replace c11 := Bool.eq_false_iff.mpr c11
          subst c11
          have H1 : (spec_DayWhenReached.j1 kj5 l0 a1 a2 a3 t435) = some (r1, r2) := by rw [if_neg (show ¬ (false = true) by decide)] at H; exact H
          clear H
          have H := H1
          clear H1
          have H' := Aside0.mk H
          clear H
          go_wp2
          go_meet
          case rel => exact ⟨_, (t435), (by first | rfl | (simp; done) | (simp [*]; done)), H', ⟨by have := HJ5.out; first | omega | exact Nat.le_refl _⟩, ⟨by repeat (first | (with_reducible first | exact HB.out | apply below_alloc | apply pw_below_drewN | apply below_drew1) | exact HB.out)⟩⟩
      case rest =>
        clear HC10
        try clear c1
        try clear c2
        try clear p2
        try clear c3
        try clear c8
        try clear c8b0
        try clear c8b1
        try clear c11
        try clear p2
        obtain ⟨kq, x10_9, rfl, HA, HJ9, HB⟩ := hcut
        cases kq with
        | zero => exact absurd HA.out (by simp [spec_DayWhenReached.j1])
        | succ kj9 =>
          have H := HA.out
          clear HA
          simp only [spec_DayWhenReached.j1] at H
          by_cases c12 : x10_9 = 0
          · rw [if_pos c12] at H
            have c12b0 : (x10_9 == 0) = true := beq_iff_eq.mpr c12
            have c12b1 : (x10_9 != 0) = false := bne_eq_false_iff_eq.mpr c12
            clear c12
            have H' := Aside0.mk H
            clear H
            go_wp2
            go_loopg [11, 12] kj9 (fun kq v11 v12 w' => ∃ (x11_3 : Int) (x12_3 : Int), v11 = .int .i64 x11_3 ∧ v12 = .int .i64 x12_3 ∧ Aside0 (spec_DayWhenReached.l0 kq l0 a1 a2 a3 x11_3 x12_3 = some (r1, r2)) ∧ Aside0 (kq ≤ kj9) ∧ Aside0 (Below w.heap.size w w'))
            case atStart => exact ⟨(wrap64 (a2 - 1)), (36525), (by first | rfl | (simp; done) | (simp [*]; done)), (by first | rfl | (simp; done) | (simp [*]; done)), H', ⟨Nat.le_refl _⟩, ⟨by repeat (first | (with_reducible first | exact HB.out | apply below_alloc | apply pw_below_drewN | apply below_drew1) | exact HB.out)⟩⟩
            case round =>
              clear H'
              try clear c1
              try clear c2
              try clear p2
              try clear c3
              try clear p6
              try clear c8
              try clear c8b0
              try clear c8b1
              try clear c11
              try clear c12
              try clear c12b0
              try clear c12b1
              try clear p2
              obtain ⟨x11_3, x12_3, rfl, rfl, HA, HK3, HB⟩ := hrel
              cases gk with
              | zero => exact absurd HA.out (by simp [spec_DayWhenReached.l0])
              | succ k3 =>
                have H := HA.out
                clear HA
                simp only [spec_DayWhenReached.l0] at H
                by_cases c13 : (wrap64 (x12_3 - x11_3)) > 1
                · rw [if_pos c13] at H
                  have c13b0 : decide (1 < (wrap64 (x12_3 - x11_3))) = true := decide_eq_true c13
                  clear c13
                  replace H := Option.bind_eq_some_iff.mp H
                  obtain ⟨t438, A140, H⟩ := H
                  replace H : ((spec_l04Interest.f a1 t438).bind fun t439 => (if t439 ≥ a3 then (spec_DayWhenReached.l0 k3 l0 a1 a2 a3 x11_3 (wrap64 (Int.tdiv (wrap64 (x11_3 + x12_3)) 2))) else (spec_DayWhenReached.l0 k3 l0 a1 a2 a3 (wrap64 (Int.tdiv (wrap64 (x11_3 + x12_3)) 2)) x12_3))) = some (r1, r2) := H
                  have A14 := Aside0.mk A140
                  clear A140
                  replace H := Option.bind_eq_some_iff.mp H
                  obtain ⟨t439, A150, H⟩ := H
                  replace H : (if t439 ≥ a3 then (spec_DayWhenReached.l0 k3 l0 a1 a2 a3 x11_3 (wrap64 (Int.tdiv (wrap64 (x11_3 + x12_3)) 2))) else (spec_DayWhenReached.l0 k3 l0 a1 a2 a3 (wrap64 (Int.tdiv (wrap64 (x11_3 + x12_3)) 2)) x12_3)) = some (r1, r2) := H
                  have A15 := Aside0.mk A150
                  clear A150
                  by_cases c16 : t439 ≥ a3
                  · rw [if_pos c16] at H
                    have c16b0 : decide (a3 ≤ t439) = true := decide_eq_true c16
                    clear c16
                    have H' := Aside0.mk H
                    clear H
                    go_wp2_with (first | ((with_reducible refine gate_callee (f := 42) rfl ?_); refine goesL_ (some 43) rfl rfl Try.func42 (by kernel_rfl) rfl #[.slice A0 l0.length c0, .int .i64 a2, .int .i64 (wrap64 (Int.tdiv (wrap64 (x11_3 + x12_3)) 2))] rfl (by (try simp only [List.map_toArray, List.map_cons, List.map_nil]); first | done | rfl | (simp only [List.length_drop, List.length_take]; rfl)) ?_; (with_reducible refine (spec_l04Weight.calls k3 _ _ l0 a2 (wrap64 (Int.tdiv (wrap64 (x11_3 + x12_3)) 2)) t438 _ ?side1 ?side2 A14.out).mono ?_); (case side1 => repeat (first | exact (Kd.C_below HR0.out HB.out) | (with_reducible refine Kd.C_alloc ?_ _) | (with_reducible refine Kd.C_drewN ?_ _) | (with_reducible refine Kd.C_drew ?_))); (case side2 => exact HC0.out); rintro e w17 ⟨rfl, hb⟩; refine ⟨_, rfl, ?_⟩; have n0_ := Aside0.mk (below_step (by repeat (first | (with_reducible first | exact HB.out | apply below_alloc | apply pw_below_drewN | apply below_drew1) | exact HB.out)) hb); clear HB; have HB := n0_; clear n0_; (try clear hb); (try clear hb2); (try clear hk); (try clear hi)) | ((with_reducible refine gate_callee (f := 41) rfl ?_); refine goesL_ (some 44) rfl rfl Try.func41 (by kernel_rfl) rfl #[.int .i64 a1, .int .i64 t438] rfl (by (try simp only [List.map_toArray, List.map_cons, List.map_nil]); first | done | rfl | (simp only [List.length_drop, List.length_take]; rfl)) ?_; (with_reducible refine (spec_l04Interest.calls a1 t438 t439 _ A15.out).mono ?_); rintro e w' ⟨rfl, ⟨nd, rfl⟩⟩; refine ⟨_, rfl, ?_⟩))
                    go_roundg k3
                    case measure => have := HJ5.out; have := HJ9.out; have := HK3.out; omega
                    case rel => exact ⟨(x11_3), (wrap64 (Int.tdiv (wrap64 (x11_3 + x12_3)) 2)), (by first | rfl | (simp; done) | (simp [*]; done)), (by first | rfl | (simp; done) | (simp [*]; done)), H', ⟨by have := HJ5.out; have := HJ9.out; have := HK3.out; omega⟩, ⟨by repeat (first | (with_reducible first | exact HB.out | apply below_alloc | apply pw_below_drewN | apply below_drew1) | exact HB.out)⟩⟩
                  · rw [if_neg c16] at H
                    have c16b0 : decide (a3 ≤ t439) = false := decide_eq_false c16
                    clear c16
                    have H' := Aside0.mk H
                    clear H
                    go_wp2_with (first | ((with_reducible refine gate_callee (f := 42) rfl ?_); refine goesL_ (some 43) rfl rfl Try.func42 (by kernel_rfl) rfl #[.slice A0 l0.length c0, .int .i64 a2, .int .i64 (wrap64 (Int.tdiv (wrap64 (x11_3 + x12_3)) 2))] rfl (by (try simp only [List.map_toArray, List.map_cons, List.map_nil]); first | done | rfl | (simp only [List.length_drop, List.length_take]; rfl)) ?_; (with_reducible refine (spec_l04Weight.calls k3 _ _ l0 a2 (wrap64 (Int.tdiv (wrap64 (x11_3 + x12_3)) 2)) t438 _ ?side1 ?side2 A14.out).mono ?_); (case side1 => repeat (first | exact (Kd.C_below HR0.out HB.out) | (with_reducible refine Kd.C_alloc ?_ _) | (with_reducible refine Kd.C_drewN ?_ _) | (with_reducible refine Kd.C_drew ?_))); (case side2 => exact HC0.out); rintro e w18 ⟨rfl, hb⟩; refine ⟨_, rfl, ?_⟩; have n0_ := Aside0.mk (below_step (by repeat (first | (with_reducible first | exact HB.out | apply below_alloc | apply pw_below_drewN | apply below_drew1) | exact HB.out)) hb); clear HB; have HB := n0_; clear n0_; (try clear hb); (try clear hb2); (try clear hk); (try clear hi)) | ((with_reducible refine gate_callee (f := 41) rfl ?_); refine goesL_ (some 44) rfl rfl Try.func41 (by kernel_rfl) rfl #[.int .i64 a1, .int .i64 t438] rfl (by (try simp only [List.map_toArray, List.map_cons, List.map_nil]); first | done | rfl | (simp only [List.length_drop, List.length_take]; rfl)) ?_; (with_reducible refine (spec_l04Interest.calls a1 t438 t439 _ A15.out).mono ?_); rintro e w' ⟨rfl, ⟨nd, rfl⟩⟩; refine ⟨_, rfl, ?_⟩))
                    go_roundg k3
                    case measure => have := HJ5.out; have := HJ9.out; have := HK3.out; omega
                    case rel => exact ⟨(wrap64 (Int.tdiv (wrap64 (x11_3 + x12_3)) 2)), (x12_3), (by first | rfl | (simp; done) | (simp [*]; done)), (by first | rfl | (simp; done) | (simp [*]; done)), H', ⟨by have := HJ5.out; have := HJ9.out; have := HK3.out; omega⟩, ⟨by repeat (first | (with_reducible first | exact HB.out | apply below_alloc | apply pw_below_drewN | apply below_drew1) | exact HB.out)⟩⟩
                · rw [if_neg c13] at H
                  have c13b0 : decide (1 < (wrap64 (x12_3 - x11_3))) = false := decide_eq_false c13
                  clear c13
                  replace H := Option.bind_eq_some_iff.mp H
                  obtain ⟨t437, A190, H⟩ := H
                  replace H : (if t437 = true then (some (x12_3, 0)) else (some (0, 4))) = some (r1, r2) := H
                  have A19 := Aside0.mk A190
                  clear A190
                  by_cases c20 : t437 = true
                  · subst c20
                    have H1 : (some (x12_3, 0)) = some (r1, r2) := by rw [if_pos rfl] at H; exact H
                    clear H
                    have H := H1
                    clear H1
                    simp only [Option.some.injEq, Prod.mk.injEq] at H
                    obtain ⟨rfl, rfl⟩ := H
                    go_wp2_with (first | ((with_reducible refine gate_callee (f := 51) rfl ?_); refine goesL_ (some 50) rfl rfl Try.func51 (by kernel_rfl) rfl #[.int .i64 x12_3] rfl (by (try simp only [List.map_toArray, List.map_cons, List.map_nil]); first | done | rfl | (simp only [List.length_drop, List.length_take]; rfl)) ?_; (with_reducible refine (spec_l02Is.calls x12_3 true _ A19.out).mono ?_); rintro e w' ⟨rfl, ⟨nd, rfl⟩⟩; refine ⟨_, rfl, ?_⟩))
                    go_ret2
                    exact ⟨by first | rfl | (simp [errW_none, errW_some] <;> rfl) | (simp [*, errW_none, errW_some] <;> rfl), by repeat (first | (with_reducible first | exact HB.out | apply below_alloc | apply pw_below_drewN | apply below_drew1) | exact HB.out)⟩
                  · replace c20 := Bool.eq_false_iff.mpr c20
                    subst c20
                    have H1 : (some (0, 4)) = some (r1, r2) := by rw [if_neg (show ¬ (false = true) by decide)] at H; exact H
                    clear H
                    have H := H1
                    clear H1
                    simp only [Option.some.injEq, Prod.mk.injEq] at H
                    obtain ⟨rfl, rfl⟩ := H
                    go_wp2_with (first | ((with_reducible refine gate_callee (f := 51) rfl ?_); refine goesL_ (some 50) rfl rfl Try.func51 (by kernel_rfl) rfl #[.int .i64 x12_3] rfl (by (try simp only [List.map_toArray, List.map_cons, List.map_nil]); first | done | rfl | (simp only [List.length_drop, List.length_take]; rfl)) ?_; (with_reducible refine (spec_l02Is.calls x12_3 false _ A19.out).mono ?_); rintro e w' ⟨rfl, ⟨nd, rfl⟩⟩; refine ⟨_, rfl, ?_⟩))
                    go_ret2
                    exact ⟨by first | rfl | (simp [errW_none, errW_some] <;> rfl) | (simp [*, errW_none, errW_some] <;> rfl), by repeat (first | (with_reducible first | exact HB.out | apply below_alloc | apply pw_below_drewN | apply below_drew1) | exact HB.out)⟩
          · rw [if_neg c12] at H
            have c12b0 : (x10_9 == 0) = false := beq_eq_false_iff_ne.mpr c12
            have c12b1 : (x10_9 != 0) = true := bne_iff_ne.mpr c12
            simp only [Option.some.injEq, Prod.mk.injEq] at H
            obtain ⟨rfl, rfl⟩ := H
            go_wp2
            go_ret2
            exact ⟨by first | rfl | (simp [errW_none, errW_some] <;> rfl) | (simp [*, errW_none, errW_some] <;> rfl), by repeat (first | (with_reducible first | exact HB.out | apply below_alloc | apply pw_below_drewN | apply below_drew1) | exact HB.out)⟩

/-! ### spec_DrawCommissionOf: function 22 -/
def spec_DrawCommissionOf.f (k : Nat) (l0 : List Int) : Option (Int × Int) := (spec_DrawSimpleInterest.f k l0).bind fun bt440 => (some (bt440.1, bt440.2.1))
theorem spec_DrawCommissionOf.mono : ∀ a0 k, LeO (spec_DrawCommissionOf.f k a0) (spec_DrawCommissionOf.f (k + 1) a0) := by
  intro a0 k
  unfold spec_DrawCommissionOf.f
  repeat' first
      | (with_reducible exact spec_DrawSimpleInterest.mono _ _)
      | (with_reducible exact LeO.refl _)
      | (with_reducible exact LeO.none _)
      | (with_reducible refine LeO.ite ?_ ?_)
      | (with_reducible refine LeO.bind ?_ (fun _ => ?_))
      | exact spec_DrawSimpleInterest.mono _ _
      | exact LeO.none _
      | refine LeO.ite ?_ ?_
      | refine LeO.bind ?_ (fun _ => ?_)
set_option maxHeartbeats 8000000 in
set_option maxRecDepth 100000 in
theorem spec_DrawCommissionOf.calls (k : Nat) (A0 : Option Addr) (c0 : Nat) (l0 : List Int) (r1 : Int) (r2 : Int) (w : World) (hr0 : Kd.C (Kd.int .u8) w A0 l0.length l0) (hc0 : l0.length ≤ c0) (h : spec_DrawCommissionOf.f k l0 = some (r1, r2)) :
    Calls Try.prog 22 #[.slice A0 l0.length c0] w fun e w' => e = .returned (.tuple #[.int .i64 r1, .int .i64 r2]) ∧ Below w.heap.size w w' := by
  have HR0 := Aside0.mk hr0
  have HC0 := Aside0.mk hc0
  clear hr0 hc0
  have HB := Aside0.mk (Below.refl w.heap.size w)
  have H : ((spec_DrawSimpleInterest.f k l0).bind fun bt440 => (some (bt440.1, bt440.2.1))) = some (r1, r2) := h
  clear h
  replace H := Option.bind_eq_some_iff.mp H
  obtain ⟨⟨t440, t441, t442⟩, A20, H⟩ := H
  replace H : (some (t440, t441)) = some (r1, r2) := H
  have A2 := Aside0.mk A20
  clear A20
  simp only [Option.some.injEq, Prod.mk.injEq] at H
  obtain ⟨rfl, rfl⟩ := H
  go_enter Try.func22, Try.ntmps22
  go_wp2_with (first | ((with_reducible refine gate_callee (f := 9) rfl ?_); refine goesL_ (some 9) rfl rfl Try.func9 (by kernel_rfl) rfl #[.slice A0 l0.length c0] rfl (by (try simp only [List.map_toArray, List.map_cons, List.map_nil]); first | done | rfl | (simp only [List.length_drop, List.length_take]; rfl)) ?_; (with_reducible refine (spec_DrawSimpleInterest.calls k _ _ l0 t440 t441 t442 _ ?side1 ?side2 A2.out).mono ?_); (case side1 => repeat (first | exact HR0.out | (with_reducible refine Kd.C_alloc ?_ _) | (with_reducible refine Kd.C_drewN ?_ _) | (with_reducible refine Kd.C_drew ?_))); (case side2 => exact HC0.out); rintro e w3 ⟨rfl, hb⟩; refine ⟨_, rfl, ?_⟩; have n0_ := Aside0.mk (below_step (by repeat (first | (with_reducible first | exact HB.out | apply below_alloc | apply pw_below_drewN | apply below_drew1) | exact HB.out)) hb); clear HB; have HB := n0_; clear n0_; (try clear hb); (try clear hb2); (try clear hk); (try clear hi)))
  go_ret2
  exact ⟨by first | rfl | (simp [errW_none, errW_some] <;> rfl) | (simp [*, errW_none, errW_some] <;> rfl), by repeat (first | (with_reducible first | exact HB.out | apply below_alloc | apply pw_below_drewN | apply below_drew1) | exact HB.out)⟩

/-! ### impl_commission: function 60 -/
def impl_commission.f (a0 : Int) (a1 : Int) : Option (Int) := (impl_nearest.f (wrap64 (a0 * a1)) 10000).bind fun t443 => (some t443)
set_option maxHeartbeats 8000000 in
set_option maxRecDepth 100000 in
theorem impl_commission.calls (a0 : Int) (a1 : Int) (r : Int) (w : World) (h : impl_commission.f a0 a1 = some r) :
    Calls Try.prog 60 #[.int .i64 a0, .int .i64 a1] w fun e w' => e = .returned (.int .i64 r) ∧ Drawn0 w w' := by
  have H : ((impl_nearest.f (wrap64 (a0 * a1)) 10000).bind fun t443 => (some t443)) = some r := h
  clear h
  replace H := Option.bind_eq_some_iff.mp H
  obtain ⟨t443, A30, H⟩ := H
  replace H : (some t443) = some r := H
  have A3 := Aside0.mk A30
  clear A30
  obtain rfl := Option.some.inj H
  go_enter Try.func60, Try.ntmps60
  go_wp2_with (first | ((with_reducible refine gate_callee (f := 59) rfl ?_); refine goesL_ (some 8) rfl rfl Try.func59 (by kernel_rfl) rfl #[.int .i64 (wrap64 (a0 * a1)), .int .i64 10000] rfl (by (try simp only [List.map_toArray, List.map_cons, List.map_nil]); first | done | rfl | (simp only [List.length_drop, List.length_take]; rfl)) ?_; (with_reducible refine (impl_nearest.calls (wrap64 (a0 * a1)) 10000 t443 _ A3.out).mono ?_); rintro e w' ⟨rfl, ⟨nd, rfl⟩⟩; refine ⟨_, rfl, ?_⟩))
  go_ret
  exact ⟨by first | rfl | (simp; done) | (simp [*]; done), by repeat (first | exact Drawn0.refl _ | apply Drawn0.step)⟩

/-! ### impl_CommissionOf: function 23 -/
def impl_CommissionOf.j0 : Nat → Int → Int → Bool → Option (Int × Int)
  | 0, _, _, _ => none
  | k + 1, x0, x1, x13 => if x13 = true then (some (0, 2)) else ((impl_commission.f x0 x1).bind fun t446 => ((impl_amountOf.f t446).bind fun bt447 => (some (bt447.1, bt447.2))))
def impl_CommissionOf.f (k : Nat) (a0 : Int) (a1 : Int) : Option (Int × Int) := (impl_IsAmount.f a0).bind fun t444 => (if t444 = true then ((impl_isPoints.f a1).bind fun t445 => (impl_CommissionOf.j0 k a0 a1 (!t445))) else (impl_CommissionOf.j0 k a0 a1 true))
theorem impl_CommissionOf.mono_l : ∀ k, (∀ y0 y1 y2, LeO (impl_CommissionOf.j0 k y0 y1 y2) (impl_CommissionOf.j0 (k + 1) y0 y1 y2))
  | 0 => fun _ _ _ r h => by simp [impl_CommissionOf.j0] at h
  | k + 1 => by
    have ih0 := impl_CommissionOf.mono_l k
    · intro y0 y1 y2
      unfold impl_CommissionOf.j0
      repeat' first
      | (with_reducible exact ih0 _ _ _)
      | (with_reducible exact LeO.refl _)
      | (with_reducible exact LeO.none _)
      | (with_reducible refine LeO.ite ?_ ?_)
      | (with_reducible refine LeO.bind ?_ (fun _ => ?_))
      | exact ih0 _ _ _
      | exact LeO.none _
      | refine LeO.ite ?_ ?_
      | refine LeO.bind ?_ (fun _ => ?_)
theorem impl_CommissionOf.mono : ∀ a0 a1 k, LeO (impl_CommissionOf.f k a0 a1) (impl_CommissionOf.f (k + 1) a0 a1) := by
  intro a0 a1 k
  have ih0 := impl_CommissionOf.mono_l k
  unfold impl_CommissionOf.f
  repeat' first
      | (with_reducible exact ih0 _ _ _)
      | (with_reducible exact LeO.refl _)
      | (with_reducible exact LeO.none _)
      | (with_reducible refine LeO.ite ?_ ?_)
      | (with_reducible refine LeO.bind ?_ (fun _ => ?_))
      | exact ih0 _ _ _
      | exact LeO.none _
      | refine LeO.ite ?_ ?_
      | refine LeO.bind ?_ (fun _ => ?_)
set_option maxHeartbeats 8000000 in
set_option maxRecDepth 100000 in
theorem impl_CommissionOf.calls (k : Nat) (a0 : Int) (a1 : Int) (r1 : Int) (r2 : Int) (w : World) (h : impl_CommissionOf.f k a0 a1 = some (r1, r2)) :
    Calls Try.prog 23 #[.int .i64 a0, .int .i64 a1] w fun e w' => e = .returned (.tuple #[.int .i64 r1, .int .i64 r2]) ∧ Drawn0 w w' := by
  have H : ((impl_IsAmount.f a0).bind fun t444 => (if t444 = true then ((impl_isPoints.f a1).bind fun t445 => (impl_CommissionOf.j0 k a0 a1 (!t445))) else (impl_CommissionOf.j0 k a0 a1 true))) = some (r1, r2) := h
  clear h
  have HC3 := Aside0.mk H
  clear H
  go_enter Try.func23, Try.ntmps23
  go_upto_region 1 with (fail)
  go_cut [13] (fun v13 wc => ∃ (kq : Nat) (x13_2 : Bool), v13 = .bool x13_2 ∧ Aside0 (impl_CommissionOf.j0 kq a0 a1 x13_2 = some (r1, r2)) ∧ Aside0 (kq ≤ k) ∧ Drawn0 w wc)
  case first =>
    have H := HC3.out
    clear HC3
    replace H := Option.bind_eq_some_iff.mp H
    obtain ⟨t444, A40, H⟩ := H
    replace H : (if t444 = true then ((impl_isPoints.f a1).bind fun t445 => (impl_CommissionOf.j0 k a0 a1 (!t445))) else (impl_CommissionOf.j0 k a0 a1 true)) = some (r1, r2) := H
    have A4 := Aside0.mk A40
    clear A40
    by_cases c5 : t444 = true
    · subst c5
      have H1 : ((impl_isPoints.f a1).bind fun t445 => (impl_CommissionOf.j0 k a0 a1 (!t445))) = some (r1, r2) := by rw [if_pos rfl] at H; exact H
      clear H
      have H := H1
      clear H1
      replace H := Option.bind_eq_some_iff.mp H
      obtain ⟨t445, A60, H⟩ := H
      replace H : (impl_CommissionOf.j0 k a0 a1 (!t445)) = some (r1, r2) := H
      have A6 := Aside0.mk A60
      clear A60
      have H' := Aside0.mk H
      clear H
      go_wp2_with (first | ((with_reducible refine gate_callee (f := 46) rfl ?_); refine goesL_ (some 7) rfl rfl Try.func46 (by kernel_rfl) rfl #[.int .i64 a0] rfl (by (try simp only [List.map_toArray, List.map_cons, List.map_nil]); first | done | rfl | (simp only [List.length_drop, List.length_take]; rfl)) ?_; (with_reducible refine (impl_IsAmount.calls a0 true _ A4.out).mono ?_); rintro e w' ⟨rfl, ⟨nd, rfl⟩⟩; refine ⟨_, rfl, ?_⟩) | (go_at_call 47; (with_reducible refine (impl_isPoints.calls a1 t445 _ A6.out).mono ?_); rintro e w' ⟨rfl, ⟨nd, rfl⟩⟩))
      go_meet
      case rel => exact ⟨_, (!t445), (by first | rfl | (simp; done) | (simp [*]; done)), H', ⟨by first | omega | exact Nat.le_refl _⟩, by repeat (first | exact Drawn0.refl _ | apply Drawn0.step)⟩
    · replace c5 := Bool.eq_false_iff.mpr c5
      subst c5
      have H1 : (impl_CommissionOf.j0 k a0 a1 true) = some (r1, r2) := by rw [if_neg (show ¬ (false = true) by decide)] at H; exact H
      clear H
      have H := H1
      clear H1
      have H' := Aside0.mk H
      clear H
      go_wp2_with (first | ((with_reducible refine gate_callee (f := 46) rfl ?_); refine goesL_ (some 7) rfl rfl Try.func46 (by kernel_rfl) rfl #[.int .i64 a0] rfl (by (try simp only [List.map_toArray, List.map_cons, List.map_nil]); first | done | rfl | (simp only [List.length_drop, List.length_take]; rfl)) ?_; (with_reducible refine (impl_IsAmount.calls a0 false _ A4.out).mono ?_); rintro e w' ⟨rfl, ⟨nd, rfl⟩⟩; refine ⟨_, rfl, ?_⟩))
      go_meet
      case rel => exact ⟨_, (true), (by first | rfl | (simp; done) | (simp [*]; done)), H', ⟨by first | omega | exact Nat.le_refl _⟩, by repeat (first | exact Drawn0.refl _ | apply Drawn0.step)⟩
  case rest =>
    clear HC3
    try clear c2
    try clear p2
    try clear c4
    try clear c5
    obtain ⟨kq, x13_2, rfl, HA, HJ2, ⟨mc2, rfl⟩⟩ := hcut
    cases kq with
    | zero => exact absurd HA.out (by simp [impl_CommissionOf.j0])
    | succ kj2 =>
      have H := HA.out
      clear HA
      simp only [impl_CommissionOf.j0] at H
      by_cases c7 : x13_2 = true
      · subst c7
        have H1 : (some (0, 2)) = some (r1, r2) := by rw [if_pos rfl] at H; exact H
        clear H
        have H := H1
        clear H1
        simp only [Option.some.injEq, Prod.mk.injEq] at H
        obtain ⟨rfl, rfl⟩ := H
        go_wp2
        go_ret2
        exact ⟨by first | rfl | (simp; done) | (simp [*]; done), by repeat (first | exact Drawn0.refl _ | apply Drawn0.step)⟩
      · replace c7 := Bool.eq_false_iff.mpr c7
        subst c7
        have H1 : ((impl_commission.f a0 a1).bind fun t446 => ((impl_amountOf.f t446).bind fun bt447 => (some (bt447.1, bt447.2)))) = some (r1, r2) := by rw [if_neg (show ¬ (false = true) by decide)] at H; exact H
        clear H
        have H := H1
        clear H1
        replace H := Option.bind_eq_some_iff.mp H
        obtain ⟨t446, A80, H⟩ := H
        replace H : ((impl_amountOf.f t446).bind fun bt447 => (some (bt447.1, bt447.2))) = some (r1, r2) := H
        have A8 := Aside0.mk A80
        clear A80
        replace H := Option.bind_eq_some_iff.mp H
        obtain ⟨⟨t447, t448⟩, A90, H⟩ := H
        replace H : (some (t447, t448)) = some (r1, r2) := H
        have A9 := Aside0.mk A90
        clear A90
        simp only [Option.some.injEq, Prod.mk.injEq] at H
        obtain ⟨rfl, rfl⟩ := H
        go_wp2_with (first | ((with_reducible refine gate_callee (f := 60) rfl ?_); refine goesL_ (some 16) rfl rfl Try.func60 (by kernel_rfl) rfl #[.int .i64 a0, .int .i64 a1] rfl (by (try simp only [List.map_toArray, List.map_cons, List.map_nil]); first | done | rfl | (simp only [List.length_drop, List.length_take]; rfl)) ?_; (with_reducible refine (impl_commission.calls a0 a1 t446 _ A8.out).mono ?_); rintro e w' ⟨rfl, ⟨nd, rfl⟩⟩; refine ⟨_, rfl, ?_⟩) | ((with_reducible refine gate_callee (f := 36) rfl ?_); refine goesL_ (some 17) rfl rfl Try.func36 (by kernel_rfl) rfl #[.int .i64 t446] rfl (by (try simp only [List.map_toArray, List.map_cons, List.map_nil]); first | done | rfl | (simp only [List.length_drop, List.length_take]; rfl)) ?_; (with_reducible refine (impl_amountOf.calls t446 t447 t448 _ A9.out).mono ?_); rintro e w' ⟨rfl, ⟨nd, rfl⟩⟩; refine ⟨_, rfl, ?_⟩))
        go_ret2
        exact ⟨by first | rfl | (simp; done) | (simp [*]; done), by repeat (first | exact Drawn0.refl _ | apply Drawn0.step)⟩

/-! ### spec_l01Proportion: function 72 -/
def spec_l01Proportion.f (a0 : Int) (a1 : Int) (a2 : Int) : Option (Int) := if a2 = 0 then (none) else (if (wrap64 (2 * (Int.tmod (wrap64 (a0 * a1)) a2))) ≥ a2 then (some (wrap64 ((wrap64 (Int.tdiv (wrap64 (a0 * a1)) a2)) + 1))) else (some (wrap64 (Int.tdiv (wrap64 (a0 * a1)) a2))))
set_option maxHeartbeats 8000000 in
set_option maxRecDepth 100000 in
theorem spec_l01Proportion.calls (a0 : Int) (a1 : Int) (a2 : Int) (r : Int) (w : World) (h : spec_l01Proportion.f a0 a1 a2 = some r) :
    Calls Try.prog 72 #[.int .i64 a0, .int .i64 a1, .int .i64 a2] w fun e w' => e = .returned (.int .i64 r) ∧ Drawn0 w w' := by
  have H : (if a2 = 0 then (none) else (if (wrap64 (2 * (Int.tmod (wrap64 (a0 * a1)) a2))) ≥ a2 then (some (wrap64 ((wrap64 (Int.tdiv (wrap64 (a0 * a1)) a2)) + 1))) else (some (wrap64 (Int.tdiv (wrap64 (a0 * a1)) a2))))) = some r := h
  clear h
  by_cases c4 : a2 = 0
  · rw [if_pos c4] at H
    exact absurd H (by simp)
  · rw [if_neg c4] at H
    have c4b0 : (a2 == 0) = false := beq_eq_false_iff_ne.mpr c4
    have c4b1 : (a2 != 0) = true := bne_iff_ne.mpr c4
    by_cases c5 : (wrap64 (2 * (Int.tmod (wrap64 (a0 * a1)) a2))) ≥ a2
    · rw [if_pos c5] at H
      have c5b0 : decide (a2 ≤ (wrap64 (2 * (Int.tmod (wrap64 (a0 * a1)) a2)))) = true := decide_eq_true c5
      clear c5
      obtain rfl := Option.some.inj H
      go_enter Try.func72, Try.ntmps72
      go_wp2
      repeat (go_quiet (fail); try go_wp2)
      go_ret
      exact ⟨by first | rfl | (simp; done) | (simp [*]; done), by repeat (first | exact Drawn0.refl _ | apply Drawn0.step)⟩
    · rw [if_neg c5] at H
      have c5b0 : decide (a2 ≤ (wrap64 (2 * (Int.tmod (wrap64 (a0 * a1)) a2)))) = false := decide_eq_false c5
      clear c5
      obtain rfl := Option.some.inj H
      go_enter Try.func72, Try.ntmps72
      go_wp2
      repeat (go_quiet (fail); try go_wp2)
      go_ret
      exact ⟨by first | rfl | (simp; done) | (simp [*]; done), by repeat (first | exact Drawn0.refl _ | apply Drawn0.step)⟩

/-! ### spec_l04Commission: function 61 -/
def spec_l04Commission.f (a0 : Int) (a1 : Int) : Option (Int) := (spec_l01Proportion.f a0 a1 10000).bind fun t449 => (some t449)
set_option maxHeartbeats 8000000 in
set_option maxRecDepth 100000 in
theorem spec_l04Commission.calls (a0 : Int) (a1 : Int) (r : Int) (w : World) (h : spec_l04Commission.f a0 a1 = some r) :
    Calls Try.prog 61 #[.int .i64 a0, .int .i64 a1] w fun e w' => e = .returned (.int .i64 r) ∧ Drawn0 w w' := by
  have H : ((spec_l01Proportion.f a0 a1 10000).bind fun t449 => (some t449)) = some r := h
  clear h
  replace H := Option.bind_eq_some_iff.mp H
  obtain ⟨t449, A30, H⟩ := H
  replace H : (some t449) = some r := H
  have A3 := Aside0.mk A30
  clear A30
  obtain rfl := Option.some.inj H
  go_enter Try.func61, Try.ntmps61
  go_wp2_with (first | ((with_reducible refine gate_callee (f := 72) rfl ?_); refine goesL_ (some 7) rfl rfl Try.func72 (by kernel_rfl) rfl #[.int .i64 a0, .int .i64 a1, .int .i64 10000] rfl (by (try simp only [List.map_toArray, List.map_cons, List.map_nil]); first | done | rfl | (simp only [List.length_drop, List.length_take]; rfl)) ?_; (with_reducible refine (spec_l01Proportion.calls a0 a1 10000 t449 _ A3.out).mono ?_); rintro e w' ⟨rfl, ⟨nd, rfl⟩⟩; refine ⟨_, rfl, ?_⟩))
  go_ret
  exact ⟨by first | rfl | (simp; done) | (simp [*]; done), by repeat (first | exact Drawn0.refl _ | apply Drawn0.step)⟩

/-! ### spec_CommissionOf: function 24 -/
def spec_CommissionOf.j0 : Nat → Int → Int → Bool → Option (Int × Int)
  | 0, _, _, _ => none
  | k + 1, x0, x1, x13 => if x13 = true then (some (0, 2)) else ((spec_l04Commission.f x0 x1).bind fun t452 => ((spec_l04Result.f t452).bind fun bt453 => (some (bt453.1, bt453.2))))
def spec_CommissionOf.f (k : Nat) (a0 : Int) (a1 : Int) : Option (Int × Int) := (spec_IsAmount.f a0).bind fun t450 => (if t450 = true then ((spec_l04Points.f a1).bind fun t451 => (spec_CommissionOf.j0 k a0 a1 (!t451))) else (spec_CommissionOf.j0 k a0 a1 true))
theorem spec_CommissionOf.mono_l : ∀ k, (∀ y0 y1 y2, LeO (spec_CommissionOf.j0 k y0 y1 y2) (spec_CommissionOf.j0 (k + 1) y0 y1 y2))
  | 0 => fun _ _ _ r h => by simp [spec_CommissionOf.j0] at h
  | k + 1 => by
    have ih0 := spec_CommissionOf.mono_l k
    · intro y0 y1 y2
      unfold spec_CommissionOf.j0
      repeat' first
      | (with_reducible exact ih0 _ _ _)
      | (with_reducible exact LeO.refl _)
      | (with_reducible exact LeO.none _)
      | (with_reducible refine LeO.ite ?_ ?_)
      | (with_reducible refine LeO.bind ?_ (fun _ => ?_))
      | exact ih0 _ _ _
      | exact LeO.none _
      | refine LeO.ite ?_ ?_
      | refine LeO.bind ?_ (fun _ => ?_)
theorem spec_CommissionOf.mono : ∀ a0 a1 k, LeO (spec_CommissionOf.f k a0 a1) (spec_CommissionOf.f (k + 1) a0 a1) := by
  intro a0 a1 k
  have ih0 := spec_CommissionOf.mono_l k
  unfold spec_CommissionOf.f
  repeat' first
      | (with_reducible exact ih0 _ _ _)
      | (with_reducible exact LeO.refl _)
      | (with_reducible exact LeO.none _)
      | (with_reducible refine LeO.ite ?_ ?_)
      | (with_reducible refine LeO.bind ?_ (fun _ => ?_))
      | exact ih0 _ _ _
      | exact LeO.none _
      | refine LeO.ite ?_ ?_
      | refine LeO.bind ?_ (fun _ => ?_)
set_option maxHeartbeats 8000000 in
set_option maxRecDepth 100000 in
theorem spec_CommissionOf.calls (k : Nat) (a0 : Int) (a1 : Int) (r1 : Int) (r2 : Int) (w : World) (h : spec_CommissionOf.f k a0 a1 = some (r1, r2)) :
    Calls Try.prog 24 #[.int .i64 a0, .int .i64 a1] w fun e w' => e = .returned (.tuple #[.int .i64 r1, .int .i64 r2]) ∧ Drawn0 w w' := by
  have H : ((spec_IsAmount.f a0).bind fun t450 => (if t450 = true then ((spec_l04Points.f a1).bind fun t451 => (spec_CommissionOf.j0 k a0 a1 (!t451))) else (spec_CommissionOf.j0 k a0 a1 true))) = some (r1, r2) := h
  clear h
  have HC3 := Aside0.mk H
  clear H
  go_enter Try.func24, Try.ntmps24
  go_upto_region 1 with (fail)
  go_cut [13] (fun v13 wc => ∃ (kq : Nat) (x13_2 : Bool), v13 = .bool x13_2 ∧ Aside0 (spec_CommissionOf.j0 kq a0 a1 x13_2 = some (r1, r2)) ∧ Aside0 (kq ≤ k) ∧ Drawn0 w wc)
  case first =>
    have H := HC3.out
    clear HC3
    replace H := Option.bind_eq_some_iff.mp H
    obtain ⟨t450, A40, H⟩ := H
    replace H : (if t450 = true then ((spec_l04Points.f a1).bind fun t451 => (spec_CommissionOf.j0 k a0 a1 (!t451))) else (spec_CommissionOf.j0 k a0 a1 true)) = some (r1, r2) := H
    have A4 := Aside0.mk A40
    clear A40
    by_cases c5 : t450 = true
    · subst c5
      have H1 : ((spec_l04Points.f a1).bind fun t451 => (spec_CommissionOf.j0 k a0 a1 (!t451))) = some (r1, r2) := by rw [if_pos rfl] at H; exact H
      clear H
      have H := H1
      clear H1
      replace H := Option.bind_eq_some_iff.mp H
      obtain ⟨t451, A60, H⟩ := H
      replace H : (spec_CommissionOf.j0 k a0 a1 (!t451)) = some (r1, r2) := H
      have A6 := Aside0.mk A60
      clear A60
      have H' := Aside0.mk H
      clear H
      go_wp2_with (first | ((with_reducible refine gate_callee (f := 49) rfl ?_); refine goesL_ (some 7) rfl rfl Try.func49 (by kernel_rfl) rfl #[.int .i64 a0] rfl (by (try simp only [List.map_toArray, List.map_cons, List.map_nil]); first | done | rfl | (simp only [List.length_drop, List.length_take]; rfl)) ?_; (with_reducible refine (spec_IsAmount.calls a0 true _ A4.out).mono ?_); rintro e w' ⟨rfl, ⟨nd, rfl⟩⟩; refine ⟨_, rfl, ?_⟩) | (go_at_call 50; (with_reducible refine (spec_l04Points.calls a1 t451 _ A6.out).mono ?_); rintro e w' ⟨rfl, ⟨nd, rfl⟩⟩))
      go_meet
      case rel => exact ⟨_, (!t451), (by first | rfl | (simp; done) | (simp [*]; done)), H', ⟨by first | omega | exact Nat.le_refl _⟩, by repeat (first | exact Drawn0.refl _ | apply Drawn0.step)⟩
    · replace c5 := Bool.eq_false_iff.mpr c5
      subst c5
      have H1 : (spec_CommissionOf.j0 k a0 a1 true) = some (r1, r2) := by rw [if_neg (show ¬ (false = true) by decide)] at H; exact H
      clear H
      have H := H1
      clear H1
      have H' := Aside0.mk H
      clear H
      go_wp2_with (first | ((with_reducible refine gate_callee (f := 49) rfl ?_); refine goesL_ (some 7) rfl rfl Try.func49 (by kernel_rfl) rfl #[.int .i64 a0] rfl (by (try simp only [List.map_toArray, List.map_cons, List.map_nil]); first | done | rfl | (simp only [List.length_drop, List.length_take]; rfl)) ?_; (with_reducible refine (spec_IsAmount.calls a0 false _ A4.out).mono ?_); rintro e w' ⟨rfl, ⟨nd, rfl⟩⟩; refine ⟨_, rfl, ?_⟩))
      go_meet
      case rel => exact ⟨_, (true), (by first | rfl | (simp; done) | (simp [*]; done)), H', ⟨by first | omega | exact Nat.le_refl _⟩, by repeat (first | exact Drawn0.refl _ | apply Drawn0.step)⟩
  case rest =>
    clear HC3
    try clear c2
    try clear p2
    try clear c4
    try clear c5
    obtain ⟨kq, x13_2, rfl, HA, HJ2, ⟨mc2, rfl⟩⟩ := hcut
    cases kq with
    | zero => exact absurd HA.out (by simp [spec_CommissionOf.j0])
    | succ kj2 =>
      have H := HA.out
      clear HA
      simp only [spec_CommissionOf.j0] at H
      by_cases c7 : x13_2 = true
      · subst c7
        have H1 : (some (0, 2)) = some (r1, r2) := by rw [if_pos rfl] at H; exact H
        clear H
        have H := H1
        clear H1
        simp only [Option.some.injEq, Prod.mk.injEq] at H
        obtain ⟨rfl, rfl⟩ := H
        go_wp2
        go_ret2
        exact ⟨by first | rfl | (simp; done) | (simp [*]; done), by repeat (first | exact Drawn0.refl _ | apply Drawn0.step)⟩
      · replace c7 := Bool.eq_false_iff.mpr c7
        subst c7
        have H1 : ((spec_l04Commission.f a0 a1).bind fun t452 => ((spec_l04Result.f t452).bind fun bt453 => (some (bt453.1, bt453.2)))) = some (r1, r2) := by rw [if_neg (show ¬ (false = true) by decide)] at H; exact H
        clear H
        have H := H1
        clear H1
        replace H := Option.bind_eq_some_iff.mp H
        obtain ⟨t452, A80, H⟩ := H
        replace H : ((spec_l04Result.f t452).bind fun bt453 => (some (bt453.1, bt453.2))) = some (r1, r2) := H
        have A8 := Aside0.mk A80
        clear A80
        replace H := Option.bind_eq_some_iff.mp H
        obtain ⟨⟨t453, t454⟩, A90, H⟩ := H
        replace H : (some (t453, t454)) = some (r1, r2) := H
        have A9 := Aside0.mk A90
        clear A90
        simp only [Option.some.injEq, Prod.mk.injEq] at H
        obtain ⟨rfl, rfl⟩ := H
        go_wp2_with (first | ((with_reducible refine gate_callee (f := 61) rfl ?_); refine goesL_ (some 16) rfl rfl Try.func61 (by kernel_rfl) rfl #[.int .i64 a0, .int .i64 a1] rfl (by (try simp only [List.map_toArray, List.map_cons, List.map_nil]); first | done | rfl | (simp only [List.length_drop, List.length_take]; rfl)) ?_; (with_reducible refine (spec_l04Commission.calls a0 a1 t452 _ A8.out).mono ?_); rintro e w' ⟨rfl, ⟨nd, rfl⟩⟩; refine ⟨_, rfl, ?_⟩) | ((with_reducible refine gate_callee (f := 40) rfl ?_); refine goesL_ (some 17) rfl rfl Try.func40 (by kernel_rfl) rfl #[.int .i64 t452] rfl (by (try simp only [List.map_toArray, List.map_cons, List.map_nil]); first | done | rfl | (simp only [List.length_drop, List.length_take]; rfl)) ?_; (with_reducible refine (spec_l04Result.calls t452 t453 t454 _ A9.out).mono ?_); rintro e w' ⟨rfl, ⟨nd, rfl⟩⟩; refine ⟨_, rfl, ?_⟩))
        go_ret2
        exact ⟨by first | rfl | (simp; done) | (simp [*]; done), by repeat (first | exact Drawn0.refl _ | apply Drawn0.step)⟩

/-! ### spec_DrawPointsOn: function 25 -/
def spec_DrawPointsOn.f (k : Nat) (l0 : List Int) : Option ((List (S37)) × Int) := (spec_l01From.f k l0).bind fun bt455 => ((spec_l04Draw.f k bt455.1 bt455.2.1 bt455.2.2).bind fun bt459 => ((spec_l04DrawDay.f bt455.1 bt459.2.1 bt459.2.2).bind fun bt464 => (some (bt459.1, bt464.1))))
theorem spec_DrawPointsOn.mono : ∀ a0 k, LeO (spec_DrawPointsOn.f k a0) (spec_DrawPointsOn.f (k + 1) a0) := by
  intro a0 k
  unfold spec_DrawPointsOn.f
  repeat' first
      | (with_reducible exact spec_l01From.mono _ _)
      | (with_reducible exact spec_l04Draw.mono _ _ _ _)
      | (with_reducible exact LeO.refl _)
      | (with_reducible exact LeO.none _)
      | (with_reducible refine LeO.ite ?_ ?_)
      | (with_reducible refine LeO.bind ?_ (fun _ => ?_))
      | exact spec_l01From.mono _ _
      | exact spec_l04Draw.mono _ _ _ _
      | exact LeO.none _
      | refine LeO.ite ?_ ?_
      | refine LeO.bind ?_ (fun _ => ?_)
set_option maxHeartbeats 8000000 in
set_option maxRecDepth 100000 in
theorem spec_DrawPointsOn.calls (k : Nat) (A0 : Option Addr) (c0 : Nat) (l0 : List Int) (r1 : List (S37)) (r2 : Int) (w : World) (hr0 : Kd.C (Kd.int .u8) w A0 l0.length l0) (hc0 : l0.length ≤ c0) (h : spec_DrawPointsOn.f k l0 = some (r1, r2)) :
    Calls Try.prog 25 #[.slice A0 l0.length c0] w fun e w' => ∃ v0_ : Value, e = .returned (.tuple #[v0_, .int .i64 r2]) ∧ Kd.R k37 37 w' w.heap.size (fun _ => True) v0_ r1 ∧ Below w.heap.size w w' := by
  have HR0 := Aside0.mk hr0
  have HC0 := Aside0.mk hc0
  clear hr0 hc0
  have HB := Aside0.mk (Below.refl w.heap.size w)
  have H : ((spec_l01From.f k l0).bind fun bt455 => ((spec_l04Draw.f k bt455.1 bt455.2.1 bt455.2.2).bind fun bt459 => ((spec_l04DrawDay.f bt455.1 bt459.2.1 bt459.2.2).bind fun bt464 => (some (bt459.1, bt464.1))))) = some (r1, r2) := h
  clear h
  replace H := Option.bind_eq_some_iff.mp H
  obtain ⟨⟨t455, t456, t457⟩, A20, H⟩ := H
  replace H : ((spec_l04Draw.f k t455 t456 t457).bind fun bt459 => ((spec_l04DrawDay.f t455 bt459.2.1 bt459.2.2).bind fun bt464 => (some (bt459.1, bt464.1)))) = some (r1, r2) := H
  have A2 := Aside0.mk A20
  clear A20
  replace H := Option.bind_eq_some_iff.mp H
  obtain ⟨⟨t459, t462, t463⟩, A30, H⟩ := H
  replace H : ((spec_l04DrawDay.f t455 t462 t463).bind fun bt464 => (some (t459, bt464.1))) = some (r1, r2) := H
  have A3 := Aside0.mk A30
  clear A30
  replace H := Option.bind_eq_some_iff.mp H
  obtain ⟨⟨t464, t465, t466⟩, A40, H⟩ := H
  replace H : (some (t459, t464)) = some (r1, r2) := H
  have A4 := Aside0.mk A40
  clear A40
  simp only [Option.some.injEq, Prod.mk.injEq] at H
  obtain ⟨rfl, rfl⟩ := H
  go_enter Try.func25, Try.ntmps25
  go_wp2_with (first | ((with_reducible refine gate_callee (f := 31) rfl ?_); refine goesL_ (some 7) rfl rfl Try.func31 (by kernel_rfl) rfl #[.slice A0 l0.length c0] rfl (by (try simp only [List.map_toArray, List.map_cons, List.map_nil]); first | done | rfl | (simp only [List.length_drop, List.length_take]; rfl)) ?_; (with_reducible refine (spec_l01From.calls k _ _ l0 t455 t456 t457 w _ ?side1 ?side2 ?side3 A2.out).mono ?_); (case side1 => repeat (first | (with_reducible first | exact HB.out | apply below_alloc | apply pw_below_drewN | apply below_drew1) | exact HB.out)); (case side2 => exact HR0.out); (case side3 => exact HC0.out); rintro e w5 ⟨g458, rfl, hi, hb, hb2⟩; refine ⟨_, rfl, ?_⟩; have n0_ := Aside0.mk (hb); have n1_ := Aside0.mk (hi); clear HB; have HB := n0_; have HI458 := n1_; clear n0_ n1_; (try clear hb); (try clear hb2); (try clear hk); (try clear hi)) | ((with_reducible refine gate_callee (f := 32) rfl ?_); refine goesL_ (some 9) rfl rfl Try.func32 (by kernel_rfl) rfl #[.pointer (some ⟨g458, 0, none⟩)] rfl (by (try simp only [List.map_toArray, List.map_cons, List.map_nil]); first | done | rfl | (simp only [List.length_drop, List.length_take]; rfl)) ?_; (with_reducible refine (spec_l04Draw.calls k g458 t455 t456 t457 t459 t462 t463 w _ ?side1 ?side2 A3.out).mono ?_); (case side1 => repeat (first | (with_reducible first | exact HI458.out | apply IsS74.alloc | apply IsS74.drewN | apply IsS74.drew | apply IsS74.set_1 | apply IsS74.set_2) | exact HI458.out)); (case side2 => repeat (first | (with_reducible first | exact HB.out | apply below_alloc | apply pw_below_drewN | apply below_drew1 | refine below_set ?_ (IsS74.ge HI458.out)) | exact HB.out)); rintro e w6 ⟨v460, rfl, ho0, hi, hb, hk⟩; refine ⟨_, rfl, ?_⟩; have n0_ := Aside0.mk (Kd.R_lower ho0 (below_size (by repeat (first | (with_reducible first | exact HB.out | apply below_alloc | apply pw_below_drewN | apply below_drew1 | refine below_set ?_ (IsS74.ge HI458.out)) | exact HB.out)))); have n1_ := Aside0.mk (hb); have n2_ := Aside0.mk (hi); clear HB; clear HI458; have HO461 := n0_; have HB := n1_; have HI458 := n2_; clear n0_ n1_ n2_; (try clear hb); (try clear hb2); (try clear hk); (try clear hi); (try clear ho0)) | ((with_reducible refine gate_callee (f := 34) rfl ?_); refine goesL_ (some 12) rfl rfl Try.func34 (by kernel_rfl) rfl #[.pointer (some ⟨g458, 0, none⟩)] rfl (by (try simp only [List.map_toArray, List.map_cons, List.map_nil]); first | done | rfl | (simp only [List.length_drop, List.length_take]; rfl)) ?_; (with_reducible refine (spec_l04DrawDay.calls g458 t455 t462 t463 t464 t465 t466 w _ ?side1 ?side2 A4.out).mono ?_); (case side1 => repeat (first | (with_reducible first | exact HI458.out | apply IsS74.alloc | apply IsS74.drewN | apply IsS74.drew | apply IsS74.set_1 | apply IsS74.set_2) | exact HI458.out)); (case side2 => repeat (first | (with_reducible first | exact HB.out | apply below_alloc | apply pw_below_drewN | apply below_drew1 | refine below_set ?_ (IsS74.ge HI458.out)) | exact HB.out)); rintro e w7 ⟨rfl, hi, hb, hk⟩; refine ⟨_, rfl, ?_⟩; have n0_ := Aside0.mk (Kd.R_mono (Kd.R_keep (IsS74.apart (show IsS74 w _ g458 t455 t462 t463 from by repeat (first | (with_reducible first | exact HI458.out | apply IsS74.alloc | apply IsS74.drewN | apply IsS74.drew | apply IsS74.set_1 | apply IsS74.set_2) | exact HI458.out)) (by (with_reducible repeat (first | apply Kd.R_alloc | apply Kd.R_drewN | apply Kd.R_drew)); exact HO461.out) (by decide)) hk (fun _ h => h.2)) (fun _ h => h.1)); have n1_ := Aside0.mk (hb); have n2_ := Aside0.mk (hi); clear HO461; clear HB; clear HI458; have HO461 := n0_; have HB := n1_; have HI458 := n2_; clear n0_ n1_ n2_; (try clear hb); (try clear hb2); (try clear hk); (try clear hi)))
  go_ret2
  exact ⟨_, by first | rfl | (simp [errW_none, errW_some] <;> rfl) | (simp [*, errW_none, errW_some] <;> rfl), by (with_reducible repeat (first | apply Kd.R_alloc | apply Kd.R_drewN | apply Kd.R_drew)); exact HO461.out, by repeat (first | (with_reducible first | exact HB.out | apply below_alloc | apply pw_below_drewN | apply below_drew1 | refine below_set ?_ (IsS74.ge HI458.out)) | exact HB.out)⟩

/-! ### impl_pointsOn: function 62 -/
def impl_pointsOn.l0 : Nat → Int → Int → List (S37) → Int → Int → Option (Int)
  | 0, _, _, _, _, _ => none
  | k + 1, x1, x5, x8, x9, x10 => if x10 < x9 then (if 0 ≤ x10 then (if x10 < (x8.length : Int) then (if ((rd_T37 x8 x10).f0) ≤ x1 then (impl_pointsOn.l0 k x1 ((rd_T37 x8 x10).f1) x8 x9 (wrap64 (x10 + 1))) else (impl_pointsOn.l0 k x1 x5 x8 x9 (wrap64 (x10 + 1)))) else (none)) else (none)) else (some x5)
def impl_pointsOn.f (k : Nat) (l0 : List (S37)) (a1 : Int) : Option (Int) := impl_pointsOn.l0 k a1 0 l0 (l0.length : Int) 0
theorem impl_pointsOn.mono_l : ∀ k, (∀ y0 y1 y2 y3 y4, LeO (impl_pointsOn.l0 k y0 y1 y2 y3 y4) (impl_pointsOn.l0 (k + 1) y0 y1 y2 y3 y4))
  | 0 => fun _ _ _ _ _ r h => by simp [impl_pointsOn.l0] at h
  | k + 1 => by
    have ih0 := impl_pointsOn.mono_l k
    · intro y0 y1 y2 y3 y4
      unfold impl_pointsOn.l0
      repeat' first
      | (with_reducible exact ih0 _ _ _ _ _)
      | (with_reducible exact LeO.refl _)
      | (with_reducible exact LeO.none _)
      | (with_reducible refine LeO.ite ?_ ?_)
      | (with_reducible refine LeO.bind ?_ (fun _ => ?_))
      | exact ih0 _ _ _ _ _
      | exact LeO.none _
      | refine LeO.ite ?_ ?_
      | refine LeO.bind ?_ (fun _ => ?_)
theorem impl_pointsOn.mono : ∀ a0 a1 k, LeO (impl_pointsOn.f k a0 a1) (impl_pointsOn.f (k + 1) a0 a1) := by
  intro a0 a1 k
  have ih0 := impl_pointsOn.mono_l k
  unfold impl_pointsOn.f
  repeat' first
      | (with_reducible exact ih0 _ _ _ _ _)
      | (with_reducible exact LeO.refl _)
      | (with_reducible exact LeO.none _)
      | (with_reducible refine LeO.ite ?_ ?_)
      | (with_reducible refine LeO.bind ?_ (fun _ => ?_))
      | exact ih0 _ _ _ _ _
      | exact LeO.none _
      | refine LeO.ite ?_ ?_
      | refine LeO.bind ?_ (fun _ => ?_)
set_option maxHeartbeats 8000000 in
set_option maxRecDepth 100000 in
theorem impl_pointsOn.calls (k : Nat) (A0 : Option Addr) (c0 : Nat) (l0 : List (S37)) (a1 : Int) (r : Int) (w : World) (hr0 : Kd.C k37 w A0 l0.length l0) (hc0 : l0.length ≤ c0) (h : impl_pointsOn.f k l0 a1 = some r) :
    Calls Try.prog 62 #[.slice A0 l0.length c0, .int .i64 a1] w fun e w' => e = .returned (.int .i64 r) ∧ Below w.heap.size w w' := by
  have hu37 := Try.underlying37
  have HR0 := Aside0.mk hr0
  have HC0 := Aside0.mk hc0
  clear hr0 hc0
  have HB := Aside0.mk (Below.refl w.heap.size w)
  have H : (impl_pointsOn.l0 k a1 0 l0 (l0.length : Int) 0) = some r := h
  clear h
  have H' := Aside0.mk H
  clear H
  go_enter Try.func62, Try.ntmps62
  go_wp2
  go_loopg [5, 10] k (fun kq v5 v10 w' => ∃ (x5_1 : Int) (x10_1 : Int), v5 = .int .i64 x5_1 ∧ v10 = .int .i64 x10_1 ∧ Aside0 (impl_pointsOn.l0 kq a1 x5_1 l0 (l0.length : Int) x10_1 = some r) ∧ Aside0 (kq ≤ k) ∧ Aside0 (Below w.heap.size w w'))
  case atStart => exact ⟨(0), (0), (by first | rfl | (simp; done) | (simp [*]; done)), (by first | rfl | (simp; done) | (simp [*]; done)), H', ⟨Nat.le_refl _⟩, ⟨by repeat (first | (with_reducible first | exact HB.out | apply below_alloc | apply pw_below_drewN | apply below_drew1) | exact HB.out)⟩⟩
  case round =>
    clear H'
    try clear p2
    obtain ⟨x5_1, x10_1, rfl, rfl, HA, HK1, HB⟩ := hrel
    cases gk with
    | zero => exact absurd HA.out (by simp [impl_pointsOn.l0])
    | succ k1 =>
      have H := HA.out
      clear HA
      simp only [impl_pointsOn.l0] at H
      by_cases c3 : x10_1 < (l0.length : Int)
      · rw [if_pos c3] at H
        have c3b0 : decide (x10_1 < (l0.length : Int)) = true := decide_eq_true c3
        clear c3
        by_cases c4 : 0 ≤ x10_1
        · rw [if_pos c4] at H
          have c4b0 : decide (0 ≤ x10_1) = true := decide_eq_true c4
          clear c4
          by_cases c5 : x10_1 < (l0.length : Int)
          · rw [if_pos c5] at H
            have c5b0 : decide (x10_1 < (l0.length : Int)) = true := decide_eq_true c5
            clear c5
            by_cases c6 : ((rd_T37 l0 x10_1).f0) ≤ a1
            · rw [if_pos c6] at H
              have c6b0 : decide (((rd_T37 l0 x10_1).f0) ≤ a1) = true := decide_eq_true c6
              clear c6
              have H' := Aside0.mk H
              clear H
              have p467 : 0 ≤ (x10_1 : Int) := of_decide_eq_true (by first | (with_reducible assumption) | assumption)
              have q467 : x10_1 < (l0.length : Int) := of_decide_eq_true (by first | (with_reducible assumption) | assumption)
              obtain ⟨ad467, e467, hx467_0, hx467_1⟩ := at_T37 HR0.out x10_1 p467 q467
              cases e467
              replace hx467_0 := (HB.out.cell (World.block_lt_of_cell? _ _ hx467_0)).trans hx467_0
              replace hx467_1 := (HB.out.cell (World.block_lt_of_cell? _ _ hx467_1)).trans hx467_1
              replace p467 := eq_true p467
              replace q467 := eq_true q467
              go_wp2_with (first | ((with_reducible refine gate_dst (N := 7) rfl ?_); refine box_event ?hg (N := 7) ?hd (cs := #[.int .i64 0, .int .i64 0]) (t := 37) ?hr ?_; (case hd => rfl); (case hg => rfl); (case hr => first | (go_simp; done) | (go_simp; rfl)); intro gb468 hg w7 hbox hb; have n0_ := Aside0.mk (below_step (by repeat (first | (with_reducible first | exact HB.out | apply below_alloc | apply pw_below_drewN | apply below_drew1) | exact HB.out)) hb); have n1_ := Aside0.mk (hbox); have n2_ := Aside0.mk ((by rw [hg]; exact (below_size (by repeat (first | (with_reducible first | exact HB.out | apply below_alloc | apply pw_below_drewN | apply below_drew1) | exact HB.out))) : w.heap.size ≤ gb468)); have n3_ := Aside0.mk ((by rw [hg]; exact (below_size (by repeat (first | (with_reducible first | exact HB.out | apply below_alloc | apply pw_below_drewN | apply below_drew1) | exact HB.out))) : w.heap.size ≤ gb468)); clear HB; have HB := n0_; have BK468 := n1_; have GW468 := n2_; have GE468 := n3_; clear n0_ n1_ n2_ n3_; clear hb hbox hg; have hcz8_0 : w7.cell? ⟨gb468, 0, none⟩ = some (.int .i64 0) := (blk_cell BK468.out 0).trans rfl; have hcz8_1 : w7.cell? ⟨gb468, 1, none⟩ = some (.int .i64 0) := (blk_cell BK468.out 1).trans rfl; have hfz8_0 := blk_frozen BK468.out 0; have hfz8_1 := blk_frozen BK468.out 1))
              go_roundg k1
              case measure => have := HK1.out; omega
              case rel => exact ⟨((rd_T37 l0 x10_1).f1), (wrap64 (x10_1 + 1)), (by first | rfl | (simp; done) | (simp [*]; done)), (by first | rfl | (simp; done) | (simp [*]; done)), H', ⟨by have := HK1.out; omega⟩, ⟨by repeat (first | (with_reducible first | exact HB.out | apply below_alloc | apply pw_below_drewN | apply below_drew1 | refine below_set ?_ GE468.out) | exact HB.out)⟩⟩
            · rw [if_neg c6] at H
              have c6b0 : decide (((rd_T37 l0 x10_1).f0) ≤ a1) = false := decide_eq_false c6
              clear c6
              have H' := Aside0.mk H
              clear H
              have p467 : 0 ≤ (x10_1 : Int) := of_decide_eq_true (by first | (with_reducible assumption) | assumption)
              have q467 : x10_1 < (l0.length : Int) := of_decide_eq_true (by first | (with_reducible assumption) | assumption)
              obtain ⟨ad467, e467, hx467_0, hx467_1⟩ := at_T37 HR0.out x10_1 p467 q467
              cases e467
              replace hx467_0 := (HB.out.cell (World.block_lt_of_cell? _ _ hx467_0)).trans hx467_0
              replace hx467_1 := (HB.out.cell (World.block_lt_of_cell? _ _ hx467_1)).trans hx467_1
              replace p467 := eq_true p467
              replace q467 := eq_true q467
              go_wp2_with (first | ((with_reducible refine gate_dst (N := 7) rfl ?_); refine box_event ?hg (N := 7) ?hd (cs := #[.int .i64 0, .int .i64 0]) (t := 37) ?hr ?_; (case hd => rfl); (case hg => rfl); (case hr => first | (go_simp; done) | (go_simp; rfl)); intro gb468 hg w9 hbox hb; have n0_ := Aside0.mk (below_step (by repeat (first | (with_reducible first | exact HB.out | apply below_alloc | apply pw_below_drewN | apply below_drew1) | exact HB.out)) hb); have n1_ := Aside0.mk (hbox); have n2_ := Aside0.mk ((by rw [hg]; exact (below_size (by repeat (first | (with_reducible first | exact HB.out | apply below_alloc | apply pw_below_drewN | apply below_drew1) | exact HB.out))) : w.heap.size ≤ gb468)); have n3_ := Aside0.mk ((by rw [hg]; exact (below_size (by repeat (first | (with_reducible first | exact HB.out | apply below_alloc | apply pw_below_drewN | apply below_drew1) | exact HB.out))) : w.heap.size ≤ gb468)); clear HB; have HB := n0_; have BK468 := n1_; have GW468 := n2_; have GE468 := n3_; clear n0_ n1_ n2_ n3_; clear hb hbox hg; have hcz10_0 : w9.cell? ⟨gb468, 0, none⟩ = some (.int .i64 0) := (blk_cell BK468.out 0).trans rfl; have hcz10_1 : w9.cell? ⟨gb468, 1, none⟩ = some (.int .i64 0) := (blk_cell BK468.out 1).trans rfl; have hfz10_0 := blk_frozen BK468.out 0; have hfz10_1 := blk_frozen BK468.out 1))
              go_roundg k1
              case measure => have := HK1.out; omega
              case rel => exact ⟨(x5_1), (wrap64 (x10_1 + 1)), (by first | rfl | (simp; done) | (simp [*]; done)), (by first | rfl | (simp; done) | (simp [*]; done)), H', ⟨by have := HK1.out; omega⟩, ⟨by repeat (first | (with_reducible first | exact HB.out | apply below_alloc | apply pw_below_drewN | apply below_drew1 | refine below_set ?_ GE468.out) | exact HB.out)⟩⟩
          · rw [if_neg c5] at H
            exact absurd H (by simp)
        · rw [if_neg c4] at H
          exact absurd H (by simp)
      · rw [if_neg c3] at H
        have c3b0 : decide (x10_1 < (l0.length : Int)) = false := decide_eq_false c3
        clear c3
        obtain rfl := Option.some.inj H
        go_wp2
        go_ret
        exact ⟨by first | rfl | (simp [errW_none, errW_some] <;> rfl) | (simp [*, errW_none, errW_some] <;> rfl), by repeat (first | (with_reducible first | exact HB.out | apply below_alloc | apply pw_below_drewN | apply below_drew1) | exact HB.out)⟩

/-! ### impl_PointsOn: function 26 -/
def impl_PointsOn.f (k : Nat) (l0 : List (S37)) (a1 : Int) : Option (Int × Int) := (impl_scheduled.f k l0 0 (([a1] : List Int))).bind fun t472 => (if t472 = 0 then ((impl_pointsOn.f k l0 a1).bind fun t473 => (some (t473, 0))) else (some (0, t472)))
theorem impl_PointsOn.mono : ∀ a0 a1 k, LeO (impl_PointsOn.f k a0 a1) (impl_PointsOn.f (k + 1) a0 a1) := by
  intro a0 a1 k
  unfold impl_PointsOn.f
  repeat' first
      | (with_reducible exact impl_pointsOn.mono _ _ _)
      | (with_reducible exact impl_scheduled.mono _ _ _ _)
      | (with_reducible exact LeO.refl _)
      | (with_reducible exact LeO.none _)
      | (with_reducible refine LeO.ite ?_ ?_)
      | (with_reducible refine LeO.bind ?_ (fun _ => ?_))
      | exact impl_pointsOn.mono _ _ _
      | exact impl_scheduled.mono _ _ _ _
      | exact LeO.none _
      | refine LeO.ite ?_ ?_
      | refine LeO.bind ?_ (fun _ => ?_)
set_option maxHeartbeats 8000000 in
set_option maxRecDepth 100000 in
theorem impl_PointsOn.calls (k : Nat) (A0 : Option Addr) (c0 : Nat) (l0 : List (S37)) (a1 : Int) (r1 : Int) (r2 : Int) (w : World) (hr0 : Kd.C k37 w A0 l0.length l0) (hc0 : l0.length ≤ c0) (h : impl_PointsOn.f k l0 a1 = some (r1, r2)) :
    Calls Try.prog 26 #[.slice A0 l0.length c0, .int .i64 a1] w fun e w' => e = .returned (.tuple #[.int .i64 r1, .int .i64 r2]) ∧ Below w.heap.size w w' := by
  have HR0 := Aside0.mk hr0
  have HC0 := Aside0.mk hc0
  clear hr0 hc0
  have HB := Aside0.mk (Below.refl w.heap.size w)
  have H : ((impl_scheduled.f k l0 0 (([a1] : List Int))).bind fun t472 => (if t472 = 0 then ((impl_pointsOn.f k l0 a1).bind fun t473 => (some (t473, 0))) else (some (0, t472)))) = some (r1, r2) := h
  clear h
  obtain ⟨y469, hy469⟩ : ∃ y_ : List Int, y_ = (([a1] : List Int)) := ⟨_, rfl⟩
  replace H : ((impl_scheduled.f k l0 0 y469).bind fun t472 => (if t472 = 0 then ((impl_pointsOn.f k l0 a1).bind fun t473 => (some (t473, 0))) else (some (0, t472)))) = some (r1, r2) := by first | (rw [hy469]; with_reducible exact H) | (have H2_ := (Option.bind_some _ _).symm.trans H; rw [hy469]; with_reducible exact H2_) | (have H2_ := (Option.bind_some _ _).symm.trans H; with_reducible exact H2_) | with_reducible exact H | (rw [hy469]; exact H) | exact H
  have Ny469 := Aside0.mk hy469
  clear hy469
  replace H := Option.bind_eq_some_iff.mp H
  obtain ⟨t472, A30, H⟩ := H
  replace H : (if t472 = 0 then ((impl_pointsOn.f k l0 a1).bind fun t473 => (some (t473, 0))) else (some (0, t472))) = some (r1, r2) := H
  have A3 := Aside0.mk A30
  clear A30
  by_cases c4 : t472 = 0
  · rw [if_pos c4] at H
    have c4b0 : (t472 == 0) = true := beq_iff_eq.mpr c4
    have c4b1 : (t472 != 0) = false := bne_eq_false_iff_eq.mpr c4
    clear c4
    replace H := Option.bind_eq_some_iff.mp H
    obtain ⟨t473, A50, H⟩ := H
    replace H : (some (t473, 0)) = some (r1, r2) := H
    have A5 := Aside0.mk A50
    clear A50
    simp only [Option.some.injEq, Prod.mk.injEq] at H
    obtain ⟨rfl, rfl⟩ := H
    go_enter Try.func26, Try.ntmps26
    go_wp2_with (first | ((with_reducible refine gate_dst (N := 9) rfl ?_); refine Kd.R_lit (Kd.int .i64) _ 2 ?hg (N := 9) ?hd (xs := ([a1] : List Int)) (inner := [.int .i64 a1]) (ok := fun _ => True) (okp := fun _ => True) ?hr ?hp (fun _ hk => hk) trivial (Below.refl _ _) (Nat.le_refl _) (by simp) ?_; (case hd => rfl); (case hg => rfl); (case hr => first | (go_simp; done) | (go_simp; rfl)); (case hp => exact (Reps.one (show Kd.M (Kd.int .i64) _ _ _ a1 [.int .i64 a1] from rfl) (Reps.none _ _))); intro v470 w6 ho7 hb hg_ hnew_; clear hg_ hnew_; (first | rw [← Ny469.out] at ho7 | (simp only [Int.reduceToNat] at ho7; rw [← Ny469.out] at ho7)); have n0_ := Aside0.mk (Kd.R_lower ho7 (below_size (by repeat (first | (with_reducible first | exact HB.out | apply below_alloc | apply pw_below_drewN | apply below_drew1) | exact HB.out)))); have n1_ := Aside0.mk (below_step (by repeat (first | (with_reducible first | exact HB.out | apply below_alloc | apply pw_below_drewN | apply below_drew1) | exact HB.out)) hb); clear HB; have HO471 := n0_; have HB := n1_; clear n0_ n1_; clear hb ho7; obtain ⟨Ao8, co8, eo8⟩ := Kd.R_slice HO471.out; subst eo8) | ((with_reducible refine gate_callee (f := 35) rfl ?_); refine goesL_ (some 10) rfl rfl Try.func35 (by kernel_rfl) rfl #[.slice A0 l0.length c0, .int .i64 0, .slice Ao8 y469.length co8] rfl (by (try simp only [List.map_toArray, List.map_cons, List.map_nil]); first | done | rfl | (simp only [List.length_drop, List.length_take]; rfl)) ?_; (with_reducible refine (impl_scheduled.calls k _ _ l0 0 _ _ y469 t472 _ ?side1 ?side2 ?side3 ?side4 A3.out).mono ?_); (case side1 => repeat (first | exact (Kd.C_below HR0.out HB.out) | (with_reducible refine Kd.C_alloc ?_ _) | (with_reducible refine Kd.C_drewN ?_ _) | (with_reducible refine Kd.C_drew ?_))); (case side2 => exact HC0.out); (case side3 => repeat (first | exact (Kd.R_reads' HO471.out).2.2 | (with_reducible refine Kd.C_alloc ?_ _) | (with_reducible refine Kd.C_drewN ?_ _) | (with_reducible refine Kd.C_drew ?_))); (case side4 => exact (Kd.R_reads' HO471.out).2.1); rintro e w9 ⟨rfl, hb⟩; refine ⟨_, rfl, ?_⟩; have n0_ := Aside0.mk (Kd.R_below (by (with_reducible repeat (first | apply Kd.R_alloc | apply Kd.R_drewN | apply Kd.R_drew)); exact HO471.out) hb); have n1_ := Aside0.mk (below_step (by repeat (first | (with_reducible first | exact HB.out | apply below_alloc | apply pw_below_drewN | apply below_drew1) | exact HB.out)) hb); clear HO471; clear HB; have HO471 := n0_; have HB := n1_; clear n0_ n1_; (try clear hb); (try clear hb2); (try clear hk); (try clear hi)) | ((with_reducible refine gate_callee (f := 62) rfl ?_); refine goesL_ (some 16) rfl rfl Try.func62 (by kernel_rfl) rfl #[.slice A0 l0.length c0, .int .i64 a1] rfl (by (try simp only [List.map_toArray, List.map_cons, List.map_nil]); first | done | rfl | (simp only [List.length_drop, List.length_take]; rfl)) ?_; (with_reducible refine (impl_pointsOn.calls k _ _ l0 a1 t473 _ ?side1 ?side2 A5.out).mono ?_); (case side1 => repeat (first | exact (Kd.C_below HR0.out HB.out) | (with_reducible refine Kd.C_alloc ?_ _) | (with_reducible refine Kd.C_drewN ?_ _) | (with_reducible refine Kd.C_drew ?_))); (case side2 => exact HC0.out); rintro e w10 ⟨rfl, hb⟩; refine ⟨_, rfl, ?_⟩; have n0_ := Aside0.mk (Kd.R_below (by (with_reducible repeat (first | apply Kd.R_alloc | apply Kd.R_drewN | apply Kd.R_drew)); exact HO471.out) hb); have n1_ := Aside0.mk (below_step (by repeat (first | (with_reducible first | exact HB.out | apply below_alloc | apply pw_below_drewN | apply below_drew1) | exact HB.out)) hb); clear HO471; clear HB; have HO471 := n0_; have HB := n1_; clear n0_ n1_; (try clear hb); (try clear hb2); (try clear hk); (try clear hi)))
    go_ret2
    exact ⟨by first | rfl | (simp [errW_none, errW_some] <;> rfl) | (simp [*, errW_none, errW_some] <;> rfl), by repeat (first | (with_reducible first | exact HB.out | apply below_alloc | apply pw_below_drewN | apply below_drew1) | exact HB.out)⟩
  · rw [if_neg c4] at H
    have c4b0 : (t472 == 0) = false := beq_eq_false_iff_ne.mpr c4
    have c4b1 : (t472 != 0) = true := bne_iff_ne.mpr c4
    simp only [Option.some.injEq, Prod.mk.injEq] at H
    obtain ⟨rfl, rfl⟩ := H
    go_enter Try.func26, Try.ntmps26
    go_wp2_with (first | ((with_reducible refine gate_dst (N := 9) rfl ?_); refine Kd.R_lit (Kd.int .i64) _ 2 ?hg (N := 9) ?hd (xs := ([a1] : List Int)) (inner := [.int .i64 a1]) (ok := fun _ => True) (okp := fun _ => True) ?hr ?hp (fun _ hk => hk) trivial (Below.refl _ _) (Nat.le_refl _) (by simp) ?_; (case hd => rfl); (case hg => rfl); (case hr => first | (go_simp; done) | (go_simp; rfl)); (case hp => exact (Reps.one (show Kd.M (Kd.int .i64) _ _ _ a1 [.int .i64 a1] from rfl) (Reps.none _ _))); intro v470 w11 ho12 hb hg_ hnew_; clear hg_ hnew_; (first | rw [← Ny469.out] at ho12 | (simp only [Int.reduceToNat] at ho12; rw [← Ny469.out] at ho12)); have n0_ := Aside0.mk (Kd.R_lower ho12 (below_size (by repeat (first | (with_reducible first | exact HB.out | apply below_alloc | apply pw_below_drewN | apply below_drew1) | exact HB.out)))); have n1_ := Aside0.mk (below_step (by repeat (first | (with_reducible first | exact HB.out | apply below_alloc | apply pw_below_drewN | apply below_drew1) | exact HB.out)) hb); clear HB; have HO471 := n0_; have HB := n1_; clear n0_ n1_; clear hb ho12; obtain ⟨Ao13, co13, eo13⟩ := Kd.R_slice HO471.out; subst eo13) | ((with_reducible refine gate_callee (f := 35) rfl ?_); refine goesL_ (some 10) rfl rfl Try.func35 (by kernel_rfl) rfl #[.slice A0 l0.length c0, .int .i64 0, .slice Ao13 y469.length co13] rfl (by (try simp only [List.map_toArray, List.map_cons, List.map_nil]); first | done | rfl | (simp only [List.length_drop, List.length_take]; rfl)) ?_; (with_reducible refine (impl_scheduled.calls k _ _ l0 0 _ _ y469 t472 _ ?side1 ?side2 ?side3 ?side4 A3.out).mono ?_); (case side1 => repeat (first | exact (Kd.C_below HR0.out HB.out) | (with_reducible refine Kd.C_alloc ?_ _) | (with_reducible refine Kd.C_drewN ?_ _) | (with_reducible refine Kd.C_drew ?_))); (case side2 => exact HC0.out); (case side3 => repeat (first | exact (Kd.R_reads' HO471.out).2.2 | (with_reducible refine Kd.C_alloc ?_ _) | (with_reducible refine Kd.C_drewN ?_ _) | (with_reducible refine Kd.C_drew ?_))); (case side4 => exact (Kd.R_reads' HO471.out).2.1); rintro e w14 ⟨rfl, hb⟩; refine ⟨_, rfl, ?_⟩; have n0_ := Aside0.mk (Kd.R_below (by (with_reducible repeat (first | apply Kd.R_alloc | apply Kd.R_drewN | apply Kd.R_drew)); exact HO471.out) hb); have n1_ := Aside0.mk (below_step (by repeat (first | (with_reducible first | exact HB.out | apply below_alloc | apply pw_below_drewN | apply below_drew1) | exact HB.out)) hb); clear HO471; clear HB; have HO471 := n0_; have HB := n1_; clear n0_ n1_; (try clear hb); (try clear hb2); (try clear hk); (try clear hi)))
    go_ret2
    exact ⟨by first | rfl | (simp [errW_none, errW_some] <;> rfl) | (simp [*, errW_none, errW_some] <;> rfl), by repeat (first | (with_reducible first | exact HB.out | apply below_alloc | apply pw_below_drewN | apply below_drew1) | exact HB.out)⟩

/-! ### spec_l04On: function 63 -/
def spec_l04On.l0 : Nat → List (S37) → Int → Int → Int → Option (Int)
  | 0, _, _, _, _ => none
  | k + 1, x0, x1, x5, x6 => if x6 < (x0.length : Int) then (if 0 ≤ x6 then (if ((rd_T37 x0 x6).f0) ≤ x1 then (spec_l04On.l0 k x0 x1 ((rd_T37 x0 x6).f1) (wrap64 (x6 + 1))) else (spec_l04On.l0 k x0 x1 x5 (wrap64 (x6 + 1)))) else (none)) else (some x5)
def spec_l04On.f (k : Nat) (l0 : List (S37)) (a1 : Int) : Option (Int) := spec_l04On.l0 k l0 a1 0 0
theorem spec_l04On.mono_l : ∀ k, (∀ y0 y1 y2 y3, LeO (spec_l04On.l0 k y0 y1 y2 y3) (spec_l04On.l0 (k + 1) y0 y1 y2 y3))
  | 0 => fun _ _ _ _ r h => by simp [spec_l04On.l0] at h
  | k + 1 => by
    have ih0 := spec_l04On.mono_l k
    · intro y0 y1 y2 y3
      unfold spec_l04On.l0
      repeat' first
      | (with_reducible exact ih0 _ _ _ _)
      | (with_reducible exact LeO.refl _)
      | (with_reducible exact LeO.none _)
      | (with_reducible refine LeO.ite ?_ ?_)
      | (with_reducible refine LeO.bind ?_ (fun _ => ?_))
      | exact ih0 _ _ _ _
      | exact LeO.none _
      | refine LeO.ite ?_ ?_
      | refine LeO.bind ?_ (fun _ => ?_)
theorem spec_l04On.mono : ∀ a0 a1 k, LeO (spec_l04On.f k a0 a1) (spec_l04On.f (k + 1) a0 a1) := by
  intro a0 a1 k
  have ih0 := spec_l04On.mono_l k
  unfold spec_l04On.f
  repeat' first
      | (with_reducible exact ih0 _ _ _ _)
      | (with_reducible exact LeO.refl _)
      | (with_reducible exact LeO.none _)
      | (with_reducible refine LeO.ite ?_ ?_)
      | (with_reducible refine LeO.bind ?_ (fun _ => ?_))
      | exact ih0 _ _ _ _
      | exact LeO.none _
      | refine LeO.ite ?_ ?_
      | refine LeO.bind ?_ (fun _ => ?_)
set_option maxHeartbeats 8000000 in
set_option maxRecDepth 100000 in
theorem spec_l04On.calls (k : Nat) (A0 : Option Addr) (c0 : Nat) (l0 : List (S37)) (a1 : Int) (r : Int) (w : World) (hr0 : Kd.C k37 w A0 l0.length l0) (hc0 : l0.length ≤ c0) (h : spec_l04On.f k l0 a1 = some r) :
    Calls Try.prog 63 #[.slice A0 l0.length c0, .int .i64 a1] w fun e w' => e = .returned (.int .i64 r) ∧ Drawn0 w w' := by
  have HR0 := Aside0.mk hr0
  have HC0 := Aside0.mk hc0
  clear hr0 hc0
  have H : (spec_l04On.l0 k l0 a1 0 0) = some r := h
  clear h
  have H' := Aside0.mk H
  clear H
  go_enter Try.func63, Try.ntmps63
  go_wp2
  go_loopg [5, 6] k (fun kq v5 v6 w' => ∃ (x5_1 : Int) (x6_1 : Int), v5 = .int .i64 x5_1 ∧ v6 = .int .i64 x6_1 ∧ Aside0 (spec_l04On.l0 kq l0 a1 x5_1 x6_1 = some r) ∧ Aside0 (kq ≤ k) ∧ Drawn0 w w')
  case atStart => exact ⟨(0), (0), (by first | rfl | (simp; done) | (simp [*]; done)), (by first | rfl | (simp; done) | (simp [*]; done)), H', ⟨Nat.le_refl _⟩, by repeat (first | exact Drawn0.refl _ | apply Drawn0.step)⟩
  case round =>
    clear H'
    try clear p2
    obtain ⟨x5_1, x6_1, rfl, rfl, HA, HK1, ⟨m1, rfl⟩⟩ := hrel
    cases gk with
    | zero => exact absurd HA.out (by simp [spec_l04On.l0])
    | succ k1 =>
      have H := HA.out
      clear HA
      simp only [spec_l04On.l0] at H
      by_cases c3 : x6_1 < (l0.length : Int)
      · rw [if_pos c3] at H
        have c3b0 : decide (x6_1 < (l0.length : Int)) = true := decide_eq_true c3
        clear c3
        by_cases c4 : 0 ≤ x6_1
        · rw [if_pos c4] at H
          have c4b0 : decide (0 ≤ x6_1) = true := decide_eq_true c4
          clear c4
          by_cases c5 : ((rd_T37 l0 x6_1).f0) ≤ a1
          · rw [if_pos c5] at H
            have c5b0 : decide (((rd_T37 l0 x6_1).f0) ≤ a1) = true := decide_eq_true c5
            clear c5
            have H' := Aside0.mk H
            clear H
            have p474 : 0 ≤ (x6_1 : Int) := of_decide_eq_true (by first | (with_reducible assumption) | assumption)
            have q474 : x6_1 < (l0.length : Int) := of_decide_eq_true (by first | (with_reducible assumption) | assumption)
            obtain ⟨ad474, e474, hx474_0, hx474_1⟩ := at_T37 HR0.out x6_1 p474 q474
            cases e474
            replace p474 := eq_true p474
            replace q474 := eq_true q474
            have p475 : 0 ≤ (x6_1 : Int) := of_decide_eq_true (by first | (with_reducible assumption) | assumption)
            have q475 : x6_1 < (l0.length : Int) := of_decide_eq_true (by first | (with_reducible assumption) | assumption)
            obtain ⟨ad475, e475, hx475_0, hx475_1⟩ := at_T37 HR0.out x6_1 p475 q475
            obtain rfl : ad474 = ad475 := (by injection e475)
            replace p475 := eq_true p475
            replace q475 := eq_true q475
            go_wp2
            go_roundg k1
            case measure => have := HK1.out; omega
            case rel => exact ⟨((rd_T37 l0 x6_1).f1), (wrap64 (x6_1 + 1)), (by first | rfl | (simp; done) | (simp [*]; done)), (by first | rfl | (simp; done) | (simp [*]; done)), H', ⟨by have := HK1.out; omega⟩, by repeat (first | exact Drawn0.refl _ | apply Drawn0.step)⟩
          · rw [if_neg c5] at H
            have c5b0 : decide (((rd_T37 l0 x6_1).f0) ≤ a1) = false := decide_eq_false c5
            clear c5
            have H' := Aside0.mk H
            clear H
            have p474 : 0 ≤ (x6_1 : Int) := of_decide_eq_true (by first | (with_reducible assumption) | assumption)
            have q474 : x6_1 < (l0.length : Int) := of_decide_eq_true (by first | (with_reducible assumption) | assumption)
            obtain ⟨ad474, e474, hx474_0, hx474_1⟩ := at_T37 HR0.out x6_1 p474 q474
            cases e474
            replace p474 := eq_true p474
            replace q474 := eq_true q474
            go_wp2
            go_roundg k1
            case measure => have := HK1.out; omega
            case rel => exact ⟨(x5_1), (wrap64 (x6_1 + 1)), (by first | rfl | (simp; done) | (simp [*]; done)), (by first | rfl | (simp; done) | (simp [*]; done)), H', ⟨by have := HK1.out; omega⟩, by repeat (first | exact Drawn0.refl _ | apply Drawn0.step)⟩
        · rw [if_neg c4] at H
          exact absurd H (by simp)
      · rw [if_neg c3] at H
        have c3b0 : decide (x6_1 < (l0.length : Int)) = false := decide_eq_false c3
        clear c3
        obtain rfl := Option.some.inj H
        go_wp2
        go_ret
        exact ⟨by first | rfl | (simp; done) | (simp [*]; done), by repeat (first | exact Drawn0.refl _ | apply Drawn0.step)⟩

/-! ### spec_PointsOn: function 27 -/
def spec_PointsOn.f (k : Nat) (l0 : List (S37)) (a1 : Int) : Option (Int × Int) := (spec_l04Code.f k l0 0 a1 a1).bind fun t476 => (if t476 = 0 then ((spec_l04On.f k l0 a1).bind fun t477 => (some (t477, 0))) else (some (0, t476)))
theorem spec_PointsOn.mono : ∀ a0 a1 k, LeO (spec_PointsOn.f k a0 a1) (spec_PointsOn.f (k + 1) a0 a1) := by
  intro a0 a1 k
  unfold spec_PointsOn.f
  repeat' first
      | (with_reducible exact spec_l04Code.mono _ _ _ _ _)
      | (with_reducible exact spec_l04On.mono _ _ _)
      | (with_reducible exact LeO.refl _)
      | (with_reducible exact LeO.none _)
      | (with_reducible refine LeO.ite ?_ ?_)
      | (with_reducible refine LeO.bind ?_ (fun _ => ?_))
      | exact spec_l04Code.mono _ _ _ _ _
      | exact spec_l04On.mono _ _ _
      | exact LeO.none _
      | refine LeO.ite ?_ ?_
      | refine LeO.bind ?_ (fun _ => ?_)
set_option maxHeartbeats 8000000 in
set_option maxRecDepth 100000 in
theorem spec_PointsOn.calls (k : Nat) (A0 : Option Addr) (c0 : Nat) (l0 : List (S37)) (a1 : Int) (r1 : Int) (r2 : Int) (w : World) (hr0 : Kd.C k37 w A0 l0.length l0) (hc0 : l0.length ≤ c0) (h : spec_PointsOn.f k l0 a1 = some (r1, r2)) :
    Calls Try.prog 27 #[.slice A0 l0.length c0, .int .i64 a1] w fun e w' => e = .returned (.tuple #[.int .i64 r1, .int .i64 r2]) ∧ Below w.heap.size w w' := by
  have HR0 := Aside0.mk hr0
  have HC0 := Aside0.mk hc0
  clear hr0 hc0
  have HB := Aside0.mk (Below.refl w.heap.size w)
  have H : ((spec_l04Code.f k l0 0 a1 a1).bind fun t476 => (if t476 = 0 then ((spec_l04On.f k l0 a1).bind fun t477 => (some (t477, 0))) else (some (0, t476)))) = some (r1, r2) := h
  clear h
  replace H := Option.bind_eq_some_iff.mp H
  obtain ⟨t476, A30, H⟩ := H
  replace H : (if t476 = 0 then ((spec_l04On.f k l0 a1).bind fun t477 => (some (t477, 0))) else (some (0, t476))) = some (r1, r2) := H
  have A3 := Aside0.mk A30
  clear A30
  by_cases c4 : t476 = 0
  · rw [if_pos c4] at H
    have c4b0 : (t476 == 0) = true := beq_iff_eq.mpr c4
    have c4b1 : (t476 != 0) = false := bne_eq_false_iff_eq.mpr c4
    clear c4
    replace H := Option.bind_eq_some_iff.mp H
    obtain ⟨t477, A50, H⟩ := H
    replace H : (some (t477, 0)) = some (r1, r2) := H
    have A5 := Aside0.mk A50
    clear A50
    simp only [Option.some.injEq, Prod.mk.injEq] at H
    obtain ⟨rfl, rfl⟩ := H
    go_enter Try.func27, Try.ntmps27
    go_wp2_with (first | ((with_reducible refine gate_callee (f := 39) rfl ?_); refine goesL_ (some 10) rfl rfl Try.func39 (by kernel_rfl) rfl #[.slice A0 l0.length c0, .int .i64 0, .int .i64 a1, .int .i64 a1] rfl (by (try simp only [List.map_toArray, List.map_cons, List.map_nil]); first | done | rfl | (simp only [List.length_drop, List.length_take]; rfl)) ?_; (with_reducible refine (spec_l04Code.calls k _ _ l0 0 a1 a1 t476 _ ?side1 ?side2 A3.out).mono ?_); (case side1 => repeat (first | exact HR0.out | (with_reducible refine Kd.C_alloc ?_ _) | (with_reducible refine Kd.C_drewN ?_ _) | (with_reducible refine Kd.C_drew ?_))); (case side2 => exact HC0.out); rintro e w6 ⟨rfl, hb⟩; refine ⟨_, rfl, ?_⟩; have n0_ := Aside0.mk (below_step (by repeat (first | (with_reducible first | exact HB.out | apply below_alloc | apply pw_below_drewN | apply below_drew1) | exact HB.out)) hb); clear HB; have HB := n0_; clear n0_; (try clear hb); (try clear hb2); (try clear hk); (try clear hi)) | ((with_reducible refine gate_callee (f := 63) rfl ?_); refine goesL_ (some 16) rfl rfl Try.func63 (by kernel_rfl) rfl #[.slice A0 l0.length c0, .int .i64 a1] rfl (by (try simp only [List.map_toArray, List.map_cons, List.map_nil]); first | done | rfl | (simp only [List.length_drop, List.length_take]; rfl)) ?_; (with_reducible refine (spec_l04On.calls k _ _ l0 a1 t477 _ ?side1 ?side2 A5.out).mono ?_); (case side1 => repeat (first | exact (Kd.C_below HR0.out HB.out) | (with_reducible refine Kd.C_alloc ?_ _) | (with_reducible refine Kd.C_drewN ?_ _) | (with_reducible refine Kd.C_drew ?_))); (case side2 => exact HC0.out); rintro e w' ⟨rfl, ⟨nd, rfl⟩⟩; refine ⟨_, rfl, ?_⟩))
    go_ret2
    exact ⟨by first | rfl | (simp [errW_none, errW_some] <;> rfl) | (simp [*, errW_none, errW_some] <;> rfl), by repeat (first | (with_reducible first | exact HB.out | apply below_alloc | apply pw_below_drewN | apply below_drew1) | exact HB.out)⟩
  · rw [if_neg c4] at H
    have c4b0 : (t476 == 0) = false := beq_eq_false_iff_ne.mpr c4
    have c4b1 : (t476 != 0) = true := bne_iff_ne.mpr c4
    simp only [Option.some.injEq, Prod.mk.injEq] at H
    obtain ⟨rfl, rfl⟩ := H
    go_enter Try.func27, Try.ntmps27
    go_wp2_with (first | ((with_reducible refine gate_callee (f := 39) rfl ?_); refine goesL_ (some 10) rfl rfl Try.func39 (by kernel_rfl) rfl #[.slice A0 l0.length c0, .int .i64 0, .int .i64 a1, .int .i64 a1] rfl (by (try simp only [List.map_toArray, List.map_cons, List.map_nil]); first | done | rfl | (simp only [List.length_drop, List.length_take]; rfl)) ?_; (with_reducible refine (spec_l04Code.calls k _ _ l0 0 a1 a1 t476 _ ?side1 ?side2 A3.out).mono ?_); (case side1 => repeat (first | exact HR0.out | (with_reducible refine Kd.C_alloc ?_ _) | (with_reducible refine Kd.C_drewN ?_ _) | (with_reducible refine Kd.C_drew ?_))); (case side2 => exact HC0.out); rintro e w7 ⟨rfl, hb⟩; refine ⟨_, rfl, ?_⟩; have n0_ := Aside0.mk (below_step (by repeat (first | (with_reducible first | exact HB.out | apply below_alloc | apply pw_below_drewN | apply below_drew1) | exact HB.out)) hb); clear HB; have HB := n0_; clear n0_; (try clear hb); (try clear hb2); (try clear hk); (try clear hi)))
    go_ret2
    exact ⟨by first | rfl | (simp [errW_none, errW_some] <;> rfl) | (simp [*, errW_none, errW_some] <;> rfl), by repeat (first | (with_reducible first | exact HB.out | apply below_alloc | apply pw_below_drewN | apply below_drew1) | exact HB.out)⟩

/-! ### spec_DrawTotalDue: function 28 -/
def spec_DrawTotalDue.f (k : Nat) (l0 : List Int) : Option ((List (S37)) × Int × Int × Int × Int) := (spec_l01From.f k l0).bind fun bt478 => ((spec_DrawInterestBetween.f k l0).bind fun bt482 => ((spec_l04DrawPoints.f bt478.1 bt478.2.1 bt478.2.2).bind fun bt488 => (some (bt482.1, bt482.2.1, bt488.1, bt482.2.2.1, bt482.2.2.2))))
theorem spec_DrawTotalDue.mono : ∀ a0 k, LeO (spec_DrawTotalDue.f k a0) (spec_DrawTotalDue.f (k + 1) a0) := by
  intro a0 k
  unfold spec_DrawTotalDue.f
  repeat' first
      | (with_reducible exact spec_DrawInterestBetween.mono _ _)
      | (with_reducible exact spec_l01From.mono _ _)
      | (with_reducible exact LeO.refl _)
      | (with_reducible exact LeO.none _)
      | (with_reducible refine LeO.ite ?_ ?_)
      | (with_reducible refine LeO.bind ?_ (fun _ => ?_))
      | exact spec_DrawInterestBetween.mono _ _
      | exact spec_l01From.mono _ _
      | exact LeO.none _
      | refine LeO.ite ?_ ?_
      | refine LeO.bind ?_ (fun _ => ?_)
set_option maxHeartbeats 8000000 in
set_option maxRecDepth 100000 in
theorem spec_DrawTotalDue.calls (k : Nat) (A0 : Option Addr) (c0 : Nat) (l0 : List Int) (r1 : List (S37)) (r2 : Int) (r3 : Int) (r4 : Int) (r5 : Int) (w : World) (hr0 : Kd.C (Kd.int .u8) w A0 l0.length l0) (hc0 : l0.length ≤ c0) (h : spec_DrawTotalDue.f k l0 = some (r1, r2, r3, r4, r5)) :
    Calls Try.prog 28 #[.slice A0 l0.length c0] w fun e w' => ∃ v0_ : Value, e = .returned (.tuple #[v0_, .int .i64 r2, .int .i64 r3, .int .i64 r4, .int .i64 r5]) ∧ Kd.R k37 37 w' w.heap.size (fun _ => True) v0_ r1 ∧ Below w.heap.size w w' := by
  have HR0 := Aside0.mk hr0
  have HC0 := Aside0.mk hc0
  clear hr0 hc0
  have HB := Aside0.mk (Below.refl w.heap.size w)
  have H : ((spec_l01From.f k l0).bind fun bt478 => ((spec_DrawInterestBetween.f k l0).bind fun bt482 => ((spec_l04DrawPoints.f bt478.1 bt478.2.1 bt478.2.2).bind fun bt488 => (some (bt482.1, bt482.2.1, bt488.1, bt482.2.2.1, bt482.2.2.2))))) = some (r1, r2, r3, r4, r5) := h
  clear h
  replace H := Option.bind_eq_some_iff.mp H
  obtain ⟨⟨t478, t479, t480⟩, A20, H⟩ := H
  replace H : ((spec_DrawInterestBetween.f k l0).bind fun bt482 => ((spec_l04DrawPoints.f t478 t479 t480).bind fun bt488 => (some (bt482.1, bt482.2.1, bt488.1, bt482.2.2.1, bt482.2.2.2)))) = some (r1, r2, r3, r4, r5) := H
  have A2 := Aside0.mk A20
  clear A20
  replace H := Option.bind_eq_some_iff.mp H
  obtain ⟨⟨t482, t483, t484, t485⟩, A30, H⟩ := H
  replace H : ((spec_l04DrawPoints.f t478 t479 t480).bind fun bt488 => (some (t482, t483, bt488.1, t484, t485))) = some (r1, r2, r3, r4, r5) := H
  have A3 := Aside0.mk A30
  clear A30
  replace H := Option.bind_eq_some_iff.mp H
  obtain ⟨⟨t488, t489, t490⟩, A40, H⟩ := H
  replace H : (some (t482, t483, t488, t484, t485)) = some (r1, r2, r3, r4, r5) := H
  have A4 := Aside0.mk A40
  clear A40
  simp only [Option.some.injEq, Prod.mk.injEq] at H
  obtain ⟨rfl, rfl, rfl, rfl, rfl⟩ := H
  go_enter Try.func28, Try.ntmps28
  go_wp2_with (first | ((with_reducible refine gate_callee (f := 31) rfl ?_); refine goesL_ (some 13) rfl rfl Try.func31 (by kernel_rfl) rfl #[.slice A0 l0.length c0] rfl (by (try simp only [List.map_toArray, List.map_cons, List.map_nil]); first | done | rfl | (simp only [List.length_drop, List.length_take]; rfl)) ?_; (with_reducible refine (spec_l01From.calls k _ _ l0 t478 t479 t480 w _ ?side1 ?side2 ?side3 A2.out).mono ?_); (case side1 => repeat (first | (with_reducible first | exact HB.out | apply below_alloc | apply pw_below_drewN | apply below_drew1) | exact HB.out)); (case side2 => exact HR0.out); (case side3 => exact HC0.out); rintro e w5 ⟨g481, rfl, hi, hb, hb2⟩; refine ⟨_, rfl, ?_⟩; have n0_ := Aside0.mk (hb); have n1_ := Aside0.mk (hi); clear HB; have HB := n0_; have HI481 := n1_; clear n0_ n1_; (try clear hb); (try clear hb2); (try clear hk); (try clear hi)) | ((with_reducible refine gate_callee (f := 6) rfl ?_); refine goesL_ (some 16) rfl rfl Try.func6 (by kernel_rfl) rfl #[.slice A0 l0.length c0] rfl (by (try simp only [List.map_toArray, List.map_cons, List.map_nil]); first | done | rfl | (simp only [List.length_drop, List.length_take]; rfl)) ?_; (with_reducible refine (spec_DrawInterestBetween.calls k _ _ l0 t482 t483 t484 t485 _ ?side1 ?side2 A3.out).mono ?_); (case side1 => repeat (first | exact (Kd.C_below HR0.out HB.out) | (with_reducible refine Kd.C_alloc ?_ _) | (with_reducible refine Kd.C_drewN ?_ _) | (with_reducible refine Kd.C_drew ?_))); (case side2 => exact HC0.out); rintro e w6 ⟨v486, rfl, ho0, hb⟩; refine ⟨_, rfl, ?_⟩; have n0_ := Aside0.mk (Kd.R_lower ho0 (below_size (by repeat (first | (with_reducible first | exact HB.out | apply below_alloc | apply pw_below_drewN | apply below_drew1 | refine below_set ?_ (IsS74.ge HI481.out)) | exact HB.out)))); have n1_ := Aside0.mk (IsS74.below (by repeat (first | (with_reducible first | exact HI481.out | apply IsS74.alloc | apply IsS74.drewN | apply IsS74.drew | apply IsS74.set_1 | apply IsS74.set_2) | exact HI481.out)) hb); have n2_ := Aside0.mk (below_step (by repeat (first | (with_reducible first | exact HB.out | apply below_alloc | apply pw_below_drewN | apply below_drew1 | refine below_set ?_ (IsS74.ge HI481.out)) | exact HB.out)) hb); clear HI481; clear HB; have HO487 := n0_; have HI481 := n1_; have HB := n2_; clear n0_ n1_ n2_; (try clear hb); (try clear hb2); (try clear hk); (try clear hi); (try clear ho0)) | ((with_reducible refine gate_callee (f := 43) rfl ?_); refine goesL_ (some 24) rfl rfl Try.func43 (by kernel_rfl) rfl #[.pointer (some ⟨g481, 0, none⟩)] rfl (by (try simp only [List.map_toArray, List.map_cons, List.map_nil]); first | done | rfl | (simp only [List.length_drop, List.length_take]; rfl)) ?_; (with_reducible refine (spec_l04DrawPoints.calls g481 t478 t479 t480 t488 t489 t490 w _ ?side1 ?side2 A4.out).mono ?_); (case side1 => repeat (first | (with_reducible first | exact HI481.out | apply IsS74.alloc | apply IsS74.drewN | apply IsS74.drew | apply IsS74.set_1 | apply IsS74.set_2) | exact HI481.out)); (case side2 => repeat (first | (with_reducible first | exact HB.out | apply below_alloc | apply pw_below_drewN | apply below_drew1 | refine below_set ?_ (IsS74.ge HI481.out)) | exact HB.out)); rintro e w7 ⟨rfl, hi, hb, hk⟩; refine ⟨_, rfl, ?_⟩; have n0_ := Aside0.mk (Kd.R_mono (Kd.R_keep (IsS74.apart (show IsS74 w _ g481 t478 t479 t480 from by repeat (first | (with_reducible first | exact HI481.out | apply IsS74.alloc | apply IsS74.drewN | apply IsS74.drew | apply IsS74.set_1 | apply IsS74.set_2) | exact HI481.out)) (by (with_reducible repeat (first | apply Kd.R_alloc | apply Kd.R_drewN | apply Kd.R_drew)); exact HO487.out) (by decide)) hk (fun _ h => h.2)) (fun _ h => h.1)); have n1_ := Aside0.mk (hb); have n2_ := Aside0.mk (hi); clear HO487; clear HB; clear HI481; have HO487 := n0_; have HB := n1_; have HI481 := n2_; clear n0_ n1_ n2_; (try clear hb); (try clear hb2); (try clear hk); (try clear hi)))
  refine bodyPost_ret (results_list (rs := [.tmp 2, .tmp 3, .tmp 4, .tmp 5, .tmp 6]) rfl (by simp) (.tmp (.tmp (.tmp (.tmp (.tmp .nil)))))) rfl ?_
  exact ⟨_, by first | rfl | (simp [errW_none, errW_some] <;> rfl) | (simp [*, errW_none, errW_some] <;> rfl), by (with_reducible repeat (first | apply Kd.R_alloc | apply Kd.R_drewN | apply Kd.R_drew)); exact HO487.out, by repeat (first | (with_reducible first | exact HB.out | apply below_alloc | apply pw_below_drewN | apply below_drew1 | refine below_set ?_ (IsS74.ge HI481.out)) | exact HB.out)⟩

/-! ### impl_totalDue: function 64 -/
def impl_totalDue.f (k : Nat) (l0 : List (S37)) (a1 : Int) (a2 : Int) (a3 : Int) (a4 : Int) : Option (Int) := (impl_commission.f a1 a2).bind fun t491 => ((impl_weight.f k l0 a3 a4).bind fun t492 => ((impl_interest.f a1 t492).bind fun t493 => (some (wrap64 ((wrap64 (a1 + t491)) + t493)))))
theorem impl_totalDue.mono : ∀ a0 a1 a2 a3 a4 k, LeO (impl_totalDue.f k a0 a1 a2 a3 a4) (impl_totalDue.f (k + 1) a0 a1 a2 a3 a4) := by
  intro a0 a1 a2 a3 a4 k
  unfold impl_totalDue.f
  repeat' first
      | (with_reducible exact impl_weight.mono _ _ _ _)
      | (with_reducible exact LeO.refl _)
      | (with_reducible exact LeO.none _)
      | (with_reducible refine LeO.ite ?_ ?_)
      | (with_reducible refine LeO.bind ?_ (fun _ => ?_))
      | exact impl_weight.mono _ _ _ _
      | exact LeO.none _
      | refine LeO.ite ?_ ?_
      | refine LeO.bind ?_ (fun _ => ?_)
set_option maxHeartbeats 8000000 in
set_option maxRecDepth 100000 in
theorem impl_totalDue.calls (k : Nat) (A0 : Option Addr) (c0 : Nat) (l0 : List (S37)) (a1 : Int) (a2 : Int) (a3 : Int) (a4 : Int) (r : Int) (w : World) (hr0 : Kd.C k37 w A0 l0.length l0) (hc0 : l0.length ≤ c0) (h : impl_totalDue.f k l0 a1 a2 a3 a4 = some r) :
    Calls Try.prog 64 #[.slice A0 l0.length c0, .int .i64 a1, .int .i64 a2, .int .i64 a3, .int .i64 a4] w fun e w' => e = .returned (.int .i64 r) ∧ Below w.heap.size w w' := by
  have HR0 := Aside0.mk hr0
  have HC0 := Aside0.mk hc0
  clear hr0 hc0
  have HB := Aside0.mk (Below.refl w.heap.size w)
  have H : ((impl_commission.f a1 a2).bind fun t491 => ((impl_weight.f k l0 a3 a4).bind fun t492 => ((impl_interest.f a1 t492).bind fun t493 => (some (wrap64 ((wrap64 (a1 + t491)) + t493)))))) = some r := h
  clear h
  replace H := Option.bind_eq_some_iff.mp H
  obtain ⟨t491, A60, H⟩ := H
  replace H : ((impl_weight.f k l0 a3 a4).bind fun t492 => ((impl_interest.f a1 t492).bind fun t493 => (some (wrap64 ((wrap64 (a1 + t491)) + t493))))) = some r := H
  have A6 := Aside0.mk A60
  clear A60
  replace H := Option.bind_eq_some_iff.mp H
  obtain ⟨t492, A70, H⟩ := H
  replace H : ((impl_interest.f a1 t492).bind fun t493 => (some (wrap64 ((wrap64 (a1 + t491)) + t493)))) = some r := H
  have A7 := Aside0.mk A70
  clear A70
  replace H := Option.bind_eq_some_iff.mp H
  obtain ⟨t493, A80, H⟩ := H
  replace H : (some (wrap64 ((wrap64 (a1 + t491)) + t493))) = some r := H
  have A8 := Aside0.mk A80
  clear A80
  obtain rfl := Option.some.inj H
  go_enter Try.func64, Try.ntmps64
  go_wp2_with (first | ((with_reducible refine gate_callee (f := 60) rfl ?_); refine goesL_ (some 14) rfl rfl Try.func60 (by kernel_rfl) rfl #[.int .i64 a1, .int .i64 a2] rfl (by (try simp only [List.map_toArray, List.map_cons, List.map_nil]); first | done | rfl | (simp only [List.length_drop, List.length_take]; rfl)) ?_; (with_reducible refine (impl_commission.calls a1 a2 t491 _ A6.out).mono ?_); rintro e w' ⟨rfl, ⟨nd, rfl⟩⟩; refine ⟨_, rfl, ?_⟩) | ((with_reducible refine gate_callee (f := 38) rfl ?_); refine goesL_ (some 20) rfl rfl Try.func38 (by kernel_rfl) rfl #[.slice A0 l0.length c0, .int .i64 a3, .int .i64 a4] rfl (by (try simp only [List.map_toArray, List.map_cons, List.map_nil]); first | done | rfl | (simp only [List.length_drop, List.length_take]; rfl)) ?_; (with_reducible refine (impl_weight.calls k _ _ l0 a3 a4 t492 _ ?side1 ?side2 A7.out).mono ?_); (case side1 => repeat (first | exact HR0.out | (with_reducible refine Kd.C_alloc ?_ _) | (with_reducible refine Kd.C_drewN ?_ _) | (with_reducible refine Kd.C_drew ?_))); (case side2 => exact HC0.out); rintro e w9 ⟨rfl, hb⟩; refine ⟨_, rfl, ?_⟩; have n0_ := Aside0.mk (below_step (by repeat (first | (with_reducible first | exact HB.out | apply below_alloc | apply pw_below_drewN | apply below_drew1) | exact HB.out)) hb); clear HB; have HB := n0_; clear n0_; (try clear hb); (try clear hb2); (try clear hk); (try clear hi)) | ((with_reducible refine gate_callee (f := 37) rfl ?_); refine goesL_ (some 21) rfl rfl Try.func37 (by kernel_rfl) rfl #[.int .i64 a1, .int .i64 t492] rfl (by (try simp only [List.map_toArray, List.map_cons, List.map_nil]); first | done | rfl | (simp only [List.length_drop, List.length_take]; rfl)) ?_; (with_reducible refine (impl_interest.calls a1 t492 t493 _ A8.out).mono ?_); rintro e w' ⟨rfl, ⟨nd, rfl⟩⟩; refine ⟨_, rfl, ?_⟩))
  go_ret
  exact ⟨by first | rfl | (simp [errW_none, errW_some] <;> rfl) | (simp [*, errW_none, errW_some] <;> rfl), by repeat (first | (with_reducible first | exact HB.out | apply below_alloc | apply pw_below_drewN | apply below_drew1) | exact HB.out)⟩

/-! ### impl_TotalDue: function 29 -/
def impl_TotalDue.f (k : Nat) (l0 : List (S37)) (a1 : Int) (a2 : Int) (a3 : Int) (a4 : Int) : Option (Int × Int) := (impl_scheduled.f k l0 a1 (([a3, a4] : List Int))).bind fun t497 => (if t497 = 0 then ((impl_isPoints.f a2).bind fun t498 => (if t498 = true then ((impl_totalDue.f k l0 a1 a2 a3 a4).bind fun t499 => ((impl_amountOf.f t499).bind fun bt500 => (some (bt500.1, bt500.2)))) else (some (0, 2)))) else (some (0, t497)))
theorem impl_TotalDue.mono : ∀ a0 a1 a2 a3 a4 k, LeO (impl_TotalDue.f k a0 a1 a2 a3 a4) (impl_TotalDue.f (k + 1) a0 a1 a2 a3 a4) := by
  intro a0 a1 a2 a3 a4 k
  unfold impl_TotalDue.f
  repeat' first
      | (with_reducible exact impl_scheduled.mono _ _ _ _)
      | (with_reducible exact impl_totalDue.mono _ _ _ _ _ _)
      | (with_reducible exact LeO.refl _)
      | (with_reducible exact LeO.none _)
      | (with_reducible refine LeO.ite ?_ ?_)
      | (with_reducible refine LeO.bind ?_ (fun _ => ?_))
      | exact impl_scheduled.mono _ _ _ _
      | exact impl_totalDue.mono _ _ _ _ _ _
      | exact LeO.none _
      | refine LeO.ite ?_ ?_
      | refine LeO.bind ?_ (fun _ => ?_)
set_option maxHeartbeats 8000000 in
set_option maxRecDepth 100000 in
theorem impl_TotalDue.calls (k : Nat) (A0 : Option Addr) (c0 : Nat) (l0 : List (S37)) (a1 : Int) (a2 : Int) (a3 : Int) (a4 : Int) (r1 : Int) (r2 : Int) (w : World) (hr0 : Kd.C k37 w A0 l0.length l0) (hc0 : l0.length ≤ c0) (h : impl_TotalDue.f k l0 a1 a2 a3 a4 = some (r1, r2)) :
    Calls Try.prog 29 #[.slice A0 l0.length c0, .int .i64 a1, .int .i64 a2, .int .i64 a3, .int .i64 a4] w fun e w' => e = .returned (.tuple #[.int .i64 r1, .int .i64 r2]) ∧ Below w.heap.size w w' := by
  have HR0 := Aside0.mk hr0
  have HC0 := Aside0.mk hc0
  clear hr0 hc0
  have HB := Aside0.mk (Below.refl w.heap.size w)
  have H : ((impl_scheduled.f k l0 a1 (([a3, a4] : List Int))).bind fun t497 => (if t497 = 0 then ((impl_isPoints.f a2).bind fun t498 => (if t498 = true then ((impl_totalDue.f k l0 a1 a2 a3 a4).bind fun t499 => ((impl_amountOf.f t499).bind fun bt500 => (some (bt500.1, bt500.2)))) else (some (0, 2)))) else (some (0, t497)))) = some (r1, r2) := h
  clear h
  obtain ⟨y494, hy494⟩ : ∃ y_ : List Int, y_ = (([a3, a4] : List Int)) := ⟨_, rfl⟩
  replace H : ((impl_scheduled.f k l0 a1 y494).bind fun t497 => (if t497 = 0 then ((impl_isPoints.f a2).bind fun t498 => (if t498 = true then ((impl_totalDue.f k l0 a1 a2 a3 a4).bind fun t499 => ((impl_amountOf.f t499).bind fun bt500 => (some (bt500.1, bt500.2)))) else (some (0, 2)))) else (some (0, t497)))) = some (r1, r2) := by first | (rw [hy494]; with_reducible exact H) | (have H2_ := (Option.bind_some _ _).symm.trans H; rw [hy494]; with_reducible exact H2_) | (have H2_ := (Option.bind_some _ _).symm.trans H; with_reducible exact H2_) | with_reducible exact H | (rw [hy494]; exact H) | exact H
  have Ny494 := Aside0.mk hy494
  clear hy494
  replace H := Option.bind_eq_some_iff.mp H
  obtain ⟨t497, A60, H⟩ := H
  replace H : (if t497 = 0 then ((impl_isPoints.f a2).bind fun t498 => (if t498 = true then ((impl_totalDue.f k l0 a1 a2 a3 a4).bind fun t499 => ((impl_amountOf.f t499).bind fun bt500 => (some (bt500.1, bt500.2)))) else (some (0, 2)))) else (some (0, t497))) = some (r1, r2) := H
  have A6 := Aside0.mk A60
  clear A60
  by_cases c7 : t497 = 0
  · rw [if_pos c7] at H
    have c7b0 : (t497 == 0) = true := beq_iff_eq.mpr c7
    have c7b1 : (t497 != 0) = false := bne_eq_false_iff_eq.mpr c7
    clear c7
    replace H := Option.bind_eq_some_iff.mp H
    obtain ⟨t498, A80, H⟩ := H
    replace H : (if t498 = true then ((impl_totalDue.f k l0 a1 a2 a3 a4).bind fun t499 => ((impl_amountOf.f t499).bind fun bt500 => (some (bt500.1, bt500.2)))) else (some (0, 2))) = some (r1, r2) := H
    have A8 := Aside0.mk A80
    clear A80
    by_cases c9 : t498 = true
    · subst c9
      have H1 : ((impl_totalDue.f k l0 a1 a2 a3 a4).bind fun t499 => ((impl_amountOf.f t499).bind fun bt500 => (some (bt500.1, bt500.2)))) = some (r1, r2) := by rw [if_pos rfl] at H; exact H
      clear H
      have H := H1
      clear H1
      replace H := Option.bind_eq_some_iff.mp H
      obtain ⟨t499, A100, H⟩ := H
      replace H : ((impl_amountOf.f t499).bind fun bt500 => (some (bt500.1, bt500.2))) = some (r1, r2) := H
      have A10 := Aside0.mk A100
      clear A100
      replace H := Option.bind_eq_some_iff.mp H
      obtain ⟨⟨t500, t501⟩, A110, H⟩ := H
      replace H : (some (t500, t501)) = some (r1, r2) := H
      have A11 := Aside0.mk A110
      clear A110
      simp only [Option.some.injEq, Prod.mk.injEq] at H
      obtain ⟨rfl, rfl⟩ := H
      go_enter Try.func29, Try.ntmps29
      go_wp2_with (first | ((with_reducible refine gate_dst (N := 17) rfl ?_); refine Kd.R_lit (Kd.int .i64) _ 2 ?hg (N := 17) ?hd (xs := ([a3, a4] : List Int)) (inner := [.int .i64 a3, .int .i64 a4]) (ok := fun _ => True) (okp := fun _ => True) ?hr ?hp (fun _ hk => hk) trivial (Below.refl _ _) (Nat.le_refl _) (by simp) ?_; (case hd => rfl); (case hg => rfl); (case hr => first | (go_simp; done) | (go_simp; rfl)); (case hp => exact (Reps.one (show Kd.M (Kd.int .i64) _ _ _ a3 [.int .i64 a3] from rfl) (Reps.one (show Kd.M (Kd.int .i64) _ _ _ a4 [.int .i64 a4] from rfl) (Reps.none _ _)))); intro v495 w12 ho13 hb hg_ hnew_; clear hg_ hnew_; (first | rw [← Ny494.out] at ho13 | (simp only [Int.reduceToNat] at ho13; rw [← Ny494.out] at ho13)); have n0_ := Aside0.mk (Kd.R_lower ho13 (below_size (by repeat (first | (with_reducible first | exact HB.out | apply below_alloc | apply pw_below_drewN | apply below_drew1) | exact HB.out)))); have n1_ := Aside0.mk (below_step (by repeat (first | (with_reducible first | exact HB.out | apply below_alloc | apply pw_below_drewN | apply below_drew1) | exact HB.out)) hb); clear HB; have HO496 := n0_; have HB := n1_; clear n0_ n1_; clear hb ho13; obtain ⟨Ao14, co14, eo14⟩ := Kd.R_slice HO496.out; subst eo14) | ((with_reducible refine gate_callee (f := 35) rfl ?_); refine goesL_ (some 18) rfl rfl Try.func35 (by kernel_rfl) rfl #[.slice A0 l0.length c0, .int .i64 a1, .slice Ao14 y494.length co14] rfl (by (try simp only [List.map_toArray, List.map_cons, List.map_nil]); first | done | rfl | (simp only [List.length_drop, List.length_take]; rfl)) ?_; (with_reducible refine (impl_scheduled.calls k _ _ l0 a1 _ _ y494 t497 _ ?side1 ?side2 ?side3 ?side4 A6.out).mono ?_); (case side1 => repeat (first | exact (Kd.C_below HR0.out HB.out) | (with_reducible refine Kd.C_alloc ?_ _) | (with_reducible refine Kd.C_drewN ?_ _) | (with_reducible refine Kd.C_drew ?_))); (case side2 => exact HC0.out); (case side3 => repeat (first | exact (Kd.R_reads' HO496.out).2.2 | (with_reducible refine Kd.C_alloc ?_ _) | (with_reducible refine Kd.C_drewN ?_ _) | (with_reducible refine Kd.C_drew ?_))); (case side4 => exact (Kd.R_reads' HO496.out).2.1); rintro e w15 ⟨rfl, hb⟩; refine ⟨_, rfl, ?_⟩; have n0_ := Aside0.mk (Kd.R_below (by (with_reducible repeat (first | apply Kd.R_alloc | apply Kd.R_drewN | apply Kd.R_drew)); exact HO496.out) hb); have n1_ := Aside0.mk (below_step (by repeat (first | (with_reducible first | exact HB.out | apply below_alloc | apply pw_below_drewN | apply below_drew1) | exact HB.out)) hb); clear HO496; clear HB; have HO496 := n0_; have HB := n1_; clear n0_ n1_; (try clear hb); (try clear hb2); (try clear hk); (try clear hi)) | ((with_reducible refine gate_callee (f := 47) rfl ?_); refine goesL_ (some 25) rfl rfl Try.func47 (by kernel_rfl) rfl #[.int .i64 a2] rfl (by (try simp only [List.map_toArray, List.map_cons, List.map_nil]); first | done | rfl | (simp only [List.length_drop, List.length_take]; rfl)) ?_; (with_reducible refine (impl_isPoints.calls a2 true _ A8.out).mono ?_); rintro e w' ⟨rfl, ⟨nd, rfl⟩⟩; refine ⟨_, rfl, ?_⟩) | ((with_reducible refine gate_callee (f := 64) rfl ?_); refine goesL_ (some 32) rfl rfl Try.func64 (by kernel_rfl) rfl #[.slice A0 l0.length c0, .int .i64 a1, .int .i64 a2, .int .i64 a3, .int .i64 a4] rfl (by (try simp only [List.map_toArray, List.map_cons, List.map_nil]); first | done | rfl | (simp only [List.length_drop, List.length_take]; rfl)) ?_; (with_reducible refine (impl_totalDue.calls k _ _ l0 a1 a2 a3 a4 t499 _ ?side1 ?side2 A10.out).mono ?_); (case side1 => repeat (first | exact (Kd.C_below HR0.out (by repeat (first | (with_reducible first | exact HB.out | apply below_alloc | apply pw_below_drewN | apply below_drew1) | exact HB.out))) | (with_reducible refine Kd.C_alloc ?_ _) | (with_reducible refine Kd.C_drewN ?_ _) | (with_reducible refine Kd.C_drew ?_))); (case side2 => exact HC0.out); rintro e w16 ⟨rfl, hb⟩; refine ⟨_, rfl, ?_⟩; have n0_ := Aside0.mk (Kd.R_below (by (with_reducible repeat (first | apply Kd.R_alloc | apply Kd.R_drewN | apply Kd.R_drew)); exact HO496.out) hb); have n1_ := Aside0.mk (below_step (by repeat (first | (with_reducible first | exact HB.out | apply below_alloc | apply pw_below_drewN | apply below_drew1) | exact HB.out)) hb); clear HO496; clear HB; have HO496 := n0_; have HB := n1_; clear n0_ n1_; (try clear hb); (try clear hb2); (try clear hk); (try clear hi)) | ((with_reducible refine gate_callee (f := 36) rfl ?_); refine goesL_ (some 33) rfl rfl Try.func36 (by kernel_rfl) rfl #[.int .i64 t499] rfl (by (try simp only [List.map_toArray, List.map_cons, List.map_nil]); first | done | rfl | (simp only [List.length_drop, List.length_take]; rfl)) ?_; (with_reducible refine (impl_amountOf.calls t499 t500 t501 _ A11.out).mono ?_); rintro e w' ⟨rfl, ⟨nd, rfl⟩⟩; refine ⟨_, rfl, ?_⟩))
      go_ret2
      exact ⟨by first | rfl | (simp [errW_none, errW_some] <;> rfl) | (simp [*, errW_none, errW_some] <;> rfl), by repeat (first | (with_reducible first | exact HB.out | apply below_alloc | apply pw_below_drewN | apply below_drew1) | exact HB.out)⟩
    · replace c9 := Bool.eq_false_iff.mpr c9
      subst c9
      have H1 : (some (0, 2)) = some (r1, r2) := by rw [if_neg (show ¬ (false = true) by decide)] at H; exact H
      clear H
      have H := H1
      clear H1
      simp only [Option.some.injEq, Prod.mk.injEq] at H
      obtain ⟨rfl, rfl⟩ := H
      go_enter Try.func29, Try.ntmps29
      go_wp2_with (first | ((with_reducible refine gate_dst (N := 17) rfl ?_); refine Kd.R_lit (Kd.int .i64) _ 2 ?hg (N := 17) ?hd (xs := ([a3, a4] : List Int)) (inner := [.int .i64 a3, .int .i64 a4]) (ok := fun _ => True) (okp := fun _ => True) ?hr ?hp (fun _ hk => hk) trivial (Below.refl _ _) (Nat.le_refl _) (by simp) ?_; (case hd => rfl); (case hg => rfl); (case hr => first | (go_simp; done) | (go_simp; rfl)); (case hp => exact (Reps.one (show Kd.M (Kd.int .i64) _ _ _ a3 [.int .i64 a3] from rfl) (Reps.one (show Kd.M (Kd.int .i64) _ _ _ a4 [.int .i64 a4] from rfl) (Reps.none _ _)))); intro v495 w17 ho18 hb hg_ hnew_; clear hg_ hnew_; (first | rw [← Ny494.out] at ho18 | (simp only [Int.reduceToNat] at ho18; rw [← Ny494.out] at ho18)); have n0_ := Aside0.mk (Kd.R_lower ho18 (below_size (by repeat (first | (with_reducible first | exact HB.out | apply below_alloc | apply pw_below_drewN | apply below_drew1) | exact HB.out)))); have n1_ := Aside0.mk (below_step (by repeat (first | (with_reducible first | exact HB.out | apply below_alloc | apply pw_below_drewN | apply below_drew1) | exact HB.out)) hb); clear HB; have HO496 := n0_; have HB := n1_; clear n0_ n1_; clear hb ho18; obtain ⟨Ao19, co19, eo19⟩ := Kd.R_slice HO496.out; subst eo19) | ((with_reducible refine gate_callee (f := 35) rfl ?_); refine goesL_ (some 18) rfl rfl Try.func35 (by kernel_rfl) rfl #[.slice A0 l0.length c0, .int .i64 a1, .slice Ao19 y494.length co19] rfl (by (try simp only [List.map_toArray, List.map_cons, List.map_nil]); first | done | rfl | (simp only [List.length_drop, List.length_take]; rfl)) ?_; (with_reducible refine (impl_scheduled.calls k _ _ l0 a1 _ _ y494 t497 _ ?side1 ?side2 ?side3 ?side4 A6.out).mono ?_); (case side1 => repeat (first | exact (Kd.C_below HR0.out HB.out) | (with_reducible refine Kd.C_alloc ?_ _) | (with_reducible refine Kd.C_drewN ?_ _) | (with_reducible refine Kd.C_drew ?_))); (case side2 => exact HC0.out); (case side3 => repeat (first | exact (Kd.R_reads' HO496.out).2.2 | (with_reducible refine Kd.C_alloc ?_ _) | (with_reducible refine Kd.C_drewN ?_ _) | (with_reducible refine Kd.C_drew ?_))); (case side4 => exact (Kd.R_reads' HO496.out).2.1); rintro e w20 ⟨rfl, hb⟩; refine ⟨_, rfl, ?_⟩; have n0_ := Aside0.mk (Kd.R_below (by (with_reducible repeat (first | apply Kd.R_alloc | apply Kd.R_drewN | apply Kd.R_drew)); exact HO496.out) hb); have n1_ := Aside0.mk (below_step (by repeat (first | (with_reducible first | exact HB.out | apply below_alloc | apply pw_below_drewN | apply below_drew1) | exact HB.out)) hb); clear HO496; clear HB; have HO496 := n0_; have HB := n1_; clear n0_ n1_; (try clear hb); (try clear hb2); (try clear hk); (try clear hi)) | ((with_reducible refine gate_callee (f := 47) rfl ?_); refine goesL_ (some 25) rfl rfl Try.func47 (by kernel_rfl) rfl #[.int .i64 a2] rfl (by (try simp only [List.map_toArray, List.map_cons, List.map_nil]); first | done | rfl | (simp only [List.length_drop, List.length_take]; rfl)) ?_; (with_reducible refine (impl_isPoints.calls a2 false _ A8.out).mono ?_); rintro e w' ⟨rfl, ⟨nd, rfl⟩⟩; refine ⟨_, rfl, ?_⟩))
      go_ret2
      exact ⟨by first | rfl | (simp [errW_none, errW_some] <;> rfl) | (simp [*, errW_none, errW_some] <;> rfl), by repeat (first | (with_reducible first | exact HB.out | apply below_alloc | apply pw_below_drewN | apply below_drew1) | exact HB.out)⟩
  · rw [if_neg c7] at H
    have c7b0 : (t497 == 0) = false := beq_eq_false_iff_ne.mpr c7
    have c7b1 : (t497 != 0) = true := bne_iff_ne.mpr c7
    simp only [Option.some.injEq, Prod.mk.injEq] at H
    obtain ⟨rfl, rfl⟩ := H
    go_enter Try.func29, Try.ntmps29
    go_wp2_with (first | ((with_reducible refine gate_dst (N := 17) rfl ?_); refine Kd.R_lit (Kd.int .i64) _ 2 ?hg (N := 17) ?hd (xs := ([a3, a4] : List Int)) (inner := [.int .i64 a3, .int .i64 a4]) (ok := fun _ => True) (okp := fun _ => True) ?hr ?hp (fun _ hk => hk) trivial (Below.refl _ _) (Nat.le_refl _) (by simp) ?_; (case hd => rfl); (case hg => rfl); (case hr => first | (go_simp; done) | (go_simp; rfl)); (case hp => exact (Reps.one (show Kd.M (Kd.int .i64) _ _ _ a3 [.int .i64 a3] from rfl) (Reps.one (show Kd.M (Kd.int .i64) _ _ _ a4 [.int .i64 a4] from rfl) (Reps.none _ _)))); intro v495 w21 ho22 hb hg_ hnew_; clear hg_ hnew_; (first | rw [← Ny494.out] at ho22 | (simp only [Int.reduceToNat] at ho22; rw [← Ny494.out] at ho22)); have n0_ := Aside0.mk (Kd.R_lower ho22 (below_size (by repeat (first | (with_reducible first | exact HB.out | apply below_alloc | apply pw_below_drewN | apply below_drew1) | exact HB.out)))); have n1_ := Aside0.mk (below_step (by repeat (first | (with_reducible first | exact HB.out | apply below_alloc | apply pw_below_drewN | apply below_drew1) | exact HB.out)) hb); clear HB; have HO496 := n0_; have HB := n1_; clear n0_ n1_; clear hb ho22; obtain ⟨Ao23, co23, eo23⟩ := Kd.R_slice HO496.out; subst eo23) | ((with_reducible refine gate_callee (f := 35) rfl ?_); refine goesL_ (some 18) rfl rfl Try.func35 (by kernel_rfl) rfl #[.slice A0 l0.length c0, .int .i64 a1, .slice Ao23 y494.length co23] rfl (by (try simp only [List.map_toArray, List.map_cons, List.map_nil]); first | done | rfl | (simp only [List.length_drop, List.length_take]; rfl)) ?_; (with_reducible refine (impl_scheduled.calls k _ _ l0 a1 _ _ y494 t497 _ ?side1 ?side2 ?side3 ?side4 A6.out).mono ?_); (case side1 => repeat (first | exact (Kd.C_below HR0.out HB.out) | (with_reducible refine Kd.C_alloc ?_ _) | (with_reducible refine Kd.C_drewN ?_ _) | (with_reducible refine Kd.C_drew ?_))); (case side2 => exact HC0.out); (case side3 => repeat (first | exact (Kd.R_reads' HO496.out).2.2 | (with_reducible refine Kd.C_alloc ?_ _) | (with_reducible refine Kd.C_drewN ?_ _) | (with_reducible refine Kd.C_drew ?_))); (case side4 => exact (Kd.R_reads' HO496.out).2.1); rintro e w24 ⟨rfl, hb⟩; refine ⟨_, rfl, ?_⟩; have n0_ := Aside0.mk (Kd.R_below (by (with_reducible repeat (first | apply Kd.R_alloc | apply Kd.R_drewN | apply Kd.R_drew)); exact HO496.out) hb); have n1_ := Aside0.mk (below_step (by repeat (first | (with_reducible first | exact HB.out | apply below_alloc | apply pw_below_drewN | apply below_drew1) | exact HB.out)) hb); clear HO496; clear HB; have HO496 := n0_; have HB := n1_; clear n0_ n1_; (try clear hb); (try clear hb2); (try clear hk); (try clear hi)))
    go_ret2
    exact ⟨by first | rfl | (simp [errW_none, errW_some] <;> rfl) | (simp [*, errW_none, errW_some] <;> rfl), by repeat (first | (with_reducible first | exact HB.out | apply below_alloc | apply pw_below_drewN | apply below_drew1) | exact HB.out)⟩

/-! ### spec_TotalDue: function 30 -/
mutual
def spec_TotalDue.j0 : Nat → List (S37) → Int → Int → Int → Int → Int → Bool → Option (Int × Int)
  | 0, _, _, _, _, _, _, _ => none
  | k + 1, x0, x1, x2, x3, x4, x12, x24 => if x24 = true then (spec_TotalDue.j1 k x0 x1 x2 x3 x4 2) else (spec_TotalDue.j1 k x0 x1 x2 x3 x4 x12)
def spec_TotalDue.j1 : Nat → List (S37) → Int → Int → Int → Int → Int → Option (Int × Int)
  | 0, _, _, _, _, _, _ => none
  | k + 1, x0, x1, x2, x3, x4, x12 => if x12 = 0 then ((spec_l04Commission.f x1 x2).bind fun t504 => ((spec_l04Weight.f k x0 x3 x4).bind fun t505 => ((spec_l04Interest.f x1 t505).bind fun t506 => ((spec_l04Result.f (wrap64 ((wrap64 (x1 + t504)) + t506))).bind fun bt507 => (some (bt507.1, bt507.2)))))) else (some (0, x12))
end
def spec_TotalDue.f (k : Nat) (l0 : List (S37)) (a1 : Int) (a2 : Int) (a3 : Int) (a4 : Int) : Option (Int × Int) := (spec_l04Code.f k l0 a1 a3 a4).bind fun t502 => (if t502 = 0 then ((spec_l04Points.f a2).bind fun t503 => (spec_TotalDue.j0 k l0 a1 a2 a3 a4 t502 (!t503))) else (spec_TotalDue.j0 k l0 a1 a2 a3 a4 t502 false))
theorem spec_TotalDue.mono_l : ∀ k, (∀ y0 y1 y2 y3 y4 y5 y6, LeO (spec_TotalDue.j0 k y0 y1 y2 y3 y4 y5 y6) (spec_TotalDue.j0 (k + 1) y0 y1 y2 y3 y4 y5 y6)) ∧ (∀ y0 y1 y2 y3 y4 y5, LeO (spec_TotalDue.j1 k y0 y1 y2 y3 y4 y5) (spec_TotalDue.j1 (k + 1) y0 y1 y2 y3 y4 y5))
  | 0 => ⟨fun _ _ _ _ _ _ _ r h => by simp [spec_TotalDue.j0] at h, fun _ _ _ _ _ _ r h => by simp [spec_TotalDue.j1] at h⟩
  | k + 1 => by
    obtain ⟨ih0, ih1⟩ := spec_TotalDue.mono_l k
    refine ⟨?_, ?_⟩
    · intro y0 y1 y2 y3 y4 y5 y6
      unfold spec_TotalDue.j0
      repeat' first
      | (with_reducible exact ih0 _ _ _ _ _ _ _)
      | (with_reducible exact ih1 _ _ _ _ _ _)
      | (with_reducible exact spec_l04Code.mono _ _ _ _ _)
      | (with_reducible exact spec_l04Weight.mono _ _ _ _)
      | (with_reducible exact LeO.refl _)
      | (with_reducible exact LeO.none _)
      | (with_reducible refine LeO.ite ?_ ?_)
      | (with_reducible refine LeO.bind ?_ (fun _ => ?_))
      | exact ih0 _ _ _ _ _ _ _
      | exact ih1 _ _ _ _ _ _
      | exact spec_l04Code.mono _ _ _ _ _
      | exact spec_l04Weight.mono _ _ _ _
      | exact LeO.none _
      | refine LeO.ite ?_ ?_
      | refine LeO.bind ?_ (fun _ => ?_)
    · intro y0 y1 y2 y3 y4 y5
      unfold spec_TotalDue.j1
      repeat' first
      | (with_reducible exact ih0 _ _ _ _ _ _ _)
      | (with_reducible exact ih1 _ _ _ _ _ _)
      | (with_reducible exact spec_l04Code.mono _ _ _ _ _)
      | (with_reducible exact spec_l04Weight.mono _ _ _ _)
      | (with_reducible exact LeO.refl _)
      | (with_reducible exact LeO.none _)
      | (with_reducible refine LeO.ite ?_ ?_)
      | (with_reducible refine LeO.bind ?_ (fun _ => ?_))
      | exact ih0 _ _ _ _ _ _ _
      | exact ih1 _ _ _ _ _ _
      | exact spec_l04Code.mono _ _ _ _ _
      | exact spec_l04Weight.mono _ _ _ _
      | exact LeO.none _
      | refine LeO.ite ?_ ?_
      | refine LeO.bind ?_ (fun _ => ?_)
theorem spec_TotalDue.mono : ∀ a0 a1 a2 a3 a4 k, LeO (spec_TotalDue.f k a0 a1 a2 a3 a4) (spec_TotalDue.f (k + 1) a0 a1 a2 a3 a4) := by
  intro a0 a1 a2 a3 a4 k
  obtain ⟨ih0, ih1⟩ := spec_TotalDue.mono_l k
  unfold spec_TotalDue.f
  repeat' first
      | (with_reducible exact ih0 _ _ _ _ _ _ _)
      | (with_reducible exact ih1 _ _ _ _ _ _)
      | (with_reducible exact spec_l04Code.mono _ _ _ _ _)
      | (with_reducible exact spec_l04Weight.mono _ _ _ _)
      | (with_reducible exact LeO.refl _)
      | (with_reducible exact LeO.none _)
      | (with_reducible refine LeO.ite ?_ ?_)
      | (with_reducible refine LeO.bind ?_ (fun _ => ?_))
      | exact ih0 _ _ _ _ _ _ _
      | exact ih1 _ _ _ _ _ _
      | exact spec_l04Code.mono _ _ _ _ _
      | exact spec_l04Weight.mono _ _ _ _
      | exact LeO.none _
      | refine LeO.ite ?_ ?_
      | refine LeO.bind ?_ (fun _ => ?_)
set_option maxHeartbeats 8000000 in
set_option maxRecDepth 100000 in
theorem spec_TotalDue.calls (k : Nat) (A0 : Option Addr) (c0 : Nat) (l0 : List (S37)) (a1 : Int) (a2 : Int) (a3 : Int) (a4 : Int) (r1 : Int) (r2 : Int) (w : World) (hr0 : Kd.C k37 w A0 l0.length l0) (hc0 : l0.length ≤ c0) (h : spec_TotalDue.f k l0 a1 a2 a3 a4 = some (r1, r2)) :
    Calls Try.prog 30 #[.slice A0 l0.length c0, .int .i64 a1, .int .i64 a2, .int .i64 a3, .int .i64 a4] w fun e w' => e = .returned (.tuple #[.int .i64 r1, .int .i64 r2]) ∧ Below w.heap.size w w' := by
  have HR0 := Aside0.mk hr0
  have HC0 := Aside0.mk hc0
  clear hr0 hc0
  have HB := Aside0.mk (Below.refl w.heap.size w)
  have H : ((spec_l04Code.f k l0 a1 a3 a4).bind fun t502 => (if t502 = 0 then ((spec_l04Points.f a2).bind fun t503 => (spec_TotalDue.j0 k l0 a1 a2 a3 a4 t502 (!t503))) else (spec_TotalDue.j0 k l0 a1 a2 a3 a4 t502 false))) = some (r1, r2) := h
  clear h
  replace H := Option.bind_eq_some_iff.mp H
  obtain ⟨t502, A60, H⟩ := H
  replace H : (if t502 = 0 then ((spec_l04Points.f a2).bind fun t503 => (spec_TotalDue.j0 k l0 a1 a2 a3 a4 t502 (!t503))) else (spec_TotalDue.j0 k l0 a1 a2 a3 a4 t502 false)) = some (r1, r2) := H
  have A6 := Aside0.mk A60
  clear A60
  have HC7 := Aside0.mk H
  clear H
  go_enter Try.func30, Try.ntmps30
  go_upto_region 2 with (first | ((with_reducible refine gate_callee (f := 39) rfl ?_); refine goesL_ (some 17) rfl rfl Try.func39 (by kernel_rfl) rfl #[.slice A0 l0.length c0, .int .i64 a1, .int .i64 a3, .int .i64 a4] rfl (by (try simp only [List.map_toArray, List.map_cons, List.map_nil]); first | done | rfl | (simp only [List.length_drop, List.length_take]; rfl)) ?_; (with_reducible refine (spec_l04Code.calls k _ _ l0 a1 a3 a4 t502 _ ?side1 ?side2 A6.out).mono ?_); (case side1 => repeat (first | exact HR0.out | (with_reducible refine Kd.C_alloc ?_ _) | (with_reducible refine Kd.C_drewN ?_ _) | (with_reducible refine Kd.C_drew ?_))); (case side2 => exact HC0.out); rintro e w8 ⟨rfl, hb⟩; refine ⟨_, rfl, ?_⟩; have n0_ := Aside0.mk (below_step (by repeat (first | (with_reducible first | exact HB.out | apply below_alloc | apply pw_below_drewN | apply below_drew1) | exact HB.out)) hb); clear HB; have HB := n0_; clear n0_; (try clear hb); (try clear hb2); (try clear hk); (try clear hi)))
  (try simp only [Act.put, List.setIfInBounds_toArray, List.set_cons_zero, List.set_cons_succ])
  go_cut [24] (fun v24 wc => ∃ (kq : Nat) (x24_6 : Bool), v24 = .bool x24_6 ∧ Aside0 (spec_TotalDue.j0 kq l0 a1 a2 a3 a4 t502 x24_6 = some (r1, r2)) ∧ Aside0 (kq ≤ k) ∧ Aside0 (Below w.heap.size w wc))
  case first =>
    have H := HC7.out
    clear HC7
    by_cases c9 : t502 = 0
    · rw [if_pos c9] at H
      have c9b0 : (t502 == 0) = true := beq_iff_eq.mpr c9
      have c9b1 : (t502 != 0) = false := bne_eq_false_iff_eq.mpr c9
      clear c9
      (first | rw [c9b0] | (simp only [i64_w, i32_w]; rw [c9b0]) | skip)
      replace H := Option.bind_eq_some_iff.mp H
      obtain ⟨t503, A100, H⟩ := H
      replace H : (spec_TotalDue.j0 k l0 a1 a2 a3 a4 t502 (!t503)) = some (r1, r2) := H
      have A10 := Aside0.mk A100
      clear A100
      have H' := Aside0.mk H
      clear H
      go_wp2_with (first | (go_at_call 50; (with_reducible refine (spec_l04Points.calls a2 t503 _ A10.out).mono ?_); rintro e w' ⟨rfl, ⟨nd, rfl⟩⟩))
      go_meet
      case rel => exact ⟨_, (!t503), (by first | rfl | (simp; done) | (simp [*]; done)), H', ⟨by first | omega | exact Nat.le_refl _⟩, ⟨by repeat (first | (with_reducible first | exact HB.out | apply below_alloc | apply pw_below_drewN | apply below_drew1) | exact HB.out)⟩⟩
    · rw [if_neg c9] at H
      have c9b0 : (t502 == 0) = false := beq_eq_false_iff_ne.mpr c9
      have c9b1 : (t502 != 0) = true := bne_iff_ne.mpr c9
      (first | rw [c9b0] | (simp only [i64_w, i32_w]; rw [c9b0]) | skip)
      have H' := Aside0.mk H
      clear H
      go_wp2
      go_meet
      case rel => exact ⟨_, (false), (by first | rfl | (simp; done) | (simp [*]; done)), H', ⟨by first | omega | exact Nat.le_refl _⟩, ⟨by repeat (first | (with_reducible first | exact HB.out | apply below_alloc | apply pw_below_drewN | apply below_drew1) | exact HB.out)⟩⟩
  case rest =>
    clear HC7
    try clear p2
    try clear c3
    try clear c9
    try clear c9b0
    try clear c9b1
    obtain ⟨kq, x24_6, rfl, HA, HJ6, HB⟩ := hcut
    cases kq with
    | zero => exact absurd HA.out (by simp [spec_TotalDue.j0])
    | succ kj6 =>
      have H := HA.out
      clear HA
      simp only [spec_TotalDue.j0] at H
      have HC11 := Aside0.mk H
      clear H
      go_upto_if 24 with (fail)
      go_cut [12] (fun v12 wc => ∃ (kq : Nat) (x12_10 : Int), v12 = .int .i64 x12_10 ∧ Aside0 (spec_TotalDue.j1 kq l0 a1 a2 a3 a4 x12_10 = some (r1, r2)) ∧ Aside0 (kq ≤ kj6) ∧ Aside0 (Below w.heap.size w wc))
      case first =>
        have H := HC11.out
        clear HC11
        by_cases c12 : x24_6 = true
        · subst c12
          have H1 : (spec_TotalDue.j1 kj6 l0 a1 a2 a3 a4 2) = some (r1, r2) := by rw [if_pos rfl] at H; exact H
          clear H
          have H := H1
          clear H1
          have H' := Aside0.mk H
          clear H
          go_wp2
          go_meet
          case rel => exact ⟨_, (2), (by first | rfl | (simp; done) | (simp [*]; done)), H', ⟨by have := HJ6.out; first | omega | exact Nat.le_refl _⟩, ⟨by repeat (first | (with_reducible first | exact HB.out | apply below_alloc | apply pw_below_drewN | apply below_drew1) | exact HB.out)⟩⟩
        · replace c12 := Bool.eq_false_iff.mpr c12
          subst c12
          have H1 : (spec_TotalDue.j1 kj6 l0 a1 a2 a3 a4 t502) = some (r1, r2) := by rw [if_neg (show ¬ (false = true) by decide)] at H; exact H
          clear H
          have H := H1
          clear H1
          have H' := Aside0.mk H
          clear H
          go_wp2
          go_meet
          case rel => exact ⟨_, (t502), (by first | rfl | (simp; done) | (simp [*]; done)), H', ⟨by have := HJ6.out; first | omega | exact Nat.le_refl _⟩, ⟨by repeat (first | (with_reducible first | exact HB.out | apply below_alloc | apply pw_below_drewN | apply below_drew1) | exact HB.out)⟩⟩
      case rest =>
        clear HC11
        try clear c1
        try clear p2
        try clear c3
        try clear c9
        try clear c9b0
        try clear c9b1
        try clear c12
        try clear p2
        obtain ⟨kq, x12_10, rfl, HA, HJ10, HB⟩ := hcut
        cases kq with
        | zero => exact absurd HA.out (by simp [spec_TotalDue.j1])
        | succ kj10 =>
          have H := HA.out
          clear HA
          simp only [spec_TotalDue.j1] at H
          by_cases c13 : x12_10 = 0
          · rw [if_pos c13] at H
            have c13b0 : (x12_10 == 0) = true := beq_iff_eq.mpr c13
            have c13b1 : (x12_10 != 0) = false := bne_eq_false_iff_eq.mpr c13
            clear c13
            replace H := Option.bind_eq_some_iff.mp H
            obtain ⟨t504, A140, H⟩ := H
            replace H : ((spec_l04Weight.f kj10 l0 a3 a4).bind fun t505 => ((spec_l04Interest.f a1 t505).bind fun t506 => ((spec_l04Result.f (wrap64 ((wrap64 (a1 + t504)) + t506))).bind fun bt507 => (some (bt507.1, bt507.2))))) = some (r1, r2) := H
            have A14 := Aside0.mk A140
            clear A140
            replace H := Option.bind_eq_some_iff.mp H
            obtain ⟨t505, A150, H⟩ := H
            replace H : ((spec_l04Interest.f a1 t505).bind fun t506 => ((spec_l04Result.f (wrap64 ((wrap64 (a1 + t504)) + t506))).bind fun bt507 => (some (bt507.1, bt507.2)))) = some (r1, r2) := H
            have A15 := Aside0.mk A150
            clear A150
            replace H := Option.bind_eq_some_iff.mp H
            obtain ⟨t506, A160, H⟩ := H
            replace H : ((spec_l04Result.f (wrap64 ((wrap64 (a1 + t504)) + t506))).bind fun bt507 => (some (bt507.1, bt507.2))) = some (r1, r2) := H
            have A16 := Aside0.mk A160
            clear A160
            replace H := Option.bind_eq_some_iff.mp H
            obtain ⟨⟨t507, t508⟩, A170, H⟩ := H
            replace H : (some (t507, t508)) = some (r1, r2) := H
            have A17 := Aside0.mk A170
            clear A170
            simp only [Option.some.injEq, Prod.mk.injEq] at H
            obtain ⟨rfl, rfl⟩ := H
            go_wp2_with (first | ((with_reducible refine gate_callee (f := 61) rfl ?_); refine goesL_ (some 31) rfl rfl Try.func61 (by kernel_rfl) rfl #[.int .i64 a1, .int .i64 a2] rfl (by (try simp only [List.map_toArray, List.map_cons, List.map_nil]); first | done | rfl | (simp only [List.length_drop, List.length_take]; rfl)) ?_; (with_reducible refine (spec_l04Commission.calls a1 a2 t504 _ A14.out).mono ?_); rintro e w' ⟨rfl, ⟨nd, rfl⟩⟩; refine ⟨_, rfl, ?_⟩) | ((with_reducible refine gate_callee (f := 42) rfl ?_); refine goesL_ (some 37) rfl rfl Try.func42 (by kernel_rfl) rfl #[.slice A0 l0.length c0, .int .i64 a3, .int .i64 a4] rfl (by (try simp only [List.map_toArray, List.map_cons, List.map_nil]); first | done | rfl | (simp only [List.length_drop, List.length_take]; rfl)) ?_; (with_reducible refine (spec_l04Weight.calls kj10 _ _ l0 a3 a4 t505 _ ?side1 ?side2 A15.out).mono ?_); (case side1 => repeat (first | exact (Kd.C_below HR0.out (by repeat (first | (with_reducible first | exact HB.out | apply below_alloc | apply pw_below_drewN | apply below_drew1) | exact HB.out))) | (with_reducible refine Kd.C_alloc ?_ _) | (with_reducible refine Kd.C_drewN ?_ _) | (with_reducible refine Kd.C_drew ?_))); (case side2 => exact HC0.out); rintro e w18 ⟨rfl, hb⟩; refine ⟨_, rfl, ?_⟩; have n0_ := Aside0.mk (below_step (by repeat (first | (with_reducible first | exact HB.out | apply below_alloc | apply pw_below_drewN | apply below_drew1) | exact HB.out)) hb); clear HB; have HB := n0_; clear n0_; (try clear hb); (try clear hb2); (try clear hk); (try clear hi)) | ((with_reducible refine gate_callee (f := 41) rfl ?_); refine goesL_ (some 38) rfl rfl Try.func41 (by kernel_rfl) rfl #[.int .i64 a1, .int .i64 t505] rfl (by (try simp only [List.map_toArray, List.map_cons, List.map_nil]); first | done | rfl | (simp only [List.length_drop, List.length_take]; rfl)) ?_; (with_reducible refine (spec_l04Interest.calls a1 t505 t506 _ A16.out).mono ?_); rintro e w' ⟨rfl, ⟨nd, rfl⟩⟩; refine ⟨_, rfl, ?_⟩) | ((with_reducible refine gate_callee (f := 40) rfl ?_); refine goesL_ (some 40) rfl rfl Try.func40 (by kernel_rfl) rfl #[.int .i64 (wrap64 ((wrap64 (a1 + t504)) + t506))] rfl (by (try simp only [List.map_toArray, List.map_cons, List.map_nil]); first | done | rfl | (simp only [List.length_drop, List.length_take]; rfl)) ?_; (with_reducible refine (spec_l04Result.calls (wrap64 ((wrap64 (a1 + t504)) + t506)) t507 t508 _ A17.out).mono ?_); rintro e w' ⟨rfl, ⟨nd, rfl⟩⟩; refine ⟨_, rfl, ?_⟩))
            go_ret2
            exact ⟨by first | rfl | (simp [errW_none, errW_some] <;> rfl) | (simp [*, errW_none, errW_some] <;> rfl), by repeat (first | (with_reducible first | exact HB.out | apply below_alloc | apply pw_below_drewN | apply below_drew1) | exact HB.out)⟩
          · rw [if_neg c13] at H
            have c13b0 : (x12_10 == 0) = false := beq_eq_false_iff_ne.mpr c13
            have c13b1 : (x12_10 != 0) = true := bne_iff_ne.mpr c13
            simp only [Option.some.injEq, Prod.mk.injEq] at H
            obtain ⟨rfl, rfl⟩ := H
            go_wp2
            go_ret2
            exact ⟨by first | rfl | (simp [errW_none, errW_some] <;> rfl) | (simp [*, errW_none, errW_some] <;> rfl), by repeat (first | (with_reducible first | exact HB.out | apply below_alloc | apply pw_below_drewN | apply below_drew1) | exact HB.out)⟩

/-! ### laws_FnDue: function 4 -/
mutual
def laws_FnDue.j0 : Nat → List (S37) → Int → Int → Int → Int → Int → Int → Int → Int → Bool → Option (Bool)
  | 0, _, _, _, _, _, _, _, _, _, _ => none
  | k + 1, x3, x4, x5, x6, x7, x8, x24, x28, x29, x167 => if x167 = true then (some false) else (if x29 = 0 then (laws_FnDue.j1 k x3 x4 x5 x6 x7 x8 (decide (x28 < x24))) else (laws_FnDue.j1 k x3 x4 x5 x6 x7 x8 false))
def laws_FnDue.j1 : Nat → List (S37) → Int → Int → Int → Int → Int → Bool → Option (Bool)
  | 0, _, _, _, _, _, _, _ => none
  | k + 1, x3, x4, x5, x6, x7, x8, x174 => if x174 = true then (some false) else (if x8 = 0 then ((impl_InterestBetween.f k x3 x4 x5 x7).bind fun bt545 => (if x7 < x5 then (laws_FnDue.j2 k x3 x4 x5 x6 x7 true) else (if bt545.2 = 0 then (if bt545.1 < x6 then (laws_FnDue.j2 k x3 x4 x5 x6 x7 true) else (laws_FnDue.j2 k x3 x4 x5 x6 x7 false)) else (laws_FnDue.j2 k x3 x4 x5 x6 x7 (bt545.2 != 3))))) else (some true))
def laws_FnDue.j2 : Nat → List (S37) → Int → Int → Int → Int → Bool → Option (Bool)
  | 0, _, _, _, _, _, _ => none
  | k + 1, x3, x4, x5, x6, x7, x204 => if x204 = true then (some false) else (if x7 = x5 then (some true) else ((impl_InterestBetween.f k x3 x4 x5 (wrap64 (x7 - 1))).bind fun bt547 => (if bt547.2 = 0 then (some (decide (bt547.1 < x6))) else (some false))))
end
def laws_FnDue.f (k : Nat) (l0 : List Int) : Option (Bool) := (laws_big.f l0).bind fun t509 => (if t509 = true then (some true) else ((spec_DrawDayWhenReached.f k l0).bind fun bt510 => ((impl_DayWhenReached.f k bt510.1 bt510.2.1 bt510.2.2.1 bt510.2.2.2).bind fun bt516 => ((spec_DayWhenReached.f k bt510.1 bt510.2.1 bt510.2.2.1 bt510.2.2.2).bind fun bt518 => ((spec_DrawCommissionOf.f k l0).bind fun bt520 => ((impl_CommissionOf.f k bt520.1 bt520.2).bind fun bt522 => ((spec_CommissionOf.f k bt520.1 bt520.2).bind fun bt524 => ((spec_DrawPointsOn.f k l0).bind fun bt526 => ((impl_PointsOn.f k bt526.1 bt526.2).bind fun bt530 => ((spec_PointsOn.f k bt526.1 bt526.2).bind fun bt532 => ((spec_DrawTotalDue.f k l0).bind fun bt534 => ((impl_TotalDue.f k bt534.1 bt534.2.1 bt534.2.2.1 bt534.2.2.2.1 bt534.2.2.2.2).bind fun bt541 => ((spec_TotalDue.f k bt534.1 bt534.2.1 bt534.2.2.1 bt534.2.2.2.1 bt534.2.2.2.2).bind fun bt543 => (if bt516.2 = bt518.2 then (if bt516.1 = bt518.1 then (if bt522.2 = bt524.2 then (if bt522.1 = bt524.1 then (if bt530.2 = bt532.2 then (if bt530.1 = bt532.1 then (if bt541.2 = bt543.2 then (if bt541.1 = bt543.1 then (if bt522.2 = 0 then (laws_FnDue.j0 k bt510.1 bt510.2.1 bt510.2.2.1 bt510.2.2.2 bt516.1 bt516.2 bt534.2.1 bt541.1 bt541.2 (decide (bt522.1 > bt520.1))) else (laws_FnDue.j0 k bt510.1 bt510.2.1 bt510.2.2.1 bt510.2.2.2 bt516.1 bt516.2 bt534.2.1 bt541.1 bt541.2 false)) else (laws_FnDue.j0 k bt510.1 bt510.2.1 bt510.2.2.1 bt510.2.2.2 bt516.1 bt516.2 bt534.2.1 bt541.1 bt541.2 true)) else (laws_FnDue.j0 k bt510.1 bt510.2.1 bt510.2.2.1 bt510.2.2.2 bt516.1 bt516.2 bt534.2.1 bt541.1 bt541.2 true)) else (laws_FnDue.j0 k bt510.1 bt510.2.1 bt510.2.2.1 bt510.2.2.2 bt516.1 bt516.2 bt534.2.1 bt541.1 bt541.2 true)) else (laws_FnDue.j0 k bt510.1 bt510.2.1 bt510.2.2.1 bt510.2.2.2 bt516.1 bt516.2 bt534.2.1 bt541.1 bt541.2 true)) else (laws_FnDue.j0 k bt510.1 bt510.2.1 bt510.2.2.1 bt510.2.2.2 bt516.1 bt516.2 bt534.2.1 bt541.1 bt541.2 true)) else (laws_FnDue.j0 k bt510.1 bt510.2.1 bt510.2.2.1 bt510.2.2.2 bt516.1 bt516.2 bt534.2.1 bt541.1 bt541.2 true)) else (laws_FnDue.j0 k bt510.1 bt510.2.1 bt510.2.2.1 bt510.2.2.2 bt516.1 bt516.2 bt534.2.1 bt541.1 bt541.2 true)) else (laws_FnDue.j0 k bt510.1 bt510.2.1 bt510.2.2.1 bt510.2.2.2 bt516.1 bt516.2 bt534.2.1 bt541.1 bt541.2 true)))))))))))))))
theorem laws_FnDue.mono_l : ∀ k, (∀ y0 y1 y2 y3 y4 y5 y6 y7 y8 y9, LeO (laws_FnDue.j0 k y0 y1 y2 y3 y4 y5 y6 y7 y8 y9) (laws_FnDue.j0 (k + 1) y0 y1 y2 y3 y4 y5 y6 y7 y8 y9)) ∧ (∀ y0 y1 y2 y3 y4 y5 y6, LeO (laws_FnDue.j1 k y0 y1 y2 y3 y4 y5 y6) (laws_FnDue.j1 (k + 1) y0 y1 y2 y3 y4 y5 y6)) ∧ (∀ y0 y1 y2 y3 y4 y5, LeO (laws_FnDue.j2 k y0 y1 y2 y3 y4 y5) (laws_FnDue.j2 (k + 1) y0 y1 y2 y3 y4 y5))
  | 0 => ⟨fun _ _ _ _ _ _ _ _ _ _ r h => by simp [laws_FnDue.j0] at h, fun _ _ _ _ _ _ _ r h => by simp [laws_FnDue.j1] at h, fun _ _ _ _ _ _ r h => by simp [laws_FnDue.j2] at h⟩
  | k + 1 => by
    obtain ⟨ih0, ih1, ih2⟩ := laws_FnDue.mono_l k
    refine ⟨?_, ?_, ?_⟩
    · intro y0 y1 y2 y3 y4 y5 y6 y7 y8 y9
      unfold laws_FnDue.j0
      repeat' first
      | (with_reducible exact ih0 _ _ _ _ _ _ _ _ _ _)
      | (with_reducible exact ih1 _ _ _ _ _ _ _)
      | (with_reducible exact ih2 _ _ _ _ _ _)
      | (with_reducible exact impl_CommissionOf.mono _ _ _)
      | (with_reducible exact impl_DayWhenReached.mono _ _ _ _ _)
      | (with_reducible exact impl_InterestBetween.mono _ _ _ _ _)
      | (with_reducible exact impl_PointsOn.mono _ _ _)
      | (with_reducible exact impl_TotalDue.mono _ _ _ _ _ _)
      | (with_reducible exact spec_CommissionOf.mono _ _ _)
      | (with_reducible exact spec_DayWhenReached.mono _ _ _ _ _)
      | (with_reducible exact spec_DrawCommissionOf.mono _ _)
      | (with_reducible exact spec_DrawDayWhenReached.mono _ _)
      | (with_reducible exact spec_DrawPointsOn.mono _ _)
      | (with_reducible exact spec_DrawTotalDue.mono _ _)
      | (with_reducible exact spec_PointsOn.mono _ _ _)
      | (with_reducible exact spec_TotalDue.mono _ _ _ _ _ _)
      | (with_reducible exact LeO.refl _)
      | (with_reducible exact LeO.none _)
      | (with_reducible refine LeO.ite ?_ ?_)
      | (with_reducible refine LeO.bind ?_ (fun _ => ?_))
      | exact ih0 _ _ _ _ _ _ _ _ _ _
      | exact ih1 _ _ _ _ _ _ _
      | exact ih2 _ _ _ _ _ _
      | exact impl_CommissionOf.mono _ _ _
      | exact impl_DayWhenReached.mono _ _ _ _ _
      | exact impl_InterestBetween.mono _ _ _ _ _
      | exact impl_PointsOn.mono _ _ _
      | exact impl_TotalDue.mono _ _ _ _ _ _
      | exact spec_CommissionOf.mono _ _ _
      | exact spec_DayWhenReached.mono _ _ _ _ _
      | exact spec_DrawCommissionOf.mono _ _
      | exact spec_DrawDayWhenReached.mono _ _
      | exact spec_DrawPointsOn.mono _ _
      | exact spec_DrawTotalDue.mono _ _
      | exact spec_PointsOn.mono _ _ _
      | exact spec_TotalDue.mono _ _ _ _ _ _
      | exact LeO.none _
      | refine LeO.ite ?_ ?_
      | refine LeO.bind ?_ (fun _ => ?_)
    · intro y0 y1 y2 y3 y4 y5 y6
      unfold laws_FnDue.j1
      repeat' first
      | (with_reducible exact ih0 _ _ _ _ _ _ _ _ _ _)
      | (with_reducible exact ih1 _ _ _ _ _ _ _)
      | (with_reducible exact ih2 _ _ _ _ _ _)
      | (with_reducible exact impl_CommissionOf.mono _ _ _)
      | (with_reducible exact impl_DayWhenReached.mono _ _ _ _ _)
      | (with_reducible exact impl_InterestBetween.mono _ _ _ _ _)
      | (with_reducible exact impl_PointsOn.mono _ _ _)
      | (with_reducible exact impl_TotalDue.mono _ _ _ _ _ _)
      | (with_reducible exact spec_CommissionOf.mono _ _ _)
      | (with_reducible exact spec_DayWhenReached.mono _ _ _ _ _)
      | (with_reducible exact spec_DrawCommissionOf.mono _ _)
      | (with_reducible exact spec_DrawDayWhenReached.mono _ _)
      | (with_reducible exact spec_DrawPointsOn.mono _ _)
      | (with_reducible exact spec_DrawTotalDue.mono _ _)
      | (with_reducible exact spec_PointsOn.mono _ _ _)
      | (with_reducible exact spec_TotalDue.mono _ _ _ _ _ _)
      | (with_reducible exact LeO.refl _)
      | (with_reducible exact LeO.none _)
      | (with_reducible refine LeO.ite ?_ ?_)
      | (with_reducible refine LeO.bind ?_ (fun _ => ?_))
      | exact ih0 _ _ _ _ _ _ _ _ _ _
      | exact ih1 _ _ _ _ _ _ _
      | exact ih2 _ _ _ _ _ _
      | exact impl_CommissionOf.mono _ _ _
      | exact impl_DayWhenReached.mono _ _ _ _ _
      | exact impl_InterestBetween.mono _ _ _ _ _
      | exact impl_PointsOn.mono _ _ _
      | exact impl_TotalDue.mono _ _ _ _ _ _
      | exact spec_CommissionOf.mono _ _ _
      | exact spec_DayWhenReached.mono _ _ _ _ _
      | exact spec_DrawCommissionOf.mono _ _
      | exact spec_DrawDayWhenReached.mono _ _
      | exact spec_DrawPointsOn.mono _ _
      | exact spec_DrawTotalDue.mono _ _
      | exact spec_PointsOn.mono _ _ _
      | exact spec_TotalDue.mono _ _ _ _ _ _
      | exact LeO.none _
      | refine LeO.ite ?_ ?_
      | refine LeO.bind ?_ (fun _ => ?_)
    · intro y0 y1 y2 y3 y4 y5
      unfold laws_FnDue.j2
      repeat' first
      | (with_reducible exact ih0 _ _ _ _ _ _ _ _ _ _)
      | (with_reducible exact ih1 _ _ _ _ _ _ _)
      | (with_reducible exact ih2 _ _ _ _ _ _)
      | (with_reducible exact impl_CommissionOf.mono _ _ _)
      | (with_reducible exact impl_DayWhenReached.mono _ _ _ _ _)
      | (with_reducible exact impl_InterestBetween.mono _ _ _ _ _)
      | (with_reducible exact impl_PointsOn.mono _ _ _)
      | (with_reducible exact impl_TotalDue.mono _ _ _ _ _ _)
      | (with_reducible exact spec_CommissionOf.mono _ _ _)
      | (with_reducible exact spec_DayWhenReached.mono _ _ _ _ _)
      | (with_reducible exact spec_DrawCommissionOf.mono _ _)
      | (with_reducible exact spec_DrawDayWhenReached.mono _ _)
      | (with_reducible exact spec_DrawPointsOn.mono _ _)
      | (with_reducible exact spec_DrawTotalDue.mono _ _)
      | (with_reducible exact spec_PointsOn.mono _ _ _)
      | (with_reducible exact spec_TotalDue.mono _ _ _ _ _ _)
      | (with_reducible exact LeO.refl _)
      | (with_reducible exact LeO.none _)
      | (with_reducible refine LeO.ite ?_ ?_)
      | (with_reducible refine LeO.bind ?_ (fun _ => ?_))
      | exact ih0 _ _ _ _ _ _ _ _ _ _
      | exact ih1 _ _ _ _ _ _ _
      | exact ih2 _ _ _ _ _ _
      | exact impl_CommissionOf.mono _ _ _
      | exact impl_DayWhenReached.mono _ _ _ _ _
      | exact impl_InterestBetween.mono _ _ _ _ _
      | exact impl_PointsOn.mono _ _ _
      | exact impl_TotalDue.mono _ _ _ _ _ _
      | exact spec_CommissionOf.mono _ _ _
      | exact spec_DayWhenReached.mono _ _ _ _ _
      | exact spec_DrawCommissionOf.mono _ _
      | exact spec_DrawDayWhenReached.mono _ _
      | exact spec_DrawPointsOn.mono _ _
      | exact spec_DrawTotalDue.mono _ _
      | exact spec_PointsOn.mono _ _ _
      | exact spec_TotalDue.mono _ _ _ _ _ _
      | exact LeO.none _
      | refine LeO.ite ?_ ?_
      | refine LeO.bind ?_ (fun _ => ?_)
theorem laws_FnDue.mono : ∀ a0 k, LeO (laws_FnDue.f k a0) (laws_FnDue.f (k + 1) a0) := by
  intro a0 k
  obtain ⟨ih0, ih1, ih2⟩ := laws_FnDue.mono_l k
  unfold laws_FnDue.f
  repeat' first
      | (with_reducible exact ih0 _ _ _ _ _ _ _ _ _ _)
      | (with_reducible exact ih1 _ _ _ _ _ _ _)
      | (with_reducible exact ih2 _ _ _ _ _ _)
      | (with_reducible exact impl_CommissionOf.mono _ _ _)
      | (with_reducible exact impl_DayWhenReached.mono _ _ _ _ _)
      | (with_reducible exact impl_InterestBetween.mono _ _ _ _ _)
      | (with_reducible exact impl_PointsOn.mono _ _ _)
      | (with_reducible exact impl_TotalDue.mono _ _ _ _ _ _)
      | (with_reducible exact spec_CommissionOf.mono _ _ _)
      | (with_reducible exact spec_DayWhenReached.mono _ _ _ _ _)
      | (with_reducible exact spec_DrawCommissionOf.mono _ _)
      | (with_reducible exact spec_DrawDayWhenReached.mono _ _)
      | (with_reducible exact spec_DrawPointsOn.mono _ _)
      | (with_reducible exact spec_DrawTotalDue.mono _ _)
      | (with_reducible exact spec_PointsOn.mono _ _ _)
      | (with_reducible exact spec_TotalDue.mono _ _ _ _ _ _)
      | (with_reducible exact LeO.refl _)
      | (with_reducible exact LeO.none _)
      | (with_reducible refine LeO.ite ?_ ?_)
      | (with_reducible refine LeO.bind ?_ (fun _ => ?_))
      | exact ih0 _ _ _ _ _ _ _ _ _ _
      | exact ih1 _ _ _ _ _ _ _
      | exact ih2 _ _ _ _ _ _
      | exact impl_CommissionOf.mono _ _ _
      | exact impl_DayWhenReached.mono _ _ _ _ _
      | exact impl_InterestBetween.mono _ _ _ _ _
      | exact impl_PointsOn.mono _ _ _
      | exact impl_TotalDue.mono _ _ _ _ _ _
      | exact spec_CommissionOf.mono _ _ _
      | exact spec_DayWhenReached.mono _ _ _ _ _
      | exact spec_DrawCommissionOf.mono _ _
      | exact spec_DrawDayWhenReached.mono _ _
      | exact spec_DrawPointsOn.mono _ _
      | exact spec_DrawTotalDue.mono _ _
      | exact spec_PointsOn.mono _ _ _
      | exact spec_TotalDue.mono _ _ _ _ _ _
      | exact LeO.none _
      | refine LeO.ite ?_ ?_
      | refine LeO.bind ?_ (fun _ => ?_)
set_option maxHeartbeats 8000000 in
set_option maxRecDepth 100000 in
theorem laws_FnDue.calls (k : Nat) (A0 : Option Addr) (c0 : Nat) (l0 : List Int) (r : Bool) (w : World) (hr0 : Kd.C (Kd.int .u8) w A0 l0.length l0) (hc0 : l0.length ≤ c0) (h : laws_FnDue.f k l0 = some r) :
    Calls Try.prog 4 #[.slice A0 l0.length c0] w fun e w' => e = .returned (.bool r) ∧ Below w.heap.size w w' := by
  have HR0 := Aside0.mk hr0
  have HC0 := Aside0.mk hc0
  clear hr0 hc0
  have HB := Aside0.mk (Below.refl w.heap.size w)
  have H : ((laws_big.f l0).bind fun t509 => (if t509 = true then (some true) else ((spec_DrawDayWhenReached.f k l0).bind fun bt510 => ((impl_DayWhenReached.f k bt510.1 bt510.2.1 bt510.2.2.1 bt510.2.2.2).bind fun bt516 => ((spec_DayWhenReached.f k bt510.1 bt510.2.1 bt510.2.2.1 bt510.2.2.2).bind fun bt518 => ((spec_DrawCommissionOf.f k l0).bind fun bt520 => ((impl_CommissionOf.f k bt520.1 bt520.2).bind fun bt522 => ((spec_CommissionOf.f k bt520.1 bt520.2).bind fun bt524 => ((spec_DrawPointsOn.f k l0).bind fun bt526 => ((impl_PointsOn.f k bt526.1 bt526.2).bind fun bt530 => ((spec_PointsOn.f k bt526.1 bt526.2).bind fun bt532 => ((spec_DrawTotalDue.f k l0).bind fun bt534 => ((impl_TotalDue.f k bt534.1 bt534.2.1 bt534.2.2.1 bt534.2.2.2.1 bt534.2.2.2.2).bind fun bt541 => ((spec_TotalDue.f k bt534.1 bt534.2.1 bt534.2.2.1 bt534.2.2.2.1 bt534.2.2.2.2).bind fun bt543 => (if bt516.2 = bt518.2 then (if bt516.1 = bt518.1 then (if bt522.2 = bt524.2 then (if bt522.1 = bt524.1 then (if bt530.2 = bt532.2 then (if bt530.1 = bt532.1 then (if bt541.2 = bt543.2 then (if bt541.1 = bt543.1 then (if bt522.2 = 0 then (laws_FnDue.j0 k bt510.1 bt510.2.1 bt510.2.2.1 bt510.2.2.2 bt516.1 bt516.2 bt534.2.1 bt541.1 bt541.2 (decide (bt522.1 > bt520.1))) else (laws_FnDue.j0 k bt510.1 bt510.2.1 bt510.2.2.1 bt510.2.2.2 bt516.1 bt516.2 bt534.2.1 bt541.1 bt541.2 false)) else (laws_FnDue.j0 k bt510.1 bt510.2.1 bt510.2.2.1 bt510.2.2.2 bt516.1 bt516.2 bt534.2.1 bt541.1 bt541.2 true)) else (laws_FnDue.j0 k bt510.1 bt510.2.1 bt510.2.2.1 bt510.2.2.2 bt516.1 bt516.2 bt534.2.1 bt541.1 bt541.2 true)) else (laws_FnDue.j0 k bt510.1 bt510.2.1 bt510.2.2.1 bt510.2.2.2 bt516.1 bt516.2 bt534.2.1 bt541.1 bt541.2 true)) else (laws_FnDue.j0 k bt510.1 bt510.2.1 bt510.2.2.1 bt510.2.2.2 bt516.1 bt516.2 bt534.2.1 bt541.1 bt541.2 true)) else (laws_FnDue.j0 k bt510.1 bt510.2.1 bt510.2.2.1 bt510.2.2.2 bt516.1 bt516.2 bt534.2.1 bt541.1 bt541.2 true)) else (laws_FnDue.j0 k bt510.1 bt510.2.1 bt510.2.2.1 bt510.2.2.2 bt516.1 bt516.2 bt534.2.1 bt541.1 bt541.2 true)) else (laws_FnDue.j0 k bt510.1 bt510.2.1 bt510.2.2.1 bt510.2.2.2 bt516.1 bt516.2 bt534.2.1 bt541.1 bt541.2 true)) else (laws_FnDue.j0 k bt510.1 bt510.2.1 bt510.2.2.1 bt510.2.2.2 bt516.1 bt516.2 bt534.2.1 bt541.1 bt541.2 true)))))))))))))))) = some r := h
  clear h
  replace H := Option.bind_eq_some_iff.mp H
  obtain ⟨t509, A20, H⟩ := H
  replace H : (if t509 = true then (some true) else ((spec_DrawDayWhenReached.f k l0).bind fun bt510 => ((impl_DayWhenReached.f k bt510.1 bt510.2.1 bt510.2.2.1 bt510.2.2.2).bind fun bt516 => ((spec_DayWhenReached.f k bt510.1 bt510.2.1 bt510.2.2.1 bt510.2.2.2).bind fun bt518 => ((spec_DrawCommissionOf.f k l0).bind fun bt520 => ((impl_CommissionOf.f k bt520.1 bt520.2).bind fun bt522 => ((spec_CommissionOf.f k bt520.1 bt520.2).bind fun bt524 => ((spec_DrawPointsOn.f k l0).bind fun bt526 => ((impl_PointsOn.f k bt526.1 bt526.2).bind fun bt530 => ((spec_PointsOn.f k bt526.1 bt526.2).bind fun bt532 => ((spec_DrawTotalDue.f k l0).bind fun bt534 => ((impl_TotalDue.f k bt534.1 bt534.2.1 bt534.2.2.1 bt534.2.2.2.1 bt534.2.2.2.2).bind fun bt541 => ((spec_TotalDue.f k bt534.1 bt534.2.1 bt534.2.2.1 bt534.2.2.2.1 bt534.2.2.2.2).bind fun bt543 => (if bt516.2 = bt518.2 then (if bt516.1 = bt518.1 then (if bt522.2 = bt524.2 then (if bt522.1 = bt524.1 then (if bt530.2 = bt532.2 then (if bt530.1 = bt532.1 then (if bt541.2 = bt543.2 then (if bt541.1 = bt543.1 then (if bt522.2 = 0 then (laws_FnDue.j0 k bt510.1 bt510.2.1 bt510.2.2.1 bt510.2.2.2 bt516.1 bt516.2 bt534.2.1 bt541.1 bt541.2 (decide (bt522.1 > bt520.1))) else (laws_FnDue.j0 k bt510.1 bt510.2.1 bt510.2.2.1 bt510.2.2.2 bt516.1 bt516.2 bt534.2.1 bt541.1 bt541.2 false)) else (laws_FnDue.j0 k bt510.1 bt510.2.1 bt510.2.2.1 bt510.2.2.2 bt516.1 bt516.2 bt534.2.1 bt541.1 bt541.2 true)) else (laws_FnDue.j0 k bt510.1 bt510.2.1 bt510.2.2.1 bt510.2.2.2 bt516.1 bt516.2 bt534.2.1 bt541.1 bt541.2 true)) else (laws_FnDue.j0 k bt510.1 bt510.2.1 bt510.2.2.1 bt510.2.2.2 bt516.1 bt516.2 bt534.2.1 bt541.1 bt541.2 true)) else (laws_FnDue.j0 k bt510.1 bt510.2.1 bt510.2.2.1 bt510.2.2.2 bt516.1 bt516.2 bt534.2.1 bt541.1 bt541.2 true)) else (laws_FnDue.j0 k bt510.1 bt510.2.1 bt510.2.2.1 bt510.2.2.2 bt516.1 bt516.2 bt534.2.1 bt541.1 bt541.2 true)) else (laws_FnDue.j0 k bt510.1 bt510.2.1 bt510.2.2.1 bt510.2.2.2 bt516.1 bt516.2 bt534.2.1 bt541.1 bt541.2 true)) else (laws_FnDue.j0 k bt510.1 bt510.2.1 bt510.2.2.1 bt510.2.2.2 bt516.1 bt516.2 bt534.2.1 bt541.1 bt541.2 true)) else (laws_FnDue.j0 k bt510.1 bt510.2.1 bt510.2.2.1 bt510.2.2.2 bt516.1 bt516.2 bt534.2.1 bt541.1 bt541.2 true))))))))))))))) = some r := H
  have A2 := Aside0.mk A20
  clear A20
  by_cases c3 : t509 = true
  · subst c3
    have H1 : (some true) = some r := by rw [if_pos rfl] at H; exact H
    clear H
    have H := H1
    clear H1
    obtain rfl := Option.some.inj H
    go_enter Try.func4, Try.ntmps4
    go_wp2_with (first | ((with_reducible refine gate_callee (f := 5) rfl ?_); refine goesL_ (some 37) rfl rfl Try.func5 (by kernel_rfl) rfl #[.slice A0 l0.length c0] rfl (by (try simp only [List.map_toArray, List.map_cons, List.map_nil]); first | done | rfl | (simp only [List.length_drop, List.length_take]; rfl)) ?_; (with_reducible refine (laws_big.calls _ _ l0 true _ ?side1 ?side2 A2.out).mono ?_); (case side1 => repeat (first | exact HR0.out | (with_reducible refine Kd.C_alloc ?_ _) | (with_reducible refine Kd.C_drewN ?_ _) | (with_reducible refine Kd.C_drew ?_))); (case side2 => exact HC0.out); rintro e w' ⟨rfl, ⟨nd, rfl⟩⟩; refine ⟨_, rfl, ?_⟩))
    go_ret
    exact ⟨by first | rfl | (simp [errW_none, errW_some] <;> rfl) | (simp [*, errW_none, errW_some] <;> rfl), by repeat (first | (with_reducible first | exact HB.out | apply below_alloc | apply pw_below_drewN | apply below_drew1) | exact HB.out)⟩
  · replace c3 := Bool.eq_false_iff.mpr c3
    subst c3
    have H1 : ((spec_DrawDayWhenReached.f k l0).bind fun bt510 => ((impl_DayWhenReached.f k bt510.1 bt510.2.1 bt510.2.2.1 bt510.2.2.2).bind fun bt516 => ((spec_DayWhenReached.f k bt510.1 bt510.2.1 bt510.2.2.1 bt510.2.2.2).bind fun bt518 => ((spec_DrawCommissionOf.f k l0).bind fun bt520 => ((impl_CommissionOf.f k bt520.1 bt520.2).bind fun bt522 => ((spec_CommissionOf.f k bt520.1 bt520.2).bind fun bt524 => ((spec_DrawPointsOn.f k l0).bind fun bt526 => ((impl_PointsOn.f k bt526.1 bt526.2).bind fun bt530 => ((spec_PointsOn.f k bt526.1 bt526.2).bind fun bt532 => ((spec_DrawTotalDue.f k l0).bind fun bt534 => ((impl_TotalDue.f k bt534.1 bt534.2.1 bt534.2.2.1 bt534.2.2.2.1 bt534.2.2.2.2).bind fun bt541 => ((spec_TotalDue.f k bt534.1 bt534.2.1 bt534.2.2.1 bt534.2.2.2.1 bt534.2.2.2.2).bind fun bt543 => (if bt516.2 = bt518.2 then (if bt516.1 = bt518.1 then (if bt522.2 = bt524.2 then (if bt522.1 = bt524.1 then (if bt530.2 = bt532.2 then (if bt530.1 = bt532.1 then (if bt541.2 = bt543.2 then (if bt541.1 = bt543.1 then (if bt522.2 = 0 then (laws_FnDue.j0 k bt510.1 bt510.2.1 bt510.2.2.1 bt510.2.2.2 bt516.1 bt516.2 bt534.2.1 bt541.1 bt541.2 (decide (bt522.1 > bt520.1))) else (laws_FnDue.j0 k bt510.1 bt510.2.1 bt510.2.2.1 bt510.2.2.2 bt516.1 bt516.2 bt534.2.1 bt541.1 bt541.2 false)) else (laws_FnDue.j0 k bt510.1 bt510.2.1 bt510.2.2.1 bt510.2.2.2 bt516.1 bt516.2 bt534.2.1 bt541.1 bt541.2 true)) else (laws_FnDue.j0 k bt510.1 bt510.2.1 bt510.2.2.1 bt510.2.2.2 bt516.1 bt516.2 bt534.2.1 bt541.1 bt541.2 true)) else (laws_FnDue.j0 k bt510.1 bt510.2.1 bt510.2.2.1 bt510.2.2.2 bt516.1 bt516.2 bt534.2.1 bt541.1 bt541.2 true)) else (laws_FnDue.j0 k bt510.1 bt510.2.1 bt510.2.2.1 bt510.2.2.2 bt516.1 bt516.2 bt534.2.1 bt541.1 bt541.2 true)) else (laws_FnDue.j0 k bt510.1 bt510.2.1 bt510.2.2.1 bt510.2.2.2 bt516.1 bt516.2 bt534.2.1 bt541.1 bt541.2 true)) else (laws_FnDue.j0 k bt510.1 bt510.2.1 bt510.2.2.1 bt510.2.2.2 bt516.1 bt516.2 bt534.2.1 bt541.1 bt541.2 true)) else (laws_FnDue.j0 k bt510.1 bt510.2.1 bt510.2.2.1 bt510.2.2.2 bt516.1 bt516.2 bt534.2.1 bt541.1 bt541.2 true)) else (laws_FnDue.j0 k bt510.1 bt510.2.1 bt510.2.2.1 bt510.2.2.2 bt516.1 bt516.2 bt534.2.1 bt541.1 bt541.2 true)))))))))))))) = some r := by rw [if_neg (show ¬ (false = true) by decide)] at H; exact H
    clear H
    have H := H1
    clear H1
    replace H := Option.bind_eq_some_iff.mp H
    obtain ⟨⟨t510, t511, t512, t513⟩, A40, H⟩ := H
    replace H : ((impl_DayWhenReached.f k t510 t511 t512 t513).bind fun bt516 => ((spec_DayWhenReached.f k t510 t511 t512 t513).bind fun bt518 => ((spec_DrawCommissionOf.f k l0).bind fun bt520 => ((impl_CommissionOf.f k bt520.1 bt520.2).bind fun bt522 => ((spec_CommissionOf.f k bt520.1 bt520.2).bind fun bt524 => ((spec_DrawPointsOn.f k l0).bind fun bt526 => ((impl_PointsOn.f k bt526.1 bt526.2).bind fun bt530 => ((spec_PointsOn.f k bt526.1 bt526.2).bind fun bt532 => ((spec_DrawTotalDue.f k l0).bind fun bt534 => ((impl_TotalDue.f k bt534.1 bt534.2.1 bt534.2.2.1 bt534.2.2.2.1 bt534.2.2.2.2).bind fun bt541 => ((spec_TotalDue.f k bt534.1 bt534.2.1 bt534.2.2.1 bt534.2.2.2.1 bt534.2.2.2.2).bind fun bt543 => (if bt516.2 = bt518.2 then (if bt516.1 = bt518.1 then (if bt522.2 = bt524.2 then (if bt522.1 = bt524.1 then (if bt530.2 = bt532.2 then (if bt530.1 = bt532.1 then (if bt541.2 = bt543.2 then (if bt541.1 = bt543.1 then (if bt522.2 = 0 then (laws_FnDue.j0 k t510 t511 t512 t513 bt516.1 bt516.2 bt534.2.1 bt541.1 bt541.2 (decide (bt522.1 > bt520.1))) else (laws_FnDue.j0 k t510 t511 t512 t513 bt516.1 bt516.2 bt534.2.1 bt541.1 bt541.2 false)) else (laws_FnDue.j0 k t510 t511 t512 t513 bt516.1 bt516.2 bt534.2.1 bt541.1 bt541.2 true)) else (laws_FnDue.j0 k t510 t511 t512 t513 bt516.1 bt516.2 bt534.2.1 bt541.1 bt541.2 true)) else (laws_FnDue.j0 k t510 t511 t512 t513 bt516.1 bt516.2 bt534.2.1 bt541.1 bt541.2 true)) else (laws_FnDue.j0 k t510 t511 t512 t513 bt516.1 bt516.2 bt534.2.1 bt541.1 bt541.2 true)) else (laws_FnDue.j0 k t510 t511 t512 t513 bt516.1 bt516.2 bt534.2.1 bt541.1 bt541.2 true)) else (laws_FnDue.j0 k t510 t511 t512 t513 bt516.1 bt516.2 bt534.2.1 bt541.1 bt541.2 true)) else (laws_FnDue.j0 k t510 t511 t512 t513 bt516.1 bt516.2 bt534.2.1 bt541.1 bt541.2 true)) else (laws_FnDue.j0 k t510 t511 t512 t513 bt516.1 bt516.2 bt534.2.1 bt541.1 bt541.2 true))))))))))))) = some r := H
    have A4 := Aside0.mk A40
    clear A40
    replace H := Option.bind_eq_some_iff.mp H
    obtain ⟨⟨t516, t517⟩, A50, H⟩ := H
    replace H : ((spec_DayWhenReached.f k t510 t511 t512 t513).bind fun bt518 => ((spec_DrawCommissionOf.f k l0).bind fun bt520 => ((impl_CommissionOf.f k bt520.1 bt520.2).bind fun bt522 => ((spec_CommissionOf.f k bt520.1 bt520.2).bind fun bt524 => ((spec_DrawPointsOn.f k l0).bind fun bt526 => ((impl_PointsOn.f k bt526.1 bt526.2).bind fun bt530 => ((spec_PointsOn.f k bt526.1 bt526.2).bind fun bt532 => ((spec_DrawTotalDue.f k l0).bind fun bt534 => ((impl_TotalDue.f k bt534.1 bt534.2.1 bt534.2.2.1 bt534.2.2.2.1 bt534.2.2.2.2).bind fun bt541 => ((spec_TotalDue.f k bt534.1 bt534.2.1 bt534.2.2.1 bt534.2.2.2.1 bt534.2.2.2.2).bind fun bt543 => (if t517 = bt518.2 then (if t516 = bt518.1 then (if bt522.2 = bt524.2 then (if bt522.1 = bt524.1 then (if bt530.2 = bt532.2 then (if bt530.1 = bt532.1 then (if bt541.2 = bt543.2 then (if bt541.1 = bt543.1 then (if bt522.2 = 0 then (laws_FnDue.j0 k t510 t511 t512 t513 t516 t517 bt534.2.1 bt541.1 bt541.2 (decide (bt522.1 > bt520.1))) else (laws_FnDue.j0 k t510 t511 t512 t513 t516 t517 bt534.2.1 bt541.1 bt541.2 false)) else (laws_FnDue.j0 k t510 t511 t512 t513 t516 t517 bt534.2.1 bt541.1 bt541.2 true)) else (laws_FnDue.j0 k t510 t511 t512 t513 t516 t517 bt534.2.1 bt541.1 bt541.2 true)) else (laws_FnDue.j0 k t510 t511 t512 t513 t516 t517 bt534.2.1 bt541.1 bt541.2 true)) else (laws_FnDue.j0 k t510 t511 t512 t513 t516 t517 bt534.2.1 bt541.1 bt541.2 true)) else (laws_FnDue.j0 k t510 t511 t512 t513 t516 t517 bt534.2.1 bt541.1 bt541.2 true)) else (laws_FnDue.j0 k t510 t511 t512 t513 t516 t517 bt534.2.1 bt541.1 bt541.2 true)) else (laws_FnDue.j0 k t510 t511 t512 t513 t516 t517 bt534.2.1 bt541.1 bt541.2 true)) else (laws_FnDue.j0 k t510 t511 t512 t513 t516 t517 bt534.2.1 bt541.1 bt541.2 true)))))))))))) = some r := H
    have A5 := Aside0.mk A50
    clear A50
    replace H := Option.bind_eq_some_iff.mp H
    obtain ⟨⟨t518, t519⟩, A60, H⟩ := H
    replace H : ((spec_DrawCommissionOf.f k l0).bind fun bt520 => ((impl_CommissionOf.f k bt520.1 bt520.2).bind fun bt522 => ((spec_CommissionOf.f k bt520.1 bt520.2).bind fun bt524 => ((spec_DrawPointsOn.f k l0).bind fun bt526 => ((impl_PointsOn.f k bt526.1 bt526.2).bind fun bt530 => ((spec_PointsOn.f k bt526.1 bt526.2).bind fun bt532 => ((spec_DrawTotalDue.f k l0).bind fun bt534 => ((impl_TotalDue.f k bt534.1 bt534.2.1 bt534.2.2.1 bt534.2.2.2.1 bt534.2.2.2.2).bind fun bt541 => ((spec_TotalDue.f k bt534.1 bt534.2.1 bt534.2.2.1 bt534.2.2.2.1 bt534.2.2.2.2).bind fun bt543 => (if t517 = t519 then (if t516 = t518 then (if bt522.2 = bt524.2 then (if bt522.1 = bt524.1 then (if bt530.2 = bt532.2 then (if bt530.1 = bt532.1 then (if bt541.2 = bt543.2 then (if bt541.1 = bt543.1 then (if bt522.2 = 0 then (laws_FnDue.j0 k t510 t511 t512 t513 t516 t517 bt534.2.1 bt541.1 bt541.2 (decide (bt522.1 > bt520.1))) else (laws_FnDue.j0 k t510 t511 t512 t513 t516 t517 bt534.2.1 bt541.1 bt541.2 false)) else (laws_FnDue.j0 k t510 t511 t512 t513 t516 t517 bt534.2.1 bt541.1 bt541.2 true)) else (laws_FnDue.j0 k t510 t511 t512 t513 t516 t517 bt534.2.1 bt541.1 bt541.2 true)) else (laws_FnDue.j0 k t510 t511 t512 t513 t516 t517 bt534.2.1 bt541.1 bt541.2 true)) else (laws_FnDue.j0 k t510 t511 t512 t513 t516 t517 bt534.2.1 bt541.1 bt541.2 true)) else (laws_FnDue.j0 k t510 t511 t512 t513 t516 t517 bt534.2.1 bt541.1 bt541.2 true)) else (laws_FnDue.j0 k t510 t511 t512 t513 t516 t517 bt534.2.1 bt541.1 bt541.2 true)) else (laws_FnDue.j0 k t510 t511 t512 t513 t516 t517 bt534.2.1 bt541.1 bt541.2 true)) else (laws_FnDue.j0 k t510 t511 t512 t513 t516 t517 bt534.2.1 bt541.1 bt541.2 true))))))))))) = some r := H
    have A6 := Aside0.mk A60
    clear A60
    replace H := Option.bind_eq_some_iff.mp H
    obtain ⟨⟨t520, t521⟩, A70, H⟩ := H
    replace H : ((impl_CommissionOf.f k t520 t521).bind fun bt522 => ((spec_CommissionOf.f k t520 t521).bind fun bt524 => ((spec_DrawPointsOn.f k l0).bind fun bt526 => ((impl_PointsOn.f k bt526.1 bt526.2).bind fun bt530 => ((spec_PointsOn.f k bt526.1 bt526.2).bind fun bt532 => ((spec_DrawTotalDue.f k l0).bind fun bt534 => ((impl_TotalDue.f k bt534.1 bt534.2.1 bt534.2.2.1 bt534.2.2.2.1 bt534.2.2.2.2).bind fun bt541 => ((spec_TotalDue.f k bt534.1 bt534.2.1 bt534.2.2.1 bt534.2.2.2.1 bt534.2.2.2.2).bind fun bt543 => (if t517 = t519 then (if t516 = t518 then (if bt522.2 = bt524.2 then (if bt522.1 = bt524.1 then (if bt530.2 = bt532.2 then (if bt530.1 = bt532.1 then (if bt541.2 = bt543.2 then (if bt541.1 = bt543.1 then (if bt522.2 = 0 then (laws_FnDue.j0 k t510 t511 t512 t513 t516 t517 bt534.2.1 bt541.1 bt541.2 (decide (bt522.1 > t520))) else (laws_FnDue.j0 k t510 t511 t512 t513 t516 t517 bt534.2.1 bt541.1 bt541.2 false)) else (laws_FnDue.j0 k t510 t511 t512 t513 t516 t517 bt534.2.1 bt541.1 bt541.2 true)) else (laws_FnDue.j0 k t510 t511 t512 t513 t516 t517 bt534.2.1 bt541.1 bt541.2 true)) else (laws_FnDue.j0 k t510 t511 t512 t513 t516 t517 bt534.2.1 bt541.1 bt541.2 true)) else (laws_FnDue.j0 k t510 t511 t512 t513 t516 t517 bt534.2.1 bt541.1 bt541.2 true)) else (laws_FnDue.j0 k t510 t511 t512 t513 t516 t517 bt534.2.1 bt541.1 bt541.2 true)) else (laws_FnDue.j0 k t510 t511 t512 t513 t516 t517 bt534.2.1 bt541.1 bt541.2 true)) else (laws_FnDue.j0 k t510 t511 t512 t513 t516 t517 bt534.2.1 bt541.1 bt541.2 true)) else (laws_FnDue.j0 k t510 t511 t512 t513 t516 t517 bt534.2.1 bt541.1 bt541.2 true)))))))))) = some r := H
    have A7 := Aside0.mk A70
    clear A70
    replace H := Option.bind_eq_some_iff.mp H
    obtain ⟨⟨t522, t523⟩, A80, H⟩ := H
    replace H : ((spec_CommissionOf.f k t520 t521).bind fun bt524 => ((spec_DrawPointsOn.f k l0).bind fun bt526 => ((impl_PointsOn.f k bt526.1 bt526.2).bind fun bt530 => ((spec_PointsOn.f k bt526.1 bt526.2).bind fun bt532 => ((spec_DrawTotalDue.f k l0).bind fun bt534 => ((impl_TotalDue.f k bt534.1 bt534.2.1 bt534.2.2.1 bt534.2.2.2.1 bt534.2.2.2.2).bind fun bt541 => ((spec_TotalDue.f k bt534.1 bt534.2.1 bt534.2.2.1 bt534.2.2.2.1 bt534.2.2.2.2).bind fun bt543 => (if t517 = t519 then (if t516 = t518 then (if t523 = bt524.2 then (if t522 = bt524.1 then (if bt530.2 = bt532.2 then (if bt530.1 = bt532.1 then (if bt541.2 = bt543.2 then (if bt541.1 = bt543.1 then (if t523 = 0 then (laws_FnDue.j0 k t510 t511 t512 t513 t516 t517 bt534.2.1 bt541.1 bt541.2 (decide (t522 > t520))) else (laws_FnDue.j0 k t510 t511 t512 t513 t516 t517 bt534.2.1 bt541.1 bt541.2 false)) else (laws_FnDue.j0 k t510 t511 t512 t513 t516 t517 bt534.2.1 bt541.1 bt541.2 true)) else (laws_FnDue.j0 k t510 t511 t512 t513 t516 t517 bt534.2.1 bt541.1 bt541.2 true)) else (laws_FnDue.j0 k t510 t511 t512 t513 t516 t517 bt534.2.1 bt541.1 bt541.2 true)) else (laws_FnDue.j0 k t510 t511 t512 t513 t516 t517 bt534.2.1 bt541.1 bt541.2 true)) else (laws_FnDue.j0 k t510 t511 t512 t513 t516 t517 bt534.2.1 bt541.1 bt541.2 true)) else (laws_FnDue.j0 k t510 t511 t512 t513 t516 t517 bt534.2.1 bt541.1 bt541.2 true)) else (laws_FnDue.j0 k t510 t511 t512 t513 t516 t517 bt534.2.1 bt541.1 bt541.2 true)) else (laws_FnDue.j0 k t510 t511 t512 t513 t516 t517 bt534.2.1 bt541.1 bt541.2 true))))))))) = some r := H
    have A8 := Aside0.mk A80
    clear A80
    replace H := Option.bind_eq_some_iff.mp H
    obtain ⟨⟨t524, t525⟩, A90, H⟩ := H
    replace H : ((spec_DrawPointsOn.f k l0).bind fun bt526 => ((impl_PointsOn.f k bt526.1 bt526.2).bind fun bt530 => ((spec_PointsOn.f k bt526.1 bt526.2).bind fun bt532 => ((spec_DrawTotalDue.f k l0).bind fun bt534 => ((impl_TotalDue.f k bt534.1 bt534.2.1 bt534.2.2.1 bt534.2.2.2.1 bt534.2.2.2.2).bind fun bt541 => ((spec_TotalDue.f k bt534.1 bt534.2.1 bt534.2.2.1 bt534.2.2.2.1 bt534.2.2.2.2).bind fun bt543 => (if t517 = t519 then (if t516 = t518 then (if t523 = t525 then (if t522 = t524 then (if bt530.2 = bt532.2 then (if bt530.1 = bt532.1 then (if bt541.2 = bt543.2 then (if bt541.1 = bt543.1 then (if t523 = 0 then (laws_FnDue.j0 k t510 t511 t512 t513 t516 t517 bt534.2.1 bt541.1 bt541.2 (decide (t522 > t520))) else (laws_FnDue.j0 k t510 t511 t512 t513 t516 t517 bt534.2.1 bt541.1 bt541.2 false)) else (laws_FnDue.j0 k t510 t511 t512 t513 t516 t517 bt534.2.1 bt541.1 bt541.2 true)) else (laws_FnDue.j0 k t510 t511 t512 t513 t516 t517 bt534.2.1 bt541.1 bt541.2 true)) else (laws_FnDue.j0 k t510 t511 t512 t513 t516 t517 bt534.2.1 bt541.1 bt541.2 true)) else (laws_FnDue.j0 k t510 t511 t512 t513 t516 t517 bt534.2.1 bt541.1 bt541.2 true)) else (laws_FnDue.j0 k t510 t511 t512 t513 t516 t517 bt534.2.1 bt541.1 bt541.2 true)) else (laws_FnDue.j0 k t510 t511 t512 t513 t516 t517 bt534.2.1 bt541.1 bt541.2 true)) else (laws_FnDue.j0 k t510 t511 t512 t513 t516 t517 bt534.2.1 bt541.1 bt541.2 true)) else (laws_FnDue.j0 k t510 t511 t512 t513 t516 t517 bt534.2.1 bt541.1 bt541.2 true)))))))) = some r := H
    have A9 := Aside0.mk A90
    clear A90
    replace H := Option.bind_eq_some_iff.mp H
    obtain ⟨⟨t526, t527⟩, A100, H⟩ := H
    replace H : ((impl_PointsOn.f k t526 t527).bind fun bt530 => ((spec_PointsOn.f k t526 t527).bind fun bt532 => ((spec_DrawTotalDue.f k l0).bind fun bt534 => ((impl_TotalDue.f k bt534.1 bt534.2.1 bt534.2.2.1 bt534.2.2.2.1 bt534.2.2.2.2).bind fun bt541 => ((spec_TotalDue.f k bt534.1 bt534.2.1 bt534.2.2.1 bt534.2.2.2.1 bt534.2.2.2.2).bind fun bt543 => (if t517 = t519 then (if t516 = t518 then (if t523 = t525 then (if t522 = t524 then (if bt530.2 = bt532.2 then (if bt530.1 = bt532.1 then (if bt541.2 = bt543.2 then (if bt541.1 = bt543.1 then (if t523 = 0 then (laws_FnDue.j0 k t510 t511 t512 t513 t516 t517 bt534.2.1 bt541.1 bt541.2 (decide (t522 > t520))) else (laws_FnDue.j0 k t510 t511 t512 t513 t516 t517 bt534.2.1 bt541.1 bt541.2 false)) else (laws_FnDue.j0 k t510 t511 t512 t513 t516 t517 bt534.2.1 bt541.1 bt541.2 true)) else (laws_FnDue.j0 k t510 t511 t512 t513 t516 t517 bt534.2.1 bt541.1 bt541.2 true)) else (laws_FnDue.j0 k t510 t511 t512 t513 t516 t517 bt534.2.1 bt541.1 bt541.2 true)) else (laws_FnDue.j0 k t510 t511 t512 t513 t516 t517 bt534.2.1 bt541.1 bt541.2 true)) else (laws_FnDue.j0 k t510 t511 t512 t513 t516 t517 bt534.2.1 bt541.1 bt541.2 true)) else (laws_FnDue.j0 k t510 t511 t512 t513 t516 t517 bt534.2.1 bt541.1 bt541.2 true)) else (laws_FnDue.j0 k t510 t511 t512 t513 t516 t517 bt534.2.1 bt541.1 bt541.2 true)) else (laws_FnDue.j0 k t510 t511 t512 t513 t516 t517 bt534.2.1 bt541.1 bt541.2 true))))))) = some r := H
    have A10 := Aside0.mk A100
    clear A100
    replace H := Option.bind_eq_some_iff.mp H
    obtain ⟨⟨t530, t531⟩, A110, H⟩ := H
    replace H : ((spec_PointsOn.f k t526 t527).bind fun bt532 => ((spec_DrawTotalDue.f k l0).bind fun bt534 => ((impl_TotalDue.f k bt534.1 bt534.2.1 bt534.2.2.1 bt534.2.2.2.1 bt534.2.2.2.2).bind fun bt541 => ((spec_TotalDue.f k bt534.1 bt534.2.1 bt534.2.2.1 bt534.2.2.2.1 bt534.2.2.2.2).bind fun bt543 => (if t517 = t519 then (if t516 = t518 then (if t523 = t525 then (if t522 = t524 then (if t531 = bt532.2 then (if t530 = bt532.1 then (if bt541.2 = bt543.2 then (if bt541.1 = bt543.1 then (if t523 = 0 then (laws_FnDue.j0 k t510 t511 t512 t513 t516 t517 bt534.2.1 bt541.1 bt541.2 (decide (t522 > t520))) else (laws_FnDue.j0 k t510 t511 t512 t513 t516 t517 bt534.2.1 bt541.1 bt541.2 false)) else (laws_FnDue.j0 k t510 t511 t512 t513 t516 t517 bt534.2.1 bt541.1 bt541.2 true)) else (laws_FnDue.j0 k t510 t511 t512 t513 t516 t517 bt534.2.1 bt541.1 bt541.2 true)) else (laws_FnDue.j0 k t510 t511 t512 t513 t516 t517 bt534.2.1 bt541.1 bt541.2 true)) else (laws_FnDue.j0 k t510 t511 t512 t513 t516 t517 bt534.2.1 bt541.1 bt541.2 true)) else (laws_FnDue.j0 k t510 t511 t512 t513 t516 t517 bt534.2.1 bt541.1 bt541.2 true)) else (laws_FnDue.j0 k t510 t511 t512 t513 t516 t517 bt534.2.1 bt541.1 bt541.2 true)) else (laws_FnDue.j0 k t510 t511 t512 t513 t516 t517 bt534.2.1 bt541.1 bt541.2 true)) else (laws_FnDue.j0 k t510 t511 t512 t513 t516 t517 bt534.2.1 bt541.1 bt541.2 true)))))) = some r := H
    have A11 := Aside0.mk A110
    clear A110
    replace H := Option.bind_eq_some_iff.mp H
    obtain ⟨⟨t532, t533⟩, A120, H⟩ := H
    replace H : ((spec_DrawTotalDue.f k l0).bind fun bt534 => ((impl_TotalDue.f k bt534.1 bt534.2.1 bt534.2.2.1 bt534.2.2.2.1 bt534.2.2.2.2).bind fun bt541 => ((spec_TotalDue.f k bt534.1 bt534.2.1 bt534.2.2.1 bt534.2.2.2.1 bt534.2.2.2.2).bind fun bt543 => (if t517 = t519 then (if t516 = t518 then (if t523 = t525 then (if t522 = t524 then (if t531 = t533 then (if t530 = t532 then (if bt541.2 = bt543.2 then (if bt541.1 = bt543.1 then (if t523 = 0 then (laws_FnDue.j0 k t510 t511 t512 t513 t516 t517 bt534.2.1 bt541.1 bt541.2 (decide (t522 > t520))) else (laws_FnDue.j0 k t510 t511 t512 t513 t516 t517 bt534.2.1 bt541.1 bt541.2 false)) else (laws_FnDue.j0 k t510 t511 t512 t513 t516 t517 bt534.2.1 bt541.1 bt541.2 true)) else (laws_FnDue.j0 k t510 t511 t512 t513 t516 t517 bt534.2.1 bt541.1 bt541.2 true)) else (laws_FnDue.j0 k t510 t511 t512 t513 t516 t517 bt534.2.1 bt541.1 bt541.2 true)) else (laws_FnDue.j0 k t510 t511 t512 t513 t516 t517 bt534.2.1 bt541.1 bt541.2 true)) else (laws_FnDue.j0 k t510 t511 t512 t513 t516 t517 bt534.2.1 bt541.1 bt541.2 true)) else (laws_FnDue.j0 k t510 t511 t512 t513 t516 t517 bt534.2.1 bt541.1 bt541.2 true)) else (laws_FnDue.j0 k t510 t511 t512 t513 t516 t517 bt534.2.1 bt541.1 bt541.2 true)) else (laws_FnDue.j0 k t510 t511 t512 t513 t516 t517 bt534.2.1 bt541.1 bt541.2 true))))) = some r := H
    have A12 := Aside0.mk A120
    clear A120
    replace H := Option.bind_eq_some_iff.mp H
    obtain ⟨⟨t534, t535, t536, t537, t538⟩, A130, H⟩ := H
    replace H : ((impl_TotalDue.f k t534 t535 t536 t537 t538).bind fun bt541 => ((spec_TotalDue.f k t534 t535 t536 t537 t538).bind fun bt543 => (if t517 = t519 then (if t516 = t518 then (if t523 = t525 then (if t522 = t524 then (if t531 = t533 then (if t530 = t532 then (if bt541.2 = bt543.2 then (if bt541.1 = bt543.1 then (if t523 = 0 then (laws_FnDue.j0 k t510 t511 t512 t513 t516 t517 t535 bt541.1 bt541.2 (decide (t522 > t520))) else (laws_FnDue.j0 k t510 t511 t512 t513 t516 t517 t535 bt541.1 bt541.2 false)) else (laws_FnDue.j0 k t510 t511 t512 t513 t516 t517 t535 bt541.1 bt541.2 true)) else (laws_FnDue.j0 k t510 t511 t512 t513 t516 t517 t535 bt541.1 bt541.2 true)) else (laws_FnDue.j0 k t510 t511 t512 t513 t516 t517 t535 bt541.1 bt541.2 true)) else (laws_FnDue.j0 k t510 t511 t512 t513 t516 t517 t535 bt541.1 bt541.2 true)) else (laws_FnDue.j0 k t510 t511 t512 t513 t516 t517 t535 bt541.1 bt541.2 true)) else (laws_FnDue.j0 k t510 t511 t512 t513 t516 t517 t535 bt541.1 bt541.2 true)) else (laws_FnDue.j0 k t510 t511 t512 t513 t516 t517 t535 bt541.1 bt541.2 true)) else (laws_FnDue.j0 k t510 t511 t512 t513 t516 t517 t535 bt541.1 bt541.2 true)))) = some r := H
    have A13 := Aside0.mk A130
    clear A130
    replace H := Option.bind_eq_some_iff.mp H
    obtain ⟨⟨t541, t542⟩, A140, H⟩ := H
    replace H : ((spec_TotalDue.f k t534 t535 t536 t537 t538).bind fun bt543 => (if t517 = t519 then (if t516 = t518 then (if t523 = t525 then (if t522 = t524 then (if t531 = t533 then (if t530 = t532 then (if t542 = bt543.2 then (if t541 = bt543.1 then (if t523 = 0 then (laws_FnDue.j0 k t510 t511 t512 t513 t516 t517 t535 t541 t542 (decide (t522 > t520))) else (laws_FnDue.j0 k t510 t511 t512 t513 t516 t517 t535 t541 t542 false)) else (laws_FnDue.j0 k t510 t511 t512 t513 t516 t517 t535 t541 t542 true)) else (laws_FnDue.j0 k t510 t511 t512 t513 t516 t517 t535 t541 t542 true)) else (laws_FnDue.j0 k t510 t511 t512 t513 t516 t517 t535 t541 t542 true)) else (laws_FnDue.j0 k t510 t511 t512 t513 t516 t517 t535 t541 t542 true)) else (laws_FnDue.j0 k t510 t511 t512 t513 t516 t517 t535 t541 t542 true)) else (laws_FnDue.j0 k t510 t511 t512 t513 t516 t517 t535 t541 t542 true)) else (laws_FnDue.j0 k t510 t511 t512 t513 t516 t517 t535 t541 t542 true)) else (laws_FnDue.j0 k t510 t511 t512 t513 t516 t517 t535 t541 t542 true))) = some r := H
    have A14 := Aside0.mk A140
    clear A140
    replace H := Option.bind_eq_some_iff.mp H
    obtain ⟨⟨t543, t544⟩, A150, H⟩ := H
    replace H : (if t517 = t519 then (if t516 = t518 then (if t523 = t525 then (if t522 = t524 then (if t531 = t533 then (if t530 = t532 then (if t542 = t544 then (if t541 = t543 then (if t523 = 0 then (laws_FnDue.j0 k t510 t511 t512 t513 t516 t517 t535 t541 t542 (decide (t522 > t520))) else (laws_FnDue.j0 k t510 t511 t512 t513 t516 t517 t535 t541 t542 false)) else (laws_FnDue.j0 k t510 t511 t512 t513 t516 t517 t535 t541 t542 true)) else (laws_FnDue.j0 k t510 t511 t512 t513 t516 t517 t535 t541 t542 true)) else (laws_FnDue.j0 k t510 t511 t512 t513 t516 t517 t535 t541 t542 true)) else (laws_FnDue.j0 k t510 t511 t512 t513 t516 t517 t535 t541 t542 true)) else (laws_FnDue.j0 k t510 t511 t512 t513 t516 t517 t535 t541 t542 true)) else (laws_FnDue.j0 k t510 t511 t512 t513 t516 t517 t535 t541 t542 true)) else (laws_FnDue.j0 k t510 t511 t512 t513 t516 t517 t535 t541 t542 true)) else (laws_FnDue.j0 k t510 t511 t512 t513 t516 t517 t535 t541 t542 true)) = some r := H
    have A15 := Aside0.mk A150
    clear A150
    have HC16 := Aside0.mk H
    clear H
    go_enter Try.func4, Try.ntmps4
    go_upto_region 15 with (first | ((with_reducible refine gate_callee (f := 5) rfl ?_); refine goesL_ (some 37) rfl rfl Try.func5 (by kernel_rfl) rfl #[.slice A0 l0.length c0] rfl (by (try simp only [List.map_toArray, List.map_cons, List.map_nil]); first | done | rfl | (simp only [List.length_drop, List.length_take]; rfl)) ?_; (with_reducible refine (laws_big.calls _ _ l0 false _ ?side1 ?side2 A2.out).mono ?_); (case side1 => repeat (first | exact HR0.out | (with_reducible refine Kd.C_alloc ?_ _) | (with_reducible refine Kd.C_drewN ?_ _) | (with_reducible refine Kd.C_drew ?_))); (case side2 => exact HC0.out); rintro e w' ⟨rfl, ⟨nd, rfl⟩⟩; refine ⟨_, rfl, ?_⟩) | ((with_reducible refine gate_callee (f := 19) rfl ?_); refine goesL_ (some 40) rfl rfl Try.func19 (by kernel_rfl) rfl #[.slice A0 l0.length c0] rfl (by (try simp only [List.map_toArray, List.map_cons, List.map_nil]); first | done | rfl | (simp only [List.length_drop, List.length_take]; rfl)) ?_; (with_reducible refine (spec_DrawDayWhenReached.calls k _ _ l0 t510 t511 t512 t513 _ ?side1 ?side2 A4.out).mono ?_); (case side1 => repeat (first | exact HR0.out | (with_reducible refine Kd.C_alloc ?_ _) | (with_reducible refine Kd.C_drewN ?_ _) | (with_reducible refine Kd.C_drew ?_))); (case side2 => exact HC0.out); rintro e w17 ⟨v514, rfl, ho0, hb⟩; refine ⟨_, rfl, ?_⟩; have n0_ := Aside0.mk (Kd.R_lower ho0 (below_size (by repeat (first | (with_reducible first | exact HB.out | apply below_alloc | apply pw_below_drewN | apply below_drew1) | exact HB.out)))); have n1_ := Aside0.mk (below_step (by repeat (first | (with_reducible first | exact HB.out | apply below_alloc | apply pw_below_drewN | apply below_drew1) | exact HB.out)) hb); clear HB; have HO515 := n0_; have HB := n1_; clear n0_ n1_; (try clear hb); (try clear hb2); (try clear hk); (try clear hi); (try clear ho0); obtain ⟨Ao18, co18, eo18⟩ := Kd.R_slice HO515.out; subst eo18) | ((with_reducible refine gate_callee (f := 20) rfl ?_); refine goesL_ (some 50) rfl rfl Try.func20 (by kernel_rfl) rfl #[.slice Ao18 t510.length co18, .int .i64 t511, .int .i64 t512, .int .i64 t513] rfl (by (try simp only [List.map_toArray, List.map_cons, List.map_nil]); first | done | rfl | (simp only [List.length_drop, List.length_take]; rfl)) ?_; (with_reducible refine (impl_DayWhenReached.calls k _ _ t510 t511 t512 t513 t516 t517 _ ?side1 ?side2 A5.out).mono ?_); (case side1 => repeat (first | exact (Kd.R_reads' HO515.out).2.2 | (with_reducible refine Kd.C_alloc ?_ _) | (with_reducible refine Kd.C_drewN ?_ _) | (with_reducible refine Kd.C_drew ?_))); (case side2 => exact (Kd.R_reads' HO515.out).2.1); rintro e w19 ⟨rfl, hb⟩; refine ⟨_, rfl, ?_⟩; have n0_ := Aside0.mk (Kd.R_below (by (with_reducible repeat (first | apply Kd.R_alloc | apply Kd.R_drewN | apply Kd.R_drew)); exact HO515.out) hb); have n1_ := Aside0.mk (below_step (by repeat (first | (with_reducible first | exact HB.out | apply below_alloc | apply pw_below_drewN | apply below_drew1) | exact HB.out)) hb); clear HO515; clear HB; have HO515 := n0_; have HB := n1_; clear n0_ n1_; (try clear hb); (try clear hb2); (try clear hk); (try clear hi)) | ((with_reducible refine gate_callee (f := 21) rfl ?_); refine goesL_ (some 58) rfl rfl Try.func21 (by kernel_rfl) rfl #[.slice Ao18 t510.length co18, .int .i64 t511, .int .i64 t512, .int .i64 t513] rfl (by (try simp only [List.map_toArray, List.map_cons, List.map_nil]); first | done | rfl | (simp only [List.length_drop, List.length_take]; rfl)) ?_; (with_reducible refine (spec_DayWhenReached.calls k _ _ t510 t511 t512 t513 t518 t519 _ ?side1 ?side2 A6.out).mono ?_); (case side1 => repeat (first | exact (Kd.R_reads' HO515.out).2.2 | (with_reducible refine Kd.C_alloc ?_ _) | (with_reducible refine Kd.C_drewN ?_ _) | (with_reducible refine Kd.C_drew ?_))); (case side2 => exact (Kd.R_reads' HO515.out).2.1); rintro e w20 ⟨rfl, hb⟩; refine ⟨_, rfl, ?_⟩; have n0_ := Aside0.mk (Kd.R_below (by (with_reducible repeat (first | apply Kd.R_alloc | apply Kd.R_drewN | apply Kd.R_drew)); exact HO515.out) hb); have n1_ := Aside0.mk (below_step (by repeat (first | (with_reducible first | exact HB.out | apply below_alloc | apply pw_below_drewN | apply below_drew1) | exact HB.out)) hb); clear HO515; clear HB; have HO515 := n0_; have HB := n1_; clear n0_ n1_; (try clear hb); (try clear hb2); (try clear hk); (try clear hi)) | ((with_reducible refine gate_callee (f := 22) rfl ?_); refine goesL_ (some 63) rfl rfl Try.func22 (by kernel_rfl) rfl #[.slice A0 l0.length c0] rfl (by (try simp only [List.map_toArray, List.map_cons, List.map_nil]); first | done | rfl | (simp only [List.length_drop, List.length_take]; rfl)) ?_; (with_reducible refine (spec_DrawCommissionOf.calls k _ _ l0 t520 t521 _ ?side1 ?side2 A7.out).mono ?_); (case side1 => repeat (first | exact (Kd.C_below HR0.out HB.out) | (with_reducible refine Kd.C_alloc ?_ _) | (with_reducible refine Kd.C_drewN ?_ _) | (with_reducible refine Kd.C_drew ?_))); (case side2 => exact HC0.out); rintro e w21 ⟨rfl, hb⟩; refine ⟨_, rfl, ?_⟩; have n0_ := Aside0.mk (Kd.R_below (by (with_reducible repeat (first | apply Kd.R_alloc | apply Kd.R_drewN | apply Kd.R_drew)); exact HO515.out) hb); have n1_ := Aside0.mk (below_step (by repeat (first | (with_reducible first | exact HB.out | apply below_alloc | apply pw_below_drewN | apply below_drew1) | exact HB.out)) hb); clear HO515; clear HB; have HO515 := n0_; have HB := n1_; clear n0_ n1_; (try clear hb); (try clear hb2); (try clear hk); (try clear hi)) | ((with_reducible refine gate_callee (f := 23) rfl ?_); refine goesL_ (some 69) rfl rfl Try.func23 (by kernel_rfl) rfl #[.int .i64 t520, .int .i64 t521] rfl (by (try simp only [List.map_toArray, List.map_cons, List.map_nil]); first | done | rfl | (simp only [List.length_drop, List.length_take]; rfl)) ?_; (with_reducible refine (impl_CommissionOf.calls k t520 t521 t522 t523 _ A8.out).mono ?_); rintro e w' ⟨rfl, ⟨nd, rfl⟩⟩; refine ⟨_, rfl, ?_⟩) | ((with_reducible refine gate_callee (f := 24) rfl ?_); refine goesL_ (some 75) rfl rfl Try.func24 (by kernel_rfl) rfl #[.int .i64 t520, .int .i64 t521] rfl (by (try simp only [List.map_toArray, List.map_cons, List.map_nil]); first | done | rfl | (simp only [List.length_drop, List.length_take]; rfl)) ?_; (with_reducible refine (spec_CommissionOf.calls k t520 t521 t524 t525 _ A9.out).mono ?_); rintro e w' ⟨rfl, ⟨nd, rfl⟩⟩; refine ⟨_, rfl, ?_⟩) | ((with_reducible refine gate_callee (f := 25) rfl ?_); refine goesL_ (some 80) rfl rfl Try.func25 (by kernel_rfl) rfl #[.slice A0 l0.length c0] rfl (by (try simp only [List.map_toArray, List.map_cons, List.map_nil]); first | done | rfl | (simp only [List.length_drop, List.length_take]; rfl)) ?_; (with_reducible refine (spec_DrawPointsOn.calls k _ _ l0 t526 t527 _ ?side1 ?side2 A10.out).mono ?_); (case side1 => repeat (first | exact (Kd.C_below HR0.out (by repeat (first | (with_reducible first | exact HB.out | apply below_alloc | apply pw_below_drewN | apply below_drew1) | exact HB.out))) | (with_reducible refine Kd.C_alloc ?_ _) | (with_reducible refine Kd.C_drewN ?_ _) | (with_reducible refine Kd.C_drew ?_))); (case side2 => exact HC0.out); rintro e w22 ⟨v528, rfl, ho0, hb⟩; refine ⟨_, rfl, ?_⟩; have n0_ := Aside0.mk (Kd.R_elder' (by (with_reducible repeat (first | apply Kd.R_alloc | apply Kd.R_drewN | apply Kd.R_drew)); exact HO515.out) (Kd.R_base ho0) hb); have n1_ := Aside0.mk (Kd.R_lower (Kd.R_new' ho0 (Kd.R_lt (by (with_reducible repeat (first | apply Kd.R_alloc | apply Kd.R_drewN | apply Kd.R_drew)); exact HO515.out))) (below_size (by repeat (first | (with_reducible first | exact HB.out | apply below_alloc | apply pw_below_drewN | apply below_drew1) | exact HB.out)))); have n2_ := Aside0.mk (below_step (by repeat (first | (with_reducible first | exact HB.out | apply below_alloc | apply pw_below_drewN | apply below_drew1) | exact HB.out)) hb); clear HO515; clear HB; have HO515 := n0_; have HO529 := n1_; have HB := n2_; clear n0_ n1_ n2_; (try clear hb); (try clear hb2); (try clear hk); (try clear hi); (try clear ho0); obtain ⟨Ao23, co23, eo23⟩ := Kd.R_slice HO529.out; subst eo23) | ((with_reducible refine gate_callee (f := 26) rfl ?_); refine goesL_ (some 86) rfl rfl Try.func26 (by kernel_rfl) rfl #[.slice Ao23 t526.length co23, .int .i64 t527] rfl (by (try simp only [List.map_toArray, List.map_cons, List.map_nil]); first | done | rfl | (simp only [List.length_drop, List.length_take]; rfl)) ?_; (with_reducible refine (impl_PointsOn.calls k _ _ t526 t527 t530 t531 _ ?side1 ?side2 A11.out).mono ?_); (case side1 => repeat (first | exact (Kd.R_reads' HO529.out).2.2 | (with_reducible refine Kd.C_alloc ?_ _) | (with_reducible refine Kd.C_drewN ?_ _) | (with_reducible refine Kd.C_drew ?_))); (case side2 => exact (Kd.R_reads' HO529.out).2.1); rintro e w24 ⟨rfl, hb⟩; refine ⟨_, rfl, ?_⟩; have n0_ := Aside0.mk (Kd.R_below (by (with_reducible repeat (first | apply Kd.R_alloc | apply Kd.R_drewN | apply Kd.R_drew)); exact HO515.out) hb); have n1_ := Aside0.mk (Kd.R_below (by (with_reducible repeat (first | apply Kd.R_alloc | apply Kd.R_drewN | apply Kd.R_drew)); exact HO529.out) hb); have n2_ := Aside0.mk (below_step (by repeat (first | (with_reducible first | exact HB.out | apply below_alloc | apply pw_below_drewN | apply below_drew1) | exact HB.out)) hb); clear HO515; clear HO529; clear HB; have HO515 := n0_; have HO529 := n1_; have HB := n2_; clear n0_ n1_ n2_; (try clear hb); (try clear hb2); (try clear hk); (try clear hi)) | ((with_reducible refine gate_callee (f := 27) rfl ?_); refine goesL_ (some 92) rfl rfl Try.func27 (by kernel_rfl) rfl #[.slice Ao23 t526.length co23, .int .i64 t527] rfl (by (try simp only [List.map_toArray, List.map_cons, List.map_nil]); first | done | rfl | (simp only [List.length_drop, List.length_take]; rfl)) ?_; (with_reducible refine (spec_PointsOn.calls k _ _ t526 t527 t532 t533 _ ?side1 ?side2 A12.out).mono ?_); (case side1 => repeat (first | exact (Kd.R_reads' HO529.out).2.2 | (with_reducible refine Kd.C_alloc ?_ _) | (with_reducible refine Kd.C_drewN ?_ _) | (with_reducible refine Kd.C_drew ?_))); (case side2 => exact (Kd.R_reads' HO529.out).2.1); rintro e w25 ⟨rfl, hb⟩; refine ⟨_, rfl, ?_⟩; have n0_ := Aside0.mk (Kd.R_below (by (with_reducible repeat (first | apply Kd.R_alloc | apply Kd.R_drewN | apply Kd.R_drew)); exact HO515.out) hb); have n1_ := Aside0.mk (Kd.R_below (by (with_reducible repeat (first | apply Kd.R_alloc | apply Kd.R_drewN | apply Kd.R_drew)); exact HO529.out) hb); have n2_ := Aside0.mk (below_step (by repeat (first | (with_reducible first | exact HB.out | apply below_alloc | apply pw_below_drewN | apply below_drew1) | exact HB.out)) hb); clear HO515; clear HO529; clear HB; have HO515 := n0_; have HO529 := n1_; have HB := n2_; clear n0_ n1_ n2_; (try clear hb); (try clear hb2); (try clear hk); (try clear hi)) | ((with_reducible refine gate_callee (f := 28) rfl ?_); refine goesL_ (some 97) rfl rfl Try.func28 (by kernel_rfl) rfl #[.slice A0 l0.length c0] rfl (by (try simp only [List.map_toArray, List.map_cons, List.map_nil]); first | done | rfl | (simp only [List.length_drop, List.length_take]; rfl)) ?_; (with_reducible refine (spec_DrawTotalDue.calls k _ _ l0 t534 t535 t536 t537 t538 _ ?side1 ?side2 A13.out).mono ?_); (case side1 => repeat (first | exact (Kd.C_below HR0.out HB.out) | (with_reducible refine Kd.C_alloc ?_ _) | (with_reducible refine Kd.C_drewN ?_ _) | (with_reducible refine Kd.C_drew ?_))); (case side2 => exact HC0.out); rintro e w26 ⟨v539, rfl, ho0, hb⟩; refine ⟨_, rfl, ?_⟩; have n0_ := Aside0.mk (Kd.R_elder' (by (with_reducible repeat (first | apply Kd.R_alloc | apply Kd.R_drewN | apply Kd.R_drew)); exact HO515.out) (Kd.R_base ho0) hb); have n1_ := Aside0.mk (Kd.R_elder' (by (with_reducible repeat (first | apply Kd.R_alloc | apply Kd.R_drewN | apply Kd.R_drew)); exact HO529.out) (Kd.R_base ho0) hb); have n2_ := Aside0.mk (Kd.R_lower (Kd.R_new' (Kd.R_new' ho0 (Kd.R_lt (by (with_reducible repeat (first | apply Kd.R_alloc | apply Kd.R_drewN | apply Kd.R_drew)); exact HO515.out))) (Kd.R_lt (by (with_reducible repeat (first | apply Kd.R_alloc | apply Kd.R_drewN | apply Kd.R_drew)); exact HO529.out))) (below_size (by repeat (first | (with_reducible first | exact HB.out | apply below_alloc | apply pw_below_drewN | apply below_drew1) | exact HB.out)))); have n3_ := Aside0.mk (below_step (by repeat (first | (with_reducible first | exact HB.out | apply below_alloc | apply pw_below_drewN | apply below_drew1) | exact HB.out)) hb); clear HO515; clear HO529; clear HB; have HO515 := n0_; have HO529 := n1_; have HO540 := n2_; have HB := n3_; clear n0_ n1_ n2_ n3_; (try clear hb); (try clear hb2); (try clear hk); (try clear hi); (try clear ho0); obtain ⟨Ao27, co27, eo27⟩ := Kd.R_slice HO540.out; subst eo27) | ((with_reducible refine gate_callee (f := 29) rfl ?_); refine goesL_ (some 109) rfl rfl Try.func29 (by kernel_rfl) rfl #[.slice Ao27 t534.length co27, .int .i64 t535, .int .i64 t536, .int .i64 t537, .int .i64 t538] rfl (by (try simp only [List.map_toArray, List.map_cons, List.map_nil]); first | done | rfl | (simp only [List.length_drop, List.length_take]; rfl)) ?_; (with_reducible refine (impl_TotalDue.calls k _ _ t534 t535 t536 t537 t538 t541 t542 _ ?side1 ?side2 A14.out).mono ?_); (case side1 => repeat (first | exact (Kd.R_reads' HO540.out).2.2 | (with_reducible refine Kd.C_alloc ?_ _) | (with_reducible refine Kd.C_drewN ?_ _) | (with_reducible refine Kd.C_drew ?_))); (case side2 => exact (Kd.R_reads' HO540.out).2.1); rintro e w28 ⟨rfl, hb⟩; refine ⟨_, rfl, ?_⟩; have n0_ := Aside0.mk (Kd.R_below (by (with_reducible repeat (first | apply Kd.R_alloc | apply Kd.R_drewN | apply Kd.R_drew)); exact HO515.out) hb); have n1_ := Aside0.mk (Kd.R_below (by (with_reducible repeat (first | apply Kd.R_alloc | apply Kd.R_drewN | apply Kd.R_drew)); exact HO529.out) hb); have n2_ := Aside0.mk (Kd.R_below (by (with_reducible repeat (first | apply Kd.R_alloc | apply Kd.R_drewN | apply Kd.R_drew)); exact HO540.out) hb); have n3_ := Aside0.mk (below_step (by repeat (first | (with_reducible first | exact HB.out | apply below_alloc | apply pw_below_drewN | apply below_drew1) | exact HB.out)) hb); clear HO515; clear HO529; clear HO540; clear HB; have HO515 := n0_; have HO529 := n1_; have HO540 := n2_; have HB := n3_; clear n0_ n1_ n2_ n3_; (try clear hb); (try clear hb2); (try clear hk); (try clear hi)) | ((with_reducible refine gate_callee (f := 30) rfl ?_); refine goesL_ (some 118) rfl rfl Try.func30 (by kernel_rfl) rfl #[.slice Ao27 t534.length co27, .int .i64 t535, .int .i64 t536, .int .i64 t537, .int .i64 t538] rfl (by (try simp only [List.map_toArray, List.map_cons, List.map_nil]); first | done | rfl | (simp only [List.length_drop, List.length_take]; rfl)) ?_; (with_reducible refine (spec_TotalDue.calls k _ _ t534 t535 t536 t537 t538 t543 t544 _ ?side1 ?side2 A15.out).mono ?_); (case side1 => repeat (first | exact (Kd.R_reads' HO540.out).2.2 | (with_reducible refine Kd.C_alloc ?_ _) | (with_reducible refine Kd.C_drewN ?_ _) | (with_reducible refine Kd.C_drew ?_))); (case side2 => exact (Kd.R_reads' HO540.out).2.1); rintro e w29 ⟨rfl, hb⟩; refine ⟨_, rfl, ?_⟩; have n0_ := Aside0.mk (Kd.R_below (by (with_reducible repeat (first | apply Kd.R_alloc | apply Kd.R_drewN | apply Kd.R_drew)); exact HO515.out) hb); have n1_ := Aside0.mk (Kd.R_below (by (with_reducible repeat (first | apply Kd.R_alloc | apply Kd.R_drewN | apply Kd.R_drew)); exact HO529.out) hb); have n2_ := Aside0.mk (Kd.R_below (by (with_reducible repeat (first | apply Kd.R_alloc | apply Kd.R_drewN | apply Kd.R_drew)); exact HO540.out) hb); have n3_ := Aside0.mk (below_step (by repeat (first | (with_reducible first | exact HB.out | apply below_alloc | apply pw_below_drewN | apply below_drew1) | exact HB.out)) hb); clear HO515; clear HO529; clear HO540; clear HB; have HO515 := n0_; have HO529 := n1_; have HO540 := n2_; have HB := n3_; clear n0_ n1_ n2_ n3_; (try clear hb); (try clear hb2); (try clear hk); (try clear hi)))
    (try simp only [Act.put, List.setIfInBounds_toArray, List.set_cons_zero, List.set_cons_succ])
    go_cut [167] (fun v167 wc => ∃ (kq : Nat) (x167_15 : Bool), v167 = .bool x167_15 ∧ Aside0 (laws_FnDue.j0 kq t510 t511 t512 t513 t516 t517 t535 t541 t542 x167_15 = some r) ∧ Aside0 (kq ≤ k) ∧ Aside0 (Kd.R k37 37 wc w.heap.size (fun _ => True) (.slice Ao18 t510.length co18) t510) ∧ Aside0 (Below w.heap.size w wc))
    case first =>
      as_aux_lemma =>
        have H := HC16.out
        clear HC16
        by_cases c30 : t517 = t519
        · rw [if_pos c30] at H
          have c30b0 : (t517 == t519) = true := beq_iff_eq.mpr c30
          have c30b1 : (t517 != t519) = false := bne_eq_false_iff_eq.mpr c30
          clear c30
          (first | rw [c30b0] | (simp only [i64_w, i32_w]; rw [c30b0]) | skip)
          by_cases c31 : t516 = t518
          · rw [if_pos c31] at H
            have c31b0 : (t516 == t518) = true := beq_iff_eq.mpr c31
            have c31b1 : (t516 != t518) = false := bne_eq_false_iff_eq.mpr c31
            clear c31
            by_cases c32 : t523 = t525
            · rw [if_pos c32] at H
              have c32b0 : (t523 == t525) = true := beq_iff_eq.mpr c32
              have c32b1 : (t523 != t525) = false := bne_eq_false_iff_eq.mpr c32
              clear c32
              by_cases c33 : t522 = t524
              · rw [if_pos c33] at H
                have c33b0 : (t522 == t524) = true := beq_iff_eq.mpr c33
                have c33b1 : (t522 != t524) = false := bne_eq_false_iff_eq.mpr c33
                clear c33
                by_cases c34 : t531 = t533
                · rw [if_pos c34] at H
                  have c34b0 : (t531 == t533) = true := beq_iff_eq.mpr c34
                  have c34b1 : (t531 != t533) = false := bne_eq_false_iff_eq.mpr c34
                  clear c34
                  by_cases c35 : t530 = t532
                  · rw [if_pos c35] at H
                    have c35b0 : (t530 == t532) = true := beq_iff_eq.mpr c35
                    have c35b1 : (t530 != t532) = false := bne_eq_false_iff_eq.mpr c35
                    clear c35
                    by_cases c36 : t542 = t544
                    · rw [if_pos c36] at H
                      have c36b0 : (t542 == t544) = true := beq_iff_eq.mpr c36
                      have c36b1 : (t542 != t544) = false := bne_eq_false_iff_eq.mpr c36
                      clear c36
                      by_cases c37 : t541 = t543
                      · rw [if_pos c37] at H
                        have c37b0 : (t541 == t543) = true := beq_iff_eq.mpr c37
                        have c37b1 : (t541 != t543) = false := bne_eq_false_iff_eq.mpr c37
                        clear c37
                        by_cases c38 : t523 = 0
                        · rw [if_pos c38] at H
                          have c38b0 : (t523 == 0) = true := beq_iff_eq.mpr c38
                          have c38b1 : (t523 != 0) = false := bne_eq_false_iff_eq.mpr c38
                          clear c38
                          have H' := Aside0.mk H
                          clear H
                          go_wp2
                          go_meet
                          case rel => exact ⟨_, (decide (t522 > t520)), (by first | rfl | (simp; done) | (simp [*]; done)), H', ⟨by first | omega | exact Nat.le_refl _⟩, ⟨by (with_reducible repeat (first | apply Kd.R_alloc | apply Kd.R_drewN | apply Kd.R_drew)); exact Kd.R_mono HO515.out (fun _ hk => trivial)⟩, ⟨by repeat (first | (with_reducible first | exact HB.out | apply below_alloc | apply pw_below_drewN | apply below_drew1) | exact HB.out)⟩⟩
                        · rw [if_neg c38] at H
                          have c38b0 : (t523 == 0) = false := beq_eq_false_iff_ne.mpr c38
                          have c38b1 : (t523 != 0) = true := bne_iff_ne.mpr c38
                          have H' := Aside0.mk H
                          clear H
                          go_wp2
                          go_meet
                          case rel => exact ⟨_, (false), (by first | rfl | (simp; done) | (simp [*]; done)), H', ⟨by first | omega | exact Nat.le_refl _⟩, ⟨by (with_reducible repeat (first | apply Kd.R_alloc | apply Kd.R_drewN | apply Kd.R_drew)); exact Kd.R_mono HO515.out (fun _ hk => trivial)⟩, ⟨by repeat (first | (with_reducible first | exact HB.out | apply below_alloc | apply pw_below_drewN | apply below_drew1) | exact HB.out)⟩⟩
                      · rw [if_neg c37] at H
                        have c37b0 : (t541 == t543) = false := beq_eq_false_iff_ne.mpr c37
                        have c37b1 : (t541 != t543) = true := bne_iff_ne.mpr c37
                        have H' := Aside0.mk H
                        clear H
                        go_wp2
                        go_meet
                        case rel => exact ⟨_, (true), (by first | rfl | (simp; done) | (simp [*]; done)), H', ⟨by first | omega | exact Nat.le_refl _⟩, ⟨by (with_reducible repeat (first | apply Kd.R_alloc | apply Kd.R_drewN | apply Kd.R_drew)); exact Kd.R_mono HO515.out (fun _ hk => trivial)⟩, ⟨by repeat (first | (with_reducible first | exact HB.out | apply below_alloc | apply pw_below_drewN | apply below_drew1) | exact HB.out)⟩⟩
                    · rw [if_neg c36] at H
                      have c36b0 : (t542 == t544) = false := beq_eq_false_iff_ne.mpr c36
                      have c36b1 : (t542 != t544) = true := bne_iff_ne.mpr c36
                      have H' := Aside0.mk H
                      clear H
                      go_wp2
                      go_meet
                      case rel => exact ⟨_, (true), (by first | rfl | (simp; done) | (simp [*]; done)), H', ⟨by first | omega | exact Nat.le_refl _⟩, ⟨by (with_reducible repeat (first | apply Kd.R_alloc | apply Kd.R_drewN | apply Kd.R_drew)); exact Kd.R_mono HO515.out (fun _ hk => trivial)⟩, ⟨by repeat (first | (with_reducible first | exact HB.out | apply below_alloc | apply pw_below_drewN | apply below_drew1) | exact HB.out)⟩⟩
                  · rw [if_neg c35] at H
                    have c35b0 : (t530 == t532) = false := beq_eq_false_iff_ne.mpr c35
                    have c35b1 : (t530 != t532) = true := bne_iff_ne.mpr c35
                    have H' := Aside0.mk H
                    clear H
                    go_wp2
                    go_meet
                    case rel => exact ⟨_, (true), (by first | rfl | (simp; done) | (simp [*]; done)), H', ⟨by first | omega | exact Nat.le_refl _⟩, ⟨by (with_reducible repeat (first | apply Kd.R_alloc | apply Kd.R_drewN | apply Kd.R_drew)); exact Kd.R_mono HO515.out (fun _ hk => trivial)⟩, ⟨by repeat (first | (with_reducible first | exact HB.out | apply below_alloc | apply pw_below_drewN | apply below_drew1) | exact HB.out)⟩⟩
                · rw [if_neg c34] at H
                  have c34b0 : (t531 == t533) = false := beq_eq_false_iff_ne.mpr c34
                  have c34b1 : (t531 != t533) = true := bne_iff_ne.mpr c34
                  have H' := Aside0.mk H
                  clear H
                  go_wp2
                  go_meet
                  case rel => exact ⟨_, (true), (by first | rfl | (simp; done) | (simp [*]; done)), H', ⟨by first | omega | exact Nat.le_refl _⟩, ⟨by (with_reducible repeat (first | apply Kd.R_alloc | apply Kd.R_drewN | apply Kd.R_drew)); exact Kd.R_mono HO515.out (fun _ hk => trivial)⟩, ⟨by repeat (first | (with_reducible first | exact HB.out | apply below_alloc | apply pw_below_drewN | apply below_drew1) | exact HB.out)⟩⟩
              · rw [if_neg c33] at H
                have c33b0 : (t522 == t524) = false := beq_eq_false_iff_ne.mpr c33
                have c33b1 : (t522 != t524) = true := bne_iff_ne.mpr c33
                have H' := Aside0.mk H
                clear H
                go_wp2
                go_meet
                case rel => exact ⟨_, (true), (by first | rfl | (simp; done) | (simp [*]; done)), H', ⟨by first | omega | exact Nat.le_refl _⟩, ⟨by (with_reducible repeat (first | apply Kd.R_alloc | apply Kd.R_drewN | apply Kd.R_drew)); exact Kd.R_mono HO515.out (fun _ hk => trivial)⟩, ⟨by repeat (first | (with_reducible first | exact HB.out | apply below_alloc | apply pw_below_drewN | apply below_drew1) | exact HB.out)⟩⟩
            · rw [if_neg c32] at H
              have c32b0 : (t523 == t525) = false := beq_eq_false_iff_ne.mpr c32
              have c32b1 : (t523 != t525) = true := bne_iff_ne.mpr c32
              have H' := Aside0.mk H
              clear H
              go_wp2
              go_meet
              case rel => exact ⟨_, (true), (by first | rfl | (simp; done) | (simp [*]; done)), H', ⟨by first | omega | exact Nat.le_refl _⟩, ⟨by (with_reducible repeat (first | apply Kd.R_alloc | apply Kd.R_drewN | apply Kd.R_drew)); exact Kd.R_mono HO515.out (fun _ hk => trivial)⟩, ⟨by repeat (first | (with_reducible first | exact HB.out | apply below_alloc | apply pw_below_drewN | apply below_drew1) | exact HB.out)⟩⟩
          · rw [if_neg c31] at H
            have c31b0 : (t516 == t518) = false := beq_eq_false_iff_ne.mpr c31
            have c31b1 : (t516 != t518) = true := bne_iff_ne.mpr c31
            have H' := Aside0.mk H
            clear H
            go_wp2
            go_meet
            case rel => exact ⟨_, (true), (by first | rfl | (simp; done) | (simp [*]; done)), H', ⟨by first | omega | exact Nat.le_refl _⟩, ⟨by (with_reducible repeat (first | apply Kd.R_alloc | apply Kd.R_drewN | apply Kd.R_drew)); exact Kd.R_mono HO515.out (fun _ hk => trivial)⟩, ⟨by repeat (first | (with_reducible first | exact HB.out | apply below_alloc | apply pw_below_drewN | apply below_drew1) | exact HB.out)⟩⟩
        · rw [if_neg c30] at H
          have c30b0 : (t517 == t519) = false := beq_eq_false_iff_ne.mpr c30
          have c30b1 : (t517 != t519) = true := bne_iff_ne.mpr c30
          (first | rw [c30b0] | (simp only [i64_w, i32_w]; rw [c30b0]) | skip)
          have H' := Aside0.mk H
          clear H
          go_wp2
          go_meet
          case rel => exact ⟨_, (true), (by first | rfl | (simp; done) | (simp [*]; done)), H', ⟨by first | omega | exact Nat.le_refl _⟩, ⟨by (with_reducible repeat (first | apply Kd.R_alloc | apply Kd.R_drewN | apply Kd.R_drew)); exact Kd.R_mono HO515.out (fun _ hk => trivial)⟩, ⟨by repeat (first | (with_reducible first | exact HB.out | apply below_alloc | apply pw_below_drewN | apply below_drew1) | exact HB.out)⟩⟩
    case rest =>
      as_aux_lemma =>
        clear HC16
        try clear c1
        try clear c2
        try clear p2
        try clear c3
        try clear c4
        try clear c5
        try clear c19
        try clear c20
        try clear c21
        try clear c22
        try clear c23
        try clear c24
        try clear c25
        try clear c26
        try clear c27
        try clear c28
        try clear c29
        try clear c30
        try clear c30b0
        try clear c30b1
        try clear c31
        try clear c31b0
        try clear c31b1
        try clear c32
        try clear c32b0
        try clear c32b1
        try clear c33
        try clear c33b0
        try clear c33b1
        try clear c34
        try clear c34b0
        try clear c34b1
        try clear c35
        try clear c35b0
        try clear c35b1
        try clear c36
        try clear c36b0
        try clear c36b1
        try clear c37
        try clear c37b0
        try clear c37b1
        try clear c38
        try clear c38b0
        try clear c38b1
        obtain ⟨kq, x167_15, rfl, HA, HJ15, HO_3, HB⟩ := hcut
        cases kq with
        | zero => exact absurd HA.out (by simp [laws_FnDue.j0])
        | succ kj15 =>
          have H := HA.out
          clear HA
          simp only [laws_FnDue.j0] at H
          by_cases c39 : x167_15 = true
          · subst c39
            have H1 : (some false) = some r := by rw [if_pos rfl] at H; exact H
            clear H
            have H := H1
            clear H1
            obtain rfl := Option.some.inj H
            go_wp2
            go_ret
            exact ⟨by first | rfl | (simp [errW_none, errW_some] <;> rfl) | (simp [*, errW_none, errW_some] <;> rfl), by repeat (first | (with_reducible first | exact HB.out | apply below_alloc | apply pw_below_drewN | apply below_drew1) | exact HB.out)⟩
          · replace c39 := Bool.eq_false_iff.mpr c39
            subst c39
            have H1 : (if t542 = 0 then (laws_FnDue.j1 kj15 t510 t511 t512 t513 t516 t517 (decide (t541 < t535))) else (laws_FnDue.j1 kj15 t510 t511 t512 t513 t516 t517 false)) = some r := by rw [if_neg (show ¬ (false = true) by decide)] at H; exact H
            clear H
            have H := H1
            clear H1
            have HC40 := Aside0.mk H
            clear H
            go_upto_region 17 with (fail)
            go_cut [174] (fun v174 wc => ∃ (kq : Nat) (x174_39 : Bool), v174 = .bool x174_39 ∧ Aside0 (laws_FnDue.j1 kq t510 t511 t512 t513 t516 t517 x174_39 = some r) ∧ Aside0 (kq ≤ kj15) ∧ Aside0 (Kd.R k37 37 wc w.heap.size (fun _ => True) (.slice Ao18 t510.length co18) t510) ∧ Aside0 (Below w.heap.size w wc))
            case first =>
              as_aux_lemma =>
                have H := HC40.out
                clear HC40
                by_cases c41 : t542 = 0
                · rw [if_pos c41] at H
                  have c41b0 : (t542 == 0) = true := beq_iff_eq.mpr c41
                  have c41b1 : (t542 != 0) = false := bne_eq_false_iff_eq.mpr c41
                  clear c41
                  (first | rw [c41b0] | (simp only [i64_w, i32_w]; rw [c41b0]) | skip)
                  have H' := Aside0.mk H
                  clear H
                  go_wp2
                  go_meet
                  case rel => exact ⟨_, (decide (t541 < t535)), (by first | rfl | (simp; done) | (simp [*]; done)), H', ⟨by have := HJ15.out; first | omega | exact Nat.le_refl _⟩, ⟨by (with_reducible repeat (first | apply Kd.R_alloc | apply Kd.R_drewN | apply Kd.R_drew)); exact HO_3.out⟩, ⟨by repeat (first | (with_reducible first | exact HB.out | apply below_alloc | apply pw_below_drewN | apply below_drew1) | exact HB.out)⟩⟩
                · rw [if_neg c41] at H
                  have c41b0 : (t542 == 0) = false := beq_eq_false_iff_ne.mpr c41
                  have c41b1 : (t542 != 0) = true := bne_iff_ne.mpr c41
                  (first | rw [c41b0] | (simp only [i64_w, i32_w]; rw [c41b0]) | skip)
                  have H' := Aside0.mk H
                  clear H
                  go_wp2
                  go_meet
                  case rel => exact ⟨_, (false), (by first | rfl | (simp; done) | (simp [*]; done)), H', ⟨by have := HJ15.out; first | omega | exact Nat.le_refl _⟩, ⟨by (with_reducible repeat (first | apply Kd.R_alloc | apply Kd.R_drewN | apply Kd.R_drew)); exact HO_3.out⟩, ⟨by repeat (first | (with_reducible first | exact HB.out | apply below_alloc | apply pw_below_drewN | apply below_drew1) | exact HB.out)⟩⟩
            case rest =>
              as_aux_lemma =>
                clear HC40
                try clear c1
                try clear c2
                try clear p2
                try clear c3
                try clear c4
                try clear c5
                try clear c19
                try clear c20
                try clear c21
                try clear c22
                try clear c23
                try clear c24
                try clear c25
                try clear c26
                try clear c27
                try clear c28
                try clear c29
                try clear c30
                try clear c30b0
                try clear c30b1
                try clear c31
                try clear c31b0
                try clear c31b1
                try clear c32
                try clear c32b0
                try clear c32b1
                try clear c33
                try clear c33b0
                try clear c33b1
                try clear c34
                try clear c34b0
                try clear c34b1
                try clear c35
                try clear c35b0
                try clear c35b1
                try clear c36
                try clear c36b0
                try clear c36b1
                try clear c37
                try clear c37b0
                try clear c37b1
                try clear c38
                try clear c38b0
                try clear c38b1
                try clear c39
                try clear c41
                try clear c41b0
                try clear c41b1
                try clear p2
                obtain ⟨kq, x174_39, rfl, HA, HJ39, HO_3, HB⟩ := hcut
                cases kq with
                | zero => exact absurd HA.out (by simp [laws_FnDue.j1])
                | succ kj39 =>
                  have H := HA.out
                  clear HA
                  simp only [laws_FnDue.j1] at H
                  by_cases c42 : x174_39 = true
                  · subst c42
                    have H1 : (some false) = some r := by rw [if_pos rfl] at H; exact H
                    clear H
                    have H := H1
                    clear H1
                    obtain rfl := Option.some.inj H
                    go_wp2
                    go_ret
                    exact ⟨by first | rfl | (simp [errW_none, errW_some] <;> rfl) | (simp [*, errW_none, errW_some] <;> rfl), by repeat (first | (with_reducible first | exact HB.out | apply below_alloc | apply pw_below_drewN | apply below_drew1) | exact HB.out)⟩
                  · replace c42 := Bool.eq_false_iff.mpr c42
                    subst c42
                    have H1 : (if t517 = 0 then ((impl_InterestBetween.f kj39 t510 t511 t512 t516).bind fun bt545 => (if t516 < t512 then (laws_FnDue.j2 kj39 t510 t511 t512 t513 t516 true) else (if bt545.2 = 0 then (if bt545.1 < t513 then (laws_FnDue.j2 kj39 t510 t511 t512 t513 t516 true) else (laws_FnDue.j2 kj39 t510 t511 t512 t513 t516 false)) else (laws_FnDue.j2 kj39 t510 t511 t512 t513 t516 (bt545.2 != 3))))) else (some true)) = some r := by rw [if_neg (show ¬ (false = true) by decide)] at H; exact H
                    clear H
                    have H := H1
                    clear H1
                    by_cases c43 : t517 = 0
                    · rw [if_pos c43] at H
                      have c43b0 : (t517 == 0) = true := beq_iff_eq.mpr c43
                      have c43b1 : (t517 != 0) = false := bne_eq_false_iff_eq.mpr c43
                      clear c43
                      replace H := Option.bind_eq_some_iff.mp H
                      obtain ⟨⟨t545, t546⟩, A440, H⟩ := H
                      replace H : (if t516 < t512 then (laws_FnDue.j2 kj39 t510 t511 t512 t513 t516 true) else (if t546 = 0 then (if t545 < t513 then (laws_FnDue.j2 kj39 t510 t511 t512 t513 t516 true) else (laws_FnDue.j2 kj39 t510 t511 t512 t513 t516 false)) else (laws_FnDue.j2 kj39 t510 t511 t512 t513 t516 (t546 != 3)))) = some r := H
                      have A44 := Aside0.mk A440
                      clear A440
                      have HC45 := Aside0.mk H
                      clear H
                      go_upto_region 22 with (first | ((with_reducible refine gate_callee (f := 7) rfl ?_); refine goesL_ (some 182) rfl rfl Try.func7 (by kernel_rfl) rfl #[.slice Ao18 t510.length co18, .int .i64 t511, .int .i64 t512, .int .i64 t516] rfl (by (try simp only [List.map_toArray, List.map_cons, List.map_nil]); first | done | rfl | (simp only [List.length_drop, List.length_take]; rfl)) ?_; (with_reducible refine (impl_InterestBetween.calls kj39 _ _ t510 t511 t512 t516 t545 t546 _ ?side1 ?side2 A44.out).mono ?_); (case side1 => repeat (first | exact (Kd.R_reads' HO_3.out).2.2 | (with_reducible refine Kd.C_alloc ?_ _) | (with_reducible refine Kd.C_drewN ?_ _) | (with_reducible refine Kd.C_drew ?_))); (case side2 => exact (Kd.R_reads' HO_3.out).2.1); rintro e w46 ⟨rfl, hb⟩; refine ⟨_, rfl, ?_⟩; have n0_ := Aside0.mk (Kd.R_below (by (with_reducible repeat (first | apply Kd.R_alloc | apply Kd.R_drewN | apply Kd.R_drew)); exact HO_3.out) hb); have n1_ := Aside0.mk (below_step (by repeat (first | (with_reducible first | exact HB.out | apply below_alloc | apply pw_below_drewN | apply below_drew1) | exact HB.out)) hb); clear HO_3; clear HB; have HO_3 := n0_; have HB := n1_; clear n0_ n1_; (try clear hb); (try clear hb2); (try clear hk); (try clear hi)))
                      (try simp only [Act.put, List.setIfInBounds_toArray, List.set_cons_zero, List.set_cons_succ])
                      go_cut [204] (fun v204 wc => ∃ (kq : Nat) (x204_44 : Bool), v204 = .bool x204_44 ∧ Aside0 (laws_FnDue.j2 kq t510 t511 t512 t513 t516 x204_44 = some r) ∧ Aside0 (kq ≤ kj39) ∧ Aside0 (Kd.R k37 37 wc w.heap.size (fun _ => True) (.slice Ao18 t510.length co18) t510) ∧ Aside0 (Below w.heap.size w wc))
                      case first =>
                        as_aux_lemma =>
                          have H := HC45.out
                          clear HC45
                          by_cases c47 : t516 < t512
                          · rw [if_pos c47] at H
                            have c47b0 : decide (t516 < t512) = true := decide_eq_true c47
                            clear c47
                            (first | rw [c47b0] | (simp only [i64_w, i32_w]; rw [c47b0]) | skip)
                            have H' := Aside0.mk H
                            clear H
                            go_wp2
                            go_meet
                            case rel => exact ⟨_, (true), (by first | rfl | (simp; done) | (simp [*]; done)), H', ⟨by have := HJ15.out; have := HJ39.out; first | omega | exact Nat.le_refl _⟩, ⟨by (with_reducible repeat (first | apply Kd.R_alloc | apply Kd.R_drewN | apply Kd.R_drew)); exact HO_3.out⟩, ⟨by repeat (first | (with_reducible first | exact HB.out | apply below_alloc | apply pw_below_drewN | apply below_drew1) | exact HB.out)⟩⟩
                          · rw [if_neg c47] at H
                            have c47b0 : decide (t516 < t512) = false := decide_eq_false c47
                            clear c47
                            (first | rw [c47b0] | (simp only [i64_w, i32_w]; rw [c47b0]) | skip)
                            by_cases c48 : t546 = 0
                            · rw [if_pos c48] at H
                              have c48b0 : (t546 == 0) = true := beq_iff_eq.mpr c48
                              have c48b1 : (t546 != 0) = false := bne_eq_false_iff_eq.mpr c48
                              clear c48
                              by_cases c49 : t545 < t513
                              · rw [if_pos c49] at H
                                have c49b0 : decide (t545 < t513) = true := decide_eq_true c49
                                clear c49
                                have H' := Aside0.mk H
                                clear H
                                go_wp2
                                go_meet
                                case rel => exact ⟨_, (true), (by first | rfl | (simp; done) | (simp [*]; done)), H', ⟨by have := HJ15.out; have := HJ39.out; first | omega | exact Nat.le_refl _⟩, ⟨by (with_reducible repeat (first | apply Kd.R_alloc | apply Kd.R_drewN | apply Kd.R_drew)); exact HO_3.out⟩, ⟨by repeat (first | (with_reducible first | exact HB.out | apply below_alloc | apply pw_below_drewN | apply below_drew1) | exact HB.out)⟩⟩
                              · rw [if_neg c49] at H
                                have c49b0 : decide (t545 < t513) = false := decide_eq_false c49
                                clear c49
                                have H' := Aside0.mk H
                                clear H
                                go_wp2
                                go_meet
                                case rel => exact ⟨_, (false), (by first | rfl | (simp; done) | (simp [*]; done)), H', ⟨by have := HJ15.out; have := HJ39.out; first | omega | exact Nat.le_refl _⟩, ⟨by (with_reducible repeat (first | apply Kd.R_alloc | apply Kd.R_drewN | apply Kd.R_drew)); exact HO_3.out⟩, ⟨by repeat (first | (with_reducible first | exact HB.out | apply below_alloc | apply pw_below_drewN | apply below_drew1) | exact HB.out)⟩⟩
                            · rw [if_neg c48] at H
                              have c48b0 : (t546 == 0) = false := beq_eq_false_iff_ne.mpr c48
                              have c48b1 : (t546 != 0) = true := bne_iff_ne.mpr c48
                              have H' := Aside0.mk H
                              clear H
                              go_wp2
                              go_meet
                              case rel => exact ⟨_, ((t546 != 3)), (by first | rfl | (simp; done) | (simp [*]; done)), H', ⟨by have := HJ15.out; have := HJ39.out; first | omega | exact Nat.le_refl _⟩, ⟨by (with_reducible repeat (first | apply Kd.R_alloc | apply Kd.R_drewN | apply Kd.R_drew)); exact HO_3.out⟩, ⟨by repeat (first | (with_reducible first | exact HB.out | apply below_alloc | apply pw_below_drewN | apply below_drew1) | exact HB.out)⟩⟩
                      case rest =>
                        as_aux_lemma =>
                          clear HC45
                          try clear c1
                          try clear c2
                          try clear p2
                          try clear c3
                          try clear c4
                          try clear c5
                          try clear c7
                          try clear c19
                          try clear c20
                          try clear c21
                          try clear c22
                          try clear c23
                          try clear c24
                          try clear c25
                          try clear c26
                          try clear c27
                          try clear c28
                          try clear c29
                          try clear c30
                          try clear c30b0
                          try clear c30b1
                          try clear c31
                          try clear c31b0
                          try clear c31b1
                          try clear c32
                          try clear c32b0
                          try clear c32b1
                          try clear c33
                          try clear c33b0
                          try clear c33b1
                          try clear c34
                          try clear c34b0
                          try clear c34b1
                          try clear c35
                          try clear c35b0
                          try clear c35b1
                          try clear c36
                          try clear c36b0
                          try clear c36b1
                          try clear c37
                          try clear c37b0
                          try clear c37b1
                          try clear c38
                          try clear c38b0
                          try clear c38b1
                          try clear c39
                          try clear c41
                          try clear c41b0
                          try clear c41b1
                          try clear c42
                          try clear c43
                          try clear c43b0
                          try clear c43b1
                          try clear c47
                          try clear c47b0
                          try clear c48
                          try clear c48b0
                          try clear c48b1
                          try clear c49
                          try clear c49b0
                          try clear p2
                          obtain ⟨kq, x204_44, rfl, HA, HJ44, HO_3, HB⟩ := hcut
                          cases kq with
                          | zero => exact absurd HA.out (by simp [laws_FnDue.j2])
                          | succ kj44 =>
                            have H := HA.out
                            clear HA
                            simp only [laws_FnDue.j2] at H
                            by_cases c50 : x204_44 = true
                            · subst c50
                              have H1 : (some false) = some r := by rw [if_pos rfl] at H; exact H
                              clear H
                              have H := H1
                              clear H1
                              obtain rfl := Option.some.inj H
                              go_wp2
                              go_ret
                              exact ⟨by first | rfl | (simp [errW_none, errW_some] <;> rfl) | (simp [*, errW_none, errW_some] <;> rfl), by repeat (first | (with_reducible first | exact HB.out | apply below_alloc | apply pw_below_drewN | apply below_drew1) | exact HB.out)⟩
                            · replace c50 := Bool.eq_false_iff.mpr c50
                              subst c50
                              have H1 : (if t516 = t512 then (some true) else ((impl_InterestBetween.f kj44 t510 t511 t512 (wrap64 (t516 - 1))).bind fun bt547 => (if bt547.2 = 0 then (some (decide (bt547.1 < t513))) else (some false)))) = some r := by rw [if_neg (show ¬ (false = true) by decide)] at H; exact H
                              clear H
                              have H := H1
                              clear H1
                              by_cases c51 : t516 = t512
                              · rw [if_pos c51] at H
                                have c51b0 : (t516 == t512) = true := beq_iff_eq.mpr c51
                                have c51b1 : (t516 != t512) = false := bne_eq_false_iff_eq.mpr c51
                                clear c51
                                obtain rfl := Option.some.inj H
                                go_wp2
                                go_ret
                                exact ⟨by first | rfl | (simp [errW_none, errW_some] <;> rfl) | (simp [*, errW_none, errW_some] <;> rfl), by repeat (first | (with_reducible first | exact HB.out | apply below_alloc | apply pw_below_drewN | apply below_drew1) | exact HB.out)⟩
                              · rw [if_neg c51] at H
                                have c51b0 : (t516 == t512) = false := beq_eq_false_iff_ne.mpr c51
                                have c51b1 : (t516 != t512) = true := bne_iff_ne.mpr c51
                                replace H := Option.bind_eq_some_iff.mp H
                                obtain ⟨⟨t547, t548⟩, A520, H⟩ := H
                                replace H : (if t548 = 0 then (some (decide (t547 < t513))) else (some false)) = some r := H
                                have A52 := Aside0.mk A520
                                clear A520
                                by_cases c53 : t548 = 0
                                · rw [if_pos c53] at H
                                  have c53b0 : (t548 == 0) = true := beq_iff_eq.mpr c53
                                  have c53b1 : (t548 != 0) = false := bne_eq_false_iff_eq.mpr c53
                                  clear c53
                                  obtain rfl := Option.some.inj H
                                  go_wp2_with (first | ((with_reducible refine gate_callee (f := 7) rfl ?_); refine goesL_ (some 214) rfl rfl Try.func7 (by kernel_rfl) rfl #[.slice Ao18 t510.length co18, .int .i64 t511, .int .i64 t512, .int .i64 (wrap64 (t516 - 1))] rfl (by (try simp only [List.map_toArray, List.map_cons, List.map_nil]); first | done | rfl | (simp only [List.length_drop, List.length_take]; rfl)) ?_; (with_reducible refine (impl_InterestBetween.calls kj44 _ _ t510 t511 t512 (wrap64 (t516 - 1)) t547 t548 _ ?side1 ?side2 A52.out).mono ?_); (case side1 => repeat (first | exact (Kd.R_reads' HO_3.out).2.2 | (with_reducible refine Kd.C_alloc ?_ _) | (with_reducible refine Kd.C_drewN ?_ _) | (with_reducible refine Kd.C_drew ?_))); (case side2 => exact (Kd.R_reads' HO_3.out).2.1); rintro e w54 ⟨rfl, hb⟩; refine ⟨_, rfl, ?_⟩; have n0_ := Aside0.mk (Kd.R_below (by (with_reducible repeat (first | apply Kd.R_alloc | apply Kd.R_drewN | apply Kd.R_drew)); exact HO_3.out) hb); have n1_ := Aside0.mk (below_step (by repeat (first | (with_reducible first | exact HB.out | apply below_alloc | apply pw_below_drewN | apply below_drew1) | exact HB.out)) hb); clear HO_3; clear HB; have HO_3 := n0_; have HB := n1_; clear n0_ n1_; (try clear hb); (try clear hb2); (try clear hk); (try clear hi)))
                                  go_ret
                                  exact ⟨by first | rfl | (simp [errW_none, errW_some] <;> rfl) | (simp [*, errW_none, errW_some] <;> rfl), by repeat (first | (with_reducible first | exact HB.out | apply below_alloc | apply pw_below_drewN | apply below_drew1) | exact HB.out)⟩
                                · rw [if_neg c53] at H
                                  have c53b0 : (t548 == 0) = false := beq_eq_false_iff_ne.mpr c53
                                  have c53b1 : (t548 != 0) = true := bne_iff_ne.mpr c53
                                  obtain rfl := Option.some.inj H
                                  go_wp2_with (first | ((with_reducible refine gate_callee (f := 7) rfl ?_); refine goesL_ (some 214) rfl rfl Try.func7 (by kernel_rfl) rfl #[.slice Ao18 t510.length co18, .int .i64 t511, .int .i64 t512, .int .i64 (wrap64 (t516 - 1))] rfl (by (try simp only [List.map_toArray, List.map_cons, List.map_nil]); first | done | rfl | (simp only [List.length_drop, List.length_take]; rfl)) ?_; (with_reducible refine (impl_InterestBetween.calls kj44 _ _ t510 t511 t512 (wrap64 (t516 - 1)) t547 t548 _ ?side1 ?side2 A52.out).mono ?_); (case side1 => repeat (first | exact (Kd.R_reads' HO_3.out).2.2 | (with_reducible refine Kd.C_alloc ?_ _) | (with_reducible refine Kd.C_drewN ?_ _) | (with_reducible refine Kd.C_drew ?_))); (case side2 => exact (Kd.R_reads' HO_3.out).2.1); rintro e w55 ⟨rfl, hb⟩; refine ⟨_, rfl, ?_⟩; have n0_ := Aside0.mk (Kd.R_below (by (with_reducible repeat (first | apply Kd.R_alloc | apply Kd.R_drewN | apply Kd.R_drew)); exact HO_3.out) hb); have n1_ := Aside0.mk (below_step (by repeat (first | (with_reducible first | exact HB.out | apply below_alloc | apply pw_below_drewN | apply below_drew1) | exact HB.out)) hb); clear HO_3; clear HB; have HO_3 := n0_; have HB := n1_; clear n0_ n1_; (try clear hb); (try clear hb2); (try clear hk); (try clear hi)))
                                  go_ret
                                  exact ⟨by first | rfl | (simp [errW_none, errW_some] <;> rfl) | (simp [*, errW_none, errW_some] <;> rfl), by repeat (first | (with_reducible first | exact HB.out | apply below_alloc | apply pw_below_drewN | apply below_drew1) | exact HB.out)⟩
                    · rw [if_neg c43] at H
                      have c43b0 : (t517 == 0) = false := beq_eq_false_iff_ne.mpr c43
                      have c43b1 : (t517 != 0) = true := bne_iff_ne.mpr c43
                      obtain rfl := Option.some.inj H
                      go_wp2
                      go_ret
                      exact ⟨by first | rfl | (simp [errW_none, errW_some] <;> rfl) | (simp [*, errW_none, errW_some] <;> rfl), by repeat (first | (with_reducible first | exact HB.out | apply below_alloc | apply pw_below_drewN | apply below_drew1) | exact HB.out)⟩

/-- THE ONE PURE STATEMENT of laws_FnDue: yours. -/
def laws_FnDue.Pure : Prop := ∀ (l0 : List Int), l0.length ≤ maxLen → l0.length * 1 ≤ 140737488351232 → (∀ x ∈ l0, (Lit.int .u8 x).wf = true) → ∃ k, laws_FnDue.f k l0 = some true
theorem laws_FnDue.walk (P : laws_FnDue.Pure) (a0 : Option Addr) (len0 cap0 : Nat) (z0 : List Int) (w : World) (w0 : (a0 = none ∧ len0 = 0 ∧ cap0 = 0 ∧ z0 = []) ∨ ∃ x, a0 = some x ∧ len0 ≤ cap0 ∧ cap0 ≤ maxLen ∧ z0.length = cap0 ∧ (∀ i, i < z0.length → w.cell? (x.add i) = some (.int .u8 (z0.getD i 0))) ∧ ∀ n ∈ z0, (Lit.int .u8 n).wf = true) (y0 : len0 * 1 ≤ 140737488351232) :
    Calls Try.prog 4 #[.slice a0 len0 cap0] w fun e w' => e = .returned (.bool true) ∧ Below w.heap.size w w' := by
  obtain ⟨l0, rfl, hr0, hm0, hw0, hc0⟩ := ReadsInt.ofRowC w0
  obtain ⟨k, h⟩ := P l0 hm0 y0 hw0
  refine (laws_FnDue.calls k _ _ l0 true w (Kd.C_of_reads (d := (0 : Int)) (h1 := fun _ => rfl) hr0) hc0 h).mono ?_
  rintro e w' ⟨rfl, hd⟩
  exact ⟨rfl, hd⟩

end Go.Proofs.Ytooioiedombklaa.P
