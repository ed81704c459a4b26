-- Written by a program of this session, with the kit's print.py, out of the translation. Not trusted: Lean checks it.
import Derived.Test.YtccnbjaaaaljoaaFnDaysP0
import Derived.Test.YtccnbjaaaaljoaaFnDaysP1
import Derived.Test.YtccnbjaaaaljoaaFnDaysP2
namespace Go.Proofs.Ytccnbjaaaaljoaa.P
open Go.RowKit Go.Proofs.YtccnbjaaaaljoaaW.PrintWords Go.Proofs.YtccnbjaaaaljoaaW.PrintLast Go.Proofs.YtccnbjaaaaljoaaW.PrintMore
attribute [local go_sem] max2_int min2_int max_two min_two max_three min_three max_four min_four   -- for this text's walks alone
set_option linter.unusedVariables false
set_option linter.unusedSimpArgs false

attribute [local go_sem high] eqA44
/-! ### laws_FnDays: function 5 -/
mutual
def laws_FnDays.j0 : Nat → Int → Int → Int → Int → Int → Int → Int → Int → Bool → Int → Int → Int → Int → Int → Int → Option (Bool)
  | 0, _, _, _, _, _, _, _, _, _, _, _, _, _, _, _ => none
  | k + 1, x4, x5, x8, x10, x13, x14, x15, x16, x129, x650000, x650001, x650002, x660000, x660001, x660002 => if x129 = true then (some false) else (if x10 = 0 then ((impl_DayOf.f k x660000 x660001 x660002).bind fun bt677 => (if bt677.2 = 0 then (if bt677.1 = x8 then (laws_FnDays.j1 k x4 x5 x13 x14 x15 x16 x650000 x650001 x650002) else (some false)) else (some false))) else (laws_FnDays.j1 k x4 x5 x13 x14 x15 x16 x650000 x650001 x650002))
def laws_FnDays.j1 : Nat → Int → Int → Int → Int → Int → Int → Int → Int → Int → Option (Bool)
  | 0, _, _, _, _, _, _, _, _, _ => none
  | k + 1, x4, x5, x13, x14, x15, x16, x650000, x650001, x650002 => if x16 = 0 then ((impl_WeekdayOf.f k x15).bind fun bt679 => (if bt679.2 = 0 then (if bt679.1 > 4 then (laws_FnDays.j2 k x4 x5 true x650000 x650001 x650002) else (laws_FnDays.j2 k x4 x5 (decide (x15 < (wrap64 (x13 + x14)))) x650000 x650001 x650002)) else (laws_FnDays.j2 k x4 x5 true x650000 x650001 x650002))) else (if x5 = 0 then ((impl_DateOf.f k x4).bind fun bt686 => (if bt686.2.2.2 = 0 then (some (bt686.1 == x650000 && (bt686.2.1 == x650001 && (bt686.2.2.1 == x650002)))) else (some false))) else (some true))
def laws_FnDays.j2 : Nat → Int → Int → Bool → Int → Int → Int → Option (Bool)
  | 0, _, _, _, _, _, _ => none
  | k + 1, x4, x5, x163, x650000, x650001, x650002 => if x163 = true then (some false) else (if x5 = 0 then ((impl_DateOf.f k x4).bind fun bt681 => (if bt681.2.2.2 = 0 then (some (bt681.1 == x650000 && (bt681.2.1 == x650001 && (bt681.2.2.1 == x650002)))) else (some false))) else (some true))
end
def laws_FnDays.f (k : Nat) (l0 : List Int) : Option (Bool) := (laws_big.f l0).bind fun t645 => (if t645 = true then (some true) else ((spec_DrawDayOf.f k l0).bind fun bt646 => ((impl_DayOf.f k bt646.1 bt646.2.1 bt646.2.2).bind fun bt650 => ((spec_DayOf.f k bt646.1 bt646.2.1 bt646.2.2).bind fun bt652 => ((spec_DrawDateOf.f k l0).bind fun t654 => ((impl_DateOf.f k t654).bind fun bt655 => ((spec_DateOf.f k t654).bind fun bt660 => ((spec_DrawNextBusinessDay.f k l0).bind fun bt665 => ((impl_NextBusinessDay.f k bt665.1 bt665.2).bind fun bt667 => ((spec_NextBusinessDay.f k bt665.1 bt665.2).bind fun bt669 => ((spec_DrawWeekdayOf.f k l0).bind fun t671 => ((impl_WeekdayOf.f k t671).bind fun bt672 => ((spec_WeekdayOf.f t671).bind fun bt674 => (if bt650.2 = bt652.2 then (if bt650.1 = bt652.1 then (if bt655.2.2.2 = bt660.2.2.2 then (if (!(bt655.1 == bt660.1) || (!(bt655.2.1 == bt660.2.1) || (!(bt655.2.2.1 == bt660.2.2.1)))) = true then (laws_FnDays.j0 k bt650.1 bt650.2 t654 bt655.2.2.2 bt665.1 bt665.2 bt667.1 bt667.2 true bt646.1 bt646.2.1 bt646.2.2 bt655.1 bt655.2.1 bt655.2.2.1) else (if bt667.2 = bt669.2 then (if bt667.1 = bt669.1 then (if bt672.2 = bt674.2 then (if bt672.1 = bt674.1 then ((impl_IsDate.f k bt646.1 bt646.2.1 bt646.2.2).bind fun t676 => (laws_FnDays.j0 k bt650.1 bt650.2 t654 bt655.2.2.2 bt665.1 bt665.2 bt667.1 bt667.2 (t676 != (bt652.2 == 0)) bt646.1 bt646.2.1 bt646.2.2 bt655.1 bt655.2.1 bt655.2.2.1)) else (laws_FnDays.j0 k bt650.1 bt650.2 t654 bt655.2.2.2 bt665.1 bt665.2 bt667.1 bt667.2 true bt646.1 bt646.2.1 bt646.2.2 bt655.1 bt655.2.1 bt655.2.2.1)) else (laws_FnDays.j0 k bt650.1 bt650.2 t654 bt655.2.2.2 bt665.1 bt665.2 bt667.1 bt667.2 true bt646.1 bt646.2.1 bt646.2.2 bt655.1 bt655.2.1 bt655.2.2.1)) else (laws_FnDays.j0 k bt650.1 bt650.2 t654 bt655.2.2.2 bt665.1 bt665.2 bt667.1 bt667.2 true bt646.1 bt646.2.1 bt646.2.2 bt655.1 bt655.2.1 bt655.2.2.1)) else (laws_FnDays.j0 k bt650.1 bt650.2 t654 bt655.2.2.2 bt665.1 bt665.2 bt667.1 bt667.2 true bt646.1 bt646.2.1 bt646.2.2 bt655.1 bt655.2.1 bt655.2.2.1))) else (laws_FnDays.j0 k bt650.1 bt650.2 t654 bt655.2.2.2 bt665.1 bt665.2 bt667.1 bt667.2 true bt646.1 bt646.2.1 bt646.2.2 bt655.1 bt655.2.1 bt655.2.2.1)) else (laws_FnDays.j0 k bt650.1 bt650.2 t654 bt655.2.2.2 bt665.1 bt665.2 bt667.1 bt667.2 true bt646.1 bt646.2.1 bt646.2.2 bt655.1 bt655.2.1 bt655.2.2.1)) else (laws_FnDays.j0 k bt650.1 bt650.2 t654 bt655.2.2.2 bt665.1 bt665.2 bt667.1 bt667.2 true bt646.1 bt646.2.1 bt646.2.2 bt655.1 bt655.2.1 bt655.2.2.1)))))))))))))))
theorem laws_FnDays.mono_l : ∀ k, (∀ y0 y1 y2 y3 y4 y5 y6 y7 y8 y9 y10 y11 y12 y13 y14, LeO (laws_FnDays.j0 k y0 y1 y2 y3 y4 y5 y6 y7 y8 y9 y10 y11 y12 y13 y14) (laws_FnDays.j0 (k + 1) y0 y1 y2 y3 y4 y5 y6 y7 y8 y9 y10 y11 y12 y13 y14)) ∧ (∀ y0 y1 y2 y3 y4 y5 y6 y7 y8, LeO (laws_FnDays.j1 k y0 y1 y2 y3 y4 y5 y6 y7 y8) (laws_FnDays.j1 (k + 1) y0 y1 y2 y3 y4 y5 y6 y7 y8)) ∧ (∀ y0 y1 y2 y3 y4 y5, LeO (laws_FnDays.j2 k y0 y1 y2 y3 y4 y5) (laws_FnDays.j2 (k + 1) y0 y1 y2 y3 y4 y5))
  | 0 => ⟨fun _ _ _ _ _ _ _ _ _ _ _ _ _ _ _ r h => by simp [laws_FnDays.j0] at h, fun _ _ _ _ _ _ _ _ _ r h => by simp [laws_FnDays.j1] at h, fun _ _ _ _ _ _ r h => by simp [laws_FnDays.j2] at h⟩
  | k + 1 => by
    obtain ⟨ih0, ih1, ih2⟩ := laws_FnDays.mono_l k
    refine ⟨?_, ?_, ?_⟩
    · intro y0 y1 y2 y3 y4 y5 y6 y7 y8 y9 y10 y11 y12 y13 y14
      unfold laws_FnDays.j0
      repeat' first
      | (with_reducible exact ih0 _ _ _ _ _ _ _ _ _ _ _ _ _ _ _)
      | (with_reducible exact ih1 _ _ _ _ _ _ _ _ _)
      | (with_reducible exact ih2 _ _ _ _ _ _)
      | (with_reducible exact impl_DateOf.mono _ _)
      | (with_reducible exact impl_DayOf.mono _ _ _ _)
      | (with_reducible exact impl_IsDate.mono _ _ _ _)
      | (with_reducible exact impl_NextBusinessDay.mono _ _ _)
      | (with_reducible exact impl_WeekdayOf.mono _ _)
      | (with_reducible exact spec_DateOf.mono _ _)
      | (with_reducible exact spec_DayOf.mono _ _ _ _)
      | (with_reducible exact spec_DrawDateOf.mono _ _)
      | (with_reducible exact spec_DrawDayOf.mono _ _)
      | (with_reducible exact spec_DrawNextBusinessDay.mono _ _)
      | (with_reducible exact spec_DrawWeekdayOf.mono _ _)
      | (with_reducible exact spec_NextBusinessDay.mono _ _ _)
      | (with_reducible exact LeO.refl _)
      | (with_reducible exact LeO.none _)
      | (with_reducible refine LeO.ite ?_ ?_)
      | (with_reducible refine LeO.bind ?_ (fun _ => ?_))
      | exact ih0 _ _ _ _ _ _ _ _ _ _ _ _ _ _ _
      | exact ih1 _ _ _ _ _ _ _ _ _
      | exact ih2 _ _ _ _ _ _
      | exact impl_DateOf.mono _ _
      | exact impl_DayOf.mono _ _ _ _
      | exact impl_IsDate.mono _ _ _ _
      | exact impl_NextBusinessDay.mono _ _ _
      | exact impl_WeekdayOf.mono _ _
      | exact spec_DateOf.mono _ _
      | exact spec_DayOf.mono _ _ _ _
      | exact spec_DrawDateOf.mono _ _
      | exact spec_DrawDayOf.mono _ _
      | exact spec_DrawNextBusinessDay.mono _ _
      | exact spec_DrawWeekdayOf.mono _ _
      | exact spec_NextBusinessDay.mono _ _ _
      | exact LeO.none _
      | refine LeO.ite ?_ ?_
      | refine LeO.bind ?_ (fun _ => ?_)
    · intro y0 y1 y2 y3 y4 y5 y6 y7 y8
      unfold laws_FnDays.j1
      repeat' first
      | (with_reducible exact ih0 _ _ _ _ _ _ _ _ _ _ _ _ _ _ _)
      | (with_reducible exact ih1 _ _ _ _ _ _ _ _ _)
      | (with_reducible exact ih2 _ _ _ _ _ _)
      | (with_reducible exact impl_DateOf.mono _ _)
      | (with_reducible exact impl_DayOf.mono _ _ _ _)
      | (with_reducible exact impl_IsDate.mono _ _ _ _)
      | (with_reducible exact impl_NextBusinessDay.mono _ _ _)
      | (with_reducible exact impl_WeekdayOf.mono _ _)
      | (with_reducible exact spec_DateOf.mono _ _)
      | (with_reducible exact spec_DayOf.mono _ _ _ _)
      | (with_reducible exact spec_DrawDateOf.mono _ _)
      | (with_reducible exact spec_DrawDayOf.mono _ _)
      | (with_reducible exact spec_DrawNextBusinessDay.mono _ _)
      | (with_reducible exact spec_DrawWeekdayOf.mono _ _)
      | (with_reducible exact spec_NextBusinessDay.mono _ _ _)
      | (with_reducible exact LeO.refl _)
      | (with_reducible exact LeO.none _)
      | (with_reducible refine LeO.ite ?_ ?_)
      | (with_reducible refine LeO.bind ?_ (fun _ => ?_))
      | exact ih0 _ _ _ _ _ _ _ _ _ _ _ _ _ _ _
      | exact ih1 _ _ _ _ _ _ _ _ _
      | exact ih2 _ _ _ _ _ _
      | exact impl_DateOf.mono _ _
      | exact impl_DayOf.mono _ _ _ _
      | exact impl_IsDate.mono _ _ _ _
      | exact impl_NextBusinessDay.mono _ _ _
      | exact impl_WeekdayOf.mono _ _
      | exact spec_DateOf.mono _ _
      | exact spec_DayOf.mono _ _ _ _
      | exact spec_DrawDateOf.mono _ _
      | exact spec_DrawDayOf.mono _ _
      | exact spec_DrawNextBusinessDay.mono _ _
      | exact spec_DrawWeekdayOf.mono _ _
      | exact spec_NextBusinessDay.mono _ _ _
      | exact LeO.none _
      | refine LeO.ite ?_ ?_
      | refine LeO.bind ?_ (fun _ => ?_)
    · intro y0 y1 y2 y3 y4 y5
      unfold laws_FnDays.j2
      repeat' first
      | (with_reducible exact ih0 _ _ _ _ _ _ _ _ _ _ _ _ _ _ _)
      | (with_reducible exact ih1 _ _ _ _ _ _ _ _ _)
      | (with_reducible exact ih2 _ _ _ _ _ _)
      | (with_reducible exact impl_DateOf.mono _ _)
      | (with_reducible exact impl_DayOf.mono _ _ _ _)
      | (with_reducible exact impl_IsDate.mono _ _ _ _)
      | (with_reducible exact impl_NextBusinessDay.mono _ _ _)
      | (with_reducible exact impl_WeekdayOf.mono _ _)
      | (with_reducible exact spec_DateOf.mono _ _)
      | (with_reducible exact spec_DayOf.mono _ _ _ _)
      | (with_reducible exact spec_DrawDateOf.mono _ _)
      | (with_reducible exact spec_DrawDayOf.mono _ _)
      | (with_reducible exact spec_DrawNextBusinessDay.mono _ _)
      | (with_reducible exact spec_DrawWeekdayOf.mono _ _)
      | (with_reducible exact spec_NextBusinessDay.mono _ _ _)
      | (with_reducible exact LeO.refl _)
      | (with_reducible exact LeO.none _)
      | (with_reducible refine LeO.ite ?_ ?_)
      | (with_reducible refine LeO.bind ?_ (fun _ => ?_))
      | exact ih0 _ _ _ _ _ _ _ _ _ _ _ _ _ _ _
      | exact ih1 _ _ _ _ _ _ _ _ _
      | exact ih2 _ _ _ _ _ _
      | exact impl_DateOf.mono _ _
      | exact impl_DayOf.mono _ _ _ _
      | exact impl_IsDate.mono _ _ _ _
      | exact impl_NextBusinessDay.mono _ _ _
      | exact impl_WeekdayOf.mono _ _
      | exact spec_DateOf.mono _ _
      | exact spec_DayOf.mono _ _ _ _
      | exact spec_DrawDateOf.mono _ _
      | exact spec_DrawDayOf.mono _ _
      | exact spec_DrawNextBusinessDay.mono _ _
      | exact spec_DrawWeekdayOf.mono _ _
      | exact spec_NextBusinessDay.mono _ _ _
      | exact LeO.none _
      | refine LeO.ite ?_ ?_
      | refine LeO.bind ?_ (fun _ => ?_)
theorem laws_FnDays.mono : ∀ a0 k, LeO (laws_FnDays.f k a0) (laws_FnDays.f (k + 1) a0) := by
  intro a0 k
  obtain ⟨ih0, ih1, ih2⟩ := laws_FnDays.mono_l k
  unfold laws_FnDays.f
  repeat' first
      | (with_reducible exact ih0 _ _ _ _ _ _ _ _ _ _ _ _ _ _ _)
      | (with_reducible exact ih1 _ _ _ _ _ _ _ _ _)
      | (with_reducible exact ih2 _ _ _ _ _ _)
      | (with_reducible exact impl_DateOf.mono _ _)
      | (with_reducible exact impl_DayOf.mono _ _ _ _)
      | (with_reducible exact impl_IsDate.mono _ _ _ _)
      | (with_reducible exact impl_NextBusinessDay.mono _ _ _)
      | (with_reducible exact impl_WeekdayOf.mono _ _)
      | (with_reducible exact spec_DateOf.mono _ _)
      | (with_reducible exact spec_DayOf.mono _ _ _ _)
      | (with_reducible exact spec_DrawDateOf.mono _ _)
      | (with_reducible exact spec_DrawDayOf.mono _ _)
      | (with_reducible exact spec_DrawNextBusinessDay.mono _ _)
      | (with_reducible exact spec_DrawWeekdayOf.mono _ _)
      | (with_reducible exact spec_NextBusinessDay.mono _ _ _)
      | (with_reducible exact LeO.refl _)
      | (with_reducible exact LeO.none _)
      | (with_reducible refine LeO.ite ?_ ?_)
      | (with_reducible refine LeO.bind ?_ (fun _ => ?_))
      | exact ih0 _ _ _ _ _ _ _ _ _ _ _ _ _ _ _
      | exact ih1 _ _ _ _ _ _ _ _ _
      | exact ih2 _ _ _ _ _ _
      | exact impl_DateOf.mono _ _
      | exact impl_DayOf.mono _ _ _ _
      | exact impl_IsDate.mono _ _ _ _
      | exact impl_NextBusinessDay.mono _ _ _
      | exact impl_WeekdayOf.mono _ _
      | exact spec_DateOf.mono _ _
      | exact spec_DayOf.mono _ _ _ _
      | exact spec_DrawDateOf.mono _ _
      | exact spec_DrawDayOf.mono _ _
      | exact spec_DrawNextBusinessDay.mono _ _
      | exact spec_DrawWeekdayOf.mono _ _
      | exact spec_NextBusinessDay.mono _ _ _
      | exact LeO.none _
      | refine LeO.ite ?_ ?_
      | refine LeO.bind ?_ (fun _ => ?_)
set_option maxHeartbeats 8000000 in
set_option maxRecDepth 100000 in
theorem laws_FnDays.calls (k : Nat) (A0 : Option Addr) (c0 : Nat) (l0 : List Int) (r : Bool) (w : World) (hr0 : Kd.C (Kd.int .u8) w A0 l0.length l0) (hc0 : l0.length ≤ c0) (h : laws_FnDays.f k l0 = some r) :
    Calls Try.prog 5 #[.slice A0 l0.length c0] w fun e w' => e = .returned (.bool r) ∧ Below w.heap.size w w' := by
  have hu44 := Try.underlying44
  have HR0 := Aside0.mk hr0
  have HC0 := Aside0.mk hc0
  clear hr0 hc0
  have HB := Aside0.mk (Below.refl w.heap.size w)
  have H : ((laws_big.f l0).bind fun t645 => (if t645 = true then (some true) else ((spec_DrawDayOf.f k l0).bind fun bt646 => ((impl_DayOf.f k bt646.1 bt646.2.1 bt646.2.2).bind fun bt650 => ((spec_DayOf.f k bt646.1 bt646.2.1 bt646.2.2).bind fun bt652 => ((spec_DrawDateOf.f k l0).bind fun t654 => ((impl_DateOf.f k t654).bind fun bt655 => ((spec_DateOf.f k t654).bind fun bt660 => ((spec_DrawNextBusinessDay.f k l0).bind fun bt665 => ((impl_NextBusinessDay.f k bt665.1 bt665.2).bind fun bt667 => ((spec_NextBusinessDay.f k bt665.1 bt665.2).bind fun bt669 => ((spec_DrawWeekdayOf.f k l0).bind fun t671 => ((impl_WeekdayOf.f k t671).bind fun bt672 => ((spec_WeekdayOf.f t671).bind fun bt674 => (if bt650.2 = bt652.2 then (if bt650.1 = bt652.1 then (if bt655.2.2.2 = bt660.2.2.2 then (if (!(bt655.1 == bt660.1) || (!(bt655.2.1 == bt660.2.1) || (!(bt655.2.2.1 == bt660.2.2.1)))) = true then (laws_FnDays.j0 k bt650.1 bt650.2 t654 bt655.2.2.2 bt665.1 bt665.2 bt667.1 bt667.2 true bt646.1 bt646.2.1 bt646.2.2 bt655.1 bt655.2.1 bt655.2.2.1) else (if bt667.2 = bt669.2 then (if bt667.1 = bt669.1 then (if bt672.2 = bt674.2 then (if bt672.1 = bt674.1 then ((impl_IsDate.f k bt646.1 bt646.2.1 bt646.2.2).bind fun t676 => (laws_FnDays.j0 k bt650.1 bt650.2 t654 bt655.2.2.2 bt665.1 bt665.2 bt667.1 bt667.2 (t676 != (bt652.2 == 0)) bt646.1 bt646.2.1 bt646.2.2 bt655.1 bt655.2.1 bt655.2.2.1)) else (laws_FnDays.j0 k bt650.1 bt650.2 t654 bt655.2.2.2 bt665.1 bt665.2 bt667.1 bt667.2 true bt646.1 bt646.2.1 bt646.2.2 bt655.1 bt655.2.1 bt655.2.2.1)) else (laws_FnDays.j0 k bt650.1 bt650.2 t654 bt655.2.2.2 bt665.1 bt665.2 bt667.1 bt667.2 true bt646.1 bt646.2.1 bt646.2.2 bt655.1 bt655.2.1 bt655.2.2.1)) else (laws_FnDays.j0 k bt650.1 bt650.2 t654 bt655.2.2.2 bt665.1 bt665.2 bt667.1 bt667.2 true bt646.1 bt646.2.1 bt646.2.2 bt655.1 bt655.2.1 bt655.2.2.1)) else (laws_FnDays.j0 k bt650.1 bt650.2 t654 bt655.2.2.2 bt665.1 bt665.2 bt667.1 bt667.2 true bt646.1 bt646.2.1 bt646.2.2 bt655.1 bt655.2.1 bt655.2.2.1))) else (laws_FnDays.j0 k bt650.1 bt650.2 t654 bt655.2.2.2 bt665.1 bt665.2 bt667.1 bt667.2 true bt646.1 bt646.2.1 bt646.2.2 bt655.1 bt655.2.1 bt655.2.2.1)) else (laws_FnDays.j0 k bt650.1 bt650.2 t654 bt655.2.2.2 bt665.1 bt665.2 bt667.1 bt667.2 true bt646.1 bt646.2.1 bt646.2.2 bt655.1 bt655.2.1 bt655.2.2.1)) else (laws_FnDays.j0 k bt650.1 bt650.2 t654 bt655.2.2.2 bt665.1 bt665.2 bt667.1 bt667.2 true bt646.1 bt646.2.1 bt646.2.2 bt655.1 bt655.2.1 bt655.2.2.1)))))))))))))))) = some r := h
  clear h
  replace H := Option.bind_eq_some_iff.mp H
  obtain ⟨t645, A20, H⟩ := H
  replace H : (if t645 = true then (some true) else ((spec_DrawDayOf.f k l0).bind fun bt646 => ((impl_DayOf.f k bt646.1 bt646.2.1 bt646.2.2).bind fun bt650 => ((spec_DayOf.f k bt646.1 bt646.2.1 bt646.2.2).bind fun bt652 => ((spec_DrawDateOf.f k l0).bind fun t654 => ((impl_DateOf.f k t654).bind fun bt655 => ((spec_DateOf.f k t654).bind fun bt660 => ((spec_DrawNextBusinessDay.f k l0).bind fun bt665 => ((impl_NextBusinessDay.f k bt665.1 bt665.2).bind fun bt667 => ((spec_NextBusinessDay.f k bt665.1 bt665.2).bind fun bt669 => ((spec_DrawWeekdayOf.f k l0).bind fun t671 => ((impl_WeekdayOf.f k t671).bind fun bt672 => ((spec_WeekdayOf.f t671).bind fun bt674 => (if bt650.2 = bt652.2 then (if bt650.1 = bt652.1 then (if bt655.2.2.2 = bt660.2.2.2 then (if (!(bt655.1 == bt660.1) || (!(bt655.2.1 == bt660.2.1) || (!(bt655.2.2.1 == bt660.2.2.1)))) = true then (laws_FnDays.j0 k bt650.1 bt650.2 t654 bt655.2.2.2 bt665.1 bt665.2 bt667.1 bt667.2 true bt646.1 bt646.2.1 bt646.2.2 bt655.1 bt655.2.1 bt655.2.2.1) else (if bt667.2 = bt669.2 then (if bt667.1 = bt669.1 then (if bt672.2 = bt674.2 then (if bt672.1 = bt674.1 then ((impl_IsDate.f k bt646.1 bt646.2.1 bt646.2.2).bind fun t676 => (laws_FnDays.j0 k bt650.1 bt650.2 t654 bt655.2.2.2 bt665.1 bt665.2 bt667.1 bt667.2 (t676 != (bt652.2 == 0)) bt646.1 bt646.2.1 bt646.2.2 bt655.1 bt655.2.1 bt655.2.2.1)) else (laws_FnDays.j0 k bt650.1 bt650.2 t654 bt655.2.2.2 bt665.1 bt665.2 bt667.1 bt667.2 true bt646.1 bt646.2.1 bt646.2.2 bt655.1 bt655.2.1 bt655.2.2.1)) else (laws_FnDays.j0 k bt650.1 bt650.2 t654 bt655.2.2.2 bt665.1 bt665.2 bt667.1 bt667.2 true bt646.1 bt646.2.1 bt646.2.2 bt655.1 bt655.2.1 bt655.2.2.1)) else (laws_FnDays.j0 k bt650.1 bt650.2 t654 bt655.2.2.2 bt665.1 bt665.2 bt667.1 bt667.2 true bt646.1 bt646.2.1 bt646.2.2 bt655.1 bt655.2.1 bt655.2.2.1)) else (laws_FnDays.j0 k bt650.1 bt650.2 t654 bt655.2.2.2 bt665.1 bt665.2 bt667.1 bt667.2 true bt646.1 bt646.2.1 bt646.2.2 bt655.1 bt655.2.1 bt655.2.2.1))) else (laws_FnDays.j0 k bt650.1 bt650.2 t654 bt655.2.2.2 bt665.1 bt665.2 bt667.1 bt667.2 true bt646.1 bt646.2.1 bt646.2.2 bt655.1 bt655.2.1 bt655.2.2.1)) else (laws_FnDays.j0 k bt650.1 bt650.2 t654 bt655.2.2.2 bt665.1 bt665.2 bt667.1 bt667.2 true bt646.1 bt646.2.1 bt646.2.2 bt655.1 bt655.2.1 bt655.2.2.1)) else (laws_FnDays.j0 k bt650.1 bt650.2 t654 bt655.2.2.2 bt665.1 bt665.2 bt667.1 bt667.2 true bt646.1 bt646.2.1 bt646.2.2 bt655.1 bt655.2.1 bt655.2.2.1))))))))))))))) = some r := H
  have A2 := Aside0.mk A20
  clear A20
  by_cases c3 : t645 = true
  · subst c3
    have H1 : (some true) = some r := by rw [if_pos rfl] at H; exact H
    clear H
    have H := H1
    clear H1
    obtain rfl := Option.some.inj H
    go_enter Try.func5, Try.ntmps5
    go_wp2_with (first | ((with_reducible refine gate_callee (f := 14) rfl ?_); refine goesL_ (some 31) rfl rfl Try.func14 (by kernel_rfl) rfl #[.slice A0 l0.length c0] rfl (by (try simp only [List.map_toArray, List.map_cons, List.map_nil]); first | done | rfl | (simp only [List.length_drop, List.length_take]; rfl)) ?_; (with_reducible refine (laws_big.calls _ _ l0 true _ ?side1 ?side2 A2.out).mono ?_); (case side1 => repeat (first | exact HR0.out | (with_reducible refine Kd.C_alloc ?_ _) | (with_reducible refine Kd.C_drewN ?_ _) | (with_reducible refine Kd.C_drew ?_))); (case side2 => exact HC0.out); rintro e w' ⟨rfl, ⟨nd, rfl⟩⟩; refine ⟨_, rfl, ?_⟩))
    go_ret
    exact ⟨by first | rfl | (simp [errW_none, errW_some] <;> rfl) | (simp [*, errW_none, errW_some] <;> rfl), by repeat (first | (with_reducible first | exact HB.out | apply below_alloc | apply pw_below_drewN | apply below_drew1) | exact HB.out)⟩
  · replace c3 := Bool.eq_false_iff.mpr c3
    subst c3
    have H1 : ((spec_DrawDayOf.f k l0).bind fun bt646 => ((impl_DayOf.f k bt646.1 bt646.2.1 bt646.2.2).bind fun bt650 => ((spec_DayOf.f k bt646.1 bt646.2.1 bt646.2.2).bind fun bt652 => ((spec_DrawDateOf.f k l0).bind fun t654 => ((impl_DateOf.f k t654).bind fun bt655 => ((spec_DateOf.f k t654).bind fun bt660 => ((spec_DrawNextBusinessDay.f k l0).bind fun bt665 => ((impl_NextBusinessDay.f k bt665.1 bt665.2).bind fun bt667 => ((spec_NextBusinessDay.f k bt665.1 bt665.2).bind fun bt669 => ((spec_DrawWeekdayOf.f k l0).bind fun t671 => ((impl_WeekdayOf.f k t671).bind fun bt672 => ((spec_WeekdayOf.f t671).bind fun bt674 => (if bt650.2 = bt652.2 then (if bt650.1 = bt652.1 then (if bt655.2.2.2 = bt660.2.2.2 then (if (!(bt655.1 == bt660.1) || (!(bt655.2.1 == bt660.2.1) || (!(bt655.2.2.1 == bt660.2.2.1)))) = true then (laws_FnDays.j0 k bt650.1 bt650.2 t654 bt655.2.2.2 bt665.1 bt665.2 bt667.1 bt667.2 true bt646.1 bt646.2.1 bt646.2.2 bt655.1 bt655.2.1 bt655.2.2.1) else (if bt667.2 = bt669.2 then (if bt667.1 = bt669.1 then (if bt672.2 = bt674.2 then (if bt672.1 = bt674.1 then ((impl_IsDate.f k bt646.1 bt646.2.1 bt646.2.2).bind fun t676 => (laws_FnDays.j0 k bt650.1 bt650.2 t654 bt655.2.2.2 bt665.1 bt665.2 bt667.1 bt667.2 (t676 != (bt652.2 == 0)) bt646.1 bt646.2.1 bt646.2.2 bt655.1 bt655.2.1 bt655.2.2.1)) else (laws_FnDays.j0 k bt650.1 bt650.2 t654 bt655.2.2.2 bt665.1 bt665.2 bt667.1 bt667.2 true bt646.1 bt646.2.1 bt646.2.2 bt655.1 bt655.2.1 bt655.2.2.1)) else (laws_FnDays.j0 k bt650.1 bt650.2 t654 bt655.2.2.2 bt665.1 bt665.2 bt667.1 bt667.2 true bt646.1 bt646.2.1 bt646.2.2 bt655.1 bt655.2.1 bt655.2.2.1)) else (laws_FnDays.j0 k bt650.1 bt650.2 t654 bt655.2.2.2 bt665.1 bt665.2 bt667.1 bt667.2 true bt646.1 bt646.2.1 bt646.2.2 bt655.1 bt655.2.1 bt655.2.2.1)) else (laws_FnDays.j0 k bt650.1 bt650.2 t654 bt655.2.2.2 bt665.1 bt665.2 bt667.1 bt667.2 true bt646.1 bt646.2.1 bt646.2.2 bt655.1 bt655.2.1 bt655.2.2.1))) else (laws_FnDays.j0 k bt650.1 bt650.2 t654 bt655.2.2.2 bt665.1 bt665.2 bt667.1 bt667.2 true bt646.1 bt646.2.1 bt646.2.2 bt655.1 bt655.2.1 bt655.2.2.1)) else (laws_FnDays.j0 k bt650.1 bt650.2 t654 bt655.2.2.2 bt665.1 bt665.2 bt667.1 bt667.2 true bt646.1 bt646.2.1 bt646.2.2 bt655.1 bt655.2.1 bt655.2.2.1)) else (laws_FnDays.j0 k bt650.1 bt650.2 t654 bt655.2.2.2 bt665.1 bt665.2 bt667.1 bt667.2 true bt646.1 bt646.2.1 bt646.2.2 bt655.1 bt655.2.1 bt655.2.2.1)))))))))))))) = some r := by rw [if_neg (show ¬ (false = true) by decide)] at H; exact H
    clear H
    have H := H1
    clear H1
    replace H := Option.bind_eq_some_iff.mp H
    obtain ⟨⟨t646, t647, t648⟩, A40, H⟩ := H
    replace H : ((impl_DayOf.f k t646 t647 t648).bind fun bt650 => ((spec_DayOf.f k t646 t647 t648).bind fun bt652 => ((spec_DrawDateOf.f k l0).bind fun t654 => ((impl_DateOf.f k t654).bind fun bt655 => ((spec_DateOf.f k t654).bind fun bt660 => ((spec_DrawNextBusinessDay.f k l0).bind fun bt665 => ((impl_NextBusinessDay.f k bt665.1 bt665.2).bind fun bt667 => ((spec_NextBusinessDay.f k bt665.1 bt665.2).bind fun bt669 => ((spec_DrawWeekdayOf.f k l0).bind fun t671 => ((impl_WeekdayOf.f k t671).bind fun bt672 => ((spec_WeekdayOf.f t671).bind fun bt674 => (if bt650.2 = bt652.2 then (if bt650.1 = bt652.1 then (if bt655.2.2.2 = bt660.2.2.2 then (if (!(bt655.1 == bt660.1) || (!(bt655.2.1 == bt660.2.1) || (!(bt655.2.2.1 == bt660.2.2.1)))) = true then (laws_FnDays.j0 k bt650.1 bt650.2 t654 bt655.2.2.2 bt665.1 bt665.2 bt667.1 bt667.2 true t646 t647 t648 bt655.1 bt655.2.1 bt655.2.2.1) else (if bt667.2 = bt669.2 then (if bt667.1 = bt669.1 then (if bt672.2 = bt674.2 then (if bt672.1 = bt674.1 then ((impl_IsDate.f k t646 t647 t648).bind fun t676 => (laws_FnDays.j0 k bt650.1 bt650.2 t654 bt655.2.2.2 bt665.1 bt665.2 bt667.1 bt667.2 (t676 != (bt652.2 == 0)) t646 t647 t648 bt655.1 bt655.2.1 bt655.2.2.1)) else (laws_FnDays.j0 k bt650.1 bt650.2 t654 bt655.2.2.2 bt665.1 bt665.2 bt667.1 bt667.2 true t646 t647 t648 bt655.1 bt655.2.1 bt655.2.2.1)) else (laws_FnDays.j0 k bt650.1 bt650.2 t654 bt655.2.2.2 bt665.1 bt665.2 bt667.1 bt667.2 true t646 t647 t648 bt655.1 bt655.2.1 bt655.2.2.1)) else (laws_FnDays.j0 k bt650.1 bt650.2 t654 bt655.2.2.2 bt665.1 bt665.2 bt667.1 bt667.2 true t646 t647 t648 bt655.1 bt655.2.1 bt655.2.2.1)) else (laws_FnDays.j0 k bt650.1 bt650.2 t654 bt655.2.2.2 bt665.1 bt665.2 bt667.1 bt667.2 true t646 t647 t648 bt655.1 bt655.2.1 bt655.2.2.1))) else (laws_FnDays.j0 k bt650.1 bt650.2 t654 bt655.2.2.2 bt665.1 bt665.2 bt667.1 bt667.2 true t646 t647 t648 bt655.1 bt655.2.1 bt655.2.2.1)) else (laws_FnDays.j0 k bt650.1 bt650.2 t654 bt655.2.2.2 bt665.1 bt665.2 bt667.1 bt667.2 true t646 t647 t648 bt655.1 bt655.2.1 bt655.2.2.1)) else (laws_FnDays.j0 k bt650.1 bt650.2 t654 bt655.2.2.2 bt665.1 bt665.2 bt667.1 bt667.2 true t646 t647 t648 bt655.1 bt655.2.1 bt655.2.2.1))))))))))))) = some r := H
    have A4 := Aside0.mk A40
    clear A40
    replace H := Option.bind_eq_some_iff.mp H
    obtain ⟨⟨t650, t651⟩, A50, H⟩ := H
    replace H : ((spec_DayOf.f k t646 t647 t648).bind fun bt652 => ((spec_DrawDateOf.f k l0).bind fun t654 => ((impl_DateOf.f k t654).bind fun bt655 => ((spec_DateOf.f k t654).bind fun bt660 => ((spec_DrawNextBusinessDay.f k l0).bind fun bt665 => ((impl_NextBusinessDay.f k bt665.1 bt665.2).bind fun bt667 => ((spec_NextBusinessDay.f k bt665.1 bt665.2).bind fun bt669 => ((spec_DrawWeekdayOf.f k l0).bind fun t671 => ((impl_WeekdayOf.f k t671).bind fun bt672 => ((spec_WeekdayOf.f t671).bind fun bt674 => (if t651 = bt652.2 then (if t650 = bt652.1 then (if bt655.2.2.2 = bt660.2.2.2 then (if (!(bt655.1 == bt660.1) || (!(bt655.2.1 == bt660.2.1) || (!(bt655.2.2.1 == bt660.2.2.1)))) = true then (laws_FnDays.j0 k t650 t651 t654 bt655.2.2.2 bt665.1 bt665.2 bt667.1 bt667.2 true t646 t647 t648 bt655.1 bt655.2.1 bt655.2.2.1) else (if bt667.2 = bt669.2 then (if bt667.1 = bt669.1 then (if bt672.2 = bt674.2 then (if bt672.1 = bt674.1 then ((impl_IsDate.f k t646 t647 t648).bind fun t676 => (laws_FnDays.j0 k t650 t651 t654 bt655.2.2.2 bt665.1 bt665.2 bt667.1 bt667.2 (t676 != (bt652.2 == 0)) t646 t647 t648 bt655.1 bt655.2.1 bt655.2.2.1)) else (laws_FnDays.j0 k t650 t651 t654 bt655.2.2.2 bt665.1 bt665.2 bt667.1 bt667.2 true t646 t647 t648 bt655.1 bt655.2.1 bt655.2.2.1)) else (laws_FnDays.j0 k t650 t651 t654 bt655.2.2.2 bt665.1 bt665.2 bt667.1 bt667.2 true t646 t647 t648 bt655.1 bt655.2.1 bt655.2.2.1)) else (laws_FnDays.j0 k t650 t651 t654 bt655.2.2.2 bt665.1 bt665.2 bt667.1 bt667.2 true t646 t647 t648 bt655.1 bt655.2.1 bt655.2.2.1)) else (laws_FnDays.j0 k t650 t651 t654 bt655.2.2.2 bt665.1 bt665.2 bt667.1 bt667.2 true t646 t647 t648 bt655.1 bt655.2.1 bt655.2.2.1))) else (laws_FnDays.j0 k t650 t651 t654 bt655.2.2.2 bt665.1 bt665.2 bt667.1 bt667.2 true t646 t647 t648 bt655.1 bt655.2.1 bt655.2.2.1)) else (laws_FnDays.j0 k t650 t651 t654 bt655.2.2.2 bt665.1 bt665.2 bt667.1 bt667.2 true t646 t647 t648 bt655.1 bt655.2.1 bt655.2.2.1)) else (laws_FnDays.j0 k t650 t651 t654 bt655.2.2.2 bt665.1 bt665.2 bt667.1 bt667.2 true t646 t647 t648 bt655.1 bt655.2.1 bt655.2.2.1)))))))))))) = some r := H
    have A5 := Aside0.mk A50
    clear A50
    replace H := Option.bind_eq_some_iff.mp H
    obtain ⟨⟨t652, t653⟩, A60, H⟩ := H
    replace H : ((spec_DrawDateOf.f k l0).bind fun t654 => ((impl_DateOf.f k t654).bind fun bt655 => ((spec_DateOf.f k t654).bind fun bt660 => ((spec_DrawNextBusinessDay.f k l0).bind fun bt665 => ((impl_NextBusinessDay.f k bt665.1 bt665.2).bind fun bt667 => ((spec_NextBusinessDay.f k bt665.1 bt665.2).bind fun bt669 => ((spec_DrawWeekdayOf.f k l0).bind fun t671 => ((impl_WeekdayOf.f k t671).bind fun bt672 => ((spec_WeekdayOf.f t671).bind fun bt674 => (if t651 = t653 then (if t650 = t652 then (if bt655.2.2.2 = bt660.2.2.2 then (if (!(bt655.1 == bt660.1) || (!(bt655.2.1 == bt660.2.1) || (!(bt655.2.2.1 == bt660.2.2.1)))) = true then (laws_FnDays.j0 k t650 t651 t654 bt655.2.2.2 bt665.1 bt665.2 bt667.1 bt667.2 true t646 t647 t648 bt655.1 bt655.2.1 bt655.2.2.1) else (if bt667.2 = bt669.2 then (if bt667.1 = bt669.1 then (if bt672.2 = bt674.2 then (if bt672.1 = bt674.1 then ((impl_IsDate.f k t646 t647 t648).bind fun t676 => (laws_FnDays.j0 k t650 t651 t654 bt655.2.2.2 bt665.1 bt665.2 bt667.1 bt667.2 (t676 != (t653 == 0)) t646 t647 t648 bt655.1 bt655.2.1 bt655.2.2.1)) else (laws_FnDays.j0 k t650 t651 t654 bt655.2.2.2 bt665.1 bt665.2 bt667.1 bt667.2 true t646 t647 t648 bt655.1 bt655.2.1 bt655.2.2.1)) else (laws_FnDays.j0 k t650 t651 t654 bt655.2.2.2 bt665.1 bt665.2 bt667.1 bt667.2 true t646 t647 t648 bt655.1 bt655.2.1 bt655.2.2.1)) else (laws_FnDays.j0 k t650 t651 t654 bt655.2.2.2 bt665.1 bt665.2 bt667.1 bt667.2 true t646 t647 t648 bt655.1 bt655.2.1 bt655.2.2.1)) else (laws_FnDays.j0 k t650 t651 t654 bt655.2.2.2 bt665.1 bt665.2 bt667.1 bt667.2 true t646 t647 t648 bt655.1 bt655.2.1 bt655.2.2.1))) else (laws_FnDays.j0 k t650 t651 t654 bt655.2.2.2 bt665.1 bt665.2 bt667.1 bt667.2 true t646 t647 t648 bt655.1 bt655.2.1 bt655.2.2.1)) else (laws_FnDays.j0 k t650 t651 t654 bt655.2.2.2 bt665.1 bt665.2 bt667.1 bt667.2 true t646 t647 t648 bt655.1 bt655.2.1 bt655.2.2.1)) else (laws_FnDays.j0 k t650 t651 t654 bt655.2.2.2 bt665.1 bt665.2 bt667.1 bt667.2 true t646 t647 t648 bt655.1 bt655.2.1 bt655.2.2.1))))))))))) = some r := H
    have A6 := Aside0.mk A60
    clear A60
    replace H := Option.bind_eq_some_iff.mp H
    obtain ⟨t654, A70, H⟩ := H
    replace H : ((impl_DateOf.f k t654).bind fun bt655 => ((spec_DateOf.f k t654).bind fun bt660 => ((spec_DrawNextBusinessDay.f k l0).bind fun bt665 => ((impl_NextBusinessDay.f k bt665.1 bt665.2).bind fun bt667 => ((spec_NextBusinessDay.f k bt665.1 bt665.2).bind fun bt669 => ((spec_DrawWeekdayOf.f k l0).bind fun t671 => ((impl_WeekdayOf.f k t671).bind fun bt672 => ((spec_WeekdayOf.f t671).bind fun bt674 => (if t651 = t653 then (if t650 = t652 then (if bt655.2.2.2 = bt660.2.2.2 then (if (!(bt655.1 == bt660.1) || (!(bt655.2.1 == bt660.2.1) || (!(bt655.2.2.1 == bt660.2.2.1)))) = true then (laws_FnDays.j0 k t650 t651 t654 bt655.2.2.2 bt665.1 bt665.2 bt667.1 bt667.2 true t646 t647 t648 bt655.1 bt655.2.1 bt655.2.2.1) else (if bt667.2 = bt669.2 then (if bt667.1 = bt669.1 then (if bt672.2 = bt674.2 then (if bt672.1 = bt674.1 then ((impl_IsDate.f k t646 t647 t648).bind fun t676 => (laws_FnDays.j0 k t650 t651 t654 bt655.2.2.2 bt665.1 bt665.2 bt667.1 bt667.2 (t676 != (t653 == 0)) t646 t647 t648 bt655.1 bt655.2.1 bt655.2.2.1)) else (laws_FnDays.j0 k t650 t651 t654 bt655.2.2.2 bt665.1 bt665.2 bt667.1 bt667.2 true t646 t647 t648 bt655.1 bt655.2.1 bt655.2.2.1)) else (laws_FnDays.j0 k t650 t651 t654 bt655.2.2.2 bt665.1 bt665.2 bt667.1 bt667.2 true t646 t647 t648 bt655.1 bt655.2.1 bt655.2.2.1)) else (laws_FnDays.j0 k t650 t651 t654 bt655.2.2.2 bt665.1 bt665.2 bt667.1 bt667.2 true t646 t647 t648 bt655.1 bt655.2.1 bt655.2.2.1)) else (laws_FnDays.j0 k t650 t651 t654 bt655.2.2.2 bt665.1 bt665.2 bt667.1 bt667.2 true t646 t647 t648 bt655.1 bt655.2.1 bt655.2.2.1))) else (laws_FnDays.j0 k t650 t651 t654 bt655.2.2.2 bt665.1 bt665.2 bt667.1 bt667.2 true t646 t647 t648 bt655.1 bt655.2.1 bt655.2.2.1)) else (laws_FnDays.j0 k t650 t651 t654 bt655.2.2.2 bt665.1 bt665.2 bt667.1 bt667.2 true t646 t647 t648 bt655.1 bt655.2.1 bt655.2.2.1)) else (laws_FnDays.j0 k t650 t651 t654 bt655.2.2.2 bt665.1 bt665.2 bt667.1 bt667.2 true t646 t647 t648 bt655.1 bt655.2.1 bt655.2.2.1)))))))))) = some r := H
    have A7 := Aside0.mk A70
    clear A70
    replace H := Option.bind_eq_some_iff.mp H
    obtain ⟨⟨t655, t656, t657, t658⟩, A80, H⟩ := H
    replace H : ((spec_DateOf.f k t654).bind fun bt660 => ((spec_DrawNextBusinessDay.f k l0).bind fun bt665 => ((impl_NextBusinessDay.f k bt665.1 bt665.2).bind fun bt667 => ((spec_NextBusinessDay.f k bt665.1 bt665.2).bind fun bt669 => ((spec_DrawWeekdayOf.f k l0).bind fun t671 => ((impl_WeekdayOf.f k t671).bind fun bt672 => ((spec_WeekdayOf.f t671).bind fun bt674 => (if t651 = t653 then (if t650 = t652 then (if t658 = bt660.2.2.2 then (if (!(t655 == bt660.1) || (!(t656 == bt660.2.1) || (!(t657 == bt660.2.2.1)))) = true then (laws_FnDays.j0 k t650 t651 t654 t658 bt665.1 bt665.2 bt667.1 bt667.2 true t646 t647 t648 t655 t656 t657) else (if bt667.2 = bt669.2 then (if bt667.1 = bt669.1 then (if bt672.2 = bt674.2 then (if bt672.1 = bt674.1 then ((impl_IsDate.f k t646 t647 t648).bind fun t676 => (laws_FnDays.j0 k t650 t651 t654 t658 bt665.1 bt665.2 bt667.1 bt667.2 (t676 != (t653 == 0)) t646 t647 t648 t655 t656 t657)) else (laws_FnDays.j0 k t650 t651 t654 t658 bt665.1 bt665.2 bt667.1 bt667.2 true t646 t647 t648 t655 t656 t657)) else (laws_FnDays.j0 k t650 t651 t654 t658 bt665.1 bt665.2 bt667.1 bt667.2 true t646 t647 t648 t655 t656 t657)) else (laws_FnDays.j0 k t650 t651 t654 t658 bt665.1 bt665.2 bt667.1 bt667.2 true t646 t647 t648 t655 t656 t657)) else (laws_FnDays.j0 k t650 t651 t654 t658 bt665.1 bt665.2 bt667.1 bt667.2 true t646 t647 t648 t655 t656 t657))) else (laws_FnDays.j0 k t650 t651 t654 t658 bt665.1 bt665.2 bt667.1 bt667.2 true t646 t647 t648 t655 t656 t657)) else (laws_FnDays.j0 k t650 t651 t654 t658 bt665.1 bt665.2 bt667.1 bt667.2 true t646 t647 t648 t655 t656 t657)) else (laws_FnDays.j0 k t650 t651 t654 t658 bt665.1 bt665.2 bt667.1 bt667.2 true t646 t647 t648 t655 t656 t657))))))))) = some r := H
    have A8 := Aside0.mk A80
    clear A80
    replace H := Option.bind_eq_some_iff.mp H
    obtain ⟨⟨t660, t661, t662, t663⟩, A90, H⟩ := H
    replace H : ((spec_DrawNextBusinessDay.f k l0).bind fun bt665 => ((impl_NextBusinessDay.f k bt665.1 bt665.2).bind fun bt667 => ((spec_NextBusinessDay.f k bt665.1 bt665.2).bind fun bt669 => ((spec_DrawWeekdayOf.f k l0).bind fun t671 => ((impl_WeekdayOf.f k t671).bind fun bt672 => ((spec_WeekdayOf.f t671).bind fun bt674 => (if t651 = t653 then (if t650 = t652 then (if t658 = t663 then (if (!(t655 == t660) || (!(t656 == t661) || (!(t657 == t662)))) = true then (laws_FnDays.j0 k t650 t651 t654 t658 bt665.1 bt665.2 bt667.1 bt667.2 true t646 t647 t648 t655 t656 t657) else (if bt667.2 = bt669.2 then (if bt667.1 = bt669.1 then (if bt672.2 = bt674.2 then (if bt672.1 = bt674.1 then ((impl_IsDate.f k t646 t647 t648).bind fun t676 => (laws_FnDays.j0 k t650 t651 t654 t658 bt665.1 bt665.2 bt667.1 bt667.2 (t676 != (t653 == 0)) t646 t647 t648 t655 t656 t657)) else (laws_FnDays.j0 k t650 t651 t654 t658 bt665.1 bt665.2 bt667.1 bt667.2 true t646 t647 t648 t655 t656 t657)) else (laws_FnDays.j0 k t650 t651 t654 t658 bt665.1 bt665.2 bt667.1 bt667.2 true t646 t647 t648 t655 t656 t657)) else (laws_FnDays.j0 k t650 t651 t654 t658 bt665.1 bt665.2 bt667.1 bt667.2 true t646 t647 t648 t655 t656 t657)) else (laws_FnDays.j0 k t650 t651 t654 t658 bt665.1 bt665.2 bt667.1 bt667.2 true t646 t647 t648 t655 t656 t657))) else (laws_FnDays.j0 k t650 t651 t654 t658 bt665.1 bt665.2 bt667.1 bt667.2 true t646 t647 t648 t655 t656 t657)) else (laws_FnDays.j0 k t650 t651 t654 t658 bt665.1 bt665.2 bt667.1 bt667.2 true t646 t647 t648 t655 t656 t657)) else (laws_FnDays.j0 k t650 t651 t654 t658 bt665.1 bt665.2 bt667.1 bt667.2 true t646 t647 t648 t655 t656 t657)))))))) = some r := H
    have A9 := Aside0.mk A90
    clear A90
    replace H := Option.bind_eq_some_iff.mp H
    obtain ⟨⟨t665, t666⟩, A100, H⟩ := H
    replace H : ((impl_NextBusinessDay.f k t665 t666).bind fun bt667 => ((spec_NextBusinessDay.f k t665 t666).bind fun bt669 => ((spec_DrawWeekdayOf.f k l0).bind fun t671 => ((impl_WeekdayOf.f k t671).bind fun bt672 => ((spec_WeekdayOf.f t671).bind fun bt674 => (if t651 = t653 then (if t650 = t652 then (if t658 = t663 then (if (!(t655 == t660) || (!(t656 == t661) || (!(t657 == t662)))) = true then (laws_FnDays.j0 k t650 t651 t654 t658 t665 t666 bt667.1 bt667.2 true t646 t647 t648 t655 t656 t657) else (if bt667.2 = bt669.2 then (if bt667.1 = bt669.1 then (if bt672.2 = bt674.2 then (if bt672.1 = bt674.1 then ((impl_IsDate.f k t646 t647 t648).bind fun t676 => (laws_FnDays.j0 k t650 t651 t654 t658 t665 t666 bt667.1 bt667.2 (t676 != (t653 == 0)) t646 t647 t648 t655 t656 t657)) else (laws_FnDays.j0 k t650 t651 t654 t658 t665 t666 bt667.1 bt667.2 true t646 t647 t648 t655 t656 t657)) else (laws_FnDays.j0 k t650 t651 t654 t658 t665 t666 bt667.1 bt667.2 true t646 t647 t648 t655 t656 t657)) else (laws_FnDays.j0 k t650 t651 t654 t658 t665 t666 bt667.1 bt667.2 true t646 t647 t648 t655 t656 t657)) else (laws_FnDays.j0 k t650 t651 t654 t658 t665 t666 bt667.1 bt667.2 true t646 t647 t648 t655 t656 t657))) else (laws_FnDays.j0 k t650 t651 t654 t658 t665 t666 bt667.1 bt667.2 true t646 t647 t648 t655 t656 t657)) else (laws_FnDays.j0 k t650 t651 t654 t658 t665 t666 bt667.1 bt667.2 true t646 t647 t648 t655 t656 t657)) else (laws_FnDays.j0 k t650 t651 t654 t658 t665 t666 bt667.1 bt667.2 true t646 t647 t648 t655 t656 t657))))))) = some r := H
    have A10 := Aside0.mk A100
    clear A100
    replace H := Option.bind_eq_some_iff.mp H
    obtain ⟨⟨t667, t668⟩, A110, H⟩ := H
    replace H : ((spec_NextBusinessDay.f k t665 t666).bind fun bt669 => ((spec_DrawWeekdayOf.f k l0).bind fun t671 => ((impl_WeekdayOf.f k t671).bind fun bt672 => ((spec_WeekdayOf.f t671).bind fun bt674 => (if t651 = t653 then (if t650 = t652 then (if t658 = t663 then (if (!(t655 == t660) || (!(t656 == t661) || (!(t657 == t662)))) = true then (laws_FnDays.j0 k t650 t651 t654 t658 t665 t666 t667 t668 true t646 t647 t648 t655 t656 t657) else (if t668 = bt669.2 then (if t667 = bt669.1 then (if bt672.2 = bt674.2 then (if bt672.1 = bt674.1 then ((impl_IsDate.f k t646 t647 t648).bind fun t676 => (laws_FnDays.j0 k t650 t651 t654 t658 t665 t666 t667 t668 (t676 != (t653 == 0)) t646 t647 t648 t655 t656 t657)) else (laws_FnDays.j0 k t650 t651 t654 t658 t665 t666 t667 t668 true t646 t647 t648 t655 t656 t657)) else (laws_FnDays.j0 k t650 t651 t654 t658 t665 t666 t667 t668 true t646 t647 t648 t655 t656 t657)) else (laws_FnDays.j0 k t650 t651 t654 t658 t665 t666 t667 t668 true t646 t647 t648 t655 t656 t657)) else (laws_FnDays.j0 k t650 t651 t654 t658 t665 t666 t667 t668 true t646 t647 t648 t655 t656 t657))) else (laws_FnDays.j0 k t650 t651 t654 t658 t665 t666 t667 t668 true t646 t647 t648 t655 t656 t657)) else (laws_FnDays.j0 k t650 t651 t654 t658 t665 t666 t667 t668 true t646 t647 t648 t655 t656 t657)) else (laws_FnDays.j0 k t650 t651 t654 t658 t665 t666 t667 t668 true t646 t647 t648 t655 t656 t657)))))) = some r := H
    have A11 := Aside0.mk A110
    clear A110
    replace H := Option.bind_eq_some_iff.mp H
    obtain ⟨⟨t669, t670⟩, A120, H⟩ := H
    replace H : ((spec_DrawWeekdayOf.f k l0).bind fun t671 => ((impl_WeekdayOf.f k t671).bind fun bt672 => ((spec_WeekdayOf.f t671).bind fun bt674 => (if t651 = t653 then (if t650 = t652 then (if t658 = t663 then (if (!(t655 == t660) || (!(t656 == t661) || (!(t657 == t662)))) = true then (laws_FnDays.j0 k t650 t651 t654 t658 t665 t666 t667 t668 true t646 t647 t648 t655 t656 t657) else (if t668 = t670 then (if t667 = t669 then (if bt672.2 = bt674.2 then (if bt672.1 = bt674.1 then ((impl_IsDate.f k t646 t647 t648).bind fun t676 => (laws_FnDays.j0 k t650 t651 t654 t658 t665 t666 t667 t668 (t676 != (t653 == 0)) t646 t647 t648 t655 t656 t657)) else (laws_FnDays.j0 k t650 t651 t654 t658 t665 t666 t667 t668 true t646 t647 t648 t655 t656 t657)) else (laws_FnDays.j0 k t650 t651 t654 t658 t665 t666 t667 t668 true t646 t647 t648 t655 t656 t657)) else (laws_FnDays.j0 k t650 t651 t654 t658 t665 t666 t667 t668 true t646 t647 t648 t655 t656 t657)) else (laws_FnDays.j0 k t650 t651 t654 t658 t665 t666 t667 t668 true t646 t647 t648 t655 t656 t657))) else (laws_FnDays.j0 k t650 t651 t654 t658 t665 t666 t667 t668 true t646 t647 t648 t655 t656 t657)) else (laws_FnDays.j0 k t650 t651 t654 t658 t665 t666 t667 t668 true t646 t647 t648 t655 t656 t657)) else (laws_FnDays.j0 k t650 t651 t654 t658 t665 t666 t667 t668 true t646 t647 t648 t655 t656 t657))))) = some r := H
    have A12 := Aside0.mk A120
    clear A120
    replace H := Option.bind_eq_some_iff.mp H
    obtain ⟨t671, A130, H⟩ := H
    replace H : ((impl_WeekdayOf.f k t671).bind fun bt672 => ((spec_WeekdayOf.f t671).bind fun bt674 => (if t651 = t653 then (if t650 = t652 then (if t658 = t663 then (if (!(t655 == t660) || (!(t656 == t661) || (!(t657 == t662)))) = true then (laws_FnDays.j0 k t650 t651 t654 t658 t665 t666 t667 t668 true t646 t647 t648 t655 t656 t657) else (if t668 = t670 then (if t667 = t669 then (if bt672.2 = bt674.2 then (if bt672.1 = bt674.1 then ((impl_IsDate.f k t646 t647 t648).bind fun t676 => (laws_FnDays.j0 k t650 t651 t654 t658 t665 t666 t667 t668 (t676 != (t653 == 0)) t646 t647 t648 t655 t656 t657)) else (laws_FnDays.j0 k t650 t651 t654 t658 t665 t666 t667 t668 true t646 t647 t648 t655 t656 t657)) else (laws_FnDays.j0 k t650 t651 t654 t658 t665 t666 t667 t668 true t646 t647 t648 t655 t656 t657)) else (laws_FnDays.j0 k t650 t651 t654 t658 t665 t666 t667 t668 true t646 t647 t648 t655 t656 t657)) else (laws_FnDays.j0 k t650 t651 t654 t658 t665 t666 t667 t668 true t646 t647 t648 t655 t656 t657))) else (laws_FnDays.j0 k t650 t651 t654 t658 t665 t666 t667 t668 true t646 t647 t648 t655 t656 t657)) else (laws_FnDays.j0 k t650 t651 t654 t658 t665 t666 t667 t668 true t646 t647 t648 t655 t656 t657)) else (laws_FnDays.j0 k t650 t651 t654 t658 t665 t666 t667 t668 true t646 t647 t648 t655 t656 t657)))) = some r := H
    have A13 := Aside0.mk A130
    clear A130
    replace H := Option.bind_eq_some_iff.mp H
    obtain ⟨⟨t672, t673⟩, A140, H⟩ := H
    replace H : ((spec_WeekdayOf.f t671).bind fun bt674 => (if t651 = t653 then (if t650 = t652 then (if t658 = t663 then (if (!(t655 == t660) || (!(t656 == t661) || (!(t657 == t662)))) = true then (laws_FnDays.j0 k t650 t651 t654 t658 t665 t666 t667 t668 true t646 t647 t648 t655 t656 t657) else (if t668 = t670 then (if t667 = t669 then (if t673 = bt674.2 then (if t672 = bt674.1 then ((impl_IsDate.f k t646 t647 t648).bind fun t676 => (laws_FnDays.j0 k t650 t651 t654 t658 t665 t666 t667 t668 (t676 != (t653 == 0)) t646 t647 t648 t655 t656 t657)) else (laws_FnDays.j0 k t650 t651 t654 t658 t665 t666 t667 t668 true t646 t647 t648 t655 t656 t657)) else (laws_FnDays.j0 k t650 t651 t654 t658 t665 t666 t667 t668 true t646 t647 t648 t655 t656 t657)) else (laws_FnDays.j0 k t650 t651 t654 t658 t665 t666 t667 t668 true t646 t647 t648 t655 t656 t657)) else (laws_FnDays.j0 k t650 t651 t654 t658 t665 t666 t667 t668 true t646 t647 t648 t655 t656 t657))) else (laws_FnDays.j0 k t650 t651 t654 t658 t665 t666 t667 t668 true t646 t647 t648 t655 t656 t657)) else (laws_FnDays.j0 k t650 t651 t654 t658 t665 t666 t667 t668 true t646 t647 t648 t655 t656 t657)) else (laws_FnDays.j0 k t650 t651 t654 t658 t665 t666 t667 t668 true t646 t647 t648 t655 t656 t657))) = some r := H
    have A14 := Aside0.mk A140
    clear A140
    replace H := Option.bind_eq_some_iff.mp H
    obtain ⟨⟨t674, t675⟩, A150, H⟩ := H
    replace H : (if t651 = t653 then (if t650 = t652 then (if t658 = t663 then (if (!(t655 == t660) || (!(t656 == t661) || (!(t657 == t662)))) = true then (laws_FnDays.j0 k t650 t651 t654 t658 t665 t666 t667 t668 true t646 t647 t648 t655 t656 t657) else (if t668 = t670 then (if t667 = t669 then (if t673 = t675 then (if t672 = t674 then ((impl_IsDate.f k t646 t647 t648).bind fun t676 => (laws_FnDays.j0 k t650 t651 t654 t658 t665 t666 t667 t668 (t676 != (t653 == 0)) t646 t647 t648 t655 t656 t657)) else (laws_FnDays.j0 k t650 t651 t654 t658 t665 t666 t667 t668 true t646 t647 t648 t655 t656 t657)) else (laws_FnDays.j0 k t650 t651 t654 t658 t665 t666 t667 t668 true t646 t647 t648 t655 t656 t657)) else (laws_FnDays.j0 k t650 t651 t654 t658 t665 t666 t667 t668 true t646 t647 t648 t655 t656 t657)) else (laws_FnDays.j0 k t650 t651 t654 t658 t665 t666 t667 t668 true t646 t647 t648 t655 t656 t657))) else (laws_FnDays.j0 k t650 t651 t654 t658 t665 t666 t667 t668 true t646 t647 t648 t655 t656 t657)) else (laws_FnDays.j0 k t650 t651 t654 t658 t665 t666 t667 t668 true t646 t647 t648 t655 t656 t657)) else (laws_FnDays.j0 k t650 t651 t654 t658 t665 t666 t667 t668 true t646 t647 t648 t655 t656 t657)) = some r := H
    have A15 := Aside0.mk A150
    clear A150
    have HC16 := Aside0.mk H
    clear H
    go_enter Try.func5, Try.ntmps5
    go_upto_region 15 with (first | ((with_reducible refine gate_callee (f := 14) rfl ?_); refine goesL_ (some 31) rfl rfl Try.func14 (by kernel_rfl) rfl #[.slice A0 l0.length c0] rfl (by (try simp only [List.map_toArray, List.map_cons, List.map_nil]); first | done | rfl | (simp only [List.length_drop, List.length_take]; rfl)) ?_; (with_reducible refine (laws_big.calls _ _ l0 false _ ?side1 ?side2 A2.out).mono ?_); (case side1 => repeat (first | exact HR0.out | (with_reducible refine Kd.C_alloc ?_ _) | (with_reducible refine Kd.C_drewN ?_ _) | (with_reducible refine Kd.C_drew ?_))); (case side2 => exact HC0.out); rintro e w' ⟨rfl, ⟨nd, rfl⟩⟩; refine ⟨_, rfl, ?_⟩) | ((with_reducible refine gate_callee (f := 35) rfl ?_); refine goesL_ (some 33) rfl rfl Try.func35 (by kernel_rfl) rfl #[.slice A0 l0.length c0] rfl (by (try simp only [List.map_toArray, List.map_cons, List.map_nil]); first | done | rfl | (simp only [List.length_drop, List.length_take]; rfl)) ?_; (with_reducible refine (spec_DrawDayOf.calls k _ _ l0 t646 t647 t648 _ ?side1 ?side2 A4.out).mono ?_); (case side1 => repeat (first | exact HR0.out | (with_reducible refine Kd.C_alloc ?_ _) | (with_reducible refine Kd.C_drewN ?_ _) | (with_reducible refine Kd.C_drew ?_))); (case side2 => exact HC0.out); rintro e w17 ⟨rfl, hb⟩; refine ⟨_, rfl, ?_⟩; have n0_ := Aside0.mk (below_step (by repeat (first | (with_reducible first | exact HB.out | apply below_alloc | apply pw_below_drewN | apply below_drew1) | exact HB.out)) hb); clear HB; have HB := n0_; clear n0_; (try clear hb); (try clear hb2); (try clear hk); (try clear hi)) | ((with_reducible refine gate_dst (N := 3) rfl ?_); refine box_event ?hg (N := 3) ?hd (cs := #[.int .i64 0, .int .i64 0, .int .i64 0]) (t := 44) ?hr ?_; (case hd => rfl); (case hg => rfl); (case hr => first | (go_simp; done) | (go_simp; rfl)); intro gb649 hg w18 hbox hb; have n0_ := Aside0.mk (below_step (by repeat (first | (with_reducible first | exact HB.out | apply below_alloc | apply pw_below_drewN | apply below_drew1) | exact HB.out)) hb); have n1_ := Aside0.mk (hbox); have n2_ := Aside0.mk ((by rw [hg]; exact (below_size (by repeat (first | (with_reducible first | exact HB.out | apply below_alloc | apply pw_below_drewN | apply below_drew1) | exact HB.out))) : w.heap.size ≤ gb649)); have n3_ := Aside0.mk ((by rw [hg]; exact (below_size (by repeat (first | (with_reducible first | exact HB.out | apply below_alloc | apply pw_below_drewN | apply below_drew1) | exact HB.out))) : w.heap.size ≤ gb649)); clear HB; have HB := n0_; have BK649 := n1_; have GW649 := n2_; have GE649 := n3_; clear n0_ n1_ n2_ n3_; clear hb hbox hg; have hcz19_0 : w18.cell? ⟨gb649, 0, none⟩ = some (.int .i64 0) := (blk_cell BK649.out 0).trans rfl; have hcz19_1 : w18.cell? ⟨gb649, 1, none⟩ = some (.int .i64 0) := (blk_cell BK649.out 1).trans rfl; have hcz19_2 : w18.cell? ⟨gb649, 2, none⟩ = some (.int .i64 0) := (blk_cell BK649.out 2).trans rfl; have hfz19_0 := blk_frozen BK649.out 0; have hfz19_1 := blk_frozen BK649.out 1; have hfz19_2 := blk_frozen BK649.out 2) | ((with_reducible refine gate_callee (f := 36) rfl ?_); refine goesL_ (some 36) rfl rfl Try.func36 (by kernel_rfl) rfl #[.agg #[.int .i64 t646, .int .i64 t647, .int .i64 t648]] rfl (by (try simp only [List.map_toArray, List.map_cons, List.map_nil]); first | done | rfl | (simp only [List.length_drop, List.length_take]; rfl)) ?_; (with_reducible refine (impl_DayOf.calls k t646 t647 t648 t650 t651 _ A5.out).mono ?_); rintro e w20 ⟨rfl, hb⟩; refine ⟨_, rfl, ?_⟩; have n0_ := Aside0.mk (blk_below (g := gb649) (o := .cells #[.int .i64 t646, .int .i64 t647, .int .i64 t648] 44 (0, 0)) (by (with_reducible repeat (first | refine blk_drewN ?_ _ | refine blk_drew ?_ | refine blk_alloc ?_ _)); refine blk_put (cs := #[.int .i64 t646, .int .i64 t647, .int .i64 0]) ?_ 2 _ rfl; (with_reducible repeat (first | refine blk_drewN ?_ _ | refine blk_drew ?_ | refine blk_alloc ?_ _)); refine blk_put (cs := #[.int .i64 t646, .int .i64 0, .int .i64 0]) ?_ 1 _ rfl; (with_reducible repeat (first | refine blk_drewN ?_ _ | refine blk_drew ?_ | refine blk_alloc ?_ _)); refine blk_put (cs := #[.int .i64 0, .int .i64 0, .int .i64 0]) ?_ 0 _ rfl; (with_reducible repeat (first | refine blk_drewN ?_ _ | refine blk_drew ?_ | refine blk_alloc ?_ _)); exact BK649.out) hb); have n1_ := Aside0.mk (below_step (by repeat (first | (with_reducible first | exact HB.out | apply below_alloc | apply pw_below_drewN | apply below_drew1 | refine below_set ?_ GE649.out) | exact HB.out)) hb); clear BK649; clear HB; have BK649 := n0_; have HB := n1_; clear n0_ n1_; (try clear hb); (try clear hb2); (try clear hk); (try clear hi); have hcz21_0 : w20.cell? ⟨gb649, 0, none⟩ = some (.int .i64 t646) := (blk_cell BK649.out 0).trans rfl; have hcz21_1 : w20.cell? ⟨gb649, 1, none⟩ = some (.int .i64 t647) := (blk_cell BK649.out 1).trans rfl; have hcz21_2 : w20.cell? ⟨gb649, 2, none⟩ = some (.int .i64 t648) := (blk_cell BK649.out 2).trans rfl; have hfz21_0 := blk_frozen BK649.out 0; have hfz21_1 := blk_frozen BK649.out 1; have hfz21_2 := blk_frozen BK649.out 2) | ((with_reducible refine gate_callee (f := 37) rfl ?_); refine goesL_ (some 41) rfl rfl Try.func37 (by kernel_rfl) rfl #[.agg #[.int .i64 t646, .int .i64 t647, .int .i64 t648]] rfl (by (try simp only [List.map_toArray, List.map_cons, List.map_nil]); first | done | rfl | (simp only [List.length_drop, List.length_take]; rfl)) ?_; (with_reducible refine (spec_DayOf.calls k t646 t647 t648 t652 t653 _ A6.out).mono ?_); rintro e w22 ⟨rfl, hb⟩; refine ⟨_, rfl, ?_⟩; have n0_ := Aside0.mk (blk_below (g := gb649) (o := .cells #[.int .i64 t646, .int .i64 t647, .int .i64 t648] 44 (0, 0)) (by (with_reducible repeat (first | refine blk_drewN ?_ _ | refine blk_drew ?_ | refine blk_alloc ?_ _)); exact BK649.out) hb); have n1_ := Aside0.mk (below_step (by repeat (first | (with_reducible first | exact HB.out | apply below_alloc | apply pw_below_drewN | apply below_drew1 | refine below_set ?_ GE649.out) | exact HB.out)) hb); clear BK649; clear HB; have BK649 := n0_; have HB := n1_; clear n0_ n1_; (try clear hb); (try clear hb2); (try clear hk); (try clear hi)) | ((with_reducible refine gate_callee (f := 38) rfl ?_); refine goesL_ (some 45) rfl rfl Try.func38 (by kernel_rfl) rfl #[.slice A0 l0.length c0] rfl (by (try simp only [List.map_toArray, List.map_cons, List.map_nil]); first | done | rfl | (simp only [List.length_drop, List.length_take]; rfl)) ?_; (with_reducible refine (spec_DrawDateOf.calls k _ _ l0 t654 _ ?side1 ?side2 A7.out).mono ?_); (case side1 => repeat (first | exact (Kd.C_below HR0.out HB.out) | (with_reducible refine Kd.C_alloc ?_ _) | (with_reducible refine Kd.C_drewN ?_ _) | (with_reducible refine Kd.C_drew ?_))); (case side2 => exact HC0.out); rintro e w23 ⟨rfl, hb⟩; refine ⟨_, rfl, ?_⟩; have n0_ := Aside0.mk (blk_below (g := gb649) (o := .cells #[.int .i64 t646, .int .i64 t647, .int .i64 t648] 44 (0, 0)) (by (with_reducible repeat (first | refine blk_drewN ?_ _ | refine blk_drew ?_ | refine blk_alloc ?_ _)); exact BK649.out) hb); have n1_ := Aside0.mk (below_step (by repeat (first | (with_reducible first | exact HB.out | apply below_alloc | apply pw_below_drewN | apply below_drew1 | refine below_set ?_ GE649.out) | exact HB.out)) hb); clear BK649; clear HB; have BK649 := n0_; have HB := n1_; clear n0_ n1_; (try clear hb); (try clear hb2); (try clear hk); (try clear hi)) | ((with_reducible refine gate_callee (f := 39) rfl ?_); refine goesL_ (some 48) rfl rfl Try.func39 (by kernel_rfl) rfl #[.int .i64 t654] rfl (by (try simp only [List.map_toArray, List.map_cons, List.map_nil]); first | done | rfl | (simp only [List.length_drop, List.length_take]; rfl)) ?_; (with_reducible refine (impl_DateOf.calls k t654 t655 t656 t657 t658 _ A8.out).mono ?_); rintro e w24 ⟨rfl, hb⟩; refine ⟨_, rfl, ?_⟩; have n0_ := Aside0.mk (blk_below (g := gb649) (o := .cells #[.int .i64 t646, .int .i64 t647, .int .i64 t648] 44 (0, 0)) (by (with_reducible repeat (first | refine blk_drewN ?_ _ | refine blk_drew ?_ | refine blk_alloc ?_ _)); exact BK649.out) hb); have n1_ := Aside0.mk (below_step (by repeat (first | (with_reducible first | exact HB.out | apply below_alloc | apply pw_below_drewN | apply below_drew1 | refine below_set ?_ GE649.out) | exact HB.out)) hb); clear BK649; clear HB; have BK649 := n0_; have HB := n1_; clear n0_ n1_; (try clear hb); (try clear hb2); (try clear hk); (try clear hi)) | ((with_reducible refine gate_dst (N := 9) rfl ?_); refine box_event ?hg (N := 9) ?hd (cs := #[.int .i64 0, .int .i64 0, .int .i64 0]) (t := 44) ?hr ?_; (case hd => rfl); (case hg => rfl); (case hr => first | (go_simp; done) | (go_simp; rfl)); intro gb659 hg w25 hbox hb; have n0_ := Aside0.mk (blk_below (g := gb649) (o := .cells #[.int .i64 t646, .int .i64 t647, .int .i64 t648] 44 (0, 0)) (by (with_reducible repeat (first | refine blk_drewN ?_ _ | refine blk_drew ?_ | refine blk_alloc ?_ _)); exact BK649.out) hb); have n1_ := Aside0.mk (below_step (by repeat (first | (with_reducible first | exact HB.out | apply below_alloc | apply pw_below_drewN | apply below_drew1 | refine below_set ?_ GE649.out) | exact HB.out)) hb); have n2_ := Aside0.mk (hbox); have n3_ := Aside0.mk ((by rw [hg]; exact (below_size (by repeat (first | (with_reducible first | exact HB.out | apply below_alloc | apply pw_below_drewN | apply below_drew1 | refine below_set ?_ GE649.out) | exact HB.out))) : w.heap.size ≤ gb659)); have n4_ := Aside0.mk ((by rw [hg]; exact (below_size (by repeat (first | (with_reducible first | exact HB.out | apply below_alloc | apply pw_below_drewN | apply below_drew1 | refine below_set ?_ GE649.out) | exact HB.out))) : w.heap.size ≤ gb659)); have n5_ := Aside0.mk ((by rw [hg]; exact Nat.ne_of_lt (blk_lt (g := gb649) (o := .cells #[.int .i64 t646, .int .i64 t647, .int .i64 t648] 44 (0, 0)) (by (with_reducible repeat (first | refine blk_drewN ?_ _ | refine blk_drew ?_ | refine blk_alloc ?_ _)); exact BK649.out)) : gb649 ≠ gb659)); have n6_ := Aside0.mk ((by rw [hg]; exact Nat.ne_of_gt (blk_lt (g := gb649) (o := .cells #[.int .i64 t646, .int .i64 t647, .int .i64 t648] 44 (0, 0)) (by (with_reducible repeat (first | refine blk_drewN ?_ _ | refine blk_drew ?_ | refine blk_alloc ?_ _)); exact BK649.out)) : gb659 ≠ gb649)); clear BK649; clear HB; have BK649 := n0_; have HB := n1_; have BK659 := n2_; have GW659 := n3_; have GE659 := n4_; have NB649_659 := n5_; have NB659_649 := n6_; clear n0_ n1_ n2_ n3_ n4_ n5_ n6_; clear hb hbox hg; have hnb26 := NB659_649.out; have hnc26 := NB649_659.out; have hcz27_0 : w25.cell? ⟨gb659, 0, none⟩ = some (.int .i64 0) := (blk_cell BK659.out 0).trans rfl; have hcz27_1 : w25.cell? ⟨gb659, 1, none⟩ = some (.int .i64 0) := (blk_cell BK659.out 1).trans rfl; have hcz27_2 : w25.cell? ⟨gb659, 2, none⟩ = some (.int .i64 0) := (blk_cell BK659.out 2).trans rfl; have hfz27_0 := blk_frozen BK659.out 0; have hfz27_1 := blk_frozen BK659.out 1; have hfz27_2 := blk_frozen BK659.out 2) | ((with_reducible refine gate_callee (f := 40) rfl ?_); refine goesL_ (some 53) rfl rfl Try.func40 (by kernel_rfl) rfl #[.int .i64 t654] rfl (by (try simp only [List.map_toArray, List.map_cons, List.map_nil]); first | done | rfl | (simp only [List.length_drop, List.length_take]; rfl)) ?_; (with_reducible refine (spec_DateOf.calls k t654 t660 t661 t662 t663 _ A9.out).mono ?_); rintro e w28 ⟨rfl, hb⟩; refine ⟨_, rfl, ?_⟩; have n0_ := Aside0.mk (blk_below (g := gb649) (o := .cells #[.int .i64 t646, .int .i64 t647, .int .i64 t648] 44 (0, 0)) (by (with_reducible repeat (first | refine blk_drewN ?_ _ | refine blk_drew ?_ | refine blk_alloc ?_ _)); refine blk_far ?_ NB649_659.out _; (with_reducible repeat (first | refine blk_drewN ?_ _ | refine blk_drew ?_ | refine blk_alloc ?_ _)); refine blk_far ?_ NB649_659.out _; (with_reducible repeat (first | refine blk_drewN ?_ _ | refine blk_drew ?_ | refine blk_alloc ?_ _)); refine blk_far ?_ NB649_659.out _; (with_reducible repeat (first | refine blk_drewN ?_ _ | refine blk_drew ?_ | refine blk_alloc ?_ _)); exact BK649.out) hb); have n1_ := Aside0.mk (blk_below (g := gb659) (o := .cells #[.int .i64 t655, .int .i64 t656, .int .i64 t657] 44 (0, 0)) (by (with_reducible repeat (first | refine blk_drewN ?_ _ | refine blk_drew ?_ | refine blk_alloc ?_ _)); refine blk_put (cs := #[.int .i64 t655, .int .i64 t656, .int .i64 0]) ?_ 2 _ rfl; (with_reducible repeat (first | refine blk_drewN ?_ _ | refine blk_drew ?_ | refine blk_alloc ?_ _)); refine blk_put (cs := #[.int .i64 t655, .int .i64 0, .int .i64 0]) ?_ 1 _ rfl; (with_reducible repeat (first | refine blk_drewN ?_ _ | refine blk_drew ?_ | refine blk_alloc ?_ _)); refine blk_put (cs := #[.int .i64 0, .int .i64 0, .int .i64 0]) ?_ 0 _ rfl; (with_reducible repeat (first | refine blk_drewN ?_ _ | refine blk_drew ?_ | refine blk_alloc ?_ _)); exact BK659.out) hb); have n2_ := Aside0.mk (below_step (by repeat (first | (with_reducible first | exact HB.out | apply below_alloc | apply pw_below_drewN | apply below_drew1 | refine below_set ?_ GE649.out | refine below_set ?_ GE659.out) | exact HB.out)) hb); clear BK649; clear BK659; clear HB; have BK649 := n0_; have BK659 := n1_; have HB := n2_; clear n0_ n1_ n2_; (try clear hb); (try clear hb2); (try clear hk); (try clear hi)) | ((with_reducible refine gate_dst (N := 11) rfl ?_); refine box_event ?hg (N := 11) ?hd (cs := #[.int .i64 0, .int .i64 0, .int .i64 0]) (t := 44) ?hr ?_; (case hd => rfl); (case hg => rfl); (case hr => first | (go_simp; done) | (go_simp; rfl)); intro gb664 hg w29 hbox hb; have n0_ := Aside0.mk (blk_below (g := gb649) (o := .cells #[.int .i64 t646, .int .i64 t647, .int .i64 t648] 44 (0, 0)) (by (with_reducible repeat (first | refine blk_drewN ?_ _ | refine blk_drew ?_ | refine blk_alloc ?_ _)); exact BK649.out) hb); have n1_ := Aside0.mk (blk_below (g := gb659) (o := .cells #[.int .i64 t655, .int .i64 t656, .int .i64 t657] 44 (0, 0)) (by (with_reducible repeat (first | refine blk_drewN ?_ _ | refine blk_drew ?_ | refine blk_alloc ?_ _)); exact BK659.out) hb); have n2_ := Aside0.mk (below_step (by repeat (first | (with_reducible first | exact HB.out | apply below_alloc | apply pw_below_drewN | apply below_drew1 | refine below_set ?_ GE649.out | refine below_set ?_ GE659.out) | exact HB.out)) hb); have n3_ := Aside0.mk (hbox); have n4_ := Aside0.mk ((by rw [hg]; exact (below_size (by repeat (first | (with_reducible first | exact HB.out | apply below_alloc | apply pw_below_drewN | apply below_drew1 | refine below_set ?_ GE649.out | refine below_set ?_ GE659.out) | exact HB.out))) : w.heap.size ≤ gb664)); have n5_ := Aside0.mk ((by rw [hg]; exact (below_size (by repeat (first | (with_reducible first | exact HB.out | apply below_alloc | apply pw_below_drewN | apply below_drew1 | refine below_set ?_ GE649.out | refine below_set ?_ GE659.out) | exact HB.out))) : w.heap.size ≤ gb664)); have n6_ := Aside0.mk ((by rw [hg]; exact Nat.ne_of_lt (blk_lt (g := gb649) (o := .cells #[.int .i64 t646, .int .i64 t647, .int .i64 t648] 44 (0, 0)) (by (with_reducible repeat (first | refine blk_drewN ?_ _ | refine blk_drew ?_ | refine blk_alloc ?_ _)); exact BK649.out)) : gb649 ≠ gb664)); have n7_ := Aside0.mk ((by rw [hg]; exact Nat.ne_of_gt (blk_lt (g := gb649) (o := .cells #[.int .i64 t646, .int .i64 t647, .int .i64 t648] 44 (0, 0)) (by (with_reducible repeat (first | refine blk_drewN ?_ _ | refine blk_drew ?_ | refine blk_alloc ?_ _)); exact BK649.out)) : gb664 ≠ gb649)); have n8_ := Aside0.mk ((by rw [hg]; exact Nat.ne_of_lt (blk_lt (g := gb659) (o := .cells #[.int .i64 t655, .int .i64 t656, .int .i64 t657] 44 (0, 0)) (by (with_reducible repeat (first | refine blk_drewN ?_ _ | refine blk_drew ?_ | refine blk_alloc ?_ _)); exact BK659.out)) : gb659 ≠ gb664)); have n9_ := Aside0.mk ((by rw [hg]; exact Nat.ne_of_gt (blk_lt (g := gb659) (o := .cells #[.int .i64 t655, .int .i64 t656, .int .i64 t657] 44 (0, 0)) (by (with_reducible repeat (first | refine blk_drewN ?_ _ | refine blk_drew ?_ | refine blk_alloc ?_ _)); exact BK659.out)) : gb664 ≠ gb659)); clear BK649; clear BK659; clear HB; have BK649 := n0_; have BK659 := n1_; have HB := n2_; have BK664 := n3_; have GW664 := n4_; have GE664 := n5_; have NB649_664 := n6_; have NB664_649 := n7_; have NB659_664 := n8_; have NB664_659 := n9_; clear n0_ n1_ n2_ n3_ n4_ n5_ n6_ n7_ n8_ n9_; clear hb hbox hg; have hnb30 := NB664_649.out; have hnc30 := NB649_664.out; have hnb31 := NB664_659.out; have hnc31 := NB659_664.out; have hcz32_0 : w29.cell? ⟨gb664, 0, none⟩ = some (.int .i64 0) := (blk_cell BK664.out 0).trans rfl; have hcz32_1 : w29.cell? ⟨gb664, 1, none⟩ = some (.int .i64 0) := (blk_cell BK664.out 1).trans rfl; have hcz32_2 : w29.cell? ⟨gb664, 2, none⟩ = some (.int .i64 0) := (blk_cell BK664.out 2).trans rfl; have hfz32_0 := blk_frozen BK664.out 0; have hfz32_1 := blk_frozen BK664.out 1; have hfz32_2 := blk_frozen BK664.out 2) | ((with_reducible refine gate_callee (f := 41) rfl ?_); refine goesL_ (some 58) rfl rfl Try.func41 (by kernel_rfl) rfl #[.slice A0 l0.length c0] rfl (by (try simp only [List.map_toArray, List.map_cons, List.map_nil]); first | done | rfl | (simp only [List.length_drop, List.length_take]; rfl)) ?_; (with_reducible refine (spec_DrawNextBusinessDay.calls k _ _ l0 t665 t666 _ ?side1 ?side2 A10.out).mono ?_); (case side1 => exact Kd.C_below HR0.out (by repeat (first | (with_reducible first | exact HB.out | apply below_alloc | apply pw_below_drewN | apply below_drew1 | refine below_set ?_ GE649.out | refine below_set ?_ GE659.out | refine below_set ?_ GE664.out) | exact HB.out))); (case side2 => exact HC0.out); rintro e w33 ⟨rfl, hb⟩; refine ⟨_, rfl, ?_⟩; have n0_ := Aside0.mk (blk_below (g := gb649) (o := .cells #[.int .i64 t646, .int .i64 t647, .int .i64 t648] 44 (0, 0)) (by (with_reducible repeat (first | refine blk_drewN ?_ _ | refine blk_drew ?_ | refine blk_alloc ?_ _)); refine blk_far ?_ NB649_664.out _; (with_reducible repeat (first | refine blk_drewN ?_ _ | refine blk_drew ?_ | refine blk_alloc ?_ _)); refine blk_far ?_ NB649_664.out _; (with_reducible repeat (first | refine blk_drewN ?_ _ | refine blk_drew ?_ | refine blk_alloc ?_ _)); refine blk_far ?_ NB649_664.out _; (with_reducible repeat (first | refine blk_drewN ?_ _ | refine blk_drew ?_ | refine blk_alloc ?_ _)); exact BK649.out) hb); have n1_ := Aside0.mk (blk_below (g := gb659) (o := .cells #[.int .i64 t655, .int .i64 t656, .int .i64 t657] 44 (0, 0)) (by (with_reducible repeat (first | refine blk_drewN ?_ _ | refine blk_drew ?_ | refine blk_alloc ?_ _)); refine blk_far ?_ NB659_664.out _; (with_reducible repeat (first | refine blk_drewN ?_ _ | refine blk_drew ?_ | refine blk_alloc ?_ _)); refine blk_far ?_ NB659_664.out _; (with_reducible repeat (first | refine blk_drewN ?_ _ | refine blk_drew ?_ | refine blk_alloc ?_ _)); refine blk_far ?_ NB659_664.out _; (with_reducible repeat (first | refine blk_drewN ?_ _ | refine blk_drew ?_ | refine blk_alloc ?_ _)); exact BK659.out) hb); have n2_ := Aside0.mk (blk_below (g := gb664) (o := .cells #[.int .i64 t660, .int .i64 t661, .int .i64 t662] 44 (0, 0)) (by (with_reducible repeat (first | refine blk_drewN ?_ _ | refine blk_drew ?_ | refine blk_alloc ?_ _)); refine blk_put (cs := #[.int .i64 t660, .int .i64 t661, .int .i64 0]) ?_ 2 _ rfl; (with_reducible repeat (first | refine blk_drewN ?_ _ | refine blk_drew ?_ | refine blk_alloc ?_ _)); refine blk_put (cs := #[.int .i64 t660, .int .i64 0, .int .i64 0]) ?_ 1 _ rfl; (with_reducible repeat (first | refine blk_drewN ?_ _ | refine blk_drew ?_ | refine blk_alloc ?_ _)); refine blk_put (cs := #[.int .i64 0, .int .i64 0, .int .i64 0]) ?_ 0 _ rfl; (with_reducible repeat (first | refine blk_drewN ?_ _ | refine blk_drew ?_ | refine blk_alloc ?_ _)); exact BK664.out) hb); have n3_ := Aside0.mk (below_step (by repeat (first | (with_reducible first | exact HB.out | apply below_alloc | apply pw_below_drewN | apply below_drew1 | refine below_set ?_ GE649.out | refine below_set ?_ GE659.out | refine below_set ?_ GE664.out) | exact HB.out)) hb); clear BK649; clear BK659; clear BK664; clear HB; have BK649 := n0_; have BK659 := n1_; have BK664 := n2_; have HB := n3_; clear n0_ n1_ n2_ n3_; (try clear hb); (try clear hb2); (try clear hk); (try clear hi)) | ((with_reducible refine gate_callee (f := 42) rfl ?_); refine goesL_ (some 64) rfl rfl Try.func42 (by kernel_rfl) rfl #[.int .i64 t665, .int .i64 t666] rfl (by (try simp only [List.map_toArray, List.map_cons, List.map_nil]); first | done | rfl | (simp only [List.length_drop, List.length_take]; rfl)) ?_; (with_reducible refine (impl_NextBusinessDay.calls k t665 t666 t667 t668 _ A11.out).mono ?_); rintro e w34 ⟨rfl, hb⟩; refine ⟨_, rfl, ?_⟩; have n0_ := Aside0.mk (blk_below (g := gb649) (o := .cells #[.int .i64 t646, .int .i64 t647, .int .i64 t648] 44 (0, 0)) (by (with_reducible repeat (first | refine blk_drewN ?_ _ | refine blk_drew ?_ | refine blk_alloc ?_ _)); exact BK649.out) hb); have n1_ := Aside0.mk (blk_below (g := gb659) (o := .cells #[.int .i64 t655, .int .i64 t656, .int .i64 t657] 44 (0, 0)) (by (with_reducible repeat (first | refine blk_drewN ?_ _ | refine blk_drew ?_ | refine blk_alloc ?_ _)); exact BK659.out) hb); have n2_ := Aside0.mk (blk_below (g := gb664) (o := .cells #[.int .i64 t660, .int .i64 t661, .int .i64 t662] 44 (0, 0)) (by (with_reducible repeat (first | refine blk_drewN ?_ _ | refine blk_drew ?_ | refine blk_alloc ?_ _)); exact BK664.out) hb); have n3_ := Aside0.mk (below_step (by repeat (first | (with_reducible first | exact HB.out | apply below_alloc | apply pw_below_drewN | apply below_drew1 | refine below_set ?_ GE649.out | refine below_set ?_ GE659.out | refine below_set ?_ GE664.out) | exact HB.out)) hb); clear BK649; clear BK659; clear BK664; clear HB; have BK649 := n0_; have BK659 := n1_; have BK664 := n2_; have HB := n3_; clear n0_ n1_ n2_ n3_; (try clear hb); (try clear hb2); (try clear hk); (try clear hi)) | ((with_reducible refine gate_callee (f := 43) rfl ?_); refine goesL_ (some 70) rfl rfl Try.func43 (by kernel_rfl) rfl #[.int .i64 t665, .int .i64 t666] rfl (by (try simp only [List.map_toArray, List.map_cons, List.map_nil]); first | done | rfl | (simp only [List.length_drop, List.length_take]; rfl)) ?_; (with_reducible refine (spec_NextBusinessDay.calls k t665 t666 t669 t670 _ A12.out).mono ?_); rintro e w' ⟨rfl, ⟨nd, rfl⟩⟩; refine ⟨_, rfl, ?_⟩) | ((with_reducible refine gate_callee (f := 44) rfl ?_); refine goesL_ (some 74) rfl rfl Try.func44 (by kernel_rfl) rfl #[.slice A0 l0.length c0] rfl (by (try simp only [List.map_toArray, List.map_cons, List.map_nil]); first | done | rfl | (simp only [List.length_drop, List.length_take]; rfl)) ?_; (with_reducible refine (spec_DrawWeekdayOf.calls k _ _ l0 t671 _ ?side1 ?side2 A13.out).mono ?_); (case side1 => repeat (first | exact (Kd.C_below HR0.out (by repeat (first | (with_reducible first | exact HB.out | apply below_alloc | apply pw_below_drewN | apply below_drew1 | refine below_set ?_ GE649.out | refine below_set ?_ GE659.out | refine below_set ?_ GE664.out) | exact HB.out))) | (with_reducible refine Kd.C_alloc ?_ _) | (with_reducible refine Kd.C_drewN ?_ _) | (with_reducible refine Kd.C_drew ?_))); (case side2 => exact HC0.out); rintro e w35 ⟨rfl, hb⟩; refine ⟨_, rfl, ?_⟩; have n0_ := Aside0.mk (blk_below (g := gb649) (o := .cells #[.int .i64 t646, .int .i64 t647, .int .i64 t648] 44 (0, 0)) (by (with_reducible repeat (first | refine blk_drewN ?_ _ | refine blk_drew ?_ | refine blk_alloc ?_ _)); exact BK649.out) hb); have n1_ := Aside0.mk (blk_below (g := gb659) (o := .cells #[.int .i64 t655, .int .i64 t656, .int .i64 t657] 44 (0, 0)) (by (with_reducible repeat (first | refine blk_drewN ?_ _ | refine blk_drew ?_ | refine blk_alloc ?_ _)); exact BK659.out) hb); have n2_ := Aside0.mk (blk_below (g := gb664) (o := .cells #[.int .i64 t660, .int .i64 t661, .int .i64 t662] 44 (0, 0)) (by (with_reducible repeat (first | refine blk_drewN ?_ _ | refine blk_drew ?_ | refine blk_alloc ?_ _)); exact BK664.out) hb); have n3_ := Aside0.mk (below_step (by repeat (first | (with_reducible first | exact HB.out | apply below_alloc | apply pw_below_drewN | apply below_drew1 | refine below_set ?_ GE649.out | refine below_set ?_ GE659.out | refine below_set ?_ GE664.out) | exact HB.out)) hb); clear BK649; clear BK659; clear BK664; clear HB; have BK649 := n0_; have BK659 := n1_; have BK664 := n2_; have HB := n3_; clear n0_ n1_ n2_ n3_; (try clear hb); (try clear hb2); (try clear hk); (try clear hi)) | ((with_reducible refine gate_callee (f := 45) rfl ?_); refine goesL_ (some 77) rfl rfl Try.func45 (by kernel_rfl) rfl #[.int .i64 t671] rfl (by (try simp only [List.map_toArray, List.map_cons, List.map_nil]); first | done | rfl | (simp only [List.length_drop, List.length_take]; rfl)) ?_; (with_reducible refine (impl_WeekdayOf.calls k t671 t672 t673 _ A14.out).mono ?_); rintro e w36 ⟨rfl, hb⟩; refine ⟨_, rfl, ?_⟩; have n0_ := Aside0.mk (blk_below (g := gb649) (o := .cells #[.int .i64 t646, .int .i64 t647, .int .i64 t648] 44 (0, 0)) (by (with_reducible repeat (first | refine blk_drewN ?_ _ | refine blk_drew ?_ | refine blk_alloc ?_ _)); exact BK649.out) hb); have n1_ := Aside0.mk (blk_below (g := gb659) (o := .cells #[.int .i64 t655, .int .i64 t656, .int .i64 t657] 44 (0, 0)) (by (with_reducible repeat (first | refine blk_drewN ?_ _ | refine blk_drew ?_ | refine blk_alloc ?_ _)); exact BK659.out) hb); have n2_ := Aside0.mk (blk_below (g := gb664) (o := .cells #[.int .i64 t660, .int .i64 t661, .int .i64 t662] 44 (0, 0)) (by (with_reducible repeat (first | refine blk_drewN ?_ _ | refine blk_drew ?_ | refine blk_alloc ?_ _)); exact BK664.out) hb); have n3_ := Aside0.mk (below_step (by repeat (first | (with_reducible first | exact HB.out | apply below_alloc | apply pw_below_drewN | apply below_drew1 | refine below_set ?_ GE649.out | refine below_set ?_ GE659.out | refine below_set ?_ GE664.out) | exact HB.out)) hb); clear BK649; clear BK659; clear BK664; clear HB; have BK649 := n0_; have BK659 := n1_; have BK664 := n2_; have HB := n3_; clear n0_ n1_ n2_ n3_; (try clear hb); (try clear hb2); (try clear hk); (try clear hi)) | ((with_reducible refine gate_callee (f := 46) rfl ?_); refine goesL_ (some 82) rfl rfl Try.func46 (by kernel_rfl) rfl #[.int .i64 t671] rfl (by (try simp only [List.map_toArray, List.map_cons, List.map_nil]); first | done | rfl | (simp only [List.length_drop, List.length_take]; rfl)) ?_; (with_reducible refine (spec_WeekdayOf.calls t671 t674 t675 _ A15.out).mono ?_); rintro e w' ⟨rfl, ⟨nd, rfl⟩⟩; refine ⟨_, rfl, ?_⟩))
    (try simp only [Act.put, List.setIfInBounds_toArray, List.set_cons_zero, List.set_cons_succ])
    go_cut [129] (fun v129 wc => ∃ (kq : Nat) (x129_15 : Bool), v129 = .bool x129_15 ∧ Aside0 (laws_FnDays.j0 kq t650 t651 t654 t658 t665 t666 t667 t668 x129_15 t646 t647 t648 t655 t656 t657 = some r) ∧ Aside0 (kq ≤ k) ∧ Aside0 (wc.heap[gb649]? = some (.cells #[.int .i64 t646, .int .i64 t647, .int .i64 t648] 44 (0, 0))) ∧ Aside0 (wc.heap[gb659]? = some (.cells #[.int .i64 t655, .int .i64 t656, .int .i64 t657] 44 (0, 0))) ∧ Aside0 (wc.heap[gb664]? = some (.cells #[.int .i64 t660, .int .i64 t661, .int .i64 t662] 44 (0, 0))) ∧ Aside0 (Below w.heap.size w wc))
    case first =>
      have H := HC16.out
      clear HC16
      by_cases c37 : t651 = t653
      · rw [if_pos c37] at H
        have c37b0 : (t651 == t653) = true := beq_iff_eq.mpr c37
        have c37b1 : (t651 != t653) = false := bne_eq_false_iff_eq.mpr c37
        clear c37
        (first | rw [c37b0] | (simp only [i64_w, i32_w]; rw [c37b0]) | skip)
        by_cases c38 : t650 = t652
        · rw [if_pos c38] at H
          have c38b0 : (t650 == t652) = true := beq_iff_eq.mpr c38
          have c38b1 : (t650 != t652) = false := bne_eq_false_iff_eq.mpr c38
          clear c38
          by_cases c39 : t658 = t663
          · rw [if_pos c39] at H
            have c39b0 : (t658 == t663) = true := beq_iff_eq.mpr c39
            have c39b1 : (t658 != t663) = false := bne_eq_false_iff_eq.mpr c39
            clear c39
            by_cases c40 : (!(t655 == t660) || (!(t656 == t661) || (!(t657 == t662)))) = true
            · rw [if_pos c40] at H
              have c40b0 : (!(t655 == t660) || (!(t656 == t661) || (!(t657 == t662)))) = true := c40
              clear c40
              have H' := Aside0.mk H
              clear H
              have hnb41 := NB659_649.out
              have hnc41 := NB649_659.out
              have hnb42 := NB659_664.out
              have hnc42 := NB664_659.out
              have hcz43_0 : w36.cell? ⟨gb659, 0, none⟩ = some (.int .i64 t655) := (blk_cell BK659.out 0).trans rfl
              have hcz43_1 : w36.cell? ⟨gb659, 1, none⟩ = some (.int .i64 t656) := (blk_cell BK659.out 1).trans rfl
              have hcz43_2 : w36.cell? ⟨gb659, 2, none⟩ = some (.int .i64 t657) := (blk_cell BK659.out 2).trans rfl
              have hfz43_0 := blk_frozen BK659.out 0
              have hfz43_1 := blk_frozen BK659.out 1
              have hfz43_2 := blk_frozen BK659.out 2
              have hnb44 := NB664_649.out
              have hnc44 := NB649_664.out
              have hcz45_0 : w36.cell? ⟨gb664, 0, none⟩ = some (.int .i64 t660) := (blk_cell BK664.out 0).trans rfl
              have hcz45_1 : w36.cell? ⟨gb664, 1, none⟩ = some (.int .i64 t661) := (blk_cell BK664.out 1).trans rfl
              have hcz45_2 : w36.cell? ⟨gb664, 2, none⟩ = some (.int .i64 t662) := (blk_cell BK664.out 2).trans rfl
              have hfz45_0 := blk_frozen BK664.out 0
              have hfz45_1 := blk_frozen BK664.out 1
              have hfz45_2 := blk_frozen BK664.out 2
              go_wp2
              go_meet
              case rel => exact ⟨_, (true), (by first | rfl | (simp; done) | (simp [*]; done)), H', ⟨by first | omega | exact Nat.le_refl _⟩, ⟨by (with_reducible repeat (first | refine blk_drewN ?_ _ | refine blk_drew ?_ | refine blk_alloc ?_ _)); exact BK649.out⟩, ⟨by (with_reducible repeat (first | refine blk_drewN ?_ _ | refine blk_drew ?_ | refine blk_alloc ?_ _)); exact BK659.out⟩, ⟨by (with_reducible repeat (first | refine blk_drewN ?_ _ | refine blk_drew ?_ | refine blk_alloc ?_ _)); exact BK664.out⟩, ⟨by repeat (first | (with_reducible first | exact HB.out | apply below_alloc | apply pw_below_drewN | apply below_drew1 | refine below_set ?_ GE649.out | refine below_set ?_ GE659.out | refine below_set ?_ GE664.out) | exact HB.out)⟩⟩
            · rw [if_neg c40] at H
              have c40b0 : (!(t655 == t660) || (!(t656 == t661) || (!(t657 == t662)))) = false := by simpa using c40
              clear c40
              by_cases c46 : t668 = t670
              · rw [if_pos c46] at H
                have c46b0 : (t668 == t670) = true := beq_iff_eq.mpr c46
                have c46b1 : (t668 != t670) = false := bne_eq_false_iff_eq.mpr c46
                clear c46
                by_cases c47 : t667 = t669
                · rw [if_pos c47] at H
                  have c47b0 : (t667 == t669) = true := beq_iff_eq.mpr c47
                  have c47b1 : (t667 != t669) = false := bne_eq_false_iff_eq.mpr c47
                  clear c47
                  by_cases c48 : t673 = t675
                  · rw [if_pos c48] at H
                    have c48b0 : (t673 == t675) = true := beq_iff_eq.mpr c48
                    have c48b1 : (t673 != t675) = false := bne_eq_false_iff_eq.mpr c48
                    clear c48
                    by_cases c49 : t672 = t674
                    · rw [if_pos c49] at H
                      have c49b0 : (t672 == t674) = true := beq_iff_eq.mpr c49
                      have c49b1 : (t672 != t674) = false := bne_eq_false_iff_eq.mpr c49
                      clear c49
                      replace H := Option.bind_eq_some_iff.mp H
                      obtain ⟨t676, A500, H⟩ := H
                      replace H : (laws_FnDays.j0 k t650 t651 t654 t658 t665 t666 t667 t668 (t676 != (t653 == 0)) t646 t647 t648 t655 t656 t657) = some r := H
                      have A50 := Aside0.mk A500
                      clear A500
                      have H' := Aside0.mk H
                      clear H
                      have hnb51 := NB659_649.out
                      have hnc51 := NB649_659.out
                      have hnb52 := NB659_664.out
                      have hnc52 := NB664_659.out
                      have hcz53_0 : w36.cell? ⟨gb659, 0, none⟩ = some (.int .i64 t655) := (blk_cell BK659.out 0).trans rfl
                      have hcz53_1 : w36.cell? ⟨gb659, 1, none⟩ = some (.int .i64 t656) := (blk_cell BK659.out 1).trans rfl
                      have hcz53_2 : w36.cell? ⟨gb659, 2, none⟩ = some (.int .i64 t657) := (blk_cell BK659.out 2).trans rfl
                      have hfz53_0 := blk_frozen BK659.out 0
                      have hfz53_1 := blk_frozen BK659.out 1
                      have hfz53_2 := blk_frozen BK659.out 2
                      have hnb54 := NB664_649.out
                      have hnc54 := NB649_664.out
                      have hcz55_0 : w36.cell? ⟨gb664, 0, none⟩ = some (.int .i64 t660) := (blk_cell BK664.out 0).trans rfl
                      have hcz55_1 : w36.cell? ⟨gb664, 1, none⟩ = some (.int .i64 t661) := (blk_cell BK664.out 1).trans rfl
                      have hcz55_2 : w36.cell? ⟨gb664, 2, none⟩ = some (.int .i64 t662) := (blk_cell BK664.out 2).trans rfl
                      have hfz55_0 := blk_frozen BK664.out 0
                      have hfz55_1 := blk_frozen BK664.out 1
                      have hfz55_2 := blk_frozen BK664.out 2
                      have hcz56_0 : w36.cell? ⟨gb649, 0, none⟩ = some (.int .i64 t646) := (blk_cell BK649.out 0).trans rfl
                      have hcz56_1 : w36.cell? ⟨gb649, 1, none⟩ = some (.int .i64 t647) := (blk_cell BK649.out 1).trans rfl
                      have hcz56_2 : w36.cell? ⟨gb649, 2, none⟩ = some (.int .i64 t648) := (blk_cell BK649.out 2).trans rfl
                      have hfz56_0 := blk_frozen BK649.out 0
                      have hfz56_1 := blk_frozen BK649.out 1
                      have hfz56_2 := blk_frozen BK649.out 2
                      go_wp2_with (first | (go_at_call 47; (with_reducible refine (impl_IsDate.calls k t646 t647 t648 t676 _ A50.out).mono ?_); rintro e w57 ⟨rfl, hb⟩; have n0_ := Aside0.mk (blk_below (g := gb649) (o := .cells #[.int .i64 t646, .int .i64 t647, .int .i64 t648] 44 (0, 0)) (by (with_reducible repeat (first | refine blk_drewN ?_ _ | refine blk_drew ?_ | refine blk_alloc ?_ _)); exact BK649.out) hb); have n1_ := Aside0.mk (blk_below (g := gb659) (o := .cells #[.int .i64 t655, .int .i64 t656, .int .i64 t657] 44 (0, 0)) (by (with_reducible repeat (first | refine blk_drewN ?_ _ | refine blk_drew ?_ | refine blk_alloc ?_ _)); exact BK659.out) hb); have n2_ := Aside0.mk (blk_below (g := gb664) (o := .cells #[.int .i64 t660, .int .i64 t661, .int .i64 t662] 44 (0, 0)) (by (with_reducible repeat (first | refine blk_drewN ?_ _ | refine blk_drew ?_ | refine blk_alloc ?_ _)); exact BK664.out) hb); have n3_ := Aside0.mk (below_step (by repeat (first | (with_reducible first | exact HB.out | apply below_alloc | apply pw_below_drewN | apply below_drew1 | refine below_set ?_ GE649.out | refine below_set ?_ GE659.out | refine below_set ?_ GE664.out) | exact HB.out)) hb); clear BK649; clear BK659; clear BK664; clear HB; have BK649 := n0_; have BK659 := n1_; have BK664 := n2_; have HB := n3_; clear n0_ n1_ n2_ n3_; (try clear hb); (try clear hb2); (try clear hk); (try clear hi)))
                      go_meet
                      case rel => exact ⟨_, ((t676 != (t653 == 0))), (by first | rfl | (simp; done) | (simp [*]; done)), H', ⟨by first | omega | exact Nat.le_refl _⟩, ⟨by (with_reducible repeat (first | refine blk_drewN ?_ _ | refine blk_drew ?_ | refine blk_alloc ?_ _)); exact BK649.out⟩, ⟨by (with_reducible repeat (first | refine blk_drewN ?_ _ | refine blk_drew ?_ | refine blk_alloc ?_ _)); exact BK659.out⟩, ⟨by (with_reducible repeat (first | refine blk_drewN ?_ _ | refine blk_drew ?_ | refine blk_alloc ?_ _)); exact BK664.out⟩, ⟨by repeat (first | (with_reducible first | exact HB.out | apply below_alloc | apply pw_below_drewN | apply below_drew1 | refine below_set ?_ GE649.out | refine below_set ?_ GE659.out | refine below_set ?_ GE664.out) | exact HB.out)⟩⟩
                    · rw [if_neg c49] at H
                      have c49b0 : (t672 == t674) = false := beq_eq_false_iff_ne.mpr c49
                      have c49b1 : (t672 != t674) = true := bne_iff_ne.mpr c49
                      have H' := Aside0.mk H
                      clear H
                      have hnb58 := NB659_649.out
                      have hnc58 := NB649_659.out
                      have hnb59 := NB659_664.out
                      have hnc59 := NB664_659.out
                      have hcz60_0 : w36.cell? ⟨gb659, 0, none⟩ = some (.int .i64 t655) := (blk_cell BK659.out 0).trans rfl
                      have hcz60_1 : w36.cell? ⟨gb659, 1, none⟩ = some (.int .i64 t656) := (blk_cell BK659.out 1).trans rfl
                      have hcz60_2 : w36.cell? ⟨gb659, 2, none⟩ = some (.int .i64 t657) := (blk_cell BK659.out 2).trans rfl
                      have hfz60_0 := blk_frozen BK659.out 0
                      have hfz60_1 := blk_frozen BK659.out 1
                      have hfz60_2 := blk_frozen BK659.out 2
                      have hnb61 := NB664_649.out
                      have hnc61 := NB649_664.out
                      have hcz62_0 : w36.cell? ⟨gb664, 0, none⟩ = some (.int .i64 t660) := (blk_cell BK664.out 0).trans rfl
                      have hcz62_1 : w36.cell? ⟨gb664, 1, none⟩ = some (.int .i64 t661) := (blk_cell BK664.out 1).trans rfl
                      have hcz62_2 : w36.cell? ⟨gb664, 2, none⟩ = some (.int .i64 t662) := (blk_cell BK664.out 2).trans rfl
                      have hfz62_0 := blk_frozen BK664.out 0
                      have hfz62_1 := blk_frozen BK664.out 1
                      have hfz62_2 := blk_frozen BK664.out 2
                      go_wp2
                      go_meet
                      case rel => exact ⟨_, (true), (by first | rfl | (simp; done) | (simp [*]; done)), H', ⟨by first | omega | exact Nat.le_refl _⟩, ⟨by (with_reducible repeat (first | refine blk_drewN ?_ _ | refine blk_drew ?_ | refine blk_alloc ?_ _)); exact BK649.out⟩, ⟨by (with_reducible repeat (first | refine blk_drewN ?_ _ | refine blk_drew ?_ | refine blk_alloc ?_ _)); exact BK659.out⟩, ⟨by (with_reducible repeat (first | refine blk_drewN ?_ _ | refine blk_drew ?_ | refine blk_alloc ?_ _)); exact BK664.out⟩, ⟨by repeat (first | (with_reducible first | exact HB.out | apply below_alloc | apply pw_below_drewN | apply below_drew1 | refine below_set ?_ GE649.out | refine below_set ?_ GE659.out | refine below_set ?_ GE664.out) | exact HB.out)⟩⟩
                  · rw [if_neg c48] at H
                    have c48b0 : (t673 == t675) = false := beq_eq_false_iff_ne.mpr c48
                    have c48b1 : (t673 != t675) = true := bne_iff_ne.mpr c48
                    have H' := Aside0.mk H
                    clear H
                    have hnb63 := NB659_649.out
                    have hnc63 := NB649_659.out
                    have hnb64 := NB659_664.out
                    have hnc64 := NB664_659.out
                    have hcz65_0 : w36.cell? ⟨gb659, 0, none⟩ = some (.int .i64 t655) := (blk_cell BK659.out 0).trans rfl
                    have hcz65_1 : w36.cell? ⟨gb659, 1, none⟩ = some (.int .i64 t656) := (blk_cell BK659.out 1).trans rfl
                    have hcz65_2 : w36.cell? ⟨gb659, 2, none⟩ = some (.int .i64 t657) := (blk_cell BK659.out 2).trans rfl
                    have hfz65_0 := blk_frozen BK659.out 0
                    have hfz65_1 := blk_frozen BK659.out 1
                    have hfz65_2 := blk_frozen BK659.out 2
                    have hnb66 := NB664_649.out
                    have hnc66 := NB649_664.out
                    have hcz67_0 : w36.cell? ⟨gb664, 0, none⟩ = some (.int .i64 t660) := (blk_cell BK664.out 0).trans rfl
                    have hcz67_1 : w36.cell? ⟨gb664, 1, none⟩ = some (.int .i64 t661) := (blk_cell BK664.out 1).trans rfl
                    have hcz67_2 : w36.cell? ⟨gb664, 2, none⟩ = some (.int .i64 t662) := (blk_cell BK664.out 2).trans rfl
                    have hfz67_0 := blk_frozen BK664.out 0
                    have hfz67_1 := blk_frozen BK664.out 1
                    have hfz67_2 := blk_frozen BK664.out 2
                    go_wp2
                    go_meet
                    case rel => exact ⟨_, (true), (by first | rfl | (simp; done) | (simp [*]; done)), H', ⟨by first | omega | exact Nat.le_refl _⟩, ⟨by (with_reducible repeat (first | refine blk_drewN ?_ _ | refine blk_drew ?_ | refine blk_alloc ?_ _)); exact BK649.out⟩, ⟨by (with_reducible repeat (first | refine blk_drewN ?_ _ | refine blk_drew ?_ | refine blk_alloc ?_ _)); exact BK659.out⟩, ⟨by (with_reducible repeat (first | refine blk_drewN ?_ _ | refine blk_drew ?_ | refine blk_alloc ?_ _)); exact BK664.out⟩, ⟨by repeat (first | (with_reducible first | exact HB.out | apply below_alloc | apply pw_below_drewN | apply below_drew1 | refine below_set ?_ GE649.out | refine below_set ?_ GE659.out | refine below_set ?_ GE664.out) | exact HB.out)⟩⟩
                · rw [if_neg c47] at H
                  have c47b0 : (t667 == t669) = false := beq_eq_false_iff_ne.mpr c47
                  have c47b1 : (t667 != t669) = true := bne_iff_ne.mpr c47
                  have H' := Aside0.mk H
                  clear H
                  have hnb68 := NB659_649.out
                  have hnc68 := NB649_659.out
                  have hnb69 := NB659_664.out
                  have hnc69 := NB664_659.out
                  have hcz70_0 : w36.cell? ⟨gb659, 0, none⟩ = some (.int .i64 t655) := (blk_cell BK659.out 0).trans rfl
                  have hcz70_1 : w36.cell? ⟨gb659, 1, none⟩ = some (.int .i64 t656) := (blk_cell BK659.out 1).trans rfl
                  have hcz70_2 : w36.cell? ⟨gb659, 2, none⟩ = some (.int .i64 t657) := (blk_cell BK659.out 2).trans rfl
                  have hfz70_0 := blk_frozen BK659.out 0
                  have hfz70_1 := blk_frozen BK659.out 1
                  have hfz70_2 := blk_frozen BK659.out 2
                  have hnb71 := NB664_649.out
                  have hnc71 := NB649_664.out
                  have hcz72_0 : w36.cell? ⟨gb664, 0, none⟩ = some (.int .i64 t660) := (blk_cell BK664.out 0).trans rfl
                  have hcz72_1 : w36.cell? ⟨gb664, 1, none⟩ = some (.int .i64 t661) := (blk_cell BK664.out 1).trans rfl
                  have hcz72_2 : w36.cell? ⟨gb664, 2, none⟩ = some (.int .i64 t662) := (blk_cell BK664.out 2).trans rfl
                  have hfz72_0 := blk_frozen BK664.out 0
                  have hfz72_1 := blk_frozen BK664.out 1
                  have hfz72_2 := blk_frozen BK664.out 2
                  go_wp2
                  go_meet
                  case rel => exact ⟨_, (true), (by first | rfl | (simp; done) | (simp [*]; done)), H', ⟨by first | omega | exact Nat.le_refl _⟩, ⟨by (with_reducible repeat (first | refine blk_drewN ?_ _ | refine blk_drew ?_ | refine blk_alloc ?_ _)); exact BK649.out⟩, ⟨by (with_reducible repeat (first | refine blk_drewN ?_ _ | refine blk_drew ?_ | refine blk_alloc ?_ _)); exact BK659.out⟩, ⟨by (with_reducible repeat (first | refine blk_drewN ?_ _ | refine blk_drew ?_ | refine blk_alloc ?_ _)); exact BK664.out⟩, ⟨by repeat (first | (with_reducible first | exact HB.out | apply below_alloc | apply pw_below_drewN | apply below_drew1 | refine below_set ?_ GE649.out | refine below_set ?_ GE659.out | refine below_set ?_ GE664.out) | exact HB.out)⟩⟩
              · rw [if_neg c46] at H
                have c46b0 : (t668 == t670) = false := beq_eq_false_iff_ne.mpr c46
                have c46b1 : (t668 != t670) = true := bne_iff_ne.mpr c46
                have H' := Aside0.mk H
                clear H
                have hnb73 := NB659_649.out
                have hnc73 := NB649_659.out
                have hnb74 := NB659_664.out
                have hnc74 := NB664_659.out
                have hcz75_0 : w36.cell? ⟨gb659, 0, none⟩ = some (.int .i64 t655) := (blk_cell BK659.out 0).trans rfl
                have hcz75_1 : w36.cell? ⟨gb659, 1, none⟩ = some (.int .i64 t656) := (blk_cell BK659.out 1).trans rfl
                have hcz75_2 : w36.cell? ⟨gb659, 2, none⟩ = some (.int .i64 t657) := (blk_cell BK659.out 2).trans rfl
                have hfz75_0 := blk_frozen BK659.out 0
                have hfz75_1 := blk_frozen BK659.out 1
                have hfz75_2 := blk_frozen BK659.out 2
                have hnb76 := NB664_649.out
                have hnc76 := NB649_664.out
                have hcz77_0 : w36.cell? ⟨gb664, 0, none⟩ = some (.int .i64 t660) := (blk_cell BK664.out 0).trans rfl
                have hcz77_1 : w36.cell? ⟨gb664, 1, none⟩ = some (.int .i64 t661) := (blk_cell BK664.out 1).trans rfl
                have hcz77_2 : w36.cell? ⟨gb664, 2, none⟩ = some (.int .i64 t662) := (blk_cell BK664.out 2).trans rfl
                have hfz77_0 := blk_frozen BK664.out 0
                have hfz77_1 := blk_frozen BK664.out 1
                have hfz77_2 := blk_frozen BK664.out 2
                go_wp2
                go_meet
                case rel => exact ⟨_, (true), (by first | rfl | (simp; done) | (simp [*]; done)), H', ⟨by first | omega | exact Nat.le_refl _⟩, ⟨by (with_reducible repeat (first | refine blk_drewN ?_ _ | refine blk_drew ?_ | refine blk_alloc ?_ _)); exact BK649.out⟩, ⟨by (with_reducible repeat (first | refine blk_drewN ?_ _ | refine blk_drew ?_ | refine blk_alloc ?_ _)); exact BK659.out⟩, ⟨by (with_reducible repeat (first | refine blk_drewN ?_ _ | refine blk_drew ?_ | refine blk_alloc ?_ _)); exact BK664.out⟩, ⟨by repeat (first | (with_reducible first | exact HB.out | apply below_alloc | apply pw_below_drewN | apply below_drew1 | refine below_set ?_ GE649.out | refine below_set ?_ GE659.out | refine below_set ?_ GE664.out) | exact HB.out)⟩⟩
          · rw [if_neg c39] at H
            have c39b0 : (t658 == t663) = false := beq_eq_false_iff_ne.mpr c39
            have c39b1 : (t658 != t663) = true := bne_iff_ne.mpr c39
            have H' := Aside0.mk H
            clear H
            go_wp2
            go_meet
            case rel => exact ⟨_, (true), (by first | rfl | (simp; done) | (simp [*]; done)), H', ⟨by first | omega | exact Nat.le_refl _⟩, ⟨by (with_reducible repeat (first | refine blk_drewN ?_ _ | refine blk_drew ?_ | refine blk_alloc ?_ _)); exact BK649.out⟩, ⟨by (with_reducible repeat (first | refine blk_drewN ?_ _ | refine blk_drew ?_ | refine blk_alloc ?_ _)); exact BK659.out⟩, ⟨by (with_reducible repeat (first | refine blk_drewN ?_ _ | refine blk_drew ?_ | refine blk_alloc ?_ _)); exact BK664.out⟩, ⟨by repeat (first | (with_reducible first | exact HB.out | apply below_alloc | apply pw_below_drewN | apply below_drew1 | refine below_set ?_ GE649.out | refine below_set ?_ GE659.out | refine below_set ?_ GE664.out) | exact HB.out)⟩⟩
        · rw [if_neg c38] at H
          have c38b0 : (t650 == t652) = false := beq_eq_false_iff_ne.mpr c38
          have c38b1 : (t650 != t652) = true := bne_iff_ne.mpr c38
          have H' := Aside0.mk H
          clear H
          go_wp2
          go_meet
          case rel => exact ⟨_, (true), (by first | rfl | (simp; done) | (simp [*]; done)), H', ⟨by first | omega | exact Nat.le_refl _⟩, ⟨by (with_reducible repeat (first | refine blk_drewN ?_ _ | refine blk_drew ?_ | refine blk_alloc ?_ _)); exact BK649.out⟩, ⟨by (with_reducible repeat (first | refine blk_drewN ?_ _ | refine blk_drew ?_ | refine blk_alloc ?_ _)); exact BK659.out⟩, ⟨by (with_reducible repeat (first | refine blk_drewN ?_ _ | refine blk_drew ?_ | refine blk_alloc ?_ _)); exact BK664.out⟩, ⟨by repeat (first | (with_reducible first | exact HB.out | apply below_alloc | apply pw_below_drewN | apply below_drew1 | refine below_set ?_ GE649.out | refine below_set ?_ GE659.out | refine below_set ?_ GE664.out) | exact HB.out)⟩⟩
      · rw [if_neg c37] at H
        have c37b0 : (t651 == t653) = false := beq_eq_false_iff_ne.mpr c37
        have c37b1 : (t651 != t653) = true := bne_iff_ne.mpr c37
        (first | rw [c37b0] | (simp only [i64_w, i32_w]; rw [c37b0]) | skip)
        have H' := Aside0.mk H
        clear H
        go_wp2
        go_meet
        case rel => exact ⟨_, (true), (by first | rfl | (simp; done) | (simp [*]; done)), H', ⟨by first | omega | exact Nat.le_refl _⟩, ⟨by (with_reducible repeat (first | refine blk_drewN ?_ _ | refine blk_drew ?_ | refine blk_alloc ?_ _)); exact BK649.out⟩, ⟨by (with_reducible repeat (first | refine blk_drewN ?_ _ | refine blk_drew ?_ | refine blk_alloc ?_ _)); exact BK659.out⟩, ⟨by (with_reducible repeat (first | refine blk_drewN ?_ _ | refine blk_drew ?_ | refine blk_alloc ?_ _)); exact BK664.out⟩, ⟨by repeat (first | (with_reducible first | exact HB.out | apply below_alloc | apply pw_below_drewN | apply below_drew1 | refine below_set ?_ GE649.out | refine below_set ?_ GE659.out | refine below_set ?_ GE664.out) | exact HB.out)⟩⟩
    case rest =>
      clear HC16
      try clear c1
      try clear c2
      try clear p2
      try clear c3
      try clear c4
      try clear c5
      try clear c6
      try clear c7
      try clear c14
      try clear c26
      try clear c30
      try clear c31
      try clear c35
      try clear c36
      try clear c37
      try clear c37b0
      try clear c37b1
      try clear c38
      try clear c38b0
      try clear c38b1
      try clear c39
      try clear c39b0
      try clear c39b1
      try clear c40
      try clear c40b0
      try clear c41
      try clear c42
      try clear c43
      try clear c44
      try clear c45
      try clear c46
      try clear c46b0
      try clear c46b1
      try clear c47
      try clear c47b0
      try clear c47b1
      try clear c48
      try clear c48b0
      try clear c48b1
      try clear c49
      try clear c49b0
      try clear c49b1
      try clear c51
      try clear c52
      try clear c54
      try clear c58
      try clear c59
      try clear c61
      try clear c63
      try clear c64
      try clear c66
      try clear c68
      try clear c69
      try clear c71
      try clear c73
      try clear c74
      try clear c76
      try clear hcz19_0
      try clear hcz19_1
      try clear hcz19_2
      try clear hcz21_0
      try clear hcz21_1
      try clear hcz21_2
      try clear hcz27_0
      try clear hcz27_1
      try clear hcz27_2
      try clear hcz32_0
      try clear hcz32_1
      try clear hcz32_2
      try clear hcz43_0
      try clear hcz43_1
      try clear hcz43_2
      try clear hcz45_0
      try clear hcz45_1
      try clear hcz45_2
      try clear hcz53_0
      try clear hcz53_1
      try clear hcz53_2
      try clear hcz55_0
      try clear hcz55_1
      try clear hcz55_2
      try clear hcz56_0
      try clear hcz56_1
      try clear hcz56_2
      try clear hcz60_0
      try clear hcz60_1
      try clear hcz60_2
      try clear hcz62_0
      try clear hcz62_1
      try clear hcz62_2
      try clear hcz65_0
      try clear hcz65_1
      try clear hcz65_2
      try clear hcz67_0
      try clear hcz67_1
      try clear hcz67_2
      try clear hcz70_0
      try clear hcz70_1
      try clear hcz70_2
      try clear hcz72_0
      try clear hcz72_1
      try clear hcz72_2
      try clear hcz75_0
      try clear hcz75_1
      try clear hcz75_2
      try clear hcz77_0
      try clear hcz77_1
      try clear hcz77_2
      try clear hfz19_0
      try clear hfz19_1
      try clear hfz19_2
      try clear hfz21_0
      try clear hfz21_1
      try clear hfz21_2
      try clear hfz27_0
      try clear hfz27_1
      try clear hfz27_2
      try clear hfz32_0
      try clear hfz32_1
      try clear hfz32_2
      try clear hfz43_0
      try clear hfz43_1
      try clear hfz43_2
      try clear hfz45_0
      try clear hfz45_1
      try clear hfz45_2
      try clear hfz53_0
      try clear hfz53_1
      try clear hfz53_2
      try clear hfz55_0
      try clear hfz55_1
      try clear hfz55_2
      try clear hfz56_0
      try clear hfz56_1
      try clear hfz56_2
      try clear hfz60_0
      try clear hfz60_1
      try clear hfz60_2
      try clear hfz62_0
      try clear hfz62_1
      try clear hfz62_2
      try clear hfz65_0
      try clear hfz65_1
      try clear hfz65_2
      try clear hfz67_0
      try clear hfz67_1
      try clear hfz67_2
      try clear hfz70_0
      try clear hfz70_1
      try clear hfz70_2
      try clear hfz72_0
      try clear hfz72_1
      try clear hfz72_2
      try clear hfz75_0
      try clear hfz75_1
      try clear hfz75_2
      try clear hfz77_0
      try clear hfz77_1
      try clear hfz77_2
      obtain ⟨kq, x129_15, rfl, HA, HJ15, BK649, BK659, BK664, HB⟩ := hcut
      cases kq with
      | zero => exact absurd HA.out (by simp [laws_FnDays.j0])
      | succ kj15 =>
        have H := HA.out
        clear HA
        simp only [laws_FnDays.j0] at H
        by_cases c78 : x129_15 = true
        · subst c78
          have H1 : (some false) = some r := by rw [if_pos rfl] at H; exact H
          clear H
          have H := H1
          clear H1
          obtain rfl := Option.some.inj H
          go_wp2
          go_ret
          exact ⟨by first | rfl | (simp [errW_none, errW_some] <;> rfl) | (simp [*, errW_none, errW_some] <;> rfl), by repeat (first | (with_reducible first | exact HB.out | apply below_alloc | apply pw_below_drewN | apply below_drew1 | refine below_set ?_ GE649.out | refine below_set ?_ GE659.out | refine below_set ?_ GE664.out) | exact HB.out)⟩
        · replace c78 := Bool.eq_false_iff.mpr c78
          subst c78
          have H1 : (if t658 = 0 then ((impl_DayOf.f kj15 t655 t656 t657).bind fun bt677 => (if bt677.2 = 0 then (if bt677.1 = t654 then (laws_FnDays.j1 kj15 t650 t651 t665 t666 t667 t668 t646 t647 t648) else (some false)) else (some false))) else (laws_FnDays.j1 kj15 t650 t651 t665 t666 t667 t668 t646 t647 t648)) = some r := by rw [if_neg (show ¬ (false = true) by decide)] at H; exact H
          clear H
          have H := H1
          clear H1
          have HC79 := Aside0.mk H
          clear H
          go_upto_if 131 with (fail)
          go_cut [] (fun wc => ∃ (kq : Nat), Aside0 (laws_FnDays.j1 kq t650 t651 t665 t666 t667 t668 t646 t647 t648 = some r) ∧ Aside0 (kq ≤ kj15) ∧ Aside0 (wc.heap[gb649]? = some (.cells #[.int .i64 t646, .int .i64 t647, .int .i64 t648] 44 (0, 0))) ∧ Aside0 (wc.heap[gb659]? = some (.cells #[.int .i64 t655, .int .i64 t656, .int .i64 t657] 44 (0, 0))) ∧ Aside0 (wc.heap[gb664]? = some (.cells #[.int .i64 t660, .int .i64 t661, .int .i64 t662] 44 (0, 0))) ∧ Aside0 (Below w.heap.size w wc))
          case first =>
            have H := HC79.out
            clear HC79
            by_cases c80 : t658 = 0
            · rw [if_pos c80] at H
              have c80b0 : (t658 == 0) = true := beq_iff_eq.mpr c80
              have c80b1 : (t658 != 0) = false := bne_eq_false_iff_eq.mpr c80
              clear c80
              (first | rw [c80b0] | (simp only [i64_w, i32_w]; rw [c80b0]) | skip)
              replace H := Option.bind_eq_some_iff.mp H
              obtain ⟨⟨t677, t678⟩, A810, H⟩ := H
              replace H : (if t678 = 0 then (if t677 = t654 then (laws_FnDays.j1 kj15 t650 t651 t665 t666 t667 t668 t646 t647 t648) else (some false)) else (some false)) = some r := H
              have A81 := Aside0.mk A810
              clear A810
              by_cases c82 : t678 = 0
              · rw [if_pos c82] at H
                have c82b0 : (t678 == 0) = true := beq_iff_eq.mpr c82
                have c82b1 : (t678 != 0) = false := bne_eq_false_iff_eq.mpr c82
                clear c82
                by_cases c83 : t677 = t654
                · rw [if_pos c83] at H
                  have c83b0 : (t677 == t654) = true := beq_iff_eq.mpr c83
                  have c83b1 : (t677 != t654) = false := bne_eq_false_iff_eq.mpr c83
                  clear c83
                  have H' := Aside0.mk H
                  clear H
                  have hnb84 := NB659_649.out
                  have hnc84 := NB649_659.out
                  have hnb85 := NB659_664.out
                  have hnc85 := NB664_659.out
                  have hcz86_0 : wc.cell? ⟨gb659, 0, none⟩ = some (.int .i64 t655) := (blk_cell BK659.out 0).trans rfl
                  have hcz86_1 : wc.cell? ⟨gb659, 1, none⟩ = some (.int .i64 t656) := (blk_cell BK659.out 1).trans rfl
                  have hcz86_2 : wc.cell? ⟨gb659, 2, none⟩ = some (.int .i64 t657) := (blk_cell BK659.out 2).trans rfl
                  have hfz86_0 := blk_frozen BK659.out 0
                  have hfz86_1 := blk_frozen BK659.out 1
                  have hfz86_2 := blk_frozen BK659.out 2
                  go_wp2_with (first | ((with_reducible refine gate_callee (f := 36) rfl ?_); refine goesL_ (some 134) rfl rfl Try.func36 (by kernel_rfl) rfl #[.agg #[.int .i64 t655, .int .i64 t656, .int .i64 t657]] rfl (by (try simp only [List.map_toArray, List.map_cons, List.map_nil]); first | done | rfl | (simp only [List.length_drop, List.length_take]; rfl)) ?_; (with_reducible refine (impl_DayOf.calls kj15 t655 t656 t657 t677 t678 _ A81.out).mono ?_); rintro e w87 ⟨rfl, hb⟩; refine ⟨_, rfl, ?_⟩; have n0_ := Aside0.mk (blk_below (g := gb649) (o := .cells #[.int .i64 t646, .int .i64 t647, .int .i64 t648] 44 (0, 0)) (by (with_reducible repeat (first | refine blk_drewN ?_ _ | refine blk_drew ?_ | refine blk_alloc ?_ _)); exact BK649.out) hb); have n1_ := Aside0.mk (blk_below (g := gb659) (o := .cells #[.int .i64 t655, .int .i64 t656, .int .i64 t657] 44 (0, 0)) (by (with_reducible repeat (first | refine blk_drewN ?_ _ | refine blk_drew ?_ | refine blk_alloc ?_ _)); exact BK659.out) hb); have n2_ := Aside0.mk (blk_below (g := gb664) (o := .cells #[.int .i64 t660, .int .i64 t661, .int .i64 t662] 44 (0, 0)) (by (with_reducible repeat (first | refine blk_drewN ?_ _ | refine blk_drew ?_ | refine blk_alloc ?_ _)); exact BK664.out) hb); have n3_ := Aside0.mk (below_step (by repeat (first | (with_reducible first | exact HB.out | apply below_alloc | apply pw_below_drewN | apply below_drew1 | refine below_set ?_ GE649.out | refine below_set ?_ GE659.out | refine below_set ?_ GE664.out) | exact HB.out)) hb); clear BK649; clear BK659; clear BK664; clear HB; have BK649 := n0_; have BK659 := n1_; have BK664 := n2_; have HB := n3_; clear n0_ n1_ n2_ n3_; (try clear hb); (try clear hb2); (try clear hk); (try clear hi)))
                  go_meet
                  case rel => exact ⟨_, H', ⟨by have := HJ15.out; first | omega | exact Nat.le_refl _⟩, ⟨by (with_reducible repeat (first | refine blk_drewN ?_ _ | refine blk_drew ?_ | refine blk_alloc ?_ _)); exact BK649.out⟩, ⟨by (with_reducible repeat (first | refine blk_drewN ?_ _ | refine blk_drew ?_ | refine blk_alloc ?_ _)); exact BK659.out⟩, ⟨by (with_reducible repeat (first | refine blk_drewN ?_ _ | refine blk_drew ?_ | refine blk_alloc ?_ _)); exact BK664.out⟩, ⟨by repeat (first | (with_reducible first | exact HB.out | apply below_alloc | apply pw_below_drewN | apply below_drew1 | refine below_set ?_ GE649.out | refine below_set ?_ GE659.out | refine below_set ?_ GE664.out) | exact HB.out)⟩⟩
                · rw [if_neg c83] at H
                  have c83b0 : (t677 == t654) = false := beq_eq_false_iff_ne.mpr c83
                  have c83b1 : (t677 != t654) = true := bne_iff_ne.mpr c83
                  obtain rfl := Option.some.inj H
                  have hnb88 := NB659_649.out
                  have hnc88 := NB649_659.out
                  have hnb89 := NB659_664.out
                  have hnc89 := NB664_659.out
                  have hcz90_0 : wc.cell? ⟨gb659, 0, none⟩ = some (.int .i64 t655) := (blk_cell BK659.out 0).trans rfl
                  have hcz90_1 : wc.cell? ⟨gb659, 1, none⟩ = some (.int .i64 t656) := (blk_cell BK659.out 1).trans rfl
                  have hcz90_2 : wc.cell? ⟨gb659, 2, none⟩ = some (.int .i64 t657) := (blk_cell BK659.out 2).trans rfl
                  have hfz90_0 := blk_frozen BK659.out 0
                  have hfz90_1 := blk_frozen BK659.out 1
                  have hfz90_2 := blk_frozen BK659.out 2
                  go_wp2_with (first | ((with_reducible refine gate_callee (f := 36) rfl ?_); refine goesL_ (some 134) rfl rfl Try.func36 (by kernel_rfl) rfl #[.agg #[.int .i64 t655, .int .i64 t656, .int .i64 t657]] rfl (by (try simp only [List.map_toArray, List.map_cons, List.map_nil]); first | done | rfl | (simp only [List.length_drop, List.length_take]; rfl)) ?_; (with_reducible refine (impl_DayOf.calls kj15 t655 t656 t657 t677 t678 _ A81.out).mono ?_); rintro e w91 ⟨rfl, hb⟩; refine ⟨_, rfl, ?_⟩; have n0_ := Aside0.mk (blk_below (g := gb649) (o := .cells #[.int .i64 t646, .int .i64 t647, .int .i64 t648] 44 (0, 0)) (by (with_reducible repeat (first | refine blk_drewN ?_ _ | refine blk_drew ?_ | refine blk_alloc ?_ _)); exact BK649.out) hb); have n1_ := Aside0.mk (blk_below (g := gb659) (o := .cells #[.int .i64 t655, .int .i64 t656, .int .i64 t657] 44 (0, 0)) (by (with_reducible repeat (first | refine blk_drewN ?_ _ | refine blk_drew ?_ | refine blk_alloc ?_ _)); exact BK659.out) hb); have n2_ := Aside0.mk (blk_below (g := gb664) (o := .cells #[.int .i64 t660, .int .i64 t661, .int .i64 t662] 44 (0, 0)) (by (with_reducible repeat (first | refine blk_drewN ?_ _ | refine blk_drew ?_ | refine blk_alloc ?_ _)); exact BK664.out) hb); have n3_ := Aside0.mk (below_step (by repeat (first | (with_reducible first | exact HB.out | apply below_alloc | apply pw_below_drewN | apply below_drew1 | refine below_set ?_ GE649.out | refine below_set ?_ GE659.out | refine below_set ?_ GE664.out) | exact HB.out)) hb); clear BK649; clear BK659; clear BK664; clear HB; have BK649 := n0_; have BK659 := n1_; have BK664 := n2_; have HB := n3_; clear n0_ n1_ n2_ n3_; (try clear hb); (try clear hb2); (try clear hk); (try clear hi)))
                  go_ret
                  exact ⟨by first | rfl | (simp [errW_none, errW_some] <;> rfl) | (simp [*, errW_none, errW_some] <;> rfl), by repeat (first | (with_reducible first | exact HB.out | apply below_alloc | apply pw_below_drewN | apply below_drew1 | refine below_set ?_ GE649.out | refine below_set ?_ GE659.out | refine below_set ?_ GE664.out) | exact HB.out)⟩
              · rw [if_neg c82] at H
                have c82b0 : (t678 == 0) = false := beq_eq_false_iff_ne.mpr c82
                have c82b1 : (t678 != 0) = true := bne_iff_ne.mpr c82
                obtain rfl := Option.some.inj H
                have hnb92 := NB659_649.out
                have hnc92 := NB649_659.out
                have hnb93 := NB659_664.out
                have hnc93 := NB664_659.out
                have hcz94_0 : wc.cell? ⟨gb659, 0, none⟩ = some (.int .i64 t655) := (blk_cell BK659.out 0).trans rfl
                have hcz94_1 : wc.cell? ⟨gb659, 1, none⟩ = some (.int .i64 t656) := (blk_cell BK659.out 1).trans rfl
                have hcz94_2 : wc.cell? ⟨gb659, 2, none⟩ = some (.int .i64 t657) := (blk_cell BK659.out 2).trans rfl
                have hfz94_0 := blk_frozen BK659.out 0
                have hfz94_1 := blk_frozen BK659.out 1
                have hfz94_2 := blk_frozen BK659.out 2
                go_wp2_with (first | ((with_reducible refine gate_callee (f := 36) rfl ?_); refine goesL_ (some 134) rfl rfl Try.func36 (by kernel_rfl) rfl #[.agg #[.int .i64 t655, .int .i64 t656, .int .i64 t657]] rfl (by (try simp only [List.map_toArray, List.map_cons, List.map_nil]); first | done | rfl | (simp only [List.length_drop, List.length_take]; rfl)) ?_; (with_reducible refine (impl_DayOf.calls kj15 t655 t656 t657 t677 t678 _ A81.out).mono ?_); rintro e w95 ⟨rfl, hb⟩; refine ⟨_, rfl, ?_⟩; have n0_ := Aside0.mk (blk_below (g := gb649) (o := .cells #[.int .i64 t646, .int .i64 t647, .int .i64 t648] 44 (0, 0)) (by (with_reducible repeat (first | refine blk_drewN ?_ _ | refine blk_drew ?_ | refine blk_alloc ?_ _)); exact BK649.out) hb); have n1_ := Aside0.mk (blk_below (g := gb659) (o := .cells #[.int .i64 t655, .int .i64 t656, .int .i64 t657] 44 (0, 0)) (by (with_reducible repeat (first | refine blk_drewN ?_ _ | refine blk_drew ?_ | refine blk_alloc ?_ _)); exact BK659.out) hb); have n2_ := Aside0.mk (blk_below (g := gb664) (o := .cells #[.int .i64 t660, .int .i64 t661, .int .i64 t662] 44 (0, 0)) (by (with_reducible repeat (first | refine blk_drewN ?_ _ | refine blk_drew ?_ | refine blk_alloc ?_ _)); exact BK664.out) hb); have n3_ := Aside0.mk (below_step (by repeat (first | (with_reducible first | exact HB.out | apply below_alloc | apply pw_below_drewN | apply below_drew1 | refine below_set ?_ GE649.out | refine below_set ?_ GE659.out | refine below_set ?_ GE664.out) | exact HB.out)) hb); clear BK649; clear BK659; clear BK664; clear HB; have BK649 := n0_; have BK659 := n1_; have BK664 := n2_; have HB := n3_; clear n0_ n1_ n2_ n3_; (try clear hb); (try clear hb2); (try clear hk); (try clear hi)))
                go_ret
                exact ⟨by first | rfl | (simp [errW_none, errW_some] <;> rfl) | (simp [*, errW_none, errW_some] <;> rfl), by repeat (first | (with_reducible first | exact HB.out | apply below_alloc | apply pw_below_drewN | apply below_drew1 | refine below_set ?_ GE649.out | refine below_set ?_ GE659.out | refine below_set ?_ GE664.out) | exact HB.out)⟩
            · rw [if_neg c80] at H
              have c80b0 : (t658 == 0) = false := beq_eq_false_iff_ne.mpr c80
              have c80b1 : (t658 != 0) = true := bne_iff_ne.mpr c80
              (first | rw [c80b0] | (simp only [i64_w, i32_w]; rw [c80b0]) | skip)
              have H' := Aside0.mk H
              clear H
              go_wp2
              go_meet
              case rel => exact ⟨_, H', ⟨by have := HJ15.out; first | omega | exact Nat.le_refl _⟩, ⟨by (with_reducible repeat (first | refine blk_drewN ?_ _ | refine blk_drew ?_ | refine blk_alloc ?_ _)); exact BK649.out⟩, ⟨by (with_reducible repeat (first | refine blk_drewN ?_ _ | refine blk_drew ?_ | refine blk_alloc ?_ _)); exact BK659.out⟩, ⟨by (with_reducible repeat (first | refine blk_drewN ?_ _ | refine blk_drew ?_ | refine blk_alloc ?_ _)); exact BK664.out⟩, ⟨by repeat (first | (with_reducible first | exact HB.out | apply below_alloc | apply pw_below_drewN | apply below_drew1 | refine below_set ?_ GE649.out | refine below_set ?_ GE659.out | refine below_set ?_ GE664.out) | exact HB.out)⟩⟩
          case rest =>
            clear HC79
            try clear c1
            try clear c2
            try clear p2
            try clear c3
            try clear c4
            try clear c5
            try clear c6
            try clear c7
            try clear c8
            try clear c9
            try clear c14
            try clear c26
            try clear c30
            try clear c31
            try clear c35
            try clear c36
            try clear c37
            try clear c37b0
            try clear c37b1
            try clear c38
            try clear c38b0
            try clear c38b1
            try clear c39
            try clear c39b0
            try clear c39b1
            try clear c40
            try clear c40b0
            try clear c41
            try clear c42
            try clear c43
            try clear c44
            try clear c45
            try clear c46
            try clear c46b0
            try clear c46b1
            try clear c47
            try clear c47b0
            try clear c47b1
            try clear c48
            try clear c48b0
            try clear c48b1
            try clear c49
            try clear c49b0
            try clear c49b1
            try clear c51
            try clear c52
            try clear c54
            try clear c58
            try clear c59
            try clear c61
            try clear c63
            try clear c64
            try clear c66
            try clear c68
            try clear c69
            try clear c71
            try clear c73
            try clear c74
            try clear c76
            try clear c78
            try clear c80
            try clear c80b0
            try clear c80b1
            try clear c82
            try clear c82b0
            try clear c82b1
            try clear c83
            try clear c83b0
            try clear c83b1
            try clear c84
            try clear c85
            try clear c88
            try clear c89
            try clear c92
            try clear c93
            try clear hcz19_0
            try clear hcz19_1
            try clear hcz19_2
            try clear hcz21_0
            try clear hcz21_1
            try clear hcz21_2
            try clear hcz27_0
            try clear hcz27_1
            try clear hcz27_2
            try clear hcz32_0
            try clear hcz32_1
            try clear hcz32_2
            try clear hcz43_0
            try clear hcz43_1
            try clear hcz43_2
            try clear hcz45_0
            try clear hcz45_1
            try clear hcz45_2
            try clear hcz53_0
            try clear hcz53_1
            try clear hcz53_2
            try clear hcz55_0
            try clear hcz55_1
            try clear hcz55_2
            try clear hcz56_0
            try clear hcz56_1
            try clear hcz56_2
            try clear hcz60_0
            try clear hcz60_1
            try clear hcz60_2
            try clear hcz62_0
            try clear hcz62_1
            try clear hcz62_2
            try clear hcz65_0
            try clear hcz65_1
            try clear hcz65_2
            try clear hcz67_0
            try clear hcz67_1
            try clear hcz67_2
            try clear hcz70_0
            try clear hcz70_1
            try clear hcz70_2
            try clear hcz72_0
            try clear hcz72_1
            try clear hcz72_2
            try clear hcz75_0
            try clear hcz75_1
            try clear hcz75_2
            try clear hcz77_0
            try clear hcz77_1
            try clear hcz77_2
            try clear hcz86_0
            try clear hcz86_1
            try clear hcz86_2
            try clear hcz90_0
            try clear hcz90_1
            try clear hcz90_2
            try clear hcz94_0
            try clear hcz94_1
            try clear hcz94_2
            try clear hfz19_0
            try clear hfz19_1
            try clear hfz19_2
            try clear hfz21_0
            try clear hfz21_1
            try clear hfz21_2
            try clear hfz27_0
            try clear hfz27_1
            try clear hfz27_2
            try clear hfz32_0
            try clear hfz32_1
            try clear hfz32_2
            try clear hfz43_0
            try clear hfz43_1
            try clear hfz43_2
            try clear hfz45_0
            try clear hfz45_1
            try clear hfz45_2
            try clear hfz53_0
            try clear hfz53_1
            try clear hfz53_2
            try clear hfz55_0
            try clear hfz55_1
            try clear hfz55_2
            try clear hfz56_0
            try clear hfz56_1
            try clear hfz56_2
            try clear hfz60_0
            try clear hfz60_1
            try clear hfz60_2
            try clear hfz62_0
            try clear hfz62_1
            try clear hfz62_2
            try clear hfz65_0
            try clear hfz65_1
            try clear hfz65_2
            try clear hfz67_0
            try clear hfz67_1
            try clear hfz67_2
            try clear hfz70_0
            try clear hfz70_1
            try clear hfz70_2
            try clear hfz72_0
            try clear hfz72_1
            try clear hfz72_2
            try clear hfz75_0
            try clear hfz75_1
            try clear hfz75_2
            try clear hfz77_0
            try clear hfz77_1
            try clear hfz77_2
            try clear hfz86_0
            try clear hfz86_1
            try clear hfz86_2
            try clear hfz90_0
            try clear hfz90_1
            try clear hfz90_2
            try clear hfz94_0
            try clear hfz94_1
            try clear hfz94_2
            try clear p2
            obtain ⟨kq, HA, HJ78, BK649, BK659, BK664, HB⟩ := hcut
            cases kq with
            | zero => exact absurd HA.out (by simp [laws_FnDays.j1])
            | succ kj78 =>
              have H := HA.out
              clear HA
              simp only [laws_FnDays.j1] at H
              by_cases c96 : t668 = 0
              · rw [if_pos c96] at H
                have c96b0 : (t668 == 0) = true := beq_iff_eq.mpr c96
                have c96b1 : (t668 != 0) = false := bne_eq_false_iff_eq.mpr c96
                clear c96
                replace H := Option.bind_eq_some_iff.mp H
                obtain ⟨⟨t679, t680⟩, A970, H⟩ := H
                replace H : (if t680 = 0 then (if t679 > 4 then (laws_FnDays.j2 kj78 t650 t651 true t646 t647 t648) else (laws_FnDays.j2 kj78 t650 t651 (decide (t667 < (wrap64 (t665 + t666)))) t646 t647 t648)) else (laws_FnDays.j2 kj78 t650 t651 true t646 t647 t648)) = some r := H
                have A97 := Aside0.mk A970
                clear A970
                have HC98 := Aside0.mk H
                clear H
                go_upto_region 23 with (first | ((with_reducible refine gate_callee (f := 45) rfl ?_); refine goesL_ (some 148) rfl rfl Try.func45 (by kernel_rfl) rfl #[.int .i64 t667] rfl (by (try simp only [List.map_toArray, List.map_cons, List.map_nil]); first | done | rfl | (simp only [List.length_drop, List.length_take]; rfl)) ?_; (with_reducible refine (impl_WeekdayOf.calls kj78 t667 t679 t680 _ A97.out).mono ?_); rintro e w99 ⟨rfl, hb⟩; refine ⟨_, rfl, ?_⟩; have n0_ := Aside0.mk (blk_below (g := gb649) (o := .cells #[.int .i64 t646, .int .i64 t647, .int .i64 t648] 44 (0, 0)) (by (with_reducible repeat (first | refine blk_drewN ?_ _ | refine blk_drew ?_ | refine blk_alloc ?_ _)); exact BK649.out) hb); have n1_ := Aside0.mk (blk_below (g := gb659) (o := .cells #[.int .i64 t655, .int .i64 t656, .int .i64 t657] 44 (0, 0)) (by (with_reducible repeat (first | refine blk_drewN ?_ _ | refine blk_drew ?_ | refine blk_alloc ?_ _)); exact BK659.out) hb); have n2_ := Aside0.mk (blk_below (g := gb664) (o := .cells #[.int .i64 t660, .int .i64 t661, .int .i64 t662] 44 (0, 0)) (by (with_reducible repeat (first | refine blk_drewN ?_ _ | refine blk_drew ?_ | refine blk_alloc ?_ _)); exact BK664.out) hb); have n3_ := Aside0.mk (below_step (by repeat (first | (with_reducible first | exact HB.out | apply below_alloc | apply pw_below_drewN | apply below_drew1 | refine below_set ?_ GE649.out | refine below_set ?_ GE659.out | refine below_set ?_ GE664.out) | exact HB.out)) hb); clear BK649; clear BK659; clear BK664; clear HB; have BK649 := n0_; have BK659 := n1_; have BK664 := n2_; have HB := n3_; clear n0_ n1_ n2_ n3_; (try clear hb); (try clear hb2); (try clear hk); (try clear hi)))
                (try simp only [Act.put, List.setIfInBounds_toArray, List.set_cons_zero, List.set_cons_succ])
                go_cut [163] (fun v163 wc => ∃ (kq : Nat) (x163_97 : Bool), v163 = .bool x163_97 ∧ Aside0 (laws_FnDays.j2 kq t650 t651 x163_97 t646 t647 t648 = some r) ∧ Aside0 (kq ≤ kj78) ∧ Aside0 (wc.heap[gb649]? = some (.cells #[.int .i64 t646, .int .i64 t647, .int .i64 t648] 44 (0, 0))) ∧ Aside0 (wc.heap[gb659]? = some (.cells #[.int .i64 t655, .int .i64 t656, .int .i64 t657] 44 (0, 0))) ∧ Aside0 (wc.heap[gb664]? = some (.cells #[.int .i64 t660, .int .i64 t661, .int .i64 t662] 44 (0, 0))) ∧ Aside0 (Below w.heap.size w wc))
                case first =>
                  have H := HC98.out
                  clear HC98
                  by_cases c100 : t680 = 0
                  · rw [if_pos c100] at H
                    have c100b0 : (t680 == 0) = true := beq_iff_eq.mpr c100
                    have c100b1 : (t680 != 0) = false := bne_eq_false_iff_eq.mpr c100
                    clear c100
                    (first | rw [c100b0] | (simp only [i64_w, i32_w]; rw [c100b0]) | skip)
                    by_cases c101 : t679 > 4
                    · rw [if_pos c101] at H
                      have c101b0 : decide (4 < t679) = true := decide_eq_true c101
                      clear c101
                      have H' := Aside0.mk H
                      clear H
                      go_wp2
                      go_meet
                      case rel => exact ⟨_, (true), (by first | rfl | (simp; done) | (simp [*]; done)), H', ⟨by have := HJ15.out; have := HJ78.out; first | omega | exact Nat.le_refl _⟩, ⟨by (with_reducible repeat (first | refine blk_drewN ?_ _ | refine blk_drew ?_ | refine blk_alloc ?_ _)); exact BK649.out⟩, ⟨by (with_reducible repeat (first | refine blk_drewN ?_ _ | refine blk_drew ?_ | refine blk_alloc ?_ _)); exact BK659.out⟩, ⟨by (with_reducible repeat (first | refine blk_drewN ?_ _ | refine blk_drew ?_ | refine blk_alloc ?_ _)); exact BK664.out⟩, ⟨by repeat (first | (with_reducible first | exact HB.out | apply below_alloc | apply pw_below_drewN | apply below_drew1 | refine below_set ?_ GE649.out | refine below_set ?_ GE659.out | refine below_set ?_ GE664.out) | exact HB.out)⟩⟩
                    · rw [if_neg c101] at H
                      have c101b0 : decide (4 < t679) = false := decide_eq_false c101
                      clear c101
                      have H' := Aside0.mk H
                      clear H
                      go_wp2
                      go_meet
                      case rel => exact ⟨_, (decide (t667 < (wrap64 (t665 + t666)))), (by first | rfl | (simp; done) | (simp [*]; done)), H', ⟨by have := HJ15.out; have := HJ78.out; first | omega | exact Nat.le_refl _⟩, ⟨by (with_reducible repeat (first | refine blk_drewN ?_ _ | refine blk_drew ?_ | refine blk_alloc ?_ _)); exact BK649.out⟩, ⟨by (with_reducible repeat (first | refine blk_drewN ?_ _ | refine blk_drew ?_ | refine blk_alloc ?_ _)); exact BK659.out⟩, ⟨by (with_reducible repeat (first | refine blk_drewN ?_ _ | refine blk_drew ?_ | refine blk_alloc ?_ _)); exact BK664.out⟩, ⟨by repeat (first | (with_reducible first | exact HB.out | apply below_alloc | apply pw_below_drewN | apply below_drew1 | refine below_set ?_ GE649.out | refine below_set ?_ GE659.out | refine below_set ?_ GE664.out) | exact HB.out)⟩⟩
                  · rw [if_neg c100] at H
                    have c100b0 : (t680 == 0) = false := beq_eq_false_iff_ne.mpr c100
                    have c100b1 : (t680 != 0) = true := bne_iff_ne.mpr c100
                    (first | rw [c100b0] | (simp only [i64_w, i32_w]; rw [c100b0]) | skip)
                    have H' := Aside0.mk H
                    clear H
                    go_wp2
                    go_meet
                    case rel => exact ⟨_, (true), (by first | rfl | (simp; done) | (simp [*]; done)), H', ⟨by have := HJ15.out; have := HJ78.out; first | omega | exact Nat.le_refl _⟩, ⟨by (with_reducible repeat (first | refine blk_drewN ?_ _ | refine blk_drew ?_ | refine blk_alloc ?_ _)); exact BK649.out⟩, ⟨by (with_reducible repeat (first | refine blk_drewN ?_ _ | refine blk_drew ?_ | refine blk_alloc ?_ _)); exact BK659.out⟩, ⟨by (with_reducible repeat (first | refine blk_drewN ?_ _ | refine blk_drew ?_ | refine blk_alloc ?_ _)); exact BK664.out⟩, ⟨by repeat (first | (with_reducible first | exact HB.out | apply below_alloc | apply pw_below_drewN | apply below_drew1 | refine below_set ?_ GE649.out | refine below_set ?_ GE659.out | refine below_set ?_ GE664.out) | exact HB.out)⟩⟩
                case rest =>
                  clear HC98
                  try clear c1
                  try clear c2
                  try clear p2
                  try clear c3
                  try clear c4
                  try clear c5
                  try clear c6
                  try clear p6
                  try clear c7
                  try clear c8
                  try clear c9
                  try clear c10
                  try clear c14
                  try clear c26
                  try clear c30
                  try clear c31
                  try clear c35
                  try clear c36
                  try clear c37
                  try clear c37b0
                  try clear c37b1
                  try clear c38
                  try clear c38b0
                  try clear c38b1
                  try clear c39
                  try clear c39b0
                  try clear c39b1
                  try clear c40
                  try clear c40b0
                  try clear c41
                  try clear c42
                  try clear c43
                  try clear c44
                  try clear c45
                  try clear c46
                  try clear c46b0
                  try clear c46b1
                  try clear c47
                  try clear c47b0
                  try clear c47b1
                  try clear c48
                  try clear c48b0
                  try clear c48b1
                  try clear c49
                  try clear c49b0
                  try clear c49b1
                  try clear c51
                  try clear c52
                  try clear c54
                  try clear c58
                  try clear c59
                  try clear c61
                  try clear c63
                  try clear c64
                  try clear p64
                  try clear c66
                  try clear c68
                  try clear c69
                  try clear c71
                  try clear c73
                  try clear c74
                  try clear c76
                  try clear c78
                  try clear c80
                  try clear c80b0
                  try clear c80b1
                  try clear c82
                  try clear c82b0
                  try clear c82b1
                  try clear c83
                  try clear c83b0
                  try clear c83b1
                  try clear c84
                  try clear c85
                  try clear c88
                  try clear c89
                  try clear c92
                  try clear c93
                  try clear c96
                  try clear c96b0
                  try clear c96b1
                  try clear c100
                  try clear c100b0
                  try clear c100b1
                  try clear c101
                  try clear c101b0
                  try clear hcz19_0
                  try clear hcz19_1
                  try clear hcz19_2
                  try clear hcz21_0
                  try clear hcz21_1
                  try clear hcz21_2
                  try clear hcz27_0
                  try clear hcz27_1
                  try clear hcz27_2
                  try clear hcz32_0
                  try clear hcz32_1
                  try clear hcz32_2
                  try clear hcz43_0
                  try clear hcz43_1
                  try clear hcz43_2
                  try clear hcz45_0
                  try clear hcz45_1
                  try clear hcz45_2
                  try clear hcz53_0
                  try clear hcz53_1
                  try clear hcz53_2
                  try clear hcz55_0
                  try clear hcz55_1
                  try clear hcz55_2
                  try clear hcz56_0
                  try clear hcz56_1
                  try clear hcz56_2
                  try clear hcz60_0
                  try clear hcz60_1
                  try clear hcz60_2
                  try clear hcz62_0
                  try clear hcz62_1
                  try clear hcz62_2
                  try clear hcz65_0
                  try clear hcz65_1
                  try clear hcz65_2
                  try clear hcz67_0
                  try clear hcz67_1
                  try clear hcz67_2
                  try clear hcz70_0
                  try clear hcz70_1
                  try clear hcz70_2
                  try clear hcz72_0
                  try clear hcz72_1
                  try clear hcz72_2
                  try clear hcz75_0
                  try clear hcz75_1
                  try clear hcz75_2
                  try clear hcz77_0
                  try clear hcz77_1
                  try clear hcz77_2
                  try clear hcz86_0
                  try clear hcz86_1
                  try clear hcz86_2
                  try clear hcz90_0
                  try clear hcz90_1
                  try clear hcz90_2
                  try clear hcz94_0
                  try clear hcz94_1
                  try clear hcz94_2
                  try clear hfz19_0
                  try clear hfz19_1
                  try clear hfz19_2
                  try clear hfz21_0
                  try clear hfz21_1
                  try clear hfz21_2
                  try clear hfz27_0
                  try clear hfz27_1
                  try clear hfz27_2
                  try clear hfz32_0
                  try clear hfz32_1
                  try clear hfz32_2
                  try clear hfz43_0
                  try clear hfz43_1
                  try clear hfz43_2
                  try clear hfz45_0
                  try clear hfz45_1
                  try clear hfz45_2
                  try clear hfz53_0
                  try clear hfz53_1
                  try clear hfz53_2
                  try clear hfz55_0
                  try clear hfz55_1
                  try clear hfz55_2
                  try clear hfz56_0
                  try clear hfz56_1
                  try clear hfz56_2
                  try clear hfz60_0
                  try clear hfz60_1
                  try clear hfz60_2
                  try clear hfz62_0
                  try clear hfz62_1
                  try clear hfz62_2
                  try clear hfz65_0
                  try clear hfz65_1
                  try clear hfz65_2
                  try clear hfz67_0
                  try clear hfz67_1
                  try clear hfz67_2
                  try clear hfz70_0
                  try clear hfz70_1
                  try clear hfz70_2
                  try clear hfz72_0
                  try clear hfz72_1
                  try clear hfz72_2
                  try clear hfz75_0
                  try clear hfz75_1
                  try clear hfz75_2
                  try clear hfz77_0
                  try clear hfz77_1
                  try clear hfz77_2
                  try clear hfz86_0
                  try clear hfz86_1
                  try clear hfz86_2
                  try clear hfz90_0
                  try clear hfz90_1
                  try clear hfz90_2
                  try clear hfz94_0
                  try clear hfz94_1
                  try clear hfz94_2
                  try clear p2
                  obtain ⟨kq, x163_97, rfl, HA, HJ97, BK649, BK659, BK664, HB⟩ := hcut
                  cases kq with
                  | zero => exact absurd HA.out (by simp [laws_FnDays.j2])
                  | succ kj97 =>
                    have H := HA.out
                    clear HA
                    simp only [laws_FnDays.j2] at H
                    by_cases c102 : x163_97 = true
                    · subst c102
                      have H1 : (some false) = some r := by rw [if_pos rfl] at H; exact H
                      clear H
                      have H := H1
                      clear H1
                      obtain rfl := Option.some.inj H
                      go_wp2
                      go_ret
                      exact ⟨by first | rfl | (simp [errW_none, errW_some] <;> rfl) | (simp [*, errW_none, errW_some] <;> rfl), by repeat (first | (with_reducible first | exact HB.out | apply below_alloc | apply pw_below_drewN | apply below_drew1 | refine below_set ?_ GE649.out | refine below_set ?_ GE659.out | refine below_set ?_ GE664.out) | exact HB.out)⟩
                    · replace c102 := Bool.eq_false_iff.mpr c102
                      subst c102
                      have H1 : (if t651 = 0 then ((impl_DateOf.f kj97 t650).bind fun bt681 => (if bt681.2.2.2 = 0 then (some (bt681.1 == t646 && (bt681.2.1 == t647 && (bt681.2.2.1 == t648)))) else (some false))) else (some true)) = some r := by rw [if_neg (show ¬ (false = true) by decide)] at H; exact H
                      clear H
                      have H := H1
                      clear H1
                      by_cases c103 : t651 = 0
                      · rw [if_pos c103] at H
                        have c103b0 : (t651 == 0) = true := beq_iff_eq.mpr c103
                        have c103b1 : (t651 != 0) = false := bne_eq_false_iff_eq.mpr c103
                        clear c103
                        replace H := Option.bind_eq_some_iff.mp H
                        obtain ⟨⟨t681, t682, t683, t684⟩, A1040, H⟩ := H
                        replace H : (if t684 = 0 then (some (t681 == t646 && (t682 == t647 && (t683 == t648)))) else (some false)) = some r := H
                        have A104 := Aside0.mk A1040
                        clear A1040
                        by_cases c105 : t684 = 0
                        · rw [if_pos c105] at H
                          have c105b0 : (t684 == 0) = true := beq_iff_eq.mpr c105
                          have c105b1 : (t684 != 0) = false := bne_eq_false_iff_eq.mpr c105
                          clear c105
                          obtain rfl := Option.some.inj H
                          go_wp2_with (first | ((with_reducible refine gate_callee (f := 39) rfl ?_); refine goesL_ (some 168) rfl rfl Try.func39 (by kernel_rfl) rfl #[.int .i64 t650] rfl (by (try simp only [List.map_toArray, List.map_cons, List.map_nil]); first | done | rfl | (simp only [List.length_drop, List.length_take]; rfl)) ?_; (with_reducible refine (impl_DateOf.calls kj97 t650 t681 t682 t683 t684 _ A104.out).mono ?_); rintro e w106 ⟨rfl, hb⟩; refine ⟨_, rfl, ?_⟩; have n0_ := Aside0.mk (blk_below (g := gb649) (o := .cells #[.int .i64 t646, .int .i64 t647, .int .i64 t648] 44 (0, 0)) (by (with_reducible repeat (first | refine blk_drewN ?_ _ | refine blk_drew ?_ | refine blk_alloc ?_ _)); exact BK649.out) hb); have n1_ := Aside0.mk (blk_below (g := gb659) (o := .cells #[.int .i64 t655, .int .i64 t656, .int .i64 t657] 44 (0, 0)) (by (with_reducible repeat (first | refine blk_drewN ?_ _ | refine blk_drew ?_ | refine blk_alloc ?_ _)); exact BK659.out) hb); have n2_ := Aside0.mk (blk_below (g := gb664) (o := .cells #[.int .i64 t660, .int .i64 t661, .int .i64 t662] 44 (0, 0)) (by (with_reducible repeat (first | refine blk_drewN ?_ _ | refine blk_drew ?_ | refine blk_alloc ?_ _)); exact BK664.out) hb); have n3_ := Aside0.mk (below_step (by repeat (first | (with_reducible first | exact HB.out | apply below_alloc | apply pw_below_drewN | apply below_drew1 | refine below_set ?_ GE649.out | refine below_set ?_ GE659.out | refine below_set ?_ GE664.out) | exact HB.out)) hb); clear BK649; clear BK659; clear BK664; clear HB; have BK649 := n0_; have BK659 := n1_; have BK664 := n2_; have HB := n3_; clear n0_ n1_ n2_ n3_; (try clear hb); (try clear hb2); (try clear hk); (try clear hi)) | ((with_reducible refine gate_dst (N := 28) rfl ?_); refine box_event ?hg (N := 28) ?hd (cs := #[.int .i64 0, .int .i64 0, .int .i64 0]) (t := 44) ?hr ?_; (case hd => rfl); (case hg => rfl); (case hr => first | (go_simp; done) | (go_simp; rfl)); intro gb685 hg w107 hbox hb; have n0_ := Aside0.mk (blk_below (g := gb649) (o := .cells #[.int .i64 t646, .int .i64 t647, .int .i64 t648] 44 (0, 0)) (by (with_reducible repeat (first | refine blk_drewN ?_ _ | refine blk_drew ?_ | refine blk_alloc ?_ _)); exact BK649.out) hb); have n1_ := Aside0.mk (blk_below (g := gb659) (o := .cells #[.int .i64 t655, .int .i64 t656, .int .i64 t657] 44 (0, 0)) (by (with_reducible repeat (first | refine blk_drewN ?_ _ | refine blk_drew ?_ | refine blk_alloc ?_ _)); exact BK659.out) hb); have n2_ := Aside0.mk (blk_below (g := gb664) (o := .cells #[.int .i64 t660, .int .i64 t661, .int .i64 t662] 44 (0, 0)) (by (with_reducible repeat (first | refine blk_drewN ?_ _ | refine blk_drew ?_ | refine blk_alloc ?_ _)); exact BK664.out) hb); have n3_ := Aside0.mk (below_step (by repeat (first | (with_reducible first | exact HB.out | apply below_alloc | apply pw_below_drewN | apply below_drew1 | refine below_set ?_ GE649.out | refine below_set ?_ GE659.out | refine below_set ?_ GE664.out) | exact HB.out)) hb); have n4_ := Aside0.mk (hbox); have n5_ := Aside0.mk ((by rw [hg]; exact (below_size (by repeat (first | (with_reducible first | exact HB.out | apply below_alloc | apply pw_below_drewN | apply below_drew1 | refine below_set ?_ GE649.out | refine below_set ?_ GE659.out | refine below_set ?_ GE664.out) | exact HB.out))) : w.heap.size ≤ gb685)); have n6_ := Aside0.mk ((by rw [hg]; exact (below_size (by repeat (first | (with_reducible first | exact HB.out | apply below_alloc | apply pw_below_drewN | apply below_drew1 | refine below_set ?_ GE649.out | refine below_set ?_ GE659.out | refine below_set ?_ GE664.out) | exact HB.out))) : w.heap.size ≤ gb685)); have n7_ := Aside0.mk ((by rw [hg]; exact Nat.ne_of_lt (blk_lt (g := gb649) (o := .cells #[.int .i64 t646, .int .i64 t647, .int .i64 t648] 44 (0, 0)) (by (with_reducible repeat (first | refine blk_drewN ?_ _ | refine blk_drew ?_ | refine blk_alloc ?_ _)); exact BK649.out)) : gb649 ≠ gb685)); have n8_ := Aside0.mk ((by rw [hg]; exact Nat.ne_of_gt (blk_lt (g := gb649) (o := .cells #[.int .i64 t646, .int .i64 t647, .int .i64 t648] 44 (0, 0)) (by (with_reducible repeat (first | refine blk_drewN ?_ _ | refine blk_drew ?_ | refine blk_alloc ?_ _)); exact BK649.out)) : gb685 ≠ gb649)); have n9_ := Aside0.mk ((by rw [hg]; exact Nat.ne_of_lt (blk_lt (g := gb659) (o := .cells #[.int .i64 t655, .int .i64 t656, .int .i64 t657] 44 (0, 0)) (by (with_reducible repeat (first | refine blk_drewN ?_ _ | refine blk_drew ?_ | refine blk_alloc ?_ _)); exact BK659.out)) : gb659 ≠ gb685)); have n10_ := Aside0.mk ((by rw [hg]; exact Nat.ne_of_gt (blk_lt (g := gb659) (o := .cells #[.int .i64 t655, .int .i64 t656, .int .i64 t657] 44 (0, 0)) (by (with_reducible repeat (first | refine blk_drewN ?_ _ | refine blk_drew ?_ | refine blk_alloc ?_ _)); exact BK659.out)) : gb685 ≠ gb659)); have n11_ := Aside0.mk ((by rw [hg]; exact Nat.ne_of_lt (blk_lt (g := gb664) (o := .cells #[.int .i64 t660, .int .i64 t661, .int .i64 t662] 44 (0, 0)) (by (with_reducible repeat (first | refine blk_drewN ?_ _ | refine blk_drew ?_ | refine blk_alloc ?_ _)); exact BK664.out)) : gb664 ≠ gb685)); have n12_ := Aside0.mk ((by rw [hg]; exact Nat.ne_of_gt (blk_lt (g := gb664) (o := .cells #[.int .i64 t660, .int .i64 t661, .int .i64 t662] 44 (0, 0)) (by (with_reducible repeat (first | refine blk_drewN ?_ _ | refine blk_drew ?_ | refine blk_alloc ?_ _)); exact BK664.out)) : gb685 ≠ gb664)); clear BK649; clear BK659; clear BK664; clear HB; have BK649 := n0_; have BK659 := n1_; have BK664 := n2_; have HB := n3_; have BK685 := n4_; have GW685 := n5_; have GE685 := n6_; have NB649_685 := n7_; have NB685_649 := n8_; have NB659_685 := n9_; have NB685_659 := n10_; have NB664_685 := n11_; have NB685_664 := n12_; clear n0_ n1_ n2_ n3_ n4_ n5_ n6_ n7_ n8_ n9_ n10_ n11_ n12_; clear hb hbox hg; have hnb108 := NB685_649.out; have hnc108 := NB649_685.out; have hnb109 := NB685_659.out; have hnc109 := NB659_685.out; have hnb110 := NB685_664.out; have hnc110 := NB664_685.out; have hcz111_0 : w107.cell? ⟨gb685, 0, none⟩ = some (.int .i64 0) := (blk_cell BK685.out 0).trans rfl; have hcz111_1 : w107.cell? ⟨gb685, 1, none⟩ = some (.int .i64 0) := (blk_cell BK685.out 1).trans rfl; have hcz111_2 : w107.cell? ⟨gb685, 2, none⟩ = some (.int .i64 0) := (blk_cell BK685.out 2).trans rfl; have hfz111_0 := blk_frozen BK685.out 0; have hfz111_1 := blk_frozen BK685.out 1; have hfz111_2 := blk_frozen BK685.out 2; have hnb112 := NB649_659.out; have hnc112 := NB659_649.out; have hnb113 := NB649_664.out; have hnc113 := NB664_649.out; have hcz114_0 : w107.cell? ⟨gb649, 0, none⟩ = some (.int .i64 t646) := (blk_cell BK649.out 0).trans rfl; have hcz114_1 : w107.cell? ⟨gb649, 1, none⟩ = some (.int .i64 t647) := (blk_cell BK649.out 1).trans rfl; have hcz114_2 : w107.cell? ⟨gb649, 2, none⟩ = some (.int .i64 t648) := (blk_cell BK649.out 2).trans rfl; have hfz114_0 := blk_frozen BK649.out 0; have hfz114_1 := blk_frozen BK649.out 1; have hfz114_2 := blk_frozen BK649.out 2))
                          go_ret
                          exact ⟨by first | rfl | (simp [errW_none, errW_some] <;> rfl) | (simp [*, errW_none, errW_some] <;> rfl), by repeat (first | (with_reducible first | exact HB.out | apply below_alloc | apply pw_below_drewN | apply below_drew1 | refine below_set ?_ GE649.out | refine below_set ?_ GE659.out | refine below_set ?_ GE664.out | refine below_set ?_ GE685.out) | exact HB.out)⟩
                        · rw [if_neg c105] at H
                          have c105b0 : (t684 == 0) = false := beq_eq_false_iff_ne.mpr c105
                          have c105b1 : (t684 != 0) = true := bne_iff_ne.mpr c105
                          obtain rfl := Option.some.inj H
                          go_wp2_with (first | ((with_reducible refine gate_callee (f := 39) rfl ?_); refine goesL_ (some 168) rfl rfl Try.func39 (by kernel_rfl) rfl #[.int .i64 t650] rfl (by (try simp only [List.map_toArray, List.map_cons, List.map_nil]); first | done | rfl | (simp only [List.length_drop, List.length_take]; rfl)) ?_; (with_reducible refine (impl_DateOf.calls kj97 t650 t681 t682 t683 t684 _ A104.out).mono ?_); rintro e w115 ⟨rfl, hb⟩; refine ⟨_, rfl, ?_⟩; have n0_ := Aside0.mk (blk_below (g := gb649) (o := .cells #[.int .i64 t646, .int .i64 t647, .int .i64 t648] 44 (0, 0)) (by (with_reducible repeat (first | refine blk_drewN ?_ _ | refine blk_drew ?_ | refine blk_alloc ?_ _)); exact BK649.out) hb); have n1_ := Aside0.mk (blk_below (g := gb659) (o := .cells #[.int .i64 t655, .int .i64 t656, .int .i64 t657] 44 (0, 0)) (by (with_reducible repeat (first | refine blk_drewN ?_ _ | refine blk_drew ?_ | refine blk_alloc ?_ _)); exact BK659.out) hb); have n2_ := Aside0.mk (blk_below (g := gb664) (o := .cells #[.int .i64 t660, .int .i64 t661, .int .i64 t662] 44 (0, 0)) (by (with_reducible repeat (first | refine blk_drewN ?_ _ | refine blk_drew ?_ | refine blk_alloc ?_ _)); exact BK664.out) hb); have n3_ := Aside0.mk (below_step (by repeat (first | (with_reducible first | exact HB.out | apply below_alloc | apply pw_below_drewN | apply below_drew1 | refine below_set ?_ GE649.out | refine below_set ?_ GE659.out | refine below_set ?_ GE664.out) | exact HB.out)) hb); clear BK649; clear BK659; clear BK664; clear HB; have BK649 := n0_; have BK659 := n1_; have BK664 := n2_; have HB := n3_; clear n0_ n1_ n2_ n3_; (try clear hb); (try clear hb2); (try clear hk); (try clear hi)) | ((with_reducible refine gate_dst (N := 28) rfl ?_); refine box_event ?hg (N := 28) ?hd (cs := #[.int .i64 0, .int .i64 0, .int .i64 0]) (t := 44) ?hr ?_; (case hd => rfl); (case hg => rfl); (case hr => first | (go_simp; done) | (go_simp; rfl)); intro gb685 hg w116 hbox hb; have n0_ := Aside0.mk (blk_below (g := gb649) (o := .cells #[.int .i64 t646, .int .i64 t647, .int .i64 t648] 44 (0, 0)) (by (with_reducible repeat (first | refine blk_drewN ?_ _ | refine blk_drew ?_ | refine blk_alloc ?_ _)); exact BK649.out) hb); have n1_ := Aside0.mk (blk_below (g := gb659) (o := .cells #[.int .i64 t655, .int .i64 t656, .int .i64 t657] 44 (0, 0)) (by (with_reducible repeat (first | refine blk_drewN ?_ _ | refine blk_drew ?_ | refine blk_alloc ?_ _)); exact BK659.out) hb); have n2_ := Aside0.mk (blk_below (g := gb664) (o := .cells #[.int .i64 t660, .int .i64 t661, .int .i64 t662] 44 (0, 0)) (by (with_reducible repeat (first | refine blk_drewN ?_ _ | refine blk_drew ?_ | refine blk_alloc ?_ _)); exact BK664.out) hb); have n3_ := Aside0.mk (below_step (by repeat (first | (with_reducible first | exact HB.out | apply below_alloc | apply pw_below_drewN | apply below_drew1 | refine below_set ?_ GE649.out | refine below_set ?_ GE659.out | refine below_set ?_ GE664.out) | exact HB.out)) hb); have n4_ := Aside0.mk (hbox); have n5_ := Aside0.mk ((by rw [hg]; exact (below_size (by repeat (first | (with_reducible first | exact HB.out | apply below_alloc | apply pw_below_drewN | apply below_drew1 | refine below_set ?_ GE649.out | refine below_set ?_ GE659.out | refine below_set ?_ GE664.out) | exact HB.out))) : w.heap.size ≤ gb685)); have n6_ := Aside0.mk ((by rw [hg]; exact (below_size (by repeat (first | (with_reducible first | exact HB.out | apply below_alloc | apply pw_below_drewN | apply below_drew1 | refine below_set ?_ GE649.out | refine below_set ?_ GE659.out | refine below_set ?_ GE664.out) | exact HB.out))) : w.heap.size ≤ gb685)); have n7_ := Aside0.mk ((by rw [hg]; exact Nat.ne_of_lt (blk_lt (g := gb649) (o := .cells #[.int .i64 t646, .int .i64 t647, .int .i64 t648] 44 (0, 0)) (by (with_reducible repeat (first | refine blk_drewN ?_ _ | refine blk_drew ?_ | refine blk_alloc ?_ _)); exact BK649.out)) : gb649 ≠ gb685)); have n8_ := Aside0.mk ((by rw [hg]; exact Nat.ne_of_gt (blk_lt (g := gb649) (o := .cells #[.int .i64 t646, .int .i64 t647, .int .i64 t648] 44 (0, 0)) (by (with_reducible repeat (first | refine blk_drewN ?_ _ | refine blk_drew ?_ | refine blk_alloc ?_ _)); exact BK649.out)) : gb685 ≠ gb649)); have n9_ := Aside0.mk ((by rw [hg]; exact Nat.ne_of_lt (blk_lt (g := gb659) (o := .cells #[.int .i64 t655, .int .i64 t656, .int .i64 t657] 44 (0, 0)) (by (with_reducible repeat (first | refine blk_drewN ?_ _ | refine blk_drew ?_ | refine blk_alloc ?_ _)); exact BK659.out)) : gb659 ≠ gb685)); have n10_ := Aside0.mk ((by rw [hg]; exact Nat.ne_of_gt (blk_lt (g := gb659) (o := .cells #[.int .i64 t655, .int .i64 t656, .int .i64 t657] 44 (0, 0)) (by (with_reducible repeat (first | refine blk_drewN ?_ _ | refine blk_drew ?_ | refine blk_alloc ?_ _)); exact BK659.out)) : gb685 ≠ gb659)); have n11_ := Aside0.mk ((by rw [hg]; exact Nat.ne_of_lt (blk_lt (g := gb664) (o := .cells #[.int .i64 t660, .int .i64 t661, .int .i64 t662] 44 (0, 0)) (by (with_reducible repeat (first | refine blk_drewN ?_ _ | refine blk_drew ?_ | refine blk_alloc ?_ _)); exact BK664.out)) : gb664 ≠ gb685)); have n12_ := Aside0.mk ((by rw [hg]; exact Nat.ne_of_gt (blk_lt (g := gb664) (o := .cells #[.int .i64 t660, .int .i64 t661, .int .i64 t662] 44 (0, 0)) (by (with_reducible repeat (first | refine blk_drewN ?_ _ | refine blk_drew ?_ | refine blk_alloc ?_ _)); exact BK664.out)) : gb685 ≠ gb664)); clear BK649; clear BK659; clear BK664; clear HB; have BK649 := n0_; have BK659 := n1_; have BK664 := n2_; have HB := n3_; have BK685 := n4_; have GW685 := n5_; have GE685 := n6_; have NB649_685 := n7_; have NB685_649 := n8_; have NB659_685 := n9_; have NB685_659 := n10_; have NB664_685 := n11_; have NB685_664 := n12_; clear n0_ n1_ n2_ n3_ n4_ n5_ n6_ n7_ n8_ n9_ n10_ n11_ n12_; clear hb hbox hg; have hnb117 := NB685_649.out; have hnc117 := NB649_685.out; have hnb118 := NB685_659.out; have hnc118 := NB659_685.out; have hnb119 := NB685_664.out; have hnc119 := NB664_685.out; have hcz120_0 : w116.cell? ⟨gb685, 0, none⟩ = some (.int .i64 0) := (blk_cell BK685.out 0).trans rfl; have hcz120_1 : w116.cell? ⟨gb685, 1, none⟩ = some (.int .i64 0) := (blk_cell BK685.out 1).trans rfl; have hcz120_2 : w116.cell? ⟨gb685, 2, none⟩ = some (.int .i64 0) := (blk_cell BK685.out 2).trans rfl; have hfz120_0 := blk_frozen BK685.out 0; have hfz120_1 := blk_frozen BK685.out 1; have hfz120_2 := blk_frozen BK685.out 2))
                          go_ret
                          exact ⟨by first | rfl | (simp [errW_none, errW_some] <;> rfl) | (simp [*, errW_none, errW_some] <;> rfl), by repeat (first | (with_reducible first | exact HB.out | apply below_alloc | apply pw_below_drewN | apply below_drew1 | refine below_set ?_ GE649.out | refine below_set ?_ GE659.out | refine below_set ?_ GE664.out | refine below_set ?_ GE685.out) | exact HB.out)⟩
                      · rw [if_neg c103] at H
                        have c103b0 : (t651 == 0) = false := beq_eq_false_iff_ne.mpr c103
                        have c103b1 : (t651 != 0) = true := bne_iff_ne.mpr c103
                        obtain rfl := Option.some.inj H
                        go_wp2
                        go_ret
                        exact ⟨by first | rfl | (simp [errW_none, errW_some] <;> rfl) | (simp [*, errW_none, errW_some] <;> rfl), by repeat (first | (with_reducible first | exact HB.out | apply below_alloc | apply pw_below_drewN | apply below_drew1 | refine below_set ?_ GE649.out | refine below_set ?_ GE659.out | refine below_set ?_ GE664.out) | exact HB.out)⟩
              · rw [if_neg c96] at H
                have c96b0 : (t668 == 0) = false := beq_eq_false_iff_ne.mpr c96
                have c96b1 : (t668 != 0) = true := bne_iff_ne.mpr c96
                by_cases c121 : t651 = 0
                · rw [if_pos c121] at H
                  have c121b0 : (t651 == 0) = true := beq_iff_eq.mpr c121
                  have c121b1 : (t651 != 0) = false := bne_eq_false_iff_eq.mpr c121
                  clear c121
                  replace H := Option.bind_eq_some_iff.mp H
                  obtain ⟨⟨t686, t687, t688, t689⟩, A1220, H⟩ := H
                  replace H : (if t689 = 0 then (some (t686 == t646 && (t687 == t647 && (t688 == t648)))) else (some false)) = some r := H
                  have A122 := Aside0.mk A1220
                  clear A1220
                  by_cases c123 : t689 = 0
                  · rw [if_pos c123] at H
                    have c123b0 : (t689 == 0) = true := beq_iff_eq.mpr c123
                    have c123b1 : (t689 != 0) = false := bne_eq_false_iff_eq.mpr c123
                    clear c123
                    obtain rfl := Option.some.inj H
                    go_wp2_with (first | ((with_reducible refine gate_callee (f := 39) rfl ?_); refine goesL_ (some 168) rfl rfl Try.func39 (by kernel_rfl) rfl #[.int .i64 t650] rfl (by (try simp only [List.map_toArray, List.map_cons, List.map_nil]); first | done | rfl | (simp only [List.length_drop, List.length_take]; rfl)) ?_; (with_reducible refine (impl_DateOf.calls kj78 t650 t686 t687 t688 t689 _ A122.out).mono ?_); rintro e w124 ⟨rfl, hb⟩; refine ⟨_, rfl, ?_⟩; have n0_ := Aside0.mk (blk_below (g := gb649) (o := .cells #[.int .i64 t646, .int .i64 t647, .int .i64 t648] 44 (0, 0)) (by (with_reducible repeat (first | refine blk_drewN ?_ _ | refine blk_drew ?_ | refine blk_alloc ?_ _)); exact BK649.out) hb); have n1_ := Aside0.mk (blk_below (g := gb659) (o := .cells #[.int .i64 t655, .int .i64 t656, .int .i64 t657] 44 (0, 0)) (by (with_reducible repeat (first | refine blk_drewN ?_ _ | refine blk_drew ?_ | refine blk_alloc ?_ _)); exact BK659.out) hb); have n2_ := Aside0.mk (blk_below (g := gb664) (o := .cells #[.int .i64 t660, .int .i64 t661, .int .i64 t662] 44 (0, 0)) (by (with_reducible repeat (first | refine blk_drewN ?_ _ | refine blk_drew ?_ | refine blk_alloc ?_ _)); exact BK664.out) hb); have n3_ := Aside0.mk (below_step (by repeat (first | (with_reducible first | exact HB.out | apply below_alloc | apply pw_below_drewN | apply below_drew1 | refine below_set ?_ GE649.out | refine below_set ?_ GE659.out | refine below_set ?_ GE664.out) | exact HB.out)) hb); clear BK649; clear BK659; clear BK664; clear HB; have BK649 := n0_; have BK659 := n1_; have BK664 := n2_; have HB := n3_; clear n0_ n1_ n2_ n3_; (try clear hb); (try clear hb2); (try clear hk); (try clear hi)) | ((with_reducible refine gate_dst (N := 28) rfl ?_); refine box_event ?hg (N := 28) ?hd (cs := #[.int .i64 0, .int .i64 0, .int .i64 0]) (t := 44) ?hr ?_; (case hd => rfl); (case hg => rfl); (case hr => first | (go_simp; done) | (go_simp; rfl)); intro gb690 hg w125 hbox hb; have n0_ := Aside0.mk (blk_below (g := gb649) (o := .cells #[.int .i64 t646, .int .i64 t647, .int .i64 t648] 44 (0, 0)) (by (with_reducible repeat (first | refine blk_drewN ?_ _ | refine blk_drew ?_ | refine blk_alloc ?_ _)); exact BK649.out) hb); have n1_ := Aside0.mk (blk_below (g := gb659) (o := .cells #[.int .i64 t655, .int .i64 t656, .int .i64 t657] 44 (0, 0)) (by (with_reducible repeat (first | refine blk_drewN ?_ _ | refine blk_drew ?_ | refine blk_alloc ?_ _)); exact BK659.out) hb); have n2_ := Aside0.mk (blk_below (g := gb664) (o := .cells #[.int .i64 t660, .int .i64 t661, .int .i64 t662] 44 (0, 0)) (by (with_reducible repeat (first | refine blk_drewN ?_ _ | refine blk_drew ?_ | refine blk_alloc ?_ _)); exact BK664.out) hb); have n3_ := Aside0.mk (below_step (by repeat (first | (with_reducible first | exact HB.out | apply below_alloc | apply pw_below_drewN | apply below_drew1 | refine below_set ?_ GE649.out | refine below_set ?_ GE659.out | refine below_set ?_ GE664.out) | exact HB.out)) hb); have n4_ := Aside0.mk (hbox); have n5_ := Aside0.mk ((by rw [hg]; exact (below_size (by repeat (first | (with_reducible first | exact HB.out | apply below_alloc | apply pw_below_drewN | apply below_drew1 | refine below_set ?_ GE649.out | refine below_set ?_ GE659.out | refine below_set ?_ GE664.out) | exact HB.out))) : w.heap.size ≤ gb690)); have n6_ := Aside0.mk ((by rw [hg]; exact (below_size (by repeat (first | (with_reducible first | exact HB.out | apply below_alloc | apply pw_below_drewN | apply below_drew1 | refine below_set ?_ GE649.out | refine below_set ?_ GE659.out | refine below_set ?_ GE664.out) | exact HB.out))) : w.heap.size ≤ gb690)); have n7_ := Aside0.mk ((by rw [hg]; exact Nat.ne_of_lt (blk_lt (g := gb649) (o := .cells #[.int .i64 t646, .int .i64 t647, .int .i64 t648] 44 (0, 0)) (by (with_reducible repeat (first | refine blk_drewN ?_ _ | refine blk_drew ?_ | refine blk_alloc ?_ _)); exact BK649.out)) : gb649 ≠ gb690)); have n8_ := Aside0.mk ((by rw [hg]; exact Nat.ne_of_gt (blk_lt (g := gb649) (o := .cells #[.int .i64 t646, .int .i64 t647, .int .i64 t648] 44 (0, 0)) (by (with_reducible repeat (first | refine blk_drewN ?_ _ | refine blk_drew ?_ | refine blk_alloc ?_ _)); exact BK649.out)) : gb690 ≠ gb649)); have n9_ := Aside0.mk ((by rw [hg]; exact Nat.ne_of_lt (blk_lt (g := gb659) (o := .cells #[.int .i64 t655, .int .i64 t656, .int .i64 t657] 44 (0, 0)) (by (with_reducible repeat (first | refine blk_drewN ?_ _ | refine blk_drew ?_ | refine blk_alloc ?_ _)); exact BK659.out)) : gb659 ≠ gb690)); have n10_ := Aside0.mk ((by rw [hg]; exact Nat.ne_of_gt (blk_lt (g := gb659) (o := .cells #[.int .i64 t655, .int .i64 t656, .int .i64 t657] 44 (0, 0)) (by (with_reducible repeat (first | refine blk_drewN ?_ _ | refine blk_drew ?_ | refine blk_alloc ?_ _)); exact BK659.out)) : gb690 ≠ gb659)); have n11_ := Aside0.mk ((by rw [hg]; exact Nat.ne_of_lt (blk_lt (g := gb664) (o := .cells #[.int .i64 t660, .int .i64 t661, .int .i64 t662] 44 (0, 0)) (by (with_reducible repeat (first | refine blk_drewN ?_ _ | refine blk_drew ?_ | refine blk_alloc ?_ _)); exact BK664.out)) : gb664 ≠ gb690)); have n12_ := Aside0.mk ((by rw [hg]; exact Nat.ne_of_gt (blk_lt (g := gb664) (o := .cells #[.int .i64 t660, .int .i64 t661, .int .i64 t662] 44 (0, 0)) (by (with_reducible repeat (first | refine blk_drewN ?_ _ | refine blk_drew ?_ | refine blk_alloc ?_ _)); exact BK664.out)) : gb690 ≠ gb664)); clear BK649; clear BK659; clear BK664; clear HB; have BK649 := n0_; have BK659 := n1_; have BK664 := n2_; have HB := n3_; have BK690 := n4_; have GW690 := n5_; have GE690 := n6_; have NB649_690 := n7_; have NB690_649 := n8_; have NB659_690 := n9_; have NB690_659 := n10_; have NB664_690 := n11_; have NB690_664 := n12_; clear n0_ n1_ n2_ n3_ n4_ n5_ n6_ n7_ n8_ n9_ n10_ n11_ n12_; clear hb hbox hg; have hnb126 := NB690_649.out; have hnc126 := NB649_690.out; have hnb127 := NB690_659.out; have hnc127 := NB659_690.out; have hnb128 := NB690_664.out; have hnc128 := NB664_690.out; have hcz129_0 : w125.cell? ⟨gb690, 0, none⟩ = some (.int .i64 0) := (blk_cell BK690.out 0).trans rfl; have hcz129_1 : w125.cell? ⟨gb690, 1, none⟩ = some (.int .i64 0) := (blk_cell BK690.out 1).trans rfl; have hcz129_2 : w125.cell? ⟨gb690, 2, none⟩ = some (.int .i64 0) := (blk_cell BK690.out 2).trans rfl; have hfz129_0 := blk_frozen BK690.out 0; have hfz129_1 := blk_frozen BK690.out 1; have hfz129_2 := blk_frozen BK690.out 2; have hnb130 := NB649_659.out; have hnc130 := NB659_649.out; have hnb131 := NB649_664.out; have hnc131 := NB664_649.out; have hcz132_0 : w125.cell? ⟨gb649, 0, none⟩ = some (.int .i64 t646) := (blk_cell BK649.out 0).trans rfl; have hcz132_1 : w125.cell? ⟨gb649, 1, none⟩ = some (.int .i64 t647) := (blk_cell BK649.out 1).trans rfl; have hcz132_2 : w125.cell? ⟨gb649, 2, none⟩ = some (.int .i64 t648) := (blk_cell BK649.out 2).trans rfl; have hfz132_0 := blk_frozen BK649.out 0; have hfz132_1 := blk_frozen BK649.out 1; have hfz132_2 := blk_frozen BK649.out 2))
                    go_ret
                    exact ⟨by first | rfl | (simp [errW_none, errW_some] <;> rfl) | (simp [*, errW_none, errW_some] <;> rfl), by repeat (first | (with_reducible first | exact HB.out | apply below_alloc | apply pw_below_drewN | apply below_drew1 | refine below_set ?_ GE649.out | refine below_set ?_ GE659.out | refine below_set ?_ GE664.out | refine below_set ?_ GE690.out) | exact HB.out)⟩
                  · rw [if_neg c123] at H
                    have c123b0 : (t689 == 0) = false := beq_eq_false_iff_ne.mpr c123
                    have c123b1 : (t689 != 0) = true := bne_iff_ne.mpr c123
                    obtain rfl := Option.some.inj H
                    go_wp2_with (first | ((with_reducible refine gate_callee (f := 39) rfl ?_); refine goesL_ (some 168) rfl rfl Try.func39 (by kernel_rfl) rfl #[.int .i64 t650] rfl (by (try simp only [List.map_toArray, List.map_cons, List.map_nil]); first | done | rfl | (simp only [List.length_drop, List.length_take]; rfl)) ?_; (with_reducible refine (impl_DateOf.calls kj78 t650 t686 t687 t688 t689 _ A122.out).mono ?_); rintro e w133 ⟨rfl, hb⟩; refine ⟨_, rfl, ?_⟩; have n0_ := Aside0.mk (blk_below (g := gb649) (o := .cells #[.int .i64 t646, .int .i64 t647, .int .i64 t648] 44 (0, 0)) (by (with_reducible repeat (first | refine blk_drewN ?_ _ | refine blk_drew ?_ | refine blk_alloc ?_ _)); exact BK649.out) hb); have n1_ := Aside0.mk (blk_below (g := gb659) (o := .cells #[.int .i64 t655, .int .i64 t656, .int .i64 t657] 44 (0, 0)) (by (with_reducible repeat (first | refine blk_drewN ?_ _ | refine blk_drew ?_ | refine blk_alloc ?_ _)); exact BK659.out) hb); have n2_ := Aside0.mk (blk_below (g := gb664) (o := .cells #[.int .i64 t660, .int .i64 t661, .int .i64 t662] 44 (0, 0)) (by (with_reducible repeat (first | refine blk_drewN ?_ _ | refine blk_drew ?_ | refine blk_alloc ?_ _)); exact BK664.out) hb); have n3_ := Aside0.mk (below_step (by repeat (first | (with_reducible first | exact HB.out | apply below_alloc | apply pw_below_drewN | apply below_drew1 | refine below_set ?_ GE649.out | refine below_set ?_ GE659.out | refine below_set ?_ GE664.out) | exact HB.out)) hb); clear BK649; clear BK659; clear BK664; clear HB; have BK649 := n0_; have BK659 := n1_; have BK664 := n2_; have HB := n3_; clear n0_ n1_ n2_ n3_; (try clear hb); (try clear hb2); (try clear hk); (try clear hi)) | ((with_reducible refine gate_dst (N := 28) rfl ?_); refine box_event ?hg (N := 28) ?hd (cs := #[.int .i64 0, .int .i64 0, .int .i64 0]) (t := 44) ?hr ?_; (case hd => rfl); (case hg => rfl); (case hr => first | (go_simp; done) | (go_simp; rfl)); intro gb690 hg w134 hbox hb; have n0_ := Aside0.mk (blk_below (g := gb649) (o := .cells #[.int .i64 t646, .int .i64 t647, .int .i64 t648] 44 (0, 0)) (by (with_reducible repeat (first | refine blk_drewN ?_ _ | refine blk_drew ?_ | refine blk_alloc ?_ _)); exact BK649.out) hb); have n1_ := Aside0.mk (blk_below (g := gb659) (o := .cells #[.int .i64 t655, .int .i64 t656, .int .i64 t657] 44 (0, 0)) (by (with_reducible repeat (first | refine blk_drewN ?_ _ | refine blk_drew ?_ | refine blk_alloc ?_ _)); exact BK659.out) hb); have n2_ := Aside0.mk (blk_below (g := gb664) (o := .cells #[.int .i64 t660, .int .i64 t661, .int .i64 t662] 44 (0, 0)) (by (with_reducible repeat (first | refine blk_drewN ?_ _ | refine blk_drew ?_ | refine blk_alloc ?_ _)); exact BK664.out) hb); have n3_ := Aside0.mk (below_step (by repeat (first | (with_reducible first | exact HB.out | apply below_alloc | apply pw_below_drewN | apply below_drew1 | refine below_set ?_ GE649.out | refine below_set ?_ GE659.out | refine below_set ?_ GE664.out) | exact HB.out)) hb); have n4_ := Aside0.mk (hbox); have n5_ := Aside0.mk ((by rw [hg]; exact (below_size (by repeat (first | (with_reducible first | exact HB.out | apply below_alloc | apply pw_below_drewN | apply below_drew1 | refine below_set ?_ GE649.out | refine below_set ?_ GE659.out | refine below_set ?_ GE664.out) | exact HB.out))) : w.heap.size ≤ gb690)); have n6_ := Aside0.mk ((by rw [hg]; exact (below_size (by repeat (first | (with_reducible first | exact HB.out | apply below_alloc | apply pw_below_drewN | apply below_drew1 | refine below_set ?_ GE649.out | refine below_set ?_ GE659.out | refine below_set ?_ GE664.out) | exact HB.out))) : w.heap.size ≤ gb690)); have n7_ := Aside0.mk ((by rw [hg]; exact Nat.ne_of_lt (blk_lt (g := gb649) (o := .cells #[.int .i64 t646, .int .i64 t647, .int .i64 t648] 44 (0, 0)) (by (with_reducible repeat (first | refine blk_drewN ?_ _ | refine blk_drew ?_ | refine blk_alloc ?_ _)); exact BK649.out)) : gb649 ≠ gb690)); have n8_ := Aside0.mk ((by rw [hg]; exact Nat.ne_of_gt (blk_lt (g := gb649) (o := .cells #[.int .i64 t646, .int .i64 t647, .int .i64 t648] 44 (0, 0)) (by (with_reducible repeat (first | refine blk_drewN ?_ _ | refine blk_drew ?_ | refine blk_alloc ?_ _)); exact BK649.out)) : gb690 ≠ gb649)); have n9_ := Aside0.mk ((by rw [hg]; exact Nat.ne_of_lt (blk_lt (g := gb659) (o := .cells #[.int .i64 t655, .int .i64 t656, .int .i64 t657] 44 (0, 0)) (by (with_reducible repeat (first | refine blk_drewN ?_ _ | refine blk_drew ?_ | refine blk_alloc ?_ _)); exact BK659.out)) : gb659 ≠ gb690)); have n10_ := Aside0.mk ((by rw [hg]; exact Nat.ne_of_gt (blk_lt (g := gb659) (o := .cells #[.int .i64 t655, .int .i64 t656, .int .i64 t657] 44 (0, 0)) (by (with_reducible repeat (first | refine blk_drewN ?_ _ | refine blk_drew ?_ | refine blk_alloc ?_ _)); exact BK659.out)) : gb690 ≠ gb659)); have n11_ := Aside0.mk ((by rw [hg]; exact Nat.ne_of_lt (blk_lt (g := gb664) (o := .cells #[.int .i64 t660, .int .i64 t661, .int .i64 t662] 44 (0, 0)) (by (with_reducible repeat (first | refine blk_drewN ?_ _ | refine blk_drew ?_ | refine blk_alloc ?_ _)); exact BK664.out)) : gb664 ≠ gb690)); have n12_ := Aside0.mk ((by rw [hg]; exact Nat.ne_of_gt (blk_lt (g := gb664) (o := .cells #[.int .i64 t660, .int .i64 t661, .int .i64 t662] 44 (0, 0)) (by (with_reducible repeat (first | refine blk_drewN ?_ _ | refine blk_drew ?_ | refine blk_alloc ?_ _)); exact BK664.out)) : gb690 ≠ gb664)); clear BK649; clear BK659; clear BK664; clear HB; have BK649 := n0_; have BK659 := n1_; have BK664 := n2_; have HB := n3_; have BK690 := n4_; have GW690 := n5_; have GE690 := n6_; have NB649_690 := n7_; have NB690_649 := n8_; have NB659_690 := n9_; have NB690_659 := n10_; have NB664_690 := n11_; have NB690_664 := n12_; clear n0_ n1_ n2_ n3_ n4_ n5_ n6_ n7_ n8_ n9_ n10_ n11_ n12_; clear hb hbox hg; have hnb135 := NB690_649.out; have hnc135 := NB649_690.out; have hnb136 := NB690_659.out; have hnc136 := NB659_690.out; have hnb137 := NB690_664.out; have hnc137 := NB664_690.out; have hcz138_0 : w134.cell? ⟨gb690, 0, none⟩ = some (.int .i64 0) := (blk_cell BK690.out 0).trans rfl; have hcz138_1 : w134.cell? ⟨gb690, 1, none⟩ = some (.int .i64 0) := (blk_cell BK690.out 1).trans rfl; have hcz138_2 : w134.cell? ⟨gb690, 2, none⟩ = some (.int .i64 0) := (blk_cell BK690.out 2).trans rfl; have hfz138_0 := blk_frozen BK690.out 0; have hfz138_1 := blk_frozen BK690.out 1; have hfz138_2 := blk_frozen BK690.out 2))
                    go_ret
                    exact ⟨by first | rfl | (simp [errW_none, errW_some] <;> rfl) | (simp [*, errW_none, errW_some] <;> rfl), by repeat (first | (with_reducible first | exact HB.out | apply below_alloc | apply pw_below_drewN | apply below_drew1 | refine below_set ?_ GE649.out | refine below_set ?_ GE659.out | refine below_set ?_ GE664.out | refine below_set ?_ GE690.out) | exact HB.out)⟩
                · rw [if_neg c121] at H
                  have c121b0 : (t651 == 0) = false := beq_eq_false_iff_ne.mpr c121
                  have c121b1 : (t651 != 0) = true := bne_iff_ne.mpr c121
                  obtain rfl := Option.some.inj H
                  go_wp2
                  go_ret
                  exact ⟨by first | rfl | (simp [errW_none, errW_some] <;> rfl) | (simp [*, errW_none, errW_some] <;> rfl), by repeat (first | (with_reducible first | exact HB.out | apply below_alloc | apply pw_below_drewN | apply below_drew1 | refine below_set ?_ GE649.out | refine below_set ?_ GE659.out | refine below_set ?_ GE664.out) | exact HB.out)⟩

/-- THE ONE PURE STATEMENT of laws_FnDays: yours. -/
def laws_FnDays.Pure : Prop := ∀ (l0 : List Int), l0.length ≤ maxLen → l0.length * 1 ≤ 140737488351232 → (∀ x ∈ l0, (Lit.int .u8 x).wf = true) → ∃ k, laws_FnDays.f k l0 = some true
theorem laws_FnDays.walk (P : laws_FnDays.Pure) (a0 : Option Addr) (len0 cap0 : Nat) (z0 : List Int) (w : World) (w0 : (a0 = none ∧ len0 = 0 ∧ cap0 = 0 ∧ z0 = []) ∨ ∃ x, a0 = some x ∧ len0 ≤ cap0 ∧ cap0 ≤ maxLen ∧ z0.length = cap0 ∧ (∀ i, i < z0.length → w.cell? (x.add i) = some (.int .u8 (z0.getD i 0))) ∧ ∀ n ∈ z0, (Lit.int .u8 n).wf = true) (y0 : len0 * 1 ≤ 140737488351232) :
    Calls Try.prog 5 #[.slice a0 len0 cap0] w fun e w' => e = .returned (.bool true) ∧ Below w.heap.size w w' := by
  obtain ⟨l0, rfl, hr0, hm0, hw0, hc0⟩ := ReadsInt.ofRowC w0
  obtain ⟨k, h⟩ := P l0 hm0 y0 hw0
  refine (laws_FnDays.calls k _ _ l0 true w (Kd.C_of_reads (d := (0 : Int)) (h1 := fun _ => rfl) hr0) hc0 h).mono ?_
  rintro e w' ⟨rfl, hd⟩
  exact ⟨rfl, hd⟩

end Go.Proofs.Ytccnbjaaaaljoaa.P
