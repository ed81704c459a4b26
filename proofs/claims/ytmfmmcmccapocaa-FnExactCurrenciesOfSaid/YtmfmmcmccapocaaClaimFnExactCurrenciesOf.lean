/- The row of the law FnExactCurrenciesOf: whatever its arguments hold, it answers true and leaves them as they were. No condition beyond the row's own. -/
import Derived.Test.YtmfmmcmccapocaaFnExactCurrenciesOfL5
import Derived.Test.YtmfmmcmccapocaaFnExactCurrenciesOfP0
import Derived.Test.YtmfmmcmccapocaaFnExactCurrenciesOfP1
import Derived.Test.YtmfmmcmccapocaaFnExactCurrenciesOfP2
import Derived.Test.YtmfmmcmccapocaaFnExactCurrenciesOfP3
import Derived.Test.YtmfmmcmccapocaaFnExactCurrenciesOfP4
import Derived.Test.YtmfmmcmccapocaaFnExactCurrenciesOfEl
import Derived.Test.YtmfmmcmccapocaaRows
import Derived.Test.YtmfmmcmccapocaaR
import Derived.Test.YtmfmmcmccapocaaIni
import Derived.WalkKit
import Derived.ProofKit
import Derived.OpenShut
import Derived.ShutString
import Derived.ChangeOld
import Derived.Below
import Derived.SizedLaws
namespace Go.Proofs.Ytmfmmcmccapocaa.fnExactCurrenciesOf
open Go.ChangeShapes Go.WideShapes Go.ChangeAt Go.RowKit Go.Proofs.YtmfmmcmccapocaaW.PrintWords Go.Proofs.YtmfmmcmccapocaaW.PrintLast Go.Proofs.YtmfmmcmccapocaaW.PrintMore
open Go.ChangeMaps (open_string shut_string)
set_option linter.unusedVariables false
set_option linter.unusedSimpArgs false
theorem own : ownKnob Try.prog.godebug = none := by kernel_rfl
theorem laidOut : laidOutB Try.prog = true := by kernel_rfl
set_option maxRecDepth 100000 in
theorem lifted (os : Os) (started : os.Started) (H : Type) (enc : TypeId × Value → H) :
    ReturnsInHanded {} Try.checked os 3 .any (Rows.fnExactCurrenciesOfSpec.pre6 enc Try.prog Try.f3 Rows.fnExactCurrenciesOfRow.domain false) (Rows.fnExactCurrenciesOfSpec.post enc Try.prog Try.f3 false true false false) := by
  refine returnsInHanded_of_change_sized (C := Try.checked) own started (by kernel_rfl) Try.func3
    (ChangeSpec.witness6 (enc := enc) (C := Try.checked) false ⟨#[], #[.slice none 0 0], []⟩ 8 (by kernel_rfl) (by kernel_rfl) (by kernel_rfl) (by kernel_rfl)) ?_
  intro W base args ds gs before hval0 hW hcnd hsz0 _
  have hsz : (DataW.weightsEach Try.prog (Try.f3.params.toList ++ Rows.fnExactCurrenciesOfSpec.plain.varTypes Try.prog) (ds ++ gs)).all (· ≤ reachBytes) = true := hsz0
  have hval : ∀ (j : Nat) t v, Try.f3.params[j]? = some t → args[j]? = some v → Value.okWide Try.prog W .any base t v := hval0
  have hW' := hW
  obtain ⟨p, q, hA0, hV, rfl, hfz, hnd⟩ := hW
  have hA : DataW.TrodAll enc Try.prog W 0 (fun _ => true) true Try.f3.params.toList args.toList ds p := hA0
  rw [Try.params3] at hA hval hsz
  obtain ⟨v0, vs0, d0, ds0, p0, q0, hargs, rfl, rfl, h0, r0⟩ := trodAll_cons hA
  obtain ⟨rfl, rfl, rfl⟩ := trodAll_nil r0
  obtain rfl : args = #[v0] := by cases args; simp_all
  obtain ⟨rfl, rfl⟩ := trodVars_none hV
  have k0 := h0
  have lt0 : ∀ x ∈ p0, x.block < W.heap.size := by obtain ⟨m, hm⟩ := k0; exact DataW.trod_lt m _ _ _ hm
  obtain ⟨a0, len0, cap0, rfl⟩ := okWide_slice Try.underlying22 (hval 0 22 v0 rfl rfl)
  obtain ⟨l0, rfl, hr0, hc0, _, hq0, hs0⟩ := R.row_of_trod (k := P.k52) El.elem52 Try.underlying22 (by kernel_rfl) h0
  have hb0 : l0.length * 40 ≤ 140737488351232 := R.row_sized hsz (j := 0) (t := 22) rfl rfl Try.underlying22 (by kernel_rfl) hs0
  clear hA0 hval0 hsz0 hsz
  obtain ⟨k, h⟩ := Pure.FnExactCurrenciesOf' l0 hb0 hq0
  refine (P.laws_FnExactCurrenciesOf.calls k _ _ l0 true W hr0 hc0 h).mono fun e W' ⟨he, bel⟩ => ?_
  subst he
  exact ⟨_, rfl, _, _, _, [], _, [], hW', trodAll_mk1 (shut_bool Try.underlying4 _), (trodAll_cons_mk (Below.trod laidOut (by kernel_rfl) (of_decide_eq_true (by kernel_rfl)) k0 bel lt0) trodAll_mk0), rfl, bel.frame _, fun h => by cases h⟩
theorem closed : joinedFacts Try.prog 3 Try.f3 Rows.fnExactCurrenciesOfSpec Rows.fnExactCurrenciesOfRow = true := by
  unfold joinedFacts; rw [Ini.may, Ini.lifts, Ini.make]; kernel_rfl
theorem over : Rows.fnExactCurrenciesOfRow.holds Try.pinned (OpenSpec.ofChange Rows.fnExactCurrenciesOfSpec) :=
  OpenClaim.holds_of_wide 3 Try.f3 rfl rfl rfl rfl rfl rfl rfl ⟨rfl, rfl, rfl, rfl, rfl⟩ rfl rfl rfl rfl rfl (by kernel_rfl) Try.func3 closed
    (of_decide_eq_true (by kernel_rfl)) (by unfold Func.isWrapper; first | (rw [if_pos (by decide +kernel)]; kernel_rfl) | (rw [if_neg (by decide +kernel)]; exact ⟨rfl, rfl⟩))
    (fun os started H enc _ => lifted os started H enc)
theorem proved : Rows.FnExactCurrenciesOfSaid := over
end Go.Proofs.Ytmfmmcmccapocaa.fnExactCurrenciesOf
namespace Go.Proofs.Ytmfmmcmccapocaa
/-- The row, under a short name, for the claim. -/
theorem fnExactCurrenciesOf_holds : Rows.FnExactCurrenciesOfSaid := fnExactCurrenciesOf.proved
end Go.Proofs.Ytmfmmcmccapocaa
