/- Contracts of impl.indexOf and of the searches that hand it a function value with a captured text. Conditions: the slice reads as told; the function value may make memory, but turns nothing that was there. -/
import Derived.Test.YtccnbjaaaaljoaaFnExactFindInterestH
namespace Go.Proofs.Ytccnbjaaaaljoaa.X
set_option linter.unusedVariables false
set_option linter.unusedSimpArgs false
open Go.RowKit Go.Shelf Go.Proofs.Ytccnbjaaaaljoaa.P Go.Proofs.YtccnbjaaaaljoaaW.PrintWords Go.Proofs.YtccnbjaaaaljoaaW.PrintLast Go.Proofs.YtccnbjaaaaljoaaW.PrintMore
attribute [local go_sem] max2_int min2_int max_two min_two max_three min_three max_four min_four

/-- What impl.indexOf makes of an index. -/
def idxV (r : Int) : Int × Int := if r < 0 then (0, 4) else (r, 0)
set_option maxHeartbeats 2000000 in
set_option maxRecDepth 100000 in
theorem indexOf_Interest (g : Nat) (lb : Array Value) (eg : ∀ args w, (callFunc g args).run Try.prog w = .ok (.enter g args) w) (p : S103 → Option Bool)
    (A0 : Option Addr) (c0 : Nat) (l0 : List S103) (r : Int) (w : World) (hp0 : Tells g lb encInterest p w) (hr0 : Kd.C k103 w A0 l0.length l0) (h : idxM p true l0 0 = some r) :
    Calls Try.prog 147 #[.slice A0 l0.length c0, .func (.func g) #[] lb] w fun e w' => e = .returned (.tuple #[.int .i64 (idxV r).1, .int .i64 (idxV r).2]) ∧ Below w.heap.size w w' := by
  have hcon := indexFunc_Interest g lb eg p A0 c0 l0 r w hp0 hr0 h
  clear hp0 hr0 h eg
  unfold idxV
  by_cases hr : r < 0
  · rw [if_pos hr]
    go_enter Try.func147, Try.ntmps147
    go_wp2_with (go_at_call 156; refine hcon.mono ?_; rintro e w' ⟨rfl, hb'⟩)
    go_ret2
    exact ⟨rfl, hb'⟩
  · rw [if_neg hr]
    go_enter Try.func147, Try.ntmps147
    go_wp2_with (go_at_call 156; refine hcon.mono ?_; rintro e w' ⟨rfl, hb'⟩)
    go_ret2
    exact ⟨rfl, hb'⟩
set_option maxHeartbeats 2000000 in
set_option maxRecDepth 100000 in
theorem find_Interest (A0 : Option Addr) (c0 : Nat) (l0 : List S103) (a : ByteArray) (r : Int) (w : World) (hr0 : Kd.C k103 w A0 l0.length l0) (h : idxM (fun x : S103 => some (decide (x.f0.toList = a.toList))) true l0 0 = some r) :
    Calls Try.prog 118 #[.slice A0 l0.length c0, .string a] w fun e w' => e = .returned (.tuple #[.int .i64 (idxV r).1, .int .i64 (idxV r).2]) ∧ Below w.heap.size w w' := by
  have eg2 : ∀ args w, (callFunc 148 args).run Try.prog w = .ok (.enter 148 args) w := enters_of Try.func148 (by kernel_rfl) rfl
  have hb0 : Below w.heap.size w (w.alloc (.cells #[.string a] 9)) := (Below.refl _ _).alloc (Nat.le_refl _) _
  have htell : Tells 148 #[.pointer (some ⟨w.heap.size, 0, none⟩)] encInterest (fun x => some (decide (x.f0.toList = a.toList))) (w.alloc (.cells #[.string a] 9)) := by
    intro W x b hb hpx
    obtain rfl := Option.some.inj hpx
    have hcell : W.cell? ⟨w.heap.size, 0, none⟩ = some (.string a) := (hb.cell (p := ⟨w.heap.size, 0, none⟩) (by simp)).trans (by simp)
    have hbw : Below W.heap.size W (W.alloc (.cells #[.string x.f0, .int .i64 x.f1, .string x.f2, .int .i64 x.f3, .int .i64 x.f4] 103)) := (Below.refl _ _).alloc (Nat.le_refl _) _
    have hcell2 : (W.alloc (.cells #[.string x.f0, .int .i64 x.f1, .string x.f2, .int .i64 x.f3, .int .i64 x.f4] 103)).cell? ⟨w.heap.size, 0, none⟩ = some (.string a) := (hbw.cell (World.block_lt_of_cell? W _ hcell)).trans hcell
    clear hpx hr0 h hcell
    show Calls Try.prog 148 #[.agg #[.string x.f0, .int .i64 x.f1, .string x.f2, .int .i64 x.f3, .int .i64 x.f4], .pointer (some ⟨w.heap.size, 0, none⟩)] W _
    by_cases c : x.f0.toList = a.toList
    · have c0 : (x.f0.toList == a.toList) = true := beq_iff_eq.mpr c
      rw [decide_eq_true c]
      clear c
      go_enter Try.func148, Try.ntmps148
      go_wp2
      go_ret
      exact ⟨rfl, hbw⟩
    · have c0 : (x.f0.toList == a.toList) = false := beq_eq_false_iff_ne.mpr c
      rw [decide_eq_false c]
      clear c
      go_enter Try.func148, Try.ntmps148
      go_wp2
      go_ret
      exact ⟨rfl, hbw⟩
  have hcon := indexOf_Interest 148 _ eg2 _ A0 c0 l0 r _ htell (hr0.imp_ hb0 (fun _ _ hk => k103.K_below hb0 hk)) h
  have hcon' := Aside0.mk hcon
  clear hcon htell hr0 h
  go_enter Try.func118, Try.ntmps118
  go_wp2_with (go_at_call 147; refine (hcon'.out).mono ?_; rintro e w' ⟨rfl, hb'⟩)
  go_ret2
  exact ⟨rfl, below_step hb0 hb'⟩
end Go.Proofs.Ytccnbjaaaaljoaa.X

