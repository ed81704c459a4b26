/- The contract of impl.decimal out of the shelf's contract of strconv.FormatInt: the decimal numeral of every int64. Condition: the table internal/strconv.uint64pow10 is laid in the memory as the program's text lays it. -/
import Derived.Test.YtgikpojgngoboaaDoorWMore
import Derived.Test.YtgikpojgngoboaaDoorProg
import Derived.Shelf.LaysM
import Derived.Shelf.Strconv.Itoa4
import Derived.Lib.SmallJoins
import Derived.StillTailTactics
namespace Go.Proofs.YtgikpojgngoboaaDoor.X
set_option linter.unusedVariables false
set_option linter.unusedSimpArgs false
open Go.RowKit Go.Shelf Go.Proofs.YtgikpojgngoboaaDoorW.PrintWords Go.Proofs.YtgikpojgngoboaaDoorW.PrintLast Go.Proofs.YtgikpojgngoboaaDoorW.PrintMore

/-- The table of the powers of ten reads as laid. -/
def Tab (w : World) : Prop := Lib.TabIs Tryd.prog w "internal/strconv.uint64pow10" .u64 Lib.pow10Tab
theorem tab_below {w w' : World} (hb : Below w.heap.size w w') (h : Tab w) : Tab w' := Go.Joins.tab_stays (by kernel_rfl : Tryd.prog.globalNamed "internal/strconv.uint64pow10" = some 0) h hb (Nat.le_refl _)
theorem below_grow_ (w : World) (k : Nat) (os : Array Obj) : Below w.heap.size w (Go.Sort.grow (w.drewN k) os) := by
  refine ⟨rfl, rfl, rfl, ?_, fun i hi => ?_⟩
  · simp [Go.Sort.grow, World.drewN]
  · simp only [Go.Sort.grow, World.drewN]
    rw [Array.getElem?_append_left hi]
/-- The numbers of the shelf's LaysM.n173 in this program. -/
def renFmt : Ren := ⟨fun n => if n = 129 then 27 else if n = 173 then 20 else if n = 246 then 21 else if n = 283 then 22 else if n = 284 then 23 else if n = 285 then 24 else if n = 286 then 25 else if n = 317 then 26 else if n = 318 then 28 else if n = 319 then 29 else if n = 320 then 30 else if n = 337 then 31 else if n = 338 then 32 else 0, fun n => if n = 0 then 0 else if n = 2 then 2 else if n = 3 then 3 else if n = 4 then 4 else if n = 5 then 5 else if n = 9 then 9 else if n = 20 then 20 else if n = 37 then 36 else if n = 46 then 52 else if n = 51 then 49 else if n = 53 then 41 else if n = 171 then 40 else if n = 173 then 44 else if n = 212 then 48 else if n = 213 then 50 else if n = 232 then 55 else if n = 233 then 56 else 0, fun n => if n = 17 then 0 else if n = 18 then 1 else if n = 19 then 2 else 0⟩
theorem laysFmt : LaysM.n173 Tryd.prog renFmt where
  mixed := by kernel_rfl
  f129 := Tryd.func27
  f173 := Tryd.func20
  f246 := Tryd.func21
  f283 := Tryd.func22
  f284 := Tryd.func23
  f285 := Tryd.func24
  f286 := Tryd.func25
  f317 := Tryd.func26
  f318 := Tryd.func28
  f319 := Tryd.func29
  f320 := Tryd.func30
  f337 := Tryd.func31
  f338 := Tryd.func32
  t0 := Tryd.underlying0
  a0 := Tryd.isAgg0
  z0 := Tryd.sizeOf0
  v0 := Tryd.zeroValue0
  t2 := Tryd.underlying2
  a2 := Tryd.isAgg2
  z2 := Tryd.sizeOf2
  v2 := Tryd.zeroValue2
  t3 := Tryd.underlying3
  a3 := Tryd.isAgg3
  z3 := Tryd.sizeOf3
  v3 := Tryd.zeroValue3
  t4 := Tryd.underlying4
  a4 := Tryd.isAgg4
  z4 := Tryd.sizeOf4
  v4 := Tryd.zeroValue4
  t5 := Tryd.underlying5
  a5 := Tryd.isAgg5
  z5 := Tryd.sizeOf5
  v5 := Tryd.zeroValue5
  t9 := Tryd.underlying9
  a9 := Tryd.isAgg9
  z9 := Tryd.sizeOf9
  v9 := Tryd.zeroValue9
  t20 := Tryd.underlying20
  a20 := Tryd.isAgg20
  z20 := Tryd.sizeOf20
  v20 := Tryd.zeroValue20
  t37 := Tryd.underlying36
  a37 := Tryd.isAgg36
  z37 := Tryd.sizeOf36
  v37 := Tryd.zeroValue36
  t46 := Tryd.underlying52
  a46 := Tryd.isAgg52
  z46 := Tryd.sizeOf52
  v46 := Tryd.zeroValue52
  t51 := Tryd.underlying49
  a51 := Tryd.isAgg49
  z51 := Tryd.sizeOf49
  v51 := Tryd.zeroValue49
  t53 := Tryd.underlying41
  a53 := Tryd.isAgg41
  z53 := Tryd.sizeOf41
  v53 := Tryd.zeroValue41
  t171 := Tryd.underlying40
  a171 := Tryd.isAgg40
  z171 := Tryd.sizeOf40
  v171 := Tryd.zeroValue40
  t173 := Tryd.underlying44
  a173 := Tryd.isAgg44
  z173 := Tryd.sizeOf44
  v173 := Tryd.zeroValue44
  t212 := Tryd.underlying48
  a212 := Tryd.isAgg48
  z212 := Tryd.sizeOf48
  v212 := Tryd.zeroValue48
  t213 := Tryd.underlying50
  a213 := Tryd.isAgg50
  z213 := Tryd.sizeOf50
  t232 := Tryd.underlying55
  a232 := Tryd.isAgg55
  z232 := Tryd.sizeOf55
  v232 := Tryd.zeroValue55
  t233 := Tryd.underlying56
  a233 := Tryd.isAgg56
  z233 := Tryd.sizeOf56
  v233 := Tryd.zeroValue56
  g17 := by kernel_rfl
  g18 := by kernel_rfl
  g19 := by kernel_rfl
  i0 := by kernel_rfl
  i2 := by kernel_rfl
  i3 := by kernel_rfl
  i4 := by kernel_rfl
  i5 := by kernel_rfl
  i9 := by kernel_rfl
  i20 := by kernel_rfl
  i37 := by kernel_rfl
  i46 := by kernel_rfl
  i51 := by kernel_rfl
  i53 := by kernel_rfl
  i171 := by kernel_rfl
  i173 := by kernel_rfl
  i212 := by kernel_rfl
  i232 := by kernel_rfl
  i233 := by kernel_rfl
  m17 := by kernel_rfl
  m18 := by kernel_rfl
  m19 := by kernel_rfl

/-- A number in decimal. -/
def decB (n : Int) : ByteArray := ⟨(Lib.itoa n).toArray⟩
set_option maxRecDepth 100000 in
theorem decimal_ (n : Int) (h0 : -9223372036854775808 ≤ n) (h1 : n ≤ 9223372036854775807) (w : World) (hT : Tab w) :
    Calls Tryd.prog 17 #[.int .i64 n] w fun e w' => e = .returned (.string (decB n)) ∧ Below w.heap.size w w' := by
  have hT' := Aside0.mk hT
  clear hT
  go_enter Tryd.func17, Tryd.ntmps17
  go_wp2_with (go_at_call 20; refine (Any.strconv_FormatInt_10 laysFmt n h0 h1 _ hT'.out).mono ?_; rintro e w' ⟨rfl, k, os, rfl⟩)
  go_ret
  exact ⟨rfl, below_grow_ _ _ _⟩
end Go.Proofs.YtgikpojgngoboaaDoor.X

