/- Arguments of a law, opened: a slice that can be read as data reads as a list, element by element. Conditions: that the elements' type reads as told, and that the slice can be read. -/
import Derived.Test.YtgikpojgngoboaaDoorWMore
import Derived.Test.YtgikpojgngoboaaDoorWSized
import Derived.Deep.Slices
import Derived.ProofKit
namespace Go.Proofs.YtgikpojgngoboaaDoor.R
set_option linter.unusedVariables false
set_option linter.unusedSimpArgs false
open Go.RowKit Go.ChangeShapes Go.WideShapes Go.Deep Go.Proofs.YtgikpojgngoboaaDoorW.PrintWords Go.Proofs.YtgikpojgngoboaaDoorW.PrintLast Go.Proofs.YtgikpojgngoboaaDoorW.PrintMore

section
variable {H : Type} {enc : TypeId × Value → H} {P : Program} {W : World}

/-- A slice, read: its elements as a list; its bytes within the reach. -/
theorem row_of_trod {α : Type} {k : Kd α} {Q : α → Prop} {t e : TypeId} {a : Option Addr} {len cap : Nat} {d : DataW H} {p : List MemPlace}
    (he : ∀ n cs y, DataW.trod enc P W 0 (fun _ => true) true n e cs = some y → ∃ x : α, k.K W x cs ∧ Q x) (hu : P.underlying t = some (.slice e)) (hc : P.cellsOf e = k.sz)
    (h : DataW.Trod enc P W 0 (fun _ => true) true t (.slice a len cap) d p) :
    ∃ l : List α, l.length = len ∧ k.C W a l.length l ∧ l.length ≤ cap ∧ cap ≤ maxLen ∧ (∀ x ∈ l, Q x) ∧ (l = [] ∨ ∃ es sp : List (DataW H), d = .slice es sp ∧ es.length = l.length) := by
  obtain ⟨fuel, hf⟩ := h
  rcases open_slice hu hf with ⟨hcs, _⟩ | ⟨x, l, c, m, n, D, Pl, hcs, _, hl, hm, hmm, hd, hi⟩
  · simp [Value.cells] at hcs
    obtain ⟨rfl, rfl, rfl⟩ := hcs
    exact ⟨[], rfl, ⟨rfl, Nat.zero_le _, fun h => absurd h (Nat.lt_irrefl _)⟩, Nat.le_refl _, Nat.zero_le _, (fun x hx => by cases hx), .inl rfl⟩
  · simp [Value.cells] at hcs
    obtain ⟨rfl, rfl, rfl⟩ := hcs
    have hm' : m = cap := by simpa using hmm
    subst hm'
    by_cases hz : len = 0
    · subst hz
      exact ⟨[], rfl, ⟨rfl, Nat.zero_le _, fun h => absurd h (Nat.lt_irrefl _)⟩, hl, hm, (fun x hx => by cases hx), .inl rfl⟩
    have hex : ∀ i, i < m → ∃ y : α, ∃ cs', W.cells? 0 (x.add (i * P.cellsOf e)) (P.cellsOf e) = some cs' ∧ k.K W y cs' ∧ Q y := fun i hi' => by
      obtain ⟨cs', h1, h2⟩ := hi i hi'
      obtain ⟨y, h3, h4⟩ := he _ _ _ h2
      exact ⟨y, cs', h1, h3, h4⟩
    obtain ⟨y0, _⟩ := hex 0 (by omega)
    haveI : Inhabited α := ⟨y0⟩
    obtain ⟨X, hX⟩ := choose_lt hex
    refine ⟨(List.range len).map X, by simp, ⟨rfl, by unfold maxLen at hm; simp; omega, fun _ => ⟨x, rfl, fun j q hj => ?_⟩⟩, by simpa using hl, hm, fun q hq => ?_, .inr ⟨_, _, (Prod.mk.inj hd).1, by simp⟩⟩
    · have hjl : j < len := by have := (List.getElem?_eq_some_iff.1 hj).1; simpa using this
      obtain ⟨cs', h1, h2, h3⟩ := hX j (by omega)
      have hq : X j = q := by simpa [List.getElem?_map, List.getElem?_range hjl] using hj
      subst hq
      obtain ⟨_, h5, h6⟩ := World.cells?_some h1
      refine ⟨cs', k.K_len h2, h2, fun i u hiu => ?_⟩
      have hil : i < cs'.length := (List.getElem?_eq_some_iff.1 hiu).1
      have h7 := h6 i (by omega)
      rw [hiu, hc, Go.Deep.add_add] at h7
      exact h7
    · obtain ⟨j, hj, rfl⟩ := List.mem_map.1 hq
      exact (hX j (by have := List.mem_range.1 hj; omega)).choose_spec.2.2

/-- Its bytes lie within the reach. -/
theorem row_sized {α : Type} {l : List α} {t e : TypeId} {d : DataW H} {ts : List TypeId} {ds : List (DataW H)} {j B : Nat} (hsz : (DataW.weightsEach P ts ds).all (· ≤ reachBytes) = true) (ht : ts[j]? = some t) (hd : ds[j]? = some d)
    (hu : P.underlying t = some (.slice e)) (hB : P.bytesOf e = B) (h : l = [] ∨ ∃ es sp : List (DataW H), d = .slice es sp ∧ es.length = l.length) : l.length * B ≤ 140737488351232 := by
  rcases h with rfl | ⟨es, sp, rfl, h2⟩
  · simp
  · have z := sized_slice hsz ht hd hu
    rw [hB] at z
    refine Nat.le_trans (Nat.mul_le_mul_right _ ?_) z
    omega

theorem elem_int {k : IntKind} {e : TypeId} (hu : P.underlying e = some (.int k)) (n : Nat) (cs : List Value) (y : DataW H × List MemPlace) (h : DataW.trod enc P W 0 (fun _ => true) true n e cs = some y) :
    ∃ x : Int, (Kd.int k).K W x cs ∧ (Lit.int k x).wf = true := by
  obtain ⟨x, rfl, _, hw⟩ := DataW.trod_int hu h
  exact ⟨x, rfl, hw⟩
theorem elem_string {e : TypeId} (hu : P.underlying e = some .string) (n : Nat) (cs : List Value) (y : DataW H × List MemPlace) (h : DataW.trod enc P W 0 (fun _ => true) true n e cs = some y) :
    ∃ x : ByteArray, Kd.string.K W x cs ∧ x.size ≤ maxLen := by
  obtain ⟨x, rfl, _, hw⟩ := DataW.trod_string hu h
  exact ⟨x, rfl, hw⟩
/-- A struct by value. -/
theorem agg_of_trod {α : Type} {k : Kd α} {Q : α → Prop} {t : TypeId} {cs : Array Value} {d : DataW H} {p : List MemPlace}
    (he : ∀ n cs y, DataW.trod enc P W 0 (fun _ => true) true n t cs = some y → ∃ x : α, k.K W x cs ∧ Q x)
    (h : DataW.Trod enc P W 0 (fun _ => true) true t (.agg cs) d p) : ∃ x : α, k.K W x cs.toList ∧ Q x := by
  obtain ⟨fuel, hf⟩ := h
  exact he _ _ _ hf
end
end Go.Proofs.YtgikpojgngoboaaDoor.R
