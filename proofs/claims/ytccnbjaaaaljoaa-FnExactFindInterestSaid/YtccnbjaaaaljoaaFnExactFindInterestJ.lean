/- The contract of impl.IsManifest, which counts kinds in an array. Conditions: the slice reads as told. -/
import Derived.Test.YtccnbjaaaaljoaaFnExactFindInterestI
namespace Go.Proofs.Ytccnbjaaaaljoaa.X
set_option linter.unusedVariables false
set_option linter.unusedSimpArgs false
open Go.RowKit Go.Shelf Go.Proofs.Ytccnbjaaaaljoaa.P Go.Proofs.YtccnbjaaaaljoaaW.PrintWords Go.Proofs.YtccnbjaaaaljoaaW.PrintLast Go.Proofs.YtccnbjaaaaljoaaW.PrintMore
attribute [local go_sem] max2_int min2_int max_two min_two max_three min_three max_four min_four
/-- The kinds are counted, as long as each interest is as it may be. -/
def cntM (p : S103 → Option Bool) : List S103 → Int → Int → Int → Int → Option (Option (Int × Int × Int × Int))
  | [], a, b, c, d => some (some (a, b, c, d))
  | x :: l, a, b, c, d => (p x).bind fun t => if t = true then (if x.f1 = 0 then cntM p l (wrap64 (a + 1)) b c d else if x.f1 = 1 then cntM p l a (wrap64 (b + 1)) c d else if x.f1 = 2 then cntM p l a b (wrap64 (c + 1)) d else if x.f1 = 3 then cntM p l a b c (wrap64 (d + 1)) else none) else some none
theorem cntM_leO {p q : S103 → Option Bool} (h : ∀ x, LeO (p x) (q x)) : ∀ (l : List S103) (a b c d : Int), LeO (cntM p l a b c d) (cntM q l a b c d)
  | [], _, _, _, _ => LeO.refl _
  | x :: l, a, b, c, d => LeO.bind (h x) fun _ => LeO.ite (LeO.ite (cntM_leO h l _ _ _ _) (LeO.ite (cntM_leO h l _ _ _ _) (LeO.ite (cntM_leO h l _ _ _ _) (LeO.ite (cntM_leO h l _ _ _ _) (LeO.refl _))))) (LeO.refl _)
def manF (q : S103 → S103 → Option Int) (l : List S103) : Option (Int × Int × Int × Int) → Option Bool
  | none => some false
  | some (a, b, c, _) => if a = 1 then (if b ≤ 1 then (if c ≤ 1 then (if (l.length : Int) ≤ 10 then risingM q l else some false) else some false) else some false) else some false
set_option maxHeartbeats 4000000 in
set_option maxRecDepth 100000 in
theorem manifest_ (p : S103 → Option Bool) (q : S103 → S103 → Option Int)
    (A0 : Option Addr) (c0 : Nat) (l0 : List S103) (r : Bool) (w : World)
    (hp0 : ∀ (W : World) (x : S103) (b : Bool), p x = some b → Calls Try.prog 113 #[.agg #[.string x.f0, .int .i64 x.f1, .string x.f2, .int .i64 x.f3, .int .i64 x.f4]] W fun e w' => e = .returned (.bool b) ∧ Below W.heap.size W w')
    (hq0 : ∀ (W : World) (b : Bool), Below w.heap.size w W → risingM q l0 = some b → Calls Try.prog 114 #[.slice A0 l0.length c0, .func (.func 115) #[] #[]] W fun e w' => e = .returned (.bool b) ∧ Below W.heap.size W w')
    (hr0 : Kd.C k103 w A0 l0.length l0) (h : (cntM p l0 0 0 0 0).bind (manF q l0) = some r) :
    Calls Try.prog 51 #[.slice A0 l0.length c0] w fun e w' => e = .returned (.bool r) ∧ Below w.heap.size w w' := by
  have hu103 := Try.underlying103
  have HR0 := Aside0.mk hr0
  have hlen : l0.length ≤ 9223372036854775807 := hr0.2.1
  have HP := Aside0.mk hp0
  have HQ := Aside0.mk hq0
  have H : Aside0 ((cntM p (l0.drop (0 : Int).toNat) 0 0 0 0).bind (manF q l0) = some r) := ⟨by simpa using h⟩
  clear hr0 hp0 hq0 h
  have HB := Aside0.mk (Below.refl w.heap.size w)
  go_enter Try.func51, Try.ntmps51
  go_wp2_with ((with_reducible refine gate_dst (N := 3) rfl ?_); refine box_event ?hg (N := 3) ?hd (cs := #[.int .i64 0, .int .i64 0, .int .i64 0, .int .i64 0]) (t := 105) ?hr ?_; (case hd => rfl); (case hg => rfl); (case hr => first | (go_simp; done) | (go_simp; rfl)); intro ga hg wa hbox hb; have n0_ := Aside0.mk (below_step (by repeat (first | (with_reducible first | exact HB.out | apply below_alloc | apply pw_below_drewN | apply below_drew1) | exact HB.out)) hb); have n1_ := Aside0.mk hbox; have n2_ := Aside0.mk ((by rw [hg]; exact (below_size (by repeat (first | (with_reducible first | exact HB.out | apply below_alloc | apply pw_below_drewN | apply below_drew1) | exact HB.out))) : w.heap.size ≤ ga)); clear HB; have HB := n0_; have BA := n1_; have GA := n2_; clear n0_ n1_ n2_ hb hbox hg; have hcz0 : wa.cell? ⟨ga, 0, none⟩ = some (.int .i64 0) := (blk_cell BA.out 0).trans rfl; have hcz1 : wa.cell? ⟨ga, 1, none⟩ = some (.int .i64 0) := (blk_cell BA.out 1).trans rfl; have hcz2 : wa.cell? ⟨ga, 2, none⟩ = some (.int .i64 0) := (blk_cell BA.out 2).trans rfl; have hcz3 : wa.cell? ⟨ga, 3, none⟩ = some (.int .i64 0) := (blk_cell BA.out 3).trans rfl; have hfz0 := blk_frozen BA.out 0; have hfz1 := blk_frozen BA.out 1; have hfz2 := blk_frozen BA.out 2; have hfz3 := blk_frozen BA.out 3)
  go_loopg [10] l0.length (fun kq v10 w' => ∃ (i a b c d : Int), v10 = .int .i64 i ∧ 0 ≤ i ∧ i ≤ (l0.length : Int) ∧ (l0.length : Int) - i ≤ kq ∧ Aside0 ((cntM p (l0.drop i.toNat) a b c d).bind (manF q l0) = some r) ∧ Aside0 (w'.heap[ga]? = some (.cells #[.int .i64 a, .int .i64 b, .int .i64 c, .int .i64 d] 105 (0, 0))) ∧ Aside0 (Below w.heap.size w w'))
  case atStart => exact ⟨0, 0, 0, 0, 0, rfl, by omega, by omega, by omega, H, ⟨by first | exact BA.out | exact (blk_put (cs := #[.int .i64 0, .int .i64 0, .int .i64 0, .int .i64 0]) (blk_put (cs := #[.int .i64 0, .int .i64 0, .int .i64 0, .int .i64 0]) (blk_put (cs := #[.int .i64 0, .int .i64 0, .int .i64 0, .int .i64 0]) (blk_put (cs := #[.int .i64 0, .int .i64 0, .int .i64 0, .int .i64 0]) BA.out 0 (.int .i64 0) (cs' := #[.int .i64 0, .int .i64 0, .int .i64 0, .int .i64 0]) rfl) 1 (.int .i64 0) (cs' := #[.int .i64 0, .int .i64 0, .int .i64 0, .int .i64 0]) rfl) 2 (.int .i64 0) (cs' := #[.int .i64 0, .int .i64 0, .int .i64 0, .int .i64 0]) rfl) 3 (.int .i64 0) (cs' := #[.int .i64 0, .int .i64 0, .int .i64 0, .int .i64 0]) rfl)⟩, ⟨(by repeat (first | (with_reducible first | exact HB.out | apply below_alloc | apply pw_below_drewN | apply below_drew1 | refine below_set ?_ GA.out) | exact HB.out))⟩⟩
  case round =>
    clear H
    try clear hcz0
    try clear hcz1
    try clear hcz2
    try clear hcz3
    try clear hfz0
    try clear hfz1
    try clear hfz2
    try clear hfz3
    clear BA HB
    obtain ⟨i, a, b, c, d, rfl, h0, h1, h2, HA, BA, HB⟩ := hrel
    by_cases hlt : i < (l0.length : Int)
    · have hA := HA.out
      have hd : l0.drop i.toNat = rd_T103 l0 i :: l0.drop (i + 1).toNat := by
        unfold rd_T103
        rw [List.getD_eq_getElem?_getD, List.getElem?_eq_getElem (show i.toNat < l0.length by omega), show (i + 1).toNat = i.toNat + 1 by omega]
        exact List.drop_eq_getElem_cons (show i.toNat < l0.length by omega)
      rw [hd] at hA
      simp only [cntM] at hA
      clear HA hd
      obtain ⟨ad, rfl, hx0, hx1, hx2, hx3, hx4⟩ := at_T103 HR0.out i h0 hlt
      replace hx0 := (HB.out.cell (World.block_lt_of_cell? _ _ hx0)).trans hx0
      replace hx1 := (HB.out.cell (World.block_lt_of_cell? _ _ hx1)).trans hx1
      replace hx2 := (HB.out.cell (World.block_lt_of_cell? _ _ hx2)).trans hx2
      replace hx3 := (HB.out.cell (World.block_lt_of_cell? _ _ hx3)).trans hx3
      replace hx4 := (HB.out.cell (World.block_lt_of_cell? _ _ hx4)).trans hx4
      generalize rd_T103 l0 i = y at hx0 hx1 hx2 hx3 hx4 hA
      cases hpy : p y with
      | none => rw [hpy] at hA; cases hA
      | some t =>
        rw [hpy, Option.bind_some] at hA
        have hcall := Aside0.mk (fun W => HP.out W y t hpy)
        cases t with
        | false =>
          rw [if_neg (by decide), Option.bind_some] at hA
          simp only [manF] at hA
          obtain rfl := Option.some.inj hA
          clear hA hpy
          go_wp2_with (first | ((with_reducible refine gate_dst (N := 5) rfl ?_); refine box_event ?hg (N := 5) ?hd (cs := #[.string (⟨#[]⟩ : ByteArray), .int .i64 0, .string (⟨#[]⟩ : ByteArray), .int .i64 0, .int .i64 0]) (t := 103) ?hr ?_; (case hd => rfl); (case hg => rfl); (case hr => first | (go_simp; done) | (go_simp; rfl)); intro gx hg wx hbox hb; have n4_ := Aside0.mk (blk_below BA.out hb); have n5_ := Aside0.mk ((by rw [hg]; exact Nat.ne_of_lt (blk_lt BA.out)) : ga ≠ gx); have n1_ := Aside0.mk (below_step (by repeat (first | (with_reducible first | exact HB.out | apply below_alloc | apply pw_below_drewN | apply below_drew1) | exact HB.out)) hb); have n2_ := Aside0.mk hbox; have n3_ := Aside0.mk ((by rw [hg]; exact (below_size (by repeat (first | (with_reducible first | exact HB.out | apply below_alloc | apply pw_below_drewN | apply below_drew1) | exact HB.out)))) : w.heap.size ≤ gx); clear BA HB; have BA := n4_; have NX := n5_; have HB := n1_; have BX := n2_; have GX := n3_; clear n1_ n2_ n3_ n4_ n5_ hb hbox hg; have hcz0 : wx.cell? ⟨gx, 0, none⟩ = some (.string (⟨#[]⟩ : ByteArray)) := (blk_cell BX.out 0).trans rfl; have hfz0 := blk_frozen BX.out 0; have hcz1 : wx.cell? ⟨gx, 1, none⟩ = some (.int .i64 0) := (blk_cell BX.out 1).trans rfl; have hfz1 := blk_frozen BX.out 1; have hcz2 : wx.cell? ⟨gx, 2, none⟩ = some (.string (⟨#[]⟩ : ByteArray)) := (blk_cell BX.out 2).trans rfl; have hfz2 := blk_frozen BX.out 2; have hcz3 : wx.cell? ⟨gx, 3, none⟩ = some (.int .i64 0) := (blk_cell BX.out 3).trans rfl; have hfz3 := blk_frozen BX.out 3; have hcz4 : wx.cell? ⟨gx, 4, none⟩ = some (.int .i64 0) := (blk_cell BX.out 4).trans rfl; have hfz4 := blk_frozen BX.out 4) | (go_at_call 113; (with_reducible refine (hcall.out _).mono ?_); rintro e w5 ⟨rfl, hb⟩; have n0_ := Aside0.mk (blk_below (blk_far (p := ⟨gx, 4, none⟩) (blk_far (p := ⟨gx, 3, none⟩) (blk_far (p := ⟨gx, 2, none⟩) (blk_far (p := ⟨gx, 1, none⟩) (blk_far (p := ⟨gx, 0, none⟩) BA.out NX.out (.string y.f0)) NX.out (.int .i64 y.f1)) NX.out (.string y.f2)) NX.out (.int .i64 y.f3)) NX.out (.int .i64 y.f4)) hb); have n1_ := Aside0.mk (below_step (by repeat (first | (with_reducible first | exact HB.out | apply below_alloc | apply pw_below_drewN | apply below_drew1 | refine below_set ?_ GX.out | refine below_set ?_ GA.out) | exact HB.out)) hb); have n2_ := Aside0.mk (blk_below (blk_put (cs := #[.string y.f0, .int .i64 y.f1, .string y.f2, .int .i64 y.f3, .int .i64 0]) (blk_put (cs := #[.string y.f0, .int .i64 y.f1, .string y.f2, .int .i64 0, .int .i64 0]) (blk_put (cs := #[.string y.f0, .int .i64 y.f1, .string (⟨#[]⟩ : ByteArray), .int .i64 0, .int .i64 0]) (blk_put (cs := #[.string y.f0, .int .i64 0, .string (⟨#[]⟩ : ByteArray), .int .i64 0, .int .i64 0]) (blk_put (cs := #[.string (⟨#[]⟩ : ByteArray), .int .i64 0, .string (⟨#[]⟩ : ByteArray), .int .i64 0, .int .i64 0]) BX.out 0 (.string y.f0) (cs' := #[.string y.f0, .int .i64 0, .string (⟨#[]⟩ : ByteArray), .int .i64 0, .int .i64 0]) rfl) 1 (.int .i64 y.f1) (cs' := #[.string y.f0, .int .i64 y.f1, .string (⟨#[]⟩ : ByteArray), .int .i64 0, .int .i64 0]) rfl) 2 (.string y.f2) (cs' := #[.string y.f0, .int .i64 y.f1, .string y.f2, .int .i64 0, .int .i64 0]) rfl) 3 (.int .i64 y.f3) (cs' := #[.string y.f0, .int .i64 y.f1, .string y.f2, .int .i64 y.f3, .int .i64 0]) rfl) 4 (.int .i64 y.f4) (cs' := #[.string y.f0, .int .i64 y.f1, .string y.f2, .int .i64 y.f3, .int .i64 y.f4]) rfl) hb); clear BA HB BX hb; have BA := n0_; have HB := n1_; have BX := n2_; clear n0_ n1_ n2_))
          go_ret
          exact ⟨rfl, HB.out⟩
        | true =>
          rw [if_pos rfl] at hA
          clear hpy
          by_cases k0 : y.f1 = 0
          · rw [if_pos k0] at hA
            have hA' := Aside0.mk hA
            have K0 := Aside0.mk k0
            clear hA k0
            go_wp2_with (first | ((with_reducible refine gate_dst (N := 5) rfl ?_); refine box_event ?hg (N := 5) ?hd (cs := #[.string (⟨#[]⟩ : ByteArray), .int .i64 0, .string (⟨#[]⟩ : ByteArray), .int .i64 0, .int .i64 0]) (t := 103) ?hr ?_; (case hd => rfl); (case hg => rfl); (case hr => first | (go_simp; done) | (go_simp; rfl)); intro gx hg wx hbox hb; have n4_ := Aside0.mk (blk_below BA.out hb); have n5_ := Aside0.mk ((by rw [hg]; exact Nat.ne_of_lt (blk_lt BA.out)) : ga ≠ gx); have n1_ := Aside0.mk (below_step (by repeat (first | (with_reducible first | exact HB.out | apply below_alloc | apply pw_below_drewN | apply below_drew1) | exact HB.out)) hb); have n2_ := Aside0.mk hbox; have n3_ := Aside0.mk ((by rw [hg]; exact (below_size (by repeat (first | (with_reducible first | exact HB.out | apply below_alloc | apply pw_below_drewN | apply below_drew1) | exact HB.out)))) : w.heap.size ≤ gx); clear BA HB; have BA := n4_; have NX := n5_; have HB := n1_; have BX := n2_; have GX := n3_; clear n1_ n2_ n3_ n4_ n5_ hb hbox hg; have hcz0 : wx.cell? ⟨gx, 0, none⟩ = some (.string (⟨#[]⟩ : ByteArray)) := (blk_cell BX.out 0).trans rfl; have hfz0 := blk_frozen BX.out 0; have hcz1 : wx.cell? ⟨gx, 1, none⟩ = some (.int .i64 0) := (blk_cell BX.out 1).trans rfl; have hfz1 := blk_frozen BX.out 1; have hcz2 : wx.cell? ⟨gx, 2, none⟩ = some (.string (⟨#[]⟩ : ByteArray)) := (blk_cell BX.out 2).trans rfl; have hfz2 := blk_frozen BX.out 2; have hcz3 : wx.cell? ⟨gx, 3, none⟩ = some (.int .i64 0) := (blk_cell BX.out 3).trans rfl; have hfz3 := blk_frozen BX.out 3; have hcz4 : wx.cell? ⟨gx, 4, none⟩ = some (.int .i64 0) := (blk_cell BX.out 4).trans rfl; have hfz4 := blk_frozen BX.out 4) | (go_at_call 113; (with_reducible refine (hcall.out _).mono ?_); rintro e w5 ⟨rfl, hb⟩; have n0_ := Aside0.mk (blk_below (blk_far (p := ⟨gx, 4, none⟩) (blk_far (p := ⟨gx, 3, none⟩) (blk_far (p := ⟨gx, 2, none⟩) (blk_far (p := ⟨gx, 1, none⟩) (blk_far (p := ⟨gx, 0, none⟩) BA.out NX.out (.string y.f0)) NX.out (.int .i64 y.f1)) NX.out (.string y.f2)) NX.out (.int .i64 y.f3)) NX.out (.int .i64 y.f4)) hb); have n1_ := Aside0.mk (below_step (by repeat (first | (with_reducible first | exact HB.out | apply below_alloc | apply pw_below_drewN | apply below_drew1 | refine below_set ?_ GX.out | refine below_set ?_ GA.out) | exact HB.out)) hb); have n2_ := Aside0.mk (blk_below (blk_put (cs := #[.string y.f0, .int .i64 y.f1, .string y.f2, .int .i64 y.f3, .int .i64 0]) (blk_put (cs := #[.string y.f0, .int .i64 y.f1, .string y.f2, .int .i64 0, .int .i64 0]) (blk_put (cs := #[.string y.f0, .int .i64 y.f1, .string (⟨#[]⟩ : ByteArray), .int .i64 0, .int .i64 0]) (blk_put (cs := #[.string y.f0, .int .i64 0, .string (⟨#[]⟩ : ByteArray), .int .i64 0, .int .i64 0]) (blk_put (cs := #[.string (⟨#[]⟩ : ByteArray), .int .i64 0, .string (⟨#[]⟩ : ByteArray), .int .i64 0, .int .i64 0]) BX.out 0 (.string y.f0) (cs' := #[.string y.f0, .int .i64 0, .string (⟨#[]⟩ : ByteArray), .int .i64 0, .int .i64 0]) rfl) 1 (.int .i64 y.f1) (cs' := #[.string y.f0, .int .i64 y.f1, .string (⟨#[]⟩ : ByteArray), .int .i64 0, .int .i64 0]) rfl) 2 (.string y.f2) (cs' := #[.string y.f0, .int .i64 y.f1, .string y.f2, .int .i64 0, .int .i64 0]) rfl) 3 (.int .i64 y.f3) (cs' := #[.string y.f0, .int .i64 y.f1, .string y.f2, .int .i64 y.f3, .int .i64 0]) rfl) 4 (.int .i64 y.f4) (cs' := #[.string y.f0, .int .i64 y.f1, .string y.f2, .int .i64 y.f3, .int .i64 y.f4]) rfl) hb); clear BA HB BX hb; have BA := n0_; have HB := n1_; have BX := n2_; clear n0_ n1_ n2_; have hcy1 : w5.cell? ⟨gx, 1, none⟩ = some (.int .i64 0) := (blk_cell BX.out 1).trans (by rw [K0.out]; rfl); have hcak : w5.cell? ⟨ga, 0, none⟩ = some (.int .i64 a) := (blk_cell BA.out 0).trans rfl; have hfak := blk_frozen BA.out 0))
            go_roundg (gk - 1)
            case measure => omega
            case rel => exact ⟨i + 1, (wrap64 (a + 1)), b, c, d, by go_num, by omega, by omega, by omega, hA', ⟨by (with_reducible repeat (first | refine blk_drewN ?_ _ | refine blk_drew ?_ | refine blk_alloc ?_ _)); exact blk_put BA.out 0 _ (by first | rfl | simp)⟩, ⟨(by repeat (first | (with_reducible first | exact HB.out | apply below_alloc | apply pw_below_drewN | apply below_drew1 | refine below_set ?_ GX.out | refine below_set ?_ GA.out) | exact HB.out))⟩⟩
          rw [if_neg k0] at hA
          clear k0
          by_cases k1 : y.f1 = 1
          · rw [if_pos k1] at hA
            have hA' := Aside0.mk hA
            have K1 := Aside0.mk k1
            clear hA k1
            go_wp2_with (first | ((with_reducible refine gate_dst (N := 5) rfl ?_); refine box_event ?hg (N := 5) ?hd (cs := #[.string (⟨#[]⟩ : ByteArray), .int .i64 0, .string (⟨#[]⟩ : ByteArray), .int .i64 0, .int .i64 0]) (t := 103) ?hr ?_; (case hd => rfl); (case hg => rfl); (case hr => first | (go_simp; done) | (go_simp; rfl)); intro gx hg wx hbox hb; have n4_ := Aside0.mk (blk_below BA.out hb); have n5_ := Aside0.mk ((by rw [hg]; exact Nat.ne_of_lt (blk_lt BA.out)) : ga ≠ gx); have n1_ := Aside0.mk (below_step (by repeat (first | (with_reducible first | exact HB.out | apply below_alloc | apply pw_below_drewN | apply below_drew1) | exact HB.out)) hb); have n2_ := Aside0.mk hbox; have n3_ := Aside0.mk ((by rw [hg]; exact (below_size (by repeat (first | (with_reducible first | exact HB.out | apply below_alloc | apply pw_below_drewN | apply below_drew1) | exact HB.out)))) : w.heap.size ≤ gx); clear BA HB; have BA := n4_; have NX := n5_; have HB := n1_; have BX := n2_; have GX := n3_; clear n1_ n2_ n3_ n4_ n5_ hb hbox hg; have hcz0 : wx.cell? ⟨gx, 0, none⟩ = some (.string (⟨#[]⟩ : ByteArray)) := (blk_cell BX.out 0).trans rfl; have hfz0 := blk_frozen BX.out 0; have hcz1 : wx.cell? ⟨gx, 1, none⟩ = some (.int .i64 0) := (blk_cell BX.out 1).trans rfl; have hfz1 := blk_frozen BX.out 1; have hcz2 : wx.cell? ⟨gx, 2, none⟩ = some (.string (⟨#[]⟩ : ByteArray)) := (blk_cell BX.out 2).trans rfl; have hfz2 := blk_frozen BX.out 2; have hcz3 : wx.cell? ⟨gx, 3, none⟩ = some (.int .i64 0) := (blk_cell BX.out 3).trans rfl; have hfz3 := blk_frozen BX.out 3; have hcz4 : wx.cell? ⟨gx, 4, none⟩ = some (.int .i64 0) := (blk_cell BX.out 4).trans rfl; have hfz4 := blk_frozen BX.out 4) | (go_at_call 113; (with_reducible refine (hcall.out _).mono ?_); rintro e w5 ⟨rfl, hb⟩; have n0_ := Aside0.mk (blk_below (blk_far (p := ⟨gx, 4, none⟩) (blk_far (p := ⟨gx, 3, none⟩) (blk_far (p := ⟨gx, 2, none⟩) (blk_far (p := ⟨gx, 1, none⟩) (blk_far (p := ⟨gx, 0, none⟩) BA.out NX.out (.string y.f0)) NX.out (.int .i64 y.f1)) NX.out (.string y.f2)) NX.out (.int .i64 y.f3)) NX.out (.int .i64 y.f4)) hb); have n1_ := Aside0.mk (below_step (by repeat (first | (with_reducible first | exact HB.out | apply below_alloc | apply pw_below_drewN | apply below_drew1 | refine below_set ?_ GX.out | refine below_set ?_ GA.out) | exact HB.out)) hb); have n2_ := Aside0.mk (blk_below (blk_put (cs := #[.string y.f0, .int .i64 y.f1, .string y.f2, .int .i64 y.f3, .int .i64 0]) (blk_put (cs := #[.string y.f0, .int .i64 y.f1, .string y.f2, .int .i64 0, .int .i64 0]) (blk_put (cs := #[.string y.f0, .int .i64 y.f1, .string (⟨#[]⟩ : ByteArray), .int .i64 0, .int .i64 0]) (blk_put (cs := #[.string y.f0, .int .i64 0, .string (⟨#[]⟩ : ByteArray), .int .i64 0, .int .i64 0]) (blk_put (cs := #[.string (⟨#[]⟩ : ByteArray), .int .i64 0, .string (⟨#[]⟩ : ByteArray), .int .i64 0, .int .i64 0]) BX.out 0 (.string y.f0) (cs' := #[.string y.f0, .int .i64 0, .string (⟨#[]⟩ : ByteArray), .int .i64 0, .int .i64 0]) rfl) 1 (.int .i64 y.f1) (cs' := #[.string y.f0, .int .i64 y.f1, .string (⟨#[]⟩ : ByteArray), .int .i64 0, .int .i64 0]) rfl) 2 (.string y.f2) (cs' := #[.string y.f0, .int .i64 y.f1, .string y.f2, .int .i64 0, .int .i64 0]) rfl) 3 (.int .i64 y.f3) (cs' := #[.string y.f0, .int .i64 y.f1, .string y.f2, .int .i64 y.f3, .int .i64 0]) rfl) 4 (.int .i64 y.f4) (cs' := #[.string y.f0, .int .i64 y.f1, .string y.f2, .int .i64 y.f3, .int .i64 y.f4]) rfl) hb); clear BA HB BX hb; have BA := n0_; have HB := n1_; have BX := n2_; clear n0_ n1_ n2_; have hcy1 : w5.cell? ⟨gx, 1, none⟩ = some (.int .i64 1) := (blk_cell BX.out 1).trans (by rw [K1.out]; rfl); have hcak : w5.cell? ⟨ga, 1, none⟩ = some (.int .i64 b) := (blk_cell BA.out 1).trans rfl; have hfak := blk_frozen BA.out 1))
            go_roundg (gk - 1)
            case measure => omega
            case rel => exact ⟨i + 1, a, (wrap64 (b + 1)), c, d, by go_num, by omega, by omega, by omega, hA', ⟨by (with_reducible repeat (first | refine blk_drewN ?_ _ | refine blk_drew ?_ | refine blk_alloc ?_ _)); exact blk_put BA.out 1 _ (by first | rfl | simp)⟩, ⟨(by repeat (first | (with_reducible first | exact HB.out | apply below_alloc | apply pw_below_drewN | apply below_drew1 | refine below_set ?_ GX.out | refine below_set ?_ GA.out) | exact HB.out))⟩⟩
          rw [if_neg k1] at hA
          clear k1
          by_cases k2 : y.f1 = 2
          · rw [if_pos k2] at hA
            have hA' := Aside0.mk hA
            have K2 := Aside0.mk k2
            clear hA k2
            go_wp2_with (first | ((with_reducible refine gate_dst (N := 5) rfl ?_); refine box_event ?hg (N := 5) ?hd (cs := #[.string (⟨#[]⟩ : ByteArray), .int .i64 0, .string (⟨#[]⟩ : ByteArray), .int .i64 0, .int .i64 0]) (t := 103) ?hr ?_; (case hd => rfl); (case hg => rfl); (case hr => first | (go_simp; done) | (go_simp; rfl)); intro gx hg wx hbox hb; have n4_ := Aside0.mk (blk_below BA.out hb); have n5_ := Aside0.mk ((by rw [hg]; exact Nat.ne_of_lt (blk_lt BA.out)) : ga ≠ gx); have n1_ := Aside0.mk (below_step (by repeat (first | (with_reducible first | exact HB.out | apply below_alloc | apply pw_below_drewN | apply below_drew1) | exact HB.out)) hb); have n2_ := Aside0.mk hbox; have n3_ := Aside0.mk ((by rw [hg]; exact (below_size (by repeat (first | (with_reducible first | exact HB.out | apply below_alloc | apply pw_below_drewN | apply below_drew1) | exact HB.out)))) : w.heap.size ≤ gx); clear BA HB; have BA := n4_; have NX := n5_; have HB := n1_; have BX := n2_; have GX := n3_; clear n1_ n2_ n3_ n4_ n5_ hb hbox hg; have hcz0 : wx.cell? ⟨gx, 0, none⟩ = some (.string (⟨#[]⟩ : ByteArray)) := (blk_cell BX.out 0).trans rfl; have hfz0 := blk_frozen BX.out 0; have hcz1 : wx.cell? ⟨gx, 1, none⟩ = some (.int .i64 0) := (blk_cell BX.out 1).trans rfl; have hfz1 := blk_frozen BX.out 1; have hcz2 : wx.cell? ⟨gx, 2, none⟩ = some (.string (⟨#[]⟩ : ByteArray)) := (blk_cell BX.out 2).trans rfl; have hfz2 := blk_frozen BX.out 2; have hcz3 : wx.cell? ⟨gx, 3, none⟩ = some (.int .i64 0) := (blk_cell BX.out 3).trans rfl; have hfz3 := blk_frozen BX.out 3; have hcz4 : wx.cell? ⟨gx, 4, none⟩ = some (.int .i64 0) := (blk_cell BX.out 4).trans rfl; have hfz4 := blk_frozen BX.out 4) | (go_at_call 113; (with_reducible refine (hcall.out _).mono ?_); rintro e w5 ⟨rfl, hb⟩; have n0_ := Aside0.mk (blk_below (blk_far (p := ⟨gx, 4, none⟩) (blk_far (p := ⟨gx, 3, none⟩) (blk_far (p := ⟨gx, 2, none⟩) (blk_far (p := ⟨gx, 1, none⟩) (blk_far (p := ⟨gx, 0, none⟩) BA.out NX.out (.string y.f0)) NX.out (.int .i64 y.f1)) NX.out (.string y.f2)) NX.out (.int .i64 y.f3)) NX.out (.int .i64 y.f4)) hb); have n1_ := Aside0.mk (below_step (by repeat (first | (with_reducible first | exact HB.out | apply below_alloc | apply pw_below_drewN | apply below_drew1 | refine below_set ?_ GX.out | refine below_set ?_ GA.out) | exact HB.out)) hb); have n2_ := Aside0.mk (blk_below (blk_put (cs := #[.string y.f0, .int .i64 y.f1, .string y.f2, .int .i64 y.f3, .int .i64 0]) (blk_put (cs := #[.string y.f0, .int .i64 y.f1, .string y.f2, .int .i64 0, .int .i64 0]) (blk_put (cs := #[.string y.f0, .int .i64 y.f1, .string (⟨#[]⟩ : ByteArray), .int .i64 0, .int .i64 0]) (blk_put (cs := #[.string y.f0, .int .i64 0, .string (⟨#[]⟩ : ByteArray), .int .i64 0, .int .i64 0]) (blk_put (cs := #[.string (⟨#[]⟩ : ByteArray), .int .i64 0, .string (⟨#[]⟩ : ByteArray), .int .i64 0, .int .i64 0]) BX.out 0 (.string y.f0) (cs' := #[.string y.f0, .int .i64 0, .string (⟨#[]⟩ : ByteArray), .int .i64 0, .int .i64 0]) rfl) 1 (.int .i64 y.f1) (cs' := #[.string y.f0, .int .i64 y.f1, .string (⟨#[]⟩ : ByteArray), .int .i64 0, .int .i64 0]) rfl) 2 (.string y.f2) (cs' := #[.string y.f0, .int .i64 y.f1, .string y.f2, .int .i64 0, .int .i64 0]) rfl) 3 (.int .i64 y.f3) (cs' := #[.string y.f0, .int .i64 y.f1, .string y.f2, .int .i64 y.f3, .int .i64 0]) rfl) 4 (.int .i64 y.f4) (cs' := #[.string y.f0, .int .i64 y.f1, .string y.f2, .int .i64 y.f3, .int .i64 y.f4]) rfl) hb); clear BA HB BX hb; have BA := n0_; have HB := n1_; have BX := n2_; clear n0_ n1_ n2_; have hcy1 : w5.cell? ⟨gx, 1, none⟩ = some (.int .i64 2) := (blk_cell BX.out 1).trans (by rw [K2.out]; rfl); have hcak : w5.cell? ⟨ga, 2, none⟩ = some (.int .i64 c) := (blk_cell BA.out 2).trans rfl; have hfak := blk_frozen BA.out 2))
            go_roundg (gk - 1)
            case measure => omega
            case rel => exact ⟨i + 1, a, b, (wrap64 (c + 1)), d, by go_num, by omega, by omega, by omega, hA', ⟨by (with_reducible repeat (first | refine blk_drewN ?_ _ | refine blk_drew ?_ | refine blk_alloc ?_ _)); exact blk_put BA.out 2 _ (by first | rfl | simp)⟩, ⟨(by repeat (first | (with_reducible first | exact HB.out | apply below_alloc | apply pw_below_drewN | apply below_drew1 | refine below_set ?_ GX.out | refine below_set ?_ GA.out) | exact HB.out))⟩⟩
          rw [if_neg k2] at hA
          clear k2
          by_cases k3 : y.f1 = 3
          · rw [if_pos k3] at hA
            have hA' := Aside0.mk hA
            have K3 := Aside0.mk k3
            clear hA k3
            go_wp2_with (first | ((with_reducible refine gate_dst (N := 5) rfl ?_); refine box_event ?hg (N := 5) ?hd (cs := #[.string (⟨#[]⟩ : ByteArray), .int .i64 0, .string (⟨#[]⟩ : ByteArray), .int .i64 0, .int .i64 0]) (t := 103) ?hr ?_; (case hd => rfl); (case hg => rfl); (case hr => first | (go_simp; done) | (go_simp; rfl)); intro gx hg wx hbox hb; have n4_ := Aside0.mk (blk_below BA.out hb); have n5_ := Aside0.mk ((by rw [hg]; exact Nat.ne_of_lt (blk_lt BA.out)) : ga ≠ gx); have n1_ := Aside0.mk (below_step (by repeat (first | (with_reducible first | exact HB.out | apply below_alloc | apply pw_below_drewN | apply below_drew1) | exact HB.out)) hb); have n2_ := Aside0.mk hbox; have n3_ := Aside0.mk ((by rw [hg]; exact (below_size (by repeat (first | (with_reducible first | exact HB.out | apply below_alloc | apply pw_below_drewN | apply below_drew1) | exact HB.out)))) : w.heap.size ≤ gx); clear BA HB; have BA := n4_; have NX := n5_; have HB := n1_; have BX := n2_; have GX := n3_; clear n1_ n2_ n3_ n4_ n5_ hb hbox hg; have hcz0 : wx.cell? ⟨gx, 0, none⟩ = some (.string (⟨#[]⟩ : ByteArray)) := (blk_cell BX.out 0).trans rfl; have hfz0 := blk_frozen BX.out 0; have hcz1 : wx.cell? ⟨gx, 1, none⟩ = some (.int .i64 0) := (blk_cell BX.out 1).trans rfl; have hfz1 := blk_frozen BX.out 1; have hcz2 : wx.cell? ⟨gx, 2, none⟩ = some (.string (⟨#[]⟩ : ByteArray)) := (blk_cell BX.out 2).trans rfl; have hfz2 := blk_frozen BX.out 2; have hcz3 : wx.cell? ⟨gx, 3, none⟩ = some (.int .i64 0) := (blk_cell BX.out 3).trans rfl; have hfz3 := blk_frozen BX.out 3; have hcz4 : wx.cell? ⟨gx, 4, none⟩ = some (.int .i64 0) := (blk_cell BX.out 4).trans rfl; have hfz4 := blk_frozen BX.out 4) | (go_at_call 113; (with_reducible refine (hcall.out _).mono ?_); rintro e w5 ⟨rfl, hb⟩; have n0_ := Aside0.mk (blk_below (blk_far (p := ⟨gx, 4, none⟩) (blk_far (p := ⟨gx, 3, none⟩) (blk_far (p := ⟨gx, 2, none⟩) (blk_far (p := ⟨gx, 1, none⟩) (blk_far (p := ⟨gx, 0, none⟩) BA.out NX.out (.string y.f0)) NX.out (.int .i64 y.f1)) NX.out (.string y.f2)) NX.out (.int .i64 y.f3)) NX.out (.int .i64 y.f4)) hb); have n1_ := Aside0.mk (below_step (by repeat (first | (with_reducible first | exact HB.out | apply below_alloc | apply pw_below_drewN | apply below_drew1 | refine below_set ?_ GX.out | refine below_set ?_ GA.out) | exact HB.out)) hb); have n2_ := Aside0.mk (blk_below (blk_put (cs := #[.string y.f0, .int .i64 y.f1, .string y.f2, .int .i64 y.f3, .int .i64 0]) (blk_put (cs := #[.string y.f0, .int .i64 y.f1, .string y.f2, .int .i64 0, .int .i64 0]) (blk_put (cs := #[.string y.f0, .int .i64 y.f1, .string (⟨#[]⟩ : ByteArray), .int .i64 0, .int .i64 0]) (blk_put (cs := #[.string y.f0, .int .i64 0, .string (⟨#[]⟩ : ByteArray), .int .i64 0, .int .i64 0]) (blk_put (cs := #[.string (⟨#[]⟩ : ByteArray), .int .i64 0, .string (⟨#[]⟩ : ByteArray), .int .i64 0, .int .i64 0]) BX.out 0 (.string y.f0) (cs' := #[.string y.f0, .int .i64 0, .string (⟨#[]⟩ : ByteArray), .int .i64 0, .int .i64 0]) rfl) 1 (.int .i64 y.f1) (cs' := #[.string y.f0, .int .i64 y.f1, .string (⟨#[]⟩ : ByteArray), .int .i64 0, .int .i64 0]) rfl) 2 (.string y.f2) (cs' := #[.string y.f0, .int .i64 y.f1, .string y.f2, .int .i64 0, .int .i64 0]) rfl) 3 (.int .i64 y.f3) (cs' := #[.string y.f0, .int .i64 y.f1, .string y.f2, .int .i64 y.f3, .int .i64 0]) rfl) 4 (.int .i64 y.f4) (cs' := #[.string y.f0, .int .i64 y.f1, .string y.f2, .int .i64 y.f3, .int .i64 y.f4]) rfl) hb); clear BA HB BX hb; have BA := n0_; have HB := n1_; have BX := n2_; clear n0_ n1_ n2_; have hcy1 : w5.cell? ⟨gx, 1, none⟩ = some (.int .i64 3) := (blk_cell BX.out 1).trans (by rw [K3.out]; rfl); have hcak : w5.cell? ⟨ga, 3, none⟩ = some (.int .i64 d) := (blk_cell BA.out 3).trans rfl; have hfak := blk_frozen BA.out 3))
            go_roundg (gk - 1)
            case measure => omega
            case rel => exact ⟨i + 1, a, b, c, (wrap64 (d + 1)), by go_num, by omega, by omega, by omega, hA', ⟨by (with_reducible repeat (first | refine blk_drewN ?_ _ | refine blk_drew ?_ | refine blk_alloc ?_ _)); exact blk_put BA.out 3 _ (by first | rfl | simp)⟩, ⟨(by repeat (first | (with_reducible first | exact HB.out | apply below_alloc | apply pw_below_drewN | apply below_drew1 | refine below_set ?_ GX.out | refine below_set ?_ GA.out) | exact HB.out))⟩⟩
          rw [if_neg k3] at hA
          clear k3
          cases hA
    · have hA := HA.out
      have hd : l0.drop i.toNat = [] := List.drop_eq_nil_of_le (by omega)
      rw [hd] at hA
      simp only [cntM, Option.bind_some, manF] at hA
      clear HA hd
      have hca0 : wr.cell? ⟨ga, 0, none⟩ = some (.int .i64 a) := (blk_cell BA.out 0).trans rfl
      have hca1 : wr.cell? ⟨ga, 1, none⟩ = some (.int .i64 b) := (blk_cell BA.out 1).trans rfl
      have hca2 : wr.cell? ⟨ga, 2, none⟩ = some (.int .i64 c) := (blk_cell BA.out 2).trans rfl
      by_cases c1 : a = 1
      · rw [if_pos c1] at hA
        have c1b : (a == 1) = true := beq_iff_eq.mpr c1
        have c1c : (1 == 1) = true := rfl
        clear c1
        by_cases c2 : b ≤ 1
        · rw [if_pos c2] at hA
          have c2b : decide (b ≤ 1) = true := decide_eq_true c2
          clear c2
          by_cases c3 : c ≤ 1
          · rw [if_pos c3] at hA
            have c3b : decide (c ≤ 1) = true := decide_eq_true c3
            clear c3
            by_cases c4 : (l0.length : Int) ≤ 10
            · rw [if_pos c4] at hA
              have c4b : decide ((l0.length : Int) ≤ 10) = true := decide_eq_true c4
              clear c4
              have hcall := Aside0.mk (fun W hW => HQ.out W r hW hA)
              clear hA
              go_wp2_with (go_at_call 114; (with_reducible refine (hcall.out _ HB.out).mono ?_); rintro e w5 ⟨rfl, hb⟩)
              go_ret
              exact ⟨rfl, below_step HB.out hb⟩
            · rw [if_neg c4] at hA
              have c4b : decide ((l0.length : Int) ≤ 10) = false := decide_eq_false c4
              obtain rfl := Option.some.inj hA
              clear hA c4
              go_wp2
              go_ret
              exact ⟨rfl, HB.out⟩
          · rw [if_neg c3] at hA
            have c3b : decide (c ≤ 1) = false := decide_eq_false c3
            obtain rfl := Option.some.inj hA
            clear hA c3
            go_wp2
            go_ret
            exact ⟨rfl, HB.out⟩
        · rw [if_neg c2] at hA
          have c2b : decide (b ≤ 1) = false := decide_eq_false c2
          obtain rfl := Option.some.inj hA
          clear hA c2
          go_wp2
          go_ret
          exact ⟨rfl, HB.out⟩
      · rw [if_neg c1] at hA
        have c1b : (a == 1) = false := beq_eq_false_iff_ne.mpr c1
        obtain rfl := Option.some.inj hA
        clear hA c1
        go_wp2
        go_ret
        exact ⟨rfl, HB.out⟩
end Go.Proofs.Ytccnbjaaaaljoaa.X

