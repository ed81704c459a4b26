/- The contract of impl.partyCodes at whatever function value whose answers are told, and what the function values of PartiesOf and ClientsOf answer. Conditions: the slice reads as told. -/
import Derived.Test.YtccnbjaaaaljoaaFnExactClientsOfI
namespace Go.Proofs.Ytccnbjaaaaljoaa.X
set_option linter.unusedVariables false
set_option linter.unusedSimpArgs false
open Go.RowKit Go.Shelf Go.Proofs.Ytccnbjaaaaljoaa.P Go.Proofs.YtccnbjaaaaljoaaW.PrintWords Go.Proofs.YtccnbjaaaaljoaaW.PrintLast Go.Proofs.YtccnbjaaaaljoaaW.PrintMore
attribute [local go_sem] max2_int min2_int max_two min_two max_three min_three max_four min_four
/-- The codes of all parties for which a function value answers true. -/
def codesM (p : S113 → Option Bool) : List ByteArray → List S113 → Option (List ByteArray)
  | o, [] => some o
  | o, x :: l => (p x).bind fun t => if t = true then (if o.length < 8796093022208 then codesM p (o ++ [x.f0]) l else none) else codesM p o l
set_option maxHeartbeats 4000000 in
set_option maxRecDepth 100000 in
theorem partyCodes_ (g : Nat) (lb : Array Value) (eg : ∀ args w, (callFunc g args).run Try.prog w = .ok (.enter g args) w) (p : S113 → Option Bool)
    (A0 : Option Addr) (c0 : Nat) (l0 : List S113) (q : List ByteArray) (w : World) (hp0 : Tells g lb encParty p w) (hr0 : Kd.C k113 w A0 l0.length l0) (h : codesM p [] l0 = some q) :
    Calls Try.prog 133 #[.slice A0 l0.length c0, .func (.func g) #[] lb] w fun e w' => ∃ v0_ : Value, e = .returned v0_ ∧ Kd.R Kd.string 9 w' w.heap.size (fun _ => True) v0_ q ∧ Below w.heap.size w w' := by
  have hu103 := Try.underlying113
  have HR0 := Aside0.mk hr0
  have hlen : l0.length ≤ 9223372036854775807 := hr0.2.1
  have HP := Aside0.mk hp0
  have HB := Aside0.mk (Below.refl w.heap.size w)
  obtain ⟨y0, hy0⟩ : ∃ y_ : List ByteArray, y_ = ([] : List ByteArray) := ⟨_, rfl⟩
  have H : Aside0 (codesM p y0 (l0.drop (0 : Int).toNat) = some q) := ⟨by rw [hy0]; simpa using h⟩
  have Ny := Aside0.mk hy0
  clear hr0 hp0 h hy0
  go_enter Try.func133, Try.ntmps133
  go_wp2_with ((with_reducible refine gate_dst (N := 8) rfl ?_); refine Kd.R_lit Kd.string _ 9 ?hg (N := 8) ?hd (xs := ([] : List ByteArray)) (inner := []) (ok := fun _ => True) (okp := fun _ => True) ?hr ?hp (fun _ hk => hk) trivial (Below.refl _ _) (Nat.le_refl _) (by simp) ?_; (case hd => rfl); (case hg => rfl); (case hr => first | (go_simp; done) | (go_simp; rfl)); (case hp => exact (Reps.none _ _)); intro v853 w6 ho7 hb hg_ hnew_; clear hg_ hnew_; (first | rw [← Ny.out] at ho7 | (simp only [Int.reduceToNat] at ho7; rw [← Ny.out] at ho7)); have n0_ := Aside0.mk (Kd.R_lower ho7 (below_size (by repeat (first | (with_reducible first | exact HB.out | apply below_alloc | apply pw_below_drewN | apply below_drew1) | exact HB.out)))); have n1_ := Aside0.mk (below_step (by repeat (first | (with_reducible first | exact HB.out | apply below_alloc | apply pw_below_drewN | apply below_drew1) | exact HB.out)) hb); clear HB; have HO := n0_; have HB := n1_; clear n0_ n1_; clear hb ho7)
  go_loopg [5, 11] l0.length (fun kq v5 v11 w' => ∃ (o : List ByteArray) (i : Int), v11 = .int .i64 i ∧ 0 ≤ i ∧ i ≤ (l0.length : Int) ∧ (l0.length : Int) - i ≤ kq ∧ Aside0 (codesM p o (l0.drop i.toNat) = some q) ∧ Aside0 (Kd.R Kd.string 9 w' w.heap.size (fun _ => True) v5 o) ∧ Aside0 (Below w.heap.size w w'))
  case atStart => exact ⟨y0, 0, rfl, by omega, by omega, by omega, H, ⟨by (with_reducible repeat (first | apply Kd.R_alloc | apply Kd.R_drewN | apply Kd.R_drew)); exact HO.out⟩, HB⟩
  case round =>
    clear H
    obtain ⟨o, i, rfl, h0, h1, h2, HA, HO, HB⟩ := hrel
    by_cases hlt : i < (l0.length : Int)
    · have hA := HA.out
      have hd : l0.drop i.toNat = rd_T113 l0 i :: l0.drop (i + 1).toNat := by
        unfold rd_T113
        rw [List.getD_eq_getElem?_getD, List.getElem?_eq_getElem (show i.toNat < l0.length by omega), show (i + 1).toNat = i.toNat + 1 by omega]
        exact List.drop_eq_getElem_cons (show i.toNat < l0.length by omega)
      rw [hd] at hA
      simp only [codesM] at hA
      clear HA hd
      obtain ⟨ad, rfl, hx0, hx1, hx2⟩ := at_T113 HR0.out i h0 hlt
      replace hx0 := (HB.out.cell (World.block_lt_of_cell? _ _ hx0)).trans hx0
      replace hx1 := (HB.out.cell (World.block_lt_of_cell? _ _ hx1)).trans hx1
      replace hx2 := (HB.out.cell (World.block_lt_of_cell? _ _ hx2)).trans hx2
      generalize rd_T113 l0 i = y at hx0 hx1 hx2 hA
      cases hpy : p y with
      | none => rw [hpy] at hA; cases hA
      | some t =>
        rw [hpy, Option.bind_some] at hA
        have hcall := Aside0.mk (fun W hW => HP.out W y t hW hpy)
        simp only [encParty] at hcall
        cases t with
        | false =>
          rw [if_neg (by decide)] at hA
          have hA' := Aside0.mk hA
          clear hA hpy
          go_wp2_with (first | ((with_reducible refine gate_dst (N := 7) rfl ?_); refine box_event ?hg (N := 7) ?hd (cs := #[.string (⟨#[]⟩ : ByteArray), .int .i64 0, .string (⟨#[]⟩ : ByteArray)]) (t := 113) ?hr ?_; (case hd => rfl); (case hg => rfl); (case hr => first | (go_simp; done) | (go_simp; rfl)); intro gx hg wx hbox hb; have n0_ := Aside0.mk (Kd.R_below (by (with_reducible repeat (first | apply Kd.R_alloc | apply Kd.R_drewN | apply Kd.R_drew)); exact HO.out) hb); have n1_ := Aside0.mk (below_step (by repeat (first | (with_reducible first | exact HB.out | apply below_alloc | apply pw_below_drewN | apply below_drew1) | exact HB.out)) hb); have n2_ := Aside0.mk hbox; have n3_ := Aside0.mk ((by rw [hg]; exact (below_size (by repeat (first | (with_reducible first | exact HB.out | apply below_alloc | apply pw_below_drewN | apply below_drew1) | exact HB.out))) : w.heap.size ≤ gx)); clear HO HB; have HO := n0_; have HB := n1_; have BX := n2_; have GX := n3_; clear n0_ n1_ n2_ n3_ hb hbox hg; have hcz0 : wx.cell? ⟨gx, 0, none⟩ = some (.string (⟨#[]⟩ : ByteArray)) := (blk_cell BX.out 0).trans rfl; have hcz1 : wx.cell? ⟨gx, 1, none⟩ = some (.int .i64 0) := (blk_cell BX.out 1).trans rfl; have hcz2 : wx.cell? ⟨gx, 2, none⟩ = some (.string (⟨#[]⟩ : ByteArray)) := (blk_cell BX.out 2).trans rfl; have hfz0 := blk_frozen BX.out 0; have hfz1 := blk_frozen BX.out 1; have hfz2 := blk_frozen BX.out 2) | (go_at_fn g; refine (hcall.out _ ?bw).mono ?_; (case bw => repeat (first | (with_reducible first | exact HB.out | apply below_alloc | apply pw_below_drewN | apply below_drew1 | refine below_set ?_ GX.out) | exact HB.out)); rintro e w5 ⟨rfl, hb⟩; have n0_ := Aside0.mk (Kd.R_below (Kd.R_mono (Kd.R_far (p := ⟨gx, 2, none⟩) (Kd.R_far (p := ⟨gx, 1, none⟩) (Kd.R_far (p := ⟨gx, 0, none⟩) (Kd.R_types HO.out BX.out (by decide)) (fun _ hk => hk.2) (.string y.f0)) (fun _ hk => hk.2) (.int .i64 y.f1)) (fun _ hk => hk.2) (.string y.f2)) (fun _ hk => trivial)) hb); have n1_ := Aside0.mk (below_step (by repeat (first | (with_reducible first | exact HB.out | apply below_alloc | apply pw_below_drewN | apply below_drew1 | refine below_set ?_ GX.out) | exact HB.out)) hb); have n2_ := Aside0.mk (blk_below (blk_put (cs := #[.string y.f0, .int .i64 y.f1, .string (⟨#[]⟩ : ByteArray)]) (blk_put (cs := #[.string y.f0, .int .i64 0, .string (⟨#[]⟩ : ByteArray)]) (blk_put (cs := #[.string (⟨#[]⟩ : ByteArray), .int .i64 0, .string (⟨#[]⟩ : ByteArray)]) BX.out 0 _ rfl) 1 _ rfl) 2 (.string y.f2) (cs' := #[.string y.f0, .int .i64 y.f1, .string y.f2]) rfl) hb); clear HO HB BX hb; have HO := n0_; have HB := n1_; have BX := n2_; clear n0_ n1_ n2_; have hcy0 : w5.cell? ⟨gx, 0, none⟩ = some (.string y.f0) := (blk_cell BX.out 0).trans rfl))
          go_roundg (gk - 1)
          case measure => omega
          case rel => exact ⟨o, i + 1, by go_num, by omega, by omega, by omega, hA', HO, HB⟩
        | true =>
          rw [if_pos rfl] at hA
          by_cases hol : o.length < 8796093022208
          · rw [if_pos hol] at hA
            obtain ⟨y1, hy1⟩ : ∃ y_ : List ByteArray, y_ = o ++ [y.f0] := ⟨_, rfl⟩
            rw [← hy1] at hA
            have Ny1 := Aside0.mk hy1
            have LM := Aside0.mk hol
            have hA' := Aside0.mk hA
            clear hA hpy hy1 hol
            go_wp2_with (first | ((with_reducible refine gate_dst (N := 7) rfl ?_); refine box_event ?hg (N := 7) ?hd (cs := #[.string (⟨#[]⟩ : ByteArray), .int .i64 0, .string (⟨#[]⟩ : ByteArray)]) (t := 113) ?hr ?_; (case hd => rfl); (case hg => rfl); (case hr => first | (go_simp; done) | (go_simp; rfl)); intro gx hg wx hbox hb; have n0_ := Aside0.mk (Kd.R_below (by (with_reducible repeat (first | apply Kd.R_alloc | apply Kd.R_drewN | apply Kd.R_drew)); exact HO.out) hb); have n1_ := Aside0.mk (below_step (by repeat (first | (with_reducible first | exact HB.out | apply below_alloc | apply pw_below_drewN | apply below_drew1) | exact HB.out)) hb); have n2_ := Aside0.mk hbox; have n3_ := Aside0.mk ((by rw [hg]; exact (below_size (by repeat (first | (with_reducible first | exact HB.out | apply below_alloc | apply pw_below_drewN | apply below_drew1) | exact HB.out))) : w.heap.size ≤ gx)); clear HO HB; have HO := n0_; have HB := n1_; have BX := n2_; have GX := n3_; clear n0_ n1_ n2_ n3_ hb hbox hg; have hcz0 : wx.cell? ⟨gx, 0, none⟩ = some (.string (⟨#[]⟩ : ByteArray)) := (blk_cell BX.out 0).trans rfl; have hcz1 : wx.cell? ⟨gx, 1, none⟩ = some (.int .i64 0) := (blk_cell BX.out 1).trans rfl; have hcz2 : wx.cell? ⟨gx, 2, none⟩ = some (.string (⟨#[]⟩ : ByteArray)) := (blk_cell BX.out 2).trans rfl; have hfz0 := blk_frozen BX.out 0; have hfz1 := blk_frozen BX.out 1; have hfz2 := blk_frozen BX.out 2) | (go_at_fn g; refine (hcall.out _ ?bw).mono ?_; (case bw => repeat (first | (with_reducible first | exact HB.out | apply below_alloc | apply pw_below_drewN | apply below_drew1 | refine below_set ?_ GX.out) | exact HB.out)); rintro e w5 ⟨rfl, hb⟩; have n0_ := Aside0.mk (Kd.R_below (Kd.R_mono (Kd.R_far (p := ⟨gx, 2, none⟩) (Kd.R_far (p := ⟨gx, 1, none⟩) (Kd.R_far (p := ⟨gx, 0, none⟩) (Kd.R_types HO.out BX.out (by decide)) (fun _ hk => hk.2) (.string y.f0)) (fun _ hk => hk.2) (.int .i64 y.f1)) (fun _ hk => hk.2) (.string y.f2)) (fun _ hk => trivial)) hb); have n1_ := Aside0.mk (below_step (by repeat (first | (with_reducible first | exact HB.out | apply below_alloc | apply pw_below_drewN | apply below_drew1 | refine below_set ?_ GX.out) | exact HB.out)) hb); have n2_ := Aside0.mk (blk_below (blk_put (cs := #[.string y.f0, .int .i64 y.f1, .string (⟨#[]⟩ : ByteArray)]) (blk_put (cs := #[.string y.f0, .int .i64 0, .string (⟨#[]⟩ : ByteArray)]) (blk_put (cs := #[.string (⟨#[]⟩ : ByteArray), .int .i64 0, .string (⟨#[]⟩ : ByteArray)]) BX.out 0 _ rfl) 1 _ rfl) 2 (.string y.f2) (cs' := #[.string y.f0, .int .i64 y.f1, .string y.f2]) rfl) hb); clear HO HB BX hb; have HO := n0_; have HB := n1_; have BX := n2_; clear n0_ n1_ n2_; have hcy0 : w5.cell? ⟨gx, 0, none⟩ = some (.string y.f0) := (blk_cell BX.out 0).trans rfl) | ((with_reducible refine gate_builtin (b := .append) (xs := #[.tmp 18, .tmp 21]) rfl ?_); at_builtin; refine Kd.R_append Kd.string (w0 := w) w.heap.size rfl (.tmp 18) (.tmp 21) 74 9 (.string ⟨#[]⟩) 16 rfl Try.underlying74 info9 rfl (by decide) (by omega) u5 o y.f0 [.string y.f0] (fun _ => True) (fun _ => False) rfl (by first | (go_simp; done) | (go_simp; rfl)) ?aP (fun _ hk => hk.elim) ?aF ?aO ?aB ?aS ?aL ?_; (case aP => exact rfl); (case aB => exact (by repeat (first | (with_reducible first | exact HB.out | apply below_alloc | apply pw_below_drewN | apply below_drew1) | exact HB.out))); (case aF => exact (fun _ _ => trivial)); (case aO => exact (by (with_reducible repeat (first | apply Kd.R_alloc | apply Kd.R_drewN | apply Kd.R_drew)); exact HO.out)); (case aS => exact (below_size (by repeat (first | (with_reducible first | exact HB.out | apply below_alloc | apply pw_below_drewN | apply below_drew1) | exact HB.out)))); (case aL => have := LM.out; omega); intro v858 w12 ho hb hg hat; rw [← Ny1.out] at ho; have n0_ := Aside0.mk (hb); have n1_ := Aside0.mk (ho); clear HB; clear HO; have HB := n0_; have HO := n1_; clear n0_ n1_; clear ho hb hg hat))
            go_roundg (gk - 1)
            case measure => omega
            case rel => exact ⟨y1, i + 1, by go_num, by omega, by omega, by omega, hA', HO, HB⟩
          · rw [if_neg hol] at hA; cases hA
    · have hA := HA.out
      have hd : l0.drop i.toNat = [] := List.drop_eq_nil_of_le (by omega)
      rw [hd] at hA
      simp only [codesM] at hA
      obtain rfl := Option.some.inj hA
      clear hA HA hd
      go_wp2
      go_ret
      exact ⟨_, rfl, HO.out, HB.out⟩
set_option maxHeartbeats 2000000 in
set_option maxRecDepth 100000 in
theorem tells_agent (a : ByteArray) (gb : Nat) (w : World) (hg : w.cell? ⟨gb, 0, none⟩ = some (.string a)) :
    Tells 136 #[.pointer (some ⟨gb, 0, none⟩)] encParty (fun x => some (decide (x.f2.toList = a.toList))) w := by
  intro W x b hb hpx
  obtain rfl := Option.some.inj hpx
  have hcell : W.cell? ⟨gb, 0, none⟩ = some (.string a) := (hb.cell (World.block_lt_of_cell? _ _ hg)).trans hg
  have hbw : Below W.heap.size W (W.alloc (.cells #[.string x.f0, .int .i64 x.f1, .string x.f2] 113)) := (Below.refl _ _).alloc (Nat.le_refl _) _
  have hcell2 : (W.alloc (.cells #[.string x.f0, .int .i64 x.f1, .string x.f2] 113)).cell? ⟨gb, 0, none⟩ = some (.string a) := (hbw.cell (World.block_lt_of_cell? W _ hcell)).trans hcell
  clear hpx hcell
  show Calls Try.prog 136 #[.agg #[.string x.f0, .int .i64 x.f1, .string x.f2], .pointer (some ⟨gb, 0, none⟩)] W _
  by_cases c : x.f2.toList = a.toList
  · have c0 : (x.f2.toList == a.toList) = true := beq_iff_eq.mpr c
    rw [decide_eq_true c]
    clear c
    go_enter Try.func136, Try.ntmps136
    go_wp2
    go_ret
    exact ⟨by first | rfl | simp [*], hbw⟩
  · have c0 : (x.f2.toList == a.toList) = false := beq_eq_false_iff_ne.mpr c
    rw [decide_eq_false c]
    clear c
    go_enter Try.func136, Try.ntmps136
    go_wp2
    go_ret
    exact ⟨by first | rfl | simp [*], hbw⟩
end Go.Proofs.Ytccnbjaaaaljoaa.X

