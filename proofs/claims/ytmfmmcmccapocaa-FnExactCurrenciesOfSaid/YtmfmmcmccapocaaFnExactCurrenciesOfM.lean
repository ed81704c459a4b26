/- The contracts of impl.texts (the codes of a table's rates) and of slices.Compact at a slice of texts that the call itself made. Conditions: the slices read as told. -/
import Derived.Test.YtmfmmcmccapocaaFnExactCurrenciesOfH
import Derived.Shelf.Slices.Cells
namespace Go.Proofs.Ytmfmmcmccapocaa.X
set_option linter.unusedVariables false
set_option linter.unusedSimpArgs false
open Go.RowKit Go.Shelf Go.Proofs.Ytmfmmcmccapocaa.P Go.Proofs.YtmfmmcmccapocaaW.PrintWords Go.Proofs.YtmfmmcmccapocaaW.PrintLast Go.Proofs.YtmfmmcmccapocaaW.PrintMore
attribute [local go_sem] max2_int min2_int max_two min_two max_three min_three max_four min_four

/-- The codes of all rates. -/
def textsM : List ByteArray → List S53 → Option (List ByteArray)
  | o, [] => some o
  | o, x :: l => if o.length < 8796093022208 then textsM (o ++ [x.f0]) l else none
set_option maxHeartbeats 2000000 in
set_option maxRecDepth 100000 in
theorem tells_cur (W : World) (x : S53) : Calls Try.prog 33 #[.agg #[.string x.f0, .int .i64 x.f1, .int .i64 x.f2, .int .i64 x.f3]] W fun e w' => e = .returned (.string x.f0) ∧ Below W.heap.size W w' := by
  have hbw : Below W.heap.size W (W.alloc (.cells #[.string x.f0, .int .i64 x.f1, .int .i64 x.f2, .int .i64 x.f3] 53)) := (Below.refl _ _).alloc (Nat.le_refl _) _
  go_enter Try.func33, Try.ntmps33
  go_wp2
  go_ret
  exact ⟨rfl, hbw⟩
set_option maxHeartbeats 4000000 in
set_option maxRecDepth 100000 in
theorem texts_ (A0 : Option Addr) (c0 : Nat) (l0 : List S53) (q : List ByteArray) (w : World) (hr0 : Kd.C k53 w A0 l0.length l0) (h : textsM [] l0 = some q) :
    Calls Try.prog 32 #[.slice A0 l0.length c0, .func (.func 33) #[] #[]] w fun e w' => ∃ v0_ : Value, e = .returned v0_ ∧ Kd.R Kd.string 9 w' w.heap.size (fun _ => True) v0_ q ∧ Below w.heap.size w w' := by
  have hu103 := Try.underlying53
  have HR0 := Aside0.mk hr0
  have hlen : l0.length ≤ 9223372036854775807 := hr0.2.1
  have eg : ∀ args w, (callFunc 33 args).run Try.prog w = .ok (.enter 33 args) w := enters_of Try.func33 (by kernel_rfl) rfl
  have HB := Aside0.mk (Below.refl w.heap.size w)
  obtain ⟨y0, hy0⟩ : ∃ y_ : List ByteArray, y_ = ([] : List ByteArray) := ⟨_, rfl⟩
  have H : Aside0 (textsM y0 (l0.drop (0 : Int).toNat) = some q) := ⟨by rw [hy0]; simpa using h⟩
  have Ny := Aside0.mk hy0
  clear hr0 h hy0
  go_enter Try.func32, Try.ntmps32
  go_wp2_with ((with_reducible refine gate_dst (N := 8) rfl ?_); refine Kd.R_lit Kd.string _ 9 ?hg (N := 8) ?hd (xs := ([] : List ByteArray)) (inner := []) (ok := fun _ => True) (okp := fun _ => True) ?hr ?hp (fun _ hk => hk) trivial (Below.refl _ _) (Nat.le_refl _) (by simp) ?_; (case hd => rfl); (case hg => rfl); (case hr => first | (go_simp; done) | (go_simp; rfl)); (case hp => exact (Reps.none _ _)); intro v853 w6 ho7 hb hg_ hnew_; clear hg_ hnew_; (first | rw [← Ny.out] at ho7 | (simp only [Int.reduceToNat] at ho7; rw [← Ny.out] at ho7)); have n0_ := Aside0.mk (Kd.R_lower ho7 (below_size (by repeat (first | (with_reducible first | exact HB.out | apply below_alloc | apply pw_below_drewN | apply below_drew1) | exact HB.out)))); have n1_ := Aside0.mk (below_step (by repeat (first | (with_reducible first | exact HB.out | apply below_alloc | apply pw_below_drewN | apply below_drew1) | exact HB.out)) hb); clear HB; have HO := n0_; have HB := n1_; clear n0_ n1_; clear hb ho7)
  go_loopg [5, 11] l0.length (fun kq v5 v11 w' => ∃ (o : List ByteArray) (i : Int), v11 = .int .i64 i ∧ 0 ≤ i ∧ i ≤ (l0.length : Int) ∧ (l0.length : Int) - i ≤ kq ∧ Aside0 (textsM o (l0.drop i.toNat) = some q) ∧ Aside0 (Kd.R Kd.string 9 w' w.heap.size (fun _ => True) v5 o) ∧ Aside0 (Below w.heap.size w w'))
  case atStart => exact ⟨y0, 0, rfl, by omega, by omega, by omega, H, ⟨by (with_reducible repeat (first | apply Kd.R_alloc | apply Kd.R_drewN | apply Kd.R_drew)); exact HO.out⟩, HB⟩
  case round =>
    clear H
    obtain ⟨o, i, rfl, h0, h1, h2, HA, HO, HB⟩ := hrel
    by_cases hlt : i < (l0.length : Int)
    · have hA := HA.out
      have hd : l0.drop i.toNat = rd_T53 l0 i :: l0.drop (i + 1).toNat := by
        unfold rd_T53
        rw [List.getD_eq_getElem?_getD, List.getElem?_eq_getElem (show i.toNat < l0.length by omega), show (i + 1).toNat = i.toNat + 1 by omega]
        exact List.drop_eq_getElem_cons (show i.toNat < l0.length by omega)
      rw [hd] at hA
      simp only [textsM] at hA
      clear HA hd
      obtain ⟨ad, rfl, hx0, hx1, hx2, hx3⟩ := at_T53 HR0.out i h0 hlt
      replace hx0 := (HB.out.cell (World.block_lt_of_cell? _ _ hx0)).trans hx0
      replace hx1 := (HB.out.cell (World.block_lt_of_cell? _ _ hx1)).trans hx1
      replace hx2 := (HB.out.cell (World.block_lt_of_cell? _ _ hx2)).trans hx2
      replace hx3 := (HB.out.cell (World.block_lt_of_cell? _ _ hx3)).trans hx3
      generalize rd_T53 l0 i = y at hx0 hx1 hx2 hx3 hA
      have hcall := Aside0.mk (fun W => tells_cur W y)
      by_cases hol : o.length < 8796093022208
      · rw [if_pos hol] at hA
        obtain ⟨y1, hy1⟩ : ∃ y_ : List ByteArray, y_ = o ++ [y.f0] := ⟨_, rfl⟩
        rw [← hy1] at hA
        have Ny1 := Aside0.mk hy1
        have LM := Aside0.mk hol
        have hA' := Aside0.mk hA
        clear hA hy1 hol
        go_wp2_with (first | ((with_reducible refine gate_dst (N := 7) rfl ?_); refine box_event ?hg (N := 7) ?hd (cs := #[.string (⟨#[]⟩ : ByteArray), .int .i64 0, .int .i64 0, .int .i64 0]) (t := 53) ?hr ?_; (case hd => rfl); (case hg => rfl); (case hr => first | (go_simp; done) | (go_simp; rfl)); intro gx hg wx hbox hb; have n0_ := Aside0.mk (Kd.R_below (by (with_reducible repeat (first | apply Kd.R_alloc | apply Kd.R_drewN | apply Kd.R_drew)); exact HO.out) hb); have n1_ := Aside0.mk (below_step (by repeat (first | (with_reducible first | exact HB.out | apply below_alloc | apply pw_below_drewN | apply below_drew1) | exact HB.out)) hb); have n2_ := Aside0.mk hbox; have n3_ := Aside0.mk ((by rw [hg]; exact (below_size (by repeat (first | (with_reducible first | exact HB.out | apply below_alloc | apply pw_below_drewN | apply below_drew1) | exact HB.out))) : w.heap.size ≤ gx)); clear HO HB; have HO := n0_; have HB := n1_; have BX := n2_; have GX := n3_; clear n0_ n1_ n2_ n3_ hb hbox hg; have hcz0 : wx.cell? ⟨gx, 0, none⟩ = some (.string (⟨#[]⟩ : ByteArray)) := (blk_cell BX.out 0).trans rfl; have hfz0 := blk_frozen BX.out 0; have hcz1 : wx.cell? ⟨gx, 1, none⟩ = some (.int .i64 0) := (blk_cell BX.out 1).trans rfl; have hfz1 := blk_frozen BX.out 1; have hcz2 : wx.cell? ⟨gx, 2, none⟩ = some (.int .i64 0) := (blk_cell BX.out 2).trans rfl; have hfz2 := blk_frozen BX.out 2; have hcz3 : wx.cell? ⟨gx, 3, none⟩ = some (.int .i64 0) := (blk_cell BX.out 3).trans rfl; have hfz3 := blk_frozen BX.out 3) | (go_at_fn 33; (with_reducible refine (hcall.out _).mono ?_); rintro e w5 ⟨rfl, hb⟩; have n0_ := Aside0.mk (Kd.R_below (Kd.R_mono (Kd.R_far (p := ⟨gx, 3, none⟩) (Kd.R_far (p := ⟨gx, 2, none⟩) (Kd.R_far (p := ⟨gx, 1, none⟩) (Kd.R_far (p := ⟨gx, 0, none⟩) (Kd.R_types HO.out BX.out (by decide)) (fun _ hk => hk.2) (.string y.f0)) (fun _ hk => hk.2) (.int .i64 y.f1)) (fun _ hk => hk.2) (.int .i64 y.f2)) (fun _ hk => hk.2) (.int .i64 y.f3)) (fun _ hk => trivial)) hb); have n1_ := Aside0.mk (below_step (by repeat (first | (with_reducible first | exact HB.out | apply below_alloc | apply pw_below_drewN | apply below_drew1 | refine below_set ?_ GX.out) | exact HB.out)) hb); have n2_ := Aside0.mk (blk_below (blk_put (cs := #[.string y.f0, .int .i64 y.f1, .int .i64 y.f2, .int .i64 0]) (blk_put (cs := #[.string y.f0, .int .i64 y.f1, .int .i64 0, .int .i64 0]) (blk_put (cs := #[.string y.f0, .int .i64 0, .int .i64 0, .int .i64 0]) (blk_put (cs := #[.string (⟨#[]⟩ : ByteArray), .int .i64 0, .int .i64 0, .int .i64 0]) BX.out 0 (.string y.f0) (cs' := #[.string y.f0, .int .i64 0, .int .i64 0, .int .i64 0]) rfl) 1 (.int .i64 y.f1) (cs' := #[.string y.f0, .int .i64 y.f1, .int .i64 0, .int .i64 0]) rfl) 2 (.int .i64 y.f2) (cs' := #[.string y.f0, .int .i64 y.f1, .int .i64 y.f2, .int .i64 0]) rfl) 3 (.int .i64 y.f3) (cs' := #[.string y.f0, .int .i64 y.f1, .int .i64 y.f2, .int .i64 y.f3]) rfl) hb); clear HO HB BX hb; have HO := n0_; have HB := n1_; have BX := n2_; clear n0_ n1_ n2_) | ((with_reducible refine gate_builtin (b := .append) (xs := #[.tmp 15, .tmp 19]) rfl ?_); at_builtin; refine Kd.R_append Kd.string (w0 := w) w.heap.size rfl (.tmp 15) (.tmp 19) 24 9 (.string ⟨#[]⟩) 16 rfl Try.underlying24 info9 rfl (by decide) (by omega) u5 o y.f0 [.string y.f0] (fun _ => True) (fun _ => False) rfl (by first | (go_simp; done) | (go_simp; rfl)) ?aP (fun _ hk => hk.elim) ?aF ?aO ?aB ?aS ?aL ?_; (case aP => exact rfl); (case aB => exact (by repeat (first | (with_reducible first | exact HB.out | apply below_alloc | apply pw_below_drewN | apply below_drew1) | exact HB.out))); (case aF => exact (fun _ _ => trivial)); (case aO => exact (by (with_reducible repeat (first | apply Kd.R_alloc | apply Kd.R_drewN | apply Kd.R_drew)); exact HO.out)); (case aS => exact (below_size (by repeat (first | (with_reducible first | exact HB.out | apply below_alloc | apply pw_below_drewN | apply below_drew1) | exact HB.out)))); (case aL => have := LM.out; omega); intro v858 w12 ho hb hg hat; rw [← Ny1.out] at ho; have n0_ := Aside0.mk (hb); have n1_ := Aside0.mk (ho); clear HB; clear HO; have HB := n0_; have HO := n1_; clear n0_ n1_; clear ho hb hg hat))
        go_roundg (gk - 1)
        case measure => omega
        case rel => exact ⟨y1, i + 1, by go_num, by omega, by omega, by omega, hA', HO, HB⟩
      · rw [if_neg hol] at hA; cases hA
    · have hA := HA.out
      have hd : l0.drop i.toNat = [] := List.drop_eq_nil_of_le (by omega)
      rw [hd] at hA
      simp only [textsM] at hA
      obtain rfl := Option.some.inj hA
      clear hA HA hd
      go_wp2
      go_ret
      exact ⟨_, rfl, HO.out, HB.out⟩
/-- The numbers of slices.Compact and of its types, for the shelf. -/
def ren : Ren := ⟨fun n => if n = 194 then 31 else 0, fun n => if n = 3 then 3 else if n = 4 then 4 else if n = 9 then 9 else if n = 31 then 24 else 0, fun n => n⟩
theorem lays : Lays.n194 Try.prog ren where
  mixed := by kernel_rfl
  f194 := Try.func31
  t0 := Try.underlying0
  a0 := Try.isAgg0
  z0 := Try.sizeOf0
  v0 := Try.zeroValue0
  t3 := Try.underlying3
  a3 := Try.isAgg3
  z3 := Try.sizeOf3
  v3 := Try.zeroValue3
  t4 := Try.underlying4
  a4 := Try.isAgg4
  z4 := Try.sizeOf4
  v4 := Try.zeroValue4
  t9 := Try.underlying9
  a9 := Try.isAgg9
  z9 := Try.sizeOf9
  v9 := Try.zeroValue9
  t31 := Try.underlying24
  a31 := Try.isAgg24
  z31 := Try.sizeOf24
  v31 := Try.zeroValue24
def toB (x : ByteArray) : List UInt8 := x.data.toList
def ofBytes (b : List UInt8) : ByteArray := ⟨b.toArray⟩
/-- A list without repetitions side by side. -/
def compB (q : List ByteArray) : List ByteArray := (Go.Lib.compact (q.map toB)).map ofBytes
theorem below_setC {B b : Nat} {a : World} (hb : B ≤ b) : ∀ (vs : List Value) (o : Nat) (w : World), Below B a w → Below B a (w.setCells b o vs)
  | [], _, _, h => h
  | v :: r, o, w, h => below_setC hb r (o + 1) _ (h.setCell (by exact hb) v)
theorem encs_setCells (base g n cap e : Nat) : ∀ (ys : List ByteArray) (o : Nat) (xs : List ByteArray) (W : World), W.ownsRow base e 1 (.slice (some ⟨g, 0, none⟩) n cap) n (encs Value.string xs) → o + ys.length ≤ xs.length →
    (W.setCells g o (ys.map Value.string)).ownsRow base e 1 (.slice (some ⟨g, 0, none⟩) n cap) n (encs Value.string (xs.take o ++ ys ++ xs.drop (o + ys.length)))
  | [], o, xs, W, h, hl => by simpa [World.setCells] using h
  | y :: ys, o, xs, W, h, hl => by
    simp only [List.length_cons] at hl
    have h1 := (own_store_of h (o : Int) y).1
    rw [show ((o : Int)).toNat = o by omega] at h1
    have h2 := encs_setCells base g n cap e ys (o + 1) (xs.set o y) _ h1 (by rw [List.length_set]; omega)
    simp only [List.map_cons, World.setCells]
    have e1 : (xs.set o y).take (o + 1) ++ ys ++ (xs.set o y).drop (o + 1 + ys.length) = xs.take o ++ (y :: ys) ++ xs.drop (o + (ys.length + 1)) := by
      rw [List.take_succ_eq_append_getElem (by rw [List.length_set]; omega), List.take_set_of_le (by omega), List.getElem_set_self, List.drop_set_of_lt (by omega), show o + 1 + ys.length = o + (ys.length + 1) by omega]
      simp
    rw [e1] at h2
    simpa using h2
set_option maxRecDepth 100000 in
theorem compact_ (v : Value) (xs : List ByteArray) (base : Nat) (w : World) (hR : Kd.R Kd.string 9 w base (fun _ => True) v xs) (hl : xs.length ≤ 9223372036854775807) :
    Calls Try.prog 31 #[v] w fun e w' => ∃ v0_ : Value, e = .returned v0_ ∧ Kd.R Kd.string 9 w' base (fun _ => True) v0_ (compB xs) ∧ Below base w w' := by
  by_cases hx : xs.length = 0
  · obtain ⟨A, c, rfl⟩ := Kd.R_slice hR
    have he : xs = [] := List.eq_nil_of_length_eq_zero hx
    subst he
    refine (Any.slices_Compact_string_empty lays A c w).mono ?_
    rintro e w' ⟨rfl, rfl⟩
    exact ⟨_, rfl, by simpa [compB, Go.Lib.compact, Go.Lib.compactUpTo] using hR, Below.refl _ _⟩
  · obtain ⟨g, cap, rfl, hg, hgl, cells, hcells⟩ := Kd.R_form hR (by omega)
    have ho := Kd.own_of_R (h1 := fun _ => rfl) hR
    have hcap := (Kd.R_reads' hR).2.1
    have hat := fun (i : Nat) (hi : i < xs.length) => own_at_of (d := (⟨#[]⟩ : ByteArray)) ho (i : Int) (by omega) (by omega)
    have hcon := Any.slices_Compact_string_cells lays g 0 xs.length cap (fun i => xs.getD i ⟨#[]⟩) w hl hcap (fun i hi => by simpa [rdOf] using (hat i hi).1) (fun i hi => by simpa using (hat i hi).2)
    refine hcon.mono ?_
    rintro e w' ⟨rfl, q, rfl⟩
    have hstr : Go.Lib.strsOf (fun i => xs.getD i ⟨#[]⟩) xs.length = xs.map toB := by
      unfold Go.Lib.strsOf
      apply List.ext_getElem (by simp)
      intro i h1 h2
      simp at h1 h2
      simp [h1, toB]
    rw [hstr]
    have hle := Go.Lib.compact_length_le (xs.map toB)
    rw [List.length_map] at hle
    have hb : Below base w ((w.drewN q).setCells g 0 ((Go.Lib.compact (xs.map toB) ++ List.replicate (xs.length - (Go.Lib.compact (xs.map toB)).length) []).map Go.Proofs.encStr)) := below_setC hg _ _ _ (by exact pw_below_drewN (Below.refl _ _) q)
    have hs := encs_setCells base g xs.length cap 9 ((Go.Lib.compact (xs.map toB) ++ List.replicate (xs.length - (Go.Lib.compact (xs.map toB)).length) []).map ofBytes) 0 xs (w.drewN q) (Kd.own_of_R (h1 := fun _ => rfl) (Kd.R_drewN hR q)) (by simp; omega)
    have e0 : (Go.Lib.compact (xs.map toB) ++ List.replicate (xs.length - (Go.Lib.compact (xs.map toB)).length) []).map Go.Proofs.encStr = ((Go.Lib.compact (xs.map toB) ++ List.replicate (xs.length - (Go.Lib.compact (xs.map toB)).length) []).map ofBytes).map Value.string := by
      rw [List.map_map]; rfl
    rw [e0] at hb ⊢
    have ho2 := own_take (m := (Go.Lib.compact (xs.map toB)).length) hs (by omega)
    have e1 : (encs Value.string (xs.take 0 ++ (Go.Lib.compact (xs.map toB) ++ List.replicate (xs.length - (Go.Lib.compact (xs.map toB)).length) []).map ofBytes ++ xs.drop (0 + ((Go.Lib.compact (xs.map toB) ++ List.replicate (xs.length - (Go.Lib.compact (xs.map toB)).length) []).map ofBytes).length))).take ((Go.Lib.compact (xs.map toB)).length * 1) = encs Value.string (compB xs) := by
      rw [List.take_zero, List.nil_append, List.map_append, List.append_assoc, encs_append]
      exact List.take_left' (by rw [encs_length, List.length_map, Nat.mul_one])
    rw [e1] at ho2
    have hlen : (Go.Lib.compact (xs.map toB)).length = (compB xs).length := by simp [compB]
    rw [hlen] at ho2
    have ho3 := Kd.R_of_own (h1 := fun _ => rfl) (ok := fun _ => True) ho2 (fun _ _ => trivial)
    rw [← hlen] at ho3
    exact ⟨_, rfl, ho3, hb⟩
end Go.Proofs.Ytmfmmcmccapocaa.X

