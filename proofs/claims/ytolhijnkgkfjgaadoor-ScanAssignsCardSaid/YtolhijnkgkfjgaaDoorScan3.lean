/- The scanner: one is taken out of its register. The scanner: one instead of a lighter one. What holds of the scanner's registers and places: plain. The scanner: all that are in slots once more. The closures of slots: whom a span meets among those of a slot. The slots' rows; which of them a span may be in. -/
import Derived.Test.YtolhijnkgkfjgaaDoorDel
namespace Go.Proofs.YtolhijnkgkfjgaaDoor.XC
open Go.RowKit Go.Proofs.YtolhijnkgkfjgaaDoorW.PrintWords Go.Proofs.YtolhijnkgkfjgaaDoorW.PrintLast Go.Proofs.YtolhijnkgkfjgaaDoorW.PrintMore
attribute [local go_sem] max2_int min2_int max_two min_two max_three min_three max_four min_four   -- for this text's walks alone
set_option linter.unusedVariables false
set_option linter.unusedSimpArgs false
set_option maxHeartbeats 8000000 in
set_option maxRecDepth 100000 in
theorem s_out (w0 w : World) (hB : Below w0.heap.size w0 w) (A : Option Addr) (n c : Nat) (B p gi k : Nat) (va : Value) (vs : List Value) (ins : List (List Int)) (at_ : List Int) (hs : SC w B p gi k va A n c vs ins at_) (hB0 : w0.heap.size ≤ B) (hBw : B ≤ w.heap.size) (r : Nat) (hrk : r < k) (id : Int) (h0 : 0 ≤ id) (h1 : id < (at_.length : Int)) (hat : rd at_ id = (r : Int)) (hne : (rAt ins r).length ≠ 0) :
    Calls Tryd.prog 32 #[.pointer (some ⟨p, 0, none⟩), .int .i64 id] w fun e w' => e = .returned (.tuple #[]) ∧ Left w0 w w' B p gi k va A n c vs (ins.set r (delF (rAt ins r) id)) (at_.set id.toNat 256) := by
  obtain ⟨ga, ca, hva, hgaB, hgal, cells, hga⟩ := Kd.R_form hs.hat (by omega)
  obtain ⟨row, hrow⟩ : ∃ row, row = rAt ins r := ⟨_, rfl⟩
  rw [← hrow] at hne ⊢
  have hrr : RI w B (vAt vs r) row := by rw [hrow]; exact hs.hrow r hrk
  obtain ⟨gr, cr, hv, hgrB, hgrl, cells2, hgr⟩ := Kd.R_form hrr (by omega)
  have hmf : ∀ (fn : Fn) (first cap : Array Value) (w : World), (Instr.makeFunc fn first cap).run Tryd.prog w = .ok (.func fn first cap) w := fun _ _ _ _ => rfl
  have HS := Aside0.mk hs
  have HB := Aside0.mk hB
  have HB0 := Aside0.mk hB0
  have HBW := Aside0.mk hBw
  have HRK := Aside0.mk hrk
  have HID := Aside0.mk (And.intro h0 h1)
  have HVA := Aside0.mk hva
  have HV := Aside0.mk hv
  have HAT := Aside0.mk hat
  have HGA := Aside0.mk (show w0.heap.size ≤ ga by omega)
  have HGR := Aside0.mk (show w0.heap.size ≤ gr ∧ gr < w.heap.size by omega)
  have p1 : (0 ≤ (r : Int)) = True := eq_true (by omega)
  have p2 : (r < k) = True := eq_true hrk
  have p3 : ((r : Int) < (k : Int)) = True := eq_true (by omega)
  have p4 : (0 ≤ id) = True := eq_true h0
  have p5 : (id < (at_.length : Int)) = True := eq_true h1
  have hown : (vAt vs r).ownBlock = some gr := by rw [hv]; rfl
  have HOWN := Aside0.mk hown
  have HRR := Aside0.mk hrr
  have HROW := Aside0.mk hrow
  clear hrow hs hB hB0 hBw hva hgaB hgal hga hrk h0 h1 hv hrr hgrB hgrl hgr hat hne hown
  go_enter Tryd.func32, Tryd.ntmps32
  go_wp2
  obtain ⟨w1, hw1⟩ : ∃ w1, w1 = w.alloc (Obj.cells #[.int .i64 id] 3) := ⟨_, rfl⟩
  obtain ⟨tp, htp⟩ : ∃ tp, tp = w.heap.size := ⟨_, rfl⟩
  have hb : Below w.heap.size w w1 := by rw [hw1]; exact below_alloc (Below.refl _ _) _
  have hbox : w1.heap[tp]? = some (.cells #[.int .i64 id] 3 (0, 0)) := by rw [hw1, htp]; show (w.heap.push _)[w.heap.size]? = _; exact Array.getElem?_push_size
  rw [← hw1, ← htp]
  have HTP := Aside0.mk (show tp ≠ gr ∧ tp ≠ ga ∧ tp < w1.heap.size from ⟨by have := HGR.out; omega, fun e => by have h := Kd.R_lt HS.out.hat ga (by rw [HVA.out]; rfl); omega, blk_lt hbox⟩)
  have HTP2 := Aside0.mk (show tp ≠ gi ∧ tp ≠ p by have h1 := HS.out.ltg; have h2 := HS.out.ltp; omega)
  have HBX := Aside0.mk hbox
  have HB1 := Aside0.mk hb
  have HS1 := Aside0.mk (HS.out.below hb)
  have hy2 := HS1.out.c2
  rw [HVA.out] at hy2
  have hxb : w1.cell? ⟨tp, 0, none⟩ = some (.int .i64 id) := (blk_cell hbox 0).trans rfl
  have hxa := (Kd.R_celln 0 (show RI w1 B (.slice (some ⟨ga, 0, none⟩) at_.length ca) at_ by rw [← HVA.out]; exact HS1.out.hat) id HID.out.1 HID.out.2).1
  rw [show rdOf 0 at_ id = (r : Int) from HAT.out] at hxa
  have HSB := Aside0.mk (show ∀ W_, Below w1.heap.size w1 W_ → W_.cell? ⟨p, 1, none⟩ = some (.slice (some ⟨gi, 0, none⟩) k k) ∧ W_.cell? ⟨gi, r, none⟩ = some (.slice (some ⟨gr, 0, none⟩) row.length cr) from fun W_ hk => ⟨(HS1.out.below hk).c1, by rw [← HV.out]; exact (HS1.out.below hk).cr HRK.out⟩)
  have HRR1 := Aside0.mk (show RI w1 B (.slice (some ⟨gr, 0, none⟩) row.length cr) row by rw [← HV.out]; exact Kd.R_below HRR.out hb)
  clear hb hbox hw1 htp
  go_wp2
  repeat (go_quiet (fail); try go_wp2)
  generalize hw2 : w1.drewN _ = w2
  have HB2 := Aside0.mk (show Below w1.heap.size w1 w2 by rw [← hw2]; exact pw_below_drewN (Below.refl _ _) _)
  have HBB := Aside0.mk (show Below w0.heap.size w0 w2 from below_step (below_step HB.out HB1.out) HB2.out)
  have HRR2 := Aside0.mk (show RI w2 B (.slice (some ⟨gr, 0, none⟩) row.length cr) row from Kd.R_below HRR1.out HB2.out)
  have hxb2 : w2.cell? ⟨tp, 0, none⟩ = some (.int .i64 id) := HB2.out.cell (p := ⟨tp, 0, none⟩) HTP.out.2.2 |>.trans hxb
  have HXB2 := Aside0.mk (show w2.drew.cell? ⟨tp, 0, none⟩ = some (.int .i64 id) from hxb2)
  clear hw2 hxb hxa hy2 hxb2
  refine start_ (n := 16) (S := fun w' => w'.cell? ⟨p, 1, none⟩ = some (.slice (some ⟨gi, 0, none⟩) k k) ∧ w'.cell? ⟨gi, r, none⟩ = some (.slice (some ⟨gr, 0, none⟩) row.length cr)) (ds := [15]) #[false, false, false, false, false, false, false, false, false, false, false, false, false, false, false, false] (by kernel_rfl) rfl rfl ⟨(HSB.out _ (below_drew1 HB2.out)).1, (HSB.out _ (below_drew1 HB2.out)).2⟩ (fun hHeld => ?_)
  refine pure_ (i := 0) (N := some 12) (v := ?_) (a' := ?_) #[true, false, false, false, false, false, false, false, false, false, false, false, false, false, false, false] rfl rfl (by kernel_rfl) (fun _ _ _ h => h) (Or.inl ⟨by rfl, ?_⟩) ?_ ?_
  rotate_left
  · intro w'
    go_simp
    with_reducible rfl
  rotate_left
  · simp only [Act.put, List.setIfInBounds_toArray, List.set_cons_zero, List.set_cons_succ, i64_w, i32_w]
    rfl
  refine pure_ (i := 1) (N := some 13) (v := ?_) (a' := ?_) #[true, true, false, false, false, false, false, false, false, false, false, false, false, false, false, false] rfl rfl (by kernel_rfl) (fun _ _ _ h => h) (Or.inl ⟨by rfl, ?_⟩) ?_ ?_
  rotate_left
  · intro w'
    go_simp
    with_reducible rfl
  rotate_left
  · simp only [Act.put, List.setIfInBounds_toArray, List.set_cons_zero, List.set_cons_succ, i64_w, i32_w]
    rfl
  refine pure_ (i := 2) (N := some 14) (v := ?_) (a' := ?_) #[true, true, true, false, false, false, false, false, false, false, false, false, false, false, false, false] rfl rfl (by kernel_rfl) (fun _ _ _ h => h) (Or.inl ⟨by rfl, ?_⟩) ?_ ?_
  rotate_left
  · intro w'
    go_simp
    with_reducible rfl
  rotate_left
  · simp only [Act.put, List.setIfInBounds_toArray, List.set_cons_zero, List.set_cons_succ, i64_w, i32_w]
    rfl
  refine pure_ (i := 4) (N := some 16) (v := ?_) (a' := ?_) #[true, true, true, false, true, false, false, false, false, false, false, false, false, false, false, false] rfl rfl (by kernel_rfl) (fun _ _ _ h => h) (Or.inl ⟨by rfl, ?_⟩) ?_ ?_
  rotate_left
  · intro w'
    go_simp
    with_reducible rfl
  rotate_left
  · simp only [Act.put, List.setIfInBounds_toArray, List.set_cons_zero, List.set_cons_succ, i64_w, i32_w]
    rfl
  refine pure_ (i := 5) (N := some 17) (v := ?_) (a' := ?_) #[true, true, true, false, true, true, false, false, false, false, false, false, false, false, false, false] rfl rfl (by kernel_rfl) (fun _ _ _ h => h) (Or.inl ⟨by rfl, ?_⟩) ?_ ?_
  rotate_left
  · intro w'
    go_simp
    with_reducible rfl
  rotate_left
  · simp only [Act.put, List.setIfInBounds_toArray, List.set_cons_zero, List.set_cons_succ, i64_w, i32_w]
    rfl
  refine pure_ (i := 6) (N := some 18) (v := ?_) (a' := ?_) #[true, true, true, false, true, true, true, false, false, false, false, false, false, false, false, false] rfl rfl (by kernel_rfl) (fun _ _ _ h => h) (Or.inl ⟨by rfl, ?_⟩) ?_ ?_
  rotate_left
  · intro w'
    go_simp
    with_reducible rfl
  rotate_left
  · simp only [Act.put, List.setIfInBounds_toArray, List.set_cons_zero, List.set_cons_succ, i64_w, i32_w]
    rfl
  refine pure_ (i := 7) (N := some 19) (v := ?_) (a' := ?_) #[true, true, true, false, true, true, true, true, false, false, false, false, false, false, false, false] rfl rfl (by kernel_rfl) (fun _ _ _ h => h) (Or.inl ⟨by rfl, ?_⟩) ?_ ?_
  rotate_left
  · intro w'
    go_simp
    with_reducible rfl
  rotate_left
  · simp only [Act.put, List.setIfInBounds_toArray, List.set_cons_zero, List.set_cons_succ, i64_w, i32_w]
    rfl
  refine pure_ (i := 9) (N := some 21) (v := ?_) (a' := ?_) #[true, true, true, false, true, true, true, true, false, true, false, false, false, false, false, false] rfl rfl (by kernel_rfl) (fun _ _ _ h => h) (Or.inl ⟨by rfl, ?_⟩) ?_ ?_
  rotate_left
  · intro w'
    go_simp
    with_reducible rfl
  rotate_left
  · simp only [Act.put, List.setIfInBounds_toArray, List.set_cons_zero, List.set_cons_succ, i64_w, i32_w]
    rfl
  refine pure_ (i := 12) (N := some 24) (v := ?_) (a' := ?_) #[true, true, true, false, true, true, true, true, false, true, false, false, true, false, false, false] rfl rfl (by kernel_rfl) (fun _ _ _ h => h) (Or.inl ⟨by rfl, ?_⟩) ?_ ?_
  rotate_left
  · intro w'
    go_simp
    with_reducible rfl
  rotate_left
  · simp only [Act.put, List.setIfInBounds_toArray, List.set_cons_zero, List.set_cons_succ, i64_w, i32_w]
    rfl
  refine take_ (i := 3) (N := some 15) (v := ?_) (a' := ?_) #[true, true, true, true, true, true, true, true, false, true, false, false, true, false, false, false] rfl rfl (by kernel_rfl) (fun _ _ _ h => h) (Or.inl ⟨by rfl, ?_⟩) hHeld ?_ ?_
  rotate_left
  · rintro w' ⟨s0, s1⟩
    go_simp
    with_reducible rfl
  rotate_left
  · simp only [Act.put, List.setIfInBounds_toArray, List.set_cons_zero, List.set_cons_succ, i64_w, i32_w]
    rfl
  refine take_ (i := 8) (N := some 20) (v := ?_) (a' := ?_) #[true, true, true, true, true, true, true, true, true, true, false, false, true, false, false, false] rfl rfl (by kernel_rfl) (fun _ _ _ h => h) (Or.inl ⟨by rfl, ?_⟩) hHeld ?_ ?_
  rotate_left
  · rintro w' ⟨s0, s1⟩
    go_simp
    with_reducible rfl
  rotate_left
  · simp only [Act.put, List.setIfInBounds_toArray, List.set_cons_zero, List.set_cons_succ, i64_w, i32_w]
    rfl
  refine pure_ (i := 10) (N := some 22) (v := ?_) (a' := ?_) #[true, true, true, true, true, true, true, true, true, true, true, false, true, false, false, false] rfl rfl (by kernel_rfl) (fun _ _ _ h => h) (Or.inl ⟨by rfl, ?_⟩) ?_ ?_
  rotate_left
  · intro w'
    go_simp
    with_reducible rfl
  rotate_left
  · simp only [Act.put, List.setIfInBounds_toArray, List.set_cons_zero, List.set_cons_succ, i64_w, i32_w]
    rfl
  refine take_ (i := 11) (N := some 23) (v := ?_) (a' := ?_) #[true, true, true, true, true, true, true, true, true, true, true, true, true, false, false, false] rfl rfl (by kernel_rfl) (fun _ _ _ h => h) (Or.inl ⟨by rfl, ?_⟩) hHeld ?_ ?_
  rotate_left
  · rintro w' ⟨s0, s1⟩
    go_simp
    with_reducible rfl
  rotate_left
  · simp only [Act.put, List.setIfInBounds_toArray, List.set_cons_zero, List.set_cons_succ, i64_w, i32_w]
    rfl
  refine one_ (i := 13) (N := some 25) #[true, true, true, true, true, true, true, true, true, true, true, true, true, true, false, false] rfl rfl (by kernel_rfl) (by decide) (fun K hK => ?_)
  refine goes_ Tryd.func46 (by kernel_rfl) rfl #[.slice (some ⟨gr, 0, none⟩) row.length cr, .func (.func 47) #[] #[.pointer (some ⟨tp, 0, none⟩)]] (by rfl) rfl rfl (by simp only [List.map_toArray, List.map_cons, List.map_nil]; rfl) ?_
  with_reducible refine (s_del w2.drew B gr cr row id tp (Kd.R_drew HRR2.out) (Nat.lt_of_lt_of_le HTP.out.2.2 (below_drew1 HB2.out).size) HTP.out.1 HXB2.out).mono ?_
  rintro e w3 ⟨rfl, hR3, hK3, hB3⟩
  refine ⟨_, rfl, ?_⟩
  have HR3 := Aside0.mk hR3
  have HK3 := Aside0.mk hK3
  have HB3 := Aside0.mk (hB3 w0 (below_drew1 HBB.out) HGR.out.1)
  have HC3 := Aside0.mk (HSB.out _ (below_drew1 HB2.out))
  have HPG := Aside0.mk (show p ≠ gr ∧ gi ≠ gr from ⟨fun e => HS.out.nepv HRR.out (by rw [HOWN.out, e]), fun e => HS.out.negv HRR.out (by rw [HOWN.out, e])⟩)
  have hy0 : w3.cell? ⟨p, 1, none⟩ = some (.slice (some ⟨gi, 0, none⟩) k k) := cell_kept HC3.out.1 hK3 HPG.out.1
  have hy1 : w3.cell? ⟨gi, r, none⟩ = some (.slice (some ⟨gr, 0, none⟩) row.length cr) := cell_kept HC3.out.2 hK3 HPG.out.2
  have hz1 : w3.frozen? ⟨gi, r, none⟩ = false := blk_frozen (blk_kept ((HS1.out.below HB2.out).drew).hin hK3 HPG.out.2) r
  clear hR3 hK3 hB3
  refine hK.out _ _ ⟨hy0, hy1⟩ (fun hHeld => ?_)
  clear hK K
  refine norm_ (a' := ?_) ?_ ?_
  rotate_left
  · show Act.put _ (some 25) _ = _
    simp only [Act.put, List.setIfInBounds_toArray, List.set_cons_zero, List.set_cons_succ, i64_w, i32_w]
    rfl
  refine pure_ (i := 14) (N := some 26) (v := ?_) (a' := ?_) #[true, true, true, true, true, true, true, true, true, true, true, true, true, true, true, false] rfl rfl (by kernel_rfl) (fun _ _ _ h => h) (Or.inl ⟨by rfl, ?_⟩) ?_ ?_
  rotate_left
  · intro w'
    go_simp
    with_reducible rfl
  rotate_left
  · simp only [Act.put, List.setIfInBounds_toArray, List.set_cons_zero, List.set_cons_succ, i64_w, i32_w]
    rfl
  refine last_ (i := 15) (N := none) #[true, true, true, true, true, true, true, true, true, true, true, true, true, true, true, true] rfl rfl (by kernel_rfl) (by decide) (fun K hK => ?_)
  refine skip_ (w1 := ?_) (by rfl) rfl ?_ ?_
  rotate_left
  · go_simp
    rfl
  refine hK.out _ _ ?_
  clear hK K
  refine done_ (by kernel_rfl) ?_

  have HKR := Aside0.mk (show Kept w2.drew w3 (fun b => (vAt vs r).ownBlock = some b) from HK3.out.mono (fun b hb => by rw [HOWN.out, hb]))
  have HNO := Aside0.mk (show NewOr w2.drew (vAt vs r) (.slice (some ⟨gr, 0, none⟩) (delF row id).length cr) from fun b hb => .inl (by rw [HOWN.out]; exact hb))
  have HS2 := Aside0.mk ((HS1.out.below HB2.out).drew)
  have HS4 := Aside0.mk (SC.setRow HS2.out HRK.out HR3.out HKR.out HNO.out)
  have HK4 := Aside0.mk (Kept_setRow HS2.out HRK.out HKR.out (.slice (some ⟨gr, 0, none⟩) (delF row id).length cr))
  have HB4 := Aside0.mk (below_set (j := r) (v := .slice (some ⟨gr, 0, none⟩) (delF row id).length cr) HB3.out (Nat.le_trans HB0.out HS.out.hB))
  have HX4 := Aside0.mk (show (w3.setCell ⟨gi, r, none⟩ (.slice (some ⟨gr, 0, none⟩) (delF row id).length cr)).heap[tp]? = some (.cells #[.int .i64 id] 3 (0, 0)) from (Below.heap_setCell _ ⟨gi, r, none⟩ _ _ HTP2.out.1).trans ((HK3.out.2 tp (Nat.lt_of_lt_of_le HTP.out.2.2 (below_drew1 HB2.out).size) HTP.out.1).trans ((HB2.out.block tp HTP.out.2.2).trans HBX.out)))
  have HKA := Aside0.mk (show Kept w (w3.setCell ⟨gi, r, none⟩ (.slice (some ⟨gr, 0, none⟩) (delF row id).length cr)) (SK gi k va vs) from (Kept.of_below (below_step HB1.out (below_drew1 HB2.out)) _).then_ HK4.out (fun b hb => .inl hb))
  have HSKN := Aside0.mk (show ∀ b, SK gi k va (vs.set r (.slice (some ⟨gr, 0, none⟩) (delF row id).length cr)) b → SK gi k va vs b ∨ w.heap.size ≤ b from fun b hb => (SK_setRow HS2.out HRK.out HNO.out hb).elim .inl (fun h => .inr (Nat.le_trans (below_step HB1.out (below_drew1 HB2.out)).size h)))
  clear hHeld hy0 hy1 hz1 HB3 HR3 HK3 HC3 HKR HNO HS2 HK4 HSB HRR1 HRR2 HXB2
  generalize w3.setCell ⟨gi, r, none⟩ (.slice (some ⟨gr, 0, none⟩) (delF row id).length cr) = w4 at HS4 HKA HB4 HX4 ⊢
  have hy2 := HS4.out.c2
  rw [HVA.out] at hy2
  have hxb : w4.cell? ⟨tp, 0, none⟩ = some (.int .i64 id) := (blk_cell HX4.out 0).trans rfl
  have HS5 := Aside0.mk HS4.out.drew
  have HK5 := Aside0.mk HKA.out.drew
  have HB5 := Aside0.mk (below_drew1 HB4.out)
  obtain ⟨hy3, hz3⟩ := Kd.R_celln 0 (show RI w4.drew B (.slice (some ⟨ga, 0, none⟩) at_.length ca) at_ by rw [← HVA.out]; exact HS5.out.hat) id HID.out.1 HID.out.2
  clear HS4 HKA HB4 HX4
  go_wp2
  refine start_ (n := 7) (S := fun w' => w'.cell? ⟨p, 2, none⟩ = some (.slice (some ⟨ga, 0, none⟩) at_.length ca) ∧ w'.cell? ⟨tp, 0, none⟩ = some (.int .i64 id)) (ds := [6]) #[false, false, false, false, false, false, false] (by kernel_rfl) rfl rfl ⟨hy2, hxb⟩ (fun hHeld => ?_)
  generalize w4.drew = w5 at HS5 HK5 HB5 hy3 hz3 hHeld ⊢
  refine pure_ (i := 0) (N := some 27) (v := ?_) (a' := ?_) #[true, false, false, false, false, false, false] rfl rfl (by kernel_rfl) (fun _ _ _ h => h) (Or.inl ⟨by rfl, ?_⟩) ?_ ?_
  rotate_left
  · intro w'
    go_simp
    with_reducible rfl
  rotate_left
  · simp only [Act.put, List.setIfInBounds_toArray, List.set_cons_zero, List.set_cons_succ, i64_w, i32_w]
    rfl
  refine pure_ (i := 1) (N := some 28) (v := ?_) (a' := ?_) #[true, true, false, false, false, false, false] rfl rfl (by kernel_rfl) (fun _ _ _ h => h) (Or.inl ⟨by rfl, ?_⟩) ?_ ?_
  rotate_left
  · intro w'
    go_simp
    with_reducible rfl
  rotate_left
  · simp only [Act.put, List.setIfInBounds_toArray, List.set_cons_zero, List.set_cons_succ, i64_w, i32_w]
    rfl
  refine pure_ (i := 2) (N := some 29) (v := ?_) (a' := ?_) #[true, true, true, false, false, false, false] rfl rfl (by kernel_rfl) (fun _ _ _ h => h) (Or.inl ⟨by rfl, ?_⟩) ?_ ?_
  rotate_left
  · intro w'
    go_simp
    with_reducible rfl
  rotate_left
  · simp only [Act.put, List.setIfInBounds_toArray, List.set_cons_zero, List.set_cons_succ, i64_w, i32_w]
    rfl
  refine take_ (i := 3) (N := some 30) (v := ?_) (a' := ?_) #[true, true, true, true, false, false, false] rfl rfl (by kernel_rfl) (fun _ _ _ h => h) (Or.inl ⟨by rfl, ?_⟩) hHeld ?_ ?_
  rotate_left
  · rintro w' ⟨s0, s1⟩
    go_simp
    with_reducible rfl
  rotate_left
  · simp only [Act.put, List.setIfInBounds_toArray, List.set_cons_zero, List.set_cons_succ, i64_w, i32_w]
    rfl
  refine take_ (i := 4) (N := some 31) (v := ?_) (a' := ?_) #[true, true, true, true, true, false, false] rfl rfl (by kernel_rfl) (fun _ _ _ h => h) (Or.inl ⟨by rfl, ?_⟩) hHeld ?_ ?_
  rotate_left
  · rintro w' ⟨s0, s1⟩
    go_simp
    with_reducible rfl
  rotate_left
  · simp only [Act.put, List.setIfInBounds_toArray, List.set_cons_zero, List.set_cons_succ, i64_w, i32_w]
    rfl
  refine pure_ (i := 5) (N := some 32) (v := ?_) (a' := ?_) #[true, true, true, true, true, true, false] rfl rfl (by kernel_rfl) (fun _ _ _ h => h) (Or.inl ⟨by rfl, ?_⟩) ?_ ?_
  rotate_left
  · intro w'
    go_simp
    with_reducible rfl
  rotate_left
  · simp only [Act.put, List.setIfInBounds_toArray, List.set_cons_zero, List.set_cons_succ, i64_w, i32_w]
    rfl
  refine last_ (i := 6) (N := none) #[true, true, true, true, true, true, true] rfl rfl (by kernel_rfl) (by decide) (fun K hK => ?_)
  refine skip_ (w1 := ?_) (by rfl) rfl ?_ ?_
  rotate_left
  · go_simp
    rfl
  refine hK.out _ _ ?_
  clear hK K
  refine done_ (by kernel_rfl) ?_

  go_wp2
  go_end0
  exact ⟨rfl, _, SC.setAt HS5.out id.toNat 256 HVA.out, below_set HB5.out HGA.out, HK5.out.setCell (p := ⟨ga, id.toNat, none⟩) (.inl (SK_ga HVA.out)) _, HSKN.out⟩
end Go.Proofs.YtolhijnkgkfjgaaDoor.XC
namespace Go.Proofs.YtolhijnkgkfjgaaDoor.XC
open Go.RowKit Go.Proofs.YtolhijnkgkfjgaaDoorW.PrintWords Go.Proofs.YtolhijnkgkfjgaaDoorW.PrintLast Go.Proofs.YtolhijnkgkfjgaaDoorW.PrintMore
attribute [local go_sem] max2_int min2_int max_two min_two max_three min_three max_four min_four   -- for this text's walks alone
set_option linter.unusedVariables false
set_option linter.unusedSimpArgs false
def bestStep (mt : Int → Int → Bool) (l : List Sp) (ins : List (List Int)) (id : Int) (r : Nat) (b : Int) : Int :=
  if (meetsF mt ins r id).length = 1 ∧ lightF l ((meetsF mt ins r id).getD 0 0) id = true ∧ (b = -1 ∨ lightF l ((meetsF mt ins r id).getD 0 0) b = true) then (meetsF mt ins r id).getD 0 0 else b
def bestFrom (mt : Int → Int → Bool) (l : List Sp) (ins : List (List Int)) (id : Int) : Nat → Nat → Int → Int
  | 0, _, b => b
  | m + 1, r, b => bestFrom mt l ins id m (r + 1) (bestStep mt l ins id r b)
def bestF (mt : Int → Int → Bool) (l : List Sp) (k : Nat) (ins : List (List Int)) (id : Int) : Int := bestFrom mt l ins id k 0 (-1)
def insteadI (mt : Int → Int → Bool) (l : List Sp) (k : Nat) (ins : List (List Int)) (at_ : List Int) (id : Int) : List (List Int) :=
  if bestF mt l k ins id = -1 then ins else putI (ins.set (rd at_ (bestF mt l k ins id)).toNat (delF (rAt ins (rd at_ (bestF mt l k ins id)).toNat) (bestF mt l k ins id))) (rd at_ (bestF mt l k ins id)).toNat id
def insteadA (mt : Int → Int → Bool) (l : List Sp) (k : Nat) (ins : List (List Int)) (at_ : List Int) (id : Int) : List Int :=
  if bestF mt l k ins id = -1 then at_.set id.toNat 256 else (at_.set (bestF mt l k ins id).toNat 256).set id.toNat (rd at_ (bestF mt l k ins id))
/-- Who is in a register has it. -/
def Cons (k : Nat) (ins : List (List Int)) (at_ : List Int) : Prop := ∀ r, r < k → ∀ o ∈ rAt ins r, rd at_ o = (r : Int)
theorem Left.comp {w0 w w1 w2 : World} {B p gi k n c : Nat} {va : Value} {A : Option Addr} {vs vs1 : List Value} {ins : List (List Int)} {at_ : List Int} (hK : Kept w w1 (SK gi k va vs)) (hN : ∀ b, SK gi k va vs1 b → SK gi k va vs b ∨ w.heap.size ≤ b) (h : Left w0 w1 w2 B p gi k va A n c vs1 ins at_) : Left w0 w w2 B p gi k va A n c vs ins at_ := by
  obtain ⟨vs', h1, h2, h3, h4⟩ := h
  exact ⟨vs', h1, h2, hK.then_ h3 hN, fun b hb => (h4 b hb).elim (hN b) (fun h => .inr (Nat.le_trans hK.1 h))⟩
set_option maxHeartbeats 8000000 in
set_option maxRecDepth 100000 in
theorem s_instead (w0 w : World) (hB : Below w0.heap.size w0 w) (A : Option Addr) (c : Nat) (l : List Sp) (hr : Kd.C k44 w0 A l.length l) (hl : l.length < 100000) (B p gi k : Nat) (va : Value) (vs : List Value) (ins : List (List Int)) (at_ : List Int) (hs : SC w B p gi k va A l.length c vs ins at_) (mt : Int → Int → Bool) (hm : MeetIs l mt) (hB0 : w0.heap.size ≤ B) (hBw : B ≤ w.heap.size) (hk : k < 100000) (id : Int) (h0 : 0 ≤ id) (h1 : id < (l.length : Int)) (hal : at_.length = l.length) (hg : Good l ins) (hrl : ∀ r, (rAt ins r).length < 100000) (hrs : ∀ x, (rdS l x).f0.length < 1000000000) (hcons : Cons k ins at_) :
    Calls Tryd.prog 18 #[.pointer (some ⟨p, 0, none⟩), .int .i64 id] w fun e w' => e = .returned (.tuple #[]) ∧ Left w0 w w' B p gi k va A l.length c vs (insteadI mt l k ins at_ id) (insteadA mt l k ins at_ id) := by
  unfold insteadI insteadA
  obtain ⟨F, hF⟩ : ∃ F, F = bestF mt l k ins id := ⟨_, rfl⟩
  rw [← hF]
  have HF := Aside0.mk (show F = bestFrom mt l ins id k 0 (-1) from hF)
  obtain ⟨I1, hI1⟩ : ∃ I1, I1 = if F = -1 then ins else putI (ins.set (rd at_ F).toNat (delF (rAt ins (rd at_ F).toNat) F)) (rd at_ F).toNat id := ⟨_, rfl⟩
  obtain ⟨A1, hA1⟩ : ∃ A1, A1 = if F = -1 then at_.set id.toNat 256 else (at_.set F.toNat 256).set id.toNat (rd at_ F) := ⟨_, rfl⟩
  rw [← hI1, ← hA1]
  have HI1 := Aside0.mk hI1
  have HA1 := Aside0.mk hA1
  clear hI1 hA1
  have hx1 := hs.c1
  have HS := Aside0.mk hs
  have HB := Aside0.mk hB
  have HR := Aside0.mk hr
  have HM := Aside0.mk hm
  have HB0 := Aside0.mk hB0
  have HBW := Aside0.mk hBw
  have HKB := Aside0.mk hk
  have HID := Aside0.mk (And.intro h0 h1)
  have HAL := Aside0.mk hal
  have HG := Aside0.mk hg
  have HRL := Aside0.mk hrl
  have HRS := Aside0.mk hrs
  have HL := Aside0.mk hl
  have HCO := Aside0.mk hcons
  clear hF hs hB hr hm hB0 hBw hk h0 h1 hal hg hrl hrs hl hcons
  go_enter Tryd.func18, Tryd.ntmps18
  go_wp2
  go_loopg [4, 13] k (fun kq v4 v13 w' => ∃ (i : Nat) (b : Int), v13 = .int .i64 (i : Int) ∧ v4 = .int .i64 b ∧ Aside0 (kq + i = k) ∧ Aside0 (F = bestFrom mt l ins id kq i b) ∧ Aside0 (b = -1 ∨ ∃ r, r < k ∧ b ∈ rAt ins r) ∧ Aside0 (Below w.heap.size w w'))
  case atStart => exact ⟨0, -1, rfl, rfl, ⟨rfl⟩, HF, ⟨.inl rfl⟩, ⟨Below.refl _ _⟩⟩
  case round =>
    clear HF
    obtain ⟨i, b, rfl, rfl, HK, HF, HBE, HW⟩ := hrel
    by_cases hi : i < k
    · obtain ⟨k1, rfl⟩ : ∃ k1, gk = k1 + 1 := ⟨gk - 1, by have := HK.out; omega⟩
      have hc : decide ((i : Int) < (k : Int)) = true := decide_eq_true (by omega)
      have hi2 : (i < k) = True := eq_true hi
      have hw := wrap_succ i k hi (by have := HKB.out; omega)
      have HI := Aside0.mk hi
      have hF := HF.out
      rw [bestFrom, bestStep] at hF
      clear hi HF
      obtain ⟨q, hq⟩ : ∃ q, q = meetsF mt ins i id := ⟨_, rfl⟩
      rw [← hq] at hF
      have HQ := Aside0.mk hq
      have hmem : ∀ o ∈ q, o ∈ rAt ins i := fun o ho => by rw [hq] at ho; exact (List.mem_filter.1 ho).1
      clear hq
      by_cases h1 : q.length = 1
      · obtain ⟨o, rfl⟩ : ∃ o, q = [o] := List.length_eq_one_iff.1 h1
        have hog := HG.out i o (hmem o (List.mem_singleton.2 rfl))
        have HO := Aside0.mk hog
        have HOM := Aside0.mk (hmem o (List.mem_singleton.2 rfl))
        clear h1 hmem hog
        simp only [List.length_singleton, true_and, List.getD_cons_zero] at hF
        by_cases hl1 : lightF l o id = true
        · have HL1 := Aside0.mk hl1
          by_cases hb1 : b = -1
          · rw [if_pos ⟨hl1, .inl hb1⟩] at hF
            have HF := Aside0.mk hF
            have hbb : (b == -1) = true := beq_iff_eq.mpr hb1
            clear hF hl1 hb1
            go_wp2_with (first
              | (go_at_call 29; refine (s_meets w0 _ (below_step HB.out HW.out) A c l HR.out HL.out B p gi k va vs ins at_ (HS.out.below HW.out) mt HM.out i HI.out id HID.out.1 HID.out.2 HG.out (HRL.out i)).mono ?_; rintro e w7 ⟨v7, rfl, hR7, hb7⟩; rw [← HQ.out] at hR7; obtain ⟨g7, c7, e7, _, _, _, _⟩ := Kd.R_form hR7 (by simp); subst e7; have hx7 := (Kd.R_celln 0 hR7 0 (by omega) (by simp)).1; rw [show rdOf 0 [o] 0 = o from rfl, show ((0 : Int)).toNat = 0 from rfl] at hx7; have HX7 := Aside0.mk (show ∀ W, Below w7.heap.size w7 W → W.cell? ⟨g7, 0, none⟩ = some (.int .i64 o) from fun W hk => hk.cell (p := ⟨g7, 0, none⟩) (Kd.R_lt hR7 g7 rfl) |>.trans hx7); have HB7 := Aside0.mk (below_step HW.out hb7); clear hR7 hb7)
              | (go_at_call 31; (with_reducible refine (s_lighter w0 _ (below_step HB.out HB7.out) A c l HR.out B p gi k va vs ins at_ (HS.out.below HB7.out) o id HO.out.1 HO.out.2 HID.out.1 HID.out.2 HRS.out).mono ?_; rintro e w8 ⟨rfl, hb8⟩; rw [HL1.out]; have hx8 := HX7.out _ hb8; have HB8 := Aside0.mk (below_step HB7.out hb8); have HC8 := Aside0.mk (hb8); clear hb8)))
            go_roundg k1
            case measure => omega
            case rel => exact ⟨i + 1, o, (by first | rw [hw] | rfl | (push_cast; rfl)), rfl, ⟨by have := HK.out; omega⟩, HF, ⟨.inr ⟨i, HI.out, HOM.out⟩⟩, HB8⟩
          · have hbb : (b == -1) = false := beq_eq_false_iff_ne.mpr hb1
            obtain ⟨rb, hrb, hbm⟩ := HBE.out.resolve_left hb1
            have HBI := Aside0.mk (HG.out rb b hbm)
            have HBM := Aside0.mk (show ∃ r, r < k ∧ b ∈ rAt ins r from ⟨rb, hrb, hbm⟩)
            clear hrb hbm
            by_cases hl2 : lightF l o b = true
            · rw [if_pos ⟨hl1, .inr hl2⟩] at hF
              have HF := Aside0.mk hF
              have HL2 := Aside0.mk hl2
              clear hF hl1 hb1 hl2
              go_wp2_with (first
                | (go_at_call 29; refine (s_meets w0 _ (below_step HB.out HW.out) A c l HR.out HL.out B p gi k va vs ins at_ (HS.out.below HW.out) mt HM.out i HI.out id HID.out.1 HID.out.2 HG.out (HRL.out i)).mono ?_; rintro e w7 ⟨v7, rfl, hR7, hb7⟩; rw [← HQ.out] at hR7; obtain ⟨g7, c7, e7, _, _, _, _⟩ := Kd.R_form hR7 (by simp); subst e7; have hx7 := (Kd.R_celln 0 hR7 0 (by omega) (by simp)).1; rw [show rdOf 0 [o] 0 = o from rfl, show ((0 : Int)).toNat = 0 from rfl] at hx7; have HX7 := Aside0.mk (show ∀ W, Below w7.heap.size w7 W → W.cell? ⟨g7, 0, none⟩ = some (.int .i64 o) from fun W hk => hk.cell (p := ⟨g7, 0, none⟩) (Kd.R_lt hR7 g7 rfl) |>.trans hx7); have HB7 := Aside0.mk (below_step HW.out hb7); clear hR7 hb7)
                | (go_at_call 31; first | (with_reducible refine (s_lighter w0 _ (below_step HB.out HB7.out) A c l HR.out B p gi k va vs ins at_ (HS.out.below HB7.out) o id HO.out.1 HO.out.2 HID.out.1 HID.out.2 HRS.out).mono ?_; rintro e w8 ⟨rfl, hb8⟩; rw [HL1.out]; have hx8 := HX7.out _ hb8; have HB8 := Aside0.mk (below_step HB7.out hb8); have HC8 := Aside0.mk (hb8); clear hb8) | (with_reducible refine (s_lighter w0 _ (below_step HB.out HB8.out) A c l HR.out B p gi k va vs ins at_ (HS.out.below HB8.out) o b HO.out.1 HO.out.2 HBI.out.1 HBI.out.2 HRS.out).mono ?_; rintro e w9 ⟨rfl, hb9⟩; rw [HL2.out]; have hx9 := HX7.out _ (below_step HC8.out hb9); have HB9 := Aside0.mk (below_step HB8.out hb9); have HC9 := Aside0.mk (below_step HC8.out hb9); clear hb9)))
              go_roundg k1
              case measure => omega
              case rel => exact ⟨i + 1, o, (by first | rw [hw] | rfl | (push_cast; rfl)), rfl, ⟨by have := HK.out; omega⟩, HF, ⟨.inr ⟨i, HI.out, HOM.out⟩⟩, HB9⟩
            · rw [if_neg (fun h => h.2.elim hb1 hl2)] at hF
              have HF := Aside0.mk hF
              have HL2 := Aside0.mk ((Bool.not_eq_true _).mp hl2)
              clear hF hl1 hb1 hl2
              go_wp2_with (first
                | (go_at_call 29; refine (s_meets w0 _ (below_step HB.out HW.out) A c l HR.out HL.out B p gi k va vs ins at_ (HS.out.below HW.out) mt HM.out i HI.out id HID.out.1 HID.out.2 HG.out (HRL.out i)).mono ?_; rintro e w7 ⟨v7, rfl, hR7, hb7⟩; rw [← HQ.out] at hR7; obtain ⟨g7, c7, e7, _, _, _, _⟩ := Kd.R_form hR7 (by simp); subst e7; have hx7 := (Kd.R_celln 0 hR7 0 (by omega) (by simp)).1; rw [show rdOf 0 [o] 0 = o from rfl, show ((0 : Int)).toNat = 0 from rfl] at hx7; have HX7 := Aside0.mk (show ∀ W, Below w7.heap.size w7 W → W.cell? ⟨g7, 0, none⟩ = some (.int .i64 o) from fun W hk => hk.cell (p := ⟨g7, 0, none⟩) (Kd.R_lt hR7 g7 rfl) |>.trans hx7); have HB7 := Aside0.mk (below_step HW.out hb7); clear hR7 hb7)
                | (go_at_call 31; first | (with_reducible refine (s_lighter w0 _ (below_step HB.out HB7.out) A c l HR.out B p gi k va vs ins at_ (HS.out.below HB7.out) o id HO.out.1 HO.out.2 HID.out.1 HID.out.2 HRS.out).mono ?_; rintro e w8 ⟨rfl, hb8⟩; rw [HL1.out]; have hx8 := HX7.out _ hb8; have HB8 := Aside0.mk (below_step HB7.out hb8); have HC8 := Aside0.mk (hb8); clear hb8) | (with_reducible refine (s_lighter w0 _ (below_step HB.out HB8.out) A c l HR.out B p gi k va vs ins at_ (HS.out.below HB8.out) o b HO.out.1 HO.out.2 HBI.out.1 HBI.out.2 HRS.out).mono ?_; rintro e w9 ⟨rfl, hb9⟩; rw [HL2.out]; have hx9 := HX7.out _ (below_step HC8.out hb9); have HB9 := Aside0.mk (below_step HB8.out hb9); have HC9 := Aside0.mk (below_step HC8.out hb9); clear hb9)))
              go_roundg k1
              case measure => omega
              case rel => exact ⟨i + 1, b, (by first | rw [hw] | rfl | (push_cast; rfl)), rfl, ⟨by have := HK.out; omega⟩, HF, HBE, HB9⟩
        · rw [if_neg (fun h => hl1 h.1)] at hF
          have HF := Aside0.mk hF
          have HL1 := Aside0.mk ((Bool.not_eq_true _).mp hl1)
          clear hF hl1
          go_wp2_with (first
            | (go_at_call 29; refine (s_meets w0 _ (below_step HB.out HW.out) A c l HR.out HL.out B p gi k va vs ins at_ (HS.out.below HW.out) mt HM.out i HI.out id HID.out.1 HID.out.2 HG.out (HRL.out i)).mono ?_; rintro e w7 ⟨v7, rfl, hR7, hb7⟩; rw [← HQ.out] at hR7; obtain ⟨g7, c7, e7, _, _, _, _⟩ := Kd.R_form hR7 (by simp); subst e7; have hx7 := (Kd.R_celln 0 hR7 0 (by omega) (by simp)).1; rw [show rdOf 0 [o] 0 = o from rfl, show ((0 : Int)).toNat = 0 from rfl] at hx7; have HX7 := Aside0.mk (show ∀ W, Below w7.heap.size w7 W → W.cell? ⟨g7, 0, none⟩ = some (.int .i64 o) from fun W hk => hk.cell (p := ⟨g7, 0, none⟩) (Kd.R_lt hR7 g7 rfl) |>.trans hx7); have HB7 := Aside0.mk (below_step HW.out hb7); clear hR7 hb7)
            | (go_at_call 31; (with_reducible refine (s_lighter w0 _ (below_step HB.out HB7.out) A c l HR.out B p gi k va vs ins at_ (HS.out.below HB7.out) o id HO.out.1 HO.out.2 HID.out.1 HID.out.2 HRS.out).mono ?_; rintro e w8 ⟨rfl, hb8⟩; rw [HL1.out]; have hx8 := HX7.out _ hb8; have HB8 := Aside0.mk (below_step HB7.out hb8); have HC8 := Aside0.mk (hb8); clear hb8)))
          go_roundg k1
          case measure => omega
          case rel => exact ⟨i + 1, b, (by first | rw [hw] | rfl | (push_cast; rfl)), rfl, ⟨by have := HK.out; omega⟩, HF, HBE, HB8⟩
      · rw [if_neg (fun h => h1 h.1)] at hF
        have HF := Aside0.mk hF
        have hq0 : (((q.length : Nat) : Int) == 1) = false := beq_eq_false_iff_ne.mpr (by omega)
        have hq1 : (q.length = 1) = False := eq_false h1
        clear hF h1 hmem
        go_wp2_with (go_at_call 29; refine (s_meets w0 _ (below_step HB.out HW.out) A c l HR.out HL.out B p gi k va vs ins at_ (HS.out.below HW.out) mt HM.out i HI.out id HID.out.1 HID.out.2 HG.out (HRL.out i)).mono ?_; rintro e w7 ⟨v7, rfl, hR7, hb7⟩; rw [← HQ.out] at hR7; obtain ⟨A2, c2, e2, hle2, hC2⟩ := Kd.R_reads hR7; subst e2; have HB7 := Aside0.mk (below_step HW.out hb7); clear hR7 hb7 hle2 hC2)
        go_roundg k1
        case measure => omega
        case rel => exact ⟨i + 1, b, (by first | rw [hw] | rfl | (push_cast; rfl)), rfl, ⟨by have := HK.out; omega⟩, HF, HBE, HB7⟩
    · have hc : decide ((i : Int) < (k : Int)) = false := decide_eq_false (by omega)
      have hi2 : (i < k) = False := eq_false hi
      have hF := HF.out
      rw [show gk = 0 by have := HK.out; omega, bestFrom] at hF
      subst hF
      by_cases hb1 : F = -1
      · have hbb : (F == -1) = true := beq_iff_eq.mpr hb1
        have hI := HI1.out
        have hA := HA1.out
        rw [if_pos hb1] at hI hA
        subst hI hA
        obtain ⟨ga, ca, hva, hgaB, _, _, _⟩ := Kd.R_form HS.out.hat (by rw [HAL.out]; have := HID.out; omega)
        have HSW := Aside0.mk (HS.out.below HW.out)
        have hy2 := HSW.out.c2
        rw [hva] at hy2
        obtain ⟨hy3, hz3⟩ := Kd.R_celln 0 (show RI wr B (.slice (some ⟨ga, 0, none⟩) at_.length ca) at_ by rw [← hva]; exact HSW.out.hat) id HID.out.1 (by rw [HAL.out]; exact HID.out.2)
        have p4 : (0 ≤ id) = True := eq_true HID.out.1
        have p5 : (id < (at_.length : Int)) = True := eq_true (by rw [HAL.out]; exact HID.out.2)
        have HVA := Aside0.mk hva
        have HGA := Aside0.mk (show w0.heap.size ≤ ga by have := HB0.out; omega)
        clear hva hgaB hb1
        go_wp2
        refine bodyPost_ret (results_none rfl _ _ _) rfl ?_
        exact ⟨rfl, vs, SC.setAt HSW.out id.toNat 256 HVA.out, below_set (below_step HB.out HW.out) HGA.out, (Kept.of_below HW.out _).setCell (p := ⟨ga, id.toNat, none⟩) (.inl (SK_ga HVA.out)) _, fun b hb => .inl hb⟩
      · have hbb : (F == -1) = false := beq_eq_false_iff_ne.mpr hb1
        have hI := HI1.out
        have hA := HA1.out
        rw [if_neg hb1] at hI hA
        obtain ⟨rb, hrb, hbm⟩ := HBE.out.resolve_left hb1
        have hat := HCO.out rb hrb F hbm
        have hFg := HG.out rb F hbm
        rw [hat, Int.toNat_natCast] at hI
        rw [hat] at hA
        subst hI hA
        obtain ⟨ga, ca, hva, hgaB, _, _, _⟩ := Kd.R_form HS.out.hat (by rw [HAL.out]; have := HID.out; omega)
        have HSW := Aside0.mk (HS.out.below HW.out)
        have hy2 := HSW.out.c2
        rw [hva] at hy2
        have hy3 := (Kd.R_celln 0 (show RI wr B (.slice (some ⟨ga, 0, none⟩) at_.length ca) at_ by rw [← hva]; exact HSW.out.hat) F hFg.1 (by rw [HAL.out]; exact hFg.2)).1
        rw [show rdOf 0 at_ F = (rb : Int) from hat] at hy3
        have p4 : (0 ≤ F) = True := eq_true hFg.1
        have p5 : (F < (at_.length : Int)) = True := eq_true (by rw [HAL.out]; exact hFg.2)
        have HRB := Aside0.mk hrb
        have HAT := Aside0.mk hat
        have HFG := Aside0.mk hFg
        have HNE := Aside0.mk (show (rAt ins rb).length ≠ 0 from fun e => by rw [List.eq_nil_of_length_eq_zero e] at hbm; cases hbm)
        clear hva hgaB hb1 hrb hbm hat hFg
        go_wp2_with (first
          | (go_at_call 32; refine (s_out w0 _ (below_step HB.out HW.out) A l.length c B p gi k va vs ins at_ HSW.out HB0.out (Nat.le_trans HBW.out HW.out.size) rb HRB.out F HFG.out.1 (by rw [HAL.out]; exact HFG.out.2) HAT.out HNE.out).mono ?_; rintro e w5 ⟨rfl, vs5, hS5, hB5, hK5, hN5⟩; have HS5 := Aside0.mk hS5; have HB5 := Aside0.mk hB5; have HK5 := Aside0.mk hK5; have HN5 := Aside0.mk hN5; clear hS5 hB5 hK5 hN5)
          | (go_at_call 30; refine (s_put w0 _ HB5.out A l.length c B p gi k va vs5 _ _ HS5.out HB0.out (Nat.le_trans (Nat.le_trans HBW.out HW.out.size) HK5.out.1) rb HRB.out id HID.out.1 (by rw [List.length_set, HAL.out]; exact HID.out.2) (by rw [rAt_set HS.out.hki HRB.out, if_pos rfl]; exact Nat.lt_of_le_of_lt (List.length_filter_le _ _) (HRL.out rb))).mono ?_; rintro e w6 ⟨rfl, h6⟩; have HL6 := Aside0.mk h6; clear h6))
        go_end0
        exact ⟨rfl, Left.after HW.out (Left.comp HK5.out HN5.out HL6.out)⟩
end Go.Proofs.YtolhijnkgkfjgaaDoor.XC
namespace Go.Proofs.YtolhijnkgkfjgaaDoor.XC
open Go.RowKit Go.Proofs.YtolhijnkgkfjgaaDoorW.PrintWords
set_option linter.unusedVariables false
set_option linter.unusedSimpArgs false
theorem nodup_le : ∀ (xs K : List Int), xs.Nodup → (∀ x ∈ xs, x ∈ K) → xs.length ≤ K.length
  | [], _, _, _ => Nat.zero_le _
  | x :: xs, K, hn, h => by
    rw [List.nodup_cons] at hn
    have h1 := nodup_le xs (K.erase x) hn.2 (fun y hy => (List.mem_erase_of_ne (fun (e : y = x) => hn.1 (by rw [← e]; exact hy))).2 (h y (List.mem_cons_of_mem _ hy)))
    have h2 := List.length_erase_of_mem (h x List.mem_cons_self)
    have h3 := List.length_pos_of_mem (h x List.mem_cons_self)
    rw [List.length_cons]
    omega
structure St (l : List Sp) (k : Nat) (ins : List (List Int)) (at_ : List Int) : Prop where
  hki : ins.length = k
  hal : at_.length = l.length
  good : Good l ins
  cons : Cons k ins at_
  nodup : ∀ r, (rAt ins r).Nodup
theorem rAt_out {ins : List (List Int)} {r : Nat} (h : ins.length ≤ r) : rAt ins r = [] := by
  unfold rAt
  rw [List.getD_eq_getElem?_getD, List.getElem?_eq_none h]
  rfl
theorem rd_set (v : List Int) (a p x : Int) (ha : 0 ≤ a) (hp : 0 ≤ p) (hpl : p < (v.length : Int)) : rd (v.set a.toNat x) p = if p = a then x else rd v p := by
  unfold rd
  rw [List.getD_eq_getElem?_getD, List.getD_eq_getElem?_getD, List.getElem?_set]
  by_cases e : p = a
  · subst e
    rw [if_pos rfl, if_pos rfl, if_pos (by omega)]
    rfl
  · rw [if_neg (by omega), if_neg e]
section
variable {l : List Sp} {k : Nat} {ins : List (List Int)} {at_ : List Int}
theorem St.len (h : St l k ins at_) (r : Nat) : (rAt ins r).length ≤ l.length := by
  have h1 := nodup_le (rAt ins r) ((List.range l.length).map Int.ofNat) (h.nodup r) (fun x hx => by
    have := h.good r x hx
    exact List.mem_map.2 ⟨x.toNat, List.mem_range.2 (by omega), by show ((x.toNat : Nat) : Int) = x; omega⟩)
  simpa using h1
theorem St.put (h : St l k ins at_) {r : Nat} (hr : r < k) {id : Int} (h0 : 0 ≤ id) (h1 : id < (l.length : Int)) (hnot : ∀ r', r' < k → rd at_ id ≠ (r' : Int)) : St l k (putI ins r id) (at_.set id.toNat (r : Int)) := by
  have hn : ∀ r', id ∉ rAt ins r' := fun r' hm => by
    by_cases e : r' < k
    · exact hnot r' e (h.cons r' e id hm)
    · rw [rAt_out (by rw [h.hki]; omega)] at hm; cases hm
  have hat : ∀ r', rAt (putI ins r id) r' = if r' = r then rAt ins r ++ [id] else rAt ins r' := fun r' => rAt_set h.hki hr _ r'
  refine ⟨by unfold putI; rw [List.length_set]; exact h.hki, by rw [List.length_set]; exact h.hal, fun r' o ho => ?_, fun r' hr' o ho => ?_, fun r' => ?_⟩
  · rw [hat] at ho
    by_cases e : r' = r
    · rw [if_pos e, List.mem_append, List.mem_singleton] at ho
      rcases ho with ho | rfl
      · exact h.good r o ho
      · exact ⟨h0, h1⟩
    · rw [if_neg e] at ho; exact h.good r' o ho
  · rw [hat] at ho
    by_cases e : r' = r
    · rw [if_pos e, List.mem_append, List.mem_singleton] at ho
      rcases ho with ho | rfl
      · have hg := h.good r o ho
        rw [rd_set _ _ _ _ h0 hg.1 (by rw [h.hal]; exact hg.2), if_neg (fun e2 => hn r (by rw [← e2]; exact ho)), e]
        exact h.cons r hr o ho
      · rw [rd_set _ _ _ _ h0 h0 (by rw [h.hal]; exact h1), if_pos rfl, e]
    · rw [if_neg e] at ho
      have hg := h.good r' o ho
      rw [rd_set _ _ _ _ h0 hg.1 (by rw [h.hal]; exact hg.2), if_neg (fun e2 => hn r' (by rw [← e2]; exact ho))]
      exact h.cons r' hr' o ho
  · rw [hat]
    by_cases e : r' = r
    · rw [if_pos e, List.nodup_append]
      exact ⟨h.nodup r, by simp, fun a ha b hb e2 => by rw [List.mem_singleton] at hb; exact hn r (by rw [← hb, ← e2]; exact ha)⟩
    · rw [if_neg e]; exact h.nodup r'
theorem St.out (h : St l k ins at_) {r : Nat} (hr : r < k) {o : Int} (ho : o ∈ rAt ins r) : St l k (ins.set r (delF (rAt ins r) o)) (at_.set o.toNat 256) := by
  have hog := h.good r o ho
  have hat : ∀ r', rAt (ins.set r (delF (rAt ins r) o)) r' = if r' = r then delF (rAt ins r) o else rAt ins r' := fun r' => rAt_set h.hki hr _ r'
  have hdel : ∀ x, x ∈ delF (rAt ins r) o → x ∈ rAt ins r ∧ x ≠ o := fun x hx => by
    unfold delF at hx
    rw [List.mem_filter] at hx
    exact ⟨hx.1, by simpa using hx.2⟩
  refine ⟨by rw [List.length_set]; exact h.hki, by rw [List.length_set]; exact h.hal, fun r' x hx => ?_, fun r' hr' x hx => ?_, fun r' => ?_⟩
  · rw [hat] at hx
    by_cases e : r' = r
    · rw [if_pos e] at hx; exact h.good r x (hdel x hx).1
    · rw [if_neg e] at hx; exact h.good r' x hx
  · rw [hat] at hx
    by_cases e : r' = r
    · rw [if_pos e] at hx
      have hg := h.good r x (hdel x hx).1
      rw [rd_set _ _ _ _ hog.1 hg.1 (by rw [h.hal]; exact hg.2), if_neg (hdel x hx).2, e]
      exact h.cons r hr x (hdel x hx).1
    · rw [if_neg e] at hx
      have hg := h.good r' x hx
      rw [rd_set _ _ _ _ hog.1 hg.1 (by rw [h.hal]; exact hg.2), if_neg]
      · exact h.cons r' hr' x hx
      · intro e2
        have h1 := h.cons r' hr' x hx
        have h2 := h.cons r hr o ho
        rw [e2, h2] at h1
        omega
  · rw [hat]
    by_cases e : r' = r
    · rw [if_pos e]; exact (h.nodup r).sublist List.filter_sublist
    · rw [if_neg e]; exact h.nodup r'
theorem freeFrom_some {mt : Int → Int → Bool} {ins : List (List Int)} {id : Int} : ∀ {m r r' : Nat}, freeFrom mt ins id m r = some r' → r ≤ r' ∧ r' < r + m ∧ meetsF mt ins r' id = []
  | 0, _, _, h => by cases h
  | m + 1, r, r', h => by
    rw [freeFrom] at h
    split at h
    · rename_i h0
      injection h with h
      subst h
      exact ⟨Nat.le_refl _, by omega, List.eq_nil_of_length_eq_zero h0⟩
    · have := freeFrom_some h
      exact ⟨by omega, by omega, this.2.2⟩
theorem freeFrom_none {mt : Int → Int → Bool} {ins : List (List Int)} {id : Int} : ∀ {m r : Nat}, freeFrom mt ins id m r = none → ∀ r', r ≤ r' → r' < r + m → meetsF mt ins r' id ≠ []
  | 0, _, _, r', h1, h2 => by omega
  | m + 1, r, h, r', h1, h2 => by
    rw [freeFrom] at h
    split at h
    · cases h
    · rename_i h0
      by_cases e : r' = r
      · subst e
        exact fun e2 => h0 (by rw [e2]; rfl)
      · exact freeFrom_none h r' (by omega) (by omega)
theorem freeR_some {mt : Int → Int → Bool} {id : Int} {r : Nat} (h : freeR mt k ins id = some r) : r < k ∧ meetsF mt ins r id = [] := by
  have := freeFrom_some h
  exact ⟨by omega, this.2.2⟩
theorem freeR_none {mt : Int → Int → Bool} {id : Int} (h : freeR mt k ins id = none) (r : Nat) (hr : r < k) : meetsF mt ins r id ≠ [] := freeFrom_none h r (by omega) (by omega)
theorem St.free (h : St l k ins at_) {mt : Int → Int → Bool} {id : Int} (h0 : 0 ≤ id) (h1 : id < (l.length : Int)) (hnot : ∀ r', r' < k → rd at_ id ≠ (r' : Int)) : St l k (freeI mt k ins id) (freeA mt k ins at_ id) := by
  unfold freeI freeA
  cases e : freeR mt k ins id with
  | none => exact h
  | some r => exact h.put (freeR_some e).1 h0 h1 hnot
theorem bestStep_or (mt : Int → Int → Bool) (l : List Sp) (ins : List (List Int)) (id : Int) (r : Nat) (b : Int) : bestStep mt l ins id r b = b ∨ (meetsF mt ins r id = [bestStep mt l ins id r b]) := by
  unfold bestStep
  split
  · rename_i h
    obtain ⟨o, ho⟩ := List.length_eq_one_iff.1 h.1
    rw [ho]
    exact .inr rfl
  · exact .inl rfl
theorem bestFrom_in {mt : Int → Int → Bool} {l : List Sp} {ins : List (List Int)} {id : Int} : ∀ {m r : Nat} {b : Int}, r + m = k → (b = -1 ∨ ∃ r', r' < k ∧ meetsF mt ins r' id = [b]) → bestFrom mt l ins id m r b = -1 ∨ ∃ r', r' < k ∧ meetsF mt ins r' id = [bestFrom mt l ins id m r b]
  | 0, _, _, _, h => h
  | m + 1, r, b, hk, h => by
    rw [bestFrom]
    refine bestFrom_in (by omega) ?_
    rcases bestStep_or mt l ins id r b with e | e
    · rw [e]; exact h
    · exact .inr ⟨r, by omega, e⟩
theorem bestF_in (mt : Int → Int → Bool) (l : List Sp) (k : Nat) (ins : List (List Int)) (id : Int) : bestF mt l k ins id = -1 ∨ ∃ r', r' < k ∧ meetsF mt ins r' id = [bestF mt l k ins id] := bestFrom_in (by omega) (.inl rfl)
theorem meets_mem {mt : Int → Int → Bool} {r : Nat} {id o : Int} (h : meetsF mt ins r id = [o]) : o ∈ rAt ins r := by
  have : o ∈ meetsF mt ins r id := by rw [h]; exact List.mem_singleton.2 rfl
  exact (List.mem_filter.1 this).1
/-- What instead does: either it waits in a slot, or another does. -/
theorem instead_cases (h : St l k ins at_) (mt : Int → Int → Bool) (id : Int) : (insteadI mt l k ins at_ id = ins ∧ insteadA mt l k ins at_ id = at_.set id.toNat 256) ∨ ∃ r o, r < k ∧ meetsF mt ins r id = [o] ∧ insteadI mt l k ins at_ id = putI (ins.set r (delF (rAt ins r) o)) r id ∧ insteadA mt l k ins at_ id = (at_.set o.toNat 256).set id.toNat (r : Int) := by
  unfold insteadI insteadA
  by_cases e : bestF mt l k ins id = -1
  · rw [if_pos e, if_pos e]
    exact .inl ⟨rfl, rfl⟩
  · obtain ⟨r, hr, hm⟩ := (bestF_in mt l k ins id).resolve_left e
    have h1 := h.cons r hr _ (meets_mem hm)
    rw [if_neg e, if_neg e, h1, Int.toNat_natCast]
    exact .inr ⟨r, _, hr, hm, rfl, rfl⟩
theorem St.slot (h : St l k ins at_) {id : Int} (h0 : 0 ≤ id) (h1 : id < (l.length : Int)) (hnot : ∀ r', r' < k → rd at_ id ≠ (r' : Int)) (x : Int) : St l k ins (at_.set id.toNat x) := by
  refine ⟨h.hki, by rw [List.length_set]; exact h.hal, h.good, fun r hr o ho => ?_, h.nodup⟩
  have hg := h.good r o ho
  rw [rd_set _ _ _ _ h0 hg.1 (by rw [h.hal]; exact hg.2), if_neg]
  · exact h.cons r hr o ho
  · intro e
    exact hnot r hr (by rw [← e]; exact h.cons r hr o ho)
theorem St.instead (h : St l k ins at_) {mt : Int → Int → Bool} {id : Int} (h0 : 0 ≤ id) (h1 : id < (l.length : Int)) (hk : k < 256) (hnot : ∀ r', r' < k → rd at_ id ≠ (r' : Int)) : St l k (insteadI mt l k ins at_ id) (insteadA mt l k ins at_ id) := by
  rcases instead_cases h mt id with ⟨e1, e2⟩ | ⟨r, o, hr, hm, e1, e2⟩
  · rw [e1, e2]
    exact h.slot h0 h1 hnot 256
  · rw [e1, e2]
    have ho := meets_mem hm
    have hog := h.good r o ho
    refine (h.out hr ho).put hr h0 h1 (fun r' hr' => ?_)
    rw [rd_set _ _ _ _ hog.1 h0 (by rw [h.hal]; exact h1)]
    split
    · omega
    · exact hnot r' hr'
end
end Go.Proofs.YtolhijnkgkfjgaaDoor.XC
namespace Go.Proofs.YtolhijnkgkfjgaaDoor.XC
open Go.RowKit Go.Proofs.YtolhijnkgkfjgaaDoorW.PrintWords Go.Proofs.YtolhijnkgkfjgaaDoorW.PrintLast Go.Proofs.YtolhijnkgkfjgaaDoorW.PrintMore
attribute [local go_sem] max2_int min2_int max_two min_two max_three min_three max_four min_four   -- for this text's walks alone
set_option linter.unusedVariables false
set_option linter.unusedSimpArgs false
def againIn (mt : Int → Int → Bool) (k : Nat) : Nat → Nat → List (List Int) → List Int → Bool → List (List Int) × List Int × Bool
  | 0, _, ins, at_, b => (ins, at_, b)
  | m + 1, i, ins, at_, b => if rd at_ (i : Int) = 256 ∧ (freeR mt k ins (i : Int)).isSome = true then againIn mt k m (i + 1) (freeI mt k ins (i : Int)) (freeA mt k ins at_ (i : Int)) true else againIn mt k m (i + 1) ins at_ b
def againF (mt : Int → Int → Bool) (k : Nat) : Nat → List (List Int) → List Int → List (List Int) × List Int
  | 0, ins, at_ => (ins, at_)
  | f + 1, ins, at_ => if (againIn mt k at_.length 0 ins at_ false).2.2 = true then againF mt k f (againIn mt k at_.length 0 ins at_ false).1 (againIn mt k at_.length 0 ins at_ false).2.1 else ((againIn mt k at_.length 0 ins at_ false).1, (againIn mt k at_.length 0 ins at_ false).2.1)
def cnt (at_ : List Int) : Nat := (at_.filter fun x => x == 256).length
theorem cnt_le (at_ : List Int) : cnt at_ ≤ at_.length := List.length_filter_le _ _
theorem cnt_set : ∀ (at_ : List Int) (i : Nat) (x : Int), i < at_.length → at_.getD i 0 = 256 → x ≠ 256 → cnt (at_.set i x) + 1 = cnt at_
  | [], _, _, h, _, _ => by simp at h
  | y :: ys, 0, x, _, h, hx => by
    have hy : y = 256 := h
    have e1 : (x == 256) = false := by simp [hx]
    unfold cnt
    rw [List.set_cons_zero, List.filter_cons, List.filter_cons, e1, hy]
    simp
  | y :: ys, i + 1, x, hi, h, hx => by
    have ih := cnt_set ys i x (by simpa using hi) h hx
    unfold cnt at ih ⊢
    rw [List.set_cons_succ, List.filter_cons, List.filter_cons]
    split
    · rw [List.length_cons, List.length_cons]; omega
    · exact ih
theorem againIn_spec {mt : Int → Int → Bool} {l : List Sp} {k : Nat} (hk : k < 256) : ∀ (m i : Nat) (ins : List (List Int)) (at_ : List Int) (b : Bool), i + m = l.length → St l k ins at_ → St l k (againIn mt k m i ins at_ b).1 (againIn mt k m i ins at_ b).2.1 ∧ cnt (againIn mt k m i ins at_ b).2.1 ≤ cnt at_ ∧ ((againIn mt k m i ins at_ b).2.2 = true → b = true ∨ cnt (againIn mt k m i ins at_ b).2.1 < cnt at_)
  | 0, i, ins, at_, b, _, h => ⟨h, Nat.le_refl _, .inl⟩
  | m + 1, i, ins, at_, b, hi, h => by
    rw [againIn]
    split
    · rename_i hc
      have hnot : ∀ r', r' < k → rd at_ (i : Int) ≠ (r' : Int) := fun r' hr' e => by rw [hc.1] at e; omega
      have h1 := h.free (mt := mt) (id := (i : Int)) (by omega) (by omega) hnot
      have h2 := againIn_spec (mt := mt) hk m (i + 1) _ _ true (by omega) h1
      have h3 : cnt (freeA mt k ins at_ (i : Int)) + 1 = cnt at_ := by
        unfold freeA
        cases e : freeR mt k ins (i : Int) with
        | none => rw [e] at hc; exact absurd hc.2 (by simp)
        | some r =>
          have := (freeR_some e).1
          have h4 := hc.1
          unfold rd at h4
          rw [Int.toNat_natCast] at h4
          rw [Int.toNat_natCast]
          exact cnt_set at_ i (r : Int) (by rw [h.hal]; omega) h4 (by omega)
      exact ⟨h2.1, by omega, fun _ => .inr (by omega)⟩
    · have h2 := againIn_spec (mt := mt) hk m (i + 1) ins at_ b (by omega) h
      exact h2
set_option maxHeartbeats 8000000 in
set_option maxRecDepth 100000 in
theorem s_again (w0 w : World) (hB : Below w0.heap.size w0 w) (A : Option Addr) (c : Nat) (l : List Sp) (hr : Kd.C k44 w0 A l.length l) (hl : l.length < 100000) (B p gi k : Nat) (va : Value) (vs : List Value) (ins : List (List Int)) (at_ : List Int) (hs : SC w B p gi k va A l.length c vs ins at_) (mt : Int → Int → Bool) (hm : MeetIs l mt) (hB0 : w0.heap.size ≤ B) (hBw : B ≤ w.heap.size) (hk : k < 256) (hst : St l k ins at_) :
    Calls Tryd.prog 19 #[.pointer (some ⟨p, 0, none⟩)] w fun e w' => e = .returned (.tuple #[]) ∧ Left w0 w w' B p gi k va A l.length c vs (againF mt k (l.length + 1) ins at_).1 (againF mt k (l.length + 1) ins at_).2 := by
  obtain ⟨F, hF⟩ : ∃ F, F = againF mt k (l.length + 1) ins at_ := ⟨_, rfl⟩
  rw [← hF]
  have HF := Aside0.mk hF
  have HS := Aside0.mk (show Left w0 w w B p gi k va A l.length c vs ins at_ from hs.left_same hB (Below.refl _ _))
  have HR := Aside0.mk hr
  have HM := Aside0.mk hm
  have HB0 := Aside0.mk hB0
  have HBW := Aside0.mk hBw
  have HKB := Aside0.mk hk
  have HL := Aside0.mk hl
  have HST := Aside0.mk hst
  obtain ⟨va1, n1, ca, hva⟩ : ∃ A n c, va = .slice A n c := by obtain ⟨A, c, h, _⟩ := Kd.R_reads hs.hat; exact ⟨A, _, c, h⟩
  have hn1 : n1 = l.length := by
    obtain ⟨A, c, h, _⟩ := Kd.R_reads hs.hat
    rw [hva] at h
    injection h with _ h _
    rw [h, hst.hal]
  subst hn1
  have HVA := Aside0.mk hva
  clear hF hs hB hr hm hB0 hBw hk hl hst hva
  go_enter Tryd.func19, Tryd.ntmps19
  go_wp2
  go_loopg [2] (l.length + 2) (fun kq v2 w' => ∃ (more : Bool) (ins1 : List (List Int)) (at1 : List Int), v2 = .bool more ∧ Aside0 (if more = true then F = againF mt k (kq - 1) ins1 at1 ∧ cnt at1 + 1 < kq else F = (ins1, at1)) ∧ Aside0 (St l k ins1 at1) ∧ Aside0 (Left w0 w w' B p gi k va A l.length c vs ins1 at1))
  case atStart => exact ⟨true, ins, at_, rfl, ⟨by rw [if_pos rfl]; exact ⟨HF.out, by have := cnt_le at_; rw [HST.out.hal] at this; omega⟩⟩, HST, HS⟩
  case round =>
    clear HF HST HS
    obtain ⟨more, ins1, at1, rfl, HF, HST, HS⟩ := hrel
    cases more with
    | false =>
      have hF := HF.out
      rw [if_neg (by decide)] at hF
      have HF2 := Aside0.mk hF
      clear HF hF
      go_wp2
      go_end0
      exact ⟨rfl, by rw [HF2.out]; exact HS.out⟩
    | true =>
      have hF := HF.out
      rw [if_pos rfl] at hF
      obtain ⟨k2, hk2⟩ : ∃ k2, gk = k2 + 2 := ⟨gk - 2, by omega⟩
      subst hk2
      have HF2 := Aside0.mk (show F = againF mt k (k2 + 1) ins1 at1 ∧ cnt at1 < k2 + 1 by have h1 := hF.1; have h2 := hF.2; exact ⟨h1, by omega⟩)
      clear HF hF
      obtain ⟨vs1, hS1, hB1, hK1, hN1⟩ := HS.out
      have hy2 := hS1.c2
      rw [HVA.out] at hy2
      have HS1 := Aside0.mk (show Left w0 wr wr B p gi k va A l.length c vs1 ins1 at1 from hS1.left_same hB1 (Below.refl _ _))
      have HK1 := Aside0.mk hK1
      have HN1 := Aside0.mk hN1
      obtain ⟨S, hS⟩ : ∃ S, S = againIn mt k at1.length 0 ins1 at1 false := ⟨_, rfl⟩
      have HSS := Aside0.mk hS
      have HSZ := Aside0.mk (show w.heap.size ≤ wr.heap.size from hK1.1)
      clear hS1 hB1 hK1 hN1 hS
      go_wp2
      go_loopg [2, 11] l.length (fun kq v2 v11 w' => ∃ (i : Nat) (mo : Bool) (ins2 : List (List Int)) (at2 : List Int), v11 = .int .i64 (i : Int) ∧ v2 = .bool mo ∧ Aside0 (kq + i = l.length) ∧ Aside0 (S = againIn mt k kq i ins2 at2 mo) ∧ Aside0 (St l k ins2 at2) ∧ Aside0 (Left w0 wr w' B p gi k va A l.length c vs1 ins2 at2))
      case atStart => exact ⟨0, false, ins1, at1, rfl, rfl, ⟨rfl⟩, ⟨by rw [HSS.out, HST.out.hal]⟩, HST, HS1⟩
      case round =>
        clear HS1 hy2
        obtain ⟨i, mo, ins2, at2, rfl, rfl, HK, HS2, HST2, HL2⟩ := hrel
        obtain ⟨vs2, hS2, hB2, hK2, hN2⟩ := HL2.out
        have HSC := Aside0.mk hS2
        have HB2 := Aside0.mk hB2
        have HK2 := Aside0.mk hK2
        have HN2 := Aside0.mk hN2
        clear hS2 hB2 hK2 hN2
        by_cases hi : i < l.length
        · obtain ⟨k1, rfl⟩ : ∃ k1, gk = k1 + 1 := ⟨gk - 1, by have := HK.out; omega⟩
          have hc : decide ((i : Int) < (l.length : Int)) = true := decide_eq_true (by omega)
          have hi2 : (i < l.length) = True := eq_true hi
          have hi3 : ((i : Int) < (l.length : Int)) = True := eq_true (by omega)
          have hi4 : (0 ≤ (i : Int)) = True := eq_true (by omega)
          have hw := wrap_succ i l.length hi (by have := HL.out; omega)
          have HI := Aside0.mk hi
          obtain ⟨A3, c3, e3, _, hC3⟩ := Kd.R_reads HSC.out.hat
          obtain rfl : va1 = A3 := by
            have h := HVA.out.symm.trans e3
            injection h
          clear e3
          obtain ⟨ad, e4, hy4⟩ := Kd.at_int hC3 (i : Int) (by omega) (by rw [HST2.out.hal]; omega)
          subst e4
          rw [Int.toNat_natCast] at hy4
          have hS := HS2.out
          rw [againIn] at hS
          obtain ⟨x, hx⟩ : ∃ x, x = rd at2 (i : Int) := ⟨_, rfl⟩
          rw [← hx] at hS hy4
          clear hC3 hi
          by_cases h256 : x = 256
          · have hb1 : (x == 256) = true := beq_iff_eq.mpr h256
            have HNOT := Aside0.mk (show ∀ r', r' < k → rd at2 (i : Int) ≠ (r' : Int) from fun r' hr' e => by rw [← hx, h256] at e; have := HKB.out; omega)
            clear hx
            cases hfr : (freeR mt k ins2 (i : Int)).isSome with
            | true =>
              rw [if_pos ⟨h256, hfr⟩] at hS
              have HS3 := Aside0.mk hS
              have HFR := Aside0.mk hfr
              clear hS hfr h256 HS2
              go_wp2_with (go_at_call 17; refine (s_free w0 _ HB2.out A c l HR.out HL.out B p gi k va vs2 ins2 at2 HSC.out mt HM.out HB0.out (Nat.le_trans (Nat.le_trans HBW.out HSZ.out) HK2.out.1) (by have := HKB.out; omega) (i : Int) (by omega) (by have := HI.out; omega) HST2.out.hal HST2.out.good (fun r => Nat.lt_of_le_of_lt (HST2.out.len r) HL.out)).mono ?_; rintro e w5 ⟨rfl, h5⟩; have HL5 := Aside0.mk (Left.comp HK2.out HN2.out h5); rw [HFR.out]; clear h5)
              go_roundg k1
              case measure => omega
              case rel => exact ⟨i + 1, true, _, _, (by first | rw [hw] | rfl | (push_cast; rfl)), rfl, ⟨by have := HK.out; omega⟩, HS3, ⟨HST2.out.free (by omega) (by have := HI.out; omega) HNOT.out⟩, HL5⟩
            | false =>
              rw [if_neg (fun h => by rw [hfr] at h; exact absurd h.2 (by decide))] at hS
              have HS3 := Aside0.mk hS
              have HFR := Aside0.mk hfr
              have HSAME := Aside0.mk (show freeI mt k ins2 (i : Int) = ins2 ∧ freeA mt k ins2 at2 (i : Int) = at2 by
                unfold freeI freeA
                cases e : freeR mt k ins2 (i : Int) with
                | none => exact ⟨rfl, rfl⟩
                | some r => rw [e] at hfr; cases hfr)
              clear hS hfr h256 HS2
              go_wp2_with (go_at_call 17; refine (s_free w0 _ HB2.out A c l HR.out HL.out B p gi k va vs2 ins2 at2 HSC.out mt HM.out HB0.out (Nat.le_trans (Nat.le_trans HBW.out HSZ.out) HK2.out.1) (by have := HKB.out; omega) (i : Int) (by omega) (by have := HI.out; omega) HST2.out.hal HST2.out.good (fun r => Nat.lt_of_le_of_lt (HST2.out.len r) HL.out)).mono ?_; rintro e w5 ⟨rfl, h5⟩; rw [HSAME.out.1, HSAME.out.2] at h5; have HL5 := Aside0.mk (Left.comp HK2.out HN2.out h5); rw [HFR.out]; clear h5)
              go_roundg k1
              case measure => omega
              case rel => exact ⟨i + 1, mo, _, _, (by first | rw [hw] | rfl | (push_cast; rfl)), rfl, ⟨by have := HK.out; omega⟩, HS3, HST2, HL5⟩
          · have hb1 : (x == 256) = false := beq_eq_false_iff_ne.mpr h256
            rw [if_neg (fun h => h256 h.1)] at hS
            have HS3 := Aside0.mk hS
            clear hS h256 HS2 hx
            go_wp2
            go_roundg k1
            case measure => omega
            case rel => exact ⟨i + 1, mo, _, _, (by first | rw [hw] | rfl | (push_cast; rfl)), rfl, ⟨by have := HK.out; omega⟩, HS3, HST2, HL2⟩
        · have hc : decide ((i : Int) < (l.length : Int)) = false := decide_eq_false (by omega)
          have hi2 : (i < l.length) = False := eq_false hi
          have hS := HS2.out
          rw [show gk = 0 by have := HK.out; omega, againIn] at hS
          have hspec := againIn_spec (mt := mt) HKB.out at1.length 0 ins1 at1 false (by rw [HST.out.hal]; omega) HST.out
          rw [← HSS.out, hS] at hspec
          have hf := HF2.out
          rw [againF, ← HSS.out, hS] at hf
          have HF3 := Aside0.mk hf
          have HSP := Aside0.mk hspec
          clear hS hspec hf HF2 HS2 HSS
          go_wp2
          go_roundg (k2 + 1)
          case measure => omega
          case rel =>
            refine ⟨mo, ins2, at2, rfl, ⟨?_⟩, HST2, ⟨Left.comp HK1.out HN1.out HL2.out⟩⟩
            have h1 := HF3.out
            have h2 := HSP.out
            cases mo with
            | true =>
              rw [if_pos rfl]
              have h3 := h2.2.2 rfl
              simp only [Bool.false_eq_true, false_or] at h3
              exact ⟨by rw [h1.1]; rfl, by have := h1.2; have h4 : cnt at2 < cnt at1 := h3; omega⟩
            | false =>
              rw [if_neg (by decide)]
              rw [h1.1]
              rfl
end Go.Proofs.YtolhijnkgkfjgaaDoor.XC
namespace Go.Proofs.YtolhijnkgkfjgaaDoor.XC
open Go.RowKit Go.Proofs.YtolhijnkgkfjgaaDoorW.PrintWords Go.Proofs.YtolhijnkgkfjgaaDoorW.PrintLast Go.Proofs.YtolhijnkgkfjgaaDoorW.PrintMore
attribute [local go_sem] max2_int min2_int max_two min_two max_three min_three max_four min_four   -- for this text's walks alone
set_option linter.unusedVariables false
set_option linter.unusedSimpArgs false
/-- What the closures read. -/
structure CW (w0 W : World) (ts tid p : Nat) (A : Option Addr) (n c : Nat) (id : Int) : Prop where
  hB : Below w0.heap.size w0 W
  hts : W.cell? ⟨ts, 0, none⟩ = some (.pointer (some ⟨p, 0, none⟩))
  hid : W.cell? ⟨tid, 0, none⟩ = some (.int .i64 id)
  hp : W.cell? ⟨p, 0, none⟩ = some (.slice A n c)
  l1 : ts < W.heap.size
  l2 : tid < W.heap.size
  l3 : p < W.heap.size
theorem CW.below {w0 W W' : World} {ts tid p : Nat} {A : Option Addr} {n c : Nat} {id : Int} (h : CW w0 W ts tid p A n c id) (hb : Below W.heap.size W W') : CW w0 W' ts tid p A n c id :=
  ⟨below_step h.hB hb, (hb.cell (p := ⟨ts, 0, none⟩) h.l1).trans h.hts, (hb.cell (p := ⟨tid, 0, none⟩) h.l2).trans h.hid, (hb.cell (p := ⟨p, 0, none⟩) h.l3).trans h.hp, Nat.lt_of_lt_of_le h.l1 hb.size, Nat.lt_of_lt_of_le h.l2 hb.size, Nat.lt_of_lt_of_le h.l3 hb.size⟩
set_option maxHeartbeats 8000000 in
set_option maxRecDepth 100000 in
theorem c_meet (w0 w : World) (A : Option Addr) (c : Nat) (l : List Sp) (hr : Kd.C k44 w0 A l.length l) (ts tid p : Nat) (mt : Int → Int → Bool) (hm : MeetIs l mt) (id : Int) (h0 : 0 ≤ id) (h1 : id < (l.length : Int)) (hw : CW w0 w ts tid p A l.length c id) (o : Int) (ho0 : 0 ≤ o) (ho1 : o < (l.length : Int)) :
    Calls Tryd.prog 36 #[.int .i64 o, .pointer (some ⟨ts, 0, none⟩), .pointer (some ⟨tid, 0, none⟩)] w fun e w' => e = .returned (.bool (mt id o)) ∧ Below w.heap.size w w' := by
  obtain ⟨ads, A1, c1, rfl, hl1, hsp⟩ := span_cells hr id h0 h1
  obtain ⟨_, A2, c2, e1, hl2, hsp2⟩ := span_cells hr o ho0 ho1
  cases e1
  obtain ⟨kM, hkM⟩ := hm id o h0 h1 ho0 ho1
  have HKM := Aside0.mk hkM
  have HSP := Aside0.mk hsp
  have HSP2 := Aside0.mk hsp2
  have HL1 := Aside0.mk hl1
  have HL2 := Aside0.mk hl2
  have HW := Aside0.mk hw
  have p1 : (0 ≤ id) = True := eq_true h0
  have p2 : (id < (l.length : Int)) = True := eq_true h1
  have p3 : (0 ≤ o) = True := eq_true ho0
  have p4 : (o < (l.length : Int)) = True := eq_true ho1
  have HSB := Aside0.mk (show ∀ W_, Below w.heap.size w W_ → W_.cell? ⟨ts, 0, none⟩ = some (.pointer (some ⟨p, 0, none⟩)) ∧ W_.cell? ⟨tid, 0, none⟩ = some (.int .i64 id) ∧ W_.cell? ⟨p, 0, none⟩ = some (.slice (some ads) l.length c) ∧ W_.cell? (ads.add (id.toNat * 2)) = some (.slice A1 (rdS l id).f0.length c1) ∧ W_.cell? ⟨(ads.add (id.toNat * 2)).block, (ads.add (id.toNat * 2)).off + 1, none⟩ = some (.int .i64 (rdS l id).f1) ∧ W_.cell? (ads.add (o.toNat * 2)) = some (.slice A2 (rdS l o).f0.length c2) ∧ W_.cell? ⟨(ads.add (o.toNat * 2)).block, (ads.add (o.toNat * 2)).off + 1, none⟩ = some (.int .i64 (rdS l o).f1) from fun W_ hk => by
    have h := HW.out.below hk
    exact ⟨h.hts, h.hid, h.hp, (HSP.out W_ h.hB).1, (HSP.out W_ h.hB).2.1, (HSP2.out W_ h.hB).1, (HSP2.out W_ h.hB).2.1⟩)
  obtain ⟨bm, hbm⟩ : ∃ bm, bm = mt id o := ⟨_, rfl⟩
  rw [← hbm] at hkM ⊢
  have HKM := Aside0.mk hkM
  clear hr hm h0 h1 hw ho0 ho1 hl1 hl2 hsp hsp2 hkM hbm
  go_enter Tryd.func36, Tryd.ntmps36
  go_wp2
  refine start_ (n := 16) (S := fun w' => w'.cell? ⟨ts, 0, none⟩ = some (.pointer (some ⟨p, 0, none⟩)) ∧ w'.cell? ⟨tid, 0, none⟩ = some (.int .i64 id) ∧ w'.cell? ⟨p, 0, none⟩ = some (.slice (some ads) l.length c) ∧ w'.cell? (ads.add (id.toNat * 2)) = some (.slice A1 (rdS l id).f0.length c1) ∧ w'.cell? ⟨(ads.add (id.toNat * 2)).block, (ads.add (id.toNat * 2)).off + 1, none⟩ = some (.int .i64 (rdS l id).f1) ∧ w'.cell? (ads.add (o.toNat * 2)) = some (.slice A2 (rdS l o).f0.length c2) ∧ w'.cell? ⟨(ads.add (o.toNat * 2)).block, (ads.add (o.toNat * 2)).off + 1, none⟩ = some (.int .i64 (rdS l o).f1)) (ds := []) #[false, false, false, false, false, false, false, false, false, false, false, false, false, false, false, false] (by kernel_rfl) rfl rfl ⟨(HSB.out _ (below_drew1 (Below.refl _ _))).1, (HSB.out _ (below_drew1 (Below.refl _ _))).2.1, (HSB.out _ (below_drew1 (Below.refl _ _))).2.2.1, (HSB.out _ (below_drew1 (Below.refl _ _))).2.2.2.1, (HSB.out _ (below_drew1 (Below.refl _ _))).2.2.2.2.1, (HSB.out _ (below_drew1 (Below.refl _ _))).2.2.2.2.2.1, (HSB.out _ (below_drew1 (Below.refl _ _))).2.2.2.2.2.2⟩ (fun hHeld => ?_)
  refine pure_ (i := 11) (N := some 16) (v := ?_) (a' := ?_) #[false, false, false, false, false, false, false, false, false, false, false, true, false, false, false, false] rfl rfl (by kernel_rfl) (fun _ _ _ h => h) (Or.inl ⟨by rfl, ?_⟩) ?_ ?_
  rotate_left
  · intro w'
    go_simp
    with_reducible rfl
  rotate_left
  · simp only [Act.put, List.setIfInBounds_toArray, List.set_cons_zero, List.set_cons_succ, i64_w, i32_w]
    rfl
  refine take_ (i := 0) (N := some 5) (v := ?_) (a' := ?_) #[true, false, false, false, false, false, false, false, false, false, false, true, false, false, false, false] rfl rfl (by kernel_rfl) (fun _ _ _ h => h) (Or.inl ⟨by rfl, ?_⟩) hHeld ?_ ?_
  rotate_left
  · rintro w' ⟨s0, s1, s2, s3, s4, s5, s6⟩
    go_simp
    with_reducible rfl
  rotate_left
  · simp only [Act.put, List.setIfInBounds_toArray, List.set_cons_zero, List.set_cons_succ, i64_w, i32_w]
    rfl
  refine pure_ (i := 1) (N := some 6) (v := ?_) (a' := ?_) #[true, true, false, false, false, false, false, false, false, false, false, true, false, false, false, false] rfl rfl (by kernel_rfl) (fun _ _ _ h => h) (Or.inl ⟨by rfl, ?_⟩) ?_ ?_
  rotate_left
  · intro w'
    go_simp
    with_reducible rfl
  rotate_left
  · simp only [Act.put, List.setIfInBounds_toArray, List.set_cons_zero, List.set_cons_succ, i64_w, i32_w]
    rfl
  refine pure_ (i := 2) (N := some 7) (v := ?_) (a' := ?_) #[true, true, true, false, false, false, false, false, false, false, false, true, false, false, false, false] rfl rfl (by kernel_rfl) (fun _ _ _ h => h) (Or.inl ⟨by rfl, ?_⟩) ?_ ?_
  rotate_left
  · intro w'
    go_simp
    with_reducible rfl
  rotate_left
  · simp only [Act.put, List.setIfInBounds_toArray, List.set_cons_zero, List.set_cons_succ, i64_w, i32_w]
    rfl
  refine take_ (i := 3) (N := some 8) (v := ?_) (a' := ?_) #[true, true, true, true, false, false, false, false, false, false, false, true, false, false, false, false] rfl rfl (by kernel_rfl) (fun _ _ _ h => h) (Or.inl ⟨by rfl, ?_⟩) hHeld ?_ ?_
  rotate_left
  · rintro w' ⟨s0, s1, s2, s3, s4, s5, s6⟩
    go_simp
    with_reducible rfl
  rotate_left
  · simp only [Act.put, List.setIfInBounds_toArray, List.set_cons_zero, List.set_cons_succ, i64_w, i32_w]
    rfl
  refine take_ (i := 4) (N := some 9) (v := ?_) (a' := ?_) #[true, true, true, true, true, false, false, false, false, false, false, true, false, false, false, false] rfl rfl (by kernel_rfl) (fun _ _ _ h => h) (Or.inl ⟨by rfl, ?_⟩) hHeld ?_ ?_
  rotate_left
  · rintro w' ⟨s0, s1, s2, s3, s4, s5, s6⟩
    go_simp
    with_reducible rfl
  rotate_left
  · simp only [Act.put, List.setIfInBounds_toArray, List.set_cons_zero, List.set_cons_succ, i64_w, i32_w]
    rfl
  refine pure_ (i := 5) (N := some 10) (v := ?_) (a' := ?_) #[true, true, true, true, true, true, false, false, false, false, false, true, false, false, false, false] rfl rfl (by kernel_rfl) (fun _ _ _ h => h) (Or.inl ⟨by rfl, ?_⟩) ?_ ?_
  rotate_left
  · intro w'
    go_simp
    with_reducible rfl
  rotate_left
  · simp only [Act.put, List.setIfInBounds_toArray, List.set_cons_zero, List.set_cons_succ, i64_w, i32_w]
    rfl
  refine take_ (i := 6) (N := some 11) (v := ?_) (a' := ?_) #[true, true, true, true, true, true, true, false, false, false, false, true, false, false, false, false] rfl rfl (by kernel_rfl) (fun _ _ _ h => h) (Or.inl ⟨by rfl, ?_⟩) hHeld ?_ ?_
  rotate_left
  · rintro w' ⟨s0, s1, s2, s3, s4, s5, s6⟩
    go_simp
    with_reducible rfl
  rotate_left
  · simp only [Act.put, List.setIfInBounds_toArray, List.set_cons_zero, List.set_cons_succ, i64_w, i32_w]
    rfl
  refine take_ (i := 7) (N := some 12) (v := ?_) (a' := ?_) #[true, true, true, true, true, true, true, true, false, false, false, true, false, false, false, false] rfl rfl (by kernel_rfl) (fun _ _ _ h => h) (Or.inl ⟨by rfl, ?_⟩) hHeld ?_ ?_
  rotate_left
  · rintro w' ⟨s0, s1, s2, s3, s4, s5, s6⟩
    go_simp
    with_reducible rfl
  rotate_left
  · simp only [Act.put, List.setIfInBounds_toArray, List.set_cons_zero, List.set_cons_succ, i64_w, i32_w]
    rfl
  refine pure_ (i := 8) (N := some 13) (v := ?_) (a' := ?_) #[true, true, true, true, true, true, true, true, true, false, false, true, false, false, false, false] rfl rfl (by kernel_rfl) (fun _ _ _ h => h) (Or.inl ⟨by rfl, ?_⟩) ?_ ?_
  rotate_left
  · intro w'
    go_simp
    with_reducible rfl
  rotate_left
  · simp only [Act.put, List.setIfInBounds_toArray, List.set_cons_zero, List.set_cons_succ, i64_w, i32_w]
    rfl
  refine pure_ (i := 9) (N := some 14) (v := ?_) (a' := ?_) #[true, true, true, true, true, true, true, true, true, true, false, true, false, false, false, false] rfl rfl (by kernel_rfl) (fun _ _ _ h => h) (Or.inl ⟨by rfl, ?_⟩) ?_ ?_
  rotate_left
  · intro w'
    go_simp
    with_reducible rfl
  rotate_left
  · simp only [Act.put, List.setIfInBounds_toArray, List.set_cons_zero, List.set_cons_succ, i64_w, i32_w]
    rfl
  refine take_ (i := 10) (N := some 15) (v := ?_) (a' := ?_) #[true, true, true, true, true, true, true, true, true, true, true, true, false, false, false, false] rfl rfl (by kernel_rfl) (fun _ _ _ h => h) (Or.inl ⟨by rfl, ?_⟩) hHeld ?_ ?_
  rotate_left
  · rintro w' ⟨s0, s1, s2, s3, s4, s5, s6⟩
    go_simp
    with_reducible rfl
  rotate_left
  · simp only [Act.put, List.setIfInBounds_toArray, List.set_cons_zero, List.set_cons_succ, i64_w, i32_w]
    rfl
  refine pure_ (i := 12) (N := some 17) (v := ?_) (a' := ?_) #[true, true, true, true, true, true, true, true, true, true, true, true, true, false, false, false] rfl rfl (by kernel_rfl) (fun _ _ _ h => h) (Or.inl ⟨by rfl, ?_⟩) ?_ ?_
  rotate_left
  · intro w'
    go_simp
    with_reducible rfl
  rotate_left
  · simp only [Act.put, List.setIfInBounds_toArray, List.set_cons_zero, List.set_cons_succ, i64_w, i32_w]
    rfl
  refine take_ (i := 13) (N := some 18) (v := ?_) (a' := ?_) #[true, true, true, true, true, true, true, true, true, true, true, true, true, true, false, false] rfl rfl (by kernel_rfl) (fun _ _ _ h => h) (Or.inl ⟨by rfl, ?_⟩) hHeld ?_ ?_
  rotate_left
  · rintro w' ⟨s0, s1, s2, s3, s4, s5, s6⟩
    go_simp
    with_reducible rfl
  rotate_left
  · simp only [Act.put, List.setIfInBounds_toArray, List.set_cons_zero, List.set_cons_succ, i64_w, i32_w]
    rfl
  refine one_ (i := 14) (N := some 19) #[true, true, true, true, true, true, true, true, true, true, true, true, true, true, true, false] rfl rfl (by kernel_rfl) (by decide) (fun K hK => ?_)
  refine goes_ Tryd.func37 (by kernel_rfl) rfl #[.agg #[.slice A1 (rdS l id).f0.length c1, .int .i64 (rdS l id).f1], .agg #[.slice A2 (rdS l o).f0.length c2, .int .i64 (rdS l o).f1]] (by rfl) rfl rfl (by simp only [List.map_toArray, List.map_cons, List.map_nil]; rfl) ?_
  with_reducible refine (span_Meet.calls kM A1 c1 (rdS l id).f0 (rdS l id).f1 A2 c2 (rdS l o).f0 (rdS l o).f1 bm _ (HSP.out _ (below_drew1 HW.out.hB)).2.2 HL1.out (HSP2.out _ (below_drew1 HW.out.hB)).2.2 HL2.out HKM.out).mono ?_
  rintro e w3 ⟨rfl, hb⟩
  refine ⟨_, rfl, ?_⟩
  have H3 := Aside0.mk (below_step (below_drew1 (Below.refl w.heap.size w)) hb)
  clear hb
  refine hK.out _ _ ⟨(HSB.out _ H3.out).1, (HSB.out _ H3.out).2.1, (HSB.out _ H3.out).2.2.1, (HSB.out _ H3.out).2.2.2.1, (HSB.out _ H3.out).2.2.2.2.1, (HSB.out _ H3.out).2.2.2.2.2.1, (HSB.out _ H3.out).2.2.2.2.2.2⟩ (fun hHeld => ?_)
  clear hK K
  refine norm_ (a' := ?_) ?_ ?_
  rotate_left
  · show Act.put _ (some 19) _ = _
    simp only [Act.put, List.setIfInBounds_toArray, List.set_cons_zero, List.set_cons_succ, i64_w, i32_w]
    rfl
  refine pure_ (i := 15) (N := some 4) (v := ?_) (a' := ?_) #[true, true, true, true, true, true, true, true, true, true, true, true, true, true, true, true] rfl rfl (by kernel_rfl) (fun _ _ _ h => h) (Or.inl ⟨by rfl, ?_⟩) ?_ ?_
  rotate_left
  · intro w'
    go_simp
    with_reducible rfl
  rotate_left
  · simp only [Act.put, List.setIfInBounds_toArray, List.set_cons_zero, List.set_cons_succ, i64_w, i32_w]
    rfl
  refine done_ (by kernel_rfl) ?_

  go_wp2
  go_ret
  exact ⟨rfl, H3.out⟩
set_option maxHeartbeats 8000000 in
set_option maxRecDepth 100000 in
theorem c_index (w0 w : World) (A : Option Addr) (c : Nat) (l : List Sp) (hr : Kd.C k44 w0 A l.length l) (ts tid p : Nat) (mt : Int → Int → Bool) (hm : MeetIs l mt) (id : Int) (h0 : 0 ≤ id) (h1 : id < (l.length : Int)) (hw : CW w0 w ts tid p A l.length c id) (A3 : Option Addr) (c3 : Nat) (row : List Int) (hrow : Kd.C (Kd.int .i64) w A3 row.length row) (hg : ∀ o ∈ row, 0 ≤ o ∧ o < (l.length : Int)) (hrl : row.length < 100000) :
    Calls Tryd.prog 48 #[.slice A3 row.length c3, .func (.func 36) #[] #[.pointer (some ⟨ts, 0, none⟩), .pointer (some ⟨tid, 0, none⟩)]] w fun e w' => (∃ x : Int, e = .returned (.int .i64 x) ∧ decide (0 ≤ x) = row.any (fun o => mt id o)) ∧ Below w.heap.size w w' := by
  have eg : ∀ args w, (callFunc 36 args).run Tryd.prog w = .ok (.enter 36 args) w := enters_of Tryd.func36 (by kernel_rfl) rfl
  obtain ⟨F, hF⟩ : ∃ F, F = row.any (fun o => mt id o) := ⟨_, rfl⟩
  rw [← hF]
  have HF := Aside0.mk (show F = (row.drop 0).any (fun o => mt id o) from hF)
  have C := Aside0.mk (fun (W : World) (hk : Below w.heap.size w W) (o : Int) (ho : o ∈ row) => c_meet w0 W A c l hr ts tid p mt hm id h0 h1 (hw.below hk) o (hg o ho).1 (hg o ho).2)
  have HC := Aside0.mk hrow
  have HL := Aside0.mk hrl
  clear hF hr hm h0 h1 hw hrow hg hrl
  go_enter Tryd.func48, Tryd.ntmps48
  go_wp2
  go_loopg [8] row.length (fun kq v8 w' => ∃ (i : Nat), v8 = .int .i64 (i : Int) ∧ Aside0 (kq + i = row.length) ∧ Aside0 (F = (row.drop i).any (fun o => mt id o)) ∧ Aside0 (Below w.heap.size w w'))
  case atStart => exact ⟨0, rfl, ⟨rfl⟩, HF, ⟨Below.refl _ _⟩⟩
  case round =>
    clear HF
    obtain ⟨i, rfl, HK, HF, HW⟩ := hrel
    by_cases hi : i < row.length
    · obtain ⟨k1, rfl⟩ : ∃ k1, gk = k1 + 1 := ⟨gk - 1, by have := HK.out; omega⟩
      have hc : decide ((i : Int) < (row.length : Int)) = true := decide_eq_true (by omega)
      have q0 : (0 ≤ (i : Int)) = True := eq_true (by omega)
      have q1 : ((i : Int) < (row.length : Int)) = True := eq_true (by omega)
      have q2 : (i < row.length) = True := eq_true hi
      obtain ⟨adr, e1, hxo⟩ := Kd.at_int (Kd.C_below HC.out HW.out) (i : Int) (by omega) (by omega)
      subst e1
      rw [Int.toNat_natCast] at hxo
      have hw := wrap_succ i row.length hi (by have := HL.out; omega)
      have hF := HF.out
      have hro : row[i] = rd row (i : Int) := by unfold rd; rw [Int.toNat_natCast, List.getD_eq_getElem?_getD, List.getElem?_eq_getElem hi]; rfl
      rw [List.drop_eq_getElem_cons hi, List.any_cons, hro] at hF
      have HOM := Aside0.mk (show rd row (i : Int) ∈ row by rw [← hro]; exact List.getElem_mem hi)
      clear hro hi HF
      obtain ⟨o, ho⟩ : ∃ o, o = rd row (i : Int) := ⟨_, rfl⟩
      rw [← ho] at hxo hF HOM
      clear ho
      cases hbm : mt id o with
      | true =>
        rw [hbm, Bool.true_or] at hF
        subst hF
        have HBM := Aside0.mk hbm
        clear hbm
        go_wp2_with (go_at_call 36; refine (C.out _ HW.out o HOM.out).mono ?_; rintro e w3 ⟨rfl, hb⟩; rw [HBM.out]; have HW3 := Aside0.mk (below_step HW.out hb); clear hb)
        go_ret
        exact ⟨⟨_, rfl, decide_eq_true (by omega)⟩, HW3.out⟩
      | false =>
        rw [hbm, Bool.false_or] at hF
        have HF := Aside0.mk hF
        have HBM := Aside0.mk hbm
        clear hbm hF
        go_wp2_with (go_at_call 36; refine (C.out _ HW.out o HOM.out).mono ?_; rintro e w3 ⟨rfl, hb⟩; rw [HBM.out]; have HW3 := Aside0.mk (below_step HW.out hb); clear hb)
        go_roundg k1
        case measure => omega
        case rel => exact ⟨i + 1, (by first | rw [hw] | rfl | (push_cast; rfl)), ⟨by have := HK.out; omega⟩, HF, HW3⟩
    · have hc : decide ((i : Int) < (row.length : Int)) = false := decide_eq_false (by omega)
      have q2 : (i < row.length) = False := eq_false hi
      have hF := HF.out
      rw [List.drop_of_length_le (by omega), List.any_nil] at hF
      subst hF
      go_wp2
      go_ret
      exact ⟨⟨_, rfl, by decide⟩, HW.out⟩
end Go.Proofs.YtolhijnkgkfjgaaDoor.XC
namespace Go.Proofs.YtolhijnkgkfjgaaDoor.XC
open Go.RowKit Go.Proofs.YtolhijnkgkfjgaaDoorW.PrintWords Go.Proofs.YtolhijnkgkfjgaaDoorW.PrintLast Go.Proofs.YtolhijnkgkfjgaaDoorW.PrintMore
attribute [local go_sem] max2_int min2_int max_two min_two max_three min_three max_four min_four   -- for this text's walks alone
set_option linter.unusedVariables false
set_option linter.unusedSimpArgs false
abbrev SVal := Option Addr × Nat × Nat
def encS (s : SVal) : Value := .slice s.1 s.2.1 s.2.2
theorem encS_one (s : SVal) : (encS s).oneCell' = true := rfl
abbrev RS (w : World) (B : Nat) (v : Value) (ss : List SVal) : Prop := (Kd.scalar encS encS_one).R 25 w B (fun _ => True) v ss
def sAt (ss : List SVal) (r : Nat) : SVal := ss.getD r (none, 0, 0)
/-- The slots' rows. -/
structure SL (w : World) (B : Nat) (v : Value) (ss : List SVal) (rows : List (List Int)) : Prop where
  hout : RS w B v ss
  hlen : ss.length = rows.length
  hrow : ∀ r, r < rows.length → RI w B (encS (sAt ss r)) (rAt rows r)
  hap : ∀ r r' b, r < rows.length → r' < rows.length → r ≠ r' → (encS (sAt ss r)).ownBlock = some b → (encS (sAt ss r')).ownBlock ≠ some b
theorem SL.nil (w : World) (B : Nat) : SL w B nilS [] [] := ⟨Kd.R_nil _ _ _ _ _, rfl, fun r h => absurd h (Nat.not_lt_zero _), fun r _ _ h => absurd h (Nat.not_lt_zero _)⟩
theorem RS.kept {w w' : World} {B : Nat} {v : Value} {ss : List SVal} (h : RS w B v ss) {S : Nat → Prop} (hk : Kept w w' S) (hne : ∀ b, v.ownBlock = some b → ¬ S b) : RS w' B v ss :=
  Kd.R_mono (Kd.R_kept (Kd.R_tight rfl h) hk (fun b hb => hne b hb.symm)) (fun _ _ => trivial)
theorem SL.kept {w w' : World} {B : Nat} {v : Value} {ss : List SVal} {rows : List (List Int)} (h : SL w B v ss rows) {S : Nat → Prop} (hk : Kept w w' S) (hS : ∀ b, S b → b < B) : SL w' B v ss rows :=
  ⟨h.hout.kept hk (fun b hb hs => by have h1 := Kd.R_base h.hout b hb; have h2 := hS b hs; omega), h.hlen, fun r hr => (h.hrow r hr).kept hk (fun b hb hs => by have h1 := Kd.R_base (h.hrow r hr) b hb; have h2 := hS b hs; omega), h.hap⟩
theorem SL.below {w w' : World} {B : Nat} {v : Value} {ss : List SVal} {rows : List (List Int)} (h : SL w B v ss rows) (hb : Below w.heap.size w w') : SL w' B v ss rows := h.kept (Kept.of_below hb (fun _ => False)) (fun _ h => h.elim)
theorem SL.cell {w : World} {B : Nat} {ss : List SVal} {rows : List (List Int)} {A : Option Addr} {n c : Nat} (h : SL w B (.slice A n c) ss rows) {r : Nat} (hr : r < rows.length) : ∃ g, A = some ⟨g, 0, none⟩ ∧ B ≤ g ∧ w.cell? ⟨g, r, none⟩ = some (encS (sAt ss r)) ∧ w.frozen? ⟨g, r, none⟩ = false := by
  have hl := h.hlen
  obtain ⟨g, cap, e, hgB, _, _, _⟩ := Kd.R_form h.hout (by omega)
  injection e with e1 e2 e3
  subst e1 e2 e3
  obtain ⟨h1, h2⟩ := Kd.R_celln ((none, 0, 0) : SVal) h.hout (r : Int) (by omega) (by omega)
  rw [Int.toNat_natCast] at h1 h2
  exact ⟨g, rfl, hgB, by rw [h1]; rfl, h2⟩
/-- The first slot where one meets none. -/
def slotFrom (mt : Int → Int → Bool) (rows : List (List Int)) (id : Int) : Nat → Nat → Option Nat
  | 0, _ => none
  | m + 1, r => if (rAt rows r).any (fun o => mt id o) = false then some r else slotFrom mt rows id m (r + 1)
def slotR (mt : Int → Int → Bool) (rows : List (List Int)) (id : Int) : Option Nat := slotFrom mt rows id rows.length 0
def orM1 : Option Nat → Int
  | none => -1
  | some r => (r : Int)
set_option maxHeartbeats 8000000 in
set_option maxRecDepth 100000 in
theorem c_cont (w0 w : World) (A : Option Addr) (c : Nat) (l : List Sp) (hr : Kd.C k44 w0 A l.length l) (ts tid p : Nat) (mt : Int → Int → Bool) (hm : MeetIs l mt) (id : Int) (h0 : 0 ≤ id) (h1 : id < (l.length : Int)) (hw : CW w0 w ts tid p A l.length c id) (A3 : Option Addr) (c3 : Nat) (row : List Int) (hrow : Kd.C (Kd.int .i64) w A3 row.length row) (hg : ∀ o ∈ row, 0 ≤ o ∧ o < (l.length : Int)) (hrl : row.length < 100000) :
    Calls Tryd.prog 35 #[.slice A3 row.length c3, .func (.func 36) #[] #[.pointer (some ⟨ts, 0, none⟩), .pointer (some ⟨tid, 0, none⟩)]] w fun e w' => e = .returned (.bool (row.any (fun o => mt id o))) ∧ Below w.heap.size w w' := by
  have C := Aside0.mk (c_index w0 w A c l hr ts tid p mt hm id h0 h1 hw A3 c3 row hrow hg hrl)
  clear hr hm h0 h1 hw hrow hg hrl
  go_enter Tryd.func35, Tryd.ntmps35
  go_wp2_with (go_at_call 48; refine C.out.mono ?_; rintro e w2 ⟨⟨x, rfl, hx⟩, hb⟩; have HX := Aside0.mk hx; have HB := Aside0.mk hb; clear hx hb)
  go_ret
  exact ⟨by rw [← HX.out]; rfl, HB.out⟩
set_option maxHeartbeats 8000000 in
set_option maxRecDepth 100000 in
theorem c_not (w0 w : World) (A : Option Addr) (c : Nat) (l : List Sp) (hr : Kd.C k44 w0 A l.length l) (ts tid p : Nat) (mt : Int → Int → Bool) (hm : MeetIs l mt) (id : Int) (h0 : 0 ≤ id) (h1 : id < (l.length : Int)) (hw : CW w0 w ts tid p A l.length c id) (A3 : Option Addr) (c3 : Nat) (row : List Int) (hrow : Kd.C (Kd.int .i64) w A3 row.length row) (hg : ∀ o ∈ row, 0 ≤ o ∧ o < (l.length : Int)) (hrl : row.length < 100000) :
    Calls Tryd.prog 34 #[.slice A3 row.length c3, .pointer (some ⟨ts, 0, none⟩), .pointer (some ⟨tid, 0, none⟩)] w fun e w' => e = .returned (.bool (!(row.any (fun o => mt id o)))) ∧ Below w.heap.size w w' := by
  have hmf : ∀ (fn : Fn) (first cap : Array Value) (w : World), (Instr.makeFunc fn first cap).run Tryd.prog w = .ok (.func fn first cap) w := fun _ _ _ _ => rfl
  have C := Aside0.mk (c_cont w0 w A c l hr ts tid p mt hm id h0 h1 hw A3 c3 row hrow hg hrl)
  clear hr hm h0 h1 hw hrow hg hrl
  go_enter Tryd.func34, Tryd.ntmps34
  go_wp2_with (go_at_call 35; refine C.out.mono ?_; rintro e w2 ⟨rfl, hb⟩; have HB := Aside0.mk hb; clear hb)
  go_ret
  exact ⟨rfl, HB.out⟩
set_option maxHeartbeats 8000000 in
set_option maxRecDepth 100000 in
theorem c_slot (w0 w : World) (A : Option Addr) (c : Nat) (l : List Sp) (hr : Kd.C k44 w0 A l.length l) (ts tid p : Nat) (mt : Int → Int → Bool) (hm : MeetIs l mt) (id : Int) (h0 : 0 ≤ id) (h1 : id < (l.length : Int)) (hw : CW w0 w ts tid p A l.length c id) (B : Nat) (A3 : Option Addr) (n3 c3 : Nat) (ss : List SVal) (rows : List (List Int)) (hs : SL w B (.slice A3 n3 c3) ss rows) (hn3 : n3 = rows.length) (hg : Good l rows) (hrl : ∀ r, (rAt rows r).length < 100000) (hrows : rows.length < 100000) :
    Calls Tryd.prog 33 #[.slice A3 n3 c3, .func (.func 34) #[] #[.pointer (some ⟨ts, 0, none⟩), .pointer (some ⟨tid, 0, none⟩)]] w fun e w' => e = .returned (.int .i64 (orM1 (slotR mt rows id))) ∧ Below w.heap.size w w' := by
  have eg : ∀ args w, (callFunc 34 args).run Tryd.prog w = .ok (.enter 34 args) w := enters_of Tryd.func34 (by kernel_rfl) rfl
  subst hn3
  obtain ⟨F, hF⟩ : ∃ F, F = slotR mt rows id := ⟨_, rfl⟩
  rw [← hF]
  have HF := Aside0.mk (show F = slotFrom mt rows id rows.length 0 from hF)
  have C := Aside0.mk (fun (W : World) (hk : Below w.heap.size w W) (r : Nat) (hrr : r < rows.length) (A4 : Option Addr) (c4 : Nat) (h4 : Kd.C (Kd.int .i64) W A4 (rAt rows r).length (rAt rows r)) => c_not w0 W A c l hr ts tid p mt hm id h0 h1 (hw.below hk) A4 c4 (rAt rows r) h4 (hg r) (hrl r))
  have HS := Aside0.mk hs
  have HL := Aside0.mk hrows
  clear hF hr hm h0 h1 hw hs hg hrl hrows
  go_enter Tryd.func33, Tryd.ntmps33
  go_wp2
  go_loopg [8] rows.length (fun kq v8 w' => ∃ (i : Nat), v8 = .int .i64 (i : Int) ∧ Aside0 (kq + i = rows.length) ∧ Aside0 (F = slotFrom mt rows id kq i) ∧ Aside0 (Below w.heap.size w w'))
  case atStart => exact ⟨0, rfl, ⟨rfl⟩, HF, ⟨Below.refl _ _⟩⟩
  case round =>
    clear HF
    obtain ⟨i, rfl, HK, HF, HW⟩ := hrel
    by_cases hi : i < rows.length
    · obtain ⟨k1, rfl⟩ : ∃ k1, gk = k1 + 1 := ⟨gk - 1, by have := HK.out; omega⟩
      have hc : decide ((i : Int) < (rows.length : Int)) = true := decide_eq_true (by omega)
      have q0 : (0 ≤ (i : Int)) = True := eq_true (by omega)
      have q1 : ((i : Int) < (rows.length : Int)) = True := eq_true (by omega)
      have q2 : (i < rows.length) = True := eq_true hi
      obtain ⟨g, e1, _, hx4, _⟩ := (HS.out.below HW.out).cell hi
      subst e1
      obtain ⟨A4, c4, e4, _, h4⟩ := Kd.R_reads ((HS.out.below HW.out).hrow i hi)
      rw [e4] at hx4
      have H4 := Aside0.mk h4
      have hw := wrap_succ i rows.length hi (by have := HL.out; omega)
      have hF := HF.out
      rw [slotFrom] at hF
      have HI := Aside0.mk hi
      clear e4 h4 hi HF
      cases hb : (rAt rows i).any (fun o => mt id o) with
      | true =>
        rw [if_neg (by rw [hb]; decide)] at hF
        have HF := Aside0.mk hF
        have HBM := Aside0.mk hb
        clear hb hF
        go_wp2_with (go_at_call 34; refine (C.out _ HW.out i HI.out A4 c4 H4.out).mono ?_; rintro e w3 ⟨rfl, hb⟩; rw [HBM.out]; have HW3 := Aside0.mk (below_step HW.out hb); clear hb)
        go_roundg k1
        case measure => omega
        case rel => exact ⟨i + 1, (by first | rw [hw] | rfl | (push_cast; rfl)), ⟨by have := HK.out; omega⟩, HF, HW3⟩
      | false =>
        rw [if_pos hb] at hF
        subst hF
        have HBM := Aside0.mk hb
        clear hb
        go_wp2_with (go_at_call 34; refine (C.out _ HW.out i HI.out A4 c4 H4.out).mono ?_; rintro e w3 ⟨rfl, hb⟩; rw [HBM.out]; have HW3 := Aside0.mk (below_step HW.out hb); clear hb)
        go_ret
        exact ⟨rfl, HW3.out⟩
    · have hc : decide ((i : Int) < (rows.length : Int)) = false := decide_eq_false (by omega)
      have q2 : (i < rows.length) = False := eq_false hi
      have hF := HF.out
      rw [show gk = 0 by have := HK.out; omega, slotFrom] at hF
      subst hF
      go_wp2
      go_ret
      exact ⟨rfl, HW.out⟩
end Go.Proofs.YtolhijnkgkfjgaaDoor.XC
