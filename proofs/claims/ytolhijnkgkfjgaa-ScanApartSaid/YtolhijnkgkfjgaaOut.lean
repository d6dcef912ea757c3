/- The scanner: one is taken out of its register. -/
import Derived.Test.YtolhijnkgkfjgaaDel
namespace Go.Proofs.Ytolhijnkgkfjgaa.XC
open Go.RowKit Go.Proofs.YtolhijnkgkfjgaaW.PrintWords Go.Proofs.YtolhijnkgkfjgaaW.PrintLast Go.Proofs.YtolhijnkgkfjgaaW.PrintMore
attribute [local go_sem] max2_int min2_int max_two min_two max_three min_three max_four min_four   -- for this text's walks alone
set_option linter.unusedVariables false
set_option linter.unusedSimpArgs false
set_option maxHeartbeats 8000000 in
set_option maxRecDepth 100000 in
theorem s_out (w0 w : World) (hB : Below w0.heap.size w0 w) (A : Option Addr) (n c : Nat) (B p gi k : Nat) (va : Value) (vs : List Value) (ins : List (List Int)) (at_ : List Int) (hs : SC w B p gi k va A n c vs ins at_) (hB0 : w0.heap.size ≤ B) (hBw : B ≤ w.heap.size) (r : Nat) (hrk : r < k) (id : Int) (h0 : 0 ≤ id) (h1 : id < (at_.length : Int)) (hat : rd at_ id = (r : Int)) (hne : (rAt ins r).length ≠ 0) :
    Calls Try.prog 33 #[.pointer (some ⟨p, 0, none⟩), .int .i64 id] w fun e w' => e = .returned (.tuple #[]) ∧ Left w0 w w' B p gi k va A n c vs (ins.set r (delF (rAt ins r) id)) (at_.set id.toNat 256) := by
  obtain ⟨ga, ca, hva, hgaB, hgal, cells, hga⟩ := Kd.R_form hs.hat (by omega)
  obtain ⟨row, hrow⟩ : ∃ row, row = rAt ins r := ⟨_, rfl⟩
  rw [← hrow] at hne ⊢
  have hrr : RI w B (vAt vs r) row := by rw [hrow]; exact hs.hrow r hrk
  obtain ⟨gr, cr, hv, hgrB, hgrl, cells2, hgr⟩ := Kd.R_form hrr (by omega)
  have hmf : ∀ (fn : Fn) (first cap : Array Value) (w : World), (Instr.makeFunc fn first cap).run Try.prog w = .ok (.func fn first cap) w := fun _ _ _ _ => rfl
  have HS := Aside0.mk hs
  have HB := Aside0.mk hB
  have HB0 := Aside0.mk hB0
  have HBW := Aside0.mk hBw
  have HRK := Aside0.mk hrk
  have HID := Aside0.mk (And.intro h0 h1)
  have HVA := Aside0.mk hva
  have HV := Aside0.mk hv
  have HAT := Aside0.mk hat
  have HGA := Aside0.mk (show w0.heap.size ≤ ga by omega)
  have HGR := Aside0.mk (show w0.heap.size ≤ gr ∧ gr < w.heap.size by omega)
  have p1 : (0 ≤ (r : Int)) = True := eq_true (by omega)
  have p2 : (r < k) = True := eq_true hrk
  have p3 : ((r : Int) < (k : Int)) = True := eq_true (by omega)
  have p4 : (0 ≤ id) = True := eq_true h0
  have p5 : (id < (at_.length : Int)) = True := eq_true h1
  have hown : (vAt vs r).ownBlock = some gr := by rw [hv]; rfl
  have HOWN := Aside0.mk hown
  have HRR := Aside0.mk hrr
  have HROW := Aside0.mk hrow
  clear hrow hs hB hB0 hBw hva hgaB hgal hga hrk h0 h1 hv hrr hgrB hgrl hgr hat hne hown
  go_enter Try.func33, Try.ntmps33
  go_wp2
  obtain ⟨w1, hw1⟩ : ∃ w1, w1 = w.alloc (Obj.cells #[.int .i64 id] 3) := ⟨_, rfl⟩
  obtain ⟨tp, htp⟩ : ∃ tp, tp = w.heap.size := ⟨_, rfl⟩
  have hb : Below w.heap.size w w1 := by rw [hw1]; exact below_alloc (Below.refl _ _) _
  have hbox : w1.heap[tp]? = some (.cells #[.int .i64 id] 3 (0, 0)) := by rw [hw1, htp]; show (w.heap.push _)[w.heap.size]? = _; exact Array.getElem?_push_size
  rw [← hw1, ← htp]
  have HTP := Aside0.mk (show tp ≠ gr ∧ tp ≠ ga ∧ tp < w1.heap.size from ⟨by have := HGR.out; omega, fun e => by have h := Kd.R_lt HS.out.hat ga (by rw [HVA.out]; rfl); omega, blk_lt hbox⟩)
  have HTP2 := Aside0.mk (show tp ≠ gi ∧ tp ≠ p by have h1 := HS.out.ltg; have h2 := HS.out.ltp; omega)
  have HBX := Aside0.mk hbox
  have HB1 := Aside0.mk hb
  have HS1 := Aside0.mk (HS.out.below hb)
  have hy2 := HS1.out.c2
  rw [HVA.out] at hy2
  have hxb : w1.cell? ⟨tp, 0, none⟩ = some (.int .i64 id) := (blk_cell hbox 0).trans rfl
  have hxa := (Kd.R_celln 0 (show RI w1 B (.slice (some ⟨ga, 0, none⟩) at_.length ca) at_ by rw [← HVA.out]; exact HS1.out.hat) id HID.out.1 HID.out.2).1
  rw [show rdOf 0 at_ id = (r : Int) from HAT.out] at hxa
  have HSB := Aside0.mk (show ∀ W_, Below w1.heap.size w1 W_ → W_.cell? ⟨p, 1, none⟩ = some (.slice (some ⟨gi, 0, none⟩) k k) ∧ W_.cell? ⟨gi, r, none⟩ = some (.slice (some ⟨gr, 0, none⟩) row.length cr) from fun W_ hk => ⟨(HS1.out.below hk).c1, by rw [← HV.out]; exact (HS1.out.below hk).cr HRK.out⟩)
  have HRR1 := Aside0.mk (show RI w1 B (.slice (some ⟨gr, 0, none⟩) row.length cr) row by rw [← HV.out]; exact Kd.R_below HRR.out hb)
  clear hb hbox hw1 htp
  go_wp2
  repeat (go_quiet (fail); try go_wp2)
  generalize hw2 : w1.drewN _ = w2
  have HB2 := Aside0.mk (show Below w1.heap.size w1 w2 by rw [← hw2]; exact pw_below_drewN (Below.refl _ _) _)
  have HBB := Aside0.mk (show Below w0.heap.size w0 w2 from below_step (below_step HB.out HB1.out) HB2.out)
  have HRR2 := Aside0.mk (show RI w2 B (.slice (some ⟨gr, 0, none⟩) row.length cr) row from Kd.R_below HRR1.out HB2.out)
  have hxb2 : w2.cell? ⟨tp, 0, none⟩ = some (.int .i64 id) := HB2.out.cell (p := ⟨tp, 0, none⟩) HTP.out.2.2 |>.trans hxb
  have HXB2 := Aside0.mk (show w2.drew.cell? ⟨tp, 0, none⟩ = some (.int .i64 id) from hxb2)
  clear hw2 hxb hxa hy2 hxb2
  refine start_ (n := 16) (S := fun w' => w'.cell? ⟨p, 1, none⟩ = some (.slice (some ⟨gi, 0, none⟩) k k) ∧ w'.cell? ⟨gi, r, none⟩ = some (.slice (some ⟨gr, 0, none⟩) row.length cr)) (ds := [15]) #[false, false, false, false, false, false, false, false, false, false, false, false, false, false, false, false] (by kernel_rfl) rfl rfl ⟨(HSB.out _ (below_drew1 HB2.out)).1, (HSB.out _ (below_drew1 HB2.out)).2⟩ (fun hHeld => ?_)
  refine pure_ (i := 0) (N := some 12) (v := ?_) (a' := ?_) #[true, false, false, false, false, false, false, false, false, false, false, false, false, false, false, false] rfl rfl (by kernel_rfl) (fun _ _ _ h => h) (Or.inl ⟨by rfl, ?_⟩) ?_ ?_
  rotate_left
  · intro w'
    go_simp
    with_reducible rfl
  rotate_left
  · simp only [Act.put, List.setIfInBounds_toArray, List.set_cons_zero, List.set_cons_succ, i64_w, i32_w]
    rfl
  refine pure_ (i := 1) (N := some 13) (v := ?_) (a' := ?_) #[true, true, false, false, false, false, false, false, false, false, false, false, false, false, false, false] rfl rfl (by kernel_rfl) (fun _ _ _ h => h) (Or.inl ⟨by rfl, ?_⟩) ?_ ?_
  rotate_left
  · intro w'
    go_simp
    with_reducible rfl
  rotate_left
  · simp only [Act.put, List.setIfInBounds_toArray, List.set_cons_zero, List.set_cons_succ, i64_w, i32_w]
    rfl
  refine pure_ (i := 2) (N := some 14) (v := ?_) (a' := ?_) #[true, true, true, false, false, false, false, false, false, false, false, false, false, false, false, false] rfl rfl (by kernel_rfl) (fun _ _ _ h => h) (Or.inl ⟨by rfl, ?_⟩) ?_ ?_
  rotate_left
  · intro w'
    go_simp
    with_reducible rfl
  rotate_left
  · simp only [Act.put, List.setIfInBounds_toArray, List.set_cons_zero, List.set_cons_succ, i64_w, i32_w]
    rfl
  refine pure_ (i := 4) (N := some 16) (v := ?_) (a' := ?_) #[true, true, true, false, true, false, false, false, false, false, false, false, false, false, false, false] rfl rfl (by kernel_rfl) (fun _ _ _ h => h) (Or.inl ⟨by rfl, ?_⟩) ?_ ?_
  rotate_left
  · intro w'
    go_simp
    with_reducible rfl
  rotate_left
  · simp only [Act.put, List.setIfInBounds_toArray, List.set_cons_zero, List.set_cons_succ, i64_w, i32_w]
    rfl
  refine pure_ (i := 5) (N := some 17) (v := ?_) (a' := ?_) #[true, true, true, false, true, true, false, false, false, false, false, false, false, false, false, false] rfl rfl (by kernel_rfl) (fun _ _ _ h => h) (Or.inl ⟨by rfl, ?_⟩) ?_ ?_
  rotate_left
  · intro w'
    go_simp
    with_reducible rfl
  rotate_left
  · simp only [Act.put, List.setIfInBounds_toArray, List.set_cons_zero, List.set_cons_succ, i64_w, i32_w]
    rfl
  refine pure_ (i := 6) (N := some 18) (v := ?_) (a' := ?_) #[true, true, true, false, true, true, true, false, false, false, false, false, false, false, false, false] rfl rfl (by kernel_rfl) (fun _ _ _ h => h) (Or.inl ⟨by rfl, ?_⟩) ?_ ?_
  rotate_left
  · intro w'
    go_simp
    with_reducible rfl
  rotate_left
  · simp only [Act.put, List.setIfInBounds_toArray, List.set_cons_zero, List.set_cons_succ, i64_w, i32_w]
    rfl
  refine pure_ (i := 7) (N := some 19) (v := ?_) (a' := ?_) #[true, true, true, false, true, true, true, true, false, false, false, false, false, false, false, false] rfl rfl (by kernel_rfl) (fun _ _ _ h => h) (Or.inl ⟨by rfl, ?_⟩) ?_ ?_
  rotate_left
  · intro w'
    go_simp
    with_reducible rfl
  rotate_left
  · simp only [Act.put, List.setIfInBounds_toArray, List.set_cons_zero, List.set_cons_succ, i64_w, i32_w]
    rfl
  refine pure_ (i := 9) (N := some 21) (v := ?_) (a' := ?_) #[true, true, true, false, true, true, true, true, false, true, false, false, false, false, false, false] rfl rfl (by kernel_rfl) (fun _ _ _ h => h) (Or.inl ⟨by rfl, ?_⟩) ?_ ?_
  rotate_left
  · intro w'
    go_simp
    with_reducible rfl
  rotate_left
  · simp only [Act.put, List.setIfInBounds_toArray, List.set_cons_zero, List.set_cons_succ, i64_w, i32_w]
    rfl
  refine pure_ (i := 12) (N := some 24) (v := ?_) (a' := ?_) #[true, true, true, false, true, true, true, true, false, true, false, false, true, false, false, false] rfl rfl (by kernel_rfl) (fun _ _ _ h => h) (Or.inl ⟨by rfl, ?_⟩) ?_ ?_
  rotate_left
  · intro w'
    go_simp
    with_reducible rfl
  rotate_left
  · simp only [Act.put, List.setIfInBounds_toArray, List.set_cons_zero, List.set_cons_succ, i64_w, i32_w]
    rfl
  refine take_ (i := 3) (N := some 15) (v := ?_) (a' := ?_) #[true, true, true, true, true, true, true, true, false, true, false, false, true, false, false, false] rfl rfl (by kernel_rfl) (fun _ _ _ h => h) (Or.inl ⟨by rfl, ?_⟩) hHeld ?_ ?_
  rotate_left
  · rintro w' ⟨s0, s1⟩
    go_simp
    with_reducible rfl
  rotate_left
  · simp only [Act.put, List.setIfInBounds_toArray, List.set_cons_zero, List.set_cons_succ, i64_w, i32_w]
    rfl
  refine take_ (i := 8) (N := some 20) (v := ?_) (a' := ?_) #[true, true, true, true, true, true, true, true, true, true, false, false, true, false, false, false] rfl rfl (by kernel_rfl) (fun _ _ _ h => h) (Or.inl ⟨by rfl, ?_⟩) hHeld ?_ ?_
  rotate_left
  · rintro w' ⟨s0, s1⟩
    go_simp
    with_reducible rfl
  rotate_left
  · simp only [Act.put, List.setIfInBounds_toArray, List.set_cons_zero, List.set_cons_succ, i64_w, i32_w]
    rfl
  refine pure_ (i := 10) (N := some 22) (v := ?_) (a' := ?_) #[true, true, true, true, true, true, true, true, true, true, true, false, true, false, false, false] rfl rfl (by kernel_rfl) (fun _ _ _ h => h) (Or.inl ⟨by rfl, ?_⟩) ?_ ?_
  rotate_left
  · intro w'
    go_simp
    with_reducible rfl
  rotate_left
  · simp only [Act.put, List.setIfInBounds_toArray, List.set_cons_zero, List.set_cons_succ, i64_w, i32_w]
    rfl
  refine take_ (i := 11) (N := some 23) (v := ?_) (a' := ?_) #[true, true, true, true, true, true, true, true, true, true, true, true, true, false, false, false] rfl rfl (by kernel_rfl) (fun _ _ _ h => h) (Or.inl ⟨by rfl, ?_⟩) hHeld ?_ ?_
  rotate_left
  · rintro w' ⟨s0, s1⟩
    go_simp
    with_reducible rfl
  rotate_left
  · simp only [Act.put, List.setIfInBounds_toArray, List.set_cons_zero, List.set_cons_succ, i64_w, i32_w]
    rfl
  refine one_ (i := 13) (N := some 25) #[true, true, true, true, true, true, true, true, true, true, true, true, true, true, false, false] rfl rfl (by kernel_rfl) (by decide) (fun K hK => ?_)
  refine goes_ Try.func41 (by kernel_rfl) rfl #[.slice (some ⟨gr, 0, none⟩) row.length cr, .func (.func 42) #[] #[.pointer (some ⟨tp, 0, none⟩)]] (by rfl) rfl rfl (by simp only [List.map_toArray, List.map_cons, List.map_nil]; rfl) ?_
  with_reducible refine (s_del w2.drew B gr cr row id tp (Kd.R_drew HRR2.out) (Nat.lt_of_lt_of_le HTP.out.2.2 (below_drew1 HB2.out).size) HTP.out.1 HXB2.out).mono ?_
  rintro e w3 ⟨rfl, hR3, hK3, hB3⟩
  refine ⟨_, rfl, ?_⟩
  have HR3 := Aside0.mk hR3
  have HK3 := Aside0.mk hK3
  have HB3 := Aside0.mk (hB3 w0 (below_drew1 HBB.out) HGR.out.1)
  have HC3 := Aside0.mk (HSB.out _ (below_drew1 HB2.out))
  have HPG := Aside0.mk (show p ≠ gr ∧ gi ≠ gr from ⟨fun e => HS.out.nepv HRR.out (by rw [HOWN.out, e]), fun e => HS.out.negv HRR.out (by rw [HOWN.out, e])⟩)
  have hy0 : w3.cell? ⟨p, 1, none⟩ = some (.slice (some ⟨gi, 0, none⟩) k k) := cell_kept HC3.out.1 hK3 HPG.out.1
  have hy1 : w3.cell? ⟨gi, r, none⟩ = some (.slice (some ⟨gr, 0, none⟩) row.length cr) := cell_kept HC3.out.2 hK3 HPG.out.2
  have hz1 : w3.frozen? ⟨gi, r, none⟩ = false := blk_frozen (blk_kept ((HS1.out.below HB2.out).drew).hin hK3 HPG.out.2) r
  clear hR3 hK3 hB3
  refine hK.out _ _ ⟨hy0, hy1⟩ (fun hHeld => ?_)
  clear hK K
  refine norm_ (a' := ?_) ?_ ?_
  rotate_left
  · show Act.put _ (some 25) _ = _
    simp only [Act.put, List.setIfInBounds_toArray, List.set_cons_zero, List.set_cons_succ, i64_w, i32_w]
    rfl
  refine pure_ (i := 14) (N := some 26) (v := ?_) (a' := ?_) #[true, true, true, true, true, true, true, true, true, true, true, true, true, true, true, false] rfl rfl (by kernel_rfl) (fun _ _ _ h => h) (Or.inl ⟨by rfl, ?_⟩) ?_ ?_
  rotate_left
  · intro w'
    go_simp
    with_reducible rfl
  rotate_left
  · simp only [Act.put, List.setIfInBounds_toArray, List.set_cons_zero, List.set_cons_succ, i64_w, i32_w]
    rfl
  refine last_ (i := 15) (N := none) #[true, true, true, true, true, true, true, true, true, true, true, true, true, true, true, true] rfl rfl (by kernel_rfl) (by decide) (fun K hK => ?_)
  refine skip_ (w1 := ?_) (by rfl) rfl ?_ ?_
  rotate_left
  · go_simp
    rfl
  refine hK.out _ _ ?_
  clear hK K
  refine done_ (by kernel_rfl) ?_

  have HKR := Aside0.mk (show Kept w2.drew w3 (fun b => (vAt vs r).ownBlock = some b) from HK3.out.mono (fun b hb => by rw [HOWN.out, hb]))
  have HNO := Aside0.mk (show NewOr w2.drew (vAt vs r) (.slice (some ⟨gr, 0, none⟩) (delF row id).length cr) from fun b hb => .inl (by rw [HOWN.out]; exact hb))
  have HS2 := Aside0.mk ((HS1.out.below HB2.out).drew)
  have HS4 := Aside0.mk (SC.setRow HS2.out HRK.out HR3.out HKR.out HNO.out)
  have HK4 := Aside0.mk (Kept_setRow HS2.out HRK.out HKR.out (.slice (some ⟨gr, 0, none⟩) (delF row id).length cr))
  have HB4 := Aside0.mk (below_set (j := r) (v := .slice (some ⟨gr, 0, none⟩) (delF row id).length cr) HB3.out (Nat.le_trans HB0.out HS.out.hB))
  have HX4 := Aside0.mk (show (w3.setCell ⟨gi, r, none⟩ (.slice (some ⟨gr, 0, none⟩) (delF row id).length cr)).heap[tp]? = some (.cells #[.int .i64 id] 3 (0, 0)) from (Below.heap_setCell _ ⟨gi, r, none⟩ _ _ HTP2.out.1).trans ((HK3.out.2 tp (Nat.lt_of_lt_of_le HTP.out.2.2 (below_drew1 HB2.out).size) HTP.out.1).trans ((HB2.out.block tp HTP.out.2.2).trans HBX.out)))
  have HKA := Aside0.mk (show Kept w (w3.setCell ⟨gi, r, none⟩ (.slice (some ⟨gr, 0, none⟩) (delF row id).length cr)) (SK gi k va vs) from (Kept.of_below (below_step HB1.out (below_drew1 HB2.out)) _).then_ HK4.out (fun b hb => .inl hb))
  have HSKN := Aside0.mk (show ∀ b, SK gi k va (vs.set r (.slice (some ⟨gr, 0, none⟩) (delF row id).length cr)) b → SK gi k va vs b ∨ w.heap.size ≤ b from fun b hb => (SK_setRow HS2.out HRK.out HNO.out hb).elim .inl (fun h => .inr (Nat.le_trans (below_step HB1.out (below_drew1 HB2.out)).size h)))
  clear hHeld hy0 hy1 hz1 HB3 HR3 HK3 HC3 HKR HNO HS2 HK4 HSB HRR1 HRR2 HXB2
  generalize w3.setCell ⟨gi, r, none⟩ (.slice (some ⟨gr, 0, none⟩) (delF row id).length cr) = w4 at HS4 HKA HB4 HX4 ⊢
  have hy2 := HS4.out.c2
  rw [HVA.out] at hy2
  have hxb : w4.cell? ⟨tp, 0, none⟩ = some (.int .i64 id) := (blk_cell HX4.out 0).trans rfl
  have HS5 := Aside0.mk HS4.out.drew
  have HK5 := Aside0.mk HKA.out.drew
  have HB5 := Aside0.mk (below_drew1 HB4.out)
  obtain ⟨hy3, hz3⟩ := Kd.R_celln 0 (show RI w4.drew B (.slice (some ⟨ga, 0, none⟩) at_.length ca) at_ by rw [← HVA.out]; exact HS5.out.hat) id HID.out.1 HID.out.2
  clear HS4 HKA HB4 HX4
  go_wp2
  refine start_ (n := 7) (S := fun w' => w'.cell? ⟨p, 2, none⟩ = some (.slice (some ⟨ga, 0, none⟩) at_.length ca) ∧ w'.cell? ⟨tp, 0, none⟩ = some (.int .i64 id)) (ds := [6]) #[false, false, false, false, false, false, false] (by kernel_rfl) rfl rfl ⟨hy2, hxb⟩ (fun hHeld => ?_)
  generalize w4.drew = w5 at HS5 HK5 HB5 hy3 hz3 hHeld ⊢
  refine pure_ (i := 0) (N := some 27) (v := ?_) (a' := ?_) #[true, false, false, false, false, false, false] rfl rfl (by kernel_rfl) (fun _ _ _ h => h) (Or.inl ⟨by rfl, ?_⟩) ?_ ?_
  rotate_left
  · intro w'
    go_simp
    with_reducible rfl
  rotate_left
  · simp only [Act.put, List.setIfInBounds_toArray, List.set_cons_zero, List.set_cons_succ, i64_w, i32_w]
    rfl
  refine pure_ (i := 1) (N := some 28) (v := ?_) (a' := ?_) #[true, true, false, false, false, false, false] rfl rfl (by kernel_rfl) (fun _ _ _ h => h) (Or.inl ⟨by rfl, ?_⟩) ?_ ?_
  rotate_left
  · intro w'
    go_simp
    with_reducible rfl
  rotate_left
  · simp only [Act.put, List.setIfInBounds_toArray, List.set_cons_zero, List.set_cons_succ, i64_w, i32_w]
    rfl
  refine pure_ (i := 2) (N := some 29) (v := ?_) (a' := ?_) #[true, true, true, false, false, false, false] rfl rfl (by kernel_rfl) (fun _ _ _ h => h) (Or.inl ⟨by rfl, ?_⟩) ?_ ?_
  rotate_left
  · intro w'
    go_simp
    with_reducible rfl
  rotate_left
  · simp only [Act.put, List.setIfInBounds_toArray, List.set_cons_zero, List.set_cons_succ, i64_w, i32_w]
    rfl
  refine take_ (i := 3) (N := some 30) (v := ?_) (a' := ?_) #[true, true, true, true, false, false, false] rfl rfl (by kernel_rfl) (fun _ _ _ h => h) (Or.inl ⟨by rfl, ?_⟩) hHeld ?_ ?_
  rotate_left
  · rintro w' ⟨s0, s1⟩
    go_simp
    with_reducible rfl
  rotate_left
  · simp only [Act.put, List.setIfInBounds_toArray, List.set_cons_zero, List.set_cons_succ, i64_w, i32_w]
    rfl
  refine take_ (i := 4) (N := some 31) (v := ?_) (a' := ?_) #[true, true, true, true, true, false, false] rfl rfl (by kernel_rfl) (fun _ _ _ h => h) (Or.inl ⟨by rfl, ?_⟩) hHeld ?_ ?_
  rotate_left
  · rintro w' ⟨s0, s1⟩
    go_simp
    with_reducible rfl
  rotate_left
  · simp only [Act.put, List.setIfInBounds_toArray, List.set_cons_zero, List.set_cons_succ, i64_w, i32_w]
    rfl
  refine pure_ (i := 5) (N := some 32) (v := ?_) (a' := ?_) #[true, true, true, true, true, true, false] rfl rfl (by kernel_rfl) (fun _ _ _ h => h) (Or.inl ⟨by rfl, ?_⟩) ?_ ?_
  rotate_left
  · intro w'
    go_simp
    with_reducible rfl
  rotate_left
  · simp only [Act.put, List.setIfInBounds_toArray, List.set_cons_zero, List.set_cons_succ, i64_w, i32_w]
    rfl
  refine last_ (i := 6) (N := none) #[true, true, true, true, true, true, true] rfl rfl (by kernel_rfl) (by decide) (fun K hK => ?_)
  refine skip_ (w1 := ?_) (by rfl) rfl ?_ ?_
  rotate_left
  · go_simp
    rfl
  refine hK.out _ _ ?_
  clear hK K
  refine done_ (by kernel_rfl) ?_

  go_wp2
  go_end0
  exact ⟨rfl, _, SC.setAt HS5.out id.toNat 256 HVA.out, below_set HB5.out HGA.out, HK5.out.setCell (p := ⟨ga, id.toNat, none⟩) (.inl (SK_ga HVA.out)) _, HSKN.out⟩
end Go.Proofs.Ytolhijnkgkfjgaa.XC
