/- The scanner: one is put into a register. -/
import Derived.Test.YtolhijnkgkfjgaaSet
namespace Go.Proofs.Ytolhijnkgkfjgaa.XC
open Go.RowKit Go.Proofs.YtolhijnkgkfjgaaW.PrintWords Go.Proofs.YtolhijnkgkfjgaaW.PrintLast Go.Proofs.YtolhijnkgkfjgaaW.PrintMore
attribute [local go_sem] max2_int min2_int max_two min_two max_three min_three max_four min_four   -- for this text's walks alone
set_option linter.unusedVariables false
set_option linter.unusedSimpArgs false
/-- What a call of the scanner's leaves. -/
def Left (w0 w w' : World) (B p gi k : Nat) (va : Value) (A : Option Addr) (n c : Nat) (vs : List Value) (ins : List (List Int)) (at_ : List Int) : Prop :=
  ∃ vs', SC w' B p gi k va A n c vs' ins at_ ∧ Below w0.heap.size w0 w' ∧ Kept w w' (SK gi k va vs) ∧ ∀ b, SK gi k va vs' b → SK gi k va vs b ∨ w.heap.size ≤ b
set_option maxHeartbeats 8000000 in
set_option maxRecDepth 100000 in
theorem s_put (w0 w : World) (hB : Below w0.heap.size w0 w) (A : Option Addr) (n c : Nat) (B p gi k : Nat) (va : Value) (vs : List Value) (ins : List (List Int)) (at_ : List Int) (hs : SC w B p gi k va A n c vs ins at_) (hB0 : w0.heap.size ≤ B) (hBw : B ≤ w.heap.size) (r : Nat) (hrk : r < k) (id : Int) (h0 : 0 ≤ id) (h1 : id < (at_.length : Int)) (hrl : (rAt ins r).length < 100000) :
    Calls Try.prog 31 #[.pointer (some ⟨p, 0, none⟩), .int .i64 (r : Int), .int .i64 id] w fun e w' => e = .returned (.tuple #[]) ∧ Left w0 w w' B p gi k va A n c vs (ins.set r (rAt ins r ++ [id])) (at_.set id.toNat (r : Int)) := by
  obtain ⟨ga, ca, hva, hgaB, hgal, cells, hga⟩ := Kd.R_form hs.hat (by omega)
  obtain ⟨v, hv⟩ : ∃ v, v = vAt vs r := ⟨_, rfl⟩
  have hx1 := hs.c1
  have hxr := hs.cr hrk
  rw [← hv] at hxr
  have HS := Aside0.mk hs
  have HB := Aside0.mk hB
  have HB0 := Aside0.mk hB0
  have HBW := Aside0.mk hBw
  have HRK := Aside0.mk hrk
  have HID := Aside0.mk (And.intro h0 h1)
  have HL := Aside0.mk hrl
  have HVA := Aside0.mk hva
  have HV := Aside0.mk hv
  have HGA := Aside0.mk (show w0.heap.size ≤ ga by omega)
  have HRV := Aside0.mk (show RI w B v (rAt ins r) by rw [hv]; exact hs.hrow r hrk)
  have HGR := Aside0.mk (show ∀ w1, w.drew.grownBy w1 v.ownBlock → w1.heap[p]? = w.heap[p]? ∧ w1.heap[gi]? = w.heap[gi]? from fun w1 hg => ⟨hg.block p hs.ltp (by rw [hv]; exact hs.nepv (hs.hrow r hrk)), hg.block gi hs.ltg (by rw [hv]; exact hs.negv (hs.hrow r hrk))⟩)
  have p1 : (0 ≤ (r : Int)) = True := eq_true (by omega)
  have p2 : (r < k) = True := eq_true hrk
  have p3 : ((r : Int) < (k : Int)) = True := eq_true (by omega)
  have p4 : (0 ≤ id) = True := eq_true h0
  have p5 : (id < (at_.length : Int)) = True := eq_true h1
  have HSB := Aside0.mk (show ∀ W_, Below w.heap.size w W_ → W_.cell? ⟨p, 1, none⟩ = some (.slice (some ⟨gi, 0, none⟩) k k) ∧ W_.cell? ⟨gi, r, none⟩ = some v from fun W_ hk => ⟨(hs.below hk).c1, by rw [hv]; exact (hs.below hk).cr hrk⟩)
  clear hs hB hB0 hBw hrl hva hgaB hgal hga hrk h0 h1 hv
  go_enter Try.func31, Try.ntmps31
  try go_wp2
  refine start_ (n := 17) (S := fun w' => w'.cell? ⟨p, 1, none⟩ = some (.slice (some ⟨gi, 0, none⟩) k k) ∧ w'.cell? ⟨gi, r, none⟩ = some (v)) (ds := [16]) #[false, false, false, false, false, false, false, false, false, false, false, false, false, false, false, false, false] (by kernel_rfl) rfl rfl ⟨(HSB.out _ (below_drew1 (Below.refl _ _))).1, (HSB.out _ (below_drew1 (Below.refl _ _))).2⟩ (fun hHeld => ?_)
  refine pure_ (i := 0) (N := some 6) (v := ?_) (a' := ?_) #[true, false, false, false, false, false, false, false, false, false, false, false, false, false, false, false, false] rfl rfl (by kernel_rfl) (fun _ _ _ h => h) (Or.inl ⟨by rfl, ?_⟩) ?_ ?_
  rotate_left
  · intro w'
    go_simp
    with_reducible rfl
  rotate_left
  · simp only [Act.put, List.setIfInBounds_toArray, List.set_cons_zero, List.set_cons_succ, i64_w, i32_w]
    rfl
  refine pure_ (i := 1) (N := some 7) (v := ?_) (a' := ?_) #[true, true, false, false, false, false, false, false, false, false, false, false, false, false, false, false, false] rfl rfl (by kernel_rfl) (fun _ _ _ h => h) (Or.inl ⟨by rfl, ?_⟩) ?_ ?_
  rotate_left
  · intro w'
    go_simp
    with_reducible rfl
  rotate_left
  · simp only [Act.put, List.setIfInBounds_toArray, List.set_cons_zero, List.set_cons_succ, i64_w, i32_w]
    rfl
  refine pure_ (i := 2) (N := some 8) (v := ?_) (a' := ?_) #[true, true, true, false, false, false, false, false, false, false, false, false, false, false, false, false, false] rfl rfl (by kernel_rfl) (fun _ _ _ h => h) (Or.inl ⟨by rfl, ?_⟩) ?_ ?_
  rotate_left
  · intro w'
    go_simp
    with_reducible rfl
  rotate_left
  · simp only [Act.put, List.setIfInBounds_toArray, List.set_cons_zero, List.set_cons_succ, i64_w, i32_w]
    rfl
  refine pure_ (i := 4) (N := some 10) (v := ?_) (a' := ?_) #[true, true, true, false, true, false, false, false, false, false, false, false, false, false, false, false, false] rfl rfl (by kernel_rfl) (fun _ _ _ h => h) (Or.inl ⟨by rfl, ?_⟩) ?_ ?_
  rotate_left
  · intro w'
    go_simp
    with_reducible rfl
  rotate_left
  · simp only [Act.put, List.setIfInBounds_toArray, List.set_cons_zero, List.set_cons_succ, i64_w, i32_w]
    rfl
  refine pure_ (i := 5) (N := some 11) (v := ?_) (a' := ?_) #[true, true, true, false, true, true, false, false, false, false, false, false, false, false, false, false, false] rfl rfl (by kernel_rfl) (fun _ _ _ h => h) (Or.inl ⟨by rfl, ?_⟩) ?_ ?_
  rotate_left
  · intro w'
    go_simp
    with_reducible rfl
  rotate_left
  · simp only [Act.put, List.setIfInBounds_toArray, List.set_cons_zero, List.set_cons_succ, i64_w, i32_w]
    rfl
  refine pure_ (i := 6) (N := some 12) (v := ?_) (a' := ?_) #[true, true, true, false, true, true, true, false, false, false, false, false, false, false, false, false, false] rfl rfl (by kernel_rfl) (fun _ _ _ h => h) (Or.inl ⟨by rfl, ?_⟩) ?_ ?_
  rotate_left
  · intro w'
    go_simp
    with_reducible rfl
  rotate_left
  · simp only [Act.put, List.setIfInBounds_toArray, List.set_cons_zero, List.set_cons_succ, i64_w, i32_w]
    rfl
  refine pure_ (i := 7) (N := some 13) (v := ?_) (a' := ?_) #[true, true, true, false, true, true, true, true, false, false, false, false, false, false, false, false, false] rfl rfl (by kernel_rfl) (fun _ _ _ h => h) (Or.inl ⟨by rfl, ?_⟩) ?_ ?_
  rotate_left
  · intro w'
    go_simp
    with_reducible rfl
  rotate_left
  · simp only [Act.put, List.setIfInBounds_toArray, List.set_cons_zero, List.set_cons_succ, i64_w, i32_w]
    rfl
  refine pure_ (i := 9) (N := some 15) (v := ?_) (a' := ?_) #[true, true, true, false, true, true, true, true, false, true, false, false, false, false, false, false, false] rfl rfl (by kernel_rfl) (fun _ _ _ h => h) (Or.inl ⟨by rfl, ?_⟩) ?_ ?_
  rotate_left
  · intro w'
    go_simp
    with_reducible rfl
  rotate_left
  · simp only [Act.put, List.setIfInBounds_toArray, List.set_cons_zero, List.set_cons_succ, i64_w, i32_w]
    rfl
  refine pure_ (i := 12) (N := some 18) (v := ?_) (a' := ?_) #[true, true, true, false, true, true, true, true, false, true, false, false, true, false, false, false, false] rfl rfl (by kernel_rfl) (fun _ _ _ h => h) (Or.inl ⟨by rfl, ?_⟩) ?_ ?_
  rotate_left
  · intro w'
    go_simp
    with_reducible rfl
  rotate_left
  · simp only [Act.put, List.setIfInBounds_toArray, List.set_cons_zero, List.set_cons_succ, i64_w, i32_w]
    rfl
  refine take_ (i := 3) (N := some 9) (v := ?_) (a' := ?_) #[true, true, true, true, true, true, true, true, false, true, false, false, true, false, false, false, false] rfl rfl (by kernel_rfl) (fun _ _ _ h => h) (Or.inl ⟨by rfl, ?_⟩) hHeld ?_ ?_
  rotate_left
  · rintro w' ⟨s0, s1⟩
    go_simp
    with_reducible rfl
  rotate_left
  · simp only [Act.put, List.setIfInBounds_toArray, List.set_cons_zero, List.set_cons_succ, i64_w, i32_w]
    rfl
  refine take_ (i := 8) (N := some 14) (v := ?_) (a' := ?_) #[true, true, true, true, true, true, true, true, true, true, false, false, true, false, false, false, false] rfl rfl (by kernel_rfl) (fun _ _ _ h => h) (Or.inl ⟨by rfl, ?_⟩) hHeld ?_ ?_
  rotate_left
  · rintro w' ⟨s0, s1⟩
    go_simp
    with_reducible rfl
  rotate_left
  · simp only [Act.put, List.setIfInBounds_toArray, List.set_cons_zero, List.set_cons_succ, i64_w, i32_w]
    rfl
  refine pure_ (i := 10) (N := some 16) (v := ?_) (a' := ?_) #[true, true, true, true, true, true, true, true, true, true, true, false, true, false, false, false, false] rfl rfl (by kernel_rfl) (fun _ _ _ h => h) (Or.inl ⟨by rfl, ?_⟩) ?_ ?_
  rotate_left
  · intro w'
    go_simp
    with_reducible rfl
  rotate_left
  · simp only [Act.put, List.setIfInBounds_toArray, List.set_cons_zero, List.set_cons_succ, i64_w, i32_w]
    rfl
  refine take_ (i := 11) (N := some 17) (v := ?_) (a' := ?_) #[true, true, true, true, true, true, true, true, true, true, true, true, true, false, false, false, false] rfl rfl (by kernel_rfl) (fun _ _ _ h => h) (Or.inl ⟨by rfl, ?_⟩) hHeld ?_ ?_
  rotate_left
  · rintro w' ⟨s0, s1⟩
    go_simp
    with_reducible rfl
  rotate_left
  · simp only [Act.put, List.setIfInBounds_toArray, List.set_cons_zero, List.set_cons_succ, i64_w, i32_w]
    rfl
  refine one_ (i := 13) (N := some 19) #[true, true, true, true, true, true, true, true, true, true, true, true, true, true, false, false, false] rfl rfl (by kernel_rfl) (by decide) (fun K hK => ?_)
  refine value_ (w1 := ?_) (v := ?_) (by rfl) rfl ?_ ?_
  rotate_left 2
  · go_simp
    constructor
    · rfl
    · rfl
  refine hK.out _ _ ⟨(HSB.out _ (below_alloc (below_drew1 (Below.refl _ _)) _)).1, (HSB.out _ (below_alloc (below_drew1 (Below.refl _ _)) _)).2⟩ (fun hHeld => ?_)
  clear hK K
  refine norm_ (a' := ?_) ?_ ?_
  rotate_left
  · show Act.put _ (some 19) _ = _
    simp only [Act.put, List.setIfInBounds_toArray, List.set_cons_zero, List.set_cons_succ, i64_w, i32_w]
    rfl
  refine one_ (i := 14) (N := some 20) #[true, true, true, true, true, true, true, true, true, true, true, true, true, true, true, false, false] rfl rfl (by kernel_rfl) (by decide) (fun K hK => ?_)
  refine Kd.R_append_step (Kd.int .i64) (w0 := w.drew) B (by rfl) _ _ 29 3 (.int .i64 0) 8 (by rfl) Try.underlying29 infoI rfl (by decide) (by omega) v (rAt ins r) id [.int .i64 id] (fun _ => True) (fun _ => False) (by rfl) (by rfl) rfl (fun _ hk => hk.elim) (fun _ _ => trivial) (Kd.R_drew HRV.out) (Below.refl _ _) HBW.out (by have := HL.out; omega) ?_
  intro v1 w1 ho hb hg hat
  obtain ⟨A1, n1, c1, e1⟩ : ∃ A n c, v1 = .slice A n c := (by obtain ⟨A, c, h, _⟩ := Kd.R_reads ho; exact ⟨A, _, c, h⟩)
  subst e1
  have HV1 := Aside0.mk ho
  have HG1 := Aside0.mk hg
  have HN1 := Aside0.mk hat
  have HB1 := Aside0.mk (below_weaken (below_drew1 HB.out) HB0.out hb)
  have hy1 : w1.cell? ⟨gi, r, none⟩ = some v := by simpa [World.cell?, (HGR.out w1 hg).2] using (HSB.out w (Below.refl _ _)).2
  have hz1 : w1.frozen? ⟨gi, r, none⟩ = false := blk_frozen ((HGR.out w1 hg).2.trans HS.out.hin) r
  have hy0 : w1.cell? ⟨p, 1, none⟩ = some (.slice (some ⟨gi, 0, none⟩) k k) := by simpa [World.cell?, (HGR.out w1 hg).1] using (HSB.out w (Below.refl _ _)).1
  clear ho hb hg hat
  refine hK.out _ _ ⟨hy0, hy1⟩ (fun hHeld => ?_)
  clear hK K
  refine norm_ (a' := ?_) ?_ ?_
  rotate_left
  · show Act.put _ (some 20) _ = _
    simp only [Act.put, List.setIfInBounds_toArray, List.set_cons_zero, List.set_cons_succ, i64_w, i32_w]
    rfl
  refine pure_ (i := 15) (N := some 21) (v := ?_) (a' := ?_) #[true, true, true, true, true, true, true, true, true, true, true, true, true, true, true, true, false] rfl rfl (by kernel_rfl) (fun _ _ _ h => h) (Or.inl ⟨by rfl, ?_⟩) ?_ ?_
  rotate_left
  · intro w'
    go_simp
    with_reducible rfl
  rotate_left
  · simp only [Act.put, List.setIfInBounds_toArray, List.set_cons_zero, List.set_cons_succ, i64_w, i32_w]
    rfl
  refine last_ (i := 16) (N := none) #[true, true, true, true, true, true, true, true, true, true, true, true, true, true, true, true, true] rfl rfl (by kernel_rfl) (by decide) (fun K hK => ?_)
  refine skip_ (w1 := ?_) (by rfl) rfl ?_ ?_
  rotate_left
  · go_simp
    rfl
  refine hK.out _ _ ?_
  clear hK K
  refine done_ (by kernel_rfl) ?_

  have HNO := Aside0.mk (show NewOr w (vAt vs r) (.slice A1 n1 c1) from fun b hb => HN1.out.elim (fun h => .inl (by rw [← HV.out, ← h]; exact hb)) (fun ⟨b', h, hb'⟩ => .inr (by rw [h] at hb; injection hb with hb; rw [← hb]; exact hb')))
  have HKR := Aside0.mk (show Kept w w1 (fun b => (vAt vs r).ownBlock = some b) from Kept.of_grown HG1.out (Kept.drew (Kept.refl w _)) (fun b hb => .inl (by rw [← HV.out]; exact hb)))
  have HS2 := Aside0.mk (SC.setRow HS.out HRK.out HV1.out HKR.out HNO.out)
  have HK2 := Aside0.mk (Kept_setRow HS.out HRK.out HKR.out (.slice A1 n1 c1))
  have HB2 := Aside0.mk (below_set (j := r) (v := .slice A1 n1 c1) HB1.out (Nat.le_trans HB0.out HS.out.hB))
  clear hHeld hy0 hy1 hz1 HB1 HGR
  generalize w1.setCell ⟨gi, r, none⟩ (.slice A1 n1 c1) = w2 at HS2 HK2 HB2 ⊢
  have hy2 := HS2.out.c2
  rw [HVA.out] at hy2
  obtain ⟨_, hz2⟩ := Kd.R_celln 0 (show RI w2 B (.slice (some ⟨ga, 0, none⟩) at_.length ca) at_ by rw [← HVA.out]; exact HS2.out.hat) id HID.out.1 HID.out.2
  obtain ⟨hy3, _⟩ := Kd.R_celln 0 (show RI w2 B (.slice (some ⟨ga, 0, none⟩) at_.length ca) at_ by rw [← HVA.out]; exact HS2.out.hat) id HID.out.1 HID.out.2
  go_wp2
  go_end0
  refine ⟨rfl, _, SC.setAt HS2.out id.toNat (r : Int) HVA.out, below_set HB2.out HGA.out, HK2.out.setCell (p := ⟨ga, id.toNat, none⟩) (.inl (SK_ga HVA.out)) _, fun b hb => SK_setRow HS.out HRK.out HNO.out hb⟩
end Go.Proofs.Ytolhijnkgkfjgaa.XC
