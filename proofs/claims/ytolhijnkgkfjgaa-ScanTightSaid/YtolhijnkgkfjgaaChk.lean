/- Check: its contract, where it finds nothing wrong. -/
import Derived.Test.YtolhijnkgkfjgaaSure
import Derived.Test.YtolhijnkgkfjgaaMapR
import Derived.Test.YtolhijnkgkfjgaaPlace
namespace Go.Proofs.Ytolhijnkgkfjgaa.XC
open Go Go.RowKit Go.Proofs.YtolhijnkgkfjgaaW.PrintWords Go.Proofs.YtolhijnkgkfjgaaW.PrintLast Go.Proofs.YtolhijnkgkfjgaaW.PrintMore
attribute [local go_sem] max2_int min2_int max_two min_two max_three min_three max_four min_four   -- for this text's walks alone
set_option linter.unusedVariables false
set_option linter.unusedSimpArgs false
def placeB (s : Sp) (k x : Int) : Bool := (decide (0 ≤ x) && decide (x < k)) || decide (256 ≤ x) || (x == -1 && s.f0.length == 0)
theorem place_f {s : Sp} {k x : Int} (h : placeB s k x = true) : scan_place.f s.f0 s.f1 k x = some true := by
  unfold placeB at h
  unfold scan_place.f
  simp only [Bool.or_eq_true, Bool.and_eq_true, decide_eq_true_eq, beq_iff_eq] at h
  by_cases h0 : x ≥ 0
  · rw [if_pos h0]
    by_cases h1 : x < k
    · rw [if_pos h1]
    · rw [if_neg h1, if_pos (by omega)]
  · rw [if_neg h0, if_neg (by omega), if_pos (by omega)]
    have : s.f0.length = 0 := by omega
    rw [this]
    rfl
/-- All can be held so. -/
def chkB (l : List Sp) (k : Int) (at_ : List Int) : Bool := (List.range l.length).all fun (i : Nat) => placeB (rdS l (i : Int)) k (rd at_ (i : Int)) && (rowsF at_ i (rd at_ (i : Int))).all fun o => !mtOf l (i : Int) o
def wfB (at_ : List Int) : Bool := at_.all fun x => (Lit.int .i64 x).wf
def scan_Check.f (k : Nat) (l0 : List Sp) (a1 : Int) (l2 : List Int) : Option (Option Int) := if l0.length ≤ 1024 ∧ (l0.all fun s => decide (s.f0.length ≤ 900000000)) = true ∧ 1 ≤ a1 ∧ a1 ≤ 32 ∧ okL l0 = true ∧ l2.length = l0.length ∧ wfB l2 = true ∧ chkB l0 a1 l2 = true then some none else none
theorem scan_Check.mono : ∀ k, (∀ y0 y1 y2, LeO (scan_Check.f k y0 y1 y2) (scan_Check.f (k + 1) y0 y1 y2)) := fun _ _ _ _ => LeO.refl _
theorem box_cells (w : World) (a b : Value) (t : Nat) : ∀ W, Below (w.alloc (.cells #[a, b] t)).heap.size (w.alloc (.cells #[a, b] t)) W → W.cell? ⟨w.heap.size, 0, none⟩ = some a ∧ W.cell? ⟨w.heap.size, 1, none⟩ = some b := fun W hW => by
  have h : (w.alloc (.cells #[a, b] t)).heap[w.heap.size]? = some (.cells #[a, b] t (0, 0)) := by
    show (w.heap.push _)[w.heap.size]? = _
    exact Array.getElem?_push_size
  have h2 := (hW.block _ (blk_lt h)).trans h
  exact ⟨(blk_cell h2 0).trans rfl, (blk_cell h2 1).trans rfl⟩
set_option maxHeartbeats 16000000 in
set_option maxRecDepth 100000 in
theorem scan_Check.walk (w : World) (A : Option Addr) (c : Nat) (l : List Sp) (hr : Kd.C k28 w A l.length l) (hc : l.length ≤ c) (k : Int) (A2 : Option Addr) (c2 : Nat) (at_ : List Int) (hr2 : Kd.C (Kd.int .i64) w A2 at_.length at_) (hc2 : at_.length ≤ c2) (hl : l.length ≤ 1024) (hL : Lens l) (hok : okL l = true) (hck : scan_check.f (fuel l) l k = some none) (hal : at_.length = l.length) (hwf : wfB at_ = true) (hch : chkB l k at_ = true) :
    Calls Try.prog 13 #[.slice A l.length c, .int .i64 k, .slice A2 at_.length c2] w fun e w' => e = .returned .nilIface ∧ Below w.heap.size w w' := by
  have HCK := Aside0.mk ((scan_check.calls (fuel l) A c l k none w hr hc hck).mono (R' := fun e w' => e = .returned .nilIface ∧ Below w.heap.size w w') (fun e w' h => h))
  have HR := Aside0.mk hr
  have HR2 := Aside0.mk hr2
  have HM := Aside0.mk (meetIs l hok hL)
  have HN := Aside0.mk hl
  have HAL := Aside0.mk hal
  have HWF := Aside0.mk (show ∀ i : Nat, i < l.length → WfI (rd at_ (i : Int)) from fun i hi => by
    have h := List.all_eq_true.1 hwf (rd at_ (i : Int)) (by
      unfold rd
      rw [Int.toNat_natCast, List.getD_eq_getElem?_getD, List.getElem?_eq_getElem (by omega)]
      exact List.getElem_mem _)
    exact h)
  have HCH := Aside0.mk (show ∀ i : Nat, i < l.length → placeB (rdS l (i : Int)) k (rd at_ (i : Int)) = true ∧ ∀ o ∈ rowsF at_ i (rd at_ (i : Int)), mtOf l (i : Int) o = false from fun i hi => by
    have h := List.all_eq_true.1 hch i (List.mem_range.2 hi)
    rw [Bool.and_eq_true] at h
    exact ⟨h.1, fun o ho => by have := List.all_eq_true.1 h.2 o ho; simpa using this⟩)
  rw [hal] at hr2 hc2 ⊢
  have hb1 : ((l.length : Int) != (l.length : Int)) = false := bne_eq_false_iff_eq.mpr rfl
  clear hr hc hr2 hc2 hl hL hok hck hal hwf hch
  have hmk : ∀ W, (Instr.makeMap 66 none).run Try.prog W = .ok (.map (some W.heap.size)) (W.alloc (.map #[] 0)) := fun _ => by kernel_rfl
  go_enter Try.func13, Try.ntmps13
  go_wp2_with (go_at_call 14; refine HCK.out.mono ?_; rintro e w1 ⟨rfl, hb⟩; have HB1 := Aside0.mk hb; clear hb HCK)
  have HMR0 := Aside0.mk (MR.made w w1 at_ HB1.out)
  obtain ⟨w2, hw2⟩ : ∃ w2, w2 = w1.alloc (.map #[] 0) := ⟨_, rfl⟩
  obtain ⟨b, hb⟩ : ∃ b, b = w1.heap.size := ⟨_, rfl⟩
  rw [← hw2, ← hb] at HMR0 ⊢
  clear hw2 hb hmk HB1
  go_loopg [27] l.length (fun kq v27 w' => ∃ (i : Nat) (vs : Int → Value), v27 = .int .i64 (i : Int) ∧ Aside0 (kq + i = l.length) ∧ Aside0 (MR w w' b i vs at_))
  case atStart => exact ⟨0, _, rfl, ⟨rfl⟩, HMR0⟩
  case round =>
    clear HMR0
    obtain ⟨i, vs, rfl, HKQ, HMR⟩ := hrel
    by_cases hi : i < l.length
    · obtain ⟨k1, rfl⟩ : ∃ k1, gk = k1 + 1 := ⟨gk - 1, by have := HKQ.out; omega⟩
      have hc : decide ((i : Int) < (l.length : Int)) = true := decide_eq_true (by omega)
      have hi2 : (i < l.length) = True := eq_true hi
      have hi3 : ((i : Int) < (l.length : Int)) = True := eq_true (by omega)
      have hi4 : (0 ≤ (i : Int)) = True := eq_true (by omega)
      have hw := wrap_succ i l.length hi (by have := HN.out; omega)
      have HI := Aside0.mk hi
      obtain ⟨ads, A1, c1, rfl, hl1, hsp⟩ := span_cells HR.out (i : Int) (by omega) (by omega)
      have HSP := Aside0.mk hsp
      have HL1 := Aside0.mk hl1
      rw [Int.toNat_natCast] at HSP
      have hs0 := HSP.out wr HMR.out.bl
      have hx0 := hs0.1
      have hx1 := hs0.2.1
      obtain ⟨ada, e2, hya⟩ := Kd.at_int HR2.out (i : Int) (by omega) (by have := HAL.out; omega)
      subst e2
      rw [Int.toNat_natCast] at hya
      obtain ⟨z, hz⟩ : ∃ z, z = rd at_ (i : Int) := ⟨_, rfl⟩
      have hpl := (HCH.out i hi).1
      have hno := (HCH.out i hi).2
      have hwz := HWF.out i hi
      rw [← hz] at hya hpl hno hwz
      have HZ := Aside0.mk hz
      have HYA := Aside0.mk hya
      have HPL := Aside0.mk (place_f hpl)
      have HNO := Aside0.mk hno
      have HWZ := Aside0.mk hwz
      obtain ⟨s, hs⟩ : ∃ s, s = rdS l (i : Int) := ⟨_, rfl⟩
      rw [← hs] at HSP HL1 HPL hx0 hx1
      have HSD := Aside0.mk hs
      have HBX := Aside0.mk (box_cells wr (.slice A1 s.f0.length c1) (.int .i64 s.f1) 28)
      have HBL := Aside0.mk (below_alloc (Below.refl wr.heap.size wr) (.cells #[.slice A1 s.f0.length c1, .int .i64 s.f1] 28))
      clear hi hl1 hsp hs0 hya hz hpl hno hwz hs
      go_wp2
      obtain ⟨bx, hbx⟩ : ∃ bx, bx = wr.heap.size := ⟨_, rfl⟩
      obtain ⟨wb, hwb⟩ : ∃ wb, wb = wr.alloc (.cells #[.slice A1 s.f0.length c1, .int .i64 s.f1] 28) := ⟨_, rfl⟩
      rw [← hbx, ← hwb] at HBX
      rw [← hwb] at HBL
      rw [← hbx, ← hwb]
      have HMB := Aside0.mk (HMR.out.below HBL.out)
      have HFC := Aside0.mk (show ∀ W_, Below wb.heap.size wb W_ → W_.cell? ⟨bx, 0, none⟩ = some (.slice A1 s.f0.length c1) ∧ W_.cell? ⟨bx, 1, none⟩ = some (.int .i64 s.f1) ∧ W_.cell? (ada.add i) = some (.int .i64 z) from fun W_ hk => ⟨(HBX.out W_ hk).1, (HBX.out W_ hk).2, pw_cell_below (below_step HMB.out.bl hk) HYA.out⟩)
      clear hbx hwb hx0 hx1 HBX HMR HBL
      refine start_ (n := 8) (S := fun w' => w'.cell? ⟨bx, 0, none⟩ = some (.slice A1 s.f0.length c1) ∧ w'.cell? ⟨bx, 1, none⟩ = some (.int .i64 s.f1) ∧ w'.cell? (ada.add i) = some (.int .i64 z)) (ds := []) #[false, false, false, false, false, false, false, false] (by kernel_rfl) rfl rfl ⟨(HFC.out _ (below_drew1 (Below.refl _ _))).1, (HFC.out _ (below_drew1 (Below.refl _ _))).2.1, (HFC.out _ (below_drew1 (Below.refl _ _))).2.2⟩ (fun hHeld => ?_)
      refine pure_ (i := 1) (N := some 33) (v := ?_) (a' := ?_) #[false, true, false, false, false, false, false, false] rfl rfl (by kernel_rfl) (fun _ _ _ h => h) (Or.inl ⟨by rfl, ?_⟩) ?_ ?_
      rotate_left
      · intro w'
        go_simp
        with_reducible rfl
      rotate_left
      · simp only [Act.put, List.setIfInBounds_toArray, List.set_cons_zero, List.set_cons_succ, i64_w, i32_w]
        rfl
      refine pure_ (i := 2) (N := some 34) (v := ?_) (a' := ?_) #[false, true, true, false, false, false, false, false] rfl rfl (by kernel_rfl) (fun _ _ _ h => h) (Or.inl ⟨by rfl, ?_⟩) ?_ ?_
      rotate_left
      · intro w'
        go_simp
        with_reducible rfl
      rotate_left
      · simp only [Act.put, List.setIfInBounds_toArray, List.set_cons_zero, List.set_cons_succ, i64_w, i32_w]
        rfl
      refine pure_ (i := 3) (N := some 35) (v := ?_) (a' := ?_) #[false, true, true, true, false, false, false, false] rfl rfl (by kernel_rfl) (fun _ _ _ h => h) (Or.inl ⟨by rfl, ?_⟩) ?_ ?_
      rotate_left
      · intro w'
        go_simp
        with_reducible rfl
      rotate_left
      · simp only [Act.put, List.setIfInBounds_toArray, List.set_cons_zero, List.set_cons_succ, i64_w, i32_w]
        rfl
      refine pure_ (i := 4) (N := some 36) (v := ?_) (a' := ?_) #[false, true, true, true, true, false, false, false] rfl rfl (by kernel_rfl) (fun _ _ _ h => h) (Or.inl ⟨by rfl, ?_⟩) ?_ ?_
      rotate_left
      · intro w'
        go_simp
        with_reducible rfl
      rotate_left
      · simp only [Act.put, List.setIfInBounds_toArray, List.set_cons_zero, List.set_cons_succ, i64_w, i32_w]
        rfl
      refine take_ (i := 0) (N := some 32) (v := ?_) (a' := ?_) #[true, true, true, true, true, false, false, false] rfl rfl (by kernel_rfl) (fun _ _ _ h => h) (Or.inl ⟨by rfl, ?_⟩) hHeld ?_ ?_
      rotate_left
      · rintro w' ⟨s0, s1, s2⟩
        go_simp
        with_reducible rfl
      rotate_left
      · simp only [Act.put, List.setIfInBounds_toArray, List.set_cons_zero, List.set_cons_succ, i64_w, i32_w]
        rfl
      refine take_ (i := 5) (N := some 37) (v := ?_) (a' := ?_) #[true, true, true, true, true, true, false, false] rfl rfl (by kernel_rfl) (fun _ _ _ h => h) (Or.inl ⟨by rfl, ?_⟩) hHeld ?_ ?_
      rotate_left
      · rintro w' ⟨s0, s1, s2⟩
        go_simp
        with_reducible rfl
      rotate_left
      · simp only [Act.put, List.setIfInBounds_toArray, List.set_cons_zero, List.set_cons_succ, i64_w, i32_w]
        rfl
      refine one_ (i := 6) (N := some 38) #[true, true, true, true, true, true, true, false] rfl rfl (by kernel_rfl) (by decide) (fun K hK => ?_)
      refine goes_ Try.func26 (by kernel_rfl) rfl #[.agg #[.slice A1 s.f0.length c1, .int .i64 s.f1], .int .i64 k, .int .i64 z] (by rfl) rfl rfl (by simp only [List.map_toArray, List.map_cons, List.map_nil]; rfl) ?_
      with_reducible refine (scan_place.calls A1 c1 s.f0 s.f1 k z true _ (HSP.out _ (below_drew1 HMB.out.bl)).2.2 HL1.out HPL.out).mono ?_
      rintro e w3 ⟨rfl, hb⟩
      refine ⟨_, rfl, ?_⟩
      refine hK.out _ _ ⟨(HFC.out _ (below_step (below_drew1 (Below.refl _ _)) hb)).1, (HFC.out _ (below_step (below_drew1 (Below.refl _ _)) hb)).2.1, (HFC.out _ (below_step (below_drew1 (Below.refl _ _)) hb)).2.2⟩ (fun hHeld => ?_)
      clear hK K
      refine norm_ (a' := ?_) ?_ ?_
      rotate_left
      · show Act.put _ (some 38) _ = _
        simp only [Act.put, List.setIfInBounds_toArray, List.set_cons_zero, List.set_cons_succ, i64_w, i32_w]
        rfl
      refine pure_ (i := 7) (N := some 39) (v := ?_) (a' := ?_) #[true, true, true, true, true, true, true, true] rfl rfl (by kernel_rfl) (fun _ _ _ h => h) (Or.inl ⟨by rfl, ?_⟩) ?_ ?_
      rotate_left
      · intro w'
        go_simp
        with_reducible rfl
      rotate_left
      · simp only [Act.put, List.setIfInBounds_toArray, List.set_cons_zero, List.set_cons_succ, i64_w, i32_w]
        rfl
      refine done_ (by kernel_rfl) ?_

      have HB3 := Aside0.mk (below_step (below_drew1 (Below.refl wb.heap.size wb)) hb)
      have HM3 := Aside0.mk (HMB.out.below HB3.out)
      have hy0 := (HFC.out _ HB3.out).2.2
      have hlk := HM3.out.mm.look z HWZ.out
      have HROW := Aside0.mk (HM3.out.row z)
      obtain ⟨row, hrow⟩ : ∃ row, row = rowsF at_ i z := ⟨_, rfl⟩
      obtain ⟨v, hv⟩ : ∃ v, v = vs z := ⟨_, rfl⟩
      rw [← hrow, ← hv] at HROW
      rw [← hv] at hlk
      obtain ⟨AV, cV, hvs, hcV, hCV⟩ := Kd.R_reads HROW.out
      rw [hvs] at hlk
      have HROWF := Aside0.mk hrow
      have HVS := Aside0.mk hvs
      have HVZ := Aside0.mk hv
      have HCV := Aside0.mk hCV
      have HNO2 := Aside0.mk (show row.length ≤ 1024 ∧ ∀ j : Nat, j < row.length → 0 ≤ rd row (j : Int) ∧ rd row (j : Int) < (l.length : Int) ∧ mtOf l (i : Int) (rd row (j : Int)) = false from ⟨by rw [hrow]; have h1 := rowsF_len at_ i z; have h2 := HI.out; have h3 := HN.out; omega, fun j hj => by
        have hm : rd row (j : Int) ∈ rowsF at_ i z := by
          rw [← hrow]
          unfold rd
          rw [Int.toNat_natCast, List.getD_eq_getElem?_getD, List.getElem?_eq_getElem hj]
          exact List.getElem_mem hj
        have h1 := rowsF_mem hm
        have h2 := HI.out
        exact ⟨h1.1, by omega, HNO.out _ hm⟩⟩)
      clear hrow hv hvs hcV hCV hb HMB
      go_wp2
      have HW3 := Aside0.mk (Below.refl w3.heap.size w3)
      go_loopg [48] row.length (fun kq v48 w' => ∃ (j : Nat), v48 = .int .i64 (j : Int) ∧ Aside0 (kq + j = row.length) ∧ Aside0 (Below w3.heap.size w3 w'))
      case atStart => exact ⟨0, rfl, ⟨by omega⟩, HW3⟩
      case round =>
        clear HW3
        obtain ⟨j, rfl, HKJ, HWJ⟩ := hrel
        by_cases hj : j < row.length
        · obtain ⟨k2, rfl⟩ : ∃ k2, gk = k2 + 1 := ⟨gk - 1, by have := HKJ.out; omega⟩
          have gc : decide ((j : Int) < (row.length : Int)) = true := decide_eq_true (by omega)
          have g2 : (j < row.length) = True := eq_true hj
          have g3 : ((j : Int) < (row.length : Int)) = True := eq_true (by omega)
          have g4 : (0 ≤ (j : Int)) = True := eq_true (by omega)
          have gw := wrap_succ j row.length hj (by have := HNO2.out.1; omega)
          obtain ⟨adv, e3, hyo⟩ := Kd.at_int (Kd.C_below HCV.out HWJ.out) (j : Int) (by omega) (by omega)
          subst e3
          rw [Int.toNat_natCast] at hyo
          have ho := HNO2.out.2 j hj
          obtain ⟨o, ho2⟩ : ∃ o, o = rd row (j : Int) := ⟨_, rfl⟩
          rw [← ho2] at hyo ho
          obtain ⟨_, A3, c3, e1, hl2, hsp2⟩ := span_cells HR.out o ho.1 ho.2.1
          cases e1
          have HSP2 := Aside0.mk hsp2
          have HL2 := Aside0.mk hl2
          obtain ⟨kM, hkM⟩ := HM.out (i : Int) o (by omega) (by have := HI.out; omega) ho.1 ho.2.1
          rw [ho.2.2, ← HSD.out] at hkM
          have HKM := Aside0.mk hkM
          obtain ⟨s2, hs2⟩ : ∃ s2, s2 = rdS l o := ⟨_, rfl⟩
          rw [← hs2] at HSP2 HL2 HKM
          have q4 : (0 ≤ o) = True := eq_true ho.1
          have q5 : (o < (l.length : Int)) = True := eq_true ho.2.1
          have HBR := Aside0.mk (below_step HB3.out HWJ.out)
          have HWW := Aside0.mk (below_step HM3.out.bl HWJ.out)
          have HSB := Aside0.mk (show ∀ W_, Below wr.heap.size wr W_ → W_.cell? ⟨bx, 0, none⟩ = some (.slice A1 s.f0.length c1) ∧ W_.cell? ⟨bx, 1, none⟩ = some (.int .i64 s.f1) ∧ W_.cell? (ads.add (o.toNat * 2)) = some (.slice A3 s2.f0.length c3) ∧ W_.cell? ⟨(ads.add (o.toNat * 2)).block, (ads.add (o.toNat * 2)).off + 1, none⟩ = some (.int .i64 s2.f1) from fun W_ hk => by
            have h := below_step HWW.out hk
            have h2 := HFC.out _ (below_step HBR.out hk)
            exact ⟨h2.1, h2.2.1, (HSP2.out W_ h).1, (HSP2.out W_ h).2.1⟩)
          clear hj ho ho2 hl2 hsp2 hkM hs2
          go_wp2
          refine start_ (n := 6) (S := fun w' => w'.cell? ⟨bx, 0, none⟩ = some (.slice A1 s.f0.length c1) ∧ w'.cell? ⟨bx, 1, none⟩ = some (.int .i64 s.f1) ∧ w'.cell? (ads.add (o.toNat * 2)) = some (.slice A3 s2.f0.length c3) ∧ w'.cell? ⟨(ads.add (o.toNat * 2)).block, (ads.add (o.toNat * 2)).off + 1, none⟩ = some (.int .i64 s2.f1)) (ds := []) #[false, false, false, false, false, false] (by kernel_rfl) rfl rfl ⟨(HSB.out _ (below_drew1 (Below.refl _ _))).1, (HSB.out _ (below_drew1 (Below.refl _ _))).2.1, (HSB.out _ (below_drew1 (Below.refl _ _))).2.2.1, (HSB.out _ (below_drew1 (Below.refl _ _))).2.2.2⟩ (fun hHeld => ?_)
          refine pure_ (i := 1) (N := some 53) (v := ?_) (a' := ?_) #[false, true, false, false, false, false] rfl rfl (by kernel_rfl) (fun _ _ _ h => h) (Or.inl ⟨by rfl, ?_⟩) ?_ ?_
          rotate_left
          · intro w'
            go_simp
            with_reducible rfl
          rotate_left
          · simp only [Act.put, List.setIfInBounds_toArray, List.set_cons_zero, List.set_cons_succ, i64_w, i32_w]
            rfl
          refine pure_ (i := 2) (N := some 54) (v := ?_) (a' := ?_) #[false, true, true, false, false, false] rfl rfl (by kernel_rfl) (fun _ _ _ h => h) (Or.inl ⟨by rfl, ?_⟩) ?_ ?_
          rotate_left
          · intro w'
            go_simp
            with_reducible rfl
          rotate_left
          · simp only [Act.put, List.setIfInBounds_toArray, List.set_cons_zero, List.set_cons_succ, i64_w, i32_w]
            rfl
          refine pure_ (i := 3) (N := some 55) (v := ?_) (a' := ?_) #[false, true, true, true, false, false] rfl rfl (by kernel_rfl) (fun _ _ _ h => h) (Or.inl ⟨by rfl, ?_⟩) ?_ ?_
          rotate_left
          · intro w'
            go_simp
            with_reducible rfl
          rotate_left
          · simp only [Act.put, List.setIfInBounds_toArray, List.set_cons_zero, List.set_cons_succ, i64_w, i32_w]
            rfl
          refine take_ (i := 0) (N := some 52) (v := ?_) (a' := ?_) #[true, true, true, true, false, false] rfl rfl (by kernel_rfl) (fun _ _ _ h => h) (Or.inl ⟨by rfl, ?_⟩) hHeld ?_ ?_
          rotate_left
          · rintro w' ⟨s0, s1, s2, s3⟩
            go_simp
            with_reducible rfl
          rotate_left
          · simp only [Act.put, List.setIfInBounds_toArray, List.set_cons_zero, List.set_cons_succ, i64_w, i32_w]
            rfl
          refine take_ (i := 4) (N := some 56) (v := ?_) (a' := ?_) #[true, true, true, true, true, false] rfl rfl (by kernel_rfl) (fun _ _ _ h => h) (Or.inl ⟨by rfl, ?_⟩) hHeld ?_ ?_
          rotate_left
          · rintro w' ⟨s0, s1, s2, s3⟩
            go_simp
            with_reducible rfl
          rotate_left
          · simp only [Act.put, List.setIfInBounds_toArray, List.set_cons_zero, List.set_cons_succ, i64_w, i32_w]
            rfl
          refine one_ (i := 5) (N := some 57) #[true, true, true, true, true, true] rfl rfl (by kernel_rfl) (by decide) (fun K hK => ?_)
          refine goes_ Try.func12 (by kernel_rfl) rfl #[.agg #[.slice A1 s.f0.length c1, .int .i64 s.f1], .agg #[.slice A3 s2.f0.length c3, .int .i64 s2.f1]] (by rfl) rfl rfl (by simp only [List.map_toArray, List.map_cons, List.map_nil]; rfl) ?_
          with_reducible refine (span_Meet.calls kM A1 c1 s.f0 s.f1 A3 c3 s2.f0 s2.f1 false _ (HSP.out _ (below_drew1 HWW.out)).2.2 HL1.out (HSP2.out _ (below_drew1 HWW.out)).2.2 HL2.out HKM.out).mono ?_
          rintro e w4 ⟨rfl, hb4⟩
          refine ⟨_, rfl, ?_⟩
          refine hK.out _ _ ⟨(HSB.out _ (below_step (below_drew1 (Below.refl _ _)) hb4)).1, (HSB.out _ (below_step (below_drew1 (Below.refl _ _)) hb4)).2.1, (HSB.out _ (below_step (below_drew1 (Below.refl _ _)) hb4)).2.2.1, (HSB.out _ (below_step (below_drew1 (Below.refl _ _)) hb4)).2.2.2⟩ (fun hHeld => ?_)
          clear hK K
          refine norm_ (a' := ?_) ?_ ?_
          rotate_left
          · show Act.put _ (some 57) _ = _
            simp only [Act.put, List.setIfInBounds_toArray, List.set_cons_zero, List.set_cons_succ, i64_w, i32_w]
            rfl
          refine done_ (by kernel_rfl) ?_

          have HW4 := Aside0.mk (below_step (below_drew1 HWJ.out) hb4)
          clear hb4 HSB
          go_wp2
          go_roundg k2
          case measure => omega
          case rel => exact ⟨j + 1, (by first | rw [gw] | rfl | (push_cast; rfl)), ⟨by have := HKJ.out; omega⟩, HW4⟩
        · have gc : decide ((j : Int) < (row.length : Int)) = false := decide_eq_false (by omega)
          have g2 : (j < row.length) = False := eq_false hj
          have g3 : ((j : Int) < (row.length : Int)) = False := eq_false (by omega)
          clear hlk hy0 hj hHeld
          have HMW := Aside0.mk (HM3.out.below HWJ.out)
          have HWT := Aside0.mk (HWJ.out)
          clear HWJ
          have HFW := Aside0.mk (show ∀ W_, Below wr.heap.size wr W_ → W_.cell? (ada.add i) = some (.int .i64 z) ∧ (Instr.lookup 66 (.map (some b)) (.int .i64 z) false).run Try.prog W_ = .ok v W_ from fun W_ hk => ⟨(HFC.out W_ (below_step HB3.out (below_step HWT.out hk))).2.2, by have h := (HMW.out.below hk).mm.look z HWZ.out; rw [← HVZ.out] at h; exact h⟩)
          have HROWW := Aside0.mk (Kd.R_below HROW.out HWT.out)
          have HBW := Aside0.mk (show w.heap.size ≤ wr.drew.heap.size from HMW.out.bl.size)
          go_wp2
          refine start_ (n := 15) (S := fun w' => w'.cell? (ada.add i) = some (.int .i64 z) ∧ (Instr.lookup 66 (.map (some b)) (.int .i64 z) false).run Try.prog w' = .ok v w') (ds := [14]) #[false, false, false, false, false, false, false, false, false, false, false, false, false, false, false] (by kernel_rfl) rfl rfl ⟨(HFW.out _ (below_drew1 (Below.refl _ _))).1, (HFW.out _ (below_drew1 (Below.refl _ _))).2⟩ (fun hHeld => ?_)
          refine pure_ (i := 0) (N := some 60) (v := ?_) (a' := ?_) #[true, false, false, false, false, false, false, false, false, false, false, false, false, false, false] rfl rfl (by kernel_rfl) (fun _ _ _ h => h) (Or.inl ⟨by rfl, ?_⟩) ?_ ?_
          rotate_left
          · intro w'
            go_simp
            with_reducible rfl
          rotate_left
          · simp only [Act.put, List.setIfInBounds_toArray, List.set_cons_zero, List.set_cons_succ, i64_w, i32_w]
            rfl
          refine pure_ (i := 1) (N := some 61) (v := ?_) (a' := ?_) #[true, true, false, false, false, false, false, false, false, false, false, false, false, false, false] rfl rfl (by kernel_rfl) (fun _ _ _ h => h) (Or.inl ⟨by rfl, ?_⟩) ?_ ?_
          rotate_left
          · intro w'
            go_simp
            with_reducible rfl
          rotate_left
          · simp only [Act.put, List.setIfInBounds_toArray, List.set_cons_zero, List.set_cons_succ, i64_w, i32_w]
            rfl
          refine pure_ (i := 2) (N := some 62) (v := ?_) (a' := ?_) #[true, true, true, false, false, false, false, false, false, false, false, false, false, false, false] rfl rfl (by kernel_rfl) (fun _ _ _ h => h) (Or.inl ⟨by rfl, ?_⟩) ?_ ?_
          rotate_left
          · intro w'
            go_simp
            with_reducible rfl
          rotate_left
          · simp only [Act.put, List.setIfInBounds_toArray, List.set_cons_zero, List.set_cons_succ, i64_w, i32_w]
            rfl
          refine pure_ (i := 3) (N := some 63) (v := ?_) (a' := ?_) #[true, true, true, true, false, false, false, false, false, false, false, false, false, false, false] rfl rfl (by kernel_rfl) (fun _ _ _ h => h) (Or.inl ⟨by rfl, ?_⟩) ?_ ?_
          rotate_left
          · intro w'
            go_simp
            with_reducible rfl
          rotate_left
          · simp only [Act.put, List.setIfInBounds_toArray, List.set_cons_zero, List.set_cons_succ, i64_w, i32_w]
            rfl
          refine pure_ (i := 5) (N := some 65) (v := ?_) (a' := ?_) #[true, true, true, true, false, true, false, false, false, false, false, false, false, false, false] rfl rfl (by kernel_rfl) (fun _ _ _ h => h) (Or.inl ⟨by rfl, ?_⟩) ?_ ?_
          rotate_left
          · intro w'
            go_simp
            with_reducible rfl
          rotate_left
          · simp only [Act.put, List.setIfInBounds_toArray, List.set_cons_zero, List.set_cons_succ, i64_w, i32_w]
            rfl
          refine pure_ (i := 6) (N := some 66) (v := ?_) (a' := ?_) #[true, true, true, true, false, true, true, false, false, false, false, false, false, false, false] rfl rfl (by kernel_rfl) (fun _ _ _ h => h) (Or.inl ⟨by rfl, ?_⟩) ?_ ?_
          rotate_left
          · intro w'
            go_simp
            with_reducible rfl
          rotate_left
          · simp only [Act.put, List.setIfInBounds_toArray, List.set_cons_zero, List.set_cons_succ, i64_w, i32_w]
            rfl
          refine pure_ (i := 7) (N := some 67) (v := ?_) (a' := ?_) #[true, true, true, true, false, true, true, true, false, false, false, false, false, false, false] rfl rfl (by kernel_rfl) (fun _ _ _ h => h) (Or.inl ⟨by rfl, ?_⟩) ?_ ?_
          rotate_left
          · intro w'
            go_simp
            with_reducible rfl
          rotate_left
          · simp only [Act.put, List.setIfInBounds_toArray, List.set_cons_zero, List.set_cons_succ, i64_w, i32_w]
            rfl
          refine pure_ (i := 8) (N := some 68) (v := ?_) (a' := ?_) #[true, true, true, true, false, true, true, true, true, false, false, false, false, false, false] rfl rfl (by kernel_rfl) (fun _ _ _ h => h) (Or.inl ⟨by rfl, ?_⟩) ?_ ?_
          rotate_left
          · intro w'
            go_simp
            with_reducible rfl
          rotate_left
          · simp only [Act.put, List.setIfInBounds_toArray, List.set_cons_zero, List.set_cons_succ, i64_w, i32_w]
            rfl
          refine pure_ (i := 11) (N := some 71) (v := ?_) (a' := ?_) #[true, true, true, true, false, true, true, true, true, false, false, true, false, false, false] rfl rfl (by kernel_rfl) (fun _ _ _ h => h) (Or.inl ⟨by rfl, ?_⟩) ?_ ?_
          rotate_left
          · intro w'
            go_simp
            with_reducible rfl
          rotate_left
          · simp only [Act.put, List.setIfInBounds_toArray, List.set_cons_zero, List.set_cons_succ, i64_w, i32_w]
            rfl
          refine take_ (i := 4) (N := some 64) (v := ?_) (a' := ?_) #[true, true, true, true, true, true, true, true, true, false, false, true, false, false, false] rfl rfl (by kernel_rfl) (fun _ _ _ h => h) (Or.inl ⟨by rfl, ?_⟩) hHeld ?_ ?_
          rotate_left
          · rintro w' ⟨s0, s1⟩
            go_simp
            with_reducible rfl
          rotate_left
          · simp only [Act.put, List.setIfInBounds_toArray, List.set_cons_zero, List.set_cons_succ, i64_w, i32_w]
            rfl
          refine take_ (i := 9) (N := some 69) (v := ?_) (a' := ?_) #[true, true, true, true, true, true, true, true, true, true, false, true, false, false, false] rfl rfl (by kernel_rfl) (fun _ _ _ h => h) (Or.inl ⟨by rfl, ?_⟩) hHeld ?_ ?_
          rotate_left
          · rintro w' ⟨s0, s1⟩
            go_simp
            with_reducible rfl
          rotate_left
          · simp only [Act.put, List.setIfInBounds_toArray, List.set_cons_zero, List.set_cons_succ, i64_w, i32_w]
            rfl
          refine take_ (i := 10) (N := some 70) (v := ?_) (a' := ?_) #[true, true, true, true, true, true, true, true, true, true, true, true, false, false, false] rfl rfl (by kernel_rfl) (fun _ _ _ h => h) (Or.inl ⟨by rfl, ?_⟩) hHeld ?_ ?_
          rotate_left
          · rintro w' ⟨s0, s1⟩
            go_simp
            with_reducible rfl
          rotate_left
          · simp only [Act.put, List.setIfInBounds_toArray, List.set_cons_zero, List.set_cons_succ, i64_w, i32_w]
            rfl
          refine one_ (i := 12) (N := some 72) #[true, true, true, true, true, true, true, true, true, true, true, true, true, false, false] rfl rfl (by kernel_rfl) (by decide) (fun K hK => ?_)
          refine value_ (w1 := ?_) (v := ?_) (by rfl) rfl ?_ ?_
          rotate_left 2
          · go_simp
            constructor
            · rfl
            · rfl
          refine hK.out _ _ ⟨(HFW.out _ (below_alloc (below_drew1 (Below.refl _ _)) _)).1, (HFW.out _ (below_alloc (below_drew1 (Below.refl _ _)) _)).2⟩ (fun hHeld => ?_)
          clear hK K
          refine norm_ (a' := ?_) ?_ ?_
          rotate_left
          · show Act.put _ (some 72) _ = _
            simp only [Act.put, List.setIfInBounds_toArray, List.set_cons_zero, List.set_cons_succ, i64_w, i32_w]
            rfl
          refine one_ (i := 13) (N := some 73) #[true, true, true, true, true, true, true, true, true, true, true, true, true, true, false] rfl rfl (by kernel_rfl) (by decide) (fun K hK => ?_)
          refine Kd.R_append_step (Kd.int .i64) (w0 := wr.drew) w.heap.size (by rfl) _ _ 29 3 (.int .i64 0) 8 (by rfl) Try.underlying29 infoI rfl (by decide) (by omega) v row (i : Int) [.int .i64 (i : Int)] (fun _ => True) (fun _ => False) (by rfl) (by rfl) rfl (fun _ hk => hk.elim) (fun _ _ => trivial) (Kd.R_drew HROWW.out) (Below.refl _ _) HBW.out (by have := HNO2.out.1; omega) ?_
          intro v1 w5 ho hb hg hat
          have HV1 := Aside0.mk ho
          have HG1 := Aside0.mk hg
          have HN1 := Aside0.mk hat
          have HB5 := Aside0.mk (below_weaken (below_drew1 HMW.out.bl) (Nat.le_refl _) hb)
          have HMM5 := Aside0.mk (show MM w5 b i vs from HMW.out.mm.block (hg.block b HMW.out.mm.lt (fun e => by obtain ⟨cells, hc⟩ := Kd.R_typed HROWW.out b e.symm; exact HMW.out.mm.ne_cells hc rfl)))
          have hy5 : w5.cell? (ada.add i) = some (.int .i64 z) := pw_cell_below HB5.out HYA.out
          have hl5 : (Instr.lookup 66 (.map (some b)) (.int .i64 z) false).run Try.prog w5 = .ok v w5 := by have h := HMM5.out.look z HWZ.out; rw [← HVZ.out] at h; exact h
          clear ho hb hg hat
          refine hK.out _ _ ⟨hy5, hl5⟩ (fun hHeld => ?_)
          clear hK K
          refine norm_ (a' := ?_) ?_ ?_
          rotate_left
          · show Act.put _ (some 73) _ = _
            simp only [Act.put, List.setIfInBounds_toArray, List.set_cons_zero, List.set_cons_succ, i64_w, i32_w]
            rfl
          refine last_ (i := 14) (N := none) #[true, true, true, true, true, true, true, true, true, true, true, true, true, true, true] rfl rfl (by kernel_rfl) (by decide) (fun K hK => ?_)
          obtain ⟨w6, hup, hmm, hgu⟩ := HMM5.out.upd (by have h2 := HI.out; have h3 := HN.out; omega) z HWZ.out v1
          have HM6 := Aside0.mk hmm
          have HG6 := Aside0.mk hgu
          clear hmm hgu
          refine skip_ (w1 := w6) (by rfl) rfl ?_ ?_
          · go_simp
          refine hK.out _ _ ?_
          clear hK K
          refine done_ (by kernel_rfl) ?_

          have HMR6 := Aside0.mk (MR.put (HMW.out.below (below_drew1 (Below.refl _ _))) (v := v1) (by rw [← HZ.out, ← HROWF.out]; exact HV1.out) HB5.out (by rw [← HZ.out, ← HVZ.out]; exact HG1.out) (by rw [← HZ.out, ← HVZ.out]; exact fun b hb => HN1.out.elim (fun h => .inl (by rw [← h]; exact hb)) (fun ⟨b', h, hb'⟩ => .inr (by rw [h] at hb; injection hb with hb; rw [← hb]; exact hb'))) (by rw [← HZ.out]; exact HM6.out) HG6.out)
          clear hup HM6 HG6 HMM5 hy5 hl5 HFW
          go_wp2
          go_roundg k1
          case measure => omega
          case rel => exact ⟨i + 1, _, (by first | rw [hw] | rfl | (push_cast; rfl)), ⟨by have := HKQ.out; omega⟩, HMR6⟩
    · have hc : decide ((i : Int) < (l.length : Int)) = false := decide_eq_false (by omega)
      have hi2 : (i < l.length) = False := eq_false hi
      have hi3 : ((i : Int) < (l.length : Int)) = False := eq_false (by omega)
      go_wp2
      go_ret
      exact ⟨rfl, HMR.out.bl⟩
theorem scan_Check.calls (k : Nat) (A0 : Option Addr) (c0 : Nat) (l0 : List Sp) (a1 : Int) (A2 : Option Addr) (c2 : Nat) (l2 : List Int) (r : Option Int) (w : World) (hr0 : Kd.C k28 w A0 l0.length l0) (hc0 : l0.length ≤ c0) (hr2 : Kd.C (Kd.int .i64) w A2 l2.length l2) (hc2 : l2.length ≤ c2) (h : scan_Check.f k l0 a1 l2 = some r) :
    Calls Try.prog 13 #[.slice A0 l0.length c0, .int .i64 a1, .slice A2 l2.length c2] w fun e w' => e = .returned (errW r) ∧ Below w.heap.size w w' := by
  unfold scan_Check.f at h
  split at h
  · rename_i hk
    obtain ⟨h1, h2, h3, h4, h5, h6, h7, h8⟩ := hk
    obtain rfl := Option.some.inj h
    have hL : Lens l0 := fun s hs => of_decide_eq_true (List.all_eq_true.1 h2 s hs)
    have hck := scheck_f l0 hL (by omega) a1 (fuel l0) (fun s hs => by have := fuel_mem hs; unfold fuel; omega) (by unfold fuel; omega)
    rw [if_pos ⟨h3, h4, h5⟩] at hck
    exact scan_Check.walk w A0 c0 l0 hr0 hc0 a1 A2 c2 l2 hr2 hc2 h1 hL h5 hck h6 h7 h8
  · cases h
end Go.Proofs.Ytolhijnkgkfjgaa.XC
