/- The closures of slots: whom a span meets among those of a slot. -/
import Derived.Test.YtolhijnkgkfjgaaAgain
namespace Go.Proofs.Ytolhijnkgkfjgaa.XC
open Go.RowKit Go.Proofs.YtolhijnkgkfjgaaW.PrintWords Go.Proofs.YtolhijnkgkfjgaaW.PrintLast Go.Proofs.YtolhijnkgkfjgaaW.PrintMore
attribute [local go_sem] max2_int min2_int max_two min_two max_three min_three max_four min_four   -- for this text's walks alone
set_option linter.unusedVariables false
set_option linter.unusedSimpArgs false
/-- What the closures read. -/
structure CW (w0 W : World) (ts tid p : Nat) (A : Option Addr) (n c : Nat) (id : Int) : Prop where
  hB : Below w0.heap.size w0 W
  hts : W.cell? ⟨ts, 0, none⟩ = some (.pointer (some ⟨p, 0, none⟩))
  hid : W.cell? ⟨tid, 0, none⟩ = some (.int .i64 id)
  hp : W.cell? ⟨p, 0, none⟩ = some (.slice A n c)
  l1 : ts < W.heap.size
  l2 : tid < W.heap.size
  l3 : p < W.heap.size
theorem CW.below {w0 W W' : World} {ts tid p : Nat} {A : Option Addr} {n c : Nat} {id : Int} (h : CW w0 W ts tid p A n c id) (hb : Below W.heap.size W W') : CW w0 W' ts tid p A n c id :=
  ⟨below_step h.hB hb, (hb.cell (p := ⟨ts, 0, none⟩) h.l1).trans h.hts, (hb.cell (p := ⟨tid, 0, none⟩) h.l2).trans h.hid, (hb.cell (p := ⟨p, 0, none⟩) h.l3).trans h.hp, Nat.lt_of_lt_of_le h.l1 hb.size, Nat.lt_of_lt_of_le h.l2 hb.size, Nat.lt_of_lt_of_le h.l3 hb.size⟩
set_option maxHeartbeats 8000000 in
set_option maxRecDepth 100000 in
theorem c_meet (w0 w : World) (A : Option Addr) (c : Nat) (l : List Sp) (hr : Kd.C k28 w0 A l.length l) (ts tid p : Nat) (mt : Int → Int → Bool) (hm : MeetIs l mt) (id : Int) (h0 : 0 ≤ id) (h1 : id < (l.length : Int)) (hw : CW w0 w ts tid p A l.length c id) (o : Int) (ho0 : 0 ≤ o) (ho1 : o < (l.length : Int)) :
    Calls Try.prog 37 #[.int .i64 o, .pointer (some ⟨ts, 0, none⟩), .pointer (some ⟨tid, 0, none⟩)] w fun e w' => e = .returned (.bool (mt id o)) ∧ Below w.heap.size w w' := by
  obtain ⟨ads, A1, c1, rfl, hl1, hsp⟩ := span_cells hr id h0 h1
  obtain ⟨_, A2, c2, e1, hl2, hsp2⟩ := span_cells hr o ho0 ho1
  cases e1
  obtain ⟨kM, hkM⟩ := hm id o h0 h1 ho0 ho1
  have HKM := Aside0.mk hkM
  have HSP := Aside0.mk hsp
  have HSP2 := Aside0.mk hsp2
  have HL1 := Aside0.mk hl1
  have HL2 := Aside0.mk hl2
  have HW := Aside0.mk hw
  have p1 : (0 ≤ id) = True := eq_true h0
  have p2 : (id < (l.length : Int)) = True := eq_true h1
  have p3 : (0 ≤ o) = True := eq_true ho0
  have p4 : (o < (l.length : Int)) = True := eq_true ho1
  have HSB := Aside0.mk (show ∀ W_, Below w.heap.size w W_ → W_.cell? ⟨ts, 0, none⟩ = some (.pointer (some ⟨p, 0, none⟩)) ∧ W_.cell? ⟨tid, 0, none⟩ = some (.int .i64 id) ∧ W_.cell? ⟨p, 0, none⟩ = some (.slice (some ads) l.length c) ∧ W_.cell? (ads.add (id.toNat * 2)) = some (.slice A1 (rdS l id).f0.length c1) ∧ W_.cell? ⟨(ads.add (id.toNat * 2)).block, (ads.add (id.toNat * 2)).off + 1, none⟩ = some (.int .i64 (rdS l id).f1) ∧ W_.cell? (ads.add (o.toNat * 2)) = some (.slice A2 (rdS l o).f0.length c2) ∧ W_.cell? ⟨(ads.add (o.toNat * 2)).block, (ads.add (o.toNat * 2)).off + 1, none⟩ = some (.int .i64 (rdS l o).f1) from fun W_ hk => by
    have h := HW.out.below hk
    exact ⟨h.hts, h.hid, h.hp, (HSP.out W_ h.hB).1, (HSP.out W_ h.hB).2.1, (HSP2.out W_ h.hB).1, (HSP2.out W_ h.hB).2.1⟩)
  obtain ⟨bm, hbm⟩ : ∃ bm, bm = mt id o := ⟨_, rfl⟩
  rw [← hbm] at hkM ⊢
  have HKM := Aside0.mk hkM
  clear hr hm h0 h1 hw ho0 ho1 hl1 hl2 hsp hsp2 hkM hbm
  go_enter Try.func37, Try.ntmps37
  go_wp2
  refine start_ (n := 16) (S := fun w' => w'.cell? ⟨ts, 0, none⟩ = some (.pointer (some ⟨p, 0, none⟩)) ∧ w'.cell? ⟨tid, 0, none⟩ = some (.int .i64 id) ∧ w'.cell? ⟨p, 0, none⟩ = some (.slice (some ads) l.length c) ∧ w'.cell? (ads.add (id.toNat * 2)) = some (.slice A1 (rdS l id).f0.length c1) ∧ w'.cell? ⟨(ads.add (id.toNat * 2)).block, (ads.add (id.toNat * 2)).off + 1, none⟩ = some (.int .i64 (rdS l id).f1) ∧ w'.cell? (ads.add (o.toNat * 2)) = some (.slice A2 (rdS l o).f0.length c2) ∧ w'.cell? ⟨(ads.add (o.toNat * 2)).block, (ads.add (o.toNat * 2)).off + 1, none⟩ = some (.int .i64 (rdS l o).f1)) (ds := []) #[false, false, false, false, false, false, false, false, false, false, false, false, false, false, false, false] (by kernel_rfl) rfl rfl ⟨(HSB.out _ (below_drew1 (Below.refl _ _))).1, (HSB.out _ (below_drew1 (Below.refl _ _))).2.1, (HSB.out _ (below_drew1 (Below.refl _ _))).2.2.1, (HSB.out _ (below_drew1 (Below.refl _ _))).2.2.2.1, (HSB.out _ (below_drew1 (Below.refl _ _))).2.2.2.2.1, (HSB.out _ (below_drew1 (Below.refl _ _))).2.2.2.2.2.1, (HSB.out _ (below_drew1 (Below.refl _ _))).2.2.2.2.2.2⟩ (fun hHeld => ?_)
  refine pure_ (i := 11) (N := some 16) (v := ?_) (a' := ?_) #[false, false, false, false, false, false, false, false, false, false, false, true, false, false, false, false] rfl rfl (by kernel_rfl) (fun _ _ _ h => h) (Or.inl ⟨by rfl, ?_⟩) ?_ ?_
  rotate_left
  · intro w'
    go_simp
    with_reducible rfl
  rotate_left
  · simp only [Act.put, List.setIfInBounds_toArray, List.set_cons_zero, List.set_cons_succ, i64_w, i32_w]
    rfl
  refine take_ (i := 0) (N := some 5) (v := ?_) (a' := ?_) #[true, false, false, false, false, false, false, false, false, false, false, true, false, false, false, false] rfl rfl (by kernel_rfl) (fun _ _ _ h => h) (Or.inl ⟨by rfl, ?_⟩) hHeld ?_ ?_
  rotate_left
  · rintro w' ⟨s0, s1, s2, s3, s4, s5, s6⟩
    go_simp
    with_reducible rfl
  rotate_left
  · simp only [Act.put, List.setIfInBounds_toArray, List.set_cons_zero, List.set_cons_succ, i64_w, i32_w]
    rfl
  refine pure_ (i := 1) (N := some 6) (v := ?_) (a' := ?_) #[true, true, false, false, false, false, false, false, false, false, false, true, false, false, false, false] rfl rfl (by kernel_rfl) (fun _ _ _ h => h) (Or.inl ⟨by rfl, ?_⟩) ?_ ?_
  rotate_left
  · intro w'
    go_simp
    with_reducible rfl
  rotate_left
  · simp only [Act.put, List.setIfInBounds_toArray, List.set_cons_zero, List.set_cons_succ, i64_w, i32_w]
    rfl
  refine pure_ (i := 2) (N := some 7) (v := ?_) (a' := ?_) #[true, true, true, false, false, false, false, false, false, false, false, true, false, false, false, false] rfl rfl (by kernel_rfl) (fun _ _ _ h => h) (Or.inl ⟨by rfl, ?_⟩) ?_ ?_
  rotate_left
  · intro w'
    go_simp
    with_reducible rfl
  rotate_left
  · simp only [Act.put, List.setIfInBounds_toArray, List.set_cons_zero, List.set_cons_succ, i64_w, i32_w]
    rfl
  refine take_ (i := 3) (N := some 8) (v := ?_) (a' := ?_) #[true, true, true, true, false, false, false, false, false, false, false, true, false, false, false, false] rfl rfl (by kernel_rfl) (fun _ _ _ h => h) (Or.inl ⟨by rfl, ?_⟩) hHeld ?_ ?_
  rotate_left
  · rintro w' ⟨s0, s1, s2, s3, s4, s5, s6⟩
    go_simp
    with_reducible rfl
  rotate_left
  · simp only [Act.put, List.setIfInBounds_toArray, List.set_cons_zero, List.set_cons_succ, i64_w, i32_w]
    rfl
  refine take_ (i := 4) (N := some 9) (v := ?_) (a' := ?_) #[true, true, true, true, true, false, false, false, false, false, false, true, false, false, false, false] rfl rfl (by kernel_rfl) (fun _ _ _ h => h) (Or.inl ⟨by rfl, ?_⟩) hHeld ?_ ?_
  rotate_left
  · rintro w' ⟨s0, s1, s2, s3, s4, s5, s6⟩
    go_simp
    with_reducible rfl
  rotate_left
  · simp only [Act.put, List.setIfInBounds_toArray, List.set_cons_zero, List.set_cons_succ, i64_w, i32_w]
    rfl
  refine pure_ (i := 5) (N := some 10) (v := ?_) (a' := ?_) #[true, true, true, true, true, true, false, false, false, false, false, true, false, false, false, false] rfl rfl (by kernel_rfl) (fun _ _ _ h => h) (Or.inl ⟨by rfl, ?_⟩) ?_ ?_
  rotate_left
  · intro w'
    go_simp
    with_reducible rfl
  rotate_left
  · simp only [Act.put, List.setIfInBounds_toArray, List.set_cons_zero, List.set_cons_succ, i64_w, i32_w]
    rfl
  refine take_ (i := 6) (N := some 11) (v := ?_) (a' := ?_) #[true, true, true, true, true, true, true, false, false, false, false, true, false, false, false, false] rfl rfl (by kernel_rfl) (fun _ _ _ h => h) (Or.inl ⟨by rfl, ?_⟩) hHeld ?_ ?_
  rotate_left
  · rintro w' ⟨s0, s1, s2, s3, s4, s5, s6⟩
    go_simp
    with_reducible rfl
  rotate_left
  · simp only [Act.put, List.setIfInBounds_toArray, List.set_cons_zero, List.set_cons_succ, i64_w, i32_w]
    rfl
  refine take_ (i := 7) (N := some 12) (v := ?_) (a' := ?_) #[true, true, true, true, true, true, true, true, false, false, false, true, false, false, false, false] rfl rfl (by kernel_rfl) (fun _ _ _ h => h) (Or.inl ⟨by rfl, ?_⟩) hHeld ?_ ?_
  rotate_left
  · rintro w' ⟨s0, s1, s2, s3, s4, s5, s6⟩
    go_simp
    with_reducible rfl
  rotate_left
  · simp only [Act.put, List.setIfInBounds_toArray, List.set_cons_zero, List.set_cons_succ, i64_w, i32_w]
    rfl
  refine pure_ (i := 8) (N := some 13) (v := ?_) (a' := ?_) #[true, true, true, true, true, true, true, true, true, false, false, true, false, false, false, false] rfl rfl (by kernel_rfl) (fun _ _ _ h => h) (Or.inl ⟨by rfl, ?_⟩) ?_ ?_
  rotate_left
  · intro w'
    go_simp
    with_reducible rfl
  rotate_left
  · simp only [Act.put, List.setIfInBounds_toArray, List.set_cons_zero, List.set_cons_succ, i64_w, i32_w]
    rfl
  refine pure_ (i := 9) (N := some 14) (v := ?_) (a' := ?_) #[true, true, true, true, true, true, true, true, true, true, false, true, false, false, false, false] rfl rfl (by kernel_rfl) (fun _ _ _ h => h) (Or.inl ⟨by rfl, ?_⟩) ?_ ?_
  rotate_left
  · intro w'
    go_simp
    with_reducible rfl
  rotate_left
  · simp only [Act.put, List.setIfInBounds_toArray, List.set_cons_zero, List.set_cons_succ, i64_w, i32_w]
    rfl
  refine take_ (i := 10) (N := some 15) (v := ?_) (a' := ?_) #[true, true, true, true, true, true, true, true, true, true, true, true, false, false, false, false] rfl rfl (by kernel_rfl) (fun _ _ _ h => h) (Or.inl ⟨by rfl, ?_⟩) hHeld ?_ ?_
  rotate_left
  · rintro w' ⟨s0, s1, s2, s3, s4, s5, s6⟩
    go_simp
    with_reducible rfl
  rotate_left
  · simp only [Act.put, List.setIfInBounds_toArray, List.set_cons_zero, List.set_cons_succ, i64_w, i32_w]
    rfl
  refine pure_ (i := 12) (N := some 17) (v := ?_) (a' := ?_) #[true, true, true, true, true, true, true, true, true, true, true, true, true, false, false, false] rfl rfl (by kernel_rfl) (fun _ _ _ h => h) (Or.inl ⟨by rfl, ?_⟩) ?_ ?_
  rotate_left
  · intro w'
    go_simp
    with_reducible rfl
  rotate_left
  · simp only [Act.put, List.setIfInBounds_toArray, List.set_cons_zero, List.set_cons_succ, i64_w, i32_w]
    rfl
  refine take_ (i := 13) (N := some 18) (v := ?_) (a' := ?_) #[true, true, true, true, true, true, true, true, true, true, true, true, true, true, false, false] rfl rfl (by kernel_rfl) (fun _ _ _ h => h) (Or.inl ⟨by rfl, ?_⟩) hHeld ?_ ?_
  rotate_left
  · rintro w' ⟨s0, s1, s2, s3, s4, s5, s6⟩
    go_simp
    with_reducible rfl
  rotate_left
  · simp only [Act.put, List.setIfInBounds_toArray, List.set_cons_zero, List.set_cons_succ, i64_w, i32_w]
    rfl
  refine one_ (i := 14) (N := some 19) #[true, true, true, true, true, true, true, true, true, true, true, true, true, true, true, false] rfl rfl (by kernel_rfl) (by decide) (fun K hK => ?_)
  refine goes_ Try.func12 (by kernel_rfl) rfl #[.agg #[.slice A1 (rdS l id).f0.length c1, .int .i64 (rdS l id).f1], .agg #[.slice A2 (rdS l o).f0.length c2, .int .i64 (rdS l o).f1]] (by rfl) rfl rfl (by simp only [List.map_toArray, List.map_cons, List.map_nil]; rfl) ?_
  with_reducible refine (span_Meet.calls kM A1 c1 (rdS l id).f0 (rdS l id).f1 A2 c2 (rdS l o).f0 (rdS l o).f1 bm _ (HSP.out _ (below_drew1 HW.out.hB)).2.2 HL1.out (HSP2.out _ (below_drew1 HW.out.hB)).2.2 HL2.out HKM.out).mono ?_
  rintro e w3 ⟨rfl, hb⟩
  refine ⟨_, rfl, ?_⟩
  have H3 := Aside0.mk (below_step (below_drew1 (Below.refl w.heap.size w)) hb)
  clear hb
  refine hK.out _ _ ⟨(HSB.out _ H3.out).1, (HSB.out _ H3.out).2.1, (HSB.out _ H3.out).2.2.1, (HSB.out _ H3.out).2.2.2.1, (HSB.out _ H3.out).2.2.2.2.1, (HSB.out _ H3.out).2.2.2.2.2.1, (HSB.out _ H3.out).2.2.2.2.2.2⟩ (fun hHeld => ?_)
  clear hK K
  refine norm_ (a' := ?_) ?_ ?_
  rotate_left
  · show Act.put _ (some 19) _ = _
    simp only [Act.put, List.setIfInBounds_toArray, List.set_cons_zero, List.set_cons_succ, i64_w, i32_w]
    rfl
  refine pure_ (i := 15) (N := some 4) (v := ?_) (a' := ?_) #[true, true, true, true, true, true, true, true, true, true, true, true, true, true, true, true] rfl rfl (by kernel_rfl) (fun _ _ _ h => h) (Or.inl ⟨by rfl, ?_⟩) ?_ ?_
  rotate_left
  · intro w'
    go_simp
    with_reducible rfl
  rotate_left
  · simp only [Act.put, List.setIfInBounds_toArray, List.set_cons_zero, List.set_cons_succ, i64_w, i32_w]
    rfl
  refine done_ (by kernel_rfl) ?_

  go_wp2
  go_ret
  exact ⟨rfl, H3.out⟩
set_option maxHeartbeats 8000000 in
set_option maxRecDepth 100000 in
theorem c_index (w0 w : World) (A : Option Addr) (c : Nat) (l : List Sp) (hr : Kd.C k28 w0 A l.length l) (ts tid p : Nat) (mt : Int → Int → Bool) (hm : MeetIs l mt) (id : Int) (h0 : 0 ≤ id) (h1 : id < (l.length : Int)) (hw : CW w0 w ts tid p A l.length c id) (A3 : Option Addr) (c3 : Nat) (row : List Int) (hrow : Kd.C (Kd.int .i64) w A3 row.length row) (hg : ∀ o ∈ row, 0 ≤ o ∧ o < (l.length : Int)) (hrl : row.length < 100000) :
    Calls Try.prog 43 #[.slice A3 row.length c3, .func (.func 37) #[] #[.pointer (some ⟨ts, 0, none⟩), .pointer (some ⟨tid, 0, none⟩)]] w fun e w' => (∃ x : Int, e = .returned (.int .i64 x) ∧ decide (0 ≤ x) = row.any (fun o => mt id o)) ∧ Below w.heap.size w w' := by
  have eg : ∀ args w, (callFunc 37 args).run Try.prog w = .ok (.enter 37 args) w := enters_of Try.func37 (by kernel_rfl) rfl
  obtain ⟨F, hF⟩ : ∃ F, F = row.any (fun o => mt id o) := ⟨_, rfl⟩
  rw [← hF]
  have HF := Aside0.mk (show F = (row.drop 0).any (fun o => mt id o) from hF)
  have C := Aside0.mk (fun (W : World) (hk : Below w.heap.size w W) (o : Int) (ho : o ∈ row) => c_meet w0 W A c l hr ts tid p mt hm id h0 h1 (hw.below hk) o (hg o ho).1 (hg o ho).2)
  have HC := Aside0.mk hrow
  have HL := Aside0.mk hrl
  clear hF hr hm h0 h1 hw hrow hg hrl
  go_enter Try.func43, Try.ntmps43
  go_wp2
  go_loopg [8] row.length (fun kq v8 w' => ∃ (i : Nat), v8 = .int .i64 (i : Int) ∧ Aside0 (kq + i = row.length) ∧ Aside0 (F = (row.drop i).any (fun o => mt id o)) ∧ Aside0 (Below w.heap.size w w'))
  case atStart => exact ⟨0, rfl, ⟨rfl⟩, HF, ⟨Below.refl _ _⟩⟩
  case round =>
    clear HF
    obtain ⟨i, rfl, HK, HF, HW⟩ := hrel
    by_cases hi : i < row.length
    · obtain ⟨k1, rfl⟩ : ∃ k1, gk = k1 + 1 := ⟨gk - 1, by have := HK.out; omega⟩
      have hc : decide ((i : Int) < (row.length : Int)) = true := decide_eq_true (by omega)
      have q0 : (0 ≤ (i : Int)) = True := eq_true (by omega)
      have q1 : ((i : Int) < (row.length : Int)) = True := eq_true (by omega)
      have q2 : (i < row.length) = True := eq_true hi
      obtain ⟨adr, e1, hxo⟩ := Kd.at_int (Kd.C_below HC.out HW.out) (i : Int) (by omega) (by omega)
      subst e1
      rw [Int.toNat_natCast] at hxo
      have hw := wrap_succ i row.length hi (by have := HL.out; omega)
      have hF := HF.out
      have hro : row[i] = rd row (i : Int) := by unfold rd; rw [Int.toNat_natCast, List.getD_eq_getElem?_getD, List.getElem?_eq_getElem hi]; rfl
      rw [List.drop_eq_getElem_cons hi, List.any_cons, hro] at hF
      have HOM := Aside0.mk (show rd row (i : Int) ∈ row by rw [← hro]; exact List.getElem_mem hi)
      clear hro hi HF
      obtain ⟨o, ho⟩ : ∃ o, o = rd row (i : Int) := ⟨_, rfl⟩
      rw [← ho] at hxo hF HOM
      clear ho
      cases hbm : mt id o with
      | true =>
        rw [hbm, Bool.true_or] at hF
        subst hF
        have HBM := Aside0.mk hbm
        clear hbm
        go_wp2_with (go_at_call 37; refine (C.out _ HW.out o HOM.out).mono ?_; rintro e w3 ⟨rfl, hb⟩; rw [HBM.out]; have HW3 := Aside0.mk (below_step HW.out hb); clear hb)
        go_ret
        exact ⟨⟨_, rfl, decide_eq_true (by omega)⟩, HW3.out⟩
      | false =>
        rw [hbm, Bool.false_or] at hF
        have HF := Aside0.mk hF
        have HBM := Aside0.mk hbm
        clear hbm hF
        go_wp2_with (go_at_call 37; refine (C.out _ HW.out o HOM.out).mono ?_; rintro e w3 ⟨rfl, hb⟩; rw [HBM.out]; have HW3 := Aside0.mk (below_step HW.out hb); clear hb)
        go_roundg k1
        case measure => omega
        case rel => exact ⟨i + 1, (by first | rw [hw] | rfl | (push_cast; rfl)), ⟨by have := HK.out; omega⟩, HF, HW3⟩
    · have hc : decide ((i : Int) < (row.length : Int)) = false := decide_eq_false (by omega)
      have q2 : (i < row.length) = False := eq_false hi
      have hF := HF.out
      rw [List.drop_of_length_le (by omega), List.any_nil] at hF
      subst hF
      go_wp2
      go_ret
      exact ⟨⟨_, rfl, by decide⟩, HW.out⟩
end Go.Proofs.Ytolhijnkgkfjgaa.XC
