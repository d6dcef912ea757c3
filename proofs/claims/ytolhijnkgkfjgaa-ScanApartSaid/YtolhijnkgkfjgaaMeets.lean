/- The scanner: whom a span meets in a register. -/
import Derived.Test.YtolhijnkgkfjgaaState
namespace Go.Proofs.Ytolhijnkgkfjgaa.XC
open Go.RowKit Go.Proofs.YtolhijnkgkfjgaaW.PrintWords Go.Proofs.YtolhijnkgkfjgaaW.PrintLast Go.Proofs.YtolhijnkgkfjgaaW.PrintMore
attribute [local go_sem] max2_int min2_int max_two min_two max_three min_three max_four min_four   -- for this text's walks alone
set_option linter.unusedVariables false
set_option linter.unusedSimpArgs false
theorem wrap_succ (i n : Nat) (hi : i < n) (hn : n < 1000000000) : wrap64 ((i : Int) + 1) = ((i + 1 : Nat) : Int) := by unfold wrap64; omega
/-- A span's cells, wherever the spans that came in still are. -/
theorem span_cells {w0 : World} {A : Option Addr} {l : List Sp} (hr : Kd.C k28 w0 A l.length l) (a : Int) (h0 : 0 ≤ a) (h1 : a < (l.length : Int)) : ∃ ads A1 c1, A = some ads ∧ (rdS l a).f0.length ≤ c1 ∧ (∀ W, Below w0.heap.size w0 W → W.cell? (ads.add (a.toNat * 2)) = some (.slice A1 (rdS l a).f0.length c1) ∧ W.cell? ⟨(ads.add (a.toNat * 2)).block, (ads.add (a.toNat * 2)).off + 1, none⟩ = some (.int .i64 (rdS l a).f1) ∧ Kd.C k25 W A1 (rdS l a).f0.length (rdS l a).f0) := by
  obtain ⟨ads, A1, c1, e1, hs1, hs2, hl1, hi1⟩ := at_T28 hr a h0 h1
  exact ⟨ads, A1, c1, e1, hl1, fun W hW => ⟨pw_cell_below hW hs1, pw_cell_below hW hs2, Kd.C_below hi1 hW⟩⟩
set_option maxHeartbeats 8000000 in
set_option maxRecDepth 100000 in
theorem s_meets (w0 w : World) (hB : Below w0.heap.size w0 w) (A : Option Addr) (c : Nat) (l : List Sp) (hr : Kd.C k28 w0 A l.length l) (hl : l.length < 100000) (B p gi k : Nat) (va : Value) (vs : List Value) (ins : List (List Int)) (at_ : List Int) (hs : SC w B p gi k va A l.length c vs ins at_) (mt : Int → Int → Bool) (hm : MeetIs l mt) (r : Nat) (hrk : r < k) (id : Int) (h0 : 0 ≤ id) (h1 : id < (l.length : Int)) (hg : Good l ins) (hrl : (rAt ins r).length < 100000) :
    Calls Try.prog 30 #[.pointer (some ⟨p, 0, none⟩), .int .i64 (r : Int), .int .i64 id] w fun e w' => ∃ v', e = .returned v' ∧ RI w' w.heap.size v' (meetsF mt ins r id) ∧ Below w.heap.size w w' := by
  have HG0 := Aside0.mk (hg r)
  obtain ⟨row, hrow⟩ : ∃ row, row = rAt ins r := ⟨_, rfl⟩
  have HRW := Aside0.mk (hs.hrow r hrk)
  unfold meetsF
  rw [← hrow] at HG0 hrl HRW ⊢
  obtain ⟨AV, cV, hv, hcV, hC⟩ := Kd.R_reads HRW.out
  have hx0 := hs.c0
  have hx1 := hs.c1
  have hxr := hs.cr hrk
  rw [hv] at hxr
  have HS := Aside0.mk hs
  have HB := Aside0.mk hB
  have HR := Aside0.mk hr
  have HM := Aside0.mk hm
  have HID := Aside0.mk (And.intro h0 h1)
  have HL := Aside0.mk hrl
  have HC := Aside0.mk hC
  obtain ⟨ads, A1, c1, rfl, hl1, hsp⟩ := span_cells hr id h0 h1
  have HSP := Aside0.mk hsp
  have HL1 := Aside0.mk hl1
  have p1 : (0 ≤ (r : Int)) = True := eq_true (by omega)
  have p2 : (r < k) = True := eq_true hrk
  have p3 : ((r : Int) < (k : Int)) = True := eq_true (by omega)
  have p4 : (0 ≤ id) = True := eq_true h0
  have p5 : (id < (l.length : Int)) = True := eq_true h1
  clear hB hr hs hm hg hC hl1 hsp hrl h0 h1 hrow HRW hcV hv hrk hl
  go_enter Try.func30, Try.ntmps30
  go_wp2
  go_loopg [7, 18] row.length (fun kq v7 v18 w' => ∃ (i : Nat), v18 = .int .i64 (i : Int) ∧ Aside0 (kq + i = row.length) ∧ Aside0 (RI w' w.heap.size v7 ((row.take i).filter fun o => mt id o)) ∧ Aside0 (Below w.heap.size w w'))
  case atStart => exact ⟨0, rfl, ⟨rfl⟩, ⟨Kd.R_nil _ _ _ _ _⟩, ⟨Below.refl _ _⟩⟩
  case round =>
    obtain ⟨i, rfl, HK, HO, HW⟩ := hrel
    by_cases hi : i < row.length
    · obtain ⟨k1, rfl⟩ : ∃ k1, gk = k1 + 1 := ⟨gk - 1, by have := HK.out; omega⟩
      have hc : decide ((i : Int) < (row.length : Int)) = true := decide_eq_true (by omega)
      have q0 : (0 ≤ (i : Int)) = True := eq_true (by omega)
      have q1 : ((i : Int) < (row.length : Int)) = True := eq_true (by omega)
      have q2 : (i < row.length) = True := eq_true hi
      obtain ⟨adr, e1, hxo⟩ := Kd.at_int (Kd.C_below HC.out HW.out) (i : Int) (by omega) (by omega)
      subst e1
      rw [Int.toNat_natCast] at hxo
      have hw := wrap_succ i row.length hi (by have := HL.out; omega)
      have hgo := HG0.out (rd row (i : Int)) (by unfold rd; rw [Int.toNat_natCast, List.getD_eq_getElem?_getD, List.getElem?_eq_getElem hi]; exact List.getElem_mem hi)
      have HT := Aside0.mk (show (row.take (i + 1)).filter (fun o => mt id o) = (row.take i).filter (fun o => mt id o) ++ if mt id (rd row (i : Int)) = true then [rd row (i : Int)] else [] by
        rw [List.take_add_one, List.getElem?_eq_getElem hi, List.filter_append]
        congr 1
        have : row[i] = rd row (i : Int) := by unfold rd; rw [Int.toNat_natCast, List.getD_eq_getElem?_getD, List.getElem?_eq_getElem hi]; rfl
        rw [Option.toList_some, this, List.filter_cons]
        split <;> rfl)
      obtain ⟨o, ho⟩ : ∃ o, o = rd row (i : Int) := ⟨_, rfl⟩
      rw [← ho] at hxo hgo HT
      have HI := Aside0.mk hi
      clear ho hi
      obtain ⟨_, A2, c2, e1, hl2, hsp2⟩ := span_cells HR.out o hgo.1 hgo.2
      cases e1
      have HSP2 := Aside0.mk hsp2
      have HL2 := Aside0.mk hl2
      obtain ⟨kM, hkM⟩ := HM.out id o HID.out.1 HID.out.2 hgo.1 hgo.2
      obtain ⟨bm, hbm⟩ : ∃ bm, bm = mt id o := ⟨_, rfl⟩
      rw [← hbm] at hkM HT
      have HKM := Aside0.mk hkM
      clear hbm
      have q4 : (0 ≤ o) = True := eq_true hgo.1
      have q5 : (o < (l.length : Int)) = True := eq_true hgo.2
      have HBW := Aside0.mk (below_step HB.out HW.out)
      have HSB := Aside0.mk (show ∀ W_, Below wr.heap.size wr W_ → W_.cell? ⟨p, 0, none⟩ = some (.slice (some ads) l.length c) ∧ W_.cell? (ads.add (id.toNat * 2)) = some (.slice A1 (rdS l id).f0.length c1) ∧ W_.cell? ⟨(ads.add (id.toNat * 2)).block, (ads.add (id.toNat * 2)).off + 1, none⟩ = some (.int .i64 (rdS l id).f1) ∧ W_.cell? (ads.add (o.toNat * 2)) = some (.slice A2 (rdS l o).f0.length c2) ∧ W_.cell? ⟨(ads.add (o.toNat * 2)).block, (ads.add (o.toNat * 2)).off + 1, none⟩ = some (.int .i64 (rdS l o).f1) from fun W_ hk => by
        have h := (below_step HBW.out hk)
        exact ⟨((HS.out.below HW.out).below hk).c0, (HSP.out W_ h).1, (HSP.out W_ h).2.1, (HSP2.out W_ h).1, (HSP2.out W_ h).2.1⟩)
      clear hgo hl2 hsp2 hkM
      go_wp2
      refine start_ (n := 15) (S := fun w' => w'.cell? ⟨p, 0, none⟩ = some (.slice (some ads) l.length c) ∧ w'.cell? (ads.add (id.toNat * 2)) = some (.slice A1 (rdS l id).f0.length c1) ∧ w'.cell? ⟨(ads.add (id.toNat * 2)).block, (ads.add (id.toNat * 2)).off + 1, none⟩ = some (.int .i64 (rdS l id).f1) ∧ w'.cell? (ads.add (o.toNat * 2)) = some (.slice A2 (rdS l o).f0.length c2) ∧ w'.cell? ⟨(ads.add (o.toNat * 2)).block, (ads.add (o.toNat * 2)).off + 1, none⟩ = some (.int .i64 (rdS l o).f1)) (ds := []) #[false, false, false, false, false, false, false, false, false, false, false, false, false, false, false] (by kernel_rfl) rfl rfl ⟨(HSB.out _ (below_drew1 (Below.refl _ _))).1, (HSB.out _ (below_drew1 (Below.refl _ _))).2.1, (HSB.out _ (below_drew1 (Below.refl _ _))).2.2.1, (HSB.out _ (below_drew1 (Below.refl _ _))).2.2.2.1, (HSB.out _ (below_drew1 (Below.refl _ _))).2.2.2.2⟩ (fun hHeld => ?_)
      refine pure_ (i := 0) (N := some 22) (v := ?_) (a' := ?_) #[true, false, false, false, false, false, false, false, false, false, false, false, false, false, false] rfl rfl (by kernel_rfl) (fun _ _ _ h => h) (Or.inl ⟨by rfl, ?_⟩) ?_ ?_
      rotate_left
      · intro w'
        go_simp
        with_reducible rfl
      rotate_left
      · simp only [Act.put, List.setIfInBounds_toArray, List.set_cons_zero, List.set_cons_succ, i64_w, i32_w]
        rfl
      refine pure_ (i := 1) (N := some 23) (v := ?_) (a' := ?_) #[true, true, false, false, false, false, false, false, false, false, false, false, false, false, false] rfl rfl (by kernel_rfl) (fun _ _ _ h => h) (Or.inl ⟨by rfl, ?_⟩) ?_ ?_
      rotate_left
      · intro w'
        go_simp
        with_reducible rfl
      rotate_left
      · simp only [Act.put, List.setIfInBounds_toArray, List.set_cons_zero, List.set_cons_succ, i64_w, i32_w]
        rfl
      refine pure_ (i := 2) (N := some 24) (v := ?_) (a' := ?_) #[true, true, true, false, false, false, false, false, false, false, false, false, false, false, false] rfl rfl (by kernel_rfl) (fun _ _ _ h => h) (Or.inl ⟨by rfl, ?_⟩) ?_ ?_
      rotate_left
      · intro w'
        go_simp
        with_reducible rfl
      rotate_left
      · simp only [Act.put, List.setIfInBounds_toArray, List.set_cons_zero, List.set_cons_succ, i64_w, i32_w]
        rfl
      refine pure_ (i := 4) (N := some 26) (v := ?_) (a' := ?_) #[true, true, true, false, true, false, false, false, false, false, false, false, false, false, false] rfl rfl (by kernel_rfl) (fun _ _ _ h => h) (Or.inl ⟨by rfl, ?_⟩) ?_ ?_
      rotate_left
      · intro w'
        go_simp
        with_reducible rfl
      rotate_left
      · simp only [Act.put, List.setIfInBounds_toArray, List.set_cons_zero, List.set_cons_succ, i64_w, i32_w]
        rfl
      refine pure_ (i := 7) (N := some 29) (v := ?_) (a' := ?_) #[true, true, true, false, true, false, false, true, false, false, false, false, false, false, false] rfl rfl (by kernel_rfl) (fun _ _ _ h => h) (Or.inl ⟨by rfl, ?_⟩) ?_ ?_
      rotate_left
      · intro w'
        go_simp
        with_reducible rfl
      rotate_left
      · simp only [Act.put, List.setIfInBounds_toArray, List.set_cons_zero, List.set_cons_succ, i64_w, i32_w]
        rfl
      refine pure_ (i := 8) (N := some 30) (v := ?_) (a' := ?_) #[true, true, true, false, true, false, false, true, true, false, false, false, false, false, false] rfl rfl (by kernel_rfl) (fun _ _ _ h => h) (Or.inl ⟨by rfl, ?_⟩) ?_ ?_
      rotate_left
      · intro w'
        go_simp
        with_reducible rfl
      rotate_left
      · simp only [Act.put, List.setIfInBounds_toArray, List.set_cons_zero, List.set_cons_succ, i64_w, i32_w]
        rfl
      refine pure_ (i := 9) (N := some 31) (v := ?_) (a' := ?_) #[true, true, true, false, true, false, false, true, true, true, false, false, false, false, false] rfl rfl (by kernel_rfl) (fun _ _ _ h => h) (Or.inl ⟨by rfl, ?_⟩) ?_ ?_
      rotate_left
      · intro w'
        go_simp
        with_reducible rfl
      rotate_left
      · simp only [Act.put, List.setIfInBounds_toArray, List.set_cons_zero, List.set_cons_succ, i64_w, i32_w]
        rfl
      refine pure_ (i := 11) (N := some 33) (v := ?_) (a' := ?_) #[true, true, true, false, true, false, false, true, true, true, false, true, false, false, false] rfl rfl (by kernel_rfl) (fun _ _ _ h => h) (Or.inl ⟨by rfl, ?_⟩) ?_ ?_
      rotate_left
      · intro w'
        go_simp
        with_reducible rfl
      rotate_left
      · simp only [Act.put, List.setIfInBounds_toArray, List.set_cons_zero, List.set_cons_succ, i64_w, i32_w]
        rfl
      refine take_ (i := 3) (N := some 25) (v := ?_) (a' := ?_) #[true, true, true, true, true, false, false, true, true, true, false, true, false, false, false] rfl rfl (by kernel_rfl) (fun _ _ _ h => h) (Or.inl ⟨by rfl, ?_⟩) hHeld ?_ ?_
      rotate_left
      · rintro w' ⟨s0, s1, s2, s3, s4⟩
        go_simp
        with_reducible rfl
      rotate_left
      · simp only [Act.put, List.setIfInBounds_toArray, List.set_cons_zero, List.set_cons_succ, i64_w, i32_w]
        rfl
      refine pure_ (i := 5) (N := some 27) (v := ?_) (a' := ?_) #[true, true, true, true, true, true, false, true, true, true, false, true, false, false, false] rfl rfl (by kernel_rfl) (fun _ _ _ h => h) (Or.inl ⟨by rfl, ?_⟩) ?_ ?_
      rotate_left
      · intro w'
        go_simp
        with_reducible rfl
      rotate_left
      · simp only [Act.put, List.setIfInBounds_toArray, List.set_cons_zero, List.set_cons_succ, i64_w, i32_w]
        rfl
      refine take_ (i := 6) (N := some 28) (v := ?_) (a' := ?_) #[true, true, true, true, true, true, true, true, true, true, false, true, false, false, false] rfl rfl (by kernel_rfl) (fun _ _ _ h => h) (Or.inl ⟨by rfl, ?_⟩) hHeld ?_ ?_
      rotate_left
      · rintro w' ⟨s0, s1, s2, s3, s4⟩
        go_simp
        with_reducible rfl
      rotate_left
      · simp only [Act.put, List.setIfInBounds_toArray, List.set_cons_zero, List.set_cons_succ, i64_w, i32_w]
        rfl
      refine take_ (i := 10) (N := some 32) (v := ?_) (a' := ?_) #[true, true, true, true, true, true, true, true, true, true, true, true, false, false, false] rfl rfl (by kernel_rfl) (fun _ _ _ h => h) (Or.inl ⟨by rfl, ?_⟩) hHeld ?_ ?_
      rotate_left
      · rintro w' ⟨s0, s1, s2, s3, s4⟩
        go_simp
        with_reducible rfl
      rotate_left
      · simp only [Act.put, List.setIfInBounds_toArray, List.set_cons_zero, List.set_cons_succ, i64_w, i32_w]
        rfl
      refine pure_ (i := 12) (N := some 34) (v := ?_) (a' := ?_) #[true, true, true, true, true, true, true, true, true, true, true, true, true, false, false] rfl rfl (by kernel_rfl) (fun _ _ _ h => h) (Or.inl ⟨by rfl, ?_⟩) ?_ ?_
      rotate_left
      · intro w'
        go_simp
        with_reducible rfl
      rotate_left
      · simp only [Act.put, List.setIfInBounds_toArray, List.set_cons_zero, List.set_cons_succ, i64_w, i32_w]
        rfl
      refine take_ (i := 13) (N := some 35) (v := ?_) (a' := ?_) #[true, true, true, true, true, true, true, true, true, true, true, true, true, true, false] rfl rfl (by kernel_rfl) (fun _ _ _ h => h) (Or.inl ⟨by rfl, ?_⟩) hHeld ?_ ?_
      rotate_left
      · rintro w' ⟨s0, s1, s2, s3, s4⟩
        go_simp
        with_reducible rfl
      rotate_left
      · simp only [Act.put, List.setIfInBounds_toArray, List.set_cons_zero, List.set_cons_succ, i64_w, i32_w]
        rfl
      refine one_ (i := 14) (N := some 36) #[true, true, true, true, true, true, true, true, true, true, true, true, true, true, true] rfl rfl (by kernel_rfl) (by decide) (fun K hK => ?_)
      refine goes_ Try.func12 (by kernel_rfl) rfl #[.agg #[.slice A1 (rdS l id).f0.length c1, .int .i64 (rdS l id).f1], .agg #[.slice A2 (rdS l o).f0.length c2, .int .i64 (rdS l o).f1]] (by rfl) rfl rfl (by simp only [List.map_toArray, List.map_cons, List.map_nil]; rfl) ?_
      with_reducible refine (span_Meet.calls kM A1 c1 (rdS l id).f0 (rdS l id).f1 A2 c2 (rdS l o).f0 (rdS l o).f1 bm _ (HSP.out _ (below_drew1 HBW.out)).2.2 HL1.out (HSP2.out _ (below_drew1 HBW.out)).2.2 HL2.out HKM.out).mono ?_
      rintro e w3 ⟨rfl, hb⟩
      refine ⟨_, rfl, ?_⟩
      refine hK.out _ _ ⟨(HSB.out _ (below_step (below_drew1 (Below.refl _ _)) hb)).1, (HSB.out _ (below_step (below_drew1 (Below.refl _ _)) hb)).2.1, (HSB.out _ (below_step (below_drew1 (Below.refl _ _)) hb)).2.2.1, (HSB.out _ (below_step (below_drew1 (Below.refl _ _)) hb)).2.2.2.1, (HSB.out _ (below_step (below_drew1 (Below.refl _ _)) hb)).2.2.2.2⟩ (fun hHeld => ?_)
      clear hK K
      refine norm_ (a' := ?_) ?_ ?_
      rotate_left
      · show Act.put _ (some 36) _ = _
        simp only [Act.put, List.setIfInBounds_toArray, List.set_cons_zero, List.set_cons_succ, i64_w, i32_w]
        rfl
      refine done_ (by kernel_rfl) ?_

      have HO3 := Aside0.mk (Kd.R_below (Kd.R_drew HO.out) hb)
      have HW3 := Aside0.mk (below_step (below_drew1 HW.out) hb)
      have HS3 := Aside0.mk (Nat.le_trans HW.out.size (show wr.heap.size ≤ w3.heap.size from hb.size))
      clear hb HSB
      cases bm with
      | true =>
        go_wp2_with ((with_reducible refine gate_builtin (b := .append) (xs := #[.tmp 37, .tmp 39]) rfl ?_); at_builtin; refine Kd.R_append (Kd.int .i64) (w0 := w) w.heap.size rfl (.tmp 37) (.tmp 39) 29 3 (.int .i64 0) 8 rfl Try.underlying29 infoI rfl (by decide) (by omega) u7 ((row.take i).filter fun o => mt id o) o [.int .i64 o] (fun _ => True) (fun _ => False) rfl rfl ?aP (fun _ hk => hk.elim) ?aF ?aO ?aB ?aS ?aL ?_; (case aP => exact rfl); (case aB => exact HW3.out); (case aF => exact (fun _ _ => trivial)); (case aO => exact HO3.out); (case aS => exact HS3.out); (case aL => have h1 := List.length_filter_le (fun o => mt id o) (row.take i); rw [List.length_take] at h1; have := HL.out; omega); intro v4 w4 ho4 hb4 hg4 hat4; have HO4 := Aside0.mk ho4; have HW4 := Aside0.mk hb4; clear ho4 hb4 hg4 hat4)
        go_roundg k1
        case measure => omega
        case rel => exact ⟨i + 1, (by first | rw [hw] | rfl | (push_cast; rfl)), ⟨by have := HK.out; omega⟩, ⟨by rw [HT.out]; exact HO4.out⟩, HW4⟩
      | false =>
        go_wp2
        go_roundg k1
        case measure => omega
        case rel => exact ⟨i + 1, (by first | rw [hw] | rfl | (push_cast; rfl)), ⟨by have := HK.out; omega⟩, ⟨by rw [HT.out]; simpa using HO3.out⟩, HW3⟩
    · have hc : decide ((i : Int) < (row.length : Int)) = false := decide_eq_false (by omega)
      have HI := Aside0.mk hi
      go_wp2
      go_ret
      exact ⟨_, rfl, by have h := HO.out; rw [List.take_of_length_le (by have := HI.out; omega)] at h; exact h, HW.out⟩
end Go.Proofs.Ytolhijnkgkfjgaa.XC
