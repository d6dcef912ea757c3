/- slices.Repeat at one number. -/
import Derived.Test.YtolhijnkgkfjgaaSlots
namespace Go.Proofs.Ytolhijnkgkfjgaa.XC
open Go.RowKit Go.Proofs.YtolhijnkgkfjgaaW.PrintWords Go.Proofs.YtolhijnkgkfjgaaW.PrintLast Go.Proofs.YtolhijnkgkfjgaaW.PrintMore
attribute [local go_sem] max2_int min2_int max_two min_two max_three min_three max_four min_four   -- for this text's walks alone
set_option linter.unusedVariables false
set_option linter.unusedSimpArgs false
theorem mul1_fin : ∀ b : Fin 1025, bits_Mul.f 1 (b.val : Int) = some (0, (b.val : Int)) := by decide +kernel
theorem mul1 (n : Nat) (h : n ≤ 1024) : bits_Mul.f 1 (n : Int) = some (0, (n : Int)) := mul1_fin ⟨n, by omega⟩
theorem u64_nat (n : Nat) (h : n ≤ 1024) : IntKind.u64.wrap (n : Int) = (n : Int) := by
  simp [IntKind.wrap, IntKind.signed, IntKind.bits]
  omega
theorem copy_step {P : Program} {ops : Array Oper} {oi : Oper} {a : Act} {Q : Exit → Act → World → Prop} {Kc : Act → World → Prop} {W w1 : World} (hw : Region.wanted oi (yielded ops a.tmps) = true) (s x : Operand) (t t' : TypeId) (v1 v2 : Value) (m : Int)
    (ho : oi.op = .call { callee := .builtin .copy, args := #[s, x], argTypes := #[t, t'] }) (hs : a.eval s = v1) (hx : a.eval x = v2) (hr : ∀ ty, (Builtin.copy_ #[t, t'] ty #[v1, v2]).run P W = .ok (.int .i64 m) w1) (h : Kc (a.put oi.dst (.int .i64 m)) w1) :
    if Region.wanted oi (yielded ops a.tmps) = true then Oper.wp P oi a W Kc Q else Kc (a.put oi.dst undef) W := by
  rw [if_pos hw]
  unfold Oper.wp execOp
  simp only [ho, resolve, invoke, builtin, Sem.run_bind, Sem.run_pure, Result.andThen_ok, List.map_toArray, List.map_cons, List.map_nil, hs, hx, hr]
  exact h
set_option maxHeartbeats 8000000 in
set_option maxRecDepth 100000 in
theorem s_repeat (w : World) (g c : Nat) (x : Int) (n : Nat) (hn : n ≤ 1024) (hg : Kd.C (Kd.int .i64) w (some ⟨g, 0, none⟩) 1 [x]) :
    Calls Try.prog 15 #[.slice (some ⟨g, 0, none⟩) 1 c, .int .i64 (n : Int)] w fun e w' => ∃ v, e = .returned v ∧ RI w' w.heap.size v (List.replicate n x) ∧ Below w.heap.size w w' := by
  have HM := Aside0.mk (mul1 n hn)
  have HC := Aside0.mk hg
  have HN := Aside0.mk hn
  have hneg : decide ((n : Int) < 0) = false := decide_eq_false (by omega)
  have hu := u64_nat n hn
  have hu1 : IntKind.u64.wrap 1 = 1 := by decide
  have hgt : decide ((9223372036854775807 : Int) < (n : Int)) = false := decide_eq_false (by omega)
  have hw : wrap64 (n : Int) = (n : Int) := by unfold wrap64; omega
  clear hg hn
  go_enter Try.func15, Try.ntmps15
  go_wp2_with (first
    | (go_at_call 27; refine (bits_Mul.calls 1 (n : Int) 0 (n : Int) _ HM.out).mono ?_; rintro e w2 ⟨rfl, ⟨nd, rfl⟩⟩)
    | ((with_reducible refine gate_dst (N := 30) rfl ?_); refine Kd.R_make (Kd.int .i64) (w0 := w.drewN nd) (w.drewN nd).heap.size 3 rfl (N := 30) rfl 29 _ _ rfl (wrap64 (n : Int)) rfl rfl Try.underlying29 (.int .i64 0) 8 infoI rfl (by decide) (by omega) 0 (ok := fun _ => True) (okp := fun _ => True) rfl (fun _ hk => hk) trivial (by rw [hw]; omega) (by rw [hw]; have := HN.out; omega) (Below.refl _ _) (Nat.le_refl _) ?_; intro v3 w3 ho hb hg hnew; rw [hw, Int.toNat_natCast] at ho; obtain ⟨A3, c3, e3, hle3, _⟩ := Kd.R_reads ho; rw [List.length_replicate] at e3; subst e3; have HO3 := Aside0.mk ho; have HB3 := Aside0.mk (below_step (pw_below_drewN (Below.refl w.heap.size w) nd) hb); clear ho hb hg hnew hle3)
    | ((with_reducible refine gate_builtin (b := .copy) (xs := #[.tmp 31, .tmp 32]) rfl ?_); refine Kd.R_copy (enc := Value.int .i64) (h1 := fun _ => rfl) (0 : Int) (w0 := w3) w.heap.size rfl (.tmp 31) (.tmp 32) 29 29 3 rfl Try.underlying29 rfl (.slice A3 n c3) (List.replicate n 0) [x] (some ⟨g, 0, none⟩) 1 c (fun _ => True) rfl rfl ?aO ?aR ?aB ?aS ?_; (case aO => exact Kd.R_lower HO3.out (Nat.le_refl _)); (case aR => exact Kd.C_below HC.out HB3.out); (case aB => exact Below.refl _ _); (case aS => exact HB3.out.size); intro w4 ho hb hg; have HO4 := Aside0.mk ho; have HB4 := Aside0.mk (HB3.out.trans hb); clear ho hb hg))
  have HR4 := Aside0.mk (show RI w4 w.heap.size (.slice A3 n c3) (List.replicate (min 1 n) x ++ List.replicate (n - min 1 n) 0) by
    have h := HO4.out
    rw [List.length_replicate, List.drop_replicate] at h
    rw [show List.replicate (min 1 n) x = [x].take (min 1 n) by cases n with | zero => rfl | succ n => rw [show min 1 (n + 1) = 1 by omega]; rfl]
    exact h)
  have HMN := Aside0.mk (show min 1 n ≤ n ∧ (0 < n → 1 ≤ min 1 n) by omega)
  obtain ⟨m0, hm0⟩ : ∃ m0, m0 = min 1 n := ⟨_, rfl⟩
  rw [← hm0] at HR4 HMN
  rw [← hm0]
  clear HO3 HB3 HO4 hm0 HM HC
  go_loopg [8] n (fun kq v8 w' => ∃ (m : Nat), v8 = .int .i64 (m : Int) ∧ Aside0 (n ≤ kq + m) ∧ Aside0 (m ≤ n ∧ (0 < n → 1 ≤ m)) ∧ Aside0 (RI w' w.heap.size (.slice A3 n c3) (List.replicate m x ++ List.replicate (n - m) 0)) ∧ Aside0 (Below w.heap.size w w'))
  case atStart => exact ⟨m0, rfl, ⟨by omega⟩, HMN, HR4, HB4⟩
  case round =>
    clear HR4 HB4 HMN
    obtain ⟨m, rfl, HK, HMN, HR, HB⟩ := hrel
    by_cases hm : m < n
    · have hc : decide ((m : Int) < (n : Int)) = true := decide_eq_true (by omega)
      have q1 : (m < n) = True := eq_true hm
      have q2 : (m ≤ n) = True := eq_true (by omega)
      have q3 : ((m : Int) ≤ (n : Int)) = True := eq_true (by omega)
      have q4 : (0 ≤ (m : Int)) = True := eq_true (by omega)
      have hll : (List.replicate m x ++ List.replicate (n - m) 0).length = n := by simp; omega
      obtain ⟨g2, c2, e2, hgB, hgl, cells, hgc⟩ := Kd.R_form HR.out (by rw [hll]; omega)
      obtain rfl : A3 = some ⟨g2, 0, none⟩ := by injection e2
      have hcap : n ≤ c3 := (Kd.R_reads' HR.out).2.1
      have q5 : (n ≤ c3) = True := eq_true hcap
      have q6 : (m ≤ c3) = True := eq_true (by omega)
      have q7 : ((m : Int) ≤ (c3 : Int)) = True := eq_true (by omega)
      have q9 : (c3 = m) = False := eq_false (by omega)
      have q8 : ((n : Int) ≤ (c3 : Int)) = True := eq_true (by omega)
      obtain ⟨kk, hkk⟩ : ∃ kk, kk = min m (n - m) := ⟨_, rfl⟩
      obtain ⟨W5, hW5⟩ : ∃ W5, W5 = wr.drew.setCells g2 m ((List.replicate kk x).map (Value.int .i64)) := ⟨_, rfl⟩
      have hRd : RI wr.drew w.heap.size (.slice (some ⟨g2, 0, none⟩) n c3) (List.replicate m x ++ List.replicate (n - m) 0) := Kd.R_drew HR.out
      have HCP := Aside0.mk (show ∀ ty, (Builtin.copy_ #[29, 29] ty #[.slice (some ⟨g2, m, none⟩) (n - m) (c3 - m), .slice (some ⟨g2, 0, none⟩) m c3]).run Try.prog wr.drew = .ok (.int .i64 ((kk : Nat) : Int)) W5 from fun ty => by
        have h := run_copy_cells (P := Try.prog) wr.drew 29 29 ty 3 g2 m (n - m) (c3 - m) ⟨g2, 0, none⟩ m c3 ((List.replicate kk x).map (Value.int .i64)) Try.underlying29 rfl (by rw [List.length_map, List.length_replicate, hkk])
          (fun j v hj => by
            rw [List.map_replicate, List.getElem?_replicate] at hj
            split at hj
            · rename_i hjk
              injection hj with hj
              have h1 := (Kd.R_celln 0 hRd (j : Int) (by omega) (by omega)).1
              rw [Int.toNat_natCast] at h1
              have h2 : rdOf 0 (List.replicate m x ++ List.replicate (n - m) 0) (j : Int) = x := by
                unfold rdOf
                rw [Int.toNat_natCast, List.getD_eq_getElem?_getD, List.getElem?_append_left (by simp; omega), List.getElem?_replicate, if_pos (by omega)]
                rfl
              rw [h2] at h1
              rw [← hj, show (⟨g2, 0, none⟩ : Addr).add j = ⟨g2, j, none⟩ by unfold Addr.add; split <;> simp_all]
              exact h1
            · cases hj)
          (fun j hj => by
            rw [List.length_map, List.length_replicate] at hj
            have h1 := (Kd.R_celln 0 hRd ((m + j : Nat) : Int) (by omega) (by omega)).1
            rw [Int.toNat_natCast] at h1
            rw [h1]
            rfl)
          (fun j hj => by
            rw [List.length_map, List.length_replicate] at hj
            have h1 := (Kd.R_celln 0 hRd ((m + j : Nat) : Int) (by omega) (by omega)).2
            rw [Int.toNat_natCast] at h1
            exact h1)
          (fun v hv => by rw [List.map_replicate] at hv; rw [List.eq_of_mem_replicate hv]; rfl)
        rw [List.length_map, List.length_replicate, ← hW5] at h
        exact h)
      have HKK := Aside0.mk (show 1 ≤ kk ∧ m + kk ≤ n by have h1 := HMN.out.2; omega)
      have HR5 := Aside0.mk (show RI W5 w.heap.size (.slice (some ⟨g2, 0, none⟩) n c3) (List.replicate (m + kk) x ++ List.replicate (n - (m + kk)) 0) by
        have h := R_puts (g := g2) (cap := c3) (List.replicate kk x) m (List.replicate m x ++ List.replicate (n - m) 0) wr.drew (by rw [hll, List.length_replicate]; omega) (by rw [hll]; exact hRd)
        rw [hll, ← hW5] at h
        have e : (List.replicate m x ++ List.replicate (n - m) 0).take m ++ List.replicate kk x ++ (List.replicate m x ++ List.replicate (n - m) 0).drop (m + (List.replicate kk x).length) = List.replicate (m + kk) x ++ List.replicate (n - (m + kk)) 0 := by
          rw [List.length_replicate, List.take_left' (by simp), List.drop_append]
          simp [List.replicate_append_replicate]
          omega
        rw [e] at h
        exact h)
      have HB5 := Aside0.mk (show Below w.heap.size w W5 by rw [hW5]; exact setCells_below _ _ _ (below_drew1 HB.out) hgB)
      have hwk : wrap64 ((m : Int) + (kk : Int)) = ((m + kk : Nat) : Int) := by unfold wrap64; have := HN.out; omega
      clear hgc hm hkk hW5 hRd hll hgB hgl e2
      go_wp2
      refine start_ (n := 10) (S := fun w' => True) (ds := []) #[false, false, false, false, false, false, false, false, false, false] (by kernel_rfl) rfl rfl trivial (fun hHeld => ?_)
      refine pure_ (i := 0) (N := some 38) (v := ?_) (a' := ?_) #[true, false, false, false, false, false, false, false, false, false] rfl rfl (by kernel_rfl) (fun _ _ _ h => h) (Or.inl ⟨by rfl, ?_⟩) ?_ ?_
      rotate_left
      · intro w'
        go_simp
        with_reducible rfl
      rotate_left
      · simp only [Act.put, List.setIfInBounds_toArray, List.set_cons_zero, List.set_cons_succ, i64_w, i32_w]
        rfl
      refine pure_ (i := 1) (N := some 39) (v := ?_) (a' := ?_) #[true, true, false, false, false, false, false, false, false, false] rfl rfl (by kernel_rfl) (fun _ _ _ h => h) (Or.inl ⟨by rfl, ?_⟩) ?_ ?_
      rotate_left
      · intro w'
        go_simp
        with_reducible rfl
      rotate_left
      · simp only [Act.put, List.setIfInBounds_toArray, List.set_cons_zero, List.set_cons_succ, i64_w, i32_w]
        rfl
      refine pure_ (i := 2) (N := some 40) (v := ?_) (a' := ?_) #[true, true, true, false, false, false, false, false, false, false] rfl rfl (by kernel_rfl) (fun _ _ _ h => h) (Or.inl ⟨by rfl, ?_⟩) ?_ ?_
      rotate_left
      · intro w'
        go_simp
        with_reducible rfl
      rotate_left
      · simp only [Act.put, List.setIfInBounds_toArray, List.set_cons_zero, List.set_cons_succ, i64_w, i32_w]
        rfl
      refine pure_ (i := 3) (N := some 41) (v := ?_) (a' := ?_) #[true, true, true, true, false, false, false, false, false, false] rfl rfl (by kernel_rfl) (fun _ _ _ h => h) (Or.inl ⟨by rfl, ?_⟩) ?_ ?_
      rotate_left
      · intro w'
        go_simp
        with_reducible rfl
      rotate_left
      · simp only [Act.put, List.setIfInBounds_toArray, List.set_cons_zero, List.set_cons_succ, i64_w, i32_w]
        rfl
      refine pure_ (i := 4) (N := some 42) (v := ?_) (a' := ?_) #[true, true, true, true, true, false, false, false, false, false] rfl rfl (by kernel_rfl) (fun _ _ _ h => h) (Or.inl ⟨by rfl, ?_⟩) ?_ ?_
      rotate_left
      · intro w'
        go_simp
        with_reducible rfl
      rotate_left
      · simp only [Act.put, List.setIfInBounds_toArray, List.set_cons_zero, List.set_cons_succ, i64_w, i32_w]
        rfl
      refine pure_ (i := 5) (N := some 43) (v := ?_) (a' := ?_) #[true, true, true, true, true, true, false, false, false, false] rfl rfl (by kernel_rfl) (fun _ _ _ h => h) (Or.inl ⟨by rfl, ?_⟩) ?_ ?_
      rotate_left
      · intro w'
        go_simp
        with_reducible rfl
      rotate_left
      · simp only [Act.put, List.setIfInBounds_toArray, List.set_cons_zero, List.set_cons_succ, i64_w, i32_w]
        rfl
      refine pure_ (i := 6) (N := some 44) (v := ?_) (a' := ?_) #[true, true, true, true, true, true, true, false, false, false] rfl rfl (by kernel_rfl) (fun _ _ _ h => h) (Or.inl ⟨by rfl, ?_⟩) ?_ ?_
      rotate_left
      · intro w'
        go_simp
        with_reducible rfl
      rotate_left
      · simp only [Act.put, List.setIfInBounds_toArray, List.set_cons_zero, List.set_cons_succ, i64_w, i32_w]
        rfl
      refine one_ (i := 7) (N := some 45) #[true, true, true, true, true, true, true, true, false, false] rfl rfl (by kernel_rfl) (by decide) (fun K hK => ?_)
      refine copy_step (w1 := W5) (by rfl) _ _ _ _ (.slice (some ⟨g2, m, none⟩) (n - m) (c3 - m)) (.slice (some ⟨g2, 0, none⟩) m c3) ((kk : Nat) : Int) (by rfl) (by rfl) (by rfl) HCP.out ?_
      refine hK.out _ _ trivial (fun hHeld => ?_)
      clear hK K
      refine norm_ (a' := ?_) ?_ ?_
      rotate_left
      · show Act.put _ (some 45) _ = _
        simp only [Act.put, List.setIfInBounds_toArray, List.set_cons_zero, List.set_cons_succ, i64_w, i32_w]
        rfl
      refine pure_ (i := 8) (N := some 46) (v := ?_) (a' := ?_) #[true, true, true, true, true, true, true, true, true, false] rfl rfl (by kernel_rfl) (fun _ _ _ h => h) (Or.inl ⟨by rfl, ?_⟩) ?_ ?_
      rotate_left
      · intro w'
        go_simp
        with_reducible rfl
      rotate_left
      · simp only [Act.put, List.setIfInBounds_toArray, List.set_cons_zero, List.set_cons_succ, i64_w, i32_w]
        rfl
      refine pure_ (i := 9) (N := some 8) (v := ?_) (a' := ?_) #[true, true, true, true, true, true, true, true, true, true] rfl rfl (by kernel_rfl) (fun _ _ _ h => h) (Or.inl ⟨by rfl, ?_⟩) ?_ ?_
      rotate_left
      · intro w'
        go_simp
        with_reducible rfl
      rotate_left
      · simp only [Act.put, List.setIfInBounds_toArray, List.set_cons_zero, List.set_cons_succ, i64_w, i32_w]
        rfl
      refine done_ (by kernel_rfl) ?_

      go_wp2
      obtain ⟨k1, rfl⟩ : ∃ k1, gk = k1 + 1 := ⟨gk - 1, by have h1 := HK.out; have h2 := HKK.out; omega⟩
      go_roundg k1
      case measure => omega
      case rel => exact ⟨m + kk, (by first | rw [hwk] | rfl | (push_cast; rfl)), ⟨by have h1 := HK.out; have h2 := HKK.out; omega⟩, ⟨by have h2 := HKK.out; omega⟩, HR5, HB5⟩
    · have hc : decide ((m : Int) < (n : Int)) = false := decide_eq_false (by omega)
      have q1 : (m < n) = False := eq_false hm
      have HE := Aside0.mk (show m = n by have := HMN.out.1; omega)
      go_wp2
      go_ret
      exact ⟨_, rfl, by have h := HR.out; rw [HE.out, Nat.sub_self] at h; simpa using h, HB.out⟩
end Go.Proofs.Ytolhijnkgkfjgaa.XC
