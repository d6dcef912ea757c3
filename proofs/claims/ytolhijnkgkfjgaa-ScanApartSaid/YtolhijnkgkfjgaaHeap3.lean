/- The heap over the queue: Len, Push, Pop. -/
import Derived.Test.YtolhijnkgkfjgaaHeap2
namespace Go.Proofs.Ytolhijnkgkfjgaa.XC
open Go.RowKit Go.Proofs.YtolhijnkgkfjgaaW.PrintWords Go.Proofs.YtolhijnkgkfjgaaW.PrintLast Go.Proofs.YtolhijnkgkfjgaaW.PrintMore
attribute [local go_sem] max2_int min2_int max_two min_two max_three min_three max_four min_four   -- for this text's walks alone
set_option linter.unusedVariables false
set_option linter.unusedSimpArgs false
theorem upF_len (l : List Sp) : ∀ (k j : Nat) (xs : List Int), (upF l k j xs).length = xs.length
  | 0, _, _ => rfl
  | k + 1, j, xs => by
    rw [upF]
    split
    · rfl
    · split
      · rw [upF_len l k, swapF_len]
      · rfl
theorem upF_ids {l : List Sp} : ∀ (k j : Nat) (xs : List Int), Ids l xs → j < xs.length → Ids l (upF l k j xs)
  | 0, _, _, h, _ => h
  | k + 1, j, xs, h, hj => by
    rw [upF]
    split
    · exact h
    · split
      · exact upF_ids k _ _ (swapF_ids h (by omega) hj) (by rw [swapF_len]; omega)
      · exact h
theorem downF_len (l : List Sp) (n : Nat) : ∀ (k i : Nat) (xs : List Int), (downF l n k i xs).length = xs.length
  | 0, _, _ => rfl
  | k + 1, i, xs => by
    rw [downF]
    split
    · rfl
    · split
      · rw [downF_len l n k, swapF_len]
      · rfl
theorem downF_ids {l : List Sp} {n : Nat} : ∀ (k i : Nat) (xs : List Int), Ids l xs → n ≤ xs.length → Ids l (downF l n k i xs)
  | 0, _, _, h, _ => h
  | k + 1, i, xs, h, hn => by
    rw [downF]
    split
    · exact h
    · rename_i h1
      have hp := pickF_lt (l := l) (n := n) (i := i) (xs := xs) (by omega)
      split
      · exact downF_ids k _ _ (swapF_ids h (by omega) (by omega)) (by rw [swapF_len]; exact hn)
      · exact h
/-- One comes in. -/
def pushF (l : List Sp) (ids : List Int) (x : Int) : List Int := upF l (ids.length + 1) ids.length (ids ++ [x])
/-- One goes out: all, it the last. -/
def popF (l : List Sp) (ids : List Int) : List Int := downF l (ids.length - 1) (ids.length - 1 + 1) 0 (swapF ids 0 (ids.length - 1))
theorem popF_len (l : List Sp) (ids : List Int) : (popF l ids).length = ids.length := by unfold popF; rw [downF_len, swapF_len]
set_option maxHeartbeats 8000000 in
set_option maxRecDepth 100000 in
theorem q_len (w : World) (A : Option Addr) (n c g B : Nat) (v : Value) (ids : List Int) (hq : QS w g A n c v) (hv : RI w B v ids) :
    Calls Try.prog 17 #[.pointer (some ⟨g, 0, none⟩)] w fun e w' => e = .returned (.int .i64 (ids.length : Int)) ∧ Drawn0 w w' := by
  obtain ⟨AV, cV, rfl, hcV, hC⟩ := Kd.R_reads hv
  have hx1 := hq.c1
  clear hq hv hC hcV
  go_enter Try.func17, Try.ntmps17
  go_wp2
  go_ret
  exact ⟨rfl, by first | exact ⟨0, rfl⟩ | exact ⟨_, rfl⟩⟩
set_option maxHeartbeats 8000000 in
set_option maxRecDepth 100000 in
theorem h_push (w0 w : World) (hB : Below w0.heap.size w0 w) (A : Option Addr) (c : Nat) (l : List Sp) (hr : Kd.C k28 w0 A l.length l) (g B : Nat) (v : Value) (ids : List Int) (hq : QS w g A l.length c v) (hv : RI w B v ids) (hg : w0.heap.size ≤ g) (hB0 : w0.heap.size ≤ B) (hBw : B ≤ w.heap.size) (x : Int) (hids : Ids l (ids ++ [x])) (hl : ids.length < 100000) :
    Calls Try.prog 16 #[HI g, .iface 3 (.int .i64 x)] w fun e w' => e = .returned (.tuple #[]) ∧ ∃ v', QS w' g A l.length c v' ∧ RI w' B v' (pushF l ids x) ∧ Below w0.heap.size w0 w' ∧ Kept w w' (QK g v) ∧ NewOr w v v' := by
  obtain ⟨F, hF⟩ : ∃ F, F = pushF l ids x := ⟨_, rfl⟩
  rw [← hF]
  have HF := Aside0.mk hF
  have HRR := Aside0.mk hr
  have HQ := Aside0.mk hq
  have HV := Aside0.mk hv
  have HB := Aside0.mk hB
  have HG := Aside0.mk hg
  have HB0 := Aside0.mk hB0
  have HBW := Aside0.mk hBw
  have HI := Aside0.mk hids
  have HL := Aside0.mk hl
  have hw : wrap64 (((ids ++ [x]).length : Int) - 1) = (ids.length : Int) := by rw [List.length_append]; unfold wrap64; simp; omega
  have hlen : (ids ++ [x]).length = ids.length + 1 := by simp
  obtain ⟨ys, hys⟩ : ∃ ys, ys = ids ++ [x] := ⟨_, rfl⟩
  rw [← hys] at hw hlen HI
  have HY := Aside0.mk hys
  have HYL := Aside0.mk hlen
  clear hF hr hq hv hB hg hB0 hBw hids hl hys hlen
  have hm1 := m_push g
  have hm2 := m_len g
  go_enter Try.func16, Try.ntmps16
  go_wp2_with (first
    | (go_at_call 63; refine (q_push w0 _ HB.out A l.length c g B v ids HQ.out HV.out HG.out HB0.out HBW.out x (by have := HL.out; omega)).mono ?_; rintro e w2 ⟨rfl, v2, h3, h4, h5, h6, h7⟩; rw [← HY.out] at h4; have HQ2 := Aside0.mk h3; have HV2 := Aside0.mk h4; have HB2 := Aside0.mk h5; have HK2 := Aside0.mk h6; have HN2 := Aside0.mk h7; clear h3 h4 h5 h6 h7)
    | (go_at_call 17; refine (q_len _ A l.length c g B v2 ys HQ2.out HV2.out).mono ?_; rintro e w3 ⟨rfl, ⟨nd, rfl⟩⟩)
    | (go_at_call 28; rw [hw]; refine (h_up w0 _ (pw_below_drewN HB2.out _) A c l HRR.out g B v2 ys HQ2.out (Kd.R_drewN HV2.out _) HI.out HB0.out ids.length (by have := HYL.out; omega) (by have := HYL.out; have := HL.out; omega)).mono ?_; rintro e w4 ⟨rfl, h3, h4, h5, h6⟩; have HQ4 := Aside0.mk h3; have HV4 := Aside0.mk h4; have HB4 := Aside0.mk h5; have HK4 := Aside0.mk h6; clear h3 h4 h5 h6))
  go_end0
  exact ⟨rfl, v2, HQ4.out, by rw [HF.out]; unfold pushF; rw [← HY.out]; exact HV4.out, HB4.out, Kept.then_ (HK2.out.drewN _) HK4.out (fun k hk => by
    rcases hk with rfl | hk
    · exact .inl (.inl rfl)
    · exact (HN2.out k hk).elim (fun h => .inl (.inr h)) .inr), HN2.out⟩
set_option maxHeartbeats 8000000 in
set_option maxRecDepth 100000 in
theorem h_pop (w0 w : World) (hB : Below w0.heap.size w0 w) (A : Option Addr) (c : Nat) (l : List Sp) (hr : Kd.C k28 w0 A l.length l) (g B : Nat) (v : Value) (ids : List Int) (hq : QS w g A l.length c v) (hv : RI w B v ids) (hg : w0.heap.size ≤ g) (hB0 : w0.heap.size ≤ B) (hids : Ids l ids) (hl : ids.length < 100000) (ys : List Int) (x : Int) (hp : popF l ids = ys ++ [x]) :
    Calls Try.prog 18 #[HI g] w fun e w' => e = .returned (.iface 3 (.int .i64 x)) ∧ ∃ v', QS w' g A l.length c v' ∧ RI w' B v' ys ∧ Below w0.heap.size w0 w' ∧ Kept w w' (QK g v) ∧ NewOr w v v' := by
  have hpl := popF_len l ids
  rw [hp] at hpl
  have hlen : ids.length = ys.length + 1 := by rw [← hpl]; simp
  have HP := Aside0.mk hp
  have HRR := Aside0.mk hr
  have HQ := Aside0.mk hq
  have HV := Aside0.mk hv
  have HB := Aside0.mk hB
  have HG := Aside0.mk hg
  have HB0 := Aside0.mk hB0
  have HI := Aside0.mk hids
  have HL := Aside0.mk hl
  obtain ⟨n, hn⟩ : ∃ n, n = ids.length - 1 := ⟨_, rfl⟩
  have hw : wrap64 ((ids.length : Int) - 1) = (n : Int) := by unfold wrap64; omega
  have HN := Aside0.mk hn
  have HYL := Aside0.mk hlen
  clear hp hr hq hv hB hg hB0 hids hl hn hlen hpl
  have hm1 := m_pop g
  have hm2 := m_len g
  have hm3 := m_swap g
  go_enter Try.func18, Try.ntmps18
  go_wp2_with (first
    | (go_at_call 17; refine (q_len _ A l.length c g B v ids HQ.out HV.out).mono ?_; rintro e w3 ⟨rfl, ⟨nd, rfl⟩⟩)
    | (go_at_call 64; rw [hw]; refine (q_swap w0 _ (pw_below_drewN HB.out _) A l.length c g B v ids HQ.out (Kd.R_drewN HV.out _) HB0.out 0 n (by have := HYL.out; omega) (by have := HYL.out; have := HN.out; omega)).mono ?_; rintro e w4 ⟨rfl, h3, h4, h5, h6⟩; have HQ4 := Aside0.mk h3; have HV4 := Aside0.mk h4; have HB4 := Aside0.mk h5; have HK4 := Aside0.mk (Kept.then_ ((Kept.refl w (QK g v)).drewN _) h6 (fun k hk => .inl hk)); clear h3 h4 h5 h6)
    | (go_at_call 29; (try rw [hw]); refine (h_down w0 _ HB4.out A c l HRR.out g B v (swapF ids 0 n) HQ4.out HV4.out (swapF_ids HI.out (by have := HYL.out; omega) (by have := HYL.out; have := HN.out; omega)) HB0.out n (by rw [swapF_len]; have := HYL.out; have := HN.out; omega) (by rw [swapF_len]; have := HL.out; omega)).mono ?_; rintro e w5 ⟨⟨bb, rfl⟩, h3, h4, h5, h6⟩; have HQ5 := Aside0.mk h3; have HV5 := Aside0.mk (show RI w5 B v (ys ++ [x]) by rw [← HP.out]; unfold popF; rw [← HN.out]; exact h4); have HB5 := Aside0.mk h5; have HK5 := Aside0.mk (Kept.then_ HK4.out h6 (fun k hk => .inl hk)); clear h3 h4 h5 h6)
    | (go_at_call 62; refine (q_pop w0 _ HB5.out A l.length c g B v ys x HQ5.out HV5.out HG.out (by have := HYL.out; have := HL.out; omega)).mono ?_; rintro e w6 ⟨rfl, v6, h3, h4, h5, h6, h7⟩; have HQ6 := Aside0.mk h3; have HV6 := Aside0.mk h4; have HB6 := Aside0.mk h5; have HK6 := Aside0.mk (Kept.then_ HK5.out h6 (fun k hk => .inl hk)); have HN6 := Aside0.mk h7; clear h3 h4 h5 h6 h7))
  go_ret
  exact ⟨rfl, v6, HQ6.out, HV6.out, HB6.out, HK6.out, fun k hk => (HN6.out k hk).elim .inl (fun h => .inr (Nat.le_trans HK5.out.1 h))⟩
end Go.Proofs.Ytolhijnkgkfjgaa.XC
