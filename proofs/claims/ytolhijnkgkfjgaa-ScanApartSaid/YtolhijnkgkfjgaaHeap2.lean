/- The heap over the queue: down, Push, Pop. -/
import Derived.Test.YtolhijnkgkfjgaaHeap
namespace Go.Proofs.Ytolhijnkgkfjgaa.XC
open Go.RowKit Go.Proofs.YtolhijnkgkfjgaaW.PrintWords Go.Proofs.YtolhijnkgkfjgaaW.PrintLast Go.Proofs.YtolhijnkgkfjgaaW.PrintMore
attribute [local go_sem] max2_int min2_int max_two min_two max_three min_three max_four min_four   -- for this text's walks alone
set_option linter.unusedVariables false
set_option linter.unusedSimpArgs false
/-- The one of two below that comes first. -/
def pickF (l : List Sp) (n i : Nat) (xs : List Int) : Nat := if 2 * i + 2 < n ∧ lessF l (rd xs ((2 * i + 2 : Nat) : Int)) (rd xs ((2 * i + 1 : Nat) : Int)) = true then 2 * i + 2 else 2 * i + 1
/-- One goes down. -/
def downF (l : List Sp) (n : Nat) : Nat → Nat → List Int → List Int
  | 0, _, xs => xs
  | k + 1, i, xs => if 2 * i + 1 ≥ n then xs else if lessF l (rd xs (pickF l n i xs : Int)) (rd xs (i : Int)) = true then downF l n k (pickF l n i xs) (swapF xs i (pickF l n i xs)) else xs
theorem QS.drewN {w : World} {g n c : Nat} {A : Option Addr} {v : Value} (h : QS w g A n c v) (m : Nat) : QS (w.drewN m) g A n c v := h
theorem pickF_lt {l : List Sp} {n i : Nat} {xs : List Int} (h : 2 * i + 1 < n) : pickF l n i xs < n ∧ i < pickF l n i xs := by
  unfold pickF
  split <;> omega
set_option maxHeartbeats 8000000 in
set_option maxRecDepth 100000 in
theorem h_down (w0 w : World) (hB : Below w0.heap.size w0 w) (A : Option Addr) (c : Nat) (l : List Sp) (hr : Kd.C k28 w0 A l.length l) (g B : Nat) (v : Value) (ids : List Int) (hq : QS w g A l.length c v) (hv : RI w B v ids) (hids : Ids l ids) (hB0 : w0.heap.size ≤ B) (n : Nat) (hn : n ≤ ids.length) (hl : ids.length < 1000000) :
    Calls Try.prog 29 #[HI g, .int .i64 0, .int .i64 (n : Int)] w fun e w' => (∃ b, e = .returned (.bool b)) ∧ QS w' g A l.length c v ∧ RI w' B v (downF l n (n + 1) 0 ids) ∧ Below w0.heap.size w0 w' ∧ Kept w w' (QK g v) := by
  obtain ⟨F, hF⟩ : ∃ F, F = downF l n (n + 1) 0 ids := ⟨_, rfl⟩
  rw [← hF]
  have HF := Aside0.mk hF
  have HRR := Aside0.mk hr
  have HQ := Aside0.mk hq
  have HV := Aside0.mk hv
  have HB := Aside0.mk hB
  have HB0 := Aside0.mk hB0
  have HI := Aside0.mk hids
  have HN := Aside0.mk hn
  have HL := Aside0.mk hl
  clear hF hr hq hv hB hB0 hids hn hl
  have hm1 := m_less g
  have hm2 := m_swap g
  go_enter Try.func29, Try.ntmps29
  go_wp2
  go_loopg [7] (n + 1) (fun kq v7 w' => ∃ (i' : Nat) (xs : List Int), v7 = .int .i64 (i' : Int) ∧ Aside0 (F = downF l n kq i' xs) ∧ Aside0 (n + 1 ≤ kq + i') ∧ Aside0 (i' < n ∨ i' = 0) ∧ Aside0 (xs.length = ids.length) ∧ Aside0 (Ids l xs) ∧ Aside0 (QS w' g A l.length c v) ∧ Aside0 (RI w' B v xs) ∧ Aside0 (Below w0.heap.size w0 w') ∧ Aside0 (Kept w w' (QK g v)))
  case atStart => exact ⟨0, ids, rfl, HF, ⟨by omega⟩, ⟨.inr rfl⟩, ⟨rfl⟩, HI, HQ, HV, HB, ⟨Kept.refl _ _⟩⟩
  case round =>
    clear HF HQ HV HB HI
    obtain ⟨i', xs, rfl, HF, HJK, HJ, HLEN, HI, HQ, HV, HB, HK⟩ := hrel
    cases gk with
    | zero => exact absurd HJK.out (by have := HJ.out; omega)
    | succ k1 =>
      obtain ⟨m2, hm2'⟩ : ∃ m2, m2 = 2 * i' := ⟨_, rfl⟩
      obtain ⟨j1, hj1⟩ : ∃ j1, j1 = 2 * i' + 1 := ⟨_, rfl⟩
      obtain ⟨j2, hj2⟩ : ∃ j2, j2 = 2 * i' + 2 := ⟨_, rfl⟩
      have hz1 : wrap64 (2 * (i' : Int)) = (m2 : Int) := by unfold wrap64; have := HJ.out; have := HN.out; have := HL.out; omega
      have hz2 : wrap64 ((m2 : Int) + 1) = (j1 : Int) := by unfold wrap64; have := HJ.out; have := HN.out; have := HL.out; omega
      have hz3 : wrap64 ((j1 : Int) + 1) = (j2 : Int) := by unfold wrap64; have := HJ.out; have := HN.out; have := HL.out; omega
      have hneg : decide ((j1 : Int) < 0) = false := decide_eq_false (by omega)
      by_cases hge : n ≤ j1
      · have hF := HF.out
        rw [downF, if_pos (by omega)] at hF
        have HF2 := Aside0.mk hF
        have hb1 : decide ((n : Int) ≤ (j1 : Int)) = true := decide_eq_true (by omega)
        have hb2 : decide (n ≤ j1) = true := decide_eq_true (by omega)
        clear HF hF hm2' hj1 hj2 hge
        go_wp2
        go_ret
        exact ⟨⟨_, rfl⟩, HQ.out, by rw [HF2.out]; exact HV.out, HB.out, HK.out⟩
      · have hb1 : decide ((n : Int) ≤ (j1 : Int)) = false := decide_eq_false (by omega)
        have hb2 : decide (n ≤ j1) = false := decide_eq_false (by omega)
        have hF := HF.out
        rw [downF, if_neg (by omega)] at hF
        have HJ1 := Aside0.mk (show j1 < n ∧ i' < j1 by omega)
        have HXN := Aside0.mk (show n ≤ xs.length by have := HLEN.out; have := HN.out; omega)
        -- which of the two
        obtain ⟨q, hq⟩ : ∃ q, q = pickF l n i' xs := ⟨_, rfl⟩
        have hpl := pickF_lt (l := l) (n := n) (i := i') (xs := xs) (by omega)
        rw [← hq] at hF hpl
        have HQL := Aside0.mk hpl
        have pick : (j2 < n ∧ lessF l (rd xs (j2 : Int)) (rd xs (j1 : Int)) = true ∧ q = j2) ∨ (j2 < n ∧ lessF l (rd xs (j2 : Int)) (rd xs (j1 : Int)) = false ∧ q = j1) ∨ (¬ j2 < n ∧ q = j1) := by
          unfold pickF at hq
          rw [← hj1, ← hj2] at hq
          by_cases h1 : j2 < n
          · by_cases h2 : lessF l (rd xs (j2 : Int)) (rd xs (j1 : Int)) = true
            · rw [if_pos ⟨h1, h2⟩] at hq; exact .inl ⟨h1, h2, hq⟩
            · rw [if_neg (fun h => h2 h.2)] at hq; exact .inr (.inl ⟨h1, (Bool.not_eq_true _).mp h2, hq⟩)
          · rw [if_neg (fun h => h1 h.1)] at hq; exact .inr (.inr ⟨h1, hq⟩)
        have HF2 := Aside0.mk hF
        obtain ⟨ls, hls⟩ : ∃ ls, ls = lessF l (rd xs (q : Int)) (rd xs (i' : Int)) := ⟨_, rfl⟩
        have HLS := Aside0.mk hls
        clear HF hF hm2' hj1 hj2 hge hq hpl hls
        rcases pick with ⟨h1, h2, rfl⟩ | ⟨h1, h2, rfl⟩ | ⟨h1, rfl⟩
        · have hb3 : decide ((q : Int) < (n : Int)) = true := decide_eq_true (by omega)
          have hb4 : (q < n) = True := eq_true (by omega)
          have H1 := Aside0.mk h1
          have H2 := Aside0.mk h2
          clear h1 h2
          cases ls with
          | true =>
            have HF3 := Aside0.mk (show F = downF l n k1 q (swapF xs i' q) by rw [HF2.out, if_pos HLS.out.symm])
            clear HF2
            go_wp2_with (first
              | (go_at_call 61; first | (with_reducible refine (q_less w0 _ HB.out A c l HRR.out g B v xs HQ.out HV.out HI.out q j1 (by have := H1.out; have := HXN.out; omega) (by have := HJ1.out; have := HXN.out; omega)).mono ?_; rintro e w2 ⟨rfl, ⟨nd, rfl⟩⟩; rw [H2.out]) | (with_reducible refine (q_less w0 _ (pw_below_drewN HB.out _) A c l HRR.out g B v xs (HQ.out.drewN _) (Kd.R_drewN HV.out _) HI.out q i' (by have := H1.out; have := HXN.out; omega) (by have := HJ1.out; have := HXN.out; omega)).mono ?_; rintro e w2 ⟨rfl, ⟨nd2, rfl⟩⟩; rw [← HLS.out]))
              | (go_at_call 64; refine (q_swap w0 _ (pw_below_drewN HB.out _) A l.length c g B v xs (HQ.out.drewN _) (Kd.R_drewN HV.out _) HB0.out i' q (by have := HJ1.out; have := HXN.out; omega) (by have := H1.out; have := HXN.out; omega)).mono ?_; rintro e w3 ⟨rfl, h3, h4, h5, h6⟩; have HQ2 := Aside0.mk h3; have HV2 := Aside0.mk h4; have HB2 := Aside0.mk h5; have HK2 := Aside0.mk (Kept.then_ (HK.out.drewN _) h6 (fun k hk => .inl hk)); clear h3 h4 h5 h6))
            go_roundg k1
            case measure => omega
            case rel => exact ⟨q, swapF xs i' q, rfl, HF3, ⟨by have := HQL.out; have := HJK.out; omega⟩, ⟨.inl HQL.out.1⟩, ⟨by rw [swapF_len]; exact HLEN.out⟩, ⟨swapF_ids HI.out (by have := HJ1.out; have := HXN.out; omega) (by have := H1.out; have := HXN.out; omega)⟩, HQ2, HV2, HB2, HK2⟩
          | false =>
            have HF3 := Aside0.mk (show F = xs by rw [HF2.out, if_neg (by rw [← HLS.out]; decide)])
            clear HF2
            go_wp2_with (go_at_call 61; first | (with_reducible refine (q_less w0 _ HB.out A c l HRR.out g B v xs HQ.out HV.out HI.out q j1 (by have := H1.out; have := HXN.out; omega) (by have := HJ1.out; have := HXN.out; omega)).mono ?_; rintro e w2 ⟨rfl, ⟨nd, rfl⟩⟩; rw [H2.out]) | (with_reducible refine (q_less w0 _ (pw_below_drewN HB.out _) A c l HRR.out g B v xs (HQ.out.drewN _) (Kd.R_drewN HV.out _) HI.out q i' (by have := H1.out; have := HXN.out; omega) (by have := HJ1.out; have := HXN.out; omega)).mono ?_; rintro e w2 ⟨rfl, ⟨nd2, rfl⟩⟩; rw [← HLS.out]))
            go_ret
            exact ⟨⟨_, rfl⟩, HQ.out, by rw [HF3.out]; exact Kd.R_drewN HV.out _, pw_below_drewN HB.out _, HK.out.drewN _⟩
        · have hb3 : decide ((j2 : Int) < (n : Int)) = true := decide_eq_true (by omega)
          have hb4 : (j2 < n) = True := eq_true (by omega)
          have H1 := Aside0.mk h1
          have H2 := Aside0.mk h2
          clear h1 h2
          cases ls with
          | true =>
            have HF3 := Aside0.mk (show F = downF l n k1 q (swapF xs i' q) by rw [HF2.out, if_pos HLS.out.symm])
            clear HF2
            go_wp2_with (first
              | (go_at_call 61; first | (with_reducible refine (q_less w0 _ HB.out A c l HRR.out g B v xs HQ.out HV.out HI.out j2 q (by have := H1.out; have := HXN.out; omega) (by have := HJ1.out; have := HXN.out; omega)).mono ?_; rintro e w2 ⟨rfl, ⟨nd, rfl⟩⟩; rw [H2.out]) | (with_reducible refine (q_less w0 _ (pw_below_drewN HB.out _) A c l HRR.out g B v xs (HQ.out.drewN _) (Kd.R_drewN HV.out _) HI.out q i' (by have := HJ1.out; have := HXN.out; omega) (by have := HJ1.out; have := HXN.out; omega)).mono ?_; rintro e w2 ⟨rfl, ⟨nd2, rfl⟩⟩; rw [← HLS.out]))
              | (go_at_call 64; refine (q_swap w0 _ (pw_below_drewN HB.out _) A l.length c g B v xs (HQ.out.drewN _) (Kd.R_drewN HV.out _) HB0.out i' q (by have := HJ1.out; have := HXN.out; omega) (by have := HJ1.out; have := HXN.out; omega)).mono ?_; rintro e w3 ⟨rfl, h3, h4, h5, h6⟩; have HQ2 := Aside0.mk h3; have HV2 := Aside0.mk h4; have HB2 := Aside0.mk h5; have HK2 := Aside0.mk (Kept.then_ (HK.out.drewN _) h6 (fun k hk => .inl hk)); clear h3 h4 h5 h6))
            go_roundg k1
            case measure => omega
            case rel => exact ⟨q, swapF xs i' q, rfl, HF3, ⟨by have := HQL.out; have := HJK.out; omega⟩, ⟨.inl HQL.out.1⟩, ⟨by rw [swapF_len]; exact HLEN.out⟩, ⟨swapF_ids HI.out (by have := HJ1.out; have := HXN.out; omega) (by have := HJ1.out; have := HXN.out; omega)⟩, HQ2, HV2, HB2, HK2⟩
          | false =>
            have HF3 := Aside0.mk (show F = xs by rw [HF2.out, if_neg (by rw [← HLS.out]; decide)])
            clear HF2
            go_wp2_with (go_at_call 61; first | (with_reducible refine (q_less w0 _ HB.out A c l HRR.out g B v xs HQ.out HV.out HI.out j2 q (by have := H1.out; have := HXN.out; omega) (by have := HJ1.out; have := HXN.out; omega)).mono ?_; rintro e w2 ⟨rfl, ⟨nd, rfl⟩⟩; rw [H2.out]) | (with_reducible refine (q_less w0 _ (pw_below_drewN HB.out _) A c l HRR.out g B v xs (HQ.out.drewN _) (Kd.R_drewN HV.out _) HI.out q i' (by have := HJ1.out; have := HXN.out; omega) (by have := HJ1.out; have := HXN.out; omega)).mono ?_; rintro e w2 ⟨rfl, ⟨nd2, rfl⟩⟩; rw [← HLS.out]))
            go_ret
            exact ⟨⟨_, rfl⟩, HQ.out, by rw [HF3.out]; exact Kd.R_drewN HV.out _, pw_below_drewN HB.out _, HK.out.drewN _⟩
        · have hb3 : decide ((j2 : Int) < (n : Int)) = false := decide_eq_false (by omega)
          have hb4 : (j2 < n) = False := eq_false (by omega)
          have H1 := Aside0.mk h1
          clear h1
          cases ls with
          | true =>
            have HF3 := Aside0.mk (show F = downF l n k1 q (swapF xs i' q) by rw [HF2.out, if_pos HLS.out.symm])
            clear HF2
            go_wp2_with (first
              | (go_at_call 61; first | (with_reducible refine (q_less w0 _ HB.out A c l HRR.out g B v xs HQ.out HV.out HI.out q i' (by have := HJ1.out; have := HXN.out; omega) (by have := HJ1.out; have := HXN.out; omega)).mono ?_; rintro e w2 ⟨rfl, ⟨nd2, rfl⟩⟩; rw [← HLS.out]))
              | (go_at_call 64; refine (q_swap w0 _ (pw_below_drewN HB.out _) A l.length c g B v xs (HQ.out.drewN _) (Kd.R_drewN HV.out _) HB0.out i' q (by have := HJ1.out; have := HXN.out; omega) (by have := HJ1.out; have := HXN.out; omega)).mono ?_; rintro e w3 ⟨rfl, h3, h4, h5, h6⟩; have HQ2 := Aside0.mk h3; have HV2 := Aside0.mk h4; have HB2 := Aside0.mk h5; have HK2 := Aside0.mk (Kept.then_ (HK.out.drewN _) h6 (fun k hk => .inl hk)); clear h3 h4 h5 h6))
            go_roundg k1
            case measure => omega
            case rel => exact ⟨q, swapF xs i' q, rfl, HF3, ⟨by have := HQL.out; have := HJK.out; omega⟩, ⟨.inl HQL.out.1⟩, ⟨by rw [swapF_len]; exact HLEN.out⟩, ⟨swapF_ids HI.out (by have := HJ1.out; have := HXN.out; omega) (by have := HJ1.out; have := HXN.out; omega)⟩, HQ2, HV2, HB2, HK2⟩
          | false =>
            have HF3 := Aside0.mk (show F = xs by rw [HF2.out, if_neg (by rw [← HLS.out]; decide)])
            clear HF2
            go_wp2_with (go_at_call 61; first | (with_reducible refine (q_less w0 _ HB.out A c l HRR.out g B v xs HQ.out HV.out HI.out q i' (by have := HJ1.out; have := HXN.out; omega) (by have := HJ1.out; have := HXN.out; omega)).mono ?_; rintro e w2 ⟨rfl, ⟨nd2, rfl⟩⟩; rw [← HLS.out]))
            go_ret
            exact ⟨⟨_, rfl⟩, HQ.out, by rw [HF3.out]; exact Kd.R_drewN HV.out _, pw_below_drewN HB.out _, HK.out.drewN _⟩
end Go.Proofs.Ytolhijnkgkfjgaa.XC
