/- The heap over the queue: up, down, Push, Pop. -/
import Derived.Test.YtolhijnkgkfjgaaQpp
namespace Go.Proofs.Ytolhijnkgkfjgaa.XC
open Go.RowKit Go.Proofs.YtolhijnkgkfjgaaW.PrintWords Go.Proofs.YtolhijnkgkfjgaaW.PrintLast Go.Proofs.YtolhijnkgkfjgaaW.PrintMore
attribute [local go_sem] max2_int min2_int max_two min_two max_three min_three max_four min_four   -- for this text's walks alone
set_option linter.unusedVariables false
set_option linter.unusedSimpArgs false
/-- One that came in goes up. -/
def upF (l : List Sp) : Nat → Nat → List Int → List Int
  | 0, _, xs => xs
  | k + 1, j, xs => if j = 0 then xs else if lessF l (rd xs (j : Int)) (rd xs (((j - 1) / 2 : Nat) : Int)) = true then upF l k ((j - 1) / 2) (swapF xs ((j - 1) / 2) j) else xs
abbrev HI (g : Nat) : Value := .iface 54 (.pointer (some ⟨g, 0, none⟩))
theorem swapF_ids {l : List Sp} {xs : List Int} {i j : Nat} (h : Ids l xs) (hi : i < xs.length) (hj : j < xs.length) : Ids l (swapF xs i j) := by
  intro x hx
  unfold swapF at hx
  rcases List.mem_or_eq_of_mem_set hx with hx | rfl
  · rcases List.mem_or_eq_of_mem_set hx with hx | rfl
    · exact h x hx
    · exact h.at hj
  · exact h.at hi
theorem QK_same {g : Nat} {v v' : Value} (h : v'.ownBlock = v.ownBlock) : QK g v' = QK g v := by unfold QK; rw [h]
theorem m_less (g : Nat) (w : World) : (method 206 54 (.pointer (some ⟨g, 0, none⟩)) "Less").run Try.prog w = .ok (61, .pointer (some ⟨g, 0, none⟩)) w := by kernel_rfl
theorem m_swap (g : Nat) (w : World) : (method 206 54 (.pointer (some ⟨g, 0, none⟩)) "Swap").run Try.prog w = .ok (64, .pointer (some ⟨g, 0, none⟩)) w := by kernel_rfl
theorem m_push (g : Nat) (w : World) : (method 206 54 (.pointer (some ⟨g, 0, none⟩)) "Push").run Try.prog w = .ok (63, .pointer (some ⟨g, 0, none⟩)) w := by kernel_rfl
theorem m_pop (g : Nat) (w : World) : (method 206 54 (.pointer (some ⟨g, 0, none⟩)) "Pop").run Try.prog w = .ok (62, .pointer (some ⟨g, 0, none⟩)) w := by kernel_rfl
theorem m_len (g : Nat) (w : World) : (method 206 54 (.pointer (some ⟨g, 0, none⟩)) "Len").run Try.prog w = .ok (17, .pointer (some ⟨g, 0, none⟩)) w := by kernel_rfl
set_option maxHeartbeats 8000000 in
set_option maxRecDepth 100000 in
theorem h_up (w0 w : World) (hB : Below w0.heap.size w0 w) (A : Option Addr) (c : Nat) (l : List Sp) (hr : Kd.C k28 w0 A l.length l) (g B : Nat) (v : Value) (ids : List Int) (hq : QS w g A l.length c v) (hv : RI w B v ids) (hids : Ids l ids) (hB0 : w0.heap.size ≤ B) (j : Nat) (hj : j < ids.length) (hl : ids.length < 1000000) :
    Calls Try.prog 28 #[HI g, .int .i64 (j : Int)] w fun e w' => e = .returned (.tuple #[]) ∧ QS w' g A l.length c v ∧ RI w' B v (upF l (j + 1) j ids) ∧ Below w0.heap.size w0 w' ∧ Kept w w' (QK g v) := by
  obtain ⟨F, hF⟩ : ∃ F, F = upF l (j + 1) j ids := ⟨_, rfl⟩
  rw [← hF]
  have HF := Aside0.mk hF
  have HRR := Aside0.mk hr
  have HQ := Aside0.mk hq
  have HV := Aside0.mk hv
  have HB := Aside0.mk hB
  have HB0 := Aside0.mk hB0
  have HI := Aside0.mk hids
  have HJ := Aside0.mk hj
  have HL := Aside0.mk hl
  clear hF hr hq hv hB hB0 hids hj hl
  have hm1 := m_less g
  have hm2 := m_swap g
  go_enter Try.func28, Try.ntmps28
  go_wp2
  go_loopg [1] (j + 1) (fun kq v1 w' => ∃ (j' : Nat) (xs : List Int), v1 = .int .i64 (j' : Int) ∧ Aside0 (F = upF l kq j' xs) ∧ Aside0 (j' < kq) ∧ Aside0 (j' < xs.length) ∧ Aside0 (xs.length = ids.length) ∧ Aside0 (Ids l xs) ∧ Aside0 (QS w' g A l.length c v) ∧ Aside0 (RI w' B v xs) ∧ Aside0 (Below w0.heap.size w0 w') ∧ Aside0 (Kept w w' (QK g v)))
  case atStart => exact ⟨j, ids, rfl, HF, ⟨by omega⟩, HJ, ⟨rfl⟩, HI, HQ, HV, HB, ⟨Kept.refl _ _⟩⟩
  case round =>
    clear HF HQ HV HB HI HJ
    obtain ⟨j', xs, rfl, HF, HJK, HJ, HLEN, HI, HQ, HV, HB, HK⟩ := hrel
    cases gk with
    | zero => exact absurd HJK.out (by omega)
    | succ k1 =>
      by_cases h0 : j' = 0
      · subst h0
        have hF := HF.out
        rw [upF, if_pos rfl] at hF
        have HF2 := Aside0.mk hF
        clear HF hF
        have hz : wrap64 (((0 : Nat) : Int) - 1) = -1 := by unfold wrap64; omega
        have hz2 : wrap64 (Int.tdiv (-1) 2) = 0 := by rw [show Int.tdiv (-1) 2 = 0 from rfl]; unfold wrap64; omega
        go_wp2
        go_end0
        exact ⟨rfl, HQ.out, by rw [HF2.out]; exact HV.out, HB.out, HK.out⟩
      · obtain ⟨m, hm⟩ : ∃ m, m = j' - 1 := ⟨_, rfl⟩
        obtain ⟨i', hi'⟩ : ∃ i', i' = (j' - 1) / 2 := ⟨_, rfl⟩
        have hF := HF.out
        rw [upF, if_neg h0, ← hi'] at hF
        have hz : wrap64 ((j' : Int) - 1) = (m : Int) := by unfold wrap64; have := HJ.out; have := HLEN.out; have := HL.out; omega
        have hz2 : wrap64 (Int.tdiv (m : Int) 2) = (i' : Int) := by
          rw [Int.tdiv_eq_ediv_of_nonneg (by omega)]
          unfold wrap64
          have := HJ.out; have := HLEN.out; have := HL.out
          omega
        have hz3 : wrap64 ((m : Int) / 2) = (i' : Int) := by unfold wrap64; have := HJ.out; have := HLEN.out; have := HL.out; omega
        have hlt : i' < j' := by omega
        have hne : ((i' : Int) == (j' : Int)) = false := beq_eq_false_iff_ne.mpr (by omega)
        have HLT := Aside0.mk hlt
        by_cases hls : lessF l (rd xs (j' : Int)) (rd xs (i' : Int)) = true
        · rw [if_pos hls] at hF
          have HF2 := Aside0.mk hF
          have HLS := Aside0.mk hls
          clear HF hF hm hi' h0 hlt hls
          go_wp2_with (first
            | (go_at_call 61; refine (q_less w0 _ HB.out A c l HRR.out g B v xs HQ.out HV.out HI.out j' i' HJ.out (by have := HLT.out; have := HJ.out; omega)).mono ?_; rintro e w2 ⟨rfl, ⟨nd, rfl⟩⟩; rw [HLS.out])
            | (go_at_call 64; refine (q_swap w0 _ (pw_below_drewN HB.out _) A l.length c g B v xs HQ.out (Kd.R_drewN HV.out _) HB0.out i' j' (by have := HLT.out; have := HJ.out; omega) HJ.out).mono ?_; rintro e w3 ⟨rfl, h3, h4, h5, h6⟩; have HQ2 := Aside0.mk h3; have HV2 := Aside0.mk h4; have HB2 := Aside0.mk h5; have HK2 := Aside0.mk (Kept.then_ (HK.out.drewN _) h6 (fun k hk => .inl hk)); clear h3 h4 h5 h6))
          go_roundg k1
          case measure => omega
          case rel => exact ⟨i', swapF xs i' j', rfl, HF2, ⟨by have := HLT.out; have := HJK.out; omega⟩, ⟨by rw [swapF_len]; have := HLT.out; have := HJ.out; omega⟩, ⟨by rw [swapF_len]; exact HLEN.out⟩, ⟨swapF_ids HI.out (by have := HLT.out; have := HJ.out; omega) HJ.out⟩, HQ2, HV2, HB2, HK2⟩
        · rw [if_neg hls] at hF
          have HF2 := Aside0.mk hF
          have HLS := Aside0.mk ((Bool.not_eq_true _).mp hls)
          clear HF hF hm hi' h0 hlt hls
          go_wp2_with (go_at_call 61; refine (q_less w0 _ HB.out A c l HRR.out g B v xs HQ.out HV.out HI.out j' i' HJ.out (by have := HLT.out; have := HJ.out; omega)).mono ?_; rintro e w2 ⟨rfl, ⟨nd, rfl⟩⟩; rw [HLS.out])
          go_end0
          exact ⟨rfl, HQ.out, by rw [HF2.out]; exact Kd.R_drewN HV.out _, pw_below_drewN HB.out _, HK.out.drewN _⟩
end Go.Proofs.Ytolhijnkgkfjgaa.XC
