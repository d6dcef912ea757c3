/- The scanner: all that are in slots once more. -/
import Derived.Test.YtolhijnkgkfjgaaSt
namespace Go.Proofs.Ytolhijnkgkfjgaa.XC
open Go.RowKit Go.Proofs.YtolhijnkgkfjgaaW.PrintWords Go.Proofs.YtolhijnkgkfjgaaW.PrintLast Go.Proofs.YtolhijnkgkfjgaaW.PrintMore
attribute [local go_sem] max2_int min2_int max_two min_two max_three min_three max_four min_four   -- for this text's walks alone
set_option linter.unusedVariables false
set_option linter.unusedSimpArgs false
def againIn (mt : Int → Int → Bool) (k : Nat) : Nat → Nat → List (List Int) → List Int → Bool → List (List Int) × List Int × Bool
  | 0, _, ins, at_, b => (ins, at_, b)
  | m + 1, i, ins, at_, b => if rd at_ (i : Int) = 256 ∧ (freeR mt k ins (i : Int)).isSome = true then againIn mt k m (i + 1) (freeI mt k ins (i : Int)) (freeA mt k ins at_ (i : Int)) true else againIn mt k m (i + 1) ins at_ b
def againF (mt : Int → Int → Bool) (k : Nat) : Nat → List (List Int) → List Int → List (List Int) × List Int
  | 0, ins, at_ => (ins, at_)
  | f + 1, ins, at_ => if (againIn mt k at_.length 0 ins at_ false).2.2 = true then againF mt k f (againIn mt k at_.length 0 ins at_ false).1 (againIn mt k at_.length 0 ins at_ false).2.1 else ((againIn mt k at_.length 0 ins at_ false).1, (againIn mt k at_.length 0 ins at_ false).2.1)
def cnt (at_ : List Int) : Nat := (at_.filter fun x => x == 256).length
theorem cnt_le (at_ : List Int) : cnt at_ ≤ at_.length := List.length_filter_le _ _
theorem cnt_set : ∀ (at_ : List Int) (i : Nat) (x : Int), i < at_.length → at_.getD i 0 = 256 → x ≠ 256 → cnt (at_.set i x) + 1 = cnt at_
  | [], _, _, h, _, _ => by simp at h
  | y :: ys, 0, x, _, h, hx => by
    have hy : y = 256 := h
    have e1 : (x == 256) = false := by simp [hx]
    unfold cnt
    rw [List.set_cons_zero, List.filter_cons, List.filter_cons, e1, hy]
    simp
  | y :: ys, i + 1, x, hi, h, hx => by
    have ih := cnt_set ys i x (by simpa using hi) h hx
    unfold cnt at ih ⊢
    rw [List.set_cons_succ, List.filter_cons, List.filter_cons]
    split
    · rw [List.length_cons, List.length_cons]; omega
    · exact ih
theorem againIn_spec {mt : Int → Int → Bool} {l : List Sp} {k : Nat} (hk : k < 256) : ∀ (m i : Nat) (ins : List (List Int)) (at_ : List Int) (b : Bool), i + m = l.length → St l k ins at_ → St l k (againIn mt k m i ins at_ b).1 (againIn mt k m i ins at_ b).2.1 ∧ cnt (againIn mt k m i ins at_ b).2.1 ≤ cnt at_ ∧ ((againIn mt k m i ins at_ b).2.2 = true → b = true ∨ cnt (againIn mt k m i ins at_ b).2.1 < cnt at_)
  | 0, i, ins, at_, b, _, h => ⟨h, Nat.le_refl _, .inl⟩
  | m + 1, i, ins, at_, b, hi, h => by
    rw [againIn]
    split
    · rename_i hc
      have hnot : ∀ r', r' < k → rd at_ (i : Int) ≠ (r' : Int) := fun r' hr' e => by rw [hc.1] at e; omega
      have h1 := h.free (mt := mt) (id := (i : Int)) (by omega) (by omega) hnot
      have h2 := againIn_spec (mt := mt) hk m (i + 1) _ _ true (by omega) h1
      have h3 : cnt (freeA mt k ins at_ (i : Int)) + 1 = cnt at_ := by
        unfold freeA
        cases e : freeR mt k ins (i : Int) with
        | none => rw [e] at hc; exact absurd hc.2 (by simp)
        | some r =>
          have := (freeR_some e).1
          have h4 := hc.1
          unfold rd at h4
          rw [Int.toNat_natCast] at h4
          rw [Int.toNat_natCast]
          exact cnt_set at_ i (r : Int) (by rw [h.hal]; omega) h4 (by omega)
      exact ⟨h2.1, by omega, fun _ => .inr (by omega)⟩
    · have h2 := againIn_spec (mt := mt) hk m (i + 1) ins at_ b (by omega) h
      exact h2
set_option maxHeartbeats 8000000 in
set_option maxRecDepth 100000 in
theorem s_again (w0 w : World) (hB : Below w0.heap.size w0 w) (A : Option Addr) (c : Nat) (l : List Sp) (hr : Kd.C k28 w0 A l.length l) (hl : l.length < 100000) (B p gi k : Nat) (va : Value) (vs : List Value) (ins : List (List Int)) (at_ : List Int) (hs : SC w B p gi k va A l.length c vs ins at_) (mt : Int → Int → Bool) (hm : MeetIs l mt) (hB0 : w0.heap.size ≤ B) (hBw : B ≤ w.heap.size) (hk : k < 256) (hst : St l k ins at_) :
    Calls Try.prog 21 #[.pointer (some ⟨p, 0, none⟩)] w fun e w' => e = .returned (.tuple #[]) ∧ Left w0 w w' B p gi k va A l.length c vs (againF mt k (l.length + 1) ins at_).1 (againF mt k (l.length + 1) ins at_).2 := by
  obtain ⟨F, hF⟩ : ∃ F, F = againF mt k (l.length + 1) ins at_ := ⟨_, rfl⟩
  rw [← hF]
  have HF := Aside0.mk hF
  have HS := Aside0.mk (show Left w0 w w B p gi k va A l.length c vs ins at_ from hs.left_same hB (Below.refl _ _))
  have HR := Aside0.mk hr
  have HM := Aside0.mk hm
  have HB0 := Aside0.mk hB0
  have HBW := Aside0.mk hBw
  have HKB := Aside0.mk hk
  have HL := Aside0.mk hl
  have HST := Aside0.mk hst
  obtain ⟨va1, n1, ca, hva⟩ : ∃ A n c, va = .slice A n c := by obtain ⟨A, c, h, _⟩ := Kd.R_reads hs.hat; exact ⟨A, _, c, h⟩
  have hn1 : n1 = l.length := by
    obtain ⟨A, c, h, _⟩ := Kd.R_reads hs.hat
    rw [hva] at h
    injection h with _ h _
    rw [h, hst.hal]
  subst hn1
  have HVA := Aside0.mk hva
  clear hF hs hB hr hm hB0 hBw hk hl hst hva
  go_enter Try.func21, Try.ntmps21
  go_wp2
  go_loopg [2] (l.length + 2) (fun kq v2 w' => ∃ (more : Bool) (ins1 : List (List Int)) (at1 : List Int), v2 = .bool more ∧ Aside0 (if more = true then F = againF mt k (kq - 1) ins1 at1 ∧ cnt at1 + 1 < kq else F = (ins1, at1)) ∧ Aside0 (St l k ins1 at1) ∧ Aside0 (Left w0 w w' B p gi k va A l.length c vs ins1 at1))
  case atStart => exact ⟨true, ins, at_, rfl, ⟨by rw [if_pos rfl]; exact ⟨HF.out, by have := cnt_le at_; rw [HST.out.hal] at this; omega⟩⟩, HST, HS⟩
  case round =>
    clear HF HST HS
    obtain ⟨more, ins1, at1, rfl, HF, HST, HS⟩ := hrel
    cases more with
    | false =>
      have hF := HF.out
      rw [if_neg (by decide)] at hF
      have HF2 := Aside0.mk hF
      clear HF hF
      go_wp2
      go_end0
      exact ⟨rfl, by rw [HF2.out]; exact HS.out⟩
    | true =>
      have hF := HF.out
      rw [if_pos rfl] at hF
      obtain ⟨k2, hk2⟩ : ∃ k2, gk = k2 + 2 := ⟨gk - 2, by omega⟩
      subst hk2
      have HF2 := Aside0.mk (show F = againF mt k (k2 + 1) ins1 at1 ∧ cnt at1 < k2 + 1 by have h1 := hF.1; have h2 := hF.2; exact ⟨h1, by omega⟩)
      clear HF hF
      obtain ⟨vs1, hS1, hB1, hK1, hN1⟩ := HS.out
      have hy2 := hS1.c2
      rw [HVA.out] at hy2
      have HS1 := Aside0.mk (show Left w0 wr wr B p gi k va A l.length c vs1 ins1 at1 from hS1.left_same hB1 (Below.refl _ _))
      have HK1 := Aside0.mk hK1
      have HN1 := Aside0.mk hN1
      obtain ⟨S, hS⟩ : ∃ S, S = againIn mt k at1.length 0 ins1 at1 false := ⟨_, rfl⟩
      have HSS := Aside0.mk hS
      have HSZ := Aside0.mk (show w.heap.size ≤ wr.heap.size from hK1.1)
      clear hS1 hB1 hK1 hN1 hS
      go_wp2
      go_loopg [2, 11] l.length (fun kq v2 v11 w' => ∃ (i : Nat) (mo : Bool) (ins2 : List (List Int)) (at2 : List Int), v11 = .int .i64 (i : Int) ∧ v2 = .bool mo ∧ Aside0 (kq + i = l.length) ∧ Aside0 (S = againIn mt k kq i ins2 at2 mo) ∧ Aside0 (St l k ins2 at2) ∧ Aside0 (Left w0 wr w' B p gi k va A l.length c vs1 ins2 at2))
      case atStart => exact ⟨0, false, ins1, at1, rfl, rfl, ⟨rfl⟩, ⟨by rw [HSS.out, HST.out.hal]⟩, HST, HS1⟩
      case round =>
        clear HS1 hy2
        obtain ⟨i, mo, ins2, at2, rfl, rfl, HK, HS2, HST2, HL2⟩ := hrel
        obtain ⟨vs2, hS2, hB2, hK2, hN2⟩ := HL2.out
        have HSC := Aside0.mk hS2
        have HB2 := Aside0.mk hB2
        have HK2 := Aside0.mk hK2
        have HN2 := Aside0.mk hN2
        clear hS2 hB2 hK2 hN2
        by_cases hi : i < l.length
        · obtain ⟨k1, rfl⟩ : ∃ k1, gk = k1 + 1 := ⟨gk - 1, by have := HK.out; omega⟩
          have hc : decide ((i : Int) < (l.length : Int)) = true := decide_eq_true (by omega)
          have hi2 : (i < l.length) = True := eq_true hi
          have hi3 : ((i : Int) < (l.length : Int)) = True := eq_true (by omega)
          have hi4 : (0 ≤ (i : Int)) = True := eq_true (by omega)
          have hw := wrap_succ i l.length hi (by have := HL.out; omega)
          have HI := Aside0.mk hi
          obtain ⟨A3, c3, e3, _, hC3⟩ := Kd.R_reads HSC.out.hat
          obtain rfl : va1 = A3 := by
            have h := HVA.out.symm.trans e3
            injection h
          clear e3
          obtain ⟨ad, e4, hy4⟩ := Kd.at_int hC3 (i : Int) (by omega) (by rw [HST2.out.hal]; omega)
          subst e4
          rw [Int.toNat_natCast] at hy4
          have hS := HS2.out
          rw [againIn] at hS
          obtain ⟨x, hx⟩ : ∃ x, x = rd at2 (i : Int) := ⟨_, rfl⟩
          rw [← hx] at hS hy4
          clear hC3 hi
          by_cases h256 : x = 256
          · have hb1 : (x == 256) = true := beq_iff_eq.mpr h256
            have HNOT := Aside0.mk (show ∀ r', r' < k → rd at2 (i : Int) ≠ (r' : Int) from fun r' hr' e => by rw [← hx, h256] at e; have := HKB.out; omega)
            clear hx
            cases hfr : (freeR mt k ins2 (i : Int)).isSome with
            | true =>
              rw [if_pos ⟨h256, hfr⟩] at hS
              have HS3 := Aside0.mk hS
              have HFR := Aside0.mk hfr
              clear hS hfr h256 HS2
              go_wp2_with (go_at_call 19; refine (s_free w0 _ HB2.out A c l HR.out HL.out B p gi k va vs2 ins2 at2 HSC.out mt HM.out HB0.out (Nat.le_trans (Nat.le_trans HBW.out HSZ.out) HK2.out.1) (by have := HKB.out; omega) (i : Int) (by omega) (by have := HI.out; omega) HST2.out.hal HST2.out.good (fun r => Nat.lt_of_le_of_lt (HST2.out.len r) HL.out)).mono ?_; rintro e w5 ⟨rfl, h5⟩; have HL5 := Aside0.mk (Left.comp HK2.out HN2.out h5); rw [HFR.out]; clear h5)
              go_roundg k1
              case measure => omega
              case rel => exact ⟨i + 1, true, _, _, (by first | rw [hw] | rfl | (push_cast; rfl)), rfl, ⟨by have := HK.out; omega⟩, HS3, ⟨HST2.out.free (by omega) (by have := HI.out; omega) HNOT.out⟩, HL5⟩
            | false =>
              rw [if_neg (fun h => by rw [hfr] at h; exact absurd h.2 (by decide))] at hS
              have HS3 := Aside0.mk hS
              have HFR := Aside0.mk hfr
              have HSAME := Aside0.mk (show freeI mt k ins2 (i : Int) = ins2 ∧ freeA mt k ins2 at2 (i : Int) = at2 by
                unfold freeI freeA
                cases e : freeR mt k ins2 (i : Int) with
                | none => exact ⟨rfl, rfl⟩
                | some r => rw [e] at hfr; cases hfr)
              clear hS hfr h256 HS2
              go_wp2_with (go_at_call 19; refine (s_free w0 _ HB2.out A c l HR.out HL.out B p gi k va vs2 ins2 at2 HSC.out mt HM.out HB0.out (Nat.le_trans (Nat.le_trans HBW.out HSZ.out) HK2.out.1) (by have := HKB.out; omega) (i : Int) (by omega) (by have := HI.out; omega) HST2.out.hal HST2.out.good (fun r => Nat.lt_of_le_of_lt (HST2.out.len r) HL.out)).mono ?_; rintro e w5 ⟨rfl, h5⟩; rw [HSAME.out.1, HSAME.out.2] at h5; have HL5 := Aside0.mk (Left.comp HK2.out HN2.out h5); rw [HFR.out]; clear h5)
              go_roundg k1
              case measure => omega
              case rel => exact ⟨i + 1, mo, _, _, (by first | rw [hw] | rfl | (push_cast; rfl)), rfl, ⟨by have := HK.out; omega⟩, HS3, HST2, HL5⟩
          · have hb1 : (x == 256) = false := beq_eq_false_iff_ne.mpr h256
            rw [if_neg (fun h => h256 h.1)] at hS
            have HS3 := Aside0.mk hS
            clear hS h256 HS2 hx
            go_wp2
            go_roundg k1
            case measure => omega
            case rel => exact ⟨i + 1, mo, _, _, (by first | rw [hw] | rfl | (push_cast; rfl)), rfl, ⟨by have := HK.out; omega⟩, HS3, HST2, HL2⟩
        · have hc : decide ((i : Int) < (l.length : Int)) = false := decide_eq_false (by omega)
          have hi2 : (i < l.length) = False := eq_false hi
          have hS := HS2.out
          rw [show gk = 0 by have := HK.out; omega, againIn] at hS
          have hspec := againIn_spec (mt := mt) HKB.out at1.length 0 ins1 at1 false (by rw [HST.out.hal]; omega) HST.out
          rw [← HSS.out, hS] at hspec
          have hf := HF2.out
          rw [againF, ← HSS.out, hS] at hf
          have HF3 := Aside0.mk hf
          have HSP := Aside0.mk hspec
          clear hS hspec hf HF2 HS2 HSS
          go_wp2
          go_roundg (k2 + 1)
          case measure => omega
          case rel =>
            refine ⟨mo, ins2, at2, rfl, ⟨?_⟩, HST2, ⟨Left.comp HK1.out HN1.out HL2.out⟩⟩
            have h1 := HF3.out
            have h2 := HSP.out
            cases mo with
            | true =>
              rw [if_pos rfl]
              have h3 := h2.2.2 rfl
              simp only [Bool.false_eq_true, false_or] at h3
              exact ⟨by rw [h1.1]; rfl, by have := h1.2; have h4 : cnt at2 < cnt at1 := h3; omega⟩
            | false =>
              rw [if_neg (by decide)]
              rw [h1.1]
              rfl
end Go.Proofs.Ytolhijnkgkfjgaa.XC
