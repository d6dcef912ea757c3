/- The scanner: one is put where it meets none; how long a span is. -/
import Derived.Test.YtolhijnkgkfjgaaPut
namespace Go.Proofs.Ytolhijnkgkfjgaa.XC
open Go.RowKit Go.Proofs.YtolhijnkgkfjgaaW.PrintWords Go.Proofs.YtolhijnkgkfjgaaW.PrintLast Go.Proofs.YtolhijnkgkfjgaaW.PrintMore
attribute [local go_sem] max2_int min2_int max_two min_two max_three min_three max_four min_four   -- for this text's walks alone
set_option linter.unusedVariables false
set_option linter.unusedSimpArgs false
/-- The first register where one meets none. -/
def freeFrom (mt : Int → Int → Bool) (ins : List (List Int)) (id : Int) : Nat → Nat → Option Nat
  | 0, _ => none
  | m + 1, r => if (meetsF mt ins r id).length = 0 then some r else freeFrom mt ins id m (r + 1)
def freeR (mt : Int → Int → Bool) (k : Nat) (ins : List (List Int)) (id : Int) : Option Nat := freeFrom mt ins id k 0
def putI (ins : List (List Int)) (r : Nat) (id : Int) : List (List Int) := ins.set r (rAt ins r ++ [id])
def freeI (mt : Int → Int → Bool) (k : Nat) (ins : List (List Int)) (id : Int) : List (List Int) := match freeR mt k ins id with | none => ins | some r => putI ins r id
def freeA (mt : Int → Int → Bool) (k : Nat) (ins : List (List Int)) (at_ : List Int) (id : Int) : List Int := match freeR mt k ins id with | none => at_ | some r => at_.set id.toNat (r : Int)
theorem freeFrom_lt {mt : Int → Int → Bool} {ins : List (List Int)} {id : Int} : ∀ {m r r' : Nat}, freeFrom mt ins id m r = some r' → r' < r + m
  | 0, _, _, h => by cases h
  | m + 1, r, r', h => by
    rw [freeFrom] at h
    split at h
    · injection h with h; omega
    · have := freeFrom_lt h; omega
theorem meetsF_len (mt : Int → Int → Bool) (ins : List (List Int)) (r : Nat) (id : Int) : (meetsF mt ins r id).length ≤ (rAt ins r).length := List.length_filter_le _ _
theorem SC.left_same {w0 w w' : World} {B p gi k n c : Nat} {va : Value} {A : Option Addr} {vs : List Value} {ins : List (List Int)} {at_ : List Int} (hs : SC w B p gi k va A n c vs ins at_) (hB : Below w0.heap.size w0 w) (hb : Below w.heap.size w w') : Left w0 w w' B p gi k va A n c vs ins at_ :=
  ⟨vs, hs.below hb, below_step hB hb, Kept.of_below hb _, fun b h => .inl h⟩
theorem Left.after {w0 w w1 w' : World} {B p gi k n c : Nat} {va : Value} {A : Option Addr} {vs : List Value} {ins : List (List Int)} {at_ : List Int} (hb : Below w.heap.size w w1) (h : Left w0 w1 w' B p gi k va A n c vs ins at_) : Left w0 w w' B p gi k va A n c vs ins at_ := by
  obtain ⟨vs', h1, h2, h3, h4⟩ := h
  exact ⟨vs', h1, h2, (Kept.of_below hb (SK gi k va vs)).then_ h3 (fun b hb => .inl hb), fun b hb2 => (h4 b hb2).elim .inl (fun h => .inr (Nat.le_trans hb.size h))⟩
set_option maxHeartbeats 8000000 in
set_option maxRecDepth 100000 in
theorem s_free (w0 w : World) (hB : Below w0.heap.size w0 w) (A : Option Addr) (c : Nat) (l : List Sp) (hr : Kd.C k28 w0 A l.length l) (hl : l.length < 100000) (B p gi k : Nat) (va : Value) (vs : List Value) (ins : List (List Int)) (at_ : List Int) (hs : SC w B p gi k va A l.length c vs ins at_) (mt : Int → Int → Bool) (hm : MeetIs l mt) (hB0 : w0.heap.size ≤ B) (hBw : B ≤ w.heap.size) (hk : k < 100000) (id : Int) (h0 : 0 ≤ id) (h1 : id < (l.length : Int)) (hal : at_.length = l.length) (hg : Good l ins) (hrl : ∀ r, (rAt ins r).length < 100000) :
    Calls Try.prog 19 #[.pointer (some ⟨p, 0, none⟩), .int .i64 id] w fun e w' => e = .returned (.bool (freeR mt k ins id).isSome) ∧ Left w0 w w' B p gi k va A l.length c vs (freeI mt k ins id) (freeA mt k ins at_ id) := by
  unfold freeI freeA
  obtain ⟨F, hF⟩ : ∃ F, F = freeR mt k ins id := ⟨_, rfl⟩
  rw [← hF]
  have HF := Aside0.mk (show F = freeFrom mt ins id k 0 from hF)
  have hx1 := hs.c1
  have HS := Aside0.mk hs
  have HB := Aside0.mk hB
  have HR := Aside0.mk hr
  have HM := Aside0.mk hm
  have HB0 := Aside0.mk hB0
  have HBW := Aside0.mk hBw
  have HKB := Aside0.mk hk
  have HID := Aside0.mk (And.intro h0 h1)
  have HAL := Aside0.mk hal
  have HG := Aside0.mk hg
  have HRL := Aside0.mk hrl
  have HL := Aside0.mk hl
  clear hF hs hB hr hm hB0 hBw hk h0 h1 hal hg hrl hl
  go_enter Try.func19, Try.ntmps19
  go_wp2
  go_loopg [11] k (fun kq v11 w' => ∃ (i : Nat), v11 = .int .i64 (i : Int) ∧ Aside0 (kq + i = k) ∧ Aside0 (F = freeFrom mt ins id kq i) ∧ Aside0 (Below w.heap.size w w'))
  case atStart => exact ⟨0, rfl, ⟨rfl⟩, HF, ⟨Below.refl _ _⟩⟩
  case round =>
    clear HF
    obtain ⟨i, rfl, HK, HF, HW⟩ := hrel
    by_cases hi : i < k
    · obtain ⟨k1, rfl⟩ : ∃ k1, gk = k1 + 1 := ⟨gk - 1, by have := HK.out; omega⟩
      have hc : decide ((i : Int) < (k : Int)) = true := decide_eq_true (by omega)
      have hi2 : (i < k) = True := eq_true hi
      have hw := wrap_succ i k hi (by have := HKB.out; omega)
      have HI := Aside0.mk hi
      have hF := HF.out
      rw [freeFrom] at hF
      clear hi HF
      obtain ⟨q, hq⟩ : ∃ q, q = meetsF mt ins i id := ⟨_, rfl⟩
      rw [← hq] at hF
      have HQ := Aside0.mk hq
      clear hq
      by_cases h0 : q.length = 0
      · rw [if_pos h0] at hF
        subst hF
        have hq0 : (((q.length : Nat) : Int) == 0) = true := beq_iff_eq.mpr (by omega)
        have hq1 : q.length = 0 := h0
        clear h0
        go_wp2_with (first
          | (go_at_call 30; refine (s_meets w0 _ (below_step HB.out HW.out) A c l HR.out HL.out B p gi k va vs ins at_ (HS.out.below HW.out) mt HM.out i HI.out id HID.out.1 HID.out.2 HG.out (HRL.out i)).mono ?_; rintro e w7 ⟨v7, rfl, hR7, hb7⟩; rw [← HQ.out] at hR7; obtain ⟨A2, c2, e2, hle2, hC2⟩ := Kd.R_reads hR7; subst e2; have HB7 := Aside0.mk hb7; clear hR7 hb7 hle2 hC2)
          | (go_at_call 31; refine (s_put w0 _ (below_step (below_step HB.out HW.out) HB7.out) A l.length c B p gi k va vs ins at_ ((HS.out.below HW.out).below HB7.out) HB0.out (Nat.le_trans (Nat.le_trans HBW.out HW.out.size) HB7.out.size) i HI.out id HID.out.1 (by rw [HAL.out]; exact HID.out.2) (HRL.out i)).mono ?_; rintro e w8 ⟨rfl, h8⟩; have HL8 := Aside0.mk h8; clear h8))
        go_ret
        exact ⟨rfl, Left.after (below_step HW.out HB7.out) HL8.out⟩
      · rw [if_neg h0] at hF
        have hq0 : (((q.length : Nat) : Int) == 0) = false := beq_eq_false_iff_ne.mpr (by omega)
        have hq1 : (q.length = 0) = False := eq_false h0
        have HF := Aside0.mk hF
        clear h0 hF
        go_wp2_with (go_at_call 30; refine (s_meets w0 _ (below_step HB.out HW.out) A c l HR.out HL.out B p gi k va vs ins at_ (HS.out.below HW.out) mt HM.out i HI.out id HID.out.1 HID.out.2 HG.out (HRL.out i)).mono ?_; rintro e w7 ⟨v7, rfl, hR7, hb7⟩; rw [← HQ.out] at hR7; obtain ⟨A2, c2, e2, hle2, hC2⟩ := Kd.R_reads hR7; subst e2; have HB7 := Aside0.mk hb7; clear hR7 hb7 hle2 hC2)
        go_roundg k1
        case measure => omega
        case rel => exact ⟨i + 1, (by first | rw [hw] | rfl | (push_cast; rfl)), ⟨by have := HK.out; omega⟩, HF, ⟨below_step HW.out HB7.out⟩⟩
    · have hc : decide ((i : Int) < (k : Int)) = false := decide_eq_false (by omega)
      have hi2 : (i < k) = False := eq_false hi
      have hF := HF.out
      rw [show gk = 0 by have := HK.out; omega, freeFrom] at hF
      subst hF
      go_wp2
      go_ret
      exact ⟨rfl, HS.out.left_same HB.out HW.out⟩
end Go.Proofs.Ytolhijnkgkfjgaa.XC
