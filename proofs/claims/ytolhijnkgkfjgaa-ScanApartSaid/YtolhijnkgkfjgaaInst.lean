/- The scanner: one instead of a lighter one. -/
import Derived.Test.YtolhijnkgkfjgaaOut
namespace Go.Proofs.Ytolhijnkgkfjgaa.XC
open Go.RowKit Go.Proofs.YtolhijnkgkfjgaaW.PrintWords Go.Proofs.YtolhijnkgkfjgaaW.PrintLast Go.Proofs.YtolhijnkgkfjgaaW.PrintMore
attribute [local go_sem] max2_int min2_int max_two min_two max_three min_three max_four min_four   -- for this text's walks alone
set_option linter.unusedVariables false
set_option linter.unusedSimpArgs false
def bestStep (mt : Int → Int → Bool) (l : List Sp) (ins : List (List Int)) (id : Int) (r : Nat) (b : Int) : Int :=
  if (meetsF mt ins r id).length = 1 ∧ lightF l ((meetsF mt ins r id).getD 0 0) id = true ∧ (b = -1 ∨ lightF l ((meetsF mt ins r id).getD 0 0) b = true) then (meetsF mt ins r id).getD 0 0 else b
def bestFrom (mt : Int → Int → Bool) (l : List Sp) (ins : List (List Int)) (id : Int) : Nat → Nat → Int → Int
  | 0, _, b => b
  | m + 1, r, b => bestFrom mt l ins id m (r + 1) (bestStep mt l ins id r b)
def bestF (mt : Int → Int → Bool) (l : List Sp) (k : Nat) (ins : List (List Int)) (id : Int) : Int := bestFrom mt l ins id k 0 (-1)
def insteadI (mt : Int → Int → Bool) (l : List Sp) (k : Nat) (ins : List (List Int)) (at_ : List Int) (id : Int) : List (List Int) :=
  if bestF mt l k ins id = -1 then ins else putI (ins.set (rd at_ (bestF mt l k ins id)).toNat (delF (rAt ins (rd at_ (bestF mt l k ins id)).toNat) (bestF mt l k ins id))) (rd at_ (bestF mt l k ins id)).toNat id
def insteadA (mt : Int → Int → Bool) (l : List Sp) (k : Nat) (ins : List (List Int)) (at_ : List Int) (id : Int) : List Int :=
  if bestF mt l k ins id = -1 then at_.set id.toNat 256 else (at_.set (bestF mt l k ins id).toNat 256).set id.toNat (rd at_ (bestF mt l k ins id))
/-- Who is in a register has it. -/
def Cons (k : Nat) (ins : List (List Int)) (at_ : List Int) : Prop := ∀ r, r < k → ∀ o ∈ rAt ins r, rd at_ o = (r : Int)
theorem Left.comp {w0 w w1 w2 : World} {B p gi k n c : Nat} {va : Value} {A : Option Addr} {vs vs1 : List Value} {ins : List (List Int)} {at_ : List Int} (hK : Kept w w1 (SK gi k va vs)) (hN : ∀ b, SK gi k va vs1 b → SK gi k va vs b ∨ w.heap.size ≤ b) (h : Left w0 w1 w2 B p gi k va A n c vs1 ins at_) : Left w0 w w2 B p gi k va A n c vs ins at_ := by
  obtain ⟨vs', h1, h2, h3, h4⟩ := h
  exact ⟨vs', h1, h2, hK.then_ h3 hN, fun b hb => (h4 b hb).elim (hN b) (fun h => .inr (Nat.le_trans hK.1 h))⟩
set_option maxHeartbeats 8000000 in
set_option maxRecDepth 100000 in
theorem s_instead (w0 w : World) (hB : Below w0.heap.size w0 w) (A : Option Addr) (c : Nat) (l : List Sp) (hr : Kd.C k28 w0 A l.length l) (hl : l.length < 100000) (B p gi k : Nat) (va : Value) (vs : List Value) (ins : List (List Int)) (at_ : List Int) (hs : SC w B p gi k va A l.length c vs ins at_) (mt : Int → Int → Bool) (hm : MeetIs l mt) (hB0 : w0.heap.size ≤ B) (hBw : B ≤ w.heap.size) (hk : k < 100000) (id : Int) (h0 : 0 ≤ id) (h1 : id < (l.length : Int)) (hal : at_.length = l.length) (hg : Good l ins) (hrl : ∀ r, (rAt ins r).length < 100000) (hrs : ∀ x, (rdS l x).f0.length < 1000000000) (hcons : Cons k ins at_) :
    Calls Try.prog 20 #[.pointer (some ⟨p, 0, none⟩), .int .i64 id] w fun e w' => e = .returned (.tuple #[]) ∧ Left w0 w w' B p gi k va A l.length c vs (insteadI mt l k ins at_ id) (insteadA mt l k ins at_ id) := by
  unfold insteadI insteadA
  obtain ⟨F, hF⟩ : ∃ F, F = bestF mt l k ins id := ⟨_, rfl⟩
  rw [← hF]
  have HF := Aside0.mk (show F = bestFrom mt l ins id k 0 (-1) from hF)
  obtain ⟨I1, hI1⟩ : ∃ I1, I1 = if F = -1 then ins else putI (ins.set (rd at_ F).toNat (delF (rAt ins (rd at_ F).toNat) F)) (rd at_ F).toNat id := ⟨_, rfl⟩
  obtain ⟨A1, hA1⟩ : ∃ A1, A1 = if F = -1 then at_.set id.toNat 256 else (at_.set F.toNat 256).set id.toNat (rd at_ F) := ⟨_, rfl⟩
  rw [← hI1, ← hA1]
  have HI1 := Aside0.mk hI1
  have HA1 := Aside0.mk hA1
  clear hI1 hA1
  have hx1 := hs.c1
  have HS := Aside0.mk hs
  have HB := Aside0.mk hB
  have HR := Aside0.mk hr
  have HM := Aside0.mk hm
  have HB0 := Aside0.mk hB0
  have HBW := Aside0.mk hBw
  have HKB := Aside0.mk hk
  have HID := Aside0.mk (And.intro h0 h1)
  have HAL := Aside0.mk hal
  have HG := Aside0.mk hg
  have HRL := Aside0.mk hrl
  have HRS := Aside0.mk hrs
  have HL := Aside0.mk hl
  have HCO := Aside0.mk hcons
  clear hF hs hB hr hm hB0 hBw hk h0 h1 hal hg hrl hrs hl hcons
  go_enter Try.func20, Try.ntmps20
  go_wp2
  go_loopg [4, 13] k (fun kq v4 v13 w' => ∃ (i : Nat) (b : Int), v13 = .int .i64 (i : Int) ∧ v4 = .int .i64 b ∧ Aside0 (kq + i = k) ∧ Aside0 (F = bestFrom mt l ins id kq i b) ∧ Aside0 (b = -1 ∨ ∃ r, r < k ∧ b ∈ rAt ins r) ∧ Aside0 (Below w.heap.size w w'))
  case atStart => exact ⟨0, -1, rfl, rfl, ⟨rfl⟩, HF, ⟨.inl rfl⟩, ⟨Below.refl _ _⟩⟩
  case round =>
    clear HF
    obtain ⟨i, b, rfl, rfl, HK, HF, HBE, HW⟩ := hrel
    by_cases hi : i < k
    · obtain ⟨k1, rfl⟩ : ∃ k1, gk = k1 + 1 := ⟨gk - 1, by have := HK.out; omega⟩
      have hc : decide ((i : Int) < (k : Int)) = true := decide_eq_true (by omega)
      have hi2 : (i < k) = True := eq_true hi
      have hw := wrap_succ i k hi (by have := HKB.out; omega)
      have HI := Aside0.mk hi
      have hF := HF.out
      rw [bestFrom, bestStep] at hF
      clear hi HF
      obtain ⟨q, hq⟩ : ∃ q, q = meetsF mt ins i id := ⟨_, rfl⟩
      rw [← hq] at hF
      have HQ := Aside0.mk hq
      have hmem : ∀ o ∈ q, o ∈ rAt ins i := fun o ho => by rw [hq] at ho; exact (List.mem_filter.1 ho).1
      clear hq
      by_cases h1 : q.length = 1
      · obtain ⟨o, rfl⟩ : ∃ o, q = [o] := List.length_eq_one_iff.1 h1
        have hog := HG.out i o (hmem o (List.mem_singleton.2 rfl))
        have HO := Aside0.mk hog
        have HOM := Aside0.mk (hmem o (List.mem_singleton.2 rfl))
        clear h1 hmem hog
        simp only [List.length_singleton, true_and, List.getD_cons_zero] at hF
        by_cases hl1 : lightF l o id = true
        · have HL1 := Aside0.mk hl1
          by_cases hb1 : b = -1
          · rw [if_pos ⟨hl1, .inl hb1⟩] at hF
            have HF := Aside0.mk hF
            have hbb : (b == -1) = true := beq_iff_eq.mpr hb1
            clear hF hl1 hb1
            go_wp2_with (first
              | (go_at_call 30; refine (s_meets w0 _ (below_step HB.out HW.out) A c l HR.out HL.out B p gi k va vs ins at_ (HS.out.below HW.out) mt HM.out i HI.out id HID.out.1 HID.out.2 HG.out (HRL.out i)).mono ?_; rintro e w7 ⟨v7, rfl, hR7, hb7⟩; rw [← HQ.out] at hR7; obtain ⟨g7, c7, e7, _, _, _, _⟩ := Kd.R_form hR7 (by simp); subst e7; have hx7 := (Kd.R_celln 0 hR7 0 (by omega) (by simp)).1; rw [show rdOf 0 [o] 0 = o from rfl, show ((0 : Int)).toNat = 0 from rfl] at hx7; have HX7 := Aside0.mk (show ∀ W, Below w7.heap.size w7 W → W.cell? ⟨g7, 0, none⟩ = some (.int .i64 o) from fun W hk => hk.cell (p := ⟨g7, 0, none⟩) (Kd.R_lt hR7 g7 rfl) |>.trans hx7); have HB7 := Aside0.mk (below_step HW.out hb7); clear hR7 hb7)
              | (go_at_call 32; (with_reducible refine (s_lighter w0 _ (below_step HB.out HB7.out) A c l HR.out B p gi k va vs ins at_ (HS.out.below HB7.out) o id HO.out.1 HO.out.2 HID.out.1 HID.out.2 HRS.out).mono ?_; rintro e w8 ⟨rfl, hb8⟩; rw [HL1.out]; have hx8 := HX7.out _ hb8; have HB8 := Aside0.mk (below_step HB7.out hb8); have HC8 := Aside0.mk (hb8); clear hb8)))
            go_roundg k1
            case measure => omega
            case rel => exact ⟨i + 1, o, (by first | rw [hw] | rfl | (push_cast; rfl)), rfl, ⟨by have := HK.out; omega⟩, HF, ⟨.inr ⟨i, HI.out, HOM.out⟩⟩, HB8⟩
          · have hbb : (b == -1) = false := beq_eq_false_iff_ne.mpr hb1
            obtain ⟨rb, hrb, hbm⟩ := HBE.out.resolve_left hb1
            have HBI := Aside0.mk (HG.out rb b hbm)
            have HBM := Aside0.mk (show ∃ r, r < k ∧ b ∈ rAt ins r from ⟨rb, hrb, hbm⟩)
            clear hrb hbm
            by_cases hl2 : lightF l o b = true
            · rw [if_pos ⟨hl1, .inr hl2⟩] at hF
              have HF := Aside0.mk hF
              have HL2 := Aside0.mk hl2
              clear hF hl1 hb1 hl2
              go_wp2_with (first
                | (go_at_call 30; refine (s_meets w0 _ (below_step HB.out HW.out) A c l HR.out HL.out B p gi k va vs ins at_ (HS.out.below HW.out) mt HM.out i HI.out id HID.out.1 HID.out.2 HG.out (HRL.out i)).mono ?_; rintro e w7 ⟨v7, rfl, hR7, hb7⟩; rw [← HQ.out] at hR7; obtain ⟨g7, c7, e7, _, _, _, _⟩ := Kd.R_form hR7 (by simp); subst e7; have hx7 := (Kd.R_celln 0 hR7 0 (by omega) (by simp)).1; rw [show rdOf 0 [o] 0 = o from rfl, show ((0 : Int)).toNat = 0 from rfl] at hx7; have HX7 := Aside0.mk (show ∀ W, Below w7.heap.size w7 W → W.cell? ⟨g7, 0, none⟩ = some (.int .i64 o) from fun W hk => hk.cell (p := ⟨g7, 0, none⟩) (Kd.R_lt hR7 g7 rfl) |>.trans hx7); have HB7 := Aside0.mk (below_step HW.out hb7); clear hR7 hb7)
                | (go_at_call 32; first | (with_reducible refine (s_lighter w0 _ (below_step HB.out HB7.out) A c l HR.out B p gi k va vs ins at_ (HS.out.below HB7.out) o id HO.out.1 HO.out.2 HID.out.1 HID.out.2 HRS.out).mono ?_; rintro e w8 ⟨rfl, hb8⟩; rw [HL1.out]; have hx8 := HX7.out _ hb8; have HB8 := Aside0.mk (below_step HB7.out hb8); have HC8 := Aside0.mk (hb8); clear hb8) | (with_reducible refine (s_lighter w0 _ (below_step HB.out HB8.out) A c l HR.out B p gi k va vs ins at_ (HS.out.below HB8.out) o b HO.out.1 HO.out.2 HBI.out.1 HBI.out.2 HRS.out).mono ?_; rintro e w9 ⟨rfl, hb9⟩; rw [HL2.out]; have hx9 := HX7.out _ (below_step HC8.out hb9); have HB9 := Aside0.mk (below_step HB8.out hb9); have HC9 := Aside0.mk (below_step HC8.out hb9); clear hb9)))
              go_roundg k1
              case measure => omega
              case rel => exact ⟨i + 1, o, (by first | rw [hw] | rfl | (push_cast; rfl)), rfl, ⟨by have := HK.out; omega⟩, HF, ⟨.inr ⟨i, HI.out, HOM.out⟩⟩, HB9⟩
            · rw [if_neg (fun h => h.2.elim hb1 hl2)] at hF
              have HF := Aside0.mk hF
              have HL2 := Aside0.mk ((Bool.not_eq_true _).mp hl2)
              clear hF hl1 hb1 hl2
              go_wp2_with (first
                | (go_at_call 30; refine (s_meets w0 _ (below_step HB.out HW.out) A c l HR.out HL.out B p gi k va vs ins at_ (HS.out.below HW.out) mt HM.out i HI.out id HID.out.1 HID.out.2 HG.out (HRL.out i)).mono ?_; rintro e w7 ⟨v7, rfl, hR7, hb7⟩; rw [← HQ.out] at hR7; obtain ⟨g7, c7, e7, _, _, _, _⟩ := Kd.R_form hR7 (by simp); subst e7; have hx7 := (Kd.R_celln 0 hR7 0 (by omega) (by simp)).1; rw [show rdOf 0 [o] 0 = o from rfl, show ((0 : Int)).toNat = 0 from rfl] at hx7; have HX7 := Aside0.mk (show ∀ W, Below w7.heap.size w7 W → W.cell? ⟨g7, 0, none⟩ = some (.int .i64 o) from fun W hk => hk.cell (p := ⟨g7, 0, none⟩) (Kd.R_lt hR7 g7 rfl) |>.trans hx7); have HB7 := Aside0.mk (below_step HW.out hb7); clear hR7 hb7)
                | (go_at_call 32; first | (with_reducible refine (s_lighter w0 _ (below_step HB.out HB7.out) A c l HR.out B p gi k va vs ins at_ (HS.out.below HB7.out) o id HO.out.1 HO.out.2 HID.out.1 HID.out.2 HRS.out).mono ?_; rintro e w8 ⟨rfl, hb8⟩; rw [HL1.out]; have hx8 := HX7.out _ hb8; have HB8 := Aside0.mk (below_step HB7.out hb8); have HC8 := Aside0.mk (hb8); clear hb8) | (with_reducible refine (s_lighter w0 _ (below_step HB.out HB8.out) A c l HR.out B p gi k va vs ins at_ (HS.out.below HB8.out) o b HO.out.1 HO.out.2 HBI.out.1 HBI.out.2 HRS.out).mono ?_; rintro e w9 ⟨rfl, hb9⟩; rw [HL2.out]; have hx9 := HX7.out _ (below_step HC8.out hb9); have HB9 := Aside0.mk (below_step HB8.out hb9); have HC9 := Aside0.mk (below_step HC8.out hb9); clear hb9)))
              go_roundg k1
              case measure => omega
              case rel => exact ⟨i + 1, b, (by first | rw [hw] | rfl | (push_cast; rfl)), rfl, ⟨by have := HK.out; omega⟩, HF, HBE, HB9⟩
        · rw [if_neg (fun h => hl1 h.1)] at hF
          have HF := Aside0.mk hF
          have HL1 := Aside0.mk ((Bool.not_eq_true _).mp hl1)
          clear hF hl1
          go_wp2_with (first
            | (go_at_call 30; refine (s_meets w0 _ (below_step HB.out HW.out) A c l HR.out HL.out B p gi k va vs ins at_ (HS.out.below HW.out) mt HM.out i HI.out id HID.out.1 HID.out.2 HG.out (HRL.out i)).mono ?_; rintro e w7 ⟨v7, rfl, hR7, hb7⟩; rw [← HQ.out] at hR7; obtain ⟨g7, c7, e7, _, _, _, _⟩ := Kd.R_form hR7 (by simp); subst e7; have hx7 := (Kd.R_celln 0 hR7 0 (by omega) (by simp)).1; rw [show rdOf 0 [o] 0 = o from rfl, show ((0 : Int)).toNat = 0 from rfl] at hx7; have HX7 := Aside0.mk (show ∀ W, Below w7.heap.size w7 W → W.cell? ⟨g7, 0, none⟩ = some (.int .i64 o) from fun W hk => hk.cell (p := ⟨g7, 0, none⟩) (Kd.R_lt hR7 g7 rfl) |>.trans hx7); have HB7 := Aside0.mk (below_step HW.out hb7); clear hR7 hb7)
            | (go_at_call 32; (with_reducible refine (s_lighter w0 _ (below_step HB.out HB7.out) A c l HR.out B p gi k va vs ins at_ (HS.out.below HB7.out) o id HO.out.1 HO.out.2 HID.out.1 HID.out.2 HRS.out).mono ?_; rintro e w8 ⟨rfl, hb8⟩; rw [HL1.out]; have hx8 := HX7.out _ hb8; have HB8 := Aside0.mk (below_step HB7.out hb8); have HC8 := Aside0.mk (hb8); clear hb8)))
          go_roundg k1
          case measure => omega
          case rel => exact ⟨i + 1, b, (by first | rw [hw] | rfl | (push_cast; rfl)), rfl, ⟨by have := HK.out; omega⟩, HF, HBE, HB8⟩
      · rw [if_neg (fun h => h1 h.1)] at hF
        have HF := Aside0.mk hF
        have hq0 : (((q.length : Nat) : Int) == 1) = false := beq_eq_false_iff_ne.mpr (by omega)
        have hq1 : (q.length = 1) = False := eq_false h1
        clear hF h1 hmem
        go_wp2_with (go_at_call 30; refine (s_meets w0 _ (below_step HB.out HW.out) A c l HR.out HL.out B p gi k va vs ins at_ (HS.out.below HW.out) mt HM.out i HI.out id HID.out.1 HID.out.2 HG.out (HRL.out i)).mono ?_; rintro e w7 ⟨v7, rfl, hR7, hb7⟩; rw [← HQ.out] at hR7; obtain ⟨A2, c2, e2, hle2, hC2⟩ := Kd.R_reads hR7; subst e2; have HB7 := Aside0.mk (below_step HW.out hb7); clear hR7 hb7 hle2 hC2)
        go_roundg k1
        case measure => omega
        case rel => exact ⟨i + 1, b, (by first | rw [hw] | rfl | (push_cast; rfl)), rfl, ⟨by have := HK.out; omega⟩, HF, HBE, HB7⟩
    · have hc : decide ((i : Int) < (k : Int)) = false := decide_eq_false (by omega)
      have hi2 : (i < k) = False := eq_false hi
      have hF := HF.out
      rw [show gk = 0 by have := HK.out; omega, bestFrom] at hF
      subst hF
      by_cases hb1 : F = -1
      · have hbb : (F == -1) = true := beq_iff_eq.mpr hb1
        have hI := HI1.out
        have hA := HA1.out
        rw [if_pos hb1] at hI hA
        subst hI hA
        obtain ⟨ga, ca, hva, hgaB, _, _, _⟩ := Kd.R_form HS.out.hat (by rw [HAL.out]; have := HID.out; omega)
        have HSW := Aside0.mk (HS.out.below HW.out)
        have hy2 := HSW.out.c2
        rw [hva] at hy2
        obtain ⟨hy3, hz3⟩ := Kd.R_celln 0 (show RI wr B (.slice (some ⟨ga, 0, none⟩) at_.length ca) at_ by rw [← hva]; exact HSW.out.hat) id HID.out.1 (by rw [HAL.out]; exact HID.out.2)
        have p4 : (0 ≤ id) = True := eq_true HID.out.1
        have p5 : (id < (at_.length : Int)) = True := eq_true (by rw [HAL.out]; exact HID.out.2)
        have HVA := Aside0.mk hva
        have HGA := Aside0.mk (show w0.heap.size ≤ ga by have := HB0.out; omega)
        clear hva hgaB hb1
        go_wp2
        refine bodyPost_ret (results_none rfl _ _ _) rfl ?_
        exact ⟨rfl, vs, SC.setAt HSW.out id.toNat 256 HVA.out, below_set (below_step HB.out HW.out) HGA.out, (Kept.of_below HW.out _).setCell (p := ⟨ga, id.toNat, none⟩) (.inl (SK_ga HVA.out)) _, fun b hb => .inl hb⟩
      · have hbb : (F == -1) = false := beq_eq_false_iff_ne.mpr hb1
        have hI := HI1.out
        have hA := HA1.out
        rw [if_neg hb1] at hI hA
        obtain ⟨rb, hrb, hbm⟩ := HBE.out.resolve_left hb1
        have hat := HCO.out rb hrb F hbm
        have hFg := HG.out rb F hbm
        rw [hat, Int.toNat_natCast] at hI
        rw [hat] at hA
        subst hI hA
        obtain ⟨ga, ca, hva, hgaB, _, _, _⟩ := Kd.R_form HS.out.hat (by rw [HAL.out]; have := HID.out; omega)
        have HSW := Aside0.mk (HS.out.below HW.out)
        have hy2 := HSW.out.c2
        rw [hva] at hy2
        have hy3 := (Kd.R_celln 0 (show RI wr B (.slice (some ⟨ga, 0, none⟩) at_.length ca) at_ by rw [← hva]; exact HSW.out.hat) F hFg.1 (by rw [HAL.out]; exact hFg.2)).1
        rw [show rdOf 0 at_ F = (rb : Int) from hat] at hy3
        have p4 : (0 ≤ F) = True := eq_true hFg.1
        have p5 : (F < (at_.length : Int)) = True := eq_true (by rw [HAL.out]; exact hFg.2)
        have HRB := Aside0.mk hrb
        have HAT := Aside0.mk hat
        have HFG := Aside0.mk hFg
        have HNE := Aside0.mk (show (rAt ins rb).length ≠ 0 from fun e => by rw [List.eq_nil_of_length_eq_zero e] at hbm; cases hbm)
        clear hva hgaB hb1 hrb hbm hat hFg
        go_wp2_with (first
          | (go_at_call 33; refine (s_out w0 _ (below_step HB.out HW.out) A l.length c B p gi k va vs ins at_ HSW.out HB0.out (Nat.le_trans HBW.out HW.out.size) rb HRB.out F HFG.out.1 (by rw [HAL.out]; exact HFG.out.2) HAT.out HNE.out).mono ?_; rintro e w5 ⟨rfl, vs5, hS5, hB5, hK5, hN5⟩; have HS5 := Aside0.mk hS5; have HB5 := Aside0.mk hB5; have HK5 := Aside0.mk hK5; have HN5 := Aside0.mk hN5; clear hS5 hB5 hK5 hN5)
          | (go_at_call 31; refine (s_put w0 _ HB5.out A l.length c B p gi k va vs5 _ _ HS5.out HB0.out (Nat.le_trans (Nat.le_trans HBW.out HW.out.size) HK5.out.1) rb HRB.out id HID.out.1 (by rw [List.length_set, HAL.out]; exact HID.out.2) (by rw [rAt_set HS.out.hki HRB.out, if_pos rfl]; exact Nat.lt_of_le_of_lt (List.length_filter_le _ _) (HRL.out rb))).mono ?_; rintro e w6 ⟨rfl, h6⟩; have HL6 := Aside0.mk h6; clear h6))
        go_end0
        exact ⟨rfl, Left.after HW.out (Left.comp HK5.out HN5.out HL6.out)⟩
end Go.Proofs.Ytolhijnkgkfjgaa.XC
