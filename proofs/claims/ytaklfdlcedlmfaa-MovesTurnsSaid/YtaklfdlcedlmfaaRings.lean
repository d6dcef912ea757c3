/- The rings of moves: the walk. -/
import Derived.Test.YtaklfdlcedlmfaaFacts
namespace Go.Proofs.Ytaklfdlcedlmfaa.XM
open Go.RowKit Go.Proofs.YtaklfdlcedlmfaaW.PrintWords Go.Proofs.YtaklfdlcedlmfaaW.PrintLast Go.Proofs.YtaklfdlcedlmfaaW.PrintMore
open Mo
attribute [local go_sem] max2_int min2_int max_two min_two max_three min_three max_four min_four   -- for this text's walks alone
set_option linter.unusedVariables false
set_option linter.unusedSimpArgs false
theorem foldl_take {α β : Type} (g : β → α → β) (z : β) (xs : List α) (d : α) (i : Nat) (h : i < xs.length) : (xs.take (i + 1)).foldl g z = g ((xs.take i).foldl g z) (xs.getD i d) := by
  rw [List.take_add_one, List.foldl_append, List.getElem?_eq_getElem h, List.getD_eq_getElem?_getD, List.getElem?_eq_getElem h]
  rfl
theorem ringStep_len (f : Int → Option Int) (N : Nat) (out : List (List Int)) (a : Int) : (ringStep f N out a).length ≤ out.length + 1 := by
  unfold ringStep
  split
  · omega
  · split
    · simp
    · omega
set_option maxHeartbeats 8000000 in
set_option maxRecDepth 100000 in
theorem moves_Rings.bad (A0 : Option Addr) (c0 : Nat) (l0 : List Mv) (w : World) (hr0 : Kd.C k25 w A0 l0.length l0) (hc0 : l0.length ≤ c0) (hn0 : l0.length < 1000000000) (hok : okM l0 = false) :
    Calls Try.prog 4 #[.slice A0 l0.length c0] w fun e w' => e = .returned (.tuple #[.slice none 0 0, errW (some 1)]) ∧ Below w.heap.size w w' := by
  have C := Aside0.mk ((moves_Check.walk A0 c0 l0 w hr0 hc0 hn0).mono (R' := fun e w' => e = .returned (.iface 48 (.int .i64 1)) ∧ Below w.heap.size w w') (fun e w' h => ⟨by rw [h.1, hok]; rfl, h.2⟩))
  clear hr0 hc0 hn0
  go_enter Try.func4, Try.ntmps4
  go_wp2_with (go_at_call 8; refine C.out.mono ?_; rintro e w2 ⟨rfl, hb⟩; have HB := Aside0.mk hb; clear hb)
  go_ret2
  exact ⟨rfl, HB.out⟩
set_option maxHeartbeats 8000000 in
set_option maxRecDepth 100000 in
theorem moves_Rings.good (A0 : Option Addr) (c0 : Nat) (l0 : List Mv) (w : World) (hr0 : Kd.C k25 w A0 l0.length l0) (hc0 : l0.length ≤ c0) (hn0 : l0.length < 1000000000) (hok : okM l0 = true) :
    Calls Try.prog 4 #[.slice A0 l0.length c0] w fun e w' => ∃ v, e = .returned (.tuple #[v, errW none]) ∧ Kd.S (Kd.slice 3 (Kd.int .i64)) 33 w' w.heap.size (fun _ => True) v (ringsOf l0) ∧ Below w.heap.size w w' := by
  have HR0 := Aside0.mk hr0
  have HC0 := Aside0.mk hc0
  have HN0 := Aside0.mk hn0
  have HOK := Aside0.mk hok
  have C := Aside0.mk ((moves_Check.walk A0 c0 l0 w hr0 hc0 hn0).mono (R' := fun e w' => e = .returned .nilIface ∧ Below w.heap.size w w') (fun e w' h => ⟨by rw [h.1, hok]; rfl, h.2⟩))
  clear hr0 hc0 hn0 hok
  obtain ⟨f, hf⟩ : ∃ f, f = srcs l0 := ⟨_, rfl⟩
  have HF := Aside0.mk hf
  clear hf
  obtain ⟨R, hR⟩ : ∃ R, R = ringsOf l0 := ⟨_, rfl⟩
  rw [← hR]
  have HR := Aside0.mk hR
  clear hR
  go_enter Try.func4, Try.ntmps4
  go_wp2_with (first
    | (go_at_call 8; refine C.out.mono ?_; rintro e w2 ⟨rfl, hb⟩; have HB := Aside0.mk hb; clear hb C)
    | (go_at_call 9; refine (moves_sources.calls A0 c0 l0 _ (Kd.C_below HR0.out HB.out) HC0.out (okM_good HOK.out) HN0.out).mono ?_; rintro e w3 ⟨b, n, rfl, hm, hn, hbb, hb⟩; have HM := Aside0.mk hm; have HNN := Aside0.mk hn; have HBB := Aside0.mk (Nat.le_trans HB.out.size hbb); have HB3 := Aside0.mk (below_step HB.out hb); clear hm hn hbb hb HB; rw [← HF.out] at HM)
    | ((with_reducible refine gate_dst (N := 20) rfl ?_); refine wp_range _ rfl _ rfl b n f rfl HM.out ?_; intro w4 r cnt hr hcn hir hb4; have HIR := Aside0.mk hir; have HCN := Aside0.mk hcn; have HRB := Aside0.mk (show w.heap.size ≤ r by have := HB3.out.size; omega); have HB4 := Aside0.mk (below_step HB3.out hb4); clear hr hcn hir hb4 HB3 HM))
  go_simp
  go_loopg [6] cnt (fun kq v6 w' => ∃ (ss : List Int) (left : Int → Bool), Aside0 (Kd.R (Kd.int .i64) 3 w' w.heap.size (fun k => k ≠ r ∧ k ≠ b) v6 ss) ∧ Aside0 (IR w' b r n f left kq) ∧ Aside0 (Coll f left ss) ∧ Aside0 (Below w.heap.size w w'))
  case atStart => exact ⟨[], _, ⟨Kd.R_nil _ _ _ _ _⟩, ⟨HIR.out⟩, ⟨Coll.start f⟩, ⟨HB4.out⟩⟩
  case round =>
    clear HIR HB4
    obtain ⟨ss, left, HO, HIR, HC, HB⟩ := hrel
    have HLN := Aside0.mk (show ss.length ≤ l0.length from (show Coll (srcs l0) left ss by rw [← HF.out]; exact HC.out).len)
    go_wp2_with (first
      | ((with_reducible refine gate_dst (N := 21) rfl ?_); refine wp_next _ rfl _ rfl b r n f left gk rfl HIR.out ?done ?more)
      | ((with_reducible refine gate_builtin (b := .append) (xs := #[.tmp 25, .tmp 27]) rfl ?_); at_builtin; refine Kd.R_append (Kd.int .i64) (w0 := w) w.heap.size rfl (.tmp 25) (.tmp 27) 33 3 (.int .i64 0) 8 rfl Try.underlying33 infoI rfl (by decide) (by omega) u6 ss x [.int .i64 x] (fun k => k ≠ r ∧ k ≠ b) (fun _ => False) rfl rfl ?aP (fun _ hk => hk.elim) ?aF ?aO ?aB ?aS ?aL ?_))
    case more =>
      intro x c w5 k1 hx hc hl hfx hir hlt hgr hsz hen
      have HIR5 := Aside0.mk hir
      have HC5 := Aside0.mk (HC.out.step hx hl hfx)
      have HB5 := Aside0.mk (HB.out.grown hgr HB.out.size (fun k hk => by cases hk; exact HRB.out))
      have HO5 := Aside0.mk (Kd.R_grown HO.out hgr (fun k hk e => hk.1 (Option.some.inj e)))
      have HLT := Aside0.mk hlt
      clear hx hc hl hfx hir hlt hgr hsz HIR HC HB HO
      go_wp2_with ((with_reducible refine gate_builtin (b := .append) (xs := #[.tmp 25, .tmp 27]) rfl ?_); at_builtin; refine Kd.R_append (Kd.int .i64) (w0 := w) w.heap.size rfl (.tmp 25) (.tmp 27) 33 3 (.int .i64 0) 8 rfl Try.underlying33 infoI rfl (by decide) (by omega) u6 ss x [.int .i64 x] (fun k => k ≠ r ∧ k ≠ b) (fun _ => False) rfl rfl ?aP (fun _ hk => hk.elim) ?aF ?aO ?aB ?aS ?aL ?_; (case aP => exact rfl); (case aB => exact HB5.out); (case aF => exact fun k hk => ⟨fun e => by have := HIR5.out.ltr; omega, fun e => by have := HIR5.out.im.lt; omega⟩); (case aO => exact HO5.out); (case aS => exact HB5.out.size); (case aL => have := HLN.out; have := HN0.out; omega); intro v6 w6 ho hb hg hat; have HO6 := Aside0.mk ho; have HB6 := Aside0.mk hb; have HIR6 := Aside0.mk (HIR5.out.block (hg.block b HIR5.out.im.lt (fun e => (HO5.out.1 b e.symm).2 rfl)) (hg.block r HIR5.out.ltr (fun e => (HO5.out.1 r e.symm).1 rfl))); clear ho hb hg hat)
      go_roundg k1
      case measure => exact HLT.out
      case rel => exact ⟨ss ++ [x], _, ⟨HO6.out⟩, ⟨HIR6.out⟩, ⟨HC5.out⟩, ⟨HB6.out⟩⟩
    case done =>
      intro hl
      have HP := Aside0.mk (show ss.mergeSort Sh.leI = placesOf l0 from (show Coll (srcs l0) left ss by rw [← HF.out]; exact HC.out).perm HOK.out hl)
      clear hl
      go_wp2_with (go_at_call 10; refine (Sh.sort _ w.heap.size _ u6 ss HO.out (by have := HLN.out; have := HN0.out; omega)).mono ?_; rintro e w5 ⟨rfl, hs, hb, hbl⟩; have HB5 := Aside0.mk (hb w HB.out (Nat.le_refl _)); have HM5 := Aside0.mk (HIR.out.im.block (hbl b HIR.out.im.lt (fun e => (HO.out.1 b e.symm).2 rfl))); rw [HP.out] at hs; obtain ⟨A1, c1, e1, hle1, hC1⟩ := Kd.R_reads hs; subst e1; have HC1 := Aside0.mk hC1; have HL1 := Aside0.mk hle1; clear hs hb hbl hC1 hle1 HO HIR HC HB HP)
      have HPW := Aside0.mk (places_wf HOK.out)
      have HPL := Aside0.mk (places_len l0)
      have HRP := Aside0.mk (show R = (placesOf l0).foldl (ringStep f l0.length) [] by rw [HR.out, HF.out]; rfl)
      clear HR HLN
      obtain ⟨P, hP⟩ : ∃ P, P = placesOf l0 := ⟨_, rfl⟩
      rw [← hP] at HPW HPL HRP HC1 HL1 ⊢
      clear hP
      go_loopg [8, 33] P.length (fun kq v8 v33 w' => ∃ (i : Nat) (out : List (List Int)), v33 = .int .i64 (i : Int) ∧ Aside0 (kq + i = P.length) ∧ Aside0 (Kd.S (Kd.slice 3 (Kd.int .i64)) 33 w' w5.heap.size (fun _ => True) v8 out) ∧ Aside0 (out = (P.take i).foldl (ringStep f l0.length) []) ∧ Aside0 (out.length ≤ i) ∧ Aside0 (Below w5.heap.size w5 w'))
      case atStart => exact ⟨0, [], rfl, ⟨rfl⟩, ⟨Kd.S_nil _ _ _ _ _⟩, ⟨rfl⟩, ⟨Nat.le_refl _⟩, ⟨Below.refl _ _⟩⟩
      case round =>
        obtain ⟨i, out, rfl, HK, HO, HOE, HOL, HB6⟩ := hrel
        by_cases hi : i < P.length
        · obtain ⟨k1, rfl⟩ : ∃ k1, gk = k1 + 1 := ⟨gk - 1, by have := HK.out; omega⟩
          have hc : decide ((i : Int) < (P.length : Int)) = true := decide_eq_true (by omega)
          have p1 : (0 ≤ (i : Int)) = True := eq_true (by omega)
          have q1 : ((i : Int) < (P.length : Int)) = True := eq_true (by omega)
          obtain ⟨ad, e1, hx0⟩ := Kd.at_int (Kd.C_below HC1.out HB6.out) (i : Int) (by omega) (by omega)
          subst e1
          rw [Int.toNat_natCast] at hx0
          have hat : P.getD i 0 ∈ P := by
            rw [List.getD_eq_getElem?_getD, List.getElem?_eq_getElem hi]
            exact List.getElem_mem hi
          have HW := Aside0.mk (HPW.out _ hat)
          have HFT := Aside0.mk (foldl_take (ringStep f l0.length) [] P 0 i hi)
          rw [← HOE.out] at HFT
          have hw := wrap_succ i P.length hi (by have := HPL.out; have := HN0.out; omega)
          have HI := Aside0.mk hi
          clear hi hat
          rw [show rd P (i : Int) = P.getD i 0 by simp [rd]] at hx0
          obtain ⟨at_, hat⟩ : ∃ z, z = P.getD i 0 := ⟨_, rfl⟩
          rw [← hat] at hx0 HW HFT
          clear hat
          obtain ⟨q, hq⟩ : ∃ q, q = ringF f at_ l0.length [] (f at_) := ⟨_, rfl⟩
          have HQ := Aside0.mk hq
          have HFT2 := Aside0.mk (show (P.take (i + 1)).foldl (ringStep f l0.length) [] = if q.length = 0 then out else if Lib.minOf q = at_ then out ++ [q] else out by rw [HFT.out, ringStep, hq])
          clear hq HFT HOE
          by_cases h0 : q.length = 0
          · have hq0 : decide ((0 : Int) < (q.length : Int)) = false := decide_eq_false (by omega)
            have hq1 : (0 < q.length) = False := eq_false (by omega)
            have HE := Aside0.mk (show (P.take (i + 1)).foldl (ringStep f l0.length) [] = out by rw [HFT2.out, if_pos h0])
            clear h0
            go_wp2_with (go_at_call 11; refine (moves_ring.calls b n l0.length f at_ _ (HM5.out.block (HB6.out.block b HM5.out.lt)) (fun x y h => srcs_wf HOK.out x y (by rw [← HF.out]; exact h)) HW.out (fun x => by rw [HF.out]; exact srcs_self l0 x) (keysOf l0) (fun y h => (keys_iff l0 y).2 (by rw [← HF.out]; exact h)) (keys_len l0) HN0.out).mono ?_; rintro e w7 ⟨v7, rfl, hR7, hb7⟩; rw [← HQ.out] at hR7; obtain ⟨A2, c2, e2, hle2, hC2⟩ := Kd.R_reads hR7; subst e2; have HR7 := Aside0.mk hR7; have HB7 := Aside0.mk hb7; clear hR7 hb7 hle2 hC2)
            go_roundg k1
            case measure => omega
            case rel => exact ⟨i + 1, out, by rw [hw], ⟨by have := HK.out; omega⟩, ⟨Kd.S_below HO.out HB7.out⟩, ⟨HE.out.symm⟩, ⟨by have := HOL.out; omega⟩, ⟨below_step HB6.out HB7.out⟩⟩
          · have hq0 : decide ((0 : Int) < (q.length : Int)) = true := decide_eq_true (by omega)
            have hq1 : (0 < q.length) = True := eq_true (by omega)
            have HNE := Aside0.mk h0
            by_cases hm : Lib.minOf q = at_
            · have hmb : (Lib.minOf q == at_) = true := by simp [hm]
              have HE := Aside0.mk (show (P.take (i + 1)).foldl (ringStep f l0.length) [] = out ++ [q] by rw [HFT2.out, if_neg h0, if_pos hm])
              clear h0 hm
              go_wp2_with (first
                | (go_at_call 11; refine (moves_ring.calls b n l0.length f at_ _ (HM5.out.block (HB6.out.block b HM5.out.lt)) (fun x y h => srcs_wf HOK.out x y (by rw [← HF.out]; exact h)) HW.out (fun x => by rw [HF.out]; exact srcs_self l0 x) (keysOf l0) (fun y h => (keys_iff l0 y).2 (by rw [← HF.out]; exact h)) (keys_len l0) HN0.out).mono ?_; rintro e w7 ⟨v7, rfl, hR7, hb7⟩; rw [← HQ.out] at hR7; obtain ⟨A2, c2, e2, hle2, hC2⟩ := Kd.R_reads hR7; subst e2; have HR7 := Aside0.mk hR7; have HB7 := Aside0.mk hb7; clear hR7 hb7 hle2 hC2)
                | (go_at_call 12; (refine (Sh.min _ _ (fun _ => True) _ q (fun e => HNE.out (by rw [e]; rfl)) HR7.out).mono ?_; rintro e w8 ⟨rfl, rfl⟩))
                | ((with_reducible refine gate_builtin (b := .append) (xs := #[.tmp 49, .tmp 51]) rfl ?_); at_builtin; refine Kd.S_append (Kd.slice 3 (Kd.int .i64)) (w0 := w5) w5.heap.size rfl (.tmp 49) (.tmp 51) 26 33 (.slice none 0 0) 24 rfl Try.underlying26 infoIs rfl (by decide) (by omega) u8 out q [.slice A2 q.length c2] (fun _ => True) (fun k => some k = (Value.slice A2 q.length c2).ownBlock) rfl rfl ?aP ?aQ ?aF ?aO ?aB ?aS ?aL ?_; (case aP => exact Kd.M_row (Kd.R_lower (Kd.R_tight rfl HR7.out) HB6.out.size)); (case aQ => exact fun k hk => ⟨trivial, fun e => by have h1 := Kd.R_base HR7.out k hk.symm; have h2 := Kd.R_lt (Kd.S_R HO.out) k e.symm; omega⟩); (case aF => exact fun _ _ => trivial); (case aO => exact Kd.S_mono (Kd.S_old HO.out HB7.out) (fun k hk => ⟨trivial, fun e => by have h1 := Kd.R_base HR7.out k e.symm; have := hk.2; omega⟩)); (case aB => exact below_step HB6.out HB7.out); (case aS => exact Nat.le_trans HB6.out.size HB7.out.size); (case aL => have := HOL.out; have := HI.out; have := HPL.out; have := HN0.out; omega); intro v9 w9 ho hb hg hat; have HO9 := Aside0.mk ho; have HB9 := Aside0.mk hb; clear ho hb hg hat))
              go_roundg k1
              case measure => omega
              case rel => exact ⟨i + 1, out ++ [q], by rw [hw], ⟨by have := HK.out; omega⟩, ⟨HO9.out⟩, ⟨HE.out.symm⟩, ⟨by have := HOL.out; simp; omega⟩, ⟨HB9.out⟩⟩
            · have hmb : (Lib.minOf q == at_) = false := by simp [hm]
              have HE := Aside0.mk (show (P.take (i + 1)).foldl (ringStep f l0.length) [] = out by rw [HFT2.out, if_neg h0, if_neg hm])
              clear h0 hm
              go_wp2_with (first
                | (go_at_call 11; refine (moves_ring.calls b n l0.length f at_ _ (HM5.out.block (HB6.out.block b HM5.out.lt)) (fun x y h => srcs_wf HOK.out x y (by rw [← HF.out]; exact h)) HW.out (fun x => by rw [HF.out]; exact srcs_self l0 x) (keysOf l0) (fun y h => (keys_iff l0 y).2 (by rw [← HF.out]; exact h)) (keys_len l0) HN0.out).mono ?_; rintro e w7 ⟨v7, rfl, hR7, hb7⟩; rw [← HQ.out] at hR7; obtain ⟨A2, c2, e2, hle2, hC2⟩ := Kd.R_reads hR7; subst e2; have HR7 := Aside0.mk hR7; have HB7 := Aside0.mk hb7; clear hR7 hb7 hle2 hC2)
                | (go_at_call 12; (refine (Sh.min _ _ (fun _ => True) _ q (fun e => HNE.out (by rw [e]; rfl)) HR7.out).mono ?_; rintro e w8 ⟨rfl, rfl⟩)))
              go_roundg k1
              case measure => omega
              case rel => exact ⟨i + 1, out, by rw [hw], ⟨by have := HK.out; omega⟩, ⟨Kd.S_below HO.out HB7.out⟩, ⟨HE.out.symm⟩, ⟨by have := HOL.out; omega⟩, ⟨below_step HB6.out HB7.out⟩⟩
        · have hc : decide ((i : Int) < (P.length : Int)) = false := decide_eq_false (by omega)
          have HE := Aside0.mk (show out = R by rw [HOE.out, List.take_of_length_le (by omega), HRP.out])
          clear HOE
          go_wp2
          go_ret2
          exact ⟨_, rfl, by rw [← HE.out]; exact Kd.S_lower HO.out HB5.out.size, below_step HB5.out HB6.out⟩
end Go.Proofs.Ytaklfdlcedlmfaa.XM
