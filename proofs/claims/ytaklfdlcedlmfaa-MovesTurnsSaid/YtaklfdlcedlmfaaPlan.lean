/- Plan where it answers moves: the walk. -/
import Derived.Test.YtaklfdlcedlmfaaPlanPure
namespace Go.Proofs.Ytaklfdlcedlmfaa.XM
open Go.RowKit Go.Proofs.YtaklfdlcedlmfaaW.PrintWords Go.Proofs.YtaklfdlcedlmfaaW.PrintLast Go.Proofs.YtaklfdlcedlmfaaW.PrintMore
open Mo
attribute [local go_sem] max2_int min2_int max_two min_two max_three min_three max_four min_four   -- for this text's walks alone
set_option linter.unusedVariables false
set_option linter.unusedSimpArgs false
theorem mayP_parts {l : List Mv} {temp : Int} (h : mayP l temp = true) : okM l = true ∧ away temp = false ∧ l.any (hits temp) = false := by
  unfold mayP at h
  simp only [Bool.and_eq_true, Bool.not_eq_true'] at h
  exact ⟨h.1.1, h.1.2, h.2⟩
theorem Coll.perm0 {l : List Mv} (hok : okM l = true) {left : Int → Bool} {ss : List Int} (h : Coll (srcs l) left ss) (hl : ∀ x, Wf x → left x = false) : ss.Perm (keysOf l) := by
  refine (List.perm_ext_iff_of_nodup h.1 (keys_nodup (okM_facts hok).2)).2 fun x => ?_
  constructor
  · intro hx
    exact (keys_iff l x).2 ((h.2.2 x (h.2.1 x hx)).1 hx).1
  · intro hx
    have hw := keys_wf hok hx
    exact (h.2.2 x hw).2 ⟨(keys_iff l x).1 hx, hl x hw⟩
set_option maxHeartbeats 8000000 in
set_option maxRecDepth 100000 in
theorem moves_Plan.good (A0 : Option Addr) (c0 : Nat) (l0 : List Mv) (temp : Int) (w : World) (hr0 : Kd.C k25 w A0 l0.length l0) (hc0 : l0.length ≤ c0) (hn0 : l0.length ≤ 1000) (hmay : mayP l0 temp = true) :
    Calls Try.prog 5 #[.slice A0 l0.length c0, .int .i64 temp] w fun e w' => ∃ v, e = .returned (.tuple #[v, .nilIface]) ∧ ROut w' w.heap.size v (planOf l0 temp) ∧ Below w.heap.size w w' := by
  obtain ⟨hok, ha, hh⟩ := mayP_parts hmay
  have hmf : ∀ (fn : Fn) (first cap : Array Value) (w : World), (Instr.makeFunc fn first cap).run Try.prog w = .ok (.func fn first cap) w := fun _ _ _ _ => rfl
  have CC := Aside0.mk (fun (W : World) (hb : Below w.heap.size w W) => moves_Rings.good A0 c0 l0 W (Kd.C_below hr0 hb) hc0 (by omega) hok)
  have CH := Aside0.mk (fun (tp : Nat) (W : World) (hb : Below w.heap.size w W) (h1 : tp < W.heap.size) (h2 : W.cell? ⟨tp, 0, none⟩ = some (.int .i64 temp)) => hit.calls temp tp A0 c0 l0 W (Kd.C_below hr0 hb) (by omega) h1 h2)
  have CS := Aside0.mk (fun (W : World) (hb : Below w.heap.size w W) => moves_sources.calls A0 c0 l0 W (Kd.C_below hr0 hb) hc0 (okM_good hok) (by omega))
  have HR0 := Aside0.mk hr0
  have HC0 := Aside0.mk hc0
  have HN0 := Aside0.mk hn0
  have HOK := Aside0.mk hok
  have HA := Aside0.mk ha
  have HH := Aside0.mk hh
  clear hr0 hc0 hn0 hok ha hh hmay
  obtain ⟨f, hf⟩ : ∃ f, f = srcs l0 := ⟨_, rfl⟩
  have HF := Aside0.mk hf
  clear hf
  obtain ⟨F, hF⟩ : ∃ F, F = planOf l0 temp := ⟨_, rfl⟩
  rw [← hF]
  have HFF := Aside0.mk hF
  clear hF
  go_enter Try.func5, Try.ntmps5
  go_wp2_with (first
    | ((with_reducible refine gate_dst (N := 3) rfl ?_); refine box_event ?hg (N := 3) ?hd (cs := #[.int .i64 temp]) (t := 3) ?hr ?_; (case hd => rfl); (case hg => rfl); (case hr => first | (go_simp; done) | (go_simp; rfl)); intro gb hg w1 hbox hb; have HB := Aside0.mk hb; have HX := Aside0.mk hbox; clear hg hbox hb)
    | ((with_reducible refine gate_dst (N := 36) rfl ?_); refine box_event ?hg (N := 36) ?hd (cs := #[.map (some bf), .map (some bu), .slice none 0 0]) (t := 51) ?hr ?_; (case hd => rfl); (case hg => rfl); (case hr => first | (go_simp; done) | (go_simp; rfl)); intro p hg w6 hbox hb; have HP6 := Aside0.mk (show PL w6 p bf bu (.slice none 0 0) from hbox); have HPG := Aside0.mk (show w3.heap.size ≤ p by rw [hg]; exact HB5.out.size); have HB6 := Aside0.mk (below_step HB5.out hb); have HMF6 := Aside0.mk (HMF5.out.block (hb.block bf HMF5.out.lt)); have HMU6 := Aside0.mk (HMU5.out.block (hb.block bu HMU5.out.lt)); have hx0 := HP6.out.c0; have hx1 := HP6.out.c1; have hx2 := HP6.out.c2; clear hg hbox hb)
    | ((with_reducible refine gate_dst (N := 34) rfl ?_); refine wp_make _ rfl rfl ?_; intro w5 bu hg hm hb; have HUG := Aside0.mk (show w3.heap.size ≤ bu by rw [← hg]; exact HB4.out.size); have HNE := Aside0.mk (show bf ≠ bu from fun e => by have := HMF4.out.lt; omega); have HB5 := Aside0.mk (below_step HB4.out hb); have HMF5 := Aside0.mk (HMF4.out.block (hb.block bf HMF4.out.lt)); have HMU5 := Aside0.mk hm; clear hg hm hb)
    | (go_at_call 4; refine (CC.out _ HB.out).mono ?_; rintro e w2 ⟨v2, rfl, hs, hb⟩; have HB2 := Aside0.mk (below_step HB.out hb); have HX2 := Aside0.mk ((hb.block gb (blk_lt HX.out)).trans HX.out); have hx := (blk_cell HX2.out 0).trans rfl; have HS2 := Aside0.mk hs; clear hb hs; rw [errW_none])
    | (go_at_call 13; (refine (aw.calls temp _).mono ?_; rintro e w8 ⟨rfl, ⟨nd, rfl⟩⟩; rw [HA.out]))
    | (go_at_call 14; refine (CH.out gb _ ?ga ?gb ?gc).mono ?_; (case ga => repeat (first | exact HB2.out | apply pw_below_drewN)); (case gb => exact blk_lt HX2.out); (case gc => exact (blk_cell HX2.out 0).trans rfl); rintro e w3 ⟨rfl, hb⟩; have HB3 := Aside0.mk (below_step (by repeat (first | exact HB2.out | apply pw_below_drewN)) hb); have HX3 := Aside0.mk ((hb.block gb (blk_lt HX2.out)).trans HX2.out); have HS3 := Aside0.mk (Kd.S_below (Kd.S_drewN HS2.out nd) hb); clear hb; rw [HH.out])
    | (go_at_call 9; refine (CS.out _ HB3.out).mono ?_; rintro e w4 ⟨bf, nf, rfl, hm, hn, hbb, hb⟩; rw [← HF.out] at hm; have HMF4 := Aside0.mk hm; have HNF := Aside0.mk hn; have HFG := Aside0.mk hbb; have HB4 := Aside0.mk hb; clear hm hn hbb hb)
    | ((with_reducible refine gate_dst (N := 41) rfl ?_); refine wp_range _ rfl _ rfl bf nf f rfl HMF6.out ?_; intro w7 r cnt hr hcn hir hb; have HIR := Aside0.mk hir; have HCN := Aside0.mk hcn; have HRB := Aside0.mk (show w3.heap.size ≤ r by have := HB6.out.size; omega); have HRU := Aside0.mk (show bu ≠ r from fun e => by have := HMU6.out.lt; omega); have HRP := Aside0.mk (show p ≠ r from fun e => by have := HP6.out.lt; omega); have HB7 := Aside0.mk (below_step HB6.out hb); have HMU7 := Aside0.mk (HMU6.out.block (hb.block bu HMU6.out.lt)); have HP7 := Aside0.mk (HP6.out.block (hb.block p HP6.out.lt)); clear hr hcn hir hb))
  go_simp
  go_loopg [10] cnt (fun kq v10 w' => ∃ (ss : List Int) (left : Int → Bool) (nu : Nat), Aside0 (IR w' bf r nf f left kq) ∧ Aside0 (Coll f left ss) ∧ Aside0 (IM w' bu nu (usesL f ss)) ∧ Aside0 (nu ≤ ss.length) ∧ Aside0 (PL w' p bf bu (.slice none 0 0)) ∧ Aside0 (Below w3.heap.size w3 w'))
  case atStart => exact ⟨[], _, 0, HIR, ⟨Coll.start f⟩, ⟨HMU7.out⟩, ⟨Nat.le_refl _⟩, HP7, HB7⟩
  case round =>
    clear HIR HMU7 HP7 HB7 hx0 hx1 hx2
    obtain ⟨ss, left, nu, HIR, HC, HMU, HNU, HP, HB⟩ := hrel
    have HLN := Aside0.mk (show ss.length ≤ l0.length from (show Coll (srcs l0) left ss by rw [← HF.out]; exact HC.out).len)
    go_wp2_with ((with_reducible refine gate_dst (N := 42) rfl ?_); refine wp_next _ rfl _ rfl bf r nf f left gk rfl HIR.out ?done ?more)
    case more =>
      intro y c w8 k1 hy hc hl hfy hir hlt hgr hsz hen
      have HIR8 := Aside0.mk hir
      have HC8 := Aside0.mk (HC.out.step hy hl hfy)
      have HB8 := Aside0.mk (HB.out.grown hgr HB.out.size (fun k hk => by cases hk; exact HRB.out))
      have HMU8 := Aside0.mk (HMU.out.block (hgr.block bu HMU.out.lt (fun e => HRU.out (Option.some.inj e))))
      have HP8 := Aside0.mk (HP.out.block (hgr.block p HP.out.lt (fun e => HRP.out (Option.some.inj e))))
      have HLT := Aside0.mk hlt
      have HY := Aside0.mk hy
      have HCW := Aside0.mk hc
      have HFY := Aside0.mk hfy
      have hx1 := HP8.out.c1
      obtain ⟨z, hz⟩ : ∃ z, z = (usesL f ss c).getD 0 := ⟨_, rfl⟩
      have HZ := Aside0.mk hz
      have hzb : 0 ≤ z ∧ z ≤ 1000 := by
        rw [hz, usesL_get]
        have h1 := List.length_filter_le (fun y => f y == some c) ss
        have h2 := HLN.out
        have h3 := HN0.out
        omega
      have HYWR := Aside0.mk (show wrap64 (z + 1) = z + 1 by unfold wrap64; omega)
      have HYW := Aside0.mk (show Wf (z + 1) from wf_small (by omega) (by omega))
      clear hy hc hl hfy hir hlt hgr hsz hz hzb HIR HC HB HMU HP
      go_wp2_with (first
        | (at_lookup; refine wp_look _ rfl _ _ rfl bu nu (usesL f ss) rfl HMU8.out c rfl HCW.out ?_; rw [← HZ.out])
        | (at_mapUpdate; refine wp_upd _ rfl _ _ _ rfl bu nu (usesL f ss) rfl HMU8.out (by have := HNU.out; have := HLN.out; have := HN0.out; omega) c (wrap64 (z + 1)) rfl rfl HCW.out (by rw [HYWR.out]; exact HYW.out) ?_; intro w9 hm9 ht9; rw [HYWR.out] at hm9; have HMU9 := Aside0.mk hm9; have HIR9 := Aside0.mk (HIR8.out.block (ht9.grown.block bf HIR8.out.im.lt (fun e => HNE.out (Option.some.inj e))) (ht9.grown.block r HIR8.out.ltr (fun e => HRU.out (Option.some.inj e).symm))); have HP9 := Aside0.mk (HP8.out.turn HMU8.out ht9); have HB9 := Aside0.mk (below_turned HB8.out HUG.out ht9); clear hm9 ht9))
      go_roundg k1
      case measure => exact HLT.out
      case rel => exact ⟨ss ++ [y], _, nu + 1, HIR9, HC8, ⟨by rw [usesL_step f ss y c HFY.out, ← HZ.out]; exact HMU9.out⟩, ⟨by have := HNU.out; simp; omega⟩, HP9, HB9⟩
    case done =>
      intro hl
      have HUS := Aside0.mk (show usesL f ss = usesL f (keysOf l0) from usesL_perm ((show Coll (srcs l0) left ss by rw [← HF.out]; exact HC.out).perm0 HOK.out hl))
      have HMF := Aside0.mk HIR.out.im
      rw [HUS.out] at HMU
      have HLR := Aside0.mk (show (ringsOf l0).length ≤ l0.length from rings_count l0)
      have HRR := Aside0.mk (fun (q : List Int) (h : q ∈ ringsOf l0) => rings_len h)
      obtain ⟨s0, hs0⟩ : ∃ s0, s0 = (f, usesL f (keysOf l0), ([] : List Mv)) := ⟨_, rfl⟩
      have HS0 := Aside0.mk hs0
      have HFE := Aside0.mk (show F = turnsOf (ringsOf l0) temp (dosOf l0 s0).2.2 by rw [HFF.out, planOf, hs0, HF.out])
      clear hs0
      obtain ⟨RR, hRR⟩ : ∃ R, R = ringsOf l0 := ⟨_, rfl⟩
      rw [← hRR] at HLR HRR HFE HS3
      clear hRR HFF HS2 CC CH CS hl HC HIR
      obtain ⟨A2, c2, e2⟩ := Kd.S_slice HS3.out
      subst e2
      obtain ⟨B, hB⟩ : ∃ B, B = wr.heap.size := ⟨_, rfl⟩
      have H0 := Aside0.mk (And.intro HPG.out (show w3.heap.size ≤ B by rw [hB]; exact HB.out.size))
      have HPB := Aside0.mk (show p < B by rw [hB]; exact HP.out.lt)
      have HBW := Aside0.mk (Nat.le_of_eq hB)
      have HU0 := Aside0.mk (show UB 1000 (usesL f (keysOf l0)) from fun x => by
        rw [usesL_get]
        have h1 := List.length_filter_le (fun y => f y == some x) (keysOf l0)
        have h2 := keys_len l0
        have h3 := HN0.out
        omega)
      clear hB
      go_wp2
      go_loopg [55] l0.length (fun kq v55 w' => ∃ (i nf' nu' : Nat) (f' u' : Int → Option Int) (v' : Value) (out' : List Mv) (K' : List Int), v55 = .int .i64 (i : Int) ∧ Aside0 (kq + i = l0.length) ∧ Aside0 ((f', u', out') = dosOf (l0.take i) s0) ∧ Aside0 (PL w' p bf bu v') ∧ Aside0 (IM w' bf nf' f') ∧ Aside0 (IM w' bu nu' u') ∧ Aside0 (ROut w' B v' out') ∧ Aside0 (nu' ≤ 1000 + 1000 * i ∧ out'.length ≤ 1000 + 1000 * i ∧ UB (1000 + 1000 * i) u') ∧ Aside0 (∀ x y, f' x = some y → Wf y) ∧ Aside0 (∀ y, (f' y).isSome = true → y ∈ K') ∧ Aside0 (K'.length ≤ 1000) ∧ Aside0 (Below w3.heap.size w3 w') ∧ Aside0 (B ≤ w'.heap.size))
      case atStart => exact ⟨0, nf, nu, f, usesL f (keysOf l0), .slice none 0 0, [], keysOf l0, rfl, ⟨rfl⟩, ⟨HS0.out.symm⟩, HP, HMF, HMU, ⟨Kd.R_nil _ _ _ _ _⟩, ⟨by have := HNU.out; have := HLN.out; have := HN0.out; omega, by simp, HU0.out⟩, ⟨fun x y h => srcs_wf HOK.out x y (by rw [← HF.out]; exact h)⟩, ⟨fun y h => (keys_iff l0 y).2 (by rw [← HF.out]; exact h)⟩, ⟨by have := keys_len l0; have := HN0.out; omega⟩, HB, HBW⟩
      case round =>
        clear HP HMF HMU HB HBW HNU
        obtain ⟨i, nf', nu', f', u', v', out', K', rfl, HK, HE, HP, HMF, HMU, HR, HBD, HFV, HKK, HKL, HB, HBW⟩ := hrel
        by_cases hi : i < l0.length
        · obtain ⟨k1, rfl⟩ : ∃ k1, gk = k1 + 1 := ⟨gk - 1, by have := HK.out; omega⟩
          have hc : decide ((i : Int) < (l0.length : Int)) = true := decide_eq_true (by omega)
          have p1 : (0 ≤ (i : Int)) = True := eq_true (by omega)
          have q1 : ((i : Int) < (l0.length : Int)) = True := eq_true (by omega)
          obtain ⟨ad, e1, hx0, hx1⟩ := at_T25 (Kd.C_below (Kd.C_below HR0.out HB3.out) HB.out) (i : Int) (by omega) (by omega)
          cases e1
          rw [Int.toNat_natCast] at hx0 hx1
          have HG := Aside0.mk (okM_good HOK.out i hi)
          have HT := Aside0.mk (show dosOf (l0.take (i + 1)) s0 = doF 1000 f' u' out' (rd_T25 l0 (i : Int)).f0 by
            unfold dosOf
            rw [foldl_take _ _ l0 z25 i hi]
            have h := HE.out
            unfold dosOf at h
            rw [← h]
            simp [rd_T25])
          have hw := wrap_succ i l0.length hi (by have := HN0.out; omega)
          have HI := Aside0.mk hi
          clear hi HE
          obtain ⟨m, hm⟩ : ∃ m, m = rd_T25 l0 (i : Int) := ⟨_, rfl⟩
          rw [← hm] at hx0 hx1 HG HT
          clear hm
          have CD := Aside0.mk (fun (W : World) (hb : Below wr.heap.size wr W) => moves_do.calls 1000 (1000 + 1000 * i) B p bf bu nf' nu' f' u' v' out' m.f0 w3 W (below_step HB.out hb) HPG.out HFG.out HUG.out H0.out.2 (Nat.le_trans HBW.out hb.size) HNE.out (HP.out.block (hb.block p HP.out.lt)) (HMF.out.block (hb.block bf HMF.out.lt)) (HMU.out.block (hb.block bu HMU.out.lt)) (Kd.R_below HR.out hb) HBD.out.1 HBD.out.2.1 HBD.out.2.2 (by have := HI.out; have := HN0.out; omega) HG.out.1 HFV.out K' HKK.out HKL.out)
          go_wp2_with (first
            | ((with_reducible refine gate_dst (N := 12) rfl ?_); refine box_event ?hg (N := 12) ?hd (cs := #[.int .i64 0, .int .i64 0]) (t := 25) ?hr ?_; (case hd => rfl); (case hg => rfl); (case hr => first | (go_simp; done) | (go_simp; rfl)); intro g2 hg w8 hbox hb; have HGE := Aside0.mk (Nat.le_of_eq hg.symm); have HB8 := Aside0.mk hb; have hcz0 : w8.cell? ⟨g2, 0, none⟩ = some (.int .i64 0) := (blk_cell hbox 0).trans rfl; have hcz1 : w8.cell? ⟨g2, 1, none⟩ = some (.int .i64 0) := (blk_cell hbox 1).trans rfl; have hfz0 := blk_frozen hbox 0; have hfz1 := blk_frozen hbox 1; clear hb hbox hg)
            | (go_at_call 16; refine (CD.out _ ?hs).mono ?_; (case hs => exact below_set (below_set HB8.out HGE.out) HGE.out); rintro e w10 ⟨rfl, nf2, nu2, v2, g1, g2', g3, g4, g5, g6, g7, g8, ⟨K2, g9, g10⟩, g11, g12, _⟩; have G := Aside0.mk (And.intro g1 (And.intro g2' (And.intro g3 (And.intro g4 (And.intro g5 (And.intro g6 (And.intro g7 (And.intro g8 (And.intro g9 (And.intro g10 (And.intro g11 g12))))))))))); clear g1 g2' g3 g4 g5 g6 g7 g8 g9 g10 g11 g12))
          go_roundg k1
          case measure => omega
          case rel =>
            obtain ⟨g1, g2', g3, g4, g5, g6, g7, g8, g9, g10, g11, g12⟩ := G.out
            have hT := HT.out
            clear CD
            generalize doF 1000 f' u' out' m.f0 = D at hT g2' g3 g4 g6 g7 g8 g9
            exact ⟨i + 1, nf2, nu2, D.1, D.2.1, v2, D.2.2, K2, by rw [hw], ⟨by have := HK.out; omega⟩, ⟨hT.symm⟩, ⟨g1⟩, ⟨g2'⟩, ⟨g3⟩, ⟨g4⟩, ⟨by omega, by omega, g7.mono (by omega)⟩, ⟨g8⟩, ⟨g9⟩, ⟨g10⟩, ⟨g11⟩, ⟨g12⟩⟩
        · have hc : decide ((i : Int) < (l0.length : Int)) = false := decide_eq_false (by omega)
          have HOE := Aside0.mk (show out' = (dosOf l0 s0).2.2 by
            have h := HE.out
            rw [List.take_of_length_le (by omega)] at h
            rw [← h])
          have HLO2 := Aside0.mk (show out'.length ≤ 1001000 by have := HBD.out.2.1; have := HK.out; have := HN0.out; omega)
          go_wp2
          go_loopg [66] RR.length (fun kq v66 w' => ∃ (i : Nat) (v' : Value) (out' : List Mv), v66 = .int .i64 (i : Int) ∧ Aside0 (kq + i = RR.length) ∧ Aside0 (out' = turnsOf (RR.take i) temp (dosOf l0 s0).2.2) ∧ Aside0 (PL w' p bf bu v') ∧ Aside0 (ROut w' B v' out') ∧ Aside0 (out'.length ≤ 1001000 + 1010 * i) ∧ Aside0 (Below w3.heap.size w3 w') ∧ Aside0 (B ≤ w'.heap.size))
          case atStart => exact ⟨0, v', out', rfl, ⟨rfl⟩, HOE, HP, HR, ⟨by have := HLO2.out; omega⟩, HB, HBW⟩
          case round =>
            clear HP HMF HMU HR HB HBW HK HLO2 HBD HFV HKK HKL HE HOE hc
            clear hi
            obtain ⟨i, v', out', rfl, HK, HOE, HP, HR, HLO, HB, HBW⟩ := hrel
            have hx2 := HP.out.c2
            by_cases hi : i < RR.length
            · obtain ⟨k1, rfl⟩ : ∃ k1, gk = k1 + 1 := ⟨gk - 1, by have := HK.out; omega⟩
              have hc : decide ((i : Int) < (RR.length : Int)) = true := decide_eq_true (by omega)
              have p1 : (0 ≤ (i : Int)) = True := eq_true (by omega)
              have q1 : ((i : Int) < (RR.length : Int)) = True := eq_true (by omega)
              obtain ⟨ad, ea, _⟩ := (Kd.S_reads' HS3.out).2.2.2.2 (by omega)
              subst ea
              obtain ⟨cs, hcl, hM, hcell⟩ := Kd.R_getA (Kd.S_R HS3.out) ([] : List Int) (i : Int) (by omega) (by omega)
              obtain ⟨u, rfl, hRu⟩ := hM
              have hmem : RR.getD i [] ∈ RR := by
                rw [List.getD_eq_getElem?_getD, List.getElem?_eq_getElem hi]
                exact List.getElem_mem hi
              have HQL := Aside0.mk (HRR.out _ hmem)
              have HFT := Aside0.mk (show turnsOf (RR.take (i + 1)) temp (dosOf l0 s0).2.2 = turnF (RR.getD i []) temp (out' ++ [⟨temp, (RR.getD i []).getD 0 0⟩]) by
                unfold turnsOf
                rw [foldl_take _ _ RR [] i hi]
                have h := HOE.out
                unfold turnsOf at h
                rw [← h])
              rw [Int.toNat_natCast] at hRu hcell
              have hw := wrap_succ i RR.length hi (by have := HLR.out; have := HN0.out; omega)
              have HI := Aside0.mk hi
              have HRL := Aside0.mk (show RR.length ≤ 1000 by have := HLR.out; have := HN0.out; omega)
              clear hi hmem HOE
              obtain ⟨q, hq⟩ : ∃ q, q = RR.getD i [] := ⟨_, rfl⟩
              rw [← hq] at hRu HQL HFT
              clear hq
              have hxu := hcell 0 u rfl
              have hxw : wr.cell? (ad.add i) = some u := by
                have h := (HB.out.cell (World.block_lt_of_cell? _ _ hxu)).trans hxu
                have e1 : (Kd.slice 3 (Kd.int .i64)).sz = 1 := rfl
                rw [e1, Nat.mul_one, Nat.add_zero] at h
                exact h
              clear hcell hxu hcl
              obtain ⟨Ar, cr, e3, hler, hCr⟩ := Kd.R_reads hRu
              subst e3
              obtain ⟨adr, e4, hr00⟩ := Kd.at_int hCr 0 (by omega) (by have := HQL.out.1; omega)
              subst e4
              rw [show (0 : Int).toNat = 0 from rfl, show adr.add 0 = adr by unfold Addr.add; rw [if_pos rfl]] at hr00
              have HRU3 := Aside0.mk hRu
              have HLER := Aside0.mk hler
              have HR00 := Aside0.mk hr00
              obtain ⟨n, hn⟩ : ∃ n, n = q.length := ⟨_, rfl⟩
              have HQN := Aside0.mk hn
              rw [← hn] at hxw HLER HQL HRU3
              have q0 : (0 < n) = True := eq_true (by have := HQL.out.1; omega)
              have q2 : ((0 : Int) < (n : Int)) = True := eq_true (by have := HQL.out.1; omega)
              clear hRu hler hr00 hCr hn
              have hxt : wr.cell? ⟨gb, 0, none⟩ = some (.int .i64 temp) := (HB.out.cell (p := ⟨gb, 0, none⟩) (blk_lt HX3.out)).trans ((blk_cell HX3.out 0).trans rfl)
              have HSB17 := Aside0.mk (show ∀ W_, Below B wr W_ → W_.cell? ⟨p, 2, none⟩ = some v' ∧ W_.cell? ⟨gb, 0, none⟩ = some (.int .i64 temp) ∧ W_.cell? adr = some (.int .i64 (rd q 0)) from fun W_ hk => by
                have hb3 : Below w3.heap.size w3 W_ := below_weaken HB.out H0.out.2 hk
                exact ⟨(HP.out.block (hk.block p HPB.out)).c2, (hb3.cell (p := ⟨gb, 0, none⟩) (blk_lt HX3.out)).trans ((blk_cell HX3.out 0).trans rfl), (hb3.cell (World.block_lt_of_cell? _ _ HR00.out)).trans HR00.out⟩)
              go_wp2
              refine start_ (n := 15) (S := fun w' => w'.cell? ⟨p, 2, none⟩ = some (v') ∧ w'.cell? ⟨gb, 0, none⟩ = some (.int .i64 temp) ∧ w'.cell? adr = some (.int .i64 (rd q 0))) (ds := [14]) #[false, false, false, false, false, false, false, false, false, false, false, false, false, false, false] (by kernel_rfl) rfl rfl ⟨(HSB17.out _ ((Below.refl B wr).drew)).1, (HSB17.out _ ((Below.refl B wr).drew)).2.1, (HSB17.out _ ((Below.refl B wr).drew)).2.2⟩ (fun hHeld => ?_)
              refine pure_ (i := 0) (N := some 70) (v := ?_) (a' := ?_) #[true, false, false, false, false, false, false, false, false, false, false, false, false, false, false] rfl rfl (by kernel_rfl) (fun _ _ _ h => h) (Or.inl ⟨by rfl, ?_⟩) ?_ ?_
              rotate_left
              · intro w'
                go_simp
                with_reducible rfl
              rotate_left
              · simp only [Act.put, List.setIfInBounds_toArray, List.set_cons_zero, List.set_cons_succ, i64_w, i32_w]
                rfl
              refine pure_ (i := 1) (N := some 71) (v := ?_) (a' := ?_) #[true, true, false, false, false, false, false, false, false, false, false, false, false, false, false] rfl rfl (by kernel_rfl) (fun _ _ _ h => h) (Or.inl ⟨by rfl, ?_⟩) ?_ ?_
              rotate_left
              · intro w'
                go_simp
                with_reducible rfl
              rotate_left
              · simp only [Act.put, List.setIfInBounds_toArray, List.set_cons_zero, List.set_cons_succ, i64_w, i32_w]
                rfl
              refine pure_ (i := 2) (N := some 72) (v := ?_) (a' := ?_) #[true, true, true, false, false, false, false, false, false, false, false, false, false, false, false] rfl rfl (by kernel_rfl) (fun _ _ _ h => h) (Or.inl ⟨by rfl, ?_⟩) ?_ ?_
              rotate_left
              · intro w'
                go_simp
                with_reducible rfl
              rotate_left
              · simp only [Act.put, List.setIfInBounds_toArray, List.set_cons_zero, List.set_cons_succ, i64_w, i32_w]
                rfl
              refine pure_ (i := 3) (N := some 73) (v := ?_) (a' := ?_) #[true, true, true, true, false, false, false, false, false, false, false, false, false, false, false] rfl rfl (by kernel_rfl) (fun _ _ _ h => h) (Or.inl ⟨by rfl, ?_⟩) ?_ ?_
              rotate_left
              · intro w'
                go_simp
                with_reducible rfl
              rotate_left
              · simp only [Act.put, List.setIfInBounds_toArray, List.set_cons_zero, List.set_cons_succ, i64_w, i32_w]
                rfl
              refine pure_ (i := 6) (N := some 76) (v := ?_) (a' := ?_) #[true, true, true, true, false, false, true, false, false, false, false, false, false, false, false] rfl rfl (by kernel_rfl) (fun _ _ _ h => h) (Or.inl ⟨by rfl, ?_⟩) ?_ ?_
              rotate_left
              · intro w'
                go_simp
                with_reducible rfl
              rotate_left
              · simp only [Act.put, List.setIfInBounds_toArray, List.set_cons_zero, List.set_cons_succ, i64_w, i32_w]
                rfl
              refine pure_ (i := 7) (N := some 77) (v := ?_) (a' := ?_) #[true, true, true, true, false, false, true, true, false, false, false, false, false, false, false] rfl rfl (by kernel_rfl) (fun _ _ _ h => h) (Or.inl ⟨by rfl, ?_⟩) ?_ ?_
              rotate_left
              · intro w'
                go_simp
                with_reducible rfl
              rotate_left
              · simp only [Act.put, List.setIfInBounds_toArray, List.set_cons_zero, List.set_cons_succ, i64_w, i32_w]
                rfl
              refine take_ (i := 4) (N := some 74) (v := ?_) (a' := ?_) #[true, true, true, true, true, false, true, true, false, false, false, false, false, false, false] rfl rfl (by kernel_rfl) (fun _ _ _ h => h) (Or.inl ⟨by rfl, ?_⟩) hHeld ?_ ?_
              rotate_left
              · rintro w' ⟨s0, s1, s2⟩
                go_simp
                with_reducible rfl
              rotate_left
              · simp only [Act.put, List.setIfInBounds_toArray, List.set_cons_zero, List.set_cons_succ, i64_w, i32_w]
                rfl
              refine take_ (i := 5) (N := some 75) (v := ?_) (a' := ?_) #[true, true, true, true, true, true, true, true, false, false, false, false, false, false, false] rfl rfl (by kernel_rfl) (fun _ _ _ h => h) (Or.inl ⟨by rfl, ?_⟩) hHeld ?_ ?_
              rotate_left
              · rintro w' ⟨s0, s1, s2⟩
                go_simp
                with_reducible rfl
              rotate_left
              · simp only [Act.put, List.setIfInBounds_toArray, List.set_cons_zero, List.set_cons_succ, i64_w, i32_w]
                rfl
              refine take_ (i := 8) (N := some 78) (v := ?_) (a' := ?_) #[true, true, true, true, true, true, true, true, true, false, false, false, false, false, false] rfl rfl (by kernel_rfl) (fun _ _ _ h => h) (Or.inl ⟨by rfl, ?_⟩) hHeld ?_ ?_
              rotate_left
              · rintro w' ⟨s0, s1, s2⟩
                go_simp
                with_reducible rfl
              rotate_left
              · simp only [Act.put, List.setIfInBounds_toArray, List.set_cons_zero, List.set_cons_succ, i64_w, i32_w]
                rfl
              refine pure_ (i := 9) (N := some 79) (v := ?_) (a' := ?_) #[true, true, true, true, true, true, true, true, true, true, false, false, false, false, false] rfl rfl (by kernel_rfl) (fun _ _ _ h => h) (Or.inl ⟨by rfl, ?_⟩) ?_ ?_
              rotate_left
              · intro w'
                go_simp
                with_reducible rfl
              rotate_left
              · simp only [Act.put, List.setIfInBounds_toArray, List.set_cons_zero, List.set_cons_succ, i64_w, i32_w]
                rfl
              refine one_ (i := 10) (N := some 80) #[true, true, true, true, true, true, true, true, true, true, true, false, false, false, false] rfl rfl (by kernel_rfl) (by decide) (fun K hK => ?_)
              refine value_ (w1 := ?_) (v := ?_) (by rfl) rfl ?_ ?_
              rotate_left 2
              · go_simp
                constructor
                · rfl
                · rfl
              refine hK.out _ _ ⟨(HSB17.out _ (((Below.refl B wr).drew).alloc HBW.out _)).1, (HSB17.out _ (((Below.refl B wr).drew).alloc HBW.out _)).2.1, (HSB17.out _ (((Below.refl B wr).drew).alloc HBW.out _)).2.2⟩ (fun hHeld => ?_)
              clear hK K
              refine norm_ (a' := ?_) ?_ ?_
              rotate_left
              · show Act.put _ (some 80) _ = _
                simp only [Act.put, List.setIfInBounds_toArray, List.set_cons_zero, List.set_cons_succ, i64_w, i32_w]
                rfl
              refine one_ (i := 11) (N := some 81) #[true, true, true, true, true, true, true, true, true, true, true, true, false, false, false] rfl rfl (by kernel_rfl) (by decide) (fun K hK => ?_)
              refine Kd.R_append_step k25 (w0 := wr.drew) B (by rfl) _ _ 23 25 (.agg #[(.int .i64 0), (.int .i64 0)]) 16 (by rfl) Try.underlying23 info25 rfl (by decide) (by omega) v' out' (⟨temp, rd q 0⟩ : Mv) [.int .i64 (temp), .int .i64 (rd q 0)] (fun _ => True) (fun _ => False) (by rfl) (by rfl) (k25_mkM _ _ _ (⟨temp, rd q 0⟩ : Mv)) (fun _ hk => hk.elim) (fun _ _ => trivial) (Kd.R_drew HR.out) (Below.refl _ _) HBW.out (by have := HLO.out; have := HI.out; have := HRL.out; omega) ?_
              intro v1 w1 ho hb hg hat
              obtain ⟨A1, n1, c1, e1⟩ : ∃ A n c, v1 = .slice A n c := (by obtain ⟨A, c, h, _⟩ := Kd.R_reads ho; exact ⟨A, _, c, h⟩)
              subst e1
              have HR17 := Aside0.mk ho
              have HP17 := Aside0.mk (HP.out.block (hg.block p HP.out.lt (R_ne_PL HR.out HP.out)))
              have HB17 := Aside0.mk (below_weaken (below_drew1 HB.out) H0.out.2 hb)
              have HKB17 := Aside0.mk (KB.trans (fun _ _ _ _ _ => rfl) (show KB B p bf bu wr w1 from fun k h1 _ _ _ => hb.block k h1))
              have HS17 := Aside0.mk (Nat.le_trans HBW.out hb.size)
              have HBL17 := Aside0.mk (show Below B wr w1 from ⟨hb.os, hb.tape, hb.output, hb.size, hb.block⟩)
              have hy2 := HP17.out.c2
              have hz2 := HP17.out.z2
              clear ho hb hg hat
              refine hK.out _ _ ⟨(HSB17.out _ (HBL17.out)).1, (HSB17.out _ (HBL17.out)).2.1, (HSB17.out _ (HBL17.out)).2.2⟩ (fun hHeld => ?_)
              clear hK K
              refine norm_ (a' := ?_) ?_ ?_
              rotate_left
              · show Act.put _ (some 81) _ = _
                simp only [Act.put, List.setIfInBounds_toArray, List.set_cons_zero, List.set_cons_succ, i64_w, i32_w]
                rfl
              refine pure_ (i := 12) (N := some 82) (v := ?_) (a' := ?_) #[true, true, true, true, true, true, true, true, true, true, true, true, true, false, false] rfl rfl (by kernel_rfl) (fun _ _ _ h => h) (Or.inl ⟨by rfl, ?_⟩) ?_ ?_
              rotate_left
              · intro w'
                go_simp
                with_reducible rfl
              rotate_left
              · simp only [Act.put, List.setIfInBounds_toArray, List.set_cons_zero, List.set_cons_succ, i64_w, i32_w]
                rfl
              refine pure_ (i := 13) (N := some 83) (v := ?_) (a' := ?_) #[true, true, true, true, true, true, true, true, true, true, true, true, true, true, false] rfl rfl (by kernel_rfl) (fun _ _ _ h => h) (Or.inl ⟨by rfl, ?_⟩) ?_ ?_
              rotate_left
              · intro w'
                go_simp
                with_reducible rfl
              rotate_left
              · simp only [Act.put, List.setIfInBounds_toArray, List.set_cons_zero, List.set_cons_succ, i64_w, i32_w]
                rfl
              refine last_ (i := 14) (N := none) #[true, true, true, true, true, true, true, true, true, true, true, true, true, true, true] rfl rfl (by kernel_rfl) (by decide) (fun K hK => ?_)
              refine skip_ (w1 := ?_) (by rfl) rfl ?_ ?_
              rotate_left
              · go_simp
                rfl
              refine hK.out _ _ ?_
              clear hK K
              refine done_ (by kernel_rfl) ?_

              have HKB2 := Aside0.mk (HKB17.out.set 2 (.slice A1 n1 c1))
              have HP2 := Aside0.mk (HP17.out.put (.slice A1 n1 c1))
              have HR2 := Aside0.mk (R_store (v1 := .slice A1 n1 c1) HR17.out HP17.out)
              have HB2w := Aside0.mk (below_set (j := 2) (v := .slice A1 n1 c1) HB17.out H0.out.1)
              have HS2 := Aside0.mk (show B ≤ (w1.setCell ⟨p, 2, none⟩ (.slice A1 n1 c1)).heap.size by rw [set_size]; exact HS17.out)
              clear HKB17 HP17 HR17 HB17 HS17 hy2 hz2 HSB17 HBL17
              generalize hwe : w1.setCell ⟨p, 2, none⟩ (.slice A1 n1 c1) = w9 at HKB2 HP2 HR2 HB2w HS2 ⊢
              clear hwe
              have hxt9 : w9.cell? ⟨gb, 0, none⟩ = some (.int .i64 temp) := (HB2w.out.cell (p := ⟨gb, 0, none⟩) (blk_lt HX3.out)).trans ((blk_cell HX3.out 0).trans rfl)
              have CT := Aside0.mk (fun (m : Nat) => moves_turn.calls B p bf bu _ _ q temp (some adr) cr w3 (w9.drewN m) (pw_below_drewN HB2w.out m) H0.out.1 H0.out.2 HPB.out HS2.out HP2.out (Kd.R_drewN HR2.out m) (by have := HLO.out; have := HI.out; have := HRL.out; have h1 := HQL.out.2; have := HN0.out; rw [← HQN.out]; simp; omega) (fun W_ hk => by
                have h1 := Kd.R_step (w1 := W_) HRU3.out (fun k _ hk3 => (hk k (by have := H0.out.2; omega) (by have := H0.out.1; omega) (by have := HFG.out; omega) (by have := HUG.out; omega)).trans (HB2w.out.block k hk3))
                exact (Kd.R_reads' h1).2.2) (by rw [← HQN.out]; exact HLER.out) (by rw [← HQN.out]; exact HQL.out.1))
              go_wp2_with (go_at_call 17; rw [HQN.out]; refine (CT.out 0).mono ?_; rintro e w10 ⟨rfl, v2, g1, g2', g3, g4, _⟩; have G := Aside0.mk (And.intro g1 (And.intro g2' (And.intro g3 g4))); clear g1 g2' g3 g4)
              go_roundg k1
              case measure => omega
              case rel =>
                obtain ⟨g1, g2', g3, g4⟩ := G.out
                exact ⟨i + 1, v2, _, by rw [hw], ⟨by have := HK.out; omega⟩, ⟨by rw [HFT.out, show rd q 0 = q.getD 0 0 from rd_nat q 0]⟩, ⟨g1⟩, ⟨g2'⟩, ⟨by have h1 := turnF_len q temp (out' ++ [(⟨temp, rd q 0⟩ : Mv)]); rw [List.length_append] at h1; have h2 := HLO.out; have h3 := HQL.out.2; have h4 := HQN.out; have h5 := HN0.out; simp only [List.length_cons, List.length_nil] at h1; omega⟩, ⟨g3⟩, ⟨g4⟩⟩
            · have hc : decide ((i : Int) < (RR.length : Int)) = false := decide_eq_false (by omega)
              have hF := Aside0.mk (show out' = F by rw [HOE.out, List.take_of_length_le (by omega), HFE.out])
              go_wp2
              go_ret2
              exact ⟨_, rfl, by rw [← hF.out]; exact Kd.R_lower HR.out (Nat.le_trans HB3.out.size H0.out.2), below_step HB3.out HB.out⟩
end Go.Proofs.Ytaklfdlcedlmfaa.XM
