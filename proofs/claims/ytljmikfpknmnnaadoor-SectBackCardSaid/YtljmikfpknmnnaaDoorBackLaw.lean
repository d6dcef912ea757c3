/- SectBack, walked by hand: its one way. -/
import Derived.Test.YtljmikfpknmnnaaDoorBackFacts
import Derived.Test.YtljmikfpknmnnaaDoorSecOpen
namespace Go.Proofs.YtljmikfpknmnnaaDoor.XS
open Go Go.RowKit Go.Proofs.YtljmikfpknmnnaaDoor.M Go.Proofs.YtljmikfpknmnnaaDoor.Leb Go.Proofs.YtljmikfpknmnnaaDoor.Sect Go.Proofs.YtljmikfpknmnnaaDoorW.PrintWords Go.Proofs.YtljmikfpknmnnaaDoorW.PrintLast Go.Proofs.YtljmikfpknmnnaaDoorW.PrintMore
attribute [local go_sem] max2_int min2_int max_two min_two max_three min_three max_four min_four
set_option linter.unusedVariables false
set_option linter.unusedSimpArgs false
set_option maxHeartbeats 8000000 in
set_option maxRecDepth 100000 in
theorem back0 (A0 : Option Addr) (c0 : Nat) (l0 : List S52) (a1 : Int) (w : World) (hr0 : Kd.C k52 w A0 l0.length l0) (hc0 : l0.length ≤ c0) (hLE : LaidE w) (hG : ∀ x ∈ l0, (0 ≤ x.f0 ∧ x.f0 < 256) ∧ BB x.f2) : Calls Tryd.prog 8 #[.slice A0 l0.length c0, .int .i64 a1] w fun e w' => e = .returned (.bool true) ∧ Below w.heap.size w w' := by
  have HG := Aside0.mk hG
  have HLE := Aside0.mk hLE
  clear hG hLE
  have HR0 := Aside0.mk hr0
  have HC0 := Aside0.mk hc0
  clear hr0 hc0
  go_enter Tryd.func8, Tryd.ntmps8
  go_wp2
  go_loopg [5, 6] 101 (fun kq v5 v6 w' => ∃ (xn xi : Int) (n i : Nat), v5 = .int .i64 xn ∧ v6 = .int .i64 xi ∧ Aside0 (xn = (n : Int) ∧ xi = (i : Int)) ∧ Aside0 (i + kq = 101) ∧ Aside0 (i ≤ l0.length) ∧ Aside0 (n = sumB (l0.take i)) ∧ w = w')
  case atStart => exact ⟨0, 0, 0, 0, rfl, rfl, ⟨rfl, rfl⟩, ⟨rfl⟩, ⟨Nat.zero_le _⟩, ⟨rfl⟩, rfl⟩
  case round =>
    obtain ⟨xn, xi, n, i, rfl, rfl, HX, HK1, HI, HN, ew⟩ := hrel
    subst ew
    by_cases c1 : xi < (l0.length : Int)
    · by_cases c2 : xi < 100
      · have HC1 := Aside0.mk c1
        have HC2 := Aside0.mk c2
        have b1 : decide (xi < (l0.length : Int)) = true := decide_eq_true c1
        have b2 : decide (xi < 100) = true := decide_eq_true c2
        have c0_ : 0 ≤ xi := by have := HX.out.2; omega
        have b0 : decide (0 ≤ xi) = true := decide_eq_true c0_
        obtain ⟨ad, A2, c2_, ea, hx0, hx1, hx2, hl2, hi2⟩ := at_T52 HR0.out xi c0_ c1
        cases ea
        have p1 := eq_true c0_
        have q1 := eq_true c1
        clear c0_ c1 c2 hl2 hi2 hx0 hx1
        cases gk with
        | zero => exact absurd HK1.out (by have := HC2.out; have := HX.out.2; omega)
        | succ k1 =>
          go_wp2
          all_goals (
            rename_i hmin
            go_roundg k1
            case measure => have := HK1.out; omega
            case rel =>
              obtain ⟨h1, h2⟩ := HX.out
              have h3 := HC1.out
              have h4 := HC2.out
              have h5 := sumB_take l0 i (by omega)
              have h6 := sumB_le l0 i
              have h7 := HN.out
              subst h1
              subst h2
              refine ⟨_, _, sumB (l0.take (i + 1)), i + 1, rfl, rfl, ⟨?_, ?_⟩, ⟨by have := HK1.out; omega⟩, ⟨by omega⟩, ⟨rfl⟩, rfl⟩
              · rw [Go.Proofs.YtljmikfpknmnnaaDoor.M.w64_in (by omega) (by omega)]; omega
              · rw [Go.Proofs.YtljmikfpknmnnaaDoor.M.w64_in (by omega) (by omega)]; omega)
      · have b1 : decide (xi < (l0.length : Int)) = true := decide_eq_true c1
        have b2 : decide (xi < 100) = false := decide_eq_false c2
        have b3 : decide (50 < (l0.length : Int)) = true := decide_eq_true (by omega)
        clear c1 c2
        go_wp2_with (go_at_call 17; refine (mandrellaw06_sure.calls true _ rfl).mono ?_; rintro e w1 ⟨rfl, hb⟩; have B1 := Aside0.mk hb; clear hb)
        go_ret
        exact ⟨rfl, B1.out⟩
    · have b1 : decide (xi < (l0.length : Int)) = false := decide_eq_false c1
      by_cases c2 : (l0.length : Int) > 50
      · have b3 : decide (50 < (l0.length : Int)) = true := decide_eq_true c2
        clear c1 c2
        go_wp2_with (go_at_call 17; refine (mandrellaw06_sure.calls true _ rfl).mono ?_; rintro e w1 ⟨rfl, hb⟩; have B1 := Aside0.mk hb; clear hb)
        go_ret
        exact ⟨rfl, B1.out⟩
      · have b3 : decide (50 < (l0.length : Int)) = false := decide_eq_false c2
        by_cases c3 : xn > 3000
        · have b4 : decide (3000 < xn) = true := decide_eq_true c3
          clear c1 c2 c3
          go_wp2_with (go_at_call 17; refine (mandrellaw06_sure.calls true _ rfl).mono ?_; rintro e w1 ⟨rfl, hb⟩; have B1 := Aside0.mk hb; clear hb)
          go_ret
          exact ⟨rfl, B1.out⟩
        · have b4 : decide (3000 < xn) = false := decide_eq_false c3
          have HL := Aside0.mk c2
          have HL0 := Aside0.mk c1
          have HL3 := Aside0.mk c3
          clear c1 c2 c3
          go_wp2
          go_loopg [7, 8] (l0.length + 1) (fun kq v7 v8 w' => ∃ (yi : Int) (j : Nat), v8 = .int .i64 yi ∧ Aside0 (yi = (j : Int)) ∧ Aside0 (j + kq = l0.length + 1) ∧ Aside0 (j ≤ l0.length) ∧ Aside0 (Kd.N k53 53 w' w.heap.size (fun _ => True) v7 ((l0.take j).map toS)) ∧ Aside0 (Below w.heap.size w w'))
          case atStart => exact ⟨0, 0, rfl, ⟨rfl⟩, ⟨by omega⟩, ⟨Nat.zero_le _⟩, ⟨Kd.N_nil _ _ _ _ _⟩, ⟨Below.refl _ _⟩⟩
          case round =>
            obtain ⟨yi, j, rfl, HY, HK2, HJ, HO, HB⟩ := hrel
            by_cases c4 : yi < (l0.length : Int)
            · have b5 : decide (yi < (l0.length : Int)) = true := decide_eq_true c4
              have c0_ : 0 ≤ yi := by have := HY.out; omega
              have b6 : decide (0 ≤ yi) = true := decide_eq_true c0_
              obtain ⟨ad, A2, c2_, ea, hx0, hx1, hx2, hl2, hi2⟩ := at_T52 HR0.out yi c0_ c4
              cases ea
              have HC4 := Aside0.mk c4
              replace hx0 := (HB.out.cell (World.block_lt_of_cell? _ _ hx0)).trans hx0
              replace hx1 := (HB.out.cell (World.block_lt_of_cell? _ _ hx1)).trans hx1
              replace hx2 := (HB.out.cell (World.block_lt_of_cell? _ _ hx2)).trans hx2
              have p1 := eq_true c0_
              have q1 := eq_true c4
              have HL2 := Aside0.mk hl2
              have HI2 := Aside0.mk hi2
              clear c0_ c4 hl2 hi2
              cases gk with
              | zero => exact absurd HK2.out (by have := HC4.out; have := HY.out; omega)
              | succ k1 =>
                have HOK : Aside0 (∀ k_, (k_ < w.heap.size) → True ∧ some k_ ≠ (u7 : Value).ownBlock) := ⟨fun k_ hk => ⟨trivial, fun he => by have := Kd.N_base HO.out k_ he.symm; omega⟩⟩
                have HFE : Aside0 (Kd.F (Kd.int .u8) wr (fun k_ => k_ < w.heap.size) A2 (rd_T52 l0 yi).f2.length (rd_T52 l0 yi).f2) := ⟨fun W' hW => (Kd.C_F (Kd.heap_int .u8) HI2.out) W' (fun k hk hlt => (hW k hk (Nat.lt_of_lt_of_le hk (below_size HB.out))).trans (HB.out.block k hk))⟩
                go_wp2_with ((with_reducible refine gate_builtin (b := .append) (xs := #[.tmp 55, .tmp 60]) rfl ?_); (try (refine gate_guard (by rfl) ?_; dsimp only)); at_builtin; refine Kd.N_append k53 (w0 := w) w.heap.size rfl (.tmp 55) (.tmp 60) 41 53 (.agg #[(.int .u8 0), (.int .i64 0), (.slice none 0 0)]) 40 rfl Tryd.underlying41 info53 rfl (by decide) (by omega) u7 ((l0.take j).map toS) (toS (rd_T52 l0 yi)) [.int .u8 (rd_T52 l0 yi).f0, .int .i64 (rd_T52 l0 yi).f1, .slice A2 (rd_T52 l0 yi).f2.length c2_] (fun _ => True) (fun k_ => k_ < w.heap.size) rfl rfl (k53_mkF _ _ (toS (rd_T52 l0 yi)) HL2.out HFE.out) HOK.out (fun _ _ => trivial) HO.out HB.out (below_size HB.out) (by rw [List.length_map, List.length_take]; have := HL.out; omega) ?_; intro v5 w5 ho hb hg hat; have n0_ := Aside0.mk ho; have n1_ := Aside0.mk hb; clear HO HB ho hb hg hat HOK HFE; have HO := n0_; have HB := n1_; clear n0_ n1_)
                go_roundg k1
                case measure => have := HK2.out; omega
                case rel =>
                  have h1 := HY.out
                  have h2 := HC4.out
                  subst h1
                  refine ⟨_, j + 1, rfl, ⟨?_⟩, ⟨by have := HK2.out; omega⟩, ⟨by omega⟩, ⟨?_⟩, HB⟩
                  · rw [Go.Proofs.YtljmikfpknmnnaaDoor.M.w64_in (by omega) (by have := HL.out; omega)]; omega
                  · rw [List.take_succ_eq_append_getElem (by omega), List.map_append, List.map_singleton]
                    have e : rd_T52 l0 (j : Int) = l0[j] := by unfold rd_T52; rw [Int.toNat_natCast, List.getD_eq_getElem?_getD, List.getElem?_eq_getElem (by omega)]; rfl
                    rw [← e]
                    exact HO.out
            · have b5 : decide (yi < (l0.length : Int)) = false := decide_eq_false c4
              have hj : j = l0.length := by have := HY.out; have := HJ.out; omega
              have hn : n = sumB l0 := by
                have h1 := HN.out
                have h2 := HX.out
                rw [List.take_of_length_le (by have := HL0.out; omega)] at h1
                exact h1
              obtain ⟨hb1, hb2⟩ := bk_len l0 (by have := HX.out; have := HL3.out; omega)
              obtain ⟨own, ho⟩ : ∃ own, own = l0.map toS := ⟨_, rfl⟩
              have HOW := Aside0.mk ho
              have HLN : Aside0 (l0.length = own.length) := ⟨by rw [ho, List.length_map]⟩
              have HOK : Aside0 (OkS own) := ⟨by rw [ho]; exact bk_ok HG.out hb2⟩
              have HJL : Aside0 ((joinOf own).length < 100000) := ⟨by rw [ho]; have := HL.out; have := HX.out; have := HL3.out; omega⟩
              have HO2 : Aside0 (Kd.N k53 53 wr w.heap.size (fun _ => True) u7 own) := ⟨by have h := HO.out; rw [hj, List.take_length, ← ho] at h; exact h⟩
              have HRX := Aside0.mk HR0.out
              clear HO HY HJ HK2 HX HN HI HK1 hj hn HL0 HL3 c4 hb1 hb2 ho
              obtain ⟨A1, cc1, eo⟩ := Kd.N_slice HO2.out
              obtain ⟨m1, hm1⟩ : ∃ m1, m1 = own.length := ⟨_, rfl⟩
              rw [← hm1] at eo
              subst eo
              have HM1 := Aside0.mk hm1
              have HR1 : Aside0 (Kd.C k53 wr A1 m1 own) := ⟨by rw [hm1]; exact (Kd.N_reads' (by have h := HO2.out; rw [hm1] at h; exact h)).2.2⟩
              have HC1 : Aside0 (m1 ≤ cc1) := ⟨by rw [hm1]; exact (Kd.N_reads' (by have h := HO2.out; rw [hm1] at h; exact h)).2.1⟩
              clear hm1
              by_cases hw : walkOk 0 own = true
              · have hB1 := Aside0.mk HB.out
                go_wp2_with fail
                refine (joinW_ok own HOK.out (by have := HJL.out; omega) hw A1 m1 cc1 HM1.out _ HR1.out HC1.out).mono ?_
                rintro e w1 ⟨Ab, L, cb, hL, rfl, CB, leb, B1⟩
                obtain ⟨n0, hn0⟩ : ∃ n0, n0 = wr.heap.size := ⟨_, rfl⟩
                have HN0 : Aside0 (n0 ≤ w1.heap.size ∧ ∀ b, (Value.slice A1 m1 cc1).ownBlock = some b → b < n0) := ⟨by rw [hn0]; exact B1.size, fun b hb => by rw [hn0]; exact Kd.N_lt HO2.out b hb⟩
                have HL1 := Aside0.mk hL
                have HCB : Aside0 (Keeps n0 w1 (fun W2 => Kd.C (Kd.int .u8) W2 Ab L (joinOf own))) := ⟨by rw [hn0]; exact CB⟩
                clear hn0
                have BW1 := Aside0.mk (below_step HB.out B1)
                have hLb : L < 100000 := by rw [hL]; exact HJL.out
                have B1_ := Aside0.mk B1
                clear hL CB B1
                go_wp2_with fail
                refine (splitW_ok own HOK.out HJL.out hw Ab L cb HL1.out _ (HCB.out w1 (fun _ _ _ => rfl)) leb l0.length HLN.out).mono ?_
                rintro e w2 ⟨Am, cm, rfl, CM, lem, B2⟩
                have HCM := Aside0.mk CM
                have BW12 := Aside0.mk B2
                have HBX1 := Aside0.mk (below_step B1_.out B2)
                have BW2 := Aside0.mk (below_step BW1.out B2)
                clear CM B2
                have hl50 : l0.length ≤ 50 := by have := HL.out; omega
                go_wp2_with fail
                go_loopg [14, 15] l0.length (fun kq v14 v15 w' => ∃ (i : Nat) (tp : Int), v14 = .int .u8 tp ∧ v15 = .int .i64 (i : Int) ∧ Aside0 (tp = topOf 0 (own.take i)) ∧ Aside0 (i + kq = l0.length) ∧ Aside0 (Below w2.heap.size w2 w'))
                case atStart => exact ⟨0, 0, rfl, rfl, ⟨rfl⟩, ⟨by omega⟩, ⟨Below.refl _ _⟩⟩
                case round =>
                  obtain ⟨i, tp, rfl, rfl, HTP, HK, HBR⟩ := hrel
                  cases gk with
                  | succ k1 =>
                    have hi : i < l0.length := by have := HK.out; omega
                    obtain ⟨f0, o, f2, e1, e2, e3, h1, h2, h3, h4⟩ := back_at l0 own HOW.out HOK.out i hi
                    obtain ⟨adm, Am2, cm2, eam, hm0, hm1, hm2, lm2, Cm2⟩ := at_T53 (HCM.out wr (fun k _ h => HBR.out.block k h)) (i : Int) (by omega) (by omega)
                    cases eam
                    obtain ⟨adl, Al2, cl2, eal, hl0, hl1, hl2, ll2, Cl2⟩ := at_T52 (Kd.C_below HR0.out (below_step BW2.out HBR.out)) (i : Int) (by omega) (by omega)
                    cases eal
                    rw [e1] at hm0 hm1 hm2 lm2 Cm2
                    rw [e2] at hl0
                    rw [e3] at hl2 ll2 Cl2
                    simp only [Int.toNat_natCast] at hm0 hm1 hm2 hl0 hl2
                    have hoL : o + f2.length ≤ L := by rw [HL1.out]; exact h2
                    obtain ⟨A7, hsl, hrd⟩ := cutMid (joinOf own) f2 o h3 Ab L cb HL1.out leb hoL
                    have C7 := hrd wr (HCB.out wr (fun k _ h => (below_step BW12.out HBR.out).block k h))
                    have cv1 := fun n_ : Nat => Kd.C_string (P := Tryd.prog) (A := Am2) (c := cm2) Tryd.underlying22 Tryd.underlying5 Tryd.underlying9 (Kd.C_below Cm2 (pw_below_drewN (Below.refl _ _) n_))
                    have cv2 := fun n_ : Nat => Kd.C_string (P := Tryd.prog) (A := Al2) (c := cl2) Tryd.underlying22 Tryd.underlying5 Tryd.underlying9 (Kd.C_below Cl2 (pw_below_drewN (Below.refl _ _) n_))
                    have cv3 := fun n_ : Nat => Kd.C_string (P := Tryd.prog) (A := A7) (c := cb - o) Tryd.underlying22 Tryd.underlying5 Tryd.underlying9 (Kd.C_below C7 (pw_below_drewN (Below.refl _ _) n_))
                    have hw1 : IntKind.i64.wrap ((o : Int) + (f2.length : Int)) = (o : Int) + (f2.length : Int) := IntWalk.i64_in _ (by omega)
                    have hw2 : IntKind.i64.wrap ((L : Int) - (f2.length : Int)) = (L : Int) - (f2.length : Int) := IntWalk.i64_in _ (by omega)
                    have d1 : decide ((o : Int) < 10) = false := decide_eq_false (by omega)
                    have d2 : decide ((L : Int) - (f2.length : Int) < (o : Int)) = false := decide_eq_false (by omega)
                    have H4 := Aside0.mk (show topOf 0 (own.take (i + 1)) = mx tp f0 from by rw [HTP.out]; exact h4)
                    clear e1 e2 e3 h3 hrd C7 Cm2 Cl2 hl1 h4
                    go_wp2_with fail
                    go_quiet (fail)
                    go_wp2_with fail
                    all_goals
                      go_roundg k1
                      case measure => exact Nat.lt_succ_self _
                      case rel => exact ⟨i + 1, _, rfl, by simp, ⟨by rw [H4.out]; unfold mx; first | rw [if_pos (by assumption)] | rw [if_neg (by omega)]⟩, ⟨by have := HK.out; omega⟩, ⟨below_step HBR.out (pw_below_drewN (Below.refl _ _) _)⟩⟩
                  | zero =>
                    obtain rfl : i = l0.length := by have := HK.out; omega
                    have htp : tp = topOf 0 own := by rw [HTP.out, List.take_of_length_le (by have := HLN.out; omega)]
                    have HT2 := Aside0.mk htp
                    have BW3 := Aside0.mk (below_step BW2.out HBR.out)
                    have HBX := Aside0.mk (below_step HBX1.out HBR.out)
                    clear HTP HK htp
                    by_cases hp0 : 0 < tp
                    · have hp1 : decide (0 < tp) = true := decide_eq_true hp0
                      have htl := topOf_lt own 0 (by omega) (fun s hs => (HOK.out s hs).1.2)
                      go_wp2_with ((with_reducible refine gate_builtin (b := .append) (xs := #[.tmp 187, .tmp 190]) rfl ?_); (try (refine gate_guard (by rfl) ?_; dsimp only)); at_builtin; refine Kd.N_append k53 (w0 := w) w.heap.size rfl (.tmp 187) (.tmp 190) 41 53 (.agg #[(.int .u8 0), (.int .i64 0), (.slice none 0 0)]) 40 rfl Tryd.underlying41 info53 rfl (by decide) (by omega) (.slice A1 m1 cc1) own (⟨tp, 0, []⟩ : S53) [.int .u8 tp, .int .i64 0, .slice none 0 0] (fun _ => True) (fun _ => False) rfl rfl (k53_mkF _ _ (⟨tp, 0, []⟩ : S53) (Nat.le_refl _) (fun _ _ => Kd.C_nil _ _)) (fun _ h => h.elim) (fun _ _ => trivial) (Kd.N_below HO2.out HBX.out) BW3.out (below_size BW3.out) (by have := HLN.out; omega) ?_; intro v5 w5 ho hb hg hat; have HO5 := Aside0.mk ho; have BW5 := Aside0.mk hb; have G5 := Aside0.mk hg; clear ho hb hg hat)
                      obtain ⟨A5, c5, e5⟩ := Kd.N_slice HO5.out
                      obtain ⟨n5, hn5⟩ : ∃ n5, n5 = (own ++ [(⟨tp, 0, []⟩ : S53)]).length := ⟨_, rfl⟩
                      rw [← hn5] at e5
                      subst e5
                      have HR5 : Aside0 (Kd.C k53 w5 A5 n5 (own ++ [(⟨tp, 0, []⟩ : S53)]) ∧ n5 ≤ c5) := ⟨by have h := Kd.N_reads' HO5.out; rw [← hn5] at h; exact ⟨h.2.2, h.2.1⟩⟩
                      have HM5 := Aside0.mk hn5
                      have HSM : Aside0 (OkS (own ++ [(⟨tp, 0, []⟩ : S53)]) ∧ (joinOf (own ++ [(⟨tp, 0, []⟩ : S53)])).length < 1000000 ∧ ∃ i e, splitOf (joinOf (own ++ [(⟨tp, 0, []⟩ : S53)])) = ([], i, some e)) := ⟨by have := HT2.out; exact more_ok own tp HT2.out HOK.out HJL.out hp0 htl⟩
                      clear hn5
                      refine (joinW_no _ HSM.out.1 HSM.out.2.1 HSM.out.2.2 A5 n5 c5 HM5.out _ HR5.out.1 HR5.out.2).mono ?_
                      rintro e w6 ⟨v6, rfl, B6⟩
                      have BW6 := Aside0.mk (below_step BW5.out B6)
                      have NM := Aside0.mk (mandrellaw06_num.calls (some 1) 1 w6 (HLE.out.below BW6.out) rfl)
                      clear HSM HR5 HM5
                      go_wp2_with fail
                      refine NM.out.mono ?_
                      rintro e w7 ⟨rfl, B7⟩
                      have BW7 := Aside0.mk (below_step BW6.out B7)
                      have SAME : Aside0 (∀ k, n0 ≤ k → k < w2.heap.size → w7.heap[k]? = w2.heap[k]?) := ⟨fun k h1 h2 => ((below_step B6 B7).block k (Nat.lt_of_lt_of_le (Nat.lt_of_lt_of_le h2 HBR.out.size) G5.out.size)).trans ((G5.out.block k (Nat.lt_of_lt_of_le h2 HBR.out.size) (fun e => by have := HN0.out.2 k e.symm; omega)).trans (HBR.out.block k h2))⟩
                      clear B6 B7 NM
                      by_cases hne : l0.length = 0
                      · have hz : decide (0 < (l0.length : Int)) = false := decide_eq_false (by omega)
                        go_wp2_with (go_at_call 17; refine (mandrellaw06_sure.calls true _ rfl).mono ?_; rintro e wz ⟨rfl, hb⟩; have BZ := Aside0.mk (below_step BW7.out hb); clear hb)
                        go_ret
                        exact ⟨rfl, BZ.out⟩
                      · have hz : decide (0 < (l0.length : Int)) = true := decide_eq_true (by omega)
                        obtain ⟨jz, hjz⟩ : ∃ jz, l0.length = jz + 1 := ⟨l0.length - 1, by omega⟩
                        obtain ⟨pre, s, hps⟩ : ∃ pre s, own = pre ++ [s] := last_of own (by have := HLN.out; omega)
                        obtain ⟨f0, o, f2, e1, e2, e3, h1, h2, h3, h4⟩ := back_at l0 own HOW.out HOK.out jz (by omega)
                        have hs2 : f2 = s.f2 := last_f2 l0 own HOW.out pre s hps f2 (by rw [hjz, Nat.add_sub_cancel]; exact e3) (by omega)
                        obtain ⟨adm, Am2, cm2, eam, hm0, hm1, hm2, lm2, Cm2⟩ := at_T53 (HCM.out w7 (fun k h1 h2 => SAME.out k (Nat.le_trans HN0.out.1 h1) h2)) (jz : Int) (by omega) (by omega)
                        cases eam
                        rw [e1] at hm0 hm1 hm2 lm2 Cm2
                        simp only [Int.toNat_natCast] at hm0 hm1 hm2
                        have hfL : f2.length ≤ L := by rw [HL1.out]; omega
                        have HPS := Aside0.mk (And.intro hps hs2)
                        clear e1 e2 e3 h1 h2 h3 h4 hps hs2 hm0 hm1 lm2 Cm2
                        by_cases hp : f2.length = 0
                        · have hq : decide (0 < (f2.length : Int)) = false := decide_eq_false (by omega)
                          go_wp2_with (go_at_call 17; refine (mandrellaw06_sure.calls true _ rfl).mono ?_; rintro e wz ⟨rfl, hb⟩; have BZ := Aside0.mk (below_step BW7.out hb); clear hb)
                          go_ret
                          exact ⟨rfl, BZ.out⟩
                        · have hq : decide (0 < (f2.length : Int)) = true := decide_eq_true (by omega)
                          have hq3 : 0 < f2.length := by omega
                          obtain ⟨q, hq1, hq2⟩ := mod_q a1 f2.length (by omega) (by omega)
                          have HQ := Aside0.mk hq2
                          have hq4 : 1 + q ≤ f2.length := by omega
                          have hL5 : L - (1 + q) ≤ L := Nat.sub_le _ _
                          have hCT := (cutHead (joinOf own) (L - (1 + q)) Ab L cb HL1.out leb hL5 _ rfl).2 w7 (HCB.out w7 (fun k h1 h2 => (SAME.out k h1 (Nat.lt_of_lt_of_le h2 BW12.out.size)).trans (BW12.out.block k h2)))
                          have HS4 : Aside0 (∃ i, splitOf ((joinOf own).take (L - (1 + q))) = ([], i, some 4)) := ⟨by
                            obtain ⟨hps, hs2⟩ := HPS.out
                            have h := split_short pre s (by rw [← hps]; exact HOK.out) (by rw [← hps]; exact hw) (1 + q) (by omega) (by rw [← hs2]; omega)
                            rw [← hps, ← HL1.out] at h
                            exact h⟩
                          have HE := Aside0.mk (splitW_err ((joinOf own).take (L - (1 + q))) ((joinOf_bytes own HOK.out).take _) (by rw [List.length_take]; omega) HS4.out Ab (L - (1 + q)) cb (by rw [List.length_take, ← HL1.out]; omega) w7 hCT (by omega))
                          clear hCT HS4
                          go_wp2_with fail
                          refine HE.out.mono ?_
                          rintro e w8 ⟨v8, i8, rfl, B8⟩
                          have BW8 := Aside0.mk (below_step BW7.out B8)
                          have NM8 := Aside0.mk (mandrellaw06_num.calls (some 4) 4 w8 (HLE.out.below BW8.out) rfl)
                          clear HE B8
                          go_wp2_with fail
                          refine NM8.out.mono ?_
                          rintro e w9 ⟨rfl, B9⟩
                          have BW9 := Aside0.mk (below_step BW8.out B9)
                          clear NM8 B9
                          go_wp2_with (go_at_call 17; refine (mandrellaw06_sure.calls true _ rfl).mono ?_; rintro e wz ⟨rfl, hb⟩; have BZ := Aside0.mk (below_step BW9.out hb); clear hb)
                          go_ret
                          exact ⟨rfl, BZ.out⟩
                    · have hp1 : decide (0 < tp) = false := decide_eq_false hp0
                      have SAME : Aside0 (∀ k, n0 ≤ k → k < w2.heap.size → wr.heap[k]? = w2.heap[k]?) := ⟨fun k _ h => HBR.out.block k h⟩
                      by_cases hne : l0.length = 0
                      · have hz : decide (0 < (l0.length : Int)) = false := decide_eq_false (by omega)
                        go_wp2_with (go_at_call 17; refine (mandrellaw06_sure.calls true _ rfl).mono ?_; rintro e wz ⟨rfl, hb⟩; have BZ := Aside0.mk (below_step BW3.out hb); clear hb)
                        go_ret
                        exact ⟨rfl, BZ.out⟩
                      · have hz : decide (0 < (l0.length : Int)) = true := decide_eq_true (by omega)
                        obtain ⟨jz, hjz⟩ : ∃ jz, l0.length = jz + 1 := ⟨l0.length - 1, by omega⟩
                        obtain ⟨pre, s, hps⟩ : ∃ pre s, own = pre ++ [s] := last_of own (by have := HLN.out; omega)
                        obtain ⟨f0, o, f2, e1, e2, e3, h1, h2, h3, h4⟩ := back_at l0 own HOW.out HOK.out jz (by omega)
                        have hs2 : f2 = s.f2 := last_f2 l0 own HOW.out pre s hps f2 (by rw [hjz, Nat.add_sub_cancel]; exact e3) (by omega)
                        obtain ⟨adm, Am2, cm2, eam, hm0, hm1, hm2, lm2, Cm2⟩ := at_T53 (HCM.out wr (fun k h1 h2 => SAME.out k (Nat.le_trans HN0.out.1 h1) h2)) (jz : Int) (by omega) (by omega)
                        cases eam
                        rw [e1] at hm0 hm1 hm2 lm2 Cm2
                        simp only [Int.toNat_natCast] at hm0 hm1 hm2
                        have hfL : f2.length ≤ L := by rw [HL1.out]; omega
                        have HPS := Aside0.mk (And.intro hps hs2)
                        clear e1 e2 e3 h1 h2 h3 h4 hps hs2 hm0 hm1 lm2 Cm2
                        by_cases hp : f2.length = 0
                        · have hq : decide (0 < (f2.length : Int)) = false := decide_eq_false (by omega)
                          go_wp2_with (go_at_call 17; refine (mandrellaw06_sure.calls true _ rfl).mono ?_; rintro e wz ⟨rfl, hb⟩; have BZ := Aside0.mk (below_step BW3.out hb); clear hb)
                          go_ret
                          exact ⟨rfl, BZ.out⟩
                        · have hq : decide (0 < (f2.length : Int)) = true := decide_eq_true (by omega)
                          have hq3 : 0 < f2.length := by omega
                          obtain ⟨q, hq1, hq2⟩ := mod_q a1 f2.length (by omega) (by omega)
                          have HQ := Aside0.mk hq2
                          have hq4 : 1 + q ≤ f2.length := by omega
                          have hL5 : L - (1 + q) ≤ L := Nat.sub_le _ _
                          have hCT := (cutHead (joinOf own) (L - (1 + q)) Ab L cb HL1.out leb hL5 _ rfl).2 wr (HCB.out wr (fun k h1 h2 => (SAME.out k h1 (Nat.lt_of_lt_of_le h2 BW12.out.size)).trans (BW12.out.block k h2)))
                          have HS4 : Aside0 (∃ i, splitOf ((joinOf own).take (L - (1 + q))) = ([], i, some 4)) := ⟨by
                            obtain ⟨hps, hs2⟩ := HPS.out
                            have h := split_short pre s (by rw [← hps]; exact HOK.out) (by rw [← hps]; exact hw) (1 + q) (by omega) (by rw [← hs2]; omega)
                            rw [← hps, ← HL1.out] at h
                            exact h⟩
                          have HE := Aside0.mk (splitW_err ((joinOf own).take (L - (1 + q))) ((joinOf_bytes own HOK.out).take _) (by rw [List.length_take]; omega) HS4.out Ab (L - (1 + q)) cb (by rw [List.length_take, ← HL1.out]; omega) wr hCT (by omega))
                          clear hCT HS4
                          go_wp2_with fail
                          refine HE.out.mono ?_
                          rintro e w8 ⟨v8, i8, rfl, B8⟩
                          have BW8 := Aside0.mk (below_step BW3.out B8)
                          have NM8 := Aside0.mk (mandrellaw06_num.calls (some 4) 4 w8 (HLE.out.below BW8.out) rfl)
                          clear HE B8
                          go_wp2_with fail
                          refine NM8.out.mono ?_
                          rintro e w9 ⟨rfl, B9⟩
                          have BW9 := Aside0.mk (below_step BW8.out B9)
                          clear NM8 B9
                          go_wp2_with (go_at_call 17; refine (mandrellaw06_sure.calls true _ rfl).mono ?_; rintro e wz ⟨rfl, hb⟩; have BZ := Aside0.mk (below_step BW9.out hb); clear hb)
                          go_ret
                          exact ⟨rfl, BZ.out⟩
              · have hw0 : walkOk 0 own = false := by cases h : walkOk 0 own with | true => exact absurd h hw | false => rfl
                go_wp2_with fail
                refine (joinW_no own HOK.out (by have := HJL.out; omega) ((split_join own HOK.out).2 hw0) A1 m1 cc1 HM1.out _ HR1.out HC1.out).mono ?_
                rintro e w1 ⟨v, rfl, B1⟩
                have BW1 := Aside0.mk (below_step HB.out B1)
                clear B1
                simp only [errW_some]
                go_wp2_with (go_at_call 17; refine (mandrellaw06_sure.calls true _ rfl).mono ?_; rintro e wz ⟨rfl, hb⟩; have BZ := Aside0.mk (below_step BW1.out hb); clear hb)
                go_ret
                exact ⟨rfl, BZ.out⟩
theorem sectBack (A0 : Option Addr) (c0 : Nat) (l : List S52) (a1 : Int) (w : World) (hr : Kd.C k52 w A0 l.length l) (hc : l.length ≤ c0) (hg : ∀ x ∈ l, (Lit.int .u8 x.f0).wf = true ∧ (Lit.int .i64 x.f1).wf = true ∧ ∀ y ∈ x.f2, (Lit.int .u8 y).wf = true) (w1 : (Lit.int .i64 a1).wf = true) (hLE : LaidE w) :
    Calls Tryd.prog 8 #[.slice A0 l.length c0, .int .i64 a1] w fun e w' => e = .returned (.bool true) ∧ Below w.heap.size w w' :=
  back0 A0 c0 l a1 w hr hc hLE (fun x hx => ⟨u8_of_wf (hg x hx).1, fun y hy => u8_of_wf ((hg x hx).2.2 y hy)⟩)
end Go.Proofs.YtljmikfpknmnnaaDoor.XS
