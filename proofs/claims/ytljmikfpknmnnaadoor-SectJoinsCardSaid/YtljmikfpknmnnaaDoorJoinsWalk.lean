/- SectJoins' own walk: its first loops by hand, the rest from the print. -/
import Derived.Test.YtljmikfpknmnnaaDoorLawWords
import Derived.Test.YtljmikfpknmnnaaDoorJoin
import Derived.Test.YtljmikfpknmnnaaDoorXSx9
import Derived.Test.YtljmikfpknmnnaaDoorRefJoin
-- slim
namespace Go.Proofs.YtljmikfpknmnnaaDoor.XS
open Go Go.RowKit Go.Proofs.YtljmikfpknmnnaaDoorW.PrintWords Go.Proofs.YtljmikfpknmnnaaDoorW.PrintLast Go.Proofs.YtljmikfpknmnnaaDoorW.PrintMore
attribute [local go_sem] max2_int min2_int max_two min_two max_three min_three max_four min_four
set_option linter.unusedVariables false
set_option linter.unusedSimpArgs false
set_option maxHeartbeats 8000000 in
set_option maxRecDepth 100000 in
theorem mandrellaw06_SectJoins.walk0 (A0 : Option Addr) (c0 : Nat) (l0 : List S52) (w : World) (hr0 : Kd.C k52 w A0 l0.length l0) (hc0 : l0.length ≤ c0) (hLE : LaidE w) (k : Nat) (hP : l0.length ≤ 50 → sumB l0 ≤ 3000 → ∃ (b : List Int) (e : Option Int), sect_Join.f k (l0.map toS) = some (b, e) ∧ mandrelref06_Join.f k l0 = some (b, e.getD 0) ∧ mandrellaw06_sameSections.f k (l0.map toS) l0 = some true) : Calls Tryd.prog 7 #[.slice A0 l0.length c0] w fun e w' => e = .returned (.bool true) ∧ Below w.heap.size w w' := by
 have hu25 := Tryd.underlying25
 have hu66 := Tryd.underlying66
 have HP := Aside0.mk hP
 have HLE := Aside0.mk hLE
 clear hP hLE
 have HR0 := Aside0.mk hr0
 have HC0 := Aside0.mk hc0
 clear hr0 hc0
 go_enter Tryd.func7, Tryd.ntmps7
 go_wp2
 go_loopg [3, 4] 101 (fun kq v3 v4 w' => ∃ (xn xi : Int) (n i : Nat), v3 = .int .i64 xn ∧ v4 = .int .i64 xi ∧ Aside0 (xn = (n : Int) ∧ xi = (i : Int)) ∧ Aside0 (i + kq = 101) ∧ Aside0 (i ≤ l0.length) ∧ Aside0 (n = sumB (l0.take i)) ∧ w = w')
 case atStart => exact ⟨0, 0, 0, 0, rfl, rfl, ⟨rfl, rfl⟩, ⟨rfl⟩, ⟨Nat.zero_le _⟩, ⟨rfl⟩, rfl⟩
 case round =>
  obtain ⟨xn, xi, n, i, rfl, rfl, HX, HK1, HI, HN, ew⟩ := hrel
  subst ew
  by_cases c1 : xi < (l0.length : Int)
  ·by_cases c2 : xi < 100
   ·have HC1 := Aside0.mk c1
    have HC2 := Aside0.mk c2
    have b1 : decide (xi < (l0.length : Int)) = true := decide_eq_true c1
    have b2 : decide (xi < 100) = true := decide_eq_true c2
    have c0_ : 0 ≤ xi := by have := HX.out.2; omega
    have b0 : decide (0 ≤ xi) = true := decide_eq_true c0_
    obtain ⟨ad, A2, c2_, ea, hx0, hx1, hx2, hl2, hi2⟩ := at_T52 HR0.out xi c0_ c1
    cases ea
    have p1 := eq_true c0_
    have q1 := eq_true c1
    clear c0_ c1 c2 hl2 hi2 hx0 hx1
    cases gk with
    | zero => exact absurd HK1.out (by have := HC2.out; have := HX.out.2; omega)
    | succ k1 =>
     go_wp2
     all_goals (
      rename_i hmin
      go_roundg k1
      case measure => have := HK1.out; omega
      case rel =>
       obtain ⟨h1, h2⟩ := HX.out
       have h3 := HC1.out
       have h4 := HC2.out
       have h5 := sumB_take l0 i (by omega)
       have h6 := sumB_le l0 i
       have h7 := HN.out
       subst h1
       subst h2
       refine ⟨_, _, sumB (l0.take (i + 1)), i + 1, rfl, rfl, ⟨?_, ?_⟩, ⟨by have := HK1.out; omega⟩, ⟨by omega⟩, ⟨rfl⟩, rfl⟩
       ·rw [Go.Proofs.YtljmikfpknmnnaaDoor.M.w64_in (by omega) (by omega)]; omega
       ·rw [Go.Proofs.YtljmikfpknmnnaaDoor.M.w64_in (by omega) (by omega)]; omega)
   ·have b1 : decide (xi < (l0.length : Int)) = true := decide_eq_true c1
    have b2 : decide (xi < 100) = false := decide_eq_false c2
    have b3 : decide (50 < (l0.length : Int)) = true := decide_eq_true (by omega)
    clear c1 c2
    go_wp2_with (go_at_call 17; refine (mandrellaw06_sure.calls true _ rfl).mono ?_; rintro e w1 ⟨rfl, hb⟩; have B1 := Aside0.mk hb; clear hb)
    go_ret
    exact ⟨rfl, B1.out⟩
  ·have b1 : decide (xi < (l0.length : Int)) = false := decide_eq_false c1
   by_cases c2 : (l0.length : Int) > 50
   ·have b3 : decide (50 < (l0.length : Int)) = true := decide_eq_true c2
    clear c1 c2
    go_wp2_with (go_at_call 17; refine (mandrellaw06_sure.calls true _ rfl).mono ?_; rintro e w1 ⟨rfl, hb⟩; have B1 := Aside0.mk hb; clear hb)
    go_ret
    exact ⟨rfl, B1.out⟩
   ·have b3 : decide (50 < (l0.length : Int)) = false := decide_eq_false c2
    by_cases c3 : xn > 3000
    ·have b4 : decide (3000 < xn) = true := decide_eq_true c3
     clear c1 c2 c3
     go_wp2_with (go_at_call 17; refine (mandrellaw06_sure.calls true _ rfl).mono ?_; rintro e w1 ⟨rfl, hb⟩; have B1 := Aside0.mk hb; clear hb)
     go_ret
     exact ⟨rfl, B1.out⟩
    ·have b4 : decide (3000 < xn) = false := decide_eq_false c3
     have HL := Aside0.mk c2
     have HL0 := Aside0.mk c1
     have HL3 := Aside0.mk c3
     clear c1 c2 c3
     go_wp2
     go_loopg [5, 6] (l0.length + 1) (fun kq v5 v6 w' => ∃ (yi : Int) (j : Nat), v6 = .int .i64 yi ∧ Aside0 (yi = (j : Int)) ∧ Aside0 (j + kq = l0.length + 1) ∧ Aside0 (j ≤ l0.length) ∧ Aside0 (Kd.N k53 53 w' w.heap.size (fun _ => True) v5 ((l0.take j).map toS)) ∧ Aside0 (Below w.heap.size w w'))
     case atStart => exact ⟨0, 0, rfl, ⟨rfl⟩, ⟨by omega⟩, ⟨Nat.zero_le _⟩, ⟨Kd.N_nil _ _ _ _ _⟩, ⟨Below.refl _ _⟩⟩
     case round =>
      obtain ⟨yi, j, rfl, HY, HK2, HJ, HO, HB⟩ := hrel
      by_cases c4 : yi < (l0.length : Int)
      ·have b5 : decide (yi < (l0.length : Int)) = true := decide_eq_true c4
       have c0_ : 0 ≤ yi := by have := HY.out; omega
       have b6 : decide (0 ≤ yi) = true := decide_eq_true c0_
       obtain ⟨ad, A2, c2_, ea, hx0, hx1, hx2, hl2, hi2⟩ := at_T52 HR0.out yi c0_ c4
       cases ea
       have HC4 := Aside0.mk c4
       replace hx0 := (HB.out.cell (World.block_lt_of_cell? _ _ hx0)).trans hx0
       replace hx1 := (HB.out.cell (World.block_lt_of_cell? _ _ hx1)).trans hx1
       replace hx2 := (HB.out.cell (World.block_lt_of_cell? _ _ hx2)).trans hx2
       have p1 := eq_true c0_
       have q1 := eq_true c4
       have HL2 := Aside0.mk hl2
       have HI2 := Aside0.mk hi2
       clear c0_ c4 hl2 hi2
       cases gk with
       | zero => exact absurd HK2.out (by have := HC4.out; have := HY.out; omega)
       | succ k1 =>
        have HOK : Aside0 (∀ k_, (k_ < w.heap.size) → True ∧ some k_ ≠ (u5 : Value).ownBlock) := ⟨fun k_ hk => ⟨trivial, fun he => by have := Kd.N_base HO.out k_ he.symm; omega⟩⟩
        have HFE : Aside0 (Kd.F (Kd.int .u8) wr (fun k_ => k_ < w.heap.size) A2 (rd_T52 l0 yi).f2.length (rd_T52 l0 yi).f2) := ⟨fun W' hW => (Kd.C_F (Kd.heap_int .u8) HI2.out) W' (fun k hk hlt => (hW k hk (Nat.lt_of_lt_of_le hk (below_size HB.out))).trans (HB.out.block k hk))⟩
        go_wp2_with ((with_reducible refine gate_builtin (b := .append) (xs := #[.tmp 44, .tmp 49]) rfl ?_); (try (refine gate_guard (by rfl) ?_; dsimp only)); at_builtin; refine Kd.N_append k53 (w0 := w) w.heap.size rfl (.tmp 44) (.tmp 49) 41 53 (.agg #[(.int .u8 0), (.int .i64 0), (.slice none 0 0)]) 40 rfl Tryd.underlying41 info53 rfl (by decide) (by omega) u5 ((l0.take j).map toS) (toS (rd_T52 l0 yi)) [.int .u8 (rd_T52 l0 yi).f0, .int .i64 (rd_T52 l0 yi).f1, .slice A2 (rd_T52 l0 yi).f2.length c2_] (fun _ => True) (fun k_ => k_ < w.heap.size) rfl rfl (k53_mkF _ _ (toS (rd_T52 l0 yi)) HL2.out HFE.out) HOK.out (fun _ _ => trivial) HO.out HB.out (below_size HB.out) (by rw [List.length_map, List.length_take]; have := HL.out; omega) ?_; intro v5 w5 ho hb hg hat; have n0_ := Aside0.mk ho; have n1_ := Aside0.mk hb; clear HO HB ho hb hg hat HOK HFE; have HO := n0_; have HB := n1_; clear n0_ n1_)
        go_roundg k1
        case measure => have := HK2.out; omega
        case rel =>
         have h1 := HY.out
         have h2 := HC4.out
         subst h1
         refine ⟨_, j + 1, rfl, ⟨?_⟩, ⟨by have := HK2.out; omega⟩, ⟨by omega⟩, ⟨?_⟩, HB⟩
         ·rw [Go.Proofs.YtljmikfpknmnnaaDoor.M.w64_in (by omega) (by have := HL.out; omega)]; omega
         ·rw [List.take_succ_eq_append_getElem (by omega), List.map_append, List.map_singleton]
          have e : rd_T52 l0 (j : Int) = l0[j] := by unfold rd_T52; rw [Int.toNat_natCast, List.getD_eq_getElem?_getD, List.getElem?_eq_getElem (by omega)]; rfl
          rw [← e]
          exact HO.out
      ·have b5 : decide (yi < (l0.length : Int)) = false := decide_eq_false c4
       have hj : j = l0.length := by have := HY.out; have := HJ.out; omega
       have hn : n = sumB l0 := by
        have h1 := HN.out
        have h2 := HX.out
        rw [List.take_of_length_le (by have := HL0.out; omega)] at h1
        exact h1
       obtain ⟨t248, t251, A3_, A4_, A8_⟩ := HP.out (by have := HL.out; omega) (by have := HX.out; have := HL3.out; omega)
       obtain ⟨l1, hl1⟩ : ∃ l1, l1 = l0.map toS := ⟨_, rfl⟩
       rw [← hl1] at A3_ A8_
       have HO2 : Aside0 (Kd.N k53 53 wr w.heap.size (fun _ => True) u5 l1) := ⟨by have h := HO.out; rw [hj, List.take_length, ← hl1] at h; exact h⟩
       have HR0_ := Aside0.mk (Kd.C_below HR0.out HB.out)
       have hLE := HLE.out.below HB.out
       have HB0 := HB
       clear HO HB HR0 HLE HP HY HJ HK2 HX HN HI HK1 hl1 hj hn HL HL0 HL3 c4
       have HR0 := HR0_
       clear HR0_
       have HB := Aside0.mk (Below.refl wr.heap.size wr)
       obtain ⟨A1, c1, eo⟩ := Kd.N_slice HO2.out
       subst eo
       have HR1 := Aside0.mk (Kd.N_reads' HO2.out).2.2
       have HC1 := Aside0.mk (Kd.N_reads' HO2.out).2.1
       clear HO2
       have A3 := Aside0.mk A3_
       obtain ⟨t252, eb⟩ : ∃ x, x = t248 := ⟨_, rfl⟩
       obtain ⟨t253, ee⟩ : ∃ x, x = t251.getD 0 := ⟨_, rfl⟩
       rw [← ee] at A4_
       have A4 : Aside0 (mandrelref06_Join.f k l0 = some (t252, t253)) := ⟨by rw [eb]; exact A4_⟩
       have A8 := Aside0.mk A8_
       obtain ⟨t256, en⟩ : ∃ x, x = t253 := ⟨_, rfl⟩
       have A6 : Aside0 (mandrellaw06_num.f t251 = some t256) := ⟨by rw [en, ee]; rfl⟩
       have c5b0 : ((strOfNums t248).toList == (strOfNums t252).toList) = true := by rw [eb]; exact beq_self_eq_true _
       have c7b0 : (t256 == t253) = true := by rw [en]; exact beq_self_eq_true _
       obtain ⟨t258, es⟩ : ∃ x : Bool, x = true := ⟨_, rfl⟩
       have A10 : Aside0 (mandrellaw06_sure.f = some t258) := ⟨by rw [es]; rfl⟩
       clear A3_ A4_ A8_ eb ee en
       go_wp2_with (first | ((with_reducible refine gate_callee (f := 23) rfl ?_); refine goesL_ (some 53) rfl rfl Tryd.func23 (by kernel_rfl) rfl #[.slice A1 l1.length c1] rfl (by (try simp only [List.map_toArray, List.map_cons, List.map_nil]); first | done | rfl | (simp only [List.length_drop, List.length_take]; rfl)) ?_; (with_reducible refine (sect_Join.calls k _ _ l1 t248 t251 _ ?side1 ?side2 A3.out).mono ?_); (case side1 => repeat (first | exact HR1.out | (with_reducible refine Kd.C_alloc ?_ _) | (with_reducible refine Kd.C_drewN ?_ _) | (with_reducible refine Kd.C_drew ?_))); (case side2 => exact HC1.out); rintro e w11 ⟨v249, rfl, ho0, hb⟩; refine ⟨_, rfl, ?_⟩; have n0_ := Aside0.mk (Kd.V_lower (Kd.V_mono (ok' := fun k_ => True) ho0 (fun k_ hk_ => trivial)) (below_size (by repeat (first | (with_reducible first | exact HB.out | apply below_alloc | apply pw_below_drewN | apply below_drew1) | exact HB.out)))); have n1_ := Aside0.mk (below_step (by repeat (first | (with_reducible first | exact HB.out | apply below_alloc | apply pw_below_drewN | apply below_drew1) | exact HB.out)) hb); clear HB; have HO250 := n0_; have HB := n1_; clear n0_ n1_; (try clear hb); (try clear hb2); (try clear hk); (try clear hi); (try clear ho0); (try simp only [errW_none, errW_some])) | ((with_reducible refine gate_callee (f := 24) rfl ?_); refine goesL_ (some 58) rfl rfl Tryd.func24 (by kernel_rfl) rfl #[.slice A0 l0.length c0] rfl (by (try simp only [List.map_toArray, List.map_cons, List.map_nil]); first | done | rfl | (simp only [List.length_drop, List.length_take]; rfl)) ?_; (with_reducible refine (mandrelref06_Join.calls k _ _ l0 t252 t253 _ ?side1 ?side2 A4.out).mono ?_); (case side1 => repeat (first | exact (Kd.C_below HR0.out HB.out) | (with_reducible refine Kd.C_alloc ?_ _) | (with_reducible refine Kd.C_drewN ?_ _) | (with_reducible refine Kd.C_drew ?_))); (case side2 => exact HC0.out); rintro e w12 ⟨v254, rfl, ho0, hb⟩; refine ⟨_, rfl, ?_⟩; have n0_ := Aside0.mk (Kd.V_elder' (by (with_reducible repeat (first | apply Kd.V_alloc | apply Kd.V_drewN | apply Kd.V_drew)); exact HO250.out) (Kd.R_base ho0) hb); have n1_ := Aside0.mk (Kd.R_lower ho0 (below_size (by repeat (first | (with_reducible first | exact HB.out | apply below_alloc | apply pw_below_drewN | apply below_drew1) | exact HB.out)))); have n2_ := Aside0.mk (below_step (by repeat (first | (with_reducible first | exact HB.out | apply below_alloc | apply pw_below_drewN | apply below_drew1) | exact HB.out)) hb); clear HO250; clear HB; have HO250 := n0_; have HO255 := n1_; have HB := n2_; clear n0_ n1_ n2_; (try clear hb); (try clear hb2); (try clear hk); (try clear hi); (try clear ho0); obtain ⟨Ao_, co_, eo_⟩ := Kd.V_slice HO250.out; subst eo_; have hcv13 := Kd.C_string (P := Tryd.prog) (A := Ao_) (c := co_) Tryd.underlying22 Tryd.underlying5 Tryd.underlying9 (Kd.V_reads' HO250.out).2.2; have hcv14 := fun n_ : Nat => Kd.C_string (P := Tryd.prog) (A := Ao_) (c := co_) Tryd.underlying22 Tryd.underlying5 Tryd.underlying9 (Kd.C_below (Kd.V_reads' HO250.out).2.2 (pw_below_drewN (Below.refl _ _) n_)); have hcv15 := own_string (P := Tryd.prog) Tryd.underlying22 Tryd.underlying5 Tryd.underlying9 (Kd.own_of_R HO255.out); have hcv16 := fun n_ : Nat => own_string (P := Tryd.prog) Tryd.underlying22 Tryd.underlying5 Tryd.underlying9 (Kd.own_of_R (Kd.R_drewN HO255.out n_)); have CA6 := fun W (hLWE : LaidE W) => mandrellaw06_num.calls t251 t256 W hLWE A6.out; try simp only [errW_none, errW_some] at CA6) | (go_at_call 21; (with_reducible refine (CA6 _ ?side1).mono ?_); (case side1 => refine hLE.below ?_; repeat (first | (with_reducible first | exact HB.out | apply below_alloc | apply pw_below_drewN | apply below_drew1) | exact HB.out)); rintro e w17 ⟨rfl, hb⟩; have n0_ := Aside0.mk (Kd.V_below (by (with_reducible repeat (first | apply Kd.V_alloc | apply Kd.V_drewN | apply Kd.V_drew)); exact HO250.out) hb); have n1_ := Aside0.mk (Kd.R_below (by (with_reducible repeat (first | apply Kd.R_alloc | apply Kd.R_drewN | apply Kd.R_drew)); exact HO255.out) hb); have n2_ := Aside0.mk (below_step (by repeat (first | (with_reducible first | exact HB.out | apply below_alloc | apply pw_below_drewN | apply below_drew1) | exact HB.out)) hb); clear HO250; clear HO255; clear HB; have HO250 := n0_; have HO255 := n1_; have HB := n2_; clear n0_ n1_ n2_; (try clear hb); (try clear hb2); (try clear hk); (try clear hi)) | (go_at_call 20; (with_reducible refine (mandrellaw06_sameSections.calls k _ _ l1 _ _ l0 true _ ?side1 ?side2 ?side3 ?side4 A8.out).mono ?_); (case side1 => repeat (first | exact (Kd.C_below HR1.out HB.out) | (with_reducible refine Kd.C_alloc ?_ _) | (with_reducible refine Kd.C_drewN ?_ _) | (with_reducible refine Kd.C_drew ?_))); (case side2 => exact HC1.out); (case side3 => repeat (first | exact (Kd.C_below HR0.out HB.out) | (with_reducible refine Kd.C_alloc ?_ _) | (with_reducible refine Kd.C_drewN ?_ _) | (with_reducible refine Kd.C_drew ?_))); (case side4 => exact HC0.out); rintro e w' ⟨rfl, ⟨nd, rfl⟩⟩) | (go_at_call 17; (with_reducible refine (mandrellaw06_sure.calls  t258 _ A10.out).mono ?_); rintro e w18 ⟨rfl, hb⟩; have n0_ := Aside0.mk (Kd.V_below (by (with_reducible repeat (first | apply Kd.V_alloc | apply Kd.V_drewN | apply Kd.V_drew)); exact HO250.out) hb); have n1_ := Aside0.mk (Kd.R_below (by (with_reducible repeat (first | apply Kd.R_alloc | apply Kd.R_drewN | apply Kd.R_drew)); exact HO255.out) hb); have n2_ := Aside0.mk (below_step (by repeat (first | (with_reducible first | exact HB.out | apply below_alloc | apply pw_below_drewN | apply below_drew1) | exact HB.out)) hb); clear HO250; clear HO255; clear HB; have HO250 := n0_; have HO255 := n1_; have HB := n2_; clear n0_ n1_ n2_; (try clear hb); (try clear hb2); (try clear hk); (try clear hi)))
       go_ret
       exact ⟨by rw [← es]; first | rfl | (simp [*]; done), below_step HB0.out (by repeat (first | (with_reducible first | exact HB.out | apply below_alloc | apply pw_below_drewN | apply below_drew1) | exact HB.out))⟩
end Go.Proofs.YtljmikfpknmnnaaDoor.XS
