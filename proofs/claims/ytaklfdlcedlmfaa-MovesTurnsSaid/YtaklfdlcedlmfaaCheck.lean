/- Whether moves can be done all at once: the walk. -/
import Derived.Test.YtaklfdlcedlmfaaSrc
namespace Go.Proofs.Ytaklfdlcedlmfaa.XM
open Go.RowKit Go.Proofs.YtaklfdlcedlmfaaW.PrintWords Go.Proofs.YtaklfdlcedlmfaaW.PrintLast Go.Proofs.YtaklfdlcedlmfaaW.PrintMore
open Mo
attribute [local go_sem] max2_int min2_int max_two min_two max_three min_three max_four min_four   -- for this text's walks alone
set_option linter.unusedVariables false
set_option linter.unusedSimpArgs false
theorem away_wf {x : Int} (h : away x = false) : Wf x := by
  unfold away at h
  split at h
  · cases h
  · have := of_decide_eq_false h
    simp [Wf, Lit.wf, IntKind.min, IntKind.max, IntKind.signed, IntKind.bits]
    omega
/-- Can they be done all at once, those of the set being written already? -/
def okGo : List S25 → (Int → Bool) → Bool
  | [], _ => true
  | m :: l, g => if away m.f0 = true then false else if away m.f1 = true then false else if g m.f0 = true then false else okGo l (fun y => if y = m.f0 then true else g y)
def okM (l : List S25) : Bool := okGo l (fun _ => false)
theorem drop_rd (l : List S25) (i : Nat) (h : i < l.length) : l.drop i = rd_T25 l (i : Int) :: l.drop (i + 1) := by
  unfold rd_T25
  rw [List.drop_eq_getElem_cons h, Int.toNat_natCast, List.getD_eq_getElem?_getD, List.getElem?_eq_getElem h]
  rfl
set_option maxHeartbeats 8000000 in
set_option maxRecDepth 100000 in
theorem moves_Check.walk (A0 : Option Addr) (c0 : Nat) (l0 : List S25) (w : World) (hr0 : Kd.C k25 w A0 l0.length l0) (hc0 : l0.length ≤ c0) (hn0 : l0.length < 1000000000) :
    Calls Try.prog 8 #[.slice A0 l0.length c0] w fun e w' => e = .returned (errW (if okM l0 = true then none else some 1)) ∧ Below w.heap.size w w' := by
  have hu46 := Try.underlying25
  have HR0 := Aside0.mk hr0
  have HC0 := Aside0.mk hc0
  have HN0 := Aside0.mk hn0
  clear hr0 hc0 hn0
  obtain ⟨N, hN⟩ : ∃ N, N = l0.length := ⟨_, rfl⟩
  have HNN := Aside0.mk hN
  clear hN
  obtain ⟨r, hr⟩ : ∃ r, r = okM l0 := ⟨_, rfl⟩
  rw [← hr]
  have HR := Aside0.mk hr
  clear hr
  go_enter Try.func8, Try.ntmps8
  go_wp2_with ((with_reducible refine wp_makeB _ rfl rfl ?_); intro w1 b hb hm hB; have HM := Aside0.mk hm; have HB := Aside0.mk hB; have HE := Aside0.mk (Nat.le_of_eq hb); clear hm hB hb)
  go_loopg [9] N (fun kq v9 w' => ∃ (i n : Nat) (g : Int → Bool), v9 = .int .i64 (i : Int) ∧ Aside0 (kq + i = l0.length) ∧ Aside0 (SM w' b n g) ∧ Aside0 (n ≤ i) ∧ Aside0 (r = okGo (l0.drop i) g) ∧ Aside0 (Below w.heap.size w w'))
  case atStart => exact ⟨0, 0, _, rfl, ⟨by have := HNN.out; omega⟩, ⟨HM.out⟩, ⟨Nat.le_refl _⟩, ⟨HR.out⟩, ⟨HB.out⟩⟩
  case round =>
    clear HB HM HR
    obtain ⟨i, n, g, rfl, HK, HM, HNI, HR, HB⟩ := hrel
    by_cases hi : i < l0.length
    · obtain ⟨k1, rfl⟩ : ∃ k1, gk = k1 + 1 := ⟨gk - 1, by have := HK.out; omega⟩
      have hc : decide ((i : Int) < (l0.length : Int)) = true := decide_eq_true (by omega)
      have p1 : (0 ≤ (i : Int)) = True := eq_true (by omega)
      have q1 : ((i : Int) < (l0.length : Int)) = True := eq_true (by omega)
      obtain ⟨ad, e1, hx0, hx1⟩ := at_T25 (Kd.C_below HR0.out HB.out) (i : Int) (by omega) (by omega)
      cases e1
      rw [Int.toNat_natCast] at hx0 hx1
      have hT := HR.out
      rw [drop_rd l0 i hi, okGo] at hT
      have hw := wrap_succ i l0.length hi HN0.out
      have HI := Aside0.mk hi
      clear hi HR
      obtain ⟨m, hm⟩ : ∃ m, m = rd_T25 l0 (i : Int) := ⟨_, rfl⟩
      rw [← hm] at hx0 hx1 hT
      clear hm
      by_cases h0 : away m.f0 = true
      · rw [if_pos h0] at hT
        subst hT
        have HA0 := Aside0.mk h0
        clear h0
        go_wp2_with (first
          | ((with_reducible refine gate_dst (N := 5) rfl ?_); refine box_event ?hg (N := 5) ?hd (cs := #[.int .i64 0, .int .i64 0]) (t := 25) ?hr ?_; (case hd => rfl); (case hg => rfl); (case hr => first | (go_simp; done) | (go_simp; rfl)); intro gb hg w7 hbox hb; have HM3 := Aside0.mk (HM.out.block (hb.block b HM.out.lt)); have HNE := Aside0.mk (show b ≠ gb from fun e => by have := HM.out.lt; omega); have HGE := Aside0.mk (show w.heap.size ≤ gb by have := HB.out.size; omega); have HB3 := Aside0.mk (below_step HB.out hb); have hcz0 : w7.cell? ⟨gb, 0, none⟩ = some (.int .i64 0) := (blk_cell hbox 0).trans rfl; have hcz1 : w7.cell? ⟨gb, 1, none⟩ = some (.int .i64 0) := (blk_cell hbox 1).trans rfl; have hfz0 := blk_frozen hbox 0; have hfz1 := blk_frozen hbox 1; clear HM HB hb hbox hg)
          | (go_at_call 13; refine (aw.calls m.f0 _).mono ?_; rintro e w8 ⟨rfl, ⟨nd, rfl⟩⟩; rw [HA0.out]))
        go_ret
        exact ⟨rfl, by repeat (first | exact HB3.out | apply pw_below_drewN | refine below_set ?_ HGE.out)⟩
      · rw [if_neg h0] at hT
        have HA0 := Aside0.mk ((Bool.not_eq_true _).mp h0)
        have HW := Aside0.mk (away_wf HA0.out)
        clear h0
        by_cases h1 : away m.f1 = true
        · rw [if_pos h1] at hT
          subst hT
          have HA1 := Aside0.mk h1
          clear h1
          go_wp2_with (first
            | ((with_reducible refine gate_dst (N := 5) rfl ?_); refine box_event ?hg (N := 5) ?hd (cs := #[.int .i64 0, .int .i64 0]) (t := 25) ?hr ?_; (case hd => rfl); (case hg => rfl); (case hr => first | (go_simp; done) | (go_simp; rfl)); intro gb hg w7 hbox hb; have HM3 := Aside0.mk (HM.out.block (hb.block b HM.out.lt)); have HNE := Aside0.mk (show b ≠ gb from fun e => by have := HM.out.lt; omega); have HGE := Aside0.mk (show w.heap.size ≤ gb by have := HB.out.size; omega); have HB3 := Aside0.mk (below_step HB.out hb); have hcz0 : w7.cell? ⟨gb, 0, none⟩ = some (.int .i64 0) := (blk_cell hbox 0).trans rfl; have hcz1 : w7.cell? ⟨gb, 1, none⟩ = some (.int .i64 0) := (blk_cell hbox 1).trans rfl; have hfz0 := blk_frozen hbox 0; have hfz1 := blk_frozen hbox 1; clear HM HB hb hbox hg)
            | (go_at_call 13; first | (refine (aw.calls m.f0 _).mono ?_; rintro e w8 ⟨rfl, ⟨nd, rfl⟩⟩; rw [HA0.out]) | (refine (aw.calls m.f1 _).mono ?_; rintro e w9 ⟨rfl, ⟨nd2, rfl⟩⟩; rw [HA1.out])))
          go_ret
          exact ⟨rfl, by repeat (first | exact HB3.out | apply pw_below_drewN | refine below_set ?_ HGE.out)⟩
        · rw [if_neg h1] at hT
          have HA1 := Aside0.mk ((Bool.not_eq_true _).mp h1)
          clear h1
          by_cases h2 : g m.f0 = true
          · rw [if_pos h2] at hT
            subst hT
            have HS := Aside0.mk h2
            clear h2
            go_wp2_with (first
              | ((with_reducible refine gate_dst (N := 5) rfl ?_); refine box_event ?hg (N := 5) ?hd (cs := #[.int .i64 0, .int .i64 0]) (t := 25) ?hr ?_; (case hd => rfl); (case hg => rfl); (case hr => first | (go_simp; done) | (go_simp; rfl)); intro gb hg w7 hbox hb; have HM3 := Aside0.mk (HM.out.block (hb.block b HM.out.lt)); have HNE := Aside0.mk (show b ≠ gb from fun e => by have := HM.out.lt; omega); have HGE := Aside0.mk (show w.heap.size ≤ gb by have := HB.out.size; omega); have HB3 := Aside0.mk (below_step HB.out hb); have hcz0 : w7.cell? ⟨gb, 0, none⟩ = some (.int .i64 0) := (blk_cell hbox 0).trans rfl; have hcz1 : w7.cell? ⟨gb, 1, none⟩ = some (.int .i64 0) := (blk_cell hbox 1).trans rfl; have hfz0 := blk_frozen hbox 0; have hfz1 := blk_frozen hbox 1; clear HM HB hb hbox hg)
              | (go_at_call 13; first | (refine (aw.calls m.f0 _).mono ?_; rintro e w8 ⟨rfl, ⟨nd, rfl⟩⟩; rw [HA0.out]) | (refine (aw.calls m.f1 _).mono ?_; rintro e w9 ⟨rfl, ⟨nd2, rfl⟩⟩; rw [HA1.out]))
              | (at_lookup; (try (refine gate_guard (by rfl) ?_; dsimp only)); refine wp_lookB _ rfl _ _ rfl b n g rfl ((((HM3.out.set HNE.out _).set HNE.out _).block rfl)) m.f0 rfl HW.out ?_; rw [HS.out]))
            go_ret
            exact ⟨rfl, by repeat (first | exact HB3.out | apply pw_below_drewN | refine below_set ?_ HGE.out)⟩
          · rw [if_neg h2] at hT
            have HS := Aside0.mk ((Bool.not_eq_true _).mp h2)
            have HT := Aside0.mk hT
            clear h2 hT
            go_wp2_with (first
              | ((with_reducible refine gate_dst (N := 5) rfl ?_); refine box_event ?hg (N := 5) ?hd (cs := #[.int .i64 0, .int .i64 0]) (t := 25) ?hr ?_; (case hd => rfl); (case hg => rfl); (case hr => first | (go_simp; done) | (go_simp; rfl)); intro gb hg w7 hbox hb; have HM3 := Aside0.mk (HM.out.block (hb.block b HM.out.lt)); have HNE := Aside0.mk (show b ≠ gb from fun e => by have := HM.out.lt; omega); have HGE := Aside0.mk (show w.heap.size ≤ gb by have := HB.out.size; omega); have HB3 := Aside0.mk (below_step HB.out hb); have hcz0 : w7.cell? ⟨gb, 0, none⟩ = some (.int .i64 0) := (blk_cell hbox 0).trans rfl; have hcz1 : w7.cell? ⟨gb, 1, none⟩ = some (.int .i64 0) := (blk_cell hbox 1).trans rfl; have hfz0 := blk_frozen hbox 0; have hfz1 := blk_frozen hbox 1; clear HM HB hb hbox hg)
              | (go_at_call 13; first | (refine (aw.calls m.f0 _).mono ?_; rintro e w8 ⟨rfl, ⟨nd, rfl⟩⟩; rw [HA0.out]) | (refine (aw.calls m.f1 _).mono ?_; rintro e w9 ⟨rfl, ⟨nd2, rfl⟩⟩; rw [HA1.out]))
              | (at_lookup; (try (refine gate_guard (by rfl) ?_; dsimp only)); refine wp_lookB _ rfl _ _ rfl b n g rfl ((((HM3.out.set HNE.out _).set HNE.out _).block rfl)) m.f0 rfl HW.out ?_; rw [HS.out])
              | (at_mapUpdate; refine wp_updB _ rfl _ _ _ rfl b n g rfl ((((HM3.out.set HNE.out _).set HNE.out _).block rfl)) (by have := HNI.out; have := HN0.out; have := HI.out; omega) m.f0 true rfl rfl HW.out ?_; intro w8 hm8 ht8; have HM8 := Aside0.mk hm8; have HB8 := Aside0.mk (below_turned (by repeat (first | exact HB3.out | apply pw_below_drewN | refine below_set ?_ HGE.out)) HE.out ht8); clear hm8 ht8))
            go_roundg k1
            case measure => omega
            case rel => exact ⟨i + 1, n + 1, _, by rw [hw], ⟨by have := HK.out; omega⟩, ⟨HM8.out⟩, ⟨by have := HNI.out; omega⟩, ⟨HT.out⟩, ⟨HB8.out⟩⟩
    · have hc : decide ((i : Int) < (l0.length : Int)) = false := decide_eq_false (by omega)
      have hT := HR.out
      rw [List.drop_of_length_le (by omega), okGo] at hT
      subst hT
      clear HR
      go_wp2
      go_ret
      exact ⟨rfl, HB.out⟩
end Go.Proofs.Ytaklfdlcedlmfaa.XM
