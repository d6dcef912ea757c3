/- The moves' sources: a map from each place to where its value is from. -/
import Derived.Test.YtaklfdlcedlmfaaXMx0
import Derived.Test.YtaklfdlcedlmfaaMap
namespace Go.Proofs.Ytaklfdlcedlmfaa.XM
open Go.RowKit Go.Proofs.YtaklfdlcedlmfaaW.PrintWords Go.Proofs.YtaklfdlcedlmfaaW.PrintLast Go.Proofs.YtaklfdlcedlmfaaW.PrintMore
open Mo
attribute [local go_sem] max2_int min2_int max_two min_two max_three min_three max_four min_four   -- for this text's walks alone
set_option linter.unusedVariables false
set_option linter.unusedSimpArgs false
theorem infoI : (Try.prog.info? 3).map (fun i => (i.zero, i.size, i.bytes)) = some (some (.int .i64 0), 1, 8) := by kernel_rfl
theorem infoIs : (Try.prog.info? 33).map (fun i => (i.zero, i.size, i.bytes)) = some (some (.slice none 0 0), 1, 24) := by kernel_rfl
def away (x : Int) : Bool := if x < 0 then true else decide (x > 1048576)
set_option maxHeartbeats 8000000 in
set_option maxRecDepth 100000 in
theorem aw.calls (a0 : Int) (w : World) : Calls Try.prog 13 #[.int .i64 a0] w fun e w' => e = .returned (.bool (away a0)) ∧ Drawn0 w w' := by
  by_cases c2 : a0 < 0
  · rw [away, if_pos c2]
    have c2b0 : decide (a0 < 0) = true := decide_eq_true c2
    clear c2
    go_enter Try.func13, Try.ntmps13
    go_wp2
    go_ret
    exact ⟨by first | rfl | (simp; done) | (simp [*]; done), by repeat (first | exact Drawn0.refl _ | apply Drawn0.step)⟩
  · rw [away, if_neg c2]
    have c2b0 : decide (a0 < 0) = false := decide_eq_false c2
    clear c2
    go_enter Try.func13, Try.ntmps13
    go_wp2
    go_ret
    exact ⟨by first | rfl | (simp; done) | (simp [*]; done), by repeat (first | exact Drawn0.refl _ | apply Drawn0.step)⟩
def srcStep (f : Int → Option Int) (m : S25) : Int → Option Int := if m.f0 = m.f1 then f else up f m.f0 (some m.f1)
def srcs (l : List S25) : Int → Option Int := l.foldl srcStep (fun _ => none)
theorem srcs_take (l : List S25) (i : Nat) (h : i < l.length) : srcs (l.take (i + 1)) = srcStep (srcs (l.take i)) (rd_T25 l (i : Int)) := by
  unfold srcs rd_T25
  rw [List.take_add_one, List.foldl_append, List.getElem?_eq_getElem h, Int.toNat_natCast, List.getD_eq_getElem?_getD, List.getElem?_eq_getElem h]
  rfl
def GoodM (l : List S25) : Prop := ∀ i : Nat, i < l.length → Wf (rd_T25 l (i : Int)).f0 ∧ Wf (rd_T25 l (i : Int)).f1
theorem wrap_succ (i n : Nat) (hi : i < n) (hn : n < 1000000000) : wrap64 ((i : Int) + 1) = ((i + 1 : Nat) : Int) := by unfold wrap64; omega
set_option maxHeartbeats 8000000 in
set_option maxRecDepth 100000 in
theorem moves_sources.calls (A0 : Option Addr) (c0 : Nat) (l0 : List S25) (w : World) (hr0 : Kd.C k25 w A0 l0.length l0) (hc0 : l0.length ≤ c0) (hg0 : GoodM l0) (hn0 : l0.length < 1000000000) :
    Calls Try.prog 9 #[.slice A0 l0.length c0] w fun e w' => ∃ b n, e = .returned (.map (some b)) ∧ IM w' b n (srcs l0) ∧ n ≤ l0.length ∧ w.heap.size ≤ b ∧ Below w.heap.size w w' := by
  have hu46 := Try.underlying25
  have HR0 := Aside0.mk hr0
  have HC0 := Aside0.mk hc0
  have HG0 := Aside0.mk hg0
  have HN0 := Aside0.mk hn0
  clear hr0 hc0 hg0 hn0
  obtain ⟨N, hN⟩ : ∃ N, N = l0.length := ⟨_, rfl⟩
  have HNN := Aside0.mk hN
  clear hN
  go_enter Try.func9, Try.ntmps9
  go_wp2_with ((with_reducible refine wp_make _ rfl rfl ?_); intro w1 b hb hm hB; have HM := Aside0.mk hm; have HB := Aside0.mk hB; have HE := Aside0.mk (Nat.le_of_eq hb); clear hm hB hb)
  go_loopg [9] N (fun kq v9 w' => ∃ (i n : Nat), v9 = .int .i64 (i : Int) ∧ Aside0 (kq + i = l0.length) ∧ Aside0 (IM w' b n (srcs (l0.take i))) ∧ Aside0 (n ≤ i) ∧ Aside0 (Below w.heap.size w w'))
  case atStart => exact ⟨0, 0, rfl, ⟨by have := HNN.out; omega⟩, ⟨HM.out⟩, ⟨Nat.le_refl _⟩, ⟨HB.out⟩⟩
  case round =>
    clear HB HM
    obtain ⟨i, n, rfl, HK, HM, HNI, HB⟩ := hrel
    by_cases hi : i < l0.length
    · obtain ⟨k1, rfl⟩ : ∃ k1, gk = k1 + 1 := ⟨gk - 1, by have := HK.out; omega⟩
      have hc : decide ((i : Int) < (l0.length : Int)) = true := decide_eq_true (by omega)
      have p1 : (0 ≤ (i : Int)) = True := eq_true (by omega)
      have q1 : ((i : Int) < (l0.length : Int)) = True := eq_true (by omega)
      obtain ⟨ad, e1, hx0, hx1⟩ := at_T25 (Kd.C_below HR0.out HB.out) (i : Int) (by omega) (by omega)
      cases e1
      rw [Int.toNat_natCast] at hx0 hx1
      have HG := Aside0.mk (HG0.out i hi)
      have HT := Aside0.mk (srcs_take l0 i hi)
      have hw := wrap_succ i l0.length hi HN0.out
      have HI := Aside0.mk hi
      clear hi
      obtain ⟨m, hm⟩ : ∃ m, m = rd_T25 l0 (i : Int) := ⟨_, rfl⟩
      rw [← hm] at hx0 hx1 HG HT
      clear hm
      by_cases hd : m.f0 = m.f1
      · have hdb : (m.f0 != m.f1) = false := by simp [hd]
        have HM2 := Aside0.mk (show IM wr b n (srcs (l0.take (i + 1))) by rw [HT.out, srcStep, if_pos hd]; exact HM.out)
        clear hd HM
        go_wp2_with (first
          | ((with_reducible refine gate_dst (N := 5) rfl ?_); refine box_event ?hg (N := 5) ?hd (cs := #[.int .i64 0, .int .i64 0]) (t := 25) ?hr ?_; (case hd => rfl); (case hg => rfl); (case hr => first | (go_simp; done) | (go_simp; rfl)); intro gb hg w7 hbox hb; have HM3 := Aside0.mk (HM2.out.block (hb.block b HM2.out.lt)); have HNE := Aside0.mk (show b ≠ gb from fun e => by have := HM2.out.lt; omega); have HGE := Aside0.mk (show w.heap.size ≤ gb by have := HB.out.size; omega); have HB3 := Aside0.mk (below_step HB.out hb); have hcz0 : w7.cell? ⟨gb, 0, none⟩ = some (.int .i64 0) := (blk_cell hbox 0).trans rfl; have hcz1 : w7.cell? ⟨gb, 1, none⟩ = some (.int .i64 0) := (blk_cell hbox 1).trans rfl; have hfz0 := blk_frozen hbox 0; have hfz1 := blk_frozen hbox 1; clear HM2 HB hb hbox hg))
        go_roundg k1
        case measure => omega
        case rel => exact ⟨i + 1, n, by rw [hw], ⟨by have := HK.out; omega⟩, ⟨(HM3.out.set HNE.out _).set HNE.out _⟩, ⟨by have := HNI.out; omega⟩, ⟨below_set (below_set HB3.out HGE.out) HGE.out⟩⟩
      · have hdb : (m.f0 != m.f1) = true := by simp [hd]
        have HT2 := Aside0.mk (show srcs (l0.take (i + 1)) = up (srcs (l0.take i)) m.f0 (some m.f1) by rw [HT.out, srcStep, if_neg hd])
        have HM2 := HM
        clear hd HM
        go_wp2_with (first
          | ((with_reducible refine gate_dst (N := 5) rfl ?_); refine box_event ?hg (N := 5) ?hd (cs := #[.int .i64 0, .int .i64 0]) (t := 25) ?hr ?_; (case hd => rfl); (case hg => rfl); (case hr => first | (go_simp; done) | (go_simp; rfl)); intro gb hg w7 hbox hb; have HM3 := Aside0.mk (HM2.out.block (hb.block b HM2.out.lt)); have HNE := Aside0.mk (show b ≠ gb from fun e => by have := HM2.out.lt; omega); have HGE := Aside0.mk (show w.heap.size ≤ gb by have := HB.out.size; omega); have HB3 := Aside0.mk (below_step HB.out hb); have hcz0 : w7.cell? ⟨gb, 0, none⟩ = some (.int .i64 0) := (blk_cell hbox 0).trans rfl; have hcz1 : w7.cell? ⟨gb, 1, none⟩ = some (.int .i64 0) := (blk_cell hbox 1).trans rfl; have hfz0 := blk_frozen hbox 0; have hfz1 := blk_frozen hbox 1; clear HM2 HB hb hbox hg)
          | (at_mapUpdate; refine wp_upd _ rfl _ _ _ rfl b n (srcs (l0.take i)) rfl ((HM3.out.set HNE.out _).set HNE.out _) (by have := HNI.out; have := HN0.out; have := HI.out; omega) m.f0 m.f1 rfl rfl HG.out.1 HG.out.2 ?_; intro w8 hm8 ht8; have HM8 := Aside0.mk hm8; have HB8 := Aside0.mk (below_turned (below_set (below_set HB3.out HGE.out) HGE.out) HE.out ht8); clear hm8 ht8))
        go_roundg k1
        case measure => omega
        case rel => exact ⟨i + 1, n + 1, by rw [hw], ⟨by have := HK.out; omega⟩, ⟨by rw [HT2.out]; exact HM8.out⟩, ⟨by have := HNI.out; omega⟩, ⟨HB8.out⟩⟩
    · have hc : decide ((i : Int) < (l0.length : Int)) = false := decide_eq_false (by omega)
      have HI := Aside0.mk hi
      go_wp2
      go_ret
      exact ⟨b, n, rfl, by have h := HM.out; rw [List.take_of_length_le (by have := HI.out; omega)] at h; exact h, by have := HNI.out; have := HK.out; omega, HE.out, HB.out⟩
end Go.Proofs.Ytaklfdlcedlmfaa.XM
