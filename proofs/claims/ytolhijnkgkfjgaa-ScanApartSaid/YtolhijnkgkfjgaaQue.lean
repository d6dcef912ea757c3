/- The queue: who comes first. -/
import Derived.Test.YtolhijnkgkfjgaaXCx1
namespace Go.Proofs.Ytolhijnkgkfjgaa.XC
open Go.RowKit Go.Proofs.YtolhijnkgkfjgaaW.PrintWords Go.Proofs.YtolhijnkgkfjgaaW.PrintLast Go.Proofs.YtolhijnkgkfjgaaW.PrintMore
attribute [local go_sem] max2_int min2_int max_two min_two max_three min_three max_four min_four   -- for this text's walks alone
set_option linter.unusedVariables false
set_option linter.unusedSimpArgs false
abbrev Sp := S28
def rdS (l : List Sp) (i : Int) : Sp := rd_T28 l i
def frmS (l : List Sp) (i : Int) : Int := (rd_T25 (rdS l i).f0 0).f0
/-- Which of two comes first. -/
def lessF (l : List Sp) (a b : Int) : Bool := if frmS l a = frmS l b then decide (a < b) else decide (frmS l a < frmS l b)
/-- The queue's block. -/
def QS (w : World) (g : Nat) (A : Option Addr) (n c : Nat) (v : Value) : Prop := w.heap[g]? = some (.cells #[.slice A n c, v] 56 (0, 0))
theorem QS.block {w w' : World} {g n c : Nat} {A : Option Addr} {v : Value} (h : QS w g A n c v) (hb : w'.heap[g]? = w.heap[g]?) : QS w' g A n c v := hb.trans h
theorem QS.lt {w : World} {g n c : Nat} {A : Option Addr} {v : Value} (h : QS w g A n c v) : g < w.heap.size := blk_lt h
theorem QS.c0 {w : World} {g n c : Nat} {A : Option Addr} {v : Value} (h : QS w g A n c v) : w.cell? ⟨g, 0, none⟩ = some (.slice A n c) := (blk_cell h 0).trans rfl
theorem QS.c1 {w : World} {g n c : Nat} {A : Option Addr} {v : Value} (h : QS w g A n c v) : w.cell? ⟨g, 1, none⟩ = some v := (blk_cell h 1).trans rfl
theorem QS.z1 {w : World} {g n c : Nat} {A : Option Addr} {v : Value} (h : QS w g A n c v) : w.frozen? ⟨g, 1, none⟩ = false := blk_frozen h 1
theorem QS.put {w : World} {g n c : Nat} {A : Option Addr} {v : Value} (h : QS w g A n c v) (v1 : Value) : QS (w.setCell ⟨g, 1, none⟩ v1) g A n c v1 := by
  unfold QS at h ⊢
  have hl := blk_lt h
  have he : w.heap[g]? = some w.heap[g] := Array.getElem?_eq_getElem hl
  rw [he] at h
  have h2 : w.heap[g] = .cells #[.slice A n c, v] 56 (0, 0) := Option.some.inj h
  have h3 : (w.setCell ⟨g, 1, none⟩ v1).heap[g]? = (w.heap[g]?).map (fun x => match x with | .cells c elem fz => .cells (c.setIfInBounds 1 v1) elem fz | o => o) := by
    show (w.heap.modify g _)[g]? = _
    rw [Array.getElem?_modify, if_pos rfl]
    rfl
  rw [h3, he, h2]
  rfl
/-- Ids that may wait. -/
def Ids (l : List Sp) (ids : List Int) : Prop := ∀ x ∈ ids, 0 ≤ x ∧ x < (l.length : Int) ∧ 0 < (rdS l x).f0.length
theorem Ids.at {l : List Sp} {ids : List Int} (h : Ids l ids) {i : Nat} (hi : i < ids.length) : 0 ≤ rd ids (i : Int) ∧ rd ids (i : Int) < (l.length : Int) ∧ 0 < (rdS l (rd ids (i : Int))).f0.length := by
  refine h _ ?_
  unfold rd
  rw [Int.toNat_natCast, List.getD_eq_getElem?_getD, List.getElem?_eq_getElem hi]
  exact List.getElem_mem hi
abbrev RI (w : World) (B : Nat) (v : Value) (xs : List Int) : Prop := Kd.R (Kd.int .i64) 3 w B (fun _ => True) v xs
set_option maxHeartbeats 8000000 in
set_option maxRecDepth 100000 in
theorem q_less (w0 w : World) (hB : Below w0.heap.size w0 w) (A : Option Addr) (c : Nat) (l : List Sp) (hr : Kd.C k28 w0 A l.length l) (g B : Nat) (v : Value) (ids : List Int) (hq : QS w g A l.length c v) (hv : RI w B v ids) (hids : Ids l ids) (i j : Nat) (hi : i < ids.length) (hj : j < ids.length) :
    Calls Try.prog 61 #[.pointer (some ⟨g, 0, none⟩), .int .i64 (i : Int), .int .i64 (j : Int)] w fun e w' => e = .returned (.bool (lessF l (rd ids (i : Int)) (rd ids (j : Int)))) ∧ Drawn0 w w' := by
  obtain ⟨AV, cV, rfl, hcV, hC⟩ := Kd.R_reads hv
  have hx0 := hq.c0
  have hx1 := hq.c1
  obtain ⟨adi, e1, hxi⟩ := Kd.at_int hC (i : Int) (by omega) (by omega)
  cases e1
  obtain ⟨_, e1, hxj⟩ := Kd.at_int hC (j : Int) (by omega) (by omega)
  cases e1
  have g1 := hids.at hi
  have g2 := hids.at hj
  obtain ⟨a, ha⟩ : ∃ a, a = rd ids (i : Int) := ⟨_, rfl⟩
  obtain ⟨b, hb⟩ : ∃ b, b = rd ids (j : Int) := ⟨_, rfl⟩
  rw [← ha] at hxi g1 ⊢
  rw [← hb] at hxj g2 ⊢
  obtain ⟨ads, A1, c1, e1, hs1, _, hl1, hi1⟩ := at_T28 hr a g1.1 g1.2.1
  cases e1
  obtain ⟨_, A2, c2, e1, hs2, _, hl2, hi2⟩ := at_T28 hr b g2.1 g2.2.1
  cases e1
  obtain ⟨ad1, e1, hf1, _⟩ := at_T25 hi1 0 (by omega) (by have := g1.2.2; unfold rdS at this; omega)
  cases e1
  obtain ⟨ad2, e1, hf2, _⟩ := at_T25 hi2 0 (by omega) (by have := g2.2.2; unfold rdS at this; omega)
  cases e1
  rw [show ((0 : Int)).toNat = 0 from rfl, show 0 * 2 = 0 from rfl, Addr.add_zero'] at hf1 hf2
  have hs1 := pw_cell_below hB hs1
  have hs2 := pw_cell_below hB hs2
  have hf1 := pw_cell_below hB hf1
  have hf2 := pw_cell_below hB hf2
  rw [Int.toNat_natCast] at hxi hxj
  have p1 : (0 ≤ (i : Int)) = True := eq_true (by omega)
  have p2 : (0 ≤ (j : Int)) = True := eq_true (by omega)
  have p3 : ((i : Int) < (ids.length : Int)) = True := eq_true (by omega)
  have p4 : ((j : Int) < (ids.length : Int)) = True := eq_true (by omega)
  have q1 : (i < ids.length) = True := eq_true hi
  have q2 : (j < ids.length) = True := eq_true hj
  have p5 : (0 ≤ a) = True := eq_true g1.1
  have p6 : (0 ≤ b) = True := eq_true g2.1
  have p7 : (a < (l.length : Int)) = True := eq_true g1.2.1
  have p8 : (b < (l.length : Int)) = True := eq_true g2.2.1
  have p9 : (0 < (rd_T28 l a).f0.length) = True := eq_true g1.2.2
  have p10 : (0 < (rd_T28 l b).f0.length) = True := eq_true g2.2.2
  have p11 : ((0 : Int) < ((rd_T28 l a).f0.length : Int)) = True := eq_true (by have := g1.2.2; unfold rdS at this; omega)
  have p12 : ((0 : Int) < ((rd_T28 l b).f0.length : Int)) = True := eq_true (by have := g2.2.2; unfold rdS at this; omega)
  clear g1 g2 ha hb hi hj hids hr hq hv hC hl1 hl2 hi1 hi2 hcV hB
  obtain ⟨x, hx⟩ : ∃ x, x = (rd_T25 (rd_T28 l a).f0 0).f0 := ⟨_, rfl⟩
  obtain ⟨y, hy⟩ : ∃ y, y = (rd_T25 (rd_T28 l b).f0 0).f0 := ⟨_, rfl⟩
  rw [← hx] at hf1
  rw [← hy] at hf2
  obtain ⟨n1, hn1⟩ : ∃ n1, n1 = (rd_T28 l a).f0.length := ⟨_, rfl⟩
  obtain ⟨n2, hn2⟩ : ∃ n2, n2 = (rd_T28 l b).f0.length := ⟨_, rfl⟩
  rw [← hn1] at hs1 p9 p11
  rw [← hn2] at hs2 p10 p12
  have HX := Aside0.mk hx
  have HY := Aside0.mk hy
  clear hx hy hn1 hn2
  by_cases hxy : x = y
  · have hL : lessF l a b = decide (a < b) := by unfold lessF frmS rdS; rw [← HX.out, ← HY.out, if_pos hxy]
    rw [hL]
    have hb1 : (x != y) = false := bne_eq_false_iff_eq.mpr hxy
    clear hL HX HY hxy
    go_enter Try.func61, Try.ntmps61
    go_wp2
    repeat (go_quiet (fail); try go_wp2)
    go_ret
    exact ⟨rfl, _, rfl⟩
  · have hL : lessF l a b = decide (x < y) := by unfold lessF frmS rdS; rw [← HX.out, ← HY.out, if_neg hxy]
    rw [hL]
    have hb1 : (x != y) = true := bne_iff_ne.mpr hxy
    clear hL HX HY hxy
    go_enter Try.func61, Try.ntmps61
    go_wp2
    repeat (go_quiet (fail); try go_wp2)
    go_ret
    exact ⟨rfl, _, rfl⟩
end Go.Proofs.Ytolhijnkgkfjgaa.XC
