/- The queue: who comes first. The queue: two are swapped, one comes in, one goes out. The queue: one comes in, one goes out. The heap over the queue: up, down, Push, Pop. The heap over the queue: down, Push, Pop. The heap over the queue: Len, Push, Pop. -/
import Derived.Test.YtolhijnkgkfjgaaDoorXCx1
namespace Go.Proofs.YtolhijnkgkfjgaaDoor.XC
open Go.RowKit Go.Proofs.YtolhijnkgkfjgaaDoorW.PrintWords Go.Proofs.YtolhijnkgkfjgaaDoorW.PrintLast Go.Proofs.YtolhijnkgkfjgaaDoorW.PrintMore
attribute [local go_sem] max2_int min2_int max_two min_two max_three min_three max_four min_four   -- for this text's walks alone
set_option linter.unusedVariables false
set_option linter.unusedSimpArgs false
abbrev Sp := S44
def rdS (l : List Sp) (i : Int) : Sp := rd_T44 l i
def frmS (l : List Sp) (i : Int) : Int := (rd_T41 (rdS l i).f0 0).f0
/-- Which of two comes first. -/
def lessF (l : List Sp) (a b : Int) : Bool := if frmS l a = frmS l b then decide (a < b) else decide (frmS l a < frmS l b)
/-- The queue's block. -/
def QS (w : World) (g : Nat) (A : Option Addr) (n c : Nat) (v : Value) : Prop := w.heap[g]? = some (.cells #[.slice A n c, v] 54 (0, 0))
theorem QS.block {w w' : World} {g n c : Nat} {A : Option Addr} {v : Value} (h : QS w g A n c v) (hb : w'.heap[g]? = w.heap[g]?) : QS w' g A n c v := hb.trans h
theorem QS.lt {w : World} {g n c : Nat} {A : Option Addr} {v : Value} (h : QS w g A n c v) : g < w.heap.size := blk_lt h
theorem QS.c0 {w : World} {g n c : Nat} {A : Option Addr} {v : Value} (h : QS w g A n c v) : w.cell? ⟨g, 0, none⟩ = some (.slice A n c) := (blk_cell h 0).trans rfl
theorem QS.c1 {w : World} {g n c : Nat} {A : Option Addr} {v : Value} (h : QS w g A n c v) : w.cell? ⟨g, 1, none⟩ = some v := (blk_cell h 1).trans rfl
theorem QS.z1 {w : World} {g n c : Nat} {A : Option Addr} {v : Value} (h : QS w g A n c v) : w.frozen? ⟨g, 1, none⟩ = false := blk_frozen h 1
theorem QS.put {w : World} {g n c : Nat} {A : Option Addr} {v : Value} (h : QS w g A n c v) (v1 : Value) : QS (w.setCell ⟨g, 1, none⟩ v1) g A n c v1 := by
  unfold QS at h ⊢
  have hl := blk_lt h
  have he : w.heap[g]? = some w.heap[g] := Array.getElem?_eq_getElem hl
  rw [he] at h
  have h2 : w.heap[g] = .cells #[.slice A n c, v] 54 (0, 0) := Option.some.inj h
  have h3 : (w.setCell ⟨g, 1, none⟩ v1).heap[g]? = (w.heap[g]?).map (fun x => match x with | .cells c elem fz => .cells (c.setIfInBounds 1 v1) elem fz | o => o) := by
    show (w.heap.modify g _)[g]? = _
    rw [Array.getElem?_modify, if_pos rfl]
    rfl
  rw [h3, he, h2]
  rfl
/-- Ids that may wait. -/
def Ids (l : List Sp) (ids : List Int) : Prop := ∀ x ∈ ids, 0 ≤ x ∧ x < (l.length : Int) ∧ 0 < (rdS l x).f0.length
theorem Ids.at {l : List Sp} {ids : List Int} (h : Ids l ids) {i : Nat} (hi : i < ids.length) : 0 ≤ rd ids (i : Int) ∧ rd ids (i : Int) < (l.length : Int) ∧ 0 < (rdS l (rd ids (i : Int))).f0.length := by
  refine h _ ?_
  unfold rd
  rw [Int.toNat_natCast, List.getD_eq_getElem?_getD, List.getElem?_eq_getElem hi]
  exact List.getElem_mem hi
abbrev RI (w : World) (B : Nat) (v : Value) (xs : List Int) : Prop := Kd.R (Kd.int .i64) 3 w B (fun _ => True) v xs
set_option maxHeartbeats 8000000 in
set_option maxRecDepth 100000 in
theorem q_less (w0 w : World) (hB : Below w0.heap.size w0 w) (A : Option Addr) (c : Nat) (l : List Sp) (hr : Kd.C k44 w0 A l.length l) (g B : Nat) (v : Value) (ids : List Int) (hq : QS w g A l.length c v) (hv : RI w B v ids) (hids : Ids l ids) (i j : Nat) (hi : i < ids.length) (hj : j < ids.length) :
    Calls Tryd.prog 71 #[.pointer (some ⟨g, 0, none⟩), .int .i64 (i : Int), .int .i64 (j : Int)] w fun e w' => e = .returned (.bool (lessF l (rd ids (i : Int)) (rd ids (j : Int)))) ∧ Drawn0 w w' := by
  obtain ⟨AV, cV, rfl, hcV, hC⟩ := Kd.R_reads hv
  have hx0 := hq.c0
  have hx1 := hq.c1
  obtain ⟨adi, e1, hxi⟩ := Kd.at_int hC (i : Int) (by omega) (by omega)
  cases e1
  obtain ⟨_, e1, hxj⟩ := Kd.at_int hC (j : Int) (by omega) (by omega)
  cases e1
  have g1 := hids.at hi
  have g2 := hids.at hj
  obtain ⟨a, ha⟩ : ∃ a, a = rd ids (i : Int) := ⟨_, rfl⟩
  obtain ⟨b, hb⟩ : ∃ b, b = rd ids (j : Int) := ⟨_, rfl⟩
  rw [← ha] at hxi g1 ⊢
  rw [← hb] at hxj g2 ⊢
  obtain ⟨ads, A1, c1, e1, hs1, _, hl1, hi1⟩ := at_T44 hr a g1.1 g1.2.1
  cases e1
  obtain ⟨_, A2, c2, e1, hs2, _, hl2, hi2⟩ := at_T44 hr b g2.1 g2.2.1
  cases e1
  obtain ⟨ad1, e1, hf1, _⟩ := at_T41 hi1 0 (by omega) (by have := g1.2.2; unfold rdS at this; omega)
  cases e1
  obtain ⟨ad2, e1, hf2, _⟩ := at_T41 hi2 0 (by omega) (by have := g2.2.2; unfold rdS at this; omega)
  cases e1
  rw [show ((0 : Int)).toNat = 0 from rfl, show 0 * 2 = 0 from rfl, Addr.add_zero'] at hf1 hf2
  have hs1 := pw_cell_below hB hs1
  have hs2 := pw_cell_below hB hs2
  have hf1 := pw_cell_below hB hf1
  have hf2 := pw_cell_below hB hf2
  rw [Int.toNat_natCast] at hxi hxj
  have p1 : (0 ≤ (i : Int)) = True := eq_true (by omega)
  have p2 : (0 ≤ (j : Int)) = True := eq_true (by omega)
  have p3 : ((i : Int) < (ids.length : Int)) = True := eq_true (by omega)
  have p4 : ((j : Int) < (ids.length : Int)) = True := eq_true (by omega)
  have q1 : (i < ids.length) = True := eq_true hi
  have q2 : (j < ids.length) = True := eq_true hj
  have p5 : (0 ≤ a) = True := eq_true g1.1
  have p6 : (0 ≤ b) = True := eq_true g2.1
  have p7 : (a < (l.length : Int)) = True := eq_true g1.2.1
  have p8 : (b < (l.length : Int)) = True := eq_true g2.2.1
  have p9 : (0 < (rd_T44 l a).f0.length) = True := eq_true g1.2.2
  have p10 : (0 < (rd_T44 l b).f0.length) = True := eq_true g2.2.2
  have p11 : ((0 : Int) < ((rd_T44 l a).f0.length : Int)) = True := eq_true (by have := g1.2.2; unfold rdS at this; omega)
  have p12 : ((0 : Int) < ((rd_T44 l b).f0.length : Int)) = True := eq_true (by have := g2.2.2; unfold rdS at this; omega)
  clear g1 g2 ha hb hi hj hids hr hq hv hC hl1 hl2 hi1 hi2 hcV hB
  obtain ⟨x, hx⟩ : ∃ x, x = (rd_T41 (rd_T44 l a).f0 0).f0 := ⟨_, rfl⟩
  obtain ⟨y, hy⟩ : ∃ y, y = (rd_T41 (rd_T44 l b).f0 0).f0 := ⟨_, rfl⟩
  rw [← hx] at hf1
  rw [← hy] at hf2
  obtain ⟨n1, hn1⟩ : ∃ n1, n1 = (rd_T44 l a).f0.length := ⟨_, rfl⟩
  obtain ⟨n2, hn2⟩ : ∃ n2, n2 = (rd_T44 l b).f0.length := ⟨_, rfl⟩
  rw [← hn1] at hs1 p9 p11
  rw [← hn2] at hs2 p10 p12
  have HX := Aside0.mk hx
  have HY := Aside0.mk hy
  clear hx hy hn1 hn2
  by_cases hxy : x = y
  · have hL : lessF l a b = decide (a < b) := by unfold lessF frmS rdS; rw [← HX.out, ← HY.out, if_pos hxy]
    rw [hL]
    have hb1 : (x != y) = false := bne_eq_false_iff_eq.mpr hxy
    clear hL HX HY hxy
    go_enter Tryd.func71, Tryd.ntmps71
    go_wp2
    repeat (go_quiet (fail); try go_wp2)
    go_ret
    exact ⟨rfl, _, rfl⟩
  · have hL : lessF l a b = decide (x < y) := by unfold lessF frmS rdS; rw [← HX.out, ← HY.out, if_neg hxy]
    rw [hL]
    have hb1 : (x != y) = true := bne_iff_ne.mpr hxy
    clear hL HX HY hxy
    go_enter Tryd.func71, Tryd.ntmps71
    go_wp2
    repeat (go_quiet (fail); try go_wp2)
    go_ret
    exact ⟨rfl, _, rfl⟩
end Go.Proofs.YtolhijnkgkfjgaaDoor.XC
namespace Go.Proofs.YtolhijnkgkfjgaaDoor.XC
open Go.RowKit Go.Proofs.YtolhijnkgkfjgaaDoorW.PrintWords Go.Proofs.YtolhijnkgkfjgaaDoorW.PrintLast Go.Proofs.YtolhijnkgkfjgaaDoorW.PrintMore
attribute [local go_sem] max2_int min2_int max_two min_two max_three min_three max_four min_four   -- for this text's walks alone
set_option linter.unusedVariables false
set_option linter.unusedSimpArgs false
/-- Two of a list, swapped. -/
def swapF (xs : List Int) (i j : Nat) : List Int := (xs.set i (rd xs (j : Int))).set j (rd xs (i : Int))
theorem swapF_len (xs : List Int) (i j : Nat) : (swapF xs i j).length = xs.length := by unfold swapF; simp
/-- What the queue's calls write: its block, its row. -/
def QK (g : Nat) (v : Value) : Nat → Prop := fun k => k = g ∨ v.ownBlock = some k
set_option maxHeartbeats 8000000 in
set_option maxRecDepth 100000 in
theorem q_swap (w0 w : World) (hB : Below w0.heap.size w0 w) (A : Option Addr) (n c g B : Nat) (v : Value) (ids : List Int) (hq : QS w g A n c v) (hv : RI w B v ids) (hB0 : w0.heap.size ≤ B) (i j : Nat) (hi : i < ids.length) (hj : j < ids.length) :
    Calls Tryd.prog 74 #[.pointer (some ⟨g, 0, none⟩), .int .i64 (i : Int), .int .i64 (j : Int)] w fun e w' => e = .returned (.tuple #[]) ∧ QS w' g A n c v ∧ RI w' B v (swapF ids i j) ∧ Below w0.heap.size w0 w' ∧ Kept w w' (QK g v) := by
  obtain ⟨go, co, rfl, hgB, hgl, cells, hgo⟩ := Kd.R_form hv (by omega)
  have hx1 := hq.c1
  have HQ := Aside0.mk hq
  have HV := Aside0.mk (Kd.R_drew hv)
  have HB := Aside0.mk hB
  have HG := Aside0.mk hgB
  have HN := Aside0.mk (show go ≠ g from fun e => by unfold QS at hq; rw [e, hq] at hgo; injection hgo with hgo; injection hgo with _ hgo; exact absurd hgo (by decide))
  have p1 : (0 ≤ (i : Int)) = True := eq_true (by omega)
  have p2 : (0 ≤ (j : Int)) = True := eq_true (by omega)
  have p3 : ((i : Int) < (ids.length : Int)) = True := eq_true (by omega)
  have p4 : ((j : Int) < (ids.length : Int)) = True := eq_true (by omega)
  have q1 : (i < ids.length) = True := eq_true hi
  have q2 : (j < ids.length) = True := eq_true hj
  obtain ⟨hxi, hfi⟩ := Kd.R_celln 0 HV.out (i : Int) (by omega) (by omega)
  obtain ⟨hxj, hfj⟩ := Kd.R_celln 0 HV.out (j : Int) (by omega) (by omega)
  have HP1 := Aside0.mk (Kd.R_putn HV.out (i : Int) (rd ids (j : Int)))
  obtain ⟨hxj2, hfj2⟩ := Kd.R_celln 0 HP1.out (j : Int) (by omega) (by omega)
  have HP2 := Aside0.mk (Kd.R_putn HP1.out (j : Int) (rd ids (i : Int)))
  clear hq hv hB hgB hgl hgo hi hj
  simp only [Int.toNat_natCast] at hxi hfi hxj hfj hxj2 hfj2 HP1 HP2
  have HBD := Aside0.mk (below_drew1 HB.out)
  have HQD := Aside0.mk (show QS w.drew g A n c _ from HQ.out)
  have HKD := Aside0.mk (Kept.drew (Kept.refl w (QK g (.slice (some ⟨go, 0, none⟩) ids.length co))))
  go_enter Tryd.func74, Tryd.ntmps74
  try go_wp2
  refine start_ (n := 28) (S := fun w' => w'.cell? ⟨g, 1, none⟩ = some (.slice (some ⟨go, 0, none⟩) ids.length co) ∧ w'.cell? ⟨go, i, none⟩ = some (.int .i64 (rd ids (i : Int))) ∧ w'.cell? ⟨go, j, none⟩ = some (.int .i64 (rd ids (j : Int)))) (ds := [25, 27]) #[false, false, false, false, false, false, false, false, false, false, false, false, false, false, false, false, false, false, false, false, false, false, false, false, false, false, false, false] (by kernel_rfl) rfl rfl ⟨hx1, hxi, hxj⟩ (fun hHeld => ?_)
  generalize w.drew = w9 at HV HP1 HP2 HBD HQD HKD hxi hfi hxj hfj hxj2 hfj2 hHeld ⊢
  refine pure_ (i := 0) (N := some 6) (v := ?_) (a' := ?_) #[true, false, false, false, false, false, false, false, false, false, false, false, false, false, false, false, false, false, false, false, false, false, false, false, false, false, false, false] rfl rfl (by kernel_rfl) (fun _ _ _ h => h) (Or.inl ⟨by rfl, ?_⟩) ?_ ?_
  rotate_left
  · intro w'
    go_simp
    with_reducible rfl
  rotate_left
  · simp only [Act.put, List.setIfInBounds_toArray, List.set_cons_zero, List.set_cons_succ, i64_w, i32_w]
    rfl
  refine pure_ (i := 1) (N := some 7) (v := ?_) (a' := ?_) #[true, true, false, false, false, false, false, false, false, false, false, false, false, false, false, false, false, false, false, false, false, false, false, false, false, false, false, false] rfl rfl (by kernel_rfl) (fun _ _ _ h => h) (Or.inl ⟨by rfl, ?_⟩) ?_ ?_
  rotate_left
  · intro w'
    go_simp
    with_reducible rfl
  rotate_left
  · simp only [Act.put, List.setIfInBounds_toArray, List.set_cons_zero, List.set_cons_succ, i64_w, i32_w]
    rfl
  refine pure_ (i := 2) (N := some 8) (v := ?_) (a' := ?_) #[true, true, true, false, false, false, false, false, false, false, false, false, false, false, false, false, false, false, false, false, false, false, false, false, false, false, false, false] rfl rfl (by kernel_rfl) (fun _ _ _ h => h) (Or.inl ⟨by rfl, ?_⟩) ?_ ?_
  rotate_left
  · intro w'
    go_simp
    with_reducible rfl
  rotate_left
  · simp only [Act.put, List.setIfInBounds_toArray, List.set_cons_zero, List.set_cons_succ, i64_w, i32_w]
    rfl
  refine pure_ (i := 4) (N := some 10) (v := ?_) (a' := ?_) #[true, true, true, false, true, false, false, false, false, false, false, false, false, false, false, false, false, false, false, false, false, false, false, false, false, false, false, false] rfl rfl (by kernel_rfl) (fun _ _ _ h => h) (Or.inl ⟨by rfl, ?_⟩) ?_ ?_
  rotate_left
  · intro w'
    go_simp
    with_reducible rfl
  rotate_left
  · simp only [Act.put, List.setIfInBounds_toArray, List.set_cons_zero, List.set_cons_succ, i64_w, i32_w]
    rfl
  refine pure_ (i := 5) (N := some 11) (v := ?_) (a' := ?_) #[true, true, true, false, true, true, false, false, false, false, false, false, false, false, false, false, false, false, false, false, false, false, false, false, false, false, false, false] rfl rfl (by kernel_rfl) (fun _ _ _ h => h) (Or.inl ⟨by rfl, ?_⟩) ?_ ?_
  rotate_left
  · intro w'
    go_simp
    with_reducible rfl
  rotate_left
  · simp only [Act.put, List.setIfInBounds_toArray, List.set_cons_zero, List.set_cons_succ, i64_w, i32_w]
    rfl
  refine pure_ (i := 6) (N := some 12) (v := ?_) (a' := ?_) #[true, true, true, false, true, true, true, false, false, false, false, false, false, false, false, false, false, false, false, false, false, false, false, false, false, false, false, false] rfl rfl (by kernel_rfl) (fun _ _ _ h => h) (Or.inl ⟨by rfl, ?_⟩) ?_ ?_
  rotate_left
  · intro w'
    go_simp
    with_reducible rfl
  rotate_left
  · simp only [Act.put, List.setIfInBounds_toArray, List.set_cons_zero, List.set_cons_succ, i64_w, i32_w]
    rfl
  refine pure_ (i := 7) (N := some 13) (v := ?_) (a' := ?_) #[true, true, true, false, true, true, true, true, false, false, false, false, false, false, false, false, false, false, false, false, false, false, false, false, false, false, false, false] rfl rfl (by kernel_rfl) (fun _ _ _ h => h) (Or.inl ⟨by rfl, ?_⟩) ?_ ?_
  rotate_left
  · intro w'
    go_simp
    with_reducible rfl
  rotate_left
  · simp only [Act.put, List.setIfInBounds_toArray, List.set_cons_zero, List.set_cons_succ, i64_w, i32_w]
    rfl
  refine pure_ (i := 9) (N := some 15) (v := ?_) (a' := ?_) #[true, true, true, false, true, true, true, true, false, true, false, false, false, false, false, false, false, false, false, false, false, false, false, false, false, false, false, false] rfl rfl (by kernel_rfl) (fun _ _ _ h => h) (Or.inl ⟨by rfl, ?_⟩) ?_ ?_
  rotate_left
  · intro w'
    go_simp
    with_reducible rfl
  rotate_left
  · simp only [Act.put, List.setIfInBounds_toArray, List.set_cons_zero, List.set_cons_succ, i64_w, i32_w]
    rfl
  refine pure_ (i := 10) (N := some 16) (v := ?_) (a' := ?_) #[true, true, true, false, true, true, true, true, false, true, true, false, false, false, false, false, false, false, false, false, false, false, false, false, false, false, false, false] rfl rfl (by kernel_rfl) (fun _ _ _ h => h) (Or.inl ⟨by rfl, ?_⟩) ?_ ?_
  rotate_left
  · intro w'
    go_simp
    with_reducible rfl
  rotate_left
  · simp only [Act.put, List.setIfInBounds_toArray, List.set_cons_zero, List.set_cons_succ, i64_w, i32_w]
    rfl
  refine pure_ (i := 11) (N := some 17) (v := ?_) (a' := ?_) #[true, true, true, false, true, true, true, true, false, true, true, true, false, false, false, false, false, false, false, false, false, false, false, false, false, false, false, false] rfl rfl (by kernel_rfl) (fun _ _ _ h => h) (Or.inl ⟨by rfl, ?_⟩) ?_ ?_
  rotate_left
  · intro w'
    go_simp
    with_reducible rfl
  rotate_left
  · simp only [Act.put, List.setIfInBounds_toArray, List.set_cons_zero, List.set_cons_succ, i64_w, i32_w]
    rfl
  refine pure_ (i := 12) (N := some 18) (v := ?_) (a' := ?_) #[true, true, true, false, true, true, true, true, false, true, true, true, true, false, false, false, false, false, false, false, false, false, false, false, false, false, false, false] rfl rfl (by kernel_rfl) (fun _ _ _ h => h) (Or.inl ⟨by rfl, ?_⟩) ?_ ?_
  rotate_left
  · intro w'
    go_simp
    with_reducible rfl
  rotate_left
  · simp only [Act.put, List.setIfInBounds_toArray, List.set_cons_zero, List.set_cons_succ, i64_w, i32_w]
    rfl
  refine pure_ (i := 14) (N := some 20) (v := ?_) (a' := ?_) #[true, true, true, false, true, true, true, true, false, true, true, true, true, false, true, false, false, false, false, false, false, false, false, false, false, false, false, false] rfl rfl (by kernel_rfl) (fun _ _ _ h => h) (Or.inl ⟨by rfl, ?_⟩) ?_ ?_
  rotate_left
  · intro w'
    go_simp
    with_reducible rfl
  rotate_left
  · simp only [Act.put, List.setIfInBounds_toArray, List.set_cons_zero, List.set_cons_succ, i64_w, i32_w]
    rfl
  refine pure_ (i := 17) (N := some 23) (v := ?_) (a' := ?_) #[true, true, true, false, true, true, true, true, false, true, true, true, true, false, true, false, false, true, false, false, false, false, false, false, false, false, false, false] rfl rfl (by kernel_rfl) (fun _ _ _ h => h) (Or.inl ⟨by rfl, ?_⟩) ?_ ?_
  rotate_left
  · intro w'
    go_simp
    with_reducible rfl
  rotate_left
  · simp only [Act.put, List.setIfInBounds_toArray, List.set_cons_zero, List.set_cons_succ, i64_w, i32_w]
    rfl
  refine pure_ (i := 18) (N := some 24) (v := ?_) (a' := ?_) #[true, true, true, false, true, true, true, true, false, true, true, true, true, false, true, false, false, true, true, false, false, false, false, false, false, false, false, false] rfl rfl (by kernel_rfl) (fun _ _ _ h => h) (Or.inl ⟨by rfl, ?_⟩) ?_ ?_
  rotate_left
  · intro w'
    go_simp
    with_reducible rfl
  rotate_left
  · simp only [Act.put, List.setIfInBounds_toArray, List.set_cons_zero, List.set_cons_succ, i64_w, i32_w]
    rfl
  refine pure_ (i := 19) (N := some 25) (v := ?_) (a' := ?_) #[true, true, true, false, true, true, true, true, false, true, true, true, true, false, true, false, false, true, true, true, false, false, false, false, false, false, false, false] rfl rfl (by kernel_rfl) (fun _ _ _ h => h) (Or.inl ⟨by rfl, ?_⟩) ?_ ?_
  rotate_left
  · intro w'
    go_simp
    with_reducible rfl
  rotate_left
  · simp only [Act.put, List.setIfInBounds_toArray, List.set_cons_zero, List.set_cons_succ, i64_w, i32_w]
    rfl
  refine pure_ (i := 21) (N := some 27) (v := ?_) (a' := ?_) #[true, true, true, false, true, true, true, true, false, true, true, true, true, false, true, false, false, true, true, true, false, true, false, false, false, false, false, false] rfl rfl (by kernel_rfl) (fun _ _ _ h => h) (Or.inl ⟨by rfl, ?_⟩) ?_ ?_
  rotate_left
  · intro w'
    go_simp
    with_reducible rfl
  rotate_left
  · simp only [Act.put, List.setIfInBounds_toArray, List.set_cons_zero, List.set_cons_succ, i64_w, i32_w]
    rfl
  refine take_ (i := 3) (N := some 9) (v := ?_) (a' := ?_) #[true, true, true, true, true, true, true, true, false, true, true, true, true, false, true, false, false, true, true, true, false, true, false, false, false, false, false, false] rfl rfl (by kernel_rfl) (fun _ _ _ h => h) (Or.inl ⟨by rfl, ?_⟩) hHeld ?_ ?_
  rotate_left
  · rintro w' ⟨s0, s1, s2⟩
    go_simp
    with_reducible rfl
  rotate_left
  · simp only [Act.put, List.setIfInBounds_toArray, List.set_cons_zero, List.set_cons_succ, i64_w, i32_w]
    rfl
  refine take_ (i := 8) (N := some 14) (v := ?_) (a' := ?_) #[true, true, true, true, true, true, true, true, true, true, true, true, true, false, true, false, false, true, true, true, false, true, false, false, false, false, false, false] rfl rfl (by kernel_rfl) (fun _ _ _ h => h) (Or.inl ⟨by rfl, ?_⟩) hHeld ?_ ?_
  rotate_left
  · rintro w' ⟨s0, s1, s2⟩
    go_simp
    with_reducible rfl
  rotate_left
  · simp only [Act.put, List.setIfInBounds_toArray, List.set_cons_zero, List.set_cons_succ, i64_w, i32_w]
    rfl
  refine take_ (i := 13) (N := some 19) (v := ?_) (a' := ?_) #[true, true, true, true, true, true, true, true, true, true, true, true, true, true, true, false, false, true, true, true, false, true, false, false, false, false, false, false] rfl rfl (by kernel_rfl) (fun _ _ _ h => h) (Or.inl ⟨by rfl, ?_⟩) hHeld ?_ ?_
  rotate_left
  · rintro w' ⟨s0, s1, s2⟩
    go_simp
    with_reducible rfl
  rotate_left
  · simp only [Act.put, List.setIfInBounds_toArray, List.set_cons_zero, List.set_cons_succ, i64_w, i32_w]
    rfl
  refine pure_ (i := 15) (N := some 21) (v := ?_) (a' := ?_) #[true, true, true, true, true, true, true, true, true, true, true, true, true, true, true, true, false, true, true, true, false, true, false, false, false, false, false, false] rfl rfl (by kernel_rfl) (fun _ _ _ h => h) (Or.inl ⟨by rfl, ?_⟩) ?_ ?_
  rotate_left
  · intro w'
    go_simp
    with_reducible rfl
  rotate_left
  · simp only [Act.put, List.setIfInBounds_toArray, List.set_cons_zero, List.set_cons_succ, i64_w, i32_w]
    rfl
  refine take_ (i := 16) (N := some 22) (v := ?_) (a' := ?_) #[true, true, true, true, true, true, true, true, true, true, true, true, true, true, true, true, true, true, true, true, false, true, false, false, false, false, false, false] rfl rfl (by kernel_rfl) (fun _ _ _ h => h) (Or.inl ⟨by rfl, ?_⟩) hHeld ?_ ?_
  rotate_left
  · rintro w' ⟨s0, s1, s2⟩
    go_simp
    with_reducible rfl
  rotate_left
  · simp only [Act.put, List.setIfInBounds_toArray, List.set_cons_zero, List.set_cons_succ, i64_w, i32_w]
    rfl
  refine take_ (i := 20) (N := some 26) (v := ?_) (a' := ?_) #[true, true, true, true, true, true, true, true, true, true, true, true, true, true, true, true, true, true, true, true, true, true, false, false, false, false, false, false] rfl rfl (by kernel_rfl) (fun _ _ _ h => h) (Or.inl ⟨by rfl, ?_⟩) hHeld ?_ ?_
  rotate_left
  · rintro w' ⟨s0, s1, s2⟩
    go_simp
    with_reducible rfl
  rotate_left
  · simp only [Act.put, List.setIfInBounds_toArray, List.set_cons_zero, List.set_cons_succ, i64_w, i32_w]
    rfl
  refine pure_ (i := 22) (N := some 28) (v := ?_) (a' := ?_) #[true, true, true, true, true, true, true, true, true, true, true, true, true, true, true, true, true, true, true, true, true, true, true, false, false, false, false, false] rfl rfl (by kernel_rfl) (fun _ _ _ h => h) (Or.inl ⟨by rfl, ?_⟩) ?_ ?_
  rotate_left
  · intro w'
    go_simp
    with_reducible rfl
  rotate_left
  · simp only [Act.put, List.setIfInBounds_toArray, List.set_cons_zero, List.set_cons_succ, i64_w, i32_w]
    rfl
  refine take_ (i := 23) (N := some 29) (v := ?_) (a' := ?_) #[true, true, true, true, true, true, true, true, true, true, true, true, true, true, true, true, true, true, true, true, true, true, true, true, false, false, false, false] rfl rfl (by kernel_rfl) (fun _ _ _ h => h) (Or.inl ⟨by rfl, ?_⟩) hHeld ?_ ?_
  rotate_left
  · rintro w' ⟨s0, s1, s2⟩
    go_simp
    with_reducible rfl
  rotate_left
  · simp only [Act.put, List.setIfInBounds_toArray, List.set_cons_zero, List.set_cons_succ, i64_w, i32_w]
    rfl
  refine pure_ (i := 24) (N := some 30) (v := ?_) (a' := ?_) #[true, true, true, true, true, true, true, true, true, true, true, true, true, true, true, true, true, true, true, true, true, true, true, true, true, false, false, false] rfl rfl (by kernel_rfl) (fun _ _ _ h => h) (Or.inl ⟨by rfl, ?_⟩) ?_ ?_
  rotate_left
  · intro w'
    go_simp
    with_reducible rfl
  rotate_left
  · simp only [Act.put, List.setIfInBounds_toArray, List.set_cons_zero, List.set_cons_succ, i64_w, i32_w]
    rfl
  refine last_ (i := 25) (N := none) #[true, true, true, true, true, true, true, true, true, true, true, true, true, true, true, true, true, true, true, true, true, true, true, true, true, true, false, false] rfl rfl (by kernel_rfl) (by decide) (fun K hK => ?_)
  refine skip_ (w1 := ?_) (by rfl) rfl ?_ ?_
  rotate_left
  · go_simp
    rfl
  refine hK.out _ _ ?_
  clear hK K
  refine pure_ (i := 26) (N := some 31) (v := ?_) (a' := ?_) #[true, true, true, true, true, true, true, true, true, true, true, true, true, true, true, true, true, true, true, true, true, true, true, true, true, true, true, false] rfl rfl (by kernel_rfl) (fun _ _ _ h => h) (Or.inl ⟨by rfl, ?_⟩) ?_ ?_
  rotate_left
  · intro w'
    go_simp
    with_reducible rfl
  rotate_left
  · simp only [Act.put, List.setIfInBounds_toArray, List.set_cons_zero, List.set_cons_succ, i64_w, i32_w]
    rfl
  refine last_ (i := 27) (N := none) #[true, true, true, true, true, true, true, true, true, true, true, true, true, true, true, true, true, true, true, true, true, true, true, true, true, true, true, true] rfl rfl (by kernel_rfl) (by decide) (fun K hK => ?_)
  refine skip_ (w1 := ?_) (by rfl) rfl ?_ ?_
  rotate_left
  · go_simp
    rfl
  refine hK.out _ _ ?_
  clear hK K
  refine done_ (by kernel_rfl) ?_

  try go_wp2
  go_end0
  have hne : ⟨go, i, none⟩ = (⟨go, i, none⟩ : Addr) := rfl
  exact ⟨rfl, (HQD.out.block (Below.heap_setCell _ ⟨go, i, none⟩ _ _ (Ne.symm HN.out))).block (Below.heap_setCell _ ⟨go, j, none⟩ _ _ (Ne.symm HN.out)), HP2.out, below_set (below_set HBD.out (Nat.le_trans hB0 HG.out)) (Nat.le_trans hB0 HG.out), (HKD.out.setCell (p := ⟨go, i, none⟩) (.inl (.inr rfl)) _).setCell (p := ⟨go, j, none⟩) (.inl (.inr rfl)) _⟩
end Go.Proofs.YtolhijnkgkfjgaaDoor.XC
namespace Go.Proofs.YtolhijnkgkfjgaaDoor.XC
open Go.RowKit Go.Proofs.YtolhijnkgkfjgaaDoorW.PrintWords Go.Proofs.YtolhijnkgkfjgaaDoorW.PrintLast Go.Proofs.YtolhijnkgkfjgaaDoorW.PrintMore
attribute [local go_sem] max2_int min2_int max_two min_two max_three min_three max_four min_four   -- for this text's walks alone
set_option linter.unusedVariables false
set_option linter.unusedSimpArgs false
theorem infoI : (Tryd.prog.info? 3).map (fun i => (i.zero, i.size, i.bytes)) = some (some (.int .i64 0), 1, 8) := by kernel_rfl
theorem infoIs : (Tryd.prog.info? 25).map (fun i => (i.zero, i.size, i.bytes)) = some (some (.slice none 0 0), 1, 24) := by kernel_rfl
theorem R_ne_QS {w : World} {B g n c : Nat} {A : Option Addr} {v v0 : Value} {xs : List Int} (h : RI w B v xs) (hp : QS w g A n c v0) : some g ≠ v.ownBlock := Kd.R_ne h hp (by decide)
/-- A store into the queue's block leaves a row. -/
theorem R_qstore {w : World} {B g n c : Nat} {A : Option Addr} {v v0 v1 : Value} {xs : List Int} (h : RI w B v xs) (hp : QS w g A n c v0) : RI (w.setCell ⟨g, 1, none⟩ v1) B v xs :=
  Kd.R_mono (Kd.R_far (p := ⟨g, 1, none⟩) (Kd.R_types h hp (by decide)) (fun _ hk => hk.2) v1) (fun _ _ => trivial)
theorem ta_int (x : Int) (w : World) : (Instr.typeAssert (.iface 3 (.int .i64 x)) 20 3 true).run Tryd.prog w = .ok (.tuple #[.int .i64 x, .bool true]) w := by kernel_rfl
def NewOr (w : World) (v v' : Value) : Prop := ∀ k, v'.ownBlock = some k → v.ownBlock = some k ∨ w.heap.size ≤ k
set_option maxHeartbeats 8000000 in
set_option maxRecDepth 100000 in
theorem q_push (w0 w : World) (hB : Below w0.heap.size w0 w) (A : Option Addr) (n c g B : Nat) (v : Value) (ids : List Int) (hq : QS w g A n c v) (hv : RI w B v ids) (hg : w0.heap.size ≤ g) (hB0 : w0.heap.size ≤ B) (hBw : B ≤ w.heap.size) (x : Int) (hl : ids.length < 1000000) :
    Calls Tryd.prog 73 #[.pointer (some ⟨g, 0, none⟩), .iface 3 (.int .i64 x)] w fun e w' => e = .returned (.tuple #[]) ∧ ∃ v', QS w' g A n c v' ∧ RI w' B v' (ids ++ [x]) ∧ Below w0.heap.size w0 w' ∧ Kept w w' (QK g v) ∧ NewOr w v v' := by
  have hx1 := hq.c1
  have HQ := Aside0.mk hq
  have HV := Aside0.mk hv
  have HB := Aside0.mk hB
  have HG := Aside0.mk hg
  have HB0 := Aside0.mk hB0
  have HBW := Aside0.mk hBw
  have HL := Aside0.mk hl
  clear hq hv hB hg hB0 hBw hl
  have hta := ta_int x
  go_enter Tryd.func73, Tryd.ntmps73
  go_wp2_with ((with_reducible refine gate_builtin (b := .append) (xs := #[.tmp 16, .tmp 18]) rfl ?_); at_builtin; refine Kd.R_append (Kd.int .i64) (w0 := w) B rfl (.tmp 16) (.tmp 18) 25 3 (.int .i64 0) 8 rfl Tryd.underlying25 infoI rfl (by decide) (by omega) v ids x [.int .i64 x] (fun _ => True) (fun _ => False) rfl rfl ?aP (fun _ hk => hk.elim) ?aF ?aO ?aB ?aS ?aL ?_; (case aP => exact rfl); (case aB => exact Below.refl _ _); (case aF => exact (fun _ _ => trivial)); (case aO => exact HV.out); (case aS => exact HBW.out); (case aL => have := HL.out; omega); intro v1 w1 ho hb hg hat; obtain ⟨A1, n1, c1, e1⟩ : ∃ A n c, v1 = .slice A n c := (by obtain ⟨A, c, h, _⟩ := Kd.R_reads ho; exact ⟨A, _, c, h⟩); subst e1; have HR1 := Aside0.mk ho; have HQ1 := Aside0.mk (HQ.out.block (hg.block g HQ.out.lt (R_ne_QS HV.out HQ.out))); have HB1 := Aside0.mk (below_weaken HB.out HB0.out hb); have HK1 := Aside0.mk (Kept.of_grown hg (Kept.refl w (QK g v)) (fun k hk => .inl (.inr hk))); have HN1 := Aside0.mk hat; have hz1 := HQ1.out.z1; have hy1 := HQ1.out.c1; clear ho hb hg hat)
  go_end0
  exact ⟨rfl, _, HQ1.out.put _, R_qstore HR1.out HQ1.out, below_set HB1.out HG.out, HK1.out.setCell (p := ⟨g, 1, none⟩) (.inl (.inl rfl)) _, fun k hk => HN1.out.elim (fun h => .inl (by rw [← h]; exact hk)) (fun ⟨b, h, hb⟩ => .inr (by rw [h] at hk; injection hk with hk; rw [← hk]; exact hb))⟩
set_option maxHeartbeats 8000000 in
set_option maxRecDepth 100000 in
theorem q_pop (w0 w : World) (hB : Below w0.heap.size w0 w) (A : Option Addr) (n c g B : Nat) (v : Value) (ids : List Int) (x : Int) (hq : QS w g A n c v) (hv : RI w B v (ids ++ [x])) (hg : w0.heap.size ≤ g) (hl : ids.length < 1000000) :
    Calls Tryd.prog 72 #[.pointer (some ⟨g, 0, none⟩)] w fun e w' => e = .returned (.iface 3 (.int .i64 x)) ∧ ∃ v', QS w' g A n c v' ∧ RI w' B v' ids ∧ Below w0.heap.size w0 w' ∧ Kept w w' (QK g v) ∧ NewOr w v v' := by
  obtain ⟨go, co, rfl, hgB, hgl, cells, hgo⟩ := Kd.R_form hv (by simp)
  have hx1 := hq.c1
  have HQ := Aside0.mk hq
  have HV := Aside0.mk hv
  have HB := Aside0.mk hB
  have HG := Aside0.mk hg
  have hz1 := hq.z1
  obtain ⟨L, hL⟩ : ∃ L, L = (ids ++ [x]).length := ⟨_, rfl⟩
  have hlen : L = ids.length + 1 := by rw [hL]; simp
  obtain ⟨hxi, _⟩ := Kd.R_celln 0 hv (ids.length : Int) (by omega) (by rw [← hL, hlen]; omega)
  rw [Int.toNat_natCast, show rdOf 0 (ids ++ [x]) (ids.length : Int) = x by unfold rdOf; simp] at hxi
  have hcap := (Kd.R_reads' hv).2.1
  rw [← hL] at hx1 hcap
  have HT := Aside0.mk (show RI w B (.slice (some ⟨go, 0, none⟩) ids.length co) ids by
    have h := Kd.R_take hv (m := ids.length) (by rw [← hL, hlen]; omega)
    rw [List.take_left] at h
    exact h)
  obtain ⟨m, hm⟩ : ∃ m, m = ids.length := ⟨_, rfl⟩
  rw [← hm] at hxi HT hlen
  have hw : wrap64 ((L : Int) - 1) = (m : Int) := by unfold wrap64; omega
  have p1 : (0 ≤ (m : Int)) = True := eq_true (by omega)
  have p3 : ((m : Int) < (L : Int)) = True := eq_true (by omega)
  have q1 : (m < L) = True := eq_true (by omega)
  have q3 : (m ≤ co) = True := eq_true (by omega)
  have q4 : ((m : Int) ≤ (co : Int)) = True := eq_true (by omega)
  clear hq hv hB hg hgB hgl hgo hcap hl hL hlen hm
  go_enter Tryd.func72, Tryd.ntmps72
  go_wp2
  go_ret
  exact ⟨rfl, _, HQ.out.put _, R_qstore HT.out HQ.out, below_set HB.out HG.out, (Kept.refl w _).setCell (p := ⟨g, 1, none⟩) (.inl (.inl rfl)) _, fun k hk => .inl hk⟩
end Go.Proofs.YtolhijnkgkfjgaaDoor.XC
namespace Go.Proofs.YtolhijnkgkfjgaaDoor.XC
open Go.RowKit Go.Proofs.YtolhijnkgkfjgaaDoorW.PrintWords Go.Proofs.YtolhijnkgkfjgaaDoorW.PrintLast Go.Proofs.YtolhijnkgkfjgaaDoorW.PrintMore
attribute [local go_sem] max2_int min2_int max_two min_two max_three min_three max_four min_four   -- for this text's walks alone
set_option linter.unusedVariables false
set_option linter.unusedSimpArgs false
/-- One that came in goes up. -/
def upF (l : List Sp) : Nat → Nat → List Int → List Int
  | 0, _, xs => xs
  | k + 1, j, xs => if j = 0 then xs else if lessF l (rd xs (j : Int)) (rd xs (((j - 1) / 2 : Nat) : Int)) = true then upF l k ((j - 1) / 2) (swapF xs ((j - 1) / 2) j) else xs
abbrev HI (g : Nat) : Value := .iface 52 (.pointer (some ⟨g, 0, none⟩))
theorem swapF_ids {l : List Sp} {xs : List Int} {i j : Nat} (h : Ids l xs) (hi : i < xs.length) (hj : j < xs.length) : Ids l (swapF xs i j) := by
  intro x hx
  unfold swapF at hx
  rcases List.mem_or_eq_of_mem_set hx with hx | rfl
  · rcases List.mem_or_eq_of_mem_set hx with hx | rfl
    · exact h x hx
    · exact h.at hj
  · exact h.at hi
theorem QK_same {g : Nat} {v v' : Value} (h : v'.ownBlock = v.ownBlock) : QK g v' = QK g v := by unfold QK; rw [h]
theorem m_less (g : Nat) (w : World) : (method 248 52 (.pointer (some ⟨g, 0, none⟩)) "Less").run Tryd.prog w = .ok (71, .pointer (some ⟨g, 0, none⟩)) w := by kernel_rfl
theorem m_swap (g : Nat) (w : World) : (method 248 52 (.pointer (some ⟨g, 0, none⟩)) "Swap").run Tryd.prog w = .ok (74, .pointer (some ⟨g, 0, none⟩)) w := by kernel_rfl
theorem m_push (g : Nat) (w : World) : (method 248 52 (.pointer (some ⟨g, 0, none⟩)) "Push").run Tryd.prog w = .ok (73, .pointer (some ⟨g, 0, none⟩)) w := by kernel_rfl
theorem m_pop (g : Nat) (w : World) : (method 248 52 (.pointer (some ⟨g, 0, none⟩)) "Pop").run Tryd.prog w = .ok (72, .pointer (some ⟨g, 0, none⟩)) w := by kernel_rfl
theorem m_len (g : Nat) (w : World) : (method 248 52 (.pointer (some ⟨g, 0, none⟩)) "Len").run Tryd.prog w = .ok (15, .pointer (some ⟨g, 0, none⟩)) w := by kernel_rfl
set_option maxHeartbeats 8000000 in
set_option maxRecDepth 100000 in
theorem h_up (w0 w : World) (hB : Below w0.heap.size w0 w) (A : Option Addr) (c : Nat) (l : List Sp) (hr : Kd.C k44 w0 A l.length l) (g B : Nat) (v : Value) (ids : List Int) (hq : QS w g A l.length c v) (hv : RI w B v ids) (hids : Ids l ids) (hB0 : w0.heap.size ≤ B) (j : Nat) (hj : j < ids.length) (hl : ids.length < 1000000) :
    Calls Tryd.prog 27 #[HI g, .int .i64 (j : Int)] w fun e w' => e = .returned (.tuple #[]) ∧ QS w' g A l.length c v ∧ RI w' B v (upF l (j + 1) j ids) ∧ Below w0.heap.size w0 w' ∧ Kept w w' (QK g v) := by
  obtain ⟨F, hF⟩ : ∃ F, F = upF l (j + 1) j ids := ⟨_, rfl⟩
  rw [← hF]
  have HF := Aside0.mk hF
  have HRR := Aside0.mk hr
  have HQ := Aside0.mk hq
  have HV := Aside0.mk hv
  have HB := Aside0.mk hB
  have HB0 := Aside0.mk hB0
  have HI := Aside0.mk hids
  have HJ := Aside0.mk hj
  have HL := Aside0.mk hl
  clear hF hr hq hv hB hB0 hids hj hl
  have hm1 := m_less g
  have hm2 := m_swap g
  go_enter Tryd.func27, Tryd.ntmps27
  go_wp2
  go_loopg [1] (j + 1) (fun kq v1 w' => ∃ (j' : Nat) (xs : List Int), v1 = .int .i64 (j' : Int) ∧ Aside0 (F = upF l kq j' xs) ∧ Aside0 (j' < kq) ∧ Aside0 (j' < xs.length) ∧ Aside0 (xs.length = ids.length) ∧ Aside0 (Ids l xs) ∧ Aside0 (QS w' g A l.length c v) ∧ Aside0 (RI w' B v xs) ∧ Aside0 (Below w0.heap.size w0 w') ∧ Aside0 (Kept w w' (QK g v)))
  case atStart => exact ⟨j, ids, rfl, HF, ⟨by omega⟩, HJ, ⟨rfl⟩, HI, HQ, HV, HB, ⟨Kept.refl _ _⟩⟩
  case round =>
    clear HF HQ HV HB HI HJ
    obtain ⟨j', xs, rfl, HF, HJK, HJ, HLEN, HI, HQ, HV, HB, HK⟩ := hrel
    cases gk with
    | zero => exact absurd HJK.out (by omega)
    | succ k1 =>
      by_cases h0 : j' = 0
      · subst h0
        have hF := HF.out
        rw [upF, if_pos rfl] at hF
        have HF2 := Aside0.mk hF
        clear HF hF
        have hz : wrap64 (((0 : Nat) : Int) - 1) = -1 := by unfold wrap64; omega
        have hz2 : wrap64 (Int.tdiv (-1) 2) = 0 := by rw [show Int.tdiv (-1) 2 = 0 from rfl]; unfold wrap64; omega
        go_wp2
        go_end0
        exact ⟨rfl, HQ.out, by rw [HF2.out]; exact HV.out, HB.out, HK.out⟩
      · obtain ⟨m, hm⟩ : ∃ m, m = j' - 1 := ⟨_, rfl⟩
        obtain ⟨i', hi'⟩ : ∃ i', i' = (j' - 1) / 2 := ⟨_, rfl⟩
        have hF := HF.out
        rw [upF, if_neg h0, ← hi'] at hF
        have hz : wrap64 ((j' : Int) - 1) = (m : Int) := by unfold wrap64; have := HJ.out; have := HLEN.out; have := HL.out; omega
        have hz2 : wrap64 (Int.tdiv (m : Int) 2) = (i' : Int) := by
          rw [Int.tdiv_eq_ediv_of_nonneg (by omega)]
          unfold wrap64
          have := HJ.out; have := HLEN.out; have := HL.out
          omega
        have hz3 : wrap64 ((m : Int) / 2) = (i' : Int) := by unfold wrap64; have := HJ.out; have := HLEN.out; have := HL.out; omega
        have hlt : i' < j' := by omega
        have hne : ((i' : Int) == (j' : Int)) = false := beq_eq_false_iff_ne.mpr (by omega)
        have HLT := Aside0.mk hlt
        by_cases hls : lessF l (rd xs (j' : Int)) (rd xs (i' : Int)) = true
        · rw [if_pos hls] at hF
          have HF2 := Aside0.mk hF
          have HLS := Aside0.mk hls
          clear HF hF hm hi' h0 hlt hls
          go_wp2_with (first
            | (go_at_call 71; refine (q_less w0 _ HB.out A c l HRR.out g B v xs HQ.out HV.out HI.out j' i' HJ.out (by have := HLT.out; have := HJ.out; omega)).mono ?_; rintro e w2 ⟨rfl, ⟨nd, rfl⟩⟩; rw [HLS.out])
            | (go_at_call 74; refine (q_swap w0 _ (pw_below_drewN HB.out _) A l.length c g B v xs HQ.out (Kd.R_drewN HV.out _) HB0.out i' j' (by have := HLT.out; have := HJ.out; omega) HJ.out).mono ?_; rintro e w3 ⟨rfl, h3, h4, h5, h6⟩; have HQ2 := Aside0.mk h3; have HV2 := Aside0.mk h4; have HB2 := Aside0.mk h5; have HK2 := Aside0.mk (Kept.then_ (HK.out.drewN _) h6 (fun k hk => .inl hk)); clear h3 h4 h5 h6))
          go_roundg k1
          case measure => omega
          case rel => exact ⟨i', swapF xs i' j', rfl, HF2, ⟨by have := HLT.out; have := HJK.out; omega⟩, ⟨by rw [swapF_len]; have := HLT.out; have := HJ.out; omega⟩, ⟨by rw [swapF_len]; exact HLEN.out⟩, ⟨swapF_ids HI.out (by have := HLT.out; have := HJ.out; omega) HJ.out⟩, HQ2, HV2, HB2, HK2⟩
        · rw [if_neg hls] at hF
          have HF2 := Aside0.mk hF
          have HLS := Aside0.mk ((Bool.not_eq_true _).mp hls)
          clear HF hF hm hi' h0 hlt hls
          go_wp2_with (go_at_call 71; refine (q_less w0 _ HB.out A c l HRR.out g B v xs HQ.out HV.out HI.out j' i' HJ.out (by have := HLT.out; have := HJ.out; omega)).mono ?_; rintro e w2 ⟨rfl, ⟨nd, rfl⟩⟩; rw [HLS.out])
          go_end0
          exact ⟨rfl, HQ.out, by rw [HF2.out]; exact Kd.R_drewN HV.out _, pw_below_drewN HB.out _, HK.out.drewN _⟩
end Go.Proofs.YtolhijnkgkfjgaaDoor.XC
namespace Go.Proofs.YtolhijnkgkfjgaaDoor.XC
open Go.RowKit Go.Proofs.YtolhijnkgkfjgaaDoorW.PrintWords Go.Proofs.YtolhijnkgkfjgaaDoorW.PrintLast Go.Proofs.YtolhijnkgkfjgaaDoorW.PrintMore
attribute [local go_sem] max2_int min2_int max_two min_two max_three min_three max_four min_four   -- for this text's walks alone
set_option linter.unusedVariables false
set_option linter.unusedSimpArgs false
/-- The one of two below that comes first. -/
def pickF (l : List Sp) (n i : Nat) (xs : List Int) : Nat := if 2 * i + 2 < n ∧ lessF l (rd xs ((2 * i + 2 : Nat) : Int)) (rd xs ((2 * i + 1 : Nat) : Int)) = true then 2 * i + 2 else 2 * i + 1
/-- One goes down. -/
def downF (l : List Sp) (n : Nat) : Nat → Nat → List Int → List Int
  | 0, _, xs => xs
  | k + 1, i, xs => if 2 * i + 1 ≥ n then xs else if lessF l (rd xs (pickF l n i xs : Int)) (rd xs (i : Int)) = true then downF l n k (pickF l n i xs) (swapF xs i (pickF l n i xs)) else xs
theorem QS.drewN {w : World} {g n c : Nat} {A : Option Addr} {v : Value} (h : QS w g A n c v) (m : Nat) : QS (w.drewN m) g A n c v := h
theorem pickF_lt {l : List Sp} {n i : Nat} {xs : List Int} (h : 2 * i + 1 < n) : pickF l n i xs < n ∧ i < pickF l n i xs := by
  unfold pickF
  split <;> omega
set_option maxHeartbeats 8000000 in
set_option maxRecDepth 100000 in
theorem h_down (w0 w : World) (hB : Below w0.heap.size w0 w) (A : Option Addr) (c : Nat) (l : List Sp) (hr : Kd.C k44 w0 A l.length l) (g B : Nat) (v : Value) (ids : List Int) (hq : QS w g A l.length c v) (hv : RI w B v ids) (hids : Ids l ids) (hB0 : w0.heap.size ≤ B) (n : Nat) (hn : n ≤ ids.length) (hl : ids.length < 1000000) :
    Calls Tryd.prog 28 #[HI g, .int .i64 0, .int .i64 (n : Int)] w fun e w' => (∃ b, e = .returned (.bool b)) ∧ QS w' g A l.length c v ∧ RI w' B v (downF l n (n + 1) 0 ids) ∧ Below w0.heap.size w0 w' ∧ Kept w w' (QK g v) := by
  obtain ⟨F, hF⟩ : ∃ F, F = downF l n (n + 1) 0 ids := ⟨_, rfl⟩
  rw [← hF]
  have HF := Aside0.mk hF
  have HRR := Aside0.mk hr
  have HQ := Aside0.mk hq
  have HV := Aside0.mk hv
  have HB := Aside0.mk hB
  have HB0 := Aside0.mk hB0
  have HI := Aside0.mk hids
  have HN := Aside0.mk hn
  have HL := Aside0.mk hl
  clear hF hr hq hv hB hB0 hids hn hl
  have hm1 := m_less g
  have hm2 := m_swap g
  go_enter Tryd.func28, Tryd.ntmps28
  go_wp2
  go_loopg [7] (n + 1) (fun kq v7 w' => ∃ (i' : Nat) (xs : List Int), v7 = .int .i64 (i' : Int) ∧ Aside0 (F = downF l n kq i' xs) ∧ Aside0 (n + 1 ≤ kq + i') ∧ Aside0 (i' < n ∨ i' = 0) ∧ Aside0 (xs.length = ids.length) ∧ Aside0 (Ids l xs) ∧ Aside0 (QS w' g A l.length c v) ∧ Aside0 (RI w' B v xs) ∧ Aside0 (Below w0.heap.size w0 w') ∧ Aside0 (Kept w w' (QK g v)))
  case atStart => exact ⟨0, ids, rfl, HF, ⟨by omega⟩, ⟨.inr rfl⟩, ⟨rfl⟩, HI, HQ, HV, HB, ⟨Kept.refl _ _⟩⟩
  case round =>
    clear HF HQ HV HB HI
    obtain ⟨i', xs, rfl, HF, HJK, HJ, HLEN, HI, HQ, HV, HB, HK⟩ := hrel
    cases gk with
    | zero => exact absurd HJK.out (by have := HJ.out; omega)
    | succ k1 =>
      obtain ⟨m2, hm2'⟩ : ∃ m2, m2 = 2 * i' := ⟨_, rfl⟩
      obtain ⟨j1, hj1⟩ : ∃ j1, j1 = 2 * i' + 1 := ⟨_, rfl⟩
      obtain ⟨j2, hj2⟩ : ∃ j2, j2 = 2 * i' + 2 := ⟨_, rfl⟩
      have hz1 : wrap64 (2 * (i' : Int)) = (m2 : Int) := by unfold wrap64; have := HJ.out; have := HN.out; have := HL.out; omega
      have hz2 : wrap64 ((m2 : Int) + 1) = (j1 : Int) := by unfold wrap64; have := HJ.out; have := HN.out; have := HL.out; omega
      have hz3 : wrap64 ((j1 : Int) + 1) = (j2 : Int) := by unfold wrap64; have := HJ.out; have := HN.out; have := HL.out; omega
      have hneg : decide ((j1 : Int) < 0) = false := decide_eq_false (by omega)
      by_cases hge : n ≤ j1
      · have hF := HF.out
        rw [downF, if_pos (by omega)] at hF
        have HF2 := Aside0.mk hF
        have hb1 : decide ((n : Int) ≤ (j1 : Int)) = true := decide_eq_true (by omega)
        have hb2 : decide (n ≤ j1) = true := decide_eq_true (by omega)
        clear HF hF hm2' hj1 hj2 hge
        go_wp2
        go_ret
        exact ⟨⟨_, rfl⟩, HQ.out, by rw [HF2.out]; exact HV.out, HB.out, HK.out⟩
      · have hb1 : decide ((n : Int) ≤ (j1 : Int)) = false := decide_eq_false (by omega)
        have hb2 : decide (n ≤ j1) = false := decide_eq_false (by omega)
        have hF := HF.out
        rw [downF, if_neg (by omega)] at hF
        have HJ1 := Aside0.mk (show j1 < n ∧ i' < j1 by omega)
        have HXN := Aside0.mk (show n ≤ xs.length by have := HLEN.out; have := HN.out; omega)
        -- which of the two
        obtain ⟨q, hq⟩ : ∃ q, q = pickF l n i' xs := ⟨_, rfl⟩
        have hpl := pickF_lt (l := l) (n := n) (i := i') (xs := xs) (by omega)
        rw [← hq] at hF hpl
        have HQL := Aside0.mk hpl
        have pick : (j2 < n ∧ lessF l (rd xs (j2 : Int)) (rd xs (j1 : Int)) = true ∧ q = j2) ∨ (j2 < n ∧ lessF l (rd xs (j2 : Int)) (rd xs (j1 : Int)) = false ∧ q = j1) ∨ (¬ j2 < n ∧ q = j1) := by
          unfold pickF at hq
          rw [← hj1, ← hj2] at hq
          by_cases h1 : j2 < n
          · by_cases h2 : lessF l (rd xs (j2 : Int)) (rd xs (j1 : Int)) = true
            · rw [if_pos ⟨h1, h2⟩] at hq; exact .inl ⟨h1, h2, hq⟩
            · rw [if_neg (fun h => h2 h.2)] at hq; exact .inr (.inl ⟨h1, (Bool.not_eq_true _).mp h2, hq⟩)
          · rw [if_neg (fun h => h1 h.1)] at hq; exact .inr (.inr ⟨h1, hq⟩)
        have HF2 := Aside0.mk hF
        obtain ⟨ls, hls⟩ : ∃ ls, ls = lessF l (rd xs (q : Int)) (rd xs (i' : Int)) := ⟨_, rfl⟩
        have HLS := Aside0.mk hls
        clear HF hF hm2' hj1 hj2 hge hq hpl hls
        rcases pick with ⟨h1, h2, rfl⟩ | ⟨h1, h2, rfl⟩ | ⟨h1, rfl⟩
        · have hb3 : decide ((q : Int) < (n : Int)) = true := decide_eq_true (by omega)
          have hb4 : (q < n) = True := eq_true (by omega)
          have H1 := Aside0.mk h1
          have H2 := Aside0.mk h2
          clear h1 h2
          cases ls with
          | true =>
            have HF3 := Aside0.mk (show F = downF l n k1 q (swapF xs i' q) by rw [HF2.out, if_pos HLS.out.symm])
            clear HF2
            go_wp2_with (first
              | (go_at_call 71; first | (with_reducible refine (q_less w0 _ HB.out A c l HRR.out g B v xs HQ.out HV.out HI.out q j1 (by have := H1.out; have := HXN.out; omega) (by have := HJ1.out; have := HXN.out; omega)).mono ?_; rintro e w2 ⟨rfl, ⟨nd, rfl⟩⟩; rw [H2.out]) | (with_reducible refine (q_less w0 _ (pw_below_drewN HB.out _) A c l HRR.out g B v xs (HQ.out.drewN _) (Kd.R_drewN HV.out _) HI.out q i' (by have := H1.out; have := HXN.out; omega) (by have := HJ1.out; have := HXN.out; omega)).mono ?_; rintro e w2 ⟨rfl, ⟨nd2, rfl⟩⟩; rw [← HLS.out]))
              | (go_at_call 74; refine (q_swap w0 _ (pw_below_drewN HB.out _) A l.length c g B v xs (HQ.out.drewN _) (Kd.R_drewN HV.out _) HB0.out i' q (by have := HJ1.out; have := HXN.out; omega) (by have := H1.out; have := HXN.out; omega)).mono ?_; rintro e w3 ⟨rfl, h3, h4, h5, h6⟩; have HQ2 := Aside0.mk h3; have HV2 := Aside0.mk h4; have HB2 := Aside0.mk h5; have HK2 := Aside0.mk (Kept.then_ (HK.out.drewN _) h6 (fun k hk => .inl hk)); clear h3 h4 h5 h6))
            go_roundg k1
            case measure => omega
            case rel => exact ⟨q, swapF xs i' q, rfl, HF3, ⟨by have := HQL.out; have := HJK.out; omega⟩, ⟨.inl HQL.out.1⟩, ⟨by rw [swapF_len]; exact HLEN.out⟩, ⟨swapF_ids HI.out (by have := HJ1.out; have := HXN.out; omega) (by have := H1.out; have := HXN.out; omega)⟩, HQ2, HV2, HB2, HK2⟩
          | false =>
            have HF3 := Aside0.mk (show F = xs by rw [HF2.out, if_neg (by rw [← HLS.out]; decide)])
            clear HF2
            go_wp2_with (go_at_call 71; first | (with_reducible refine (q_less w0 _ HB.out A c l HRR.out g B v xs HQ.out HV.out HI.out q j1 (by have := H1.out; have := HXN.out; omega) (by have := HJ1.out; have := HXN.out; omega)).mono ?_; rintro e w2 ⟨rfl, ⟨nd, rfl⟩⟩; rw [H2.out]) | (with_reducible refine (q_less w0 _ (pw_below_drewN HB.out _) A c l HRR.out g B v xs (HQ.out.drewN _) (Kd.R_drewN HV.out _) HI.out q i' (by have := H1.out; have := HXN.out; omega) (by have := HJ1.out; have := HXN.out; omega)).mono ?_; rintro e w2 ⟨rfl, ⟨nd2, rfl⟩⟩; rw [← HLS.out]))
            go_ret
            exact ⟨⟨_, rfl⟩, HQ.out, by rw [HF3.out]; exact Kd.R_drewN HV.out _, pw_below_drewN HB.out _, HK.out.drewN _⟩
        · have hb3 : decide ((j2 : Int) < (n : Int)) = true := decide_eq_true (by omega)
          have hb4 : (j2 < n) = True := eq_true (by omega)
          have H1 := Aside0.mk h1
          have H2 := Aside0.mk h2
          clear h1 h2
          cases ls with
          | true =>
            have HF3 := Aside0.mk (show F = downF l n k1 q (swapF xs i' q) by rw [HF2.out, if_pos HLS.out.symm])
            clear HF2
            go_wp2_with (first
              | (go_at_call 71; first | (with_reducible refine (q_less w0 _ HB.out A c l HRR.out g B v xs HQ.out HV.out HI.out j2 q (by have := H1.out; have := HXN.out; omega) (by have := HJ1.out; have := HXN.out; omega)).mono ?_; rintro e w2 ⟨rfl, ⟨nd, rfl⟩⟩; rw [H2.out]) | (with_reducible refine (q_less w0 _ (pw_below_drewN HB.out _) A c l HRR.out g B v xs (HQ.out.drewN _) (Kd.R_drewN HV.out _) HI.out q i' (by have := HJ1.out; have := HXN.out; omega) (by have := HJ1.out; have := HXN.out; omega)).mono ?_; rintro e w2 ⟨rfl, ⟨nd2, rfl⟩⟩; rw [← HLS.out]))
              | (go_at_call 74; refine (q_swap w0 _ (pw_below_drewN HB.out _) A l.length c g B v xs (HQ.out.drewN _) (Kd.R_drewN HV.out _) HB0.out i' q (by have := HJ1.out; have := HXN.out; omega) (by have := HJ1.out; have := HXN.out; omega)).mono ?_; rintro e w3 ⟨rfl, h3, h4, h5, h6⟩; have HQ2 := Aside0.mk h3; have HV2 := Aside0.mk h4; have HB2 := Aside0.mk h5; have HK2 := Aside0.mk (Kept.then_ (HK.out.drewN _) h6 (fun k hk => .inl hk)); clear h3 h4 h5 h6))
            go_roundg k1
            case measure => omega
            case rel => exact ⟨q, swapF xs i' q, rfl, HF3, ⟨by have := HQL.out; have := HJK.out; omega⟩, ⟨.inl HQL.out.1⟩, ⟨by rw [swapF_len]; exact HLEN.out⟩, ⟨swapF_ids HI.out (by have := HJ1.out; have := HXN.out; omega) (by have := HJ1.out; have := HXN.out; omega)⟩, HQ2, HV2, HB2, HK2⟩
          | false =>
            have HF3 := Aside0.mk (show F = xs by rw [HF2.out, if_neg (by rw [← HLS.out]; decide)])
            clear HF2
            go_wp2_with (go_at_call 71; first | (with_reducible refine (q_less w0 _ HB.out A c l HRR.out g B v xs HQ.out HV.out HI.out j2 q (by have := H1.out; have := HXN.out; omega) (by have := HJ1.out; have := HXN.out; omega)).mono ?_; rintro e w2 ⟨rfl, ⟨nd, rfl⟩⟩; rw [H2.out]) | (with_reducible refine (q_less w0 _ (pw_below_drewN HB.out _) A c l HRR.out g B v xs (HQ.out.drewN _) (Kd.R_drewN HV.out _) HI.out q i' (by have := HJ1.out; have := HXN.out; omega) (by have := HJ1.out; have := HXN.out; omega)).mono ?_; rintro e w2 ⟨rfl, ⟨nd2, rfl⟩⟩; rw [← HLS.out]))
            go_ret
            exact ⟨⟨_, rfl⟩, HQ.out, by rw [HF3.out]; exact Kd.R_drewN HV.out _, pw_below_drewN HB.out _, HK.out.drewN _⟩
        · have hb3 : decide ((j2 : Int) < (n : Int)) = false := decide_eq_false (by omega)
          have hb4 : (j2 < n) = False := eq_false (by omega)
          have H1 := Aside0.mk h1
          clear h1
          cases ls with
          | true =>
            have HF3 := Aside0.mk (show F = downF l n k1 q (swapF xs i' q) by rw [HF2.out, if_pos HLS.out.symm])
            clear HF2
            go_wp2_with (first
              | (go_at_call 71; first | (with_reducible refine (q_less w0 _ HB.out A c l HRR.out g B v xs HQ.out HV.out HI.out q i' (by have := HJ1.out; have := HXN.out; omega) (by have := HJ1.out; have := HXN.out; omega)).mono ?_; rintro e w2 ⟨rfl, ⟨nd2, rfl⟩⟩; rw [← HLS.out]))
              | (go_at_call 74; refine (q_swap w0 _ (pw_below_drewN HB.out _) A l.length c g B v xs (HQ.out.drewN _) (Kd.R_drewN HV.out _) HB0.out i' q (by have := HJ1.out; have := HXN.out; omega) (by have := HJ1.out; have := HXN.out; omega)).mono ?_; rintro e w3 ⟨rfl, h3, h4, h5, h6⟩; have HQ2 := Aside0.mk h3; have HV2 := Aside0.mk h4; have HB2 := Aside0.mk h5; have HK2 := Aside0.mk (Kept.then_ (HK.out.drewN _) h6 (fun k hk => .inl hk)); clear h3 h4 h5 h6))
            go_roundg k1
            case measure => omega
            case rel => exact ⟨q, swapF xs i' q, rfl, HF3, ⟨by have := HQL.out; have := HJK.out; omega⟩, ⟨.inl HQL.out.1⟩, ⟨by rw [swapF_len]; exact HLEN.out⟩, ⟨swapF_ids HI.out (by have := HJ1.out; have := HXN.out; omega) (by have := HJ1.out; have := HXN.out; omega)⟩, HQ2, HV2, HB2, HK2⟩
          | false =>
            have HF3 := Aside0.mk (show F = xs by rw [HF2.out, if_neg (by rw [← HLS.out]; decide)])
            clear HF2
            go_wp2_with (go_at_call 71; first | (with_reducible refine (q_less w0 _ HB.out A c l HRR.out g B v xs HQ.out HV.out HI.out q i' (by have := HJ1.out; have := HXN.out; omega) (by have := HJ1.out; have := HXN.out; omega)).mono ?_; rintro e w2 ⟨rfl, ⟨nd2, rfl⟩⟩; rw [← HLS.out]))
            go_ret
            exact ⟨⟨_, rfl⟩, HQ.out, by rw [HF3.out]; exact Kd.R_drewN HV.out _, pw_below_drewN HB.out _, HK.out.drewN _⟩
end Go.Proofs.YtolhijnkgkfjgaaDoor.XC
namespace Go.Proofs.YtolhijnkgkfjgaaDoor.XC
open Go.RowKit Go.Proofs.YtolhijnkgkfjgaaDoorW.PrintWords Go.Proofs.YtolhijnkgkfjgaaDoorW.PrintLast Go.Proofs.YtolhijnkgkfjgaaDoorW.PrintMore
attribute [local go_sem] max2_int min2_int max_two min_two max_three min_three max_four min_four   -- for this text's walks alone
set_option linter.unusedVariables false
set_option linter.unusedSimpArgs false
theorem upF_len (l : List Sp) : ∀ (k j : Nat) (xs : List Int), (upF l k j xs).length = xs.length
  | 0, _, _ => rfl
  | k + 1, j, xs => by
    rw [upF]
    split
    · rfl
    · split
      · rw [upF_len l k, swapF_len]
      · rfl
theorem upF_ids {l : List Sp} : ∀ (k j : Nat) (xs : List Int), Ids l xs → j < xs.length → Ids l (upF l k j xs)
  | 0, _, _, h, _ => h
  | k + 1, j, xs, h, hj => by
    rw [upF]
    split
    · exact h
    · split
      · exact upF_ids k _ _ (swapF_ids h (by omega) hj) (by rw [swapF_len]; omega)
      · exact h
theorem downF_len (l : List Sp) (n : Nat) : ∀ (k i : Nat) (xs : List Int), (downF l n k i xs).length = xs.length
  | 0, _, _ => rfl
  | k + 1, i, xs => by
    rw [downF]
    split
    · rfl
    · split
      · rw [downF_len l n k, swapF_len]
      · rfl
theorem downF_ids {l : List Sp} {n : Nat} : ∀ (k i : Nat) (xs : List Int), Ids l xs → n ≤ xs.length → Ids l (downF l n k i xs)
  | 0, _, _, h, _ => h
  | k + 1, i, xs, h, hn => by
    rw [downF]
    split
    · exact h
    · rename_i h1
      have hp := pickF_lt (l := l) (n := n) (i := i) (xs := xs) (by omega)
      split
      · exact downF_ids k _ _ (swapF_ids h (by omega) (by omega)) (by rw [swapF_len]; exact hn)
      · exact h
/-- One comes in. -/
def pushF (l : List Sp) (ids : List Int) (x : Int) : List Int := upF l (ids.length + 1) ids.length (ids ++ [x])
/-- One goes out: all, it the last. -/
def popF (l : List Sp) (ids : List Int) : List Int := downF l (ids.length - 1) (ids.length - 1 + 1) 0 (swapF ids 0 (ids.length - 1))
theorem popF_len (l : List Sp) (ids : List Int) : (popF l ids).length = ids.length := by unfold popF; rw [downF_len, swapF_len]
set_option maxHeartbeats 8000000 in
set_option maxRecDepth 100000 in
theorem q_len (w : World) (A : Option Addr) (n c g B : Nat) (v : Value) (ids : List Int) (hq : QS w g A n c v) (hv : RI w B v ids) :
    Calls Tryd.prog 15 #[.pointer (some ⟨g, 0, none⟩)] w fun e w' => e = .returned (.int .i64 (ids.length : Int)) ∧ Drawn0 w w' := by
  obtain ⟨AV, cV, rfl, hcV, hC⟩ := Kd.R_reads hv
  have hx1 := hq.c1
  clear hq hv hC hcV
  go_enter Tryd.func15, Tryd.ntmps15
  go_wp2
  go_ret
  exact ⟨rfl, by first | exact ⟨0, rfl⟩ | exact ⟨_, rfl⟩⟩
set_option maxHeartbeats 8000000 in
set_option maxRecDepth 100000 in
theorem h_push (w0 w : World) (hB : Below w0.heap.size w0 w) (A : Option Addr) (c : Nat) (l : List Sp) (hr : Kd.C k44 w0 A l.length l) (g B : Nat) (v : Value) (ids : List Int) (hq : QS w g A l.length c v) (hv : RI w B v ids) (hg : w0.heap.size ≤ g) (hB0 : w0.heap.size ≤ B) (hBw : B ≤ w.heap.size) (x : Int) (hids : Ids l (ids ++ [x])) (hl : ids.length < 100000) :
    Calls Tryd.prog 14 #[HI g, .iface 3 (.int .i64 x)] w fun e w' => e = .returned (.tuple #[]) ∧ ∃ v', QS w' g A l.length c v' ∧ RI w' B v' (pushF l ids x) ∧ Below w0.heap.size w0 w' ∧ Kept w w' (QK g v) ∧ NewOr w v v' := by
  obtain ⟨F, hF⟩ : ∃ F, F = pushF l ids x := ⟨_, rfl⟩
  rw [← hF]
  have HF := Aside0.mk hF
  have HRR := Aside0.mk hr
  have HQ := Aside0.mk hq
  have HV := Aside0.mk hv
  have HB := Aside0.mk hB
  have HG := Aside0.mk hg
  have HB0 := Aside0.mk hB0
  have HBW := Aside0.mk hBw
  have HI := Aside0.mk hids
  have HL := Aside0.mk hl
  have hw : wrap64 (((ids ++ [x]).length : Int) - 1) = (ids.length : Int) := by rw [List.length_append]; unfold wrap64; simp; omega
  have hlen : (ids ++ [x]).length = ids.length + 1 := by simp
  obtain ⟨ys, hys⟩ : ∃ ys, ys = ids ++ [x] := ⟨_, rfl⟩
  rw [← hys] at hw hlen HI
  have HY := Aside0.mk hys
  have HYL := Aside0.mk hlen
  clear hF hr hq hv hB hg hB0 hBw hids hl hys hlen
  have hm1 := m_push g
  have hm2 := m_len g
  go_enter Tryd.func14, Tryd.ntmps14
  go_wp2_with (first
    | (go_at_call 73; refine (q_push w0 _ HB.out A l.length c g B v ids HQ.out HV.out HG.out HB0.out HBW.out x (by have := HL.out; omega)).mono ?_; rintro e w2 ⟨rfl, v2, h3, h4, h5, h6, h7⟩; rw [← HY.out] at h4; have HQ2 := Aside0.mk h3; have HV2 := Aside0.mk h4; have HB2 := Aside0.mk h5; have HK2 := Aside0.mk h6; have HN2 := Aside0.mk h7; clear h3 h4 h5 h6 h7)
    | (go_at_call 15; refine (q_len _ A l.length c g B v2 ys HQ2.out HV2.out).mono ?_; rintro e w3 ⟨rfl, ⟨nd, rfl⟩⟩)
    | (go_at_call 27; rw [hw]; refine (h_up w0 _ (pw_below_drewN HB2.out _) A c l HRR.out g B v2 ys HQ2.out (Kd.R_drewN HV2.out _) HI.out HB0.out ids.length (by have := HYL.out; omega) (by have := HYL.out; have := HL.out; omega)).mono ?_; rintro e w4 ⟨rfl, h3, h4, h5, h6⟩; have HQ4 := Aside0.mk h3; have HV4 := Aside0.mk h4; have HB4 := Aside0.mk h5; have HK4 := Aside0.mk h6; clear h3 h4 h5 h6))
  go_end0
  exact ⟨rfl, v2, HQ4.out, by rw [HF.out]; unfold pushF; rw [← HY.out]; exact HV4.out, HB4.out, Kept.then_ (HK2.out.drewN _) HK4.out (fun k hk => by
    rcases hk with rfl | hk
    · exact .inl (.inl rfl)
    · exact (HN2.out k hk).elim (fun h => .inl (.inr h)) .inr), HN2.out⟩
set_option maxHeartbeats 8000000 in
set_option maxRecDepth 100000 in
theorem h_pop (w0 w : World) (hB : Below w0.heap.size w0 w) (A : Option Addr) (c : Nat) (l : List Sp) (hr : Kd.C k44 w0 A l.length l) (g B : Nat) (v : Value) (ids : List Int) (hq : QS w g A l.length c v) (hv : RI w B v ids) (hg : w0.heap.size ≤ g) (hB0 : w0.heap.size ≤ B) (hids : Ids l ids) (hl : ids.length < 100000) (ys : List Int) (x : Int) (hp : popF l ids = ys ++ [x]) :
    Calls Tryd.prog 16 #[HI g] w fun e w' => e = .returned (.iface 3 (.int .i64 x)) ∧ ∃ v', QS w' g A l.length c v' ∧ RI w' B v' ys ∧ Below w0.heap.size w0 w' ∧ Kept w w' (QK g v) ∧ NewOr w v v' := by
  have hpl := popF_len l ids
  rw [hp] at hpl
  have hlen : ids.length = ys.length + 1 := by rw [← hpl]; simp
  have HP := Aside0.mk hp
  have HRR := Aside0.mk hr
  have HQ := Aside0.mk hq
  have HV := Aside0.mk hv
  have HB := Aside0.mk hB
  have HG := Aside0.mk hg
  have HB0 := Aside0.mk hB0
  have HI := Aside0.mk hids
  have HL := Aside0.mk hl
  obtain ⟨n, hn⟩ : ∃ n, n = ids.length - 1 := ⟨_, rfl⟩
  have hw : wrap64 ((ids.length : Int) - 1) = (n : Int) := by unfold wrap64; omega
  have HN := Aside0.mk hn
  have HYL := Aside0.mk hlen
  clear hp hr hq hv hB hg hB0 hids hl hn hlen hpl
  have hm1 := m_pop g
  have hm2 := m_len g
  have hm3 := m_swap g
  go_enter Tryd.func16, Tryd.ntmps16
  go_wp2_with (first
    | (go_at_call 15; refine (q_len _ A l.length c g B v ids HQ.out HV.out).mono ?_; rintro e w3 ⟨rfl, ⟨nd, rfl⟩⟩)
    | (go_at_call 74; rw [hw]; refine (q_swap w0 _ (pw_below_drewN HB.out _) A l.length c g B v ids HQ.out (Kd.R_drewN HV.out _) HB0.out 0 n (by have := HYL.out; omega) (by have := HYL.out; have := HN.out; omega)).mono ?_; rintro e w4 ⟨rfl, h3, h4, h5, h6⟩; have HQ4 := Aside0.mk h3; have HV4 := Aside0.mk h4; have HB4 := Aside0.mk h5; have HK4 := Aside0.mk (Kept.then_ ((Kept.refl w (QK g v)).drewN _) h6 (fun k hk => .inl hk)); clear h3 h4 h5 h6)
    | (go_at_call 28; (try rw [hw]); refine (h_down w0 _ HB4.out A c l HRR.out g B v (swapF ids 0 n) HQ4.out HV4.out (swapF_ids HI.out (by have := HYL.out; omega) (by have := HYL.out; have := HN.out; omega)) HB0.out n (by rw [swapF_len]; have := HYL.out; have := HN.out; omega) (by rw [swapF_len]; have := HL.out; omega)).mono ?_; rintro e w5 ⟨⟨bb, rfl⟩, h3, h4, h5, h6⟩; have HQ5 := Aside0.mk h3; have HV5 := Aside0.mk (show RI w5 B v (ys ++ [x]) by rw [← HP.out]; unfold popF; rw [← HN.out]; exact h4); have HB5 := Aside0.mk h5; have HK5 := Aside0.mk (Kept.then_ HK4.out h6 (fun k hk => .inl hk)); clear h3 h4 h5 h6)
    | (go_at_call 72; refine (q_pop w0 _ HB5.out A l.length c g B v ys x HQ5.out HV5.out HG.out (by have := HYL.out; have := HL.out; omega)).mono ?_; rintro e w6 ⟨rfl, v6, h3, h4, h5, h6, h7⟩; have HQ6 := Aside0.mk h3; have HV6 := Aside0.mk h4; have HB6 := Aside0.mk h5; have HK6 := Aside0.mk (Kept.then_ HK5.out h6 (fun k hk => .inl hk)); have HN6 := Aside0.mk h7; clear h3 h4 h5 h6 h7))
  go_ret
  exact ⟨rfl, v6, HQ6.out, HV6.out, HB6.out, HK6.out, fun k hk => (HN6.out k hk).elim .inl (fun h => .inr (Nat.le_trans HK5.out.1 h))⟩
end Go.Proofs.YtolhijnkgkfjgaaDoor.XC
