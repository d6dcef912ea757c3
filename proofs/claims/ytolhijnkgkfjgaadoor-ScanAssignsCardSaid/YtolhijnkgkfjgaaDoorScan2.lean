/- The scanner: how long a span is; which of two is lighter: as one plain function; the walk of the first. The scanner: which of two is lighter. -/
import Derived.Test.YtolhijnkgkfjgaaDoorScan1
namespace Go.Proofs.YtolhijnkgkfjgaaDoor.XC
open Go.RowKit Go.Proofs.YtolhijnkgkfjgaaDoorW.PrintWords Go.Proofs.YtolhijnkgkfjgaaDoorW.PrintLast Go.Proofs.YtolhijnkgkfjgaaDoorW.PrintMore
attribute [local go_sem] max2_int min2_int max_two min_two max_three min_three max_four min_four   -- for this text's walks alone
set_option linter.unusedVariables false
set_option linter.unusedSimpArgs false
def longF (l : List Sp) (id : Int) : Int := (rdS l id).f0.foldl (fun n r => wrap64 (n + wrap64 (wrap64 (r.f1 - r.f0) + 1))) 0
def lightF (l : List Sp) (a b : Int) : Bool := decide (wrap64 ((rdS l a).f1 * longF l b) < wrap64 ((rdS l b).f1 * longF l a))
theorem foldl_take {α β : Type} (g : β → α → β) (z : β) (xs : List α) (d : α) (i : Nat) (h : i < xs.length) : (xs.take (i + 1)).foldl g z = g ((xs.take i).foldl g z) (xs.getD i d) := by
  rw [List.take_add_one, List.foldl_append, List.getElem?_eq_getElem h, List.getD_eq_getElem?_getD, List.getElem?_eq_getElem h]
  rfl
set_option maxHeartbeats 8000000 in
set_option maxRecDepth 100000 in
theorem s_long (w0 w : World) (hB : Below w0.heap.size w0 w) (A : Option Addr) (c : Nat) (l : List Sp) (hr : Kd.C k44 w0 A l.length l) (B p gi k : Nat) (va : Value) (vs : List Value) (ins : List (List Int)) (at_ : List Int) (hs : SC w B p gi k va A l.length c vs ins at_) (id : Int) (h0 : 0 ≤ id) (h1 : id < (l.length : Int)) (hrl : (rdS l id).f0.length < 1000000000) :
    Calls Tryd.prog 45 #[.pointer (some ⟨p, 0, none⟩), .int .i64 id] w fun e w' => e = .returned (.int .i64 (longF l id)) ∧ Below w.heap.size w w' := by
  have hx0 := hs.c0
  obtain ⟨ads, A1, c1, rfl, hl1, hsp⟩ := span_cells hr id h0 h1
  obtain ⟨hs1, hs2, hC⟩ := hsp w hB
  unfold longF
  obtain ⟨row, hrow⟩ : ∃ row, row = (rdS l id).f0 := ⟨_, rfl⟩
  rw [← hrow] at hs1 hC hrl ⊢
  obtain ⟨g, hgd⟩ : ∃ g : Int → S41 → Int, g = (fun n r => wrap64 (n + wrap64 (wrap64 (r.f1 - r.f0) + 1))) := ⟨_, rfl⟩
  rw [← hgd]
  have HGD := Aside0.mk hgd
  have HL := Aside0.mk hrl
  have HC := Aside0.mk hC
  have p4 : (0 ≤ id) = True := eq_true h0
  have p5 : (id < (l.length : Int)) = True := eq_true h1
  clear hB hr hs hC hl1 hsp hrl h0 h1 hrow hs2 hgd
  go_enter Tryd.func45, Tryd.ntmps45
  go_wp2
  go_loopg [5, 17] row.length (fun kq v5 v17 w' => ∃ (i : Nat), v17 = .int .i64 (i : Int) ∧ v5 = .int .i64 ((row.take i).foldl g 0) ∧ Aside0 (kq + i = row.length) ∧ Aside0 (Below w.heap.size w w'))
  case atStart => exact ⟨0, rfl, rfl, ⟨rfl⟩, ⟨Below.refl _ _⟩⟩
  case round =>
    obtain ⟨i, rfl, rfl, HK, HW⟩ := hrel
    by_cases hi : i < row.length
    · obtain ⟨k1, rfl⟩ : ∃ k1, gk = k1 + 1 := ⟨gk - 1, by have := HK.out; omega⟩
      have hc : decide ((i : Int) < (row.length : Int)) = true := decide_eq_true (by omega)
      have q0 : (0 ≤ (i : Int)) = True := eq_true (by omega)
      have q1 : ((i : Int) < (row.length : Int)) = True := eq_true (by omega)
      have q2 : (i < row.length) = True := eq_true hi
      obtain ⟨ad, e1, hx1, hx2⟩ := at_T41 (Kd.C_below HC.out HW.out) (i : Int) (by omega) (by omega)
      subst e1
      rw [Int.toNat_natCast] at hx1 hx2
      have hw := wrap_succ i row.length hi (by have := HL.out; omega)
      have HT := Aside0.mk (foldl_take g 0 row z41 i hi)
      have HI := Aside0.mk hi
      obtain ⟨m, hm⟩ : ∃ m, m = rd_T41 row (i : Int) := ⟨_, rfl⟩
      rw [← hm] at hx1 hx2
      have hm2 : row.getD i z41 = m := by rw [hm]; unfold rd_T41; rw [Int.toNat_natCast]
      rw [hm2] at HT
      obtain ⟨s, hs⟩ : ∃ s, s = (row.take i).foldl g 0 := ⟨_, rfl⟩
      rw [← hs] at HT ⊢
      clear hm hm2 hi hs
      go_wp2_with ((with_reducible refine gate_dst (N := 7) rfl ?_); refine box_event ?hg (N := 7) ?hd (cs := #[.int .i64 0, .int .i64 0]) (t := 41) ?hr ?_; (case hd => rfl); (case hg => rfl); (case hr => first | (go_simp; done) | (go_simp; rfl)); intro gb hg w7 hbox hb; have HGE := Aside0.mk (show w.heap.size ≤ gb by have := HW.out.size; omega); have HB3 := Aside0.mk (below_step HW.out hb); have hcz0 : w7.cell? ⟨gb, 0, none⟩ = some (.int .i64 0) := (blk_cell hbox 0).trans rfl; have hcz1 : w7.cell? ⟨gb, 1, none⟩ = some (.int .i64 0) := (blk_cell hbox 1).trans rfl; have hfz0 := blk_frozen hbox 0; have hfz1 := blk_frozen hbox 1; clear hb hbox hg)
      go_roundg k1
      case measure => omega
      case rel => exact ⟨i + 1, (by first | rw [hw] | rfl | (push_cast; rfl)), by rw [HT.out, HGD.out], ⟨by have := HK.out; omega⟩, ⟨below_set (below_set HB3.out HGE.out) HGE.out⟩⟩
    · have hc : decide ((i : Int) < (row.length : Int)) = false := decide_eq_false (by omega)
      have q2 : (i < row.length) = False := eq_false hi
      have HI := Aside0.mk hi
      go_wp2
      go_ret
      exact ⟨by rw [List.take_of_length_le (by have := HI.out; omega)]; rfl, HW.out⟩
end Go.Proofs.YtolhijnkgkfjgaaDoor.XC
namespace Go.Proofs.YtolhijnkgkfjgaaDoor.XC
open Go.RowKit Go.Proofs.YtolhijnkgkfjgaaDoorW.PrintWords Go.Proofs.YtolhijnkgkfjgaaDoorW.PrintLast Go.Proofs.YtolhijnkgkfjgaaDoorW.PrintMore
attribute [local go_sem] max2_int min2_int max_two min_two max_three min_three max_four min_four   -- for this text's walks alone
set_option linter.unusedVariables false
set_option linter.unusedSimpArgs false
set_option maxHeartbeats 8000000 in
set_option maxRecDepth 100000 in
theorem s_lighter (w0 w : World) (hB : Below w0.heap.size w0 w) (A : Option Addr) (c : Nat) (l : List Sp) (hr : Kd.C k44 w0 A l.length l) (B p gi k : Nat) (va : Value) (vs : List Value) (ins : List (List Int)) (at_ : List Int) (hs : SC w B p gi k va A l.length c vs ins at_) (a b : Int) (ha0 : 0 ≤ a) (ha1 : a < (l.length : Int)) (hb0 : 0 ≤ b) (hb1 : b < (l.length : Int)) (hrl : ∀ x, (rdS l x).f0.length < 1000000000) :
    Calls Tryd.prog 31 #[.pointer (some ⟨p, 0, none⟩), .int .i64 a, .int .i64 b] w fun e w' => e = .returned (.bool (lightF l a b)) ∧ Below w.heap.size w w' := by
  obtain ⟨ads, A1, c1, rfl, hl1, hsp⟩ := span_cells hr a ha0 ha1
  obtain ⟨_, A2, c2, e1, hl2, hsp2⟩ := span_cells hr b hb0 hb1
  cases e1
  have HSB := Aside0.mk (show ∀ W_, Below w.heap.size w W_ → W_.cell? ⟨p, 0, none⟩ = some (.slice (some ads) l.length c) ∧ W_.cell? ⟨(ads.add (a.toNat * 2)).block, (ads.add (a.toNat * 2)).off + 1, none⟩ = some (.int .i64 (rdS l a).f1) ∧ W_.cell? ⟨(ads.add (b.toNat * 2)).block, (ads.add (b.toNat * 2)).off + 1, none⟩ = some (.int .i64 (rdS l b).f1) from fun W_ hk => ⟨(hs.below hk).c0, (hsp W_ (below_step hB hk)).2.1, (hsp2 W_ (below_step hB hk)).2.1⟩)
  have C := Aside0.mk (fun (W : World) (hk : Below w.heap.size w W) (x : Int) (h0 : 0 ≤ x) (h1 : x < (l.length : Int)) => s_long w0 W (below_step hB hk) (some ads) c l hr B p gi k va vs ins at_ (hs.below hk) x h0 h1 (hrl x))
  have HA := Aside0.mk (And.intro ha0 ha1)
  have HBB := Aside0.mk (And.intro hb0 hb1)
  have p1 : (0 ≤ a) = True := eq_true ha0
  have p2 : (a < (l.length : Int)) = True := eq_true ha1
  have p3 : (0 ≤ b) = True := eq_true hb0
  have p4 : (b < (l.length : Int)) = True := eq_true hb1
  clear hB hr hs hl1 hl2 hsp hsp2 ha0 ha1 hb0 hb1 hrl
  unfold lightF
  go_enter Tryd.func31, Tryd.ntmps31
  go_wp2
  refine start_ (n := 26) (S := fun w' => w'.cell? ⟨p, 0, none⟩ = some (.slice (some ads) l.length c) ∧ w'.cell? ⟨(ads.add (a.toNat * 2)).block, (ads.add (a.toNat * 2)).off + 1, none⟩ = some (.int .i64 (rdS l a).f1) ∧ w'.cell? ⟨(ads.add (b.toNat * 2)).block, (ads.add (b.toNat * 2)).off + 1, none⟩ = some (.int .i64 (rdS l b).f1)) (ds := []) #[false, false, false, false, false, false, false, false, false, false, false, false, false, false, false, false, false, false, false, false, false, false, false, false, false, false] (by kernel_rfl) rfl rfl ⟨(HSB.out _ (below_drew1 (Below.refl _ _))).1, (HSB.out _ (below_drew1 (Below.refl _ _))).2.1, (HSB.out _ (below_drew1 (Below.refl _ _))).2.2⟩ (fun hHeld => ?_)
  refine pure_ (i := 0) (N := some 7) (v := ?_) (a' := ?_) #[true, false, false, false, false, false, false, false, false, false, false, false, false, false, false, false, false, false, false, false, false, false, false, false, false, false] rfl rfl (by kernel_rfl) (fun _ _ _ h => h) (Or.inl ⟨by rfl, ?_⟩) ?_ ?_
  rotate_left
  · intro w'
    go_simp
    with_reducible rfl
  rotate_left
  · simp only [Act.put, List.setIfInBounds_toArray, List.set_cons_zero, List.set_cons_succ, i64_w, i32_w]
    rfl
  refine pure_ (i := 1) (N := some 8) (v := ?_) (a' := ?_) #[true, true, false, false, false, false, false, false, false, false, false, false, false, false, false, false, false, false, false, false, false, false, false, false, false, false] rfl rfl (by kernel_rfl) (fun _ _ _ h => h) (Or.inl ⟨by rfl, ?_⟩) ?_ ?_
  rotate_left
  · intro w'
    go_simp
    with_reducible rfl
  rotate_left
  · simp only [Act.put, List.setIfInBounds_toArray, List.set_cons_zero, List.set_cons_succ, i64_w, i32_w]
    rfl
  refine pure_ (i := 2) (N := some 9) (v := ?_) (a' := ?_) #[true, true, true, false, false, false, false, false, false, false, false, false, false, false, false, false, false, false, false, false, false, false, false, false, false, false] rfl rfl (by kernel_rfl) (fun _ _ _ h => h) (Or.inl ⟨by rfl, ?_⟩) ?_ ?_
  rotate_left
  · intro w'
    go_simp
    with_reducible rfl
  rotate_left
  · simp only [Act.put, List.setIfInBounds_toArray, List.set_cons_zero, List.set_cons_succ, i64_w, i32_w]
    rfl
  refine pure_ (i := 4) (N := some 11) (v := ?_) (a' := ?_) #[true, true, true, false, true, false, false, false, false, false, false, false, false, false, false, false, false, false, false, false, false, false, false, false, false, false] rfl rfl (by kernel_rfl) (fun _ _ _ h => h) (Or.inl ⟨by rfl, ?_⟩) ?_ ?_
  rotate_left
  · intro w'
    go_simp
    with_reducible rfl
  rotate_left
  · simp only [Act.put, List.setIfInBounds_toArray, List.set_cons_zero, List.set_cons_succ, i64_w, i32_w]
    rfl
  refine pure_ (i := 8) (N := some 15) (v := ?_) (a' := ?_) #[true, true, true, false, true, false, false, false, true, false, false, false, false, false, false, false, false, false, false, false, false, false, false, false, false, false] rfl rfl (by kernel_rfl) (fun _ _ _ h => h) (Or.inl ⟨by rfl, ?_⟩) ?_ ?_
  rotate_left
  · intro w'
    go_simp
    with_reducible rfl
  rotate_left
  · simp only [Act.put, List.setIfInBounds_toArray, List.set_cons_zero, List.set_cons_succ, i64_w, i32_w]
    rfl
  refine pure_ (i := 9) (N := some 16) (v := ?_) (a' := ?_) #[true, true, true, false, true, false, false, false, true, true, false, false, false, false, false, false, false, false, false, false, false, false, false, false, false, false] rfl rfl (by kernel_rfl) (fun _ _ _ h => h) (Or.inl ⟨by rfl, ?_⟩) ?_ ?_
  rotate_left
  · intro w'
    go_simp
    with_reducible rfl
  rotate_left
  · simp only [Act.put, List.setIfInBounds_toArray, List.set_cons_zero, List.set_cons_succ, i64_w, i32_w]
    rfl
  refine pure_ (i := 12) (N := some 19) (v := ?_) (a' := ?_) #[true, true, true, false, true, false, false, false, true, true, false, false, true, false, false, false, false, false, false, false, false, false, false, false, false, false] rfl rfl (by kernel_rfl) (fun _ _ _ h => h) (Or.inl ⟨by rfl, ?_⟩) ?_ ?_
  rotate_left
  · intro w'
    go_simp
    with_reducible rfl
  rotate_left
  · simp only [Act.put, List.setIfInBounds_toArray, List.set_cons_zero, List.set_cons_succ, i64_w, i32_w]
    rfl
  refine pure_ (i := 13) (N := some 20) (v := ?_) (a' := ?_) #[true, true, true, false, true, false, false, false, true, true, false, false, true, true, false, false, false, false, false, false, false, false, false, false, false, false] rfl rfl (by kernel_rfl) (fun _ _ _ h => h) (Or.inl ⟨by rfl, ?_⟩) ?_ ?_
  rotate_left
  · intro w'
    go_simp
    with_reducible rfl
  rotate_left
  · simp only [Act.put, List.setIfInBounds_toArray, List.set_cons_zero, List.set_cons_succ, i64_w, i32_w]
    rfl
  refine pure_ (i := 14) (N := some 21) (v := ?_) (a' := ?_) #[true, true, true, false, true, false, false, false, true, true, false, false, true, true, true, false, false, false, false, false, false, false, false, false, false, false] rfl rfl (by kernel_rfl) (fun _ _ _ h => h) (Or.inl ⟨by rfl, ?_⟩) ?_ ?_
  rotate_left
  · intro w'
    go_simp
    with_reducible rfl
  rotate_left
  · simp only [Act.put, List.setIfInBounds_toArray, List.set_cons_zero, List.set_cons_succ, i64_w, i32_w]
    rfl
  refine pure_ (i := 16) (N := some 23) (v := ?_) (a' := ?_) #[true, true, true, false, true, false, false, false, true, true, false, false, true, true, true, false, true, false, false, false, false, false, false, false, false, false] rfl rfl (by kernel_rfl) (fun _ _ _ h => h) (Or.inl ⟨by rfl, ?_⟩) ?_ ?_
  rotate_left
  · intro w'
    go_simp
    with_reducible rfl
  rotate_left
  · simp only [Act.put, List.setIfInBounds_toArray, List.set_cons_zero, List.set_cons_succ, i64_w, i32_w]
    rfl
  refine pure_ (i := 20) (N := some 27) (v := ?_) (a' := ?_) #[true, true, true, false, true, false, false, false, true, true, false, false, true, true, true, false, true, false, false, false, true, false, false, false, false, false] rfl rfl (by kernel_rfl) (fun _ _ _ h => h) (Or.inl ⟨by rfl, ?_⟩) ?_ ?_
  rotate_left
  · intro w'
    go_simp
    with_reducible rfl
  rotate_left
  · simp only [Act.put, List.setIfInBounds_toArray, List.set_cons_zero, List.set_cons_succ, i64_w, i32_w]
    rfl
  refine pure_ (i := 21) (N := some 28) (v := ?_) (a' := ?_) #[true, true, true, false, true, false, false, false, true, true, false, false, true, true, true, false, true, false, false, false, true, true, false, false, false, false] rfl rfl (by kernel_rfl) (fun _ _ _ h => h) (Or.inl ⟨by rfl, ?_⟩) ?_ ?_
  rotate_left
  · intro w'
    go_simp
    with_reducible rfl
  rotate_left
  · simp only [Act.put, List.setIfInBounds_toArray, List.set_cons_zero, List.set_cons_succ, i64_w, i32_w]
    rfl
  refine take_ (i := 3) (N := some 10) (v := ?_) (a' := ?_) #[true, true, true, true, true, false, false, false, true, true, false, false, true, true, true, false, true, false, false, false, true, true, false, false, false, false] rfl rfl (by kernel_rfl) (fun _ _ _ h => h) (Or.inl ⟨by rfl, ?_⟩) hHeld ?_ ?_
  rotate_left
  · rintro w' ⟨s0, s1, s2⟩
    go_simp
    with_reducible rfl
  rotate_left
  · simp only [Act.put, List.setIfInBounds_toArray, List.set_cons_zero, List.set_cons_succ, i64_w, i32_w]
    rfl
  refine pure_ (i := 5) (N := some 12) (v := ?_) (a' := ?_) #[true, true, true, true, true, true, false, false, true, true, false, false, true, true, true, false, true, false, false, false, true, true, false, false, false, false] rfl rfl (by kernel_rfl) (fun _ _ _ h => h) (Or.inl ⟨by rfl, ?_⟩) ?_ ?_
  rotate_left
  · intro w'
    go_simp
    with_reducible rfl
  rotate_left
  · simp only [Act.put, List.setIfInBounds_toArray, List.set_cons_zero, List.set_cons_succ, i64_w, i32_w]
    rfl
  refine pure_ (i := 6) (N := some 13) (v := ?_) (a' := ?_) #[true, true, true, true, true, true, true, false, true, true, false, false, true, true, true, false, true, false, false, false, true, true, false, false, false, false] rfl rfl (by kernel_rfl) (fun _ _ _ h => h) (Or.inl ⟨by rfl, ?_⟩) ?_ ?_
  rotate_left
  · intro w'
    go_simp
    with_reducible rfl
  rotate_left
  · simp only [Act.put, List.setIfInBounds_toArray, List.set_cons_zero, List.set_cons_succ, i64_w, i32_w]
    rfl
  refine take_ (i := 7) (N := some 14) (v := ?_) (a' := ?_) #[true, true, true, true, true, true, true, true, true, true, false, false, true, true, true, false, true, false, false, false, true, true, false, false, false, false] rfl rfl (by kernel_rfl) (fun _ _ _ h => h) (Or.inl ⟨by rfl, ?_⟩) hHeld ?_ ?_
  rotate_left
  · rintro w' ⟨s0, s1, s2⟩
    go_simp
    with_reducible rfl
  rotate_left
  · simp only [Act.put, List.setIfInBounds_toArray, List.set_cons_zero, List.set_cons_succ, i64_w, i32_w]
    rfl
  refine take_ (i := 15) (N := some 22) (v := ?_) (a' := ?_) #[true, true, true, true, true, true, true, true, true, true, false, false, true, true, true, true, true, false, false, false, true, true, false, false, false, false] rfl rfl (by kernel_rfl) (fun _ _ _ h => h) (Or.inl ⟨by rfl, ?_⟩) hHeld ?_ ?_
  rotate_left
  · rintro w' ⟨s0, s1, s2⟩
    go_simp
    with_reducible rfl
  rotate_left
  · simp only [Act.put, List.setIfInBounds_toArray, List.set_cons_zero, List.set_cons_succ, i64_w, i32_w]
    rfl
  refine pure_ (i := 17) (N := some 24) (v := ?_) (a' := ?_) #[true, true, true, true, true, true, true, true, true, true, false, false, true, true, true, true, true, true, false, false, true, true, false, false, false, false] rfl rfl (by kernel_rfl) (fun _ _ _ h => h) (Or.inl ⟨by rfl, ?_⟩) ?_ ?_
  rotate_left
  · intro w'
    go_simp
    with_reducible rfl
  rotate_left
  · simp only [Act.put, List.setIfInBounds_toArray, List.set_cons_zero, List.set_cons_succ, i64_w, i32_w]
    rfl
  refine pure_ (i := 18) (N := some 25) (v := ?_) (a' := ?_) #[true, true, true, true, true, true, true, true, true, true, false, false, true, true, true, true, true, true, true, false, true, true, false, false, false, false] rfl rfl (by kernel_rfl) (fun _ _ _ h => h) (Or.inl ⟨by rfl, ?_⟩) ?_ ?_
  rotate_left
  · intro w'
    go_simp
    with_reducible rfl
  rotate_left
  · simp only [Act.put, List.setIfInBounds_toArray, List.set_cons_zero, List.set_cons_succ, i64_w, i32_w]
    rfl
  refine take_ (i := 19) (N := some 26) (v := ?_) (a' := ?_) #[true, true, true, true, true, true, true, true, true, true, false, false, true, true, true, true, true, true, true, true, true, true, false, false, false, false] rfl rfl (by kernel_rfl) (fun _ _ _ h => h) (Or.inl ⟨by rfl, ?_⟩) hHeld ?_ ?_
  rotate_left
  · rintro w' ⟨s0, s1, s2⟩
    go_simp
    with_reducible rfl
  rotate_left
  · simp only [Act.put, List.setIfInBounds_toArray, List.set_cons_zero, List.set_cons_succ, i64_w, i32_w]
    rfl
  refine one_ (i := 10) (N := some 17) #[true, true, true, true, true, true, true, true, true, true, true, false, true, true, true, true, true, true, true, true, true, true, false, false, false, false] rfl rfl (by kernel_rfl) (by decide) (fun K hK => ?_)
  refine goes_ Tryd.func45 (by kernel_rfl) rfl #[.pointer (some ⟨p, 0, none⟩), .int .i64 b] (by rfl) rfl rfl (by simp only [List.map_toArray, List.map_cons, List.map_nil]; rfl) ?_
  with_reducible refine (C.out _ (below_drew1 (Below.refl _ _)) b HBB.out.1 HBB.out.2).mono ?_
  rintro e w3 ⟨rfl, hb3⟩
  refine ⟨_, rfl, ?_⟩
  have H3 := Aside0.mk (below_step (below_drew1 (Below.refl w.heap.size w)) hb3)
  clear hb3
  refine hK.out _ _ ⟨(HSB.out _ H3.out).1, (HSB.out _ H3.out).2.1, (HSB.out _ H3.out).2.2⟩ (fun hHeld => ?_)
  clear hK K
  refine norm_ (a' := ?_) ?_ ?_
  rotate_left
  · show Act.put _ (some 17) _ = _
    simp only [Act.put, List.setIfInBounds_toArray, List.set_cons_zero, List.set_cons_succ, i64_w, i32_w]
    rfl
  refine pure_ (i := 11) (N := some 18) (v := ?_) (a' := ?_) #[true, true, true, true, true, true, true, true, true, true, true, true, true, true, true, true, true, true, true, true, true, true, false, false, false, false] rfl rfl (by kernel_rfl) (fun _ _ _ h => h) (Or.inl ⟨by rfl, ?_⟩) ?_ ?_
  rotate_left
  · intro w'
    go_simp
    with_reducible rfl
  rotate_left
  · simp only [Act.put, List.setIfInBounds_toArray, List.set_cons_zero, List.set_cons_succ, i64_w, i32_w]
    rfl
  refine one_ (i := 22) (N := some 29) #[true, true, true, true, true, true, true, true, true, true, true, true, true, true, true, true, true, true, true, true, true, true, true, false, false, false] rfl rfl (by kernel_rfl) (by decide) (fun K hK => ?_)
  refine goes_ Tryd.func45 (by kernel_rfl) rfl #[.pointer (some ⟨p, 0, none⟩), .int .i64 a] (by rfl) rfl rfl (by simp only [List.map_toArray, List.map_cons, List.map_nil]; rfl) ?_
  with_reducible refine (C.out _ H3.out a HA.out.1 HA.out.2).mono ?_
  rintro e w4 ⟨rfl, hb4⟩
  refine ⟨_, rfl, ?_⟩
  have H4 := Aside0.mk (below_step H3.out hb4)
  clear hb4
  refine hK.out _ _ ⟨(HSB.out _ H4.out).1, (HSB.out _ H4.out).2.1, (HSB.out _ H4.out).2.2⟩ (fun hHeld => ?_)
  clear hK K
  refine norm_ (a' := ?_) ?_ ?_
  rotate_left
  · show Act.put _ (some 29) _ = _
    simp only [Act.put, List.setIfInBounds_toArray, List.set_cons_zero, List.set_cons_succ, i64_w, i32_w]
    rfl
  refine pure_ (i := 23) (N := some 30) (v := ?_) (a' := ?_) #[true, true, true, true, true, true, true, true, true, true, true, true, true, true, true, true, true, true, true, true, true, true, true, true, false, false] rfl rfl (by kernel_rfl) (fun _ _ _ h => h) (Or.inl ⟨by rfl, ?_⟩) ?_ ?_
  rotate_left
  · intro w'
    go_simp
    with_reducible rfl
  rotate_left
  · simp only [Act.put, List.setIfInBounds_toArray, List.set_cons_zero, List.set_cons_succ, i64_w, i32_w]
    rfl
  refine pure_ (i := 24) (N := some 31) (v := ?_) (a' := ?_) #[true, true, true, true, true, true, true, true, true, true, true, true, true, true, true, true, true, true, true, true, true, true, true, true, true, false] rfl rfl (by kernel_rfl) (fun _ _ _ h => h) (Or.inl ⟨by rfl, ?_⟩) ?_ ?_
  rotate_left
  · intro w'
    go_simp
    with_reducible rfl
  rotate_left
  · simp only [Act.put, List.setIfInBounds_toArray, List.set_cons_zero, List.set_cons_succ, i64_w, i32_w]
    rfl
  refine pure_ (i := 25) (N := some 6) (v := ?_) (a' := ?_) #[true, true, true, true, true, true, true, true, true, true, true, true, true, true, true, true, true, true, true, true, true, true, true, true, true, true] rfl rfl (by kernel_rfl) (fun _ _ _ h => h) (Or.inl ⟨by rfl, ?_⟩) ?_ ?_
  rotate_left
  · intro w'
    go_simp
    with_reducible rfl
  rotate_left
  · simp only [Act.put, List.setIfInBounds_toArray, List.set_cons_zero, List.set_cons_succ, i64_w, i32_w]
    rfl
  refine done_ (by kernel_rfl) ?_

  go_wp2
  go_ret
  exact ⟨rfl, H4.out⟩
end Go.Proofs.YtolhijnkgkfjgaaDoor.XC
