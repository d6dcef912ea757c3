/- The scanner: what it holds. The scanner: whom a span meets in a register. The scanner: a register's row set anew, a place set. The scanner: one is put into a register. The scanner: one is put where it meets none; how long a span is. -/
import Derived.Test.YtolhijnkgkfjgaaDoorHeaps
import Derived.Test.YtolhijnkgkfjgaaDoorXCx2
namespace Go.Proofs.YtolhijnkgkfjgaaDoor.XC
open Go.RowKit Go.Proofs.YtolhijnkgkfjgaaDoorW.PrintWords Go.Proofs.YtolhijnkgkfjgaaDoorW.PrintLast Go.Proofs.YtolhijnkgkfjgaaDoorW.PrintMore
set_option linter.unusedVariables false
set_option linter.unusedSimpArgs false
abbrev nilS : Value := .slice none 0 0
def vAt (vs : List Value) (r : Nat) : Value := vs.getD r nilS
def rAt (ins : List (List Int)) (r : Nat) : List Int := ins.getD r []
/-- The scanner's blocks: its own, the registers' row, the rows in it, the places' row. -/
structure SC (w : World) (B p gi k : Nat) (va : Value) (A : Option Addr) (n c : Nat) (vs : List Value) (ins : List (List Int)) (at_ : List Int) : Prop where
  hp : w.heap[p]? = some (.cells #[.slice A n c, .slice (some ⟨gi, 0, none⟩) k k, va] 51 (0, 0))
  hin : w.heap[gi]? = some (.cells vs.toArray 25 (0, 0))
  hk : vs.length = k
  hki : ins.length = k
  hat : RI w B va at_
  hrow : ∀ r, r < k → RI w B (vAt vs r) (rAt ins r)
  hap : ∀ r r' b, r < k → r' < k → r ≠ r' → (vAt vs r).ownBlock = some b → (vAt vs r').ownBlock ≠ some b
  haa : ∀ r b, r < k → (vAt vs r).ownBlock = some b → va.ownBlock ≠ some b
  hB : B ≤ gi
/-- What the scanner's calls write. -/
def SK (gi k : Nat) (va : Value) (vs : List Value) : Nat → Prop := fun b => b = gi ∨ va.ownBlock = some b ∨ ∃ r, r < k ∧ (vAt vs r).ownBlock = some b
section
variable {w w' : World} {B p gi k n c : Nat} {va : Value} {A : Option Addr} {vs : List Value} {ins : List (List Int)} {at_ : List Int}
theorem SC.ltp (h : SC w B p gi k va A n c vs ins at_) : p < w.heap.size := blk_lt h.hp
theorem SC.ltg (h : SC w B p gi k va A n c vs ins at_) : gi < w.heap.size := blk_lt h.hin
theorem SC.ne (h : SC w B p gi k va A n c vs ins at_) : p ≠ gi := fun e => by
  have h1 := h.hp
  rw [e, h.hin] at h1
  injection h1 with h1
  injection h1 with _ h1
  exact absurd h1 (by decide)
theorem SC.nepv {v : Value} {xs : List Int} (h : SC w B p gi k va A n c vs ins at_) {B' : Nat} (hv : RI w B' v xs) : some p ≠ v.ownBlock := Kd.R_ne hv h.hp (by decide)
theorem SC.negv {v : Value} {xs : List Int} (h : SC w B p gi k va A n c vs ins at_) {B' : Nat} (hv : RI w B' v xs) : some gi ≠ v.ownBlock := Kd.R_ne hv h.hin (by decide)
theorem RI.kept {v : Value} {xs : List Int} (h : RI w B v xs) {S : Nat → Prop} (hk : Kept w w' S) (hne : ∀ b, v.ownBlock = some b → ¬ S b) : RI w' B v xs :=
  Kd.R_mono (Kd.R_kept (Kd.R_tight rfl h) hk (fun b hb => hne b hb.symm)) (fun _ _ => trivial)
/-- It stays where nothing of its own is written. -/
theorem SC.kept (h : SC w B p gi k va A n c vs ins at_) {S : Nat → Prop} (hk : Kept w w' S) (hp : ¬ S p) (hS : ∀ b, SK gi k va vs b → ¬ S b) : SC w' B p gi k va A n c vs ins at_ :=
  ⟨(hk.2 p h.ltp hp).trans h.hp, (hk.2 gi h.ltg (hS gi (.inl rfl))).trans h.hin, h.hk, h.hki, h.hat.kept hk (fun b hb => hS b (.inr (.inl hb))), fun r hr => (h.hrow r hr).kept hk (fun b hb => hS b (.inr (.inr ⟨r, hr, hb⟩))), h.hap, h.haa, h.hB⟩
theorem SC.below (h : SC w B p gi k va A n c vs ins at_) (hb : Below w.heap.size w w') : SC w' B p gi k va A n c vs ins at_ := h.kept (Kept.of_below hb (fun _ => False)) id (fun _ _ => id)
theorem SC.drewN (h : SC w B p gi k va A n c vs ins at_) (m : Nat) : SC (w.drewN m) B p gi k va A n c vs ins at_ := h.below (pw_below_drewN (Below.refl _ _) m)
theorem SC.drew (h : SC w B p gi k va A n c vs ins at_) : SC w.drew B p gi k va A n c vs ins at_ := h.below (below_drew (Below.refl _ _))
theorem SC.c0 (h : SC w B p gi k va A n c vs ins at_) : w.cell? ⟨p, 0, none⟩ = some (.slice A n c) := (blk_cell h.hp 0).trans rfl
theorem SC.c1 (h : SC w B p gi k va A n c vs ins at_) : w.cell? ⟨p, 1, none⟩ = some (.slice (some ⟨gi, 0, none⟩) k k) := (blk_cell h.hp 1).trans rfl
theorem SC.c2 (h : SC w B p gi k va A n c vs ins at_) : w.cell? ⟨p, 2, none⟩ = some va := (blk_cell h.hp 2).trans rfl
theorem SC.cr (h : SC w B p gi k va A n c vs ins at_) {r : Nat} (hr : r < k) : w.cell? ⟨gi, r, none⟩ = some (vAt vs r) := by
  rw [blk_cell h.hin r, List.getElem?_toArray, List.getElem?_eq_getElem (by rw [h.hk]; exact hr)]
  unfold vAt
  rw [List.getD_eq_getElem?_getD, List.getElem?_eq_getElem (by rw [h.hk]; exact hr)]
  rfl
theorem SC.zr (h : SC w B p gi k va A n c vs ins at_) (r : Nat) : w.frozen? ⟨gi, r, none⟩ = false := blk_frozen h.hin r
theorem SC.SK_lt (h : SC w B p gi k va A n c vs ins at_) {b : Nat} (hb : SK gi k va vs b) : B ≤ b ∧ b < w.heap.size := by
  rcases hb with rfl | hb | ⟨r, hr, hb⟩
  · exact ⟨h.hB, h.ltg⟩
  · exact ⟨Kd.R_base h.hat b hb, Kd.R_lt h.hat b hb⟩
  · exact ⟨Kd.R_base (h.hrow r hr) b hb, Kd.R_lt (h.hrow r hr) b hb⟩
theorem SC.SK_nep (h : SC w B p gi k va A n c vs ins at_) : ¬ SK gi k va vs p := fun hb => by
  rcases hb with hb | hb | ⟨r, hr, hb⟩
  · exact h.ne hb
  · exact h.nepv h.hat hb.symm
  · exact h.nepv (h.hrow r hr) hb.symm
end
/-- Whether two meet, as the program says it, by one plain function. -/
def MeetIs (l : List Sp) (mt : Int → Int → Bool) : Prop := ∀ a b : Int, 0 ≤ a → a < (l.length : Int) → 0 ≤ b → b < (l.length : Int) → ∃ k, span_Meet.f k (rdS l a).f0 (rdS l a).f1 (rdS l b).f0 (rdS l b).f1 = some (mt a b)
def Good (l : List Sp) (ins : List (List Int)) : Prop := ∀ r o, o ∈ rAt ins r → 0 ≤ o ∧ o < (l.length : Int)
def meetsF (mt : Int → Int → Bool) (ins : List (List Int)) (r : Nat) (id : Int) : List Int := (rAt ins r).filter fun o => mt id o
end Go.Proofs.YtolhijnkgkfjgaaDoor.XC
namespace Go.Proofs.YtolhijnkgkfjgaaDoor.XC
open Go.RowKit Go.Proofs.YtolhijnkgkfjgaaDoorW.PrintWords Go.Proofs.YtolhijnkgkfjgaaDoorW.PrintLast Go.Proofs.YtolhijnkgkfjgaaDoorW.PrintMore
attribute [local go_sem] max2_int min2_int max_two min_two max_three min_three max_four min_four   -- for this text's walks alone
set_option linter.unusedVariables false
set_option linter.unusedSimpArgs false
theorem wrap_succ (i n : Nat) (hi : i < n) (hn : n < 1000000000) : wrap64 ((i : Int) + 1) = ((i + 1 : Nat) : Int) := by unfold wrap64; omega
/-- A span's cells, wherever the spans that came in still are. -/
theorem span_cells {w0 : World} {A : Option Addr} {l : List Sp} (hr : Kd.C k44 w0 A l.length l) (a : Int) (h0 : 0 ≤ a) (h1 : a < (l.length : Int)) : ∃ ads A1 c1, A = some ads ∧ (rdS l a).f0.length ≤ c1 ∧ (∀ W, Below w0.heap.size w0 W → W.cell? (ads.add (a.toNat * 2)) = some (.slice A1 (rdS l a).f0.length c1) ∧ W.cell? ⟨(ads.add (a.toNat * 2)).block, (ads.add (a.toNat * 2)).off + 1, none⟩ = some (.int .i64 (rdS l a).f1) ∧ Kd.C k41 W A1 (rdS l a).f0.length (rdS l a).f0) := by
  obtain ⟨ads, A1, c1, e1, hs1, hs2, hl1, hi1⟩ := at_T44 hr a h0 h1
  exact ⟨ads, A1, c1, e1, hl1, fun W hW => ⟨pw_cell_below hW hs1, pw_cell_below hW hs2, Kd.C_below hi1 hW⟩⟩
set_option maxHeartbeats 8000000 in
set_option maxRecDepth 100000 in
theorem s_meets (w0 w : World) (hB : Below w0.heap.size w0 w) (A : Option Addr) (c : Nat) (l : List Sp) (hr : Kd.C k44 w0 A l.length l) (hl : l.length < 100000) (B p gi k : Nat) (va : Value) (vs : List Value) (ins : List (List Int)) (at_ : List Int) (hs : SC w B p gi k va A l.length c vs ins at_) (mt : Int → Int → Bool) (hm : MeetIs l mt) (r : Nat) (hrk : r < k) (id : Int) (h0 : 0 ≤ id) (h1 : id < (l.length : Int)) (hg : Good l ins) (hrl : (rAt ins r).length < 100000) :
    Calls Tryd.prog 29 #[.pointer (some ⟨p, 0, none⟩), .int .i64 (r : Int), .int .i64 id] w fun e w' => ∃ v', e = .returned v' ∧ RI w' w.heap.size v' (meetsF mt ins r id) ∧ Below w.heap.size w w' := by
  have HG0 := Aside0.mk (hg r)
  obtain ⟨row, hrow⟩ : ∃ row, row = rAt ins r := ⟨_, rfl⟩
  have HRW := Aside0.mk (hs.hrow r hrk)
  unfold meetsF
  rw [← hrow] at HG0 hrl HRW ⊢
  obtain ⟨AV, cV, hv, hcV, hC⟩ := Kd.R_reads HRW.out
  have hx0 := hs.c0
  have hx1 := hs.c1
  have hxr := hs.cr hrk
  rw [hv] at hxr
  have HS := Aside0.mk hs
  have HB := Aside0.mk hB
  have HR := Aside0.mk hr
  have HM := Aside0.mk hm
  have HID := Aside0.mk (And.intro h0 h1)
  have HL := Aside0.mk hrl
  have HC := Aside0.mk hC
  obtain ⟨ads, A1, c1, rfl, hl1, hsp⟩ := span_cells hr id h0 h1
  have HSP := Aside0.mk hsp
  have HL1 := Aside0.mk hl1
  have p1 : (0 ≤ (r : Int)) = True := eq_true (by omega)
  have p2 : (r < k) = True := eq_true hrk
  have p3 : ((r : Int) < (k : Int)) = True := eq_true (by omega)
  have p4 : (0 ≤ id) = True := eq_true h0
  have p5 : (id < (l.length : Int)) = True := eq_true h1
  clear hB hr hs hm hg hC hl1 hsp hrl h0 h1 hrow HRW hcV hv hrk hl
  go_enter Tryd.func29, Tryd.ntmps29
  go_wp2
  go_loopg [7, 18] row.length (fun kq v7 v18 w' => ∃ (i : Nat), v18 = .int .i64 (i : Int) ∧ Aside0 (kq + i = row.length) ∧ Aside0 (RI w' w.heap.size v7 ((row.take i).filter fun o => mt id o)) ∧ Aside0 (Below w.heap.size w w'))
  case atStart => exact ⟨0, rfl, ⟨rfl⟩, ⟨Kd.R_nil _ _ _ _ _⟩, ⟨Below.refl _ _⟩⟩
  case round =>
    obtain ⟨i, rfl, HK, HO, HW⟩ := hrel
    by_cases hi : i < row.length
    · obtain ⟨k1, rfl⟩ : ∃ k1, gk = k1 + 1 := ⟨gk - 1, by have := HK.out; omega⟩
      have hc : decide ((i : Int) < (row.length : Int)) = true := decide_eq_true (by omega)
      have q0 : (0 ≤ (i : Int)) = True := eq_true (by omega)
      have q1 : ((i : Int) < (row.length : Int)) = True := eq_true (by omega)
      have q2 : (i < row.length) = True := eq_true hi
      obtain ⟨adr, e1, hxo⟩ := Kd.at_int (Kd.C_below HC.out HW.out) (i : Int) (by omega) (by omega)
      subst e1
      rw [Int.toNat_natCast] at hxo
      have hw := wrap_succ i row.length hi (by have := HL.out; omega)
      have hgo := HG0.out (rd row (i : Int)) (by unfold rd; rw [Int.toNat_natCast, List.getD_eq_getElem?_getD, List.getElem?_eq_getElem hi]; exact List.getElem_mem hi)
      have HT := Aside0.mk (show (row.take (i + 1)).filter (fun o => mt id o) = (row.take i).filter (fun o => mt id o) ++ if mt id (rd row (i : Int)) = true then [rd row (i : Int)] else [] by
        rw [List.take_add_one, List.getElem?_eq_getElem hi, List.filter_append]
        congr 1
        have : row[i] = rd row (i : Int) := by unfold rd; rw [Int.toNat_natCast, List.getD_eq_getElem?_getD, List.getElem?_eq_getElem hi]; rfl
        rw [Option.toList_some, this, List.filter_cons]
        split <;> rfl)
      obtain ⟨o, ho⟩ : ∃ o, o = rd row (i : Int) := ⟨_, rfl⟩
      rw [← ho] at hxo hgo HT
      have HI := Aside0.mk hi
      clear ho hi
      obtain ⟨_, A2, c2, e1, hl2, hsp2⟩ := span_cells HR.out o hgo.1 hgo.2
      cases e1
      have HSP2 := Aside0.mk hsp2
      have HL2 := Aside0.mk hl2
      obtain ⟨kM, hkM⟩ := HM.out id o HID.out.1 HID.out.2 hgo.1 hgo.2
      obtain ⟨bm, hbm⟩ : ∃ bm, bm = mt id o := ⟨_, rfl⟩
      rw [← hbm] at hkM HT
      have HKM := Aside0.mk hkM
      clear hbm
      have q4 : (0 ≤ o) = True := eq_true hgo.1
      have q5 : (o < (l.length : Int)) = True := eq_true hgo.2
      have HBW := Aside0.mk (below_step HB.out HW.out)
      have HSB := Aside0.mk (show ∀ W_, Below wr.heap.size wr W_ → W_.cell? ⟨p, 0, none⟩ = some (.slice (some ads) l.length c) ∧ W_.cell? (ads.add (id.toNat * 2)) = some (.slice A1 (rdS l id).f0.length c1) ∧ W_.cell? ⟨(ads.add (id.toNat * 2)).block, (ads.add (id.toNat * 2)).off + 1, none⟩ = some (.int .i64 (rdS l id).f1) ∧ W_.cell? (ads.add (o.toNat * 2)) = some (.slice A2 (rdS l o).f0.length c2) ∧ W_.cell? ⟨(ads.add (o.toNat * 2)).block, (ads.add (o.toNat * 2)).off + 1, none⟩ = some (.int .i64 (rdS l o).f1) from fun W_ hk => by
        have h := (below_step HBW.out hk)
        exact ⟨((HS.out.below HW.out).below hk).c0, (HSP.out W_ h).1, (HSP.out W_ h).2.1, (HSP2.out W_ h).1, (HSP2.out W_ h).2.1⟩)
      clear hgo hl2 hsp2 hkM
      go_wp2
      refine start_ (n := 15) (S := fun w' => w'.cell? ⟨p, 0, none⟩ = some (.slice (some ads) l.length c) ∧ w'.cell? (ads.add (id.toNat * 2)) = some (.slice A1 (rdS l id).f0.length c1) ∧ w'.cell? ⟨(ads.add (id.toNat * 2)).block, (ads.add (id.toNat * 2)).off + 1, none⟩ = some (.int .i64 (rdS l id).f1) ∧ w'.cell? (ads.add (o.toNat * 2)) = some (.slice A2 (rdS l o).f0.length c2) ∧ w'.cell? ⟨(ads.add (o.toNat * 2)).block, (ads.add (o.toNat * 2)).off + 1, none⟩ = some (.int .i64 (rdS l o).f1)) (ds := []) #[false, false, false, false, false, false, false, false, false, false, false, false, false, false, false] (by kernel_rfl) rfl rfl ⟨(HSB.out _ (below_drew1 (Below.refl _ _))).1, (HSB.out _ (below_drew1 (Below.refl _ _))).2.1, (HSB.out _ (below_drew1 (Below.refl _ _))).2.2.1, (HSB.out _ (below_drew1 (Below.refl _ _))).2.2.2.1, (HSB.out _ (below_drew1 (Below.refl _ _))).2.2.2.2⟩ (fun hHeld => ?_)
      refine pure_ (i := 0) (N := some 22) (v := ?_) (a' := ?_) #[true, false, false, false, false, false, false, false, false, false, false, false, false, false, false] rfl rfl (by kernel_rfl) (fun _ _ _ h => h) (Or.inl ⟨by rfl, ?_⟩) ?_ ?_
      rotate_left
      · intro w'
        go_simp
        with_reducible rfl
      rotate_left
      · simp only [Act.put, List.setIfInBounds_toArray, List.set_cons_zero, List.set_cons_succ, i64_w, i32_w]
        rfl
      refine pure_ (i := 1) (N := some 23) (v := ?_) (a' := ?_) #[true, true, false, false, false, false, false, false, false, false, false, false, false, false, false] rfl rfl (by kernel_rfl) (fun _ _ _ h => h) (Or.inl ⟨by rfl, ?_⟩) ?_ ?_
      rotate_left
      · intro w'
        go_simp
        with_reducible rfl
      rotate_left
      · simp only [Act.put, List.setIfInBounds_toArray, List.set_cons_zero, List.set_cons_succ, i64_w, i32_w]
        rfl
      refine pure_ (i := 2) (N := some 24) (v := ?_) (a' := ?_) #[true, true, true, false, false, false, false, false, false, false, false, false, false, false, false] rfl rfl (by kernel_rfl) (fun _ _ _ h => h) (Or.inl ⟨by rfl, ?_⟩) ?_ ?_
      rotate_left
      · intro w'
        go_simp
        with_reducible rfl
      rotate_left
      · simp only [Act.put, List.setIfInBounds_toArray, List.set_cons_zero, List.set_cons_succ, i64_w, i32_w]
        rfl
      refine pure_ (i := 4) (N := some 26) (v := ?_) (a' := ?_) #[true, true, true, false, true, false, false, false, false, false, false, false, false, false, false] rfl rfl (by kernel_rfl) (fun _ _ _ h => h) (Or.inl ⟨by rfl, ?_⟩) ?_ ?_
      rotate_left
      · intro w'
        go_simp
        with_reducible rfl
      rotate_left
      · simp only [Act.put, List.setIfInBounds_toArray, List.set_cons_zero, List.set_cons_succ, i64_w, i32_w]
        rfl
      refine pure_ (i := 7) (N := some 29) (v := ?_) (a' := ?_) #[true, true, true, false, true, false, false, true, false, false, false, false, false, false, false] rfl rfl (by kernel_rfl) (fun _ _ _ h => h) (Or.inl ⟨by rfl, ?_⟩) ?_ ?_
      rotate_left
      · intro w'
        go_simp
        with_reducible rfl
      rotate_left
      · simp only [Act.put, List.setIfInBounds_toArray, List.set_cons_zero, List.set_cons_succ, i64_w, i32_w]
        rfl
      refine pure_ (i := 8) (N := some 30) (v := ?_) (a' := ?_) #[true, true, true, false, true, false, false, true, true, false, false, false, false, false, false] rfl rfl (by kernel_rfl) (fun _ _ _ h => h) (Or.inl ⟨by rfl, ?_⟩) ?_ ?_
      rotate_left
      · intro w'
        go_simp
        with_reducible rfl
      rotate_left
      · simp only [Act.put, List.setIfInBounds_toArray, List.set_cons_zero, List.set_cons_succ, i64_w, i32_w]
        rfl
      refine pure_ (i := 9) (N := some 31) (v := ?_) (a' := ?_) #[true, true, true, false, true, false, false, true, true, true, false, false, false, false, false] rfl rfl (by kernel_rfl) (fun _ _ _ h => h) (Or.inl ⟨by rfl, ?_⟩) ?_ ?_
      rotate_left
      · intro w'
        go_simp
        with_reducible rfl
      rotate_left
      · simp only [Act.put, List.setIfInBounds_toArray, List.set_cons_zero, List.set_cons_succ, i64_w, i32_w]
        rfl
      refine pure_ (i := 11) (N := some 33) (v := ?_) (a' := ?_) #[true, true, true, false, true, false, false, true, true, true, false, true, false, false, false] rfl rfl (by kernel_rfl) (fun _ _ _ h => h) (Or.inl ⟨by rfl, ?_⟩) ?_ ?_
      rotate_left
      · intro w'
        go_simp
        with_reducible rfl
      rotate_left
      · simp only [Act.put, List.setIfInBounds_toArray, List.set_cons_zero, List.set_cons_succ, i64_w, i32_w]
        rfl
      refine take_ (i := 3) (N := some 25) (v := ?_) (a' := ?_) #[true, true, true, true, true, false, false, true, true, true, false, true, false, false, false] rfl rfl (by kernel_rfl) (fun _ _ _ h => h) (Or.inl ⟨by rfl, ?_⟩) hHeld ?_ ?_
      rotate_left
      · rintro w' ⟨s0, s1, s2, s3, s4⟩
        go_simp
        with_reducible rfl
      rotate_left
      · simp only [Act.put, List.setIfInBounds_toArray, List.set_cons_zero, List.set_cons_succ, i64_w, i32_w]
        rfl
      refine pure_ (i := 5) (N := some 27) (v := ?_) (a' := ?_) #[true, true, true, true, true, true, false, true, true, true, false, true, false, false, false] rfl rfl (by kernel_rfl) (fun _ _ _ h => h) (Or.inl ⟨by rfl, ?_⟩) ?_ ?_
      rotate_left
      · intro w'
        go_simp
        with_reducible rfl
      rotate_left
      · simp only [Act.put, List.setIfInBounds_toArray, List.set_cons_zero, List.set_cons_succ, i64_w, i32_w]
        rfl
      refine take_ (i := 6) (N := some 28) (v := ?_) (a' := ?_) #[true, true, true, true, true, true, true, true, true, true, false, true, false, false, false] rfl rfl (by kernel_rfl) (fun _ _ _ h => h) (Or.inl ⟨by rfl, ?_⟩) hHeld ?_ ?_
      rotate_left
      · rintro w' ⟨s0, s1, s2, s3, s4⟩
        go_simp
        with_reducible rfl
      rotate_left
      · simp only [Act.put, List.setIfInBounds_toArray, List.set_cons_zero, List.set_cons_succ, i64_w, i32_w]
        rfl
      refine take_ (i := 10) (N := some 32) (v := ?_) (a' := ?_) #[true, true, true, true, true, true, true, true, true, true, true, true, false, false, false] rfl rfl (by kernel_rfl) (fun _ _ _ h => h) (Or.inl ⟨by rfl, ?_⟩) hHeld ?_ ?_
      rotate_left
      · rintro w' ⟨s0, s1, s2, s3, s4⟩
        go_simp
        with_reducible rfl
      rotate_left
      · simp only [Act.put, List.setIfInBounds_toArray, List.set_cons_zero, List.set_cons_succ, i64_w, i32_w]
        rfl
      refine pure_ (i := 12) (N := some 34) (v := ?_) (a' := ?_) #[true, true, true, true, true, true, true, true, true, true, true, true, true, false, false] rfl rfl (by kernel_rfl) (fun _ _ _ h => h) (Or.inl ⟨by rfl, ?_⟩) ?_ ?_
      rotate_left
      · intro w'
        go_simp
        with_reducible rfl
      rotate_left
      · simp only [Act.put, List.setIfInBounds_toArray, List.set_cons_zero, List.set_cons_succ, i64_w, i32_w]
        rfl
      refine take_ (i := 13) (N := some 35) (v := ?_) (a' := ?_) #[true, true, true, true, true, true, true, true, true, true, true, true, true, true, false] rfl rfl (by kernel_rfl) (fun _ _ _ h => h) (Or.inl ⟨by rfl, ?_⟩) hHeld ?_ ?_
      rotate_left
      · rintro w' ⟨s0, s1, s2, s3, s4⟩
        go_simp
        with_reducible rfl
      rotate_left
      · simp only [Act.put, List.setIfInBounds_toArray, List.set_cons_zero, List.set_cons_succ, i64_w, i32_w]
        rfl
      refine one_ (i := 14) (N := some 36) #[true, true, true, true, true, true, true, true, true, true, true, true, true, true, true] rfl rfl (by kernel_rfl) (by decide) (fun K hK => ?_)
      refine goes_ Tryd.func37 (by kernel_rfl) rfl #[.agg #[.slice A1 (rdS l id).f0.length c1, .int .i64 (rdS l id).f1], .agg #[.slice A2 (rdS l o).f0.length c2, .int .i64 (rdS l o).f1]] (by rfl) rfl rfl (by simp only [List.map_toArray, List.map_cons, List.map_nil]; rfl) ?_
      with_reducible refine (span_Meet.calls kM A1 c1 (rdS l id).f0 (rdS l id).f1 A2 c2 (rdS l o).f0 (rdS l o).f1 bm _ (HSP.out _ (below_drew1 HBW.out)).2.2 HL1.out (HSP2.out _ (below_drew1 HBW.out)).2.2 HL2.out HKM.out).mono ?_
      rintro e w3 ⟨rfl, hb⟩
      refine ⟨_, rfl, ?_⟩
      refine hK.out _ _ ⟨(HSB.out _ (below_step (below_drew1 (Below.refl _ _)) hb)).1, (HSB.out _ (below_step (below_drew1 (Below.refl _ _)) hb)).2.1, (HSB.out _ (below_step (below_drew1 (Below.refl _ _)) hb)).2.2.1, (HSB.out _ (below_step (below_drew1 (Below.refl _ _)) hb)).2.2.2.1, (HSB.out _ (below_step (below_drew1 (Below.refl _ _)) hb)).2.2.2.2⟩ (fun hHeld => ?_)
      clear hK K
      refine norm_ (a' := ?_) ?_ ?_
      rotate_left
      · show Act.put _ (some 36) _ = _
        simp only [Act.put, List.setIfInBounds_toArray, List.set_cons_zero, List.set_cons_succ, i64_w, i32_w]
        rfl
      refine done_ (by kernel_rfl) ?_

      have HO3 := Aside0.mk (Kd.R_below (Kd.R_drew HO.out) hb)
      have HW3 := Aside0.mk (below_step (below_drew1 HW.out) hb)
      have HS3 := Aside0.mk (Nat.le_trans HW.out.size (show wr.heap.size ≤ w3.heap.size from hb.size))
      clear hb HSB
      cases bm with
      | true =>
        go_wp2_with ((with_reducible refine gate_builtin (b := .append) (xs := #[.tmp 37, .tmp 39]) rfl ?_); at_builtin; refine Kd.R_append (Kd.int .i64) (w0 := w) w.heap.size rfl (.tmp 37) (.tmp 39) 25 3 (.int .i64 0) 8 rfl Tryd.underlying25 infoI rfl (by decide) (by omega) u7 ((row.take i).filter fun o => mt id o) o [.int .i64 o] (fun _ => True) (fun _ => False) rfl rfl ?aP (fun _ hk => hk.elim) ?aF ?aO ?aB ?aS ?aL ?_; (case aP => exact rfl); (case aB => exact HW3.out); (case aF => exact (fun _ _ => trivial)); (case aO => exact HO3.out); (case aS => exact HS3.out); (case aL => have h1 := List.length_filter_le (fun o => mt id o) (row.take i); rw [List.length_take] at h1; have := HL.out; omega); intro v4 w4 ho4 hb4 hg4 hat4; have HO4 := Aside0.mk ho4; have HW4 := Aside0.mk hb4; clear ho4 hb4 hg4 hat4)
        go_roundg k1
        case measure => omega
        case rel => exact ⟨i + 1, (by first | rw [hw] | rfl | (push_cast; rfl)), ⟨by have := HK.out; omega⟩, ⟨by rw [HT.out]; exact HO4.out⟩, HW4⟩
      | false =>
        go_wp2
        go_roundg k1
        case measure => omega
        case rel => exact ⟨i + 1, (by first | rw [hw] | rfl | (push_cast; rfl)), ⟨by have := HK.out; omega⟩, ⟨by rw [HT.out]; simpa using HO3.out⟩, HW3⟩
    · have hc : decide ((i : Int) < (row.length : Int)) = false := decide_eq_false (by omega)
      have HI := Aside0.mk hi
      go_wp2
      go_ret
      exact ⟨_, rfl, by have h := HO.out; rw [List.take_of_length_le (by have := HI.out; omega)] at h; exact h, HW.out⟩
end Go.Proofs.YtolhijnkgkfjgaaDoor.XC
namespace Go.Proofs.YtolhijnkgkfjgaaDoor.XC
open Go.RowKit Go.Proofs.YtolhijnkgkfjgaaDoorW.PrintWords Go.Proofs.YtolhijnkgkfjgaaDoorW.PrintLast Go.Proofs.YtolhijnkgkfjgaaDoorW.PrintMore
set_option linter.unusedVariables false
set_option linter.unusedSimpArgs false
theorem heap_setCell_block {w : World} {g i t : Nat} {cells : Array Value} {fz : Nat × Nat} (h : w.heap[g]? = some (.cells cells t fz)) (v : Value) : (w.setCell ⟨g, i, none⟩ v).heap[g]? = some (.cells (cells.setIfInBounds i v) t fz) := by
  have hl := blk_lt h
  have he : w.heap[g]? = some w.heap[g] := Array.getElem?_eq_getElem hl
  rw [he] at h
  have h2 := Option.some.inj h
  have h3 : (w.setCell ⟨g, i, none⟩ v).heap[g]? = (w.heap[g]?).map (fun x => match x with | .cells c elem fz => .cells (c.setIfInBounds i v) elem fz | o => o) := by
    show (w.heap.modify g _)[g]? = _
    rw [Array.getElem?_modify, if_pos rfl]
    rfl
  rw [h3, he, h2]
  rfl
theorem vAt_set {vs : List Value} {r k : Nat} (h : vs.length = k) (hr : r < k) (v : Value) (r' : Nat) : vAt (vs.set r v) r' = if r' = r then v else vAt vs r' := by
  unfold vAt
  rw [List.getD_eq_getElem?_getD, List.getD_eq_getElem?_getD, List.getElem?_set]
  by_cases e : r' = r
  · subst e
    rw [if_pos rfl, if_pos rfl, if_pos (by omega)]
    rfl
  · rw [if_neg (fun h => e h.symm), if_neg e]
theorem rAt_set {ins : List (List Int)} {r k : Nat} (h : ins.length = k) (hr : r < k) (v : List Int) (r' : Nat) : rAt (ins.set r v) r' = if r' = r then v else rAt ins r' := by
  unfold rAt
  rw [List.getD_eq_getElem?_getD, List.getD_eq_getElem?_getD, List.getElem?_set]
  by_cases e : r' = r
  · subst e
    rw [if_pos rfl, if_pos rfl, if_pos (by omega)]
    rfl
  · rw [if_neg (fun h => e h.symm), if_neg e]
section
variable {w w1 w' : World} {B p gi k n c r : Nat} {va v1 : Value} {A : Option Addr} {vs : List Value} {ins : List (List Int)} {at_ ys : List Int}
theorem SC.rowS (h : SC w B p gi k va A n c vs ins at_) (hr : r < k) (hk : Kept w w1 (fun b => (vAt vs r).ownBlock = some b)) : w1.heap[p]? = w.heap[p]? ∧ w1.heap[gi]? = w.heap[gi]? :=
  ⟨hk.2 p h.ltp (fun e => h.nepv (h.hrow r hr) e.symm), hk.2 gi h.ltg (fun e => h.negv (h.hrow r hr) e.symm)⟩
/-- A register's row, set anew. -/
theorem SC.setRow (h : SC w B p gi k va A n c vs ins at_) (hr : r < k) (hv1 : RI w1 B v1 ys) (hk : Kept w w1 (fun b => (vAt vs r).ownBlock = some b)) (hn : NewOr w (vAt vs r) v1) : SC (w1.setCell ⟨gi, r, none⟩ v1) B p gi k va A n c (vs.set r v1) (ins.set r ys) at_ := by
  obtain ⟨hbp, hbg⟩ := h.rowS hr hk
  have hg1 : w1.heap[gi]? = some (.cells vs.toArray 25 (0, 0)) := hbg.trans h.hin
  have far : ∀ {v : Value} {xs : List Int}, RI w1 B v xs → RI (w1.setCell ⟨gi, r, none⟩ v1) B v xs := fun hv =>
    Kd.R_mono (Kd.R_far (p := ⟨gi, r, none⟩) (Kd.R_types hv hg1 (by decide)) (fun _ hk => hk.2) v1) (fun _ _ => trivial)
  have v1own : ∀ b, v1.ownBlock = some b → (vAt vs r).ownBlock = some b ∨ w.heap.size ≤ b := hn
  refine ⟨?_, ?_, ?_, ?_, ?_, fun r' hr' => ?_, fun r1 r2 b h1 h2 hne hb hb2 => ?_, fun r' b hr' hb hb2 => ?_, h.hB⟩
  · rw [Below.heap_setCell _ ⟨gi, r, none⟩ _ _ h.ne, hbp]
    exact h.hp
  · rw [heap_setCell_block hg1]
    simp
  · rw [List.length_set]; exact h.hk
  · rw [List.length_set]; exact h.hki
  · refine far (h.hat.kept hk (fun b hb e => h.haa r b hr e hb))
  · rw [vAt_set h.hk hr, rAt_set h.hki hr]
    by_cases e : r' = r
    · rw [if_pos e, if_pos e]
      exact far hv1
    · rw [if_neg e, if_neg e]
      exact far ((h.hrow r' hr').kept hk (fun b hb e2 => h.hap r' r b hr' hr e hb e2))
  · rw [vAt_set h.hk hr] at hb hb2
    by_cases e1 : r1 = r
    · rw [if_pos e1] at hb
      rw [if_neg (fun e2 => hne (e1.trans e2.symm))] at hb2
      rcases v1own b hb with h3 | h3
      · exact h.hap r r2 b hr h2 (fun e => hne (e1.trans e)) h3 hb2
      · have := Kd.R_lt (h.hrow r2 h2) b hb2
        omega
    · rw [if_neg e1] at hb
      by_cases e2 : r2 = r
      · rw [if_pos e2] at hb2
        rcases v1own b hb2 with h3 | h3
        · exact h.hap r1 r b h1 hr e1 hb h3
        · have := Kd.R_lt (h.hrow r1 h1) b hb
          omega
      · rw [if_neg e2] at hb2
        exact h.hap r1 r2 b h1 h2 hne hb hb2
  · rw [vAt_set h.hk hr] at hb
    by_cases e1 : r' = r
    · rw [if_pos e1] at hb
      rcases v1own b hb with h3 | h3
      · exact h.haa r b hr h3 hb2
      · have := Kd.R_lt h.hat b hb2
        omega
    · rw [if_neg e1] at hb
      exact h.haa r' b hr' hb hb2
theorem SK_setRow (h : SC w B p gi k va A n c vs ins at_) (hr : r < k) (hn : NewOr w (vAt vs r) v1) {b : Nat} (hb : SK gi k va (vs.set r v1) b) : SK gi k va vs b ∨ w.heap.size ≤ b := by
  rcases hb with hb | hb | ⟨r', hr', hb⟩
  · exact .inl (.inl hb)
  · exact .inl (.inr (.inl hb))
  · rw [vAt_set h.hk hr] at hb
    by_cases e : r' = r
    · rw [if_pos e] at hb
      exact (hn b hb).elim (fun h3 => .inl (.inr (.inr ⟨r, hr, h3⟩))) .inr
    · rw [if_neg e] at hb
      exact .inl (.inr (.inr ⟨r', hr', hb⟩))
theorem Kept_setRow (h : SC w B p gi k va A n c vs ins at_) (hr : r < k) (hk : Kept w w1 (fun b => (vAt vs r).ownBlock = some b)) (v1 : Value) : Kept w (w1.setCell ⟨gi, r, none⟩ v1) (SK gi k va vs) :=
  (hk.mono (fun b hb => .inr (.inr ⟨r, hr, hb⟩))).setCell (p := ⟨gi, r, none⟩) (.inl (.inl rfl)) v1
/-- A place set. -/
theorem SC.setAt (h : SC w B p gi k va A n c vs ins at_) (i : Nat) (x : Int) {ga ca : Nat} (hva : va = .slice (some ⟨ga, 0, none⟩) at_.length ca) : SC (w.setCell ⟨ga, i, none⟩ (.int .i64 x)) B p gi k va A n c vs ins (at_.set i x) := by
  have hown : va.ownBlock = some ga := by rw [hva]; rfl
  have hK : Kept w (w.setCell ⟨ga, i, none⟩ (.int .i64 x)) (fun b => b = ga) := Kept.setCell (S := fun b => b = ga) (Kept.refl w _) (p := ⟨ga, i, none⟩) (.inl rfl) _
  have hpg : p ≠ ga := fun e => h.nepv h.hat (by rw [hown, e])
  have hgg : gi ≠ ga := fun e => h.negv h.hat (by rw [hown, e])
  refine ⟨(hK.2 p h.ltp hpg).trans h.hp, (hK.2 gi h.ltg hgg).trans h.hin, h.hk, h.hki, ?_, fun r hr => (h.hrow r hr).kept hK (fun b hb e => h.haa r b hr hb (by rw [hown, e])), h.hap, h.haa, h.hB⟩
  have h1 := h.hat
  rw [hva] at h1 ⊢
  have h2 := Kd.R_putn h1 (i : Int) x
  rw [Int.toNat_natCast] at h2
  exact h2
theorem SK_ga {ga ca m : Nat} (hva : va = .slice (some ⟨ga, 0, none⟩) m ca) : SK gi k va vs ga := .inr (.inl (by rw [hva]; rfl))
end
end Go.Proofs.YtolhijnkgkfjgaaDoor.XC
namespace Go.Proofs.YtolhijnkgkfjgaaDoor.XC
open Go.RowKit Go.Proofs.YtolhijnkgkfjgaaDoorW.PrintWords Go.Proofs.YtolhijnkgkfjgaaDoorW.PrintLast Go.Proofs.YtolhijnkgkfjgaaDoorW.PrintMore
attribute [local go_sem] max2_int min2_int max_two min_two max_three min_three max_four min_four   -- for this text's walks alone
set_option linter.unusedVariables false
set_option linter.unusedSimpArgs false
/-- What a call of the scanner's leaves. -/
def Left (w0 w w' : World) (B p gi k : Nat) (va : Value) (A : Option Addr) (n c : Nat) (vs : List Value) (ins : List (List Int)) (at_ : List Int) : Prop :=
  ∃ vs', SC w' B p gi k va A n c vs' ins at_ ∧ Below w0.heap.size w0 w' ∧ Kept w w' (SK gi k va vs) ∧ ∀ b, SK gi k va vs' b → SK gi k va vs b ∨ w.heap.size ≤ b
set_option maxHeartbeats 8000000 in
set_option maxRecDepth 100000 in
theorem s_put (w0 w : World) (hB : Below w0.heap.size w0 w) (A : Option Addr) (n c : Nat) (B p gi k : Nat) (va : Value) (vs : List Value) (ins : List (List Int)) (at_ : List Int) (hs : SC w B p gi k va A n c vs ins at_) (hB0 : w0.heap.size ≤ B) (hBw : B ≤ w.heap.size) (r : Nat) (hrk : r < k) (id : Int) (h0 : 0 ≤ id) (h1 : id < (at_.length : Int)) (hrl : (rAt ins r).length < 100000) :
    Calls Tryd.prog 30 #[.pointer (some ⟨p, 0, none⟩), .int .i64 (r : Int), .int .i64 id] w fun e w' => e = .returned (.tuple #[]) ∧ Left w0 w w' B p gi k va A n c vs (ins.set r (rAt ins r ++ [id])) (at_.set id.toNat (r : Int)) := by
  obtain ⟨ga, ca, hva, hgaB, hgal, cells, hga⟩ := Kd.R_form hs.hat (by omega)
  obtain ⟨v, hv⟩ : ∃ v, v = vAt vs r := ⟨_, rfl⟩
  have hx1 := hs.c1
  have hxr := hs.cr hrk
  rw [← hv] at hxr
  have HS := Aside0.mk hs
  have HB := Aside0.mk hB
  have HB0 := Aside0.mk hB0
  have HBW := Aside0.mk hBw
  have HRK := Aside0.mk hrk
  have HID := Aside0.mk (And.intro h0 h1)
  have HL := Aside0.mk hrl
  have HVA := Aside0.mk hva
  have HV := Aside0.mk hv
  have HGA := Aside0.mk (show w0.heap.size ≤ ga by omega)
  have HRV := Aside0.mk (show RI w B v (rAt ins r) by rw [hv]; exact hs.hrow r hrk)
  have HGR := Aside0.mk (show ∀ w1, w.drew.grownBy w1 v.ownBlock → w1.heap[p]? = w.heap[p]? ∧ w1.heap[gi]? = w.heap[gi]? from fun w1 hg => ⟨hg.block p hs.ltp (by rw [hv]; exact hs.nepv (hs.hrow r hrk)), hg.block gi hs.ltg (by rw [hv]; exact hs.negv (hs.hrow r hrk))⟩)
  have p1 : (0 ≤ (r : Int)) = True := eq_true (by omega)
  have p2 : (r < k) = True := eq_true hrk
  have p3 : ((r : Int) < (k : Int)) = True := eq_true (by omega)
  have p4 : (0 ≤ id) = True := eq_true h0
  have p5 : (id < (at_.length : Int)) = True := eq_true h1
  have HSB := Aside0.mk (show ∀ W_, Below w.heap.size w W_ → W_.cell? ⟨p, 1, none⟩ = some (.slice (some ⟨gi, 0, none⟩) k k) ∧ W_.cell? ⟨gi, r, none⟩ = some v from fun W_ hk => ⟨(hs.below hk).c1, by rw [hv]; exact (hs.below hk).cr hrk⟩)
  clear hs hB hB0 hBw hrl hva hgaB hgal hga hrk h0 h1 hv
  go_enter Tryd.func30, Tryd.ntmps30
  try go_wp2
  refine start_ (n := 17) (S := fun w' => w'.cell? ⟨p, 1, none⟩ = some (.slice (some ⟨gi, 0, none⟩) k k) ∧ w'.cell? ⟨gi, r, none⟩ = some (v)) (ds := [16]) #[false, false, false, false, false, false, false, false, false, false, false, false, false, false, false, false, false] (by kernel_rfl) rfl rfl ⟨(HSB.out _ (below_drew1 (Below.refl _ _))).1, (HSB.out _ (below_drew1 (Below.refl _ _))).2⟩ (fun hHeld => ?_)
  refine pure_ (i := 0) (N := some 6) (v := ?_) (a' := ?_) #[true, false, false, false, false, false, false, false, false, false, false, false, false, false, false, false, false] rfl rfl (by kernel_rfl) (fun _ _ _ h => h) (Or.inl ⟨by rfl, ?_⟩) ?_ ?_
  rotate_left
  · intro w'
    go_simp
    with_reducible rfl
  rotate_left
  · simp only [Act.put, List.setIfInBounds_toArray, List.set_cons_zero, List.set_cons_succ, i64_w, i32_w]
    rfl
  refine pure_ (i := 1) (N := some 7) (v := ?_) (a' := ?_) #[true, true, false, false, false, false, false, false, false, false, false, false, false, false, false, false, false] rfl rfl (by kernel_rfl) (fun _ _ _ h => h) (Or.inl ⟨by rfl, ?_⟩) ?_ ?_
  rotate_left
  · intro w'
    go_simp
    with_reducible rfl
  rotate_left
  · simp only [Act.put, List.setIfInBounds_toArray, List.set_cons_zero, List.set_cons_succ, i64_w, i32_w]
    rfl
  refine pure_ (i := 2) (N := some 8) (v := ?_) (a' := ?_) #[true, true, true, false, false, false, false, false, false, false, false, false, false, false, false, false, false] rfl rfl (by kernel_rfl) (fun _ _ _ h => h) (Or.inl ⟨by rfl, ?_⟩) ?_ ?_
  rotate_left
  · intro w'
    go_simp
    with_reducible rfl
  rotate_left
  · simp only [Act.put, List.setIfInBounds_toArray, List.set_cons_zero, List.set_cons_succ, i64_w, i32_w]
    rfl
  refine pure_ (i := 4) (N := some 10) (v := ?_) (a' := ?_) #[true, true, true, false, true, false, false, false, false, false, false, false, false, false, false, false, false] rfl rfl (by kernel_rfl) (fun _ _ _ h => h) (Or.inl ⟨by rfl, ?_⟩) ?_ ?_
  rotate_left
  · intro w'
    go_simp
    with_reducible rfl
  rotate_left
  · simp only [Act.put, List.setIfInBounds_toArray, List.set_cons_zero, List.set_cons_succ, i64_w, i32_w]
    rfl
  refine pure_ (i := 5) (N := some 11) (v := ?_) (a' := ?_) #[true, true, true, false, true, true, false, false, false, false, false, false, false, false, false, false, false] rfl rfl (by kernel_rfl) (fun _ _ _ h => h) (Or.inl ⟨by rfl, ?_⟩) ?_ ?_
  rotate_left
  · intro w'
    go_simp
    with_reducible rfl
  rotate_left
  · simp only [Act.put, List.setIfInBounds_toArray, List.set_cons_zero, List.set_cons_succ, i64_w, i32_w]
    rfl
  refine pure_ (i := 6) (N := some 12) (v := ?_) (a' := ?_) #[true, true, true, false, true, true, true, false, false, false, false, false, false, false, false, false, false] rfl rfl (by kernel_rfl) (fun _ _ _ h => h) (Or.inl ⟨by rfl, ?_⟩) ?_ ?_
  rotate_left
  · intro w'
    go_simp
    with_reducible rfl
  rotate_left
  · simp only [Act.put, List.setIfInBounds_toArray, List.set_cons_zero, List.set_cons_succ, i64_w, i32_w]
    rfl
  refine pure_ (i := 7) (N := some 13) (v := ?_) (a' := ?_) #[true, true, true, false, true, true, true, true, false, false, false, false, false, false, false, false, false] rfl rfl (by kernel_rfl) (fun _ _ _ h => h) (Or.inl ⟨by rfl, ?_⟩) ?_ ?_
  rotate_left
  · intro w'
    go_simp
    with_reducible rfl
  rotate_left
  · simp only [Act.put, List.setIfInBounds_toArray, List.set_cons_zero, List.set_cons_succ, i64_w, i32_w]
    rfl
  refine pure_ (i := 9) (N := some 15) (v := ?_) (a' := ?_) #[true, true, true, false, true, true, true, true, false, true, false, false, false, false, false, false, false] rfl rfl (by kernel_rfl) (fun _ _ _ h => h) (Or.inl ⟨by rfl, ?_⟩) ?_ ?_
  rotate_left
  · intro w'
    go_simp
    with_reducible rfl
  rotate_left
  · simp only [Act.put, List.setIfInBounds_toArray, List.set_cons_zero, List.set_cons_succ, i64_w, i32_w]
    rfl
  refine pure_ (i := 12) (N := some 18) (v := ?_) (a' := ?_) #[true, true, true, false, true, true, true, true, false, true, false, false, true, false, false, false, false] rfl rfl (by kernel_rfl) (fun _ _ _ h => h) (Or.inl ⟨by rfl, ?_⟩) ?_ ?_
  rotate_left
  · intro w'
    go_simp
    with_reducible rfl
  rotate_left
  · simp only [Act.put, List.setIfInBounds_toArray, List.set_cons_zero, List.set_cons_succ, i64_w, i32_w]
    rfl
  refine take_ (i := 3) (N := some 9) (v := ?_) (a' := ?_) #[true, true, true, true, true, true, true, true, false, true, false, false, true, false, false, false, false] rfl rfl (by kernel_rfl) (fun _ _ _ h => h) (Or.inl ⟨by rfl, ?_⟩) hHeld ?_ ?_
  rotate_left
  · rintro w' ⟨s0, s1⟩
    go_simp
    with_reducible rfl
  rotate_left
  · simp only [Act.put, List.setIfInBounds_toArray, List.set_cons_zero, List.set_cons_succ, i64_w, i32_w]
    rfl
  refine take_ (i := 8) (N := some 14) (v := ?_) (a' := ?_) #[true, true, true, true, true, true, true, true, true, true, false, false, true, false, false, false, false] rfl rfl (by kernel_rfl) (fun _ _ _ h => h) (Or.inl ⟨by rfl, ?_⟩) hHeld ?_ ?_
  rotate_left
  · rintro w' ⟨s0, s1⟩
    go_simp
    with_reducible rfl
  rotate_left
  · simp only [Act.put, List.setIfInBounds_toArray, List.set_cons_zero, List.set_cons_succ, i64_w, i32_w]
    rfl
  refine pure_ (i := 10) (N := some 16) (v := ?_) (a' := ?_) #[true, true, true, true, true, true, true, true, true, true, true, false, true, false, false, false, false] rfl rfl (by kernel_rfl) (fun _ _ _ h => h) (Or.inl ⟨by rfl, ?_⟩) ?_ ?_
  rotate_left
  · intro w'
    go_simp
    with_reducible rfl
  rotate_left
  · simp only [Act.put, List.setIfInBounds_toArray, List.set_cons_zero, List.set_cons_succ, i64_w, i32_w]
    rfl
  refine take_ (i := 11) (N := some 17) (v := ?_) (a' := ?_) #[true, true, true, true, true, true, true, true, true, true, true, true, true, false, false, false, false] rfl rfl (by kernel_rfl) (fun _ _ _ h => h) (Or.inl ⟨by rfl, ?_⟩) hHeld ?_ ?_
  rotate_left
  · rintro w' ⟨s0, s1⟩
    go_simp
    with_reducible rfl
  rotate_left
  · simp only [Act.put, List.setIfInBounds_toArray, List.set_cons_zero, List.set_cons_succ, i64_w, i32_w]
    rfl
  refine one_ (i := 13) (N := some 19) #[true, true, true, true, true, true, true, true, true, true, true, true, true, true, false, false, false] rfl rfl (by kernel_rfl) (by decide) (fun K hK => ?_)
  refine value_ (w1 := ?_) (v := ?_) (by rfl) rfl ?_ ?_
  rotate_left 2
  · go_simp
    constructor
    · rfl
    · rfl
  refine hK.out _ _ ⟨(HSB.out _ (below_alloc (below_drew1 (Below.refl _ _)) _)).1, (HSB.out _ (below_alloc (below_drew1 (Below.refl _ _)) _)).2⟩ (fun hHeld => ?_)
  clear hK K
  refine norm_ (a' := ?_) ?_ ?_
  rotate_left
  · show Act.put _ (some 19) _ = _
    simp only [Act.put, List.setIfInBounds_toArray, List.set_cons_zero, List.set_cons_succ, i64_w, i32_w]
    rfl
  refine one_ (i := 14) (N := some 20) #[true, true, true, true, true, true, true, true, true, true, true, true, true, true, true, false, false] rfl rfl (by kernel_rfl) (by decide) (fun K hK => ?_)
  refine Kd.R_append_step (Kd.int .i64) (w0 := w.drew) B (by rfl) _ _ 25 3 (.int .i64 0) 8 (by rfl) Tryd.underlying25 infoI rfl (by decide) (by omega) v (rAt ins r) id [.int .i64 id] (fun _ => True) (fun _ => False) (by rfl) (by rfl) rfl (fun _ hk => hk.elim) (fun _ _ => trivial) (Kd.R_drew HRV.out) (Below.refl _ _) HBW.out (by have := HL.out; omega) ?_
  intro v1 w1 ho hb hg hat
  obtain ⟨A1, n1, c1, e1⟩ : ∃ A n c, v1 = .slice A n c := (by obtain ⟨A, c, h, _⟩ := Kd.R_reads ho; exact ⟨A, _, c, h⟩)
  subst e1
  have HV1 := Aside0.mk ho
  have HG1 := Aside0.mk hg
  have HN1 := Aside0.mk hat
  have HB1 := Aside0.mk (below_weaken (below_drew1 HB.out) HB0.out hb)
  have hy1 : w1.cell? ⟨gi, r, none⟩ = some v := by simpa [World.cell?, (HGR.out w1 hg).2] using (HSB.out w (Below.refl _ _)).2
  have hz1 : w1.frozen? ⟨gi, r, none⟩ = false := blk_frozen ((HGR.out w1 hg).2.trans HS.out.hin) r
  have hy0 : w1.cell? ⟨p, 1, none⟩ = some (.slice (some ⟨gi, 0, none⟩) k k) := by simpa [World.cell?, (HGR.out w1 hg).1] using (HSB.out w (Below.refl _ _)).1
  clear ho hb hg hat
  refine hK.out _ _ ⟨hy0, hy1⟩ (fun hHeld => ?_)
  clear hK K
  refine norm_ (a' := ?_) ?_ ?_
  rotate_left
  · show Act.put _ (some 20) _ = _
    simp only [Act.put, List.setIfInBounds_toArray, List.set_cons_zero, List.set_cons_succ, i64_w, i32_w]
    rfl
  refine pure_ (i := 15) (N := some 21) (v := ?_) (a' := ?_) #[true, true, true, true, true, true, true, true, true, true, true, true, true, true, true, true, false] rfl rfl (by kernel_rfl) (fun _ _ _ h => h) (Or.inl ⟨by rfl, ?_⟩) ?_ ?_
  rotate_left
  · intro w'
    go_simp
    with_reducible rfl
  rotate_left
  · simp only [Act.put, List.setIfInBounds_toArray, List.set_cons_zero, List.set_cons_succ, i64_w, i32_w]
    rfl
  refine last_ (i := 16) (N := none) #[true, true, true, true, true, true, true, true, true, true, true, true, true, true, true, true, true] rfl rfl (by kernel_rfl) (by decide) (fun K hK => ?_)
  refine skip_ (w1 := ?_) (by rfl) rfl ?_ ?_
  rotate_left
  · go_simp
    rfl
  refine hK.out _ _ ?_
  clear hK K
  refine done_ (by kernel_rfl) ?_

  have HNO := Aside0.mk (show NewOr w (vAt vs r) (.slice A1 n1 c1) from fun b hb => HN1.out.elim (fun h => .inl (by rw [← HV.out, ← h]; exact hb)) (fun ⟨b', h, hb'⟩ => .inr (by rw [h] at hb; injection hb with hb; rw [← hb]; exact hb')))
  have HKR := Aside0.mk (show Kept w w1 (fun b => (vAt vs r).ownBlock = some b) from Kept.of_grown HG1.out (Kept.drew (Kept.refl w _)) (fun b hb => .inl (by rw [← HV.out]; exact hb)))
  have HS2 := Aside0.mk (SC.setRow HS.out HRK.out HV1.out HKR.out HNO.out)
  have HK2 := Aside0.mk (Kept_setRow HS.out HRK.out HKR.out (.slice A1 n1 c1))
  have HB2 := Aside0.mk (below_set (j := r) (v := .slice A1 n1 c1) HB1.out (Nat.le_trans HB0.out HS.out.hB))
  clear hHeld hy0 hy1 hz1 HB1 HGR
  generalize w1.setCell ⟨gi, r, none⟩ (.slice A1 n1 c1) = w2 at HS2 HK2 HB2 ⊢
  have hy2 := HS2.out.c2
  rw [HVA.out] at hy2
  obtain ⟨_, hz2⟩ := Kd.R_celln 0 (show RI w2 B (.slice (some ⟨ga, 0, none⟩) at_.length ca) at_ by rw [← HVA.out]; exact HS2.out.hat) id HID.out.1 HID.out.2
  obtain ⟨hy3, _⟩ := Kd.R_celln 0 (show RI w2 B (.slice (some ⟨ga, 0, none⟩) at_.length ca) at_ by rw [← HVA.out]; exact HS2.out.hat) id HID.out.1 HID.out.2
  go_wp2
  go_end0
  refine ⟨rfl, _, SC.setAt HS2.out id.toNat (r : Int) HVA.out, below_set HB2.out HGA.out, HK2.out.setCell (p := ⟨ga, id.toNat, none⟩) (.inl (SK_ga HVA.out)) _, fun b hb => SK_setRow HS.out HRK.out HNO.out hb⟩
end Go.Proofs.YtolhijnkgkfjgaaDoor.XC
namespace Go.Proofs.YtolhijnkgkfjgaaDoor.XC
open Go.RowKit Go.Proofs.YtolhijnkgkfjgaaDoorW.PrintWords Go.Proofs.YtolhijnkgkfjgaaDoorW.PrintLast Go.Proofs.YtolhijnkgkfjgaaDoorW.PrintMore
attribute [local go_sem] max2_int min2_int max_two min_two max_three min_three max_four min_four   -- for this text's walks alone
set_option linter.unusedVariables false
set_option linter.unusedSimpArgs false
/-- The first register where one meets none. -/
def freeFrom (mt : Int → Int → Bool) (ins : List (List Int)) (id : Int) : Nat → Nat → Option Nat
  | 0, _ => none
  | m + 1, r => if (meetsF mt ins r id).length = 0 then some r else freeFrom mt ins id m (r + 1)
def freeR (mt : Int → Int → Bool) (k : Nat) (ins : List (List Int)) (id : Int) : Option Nat := freeFrom mt ins id k 0
def putI (ins : List (List Int)) (r : Nat) (id : Int) : List (List Int) := ins.set r (rAt ins r ++ [id])
def freeI (mt : Int → Int → Bool) (k : Nat) (ins : List (List Int)) (id : Int) : List (List Int) := match freeR mt k ins id with | none => ins | some r => putI ins r id
def freeA (mt : Int → Int → Bool) (k : Nat) (ins : List (List Int)) (at_ : List Int) (id : Int) : List Int := match freeR mt k ins id with | none => at_ | some r => at_.set id.toNat (r : Int)
theorem freeFrom_lt {mt : Int → Int → Bool} {ins : List (List Int)} {id : Int} : ∀ {m r r' : Nat}, freeFrom mt ins id m r = some r' → r' < r + m
  | 0, _, _, h => by cases h
  | m + 1, r, r', h => by
    rw [freeFrom] at h
    split at h
    · injection h with h; omega
    · have := freeFrom_lt h; omega
theorem meetsF_len (mt : Int → Int → Bool) (ins : List (List Int)) (r : Nat) (id : Int) : (meetsF mt ins r id).length ≤ (rAt ins r).length := List.length_filter_le _ _
theorem SC.left_same {w0 w w' : World} {B p gi k n c : Nat} {va : Value} {A : Option Addr} {vs : List Value} {ins : List (List Int)} {at_ : List Int} (hs : SC w B p gi k va A n c vs ins at_) (hB : Below w0.heap.size w0 w) (hb : Below w.heap.size w w') : Left w0 w w' B p gi k va A n c vs ins at_ :=
  ⟨vs, hs.below hb, below_step hB hb, Kept.of_below hb _, fun b h => .inl h⟩
theorem Left.after {w0 w w1 w' : World} {B p gi k n c : Nat} {va : Value} {A : Option Addr} {vs : List Value} {ins : List (List Int)} {at_ : List Int} (hb : Below w.heap.size w w1) (h : Left w0 w1 w' B p gi k va A n c vs ins at_) : Left w0 w w' B p gi k va A n c vs ins at_ := by
  obtain ⟨vs', h1, h2, h3, h4⟩ := h
  exact ⟨vs', h1, h2, (Kept.of_below hb (SK gi k va vs)).then_ h3 (fun b hb => .inl hb), fun b hb2 => (h4 b hb2).elim .inl (fun h => .inr (Nat.le_trans hb.size h))⟩
set_option maxHeartbeats 8000000 in
set_option maxRecDepth 100000 in
theorem s_free (w0 w : World) (hB : Below w0.heap.size w0 w) (A : Option Addr) (c : Nat) (l : List Sp) (hr : Kd.C k44 w0 A l.length l) (hl : l.length < 100000) (B p gi k : Nat) (va : Value) (vs : List Value) (ins : List (List Int)) (at_ : List Int) (hs : SC w B p gi k va A l.length c vs ins at_) (mt : Int → Int → Bool) (hm : MeetIs l mt) (hB0 : w0.heap.size ≤ B) (hBw : B ≤ w.heap.size) (hk : k < 100000) (id : Int) (h0 : 0 ≤ id) (h1 : id < (l.length : Int)) (hal : at_.length = l.length) (hg : Good l ins) (hrl : ∀ r, (rAt ins r).length < 100000) :
    Calls Tryd.prog 17 #[.pointer (some ⟨p, 0, none⟩), .int .i64 id] w fun e w' => e = .returned (.bool (freeR mt k ins id).isSome) ∧ Left w0 w w' B p gi k va A l.length c vs (freeI mt k ins id) (freeA mt k ins at_ id) := by
  unfold freeI freeA
  obtain ⟨F, hF⟩ : ∃ F, F = freeR mt k ins id := ⟨_, rfl⟩
  rw [← hF]
  have HF := Aside0.mk (show F = freeFrom mt ins id k 0 from hF)
  have hx1 := hs.c1
  have HS := Aside0.mk hs
  have HB := Aside0.mk hB
  have HR := Aside0.mk hr
  have HM := Aside0.mk hm
  have HB0 := Aside0.mk hB0
  have HBW := Aside0.mk hBw
  have HKB := Aside0.mk hk
  have HID := Aside0.mk (And.intro h0 h1)
  have HAL := Aside0.mk hal
  have HG := Aside0.mk hg
  have HRL := Aside0.mk hrl
  have HL := Aside0.mk hl
  clear hF hs hB hr hm hB0 hBw hk h0 h1 hal hg hrl hl
  go_enter Tryd.func17, Tryd.ntmps17
  go_wp2
  go_loopg [11] k (fun kq v11 w' => ∃ (i : Nat), v11 = .int .i64 (i : Int) ∧ Aside0 (kq + i = k) ∧ Aside0 (F = freeFrom mt ins id kq i) ∧ Aside0 (Below w.heap.size w w'))
  case atStart => exact ⟨0, rfl, ⟨rfl⟩, HF, ⟨Below.refl _ _⟩⟩
  case round =>
    clear HF
    obtain ⟨i, rfl, HK, HF, HW⟩ := hrel
    by_cases hi : i < k
    · obtain ⟨k1, rfl⟩ : ∃ k1, gk = k1 + 1 := ⟨gk - 1, by have := HK.out; omega⟩
      have hc : decide ((i : Int) < (k : Int)) = true := decide_eq_true (by omega)
      have hi2 : (i < k) = True := eq_true hi
      have hw := wrap_succ i k hi (by have := HKB.out; omega)
      have HI := Aside0.mk hi
      have hF := HF.out
      rw [freeFrom] at hF
      clear hi HF
      obtain ⟨q, hq⟩ : ∃ q, q = meetsF mt ins i id := ⟨_, rfl⟩
      rw [← hq] at hF
      have HQ := Aside0.mk hq
      clear hq
      by_cases h0 : q.length = 0
      · rw [if_pos h0] at hF
        subst hF
        have hq0 : (((q.length : Nat) : Int) == 0) = true := beq_iff_eq.mpr (by omega)
        have hq1 : q.length = 0 := h0
        clear h0
        go_wp2_with (first
          | (go_at_call 29; refine (s_meets w0 _ (below_step HB.out HW.out) A c l HR.out HL.out B p gi k va vs ins at_ (HS.out.below HW.out) mt HM.out i HI.out id HID.out.1 HID.out.2 HG.out (HRL.out i)).mono ?_; rintro e w7 ⟨v7, rfl, hR7, hb7⟩; rw [← HQ.out] at hR7; obtain ⟨A2, c2, e2, hle2, hC2⟩ := Kd.R_reads hR7; subst e2; have HB7 := Aside0.mk hb7; clear hR7 hb7 hle2 hC2)
          | (go_at_call 30; refine (s_put w0 _ (below_step (below_step HB.out HW.out) HB7.out) A l.length c B p gi k va vs ins at_ ((HS.out.below HW.out).below HB7.out) HB0.out (Nat.le_trans (Nat.le_trans HBW.out HW.out.size) HB7.out.size) i HI.out id HID.out.1 (by rw [HAL.out]; exact HID.out.2) (HRL.out i)).mono ?_; rintro e w8 ⟨rfl, h8⟩; have HL8 := Aside0.mk h8; clear h8))
        go_ret
        exact ⟨rfl, Left.after (below_step HW.out HB7.out) HL8.out⟩
      · rw [if_neg h0] at hF
        have hq0 : (((q.length : Nat) : Int) == 0) = false := beq_eq_false_iff_ne.mpr (by omega)
        have hq1 : (q.length = 0) = False := eq_false h0
        have HF := Aside0.mk hF
        clear h0 hF
        go_wp2_with (go_at_call 29; refine (s_meets w0 _ (below_step HB.out HW.out) A c l HR.out HL.out B p gi k va vs ins at_ (HS.out.below HW.out) mt HM.out i HI.out id HID.out.1 HID.out.2 HG.out (HRL.out i)).mono ?_; rintro e w7 ⟨v7, rfl, hR7, hb7⟩; rw [← HQ.out] at hR7; obtain ⟨A2, c2, e2, hle2, hC2⟩ := Kd.R_reads hR7; subst e2; have HB7 := Aside0.mk hb7; clear hR7 hb7 hle2 hC2)
        go_roundg k1
        case measure => omega
        case rel => exact ⟨i + 1, (by first | rw [hw] | rfl | (push_cast; rfl)), ⟨by have := HK.out; omega⟩, HF, ⟨below_step HW.out HB7.out⟩⟩
    · have hc : decide ((i : Int) < (k : Int)) = false := decide_eq_false (by omega)
      have hi2 : (i < k) = False := eq_false hi
      have hF := HF.out
      rw [show gk = 0 by have := HK.out; omega, freeFrom] at hF
      subst hF
      go_wp2
      go_ret
      exact ⟨rfl, HS.out.left_same HB.out HW.out⟩
end Go.Proofs.YtolhijnkgkfjgaaDoor.XC
