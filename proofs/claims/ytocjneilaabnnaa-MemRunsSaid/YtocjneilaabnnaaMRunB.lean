/- Layer 3: the law MemRuns, walked. -/
import Derived.Test.YtocjneilaabnnaaMRunA
namespace Go.Proofs.Ytocjneilaabnnaa.M
open Go Go.RowKit Go.Proofs.Ytocjneilaabnnaa.XR Go.Proofs.YtocjneilaabnnaaW.PrintWords
set_option linter.unusedVariables false
set_option linter.unusedSimpArgs false
theorem IsMem.kept {w w' : World} {p b len cap : Nat} {most : Int} {g : Nat → Int} {S : Nat → Prop} (h : IsMem w p b len cap most g) (hk : Kept w w' S) (hp : ¬ S p) (hb : ¬ S b) : IsMem w' p b len cap most g :=
  ⟨h.obj.of_block (hk.2 p h.obj.lt hp), h.row.of_block (hk.2 b h.row.lt hb), h.le, h.small, h.top, h.ne⟩
/-- What stands at every round's head: the program's memory and the document's, side by side. -/
structure St (w0 wr : World) (p bx k b cap n : Nat) (g : Nat → Int) (A : Option Addr) (c : Nat) : Prop where
  nk : n ≤ k
  k16 : k ≤ 16
  mem : IsMem wr p b (4096 * n) cap k g
  bts : Bts g (4096 * n)
  box : wr.heap[bx]? = some (.cells #[.int .i64 n, .int .i64 k, .slice A (nzF g 0 (4096 * n)).length c] 43 (0, 0))
  lst : Kd.V k53 53 wr wr.heap.size (fun q => q ≠ b ∧ q ≠ p ∧ q ≠ bx) (.slice A (nzF g 0 (4096 * n)).length c) (nzF g 0 (4096 * n))
  bel : Below w0.heap.size w0 wr
  gb : w0.heap.size ≤ b
  gp : w0.heap.size ≤ p
  gx : w0.heap.size ≤ bx
  xb : bx ≠ b
  xp : bx ≠ p
theorem St.below {w0 wr w' : World} {p bx k b cap n : Nat} {g : Nat → Int} {A : Option Addr} {c : Nat} (h : St w0 wr p bx k b cap n g A c) (hb : Below wr.heap.size wr w') : St w0 w' p bx k b cap n g A c :=
  ⟨h.nk, h.k16, h.mem.below hb h.mem.obj.lt h.mem.row.lt, h.bts, blk_below h.box hb, Kd.V_below h.lst hb, below_step h.bel hb, h.gb, h.gp, h.gx, h.xb, h.xp⟩
theorem nzF_zero : ∀ (n s : Nat), nzF (fun _ => 0) s n = []
  | 0, _ => rfl
  | n + 1, s => by rw [nzF, if_pos rfl]; exact nzF_zero n (s + 1)
theorem kind7 (x : Int) : (wrap64 ((IntKind.u64.wrap x).tmod 7) = 0 ∨ wrap64 ((IntKind.u64.wrap x).tmod 7) = 1) ∨ (wrap64 ((IntKind.u64.wrap x).tmod 7) = 2 ∨ wrap64 ((IntKind.u64.wrap x).tmod 7) = 3 ∨ wrap64 ((IntKind.u64.wrap x).tmod 7) = 4) ∨ (wrap64 ((IntKind.u64.wrap x).tmod 7) = 5 ∨ wrap64 ((IntKind.u64.wrap x).tmod 7) = 6) := by
  have hu : IntKind.u64.wrap x = x % 18446744073709551616 := by simp [IntKind.wrap, IntKind.bits, IntKind.signed]
  have h0 : 0 ≤ IntKind.u64.wrap x := by rw [hu]; omega
  rw [Int.tmod_eq_emod_of_nonneg h0]
  unfold wrap64
  omega
theorem rd45_mem (l : List S45) (i : Nat) (h : i < l.length) : rd45 l i ∈ l := by
  unfold rd45
  rw [List.getD_eq_getElem?_getD, List.getElem?_eq_getElem h]
  exact List.getElem_mem h
theorem St.start {w w1 : World} {k n : Nat} (hnk : n ≤ k) (hk : k ≤ 16) (hb : Below w.heap.size w w1) (hm : IsMem w1 (w.heap.size + 1) w.heap.size (4096 * n) (4096 * n) k fun _ => 0) :
    St w (w1.alloc (.cells #[.int .i64 n, .int .i64 k, .slice none 0 0] 43)) (w.heap.size + 1) w1.heap.size k w.heap.size (4096 * n) n (fun _ => 0) none 0 := by
  have hp := hm.obj.lt
  have hbl := below_alloc (Below.refl w1.heap.size w1) (.cells #[.int .i64 n, .int .i64 k, .slice none 0 0] 43)
  have e := nzF_zero (4096 * n) 0
  exact ⟨hnk, hk, hm.below hbl hp (by omega), fun j _ => by simp, by rw [e]; exact blk_new _ _, by rw [e]; exact Kd.V_nil _ _ _ _ _, below_alloc hb _, by omega, by omega, by omega, by omega, by omega⟩
theorem box0 {w2 : World} {bx : Nat} {a b c : Value} (h : w2.heap[bx]? = some (.cells #[a, b, c] 43 (0, 0))) : w2.cell? ⟨bx, 0, none⟩ = some a := (blk_cell h 0).trans rfl
theorem put3 {w2 : World} {bx : Nat} {a b c : Value} (h : w2.heap[bx]? = some (.cells #[a, b, c] 43 (0, 0))) (v0 v1 v2 : Value) (o : Obj) :
    ((((w2.setCell ⟨bx, 0, none⟩ v0).setCell ⟨bx, 1, none⟩ v1).setCell ⟨bx, 2, none⟩ v2).alloc o).heap[bx]? = some (.cells #[v0, v1, v2] 43 (0, 0)) ∧ Kept w2 ((((w2.setCell ⟨bx, 0, none⟩ v0).setCell ⟨bx, 1, none⟩ v1).setCell ⟨bx, 2, none⟩ v2).alloc o) (fun q => q = bx) :=
  ⟨blk_alloc (blk_put (blk_put (blk_put h 0 v0 rfl) 1 v1 rfl) 2 v2 rfl) _, ((((Kept.refl _ (fun q => q = bx)).setCell (p := ⟨bx, 0, none⟩) (.inl rfl) _).setCell (p := ⟨bx, 1, none⟩) (.inl rfl) _).setCell (p := ⟨bx, 2, none⟩) (.inl rfl) _).alloc _⟩
theorem put3_below {w0 w2 : World} {bx : Nat} (h : Below w0.heap.size w0 w2) (hx : w0.heap.size ≤ bx) (v0 v1 v2 : Value) (o : Obj) :
    Below w0.heap.size w0 ((((w2.setCell ⟨bx, 0, none⟩ v0).setCell ⟨bx, 1, none⟩ v1).setCell ⟨bx, 2, none⟩ v2).alloc o) := below_alloc (below_set (below_set (below_set h hx) hx) hx) _
theorem Kept.bel {w0 w w' : World} {b : Nat} (h : Kept w w' (fun q => q = b)) (hb : Below w0.heap.size w0 w) (h0 : w0.heap.size ≤ b) (hw : Below w0.heap.size w w') : Below w0.heap.size w0 w' := hb.trans hw
theorem St.grown {w0 wr W4 w5 : World} {p bx k b cap n : Nat} {g : Nat → Int} {A : Option Addr} {c : Nat} (h : St w0 wr p bx k b cap n g A c) (K4 : Kept wr W4 (fun q => q = bx)) (B4 : Below w0.heap.size w0 W4) (f : Nat)
    (X4 : W4.heap[bx]? = some (.cells #[.int .i64 ((n : Int) + (f : Int)), .int .i64 k, .slice A (nzF g 0 (4096 * n)).length c] 43 (0, 0))) (hf : n + f ≤ k) (b' cap' : Nat) (g' : Nat → Int)
    (B5 : Below w0.heap.size W4 w5) (hb' : b' = b ∨ W4.heap.size ≤ b') (M5 : IsMem w5 p b' (4096 * (n + f)) cap' k g') (G1 : ∀ j, j < 4096 * n → g' j = g j) (G2 : ∀ j, 4096 * n ≤ j → j < 4096 * (n + f) → g' j = 0) (K5 : Kept W4 w5 (fun q => q = b ∨ q = p)) :
    St w0 w5 p bx k b' cap' (n + f) g' A c := by
  have e : nzF g' 0 (4096 * (n + f)) = nzF g 0 (4096 * n) := by
    rw [Nat.mul_add, nzF_app g' (4096 * n) 0 (4096 * f) (fun j h1 h2 => G2 j (by omega) (by omega))]
    exact nzF_congr _ _ (fun j _ hj => G1 j (by omega))
  have hb4 := K4.1
  have hbx := blk_lt h.box
  have hbl := h.mem.row.lt
  have hpl := h.mem.obj.lt
  have hgb := h.gb
  have hgp := h.gp
  have hgx := h.gx
  have hxb := h.xb
  have hxp := h.xp
  have hB0 := B4.size
  refine ⟨hf, h.k16, M5, ?_, ?_, ?_, B4.trans B5, ?_, h.gp, h.gx, ?_, h.xp⟩
  · intro j hj
    by_cases hj2 : j < 4096 * n
    · rw [G1 j hj2]; exact h.bts j hj2
    · rw [G2 j (by omega) hj]; omega
  · rw [e, Int.natCast_add]
    exact blk_kept X4 K5 (fun h2 => by omega)
  · rw [e]
    have h1 := Kd.V_bound (Kd.V_kept h.lst K4 (fun q hq => hq.2.2))
    have hl : Kd.V k53 53 W4 W4.heap.size (fun q => (q ≠ b ∧ q ≠ p ∧ q ≠ bx) ∧ q < W4.heap.size) (.slice A (nzF g 0 (4096 * n)).length c) (nzF g 0 (4096 * n)) := Kd.V_mono h1 (fun q hq => ⟨hq.1, by first | exact hq.2 | omega⟩)
    refine Kd.V_mono (Kd.V_kept hl K5 (fun q hq h2 => h2.elim hq.1.1 hq.1.2.1)) (fun q hq => ⟨?_, hq.1.2.1, hq.1.2.2⟩)
    rcases hb' with rfl | hb'
    · exact hq.1.1
    · omega
  · rcases hb' with rfl | hb' <;> omega
  · rcases hb' with rfl | hb' <;> omega
theorem pagesQ {p b cap n k : Nat} {g : Nat → Int} {w : World} (h : IsMem w p b (4096 * n) cap k g) (q : Nat) :
    Calls Try.prog 15 #[.pointer (some ⟨p, 0, none⟩)] (w.drewN q) fun e w' => e = .returned (.int .i64 n) ∧ w' = w.drewN q :=
  pages p b (4096 * n) cap n k g (w.drewN q) (h.below (pw_below_drewN (Below.refl w.heap.size w) q) h.obj.lt h.row.lt) rfl
theorem St.same {w0 wr W4 : World} {p bx k b cap n : Nat} {g : Nat → Int} {A : Option Addr} {c : Nat} (h : St w0 wr p bx k b cap n g A c) (K4 : Kept wr W4 (fun q => q = bx)) (B4 : Below w0.heap.size w0 W4)
    (X4 : W4.heap[bx]? = some (.cells #[.int .i64 n, .int .i64 k, .slice A (nzF g 0 (4096 * n)).length c] 43 (0, 0))) : St w0 W4 p bx k b cap n g A c :=
  ⟨h.nk, h.k16, h.mem.kept K4 (fun e => h.xp e.symm) (fun e => h.xb e.symm), h.bts, X4, Kd.V_kept h.lst K4 (fun q hq => hq.2.2), B4, h.gb, h.gp, h.gx, h.xb, h.xp⟩
theorem St.stored {w0 wr W1 w2 W4 w5 : World} {p bx k b cap n : Nat} {g g' : Nat → Int} {A A' : Option Addr} {c c' : Nat} (h : St w0 wr p bx k b cap n g A c) (h1 : wr.heap.size ≤ W1.heap.size) (K24 : Kept w2 W4 (fun q => q = bx)) (B4 : Below w0.heap.size w0 W4)
    (V2 : Kd.V k53 53 w2 W1.heap.size (fun q => (q ≠ b ∧ q ≠ p ∧ q ≠ bx) ∨ W1.heap.size ≤ q) (.slice A' (nzF g' 0 (4096 * n)).length c') (nzF g' 0 (4096 * n)))
    (X4 : W4.heap[bx]? = some (.cells #[.int .i64 n, .int .i64 k, .slice A' (nzF g' 0 (4096 * n)).length c'] 43 (0, 0)))
    (B5 : Below w0.heap.size W4 w5) (M5 : IsMem w5 p b (4096 * n) cap k g') (hb5 : Bts g' (4096 * n)) (K5 : Kept W4 w5 (fun q => q = b)) : St w0 w5 p bx k b cap n g' A' c' := by
  have hbx := blk_lt h.box
  have hbl := h.mem.row.lt
  have hpl := h.mem.obj.lt
  have V2' : Kd.V k53 53 w2 W1.heap.size (fun q => q ≠ b ∧ q ≠ p ∧ q ≠ bx) (.slice A' (nzF g' 0 (4096 * n)).length c') (nzF g' 0 (4096 * n)) := Kd.V_mono V2 (fun q hq => by
    rcases hq with hq | hq
    · exact hq
    · exact ⟨by omega, by omega, by omega⟩)
  exact ⟨h.nk, h.k16, M5, hb5, blk_kept X4 K5 (fun e => h.xb e), Kd.V_kept (Kd.V_kept V2' K24 (fun q hq => hq.2.2)) K5 (fun q hq => hq.1), B4.trans B5, h.gb, h.gp, h.gx, h.xb, h.xp⟩
theorem refstore_yes (n x off k : Nat) (size v : Int) (g : Nat → Int) (A : Option Addr) (c : Nat) (P0 : Nat → Prop) (w : World) (hn : n ≤ 16) (hx : x < 18446744073709551616) (ho : off < 18446744073709551616) (hv : 0 ≤ v ∧ v < 18446744073709551616) (hh : hasP n x off size)
    (hV : Kd.V k53 53 w w.heap.size P0 (.slice A (nzF g 0 (4096 * n)).length c) (nzF g 0 (4096 * n))) :
    Calls Try.prog 13 #[.agg #[.int .i64 n, .int .i64 k, .slice A (nzF g 0 (4096 * n)).length c], .int .u64 x, .int .u64 off, .int .i64 size, .int .u64 v] w fun e w' => ∃ A' c', e = .returned (.tuple #[.agg #[.int .i64 n, .int .i64 k, .slice A' (nzF (storeG g (x + off) size.toNat v) 0 (4096 * n)).length c'], .bool true]) ∧
      Kd.V k53 53 w' w.heap.size (fun q => P0 q ∨ w.heap.size ≤ q) (.slice A' (nzF (storeG g (x + off) size.toNat v) 0 (4096 * n)).length c') (nzF (storeG g (x + off) size.toNat v) 0 (4096 * n)) ∧ Below w.heap.size w w' := by
  have h := ref_store g n x off size k v hn hx ho hv 131200 (Nat.le_refl _)
  rw [if_pos hh] at h
  refine (mandrelref03_Store.calls 131200 n k P0 A c _ x off size v _ _ _ _ w hV h).mono ?_
  rintro e w' ⟨v2, rfl, h2, h3⟩
  obtain ⟨A', c', rfl⟩ := Kd.V_slice h2
  exact ⟨A', c', rfl, h2, h3⟩
theorem refstore_no (n x off k : Nat) (size v : Int) (g : Nat → Int) (A : Option Addr) (c : Nat) (P0 : Nat → Prop) (w : World) (hn : n ≤ 16) (hx : x < 18446744073709551616) (ho : off < 18446744073709551616) (hv : 0 ≤ v ∧ v < 18446744073709551616) (hh : ¬ hasP n x off size)
    (hV : Kd.V k53 53 w w.heap.size P0 (.slice A (nzF g 0 (4096 * n)).length c) (nzF g 0 (4096 * n))) :
    Calls Try.prog 13 #[.agg #[.int .i64 n, .int .i64 k, .slice A (nzF g 0 (4096 * n)).length c], .int .u64 x, .int .u64 off, .int .i64 size, .int .u64 v] w fun e w' => ∃ A' c', e = .returned (.tuple #[.agg #[.int .i64 n, .int .i64 k, .slice A' (nzF g 0 (4096 * n)).length c'], .bool false]) ∧
      Kd.V k53 53 w' w.heap.size (fun q => P0 q ∨ w.heap.size ≤ q) (.slice A' (nzF g 0 (4096 * n)).length c') (nzF g 0 (4096 * n)) ∧ Below w.heap.size w w' := by
  have h := ref_store g n x off size k v hn hx ho hv 131200 (Nat.le_refl _)
  rw [if_neg hh] at h
  refine (mandrelref03_Store.calls 131200 n k P0 A c _ x off size v _ _ _ _ w hV h).mono ?_
  rintro e w' ⟨v2, rfl, h2, h3⟩
  obtain ⟨A', c', rfl⟩ := Kd.V_slice h2
  exact ⟨A', c', rfl, h2, h3⟩
theorem refload (n x off k : Nat) (size : Int) (g : Nat → Int) (A : Option Addr) (c : Nat) (P0 : Nat → Prop) (w : World) (hn : n ≤ 16) (hx : x < 18446744073709551616) (ho : off < 18446744073709551616) (hg : Bts g (4096 * n))
    (hV : Kd.V k53 53 w w.heap.size P0 (.slice A (nzF g 0 (4096 * n)).length c) (nzF g 0 (4096 * n))) (v : Int) (is : Bool) (hv : (if hasP n x off size then (num (fun j => g (x + off + j)) size.toNat, true) else (0, false)) = (v, is)) :
    Calls Try.prog 14 #[.agg #[.int .i64 n, .int .i64 k, .slice A (nzF g 0 (4096 * n)).length c], .int .u64 x, .int .u64 off, .int .i64 size] w fun e w' => e = .returned (.tuple #[.int .u64 v, .bool is]) ∧ Below w.heap.size w w' := by
  have h := ref_load g n x off size k hn hx ho hg 65600 (Nat.le_refl _)
  rw [hv] at h
  have h2 := Kd.V_reads' hV
  exact mandrelref03_Load.calls 65600 n k A c _ x off size v is w h2.2.2 h2.2.1 h
theorem progload (p b cap n x off k : Nat) (size : Int) (g : Nat → Int) (w : World) (h : IsMem w p b (4096 * n) cap k g) (hx : x < 18446744073709551616) (ho : off < 18446744073709551616) (hg : Bts g (4096 * n))
    (v : Int) (is : Bool) (hv : (if hasP n x off size then (num (fun j => g (x + off + j)) size.toNat, true) else (0, false)) = (v, is)) :
    Calls Try.prog 9 #[.pointer (some ⟨p, 0, none⟩), .int .u64 x, .int .u64 off, .int .i64 size] w fun e w' => e = .returned (.tuple #[.int .u64 v, .bool is]) ∧ Below w.heap.size w w' := by
  by_cases hh : hasP n x off size
  · rw [if_pos hh] at hv
    obtain ⟨rfl, rfl⟩ := Prod.mk.inj hv
    obtain ⟨h1, h2⟩ := hh
    obtain ⟨sz, rfl⟩ : ∃ sz : Nat, size = (sz : Int) := ⟨size.toNat, by omega⟩
    rw [Int.toNat_natCast]
    exact load_yes p b (4096 * n) cap x off sz k g w h hg (by omega) (by omega)
  · rw [if_neg hh] at hv
    obtain ⟨rfl, rfl⟩ := Prod.mk.inj hv
    exact load_no p b (4096 * n) cap x off size k g w h hx ho hh
theorem nzF_mem (g : Nat → Int) : ∀ (n s : Nat), ∀ c ∈ nzF g s n, ∃ j : Nat, s ≤ j ∧ j < s + n ∧ c = ⟨(j : Int), g j⟩
  | 0, _, c, h => by simp [nzF] at h
  | n + 1, s, c, h => by
    rw [nzF] at h
    split at h
    · obtain ⟨j, h1, h2, h3⟩ := nzF_mem g n (s + 1) c h
      exact ⟨j, by omega, by omega, h3⟩
    · rcases List.mem_cons.1 h with rfl | h
      · exact ⟨s, Nat.le_refl _, by omega, rfl⟩
      · obtain ⟨j, h1, h2, h3⟩ := nzF_mem g n (s + 1) c h
        exact ⟨j, by omega, by omega, h3⟩
theorem byte1 (p b len cap x : Nat) (most : Int) (g : Nat → Int) (w : World) (h : IsMem w p b len cap most g) (hin : x + 1 ≤ len) (hlen : len ≤ 16777216) (hcap : x < cap) :
    Calls Try.prog 11 #[.pointer (some ⟨p, 0, none⟩), .int .i64 (x : Int), .int .i64 1] w fun e w' => ∃ b' cap', e = .returned (.tuple #[.slice (some ⟨b', 0, none⟩) 1 cap', .nilIface]) ∧ Below w.heap.size w w' ∧ w'.cell? ⟨b', 0, none⟩ = some (.int .u8 (g x)) :=
  (bytes_yes p b len cap x 1 most g w h hin hlen hcap).mono fun e w' ⟨b', cap', h1, h2, _, h3⟩ => ⟨b', cap', h1, h2, h3 0 (by omega)⟩
theorem refsum (n k : Nat) (g : Nat → Int) (A : Option Addr) (c : Nat) (P0 : Nat → Prop) (w : World) (hn : n ≤ 16) (hg : Bts g (4096 * n)) (hV : Kd.V k53 53 w w.heap.size P0 (.slice A (nzF g 0 (4096 * n)).length c) (nzF g 0 (4096 * n))) :
    Calls Try.prog 17 #[.agg #[.int .i64 n, .int .i64 k, .slice A (nzF g 0 (4096 * n)).length c]] w fun e w' => e = .returned (.int .u64 (sumF g 0 (4096 * n) 14695981039346656037)) ∧ Below w.heap.size w w' := by
  have h2 := Kd.V_reads' hV
  exact mandrelref03_Sum.calls 65600 n k A c _ _ w h2.2.2 h2.2.1 (ref_sum g n n k hn hg 65600 (Nat.le_refl _))
set_option maxHeartbeats 4000000 in
set_option maxRecDepth 100000 in
theorem msum2 (p b len cap : Nat) (most : Int) (g : Nat → Int) (w : World) (h : IsMem w p b len cap most g) (hg : ∀ j, j < len → 0 ≤ g j ∧ g j < 256) :
    Calls Try.prog 16 #[.pointer (some ⟨p, 0, none⟩)] w fun e w' => e = .returned (.int .u64 (sumF g 0 len 14695981039346656037)) ∧ w' = w := by
  have hc := h.c0
  have hsm := h.small
  have H := Aside0.mk (And.intro h hg)
  clear h hg
  go_enter Try.func16, Try.ntmps16
  go_wp2
  go_loopg [3, 13] len (fun kq v3 v13 w' => ∃ (i : Nat) (h : Int), v3 = .int .u64 h ∧ v13 = .int .i64 i ∧ Aside0 (i + kq = len) ∧ Aside0 (sumF g i kq h = sumF g 0 len 14695981039346656037) ∧ w = w')
  case atStart => exact ⟨0, _, rfl, rfl, ⟨by omega⟩, ⟨rfl⟩, rfl⟩
  case round =>
    obtain ⟨i, h, rfl, rfl, HK, HS, rfl⟩ := hrel
    cases gk with
    | zero =>
      obtain rfl : i = len := by have := HK.out; omega
      go_wp2
      go_ret
      exact ⟨by rw [← HS.out]; rfl, rfl⟩
    | succ k1 =>
      have hi : i < len := by have := HK.out; omega
      have hb := H.out.2 i hi
      have hcell : w.cell? ⟨b, i, none⟩ = some (.int .u8 (g i)) := H.out.1.row.cell (by have := H.out.1.le; omega)
      by_cases hz : g i = 0
      · have hne : (g i != 0) = false := by simp [hz]
        have hs2 : sumF g (i + 1) k1 h = sumF g 0 len 14695981039346656037 := by
          have h2 := HS.out
          rw [sumF, if_pos hz] at h2
          exact h2
        have HS2 := Aside0.mk hs2
        clear hs2 hz
        go_wp2
        go_roundg k1
        case rel => exact ⟨i + 1, h, rfl, by simp, ⟨by have := HK.out; omega⟩, ⟨HS2.out⟩, rfl⟩
        case measure => exact Nat.lt_succ_self _
      · have hne : (g i != 0) = true := by simp [hz]
        have hs2 : sumF g (i + 1) k1 (stepH h i (g i)) = sumF g 0 len 14695981039346656037 := by
          have h2 := HS.out
          rw [sumF, if_neg hz] at h2
          exact h2
        have HS2 := Aside0.mk hs2
        clear hs2 hz
        go_wp2
        go_roundg k1
        case rel => exact ⟨i + 1, stepH h i (g i), rfl, by simp, ⟨by have := HK.out; omega⟩, ⟨HS2.out⟩, rfl⟩
        case measure => exact Nat.lt_succ_self _
theorem sumW {w0 wr : World} {p bx k b cap n : Nat} {g : Nat → Int} {A : Option Addr} {c : Nat} (h : St w0 wr p bx k b cap n g A c) (W : World) (hb : Below wr.heap.size wr W) :
    Calls Try.prog 16 #[.pointer (some ⟨p, 0, none⟩)] W fun e w' => e = .returned (.int .u64 (sumF g 0 (4096 * n) 14695981039346656037)) ∧ W = w' :=
  (msum2 p b (4096 * n) cap k g W (h.below hb).mem h.bts).mono fun e w' ⟨h1, h2⟩ => ⟨h1, h2.symm⟩
theorem refsumW {w0 wr : World} {p bx k b cap n : Nat} {g : Nat → Int} {A : Option Addr} {c : Nat} (h : St w0 wr p bx k b cap n g A c) (W : World) (hb : Below wr.heap.size wr W) :
    Calls Try.prog 17 #[.agg #[.int .i64 n, .int .i64 k, .slice A (nzF g 0 (4096 * n)).length c]] W fun e w' => e = .returned (.int .u64 (sumF g 0 (4096 * n) 14695981039346656037)) ∧ Below wr.heap.size wr w' :=
  (refsum n k g A c _ W (Nat.le_trans h.nk h.k16) h.bts (h.below hb).lst).mono fun e w' ⟨h1, h2⟩ => ⟨h1, below_step hb h2⟩
theorem sureW (wr W : World) (hb : Below wr.heap.size wr W) : Calls Try.prog 10 #[] W fun e w' => e = .returned (.bool true) ∧ Below wr.heap.size wr w' :=
  (sure W).mono fun e w' ⟨h1, h2⟩ => ⟨h1, below_step hb h2⟩
set_option maxHeartbeats 16000000 in
set_option maxRecDepth 100000 in
theorem runs (x y : Int) (k n : Nat) (hk : wrap64 ((IntKind.u64.wrap y).tmod 17) = k) (hn : wrap64 ((IntKind.u64.wrap x).tmod ((k : Int) + 1)) = n) (hnk : n ≤ k) (hk16 : k ≤ 16) (A0 : Option Addr) (c0 : Nat) (l : List S45) (w : World) (hl : Kd.C k45 w A0 l.length l) (hc : l.length ≤ c0) (hg : ∀ x ∈ l, (0 ≤ x.f1 ∧ x.f1 < 18446744073709551616) ∧ (0 ≤ x.f2 ∧ x.f2 < 18446744073709551616) ∧ (0 ≤ x.f4 ∧ x.f4 < 18446744073709551616)) :
    Calls Try.prog 5 #[.int .i64 x, .int .i64 y, .slice A0 l.length c0] w fun e w' => e = .returned (.bool true) ∧ Below w.heap.size w w' := by
  have N := Aside0.mk (new_yes n k w hnk hk16)
  have HL := Aside0.mk hl
  have HK := Aside0.mk (And.intro hnk hk16)
  clear hl
  go_enter Try.func5, Try.ntmps5
  go_wp2_with (go_at_call 6; refine N.out.mono ?_; clear N; rintro e w1 ⟨rfl, B1, M1⟩; have X1 := Aside0.mk (And.intro B1 M1); clear B1 M1)
  clear hk hn
  go_loopg [12] (min l.length 40) (fun kq v12 w' => ∃ (i b cap n : Nat) (g : Nat → Int) (A : Option Addr) (c : Nat), v12 = .int .i64 i ∧ Aside0 (i + kq = min l.length 40) ∧ Aside0 (St w w' (w.heap.size + 1) w1.heap.size k b cap n g A c))
  case atStart => exact ⟨0, _, _, n, _, _, _, rfl, ⟨by omega⟩, ⟨St.start hnk hk16 X1.out.1 X1.out.2⟩⟩
  case round =>
    clear X1 hnk HK
    obtain ⟨i, b, cap, n, g, A, c, rfl, HK, HS⟩ := hrel
    cases gk with
    | succ k1 =>
      have hi : i < l.length := by have := HK.out; omega
      have hi40 : i < 40 := by have := HK.out; omega
      obtain ⟨ad, e0, q0, q1, q2, q3, q4⟩ := at_T45 HL.out i hi
      cases e0
      have hbl := HS.out.bel
      replace q0 := (hbl.cell (World.block_lt_of_cell? w _ q0)).trans q0
      replace q1 := (hbl.cell (World.block_lt_of_cell? w _ q1)).trans q1
      replace q2 := (hbl.cell (World.block_lt_of_cell? w _ q2)).trans q2
      replace q3 := (hbl.cell (World.block_lt_of_cell? w _ q3)).trans q3
      replace q4 := (hbl.cell (World.block_lt_of_cell? w _ q4)).trans q4
      have hgi := hg (rd45 l i) (rd45_mem l i hi)
      have hk7 := kind7 (rd45 l i).f0
      generalize rd45 l i = act at q0 q1 q2 q3 q4 hgi hk7
      obtain ⟨f0, f1, f2, f3, f4⟩ := act
      obtain ⟨⟨g10, g11⟩, ⟨g20, g21⟩, ⟨g40, g41⟩⟩ := hgi
      simp only [] at q0 q1 q2 q3 q4 g10 g11 g20 g21 g40 g41 hk7
      obtain ⟨f1, rfl⟩ := Int.eq_ofNat_of_zero_le g10
      obtain ⟨f2, rfl⟩ := Int.eq_ofNat_of_zero_le g20
      obtain ⟨f4, rfl⟩ := Int.eq_ofNat_of_zero_le g40
      have HG := Aside0.mk (And.intro g11 (And.intro g21 g41))
      clear g10 g20 g40 g11 g21 g41
      have hx0 : wr.cell? ⟨w1.heap.size, 0, none⟩ = some (.int .i64 n) := (blk_cell HS.out.box 0).trans rfl
      have hx1 : wr.cell? ⟨w1.heap.size, 1, none⟩ = some (.int .i64 k) := (blk_cell HS.out.box 1).trans rfl
      have hx2 : wr.cell? ⟨w1.heap.size, 2, none⟩ = some (.slice A (nzF g 0 (4096 * n)).length c) := (blk_cell HS.out.box 2).trans rfl
      have hf0 := blk_frozen HS.out.box 0
      have hf1 := blk_frozen HS.out.box 1
      have hf2 := blk_frozen HS.out.box 2
      have hlt := blk_lt HS.out.box
      clear hbl
      rcases hk7 with h | h | h
      · rcases h with hmod | hmod
        all_goals
          by_cases hgr : n + f4 ≤ k
          · go_wp2_with fail
            refine (refgrow_yes n k f4 A _ c _ hgr hk16).mono ?_
            rintro e w2 ⟨rfl, B2⟩
            have HA2 := blk_below (blk_new wr _) B2
            have hl2 : wr.heap.size < w2.heap.size := blk_lt HA2
            have a4 : w2.cell? ⟨wr.heap.size, 4, none⟩ = some (.int .u64 f4) := (blk_cell HA2 4).trans rfl
            have HX2 := blk_below HS.out.box (below_step (below_alloc (Below.refl _ _) _) B2)
            have x20 : w2.cell? ⟨w1.heap.size, 0, none⟩ = some (.int .i64 n) := (blk_cell HX2 0).trans rfl
            have x21 : w2.cell? ⟨w1.heap.size, 1, none⟩ = some (.int .i64 k) := (blk_cell HX2 1).trans rfl
            have x22 : w2.cell? ⟨w1.heap.size, 2, none⟩ = some (.slice A (nzF g 0 (4096 * n)).length c) := (blk_cell HX2 2).trans rfl
            have hlx2 := blk_lt HX2
            have hne2 : w1.heap.size ≠ w2.heap.size := by omega
            have y20 := blk_frozen HX2 0
            have y21 := blk_frozen HX2 1
            have y22 := blk_frozen HX2 2
            go_wp2_with fail
            have P4 := Aside0.mk (put3 HX2 (.int .i64 ((n : Int) + (f4 : Int))) (.int .i64 k) (.slice A (nzF g 0 (4096 * n)).length c) (.cells #[.int .i64 ((n : Int) + (f4 : Int)), .int .i64 k, .slice A (nzF g 0 (4096 * n)).length c] 43))
            have B24 := Aside0.mk (below_step (below_alloc (Below.refl wr.heap.size wr) _) B2)
            have K4 := Aside0.mk ((Kept.of_below B24.out (fun q => q = w1.heap.size)).then_ P4.out.2 (fun q hq => .inl hq))
            have B4 := Aside0.mk (put3_below (below_step HS.out.bel B24.out) HS.out.gx (.int .i64 ((n : Int) + (f4 : Int))) (.int .i64 k) (.slice A (nzF g 0 (4096 * n)).length c) (.cells #[.int .i64 ((n : Int) + (f4 : Int)), .int .i64 k, .slice A (nzF g 0 (4096 * n)).length c] 43))
            refine (grow_yes2 w.heap.size (w.heap.size + 1) b (4096 * n) cap n k f4 g _ (HS.out.mem.kept K4.out (fun e => HS.out.xp e.symm) (fun e => HS.out.xb e.symm)) rfl hk16 hgr HS.out.gb HS.out.gp).mono ?_
            rintro e w5 ⟨rfl, B5, b', cap', g', hb', M5, G1, G2, K5⟩
            have HS5 := Aside0.mk (HS.out.grown K4.out B4.out f4 P4.out.1 hgr b' cap' g' B5 hb' M5 G1 G2 K5)
            clear B5 hb' M5 G1 G2 K5
            have x50 : w5.cell? ⟨w1.heap.size, 0, none⟩ = some (.int .i64 ((n + f4 : Nat) : Int)) := (blk_cell HS5.out.box 0).trans rfl
            have PG := Aside0.mk (pagesQ HS5.out.mem)
            clear hx0 hx1 hx2 hf0 hf1 hf2 x20 x21 x22 y20 y21 y22
            go_wp2_with fail
            go_quiet ((go_at_call 15; exact Calls.quiet_of_same (PG.out _)))
            go_wp2_with fail
            go_roundg k1
            case rel => exact ⟨i + 1, b', cap', n + f4, g', A, c, by simp, ⟨by have := HK.out; omega⟩, ⟨HS5.out.below (pw_below_drewN (Below.refl _ _) _)⟩⟩
            case measure => exact Nat.lt_succ_self _
          · go_wp2_with fail
            refine (refgrow_no n k f4 A _ c _ hgr (HS.out.nk) hk16 (by have := HG.out.2.2; omega)).mono ?_
            rintro e w2 ⟨rfl, B2⟩
            have HA2 := blk_below (blk_new wr _) B2
            have hl2 : wr.heap.size < w2.heap.size := blk_lt HA2
            have a1 : w2.cell? ⟨wr.heap.size, 1, none⟩ = some (.int .u64 f1) := (blk_cell HA2 1).trans rfl
            have a2 : w2.cell? ⟨wr.heap.size, 2, none⟩ = some (.int .u64 f2) := (blk_cell HA2 2).trans rfl
            have a3 : w2.cell? ⟨wr.heap.size, 3, none⟩ = some (.int .i64 f3) := (blk_cell HA2 3).trans rfl
            have a4 : w2.cell? ⟨wr.heap.size, 4, none⟩ = some (.int .u64 f4) := (blk_cell HA2 4).trans rfl
            have HX2 := blk_below HS.out.box (below_step (below_alloc (Below.refl _ _) _) B2)
            have x20 : w2.cell? ⟨w1.heap.size, 0, none⟩ = some (.int .i64 n) := (blk_cell HX2 0).trans rfl
            have x21 : w2.cell? ⟨w1.heap.size, 1, none⟩ = some (.int .i64 k) := (blk_cell HX2 1).trans rfl
            have x22 : w2.cell? ⟨w1.heap.size, 2, none⟩ = some (.slice A (nzF g 0 (4096 * n)).length c) := (blk_cell HX2 2).trans rfl
            have hlx2 := blk_lt HX2
            have hne2 : w1.heap.size ≠ w2.heap.size := by omega
            have y20 := blk_frozen HX2 0
            have y21 := blk_frozen HX2 1
            have y22 := blk_frozen HX2 2
            go_wp2_with fail
            have P4 := Aside0.mk (put3 HX2 (.int .i64 n) (.int .i64 k) (.slice A (nzF g 0 (4096 * n)).length c) (.cells #[.int .i64 n, .int .i64 k, .slice A (nzF g 0 (4096 * n)).length c] 43))
            have B24 := Aside0.mk (below_step (below_alloc (Below.refl wr.heap.size wr) _) B2)
            have K4 := Aside0.mk ((Kept.of_below B24.out (fun q => q = w1.heap.size)).then_ P4.out.2 (fun q hq => .inl hq))
            have B4 := Aside0.mk (put3_below (below_step HS.out.bel B24.out) HS.out.gx (.int .i64 n) (.int .i64 k) (.slice A (nzF g 0 (4096 * n)).length c) (.cells #[.int .i64 n, .int .i64 k, .slice A (nzF g 0 (4096 * n)).length c] 43))
            have HS5 := Aside0.mk (HS.out.same K4.out B4.out P4.out.1)
            refine (grow_no (w.heap.size + 1) b (4096 * n) cap n k f4 g _ HS5.out.mem rfl hk16 HS.out.nk (by have := HS.out.nk; omega) (by have := HG.out.2.2; omega)).mono ?_
            rintro e w5 ⟨rfl, hw5⟩
            obtain rfl := hw5.symm
            have x50 := box0 HS5.out.box
            clear hx0 hx1 hx2 hf0 hf1 hf2 x20 x21 x22 y20 y21 y22
            have PG := Aside0.mk (pagesQ HS5.out.mem)
            go_wp2_with fail
            go_quiet ((go_at_call 15; exact Calls.quiet_of_same (PG.out _)))
            go_wp2_with fail
            go_roundg k1
            case rel => exact ⟨i + 1, b, cap, n, g, A, c, by simp, ⟨by have := HK.out; omega⟩, ⟨HS5.out.below (pw_below_drewN (Below.refl _ _) _)⟩⟩
            case measure => exact Nat.lt_succ_self _
      · by_cases hh : hasP n f1 f2 f3
        · have hh := Aside0.mk hh
          rcases h with hmod | hmod | hmod
          all_goals
            go_wp2_with fail
            refine (refstore_yes n f1 f2 k f3 f4 g A c (fun q => q ≠ b ∧ q ≠ w.heap.size + 1 ∧ q ≠ w1.heap.size) _ (by have := HS.out.nk; omega) (by have := HG.out.1; omega) (by have := HG.out.2.1; omega) ⟨by omega, HG.out.2.2⟩ hh.out (Kd.V_alloc HS.out.lst _)).mono ?_
            rintro e w2 ⟨A', c', rfl, V2, B2⟩
            have V2 := Aside0.mk V2
            have HA2 := blk_below (blk_new wr _) B2
            have hl2 : wr.heap.size < w2.heap.size := blk_lt HA2
            have a1 : w2.cell? ⟨wr.heap.size, 1, none⟩ = some (.int .u64 f1) := (blk_cell HA2 1).trans rfl
            have a2 : w2.cell? ⟨wr.heap.size, 2, none⟩ = some (.int .u64 f2) := (blk_cell HA2 2).trans rfl
            have a3 : w2.cell? ⟨wr.heap.size, 3, none⟩ = some (.int .i64 f3) := (blk_cell HA2 3).trans rfl
            have a4 : w2.cell? ⟨wr.heap.size, 4, none⟩ = some (.int .u64 f4) := (blk_cell HA2 4).trans rfl
            have HX2 := blk_below HS.out.box (below_step (below_alloc (Below.refl _ _) _) B2)
            have x20 : w2.cell? ⟨w1.heap.size, 0, none⟩ = some (.int .i64 n) := (blk_cell HX2 0).trans rfl
            have x21 : w2.cell? ⟨w1.heap.size, 1, none⟩ = some (.int .i64 k) := (blk_cell HX2 1).trans rfl
            have x22 : w2.cell? ⟨w1.heap.size, 2, none⟩ = some (.slice A (nzF g 0 (4096 * n)).length c) := (blk_cell HX2 2).trans rfl
            have hlx2 := blk_lt HX2
            have hne2 : w1.heap.size ≠ w2.heap.size := by omega
            have y20 := blk_frozen HX2 0
            have y21 := blk_frozen HX2 1
            have y22 := blk_frozen HX2 2
            go_wp2_with fail
            have P4 := Aside0.mk (put3 HX2 (.int .i64 n) (.int .i64 k) (.slice A' (nzF (storeG g (f1 + f2) f3.toNat f4) 0 (4096 * n)).length c') (.cells #[.int .i64 n, .int .i64 k, .slice A' (nzF (storeG g (f1 + f2) f3.toNat f4) 0 (4096 * n)).length c'] 43))
            have B24 := Aside0.mk (below_step (below_alloc (Below.refl wr.heap.size wr) _) B2)
            have K4 := Aside0.mk ((Kept.of_below B24.out (fun q => q = w1.heap.size)).then_ P4.out.2 (fun q hq => .inl hq))
            have B4 := Aside0.mk (put3_below (below_step HS.out.bel B24.out) HS.out.gx (.int .i64 n) (.int .i64 k) (.slice A' (nzF (storeG g (f1 + f2) f3.toNat f4) 0 (4096 * n)).length c') (.cells #[.int .i64 n, .int .i64 k, .slice A' (nzF (storeG g (f1 + f2) f3.toNat f4) 0 (4096 * n)).length c'] 43))
            obtain ⟨sz, hsz⟩ : ∃ sz : Nat, f3 = (sz : Int) := ⟨f3.toNat, by have := hh.out.1; omega⟩
            subst hsz
            simp only [Int.toNat_natCast] at *
            refine (store_yes2 w.heap.size (w.heap.size + 1) b (4096 * n) cap f1 f2 sz k f4 g _ (HS.out.mem.kept K4.out (fun e => HS.out.xp e.symm) (fun e => HS.out.xb e.symm)) (by have := hh.out.1; omega) (by have := hh.out.2; omega) HS.out.gb ⟨by omega, HG.out.2.2⟩).mono ?_
            rintro e w5 ⟨rfl, B5, M5, K5⟩
            have HS5 := Aside0.mk (St.stored HS.out (by simp) P4.out.2 B4.out V2.out P4.out.1 B5 M5 (storeG_bts HS.out.bts) K5)
            clear B5 M5 K5
            have x50 := box0 HS5.out.box
            clear hx0 hx1 hx2 hf0 hf1 hf2 x20 x21 x22 y20 y21 y22
            have PG := Aside0.mk (pagesQ HS5.out.mem)
            go_wp2_with fail
            go_quiet ((go_at_call 15; exact Calls.quiet_of_same (PG.out _)))
            go_wp2_with fail
            go_roundg k1
            case rel => exact ⟨i + 1, b, cap, n, _, A', c', by simp, ⟨by have := HK.out; omega⟩, ⟨HS5.out.below (pw_below_drewN (Below.refl _ _) _)⟩⟩
            case measure => exact Nat.lt_succ_self _
        · have hh := Aside0.mk hh
          rcases h with hmod | hmod | hmod
          all_goals
            go_wp2_with fail
            refine (refstore_no n f1 f2 k f3 f4 g A c (fun q => q ≠ b ∧ q ≠ w.heap.size + 1 ∧ q ≠ w1.heap.size) _ (by have := HS.out.nk; omega) (by have := HG.out.1; omega) (by have := HG.out.2.1; omega) ⟨by omega, HG.out.2.2⟩ hh.out (Kd.V_alloc HS.out.lst _)).mono ?_
            rintro e w2 ⟨A', c', rfl, V2, B2⟩
            have V2 := Aside0.mk V2
            have HA2 := blk_below (blk_new wr _) B2
            have hl2 : wr.heap.size < w2.heap.size := blk_lt HA2
            have a1 : w2.cell? ⟨wr.heap.size, 1, none⟩ = some (.int .u64 f1) := (blk_cell HA2 1).trans rfl
            have a2 : w2.cell? ⟨wr.heap.size, 2, none⟩ = some (.int .u64 f2) := (blk_cell HA2 2).trans rfl
            have a3 : w2.cell? ⟨wr.heap.size, 3, none⟩ = some (.int .i64 f3) := (blk_cell HA2 3).trans rfl
            have a4 : w2.cell? ⟨wr.heap.size, 4, none⟩ = some (.int .u64 f4) := (blk_cell HA2 4).trans rfl
            have HX2 := blk_below HS.out.box (below_step (below_alloc (Below.refl _ _) _) B2)
            have x20 : w2.cell? ⟨w1.heap.size, 0, none⟩ = some (.int .i64 n) := (blk_cell HX2 0).trans rfl
            have x21 : w2.cell? ⟨w1.heap.size, 1, none⟩ = some (.int .i64 k) := (blk_cell HX2 1).trans rfl
            have x22 : w2.cell? ⟨w1.heap.size, 2, none⟩ = some (.slice A (nzF g 0 (4096 * n)).length c) := (blk_cell HX2 2).trans rfl
            have hlx2 := blk_lt HX2
            have hne2 : w1.heap.size ≠ w2.heap.size := by omega
            have y20 := blk_frozen HX2 0
            have y21 := blk_frozen HX2 1
            have y22 := blk_frozen HX2 2
            go_wp2_with fail
            have P4 := Aside0.mk (put3 HX2 (.int .i64 n) (.int .i64 k) (.slice A' (nzF g 0 (4096 * n)).length c') (.cells #[.int .i64 n, .int .i64 k, .slice A' (nzF g 0 (4096 * n)).length c'] 43))
            have B24 := Aside0.mk (below_step (below_alloc (Below.refl wr.heap.size wr) _) B2)
            have K4 := Aside0.mk ((Kept.of_below B24.out (fun q => q = w1.heap.size)).then_ P4.out.2 (fun q hq => .inl hq))
            have B4 := Aside0.mk (put3_below (below_step HS.out.bel B24.out) HS.out.gx (.int .i64 n) (.int .i64 k) (.slice A' (nzF g 0 (4096 * n)).length c') (.cells #[.int .i64 n, .int .i64 k, .slice A' (nzF g 0 (4096 * n)).length c'] 43))
            refine (store_no (w.heap.size + 1) b (4096 * n) cap f1 f2 f3 k f4 g _ (HS.out.mem.kept K4.out (fun e => HS.out.xp e.symm) (fun e => HS.out.xb e.symm)) (by have := HG.out.1; omega) (by have := HG.out.2.1; omega) hh.out).mono ?_
            rintro e w5 ⟨rfl, hw5⟩
            obtain rfl := hw5.symm
            have HS5 := Aside0.mk (St.stored HS.out (by simp) P4.out.2 B4.out V2.out P4.out.1 (Below.refl _ _) (HS.out.mem.kept K4.out (fun e => HS.out.xp e.symm) (fun e => HS.out.xb e.symm)) HS.out.bts (Kept.refl _ _))
            have x50 := box0 HS5.out.box
            clear hx0 hx1 hx2 hf0 hf1 hf2 x20 x21 x22 y20 y21 y22
            have PG := Aside0.mk (pagesQ HS5.out.mem)
            go_wp2_with fail
            go_quiet ((go_at_call 15; exact Calls.quiet_of_same (PG.out _)))
            go_wp2_with fail
            go_roundg k1
            case rel => exact ⟨i + 1, b, cap, n, _, A', c', by simp, ⟨by have := HK.out; omega⟩, ⟨HS5.out.below (pw_below_drewN (Below.refl _ _) _)⟩⟩
            case measure => exact Nat.lt_succ_self _
      · rcases h with hmod | hmod
        all_goals
          obtain ⟨v, is, hv⟩ : ∃ v is, (if hasP n f1 f2 f3 then (num (fun j => g (f1 + f2 + j)) f3.toNat, true) else (0, false)) = (v, is) := ⟨_, _, rfl⟩
          have HV := Aside0.mk hv
          clear hv
          go_wp2_with fail
          refine (refload n f1 f2 k f3 g A c (fun q => q ≠ b ∧ q ≠ w.heap.size + 1 ∧ q ≠ w1.heap.size) _ (by have := HS.out.nk; omega) (by have := HG.out.1; omega) (by have := HG.out.2.1; omega) HS.out.bts (Kd.V_alloc HS.out.lst _) v is HV.out).mono ?_
          rintro e w2 ⟨rfl, B2⟩
          have HA2 := blk_below (blk_new wr _) B2
          have hl2 : wr.heap.size < w2.heap.size := blk_lt HA2
          have a1 : w2.cell? ⟨wr.heap.size, 1, none⟩ = some (.int .u64 f1) := (blk_cell HA2 1).trans rfl
          have a2 : w2.cell? ⟨wr.heap.size, 2, none⟩ = some (.int .u64 f2) := (blk_cell HA2 2).trans rfl
          have a3 : w2.cell? ⟨wr.heap.size, 3, none⟩ = some (.int .i64 f3) := (blk_cell HA2 3).trans rfl
          have a4 : w2.cell? ⟨wr.heap.size, 4, none⟩ = some (.int .u64 f4) := (blk_cell HA2 4).trans rfl
          have HX2 := blk_below HS.out.box (below_step (below_alloc (Below.refl _ _) _) B2)
          have x20 : w2.cell? ⟨w1.heap.size, 0, none⟩ = some (.int .i64 n) := (blk_cell HX2 0).trans rfl
          have x21 : w2.cell? ⟨w1.heap.size, 1, none⟩ = some (.int .i64 k) := (blk_cell HX2 1).trans rfl
          have x22 : w2.cell? ⟨w1.heap.size, 2, none⟩ = some (.slice A (nzF g 0 (4096 * n)).length c) := (blk_cell HX2 2).trans rfl
          have hlx2 := blk_lt HX2
          have hne2 : w1.heap.size ≠ w2.heap.size := by omega
          have y20 := blk_frozen HX2 0
          have y21 := blk_frozen HX2 1
          have y22 := blk_frozen HX2 2
          have HS2 := Aside0.mk (HS.out.below (below_step (below_alloc (Below.refl wr.heap.size wr) _) B2))
          go_wp2_with fail
          refine (progload (w.heap.size + 1) b cap n f1 f2 k f3 g _ HS2.out.mem (by have := HG.out.1; omega) (by have := HG.out.2.1; omega) HS.out.bts v is HV.out).mono ?_
          rintro e w5 ⟨rfl, B5⟩
          have HS5 := Aside0.mk (HS2.out.below B5)
          have x50 : w5.cell? ⟨w1.heap.size, 0, none⟩ = some (.int .i64 n) := (blk_cell HS5.out.box 0).trans rfl
          clear B5
          clear hx0 hx1 hx2 hf0 hf1 hf2 x20 x21 x22 y20 y21 y22
          have PG := Aside0.mk (pagesQ HS5.out.mem)
          go_wp2_with fail
          go_quiet ((go_at_call 15; exact Calls.quiet_of_same (PG.out _)))
          go_wp2_with fail
          go_roundg k1
          case rel => exact ⟨i + 1, b, cap, n, g, A, c, by simp, ⟨by have := HK.out; omega⟩, ⟨HS5.out.below (pw_below_drewN (Below.refl _ _) _)⟩⟩
          case measure => exact Nat.lt_succ_self _
    | zero =>
      have hi : i = min l.length 40 := by have := HK.out; omega
      clear HK
      have hx2 : wr.cell? ⟨w1.heap.size, 2, none⟩ = some (.slice A (nzF g 0 (4096 * n)).length c) := (blk_cell HS.out.box 2).trans rfl
      have hlenb := nzF_len g (4096 * n) 0
      have hn16 : n ≤ 16 := by have := HS.out.nk; omega
      by_cases hl40 : l.length ≤ 40
      · obtain rfl : i = l.length := by omega
        clear hi
        go_wp2_with fail
        go_loopg [22] (nzF g 0 (4096 * n)).length (fun kq v22 w' => ∃ i : Nat, v22 = .int .i64 i ∧ Aside0 (i + kq = (nzF g 0 (4096 * n)).length) ∧ Aside0 (St w w' (w.heap.size + 1) w1.heap.size k b cap n g A c))
        case atStart => exact ⟨0, rfl, ⟨by omega⟩, ⟨HS.out⟩⟩
        case round =>
          clear hx2
          obtain ⟨i, rfl, HK, HS⟩ := hrel
          have hx0 : wr.cell? ⟨w1.heap.size, 0, none⟩ = some (.int .i64 n) := (blk_cell HS.out.box 0).trans rfl
          have hx1 : wr.cell? ⟨w1.heap.size, 1, none⟩ = some (.int .i64 k) := (blk_cell HS.out.box 1).trans rfl
          have hx2 : wr.cell? ⟨w1.heap.size, 2, none⟩ = some (.slice A (nzF g 0 (4096 * n)).length c) := (blk_cell HS.out.box 2).trans rfl
          cases gk with
          | succ k2 =>
            have hi : i < (nzF g 0 (4096 * n)).length := by have := HK.out; omega
            obtain ⟨j, hj1, hj2, hje⟩ := nzF_mem g (4096 * n) 0 _ (List.getElem_mem hi)
            obtain ⟨ad2, e2, r0, r1⟩ := at_T53 (Kd.V_reads' HS.out.lst).2.2 (i : Int) (by omega) (by omega)
            cases e2
            rw [rd53 _ _ hi, hje] at r0 r1
            simp only [Int.toNat_natCast] at r0 r1
            clear hje
            have BY := Aside0.mk (byte1 (w.heap.size + 1) b (4096 * n) cap j k g wr HS.out.mem (by omega) (by omega) (by have := HS.out.mem.le; omega))
            go_wp2_with fail
            refine BY.out.mono ?_
            rintro e w5 ⟨b', cap', rfl, B5, C5⟩
            have HS5 := Aside0.mk (HS.out.below B5)
            have x52 : w5.cell? ⟨w1.heap.size, 2, none⟩ = some (.slice (some ad2) (nzF g 0 (4096 * n)).length c) := (blk_cell HS5.out.box 2).trans rfl
            have r15 := (B5.cell (World.block_lt_of_cell? wr _ r1)).trans r1
            clear B5 BY r0 r1 hx0 hx1 hx2
            go_wp2_with fail
            go_region
            all_goals (try go_wp2_with fail)
            go_roundg k2
            case rel => exact ⟨i + 1, by simp, ⟨by have := HK.out; omega⟩, ⟨HS5.out.below (below_drew1 (Below.refl _ _))⟩⟩
            case measure => exact Nat.lt_succ_self _
          | zero =>
            obtain rfl : i = (nzF g 0 (4096 * n)).length := by have := HK.out; omega
            have SU := Aside0.mk (sumW HS.out)
            have RS := Aside0.mk (refsumW HS.out)
            have SR := Aside0.mk (sureW wr)
            have HB := Aside0.mk HS.out.bel
            go_wp2_with fail
            go_region_with (first
              | (go_at_call 16; refine (SU.out _ ?hs).mono ?_; (case hs => (first | assumption | exact Below.refl _ _ | exact below_drew1 (Below.refl _ _) | (apply below_drew1; assumption))); rintro e w6 ⟨rfl, rfl⟩)
              | (go_at_call 17; refine (RS.out _ ?hs).mono ?_; (case hs => (first | assumption | exact Below.refl _ _ | exact below_drew1 (Below.refl _ _) | (apply below_drew1; assumption))); rintro e w7 ⟨rfl, B7⟩)
              | (go_at_call 10; refine (SR.out _ ?hs).mono ?_; (case hs => (first | assumption | exact Below.refl _ _ | exact below_drew1 (Below.refl _ _) | (apply below_drew1; assumption))); rintro e w8 ⟨rfl, B8⟩))
            all_goals
              go_wp2_with fail
              go_ret
              exact ⟨rfl, below_step HB.out (by assumption)⟩
      · obtain rfl : i = 40 := by omega
        clear hi
        have hl2 : 40 < l.length := by omega
        go_wp2_with fail
        go_loopg [22] (nzF g 0 (4096 * n)).length (fun kq v22 w' => ∃ i : Nat, v22 = .int .i64 i ∧ Aside0 (i + kq = (nzF g 0 (4096 * n)).length) ∧ Aside0 (St w w' (w.heap.size + 1) w1.heap.size k b cap n g A c))
        case atStart => exact ⟨0, rfl, ⟨by omega⟩, ⟨HS.out⟩⟩
        case round =>
          clear hx2
          obtain ⟨i, rfl, HK, HS⟩ := hrel
          have hx0 : wr.cell? ⟨w1.heap.size, 0, none⟩ = some (.int .i64 n) := (blk_cell HS.out.box 0).trans rfl
          have hx1 : wr.cell? ⟨w1.heap.size, 1, none⟩ = some (.int .i64 k) := (blk_cell HS.out.box 1).trans rfl
          have hx2 : wr.cell? ⟨w1.heap.size, 2, none⟩ = some (.slice A (nzF g 0 (4096 * n)).length c) := (blk_cell HS.out.box 2).trans rfl
          cases gk with
          | succ k2 =>
            have hi : i < (nzF g 0 (4096 * n)).length := by have := HK.out; omega
            obtain ⟨j, hj1, hj2, hje⟩ := nzF_mem g (4096 * n) 0 _ (List.getElem_mem hi)
            obtain ⟨ad2, e2, r0, r1⟩ := at_T53 (Kd.V_reads' HS.out.lst).2.2 (i : Int) (by omega) (by omega)
            cases e2
            rw [rd53 _ _ hi, hje] at r0 r1
            simp only [Int.toNat_natCast] at r0 r1
            clear hje
            have BY := Aside0.mk (byte1 (w.heap.size + 1) b (4096 * n) cap j k g wr HS.out.mem (by omega) (by omega) (by have := HS.out.mem.le; omega))
            go_wp2_with fail
            refine BY.out.mono ?_
            rintro e w5 ⟨b', cap', rfl, B5, C5⟩
            have HS5 := Aside0.mk (HS.out.below B5)
            have x52 : w5.cell? ⟨w1.heap.size, 2, none⟩ = some (.slice (some ad2) (nzF g 0 (4096 * n)).length c) := (blk_cell HS5.out.box 2).trans rfl
            have r15 := (B5.cell (World.block_lt_of_cell? wr _ r1)).trans r1
            clear B5 BY r0 r1 hx0 hx1 hx2
            go_wp2_with fail
            go_region
            all_goals (try go_wp2_with fail)
            go_roundg k2
            case rel => exact ⟨i + 1, by simp, ⟨by have := HK.out; omega⟩, ⟨HS5.out.below (below_drew1 (Below.refl _ _))⟩⟩
            case measure => exact Nat.lt_succ_self _
          | zero =>
            obtain rfl : i = (nzF g 0 (4096 * n)).length := by have := HK.out; omega
            have SU := Aside0.mk (sumW HS.out)
            have RS := Aside0.mk (refsumW HS.out)
            have SR := Aside0.mk (sureW wr)
            have HB := Aside0.mk HS.out.bel
            go_wp2_with fail
            go_region_with (first
              | (go_at_call 16; refine (SU.out _ ?hs).mono ?_; (case hs => (first | assumption | exact Below.refl _ _ | exact below_drew1 (Below.refl _ _) | (apply below_drew1; assumption))); rintro e w6 ⟨rfl, rfl⟩)
              | (go_at_call 17; refine (RS.out _ ?hs).mono ?_; (case hs => (first | assumption | exact Below.refl _ _ | exact below_drew1 (Below.refl _ _) | (apply below_drew1; assumption))); rintro e w7 ⟨rfl, B7⟩)
              | (go_at_call 10; refine (SR.out _ ?hs).mono ?_; (case hs => (first | assumption | exact Below.refl _ _ | exact below_drew1 (Below.refl _ _) | (apply below_drew1; assumption))); rintro e w8 ⟨rfl, B8⟩))
            all_goals
              go_wp2_with fail
              go_ret
              exact ⟨rfl, below_step HB.out (by assumption)⟩
end Go.Proofs.Ytocjneilaabnnaa.M
