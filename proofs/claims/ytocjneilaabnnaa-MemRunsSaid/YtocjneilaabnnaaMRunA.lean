/- Layer 3: what the law MemRuns needs beside: what a store and a growing keep; the document's Grow; an action's cells. -/
import Derived.Test.YtocjneilaabnnaaMRef
import Derived.Test.YtocjneilaabnnaaMSure
import Derived.Test.YtocjneilaabnnaaMSum
import Derived.Test.YtocjneilaabnnaaXRx1
import Derived.Test.YtocjneilaabnnaaXRx2
namespace Go.Proofs.Ytocjneilaabnnaa.M
open Go Go.RowKit Go.Proofs.Ytocjneilaabnnaa.XR Go.Proofs.YtocjneilaabnnaaW.PrintWords
set_option linter.unusedVariables false
set_option linter.unusedSimpArgs false
structure S45 where
  f0 : Int
  f1 : Int
  f2 : Int
  f3 : Int
  f4 : Int
instance : Inhabited S45 := ⟨⟨0, 0, 0, 0, 0⟩⟩
def z45 : S45 := ⟨0, 0, 0, 0, 0⟩
def k45 : Kd S45 := Kd.iso (Kd.pair (Kd.int .i64) (Kd.pair (Kd.int .u64) (Kd.pair (Kd.int .u64) (Kd.pair (Kd.int .i64) (Kd.int .u64))))) (fun x : S45 => (x.f0, x.f1, x.f2, x.f3, x.f4))
theorem k45_open {w : World} {x : S45} {cs : List Value} (h : k45.K w x cs) : cs = [.int .i64 x.f0, .int .u64 x.f1, .int .u64 x.f2, .int .i64 x.f3, .int .u64 x.f4] := by
  obtain ⟨_, _, rfl, rfl, ⟨_, _, rfl, rfl, ⟨_, _, rfl, rfl, ⟨_, _, rfl, rfl, rfl⟩⟩⟩⟩ := h
  rfl
def rd45 (xs : List S45) (i : Nat) : S45 := xs.getD i z45
theorem at_T45 {w : World} {A : Option Addr} {n : Nat} {xs : List S45} (h : Kd.C k45 w A n xs) (i : Nat) (h1 : i < n) : ∃ ad, A = some ad ∧ w.cell? (ad.add (i * 5)) = some (.int .i64 (rd45 xs i).f0) ∧ w.cell? ⟨(ad.add (i * 5)).block, (ad.add (i * 5)).off + 1, none⟩ = some (.int .u64 (rd45 xs i).f1) ∧ w.cell? ⟨(ad.add (i * 5)).block, (ad.add (i * 5)).off + 2, none⟩ = some (.int .u64 (rd45 xs i).f2) ∧ w.cell? ⟨(ad.add (i * 5)).block, (ad.add (i * 5)).off + 3, none⟩ = some (.int .i64 (rd45 xs i).f3) ∧ w.cell? ⟨(ad.add (i * 5)).block, (ad.add (i * 5)).off + 4, none⟩ = some (.int .u64 (rd45 xs i).f4) := by
  obtain ⟨ad, c, e, _, hK, hc0⟩ := Kd.C_get h z45 (i : Int) (by omega) (by omega)
  have hc : ∀ j u, c[j]? = some u → w.cell? (ad.add (i * 5 + j)) = some u := hc0
  obtain rfl := k45_open hK
  exact ⟨ad, e, hc 0 _ rfl, by rw [← add_field _ _ 1 (by omega)]; exact hc 1 _ rfl, by rw [← add_field _ _ 2 (by omega)]; exact hc 2 _ rfl, by rw [← add_field _ _ 3 (by omega)]; exact hc 3 _ rfl, by rw [← add_field _ _ 4 (by omega)]; exact hc 4 _ rfl⟩
set_option maxHeartbeats 4000000 in
set_option maxRecDepth 100000 in
theorem store_yes2 (B p b len cap x off size : Nat) (most v : Int) (g : Nat → Int) (w : World) (h : IsMem w p b len cap most g) (hs : size = 1 ∨ size = 2 ∨ size = 4 ∨ size = 8) (hin : x + off + size ≤ len) (hB : B ≤ b) (hv : 0 ≤ v ∧ v < 18446744073709551616) :
    Calls Try.prog 7 #[.pointer (some ⟨p, 0, none⟩), .int .u64 x, .int .u64 off, .int .i64 size, .int .u64 v] w fun e w' => e = .returned (.bool true) ∧ Below B w w' ∧ IsMem w' p b len cap most (storeG g (x + off) size v) ∧ Kept w w' (fun k => k = b) := by
  have hs8 : size ≤ 8 := by omega
  have S := Aside0.mk (span_yes p b len cap x off size most g w h hs hin)
  have HM := Aside0.mk h
  have HV := Aside0.mk hv
  have HIN := Aside0.mk hin
  clear h hs hv hin
  go_enter Try.func7, Try.ntmps7
  go_wp2_with fail
  refine S.out.mono ?_
  rintro e w2 ⟨rfl, hw⟩
  obtain rfl := hw.symm
  go_wp2_with fail
  go_loopg [24] size (fun kq v24 w' => ∃ i : Nat, v24 = .int .i64 i ∧ Aside0 (i + kq = size) ∧ Aside0 (Below B w w') ∧ Aside0 (IsMem w' p b len cap most (storeG g (x + off) i v)) ∧ Aside0 (Kept w w' (fun k => k = b)))
  case atStart => exact ⟨0, rfl, ⟨by omega⟩, ⟨Below.refl _ _⟩, ⟨HM.out.congr (fun j hj => by simp [storeG]; omega)⟩, ⟨Kept.refl _ _⟩⟩
  case round =>
    obtain ⟨i, rfl, HK, HB, HR, HKe⟩ := hrel
    cases gk with
    | zero =>
      obtain rfl : i = size := by have := HK.out; omega
      go_wp2
      go_ret
      exact ⟨rfl, HB.out, HR.out, HKe.out⟩
    | succ k1 =>
      have hi : i < size := by have := HK.out; omega
      have hlt : x + off + i < cap := by have := HIN.out; have := HM.out.le; omega
      have hc : wr.cell? ⟨b, x + off + i, none⟩ = some (.int .u8 (storeG g (x + off) i v (x + off + i))) := HR.out.row.cell hlt
      have hf : wr.frozen? ⟨b, x + off + i, none⟩ = false := HR.out.row.frozen _
      go_wp2
      go_roundg k1
      case rel =>
        refine ⟨i + 1, by simp, ⟨by have := HK.out; omega⟩, ⟨HB.out.setCell hB _⟩, ⟨(HR.out.store _ _).congr (fun j hj => ?_)⟩, ⟨HKe.out.setCell (.inl rfl) _⟩⟩
        simp only [storeG, stb]
        by_cases e : j = x + off + i
        · subst e
          rw [if_pos rfl, if_pos (by omega), show x + off + i - (x + off) = i by omega]
        · rw [if_neg e]
          by_cases e2 : x + off ≤ j ∧ j < x + off + i
          · rw [if_pos e2, if_pos (by omega)]
          · rw [if_neg e2, if_neg (by omega)]
      case measure => exact Nat.lt_succ_self _
set_option maxHeartbeats 4000000 in
set_option maxRecDepth 100000 in
theorem grow_yes2 (B p b len cap k most n : Nat) (g : Nat → Int) (w : World) (h : IsMem w p b len cap most g) (hk : len = 4096 * k) (hm : most ≤ 16) (hn : k + n ≤ most) (hB : B ≤ b) (hBp : B ≤ p) :
    Calls Try.prog 8 #[.pointer (some ⟨p, 0, none⟩), .int .u64 n] w fun e w' => e = .returned (.int .i64 k) ∧ Below B w w' ∧ ∃ b' cap' g', (b' = b ∨ w.heap.size ≤ b') ∧ IsMem w' p b' (4096 * (k + n)) cap' most g' ∧ (∀ j, j < len → g' j = g j) ∧ (∀ j, len ≤ j → j < 4096 * (k + n) → g' j = 0) ∧ Kept w w' (fun q => q = b ∨ q = p) := by
  subst hk
  have P := pages p b (4096 * k) cap k most g w h rfl
  have hc := h.c1
  have hc0 := h.c0
  have H := Aside0.mk h
  have hle := h.le
  have htop := h.top
  have hlen : Hid (((4096 * n : Nat) : Int) = (n : Int) * 4096) := by show ((4096 * n : Nat) : Int) = (n : Int) * 4096; omega
  clear h
  go_enter Try.func8, Try.ntmps8
  go_wp2_with (first
    | (go_at_call 15; refine P.mono ?_; clear P; rintro e w2 ⟨rfl, hw⟩; obtain rfl := hw.symm)
    | (at_builtin; refine wpList_append_zeros b (4096 * k) cap (4096 * n) g w rfl _ _ rfl rfl rfl (by rw [hlen.out]; rfl) H.out.row H.out.le H.out.top (by omega) ?_; intro b' cap' w' g' r1 r2 r3 r4 r5 r6 r7 r8; have R := Aside0.mk (And.intro r1 (And.intro r2 (And.intro r3 (And.intro r4 (And.intro r5 (And.intro r6 (And.intro (r7 B hB) r8))))))); have q0 : w'.cell? ⟨p, 0, none⟩ = some (.slice (some ⟨b, 0, none⟩) (4096 * k) cap) := (H.out.obj.of_block (r8 p H.out.ne H.out.obj.lt)).cell (i := 0) (by omega); have q1 : w'.frozen? ⟨p, 0, none⟩ = false := (H.out.obj.of_block (r8 p H.out.ne H.out.obj.lt)).frozen 0; clear r1 r2 r3 r4 r5 r6 r7 r8))
  go_ret
  obtain ⟨r1, r2, r3, r4, r5, r6, r7, r8⟩ := R.out
  have hpl := H.out.obj.lt
  have hne : p ≠ b' := by
    rcases r6 with rfl | rfl
    · exact H.out.ne
    · omega
  have ob := H.out.obj.of_block (r8 p H.out.ne hpl)
  refine ⟨rfl, r7.setCell (p := ⟨p, 0, none⟩) hBp _, b', cap', g', ?_, ⟨(ob.set 0 _).congr (fun j hj => ?_), r1.setOther (fun e => hne e.symm) _, by omega, by omega, r3, hne⟩, r4, fun j h1 h2 => r5 j h1 (by omega), ?_⟩
  · rcases r6 with rfl | rfl
    · exact .inl rfl
    · exact .inr (Nat.le_refl _)
  · by_cases e : j = 0
    · rw [if_pos e, if_pos e, show 4096 * (k + n) = 4096 * k + 4096 * n by omega]
    · simp only [if_neg e]
  · exact Kept.setCell (p := ⟨p, 0, none⟩) ⟨r7.size, fun i hi hs => r8 i (fun e => hs (.inl e)) hi⟩ (.inl (.inr rfl)) _
set_option maxHeartbeats 4000000 in
set_option maxRecDepth 100000 in
/-- The document's Grow: the list stays. -/
theorem refgrow_yes (n m a : Nat) (A : Option Addr) (ln c : Nat) (w : World) (hn : n + a ≤ m) (hm : m ≤ 16) :
    Calls Try.prog 12 #[.agg #[.int .i64 n, .int .i64 m, .slice A ln c], .int .u64 a] w fun e w' => e = .returned (.tuple #[.agg #[.int .i64 ((n : Int) + (a : Int)), .int .i64 m, .slice A ln c], .int .i64 n]) ∧ Below w.heap.size w w' := by
  go_enter Try.func12, Try.ntmps12
  go_wp2
  exact bodyPost_ret (v := .tuple #[.agg #[.int .i64 ((n : Int) + (a : Int)), .int .i64 m, .slice A ln c], .int .i64 n]) (by simp [results, Try.results12, go_sem]) rfl ⟨rfl, below_alloc (below_alloc (Below.refl _ _) _) _⟩
set_option maxHeartbeats 4000000 in
set_option maxRecDepth 100000 in
theorem refgrow_no (n m : Nat) (a : Nat) (A : Option Addr) (ln c : Nat) (w : World) (hn : ¬ n + a ≤ m) (hnm : n ≤ m) (hm : m ≤ 16) (ha : a < 18446744073709551616) :
    Calls Try.prog 12 #[.agg #[.int .i64 n, .int .i64 m, .slice A ln c], .int .u64 a] w fun e w' => e = .returned (.tuple #[.agg #[.int .i64 n, .int .i64 m, .slice A ln c], .int .i64 (-1)]) ∧ Below w.heap.size w w' := by
  by_cases h1 : m < a
  · go_enter Try.func12, Try.ntmps12
    go_wp2
    all_goals exact bodyPost_ret (v := .tuple #[.agg #[.int .i64 n, .int .i64 m, .slice A ln c], .int .i64 (-1)]) (by simp [results, Try.results12, go_sem]) rfl ⟨rfl, below_alloc (below_alloc (Below.refl _ _) _) _⟩
  · go_enter Try.func12, Try.ntmps12
    go_wp2
    all_goals exact bodyPost_ret (v := .tuple #[.agg #[.int .i64 n, .int .i64 m, .slice A ln c], .int .i64 (-1)]) (by simp [results, Try.results12, go_sem]) rfl ⟨rfl, below_alloc (below_alloc (Below.refl _ _) _) _⟩
end Go.Proofs.Ytocjneilaabnnaa.M
