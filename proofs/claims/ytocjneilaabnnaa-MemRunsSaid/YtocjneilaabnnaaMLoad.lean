/- Layer 3: (*Memory).Load at a memory: slices.Backward's closure, walked; then the loop over it. -/
import Derived.Test.YtocjneilaabnnaaMSpan
import Derived.RangeFuncNested
import Derived.RangeFuncBound
import Derived.RangeFuncCalls
import Derived.RangeFuncLeaves
import Derived.RangeFuncBox
import Derived.Shelf.Abstract
import Derived.Shelf.RegionOpen
import Derived.OwnWalkIn
import Derived.TacticsInMore
import Derived.LoopNIn
import Derived.LoopIn
namespace Go.Proofs.Ytocjneilaabnnaa.M
open Go Go.RowKit Go.Shelf Go.Proofs.YtocjneilaabnnaaW.PrintWords
set_option linter.unusedVariables false
set_option linter.unusedSimpArgs false
attribute [local go_sem] Oper.semAt_some
/-- What has come when k rounds are over: from the last byte on down. -/
def dn (zs : Nat → Int) (len k : Nat) : List (Int × Int) := (List.range k).map fun j => (((len - 1 - j : Nat) : Int), zs (len - 1 - j))
theorem dn_succ (zs : Nat → Int) (len k : Nat) : dn zs len (k + 1) = dn zs len k ++ [(((len - 1 - k : Nat) : Int), zs (len - 1 - k))] := by simp [dn, List.range_succ]
theorem dn_length (zs : Nat → Int) (len k : Nat) : (dn zs len k).length = k := by simp [dn]
/-- What a round keeps: all below n₀, and the block Bs. -/
structure Keep (n₀ Bs : Nat) (W W' : World) : Prop where
  bel : Below n₀ W W'
  box : W'.heap[Bs]? = W.heap[Bs]?
theorem Keep.refl (n₀ Bs : Nat) (W : World) : Keep n₀ Bs W W := ⟨Below.refl _ _, rfl⟩
theorem Keep.trans {n₀ Bs : Nat} {A B C : World} (h : Keep n₀ Bs A B) (k : Keep n₀ Bs B C) : Keep n₀ Bs A C := ⟨h.bel.trans k.bel, k.box.trans h.box⟩
theorem Keep.put {n₀ Bs : Nat} {w : World} (hn : n₀ ≤ w.heap.size) (hb : Bs < w.heap.size) (W : World) (l : Nat) (o o' : Obj) (h1 : w.heap.size ≤ l) (h2 : W.heap[l]? = some o) (h3 : o.isCells = false) (h4 : o.isWalk = false) : Keep n₀ Bs W (W.putObj l o') := by
  refine ⟨belowK_b hn W l o o' h1 h2 h3 h4, ?_⟩
  have := (belowK_b (n₀ := Bs + 1) (w := w) hb W l o o' h1 h2 h3 h4).block Bs (by omega)
  exact this
theorem Keep.cell {n₀ Bs : Nat} {W W' : World} (h : Keep n₀ Bs W W') : W'.cell? ⟨Bs, 0, none⟩ = W.cell? ⟨Bs, 0, none⟩ := World.cell?_of_block (w := W) h.box
set_option maxRecDepth 100000 in
set_option maxHeartbeats 2000000 in
/-- slices.Backward's closure, for every loop body that keeps what lay below n₀. -/
theorem back1_in (F : Fence) (n : Nat) (h24 : F.fn 24) (hro : F.round = none) (hn : 1 ≤ n) (l Bs n₀ b off len cap : Nat) (zs : Nat → Int) (hreach : len ≤ 140737488351232) (hb : b < n₀) (J Jx : List (Int × Int) → World → Prop)
    (hY : ∀ pre x W, J pre W → pre.length < len → YieldAt F (n - 1) Try.prog l #[.int .i64 x.1, .int .u8 x.2] W fun e W' =>
      (e = .returned (.bool true) ∧ J (pre ++ [x]) W' ∧ Keep n₀ Bs W W') ∨ (e = .returned (.bool false) ∧ Jx (pre ++ [x]) W'))
    (W : World) (hBs : W.cell? ⟨Bs, 0, none⟩ = some (.slice (some ⟨b, off, none⟩) len cap)) (hc : ∀ j, j < len → W.cell? ⟨b, off + j, none⟩ = some (.int .u8 (zs j))) (h0 : J [] W) :
    CallsIn F n Try.prog 24 #[.func (.yield l) #[] #[], .pointer (some ⟨Bs, 0, none⟩)] W fun e W' => (∃ v, e = .returned v) ∧
      ((∃ ys, ys = dn zs len len ∧ J ys W') ∨ (∃ pre, (∃ k, k ≤ len ∧ pre = dn zs len k) ∧ Jx pre W')) := by
  refine callsIn_of_wp Try.func24 rfl h24 ?_ hro
  simp only [Try.ntmps24, List.size_toArray, List.length_cons, List.length_nil, Nat.reduceAdd, Nat.reduceSub, Array.replicate_succ, Array.replicate_zero, List.push_toArray, List.append_toArray, List.nil_append, List.cons_append]
  gi_wp2
  gi_loopw [3] (fun i wr => ∃ k : Nat, k ≤ len ∧ i = .int .i64 ((len : Int) - 1 - k) ∧ J (dn zs len k) wr ∧ Keep n₀ Bs W wr)
    (fun i _ => (intOf i + 1).toNat)
  case atStart => exact ⟨0, Nat.zero_le _, by simp, h0, Keep.refl _ _ _⟩
  case round =>
    obtain ⟨k, hk, rfl, hJs, hnx⟩ := hrel
    have hBx : wr.cell? ⟨Bs, 0, none⟩ = some (.slice (some ⟨b, off, none⟩) len cap) := hnx.cell.trans hBs
    by_cases hlt : k < len
    · obtain ⟨m, hm⟩ : ∃ m : Nat, len = m + k + 1 := ⟨len - k - 1, by omega⟩
      have hme : (len : Int) - 1 - k = (m : Int) := by omega
      have hme2 : len - 1 - k = m := by omega
      have hcx : wr.cell? ⟨b, off + m, none⟩ = some (.int .u8 (zs m)) := (hnx.bel.cell (p := ⟨b, off + m, none⟩) hb).trans (hc m (by omega))
      obtain ⟨fn, tmps, assign, body, hy, hR⟩ := hY _ ((m : Int), zs m) wr hJs (by rw [dn_length]; exact hlt)
      dsimp only at hy
      rw [hme]
      have hml : m < len := by omega
      have hmk : k = len - 1 - m := by omega
      have HMK := Aside0.mk hmk
      have HME := Aside0.mk hme
      have HME2 := Aside0.mk hme2
      clear hm hme hme2 hmk
      gi_wp2
      refine hR.mono ?_
      rintro e W3 (⟨rfl, hJ3, hk3⟩ | ⟨rfl, hJx3⟩)
      · gi_wp2
        go_roundw
        case rel => exact ⟨k + 1, by omega, by have := HME.out; simp; omega, by rw [dn_succ, HME2.out]; exact hJ3, hnx.trans hk3⟩
        case measure => simp [intOf]; try omega
      · gi_wp2
        refine bodyPost_ret (results_none rfl _ _ _) rfl ?_
        exact ⟨⟨_, rfl⟩, .inr ⟨_, ⟨k + 1, by omega, by rw [dn_succ, HME2.out]⟩, hJx3⟩⟩
    · obtain rfl : k = len := by omega
      rw [show (k : Int) - 1 - k = -1 by omega]
      gi_wp2
      go_end0
      exact ⟨⟨_, rfl⟩, .inl ⟨_, rfl, hJs⟩⟩
set_option maxRecDepth 100000 in
set_option maxHeartbeats 1000000 in
theorem back1_nil_in (F : Fence) (n : Nat) (h24 : F.fn 24) (hro : F.round = none) (l Bs : Nat) (J : List (Int × Int) → World → Prop) (W : World) (hBs : W.cell? ⟨Bs, 0, none⟩ = some (.slice none 0 0)) (h0 : J [] W) :
    CallsIn F n Try.prog 24 #[.func (.yield l) #[] #[], .pointer (some ⟨Bs, 0, none⟩)] W fun e W' => (∃ v, e = .returned v) ∧ J [] W' := by
  refine callsIn_of_wp Try.func24 rfl h24 ?_ hro
  simp only [Try.ntmps24, List.size_toArray, List.length_cons, List.length_nil, Nat.reduceAdd, Nat.reduceSub, Array.replicate_succ, Array.replicate_zero, List.push_toArray, List.append_toArray, List.nil_append, List.cons_append]
  gi_wp2
  gi_loopw [3] (fun i wr => i = .int .i64 (-1) ∧ J [] wr) (fun _ _ => 0)
  case atStart => exact ⟨rfl, h0⟩
  case round =>
    obtain ⟨rfl, hJs⟩ := hrel
    gi_wp2
    go_end0
    exact ⟨⟨_, rfl⟩, hJs⟩
set_option maxHeartbeats 1000000 in
theorem back_in (F : Fence) (n : Nat) (h19 : F.fn 19) (hro : F.round = none) (a : Option Addr) (len cap : Nat) (w : World) :
    CallsIn F n Try.prog 19 #[.slice a len cap] w fun e w' => e = .returned (.func (.func 24) #[] #[.pointer (some ⟨w.heap.size, 0, none⟩)]) ∧ w' = w.alloc (.cells #[.slice a len cap] 36) := by
  refine callsIn_of_wp Try.func19 rfl h19 ?_ hro
  simp only [Try.ntmps19, List.size_toArray, List.length_cons, List.length_nil, Nat.reduceAdd, Nat.reduceSub, Array.replicate_succ, Array.replicate_zero, List.push_toArray, List.append_toArray, List.nil_append, List.cons_append]
  gi_wp2
  go_ret
  exact ⟨rfl, rfl⟩
/-- The slice value sv holds the bytes zs 0, .., in a block below n₀; or it is nil and there are none. -/
def Bytes (n₀ : Nat) (W : World) (sv : Value) (len : Nat) (zs : Nat → Int) : Prop :=
  (sv = .slice none 0 0 ∧ len = 0) ∨ ∃ b off cap, sv = .slice (some ⟨b, off, none⟩) len cap ∧ b < n₀ ∧ ∀ j, j < len → W.cell? ⟨b, off + j, none⟩ = some (.int .u8 (zs j))
theorem Bytes.below {n₀ : Nat} {A B : World} (h : Below n₀ A B) {sv : Value} {len : Nat} {zs : Nat → Int} : Bytes n₀ A sv len zs → Bytes n₀ B sv len zs
  | .inl e => .inl e
  | .inr ⟨b, off, cap, e, hb, hc⟩ => .inr ⟨b, off, cap, e, hb, fun j hj => (h.cell (p := ⟨b, off + j, none⟩) hb).trans (hc j hj)⟩
theorem back_stops (F : Fence) (n : Nat) (h24 : F.fn 24) (hro : F.round = none) (hn : 1 ≤ n) (Bs n₀ : Nat) (sv : Value) (len : Nat) (zs : Nat → Int) (hreach : len ≤ 140737488351232) (w : World) (hBs : Bs < w.heap.size) (hn₀ : n₀ ≤ w.heap.size)
    (hc : w.cell? ⟨Bs, 0, none⟩ = some sv) (hI : Bytes n₀ w sv len zs) :
    SeqStopsK F n Try.prog 24 #[.pointer (some ⟨Bs, 0, none⟩)] (fun x : Int × Int => #[Value.int .i64 x.1, Value.int .u8 x.2]) (Keep n₀ Bs) (fun ys => ys = dn zs len len)
      (fun pre => ∃ k, k ≤ len ∧ pre = dn zs len k) len w := fun l J Jx W hW _ _ hY h0 => by
  have hc' := (hW.cell (p := ⟨Bs, 0, none⟩) hBs).trans hc
  rcases hI.below (hW.mono hn₀) with ⟨rfl, rfl⟩ | ⟨b, off, cap, rfl, hb, hcs⟩
  · exact (back1_nil_in F n h24 hro l Bs J W hc' h0).mono fun e W' ⟨he, hj⟩ => ⟨he, .inl ⟨_, rfl, hj⟩⟩
  · exact back1_in F n h24 hro hn l Bs n₀ b off len cap zs hreach hb J Jx hY W hc' hcs h0
def valD (l : List (Int × Int)) : Int := l.foldl (fun v c => bits .or .u64 (IntKind.u64.wrap (v * 256)) (IntKind.u64.wrap c.2)) 0
theorem valD_snoc (pre : List (Int × Int)) (x : Int × Int) : valD (pre ++ [x]) = bits .or .u64 (IntKind.u64.wrap (valD pre * 256)) (IntKind.u64.wrap x.2) := by simp [valD]
set_option maxRecDepth 100000 in
set_option maxHeartbeats 4000000 in
theorem load_in (P : Value) (x off size : Int) (sv : Value) (is : Bool) (len : Nat) (zs : Nat → Int) (hreach : len ≤ 140737488351232) (w : World)
    (S : Calls Try.prog 18 #[P, .int .u64 x, .int .u64 off, .int .i64 size] w fun e w' => e = .returned (.tuple #[sv, .bool is]) ∧ w' = w) (hsv : ∃ a l c, sv = .slice a l c) (hI : Bytes w.heap.size w sv len zs) :
    Calls Try.prog 9 #[P, .int .u64 x, .int .u64 off, .int .i64 size] w fun e w' => e = .returned (.tuple #[.int .u64 (valD (dn zs len len)), .bool is]) ∧ Below w.heap.size w w' := by
  refine (callsIn_wide (n := 3)).1 ?_
  obtain ⟨a, ln, cp, rfl⟩ := hsv
  refine callsIn_of_wp_marks Try.func9 rfl trivial ?_ rfl
  simp only [Try.ntmps9, List.size_toArray, List.length_cons, List.length_nil, Nat.reduceAdd, Nat.reduceSub, Array.replicate_succ, Array.replicate_zero, List.push_toArray, List.append_toArray, List.nil_append, List.cons_append]
  gi_wp2_with (first
    | (refine ⟨trivial, ?_⟩; gi_at_call 18; refine (callsIn_wide.2 S).mono ?_; rintro e w2 ⟨rfl, hw⟩; obtain rfl := hw.symm)
    | (refine ⟨trivial, ?_⟩; gi_at_call 19; refine (back_in Fence.wide 2 trivial rfl _ _ _ _).mono ?_; rintro e w' ⟨rfl, rfl⟩))
  have bV := Boxed.new w 22 (.int .u64 0)
  have bN := Boxed.new (w.alloc (.cells #[.int .u64 0] 22)) 36 (.slice a ln cp)
  rw [World.size_alloc] at bN
  have hB0 : Below w.heap.size w ((w.alloc (.cells #[.int .u64 0] 22)).alloc (.cells #[.slice a ln cp] 36)) := ((Below.refl _ w).alloc (Nat.le_refl _) _).alloc (by simp) _
  refine wpIn_rangeFunc_ownG rfl (by omega) (gf := 24) (lb := #[.pointer (some ⟨w.heap.size + 1, 0, none⟩)]) rfl trivial (enters_of Try.func24 (by kernel_rfl) rfl)
    (back_stops Fence.wide 2 trivial rfl (by omega) (w.heap.size + 1) w.heap.size _ len zs hreach _ (by simp) (by simp; omega) bN.cell (hI.below hB0)) (fun h k => h.trans k) (Keep.put (by simp; omega) (by simp)) (Below.refl _ _) (fun _ => rfl)
    (fun pre W => (W.cell? ⟨w.heap.size, 0, none⟩ = some (.int .u64 (valD pre)) ∧ W.frozen? ⟨w.heap.size, 0, none⟩ = false) ∧ Below w.heap.size w W)
    (fun _ _ _ => False)
    (OwnFrom.and (Own.from (fun s A B row hs hg hr => ⟨cell_kept hs.1 hg hr, (frozen_kept hs.1 hg hr).trans hs.2⟩) _) (ownFrom_below (Nat.le_refl _) (by simp; omega)))
    (fun _ _ _ _ _ hs _ _ => hs)
    ⟨⟨(bV.alloc _).cell, (bV.alloc _).frozen⟩, hB0⟩
    (fun q => { tmps := #[P, .int .u64 x, .int .u64 off, .int .i64 size, undef, undef, undef, undef, .int .u64 0, .bool false, .slice a ln cp, .bool is, .pointer (some ⟨w.heap.size, 0, none⟩), undef, .int .u8 q.2, .tuple #[.slice a ln cp, .bool is], P, .int .u64 x, .int .u64 off, .int .i64 size, .tuple #[.slice a ln cp, .bool is], .slice a ln cp, .bool is, .slice a ln cp, .func (.func 24) #[] #[.pointer (some ⟨w.heap.size + 1, 0, none⟩)], .int .i64 q.1, .int .u8 q.2, undef, undef, undef, undef, undef, undef, undef], defers := [] }) ?assign ?body ?done ?stop
  case assign =>
    intro l x W K hK
    gi_wp2
    exact hK
  case body =>
    rintro l pre x W ⟨⟨hc, hf⟩, hB⟩ _
    gi_wp2
    refine ⟨(KeepsOthers.setCell _ _ _).from _, ⟨(Below.refl w.heap.size W).setCell (p := ⟨w.heap.size, 0, none⟩) (Nat.le_refl _) _, Below.heap_setCell _ _ _ _ (by simp)⟩, ⟨by rw [valD_snoc]; exact World.cell?_setCell_same' _ _ _ (by rw [hc]; rfl), by rw [World.frozen?_setCell]; exact hf⟩, hB.setCell (p := ⟨w.heap.size, 0, none⟩) (Nat.le_refl _) _⟩
  case done =>
    rintro D ys W hD rfl ⟨⟨hc, _⟩, hB⟩ hK
    gi_wp2
    refine ⟨by simp, .inl ⟨_, _, rfl, run_takeDeferred hK, ?_⟩⟩
    refine ⟨.tuple #[.int .u64 (valD (dn zs len len)), .bool is], ?_, rfl, hB.trans (belowK_b (w := w) (Nat.le_refl _) W D _ _ (by simp at hD; omega) hK rfl rfl)⟩
    simp [results, Try.f9, go_sem]
  case stop =>
    rintro D c pre W _ _ h _
    exact h.elim
end Go.Proofs.Ytocjneilaabnnaa.M
