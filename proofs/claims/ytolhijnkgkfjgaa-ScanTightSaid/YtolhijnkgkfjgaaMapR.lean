/- Maps from int to rows of int. -/
import Derived.Test.YtolhijnkgkfjgaaValid
import Derived.Test.YtolhijnkgkfjgaaWKept
import Derived.Maps.OwnSet
import Derived.Maps.OwnOps
namespace Go.Proofs.Ytolhijnkgkfjgaa.XC
open Go Go.RowKit Go.Maps Go.Proofs.YtolhijnkgkfjgaaW.PrintWords Go.Proofs.YtolhijnkgkfjgaaW.PrintLast Go.Proofs.YtolhijnkgkfjgaaW.PrintMore
set_option linter.unusedVariables false
theorem mlaw : Keyed Try.prog 3 := int_keyed Try.underlying3
abbrev WfI (x : Int) : Prop := (Lit.int .i64 x).wf = true
abbrev heldR : Value → Option (DataW Value × List MemPlace) := fun v => some (.held v, [])
theorem zeroIs (w : World) : (zeroValue 29).run Try.prog w = .ok nilS w := by kernel_rfl
/-- Block b is a map from int to values of at most n entries: vs. -/
def MM (w : World) (b n : Nat) (vs : Int → Value) : Prop := ∃ D : DataW Value, w.ownsMap Try.prog 3 heldR b n D ∧ ∀ x, WfI x → D.atKey (.int .i64 x) (.held nilS) = .held (vs x)
theorem MM.block {w w' : World} {b n : Nat} {vs : Int → Value} (h : MM w b n vs) (hb : w'.heap[b]? = w.heap[b]?) : MM w' b n vs := by
  obtain ⟨D, ⟨es, clock, h1, h2⟩, h3⟩ := h
  exact ⟨D, ⟨es, clock, hb.trans h1, h2⟩, h3⟩
theorem MM.lt {w : World} {b n : Nat} {vs : Int → Value} (h : MM w b n vs) : b < w.heap.size := by
  obtain ⟨D, h1, _⟩ := h
  exact h1.lt
theorem MM.ne_cells {w : World} {b n g : Nat} {vs : Int → Value} {cs : Array Value} {t : TypeId} {fz : Nat × Nat} (h : MM w b n vs) (hg : w.heap[g]? = some (.cells cs t fz)) : b ≠ g := by
  rintro rfl
  obtain ⟨D, ⟨es, clock, h1, h2⟩, _⟩ := h
  rw [h1] at hg
  cases hg
theorem MM.made (w : World) : MM (w.alloc (.map #[] 0)) w.heap.size 0 (fun _ => nilS) := ⟨.map [], World.ownsMap_made w _ _ _, fun x _ => rfl⟩
theorem MM.look {w : World} {b n : Nat} {vs : Int → Value} (h : MM w b n vs) (z : Int) (hz : WfI z) : (Instr.lookup 66 (.map (some b)) (.int .i64 z) false).run Try.prog w = .ok (vs z) w := by
  obtain ⟨D, h1, h2⟩ := h
  obtain ⟨v, ps, hrun, hv⟩ := h1.lookup mlaw Try.underlying66 (zeroIs w) (show heldR nilS = some (.held nilS, []) from rfl) (keyOf_int_mk Try.underlying3 hz)
  rw [h2 z hz] at hv
  have : v = vs z := by
    simp only [heldR, Option.some.injEq, Prod.mk.injEq, DataW.held.injEq] at hv
    exact hv.1
  rw [this] at hrun
  exact hrun
theorem isKey (x : Int) (h : WfI x) : WideAt.IsKeyLit (.int .i64 x) := mlaw.key (keyOf_int_mk Try.underlying3 h)
theorem MM.upd {w : World} {b n : Nat} {vs : Int → Value} (h : MM w b n vs) (hn : n < 1000000000) (z : Int) (hz : WfI z) (v : Value) : ∃ w', (Instr.mapUpdate 66 (.map (some b)) (.int .i64 z) v).run Try.prog w = .ok () w' ∧ MM w' b (n + 1) (fun y => if y = z then v else vs y) ∧ w.grownBy w' (some b) := by
  obtain ⟨D, h1, h2⟩ := h
  obtain ⟨w', hrun, h3, h4⟩ := h1.update mlaw Try.underlying66 (by unfold maxLen; omega) (keyOf_int_mk Try.underlying3 hz) (show heldR v = some (.held v, []) from rfl)
  refine ⟨w', hrun, ⟨_, h3, fun y hy => ?_⟩, h4⟩
  dsimp only
  by_cases e : y = z
  · subst e
    rw [if_pos rfl, atKey_put_same h1.isMap (isKey y hy)]
  · rw [if_neg e, atKey_put_other (fun h => e (by injection h))]
    exact h2 y hy
/-- The members so far of each place. -/
def rowsF (at_ : List Int) (i : Nat) (x : Int) : List Int := ((List.range i).map fun (j : Nat) => (j : Int)).filter fun o => rd at_ o == x
theorem rowsF_succ (at_ : List Int) (i : Nat) (x : Int) : rowsF at_ (i + 1) x = if x = rd at_ (i : Int) then rowsF at_ i x ++ [(i : Int)] else rowsF at_ i x := by
  unfold rowsF
  rw [List.range_succ, List.map_append, List.filter_append]
  by_cases e : x = rd at_ (i : Int)
  · rw [if_pos e]
    simp [e]
  · rw [if_neg e]
    simp [Ne.symm e]
theorem rowsF_mem {at_ : List Int} {i : Nat} {x o : Int} (h : o ∈ rowsF at_ i x) : 0 ≤ o ∧ o < (i : Int) ∧ rd at_ o = x := by
  unfold rowsF at h
  rw [List.mem_filter, List.mem_map] at h
  obtain ⟨⟨j, hj, rfl⟩, h2⟩ := h
  rw [List.mem_range] at hj
  exact ⟨by omega, by omega, by simpa using h2⟩
theorem rowsF_len (at_ : List Int) (i : Nat) (x : Int) : (rowsF at_ i x).length ≤ i := by
  unfold rowsF
  refine Nat.le_trans (List.length_filter_le _ _) ?_
  rw [List.length_map, List.length_range]
  exact Nat.le_refl _
structure MR (w0 w : World) (b i : Nat) (vs : Int → Value) (at_ : List Int) : Prop where
  mm : MM w b i vs
  row : ∀ x, RI w w0.heap.size (vs x) (rowsF at_ i x)
  ap : ∀ x y g, x ≠ y → (vs x).ownBlock = some g → (vs y).ownBlock ≠ some g
  bl : Below w0.heap.size w0 w
  hb : w0.heap.size ≤ b
theorem MR.below {w0 w w' : World} {b i : Nat} {vs : Int → Value} {at_ : List Int} (h : MR w0 w b i vs at_) (hb : Below w.heap.size w w') : MR w0 w' b i vs at_ :=
  ⟨h.mm.block (hb.block b h.mm.lt), fun x => Kd.R_below (h.row x) hb, h.ap, below_step h.bl hb, h.hb⟩
theorem MR.made (w0 w : World) (at_ : List Int) (hb : Below w0.heap.size w0 w) : MR w0 (w.alloc (.map #[] 0)) w.heap.size 0 (fun _ => nilS) at_ :=
  ⟨MM.made w, fun x => Kd.R_nil _ _ _ _ _, fun x y g _ h => (by cases h), below_step hb (below_alloc (Below.refl _ _) _), hb.size⟩
theorem MR.put {w0 w w1 w2 : World} {b i : Nat} {vs : Int → Value} {at_ : List Int} {v : Value} (h : MR w0 w b i vs at_) (h1 : RI w1 w0.heap.size v (rowsF at_ i (rd at_ (i : Int)) ++ [(i : Int)])) (hb1 : Below w0.heap.size w0 w1) (hg1 : w.grownBy w1 (vs (rd at_ (i : Int))).ownBlock) (hn : NewOr w (vs (rd at_ (i : Int))) v) (h2 : MM w2 b (i + 1) (fun y => if y = rd at_ (i : Int) then v else vs y)) (hg2 : w1.grownBy w2 (some b)) : MR w0 w2 b (i + 1) (fun y => if y = rd at_ (i : Int) then v else vs y) at_ := by
  have hbm : MM w1 b i vs := h.mm.block (hg1.block b h.mm.lt (fun e => by
    obtain ⟨cells, hc⟩ := Kd.R_typed (h.row (rd at_ (i : Int))) b e.symm
    exact h.mm.ne_cells hc rfl))
  have far : ∀ x g, (if x = rd at_ (i : Int) then v else vs x).ownBlock = some g → w2.heap[g]? = w1.heap[g]? ∧ g < w1.heap.size := fun x g hg => by
    by_cases e : x = rd at_ (i : Int)
    · rw [if_pos e] at hg
      have hl := Kd.R_lt h1 g hg
      obtain ⟨cells, hc⟩ := Kd.R_typed h1 g hg
      exact ⟨hg2.block g hl (fun e2 => hbm.ne_cells hc (by injection e2 with e2; exact e2.symm)), hl⟩
    · rw [if_neg e] at hg
      have hl := Kd.R_lt (h.row x) g hg
      obtain ⟨cells, hc⟩ := Kd.R_typed (h.row x) g hg
      exact ⟨hg2.block g (Nat.lt_of_lt_of_le hl hg1.size) (fun e2 => h.mm.ne_cells hc (by injection e2 with e2; exact e2.symm)), Nat.lt_of_lt_of_le hl hg1.size⟩
  refine ⟨h2, fun x => ?_, fun x y g hne hg => ?_, ?_, h.hb⟩
  · rw [rowsF_succ]
    by_cases e : x = rd at_ (i : Int)
    · rw [if_pos e, if_pos e, e]
      exact Kd.R_mono (Kd.R_move (Kd.R_tight rfl h1) (fun k hk => (far x k (by rw [if_pos e]; exact hk.symm)).1)) (fun _ _ => trivial)
    · rw [if_neg e, if_neg e]
      refine Kd.R_mono (Kd.R_move (Kd.R_tight rfl (h.row x)) (fun k hk => ?_)) (fun _ _ => trivial)
      rw [(far x k (by rw [if_neg e]; exact hk.symm)).1]
      exact hg1.block k (Kd.R_lt (h.row x) k hk.symm) (fun e2 => h.ap x _ k e hk.symm e2.symm)
  · show (if y = rd at_ (i : Int) then v else vs y).ownBlock ≠ some g
    by_cases e : x = rd at_ (i : Int)
    · rw [if_pos e] at hg
      rw [if_neg (fun e2 => hne (e.trans e2.symm))]
      intro h3
      rcases hn g hg with h4 | h4
      · exact h.ap _ y g (fun e2 => hne (e.trans e2)) h4 h3
      · have := Kd.R_lt (h.row y) g h3; omega
    · rw [if_neg e] at hg
      by_cases e2 : y = rd at_ (i : Int)
      · rw [if_pos e2]
        intro h3
        rcases hn g h3 with h4 | h4
        · exact h.ap x _ g e hg h4
        · have := Kd.R_lt (h.row x) g hg; omega
      · rw [if_neg e2]; exact h.ap x y g hne hg
  · exact hb1.grown hg2 hb1.size (fun k hk => by cases hk; exact h.hb)
end Go.Proofs.Ytolhijnkgkfjgaa.XC
