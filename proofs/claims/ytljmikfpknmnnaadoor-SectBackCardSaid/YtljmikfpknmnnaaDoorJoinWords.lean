/- The bytes that sect.Join lays: the row that '[]byte(head)' leaves (full; the run-time marks its end), or a row of the call's own. -/
import Derived.Test.YtljmikfpknmnnaaDoorXSx6
namespace Go.Proofs.YtljmikfpknmnnaaDoor.XS
open Go.RowKit Go.Proofs.YtljmikfpknmnnaaDoorW.PrintWords Go.Proofs.YtljmikfpknmnnaaDoorW.PrintLast Go.Proofs.YtljmikfpknmnnaaDoorW.PrintMore
set_option linter.unusedVariables false
set_option linter.unusedSimpArgs false
def JR (w : World) (base : Nat) (ok : Nat → Prop) (v : Value) (xs : List Int) : Prop :=
  Kd.R (Kd.int .u8) 5 w base ok v xs ∨ ∃ g fz, v = .slice (some ⟨g, 0, none⟩) xs.length xs.length ∧ ok g ∧ base ≤ g ∧ xs.length ≤ 100 ∧ w.heap[g]? = some (.cells (xs.map (Value.int .u8)).toArray 5 fz)
section
variable {w w1 : World} {base : Nat} {ok ok' : Nat → Prop} {v : Value} {xs : List Int}
theorem JR_step (h : JR w base ok v xs) (hm : ∀ k, ok k → k < w.heap.size → w1.heap[k]? = w.heap[k]?) : JR w1 base ok v xs :=
  h.elim (fun h => .inl (Kd.R_step h hm)) (fun ⟨g, fz, a, b, c, d, e⟩ => .inr ⟨g, fz, a, b, c, d, (hm g b (blk_lt e)).trans e⟩)
theorem JR_mono (h : JR w base ok v xs) (hok : ∀ k, ok k → ok' k) : JR w base ok' v xs :=
  h.elim (fun h => .inl (Kd.R_mono h hok)) (fun ⟨g, fz, a, b, c, d, e⟩ => .inr ⟨g, fz, a, hok g b, c, d, e⟩)
theorem JR_lower {base' : Nat} (h : JR w base ok v xs) (hb : base' ≤ base) : JR w base' ok v xs :=
  h.elim (fun h => .inl (Kd.R_lower h hb)) (fun ⟨g, fz, a, b, c, d, e⟩ => .inr ⟨g, fz, a, b, Nat.le_trans hb c, d, e⟩)
theorem JR_below (h : JR w base ok v xs) (hb : Below w.heap.size w w1) : JR w1 base ok v xs := JR_step h (fun k _ hk => hb.block k hk)
theorem JR_alloc (h : JR w base ok v xs) (o : Obj) : JR (w.alloc o) base ok v xs := JR_below h (below_alloc (Below.refl _ _) o)
theorem JR_drew (h : JR w base ok v xs) : JR w.drew base ok v xs := JR_below h (below_drew (Below.refl _ _))
theorem JR_drewN (h : JR w base ok v xs) (m : Nat) : JR (w.drewN m) base ok v xs := JR_below h (pw_below_drewN (Below.refl _ _) m)
theorem JR_far (h : JR w base ok v xs) {p : Addr} (hok : ∀ k, ok k → k ≠ p.block) (u : Value) : JR (w.setCell p u) base ok v xs := JR_step h (fun k ho _ => Below.heap_setCell w p u k (hok k ho))
theorem JR_types (h : JR w base ok v xs) {g t : Nat} {cells : Array Value} (hb : w.heap[g]? = some (.cells cells t (0, 0))) (ht : 5 ≠ t) : JR w base (fun k => ok k ∧ k ≠ g) v xs := by
  rcases h with h | ⟨g1, fz, a, b, c, d, e⟩
  · exact .inl (Kd.R_types h hb (by
      intro q hq
      have : q = 5 := by simpa [Kd.int, Kd.scalar] using hq
      subst this
      exact ht))
  · refine .inr ⟨g1, fz, a, ⟨b, ?_⟩, c, d, e⟩
    rintro rfl
    rw [hb] at e
    injection e with e
    injection e with _ e
    exact ht e.symm
theorem JR_ne (h : JR w base ok v xs) {g t : Nat} {cells : Array Value} (hb : w.heap[g]? = some (.cells cells t (0, 0))) (ht : 5 ≠ t) : some g ≠ v.ownBlock := by
  rcases h with h | ⟨g1, fz, rfl, b, c, d, e⟩
  · exact Kd.R_ne h hb ht
  · intro h1
    simp only [Value.ownBlock, Option.some.injEq] at h1
    subst h1
    rw [hb] at e
    injection e with e
    injection e with _ e
    exact ht e.symm
theorem JR_slice (h : JR w base ok v xs) : ∃ A c, v = .slice A xs.length c := h.elim Kd.R_slice (fun ⟨g, fz, a, _⟩ => ⟨_, _, a⟩)
theorem JR_lt (h : JR w base ok v xs) : ∀ k, v.ownBlock = some k → k < w.heap.size := by
  rcases h with h | ⟨g, fz, rfl, b, c, d, e⟩
  · exact Kd.R_lt h
  · intro k hk
    simp only [Value.ownBlock, Option.some.injEq] at hk
    subst hk
    exact blk_lt e
theorem JR_reads' {A : Option Addr} {n c : Nat} (h : JR w base ok (.slice A n c) xs) : n = xs.length ∧ n ≤ c ∧ Kd.C (Kd.int .u8) w A xs.length xs := by
  rcases h with h | ⟨g, fz, a, b, c1, d, e⟩
  · exact Kd.R_reads' h
  · injection a with a1 a2 a3
    subst a1
    exact ⟨a2, by omega, C_lit w g xs 5 fz e (by omega)⟩
theorem JR_V (h : JR w base (fun _ => True) v xs) : Kd.V (Kd.int .u8) 5 w base (fun k_ => base ≤ k_) v xs := by
  rcases h with h | ⟨g, fz, rfl, b, c, d, e⟩
  · obtain ⟨A, c, rfl⟩ := Kd.R_slice h
    exact Kd.V_mk (Kd.R_reads' h).2.1 (Kd.R_F (Kd.R_mono (Kd.R_bound h) (fun _ hk => hk.2.1)))
  · refine Kd.V_mk (Nat.le_refl _) (fun W' hW => ?_)
    exact C_lit W' g xs 5 fz ((hW g c (blk_lt e)).trans e) (by omega)
end
section
variable {P : Program} {ops : Array Oper} {o : Oper} {a : Act} {Q : Exit → Act → World → Prop} {Kc : Act → World → Prop}
theorem JR_append_step {w0 W : World} (base : Nat) (hw : Region.wanted o (yielded ops a.tmps) = true) (s x : Operand) (t : TypeId)
    (ho : o.op = .call { callee := .builtin .append, args := #[s, x], argTypes := #[t, t] })
    (ht : P.underlying t = some (.slice 5)) (hinfo : (P.info? 5).map (fun i => (i.zero, i.size, i.bytes)) = some (some (.int .u8 0), 1, 1))
    (v : Value) (xs : List Int) (p : Int) (hs : a.eval s = v) (hx : a.eval x = .slice (some ⟨W.heap.size, 0, none⟩) 1 1)
    (HO : JR W base (fun _ => True) v xs) (HB : Below base w0 W) (hbase : base ≤ W.heap.size) (hl : (xs.length + 1) * 1 ≤ 140737488355328)
    (h : ∀ v1 w1, Kd.R (Kd.int .u8) 5 w1 base (fun _ => True) v1 (xs ++ [p]) → Below base w0 w1 → W.grownBy w1 v.ownBlock → (v1.ownBlock = v.ownBlock ∨ ∃ b, v1.ownBlock = some b ∧ W.heap.size ≤ b) → Kc (a.put o.dst v1) w1) :
    if Region.wanted o (yielded ops a.tmps) = true then Oper.wp P o a (W.alloc (.cells ([Value.int .u8 p] : List Value).toArray 5)) Kc Q else Kc (a.put o.dst undef) (W.alloc (.cells ([Value.int .u8 p] : List Value).toArray 5)) := by
  rcases HO with HO | ⟨g, fz, rfl, _, hg, hn, hh⟩
  · exact Kd.R_append_step (Kd.int .u8) base hw s x t 5 (.int .u8 0) 1 ho ht hinfo rfl (by decide) (by omega) v xs p [.int .u8 p] (fun _ => True) (fun _ => False) hs hx rfl (fun _ hk => hk.elim) (fun _ _ => trivial) HO HB hbase hl h
  · obtain ⟨i0, hi, hzz⟩ := Option.map_eq_some_iff.1 hinfo
    simp only [Prod.mk.injEq] at hzz
    obtain ⟨hz0, hz1, hz2⟩ := hzz
    rw [if_pos hw]
    have hcells : ∀ j u, (xs.map (Value.int .u8))[j]? = some u → (W.alloc (.cells ([Value.int .u8 p] : List Value).toArray 5)).cell? ((⟨g, 0, none⟩ : Addr).add j) = some u := by
      intro j u hu
      have e1 : (⟨g, 0, none⟩ : Addr).add j = ⟨g, j, none⟩ := by unfold Addr.add; split <;> simp_all
      have e2 : (W.alloc (.cells ([Value.int .u8 p] : List Value).toArray 5)).heap[g]? = some (.cells (xs.map (Value.int .u8)).toArray 5 fz) := (heap_alloc_old W _ (blk_lt hh)).trans hh
      rw [e1, cell_of_row _ g j _ 5 fz e2]
      simpa using hu
    have hr := run_append_grow (P := P) (W.alloc (.cells ([Value.int .u8 p] : List Value).toArray 5)) t o.type 5 i0 (.int .u8 0) ht hi hz0 ⟨g, 0, none⟩ xs.length xs.length (xs.map (Value.int .u8)) (by rw [hz1, List.length_map, Nat.mul_one]) hcells
      ⟨W.heap.size, 0, none⟩ 1 1 [Value.int .u8 p] (by rw [hz1]; rfl)
      (by simpa using World.news_of_block (cs := ([Value.int .u8 p] : List Value).toArray) (t := 5) (fr := (0, 0)) (heap_alloc_new W (.cells ([Value.int .u8 p] : List Value).toArray 5))) (by omega) (by omega) (by rw [hz2]; exact growslice_fits (by omega) (by omega))
    unfold Oper.wp execOp
    simp only [ho, resolve, invoke, builtin, Sem.run_bind, Sem.run_pure, Result.andThen_ok, List.map_toArray, List.map_cons, List.map_nil, hs, hx, hr]
    have hge := grownCap_ge (W.alloc (.cells ([Value.int .u8 p] : List Value).toArray 5)) (xs.length + 1) xs.length 5
    have hcm := grownCap_le_maxLen (W.alloc (.cells ([Value.int .u8 p] : List Value).toArray 5)) (xs.length + 1) xs.length 5 (by simp only [maxLen]; omega)
    have hown : ((W.alloc (.cells ([Value.int .u8 p] : List Value).toArray 5)).drew.alloc (.cells ((xs.map (Value.int .u8)).toArray ++ [Value.int .u8 p].toArray ++ Builtin.zeroCells (Value.int .u8 0).cells (grownCap (W.alloc (.cells ([Value.int .u8 p] : List Value).toArray 5)) (xs.length + 1) xs.length 5 - (xs.length + 1))) 5)).ownsRow base 5 1
        (.slice (some ⟨(W.alloc (.cells ([Value.int .u8 p] : List Value).toArray 5)).heap.size, 0, none⟩) (xs.length + 1) (grownCap (W.alloc (.cells ([Value.int .u8 p] : List Value).toArray 5)) (xs.length + 1) xs.length 5)) (xs ++ [p]).length (encs (Value.int .u8) (xs ++ [p])) := by
      have hz1 : (Value.int IntKind.u8 0).cells.size = 1 := rfl
      refine ⟨by rw [encs_length, Nat.mul_one], .inr ⟨_, grownCap (W.alloc (.cells ([Value.int .u8 p] : List Value).toArray 5)) (xs.length + 1) xs.length 5, _, by rw [List.length_append, List.length_singleton]; rfl, by simp; omega, heap_alloc_new (W.alloc (.cells ([Value.int .u8 p] : List Value).toArray 5)).drew _, by rw [List.length_append, List.length_singleton]; exact hge, hcm, ?_, ?_⟩⟩
      · simp only [Array.size_append, List.size_toArray, size_zeroCells, hz1, List.length_map, List.length_singleton]
        omega
      · simp only [Array.toList_append, List.append_assoc]
        rw [← List.append_assoc, List.take_append_of_le_length (by simp)]
        rw [List.take_of_length_le (by simp)]
        simp [encs]
    have hgr : (W.alloc (.cells ([Value.int .u8 p] : List Value).toArray 5)).grownBy ((W.alloc (.cells ([Value.int .u8 p] : List Value).toArray 5)).drew.alloc (.cells ((xs.map (Value.int .u8)).toArray ++ [Value.int .u8 p].toArray ++ Builtin.zeroCells (Value.int .u8 0).cells (grownCap (W.alloc (.cells ([Value.int .u8 p] : List Value).toArray 5)) (xs.length + 1) xs.length 5 - (xs.length + 1))) 5)) (Value.ownBlock (.slice (some ⟨g, 0, none⟩) xs.length xs.length)) :=
      ⟨rfl, rfl, rfl, by simp, fun k hk _ => heap_alloc_old (W.alloc (.cells ([Value.int .u8 p] : List Value).toArray 5)).drew _ hk⟩
    refine h _ _ (Kd.R_of_own (h1 := fun _ => rfl) hown (fun _ _ => trivial)) ((HB.alloc hbase _).grown hgr (by simp; omega) (fun k hk => ?_)) (World.grownBy.trans (World.grownBy_alloc W _ _) hgr) (.inr ⟨_, rfl, by simp⟩)
    simp only [Value.ownBlock, Option.some.injEq] at hk
    omega
end
end Go.Proofs.YtljmikfpknmnnaaDoor.XS
