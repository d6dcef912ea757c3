/- The scanner: a register's row set anew, a place set. -/
import Derived.Test.YtolhijnkgkfjgaaMeets
namespace Go.Proofs.Ytolhijnkgkfjgaa.XC
open Go.RowKit Go.Proofs.YtolhijnkgkfjgaaW.PrintWords Go.Proofs.YtolhijnkgkfjgaaW.PrintLast Go.Proofs.YtolhijnkgkfjgaaW.PrintMore
set_option linter.unusedVariables false
set_option linter.unusedSimpArgs false
theorem heap_setCell_block {w : World} {g i t : Nat} {cells : Array Value} {fz : Nat × Nat} (h : w.heap[g]? = some (.cells cells t fz)) (v : Value) : (w.setCell ⟨g, i, none⟩ v).heap[g]? = some (.cells (cells.setIfInBounds i v) t fz) := by
  have hl := blk_lt h
  have he : w.heap[g]? = some w.heap[g] := Array.getElem?_eq_getElem hl
  rw [he] at h
  have h2 := Option.some.inj h
  have h3 : (w.setCell ⟨g, i, none⟩ v).heap[g]? = (w.heap[g]?).map (fun x => match x with | .cells c elem fz => .cells (c.setIfInBounds i v) elem fz | o => o) := by
    show (w.heap.modify g _)[g]? = _
    rw [Array.getElem?_modify, if_pos rfl]
    rfl
  rw [h3, he, h2]
  rfl
theorem vAt_set {vs : List Value} {r k : Nat} (h : vs.length = k) (hr : r < k) (v : Value) (r' : Nat) : vAt (vs.set r v) r' = if r' = r then v else vAt vs r' := by
  unfold vAt
  rw [List.getD_eq_getElem?_getD, List.getD_eq_getElem?_getD, List.getElem?_set]
  by_cases e : r' = r
  · subst e
    rw [if_pos rfl, if_pos rfl, if_pos (by omega)]
    rfl
  · rw [if_neg (fun h => e h.symm), if_neg e]
theorem rAt_set {ins : List (List Int)} {r k : Nat} (h : ins.length = k) (hr : r < k) (v : List Int) (r' : Nat) : rAt (ins.set r v) r' = if r' = r then v else rAt ins r' := by
  unfold rAt
  rw [List.getD_eq_getElem?_getD, List.getD_eq_getElem?_getD, List.getElem?_set]
  by_cases e : r' = r
  · subst e
    rw [if_pos rfl, if_pos rfl, if_pos (by omega)]
    rfl
  · rw [if_neg (fun h => e h.symm), if_neg e]
section
variable {w w1 w' : World} {B p gi k n c r : Nat} {va v1 : Value} {A : Option Addr} {vs : List Value} {ins : List (List Int)} {at_ ys : List Int}
theorem SC.rowS (h : SC w B p gi k va A n c vs ins at_) (hr : r < k) (hk : Kept w w1 (fun b => (vAt vs r).ownBlock = some b)) : w1.heap[p]? = w.heap[p]? ∧ w1.heap[gi]? = w.heap[gi]? :=
  ⟨hk.2 p h.ltp (fun e => h.nepv (h.hrow r hr) e.symm), hk.2 gi h.ltg (fun e => h.negv (h.hrow r hr) e.symm)⟩
/-- A register's row, set anew. -/
theorem SC.setRow (h : SC w B p gi k va A n c vs ins at_) (hr : r < k) (hv1 : RI w1 B v1 ys) (hk : Kept w w1 (fun b => (vAt vs r).ownBlock = some b)) (hn : NewOr w (vAt vs r) v1) : SC (w1.setCell ⟨gi, r, none⟩ v1) B p gi k va A n c (vs.set r v1) (ins.set r ys) at_ := by
  obtain ⟨hbp, hbg⟩ := h.rowS hr hk
  have hg1 : w1.heap[gi]? = some (.cells vs.toArray 29 (0, 0)) := hbg.trans h.hin
  have far : ∀ {v : Value} {xs : List Int}, RI w1 B v xs → RI (w1.setCell ⟨gi, r, none⟩ v1) B v xs := fun hv =>
    Kd.R_mono (Kd.R_far (p := ⟨gi, r, none⟩) (Kd.R_types hv hg1 (by decide)) (fun _ hk => hk.2) v1) (fun _ _ => trivial)
  have v1own : ∀ b, v1.ownBlock = some b → (vAt vs r).ownBlock = some b ∨ w.heap.size ≤ b := hn
  refine ⟨?_, ?_, ?_, ?_, ?_, fun r' hr' => ?_, fun r1 r2 b h1 h2 hne hb hb2 => ?_, fun r' b hr' hb hb2 => ?_, h.hB⟩
  · rw [Below.heap_setCell _ ⟨gi, r, none⟩ _ _ h.ne, hbp]
    exact h.hp
  · rw [heap_setCell_block hg1]
    simp
  · rw [List.length_set]; exact h.hk
  · rw [List.length_set]; exact h.hki
  · refine far (h.hat.kept hk (fun b hb e => h.haa r b hr e hb))
  · rw [vAt_set h.hk hr, rAt_set h.hki hr]
    by_cases e : r' = r
    · rw [if_pos e, if_pos e]
      exact far hv1
    · rw [if_neg e, if_neg e]
      exact far ((h.hrow r' hr').kept hk (fun b hb e2 => h.hap r' r b hr' hr e hb e2))
  · rw [vAt_set h.hk hr] at hb hb2
    by_cases e1 : r1 = r
    · rw [if_pos e1] at hb
      rw [if_neg (fun e2 => hne (e1.trans e2.symm))] at hb2
      rcases v1own b hb with h3 | h3
      · exact h.hap r r2 b hr h2 (fun e => hne (e1.trans e)) h3 hb2
      · have := Kd.R_lt (h.hrow r2 h2) b hb2
        omega
    · rw [if_neg e1] at hb
      by_cases e2 : r2 = r
      · rw [if_pos e2] at hb2
        rcases v1own b hb2 with h3 | h3
        · exact h.hap r1 r b h1 hr e1 hb h3
        · have := Kd.R_lt (h.hrow r1 h1) b hb
          omega
      · rw [if_neg e2] at hb2
        exact h.hap r1 r2 b h1 h2 hne hb hb2
  · rw [vAt_set h.hk hr] at hb
    by_cases e1 : r' = r
    · rw [if_pos e1] at hb
      rcases v1own b hb with h3 | h3
      · exact h.haa r b hr h3 hb2
      · have := Kd.R_lt h.hat b hb2
        omega
    · rw [if_neg e1] at hb
      exact h.haa r' b hr' hb hb2
theorem SK_setRow (h : SC w B p gi k va A n c vs ins at_) (hr : r < k) (hn : NewOr w (vAt vs r) v1) {b : Nat} (hb : SK gi k va (vs.set r v1) b) : SK gi k va vs b ∨ w.heap.size ≤ b := by
  rcases hb with hb | hb | ⟨r', hr', hb⟩
  · exact .inl (.inl hb)
  · exact .inl (.inr (.inl hb))
  · rw [vAt_set h.hk hr] at hb
    by_cases e : r' = r
    · rw [if_pos e] at hb
      exact (hn b hb).elim (fun h3 => .inl (.inr (.inr ⟨r, hr, h3⟩))) .inr
    · rw [if_neg e] at hb
      exact .inl (.inr (.inr ⟨r', hr', hb⟩))
theorem Kept_setRow (h : SC w B p gi k va A n c vs ins at_) (hr : r < k) (hk : Kept w w1 (fun b => (vAt vs r).ownBlock = some b)) (v1 : Value) : Kept w (w1.setCell ⟨gi, r, none⟩ v1) (SK gi k va vs) :=
  (hk.mono (fun b hb => .inr (.inr ⟨r, hr, hb⟩))).setCell (p := ⟨gi, r, none⟩) (.inl (.inl rfl)) v1
/-- A place set. -/
theorem SC.setAt (h : SC w B p gi k va A n c vs ins at_) (i : Nat) (x : Int) {ga ca : Nat} (hva : va = .slice (some ⟨ga, 0, none⟩) at_.length ca) : SC (w.setCell ⟨ga, i, none⟩ (.int .i64 x)) B p gi k va A n c vs ins (at_.set i x) := by
  have hown : va.ownBlock = some ga := by rw [hva]; rfl
  have hK : Kept w (w.setCell ⟨ga, i, none⟩ (.int .i64 x)) (fun b => b = ga) := Kept.setCell (S := fun b => b = ga) (Kept.refl w _) (p := ⟨ga, i, none⟩) (.inl rfl) _
  have hpg : p ≠ ga := fun e => h.nepv h.hat (by rw [hown, e])
  have hgg : gi ≠ ga := fun e => h.negv h.hat (by rw [hown, e])
  refine ⟨(hK.2 p h.ltp hpg).trans h.hp, (hK.2 gi h.ltg hgg).trans h.hin, h.hk, h.hki, ?_, fun r hr => (h.hrow r hr).kept hK (fun b hb e => h.haa r b hr hb (by rw [hown, e])), h.hap, h.haa, h.hB⟩
  have h1 := h.hat
  rw [hva] at h1 ⊢
  have h2 := Kd.R_putn h1 (i : Int) x
  rw [Int.toNat_natCast] at h2
  exact h2
theorem SK_ga {ga ca m : Nat} (hva : va = .slice (some ⟨ga, 0, none⟩) m ca) : SK gi k va vs ga := .inr (.inl (by rw [hva]; rfl))
end
end Go.Proofs.Ytolhijnkgkfjgaa.XC
