/- What holds of the scanner's registers and places: plain. -/
import Derived.Test.YtolhijnkgkfjgaaInst
namespace Go.Proofs.Ytolhijnkgkfjgaa.XC
open Go.RowKit Go.Proofs.YtolhijnkgkfjgaaW.PrintWords
set_option linter.unusedVariables false
set_option linter.unusedSimpArgs false
theorem nodup_le : ∀ (xs K : List Int), xs.Nodup → (∀ x ∈ xs, x ∈ K) → xs.length ≤ K.length
  | [], _, _, _ => Nat.zero_le _
  | x :: xs, K, hn, h => by
    rw [List.nodup_cons] at hn
    have h1 := nodup_le xs (K.erase x) hn.2 (fun y hy => (List.mem_erase_of_ne (fun (e : y = x) => hn.1 (by rw [← e]; exact hy))).2 (h y (List.mem_cons_of_mem _ hy)))
    have h2 := List.length_erase_of_mem (h x List.mem_cons_self)
    have h3 := List.length_pos_of_mem (h x List.mem_cons_self)
    rw [List.length_cons]
    omega
structure St (l : List Sp) (k : Nat) (ins : List (List Int)) (at_ : List Int) : Prop where
  hki : ins.length = k
  hal : at_.length = l.length
  good : Good l ins
  cons : Cons k ins at_
  nodup : ∀ r, (rAt ins r).Nodup
theorem rAt_out {ins : List (List Int)} {r : Nat} (h : ins.length ≤ r) : rAt ins r = [] := by
  unfold rAt
  rw [List.getD_eq_getElem?_getD, List.getElem?_eq_none h]
  rfl
theorem rd_set (v : List Int) (a p x : Int) (ha : 0 ≤ a) (hp : 0 ≤ p) (hpl : p < (v.length : Int)) : rd (v.set a.toNat x) p = if p = a then x else rd v p := by
  unfold rd
  rw [List.getD_eq_getElem?_getD, List.getD_eq_getElem?_getD, List.getElem?_set]
  by_cases e : p = a
  · subst e
    rw [if_pos rfl, if_pos rfl, if_pos (by omega)]
    rfl
  · rw [if_neg (by omega), if_neg e]
section
variable {l : List Sp} {k : Nat} {ins : List (List Int)} {at_ : List Int}
theorem St.len (h : St l k ins at_) (r : Nat) : (rAt ins r).length ≤ l.length := by
  have h1 := nodup_le (rAt ins r) ((List.range l.length).map Int.ofNat) (h.nodup r) (fun x hx => by
    have := h.good r x hx
    exact List.mem_map.2 ⟨x.toNat, List.mem_range.2 (by omega), by show ((x.toNat : Nat) : Int) = x; omega⟩)
  simpa using h1
theorem St.put (h : St l k ins at_) {r : Nat} (hr : r < k) {id : Int} (h0 : 0 ≤ id) (h1 : id < (l.length : Int)) (hnot : ∀ r', r' < k → rd at_ id ≠ (r' : Int)) : St l k (putI ins r id) (at_.set id.toNat (r : Int)) := by
  have hn : ∀ r', id ∉ rAt ins r' := fun r' hm => by
    by_cases e : r' < k
    · exact hnot r' e (h.cons r' e id hm)
    · rw [rAt_out (by rw [h.hki]; omega)] at hm; cases hm
  have hat : ∀ r', rAt (putI ins r id) r' = if r' = r then rAt ins r ++ [id] else rAt ins r' := fun r' => rAt_set h.hki hr _ r'
  refine ⟨by unfold putI; rw [List.length_set]; exact h.hki, by rw [List.length_set]; exact h.hal, fun r' o ho => ?_, fun r' hr' o ho => ?_, fun r' => ?_⟩
  · rw [hat] at ho
    by_cases e : r' = r
    · rw [if_pos e, List.mem_append, List.mem_singleton] at ho
      rcases ho with ho | rfl
      · exact h.good r o ho
      · exact ⟨h0, h1⟩
    · rw [if_neg e] at ho; exact h.good r' o ho
  · rw [hat] at ho
    by_cases e : r' = r
    · rw [if_pos e, List.mem_append, List.mem_singleton] at ho
      rcases ho with ho | rfl
      · have hg := h.good r o ho
        rw [rd_set _ _ _ _ h0 hg.1 (by rw [h.hal]; exact hg.2), if_neg (fun e2 => hn r (by rw [← e2]; exact ho)), e]
        exact h.cons r hr o ho
      · rw [rd_set _ _ _ _ h0 h0 (by rw [h.hal]; exact h1), if_pos rfl, e]
    · rw [if_neg e] at ho
      have hg := h.good r' o ho
      rw [rd_set _ _ _ _ h0 hg.1 (by rw [h.hal]; exact hg.2), if_neg (fun e2 => hn r' (by rw [← e2]; exact ho))]
      exact h.cons r' hr' o ho
  · rw [hat]
    by_cases e : r' = r
    · rw [if_pos e, List.nodup_append]
      exact ⟨h.nodup r, by simp, fun a ha b hb e2 => by rw [List.mem_singleton] at hb; exact hn r (by rw [← hb, ← e2]; exact ha)⟩
    · rw [if_neg e]; exact h.nodup r'
theorem St.out (h : St l k ins at_) {r : Nat} (hr : r < k) {o : Int} (ho : o ∈ rAt ins r) : St l k (ins.set r (delF (rAt ins r) o)) (at_.set o.toNat 256) := by
  have hog := h.good r o ho
  have hat : ∀ r', rAt (ins.set r (delF (rAt ins r) o)) r' = if r' = r then delF (rAt ins r) o else rAt ins r' := fun r' => rAt_set h.hki hr _ r'
  have hdel : ∀ x, x ∈ delF (rAt ins r) o → x ∈ rAt ins r ∧ x ≠ o := fun x hx => by
    unfold delF at hx
    rw [List.mem_filter] at hx
    exact ⟨hx.1, by simpa using hx.2⟩
  refine ⟨by rw [List.length_set]; exact h.hki, by rw [List.length_set]; exact h.hal, fun r' x hx => ?_, fun r' hr' x hx => ?_, fun r' => ?_⟩
  · rw [hat] at hx
    by_cases e : r' = r
    · rw [if_pos e] at hx; exact h.good r x (hdel x hx).1
    · rw [if_neg e] at hx; exact h.good r' x hx
  · rw [hat] at hx
    by_cases e : r' = r
    · rw [if_pos e] at hx
      have hg := h.good r x (hdel x hx).1
      rw [rd_set _ _ _ _ hog.1 hg.1 (by rw [h.hal]; exact hg.2), if_neg (hdel x hx).2, e]
      exact h.cons r hr x (hdel x hx).1
    · rw [if_neg e] at hx
      have hg := h.good r' x hx
      rw [rd_set _ _ _ _ hog.1 hg.1 (by rw [h.hal]; exact hg.2), if_neg]
      · exact h.cons r' hr' x hx
      · intro e2
        have h1 := h.cons r' hr' x hx
        have h2 := h.cons r hr o ho
        rw [e2, h2] at h1
        omega
  · rw [hat]
    by_cases e : r' = r
    · rw [if_pos e]; exact (h.nodup r).sublist List.filter_sublist
    · rw [if_neg e]; exact h.nodup r'
theorem freeFrom_some {mt : Int → Int → Bool} {ins : List (List Int)} {id : Int} : ∀ {m r r' : Nat}, freeFrom mt ins id m r = some r' → r ≤ r' ∧ r' < r + m ∧ meetsF mt ins r' id = []
  | 0, _, _, h => by cases h
  | m + 1, r, r', h => by
    rw [freeFrom] at h
    split at h
    · rename_i h0
      injection h with h
      subst h
      exact ⟨Nat.le_refl _, by omega, List.eq_nil_of_length_eq_zero h0⟩
    · have := freeFrom_some h
      exact ⟨by omega, by omega, this.2.2⟩
theorem freeFrom_none {mt : Int → Int → Bool} {ins : List (List Int)} {id : Int} : ∀ {m r : Nat}, freeFrom mt ins id m r = none → ∀ r', r ≤ r' → r' < r + m → meetsF mt ins r' id ≠ []
  | 0, _, _, r', h1, h2 => by omega
  | m + 1, r, h, r', h1, h2 => by
    rw [freeFrom] at h
    split at h
    · cases h
    · rename_i h0
      by_cases e : r' = r
      · subst e
        exact fun e2 => h0 (by rw [e2]; rfl)
      · exact freeFrom_none h r' (by omega) (by omega)
theorem freeR_some {mt : Int → Int → Bool} {id : Int} {r : Nat} (h : freeR mt k ins id = some r) : r < k ∧ meetsF mt ins r id = [] := by
  have := freeFrom_some h
  exact ⟨by omega, this.2.2⟩
theorem freeR_none {mt : Int → Int → Bool} {id : Int} (h : freeR mt k ins id = none) (r : Nat) (hr : r < k) : meetsF mt ins r id ≠ [] := freeFrom_none h r (by omega) (by omega)
theorem St.free (h : St l k ins at_) {mt : Int → Int → Bool} {id : Int} (h0 : 0 ≤ id) (h1 : id < (l.length : Int)) (hnot : ∀ r', r' < k → rd at_ id ≠ (r' : Int)) : St l k (freeI mt k ins id) (freeA mt k ins at_ id) := by
  unfold freeI freeA
  cases e : freeR mt k ins id with
  | none => exact h
  | some r => exact h.put (freeR_some e).1 h0 h1 hnot
theorem bestStep_or (mt : Int → Int → Bool) (l : List Sp) (ins : List (List Int)) (id : Int) (r : Nat) (b : Int) : bestStep mt l ins id r b = b ∨ (meetsF mt ins r id = [bestStep mt l ins id r b]) := by
  unfold bestStep
  split
  · rename_i h
    obtain ⟨o, ho⟩ := List.length_eq_one_iff.1 h.1
    rw [ho]
    exact .inr rfl
  · exact .inl rfl
theorem bestFrom_in {mt : Int → Int → Bool} {l : List Sp} {ins : List (List Int)} {id : Int} : ∀ {m r : Nat} {b : Int}, r + m = k → (b = -1 ∨ ∃ r', r' < k ∧ meetsF mt ins r' id = [b]) → bestFrom mt l ins id m r b = -1 ∨ ∃ r', r' < k ∧ meetsF mt ins r' id = [bestFrom mt l ins id m r b]
  | 0, _, _, _, h => h
  | m + 1, r, b, hk, h => by
    rw [bestFrom]
    refine bestFrom_in (by omega) ?_
    rcases bestStep_or mt l ins id r b with e | e
    · rw [e]; exact h
    · exact .inr ⟨r, by omega, e⟩
theorem bestF_in (mt : Int → Int → Bool) (l : List Sp) (k : Nat) (ins : List (List Int)) (id : Int) : bestF mt l k ins id = -1 ∨ ∃ r', r' < k ∧ meetsF mt ins r' id = [bestF mt l k ins id] := bestFrom_in (by omega) (.inl rfl)
theorem meets_mem {mt : Int → Int → Bool} {r : Nat} {id o : Int} (h : meetsF mt ins r id = [o]) : o ∈ rAt ins r := by
  have : o ∈ meetsF mt ins r id := by rw [h]; exact List.mem_singleton.2 rfl
  exact (List.mem_filter.1 this).1
/-- What instead does: either it waits in a slot, or another does. -/
theorem instead_cases (h : St l k ins at_) (mt : Int → Int → Bool) (id : Int) : (insteadI mt l k ins at_ id = ins ∧ insteadA mt l k ins at_ id = at_.set id.toNat 256) ∨ ∃ r o, r < k ∧ meetsF mt ins r id = [o] ∧ insteadI mt l k ins at_ id = putI (ins.set r (delF (rAt ins r) o)) r id ∧ insteadA mt l k ins at_ id = (at_.set o.toNat 256).set id.toNat (r : Int) := by
  unfold insteadI insteadA
  by_cases e : bestF mt l k ins id = -1
  · rw [if_pos e, if_pos e]
    exact .inl ⟨rfl, rfl⟩
  · obtain ⟨r, hr, hm⟩ := (bestF_in mt l k ins id).resolve_left e
    have h1 := h.cons r hr _ (meets_mem hm)
    rw [if_neg e, if_neg e, h1, Int.toNat_natCast]
    exact .inr ⟨r, _, hr, hm, rfl, rfl⟩
theorem St.slot (h : St l k ins at_) {id : Int} (h0 : 0 ≤ id) (h1 : id < (l.length : Int)) (hnot : ∀ r', r' < k → rd at_ id ≠ (r' : Int)) (x : Int) : St l k ins (at_.set id.toNat x) := by
  refine ⟨h.hki, by rw [List.length_set]; exact h.hal, h.good, fun r hr o ho => ?_, h.nodup⟩
  have hg := h.good r o ho
  rw [rd_set _ _ _ _ h0 hg.1 (by rw [h.hal]; exact hg.2), if_neg]
  · exact h.cons r hr o ho
  · intro e
    exact hnot r hr (by rw [← e]; exact h.cons r hr o ho)
theorem St.instead (h : St l k ins at_) {mt : Int → Int → Bool} {id : Int} (h0 : 0 ≤ id) (h1 : id < (l.length : Int)) (hk : k < 256) (hnot : ∀ r', r' < k → rd at_ id ≠ (r' : Int)) : St l k (insteadI mt l k ins at_ id) (insteadA mt l k ins at_ id) := by
  rcases instead_cases h mt id with ⟨e1, e2⟩ | ⟨r, o, hr, hm, e1, e2⟩
  · rw [e1, e2]
    exact h.slot h0 h1 hnot 256
  · rw [e1, e2]
    have ho := meets_mem hm
    have hog := h.good r o ho
    refine (h.out hr ho).put hr h0 h1 (fun r' hr' => ?_)
    rw [rd_set _ _ _ _ hog.1 h0 (by rw [h.hal]; exact h1)]
    split
    · omega
    · exact hnot r' hr'
end
end Go.Proofs.Ytolhijnkgkfjgaa.XC
