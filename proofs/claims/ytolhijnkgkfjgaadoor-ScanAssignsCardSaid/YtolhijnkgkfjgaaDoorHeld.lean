/- What Assign gives can be held, and no place in a slot is needless. -/
import Derived.Test.YtolhijnkgkfjgaaDoorAsg
namespace Go.Proofs.YtolhijnkgkfjgaaDoor.XC
open Go.RowKit Go.Proofs.YtolhijnkgkfjgaaDoorW.PrintWords Go.Proofs.YtolhijnkgkfjgaaDoorW.PrintLast Go.Proofs.YtolhijnkgkfjgaaDoorW.PrintMore
set_option linter.unusedVariables false
set_option linter.unusedSimpArgs false
def In (l : List Sp) (x : Int) : Prop := 0 ≤ x ∧ x < (l.length : Int)
structure Inv (mt : Int → Int → Bool) (l : List Sp) (k : Nat) (ins : List (List Int)) (at_ : List Int) : Prop where
  st : St l k ins at_
  back : ∀ x, In l x → ∀ r, r < k → rd at_ x = (r : Int) → x ∈ rAt ins r
  apart : ∀ r, r < k → ∀ o ∈ rAt ins r, ∀ o' ∈ rAt ins r, o ≠ o' → mt o o' = false
  vals : ∀ x, In l x → rd at_ x = -1 ∨ rd at_ x = 256 ∨ (0 ≤ rd at_ x ∧ rd at_ x < (k : Int))
section
variable {mt : Int → Int → Bool} {l : List Sp} {k : Nat} {ins : List (List Int)} {at_ : List Int}
theorem St.rds (h : St l k ins at_) {id x : Int} (hid : In l id) (hx : In l x) (y : Int) : rd (at_.set id.toNat y) x = if x = id then y else rd at_ x := rd_set _ _ _ _ hid.1 hx.1 (by rw [h.hal]; exact hx.2)
theorem Inv.put (hs : ∀ a b, mt a b = mt b a) (h : Inv mt l k ins at_) {r : Nat} (hr : r < k) {id : Int} (hid : In l id) (hnot : ∀ r', r' < k → rd at_ id ≠ (r' : Int)) (hm : ∀ o ∈ rAt ins r, mt id o = false) : Inv mt l k (putI ins r id) (at_.set id.toNat (r : Int)) := by
  have hat : ∀ r', rAt (putI ins r id) r' = if r' = r then rAt ins r ++ [id] else rAt ins r' := fun r' => rAt_set h.st.hki hr _ r'
  refine ⟨h.st.put hr hid.1 hid.2 hnot, fun x hx r' hr' e => ?_, fun r' hr' o ho o' ho' hne => ?_, fun x hx => ?_⟩
  · rw [h.st.rds hid hx] at e
    rw [hat]
    by_cases e1 : x = id
    · rw [if_pos e1] at e
      rw [if_pos (by omega), e1]
      simp
    · rw [if_neg e1] at e
      have := h.back x hx r' hr' e
      by_cases e2 : r' = r
      · rw [if_pos e2, List.mem_append]; rw [e2] at this; exact .inl this
      · rw [if_neg e2]; exact this
  · rw [hat] at ho ho'
    by_cases e2 : r' = r
    · rw [if_pos e2, List.mem_append, List.mem_singleton] at ho ho'
      rcases ho with ho | rfl <;> rcases ho' with ho' | rfl
      · exact h.apart r hr o ho o' ho' hne
      · rw [hs]; exact hm o ho
      · exact hm o' ho'
      · exact absurd rfl hne
    · rw [if_neg e2] at ho ho'
      exact h.apart r' hr' o ho o' ho' hne
  · rw [h.st.rds hid hx]
    by_cases e1 : x = id
    · rw [if_pos e1]; exact .inr (.inr ⟨by omega, by omega⟩)
    · rw [if_neg e1]; exact h.vals x hx
theorem mem_delF {row : List Int} {o x : Int} : x ∈ delF row o ↔ x ∈ row ∧ x ≠ o := by
  unfold delF
  rw [List.mem_filter]
  simp
theorem Inv.out (h : Inv mt l k ins at_) (hk : k < 256) {r : Nat} (hr : r < k) {o : Int} (ho : o ∈ rAt ins r) : Inv mt l k (ins.set r (delF (rAt ins r) o)) (at_.set o.toNat 256) := by
  have hog : In l o := h.st.good r o ho
  have hat : ∀ r', rAt (ins.set r (delF (rAt ins r) o)) r' = if r' = r then delF (rAt ins r) o else rAt ins r' := fun r' => rAt_set h.st.hki hr _ r'
  refine ⟨h.st.out hr ho, fun x hx r' hr' e => ?_, fun r' hr' a ha b hb hne => ?_, fun x hx => ?_⟩
  · rw [h.st.rds hog hx] at e
    by_cases e1 : x = o
    · rw [if_pos e1] at e; omega
    · rw [if_neg e1] at e
      have := h.back x hx r' hr' e
      rw [hat]
      by_cases e2 : r' = r
      · rw [if_pos e2, mem_delF]; rw [e2] at this; exact ⟨this, e1⟩
      · rw [if_neg e2]; exact this
  · rw [hat] at ha hb
    by_cases e2 : r' = r
    · rw [if_pos e2, mem_delF] at ha hb; exact h.apart r hr a ha.1 b hb.1 hne
    · rw [if_neg e2] at ha hb; exact h.apart r' hr' a ha b hb hne
  · rw [h.st.rds hog hx]
    by_cases e1 : x = o
    · rw [if_pos e1]; exact .inr (.inl rfl)
    · rw [if_neg e1]; exact h.vals x hx
theorem Inv.slot (h : Inv mt l k ins at_) (hk : k < 256) {id : Int} (hid : In l id) (hnot : ∀ r', r' < k → rd at_ id ≠ (r' : Int)) : Inv mt l k ins (at_.set id.toNat 256) := by
  refine ⟨h.st.slot hid.1 hid.2 hnot 256, fun x hx r' hr' e => ?_, h.apart, fun x hx => ?_⟩
  · rw [h.st.rds hid hx] at e
    by_cases e1 : x = id
    · rw [if_pos e1] at e; omega
    · rw [if_neg e1] at e; exact h.back x hx r' hr' e
  · rw [h.st.rds hid hx]
    by_cases e1 : x = id
    · rw [if_pos e1]; exact .inr (.inl rfl)
    · rw [if_neg e1]; exact h.vals x hx
theorem meets_none {r : Nat} {id : Int} (h : meetsF mt ins r id = []) : ∀ o ∈ rAt ins r, mt id o = false := fun o ho => by
  have := (List.filter_eq_nil_iff.1 h) o ho
  simpa using this
theorem Inv.free (hs : ∀ a b, mt a b = mt b a) (h : Inv mt l k ins at_) {id : Int} (hid : In l id) (hnot : ∀ r', r' < k → rd at_ id ≠ (r' : Int)) : Inv mt l k (freeI mt k ins id) (freeA mt k ins at_ id) ∧ ((freeR mt k ins id).isSome = true → rd (freeA mt k ins at_ id) id ≠ -1) ∧ ∀ x, In l x → x ≠ id → rd (freeA mt k ins at_ id) x = rd at_ x := by
  unfold freeI freeA
  cases e : freeR mt k ins id with
  | none => exact ⟨h, (fun h => by cases h), fun _ _ _ => rfl⟩
  | some r =>
    have hf := freeR_some e
    refine ⟨h.put hs hf.1 hid hnot (meets_none hf.2), fun _ => ?_, fun x hx hne => ?_⟩
    · rw [h.st.rds hid hid, if_pos rfl]; omega
    · rw [h.st.rds hid hx, if_neg hne]
theorem Inv.instead (hs : ∀ a b, mt a b = mt b a) (h : Inv mt l k ins at_) (hk : k < 256) {id : Int} (hid : In l id) (hnot : ∀ r', r' < k → rd at_ id ≠ (r' : Int)) : Inv mt l k (insteadI mt l k ins at_ id) (insteadA mt l k ins at_ id) ∧ rd (insteadA mt l k ins at_ id) id ≠ -1 ∧ ∀ x, In l x → x ≠ id → (rd (insteadA mt l k ins at_ id) x = -1 ↔ rd at_ x = -1) := by
  rcases instead_cases h.st mt id with ⟨e1, e2⟩ | ⟨r, o, hr, hm, e1, e2⟩
  · rw [e1, e2]
    refine ⟨h.slot hk hid hnot, ?_, fun x hx hne => ?_⟩
    · rw [h.st.rds hid hid, if_pos rfl]; omega
    · rw [h.st.rds hid hx, if_neg hne]
  · rw [e1, e2]
    have ho := meets_mem hm
    have hog : In l o := h.st.good r o ho
    have h2 := h.out hk hr ho
    have hro := h.st.cons r hr o ho
    refine ⟨h2.put hs hr hid (fun r' hr' => ?_) (fun o' ho' => ?_), ?_, fun x hx hne => ?_⟩
    · rw [h.st.rds hog hid]
      split
      · omega
      · exact hnot r' hr'
    · rw [rAt_set h.st.hki hr, if_pos rfl, mem_delF] at ho'
      by_cases e : mt id o' = true
      · have : o' ∈ meetsF mt ins r id := List.mem_filter.2 ⟨ho'.1, e⟩
        rw [hm, List.mem_singleton] at this
        exact absurd this ho'.2
      · simpa using e
    · rw [h2.st.rds hid hid, if_pos rfl]; omega
    · rw [h2.st.rds hid hx, if_neg hne, h.st.rds hog hx]
      by_cases e : x = o
      · rw [if_pos e, e, hro]; omega
      · rw [if_neg e]
theorem Inv.step (hs : ∀ a b, mt a b = mt b a) (h : Inv mt l k ins at_) (hk : k < 256) {id : Int} (hid : In l id) (hx : rd at_ id = -1) : Inv mt l k (stepI mt l k ins at_ id) (stepA mt l k ins at_ id) ∧ rd (stepA mt l k ins at_ id) id ≠ -1 ∧ ∀ x, In l x → x ≠ id → (rd (stepA mt l k ins at_ id) x = -1 ↔ rd at_ x = -1) := by
  have hnot : ∀ r', r' < k → rd at_ id ≠ (r' : Int) := fun r' _ e => by rw [hx] at e; omega
  unfold stepI stepA
  split
  · rename_i hf
    obtain ⟨h1, h2, h3⟩ := h.free hs hid hnot
    exact ⟨h1, h2 hf, fun x hx hne => by rw [h3 x hx hne]⟩
  · exact h.instead hs hk hid hnot
end
theorem Inv.start (mt : Int → Int → Bool) (l : List Sp) (k : Nat) : Inv mt l k (List.replicate k []) (List.replicate l.length (-1)) :=
  ⟨St.start l k, fun x hx r _ e => (by rw [rd_rep _ _ _ hx.1 hx.2] at e; omega), fun r _ o ho => (by rw [rAt_rep] at ho; cases ho), fun x hx => .inl (rd_rep _ _ _ hx.1 hx.2)⟩
theorem pushAll_spec (l : List Sp) : ∀ (m i : Nat) (q : List Int), i + m = l.length → q.Nodup → (∀ x ∈ q, 0 ≤ x ∧ x < (i : Int)) → Ids l q → (∀ x : Int, 0 ≤ x → x < (i : Int) → (rdS l x).f0.length ≠ 0 → x ∈ q) → q.length ≤ i → (pushAll l m i q).Nodup ∧ Ids l (pushAll l m i q) ∧ (∀ x, In l x → (rdS l x).f0.length ≠ 0 → x ∈ pushAll l m i q) ∧ (pushAll l m i q).length ≤ l.length
  | 0, i, q, hi, hn, hb, hI, ha, hl => ⟨hn, hI, fun x hx h => ha x hx.1 (by have := hx.2; omega) h, by rw [pushAll]; omega⟩
  | m + 1, i, q, hi, hn, hb, hI, ha, hl => by
    rw [pushAll]
    by_cases e : (rdS l (i : Int)).f0.length = 0
    · rw [if_pos e]
      refine pushAll_spec l m (i + 1) q (by omega) hn (fun x hx => by have := hb x hx; omega) hI (fun x h0 h1 hx => ?_) (by omega)
      by_cases e2 : x = (i : Int)
      · rw [e2] at hx; exact absurd e hx
      · exact ha x h0 (by omega) hx
    · rw [if_neg e]
      have hp := pushF_perm l q (i : Int)
      refine pushAll_spec l m (i + 1) _ (by omega) ((hp.nodup_iff).2 (List.nodup_append.2 ⟨hn, by simp, fun a ha b hb2 e => ?_⟩)) (fun x hx => ?_) (fun x hx => ?_) (fun x h0 h1 hx => (hp.mem_iff).2 ?_) ?_
      · rw [List.mem_singleton] at hb2
        have := hb a ha
        omega
      · have hx := (hp.mem_iff).1 hx
        rw [List.mem_append, List.mem_singleton] at hx
        rcases hx with hx | rfl
        · have := hb x hx; omega
        · omega
      · have hx := (hp.mem_iff).1 hx
        rw [List.mem_append, List.mem_singleton] at hx
        rcases hx with hx | rfl
        · exact hI x hx
        · exact ⟨by omega, by omega, by omega⟩
      · rw [List.mem_append, List.mem_singleton]
        by_cases e2 : x = (i : Int)
        · exact .inr e2
        · exact .inl (ha x h0 (by omega) hx)
      · rw [hp.length_eq, List.length_append]; simp; omega
theorem run_spec {mt : Int → Int → Bool} (hs : ∀ a b, mt a b = mt b a) {l : List Sp} {k : Nat} (hk : k < 256) : ∀ (f : Nat) (q : List Int) (ins : List (List Int)) (at_ : List Int), q.length < f → Inv mt l k ins at_ → NP q at_ → Ids l q → (∀ x, In l x → rd at_ x = -1 → x ∈ q ∨ (rdS l x).f0.length = 0) → (∀ x, In l x → (rdS l x).f0.length = 0 → rd at_ x = -1) →
    Inv mt l k (runF mt l k f q ins at_).1 (runF mt l k f q ins at_).2 ∧ ∀ x, In l x → (rd (runF mt l k f q ins at_).2 x = -1 ↔ (rdS l x).f0.length = 0)
  | 0, q, _, _, hl, _, _, _, _, _ => by omega
  | f + 1, q, ins, at_, hl, hI, hN, hQ, h1, h2 => by
    rw [runF]
    by_cases hz : q.length = 0
    · rw [if_pos hz]
      have hq : q = [] := List.length_eq_zero_iff.1 hz
      refine ⟨hI, fun x hx => ⟨fun e => (h1 x hx e).resolve_left (fun h => by rw [hq] at h; cases h), h2 x hx⟩⟩
    · rw [if_neg hz]
      have hps := pop_split l q hz
      have hpp := popF_perm l q hz
      obtain ⟨q2, hq2⟩ : ∃ q2, q2 = (popF l q).dropLast := ⟨_, rfl⟩
      obtain ⟨id, hid⟩ : ∃ id, id = (popF l q).getLastD 0 := ⟨_, rfl⟩
      rw [← hq2, ← hid] at hps ⊢
      rw [hps] at hpp
      have hpp := hpp.symm
      have hi := hQ.perm hpp
      have hin : In l id := ⟨hi.2.1, hi.2.2.1⟩
      obtain ⟨g1, g2, g3⟩ := hI.step hs hk hin (hN.no id hi.2.2.2)
      refine run_spec hs hk f q2 _ _ ?_ g1 (hN.step hI.st hQ hpp) hi.1 (fun x hx e => ?_) (fun x hx e => ?_)
      · have := hpp.length_eq
        rw [List.length_append] at this
        simp at this
        omega
      · by_cases e2 : x = id
        · rw [e2] at e; exact absurd e g2
        · rcases h1 x hx ((g3 x hx e2).1 e) with h | h
          · have := (hpp.mem_iff).1 h
            rw [List.mem_append, List.mem_singleton] at this
            exact .inl (this.resolve_right e2)
          · exact .inr h
      · have e2 : x ≠ id := fun e2 => by
          have := (hQ id hi.2.2.2).2.2
          rw [e2] at e
          omega
        exact (g3 x hx e2).2 (h2 x hx e)
theorem asg1_spec {mt : Int → Int → Bool} (hs : ∀ a b, mt a b = mt b a) (l : List Sp) {k : Nat} (hk : k < 256) : Inv mt l k (asg1 mt l k).1 (asg1 mt l k).2 ∧ ∀ x, In l x → (rd (asg1 mt l k).2 x = -1 ↔ (rdS l x).f0.length = 0) := by
  obtain ⟨p1, p2, p3, p4⟩ := pushAll_spec l l.length 0 [] (by omega) List.nodup_nil (fun x hx => by cases hx) (fun x hx => by cases hx) (fun x h0 h1 => by omega) (Nat.le_refl _)
  unfold asg1
  refine run_spec hs hk _ _ _ _ (by omega) (Inv.start mt l k) ⟨p1, fun x hx => rd_rep _ _ _ (p2 x hx).1 (p2 x hx).2.1⟩ p2 (fun x hx _ => ?_) (fun x hx _ => rd_rep _ _ _ hx.1 hx.2)
  by_cases e : (rdS l x).f0.length = 0
  · exact .inr e
  · exact .inl (p3 x hx e)
theorem againIn_inv {mt : Int → Int → Bool} (hs : ∀ a b, mt a b = mt b a) {l : List Sp} {k : Nat} (hk : k < 256) : ∀ (m i : Nat) (ins : List (List Int)) (at_ : List Int) (b : Bool), i + m = l.length → Inv mt l k ins at_ → Inv mt l k (againIn mt k m i ins at_ b).1 (againIn mt k m i ins at_ b).2.1 ∧ (∀ x, In l x → (rd (againIn mt k m i ins at_ b).2.1 x = -1 ↔ rd at_ x = -1)) ∧ (b = true → (againIn mt k m i ins at_ b).2.2 = true) ∧ ((againIn mt k m i ins at_ b).2.2 = false → (againIn mt k m i ins at_ b).1 = ins ∧ (againIn mt k m i ins at_ b).2.1 = at_ ∧ ∀ x : Int, (i : Int) ≤ x → x < (l.length : Int) → rd at_ x = 256 → freeR mt k ins x = none)
  | 0, i, ins, at_, b, hi, h => ⟨h, fun _ _ => Iff.rfl, fun h => h, fun _ => ⟨rfl, rfl, fun x h0 h1 => by omega⟩⟩
  | m + 1, i, ins, at_, b, hi, h => by
    rw [againIn]
    have hin : In l (i : Int) := ⟨by omega, by omega⟩
    by_cases hc : rd at_ (i : Int) = 256 ∧ (freeR mt k ins (i : Int)).isSome = true
    · rw [if_pos hc]
      have hnot : ∀ r', r' < k → rd at_ (i : Int) ≠ (r' : Int) := fun r' hr' e => by rw [hc.1] at e; omega
      obtain ⟨f1, f2, f3⟩ := h.free hs hin hnot
      obtain ⟨g1, g2, g3, g4⟩ := againIn_inv hs hk m (i + 1) _ _ true (by omega) f1
      refine ⟨g1, fun x hx => (g2 x hx).trans ?_, fun _ => g3 rfl, fun e => ?_⟩
      · by_cases e : x = (i : Int)
        · rw [e]
          exact ⟨fun h => absurd h (f2 hc.2), fun h => by rw [hc.1] at h; omega⟩
        · rw [f3 x hx e]
      · rw [g3 rfl] at e; cases e
    · rw [if_neg hc]
      obtain ⟨g1, g2, g3, g4⟩ := againIn_inv hs hk m (i + 1) ins at_ b (by omega) h
      refine ⟨g1, g2, g3, fun e => ?_⟩
      obtain ⟨e1, e2, e3⟩ := g4 e
      refine ⟨e1, e2, fun x h0 h1 hx => ?_⟩
      by_cases e4 : x = (i : Int)
      · rw [e4] at hx ⊢
        cases hf : freeR mt k ins (i : Int) with
        | none => rfl
        | some r => exact absurd ⟨hx, by rw [hf]; rfl⟩ hc
      · exact e3 x (by omega) h1 hx
theorem again_spec {mt : Int → Int → Bool} (hs : ∀ a b, mt a b = mt b a) {l : List Sp} {k : Nat} (hk : k < 256) : ∀ (f : Nat) (ins : List (List Int)) (at_ : List Int), cnt at_ < f → Inv mt l k ins at_ → Inv mt l k (againF mt k f ins at_).1 (againF mt k f ins at_).2 ∧ (∀ x, In l x → (rd (againF mt k f ins at_).2 x = -1 ↔ rd at_ x = -1)) ∧ ∀ x, In l x → rd (againF mt k f ins at_).2 x = 256 → freeR mt k (againF mt k f ins at_).1 x = none
  | 0, _, _, h, _ => by omega
  | f + 1, ins, at_, hc, h => by
    have h1 := againIn_spec (mt := mt) hk at_.length 0 ins at_ false (by rw [h.st.hal]; omega) h.st
    obtain ⟨g1, g2, g3, g4⟩ := againIn_inv hs hk at_.length 0 ins at_ false (by rw [h.st.hal]; omega) h
    rw [againF]
    by_cases e : (againIn mt k at_.length 0 ins at_ false).2.2 = true
    · rw [if_pos e]
      have h2 := h1.2.2 e
      simp only [Bool.false_eq_true, false_or] at h2
      obtain ⟨k1, k2, k3⟩ := again_spec hs hk f _ _ (Nat.lt_of_lt_of_le h2 (by omega)) g1
      exact ⟨k1, fun x hx => (k2 x hx).trans (g2 x hx), k3⟩
    · rw [if_neg e]
      obtain ⟨e1, e2, e3⟩ := g4 (by simpa using e)
      refine ⟨g1, g2, fun x hx he => ?_⟩
      dsimp only at he ⊢
      rw [e2] at he
      rw [e1]
      exact e3 x (by have := hx.1; omega) hx.2 he
theorem asg2_spec {mt : Int → Int → Bool} (hs : ∀ a b, mt a b = mt b a) (l : List Sp) {k : Nat} (hk : k < 256) : Inv mt l k (asg2 mt l k).1 (asg2 mt l k).2 ∧ (∀ x, In l x → (rd (asg2 mt l k).2 x = -1 ↔ (rdS l x).f0.length = 0)) ∧ ∀ x, In l x → rd (asg2 mt l k).2 x = 256 → freeR mt k (asg2 mt l k).1 x = none := by
  obtain ⟨h1, h2⟩ := asg1_spec hs l hk
  unfold asg2
  obtain ⟨k1, k2, k3⟩ := again_spec hs hk (l.length + 1) _ _ (by have := cnt_le (asg1 mt l k).2; rw [h1.st.hal] at this; omega) h1
  exact ⟨k1, fun x hx => (k2 x hx).trans (h2 x hx), k3⟩
/-- The slots so far. -/
structure Slot (mt : Int → Int → Bool) (l : List Sp) (at0 : List Int) (i : Nat) (rows : List (List Int)) (at_ : List Int) : Prop where
  hal : at_.length = l.length
  done : ∀ x, In l x → x < (i : Int) → rd at0 x = 256 → ∃ s : Nat, s < rows.length ∧ rd at_ x = 256 + (s : Int) ∧ x ∈ rAt rows s
  same : ∀ x, In l x → ((i : Int) ≤ x ∨ rd at0 x ≠ 256) → rd at_ x = rd at0 x
  row : ∀ s, s < rows.length → rAt rows s ≠ [] ∧ ∀ o ∈ rAt rows s, In l o ∧ o < (i : Int) ∧ rd at0 o = 256 ∧ rd at_ o = 256 + (s : Int)
  apart : ∀ s, s < rows.length → ∀ o ∈ rAt rows s, ∀ o' ∈ rAt rows s, o ≠ o' → mt o o' = false
theorem slot_step {mt : Int → Int → Bool} (hs : ∀ a b, mt a b = mt b a) {l : List Sp} {at0 : List Int} {i : Nat} {rows : List (List Int)} {at_ : List Int} (h : Slot mt l at0 i rows at_) (hi : i < l.length) (h256 : rd at0 (i : Int) = 256) {n : Nat} {R : List (List Int)} {old : List Int}
    (hn : n < R.length) (hle : rows.length ≤ R.length) (hold : ∀ o ∈ old, n < rows.length ∧ o ∈ rAt rows n) (hall : n < rows.length → ∀ o ∈ rAt rows n, o ∈ old)
    (hR : ∀ s, rAt R s = if s = n then old ++ [(i : Int)] else rAt rows s) (hlt : ∀ s, s < R.length → s ≠ n → s < rows.length) (hm : ∀ o ∈ old, mt (i : Int) o = false) : Slot mt l at0 (i + 1) R (at_.set i ((256 + n : Nat) : Int)) := by
  have hin : In l (i : Int) := ⟨by omega, by omega⟩
  have hrd : ∀ x, In l x → rd (at_.set i ((256 + n : Nat) : Int)) x = if x = (i : Int) then ((256 + n : Nat) : Int) else rd at_ x := fun x hx => by
    have := rd_set at_ (i : Int) x ((256 + n : Nat) : Int) (by omega) hx.1 (by rw [h.hal]; exact hx.2)
    rw [Int.toNat_natCast] at this
    exact this
  refine ⟨by rw [List.length_set]; exact h.hal, fun x hx hlt2 he => ?_, fun x hx hc => ?_, fun s hs2 => ⟨?_, fun o ho => ?_⟩, fun s hs2 o ho o' ho' hne => ?_⟩
  · by_cases e : x = (i : Int)
    · exact ⟨n, hn, by rw [hrd x hx, if_pos e]; omega, by rw [hR, if_pos rfl, e]; simp⟩
    · obtain ⟨s, s1, s2, s3⟩ := h.done x hx (by omega) he
      refine ⟨s, by omega, by rw [hrd x hx, if_neg e]; exact s2, ?_⟩
      rw [hR]
      by_cases e2 : s = n
      · rw [if_pos e2, List.mem_append]
        exact .inl (hall (by omega) x (by rw [← e2]; exact s3))
      · rw [if_neg e2]; exact s3
  · have e : x ≠ (i : Int) := fun e => by
      rcases hc with hc | hc
      · omega
      · rw [e] at hc; exact hc h256
    rw [hrd x hx, if_neg e]
    exact h.same x hx (hc.elim (fun h => .inl (by omega)) .inr)
  · rw [hR]
    by_cases e : s = n
    · rw [if_pos e]; simp
    · rw [if_neg e]; exact (h.row s (hlt s hs2 e)).1
  · rw [hR] at ho
    by_cases e : s = n
    · rw [if_pos e, List.mem_append, List.mem_singleton] at ho
      rcases ho with ho | rfl
      · have h1 := hold o ho
        obtain ⟨g1, g2, g3, g4⟩ := (h.row n h1.1).2 o h1.2
        exact ⟨g1, by omega, g3, by rw [hrd o g1, if_neg (by omega), g4, e]⟩
      · exact ⟨hin, by omega, h256, by rw [hrd _ hin, if_pos rfl, e]; omega⟩
    · rw [if_neg e] at ho
      obtain ⟨g1, g2, g3, g4⟩ := (h.row s (hlt s hs2 e)).2 o ho
      exact ⟨g1, by omega, g3, by rw [hrd o g1, if_neg (by omega), g4]⟩
  · rw [hR] at ho ho'
    by_cases e : s = n
    · rw [if_pos e, List.mem_append, List.mem_singleton] at ho ho'
      rcases ho with ho | rfl <;> rcases ho' with ho' | rfl
      · exact h.apart n (hold o ho).1 o (hold o ho).2 o' (hold o' ho').2 hne
      · rw [hs]; exact hm o ho
      · exact hm o' ho'
      · exact absurd rfl hne
    · rw [if_neg e] at ho ho'
      exact h.apart s (hlt s hs2 e) o ho o' ho' hne
theorem slots_spec {mt : Int → Int → Bool} (hs : ∀ a b, mt a b = mt b a) {l : List Sp} {at0 : List Int} : ∀ (m i : Nat) (rows : List (List Int)) (at_ : List Int), i + m = l.length → Slot mt l at0 i rows at_ → Slot mt l at0 l.length (slotsIn mt m i rows at_).1 (slotsIn mt m i rows at_).2
  | 0, i, rows, at_, hi, h => by
    obtain rfl : i = l.length := by omega
    exact h
  | m + 1, i, rows, at_, hi, h => by
    have hin : In l (i : Int) := ⟨by omega, by omega⟩
    have hsm := h.same (i : Int) hin (.inl (Int.le_refl _))
    rw [slotsIn]
    by_cases e : rd at_ (i : Int) = 256
    · rw [if_pos e]
      refine slots_spec hs m (i + 1) _ _ (by omega) ?_
      cases e2 : slotR mt rows (i : Int) with
      | none =>
        have e3 : slotI mt rows (i : Int) = rows ++ [[(i : Int)]] ∧ slotN mt rows (i : Int) = rows.length := by unfold slotI slotN; rw [e2]; exact ⟨rfl, rfl⟩
        rw [e3.1, e3.2]
        exact slot_step hs h (by omega) (by rw [← hsm]; exact e) (old := []) (by simp) (by simp) (fun o ho => by cases ho) (fun h => by omega) (fun s => by rw [rAt_app]; rfl) (fun s h1 h2 => by simp at h1; omega) (fun o ho => by cases ho)
      | some r =>
        have e3 := slot_some e2
        have hr := slotR_lt e2
        rw [e3.1, e3.2]
        have hm := (slotFrom_lt e2).2.2
        rw [List.any_eq_false] at hm
        exact slot_step hs h (by omega) (by rw [← hsm]; exact e) (old := rAt rows r) (by rw [List.length_set]; exact hr) (by rw [List.length_set]; omega) (fun o ho => ⟨hr, ho⟩) (fun _ o ho => ho) (fun s => rAt_set rfl hr _ s) (fun s h1 h2 => by rw [List.length_set] at h1; exact h1) (fun o ho => by simpa using hm o ho)
    · rw [if_neg e]
      refine slots_spec hs m (i + 1) _ _ (by omega) ⟨h.hal, fun x hx hlt he => ?_, fun x hx hc => ?_, fun s hs2 => ⟨(h.row s hs2).1, fun o ho => ?_⟩, h.apart⟩
      · by_cases e4 : x = (i : Int)
        · rw [e4] at he; rw [hsm] at e; exact absurd he e
        · exact h.done x hx (by omega) he
      · by_cases e4 : x = (i : Int)
        · rw [e4]; exact hsm
        · exact h.same x hx (hc.elim (fun h => .inl (by omega)) .inr)
      · obtain ⟨g1, g2, g3, g4⟩ := (h.row s hs2).2 o ho
        exact ⟨g1, by omega, g3, g4⟩
/-- What is given: all can be held so, slots without a gap, none in a slot where there need not be one. -/
structure Held (mt : Int → Int → Bool) (l : List Sp) (k : Nat) (at_ : List Int) (n : Nat) : Prop where
  len : at_.length = l.length
  none_ : ∀ x, In l x → (rd at_ x = -1 ↔ (rdS l x).f0.length = 0)
  vals : ∀ x, In l x → rd at_ x = -1 ∨ (0 ≤ rd at_ x ∧ rd at_ x < (k : Int)) ∨ (256 ≤ rd at_ x ∧ rd at_ x < 256 + (n : Int))
  apart : ∀ x y, In l x → In l y → x ≠ y → rd at_ x = rd at_ y → rd at_ x ≠ -1 → mt x y = false
  used : ∀ s : Nat, s < n → ∃ x, In l x ∧ rd at_ x = 256 + (s : Int)
  tight : ∀ x, In l x → 256 ≤ rd at_ x → ∀ r : Nat, r < k → ∃ y, In l y ∧ rd at_ y = (r : Int) ∧ mt x y = true
theorem asg_held {mt : Int → Int → Bool} (hs : ∀ a b, mt a b = mt b a) (l : List Sp) {k : Nat} (hk : k < 256) : Held mt l k (asg3 mt l k).2 (asg3 mt l k).1.length := by
  obtain ⟨h1, h2, h3⟩ := asg2_spec hs l hk
  have hS := slots_spec hs (at0 := (asg2 mt l k).2) l.length 0 [] (asg2 mt l k).2 (by omega) ⟨h1.st.hal, (fun x hx h => by have := hx.1; omega), fun _ _ _ => rfl, (fun s h => by cases h), (fun s h => by cases h)⟩
  rw [show slotsIn mt l.length 0 [] (asg2 mt l k).2 = asg3 mt l k from rfl] at hS
  have hv : ∀ x, In l x → (rd (asg2 mt l k).2 x ≠ 256 ∧ rd (asg3 mt l k).2 x = rd (asg2 mt l k).2 x ∧ (rd (asg3 mt l k).2 x = -1 ∨ (0 ≤ rd (asg3 mt l k).2 x ∧ rd (asg3 mt l k).2 x < (k : Int)))) ∨ (rd (asg2 mt l k).2 x = 256 ∧ ∃ s : Nat, s < (asg3 mt l k).1.length ∧ rd (asg3 mt l k).2 x = 256 + (s : Int) ∧ x ∈ rAt (asg3 mt l k).1 s) := fun x hx => by
    by_cases e : rd (asg2 mt l k).2 x = 256
    · exact .inr ⟨e, hS.done x hx hx.2 e⟩
    · have e2 := hS.same x hx (.inr e)
      rcases h1.vals x hx with h | h | h
      · exact .inl ⟨e, e2, .inl (by rw [e2]; exact h)⟩
      · exact absurd h e
      · exact .inl ⟨e, e2, .inr (by rw [e2]; exact h)⟩
  refine ⟨hS.hal, fun x hx => ?_, fun x hx => ?_, fun x y hx hy hne he hn => ?_, fun s hs2 => ?_, fun x hx h256 r hr => ?_⟩
  · rw [← h2 x hx]
    rcases hv x hx with ⟨_, e, _⟩ | ⟨e, s, _, e2, _⟩
    · rw [e]
    · rw [e, e2]; constructor <;> intro h <;> omega
  · rcases hv x hx with ⟨_, _, h | h⟩ | ⟨_, s, h, e2, _⟩
    · exact .inl h
    · exact .inr (.inl h)
    · exact .inr (.inr (by omega))
  · rcases hv x hx with ⟨_, e, h⟩ | ⟨_, s, s1, s2, s3⟩ <;> rcases hv y hy with ⟨_, e', h'⟩ | ⟨_, s', s1', s2', s3'⟩
    · obtain ⟨r, hr⟩ : ∃ r : Nat, rd (asg3 mt l k).2 x = (r : Int) := ⟨(rd (asg3 mt l k).2 x).toNat, by omega⟩
      exact h1.apart r (by omega) x (h1.back x hx r (by omega) (by omega)) y (h1.back y hy r (by omega) (by omega)) hne
    · omega
    · omega
    · have e2 : s' = s := by omega
      rw [e2] at s3'
      exact hS.apart s s1 x s3 y s3' hne
  · obtain ⟨g1, g2⟩ := hS.row s hs2
    obtain ⟨o, ho⟩ := List.exists_mem_of_ne_nil _ g1
    exact ⟨o, (g2 o ho).1, (g2 o ho).2.2.2⟩
  · rcases hv x hx with ⟨_, e, h⟩ | ⟨e, _⟩
    · omega
    · have hm := freeR_none (h3 x hx e) r hr
      obtain ⟨o, ho⟩ := List.exists_mem_of_ne_nil _ hm
      have ho2 := List.mem_filter.1 ho
      have hog : In l o := h1.st.good r o ho2.1
      have hc := h1.st.cons r hr o ho2.1
      refine ⟨o, hog, ?_, ho2.2⟩
      rcases hv o hog with ⟨_, e2, _⟩ | ⟨e2, _⟩
      · rw [e2]; exact hc
      · omega
end Go.Proofs.YtolhijnkgkfjgaaDoor.XC
