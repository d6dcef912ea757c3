/- They go out in the order in which they begin: the queue is a heap. Plain. -/
import Derived.Test.YtolhijnkgkfjgaaDoorHeld
import Derived.Test.YtolhijnkgkfjgaaDoorValid
namespace Go.Proofs.YtolhijnkgkfjgaaDoor.XC
open Go.RowKit Go.Proofs.YtolhijnkgkfjgaaDoorW.PrintWords Go.Proofs.YtolhijnkgkfjgaaDoorW.PrintLast
set_option linter.unusedVariables false
set_option linter.unusedSimpArgs false
theorem mtOf_symm (l : List Sp) (a b : Int) : mtOf l a b = mtOf l b a := ovl_symm _ _
theorem less_true {l : List Sp} {a b : Int} (h : lessF l a b = true) : frmS l a ≤ frmS l b := by
  unfold lessF at h
  split at h
  · omega
  · have := of_decide_eq_true h; omega
theorem less_false {l : List Sp} {a b : Int} (h : ¬ lessF l a b = true) : frmS l b ≤ frmS l a := by
  unfold lessF at h
  split at h
  · omega
  · have := of_decide_eq_false (Bool.not_eq_true _ ▸ h); omega
/-- Where the one at a place begins. -/
def fAt (l : List Sp) (xs : List Int) (i : Nat) : Int := frmS l (rd xs (i : Int))
theorem rd_swap {xs : List Int} {i j p : Nat} (hi : i < xs.length) (hj : j < xs.length) (hp : p < xs.length) : rd (swapF xs i j) (p : Int) = if p = j then rd xs (i : Int) else if p = i then rd xs (j : Int) else rd xs (p : Int) := by
  unfold swapF
  have h1 := rd_set (xs.set i (rd xs (j : Int))) (j : Int) (p : Int) (rd xs (i : Int)) (by omega) (by omega) (by rw [List.length_set]; omega)
  have h2 := rd_set xs (i : Int) (p : Int) (rd xs (j : Int)) (by omega) (by omega) (by omega)
  rw [Int.toNat_natCast] at h1 h2
  rw [h1, h2]
  by_cases e1 : p = j
  · rw [if_pos e1, if_pos (by omega)]
  · rw [if_neg e1, if_neg (by omega)]
    by_cases e2 : p = i
    · rw [if_pos e2, if_pos (by omega)]
    · rw [if_neg e2, if_neg (by omega)]
theorem fAt_swap {l : List Sp} {xs : List Int} {i j p : Nat} (hi : i < xs.length) (hj : j < xs.length) (hp : p < xs.length) : fAt l (swapF xs i j) p = if p = j then fAt l xs i else if p = i then fAt l xs j else fAt l xs p := by
  unfold fAt
  rw [rd_swap hi hj hp]
  split
  · rfl
  · split <;> rfl
/-- The first n are a heap. -/
def Hp (l : List Sp) (xs : List Int) (n : Nat) : Prop := ∀ i, 0 < i → i < n → fAt l xs ((i - 1) / 2) ≤ fAt l xs i
theorem Hp.least {l : List Sp} {xs : List Int} {n : Nat} (h : Hp l xs n) (i : Nat) (hi : i < n) : fAt l xs 0 ≤ fAt l xs i := by
  induction i using Nat.strongRecOn with
  | _ i ih =>
    by_cases e : i = 0
    · rw [e]; exact Int.le_refl _
    · exact Int.le_trans (ih ((i - 1) / 2) (by omega) (by omega)) (h i (by omega) hi)
theorem up_heap {l : List Sp} : ∀ (k j : Nat) (xs : List Int), j < k → j < xs.length → (∀ i, 0 < i → i < xs.length → i ≠ j → fAt l xs ((i - 1) / 2) ≤ fAt l xs i) → (0 < j → ∀ c, 0 < c → c < xs.length → (c - 1) / 2 = j → fAt l xs ((j - 1) / 2) ≤ fAt l xs c) → Hp l (upF l k j xs) xs.length
  | 0, _, _, h, _, _, _ => by omega
  | k + 1, j, xs, hk, hj, h1, h2 => by
    rw [upF]
    by_cases e : j = 0
    · rw [if_pos e]
      exact fun i h0 hi => h1 i h0 hi (by omega)
    · rw [if_neg e]
      have hp : (j - 1) / 2 < xs.length := by omega
      by_cases hl : lessF l (rd xs (j : Int)) (rd xs (((j - 1) / 2 : Nat) : Int)) = true
      · rw [if_pos hl]
        have hle : fAt l xs j ≤ fAt l xs ((j - 1) / 2) := less_true hl
        have H := up_heap (l := l) k ((j - 1) / 2) (swapF xs ((j - 1) / 2) j) (by omega) (by rw [swapF_len]; exact hp) (fun i h0 hi hne => ?_) (fun h0 c c0 hc hcj => ?_)
        · rw [swapF_len] at H; exact H
        · rw [swapF_len] at hi
          rw [fAt_swap hp hj (by omega), fAt_swap hp hj hi]
          by_cases e1 : i = j
          · rw [e1, if_neg (by omega), if_pos rfl, if_pos rfl]; exact hle
          · rw [if_neg e1, if_neg hne]
            by_cases e2 : (i - 1) / 2 = j
            · rw [if_pos e2]; exact h2 (by omega) i h0 hi e2
            · rw [if_neg e2]
              by_cases e3 : (i - 1) / 2 = (j - 1) / 2
              · rw [if_pos e3]
                have := h1 i h0 hi e1
                rw [e3] at this
                omega
              · rw [if_neg e3]; exact h1 i h0 hi e1
        · rw [swapF_len] at hc
          rw [fAt_swap hp hj (by omega), fAt_swap hp hj hc, if_neg (by omega), if_neg (by omega)]
          have hpe := h1 ((j - 1) / 2) h0 hp (by omega)
          by_cases e1 : c = j
          · rw [if_pos e1]; exact hpe
          · rw [if_neg e1, if_neg (by omega)]
            have := h1 c c0 hc e1
            rw [hcj] at this
            omega
      · rw [if_neg hl]
        have hle : fAt l xs ((j - 1) / 2) ≤ fAt l xs j := less_false hl
        intro i h0 hi
        by_cases e1 : i = j
        · rw [e1]; exact hle
        · exact h1 i h0 hi e1
theorem fAt_app {l : List Sp} {xs ys : List Int} {i : Nat} (hi : i < xs.length) : fAt l (xs ++ ys) i = fAt l xs i := by
  unfold fAt rd
  rw [Int.toNat_natCast, List.getD_eq_getElem?_getD, List.getD_eq_getElem?_getD, List.getElem?_append_left hi]
theorem push_heap {l : List Sp} {q : List Int} (h : Hp l q q.length) (x : Int) : Hp l (pushF l q x) (pushF l q x).length := by
  have hl : (q ++ [x]).length = q.length + 1 := by simp
  have H := up_heap (l := l) (q.length + 1) q.length (q ++ [x]) (by omega) (by omega) (fun i h0 hi hne => by
    rw [fAt_app (by omega), fAt_app (by omega)]
    exact h i h0 (by omega)) (fun h0 c c0 hc hcj => by omega)
  unfold pushF
  rw [upF_len]
  exact H
theorem pick_le {l : List Sp} {n i : Nat} {xs : List Int} (c : Nat) (hc : c = 2 * i + 1 ∨ c = 2 * i + 2) (hn : c < n) : fAt l xs (pickF l n i xs) ≤ fAt l xs c := by
  unfold pickF
  by_cases h : 2 * i + 2 < n ∧ lessF l (rd xs ((2 * i + 2 : Nat) : Int)) (rd xs ((2 * i + 1 : Nat) : Int)) = true
  · rw [if_pos h]
    have h1 : fAt l xs (2 * i + 2) ≤ fAt l xs (2 * i + 1) := less_true h.2
    rcases hc with rfl | rfl <;> omega
  · rw [if_neg h]
    rcases hc with rfl | rfl
    · exact Int.le_refl _
    · have h1 : fAt l xs (2 * i + 1) ≤ fAt l xs (2 * i + 2) := less_false (fun h2 => h ⟨hn, h2⟩)
      exact h1
theorem pick_or (l : List Sp) (n i : Nat) (xs : List Int) : pickF l n i xs = 2 * i + 1 ∨ pickF l n i xs = 2 * i + 2 := by
  unfold pickF
  split
  · exact .inr rfl
  · exact .inl rfl
theorem down_heap {l : List Sp} {n : Nat} : ∀ (k i : Nat) (xs : List Int), n ≤ k + i → n ≤ xs.length → (∀ c, 0 < c → c < n → (c - 1) / 2 ≠ i → fAt l xs ((c - 1) / 2) ≤ fAt l xs c) → (0 < i → ∀ c, 0 < c → c < n → (c - 1) / 2 = i → fAt l xs ((i - 1) / 2) ≤ fAt l xs c) → Hp l (downF l n k i xs) n ∧ ∀ p : Nat, n ≤ p → p < xs.length → rd (downF l n k i xs) (p : Int) = rd xs (p : Int)
  | 0, i, xs, hk, hn, h1, h2 => ⟨fun c c0 hc => h1 c c0 hc (by omega), fun _ _ _ => rfl⟩
  | k + 1, i, xs, hk, hn, h1, h2 => by
    rw [downF]
    by_cases e : 2 * i + 1 ≥ n
    · rw [if_pos e]
      exact ⟨fun c c0 hc => h1 c c0 hc (by omega), fun _ _ _ => rfl⟩
    · rw [if_neg e]
      have hpl := pickF_lt (l := l) (n := n) (i := i) (xs := xs) (by omega)
      have hpo := pick_or l n i xs
      have hple : ∀ c, (c = 2 * i + 1 ∨ c = 2 * i + 2) → c < n → fAt l xs (pickF l n i xs) ≤ fAt l xs c := fun c hc hcn => pick_le c hc hcn
      by_cases hl : lessF l (rd xs (pickF l n i xs : Int)) (rd xs (i : Int)) = true
      · rw [if_pos hl]
        have hle : fAt l xs (pickF l n i xs) ≤ fAt l xs i := less_true hl
        obtain ⟨p, hp⟩ : ∃ p, p = pickF l n i xs := ⟨_, rfl⟩
        rw [← hp] at hpl hpo hple hle ⊢
        have hi : i < xs.length := by omega
        have hpx : p < xs.length := by omega
        obtain ⟨H1, H2⟩ := down_heap (l := l) (n := n) k p (swapF xs i p) (by omega) (by rw [swapF_len]; exact hn) (fun c c0 hc hne => by
          rw [fAt_swap hi hpx (by omega), fAt_swap hi hpx (by omega), if_neg hne]
          by_cases e1 : c = p
          · rw [if_pos e1, if_pos (by omega)]; exact hle
          · rw [if_neg e1]
            by_cases e2 : (c - 1) / 2 = i
            · rw [if_pos e2, if_neg (by omega)]; exact hple c (by omega) hc
            · rw [if_neg e2]
              by_cases e3 : c = i
              · rw [if_pos e3, e3]; exact h2 (by omega) p (by omega) hpl.1 (by omega)
              · rw [if_neg e3]; exact h1 c c0 hc e2) (fun p0 c c0 hc hcp => by
          rw [fAt_swap hi hpx (by omega), fAt_swap hi hpx (by omega), if_neg (by omega), if_pos (by omega), if_neg (by omega), if_neg (by omega)]
          have := h1 c c0 hc (by omega)
          rw [hcp] at this
          exact this)
        refine ⟨H1, fun q h0 hq => ?_⟩
        rw [H2 q h0 (by rw [swapF_len]; exact hq), rd_swap hi hpx hq, if_neg (by omega), if_neg (by omega)]
      · rw [if_neg hl]
        have hle : fAt l xs i ≤ fAt l xs (pickF l n i xs) := less_false hl
        refine ⟨fun c c0 hc => ?_, fun _ _ _ => rfl⟩
        by_cases e2 : (c - 1) / 2 = i
        · rw [e2]
          exact Int.le_trans hle (hple c (by omega) hc)
        · exact h1 c c0 hc e2
theorem pop_heap {l : List Sp} {q : List Int} (hq : q.length ≠ 0) (h : Hp l q q.length) : Hp l (popF l q).dropLast (popF l q).dropLast.length ∧ (popF l q).getLastD 0 = rd q 0 := by
  have hl := popF_len l q
  have H := down_heap (l := l) (n := q.length - 1) (q.length - 1 + 1) 0 (swapF q 0 (q.length - 1)) (by omega) (by rw [swapF_len]; omega) (fun c c0 hc hne => by
    rw [fAt_swap (by omega) (by omega) (by omega), fAt_swap (by omega) (by omega) (by omega), if_neg (by omega), if_neg hne, if_neg (by omega), if_neg (by omega)]
    exact h c c0 (by omega)) (fun h0 => by omega)
  rw [show downF l (q.length - 1) (q.length - 1 + 1) 0 (swapF q 0 (q.length - 1)) = popF l q from rfl] at H
  have hs := pop_split l q hq
  have hdl : (popF l q).dropLast.length = q.length - 1 := by rw [List.length_dropLast, hl]
  refine ⟨fun i h0 hi => ?_, ?_⟩
  · have h1 := H.1 i h0 (by omega)
    rw [hs, fAt_app (by omega), fAt_app (by omega)] at h1
    exact h1
  · have h1 := H.2 (q.length - 1) (Nat.le_refl _) (by rw [swapF_len]; omega)
    rw [rd_swap (by omega) (by omega) (by omega), if_pos rfl] at h1
    rw [← show (((0 : Nat) : Int)) = (0 : Int) from rfl, ← h1]
    unfold rd
    rw [Int.toNat_natCast, List.getLastD_eq_getLast?, List.getLast?_eq_getElem?, List.getD_eq_getElem?_getD, hl]
    rfl
theorem pushAll_heap {l : List Sp} : ∀ (m i : Nat) (q : List Int), Hp l q q.length → Hp l (pushAll l m i q) (pushAll l m i q).length
  | 0, _, _, h => h
  | m + 1, i, q, h => by
    rw [pushAll]
    refine pushAll_heap m (i + 1) _ ?_
    split
    · exact h
    · exact push_heap h _
/-- What goes out begins at or ahead of all that wait. -/
theorem pop_least {l : List Sp} {q : List Int} (hq : q.length ≠ 0) (h : Hp l q q.length) {x : Int} (hx : x ∈ q) : frmS l ((popF l q).getLastD 0) ≤ frmS l x := by
  rw [(pop_heap hq h).2]
  obtain ⟨i, hi, rfl⟩ := List.getElem_of_mem hx
  have := h.least i hi
  unfold fAt at this
  rw [rd_get hi] at this
  exact this
/-- The hull of a span: where it begins, and where it ends. -/
def endS (s : Sp) : Int := (rdR s.f0 (((s.f0.length - 1 : Nat)) : Int)).f1
def hullAt (l : List Sp) (at_ y : Int) : Prop := In l y ∧ (rdS l y).f0.length ≠ 0 ∧ frmS l y ≤ at_ ∧ at_ ≤ endS (rdS l y)
/-- No more than k hulls meet where one begins. -/
def Few (l : List Sp) (k : Nat) : Prop := ∀ x, In l x → (rdS l x).f0.length ≠ 0 → ∀ ys : List Int, ys.Nodup → (∀ y ∈ ys, hullAt l (frmS l x) y) → ys.length ≤ k
theorem okR_ends : ∀ {rs : List Rg} {last : Int}, okR last rs = true → ∀ x ∈ rs, (rdR rs 0).f0 ≤ x.f0 ∧ x.f1 ≤ (rdR rs ((rs.length - 1 : Nat) : Int)).f1
  | [], _, _, x, hx => by cases hx
  | [r], last, h, x, hx => by
    rw [List.mem_singleton] at hx
    subst hx
    exact ⟨Int.le_refl _, Int.le_refl _⟩
  | r :: r2 :: rs, last, h, x, hx => by
    obtain ⟨h0, h1, h2, h3, h4⟩ := okR_cons.1 h
    have ih := okR_ends h4
    have e0 : rdR (r :: r2 :: rs) 0 = r := rfl
    have e1 : rdR (r :: r2 :: rs) (((r :: r2 :: rs).length - 1 : Nat) : Int) = rdR (r2 :: rs) (((r2 :: rs).length - 1 : Nat) : Int) := by
      unfold rdR rd_T41
      rw [Int.toNat_natCast, Int.toNat_natCast]
      rfl
    rw [e0, e1]
    rcases List.mem_cons.1 hx with rfl | hx
    · have := (ih r2 List.mem_cons_self).2
      have h5 := okR_mem h4 r2 List.mem_cons_self
      exact ⟨Int.le_refl _, by omega⟩
    · have h5 := okR_mem h4 x hx
      exact ⟨by omega, (ih x hx).2⟩
theorem meet_hull {l : List Sp} (hok : okL l = true) {x y : Int} (hx : In l x) (hy : In l y) (hm : mtOf l x y = true) (hf : frmS l y ≤ frmS l x) : hullAt l (frmS l x) y := by
  have e1 := List.all_eq_true.1 hok _ (rdS_mem hx.1 hx.2)
  have e2 := List.all_eq_true.1 hok _ (rdS_mem hy.1 hy.2)
  unfold okS at e1 e2
  rw [Bool.and_eq_true] at e1 e2
  unfold mtOf ovl at hm
  rw [List.any_eq_true] at hm
  obtain ⟨a, ha, hm⟩ := hm
  rw [List.any_eq_true] at hm
  obtain ⟨b, hb, hm⟩ := hm
  unfold ov at hm
  rw [Bool.and_eq_true, decide_eq_true_eq, decide_eq_true_eq] at hm
  have h1 := okR_ends e1.1 a ha
  have h2 := okR_ends e2.1 b hb
  refine ⟨hy, fun e => ?_, hf, ?_⟩
  · rw [List.length_eq_zero_iff.1 e] at hb; cases hb
  · show (rdR (rdS l x).f0 0).f0 ≤ endS (rdS l y)
    unfold endS
    omega
theorem pick_rows {mt : Int → Int → Bool} {l : List Sp} {k : Nat} {ins : List (List Int)} {at_ : List Int} (h : St l k ins at_) {id : Int} (hf : freeR mt k ins id = none) : ∀ m, m ≤ k → ∃ ys : List Int, ys.length = m ∧ ys.Nodup ∧ ∀ y ∈ ys, ∃ r, r < m ∧ y ∈ rAt ins r ∧ mt id y = true
  | 0, _ => ⟨[], rfl, List.nodup_nil, fun y hy => by cases hy⟩
  | m + 1, hm => by
    obtain ⟨ys, h1, h2, h3⟩ := pick_rows h hf m (by omega)
    obtain ⟨o, ho⟩ := List.exists_mem_of_ne_nil _ (freeR_none hf m (by omega))
    have ho := List.mem_filter.1 ho
    refine ⟨o :: ys, by rw [List.length_cons, h1], List.nodup_cons.2 ⟨fun hm2 => ?_, h2⟩, fun y hy => ?_⟩
    · obtain ⟨r, r1, r2, _⟩ := h3 o hm2
      have e1 := h.cons r (by omega) o r2
      have e2 := h.cons m (by omega) o ho.1
      omega
    · rcases List.mem_cons.1 hy with rfl | hy
      · exact ⟨m, by omega, ho.1, ho.2⟩
      · obtain ⟨r, r1, r2⟩ := h3 y hy
        exact ⟨r, by omega, r2⟩
theorem run_few {l : List Sp} (hok : okL l = true) {k : Nat} (hk : k < 256) (hF : Few l k) : ∀ (f : Nat) (q : List Int) (ins : List (List Int)) (at_ : List Int), q.length < f → Inv (mtOf l) l k ins at_ → NP q at_ → Ids l q → Hp l q q.length → (∀ r, r < k → ∀ o ∈ rAt ins r, ∀ x ∈ q, frmS l o ≤ frmS l x) → (∀ x, In l x → rd at_ x ≠ 256) → ∀ x, In l x → rd (runF (mtOf l) l k f q ins at_).2 x ≠ 256
  | 0, q, _, _, hl, _, _, _, _, _, _ => by omega
  | f + 1, q, ins, at_, hl, hI, hN, hQ, hH, hO, h256 => by
    rw [runF]
    by_cases hz : q.length = 0
    · rw [if_pos hz]; exact h256
    · rw [if_neg hz]
      have hps := pop_split l q hz
      have hpp := popF_perm l q hz
      have hph := (pop_heap hz hH).1
      have hle : ∀ x ∈ q, frmS l ((popF l q).getLastD 0) ≤ frmS l x := fun x hx => pop_least hz hH hx
      obtain ⟨q2, hq2⟩ : ∃ q2, q2 = (popF l q).dropLast := ⟨_, rfl⟩
      obtain ⟨id, hid⟩ : ∃ id, id = (popF l q).getLastD 0 := ⟨_, rfl⟩
      rw [← hq2, ← hid] at hps ⊢
      rw [← hq2] at hph
      rw [← hid] at hle
      rw [hps] at hpp
      have hpp := hpp.symm
      have hi := hQ.perm hpp
      have hin : In l id := ⟨hi.2.1, hi.2.2.1⟩
      have hidq := hi.2.2.2
      have hne : (rdS l id).f0.length ≠ 0 := by have := (hQ id hidq).2.2; omega
      have hnot : ∀ r', r' < k → rd at_ id ≠ (r' : Int) := fun r' _ e => by have := hN.no id hidq; omega
      have hsub : ∀ x ∈ q2, x ∈ q := fun x hx => (hpp.mem_iff).2 (List.mem_append.2 (.inl hx))
      have hfree : (freeR (mtOf l) k ins id).isSome = true := by
        cases e : freeR (mtOf l) k ins id with
        | some r => rfl
        | none =>
          obtain ⟨ys, y1, y2, y3⟩ := pick_rows hI.st e k (Nat.le_refl _)
          have hb := hF id hin hne (id :: ys) (List.nodup_cons.2 ⟨fun hm => by
            obtain ⟨r, r1, r2, _⟩ := y3 id hm
            exact hnot r r1 (hI.st.cons r r1 id r2), y2⟩) (fun y hy => by
            rcases List.mem_cons.1 hy with rfl | hy
            · have e1 := List.all_eq_true.1 hok _ (rdS_mem hin.1 hin.2)
              unfold okS at e1
              rw [Bool.and_eq_true] at e1
              have hm0 : rdR (rdS l y).f0 0 ∈ (rdS l y).f0 := by
                unfold rdR rd_T41
                rw [List.getD_eq_getElem?_getD, List.getElem?_eq_getElem (by show 0 < _; omega)]
                exact List.getElem_mem _
              have h1 := okR_ends e1.1 _ hm0
              have h2 := okR_mem e1.1 _ hm0
              refine ⟨hin, hne, Int.le_refl _, ?_⟩
              show (rdR (rdS l y).f0 0).f0 ≤ endS (rdS l y)
              unfold endS
              omega
            · obtain ⟨r, r1, r2, r3⟩ := y3 y hy
              exact meet_hull hok hin (hI.st.good r y r2) r3 (hO r r1 y r2 id hidq))
          rw [List.length_cons, y1] at hb
          omega
      obtain ⟨g1, g2, g3⟩ := hI.step (mtOf_symm l) hk hin (hN.no id hidq)
      have hfI : stepI (mtOf l) l k ins at_ id = freeI (mtOf l) k ins id := by unfold stepI; rw [if_pos hfree]
      have hfA : stepA (mtOf l) l k ins at_ id = freeA (mtOf l) k ins at_ id := by unfold stepA; rw [if_pos hfree]
      refine run_few hok hk hF f q2 _ _ ?_ g1 (hN.step hI.st hQ hpp) hi.1 hph (fun r hr o ho x hx => ?_) (fun x hx => ?_)
      · have := hpp.length_eq
        rw [List.length_append] at this
        simp at this
        omega
      · rw [hfI] at ho
        unfold freeI at ho
        cases e : freeR (mtOf l) k ins id with
        | none => rw [e] at hfree; cases hfree
        | some r' =>
          rw [e] at ho
          have ho : o ∈ rAt (putI ins r' id) r := ho
          unfold putI at ho
          rw [rAt_set hI.st.hki (freeR_some e).1] at ho
          by_cases e2 : r = r'
          · rw [if_pos e2, List.mem_append, List.mem_singleton] at ho
            rcases ho with ho | rfl
            · exact hO r' (freeR_some e).1 o ho x (hsub x hx)
            · exact hle x (hsub x hx)
          · rw [if_neg e2] at ho
            exact hO r hr o ho x (hsub x hx)
      · rw [hfA]
        unfold freeA
        cases e : freeR (mtOf l) k ins id with
        | none => exact h256 x hx
        | some r' =>
          show rd (at_.set id.toNat (r' : Int)) x ≠ 256
          rw [hI.st.rds hin hx]
          have := (freeR_some e).1
          split
          · omega
          · exact h256 x hx
theorem asg1_few {l : List Sp} (hok : okL l = true) {k : Nat} (hk : k < 256) (hF : Few l k) : ∀ x, In l x → rd (asg1 (mtOf l) l k).2 x ≠ 256 := by
  obtain ⟨p1, p2, p3, p4⟩ := pushAll_spec l l.length 0 [] (by omega) List.nodup_nil (fun x hx => by cases hx) (fun x hx => by cases hx) (fun x h0 h1 => by omega) (Nat.le_refl _)
  unfold asg1
  exact run_few hok hk hF _ _ _ _ (by omega) (Inv.start _ l k) ⟨p1, fun x hx => rd_rep _ _ _ (p2 x hx).1 (p2 x hx).2.1⟩ p2 (pushAll_heap l.length 0 [] (fun i _ h => by cases h)) (fun r _ o ho => by rw [rAt_rep] at ho; cases ho) (fun x hx => by rw [rd_rep _ _ _ hx.1 hx.2]; decide)
theorem againIn_none {mt : Int → Int → Bool} {k : Nat} : ∀ (m i : Nat) (ins : List (List Int)) (at_ : List Int) (b : Bool), (∀ j : Nat, i ≤ j → j < i + m → rd at_ (j : Int) ≠ 256) → againIn mt k m i ins at_ b = (ins, at_, b)
  | 0, _, _, _, _, _ => rfl
  | m + 1, i, ins, at_, b, h => by
    rw [againIn, if_neg (fun h2 => h i (Nat.le_refl _) (by omega) h2.1)]
    exact againIn_none m (i + 1) ins at_ b (fun j h1 h2 => h j (by omega) (by omega))
theorem slots_none {mt : Int → Int → Bool} : ∀ (m i : Nat) (rows : List (List Int)) (at_ : List Int), (∀ j : Nat, i ≤ j → j < i + m → rd at_ (j : Int) ≠ 256) → slotsIn mt m i rows at_ = (rows, at_)
  | 0, _, _, _, _ => rfl
  | m + 1, i, rows, at_, h => by
    rw [slotsIn, if_neg (h i (Nat.le_refl _) (by omega))]
    exact slots_none m (i + 1) rows at_ (fun j h1 h2 => h j (by omega) (by omega))
/-- Where no more than k hulls meet, no slot is needed. -/
theorem asg3_few {l : List Sp} (hok : okL l = true) {k : Nat} (hk : k < 256) (hF : Few l k) : (asg3 (mtOf l) l k).1.length = 0 := by
  have h1 := asg1_few hok hk hF
  have hal := (asg1_spec (mtOf_symm l) l hk).1.st.hal
  have h2 : (asg2 (mtOf l) l k).2 = (asg1 (mtOf l) l k).2 := by
    unfold asg2
    rw [againF, againIn_none _ _ _ _ _ (fun j _ hj => h1 (j : Int) ⟨by omega, by omega⟩)]
    rfl
  unfold asg3
  rw [h2, slots_none _ _ _ _ (fun j _ hj => h1 (j : Int) ⟨by omega, by omega⟩)]
  rfl
/-- k spans, or fewer, need no slot. -/
theorem Held.few {mt : Int → Int → Bool} {l : List Sp} {k : Nat} {at_ : List Int} {n : Nat} (h : Held mt l k at_ n) (hmt : ∀ x y, mt x y = true → (rdS l y).f0.length ≠ 0) (hs : ∀ a b, mt a b = mt b a) (hk : k < 256) (hn : n ≠ 0) : ∃ ys : List Int, ys.length = k + 1 ∧ ys.Nodup ∧ ∀ y ∈ ys, In l y ∧ (rdS l y).f0.length ≠ 0 := by
  obtain ⟨x, hx, e⟩ := h.used 0 (by omega)
  have H : ∀ m, m ≤ k → ∃ ys : List Int, ys.length = m ∧ ys.Nodup ∧ ∀ y ∈ ys, In l y ∧ (rdS l y).f0.length ≠ 0 ∧ ∃ r : Nat, r < m ∧ rd at_ y = (r : Int) := fun m => by
    induction m with
    | zero => exact fun _ => ⟨[], rfl, List.nodup_nil, fun y hy => by cases hy⟩
    | succ m ih =>
      intro hm
      obtain ⟨ys, h1, h2, h3⟩ := ih (by omega)
      obtain ⟨y, hy, e1, e2⟩ := h.tight x hx (by omega) m (by omega)
      refine ⟨y :: ys, by rw [List.length_cons, h1], List.nodup_cons.2 ⟨fun hm2 => ?_, h2⟩, fun z hz => ?_⟩
      · obtain ⟨_, _, r, r1, r2⟩ := h3 y hm2
        omega
      · rcases List.mem_cons.1 hz with rfl | hz
        · exact ⟨hy, hmt _ _ e2, m, by omega, e1⟩
        · obtain ⟨a, b, r, r1, r2⟩ := h3 z hz
          exact ⟨a, b, r, by omega, r2⟩
  obtain ⟨ys, h1, h2, h3⟩ := H k (Nat.le_refl _)
  refine ⟨x :: ys, by rw [List.length_cons, h1], List.nodup_cons.2 ⟨fun hm => ?_, h2⟩, fun z hz => ?_⟩
  · obtain ⟨_, _, r, r1, r2⟩ := h3 x hm
    omega
  · rcases List.mem_cons.1 hz with rfl | hz
    · refine ⟨hx, fun e2 => ?_⟩
      have := (h.none_ _ hx).2 e2
      omega
    · exact ⟨(h3 z hz).1, (h3 z hz).2.1⟩
end Go.Proofs.YtolhijnkgkfjgaaDoor.XC
