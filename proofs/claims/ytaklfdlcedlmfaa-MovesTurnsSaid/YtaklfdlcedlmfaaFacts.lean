/- What holds of moves that can be done all at once; their places; their rings. No program. -/
import Derived.Test.YtaklfdlcedlmfaaCheck
import Derived.Test.YtaklfdlcedlmfaaRing
namespace Go.Proofs.Ytaklfdlcedlmfaa.XM
open Go.RowKit Mo
set_option linter.unusedVariables false
abbrev Mv := S25
theorem okGo_facts : ∀ (l : List Mv) (g : Int → Bool), okGo l g = true → (∀ m ∈ l, away m.f0 = false ∧ away m.f1 = false ∧ g m.f0 = false) ∧ (l.map (·.f0)).Nodup
  | [], _, _ => ⟨fun _ h => (by cases h), List.nodup_nil⟩
  | m :: l, g, h => by
    rw [okGo] at h
    by_cases h0 : away m.f0 = true
    · rw [if_pos h0] at h; cases h
    rw [if_neg h0] at h
    by_cases h1 : away m.f1 = true
    · rw [if_pos h1] at h; cases h
    rw [if_neg h1] at h
    by_cases h2 : g m.f0 = true
    · rw [if_pos h2] at h; cases h
    rw [if_neg h2] at h
    obtain ⟨h3, h4⟩ := okGo_facts l _ h
    refine ⟨fun m' hm' => ?_, ?_⟩
    · rw [List.mem_cons] at hm'
      rcases hm' with rfl | hm'
      · exact ⟨by simpa using h0, by simpa using h1, by simpa using h2⟩
      · obtain ⟨a1, a2, a3⟩ := h3 m' hm'
        refine ⟨a1, a2, ?_⟩
        by_cases e : m'.f0 = m.f0
        · simp [e] at a3
        · simpa [e] using a3
    · rw [List.map_cons, List.nodup_cons]
      refine ⟨fun hm => ?_, h4⟩
      obtain ⟨m', hm', e⟩ := List.mem_map.1 hm
      have := (h3 m' hm').2.2
      simp [e] at this
theorem okM_facts {l : List Mv} (h : okM l = true) : (∀ m ∈ l, away m.f0 = false ∧ away m.f1 = false) ∧ (l.map (·.f0)).Nodup := by
  obtain ⟨h1, h2⟩ := okGo_facts l _ h
  exact ⟨fun m hm => ⟨(h1 m hm).1, (h1 m hm).2.1⟩, h2⟩
theorem rd_mem (l : List Mv) (i : Nat) (h : i < l.length) : rd_T25 l (i : Int) ∈ l := by
  unfold rd_T25
  rw [Int.toNat_natCast, List.getD_eq_getElem?_getD, List.getElem?_eq_getElem h]
  exact List.getElem_mem h
theorem okM_good {l : List Mv} (h : okM l = true) : GoodM l := fun i hi => by
  have := (okM_facts h).1 _ (rd_mem l i hi)
  exact ⟨away_wf this.1, away_wf this.2⟩
theorem fold_some : ∀ (l : List Mv) (f : Int → Option Int) (x y : Int), l.foldl srcStep f x = some y → (∃ m ∈ l, m.f0 = x ∧ m.f1 = y ∧ m.f0 ≠ m.f1) ∨ f x = some y
  | [], _, _, _, h => .inr h
  | m :: l, f, x, y, h => by
    rw [List.foldl_cons] at h
    rcases fold_some l _ x y h with ⟨m', hm', h1⟩ | h1
    · exact .inl ⟨m', List.mem_cons_of_mem _ hm', h1⟩
    · unfold srcStep up at h1
      by_cases e : m.f0 = m.f1
      · rw [if_pos e] at h1; exact .inr h1
      · rw [if_neg e] at h1
        by_cases e2 : x = m.f0
        · rw [if_pos e2] at h1
          exact .inl ⟨m, List.mem_cons_self, e2.symm, Option.some.inj h1, e⟩
        · rw [if_neg e2] at h1; exact .inr h1
theorem fold_has : ∀ (l : List Mv) (f : Int → Option Int) (x : Int), (l.foldl srcStep f x).isSome = true ↔ (∃ m ∈ l, m.f0 = x ∧ m.f0 ≠ m.f1) ∨ (f x).isSome = true
  | [], f, x => by simp
  | m :: l, f, x => by
    rw [List.foldl_cons, fold_has l]
    unfold srcStep up
    by_cases e : m.f0 = m.f1
    · rw [if_pos e]; simp [e]
    · rw [if_neg e]
      by_cases e2 : x = m.f0
      · simp [e2, e]
      · have e3 : ¬ m.f0 = x := fun h => e2 h.symm
        simp [e2, e3]
/-- The places that are written anew. -/
def keysOf (l : List Mv) : List Int := (l.filter fun m => m.f0 != m.f1).map (·.f0)
def placesOf (l : List Mv) : List Int := (keysOf l).mergeSort Sh.leI
theorem keys_iff (l : List Mv) (x : Int) : x ∈ keysOf l ↔ (srcs l x).isSome = true := by
  unfold keysOf srcs
  rw [fold_has]
  simp only [List.mem_map, List.mem_filter, Option.isSome_none, Bool.false_eq_true, or_false, bne_iff_ne, ne_eq]
  constructor
  · rintro ⟨m, ⟨h1, h2⟩, h3⟩
    exact ⟨m, h1, h3, h2⟩
  · rintro ⟨m, h1, h3, h2⟩
    exact ⟨m, ⟨h1, h2⟩, h3⟩
theorem keys_nodup {l : List Mv} (h : (l.map (·.f0)).Nodup) : (keysOf l).Nodup := (h.sublist ((List.filter_sublist).map _))
theorem srcs_some {l : List Mv} {x y : Int} (h : srcs l x = some y) : ∃ m ∈ l, m.f0 = x ∧ m.f1 = y ∧ m.f0 ≠ m.f1 := by
  rcases fold_some l _ x y h with h | h
  · exact h
  · cases h
theorem srcs_self (l : List Mv) (x : Int) : srcs l x ≠ some x := fun h => by
  obtain ⟨m, _, h1, h2, h3⟩ := srcs_some h
  exact h3 (h1.trans h2.symm)
theorem srcs_wf {l : List Mv} (h : okM l = true) (x y : Int) (hs : srcs l x = some y) : Wf y := by
  obtain ⟨m, hm, _, h2, _⟩ := srcs_some hs
  rw [← h2]
  exact away_wf ((okM_facts h).1 m hm).2
theorem keys_wf {l : List Mv} (h : okM l = true) {x : Int} (hx : x ∈ keysOf l) : Wf x := by
  unfold keysOf at hx
  obtain ⟨m, hm, rfl⟩ := List.mem_map.1 hx
  exact away_wf ((okM_facts h).1 m ((List.mem_filter.1 hm).1)).1
theorem keys_len (l : List Mv) : (keysOf l).length ≤ l.length := by
  unfold keysOf
  rw [List.length_map]
  exact List.length_filter_le _ _
theorem sort_perm {xs ys : List Int} (h : xs.Perm ys) : xs.mergeSort Sh.leI = ys.mergeSort Sh.leI := by
  have tr : ∀ a b c : Int, Sh.leI a b = true → Sh.leI b c = true → Sh.leI a c = true := fun a b c h1 h2 => by simp only [Sh.leI, decide_eq_true_eq] at *; omega
  have tt : ∀ a b : Int, (Sh.leI a b || Sh.leI b a) = true := fun a b => by simp only [Sh.leI, Bool.or_eq_true, decide_eq_true_eq]; omega
  refine List.Perm.eq_of_pairwise (le := fun a b => Sh.leI a b = true) (fun a b _ _ h1 h2 => ?_) (List.pairwise_mergeSort tr tt xs) (List.pairwise_mergeSort tr tt ys) (((List.mergeSort_perm xs Sh.leI).trans h).trans (List.mergeSort_perm ys Sh.leI).symm)
  simp only [Sh.leI, decide_eq_true_eq] at h1 h2
  omega
/-- What was met of a map's keys. -/
def Coll (f : Int → Option Int) (left : Int → Bool) (ss : List Int) : Prop := ss.Nodup ∧ (∀ x ∈ ss, Wf x) ∧ ∀ x, Wf x → (x ∈ ss ↔ ((f x).isSome = true ∧ left x = false))
theorem Coll.start (f : Int → Option Int) : Coll f (fun x => (f x).isSome) [] := ⟨List.nodup_nil, fun _ h => (by cases h), fun x _ => ⟨fun h => (by cases h), fun h => by have h1 := h.1; rw [show (f x).isSome = false from h.2] at h1; cases h1⟩⟩
theorem Coll.step {f : Int → Option Int} {left : Int → Bool} {ss : List Int} (h : Coll f left ss) {x c : Int} (hx : Wf x) (hl : left x = true) (hf : f x = some c) : Coll f (fun z => left z && !(z == x)) (ss ++ [x]) := by
  have hnew : x ∉ ss := fun hm => by have := ((h.2.2 x hx).1 hm).2; rw [hl] at this; cases this
  refine ⟨List.nodup_append.2 ⟨h.1, by simp, fun a ha b hb e => hnew (by rw [List.mem_singleton] at hb; rw [← hb, ← e]; exact ha)⟩, fun y hy => ?_, fun y hy => ?_⟩
  · rw [List.mem_append, List.mem_singleton] at hy
    rcases hy with hy | rfl
    · exact h.2.1 y hy
    · exact hx
  · rw [List.mem_append, List.mem_singleton, h.2.2 y hy]
    by_cases e : y = x
    · subst e; simp [hf]
    · simp [e]
theorem Coll.perm {l : List Mv} (hok : okM l = true) {left : Int → Bool} {ss : List Int} (h : Coll (srcs l) left ss) (hl : ∀ x, Wf x → left x = false) : ss.mergeSort Sh.leI = placesOf l := by
  refine sort_perm ((List.perm_ext_iff_of_nodup h.1 (keys_nodup (okM_facts hok).2)).2 fun x => ?_)
  constructor
  · intro hx
    exact (keys_iff l x).2 ((h.2.2 x (h.2.1 x hx)).1 hx).1
  · intro hx
    have hw := keys_wf hok hx
    exact (h.2.2 x hw).2 ⟨(keys_iff l x).1 hx, hl x hw⟩
theorem Coll.len {l : List Mv} {left : Int → Bool} {ss : List Int} (h : Coll (srcs l) left ss) : ss.length ≤ l.length :=
  Nat.le_trans (nodup_le ss (keysOf l) h.1 (fun x hx => (keys_iff l x).2 ((h.2.2 x (h.2.1 x hx)).1 hx).1)) (keys_len l)
/-- One place more: its ring, if it is its least. -/
def ringStep (f : Int → Option Int) (N : Nat) (out : List (List Int)) (a : Int) : List (List Int) :=
  if (ringF f a N [] (f a)).length = 0 then out else if Lib.minOf (ringF f a N [] (f a)) = a then out ++ [ringF f a N [] (f a)] else out
def ringsOf (l : List Mv) : List (List Int) := (placesOf l).foldl (ringStep (srcs l) l.length) []
theorem places_len (l : List Mv) : (placesOf l).length ≤ l.length := by
  unfold placesOf
  rw [List.length_mergeSort]
  exact keys_len l
theorem places_wf {l : List Mv} (h : okM l = true) : ∀ x ∈ placesOf l, Wf x := fun x hx => by
  unfold placesOf at hx
  exact keys_wf h ((List.mergeSort_perm _ _).mem_iff.1 hx)
end Go.Proofs.Ytaklfdlcedlmfaa.XM
