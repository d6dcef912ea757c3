/- The document's answers of chapter 20, as plain functions: May, from, Rings. No program. -/
import Derived.Test.YtaklfdlcedlmfaaDoorPureDo
import Derived.Test.YtaklfdlcedlmfaaDoorPlanEnd
import Derived.Test.YtaklfdlcedlmfaaDoorXMx5
namespace Go.Proofs.YtaklfdlcedlmfaaDoor.XM
open Go.RowKit Mo Go.Proofs.YtaklfdlcedlmfaaDoorW.PrintWords
set_option linter.unusedVariables false
set_option linter.unusedSimpArgs false
def rT (l : List Rv) (i : Nat) : Int := (rd_T32 l (i : Int)).f0
def rF (l : List Rv) (i : Nat) : Int := (rd_T32 l (i : Int)).f1
theorem rt_mem (l : List Rv) (i : Nat) (h : i < l.length) : (⟨rT l i, rF l i⟩ : Mv) ∈ l.map conv := by
  refine List.mem_map.2 ⟨rd_T32 l (i : Int), ?_, rfl⟩
  unfold rd_T32
  rw [Int.toNat_natCast, List.getD_eq_getElem?_getD, List.getElem?_eq_getElem h]
  exact List.getElem_mem h
theorem rt_of_mem {l : List Rv} {m : Mv} (h : m ∈ l.map conv) : ∃ i, i < l.length ∧ rT l i = m.f0 ∧ rF l i = m.f1 := by
  obtain ⟨x, hx, rfl⟩ := List.mem_map.1 h
  obtain ⟨i, hi, e⟩ := List.mem_iff_getElem.1 hx
  have h2 : rd_T32 l (i : Int) = x := by
    unfold rd_T32
    rw [Int.toNat_natCast, List.getD_eq_getElem?_getD, List.getElem?_eq_getElem hi]
    exact e
  refine ⟨i, hi, ?_, ?_⟩
  · unfold rT; rw [h2]; rfl
  · unfold rF; rw [h2]; rfl
theorem to_get (l : List Rv) (i : Nat) (h : i < l.length) : ((l.map conv).map (·.f0))[i]'(by simpa using h) = rT l i := by
  simp only [List.getElem_map]
  unfold rT rd_T32
  rw [Int.toNat_natCast, List.getD_eq_getElem?_getD, List.getElem?_eq_getElem h]
  rfl
theorem okGo_of : ∀ (l : List Mv) (g : Int → Bool), (∀ m ∈ l, away m.f0 = false ∧ away m.f1 = false ∧ g m.f0 = false) → (l.map (·.f0)).Nodup → okGo l g = true
  | [], _, _, _ => rfl
  | m :: l, g, h, hn => by
    have h1 := h m List.mem_cons_self
    rw [List.map_cons, List.nodup_cons] at hn
    rw [okGo, if_neg (by rw [h1.1]; decide), if_neg (by rw [h1.2.1]; decide), if_neg (by rw [h1.2.2]; decide)]
    refine okGo_of l _ (fun m' hm' => ?_) hn.2
    have h2 := h m' (List.mem_cons_of_mem _ hm')
    refine ⟨h2.1, h2.2.1, ?_⟩
    rw [if_neg (fun e => hn.1 (List.mem_map.2 ⟨m', hm', e⟩))]
    exact h2.2.2
def okAt (l : List Rv) (i : Nat) : Prop := away (rT l i) = false ∧ away (rF l i) = false ∧ ∀ j, j < i → rT l j ≠ rT l i
theorem okM_iff (l : List Rv) : okM (l.map conv) = true ↔ ∀ i, i < l.length → okAt l i := by
  constructor
  · intro h i hi
    obtain ⟨h1, h2⟩ := okM_facts h
    have h3 := h1 _ (rt_mem l i hi)
    refine ⟨h3.1, h3.2, fun j hj e => ?_⟩
    have h4 := to_get l i hi
    have h5 := to_get l j (by omega)
    have := (List.getElem_inj (h₀ := by simp; omega) (h₁ := by simp; omega) h2).1 (h5.trans (e.trans h4.symm))
    omega
  · intro h
    refine okGo_of _ _ (fun m hm => ?_) ?_
    · obtain ⟨i, hi, e1, e2⟩ := rt_of_mem hm
      have := h i hi
      rw [← e1, ← e2]
      exact ⟨this.1, this.2.1, rfl⟩
    · rw [List.nodup_iff_pairwise_ne, List.pairwise_iff_getElem]
      intro j i hj hi hji
      have hi' : i < l.length := by simpa using hi
      rw [to_get l i hi', to_get l j (by omega)]
      exact (h i hi').2.2 j hji
theorem away_iff (x : Int) : away x = false ↔ ¬ x < 0 ∧ ¬ x > 1048576 := by
  unfold away
  by_cases h : x < 0
  · rw [if_pos h]; simp [h]
  · rw [if_neg h]; simp [h]
theorem may_l1 (l : List Rv) (hl : l.length < 1000000) (i : Nat) (hi : i < l.length) (b : Bool) (K : Nat) (hK : (∀ j, j < i → rT l j ≠ rT l i) → ∀ k, K ≤ k → mandrelref20_May.l0 k l ((i + 1 : Nat) : Int) = some b) (hb : ¬ (∀ j, j < i → rT l j ≠ rT l i) → b = false) :
    ∀ (d j k : Nat), i - j = d → j ≤ i → d + 1 + K ≤ k → (∀ j', j' < j → rT l j' ≠ rT l i) → mandrelref20_May.l1 k l (i : Int) (j : Int) = some b
  | 0, j, k, hd, hj, hk, h => by
    obtain ⟨k, rfl⟩ : ∃ m, k = m + 1 := ⟨k - 1, by omega⟩
    rw [mandrelref20_May.l1, if_neg (by omega), wrap_s i l.length hi (by omega)]
    exact hK (fun j' hj' => h j' (by omega)) k (by omega)
  | d + 1, j, k, hd, hj, hk, h => by
    obtain ⟨k, rfl⟩ : ∃ m, k = m + 1 := ⟨k - 1, by omega⟩
    rw [mandrelref20_May.l1, if_pos (by omega), if_pos (by omega), if_pos (by omega), if_pos (by omega), if_pos (by omega)]
    show (if rT l j = rT l i then _ else _) = _
    by_cases e : rT l j = rT l i
    · rw [if_pos e, hb (fun h2 => h2 j (by omega) e)]
    · rw [if_neg e, wrap_s j l.length (by omega) (by omega)]
      refine may_l1 l hl i hi b K hK hb d (j + 1) k (by omega) (by omega) (by omega) (fun j' hj' => ?_)
      by_cases e2 : j' = j
      · rw [e2]; exact e
      · exact h j' (by omega)
theorem may_l0 (l : List Rv) (hl : l.length ≤ 60) : ∀ (d i k : Nat), l.length - i = d → i ≤ l.length → d * 70 + 1 ≤ k → (∀ j, j < i → okAt l j) → mandrelref20_May.l0 k l (i : Int) = some (okM (l.map conv))
  | 0, i, k, hd, hi, hk, h => by
    obtain ⟨k, rfl⟩ : ∃ m, k = m + 1 := ⟨k - 1, by omega⟩
    rw [mandrelref20_May.l0, if_neg (by omega), (okM_iff l).2 (fun j hj => h j (by omega))]
  | d + 1, i, k, hd, hi, hk, h => by
    obtain ⟨k, rfl⟩ : ∃ m, k = m + 2 := ⟨k - 2, by omega⟩
    rw [mandrelref20_May.l0, if_pos (by omega), if_pos (by omega)]
    have hno : ¬ okAt l i → okM (l.map conv) = false := fun hn => by
      rw [← Bool.not_eq_true]
      exact fun h2 => hn ((okM_iff l).1 h2 i (by omega))
    have hj1t : mandrelref20_May.j1 (k + 1) l (i : Int) true = some false := by rw [mandrelref20_May.j1, if_pos rfl]
    show (if rT l i < 0 then _ else if rT l i > 1048576 then _ else if rF l i < 0 then _ else _) = _
    by_cases h1 : rT l i < 0
    · rw [if_pos h1, hj1t, hno (fun h2 => ((away_iff _).1 h2.1).1 h1)]
    rw [if_neg h1]
    by_cases h2 : rT l i > 1048576
    · rw [if_pos h2, hj1t, hno (fun h3 => ((away_iff _).1 h3.1).2 h2)]
    rw [if_neg h2]
    by_cases h3 : rF l i < 0
    · rw [if_pos h3, hj1t, hno (fun h4 => ((away_iff _).1 h4.2.1).1 h3)]
    rw [if_neg h3]
    by_cases h4 : rF l i > 1048576
    · rw [show decide ((rd_T32 l (i : Int)).f1 > 1048576) = true from decide_eq_true h4, hj1t, hno (fun h5 => ((away_iff _).1 h5.2.1).2 h4)]
    rw [show decide ((rd_T32 l (i : Int)).f1 > 1048576) = false from decide_eq_false h4, mandrelref20_May.j1, if_neg (by decide)]
    refine may_l1 l (by omega) i (by omega) _ (d * 70 + 1) (fun hd2 k2 hk2 => may_l0 l hl d (i + 1) k2 (by omega) (by omega) hk2 (fun j hj => ?_)) (fun hd2 => hno (fun h5 => hd2 h5.2.2)) i 0 k (by omega) (by omega) (by omega) (fun j hj => by omega)
    by_cases e : j = i
    · rw [e]; exact ⟨(away_iff _).2 ⟨h1, h2⟩, (away_iff _).2 ⟨h3, h4⟩, hd2⟩
    · exact h j (by omega)
theorem may_f (l : List Rv) (hl : l.length ≤ 60) (k : Nat) (hk : 5000 ≤ k) : mandrelref20_May.f k l = some (okM (l.map conv)) :=
  may_l0 l hl l.length 0 k (by omega) (by omega) (by omega) (fun j hj => by omega)
theorem srcs_mem : ∀ (l : List Mv) (f : Int → Option Int) (m : Mv), (l.map (·.f0)).Nodup → m ∈ l → m.f0 ≠ m.f1 → l.foldl srcStep f m.f0 = some m.f1
  | [], _, _, _, h, _ => by cases h
  | m' :: l, f, m, hn, h, hne => by
    rw [List.map_cons, List.nodup_cons] at hn
    rw [List.foldl_cons]
    rw [List.mem_cons] at h
    rcases h with rfl | h
    · have key : ∀ (l : List Mv) (g : Int → Option Int), m.f0 ∉ l.map (·.f0) → g m.f0 = some m.f1 → l.foldl srcStep g m.f0 = some m.f1 := by
        intro l
        induction l with
        | nil => intro g _ h; exact h
        | cons x l ih =>
          intro g hx h
          rw [List.map_cons, List.mem_cons] at hx
          rw [List.foldl_cons]
          refine ih _ (fun h => hx (.inr h)) ?_
          unfold srcStep Mo.up
          by_cases e : x.f0 = x.f1
          · rw [if_pos e]; exact h
          · rw [if_neg e, if_neg (fun e2 => hx (.inl e2))]; exact h
      refine key l _ hn.1 ?_
      unfold srcStep Mo.up
      rw [if_neg hne, if_pos rfl]
    · exact srcs_mem l _ m hn.2 h hne
theorem srcs_at {l : List Mv} (h : okM l = true) {m : Mv} (hm : m ∈ l) (hne : m.f0 ≠ m.f1) : srcs l m.f0 = some m.f1 := srcs_mem l _ m (okM_facts h).2 hm hne
/-- Where a place has its value from, as the document tells it. -/
def frm (l : List Rv) (a : Int) : Int := (srcs (l.map conv) a).getD (-1)
theorem from_l0 (l : List Rv) (hl : l.length ≤ 60) (h : okM (l.map conv) = true) (a : Int) : ∀ (d i k : Nat), l.length - i = d → i ≤ l.length → d + 1 ≤ k → (∀ j, j < i → rT l j = a → rF l j = a) → mandrelref20_from.l0 k l a (i : Int) = some (frm l a)
  | 0, i, k, hd, hi, hk, hb => by
    obtain ⟨k, rfl⟩ : ∃ m, k = m + 1 := ⟨k - 1, by omega⟩
    rw [mandrelref20_from.l0, if_neg (by omega)]
    unfold frm
    cases e : srcs (l.map conv) a with
    | none => rfl
    | some y =>
      exfalso
      obtain ⟨m, hm, e1, e2, e3⟩ := srcs_some e
      obtain ⟨j, hj, f1, f2⟩ := rt_of_mem hm
      exact e3 (by rw [← f2, hb j (by omega) (by rw [f1, e1]), e1])
  | d + 1, i, k, hd, hi, hk, hb => by
    obtain ⟨k, rfl⟩ : ∃ m, k = m + 1 := ⟨k - 1, by omega⟩
    rw [mandrelref20_from.l0, if_pos (by omega), if_pos (by omega), wrap_s i l.length (by omega) (by omega)]
    show (if rT l i = a then (if rF l i = a then _ else some (rF l i)) else _) = _
    by_cases e1 : rT l i = a
    · rw [if_pos e1]
      by_cases e2 : rF l i = a
      · rw [if_pos e2]
        refine from_l0 l hl h a d (i + 1) k (by omega) (by omega) (by omega) (fun j hj e => ?_)
        by_cases e3 : j = i
        · rw [e3]; exact e2
        · exact hb j (by omega) e
      · rw [if_neg e2]
        have h2 := srcs_at h (rt_mem l i (by omega)) (fun e3 => e2 (by have e4 : rT l i = rF l i := e3; rw [← e4]; exact e1))
        unfold frm
        have h3 : srcs (l.map conv) (rT l i) = some (rF l i) := h2
        rw [e1] at h3
        rw [h3]
        rfl
    · rw [if_neg e1]
      refine from_l0 l hl h a d (i + 1) k (by omega) (by omega) (by omega) (fun j hj e => ?_)
      by_cases e3 : j = i
      · rw [e3] at e; exact absurd e e1
      · exact hb j (by omega) e
theorem from_f (l : List Rv) (hl : l.length ≤ 60) (h : okM (l.map conv) = true) (a : Int) (k : Nat) (hk : 100 ≤ k) : mandrelref20_from.f k l a = some (frm l a) :=
  from_l0 l hl h a l.length 0 k (by omega) (by omega) (by omega) (fun j hj => by omega)
theorem src_nonneg {l : List Mv} (h : okM l = true) {a y : Int} (e : srcs l a = some y) : 0 ≤ y := by
  obtain ⟨m, hm, _, e2, _⟩ := srcs_some e
  have := (away_iff _).1 ((okM_facts h).1 m hm).2
  rw [← e2]
  omega
/-- On from a place that is on a ring. -/
theorem l2_ring (l : List Rv) (hl : l.length ≤ 60) (h : okM (l.map conv) = true) (x3 : List (List Int)) (x4 x5 a : Int) (rest : List Int) (hr : RingAt (srcs (l.map conv)) a rest) (ha : 0 ≤ a) (res : List (List Int)) (K : Nat) (hKK : 100 ≤ K)
    (hK : ∀ k, K ≤ k → mandrelref20_Rings.j3 k l x3 x4 x5 a (a :: rest) a (rest.all fun y => decide (y > a)) = some res) :
    ∀ (tl out : List Int) (k : Nat), rest = out ++ tl → tl.length + 1 + K ≤ k → mandrelref20_Rings.l2 k l x3 x4 x5 a (a :: out) (frm l (lst a out)) (out.all fun y => decide (y > a)) = some res
  | [], out, k, e, hk => by
    obtain ⟨k, rfl⟩ : ∃ m, k = m + 1 := ⟨k - 1, by omega⟩
    rw [List.append_nil] at e
    subst e
    have e1 : frm l (lst a rest) = a := by unfold frm; rw [hr.back]; rfl
    rw [e1, mandrelref20_Rings.l2, if_pos ha, if_pos rfl]
    exact hK k (by omega)
  | x :: tl, out, k, e, hk => by
    obtain ⟨k, rfl⟩ : ∃ m, k = m + 1 := ⟨k - 1, by omega⟩
    have hp := hr.path
    rw [e] at hp
    have hx := hp.next
    have e1 : frm l (lst a out) = x := by unfold frm; rw [hx]; rfl
    have hlen := hr.short (K := keysOf (l.map conv)) (fun y hy => (keys_iff _ y).2 hy)
    have hkl := keys_len (l.map conv)
    rw [List.length_map] at hkl
    have hol : rest.length = out.length + (tl.length + 1) := by rw [e]; simp
    have hxa : x ≠ a := fun e2 => by
      have := hr.nodup
      rw [List.nodup_cons] at this
      exact this.1 (by rw [e, ← e2]; simp)
    rw [e1, mandrelref20_Rings.l2, if_pos (src_nonneg h hx), if_neg hxa, if_pos (by simp; omega)]
    have hall : ((out ++ [x]).all fun y => decide (y > a)) = ((out.all fun y => decide (y > a)) && decide (x > a)) := by rw [List.all_append]; simp
    have hcl : (a :: out).length < 17592186044416 := by simp; omega
    have h2 := l2_ring l hl h x3 x4 x5 a rest hr ha res K hKK hK tl (out ++ [x]) k (by rw [e]; simp) (by simp at hk; omega)
    rw [lst_snoc, hall] at h2
    by_cases hb : (out.all fun y => decide (y > a)) = true
    · rw [if_pos hb, if_pos hcl, from_f l hl h x k (by omega), Option.bind_some]
      rw [hb, Bool.true_and] at h2
      exact h2
    · rw [if_neg hb, if_pos hcl, from_f l hl h x k (by omega), Option.bind_some]
      rw [(Bool.not_eq_true _).mp hb, Bool.false_and] at h2
      exact h2
/-- On from a place that is on none. -/
theorem l2_none (l : List Rv) (hl : l.length ≤ 60) (h : okM (l.map conv) = true) (x3 : List (List Int)) (x4 x5 a : Int) (ha : 0 ≤ a) (hn : ∀ n, it (srcs (l.map conv)) (n + 1) a ≠ some a) (res : List (List Int)) (K : Nat) (hKK : 100 ≤ K)
    (hK : ∀ k back x is, K ≤ k → x ≠ a → mandrelref20_Rings.j3 k l x3 x4 x5 a back x is = some res) :
    ∀ (d k : Nat) (back : List Int) (x : Int) (is : Bool) (n : Nat), back.length = n + 1 → l.length + 1 - back.length = d → d + 1 + K ≤ k → ((it (srcs (l.map conv)) (n + 1) a = some x) ∨ x = -1) → mandrelref20_Rings.l2 k l x3 x4 x5 a back x is = some res := by
  intro d
  induction d with
  | zero =>
    intro k back x is n hb hd hk hx
    obtain ⟨k, rfl⟩ : ∃ m, k = m + 1 := ⟨k - 1, by omega⟩
    have hxa : x ≠ a := by
      rcases hx with hx | hx
      · intro e; rw [e] at hx; exact hn _ hx
      · omega
    rw [mandrelref20_Rings.l2]
    by_cases h0 : x ≥ 0
    · rw [if_pos h0, if_neg hxa, if_neg (by omega)]
      exact hK k _ _ _ (by omega) hxa
    · rw [if_neg h0]
      exact hK k _ _ _ (by omega) hxa
  | succ d ih =>
    intro k back x is n hb hd hk hx
    obtain ⟨k, rfl⟩ : ∃ m, k = m + 1 := ⟨k - 1, by omega⟩
    have hxa : x ≠ a := by
      rcases hx with hx | hx
      · intro e; rw [e] at hx; exact hn _ hx
      · omega
    rw [mandrelref20_Rings.l2]
    by_cases h0 : x ≥ 0
    · have hx' := hx.resolve_right (by omega)
      have hnext : it (srcs (l.map conv)) (n + 1 + 1) a = some (frm l x) ∨ frm l x = -1 := by
        have e : it (srcs (l.map conv)) (n + 1 + 1) a = srcs (l.map conv) x := by rw [it, hx']; rfl
        rw [e]
        unfold frm
        cases srcs (l.map conv) x with
        | none => exact .inr rfl
        | some y => exact .inl rfl
      rw [if_pos h0, if_neg hxa, if_pos (by omega)]
      have hcl : back.length < 17592186044416 := by omega
      have h2 : ∀ is', mandrelref20_Rings.l2 k l x3 x4 x5 a (back ++ [x]) (frm l x) is' = some res := fun is' => ih k (back ++ [x]) (frm l x) is' (n + 1) (by simp [hb]) (by simp; omega) (by omega) hnext
      by_cases hb : is = true
      · rw [if_pos hb, if_pos hcl, from_f l hl h x k (by omega), Option.bind_some]
        exact h2 _
      · rw [if_neg hb, if_pos hcl, from_f l hl h x k (by omega), Option.bind_some]
        exact h2 _
    · rw [if_neg h0]
      exact hK k _ _ _ (by omega) hxa
/-- The ring is told backwards. -/
theorem l3_f (l : List Rv) (x3 : List (List Int)) (h3 : x3.length ≤ 100) (x4 x5 : Int) (a : Int) (rest : List Int) (hr : rest.length ≤ 100) (res : List (List Int)) (K : Nat) (hK : ∀ k, K ≤ k → mandrelref20_Rings.l0 k l (x3 ++ [a :: rest.reverse]) x4 (wrap64 (x5 + 1)) = some res) :
    ∀ (i k : Nat), i ≤ rest.length → i + 1 + K ≤ k → mandrelref20_Rings.l3 k l x3 x4 x5 (a :: rest) (a :: (rest.drop i).reverse) (i : Int) = some res
  | 0, k, hi, hk => by
    obtain ⟨k, rfl⟩ : ∃ m, k = m + 1 := ⟨k - 1, by omega⟩
    rw [mandrelref20_Rings.l3, if_neg (by omega), if_pos (by omega)]
    exact hK k (by omega)
  | i + 1, k, hi, hk => by
    obtain ⟨k, rfl⟩ : ∃ m, k = m + 1 := ⟨k - 1, by omega⟩
    have hw : wrap64 (((i + 1 : Nat) : Int) - 1) = (i : Int) := by unfold wrap64; omega
    rw [mandrelref20_Rings.l3, if_pos (by omega), if_pos (by omega), if_pos (by simp; omega), if_pos (by simp; omega), hw]
    have h2 := l3_f l x3 h3 x4 x5 a rest hr res K hK i k (by omega) (by omega)
    have e : rest.drop i = rest[i] :: rest.drop (i + 1) := List.drop_eq_getElem_cons (by omega)
    have e2 : rd (a :: rest) ((i + 1 : Nat) : Int) = rest[i] := by
      unfold rd
      rw [Int.toNat_natCast, List.getD_cons_succ, List.getD_eq_getElem?_getD, List.getElem?_eq_getElem (by omega)]
      rfl
    rw [e2]
    rw [e, List.reverse_cons] at h2
    exact h2
end Go.Proofs.YtaklfdlcedlmfaaDoor.XM
