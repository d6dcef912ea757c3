/- The document's rings are the program's. No program. -/
import Derived.Test.YtaklfdlcedlmfaaDoorPureRef
namespace Go.Proofs.YtaklfdlcedlmfaaDoor.XM
open Go.RowKit Mo Go.Proofs.YtaklfdlcedlmfaaDoorW.PrintWords
set_option linter.unusedVariables false
set_option linter.unusedSimpArgs false
theorem ring1_none {S : Int → Option Int} {N : Nat} {a : Int} (hs : ∀ x, S x ≠ some x) (h : ¬ OnRing S a) : ring1 S N a = none := by
  cases e : ring1 S N a with
  | none => rfl
  | some r =>
    obtain ⟨⟨rest, h1, _⟩, _⟩ := ring1_some hs e
    exact absurd h1.on h
theorem ring1_ring {S : Int → Option Int} {N : Nat} {a : Int} {rest : List Int} (h : RingAt S a rest) (hN : rest.length + 1 ≤ N) : ring1 S N a = if (rest.all fun y => decide (y > a)) = true then some (a :: rest.reverse) else none := by
  have h3 := ringF_ring S a N [] rest h hN
  rw [show S (lst a []) = S a from rfl, List.nil_append] at h3
  unfold ring1
  rw [h3, if_neg (by simp)]
  have h4 := min_spec (a :: rest.reverse) (by simp)
  have h5 := h4.1 a List.mem_cons_self
  have hn := h.nodup
  rw [List.nodup_cons] at hn
  by_cases e : (rest.all fun y => decide (y > a)) = true
  · rw [if_pos e, if_pos]
    have h6 := (IsRing.mem (S := S) (r := a :: rest.reverse) rfl _).1 h4.2
    rw [List.mem_cons] at h6
    rcases h6 with h6 | h6
    · exact h6
    · have := List.all_eq_true.1 e _ h6
      have := of_decide_eq_true this
      omega
  · rw [if_neg e, if_neg]
    intro hm
    refine e (List.all_eq_true.2 fun y hy => decide_eq_true ?_)
    have h6 := h4.1 y (List.mem_cons_of_mem _ (List.mem_reverse.2 hy))
    have h7 : y ≠ a := fun e2 => hn.1 (by rw [← e2]; exact hy)
    omega
/-- The least place that is greater. -/
theorem l1_least (l : List Rv) (hl : l.length ≤ 60) (x3 : List (List Int)) (x4 x5 a : Int) (ha0 : 0 ≤ a) (ha : x4 < a) (i0 : Nat) (hi0 : i0 < l.length) (hia : rT l i0 = a) (hmin : ∀ i, i < l.length → rT l i > x4 → a ≤ rT l i) (hpos : ∀ i, i < l.length → 0 ≤ rT l i) (res : List (List Int)) (K : Nat)
    (hK : ∀ k, K ≤ k → ((mandrelref20_from.f k l a).bind fun t => mandrelref20_Rings.l2 k l x3 a x5 a (([a] : List Int)) t true) = some res) :
    ∀ (d i k : Nat) (x6 : Int), l.length - i = d → i ≤ l.length → d + 1 + K ≤ k → ((x6 = -1 ∧ ∀ j, j < i → ¬ rT l j > x4) ∨ (0 ≤ x6 ∧ (∃ j, j < i ∧ rT l j = x6) ∧ x6 > x4 ∧ ∀ j, j < i → rT l j > x4 → x6 ≤ rT l j)) → mandrelref20_Rings.l1 k l x3 x4 x5 x6 (i : Int) = some res := by
  intro d
  induction d with
  | zero =>
    intro i k x6 hd hi hk hx
    obtain ⟨k, rfl⟩ : ∃ m, k = m + 1 := ⟨k - 1, by omega⟩
    have hxa : x6 = a := by
      rcases hx with ⟨_, h⟩ | ⟨_, ⟨j, hj, e⟩, h1, h2⟩
      · exact absurd (by rw [hia]; exact ha) (h i0 (by omega))
      · have h3 := h2 i0 (by omega) (by rw [hia]; exact ha)
        have h4 := hmin j (by omega) (by rw [e]; exact h1)
        rw [hia] at h3
        omega
    subst hxa
    rw [mandrelref20_Rings.l1, if_neg (by omega), if_neg (by omega)]
    exact hK k (by omega)
  | succ d ih =>
    intro i k x6 hd hi hk hx
    obtain ⟨k, rfl⟩ : ∃ m, k = m + 1 := ⟨k - 1, by omega⟩
    rw [mandrelref20_Rings.l1, if_pos (by omega), if_pos (by omega), wrap_s i l.length (by omega) (by omega)]
    show (if rT l i > x4 then (if x6 < 0 then mandrelref20_Rings.l1 k l x3 x4 x5 (rT l i) _ else (if rT l i < x6 then mandrelref20_Rings.l1 k l x3 x4 x5 (rT l i) _ else _)) else _) = _
    have hp := hpos i (by omega)
    by_cases h1 : rT l i > x4
    · rw [if_pos h1]
      by_cases h2 : x6 < 0
      · rw [if_pos h2]
        have h3 := hx.resolve_right (fun h => by have := h.1; omega)
        refine ih (i + 1) k _ (by omega) (by omega) (by omega) (.inr ⟨hp, ⟨i, by omega, rfl⟩, h1, fun j hj hj2 => ?_⟩)
        by_cases e : j = i
        · rw [e]; exact Int.le_refl _
        · exact absurd hj2 (h3.2 j (by omega))
      · rw [if_neg h2]
        obtain ⟨h3, ⟨j0, hj0, e0⟩, h4, h5⟩ := hx.resolve_left (fun h => by have := h.1; omega)
        by_cases h6 : rT l i < x6
        · rw [if_pos h6]
          refine ih (i + 1) k _ (by clear hx; omega) (by clear hx; omega) (by clear hx; omega) (.inr ⟨hp, ⟨i, by clear hx; omega, rfl⟩, h1, fun j hj hj2 => ?_⟩)
          by_cases e : j = i
          · rw [e]; exact Int.le_refl _
          · have := h5 j (by omega) hj2
            omega
        · rw [if_neg h6]
          refine ih (i + 1) k _ (by clear hx; omega) (by clear hx; omega) (by clear hx; omega) (.inr ⟨h3, ⟨j0, by clear hx; omega, e0⟩, h4, fun j hj hj2 => ?_⟩)
          by_cases e : j = i
          · rw [e]; omega
          · exact h5 j (by omega) hj2
    · rw [if_neg h1]
      refine ih (i + 1) k _ (by clear hx; omega) (by clear hx; omega) (by clear hx; omega) ?_
      rcases hx with ⟨h2, h3⟩ | ⟨h2, ⟨j0, hj0, e0⟩, h4, h5⟩
      · refine .inl ⟨h2, fun j hj => ?_⟩
        by_cases e : j = i
        · rw [e]; exact h1
        · exact h3 j (by omega)
      · refine .inr ⟨h2, ⟨j0, by omega, e0⟩, h4, fun j hj hj2 => ?_⟩
        by_cases e : j = i
        · rw [e] at hj2; exact absurd hj2 h1
        · exact h5 j (by omega) hj2
/-- One place more. -/
theorem rings_step (l : List Rv) (hl : l.length ≤ 60) (h : okM (l.map conv) = true) (x3 : List (List Int)) (h3 : x3.length ≤ 100) (x4 a : Int) (n : Nat) (hn : n < l.length) (ha0 : 0 ≤ a) (ha : x4 < a) (i0 : Nat) (hi0 : i0 < l.length) (hia : rT l i0 = a) (hmin : ∀ i, i < l.length → rT l i > x4 → a ≤ rT l i) (hpos : ∀ i, i < l.length → 0 ≤ rT l i) (res : List (List Int)) (K : Nat) (hKK : 100 ≤ K)
    (hK : ∀ k, K ≤ k → mandrelref20_Rings.l0 k l (x3 ++ (ring1 (srcs (l.map conv)) l.length a).toList) a ((n + 1 : Nat) : Int) = some res) (k : Nat) (hk : K + 400 ≤ k) : mandrelref20_Rings.l0 k l x3 x4 (n : Int) = some res := by
  obtain ⟨k, rfl⟩ : ∃ m, k = m + 1 := ⟨k - 1, by omega⟩
  have hw := wrap_s n l.length hn (by omega)
  have hj4 : ∀ k x8, K + 1 ≤ k → ring1 (srcs (l.map conv)) l.length a = none → mandrelref20_Rings.j4 k l x3 a (n : Int) a x8 true = some res := fun k x8 hk h1 => by
    obtain ⟨k, rfl⟩ : ∃ m, k = m + 1 := ⟨k - 1, by omega⟩
    have h2 := hK k (by omega)
    rw [h1] at h2
    rw [mandrelref20_Rings.j4, if_pos rfl, hw]
    simpa using h2
  rw [mandrelref20_Rings.l0, if_pos (by omega)]
  refine l1_least l hl x3 x4 (n : Int) a ha0 ha i0 hi0 hia hmin hpos res (K + 200) (fun k hk => ?_) l.length 0 k (-1) (by omega) (by omega) (by omega) (.inl ⟨rfl, fun j hj => by omega⟩)
  rw [from_f l hl h a k (by omega), Option.bind_some]
  by_cases ho : OnRing (srcs (l.map conv)) a
  · obtain ⟨rest, hr⟩ := ho.ring
    have hlen := hr.short (K := keysOf (l.map conv)) (fun y hy => (keys_iff _ y).2 hy)
    have hkl := keys_len (l.map conv)
    rw [List.length_map] at hkl
    have hrl : rest.length + 1 ≤ l.length := by omega
    have h1r : 1 ≤ rest.length := by
      cases rest with
      | nil => exact absurd hr.back (srcs_self _ a)
      | cons x xs => simp
    have hr1 := ring1_ring hr hrl
    refine l2_ring l hl h x3 a (n : Int) a rest hr ha0 res (K + 70) (by omega) (fun k hk => ?_) rest [] k (by simp) (by omega)
    obtain ⟨k, rfl⟩ : ∃ m, k = m + 2 := ⟨k - 2, by omega⟩
    rw [mandrelref20_Rings.j3, if_pos rfl, if_neg (by simp; omega)]
    by_cases e : (rest.all fun y => decide (y > a)) = true
    · rw [if_pos e] at hr1
      rw [e, mandrelref20_Rings.j4, if_neg (by decide), if_pos (by simp), show wrap64 (((a :: rest).length : Int) - 1) = (rest.length : Int) by unfold wrap64; simp; omega]
      have h5 := l3_f l x3 h3 a (n : Int) a rest (by omega) res K (fun k hk => by
        have h6 := hK k hk
        rw [hr1] at h6
        rw [hw]
        exact h6) rest.length k (by omega) (by omega)
      simpa using h5
    · rw [if_neg e] at hr1
      rw [(Bool.not_eq_true _).mp e]
      exact hj4 (k + 1) _ (by omega) hr1
  · refine l2_none l hl h x3 a (n : Int) a ha0 (fun m hm => ho ⟨m, hm⟩) res (K + 70) (by omega) (fun k back x is hk hx => ?_) l.length k [a] (frm l a) true 0 rfl (by simp) (by omega) ?_
    · obtain ⟨k, rfl⟩ : ∃ m, k = m + 1 := ⟨k - 1, by omega⟩
      rw [mandrelref20_Rings.j3, if_neg hx]
      exact hj4 k _ (by omega) (ring1_none (srcs_self _) ho)
    · rw [it_one]
      unfold frm
      cases srcs (l.map conv) a with
      | none => exact .inr rfl
      | some y => exact .inl rfl
def tosOf (l : List Mv) : List Int := (l.map (·.f0)).mergeSort Sh.leI
theorem leI_tr : ∀ a b c : Int, Sh.leI a b = true → Sh.leI b c = true → Sh.leI a c = true := fun a b c h1 h2 => by simp only [Sh.leI, decide_eq_true_eq] at *; omega
theorem leI_tt : ∀ a b : Int, (Sh.leI a b || Sh.leI b a) = true := fun a b => by simp only [Sh.leI, Bool.or_eq_true, decide_eq_true_eq]; omega
theorem tos_lt {l : List Mv} (h : okM l = true) : (tosOf l).Pairwise (· < ·) := by
  have h1 := List.pairwise_mergeSort leI_tr leI_tt (l.map (·.f0))
  have h2 : (tosOf l).Nodup := ((List.mergeSort_perm _ _).nodup_iff).2 (okM_facts h).2
  have h3 := List.nodup_iff_pairwise_ne.1 h2
  unfold tosOf at *
  exact (h1.and h3).imp (fun {a b} hab => by have h4 := hab.1; have h5 := hab.2; simp only [Sh.leI, decide_eq_true_eq] at h4; omega)
theorem tos_mem {l : List Mv} {x : Int} : x ∈ tosOf l ↔ x ∈ l.map (·.f0) := (List.mergeSort_perm _ _).mem_iff
theorem tos_len (l : List Mv) : (tosOf l).length = l.length := by unfold tosOf; rw [List.length_mergeSort, List.length_map]
theorem filterMap_filter (S : Int → Option Int) (N : Nat) : ∀ P : List Int, P.filterMap (ring1 S N) = (P.filter fun x => (S x).isSome).filterMap (ring1 S N)
  | [] => rfl
  | a :: P => by
    rw [List.filterMap_cons, List.filter_cons, filterMap_filter S N P]
    cases e : S a with
    | none =>
      have : ring1 S N a = none := by
        unfold ring1
        rw [e, if_pos (by cases N <;> rfl)]
      rw [this]
      simp
    | some y => simp [List.filterMap_cons]
theorem rings_tos {l : List Mv} (h : okM l = true) : ringsOf l = (tosOf l).filterMap (ring1 (srcs l) l.length) := by
  unfold ringsOf
  rw [rings_map, List.nil_append, filterMap_filter _ _ (tosOf l)]
  congr 1
  have hp : (placesOf l).Perm ((tosOf l).filter fun x => (srcs l x).isSome) := by
    refine (List.mergeSort_perm _ _).trans ((List.perm_ext_iff_of_nodup (keys_nodup (okM_facts h).2) ?_).2 fun x => ?_)
    · exact List.Pairwise.imp (fun {a b} hab => by omega) ((tos_lt h).sublist List.filter_sublist)
    · rw [keys_iff, List.mem_filter, tos_mem]
      constructor
      · intro hx
        refine ⟨?_, hx⟩
        have hk := (keys_iff l x).2 hx
        unfold keysOf at hk
        obtain ⟨m, hm, e⟩ := List.mem_map.1 hk
        exact List.mem_map.2 ⟨m, (List.mem_filter.1 hm).1, e⟩
      · exact fun hx => hx.2
  refine List.Perm.eq_of_pairwise (le := fun a b => Sh.leI a b = true) (fun a b _ _ h1 h2 => ?_) (List.pairwise_mergeSort leI_tr leI_tt (keysOf l)) (List.Pairwise.imp (fun {a b} hab => by simp only [Sh.leI, decide_eq_true_eq]; omega) ((tos_lt h).sublist List.filter_sublist)) hp
  simp only [Sh.leI, decide_eq_true_eq] at h1 h2
  omega
theorem filterMap_len {α β : Type} (g : α → Option β) (xs : List α) : (xs.filterMap g).length ≤ xs.length := List.length_filterMap_le g xs
set_option maxRecDepth 4000 in
theorem rings_l0 (l : List Rv) (hl : l.length ≤ 60) (h : okM (l.map conv) = true) : ∀ (d n k : Nat) (x4 : Int), l.length - n = d → n ≤ l.length → d * 400 + 101 ≤ k → ((n = 0 ∧ x4 = -1) ∨ (0 < n ∧ x4 = (tosOf (l.map conv)).getD (n - 1) 0)) → mandrelref20_Rings.l0 k l (((tosOf (l.map conv)).take n).filterMap (ring1 (srcs (l.map conv)) l.length)) x4 (n : Int) = some (ringsOf (l.map conv))
  | 0, n, k, x4, hd, hn, hk, hx => by
    obtain ⟨k, rfl⟩ : ∃ m, k = m + 1 := ⟨k - 1, by omega⟩
    rw [mandrelref20_Rings.l0, if_neg (by omega), List.take_of_length_le (by rw [tos_len, List.length_map]; omega), rings_tos h, List.length_map]
  | d + 1, n, k, x4, hd, hn, hk, hx => by
    have hTl : (tosOf (l.map conv)).length = l.length := by rw [tos_len, List.length_map]
    have hnT : n < (tosOf (l.map conv)).length := by omega
    have hlt := tos_lt h
    have hat : (tosOf (l.map conv)).getD n 0 = (tosOf (l.map conv))[n] := by rw [List.getD_eq_getElem?_getD, List.getElem?_eq_getElem hnT]; rfl
    have hidx : ∀ i, i < l.length → ∃ j, ∃ hj : j < (tosOf (l.map conv)).length, (tosOf (l.map conv))[j] = rT l i := fun i hi => by
      have : rT l i ∈ tosOf (l.map conv) := tos_mem.2 (List.mem_map.2 ⟨_, rt_mem l i hi, rfl⟩)
      obtain ⟨j, hj, e⟩ := List.mem_iff_getElem.1 this
      exact ⟨j, hj, e⟩
    have hpos : ∀ i, i < l.length → 0 ≤ rT l i := fun i hi => by
      have := (away_iff _).1 ((okM_iff l).1 h i hi).1
      omega
    have hmem : (tosOf (l.map conv))[n] ∈ (l.map conv).map (·.f0) := tos_mem.1 (List.getElem_mem hnT)
    obtain ⟨m, hm, em⟩ := List.mem_map.1 hmem
    obtain ⟨i0, hi0, e0, _⟩ := rt_of_mem hm
    have hia : rT l i0 = (tosOf (l.map conv))[n] := e0.trans em
    have hgt : x4 < (tosOf (l.map conv))[n] := by
      rcases hx with ⟨_, hx⟩ | ⟨h0, hx⟩
      · have := hpos i0 hi0
        omega
      · rw [hx, List.getD_eq_getElem?_getD, List.getElem?_eq_getElem (by omega)]
        exact (List.pairwise_iff_getElem.1 hlt) (n - 1) n (by omega) hnT (by omega)
    have hmin : ∀ i, i < l.length → rT l i > x4 → (tosOf (l.map conv))[n] ≤ rT l i := fun i hi hgt2 => by
      obtain ⟨j, hj, e⟩ := hidx i hi
      by_cases hjn : j < n
      · exfalso
        rcases hx with ⟨h0, _⟩ | ⟨h0, hx⟩
        · omega
        · rw [hx, List.getD_eq_getElem?_getD, List.getElem?_eq_getElem (by omega), ← e] at hgt2
          by_cases hjn1 : j = n - 1
          · subst hjn1
            exact absurd hgt2 (Int.lt_irrefl _)
          · have := (List.pairwise_iff_getElem.1 hlt) j (n - 1) hj (by omega) (by omega)
            simp only [Option.getD_some] at hgt2
            omega
      · by_cases hjn2 : j = n
        · subst hjn2; rw [e]; exact Int.le_refl _
        · have := (List.pairwise_iff_getElem.1 hlt) n j hnT hj (by omega)
          omega
    refine rings_step l hl h _ (by have := filterMap_len (ring1 (srcs (l.map conv)) l.length) ((tosOf (l.map conv)).take n); rw [List.length_take] at this; omega) x4 (tosOf (l.map conv))[n] n (by omega) (by rw [← hia]; exact hpos i0 hi0) hgt i0 hi0 hia hmin hpos _ (d * 400 + 101) (by omega) (fun k2 hk2 => ?_) k (by omega)
    have h2 := rings_l0 l hl h d (n + 1) k2 (tosOf (l.map conv))[n] (by omega) (by omega) hk2 (.inr ⟨by omega, by rw [Nat.add_sub_cancel]; exact hat.symm⟩)
    rw [List.take_add_one, List.getElem?_eq_getElem hnT, List.filterMap_append] at h2
    have e3 : ((some (tosOf (l.map conv))[n]).toList).filterMap (ring1 (srcs (l.map conv)) l.length) = (ring1 (srcs (l.map conv)) l.length (tosOf (l.map conv))[n]).toList := by
      show [(tosOf (l.map conv))[n]].filterMap _ = _
      rw [List.filterMap_cons]
      cases ring1 (srcs (l.map conv)) l.length (tosOf (l.map conv))[n] <;> rfl
    rw [e3] at h2
    exact h2
theorem rings_f (l : List Rv) (hl : l.length ≤ 60) (h : okM (l.map conv) = true) (k : Nat) (hk : 25000 ≤ k) : mandrelref20_Rings.f k l = some (ringsOf (l.map conv)) := by
  unfold mandrelref20_Rings.f
  exact rings_l0 l hl h l.length 0 k (-1) (by omega) (by omega) (by omega) (.inl ⟨rfl, rfl⟩)
end Go.Proofs.YtaklfdlcedlmfaaDoor.XM
