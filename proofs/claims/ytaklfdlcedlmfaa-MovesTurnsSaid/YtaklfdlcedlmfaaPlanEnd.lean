/- The rings' turns; the whole plan: what it does, and how long it is. No program. -/
import Derived.Test.YtaklfdlcedlmfaaPlanner
namespace Go.Proofs.Ytaklfdlcedlmfaa.XM
open Go.RowKit Mo
set_option linter.unusedVariables false
set_option linter.unusedSimpArgs false
theorem turnL_out (r : List Int) : ∀ (k : Nat) (out : List Mv), turnL r k out = out ++ turnL r k []
  | 0, out => by simp [turnL]
  | i + 1, out => by
    unfold turnL
    by_cases e : i = 0
    · rw [if_pos e, if_pos e]; simp
    · rw [if_neg e, if_neg e, turnL_out r i (out ++ _), turnL_out r i ([] ++ _)]
      simp
theorem turnL_n (r : List Int) : ∀ (k : Nat), (turnL r k []).length = k - 1
  | 0 => rfl
  | i + 1 => by
    unfold turnL
    by_cases e : i = 0
    · rw [if_pos e, e]; rfl
    · rw [if_neg e, turnL_out, List.length_append, turnL_n r i]
      simp
      omega
/-- A ring's moves. -/
def turnM (r : List Int) (temp : Int) : List Mv := [⟨temp, r.getD 0 0⟩] ++ [⟨r.getD 0 0, r.getD (r.length - 1) 0⟩] ++ turnL r (r.length - 1) [] ++ [⟨r.getD 1 0, temp⟩]
theorem turnF_out (r : List Int) (temp : Int) (out : List Mv) : turnF r temp (out ++ [⟨temp, r.getD 0 0⟩]) = out ++ turnM r temp := by
  unfold turnF turnM
  rw [turnL_out]
  simp
theorem turnM_n (r : List Int) (temp : Int) (h : 2 ≤ r.length) : (turnM r temp).length = r.length + 1 := by
  unfold turnM
  simp [turnL_n]
  omega
theorem getD_inj {r : List Int} (hn : r.Nodup) {i j : Nat} (hi : i < r.length) (hj : j < r.length) (h : r.getD i 0 = r.getD j 0) : i = j := by
  rw [List.getD_eq_getElem?_getD, List.getD_eq_getElem?_getD, List.getElem?_eq_getElem hi, List.getElem?_eq_getElem hj] at h
  exact (List.getElem_inj hn).1 h
theorem getD_mem {r : List Int} {i : Nat} (hi : i < r.length) : r.getD i 0 ∈ r := by
  rw [List.getD_eq_getElem?_getD, List.getElem?_eq_getElem hi]
  exact List.getElem_mem hi
/-- Where a turn stands. -/
structure TSt (r : List Int) (temp : Int) (m0 : Int → Int) (k : Nat) (m : Int → Int) : Prop where
  t : m temp = m0 (r.getD 0 0)
  z : m (r.getD 0 0) = m0 (r.getD (r.length - 1) 0)
  done : ∀ j, k < j → j < r.length → m (r.getD j 0) = m0 (r.getD (j - 1) 0)
  yet : ∀ j, 1 ≤ j → j ≤ k → m (r.getD j 0) = m0 (r.getD j 0)
  oth : ∀ p, p ∉ r → p ≠ temp → m p = m0 p
theorem turnL_app {r : List Int} {temp : Int} {m0 : Int → Int} (hn : r.Nodup) (ht : temp ∉ r) : ∀ (k : Nat) (m : Int → Int), 1 ≤ k → k < r.length → TSt r temp m0 k m → TSt r temp m0 1 (app (turnL r k []) m)
  | 0, _, h, _, _ => by omega
  | i + 1, m, _, hk, h => by
    unfold turnL
    by_cases e : i = 0
    · subst e
      rw [if_pos rfl]
      exact h
    · rw [if_neg e, turnL_out, app_append]
      refine turnL_app hn ht i _ (by omega) (by omega) ?_
      have key : ∀ p, app ([] ++ [(⟨r.getD (i + 1) 0, r.getD i 0⟩ : Mv)]) m p = if p = r.getD (i + 1) 0 then m (r.getD i 0) else m p := fun p => rfl
      refine ⟨?_, ?_, fun j h1 h2 => ?_, fun j h1 h2 => ?_, fun p h1 h2 => ?_⟩
      · rw [key, if_neg (fun e2 => ht (by rw [e2]; exact getD_mem hk))]
        exact h.t
      · rw [key, if_neg (fun e2 => by have := getD_inj hn (by omega) hk e2; omega)]
        exact h.z
      · rw [key]
        by_cases e2 : j = i + 1
        · subst e2
          rw [if_pos rfl]
          exact h.yet i (by omega) (by omega)
        · rw [if_neg (fun e3 => e2 (getD_inj hn h2 hk e3))]
          exact h.done j (by omega) h2
      · rw [key, if_neg (fun e3 => by have := getD_inj hn (by omega) hk e3; omega)]
        exact h.yet j h1 (by omega)
      · rw [key, if_neg (fun e3 => h1 (by rw [e3]; exact getD_mem hk))]
        exact h.oth p h1 h2
/-- A ring's moves turn it. -/
theorem turnM_app {S : Int → Option Int} {r : List Int} {temp : Int} (m0 : Int → Int) (hn : r.Nodup) (ht : temp ∉ r) (h2 : 2 ≤ r.length) (hz : S (r.getD 0 0) = some (r.getD (r.length - 1) 0)) (hS : ∀ j, 1 ≤ j → j < r.length → S (r.getD j 0) = some (r.getD (j - 1) 0)) (p : Int) (hp : p ≠ temp) :
    app (turnM r temp) m0 p = if p ∈ r then m0 ((S p).getD 0) else m0 p := by
  unfold turnM
  rw [app_append, app_append, app_append]
  have hs : TSt r temp m0 (r.length - 1) (app [(⟨r.getD 0 0, r.getD (r.length - 1) 0⟩ : Mv)] (app [(⟨temp, r.getD 0 0⟩ : Mv)] m0)) := by
    have k1 : ∀ p, app [(⟨temp, r.getD 0 0⟩ : Mv)] m0 p = if p = temp then m0 (r.getD 0 0) else m0 p := fun p => rfl
    have k2 : ∀ p, app [(⟨r.getD 0 0, r.getD (r.length - 1) 0⟩ : Mv)] (app [(⟨temp, r.getD 0 0⟩ : Mv)] m0) p = if p = r.getD 0 0 then app [(⟨temp, r.getD 0 0⟩ : Mv)] m0 (r.getD (r.length - 1) 0) else app [(⟨temp, r.getD 0 0⟩ : Mv)] m0 p := fun p => rfl
    have nt : ∀ j, j < r.length → r.getD j 0 ≠ temp := fun j hj e => ht (by rw [← e]; exact getD_mem hj)
    refine ⟨?_, ?_, fun j h3 h4 => by omega, fun j h3 h4 => ?_, fun p h3 h4 => ?_⟩
    · rw [k2, if_neg (fun e => nt 0 (by omega) e.symm), k1, if_pos rfl]
    · rw [k2, if_pos rfl, k1, if_neg (nt _ (by omega))]
    · rw [k2, if_neg (fun e => by have := getD_inj hn (by omega) (by omega) e; omega), k1, if_neg (nt _ (by omega))]
    · rw [k2, if_neg (fun e => h3 (by rw [e]; exact getD_mem (by omega))), k1, if_neg h4]
  have h3 := turnL_app hn ht (r.length - 1) _ (by omega) (by omega) hs
  rw [app_one]
  by_cases e1 : p = r.getD 1 0
  · rw [if_pos e1, h3.t, e1, if_pos (getD_mem (by omega)), hS 1 (by omega) (by omega)]
    rfl
  · rw [if_neg e1]
    by_cases hm : p ∈ r
    · rw [if_pos hm]
      obtain ⟨j, hj, e⟩ := List.mem_iff_getElem.1 hm
      have e' : r.getD j 0 = p := by rw [List.getD_eq_getElem?_getD, List.getElem?_eq_getElem hj]; exact e
      rw [← e']
      by_cases j0 : j = 0
      · subst j0
        rw [h3.z, hz]
        rfl
      · rw [h3.done j (by by_cases j1 : j = 1; (· subst j1; exact absurd e'.symm e1); omega) hj, hS j (by omega) hj]
        rfl
    · rw [if_neg hm]
      exact h3.oth p hm hp
theorem path_at {S : Int → Option Int} : ∀ {a : Int} {xs : List Int}, Path S a xs → ∀ i, i < xs.length → S ((a :: xs).getD i 0) = some (xs.getD i 0)
  | _, [], _, i, h => by simp at h
  | a, x :: xs, hp, 0, _ => hp.1
  | a, x :: xs, hp, i + 1, h => path_at hp.2 i (by simpa using h)
theorem lst_at (a : Int) (xs : List Int) : lst a xs = (a :: xs).getD xs.length 0 := by
  induction xs generalizing a with
  | nil => rfl
  | cons x xs ih => exact ih x
theorem rev_at (a : Int) (rest : List Int) (j : Nat) (h1 : 1 ≤ j) (h2 : j < rest.length + 1) : (a :: rest.reverse).getD j 0 = (a :: rest).getD (rest.length + 1 - j) 0 := by
  obtain ⟨j, rfl⟩ : ∃ i, j = i + 1 := ⟨j - 1, by omega⟩
  rw [show rest.length + 1 - (j + 1) = (rest.length - 1 - j) + 1 by omega]
  simp only [List.getD_cons_succ]
  rw [List.getD_eq_getElem?_getD, List.getD_eq_getElem?_getD, List.getElem?_reverse (by omega)]
theorem RingAt.turned {S : Int → Option Int} {a : Int} {rest : List Int} (h : RingAt S a rest) (h1 : 1 ≤ rest.length) :
    S ((a :: rest.reverse).getD 0 0) = some ((a :: rest.reverse).getD ((a :: rest.reverse).length - 1) 0) ∧ ∀ j, 1 ≤ j → j < (a :: rest.reverse).length → S ((a :: rest.reverse).getD j 0) = some ((a :: rest.reverse).getD (j - 1) 0) := by
  constructor
  · rw [show (a :: rest.reverse).length - 1 = rest.length by simp, rev_at a rest rest.length h1 (by omega), show rest.length + 1 - rest.length = 0 + 1 by omega, List.getD_cons_succ]
    exact path_at h.path 0 h1
  · intro j h2 h3
    have h3' : j < rest.length + 1 := by simpa using h3
    rw [rev_at a rest j h2 h3']
    by_cases e : j = 1
    · subst e
      rw [show rest.length + 1 - 1 = rest.length by omega, ← lst_at, h.back]
      rfl
    · rw [rev_at a rest (j - 1) (by omega) (by omega), path_at h.path _ (by omega), show rest.length + 1 - (j - 1) = (rest.length + 1 - j) + 1 by omega, List.getD_cons_succ]
theorem turns_out (temp : Int) : ∀ (rs : List (List Int)) (out : List Mv), turnsOf rs temp out = out ++ (rs.map fun r => turnM r temp).flatten
  | [], out => by simp [turnsOf]
  | r :: rs, out => by
    have h := turns_out temp rs (turnF r temp (out ++ [⟨temp, r.getD 0 0⟩]))
    unfold turnsOf at h ⊢
    rw [List.foldl_cons, h, turnF_out]
    simp
/-- A list that is a ring, told as the program tells it. -/
def IsRing (S : Int → Option Int) (r : List Int) : Prop := ∃ a rest, RingAt S a rest ∧ 1 ≤ rest.length ∧ r = a :: rest.reverse
theorem IsRing.mem {S : Int → Option Int} {r : List Int} {a : Int} {rest : List Int} (h : r = a :: rest.reverse) (p : Int) : p ∈ r ↔ p ∈ a :: rest := by rw [h]; simp
theorem IsRing.app {S : Int → Option Int} {r : List Int} (h : IsRing S r) {temp : Int} (ht : temp ∉ r) (m0 : Int → Int) (p : Int) (hp : p ≠ temp) : XM.app (turnM r temp) m0 p = if p ∈ r then m0 ((S p).getD 0) else m0 p := by
  obtain ⟨a, rest, h1, h2, rfl⟩ := h
  obtain ⟨h3, h4⟩ := h1.turned h2
  refine turnM_app m0 ?_ ht (by simp; omega) h3 h4 p hp
  have := h1.nodup
  rw [List.nodup_cons] at this ⊢
  exact ⟨fun h => this.1 (List.mem_reverse.1 h), ((List.reverse_perm rest).nodup_iff).2 this.2⟩
theorem IsRing.closed {S : Int → Option Int} {r : List Int} (h : IsRing S r) {p : Int} (hp : p ∈ r) : (S p).getD 0 ∈ r := by
  obtain ⟨a, rest, h1, h2, rfl⟩ := h
  obtain ⟨z, hz, e⟩ := h1.closed ((IsRing.mem (S := S) rfl p).1 hp)
  rw [e]
  exact (IsRing.mem (S := S) rfl z).2 hz
theorem IsRing.two {S : Int → Option Int} {r : List Int} (h : IsRing S r) : 2 ≤ r.length := by
  obtain ⟨a, rest, h1, h2, rfl⟩ := h
  simp
  omega
theorem IsRing.nodup {S : Int → Option Int} {r : List Int} (h : IsRing S r) : r.Nodup := by
  obtain ⟨a, rest, h1, h2, rfl⟩ := h
  have := h1.nodup
  rw [List.nodup_cons] at this ⊢
  exact ⟨fun h => this.1 (List.mem_reverse.1 h), ((List.reverse_perm rest).nodup_iff).2 this.2⟩
theorem IsRing.on {S : Int → Option Int} {r : List Int} (h : IsRing S r) {p : Int} (hp : p ∈ r) : OnRing S p := by
  obtain ⟨a, rest, h1, h2, rfl⟩ := h
  exact h1.mem_on ((IsRing.mem (S := S) rfl p).1 hp)
def Apart (r s : List Int) : Prop := ∀ p ∈ r, p ∉ s
theorem turns_app {S : Int → Option Int} {temp : Int} : ∀ (rs : List (List Int)) (m0 : Int → Int), (∀ r ∈ rs, IsRing S r) → (∀ r ∈ rs, temp ∉ r) → rs.Pairwise Apart → ∀ p, p ≠ temp →
    app (rs.map fun r => turnM r temp).flatten m0 p = if p ∈ rs.flatten then m0 ((S p).getD 0) else m0 p
  | [], m0, _, _, _, p, _ => by simp [app]
  | r :: rs, m0, hr, ht, hd, p, hp => by
    rw [List.pairwise_cons] at hd
    have hR := hr r List.mem_cons_self
    have hT := ht r List.mem_cons_self
    rw [List.map_cons, List.flatten_cons, app_append, turns_app rs _ (fun s hs => hr s (List.mem_cons_of_mem _ hs)) (fun s hs => ht s (List.mem_cons_of_mem _ hs)) hd.2 p hp]
    by_cases hm : p ∈ rs.flatten
    · obtain ⟨s, hs, hps⟩ := List.mem_flatten.1 hm
      have hq := (hr s (List.mem_cons_of_mem _ hs)).closed hps
      rw [if_pos hm, if_pos (by rw [List.flatten_cons, List.mem_append]; exact .inr hm), hR.app hT m0 _ (fun e => ht s (List.mem_cons_of_mem _ hs) (by rw [← e]; exact hq)), if_neg (fun h => hd.1 s hs _ h hq)]
    · rw [if_neg hm, hR.app hT m0 p hp]
      by_cases hpr : p ∈ r
      · rw [if_pos hpr, if_pos (by rw [List.flatten_cons, List.mem_append]; exact .inl hpr)]
      · rw [if_neg hpr, if_neg (by rw [List.flatten_cons, List.mem_append]; exact fun h => h.elim hpr hm)]
theorem turns_n {temp : Int} : ∀ (rs : List (List Int)), (∀ r ∈ rs, 2 ≤ r.length) → (rs.map fun r => turnM r temp).flatten.length = rs.flatten.length + rs.length
  | [], _ => rfl
  | r :: rs, h => by
    rw [List.map_cons, List.flatten_cons, List.flatten_cons, List.length_append, List.length_append, turnM_n r temp (h r List.mem_cons_self), turns_n rs (fun s hs => h s (List.mem_cons_of_mem _ hs)), List.length_cons]
    omega
/-! The program's rings. -/
theorem foldl_min_mem : ∀ (xs : List Int) (z : Int), (∀ y ∈ z :: xs, xs.foldl min z ≤ y) ∧ xs.foldl min z ∈ z :: xs
  | [], z => by simp
  | x :: xs, z => by
    obtain ⟨h1, h2⟩ := foldl_min_mem xs (min z x)
    rw [List.foldl_cons]
    have hm := h1 (min z x) List.mem_cons_self
    refine ⟨fun y hy => ?_, ?_⟩
    · rw [List.mem_cons, List.mem_cons] at hy
      rcases hy with rfl | rfl | hy
      · omega
      · omega
      · exact h1 y (List.mem_cons_of_mem _ hy)
    · rw [List.mem_cons] at h2
      rcases h2 with h2 | h2
      · by_cases e : z ≤ x
        · rw [h2, show min z x = z by omega]; exact List.mem_cons_self
        · rw [h2, show min z x = x by omega]; exact List.mem_cons_of_mem _ List.mem_cons_self
      · exact List.mem_cons_of_mem _ (List.mem_cons_of_mem _ h2)
theorem min_spec (r : List Int) (h : r ≠ []) : (∀ y ∈ r, Lib.minOf r ≤ y) ∧ Lib.minOf r ∈ r := by
  cases r with
  | nil => exact absurd rfl h
  | cons z zs =>
    obtain ⟨h1, h2⟩ := foldl_min_mem (z :: zs) z
    unfold Lib.minOf
    refine ⟨fun y hy => h1 y (List.mem_cons_of_mem _ hy), ?_⟩
    rw [List.mem_cons] at h2
    rcases h2 with h2 | h2
    · exact (by rw [show (z :: zs).headD 0 = z from rfl, h2]; exact List.mem_cons_self)
    · exact h2
/-- One place's ring, if it is the least of it. -/
def ring1 (S : Int → Option Int) (N : Nat) (a : Int) : Option (List Int) := if (ringF S a N [] (S a)).length = 0 then none else if Lib.minOf (ringF S a N [] (S a)) = a then some (ringF S a N [] (S a)) else none
theorem rings_map (S : Int → Option Int) (N : Nat) : ∀ (P : List Int) (out : List (List Int)), P.foldl (ringStep S N) out = out ++ P.filterMap (ring1 S N)
  | [], out => by simp
  | a :: P, out => by
    rw [List.foldl_cons, rings_map S N P, List.filterMap_cons]
    unfold ringStep ring1
    by_cases h0 : (ringF S a N [] (S a)).length = 0
    · rw [if_pos h0, if_pos h0]
    · rw [if_neg h0, if_neg h0]
      by_cases h1 : Lib.minOf (ringF S a N [] (S a)) = a
      · rw [if_pos h1, if_pos h1]; simp
      · rw [if_neg h1, if_neg h1]
theorem ring1_some {S : Int → Option Int} {N : Nat} {a : Int} {r : List Int} (hs : ∀ x, S x ≠ some x) (h : ring1 S N a = some r) : (∃ rest, RingAt S a rest ∧ 1 ≤ rest.length ∧ r = a :: rest.reverse) ∧ ∀ y ∈ r, a ≤ y := by
  unfold ring1 at h
  by_cases h0 : (ringF S a N [] (S a)).length = 0
  · rw [if_pos h0] at h; cases h
  rw [if_neg h0] at h
  by_cases h1 : Lib.minOf (ringF S a N [] (S a)) = a
  · rw [if_pos h1] at h
    have hr : ringF S a N [] (S a) = r := Option.some.inj h
    obtain ⟨rest, h2, h3⟩ := ringF_some S a N [] trivial (by simp) (fun e => h0 (by rw [show S (lst a []) = S a from rfl] at e; rw [e]; rfl))
    rw [show S (lst a []) = S a from rfl, hr] at h3
    refine ⟨⟨rest, h2, ?_, h3⟩, fun y hy => ?_⟩
    · cases rest with
      | nil => exact absurd h2.back (hs a)
      | cons x xs => simp
    · have := (min_spec r (by rw [h3]; simp)).1 y hy
      rw [hr] at h1
      omega
  · rw [if_neg h1] at h; cases h
theorem RingAt.sub {S : Int → Option Int} {a b : Int} {ra rb : List Int} (ha : RingAt S a ra) (hb : RingAt S b rb) {p : Int} (h1 : p ∈ a :: ra) (h2 : p ∈ b :: rb) : a ∈ b :: rb := by
  obtain ⟨n, hn⟩ := ha.back_to h1
  obtain ⟨z, hz, e⟩ := hb.it_mem h2 n
  rw [hn] at e
  injection e with e
  rw [e]
  exact hz
theorem rings_apart (S : Int → Option Int) (N : Nat) (hs : ∀ x, S x ≠ some x) (P : List Int) (hP : P.Nodup) : (P.filterMap (ring1 S N)).Pairwise Apart := by
  refine List.Pairwise.filterMap (R := fun a b => a ≠ b) (ring1 S N) (fun a b hab r hr s hs2 p hp hq => ?_) hP
  obtain ⟨⟨ra, h1, _, e1⟩, m1⟩ := ring1_some hs hr
  obtain ⟨⟨rb, h2, _, e2⟩, m2⟩ := ring1_some hs hs2
  have p1 := (IsRing.mem (S := S) e1 p).1 hp
  have p2 := (IsRing.mem (S := S) e2 p).1 hq
  have q1 := m2 a ((IsRing.mem (S := S) e2 a).2 (h1.sub h2 p1 p2))
  have q2 := m1 b ((IsRing.mem (S := S) e1 b).2 (h2.sub h1 p2 p1))
  exact hab (by omega)
theorem least_of (xs : List Int) (h : xs ≠ []) : ∃ m ∈ xs, ∀ y ∈ xs, m ≤ y := ⟨_, (min_spec xs h).2, (min_spec xs h).1⟩
theorem rings_all (S : Int → Option Int) (N : Nat) (P : List Int) (hN : ∀ a rest, RingAt S a rest → rest.length + 1 ≤ N) (hP : ∀ x, (S x).isSome = true → x ∈ P) {x : Int} (hx : OnRing S x) : x ∈ (P.filterMap (ring1 S N)).flatten := by
  obtain ⟨rest, h1⟩ := hx.ring
  obtain ⟨a, ha, hmin⟩ := least_of (x :: rest) (by simp)
  obtain ⟨ra, h2⟩ := (h1.mem_on ha).ring
  have h3 := ringF_ring S a N [] ra h2 (hN a ra h2)
  rw [show S (lst a []) = S a from rfl, List.nil_append] at h3
  have hxa : x ∈ a :: ra := h1.sub h2 ha List.mem_cons_self
  have hmin2 : ∀ y ∈ a :: ra, a ≤ y := fun y hy => by
    obtain ⟨n, hn⟩ := h2.path.mem_it hy
    obtain ⟨z, hz, e⟩ := h1.it_mem ha n
    rw [hn] at e
    injection e with e
    rw [e]
    exact hmin z hz
  have hr : ring1 S N a = some (a :: ra.reverse) := by
    unfold ring1
    rw [h3]
    simp only [List.length_cons]
    rw [if_neg (by omega), if_pos]
    have h4 := min_spec (a :: ra.reverse) (by simp)
    have h5 := h4.1 a List.mem_cons_self
    have h6 := hmin2 _ ((IsRing.mem (S := S) rfl _).1 h4.2)
    omega
  exact List.mem_flatten.2 ⟨_, List.mem_filterMap.2 ⟨a, hP a (h2.has List.mem_cons_self), hr⟩, (IsRing.mem (S := S) rfl x).2 hxa⟩
theorem flat_nodup : ∀ (rs : List (List Int)), (∀ r ∈ rs, r.Nodup) → rs.Pairwise Apart → rs.flatten.Nodup
  | [], _, _ => by simp
  | r :: rs, h, hp => by
    rw [List.pairwise_cons] at hp
    rw [List.flatten_cons, List.nodup_append]
    refine ⟨h r List.mem_cons_self, flat_nodup rs (fun s hs => h s (List.mem_cons_of_mem _ hs)) hp.2, fun x hx y hy e => ?_⟩
    obtain ⟨s, hs, hys⟩ := List.mem_flatten.1 hy
    exact hp.1 s hs x hx (by rw [e]; exact hys)
/-- What is known of the rings. -/
structure RingsK (l : List Mv) : Prop where
  is : ∀ r ∈ ringsOf l, IsRing (srcs l) r
  apart : (ringsOf l).Pairwise Apart
  mem : ∀ x, x ∈ (ringsOf l).flatten ↔ OnRing (srcs l) x
  nodup : (ringsOf l).flatten.Nodup
theorem rings_k {l : List Mv} (h : okM l = true) : RingsK l := by
  have hkn := keys_nodup (okM_facts h).2
  have hpp : (placesOf l).Perm (keysOf l) := List.mergeSort_perm _ _
  have he : ringsOf l = (placesOf l).filterMap (ring1 (srcs l) l.length) := by
    unfold ringsOf
    rw [rings_map]
    simp
  have hs := srcs_self l
  have his : ∀ r ∈ ringsOf l, IsRing (srcs l) r := fun r hr => by
    rw [he] at hr
    obtain ⟨a, _, e⟩ := List.mem_filterMap.1 hr
    obtain ⟨⟨rest, h1, h2, h3⟩, _⟩ := ring1_some hs e
    exact ⟨a, rest, h1, h2, h3⟩
  have hap : (ringsOf l).Pairwise Apart := by rw [he]; exact rings_apart _ _ hs _ ((hpp.nodup_iff).2 hkn)
  refine ⟨his, hap, fun x => ⟨fun hx => ?_, fun hx => ?_⟩, flat_nodup _ (fun r hr => (his r hr).nodup) hap⟩
  · obtain ⟨r, hr, hxr⟩ := List.mem_flatten.1 hx
    exact (his r hr).on hxr
  · rw [he]
    refine rings_all _ _ _ (fun a rest hr => Nat.le_trans (hr.short (fun y hy => (keys_iff l y).2 hy)) (keys_len l)) (fun y hy => (hpp.mem_iff).2 ((keys_iff l y).2 hy)) hx
/-- The whole plan. -/
theorem plan_all {l : List Mv} {temp : Int} (h : okM l = true) (hl : l.length < 1000) (ht : temp ∉ keysOf l) (v : Int → Int) :
    (∀ p, p ≠ temp → app (planOf l temp) v p = if p ∈ keysOf l then v ((srcs l p).getD 0) else v p) ∧ (planOf l temp).length = (keysOf l).length + (ringsOf l).length ∧
    ∀ m ∈ planOf l temp, (m.f0 = temp ∨ m.f0 ∈ keysOf l) ∧ (m.f1 = temp ∨ m.f1 ∈ keysOf l ∨ ∃ y ∈ keysOf l, srcs l y = some m.f1) := by
  have hkn := keys_nodup (okM_facts h).2
  have hkl := keys_len l
  have hK : ∀ x, x ∈ keysOf l ↔ (srcs l x).isSome = true := keys_iff l
  obtain ⟨R, h1, h2⟩ := dos_all (v := v) l (by omega) hkn hK (fun x hx => by
    unfold keysOf at hx
    obtain ⟨m, hm, e⟩ := List.mem_map.1 hx
    exact List.mem_map.2 ⟨m, (List.mem_filter.1 hm).1, e⟩)
  have hk := rings_k h
  have hRf : ∀ x, x ∈ (ringsOf l).flatten ↔ x ∈ R := fun x => (hk.mem x).trans (h2 x).symm
  have htr : ∀ r ∈ ringsOf l, temp ∉ r := fun r hr hm => ht (h1.sub _ ((hRf temp).1 (List.mem_flatten.2 ⟨r, hr, hm⟩)))
  unfold planOf
  rw [turns_out]
  refine ⟨fun p hp => ?_, ?_, fun m hm => ?_⟩
  · rw [app_append, turns_app _ _ hk.is htr hk.apart p hp]
    by_cases hpR : p ∈ (ringsOf l).flatten
    · have hpR2 := (hRf p).1 hpR
      obtain ⟨r, hr, hpr⟩ := List.mem_flatten.1 hpR
      have hq : (srcs l p).getD 0 ∈ R := (hRf _).1 (List.mem_flatten.2 ⟨r, hr, (hk.is r hr).closed hpr⟩)
      rw [if_pos hpR, h1.val, if_neg (fun h => h.2 hq), if_pos (h1.sub p hpR2)]
    · rw [if_neg hpR, h1.val]
      by_cases hpK : p ∈ keysOf l
      · rw [if_pos ⟨hpK, fun h => hpR ((hRf p).2 h)⟩, if_pos hpK]
      · rw [if_neg (fun h => hpK h.1), if_neg hpK]
  · rw [List.length_append, turns_n _ (fun r hr => (hk.is r hr).two)]
    have h3 := nodup_le _ R hk.nodup (fun x hx => (hRf x).1 hx)
    have h4 := nodup_le R _ h1.nd (fun x hx => (hRf x).2 hx)
    have h5 := h1.len
    omega
  · rw [List.mem_append] at hm
    rcases hm with hm | hm
    · have h3 := h1.mem m hm
      exact ⟨.inr h3.1, .inr (.inr ⟨_, h3.1, h3.2⟩)⟩
    · obtain ⟨L, hL, hmL⟩ := List.mem_flatten.1 hm
      obtain ⟨r, hr, rfl⟩ := List.mem_map.1 hL
      have hrK : ∀ x ∈ r, x ∈ keysOf l := fun x hx => h1.sub _ ((hRf x).1 (List.mem_flatten.2 ⟨r, hr, hx⟩))
      have hr2 := (hk.is r hr).two
      have key : ∀ k, k < r.length → ∀ m ∈ turnL r k [], m.f0 ∈ r ∧ m.f1 ∈ r := by
        intro k
        induction k with
        | zero => intro _ m hm; cases hm
        | succ i ih =>
          intro hi m hm
          unfold turnL at hm
          by_cases e : i = 0
          · rw [if_pos e] at hm; cases hm
          · rw [if_neg e, turnL_out, List.mem_append] at hm
            rcases hm with hm | hm
            · have hm2 : m = ⟨r.getD (i + 1) 0, r.getD i 0⟩ := by simpa using hm
              rw [hm2]
              exact ⟨getD_mem hi, getD_mem (by omega)⟩
            · exact ih (by omega) m hm
      unfold turnM at hmL
      simp only [List.mem_append, List.mem_singleton] at hmL
      rcases hmL with ((e | e) | e) | e
      · rw [e]
        exact ⟨.inl rfl, .inr (.inl (hrK _ (getD_mem (by omega))))⟩
      · rw [e]
        exact ⟨.inr (hrK _ (getD_mem (by omega))), .inr (.inl (hrK _ (getD_mem (by omega))))⟩
      · have h3 := key _ (by omega) m e
        exact ⟨.inr (hrK _ h3.1), .inr (.inl (hrK _ h3.2))⟩
      · rw [e]
        exact ⟨.inr (hrK _ (getD_mem (by omega))), .inl rfl⟩
end Go.Proofs.Ytaklfdlcedlmfaa.XM
