/- MovesPlans: the plain law. No program. -/
import Derived.Test.YtaklfdlcedlmfaaDoorPureRings
import Derived.Test.YtaklfdlcedlmfaaDoorXMx6
namespace Go.Proofs.YtaklfdlcedlmfaaDoor.XM
open Go.RowKit Mo Go.Proofs.YtaklfdlcedlmfaaDoorW.PrintWords
set_option linter.unusedVariables false
set_option linter.unusedSimpArgs false
theorem rd_set (v : List Int) (a p x : Int) (ha : 0 ≤ a) (hp : 0 ≤ p) (hpl : p < (v.length : Int)) : rd (v.set a.toNat x) p = if p = a then x else rd v p := by
  unfold rd
  rw [List.getD_eq_getElem?_getD, List.getD_eq_getElem?_getD, List.getElem?_set]
  by_cases e : p = a
  · subst e
    rw [if_pos rfl, if_pos rfl, if_pos (by omega)]
    rfl
  · rw [if_neg (by omega), if_neg e]
/-- Moves in a list, and in places without end. -/
theorem doAll_app : ∀ (l : List Mv) (v : List Int) (m : Int → Int), okDo v.length l = true → (∀ p, 0 ≤ p → p < (v.length : Int) → rd v p = m p) → ∀ p, 0 ≤ p → p < (v.length : Int) → rd (doAll v l) p = app l m p
  | [], v, m, _, hm, p, h0, h1 => hm p h0 h1
  | x :: l, v, m, ho, hm, p, h0, h1 => by
    unfold okDo at ho
    rw [List.all_cons, Bool.and_eq_true] at ho
    obtain ⟨h2, h3⟩ := ho
    unfold inR at h2
    simp only [Bool.and_eq_true, decide_eq_true_eq] at h2
    have hl : (v.set x.f0.toNat (rd v x.f1)).length = v.length := List.length_set
    exact doAll_app l (v.set x.f0.toNat (rd v x.f1)) (fun p => if p = x.f0 then m x.f1 else m p) (by rw [hl]; exact h3) (fun q hq0 hq1 => by
      rw [rd_set v _ _ _ h2.1.1.1 hq0 (by rw [hl] at hq1; exact hq1), hm x.f1 h2.1.2 h2.2]
      by_cases e : q = x.f0
      · rw [if_pos e, if_pos e]
      · rw [if_neg e, if_neg e]
        exact hm q hq0 (by rw [hl] at hq1; exact hq1)) p h0 (by rw [hl]; exact h1)
theorem u64_small (z : Int) (h0 : 0 ≤ z) (h1 : z < 1000000000) : IntKind.u64.wrap (wrap64 (1000 + z)) = 1000 + z := by
  have : wrap64 (1000 + z) = 1000 + z := by unfold wrap64; omega
  rw [this]
  simp [IntKind.wrap, IntKind.signed, IntKind.bits]
  omega
def num1 (p : Int) : Int := 1000 + p
/-- The values, one after another. -/
theorem mp_l1 (l : List Rv) (t : Int) (p : List Mv) (N : Nat) (hN : N ≤ 6000) (K : Nat) (hK : ∀ k v, K ≤ k → v.length = N → (∀ q, 0 ≤ q → q < (N : Int) → rd v q = num1 q) → ((moves_Do.f k v p).bind fun b => (if b.1.isNone = true then (mandrellaw20_MovesPlans.l2 k l t b.2 0) else (some false))) = some true) :
    ∀ (d i k : Nat) (v : List Int), v.length = N → N - i = d → i ≤ N → d + 1 + K ≤ k → (∀ q, 0 ≤ q → q < (i : Int) → rd v q = num1 q) → mandrellaw20_MovesPlans.l1 k l t p v (i : Int) = some true
  | 0, i, k, v, hv, hd, hi, hk, h => by
    obtain ⟨k, rfl⟩ : ∃ m, k = m + 1 := ⟨k - 1, by omega⟩
    rw [mandrellaw20_MovesPlans.l1, if_neg (by omega)]
    exact hK k v (by omega) hv (fun q h0 h1 => h q h0 (by omega))
  | d + 1, i, k, v, hv, hd, hi, hk, h => by
    obtain ⟨k, rfl⟩ : ∃ m, k = m + 1 := ⟨k - 1, by omega⟩
    rw [mandrellaw20_MovesPlans.l1, if_pos (by omega), if_pos (by omega), u64_small (i : Int) (by omega) (by omega), wrap_s i N (by omega) (by omega)]
    refine mp_l1 l t p N hN K hK d (i + 1) k _ (by rw [List.length_set]; exact hv) (by omega) (by omega) (by omega) (fun q h0 h1 => ?_)
    rw [rd_set v _ _ _ (by omega) h0 (by omega)]
    by_cases e : q = (i : Int)
    · rw [if_pos e, e]; rfl
    · rw [if_neg e]
      exact h q h0 (by omega)
/-- What a place must have. -/
def wantAt (l : List Rv) (at_ : Int) (i : Nat) (w : Int) : Prop := (∃ j, j < i ∧ rT l j = at_ ∧ w = num1 (rF l j)) ∨ ((∀ j, j < i → rT l j ≠ at_) ∧ w = num1 at_)
theorem mp_l3 (l : List Rv) (hl : l.length ≤ 60) (hrF : ∀ i, i < l.length → 0 ≤ rF l i ∧ rF l i ≤ 1048576) (t : Int) (v : List Int) (N : Nat) (hN : N ≤ 6000) (hv : v.length = N) (at_ : Nat) (hat : at_ < N) (K : Nat) (hK : ∀ k, K ≤ k → mandrellaw20_MovesPlans.l2 k l t v ((at_ + 1 : Nat) : Int) = some true)
    (hok : ∀ w, wantAt l (at_ : Int) l.length w → (at_ : Int) ≠ t → rd v (at_ : Int) = w) : ∀ (d i k : Nat) (w : Int), l.length - i = d → i ≤ l.length → d + 1 + K ≤ k → wantAt l (at_ : Int) i w → mandrellaw20_MovesPlans.l3 k l t v (at_ : Int) w (i : Int) = some true
  | 0, i, k, w, hd, hi, hk, hw => by
    obtain ⟨k, rfl⟩ : ∃ m, k = m + 1 := ⟨k - 1, by omega⟩
    have hi2 : i = l.length := by omega
    subst hi2
    have hws := wrap_s at_ N hat (by omega)
    rw [mandrellaw20_MovesPlans.l3, if_neg (by omega), hws]
    by_cases e : (at_ : Int) = t
    · rw [if_pos e]
      exact hK k (by omega)
    · rw [if_neg e, if_pos (by omega), if_pos (by omega), if_pos (hok w hw e)]
      exact hK k (by omega)
  | d + 1, i, k, w, hd, hi, hk, hw => by
    obtain ⟨k, rfl⟩ : ∃ m, k = m + 1 := ⟨k - 1, by omega⟩
    rw [mandrellaw20_MovesPlans.l3, if_pos (by omega), if_pos (by omega), wrap_s i l.length (by omega) (by omega)]
    show (if rT l i = (at_ : Int) then mandrellaw20_MovesPlans.l3 k l t v (at_ : Int) (IntKind.u64.wrap (wrap64 (1000 + rF l i))) _ else _) = _
    have hF := hrF i (by omega)
    by_cases e : rT l i = (at_ : Int)
    · rw [if_pos e, u64_small _ hF.1 (by omega)]
      exact mp_l3 l hl hrF t v N hN hv at_ hat K hK hok d (i + 1) k _ (by omega) (by omega) (by omega) (.inl ⟨i, by omega, e, rfl⟩)
    · rw [if_neg e]
      refine mp_l3 l hl hrF t v N hN hv at_ hat K hK hok d (i + 1) k _ (by omega) (by omega) (by omega) ?_
      rcases hw with ⟨j, hj, h1, h2⟩ | ⟨h1, h2⟩
      · exact .inl ⟨j, by omega, h1, h2⟩
      · refine .inr ⟨fun j hj => ?_, h2⟩
        by_cases e2 : j = i
        · rw [e2]; exact e
        · exact h1 j (by omega)
theorem mp_l2 (l : List Rv) (hl : l.length ≤ 60) (hrF : ∀ i, i < l.length → 0 ≤ rF l i ∧ rF l i ≤ 1048576) (t : Int) (v : List Int) (N : Nat) (hN : N ≤ 6000) (hv : v.length = N)
    (hok : ∀ (at_ : Nat) w, at_ < N → wantAt l (at_ : Int) l.length w → (at_ : Int) ≠ t → rd v (at_ : Int) = w) : ∀ (d at_ k : Nat), N - at_ = d → at_ ≤ N → d * 70 + 101 ≤ k → mandrellaw20_MovesPlans.l2 k l t v (at_ : Int) = some true
  | 0, at_, k, hd, hi, hk => by
    obtain ⟨k, rfl⟩ : ∃ m, k = m + 1 := ⟨k - 1, by omega⟩
    rw [mandrellaw20_MovesPlans.l2, if_neg (by omega), sure_k k (by omega)]
    rfl
  | d + 1, at_, k, hd, hi, hk => by
    obtain ⟨k, rfl⟩ : ∃ m, k = m + 1 := ⟨k - 1, by omega⟩
    rw [mandrellaw20_MovesPlans.l2, if_pos (by omega), u64_small (at_ : Int) (by omega) (by omega)]
    exact mp_l3 l hl hrF t v N hN hv at_ (by omega) (d * 70 + 101) (fun k2 hk2 => mp_l2 l hl hrF t v N hN hv hok d (at_ + 1) k2 (by omega) (by omega) hk2) (fun w hw he => hok at_ w (by omega) hw he) l.length 0 k _ (by omega) (by omega) (by omega) (.inr ⟨fun j hj => by omega, rfl⟩)
/-- What was gone over: may, the count, the highest. -/
structure Over (l : List Rv) (t : Int) (i : Nat) (may : Bool) (n high : Int) : Prop where
  may : may = (okM (l.map conv) && !(away t) && !(((l.map conv).take i).any (hits t)))
  n : n = ((((l.map conv).take i).filter fun m => m.f0 != m.f1).length : Int)
  high : t ≤ high ∧ ∀ j, j < i → rT l j ≤ high ∧ rF l j ≤ high
theorem mx_le (a b : Int) : a ≤ mx a b ∧ b ≤ mx a b := by unfold mx; split <;> omega
theorem take_conv (l : List Rv) (i : Nat) (h : i < l.length) : (l.map conv).take (i + 1) = (l.map conv).take i ++ [(⟨rT l i, rF l i⟩ : Mv)] := by
  rw [List.take_add_one, List.getElem?_eq_getElem (by rw [List.length_map]; exact h)]
  congr 1
  simp only [Option.toList_some, List.getElem_map]
  unfold rT rF rd_T32
  rw [Int.toNat_natCast, List.getD_eq_getElem?_getD, List.getElem?_eq_getElem h]
  rfl
theorem hits_iff (t : Int) (m : Mv) : hits t m = true ↔ m.f0 = t ∨ m.f1 = t := by
  unfold hits
  by_cases h : m.f0 = t
  · simp [h]
  · simp [h]
/-- What goes over the moves, at its end. -/
theorem mp_l0 (l : List Rv) (hl : l.length ≤ 60) (t : Int) (p : List Mv) (e : Option Int) (K : Nat) (hK : ∀ k n high, K ≤ k → Over l t l.length (mayP (l.map conv) t) n high → (if mayP (l.map conv) t = true then (if e.isNone = true then ((mandrelref20_Rings.f k l).bind fun q => (mandrellaw20_MovesPlans.j2 k l t p high ((p.length : Int) != (wrap64 (n + (q.length : Int)))))) else (mandrellaw20_MovesPlans.j2 k l t p high true)) else ((mandrellaw20_num.f e).bind fun q => (if q = 1 then (if (p.length : Int) = 0 then ((mandrellaw20_sure.f k).bind fun s => (some s)) else (some false)) else (some false)))) = some true) :
    ∀ (d i k : Nat) (may : Bool) (n high : Int), l.length - i = d → i ≤ l.length → d + 1 + K ≤ k → Over l t i may n high → mandrellaw20_MovesPlans.l0 k l t p e may n high (i : Int) = some true := by
  intro d
  induction d with
  | zero =>
    intro i k may n high hd hi hk ho
    obtain ⟨k, rfl⟩ : ∃ m, k = m + 1 := ⟨k - 1, by omega⟩
    have hi2 : i = l.length := by omega
    subst hi2
    have hm : may = mayP (l.map conv) t := by
      rw [ho.may, List.take_of_length_le (by rw [List.length_map]; exact Nat.le_refl _)]
      rfl
    rw [hm] at ho ⊢
    rw [mandrellaw20_MovesPlans.l0, if_neg (by omega)]
    exact hK k n high (by omega) ho
  | succ d ih =>
    intro i k may n high hd hi hk ho
    obtain ⟨k, rfl⟩ : ∃ m, k = m + 1 := ⟨k - 1, by omega⟩
    have hil : i < l.length := by omega
    have hcnt : ((((l.map conv).take i).filter fun m => m.f0 != m.f1).length : Int) ≤ 60 := by
      have h1 := List.length_filter_le (fun (m : Mv) => m.f0 != m.f1) ((l.map conv).take i)
      rw [List.length_take, List.length_map] at h1
      omega
    have hn0 := ho.n
    have key : ∀ may' n', may' = (may && !(hits t ⟨rT l i, rF l i⟩)) → (n' = if rT l i = rF l i then n else n + 1) → Over l t (i + 1) may' n' (mx (mx high (rT l i)) (rF l i)) := fun may' n' h1 h2 => by
      refine ⟨?_, ?_, ?_⟩
      · rw [h1, ho.may, take_conv l i hil, List.any_append]
        simp [Bool.and_assoc]
      · rw [h2, take_conv l i hil, List.filter_append, List.length_append, ho.n]
        by_cases e : rT l i = rF l i
        · rw [if_pos e]; simp [e]
        · rw [if_neg e]; simp [e]
      · have a1 := mx_le high (rT l i)
        have a2 := mx_le (mx high (rT l i)) (rF l i)
        refine ⟨by have := ho.high.1; omega, fun j hj => ?_⟩
        by_cases e : j = i
        · rw [e]; omega
        · have := ho.high.2 j (by omega)
          omega
    have hw : wrap64 (n + 1) = n + 1 := by unfold wrap64; omega
    have hws := wrap_s i l.length hil (by omega)
    have go : ∀ may' n', may' = (may && !(hits t ⟨rT l i, rF l i⟩)) → (n' = if rT l i = rF l i then n else n + 1) → mandrellaw20_MovesPlans.l0 k l t p e may' n' (mx (mx high (rT l i)) (rF l i)) ((i + 1 : Nat) : Int) = some true := fun may' n' h1 h2 => ih (i + 1) k may' n' _ (by omega) (by omega) (by omega) (key may' n' h1 h2)
    rw [mandrellaw20_MovesPlans.l0, if_pos (by omega), hws, hw]
    show (if may = true then (if 0 ≤ (i : Int) then (if rT l i = t then (if rT l i = rF l i then mandrellaw20_MovesPlans.l0 k l t p e false n (mx (mx high (rT l i)) (rF l i)) _ else mandrellaw20_MovesPlans.l0 k l t p e false (n + 1) (mx (mx high (rT l i)) (rF l i)) _) else (if rT l i = rF l i then mandrellaw20_MovesPlans.l0 k l t p e (rF l i != t) n (mx (mx high (rT l i)) (rF l i)) _ else mandrellaw20_MovesPlans.l0 k l t p e (rF l i != t) (n + 1) (mx (mx high (rT l i)) (rF l i)) _)) else none) else (if 0 ≤ (i : Int) then (if rT l i = rF l i then mandrellaw20_MovesPlans.l0 k l t p e false n (mx (mx high (rT l i)) (rF l i)) _ else mandrellaw20_MovesPlans.l0 k l t p e false (n + 1) (mx (mx high (rT l i)) (rF l i)) _) else none)) = _
    have hi0 : (0 : Int) ≤ (i : Int) := by omega
    rw [if_pos hi0, if_pos hi0]
    by_cases h1 : may = true
    · rw [if_pos h1]
      by_cases h2 : rT l i = t
      · have hh : hits t ⟨rT l i, rF l i⟩ = true := (hits_iff _ _).2 (.inl h2)
        rw [if_pos h2]
        by_cases h3 : rT l i = rF l i
        · rw [if_pos h3]; exact go _ _ (by rw [hh]; simp) (by rw [if_pos h3])
        · rw [if_neg h3]; exact go _ _ (by rw [hh]; simp) (by rw [if_neg h3])
      · have hh : hits t ⟨rT l i, rF l i⟩ = !(rF l i != t) := by
          unfold hits
          by_cases h4 : rF l i = t
          · simp [h2, h4]
          · simp [h2, h4]
        rw [if_neg h2]
        by_cases h3 : rT l i = rF l i
        · rw [if_pos h3]; exact go _ _ (by rw [hh, h1]; simp) (by rw [if_pos h3])
        · rw [if_neg h3]; exact go _ _ (by rw [hh, h1]; simp) (by rw [if_neg h3])
    · have h1' := (Bool.not_eq_true _).mp h1
      rw [if_neg h1]
      by_cases h3 : rT l i = rF l i
      · rw [if_pos h3]; exact go _ _ (by rw [h1']; rfl) (by rw [if_pos h3])
      · rw [if_neg h3]; exact go _ _ (by rw [h1']; rfl) (by rw [if_neg h3])
theorem keys_n (l : List Mv) : (keysOf l).length = (l.filter fun m => m.f0 != m.f1).length := by unfold keysOf; rw [List.length_map]
theorem rd_rep (n : Nat) (p : Int) : rd (List.replicate n 0) p = 0 := by
  unfold rd
  rw [List.getD_eq_getElem?_getD, List.getElem?_replicate]
  split <;> rfl
/-- All that the law asks where moves may be planned. -/
theorem mp_good (l : List Rv) (hl : l.length ≤ 60) (t : Int) (hm : mayP (l.map conv) t = true) (n high : Int) (ho : Over l t l.length (mayP (l.map conv) t) n high) (k : Nat) (hk : 500000 ≤ k) :
    ((mandrelref20_Rings.f k l).bind fun q => (mandrellaw20_MovesPlans.j2 k l t (planOf (l.map conv) t) high (((planOf (l.map conv) t).length : Int) != (wrap64 (n + (q.length : Int)))))) = some true := by
  obtain ⟨hok, ha, hh⟩ := mayP_parts hm
  have hml : (l.map conv).length ≤ 60 := by rw [List.length_map]; exact hl
  have htK : t ∉ keysOf (l.map conv) := fun hx => by
    unfold keysOf at hx
    obtain ⟨m, h1, h2⟩ := List.mem_map.1 hx
    have h3 : hits t m = true := (hits_iff _ _).2 (.inl h2)
    have h4 : (l.map conv).any (hits t) = true := List.any_eq_true.2 ⟨m, (List.mem_filter.1 h1).1, h3⟩
    rw [hh] at h4
    cases h4
  obtain ⟨happ, hlen, hmem⟩ := plan_all hok (by omega) htK num1
  have hn : n = ((keysOf (l.map conv)).length : Int) := by
    rw [ho.n, List.take_of_length_le (by rw [List.length_map]; exact Nat.le_refl _), keys_n]
  have hkl := keys_len (l.map conv)
  have hrc := rings_count (l.map conv)
  rw [rings_f l hl hok k (by omega), Option.bind_some, hlen, hn, show wrap64 (((keysOf (l.map conv)).length : Int) + ((ringsOf (l.map conv)).length : Int)) = (((keysOf (l.map conv)).length + (ringsOf (l.map conv)).length : Nat) : Int) by unfold wrap64; omega]
  obtain ⟨k, rfl⟩ : ∃ m, k = m + 1 := ⟨k - 1, by omega⟩
  rw [mandrellaw20_MovesPlans.j2, if_neg (by simp)]
  by_cases h5 : high > 5000
  · rw [if_pos h5, sure_k k (by omega)]
    rfl
  · rw [if_neg h5]
    have hta := (away_iff t).1 ha
    have hh0 := ho.high.1
    have hw : wrap64 (high + 1) = high + 1 := by unfold wrap64; omega
    rw [hw, if_pos (by omega), if_pos (by omega)]
    obtain ⟨N, hN⟩ : ∃ N : Nat, high + 1 = (N : Int) := ⟨(high + 1).toNat, by omega⟩
    rw [hN, Int.toNat_natCast]
    have hin : ∀ x, x = t ∨ x ∈ keysOf (l.map conv) ∨ (∃ y ∈ keysOf (l.map conv), srcs (l.map conv) y = some x) → 0 ≤ x ∧ x < (N : Int) := fun x hx => by
      have hmv : ∀ m ∈ l.map conv, (0 ≤ m.f0 ∧ m.f0 ≤ high) ∧ 0 ≤ m.f1 ∧ m.f1 ≤ high := fun m hm => by
        obtain ⟨i, hi, e1, e2⟩ := rt_of_mem hm
        have h1 := ho.high.2 i hi
        have h2 := (okM_facts hok).1 m hm
        have h3 := (away_iff _).1 h2.1
        have h4 := (away_iff _).1 h2.2
        rw [← e1, ← e2] at *
        omega
      rcases hx with rfl | hx | ⟨y, _, hx⟩
      · omega
      · unfold keysOf at hx
        obtain ⟨m, hm, rfl⟩ := List.mem_map.1 hx
        have := hmv m (List.mem_filter.1 hm).1
        omega
      · obtain ⟨m, hm, _, e, _⟩ := srcs_some hx
        have := hmv m hm
        omega
    have hokDo : okDo N (planOf (l.map conv) t) = true := List.all_eq_true.2 fun m hm => by
      have h1 := hmem m hm
      have h2 := hin m.f0 (h1.1.elim .inl (fun h => .inr (.inl h)))
      have h3 := hin m.f1 h1.2
      unfold inR
      simp only [Bool.and_eq_true, decide_eq_true_eq]
      omega
    refine mp_l1 l t (planOf (l.map conv) t) N (by omega) 470000 (fun k v hk hv hq => ?_) N 0 k _ (by rw [List.length_replicate]) (by omega) (by omega) (by omega) (fun q h0 h1 => by omega)
    rw [do_f v _ (by omega) k (by omega), hv, if_pos hokDo, Option.bind_some]
    show mandrellaw20_MovesPlans.l2 k l t (doAll v (planOf (l.map conv) t)) 0 = _
    refine mp_l2 l hl (fun i hi => ?_) t (doAll v (planOf (l.map conv) t)) N (by omega) (by rw [doAll_len]; exact hv) (fun at_ w hat hw hne => ?_) N 0 k (by omega) (by omega) (by omega)
    · have h1 := (okM_iff l).1 hok i hi
      have h2 := (away_iff _).1 h1.2.1
      omega
    · rw [doAll_app _ v num1 (by rw [hv]; exact hokDo) (fun p h0 h1 => hq p h0 (by rw [hv] at h1; exact h1)) (at_ : Int) (by omega) (by rw [hv]; omega), happ _ hne]
      rcases hw with ⟨j, hj, e1, e2⟩ | ⟨e1, e2⟩
      · rw [e2]
        by_cases e3 : rT l j = rF l j
        · rw [if_neg]
          · rw [← e3, e1]
          · intro hx
            unfold keysOf at hx
            obtain ⟨m, hm, e4⟩ := List.mem_map.1 hx
            obtain ⟨hm1, hm2⟩ := List.mem_filter.1 hm
            obtain ⟨i, hi, f1, f2⟩ := rt_of_mem hm1
            have hij : i = j := by
              rcases Nat.lt_trichotomy i j with h | h | h
              · exact absurd (by rw [f1, e4, e1]) (((okM_iff l).1 hok j hj).2.2 i h)
              · exact h
              · exact absurd (by rw [f1, e4, e1]) (((okM_iff l).1 hok i hi).2.2 j h)
            subst hij
            rw [← f1, ← f2, e3] at hm2
            simp at hm2
        · have h1 := srcs_at hok (rt_mem l j hj) e3
          have h2 : srcs (l.map conv) (rT l j) = some (rF l j) := h1
          rw [e1] at h2
          rw [if_pos ((keys_iff _ _).2 (by rw [h2]; rfl)), h2]
          rfl
      · rw [e2, if_neg]
        intro hx
        unfold keysOf at hx
        obtain ⟨m, hm, e4⟩ := List.mem_map.1 hx
        obtain ⟨hm1, _⟩ := List.mem_filter.1 hm
        obtain ⟨i, hi, f1, f2⟩ := rt_of_mem hm1
        exact e1 i hi (by rw [f1, e4])
theorem movesPlans_law (l : List Rv) (t : Int) : ∃ k, mandrellaw20_MovesPlans.f k l t = some true := by
  obtain ⟨k, hk⟩ : ∃ k : Nat, k = 600000 := ⟨_, rfl⟩
  refine ⟨k, ?_⟩
  unfold mandrellaw20_MovesPlans.f
  by_cases h60 : (l.length : Int) > 60
  · rw [if_pos h60, sure_k k (by omega)]
    rfl
  · rw [if_neg h60]
    have hl : l.length ≤ 60 := by omega
    rw [give_f l (by omega) k (by omega), Option.bind_some]
    have hml : (l.map conv).length ≤ 1000 := by rw [List.length_map]; omega
    -- what is told first
    have hfirst : ∀ p e, (∀ k n high, 500000 ≤ k → Over l t l.length (mayP (l.map conv) t) n high → (if mayP (l.map conv) t = true then (if e.isNone = true then ((mandrelref20_Rings.f k l).bind fun q => (mandrellaw20_MovesPlans.j2 k l t p high ((p.length : Int) != (wrap64 (n + (q.length : Int)))))) else (mandrellaw20_MovesPlans.j2 k l t p high true)) else ((mandrellaw20_num.f e).bind fun q => (if q = 1 then (if (p.length : Int) = 0 then ((mandrellaw20_sure.f k).bind fun s => (some s)) else (some false)) else (some false)))) = some true) →
        ((mandrelref20_May.f k l).bind fun t203 => (if t203 = true then (if t ≥ 0 then (mandrellaw20_MovesPlans.j0 k l t p e (decide (t ≤ 1048576))) else (mandrellaw20_MovesPlans.j0 k l t p e false)) else (mandrellaw20_MovesPlans.j0 k l t p e false))) = some true := fun p e hK => by
      have hj0 : ∀ may, may = (okM (l.map conv) && !(away t)) → mandrellaw20_MovesPlans.j0 k l t p e may = some true := fun may hmay => by
        obtain ⟨k', rfl⟩ : ∃ m, k = m + 1 := ⟨k - 1, by omega⟩
        rw [mandrellaw20_MovesPlans.j0]
        exact mp_l0 l hl t p e 500000 hK l.length 0 k' may 0 t (by omega) (by omega) (by omega) ⟨by rw [hmay]; simp, by simp, ⟨Int.le_refl _, fun j hj => by omega⟩⟩
      rw [may_f l hl k (by omega), Option.bind_some]
      by_cases h1 : okM (l.map conv) = true
      · rw [if_pos h1]
        by_cases h2 : t ≥ 0
        · rw [if_pos h2]
          refine hj0 _ ?_
          rw [h1]
          unfold away
          rw [if_neg (by omega)]
          by_cases h3 : t ≤ 1048576
          · rw [decide_eq_true h3, decide_eq_false (by omega)]; rfl
          · rw [decide_eq_false h3, decide_eq_true (by omega)]; rfl
        · rw [if_neg h2]
          refine hj0 _ ?_
          rw [h1]
          unfold away
          rw [if_pos (by omega)]
          rfl
      · rw [if_neg h1]
        exact hj0 _ (by rw [(Bool.not_eq_true _).mp h1]; rfl)
    by_cases hm : mayP (l.map conv) t = true
    · have hp : moves_Plan.f (l.map conv) t = some (planOf (l.map conv) t, none) := by
        unfold moves_Plan.f
        rw [if_pos hml, if_pos hm]
      rw [hp, Option.bind_some]
      refine hfirst _ _ (fun k n high hk ho => ?_)
      rw [if_pos hm]
      rw [if_pos (show (none : Option Int).isNone = true from rfl)]
      exact mp_good l hl t hm n high ho k hk
    · have hp : moves_Plan.f (l.map conv) t = some ([], some 1) := by
        unfold moves_Plan.f
        rw [if_pos hml, if_neg hm]
      rw [hp, Option.bind_some]
      refine hfirst _ _ (fun k n high hk ho => ?_)
      rw [if_neg hm]
      unfold mandrellaw20_num.f
      rw [sure_k k (by omega)]
      rfl
end Go.Proofs.YtaklfdlcedlmfaaDoor.XM
