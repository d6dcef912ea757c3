/- MovesTurns: the plain law. No program. -/
import Derived.Test.YtaklfdlcedlmfaaDoF
import Derived.Test.YtaklfdlcedlmfaaXMx3
namespace Go.Proofs.Ytaklfdlcedlmfaa.XM
open Go.RowKit Mo Go.Proofs.YtaklfdlcedlmfaaW.PrintWords
set_option linter.unusedVariables false
set_option linter.unusedSimpArgs false
/-- The turn's move number i. -/
def tm (K A : Nat) (i : Nat) : Mv := ⟨((A + (i + 1) % K : Nat) : Int), ((A + i : Nat) : Int)⟩
def tl (K A : Nat) (n : Nat) : List Mv := (List.range n).map (tm K A)
theorem tl_succ (K A n : Nat) : tl K A (n + 1) = tl K A n ++ [tm K A n] := by unfold tl; rw [List.range_succ, List.map_append]; rfl
theorem tl_len (K A n : Nat) : (tl K A n).length = n := by unfold tl; simp
theorem tl_mem {K A n : Nat} {m : Mv} : m ∈ tl K A n ↔ ∃ i, i < n ∧ m = tm K A i := by
  unfold tl
  rw [List.mem_map]
  constructor
  · rintro ⟨i, hi, rfl⟩
    exact ⟨i, List.mem_range.1 hi, rfl⟩
  · rintro ⟨i, hi, rfl⟩
    exact ⟨i, List.mem_range.2 hi, rfl⟩
theorem tmod_nat (a b : Nat) : Int.tmod (a : Int) (b : Int) = ((a % b : Nat) : Int) := by
  rw [Int.tmod_eq_emod_of_nonneg (by omega)]
  omega
theorem mod_lt' (a K : Nat) (h : 2 ≤ K) : a % K < K := Nat.mod_lt _ (by omega)
theorem succ_mod_inj (K i j : Nat) (hi : i < K) (hj : j < K) (h : (i + 1) % K = (j + 1) % K) : i = j := by
  by_cases e1 : i + 1 = K
  · rw [e1, Nat.mod_self] at h
    by_cases e2 : j + 1 = K
    · omega
    · rw [Nat.mod_eq_of_lt (by omega)] at h; omega
  · rw [Nat.mod_eq_of_lt (by omega)] at h
    by_cases e2 : j + 1 = K
    · rw [e2, Nat.mod_self] at h; omega
    · rw [Nat.mod_eq_of_lt (by omega)] at h; omega
theorem succ_mod_ne (K i : Nat) (h : 2 ≤ K) (hi : i < K) : (i + 1) % K ≠ i := by
  by_cases e1 : i + 1 = K
  · rw [e1, Nat.mod_self]; omega
  · rw [Nat.mod_eq_of_lt (by omega)]; omega
theorem tl_nodup (K A : Nat) : ((tl K A K).map (·.f0)).Nodup := by
  unfold tl
  rw [List.map_map, List.nodup_iff_pairwise_ne, List.pairwise_map]
  refine List.Pairwise.imp_of_mem (fun {a b} ha hb hab => ?_) (List.pairwise_lt_range (n := K))
  intro h
  have h2 : ((A + (a + 1) % K : Nat) : Int) = ((A + (b + 1) % K : Nat) : Int) := h
  have := succ_mod_inj K a b (List.mem_range.1 ha) (List.mem_range.1 hb) (by omega)
  omega
theorem tl_ok {K A : Nat} (hK : 2 ≤ K) (hK2 : K ≤ 31) (hA : A ≤ 99) : okM (tl K A K) = true := by
  refine okGo_of _ _ (fun m hm => ?_) (tl_nodup K A)
  obtain ⟨i, hi, rfl⟩ := tl_mem.1 hm
  have := mod_lt' (i + 1) K hK
  exact ⟨(away_iff _).2 (by show ¬ ((A + (i + 1) % K : Nat) : Int) < 0 ∧ ¬ ((A + (i + 1) % K : Nat) : Int) > 1048576; omega), (away_iff _).2 (by show ¬ ((A + i : Nat) : Int) < 0 ∧ ¬ ((A + i : Nat) : Int) > 1048576; omega), rfl⟩
theorem tl_src {K A : Nat} (hK : 2 ≤ K) (hK2 : K ≤ 31) (hA : A ≤ 99) (i : Nat) (hi : i < K) : srcs (tl K A K) ((A + (i + 1) % K : Nat) : Int) = some ((A + i : Nat) : Int) :=
  srcs_at (m := tm K A i) (tl_ok hK hK2 hA) (tl_mem.2 ⟨i, hi, rfl⟩) (fun h => by
    have h2 : ((A + (i + 1) % K : Nat) : Int) = ((A + i : Nat) : Int) := h
    exact succ_mod_ne K i hK hi (by omega))
theorem prev_mod (K j : Nat) (hK : 2 ≤ K) (hj : j < K) : ∃ i, i < K ∧ (i + 1) % K = j := by
  by_cases e : j = 0
  · exact ⟨K - 1, by omega, by rw [show K - 1 + 1 = K by omega, Nat.mod_self, e]⟩
  · exact ⟨j - 1, by omega, by rw [show j - 1 + 1 = j by omega, Nat.mod_eq_of_lt hj]⟩
theorem tl_key {K A : Nat} (hK : 2 ≤ K) (hK2 : K ≤ 31) (hA : A ≤ 99) (x : Int) : x ∈ keysOf (tl K A K) ↔ ∃ j, j < K ∧ x = ((A + j : Nat) : Int) := by
  rw [keys_iff]
  constructor
  · intro h
    obtain ⟨y, hy⟩ := Option.isSome_iff_exists.1 h
    obtain ⟨m, hm, e, _⟩ := srcs_some hy
    obtain ⟨i, hi, rfl⟩ := tl_mem.1 hm
    exact ⟨(i + 1) % K, mod_lt' _ K hK, e.symm⟩
  · rintro ⟨j, hj, rfl⟩
    obtain ⟨i, hi, e⟩ := prev_mod K j hK hj
    rw [← e, tl_src hK hK2 hA i hi]
    rfl
theorem tl_keys_n {K A : Nat} (hK : 2 ≤ K) : (keysOf (tl K A K)).length = K := by
  unfold keysOf
  rw [List.length_map, List.filter_eq_self.2, tl_len]
  intro m hm
  obtain ⟨i, hi, rfl⟩ := tl_mem.1 hm
  rw [bne_iff_ne]
  intro h
  have h2 : ((A + (i + 1) % K : Nat) : Int) = ((A + i : Nat) : Int) := h
  exact succ_mod_ne K i hK hi (by omega)
/-- It is one ring, of all its places. -/
theorem tl_ring {K A : Nat} (hK : 2 ≤ K) (hK2 : K ≤ 31) (hA : A ≤ 99) : ∃ r, ringsOf (tl K A K) = [r] ∧ r.length = K := by
  have hok := tl_ok hK hK2 hA
  have hk := rings_k hok
  have hkn := keys_nodup (okM_facts hok).2
  have hkey := tl_key hK hK2 hA
  have hon : ∀ x, OnRing (srcs (tl K A K)) x ↔ x ∈ keysOf (tl K A K) := fun x => by
    constructor
    · intro h
      obtain ⟨y, _, e⟩ := h.next
      exact (keys_iff _ _).2 (by rw [e]; rfl)
    · intro h
      refine onto_ring hkn (fun z hz => ?_) h
      obtain ⟨j, hj, rfl⟩ := (hkey z).1 hz
      exact ⟨_, (hkey _).2 ⟨(j + 1) % K, mod_lt' _ K hK, rfl⟩, tl_src hK hK2 hA j hj⟩
  have hlen : (ringsOf (tl K A K)).flatten.length = K := by
    have h1 := nodup_le _ _ hk.nodup (fun x hx => (hon x).1 ((hk.mem x).1 hx))
    have h2 := nodup_le _ _ hkn (fun x hx => (hk.mem x).2 ((hon x).2 hx))
    rw [tl_keys_n hK] at h1 h2
    omega
  -- each ring has the place A
  have hA0 : ∀ r ∈ ringsOf (tl K A K), ((A : Nat) : Int) ∈ r := fun r hr => by
    have hi := hk.is r hr
    have hdown : ∀ j, j < K → ((A + j : Nat) : Int) ∈ r → ((A : Nat) : Int) ∈ r := by
      intro j
      induction j with
      | zero => intro _ h; exact h
      | succ j ih =>
        intro hj h
        refine ih (by omega) ?_
        have h2 := hi.closed h
        have h3 := tl_src hK hK2 hA j (by omega)
        rw [Nat.mod_eq_of_lt (by omega)] at h3
        rw [h3] at h2
        exact h2
    have h2 := hi.two
    have hx : r.getD 0 0 ∈ r := getD_mem (by omega)
    obtain ⟨j, hj, e⟩ := (hkey _).1 ((hon _).1 (hi.on hx))
    rw [e] at hx
    exact hdown j hj hx
  rcases hr : ringsOf (tl K A K) with _ | ⟨r, _ | ⟨s, rs⟩⟩
  · rw [hr] at hlen
    simp at hlen
    omega
  · exact ⟨r, rfl, by rw [hr] at hlen; simpa using hlen⟩
  · exfalso
    have h1 := hk.apart
    rw [hr, List.pairwise_cons] at h1
    exact h1.1 s List.mem_cons_self _ (hA0 r (by rw [hr]; exact List.mem_cons_self)) (hA0 s (by rw [hr]; exact List.mem_cons_of_mem _ List.mem_cons_self))
theorem hits_iff' (t : Int) (m : Mv) : hits t m = true ↔ m.f0 = t ∨ m.f1 = t := by
  unfold hits
  by_cases h : m.f0 = t
  · simp [h]
  · simp [h]
theorem tl_may {K A : Nat} (hK : 2 ≤ K) (hK2 : K ≤ 31) (hA : A ≤ 99) : mayP (tl K A K) 500 = true := by
  unfold mayP
  rw [tl_ok hK hK2 hA, (away_iff 500).2 (by omega)]
  have : (tl K A K).any (hits 500) = false := by
    rw [List.any_eq_false]
    intro m hm
    obtain ⟨i, hi, rfl⟩ := tl_mem.1 hm
    have hml := mod_lt' (i + 1) K hK
    intro h
    rcases (hits_iff' _ _).1 h with h | h
    · have h2 : ((A + (i + 1) % K : Nat) : Int) = 500 := h
      omega
    · have h2 : ((A + i : Nat) : Int) = 500 := h
      omega
  rw [this]
  rfl
/-- Where the values stand after j rounds. -/
def Rot (K A : Nat) (j : Nat) (v : List Int) : Prop := v.length = 501 ∧ ∀ i, i < K → rd v ((A + (i + j) % K : Nat) : Int) = ((i + 1 : Nat) : Int)
theorem rot_step {K A : Nat} (hK : 2 ≤ K) (hK2 : K ≤ 31) (hA : A ≤ 99) {j : Nat} {v : List Int} (h : Rot K A j v) : okDo v.length (planOf (tl K A K) 500) = true ∧ Rot K A (j + 1) (doAll v (planOf (tl K A K) 500)) := by
  obtain ⟨hv, h1⟩ := h
  have hok := tl_ok hK hK2 hA
  have hkey := tl_key hK hK2 hA
  have h500 : (500 : Int) ∉ keysOf (tl K A K) := fun hx => by
    obtain ⟨j, hj, e⟩ := (hkey _).1 hx
    omega
  obtain ⟨happ, hlen, hmem⟩ := plan_all hok (by rw [tl_len]; omega) h500 (rd v)
  have hdo : okDo v.length (planOf (tl K A K) 500) = true := List.all_eq_true.2 fun m hm => by
    have hin : ∀ x : Int, x = 500 ∨ x ∈ keysOf (tl K A K) ∨ (∃ y ∈ keysOf (tl K A K), srcs (tl K A K) y = some x) → 0 ≤ x ∧ x < 501 := fun x hx => by
      rcases hx with rfl | hx | ⟨y, hy, hx⟩
      · omega
      · obtain ⟨j, hj, rfl⟩ := (hkey _).1 hx
        omega
      · obtain ⟨m, hm, _, e, _⟩ := srcs_some hx
        obtain ⟨i, hi, rfl⟩ := tl_mem.1 hm
        have e2 : ((A + i : Nat) : Int) = x := e
        omega
    have h2 := hmem m hm
    have h3 := hin m.f0 (h2.1.elim .inl (fun h => .inr (.inl h)))
    have h4 := hin m.f1 h2.2
    unfold inR
    rw [hv]
    simp only [Bool.and_eq_true, decide_eq_true_eq]
    omega
  refine ⟨hdo, by rw [doAll_len]; exact hv, fun i hi => ?_⟩
  have hm1 := mod_lt' (i + j) K hK
  have hm2 := mod_lt' (i + (j + 1)) K hK
  have he : (i + (j + 1)) % K = ((i + j) % K + 1) % K := by rw [Nat.mod_add_mod]; congr 1
  rw [doAll_app _ v (rd v) hdo (fun p _ _ => rfl) _ (by omega) (by rw [hv]; omega), happ _ (by omega), if_pos ((hkey _).2 ⟨_, hm2, rfl⟩), he, tl_src hK hK2 hA _ hm1]
  exact h1 i hi
theorem wrapN (n : Nat) (h : n < 1000000) : wrap64 ((n : Nat) : Int) = (n : Int) := by unfold wrap64; omega
theorem wrapS (n : Nat) (h : n < 1000000) : wrap64 ((n : Int) + 1) = ((n + 1 : Nat) : Int) := by unfold wrap64; omega
theorem wrapA (a b : Nat) (h : a + b < 1000000) : wrap64 ((a : Int) + (b : Int)) = ((a + b : Nat) : Int) := by unfold wrap64; omega
theorem t_l3 {K A : Nat} (hK : 2 ≤ K) (hK2 : K ≤ 31) (hA : A ≤ 99) (v : List Int) (h : Rot K A K v) : ∀ (d i k : Nat), K - i = d → i ≤ K → d + 101 ≤ k → mandrellaw20_MovesTurns.l3 k (K : Int) (A : Int) v (i : Int) = some true := by
  intro d
  induction d with
  | zero =>
    intro i k hd hi hk
    obtain ⟨k, rfl⟩ : ∃ m, k = m + 1 := ⟨k - 1, by omega⟩
    rw [mandrellaw20_MovesTurns.l3, if_neg (by omega), sure_k k (by omega)]
    rfl
  | succ d ih =>
    intro i k hd hi hk
    obtain ⟨k, rfl⟩ : ∃ m, k = m + 1 := ⟨k - 1, by omega⟩
    have h1 := h.2 i (by omega)
    rw [show (i + K) % K = i by rw [Nat.add_mod_right, Nat.mod_eq_of_lt (by omega)]] at h1
    have hu : IntKind.u64.wrap ((i + 1 : Nat) : Int) = ((i + 1 : Nat) : Int) := by
      simp [IntKind.wrap, IntKind.signed, IntKind.bits]
      omega
    rw [mandrellaw20_MovesTurns.l3, if_pos (by omega), wrapA A i (by omega), wrapS i (by omega), if_pos (by omega), if_pos (by rw [h.1]; omega), hu, if_pos h1]
    exact ih (i + 1) k (by omega) (by omega) (by omega)
theorem t_l2 {K A : Nat} (hK : 2 ≤ K) (hK2 : K ≤ 31) (hA : A ≤ 99) : ∀ (d i k : Nat) (v : List Int), K - i = d → i ≤ K → d + 301 ≤ k → Rot K A i v → mandrellaw20_MovesTurns.l2 k (K : Int) (A : Int) (planOf (tl K A K) 500) v (i : Int) = some true := by
  intro d
  induction d with
  | zero =>
    intro i k v hd hi hk h
    obtain ⟨k, rfl⟩ : ∃ m, k = m + 1 := ⟨k - 1, by omega⟩
    have : i = K := by omega
    subst this
    rw [mandrellaw20_MovesTurns.l2, if_neg (by omega)]
    exact t_l3 hK hK2 hA v h i 0 k (by omega) (by omega) (by omega)
  | succ d ih =>
    intro i k v hd hi hk h
    obtain ⟨k, rfl⟩ : ∃ m, k = m + 1 := ⟨k - 1, by omega⟩
    obtain ⟨hdo, h2⟩ := rot_step hK hK2 hA h
    have hpl : (planOf (tl K A K) 500).length ≤ 100 := by
      have h500 : (500 : Int) ∉ keysOf (tl K A K) := fun hx => by
        obtain ⟨j, hj, e⟩ := (tl_key hK hK2 hA _).1 hx
        omega
      obtain ⟨_, hlen, _⟩ := plan_all (tl_ok hK hK2 hA) (by rw [tl_len]; omega) h500 (rd v)
      obtain ⟨r, hr, _⟩ := tl_ring hK hK2 hA
      rw [hlen, tl_keys_n hK, hr]
      simp
      omega
    have h1 := h2.2 0 (by omega)
    rw [Nat.zero_add] at h1
    have h1' : rd (doAll v (planOf (tl K A K) 500)) ((A + (i + 1) % K : Nat) : Int) = 1 := h1
    have hm := mod_lt' (i + 1) K hK
    rw [mandrellaw20_MovesTurns.l2, if_pos (by omega), do_f v _ (by omega) k (by omega), if_pos hdo, Option.bind_some, if_pos (show (none : Option Int).isNone = true from rfl), if_neg (by omega), wrapS i (by omega), tmod_nat, wrapA A _ (by omega), if_pos (by omega), if_pos (by rw [h.1]; omega), if_pos h1']
    exact ih (i + 1) k _ (by omega) (by omega) (by omega) h2
theorem rd_rep (n : Nat) (p : Int) : rd (List.replicate n 0) p = 0 := by
  unfold rd
  rw [List.getD_eq_getElem?_getD, List.getElem?_replicate]
  split <;> rfl
theorem t_l1 {K A : Nat} (hK : 2 ≤ K) (hK2 : K ≤ 31) (hA : A ≤ 99) : ∀ (d i k : Nat) (v : List Int), K - i = d → i ≤ K → d + 401 ≤ k → v.length = 501 → (∀ j, j < i → rd v ((A + j : Nat) : Int) = ((j + 1 : Nat) : Int)) → mandrellaw20_MovesTurns.l1 k (K : Int) (A : Int) (planOf (tl K A K) 500) v (i : Int) = some true := by
  intro d
  induction d with
  | zero =>
    intro i k v hd hi hk hv h
    obtain ⟨k, rfl⟩ : ∃ m, k = m + 1 := ⟨k - 1, by omega⟩
    rw [mandrellaw20_MovesTurns.l1, if_neg (by omega)]
    refine t_l2 hK hK2 hA K 0 k v (by omega) (by omega) (by omega) ⟨hv, fun j hj => ?_⟩
    rw [Nat.add_zero, Nat.mod_eq_of_lt hj]
    exact h j (by omega)
  | succ d ih =>
    intro i k v hd hi hk hv h
    obtain ⟨k, rfl⟩ : ∃ m, k = m + 1 := ⟨k - 1, by omega⟩
    have hu : IntKind.u64.wrap ((i + 1 : Nat) : Int) = ((i + 1 : Nat) : Int) := by
      simp [IntKind.wrap, IntKind.signed, IntKind.bits]
      omega
    rw [mandrellaw20_MovesTurns.l1, if_pos (by omega), wrapA A i (by omega), wrapS i (by omega), if_pos (by omega), if_pos (by rw [hv]; omega), hu]
    refine ih (i + 1) k _ (by omega) (by omega) (by omega) (by rw [List.length_set]; exact hv) (fun j hj => ?_)
    rw [rd_set v _ _ _ (by omega) (by omega) (by rw [hv]; omega)]
    by_cases e : j = i
    · rw [e, if_pos rfl]
    · rw [if_neg (by omega)]
      exact h j (by omega)
theorem t_l0 {K A : Nat} (hK : 2 ≤ K) (hK2 : K ≤ 31) (hA : A ≤ 99) : ∀ (d i k : Nat), K - i = d → i ≤ K → d + 601 ≤ k → mandrellaw20_MovesTurns.l0 k (K : Int) (A : Int) (tl K A i) (i : Int) = some true := by
  intro d
  induction d with
  | zero =>
    intro i k hd hi hk
    obtain ⟨k, rfl⟩ : ∃ m, k = m + 2 := ⟨k - 2, by omega⟩
    have : i = K := by omega
    subst this
    have hok := tl_ok hK hK2 hA
    have hr : moves_Rings.f (tl i A i) = some (ringsOf (tl i A i), none) := by
      unfold moves_Rings.f
      rw [if_pos (by rw [tl_len]; omega), if_pos hok]
    have hp : moves_Plan.f (tl i A i) 500 = some (planOf (tl i A i) 500, none) := by
      unfold moves_Plan.f
      rw [if_pos (by rw [tl_len]; omega), if_pos (tl_may hK hK2 hA)]
    obtain ⟨r, hr2, hrl⟩ := tl_ring hK hK2 hA
    have h500 : (500 : Int) ∉ keysOf (tl i A i) := fun hx => by
      obtain ⟨j, hj, e⟩ := (tl_key hK hK2 hA _).1 hx
      omega
    obtain ⟨_, hlen, _⟩ := plan_all hok (by rw [tl_len]; omega) h500 (fun x => x)
    rw [tl_keys_n hK, hr2] at hlen
    have hlen2 : (planOf (tl i A i) 500).length = i + 1 := hlen
    have hb : (((planOf (tl i A i) 500).length : Int) != wrap64 ((i : Int) + 1)) = false := by
      rw [hlen2, wrapS i (by omega)]
      simp
    have hr0 : (((rd_L3 (ringsOf (tl i A i)) 0).length : Int)) = (i : Int) := by rw [hr2]; exact congrArg Int.ofNat hrl
    have hrn : ((ringsOf (tl i A i)).length : Int) = 1 := by rw [hr2]; rfl
    rw [mandrellaw20_MovesTurns.l0, if_neg (by omega), hr, Option.bind_some, hp, Option.bind_some, if_pos (show (none : Option Int).isNone = true from rfl), if_pos (show (none : Option Int).isNone = true from rfl)]
    show (if ((ringsOf (tl i A i)).length : Int) = 1 then (if 0 < ((ringsOf (tl i A i)).length : Int) then (if (((rd_L3 (ringsOf (tl i A i)) 0).length : Int)) = (i : Int) then mandrellaw20_MovesTurns.j1 (k + 1) (i : Int) (A : Int) (planOf (tl i A i) 500) (((planOf (tl i A i) 500).length : Int) != wrap64 ((i : Int) + 1)) else _) else _) else _) = _
    rw [if_pos hrn, if_pos (by omega), if_pos hr0, hb, mandrellaw20_MovesTurns.j1, if_neg (by decide), if_pos (by decide)]
    exact t_l1 hK hK2 hA i 0 k _ (by omega) (by omega) (by omega) (by rw [List.length_replicate]) (fun j hj => by omega)
  | succ d ih =>
    intro i k hd hi hk
    obtain ⟨k, rfl⟩ : ∃ m, k = m + 1 := ⟨k - 1, by omega⟩
    have hm := mod_lt' (i + 1) K hK
    rw [mandrellaw20_MovesTurns.l0, if_pos (by omega), if_neg (by omega), if_pos (by rw [tl_len]; omega), wrapS i (by omega), tmod_nat, wrapA A _ (by omega), wrapA A i (by omega)]
    have h := ih (i + 1) k (by omega) (by omega) (by omega)
    rw [tl_succ] at h
    exact h
theorem u64_nonneg (a : Int) : 0 ≤ IntKind.u64.wrap a := by
  simp [IntKind.wrap, IntKind.signed, IntKind.bits]
  omega
theorem small_mod (a : Int) (m : Nat) (hm : 0 < m) (hm2 : m ≤ 1000) : ∃ n : Nat, n < m ∧ wrap64 (Int.tmod (IntKind.u64.wrap a) (m : Int)) = (n : Int) := by
  obtain ⟨u, hu⟩ : ∃ u : Nat, IntKind.u64.wrap a = (u : Int) := ⟨(IntKind.u64.wrap a).toNat, by have := u64_nonneg a; omega⟩
  have := Nat.mod_lt u hm
  exact ⟨u % m, this, by rw [hu, tmod_nat, wrapN _ (by omega)]⟩
theorem movesTurns_pure : mandrellaw20_MovesTurns.Pure := by
  intro a0 a1 _ _
  refine ⟨1000, ?_⟩
  unfold mandrellaw20_MovesTurns.f
  obtain ⟨n, hn, e1⟩ := small_mod a0 30 (by decide) (by decide)
  obtain ⟨A, hA, e2⟩ := small_mod a1 100 (by decide) (by decide)
  have e1' : wrap64 (Int.tmod (IntKind.u64.wrap a0) 30) = (n : Int) := e1
  have e2' : wrap64 (Int.tmod (IntKind.u64.wrap a1) 100) = (A : Int) := e2
  have e3 : wrap64 (2 + (n : Int)) = ((2 + n : Nat) : Int) := by unfold wrap64; omega
  rw [e1', e2', e3]
  exact t_l0 (K := 2 + n) (by omega) (by omega) (by omega) (2 + n) 0 1000 (by omega) (by omega) (by omega)
end Go.Proofs.Ytaklfdlcedlmfaa.XM
