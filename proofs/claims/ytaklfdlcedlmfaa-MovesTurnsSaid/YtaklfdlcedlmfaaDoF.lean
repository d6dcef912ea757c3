/- Do, as a plain function; and plain facts. No program. -/
import Derived.Test.YtaklfdlcedlmfaaSure
import Derived.Test.YtaklfdlcedlmfaaPlanEnd
namespace Go.Proofs.Ytaklfdlcedlmfaa.XM
open Go.RowKit Mo Go.Proofs.YtaklfdlcedlmfaaW.PrintWords
set_option linter.unusedVariables false
set_option linter.unusedSimpArgs false
theorem mono_le {α : Type} {f : Nat → Option α} (h : ∀ k, LeO (f k) (f (k + 1))) {a b : Nat} (hab : a ≤ b) {r : α} (hr : f a = some r) : f b = some r := by
  induction hab with
  | refl => exact hr
  | step _ ih => exact h _ r ih
theorem sure_k (k : Nat) (h : 100 ≤ k) : mandrellaw20_sure.f k = some true := mono_le mandrellaw20_sure.mono h sure_
theorem wrap_s (i n : Nat) (hi : i < n) (hn : n < 1000000000) : wrap64 ((i : Int) + 1) = ((i + 1 : Nat) : Int) := wrap_succ i n hi hn
def inR (n : Nat) (a b : Int) : Bool := decide (0 ≤ a) && decide (a < (n : Int)) && decide (0 ≤ b) && decide (b < (n : Int))
def okDo (n : Nat) (l : List Mv) : Bool := l.all fun m => inR n m.f0 m.f1
def doAll (v : List Int) (l : List Mv) : List Int := l.foldl (fun v m => v.set m.f0.toNat (rd v m.f1)) v
theorem doAll_len (l : List Mv) : ∀ v : List Int, (doAll v l).length = v.length := by
  induction l with
  | nil => intro v; rfl
  | cons m l ih => intro v; unfold doAll at ih ⊢; rw [List.foldl_cons, ih, List.length_set]
theorem do_l1 (l : List Mv) (hl : l.length < 1000000) : ∀ (d i k : Nat) (v : List Int), l.length - i = d → i ≤ l.length → d + 1 ≤ k → okDo v.length (l.drop i) = true → moves_Do.l1 k v l (l.length : Int) (i : Int) = some (none, doAll v (l.drop i))
  | 0, i, k, v, hd, hi, hk, ho => by
    obtain ⟨k, rfl⟩ : ∃ m, k = m + 1 := ⟨k - 1, by omega⟩
    rw [moves_Do.l1, if_neg (by omega), List.drop_of_length_le (by omega)]
    rfl
  | d + 1, i, k, v, hd, hi, hk, ho => by
    obtain ⟨k, rfl⟩ : ∃ m, k = m + 1 := ⟨k - 1, by omega⟩
    rw [drop_rd l i (by omega)] at ho ⊢
    unfold okDo at ho
    rw [List.all_cons, Bool.and_eq_true] at ho
    obtain ⟨h1, h2⟩ := ho
    unfold inR at h1
    simp only [Bool.and_eq_true, decide_eq_true_eq] at h1
    rw [moves_Do.l1, if_pos (by omega), if_pos (by omega), if_pos (by omega), if_pos h1.1.2, if_pos h1.2, if_pos h1.1.1.1, if_pos h1.1.1.2, wrap_s i l.length (by omega) (by omega)]
    have h := do_l1 l hl d (i + 1) k (v.set (rd_T25 l (i : Int)).f0.toNat (rd v (rd_T25 l (i : Int)).f1)) (by omega) (by omega) (by omega) (by rw [List.length_set]; exact h2)
    rw [h]
    rfl
theorem do_l0 (l : List Mv) (hl : l.length < 1000000) (v : List Int) (K : Nat) (hK : okDo v.length l = true → ∀ k, K ≤ k → moves_Do.l1 k v l (l.length : Int) 0 = some (none, doAll v l)) : ∀ (d i k : Nat), l.length - i = d → i ≤ l.length → d + 1 + K ≤ k → okDo v.length (l.take i) = true → moves_Do.l0 k v l l (l.length : Int) (i : Int) = if okDo v.length l = true then some (none, doAll v l) else some (some 5, v)
  | 0, i, k, hd, hi, hk, ho => by
    obtain ⟨k, rfl⟩ : ∃ m, k = m + 1 := ⟨k - 1, by omega⟩
    rw [List.take_of_length_le (by omega)] at ho
    rw [moves_Do.l0, if_neg (by omega), if_pos ho, hK ho k (by omega)]
  | d + 1, i, k, hd, hi, hk, ho => by
    obtain ⟨k, rfl⟩ : ∃ m, k = m + 1 := ⟨k - 1, by omega⟩
    have hsp : l = l.take i ++ rd_T25 l (i : Int) :: l.drop (i + 1) := by rw [← drop_rd l i (by omega), List.take_append_drop]
    have ht : l.take (i + 1) = l.take i ++ [rd_T25 l (i : Int)] := by
      have h1 := drop_rd l i (by omega)
      rw [List.take_add_one]
      congr 1
      rw [← List.head?_drop, h1]
      rfl
    have hall : okDo v.length l = (okDo v.length (l.take i) && (inR v.length (rd_T25 l (i : Int)).f0 (rd_T25 l (i : Int)).f1 && okDo v.length (l.drop (i + 1)))) := by
      conv => lhs; rw [hsp]
      unfold okDo
      rw [List.all_append, List.all_cons]
    rw [moves_Do.l0, if_pos (by omega), if_pos (by omega), if_pos (by omega)]
    by_cases hin : inR v.length (rd_T25 l (i : Int)).f0 (rd_T25 l (i : Int)).f1 = true
    · have h1 := hin
      unfold inR at h1
      simp only [Bool.and_eq_true, decide_eq_true_eq] at h1
      rw [if_neg (by omega), if_neg (by omega), if_neg (by omega), if_neg (by omega), wrap_s i l.length (by omega) (by omega)]
      exact do_l0 l hl v K hK d (i + 1) k (by omega) (by omega) (by omega) (by rw [ht]; unfold okDo at ho ⊢; rw [List.all_append, ho]; simpa using hin)
    · have hno : okDo v.length l = false := by rw [hall, Bool.eq_false_iff.2 hin]; simp
      rw [hno]
      unfold inR at hin
      simp only [Bool.and_eq_true, decide_eq_true_eq] at hin
      rw [if_neg (show ¬ (false = true) by decide)]
      split
      · rfl
      · split
        · rfl
        · split
          · rfl
          · split
            · rfl
            · omega
theorem do_f (v : List Int) (l : List Mv) (hl : l.length < 1000000) (k : Nat) (hk : 2 * l.length + 3 ≤ k) : moves_Do.f k v l = if okDo v.length l = true then some (none, doAll v l) else some (some 5, v) := by
  unfold moves_Do.f
  exact do_l0 l hl v (l.length + 1) (fun ho k hk => by have h := do_l1 l hl l.length 0 k v (by omega) (by omega) (by omega) (by simpa using ho); simpa using h) l.length 0 k (by omega) (by omega) (by omega) (by simp [okDo])
theorem rd_set (v : List Int) (a p x : Int) (ha : 0 ≤ a) (hp : 0 ≤ p) (hpl : p < (v.length : Int)) : rd (v.set a.toNat x) p = if p = a then x else rd v p := by
  unfold rd
  rw [List.getD_eq_getElem?_getD, List.getD_eq_getElem?_getD, List.getElem?_set]
  by_cases e : p = a
  · subst e
    rw [if_pos rfl, if_pos rfl, if_pos (by omega)]
    rfl
  · rw [if_neg (by omega), if_neg e]
/-- Moves in a list, and in places without end. -/
theorem doAll_app : ∀ (l : List Mv) (v : List Int) (m : Int → Int), okDo v.length l = true → (∀ p, 0 ≤ p → p < (v.length : Int) → rd v p = m p) → ∀ p, 0 ≤ p → p < (v.length : Int) → rd (doAll v l) p = app l m p
  | [], v, m, _, hm, p, h0, h1 => hm p h0 h1
  | x :: l, v, m, ho, hm, p, h0, h1 => by
    unfold okDo at ho
    rw [List.all_cons, Bool.and_eq_true] at ho
    obtain ⟨h2, h3⟩ := ho
    unfold inR at h2
    simp only [Bool.and_eq_true, decide_eq_true_eq] at h2
    have hl : (v.set x.f0.toNat (rd v x.f1)).length = v.length := List.length_set
    exact doAll_app l (v.set x.f0.toNat (rd v x.f1)) (fun p => if p = x.f0 then m x.f1 else m p) (by rw [hl]; exact h3) (fun q hq0 hq1 => by
      rw [rd_set v _ _ _ h2.1.1.1 hq0 (by rw [hl] at hq1; exact hq1), hm x.f1 h2.1.2 h2.2]
      by_cases e : q = x.f0
      · rw [if_pos e, if_pos e]
      · rw [if_neg e, if_neg e]
        exact hm q hq0 (by rw [hl] at hq1; exact hq1)) p h0 (by rw [hl]; exact h1)
theorem okGo_of : ∀ (l : List Mv) (g : Int → Bool), (∀ m ∈ l, away m.f0 = false ∧ away m.f1 = false ∧ g m.f0 = false) → (l.map (·.f0)).Nodup → okGo l g = true
  | [], _, _, _ => rfl
  | m :: l, g, h, hn => by
    have h1 := h m List.mem_cons_self
    rw [List.map_cons, List.nodup_cons] at hn
    rw [okGo, if_neg (by rw [h1.1]; decide), if_neg (by rw [h1.2.1]; decide), if_neg (by rw [h1.2.2]; decide)]
    refine okGo_of l _ (fun m' hm' => ?_) hn.2
    have h2 := h m' (List.mem_cons_of_mem _ hm')
    refine ⟨h2.1, h2.2.1, ?_⟩
    rw [if_neg (fun e => hn.1 (List.mem_map.2 ⟨m', hm', e⟩))]
    exact h2.2.2
theorem away_iff (x : Int) : away x = false ↔ ¬ x < 0 ∧ ¬ x > 1048576 := by
  unfold away
  by_cases h : x < 0
  · rw [if_pos h]; simp [h]
  · rw [if_neg h]; simp [h]
theorem srcs_mem : ∀ (l : List Mv) (f : Int → Option Int) (m : Mv), (l.map (·.f0)).Nodup → m ∈ l → m.f0 ≠ m.f1 → l.foldl srcStep f m.f0 = some m.f1
  | [], _, _, _, h, _ => by cases h
  | m' :: l, f, m, hn, h, hne => by
    rw [List.map_cons, List.nodup_cons] at hn
    rw [List.foldl_cons]
    rw [List.mem_cons] at h
    rcases h with rfl | h
    · have key : ∀ (l : List Mv) (g : Int → Option Int), m.f0 ∉ l.map (·.f0) → g m.f0 = some m.f1 → l.foldl srcStep g m.f0 = some m.f1 := by
        intro l
        induction l with
        | nil => intro g _ h; exact h
        | cons x l ih =>
          intro g hx h
          rw [List.map_cons, List.mem_cons] at hx
          rw [List.foldl_cons]
          refine ih _ (fun h => hx (.inr h)) ?_
          unfold srcStep Mo.up
          by_cases e : x.f0 = x.f1
          · rw [if_pos e]; exact h
          · rw [if_neg e, if_neg (fun e2 => hx (.inl e2))]; exact h
      refine key l _ hn.1 ?_
      unfold srcStep Mo.up
      rw [if_neg hne, if_pos rfl]
    · exact srcs_mem l _ m hn.2 h hne
theorem srcs_at {l : List Mv} (h : okM l = true) {m : Mv} (hm : m ∈ l) (hne : m.f0 ≠ m.f1) : srcs l m.f0 = some m.f1 := srcs_mem l _ m (okM_facts h).2 hm hne
end Go.Proofs.Ytaklfdlcedlmfaa.XM
