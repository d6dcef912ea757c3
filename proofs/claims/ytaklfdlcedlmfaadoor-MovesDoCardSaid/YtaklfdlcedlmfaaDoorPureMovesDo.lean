/- MovesDo: the plain law. No program. -/
import Derived.Test.YtaklfdlcedlmfaaDoorPureDo
namespace Go.Proofs.YtaklfdlcedlmfaaDoor.XM
open Go.RowKit Mo Go.Proofs.YtaklfdlcedlmfaaDoorW.PrintWords
set_option linter.unusedVariables false
theorem l2_f (v X : List Int) (hX : X.length = v.length) (hv : v.length < 1000000) (may : Bool) (err : Option Int) (h : (err = none ∧ may = true) ∨ (err = some 5 ∧ may = false)) : ∀ (d i k : Nat), v.length - i = d → i ≤ v.length → d + 102 ≤ k → mandrellaw20_MovesDo.l2 k v X X may err (i : Int) = some true
  | 0, i, k, hd, hi, hk => by
    obtain ⟨k, rfl⟩ : ∃ m, k = m + 1 := ⟨k - 1, by omega⟩
    rw [mandrellaw20_MovesDo.l2, if_neg (by omega)]
    rcases h with ⟨rfl, rfl⟩ | ⟨rfl, rfl⟩
    · rw [if_pos (by rfl), if_pos (by rfl), sure_k k (by omega)]
      rfl
    · rw [if_neg (by simp), if_pos (by rfl)]
      unfold mandrellaw20_num.f
      rw [sure_k k (by omega)]
      rfl
  | d + 1, i, k, hd, hi, hk => by
    obtain ⟨k, rfl⟩ : ∃ m, k = m + 1 := ⟨k - 1, by omega⟩
    rw [mandrellaw20_MovesDo.l2, if_pos (by omega), if_pos (by omega), if_pos (by omega), if_pos (by omega), if_pos rfl, wrap_s i v.length (by omega) (by omega)]
    exact l2_f v X hX hv may err h d (i + 1) k (by omega) (by omega) (by omega)
theorem j3_f (v : List Int) (l : List Rv) (hv : v.length < 1000000) (hl : l.length < 1000000) (want : List Int) (may : Bool) (hm : may = okDo v.length (l.map conv)) (hw : want = if may = true then doAll v (l.map conv) else v) (k : Nat) (hk : 2 * l.length + v.length + 110 ≤ k) : mandrellaw20_MovesDo.j3 k v l v want may = some true := by
  obtain ⟨k, rfl⟩ : ∃ m, k = m + 1 := ⟨k - 1, by omega⟩
  rw [mandrellaw20_MovesDo.j3, give_f l hl k (by omega), Option.bind_some, do_f v (l.map conv) (by simpa using hl) k (by simp; omega), ← hm]
  cases may with
  | true =>
    rw [if_pos rfl] at hw ⊢
    rw [Option.bind_some, hw]
    exact l2_f v _ (doAll_len _ _) hv true none (.inl ⟨rfl, rfl⟩) v.length 0 k (by omega) (by omega) (by omega)
  | false =>
    rw [if_neg (by decide)] at hw ⊢
    rw [Option.bind_some, hw]
    exact l2_f v _ rfl hv false (some 5) (.inr ⟨rfl, rfl⟩) v.length 0 k (by omega) (by omega) (by omega)
theorem l1_t (v : List Int) (l : List Rv) (hl : l.length < 1000000) (K : Nat) (W : List Int) (hK : ∀ k, K ≤ k → mandrellaw20_MovesDo.j3 k v l v W true = some true) : ∀ (d i k : Nat) (want : List Int), l.length - i = d → i ≤ l.length → d + 1 + K ≤ k → okDo want.length ((l.drop i).map conv) = true → W = doAll want ((l.drop i).map conv) → mandrellaw20_MovesDo.l1 k v l v want true (i : Int) = some true
  | 0, i, k, want, hd, hi, hk, ho, hW => by
    obtain ⟨k, rfl⟩ : ∃ m, k = m + 1 := ⟨k - 1, by omega⟩
    rw [List.drop_of_length_le (by omega)] at hW
    rw [mandrellaw20_MovesDo.l1, if_neg (by omega), show want = W from hW.symm]
    exact hK k (by omega)
  | d + 1, i, k, want, hd, hi, hk, ho, hW => by
    obtain ⟨k, rfl⟩ : ∃ m, k = m + 1 := ⟨k - 1, by omega⟩
    rw [rd32 l i (by omega), List.map_cons] at ho hW
    unfold okDo at ho
    rw [List.all_cons, Bool.and_eq_true] at ho
    obtain ⟨h1, h2⟩ := ho
    unfold inR conv at h1
    simp only [Bool.and_eq_true, decide_eq_true_eq] at h1
    rw [mandrellaw20_MovesDo.l1, if_pos (by omega), if_pos rfl, if_pos (by omega), if_pos h1.1.2, if_pos h1.2, if_pos h1.1.1.1, if_pos h1.1.1.2, wrap_s i l.length (by omega) (by omega)]
    exact l1_t v l hl K W hK d (i + 1) k _ (by omega) (by omega) (by omega) (by rw [List.length_set]; exact h2) hW
theorem l1_n (v : List Int) (l : List Rv) (want : List Int) (k : Nat) (h : mandrellaw20_MovesDo.j3 k v l v want false = some true) : mandrellaw20_MovesDo.l1 (k + 1) v l v want false 0 = some true := by
  rw [mandrellaw20_MovesDo.l1]
  split
  · rw [if_neg (by decide)]; exact h
  · exact h
theorem l0_f (v : List Int) (l : List Rv) (hl : l.length < 1000000) (K : Nat) (hK : ∀ k, K ≤ k → mandrellaw20_MovesDo.l1 k v l v v (okDo v.length (l.map conv)) 0 = some true) : ∀ (d i k : Nat) (may : Bool), l.length - i = d → i ≤ l.length → d + 1 + K ≤ k → okDo v.length (l.map conv) = (may && okDo v.length ((l.drop i).map conv)) → mandrellaw20_MovesDo.l0 k v l v v may (i : Int) = some true
  | 0, i, k, may, hd, hi, hk, hm => by
    obtain ⟨k, rfl⟩ : ∃ m, k = m + 1 := ⟨k - 1, by omega⟩
    rw [List.drop_of_length_le (by omega)] at hm
    have hm2 : okDo v.length (l.map conv) = may := by rw [hm]; simp [okDo]
    rw [mandrellaw20_MovesDo.l0, if_neg (by omega), ← hm2]
    exact hK k (by omega)
  | d + 1, i, k, may, hd, hi, hk, hm => by
    obtain ⟨k, rfl⟩ : ∃ m, k = m + 1 := ⟨k - 1, by omega⟩
    have hih := fun (b : Bool) (hb : b = (may && inR v.length (rd_T32 l (i : Int)).f0 (rd_T32 l (i : Int)).f1)) => l0_f v l hl K hK d (i + 1) k b (by omega) (by omega) (by omega) (by
      rw [rd32 l i (by omega), List.map_cons] at hm
      rw [hm, hb]
      unfold okDo conv
      rw [List.all_cons, Bool.and_assoc])
    rw [mandrellaw20_MovesDo.l0, if_pos (by omega), wrap_s i l.length (by omega) (by omega)]
    unfold inR at hih
    cases may with
    | false =>
      rw [if_neg (by decide)]
      exact hih false (by simp)
    | true =>
      rw [if_pos rfl, if_pos (by omega)]
      split
      · rename_i a1
        split
        · rename_i a2
          split
          · rename_i a3
            refine hih _ ?_
            rw [decide_eq_true (show (0 : Int) ≤ _ from a1), decide_eq_true a2, decide_eq_true (show (0 : Int) ≤ _ from a3)]
            rfl
          · rename_i a3
            refine hih _ ?_
            rw [decide_eq_false (show ¬ (0 : Int) ≤ (rd_T32 l (i : Int)).f1 from a3)]
            simp
        · rename_i a2
          refine hih _ ?_
          rw [decide_eq_false a2]
          simp
      · rename_i a1
        refine hih _ ?_
        rw [decide_eq_false (show ¬ (0 : Int) ≤ (rd_T32 l (i : Int)).f0 from a1)]
        simp
theorem movesDo_law (v : List Int) (l : List Rv) : ∃ k, mandrellaw20_MovesDo.f k v l = some true := by
  refine ⟨2000, ?_⟩
  unfold mandrellaw20_MovesDo.f
  by_cases h1 : (v.length : Int) > 200
  · rw [if_pos h1, show (2000 : Nat) = 1999 + 1 from rfl, mandrellaw20_MovesDo.j0, if_pos rfl, sure_k 1999 (by omega)]
    rfl
  · rw [if_neg h1, show (2000 : Nat) = 1999 + 1 from rfl, mandrellaw20_MovesDo.j0]
    by_cases h2 : (l.length : Int) > 100
    · rw [if_pos (decide_eq_true h2), sure_k 1999 (by omega)]
      rfl
    · rw [if_neg (by rw [decide_eq_false h2]; decide), if_pos (by simp; omega), List.nil_append]
      refine l0_f v l (by omega) 1000 (fun k hk => ?_) l.length 0 1999 true (by omega) (by omega) (by omega) (by simp)
      cases hm : okDo v.length (l.map conv) with
      | true => exact l1_t v l (by omega) 700 (doAll v (l.map conv)) (fun k hk => j3_f v l (by omega) (by omega) _ true hm.symm (by simp) k (by omega)) l.length 0 k v (by omega) (by omega) (by omega) (by simpa using hm) (by simp)
      | false =>
        obtain ⟨k, rfl⟩ : ∃ m, k = m + 1 := ⟨k - 1, by omega⟩
        exact l1_n v l v k (j3_f v l (by omega) (by omega) v false hm.symm (by simp) k (by omega))
end Go.Proofs.YtaklfdlcedlmfaaDoor.XM
