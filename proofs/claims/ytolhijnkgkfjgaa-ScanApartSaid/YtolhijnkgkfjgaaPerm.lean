/- The heap's rows hold what they held. Plain. -/
import Derived.Test.YtolhijnkgkfjgaaRep
namespace Go.Proofs.Ytolhijnkgkfjgaa.XC
open Go.RowKit Go.Proofs.YtolhijnkgkfjgaaW.PrintWords
set_option linter.unusedVariables false
set_option linter.unusedSimpArgs false
theorem rd_get {xs : List Int} {i : Nat} (h : i < xs.length) : rd xs (i : Int) = xs[i] := by
  unfold rd
  rw [Int.toNat_natCast, List.getD_eq_getElem?_getD, List.getElem?_eq_getElem h]
  rfl
theorem swapF_perm {xs : List Int} {i j : Nat} (hi : i < xs.length) (hj : j < xs.length) : (swapF xs i j).Perm xs := by
  rw [List.perm_iff_count]
  intro a
  unfold swapF
  rw [rd_get hi, rd_get hj]
  have h1 : j < (xs.set i xs[j]).length := by rw [List.length_set]; exact hj
  have ci : xs[i] = a → 0 < List.count a xs := fun e => List.count_pos_iff.2 (by rw [← e]; exact List.getElem_mem hi)
  have cj : xs[j] = a → 0 < List.count a xs := fun e => List.count_pos_iff.2 (by rw [← e]; exact List.getElem_mem hj)
  rw [List.count_set h1, List.count_set hi, List.getElem_set]
  by_cases e : i = j
  · subst e
    simp only [if_true]
    by_cases e1 : xs[i] = a
    · have := ci e1; simp [e1]; omega
    · simp [e1]
  · rw [if_neg e]
    by_cases e1 : xs[i] = a
    · have h2 := ci e1
      by_cases e2 : xs[j] = a
      · simp [e1, e2]; omega
      · simp [e1, e2]; omega
    · by_cases e2 : xs[j] = a
      · have h2 := cj e2
        simp [e1, e2]
      · simp [e1, e2]
theorem upF_perm (l : List Sp) : ∀ (k j : Nat) (xs : List Int), j < xs.length → (upF l k j xs).Perm xs
  | 0, _, _, _ => List.Perm.refl _
  | k + 1, j, xs, hj => by
    rw [upF]
    split
    · exact List.Perm.refl _
    · split
      · exact (upF_perm l k _ _ (by rw [swapF_len]; omega)).trans (swapF_perm (by omega) hj)
      · exact List.Perm.refl _
theorem downF_perm (l : List Sp) (n : Nat) : ∀ (k i : Nat) (xs : List Int), n ≤ xs.length → (downF l n k i xs).Perm xs
  | 0, _, _, _ => List.Perm.refl _
  | k + 1, i, xs, hn => by
    rw [downF]
    split
    · exact List.Perm.refl _
    · rename_i h1
      have hp := pickF_lt (l := l) (n := n) (i := i) (xs := xs) (by omega)
      split
      · exact (downF_perm l n k _ _ (by rw [swapF_len]; exact hn)).trans (swapF_perm (by omega) (by omega))
      · exact List.Perm.refl _
theorem pushF_perm (l : List Sp) (ids : List Int) (x : Int) : (pushF l ids x).Perm (ids ++ [x]) := upF_perm l _ _ _ (by simp)
theorem popF_perm (l : List Sp) (ids : List Int) (h : ids.length ≠ 0) : (popF l ids).Perm ids := by
  unfold popF
  exact (downF_perm l _ _ _ _ (by rw [swapF_len]; omega)).trans (swapF_perm (by omega) (by omega))
theorem pop_split (l : List Sp) (ids : List Int) (h : ids.length ≠ 0) : popF l ids = (popF l ids).dropLast ++ [(popF l ids).getLastD 0] := by
  have hl := popF_len l ids
  have hne : popF l ids ≠ [] := fun e => by rw [e] at hl; simp at hl; omega
  have h2 := List.dropLast_concat_getLast hne
  rw [List.getLastD_eq_getLast?, List.getLast?_eq_some_getLast hne]
  exact h2.symm
end Go.Proofs.Ytolhijnkgkfjgaa.XC
