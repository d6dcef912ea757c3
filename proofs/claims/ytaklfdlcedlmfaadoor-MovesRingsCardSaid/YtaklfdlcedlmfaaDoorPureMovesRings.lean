/- MovesRings: the plain law. No program. -/
import Derived.Test.YtaklfdlcedlmfaaDoorPureRings
import Derived.Test.YtaklfdlcedlmfaaDoorXMx7
namespace Go.Proofs.YtaklfdlcedlmfaaDoor.XM
open Go.RowKit Mo Go.Proofs.YtaklfdlcedlmfaaDoorW.PrintWords
set_option linter.unusedVariables false
set_option linter.unusedSimpArgs false
theorem ints_l0 (xs : List Int) (hl : xs.length ≤ 1000) : ∀ (d i k : Nat), xs.length - i = d → i ≤ xs.length → d + 1 ≤ k → mandrellaw20_ints.l0 k xs xs (i : Int) = some true
  | 0, i, k, hd, hi, hk => by
    obtain ⟨k, rfl⟩ : ∃ m, k = m + 1 := ⟨k - 1, by omega⟩
    rw [mandrellaw20_ints.l0, if_neg (by omega)]
  | d + 1, i, k, hd, hi, hk => by
    obtain ⟨k, rfl⟩ : ∃ m, k = m + 1 := ⟨k - 1, by omega⟩
    rw [mandrellaw20_ints.l0, if_pos (by omega), if_pos (by omega), if_pos (by omega), if_pos rfl, wrap_s i xs.length (by omega) (by omega)]
    exact ints_l0 xs hl d (i + 1) k (by omega) (by omega) (by omega)
theorem ints_f (xs : List Int) (hl : xs.length ≤ 1000) (k : Nat) (hk : 1001 ≤ k) : mandrellaw20_ints.f k xs xs = some true := by
  unfold mandrellaw20_ints.f
  rw [if_pos rfl]
  exact ints_l0 xs hl xs.length 0 k (by omega) (by omega) (by omega)
theorem mrings_l0 (r : List (List Int)) (hr : r.length ≤ 1000) (h : ∀ x ∈ r, x.length ≤ 1000) : ∀ (d i k : Nat), r.length - i = d → i ≤ r.length → d + 1 + 1101 ≤ k → mandrellaw20_MovesRings.l0 k r r (i : Int) = some true
  | 0, i, k, hd, hi, hk => by
    obtain ⟨k, rfl⟩ : ∃ m, k = m + 1 := ⟨k - 1, by omega⟩
    rw [mandrellaw20_MovesRings.l0, if_neg (by omega), sure_k k (by omega)]
    rfl
  | d + 1, i, k, hd, hi, hk => by
    obtain ⟨k, rfl⟩ : ∃ m, k = m + 1 := ⟨k - 1, by omega⟩
    have hm : rd_L4 r (i : Int) ∈ r := by
      unfold rd_L4
      rw [Int.toNat_natCast, List.getD_eq_getElem?_getD, List.getElem?_eq_getElem (by omega)]
      exact List.getElem_mem (by omega)
    rw [mandrellaw20_MovesRings.l0, if_pos (by omega), if_pos (by omega), if_pos (by omega), ints_f _ (h _ hm) k (by omega), Option.bind_some, if_pos rfl, wrap_s i r.length (by omega) (by omega)]
    exact mrings_l0 r hr h d (i + 1) k (by omega) (by omega) (by omega)
theorem movesRings_law (l : List Rv) : ∃ k, mandrellaw20_MovesRings.f k l = some true := by
  obtain ⟨k, hk⟩ : ∃ k : Nat, k = 30000 := ⟨_, rfl⟩
  refine ⟨k, ?_⟩
  unfold mandrellaw20_MovesRings.f
  by_cases h60 : (l.length : Int) > 60
  · rw [if_pos h60, sure_k k (by omega)]
    rfl
  · rw [if_neg h60]
    have hl : l.length ≤ 60 := by omega
    have hg := give_f l (by omega) k (by omega)
    have hml : (l.map conv).length < 1000000000 := by rw [List.length_map]; omega
    rw [hg, Option.bind_some]
    by_cases ho : okM (l.map conv) = true
    · have hr : moves_Rings.f (l.map conv) = some (ringsOf (l.map conv), none) := by
        unfold moves_Rings.f
        rw [if_pos hml, if_pos ho]
      have hc : moves_Check.f (l.map conv) = some none := by
        unfold moves_Check.f
        rw [if_pos hml, if_pos ho]
      rw [hr, Option.bind_some, may_f l hl k (by omega), ho, Option.bind_some, if_pos rfl, rings_f l hl ho k (by omega), Option.bind_some, if_pos (show (none : Option Int).isNone = true from rfl), Option.bind_some, hc, Option.bind_some, if_pos (show (none : Option Int).isNone = true from rfl)]
      show mandrellaw20_MovesRings.j0 k (ringsOf (l.map conv)) (ringsOf (l.map conv)) (((ringsOf (l.map conv)).length : Int) != ((ringsOf (l.map conv)).length : Int)) = _
      obtain ⟨k, rfl⟩ : ∃ m, k = m + 1 := ⟨k - 1, by omega⟩
      rw [mandrellaw20_MovesRings.j0, if_neg (by simp)]
      have h1 := rings_count (l.map conv)
      rw [List.length_map] at h1
      refine mrings_l0 _ (by omega) (fun x hx => ?_) (ringsOf (l.map conv)).length 0 k (by omega) (by omega) (by omega)
      have h2 := (rings_len hx).2
      rw [List.length_map] at h2
      omega
    · have ho2 : okM (l.map conv) = false := (Bool.not_eq_true _).mp ho
      have hr : moves_Rings.f (l.map conv) = some ([], some 1) := by
        unfold moves_Rings.f
        rw [if_pos hml, if_neg ho]
      have hc : moves_Check.f (l.map conv) = some (some 1) := by
        unfold moves_Check.f
        rw [if_pos hml, if_neg ho]
      rw [hr, Option.bind_some, may_f l hl k (by omega), ho2, Option.bind_some, if_neg (by decide)]
      unfold mandrellaw20_num.f
      simp only []
      rw [sure_k k (by omega)]
      simp [hc]
end Go.Proofs.YtaklfdlcedlmfaaDoor.XM
