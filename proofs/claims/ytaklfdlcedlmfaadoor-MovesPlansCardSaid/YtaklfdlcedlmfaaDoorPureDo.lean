/- MovesDo: the plain law. No program. -/
import Derived.Test.YtaklfdlcedlmfaaDoorSure
import Derived.Test.YtaklfdlcedlmfaaDoorXMx3
namespace Go.Proofs.YtaklfdlcedlmfaaDoor.XM
open Go.RowKit Mo Go.Proofs.YtaklfdlcedlmfaaDoorW.PrintWords
set_option linter.unusedVariables false
abbrev Rv := S32
def conv (m : Rv) : Mv := ⟨m.f0, m.f1⟩
theorem mono_le {α : Type} {f : Nat → Option α} (h : ∀ k, LeO (f k) (f (k + 1))) {a b : Nat} (hab : a ≤ b) {r : α} (hr : f a = some r) : f b = some r := by
  induction hab with
  | refl => exact hr
  | step _ ih => exact h _ r ih
theorem sure_k (k : Nat) (h : 100 ≤ k) : mandrellaw20_sure.f k = some true := mono_le mandrellaw20_sure.mono h sure_
theorem wrap_s (i n : Nat) (hi : i < n) (hn : n < 1000000000) : wrap64 ((i : Int) + 1) = ((i + 1 : Nat) : Int) := wrap_succ i n hi hn
theorem rd32 (l : List Rv) (i : Nat) (h : i < l.length) : l.drop i = rd_T32 l (i : Int) :: l.drop (i + 1) := by
  unfold rd_T32
  rw [List.drop_eq_getElem_cons h, Int.toNat_natCast, List.getD_eq_getElem?_getD, List.getElem?_eq_getElem h]
  rfl
theorem give_l (l : List Rv) (hl : l.length < 1000000) : ∀ (d i k : Nat) (out : List Mv), l.length - i = d → i ≤ l.length → d + 1 ≤ k → out.length = i → mandrellaw20_give.l0 k l out (i : Int) = some (out ++ (l.drop i).map conv)
  | 0, i, k, out, hd, hi, hk, ho => by
    obtain ⟨k, rfl⟩ : ∃ m, k = m + 1 := ⟨k - 1, by omega⟩
    rw [mandrellaw20_give.l0, if_neg (by omega), List.drop_of_length_le (by omega)]
    simp
  | d + 1, i, k, out, hd, hi, hk, ho => by
    obtain ⟨k, rfl⟩ : ∃ m, k = m + 1 := ⟨k - 1, by omega⟩
    rw [mandrellaw20_give.l0, if_pos (by omega), if_pos (by omega), if_pos (by omega), wrap_s i l.length (by omega) (by omega), rd32 l i (by omega)]
    have h := give_l l hl d (i + 1) k (out ++ [conv (rd_T32 l (i : Int))]) (by omega) (by omega) (by omega) (by simp [ho])
    rw [List.map_cons]
    simpa [conv] using h
theorem give_f (l : List Rv) (hl : l.length < 1000000) (k : Nat) (hk : l.length + 1 ≤ k) : mandrellaw20_give.f k l = some (l.map conv) := by
  unfold mandrellaw20_give.f
  have h := give_l l hl l.length 0 k [] (by omega) (by omega) hk rfl
  simpa using h
def inR (n : Nat) (a b : Int) : Bool := decide (0 ≤ a) && decide (a < (n : Int)) && decide (0 ≤ b) && decide (b < (n : Int))
def okDo (n : Nat) (l : List Mv) : Bool := l.all fun m => inR n m.f0 m.f1
def doAll (v : List Int) (l : List Mv) : List Int := l.foldl (fun v m => v.set m.f0.toNat (rd v m.f1)) v
theorem doAll_len (l : List Mv) : ∀ v : List Int, (doAll v l).length = v.length := by
  induction l with
  | nil => intro v; rfl
  | cons m l ih => intro v; unfold doAll at ih ⊢; rw [List.foldl_cons, ih, List.length_set]
theorem do_l1 (l : List Mv) (hl : l.length < 1000000) : ∀ (d i k : Nat) (v : List Int), l.length - i = d → i ≤ l.length → d + 1 ≤ k → okDo v.length (l.drop i) = true → moves_Do.l1 k v l (l.length : Int) (i : Int) = some (none, doAll v (l.drop i))
  | 0, i, k, v, hd, hi, hk, ho => by
    obtain ⟨k, rfl⟩ : ∃ m, k = m + 1 := ⟨k - 1, by omega⟩
    rw [moves_Do.l1, if_neg (by omega), List.drop_of_length_le (by omega)]
    rfl
  | d + 1, i, k, v, hd, hi, hk, ho => by
    obtain ⟨k, rfl⟩ : ∃ m, k = m + 1 := ⟨k - 1, by omega⟩
    rw [drop_rd l i (by omega)] at ho ⊢
    unfold okDo at ho
    rw [List.all_cons, Bool.and_eq_true] at ho
    obtain ⟨h1, h2⟩ := ho
    unfold inR at h1
    simp only [Bool.and_eq_true, decide_eq_true_eq] at h1
    rw [moves_Do.l1, if_pos (by omega), if_pos (by omega), if_pos (by omega), if_pos h1.1.2, if_pos h1.2, if_pos h1.1.1.1, if_pos h1.1.1.2, wrap_s i l.length (by omega) (by omega)]
    have h := do_l1 l hl d (i + 1) k (v.set (rd_T46 l (i : Int)).f0.toNat (rd v (rd_T46 l (i : Int)).f1)) (by omega) (by omega) (by omega) (by rw [List.length_set]; exact h2)
    rw [h]
    rfl
theorem do_l0 (l : List Mv) (hl : l.length < 1000000) (v : List Int) (K : Nat) (hK : okDo v.length l = true → ∀ k, K ≤ k → moves_Do.l1 k v l (l.length : Int) 0 = some (none, doAll v l)) : ∀ (d i k : Nat), l.length - i = d → i ≤ l.length → d + 1 + K ≤ k → okDo v.length (l.take i) = true → moves_Do.l0 k v l l (l.length : Int) (i : Int) = if okDo v.length l = true then some (none, doAll v l) else some (some 5, v)
  | 0, i, k, hd, hi, hk, ho => by
    obtain ⟨k, rfl⟩ : ∃ m, k = m + 1 := ⟨k - 1, by omega⟩
    rw [List.take_of_length_le (by omega)] at ho
    rw [moves_Do.l0, if_neg (by omega), if_pos ho, hK ho k (by omega)]
  | d + 1, i, k, hd, hi, hk, ho => by
    obtain ⟨k, rfl⟩ : ∃ m, k = m + 1 := ⟨k - 1, by omega⟩
    have hsp : l = l.take i ++ rd_T46 l (i : Int) :: l.drop (i + 1) := by rw [← drop_rd l i (by omega), List.take_append_drop]
    have ht : l.take (i + 1) = l.take i ++ [rd_T46 l (i : Int)] := by
      have h1 := drop_rd l i (by omega)
      rw [List.take_add_one]
      congr 1
      rw [← List.head?_drop, h1]
      rfl
    have hall : okDo v.length l = (okDo v.length (l.take i) && (inR v.length (rd_T46 l (i : Int)).f0 (rd_T46 l (i : Int)).f1 && okDo v.length (l.drop (i + 1)))) := by
      conv => lhs; rw [hsp]
      unfold okDo
      rw [List.all_append, List.all_cons]
    rw [moves_Do.l0, if_pos (by omega), if_pos (by omega), if_pos (by omega)]
    by_cases hin : inR v.length (rd_T46 l (i : Int)).f0 (rd_T46 l (i : Int)).f1 = true
    · have h1 := hin
      unfold inR at h1
      simp only [Bool.and_eq_true, decide_eq_true_eq] at h1
      rw [if_neg (by omega), if_neg (by omega), if_neg (by omega), if_neg (by omega), wrap_s i l.length (by omega) (by omega)]
      exact do_l0 l hl v K hK d (i + 1) k (by omega) (by omega) (by omega) (by rw [ht]; unfold okDo at ho ⊢; rw [List.all_append, ho]; simpa using hin)
    · have hno : okDo v.length l = false := by rw [hall, Bool.eq_false_iff.2 hin]; simp
      rw [hno]
      unfold inR at hin
      simp only [Bool.and_eq_true, decide_eq_true_eq] at hin
      rw [if_neg (show ¬ (false = true) by decide)]
      split
      · rfl
      · split
        · rfl
        · split
          · rfl
          · split
            · rfl
            · omega
theorem do_f (v : List Int) (l : List Mv) (hl : l.length < 1000000) (k : Nat) (hk : 2 * l.length + 3 ≤ k) : moves_Do.f k v l = if okDo v.length l = true then some (none, doAll v l) else some (some 5, v) := by
  unfold moves_Do.f
  exact do_l0 l hl v (l.length + 1) (fun ho k hk => by have h := do_l1 l hl l.length 0 k v (by omega) (by omega) (by omega) (by simpa using ho); simpa using h) l.length 0 k (by omega) (by omega) (by omega) (by simp [okDo])
end Go.Proofs.YtaklfdlcedlmfaaDoor.XM
