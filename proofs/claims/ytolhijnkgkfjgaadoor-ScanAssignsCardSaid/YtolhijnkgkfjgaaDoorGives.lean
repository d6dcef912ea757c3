/- What comes in, as the program's spans; too many; whether all may be: as plain functions. -/
import Derived.Test.YtolhijnkgkfjgaaDoorXCx3
import Derived.Test.YtolhijnkgkfjgaaDoorXCx1
import Derived.Test.YtolhijnkgkfjgaaDoorValid
namespace Go.Proofs.YtolhijnkgkfjgaaDoor.XC
open Go.RowKit Go.Proofs.YtolhijnkgkfjgaaDoorW.PrintWords Go.Proofs.YtolhijnkgkfjgaaDoorW.PrintLast
set_option linter.unusedVariables false
set_option linter.unusedSimpArgs false
abbrev Rg0 := S66
abbrev Sp0 := S37
abbrev rdR0 (l : List Rg0) (i : Int) : Rg0 := rd_T66 l i
abbrev rdS0 (l : List Sp0) (i : Int) : Sp0 := rd_T37 l i
def toR (r : Rg0) : Rg := ⟨r.f0, r.f1⟩
def toS (s : Sp0) : Sp := ⟨s.f0.map toR, s.f1⟩
theorem rd0_drop {rs : List Rg0} {i : Nat} (hi : i < rs.length) : rs.drop i = rdR0 rs (i : Int) :: rs.drop (i + 1) := by
  rw [List.drop_eq_getElem_cons hi]
  unfold rdR0 rd_T66
  rw [Int.toNat_natCast, List.getD_eq_getElem?_getD, List.getElem?_eq_getElem hi]
  rfl
theorem rds0_drop {l : List Sp0} {i : Nat} (hi : i < l.length) : l.drop i = rdS0 l (i : Int) :: l.drop (i + 1) := by
  rw [List.drop_eq_getElem_cons hi]
  unfold rdS0 rd_T37
  rw [Int.toNat_natCast, List.getD_eq_getElem?_getD, List.getElem?_eq_getElem hi]
  rfl
theorem cast_succ (i : Nat) : (i : Int) + 1 = ((i + 1 : Nat) : Int) := by omega
theorem may_eval (rs : List Rg0) (wt : Int) (hl : rs.length ≤ 1000000000) : ∀ (m i k : Nat) (last : Int), i + m = rs.length → m + 1 ≤ k → (i = 0 → last = -2) → (∀ j : Nat, i = j + 1 → last = (rdR0 rs (j : Int)).f1) → last ≤ 1073741824 → -2 ≤ last → mandrelref18_May.l0 k (i : Int) rs wt = some (okR last ((rs.drop i).map toR) && decide (0 ≤ wt))
  | 0, i, k, last, hi, hk, _, _, _, _ => by
    obtain ⟨k, rfl⟩ : ∃ k', k = k' + 1 := ⟨k - 1, by omega⟩
    rw [mandrelref18_May.l0, if_neg (by omega), List.drop_of_length_le (by omega), List.map_nil, okR, Bool.true_and]
  | m + 1, i, k, last, hi, hk, h0, h1, h2, h3 => by
    obtain ⟨k, rfl⟩ : ∃ k', k = k' + 1 := ⟨k - 1, by omega⟩
    have hil : i < rs.length := by omega
    rw [mandrelref18_May.l0, if_pos (by omega), if_pos (by omega), rd0_drop hil, List.map_cons, wrap_sm (x := (i : Int) + 1) (by omega) (by omega), cast_succ]
    obtain ⟨r, hr⟩ : ∃ r, r = rdR0 rs (i : Int) := ⟨_, rfl⟩
    rw [← hr, show rd_T66 rs (i : Int) = r from hr.symm]
    have bad : ∀ h : ¬ (0 ≤ r.f0 ∧ last + 2 ≤ r.f0 ∧ r.f0 ≤ r.f1 ∧ r.f1 ≤ 1073741824), (okR last (toR r :: (rs.drop (i + 1)).map toR) && decide (0 ≤ wt)) = false := fun h => by
      rw [Bool.and_eq_false_iff]
      left
      rw [← Bool.not_eq_true]
      intro h1
      obtain ⟨g0, g1, g2, g3, g4⟩ := okR_cons.1 h1
      exact h ⟨g0, g1, g2, g3⟩
    by_cases c1 : r.f0 < 0
    · rw [if_pos c1, bad (by omega)]
    · rw [if_neg c1]
      by_cases c3 : r.f1 < r.f0
      · rw [if_pos c3, bad (by omega)]
      · rw [if_neg c3]
        by_cases c4 : r.f1 > 1073741824
        · rw [if_pos c4, bad (by omega)]
        · rw [if_neg c4]
          have go : last + 2 ≤ r.f0 → mandrelref18_May.l0 k ((i + 1 : Nat) : Int) rs wt = some (okR last (toR r :: (rs.drop (i + 1)).map toR) && decide (0 ≤ wt)) := fun c2 => by
            rw [may_eval rs wt hl m (i + 1) k r.f1 (by omega) (by omega) (by omega) (fun j hj => by
              obtain rfl : i = j := by omega
              rw [hr]) (by omega) (by omega)]
            have e : okR last (toR r :: (rs.drop (i + 1)).map toR) = okR r.f1 ((rs.drop (i + 1)).map toR) := by
              rw [okR]
              show (decide (0 ≤ r.f0) && decide (last + 2 ≤ r.f0) && decide (r.f0 ≤ r.f1) && decide (r.f1 ≤ 1073741824) && okR r.f1 _) = _
              rw [decide_eq_true (by omega : 0 ≤ r.f0), decide_eq_true (by omega : last + 2 ≤ r.f0), decide_eq_true (by omega : r.f0 ≤ r.f1), decide_eq_true (by omega : r.f1 ≤ 1073741824)]
              rfl
            rw [e]
          by_cases c5 : (i : Int) > 0
          · obtain ⟨j, hj⟩ : ∃ j, i = j + 1 := ⟨i - 1, by omega⟩
            have e1 : wrap64 ((i : Int) - 1) = (j : Int) := (wrap_sm (by omega) (by omega)).trans (by omega)
            have e2 : wrap64 (r.f0 - 1) = r.f0 - 1 := wrap_sm (by omega) (by omega)
            have hla := h1 j hj
            rw [if_pos c5, e1, if_pos (by omega), if_pos (by omega), e2, show (rd_T66 rs (j : Int)).f1 = last from hla.symm]
            by_cases c6 : r.f0 - 1 ≤ last
            · rw [if_pos c6, bad (by omega)]
            · rw [if_neg c6]; exact go (by omega)
          · rw [if_neg c5]
            have := h0 (by omega)
            exact go (by omega)
theorem may_f (s : Sp0) (k : Nat) (hl : s.f0.length ≤ 1000000000) (hk : s.f0.length + 1 ≤ k) : mandrelref18_May.f k s.f0 s.f1 = some (okS (toS s)) := by
  have h := may_eval s.f0 s.f1 hl s.f0.length 0 k (-2) (by omega) hk (fun _ => rfl) (fun j h => by omega) (by omega) (by omega)
  exact h
theorem mays_eval (l : List Sp0) (hl : l.length ≤ 1000000000) (hL : ∀ s ∈ l, s.f0.length ≤ 1000000) : ∀ (m i k : Nat), i + m = l.length → m + 1000002 ≤ k → mandrellaw19_may.l0 k l (i : Int) = some (okL ((l.drop i).map toS))
  | 0, i, k, hi, hk => by
    obtain ⟨k, rfl⟩ : ∃ k', k = k' + 1 := ⟨k - 1, by omega⟩
    rw [mandrellaw19_may.l0, if_neg (by omega), List.drop_of_length_le (by omega)]
    rfl
  | m + 1, i, k, hi, hk => by
    obtain ⟨k, rfl⟩ : ∃ k', k = k' + 1 := ⟨k - 1, by omega⟩
    have hil : i < l.length := by omega
    have hin : rdS0 l (i : Int) ∈ l := List.mem_of_mem_drop (i := i) (by rw [rds0_drop hil]; exact List.mem_cons_self)
    have hb := hL _ hin
    rw [mandrellaw19_may.l0, if_pos (by omega), if_pos (by omega), show mandrelref18_May.f k (rd_T37 l (i : Int)).f0 (rd_T37 l (i : Int)).f1 = _ from may_f (rdS0 l (i : Int)) k (by omega) (by omega), Option.bind_some, wrap_sm (x := (i : Int) + 1) (by omega) (by omega), cast_succ, rds0_drop hil, List.map_cons]
    unfold okL
    rw [List.all_cons]
    by_cases h : okS (toS (rdS0 l (i : Int))) = true
    · rw [if_pos h, h, Bool.true_and]
      exact mays_eval l hl hL m (i + 1) k (by omega) (by omega)
    · rw [if_neg h]
      rw [Bool.not_eq_true] at h
      rw [h]
      rfl
theorem give_eval (rs : List Rg0) (wt wt2 : Int) (hl : rs.length ≤ 1000000000) : ∀ (m i k : Nat) (out : List Rg), i + m = rs.length → m + 1 ≤ k → out.length = i → mandrellaw19_giveSpan.l0 k (i : Int) rs wt2 out wt = some (out ++ (rs.drop i).map toR, wt)
  | 0, i, k, out, hi, hk, _ => by
    obtain ⟨k, rfl⟩ : ∃ k', k = k' + 1 := ⟨k - 1, by omega⟩
    rw [mandrellaw19_giveSpan.l0, if_neg (by omega), List.drop_of_length_le (by omega), List.map_nil, List.append_nil]
  | m + 1, i, k, out, hi, hk, ho => by
    obtain ⟨k, rfl⟩ : ∃ k', k = k' + 1 := ⟨k - 1, by omega⟩
    have hil : i < rs.length := by omega
    rw [mandrellaw19_giveSpan.l0, if_pos (by omega), if_pos (by omega), if_pos (by omega), wrap_sm (x := (i : Int) + 1) (by omega) (by omega), cast_succ, give_eval rs wt wt2 hl m (i + 1) k _ (by omega) (by omega) (by simp [ho]), rd0_drop hil, List.map_cons, List.append_assoc]
    rfl
theorem give_f (s : Sp0) (k : Nat) (hl : s.f0.length ≤ 1000000000) (hk : s.f0.length + 1 ≤ k) : mandrellaw19_giveSpan.f k s.f0 s.f1 = some ((toS s).f0, (toS s).f1) := give_eval s.f0 s.f1 s.f1 hl s.f0.length 0 k [] (by omega) hk rfl
theorem gives_eval (l : List Sp0) (hl : l.length ≤ 1000000000) (hL : ∀ s ∈ l, s.f0.length ≤ 1000000) : ∀ (m i k : Nat) (out : List Sp), i + m = l.length → m + 1000002 ≤ k → out.length = i → mandrellaw19_giveSpans.l0 k l out (i : Int) = some (out ++ (l.drop i).map toS)
  | 0, i, k, out, hi, hk, _ => by
    obtain ⟨k, rfl⟩ : ∃ k', k = k' + 1 := ⟨k - 1, by omega⟩
    rw [mandrellaw19_giveSpans.l0, if_neg (by omega), List.drop_of_length_le (by omega), List.map_nil, List.append_nil]
  | m + 1, i, k, out, hi, hk, ho => by
    obtain ⟨k, rfl⟩ : ∃ k', k = k' + 1 := ⟨k - 1, by omega⟩
    have hil : i < l.length := by omega
    have hin : rdS0 l (i : Int) ∈ l := List.mem_of_mem_drop (i := i) (by rw [rds0_drop hil]; exact List.mem_cons_self)
    have hb := hL _ hin
    rw [mandrellaw19_giveSpans.l0, if_pos (by omega), if_pos (by omega), show mandrellaw19_giveSpan.f k (rd_T37 l (i : Int)).f0 (rd_T37 l (i : Int)).f1 = _ from give_f (rdS0 l (i : Int)) k (by omega) (by omega), Option.bind_some, if_pos (by omega), wrap_sm (x := (i : Int) + 1) (by omega) (by omega), cast_succ, gives_eval l hl hL m (i + 1) k _ (by omega) (by omega) (by simp [ho]), rds0_drop hil, List.map_cons, List.append_assoc]
    rfl
theorem mn_len (n : Nat) : mn (n : Int) 1000 = ((min n 1000 : Nat) : Int) := by
  unfold mn
  split <;> omega
theorem many_eval (l : List Sp0) (hl : l.length ≤ 60) : ∀ (m i k n : Nat), i + m = l.length → m + 1 ≤ k → n ≤ i * 1000 → mandrellaw19_many.l0 k l (n : Int) (i : Int) = some (decide (n + ((l.drop i).map fun s => min s.f0.length 1000).sum > 400))
  | 0, i, k, n, hi, hk, _ => by
    obtain ⟨k, rfl⟩ : ∃ k', k = k' + 1 := ⟨k - 1, by omega⟩
    rw [mandrellaw19_many.l0, if_neg (by omega), List.drop_of_length_le (by omega)]
    congr 1
    rw [decide_eq_decide]
    simp
    omega
  | m + 1, i, k, n, hi, hk, hn => by
    obtain ⟨k, rfl⟩ : ∃ k', k = k' + 1 := ⟨k - 1, by omega⟩
    have hil : i < l.length := by omega
    rw [mandrellaw19_many.l0, if_pos (by omega), if_pos (by omega), mn_len]
    have hm : min (rdS0 l (i : Int)).f0.length 1000 ≤ 1000 := by omega
    obtain ⟨q, hq⟩ : ∃ q, q = min (rdS0 l (i : Int)).f0.length 1000 := ⟨_, rfl⟩
    rw [show min (rd_T37 l (i : Int)).f0.length 1000 = q from hq.symm, wrap_sm (x := (n : Int) + (q : Int)) (by omega) (by omega), wrap_sm (x := (i : Int) + 1) (by omega) (by omega), cast_succ, show (n : Int) + (q : Int) = ((n + q : Nat) : Int) by omega, many_eval l hl m (i + 1) k (n + q) (by omega) (by omega) (by omega), rds0_drop hil, List.map_cons, List.sum_cons, ← hq, Nat.add_assoc]
def manyB (l : List Sp0) : Bool := decide (l.length > 60) || decide ((l.map fun s => min s.f0.length 1000).sum > 400)
theorem many_f (l : List Sp0) (k : Nat) (hk : 62 ≤ k) : mandrellaw19_many.f k l = some (manyB l) := by
  unfold mandrellaw19_many.f manyB
  by_cases h : (l.length : Int) > 60
  · rw [if_pos h, decide_eq_true (by omega), Bool.true_or]
  · rw [if_neg h, decide_eq_false (by omega), Bool.false_or]
    have := many_eval l (by omega) l.length 0 k 0 (by omega) (by omega) (by omega)
    rw [List.drop_zero, Nat.zero_add] at this
    exact this
theorem few {l : List Sp0} (h : manyB l = false) : l.length ≤ 60 ∧ ∀ s ∈ l, s.f0.length ≤ 400 := by
  unfold manyB at h
  rw [Bool.or_eq_false_iff, decide_eq_false_iff_not, decide_eq_false_iff_not] at h
  refine ⟨by omega, fun s hs => ?_⟩
  have h2 : ∀ (l : List Sp0), s ∈ l → min s.f0.length 1000 ≤ (l.map fun s => min s.f0.length 1000).sum := fun l => by
    induction l with
    | nil => intro h; cases h
    | cons a l ih =>
      intro h
      rw [List.map_cons, List.sum_cons]
      rcases List.mem_cons.1 h with rfl | h
      · omega
      · have := ih h; omega
  have := h2 l hs
  omega
end Go.Proofs.YtolhijnkgkfjgaaDoor.XC
