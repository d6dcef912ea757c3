/- LebLong: a number with more bytes than it needs. No program. -/
import Derived.Test.YtljmikfpknmnnaaDoorXSx4
import Derived.Test.YtljmikfpknmnnaaDoorLebTake
namespace Go.Proofs.YtljmikfpknmnnaaDoor.Pure
open Go Go.RowKit Go.Proofs.YtljmikfpknmnnaaDoor.M Go.Proofs.YtljmikfpknmnnaaDoor.Leb Go.Proofs.YtljmikfpknmnnaaDoor.XS Go.Proofs.YtljmikfpknmnnaaDoorW.PrintWords Go.Proofs.YtljmikfpknmnnaaDoorW.PrintLast

theorem ll_num (e : Option Int) : mandrellaw01_num.f e = some (e.getD 0) := by
  cases e <;> rfl
theorem firstSmall_all : ∀ (l : List Int) (b : List Int), (∀ x ∈ l, 128 ≤ x) → firstSmall (l ++ b) = l.length + firstSmall b
  | [], b, _ => by simp
  | c :: r, b, h => by
    have h1 := h c (List.mem_cons_self ..)
    have h2 := firstSmall_all r b (fun x hx => h x (List.mem_cons_of_mem _ hx))
    simp only [List.cons_append, firstSmall, List.length_cons]
    rw [if_neg (by omega), h2]
    omega
theorem valU_set : ∀ (l : List Int) (i : Nat) (x : Int), x % 128 = l.getD i 0 % 128 → valU (l.set i x) = valU l
  | [], _, _, _ => rfl
  | c :: r, 0, x, h => by
    simp only [List.set_cons_zero, valU]
    simp at h
    rw [h]
  | c :: r, i + 1, x, h => by
    simp only [List.set_cons_succ, valU]
    rw [valU_set r i x (by simpa using h)]
theorem valU_rep : ∀ m : Nat, valU (List.replicate m 128) = 0
  | 0 => rfl
  | m + 1 => by simp only [List.replicate_succ, valU, valU_rep m]; rfl
/-- The bytes of a number, and all but the last above 127. -/
theorem encU_ge (v : Nat) : ∀ i, i + 1 < (encU v).length → 128 ≤ (encU v).getD i 0 := by
  intro i hi
  have h := firstSmall_encU v []
  rw [List.append_nil] at h
  exact firstSmall_below _ i (by omega)
theorem set_ge (v : Nat) (x : Int) (hx : 128 ≤ x) : ∀ y ∈ (encU v).set ((encU v).length - 1) x, 128 ≤ y := by
  intro y hy
  obtain ⟨i, hi, rfl⟩ := List.mem_iff_getElem.1 hy
  rw [List.getElem_set]
  rw [List.length_set] at hi
  split
  · exact hx
  · have h := encU_ge v i (by omega)
    rw [List.getD_eq_getElem?_getD, List.getElem?_eq_getElem hi] at h
    exact h
theorem long_l0 (a0 : Int) (m : Nat) (hm : m ≤ 6) (c : List Int) (hc : c.length ≤ 5) : ∀ (d i k : Nat), m - i = d → d < k → i ≤ m →
    ∃ k', k = k' + d + 1 ∧ mandrellaw01_LebLong.l0 k a0 (m : Int) (c ++ List.replicate i 128) (i : Int) = mandrellaw01_LebLong.l0 (k' + 1) a0 (m : Int) (c ++ List.replicate m 128) (m : Int) := by
  intro d
  induction d with
  | zero =>
    intro i k hd hk hi
    obtain rfl : i = m := by omega
    exact ⟨k - 1, by omega, by rw [show k - 1 + 1 = k by omega]⟩
  | succ d ih =>
    intro i k hd hk hi
    obtain ⟨k, rfl⟩ : ∃ m, k = m + 1 := ⟨k - 1, by omega⟩
    obtain ⟨k', h1, h2⟩ := ih (i + 1) k (by omega) (by omega) (by omega)
    refine ⟨k', by omega, ?_⟩
    rw [← h2, mandrellaw01_LebLong.l0, if_pos (by omega), if_pos (by rw [List.length_append, List.length_replicate]; omega), w64_in (by omega) (by omega), List.append_assoc, ← List.replicate_succ']
    rfl
theorem LebLong : mandrellaw01_LebLong.Pure := by
  intro v more hw1 hw2
  have hv : 0 ≤ v ∧ v < 4294967296 := by
    simp [Lit.wf, IntKind.min, IntKind.max, IntKind.signed, IntKind.bits] at hw1
    omega
  refine ⟨1000, ?_⟩
  have ev : IntKind.u64.wrap v = v := by rw [u64w]; omega
  obtain ⟨m, hm, hm6⟩ : ∃ m : Nat, wrap64 (Int.tmod (IntKind.u64.wrap more) 7) = (m : Int) ∧ m ≤ 6 := by
    rw [u64w, Int.tmod_eq_emod_of_nonneg (by omega), w64_in (by omega) (by omega)]
    exact ⟨(more % 18446744073709551616 % 7).toNat, by omega, by omega⟩
  have h5 : (encU v.toNat).length ≤ 5 := encU_le 4 v.toNat (by omega)
  have hp := encU_pos v.toNat
  have hbyte := encU_bytes v.toNat
  unfold mandrellaw01_LebLong.f
  rw [ev, putU v [] 1000 (by omega) (by simp) hv.1 (by omega)]
  simp only [Option.bind_some, List.nil_append]
  rw [if_neg (by omega), show decide (((encU v.toNat).length : Int) > 5) = false by simp; omega, mandrellaw01_LebLong.j0, if_neg (by simp)]
  generalize he : encU v.toNat = e at *
  have hlast : 0 ≤ e.getD (e.length - 1) 0 ∧ e.getD (e.length - 1) 0 < 256 := by
    rw [List.getD_eq_getElem?_getD, List.getElem?_eq_getElem (show e.length - 1 < e.length by omega)]
    exact hbyte _ (List.getElem_mem _)
  have e1 : wrap64 ((e.length : Int) - 1) = ((e.length - 1 : Nat) : Int) := by rw [w64_in (by omega) (by omega)]; omega
  have hr : rd e ((e.length - 1 : Nat) : Int) = e.getD (e.length - 1) 0 := rfl
  rw [if_pos (by simp; omega)]
  simp only [List.nil_append, Option.bind_some]
  rw [e1, if_pos (by omega), if_pos (by omega), hr, or128 _ hlast.1 hlast.2, hm, Int.toNat_natCast]
  generalize hc : e.set (e.length - 1) (e.getD (e.length - 1) 0 % 128 + 128) = c
  have hcl : c.length = e.length := by rw [← hc, List.length_set]
  have hcge : ∀ y ∈ c, 128 ≤ y := by
    rw [← hc, ← he]
    apply set_ge
    rw [he]; omega
  have hcb : ∀ y ∈ c, 0 ≤ y ∧ y < 256 := by
    intro y hy
    rw [← hc] at hy
    rcases List.mem_or_eq_of_mem_set hy with h | rfl
    · exact hbyte y h
    · omega
  have hcv : valU c = v := by
    rw [← hc, valU_set _ _ _ (by omega), ← he, valU_encU]; omega
  obtain ⟨k', hk', hl⟩ := long_l0 v m hm6 c (by omega) m 0 999 (by omega) (by omega) (by omega)
  have hl' : mandrellaw01_LebLong.l0 999 v (m : Int) c 0 = mandrellaw01_LebLong.l0 (k' + 1) v (m : Int) (c ++ List.replicate m 128) (m : Int) := by
    rw [List.replicate_zero, List.append_nil] at hl
    exact hl
  rw [hl', mandrellaw01_LebLong.l0]
  generalize hd : c ++ List.replicate m 128 = d
  have hdl : d.length = e.length + m := by rw [← hd, List.length_append, List.length_replicate, hcl]
  have hdge : ∀ y ∈ d, 128 ≤ y := by
    intro y hy
    rw [← hd] at hy
    rcases List.mem_append.1 hy with h | h
    · exact hcge y h
    · rw [List.eq_of_mem_replicate h]; omega
  have hdb : ∀ y ∈ d, 0 ≤ y ∧ y < 256 := by
    intro y hy
    rw [← hd] at hy
    rcases List.mem_append.1 hy with h | h
    · exact hcb y h
    · rw [List.eq_of_mem_replicate h]; omega
  have hdv : valU d = v := by rw [← hd, valU_append, valU_rep, hcv]; omega
  have f1 : firstSmall d = d.length := by
    have := firstSmall_all d [] hdge
    rw [List.append_nil] at this
    exact this
  have f2 : firstSmall (d ++ [0]) = d.length := firstSmall_all d [0] hdge
  have dl2 : (d ++ [0]).length = d.length + 1 := by simp
  have t1 : leb_TakeU.f k' d 32 = some (0, 0, some (if d.length < 5 then 4 else 6)) := by
    have h := takeU d 32 k' (by omega) (by omega) (by omega) hdb (by omega)
    unfold takeUOf at h
    rw [f1, if_neg (by omega)] at h
    exact h
  have t2 : leb_TakeU.f k' (d ++ [0]) 32 = some (if d.length < 5 then (v, (d.length : Int) + 1, none) else (0, 0, some 6)) := by
    have h := takeU (d ++ [0]) 32 k' (by omega) (by omega) (by omega) (by
      intro y hy
      rcases List.mem_append.1 hy with h | h
      · exact hdb y h
      · simp at h; omega) (by omega)
    unfold takeUOf at h
    rw [f2, dl2] at h
    refine h.trans (congrArg some ?_)
    by_cases h3 : d.length < 5
    · rw [if_pos ⟨by omega, by omega⟩, if_pos h3]
      unfold endU
      rw [show d.length + 1 - 1 = d.length by omega]
      have e2 : (d ++ [0]).getD d.length 0 = 0 := by simp [List.getD]
      rw [e2, if_neg (by simp)]
      have e3 : (d ++ [0]).take (d.length + 1) = d ++ [0] := by rw [List.take_of_length_le (by omega)]
      rw [e3, valU_append, hdv]
      simp only [valU]
      congr 1
      omega
    · rw [if_neg (by omega), if_neg h3, if_neg (by omega)]
  rw [if_neg (by omega), t1]
  simp only [Option.bind_some]
  rw [if_pos (by omega), t2]
  simp only [Option.bind_some, dl2, ll_num, sure k' (by omega)]
  by_cases h : d.length < 5
  · rw [if_neg (by omega), if_neg (by omega)]
    simp only [if_pos h]
    simp [ev]
  · rw [if_pos (by omega)]
    simp only [if_neg h]
    simp
end Go.Proofs.YtljmikfpknmnnaaDoor.Pure
