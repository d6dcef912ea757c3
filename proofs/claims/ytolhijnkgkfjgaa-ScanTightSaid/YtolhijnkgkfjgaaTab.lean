/- Spans made one by one; what is given passes the program's check. -/
import Derived.Test.YtolhijnkgkfjgaaChk
import Derived.Test.YtolhijnkgkfjgaaHeld
namespace Go.Proofs.Ytolhijnkgkfjgaa.XC
open Go.RowKit Go.Proofs.YtolhijnkgkfjgaaW.PrintWords Go.Proofs.YtolhijnkgkfjgaaW.PrintLast
set_option linter.unusedVariables false
set_option linter.unusedSimpArgs false
theorem tmod_nat (a b : Nat) : Int.tmod (a : Int) (b : Int) = ((a % b : Nat) : Int) := by
  rw [Int.tmod_eq_emod_of_nonneg (by omega)]
  rfl
theorem u64_nonneg (a : Int) : 0 ≤ IntKind.u64.wrap a := by
  simp [IntKind.wrap, IntKind.signed, IntKind.bits]
  omega
theorem small_mod (a : Int) (m : Nat) (hm : 0 < m) (hm2 : m ≤ 1000) : ∃ n : Nat, n < m ∧ wrap64 (Int.tmod (IntKind.u64.wrap a) (m : Int)) = (n : Int) := by
  obtain ⟨u, hu⟩ : ∃ u : Nat, IntKind.u64.wrap a = (u : Int) := ⟨(IntKind.u64.wrap a).toNat, by have := u64_nonneg a; omega⟩
  have := Nat.mod_lt u hm
  exact ⟨u % m, this, by rw [hu, tmod_nat, wrap_sm (by omega) (by omega)]⟩
/-- Spans that are made one by one. -/
def tab (f : Nat → Sp) (n : Nat) : List Sp := (List.range n).map f
theorem tab_len (f : Nat → Sp) (n : Nat) : (tab f n).length = n := by unfold tab; simp
theorem tab_succ (f : Nat → Sp) (n : Nat) : tab f (n + 1) = tab f n ++ [f n] := by unfold tab; rw [List.range_succ, List.map_append]; rfl
theorem tab_rd (f : Nat → Sp) (n i : Nat) (hi : i < n) : rdS (tab f n) (i : Int) = f i := by
  unfold rdS rd_T28 tab
  rw [Int.toNat_natCast, List.getD_eq_getElem?_getD, List.getElem?_map, List.getElem?_range hi]
  rfl
theorem tab_ok (f : Nat → Sp) (n : Nat) (h : ∀ i, i < n → okS (f i) = true ∧ (f i).f0.length = 1) : okL (tab f n) = true ∧ ((tab f n).all fun s => decide (s.f0.length ≤ 900000000)) = true := by
  unfold okL tab
  rw [List.all_map, List.all_map, List.all_eq_true, List.all_eq_true]
  refine ⟨fun i hi => (h i (List.mem_range.1 hi)).1, fun i hi => ?_⟩
  have := (h i (List.mem_range.1 hi)).2
  show decide ((f i).f0.length ≤ 900000000) = true
  rw [this]
  rfl
theorem mtOf_symm (l : List Sp) (a b : Int) : mtOf l a b = mtOf l b a := ovl_symm _ _
theorem asg_f (l : List Sp) (k : Nat) (hl : l.length ≤ 1024) (hL : (l.all fun s => decide (s.f0.length ≤ 900000000)) = true) (hok : okL l = true) (h1 : 1 ≤ k) (h2 : k ≤ 32) (kf : Nat) : scan_Assign.f kf l (k : Int) = some ((asg3 (mtOf l) l k).2, ((asg3 (mtOf l) l k).1.length : Int), none) := by
  unfold scan_Assign.f
  rw [if_pos ⟨hl, hL⟩, if_pos ⟨by omega, by omega, hok⟩, Int.toNat_natCast]
theorem wf_sm {z : Int} (h1 : -2000000000 ≤ z) (h2 : z ≤ 2000000000) : (Lit.int .i64 z).wf = true := by simp [Lit.wf, IntKind.min, IntKind.max, IntKind.signed, IntKind.bits]; omega
theorem mem_rd {at_ : List Int} {x : Int} (h : x ∈ at_) : ∃ i : Nat, i < at_.length ∧ rd at_ (i : Int) = x := by
  obtain ⟨i, hi, e⟩ := List.getElem_of_mem h
  refine ⟨i, hi, ?_⟩
  unfold rd
  rw [Int.toNat_natCast, List.getD_eq_getElem?_getD, List.getElem?_eq_getElem hi]
  exact e
theorem rd_mem {at_ : List Int} {i : Int} (h0 : 0 ≤ i) (h1 : i < (at_.length : Int)) : rd at_ i ∈ at_ := by
  unfold rd
  rw [List.getD_eq_getElem?_getD, List.getElem?_eq_getElem (by omega)]
  exact List.getElem_mem _
def upto (a n : Nat) : List Int := (List.range n).map fun i => ((a + i : Nat) : Int)
theorem mem_upto {a n : Nat} {x : Int} : x ∈ upto a n ↔ (a : Int) ≤ x ∧ x < (a : Int) + n := by
  unfold upto
  rw [List.mem_map]
  constructor
  · rintro ⟨i, hi, rfl⟩
    have := List.mem_range.1 hi
    omega
  · intro h
    exact ⟨(x - a).toNat, List.mem_range.2 (by omega), by omega⟩
theorem upto_len (a n : Nat) : (upto a n).length = n := by unfold upto; simp
theorem upto_nodup (a n : Nat) : (upto a n).Nodup := by
  unfold upto
  rw [List.Nodup, List.pairwise_map]
  exact List.nodup_range.imp (fun h e => h (by omega))
theorem Held.slots_le {mt : Int → Int → Bool} {l : List Sp} {k : Nat} {at_ : List Int} {n : Nat} (h : Held mt l k at_ n) : n ≤ l.length := by
  have := nodup_le (upto 256 n) at_ (upto_nodup _ _) (fun x hx => by
    obtain ⟨h1, h2⟩ := mem_upto.1 hx
    obtain ⟨y, hy, e⟩ := h.used (x - 256).toNat (by omega)
    have e2 : rd at_ y = x := by omega
    rw [← e2]
    exact rd_mem hy.1 (by rw [h.len]; exact hy.2))
  rw [upto_len, h.len] at this
  exact this
theorem Held.chk {l : List Sp} {k : Nat} {at_ : List Int} {n : Nat} (h : Held (mtOf l) l k at_ n) : chkB l (k : Int) at_ = true := by
  unfold chkB
  rw [List.all_eq_true]
  intro i hi
  have hi := List.mem_range.1 hi
  have hin : In l (i : Int) := ⟨by omega, by omega⟩
  rw [Bool.and_eq_true]
  refine ⟨?_, ?_⟩
  · unfold placeB
    simp only [Bool.or_eq_true, Bool.and_eq_true, decide_eq_true_eq, beq_iff_eq]
    rcases h.vals _ hin with h1 | h1 | h1
    · exact .inr ⟨h1, (h.none_ _ hin).1 h1⟩
    · exact .inl (.inl h1)
    · exact .inl (.inr h1.1)
  · rw [List.all_eq_true]
    intro o ho
    obtain ⟨o1, o2, o3⟩ := rowsF_mem ho
    have hon : In l o := ⟨o1, by omega⟩
    have hm : mtOf l (i : Int) o = false := by
      by_cases e : rd at_ (i : Int) = -1
      · have := (h.none_ _ hin).1 e
        unfold mtOf ovl
        rw [List.length_eq_zero_iff.1 this]
        rfl
      · exact h.apart _ _ hin hon (by omega) o3.symm e
    rw [hm]
    rfl
theorem Held.wf {mt : Int → Int → Bool} {l : List Sp} {k : Nat} {at_ : List Int} {n : Nat} (h : Held mt l k at_ n) (hk : k ≤ 1000) (hl : l.length ≤ 100000) : wfB at_ = true := by
  unfold wfB
  rw [List.all_eq_true]
  intro x hx
  obtain ⟨i, hi, e⟩ := mem_rd hx
  have hn := h.slots_le
  have := h.vals (i : Int) ⟨by omega, by have := h.len; omega⟩
  rw [e] at this
  exact wf_sm (by omega) (by omega)
theorem Held.check {l : List Sp} {k : Nat} {at_ : List Int} {n : Nat} (h : Held (mtOf l) l k at_ n) (hl : l.length ≤ 1024) (hL : (l.all fun s => decide (s.f0.length ≤ 900000000)) = true) (hok : okL l = true) (h1 : 1 ≤ k) (h2 : k ≤ 32) (kf : Nat) : scan_Check.f kf l (k : Int) at_ = some none := by
  unfold scan_Check.f
  rw [if_pos ⟨hl, hL, by omega, by omega, hok, h.len, h.wf (by omega) (by omega), h.chk⟩]
end Go.Proofs.Ytolhijnkgkfjgaa.XC
