/- Whether a span may be, and whether two meet, as plain functions. -/
import Derived.Test.YtolhijnkgkfjgaaDoorHeaps
import Derived.Test.YtolhijnkgkfjgaaDoorScan1
namespace Go.Proofs.YtolhijnkgkfjgaaDoor.XC
open Go.RowKit Go.Proofs.YtolhijnkgkfjgaaDoorW.PrintWords Go.Proofs.YtolhijnkgkfjgaaDoorW.PrintLast Go.Proofs.YtolhijnkgkfjgaaDoorW.PrintMore
set_option linter.unusedVariables false
set_option linter.unusedSimpArgs false
abbrev Rg := S41
abbrev rdR (l : List Rg) (i : Int) : Rg := rd_T41 l i
def okR : Int → List Rg → Bool
  | _, [] => true
  | last, r :: rs => decide (0 ≤ r.f0) && decide (last + 2 ≤ r.f0) && decide (r.f0 ≤ r.f1) && decide (r.f1 ≤ 1073741824) && okR r.f1 rs
def okS (s : Sp) : Bool := okR (-2) s.f0 && decide (0 ≤ s.f1)
theorem okR_cons {last : Int} {r : Rg} {rs : List Rg} : okR last (r :: rs) = true ↔ 0 ≤ r.f0 ∧ last + 2 ≤ r.f0 ∧ r.f0 ≤ r.f1 ∧ r.f1 ≤ 1073741824 ∧ okR r.f1 rs = true := by
  rw [okR]
  simp only [Bool.and_eq_true, decide_eq_true_eq]
  constructor
  · rintro ⟨⟨⟨⟨a, b⟩, c⟩, d⟩, e⟩; exact ⟨a, b, c, d, e⟩
  · rintro ⟨a, b, c, d, e⟩; exact ⟨⟨⟨⟨a, b⟩, c⟩, d⟩, e⟩
theorem okR_mem : ∀ {last : Int} {rs : List Rg}, okR last rs = true → ∀ x ∈ rs, last + 2 ≤ x.f0 ∧ x.f0 ≤ x.f1
  | _, [], _, x, hx => by cases hx
  | last, r :: rs, h, x, hx => by
    obtain ⟨h0, h1, h2, h3, h4⟩ := okR_cons.1 h
    rcases List.mem_cons.1 hx with rfl | hx
    · exact ⟨h1, h2⟩
    · have := okR_mem h4 x hx
      exact ⟨by omega, this.2⟩
theorem rd_drop {rs : List Rg} {i : Nat} (hi : i < rs.length) : rs.drop i = rdR rs (i : Int) :: rs.drop (i + 1) := by
  rw [List.drop_eq_getElem_cons hi]
  unfold rdR rd_T41
  rw [Int.toNat_natCast, List.getD_eq_getElem?_getD, List.getElem?_eq_getElem hi]
  rfl
theorem wrap_sm {x : Int} (h0 : -4000000000000 ≤ x) (h1 : x ≤ 4000000000000) : wrap64 x = x := by unfold wrap64; omega
theorem check_eval (rs : List Rg) (wt : Int) (hl : rs.length ≤ 1000000000) (a : List Rg) : ∀ (m i k : Nat) (last : Int), i + m = rs.length → m + 1 ≤ k → -2 ≤ last → last ≤ 1073741824 → span_Check.l0 k last rs (rs.length : Int) (i : Int) a wt = some (if (okR last (rs.drop i) && decide (0 ≤ wt)) = true then none else some 1)
  | 0, i, k, last, hi, hk, _, _ => by
    obtain ⟨k, rfl⟩ : ∃ k', k = k' + 1 := ⟨k - 1, by omega⟩
    rw [span_Check.l0, if_neg (by omega), List.drop_of_length_le (by omega), okR, Bool.true_and]
    by_cases hw : wt < 0
    · rw [if_pos hw, if_neg (by simp; omega)]
    · rw [if_neg hw, if_pos (by simp; omega)]
  | m + 1, i, k, last, hi, hk, h2, h3 => by
    obtain ⟨k, rfl⟩ : ∃ k', k = k' + 1 := ⟨k - 1, by omega⟩
    have hil : i < rs.length := by omega
    rw [span_Check.l0, if_pos (by omega), if_pos (by omega), if_pos (by omega), rd_drop hil, wrap_sm (by omega) (by omega), wrap_sm (x := (i : Int) + 1) (by omega) (by omega), show ((i : Int) + 1) = ((i + 1 : Nat) : Int) by omega]
    obtain ⟨r, hr⟩ : ∃ r, r = rdR rs (i : Int) := ⟨_, rfl⟩
    rw [← hr, show rd_T41 rs (i : Int) = r from hr.symm]
    have bad : ∀ h : ¬ (0 ≤ r.f0 ∧ last + 2 ≤ r.f0 ∧ r.f0 ≤ r.f1 ∧ r.f1 ≤ 1073741824), (okR last (r :: rs.drop (i + 1)) && decide (0 ≤ wt)) = true → False := fun h h1 => by
      rw [Bool.and_eq_true] at h1
      obtain ⟨g0, g1, g2, g3, g4⟩ := okR_cons.1 h1.1
      exact h ⟨g0, g1, g2, g3⟩
    by_cases c1 : r.f0 < 0
    · rw [if_pos c1, if_neg (bad (by omega))]
    · rw [if_neg c1]
      by_cases c2 : r.f0 < last + 2
      · rw [if_pos c2, if_neg (bad (by omega))]
      · rw [if_neg c2]
        by_cases c3 : r.f1 < r.f0
        · rw [if_pos c3, if_neg (bad (by omega))]
        · rw [if_neg c3]
          by_cases c4 : r.f1 > 1073741824
          · rw [if_pos c4, if_neg (bad (by omega))]
          · rw [if_neg c4, check_eval rs wt hl a m (i + 1) k r.f1 (by omega) (by omega) (by omega) (by omega)]
            have e : okR last (r :: rs.drop (i + 1)) = okR r.f1 (rs.drop (i + 1)) := by
              rw [okR, decide_eq_true (by omega : 0 ≤ r.f0), decide_eq_true (by omega : last + 2 ≤ r.f0), decide_eq_true (by omega : r.f0 ≤ r.f1), decide_eq_true (by omega : r.f1 ≤ 1073741824)]
              rfl
            rw [e]
theorem check_f (s : Sp) (k : Nat) (hl : s.f0.length ≤ 1000000000) (hk : s.f0.length + 1 ≤ k) : span_Check.f k s.f0 s.f1 = some (if okS s = true then none else some 1) := by
  unfold span_Check.f okS
  exact check_eval s.f0 s.f1 hl s.f0 s.f0.length 0 k (-2) (by omega) hk (by omega) (by omega)
def ov (x y : Rg) : Bool := decide (x.f0 ≤ y.f1) && decide (y.f0 ≤ x.f1)
/-- Two have a place in common. -/
def ovl (a b : Sp) : Bool := a.f0.any fun x => b.f0.any fun y => ov x y
theorem ovl_symm (a b : Sp) : ovl a b = ovl b a := by
  rw [Bool.eq_iff_iff]
  unfold ovl ov
  simp only [List.any_eq_true, Bool.and_eq_true, decide_eq_true_eq]
  constructor
  · rintro ⟨x, hx, y, hy, h1, h2⟩; exact ⟨y, hy, x, hx, h2, h1⟩
  · rintro ⟨x, hx, y, hy, h1, h2⟩; exact ⟨y, hy, x, hx, h2, h1⟩
theorem okR_drop : ∀ {last : Int} {rs : List Rg} (i : Nat), okR last rs = true → ∃ l', okR l' (rs.drop i) = true
  | last, rs, 0, h => ⟨last, h⟩
  | last, [], i + 1, h => ⟨last, by simpa using h⟩
  | last, r :: rs, i + 1, h => okR_drop i (okR_cons.1 h).2.2.2.2
theorem meet_eval (a b : List Rg) (x1 x2 : Int) (la : a.length ≤ 1000000000) (lb : b.length ≤ 1000000000) {l1 l2 : Int} (ha : okR l1 a = true) (hb : okR l2 b = true) : ∀ (s i j k : Nat), i ≤ a.length → j ≤ b.length → (a.length - i) + (b.length - j) ≤ s → 2 * s + 2 ≤ k → span_Meet.l0 k (i : Int) (j : Int) a x1 b x2 = some ((a.drop i).any fun x => (b.drop j).any fun y => ov x y) := by
  intro s
  induction s with
  | zero =>
    intro i j k hi hj hs hk
    obtain ⟨k, rfl⟩ : ∃ k', k = k' + 2 := ⟨k - 2, by omega⟩
    rw [span_Meet.l0, if_neg (by omega), span_Meet.j2, if_neg (by decide), List.drop_of_length_le (by omega)]
    rfl
  | succ s ih =>
    intro i j k hi hj hs hk
    obtain ⟨k, rfl⟩ : ∃ k', k = k' + 2 := ⟨k - 2, by omega⟩
    rw [span_Meet.l0]
    by_cases c1 : i < a.length
    · rw [if_pos (by omega), span_Meet.j2]
      by_cases c2 : j < b.length
      · rw [if_pos (decide_eq_true (by omega)), if_pos (by omega), if_pos (by omega), if_pos (by omega), if_pos (by omega), wrap_sm (x := (i : Int) + 1) (by omega) (by omega), wrap_sm (x := (j : Int) + 1) (by omega) (by omega), show ((i : Int) + 1) = ((i + 1 : Nat) : Int) by omega, show ((j : Int) + 1) = ((j + 1 : Nat) : Int) by omega]
        obtain ⟨la', hla⟩ := okR_drop i ha
        obtain ⟨lb', hlb⟩ := okR_drop j hb
        rw [rd_drop c1] at hla
        rw [rd_drop c2] at hlb
        have ea := rd_drop c1
        have eb := rd_drop c2
        obtain ⟨x, hx⟩ : ∃ x, x = rdR a (i : Int) := ⟨_, rfl⟩
        obtain ⟨y, hy⟩ : ∃ y, y = rdR b (j : Int) := ⟨_, rfl⟩
        rw [← hx] at hla ea
        rw [← hy] at hlb eb
        rw [show rd_T41 a (i : Int) = x from hx.symm, show rd_T41 b (j : Int) = y from hy.symm]
        obtain ⟨_, _, gx, _, gxs⟩ := okR_cons.1 hla
        obtain ⟨_, _, gy, _, gys⟩ := okR_cons.1 hlb
        by_cases c3 : x.f1 < y.f0
        · rw [if_pos c3, ih (i + 1) j k (by omega) hj (by omega) (by omega), ea, List.any_cons]
          have e : (List.drop j b).any (fun y => ov x y) = false := by
            rw [List.any_eq_false]
            intro y' hy'
            rw [eb] at hy'
            have h1 : y.f0 ≤ y'.f0 := by
              rcases List.mem_cons.1 hy' with rfl | hy'
              · omega
              · have := (okR_mem gys y' hy').1; omega
            unfold ov
            simp only [Bool.and_eq_true, decide_eq_true_eq]
            omega
          rw [e, Bool.false_or]
        · rw [if_neg c3]
          by_cases c4 : y.f1 < x.f0
          · rw [if_pos c4, ih i (j + 1) k hi (by omega) (by omega) (by omega), eb]
            congr 1
            rw [Bool.eq_iff_iff]
            simp only [List.any_eq_true, List.any_cons, Bool.or_eq_true]
            constructor
            · rintro ⟨x', h1, h2⟩; exact ⟨x', h1, .inr h2⟩
            · rintro ⟨x', h1, h2 | h2⟩
              · rw [ea] at h1
                have h3 : x.f0 ≤ x'.f0 := by
                  rcases List.mem_cons.1 h1 with rfl | h1
                  · omega
                  · have := (okR_mem gxs x' h1).1; omega
                unfold ov at h2
                simp only [Bool.and_eq_true, decide_eq_true_eq] at h2
                omega
              · exact ⟨x', h1, h2⟩
          · rw [if_neg c4, ea, eb, List.any_cons, List.any_cons]
            have e : ov x y = true := by
              unfold ov
              simp only [Bool.and_eq_true, decide_eq_true_eq]
              omega
            rw [e, Bool.true_or, Bool.true_or]
      · rw [if_neg (by simp; omega), show List.drop j b = [] from List.drop_of_length_le (by omega)]
        simp
    · rw [if_neg (by omega), span_Meet.j2, if_neg (by decide), show List.drop i a = [] from List.drop_of_length_le (by omega)]
      rfl
theorem meet_f (a b : Sp) (k : Nat) (la : a.f0.length ≤ 1000000000) (lb : b.f0.length ≤ 1000000000) (hk : 2 * (a.f0.length + b.f0.length) + 4 ≤ k) : span_Meet.f k a.f0 a.f1 b.f0 b.f1 = some (okS a && okS b && ovl a b) := by
  obtain ⟨k, rfl⟩ : ∃ k', k = k' + 1 := ⟨k - 1, by omega⟩
  unfold span_Meet.f
  rw [check_f a (k + 1) la (by omega), Option.bind_some, check_f b (k + 1) lb (by omega), Option.bind_some]
  by_cases h1 : okS a = true
  · rw [if_pos h1, h1, if_pos (show (none : Option Int).isNone = true from rfl)]
    by_cases h2 : okS b = true
    · rw [if_pos h2, h2, if_pos (show (none : Option Int).isNone = true from rfl), span_Meet.j0, if_neg (by decide)]
      unfold okS at h1 h2
      rw [Bool.and_eq_true] at h1 h2
      exact meet_eval a.f0 b.f0 a.f1 b.f1 la lb h1.1 h2.1 (a.f0.length + b.f0.length) 0 0 k (by omega) (by omega) (by omega) (by omega)
    · rw [if_neg h2, if_neg (show ¬ ((some (1 : Int)).isNone = true) from by simp), span_Meet.j0, if_pos rfl]
      rw [Bool.not_eq_true] at h2
      rw [h2]
      rfl
  · rw [if_neg h1, if_neg (show ¬ ((some (1 : Int)).isNone = true) from by simp), span_Meet.j0, if_pos rfl]
    rw [Bool.not_eq_true] at h1
    rw [h1]
    rfl
/-- All may be. -/
def okL (l : List Sp) : Bool := l.all okS
def Lens (l : List Sp) : Prop := ∀ s ∈ l, s.f0.length ≤ 900000000
theorem rdS_mem {l : List Sp} {i : Int} (h0 : 0 ≤ i) (h1 : i < (l.length : Int)) : rdS l i ∈ l := by
  unfold rdS rd_T44
  rw [List.getD_eq_getElem?_getD, List.getElem?_eq_getElem (by omega)]
  exact List.getElem_mem _
theorem rdS_len {l : List Sp} (h : Lens l) (i : Int) : (rdS l i).f0.length ≤ 900000000 := by
  by_cases hi : i.toNat < l.length
  · unfold rdS rd_T44
    rw [List.getD_eq_getElem?_getD, List.getElem?_eq_getElem hi]
    exact h _ (List.getElem_mem hi)
  · unfold rdS rd_T44
    rw [List.getD_eq_getElem?_getD, List.getElem?_eq_none (by omega)]
    show (0 : Nat) ≤ _
    omega
def mtOf (l : List Sp) (a b : Int) : Bool := ovl (rdS l a) (rdS l b)
theorem meetIs (l : List Sp) (h : okL l = true) (hl : Lens l) : MeetIs l (mtOf l) := fun a b h0 h1 h2 h3 => by
  have e1 := List.all_eq_true.1 h _ (rdS_mem h0 h1)
  have e2 := List.all_eq_true.1 h _ (rdS_mem h2 h3)
  have := rdS_len hl a
  have := rdS_len hl b
  refine ⟨_, (meet_f (rdS l a) (rdS l b) _ (by omega) (by omega) (Nat.le_refl _)).trans ?_⟩
  rw [e1, e2]
  rfl
theorem scheck_eval (l : List Sp) (hl : Lens l) (hn : l.length ≤ 1000000000) : ∀ (m i k : Nat), i + m = l.length → (∀ s ∈ l, m + s.f0.length + 3 ≤ k) → m + 1 ≤ k → scan_check.l0 k l (l.length : Int) (i : Int) = some (if okL (l.drop i) = true then none else some 1)
  | 0, i, k, hi, _, hk => by
    obtain ⟨k, rfl⟩ : ∃ k', k = k' + 1 := ⟨k - 1, by omega⟩
    rw [scan_check.l0, if_neg (by omega), List.drop_of_length_le (by omega), if_pos (show okL [] = true from rfl)]
  | m + 1, i, k, hi, hs, hk => by
    obtain ⟨k, rfl⟩ : ∃ k', k = k' + 1 := ⟨k - 1, by omega⟩
    have hil : i < l.length := by omega
    have hin := rdS_mem (l := l) (i := (i : Int)) (by omega) (by omega)
    have hb := hs _ hin
    have hbl := hl _ hin
    rw [scan_check.l0, if_pos (by omega), if_pos (by omega), if_pos (by omega)]
    rw [show span_Check.f k (rd_T44 l (i : Int)).f0 (rd_T44 l (i : Int)).f1 = _ from check_f (rdS l (i : Int)) k (by omega) (by omega), Option.bind_some, wrap_sm (x := (i : Int) + 1) (by omega) (by omega), show ((i : Int) + 1) = ((i + 1 : Nat) : Int) by omega]
    have e : l.drop i = rdS l (i : Int) :: l.drop (i + 1) := by
      rw [List.drop_eq_getElem_cons hil]
      unfold rdS rd_T44
      rw [Int.toNat_natCast, List.getD_eq_getElem?_getD, List.getElem?_eq_getElem hil]
      rfl
    rw [e]
    unfold okL
    rw [List.all_cons]
    by_cases h1 : okS (rdS l (i : Int)) = true
    · rw [if_pos h1, h1, if_pos (show (none : Option Int).isNone = true from rfl), Bool.true_and]
      exact scheck_eval l hl hn m (i + 1) k (by omega) (fun s h => by have := hs s h; omega) (by omega)
    · rw [if_neg h1, if_neg (show ¬ ((some (1 : Int)).isNone = true) from by simp)]
      rw [Bool.not_eq_true] at h1
      rw [h1]
      rfl
theorem scheck_f (l : List Sp) (hl : Lens l) (hn : l.length ≤ 1000000000) (a : Int) (k : Nat) (hk : ∀ s ∈ l, l.length + s.f0.length + 4 ≤ k) (hk2 : l.length + 2 ≤ k) : scan_check.f k l a = some (if 1 ≤ a ∧ a ≤ 32 ∧ okL l = true then none else some 1) := by
  obtain ⟨k, rfl⟩ : ∃ k', k = k' + 1 := ⟨k - 1, by omega⟩
  unfold scan_check.f
  by_cases h1 : a < 1
  · rw [if_pos h1, scan_check.j0, if_pos rfl, if_neg (by omega)]
  · rw [if_neg h1, scan_check.j0]
    by_cases h2 : a > 32
    · rw [if_pos (decide_eq_true h2), if_neg (by omega)]
    · rw [if_neg (by simp; omega)]
      rw [show (0 : Int) = ((0 : Nat) : Int) from rfl, scheck_eval l hl hn l.length 0 k (by omega) (fun s h => by have := hk s h; omega) (by omega), List.drop_zero]
      by_cases h3 : okL l = true
      · rw [if_pos h3, if_pos ⟨by omega, by omega, h3⟩]
      · rw [if_neg h3, if_neg (fun h => h3 h.2.2)]
end Go.Proofs.YtolhijnkgkfjgaaDoor.XC
