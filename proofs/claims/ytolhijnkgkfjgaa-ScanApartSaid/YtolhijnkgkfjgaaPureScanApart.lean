import Derived.Test.YtolhijnkgkfjgaaXDx1
import Derived.Test.YtolhijnkgkfjgaaHeld
namespace Go.Proofs.Ytolhijnkgkfjgaa.XC
open Go.RowKit Go.Proofs.YtolhijnkgkfjgaaW.PrintWords Go.Proofs.YtolhijnkgkfjgaaW.PrintLast
set_option linter.unusedVariables false
set_option linter.unusedSimpArgs false
theorem tmod_nat (a b : Nat) : Int.tmod (a : Int) (b : Int) = ((a % b : Nat) : Int) := by
  rw [Int.tmod_eq_emod_of_nonneg (by omega)]
  rfl
theorem u64_nonneg (a : Int) : 0 ≤ IntKind.u64.wrap a := by
  simp [IntKind.wrap, IntKind.signed, IntKind.bits]
  omega
theorem small_mod (a : Int) (m : Nat) (hm : 0 < m) (hm2 : m ≤ 1000) : ∃ n : Nat, n < m ∧ wrap64 (Int.tmod (IntKind.u64.wrap a) (m : Int)) = (n : Int) := by
  obtain ⟨u, hu⟩ : ∃ u : Nat, IntKind.u64.wrap a = (u : Int) := ⟨(IntKind.u64.wrap a).toNat, by have := u64_nonneg a; omega⟩
  have := Nat.mod_lt u hm
  exact ⟨u % m, this, by rw [hu, tmod_nat, wrap_sm (by omega) (by omega)]⟩
/-- Spans that are made one by one. -/
def tab (f : Nat → Sp) (n : Nat) : List Sp := (List.range n).map f
theorem tab_len (f : Nat → Sp) (n : Nat) : (tab f n).length = n := by unfold tab; simp
theorem tab_succ (f : Nat → Sp) (n : Nat) : tab f (n + 1) = tab f n ++ [f n] := by unfold tab; rw [List.range_succ, List.map_append]; rfl
theorem tab_rd (f : Nat → Sp) (n i : Nat) (hi : i < n) : rdS (tab f n) (i : Int) = f i := by
  unfold rdS rd_T28 tab
  rw [Int.toNat_natCast, List.getD_eq_getElem?_getD, List.getElem?_map, List.getElem?_range hi]
  rfl
theorem tab_ok (f : Nat → Sp) (n : Nat) (h : ∀ i, i < n → okS (f i) = true ∧ (f i).f0.length = 1) : okL (tab f n) = true ∧ ((tab f n).all fun s => decide (s.f0.length ≤ 900000000)) = true := by
  unfold okL tab
  rw [List.all_map, List.all_map, List.all_eq_true, List.all_eq_true]
  refine ⟨fun i hi => (h i (List.mem_range.1 hi)).1, fun i hi => ?_⟩
  have := (h i (List.mem_range.1 hi)).2
  show decide ((f i).f0.length ≤ 900000000) = true
  rw [this]
  rfl
theorem mtOf_symm (l : List Sp) (a b : Int) : mtOf l a b = mtOf l b a := ovl_symm _ _
theorem asg_f (l : List Sp) (k : Nat) (hl : l.length ≤ 1024) (hL : (l.all fun s => decide (s.f0.length ≤ 900000000)) = true) (hok : okL l = true) (h1 : 1 ≤ k) (h2 : k ≤ 32) (kf : Nat) : scan_Assign.f kf l (k : Int) = some ((asg3 (mtOf l) l k).2, ((asg3 (mtOf l) l k).1.length : Int), none) := by
  unfold scan_Assign.f
  rw [if_pos ⟨hl, hL⟩, if_pos ⟨by omega, by omega, hok⟩, Int.toNat_natCast]
theorem cost_none (l : List Sp) (at_ : List Int) (hal : at_.length = l.length) (hl : l.length ≤ 1000000) (h : ∀ x, In l x → rd at_ x < 256) : ∀ (m i k : Nat), i + m = l.length → m + 1 ≤ k → scan_Cost.l0 k at_ 0 l (l.length : Int) (i : Int) = some 0
  | 0, i, k, hi, hk => by
    obtain ⟨k, rfl⟩ : ∃ k', k = k' + 1 := ⟨k - 1, by omega⟩
    rw [scan_Cost.l0, if_neg (by omega)]
  | m + 1, i, k, hi, hk => by
    obtain ⟨k, rfl⟩ : ∃ k', k = k' + 1 := ⟨k - 1, by omega⟩
    have := h (i : Int) ⟨by omega, by omega⟩
    rw [scan_Cost.l0, if_pos (by omega), if_pos (by omega), if_pos (by omega), if_pos (by omega), if_neg (by omega), wrap_sm (x := (i : Int) + 1) (by omega) (by omega), show ((i : Int) + 1) = ((i + 1 : Nat) : Int) by omega]
    exact cost_none l at_ hal hl h m (i + 1) k (by omega) (by omega)
def apS (m g i : Nat) : Sp := ⟨[⟨((m : Int) - i) * 3 * ((g : Int) + 3), ((m : Int) - i) * 3 * ((g : Int) + 3) + g⟩], (i : Int)⟩
theorem ap_ok {m g i : Nat} (hm : m < 50) (hg : g < 6) (hi : i < m) : okS (apS m g i) = true ∧ (apS m g i).f0.length = 1 := by
  have h1 : 0 ≤ ((m : Int) - i) * 3 * ((g : Int) + 3) ∧ ((m : Int) - i) * 3 * ((g : Int) + 3) ≤ 2000 := by
    have : g = 0 ∨ g = 1 ∨ g = 2 ∨ g = 3 ∨ g = 4 ∨ g = 5 := by omega
    rcases this with rfl | rfl | rfl | rfl | rfl | rfl <;> constructor <;> omega
  refine ⟨?_, rfl⟩
  unfold okS apS
  obtain ⟨A, hA⟩ : ∃ A : Int, A = ((m : Int) - i) * 3 * ((g : Int) + 3) := ⟨_, rfl⟩
  rw [← hA] at h1 ⊢
  rw [Bool.and_eq_true, okR_cons, okR]
  refine ⟨⟨?_, ?_, ?_, ?_, rfl⟩, decide_eq_true ?_⟩ <;> dsimp only <;> omega
theorem ap_apart {m g i j : Nat} (hg : g < 6) (hi : i < m) (hj : j < m) (h : i ≠ j) : ovl (apS m g i) (apS m g j) = false := by
  unfold ovl apS ov
  simp only [List.any_cons, List.any_nil, Bool.or_false]
  rw [Bool.and_eq_false_iff, decide_eq_false_iff_not, decide_eq_false_iff_not]
  have : g = 0 ∨ g = 1 ∨ g = 2 ∨ g = 3 ∨ g = 4 ∨ g = 5 := by omega
  rcases this with rfl | rfl | rfl | rfl | rfl | rfl <;> omega
theorem ap_asg {m c g : Nat} (hm : m < 50) (hc : 1 ≤ c) (hc2 : c ≤ 32) (hg : g < 6) : (asg3 (mtOf (tab (apS m g) m)) (tab (apS m g) m) c).1.length = 0 ∧ (asg3 (mtOf (tab (apS m g) m)) (tab (apS m g) m) c).2.length = m ∧ ∀ x : Int, 0 ≤ x → x < (m : Int) → 0 ≤ rd (asg3 (mtOf (tab (apS m g) m)) (tab (apS m g) m) c).2 x ∧ rd (asg3 (mtOf (tab (apS m g) m)) (tab (apS m g) m) c).2 x < (c : Int) := by
  obtain ⟨l, hl⟩ : ∃ l, l = tab (apS m g) m := ⟨_, rfl⟩
  have hll : l.length = m := by rw [hl, tab_len]
  have hrd : ∀ i : Nat, i < m → rdS l (i : Int) = apS m g i := fun i hi => by rw [hl, tab_rd _ _ _ hi]
  rw [← hl]
  have H := asg_held (mt := mtOf l) (mtOf_symm l) l (k := c) (by omega)
  have hno : ∀ x y, In l x → In l y → x ≠ y → mtOf l x y = false := fun x y hx hy hne => by
    obtain ⟨i, rfl⟩ : ∃ i : Nat, x = (i : Int) := ⟨x.toNat, by have := hx.1; omega⟩
    obtain ⟨j, rfl⟩ : ∃ j : Nat, y = (j : Int) := ⟨y.toNat, by have := hy.1; omega⟩
    have h1 := hx.2
    have h2 := hy.2
    unfold mtOf
    rw [hrd i (by omega), hrd j (by omega)]
    exact ap_apart hg (by omega) (by omega) (by omega)
  have hslot : ∀ x, In l x → ¬ (256 ≤ rd (asg3 (mtOf l) l c).2 x) := fun x hx h => by
    obtain ⟨y, hy, h1, h2⟩ := H.tight x hx h 0 (by omega)
    rw [hno x y hx hy (fun e => by rw [e] at h; omega)] at h2
    cases h2
  refine ⟨?_, by rw [H.len, hll], fun x h0 h1 => ?_⟩
  · by_cases e : (asg3 (mtOf l) l c).1.length = 0
    · exact e
    · obtain ⟨x, hx, h⟩ := H.used 0 (by omega)
      exact absurd (show 256 ≤ rd (asg3 (mtOf l) l c).2 x by omega) (hslot x hx)
  · have hx : In l x := ⟨h0, by omega⟩
    rcases H.vals x hx with h | h | h
    · have h2 := (H.none_ x hx).1 h
      obtain ⟨i, rfl⟩ : ∃ i : Nat, x = (i : Int) := ⟨x.toNat, by omega⟩
      rw [hrd i (by omega)] at h2
      cases h2
    · exact h
    · exact absurd h.1 (hslot x hx)
theorem ap_last {m c : Nat} (hm : m < 50) (hc2 : c ≤ 32) (at_ : List Int) (hal : at_.length = m) (h : ∀ x : Int, 0 ≤ x → x < (m : Int) → 0 ≤ rd at_ x ∧ rd at_ x < (c : Int)) : ∀ (s i k : Nat), i + s = m → s + 1 ≤ k → mandrellaw19_ScanApart.l1 k (m : Int) (c : Int) at_ (i : Int) = some true
  | 0, i, k, hi, hk => by
    obtain ⟨k, rfl⟩ : ∃ k', k = k' + 1 := ⟨k - 1, by omega⟩
    rw [mandrellaw19_ScanApart.l1, if_neg (by omega)]
    rfl
  | s + 1, i, k, hi, hk => by
    obtain ⟨k, rfl⟩ : ∃ k', k = k' + 1 := ⟨k - 1, by omega⟩
    have := h (i : Int) (by omega) (by omega)
    rw [mandrellaw19_ScanApart.l1, if_pos (by omega), if_pos (by omega), if_pos (by omega), if_neg (by omega), if_neg (by omega), wrap_sm (x := (i : Int) + 1) (by omega) (by omega), show ((i : Int) + 1) = ((i + 1 : Nat) : Int) by omega]
    exact ap_last hm hc2 at_ hal h s (i + 1) k (by omega) (by omega)
theorem ap_run {m c g : Nat} (hm : m < 50) (hc : 1 ≤ c) (hc2 : c ≤ 32) (hg : g < 6) : ∀ (s i k : Nat), i + s = m → s + 100 ≤ k → mandrellaw19_ScanApart.l0 k (m : Int) (c : Int) (g : Int) (tab (apS m g) i) (i : Int) = some true
  | 0, i, k, hi, hk => by
    obtain rfl : i = m := by omega
    obtain ⟨k, rfl⟩ : ∃ k', k = k' + 2 := ⟨k - 2, by omega⟩
    have hok := tab_ok (apS i g) i (fun j hj => ap_ok hm hg hj)
    obtain ⟨h1, h2, h3⟩ := ap_asg (g := g) hm hc hc2 hg
    rw [mandrellaw19_ScanApart.l0, if_neg (by omega), asg_f _ c (by rw [tab_len]; omega) hok.2 hok.1 hc hc2, Option.bind_some, if_pos (show (none : Option Int).isNone = true from rfl)]
    dsimp only
    rw [h1, if_pos (by rfl), h2, if_pos (by rfl)]
    have hcst : scan_Cost.f (k + 1) (tab (apS i g) i) (asg3 (mtOf (tab (apS i g) i)) (tab (apS i g) i) c).2 = some 0 := cost_none (tab (apS i g) i) _ (by rw [h2, tab_len]) (by rw [tab_len]; omega) (fun x hx => by have := h3 x hx.1 (by have := hx.2; rw [tab_len] at this; exact this); omega) i 0 (k + 1) (by rw [tab_len]; omega) (by omega)
    rw [hcst, Option.bind_some, mandrellaw19_ScanApart.j1, if_neg (by decide)]
    exact ap_last hm hc2 _ h2 h3 i 0 k (by omega) (by omega)
  | s + 1, i, k, hi, hk => by
    obtain ⟨k, rfl⟩ : ∃ k', k = k' + 1 := ⟨k - 1, by omega⟩
    have hb : 0 ≤ ((m : Int) - i) * 3 * ((g : Int) + 3) ∧ ((m : Int) - i) * 3 * ((g : Int) + 3) ≤ 2000 := by
      have : g = 0 ∨ g = 1 ∨ g = 2 ∨ g = 3 ∨ g = 4 ∨ g = 5 := by omega
      rcases this with rfl | rfl | rfl | rfl | rfl | rfl <;> constructor <;> omega
    have e1 : wrap64 ((m : Int) - (i : Int)) = (m : Int) - i := wrap_sm (by omega) (by omega)
    have e2 : wrap64 (((m : Int) - (i : Int)) * 3) = ((m : Int) - i) * 3 := wrap_sm (by omega) (by omega)
    have e3 : wrap64 ((g : Int) + 3) = (g : Int) + 3 := wrap_sm (by omega) (by omega)
    have e4 : wrap64 (((m : Int) - i) * 3 * ((g : Int) + 3)) = ((m : Int) - i) * 3 * ((g : Int) + 3) := wrap_sm (by omega) (by omega)
    have e5 : wrap64 (((m : Int) - i) * 3 * ((g : Int) + 3) + (g : Int)) = ((m : Int) - i) * 3 * ((g : Int) + 3) + g := wrap_sm (by omega) (by omega)
    rw [mandrellaw19_ScanApart.l0, if_pos (by omega), if_pos (by rw [tab_len]; omega), e1, e2, e3, e4, e5, wrap_sm (x := (i : Int) + 1) (by omega) (by omega), show ((i : Int) + 1) = ((i + 1 : Nat) : Int) by omega]
    have h := ap_run hm hc hc2 hg s (i + 1) k (by omega) (by omega)
    rw [tab_succ] at h
    exact h
end Go.Proofs.Ytolhijnkgkfjgaa.XC
namespace Go.Proofs.Ytolhijnkgkfjgaa.Pure
open Go.RowKit Go.Proofs.Ytolhijnkgkfjgaa.XC Go.Proofs.YtolhijnkgkfjgaaW.PrintWords Go.Proofs.YtolhijnkgkfjgaaW.PrintLast
theorem ScanApart : mandrellaw19_ScanApart.Pure := by
  intro a0 a1 a2 _ _ _
  obtain ⟨m, hm, e1⟩ := small_mod a0 50 (by omega) (by omega)
  obtain ⟨c, hc, e2⟩ := small_mod a1 32 (by omega) (by omega)
  obtain ⟨g, hg, e3⟩ := small_mod a2 5 (by omega) (by omega)
  refine ⟨200, ?_⟩
  unfold mandrellaw19_ScanApart.f
  have e1' : wrap64 (Int.tmod (IntKind.u64.wrap a0) 50) = (m : Int) := e1
  have e2' : wrap64 (Int.tmod (IntKind.u64.wrap a1) 32) = (c : Int) := e2
  have e3' : wrap64 (Int.tmod (IntKind.u64.wrap a2) 5) = (g : Int) := e3
  rw [e1', e2', e3', wrap_sm (x := 1 + (c : Int)) (by omega) (by omega), wrap_sm (x := 1 + (g : Int)) (by omega) (by omega), show (1 + (c : Int)) = ((1 + c : Nat) : Int) by omega, show (1 + (g : Int)) = ((1 + g : Nat) : Int) by omega]
  exact ap_run (c := 1 + c) (g := 1 + g) hm (by omega) (by omega) (by omega) m 0 200 (by omega) (by omega)
end Go.Proofs.Ytolhijnkgkfjgaa.Pure
