/- ScanTowers, in plain Lean: spans that all meet are each at a place of its own. -/
import Derived.Test.YtolhijnkgkfjgaaXDx4
import Derived.Test.YtolhijnkgkfjgaaTab
namespace Go.Proofs.Ytolhijnkgkfjgaa.XC
open Go.RowKit Go.Proofs.YtolhijnkgkfjgaaW.PrintWords Go.Proofs.YtolhijnkgkfjgaaW.PrintLast
set_option linter.unusedVariables false
set_option linter.unusedSimpArgs false
def twS (i : Nat) : Sp := ⟨[⟨(i : Int), 100 + 3 * (i : Int)⟩], 1 + (((i * 7) % 5 : Nat) : Int)⟩
theorem tw_ok {i : Nat} (hi : i < 40) : okS (twS i) = true ∧ (twS i).f0.length = 1 := by
  refine ⟨?_, rfl⟩
  unfold okS twS
  rw [Bool.and_eq_true, okR_cons, okR]
  refine ⟨⟨?_, ?_, ?_, ?_, rfl⟩, decide_eq_true ?_⟩ <;> dsimp only <;> omega
theorem tw_meet {i j : Nat} (hi : i < 40) (hj : j < 40) : ovl (twS i) (twS j) = true := by
  unfold ovl twS ov
  simp only [List.any_cons, List.any_nil, Bool.or_false]
  rw [Bool.and_eq_true, decide_eq_true_eq, decide_eq_true_eq]
  omega
/-- All meet: as many slots as have no register. -/
theorem Held.all {l : List Sp} {k : Nat} {at_ : List Int} {n : Nat} (h : Held (mtOf l) l k at_ n) (hk : k < 256) (hm : ∀ x y, In l x → In l y → mtOf l x y = true) (hne : ∀ x, In l x → (rdS l x).f0.length ≠ 0) : (n : Int) = max 0 ((l.length : Int) - k) := by
  have hno : ∀ x, In l x → rd at_ x ≠ -1 := fun x hx e => hne x hx ((h.none_ x hx).1 e)
  have hnd : at_.Nodup := by
    rw [List.Nodup, List.pairwise_iff_getElem]
    intro i j hi hj hij e
    have e2 : rd at_ (i : Int) = rd at_ (j : Int) := by
      unfold rd
      rw [Int.toNat_natCast, Int.toNat_natCast, List.getD_eq_getElem?_getD, List.getD_eq_getElem?_getD, List.getElem?_eq_getElem hi, List.getElem?_eq_getElem hj, e]
    have hin : In l (i : Int) := ⟨by omega, by have := h.len; omega⟩
    have hjn : In l (j : Int) := ⟨by omega, by have := h.len; omega⟩
    have := h.apart _ _ hin hjn (by omega) e2 (hno _ hin)
    rw [hm _ _ hin hjn] at this
    cases this
  have h1 := nodup_le at_ (upto 0 k ++ upto 256 n) hnd (fun x hx => by
    obtain ⟨i, hi, e⟩ := mem_rd hx
    have hin : In l (i : Int) := ⟨by omega, by have := h.len; omega⟩
    rw [List.mem_append, mem_upto, mem_upto]
    have h2 := hno _ hin
    rcases h.vals _ hin with h3 | h3 | h3
    · exact absurd h3 h2
    · exact .inl (by omega)
    · exact .inr (by omega))
  rw [List.length_append, upto_len, upto_len, h.len] at h1
  by_cases hz : n = 0
  · omega
  · have h2 := nodup_le (upto 0 k ++ upto 256 n) at_ (List.nodup_append.2 ⟨upto_nodup _ _, upto_nodup _ _, fun a ha b hb e => by
      have := mem_upto.1 ha
      have := mem_upto.1 hb
      omega⟩) (fun x hx => by
      rw [List.mem_append, mem_upto, mem_upto] at hx
      rcases hx with hx | hx
      · obtain ⟨y, hy, e⟩ := h.used 0 (by omega)
        obtain ⟨t, ht, e2, _⟩ := h.tight y hy (by omega) x.toNat (by omega)
        have e3 : rd at_ t = x := by omega
        rw [← e3]
        exact rd_mem ht.1 (by rw [h.len]; exact ht.2)
      · obtain ⟨y, hy, e⟩ := h.used (x - 256).toNat (by omega)
        have e3 : rd at_ y = x := by omega
        rw [← e3]
        exact rd_mem hy.1 (by rw [h.len]; exact hy.2))
    rw [List.length_append, upto_len, upto_len, h.len] at h2
    omega
theorem mx_is (a b : Int) : mx a b = max a b := by
  unfold mx
  split <;> omega
theorem tw_run {m c : Nat} (hm : m < 40) (hc : 1 ≤ c) (hc2 : c ≤ 32) : ∀ (s i k : Nat), i + s = m → s + 1 ≤ k → mandrellaw19_ScanTowers.l0 k (m : Int) (c : Int) (tab twS i) (i : Int) = some true
  | 0, i, k, hi, hk => by
    obtain rfl : i = m := by omega
    obtain ⟨k, rfl⟩ : ∃ k', k = k' + 1 := ⟨k - 1, by omega⟩
    have hok := tab_ok twS i (fun j hj => tw_ok (by omega))
    have hll := tab_len twS i
    have H := asg_held (mt := mtOf (tab twS i)) (mtOf_symm _) (tab twS i) (k := c) (by omega)
    have hn := H.all (by omega) (fun x y hx hy => by
      obtain ⟨a, rfl⟩ : ∃ a : Nat, x = (a : Int) := ⟨x.toNat, by have := hx.1; omega⟩
      obtain ⟨b, rfl⟩ : ∃ b : Nat, y = (b : Int) := ⟨y.toNat, by have := hy.1; omega⟩
      have h1 := hx.2
      have h2 := hy.2
      unfold mtOf
      rw [tab_rd _ _ _ (by omega), tab_rd _ _ _ (by omega)]
      exact tw_meet (by omega) (by omega)) (fun x hx => by
      obtain ⟨a, rfl⟩ : ∃ a : Nat, x = (a : Int) := ⟨x.toNat, by have := hx.1; omega⟩
      have h1 := hx.2
      rw [tab_rd _ _ _ (by omega)]
      exact Nat.one_ne_zero)
    rw [hll] at hn
    rw [mandrellaw19_ScanTowers.l0, if_neg (by omega), asg_f _ c (by omega) hok.2 hok.1 hc hc2, Option.bind_some, if_pos (show (none : Option Int).isNone = true from rfl)]
    dsimp only
    rw [H.len, hll, if_pos rfl, hn, mx_is, wrap_sm (by omega) (by omega), if_pos rfl, H.check (by omega) hok.2 hok.1 hc hc2, Option.bind_some, if_pos (show (none : Option Int).isNone = true from rfl)]
    rfl
  | s + 1, i, k, hi, hk => by
    obtain ⟨k, rfl⟩ : ∃ k', k = k' + 1 := ⟨k - 1, by omega⟩
    have e1 : wrap64 (3 * (i : Int)) = 3 * (i : Int) := wrap_sm (by omega) (by omega)
    have e2 : wrap64 (100 + 3 * (i : Int)) = 100 + 3 * (i : Int) := wrap_sm (by omega) (by omega)
    have e3 : wrap64 ((i : Int) * 7) = ((i * 7 : Nat) : Int) := (wrap_sm (by omega) (by omega)).trans (by omega)
    have e4 : Int.tmod ((i * 7 : Nat) : Int) 5 = ((i * 7 % 5 : Nat) : Int) := tmod_nat (i * 7) 5
    have hb := Nat.mod_lt (i * 7) (show 0 < 5 by omega)
    have e5 : wrap64 (1 + ((i * 7 % 5 : Nat) : Int)) = 1 + ((i * 7 % 5 : Nat) : Int) := wrap_sm (by omega) (by omega)
    rw [mandrellaw19_ScanTowers.l0, if_pos (by omega), if_pos (by rw [tab_len]; omega), e1, e2, e3, e4, e5, wrap_sm (x := (i : Int) + 1) (by omega) (by omega), show ((i : Int) + 1) = ((i + 1 : Nat) : Int) by omega]
    have h := tw_run hm hc hc2 s (i + 1) k (by omega) (by omega)
    rw [tab_succ] at h
    exact h
end Go.Proofs.Ytolhijnkgkfjgaa.XC
namespace Go.Proofs.Ytolhijnkgkfjgaa.Pure
open Go.RowKit Go.Proofs.Ytolhijnkgkfjgaa.XC Go.Proofs.YtolhijnkgkfjgaaW.PrintWords Go.Proofs.YtolhijnkgkfjgaaW.PrintLast
theorem ScanTowers : mandrellaw19_ScanTowers.Pure := by
  intro a0 a1 _ _
  obtain ⟨m, hm, e1⟩ := small_mod a0 40 (by omega) (by omega)
  obtain ⟨c, hc, e2⟩ := small_mod a1 32 (by omega) (by omega)
  refine ⟨100, ?_⟩
  unfold mandrellaw19_ScanTowers.f
  have e1' : wrap64 (Int.tmod (IntKind.u64.wrap a0) 40) = (m : Int) := e1
  have e2' : wrap64 (Int.tmod (IntKind.u64.wrap a1) 32) = (c : Int) := e2
  rw [e1', e2', wrap_sm (x := 1 + (c : Int)) (by omega) (by omega), show (1 + (c : Int)) = ((1 + c : Nat) : Int) by omega]
  exact tw_run (c := 1 + c) hm (by omega) (by omega) m 0 100 (by omega) (by omega)
end Go.Proofs.Ytolhijnkgkfjgaa.Pure
