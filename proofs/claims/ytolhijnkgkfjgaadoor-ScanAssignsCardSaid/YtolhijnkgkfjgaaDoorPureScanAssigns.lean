/- ScanAssigns, in plain Lean. -/
import Derived.Test.YtolhijnkgkfjgaaDoorXDx2
import Derived.Test.YtolhijnkgkfjgaaDoorRefs
namespace Go.Proofs.YtolhijnkgkfjgaaDoor.XC
open Go.RowKit Go.Proofs.YtolhijnkgkfjgaaDoorW.PrintWords Go.Proofs.YtolhijnkgkfjgaaDoorW.PrintLast
set_option linter.unusedVariables false
set_option linter.unusedSimpArgs false
theorem rdB_set {u : List Bool} {a p : Nat} (ha : a < u.length) (b : Bool) : rdOf false (u.set a b) (p : Int) = if p = a then b else rdOf false u (p : Int) := by
  unfold rdOf
  rw [Int.toNat_natCast, List.getD_eq_getElem?_getD, List.getD_eq_getElem?_getD, List.getElem?_set]
  by_cases e : p = a
  · rw [if_pos e, if_pos e.symm, if_pos (by omega)]
    rfl
  · rw [if_neg e, if_neg (fun h => e h.symm)]
/-- Those that are somewhere. -/
def cntS (l : List Sp0) (j m : Nat) : Nat := ((upto j m).filter fun y => decide (((rdS0 l y).f0.length : Int) > 0)).length
theorem cntS_succ (l : List Sp0) (j m : Nat) : cntS l j (m + 1) = (if ((rdS0 l (j : Int)).f0.length : Int) > 0 then 1 else 0) + cntS l (j + 1) m := by
  unfold cntS
  rw [upto_succ, List.filter_cons]
  by_cases h : ((rdS0 l (j : Int)).f0.length : Int) > 0
  · rw [if_pos h, if_pos (decide_eq_true h), List.length_cons]; omega
  · rw [if_neg h, if_neg (by rw [decide_eq_true_eq]; exact h)]; omega
theorem cntS_le (l : List Sp0) (j m : Nat) : cntS l j m ≤ m := by
  unfold cntS
  have := List.length_filter_le (fun y => decide (((rdS0 l y).f0.length : Int) > 0)) (upto j m)
  rw [upto_len] at this
  exact this
theorem sure_t : mandrellaw19_sure.f = some true := rfl
section
variable {l : List Sp0} {kk : Nat} {at_ : List Int} {n : Nat}
theorem as5 (k : Nat) (b : Bool) (h : b = true → n = 0) : mandrellaw19_ScanAssigns.j5 (k + 1) (n : Int) b = some true := by
  rw [mandrellaw19_ScanAssigns.j5]
  by_cases e : b = true
  · rw [if_pos e, if_pos (by have := h e; omega), sure_t]
    rfl
  · rw [if_neg e, sure_t]
    rfl
theorem as1 (hl : l.length ≤ 60) (hL : ∀ s ∈ l, s.f0.length ≤ 400) (hn : n ≤ l.length) (hF : ∀ h : Int, (∀ j : Nat, j < l.length → (rdS0 l (j : Int)).f0.length ≠ 0 → ((cntH l (fst0 (rdS0 l (j : Int))) 0 l.length : Nat) : Int) ≤ h) → h ≤ (kk : Int) → n = 0) {s : Nat} (hS : s ≤ kk → n = 0) {u : List Bool} (hu : u.length = l.length) (hU : ∀ i : Nat, i < n → rdOf false u (i : Int) = true) : ∀ (m i k : Nat), i + m = n → m + 7000 ≤ k → mandrellaw19_ScanAssigns.l1 k l (kk : Int) (n : Int) u (s : Int) (i : Int) = some true
  | 0, i, k, hi, hk => by
    obtain ⟨k, rfl⟩ : ∃ k', k = k' + 2 := ⟨k - 2, by omega⟩
    obtain ⟨h, e1, e2, e3⟩ := hulls0 hl hL l.length 0 (k + 1) 0 (by omega) (by omega)
    rw [mandrellaw19_ScanAssigns.l1, if_neg (by omega), show mandrelref19_Hulls.f (k + 1) l = some h from e1, Option.bind_some]
    by_cases c : h ≤ (kk : Int)
    · rw [if_pos c]
      exact as5 k true (fun _ => hF h (fun j hj hne => e3 j (by omega) hj hne) c)
    · rw [if_neg c]
      exact as5 k _ (fun hd => hS (by have := of_decide_eq_true hd; omega))
  | m + 1, i, k, hi, hk => by
    obtain ⟨k, rfl⟩ : ∃ k', k = k' + 1 := ⟨k - 1, by omega⟩
    rw [mandrellaw19_ScanAssigns.l1, if_pos (by omega), if_pos (by omega), if_pos (by omega), if_pos (hU i (by omega)), wrap_sm (x := (i : Int) + 1) (by omega) (by omega), cast_succ]
    exact as1 hl hL hn hF hS hu hU m (i + 1) k (by omega) (by omega)
theorem as0 (hl : l.length ≤ 60) (hn : n ≤ l.length) (hal : at_.length = l.length) (hv : ∀ i : Nat, i < l.length → (rd at_ (i : Int) = -1 ↔ (rdS0 l (i : Int)).f0.length = 0) ∧ rd at_ (i : Int) < 256 + (n : Int)) {K0 S : Nat} (hc : ∀ k u, K0 ≤ k → u.length = l.length → (∀ j : Nat, j < l.length → 256 ≤ rd at_ (j : Int) → rdOf false u (((rd at_ (j : Int)) - 256).toNat : Int) = true) → mandrellaw19_ScanAssigns.l1 k l (kk : Int) (n : Int) u (S : Int) 0 = some true) : ∀ (m i s k : Nat) (u : List Bool), i + m = l.length → s + cntS l i m = S → s ≤ i → K0 + 2 * m + 1 ≤ k → u.length = l.length → (∀ j : Nat, j < i → 256 ≤ rd at_ (j : Int) → rdOf false u (((rd at_ (j : Int)) - 256).toNat : Int) = true) → mandrellaw19_ScanAssigns.l0 k l (kk : Int) at_ (n : Int) u (s : Int) (i : Int) = some true
  | 0, i, s, k, u, hi, hs, hsi, hk, hu, hU => by
    obtain ⟨k, rfl⟩ : ∃ k', k = k' + 1 := ⟨k - 1, by omega⟩
    rw [mandrellaw19_ScanAssigns.l0, if_neg (by omega), show s = S by rw [← hs]; rfl]
    exact hc k u (by omega) hu (fun j hj => hU j (by omega))
  | m + 1, i, s, k, u, hi, hs, hsi, hk, hu, hU => by
    obtain ⟨k, rfl⟩ : ∃ k', k = k' + 2 := ⟨k - 2, by omega⟩
    have hil : i < l.length := by omega
    obtain ⟨v1, v2⟩ := hv i hil
    rw [cntS_succ] at hs
    have e1 : ((rd at_ (i : Int) == -1) != (((rd_T37 l (i : Int)).f0.length : Int) == 0)) = false := by
      rw [bne_eq_false_iff_eq, Bool.eq_iff_iff, beq_iff_eq, beq_iff_eq]
      refine v1.trans ?_
      show _ ↔ ((rdS0 l (i : Int)).f0.length : Int) = 0
      omega
    rw [mandrellaw19_ScanAssigns.l0, if_pos (by omega), if_pos (by omega), if_pos (by omega), e1, if_neg (by decide), wrap_sm (x := 256 + (n : Int)) (by omega) (by omega), if_neg (by omega), decide_eq_false (by omega), mandrellaw19_ScanAssigns.j3, if_neg (by decide), if_pos (by omega), if_pos (by omega)]
    rw [wrap_sm (x := (s : Int) + 1) (by omega) (by omega), wrap_sm (x := (i : Int) + 1) (by omega) (by omega), cast_succ, cast_succ]
    have next : ∀ u' : List Bool, u'.length = l.length → (∀ j : Nat, j < i + 1 → 256 ≤ rd at_ (j : Int) → rdOf false u' (((rd at_ (j : Int)) - 256).toNat : Int) = true) → (if ((rd_T37 l (i : Int)).f0.length : Int) > 0 then mandrellaw19_ScanAssigns.l0 k l (kk : Int) at_ (n : Int) u' ((s + 1 : Nat) : Int) ((i + 1 : Nat) : Int) else mandrellaw19_ScanAssigns.l0 k l (kk : Int) at_ (n : Int) u' (s : Int) ((i + 1 : Nat) : Int)) = some true := fun u' hu' hU' => by
      by_cases c : ((rdS0 l (i : Int)).f0.length : Int) > 0
      · rw [if_pos c] at hs
        rw [if_pos (show ((rd_T37 l (i : Int)).f0.length : Int) > 0 from c)]
        exact as0 hl hn hal hv hc m (i + 1) (s + 1) k u' (by omega) (by omega) (by omega) (by omega) hu' hU'
      · rw [if_neg c] at hs
        rw [if_neg (show ¬ ((rd_T37 l (i : Int)).f0.length : Int) > 0 from c)]
        exact as0 hl hn hal hv hc m (i + 1) s k u' (by omega) (by omega) (by omega) (by omega) hu' hU'
    by_cases c : rd at_ (i : Int) ≥ 256
    · obtain ⟨q, hq⟩ : ∃ q : Nat, rd at_ (i : Int) - 256 = (q : Int) := ⟨(rd at_ (i : Int) - 256).toNat, by omega⟩
      have hw : wrap64 (rd at_ (i : Int) - 256) = (q : Int) := by rw [hq]; exact wrap_sm (by omega) (by omega)
      rw [if_pos c, hw, if_pos (by omega), if_pos (by omega), Option.bind_some, if_pos (by omega), Int.toNat_natCast]
      refine next _ (by rw [List.length_set]; exact hu) (fun j hj h256 => ?_)
      rw [rdB_set (by omega)]
      by_cases e : ((rd at_ (j : Int)) - 256).toNat = q
      · rw [if_pos e]
      · rw [if_neg e]
        refine hU j ?_ h256
        by_cases e2 : j = i
        · rw [e2] at e; omega
        · omega
    · rw [if_neg c, if_pos (by omega)]
      refine next u hu (fun j hj h256 => hU j ?_ h256)
      by_cases e2 : j = i
      · rw [e2] at h256; omega
      · omega
end
theorem scanAssigns_law (l : List Sp0) (a1 : Int) : ∃ k, mandrellaw19_ScanAssigns.f k l a1 = some true := by
  refine ⟨1100000, ?_⟩
  unfold mandrellaw19_ScanAssigns.f
  rw [many_f l _ (by omega), Option.bind_some]
  by_cases hb : manyB l = true
  · rw [if_pos hb]
    rfl
  · rw [if_neg hb]
    obtain ⟨hl, hL⟩ := few (by simpa using hb)
    have hmay : mandrellaw19_may.f 1100000 l = some (okL (l.map toS)) := by
      have h := mays_eval l (by omega) (fun s hs => by have := hL s hs; omega) l.length 0 1100000 (by omega) (by omega)
      rw [List.drop_zero] at h
      exact h
    have hg : mandrellaw19_giveSpans.f 1100000 l = some (l.map toS) := by
      have h := gives_eval l (by omega) (fun s hs => by have := hL s hs; omega) l.length 0 1100000 [] (by omega) (by omega) rfl
      rw [List.drop_zero, List.nil_append] at h
      exact h
    have hll : (l.map toS).length = l.length := List.length_map _
    have hall : ((l.map toS).all fun s => decide (s.f0.length ≤ 900000000)) = true := List.all_eq_true.2 fun s hs => decide_eq_true (by have := own_len hL hs; omega)
    have hA : ∀ kf, scan_Assign.f kf (l.map toS) a1 = if 1 ≤ a1 ∧ a1 ≤ 32 ∧ okL (l.map toS) = true then some ((asg3 (mtOf (l.map toS)) (l.map toS) a1.toNat).2, ((asg3 (mtOf (l.map toS)) (l.map toS) a1.toNat).1.length : Int), none) else some ([], 0, some 1) := fun kf => by
      unfold scan_Assign.f
      rw [if_pos ⟨by omega, hall⟩]
    have hbad : mandrellaw19_ScanAssigns.j0 1100000 l a1 [] 0 (some 1) true = some true := by
      rw [show (1100000 : Nat) = 1099999 + 1 from rfl, mandrellaw19_ScanAssigns.j0, if_pos rfl]
      rfl
    rw [hg, Option.bind_some, hA]
    by_cases c1 : a1 < 1
    · rw [if_neg (by omega), Option.bind_some, if_pos c1]
      exact hbad
    · by_cases c2 : a1 > 32
      · rw [if_neg (by omega), Option.bind_some, if_neg c1, if_pos c2]
        exact hbad
      · by_cases hok : okL (l.map toS) = true
        · obtain ⟨kk, rfl⟩ : ∃ kk : Nat, a1 = (kk : Int) := ⟨a1.toNat, by omega⟩
          have H := asg_held (mt := mtOf (l.map toS)) (mtOf_symm _) (l.map toS) (k := kk) (by omega)
          have hfew : Few (l.map toS) kk → (asg3 (mtOf (l.map toS)) (l.map toS) kk).1.length = 0 := fun h => asg3_few hok (by omega) h
          have hat := H.len
          have hsl := H.slots_le
          rw [hll] at hat hsl
          have hin : ∀ i : Nat, i < l.length → In (l.map toS) (i : Int) := fun i hi => ⟨by omega, by rw [hll]; omega⟩
          have hnone : ∀ i : Nat, i < l.length → (rd (asg3 (mtOf (l.map toS)) (l.map toS) kk).2 (i : Int) = -1 ↔ (rdS0 l (i : Int)).f0.length = 0) := fun i hi => by
            have h := H.none_ _ (hin i hi)
            rw [own_rd hi, show (toS (rdS0 l (i : Int))).f0.length = (rdS0 l (i : Int)).f0.length from List.length_map _] at h
            exact h
          have hvals := fun (i : Nat) (hi : i < l.length) => H.vals _ (hin i hi)
          have hspans : cntS l 0 l.length ≤ kk → (asg3 (mtOf (l.map toS)) (l.map toS) kk).1.length = 0 := fun h => by
            by_cases e : (asg3 (mtOf (l.map toS)) (l.map toS) kk).1.length = 0
            · exact e
            · obtain ⟨ys, y1, y2, y3⟩ := H.few (fun x y hxy h0 => by
                unfold mtOf ovl at hxy
                rw [List.length_eq_zero_iff.1 h0] at hxy
                simp at hxy) (mtOf_symm _) (by omega) e
              have h2 := nodup_le ys ((upto 0 l.length).filter fun y => decide (((rdS0 l y).f0.length : Int) > 0)) y2 (fun y hy => by
                obtain ⟨g1, g2⟩ := y3 y hy
                obtain ⟨j, rfl⟩ : ∃ j : Nat, y = (j : Int) := ⟨y.toNat, by have := g1.1; omega⟩
                have hjl : j < l.length := by have := g1.2; rw [hll] at this; omega
                rw [own_rd hjl, show (toS (rdS0 l (j : Int))).f0.length = (rdS0 l (j : Int)).f0.length from List.length_map _] at g2
                exact List.mem_filter.2 ⟨mem_upto.2 ⟨by omega, by omega⟩, decide_eq_true (by omega)⟩)
              have h3 : ys.length ≤ cntS l 0 l.length := h2
              omega
          have hused := H.used
          have hap := H.apart
          rw [if_pos ⟨by omega, by omega, hok⟩, Option.bind_some, if_neg c1, if_neg c2, hmay, Option.bind_some, hok, Int.toNat_natCast]
          dsimp only
          obtain ⟨at_, hate⟩ : ∃ at_, at_ = (asg3 (mtOf (l.map toS)) (l.map toS) kk).2 := ⟨_, rfl⟩
          obtain ⟨n, hne⟩ : ∃ n, n = (asg3 (mtOf (l.map toS)) (l.map toS) kk).1.length := ⟨_, rfl⟩
          rw [← hate, ← hne] at hvals
          rw [← hate] at hnone hat hap
          rw [← hne] at hsl hspans hfew
          rw [← hate, ← hne] at hused
          rw [← hate, ← hne]
          have hM := rmay (l := l) (kk := (kk : Int)) (at_ := at_) hl hL hok hat (by omega) (by omega) (fun i hi => by
            rcases hvals i hi with h | h | h
            · exact .inl ⟨h, (hnone i hi).1 h⟩
            · exact .inr ⟨h.1, .inl h.2⟩
            · exact .inr ⟨by omega, .inr h.1⟩) (fun i j hi hj e hne1 => hap _ _ (hin i hi) (hin j (by omega)) (by omega) e.symm hne1) 1099999 (by omega)
          rw [show (1100000 : Nat) = 1099999 + 1 from rfl, mandrellaw19_ScanAssigns.j0, if_neg (by decide), if_pos (show (none : Option Int).isNone = true from rfl), hM, Option.bind_some, if_pos rfl, show (1099999 : Nat) = 1099998 + 1 from rfl, mandrellaw19_ScanAssigns.j1, decide_eq_false (by omega), if_neg (by decide), if_pos (by omega), Int.toNat_natCast, if_pos (by omega)]
          refine as0 (K0 := 8000) (S := cntS l 0 l.length) hl hsl hat (fun i hi => ⟨hnone i hi, by rcases hvals i hi with h | h | h <;> omega⟩) (fun k u hk hu hU => ?_) l.length 0 0 1099998 _ (by omega) (by omega) (by omega) (by omega) (by rw [List.length_replicate]) (fun j hj => by omega)
          refine as1 hl hL hsl (fun h hh hk2 => hfew (few_of hh hk2)) hspans hu (fun i hi => ?_) n 0 k (by omega) (by omega)
          obtain ⟨x, hx, e⟩ := hused i hi
          obtain ⟨j, rfl⟩ : ∃ j : Nat, x = (j : Int) := ⟨x.toNat, by have := hx.1; omega⟩
          have hjl : j < l.length := by have := hx.2; rw [hll] at this; omega
          have h := hU j hjl (by omega)
          rw [show ((rd at_ (j : Int)) - 256).toNat = i by omega] at h
          exact h
        · rw [if_neg (fun h => hok h.2.2), Option.bind_some, if_neg c1, if_neg c2, hmay, Option.bind_some]
          rw [Bool.not_eq_true] at hok
          rw [hok]
          exact hbad
end Go.Proofs.YtolhijnkgkfjgaaDoor.XC
