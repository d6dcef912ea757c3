/- ScanTight, in plain Lean. -/
import Derived.Test.YtolhijnkgkfjgaaXDx3
import Derived.Test.YtolhijnkgkfjgaaGives
namespace Go.Proofs.Ytolhijnkgkfjgaa.XC
open Go.RowKit Go.Proofs.YtolhijnkgkfjgaaW.PrintWords Go.Proofs.YtolhijnkgkfjgaaW.PrintLast
set_option linter.unusedVariables false
set_option linter.unusedSimpArgs false
theorem own_rd {l : List Sp0} {i : Nat} (hi : i < l.length) : rdS (l.map toS) (i : Int) = toS (rdS0 l (i : Int)) := by
  unfold rdS rd_T28 rdS0 rd_T43
  rw [Int.toNat_natCast, List.getD_eq_getElem?_getD, List.getD_eq_getElem?_getD, List.getElem?_map, List.getElem?_eq_getElem hi]
  rfl
theorem own_len {l : List Sp0} (hL : ∀ s ∈ l, s.f0.length ≤ 400) {s : Sp} (hs : s ∈ l.map toS) : s.f0.length ≤ 400 := by
  obtain ⟨a, ha, rfl⟩ := List.mem_map.1 hs
  unfold toS
  rw [List.length_map]
  exact hL a ha
section
variable {l : List Sp0} {m : Nat} {at_ : List Int} {n : Nat}
set_option maxRecDepth 100000 in
theorem tight2 (hl : l.length ≤ 60) (hL : ∀ s ∈ l, s.f0.length ≤ 400) (hok : okL (l.map toS) = true) (hal : at_.length = l.length) {i r : Nat} (hi : i < l.length) {K0 : Nat} (hK : 2000 ≤ K0) (hc : ∀ k, K0 ≤ k → mandrellaw19_ScanTight.l1 k l (m : Int) (l.map toS) at_ (i : Int) ((r : Int) + 1) = some true) (hr : r < 100) :
    ∀ (s j : Nat) (b : Bool) (k : Nat), j + s = l.length → K0 + s + 1 ≤ k → (b = true ∨ ∃ y : Nat, j ≤ y ∧ y < l.length ∧ rd at_ (y : Int) = (r : Int) ∧ mtOf (l.map toS) (i : Int) (y : Int) = true) → mandrellaw19_ScanTight.l2 k l (m : Int) (l.map toS) at_ (i : Int) (r : Int) b (j : Int) = some true
  | 0, j, b, k, hj, hk, hb => by
    obtain ⟨k, rfl⟩ : ∃ k', k = k' + 1 := ⟨k - 1, by omega⟩
    have hb : b = true := by
      rcases hb with hb | ⟨y, h1, h2, _⟩
      · exact hb
      · omega
    rw [mandrellaw19_ScanTight.l2, if_neg (by omega), if_pos hb, wrap_sm (x := (r : Int) + 1) (by omega) (by omega)]
    exact hc k (by omega)
  | s + 1, j, b, k, hj, hk, hb => by
    obtain ⟨k, rfl⟩ : ∃ k', k = k' + 1 := ⟨k - 1, by omega⟩
    rw [mandrellaw19_ScanTight.l2, if_pos (by omega), wrap_sm (x := (j : Int) + 1) (by omega) (by omega), cast_succ]
    have next : ∀ b', (b' = true ∨ ∃ y : Nat, j + 1 ≤ y ∧ y < l.length ∧ rd at_ (y : Int) = (r : Int) ∧ mtOf (l.map toS) (i : Int) (y : Int) = true) → mandrellaw19_ScanTight.l2 k l (m : Int) (l.map toS) at_ (i : Int) (r : Int) b' ((j + 1 : Nat) : Int) = some true := fun b' h => tight2 hl hL hok hal hi hK hc hr s (j + 1) b' k (by omega) (by omega) h
    by_cases e : b = true
    · rw [if_pos e]
      exact next true (.inl rfl)
    · rw [if_neg e, if_pos (by omega)]
      obtain ⟨y, h1, h2, h3, h4⟩ := hb.resolve_left e
      by_cases e2 : rd at_ (j : Int) = (r : Int)
      · rw [if_pos e2, if_pos (by omega), if_pos (by rw [List.length_map]; omega), if_pos (by rw [List.length_map]; omega)]
        have hmi : rdS (l.map toS) (i : Int) ∈ l.map toS := rdS_mem (by omega) (by rw [List.length_map]; omega)
        have hmj : rdS (l.map toS) (j : Int) ∈ l.map toS := rdS_mem (by omega) (by rw [List.length_map]; omega)
        have l1 := own_len hL hmi
        have l2 := own_len hL hmj
        have hm := meet_f (rdS (l.map toS) (i : Int)) (rdS (l.map toS) (j : Int)) k (by omega) (by omega) (by omega)
        rw [List.all_eq_true.1 hok _ hmi, List.all_eq_true.1 hok _ hmj, Bool.true_and, Bool.true_and] at hm
        rw [show span_Meet.f k (rd_T28 (l.map toS) (i : Int)).f0 (rd_T28 (l.map toS) (i : Int)).f1 (rd_T28 (l.map toS) (j : Int)).f0 (rd_T28 (l.map toS) (j : Int)).f1 = _ from hm, Option.bind_some]
        refine next _ ?_
        by_cases e3 : y = j
        · rw [e3] at h4; exact .inl h4
        · exact .inr ⟨y, by omega, h2, h3, h4⟩
      · rw [if_neg e2]
        refine next false (.inr ⟨y, ?_, h2, h3, h4⟩)
        by_cases e3 : y = j
        · rw [e3] at h3; exact absurd h3 e2
        · omega
set_option maxRecDepth 100000 in
theorem tight1 (hl : l.length ≤ 60) (hL : ∀ s ∈ l, s.f0.length ≤ 400) (hok : okL (l.map toS) = true) (hm : m ≤ 8) (H : Held (mtOf (l.map toS)) (l.map toS) m at_ n) {i : Nat} (hi : i < l.length) (h256 : 256 ≤ rd at_ (i : Int)) {K0 : Nat} (hK : 2000 ≤ K0) (hc : ∀ k, K0 ≤ k → mandrellaw19_ScanTight.l0 k l (m : Int) (l.map toS) at_ ((i : Int) + 1) = some true) :
    ∀ (s r k : Nat), r + s = m → K0 + s * 100 + 1 ≤ k → mandrellaw19_ScanTight.l1 k l (m : Int) (l.map toS) at_ (i : Int) (r : Int) = some true
  | 0, r, k, hr, hk => by
    obtain ⟨k, rfl⟩ : ∃ k', k = k' + 1 := ⟨k - 1, by omega⟩
    rw [mandrellaw19_ScanTight.l1, if_neg (by omega), wrap_sm (x := (i : Int) + 1) (by omega) (by omega)]
    exact hc k (by omega)
  | s + 1, r, k, hr, hk => by
    obtain ⟨k, rfl⟩ : ∃ k', k = k' + 1 := ⟨k - 1, by omega⟩
    rw [mandrellaw19_ScanTight.l1, if_pos (by omega)]
    obtain ⟨y, hy, h1, h2⟩ := H.tight (i : Int) ⟨by omega, by rw [List.length_map]; omega⟩ h256 r (by omega)
    obtain ⟨y, rfl⟩ : ∃ y' : Nat, y = (y' : Int) := ⟨y.toNat, by have := hy.1; omega⟩
    have hy2 := hy.2
    rw [List.length_map] at hy2
    have hal := H.len
    rw [List.length_map] at hal
    exact tight2 hl hL hok hal hi (K0 := K0 + s * 100 + 1) (by omega) (fun k hk => by
      rw [cast_succ]
      exact tight1 hl hL hok hm H hi h256 hK hc s (r + 1) k (by omega) (by omega)) (by omega) l.length 0 false k (by omega) (by omega) (.inr ⟨y, by omega, by omega, h1, h2⟩)
set_option maxRecDepth 100000 in
theorem tight0 (hl : l.length ≤ 60) (hL : ∀ s ∈ l, s.f0.length ≤ 400) (hok : okL (l.map toS) = true) (hm : m ≤ 8) (H : Held (mtOf (l.map toS)) (l.map toS) m at_ n) {K0 : Nat} (hK : 2000 ≤ K0) (hc : ∀ k, K0 ≤ k → mandrellaw19_ScanTight.l3 k l (m : Int) (l.map toS) at_ 0 = some true) :
    ∀ (s i k : Nat), i + s = l.length → K0 + s * 1000 + 1 ≤ k → mandrellaw19_ScanTight.l0 k l (m : Int) (l.map toS) at_ (i : Int) = some true
  | 0, i, k, hi, hk => by
    obtain ⟨k, rfl⟩ : ∃ k', k = k' + 1 := ⟨k - 1, by omega⟩
    have hal := H.len
    rw [List.length_map] at hal
    rw [mandrellaw19_ScanTight.l0, if_neg (by omega)]
    exact hc k (by omega)
  | s + 1, i, k, hi, hk => by
    obtain ⟨k, rfl⟩ : ∃ k', k = k' + 1 := ⟨k - 1, by omega⟩
    have hal := H.len
    rw [List.length_map] at hal
    rw [mandrellaw19_ScanTight.l0, if_pos (by omega), if_pos (by omega)]
    by_cases e : rd at_ (i : Int) < 256
    · rw [if_pos e, wrap_sm (x := (i : Int) + 1) (by omega) (by omega), cast_succ]
      exact tight0 hl hL hok hm H hK hc s (i + 1) k (by omega) (by omega)
    · rw [if_neg e]
      exact tight1 hl hL hok hm H (by omega) (by omega) (K0 := K0 + s * 1000 + 1) (by omega) (fun k hk => by
        rw [cast_succ]
        exact tight0 hl hL hok hm H hK hc s (i + 1) k (by omega) (by omega)) m 0 k (by omega) (by omega)
end
/-- One alone. -/
theorem one_alone (x : Sp) {m : Nat} (h1 : 1 ≤ m) (hm : m ≤ 32) : (asg3 (mtOf [x]) [x] m).1.length = 0 ∧ (asg3 (mtOf [x]) [x] m).2.length = 1 ∧ (x.f0.length ≠ 0 → 0 ≤ rd (asg3 (mtOf [x]) [x] m).2 0 ∧ rd (asg3 (mtOf [x]) [x] m).2 0 < (m : Int)) := by
  have H := asg_held (mt := mtOf [x]) (mtOf_symm _) [x] (k := m) (by omega)
  have h0 : In [x] 0 := ⟨by omega, by show (0 : Int) < 1; omega⟩
  have hz : ∀ y, In [x] y → y = 0 := fun y hy => by
    have h1 := hy.1
    have h2 : y < 1 := hy.2
    omega
  have hno : ¬ (256 ≤ rd (asg3 (mtOf [x]) [x] m).2 0) := fun h => by
    obtain ⟨y, hy, e, _⟩ := H.tight 0 h0 h 0 (by omega)
    rw [hz y hy] at e
    omega
  refine ⟨?_, H.len, fun hx => ?_⟩
  · by_cases e : (asg3 (mtOf [x]) [x] m).1.length = 0
    · exact e
    · obtain ⟨y, hy, e2⟩ := H.used 0 (by omega)
      rw [hz y hy] at e2
      omega
  · rcases H.vals 0 h0 with h | h | h
    · exact absurd ((H.none_ 0 h0).1 h) hx
    · exact h
    · exact absurd h.1 hno
theorem tight3 {l : List Sp0} {m : Nat} {at_ : List Int} (hl : l.length ≤ 60) (hL : ∀ s ∈ l, s.f0.length ≤ 400) (hok : okL (l.map toS) = true) (h1 : 1 ≤ m) (hm : m ≤ 8) (hck : ∀ k, scan_Check.f k (l.map toS) (m : Int) at_ = some none) :
    ∀ (s i k : Nat), i + s = l.length → s + 1 ≤ k → mandrellaw19_ScanTight.l3 k l (m : Int) (l.map toS) at_ (i : Int) = some true
  | 0, i, k, hi, hk => by
    obtain ⟨k, rfl⟩ : ∃ k', k = k' + 1 := ⟨k - 1, by omega⟩
    rw [mandrellaw19_ScanTight.l3, if_neg (by omega), hck, Option.bind_some, if_pos (show (none : Option Int).isNone = true from rfl)]
    rfl
  | s + 1, i, k, hi, hk => by
    obtain ⟨k, rfl⟩ : ∃ k', k = k' + 1 := ⟨k - 1, by omega⟩
    have hil : i < l.length := by omega
    have hmi : rdS (l.map toS) (i : Int) ∈ l.map toS := rdS_mem (by omega) (by rw [List.length_map]; omega)
    have hlen := own_len hL hmi
    have hone : (((l.map toS).take (((i + 1 : Nat) : Int)).toNat).drop ((i : Int)).toNat) = [rdS (l.map toS) (i : Int)] := by
      rw [Int.toNat_natCast, Int.toNat_natCast, List.take_add_one, List.getElem?_eq_getElem (by rw [List.length_map]; exact hil), List.drop_left' (by rw [List.length_take, List.length_map]; omega)]
      unfold rdS rd_T28
      rw [Int.toNat_natCast, List.getD_eq_getElem?_getD, List.getElem?_eq_getElem (by rw [List.length_map]; exact hil)]
      rfl
    obtain ⟨o1, o2, o3⟩ := one_alone (rdS (l.map toS) (i : Int)) h1 (m := m) (by omega)
    have hxl : (rdS (l.map toS) (i : Int)).f0.length = (rd_T43 l (i : Int)).f0.length := by
      rw [own_rd hil]
      unfold toS
      rw [List.length_map]
    have ih := tight3 hl hL hok h1 hm hck s (i + 1) k (by omega) (by omega)
    rw [mandrellaw19_ScanTight.l3, if_pos (by omega), if_pos (by omega), wrap_sm (x := (i : Int) + 1) (by omega) (by omega), cast_succ, if_pos (by omega), if_pos (by rw [List.length_map]; omega), hone, asg_f _ m (by show 1 ≤ 1024; omega) (by rw [List.all_cons, List.all_nil, Bool.and_true]; exact decide_eq_true (by omega)) (by unfold okL; rw [List.all_cons, List.all_nil, Bool.and_true]; exact List.all_eq_true.1 hok _ hmi) h1 (by omega), Option.bind_some, if_pos (show (none : Option Int).isNone = true from rfl)]
    dsimp only
    rw [o1, o2, if_pos (by rfl), if_pos (by rfl)]
    by_cases e : ((rd_T43 l (i : Int)).f0.length : Int) > 0
    · have h3 := o3 (by omega)
      rw [if_pos e, if_pos (by decide), if_neg (by omega), if_neg (by omega)]
      exact ih
    · rw [if_neg e]
      exact ih
theorem scanTight_law (l : List Sp0) (a1 : Int) : ∃ k, mandrellaw19_ScanTight.f k l a1 = some true := by
  refine ⟨1100000, ?_⟩
  unfold mandrellaw19_ScanTight.f
  rw [many_f l _ (by omega), Option.bind_some]
  by_cases hb : manyB l = true
  · rw [if_pos hb, mandrellaw19_ScanTight.j0, if_pos rfl]
    rfl
  · rw [if_neg hb]
    obtain ⟨hl, hL⟩ := few (by simpa using hb)
    have hmay : mandrellaw19_may.f 1100000 l = some (okL (l.map toS)) := by
      have h := mays_eval l (by omega) (fun s hs => by have := hL s hs; omega) l.length 0 1100000 (by omega) (by omega)
      rw [List.drop_zero] at h
      exact h
    rw [hmay, Option.bind_some, mandrellaw19_ScanTight.j0]
    by_cases hok : okL (l.map toS) = true
    · rw [hok, if_neg (by decide)]
      have hg : mandrellaw19_giveSpans.f 1099999 l = some (l.map toS) := by
        have h := gives_eval l (by omega) (fun s hs => by have := hL s hs; omega) l.length 0 1099999 [] (by omega) (by omega) rfl
        rw [List.drop_zero, List.nil_append] at h
        exact h
      obtain ⟨m0, hm0, e1⟩ := small_mod a1 8 (by omega) (by omega)
      have e1' : wrap64 (Int.tmod (IntKind.u64.wrap a1) 8) = (m0 : Int) := e1
      have hll : (l.map toS).length = l.length := List.length_map _
      have hall : ((l.map toS).all fun s => decide (s.f0.length ≤ 900000000)) = true := List.all_eq_true.2 fun s hs => decide_eq_true (by have := own_len hL hs; omega)
      have e2 : wrap64 (1 + (m0 : Int)) = ((1 + m0 : Nat) : Int) := (wrap_sm (by omega) (by omega)).trans (by omega)
      have e3 : wrap64 (((1 + m0 : Nat) : Int) + 1) = ((2 + m0 : Nat) : Int) := (wrap_sm (by omega) (by omega)).trans (by omega)
      have H := asg_held (mt := mtOf (l.map toS)) (mtOf_symm _) (l.map toS) (k := 1 + m0) (by omega)
      rw [hg, Option.bind_some, e1', e2, e3, asg_f _ (1 + m0) (by omega) hall hok (by omega) (by omega), Option.bind_some, asg_f _ (2 + m0) (by omega) hall hok (by omega) (by omega), Option.bind_some, if_pos (show (none : Option Int).isNone = true from rfl), if_pos (show (none : Option Int).isNone = true from rfl)]
      dsimp only
      have hlen : (((asg3 (mtOf (l.map toS)) (l.map toS) (1 + m0)).2.length : Int) != (l.length : Int)) = false := by
        rw [H.len, hll]
        exact bne_self_eq_false _
      rw [hlen, mandrellaw19_ScanTight.j1, if_neg (by decide)]
      exact tight0 hl hL hok (by omega) H (K0 := 2000) (by omega) (fun k hk => tight3 hl hL hok (by omega) (by omega) (fun kf => H.check (by omega) hall hok (by omega) (by omega) kf) l.length 0 k (by omega) (by omega)) l.length 0 1099998 (by omega) (by omega)
    · rw [Bool.not_eq_true] at hok
      rw [hok, if_pos (show (!false) = true from rfl)]
      rfl
end Go.Proofs.Ytolhijnkgkfjgaa.XC
