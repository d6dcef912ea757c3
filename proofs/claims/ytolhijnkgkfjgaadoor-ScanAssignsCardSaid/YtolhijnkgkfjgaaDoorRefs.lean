/- The document's functions: whether places may be, and how many hulls meet. Plain. -/
import Derived.Test.YtolhijnkgkfjgaaDoorXCx4
import Derived.Test.YtolhijnkgkfjgaaDoorXCx5
import Derived.Test.YtolhijnkgkfjgaaDoorXCx6
import Derived.Test.YtolhijnkgkfjgaaDoorXCx7
import Derived.Test.YtolhijnkgkfjgaaDoorGives
import Derived.Test.YtolhijnkgkfjgaaDoorOrd
namespace Go.Proofs.YtolhijnkgkfjgaaDoor.XC
open Go.RowKit Go.Proofs.YtolhijnkgkfjgaaDoorW.PrintWords Go.Proofs.YtolhijnkgkfjgaaDoorW.PrintLast
set_option linter.unusedVariables false
set_option linter.unusedSimpArgs false
theorem own_rd {l : List Sp0} {i : Nat} (hi : i < l.length) : rdS (l.map toS) (i : Int) = toS (rdS0 l (i : Int)) := by
  unfold rdS rd_T44 rdS0 rd_T37
  rw [Int.toNat_natCast, List.getD_eq_getElem?_getD, List.getD_eq_getElem?_getD, List.getElem?_map, List.getElem?_eq_getElem hi]
  rfl
theorem own_rdR {rs : List Rg0} {i : Nat} (hi : i < rs.length) : rdR (rs.map toR) (i : Int) = toR (rdR0 rs (i : Int)) := by
  unfold rdR rd_T41 rdR0 rd_T66
  rw [Int.toNat_natCast, List.getD_eq_getElem?_getD, List.getD_eq_getElem?_getD, List.getElem?_map, List.getElem?_eq_getElem hi]
  rfl
theorem own_len {l : List Sp0} (hL : ∀ s ∈ l, s.f0.length ≤ 400) {s : Sp} (hs : s ∈ l.map toS) : s.f0.length ≤ 400 := by
  obtain ⟨a, ha, rfl⟩ := List.mem_map.1 hs
  unfold toS
  rw [List.length_map]
  exact hL a ha
theorem rdS0_mem {l : List Sp0} {i : Nat} (hi : i < l.length) : rdS0 l (i : Int) ∈ l := List.mem_of_mem_drop (i := i) (by rw [rds0_drop hi]; exact List.mem_cons_self)
theorem rdR0_mem {rs : List Rg0} {i : Nat} (hi : i < rs.length) : rdR0 rs (i : Int) ∈ rs := List.mem_of_mem_drop (i := i) (by rw [rd0_drop hi]; exact List.mem_cons_self)
theorem holds_no (s : Sp0) (a : Int) (hl : s.f0.length ≤ 400) (hok : okS (toS s) = true) (h : ∀ y ∈ s.f0, ¬ (y.f0 ≤ a ∧ a ≤ y.f1)) : ∀ (m i k : Nat), i + m = s.f0.length → 2 * m + s.f0.length + 4 ≤ k → mandrelref18_Holds.l0 k a (i : Int) s.f0 s.f1 = some false
  | 0, i, k, hi, hk => by
    obtain ⟨k, rfl⟩ : ∃ k', k = k' + 2 := ⟨k - 2, by omega⟩
    rw [mandrelref18_Holds.l0, if_neg (by omega), mandrelref18_Holds.j1, if_neg (by decide)]
  | m + 1, i, k, hi, hk => by
    obtain ⟨k, rfl⟩ : ∃ k', k = k' + 2 := ⟨k - 2, by omega⟩
    have hil : i < s.f0.length := by omega
    have hn := h _ (rdR0_mem hil)
    have ih := holds_no s a hl hok h m (i + 1) k (by omega) (by omega)
    rw [mandrelref18_Holds.l0, if_pos (by omega), may_f s (k + 1) (by omega) (by omega), hok, Option.bind_some, mandrelref18_Holds.j1, if_pos rfl, if_pos (by omega), if_pos (by omega), wrap_sm (x := (i : Int) + 1) (by omega) (by omega), cast_succ]
    by_cases c1 : (rdR0 s.f0 (i : Int)).f0 ≤ a
    · rw [if_pos c1, if_neg (fun c2 => hn ⟨c1, c2⟩)]
      exact ih
    · rw [if_neg c1]
      exact ih
theorem no_ov {a b : Sp0} (h : ovl (toS a) (toS b) = false) : ∀ x ∈ a.f0, ∀ y ∈ b.f0, ¬ (x.f0 ≤ y.f1 ∧ y.f0 ≤ x.f1) := fun x hx y hy hc => by
  unfold ovl at h
  rw [List.any_eq_false] at h
  have h1 := h (toR x) (List.mem_map.2 ⟨x, hx, rfl⟩)
  rw [Bool.not_eq_true, List.any_eq_false] at h1
  refine h1 (toR y) (List.mem_map.2 ⟨y, hy, rfl⟩) ?_
  unfold ov
  rw [Bool.and_eq_true, decide_eq_true_eq, decide_eq_true_eq]
  exact hc
theorem ok_le {s : Sp0} (h : okS (toS s) = true) : ∀ x ∈ s.f0, x.f0 ≤ x.f1 := fun x hx => by
  unfold okS at h
  rw [Bool.and_eq_true] at h
  exact (okR_mem h.1 (toR x) (List.mem_map.2 ⟨x, hx, rfl⟩)).2
section
variable {a b : Sp0}
theorem meet_no1 (la : a.f0.length ≤ 400) (lb : b.f0.length ≤ 400) (ha : okS (toS a) = true) (hb : okS (toS b) = true) (h : ovl (toS a) (toS b) = false) : ∀ (m i k : Nat), i + m = b.f0.length → m + 1300 ≤ k → mandrelref18_Meet.l1 k (i : Int) a.f0 a.f1 b.f0 b.f1 = some false
  | 0, i, k, hi, hk => by
    obtain ⟨k, rfl⟩ : ∃ k', k = k' + 1 := ⟨k - 1, by omega⟩
    rw [mandrelref18_Meet.l1, if_neg (by omega)]
  | m + 1, i, k, hi, hk => by
    obtain ⟨k, rfl⟩ : ∃ k', k = k' + 1 := ⟨k - 1, by omega⟩
    have hil : i < b.f0.length := by omega
    have hy := rdR0_mem hil
    have hyl := ok_le hb _ hy
    have hh := holds_no a (rdR0 b.f0 (i : Int)).f0 la ha (fun x hx hc => no_ov h x hx _ hy (by omega)) a.f0.length 0 k (by omega) (by omega)
    rw [mandrelref18_Meet.l1, if_pos (by omega), if_pos (by omega), show mandrelref18_Holds.f k a.f0 a.f1 (rd_T66 b.f0 (i : Int)).f0 = some false from hh, Option.bind_some, if_neg (by decide), wrap_sm (x := (i : Int) + 1) (by omega) (by omega), cast_succ]
    exact meet_no1 la lb ha hb h m (i + 1) k (by omega) (by omega)
theorem meet_no0 (la : a.f0.length ≤ 400) (lb : b.f0.length ≤ 400) (ha : okS (toS a) = true) (hb : okS (toS b) = true) (h : ovl (toS a) (toS b) = false) : ∀ (m i k : Nat), i + m = a.f0.length → m + 1800 ≤ k → mandrelref18_Meet.l0 k (i : Int) a.f0 a.f1 b.f0 b.f1 = some false
  | 0, i, k, hi, hk => by
    obtain ⟨k, rfl⟩ : ∃ k', k = k' + 1 := ⟨k - 1, by omega⟩
    rw [mandrelref18_Meet.l0, if_neg (by omega)]
    exact meet_no1 la lb ha hb h b.f0.length 0 k (by omega) (by omega)
  | m + 1, i, k, hi, hk => by
    obtain ⟨k, rfl⟩ : ∃ k', k = k' + 1 := ⟨k - 1, by omega⟩
    have hil : i < a.f0.length := by omega
    have hx := rdR0_mem hil
    have hxl := ok_le ha _ hx
    have hh := holds_no b (rdR0 a.f0 (i : Int)).f0 lb hb (fun y hy hc => no_ov h _ hx y hy (by omega)) b.f0.length 0 k (by omega) (by omega)
    rw [mandrelref18_Meet.l0, if_pos (by omega), if_pos (by omega), show mandrelref18_Holds.f k b.f0 b.f1 (rd_T66 a.f0 (i : Int)).f0 = some false from hh, Option.bind_some, if_neg (by decide), wrap_sm (x := (i : Int) + 1) (by omega) (by omega), cast_succ]
    exact meet_no0 la lb ha hb h m (i + 1) k (by omega) (by omega)
theorem meet_no (la : a.f0.length ≤ 400) (lb : b.f0.length ≤ 400) (ha : okS (toS a) = true) (hb : okS (toS b) = true) (h : ovl (toS a) (toS b) = false) (k : Nat) (hk : 2500 ≤ k) : mandrelref18_Meet.f k a.f0 a.f1 b.f0 b.f1 = some false := by
  obtain ⟨k, rfl⟩ : ∃ k', k = k' + 1 := ⟨k - 1, by omega⟩
  unfold mandrelref18_Meet.f
  rw [may_f a (k + 1) (by omega) (by omega), ha, Option.bind_some, if_pos rfl, may_f b (k + 1) (by omega) (by omega), hb, Option.bind_some, mandrelref18_Meet.j0, if_neg (by decide)]
  exact meet_no0 la lb ha hb h a.f0.length 0 k (by omega) (by omega)
end
section
variable {l : List Sp0} {kk : Int} {at_ : List Int}
theorem rmay2 (hl : l.length ≤ 60) (hL : ∀ s ∈ l, s.f0.length ≤ 400) (hok : okL (l.map toS) = true) (hal : at_.length = l.length) {i : Nat} (hi : i < l.length) (hm : ∀ j : Nat, j < i → rd at_ (j : Int) = rd at_ (i : Int) → mtOf (l.map toS) (i : Int) (j : Int) = false) {K0 : Nat} (hK : 3000 ≤ K0) (hc : ∀ k, K0 ≤ k → mandrelref19_May.l1 k l kk at_ ((i + 1 : Nat) : Int) = some true) : ∀ (s j k : Nat), j + s = i → K0 + s + 1 ≤ k → mandrelref19_May.l2 k l kk at_ (i : Int) (j : Int) = some true
  | 0, j, k, hj, hk => by
    obtain ⟨k, rfl⟩ : ∃ k', k = k' + 1 := ⟨k - 1, by omega⟩
    rw [mandrelref19_May.l2, if_neg (by omega), wrap_sm (x := (i : Int) + 1) (by omega) (by omega), cast_succ]
    exact hc k (by omega)
  | s + 1, j, k, hj, hk => by
    obtain ⟨k, rfl⟩ : ∃ k', k = k' + 1 := ⟨k - 1, by omega⟩
    have ih := rmay2 hl hL hok hal hi hm hK hc s (j + 1) k (by omega) (by omega)
    rw [mandrelref19_May.l2, if_pos (by omega), if_pos (by omega), if_pos (by omega), if_pos (by omega), if_pos (by omega), wrap_sm (x := (j : Int) + 1) (by omega) (by omega), cast_succ]
    by_cases e : rd at_ (j : Int) = rd at_ (i : Int)
    · have hmm := hm j (by omega) e
      unfold mtOf at hmm
      rw [own_rd hi, own_rd (show j < l.length by omega)] at hmm
      have m1 := rdS0_mem hi
      have m2 := rdS0_mem (show j < l.length by omega)
      have hN := meet_no (hL _ m1) (hL _ m2) (List.all_eq_true.1 hok _ (List.mem_map.2 ⟨_, m1, rfl⟩)) (List.all_eq_true.1 hok _ (List.mem_map.2 ⟨_, m2, rfl⟩)) hmm k (by omega)
      rw [if_pos e, if_pos (by omega), if_pos (by omega), show mandrelref18_Meet.f k (rd_T37 l (i : Int)).f0 (rd_T37 l (i : Int)).f1 (rd_T37 l (j : Int)).f0 (rd_T37 l (j : Int)).f1 = some false from hN, Option.bind_some, if_neg (by decide)]
      exact ih
    · rw [if_neg e]
      exact ih
theorem rmay1 (hl : l.length ≤ 60) (hL : ∀ s ∈ l, s.f0.length ≤ 400) (hok : okL (l.map toS) = true) (hal : at_.length = l.length) (hp : ∀ i : Nat, i < l.length → (rd at_ (i : Int) = -1 ∧ (rdS0 l (i : Int)).f0.length = 0) ∨ (0 ≤ rd at_ (i : Int) ∧ (rd at_ (i : Int) < kk ∨ 256 ≤ rd at_ (i : Int)))) (hm : ∀ i j : Nat, i < l.length → j < i → rd at_ (j : Int) = rd at_ (i : Int) → rd at_ (i : Int) ≠ -1 → mtOf (l.map toS) (i : Int) (j : Int) = false) : ∀ (m i k : Nat), i + m = l.length → 3000 + m * 100 + 1 ≤ k → mandrelref19_May.l1 k l kk at_ (i : Int) = some true
  | 0, i, k, hi, hk => by
    obtain ⟨k, rfl⟩ : ∃ k', k = k' + 1 := ⟨k - 1, by omega⟩
    rw [mandrelref19_May.l1, if_neg (by omega)]
  | m + 1, i, k, hi, hk => by
    obtain ⟨k, rfl⟩ : ∃ k', k = k' + 3 := ⟨k - 3, by omega⟩
    have ih := fun k hk => rmay1 hl hL hok hal hp hm m (i + 1) k (by omega) hk
    rw [mandrelref19_May.l1, if_pos (by omega), if_pos (by omega), if_pos (by omega)]
    rcases hp i (by omega) with ⟨h1, h2⟩ | ⟨h1, h2⟩
    · have e : (((rd_T37 l (i : Int)).f0.length : Int) == 0) = true := by
        rw [show (rd_T37 l (i : Int)).f0.length = 0 from h2]; rfl
      rw [if_pos h1, e, mandrelref19_May.j3, if_pos rfl, wrap_sm (x := (i : Int) + 1) (by omega) (by omega), cast_succ]
      exact ih _ (by omega)
    · have e2 : mandrelref19_May.j4 (k + 1) l kk at_ (i : Int) false = some true := by
        rw [mandrelref19_May.j4, if_neg (by decide)]
        exact rmay2 hl hL hok hal (by omega) (fun j hj e => hm i j (by omega) hj e (by omega)) (K0 := 3000 + m * 100 + 1) (by omega) ih i 0 k (by omega) (by omega)
      rw [if_neg (by omega), mandrelref19_May.j3, if_neg (by decide), if_pos (by omega), if_pos (by omega), if_neg (by omega)]
      by_cases c : rd at_ (i : Int) ≥ kk
      · rw [if_pos c, decide_eq_false (by omega)]
        exact e2
      · rw [if_neg c]
        exact e2
theorem rmay0 (hl : l.length ≤ 60) (hL : ∀ s ∈ l, s.f0.length ≤ 400) (hok : okL (l.map toS) = true) {K0 : Nat} (hK : 3000 ≤ K0) (hc : ∀ k, K0 ≤ k → mandrelref19_May.l1 k l kk at_ 0 = some true) : ∀ (m i k : Nat), i + m = l.length → K0 + m + 1 ≤ k → mandrelref19_May.l0 k l kk at_ (i : Int) = some true
  | 0, i, k, hi, hk => by
    obtain ⟨k, rfl⟩ : ∃ k', k = k' + 1 := ⟨k - 1, by omega⟩
    rw [mandrelref19_May.l0, if_neg (by omega)]
    exact hc k (by omega)
  | m + 1, i, k, hi, hk => by
    obtain ⟨k, rfl⟩ : ∃ k', k = k' + 1 := ⟨k - 1, by omega⟩
    have m1 := rdS0_mem (show i < l.length by omega)
    have := hL _ m1
    rw [mandrelref19_May.l0, if_pos (by omega), if_pos (by omega), show mandrelref18_May.f k (rd_T37 l (i : Int)).f0 (rd_T37 l (i : Int)).f1 = _ from may_f (rdS0 l (i : Int)) k (by omega) (by omega), List.all_eq_true.1 hok _ (List.mem_map.2 ⟨_, m1, rfl⟩), Option.bind_some, if_pos rfl, wrap_sm (x := (i : Int) + 1) (by omega) (by omega), cast_succ]
    exact rmay0 hl hL hok hK hc m (i + 1) k (by omega) (by omega)
theorem rmay (hl : l.length ≤ 60) (hL : ∀ s ∈ l, s.f0.length ≤ 400) (hok : okL (l.map toS) = true) (hal : at_.length = l.length) (h1 : 1 ≤ kk) (h2 : kk ≤ 32) (hp : ∀ i : Nat, i < l.length → (rd at_ (i : Int) = -1 ∧ (rdS0 l (i : Int)).f0.length = 0) ∨ (0 ≤ rd at_ (i : Int) ∧ (rd at_ (i : Int) < kk ∨ 256 ≤ rd at_ (i : Int)))) (hm : ∀ i j : Nat, i < l.length → j < i → rd at_ (j : Int) = rd at_ (i : Int) → rd at_ (i : Int) ≠ -1 → mtOf (l.map toS) (i : Int) (j : Int) = false) (k : Nat) (hk : 10000 ≤ k) : mandrelref19_May.f k l kk at_ = some true := by
  obtain ⟨k, rfl⟩ : ∃ k', k = k' + 1 := ⟨k - 1, by omega⟩
  have e : ((at_.length : Int) != (l.length : Int)) = false := by rw [hal]; exact bne_self_eq_false _
  unfold mandrelref19_May.f
  rw [if_neg (by omega), if_neg (by omega), e, mandrelref19_May.j0, if_neg (by decide)]
  exact rmay0 hl hL hok (K0 := 9500) (by omega) (fun k hk => rmay1 hl hL hok hal hp hm l.length 0 k (by omega) (by omega)) l.length 0 k (by omega) (by omega)
end
def upto (a n : Nat) : List Int := (List.range n).map fun i => ((a + i : Nat) : Int)
theorem mem_upto {a n : Nat} {x : Int} : x ∈ upto a n ↔ (a : Int) ≤ x ∧ x < (a : Int) + n := by
  unfold upto
  rw [List.mem_map]
  constructor
  · rintro ⟨i, hi, rfl⟩
    have := List.mem_range.1 hi
    omega
  · intro h
    exact ⟨(x - a).toNat, List.mem_range.2 (by omega), by omega⟩
theorem upto_len (a n : Nat) : (upto a n).length = n := by unfold upto; simp
theorem upto_nodup (a n : Nat) : (upto a n).Nodup := by
  unfold upto
  rw [List.Nodup, List.pairwise_map]
  exact List.nodup_range.imp (fun h e => h (by omega))
theorem upto_succ (a n : Nat) : upto a (n + 1) = (a : Int) :: upto (a + 1) n := by
  unfold upto
  rw [List.range_succ_eq_map, List.map_cons, List.map_map]
  congr 1
  refine List.map_congr_left (fun i _ => ?_)
  show ((a + (i + 1) : Nat) : Int) = ((a + 1 + i : Nat) : Int)
  omega
theorem rd_mem {at_ : List Int} {i : Int} (h0 : 0 ≤ i) (h1 : i < (at_.length : Int)) : rd at_ i ∈ at_ := by
  unfold rd
  rw [List.getD_eq_getElem?_getD, List.getElem?_eq_getElem (by omega)]
  exact List.getElem_mem _
theorem Held.slots_le {mt : Int → Int → Bool} {l : List Sp} {k : Nat} {at_ : List Int} {n : Nat} (h : Held mt l k at_ n) : n ≤ l.length := by
  have := nodup_le (upto 256 n) at_ (upto_nodup _ _) (fun x hx => by
    obtain ⟨h1, h2⟩ := mem_upto.1 hx
    obtain ⟨y, hy, e⟩ := h.used (x - 256).toNat (by omega)
    have e2 : rd at_ y = x := by omega
    rw [← e2]
    exact rd_mem hy.1 (by rw [h.len]; exact hy.2))
  rw [upto_len, h.len] at this
  exact this
def fst0 (s : Sp0) : Int := (rdR0 s.f0 0).f0
def end0 (s : Sp0) : Int := (rdR0 s.f0 ((s.f0.length - 1 : Nat) : Int)).f1
def hullB (l : List Sp0) (a y : Int) : Bool := decide ((rdS0 l y).f0.length ≠ 0) && decide (fst0 (rdS0 l y) ≤ a) && decide (a ≤ end0 (rdS0 l y))
def cntH (l : List Sp0) (a : Int) (j m : Nat) : Nat := ((upto j m).filter (hullB l a)).length
theorem cntH_succ (l : List Sp0) (a : Int) (j m : Nat) : cntH l a j (m + 1) = (if hullB l a (j : Int) = true then 1 else 0) + cntH l a (j + 1) m := by
  unfold cntH
  rw [upto_succ, List.filter_cons]
  split
  · rw [List.length_cons]; omega
  · omega
theorem cntH_le (l : List Sp0) (a : Int) (j m : Nat) : cntH l a j m ≤ m := by
  unfold cntH
  have := List.length_filter_le (hullB l a) (upto j m)
  rw [upto_len] at this
  exact this
theorem hulls1 {l : List Sp0} (hl : l.length ≤ 60) (hL : ∀ s ∈ l, s.f0.length ≤ 400) (x3 x4 a : Int) : ∀ (m j k c : Nat), j + m = l.length → c ≤ j → mandrelref19_Hulls.l1 (k + m + 1) l x3 x4 a (c : Int) (j : Int) = mandrelref19_Hulls.l0 k l (mx x3 ((c + cntH l a j m : Nat) : Int)) (wrap64 (x4 + 1))
  | 0, j, k, c, hj, hc => by
    rw [mandrelref19_Hulls.l1, if_neg (by omega)]
    rfl
  | m + 1, j, k, c, hj, hc => by
    have hjl : j < l.length := by omega
    have hb := hL _ (rdS0_mem hjl)
    rw [show k + (m + 1) + 1 = (k + m + 1) + 1 by omega, mandrelref19_Hulls.l1, if_pos (by omega), if_pos (by omega), wrap_sm (x := (j : Int) + 1) (by omega) (by omega), wrap_sm (x := (c : Int) + 1) (by omega) (by omega), cast_succ, cast_succ, cntH_succ]
    have i0 := hulls1 hl hL x3 x4 a m (j + 1) k c (by omega) (by omega)
    have i1 := hulls1 hl hL x3 x4 a m (j + 1) k (c + 1) (by omega) (by omega)
    have no : hullB l a (j : Int) = false → mandrelref19_Hulls.l1 (k + m + 1) l x3 x4 a (c : Int) ((j + 1 : Nat) : Int) = mandrelref19_Hulls.l0 k l (mx x3 ((c + ((if hullB l a (j : Int) = true then 1 else 0) + cntH l a (j + 1) m) : Nat) : Int)) (wrap64 (x4 + 1)) := fun h => by
      rw [h, if_neg (by decide), Nat.zero_add]
      exact i0
    by_cases c1 : ((rdS0 l (j : Int)).f0.length : Int) > 0
    · have hw : wrap64 (((rdS0 l (j : Int)).f0.length : Int) - 1) = (((rdS0 l (j : Int)).f0.length - 1 : Nat) : Int) := (wrap_sm (by omega) (by omega)).trans (by omega)
      rw [if_pos c1, if_pos c1, show rd_T37 l (j : Int) = rdS0 l (j : Int) from rfl, hw]
      by_cases c2 : fst0 (rdS0 l (j : Int)) ≤ a
      · rw [if_pos (show (rd_T66 (rdS0 l (j : Int)).f0 0).f0 ≤ a from c2), if_pos (by omega), if_pos (by omega)]
        by_cases c3 : a ≤ end0 (rdS0 l (j : Int))
        · rw [if_pos (show a ≤ (rd_T66 (rdS0 l (j : Int)).f0 (((rdS0 l (j : Int)).f0.length - 1 : Nat) : Int)).f1 from c3)]
          have h : hullB l a (j : Int) = true := by
            unfold hullB
            rw [decide_eq_true (by omega), decide_eq_true c2, decide_eq_true c3]
            rfl
          rw [h, if_pos rfl, show c + (1 + cntH l a (j + 1) m) = c + 1 + cntH l a (j + 1) m by omega]
          exact i1
        · rw [if_neg (show ¬ (a ≤ (rd_T66 (rdS0 l (j : Int)).f0 (((rdS0 l (j : Int)).f0.length - 1 : Nat) : Int)).f1) from c3)]
          exact no (by unfold hullB; rw [decide_eq_false c3, Bool.and_false])
      · rw [if_neg (show ¬ ((rd_T66 (rdS0 l (j : Int)).f0 0).f0 ≤ a) from c2)]
        exact no (by unfold hullB; rw [decide_eq_false c2, Bool.and_false, Bool.false_and])
    · rw [if_neg c1]
      exact no (by unfold hullB; rw [decide_eq_false (by omega), Bool.false_and, Bool.false_and])
theorem mx_le1 (a b : Int) : a ≤ mx a b := by
  unfold mx
  split <;> omega
theorem mx_le2 (a b : Int) : b ≤ mx a b := by
  unfold mx
  split <;> omega
theorem hulls0 {l : List Sp0} (hl : l.length ≤ 60) (hL : ∀ s ∈ l, s.f0.length ≤ 400) : ∀ (m i k : Nat) (x3 : Int), i + m = l.length → m * 100 + 1 ≤ k → ∃ h, mandrelref19_Hulls.l0 k l x3 (i : Int) = some h ∧ x3 ≤ h ∧ ∀ j : Nat, i ≤ j → j < l.length → (rdS0 l (j : Int)).f0.length ≠ 0 → ((cntH l (fst0 (rdS0 l (j : Int))) 0 l.length : Nat) : Int) ≤ h
  | 0, i, k, x3, hi, hk => by
    obtain ⟨k, rfl⟩ : ∃ k', k = k' + 1 := ⟨k - 1, by omega⟩
    refine ⟨x3, by rw [mandrelref19_Hulls.l0, if_neg (by omega)], Int.le_refl _, fun j h1 h2 => by omega⟩
  | m + 1, i, k, x3, hi, hk => by
    obtain ⟨k, rfl⟩ : ∃ k', k = k' + l.length + 2 := ⟨k - l.length - 2, by omega⟩
    have hil : i < l.length := by omega
    rw [show k + l.length + 2 = (k + l.length + 1) + 1 by omega, mandrelref19_Hulls.l0, if_pos (by omega), if_pos (by omega)]
    by_cases c1 : ((rdS0 l (i : Int)).f0.length : Int) = 0
    · obtain ⟨h, e1, e2, e3⟩ := hulls0 hl hL m (i + 1) (k + l.length + 1) x3 (by omega) (by omega)
      refine ⟨h, by rw [if_pos c1, wrap_sm (x := (i : Int) + 1) (by omega) (by omega), cast_succ]; exact e1, e2, fun j h1 h2 h3 => e3 j ?_ h2 h3⟩
      by_cases e : j = i
      · rw [e] at h3; omega
      · omega
    · obtain ⟨h, e1, e2, e3⟩ := hulls0 hl hL m (i + 1) k (mx x3 ((0 + cntH l (fst0 (rdS0 l (i : Int))) 0 l.length : Nat) : Int)) (by omega) (by omega)
      refine ⟨h, ?_, Int.le_trans (mx_le1 _ _) e2, fun j h1 h2 h3 => ?_⟩
      · have hh := hulls1 hl hL x3 (i : Int) (fst0 (rdS0 l (i : Int))) l.length 0 k 0 (by omega) (by omega)
        rw [if_neg c1, if_pos (show 0 < ((rd_T37 l (i : Int)).f0.length : Int) from by have : ((rdS0 l (i : Int)).f0.length : Int) ≠ 0 := c1; show 0 < ((rdS0 l (i : Int)).f0.length : Int); omega)]
        refine Eq.trans hh ?_
        rw [wrap_sm (x := (i : Int) + 1) (by omega) (by omega), cast_succ]
        exact e1
      · by_cases e : j = i
        · rw [e]
          have := mx_le2 x3 ((0 + cntH l (fst0 (rdS0 l (i : Int))) 0 l.length : Nat) : Int)
          omega
        · exact e3 j (by omega) h2 h3
/-- The hulls that the document counts: no more than k, then few. -/
theorem few_of {l : List Sp0} {h : Int} (hh : ∀ j : Nat, j < l.length → (rdS0 l (j : Int)).f0.length ≠ 0 → ((cntH l (fst0 (rdS0 l (j : Int))) 0 l.length : Nat) : Int) ≤ h) {k : Nat} (hk : h ≤ (k : Int)) : Few (l.map toS) k := by
  have hfst : ∀ s : Sp0, s.f0.length ≠ 0 → (rdR (toS s).f0 0).f0 = fst0 s := fun s hs => by
    show (rdR (s.f0.map toR) ((0 : Nat) : Int)).f0 = _
    rw [own_rdR (by omega)]
    rfl
  have hend : ∀ s : Sp0, s.f0.length ≠ 0 → endS (toS s) = end0 s := fun s hs => by
    unfold endS
    show (rdR (s.f0.map toR) (((s.f0.map toR).length - 1 : Nat) : Int)).f1 = _
    rw [List.length_map, own_rdR (by omega)]
    rfl
  have hlen : ∀ s : Sp0, (toS s).f0.length = s.f0.length := fun s => List.length_map _
  intro x hx hne ys hn hy
  obtain ⟨i, rfl⟩ : ∃ i : Nat, x = (i : Int) := ⟨x.toNat, by have := hx.1; omega⟩
  have hil : i < l.length := by have := hx.2; rw [List.length_map] at this; omega
  rw [own_rd hil, hlen] at hne
  have hf : frmS (l.map toS) (i : Int) = fst0 (rdS0 l (i : Int)) := by
    unfold frmS
    rw [own_rd hil]
    exact hfst _ hne
  have h1 := hh i hil hne
  have h2 := nodup_le ys ((upto 0 l.length).filter (hullB l (fst0 (rdS0 l (i : Int))))) hn (fun y hym => by
    obtain ⟨g1, g2, g3, g4⟩ := hy y hym
    obtain ⟨j, rfl⟩ : ∃ j : Nat, y = (j : Int) := ⟨y.toNat, by have := g1.1; omega⟩
    have hjl : j < l.length := by have := g1.2; rw [List.length_map] at this; omega
    rw [hf] at g3 g4
    rw [own_rd hjl] at g2 g4
    rw [hlen] at g2
    rw [hend _ g2] at g4
    have g5 : frmS (l.map toS) (j : Int) = fst0 (rdS0 l (j : Int)) := by
      unfold frmS
      rw [own_rd hjl]
      exact hfst _ g2
    rw [g5] at g3
    refine List.mem_filter.2 ⟨mem_upto.2 ⟨by omega, by omega⟩, ?_⟩
    unfold hullB
    rw [decide_eq_true g2, decide_eq_true g3, decide_eq_true g4]
    rfl)
  have h3 : ys.length ≤ cntH l (fst0 (rdS0 l (i : Int))) 0 l.length := h2
  omega
end Go.Proofs.YtolhijnkgkfjgaaDoor.XC
