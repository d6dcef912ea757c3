/- What the planner's moves do, one after another: what they do all at once. No program. -/
import Derived.Test.YtaklfdlcedlmfaaChain
namespace Go.Proofs.Ytaklfdlcedlmfaa.XM
open Go.RowKit Mo
set_option linter.unusedVariables false
set_option linter.unusedSimpArgs false
/-- Moves, one after another, in places without end. -/
def app (l : List Mv) (m : Int → Int) : Int → Int := l.foldl (fun m (mv : Mv) => fun p => if p = mv.f0 then m mv.f1 else m p) m
theorem app_append (a b : List Mv) (m : Int → Int) : app (a ++ b) m = app b (app a m) := by unfold app; rw [List.foldl_append]
theorem app_one (x y : Int) (m : Int → Int) (p : Int) : app [⟨x, y⟩] m p = if p = x then m y else m p := rfl
def cnt (S : Int → Option Int) (R : List Int) (z : Int) : Nat := (R.filter fun y => S y == some z).length
theorem cnt_pos {S : Int → Option Int} {R : List Int} {y z : Int} (hy : y ∈ R) (h : S y = some z) : 0 < cnt S R z :=
  List.length_pos_of_mem (List.mem_filter.2 ⟨hy, by rw [h]; simp⟩)
theorem cnt_ex {S : Int → Option Int} {R : List Int} {z : Int} (h : 0 < cnt S R z) : ∃ y ∈ R, S y = some z := by
  obtain ⟨y, hy⟩ := List.exists_mem_of_length_pos h
  rw [List.mem_filter] at hy
  exact ⟨y, hy.1, by simpa using hy.2⟩
theorem cnt_erase {S : Int → Option Int} {R : List Int} {a x z : Int} (ha : a ∈ R) (h : S a = some x) : cnt S R z = cnt S (R.erase a) z + if z = x then 1 else 0 := by
  unfold cnt
  rw [((List.perm_cons_erase ha).filter _).length_eq, List.filter_cons]
  by_cases e : z = x
  · subst e
    simp [h]
  · have e2 : ¬ x = z := fun h => e h.symm
    simp [h, e, e2]
structure PInv (S : Int → Option Int) (K : List Int) (v : Int → Int) (R : List Int) (f u : Int → Option Int) (out : List Mv) : Prop where
  nd : R.Nodup
  sub : ∀ x ∈ R, x ∈ K
  hf : ∀ x, f x = if x ∈ R then S x else none
  hu : ∀ x, (u x).getD 0 = (cnt S R x : Int)
  val : ∀ p, app out v p = if p ∈ K ∧ p ∉ R then v ((S p).getD 0) else v p
  len : out.length + R.length = K.length
  mem : ∀ m ∈ out, m.f0 ∈ K ∧ S m.f0 = some m.f1
  ring : ∀ z, OnRing S z → z ∈ R
  old : ∀ x ∈ K, x ∉ R → cnt S R x = 0
  hasK : ∀ x ∈ K, (S x).isSome = true
theorem PInv.mem_has {S : Int → Option Int} {K R : List Int} {v : Int → Int} {f u : Int → Option Int} {out : List Mv} (h : PInv S K v R f u out) (z : Int) (hz : z ∈ R) : (S z).isSome = true := h.hasK z (h.sub z hz)
theorem PInv.step {S : Int → Option Int} {K R : List Int} {v : Int → Int} {f u : Int → Option Int} {out : List Mv} {a x : Int} (h : PInv S K v R f u out) (ha : f a = some x) (hua : ¬ (u a).getD 0 > 0) :
    a ∈ R ∧ S a = some x ∧ cnt S R a = 0 ∧ PInv S K v (R.erase a) (up f a none) (up u x (some ((u x).getD 0 - 1))) (out ++ [⟨a, x⟩]) := by
  have haR : a ∈ R := by
    by_cases e : a ∈ R
    · exact e
    · rw [h.hf a, if_neg e] at ha; cases ha
  have hS : S a = some x := by rw [h.hf a, if_pos haR] at ha; exact ha
  have hc : cnt S R a = 0 := by rw [h.hu a] at hua; omega
  have hmem : ∀ y, y ∈ R.erase a ↔ y ≠ a ∧ y ∈ R := fun y => h.nd.mem_erase_iff
  refine ⟨haR, hS, hc, h.nd.erase a, fun y hy => h.sub y ((hmem y).1 hy).2, fun y => ?_, fun y => ?_, fun p => ?_, ?_, fun m hm => ?_, fun z hz => ?_, fun y hy hyR => ?_, h.hasK⟩
  · unfold Mo.up
    by_cases e : y = a
    · rw [if_pos e, if_neg (fun hm => ((hmem y).1 hm).1 e)]
    · rw [if_neg e, h.hf y]
      by_cases hy : y ∈ R
      · rw [if_pos hy, if_pos ((hmem y).2 ⟨e, hy⟩)]
      · rw [if_neg hy, if_neg (fun hm => hy ((hmem y).1 hm).2)]
  · unfold Mo.up
    have h1 := cnt_erase (z := y) haR hS
    have h2 := h.hu y
    by_cases e : y = x
    · subst e
      rw [if_pos rfl] at h1
      rw [if_pos rfl, Option.getD_some, h2, h1]
      omega
    · rw [if_neg e] at h1
      rw [if_neg e, h2, h1]
      omega
  · rw [app_append, app_one]
    by_cases e : p = a
    · subst e
      rw [if_pos rfl, if_pos ⟨h.sub p haR, fun hm => ((hmem p).1 hm).1 rfl⟩, h.val x, hS]
      rw [if_neg]
      · rfl
      · rintro ⟨hx1, hx2⟩
        -- x is written already: then none was to be taken from it
        by_cases hxR : x ∈ R
        · exact hx2 hxR
        · have h3 := cnt_pos haR hS
          have h4 := h.old x hx1 hxR
          omega
    · rw [if_neg e, h.val p]
      by_cases hp : p ∈ K ∧ p ∉ R
      · rw [if_pos hp, if_pos ⟨hp.1, fun hm => hp.2 ((hmem p).1 hm).2⟩]
      · rw [if_neg hp, if_neg (fun h2 => hp ⟨h2.1, fun hm => h2.2 ((hmem p).2 ⟨e, hm⟩)⟩)]
  · have h1 := List.length_erase_of_mem haR
    have h2 := List.length_pos_of_mem haR
    have h3 := h.len
    rw [List.length_append, List.length_singleton]
    omega
  · rw [List.mem_append, List.mem_singleton] at hm
    rcases hm with hm | rfl
    · exact h.mem m hm
    · exact ⟨h.sub a haR, hS⟩
  · refine (hmem z).2 ⟨fun e => ?_, h.ring z hz⟩
    obtain ⟨y, hy, e2⟩ := hz.prev
    have := cnt_pos (h.ring y hy) e2
    rw [e] at this
    omega
  · have h1 := cnt_erase (z := y) haR hS
    by_cases e : y = a
    · subst e
      omega
    · have h2 := h.old y hy (fun hm => hyR ((hmem y).2 ⟨e, hm⟩))
      omega
theorem doF_go (k : Nat) (f u : Int → Option Int) (out : List Mv) (a x : Int) (ha : f a = some x) (hu : ¬ (u a).getD 0 > 0) : doF (k + 1) f u out a = doF k (up f a none) (up u x (some ((u x).getD 0 - 1))) (out ++ [⟨a, x⟩]) x := by
  rw [doF, ha]
  simp only []
  rw [if_neg hu]
theorem doF_inv {S : Int → Option Int} {K : List Int} {v : Int → Int} (P : Int → Prop) : ∀ (k : Nat) (R : List Int) (f u : Int → Option Int) (out : List Mv) (a : Int), PInv S K v R f u out → R.length < k → (∀ z ∈ R, cnt S R z = 0 → z = a ∨ P z) →
    ∃ R', PInv S K v R' (doF k f u out a).1 (doF k f u out a).2.1 (doF k f u out a).2.2 ∧ ∀ z ∈ R', cnt S R' z = 0 → P z
  | 0, _, _, _, _, _, _, hk, _ => by omega
  | k + 1, R, f, u, out, a, h, hk, hP => by
    cases ha : f a with
    | none =>
      rw [doF_stop _ _ _ _ _ ha]
      refine ⟨R, h, fun z hz hc => ?_⟩
      rcases hP z hz hc with rfl | hp
      · rw [h.hf z, if_pos hz] at ha
        have := (h.mem_has z hz)
        rw [ha] at this
        cases this
      · exact hp
    | some x =>
      by_cases hu : (u a).getD 0 > 0
      · rw [doF_wait _ _ _ _ _ hu]
        refine ⟨R, h, fun z hz hc => ?_⟩
        rcases hP z hz hc with rfl | hp
        · rw [h.hu z, hc] at hu
          exact absurd hu (by decide)
        · exact hp
      · rw [doF_go _ _ _ _ _ _ ha hu]
        obtain ⟨haR, hS, hc, h2⟩ := h.step ha hu
        have h3 := List.length_erase_of_mem haR
        have h4 := List.length_pos_of_mem haR
        refine doF_inv P k _ _ _ _ x h2 (by omega) (fun z hz hcz => ?_)
        have h5 := cnt_erase (z := z) haR hS
        obtain ⟨hza, hzR⟩ := (h.nd.mem_erase_iff).1 hz
        by_cases e : z = x
        · exact .inl e
        · rw [if_neg e] at h5
          rcases hP z hzR (by omega) with rfl | hp
          · exact absurd rfl hza
          · exact .inr hp
theorem dos_inv {S : Int → Option Int} {K : List Int} {v : Int → Int} (hK : K.length < 1000) : ∀ (l : List Mv) (R : List Int) (s : (Int → Option Int) × (Int → Option Int) × List Mv), PInv S K v R s.1 s.2.1 s.2.2 → (∀ z ∈ R, cnt S R z = 0 → z ∈ l.map (·.f0)) →
    ∃ R', PInv S K v R' (dosOf l s).1 (dosOf l s).2.1 (dosOf l s).2.2 ∧ ∀ z ∈ R', cnt S R' z ≠ 0
  | [], R, s, h, hP => ⟨R, h, fun z hz hc => by have := hP z hz hc; cases this⟩
  | m :: l, R, s, h, hP => by
    have hlen := h.len
    obtain ⟨R', h2, h3⟩ := doF_inv (fun z => z ∈ l.map (·.f0)) 1000 R s.1 s.2.1 s.2.2 m.f0 h (by omega) (fun z hz hc => by
      have := hP z hz hc
      rw [List.map_cons, List.mem_cons] at this
      exact this)
    unfold dosOf
    rw [List.foldl_cons]
    exact dos_inv hK l R' _ h2 h3
/-- All that is left when no more can be done: the rings. -/
theorem dos_all {S : Int → Option Int} {K : List Int} {v : Int → Int} (l : List Mv) (hK : K.length < 1000) (hn : K.Nodup) (hKS : ∀ x, x ∈ K ↔ (S x).isSome = true) (hl : ∀ x ∈ K, x ∈ l.map (·.f0)) :
    ∃ R, PInv S K v R (dosOf l (S, usesL S K, [])).1 (dosOf l (S, usesL S K, [])).2.1 (dosOf l (S, usesL S K, [])).2.2 ∧ ∀ z, z ∈ R ↔ OnRing S z := by
  have h0 : PInv S K v K S (usesL S K) [] := by
    refine ⟨hn, fun x hx => hx, fun x => ?_, fun x => usesL_get S K x, fun p => ?_, by simp, fun m hm => (by cases hm), fun z hz => ?_, fun x hx hx2 => absurd hx hx2, fun x hx => (hKS x).1 hx⟩
    · by_cases e : x ∈ K
      · rw [if_pos e]
      · rw [if_neg e]
        cases h : S x with
        | none => rfl
        | some y => exact absurd ((hKS x).2 (by rw [h]; rfl)) e
    · rw [if_neg (fun h => h.2 h.1)]
      rfl
    · obtain ⟨y, _, e⟩ := hz.next
      exact (hKS z).2 (by rw [e]; rfl)
  obtain ⟨R, h1, h2⟩ := dos_inv hK l K (S, usesL S K, []) h0 (fun z hz _ => hl z hz)
  refine ⟨R, h1, fun z => ⟨fun hz => ?_, h1.ring z⟩⟩
  exact onto_ring h1.nd (fun z hz => cnt_ex (by have := h2 z hz; omega)) hz
end Go.Proofs.Ytaklfdlcedlmfaa.XM
