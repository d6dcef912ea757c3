/- The sections of bytes, as the document has them: the same. No program. -/
import Derived.Test.YtljmikfpknmnnaaDoorXSx8
import Derived.Test.YtljmikfpknmnnaaDoorLebRef
import Derived.Test.YtljmikfpknmnnaaDoorSplit
import Derived.Test.YtljmikfpknmnnaaDoorTextRef
namespace Go.Proofs.YtljmikfpknmnnaaDoor.Sect
set_option linter.unusedVariables false
set_option maxRecDepth 20000
open Go Go.RowKit Go.Proofs.YtljmikfpknmnnaaDoor.M Go.Proofs.YtljmikfpknmnnaaDoor.Leb Go.Proofs.YtljmikfpknmnnaaDoor.XS Go.Proofs.YtljmikfpknmnnaaDoorW.PrintWords Go.Proofs.YtljmikfpknmnnaaDoorW.PrintLast Go.Proofs.YtljmikfpknmnnaaDoorW.PrintMore
def c52 (s : S53) : S52 := ⟨s.f0, s.f1, s.f2⟩
def told3 (r : List S53 × Int × Option Int) : List S52 × Int × Int := (r.1.map c52, r.2.1, r.2.2.getD 0)
theorem rd52 (out : List S53) (i : Nat) : (rd_T52 (out.map c52) (i : Int)).f0 = (rd_T53 out (i : Int)).f0 := by
  unfold rd_T52 rd_T53
  rw [Int.toNat_natCast, List.getD_eq_getElem?_getD, List.getD_eq_getElem?_getD, List.getElem?_map]
  rcases out[i]? with _ | s
  · rfl
  · rfl
/-- Some section from place i on has an ID of at least id. -/
def later (out : List S53) (id : Int) (i : Nat) : Prop := ∃ j, i ≤ j ∧ j < out.length ∧ (rd_T53 out (j : Int)).f0 ≥ id
theorem ref_l2 (b : List Int) (out : List S53) (hout : out.length < 3518437208883) (a : Nat) (id : Int) (R : Option (List S52 × Int × Int)) (K0 : Nat) (hR : ∀ k', K0 ≤ k' → ∀ i : Int, mandrelref06_Split.j3 k' b (out.map c52) (a : Int) id i false = R) (G : Prop) [Decidable G] :
    ∀ (d i k : Nat), out.length - i = d → i ≤ out.length → 2 * d + 2 + K0 ≤ k → (G ↔ id > 0 ∧ later out id i) → mandrelref06_Split.l2 k b (out.map c52) (a : Int) id (i : Int) = if G then some ([], (a : Int), 6) else R := by
  intro d
  induction d with
  | zero =>
    intro i k hd hi hk hG
    obtain ⟨k, rfl⟩ : ∃ m, k = m + 1 := ⟨k - 1, by omega⟩
    have hng : ¬ G := fun g => by obtain ⟨_, j, h1, h2, _⟩ := hG.1 g; omega
    rw [mandrelref06_Split.l2, if_neg (by rw [List.length_map]; omega), hR k (by omega), if_neg hng]
  | succ d ih =>
    intro i k hd hi hk hG
    obtain ⟨k, rfl⟩ : ∃ m, k = m + 1 + 1 := ⟨k - 2, by omega⟩
    rw [mandrelref06_Split.l2, if_pos (by rw [List.length_map]; omega)]
    by_cases h0 : id > 0
    · rw [decide_eq_true h0, mandrelref06_Split.j3, if_pos rfl, if_pos (by omega), if_pos (by rw [List.length_map]; omega), rd52]
      by_cases h1 : (rd_T53 out (i : Int)).f0 ≥ id
      · rw [if_pos h1, if_pos (hG.2 ⟨h0, i, Nat.le_refl _, by omega, h1⟩)]
      · rw [if_neg h1, w64_in (by omega) (by omega)]
        refine ih (i + 1) k (by omega) (by omega) (by omega) ⟨fun g => ?_, fun g => ?_⟩
        · obtain ⟨_, j, h2, h3, h4⟩ := hG.1 g
          refine ⟨h0, j, ?_, h3, h4⟩
          rcases Nat.lt_or_ge i j with h5 | h5
          · exact h5
          · have : j = i := by omega
            subst this
            exact absurd h4 h1
        · obtain ⟨_, j, h2, h3, h4⟩ := g
          exact hG.2 ⟨h0, j, by omega, h3, h4⟩
    · rw [decide_eq_false h0, hR (k + 1) (by omega), if_neg (fun g => h0 (hG.1 g).1)]
def Tops (out : List S53) (top : Int) : Prop := (∀ s ∈ out, s.f0 ≤ top) ∧ (top = 0 ∨ ∃ s ∈ out, s.f0 = top)
theorem later_top {out : List S53} {top id : Int} (h : Tops out top) (h0 : id > 0) : later out id 0 ↔ id ≤ top := by
  constructor
  · rintro ⟨j, _, h2, h3⟩
    have hm : rd_T53 out (j : Int) ∈ out := by
      unfold rd_T53
      rw [Int.toNat_natCast, List.getD_eq_getElem?_getD, List.getElem?_eq_getElem h2]
      exact List.getElem_mem h2
    have := h.1 _ hm
    omega
  · intro h1
    rcases h.2 with h2 | ⟨s, hs, h2⟩
    · omega
    · obtain ⟨j, hj, hj2⟩ := List.getElem_of_mem hs
      refine ⟨j, by omega, hj, ?_⟩
      unfold rd_T53
      rw [Int.toNat_natCast, List.getD_eq_getElem?_getD, List.getElem?_eq_getElem hj]
      simp only [Option.getD_some]
      rw [hj2]
      omega
theorem Tops.snoc {out : List S53} {top : Int} (h : Tops out top) (s : S53) (h0 : 0 ≤ s.f0) (ht : 0 ≤ top) : Tops (out ++ [s]) (mx top s.f0) := by
  unfold mx
  constructor
  · intro x hx
    rcases List.mem_append.1 hx with hx | hx
    · have := h.1 x hx
      split <;> omega
    · rw [List.mem_singleton.1 hx]
      split <;> omega
  · split
    · exact .inr ⟨s, by simp, rfl⟩
    · rcases h.2 with h2 | ⟨x, hx, h2⟩
      · exact .inl h2
      · exact .inr ⟨x, by simp [hx], h2⟩
theorem ref_l1 (b : List Int) (hb : BB b) (hl : b.length < 1099511627776) : ∀ (d : Nat) (out : List S53) (top : Int) (a k : Nat), b.length - a ≤ d → a ≤ b.length → (2 * b.length + 10) * d + 9 * b.length + 300 ≤ k → out.length + d ≤ b.length → 0 ≤ top → Tops out top →
    mandrelref06_Split.l1 k b (out.map c52) (a : Int) = some (told3 (splitS d b out top a)) := by
  intro d
  induction d with
  | zero =>
    intro out top a k hd ha hk ho ht hT
    obtain ⟨k, rfl⟩ : ∃ m, k = m + 1 := ⟨k - 1, by omega⟩
    rw [mandrelref06_Split.l1, if_neg (by omega), splitS]
    have : (a : Int) = b.length := by omega
    rw [this]; rfl
  | succ d ih =>
    intro out top a k hd ha hk ho ht hT
    rw [Nat.mul_succ] at hk
    obtain ⟨k, rfl⟩ : ∃ m, k = m + 1 := ⟨k - 1, by omega⟩
    rw [splitS, mandrelref06_Split.l1]
    by_cases h : a < b.length
    · have hid := hb.getD a h
      have hr : rd b (a : Int) = b.getD a 0 := by simp [rd]
      rw [if_pos (by omega), if_pos (by omega), if_pos h, hr]
      by_cases c : b.getD a 0 > 11
      · rw [if_pos c, if_pos (.inl c)]; rfl
      · rw [if_neg c]
        have hR : ∀ k', (2 * b.length + 10) * d + 9 * b.length + 302 ≤ k' → ∀ i : Int, mandrelref06_Split.j3 k' b (out.map c52) (a : Int) (b.getD a 0) i false = some (told3 (match takeUOf (b.drop (a + 1)) 32 with
          | (_, _, some e) => ([], (a : Int) + 1, some e)
          | (v, n, none) =>
            if v > b.length - (a + 1 + n) then ([], (a : Int) + 1, some 4)
            else match (if b.getD a 0 = 0 then nameE ((b.take (a + 1 + n.toNat + v.toNat)).drop (a + 1 + n.toNat)) else none) with
              | some e => ([], (a : Int) + 1 + n, some e)
              | none => splitS d b (out ++ [⟨b.getD a 0, (a : Int) + 1 + n, (b.take (a + 1 + n.toNat + v.toNat)).drop (a + 1 + n.toNat)⟩]) (mx top (b.getD a 0)) (a + 1 + n.toNat + v.toNat))) := by
          intro k' hk' i
          obtain ⟨k', rfl⟩ : ∃ m, k' = m + 1 + 1 := ⟨k' - 2, by omega⟩
          rw [mandrelref06_Split.j3, if_neg (by decide), addW1 a (by omega), if_pos (by omega), if_pos (by omega), Int.toNat_natCast]
          rw [show (32 : Int) = ((32 : Nat) : Int) from rfl, refU_take (b.drop (a + 1)) 32 (k' + 1) (by omega) (by omega) (hb.drop _) (by omega), Option.bind_some]
          rcases takeU32 (b.drop (a + 1)) with ⟨e, he, he2⟩ | ⟨V, N, he, h1, h2, h3, h4⟩
          · rw [he, show told ((0 : Int), (0 : Int), some e) = ((0 : Int), (0 : Int), e) from rfl]
            simp only []
            rw [if_neg (show ¬ e = 0 by omega)]; rfl
          · rw [List.length_drop] at h2
            rw [he, show told ((V : Int), (N : Int), none) = ((V : Int), (N : Int), (0 : Int)) from rfl]
            simp only []
            have hN : a + 1 + N ≤ b.length := by omega
            have e4 : (a : Int) + 1 + (N : Int) = ((a + 1 + N : Nat) : Int) := by omega
            rw [if_pos trivial, addW2 (a + 1) N (by omega) (by omega), lenW2 b.length (a + 1 + N) hN hl, idW V (by omega), idU b.length hl, e4]
            have T : mandrelref06_Split.j4 (k' + 1) b (out.map c52) (a : Int) (b.getD a 0) (V : Int) ((a + 1 + N : Nat) : Int) true = some ([], ((a + 1 : Nat) : Int), 4) := by rw [mandrelref06_Split.j4, if_pos rfl, addW1 a (by omega)]
            by_cases c2 : V + (a + 1 + N) > b.length
            · rw [if_pos (c := (V : Int) > (b.length : Int) - ((a + 1 + N : Nat) : Int)) (by omega)]
              by_cases c3 : (V : Int) > (b.length : Int)
              · rw [if_pos c3, T]; rfl
              · rw [if_neg c3, decide_eq_true (by omega), T]; rfl
            · rw [if_neg (c := (V : Int) > (b.length : Int) - ((a + 1 + N : Nat) : Int)) (by omega), if_neg (by omega), decide_eq_false (by omega)]
              rw [mandrelref06_Split.j4, if_neg (by decide), idW V (by omega), addW2 (a + 1 + N) V (by omega) h4, if_pos (by omega), if_pos (by omega), if_pos (by omega), Option.bind_some, Int.toNat_natCast, Int.toNat_natCast, Int.toNat_natCast, Int.toNat_natCast]
              have hsl : ((b.take (a + 1 + N + V)).drop (a + 1 + N)).length ≤ b.length := by simp; omega
              have hsb : BB ((b.take (a + 1 + N + V)).drop (a + 1 + N)) := (hb.take _).drop _
              have ih2 := ih (out ++ [⟨b.getD a 0, ((a + 1 + N : Nat) : Int), (b.take (a + 1 + N + V)).drop (a + 1 + N)⟩]) (mx top (b.getD a 0)) (a + 1 + N + V) k' (by omega) (by omega) (by omega) (by simp; omega) (by unfold mx; split <;> omega) (hT.snoc _ hid.1 ht)
              rw [List.map_append] at ih2
              have ih3 : mandrelref06_Split.l1 k' b (out.map c52 ++ [(⟨b.getD a 0, ((a + 1 + N : Nat) : Int), (b.take (a + 1 + N + V)).drop (a + 1 + N)⟩ : S52)]) ((a + 1 + N + V : Nat) : Int) = _ := ih2
              generalize (b.take (a + 1 + N + V)).drop (a + 1 + N) = s at *
              by_cases z : b.getD a 0 = 0
              · rw [if_pos z, if_pos z, show (32 : Int) = ((32 : Nat) : Int) from rfl, refU_take s 32 k' (by omega) (by omega) hsb (by omega), Option.bind_some]
                unfold nameE
                rcases takeU32 s with ⟨e, he, he2⟩ | ⟨V2, N2, he, g1, g2, g3, g4⟩
                · rw [he, show told ((0 : Int), (0 : Int), some e) = ((0 : Int), (0 : Int), e) from rfl]
                  simp only []
                  rw [if_neg (show ¬ e = 0 by omega)]; rfl
                · rw [he, show told ((V2 : Int), (N2 : Int), none) = ((V2 : Int), (N2 : Int), (0 : Int)) from rfl]
                  simp only []
                  rw [if_pos trivial, idW V2 (by omega), lenW2 s.length N2 g2 (by omega), addW2 N2 V2 (by omega) g4, idU s.length (by omega)]
                  by_cases c3 : V2 + N2 > s.length
                  · rw [if_pos (c := (V2 : Int) > (s.length : Int) - (N2 : Int)) (by omega)]
                    by_cases c4 : (V2 : Int) > (s.length : Int)
                    · rw [if_pos c4]; rfl
                    · rw [if_neg c4, if_pos (by omega)]; rfl
                  · rw [if_neg (c := (V2 : Int) > (s.length : Int) - (N2 : Int)) (by omega), if_neg (by omega), if_neg (by omega), if_pos (by omega), if_pos (by omega), if_pos (by omega), Int.toNat_natCast, Int.toNat_natCast]
                    rw [show ((N2 : Int) + (V2 : Int)).toNat = N2 + V2 by omega]
                    unfold mandrelref06_Text.f
                    have ht := ref_text ((s.take (N2 + V2)).drop N2) (by simp; omega) ((hsb.take _).drop _) s.length 0 k' (by simp; omega) (by omega) (by omega)
                    rw [show ((0 : Nat) : Int) = 0 from rfl, List.drop_zero] at ht
                    rw [ht, Option.bind_some]
                    rcases textOf ((s.take (N2 + V2)).drop N2) with _ | _
                    · rfl
                    · simp only [if_true]
                      rw [if_pos (by rw [List.length_map]; omega)]
                      exact ih3
              · rw [if_neg z, if_neg z, if_pos (by rw [List.length_map]; omega)]
                exact ih3
        have hG : ((b.getD a 0 > 0 ∧ b.getD a 0 ≤ top) ↔ b.getD a 0 > 0 ∧ later out (b.getD a 0) 0) := by
          constructor
          · rintro ⟨g1, g2⟩
            exact ⟨g1, (later_top hT g1).2 g2⟩
          · rintro ⟨g1, g2⟩
            exact ⟨g1, (later_top hT g1).1 g2⟩
        have hh := ref_l2 b out (by omega) a (b.getD a 0) _ _ hR (b.getD a 0 > 0 ∧ b.getD a 0 ≤ top) out.length 0 k (by omega) (by omega) (by omega) hG
        rw [show ((0 : Nat) : Int) = 0 from rfl] at hh
        rw [hh]
        by_cases g : b.getD a 0 > 0 ∧ b.getD a 0 ≤ top
        · rw [if_pos g, if_pos (.inr g)]; rfl
        · rw [if_neg g, if_neg (by omega)]; rfl
    · rw [if_neg (by omega), if_neg h]
      have : (a : Int) = b.length := by omega
      rw [this]; rfl
theorem ref_head (b : List Int) (hl : b.length < 1099511627776) : ∀ (d i k : Nat), 8 - i = d → i ≤ 8 → i ≤ b.length → d + 1 + 0 ≤ k →
    mandrelref06_Split.l0 k b [0, 97, 115, 109, 1, 0, 0, 0] (i : Int) = match hdErr (([0, 97, 115, 109, 1, 0, 0, 0] : List Int).drop i) (b.drop i) i with | some (j, e) => some ([], j, e) | none => mandrelref06_Split.l1 (k - d - 1) b [] 8 := by
  intro d
  induction d with
  | zero =>
    intro i k hd hi hib hk
    obtain ⟨k, rfl⟩ : ∃ m, k = m + 1 := ⟨k - 1, by omega⟩
    obtain rfl : i = 8 := by omega
    rw [mandrelref06_Split.l0, if_neg (by omega)]
    rfl
  | succ d ih =>
    intro i k hd hi hib hk
    obtain ⟨k, rfl⟩ : ∃ m, k = m + 1 := ⟨k - 1, by omega⟩
    have hi8 : i < ([0, 97, 115, 109, 1, 0, 0, 0] : List Int).length := by show i < 8; omega
    rw [List.drop_eq_getElem_cons hi8, mandrelref06_Split.l0, if_pos (by omega)]
    by_cases h : i = b.length
    · rw [if_pos (by omega), List.drop_eq_nil_of_le (show b.length ≤ i by omega)]
      rfl
    · have hib2 : i < b.length := by omega
      have hr : rd b (i : Int) = b[i] := by
        show b.getD (i : Int).toNat 0 = b[i]
        rw [Int.toNat_natCast, List.getD_eq_getElem?_getD, List.getElem?_eq_getElem hib2]; rfl
      have hr2 : rd [0, 97, 115, 109, 1, 0, 0, 0] (i : Int) = ([0, 97, 115, 109, 1, 0, 0, 0] : List Int)[i] := by
        show ([0, 97, 115, 109, 1, 0, 0, 0] : List Int).getD (i : Int).toNat 0 = _
        rw [Int.toNat_natCast, List.getD_eq_getElem?_getD, List.getElem?_eq_getElem hi8]; rfl
      rw [if_neg (by omega), if_pos (by omega), if_pos (by omega), if_pos (by show (i : Int) < ((8 : Nat) : Int); omega), hr, hr2, List.drop_eq_getElem_cons hib2, hdErr]
      by_cases e : b[i] = ([0, 97, 115, 109, 1, 0, 0, 0] : List Int)[i]
      · rw [if_pos e, if_pos e, w64_in (by omega) (by omega)]
        have := ih (i + 1) k (by omega) (by omega) (by omega) (by omega)
        rw [show k + 1 - (d + 1) - 1 = k - d - 1 by omega]
        exact this
      · rw [if_neg e, if_neg e]
theorem ref_split (b : List Int) (hb : BB b) (hl : b.length < 1099511627776) (k : Nat) (hk : (2 * b.length + 10) * b.length + 9 * b.length + 320 ≤ k) : mandrelref06_Split.f k b = some (told3 (splitOf b)) := by
  unfold mandrelref06_Split.f splitOf
  have h := ref_head b hl 8 0 k (by omega) (by omega) (by omega) (by omega)
  rw [show ((0 : Nat) : Int) = 0 from rfl, List.drop_zero, List.drop_zero] at h
  rw [h]
  rcases hh : hdErr [0, 97, 115, 109, 1, 0, 0, 0] b 0 with _ | ⟨i, e⟩
  · have := hdErr_len b hh
    simp only []
    exact ref_l1 b hb hl b.length [] 0 8 (k - 8 - 1) (by omega) this (by omega) (by simp) (by omega) ⟨by simp, .inl rfl⟩
  · rfl
end Go.Proofs.YtljmikfpknmnnaaDoor.Sect
