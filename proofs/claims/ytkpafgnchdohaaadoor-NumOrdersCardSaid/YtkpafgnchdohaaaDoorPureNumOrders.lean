/- NumOrders: of two values just one of less, the same and greater holds, with a sign and without; for every input. No condition. -/
import Derived.Test.YtkpafgnchdohaaaDoorXNx3
import Derived.Test.YtkpafgnchdohaaaDoorNum
import Derived.Test.YtkpafgnchdohaaaDoorOrdersWalk
namespace Go.Proofs.YtkpafgnchdohaaaDoor.Pure
open Go Go.RowKit Go.Proofs.YtkpafgnchdohaaaDoor.Num Go.Proofs.YtkpafgnchdohaaaDoor.XN Go.Proofs.YtkpafgnchdohaaaDoorW.PrintWords Go.Proofs.YtkpafgnchdohaaaDoorW.PrintLast Go.Proofs.YtkpafgnchdohaaaDoorW.PrintMore

theorem or_mod_in {w W x : Int} (hw : Wide w W) : 0 ≤ x % W ∧ x % W < W := ⟨Int.emod_nonneg _ (by rcases hw with ⟨_, rfl⟩ | ⟨_, rfl⟩ <;> omega), Int.emod_lt_of_pos _ (by rcases hw with ⟨_, rfl⟩ | ⟨_, rfl⟩ <;> omega)⟩
theorem or_prog_cmp {w W : Int} (hw : Wide w W) (c op x y : Int) (h0 : 70 ≤ c) (h1 : c ≤ 79) (hop : op = if w = 32 then c else c + 11) (hx : 0 ≤ x ∧ x < 18446744073709551616) (hy : 0 ≤ y ∧ y < 18446744073709551616) :
    num_Two.f 200 op x y = (num_wide_holds.f w c (x % W) (y % W)).bind fun h => (num_is.f h).bind fun v => some (v, 0, none) := by
  have hlx := low_mod hw hx.1 hx.2
  have hly := low_mod hw hy.1 hy.2
  unfold num_Two.f
  rcases hw with ⟨rfl, rfl⟩ | ⟨rfl, rfl⟩
  · rw [if_pos rfl] at hop
    subst hop
    rw [if_pos (by omega), if_pos (by omega), num_Two.j0, if_pos rfl, num_Two.j2, hlx, Option.bind_some, hly, Option.bind_some, if_pos (by omega)]
  · rw [if_neg (by omega)] at hop
    subst hop
    rw [if_pos (by omega), if_neg (by omega), if_neg (by omega), num_Two.j0, if_neg (by simp), if_pos (by omega), decide_eq_true (by omega), num_Two.j1, if_pos rfl, show ((c + 11 - 80) % 256 + 69) % 256 = c by omega, num_Two.j2, hlx, Option.bind_some, hly, Option.bind_some, if_pos (by omega)]
theorem or_is (b : Bool) : num_is.f b = some (if b = true then 1 else 0) := by cases b <;> rfl
def orT (W a b : Int) (i : Nat) : Bool := match i with
  | 0 => a == b | 1 => a != b | 2 => decide (sg W a < sg W b) | 3 => decide (a < b) | 4 => decide (sg W a > sg W b) | 5 => decide (a > b) | 6 => decide (sg W a ≤ sg W b) | 7 => decide (a ≤ b) | 8 => decide (sg W a ≥ sg W b) | _ => decide (a ≥ b)
def orZ (W a b : Int) (i : Nat) : Int := if orT W a b i = true then 1 else 0
theorem or_holds {w W : Int} (i : Nat) (hi : i < 10) (a b : Int) (hw : Wide w W) (ha : 0 ≤ a ∧ a < W) (hb : 0 ≤ b ∧ b < W) : num_wide_holds.f w (70 + (i : Int)) a b = some (orT W a b i) := by
  unfold num_wide_holds.f
  rw [signed_in hw ha.1 ha.2, Option.bind_some, signed_in hw hb.1 hb.2, Option.bind_some, show (70 + (i : Int) - 70) % 256 = i by omega]
  rcases i with _ | _ | _ | _ | _ | _ | _ | _ | _ | _ | i
  · rw [if_pos (by omega)]; rfl
  · rw [if_neg (by omega), if_pos (by omega)]; rfl
  · rw [if_neg (by omega), if_neg (by omega), if_pos (by omega)]; rfl
  · rw [if_neg (by omega), if_neg (by omega), if_neg (by omega), if_pos (by omega)]; rfl
  · rw [if_neg (by omega), if_neg (by omega), if_neg (by omega), if_neg (by omega), if_pos (by omega)]; rfl
  · rw [if_neg (by omega), if_neg (by omega), if_neg (by omega), if_neg (by omega), if_neg (by omega), if_pos (by omega)]; rfl
  · rw [if_neg (by omega), if_neg (by omega), if_neg (by omega), if_neg (by omega), if_neg (by omega), if_neg (by omega), if_pos (by omega)]; rfl
  · rw [if_neg (by omega), if_neg (by omega), if_neg (by omega), if_neg (by omega), if_neg (by omega), if_neg (by omega), if_neg (by omega), if_pos (by omega)]; rfl
  · rw [if_neg (by omega), if_neg (by omega), if_neg (by omega), if_neg (by omega), if_neg (by omega), if_neg (by omega), if_neg (by omega), if_neg (by omega), if_pos (by omega)]; rfl
  · rw [if_neg (by omega), if_neg (by omega), if_neg (by omega), if_neg (by omega), if_neg (by omega), if_neg (by omega), if_neg (by omega), if_neg (by omega), if_neg (by omega)]; rfl
  · omega
theorem or_tri (a b : Int) : (decide (a < b) = true ∧ decide (a > b) = false ∧ decide (a ≤ b) = true ∧ decide (a ≥ b) = false ∧ (a == b) = false) ∨ (decide (a < b) = false ∧ decide (a > b) = false ∧ decide (a ≤ b) = true ∧ decide (a ≥ b) = true ∧ (a == b) = true) ∨ (decide (a < b) = false ∧ decide (a > b) = true ∧ decide (a ≤ b) = false ∧ decide (a ≥ b) = true ∧ (a == b) = false) := by
  rcases Int.lt_trichotomy a b with h | h | h
  · exact .inl ⟨decide_eq_true h, decide_eq_false (by omega), decide_eq_true (by omega), decide_eq_false (by omega), by simp; omega⟩
  · exact .inr (.inl ⟨decide_eq_false (by omega), decide_eq_false (by omega), decide_eq_true (by omega), decide_eq_true (by omega), by simp [h]⟩)
  · exact .inr (.inr ⟨decide_eq_false (by omega), decide_eq_true h, decide_eq_false (by omega), decide_eq_true (by omega), by simp; omega⟩)
theorem or_same {w W a b : Int} (hw : Wide w W) (ha : 0 ≤ a ∧ a < W) (hb : 0 ≤ b ∧ b < W) : (sg W a == sg W b) = (a == b) := by
  have : sg W a = sg W b ↔ a = b := by
    constructor
    · intro h
      have h1 := sg_mod hw ha.1 ha.2
      have h2 := sg_mod hw hb.1 hb.2
      rw [h] at h1
      exact h1.symm.trans h2
    · intro h; rw [h]
  by_cases h : a = b
  · rw [h]; simp
  · have h2 : ¬ sg W a = sg W b := fun e => h (this.1 e)
    rw [beq_eq_false_iff_ne.2 h, beq_eq_false_iff_ne.2 h2]
theorem or_tests {w W : Int} (hw : Wide w W) (a b : Int) (ha : 0 ≤ a ∧ a < W) (hb : 0 ≤ b ∧ b < W) :
    (IntKind.u64.wrap (orZ W a b 0 + orZ W a b 1) == 1) = true ∧ (IntKind.u64.wrap (IntKind.u64.wrap (orZ W a b 2 + orZ W a b 4) + orZ W a b 0) == 1) = true ∧ (IntKind.u64.wrap (IntKind.u64.wrap (orZ W a b 3 + orZ W a b 5) + orZ W a b 0) == 1) = true ∧
    (orZ W a b 6 == IntKind.u64.wrap (orZ W a b 2 + orZ W a b 0)) = true ∧ (orZ W a b 7 == IntKind.u64.wrap (orZ W a b 3 + orZ W a b 0)) = true ∧ (orZ W a b 8 == IntKind.u64.wrap (orZ W a b 4 + orZ W a b 0)) = true ∧ (orZ W a b 9 == IntKind.u64.wrap (orZ W a b 5 + orZ W a b 0)) = true := by
  have hs := or_same hw ha hb
  have hne : (a != b) = !(a == b) := rfl
  rw [u64w, u64w, u64w, u64w, u64w, u64w, u64w, u64w, u64w]
  rcases or_tri a b with ⟨h1, h2, h3, h4, h5⟩ | ⟨h1, h2, h3, h4, h5⟩ | ⟨h1, h2, h3, h4, h5⟩ <;> rcases or_tri (sg W a) (sg W b) with ⟨g1, g2, g3, g4, g5⟩ | ⟨g1, g2, g3, g4, g5⟩ | ⟨g1, g2, g3, g4, g5⟩
  all_goals first
    | (exfalso; rw [g5, h5] at hs; exact absurd hs (by decide))
    | (simp only [orZ, orT, hne, h1, h2, h3, h4, h5, g1, g2, g3, g4]; decide)
theorem or_01 (W a b : Int) (i : Nat) : orZ W a b i = 0 ∨ orZ W a b i = 1 := by unfold orZ; split <;> simp
theorem orders_any (a0 : Bool) (a1 a2 : Int) (w : World) (w1 : (Lit.int .u64 a1).wf = true) (w2 : (Lit.int .u64 a2).wf = true) (hLT : LaidT w) :
    Calls Tryd.prog 5 #[.bool a0, .int .u64 a1, .int .u64 a2] w fun e w' => e = .returned (.bool true) ∧ Below w.heap.size w w' := by
  have hx := wf_u64 w1
  have hy := wf_u64 w2
  cases a0 with
  | true =>
    have hw : Wide 64 18446744073709551616 := .inr ⟨rfl, rfl⟩
    obtain ⟨e1, e2, e3, e4, e5, e6, e7⟩ := or_tests hw (a1 % 18446744073709551616) (a2 % 18446744073709551616) (or_mod_in hw) (or_mod_in hw)
    refine orders_wide 200 a1 a2 (orZ 18446744073709551616 (a1 % 18446744073709551616) (a2 % 18446744073709551616)) w hLT 20 (sure 20 (by omega)) (fun i hi => ?_) (fun i _ => or_01 _ _ _ i) e1 e2 e3 e4 e5 e6 e7
    rw [or_prog_cmp hw (70 + (i : Int)) (81 + (i : Int)) a1 a2 (by omega) (by omega) (by rw [if_neg (by omega)]; omega) hx hy, or_holds i hi _ _ hw (or_mod_in hw) (or_mod_in hw), Option.bind_some, or_is, Option.bind_some]
    rfl
  | false =>
    have hw : Wide 32 4294967296 := .inl ⟨rfl, rfl⟩
    obtain ⟨e1, e2, e3, e4, e5, e6, e7⟩ := or_tests hw (a1 % 4294967296) (a2 % 4294967296) (or_mod_in hw) (or_mod_in hw)
    refine orders_narrow 200 a1 a2 (orZ 4294967296 (a1 % 4294967296) (a2 % 4294967296)) w hLT 20 (sure 20 (by omega)) (fun i hi => ?_) (fun i _ => or_01 _ _ _ i) e1 e2 e3 e4 e5 e6 e7
    rw [or_prog_cmp hw (70 + (i : Int)) (70 + (i : Int)) a1 a2 (by omega) (by omega) (by rw [if_pos rfl]) hx hy, or_holds i hi _ _ hw (or_mod_in hw) (or_mod_in hw), Option.bind_some, or_is, Option.bind_some]
    rfl
end Go.Proofs.YtkpafgnchdohaaaDoor.Pure
