/- The sections of bytes, or where they are wrong, and how: the program's answer as one plain function. No program. -/
import Derived.Test.YtljmikfpknmnnaaDoorXSx5
import Derived.Test.YtljmikfpknmnnaaDoorXSx6
import Derived.Test.YtljmikfpknmnnaaDoorLeb
import Derived.Test.YtljmikfpknmnnaaDoorText
namespace Go.Proofs.YtljmikfpknmnnaaDoor.Sect
open Go Go.RowKit Go.Proofs.YtljmikfpknmnnaaDoor.M Go.Proofs.YtljmikfpknmnnaaDoor.Leb Go.Proofs.YtljmikfpknmnnaaDoor.XS Go.Proofs.YtljmikfpknmnnaaDoorW.PrintWords Go.Proofs.YtljmikfpknmnnaaDoorW.PrintLast Go.Proofs.YtljmikfpknmnnaaDoorW.PrintMore
theorem takeU32 (l : List Int) : (∃ e, takeUOf l 32 = (0, 0, some e) ∧ (e = 4 ∨ e = 6)) ∨ ∃ V N : Nat, takeUOf l 32 = ((V : Int), (N : Int), none) ∧ 1 ≤ N ∧ N ≤ l.length ∧ N ≤ 5 ∧ V < 34359738368 := by
  unfold takeUOf
  split
  · rename_i h
    unfold endU
    split
    · exact .inl ⟨6, rfl, .inr rfl⟩
    · have h1 := valU_nonneg (l.take (firstSmall l + 1))
      have h2 := valU_lt (l.take (firstSmall l + 1))
      rw [List.length_take, Nat.min_eq_left (by omega)] at h2
      have h3 := Nat.pow_le_pow_right (n := 128) (by omega) (show firstSmall l + 1 ≤ 5 by omega)
      have e : ((128 : Int) ^ (firstSmall l + 1)) = ((128 ^ (firstSmall l + 1) : Nat) : Int) := by simp
      rw [e] at h2
      have h4 : valU (l.take (firstSmall l + 1)) < 34359738368 := by omega
      refine .inr ⟨(valU (l.take (firstSmall l + 1))).toNat, firstSmall l + 1, ?_, by omega, by omega, by omega, by omega⟩
      rw [Int.toNat_of_nonneg h1, Int.emod_eq_of_lt h1 (by omega)]
  · by_cases h : l.length < (32 + 6) / 7
    · rw [if_pos h]; exact .inl ⟨4, rfl, .inl rfl⟩
    · rw [if_neg h]; exact .inl ⟨6, rfl, .inr rfl⟩
theorem lenW (L x : Nat) (h : x ≤ L) (hL : L < 1099511627776) : IntKind.u64.wrap (wrap64 ((L : Int) - (x : Int))) = ((L - x : Nat) : Int) := by rw [w64_in (by omega) (by omega), u64w]; omega
theorem lenW2 (L x : Nat) (h : x ≤ L) (hL : L < 1099511627776) : wrap64 ((L : Int) - (x : Int)) = ((L - x : Nat) : Int) := by rw [w64_in (by omega) (by omega)]; omega
theorem addW (x V : Nat) (h : x < 1099511627776) (hV : V < 34359738368) : wrap64 ((x : Int) + wrap64 (V : Int)) = ((x + V : Nat) : Int) := by rw [w64_in (x := (V : Int)) (by omega) (by omega), w64_in (by omega) (by omega)]; omega
theorem addW2 (x V : Nat) (h : x < 1099511627776) (hV : V < 34359738368) : wrap64 ((x : Int) + (V : Int)) = ((x + V : Nat) : Int) := by rw [w64_in (by omega) (by omega)]; omega
theorem addW1 (x : Nat) (h : x < 1099511627776) : wrap64 ((x : Int) + 1) = ((x + 1 : Nat) : Int) := by rw [w64_in (by omega) (by omega)]; omega
theorem idW (V : Nat) (hV : V < 1099511627776) : wrap64 (V : Int) = (V : Int) := w64_in (by omega) (by omega)
theorem idU (L : Nat) (hL : L < 1099511627776) : IntKind.u64.wrap (L : Int) = (L : Int) := by rw [u64w]; omega
/-- The error of a section's name, if any. -/
def nameE (s : List Int) : Option Int := match takeUOf s 32 with
  | (v, n, none) => if v > s.length - n then some 6 else if textOf ((s.take (n + v).toNat).drop n.toNat) = true then none else some 6
  | (_, _, some e) => some e
theorem name_f (id at_ : Int) (s : List Int) (hb : BB s) (hl : s.length < 1099511627776) (k : Nat) (hk : 7 * s.length + 20 ≤ k) : sect_name.f k id at_ s = some (match nameE s with | none => (0, none) | some e => (at_, some e)) := by
  unfold sect_name.f nameE
  rw [show (32 : Int) = ((32 : Nat) : Int) from rfl, takeU s 32 k (by omega) (by omega) (by omega) hb (by omega), Option.bind_some]
  rcases takeU32 s with ⟨e, he, _⟩ | ⟨V, N, he, h1, h2, h3, h4⟩
  · rw [he]; rfl
  · rw [he]
    simp only []
    rw [if_pos (show (none : Option Int).isNone = true from rfl), lenW s.length N h2 hl, addW N V (by omega) h4]
    by_cases c : V + N > s.length
    · rw [if_pos (by omega), if_pos (by omega)]
    · rw [if_neg (by omega), if_pos (by omega), if_pos (by omega), if_pos (by omega), if_neg (by omega), Int.toNat_natCast, Int.toNat_natCast]
      rw [show ((N : Int) + (V : Int)).toNat = N + V by omega]
      unfold sect_Text.f
      rw [text_f s.length _ (by simp; omega) (by simp; omega) k (by omega), Option.bind_some]
      split <;> rfl
/-- The sections from one place on, those that are found kept ahead. -/
def splitS : Nat → List Int → List S53 → Int → Nat → List S53 × Int × Option Int
  | 0, b, out, _, _ => (out, (b.length : Int), none)
  | d + 1, b, out, top, at_ =>
    if at_ < b.length then
      if b.getD at_ 0 > 11 ∨ (b.getD at_ 0 > 0 ∧ b.getD at_ 0 ≤ top) then ([], (at_ : Int), some 6)
      else match takeUOf (b.drop (at_ + 1)) 32 with
        | (_, _, some e) => ([], (at_ : Int) + 1, some e)
        | (v, n, none) =>
          if v > b.length - (at_ + 1 + n) then ([], (at_ : Int) + 1, some 4)
          else match (if b.getD at_ 0 = 0 then nameE ((b.take (at_ + 1 + n.toNat + v.toNat)).drop (at_ + 1 + n.toNat)) else none) with
            | some e => ([], (at_ : Int) + 1 + n, some e)
            | none => splitS d b (out ++ [⟨b.getD at_ 0, (at_ : Int) + 1 + n, (b.take (at_ + 1 + n.toNat + v.toNat)).drop (at_ + 1 + n.toNat)⟩]) (mx top (b.getD at_ 0)) (at_ + 1 + n.toNat + v.toNat)
    else (out, (b.length : Int), none)
theorem prog_l0 (b : List Int) (hb : BB b) (hl : b.length < 1099511627776) : ∀ (d : Nat) (out : List S53) (top : Int) (a k : Nat), b.length - a ≤ d → a ≤ b.length → 2 * d + 9 * b.length + 40 ≤ k → out.length + d < 3518437208883 → 0 ≤ top →
    sect_Split.l0 k b out top (a : Int) = some (splitS d b out top a) := by
  intro d
  induction d with
  | zero =>
    intro out top a k hd ha hk ho ht
    obtain ⟨k, rfl⟩ : ∃ m, k = m + 1 := ⟨k - 1, by omega⟩
    rw [sect_Split.l0, if_neg (by omega), splitS]
  | succ d ih =>
    intro out top a k hd ha hk ho ht
    obtain ⟨k, rfl⟩ : ∃ m, k = m + 1 + 1 := ⟨k - 2, by omega⟩
    rw [splitS, sect_Split.l0]
    by_cases h : a < b.length
    · have hid := hb.getD a h
      have hr : rd b (a : Int) = b.getD a 0 := by simp [rd]
      rw [if_pos (by omega), if_pos (by omega), if_pos h, hr]
      by_cases bad : b.getD a 0 > 11 ∨ (b.getD a 0 > 0 ∧ b.getD a 0 ≤ top)
      · have e : sect_Split.j1 (k + 1) b out top (a : Int) (b.getD a 0) true = some ([], (a : Int), some 6) := by rw [sect_Split.j1, if_pos rfl]
        rw [if_pos bad]
        by_cases c : b.getD a 0 > 11
        · rw [if_pos c, e]
        · rw [if_neg c, if_pos (by omega), decide_eq_true (by omega), e]
      · rw [if_neg bad, if_neg (by omega)]
        have e0 : (if b.getD a 0 > 0 then sect_Split.j1 (k + 1) b out top (a : Int) (b.getD a 0) (decide (b.getD a 0 ≤ top)) else sect_Split.j1 (k + 1) b out top (a : Int) (b.getD a 0) false) = sect_Split.j1 (k + 1) b out top (a : Int) (b.getD a 0) false := by
          by_cases c : b.getD a 0 > 0
          · rw [if_pos c, decide_eq_false (by omega)]
          · rw [if_neg c]
        rw [e0, sect_Split.j1, if_neg (by decide), addW1 a (by omega), if_pos (by omega), if_pos (by omega), Int.toNat_natCast]
        rw [show (32 : Int) = ((32 : Nat) : Int) from rfl, takeU (b.drop (a + 1)) 32 k (by omega) (by omega) (by simp; omega) (hb.drop _) (by simp; omega), Option.bind_some]
        rcases takeU32 (b.drop (a + 1)) with ⟨e, he, _⟩ | ⟨V, N, he, h1, h2, h3, h4⟩
        · rw [he]; rfl
        · rw [List.length_drop] at h2
          rw [he]
          simp only []
          have hN : a + 1 + N ≤ b.length := by omega
          rw [if_pos (show (none : Option Int).isNone = true from rfl), addW2 (a + 1) N (by omega) (by omega), lenW b.length (a + 1 + N) hN hl, addW (a + 1 + N) V (by omega) h4]
          by_cases c : V + (a + 1 + N) > b.length
          · rw [if_pos (by omega), if_pos (by omega)]; rfl
          · rw [if_neg (by omega), if_pos (by omega), if_pos (by omega), if_pos (by omega), if_neg (by omega), Int.toNat_natCast, Int.toNat_natCast, Int.toNat_natCast, Int.toNat_natCast]
            have hsl : ((b.take (a + 1 + N + V)).drop (a + 1 + N)).length ≤ b.length := by simp; omega
            have hsb : BB ((b.take (a + 1 + N + V)).drop (a + 1 + N)) := (hb.take _).drop _
            rw [clone _ (by omega), Option.bind_some]
            have ih2 := ih (out ++ [⟨b.getD a 0, ((a + 1 + N : Nat) : Int), (b.take (a + 1 + N + V)).drop (a + 1 + N)⟩]) (mx top (b.getD a 0)) (a + 1 + N + V) k (by omega) (by omega) (by omega) (by simp; omega) (by unfold mx; split <;> omega)
            have e4 : (a : Int) + 1 + (N : Int) = ((a + 1 + N : Nat) : Int) := by omega
            rw [e4]
            by_cases z : b.getD a 0 = 0
            · rw [if_pos z, if_pos z, name_f _ _ _ hsb (by omega) k (by omega), Option.bind_some]
              rcases nameE ((b.take (a + 1 + N + V)).drop (a + 1 + N)) with _ | e
              · simp only []
                rw [if_pos (show (none : Option Int).isNone = true from rfl), if_pos (by omega)]
                exact ih2
              · rfl
            · rw [if_neg z, if_neg z, if_pos (by omega)]
              exact ih2
    · rw [if_neg (by omega), if_neg h]
/-- The sections of bytes. -/
def splitOf (b : List Int) : List S53 × Int × Option Int := match hdErr [0, 97, 115, 109, 1, 0, 0, 0] b 0 with
  | some (i, e) => ([], i, some e)
  | none => splitS b.length b [] 0 8
theorem hdErr_none : ∀ (h b : List Int) (i : Int), hdErr h b i = none → b = h ++ b.drop h.length
  | [], b, i, _ => by simp
  | _ :: _, [], i, h => by simp [hdErr] at h
  | x :: hs, y :: ys, i, h => by
    rw [hdErr] at h
    split at h
    · rename_i e
      rw [List.length_cons, List.drop_succ_cons, List.cons_append, ← hdErr_none hs ys (i + 1) h, e]
    · cases h
theorem hdErr_len (b : List Int) (h : hdErr [0, 97, 115, 109, 1, 0, 0, 0] b 0 = none) : 8 ≤ b.length := by
  rw [hdErr_none _ _ _ h]
  simp
theorem prog_split (b : List Int) (hb : BB b) (hl : b.length < 1099511627776) (k : Nat) (hk : 11 * b.length + 40 ≤ k) : sect_Split.f k b = some (splitOf b) := by
  unfold sect_Split.f splitOf
  rcases h : hdErr [0, 97, 115, 109, 1, 0, 0, 0] b 0 with _ | ⟨i, e⟩
  · rw [if_neg (by simp)]
    have := hdErr_len b h
    exact prog_l0 b hb hl b.length [] 0 8 k (by omega) this (by omega) (by simp; omega) (by omega)
  · simp only [Option.isSome_some, if_true, Option.getD_some]
end Go.Proofs.YtljmikfpknmnnaaDoor.Sect
