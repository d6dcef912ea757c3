/- Whether bytes are a text: the program's answer and the document's, each as one plain function. No program. -/
import Derived.Test.YtljmikfpknmnnaaDoorXSx5
import Derived.Test.YtljmikfpknmnnaaDoorMath
namespace Go.Proofs.YtljmikfpknmnnaaDoor.Sect
open Go Go.RowKit Go.Proofs.YtljmikfpknmnnaaDoor.M Go.Proofs.YtljmikfpknmnnaaDoor.XS Go.Proofs.YtljmikfpknmnnaaDoorW.PrintWords Go.Proofs.YtljmikfpknmnnaaDoorW.PrintLast
def BB (l : List Int) : Prop := ∀ x ∈ l, 0 ≤ x ∧ x < 256
theorem BB.drop {l : List Int} (h : BB l) (n : Nat) : BB (l.drop n) := fun x hx => h x (List.mem_of_mem_drop hx)
theorem BB.take {l : List Int} (h : BB l) (n : Nat) : BB (l.take n) := fun x hx => h x (List.mem_of_mem_take hx)
theorem BB.getD {l : List Int} (h : BB l) (i : Nat) (hi : i < l.length) : 0 ≤ l.getD i 0 ∧ l.getD i 0 < 256 := by
  rw [List.getD_eq_getElem?_getD, List.getElem?_eq_getElem hi]
  exact h _ (List.getElem_mem hi)
/-- What a text's first byte says of those behind it. -/
def followOf (c : Int) : Option (Nat × Int × Int) :=
  if c < 128 then some (0, 0, 0) else if 194 ≤ c ∧ c ≤ 223 then some (1, 128, 191) else if c = 224 then some (2, 160, 191) else if c = 237 then some (2, 128, 159) else if 224 < c ∧ c ≤ 239 then some (2, 128, 191)
  else if c = 240 then some (3, 144, 191) else if c = 244 then some (3, 128, 143) else if 240 < c ∧ c < 244 then some (3, 128, 191) else none
def conts : List Int → Int → Int → Bool
  | [], _, _ => true
  | c :: r, lo, hi => decide (lo ≤ c) && (decide (c ≤ hi) && conts r 128 191)
def textOf (l : List Int) : Bool := match l with
  | [] => true
  | c :: r => match followOf c with
    | none => false
    | some (n, lo, hi) => if r.length < n then false else conts (r.take n) lo hi && textOf (r.drop n)
termination_by l.length
decreasing_by simp; omega
def told4 (c : Int) : Int × Int × Int × Bool := match followOf c with | none => (0, 0, 0, false) | some (n, lo, hi) => ((n : Int), lo, hi, true)
theorem follow (c : Int) (k : Nat) (hk : 2 ≤ k) : sect_follow.f k c = some (told4 c) := by
  obtain ⟨k, rfl⟩ : ∃ m, k = m + 2 := ⟨k - 2, by omega⟩
  have J1 : sect_follow.j1 (k + 1) c (decide (c ≤ 239)) = some (if c ≤ 239 then (2, 128, 191, true) else if c = 240 then (3, 144, 191, true) else if c = 244 then (3, 128, 143, true) else if 240 < c ∧ c < 244 then (3, 128, 191, true) else (0, 0, 0, false)) := by
    rw [sect_follow.j1]
    by_cases h : c ≤ 239
    · rw [if_pos (decide_eq_true h), if_pos h]
    · rw [if_neg (by simp [h]), if_neg h]
      by_cases h2 : c = 240
      · rw [if_pos h2, if_pos h2]
      · rw [if_neg h2, if_neg h2]
        by_cases h3 : c = 244
        · rw [if_pos h3, if_pos h3]
        · rw [if_neg h3, if_neg h3]
          by_cases h4 : c > 240
          · rw [if_pos h4]
            by_cases h5 : c < 244
            · rw [if_pos h5, if_pos ⟨h4, h5⟩]
            · rw [if_neg h5, if_neg (by omega)]
          · rw [if_neg h4, if_neg (by omega)]
  have J1f : c ≤ 224 → c ≠ 240 → sect_follow.j1 (k + 1) c false = some (0, 0, 0, false) := by
    intro h h2
    rw [sect_follow.j1, if_neg (by decide), if_neg (by omega), if_neg (by omega), if_neg (by omega)]
  unfold sect_follow.f told4 followOf
  by_cases h0 : c < 128
  · rw [if_pos h0, if_pos h0]; rfl
  · rw [if_neg h0, if_neg h0]
    by_cases h1 : 194 ≤ c ∧ c ≤ 223
    · rw [if_pos (by omega), if_pos h1, sect_follow.j0, if_pos (decide_eq_true h1.2)]; rfl
    · have J0 : ∀ b : Bool, b = false → sect_follow.j0 (k + 2) c b = some (if c = 224 then (2, 160, 191, true) else if c = 237 then (2, 128, 159, true) else if 224 < c then (if c ≤ 239 then (2, 128, 191, true) else if c = 240 then (3, 144, 191, true) else if c = 244 then (3, 128, 143, true) else if 240 < c ∧ c < 244 then (3, 128, 191, true) else (0, 0, 0, false)) else (0, 0, 0, false)) := by
        intro b hb
        rw [sect_follow.j0, if_neg (by simp [hb])]
        by_cases h2 : c = 224
        · rw [if_pos h2, if_pos h2]
        · rw [if_neg h2, if_neg h2]
          by_cases h3 : c = 237
          · rw [if_pos h3, if_pos h3]
          · rw [if_neg h3, if_neg h3]
            by_cases h4 : c > 224
            · rw [if_pos h4, if_pos h4, J1]
            · rw [if_neg h4, if_neg (by omega), J1f (by omega) (by omega)]
      have e : (if c ≥ 194 then sect_follow.j0 (k + 2) c (decide (c ≤ 223)) else sect_follow.j0 (k + 2) c false) = sect_follow.j0 (k + 2) c false := by
        by_cases h2 : c ≥ 194
        · rw [if_pos h2, decide_eq_false (by omega)]
        · rw [if_neg h2]
      rw [e, J0 false rfl, if_neg h1]
      by_cases h2 : c = 224
      · rw [if_pos h2, if_pos h2]; rfl
      · rw [if_neg h2, if_neg h2]
        by_cases h3 : c = 237
        · rw [if_pos h3, if_pos h3]; rfl
        · rw [if_neg h3, if_neg h3]
          by_cases h4 : 224 < c
          · rw [if_pos h4]
            by_cases h5 : c ≤ 239
            · rw [if_pos h5, if_pos ⟨h4, h5⟩]; rfl
            · rw [if_neg h5, if_neg (c := 224 < c ∧ c ≤ 239) (by omega)]
              by_cases h6 : c = 240
              · rw [if_pos h6, if_pos h6]; rfl
              · rw [if_neg h6, if_neg h6]
                by_cases h7 : c = 244
                · rw [if_pos h7, if_pos h7]; rfl
                · rw [if_neg h7, if_neg h7]
                  by_cases h8 : 240 < c ∧ c < 244
                  · rw [if_pos h8, if_pos h8]; rfl
                  · rw [if_neg h8, if_neg h8]
          · rw [if_neg h4, if_neg (c := 224 < c ∧ c ≤ 239) (by omega), if_neg (by omega), if_neg (by omega), if_neg (by omega)]
theorem follow_n {c : Int} {n : Nat} {lo hi : Int} (h : followOf c = some (n, lo, hi)) : n ≤ 3 := by
  unfold followOf at h
  repeat' split at h
  all_goals first | (cases h; omega) | cases h
theorem getD_drop_cons (y : List Int) (i : Nat) (h : i < y.length) : y.drop i = y.getD i 0 :: y.drop (i + 1) := by
  rw [List.drop_eq_getElem_cons h, List.getD_eq_getElem?_getD, List.getElem?_eq_getElem h]
  rfl
theorem text_l1 (x0 : List Int) (n : Nat) (hn : n ≤ 3) (hx : n + 1 ≤ x0.length) (hb : x0.length < 4611686018427387904) (y : List Int) (hy : y.length ≤ 3) (R : Bool) (K0 : Nat) (hR : ∀ k', K0 ≤ k' → sect_Text.l0 k' (x0.drop (n + 1)) = some R) :
    ∀ (d i k : Nat) (lo hi : Int), y.length - i = d → i ≤ y.length → d + 1 + K0 ≤ k → sect_Text.l1 k x0 (n : Int) lo hi y (y.length : Int) (i : Int) = some (conts (y.drop i) lo hi && R)
  | 0, i, k, lo, hi, hd, hi2, hk => by
    obtain ⟨k, rfl⟩ : ∃ m, k = m + 1 := ⟨k - 1, by omega⟩
    rw [sect_Text.l1, if_neg (by omega), w64_in (by omega) (by omega), if_pos (by omega), if_pos (by omega), show ((n : Int) + 1).toNat = n + 1 by omega, hR k (by omega), List.drop_eq_nil_of_le (by omega)]
    rfl
  | d + 1, i, k, lo, hi, hd, hi2, hk => by
    obtain ⟨k, rfl⟩ : ∃ m, k = m + 1 := ⟨k - 1, by omega⟩
    have hr : rd y (i : Int) = y.getD i 0 := rfl
    rw [sect_Text.l1, if_pos (by omega), if_pos (by omega), if_pos (by omega), hr, getD_drop_cons y i (by omega), conts]
    by_cases h1 : y.getD i 0 < lo
    · rw [if_pos h1, decide_eq_false (by omega)]; rfl
    · rw [if_neg h1, decide_eq_true (p := lo ≤ y.getD i 0) (by omega)]
      by_cases h2 : y.getD i 0 > hi
      · rw [if_pos h2, decide_eq_false (by omega)]; rfl
      · rw [if_neg h2, decide_eq_true (p := y.getD i 0 ≤ hi) (by omega), w64_in (by omega) (by omega)]
        exact text_l1 x0 n hn hx hb y hy R K0 hR d (i + 1) k 128 191 (by omega) (by omega) (by omega)
theorem text_f : ∀ (d : Nat) (l : List Int), l.length ≤ d → l.length < 4611686018427387904 → ∀ k, 7 * d + 4 ≤ k → sect_Text.l0 k l = some (textOf l)
  | d, [], _, _, k, hk => by
    obtain ⟨k, rfl⟩ : ∃ m, k = m + 1 := ⟨k - 1, by omega⟩
    rw [sect_Text.l0, if_neg (by simp), textOf]
  | 0, c :: r, hd, _, _, _ => by simp at hd
  | d + 1, c :: r, hd, hl, k, hk => by
    obtain ⟨k, rfl⟩ : ∃ m, k = m + 1 + 1 := ⟨k - 2, by omega⟩
    simp only [List.length_cons] at hd hl
    rw [sect_Text.l0, if_pos (by simp only [List.length_cons]; omega), if_pos (by simp only [List.length_cons]; omega), show rd (c :: r) 0 = c from rfl, follow c (k + 1) (by omega), Option.bind_some, textOf, told4]
    rcases hf : followOf c with _ | ⟨n, lo, hi⟩
    · simp only []
      rw [if_neg (by decide), sect_Text.j1, if_pos rfl]
    · simp only []
      have hn := follow_n hf
      rw [if_pos trivial]
      by_cases h1 : r.length < n
      · rw [sect_Text.j1, if_pos (decide_eq_true (by simp only [List.length_cons]; omega)), if_pos h1]
      · rw [sect_Text.j1, if_neg (by simp only [decide_eq_true_eq, List.length_cons]; omega), if_neg h1, w64_in (by omega) (by omega), if_pos (by omega), if_pos (by simp only [List.length_cons]; omega), Option.bind_some]
        rw [show ((n : Int) + 1).toNat = n + 1 by omega, List.take_succ_cons, List.drop_succ_cons, List.drop_zero]
        have hR := fun k' hk' => text_f d (r.drop n) (by simp; omega) (by simp; omega) k' hk'
        have := text_l1 (c :: r) n hn (by simp only [List.length_cons]; omega) (by simp only [List.length_cons]; omega) (r.take n) (by simp; omega) (textOf (r.drop n)) (7 * d + 4) hR (r.take n).length 0 k lo hi (by omega) (by omega) (by simp; omega)
        exact this
end Go.Proofs.YtljmikfpknmnnaaDoor.Sect
