/- Whether bytes are a text, as the document has it: by each character's number: the same as the program's. No program. -/
import Derived.Test.YtljmikfpknmnnaaDoorXSx7
import Derived.Test.YtljmikfpknmnnaaDoorText
namespace Go.Proofs.YtljmikfpknmnnaaDoor.Sect
open Go Go.RowKit Go.Proofs.YtljmikfpknmnnaaDoor.M Go.Proofs.YtljmikfpknmnnaaDoor.XS Go.Proofs.YtljmikfpknmnnaaDoorW.PrintWords Go.Proofs.YtljmikfpknmnnaaDoorW.PrintLast
def badV (n v : Int) : Prop := n = 1 ∧ v < 128 ∨ n = 2 ∧ v < 2048 ∨ n = 3 ∧ v < 65536 ∨ v > 1114111 ∨ v ≥ 55296 ∧ v < 57344
instance (n v : Int) : Decidable (badV n v) := by unfold badV; exact inferInstance
theorem ref_step (x0 : List Int) (hl : x0.length < 4611686018427387904) (hb : BB x0) (i n j k : Nat) (v : Int) (hj : j ≤ n) (hn : n ≤ 3) (hv : 0 ≤ v ∧ v < 1073741824) (hi : i < x0.length) :
    mandrelref06_Text.l1 (k + 1) x0 (i : Int) (n : Int) v (j : Int) = if x0.length ≤ i + j then some false else if x0.getD (i + j) 0 < 128 then some false else if 191 < x0.getD (i + j) 0 then some false else mandrelref06_Text.l1 k x0 (i : Int) (n : Int) (64 * v + x0.getD (i + j) 0 - 128) ((j + 1 : Nat) : Int) := by
  have e : wrap64 ((i : Int) + j) = ((i + j : Nat) : Int) := by rw [w64_in (by omega) (by omega)]; omega
  rw [mandrelref06_Text.l1, if_pos (by omega), e]
  by_cases h : x0.length ≤ i + j
  · rw [if_pos (by omega), if_pos h]
  · have hr : rd x0 ((i + j : Nat) : Int) = x0.getD (i + j) 0 := rfl
    have hb2 := hb.getD (i + j) (by omega)
    rw [if_neg (by omega), if_neg h, if_pos (by omega), if_pos (by omega), hr]
    by_cases h1 : x0.getD (i + j) 0 < 128
    · rw [if_pos h1, if_pos h1]
    · rw [if_neg h1, if_neg h1]
      by_cases h2 : x0.getD (i + j) 0 > 191
      · rw [if_pos h2, if_pos h2]
      · rw [if_neg h2, if_neg h2, w64_in (x := 64 * v) (by omega) (by omega), w64_in (x := x0.getD (i + j) 0) (by omega) (by omega), w64_in (x := 64 * v + x0.getD (i + j) 0) (by omega) (by omega), w64_in (x := 64 * v + x0.getD (i + j) 0 - 128) (by omega) (by omega), w64_in (x := (j : Int) + 1) (by omega) (by omega)]
        rfl
theorem ref_exit (x0 : List Int) (hl : x0.length < 4611686018427387904) (i n k : Nat) (v : Int) (hn : 1 ≤ n) (hn3 : n ≤ 3) (hi : i + n < x0.length) :
    mandrelref06_Text.l1 (k + 1) x0 (i : Int) (n : Int) v ((n + 1 : Nat) : Int) = if badV n v then some false else mandrelref06_Text.l0 k x0 ((i + n + 1 : Nat) : Int) := by
  have e : wrap64 (wrap64 ((i : Int) + n) + 1) = ((i + n + 1 : Nat) : Int) := by rw [w64_in (x := (i : Int) + n) (by omega) (by omega), w64_in (by omega) (by omega)]; omega
  rw [mandrelref06_Text.l1, if_neg (by omega), e]
  rcases (show n = 1 ∨ n = 2 ∨ n = 3 by omega) with rfl | rfl | rfl
  · by_cases h1 : v < 128
    · rw [if_pos (by decide), if_pos h1, if_pos (by unfold badV; omega)]
    · rw [if_pos (by decide), if_neg h1]
      by_cases h2 : v > 1114111
      · rw [if_pos h2, if_pos (by unfold badV; omega)]
      · rw [if_neg h2]
        by_cases h3 : v ≥ 55296
        · rw [if_pos h3]
          by_cases h4 : v < 57344
          · rw [if_pos h4, if_pos (by unfold badV; omega)]
          · rw [if_neg h4, if_neg (by unfold badV; omega)]
        · rw [if_neg h3, if_neg (by unfold badV; omega)]
  · rw [if_neg (by decide), if_pos (by decide)]
    by_cases h1 : v < 2048
    · rw [if_pos h1, if_pos (by unfold badV; omega)]
    · rw [if_neg h1]
      by_cases h2 : v > 1114111
      · rw [if_pos h2, if_pos (by unfold badV; omega)]
      · rw [if_neg h2]
        by_cases h3 : v ≥ 55296
        · rw [if_pos h3]
          by_cases h4 : v < 57344
          · rw [if_pos h4, if_pos (by unfold badV; omega)]
          · rw [if_neg h4, if_neg (by unfold badV; omega)]
        · rw [if_neg h3, if_neg (by unfold badV; omega)]
  · rw [if_neg (by decide), if_neg (by decide), if_pos (by decide)]
    by_cases h1 : v < 65536
    · rw [if_pos h1, if_pos (by unfold badV; omega)]
    · rw [if_neg h1]
      by_cases h2 : v > 1114111
      · rw [if_pos h2, if_pos (by unfold badV; omega)]
      · rw [if_neg h2]
        by_cases h3 : v ≥ 55296
        · rw [if_pos h3]
          by_cases h4 : v < 57344
          · rw [if_pos h4, if_pos (by unfold badV; omega)]
          · rw [if_neg h4, if_neg (by unfold badV; omega)]
        · rw [if_neg h3, if_neg (by unfold badV; omega)]
theorem textOf_cons (c : Int) (r : List Int) : textOf (c :: r) = match followOf c with | none => false | some (n, lo, hi) => if r.length < n then false else conts (r.take n) lo hi && textOf (r.drop n) := by
  rw [textOf]
  rcases followOf c with _ | ⟨n, lo, hi⟩ <;> rfl
theorem drop_more (x0 : List Int) (i : Nat) (c : Int) (r : List Int) (h : x0.drop i = c :: r) : i < x0.length ∧ r.length + i + 1 = x0.length ∧ x0.getD i 0 = c ∧ (∀ j, x0.getD (i + (j + 1)) 0 = r.getD j 0) ∧ ∀ n, x0.drop (i + n + 1) = r.drop n := by
  have hlen : (x0.drop i).length = r.length + 1 := by rw [h]; rfl
  rw [List.length_drop] at hlen
  have hg : ∀ j, x0.getD (i + j) 0 = (c :: r).getD j 0 := fun j => by rw [← h, List.getD_eq_getElem?_getD, List.getD_eq_getElem?_getD, List.getElem?_drop]
  refine ⟨by omega, by omega, hg 0, fun j => ?_, fun n => ?_⟩
  · rw [hg]; rfl
  · rw [show i + n + 1 = i + (n + 1) by omega, ← List.drop_drop, h, List.drop_succ_cons]
theorem ref_one (x0 : List Int) (hl : x0.length < 4611686018427387904) (hb : BB x0) (i k : Nat) (c : Int) (r : List Int) (h : x0.drop i = c :: r) (h0 : 192 ≤ c) (h1 : c < 224) (IH : ∀ n, r.drop n = x0.drop (i + n + 1) → n ≤ r.length → mandrelref06_Text.l0 k x0 ((i + n + 1 : Nat) : Int) = some (textOf (r.drop n))) :
    mandrelref06_Text.l1 (k + 2) x0 (i : Int) 1 (c - 192) 1 = some (textOf (c :: r)) := by
  obtain ⟨hi, hlen, hc, hg, hd⟩ := drop_more x0 i c r h
  have s1 := ref_step x0 hl hb i 1 1 (k + 1) (c - 192) (by omega) (by omega) (by omega) hi
  have g1 := hg 0
  simp only [Nat.zero_add] at g1
  rw [g1] at s1
  refine s1.trans ?_
  rw [textOf_cons]
  rcases r with _ | ⟨b1, r1⟩
  · rw [if_pos (by simp only [List.length_nil] at hlen; omega)]
    by_cases h2 : c < 194
    · rw [show followOf c = none by unfold followOf; rw [if_neg (by omega), if_neg (by omega), if_neg (by omega), if_neg (by omega), if_neg (by omega), if_neg (by omega), if_neg (by omega), if_neg (by omega)]]
    · rw [show followOf c = some (1, 128, 191) by unfold followOf; rw [if_neg (by omega), if_pos (by omega)]]
      rfl
  · simp only [List.length_cons] at hlen
    rw [if_neg (by omega), show (b1 :: r1).getD 0 0 = b1 from rfl]
    by_cases h2 : c < 194
    · rw [show followOf c = none by unfold followOf; rw [if_neg (by omega), if_neg (by omega), if_neg (by omega), if_neg (by omega), if_neg (by omega), if_neg (by omega), if_neg (by omega), if_neg (by omega)]]
      simp only []
      by_cases a1 : b1 < 128
      · rw [if_pos a1]
      · rw [if_neg a1]
        by_cases a2 : 191 < b1
        · rw [if_pos a2]
        · rw [if_neg a2, ref_exit x0 hl i 1 k _ (by omega) (by omega) (by omega), if_pos (by unfold badV; omega)]
    · rw [show followOf c = some (1, 128, 191) by unfold followOf; rw [if_neg (by omega), if_pos (by omega)]]
      simp only [List.length_cons]
      rw [if_neg (show ¬ r1.length + 1 < 1 by omega), List.take_succ_cons, List.take_zero, conts, conts, Bool.and_true]
      by_cases a1 : b1 < 128
      · rw [if_pos a1, decide_eq_false (p := 128 ≤ b1) (by omega)]; rfl
      · rw [if_neg a1, decide_eq_true (p := 128 ≤ b1) (by omega)]
        by_cases a2 : 191 < b1
        · rw [if_pos a2, decide_eq_false (p := b1 ≤ 191) (by omega)]; rfl
        · rw [if_neg a2, decide_eq_true (p := b1 ≤ 191) (by omega), ref_exit x0 hl i 1 k _ (by omega) (by omega) (by omega), if_neg (by unfold badV; omega), IH 1 (hd 1).symm (by simp)]
          rfl
def ok2 (c b1 b2 : Int) : Prop := ∃ lo hi, followOf c = some (2, lo, hi) ∧ lo ≤ b1 ∧ b1 ≤ hi ∧ 128 ≤ b2 ∧ b2 ≤ 191
theorem follow2 (c : Int) (h0 : 224 ≤ c) (h1 : c < 240) : followOf c = some (2, if c = 224 then 160 else 128, if c = 237 then 159 else 191) := by
  unfold followOf
  rw [if_neg (by omega), if_neg (by omega)]
  by_cases a : c = 224
  · rw [if_pos a, if_pos a, if_neg (by omega)]
  · rw [if_neg a, if_neg a]
    by_cases b : c = 237
    · rw [if_pos b, if_pos b]
    · rw [if_neg b, if_neg b, if_pos (by omega)]
theorem follow3 (c : Int) (h0 : 240 ≤ c) (h1 : c < 248) : followOf c = if c ≤ 244 then some (3, if c = 240 then 144 else 128, if c = 244 then 143 else 191) else none := by
  unfold followOf
  rw [if_neg (by omega), if_neg (by omega), if_neg (by omega), if_neg (by omega), if_neg (by omega)]
  by_cases a : c = 240
  · rw [if_pos a, if_pos (by omega), if_pos a, if_neg (by omega)]
  · rw [if_neg a]
    by_cases b : c = 244
    · rw [if_pos b, if_pos (by omega), if_neg a, if_pos b]
    · rw [if_neg b]
      by_cases d : 240 < c ∧ c < 244
      · rw [if_pos d, if_pos (by omega), if_neg a, if_neg b]
      · rw [if_neg d, if_neg (by omega)]
theorem conts2 (b1 b2 lo hi : Int) : conts [b1, b2] lo hi = decide (lo ≤ b1 ∧ b1 ≤ hi ∧ 128 ≤ b2 ∧ b2 ≤ 191) := by
  simp only [conts, Bool.and_true, Bool.decide_and]
theorem conts3 (b1 b2 b3 lo hi : Int) : conts [b1, b2, b3] lo hi = decide (lo ≤ b1 ∧ b1 ≤ hi ∧ 128 ≤ b2 ∧ b2 ≤ 191 ∧ 128 ≤ b3 ∧ b3 ≤ 191) := by
  simp only [conts, Bool.and_true, Bool.decide_and]
theorem ref_two (x0 : List Int) (hl : x0.length < 4611686018427387904) (hb : BB x0) (i k : Nat) (c : Int) (r : List Int) (h : x0.drop i = c :: r) (h0 : 224 ≤ c) (h1 : c < 240) (IH : ∀ n, r.drop n = x0.drop (i + n + 1) → n ≤ r.length → mandrelref06_Text.l0 k x0 ((i + n + 1 : Nat) : Int) = some (textOf (r.drop n))) :
    mandrelref06_Text.l1 (k + 3) x0 (i : Int) 2 (c - 224) 1 = some (textOf (c :: r)) := by
  obtain ⟨hi, hlen, hc, hg, hd⟩ := drop_more x0 i c r h
  have s1 := ref_step x0 hl hb i 2 1 (k + 2) (c - 224) (by omega) (by omega) (by omega) hi
  have g1 := hg 0
  have g2 := hg 1
  simp only [Nat.zero_add, Nat.reduceAdd] at g1 g2
  rw [g1] at s1
  refine s1.trans ?_
  rw [textOf_cons, follow2 c h0 h1]
  simp only []
  rcases r with _ | ⟨b1, r1⟩
  · rw [if_pos (by simp only [List.length_nil] at hlen; omega)]; rfl
  · simp only [List.length_cons] at hlen
    rw [if_neg (by omega), show (b1 :: r1).getD 0 0 = b1 from rfl]
    by_cases a1 : b1 < 128
    · rw [if_pos a1]
      rcases r1 with _ | ⟨b2, r2⟩
      · rfl
      · rw [if_neg (by simp), List.take_succ_cons, List.take_succ_cons, List.take_zero, conts2, decide_eq_false (by split <;> omega)]; rfl
    · rw [if_neg a1]
      by_cases a2 : 191 < b1
      · rw [if_pos a2]
        rcases r1 with _ | ⟨b2, r2⟩
        · rfl
        · rw [if_neg (by simp), List.take_succ_cons, List.take_succ_cons, List.take_zero, conts2, decide_eq_false (by split <;> split <;> omega)]; rfl
      · rw [if_neg a2]
        have s2 := ref_step x0 hl hb i 2 2 (k + 1) (64 * (c - 224) + b1 - 128) (by omega) (by omega) (by omega) hi
        rw [g2] at s2
        refine s2.trans ?_
        rcases r1 with _ | ⟨b2, r2⟩
        · rw [if_pos (by simp only [List.length_nil] at hlen; omega)]; rfl
        · simp only [List.length_cons] at hlen
          rw [if_neg (by omega), show (b1 :: b2 :: r2).getD 1 0 = b2 from rfl, if_neg (by simp : ¬ (b1 :: b2 :: r2).length < 2), List.take_succ_cons, List.take_succ_cons, List.take_zero, conts2]
          by_cases a3 : b2 < 128
          · rw [if_pos a3, decide_eq_false (by omega)]; rfl
          · rw [if_neg a3]
            by_cases a4 : 191 < b2
            · rw [if_pos a4, decide_eq_false (by omega)]; rfl
            · rw [if_neg a4, ref_exit x0 hl i 2 k _ (by omega) (by omega) (by omega)]
              by_cases g : (if c = 224 then (160 : Int) else 128) ≤ b1 ∧ b1 ≤ (if c = 237 then (159 : Int) else 191) ∧ 128 ≤ b2 ∧ b2 ≤ 191
              · rw [decide_eq_true g, if_neg (by unfold badV; split at g <;> split at g <;> omega), IH 2 (hd 2).symm (by simp)]; rfl
              · rw [decide_eq_false g, if_pos (by unfold badV; split at g <;> split at g <;> omega)]; rfl
theorem ref_three (x0 : List Int) (hl : x0.length < 4611686018427387904) (hb : BB x0) (i k : Nat) (c : Int) (r : List Int) (h : x0.drop i = c :: r) (h0 : 240 ≤ c) (h1 : c < 248) (IH : ∀ n, r.drop n = x0.drop (i + n + 1) → n ≤ r.length → mandrelref06_Text.l0 k x0 ((i + n + 1 : Nat) : Int) = some (textOf (r.drop n))) :
    mandrelref06_Text.l1 (k + 4) x0 (i : Int) 3 (c - 240) 1 = some (textOf (c :: r)) := by
  obtain ⟨hi, hlen, hc, hg, hd⟩ := drop_more x0 i c r h
  have s1 := ref_step x0 hl hb i 3 1 (k + 3) (c - 240) (by omega) (by omega) (by omega) hi
  have g1 := hg 0
  have g2 := hg 1
  have g3 := hg 2
  simp only [Nat.zero_add, Nat.reduceAdd] at g1 g2 g3
  rw [g1] at s1
  refine s1.trans ?_
  have key : textOf (c :: r) = (if c ≤ 244 then (if r.length < 3 then false else conts (r.take 3) (if c = 240 then 144 else 128) (if c = 244 then 143 else 191) && textOf (r.drop 3)) else false) := by
    rw [textOf_cons, follow3 c h0 h1]
    by_cases hc4 : c ≤ 244
    · rw [if_pos hc4, if_pos hc4]
    · rw [if_neg hc4, if_neg hc4]
  rw [key]
  clear key
  have fls : ∀ (b1 : Int), (b1 < 128 ∨ 191 < b1) → ∀ r1, (if c ≤ 244 then (if (b1 :: r1).length < 3 then false else conts ((b1 :: r1).take 3) (if c = 240 then 144 else 128) (if c = 244 then 143 else 191) && textOf ((b1 :: r1).drop 3)) else false) = false := by
    intro b1 hb1 r1
    by_cases hc4 : c ≤ 244
    · rw [if_pos hc4]
      rcases r1 with _ | ⟨b2, _ | ⟨b3, r3⟩⟩
      · rfl
      · rfl
      · rw [if_neg (by simp), List.take_succ_cons, List.take_succ_cons, List.take_succ_cons, List.take_zero, conts3, decide_eq_false (by split <;> split <;> omega)]; rfl
    · rw [if_neg hc4]
  rcases r with _ | ⟨b1, r1⟩
  · rw [if_pos (by simp only [List.length_nil] at hlen; omega)]
    split <;> rfl
  · simp only [List.length_cons] at hlen
    rw [if_neg (by omega), show (b1 :: r1).getD 0 0 = b1 from rfl]
    by_cases a1 : b1 < 128
    · rw [if_pos a1, fls b1 (.inl a1)]
    · rw [if_neg a1]
      by_cases a2 : 191 < b1
      · rw [if_pos a2, fls b1 (.inr a2)]
      · rw [if_neg a2]
        have s2 := ref_step x0 hl hb i 3 2 (k + 2) (64 * (c - 240) + b1 - 128) (by omega) (by omega) (by omega) hi
        rw [g2] at s2
        refine s2.trans ?_
        rcases r1 with _ | ⟨b2, r2⟩
        · rw [if_pos (by simp only [List.length_nil] at hlen; omega)]
          split <;> rfl
        · simp only [List.length_cons] at hlen
          rw [if_neg (by omega), show (b1 :: b2 :: r2).getD 1 0 = b2 from rfl]
          have fls2 : (b2 < 128 ∨ 191 < b2) → (if c ≤ 244 then (if (b1 :: b2 :: r2).length < 3 then false else conts ((b1 :: b2 :: r2).take 3) (if c = 240 then 144 else 128) (if c = 244 then 143 else 191) && textOf ((b1 :: b2 :: r2).drop 3)) else false) = false := by
            intro hb2
            by_cases hc4 : c ≤ 244
            · rw [if_pos hc4]
              rcases r2 with _ | ⟨b3, r3⟩
              · rfl
              · rw [if_neg (by simp), List.take_succ_cons, List.take_succ_cons, List.take_succ_cons, List.take_zero, conts3, decide_eq_false (by split <;> split <;> omega)]; rfl
            · rw [if_neg hc4]
          by_cases a3 : b2 < 128
          · rw [if_pos a3, fls2 (.inl a3)]
          · rw [if_neg a3]
            by_cases a4 : 191 < b2
            · rw [if_pos a4, fls2 (.inr a4)]
            · rw [if_neg a4]
              have s3 := ref_step x0 hl hb i 3 3 (k + 1) (64 * (64 * (c - 240) + b1 - 128) + b2 - 128) (by omega) (by omega) (by omega) hi
              rw [g3] at s3
              refine s3.trans ?_
              rcases r2 with _ | ⟨b3, r3⟩
              · rw [if_pos (by simp only [List.length_nil] at hlen; omega)]
                split <;> rfl
              · simp only [List.length_cons] at hlen
                rw [if_neg (by omega), show (b1 :: b2 :: b3 :: r3).getD 2 0 = b3 from rfl, if_neg (by simp : ¬ (b1 :: b2 :: b3 :: r3).length < 3), List.take_succ_cons, List.take_succ_cons, List.take_succ_cons, List.take_zero, conts3]
                by_cases a5 : b3 < 128
                · rw [if_pos a5, decide_eq_false (by omega)]
                  split <;> rfl
                · rw [if_neg a5]
                  by_cases a6 : 191 < b3
                  · rw [if_pos a6, decide_eq_false (by omega)]
                    split <;> rfl
                  · rw [if_neg a6, ref_exit x0 hl i 3 k _ (by omega) (by omega) (by omega)]
                    by_cases hc4 : c ≤ 244
                    · rw [if_pos hc4]
                      by_cases g : (if c = 240 then (144 : Int) else 128) ≤ b1 ∧ b1 ≤ (if c = 244 then (143 : Int) else 191) ∧ 128 ≤ b2 ∧ b2 ≤ 191 ∧ 128 ≤ b3 ∧ b3 ≤ 191
                      · rw [decide_eq_true g, if_neg (by unfold badV; split at g <;> split at g <;> omega), IH 3 (hd 3).symm (by simp)]; rfl
                      · rw [decide_eq_false g, if_pos (by unfold badV; split at g <;> split at g <;> omega)]; rfl
                    · rw [if_neg hc4, if_pos (by unfold badV; omega)]
theorem ref_text (x0 : List Int) (hl : x0.length < 4611686018427387904) (hb : BB x0) : ∀ (d i k : Nat), x0.length - i ≤ d → i ≤ x0.length → 9 * d + 9 ≤ k → mandrelref06_Text.l0 k x0 (i : Int) = some (textOf (x0.drop i)) := by
  intro d
  induction d with
  | zero =>
    intro i k hd hi hk
    obtain ⟨k, rfl⟩ : ∃ m, k = m + 1 := ⟨k - 1, by omega⟩
    rw [mandrelref06_Text.l0, if_neg (by omega), List.drop_eq_nil_of_le (by omega), textOf]
  | succ d ih =>
    intro i k hd hi hk
    obtain ⟨k, rfl⟩ : ∃ m, k = m + 9 := ⟨k - 9, by omega⟩
    rcases hdr : x0.drop i with _ | ⟨c, r⟩
    · have : x0.length ≤ i := List.drop_eq_nil_iff.1 hdr
      rw [mandrelref06_Text.l0, if_neg (by omega), textOf]
    · obtain ⟨hi2, hlen, hc, hg, hdd⟩ := drop_more x0 i c r hdr
      have hr : rd x0 (i : Int) = c := hc
      have hcb := hb.getD i hi2
      rw [hc] at hcb
      have IH : ∀ k', 9 * d + 9 ≤ k' → ∀ n, r.drop n = x0.drop (i + n + 1) → n ≤ r.length → mandrelref06_Text.l0 k' x0 ((i + n + 1 : Nat) : Int) = some (textOf (r.drop n)) := fun k' hk' n hn hn2 => by rw [hn]; exact ih (i + n + 1) k' (by omega) (by omega) hk'
      rw [mandrelref06_Text.l0, if_pos (by omega), if_pos (by omega), hr]
      by_cases h1 : c < 128
      · rw [if_pos h1, w64_in (by omega) (by omega), textOf_cons, show followOf c = some (0, 0, 0) by unfold followOf; rw [if_pos h1]]
        simp only []
        rw [if_neg (by omega), List.take_zero, conts, Bool.true_and]
        exact IH (k + 8) (by omega) 0 (hdd 0).symm (by omega)
      · rw [if_neg h1]
        have F : ∀ (h : c < 192 ∨ 248 ≤ c), textOf (c :: r) = false := by
          intro h
          rw [textOf_cons, show followOf c = none by unfold followOf; rw [if_neg (by omega), if_neg (by omega), if_neg (by omega), if_neg (by omega), if_neg (by omega), if_neg (by omega), if_neg (by omega), if_neg (by omega)]]
        by_cases h2 : c ≥ 192
        · rw [if_pos h2]
          by_cases h3 : c < 224
          · rw [decide_eq_true h3, mandrelref06_Text.j1, if_pos rfl, if_pos (by omega), if_pos (by omega), hr, mandrelref06_Text.j3, w64_in (x := c) (by omega) (by omega), w64_in (by omega) (by omega)]
            exact ref_one x0 hl hb i (k + 4) c r hdr h2 h3 (IH (k + 4) (by omega))
          · rw [decide_eq_false h3, mandrelref06_Text.j1, if_neg (by decide), if_pos (by omega), if_pos (by omega), hr, if_pos (by omega)]
            by_cases h4 : c < 240
            · rw [decide_eq_true h4, mandrelref06_Text.j2, if_pos rfl, if_pos (by omega), if_pos (by omega), hr, mandrelref06_Text.j3, w64_in (x := c) (by omega) (by omega), w64_in (by omega) (by omega)]
              exact ref_two x0 hl hb i (k + 2) c r hdr (by omega) h4 (IH (k + 2) (by omega))
            · rw [decide_eq_false h4, mandrelref06_Text.j2, if_neg (by decide), if_pos (by omega), if_pos (by omega), hr, if_pos (by omega)]
              by_cases h5 : c < 248
              · rw [if_pos h5, mandrelref06_Text.j3, w64_in (x := c) (by omega) (by omega), w64_in (by omega) (by omega)]
                exact ref_three x0 hl hb i (k + 1) c r hdr (by omega) h5 (IH (k + 1) (by omega))
              · rw [if_neg h5, F (.inr (by omega))]
        · rw [if_neg h2, mandrelref06_Text.j1, if_neg (by decide), if_pos (by omega), if_pos (by omega), hr, if_neg (by omega), mandrelref06_Text.j2, if_neg (by decide), if_pos (by omega), if_pos (by omega), hr, if_neg (by omega), F (.inl (by omega))]
end Go.Proofs.YtljmikfpknmnnaaDoor.Sect
