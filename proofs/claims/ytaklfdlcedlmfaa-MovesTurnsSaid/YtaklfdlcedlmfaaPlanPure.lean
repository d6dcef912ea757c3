/- What Plan answers, as one plain function. No program. -/
import Derived.Test.YtaklfdlcedlmfaaPlanBad
namespace Go.Proofs.Ytaklfdlcedlmfaa.XM
open Go.RowKit Mo
set_option linter.unusedVariables false
/-- How often each place is taken from by those keys. -/
def usesL (f : Int → Option Int) (ss : List Int) : Int → Option Int := fun x => if (ss.filter fun y => f y == some x).length = 0 then none else some ((ss.filter fun y => f y == some x).length : Int)
theorem usesL_nil (f : Int → Option Int) : usesL f [] = fun _ => none := rfl
theorem usesL_get (f : Int → Option Int) (ss : List Int) (x : Int) : (usesL f ss x).getD 0 = ((ss.filter fun y => f y == some x).length : Int) := by
  unfold usesL
  split
  · rename_i h; rw [h]; rfl
  · rfl
theorem usesL_step (f : Int → Option Int) (ss : List Int) (y c : Int) (h : f y = some c) : usesL f (ss ++ [y]) = Mo.up (usesL f ss) c (some ((usesL f ss c).getD 0 + 1)) := by
  funext x
  unfold Mo.up
  by_cases e : x = c
  · subst e
    rw [if_pos rfl, usesL_get]
    unfold usesL
    simp [h]
  · rw [if_neg e]
    have e2 : ¬ c = x := fun h => e h.symm
    unfold usesL
    simp [h, e2]
theorem usesL_perm {f : Int → Option Int} {xs ys : List Int} (h : xs.Perm ys) : usesL f xs = usesL f ys := by
  funext x
  unfold usesL
  rw [(h.filter _).length_eq]
def dosOf (l : List Mv) (s : (Int → Option Int) × (Int → Option Int) × List Mv) : (Int → Option Int) × (Int → Option Int) × List Mv := l.foldl (fun s m => doF 1000 s.1 s.2.1 s.2.2 m.f0) s
def turnsOf (rings : List (List Int)) (temp : Int) (out : List Mv) : List Mv := rings.foldl (fun out r => turnF r temp (out ++ [⟨temp, r.getD 0 0⟩])) out
def planOf (l : List Mv) (temp : Int) : List Mv := turnsOf (ringsOf l) temp (dosOf l (srcs l, usesL (srcs l) (keysOf l), [])).2.2
theorem turnL_len (r : List Int) : ∀ (k : Nat) (out : List Mv), (turnL r k out).length ≤ out.length + k
  | 0, out => Nat.le_refl _
  | k + 1, out => by
    rw [turnL]
    split
    · omega
    · have := turnL_len r k (out ++ [⟨r.getD (k + 1) 0, r.getD k 0⟩])
      simp at this ⊢
      omega
theorem turnF_len (r : List Int) (temp : Int) (out : List Mv) : (turnF r temp out).length ≤ out.length + r.length + 2 := by
  unfold turnF
  have := turnL_len r (r.length - 1) (out ++ [⟨r.getD 0 0, r.getD (r.length - 1) 0⟩])
  simp at this ⊢
  omega
theorem ringF_len (f : Int → Option Int) (a : Int) : ∀ (k : Nat) (out : List Int) (o : Option Int), (ringF f a k out o).length ≤ out.length + k
  | 0, out, none => by simp [ringF]
  | 0, out, some x => by simp [ringF]
  | k + 1, out, none => by simp [ringF]
  | k + 1, out, some x => by
    rw [ringF]
    split
    · simp
    · split
      · simp
      · have := ringF_len f a k (out ++ [x]) (f x)
        simp at this
        omega
theorem ringF_two (f : Int → Option Int) (a : Int) : ∀ (k : Nat) (out : List Int) (o : Option Int), (out = [] → o ≠ some a) → (ringF f a k out o).length = 0 ∨ 2 ≤ (ringF f a k out o).length
  | 0, out, none, _ => by simp [ringF]
  | 0, out, some x, _ => by simp [ringF]
  | k + 1, out, none, _ => by simp [ringF]
  | k + 1, out, some x, h => by
    rw [ringF]
    split
    · rename_i e
      right
      cases out with
      | nil => exact absurd (by rw [e]) (h rfl)
      | cons y ys => simp
    · split
      · simp
      · exact ringF_two f a k (out ++ [x]) (f x) (fun h => by simp at h)
theorem rings_fold (f : Int → Option Int) (N : Nat) (hs : ∀ x, f x ≠ some x) : ∀ (P : List Int) (out : List (List Int)), (∀ r ∈ out, 2 ≤ r.length ∧ r.length ≤ N) → ∀ r ∈ P.foldl (ringStep f N) out, 2 ≤ r.length ∧ r.length ≤ N
  | [], _, h => h
  | a :: P, out, h => rings_fold f N hs P _ (fun r hr => by
    unfold ringStep at hr
    split at hr
    · exact h r hr
    · rename_i h0
      split at hr
      · rw [List.mem_append, List.mem_singleton] at hr
        rcases hr with hr | rfl
        · exact h r hr
        · refine ⟨(ringF_two f a N [] (f a) (fun _ => hs a)).resolve_left h0, ?_⟩
          have := ringF_len f a N [] (f a)
          simpa using this
      · exact h r hr)
theorem rings_len {l : List Mv} {r : List Int} (h : r ∈ ringsOf l) : 2 ≤ r.length ∧ r.length ≤ l.length := rings_fold (srcs l) l.length (srcs_self l) (placesOf l) [] (fun _ h => (by cases h)) r h
theorem rings_count_le (f : Int → Option Int) (N : Nat) : ∀ (P : List Int) (out : List (List Int)), (P.foldl (ringStep f N) out).length ≤ out.length + P.length
  | [], _ => Nat.le_refl _
  | a :: P, out => by
    have h1 := rings_count_le f N P (ringStep f N out a)
    have h2 := ringStep_len f N out a
    rw [List.foldl_cons, List.length_cons]
    omega
theorem rings_count (l : List Mv) : (ringsOf l).length ≤ l.length := by
  have h1 := rings_count_le (srcs l) l.length (placesOf l) []
  have h2 := places_len l
  unfold ringsOf
  simp at h1
  omega
end Go.Proofs.Ytaklfdlcedlmfaa.XM
