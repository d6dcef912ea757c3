/- Sections joined: the bytes, what Split makes of them, of them with one more, and of them cut within the last. No program's walk. -/
import Derived.Test.YtljmikfpknmnnaaDoorJoin
import Derived.Test.YtljmikfpknmnnaaDoorSplit
import Derived.Test.YtljmikfpknmnnaaDoorLebTake
namespace Go.Proofs.YtljmikfpknmnnaaDoor.Sect
open Go Go.RowKit Go.Proofs.YtljmikfpknmnnaaDoor.M Go.Proofs.YtljmikfpknmnnaaDoor.Leb Go.Proofs.YtljmikfpknmnnaaDoor.XS Go.Proofs.YtljmikfpknmnnaaDoorW.PrintWords Go.Proofs.YtljmikfpknmnnaaDoorW.PrintLast Go.Proofs.YtljmikfpknmnnaaDoorW.PrintMore
def headB : List Int := [0, 97, 115, 109, 1, 0, 0, 0]
def encSec (s : S53) : List Int := s.f0 :: (encU s.f2.length ++ s.f2)
def encSecs : List S53 → List Int
  | [] => []
  | s :: l => encSec s ++ encSecs l
def joinOf (l : List S53) : List Int := headB ++ encSecs l
theorem encSecs_app (l m : List S53) : encSecs (l ++ m) = encSecs l ++ encSecs m := by
  induction l with
  | nil => rfl
  | cons s l ih => rw [List.cons_append, encSecs, ih, encSecs, List.append_assoc]
theorem encSec_len (s : S53) : (encSec s).length = 1 + (encU s.f2.length).length + s.f2.length := by unfold encSec; simp; omega
theorem encSec_2 (s : S53) : 2 ≤ (encSec s).length := by have := encU_pos s.f2.length; rw [encSec_len]; omega
theorem encSecs_2 (l : List S53) : 2 * l.length ≤ (encSecs l).length := by
  induction l with
  | nil => simp [encSecs]
  | cons s l ih => have := encSec_2 s; rw [encSecs, List.length_append, List.length_cons]; omega
/-- Sections that are bytes, each of less than 2^32. -/
def OkS (l : List S53) : Prop := ∀ s ∈ l, (0 ≤ s.f0 ∧ s.f0 < 256) ∧ BB s.f2 ∧ s.f2.length < 4294967296
theorem encSec_bytes {s : S53} (h0 : 0 ≤ s.f0 ∧ s.f0 < 256) (h : BB s.f2) : BB (encSec s) := by
  intro x hx
  unfold encSec at hx
  rcases List.mem_cons.mp hx with rfl | hx
  · exact h0
  · rcases List.mem_append.mp hx with hx | hx
    · exact encU_bytes _ x hx
    · exact h x hx
theorem encSecs_bytes (l : List S53) (h : OkS l) : BB (encSecs l) := by
  induction l with
  | nil => intro x hx; simp [encSecs] at hx
  | cons s l ih =>
    intro x hx
    rw [encSecs] at hx
    rcases List.mem_append.mp hx with hx | hx
    · exact encSec_bytes (h s (by simp)).1 (h s (by simp)).2.1 x hx
    · exact ih (fun s hs => h s (by simp [hs])) x hx
theorem headB_bytes : BB headB := by unfold BB headB; decide
theorem joinOf_bytes (l : List S53) (h : OkS l) : BB (joinOf l) := fun x hx => (List.mem_append.mp hx).elim (headB_bytes x) (encSecs_bytes l h x)
def badS (top : Int) (id : Int) : Prop := id > 11 ∨ (id > 0 ∧ id ≤ top)
instance (top id : Int) : Decidable (badS top id) := by unfold badS; infer_instance
def nameS (s : S53) : Option Int := if s.f0 = 0 then nameE s.f2 else none
/-- One section. -/
theorem split_step (s : S53) (h2 : s.f2.length < 4294967296) (d : Nat) (p r : List Int) (out : List S53) (top : Int) :
    splitS (d + 1) (p ++ (encSec s ++ r)) out top p.length = if badS top s.f0 then ([], (p.length : Int), some 6) else
      match nameS s with
      | some e => ([], (p.length : Int) + 1 + (encU s.f2.length).length, some e)
      | none => splitS d (p ++ (encSec s ++ r)) (out ++ [⟨s.f0, (p.length : Int) + 1 + (encU s.f2.length).length, s.f2⟩]) (mx top s.f0) (p.length + (encSec s).length) := by
  have hl := encSec_len s
  have hlen : (p ++ (encSec s ++ r)).length = p.length + (1 + (encU s.f2.length).length + s.f2.length + r.length) := by rw [List.length_append, List.length_append, hl]
  have hid : (p ++ (encSec s ++ r)).getD p.length 0 = s.f0 := by
    rw [List.getD_eq_getElem?_getD, List.getElem?_append_right (by omega), Nat.sub_self]; rfl
  have hdr : (p ++ (encSec s ++ r)).drop (p.length + 1) = encU s.f2.length ++ (s.f2 ++ r) := by
    rw [List.drop_append, List.drop_of_length_le (by omega), List.nil_append, show p.length + 1 - p.length = 1 by omega]
    unfold encSec
    rw [List.cons_append, List.drop_succ_cons, List.drop_zero, List.append_assoc]
  have htk : takeUOf ((p ++ (encSec s ++ r)).drop (p.length + 1)) 32 = ((s.f2.length : Int), ((encU s.f2.length).length : Int), none) := by
    rw [hdr, takeU_enc _ _ 32 (by omega) (by omega), if_pos (by omega)]
  have hcut : ((p ++ (encSec s ++ r)).take (p.length + 1 + (encU s.f2.length).length + s.f2.length)).drop (p.length + 1 + (encU s.f2.length).length) = s.f2 := by
    rw [List.drop_take, show p.length + 1 + (encU s.f2.length).length + s.f2.length - (p.length + 1 + (encU s.f2.length).length) = s.f2.length by omega, Nat.add_assoc, Nat.add_comm 1, ← Nat.add_assoc, Nat.add_right_comm, ← List.drop_drop, hdr, List.drop_left, List.take_left]
  rw [splitS, if_pos (by omega), hid]
  by_cases bad : badS top s.f0
  · rw [if_pos bad, if_pos (by exact bad)]
  · rw [if_neg bad, if_neg (by exact bad), htk]
    simp only []
    rw [if_neg (by omega), Int.toNat_natCast, Int.toNat_natCast, hcut]
    unfold nameS
    rw [show p.length + 1 + (encU s.f2.length).length + s.f2.length = p.length + (encSec s).length by omega]
    rfl
/-- One section whose contents are cut. -/
theorem split_cut (s : S53) (h2 : s.f2.length < 4294967296) (d : Nat) (p : List Int) (c : List Int) (hc : c.length < s.f2.length) (out : List S53) (top : Int) (hok : ¬ badS top s.f0) :
    splitS (d + 1) (p ++ (s.f0 :: (encU s.f2.length ++ c))) out top p.length = ([], (p.length : Int) + 1, some 4) := by
  have hlen : (p ++ (s.f0 :: (encU s.f2.length ++ c))).length = p.length + (1 + (encU s.f2.length).length + c.length) := by simp; omega
  have hid : (p ++ (s.f0 :: (encU s.f2.length ++ c))).getD p.length 0 = s.f0 := by
    rw [List.getD_eq_getElem?_getD, List.getElem?_append_right (by omega), Nat.sub_self]; rfl
  have hdr : (p ++ (s.f0 :: (encU s.f2.length ++ c))).drop (p.length + 1) = encU s.f2.length ++ c := by
    rw [List.drop_append, List.drop_of_length_le (by omega), List.nil_append, show p.length + 1 - p.length = 1 by omega, List.drop_succ_cons, List.drop_zero]
  have htk : takeUOf ((p ++ (s.f0 :: (encU s.f2.length ++ c))).drop (p.length + 1)) 32 = ((s.f2.length : Int), ((encU s.f2.length).length : Int), none) := by
    rw [hdr, takeU_enc _ _ 32 (by omega) (by omega), if_pos (by omega)]
  rw [splitS, if_pos (by omega), hid, if_neg (by exact hok), htk]
  simp only []
  rw [if_pos (by omega)]
def walkOk : Int → List S53 → Bool
  | _, [] => true
  | top, s :: l => (!decide (badS top s.f0)) && ((nameS s).isNone && walkOk (mx top s.f0) l)
def topOf (top : Int) (l : List S53) : Int := l.foldl (fun t s => mx t s.f0) top
def laid : Nat → List S53 → List S53
  | _, [] => []
  | a, s :: l => ⟨s.f0, (a : Int) + 1 + (encU s.f2.length).length, s.f2⟩ :: laid (a + (encSec s).length) l
theorem topOf_cons (top : Int) (s : S53) (l : List S53) : topOf top (s :: l) = topOf (mx top s.f0) l := rfl
theorem walkOk_app (top : Int) (l m : List S53) : walkOk top (l ++ m) = (walkOk top l && walkOk (topOf top l) m) := by
  induction l generalizing top with
  | nil => rfl
  | cons s l ih => rw [List.cons_append, walkOk, ih, walkOk, topOf_cons]; simp only [Bool.and_assoc]
theorem laid_length (a : Nat) (l : List S53) : (laid a l).length = l.length := by
  induction l generalizing a with
  | nil => rfl
  | cons s l ih => rw [laid, List.length_cons, List.length_cons, ih]
theorem split_list (l : List S53) (hl : OkS l) : ∀ (d : Nat) (p r : List Int) (out : List S53) (top : Int), l.length ≤ d →
    (walkOk top l = true → splitS d (p ++ (encSecs l ++ r)) out top p.length = splitS (d - l.length) (p ++ (encSecs l ++ r)) (out ++ laid p.length l) (topOf top l) (p.length + (encSecs l).length)) ∧
    (walkOk top l = false → ∃ i e, splitS d (p ++ (encSecs l ++ r)) out top p.length = ([], i, some e)) := by
  induction l with
  | nil => intro d p r out top _; simp [walkOk, encSecs, laid, topOf]
  | cons s l ih =>
    intro d p r out top hd
    rw [List.length_cons] at hd
    obtain ⟨d, rfl⟩ : ∃ m, d = m + 1 := ⟨d - 1, by omega⟩
    have h2 := (hl s (by simp)).2.2
    have e1 : p ++ (encSecs (s :: l) ++ r) = p ++ (encSec s ++ (encSecs l ++ r)) := by rw [encSecs, List.append_assoc]
    rw [e1, split_step s h2]
    by_cases bad : badS top s.f0
    · rw [if_pos bad]
      exact ⟨fun h => by simp [walkOk, bad] at h, fun _ => ⟨_, _, rfl⟩⟩
    · rw [if_neg bad]
      rcases hn : nameS s with _ | e
      · have ih2 := ih (fun s hs => hl s (by simp [hs])) d (p ++ encSec s) r (out ++ [⟨s.f0, (p.length : Int) + 1 + (encU s.f2.length).length, s.f2⟩]) (mx top s.f0) (by omega)
        have e2 : p ++ (encSec s ++ (encSecs l ++ r)) = (p ++ encSec s) ++ (encSecs l ++ r) := by rw [List.append_assoc]
        simp only []
        rw [e2, show p.length + (encSec s).length = (p ++ encSec s).length by rw [List.length_append]]
        have hw : walkOk top (s :: l) = walkOk (mx top s.f0) l := by simp [walkOk, bad, hn]
        rw [hw]
        refine ⟨fun h => ?_, ih2.2⟩
        rw [ih2.1 h, List.length_cons, laid, topOf_cons, encSecs]
        simp only [List.length_append, List.append_assoc, List.cons_append, List.nil_append]
        rw [show d + 1 - (l.length + 1) = d - l.length by omega, Nat.add_assoc]
      · exact ⟨fun h => by simp [walkOk, bad, hn] at h, fun _ => ⟨_, _, rfl⟩⟩
theorem hdErr_app : ∀ (h r : List Int) (i : Int), hdErr h (h ++ r) i = none
  | [], _, _ => rfl
  | x :: hs, r, i => by rw [List.cons_append, hdErr, if_pos rfl, hdErr_app hs r (i + 1)]
theorem split_join (l : List S53) (hl : OkS l) : (walkOk 0 l = true → splitOf (joinOf l) = (laid 8 l, ((joinOf l).length : Int), none)) ∧ (walkOk 0 l = false → ∃ i e, splitOf (joinOf l) = ([], i, some e)) := by
  have h := split_list l hl (joinOf l).length headB [] [] 0 (by unfold joinOf; have := encSecs_2 l; rw [List.length_append]; omega)
  rw [List.append_nil] at h
  have e : splitOf (joinOf l) = splitS (joinOf l).length (joinOf l) [] 0 8 := by
    unfold splitOf
    rw [show hdErr [0, 97, 115, 109, 1, 0, 0, 0] (joinOf l) 0 = none from hdErr_app headB (encSecs l) 0]
  rw [e]
  refine ⟨fun hw => ?_, fun hw => h.2 hw⟩
  refine (h.1 hw).trans ?_
  have e3 : headB.length + (encSecs l).length = (joinOf l).length := by unfold joinOf; rw [List.length_append]
  rw [e3, List.nil_append]
  change splitS _ (joinOf l) _ _ _ = _
  cases (joinOf l).length - l.length with
  | zero => rw [splitS]; rfl
  | succ n => rw [splitS, if_neg (by omega)]; rfl
theorem topOf_ge (top : Int) (l : List S53) : top ≤ topOf top l := by
  induction l generalizing top with
  | nil => exact Int.le_refl _
  | cons s l ih => rw [topOf_cons]; exact Int.le_trans (by unfold mx; split <;> omega) (ih _)
/-- One more section of an ID that is there. -/
theorem split_more (l : List S53) (hl : OkS l) (ht : topOf 0 l > 0) (h8 : topOf 0 l < 256) : ∃ i e, splitOf (joinOf (l ++ [⟨topOf 0 l, 0, []⟩])) = ([], i, some e) := by
  refine (split_join (l ++ [⟨topOf 0 l, 0, []⟩]) ?_).2 ?_
  · intro s hs
    rcases List.mem_append.mp hs with hs | hs
    · exact hl s hs
    · rw [List.mem_singleton] at hs
      subst hs
      exact ⟨⟨by simp only []; omega, by simp only []; omega⟩, fun x hx => by simp at hx, by simp⟩
  · rw [walkOk_app, walkOk]
    simp only []
    rw [show decide (badS (topOf 0 l) (topOf 0 l)) = true from decide_eq_true (.inr ⟨ht, Int.le_refl _⟩)]
    simp
/-- Cut within the last section's contents. -/
theorem split_short (l : List S53) (s : S53) (hl : OkS (l ++ [s])) (hw : walkOk 0 (l ++ [s]) = true) (k : Nat) (h1 : 1 ≤ k) (h2 : k ≤ s.f2.length) : ∃ i, splitOf ((joinOf (l ++ [s])).take ((joinOf (l ++ [s])).length - k)) = ([], i, some 4) := by
  have e0 : joinOf (l ++ [s]) = joinOf l ++ encSec s := by unfold joinOf; rw [encSecs_app, encSecs, encSecs, List.append_nil, List.append_assoc]
  have e1 : (joinOf (l ++ [s])).take ((joinOf (l ++ [s])).length - k) = joinOf l ++ (s.f0 :: (encU s.f2.length ++ s.f2.take (s.f2.length - k))) := by
    rw [e0, List.length_append, Nat.add_sub_assoc (by have := encSec_len s; omega), List.take_length_add_append]
    unfold encSec
    rw [show (s.f0 :: (encU s.f2.length ++ s.f2)).length - k = (encU s.f2.length).length + (s.f2.length - k) + 1 by simp; omega, List.take_succ_cons, List.take_length_add_append]
  rw [e1]
  have hw2 := hw
  rw [walkOk_app, Bool.and_eq_true] at hw2
  have hb : ¬ badS (topOf 0 l) s.f0 := by
    intro hb
    have := hw2.2
    simp [walkOk, hb] at this
  have hs2 := (hl s (by simp)).2.2
  have hlo : OkS l := fun x hx => hl x (by simp [hx])
  have hlen : l.length + 1 ≤ (joinOf l ++ (s.f0 :: (encU s.f2.length ++ s.f2.take (s.f2.length - k)))).length := by unfold joinOf; have := encSecs_2 l; simp; omega
  have h := (split_list l hlo (joinOf l ++ (s.f0 :: (encU s.f2.length ++ s.f2.take (s.f2.length - k)))).length headB (s.f0 :: (encU s.f2.length ++ s.f2.take (s.f2.length - k))) [] 0 (by omega)).1 hw2.1
  have e2 : headB ++ (encSecs l ++ (s.f0 :: (encU s.f2.length ++ s.f2.take (s.f2.length - k)))) = joinOf l ++ (s.f0 :: (encU s.f2.length ++ s.f2.take (s.f2.length - k))) := by unfold joinOf; rw [List.append_assoc]
  rw [e2] at h
  have e3 : splitOf (joinOf l ++ (s.f0 :: (encU s.f2.length ++ s.f2.take (s.f2.length - k)))) = splitS (joinOf l ++ (s.f0 :: (encU s.f2.length ++ s.f2.take (s.f2.length - k)))).length (joinOf l ++ (s.f0 :: (encU s.f2.length ++ s.f2.take (s.f2.length - k)))) [] 0 8 := by
    unfold splitOf
    rw [← e2, show hdErr [0, 97, 115, 109, 1, 0, 0, 0] (headB ++ (encSecs l ++ (s.f0 :: (encU s.f2.length ++ s.f2.take (s.f2.length - k))))) 0 = none from hdErr_app headB _ 0]
  rw [e3]
  refine ⟨((joinOf l).length : Int) + 1, h.trans ?_⟩
  have e4 : headB.length + (encSecs l).length = (joinOf l).length := by unfold joinOf; rw [List.length_append]
  rw [e4]
  obtain ⟨m, hm⟩ : ∃ m, (joinOf l ++ (s.f0 :: (encU s.f2.length ++ s.f2.take (s.f2.length - k)))).length - l.length = m + 1 := ⟨_ - 1, (Nat.sub_add_cancel (by omega)).symm⟩
  rw [hm]
  exact split_cut s hs2 m (joinOf l) (s.f2.take (s.f2.length - k)) (by rw [List.length_take]; omega) _ _ hb
/-- Section i: where it stands. -/
theorem laid_get (l : List S53) : ∀ (a i : Nat), i < l.length → ∃ o : Nat, (laid a l).getD i z53 = ⟨(l.getD i z53).f0, (o : Int), (l.getD i z53).f2⟩ ∧ a + 2 ≤ o ∧ o + (l.getD i z53).f2.length ≤ a + (encSecs l).length ∧ ∀ p : List Int, p.length = a → ∀ r, ((p ++ (encSecs l ++ r)).take (o + (l.getD i z53).f2.length)).drop o = (l.getD i z53).f2 := by
  induction l with
  | nil => intro a i h; simp at h
  | cons s l ih =>
    intro a i h
    have hl := encSec_len s
    have hp := encU_pos s.f2.length
    cases i with
    | zero =>
      refine ⟨a + 1 + (encU s.f2.length).length, ?_, by omega, ?_, ?_⟩
      · rw [laid]; simp
      · rw [encSecs, List.length_append]; simp; omega
      · intro p hpl r
        have hdr : (p ++ (encSecs (s :: l) ++ r)).drop (p.length + 1 + (encU s.f2.length).length) = s.f2 ++ (encSecs l ++ r) := by
          rw [Nat.add_assoc, List.drop_append, List.drop_of_length_le (by omega), List.nil_append, show p.length + (1 + (encU s.f2.length).length) - p.length = (encU s.f2.length).length + 1 by omega]
          rw [encSecs]
          unfold encSec
          rw [List.cons_append, List.cons_append, List.drop_succ_cons, List.append_assoc, List.append_assoc, List.drop_left]
        rw [List.drop_take, ← hpl, hdr]
        simp
    | succ i =>
      rw [List.length_cons] at h
      obtain ⟨o, h1, h2, h3, h4⟩ := ih (a + (encSec s).length) i (by omega)
      refine ⟨o, ?_, by omega, ?_, ?_⟩
      · rw [laid]; simpa using h1
      · rw [encSecs, List.length_append]; simp at h3 ⊢; omega
      · intro p hpl r
        have := h4 (p ++ encSec s) (by rw [List.length_append, hpl]) r
        rw [encSecs]
        simpa using this
/-- Join, of sections that are bytes. -/
theorem join_l0 (l : List S53) (hl : OkS l) (hlen : (joinOf l).length < 1000000) : ∀ (d i k : Nat), l.length - i = d → i ≤ l.length → d + 11000060 ≤ k →
    sect_Join.l0 k (headB ++ encSecs (l.take i)) l (l.length : Int) (i : Int) = some (if (splitOf (joinOf l)).2.2.isNone = true then (joinOf l, none) else ([], some 1)) := by
  intro d
  induction d with
  | zero =>
    intro i k hd hi hk
    obtain ⟨k, rfl⟩ : ∃ m, k = m + 1 := ⟨k - 1, by omega⟩
    rw [sect_Join.l0, if_neg (by omega), List.take_of_length_le (by omega)]
    change (sect_Split.f k (joinOf l)).bind _ = _
    rw [prog_split (joinOf l) (joinOf_bytes l hl) (by omega) k (by omega), Option.bind_some]
    split <;> rfl
  | succ d ih =>
    intro i k hd hi hk
    obtain ⟨k, rfl⟩ : ∃ m, k = m + 1 := ⟨k - 1, by omega⟩
    have hr : rd_T53 l (i : Int) = l[i] := by unfold rd_T53; rw [Int.toNat_natCast, List.getD_eq_getElem?_getD, List.getElem?_eq_getElem (by omega)]; rfl
    have hmem : l[i] ∈ l := List.getElem_mem _
    have hs := hl _ hmem
    have e1 : encSecs (l.take (i + 1)) = encSecs (l.take i) ++ encSec l[i] := by rw [List.take_succ_eq_append_getElem (by omega), encSecs_app, encSecs, encSecs, List.append_nil]
    have e2 : (encSecs l).length = (encSecs (l.take (i + 1))).length + (encSecs (l.drop (i + 1))).length := by rw [← List.length_append, ← encSecs_app, List.take_append_drop]
    have e3 : (joinOf l).length = 8 + (encSecs l).length := by unfold joinOf headB; simp; omega
    have e4 := encSec_len l[i]
    have e5 : (encSecs (l.take (i + 1))).length = (encSecs (l.take i)).length + (encSec l[i]).length := by rw [e1, List.length_append]
    have e6 : headB.length = 8 := rfl
    have e7 := encSecs_2 l
    rw [sect_Join.l0, if_pos (by omega), if_pos (by omega), if_pos (by omega), if_pos (by rw [List.length_append]; omega), hr, idU _ (by omega), putU _ _ k (by omega) (by simp; omega) (by omega) (by omega), Option.bind_some, Int.toNat_natCast, if_pos (by simp; omega)]
    have ih2 := ih (i + 1) k (by omega) (by omega) (by omega)
    rw [addW1 i (by omega), ← ih2, e1]
    unfold encSec
    simp
theorem join_f (l : List S53) (hl : OkS l) (hlen : (joinOf l).length < 1000000) (k : Nat) (hk : l.length + 11000060 ≤ k) : sect_Join.f k l = some (if (splitOf (joinOf l)).2.2.isNone = true then (joinOf l, none) else ([], some 1)) := by
  have h := join_l0 l hl hlen l.length 0 k (by omega) (by omega) hk
  rw [List.take_zero, encSecs, List.append_nil] at h
  exact h
end Go.Proofs.YtljmikfpknmnnaaDoor.Sect
