/- Going on from place to place: rings, and where no ring is. No program. -/
import Derived.Test.YtaklfdlcedlmfaaPlanPure
namespace Go.Proofs.Ytaklfdlcedlmfaa.XM
open Go.RowKit Mo
set_option linter.unusedVariables false
/-- n times on. -/
def it (f : Int → Option Int) : Nat → Int → Option Int
  | 0, a => some a
  | n + 1, a => (it f n a).bind f
theorem it_add (f : Int → Option Int) (a : Int) (m : Nat) : ∀ n, it f (m + n) a = (it f m a).bind (it f n)
  | 0 => by cases it f m a <;> simp [it]
  | n + 1 => by
    rw [← Nat.add_assoc, it, it_add f a m n]
    cases h : it f m a with
    | none => rfl
    | some y => rfl
theorem it_one (f : Int → Option Int) (a : Int) : it f 1 a = f a := rfl
theorem it_succ (f : Int → Option Int) (a : Int) (n : Nat) : it f (n + 1) a = (f a).bind (it f n) := by
  rw [Nat.add_comm, it_add]
  rfl
/-- Each goes on to the one behind it. -/
def Path (f : Int → Option Int) : Int → List Int → Prop
  | _, [] => True
  | a, x :: xs => f a = some x ∧ Path f x xs
def lst : Int → List Int → Int
  | a, [] => a
  | _, x :: xs => lst x xs
theorem lst_snoc (x : Int) : ∀ (a : Int) (xs : List Int), lst a (xs ++ [x]) = x
  | _, [] => rfl
  | _, y :: ys => lst_snoc x y ys
theorem lst_mem : ∀ (a : Int) (xs : List Int), lst a xs ∈ a :: xs
  | a, [] => List.mem_singleton.2 rfl
  | a, x :: xs => List.mem_cons_of_mem _ (lst_mem x xs)
theorem Path.snoc {f : Int → Option Int} {x : Int} : ∀ {a : Int} {xs : List Int}, Path f a xs → f (lst a xs) = some x → Path f a (xs ++ [x])
  | _, [], _, h => ⟨h, trivial⟩
  | _, y :: ys, hp, h => ⟨hp.1, hp.2.snoc h⟩
theorem Path.its {f : Int → Option Int} : ∀ {a : Int} {xs : List Int}, Path f a xs → it f xs.length a = some (lst a xs)
  | _, [], _ => rfl
  | a, y :: ys, h => by
    rw [List.length_cons, it_succ, h.1]
    exact h.2.its
theorem Path.left {f : Int → Option Int} : ∀ {a : Int} {xs ys : List Int}, Path f a (xs ++ ys) → Path f a xs
  | _, [], _, _ => trivial
  | _, _ :: _, _, h => ⟨h.1, h.2.left⟩
theorem Path.next {f : Int → Option Int} {x : Int} {ys : List Int} : ∀ {a : Int} {xs : List Int}, Path f a (xs ++ x :: ys) → f (lst a xs) = some x
  | _, [], h => h.1
  | _, _ :: _, h => h.2.next
/-- A ring: a, and those behind it, and a again. -/
structure RingAt (f : Int → Option Int) (a : Int) (rest : List Int) : Prop where
  path : Path f a rest
  nodup : (a :: rest).Nodup
  back : f (lst a rest) = some a
theorem RingAt.turn {f : Int → Option Int} {a : Int} {rest : List Int} (h : RingAt f a rest) : it f (rest.length + 1) a = some a := by
  rw [XM.it, h.path.its]
  exact h.back
def OnRing (f : Int → Option Int) (a : Int) : Prop := ∃ n, it f (n + 1) a = some a
theorem RingAt.on {f : Int → Option Int} {a : Int} {rest : List Int} (h : RingAt f a rest) : OnRing f a := ⟨_, h.turn⟩
/-- The program's ring, where it answers one. -/
theorem ringF_some (f : Int → Option Int) (a : Int) : ∀ (k : Nat) (out : List Int), Path f a out → (a :: out).Nodup → ringF f a k out (f (lst a out)) ≠ [] → ∃ rest, RingAt f a rest ∧ ringF f a k out (f (lst a out)) = a :: rest.reverse
  | 0, out, hp, hn, h => by
    exfalso; apply h; cases f (lst a out) <;> rfl
  | k + 1, out, hp, hn, h => by
    cases ho : f (lst a out) with
    | none => rw [ho] at h; exact absurd rfl h
    | some x =>
      rw [ho] at h
      rw [ringF] at h ⊢
      by_cases e : x = a
      · rw [if_pos e]
        exact ⟨out, ⟨hp, hn, by rw [ho, e]⟩, rfl⟩
      · rw [if_neg e] at h ⊢
        by_cases c : (a :: out).contains x = true
        · rw [if_pos c] at h; exact absurd rfl h
        · rw [if_neg c] at h ⊢
          have hx : x ∉ a :: out := fun hm => c (List.contains_iff_mem.2 hm)
          have h2 := ringF_some f a k (out ++ [x]) (hp.snoc ho) (by
            rw [← List.cons_append, List.nodup_append]
            exact ⟨hn, by simp, fun y hy z hz e => hx (by rw [List.mem_singleton] at hz; rw [← hz, ← e]; exact hy)⟩)
          rw [lst_snoc] at h2
          exact h2 h
/-- The program's ring, where there is one. -/
theorem ringF_ring (f : Int → Option Int) (a : Int) : ∀ (k : Nat) (out tl : List Int), RingAt f a (out ++ tl) → tl.length + 1 ≤ k → ringF f a k out (f (lst a out)) = a :: (out ++ tl).reverse
  | 0, _, _, _, h => by omega
  | k + 1, out, [], h, hk => by
    rw [List.append_nil] at h ⊢
    rw [h.back, ringF, if_pos rfl]
  | k + 1, out, x :: tl, h, hk => by
    have hn := h.nodup
    have hf := h.path.next
    rw [← List.cons_append, List.nodup_append] at hn
    have hx : x ∉ a :: out := fun hm => hn.2.2 x hm x List.mem_cons_self rfl
    rw [hf, ringF, if_neg (fun e => hx (by rw [e]; exact List.mem_cons_self)), if_neg (fun c => hx (List.contains_iff_mem.1 c))]
    have h2 := ringF_ring f a k (out ++ [x]) tl (by rw [List.append_assoc]; exact h) (by simpa using hk)
    rw [lst_snoc, List.append_assoc] at h2
    exact h2
/-- Those gone by, n of them. -/
def gone (f : Int → Option Int) (a : Int) : Nat → List Int
  | 0 => []
  | n + 1 => gone f a n ++ [(it f (n + 1) a).getD 0]
theorem gone_len (f : Int → Option Int) (a : Int) : ∀ n, (gone f a n).length = n
  | 0 => rfl
  | n + 1 => by rw [gone, List.length_append, gone_len f a n]; rfl
theorem it_some_le {f : Int → Option Int} {a : Int} {n m : Nat} (h : (it f n a).isSome = true) (hm : m ≤ n) : (it f m a).isSome = true := by
  obtain ⟨d, rfl⟩ := Nat.le.dest hm
  rw [it_add] at h
  cases e : it f m a with
  | none => rw [e] at h; cases h
  | some y => rfl
theorem gone_lst (f : Int → Option Int) (a : Int) (n : Nat) (h : (it f n a).isSome = true) : it f n a = some (lst a (gone f a n)) := by
  cases n with
  | zero => rfl
  | succ n =>
    rw [gone, lst_snoc]
    cases e : it f (n + 1) a with
    | none => rw [e] at h; cases h
    | some y => rfl
theorem gone_path (f : Int → Option Int) (a : Int) : ∀ n, (it f n a).isSome = true → Path f a (gone f a n)
  | 0, _ => trivial
  | n + 1, h => by
    have h1 := it_some_le h (Nat.le_succ n)
    rw [gone]
    refine (gone_path f a n h1).snoc ?_
    have h2 := gone_lst f a n h1
    have h3 : it f (n + 1) a = f (lst a (gone f a n)) := by rw [it, h2]; rfl
    rw [← h3]
    cases e : it f (n + 1) a with
    | none => rw [e] at h; cases h
    | some y => rfl
theorem gone_mem {f : Int → Option Int} {a x : Int} : ∀ {n : Nat}, x ∈ a :: gone f a n → ∃ i, i ≤ n ∧ x = (it f i a).getD 0
  | 0, h => ⟨0, Nat.le_refl _, by simpa [gone, it] using h⟩
  | n + 1, h => by
    rw [gone, ← List.cons_append, List.mem_append, List.mem_singleton] at h
    rcases h with h | h
    · obtain ⟨i, hi, e⟩ := gone_mem h
      exact ⟨i, by omega, e⟩
    · exact ⟨n + 1, Nat.le_refl _, h⟩
theorem gone_nodup (f : Int → Option Int) (a : Int) (N : Nat) (hN : it f (N + 1) a = some a) (hmin : ∀ m, m < N → it f (m + 1) a ≠ some a) : ∀ n, n ≤ N → (a :: gone f a n).Nodup
  | 0, _ => by simp [gone]
  | n + 1, hn => by
    rw [gone, ← List.cons_append, List.nodup_append]
    refine ⟨gone_nodup f a N hN hmin n (by omega), by simp, fun y hy z hz e => ?_⟩
    rw [List.mem_singleton] at hz
    obtain ⟨i, hi, e2⟩ := gone_mem hy
    have h1 : (it f i a).isSome = true := it_some_le (n := N + 1) (by rw [hN]; rfl) (by omega)
    have h2 : (it f (n + 1) a).isSome = true := it_some_le (n := N + 1) (by rw [hN]; rfl) (by omega)
    obtain ⟨u, hu⟩ := Option.isSome_iff_exists.1 h1
    obtain ⟨v, hv⟩ := Option.isSome_iff_exists.1 h2
    rw [hu] at e2
    rw [hv] at hz
    have huv : u = v := by
      have e2' : y = u := e2
      have hz' : z = v := hz
      rw [← e2', e, hz']
    -- from the later one on to a: so from the earlier one, too
    have h3 : it f (n + 1 + (N - n)) a = some a := by rw [show n + 1 + (N - n) = N + 1 by omega]; exact hN
    rw [it_add, hv] at h3
    have h4 : it f (i + (N - n)) a = some a := by rw [it_add, hu, huv]; exact h3
    exact hmin (i + (N - n) - 1) (by omega) (by rw [show i + (N - n) - 1 + 1 = i + (N - n) by omega]; exact h4)
/-- Who comes back to itself is on a ring. -/
theorem OnRing.ring {f : Int → Option Int} {a : Int} (h : OnRing f a) : ∃ rest, RingAt f a rest := by
  obtain ⟨n, hn⟩ := h
  induction n using Nat.strongRecOn with
  | _ n ih =>
    by_cases hm : ∃ m, m < n ∧ it f (m + 1) a = some a
    · obtain ⟨m, hm, h2⟩ := hm
      exact ih m hm h2
    · have hs : (it f n a).isSome = true := it_some_le (n := n + 1) (by rw [hn]; rfl) (by omega)
      refine ⟨gone f a n, gone_path f a n hs, gone_nodup f a n hn (fun m h1 h2 => hm ⟨m, h1, h2⟩) n (Nat.le_refl _), ?_⟩
      rw [it, gone_lst f a n hs] at hn
      exact hn
theorem ringF_none {f : Int → Option Int} {a : Int} {N : Nat} (hr : ∀ rest, RingAt f a rest → rest.length + 1 ≤ N) (h : ringF f a N [] (f a) = []) (n : Nat) : it f (n + 1) a ≠ some a := fun hn => by
  obtain ⟨rest, h1⟩ := OnRing.ring ⟨n, hn⟩
  have h2 := ringF_ring f a N [] rest h1 (hr rest h1)
  rw [show f (lst a []) = f a from rfl, h] at h2
  cases h2
theorem Path.mem_some {f : Int → Option Int} {y : Int} : ∀ {a : Int} {xs : List Int}, Path f a xs → (f (lst a xs)).isSome = true → y ∈ a :: xs → (f y).isSome = true
  | a, [], _, h, hy => by rw [List.mem_singleton] at hy; rw [hy]; exact h
  | a, x :: xs, hp, h, hy => by
    rw [List.mem_cons] at hy
    rcases hy with rfl | hy
    · rw [hp.1]; rfl
    · exact hp.2.mem_some h hy
theorem RingAt.has {f : Int → Option Int} {a y : Int} {rest : List Int} (h : RingAt f a rest) (hy : y ∈ a :: rest) : (f y).isSome = true := h.path.mem_some (by rw [h.back]; rfl) hy
theorem RingAt.short {f : Int → Option Int} {a : Int} {rest K : List Int} (h : RingAt f a rest) (hK : ∀ y, (f y).isSome = true → y ∈ K) : rest.length + 1 ≤ K.length := nodup_le (a :: rest) K h.nodup (fun y hy => hK y (h.has hy))
/-- Two lists without doubles, of which one holds the other and is no longer. -/
theorem perm_of_le : ∀ (xs ys : List Int), xs.Nodup → (∀ x ∈ xs, x ∈ ys) → ys.length ≤ xs.length → xs.Perm ys
  | [], ys, _, _, h => by
    have : ys = [] := List.eq_nil_of_length_eq_zero (by simpa using h)
    rw [this]
  | x :: xs, ys, hn, hs, h => by
    rw [List.nodup_cons] at hn
    have hx := hs x List.mem_cons_self
    have h2 := List.length_erase_of_mem hx
    have h3 := List.length_pos_of_mem hx
    have h4 := perm_of_le xs (ys.erase x) hn.2 (fun y hy => (List.mem_erase_of_ne (fun (e : y = x) => hn.1 (by rw [← e]; exact hy))).2 (hs y (List.mem_cons_of_mem _ hy))) (by rw [List.length_cons] at h; omega)
    exact (List.Perm.cons x h4).trans (List.perm_cons_erase hx).symm
/-- Where each is come to by one, each goes to one, and no two to the same. -/
theorem onto_inj {f : Int → Option Int} {R : List Int} (hn : R.Nodup) (hs : ∀ z ∈ R, ∃ y ∈ R, f y = some z) : (∀ y ∈ R, ∃ z ∈ R, f y = some z) ∧ ∀ y ∈ R, ∀ z ∈ R, f y = f z → y = z := by
  have hp : R.Perm (R.map fun y => (f y).getD 0) := perm_of_le R _ hn (fun z hz => by
    obtain ⟨y, hy, e⟩ := hs z hz
    exact List.mem_map.2 ⟨y, hy, by rw [e]; rfl⟩) (by rw [List.length_map]; exact Nat.le_refl _)
  have hn2 : (R.map fun y => (f y).getD 0).Nodup := (hp.nodup_iff).1 hn
  have hinj : ∀ y ∈ R, ∀ z ∈ R, (f y).getD 0 = (f z).getD 0 → y = z := fun y hy z hz e => by
    have h1 := List.nodup_iff_pairwise_ne.1 hn2
    rw [List.pairwise_map] at h1
    by_cases hyz : y = z
    · exact hyz
    · exfalso
      have key : ∀ (L : List Int), L.Pairwise (fun a b => (f a).getD 0 ≠ (f b).getD 0) → y ∈ L → z ∈ L → False := by
        intro L
        induction L with
        | nil => intro _ h _; cases h
        | cons c L ih =>
          intro hL h1 h2
          rw [List.pairwise_cons] at hL
          rw [List.mem_cons] at h1 h2
          rcases h1 with rfl | h1
          · rcases h2 with rfl | h2
            · exact hyz rfl
            · exact hL.1 z h2 e
          · rcases h2 with rfl | h2
            · exact hL.1 y h1 e.symm
            · exact ih hL.2 h1 h2
      exact key R h1 hy hz
  refine ⟨fun y hy => ?_, fun y hy z hz e => hinj y hy z hz (by rw [e])⟩
  have h1 : (f y).getD 0 ∈ R := (hp.mem_iff).2 (List.mem_map.2 ⟨y, hy, rfl⟩)
  obtain ⟨y2, hy2, e2⟩ := hs _ h1
  have : y = y2 := hinj y hy y2 hy2 (by rw [e2]; rfl)
  exact ⟨_, h1, by have e3 := e2; rw [← this] at e3; exact e3⟩
theorem it_in {f : Int → Option Int} {R : List Int} (h : ∀ y ∈ R, ∃ z ∈ R, f y = some z) {a : Int} (ha : a ∈ R) : ∀ n, ∃ z ∈ R, it f n a = some z
  | 0 => ⟨a, ha, rfl⟩
  | n + 1 => by
    obtain ⟨y, hy, e⟩ := it_in h ha n
    obtain ⟨z, hz, e2⟩ := h y hy
    exact ⟨z, hz, by rw [it, e]; exact e2⟩
theorem it_cancel {f : Int → Option Int} {R : List Int} (hi : ∀ y ∈ R, ∀ z ∈ R, f y = f z → y = z) (h : ∀ y ∈ R, ∃ z ∈ R, f y = some z) {a : Int} (ha : a ∈ R) (d : Nat) : ∀ n, it f (n + d) a = it f n a → it f d a = some a
  | 0, e => by rw [Nat.zero_add] at e; exact e
  | n + 1, e => by
    refine it_cancel hi h ha d n ?_
    obtain ⟨y, hy, ey⟩ := it_in h ha n
    obtain ⟨z, hz, ez⟩ := it_in h ha (n + d)
    rw [show n + 1 + d = (n + d) + 1 by omega, it, it, ey, ez] at e
    rw [ey, ez, hi z hz y hy e]
/-- Each of those that are come to by one of them is on a ring. -/
theorem onto_ring {f : Int → Option Int} {R : List Int} (hn : R.Nodup) (hs : ∀ z ∈ R, ∃ y ∈ R, f y = some z) {a : Int} (ha : a ∈ R) : OnRing f a := by
  obtain ⟨h1, h2⟩ := onto_inj hn hs
  -- some two of the first are the same
  by_cases hd : (a :: gone f a R.length).Nodup
  · exfalso
    have h3 := nodup_le _ R hd (fun x hx => by
      obtain ⟨i, _, e⟩ := gone_mem hx
      obtain ⟨z, hz, ez⟩ := it_in h1 ha i
      rw [e, ez]
      exact hz)
    rw [List.length_cons, gone_len] at h3
    omega
  · -- the last that is new
    have key : ∀ n, ¬ (a :: gone f a n).Nodup → ∃ i j, i < j ∧ it f i a = it f j a := by
      intro n
      induction n with
      | zero => intro h; exact absurd (by simp [gone]) h
      | succ n ih =>
        intro h
        by_cases hn2 : (a :: gone f a n).Nodup
        · rw [gone, ← List.cons_append, List.nodup_append] at h
          by_cases hm : (it f (n + 1) a).getD 0 ∈ a :: gone f a n
          · obtain ⟨i, hi, e⟩ := gone_mem hm
            obtain ⟨y, hy, ey⟩ := it_in h1 ha i
            obtain ⟨z, hz, ez⟩ := it_in h1 ha (n + 1)
            refine ⟨i, n + 1, by omega, ?_⟩
            rw [ey, ez] at e ⊢
            simp only [Option.getD_some] at e
            rw [e]
          · exact absurd ⟨hn2, by simp, fun y hy z hz e => hm (by rw [List.mem_singleton] at hz; rw [← hz, ← e]; exact hy)⟩ h
        · exact ih hn2
    obtain ⟨i, j, hij, e⟩ := key _ hd
    obtain ⟨d, rfl⟩ : ∃ d, j = i + (d + 1) := ⟨j - i - 1, by omega⟩
    exact ⟨d, it_cancel h2 h1 ha (d + 1) i e.symm⟩
/-- A ring's places: one comes to each. -/
theorem OnRing.prev {f : Int → Option Int} {z : Int} (h : OnRing f z) : ∃ y, OnRing f y ∧ f y = some z := by
  obtain ⟨n, hn⟩ := h
  have hn' := hn
  rw [it] at hn
  cases e : it f n z with
  | none => rw [e] at hn; cases hn
  | some y =>
    rw [e] at hn
    refine ⟨y, ⟨n, ?_⟩, hn⟩
    rw [it_succ, show f y = some z from hn]
    exact e
theorem OnRing.next {f : Int → Option Int} {z : Int} (h : OnRing f z) : ∃ y, OnRing f y ∧ f z = some y := by
  obtain ⟨n, hn⟩ := h
  have hn' := hn
  rw [it_succ] at hn
  cases e : f z with
  | none => rw [e] at hn; cases hn
  | some y =>
    rw [e] at hn
    refine ⟨y, ⟨n, ?_⟩, rfl⟩
    rw [it, show it f n y = some z from hn]
    exact e
theorem OnRing.its {f : Int → Option Int} {z y : Int} (h : OnRing f z) : ∀ n, it f n z = some y → OnRing f y := by
  intro n
  induction n generalizing y with
  | zero => intro e; injection e with e; rw [← e]; exact h
  | succ n ih =>
    intro e
    rw [it] at e
    cases e2 : it f n z with
    | none => rw [e2] at e; cases e
    | some x =>
      rw [e2] at e
      obtain ⟨y2, h1, h2⟩ := (ih e2).next
      have e3 : f x = some y := e
      rw [h2] at e3
      injection e3 with e3
      rw [← e3]
      exact h1
theorem Path.mem_it {f : Int → Option Int} {y : Int} : ∀ {a : Int} {xs : List Int}, Path f a xs → y ∈ a :: xs → ∃ n, it f n a = some y
  | a, [], _, hy => ⟨0, by rw [List.mem_singleton] at hy; rw [hy]; rfl⟩
  | a, x :: xs, hp, hy => by
    rw [List.mem_cons] at hy
    rcases hy with rfl | hy
    · exact ⟨0, rfl⟩
    · obtain ⟨n, hn⟩ := hp.2.mem_it hy
      exact ⟨n + 1, by rw [it_succ, hp.1]; exact hn⟩
theorem RingAt.closed {f : Int → Option Int} {a : Int} {rest : List Int} (h : RingAt f a rest) {y : Int} (hy : y ∈ a :: rest) : ∃ z ∈ a :: rest, f y = some z := by
  have key : ∀ (b : Int) (xs : List Int), Path f b xs → y ∈ b :: xs → (∃ z ∈ b :: xs, f y = some z) ∨ y = lst b xs := by
    intro b xs
    induction xs generalizing b with
    | nil => intro _ h; rw [List.mem_singleton] at h; exact .inr h
    | cons x xs ih =>
      intro hp h
      rw [List.mem_cons] at h
      rcases h with rfl | h
      · exact .inl ⟨x, List.mem_cons_of_mem _ List.mem_cons_self, hp.1⟩
      · rcases ih x hp.2 h with ⟨z, hz, e⟩ | e
        · exact .inl ⟨z, List.mem_cons_of_mem _ hz, e⟩
        · exact .inr e
  rcases key a rest h.path hy with h1 | rfl
  · exact h1
  · exact ⟨a, List.mem_cons_self, h.back⟩
theorem RingAt.it_mem {f : Int → Option Int} {a : Int} {rest : List Int} (h : RingAt f a rest) {y : Int} (hy : y ∈ a :: rest) : ∀ n, ∃ z ∈ a :: rest, XM.it f n y = some z
  | 0 => ⟨y, hy, rfl⟩
  | n + 1 => by
    obtain ⟨z, hz, e⟩ := h.it_mem hy n
    obtain ⟨z2, hz2, e2⟩ := h.closed hz
    exact ⟨z2, hz2, by rw [XM.it, e]; exact e2⟩
theorem RingAt.mem_on {f : Int → Option Int} {a : Int} {rest : List Int} (h : RingAt f a rest) {y : Int} (hy : y ∈ a :: rest) : OnRing f y := by
  obtain ⟨n, hn⟩ := h.path.mem_it hy
  exact h.on.its n hn
/-- On a ring every place is come to from every other one. -/
theorem RingAt.back_to {f : Int → Option Int} {a : Int} {rest : List Int} (h : RingAt f a rest) {y : Int} (hy : y ∈ a :: rest) : ∃ n, XM.it f n y = some a := by
  have key : ∀ (xs : List Int) (b : Int), Path f b xs → y ∈ b :: xs → ∃ n, XM.it f n y = some (lst b xs) := by
    intro xs
    induction xs with
    | nil => intro b _ hm; rw [List.mem_singleton] at hm; exact ⟨0, by rw [hm]; rfl⟩
    | cons x xs ih =>
      intro b hp hm
      rw [List.mem_cons] at hm
      rcases hm with rfl | hm
      · obtain hh := hp.its
        exact ⟨_, hh⟩
      · exact ih x hp.2 hm
  obtain ⟨n, hn⟩ := key rest a h.path hy
  exact ⟨n + 1, by rw [XM.it, hn]; exact h.back⟩
end Go.Proofs.Ytaklfdlcedlmfaa.XM
