/- Layer 3: what the document's functions compute, out of their printed forms: a list of the bytes that are not 0. No program. -/
import Derived.Test.YtocjneilaabnnaaXRx1
import Derived.Test.YtocjneilaabnnaaXRx2
import Derived.Test.YtocjneilaabnnaaMSure
namespace Go.Proofs.Ytocjneilaabnnaa.M
open Go Go.RowKit Go.Proofs.Ytocjneilaabnnaa.XR Go.Proofs.YtocjneilaabnnaaW.PrintWords
set_option linter.unusedVariables false
/-- The cells that are not 0, from place s on, n places. -/
def nzF (g : Nat → Int) : Nat → Nat → List S53
  | _, 0 => []
  | s, n + 1 => if g s = 0 then nzF g (s + 1) n else (⟨(s : Int), g s⟩ : S53) :: nzF g (s + 1) n
def setS : List S53 → Int → Int → Bool → List S53
  | [], a, v, done => if done = true then [] else [⟨a, v⟩]
  | c :: r, a, v, done => (if done = false ∧ c.f0 ≥ a then [(⟨a, v⟩ : S53)] else []) ++ ((if c.f0 = a then [] else [c]) ++ setS r a v (done || decide (c.f0 ≥ a)))
def getS : List S53 → Int → Int
  | [], _ => 0
  | c :: r, a => if c.f0 = a then c.f1 else getS r a
def upd (g : Nat → Int) (a : Nat) (v : Int) : Nat → Int := fun j => if j = a then v else g j
theorem nzF_congr {g g' : Nat → Int} : ∀ (n s : Nat), (∀ j, s ≤ j → j < s + n → g j = g' j) → nzF g s n = nzF g' s n
  | 0, _, _ => rfl
  | n + 1, s, h => by
    rw [nzF, nzF, h s (Nat.le_refl _) (by omega), nzF_congr n (s + 1) (fun j h1 h2 => h j (by omega) (by omega))]
theorem nzF_ge (g : Nat → Int) : ∀ (n s : Nat), ∀ c ∈ nzF g s n, (s : Int) ≤ c.f0
  | 0, _, c, h => by simp [nzF] at h
  | n + 1, s, c, h => by
    rw [nzF] at h
    split at h
    · have := nzF_ge g n (s + 1) c h; omega
    · rcases List.mem_cons.1 h with rfl | h
      · exact Int.le_refl _
      · have := nzF_ge g n (s + 1) c h; omega
theorem set_done : ∀ (l : List S53) (a v : Int), (∀ c ∈ l, a < c.f0) → setS l a v true = l
  | [], a, v, _ => by simp [setS]
  | c :: r, a, v, h => by
    have hc := h c (by simp)
    rw [setS, if_neg (by simp), if_neg (by omega), Bool.true_or, set_done r a v (fun x hx => h x (by simp [hx]))]
    rfl
theorem set_new : ∀ (l : List S53) (a v : Int), (∀ c ∈ l, a < c.f0) → setS l a v false = ⟨a, v⟩ :: l
  | [], a, v, _ => by simp [setS]
  | c :: r, a, v, h => by
    have hc := h c (by simp)
    rw [setS, if_pos ⟨rfl, by omega⟩, if_neg (by omega), decide_eq_true (by omega), Bool.or_true, set_done r a v (fun x hx => h x (by simp [hx]))]
    rfl
theorem set_nz (g : Nat → Int) (a : Nat) (v : Int) : ∀ (n s : Nat), s ≤ a → a < s + n → setS (nzF g s n) a v (v == 0) = nzF (upd g a v) s n
  | 0, s, h1, h2 => by omega
  | n + 1, s, h1, h2 => by
    by_cases e : s = a
    · subst e
      have hr : nzF (upd g s v) (s + 1) n = nzF g (s + 1) n := nzF_congr n (s + 1) (fun j h3 h4 => by unfold upd; rw [if_neg (by omega)])
      have hge : ∀ c ∈ nzF g (s + 1) n, (s : Int) < c.f0 := fun c hc => by have := nzF_ge g n (s + 1) c hc; omega
      have hu : upd g s v s = v := by unfold upd; rw [if_pos rfl]
      rw [nzF, nzF, hu, hr]
      by_cases hg : g s = 0
      · rw [if_pos hg]
        by_cases hv : v = 0
        · rw [if_pos hv, show (v == 0) = true by simp [hv]]
          exact set_done _ _ _ hge
        · rw [if_neg hv, show (v == 0) = false by simp [hv]]
          exact set_new _ _ _ hge
      · rw [if_neg hg]
        by_cases hv : v = 0
        · rw [if_pos hv, show (v == 0) = true by simp [hv], setS, if_neg (by simp), if_pos rfl, Bool.true_or]
          exact set_done _ _ _ hge
        · rw [if_neg hv, show (v == 0) = false by simp [hv], setS, if_pos ⟨rfl, Int.le_refl _⟩, if_pos rfl, decide_eq_true (Int.le_refl _), Bool.or_true, set_done _ _ _ hge]
          rfl
    · have hu : upd g a v s = g s := by unfold upd; rw [if_neg e]
      have ih := set_nz g a v n (s + 1) (by omega) (by omega)
      rw [nzF, nzF, hu]
      by_cases hg : g s = 0
      · rw [if_pos hg, if_pos hg]; exact ih
      · rw [if_neg hg, if_neg hg, setS, if_neg (by simp; omega), if_neg (by simp; omega), decide_eq_false (by simp; omega), Bool.or_false, ih]
        rfl
theorem get_nz (g : Nat → Int) (a : Nat) : ∀ (n s : Nat), s ≤ a → a < s + n → getS (nzF g s n) a = g a
  | 0, s, h1, h2 => by omega
  | n + 1, s, h1, h2 => by
    rw [nzF]
    by_cases e : s = a
    · subst e
      by_cases hg : g s = 0
      · rw [if_pos hg, hg]
        have : ∀ (l : List S53), (∀ c ∈ l, (s : Int) < c.f0) → getS l s = 0 := by
          intro l
          induction l with
          | nil => intro _; rfl
          | cons c r ih => intro h; rw [getS, if_neg (by have := h c (by simp); omega), ih (fun x hx => h x (by simp [hx]))]
        exact this _ (fun c hc => by have := nzF_ge g n (s + 1) c hc; omega)
      · rw [if_neg hg, getS, if_pos rfl]
    · have ih := get_nz g a n (s + 1) (by omega) (by omega)
      by_cases hg : g s = 0
      · rw [if_pos hg]; exact ih
      · rw [if_neg hg, getS, if_neg (by simp; omega)]; exact ih
theorem nzF_len (g : Nat → Int) : ∀ (n s : Nat), (nzF g s n).length ≤ n
  | 0, _ => by simp [nzF]
  | n + 1, s => by
    have := nzF_len g n (s + 1)
    rw [nzF]
    split
    · omega
    · simp only [List.length_cons]; omega
theorem wU {x : Int} (h0 : 0 ≤ x) (h1 : x < 18446744073709551616) : IntKind.u64.wrap x = x := by
  have : IntKind.u64.wrap x = x % 18446744073709551616 := by simp [IntKind.wrap, IntKind.bits, IntKind.signed]
  rw [this]; omega
theorem w64i {x : Int} (h0 : -9223372036854775808 ≤ x) (h1 : x ≤ 9223372036854775807) : wrap64 x = x := by unfold wrap64; omega
theorem rd53 (l : List S53) (i : Nat) (h : i < l.length) : rd_T53 l (i : Int) = l[i] := by
  show l.getD (i : Int).toNat z53 = l[i]
  rw [Int.toNat_natCast, List.getD_eq_getElem?_getD, List.getElem?_eq_getElem h]
  rfl
theorem set_l0 (a v p m : Int) (l : List S53) (hl : l.length < 1099511627776) : ∀ (d i k : Nat) (acc : List S53) (done : Bool), l.length - i = d → i ≤ l.length → 2 * d + 1 ≤ k → acc.length + 2 * d + 1 < 8796093022208 →
    mandrelref03_set.l0 k a v acc done (i : Int) p m l = some (p, m, acc ++ setS (l.drop i) a v done)
  | 0, i, k, acc, done, hd, hi, hk, ha => by
    obtain ⟨k, rfl⟩ : ∃ q, k = q + 1 := ⟨k - 1, by omega⟩
    rw [mandrelref03_set.l0, if_neg (by omega), List.drop_eq_nil_of_le (by omega), setS]
    by_cases h : done = true
    · rw [if_pos h, if_pos h, List.append_nil]
    · rw [if_neg h, if_neg h, if_pos (by omega)]
  | d + 1, i, k, acc, done, hd, hi, hk, ha => by
    obtain ⟨k, rfl⟩ : ∃ q, k = q + 1 + 1 := ⟨k - 2, by omega⟩
    have hlt : i < l.length := by omega
    have hr := rd53 l i hlt
    have hw : wrap64 ((i : Int) + 1) = ((i + 1 : Nat) : Int) := by rw [w64i (by omega) (by omega)]; omega
    have ih := fun acc' done' h => set_l0 a v p m l hl d (i + 1) k acc' done' (by omega) (by omega) (by omega) h
    rw [List.drop_eq_getElem_cons hlt, setS]
    have J : mandrelref03_set.l0 (k + 1 + 1) a v acc done (i : Int) p m l = mandrelref03_set.j1 (k + 1) a v acc done (i : Int) (decide (done = false ∧ l[i].f0 ≥ a)) p m l := by
      rw [mandrelref03_set.l0, if_pos (by omega)]
      cases done with
      | true => rw [if_pos rfl, decide_eq_false (by simp)]
      | false => rw [if_neg (by decide), if_pos (by omega), hr]; simp
    rw [J]
    by_cases hc : done = false ∧ l[i].f0 ≥ a
    · rw [decide_eq_true hc, if_pos hc, mandrelref03_set.j1, if_pos rfl, if_pos (by omega), Option.bind_some, if_pos (by omega), if_pos (by omega), hr, hw, decide_eq_true hc.2, Bool.or_true]
      by_cases he : l[i].f0 = a
      · rw [if_pos he, if_pos he, ih _ _ (by simp; omega)]
        simp
      · rw [if_neg he, if_neg he, if_pos (by simp; omega), ih _ _ (by simp; omega)]
        simp
    · rw [decide_eq_false hc, if_neg hc, mandrelref03_set.j1, if_neg (by decide), if_pos (by omega), if_pos (by omega), hr, hw]
      have hd2 : (done || decide (l[i].f0 ≥ a)) = done := by
        cases done with
        | true => rfl
        | false =>
          have : ¬ l[i].f0 ≥ a := fun h => hc ⟨rfl, h⟩
          rw [decide_eq_false this]; rfl
      rw [hd2]
      by_cases he : l[i].f0 = a
      · rw [if_pos he, if_pos he, ih _ _ (by omega)]
        simp
      · rw [if_neg he, if_neg he, if_pos (by omega), ih _ _ (by simp; omega)]
        simp
theorem set_f (a v p m : Int) (l : List S53) (hl : l.length < 1099511627776) (k : Nat) (hk : 2 * l.length + 1 ≤ k) : mandrelref03_set.f k p m l a v = some (p, m, setS l a v (v == 0)) := by
  unfold mandrelref03_set.f
  have h := set_l0 a v p m l hl l.length 0 k [] (v == 0) (by omega) (by omega) (by omega) (by simp; omega)
  rw [List.drop_zero, List.nil_append] at h
  exact h
theorem get_l0 (a p m : Int) (l : List S53) (hl : l.length < 1099511627776) : ∀ (d i k : Nat), l.length - i = d → i ≤ l.length → d + 1 ≤ k → mandrelref03_Get.l0 k a (i : Int) p m l = some (getS (l.drop i) a)
  | 0, i, k, hd, hi, hk => by
    obtain ⟨k, rfl⟩ : ∃ q, k = q + 1 := ⟨k - 1, by omega⟩
    rw [mandrelref03_Get.l0, if_neg (by omega), List.drop_eq_nil_of_le (by omega)]
    rfl
  | d + 1, i, k, hd, hi, hk => by
    obtain ⟨k, rfl⟩ : ∃ q, k = q + 1 := ⟨k - 1, by omega⟩
    have hlt : i < l.length := by omega
    rw [mandrelref03_Get.l0, if_pos (by omega), if_pos (by omega), rd53 l i hlt, List.drop_eq_getElem_cons hlt, getS]
    by_cases h : l[i].f0 = a
    · rw [if_pos h, if_pos h]
    · rw [if_neg h, if_neg h, w64i (by omega) (by omega)]
      exact get_l0 a p m l hl d (i + 1) k (by omega) (by omega) (by omega)
theorem get_f (a p m : Int) (l : List S53) (hl : l.length < 1099511627776) (k : Nat) (hk : l.length + 1 ≤ k) : mandrelref03_Get.f k p m l a = some (getS l a) := by
  unfold mandrelref03_Get.f
  have h := get_l0 a p m l hl l.length 0 k (by omega) (by omega) (by omega)
  rw [List.drop_zero] at h
  exact h
/-- Are some bytes there? -/
def hasP (n x off : Nat) (size : Int) : Prop := (size = 1 ∨ size = 2 ∨ size = 4 ∨ size = 8) ∧ ((x + off : Nat) : Int) + size ≤ ((4096 * n : Nat) : Int)
instance (n x off : Nat) (size : Int) : Decidable (hasP n x off size) := by unfold hasP; exact inferInstance
theorem has_f (n x off : Nat) (size m : Int) (l : List S53) (hn : n ≤ 16) (hx : x < 18446744073709551616) (ho : off < 18446744073709551616) : mandrelref03_Has.f (n : Int) m l (x : Int) (off : Int) size = some (decide (hasP n x off size)) := by
  have hroom : IntKind.u64.wrap (IntKind.u64.wrap (n : Int) * 4096) = ((4096 * n : Nat) : Int) := by rw [wU (x := (n : Int)) (by omega) (by omega), wU (by omega) (by omega)]; omega
  have key : ∀ s : Nat, s ≤ 8 → (if (x : Int) ≤ ((4096 * n : Nat) : Int) then (if (off : Int) ≤ ((4096 * n : Nat) : Int) then (some (decide ((IntKind.u64.wrap ((IntKind.u64.wrap ((x : Int) + off)) + (IntKind.u64.wrap (s : Int)))) ≤ ((4096 * n : Nat) : Int)))) else (some false)) else (some false)) = some (decide (((x + off : Nat) : Int) + (s : Int) ≤ ((4096 * n : Nat) : Int))) := by
    intro s hs
    by_cases h1 : (x : Int) ≤ ((4096 * n : Nat) : Int)
    · rw [if_pos h1]
      by_cases h2 : (off : Int) ≤ ((4096 * n : Nat) : Int)
      · rw [if_pos h2, wU (x := (x : Int) + off) (by omega) (by omega), wU (x := (s : Int)) (by omega) (by omega), wU (by omega) (by omega)]
        congr 1
      · rw [if_neg h2, decide_eq_false (by omega)]
    · rw [if_neg h1, decide_eq_false (by omega)]
  unfold mandrelref03_Has.f
  rw [hroom]
  by_cases h1 : size = 1
  · subst h1
    rw [if_pos rfl]
    refine (key 1 (by omega)).trans ?_
    congr 1
    exact decide_eq_decide.2 ⟨fun h => ⟨.inl rfl, h⟩, fun h => h.2⟩
  · rw [if_neg h1]
    by_cases h2 : size = 2
    · subst h2
      rw [if_pos rfl]
      refine (key 2 (by omega)).trans ?_
      congr 1
      exact decide_eq_decide.2 ⟨fun h => ⟨.inr (.inl rfl), h⟩, fun h => h.2⟩
    · rw [if_neg h2]
      by_cases h3 : size = 4
      · subst h3
        rw [if_pos rfl]
        refine (key 4 (by omega)).trans ?_
        congr 1
        exact decide_eq_decide.2 ⟨fun h => ⟨.inr (.inr (.inl rfl)), h⟩, fun h => h.2⟩
      · rw [if_neg h3]
        by_cases h4 : size = 8
        · subst h4
          rw [if_pos rfl]
          refine (key 8 (by omega)).trans ?_
          congr 1
          exact decide_eq_decide.2 ⟨fun h => ⟨.inr (.inr (.inr rfl)), h⟩, fun h => h.2⟩
        · rw [if_neg h4, decide_eq_false (fun h => by rcases h.1 with h | h | h | h <;> contradiction)]
end Go.Proofs.Ytocjneilaabnnaa.M
