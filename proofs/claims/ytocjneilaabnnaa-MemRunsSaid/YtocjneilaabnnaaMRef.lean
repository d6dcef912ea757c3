/- Layer 3: the document's Load, Store, Grow and Sum at the list of the bytes that are not 0. No program. -/
import Derived.Test.YtocjneilaabnnaaMPure
import Derived.Test.YtocjneilaabnnaaMSum
namespace Go.Proofs.Ytocjneilaabnnaa.M
open Go Go.RowKit Go.Proofs.Ytocjneilaabnnaa.XR Go.Proofs.YtocjneilaabnnaaW.PrintWords
set_option linter.unusedVariables false
theorem ref_load_l0 (g : Nat → Int) (N A sz x off : Nat) (p m : Int) (hA : x + off = A) (hx : x < 18446744073709551616) (ho : off < 18446744073709551616) (hN : N ≤ 65536) (hin : A + sz ≤ N) (hs : sz ≤ 8) (hg : Bts g N) :
    ∀ (d j k : Nat), sz - j = d → j ≤ sz → d + N + 2 ≤ k → mandrelref03_Load.l0 k (x : Int) (off : Int) (top (fun q => g (A + q)) sz j) ((sz : Int) - 1 - j) p m (nzF g 0 N) = some (top (fun q => g (A + q)) sz sz, true)
  | 0, j, k, hd, hj, hk => by
    obtain ⟨k, rfl⟩ : ∃ q, k = q + 1 := ⟨k - 1, by omega⟩
    obtain rfl : j = sz := by omega
    rw [mandrelref03_Load.l0, if_neg (by omega)]
  | d + 1, j, k, hd, hj, hk => by
    obtain ⟨k, rfl⟩ : ∃ q, k = q + 1 := ⟨k - 1, by omega⟩
    have hl := nzF_len g N 0
    have hb : Bts (fun q => g (A + q)) sz := fun q hq => hg _ (by omega)
    have ht := top_lt (fun q => g (A + q)) sz hb j hj
    have hz := hg (A + (sz - 1 - j)) (by omega)
    have h3 : (256 : Int) ^ j ≤ 72057594037927936 := by
      have h := Nat.pow_le_pow_right (n := 256) (by omega) (show j ≤ 7 by omega)
      have e : ((256 : Int) ^ j) = ((256 ^ j : Nat) : Int) := by simp
      rw [e]
      omega
    have e1 : Aside0 (IntKind.u64.wrap (IntKind.u64.wrap ((x : Int) + off) + IntKind.u64.wrap ((sz : Int) - 1 - j)) = ((A + (sz - 1 - j) : Nat) : Int)) := Aside0.mk <| by
      rw [wU (x := (x : Int) + off) (by omega) (by omega), wU (x := (sz : Int) - 1 - j) (by omega) (by omega), wU (by omega) (by omega)]
      omega
    have e2 : Aside0 (wrap64 ((sz : Int) - 1 - j - 1) = (sz : Int) - 1 - ((j + 1 : Nat) : Int)) := Aside0.mk <| by rw [w64i (by omega) (by omega)]; omega
    have ih := ref_load_l0 g N A sz x off p m hA hx ho hN hin hs hg d (j + 1) k (by omega) (by omega) (by omega)
    have e3 : Aside0 (top (fun q => g (A + q)) sz (j + 1) = top (fun q => g (A + q)) sz j * 256 + g (A + (sz - 1 - j))) := ⟨rfl⟩
    rw [mandrelref03_Load.l0, if_pos (by omega), e1.out, get_f _ _ _ _ (by omega) _ (by omega), Option.bind_some, get_nz g (A + (sz - 1 - j)) N 0 (by omega) (by omega), e2.out]
    have e4 : IntKind.u64.wrap (IntKind.u64.wrap (256 * top (fun q => g (A + q)) sz j) + IntKind.u64.wrap (g (A + (sz - 1 - j)))) = top (fun q => g (A + q)) sz (j + 1) := by
      rw [wU (x := 256 * top (fun q => g (A + q)) sz j) (by omega) (by omega), wU (x := g (A + (sz - 1 - j))) (by omega) (by omega), wU (by omega) (by omega), e3.out]
      omega
    rw [e4]
    exact ih
theorem ref_load (g : Nat → Int) (n x off : Nat) (size m : Int) (hn : n ≤ 16) (hx : x < 18446744073709551616) (ho : off < 18446744073709551616) (hg : Bts g (4096 * n)) (k : Nat) (hk : 65600 ≤ k) :
    mandrelref03_Load.f k (n : Int) m (nzF g 0 (4096 * n)) (x : Int) (off : Int) size = some (if hasP n x off size then (num (fun j => g (x + off + j)) size.toNat, true) else (0, false)) := by
  unfold mandrelref03_Load.f
  rw [has_f n x off size m _ hn hx ho, Option.bind_some]
  by_cases h : hasP n x off size
  · rw [if_pos (decide_eq_true h), if_pos h]
    obtain ⟨h1, h2⟩ := h
    obtain ⟨sz, rfl⟩ : ∃ sz : Nat, size = (sz : Int) := ⟨size.toNat, by omega⟩
    have hr := ref_load_l0 g (4096 * n) (x + off) sz x off n m rfl hx ho (by omega) (by omega) (by omega) hg sz 0 k (by omega) (by omega) (by omega)
    have e : wrap64 ((sz : Int) - 1) = (sz : Int) - 1 - ((0 : Nat) : Int) := by rw [w64i (by omega) (by omega)]; omega
    rw [e, Int.toNat_natCast, show (0 : Int) = top (fun q => g (x + off + q)) sz 0 from rfl, hr, top_num _ sz sz (Nat.le_refl _)]
    congr 2
    exact num_congr (fun j hj => by congr 1; omega)
  · rw [if_neg (by simpa using h), if_neg h]
theorem upd_store (g : Nat → Int) (A i : Nat) (v : Int) (j : Nat) : upd (storeG g A i v) (A + i) (stb v i) j = storeG g A (i + 1) v j := by
  unfold upd storeG
  by_cases e : j = A + i
  · subst e
    rw [if_pos rfl, if_pos (by omega), show A + i - A = i by omega]
  · rw [if_neg e]
    by_cases e2 : A ≤ j ∧ j < A + i
    · rw [if_pos e2, if_pos (by omega)]
    · rw [if_neg e2, if_neg (by omega)]
theorem ref_store_l0 (g : Nat → Int) (N A sz x off : Nat) (p m v : Int) (hv : 0 ≤ v ∧ v < 18446744073709551616) (hA : x + off = A) (hx : x < 18446744073709551616) (ho : off < 18446744073709551616) (hN : N ≤ 65536) (hin : A + sz ≤ N) (hs : sz ≤ 8) :
    ∀ (d i k : Nat), sz - i = d → i ≤ sz → d + 2 * N + 3 ≤ k → mandrelref03_Store.l0 k (x : Int) (off : Int) (sz : Int) (v / 2 ^ (8 * i)) (i : Int) p m (nzF (storeG g A i v) 0 N) = some (p, m, nzF (storeG g A sz v) 0 N, true)
  | 0, i, k, hd, hi, hk => by
    obtain ⟨k, rfl⟩ : ∃ q, k = q + 1 := ⟨k - 1, by omega⟩
    obtain rfl : i = sz := by omega
    rw [mandrelref03_Store.l0, if_neg (by omega)]
  | d + 1, i, k, hd, hi, hk => by
    obtain ⟨k, rfl⟩ : ∃ q, k = q + 1 := ⟨k - 1, by omega⟩
    have hl := nzF_len (storeG g A i v) N 0
    have hp : (0 : Int) < 2 ^ (8 * i) := Int.pow_pos (by decide)
    have hq : 0 ≤ v / 2 ^ (8 * i) ∧ v / 2 ^ (8 * i) < 18446744073709551616 := ⟨Int.ediv_nonneg hv.1 (Int.le_of_lt hp), Int.lt_of_le_of_lt (Int.ediv_le_self _ hv.1) hv.2⟩
    have e1 : Aside0 (IntKind.u64.wrap (IntKind.u64.wrap ((x : Int) + off) + IntKind.u64.wrap (i : Int)) = ((A + i : Nat) : Int)) := Aside0.mk <| by
      rw [wU (x := (x : Int) + off) (by omega) (by omega), wU (x := (i : Int)) (by omega) (by omega), wU (by omega) (by omega)]
      omega
    have e2 : Aside0 ((Int.tmod (v / 2 ^ (8 * i)) 256) % 256 = stb v i) := Aside0.mk <| by
      rw [Int.tmod_eq_emod_of_nonneg hq.1]; unfold stb; omega
    have e3 : Aside0 (IntKind.u64.wrap (Int.tdiv (v / 2 ^ (8 * i)) 256) = v / 2 ^ (8 * (i + 1))) := Aside0.mk <| by
      rw [Int.tdiv_eq_ediv_of_nonneg hq.1, wU (by omega) (by omega), Int.ediv_ediv_of_nonneg (Int.le_of_lt hp), show (256 : Int) = 2 ^ 8 from rfl, ← Int.pow_add, Nat.mul_succ]
    have e4 : Aside0 (wrap64 ((i : Int) + 1) = ((i + 1 : Nat) : Int)) := Aside0.mk <| by rw [w64i (by omega) (by omega)]; omega
    have ih := ref_store_l0 g N A sz x off p m v hv hA hx ho hN hin hs d (i + 1) k (by omega) (by omega) (by omega)
    clear hp hq
    rw [mandrelref03_Store.l0, if_pos (by omega), e1.out, e2.out, set_f _ _ _ _ _ (by omega) _ (by omega), Option.bind_some, e3.out, e4.out]
    rw [set_nz (storeG g A i v) (A + i) (stb v i) N 0 (by omega) (by omega), nzF_congr N 0 (fun j _ _ => upd_store g A i v j)]
    exact ih
theorem ref_store (g : Nat → Int) (n x off : Nat) (size m v : Int) (hn : n ≤ 16) (hx : x < 18446744073709551616) (ho : off < 18446744073709551616) (hv : 0 ≤ v ∧ v < 18446744073709551616) (k : Nat) (hk : 131200 ≤ k) :
    mandrelref03_Store.f k (n : Int) m (nzF g 0 (4096 * n)) (x : Int) (off : Int) size v = some (if hasP n x off size then ((n : Int), m, nzF (storeG g (x + off) size.toNat v) 0 (4096 * n), true) else ((n : Int), m, nzF g 0 (4096 * n), false)) := by
  unfold mandrelref03_Store.f
  rw [has_f n x off size m _ hn hx ho, Option.bind_some]
  by_cases h : hasP n x off size
  · rw [if_pos (decide_eq_true h), if_pos h]
    obtain ⟨h1, h2⟩ := h
    obtain ⟨sz, rfl⟩ : ∃ sz : Nat, size = (sz : Int) := ⟨size.toNat, by omega⟩
    have hr := ref_store_l0 g (4096 * n) (x + off) sz x off n m v hv rfl hx ho (by omega) (by omega) (by omega) sz 0 k (by omega) (by omega) (by omega)
    have e : nzF (storeG g (x + off) 0 v) 0 (4096 * n) = nzF g 0 (4096 * n) := nzF_congr _ _ (fun j _ _ => storeG_out _ _ _ _ _ (by omega))
    rw [e] at hr
    simp only [Nat.mul_zero, Int.pow_zero, Int.ediv_one] at hr
    rw [Int.toNat_natCast]
    exact hr
  · rw [if_neg (by simpa using h), if_neg h]
theorem ref_grow (n m a : Nat) (l : List S53) (hn : n ≤ m) (hm : m ≤ 16) (ha : a < 18446744073709551616) :
    mandrelref03_Grow.f (n : Int) (m : Int) l (a : Int) = some (if n + a ≤ m then (((n + a : Nat) : Int), (m : Int), l, (n : Int)) else ((n : Int), (m : Int), l, -1)) := by
  unfold mandrelref03_Grow.f
  rw [wU (x := (m : Int)) (by omega) (by omega)]
  by_cases h1 : (a : Int) > (m : Int)
  · rw [if_pos h1, if_neg (by omega)]
  · rw [if_neg h1, w64i (x := (a : Int)) (by omega) (by omega), w64i (x := (n : Int) + a) (by omega) (by omega)]
    by_cases h2 : (n : Int) + a > (m : Int)
    · rw [if_pos h2, if_neg (by omega)]
    · rw [if_neg h2, if_pos (by omega)]
      congr 2
theorem nzF_app (g : Nat → Int) : ∀ (n s d : Nat), (∀ j, s + n ≤ j → j < s + n + d → g j = 0) → nzF g s (n + d) = nzF g s n
  | 0, s, 0, _ => rfl
  | 0, s, d + 1, h => by
    have := nzF_app g 0 (s + 1) d (fun j h1 h2 => h j (by omega) (by omega))
    rw [Nat.zero_add] at this ⊢
    rw [show nzF g s (d + 1) = if g s = 0 then nzF g (s + 1) d else (⟨(s : Int), g s⟩ : S53) :: nzF g (s + 1) d from rfl, if_pos (h s (by omega) (by omega)), this]
    rfl
  | n + 1, s, d, h => by
    rw [show n + 1 + d = (n + d) + 1 by omega, nzF, nzF, nzF_app g n (s + 1) d (fun j h1 h2 => h j (by omega) (by omega))]
def sumL : List S53 → Int → Int
  | [], h => h
  | c :: r, h => sumL r (stepH h c.f0 c.f1)
theorem sumL_nz (g : Nat → Int) : ∀ (n s : Nat) (h : Int), sumL (nzF g s n) h = sumF g s n h
  | 0, _, _ => rfl
  | n + 1, s, h => by
    rw [nzF, sumF]
    by_cases e : g s = 0
    · rw [if_pos e, if_pos e, sumL_nz g n (s + 1)]
    · rw [if_neg e, if_neg e, sumL, sumL_nz g n (s + 1)]
theorem nzF_b (g : Nat → Int) : ∀ (n s : Nat), (∀ j, s ≤ j → j < s + n → 0 ≤ g j ∧ g j < 256) → ∀ c ∈ nzF g s n, 0 ≤ c.f1 ∧ c.f1 < 256
  | 0, _, _, c, h => by simp [nzF] at h
  | n + 1, s, hg, c, h => by
    rw [nzF] at h
    split at h
    · exact nzF_b g n (s + 1) (fun j h1 h2 => hg j (by omega) (by omega)) c h
    · rcases List.mem_cons.1 h with rfl | h
      · exact hg s (by omega) (by omega)
      · exact nzF_b g n (s + 1) (fun j h1 h2 => hg j (by omega) (by omega)) c h
theorem ref_sum_l0 (p m : Int) (l : List S53) (hl : l.length < 1099511627776) (hb : ∀ c ∈ l, 0 ≤ c.f1 ∧ c.f1 < 256) : ∀ (d i k : Nat) (h : Int), l.length - i = d → i ≤ l.length → d + 1 ≤ k → mandrelref03_Sum.l0 k h (i : Int) p m l = some (sumL (l.drop i) h)
  | 0, i, k, h, hd, hi, hk => by
    obtain ⟨k, rfl⟩ : ∃ q, k = q + 1 := ⟨k - 1, by omega⟩
    rw [mandrelref03_Sum.l0, if_neg (by omega), List.drop_eq_nil_of_le (by omega)]
    rfl
  | d + 1, i, k, h, hd, hi, hk => by
    obtain ⟨k, rfl⟩ : ∃ q, k = q + 1 := ⟨k - 1, by omega⟩
    have hlt : i < l.length := by omega
    have hc := hb _ (List.getElem_mem hlt)
    rw [mandrelref03_Sum.l0, if_pos (by omega), if_pos (by omega), rd53 l i hlt, List.drop_eq_getElem_cons hlt, sumL, wU (x := l[i].f1) hc.1 (by omega), w64i (by omega) (by omega)]
    exact ref_sum_l0 p m l hl hb d (i + 1) k _ (by omega) (by omega) (by omega)
theorem ref_sum (g : Nat → Int) (n : Nat) (p m : Int) (hn : n ≤ 16) (hg : Bts g (4096 * n)) (k : Nat) (hk : 65600 ≤ k) : mandrelref03_Sum.f k p m (nzF g 0 (4096 * n)) = some (sumF g 0 (4096 * n) 14695981039346656037) := by
  unfold mandrelref03_Sum.f
  have hl := nzF_len g (4096 * n) 0
  have h := ref_sum_l0 p m (nzF g 0 (4096 * n)) (by omega) (nzF_b g _ 0 (fun j _ h2 => hg j (by omega))) _ 0 k 14695981039346656037 rfl (by omega) (by omega)
  rw [List.drop_zero, sumL_nz] at h
  exact h
end Go.Proofs.Ytocjneilaabnnaa.M
