/- Sections joined, as the document has them: the same bytes, the same error. No program's walk. -/
import Derived.Test.YtljmikfpknmnnaaDoorRefJoin
import Derived.Test.YtljmikfpknmnnaaDoorJoinPure
import Derived.Test.YtljmikfpknmnnaaDoorRefSplit
import Derived.Test.YtljmikfpknmnnaaDoorPureSectSplits
import Derived.Test.YtljmikfpknmnnaaDoorLawWords
namespace Go.Proofs.YtljmikfpknmnnaaDoor.Sect
set_option linter.unusedVariables false
set_option maxRecDepth 20000
open Go Go.RowKit Go.Proofs.YtljmikfpknmnnaaDoor.M Go.Proofs.YtljmikfpknmnnaaDoor.Leb Go.Proofs.YtljmikfpknmnnaaDoor.XS Go.Proofs.YtljmikfpknmnnaaDoorW.PrintWords Go.Proofs.YtljmikfpknmnnaaDoorW.PrintLast Go.Proofs.YtljmikfpknmnnaaDoorW.PrintMore
theorem refU_l0 (v : Nat) : ∀ (k : Nat) (a : List Int), v < 18446744073709551616 → (encU v).length ≤ k → a.length + (encU v).length < 140737488355328 → mandrelref01_PutU.l0 k (v : Int) a = some (a ++ encU v) := by
  induction v using indU with
  | lo v h =>
    intro k a hv hk ha
    rw [encU_lo h] at hk ha ⊢
    simp only [List.length_singleton] at hk ha
    obtain ⟨k, rfl⟩ : ∃ m, k = m + 1 := ⟨k - 1, by omega⟩
    simp only [mandrelref01_PutU.l0]
    rw [if_neg (by omega), if_pos (by omega), show (v : Int) % 256 = v by omega]
  | hi v h ih =>
    intro k a hv hk ha
    rw [encU_hi h] at hk ha ⊢
    simp only [List.length_cons] at hk ha
    obtain ⟨k, rfl⟩ : ∃ m, k = m + 1 := ⟨k - 1, by omega⟩
    simp only [mandrelref01_PutU.l0]
    rw [if_pos (by omega), if_pos (by omega), Int.tdiv_eq_ediv_of_nonneg (by omega), Int.tmod_eq_emod_of_nonneg (by omega), u64w, u64w, show (v : Int) / 128 % 18446744073709551616 = ((v / 128 : Nat) : Int) by omega]
    rw [ih k _ (by omega) (by omega) (by simp only [List.length_append, List.length_singleton]; omega), List.append_assoc, show ((v : Int) % 128 + 128) % 18446744073709551616 % 256 = ((v % 128 + 128 : Nat) : Int) by omega]
    rfl
theorem refU (v : Int) (k : Nat) (hk : 10 ≤ k) (h0 : 0 ≤ v) (h1 : v < 18446744073709551616) : mandrelref01_PutU.f k v = some (encU v.toNat) := by
  have h := encU_10 (v := v.toNat) (by omega)
  have h2 := refU_l0 v.toNat k [] (by omega) (by omega) (by simp; omega)
  rw [Int.toNat_of_nonneg h0] at h2
  simpa [mandrelref01_PutU.f] using h2
theorem nameE_err {s : List Int} {e : Int} (h : nameE s = some e) : e = 4 ∨ e = 6 := by
  unfold nameE at h
  rcases takeU32 s with ⟨e2, he, h2⟩ | ⟨V, N, he, _⟩
  · rw [he] at h
    simp only [Option.some.injEq] at h
    omega
  · rw [he] at h
    simp only [] at h
    split at h
    · injection h with h; omega
    · split at h
      · cases h
      · injection h with h; omega
theorem splitS_err (b : List Int) : ∀ (d : Nat) (out : List S53) (top : Int) (a : Nat) (e : Int), (splitS d b out top a).2.2 = some e → e = 4 ∨ e = 6
  | 0, out, top, a, e, h => by rw [splitS] at h; cases h
  | d + 1, out, top, a, e, h => by
    rw [splitS] at h
    split at h
    · split at h
      · simp only [Option.some.injEq] at h; omega
      · rcases takeU32 (b.drop (a + 1)) with ⟨e2, he, h2⟩ | ⟨V, N, he, _⟩
        · rw [he] at h
          simp only [Option.some.injEq] at h
          omega
        · rw [he] at h
          simp only [] at h
          split at h
          · simp only [Option.some.injEq] at h; omega
          · split at h
            · rename_i e3 h3
              simp only [Option.some.injEq] at h
              subst h
              split at h3
              · exact nameE_err h3
              · cases h3
            · exact splitS_err b d _ _ _ e h
    · cases h
theorem hdErr_err : ∀ (h b : List Int) (i j e : Int), hdErr h b i = some (j, e) → e = 4 ∨ e = 6
  | [], b, i, j, e, h => by simp [hdErr] at h
  | _ :: _, [], i, j, e, h => by simp [hdErr] at h; omega
  | x :: hs, y :: ys, i, j, e, h => by
    rw [hdErr] at h
    split at h
    · exact hdErr_err hs ys (i + 1) j e h
    · simp at h; omega
theorem splitOf_err (b : List Int) (e : Int) (h : (splitOf b).2.2 = some e) : e = 4 ∨ e = 6 := by
  unfold splitOf at h
  split at h
  · rename_i j e2 h2
    simp only [Option.some.injEq] at h
    subst h
    exact hdErr_err _ _ _ _ _ h2
  · exact splitS_err _ _ _ _ _ e h
theorem rd52_map (l : List S53) (i : Nat) (h : i < l.length) : rd_T52 (l.map c52) (i : Int) = c52 l[i] := by
  unfold rd_T52
  rw [Int.toNat_natCast, List.getD_eq_getElem?_getD, List.getElem?_map, List.getElem?_eq_getElem h]
  rfl
def joinR (l : List S53) : List Int × Option Int := if (splitOf (joinOf l)).2.2.isNone = true then (joinOf l, none) else ([], some 1)
theorem refJoin_l0 (l : List S53) (hl : OkS l) (hlen : (joinOf l).length < 4000) : ∀ (d i k : Nat), l.length - i = d → i ≤ l.length → d + 33000000 ≤ k →
    mandrelref06_Join.l0 k (l.map c52) (headB ++ encSecs (l.take i)) (i : Int) = some ((joinR l).1, (joinR l).2.getD 0) := by
  intro d
  induction d with
  | zero =>
    intro i k hd hi hk
    obtain ⟨k, rfl⟩ : ∃ m, k = m + 1 := ⟨k - 1, by omega⟩
    rw [mandrelref06_Join.l0, if_neg (by rw [List.length_map]; omega), List.take_of_length_le (by omega)]
    change (mandrelref06_Split.f k (joinOf l)).bind _ = _
    have hm : (2 * (joinOf l).length + 10) * (joinOf l).length ≤ 8010 * 4000 := Nat.mul_le_mul (by omega) (by omega)
    rw [ref_split (joinOf l) (joinOf_bytes l hl) (by omega) k (by omega), Option.bind_some]
    unfold joinR told3
    rcases he : (splitOf (joinOf l)).2.2 with _ | e
    · rfl
    · have := splitOf_err _ _ he
      simp only [Option.getD_some]
      rw [if_neg (by omega)]
      rfl
  | succ d ih =>
    intro i k hd hi hk
    obtain ⟨k, rfl⟩ : ∃ m, k = m + 1 := ⟨k - 1, by omega⟩
    have hmem : l[i] ∈ l := List.getElem_mem _
    have hs := hl _ hmem
    have e1 : encSecs (l.take (i + 1)) = encSecs (l.take i) ++ encSec l[i] := by rw [List.take_succ_eq_append_getElem (by omega), encSecs_app, encSecs, encSecs, List.append_nil]
    have e2 : (encSecs l).length = (encSecs (l.take (i + 1))).length + (encSecs (l.drop (i + 1))).length := by rw [← List.length_append, ← encSecs_app, List.take_append_drop]
    have e3 : (joinOf l).length = 8 + (encSecs l).length := by unfold joinOf headB; simp; omega
    have e4 := encSec_len l[i]
    have e5 : (encSecs (l.take (i + 1))).length = (encSecs (l.take i)).length + (encSec l[i]).length := by rw [e1, List.length_append]
    have e6 : headB.length = 8 := rfl
    have e7 := encSecs_2 l
    rw [mandrelref06_Join.l0, if_pos (by rw [List.length_map]; omega), if_pos (by omega), if_pos (by rw [List.length_append]; omega), rd52_map l i (by omega), Option.bind_some]
    have f2 : (c52 l[i]).f2 = l[i].f2 := rfl
    have f0 : (c52 l[i]).f0 = l[i].f0 := rfl
    rw [f2, f0, idU _ (by omega), refU _ k (by omega) (by omega) (by omega), Option.bind_some, Int.toNat_natCast, if_pos (by simp; omega), Option.bind_some, if_pos (by simp; omega)]
    have ih2 := ih (i + 1) k (by omega) (by omega) (by omega)
    rw [addW1 i (by omega), ← ih2, e1]
    unfold encSec
    simp
theorem refJoin_f (l : List S53) (hl : OkS l) (hlen : (joinOf l).length < 4000) (k : Nat) (hk : l.length + 33000000 ≤ k) : mandrelref06_Join.f k (l.map c52) = some ((joinR l).1, (joinR l).2.getD 0) := by
  have h := refJoin_l0 l hl hlen l.length 0 k (by omega) (by omega) hk
  rw [List.take_zero, encSecs, List.append_nil] at h
  exact h
/-- How long the bytes are. -/
theorem joinOf_len (l : List S52) (hs : sumB l ≤ 3000) : (joinOf (l.map toS)).length ≤ 8 + 11 * l.length + sumB l ∧ ∀ x ∈ l, x.f2.length ≤ 3000 := by
  unfold joinOf
  have h8 : headB.length = 8 := rfl
  rw [List.length_append, h8]
  suffices h : (encSecs (l.map toS)).length ≤ 11 * l.length + sumB l ∧ ∀ x ∈ l, x.f2.length ≤ 3000 by exact ⟨by omega, h.2⟩
  clear h8
  induction l with
  | nil => simp [encSecs, sumB]
  | cons x l ih =>
    rw [sumB] at hs
    have ih2 := ih (by omega)
    rw [List.map_cons, encSecs, List.length_append, encSec_len, sumB, List.length_cons]
    have h1 : (toS x).f2 = x.f2 := rfl
    rw [h1]
    have h2 := encU_10 (v := x.f2.length) (by omega)
    refine ⟨by omega, fun y hy => ?_⟩
    rcases List.mem_cons.mp hy with rfl | hy
    · omega
    · exact ih2.2 y hy
theorem toS_c52 (l : List S52) : (l.map toS).map c52 = l := by
  rw [List.map_map]
  have : (c52 ∘ toS) = id := by funext x; rfl
  rw [this, List.map_id]
/-- A section's fields, as a call hands them in. -/
def Sec52 (l : List S52) : Prop := ∀ x ∈ l, (0 ≤ x.f0 ∧ x.f0 < 256) ∧ BB x.f2
theorem okS_of {l : List S52} (h : Sec52 l) (h2 : ∀ x ∈ l, x.f2.length ≤ 3000) : OkS (l.map toS) := by
  intro s hs
  obtain ⟨x, hx, rfl⟩ := List.mem_map.mp hs
  exact ⟨(h x hx).1, (h x hx).2, by have := h2 x hx; show x.f2.length < _; omega⟩
theorem joins_told (l : List S52) (h : Sec52 l) (hn : l.length ≤ 50) (hs : sumB l ≤ 3000) : ∃ (b : List Int) (e : Option Int), sect_Join.f 40000000 (l.map toS) = some (b, e) ∧ mandrelref06_Join.f 40000000 l = some (b, e.getD 0) ∧ mandrellaw06_sameSections.f 40000000 (l.map toS) l = some true := by
  obtain ⟨h1, h2⟩ := joinOf_len l hs
  have hO := okS_of h h2
  have hm : (l.map toS).length = l.length := List.length_map ..
  refine ⟨(joinR (l.map toS)).1, (joinR (l.map toS)).2, ?_, ?_, ?_⟩
  · rw [join_f _ hO (by omega) _ (by omega)]
    rfl
  · have := refJoin_f (l.map toS) hO (by omega) 40000000 (by omega)
    rw [toS_c52] at this
    exact this
  · have := Go.Proofs.YtljmikfpknmnnaaDoor.Pure.ss_sameF (l.map toS) (by omega) 40000000 (by omega)
    rw [toS_c52] at this
    exact this
end Go.Proofs.YtljmikfpknmnnaaDoor.Sect
