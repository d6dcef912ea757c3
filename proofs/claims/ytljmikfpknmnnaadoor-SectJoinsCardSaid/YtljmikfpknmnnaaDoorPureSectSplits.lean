/- SectSplits: the sections of any bytes, or where they are wrong, and how: the program's answer is the document's; longer bytes only come to the small thing that the layer does. No condition. -/
import Derived.Test.YtljmikfpknmnnaaDoorXSx9
import Derived.Test.YtljmikfpknmnnaaDoorRefSplit
namespace Go.Proofs.YtljmikfpknmnnaaDoor.Pure
open Go Go.RowKit Go.Proofs.YtljmikfpknmnnaaDoor.M Go.Proofs.YtljmikfpknmnnaaDoor.Leb Go.Proofs.YtljmikfpknmnnaaDoor.Sect Go.Proofs.YtljmikfpknmnnaaDoor.XS Go.Proofs.YtljmikfpknmnnaaDoorW.PrintWords Go.Proofs.YtljmikfpknmnnaaDoorW.PrintLast Go.Proofs.YtljmikfpknmnnaaDoorW.PrintMore
theorem ss_bytes {l : List Int} (h : ∀ x ∈ l, (Lit.int .u8 x).wf = true) : BB l := by
  intro x hx
  have := h x hx
  simp [Lit.wf, IntKind.min, IntKind.max, IntKind.signed, IntKind.bits] at this
  omega
theorem ss_num (e : Option Int) : mandrellaw06_num.f e = some (e.getD 0) := by
  cases e <;> rfl
theorem ss_same (l : List S53) (hl : l.length < 4611686018427387904) : ∀ (d i k : Nat), l.length - i = d → i ≤ l.length → d < k → mandrellaw06_sameSections.l0 k l (l.map c52) (i : Int) = some true
  | 0, i, k, hd, hi, hk => by
    obtain ⟨k, rfl⟩ : ∃ m, k = m + 1 := ⟨k - 1, by omega⟩
    rw [mandrellaw06_sameSections.l0, if_neg (by omega)]
  | d + 1, i, k, hd, hi, hk => by
    obtain ⟨k, rfl⟩ : ∃ m, k = m + 1 := ⟨k - 1, by omega⟩
    have hlt : i < l.length := by omega
    have e : rd_T52 (l.map c52) (i : Int) = c52 (rd_T53 l (i : Int)) := by
      unfold rd_T52 rd_T53
      rw [Int.toNat_natCast, List.getD_eq_getElem?_getD, List.getD_eq_getElem?_getD, List.getElem?_map, List.getElem?_eq_getElem hlt]
      rfl
    rw [mandrellaw06_sameSections.l0, if_pos (by omega), if_pos (by omega), if_pos (by rw [List.length_map]; omega), e, if_pos (show (rd_T53 l (i : Int)).f0 = (c52 (rd_T53 l (i : Int))).f0 from rfl), if_pos (show (rd_T53 l (i : Int)).f1 = (c52 (rd_T53 l (i : Int))).f1 from rfl), if_pos (show (strOfNums (rd_T53 l (i : Int)).f2).toList = (strOfNums (c52 (rd_T53 l (i : Int))).f2).toList from rfl), w64_in (by omega) (by omega)]
    exact ss_same l hl d (i + 1) k (by omega) (by omega) (by omega)
theorem ss_sameF (l : List S53) (hl : l.length < 4611686018427387904) (k : Nat) (hk : l.length < k) : mandrellaw06_sameSections.f k l (l.map c52) = some true := by
  unfold mandrellaw06_sameSections.f
  rw [if_pos (by rw [List.length_map])]
  exact ss_same l hl l.length 0 k (by omega) (by omega) (by omega)
theorem splitS_len (b : List Int) : ∀ (d : Nat) (out : List S53) (top : Int) (a : Nat), (splitS d b out top a).1.length ≤ out.length + d
  | 0, out, top, a => by rw [splitS]; exact Nat.le_refl _
  | d + 1, out, top, a => by
    rw [splitS]
    split
    · split
      · simp
      · split
        · simp
        · split
          · simp
          · split
            · simp
            · have := splitS_len b d (out ++ [⟨b.getD a 0, (a : Int) + 1 + (takeUOf (b.drop (a + 1)) 32).2.1, (b.take (a + 1 + (takeUOf (b.drop (a + 1)) 32).2.1.toNat + (takeUOf (b.drop (a + 1)) 32).1.toNat)).drop (a + 1 + (takeUOf (b.drop (a + 1)) 32).2.1.toNat)⟩]) (mx top (b.getD a 0)) (a + 1 + (takeUOf (b.drop (a + 1)) 32).2.1.toNat + (takeUOf (b.drop (a + 1)) 32).1.toNat)
              rename_i v n he _ _ _
              rw [he] at this
              simp only [List.length_append, List.length_singleton] at this
              omega
    · simp
theorem splitOf_len (b : List Int) : (splitOf b).1.length ≤ b.length := by
  unfold splitOf
  split
  · simp
  · have := splitS_len b b.length [] 0 8
    simpa using this
end Go.Proofs.YtljmikfpknmnnaaDoor.Pure
