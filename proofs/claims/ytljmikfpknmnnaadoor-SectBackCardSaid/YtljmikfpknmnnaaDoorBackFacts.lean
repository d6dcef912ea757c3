/- SectBack behind its first loops: what each call there answers. No program's walk. -/
import Derived.Test.YtljmikfpknmnnaaDoorLawWords
import Derived.Test.YtljmikfpknmnnaaDoorJoin
import Derived.Test.YtljmikfpknmnnaaDoorJoinPure
import Derived.Test.YtljmikfpknmnnaaDoorXSx9
import Derived.Test.YtljmikfpknmnnaaDoorLebTake
namespace Go.Proofs.YtljmikfpknmnnaaDoor.XS
set_option linter.unusedVariables false
set_option maxRecDepth 20000
open Go Go.RowKit Go.Proofs.YtljmikfpknmnnaaDoor.M Go.Proofs.YtljmikfpknmnnaaDoor.Leb Go.Proofs.YtljmikfpknmnnaaDoor.Sect Go.Proofs.YtljmikfpknmnnaaDoorW.PrintWords Go.Proofs.YtljmikfpknmnnaaDoorW.PrintLast Go.Proofs.YtljmikfpknmnnaaDoorW.PrintMore
theorem bk_len (l : List S52) (hs : sumB l ≤ 3000) : (joinOf (l.map toS)).length ≤ 8 + 11 * l.length + sumB l ∧ ∀ x ∈ l, x.f2.length ≤ 3000 := by
  unfold joinOf
  have h8 : headB.length = 8 := rfl
  rw [List.length_append, h8]
  suffices h : (encSecs (l.map toS)).length ≤ 11 * l.length + sumB l ∧ ∀ x ∈ l, x.f2.length ≤ 3000 by exact ⟨by omega, h.2⟩
  clear h8
  induction l with
  | nil => simp [encSecs, sumB]
  | cons x l ih =>
    rw [sumB] at hs
    have ih2 := ih (by omega)
    rw [List.map_cons, encSecs, List.length_append, encSec_len, sumB, List.length_cons]
    have h1 : (toS x).f2 = x.f2 := rfl
    rw [h1]
    have h2 := encU_10 (v := x.f2.length) (by omega)
    refine ⟨by omega, fun y hy => ?_⟩
    rcases List.mem_cons.mp hy with rfl | hy
    · omega
    · exact ih2.2 y hy
theorem bk_ok {l : List S52} (h : ∀ x ∈ l, (0 ≤ x.f0 ∧ x.f0 < 256) ∧ BB x.f2) (h2 : ∀ x ∈ l, x.f2.length ≤ 3000) : OkS (l.map toS) := by
  intro s hs
  obtain ⟨x, hx, rfl⟩ := List.mem_map.mp hs
  exact ⟨(h x hx).1, (h x hx).2, by have := h2 x hx; show x.f2.length < _; omega⟩
theorem topOf_lt (l : List S53) (top : Int) (h : top < 256) (hl : ∀ s ∈ l, s.f0 < 256) : topOf top l < 256 := by
  induction l generalizing top with
  | nil => exact h
  | cons s l ih => rw [topOf_cons]; exact ih _ (by have := hl s (by simp); unfold mx; split <;> omega) (fun x hx => hl x (by simp [hx]))
theorem topOf_snoc (l : List S53) (top : Int) (s : S53) : topOf top (l ++ [s]) = mx (topOf top l) s.f0 := by
  unfold topOf
  rw [List.foldl_append]
  rfl
/-- Round i of the law's loop. -/
theorem back_at (l : List S52) (own : List S53) (ho : own = l.map toS) (hO : OkS own) (i : Nat) (hi : i < l.length) : ∃ (f0 : Int) (o : Nat) (f2 : List Int), rd_T53 (laid 8 own) (i : Int) = ⟨f0, (o : Int), f2⟩ ∧ (rd_T52 l (i : Int)).f0 = f0 ∧ (rd_T52 l (i : Int)).f2 = f2 ∧ 10 ≤ o ∧ o + f2.length ≤ (joinOf own).length ∧ ((joinOf own).take (o + f2.length)).drop o = f2 ∧ topOf 0 (own.take (i + 1)) = mx (topOf 0 (own.take i)) f0 := by
  have hlm : l.length = own.length := by rw [ho, List.length_map]
  have hi2 : i < own.length := by omega
  obtain ⟨o, g1, g2, g3, g4⟩ := laid_get own 8 i hi2
  have hj : (joinOf own).length = 8 + (encSecs own).length := by unfold joinOf headB; rw [List.length_append]; rfl
  have e2 : rd_T53 (laid 8 own) (i : Int) = ⟨(own.getD i z53).f0, (o : Int), (own.getD i z53).f2⟩ := by unfold rd_T53; rw [Int.toNat_natCast]; exact g1
  have e3 : own.getD i z53 = toS (rd_T52 l (i : Int)) := by
    unfold rd_T52
    rw [Int.toNat_natCast, ho, List.getD_eq_getElem?_getD, List.getD_eq_getElem?_getD, List.getElem?_map, List.getElem?_eq_getElem (by omega)]
    rfl
  refine ⟨_, o, _, e2, by rw [e3]; rfl, by rw [e3]; rfl, g2, by omega, ?_, ?_⟩
  · have := g4 headB rfl []
    rw [List.append_nil] at this
    exact this
  · rw [List.take_succ_eq_append_getElem hi2, topOf_snoc, List.getD_eq_getElem?_getD, List.getElem?_eq_getElem hi2]
    rfl
/-- What holds in every world that has a world's blocks from n0 on. -/
def Keeps (n0 : Nat) (w' : World) (P : World → Prop) : Prop := ∀ W2 : World, (∀ k, n0 ≤ k → k < w'.heap.size → W2.heap[k]? = w'.heap[k]?) → P W2
theorem joinW_ok (own : List S53) (hO : OkS own) (hl : (joinOf own).length < 100000) (hw : walkOk 0 own = true) (A : Option Addr) (n c : Nat) (hn : n = own.length) (W : World) (hC : Kd.C k53 W A n own) (hc : n ≤ c) :
    Calls Tryd.prog 23 #[.slice A n c] W fun e w' => ∃ A' L c', L = (joinOf own).length ∧ e = .returned (.tuple #[.slice A' L c', .nilIface]) ∧ Keeps W.heap.size w' (fun W2 => Kd.C (Kd.int .u8) W2 A' L (joinOf own)) ∧ L ≤ c' ∧ Below W.heap.size W w' := by
  subst hn
  have hlen : own.length ≤ (joinOf own).length := by unfold joinOf; have := encSecs_2 own; rw [List.length_append]; omega
  have h := join_f own hO (by omega) 12000000 (by omega)
  rw [(split_join _ hO).1 hw] at h
  refine (sect_Join.calls 12000000 A c own _ _ W hC hc h).mono ?_
  rintro e w' ⟨v, rfl, h1, h2⟩
  obtain ⟨A', c', rfl⟩ := Kd.V_slice h1
  have h3 := Kd.V_reads' h1
  exact ⟨A', _, c', rfl, rfl, fun W2 hW => (Kd.V_at h1).2.2 W2 hW, h3.2.1, h2⟩
theorem joinW_no (own : List S53) (hO : OkS own) (hl : (joinOf own).length < 1000000) (hw : ∃ i e, splitOf (joinOf own) = ([], i, some e)) (A : Option Addr) (n c : Nat) (hn : n = own.length) (W : World) (hC : Kd.C k53 W A n own) (hc : n ≤ c) :
    Calls Tryd.prog 23 #[.slice A n c] W fun e w' => ∃ v, e = .returned (.tuple #[v, errW (some 1)]) ∧ Below W.heap.size W w' := by
  subst hn
  have hlen : own.length ≤ (joinOf own).length := by unfold joinOf; have := encSecs_2 own; rw [List.length_append]; omega
  have h := join_f own hO hl 13000000 (by omega)
  obtain ⟨i, e, hs⟩ := hw
  rw [hs] at h
  refine (sect_Join.calls 13000000 A c own _ _ W hC hc h).mono ?_
  rintro e w' ⟨v, rfl, h1, h2⟩
  exact ⟨v, rfl, h2⟩
theorem splitW_ok (own : List S53) (hO : OkS own) (hl : (joinOf own).length < 100000) (hw : walkOk 0 own = true) (A : Option Addr) (n c : Nat) (hn : n = (joinOf own).length) (W : World) (hC : Kd.C (Kd.int .u8) W A n (joinOf own)) (hc : n ≤ c) (m : Nat) (hm : m = own.length) :
    Calls Tryd.prog 18 #[.slice A n c] W fun e w' => ∃ A' c', e = .returned (.tuple #[.slice A' m c', .int .i64 n, .nilIface]) ∧ Keeps W.heap.size w' (fun W2 => Kd.C k53 W2 A' m (laid 8 own)) ∧ m ≤ c' ∧ Below W.heap.size W w' := by
  subst hn
  have h := prog_split _ (joinOf_bytes _ hO) (by omega) 2000000 (by omega)
  rw [(split_join _ hO).1 hw] at h
  refine (sect_Split.calls 2000000 A c _ _ _ _ W hC hc h).mono ?_
  rintro e w' ⟨v, rfl, h1, h2⟩
  obtain ⟨A', c', rfl⟩ := Kd.S_slice h1
  have h3 := Kd.S_reads' h1
  have h4 := laid_length 8 own
  rw [h4, ← hm] at h3
  have h5 := Kd.S_F (Kd.S_mono (ok' := fun k => W.heap.size ≤ k) (Kd.S_bound h1) (fun k hk => hk.2.1))
  rw [h4, ← hm] at h5
  exact ⟨A', c', by rw [h4, hm]; rfl, fun W2 hW => h5 W2 hW, h3.2.1, h2⟩
theorem splitW_err (b : List Int) (hb : BB b) (hl : b.length < 100000) (hs : ∃ i, splitOf b = ([], i, some 4)) (A : Option Addr) (n c : Nat) (hn : n = b.length) (W : World) (hC : Kd.C (Kd.int .u8) W A n b) (hc : n ≤ c) :
    Calls Tryd.prog 18 #[.slice A n c] W fun e w' => ∃ v i, e = .returned (.tuple #[v, .int .i64 i, errW (some 4)]) ∧ Below W.heap.size W w' := by
  subst hn
  have h := prog_split _ hb (by omega) 2000000 (by omega)
  obtain ⟨i, hs⟩ := hs
  rw [hs] at h
  refine (sect_Split.calls 2000000 A c _ _ _ _ W hC hc h).mono ?_
  rintro e w' ⟨v, rfl, h1, h2⟩
  exact ⟨v, i, rfl, h2⟩
/-- A cut b[o : o+n] that is a section's contents. -/
theorem cutMid (xs f2 : List Int) (o : Nat) (hx : (xs.take (o + f2.length)).drop o = f2) (A : Option Addr) (n c : Nat) (hn : n = xs.length) (hc : n ≤ c) (ho : o + f2.length ≤ n) :
    ∃ A', (∀ W : World, (Instr.slice 22 (.slice A n c) (some (.int .i64 (o : Int))) (some (.int .i64 ((o : Int) + (f2.length : Int)))) none).run Tryd.prog W = .ok (.slice A' f2.length (c - o)) W) ∧ ∀ w : World, Kd.C (Kd.int .u8) w A n xs → Kd.C (Kd.int .u8) w A' f2.length f2 := by
  obtain ⟨i0, hi, hz0, hz1, hz2⟩ := info_parts info5
  obtain ⟨A', h1, h2, h3⟩ := print_mid_of (P := Tryd.prog) (Value.int .u8) (0 : Int) 22 5 .i64 .i64 Tryd.underlying22 hi hz1 A c xs (o : Int) ((o : Int) + (f2.length : Int)) (by omega) (by omega) (by omega) (by omega)
  rw [show ((o : Int) + (f2.length : Int)).toNat = o + f2.length by omega, Int.toNat_natCast, hx] at h1 h2
  refine ⟨A', fun W => ?_, fun w hC => ?_⟩
  · have := h1 W
    rw [← hn] at this
    exact this
  · have hr := Kd.reads_of_C (d := (0 : Int)) hC
    rw [hn] at hr
    exact Kd.C_of_reads (d := (0 : Int)) (h1 := fun _ => rfl) (h2 w hr)
theorem cutHead (xs : List Int) (m : Nat) (A : Option Addr) (n c : Nat) (hn : n = xs.length) (hc : n ≤ c) (hm : m ≤ n) (j : Int) (hj : j = (m : Int)) :
    (∀ W : World, (Instr.slice 22 (.slice A n c) none (some (.int .i64 j)) none).run Tryd.prog W = .ok (.slice A m c) W) ∧ ∀ w : World, Kd.C (Kd.int .u8) w A n xs → Kd.C (Kd.int .u8) w A m (xs.take m) := by
  subst hj
  obtain ⟨i0, hi, hz0, hz1, hz2⟩ := info_parts info5
  obtain ⟨h1, h2, h3⟩ := print_take_of (P := Tryd.prog) (Value.int .u8) (0 : Int) 22 5 .i64 Tryd.underlying22 hi hz1 A c xs (m : Int) (by omega) (by omega) (by omega)
  have hl : (xs.take m).length = m := by rw [List.length_take]; omega
  rw [Int.toNat_natCast, hl] at h1 h2
  refine ⟨fun W => ?_, fun w hC => ?_⟩
  · have := h1 W
    rw [← hn] at this
    exact this
  · have hr := Kd.reads_of_C (d := (0 : Int)) hC
    rw [hn] at hr
    exact Kd.C_of_reads (d := (0 : Int)) (h1 := fun _ => rfl) (h2 w hr)
theorem last_of (own : List S53) (h : 0 < own.length) : ∃ pre s, own = pre ++ [s] :=
  ⟨own.dropLast, own.getLast (List.length_pos_iff.1 h), (List.dropLast_concat_getLast (List.length_pos_iff.1 h)).symm⟩
theorem last_f2 (l : List S52) (own : List S53) (ho : own = l.map toS) (pre : List S53) (s : S53) (hps : own = pre ++ [s]) (f2 : List Int) (h : (rd_T52 l ((l.length - 1 : Nat) : Int)).f2 = f2) (h0 : 0 < l.length) : f2 = s.f2 := by
  have hl : l.length = pre.length + 1 := by
    have : (l.map toS).length = (pre ++ [s]).length := by rw [← ho, hps]
    simpa using this
  have h1 : (own.getD (l.length - 1) z53) = s := by
    rw [hps, List.getD_eq_getElem?_getD, hl, Nat.add_sub_cancel, List.getElem?_append_right (Nat.le_refl _), Nat.sub_self]
    rfl
  have h2 : (own.getD (l.length - 1) z53) = toS (rd_T52 l ((l.length - 1 : Nat) : Int)) := by
    unfold rd_T52
    rw [Int.toNat_natCast, ho, List.getD_eq_getElem?_getD, List.getD_eq_getElem?_getD, List.getElem?_map, List.getElem?_eq_getElem (by omega)]
    rfl
  rw [← h, ← h1, h2]
  rfl
theorem mod_q (a : Int) (n : Nat) (h : 0 < n) (hn : n < 100000) : ∃ q : Nat, wrap64 ((IntKind.u64.wrap a).tmod (n : Int)) = (q : Int) ∧ q < n := by
  have h1 : 0 ≤ IntKind.u64.wrap a := by rw [u64w]; omega
  rw [Int.tmod_eq_emod_of_nonneg h1]
  have h2 := Int.emod_nonneg (IntKind.u64.wrap a) (show (n : Int) ≠ 0 by omega)
  have h3 := Int.emod_lt_of_pos (IntKind.u64.wrap a) (show (0 : Int) < (n : Int) by omega)
  refine ⟨(IntKind.u64.wrap a % (n : Int)).toNat, ?_, by omega⟩
  rw [w64_in (by omega) (by omega)]
  omega
theorem more_ok (own : List S53) (tp : Int) (ht : tp = topOf 0 own) (hl : OkS own) (hb : (joinOf own).length < 100000) (h0 : 0 < tp) (h8 : topOf 0 own < 256) :
    OkS (own ++ [(⟨tp, 0, []⟩ : S53)]) ∧ (joinOf (own ++ [(⟨tp, 0, []⟩ : S53)])).length < 1000000 ∧ ∃ i e, splitOf (joinOf (own ++ [(⟨tp, 0, []⟩ : S53)])) = ([], i, some e) := by
  subst ht
  refine ⟨?_, ?_, split_more own hl h0 h8⟩
  · intro s hs
    rcases List.mem_append.mp hs with hs | hs
    · exact hl s hs
    · rw [List.mem_singleton] at hs
      subst hs
      exact ⟨⟨by simp only []; omega, by simp only []; omega⟩, fun x hx => by simp at hx, by simp⟩
  · have e : joinOf (own ++ [(⟨topOf 0 own, 0, []⟩ : S53)]) = joinOf own ++ encSec ⟨topOf 0 own, 0, []⟩ := by unfold joinOf; rw [encSecs_app, encSecs, encSecs, List.append_nil, List.append_assoc]
    rw [e, List.length_append, encSec_len]
    have := encU_10 (v := 0) (by omega)
    simp only [List.length_nil]
    omega
end Go.Proofs.YtljmikfpknmnnaaDoor.XS
