/- Layer 3: New; slices.Clone of bytes; (*Memory).Bytes. -/
import Derived.Test.YtocjneilaabnnaaMGrow
import Derived.OwnWalk
import Derived.Lib.SliceRun
namespace Go.Proofs.Ytocjneilaabnnaa.M
open Go Go.RowKit Go.Proofs.YtocjneilaabnnaaW.PrintWords
set_option linter.unusedVariables false
set_option linter.unusedSimpArgs false
set_option maxHeartbeats 4000000 in
set_option maxRecDepth 100000 in
theorem new_yes (n most : Nat) (w : World) (hn : n ≤ most) (hm : most ≤ 16) :
    Calls Try.prog 6 #[.int .i64 n, .int .i64 most] w fun e w' => e = .returned (.tuple #[.pointer (some ⟨w.heap.size + 1, 0, none⟩), .nilIface]) ∧ Below w.heap.size w w' ∧ IsMem w' (w.heap.size + 1) w.heap.size (4096 * n) (4096 * n) most (fun _ => 0) := by
  have hmk : ∀ w : World, (Instr.makeSlice 36 (.int .i64 ((n : Int) * 4096)) (.int .i64 ((n : Int) * 4096))).run Try.prog w = .ok (.slice (some ⟨w.heap.size, 0, none⟩) (4096 * n) (4096 * n)) (w.alloc (.cells (madeCells #[.int .u8 0] (4096 * n)) 5)) := by
    intro w
    rw [show (n : Int) * 4096 = ((4096 * n : Nat) : Int) by omega]
    exact run_make_row' 36 5 (.int .u8 0) 1 Try.underlying36 info5 rfl .i64 .i64 (4096 * n) (by omega) (by omega) w
  go_enter Try.func6, Try.ntmps6
  go_wp2
  go_ret2
  refine ⟨rfl, below_alloc (below_alloc (Below.refl _ _) _) _, ⟨⟨#[.slice (some ⟨w.heap.size, 0, none⟩) (4096 * n) (4096 * n), .int .i64 most], ?_, rfl, fun j hj => ?_⟩, ?_, Nat.le_refl _, by omega, by simp only [maxLen]; omega, by omega⟩⟩
  · have h := heap_alloc_new (w.alloc (.cells (madeCells #[.int .u8 0] (4096 * n)) 5)) (.cells #[.slice (some ⟨w.heap.size, 0, none⟩) (4096 * n) (4096 * n), .int .i64 most] 59)
    rw [World.size_alloc] at h
    exact h
  · rcases j with _ | _ | j
    · rfl
    · rfl
    · omega
  · exact (World.rowIs_made w (.int .u8 0) (4096 * n) 5).alloc _
set_option maxHeartbeats 4000000 in
set_option maxRecDepth 100000 in
theorem clone_row (b off len cap : Nat) (g : Nat → Int) (w : World) (hc : ∀ j, j < len → w.cell? ⟨b, off + j, none⟩ = some (.int .u8 (g j))) (hl : len ≤ 140737488355328) :
    Calls Try.prog 20 #[.slice (some ⟨b, off, none⟩) len cap] w fun e w' => ∃ b' cap', e = .returned (.slice (some ⟨b', 0, none⟩) len cap') ∧ Below w.heap.size w w' ∧ w.heap.size ≤ b' ∧ ∀ j, j < len → w'.cell? ⟨b', j, none⟩ = some (.int .u8 (g j)) := by
  obtain ⟨i0, hi, hz0, hz1, hz2⟩ := info_parts info5
  have hq := fun (w : World) => Lib.run_eql_slice_nil (P := Try.prog) w 36 5 (some ⟨b, off, none⟩) len cap 0 0 Try.underlying36
  have hbs : ∀ W : World, (Instr.buildSlice 36 0 #[]).run Try.prog W = .ok (.slice (some ⟨W.heap.size, 0, none⟩) 0 0) (W.alloc (.cells #[] 5)) := fun W => by kernel_rfl
  obtain ⟨news, hnews⟩ : ∃ news, news = (List.range len).map fun j => Value.int .u8 (g j) := ⟨_, rfl⟩
  have hnl : news.length = len * 1 := by simp [hnews]
  have hnc : ∀ j u, news[j]? = some u → (w.alloc (.cells #[] 5)).cell? ((⟨b, off, none⟩ : Addr).add j) = some u := by
    intro j u hu
    have hj : j < len := by have := (List.getElem?_eq_some_iff.1 hu).1; omega
    have e1 : (⟨b, off, none⟩ : Addr).add j = ⟨b, off + j, none⟩ := by unfold Addr.add; split <;> simp_all
    have e2 : u = .int .u8 (g j) := by
      rw [hnews, List.getElem?_map, List.getElem?_range hj] at hu
      exact (Option.some.inj hu).symm
    rw [e1, e2]
    have h := hc j hj
    exact ((below_alloc (Below.refl w.heap.size w) _).cell (p := ⟨b, off + j, none⟩) (World.block_lt_of_cell? w _ h)).trans h
  have hn1 : ∀ u ∈ news, u.oneCell' = true := by
    intro u hu
    rw [hnews] at hu
    obtain ⟨j, _, rfl⟩ := List.mem_map.1 hu
    rfl
  have hown : (w.alloc (.cells #[] 5)).ownsRow w.heap.size 5 1 (.slice (some ⟨w.heap.size, 0, none⟩) 0 0) 0 [] := by
    have := World.ownsRow_lit (base := w.heap.size) (e := 5) (size := 1) w #[] 0 (Nat.le_refl _) (by simp [maxLen]) (by simp)
    simpa using this
  have HN := Aside0.mk (And.intro hnews (And.intro hnl (And.intro hnc (And.intro hn1 hown))))
  clear hnews hnl hnc hn1 hown hc
  go_enter Try.func20, Try.ntmps20
  go_wp2_with (at_builtin; refine wpList_append_own _ rfl (.tmp 5) (.tmp 6) 36 rfl w.heap.size 5 i0 (.int .u8 0) 1 1 Try.underlying36 hi hz0 hz1 hz2 rfl (by decide) (.slice (some ⟨w.heap.size, 0, none⟩) 0 0) 0 [] rfl HN.out.2.2.2.2 ⟨b, off, none⟩ len cap news rfl HN.out.2.1 HN.out.2.2.1 HN.out.2.2.2.1 (by simp only [maxLen]; omega) (by omega) (by simp) ?_; intro v' w1 hown' hgrow hnil)
  go_ret
  have hcell : ∀ b' cap', v' = .slice (some ⟨b', 0, none⟩) len cap' → ∀ j, j < len → w1.cell? ⟨b', j, none⟩ = some (.int .u8 (g j)) := by
    intro b' cap' hv j hj
    subst hv
    have h := hown'.cells (g := b') rfl j (.int .u8 (g j)) (by rw [List.nil_append, HN.out.1, List.getElem?_map, List.getElem?_range hj]; rfl)
    have e1 : (⟨b', 0, none⟩ : Addr).add j = ⟨b', j, none⟩ := by unfold Addr.add; split <;> simp_all
    rwa [e1] at h
  rcases hown'.2 with ⟨h, _⟩ | ⟨g0, cap0, cur, rfl, hb, _⟩
  · exact absurd (hnil.1 h).1 (by simp)
  · rw [Nat.zero_add] at hcell ⊢
    exact ⟨g0, cap0, rfl, (below_alloc (Below.refl _ _) _).grown hgrow (by simp) (fun k e => by cases e; exact Nat.le_refl _), hb, hcell g0 cap0 rfl⟩
set_option maxHeartbeats 4000000 in
set_option maxRecDepth 100000 in
theorem bytes_yes (p b len cap x n : Nat) (most : Int) (g : Nat → Int) (w : World) (h : IsMem w p b len cap most g) (hin : x + n ≤ len) (hlen : len ≤ 16777216) (hcap : x < cap) :
    Calls Try.prog 11 #[.pointer (some ⟨p, 0, none⟩), .int .i64 x, .int .i64 n] w fun e w' => ∃ b' cap', e = .returned (.tuple #[.slice (some ⟨b', 0, none⟩) n cap', .nilIface]) ∧ Below w.heap.size w w' ∧ w.heap.size ≤ b' ∧ ∀ j, j < n → w'.cell? ⟨b', j, none⟩ = some (.int .u8 (g (x + j))) := by
  have C := Aside0.mk (clone_row b x n (cap - x) (fun j => g (x + j)) w (fun j hj => h.row.cell (by have := h.le; omega)) (by omega))
  have hc := h.c0
  have hle := h.le
  clear h
  go_enter Try.func11, Try.ntmps11
  go_wp2_with (go_at_call 20; refine C.out.mono ?_; rintro e w2 ⟨b', cap', rfl, h1, h2, h3⟩)
  go_ret2
  exact ⟨b', cap', rfl, h1, h2, h3⟩
end Go.Proofs.Ytocjneilaabnnaa.M
