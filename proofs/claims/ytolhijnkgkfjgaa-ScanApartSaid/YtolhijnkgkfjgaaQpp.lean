/- The queue: one comes in, one goes out. -/
import Derived.Test.YtolhijnkgkfjgaaSwap
namespace Go.Proofs.Ytolhijnkgkfjgaa.XC
open Go.RowKit Go.Proofs.YtolhijnkgkfjgaaW.PrintWords Go.Proofs.YtolhijnkgkfjgaaW.PrintLast Go.Proofs.YtolhijnkgkfjgaaW.PrintMore
attribute [local go_sem] max2_int min2_int max_two min_two max_three min_three max_four min_four   -- for this text's walks alone
set_option linter.unusedVariables false
set_option linter.unusedSimpArgs false
theorem infoI : (Try.prog.info? 3).map (fun i => (i.zero, i.size, i.bytes)) = some (some (.int .i64 0), 1, 8) := by kernel_rfl
theorem infoIs : (Try.prog.info? 29).map (fun i => (i.zero, i.size, i.bytes)) = some (some (.slice none 0 0), 1, 24) := by kernel_rfl
theorem R_ne_QS {w : World} {B g n c : Nat} {A : Option Addr} {v v0 : Value} {xs : List Int} (h : RI w B v xs) (hp : QS w g A n c v0) : some g ≠ v.ownBlock := Kd.R_ne h hp (by decide)
/-- A store into the queue's block leaves a row. -/
theorem R_qstore {w : World} {B g n c : Nat} {A : Option Addr} {v v0 v1 : Value} {xs : List Int} (h : RI w B v xs) (hp : QS w g A n c v0) : RI (w.setCell ⟨g, 1, none⟩ v1) B v xs :=
  Kd.R_mono (Kd.R_far (p := ⟨g, 1, none⟩) (Kd.R_types h hp (by decide)) (fun _ hk => hk.2) v1) (fun _ _ => trivial)
theorem ta_int (x : Int) (w : World) : (Instr.typeAssert (.iface 3 (.int .i64 x)) 20 3 true).run Try.prog w = .ok (.tuple #[.int .i64 x, .bool true]) w := by kernel_rfl
def NewOr (w : World) (v v' : Value) : Prop := ∀ k, v'.ownBlock = some k → v.ownBlock = some k ∨ w.heap.size ≤ k
set_option maxHeartbeats 8000000 in
set_option maxRecDepth 100000 in
theorem q_push (w0 w : World) (hB : Below w0.heap.size w0 w) (A : Option Addr) (n c g B : Nat) (v : Value) (ids : List Int) (hq : QS w g A n c v) (hv : RI w B v ids) (hg : w0.heap.size ≤ g) (hB0 : w0.heap.size ≤ B) (hBw : B ≤ w.heap.size) (x : Int) (hl : ids.length < 1000000) :
    Calls Try.prog 63 #[.pointer (some ⟨g, 0, none⟩), .iface 3 (.int .i64 x)] w fun e w' => e = .returned (.tuple #[]) ∧ ∃ v', QS w' g A n c v' ∧ RI w' B v' (ids ++ [x]) ∧ Below w0.heap.size w0 w' ∧ Kept w w' (QK g v) ∧ NewOr w v v' := by
  have hx1 := hq.c1
  have HQ := Aside0.mk hq
  have HV := Aside0.mk hv
  have HB := Aside0.mk hB
  have HG := Aside0.mk hg
  have HB0 := Aside0.mk hB0
  have HBW := Aside0.mk hBw
  have HL := Aside0.mk hl
  clear hq hv hB hg hB0 hBw hl
  have hta := ta_int x
  go_enter Try.func63, Try.ntmps63
  go_wp2_with ((with_reducible refine gate_builtin (b := .append) (xs := #[.tmp 16, .tmp 18]) rfl ?_); at_builtin; refine Kd.R_append (Kd.int .i64) (w0 := w) B rfl (.tmp 16) (.tmp 18) 29 3 (.int .i64 0) 8 rfl Try.underlying29 infoI rfl (by decide) (by omega) v ids x [.int .i64 x] (fun _ => True) (fun _ => False) rfl rfl ?aP (fun _ hk => hk.elim) ?aF ?aO ?aB ?aS ?aL ?_; (case aP => exact rfl); (case aB => exact Below.refl _ _); (case aF => exact (fun _ _ => trivial)); (case aO => exact HV.out); (case aS => exact HBW.out); (case aL => have := HL.out; omega); intro v1 w1 ho hb hg hat; obtain ⟨A1, n1, c1, e1⟩ : ∃ A n c, v1 = .slice A n c := (by obtain ⟨A, c, h, _⟩ := Kd.R_reads ho; exact ⟨A, _, c, h⟩); subst e1; have HR1 := Aside0.mk ho; have HQ1 := Aside0.mk (HQ.out.block (hg.block g HQ.out.lt (R_ne_QS HV.out HQ.out))); have HB1 := Aside0.mk (below_weaken HB.out HB0.out hb); have HK1 := Aside0.mk (Kept.of_grown hg (Kept.refl w (QK g v)) (fun k hk => .inl (.inr hk))); have HN1 := Aside0.mk hat; have hz1 := HQ1.out.z1; have hy1 := HQ1.out.c1; clear ho hb hg hat)
  go_end0
  exact ⟨rfl, _, HQ1.out.put _, R_qstore HR1.out HQ1.out, below_set HB1.out HG.out, HK1.out.setCell (p := ⟨g, 1, none⟩) (.inl (.inl rfl)) _, fun k hk => HN1.out.elim (fun h => .inl (by rw [← h]; exact hk)) (fun ⟨b, h, hb⟩ => .inr (by rw [h] at hk; injection hk with hk; rw [← hk]; exact hb))⟩
set_option maxHeartbeats 8000000 in
set_option maxRecDepth 100000 in
theorem q_pop (w0 w : World) (hB : Below w0.heap.size w0 w) (A : Option Addr) (n c g B : Nat) (v : Value) (ids : List Int) (x : Int) (hq : QS w g A n c v) (hv : RI w B v (ids ++ [x])) (hg : w0.heap.size ≤ g) (hl : ids.length < 1000000) :
    Calls Try.prog 62 #[.pointer (some ⟨g, 0, none⟩)] w fun e w' => e = .returned (.iface 3 (.int .i64 x)) ∧ ∃ v', QS w' g A n c v' ∧ RI w' B v' ids ∧ Below w0.heap.size w0 w' ∧ Kept w w' (QK g v) ∧ NewOr w v v' := by
  obtain ⟨go, co, rfl, hgB, hgl, cells, hgo⟩ := Kd.R_form hv (by simp)
  have hx1 := hq.c1
  have HQ := Aside0.mk hq
  have HV := Aside0.mk hv
  have HB := Aside0.mk hB
  have HG := Aside0.mk hg
  have hz1 := hq.z1
  obtain ⟨L, hL⟩ : ∃ L, L = (ids ++ [x]).length := ⟨_, rfl⟩
  have hlen : L = ids.length + 1 := by rw [hL]; simp
  obtain ⟨hxi, _⟩ := Kd.R_celln 0 hv (ids.length : Int) (by omega) (by rw [← hL, hlen]; omega)
  rw [Int.toNat_natCast, show rdOf 0 (ids ++ [x]) (ids.length : Int) = x by unfold rdOf; simp] at hxi
  have hcap := (Kd.R_reads' hv).2.1
  rw [← hL] at hx1 hcap
  have HT := Aside0.mk (show RI w B (.slice (some ⟨go, 0, none⟩) ids.length co) ids by
    have h := Kd.R_take hv (m := ids.length) (by rw [← hL, hlen]; omega)
    rw [List.take_left] at h
    exact h)
  obtain ⟨m, hm⟩ : ∃ m, m = ids.length := ⟨_, rfl⟩
  rw [← hm] at hxi HT hlen
  have hw : wrap64 ((L : Int) - 1) = (m : Int) := by unfold wrap64; omega
  have p1 : (0 ≤ (m : Int)) = True := eq_true (by omega)
  have p3 : ((m : Int) < (L : Int)) = True := eq_true (by omega)
  have q1 : (m < L) = True := eq_true (by omega)
  have q3 : (m ≤ co) = True := eq_true (by omega)
  have q4 : ((m : Int) ≤ (co : Int)) = True := eq_true (by omega)
  clear hq hv hB hg hgB hgl hgo hcap hl hL hlen hm
  go_enter Try.func62, Try.ntmps62
  go_wp2
  go_ret
  exact ⟨rfl, _, HQ.out.put _, R_qstore HT.out HQ.out, below_set HB.out HG.out, (Kept.refl w _).setCell (p := ⟨g, 1, none⟩) (.inl (.inl rfl)) _, fun k hk => .inl hk⟩
end Go.Proofs.Ytolhijnkgkfjgaa.XC
