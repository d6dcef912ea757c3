/- The planner: (*planner).turn. -/
import Derived.Test.YtaklfdlcedlmfaaDo
namespace Go.Proofs.Ytaklfdlcedlmfaa.XM
open Go.RowKit Go.Proofs.YtaklfdlcedlmfaaW.PrintWords Go.Proofs.YtaklfdlcedlmfaaW.PrintLast Go.Proofs.YtaklfdlcedlmfaaW.PrintMore
open Mo
attribute [local go_sem] max2_int min2_int max_two min_two max_three min_three max_four min_four   -- for this text's walks alone
set_option linter.unusedVariables false
set_option linter.unusedSimpArgs false
/-- A ring's moves between its first and its last. -/
def turnL (r : List Int) : Nat → List Mv → List Mv
  | 0, out => out
  | i + 1, out => if i = 0 then out else turnL r i (out ++ [⟨r.getD (i + 1) 0, r.getD i 0⟩])
def turnF (r : List Int) (temp : Int) (out : List Mv) : List Mv := turnL r (r.length - 1) (out ++ [⟨r.getD 0 0, r.getD (r.length - 1) 0⟩]) ++ [⟨r.getD 1 0, temp⟩]
theorem rd_nat (r : List Int) (k : Nat) : rd r (k : Int) = r.getD k 0 := by simp [rd]
set_option maxHeartbeats 8000000 in
set_option maxRecDepth 100000 in
theorem moves_turn.calls (B p bf bu : Nat) (v : Value) (out : List Mv) (r : List Int) (temp : Int) (A0 : Option Addr) (c0 : Nat) (w0 w : World) (hB : Below w0.heap.size w0 w) (hp0 : w0.heap.size ≤ p) (hB0 : w0.heap.size ≤ B) (hpB : p < B) (hBw : B ≤ w.heap.size)
    (hp : PL w p bf bu v) (hr : ROut w B v out) (hlen : out.length + r.length < 1000000000) (hC : ∀ W_, KB B p bf bu w W_ → Kd.C (Kd.int .i64) W_ A0 r.length r) (hc0 : r.length ≤ c0) (h2 : 2 ≤ r.length) :
    Calls Try.prog 17 #[.pointer (some ⟨p, 0, none⟩), .slice A0 r.length c0, .int .i64 temp] w fun e w' => e = .returned (.tuple #[]) ∧ ∃ v', PL w' p bf bu v' ∧ ROut w' B v' (turnF r temp out) ∧ Below w0.heap.size w0 w' ∧ B ≤ w'.heap.size ∧ KB B p bf bu w w' := by
  obtain ⟨n, hn⟩ : ∃ n, n = r.length := ⟨_, rfl⟩
  rw [← hn] at hC hc0 h2 hlen ⊢
  obtain ⟨F, hF⟩ : ∃ F, F = turnF r temp out := ⟨_, rfl⟩
  rw [← hF]
  have HF := Aside0.mk hF
  have HN := Aside0.mk hn
  have HB := Aside0.mk hB
  have H0 := Aside0.mk (And.intro hp0 hB0)
  have HBW := Aside0.mk hBw
  have HP := Aside0.mk hp
  have HPB := Aside0.mk hpB
  have HR := Aside0.mk hr
  have HC := Aside0.mk hC
  have HC0 := Aside0.mk hc0
  have HL := Aside0.mk hlen
  have hx2 := hp.c2
  have hc := hC w (fun _ _ _ _ _ => rfl)
  obtain ⟨ad, e1, hr0⟩ := Kd.at_int hc 0 (by omega) (by omega)
  subst e1
  have had : ad.add 0 = ad := by unfold Addr.add; split <;> simp_all
  rw [show (0 : Int).toNat = 0 from rfl, had] at hr0
  obtain ⟨_, e1, hr1⟩ := Kd.at_int hc ((n - 1 : Nat) : Int) (by omega) (by omega)
  cases e1
  rw [Int.toNat_natCast] at hr1
  have hw1 : wrap64 ((n : Int) - 1) = ((n - 1 : Nat) : Int) := by unfold wrap64; omega
  have hw2 : IntKind.i64.wrap ((n : Int) - 1) = ((n - 1 : Nat) : Int) := by have h : ((n : Int) - 1) = ((n - 1 : Nat) : Int) := (by omega); rw [h]; exact IntWalk.i64_in _ (by omega)
  have q0 : (0 < n) = True := eq_true (by omega)
  have q1 : ((0 : Int) < (n : Int)) = True := eq_true (by omega)
  have q2 : (n - 1 < n) = True := eq_true (by omega)
  have q3 : (((n - 1 : Nat) : Int) < (n : Int)) = True := eq_true (by omega)
  have q4 : (0 ≤ ((n - 1 : Nat) : Int)) = True := eq_true (by omega)
  have H2 := Aside0.mk h2
  clear hF hpB hB hp0 hB0 hBw hp hr hC hc0 hlen hc hn h2
  go_enter Try.func17, Try.ntmps17
  go_wp2
  have HSB1 := Aside0.mk (show ∀ W_, Below B w W_ → W_.cell? ⟨p, 2, none⟩ = some v ∧ W_.cell? ad = some (.int .i64 (rd r 0)) ∧ W_.cell? (ad.add (n - 1)) = some (.int .i64 (rd r ((n - 1 : Nat) : Int))) from fun W_ hk => by
    obtain ⟨_, e1, h1⟩ := Kd.at_int (HC.out W_ (KB.below hk)) 0 (by omega) (by have := H2.out; omega)
    cases e1
    obtain ⟨_, e1, h2⟩ := Kd.at_int (HC.out W_ (KB.below hk)) ((n - 1 : Nat) : Int) (by omega) (by have := H2.out; omega)
    cases e1
    rw [show (0 : Int).toNat = 0 from rfl, had] at h1
    rw [Int.toNat_natCast] at h2
    exact ⟨(HP.out.block (hk.block p HPB.out)).c2, h1, h2⟩)
  refine start_ (n := 19) (S := fun w' => w'.cell? ⟨p, 2, none⟩ = some (v) ∧ w'.cell? ad = some (.int .i64 (rd r 0)) ∧ w'.cell? (ad.add (n - 1)) = some (.int .i64 (rd r ((n - 1 : Nat) : Int)))) (ds := [18]) #[false, false, false, false, false, false, false, false, false, false, false, false, false, false, false, false, false, false, false] (by kernel_rfl) rfl rfl ⟨(HSB1.out _ ((Below.refl B w).drew)).1, (HSB1.out _ ((Below.refl B w).drew)).2.1, (HSB1.out _ ((Below.refl B w).drew)).2.2⟩ (fun hHeld => ?_)
  refine pure_ (i := 0) (N := some 10) (v := ?_) (a' := ?_) #[true, false, false, false, false, false, false, false, false, false, false, false, false, false, false, false, false, false, false] rfl rfl (by kernel_rfl) (fun _ _ _ h => h) (Or.inl ⟨by rfl, ?_⟩) ?_ ?_
  rotate_left
  · intro w'
    go_simp
    with_reducible rfl
  rotate_left
  · simp only [Act.put, List.setIfInBounds_toArray, List.set_cons_zero, List.set_cons_succ, i64_w, i32_w]
    rfl
  refine pure_ (i := 1) (N := some 11) (v := ?_) (a' := ?_) #[true, true, false, false, false, false, false, false, false, false, false, false, false, false, false, false, false, false, false] rfl rfl (by kernel_rfl) (fun _ _ _ h => h) (Or.inl ⟨by rfl, ?_⟩) ?_ ?_
  rotate_left
  · intro w'
    go_simp
    with_reducible rfl
  rotate_left
  · simp only [Act.put, List.setIfInBounds_toArray, List.set_cons_zero, List.set_cons_succ, i64_w, i32_w]
    rfl
  refine pure_ (i := 2) (N := some 12) (v := ?_) (a' := ?_) #[true, true, true, false, false, false, false, false, false, false, false, false, false, false, false, false, false, false, false] rfl rfl (by kernel_rfl) (fun _ _ _ h => h) (Or.inl ⟨by rfl, ?_⟩) ?_ ?_
  rotate_left
  · intro w'
    go_simp
    with_reducible rfl
  rotate_left
  · simp only [Act.put, List.setIfInBounds_toArray, List.set_cons_zero, List.set_cons_succ, i64_w, i32_w]
    rfl
  refine pure_ (i := 3) (N := some 13) (v := ?_) (a' := ?_) #[true, true, true, true, false, false, false, false, false, false, false, false, false, false, false, false, false, false, false] rfl rfl (by kernel_rfl) (fun _ _ _ h => h) (Or.inl ⟨by rfl, ?_⟩) ?_ ?_
  rotate_left
  · intro w'
    go_simp
    with_reducible rfl
  rotate_left
  · simp only [Act.put, List.setIfInBounds_toArray, List.set_cons_zero, List.set_cons_succ, i64_w, i32_w]
    rfl
  refine pure_ (i := 5) (N := some 15) (v := ?_) (a' := ?_) #[true, true, true, true, false, true, false, false, false, false, false, false, false, false, false, false, false, false, false] rfl rfl (by kernel_rfl) (fun _ _ _ h => h) (Or.inl ⟨by rfl, ?_⟩) ?_ ?_
  rotate_left
  · intro w'
    go_simp
    with_reducible rfl
  rotate_left
  · simp only [Act.put, List.setIfInBounds_toArray, List.set_cons_zero, List.set_cons_succ, i64_w, i32_w]
    rfl
  refine pure_ (i := 6) (N := some 16) (v := ?_) (a' := ?_) #[true, true, true, true, false, true, true, false, false, false, false, false, false, false, false, false, false, false, false] rfl rfl (by kernel_rfl) (fun _ _ _ h => h) (Or.inl ⟨by rfl, ?_⟩) ?_ ?_
  rotate_left
  · intro w'
    go_simp
    with_reducible rfl
  rotate_left
  · simp only [Act.put, List.setIfInBounds_toArray, List.set_cons_zero, List.set_cons_succ, i64_w, i32_w]
    rfl
  refine pure_ (i := 8) (N := some 18) (v := ?_) (a' := ?_) #[true, true, true, true, false, true, true, false, true, false, false, false, false, false, false, false, false, false, false] rfl rfl (by kernel_rfl) (fun _ _ _ h => h) (Or.inl ⟨by rfl, ?_⟩) ?_ ?_
  rotate_left
  · intro w'
    go_simp
    with_reducible rfl
  rotate_left
  · simp only [Act.put, List.setIfInBounds_toArray, List.set_cons_zero, List.set_cons_succ, i64_w, i32_w]
    rfl
  refine pure_ (i := 9) (N := some 19) (v := ?_) (a' := ?_) #[true, true, true, true, false, true, true, false, true, true, false, false, false, false, false, false, false, false, false] rfl rfl (by kernel_rfl) (fun _ _ _ h => h) (Or.inl ⟨by rfl, ?_⟩) ?_ ?_
  rotate_left
  · intro w'
    go_simp
    with_reducible rfl
  rotate_left
  · simp only [Act.put, List.setIfInBounds_toArray, List.set_cons_zero, List.set_cons_succ, i64_w, i32_w]
    rfl
  refine pure_ (i := 10) (N := some 20) (v := ?_) (a' := ?_) #[true, true, true, true, false, true, true, false, true, true, true, false, false, false, false, false, false, false, false] rfl rfl (by kernel_rfl) (fun _ _ _ h => h) (Or.inl ⟨by rfl, ?_⟩) ?_ ?_
  rotate_left
  · intro w'
    go_simp
    with_reducible rfl
  rotate_left
  · simp only [Act.put, List.setIfInBounds_toArray, List.set_cons_zero, List.set_cons_succ, i64_w, i32_w]
    rfl
  refine pure_ (i := 11) (N := some 21) (v := ?_) (a' := ?_) #[true, true, true, true, false, true, true, false, true, true, true, true, false, false, false, false, false, false, false] rfl rfl (by kernel_rfl) (fun _ _ _ h => h) (Or.inl ⟨by rfl, ?_⟩) ?_ ?_
  rotate_left
  · intro w'
    go_simp
    with_reducible rfl
  rotate_left
  · simp only [Act.put, List.setIfInBounds_toArray, List.set_cons_zero, List.set_cons_succ, i64_w, i32_w]
    rfl
  refine take_ (i := 4) (N := some 14) (v := ?_) (a' := ?_) #[true, true, true, true, true, true, true, false, true, true, true, true, false, false, false, false, false, false, false] rfl rfl (by kernel_rfl) (fun _ _ _ h => h) (Or.inl ⟨by rfl, ?_⟩) hHeld ?_ ?_
  rotate_left
  · rintro w' ⟨s0, s1, s2⟩
    go_simp
    with_reducible rfl
  rotate_left
  · simp only [Act.put, List.setIfInBounds_toArray, List.set_cons_zero, List.set_cons_succ, i64_w, i32_w]
    rfl
  refine take_ (i := 7) (N := some 17) (v := ?_) (a' := ?_) #[true, true, true, true, true, true, true, true, true, true, true, true, false, false, false, false, false, false, false] rfl rfl (by kernel_rfl) (fun _ _ _ h => h) (Or.inl ⟨by rfl, ?_⟩) hHeld ?_ ?_
  rotate_left
  · rintro w' ⟨s0, s1, s2⟩
    go_simp
    with_reducible rfl
  rotate_left
  · simp only [Act.put, List.setIfInBounds_toArray, List.set_cons_zero, List.set_cons_succ, i64_w, i32_w]
    rfl
  refine take_ (i := 12) (N := some 22) (v := ?_) (a' := ?_) #[true, true, true, true, true, true, true, true, true, true, true, true, true, false, false, false, false, false, false] rfl rfl (by kernel_rfl) (fun _ _ _ h => h) (Or.inl ⟨by rfl, ?_⟩) hHeld ?_ ?_
  rotate_left
  · rintro w' ⟨s0, s1, s2⟩
    go_simp
    with_reducible rfl
  rotate_left
  · simp only [Act.put, List.setIfInBounds_toArray, List.set_cons_zero, List.set_cons_succ, i64_w, i32_w]
    rfl
  refine pure_ (i := 13) (N := some 23) (v := ?_) (a' := ?_) #[true, true, true, true, true, true, true, true, true, true, true, true, true, true, false, false, false, false, false] rfl rfl (by kernel_rfl) (fun _ _ _ h => h) (Or.inl ⟨by rfl, ?_⟩) ?_ ?_
  rotate_left
  · intro w'
    go_simp
    with_reducible rfl
  rotate_left
  · simp only [Act.put, List.setIfInBounds_toArray, List.set_cons_zero, List.set_cons_succ, i64_w, i32_w]
    rfl
  refine one_ (i := 14) (N := some 24) #[true, true, true, true, true, true, true, true, true, true, true, true, true, true, true, false, false, false, false] rfl rfl (by kernel_rfl) (by decide) (fun K hK => ?_)
  refine value_ (w1 := ?_) (v := ?_) (by rfl) rfl ?_ ?_
  rotate_left 2
  · go_simp
    constructor
    · rfl
    · rfl
  refine hK.out _ _ ⟨(HSB1.out _ (((Below.refl B w).drew).alloc HBW.out _)).1, (HSB1.out _ (((Below.refl B w).drew).alloc HBW.out _)).2.1, (HSB1.out _ (((Below.refl B w).drew).alloc HBW.out _)).2.2⟩ (fun hHeld => ?_)
  clear hK K
  refine norm_ (a' := ?_) ?_ ?_
  rotate_left
  · show Act.put _ (some 24) _ = _
    simp only [Act.put, List.setIfInBounds_toArray, List.set_cons_zero, List.set_cons_succ, i64_w, i32_w]
    rfl
  refine one_ (i := 15) (N := some 25) #[true, true, true, true, true, true, true, true, true, true, true, true, true, true, true, true, false, false, false] rfl rfl (by kernel_rfl) (by decide) (fun K hK => ?_)
  refine Kd.R_append_step k25 (w0 := w.drew) B (by rfl) _ _ 23 25 (.agg #[(.int .i64 0), (.int .i64 0)]) 16 (by rfl) Try.underlying23 info25 rfl (by decide) (by omega) v out (⟨rd r 0, rd r ((n - 1 : Nat) : Int)⟩ : Mv) [.int .i64 (rd r 0), .int .i64 (rd r ((n - 1 : Nat) : Int))] (fun _ => True) (fun _ => False) (by rfl) (by rfl) (k25_mkM _ _ _ (⟨rd r 0, rd r ((n - 1 : Nat) : Int)⟩ : Mv)) (fun _ hk => hk.elim) (fun _ _ => trivial) (Kd.R_drew HR.out) (Below.refl _ _) HBW.out (by have := HL.out; omega) ?_
  intro v1 w1 ho hb hg hat
  obtain ⟨A1, n1, c1, e1⟩ : ∃ A n c, v1 = .slice A n c := (by obtain ⟨A, c, h, _⟩ := Kd.R_reads ho; exact ⟨A, _, c, h⟩)
  subst e1
  have HR1 := Aside0.mk ho
  have HP1 := Aside0.mk (HP.out.block (hg.block p HP.out.lt (R_ne_PL HR.out HP.out)))
  have HB1 := Aside0.mk (below_weaken (below_drew1 HB.out) H0.out.2 hb)
  have HKB1 := Aside0.mk (KB.trans (fun _ _ _ _ _ => rfl) (show KB B p bf bu w w1 from fun k h1 _ _ _ => hb.block k h1))
  have HS1 := Aside0.mk (Nat.le_trans HBW.out hb.size)
  have HBL1 := Aside0.mk (show Below B w w1 from ⟨hb.os, hb.tape, hb.output, hb.size, hb.block⟩)
  have hy2 := HP1.out.c2
  have hz2 := HP1.out.z2
  clear ho hb hg hat
  refine hK.out _ _ ⟨(HSB1.out _ (HBL1.out)).1, (HSB1.out _ (HBL1.out)).2.1, (HSB1.out _ (HBL1.out)).2.2⟩ (fun hHeld => ?_)
  clear hK K
  refine norm_ (a' := ?_) ?_ ?_
  rotate_left
  · show Act.put _ (some 25) _ = _
    simp only [Act.put, List.setIfInBounds_toArray, List.set_cons_zero, List.set_cons_succ, i64_w, i32_w]
    rfl
  refine pure_ (i := 16) (N := some 26) (v := ?_) (a' := ?_) #[true, true, true, true, true, true, true, true, true, true, true, true, true, true, true, true, true, false, false] rfl rfl (by kernel_rfl) (fun _ _ _ h => h) (Or.inl ⟨by rfl, ?_⟩) ?_ ?_
  rotate_left
  · intro w'
    go_simp
    with_reducible rfl
  rotate_left
  · simp only [Act.put, List.setIfInBounds_toArray, List.set_cons_zero, List.set_cons_succ, i64_w, i32_w]
    rfl
  refine pure_ (i := 17) (N := some 27) (v := ?_) (a' := ?_) #[true, true, true, true, true, true, true, true, true, true, true, true, true, true, true, true, true, true, false] rfl rfl (by kernel_rfl) (fun _ _ _ h => h) (Or.inl ⟨by rfl, ?_⟩) ?_ ?_
  rotate_left
  · intro w'
    go_simp
    with_reducible rfl
  rotate_left
  · simp only [Act.put, List.setIfInBounds_toArray, List.set_cons_zero, List.set_cons_succ, i64_w, i32_w]
    rfl
  refine last_ (i := 18) (N := none) #[true, true, true, true, true, true, true, true, true, true, true, true, true, true, true, true, true, true, true] rfl rfl (by kernel_rfl) (by decide) (fun K hK => ?_)
  refine skip_ (w1 := ?_) (by rfl) rfl ?_ ?_
  rotate_left
  · go_simp
    rfl
  refine hK.out _ _ ?_
  clear hK K
  refine done_ (by kernel_rfl) ?_

  have HKB2 := Aside0.mk (HKB1.out.set 2 (.slice A1 n1 c1))
  have HP2 := Aside0.mk (HP1.out.put (.slice A1 n1 c1))
  have HR2 := Aside0.mk (R_store (v1 := .slice A1 n1 c1) HR1.out HP1.out)
  have HB2 := Aside0.mk (below_set (j := 2) (v := .slice A1 n1 c1) HB1.out H0.out.1)
  have HS2 := Aside0.mk (show B ≤ (w1.setCell ⟨p, 2, none⟩ (.slice A1 n1 c1)).heap.size by rw [set_size]; exact HS1.out)
  clear HKB1 HP1 HR1 HB1 HS1 hy2 hz2
  go_wp2
  go_loopg [7] (n - 1) (fun kq v7 w' => ∃ (out' : List Mv) (v' : Value), v7 = .int .i64 (kq : Int) ∧ Aside0 (kq ≤ n - 1) ∧ Aside0 (1 ≤ kq) ∧ Aside0 (F = turnL r kq out' ++ [⟨r.getD 1 0, temp⟩]) ∧ Aside0 (PL w' p bf bu v') ∧ Aside0 (ROut w' B v' out') ∧ Aside0 (out'.length + kq ≤ out.length + n) ∧ Aside0 (Below w0.heap.size w0 w') ∧ Aside0 (B ≤ w'.heap.size) ∧ Aside0 (KB B p bf bu w w'))
  case atStart => exact ⟨_, _, rfl, ⟨Nat.le_refl _⟩, ⟨by have := H2.out; omega⟩, ⟨by rw [HF.out, turnF, ← HN.out, rd_nat, show rd r 0 = r.getD 0 0 from rd_nat r 0]⟩, HP2, HR2, ⟨by have := H2.out; simp; omega⟩, HB2, HS2, HKB2⟩
  case round =>
    clear HF HP2 HR2 HB2 HS2 HKB2 HSB1 HBL1 HP HR HB HBW
    obtain ⟨out', v', rfl, HGN, HG, HF, HP, HR, HLE, HB, HBW, HKB⟩ := hrel
    have hx2 := HP.out.c2
    by_cases hg : 1 < gk
    · obtain ⟨j, hj⟩ : ∃ j, gk = j + 1 := ⟨gk - 1, by omega⟩
      have HJ := Aside0.mk hj
      have HG1 := Aside0.mk hg
      have hw3 : wrap64 ((gk : Int) - 1) = (j : Int) := by unfold wrap64; have := HGN.out; have := HL.out; omega
      have hw4 : IntKind.i64.wrap ((gk : Int) - 1) = (j : Int) := by rw [show (gk : Int) - 1 = (j : Int) by omega]; exact IntWalk.i64_in _ (by have := HGN.out; have := HL.out; omega)
      have hgb : decide ((1 : Int) < (gk : Int)) = true := decide_eq_true (by omega)
      have p0 : (0 ≤ (gk : Int)) = True := eq_true (by omega)
      have p1 : (gk < n) = True := eq_true (by have := HGN.out; omega)
      have p2 : ((gk : Int) < (n : Int)) = True := eq_true (by have := HGN.out; omega)
      have p3 : (0 ≤ (j : Int)) = True := eq_true (by omega)
      have p4 : (j < n) = True := eq_true (by have := HGN.out; omega)
      have p5 : ((j : Int) < (n : Int)) = True := eq_true (by have := HGN.out; omega)
      have HSB5 := Aside0.mk (show ∀ W_, Below B wr W_ → W_.cell? ⟨p, 2, none⟩ = some v' ∧ W_.cell? (ad.add gk) = some (.int .i64 (rd r (gk : Int))) ∧ W_.cell? (ad.add j) = some (.int .i64 (rd r (j : Int))) from fun W_ hk => by
        obtain ⟨_, e1, h1⟩ := Kd.at_int (HC.out W_ (HKB.out.trans (KB.below hk))) (gk : Int) (by omega) (by have := HGN.out; omega)
        cases e1
        obtain ⟨_, e1, h2⟩ := Kd.at_int (HC.out W_ (HKB.out.trans (KB.below hk))) (j : Int) (by omega) (by have := HGN.out; omega)
        cases e1
        rw [Int.toNat_natCast] at h1 h2
        exact ⟨(HP.out.block (hk.block p HPB.out)).c2, h1, h2⟩)
      clear hj hg
      go_wp2
      refine start_ (n := 20) (S := fun w' => w'.cell? ⟨p, 2, none⟩ = some (v') ∧ w'.cell? (ad.add gk) = some (.int .i64 (rd r (gk : Int))) ∧ w'.cell? (ad.add j) = some (.int .i64 (rd r (j : Int)))) (ds := [19]) #[false, false, false, false, false, false, false, false, false, false, false, false, false, false, false, false, false, false, false, false] (by kernel_rfl) rfl rfl ⟨(HSB5.out _ ((Below.refl B wr).drew)).1, (HSB5.out _ ((Below.refl B wr).drew)).2.1, (HSB5.out _ ((Below.refl B wr).drew)).2.2⟩ (fun hHeld => ?_)
      refine pure_ (i := 0) (N := some 34) (v := ?_) (a' := ?_) #[true, false, false, false, false, false, false, false, false, false, false, false, false, false, false, false, false, false, false, false] rfl rfl (by kernel_rfl) (fun _ _ _ h => h) (Or.inl ⟨by rfl, ?_⟩) ?_ ?_
      rotate_left
      · intro w'
        go_simp
        with_reducible rfl
      rotate_left
      · simp only [Act.put, List.setIfInBounds_toArray, List.set_cons_zero, List.set_cons_succ, i64_w, i32_w]
        rfl
      refine pure_ (i := 1) (N := some 35) (v := ?_) (a' := ?_) #[true, true, false, false, false, false, false, false, false, false, false, false, false, false, false, false, false, false, false, false] rfl rfl (by kernel_rfl) (fun _ _ _ h => h) (Or.inl ⟨by rfl, ?_⟩) ?_ ?_
      rotate_left
      · intro w'
        go_simp
        with_reducible rfl
      rotate_left
      · simp only [Act.put, List.setIfInBounds_toArray, List.set_cons_zero, List.set_cons_succ, i64_w, i32_w]
        rfl
      refine pure_ (i := 2) (N := some 36) (v := ?_) (a' := ?_) #[true, true, true, false, false, false, false, false, false, false, false, false, false, false, false, false, false, false, false, false] rfl rfl (by kernel_rfl) (fun _ _ _ h => h) (Or.inl ⟨by rfl, ?_⟩) ?_ ?_
      rotate_left
      · intro w'
        go_simp
        with_reducible rfl
      rotate_left
      · simp only [Act.put, List.setIfInBounds_toArray, List.set_cons_zero, List.set_cons_succ, i64_w, i32_w]
        rfl
      refine pure_ (i := 3) (N := some 37) (v := ?_) (a' := ?_) #[true, true, true, true, false, false, false, false, false, false, false, false, false, false, false, false, false, false, false, false] rfl rfl (by kernel_rfl) (fun _ _ _ h => h) (Or.inl ⟨by rfl, ?_⟩) ?_ ?_
      rotate_left
      · intro w'
        go_simp
        with_reducible rfl
      rotate_left
      · simp only [Act.put, List.setIfInBounds_toArray, List.set_cons_zero, List.set_cons_succ, i64_w, i32_w]
        rfl
      refine pure_ (i := 5) (N := some 39) (v := ?_) (a' := ?_) #[true, true, true, true, false, true, false, false, false, false, false, false, false, false, false, false, false, false, false, false] rfl rfl (by kernel_rfl) (fun _ _ _ h => h) (Or.inl ⟨by rfl, ?_⟩) ?_ ?_
      rotate_left
      · intro w'
        go_simp
        with_reducible rfl
      rotate_left
      · simp only [Act.put, List.setIfInBounds_toArray, List.set_cons_zero, List.set_cons_succ, i64_w, i32_w]
        rfl
      refine pure_ (i := 6) (N := some 40) (v := ?_) (a' := ?_) #[true, true, true, true, false, true, true, false, false, false, false, false, false, false, false, false, false, false, false, false] rfl rfl (by kernel_rfl) (fun _ _ _ h => h) (Or.inl ⟨by rfl, ?_⟩) ?_ ?_
      rotate_left
      · intro w'
        go_simp
        with_reducible rfl
      rotate_left
      · simp only [Act.put, List.setIfInBounds_toArray, List.set_cons_zero, List.set_cons_succ, i64_w, i32_w]
        rfl
      refine pure_ (i := 7) (N := some 41) (v := ?_) (a' := ?_) #[true, true, true, true, false, true, true, true, false, false, false, false, false, false, false, false, false, false, false, false] rfl rfl (by kernel_rfl) (fun _ _ _ h => h) (Or.inl ⟨by rfl, ?_⟩) ?_ ?_
      rotate_left
      · intro w'
        go_simp
        with_reducible rfl
      rotate_left
      · simp only [Act.put, List.setIfInBounds_toArray, List.set_cons_zero, List.set_cons_succ, i64_w, i32_w]
        rfl
      refine pure_ (i := 9) (N := some 43) (v := ?_) (a' := ?_) #[true, true, true, true, false, true, true, true, false, true, false, false, false, false, false, false, false, false, false, false] rfl rfl (by kernel_rfl) (fun _ _ _ h => h) (Or.inl ⟨by rfl, ?_⟩) ?_ ?_
      rotate_left
      · intro w'
        go_simp
        with_reducible rfl
      rotate_left
      · simp only [Act.put, List.setIfInBounds_toArray, List.set_cons_zero, List.set_cons_succ, i64_w, i32_w]
        rfl
      refine pure_ (i := 10) (N := some 44) (v := ?_) (a' := ?_) #[true, true, true, true, false, true, true, true, false, true, true, false, false, false, false, false, false, false, false, false] rfl rfl (by kernel_rfl) (fun _ _ _ h => h) (Or.inl ⟨by rfl, ?_⟩) ?_ ?_
      rotate_left
      · intro w'
        go_simp
        with_reducible rfl
      rotate_left
      · simp only [Act.put, List.setIfInBounds_toArray, List.set_cons_zero, List.set_cons_succ, i64_w, i32_w]
        rfl
      refine pure_ (i := 11) (N := some 45) (v := ?_) (a' := ?_) #[true, true, true, true, false, true, true, true, false, true, true, true, false, false, false, false, false, false, false, false] rfl rfl (by kernel_rfl) (fun _ _ _ h => h) (Or.inl ⟨by rfl, ?_⟩) ?_ ?_
      rotate_left
      · intro w'
        go_simp
        with_reducible rfl
      rotate_left
      · simp only [Act.put, List.setIfInBounds_toArray, List.set_cons_zero, List.set_cons_succ, i64_w, i32_w]
        rfl
      refine pure_ (i := 12) (N := some 46) (v := ?_) (a' := ?_) #[true, true, true, true, false, true, true, true, false, true, true, true, true, false, false, false, false, false, false, false] rfl rfl (by kernel_rfl) (fun _ _ _ h => h) (Or.inl ⟨by rfl, ?_⟩) ?_ ?_
      rotate_left
      · intro w'
        go_simp
        with_reducible rfl
      rotate_left
      · simp only [Act.put, List.setIfInBounds_toArray, List.set_cons_zero, List.set_cons_succ, i64_w, i32_w]
        rfl
      refine take_ (i := 4) (N := some 38) (v := ?_) (a' := ?_) #[true, true, true, true, true, true, true, true, false, true, true, true, true, false, false, false, false, false, false, false] rfl rfl (by kernel_rfl) (fun _ _ _ h => h) (Or.inl ⟨by rfl, ?_⟩) hHeld ?_ ?_
      rotate_left
      · rintro w' ⟨s0, s1, s2⟩
        go_simp
        with_reducible rfl
      rotate_left
      · simp only [Act.put, List.setIfInBounds_toArray, List.set_cons_zero, List.set_cons_succ, i64_w, i32_w]
        rfl
      refine take_ (i := 8) (N := some 42) (v := ?_) (a' := ?_) #[true, true, true, true, true, true, true, true, true, true, true, true, true, false, false, false, false, false, false, false] rfl rfl (by kernel_rfl) (fun _ _ _ h => h) (Or.inl ⟨by rfl, ?_⟩) hHeld ?_ ?_
      rotate_left
      · rintro w' ⟨s0, s1, s2⟩
        go_simp
        with_reducible rfl
      rotate_left
      · simp only [Act.put, List.setIfInBounds_toArray, List.set_cons_zero, List.set_cons_succ, i64_w, i32_w]
        rfl
      refine take_ (i := 13) (N := some 47) (v := ?_) (a' := ?_) #[true, true, true, true, true, true, true, true, true, true, true, true, true, true, false, false, false, false, false, false] rfl rfl (by kernel_rfl) (fun _ _ _ h => h) (Or.inl ⟨by rfl, ?_⟩) hHeld ?_ ?_
      rotate_left
      · rintro w' ⟨s0, s1, s2⟩
        go_simp
        with_reducible rfl
      rotate_left
      · simp only [Act.put, List.setIfInBounds_toArray, List.set_cons_zero, List.set_cons_succ, i64_w, i32_w]
        rfl
      refine pure_ (i := 14) (N := some 48) (v := ?_) (a' := ?_) #[true, true, true, true, true, true, true, true, true, true, true, true, true, true, true, false, false, false, false, false] rfl rfl (by kernel_rfl) (fun _ _ _ h => h) (Or.inl ⟨by rfl, ?_⟩) ?_ ?_
      rotate_left
      · intro w'
        go_simp
        with_reducible rfl
      rotate_left
      · simp only [Act.put, List.setIfInBounds_toArray, List.set_cons_zero, List.set_cons_succ, i64_w, i32_w]
        rfl
      refine one_ (i := 15) (N := some 49) #[true, true, true, true, true, true, true, true, true, true, true, true, true, true, true, true, false, false, false, false] rfl rfl (by kernel_rfl) (by decide) (fun K hK => ?_)
      refine value_ (w1 := ?_) (v := ?_) (by rfl) rfl ?_ ?_
      rotate_left 2
      · go_simp
        constructor
        · rfl
        · rfl
      refine hK.out _ _ ⟨(HSB5.out _ (((Below.refl B wr).drew).alloc HBW.out _)).1, (HSB5.out _ (((Below.refl B wr).drew).alloc HBW.out _)).2.1, (HSB5.out _ (((Below.refl B wr).drew).alloc HBW.out _)).2.2⟩ (fun hHeld => ?_)
      clear hK K
      refine norm_ (a' := ?_) ?_ ?_
      rotate_left
      · show Act.put _ (some 49) _ = _
        simp only [Act.put, List.setIfInBounds_toArray, List.set_cons_zero, List.set_cons_succ, i64_w, i32_w]
        rfl
      refine one_ (i := 16) (N := some 50) #[true, true, true, true, true, true, true, true, true, true, true, true, true, true, true, true, true, false, false, false] rfl rfl (by kernel_rfl) (by decide) (fun K hK => ?_)
      refine Kd.R_append_step k25 (w0 := wr.drew) B (by rfl) _ _ 23 25 (.agg #[(.int .i64 0), (.int .i64 0)]) 16 (by rfl) Try.underlying23 info25 rfl (by decide) (by omega) v' out' (⟨rd r (gk : Int), rd r (j : Int)⟩ : Mv) [.int .i64 (rd r (gk : Int)), .int .i64 (rd r (j : Int))] (fun _ => True) (fun _ => False) (by rfl) (by rfl) (k25_mkM _ _ _ (⟨rd r (gk : Int), rd r (j : Int)⟩ : Mv)) (fun _ hk => hk.elim) (fun _ _ => trivial) (Kd.R_drew HR.out) (Below.refl _ _) HBW.out (by have := HL.out; have := HLE.out; have := HG.out; have := HGN.out; omega) ?_
      intro v1 w1 ho hb hg hat
      obtain ⟨A1, n1, c1, e1⟩ : ∃ A n c, v1 = .slice A n c := (by obtain ⟨A, c, h, _⟩ := Kd.R_reads ho; exact ⟨A, _, c, h⟩)
      subst e1
      have HR5 := Aside0.mk ho
      have HP5 := Aside0.mk (HP.out.block (hg.block p HP.out.lt (R_ne_PL HR.out HP.out)))
      have HB5 := Aside0.mk (below_weaken (below_drew1 HB.out) H0.out.2 hb)
      have HKB5 := Aside0.mk (KB.trans HKB.out (show KB B p bf bu wr w1 from fun k h1 _ _ _ => hb.block k h1))
      have HS5 := Aside0.mk (Nat.le_trans HBW.out hb.size)
      have HBL5 := Aside0.mk (show Below B wr w1 from ⟨hb.os, hb.tape, hb.output, hb.size, hb.block⟩)
      have hy2 := HP5.out.c2
      have hz2 := HP5.out.z2
      clear ho hb hg hat
      refine hK.out _ _ ⟨(HSB5.out _ (HBL5.out)).1, (HSB5.out _ (HBL5.out)).2.1, (HSB5.out _ (HBL5.out)).2.2⟩ (fun hHeld => ?_)
      clear hK K
      refine norm_ (a' := ?_) ?_ ?_
      rotate_left
      · show Act.put _ (some 50) _ = _
        simp only [Act.put, List.setIfInBounds_toArray, List.set_cons_zero, List.set_cons_succ, i64_w, i32_w]
        rfl
      refine pure_ (i := 17) (N := some 51) (v := ?_) (a' := ?_) #[true, true, true, true, true, true, true, true, true, true, true, true, true, true, true, true, true, true, false, false] rfl rfl (by kernel_rfl) (fun _ _ _ h => h) (Or.inl ⟨by rfl, ?_⟩) ?_ ?_
      rotate_left
      · intro w'
        go_simp
        with_reducible rfl
      rotate_left
      · simp only [Act.put, List.setIfInBounds_toArray, List.set_cons_zero, List.set_cons_succ, i64_w, i32_w]
        rfl
      refine pure_ (i := 18) (N := some 52) (v := ?_) (a' := ?_) #[true, true, true, true, true, true, true, true, true, true, true, true, true, true, true, true, true, true, true, false] rfl rfl (by kernel_rfl) (fun _ _ _ h => h) (Or.inl ⟨by rfl, ?_⟩) ?_ ?_
      rotate_left
      · intro w'
        go_simp
        with_reducible rfl
      rotate_left
      · simp only [Act.put, List.setIfInBounds_toArray, List.set_cons_zero, List.set_cons_succ, i64_w, i32_w]
        rfl
      refine last_ (i := 19) (N := none) #[true, true, true, true, true, true, true, true, true, true, true, true, true, true, true, true, true, true, true, true] rfl rfl (by kernel_rfl) (by decide) (fun K hK => ?_)
      refine skip_ (w1 := ?_) (by rfl) rfl ?_ ?_
      rotate_left
      · go_simp
        rfl
      refine hK.out _ _ ?_
      clear hK K
      refine done_ (by kernel_rfl) ?_

      have HF2 := Aside0.mk (show F = turnL r j (out' ++ [(⟨rd r (gk : Int), rd r (j : Int)⟩ : Mv)]) ++ [⟨r.getD 1 0, temp⟩] by rw [HF.out, HJ.out, turnL, if_neg (by have := HG1.out; have := HJ.out; omega), rd_nat, rd_nat])
      have HKB2 := Aside0.mk (HKB5.out.set 2 (.slice A1 n1 c1))
      have HP2 := Aside0.mk (HP5.out.put (.slice A1 n1 c1))
      have HR2 := Aside0.mk (R_store (v1 := .slice A1 n1 c1) HR5.out HP5.out)
      have HB2 := Aside0.mk (below_set (j := 2) (v := .slice A1 n1 c1) HB5.out H0.out.1)
      have HS2 := Aside0.mk (show B ≤ (w1.setCell ⟨p, 2, none⟩ (.slice A1 n1 c1)).heap.size by rw [set_size]; exact HS5.out)
      clear HKB5 HP5 HR5 HB5 HS5 hy2 hz2 HF HKB HP HR HB HBW HSB5 HBL5
      go_wp2
      go_roundg j
      case measure => have := HJ.out; omega
      case rel => exact ⟨_, _, rfl, ⟨by have := HJ.out; have := HGN.out; omega⟩, ⟨by have := HJ.out; have := HG1.out; omega⟩, HF2, HP2, HR2, ⟨by have := HJ.out; have := HLE.out; simp; omega⟩, HB2, HS2, HKB2⟩
    · have hgb : decide ((1 : Int) < (gk : Int)) = false := decide_eq_false (by omega)
      have hgk := HG.out
      have hg1 : gk = 1 := by omega
      have HF2 := Aside0.mk (show F = out' ++ [(⟨rd r 1, temp⟩ : Mv)] by rw [HF.out, hg1, turnL, if_pos rfl, show rd r 1 = r.getD 1 0 from rd_nat r 1])
      have p0 : ((1 : Int) < (n : Int)) = True := eq_true (by have := H2.out; omega)
      have p1 : (1 < n) = True := eq_true (by have := H2.out; omega)
      have HSB6 := Aside0.mk (show ∀ W_, Below B wr W_ → W_.cell? ⟨p, 2, none⟩ = some v' ∧ W_.cell? ⟨ad.block, ad.off + 1, none⟩ = some (.int .i64 (rd r 1)) from fun W_ hk => by
        obtain ⟨_, e1, h1⟩ := Kd.at_int (HC.out W_ (HKB.out.trans (KB.below hk))) 1 (by omega) (by have := H2.out; omega)
        cases e1
        rw [show (1 : Int).toNat = 1 from rfl, show ad.add 1 = ⟨ad.block, ad.off + 1, none⟩ by unfold Addr.add; split <;> simp_all] at h1
        exact ⟨(HP.out.block (hk.block p HPB.out)).c2, h1⟩)
      go_wp2
      refine start_ (n := 15) (S := fun w' => w'.cell? ⟨p, 2, none⟩ = some (v') ∧ w'.cell? ⟨ad.block, ad.off + 1, none⟩ = some (.int .i64 (rd r 1))) (ds := [14]) #[false, false, false, false, false, false, false, false, false, false, false, false, false, false, false] (by kernel_rfl) rfl rfl ⟨(HSB6.out _ ((Below.refl B wr).drew)).1, (HSB6.out _ ((Below.refl B wr).drew)).2⟩ (fun hHeld => ?_)
      refine pure_ (i := 0) (N := some 53) (v := ?_) (a' := ?_) #[true, false, false, false, false, false, false, false, false, false, false, false, false, false, false] rfl rfl (by kernel_rfl) (fun _ _ _ h => h) (Or.inl ⟨by rfl, ?_⟩) ?_ ?_
      rotate_left
      · intro w'
        go_simp
        with_reducible rfl
      rotate_left
      · simp only [Act.put, List.setIfInBounds_toArray, List.set_cons_zero, List.set_cons_succ, i64_w, i32_w]
        rfl
      refine pure_ (i := 1) (N := some 54) (v := ?_) (a' := ?_) #[true, true, false, false, false, false, false, false, false, false, false, false, false, false, false] rfl rfl (by kernel_rfl) (fun _ _ _ h => h) (Or.inl ⟨by rfl, ?_⟩) ?_ ?_
      rotate_left
      · intro w'
        go_simp
        with_reducible rfl
      rotate_left
      · simp only [Act.put, List.setIfInBounds_toArray, List.set_cons_zero, List.set_cons_succ, i64_w, i32_w]
        rfl
      refine pure_ (i := 2) (N := some 55) (v := ?_) (a' := ?_) #[true, true, true, false, false, false, false, false, false, false, false, false, false, false, false] rfl rfl (by kernel_rfl) (fun _ _ _ h => h) (Or.inl ⟨by rfl, ?_⟩) ?_ ?_
      rotate_left
      · intro w'
        go_simp
        with_reducible rfl
      rotate_left
      · simp only [Act.put, List.setIfInBounds_toArray, List.set_cons_zero, List.set_cons_succ, i64_w, i32_w]
        rfl
      refine pure_ (i := 3) (N := some 56) (v := ?_) (a' := ?_) #[true, true, true, true, false, false, false, false, false, false, false, false, false, false, false] rfl rfl (by kernel_rfl) (fun _ _ _ h => h) (Or.inl ⟨by rfl, ?_⟩) ?_ ?_
      rotate_left
      · intro w'
        go_simp
        with_reducible rfl
      rotate_left
      · simp only [Act.put, List.setIfInBounds_toArray, List.set_cons_zero, List.set_cons_succ, i64_w, i32_w]
        rfl
      refine pure_ (i := 5) (N := some 58) (v := ?_) (a' := ?_) #[true, true, true, true, false, true, false, false, false, false, false, false, false, false, false] rfl rfl (by kernel_rfl) (fun _ _ _ h => h) (Or.inl ⟨by rfl, ?_⟩) ?_ ?_
      rotate_left
      · intro w'
        go_simp
        with_reducible rfl
      rotate_left
      · simp only [Act.put, List.setIfInBounds_toArray, List.set_cons_zero, List.set_cons_succ, i64_w, i32_w]
        rfl
      refine pure_ (i := 6) (N := some 59) (v := ?_) (a' := ?_) #[true, true, true, true, false, true, true, false, false, false, false, false, false, false, false] rfl rfl (by kernel_rfl) (fun _ _ _ h => h) (Or.inl ⟨by rfl, ?_⟩) ?_ ?_
      rotate_left
      · intro w'
        go_simp
        with_reducible rfl
      rotate_left
      · simp only [Act.put, List.setIfInBounds_toArray, List.set_cons_zero, List.set_cons_succ, i64_w, i32_w]
        rfl
      refine pure_ (i := 8) (N := some 61) (v := ?_) (a' := ?_) #[true, true, true, true, false, true, true, false, true, false, false, false, false, false, false] rfl rfl (by kernel_rfl) (fun _ _ _ h => h) (Or.inl ⟨by rfl, ?_⟩) ?_ ?_
      rotate_left
      · intro w'
        go_simp
        with_reducible rfl
      rotate_left
      · simp only [Act.put, List.setIfInBounds_toArray, List.set_cons_zero, List.set_cons_succ, i64_w, i32_w]
        rfl
      refine take_ (i := 4) (N := some 57) (v := ?_) (a' := ?_) #[true, true, true, true, true, true, true, false, true, false, false, false, false, false, false] rfl rfl (by kernel_rfl) (fun _ _ _ h => h) (Or.inl ⟨by rfl, ?_⟩) hHeld ?_ ?_
      rotate_left
      · rintro w' ⟨s0, s1⟩
        go_simp
        with_reducible rfl
      rotate_left
      · simp only [Act.put, List.setIfInBounds_toArray, List.set_cons_zero, List.set_cons_succ, i64_w, i32_w]
        rfl
      refine take_ (i := 7) (N := some 60) (v := ?_) (a' := ?_) #[true, true, true, true, true, true, true, true, true, false, false, false, false, false, false] rfl rfl (by kernel_rfl) (fun _ _ _ h => h) (Or.inl ⟨by rfl, ?_⟩) hHeld ?_ ?_
      rotate_left
      · rintro w' ⟨s0, s1⟩
        go_simp
        with_reducible rfl
      rotate_left
      · simp only [Act.put, List.setIfInBounds_toArray, List.set_cons_zero, List.set_cons_succ, i64_w, i32_w]
        rfl
      refine pure_ (i := 9) (N := some 62) (v := ?_) (a' := ?_) #[true, true, true, true, true, true, true, true, true, true, false, false, false, false, false] rfl rfl (by kernel_rfl) (fun _ _ _ h => h) (Or.inl ⟨by rfl, ?_⟩) ?_ ?_
      rotate_left
      · intro w'
        go_simp
        with_reducible rfl
      rotate_left
      · simp only [Act.put, List.setIfInBounds_toArray, List.set_cons_zero, List.set_cons_succ, i64_w, i32_w]
        rfl
      refine one_ (i := 10) (N := some 63) #[true, true, true, true, true, true, true, true, true, true, true, false, false, false, false] rfl rfl (by kernel_rfl) (by decide) (fun K hK => ?_)
      refine value_ (w1 := ?_) (v := ?_) (by rfl) rfl ?_ ?_
      rotate_left 2
      · go_simp
        constructor
        · rfl
        · rfl
      refine hK.out _ _ ⟨(HSB6.out _ (((Below.refl B wr).drew).alloc HBW.out _)).1, (HSB6.out _ (((Below.refl B wr).drew).alloc HBW.out _)).2⟩ (fun hHeld => ?_)
      clear hK K
      refine norm_ (a' := ?_) ?_ ?_
      rotate_left
      · show Act.put _ (some 63) _ = _
        simp only [Act.put, List.setIfInBounds_toArray, List.set_cons_zero, List.set_cons_succ, i64_w, i32_w]
        rfl
      refine one_ (i := 11) (N := some 64) #[true, true, true, true, true, true, true, true, true, true, true, true, false, false, false] rfl rfl (by kernel_rfl) (by decide) (fun K hK => ?_)
      refine Kd.R_append_step k25 (w0 := wr.drew) B (by rfl) _ _ 23 25 (.agg #[(.int .i64 0), (.int .i64 0)]) 16 (by rfl) Try.underlying23 info25 rfl (by decide) (by omega) v' out' (⟨rd r 1, temp⟩ : Mv) [.int .i64 (rd r 1), .int .i64 (temp)] (fun _ => True) (fun _ => False) (by rfl) (by rfl) (k25_mkM _ _ _ (⟨rd r 1, temp⟩ : Mv)) (fun _ hk => hk.elim) (fun _ _ => trivial) (Kd.R_drew HR.out) (Below.refl _ _) HBW.out (by have := HL.out; have := HLE.out; have := HG.out; have := HGN.out; omega) ?_
      intro v1 w1 ho hb hg hat
      obtain ⟨A1, n1, c1, e1⟩ : ∃ A n c, v1 = .slice A n c := (by obtain ⟨A, c, h, _⟩ := Kd.R_reads ho; exact ⟨A, _, c, h⟩)
      subst e1
      have HR6 := Aside0.mk ho
      have HP6 := Aside0.mk (HP.out.block (hg.block p HP.out.lt (R_ne_PL HR.out HP.out)))
      have HB6 := Aside0.mk (below_weaken (below_drew1 HB.out) H0.out.2 hb)
      have HKB6 := Aside0.mk (KB.trans HKB.out (show KB B p bf bu wr w1 from fun k h1 _ _ _ => hb.block k h1))
      have HS6 := Aside0.mk (Nat.le_trans HBW.out hb.size)
      have HBL6 := Aside0.mk (show Below B wr w1 from ⟨hb.os, hb.tape, hb.output, hb.size, hb.block⟩)
      have hy2 := HP6.out.c2
      have hz2 := HP6.out.z2
      clear ho hb hg hat
      refine hK.out _ _ ⟨(HSB6.out _ (HBL6.out)).1, (HSB6.out _ (HBL6.out)).2⟩ (fun hHeld => ?_)
      clear hK K
      refine norm_ (a' := ?_) ?_ ?_
      rotate_left
      · show Act.put _ (some 64) _ = _
        simp only [Act.put, List.setIfInBounds_toArray, List.set_cons_zero, List.set_cons_succ, i64_w, i32_w]
        rfl
      refine pure_ (i := 12) (N := some 65) (v := ?_) (a' := ?_) #[true, true, true, true, true, true, true, true, true, true, true, true, true, false, false] rfl rfl (by kernel_rfl) (fun _ _ _ h => h) (Or.inl ⟨by rfl, ?_⟩) ?_ ?_
      rotate_left
      · intro w'
        go_simp
        with_reducible rfl
      rotate_left
      · simp only [Act.put, List.setIfInBounds_toArray, List.set_cons_zero, List.set_cons_succ, i64_w, i32_w]
        rfl
      refine pure_ (i := 13) (N := some 66) (v := ?_) (a' := ?_) #[true, true, true, true, true, true, true, true, true, true, true, true, true, true, false] rfl rfl (by kernel_rfl) (fun _ _ _ h => h) (Or.inl ⟨by rfl, ?_⟩) ?_ ?_
      rotate_left
      · intro w'
        go_simp
        with_reducible rfl
      rotate_left
      · simp only [Act.put, List.setIfInBounds_toArray, List.set_cons_zero, List.set_cons_succ, i64_w, i32_w]
        rfl
      refine last_ (i := 14) (N := none) #[true, true, true, true, true, true, true, true, true, true, true, true, true, true, true] rfl rfl (by kernel_rfl) (by decide) (fun K hK => ?_)
      refine skip_ (w1 := ?_) (by rfl) rfl ?_ ?_
      rotate_left
      · go_simp
        rfl
      refine hK.out _ _ ?_
      clear hK K
      refine done_ (by kernel_rfl) ?_

      have HKB2 := Aside0.mk (HKB6.out.set 2 (.slice A1 n1 c1))
      have HP2 := Aside0.mk (HP6.out.put (.slice A1 n1 c1))
      have HR2 := Aside0.mk (R_store (v1 := .slice A1 n1 c1) HR6.out HP6.out)
      have HB2 := Aside0.mk (below_set (j := 2) (v := .slice A1 n1 c1) HB6.out H0.out.1)
      have HS2 := Aside0.mk (show B ≤ (w1.setCell ⟨p, 2, none⟩ (.slice A1 n1 c1)).heap.size by rw [set_size]; exact HS6.out)
      go_wp2
      go_end0
      exact ⟨rfl, _, HP2.out, by rw [HF2.out]; exact HR2.out, HB2.out, HS2.out, HKB2.out⟩
end Go.Proofs.Ytaklfdlcedlmfaa.XM
