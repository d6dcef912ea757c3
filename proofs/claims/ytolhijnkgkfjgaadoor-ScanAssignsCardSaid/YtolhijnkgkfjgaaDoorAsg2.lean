/- Assign: its contract. -/
import Derived.Test.YtolhijnkgkfjgaaDoorAsg
import Derived.Test.YtolhijnkgkfjgaaDoorValid
namespace Go.Proofs.YtolhijnkgkfjgaaDoor.XC
open Go.RowKit Go.Proofs.YtolhijnkgkfjgaaDoorW.PrintWords Go.Proofs.YtolhijnkgkfjgaaDoorW.PrintLast Go.Proofs.YtolhijnkgkfjgaaDoorW.PrintMore
attribute [local go_sem] max2_int min2_int max_two min_two max_three min_three max_four min_four   -- for this text's walks alone
set_option linter.unusedVariables false
set_option linter.unusedSimpArgs false
def scan_Assign.f (k : Nat) (l0 : List Sp) (a1 : Int) : Option (List Int × Int × Option Int) := if l0.length ≤ 1024 ∧ (l0.all fun s => decide (s.f0.length ≤ 900000000)) = true then (if 1 ≤ a1 ∧ a1 ≤ 32 ∧ okL l0 = true then some ((asg3 (mtOf l0) l0 a1.toNat).2, ((asg3 (mtOf l0) l0 a1.toNat).1.length : Int), none) else some ([], 0, some 1)) else none
theorem scan_Assign.mono : ∀ k, (∀ y0 y1, LeO (scan_Assign.f k y0 y1) (scan_Assign.f (k + 1) y0 y1)) := fun _ _ _ => LeO.refl _
def fuel (l : List Sp) : Nat := l.length + (l.map fun s => s.f0.length).sum + 10
theorem fuel_mem : ∀ {l : List Sp} {s : Sp}, s ∈ l → s.f0.length ≤ (l.map fun s => s.f0.length).sum
  | a :: l, s, h => by
    rw [List.map_cons, List.sum_cons]
    rcases List.mem_cons.1 h with rfl | h
    · omega
    · have := fuel_mem h; omega
set_option maxHeartbeats 16000000 in
set_option maxRecDepth 100000 in
theorem scan_Assign.bad (w : World) (A : Option Addr) (c : Nat) (l : List Sp) (hr : Kd.C k44 w A l.length l) (hc : l.length ≤ c) (k : Int) (kf : Nat) (e0 : Int) (hck : scan_check.f kf l k = some (some e0)) :
    Calls Tryd.prog 6 #[.slice A l.length c, .int .i64 k] w fun e w' => e = .returned (.tuple #[.slice none 0 0, .int .i64 0, errW (some 1)]) ∧ Below w.heap.size w w' := by
  have HCK := Aside0.mk (scan_check.calls kf A c l k (some e0) w hr hc hck)
  rw [errW_some] at HCK
  clear hr hc hck
  go_enter Tryd.func6, Tryd.ntmps6
  go_wp2_with (go_at_call 12; refine HCK.out.mono ?_; rintro e w1 ⟨rfl, hb⟩; have HB1 := Aside0.mk hb; clear hb HCK)
  go_ret3
  exact ⟨rfl, HB1.out⟩
theorem scan_Assign.calls (k : Nat) (A0 : Option Addr) (c0 : Nat) (l0 : List Sp) (a1 : Int) (r1 : List Int) (r2 : Int) (r3 : Option Int) (w : World) (hr0 : Kd.C k44 w A0 l0.length l0) (hc0 : l0.length ≤ c0) (h : scan_Assign.f k l0 a1 = some (r1, r2, r3)) :
    Calls Tryd.prog 6 #[.slice A0 l0.length c0, .int .i64 a1] w fun e w' => ∃ v0_ : Value, e = .returned (.tuple #[v0_, .int .i64 r2, errW r3]) ∧ Kd.R (Kd.int .i64) 3 w' w.heap.size (fun _ => True) v0_ r1 ∧ Below w.heap.size w w' := by
  unfold scan_Assign.f at h
  by_cases hl : l0.length ≤ 1024 ∧ (l0.all fun s => decide (s.f0.length ≤ 900000000)) = true
  · rw [if_pos hl] at h
    have hL : Lens l0 := fun s hs => of_decide_eq_true (List.all_eq_true.1 hl.2 s hs)
    have hck := scheck_f l0 hL (by omega) a1 (fuel l0) (fun s hs => by have := fuel_mem hs; unfold fuel; omega) (by unfold fuel; omega)
    by_cases hok : 1 ≤ a1 ∧ a1 ≤ 32 ∧ okL l0 = true
    · rw [if_pos hok] at h hck
      simp only [Option.some.injEq, Prod.mk.injEq] at h
      obtain ⟨rfl, rfl, rfl⟩ := h
      obtain ⟨n, rfl⟩ : ∃ n : Nat, a1 = (n : Int) := ⟨a1.toNat, by omega⟩
      rw [Int.toNat_natCast]
      refine (scan_Assign.good w A0 c0 l0 hr0 hc0 n (by omega) _ hck hl.1 (mtOf l0) (meetIs l0 hok.2.2 hL) (fun x => by have := rdS_len hL x; omega)).mono ?_
      rintro e w' ⟨v, h1, h2, h3⟩
      exact ⟨v, h1, h2, h3⟩
    · rw [if_neg hok] at h hck
      simp only [Option.some.injEq, Prod.mk.injEq] at h
      obtain ⟨rfl, rfl, rfl⟩ := h
      refine (scan_Assign.bad w A0 c0 l0 hr0 hc0 a1 _ 1 hck).mono ?_
      rintro e w' ⟨rfl, h3⟩
      exact ⟨_, rfl, Kd.R_nil _ _ _ _ _, h3⟩
  · rw [if_neg hl] at h
    cases h
end Go.Proofs.YtolhijnkgkfjgaaDoor.XC
