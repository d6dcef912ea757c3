/- Layer 3: the law MemRuns at any arguments. -/
import Derived.Test.YtocjneilaabnnaaMRunB
import Derived.Test.YtocjneilaabnnaaOpen
namespace Go.Proofs.Ytocjneilaabnnaa.M
open Go Go.RowKit Go.Proofs.Ytocjneilaabnnaa.XR Go.Proofs.YtocjneilaabnnaaW.PrintWords Go.Proofs.Ytocjneilaabnnaa.Op
set_option linter.unusedVariables false
theorem opens45 : Opens Try.prog 40 (Kd.slice 45 k45) (fun l => ∀ x ∈ l, (Lit.int .i64 x.f0).wf = true ∧ (Lit.int .u64 x.f1).wf = true ∧ (Lit.int .u64 x.f2).wf = true ∧ (Lit.int .i64 x.f3).wf = true ∧ (Lit.int .u64 x.f4).wf = true) :=
  opens_slice Try.underlying40 (by kernel_rfl) (opens_struct (fun x : S45 => (x.f0, x.f1, x.f2, x.f3, x.f4)) (fun t => ⟨t.1, t.2.1, t.2.2.1, t.2.2.2.1, t.2.2.2.2⟩) (fun _ => rfl) Try.underlying45 (by kernel_rfl)
    (fields_cons rfl (by kernel_rfl) (opens_int Try.underlying3) (fields_cons rfl (by kernel_rfl) (opens_int Try.underlying22) (fields_cons rfl (by kernel_rfl) (opens_int Try.underlying22) (fields_cons rfl (by kernel_rfl) (opens_int Try.underlying3) (fields_one rfl (by kernel_rfl) (opens_int Try.underlying22)))))))
theorem u64_of_wf {a : Int} (h : (Lit.int .u64 a).wf = true) : 0 ≤ a ∧ a < 18446744073709551616 := by
  simp [Lit.wf, IntKind.min, IntKind.max, IntKind.signed, IntKind.bits] at h
  omega
theorem memruns (x y : Int) (A0 : Option Addr) (c0 : Nat) (l : List S45) (w : World) (w0 : (Lit.int .i64 x).wf = true) (w1 : (Lit.int .i64 y).wf = true) (hl : Kd.C k45 w A0 l.length l) (hc : l.length ≤ c0)
    (hg : ∀ x ∈ l, (Lit.int .i64 x.f0).wf = true ∧ (Lit.int .u64 x.f1).wf = true ∧ (Lit.int .u64 x.f2).wf = true ∧ (Lit.int .i64 x.f3).wf = true ∧ (Lit.int .u64 x.f4).wf = true) :
    Calls Try.prog 5 #[.int .i64 x, .int .i64 y, .slice A0 l.length c0] w fun e w' => e = .returned (.bool true) ∧ Below w.heap.size w w' := by
  have hu : ∀ z : Int, IntKind.u64.wrap z = z % 18446744073709551616 := fun z => by simp [IntKind.wrap, IntKind.bits, IntKind.signed]
  obtain ⟨k, hk, hk2⟩ : ∃ k : Nat, wrap64 ((IntKind.u64.wrap y).tmod 17) = k ∧ k ≤ 16 := by
    rw [hu, Int.tmod_eq_emod_of_nonneg (by omega)]
    refine ⟨(y % 18446744073709551616 % 17).toNat, ?_, by omega⟩
    unfold wrap64
    omega
  obtain ⟨n, hn, hn2⟩ : ∃ n : Nat, wrap64 ((IntKind.u64.wrap x).tmod ((k : Int) + 1)) = n ∧ n ≤ k := by
    rw [hu, Int.tmod_eq_emod_of_nonneg (by omega)]
    have h1 := Int.emod_nonneg (x % 18446744073709551616) (show ((k : Int) + 1) ≠ 0 by omega)
    have h2 := Int.emod_lt_of_pos (x % 18446744073709551616) (show 0 < (k : Int) + 1 by omega)
    refine ⟨(x % 18446744073709551616 % ((k : Int) + 1)).toNat, ?_, by omega⟩
    rw [w64i (by omega) (by omega)]
    omega
  exact runs x y k n hk hn hn2 hk2 A0 c0 l w hl hc (fun z hz => ⟨u64_of_wf (hg z hz).2.1, u64_of_wf (hg z hz).2.2.1, u64_of_wf (hg z hz).2.2.2.2⟩)
end Go.Proofs.Ytocjneilaabnnaa.M
