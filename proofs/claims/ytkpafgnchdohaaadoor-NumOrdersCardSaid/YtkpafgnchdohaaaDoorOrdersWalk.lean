/- NumOrders: the law's own walk, by hand: an array of ten words in memory, filled in ten rounds, then read. -/
import Derived.Test.YtkpafgnchdohaaaDoorXNx3
import Derived.Deep.OwnRows
import Derived.Deep.LoopGhost
namespace Go.Proofs.YtkpafgnchdohaaaDoor.XN
open Go.RowKit Go.Proofs.YtkpafgnchdohaaaDoorW.PrintWords Go.Proofs.YtkpafgnchdohaaaDoorW.PrintLast Go.Proofs.YtkpafgnchdohaaaDoorW.PrintMore
set_option linter.unusedVariables false
set_option linter.unusedSimpArgs false
theorem row0 (w : World) (z : Nat → Int) : (w.alloc (.cells #[.int .u64 0, .int .u64 0, .int .u64 0, .int .u64 0, .int .u64 0, .int .u64 0, .int .u64 0, .int .u64 0, .int .u64 0, .int .u64 0] 32)).rowIs w.heap.size 32 10 (fun j => .int .u64 (if j < 0 then z j else 0)) := by
  refine ⟨_, Array.getElem?_push_size, rfl, fun j hj => ?_⟩
  rcases j with _ | _ | _ | _ | _ | _ | _ | _ | _ | _ | j
  all_goals first | rfl | omega
set_option maxHeartbeats 8000000 in
set_option maxRecDepth 100000 in
theorem orders_wide (k : Nat) (x y : Int) (z : Nat → Int) (w : World) (hT : LaidT w) (ks : Nat) (hs : mandrellaw02_sure.f ks = some true) (hz : ∀ i : Nat, i < 10 → num_Two.f k (81 + (i : Int)) x y = some (z i, 0, none)) (hb : ∀ i : Nat, i < 10 → z i = 0 ∨ z i = 1)
    (E1 : (IntKind.u64.wrap (z 0 + z 1) == 1) = true) (E2 : (IntKind.u64.wrap (IntKind.u64.wrap (z 2 + z 4) + z 0) == 1) = true) (E3 : (IntKind.u64.wrap (IntKind.u64.wrap (z 3 + z 5) + z 0) == 1) = true)
    (E4 : (z 6 == IntKind.u64.wrap (z 2 + z 0)) = true) (E5 : (z 7 == IntKind.u64.wrap (z 3 + z 0)) = true) (E6 : (z 8 == IntKind.u64.wrap (z 4 + z 0)) = true) (E7 : (z 9 == IntKind.u64.wrap (z 5 + z 0)) = true) :
    Calls Tryd.prog 5 #[.bool true, .int .u64 x, .int .u64 y] w fun e w' => e = .returned (.bool true) ∧ Below w.heap.size w w' := by
  go_enter Tryd.func5, Tryd.ntmps5
  go_wp2
  go_loopg [9] 10 (fun kq v9 w' => ∃ i : Nat, v9 = .int .i64 i ∧ Aside0 (i + kq = 10) ∧ Aside0 (Below w.heap.size w w') ∧ Aside0 (w'.rowIs w.heap.size 32 10 (fun j => .int .u64 (if j < i then z j else 0))))
  case atStart => exact ⟨0, rfl, ⟨rfl⟩, ⟨below_alloc (Below.refl _ _) _⟩, ⟨row0 w z⟩⟩
  case round =>
    obtain ⟨i, rfl, HK, HB, HR⟩ := hrel
    cases gk with
    | zero =>
      obtain rfl : i = 10 := by have := HK.out; omega
      have h0 : wr.cell? ⟨w.heap.size, 0, none⟩ = some (.int .u64 (z 0)) := HR.out.cell (i := 0) (by omega)
      have h1 : wr.cell? ⟨w.heap.size, 1, none⟩ = some (.int .u64 (z 1)) := HR.out.cell (i := 1) (by omega)
      have h2 : wr.cell? ⟨w.heap.size, 2, none⟩ = some (.int .u64 (z 2)) := HR.out.cell (i := 2) (by omega)
      have h3 : wr.cell? ⟨w.heap.size, 3, none⟩ = some (.int .u64 (z 3)) := HR.out.cell (i := 3) (by omega)
      have h4 : wr.cell? ⟨w.heap.size, 4, none⟩ = some (.int .u64 (z 4)) := HR.out.cell (i := 4) (by omega)
      have h5 : wr.cell? ⟨w.heap.size, 5, none⟩ = some (.int .u64 (z 5)) := HR.out.cell (i := 5) (by omega)
      have h6 : wr.cell? ⟨w.heap.size, 6, none⟩ = some (.int .u64 (z 6)) := HR.out.cell (i := 6) (by omega)
      have h7 : wr.cell? ⟨w.heap.size, 7, none⟩ = some (.int .u64 (z 7)) := HR.out.cell (i := 7) (by omega)
      have h8 : wr.cell? ⟨w.heap.size, 8, none⟩ = some (.int .u64 (z 8)) := HR.out.cell (i := 8) (by omega)
      have h9 : wr.cell? ⟨w.heap.size, 9, none⟩ = some (.int .u64 (z 9)) := HR.out.cell (i := 9) (by omega)
      have hT2 : LaidT wr := hT.below HB.out
      have AS := Aside0.mk hs
      go_wp2_with fail
      refine (mandrellaw02_sure.calls ks true _ hT2 AS.out).mono ?_
      rintro e w' ⟨rfl, ⟨nd, rfl⟩⟩
      go_wp2
      go_ret
      exact ⟨rfl, pw_below_drewN HB.out _⟩
    | succ k1 =>
      have hi : i < 10 := by have := HK.out; omega
      have ht : decide ((i : Int) < 10) = true := decide_eq_true (by omega)
      have A0 := Aside0.mk (hz i hi)
      have hz1 : z i ≤ 1 := by rcases hb i hi with h | h <;> omega
      have hc : wr.cell? ⟨w.heap.size, i, none⟩ = some (.int .u64 (if i < i then z i else 0)) := HR.out.cell hi
      have hfz : wr.frozen? ⟨w.heap.size, i, none⟩ = false := HR.out.frozen i
      go_wp2_with (first | ((with_reducible refine gate_callee (f := 10) rfl ?_); refine goesL_ _ rfl rfl Tryd.func10 (by kernel_rfl) rfl #[.int .u8 (81 + (i : Int)), .int .u64 x, .int .u64 y] rfl (by (try simp only [List.map_toArray, List.map_cons, List.map_nil]); first | done | rfl | (simp only [List.length_drop, List.length_take]; rfl)) ?_; (with_reducible refine (num_Two.calls k (81 + (i : Int)) x y (z i) 0 none _ A0.out).mono ?_); rintro e w' ⟨rfl, ⟨nd, rfl⟩⟩; refine ⟨_, rfl, ?_⟩; (try simp only [errW_none, errW_some])))
      all_goals (go_roundg k1)
      all_goals first | exact Nat.lt_succ_self _ | (exact ⟨i + 1, by simp, ⟨by have := HK.out; omega⟩, ⟨(pw_below_drewN HB.out _).setCell (Nat.le_refl _) _⟩, ⟨(HR.out.set i _).congr (fun j hj => by by_cases e : j = i <;> simp [e] <;> omega)⟩⟩)
set_option maxHeartbeats 8000000 in
set_option maxRecDepth 100000 in
theorem orders_narrow (k : Nat) (x y : Int) (z : Nat → Int) (w : World) (hT : LaidT w) (ks : Nat) (hs : mandrellaw02_sure.f ks = some true) (hz : ∀ i : Nat, i < 10 → num_Two.f k (70 + (i : Int)) x y = some (z i, 0, none)) (hb : ∀ i : Nat, i < 10 → z i = 0 ∨ z i = 1)
    (E1 : (IntKind.u64.wrap (z 0 + z 1) == 1) = true) (E2 : (IntKind.u64.wrap (IntKind.u64.wrap (z 2 + z 4) + z 0) == 1) = true) (E3 : (IntKind.u64.wrap (IntKind.u64.wrap (z 3 + z 5) + z 0) == 1) = true)
    (E4 : (z 6 == IntKind.u64.wrap (z 2 + z 0)) = true) (E5 : (z 7 == IntKind.u64.wrap (z 3 + z 0)) = true) (E6 : (z 8 == IntKind.u64.wrap (z 4 + z 0)) = true) (E7 : (z 9 == IntKind.u64.wrap (z 5 + z 0)) = true) :
    Calls Tryd.prog 5 #[.bool false, .int .u64 x, .int .u64 y] w fun e w' => e = .returned (.bool true) ∧ Below w.heap.size w w' := by
  go_enter Tryd.func5, Tryd.ntmps5
  go_wp2
  go_loopg [9] 10 (fun kq v9 w' => ∃ i : Nat, v9 = .int .i64 i ∧ Aside0 (i + kq = 10) ∧ Aside0 (Below w.heap.size w w') ∧ Aside0 (w'.rowIs w.heap.size 32 10 (fun j => .int .u64 (if j < i then z j else 0))))
  case atStart => exact ⟨0, rfl, ⟨rfl⟩, ⟨below_alloc (Below.refl _ _) _⟩, ⟨row0 w z⟩⟩
  case round =>
    obtain ⟨i, rfl, HK, HB, HR⟩ := hrel
    cases gk with
    | zero =>
      obtain rfl : i = 10 := by have := HK.out; omega
      have h0 : wr.cell? ⟨w.heap.size, 0, none⟩ = some (.int .u64 (z 0)) := HR.out.cell (i := 0) (by omega)
      have h1 : wr.cell? ⟨w.heap.size, 1, none⟩ = some (.int .u64 (z 1)) := HR.out.cell (i := 1) (by omega)
      have h2 : wr.cell? ⟨w.heap.size, 2, none⟩ = some (.int .u64 (z 2)) := HR.out.cell (i := 2) (by omega)
      have h3 : wr.cell? ⟨w.heap.size, 3, none⟩ = some (.int .u64 (z 3)) := HR.out.cell (i := 3) (by omega)
      have h4 : wr.cell? ⟨w.heap.size, 4, none⟩ = some (.int .u64 (z 4)) := HR.out.cell (i := 4) (by omega)
      have h5 : wr.cell? ⟨w.heap.size, 5, none⟩ = some (.int .u64 (z 5)) := HR.out.cell (i := 5) (by omega)
      have h6 : wr.cell? ⟨w.heap.size, 6, none⟩ = some (.int .u64 (z 6)) := HR.out.cell (i := 6) (by omega)
      have h7 : wr.cell? ⟨w.heap.size, 7, none⟩ = some (.int .u64 (z 7)) := HR.out.cell (i := 7) (by omega)
      have h8 : wr.cell? ⟨w.heap.size, 8, none⟩ = some (.int .u64 (z 8)) := HR.out.cell (i := 8) (by omega)
      have h9 : wr.cell? ⟨w.heap.size, 9, none⟩ = some (.int .u64 (z 9)) := HR.out.cell (i := 9) (by omega)
      have hT2 : LaidT wr := hT.below HB.out
      have AS := Aside0.mk hs
      go_wp2_with fail
      refine (mandrellaw02_sure.calls ks true _ hT2 AS.out).mono ?_
      rintro e w' ⟨rfl, ⟨nd, rfl⟩⟩
      go_wp2
      go_ret
      exact ⟨rfl, pw_below_drewN HB.out _⟩
    | succ k1 =>
      have hi : i < 10 := by have := HK.out; omega
      have ht : decide ((i : Int) < 10) = true := decide_eq_true (by omega)
      have A0 := Aside0.mk (hz i hi)
      have hz1 : z i ≤ 1 := by rcases hb i hi with h | h <;> omega
      have hc : wr.cell? ⟨w.heap.size, i, none⟩ = some (.int .u64 (if i < i then z i else 0)) := HR.out.cell hi
      have hfz : wr.frozen? ⟨w.heap.size, i, none⟩ = false := HR.out.frozen i
      go_wp2_with (first | ((with_reducible refine gate_callee (f := 10) rfl ?_); refine goesL_ _ rfl rfl Tryd.func10 (by kernel_rfl) rfl #[.int .u8 (70 + (i : Int)), .int .u64 x, .int .u64 y] rfl (by (try simp only [List.map_toArray, List.map_cons, List.map_nil]); first | done | rfl | (simp only [List.length_drop, List.length_take]; rfl)) ?_; (with_reducible refine (num_Two.calls k (70 + (i : Int)) x y (z i) 0 none _ A0.out).mono ?_); rintro e w' ⟨rfl, ⟨nd, rfl⟩⟩; refine ⟨_, rfl, ?_⟩; (try simp only [errW_none, errW_some])))
      all_goals (go_roundg k1)
      all_goals first | exact Nat.lt_succ_self _ | (exact ⟨i + 1, by simp, ⟨by have := HK.out; omega⟩, ⟨(pw_below_drewN HB.out _).setCell (Nat.le_refl _) _⟩, ⟨(HR.out.set i _).congr (fun j hj => by by_cases e : j = i <;> simp [e] <;> omega)⟩⟩)
end Go.Proofs.YtkpafgnchdohaaaDoor.XN
