/- Layer 3: what a memory is in the machine's heap, and (*Memory).span at it. -/
import Derived.Test.YtocjneilaabnnaaProg
import Derived.WalkKit
import Derived.Below
import Derived.Deep.OwnRows
import Derived.Deep.LoopGhost
import Derived.Test.YtocjneilaabnnaaWWords
namespace Go.Proofs.Ytocjneilaabnnaa.M
open Go Go.RowKit Go.Proofs.YtocjneilaabnnaaW.PrintWords
set_option linter.unusedVariables false
set_option linter.unusedSimpArgs false
/-- Block p is the struct of a memory; block b its bytes. -/
structure IsMem (w : World) (p b len cap : Nat) (most : Int) (g : Nat → Int) : Prop where
  obj : w.rowIs p 59 2 (fun j => if j = 0 then .slice (some ⟨b, 0, none⟩) len cap else .int .i64 most)
  row : w.rowIs b 5 cap (fun j => .int .u8 (g j))
  le : len ≤ cap
  small : len < 4611686018427387904
  top : cap ≤ maxLen
  ne : p ≠ b
theorem IsMem.c0 {w : World} {p b len cap : Nat} {most : Int} {g : Nat → Int} (h : IsMem w p b len cap most g) : w.cell? ⟨p, 0, none⟩ = some (.slice (some ⟨b, 0, none⟩) len cap) := h.obj.cell (i := 0) (by omega)
theorem IsMem.c1 {w : World} {p b len cap : Nat} {most : Int} {g : Nat → Int} (h : IsMem w p b len cap most g) : w.cell? ⟨p, 1, none⟩ = some (.int .i64 most) := h.obj.cell (i := 1) (by omega)
theorem IsMem.f0 {w : World} {p b len cap : Nat} {most : Int} {g : Nat → Int} (h : IsMem w p b len cap most g) (i : Nat) : w.frozen? ⟨p, i, none⟩ = false := h.obj.frozen i
theorem IsMem.below {w w' : World} {p b len cap B : Nat} {most : Int} {g : Nat → Int} (h : IsMem w p b len cap most g) (hb : Below B w w') (h1 : p < B) (h2 : b < B) : IsMem w' p b len cap most g :=
  ⟨h.obj.of_block (hb.block p h1), h.row.of_block (hb.block b h2), h.le, h.small, h.top, h.ne⟩
set_option maxHeartbeats 2000000 in
set_option maxRecDepth 100000 in
theorem span_yes (p b len cap x off size : Nat) (most : Int) (g : Nat → Int) (w : World) (h : IsMem w p b len cap most g) (hs : size = 1 ∨ size = 2 ∨ size = 4 ∨ size = 8) (hin : x + off + size ≤ len) :
    Calls Try.prog 18 #[.pointer (some ⟨p, 0, none⟩), .int .u64 x, .int .u64 off, .int .i64 size] w fun e w' => e = .returned (.tuple #[.slice (some ⟨b, x + off, none⟩) size (cap - (x + off)), .bool true]) ∧ w' = w := by
  have hc := h.c0
  have hle := h.le
  have hsm := h.small
  clear h
  rcases hs with rfl | rfl | rfl | rfl
  all_goals
    go_enter Try.func18, Try.ntmps18
    go_wp2
    go_ret2
    exact ⟨rfl, rfl⟩
set_option maxHeartbeats 4000000 in
set_option maxRecDepth 100000 in
theorem span_no (p b len cap x off : Nat) (size : Int) (most : Int) (g : Nat → Int) (w : World) (h : IsMem w p b len cap most g) (hx : x < 18446744073709551616) (ho : off < 18446744073709551616) (hn : ¬ ((size = 1 ∨ size = 2 ∨ size = 4 ∨ size = 8) ∧ ((x + off : Nat) : Int) + size ≤ len)) :
    Calls Try.prog 18 #[.pointer (some ⟨p, 0, none⟩), .int .u64 x, .int .u64 off, .int .i64 size] w fun e w' => e = .returned (.tuple #[.slice none 0 0, .bool false]) ∧ w' = w := by
  have hc := h.c0
  have hle := h.le
  have hsm := h.small
  clear h
  by_cases hs : size = 1 ∨ size = 2 ∨ size = 4 ∨ size = 8
  · by_cases h1 : len < x
    · clear hn
      rcases hs with rfl | rfl | rfl | rfl
      all_goals
        go_enter Try.func18, Try.ntmps18
        go_wp2
        go_ret2
        exact ⟨rfl, rfl⟩
    · by_cases h2 : len - x < off
      · clear hn
        rcases hs with rfl | rfl | rfl | rfl
        all_goals
          go_enter Try.func18, Try.ntmps18
          go_wp2
          go_ret2
          exact ⟨rfl, rfl⟩
      · rcases hs with rfl | rfl | rfl | rfl
        all_goals
          have h3 : ¬ ((x + off : Nat) : Int) + _ ≤ len := fun h => hn ⟨by simp, h⟩
          clear hn
          go_enter Try.func18, Try.ntmps18
          go_wp2
          go_ret2
          exact ⟨rfl, rfl⟩
  · have n1 : (size == 1) = false := beq_eq_false_iff_ne.2 fun h => hs (by simp [h])
    have m1 : (size != 1) = true := bne_iff_ne.2 fun h => hs (by simp [h])
    have n2 : (size == 2) = false := beq_eq_false_iff_ne.2 fun h => hs (by simp [h])
    have m2 : (size != 2) = true := bne_iff_ne.2 fun h => hs (by simp [h])
    have n4 : (size == 4) = false := beq_eq_false_iff_ne.2 fun h => hs (by simp [h])
    have m4 : (size != 4) = true := bne_iff_ne.2 fun h => hs (by simp [h])
    have n8 : (size == 8) = false := beq_eq_false_iff_ne.2 fun h => hs (by simp [h])
    have m8 : (size != 8) = true := bne_iff_ne.2 fun h => hs (by simp [h])
    clear hn hs
    go_enter Try.func18, Try.ntmps18
    go_wp2
    go_ret2
    exact ⟨rfl, rfl⟩
end Go.Proofs.Ytocjneilaabnnaa.M
