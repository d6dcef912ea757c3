/- Layer 3: (*Memory).Sum at a memory. -/
import Derived.Test.YtocjneilaabnnaaMSpan
namespace Go.Proofs.Ytocjneilaabnnaa.M
open Go Go.RowKit Go.Proofs.YtocjneilaabnnaaW.PrintWords
set_option linter.unusedVariables false
set_option linter.unusedSimpArgs false
def stepH (h i c : Int) : Int := IntKind.u64.wrap (bits .xor .u64 (IntKind.u64.wrap (bits .xor .u64 h i * 1099511628211)) c * 1099511628211)
/-- The sum, from place s on, n places. -/
def sumF (g : Nat → Int) : Nat → Nat → Int → Int
  | _, 0, h => h
  | s, n + 1, h => sumF g (s + 1) n (if g s = 0 then h else stepH h s (g s))
set_option maxHeartbeats 4000000 in
set_option maxRecDepth 100000 in
theorem msum (p b len cap : Nat) (most : Int) (g : Nat → Int) (w : World) (h : IsMem w p b len cap most g) (hg : ∀ j, j < len → 0 ≤ g j ∧ g j < 256) :
    Calls Try.prog 16 #[.pointer (some ⟨p, 0, none⟩)] w fun e w' => e = .returned (.int .u64 (sumF g 0 len 14695981039346656037)) ∧ Below w.heap.size w w' := by
  have hc := h.c0
  have hsm := h.small
  have H := Aside0.mk (And.intro h hg)
  clear h hg
  go_enter Try.func16, Try.ntmps16
  go_wp2
  go_loopg [3, 13] len (fun kq v3 v13 w' => ∃ (i : Nat) (h : Int), v3 = .int .u64 h ∧ v13 = .int .i64 i ∧ Aside0 (i + kq = len) ∧ Aside0 (sumF g i kq h = sumF g 0 len 14695981039346656037) ∧ Aside0 (Below w.heap.size w w'))
  case atStart => exact ⟨0, _, rfl, rfl, ⟨by omega⟩, ⟨rfl⟩, ⟨Below.refl _ _⟩⟩
  case round =>
    obtain ⟨i, h, rfl, rfl, HK, HS, HB⟩ := hrel
    cases gk with
    | zero =>
      obtain rfl : i = len := by have := HK.out; omega
      go_wp2
      go_ret
      exact ⟨by rw [← HS.out]; rfl, HB.out⟩
    | succ k1 =>
      have hi : i < len := by have := HK.out; omega
      have hb := H.out.2 i hi
      have hcell : wr.cell? ⟨b, i, none⟩ = some (.int .u8 (g i)) := (HB.out.cell (p := ⟨b, i, none⟩) H.out.1.row.lt).trans (H.out.1.row.cell (by have := H.out.1.le; omega))
      by_cases hz : g i = 0
      · have hne : (g i != 0) = false := by simp [hz]
        have hs2 : sumF g (i + 1) k1 h = sumF g 0 len 14695981039346656037 := by
          have h2 := HS.out
          rw [sumF, if_pos hz] at h2
          exact h2
        have HS2 := Aside0.mk hs2
        clear hs2 hz
        go_wp2
        go_roundg k1
        case rel => exact ⟨i + 1, h, rfl, by simp, ⟨by have := HK.out; omega⟩, ⟨HS2.out⟩, ⟨HB.out⟩⟩
        case measure => exact Nat.lt_succ_self _
      · have hne : (g i != 0) = true := by simp [hz]
        have hs2 : sumF g (i + 1) k1 (stepH h i (g i)) = sumF g 0 len 14695981039346656037 := by
          have h2 := HS.out
          rw [sumF, if_neg hz] at h2
          exact h2
        have HS2 := Aside0.mk hs2
        clear hs2 hz
        go_wp2
        go_roundg k1
        case rel => exact ⟨i + 1, stepH h i (g i), rfl, by simp, ⟨by have := HK.out; omega⟩, ⟨HS2.out⟩, ⟨HB.out⟩⟩
        case measure => exact Nat.lt_succ_self _
end Go.Proofs.Ytocjneilaabnnaa.M
