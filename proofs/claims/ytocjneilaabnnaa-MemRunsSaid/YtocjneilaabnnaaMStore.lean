/- Layer 3: (*Memory).Store at a memory. -/
import Derived.Test.YtocjneilaabnnaaMSpan
namespace Go.Proofs.Ytocjneilaabnnaa.M
open Go Go.RowKit Go.Proofs.YtocjneilaabnnaaW.PrintWords
set_option linter.unusedVariables false
set_option linter.unusedSimpArgs false
/-- Byte k of a number. -/
def stb (v : Int) (k : Nat) : Int := v / 2 ^ (8 * k) % 256
/-- The first n bytes of a number, laid from place a on. -/
def storeG (g : Nat → Int) (a n : Nat) (v : Int) : Nat → Int := fun j => if a ≤ j ∧ j < a + n then stb v (j - a) else g j
theorem IsMem.congr {w : World} {p b len cap : Nat} {most : Int} {g g' : Nat → Int} (h : IsMem w p b len cap most g) (e : ∀ j, j < cap → g j = g' j) : IsMem w p b len cap most g' :=
  ⟨h.obj, h.row.congr (fun j hj => by rw [e j hj]), h.le, h.small, h.top, h.ne⟩
theorem IsMem.store {w : World} {p b len cap : Nat} {most : Int} {g : Nat → Int} (h : IsMem w p b len cap most g) (i : Nat) (v : Int) : IsMem (w.setCell ⟨b, i, none⟩ (.int .u8 v)) p b len cap most (fun j => if j = i then v else g j) :=
  ⟨h.obj.setOther h.ne _, (h.row.set i _).congr (fun j hj => by split <;> rfl), h.le, h.small, h.top, h.ne⟩
set_option maxHeartbeats 4000000 in
set_option maxRecDepth 100000 in
theorem store_yes (B p b len cap x off size : Nat) (most v : Int) (g : Nat → Int) (w : World) (h : IsMem w p b len cap most g) (hs : size = 1 ∨ size = 2 ∨ size = 4 ∨ size = 8) (hin : x + off + size ≤ len) (hB : B ≤ b) (hv : 0 ≤ v ∧ v < 18446744073709551616) :
    Calls Try.prog 7 #[.pointer (some ⟨p, 0, none⟩), .int .u64 x, .int .u64 off, .int .i64 size, .int .u64 v] w fun e w' => e = .returned (.bool true) ∧ Below B w w' ∧ IsMem w' p b len cap most (storeG g (x + off) size v) := by
  have hs8 : size ≤ 8 := by omega
  have S := Aside0.mk (span_yes p b len cap x off size most g w h hs hin)
  have HM := Aside0.mk h
  have HV := Aside0.mk hv
  have HIN := Aside0.mk hin
  clear h hs hv hin
  go_enter Try.func7, Try.ntmps7
  go_wp2_with fail
  refine S.out.mono ?_
  rintro e w2 ⟨rfl, hw⟩
  obtain rfl := hw.symm
  go_wp2_with fail
  go_loopg [24] size (fun kq v24 w' => ∃ i : Nat, v24 = .int .i64 i ∧ Aside0 (i + kq = size) ∧ Aside0 (Below B w w') ∧ Aside0 (IsMem w' p b len cap most (storeG g (x + off) i v)))
  case atStart => exact ⟨0, rfl, ⟨by omega⟩, ⟨Below.refl _ _⟩, ⟨HM.out.congr (fun j hj => by simp [storeG]; omega)⟩⟩
  case round =>
    obtain ⟨i, rfl, HK, HB, HR⟩ := hrel
    cases gk with
    | zero =>
      obtain rfl : i = size := by have := HK.out; omega
      go_wp2
      go_ret
      exact ⟨rfl, HB.out, HR.out⟩
    | succ k1 =>
      have hi : i < size := by have := HK.out; omega
      have hlt : x + off + i < cap := by have := HIN.out; have := HM.out.le; omega
      have hc : wr.cell? ⟨b, x + off + i, none⟩ = some (.int .u8 (storeG g (x + off) i v (x + off + i))) := HR.out.row.cell hlt
      have hf : wr.frozen? ⟨b, x + off + i, none⟩ = false := HR.out.row.frozen _
      go_wp2
      go_roundg k1
      case rel =>
        refine ⟨i + 1, by simp, ⟨by have := HK.out; omega⟩, ⟨HB.out.setCell hB _⟩, ⟨(HR.out.store _ _).congr (fun j hj => ?_)⟩⟩
        simp only [storeG, stb]
        by_cases e : j = x + off + i
        · subst e
          rw [if_pos rfl, if_pos (by omega), show x + off + i - (x + off) = i by omega]
        · rw [if_neg e]
          by_cases e2 : x + off ≤ j ∧ j < x + off + i
          · rw [if_pos e2, if_pos (by omega)]
          · rw [if_neg e2, if_neg (by omega)]
      case measure => exact Nat.lt_succ_self _
set_option maxHeartbeats 4000000 in
set_option maxRecDepth 100000 in
theorem store_no (p b len cap x off : Nat) (size most v : Int) (g : Nat → Int) (w : World) (h : IsMem w p b len cap most g) (hx : x < 18446744073709551616) (ho : off < 18446744073709551616) (hn : ¬ ((size = 1 ∨ size = 2 ∨ size = 4 ∨ size = 8) ∧ ((x + off : Nat) : Int) + size ≤ len)) :
    Calls Try.prog 7 #[.pointer (some ⟨p, 0, none⟩), .int .u64 x, .int .u64 off, .int .i64 size, .int .u64 v] w fun e w' => e = .returned (.bool false) ∧ w' = w := by
  have S := Aside0.mk (span_no p b len cap x off size most g w h hx ho hn)
  clear h hx ho hn
  go_enter Try.func7, Try.ntmps7
  go_wp2_with fail
  refine S.out.mono ?_
  rintro e w2 ⟨rfl, hw⟩
  obtain rfl := hw.symm
  go_wp2_with fail
  refine wp_loop_rounds 1 ?_
  rw [rounds_succ]
  go_wp2
  go_ret
  exact ⟨rfl, rfl⟩
end Go.Proofs.Ytocjneilaabnnaa.M
