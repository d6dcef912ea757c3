/- The scanner: what it holds. -/
import Derived.Test.YtolhijnkgkfjgaaHeap3
import Derived.Test.YtolhijnkgkfjgaaXCx2
namespace Go.Proofs.Ytolhijnkgkfjgaa.XC
open Go.RowKit Go.Proofs.YtolhijnkgkfjgaaW.PrintWords Go.Proofs.YtolhijnkgkfjgaaW.PrintLast Go.Proofs.YtolhijnkgkfjgaaW.PrintMore
set_option linter.unusedVariables false
set_option linter.unusedSimpArgs false
abbrev nilS : Value := .slice none 0 0
def vAt (vs : List Value) (r : Nat) : Value := vs.getD r nilS
def rAt (ins : List (List Int)) (r : Nat) : List Int := ins.getD r []
/-- The scanner's blocks: its own, the registers' row, the rows in it, the places' row. -/
structure SC (w : World) (B p gi k : Nat) (va : Value) (A : Option Addr) (n c : Nat) (vs : List Value) (ins : List (List Int)) (at_ : List Int) : Prop where
  hp : w.heap[p]? = some (.cells #[.slice A n c, .slice (some ⟨gi, 0, none⟩) k k, va] 53 (0, 0))
  hin : w.heap[gi]? = some (.cells vs.toArray 29 (0, 0))
  hk : vs.length = k
  hki : ins.length = k
  hat : RI w B va at_
  hrow : ∀ r, r < k → RI w B (vAt vs r) (rAt ins r)
  hap : ∀ r r' b, r < k → r' < k → r ≠ r' → (vAt vs r).ownBlock = some b → (vAt vs r').ownBlock ≠ some b
  haa : ∀ r b, r < k → (vAt vs r).ownBlock = some b → va.ownBlock ≠ some b
  hB : B ≤ gi
/-- What the scanner's calls write. -/
def SK (gi k : Nat) (va : Value) (vs : List Value) : Nat → Prop := fun b => b = gi ∨ va.ownBlock = some b ∨ ∃ r, r < k ∧ (vAt vs r).ownBlock = some b
section
variable {w w' : World} {B p gi k n c : Nat} {va : Value} {A : Option Addr} {vs : List Value} {ins : List (List Int)} {at_ : List Int}
theorem SC.ltp (h : SC w B p gi k va A n c vs ins at_) : p < w.heap.size := blk_lt h.hp
theorem SC.ltg (h : SC w B p gi k va A n c vs ins at_) : gi < w.heap.size := blk_lt h.hin
theorem SC.ne (h : SC w B p gi k va A n c vs ins at_) : p ≠ gi := fun e => by
  have h1 := h.hp
  rw [e, h.hin] at h1
  injection h1 with h1
  injection h1 with _ h1
  exact absurd h1 (by decide)
theorem SC.nepv {v : Value} {xs : List Int} (h : SC w B p gi k va A n c vs ins at_) {B' : Nat} (hv : RI w B' v xs) : some p ≠ v.ownBlock := Kd.R_ne hv h.hp (by decide)
theorem SC.negv {v : Value} {xs : List Int} (h : SC w B p gi k va A n c vs ins at_) {B' : Nat} (hv : RI w B' v xs) : some gi ≠ v.ownBlock := Kd.R_ne hv h.hin (by decide)
theorem RI.kept {v : Value} {xs : List Int} (h : RI w B v xs) {S : Nat → Prop} (hk : Kept w w' S) (hne : ∀ b, v.ownBlock = some b → ¬ S b) : RI w' B v xs :=
  Kd.R_mono (Kd.R_kept (Kd.R_tight rfl h) hk (fun b hb => hne b hb.symm)) (fun _ _ => trivial)
/-- It stays where nothing of its own is written. -/
theorem SC.kept (h : SC w B p gi k va A n c vs ins at_) {S : Nat → Prop} (hk : Kept w w' S) (hp : ¬ S p) (hS : ∀ b, SK gi k va vs b → ¬ S b) : SC w' B p gi k va A n c vs ins at_ :=
  ⟨(hk.2 p h.ltp hp).trans h.hp, (hk.2 gi h.ltg (hS gi (.inl rfl))).trans h.hin, h.hk, h.hki, h.hat.kept hk (fun b hb => hS b (.inr (.inl hb))), fun r hr => (h.hrow r hr).kept hk (fun b hb => hS b (.inr (.inr ⟨r, hr, hb⟩))), h.hap, h.haa, h.hB⟩
theorem SC.below (h : SC w B p gi k va A n c vs ins at_) (hb : Below w.heap.size w w') : SC w' B p gi k va A n c vs ins at_ := h.kept (Kept.of_below hb (fun _ => False)) id (fun _ _ => id)
theorem SC.drewN (h : SC w B p gi k va A n c vs ins at_) (m : Nat) : SC (w.drewN m) B p gi k va A n c vs ins at_ := h.below (pw_below_drewN (Below.refl _ _) m)
theorem SC.drew (h : SC w B p gi k va A n c vs ins at_) : SC w.drew B p gi k va A n c vs ins at_ := h.below (below_drew (Below.refl _ _))
theorem SC.c0 (h : SC w B p gi k va A n c vs ins at_) : w.cell? ⟨p, 0, none⟩ = some (.slice A n c) := (blk_cell h.hp 0).trans rfl
theorem SC.c1 (h : SC w B p gi k va A n c vs ins at_) : w.cell? ⟨p, 1, none⟩ = some (.slice (some ⟨gi, 0, none⟩) k k) := (blk_cell h.hp 1).trans rfl
theorem SC.c2 (h : SC w B p gi k va A n c vs ins at_) : w.cell? ⟨p, 2, none⟩ = some va := (blk_cell h.hp 2).trans rfl
theorem SC.cr (h : SC w B p gi k va A n c vs ins at_) {r : Nat} (hr : r < k) : w.cell? ⟨gi, r, none⟩ = some (vAt vs r) := by
  rw [blk_cell h.hin r, List.getElem?_toArray, List.getElem?_eq_getElem (by rw [h.hk]; exact hr)]
  unfold vAt
  rw [List.getD_eq_getElem?_getD, List.getElem?_eq_getElem (by rw [h.hk]; exact hr)]
  rfl
theorem SC.zr (h : SC w B p gi k va A n c vs ins at_) (r : Nat) : w.frozen? ⟨gi, r, none⟩ = false := blk_frozen h.hin r
theorem SC.SK_lt (h : SC w B p gi k va A n c vs ins at_) {b : Nat} (hb : SK gi k va vs b) : B ≤ b ∧ b < w.heap.size := by
  rcases hb with rfl | hb | ⟨r, hr, hb⟩
  · exact ⟨h.hB, h.ltg⟩
  · exact ⟨Kd.R_base h.hat b hb, Kd.R_lt h.hat b hb⟩
  · exact ⟨Kd.R_base (h.hrow r hr) b hb, Kd.R_lt (h.hrow r hr) b hb⟩
theorem SC.SK_nep (h : SC w B p gi k va A n c vs ins at_) : ¬ SK gi k va vs p := fun hb => by
  rcases hb with hb | hb | ⟨r, hr, hb⟩
  · exact h.ne hb
  · exact h.nepv h.hat hb.symm
  · exact h.nepv (h.hrow r hr) hb.symm
end
/-- Whether two meet, as the program says it, by one plain function. -/
def MeetIs (l : List Sp) (mt : Int → Int → Bool) : Prop := ∀ a b : Int, 0 ≤ a → a < (l.length : Int) → 0 ≤ b → b < (l.length : Int) → ∃ k, span_Meet.f k (rdS l a).f0 (rdS l a).f1 (rdS l b).f0 (rdS l b).f1 = some (mt a b)
def Good (l : List Sp) (ins : List (List Int)) : Prop := ∀ r o, o ∈ rAt ins r → 0 ≤ o ∧ o < (l.length : Int)
def meetsF (mt : Int → Int → Bool) (ins : List (List Int)) (r : Nat) (id : Int) : List Int := (rAt ins r).filter fun o => mt id o
end Go.Proofs.Ytolhijnkgkfjgaa.XC
