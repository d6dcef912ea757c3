/- slices.ContainsFunc at Plan's closure: does any move touch the place that is one more? -/
import Derived.Shelf.SlicesQ.IndexFunc
import Derived.Lib.SliceRun
import Derived.Test.YtaklfdlcedlmfaaDoorTurn
namespace Go.Proofs
open Go.Shelf Go.RowKit Go.Lib
def Tryd.l8_ren : Go.Shelf.Ren := ⟨fun | 8 => 17 | 6 => 27 | n => n, fun | 22 => 24 | 23 => 46 | 25 => 49 | 4 => 4 | 3 => 3 | 0 => 0 | n => n, fun | n => n⟩
theorem Tryd.l8 : Go.Proofs.SlLaysH0.n8 Tryd.prog Tryd.l8_ren := {
  mixed := by kernel_rfl
  f6 := ⟨Tryd.f27.name, by decide, Tryd.func27.trans (congrArg some (by kernel_rfl))⟩
  f8 := ⟨Tryd.f17.name, by decide, Tryd.func17.trans (congrArg some (by kernel_rfl))⟩
  t0 := Tryd.underlying0
  a0 := Tryd.isAgg0
  z0 := Tryd.sizeOf0
  v0 := Tryd.zeroValue0
  t3 := Tryd.underlying3
  a3 := Tryd.isAgg3
  z3 := Tryd.sizeOf3
  v3 := Tryd.zeroValue3
  t4 := Tryd.underlying4
  a4 := Tryd.isAgg4
  z4 := Tryd.sizeOf4
  v4 := Tryd.zeroValue4
  t22 := Tryd.underlying24
  a22 := Tryd.isAgg24
  z22 := Tryd.sizeOf24
  v22 := Tryd.zeroValue24
  t25 := Tryd.underlying49
  a25 := Tryd.isAgg49
  z25 := Tryd.sizeOf49
  v25 := Tryd.zeroValue49 }
end Go.Proofs
namespace Go.Proofs.YtaklfdlcedlmfaaDoor.XM
open Go.Shelf Go.RowKit Go.Lib Go.Proofs.YtaklfdlcedlmfaaDoorW.PrintWords
set_option linter.unusedVariables false
set_option linter.unusedSimpArgs false
instance : Inhabited Mv := ⟨⟨0, 0⟩⟩
def encMv (m : Mv) : List Value := [.int .i64 m.f0, .int .i64 m.f1]
def hits (temp : Int) (m : Mv) : Bool := decide (m.f0 = temp) || decide (m.f1 = temp)
theorem pred (temp : Int) (tp : Nat) (w : World) (hB : tp < w.heap.size) (hcell : w.cell? ⟨tp, 0, none⟩ = some (.int .i64 temp)) :
    PredBelow Tryd.prog 18 #[.pointer (some ⟨tp, 0, none⟩)] (fun x => .agg (encMv x).toArray) (hits temp) w := fun W x hb => by
  have hc : W.cell? ⟨tp, 0, none⟩ = some (.int .i64 temp) := (hb.cell (p := ⟨tp, 0, none⟩) hB).trans hcell
  have hBW : tp < W.heap.size := Nat.lt_of_lt_of_le hB hb.size
  have hne : tp ≠ W.heap.size := by omega
  show Calls Tryd.prog 18 #[.agg #[.int .i64 x.f0, .int .i64 x.f1], .pointer (some ⟨tp, 0, none⟩)] W _
  by_cases h0 : x.f0 = temp
  · have h0b : (x.f0 == temp) = true := by simp [h0]
    have hr : hits temp x = true := by simp [hits, h0]
    rw [hr]
    clear h0 hr
    go_enter Tryd.func18, Tryd.ntmps18
    go_wp2
    go_ret
    exact ⟨rfl, hb.alloc hb.size _⟩
  · have h0b : (x.f0 == temp) = false := by simp [h0]
    have hr : hits temp x = (x.f1 == temp) := by
      rw [hits, decide_eq_false h0]
      by_cases h1 : x.f1 = temp <;> simp [h1]
    rw [hr]
    clear h0 hr
    go_enter Tryd.func18, Tryd.ntmps18
    go_wp2
    go_ret
    exact ⟨rfl, hb.alloc hb.size _⟩
theorem idx_none (A0 : Option Addr) (c0 : Nat) (v : Value) (w : World) :
    Calls Tryd.prog 27 #[.slice A0 0 c0, v] w fun e w' => e = .returned (.int .i64 (-1)) ∧ w' = w := by
  go_enter Tryd.func27, Tryd.ntmps27
  go_wp2
  go_loopg [8] 0 (fun kq v8 w' => v8 = .int .i64 0 ∧ w' = w)
  case atStart => exact ⟨rfl, rfl⟩
  case round =>
    obtain ⟨rfl, rfl⟩ := hrel
    go_wp2
    go_ret
    exact ⟨rfl, rfl⟩
theorem hit_none (A0 : Option Addr) (c0 : Nat) (v : Value) (w : World) :
    Calls Tryd.prog 17 #[.slice A0 0 c0, v] w fun e w' => e = .returned (.bool false) ∧ w' = w := by
  have C := Aside0.mk (idx_none A0 c0 v w)
  go_enter Tryd.func17, Tryd.ntmps17
  go_wp2_with (go_at_call 27; refine C.out.mono ?_; rintro e w2 ⟨rfl, rfl⟩)
  go_ret
  exact ⟨rfl, rfl⟩
theorem hit.calls (temp : Int) (tp : Nat) (A0 : Option Addr) (c0 : Nat) (l0 : List Mv) (w : World) (hr0 : Kd.C k46 w A0 l0.length l0) (hn0 : l0.length < 1000000000) (hB : tp < w.heap.size) (hcell : w.cell? ⟨tp, 0, none⟩ = some (.int .i64 temp)) :
    Calls Tryd.prog 17 #[.slice A0 l0.length c0, .func (.func 18) #[] #[.pointer (some ⟨tp, 0, none⟩)]] w fun e w' => e = .returned (.bool (l0.any (hits temp))) ∧ Below w.heap.size w w' := by
  rcases l0 with _ | ⟨m0, ms⟩
  · refine (hit_none A0 c0 _ w).mono ?_
    rintro e w' ⟨rfl, rfl⟩
    exact ⟨rfl, Below.refl _ _⟩
  obtain ⟨l0, hl⟩ : ∃ l, l = m0 :: ms := ⟨_, rfl⟩
  have hpos : 0 < l0.length := by rw [hl]; simp
  rw [← hl] at hr0 hn0 ⊢
  clear hl
  have eg : ∀ args w, (callFunc 18 args).run Tryd.prog w = .ok (.enter 18 args) w := enters_of Tryd.func18 (by kernel_rfl) rfl
  obtain ⟨ad, e1, h00, _⟩ := at_T46 hr0 0 (by omega) (by omega)
  subst e1
  have had : ad.add 0 = ad := by unfold Addr.add; rw [if_pos rfl]
  rw [show (0 : Int).toNat * 2 = 0 from rfl, had] at h00
  obtain ⟨b, off, spot⟩ := ad
  have hspot : spot = none := by
    cases spot with
    | none => rfl
    | some s =>
      unfold World.cell? at h00
      simp at h00
      split at h00 <;> simp at h00
  subst hspot
  have hb : b < w.heap.size := World.block_lt_of_cell? w _ h00
  have hadd : ∀ k, (⟨b, off, none⟩ : Addr).add k = ⟨b, off + k, none⟩ := fun k => by unfold Addr.add; split <;> simp_all
  have hcon := AnyQ.slices_ContainsFunc Tryd.l8 2 Tryd.isAgg46 Tryd.sizeOf46 encMv (fun _ => rfl) (hits temp) 18 #[.pointer (some ⟨tp, 0, none⟩)] eg b off l0.length c0 l0 w (pred temp tp w hB hcell) (Nat.le_refl _) (by omega) hb (fun j hj i v hi => by
    obtain ⟨ad2, e2, g0, g1⟩ := at_T46 hr0 (j : Int) (by omega) (by omega)
    cases e2
    rw [Int.toNat_natCast, hadd] at g0 g1
    have hz : rd_T46 l0 (j : Int) = l0[j]! := by
      unfold rd_T46
      rw [Int.toNat_natCast, List.getD_eq_getElem?_getD, List.getElem?_eq_getElem hj, getElem!_pos l0 j hj]
      rfl
    rw [hz] at g0 g1
    match i, hi with
    | 0, hi => have hv : some (Value.int .i64 (l0[j]!).f0) = some v := hi; rw [← Option.some.inj hv]; exact g0
    | 1, hi => have hv : some (Value.int .i64 (l0[j]!).f1) = some v := hi; rw [← Option.some.inj hv]; exact g1
    | i + 2, hi => simp [encMv] at hi)
  rw [List.take_length] at hcon
  exact hcon
end Go.Proofs.YtaklfdlcedlmfaaDoor.XM
