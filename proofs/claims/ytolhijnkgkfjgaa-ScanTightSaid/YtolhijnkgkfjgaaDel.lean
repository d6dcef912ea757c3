/- slices.DeleteFunc at out's closure: off the shelf, over a row of the call's own. -/
import Derived.Test.YtolhijnkgkfjgaaScan2
import Derived.WalkKit
import Derived.Shelf.SlicesE.DeleteFunc
import Derived.Lib.SliceRun
import Derived.Lib.SortBridge
namespace Go.Proofs
open Go.Shelf Go.RowKit Go.Lib Go.Sort
def Try.lDF_ren : Go.Shelf.Ren := ⟨fun | 10 => 41 | 6 => 43 | n => n, fun | 22 => 29 | 23 => 3 | 25 => 61 | 3 => 3 | 4 => 4 | 0 => 0 | n => n, fun | n => n⟩
theorem Try.lDF : Go.Proofs.SlLaysH.n10 Try.prog Try.lDF_ren := {
  mixed := by kernel_rfl
  f6 := ⟨Try.f43.name, by decide, Try.func43.trans (congrArg some (by kernel_rfl))⟩
  f10 := ⟨Try.f41.name, by decide, Try.func41.trans (congrArg some (by kernel_rfl))⟩
  t0 := Try.underlying0
  a0 := Try.isAgg0
  z0 := Try.sizeOf0
  v0 := Try.zeroValue0
  t3 := Try.underlying3
  a3 := Try.isAgg3
  z3 := Try.sizeOf3
  v3 := Try.zeroValue3
  t4 := Try.underlying4
  a4 := Try.isAgg4
  z4 := Try.sizeOf4
  v4 := Try.zeroValue4
  t22 := Try.underlying29
  a22 := Try.isAgg29
  z22 := Try.sizeOf29
  v22 := Try.zeroValue29
  a23 := Try.isAgg3
  z23 := Try.sizeOf3
  t25 := Try.underlying61
  a25 := Try.isAgg61
  z25 := Try.sizeOf61
  v25 := Try.zeroValue61 }
end Go.Proofs
namespace Go.Proofs.Ytolhijnkgkfjgaa.XC
open Go Go.RowKit Go.Shelf Go.Lib Go.Sort Go.Proofs.YtolhijnkgkfjgaaW.PrintWords
set_option linter.unusedVariables false
set_option linter.unusedSimpArgs false
/-- A row of ints of the call's own: nil, or a block. -/
theorem R_open {w : World} {base : Nat} {ok : Nat → Prop} {v : Value} {xs : List Int} (h : (Kd.int .i64).R 3 w base ok v xs) :
    (v = .slice none 0 0 ∧ xs = []) ∨ ∃ g cap, v = .slice (some ⟨g, 0, none⟩) xs.length cap ∧ base ≤ g ∧ ok g ∧ g < w.heap.size ∧ xs.length ≤ cap ∧ xs.length ≤ 9223372036854775807 ∧ ∀ j, j < xs.length → w.cell? ⟨g, j, none⟩ = some (.int .i64 (xs.getD j 0)) ∧ w.frozen? ⟨g, j, none⟩ = false := by
  have ho := Kd.own_of_R (enc := Value.int .i64) (h1 := fun _ => rfl) h
  rcases ho.2 with ⟨rfl, h0⟩ | ⟨g, cap, cur, rfl, hg, hh, hle, hmax, hsz, hcur⟩
  · exact .inl ⟨rfl, List.eq_nil_of_length_eq_zero h0⟩
  · refine .inr ⟨g, cap, rfl, hg, h.1 g rfl, ?_, hle, Nat.le_trans hle (Nat.le_trans hmax (by unfold maxLen; decide)), fun j hj => ?_⟩
    · rcases Nat.lt_or_ge g w.heap.size with h | h
      · exact h
      · rw [Array.getElem?_eq_none h] at hh; cases hh
    · have hc := Kd.R_cell (enc := Value.int .i64) (h1 := fun _ => rfl) (0 : Int) h (j : Int) (by omega) (by omega)
      rw [Int.toNat_natCast] at hc
      simpa [rdOf] using hc
theorem R_puts {base g cap : Nat} {ok : Nat → Prop} : ∀ (ys : List Int) (off : Nat) (xs : List Int) (w : World), off + ys.length ≤ xs.length → (Kd.int .i64).R 3 w base ok (.slice (some ⟨g, 0, none⟩) xs.length cap) xs →
    (Kd.int .i64).R 3 (w.setCells g off (ys.map (Value.int .i64))) base ok (.slice (some ⟨g, 0, none⟩) xs.length cap) (xs.take off ++ ys ++ xs.drop (off + ys.length))
  | [], off, xs, w, h, hr => by simpa [World.setCells] using hr
  | y :: ys, off, xs, w, h, hr => by
    rw [List.map_cons, World.setCells]
    have h1 := (Kd.R_put (enc := Value.int .i64) (h1 := fun _ => rfl) hr (off : Int) y).1
    rw [Int.toNat_natCast] at h1
    have hl : (xs.set off y).length = xs.length := List.length_set
    have h2 := R_puts ys (off + 1) (xs.set off y) (w.setCell ⟨g, off, none⟩ (.int .i64 y)) (by rw [hl]; simp at h; omega) (by rw [hl]; exact h1)
    rw [hl] at h2
    have e : (xs.set off y).take (off + 1) ++ ys ++ (xs.set off y).drop (off + 1 + ys.length) = xs.take off ++ (y :: ys) ++ xs.drop (off + (y :: ys).length) := by
      simp at h
      rw [List.take_add_one, List.getElem?_set_self (by omega), List.drop_set_of_lt (by omega), List.take_set_of_le (Nat.le_refl _)]
      simp [Nat.add_comm, Nat.add_left_comm]
    rw [e] at h2
    exact h2
theorem setCells_below {w0 : World} {g : Nat} : ∀ (vs : List Value) (off : Nat) (w : World), Below w0.heap.size w0 w → w0.heap.size ≤ g → Below w0.heap.size w0 (w.setCells g off vs)
  | [], _, _, h, _ => h
  | _ :: vs, off, w, h, hg => setCells_below vs (off + 1) _ (below_set h hg) hg
theorem setCells_other {g b : Nat} (hne : b ≠ g) : ∀ (vs : List Value) (off : Nat) (w : World), (w.setCells g off vs).heap[b]? = w.heap[b]?
  | [], _, _ => rfl
  | _ :: vs, off, w => (setCells_other hne vs (off + 1) _).trans (Below.heap_setCell _ _ _ _ hne)
theorem setCells_size {g : Nat} : ∀ (vs : List Value) (off : Nat) (w : World), (w.setCells g off vs).heap.size = w.heap.size
  | [], _, _ => rfl
  | _ :: vs, off, w => (setCells_size vs (off + 1) _).trans (by simp [World.setCell])

/-- out's closure, in whatever world holds the id. -/
theorem out_gives (id x : Int) (tp : Nat) (W : World) (hc : W.cell? ⟨tp, 0, none⟩ = some (.int .i64 id)) :
    FnGives Try.prog 42 #[.pointer (some ⟨tp, 0, none⟩)] #[.int .i64 x] (.bool (x == id)) W := by
  show Calls Try.prog 42 #[.int .i64 x, .pointer (some ⟨tp, 0, none⟩)] W _
  go_enter Try.func42, Try.ntmps42
  go_wp2
  all_goals (go_ret; exact ⟨by simp_all, 0, rfl⟩)
theorem zero_i (w : World) : (zeroValue 3).run Try.prog w = .ok (Value.int .i64 0) w := by kernel_rfl
def delF (row : List Int) (id : Int) : List Int := row.filter fun o => !(o == id)
theorem s_del (w : World) (B g cap : Nat) (row : List Int) (id : Int) (tp : Nat) (h : RI w B (.slice (some ⟨g, 0, none⟩) row.length cap) row) (htp : tp < w.heap.size) (hne : tp ≠ g) (hc : w.cell? ⟨tp, 0, none⟩ = some (.int .i64 id)) :
    Calls Try.prog 41 #[.slice (some ⟨g, 0, none⟩) row.length cap, .func (.func 42) #[] #[.pointer (some ⟨tp, 0, none⟩)]] w fun e w' => e = .returned (.slice (some ⟨g, 0, none⟩) (delF row id).length cap) ∧ RI w' B (.slice (some ⟨g, 0, none⟩) (delF row id).length cap) (delF row id) ∧ Kept w w' (fun b => b = g) ∧ (∀ w0 : World, Below w0.heap.size w0 w → w0.heap.size ≤ g → Below w0.heap.size w0 w') := by
  have eg : ∀ args w, (callFunc 42 args).run Try.prog w = .ok (.enter 42 args) w := enters_of Try.func42 (by kernel_rfl) rfl
  rcases R_open h with ⟨hv, _⟩ | ⟨g', cap', hv, _, _, hgl, hcp, hm, hx⟩
  · cases hv
  injection hv with e1 _ e3
  injection e1 with e1
  injection e1 with e1
  subst e1 e3
  have hH := Lib.holds_of_ints (w := w) (b := g) (off := 0) (n := row.length) (zs := row) (Nat.le_refl _) (fun j hj => by rw [Nat.zero_add]; exact (hx j hj).1) (fun j hj => by rw [Nat.zero_add]; exact (hx j hj).2)
  rw [List.take_length] at hH
  have hcon := AnyE.slices_DeleteFunc Try.lDF (Value.int .i64) (fun _ => rfl) (fun x => x == id) 42 #[.pointer (some ⟨tp, 0, none⟩)] eg 0 zero_i g 0 cap row.toArray w
    (fun W x hb => out_gives id x tp W ((hb.cell (p := ⟨tp, 0, none⟩) htp).trans hc))
    (fun n os dk x _ => out_gives id x tp _ (by
      unfold sortWorld
      rw [cell?_grow _ _ _ (by show tp < (putRow _ _ _ _ _).heap.size; rw [size_putRow]; exact htp), cell?_putRow_other _ _ g 0 _ _ (Or.inl hne)]
      exact hc)) hH (by simpa using hm) (by simpa using hcp)
  rw [show row.toArray.size = row.length by simp] at hcon
  refine hcon.mono ?_
  rintro e w' ⟨rfl, q, rfl⟩
  have hfl : (delF row id).length ≤ row.length := List.length_filter_le _ _
  obtain ⟨L, hL⟩ : ∃ L, L = delF row id ++ List.replicate (row.length - (delF row id).length) 0 := ⟨_, rfl⟩
  have hLl : L.length = row.length := by rw [hL, List.length_append, List.length_replicate]; omega
  have hw : putRow (Value.int .i64) (Sort.ahead w q) g 0 L.toArray = (w.drewN q).setCells g 0 (L.map (Value.int .i64)) := Lib.putRow_eq_setCells _ w g 0 _ _ q hH (by simp [hLl])
  have hLd : (row.toArray.toList.filter fun x => !(x == id)) = delF row id := by simp [delF]
  rw [hLd, ← hL, hw]
  have h3 := R_puts (g := g) (cap := cap) L 0 row (w.drewN q) (by omega) (Kd.R_drewN h q)
  have e2 : row.take 0 ++ L ++ row.drop (0 + L.length) = L := by rw [List.drop_of_length_le (by omega)]; simp
  rw [e2, ← hLl] at h3
  have h4 := Kd.R_take h3 (m := (delF row id).length) (by omega)
  rw [show L.take (delF row id).length = delF row id by rw [hL, List.take_left]] at h4
  refine ⟨rfl, h4, ⟨by rw [setCells_size]; exact Nat.le_refl _, fun i _ hi => setCells_other hi _ _ _⟩, fun w0 hb hg => setCells_below _ _ _ (pw_below_drewN hb q) hg⟩
end Go.Proofs.Ytolhijnkgkfjgaa.XC
