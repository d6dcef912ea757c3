/- The library's Contains, Reverse, Min and Sort at []int, off the shelf, over rows of the call's own. -/
import Derived.Test.YtaklfdlcedlmfaaProg
import Derived.WalkKit
import Derived.Shelf.Slices.Turned
import Derived.Shelf.Slices.Cells
import Derived.Shelf.Slices.In.SortNone
import Derived.Shelf.Sort.Plain
import Derived.Lib.SortBridge
import Derived.Test.YtaklfdlcedlmfaaWWords
namespace Go.Proofs
open Go.Shelf
def Try.lays107_ren : Go.Shelf.Ren := ⟨fun | 107 => 21 | 108 => 34 | n => n, fun | 28 => 33 | 3 => 3 | 4 => 4 | 0 => 0 | n => n, fun | n => n⟩
theorem Try.lays107 : Go.Proofs.Lays.n107 Try.prog Try.lays107_ren := {
  mixed := by kernel_rfl
  f107 := Try.func21.trans (congrArg some (by kernel_rfl))
  f108 := Try.func34.trans (congrArg some (by kernel_rfl))
  t0 := Try.underlying0
  a0 := Try.isAgg0
  z0 := Try.sizeOf0
  v0 := Try.zeroValue0
  t3 := Try.underlying3
  a3 := Try.isAgg3
  z3 := Try.sizeOf3
  v3 := Try.zeroValue3
  t4 := Try.underlying4
  a4 := Try.isAgg4
  z4 := Try.sizeOf4
  v4 := Try.zeroValue4
  t28 := Try.underlying33
  a28 := Try.isAgg33
  z28 := Try.sizeOf33
  v28 := Try.zeroValue33 }
def Try.lays114_ren : Go.Shelf.Ren := ⟨fun | 114 => 12 | n => n, fun | 28 => 33 | 3 => 3 | 4 => 4 | 9 => 9 | 20 => 20 | 0 => 0 | n => n, fun | n => n⟩
theorem Try.lays114 : Go.Proofs.Lays.n114 Try.prog Try.lays114_ren := {
  mixed := by kernel_rfl
  f114 := Try.func12.trans (congrArg some (by kernel_rfl))
  t0 := Try.underlying0
  a0 := Try.isAgg0
  z0 := Try.sizeOf0
  v0 := Try.zeroValue0
  t3 := Try.underlying3
  a3 := Try.isAgg3
  z3 := Try.sizeOf3
  v3 := Try.zeroValue3
  t4 := Try.underlying4
  a4 := Try.isAgg4
  z4 := Try.sizeOf4
  v4 := Try.zeroValue4
  t9 := Try.underlying9
  a9 := Try.isAgg9
  z9 := Try.sizeOf9
  v9 := Try.zeroValue9
  t20 := Try.underlying20
  a20 := Try.isAgg20
  z20 := Try.sizeOf20
  v20 := Try.zeroValue20
  t28 := Try.underlying33
  a28 := Try.isAgg33
  z28 := Try.sizeOf33
  v28 := Try.zeroValue33 }
def Try.lays112_ren : Go.Shelf.Ren := ⟨fun | 112 => 20 | n => n, fun | 28 => 33 | 3 => 3 | 4 => 4 | 0 => 0 | n => n, fun | n => n⟩
theorem Try.lays112 : Go.Proofs.Lays.n112 Try.prog Try.lays112_ren := {
  mixed := by kernel_rfl
  f112 := Try.func20.trans (congrArg some (by kernel_rfl))
  t0 := Try.underlying0
  a0 := Try.isAgg0
  z0 := Try.sizeOf0
  v0 := Try.zeroValue0
  t3 := Try.underlying3
  a3 := Try.isAgg3
  z3 := Try.sizeOf3
  v3 := Try.zeroValue3
  t4 := Try.underlying4
  a4 := Try.isAgg4
  z4 := Try.sizeOf4
  v4 := Try.zeroValue4
  t28 := Try.underlying33
  a28 := Try.isAgg33
  z28 := Try.sizeOf33
  v28 := Try.zeroValue33 }
def Try.lays189_ren : Go.Shelf.Ren := ⟨fun | 189 => 10 | 125 => 19 | 257 => 18 | 128 => 32 | 129 => 33 | 294 => 23 | 295 => 24 | 296 => 25 | 297 => 26 | 298 => 27 | 299 => 28 | 216 => 29 | 300 => 30 | 301 => 31 | 328 => 35 | 329 => 36 | 330 => 37 | 331 => 38 | 332 => 39 | 215 => 40 | 343 => 41 | n => n, fun | 28 => 33 | 3 => 3 | 46 => 22 | 0 => 0 | 51 => 68 | 53 => 35 | 4 => 4 | 183 => 62 | 182 => 61 | 131 => 57 | 5 => 5 | 9 => 9 | 218 => 71 | 222 => 75 | 228 => 77 | 229 => 78 | n => n, fun | n => n⟩
theorem Try.lays189 : Go.Proofs.Lays.n189 Try.prog Try.lays189_ren := {
  mixed := by kernel_rfl
  f125 := Try.func19.trans (congrArg some (by kernel_rfl))
  f128 := Try.func32.trans (congrArg some (by kernel_rfl))
  f129 := Try.func33.trans (congrArg some (by kernel_rfl))
  f189 := Try.func10.trans (congrArg some (by kernel_rfl))
  f215 := Try.func40.trans (congrArg some (by kernel_rfl))
  f216 := Try.func29.trans (congrArg some (by kernel_rfl))
  f257 := Try.func18.trans (congrArg some (by kernel_rfl))
  f294 := Try.func23.trans (congrArg some (by kernel_rfl))
  f295 := Try.func24.trans (congrArg some (by kernel_rfl))
  f296 := Try.func25.trans (congrArg some (by kernel_rfl))
  f297 := Try.func26.trans (congrArg some (by kernel_rfl))
  f298 := Try.func27.trans (congrArg some (by kernel_rfl))
  f299 := Try.func28.trans (congrArg some (by kernel_rfl))
  f300 := Try.func30.trans (congrArg some (by kernel_rfl))
  f301 := Try.func31.trans (congrArg some (by kernel_rfl))
  f328 := Try.func35.trans (congrArg some (by kernel_rfl))
  f329 := Try.func36.trans (congrArg some (by kernel_rfl))
  f330 := Try.func37.trans (congrArg some (by kernel_rfl))
  f331 := Try.func38.trans (congrArg some (by kernel_rfl))
  f332 := Try.func39.trans (congrArg some (by kernel_rfl))
  f343 := Try.func41.trans (congrArg some (by kernel_rfl))
  t0 := Try.underlying0
  a0 := Try.isAgg0
  z0 := Try.sizeOf0
  v0 := Try.zeroValue0
  t3 := Try.underlying3
  a3 := Try.isAgg3
  z3 := Try.sizeOf3
  v3 := Try.zeroValue3
  t4 := Try.underlying4
  a4 := Try.isAgg4
  z4 := Try.sizeOf4
  v4 := Try.zeroValue4
  t5 := Try.underlying5
  a5 := Try.isAgg5
  z5 := Try.sizeOf5
  v5 := Try.zeroValue5
  t9 := Try.underlying9
  a9 := Try.isAgg9
  z9 := Try.sizeOf9
  v9 := Try.zeroValue9
  t28 := Try.underlying33
  a28 := Try.isAgg33
  z28 := Try.sizeOf33
  v28 := Try.zeroValue33
  t46 := Try.underlying22
  a46 := Try.isAgg22
  z46 := Try.sizeOf22
  v46 := Try.zeroValue22
  t51 := Try.underlying68
  a51 := Try.isAgg68
  z51 := Try.sizeOf68
  v51 := Try.zeroValue68
  t53 := Try.underlying35
  a53 := Try.isAgg35
  z53 := Try.sizeOf35
  v53 := Try.zeroValue35
  t131 := Try.underlying57
  a131 := Try.isAgg57
  z131 := Try.sizeOf57
  v131 := Try.zeroValue57
  t182 := Try.underlying61
  a182 := Try.isAgg61
  z182 := Try.sizeOf61
  v182 := Try.zeroValue61
  t183 := Try.underlying62
  a183 := Try.isAgg62
  z183 := Try.sizeOf62
  v183 := Try.zeroValue62
  t218 := Try.underlying71
  a218 := Try.isAgg71
  z218 := Try.sizeOf71
  v218 := Try.zeroValue71
  t222 := Try.underlying75
  a222 := Try.isAgg75
  z222 := Try.sizeOf75
  v222 := Try.zeroValue75
  t228 := Try.underlying77
  a228 := Try.isAgg77
  z228 := Try.sizeOf77
  v228 := Try.zeroValue77
  t229 := Try.underlying78
  a229 := Try.isAgg78
  z229 := Try.sizeOf78
  v229 := Try.zeroValue78 }
end Go.Proofs
namespace Go.Proofs.Ytaklfdlcedlmfaa.Sh
open Go Go.RowKit Go.Shelf Go.Sort Go.Proofs.YtaklfdlcedlmfaaW.PrintWords
set_option linter.unusedVariables false
abbrev I := Kd.int .i64
/-- A row of ints of the call's own: nil, or a block. -/
theorem R_open {w : World} {base : Nat} {ok : Nat → Prop} {v : Value} {xs : List Int} (h : I.R 3 w base ok v xs) :
    (v = .slice none 0 0 ∧ xs = []) ∨ ∃ g cap, v = .slice (some ⟨g, 0, none⟩) xs.length cap ∧ base ≤ g ∧ ok g ∧ g < w.heap.size ∧ xs.length ≤ cap ∧ xs.length ≤ 9223372036854775807 ∧ ∀ j, j < xs.length → w.cell? ⟨g, j, none⟩ = some (.int .i64 (xs.getD j 0)) ∧ w.frozen? ⟨g, j, none⟩ = false := by
  have ho := Kd.own_of_R (enc := Value.int .i64) (h1 := fun _ => rfl) h
  rcases ho.2 with ⟨rfl, h0⟩ | ⟨g, cap, cur, rfl, hg, hh, hle, hmax, hsz, hcur⟩
  · exact .inl ⟨rfl, List.eq_nil_of_length_eq_zero h0⟩
  · refine .inr ⟨g, cap, rfl, hg, h.1 g rfl, ?_, hle, Nat.le_trans hle (Nat.le_trans hmax (by unfold maxLen; decide)), fun j hj => ?_⟩
    · rcases Nat.lt_or_ge g w.heap.size with h | h
      · exact h
      · rw [Array.getElem?_eq_none h] at hh; cases hh
    · have hc := Kd.R_cell (enc := Value.int .i64) (h1 := fun _ => rfl) (0 : Int) h (j : Int) (by omega) (by omega)
      rw [Int.toNat_natCast] at hc
      simpa [rdOf] using hc
theorem R_puts {base g cap : Nat} {ok : Nat → Prop} : ∀ (ys : List Int) (off : Nat) (xs : List Int) (w : World), off + ys.length ≤ xs.length → I.R 3 w base ok (.slice (some ⟨g, 0, none⟩) xs.length cap) xs →
    I.R 3 (w.setCells g off (ys.map (Value.int .i64))) base ok (.slice (some ⟨g, 0, none⟩) xs.length cap) (xs.take off ++ ys ++ xs.drop (off + ys.length))
  | [], off, xs, w, h, hr => by simpa [World.setCells] using hr
  | y :: ys, off, xs, w, h, hr => by
    rw [List.map_cons, World.setCells]
    have h1 := (Kd.R_put (enc := Value.int .i64) (h1 := fun _ => rfl) hr (off : Int) y).1
    rw [Int.toNat_natCast] at h1
    have hl : (xs.set off y).length = xs.length := List.length_set
    have h2 := R_puts ys (off + 1) (xs.set off y) (w.setCell ⟨g, off, none⟩ (.int .i64 y)) (by rw [hl]; simp at h; omega) (by rw [hl]; exact h1)
    rw [hl] at h2
    have e : (xs.set off y).take (off + 1) ++ ys ++ (xs.set off y).drop (off + 1 + ys.length) = xs.take off ++ (y :: ys) ++ xs.drop (off + (y :: ys).length) := by
      simp at h
      rw [List.take_add_one, List.getElem?_set_self (by omega), List.drop_set_of_lt (by omega), List.take_set_of_le (Nat.le_refl _)]
      simp [Nat.add_comm, Nat.add_left_comm]
    rw [e] at h2
    exact h2
theorem setCells_below {w0 : World} {g : Nat} : ∀ (vs : List Value) (off : Nat) (w : World), Below w0.heap.size w0 w → w0.heap.size ≤ g → Below w0.heap.size w0 (w.setCells g off vs)
  | [], _, _, h, _ => h
  | _ :: vs, off, w, h, hg => setCells_below vs (off + 1) _ (below_set h hg) hg
theorem setCells_other {g b : Nat} (hne : b ≠ g) : ∀ (vs : List Value) (off : Nat) (w : World), (w.setCells g off vs).heap[b]? = w.heap[b]?
  | [], _, _ => rfl
  | _ :: vs, off, w => (setCells_other hne vs (off + 1) _).trans (Below.heap_setCell _ _ _ _ hne)
theorem setCells_size {g : Nat} : ∀ (vs : List Value) (off : Nat) (w : World), (w.setCells g off vs).heap.size = w.heap.size
  | [], _, _ => rfl
  | _ :: vs, off, w => (setCells_size vs (off + 1) _).trans (by simp [World.setCell])
theorem contains (w : World) (base : Nat) (ok : Nat → Prop) (v : Value) (xs : List Int) (x : Int) (h : I.R 3 w base ok v xs) :
    Calls Try.prog 21 #[v, .int .i64 x] w fun e w' => e = .returned (.bool (xs.contains x)) ∧ w' = w := by
  rcases R_open h with ⟨rfl, rfl⟩ | ⟨g, cap, rfl, _, _, _, hc, hm, hx⟩
  · exact Any.slices_Contains_int_empty Try.lays107 none 0 x w
  · have h := Any.slices_Contains_int Try.lays107 g 0 xs.length cap xs x w (Nat.le_refl _) (by omega) (fun j hj => by rw [Nat.zero_add]; exact (hx j hj).1)
    rw [List.take_length] at h
    exact h
theorem min (w : World) (base : Nat) (ok : Nat → Prop) (v : Value) (xs : List Int) (hne : xs ≠ []) (h : I.R 3 w base ok v xs) :
    Calls Try.prog 12 #[v] w fun e w' => e = .returned (.int .i64 (Lib.minOf xs)) ∧ w' = w := by
  rcases R_open h with ⟨rfl, rfl⟩ | ⟨g, cap, rfl, _, _, _, hc, hm, hx⟩
  · exact absurd rfl hne
  · have h := Any.slices_Min_int Try.lays114 g 0 xs.length cap xs w (by cases xs; exact absurd rfl hne; simp) (Nat.le_refl _) (by omega) (fun j hj => by rw [Nat.zero_add]; exact (hx j hj).1)
    rw [List.take_length] at h
    exact h
/-- Reverse at all but the first. -/
theorem reverse1 (w : World) (base g cap c : Nat) (ok : Nat → Prop) (x : Int) (xs : List Int) (h : I.R 3 w base ok (.slice (some ⟨g, 0, none⟩) (x :: xs).length cap) (x :: xs)) :
    Calls Try.prog 20 #[.slice (some ⟨g, 1, none⟩) xs.length c] w fun e w' => e = .returned (.tuple #[]) ∧ I.R 3 w' base ok (.slice (some ⟨g, 0, none⟩) (x :: xs).length cap) (x :: xs.reverse) ∧ (∀ w0 : World, Below w0.heap.size w0 w → w0.heap.size ≤ g → Below w0.heap.size w0 w') := by
  rcases R_open h with ⟨hv, _⟩ | ⟨g', cap', hv, _, _, _, hc, hm, hx⟩
  · cases hv
  · injection hv with e1 e2 e3
    injection e1 with e1
    injection e1 with e1
    subst e1 e3
    refine (Any.slices_Reverse_int_cells Try.lays112 g 1 xs.length c xs w (Nat.le_refl _) (by simp at hm; omega) (fun j hj => ?_) (fun j hj => ?_)).mono ?_
    · have h2 := (hx (j + 1) (by simp; omega)).1
      rw [Nat.add_comm 1 j, h2]
      simp
    · have h2 := (hx (j + 1) (by simp; omega)).2
      rw [Nat.add_comm 1 j, h2]
    · rintro e w' ⟨rfl, q, rfl⟩
      refine ⟨rfl, ?_, fun w0 hb hg => setCells_below _ _ _ (pw_below_drewN hb q) hg⟩
      have h3 := R_puts (g := g) (cap := cap) xs.reverse 1 (x :: xs) (w.drewN q) (by simp; omega) (Kd.R_drewN h q)
      rw [List.take_length]
      have e3 : (x :: xs).take 1 ++ xs.reverse ++ (x :: xs).drop (1 + xs.reverse.length) = x :: xs.reverse := by rw [List.length_reverse, List.drop_of_length_le (by simp; omega)]; simp
      rw [e3] at h3
      exact h3
def leI (x y : Int) : Bool := decide (x ≤ y)
theorem sort (w : World) (base : Nat) (ok : Nat → Prop) (v : Value) (xs : List Int) (h : I.R 3 w base ok v xs) (hn : xs.length < 4611686018427387904) :
    Calls Try.prog 10 #[v] w fun e w' => e = .returned (.tuple #[]) ∧ I.R 3 w' base ok v (xs.mergeSort leI) ∧ (∀ w0 : World, Below w0.heap.size w0 w → w0.heap.size ≤ base → Below w0.heap.size w0 w') ∧ (∀ b, b < w.heap.size → some b ≠ v.ownBlock → w'.heap[b]? = w.heap[b]?) := by
  rcases R_open h with ⟨rfl, rfl⟩ | ⟨g, cap, rfl, hbg, _, hgl, hc, hm, hx⟩
  · refine (Any.slices_Sort_int_none Try.lays189 none 0 w).mono ?_
    rintro e w' ⟨rfl, rfl⟩
    exact ⟨rfl, by simpa using h, fun w0 hb _ => hb, fun b _ _ => rfl⟩
  · have hH := Lib.holds_of_ints (w := w) (b := g) (off := 0) (n := xs.length) (zs := xs) (Nat.le_refl _) (fun j hj => by rw [Nat.zero_add]; exact (hx j hj).1) (fun j hj => by rw [Nat.zero_add]; exact (hx j hj).2)
    rw [List.take_length] at hH
    refine (Any.slices_Sort_int Try.lays189 g 0 cap xs w hH hgl (by omega)).mono ?_
    rintro e w' ⟨rfl, q, os, rfl⟩
    rw [Lib.sorted_world _ w g 0 q _ _ os hH (by simp)]
    rw [show (fun x y : Int => decide (x ≤ y)) = leI from rfl]
    have h3 := R_puts (g := g) (cap := cap) (xs.mergeSort leI) 0 xs (w.drewN q) (by simp) (Kd.R_drewN h q)
    have e2 : xs.take 0 ++ xs.mergeSort leI ++ xs.drop (0 + (xs.mergeSort leI).length) = xs.mergeSort leI := by simp
    rw [e2] at h3
    refine ⟨rfl, Kd.R_step h3 (fun k _ hk => heap_grow_old _ os hk), fun w0 hb hg => ?_, fun b hb hne => ?_⟩
    · have hb2 := setCells_below (g := g) ((xs.mergeSort leI).map (Value.int .i64)) 0 (w.drewN q) (pw_below_drewN hb q) (by omega)
      exact ⟨hb2.os, hb2.tape, hb2.output, Nat.le_trans hb2.size (by simp [grow]), fun k hk => (heap_grow_old _ os (Nat.lt_of_lt_of_le hk hb2.size)).trans (hb2.block k hk)⟩
    · have hne2 : b ≠ g := fun e => hne (by rw [e]; rfl)
      rw [heap_grow_old _ os (by rw [setCells_size]; exact hb), setCells_other hne2]
      rfl
end Go.Proofs.Ytaklfdlcedlmfaa.Sh
