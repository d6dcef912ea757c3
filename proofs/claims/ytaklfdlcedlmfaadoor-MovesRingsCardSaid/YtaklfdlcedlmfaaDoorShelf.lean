/- The library's Contains, Reverse, Min and Sort at []int, off the shelf, over rows of the call's own. -/
import Derived.Test.YtaklfdlcedlmfaaDoorProg
import Derived.WalkKit
import Derived.Shelf.Slices.Turned
import Derived.Shelf.Slices.Cells
import Derived.Shelf.Slices.In.SortNone
import Derived.Shelf.Sort.Plain
import Derived.Lib.SortBridge
import Derived.Test.YtaklfdlcedlmfaaDoorWWords
namespace Go.Proofs
open Go.Shelf
def Tryd.lays107_ren : Go.Shelf.Ren := ⟨fun | 107 => 35 | 108 => 50 | n => n, fun | 28 => 45 | 3 => 3 | 4 => 4 | 0 => 0 | n => n, fun | n => n⟩
theorem Tryd.lays107 : Go.Proofs.Lays.n107 Tryd.prog Tryd.lays107_ren := {
  mixed := by kernel_rfl
  f107 := Tryd.func35.trans (congrArg some (by kernel_rfl))
  f108 := Tryd.func50.trans (congrArg some (by kernel_rfl))
  t0 := Tryd.underlying0
  a0 := Tryd.isAgg0
  z0 := Tryd.sizeOf0
  v0 := Tryd.zeroValue0
  t3 := Tryd.underlying3
  a3 := Tryd.isAgg3
  z3 := Tryd.sizeOf3
  v3 := Tryd.zeroValue3
  t4 := Tryd.underlying4
  a4 := Tryd.isAgg4
  z4 := Tryd.sizeOf4
  v4 := Tryd.zeroValue4
  t28 := Tryd.underlying45
  a28 := Tryd.isAgg45
  z28 := Tryd.sizeOf45
  v28 := Tryd.zeroValue45 }
def Tryd.lays114_ren : Go.Shelf.Ren := ⟨fun | 114 => 26 | n => n, fun | 28 => 45 | 3 => 3 | 4 => 4 | 9 => 9 | 20 => 20 | 0 => 0 | n => n, fun | n => n⟩
theorem Tryd.lays114 : Go.Proofs.Lays.n114 Tryd.prog Tryd.lays114_ren := {
  mixed := by kernel_rfl
  f114 := Tryd.func26.trans (congrArg some (by kernel_rfl))
  t0 := Tryd.underlying0
  a0 := Tryd.isAgg0
  z0 := Tryd.sizeOf0
  v0 := Tryd.zeroValue0
  t3 := Tryd.underlying3
  a3 := Tryd.isAgg3
  z3 := Tryd.sizeOf3
  v3 := Tryd.zeroValue3
  t4 := Tryd.underlying4
  a4 := Tryd.isAgg4
  z4 := Tryd.sizeOf4
  v4 := Tryd.zeroValue4
  t9 := Tryd.underlying9
  a9 := Tryd.isAgg9
  z9 := Tryd.sizeOf9
  v9 := Tryd.zeroValue9
  t20 := Tryd.underlying20
  a20 := Tryd.isAgg20
  z20 := Tryd.sizeOf20
  v20 := Tryd.zeroValue20
  t28 := Tryd.underlying45
  a28 := Tryd.isAgg45
  z28 := Tryd.sizeOf45
  v28 := Tryd.zeroValue45 }
def Tryd.lays112_ren : Go.Shelf.Ren := ⟨fun | 112 => 34 | n => n, fun | 28 => 45 | 3 => 3 | 4 => 4 | 0 => 0 | n => n, fun | n => n⟩
theorem Tryd.lays112 : Go.Proofs.Lays.n112 Tryd.prog Tryd.lays112_ren := {
  mixed := by kernel_rfl
  f112 := Tryd.func34.trans (congrArg some (by kernel_rfl))
  t0 := Tryd.underlying0
  a0 := Tryd.isAgg0
  z0 := Tryd.sizeOf0
  v0 := Tryd.zeroValue0
  t3 := Tryd.underlying3
  a3 := Tryd.isAgg3
  z3 := Tryd.sizeOf3
  v3 := Tryd.zeroValue3
  t4 := Tryd.underlying4
  a4 := Tryd.isAgg4
  z4 := Tryd.sizeOf4
  v4 := Tryd.zeroValue4
  t28 := Tryd.underlying45
  a28 := Tryd.isAgg45
  z28 := Tryd.sizeOf45
  v28 := Tryd.zeroValue45 }
def Tryd.lays189_ren : Go.Shelf.Ren := ⟨fun | 189 => 24 | 125 => 33 | 257 => 32 | 128 => 48 | 129 => 49 | 294 => 39 | 295 => 40 | 296 => 41 | 297 => 42 | 298 => 43 | 299 => 44 | 216 => 45 | 300 => 46 | 301 => 47 | 328 => 51 | 329 => 52 | 330 => 53 | 331 => 54 | 332 => 55 | 215 => 56 | 343 => 57 | n => n, fun | 28 => 45 | 3 => 3 | 46 => 81 | 0 => 0 | 51 => 106 | 53 => 37 | 4 => 4 | 183 => 99 | 182 => 98 | 131 => 66 | 5 => 5 | 9 => 9 | 218 => 109 | 222 => 113 | 228 => 115 | 229 => 116 | n => n, fun | n => n⟩
theorem Tryd.lays189 : Go.Proofs.Lays.n189 Tryd.prog Tryd.lays189_ren := {
  mixed := by kernel_rfl
  f125 := Tryd.func33.trans (congrArg some (by kernel_rfl))
  f128 := Tryd.func48.trans (congrArg some (by kernel_rfl))
  f129 := Tryd.func49.trans (congrArg some (by kernel_rfl))
  f189 := Tryd.func24.trans (congrArg some (by kernel_rfl))
  f215 := Tryd.func56.trans (congrArg some (by kernel_rfl))
  f216 := Tryd.func45.trans (congrArg some (by kernel_rfl))
  f257 := Tryd.func32.trans (congrArg some (by kernel_rfl))
  f294 := Tryd.func39.trans (congrArg some (by kernel_rfl))
  f295 := Tryd.func40.trans (congrArg some (by kernel_rfl))
  f296 := Tryd.func41.trans (congrArg some (by kernel_rfl))
  f297 := Tryd.func42.trans (congrArg some (by kernel_rfl))
  f298 := Tryd.func43.trans (congrArg some (by kernel_rfl))
  f299 := Tryd.func44.trans (congrArg some (by kernel_rfl))
  f300 := Tryd.func46.trans (congrArg some (by kernel_rfl))
  f301 := Tryd.func47.trans (congrArg some (by kernel_rfl))
  f328 := Tryd.func51.trans (congrArg some (by kernel_rfl))
  f329 := Tryd.func52.trans (congrArg some (by kernel_rfl))
  f330 := Tryd.func53.trans (congrArg some (by kernel_rfl))
  f331 := Tryd.func54.trans (congrArg some (by kernel_rfl))
  f332 := Tryd.func55.trans (congrArg some (by kernel_rfl))
  f343 := Tryd.func57.trans (congrArg some (by kernel_rfl))
  t0 := Tryd.underlying0
  a0 := Tryd.isAgg0
  z0 := Tryd.sizeOf0
  v0 := Tryd.zeroValue0
  t3 := Tryd.underlying3
  a3 := Tryd.isAgg3
  z3 := Tryd.sizeOf3
  v3 := Tryd.zeroValue3
  t4 := Tryd.underlying4
  a4 := Tryd.isAgg4
  z4 := Tryd.sizeOf4
  v4 := Tryd.zeroValue4
  t5 := Tryd.underlying5
  a5 := Tryd.isAgg5
  z5 := Tryd.sizeOf5
  v5 := Tryd.zeroValue5
  t9 := Tryd.underlying9
  a9 := Tryd.isAgg9
  z9 := Tryd.sizeOf9
  v9 := Tryd.zeroValue9
  t28 := Tryd.underlying45
  a28 := Tryd.isAgg45
  z28 := Tryd.sizeOf45
  v28 := Tryd.zeroValue45
  t46 := Tryd.underlying81
  a46 := Tryd.isAgg81
  z46 := Tryd.sizeOf81
  v46 := Tryd.zeroValue81
  t51 := Tryd.underlying106
  a51 := Tryd.isAgg106
  z51 := Tryd.sizeOf106
  v51 := Tryd.zeroValue106
  t53 := Tryd.underlying37
  a53 := Tryd.isAgg37
  z53 := Tryd.sizeOf37
  v53 := Tryd.zeroValue37
  t131 := Tryd.underlying66
  a131 := Tryd.isAgg66
  z131 := Tryd.sizeOf66
  v131 := Tryd.zeroValue66
  t182 := Tryd.underlying98
  a182 := Tryd.isAgg98
  z182 := Tryd.sizeOf98
  v182 := Tryd.zeroValue98
  t183 := Tryd.underlying99
  a183 := Tryd.isAgg99
  z183 := Tryd.sizeOf99
  v183 := Tryd.zeroValue99
  t218 := Tryd.underlying109
  a218 := Tryd.isAgg109
  z218 := Tryd.sizeOf109
  v218 := Tryd.zeroValue109
  t222 := Tryd.underlying113
  a222 := Tryd.isAgg113
  z222 := Tryd.sizeOf113
  v222 := Tryd.zeroValue113
  t228 := Tryd.underlying115
  a228 := Tryd.isAgg115
  z228 := Tryd.sizeOf115
  v228 := Tryd.zeroValue115
  t229 := Tryd.underlying116
  a229 := Tryd.isAgg116
  z229 := Tryd.sizeOf116
  v229 := Tryd.zeroValue116 }
end Go.Proofs
namespace Go.Proofs.YtaklfdlcedlmfaaDoor.Sh
open Go Go.RowKit Go.Shelf Go.Sort Go.Proofs.YtaklfdlcedlmfaaDoorW.PrintWords
set_option linter.unusedVariables false
abbrev I := Kd.int .i64
/-- A row of ints of the call's own: nil, or a block. -/
theorem R_open {w : World} {base : Nat} {ok : Nat → Prop} {v : Value} {xs : List Int} (h : I.R 3 w base ok v xs) :
    (v = .slice none 0 0 ∧ xs = []) ∨ ∃ g cap, v = .slice (some ⟨g, 0, none⟩) xs.length cap ∧ base ≤ g ∧ ok g ∧ g < w.heap.size ∧ xs.length ≤ cap ∧ xs.length ≤ 9223372036854775807 ∧ ∀ j, j < xs.length → w.cell? ⟨g, j, none⟩ = some (.int .i64 (xs.getD j 0)) ∧ w.frozen? ⟨g, j, none⟩ = false := by
  have ho := Kd.own_of_R (enc := Value.int .i64) (h1 := fun _ => rfl) h
  rcases ho.2 with ⟨rfl, h0⟩ | ⟨g, cap, cur, rfl, hg, hh, hle, hmax, hsz, hcur⟩
  · exact .inl ⟨rfl, List.eq_nil_of_length_eq_zero h0⟩
  · refine .inr ⟨g, cap, rfl, hg, h.1 g rfl, ?_, hle, Nat.le_trans hle (Nat.le_trans hmax (by unfold maxLen; decide)), fun j hj => ?_⟩
    · rcases Nat.lt_or_ge g w.heap.size with h | h
      · exact h
      · rw [Array.getElem?_eq_none h] at hh; cases hh
    · have hc := Kd.R_cell (enc := Value.int .i64) (h1 := fun _ => rfl) (0 : Int) h (j : Int) (by omega) (by omega)
      rw [Int.toNat_natCast] at hc
      simpa [rdOf] using hc
theorem R_puts {base g cap : Nat} {ok : Nat → Prop} : ∀ (ys : List Int) (off : Nat) (xs : List Int) (w : World), off + ys.length ≤ xs.length → I.R 3 w base ok (.slice (some ⟨g, 0, none⟩) xs.length cap) xs →
    I.R 3 (w.setCells g off (ys.map (Value.int .i64))) base ok (.slice (some ⟨g, 0, none⟩) xs.length cap) (xs.take off ++ ys ++ xs.drop (off + ys.length))
  | [], off, xs, w, h, hr => by simpa [World.setCells] using hr
  | y :: ys, off, xs, w, h, hr => by
    rw [List.map_cons, World.setCells]
    have h1 := (Kd.R_put (enc := Value.int .i64) (h1 := fun _ => rfl) hr (off : Int) y).1
    rw [Int.toNat_natCast] at h1
    have hl : (xs.set off y).length = xs.length := List.length_set
    have h2 := R_puts ys (off + 1) (xs.set off y) (w.setCell ⟨g, off, none⟩ (.int .i64 y)) (by rw [hl]; simp at h; omega) (by rw [hl]; exact h1)
    rw [hl] at h2
    have e : (xs.set off y).take (off + 1) ++ ys ++ (xs.set off y).drop (off + 1 + ys.length) = xs.take off ++ (y :: ys) ++ xs.drop (off + (y :: ys).length) := by
      simp at h
      rw [List.take_add_one, List.getElem?_set_self (by omega), List.drop_set_of_lt (by omega), List.take_set_of_le (Nat.le_refl _)]
      simp [Nat.add_comm, Nat.add_left_comm]
    rw [e] at h2
    exact h2
theorem setCells_below {w0 : World} {g : Nat} : ∀ (vs : List Value) (off : Nat) (w : World), Below w0.heap.size w0 w → w0.heap.size ≤ g → Below w0.heap.size w0 (w.setCells g off vs)
  | [], _, _, h, _ => h
  | _ :: vs, off, w, h, hg => setCells_below vs (off + 1) _ (below_set h hg) hg
theorem setCells_other {g b : Nat} (hne : b ≠ g) : ∀ (vs : List Value) (off : Nat) (w : World), (w.setCells g off vs).heap[b]? = w.heap[b]?
  | [], _, _ => rfl
  | _ :: vs, off, w => (setCells_other hne vs (off + 1) _).trans (Below.heap_setCell _ _ _ _ hne)
theorem setCells_size {g : Nat} : ∀ (vs : List Value) (off : Nat) (w : World), (w.setCells g off vs).heap.size = w.heap.size
  | [], _, _ => rfl
  | _ :: vs, off, w => (setCells_size vs (off + 1) _).trans (by simp [World.setCell])
theorem contains (w : World) (base : Nat) (ok : Nat → Prop) (v : Value) (xs : List Int) (x : Int) (h : I.R 3 w base ok v xs) :
    Calls Tryd.prog 35 #[v, .int .i64 x] w fun e w' => e = .returned (.bool (xs.contains x)) ∧ w' = w := by
  rcases R_open h with ⟨rfl, rfl⟩ | ⟨g, cap, rfl, _, _, _, hc, hm, hx⟩
  · exact Any.slices_Contains_int_empty Tryd.lays107 none 0 x w
  · have h := Any.slices_Contains_int Tryd.lays107 g 0 xs.length cap xs x w (Nat.le_refl _) (by omega) (fun j hj => by rw [Nat.zero_add]; exact (hx j hj).1)
    rw [List.take_length] at h
    exact h
theorem min (w : World) (base : Nat) (ok : Nat → Prop) (v : Value) (xs : List Int) (hne : xs ≠ []) (h : I.R 3 w base ok v xs) :
    Calls Tryd.prog 26 #[v] w fun e w' => e = .returned (.int .i64 (Lib.minOf xs)) ∧ w' = w := by
  rcases R_open h with ⟨rfl, rfl⟩ | ⟨g, cap, rfl, _, _, _, hc, hm, hx⟩
  · exact absurd rfl hne
  · have h := Any.slices_Min_int Tryd.lays114 g 0 xs.length cap xs w (by cases xs; exact absurd rfl hne; simp) (Nat.le_refl _) (by omega) (fun j hj => by rw [Nat.zero_add]; exact (hx j hj).1)
    rw [List.take_length] at h
    exact h
/-- Reverse at all but the first. -/
theorem reverse1 (w : World) (base g cap c : Nat) (ok : Nat → Prop) (x : Int) (xs : List Int) (h : I.R 3 w base ok (.slice (some ⟨g, 0, none⟩) (x :: xs).length cap) (x :: xs)) :
    Calls Tryd.prog 34 #[.slice (some ⟨g, 1, none⟩) xs.length c] w fun e w' => e = .returned (.tuple #[]) ∧ I.R 3 w' base ok (.slice (some ⟨g, 0, none⟩) (x :: xs).length cap) (x :: xs.reverse) ∧ (∀ w0 : World, Below w0.heap.size w0 w → w0.heap.size ≤ g → Below w0.heap.size w0 w') := by
  rcases R_open h with ⟨hv, _⟩ | ⟨g', cap', hv, _, _, _, hc, hm, hx⟩
  · cases hv
  · injection hv with e1 e2 e3
    injection e1 with e1
    injection e1 with e1
    subst e1 e3
    refine (Any.slices_Reverse_int_cells Tryd.lays112 g 1 xs.length c xs w (Nat.le_refl _) (by simp at hm; omega) (fun j hj => ?_) (fun j hj => ?_)).mono ?_
    · have h2 := (hx (j + 1) (by simp; omega)).1
      rw [Nat.add_comm 1 j, h2]
      simp
    · have h2 := (hx (j + 1) (by simp; omega)).2
      rw [Nat.add_comm 1 j, h2]
    · rintro e w' ⟨rfl, q, rfl⟩
      refine ⟨rfl, ?_, fun w0 hb hg => setCells_below _ _ _ (pw_below_drewN hb q) hg⟩
      have h3 := R_puts (g := g) (cap := cap) xs.reverse 1 (x :: xs) (w.drewN q) (by simp; omega) (Kd.R_drewN h q)
      rw [List.take_length]
      have e3 : (x :: xs).take 1 ++ xs.reverse ++ (x :: xs).drop (1 + xs.reverse.length) = x :: xs.reverse := by rw [List.length_reverse, List.drop_of_length_le (by simp; omega)]; simp
      rw [e3] at h3
      exact h3
def leI (x y : Int) : Bool := decide (x ≤ y)
theorem sort (w : World) (base : Nat) (ok : Nat → Prop) (v : Value) (xs : List Int) (h : I.R 3 w base ok v xs) (hn : xs.length < 4611686018427387904) :
    Calls Tryd.prog 24 #[v] w fun e w' => e = .returned (.tuple #[]) ∧ I.R 3 w' base ok v (xs.mergeSort leI) ∧ (∀ w0 : World, Below w0.heap.size w0 w → w0.heap.size ≤ base → Below w0.heap.size w0 w') ∧ (∀ b, b < w.heap.size → some b ≠ v.ownBlock → w'.heap[b]? = w.heap[b]?) := by
  rcases R_open h with ⟨rfl, rfl⟩ | ⟨g, cap, rfl, hbg, _, hgl, hc, hm, hx⟩
  · refine (Any.slices_Sort_int_none Tryd.lays189 none 0 w).mono ?_
    rintro e w' ⟨rfl, rfl⟩
    exact ⟨rfl, by simpa using h, fun w0 hb _ => hb, fun b _ _ => rfl⟩
  · have hH := Lib.holds_of_ints (w := w) (b := g) (off := 0) (n := xs.length) (zs := xs) (Nat.le_refl _) (fun j hj => by rw [Nat.zero_add]; exact (hx j hj).1) (fun j hj => by rw [Nat.zero_add]; exact (hx j hj).2)
    rw [List.take_length] at hH
    refine (Any.slices_Sort_int Tryd.lays189 g 0 cap xs w hH hgl (by omega)).mono ?_
    rintro e w' ⟨rfl, q, os, rfl⟩
    rw [Lib.sorted_world _ w g 0 q _ _ os hH (by simp)]
    rw [show (fun x y : Int => decide (x ≤ y)) = leI from rfl]
    have h3 := R_puts (g := g) (cap := cap) (xs.mergeSort leI) 0 xs (w.drewN q) (by simp) (Kd.R_drewN h q)
    have e2 : xs.take 0 ++ xs.mergeSort leI ++ xs.drop (0 + (xs.mergeSort leI).length) = xs.mergeSort leI := by simp
    rw [e2] at h3
    refine ⟨rfl, Kd.R_step h3 (fun k _ hk => heap_grow_old _ os hk), fun w0 hb hg => ?_, fun b hb hne => ?_⟩
    · have hb2 := setCells_below (g := g) ((xs.mergeSort leI).map (Value.int .i64)) 0 (w.drewN q) (pw_below_drewN hb q) (by omega)
      exact ⟨hb2.os, hb2.tape, hb2.output, Nat.le_trans hb2.size (by simp [grow]), fun k hk => (heap_grow_old _ os (Nat.lt_of_lt_of_le hk hb2.size)).trans (hb2.block k hk)⟩
    · have hne2 : b ≠ g := fun e => hne (by rw [e]; rfl)
      rw [heap_grow_old _ os (by rw [setCells_size]; exact hb), setCells_other hne2]
      rfl
end Go.Proofs.YtaklfdlcedlmfaaDoor.Sh
