/- sect.Named, walked by hand: the bytes of a name's length, the name, the contents; or the error. -/
import Derived.Test.YtljmikfpknmnnaaDoorXSx3
import Derived.Test.YtljmikfpknmnnaaDoorXSx5
import Derived.Test.YtljmikfpknmnnaaDoorText
import Derived.Lib.SlBytesConst
namespace Go.Proofs.YtljmikfpknmnnaaDoor.XS
open Go Go.RowKit Go.Proofs.YtljmikfpknmnnaaDoor.M Go.Proofs.YtljmikfpknmnnaaDoor.Sect Go.Proofs.YtljmikfpknmnnaaDoorW.PrintWords Go.Proofs.YtljmikfpknmnnaaDoorW.PrintLast Go.Proofs.YtljmikfpknmnnaaDoorW.PrintMore
set_option linter.unusedVariables false
set_option linter.unusedSimpArgs false
theorem strOf_size (B : List Int) : (strOfNums B).size = B.length := strOfNums_size B
theorem strOf_bytes (B : List Int) (h : ∀ x ∈ B, 0 ≤ x ∧ x < 256) : bytesOf (strOfNums B) = B := by
  unfold bytesOf
  rw [strOfNums_data, List.map_map]
  conv => rhs; rw [← List.map_id B]
  refine List.map_congr_left fun x hx => ?_
  have := h x hx
  simp only [Function.comp, UInt8.toNat_ofNat', id]
  omega
/-- The text behind '[]byte(s)'. -/
theorem text_bytes (W0 : World) (b : Nat) (h0 : W0.heap.size = b) (s : ByteArray) (hs : s.size ≤ 1000) (hb : BB (bytesOf s)) (r : Bool) (hr : textOf (bytesOf s) = r) :
    Calls Tryd.prog 27 #[.slice (some ⟨b, 0, none⟩) s.size (grownCap W0 s.size 0 5)] (Lib.bytesWorld W0 5 s) fun e w' => e = .returned (.bool r) ∧ Below W0.heap.size W0 w' := by
  subst h0
  have hC : Kd.C (Kd.int .u8) (Lib.bytesWorld W0 5 s) (some ⟨W0.heap.size, 0, none⟩) (bytesOf s).length (bytesOf s) := by
    refine Kd.C_of_reads (d := (0 : Int)) (h1 := fun _ => rfl) ?_
    rw [bytesOf_length]
    exact bytes_reads W0 5 s (by omega)
  have hg := grownCap_ge W0 s.size 0 5
  have hT : sect_Text.f 8000 (bytesOf s) = some r := by
    rw [← hr]
    exact text_f (bytesOf s).length (bytesOf s) (Nat.le_refl _) (by rw [bytesOf_length]; omega) 8000 (by rw [bytesOf_length]; omega)
  have hB : Below W0.heap.size W0 (Lib.bytesWorld W0 5 s) := bytes_below (Below.refl _ _) (Nat.le_refl _) 5 s
  have h := sect_Text.calls 8000 (fun k_ => k_ < (Lib.bytesWorld W0 5 s).heap.size) (some ⟨W0.heap.size, 0, none⟩) (grownCap W0 s.size 0 5) (bytesOf s) r (Lib.bytesWorld W0 5 s) (Kd.V_mk (by rw [bytesOf_length]; exact hg) (Kd.C_F (Kd.heap_int .u8) hC)) hT
  rw [bytesOf_length] at h
  exact h.mono fun e w' ⟨h1, h2⟩ => ⟨h1, below_step hB h2⟩
set_option maxHeartbeats 4000000 in
set_option maxRecDepth 100000 in
/-- A name that is none: too long. -/
theorem named_long (s : ByteArray) (A : Option Addr) (n c : Nat) (w : World) (h : 256 < s.size) (hs : s.size ≤ 1000) :
    Calls Tryd.prog 26 #[.string s, .slice A n c] w fun e w' => e = .returned (.tuple #[.agg #[.int .u8 0, .int .i64 0, .slice none 0 0], errW (some 1)]) ∧ Below w.heap.size w w' := by
  go_enter Tryd.func26, Tryd.ntmps26
  go_wp2_with fail
  exact bodyPost_ret (v := .tuple #[.agg #[.int .u8 0, .int .i64 0, .slice none 0 0], .iface 66 (.int .i64 1)]) (by simp [results, Tryd.results26, go_sem]) rfl ⟨rfl, below_alloc (Below.refl _ _) _⟩
/-- The result's box, behind a call. -/
theorem bcell0 {w w2 : World} {cs : Array Value} {t : TypeId} (hb : Below (w.alloc (.cells cs t)).heap.size (w.alloc (.cells cs t)) w2) (j : Nat) : w2.cell? ⟨w.heap.size, j, none⟩ = cs[j]? := blk_cell (blk_below (blk_new w _) hb) j
theorem bfroz0 {w w2 : World} {cs : Array Value} {t : TypeId} (hb : Below (w.alloc (.cells cs t)).heap.size (w.alloc (.cells cs t)) w2) (j : Nat) : w2.frozen? ⟨w.heap.size, j, none⟩ = false := blk_frozen (blk_below (blk_new w _) hb) j
theorem res3 {w2 : World} {b : Nat} {x y z : Value} {t : TypeId} (h : w2.heap[b]? = some (.cells #[x, y, z] t (0, 0))) (v0 v1 v2 : Value) :
    (w2.setCell ⟨b, 0, none⟩ v0).cell? ⟨b, 0, none⟩ = some v0 ∧ ((w2.setCell ⟨b, 0, none⟩ v0).setCell ⟨b, 1, none⟩ v1).cell? ⟨b, 1, none⟩ = some v1 ∧ (((w2.setCell ⟨b, 0, none⟩ v0).setCell ⟨b, 1, none⟩ v1).setCell ⟨b, 2, none⟩ v2).cell? ⟨b, 2, none⟩ = some v2 :=
  ⟨(blk_cell (blk_put h 0 v0 rfl) 0).trans rfl, (blk_cell (blk_put (blk_put h 0 v0 rfl) 1 v1 rfl) 1).trans rfl, (blk_cell (blk_put (blk_put (blk_put h 0 v0 rfl) 1 v1 rfl) 2 v2 rfl) 2).trans rfl⟩
theorem below3 {w w2 : World} {b : Nat} (h : Below w.heap.size w w2) (hb : w.heap.size ≤ b) (v0 v1 v2 : Value) : Below w.heap.size w (((w2.setCell ⟨b, 0, none⟩ v0).setCell ⟨b, 1, none⟩ v1).setCell ⟨b, 2, none⟩ v2) := below_set (below_set (below_set h hb) hb) hb
set_option maxHeartbeats 4000000 in
set_option maxRecDepth 100000 in
/-- A name that is none: no text. -/
theorem named_bad (s : ByteArray) (A : Option Addr) (n c : Nat) (w : World) (hs : s.size ≤ 256) (hb : BB (bytesOf s)) (ht : textOf (bytesOf s) = false) :
    Calls Tryd.prog 26 #[.string s, .slice A n c] w fun e w' => e = .returned (.tuple #[.agg #[.int .u8 0, .int .i64 0, .slice none 0 0], errW (some 1)]) ∧ Below w.heap.size w w' := by
  have kb := fun W => print_bytes (P := Tryd.prog) 9 22 5 Tryd.underlying9 Tryd.underlying22 Tryd.underlying5 s W
  have HB := Aside0.mk hb
  have HT := Aside0.mk ht
  clear hb ht
  go_enter Tryd.func26, Tryd.ntmps26
  go_wp2_with fail
  refine (text_bytes (w.alloc (.cells #[.int .u8 0, .int .i64 0, .slice none 0 0] 53)) _ (by simp) s (by omega) HB.out false HT.out).mono ?_
  rintro e w2 ⟨rfl, B2⟩
  have c0 : w2.cell? ⟨w.heap.size, 0, none⟩ = some (.int .u8 0) := (bcell0 B2 0).trans rfl
  have c1 : w2.cell? ⟨w.heap.size, 1, none⟩ = some (.int .i64 0) := (bcell0 B2 1).trans rfl
  have c2 : w2.cell? ⟨w.heap.size, 2, none⟩ = some (.slice none 0 0) := (bcell0 B2 2).trans rfl
  have f0 := bfroz0 B2 0
  have f1 := bfroz0 B2 1
  have f2 := bfroz0 B2 2
  have B3 := Aside0.mk (below_step (below_alloc (Below.refl w.heap.size w) _) B2)
  obtain ⟨r0, r1, r2⟩ := res3 (blk_below (blk_new w _) B2) (.int .u8 0) (.int .i64 0) (.slice none 0 0)
  clear kb B2
  go_wp2_with fail
  exact bodyPost_ret (v := .tuple #[.agg #[.int .u8 0, .int .i64 0, .slice none 0 0], .iface 66 (.int .i64 1)]) (by simp [results, Tryd.results26, go_sem, r0, r1, r2]) rfl ⟨rfl, below3 B3.out (Nat.le_refl _) _ _ _⟩
theorem len5 {w : World} {base : Nat} {ok : Nat → Prop} {v : Value} {xs : List Int} (h : Kd.R (Kd.int .u8) 5 w base ok v xs) : ∃ A n c, n = xs.length ∧ v = .slice A n c := by
  obtain ⟨a, b, e⟩ := Kd.R_slice h
  exact ⟨a, _, b, rfl, e⟩
theorem putU0 (n : Int) (L : List Int) (w : World) (hL : ∃ k, leb_PutU.f k [] n = some L) :
    Calls Tryd.prog 16 #[.slice none 0 0, .int .u64 n] w fun e w' => ∃ v, e = .returned v ∧ Kd.R (Kd.int .u8) 5 w' w.heap.size (fun _ => True) v L ∧ Below w.heap.size w w' := by
  obtain ⟨k, h⟩ := hL
  exact leb_PutU.calls k none 0 [] n L w (Kd.C_nil _ _) (Nat.le_refl _) h
set_option maxHeartbeats 4000000 in
set_option maxRecDepth 100000 in
theorem named_yes (s : ByteArray) (A : Option Addr) (c : Nat) (C : List Int) (w : World) (hs : s.size ≤ 256) (hb : BB (bytesOf s)) (ht : textOf (bytesOf s) = true) (hC : Kd.C (Kd.int .u8) w A C.length C) (hCl : C.length ≤ 1000) (hc : C.length ≤ c) (L : List Int) (hL : ∃ k, leb_PutU.f k [] s.size = some L) (hL2 : L.length ≤ 100) :
    Calls Tryd.prog 26 #[.string s, .slice A C.length c] w fun e w' => ∃ v, e = .returned (.tuple #[.agg #[.int .u8 0, .int .i64 0, v], .nilIface]) ∧ Kd.R (Kd.int .u8) 5 w' w.heap.size (fun _ => True) v (L ++ bytesOf s ++ C) ∧ Below w.heap.size w w' := by
  have kb := fun W => print_bytes (P := Tryd.prog) 9 22 5 Tryd.underlying9 Tryd.underlying22 Tryd.underlying5 s W
  have HB := Aside0.mk hb
  have HT := Aside0.mk ht
  have HC := Aside0.mk hC
  have PU := Aside0.mk (fun W => putU0 (s.size : Int) L W hL)
  clear hb ht hC hL
  go_enter Tryd.func26, Tryd.ntmps26
  go_wp2_with fail
  refine (text_bytes (w.alloc (.cells #[.int .u8 0, .int .i64 0, .slice none 0 0] 53)) _ (by simp) s (by omega) HB.out true HT.out).mono ?_
  rintro e w2 ⟨rfl, B2⟩
  have X2 := Aside0.mk (blk_below (blk_new w _) B2)
  have B3 := Aside0.mk (below_step (below_alloc (Below.refl w.heap.size w) _) B2)
  clear kb B2
  go_wp2_with fail
  refine (PU.out _).mono ?_
  rintro e w3 ⟨v, rfl, R3, B4⟩
  have B5 := Aside0.mk (below_step B3.out B4)
  have X3 := Aside0.mk (blk_below X2.out B4)
  have R5 := Aside0.mk (Kd.R_types (Kd.R_lower R3 B3.out.size) X3.out (by simp [Kd.int, Kd.scalar]))
  clear R3 B4 X2 B3 PU
  go_wp2_with (first
    | (at_builtin; refine print_append_str (w0 := w) w.heap.size rfl (.tmp 22) (.tmp 23) 22 9 5 rfl Tryd.underlying22 Tryd.underlying9 info5 _ L s rfl rfl ?sO ?sB ?sZ ?sL ?_; (case sO => exact Kd.own_of_R R5.out); (case sB => exact B5.out); (case sZ => exact B5.out.size); (case sL => omega); intro v1 w4 own1 B6 G1; have Y4 := Aside0.mk (And.intro own1 (And.intro B6 (blk_grown X3.out G1 (Kd.R_ne R5.out X3.out (by decide))))); clear own1 B6 G1)
    | (at_builtin; refine Kd.R_append_rows (Kd.int .u8) (w0 := w) w.heap.size rfl (.tmp 25) (.tmp 26) 22 5 (.int .u8 0) 1 rfl Tryd.underlying22 info5 rfl (by decide) (by omega) _ (L ++ bytesOf s) C _ _ _ (fun _ => True) (fun _ => False) rfl rfl ?aO ?aR (fun _ _ h => h) (fun _ h => h.elim) ?aF ?aB ?aS ?aL ?_; (case aO => exact Kd.R_of_own Y4.out.1 (fun _ _ => trivial)); (case aR => exact Kd.C_below HC.out Y4.out.2.1); (case aF => exact fun _ _ => trivial); (case aB => exact Y4.out.2.1); (case aS => exact Y4.out.2.1.size); (case aL => rw [List.length_append, bytesOf_length]; omega); intro v5 w5 R8 B8 G8 hat8; obtain ⟨A5, n5, c5, hn5, e5⟩ := len5 R8; subst e5; clear hn5; have X5 := Aside0.mk (blk_grown Y4.out.2.2 G8 (Kd.R_ne (ok := fun _ => True) (Kd.R_of_own (h1 := fun _ => rfl) Y4.out.1 (fun _ _ => trivial)) Y4.out.2.2 (by decide))); have Z5 := Aside0.mk (And.intro R8 B8); have q0 : w5.cell? ⟨w.heap.size, 0, none⟩ = some (.int .u8 0) := (blk_cell X5.out 0).trans rfl; have q1 : w5.cell? ⟨w.heap.size, 1, none⟩ = some (.int .i64 0) := (blk_cell X5.out 1).trans rfl; have q2 : w5.cell? ⟨w.heap.size, 2, none⟩ = some (.slice none 0 0) := (blk_cell X5.out 2).trans rfl; have p0 := blk_frozen X5.out 0; have p1 := blk_frozen X5.out 1; have p2 := blk_frozen X5.out 2; clear R8 B8 G8 hat8)
    | fail)
  obtain ⟨r0, r1, r2⟩ := res3 X5.out (.int .u8 0) (.int .i64 0) (.slice A5 n5 c5)
  have hty := Kd.R_types Z5.out.1 X5.out (by simp [Kd.int, Kd.scalar])
  refine bodyPost_ret (v := .tuple #[.agg #[.int .u8 0, .int .i64 0, .slice A5 n5 c5], .nilIface]) (by simp [results, Tryd.results26, go_sem, r0, r1, r2]) rfl ⟨_, rfl, ?_, below3 Z5.out.2 (Nat.le_refl _) _ _ _⟩
  exact Kd.R_mono (Kd.R_far (p := ⟨w.heap.size, 2, none⟩) (Kd.R_far (p := ⟨w.heap.size, 1, none⟩) (Kd.R_far (p := ⟨w.heap.size, 0, none⟩) hty (fun _ h => h.2) _) (fun _ h => h.2) _) (fun _ h => h.2) _) (fun _ _ => trivial)
end Go.Proofs.YtljmikfpknmnnaaDoor.XS
