/- SectTexts, walked by hand. -/
import Derived.Test.YtljmikfpknmnnaaDoorNamed
import Derived.Test.YtljmikfpknmnnaaDoorJoin
import Derived.Test.YtljmikfpknmnnaaDoorJoinPure
import Derived.Test.YtljmikfpknmnnaaDoorTextRef
import Derived.Test.YtljmikfpknmnnaaDoorXSx9
import Derived.Test.YtljmikfpknmnnaaDoorLebTake
import Derived.Test.YtljmikfpknmnnaaDoorOpen
import Derived.StillTailTactics
namespace Go.Proofs.YtljmikfpknmnnaaDoor.XS
open Go Go.RowKit Go.Proofs.YtljmikfpknmnnaaDoor.M Go.Proofs.YtljmikfpknmnnaaDoor.Leb Go.Proofs.YtljmikfpknmnnaaDoor.Sect Go.Proofs.YtljmikfpknmnnaaDoorW.PrintWords Go.Proofs.YtljmikfpknmnnaaDoorW.PrintLast Go.Proofs.YtljmikfpknmnnaaDoorW.PrintMore Go.Proofs.YtljmikfpknmnnaaDoor.Op
set_option linter.unusedVariables false
set_option linter.unusedSimpArgs false
def namedB (B C : List Int) : List Int := encU B.length ++ B ++ C
theorem namedB_len (B C : List Int) (h1 : B.length ≤ 256) : B.length + C.length ≤ (namedB B C).length ∧ (namedB B C).length ≤ B.length + C.length + 10 := by
  unfold namedB
  have := encU_10 (v := B.length) (by omega)
  rw [List.length_append, List.length_append]
  omega
theorem namedB_ok (B C : List Int) (hB : BB B) (hC : BB C) (h1 : B.length ≤ 256) (h2 : C.length ≤ 400) (ht : textOf B = true) : OkS [⟨0, 0, namedB B C⟩] ∧ walkOk 0 [⟨0, 0, namedB B C⟩] = true := by
  have hl := namedB_len B C h1
  constructor
  · intro s hs
    rw [List.mem_singleton] at hs
    subst hs
    refine ⟨⟨Int.le_refl _, by simp only []; omega⟩, ?_, by simp only []; omega⟩
    intro x hx
    rcases List.mem_append.1 hx with hx | hx
    · rcases List.mem_append.1 hx with hx | hx
      · exact encU_bytes _ x hx
      · exact hB x hx
    · exact hC x hx
  · have e : takeUOf (encU B.length ++ (B ++ C)) 32 = ((B.length : Int), ((encU B.length).length : Int), none) := by
      rw [takeU_enc B.length (B ++ C) 32 (by omega) (by omega), if_pos (by omega)]
    have e2 : nameE (namedB B C) = none := by
      unfold nameE namedB
      rw [List.append_assoc, e]
      simp only []
      rw [if_neg (by rw [List.length_append, List.length_append]; omega), show ((((encU B.length).length : Int) + (B.length : Int))).toNat = (encU B.length).length + B.length by omega, Int.toNat_natCast]
      have e3 : ((encU B.length ++ (B ++ C)).take ((encU B.length).length + B.length)).drop (encU B.length).length = B := by
        rw [List.take_length_add_append, List.drop_left, List.take_left]
      rw [e3, if_pos ht]
    unfold walkOk nameS
    rw [if_pos rfl, e2]
    rfl
theorem joinOf_one (B C : List Int) (h1 : B.length ≤ 256) (h2 : C.length ≤ 400) : (joinOf [⟨0, 0, namedB B C⟩]).length ≤ 1000 := by
  have hl := namedB_len B C h1
  unfold joinOf
  rw [encSecs, encSecs, List.append_nil, List.length_append, encSec_len]
  have := encU_10 (v := (namedB B C).length) (by omega)
  simp only []
  have h8 : headB.length = 8 := rfl
  omega
theorem refText (B : List Int) (hB : BB B) (h : B.length ≤ 400) : mandrelref06_Text.f 4000 B = some (textOf B) := by
  have := ref_text B (by omega) hB B.length 0 4000 (by omega) (by omega) (by omega)
  rw [List.drop_zero] at this
  exact this
theorem named_no (s : ByteArray) (A : Option Addr) (n c : Nat) (w : World) (hs : s.size ≤ 400) (hb : BB (bytesOf s)) (h : 256 < s.size ∨ textOf (bytesOf s) = false) :
    Calls Tryd.prog 26 #[.string s, .slice A n c] w fun e w' => e = .returned (.tuple #[.agg #[.int .u8 0, .int .i64 0, .slice none 0 0], errW (some 1)]) ∧ Below w.heap.size w w' := by
  by_cases h1 : 256 < s.size
  · exact named_long s A n c w h1 (by omega)
  · exact named_bad s A n c w (by omega) hb (h.resolve_left h1)
theorem textCall (B : List Int) (A : Option Addr) (c : Nat) (w : World) (hB : Kd.C (Kd.int .u8) w A B.length B) (hc : B.length ≤ c) (hl : B.length ≤ 400) (r : Bool) (hr : textOf B = r) :
    Calls Tryd.prog 27 #[.slice A B.length c] w fun e w' => e = .returned (.bool r) ∧ Below w.heap.size w w' :=
  sect_Text.calls 8000 (fun k_ => k_ < w.heap.size) A c B r w (Kd.V_mk hc (Kd.C_F (Kd.heap_int .u8) hB)) (by rw [← hr]; exact text_f B.length B (Nat.le_refl _) (by omega) 8000 (by omega))
set_option maxHeartbeats 8000000 in
set_option maxRecDepth 100000 in
theorem texts_no (A0 A1 : Option Addr) (c0 c1 : Nat) (B C : List Int) (w : World) (hA : Kd.C (Kd.int .u8) w A0 B.length B) (hc0 : B.length ≤ c0) (hBB : BB B) (hl0 : B.length ≤ 400) (hl1 : C.length ≤ 400) (h : 256 < B.length ∨ textOf B = false) (hLE : LaidE w) :
    Calls Tryd.prog 9 #[.slice A0 B.length c0, .slice A1 C.length c1] w fun e w' => e = .returned (.bool true) ∧ Below w.heap.size w w' := by
  obtain ⟨r, hr⟩ : ∃ r, textOf B = r := ⟨_, rfl⟩
  have RT := Aside0.mk (refText B hBB hl0)
  have HR := Aside0.mk hr
  have HL := Aside0.mk hLE
  have HC := Aside0.mk hA
  have hcv := fun n_ : Nat => Kd.C_string (P := Tryd.prog) (A := A0) (c := c0) Tryd.underlying22 Tryd.underlying5 Tryd.underlying9 (Kd.C_below hA (pw_below_drewN (Below.refl _ _) n_))
  have HN := Aside0.mk (fun (A : Option Addr) (n c : Nat) (W : World) => named_no (strOfNums B) A n c W (by rw [strOf_size]; exact hl0) (by rw [strOf_bytes B hBB]; exact hBB) (by rw [strOf_size, strOf_bytes B hBB]; exact h))
  have HH := Aside0.mk h
  rw [hr] at RT
  clear hr hLE hBB hA h
  go_enter Tryd.func9, Tryd.ntmps9
  go_wp2_with fail
  refine (mandrelref06_Text.calls 4000 A0 c0 B r w HC.out hc0 RT.out).mono ?_
  rintro e w1 ⟨rfl, D1⟩
  obtain ⟨nq, rfl⟩ := D1.out
  go_wp2_with fail
  refine (HN.out _ _ _ _).mono ?_
  rintro e w2 ⟨rfl, B2⟩
  have B3 := Aside0.mk (below_step (pw_below_drewN (Below.refl w.heap.size w) nq) B2)
  have HTX := Aside0.mk (textCall B A0 c0 (w2.alloc (.cells #[.int .u8 0, .int .i64 0, .slice none 0 0] 53)) (Kd.C_below HC.out (below_alloc B3.out _)) hc0 hl0 r HR.out)
  clear HN hcv RT D1 B2
  go_wp2_with fail
  refine HTX.out.mono ?_
  rintro e w3 ⟨rfl, B4⟩
  have HX3 := Aside0.mk (blk_below (blk_new w2 _) B4)
  have x32 : w3.cell? ⟨w2.heap.size, 2, none⟩ = some (.slice none 0 0) := (blk_cell HX3.out 2).trans rfl
  have B5 := Aside0.mk (below_step (below_alloc B3.out (.cells #[.int .u8 0, .int .i64 0, .slice none 0 0] 53)) B4)
  have NM := Aside0.mk (mandrellaw06_num.calls (some 1) 1 w3 (HL.out.below B5.out) rfl)
  clear HTX B4
  have hbl : r = true → 256 < B.length := fun hr => HH.out.elim id (fun h => by rw [HR.out, hr] at h; cases h)
  cases r with
  | true =>
    have hb2 := hbl rfl
    clear hbl
    go_wp2_with fail
    refine NM.out.mono ?_
    rintro e w4 ⟨rfl, B6⟩
    have x42 : w4.cell? ⟨w2.heap.size, 2, none⟩ = some (.slice none 0 0) := (blk_cell (blk_below HX3.out B6) 2).trans rfl
    have B7 := Aside0.mk (below_step B5.out B6)
    clear B6 x32 NM
    go_wp2_with (go_at_call 17; refine (mandrellaw06_sure.calls true _ rfl).mono ?_; rintro e w5 ⟨rfl, hb⟩; have B8 := Aside0.mk (below_step B7.out hb); clear hb)
    go_ret
    exact ⟨rfl, B8.out⟩
  | false =>
    clear hbl
    go_wp2_with fail
    refine NM.out.mono ?_
    rintro e w4 ⟨rfl, B6⟩
    have x42 : w4.cell? ⟨w2.heap.size, 2, none⟩ = some (.slice none 0 0) := (blk_cell (blk_below HX3.out B6) 2).trans rfl
    have B7 := Aside0.mk (below_step B5.out B6)
    clear B6 x32 NM
    go_wp2_with (go_at_call 17; refine (mandrellaw06_sure.calls true _ rfl).mono ?_; rintro e w5 ⟨rfl, hb⟩; have B8 := Aside0.mk (below_step B7.out hb); clear hb)
    go_ret
    exact ⟨rfl, B8.out⟩
set_option maxHeartbeats 4000000 in
set_option maxRecDepth 100000 in
theorem texts_long (A0 A1 : Option Addr) (c0 c1 n0 n1 : Nat) (w : World) (h : 400 < n0 ∨ 400 < n1) :
    Calls Tryd.prog 9 #[.slice A0 n0 c0, .slice A1 n1 c1] w fun e w' => e = .returned (.bool true) ∧ Below w.heap.size w w' := by
  by_cases h0 : 400 < n0
  · clear h
    go_enter Tryd.func9, Tryd.ntmps9
    go_wp2_with (go_at_call 17; refine (mandrellaw06_sure.calls true _ rfl).mono ?_; rintro e w5 ⟨rfl, hb⟩; have B8 := Aside0.mk hb; clear hb)
    go_ret
    exact ⟨rfl, B8.out⟩
  · have h1 : 400 < n1 := h.resolve_left h0
    clear h
    go_enter Tryd.func9, Tryd.ntmps9
    go_wp2_with (go_at_call 17; refine (mandrellaw06_sure.calls true _ rfl).mono ?_; rintro e w5 ⟨rfl, hb⟩; have B8 := Aside0.mk hb; clear hb)
    go_ret
    exact ⟨rfl, B8.out⟩
theorem C_one53 {W : World} {b : Nat} {A : Option Addr} {c : Nat} {s : S53} {fr : Nat × Nat} (hb : W.heap[b]? = some (.cells #[.int .u8 s.f0, .int .i64 s.f1, .slice A s.f2.length c] 53 fr)) (hl : s.f2.length ≤ c) (hC : Kd.C (Kd.int .u8) W A s.f2.length s.f2) : Kd.C k53 W (some ⟨b, 0, none⟩) 1 [s] := by
  refine ⟨rfl, by decide, fun _ => ⟨_, rfl, fun j p hj => ?_⟩⟩
  obtain rfl : j = 0 := by
    have := (List.getElem?_eq_some_iff.1 hj).1
    simpa using this
  obtain rfl : s = p := by simpa using hj
  refine ⟨_, rfl, k53_mk W s hl hC, fun i u hu => ?_⟩
  have e1 : (⟨b, 0, none⟩ : Addr).add (0 * k53.sz + i) = ⟨b, i, none⟩ := by unfold Addr.add; split <;> simp_all
  rw [e1, cell_of_row W b i _ 53 fr hb, List.getElem?_toArray]
  exact hu
theorem joinOne (B C : List Int) (W : World) (b : Nat) (hW : Kd.C k53 W (some ⟨b, 0, none⟩) 1 [⟨0, 0, namedB B C⟩]) (hO : OkS [⟨0, 0, namedB B C⟩]) (hw : walkOk 0 [⟨0, 0, namedB B C⟩] = true) (hl : (joinOf [⟨0, 0, namedB B C⟩]).length ≤ 1000) :
    Calls Tryd.prog 23 #[.slice (some ⟨b, 0, none⟩) 1 1] W fun e w' => ∃ A n c, n = (joinOf [⟨0, 0, namedB B C⟩]).length ∧ e = .returned (.tuple #[.slice A n c, .nilIface]) ∧ Kd.C (Kd.int .u8) w' A n (joinOf [⟨0, 0, namedB B C⟩]) ∧ n ≤ c ∧ Below W.heap.size W w' := by
  have h := join_f [⟨0, 0, namedB B C⟩] hO (by omega) 12000000 (by simp)
  rw [(split_join _ hO).1 hw] at h
  refine (sect_Join.calls 12000000 (some ⟨b, 0, none⟩) 1 [⟨0, 0, namedB B C⟩] _ _ W hW (Nat.le_refl _) h).mono ?_
  rintro e w' ⟨v, rfl, h1, h2⟩
  obtain ⟨A, c, rfl⟩ := Kd.V_slice h1
  have h3 := Kd.V_reads' h1
  exact ⟨A, _, c, rfl, rfl, h3.2.2, h3.2.1, h2⟩
theorem splitOne (B C : List Int) (W : World) (A : Option Addr) (n c : Nat) (hn : n = (joinOf [⟨0, 0, namedB B C⟩]).length) (hW : Kd.C (Kd.int .u8) W A n (joinOf [⟨0, 0, namedB B C⟩])) (hc : n ≤ c) (hO : OkS [⟨0, 0, namedB B C⟩]) (hw : walkOk 0 [⟨0, 0, namedB B C⟩] = true) (hl : (joinOf [⟨0, 0, namedB B C⟩]).length ≤ 1000) :
    Calls Tryd.prog 18 #[.slice A n c] W fun e w' => ∃ A' c', e = .returned (.tuple #[.slice A' 1 c', .int .i64 n, .nilIface]) ∧ Below W.heap.size W w' := by
  subst hn
  have h := prog_split _ (joinOf_bytes _ hO) (by omega) 20000 (by omega)
  rw [(split_join _ hO).1 hw] at h
  refine (sect_Split.calls 20000 A c _ _ _ _ W hW hc h).mono ?_
  rintro e w' ⟨v, rfl, h1, h2⟩
  obtain ⟨A', c', rfl⟩ := Kd.S_slice h1
  exact ⟨A', c', rfl, h2⟩
theorem cutTail (xs C pre : List Int) (hx : xs = pre ++ C) (A : Option Addr) (n c : Nat) (hn : n = xs.length) (hc : n ≤ c) :
    ∃ A', (∀ W : World, (Instr.slice 22 (.slice A n c) (some (.int .i64 ((n : Int) - (C.length : Int)))) none none).run Tryd.prog W = .ok (.slice A' C.length (c - (n - C.length))) W) ∧ ∀ w : World, Kd.C (Kd.int .u8) w A n xs → Kd.C (Kd.int .u8) w A' C.length C := by
  obtain ⟨i0, hi, hz0, hz1, hz2⟩ := info_parts info5
  have hl : xs.length = pre.length + C.length := by rw [hx, List.length_append]
  obtain ⟨A', h1, h2, h3⟩ := print_drop_of (P := Tryd.prog) (Value.int .u8) (0 : Int) 22 5 .i64 Tryd.underlying22 hi hz1 A c xs ((n : Int) - (C.length : Int)) (by omega) (by omega) (by omega)
  have hj : ((n : Int) - (C.length : Int)).toNat = pre.length := by omega
  have hd : xs.drop pre.length = C := by rw [hx, List.drop_left]
  rw [hj, hd] at h1 h2
  refine ⟨A', fun W => ?_, fun w hC => ?_⟩
  · have := h1 W
    rw [← hn] at this
    rw [this, show n - C.length = pre.length by omega]
  · have hr := Kd.reads_of_C (d := (0 : Int)) hC
    rw [hn] at hr
    exact Kd.C_of_reads (d := (0 : Int)) (h1 := fun _ => rfl) (h2 w hr)
set_option maxHeartbeats 8000000 in
set_option maxRecDepth 100000 in
theorem texts_yes (A0 A1 : Option Addr) (c0 c1 : Nat) (B C : List Int) (w : World) (hA : Kd.C (Kd.int .u8) w A0 B.length B) (hA1 : Kd.C (Kd.int .u8) w A1 C.length C) (hc0 : B.length ≤ c0) (hc1 : C.length ≤ c1) (hBB : BB B) (hCB : BB C) (hl0 : B.length ≤ 256) (hl1 : C.length ≤ 400) (ht : textOf B = true) :
    Calls Tryd.prog 9 #[.slice A0 B.length c0, .slice A1 C.length c1] w fun e w' => e = .returned (.bool true) ∧ Below w.heap.size w w' := by
  have RT := Aside0.mk (refText B hBB (by omega))
  have HR := Aside0.mk ht
  have HC := Aside0.mk hA
  have HC1 := Aside0.mk hA1
  have hcv := fun n_ : Nat => Kd.C_string (P := Tryd.prog) (A := A0) (c := c0) Tryd.underlying22 Tryd.underlying5 Tryd.underlying9 (Kd.C_below hA (pw_below_drewN (Below.refl _ _) n_))
  have HN := Aside0.mk (fun (W : World) (hW : Kd.C (Kd.int .u8) W A1 C.length C) => named_yes (strOfNums B) A1 c1 C W (by rw [strOf_size]; exact hl0) (by rw [strOf_bytes B hBB]; exact hBB) (by rw [strOf_bytes B hBB]; exact ht) hW (by omega) hc1 (encU B.length) ⟨20, by rw [strOf_size]; have := putU (B.length : Int) [] 20 (by omega) (by simp) (by omega) (by omega); rw [List.nil_append, Int.toNat_natCast] at this; exact this⟩ (by have := encU_10 (v := B.length) (by omega); omega))
  rw [strOf_bytes B hBB] at HN
  have OK := Aside0.mk (And.intro (namedB_ok B C hBB hCB hl0 hl1 ht) (And.intro (joinOf_one B C hl0 hl1) (namedB_len B C hl0)))
  rw [ht] at RT
  clear hBB hCB hA hA1 ht
  go_enter Tryd.func9, Tryd.ntmps9
  go_wp2_with fail
  refine (mandrelref06_Text.calls 4000 A0 c0 B true w HC.out hc0 RT.out).mono ?_
  rintro e w1 ⟨rfl, D1⟩
  obtain ⟨nq, rfl⟩ := D1.out
  go_wp2_with fail
  refine (HN.out _ (Kd.C_below HC1.out (pw_below_drewN (Below.refl w.heap.size w) nq))).mono ?_
  rintro e w2 ⟨v, rfl, R2, B2⟩
  obtain ⟨A5, n5, c5, hn5, e5⟩ := len5 R2
  subst e5
  have hn5' : n5 = (namedB B C).length := hn5
  have B3 := Aside0.mk (below_step (pw_below_drewN (Below.refl w.heap.size w) nq) B2)
  have R3 := Aside0.mk (show Kd.C (Kd.int .u8) w2 A5 (namedB B C).length (namedB B C) ∧ (namedB B C).length ≤ c5 from by subst hn5; exact ⟨(Kd.R_reads' R2).2.2, (Kd.R_reads' R2).2.1⟩)
  have HTX := Aside0.mk (textCall B A0 c0 (w2.alloc (.cells #[.int .u8 0, .int .i64 0, .slice A5 n5 c5] 53)) (Kd.C_below HC.out (below_alloc B3.out _)) hc0 (by omega) true HR.out)
  clear HN hcv RT D1 B2 R2
  have hn5b : n5 ≤ 1000 := by have := OK.out.2.2.2; omega
  have HN5 := Aside0.mk hn5'
  clear hn5 hn5'
  go_wp2_with fail
  refine HTX.out.mono ?_
  rintro e w3 ⟨rfl, B4⟩
  have HX3 := Aside0.mk (blk_below (blk_new w2 _) B4)
  have x30 : w3.cell? ⟨w2.heap.size, 0, none⟩ = some (.int .u8 0) := (blk_cell HX3.out 0).trans rfl
  have x31 : w3.cell? ⟨w2.heap.size, 1, none⟩ = some (.int .i64 0) := (blk_cell HX3.out 1).trans rfl
  have x32 : w3.cell? ⟨w2.heap.size, 2, none⟩ = some (.slice A5 n5 c5) := (blk_cell HX3.out 2).trans rfl
  have B24 := Aside0.mk (below_step (below_alloc (Below.refl w2.heap.size w2) (.cells #[.int .u8 0, .int .i64 0, .slice A5 n5 c5] 53)) B4)
  have B5 := Aside0.mk (below_step B3.out B24.out)
  clear HTX B4
  go_wp2_with fail
  have hCw : Kd.C (Kd.int .u8) (w3.alloc (.cells #[.int .u8 0, .int .i64 0, .slice A5 n5 c5] 53)) A5 (namedB B C).length (namedB B C) := Kd.C_below R3.out.1 (below_alloc B24.out _)
  have HJ := Aside0.mk (joinOne B C (w3.alloc (.cells #[.int .u8 0, .int .i64 0, .slice A5 n5 c5] 53)) w3.heap.size (C_one53 (c := c5) (s := ⟨0, 0, namedB B C⟩) (by rw [HN5.out]; exact blk_new w3 _) R3.out.2 hCw) OK.out.1.1 OK.out.1.2 OK.out.2.1)
  clear hCw
  refine HJ.out.mono ?_
  rintro e w4 ⟨Aj, nj, cj, hnj, rfl, CJ, lej, B6⟩
  have B34 := Aside0.mk (below_step (below_alloc (Below.refl w3.heap.size w3) (.cells #[.int .u8 0, .int .i64 0, .slice A5 n5 c5] 53)) B6)
  have HX4 := Aside0.mk (blk_below HX3.out B34.out)
  have B7 := Aside0.mk (below_step B5.out B34.out)
  have SP := Aside0.mk (splitOne B C w4 Aj nj cj hnj CJ lej OK.out.1.1 OK.out.1.2 OK.out.2.1)
  clear HJ B6 hnj CJ lej x30 x31 x32
  go_wp2_with fail
  refine SP.out.mono ?_
  rintro e w5 ⟨A6, c6, rfl, B8⟩
  have HX5 := Aside0.mk (blk_below HX4.out B8)
  have B9 := Aside0.mk (below_step B7.out B8)
  have B25 := Aside0.mk (below_step (below_step B24.out B34.out) B8)
  have x50 : w5.cell? ⟨w2.heap.size, 0, none⟩ = some (.int .u8 0) := (blk_cell HX5.out 0).trans rfl
  have x52 : w5.cell? ⟨w2.heap.size, 2, none⟩ = some (.slice A5 n5 c5) := (blk_cell HX5.out 2).trans rfl
  clear SP B8
  go_wp2_with fail
  obtain ⟨A7, hsl, hrd⟩ := cutTail (namedB B C) C (encU B.length ++ B) rfl A5 n5 c5 HN5.out (by rw [HN5.out]; exact R3.out.2)
  have hC5 := Kd.C_below R3.out.1 B25.out
  rw [← HN5.out] at hC5
  have hC7 := hrd w5 hC5
  have hcs := Kd.C_string (P := Tryd.prog) (w := w5.drew) (A := A7) (c := c5 - (n5 - C.length)) Tryd.underlying22 Tryd.underlying5 Tryd.underlying9 (Kd.C_below hC7 (below_drew1 (Below.refl _ _)))
  have hct := Kd.C_string (P := Tryd.prog) (w := w5.drew) (A := A1) (c := c1) Tryd.underlying22 Tryd.underlying5 Tryd.underlying9 (Kd.C_below (Kd.C_below HC1.out B9.out) (below_drew1 (Below.refl _ _)))
  have hle1 : B.length + C.length ≤ n5 := by rw [HN5.out]; exact OK.out.2.2.1
  have hle5 : n5 ≤ c5 := by rw [HN5.out]; exact R3.out.2
  have hle2 : (B.length : Int) + (C.length : Int) ≤ (n5 : Int) := by omega
  have hle3 : decide ((B.length : Int) + (C.length : Int) ≤ (n5 : Int)) = true := decide_eq_true hle2
  have hw1 : IntKind.i64.wrap ((B.length : Int) + (C.length : Int)) = (B.length : Int) + (C.length : Int) := IntWalk.i64_in _ (by omega)
  have hw2 : IntKind.i64.wrap ((n5 : Int) - (C.length : Int)) = (n5 : Int) - (C.length : Int) := IntWalk.i64_in _ (by omega)
  clear hrd hC5 hC7
  go_wp2_with fail
  go_still_tail 47, (by kernel_rfl)
  go_wp2_with (go_at_call 17; refine (mandrellaw06_sure.calls true _ rfl).mono ?_; rintro e w6 ⟨rfl, hb⟩; have B10 := Aside0.mk (below_step (below_drew1 B9.out) hb); clear hb)
  go_ret
  exact ⟨rfl, B10.out⟩
theorem sectTexts (A0 : Option Addr) (c0 : Nat) (B : List Int) (A1 : Option Addr) (c1 : Nat) (C : List Int) (w : World) (hA : Kd.C (Kd.int .u8) w A0 B.length B) (hc0 : B.length ≤ c0) (gB : ∀ x ∈ B, (Lit.int .u8 x).wf = true) (hA1 : Kd.C (Kd.int .u8) w A1 C.length C) (hc1 : C.length ≤ c1) (gC : ∀ x ∈ C, (Lit.int .u8 x).wf = true) (hLE : LaidE w) :
    Calls Tryd.prog 9 #[.slice A0 B.length c0, .slice A1 C.length c1] w fun e w' => e = .returned (.bool true) ∧ Below w.heap.size w w' := by
  have hb : ∀ l : List Int, (∀ x ∈ l, (Lit.int .u8 x).wf = true) → BB l := fun l h x hx => by
    have := h x hx
    simp [Lit.wf, IntKind.min, IntKind.max, IntKind.signed, IntKind.bits] at this
    omega
  by_cases h : 400 < B.length ∨ 400 < C.length
  · exact texts_long A0 A1 c0 c1 _ _ w h
  · by_cases h2 : 256 < B.length ∨ textOf B = false
    · exact texts_no A0 A1 c0 c1 B C w hA hc0 (hb B gB) (by omega) (by omega) h2 hLE
    · have h3 : textOf B = true := by
        cases h4 : textOf B with
        | true => rfl
        | false => exact absurd (.inr h4) h2
      exact texts_yes A0 A1 c0 c1 B C w hA hA1 hc0 hc1 (hb B gB) (hb C gC) (by omega) (by omega) h3
theorem opensB : Opens Tryd.prog 22 (Kd.slice 5 (Kd.int .u8)) (fun l => ∀ x ∈ l, (Lit.int .u8 x).wf = true) := opens_slice Tryd.underlying22 (by kernel_rfl) (opens_int Tryd.underlying5)
end Go.Proofs.YtljmikfpknmnnaaDoor.XS
