/- The scanner: the slots are numbered. slices.Repeat at one number. The heap's rows hold what they held. Plain. -/
import Derived.Test.YtolhijnkgkfjgaaDoorScan3
namespace Go.Proofs.YtolhijnkgkfjgaaDoor.XC
open Go.RowKit Go.Proofs.YtolhijnkgkfjgaaDoorW.PrintWords Go.Proofs.YtolhijnkgkfjgaaDoorW.PrintLast Go.Proofs.YtolhijnkgkfjgaaDoorW.PrintMore
attribute [local go_sem] max2_int min2_int max_two min_two max_three min_three max_four min_four   -- for this text's walks alone
set_option linter.unusedVariables false
set_option linter.unusedSimpArgs false
theorem set_size' {w : World} {p : Addr} {v : Value} : (w.setCell p v).heap.size = w.heap.size := by simp [World.setCell]
theorem sAt_set {ss : List SVal} {r : Nat} (hr : r < ss.length) (s : SVal) (r' : Nat) : sAt (ss.set r s) r' = if r' = r then s else sAt ss r' := by
  unfold sAt
  rw [List.getD_eq_getElem?_getD, List.getD_eq_getElem?_getD, List.getElem?_set]
  by_cases e : r' = r
  · subst e
    rw [if_pos rfl, if_pos rfl, if_pos hr]
    rfl
  · rw [if_neg (fun h => e h.symm), if_neg e]
theorem sAt_app (ss : List SVal) (s : SVal) (r : Nat) : sAt (ss ++ [s]) r = if r = ss.length then s else if r < ss.length then sAt ss r else (none, 0, 0) := by
  unfold sAt
  rw [List.getD_eq_getElem?_getD, List.getD_eq_getElem?_getD]
  by_cases e : r = ss.length
  · subst e
    rw [if_pos rfl, List.getElem?_append_right (Nat.le_refl _)]
    simp
  · rw [if_neg e]
    by_cases h : r < ss.length
    · rw [if_pos h, List.getElem?_append_left h]
    · rw [if_neg h, List.getElem?_eq_none (by simp; omega)]
      rfl
theorem rAt_app (rows : List (List Int)) (x : List Int) (r : Nat) : rAt (rows ++ [x]) r = if r = rows.length then x else rAt rows r := by
  unfold rAt
  rw [List.getD_eq_getElem?_getD, List.getD_eq_getElem?_getD]
  by_cases e : r = rows.length
  · subst e
    rw [if_pos rfl, List.getElem?_append_right (Nat.le_refl _)]
    simp
  · rw [if_neg e]
    by_cases h : r < rows.length
    · rw [List.getElem?_append_left h]
    · rw [List.getElem?_eq_none (by simp; omega), List.getElem?_eq_none (by omega)]
section
variable {w w1 : World} {B : Nat} {v v1 : Value} {ss : List SVal} {rows : List (List Int)} {ys : List Int}
theorem SL.out_ne (h : SL w B v ss rows) {r : Nat} (hr : r < rows.length) {b : Nat} (h1 : (encS (sAt ss r)).ownBlock = some b) : v.ownBlock ≠ some b := fun h2 => by
  obtain ⟨cells, hc⟩ := Kd.R_typed h.hout b h2
  exact Kd.R_ne (h.hrow r hr) hc (by decide) h1.symm
theorem SL.append (h : SL w B v ss rows) (ho : RS w1 B v1 (ss ++ [(none, 0, 0)])) (hg : w.grownBy w1 v.ownBlock) : SL w1 B v1 (ss ++ [(none, 0, 0)]) (rows ++ [[]]) := by
  have hk : Kept w w1 (fun b => v.ownBlock = some b) := Kept.of_grown hg (Kept.refl w _) (fun b hb => .inl hb)
  have hl := h.hlen
  have hn : ∀ b, (encS ((none, 0, 0) : SVal)).ownBlock ≠ some b := fun b hb => by cases hb
  refine ⟨ho, by simp [hl], fun r hr => ?_, fun r r' b hr hr' hne hb => ?_⟩
  · rw [sAt_app, rAt_app, hl]
    by_cases e : r = rows.length
    · rw [if_pos e, if_pos e]
      exact Kd.R_nil _ _ _ _ _
    · have hr2 : r < rows.length := by simp at hr; omega
      rw [if_neg e, if_neg e, if_pos hr2]
      exact (h.hrow r hr2).kept hk (fun b hb hb2 => h.out_ne hr2 hb hb2)
  · rw [sAt_app, hl] at hb ⊢
    by_cases e : r = rows.length
    · rw [if_pos e] at hb; exact absurd hb (hn b)
    · have hr2 : r < rows.length := by simp at hr; omega
      rw [if_neg e, if_pos hr2] at hb
      by_cases e' : r' = rows.length
      · rw [if_pos e']; exact hn b
      · have hr2' : r' < rows.length := by simp at hr'; omega
        rw [if_neg e', if_pos hr2']
        exact h.hap r r' b hr2 hr2' hne hb
theorem SL.setRow {g n c : Nat} (h : SL w B (.slice (some ⟨g, 0, none⟩) n c) ss rows) {r : Nat} (hr : r < rows.length) {s1 : SVal} (hv1 : RI w1 B (encS s1) ys) (hk : Kept w w1 (fun b => (encS (sAt ss r)).ownBlock = some b)) (hn : NewOr w (encS (sAt ss r)) (encS s1)) : SL (w1.setCell ⟨g, r, none⟩ (encS s1)) B (.slice (some ⟨g, 0, none⟩) n c) (ss.set r s1) (rows.set r ys) := by
  have hl := h.hlen
  have ho1 : RS w1 B (.slice (some ⟨g, 0, none⟩) n c) ss := h.hout.kept hk (fun b hb hb2 => h.out_ne hr hb2 hb)
  obtain ⟨cells, hc⟩ := Kd.R_typed ho1 g rfl
  have ho2 := Kd.R_putn ho1 (r : Int) s1
  rw [Int.toNat_natCast] at ho2
  have far : ∀ {v : Value} {xs : List Int}, RI w1 B v xs → RI (w1.setCell ⟨g, r, none⟩ (encS s1)) B v xs := fun hv =>
    Kd.R_mono (Kd.R_far (p := ⟨g, r, none⟩) (Kd.R_types hv hc (by decide)) (fun _ hk => hk.2) (encS s1)) (fun _ _ => trivial)
  refine ⟨ho2, by rw [List.length_set, List.length_set]; exact hl, fun r' hr' => ?_, fun r1 r2 b h1 h2 hne hb hb2 => ?_⟩
  · rw [List.length_set] at hr'
    rw [sAt_set (by omega), rAt_set rfl hr]
    by_cases e : r' = r
    · rw [if_pos e, if_pos e]; exact far hv1
    · rw [if_neg e, if_neg e]
      exact far ((h.hrow r' hr').kept hk (fun b hb e2 => h.hap r' r b hr' hr e hb e2))
  · rw [List.length_set] at h1 h2
    rw [sAt_set (by omega)] at hb hb2
    by_cases e1 : r1 = r
    · rw [if_pos e1] at hb
      rw [if_neg (fun e2 => hne (e1.trans e2.symm))] at hb2
      rcases hn b hb with h3 | h3
      · exact h.hap r r2 b hr h2 (fun e => hne (e1.trans e)) h3 hb2
      · have := Kd.R_lt (h.hrow r2 h2) b hb2
        omega
    · rw [if_neg e1] at hb
      by_cases e2 : r2 = r
      · rw [if_pos e2] at hb2
        rcases hn b hb2 with h3 | h3
        · exact h.hap r1 r b h1 hr e1 hb h3
        · have := Kd.R_lt (h.hrow r1 h1) b hb
          omega
      · rw [if_neg e2] at hb2
        exact h.hap r1 r2 b h1 h2 hne hb hb2
end
def slotI (mt : Int → Int → Bool) (rows : List (List Int)) (id : Int) : List (List Int) := match slotR mt rows id with | none => rows ++ [[id]] | some r => rows.set r (rAt rows r ++ [id])
def slotN (mt : Int → Int → Bool) (rows : List (List Int)) (id : Int) : Nat := match slotR mt rows id with | none => rows.length | some r => r
def slotsIn (mt : Int → Int → Bool) : Nat → Nat → List (List Int) → List Int → List (List Int) × List Int
  | 0, _, rows, at_ => (rows, at_)
  | m + 1, i, rows, at_ => if rd at_ (i : Int) = 256 then slotsIn mt m (i + 1) (slotI mt rows (i : Int)) (at_.set i ((256 + slotN mt rows (i : Int) : Nat) : Int)) else slotsIn mt m (i + 1) rows at_
theorem slotFrom_lt {mt : Int → Int → Bool} {rows : List (List Int)} {id : Int} : ∀ {m r r' : Nat}, slotFrom mt rows id m r = some r' → r ≤ r' ∧ r' < r + m ∧ (rAt rows r').any (fun o => mt id o) = false
  | 0, _, _, h => by cases h
  | m + 1, r, r', h => by
    rw [slotFrom] at h
    split at h
    · rename_i h0
      injection h with h
      subst h
      exact ⟨Nat.le_refl _, by omega, h0⟩
    · have := slotFrom_lt h
      exact ⟨by omega, by omega, this.2.2⟩
theorem slotR_lt {mt : Int → Int → Bool} {rows : List (List Int)} {id : Int} {r : Nat} (h : slotR mt rows id = some r) : r < rows.length := by
  have := slotFrom_lt h
  omega
theorem slot_none {mt : Int → Int → Bool} {rows : List (List Int)} {id : Int} (h : slotR mt rows id = none) : slotI mt rows id = (rows ++ [[]]).set rows.length (rAt (rows ++ [[]]) rows.length ++ [id]) ∧ slotN mt rows id = rows.length := by
  unfold slotI slotN
  rw [h, rAt_app, if_pos rfl]
  simp
theorem slot_some {mt : Int → Int → Bool} {rows : List (List Int)} {id : Int} {r : Nat} (h : slotR mt rows id = some r) : slotI mt rows id = rows.set r (rAt rows r ++ [id]) ∧ slotN mt rows id = r := by
  unfold slotI slotN
  rw [h]
  exact ⟨rfl, rfl⟩
/-- How long the slots' rows are, at most. -/
def Small (i : Nat) (rows : List (List Int)) : Prop := rows.length ≤ i ∧ ∀ r, (rAt rows r).length ≤ i
theorem Small.put {i : Nat} {rows : List (List Int)} (h : Small i rows) {r : Nat} (hr : r < rows.length) (x : Int) : Small (i + 1) (rows.set r (rAt rows r ++ [x])) := by
  refine ⟨by rw [List.length_set]; have := h.1; omega, fun r' => ?_⟩
  rw [rAt_set rfl hr]
  by_cases e : r' = r
  · rw [if_pos e]; have := h.2 r; simp; omega
  · rw [if_neg e]; have := h.2 r'; omega
theorem Good.put {l : List Sp} {rows : List (List Int)} (h : Good l rows) {r : Nat} (hr : r < rows.length) {x : Int} (h0 : 0 ≤ x) (h1 : x < (l.length : Int)) : Good l (rows.set r (rAt rows r ++ [x])) := fun r' o ho => by
  rw [rAt_set rfl hr] at ho
  by_cases e : r' = r
  · rw [if_pos e, List.mem_append, List.mem_singleton] at ho
    rcases ho with ho | rfl
    · exact h r o ho
    · exact ⟨h0, h1⟩
  · rw [if_neg e] at ho; exact h r' o ho
theorem Good.nilApp {l : List Sp} {rows : List (List Int)} (h : Good l rows) : Good l (rows ++ [[]]) := fun r o ho => by
  rw [rAt_app] at ho
  by_cases e : r = rows.length
  · rw [if_pos e] at ho; cases ho
  · rw [if_neg e] at ho; exact h r o ho
set_option maxHeartbeats 16000000 in
set_option maxRecDepth 100000 in
theorem s_slots (w0 w : World) (hB : Below w0.heap.size w0 w) (A : Option Addr) (c : Nat) (l : List Sp) (hr : Kd.C k44 w0 A l.length l) (hl : l.length < 10000) (B p gi k : Nat) (va : Value) (vs : List Value) (ins : List (List Int)) (at_ : List Int) (hs : SC w B p gi k va A l.length c vs ins at_) (mt : Int → Int → Bool) (hm : MeetIs l mt) (hB0 : w0.heap.size ≤ B) (hBw : B ≤ w.heap.size) (hal : at_.length = l.length) :
    Calls Tryd.prog 20 #[.pointer (some ⟨p, 0, none⟩)] w fun e w' => e = .returned (.int .i64 ((slotsIn mt l.length 0 [] at_).1.length : Int)) ∧ SC w' B p gi k va A l.length c vs ins (slotsIn mt l.length 0 [] at_).2 ∧ Below w0.heap.size w0 w' ∧ w.heap.size ≤ w'.heap.size := by
  obtain ⟨F, hF⟩ : ∃ F, F = slotsIn mt l.length 0 [] at_ := ⟨_, rfl⟩
  rw [← hF]
  have HF := Aside0.mk hF
  have hmf : ∀ (fn : Fn) (first cap : Array Value) (w : World), (Instr.makeFunc fn first cap).run Tryd.prog w = .ok (.func fn first cap) w := fun _ _ _ _ => rfl
  have HR := Aside0.mk hr
  have HM := Aside0.mk hm
  have HL := Aside0.mk hl
  obtain ⟨va1, n1, ca, hva⟩ : ∃ A n c, va = .slice A n c := by obtain ⟨A, c, h, _⟩ := Kd.R_reads hs.hat; exact ⟨A, _, c, h⟩
  have hn1 : n1 = l.length := by
    obtain ⟨A, c, h, _⟩ := Kd.R_reads hs.hat
    rw [hva] at h
    injection h with _ h _
    rw [h, hal]
  subst hn1
  have HVA := Aside0.mk hva
  have hy2 := (hs.below (below_alloc (Below.refl _ _) (Obj.cells #[.pointer (some ⟨p, 0, none⟩)] 47))).c2
  rw [hva] at hy2
  have HS := Aside0.mk hs
  have HAL := Aside0.mk hal
  have HB := Aside0.mk hB
  have HBW := Aside0.mk (And.intro hB0 hBw)
  have HPL := Aside0.mk hs.ltp
  clear hF hs hB hr hm hB0 hBw hl hal hva
  go_enter Tryd.func20, Tryd.ntmps20
  go_wp2
  obtain ⟨w1, hw1⟩ : ∃ w1, w1 = w.alloc (Obj.cells #[.pointer (some ⟨p, 0, none⟩)] 47) := ⟨_, rfl⟩
  obtain ⟨ts, hts⟩ : ∃ ts, ts = w.heap.size := ⟨_, rfl⟩
  obtain ⟨B2, hB2⟩ : ∃ B2, B2 = w1.heap.size := ⟨_, rfl⟩
  have hb : Below w.heap.size w w1 := by rw [hw1]; exact below_alloc (Below.refl _ _) _
  have hbox : w1.heap[ts]? = some (.cells #[.pointer (some ⟨p, 0, none⟩)] 47 (0, 0)) := by rw [hw1, hts]; show (w.heap.push _)[w.heap.size]? = _; exact Array.getElem?_push_size
  have hsz : w1.heap.size = w.heap.size + 1 := by rw [hw1]; show (w.heap.push _).size = _; exact Array.size_push _
  rw [← hw1, ← hts]
  have HTS := Aside0.mk (show ts < B2 ∧ w0.heap.size ≤ B2 ∧ w.heap.size ≤ B2 by have h1 := HB.out.size; exact ⟨by omega, by omega, by omega⟩)
  have HTB := Aside0.mk hbox
  have HSK := Aside0.mk (show (∀ b, SK gi k va vs b → b < B2) ∧ p < B2 from ⟨fun b hb => by have h1 := (HS.out.SK_lt hb).2; omega, by have h1 := HPL.out; omega⟩)
  have HS1 := Aside0.mk (HS.out.below hb)
  have HBB := Aside0.mk (below_step HB.out hb)
  have HSZ := Aside0.mk hB2
  clear hw1 hts hB2 hb hbox hsz
  go_loopg [3, 12] l.length (fun kq v3 v12 w' => ∃ (i : Nat) (rows : List (List Int)) (at1 : List Int) (ss : List SVal), v12 = .int .i64 (i : Int) ∧ Aside0 (kq + i = l.length) ∧ Aside0 (F = slotsIn mt kq i rows at1) ∧ Aside0 (Good l rows ∧ Small i rows) ∧ Aside0 (at1.length = l.length) ∧ Aside0 (SC w' B p gi k va A l.length c vs ins at1) ∧ Aside0 (SL w' B2 v3 ss rows) ∧ Aside0 (w'.heap[ts]? = some (.cells #[.pointer (some ⟨p, 0, none⟩)] 47 (0, 0))) ∧ Aside0 (Below w0.heap.size w0 w') ∧ Aside0 (B2 ≤ w'.heap.size))
  case atStart => exact ⟨0, [], at_, [], rfl, ⟨rfl⟩, HF, ⟨fun r o ho => by unfold rAt at ho; simp at ho, Nat.le_refl _, fun r => by unfold rAt; simp⟩, HAL, HS1, ⟨SL.nil _ _⟩, HTB, HBB, ⟨by rw [HSZ.out]; exact Nat.le_refl _⟩⟩
  case round =>
    clear HF HS HB HS1 HTB HBB HSZ hy2 HAL
    obtain ⟨i, rows, at1, ss, rfl, HK, HF, HGS, HAL, HS, HSL, HTB, HB, HB2⟩ := hrel
    by_cases hi : i < l.length
    · obtain ⟨k1, rfl⟩ : ∃ k1, gk = k1 + 1 := ⟨gk - 1, by have := HK.out; omega⟩
      have hc : decide ((i : Int) < (l.length : Int)) = true := decide_eq_true (by omega)
      have hi2 : (i < l.length) = True := eq_true hi
      have hi3 : ((i : Int) < (l.length : Int)) = True := eq_true (by omega)
      have hi4 : (0 ≤ (i : Int)) = True := eq_true (by omega)
      have hw := wrap_succ i l.length hi (by have := HL.out; omega)
      have HI := Aside0.mk hi
      obtain ⟨ga, cA, eA, hgaB, _, _, _⟩ := Kd.R_form HS.out.hat (by rw [HAL.out]; omega)
      have HVG := Aside0.mk eA
      obtain rfl : va1 = some ⟨ga, 0, none⟩ := by
        have h := HVA.out.symm.trans eA
        injection h
      have HGA := Aside0.mk (show w0.heap.size ≤ ga ∧ ga < B2 from ⟨by have := HBW.out.1; omega, HSK.out.1 ga (.inr (.inl (by rw [eA]; rfl)))⟩)
      obtain ⟨hy4, _⟩ := Kd.R_celln 0 (show RI wr B (.slice (some ⟨ga, 0, none⟩) at1.length cA) at1 by rw [← eA]; exact HS.out.hat) (i : Int) (by omega) (by rw [HAL.out]; omega)
      rw [Int.toNat_natCast, show rdOf 0 at1 (i : Int) = rd at1 (i : Int) from rfl] at hy4
      have hF := HF.out
      rw [slotsIn] at hF
      obtain ⟨x, hx⟩ : ∃ x, x = rd at1 (i : Int) := ⟨_, rfl⟩
      rw [← hx] at hF hy4
      clear hi HF eA hgaB hx
      by_cases h256 : x = 256
      · have hb1 : (x != 256) = false := bne_eq_false_iff_eq.mpr h256
        rw [if_pos h256] at hF
        have HF := Aside0.mk hF
        clear hF h256
        have HTG := Aside0.mk (show ts ≠ ga from fun e => by
          obtain ⟨cells, hc⟩ := Kd.R_typed HS.out.hat ga (by rw [HVG.out]; rfl)
          rw [← e, HTB.out] at hc
          injection hc with hc
          injection hc with _ hc
          exact absurd hc (by decide))
        cases hsr : slotR mt rows (i : Int) with
        | none =>
          obtain ⟨A3, n3, c3, rfl⟩ : ∃ A n c, u3 = .slice A n c := by obtain ⟨A, c, h, _⟩ := Kd.R_reads HSL.out.hout; exact ⟨A, _, c, h⟩
          have HN3 := Aside0.mk (show n3 = rows.length by rw [← HSL.out.hlen]; exact (Kd.R_reads' HSL.out.hout).1)
          have HSR := Aside0.mk hsr
          obtain ⟨hI, hN⟩ := slot_none hsr
          have hF := HF.out
          rw [hI, hN] at hF
          clear hsr HF hI hN
          go_wp2_with (first
            | ((with_reducible refine gate_dst (N := 4) rfl ?_); refine box_event ?hg (N := 4) ?hd (cs := #[.int .i64 0]) (t := 3) ?hr ?_; (case hd => rfl); (case hg => rfl); (case hr => first | (go_simp; done) | (go_simp; rfl)); intro gb hg w7 hbox hb; have HGB := Aside0.mk hg; have hcz0 : w7.cell? ⟨gb, 0, none⟩ = some (.int .i64 0) := (blk_cell hbox 0).trans rfl; have hfz0 := blk_frozen hbox 0; have HX6 := Aside0.mk (show (w7.setCell ⟨gb, 0, none⟩ (.int .i64 (i : Int))).heap[gb]? = some (.cells #[.int .i64 (i : Int)] 3 (0, 0)) from heap_setCell_block hbox _); have HB6 := Aside0.mk (show Below wr.heap.size wr (w7.setCell ⟨gb, 0, none⟩ (.int .i64 (i : Int))) from below_set (j := 0) (v := .int .i64 (i : Int)) hb (by omega)); have HSL6 := Aside0.mk (HSL.out.below HB6.out); have HCW := Aside0.mk (show CW w0 (w7.setCell ⟨gb, 0, none⟩ (.int .i64 (i : Int))) ts gb p A l.length c (i : Int) from ⟨below_step HB.out HB6.out, (blk_cell ((HB6.out.block ts (Nat.lt_of_lt_of_le HTS.out.1 HB2.out)).trans HTB.out) 0).trans rfl, (blk_cell HX6.out 0).trans rfl, (HS.out.below HB6.out).c0, Nat.lt_of_lt_of_le (Nat.lt_of_lt_of_le HTS.out.1 HB2.out) HB6.out.size, blk_lt HX6.out, Nat.lt_of_lt_of_le (Nat.lt_of_lt_of_le HSK.out.2 HB2.out) HB6.out.size⟩); clear hb hbox hg)
            | (go_at_call 33; refine (c_slot w0 _ A c l HR.out ts gb p mt HM.out (i : Int) (by omega) (by have := HI.out; omega) HCW.out B2 A3 n3 c3 ss rows HSL6.out HN3.out HGS.out.1 (fun r => by have h1 := HGS.out.2.2 r; have h2 := HI.out; have h3 := HL.out; omega) (by have h1 := HGS.out.2.1; have h2 := HI.out; have h3 := HL.out; omega)).mono ?_; rintro e w8 ⟨rfl, hb8⟩; rw [HSR.out, orM1]; have HB8 := Aside0.mk (below_step HB6.out hb8); have HX8 := Aside0.mk ((hb8.block gb (blk_lt HX6.out)).trans HX6.out); have HSL8 := Aside0.mk (HSL6.out.below hb8); clear hb8)
            | ((with_reducible refine gate_builtin (b := .append) (xs := #[.tmp 26, .tmp 27]) rfl ?_); at_builtin; refine Kd.R_append (Kd.scalar encS encS_one) (w0 := w8) B2 rfl (.tmp 26) (.tmp 27) 48 25 (.slice none 0 0) 24 rfl Tryd.underlying48 infoIs rfl (by decide) (by omega) (.slice A3 n3 c3) ss ((none, 0, 0) : SVal) [.slice none 0 0] (fun _ => True) (fun _ => False) rfl rfl ?aP (fun _ hk => hk.elim) ?aF ?aO ?aB ?aS ?aL ?_; (case aP => exact rfl); (case aB => exact Below.refl _ _); (case aF => exact (fun _ _ => trivial)); (case aO => exact HSL8.out.hout); (case aS => exact Nat.le_trans HB2.out HB8.out.size); (case aL => have h0 := HSL.out.hlen; have h1 := HGS.out.2.1; have h2 := HI.out; have h3 := HL.out; omega); intro v9 w9 ho hb hg hat; obtain ⟨A9, n9, c9, e9⟩ : ∃ A n c, v9 = .slice A n c := (by obtain ⟨A, c, h, _⟩ := Kd.R_reads ho; exact ⟨A, _, c, h⟩); subst e9; have HSL9 := Aside0.mk (SL.append HSL8.out ho hg); have HK89 := Aside0.mk (show Kept w8 w9 (fun b => B2 ≤ b) from Kept.of_grown hg (Kept.refl w8 _) (fun b hb => .inl (Kd.R_base HSL8.out.hout b hb))); have HX9 := Aside0.mk ((hg.block gb (blk_lt HX8.out) (Kd.R_ne HSL8.out.hout HX8.out (by decide))).trans HX8.out); have HN9 := Aside0.mk (Kd.R_reads' ho).1; have HBG9 := Aside0.mk hb; clear ho hb hg hat))
          obtain ⟨nn, hnn⟩ : ∃ nn, nn = rows.length := ⟨_, rfl⟩
          have hn3 : n3 = nn := by rw [hnn]; exact HN3.out
          subst hn3
          rw [← hnn] at hF
          obtain ⟨nn, hnn2⟩ : ∃ nn, nn = n3 := ⟨_, rfl⟩
          rw [← hnn2]
          obtain ⟨rowsB, hrB⟩ : ∃ rowsB, rowsB = rows ++ [[]] := ⟨_, rfl⟩
          obtain ⟨ssB, hsB⟩ : ∃ ssB, ssB = ss ++ [((none, 0, 0) : SVal)] := ⟨_, rfl⟩
          have hlB : rowsB.length = rows.length + 1 := by rw [hrB]; simp
          have HFB := Aside0.mk (show F = slotsIn mt k1 (i + 1) (rowsB.set nn (rAt rowsB nn ++ [(i : Int)])) (at1.set i ((256 + nn : Nat) : Int)) by rw [hrB, hnn2]; exact hF)
          have HNN := Aside0.mk (show nn < rowsB.length by omega)
          have HN9B := Aside0.mk (show n9 = rowsB.length by have h1 := HN9.out; have h2 := HSL.out.hlen; rw [List.length_append] at h1; simp at h1; omega)
          have HNS := Aside0.mk (show nn ≤ i by have := HGS.out.2.1; omega)
          have HGD := Aside0.mk (show Good l rowsB by rw [hrB]; exact HGS.out.1.nilApp)
          have hsv : sAt ssB nn = (none, 0, 0) := by rw [hsB, sAt_app, if_pos (by have := HSL.out.hlen; omega)]
          have HNG0 := Aside0.mk (show some gb ≠ (encS (sAt ssB nn)).ownBlock by rw [hsv]; exact fun e => by cases e)
          have hrv : rAt rowsB nn = [] := by rw [hrB, rAt_app, if_pos (by omega)]
          have HSM := Aside0.mk (show (rAt rowsB nn).length ≤ 10000 by rw [hrv]; simp)
          have HSMB := Aside0.mk (show Small (i + 1) (rowsB.set nn (rAt rowsB nn ++ [(i : Int)])) by
            refine ⟨by rw [List.length_set]; have := HGS.out.2.1; omega, fun r' => ?_⟩
            rw [rAt_set rfl HNN.out]
            by_cases e : r' = nn
            · rw [if_pos e, hrv]; simp
            · rw [if_neg e, hrB, rAt_app, if_neg (by omega)]; have := HGS.out.2.2 r'; omega)
          have HB9 := Aside0.mk (show Below w0.heap.size w0 w9 from below_weaken (below_step HB.out HB8.out) HTS.out.2.1 HBG9.out)
          have HS9 := Aside0.mk ((HS.out.below HB8.out).kept HK89.out (fun h => by have := HSK.out.2; omega) (fun b hb h => by have h1 := HSK.out.1 b hb; omega))
          have HTB9 := Aside0.mk ((HK89.out.2 ts (Nat.lt_of_lt_of_le (Nat.lt_of_lt_of_le HTS.out.1 HB2.out) HB8.out.size) (fun h => by have := HTS.out.1; omega)).trans ((HB8.out.block ts (Nat.lt_of_lt_of_le HTS.out.1 HB2.out)).trans HTB.out))
          have HB29 := Aside0.mk (Nat.le_trans (Nat.le_trans HB2.out HB8.out.size) HK89.out.1)
          rw [← hrB, ← hsB] at HSL9
          clear hF hnn hnn2 hrB hsB hlB hsv hrv HS HSL HTB HB HB2 HB6 HSL6 HCW HX6 HX8 HSL8 HB8 HK89 HN9 HSR HBG9 hcz0 hfz0 hy4
          obtain ⟨g9, e9, hg9B, hq0, hz0⟩ := HSL9.out.cell HNN.out
          subst e9
          obtain ⟨v, hv⟩ : ∃ v, v = encS (sAt ssB nn) := ⟨_, rfl⟩
          rw [← hv] at hq0
          have hq1 : w9.cell? ⟨gb, 0, none⟩ = some (.int .i64 (i : Int)) := (blk_cell HX9.out 0).trans rfl
          have HV := Aside0.mk hv
          have HRV := Aside0.mk (show RI w9 B2 v (rAt rowsB nn) by rw [hv]; exact HSL9.out.hrow nn HNN.out)
          have HNG := Aside0.mk (show some gb ≠ v.ownBlock by rw [hv]; exact HNG0.out)
          have hty := Kd.R_typed HSL9.out.hout g9 rfl
          have HTY9 := Aside0.mk hty
          have HG9 := Aside0.mk (show B2 ≤ g9 ∧ g9 < w9.heap.size ∧ some g9 ≠ v.ownBlock from ⟨hg9B, Kd.R_lt HSL9.out.hout g9 rfl, by obtain ⟨cells, hc⟩ := hty; exact Kd.R_ne HRV.out hc (by decide)⟩)
          have HGBN := Aside0.mk (show gb ≠ g9 from fun e => by obtain ⟨cells, hc⟩ := hty; rw [← e, HX9.out] at hc; injection hc with hc; injection hc with _ hc; exact absurd hc (by decide))
          have HQ := Aside0.mk (show ∀ W_, Below w9.heap.size w9 W_ → W_.cell? ⟨g9, nn, none⟩ = some v ∧ W_.cell? ⟨gb, 0, none⟩ = some (.int .i64 (i : Int)) from fun W_ hk => ⟨(hk.cell (p := ⟨g9, nn, none⟩) (Kd.R_lt HSL9.out.hout g9 rfl)).trans hq0, (hk.cell (p := ⟨gb, 0, none⟩) (blk_lt HX9.out)).trans hq1⟩)
          have q1 : (nn < n9) = True := eq_true (by rw [HN9B.out]; exact HNN.out)
          have q2 : ((nn : Int) < (n9 : Int)) = True := eq_true (by rw [HN9B.out]; have := HNN.out; omega)
          have q3 : (0 ≤ (nn : Int)) = True := eq_true (by omega)
          clear hv hty hg9B hz0
          try go_wp2
          refine start_ (n := 11) (S := fun w' => w'.cell? ⟨g9, nn, none⟩ = some (v) ∧ w'.cell? ⟨gb, 0, none⟩ = some (.int .i64 (i : Int))) (ds := [10]) #[false, false, false, false, false, false, false, false, false, false, false] (by kernel_rfl) rfl rfl ⟨hq0, hq1⟩ (fun hHeld => ?_)
          refine pure_ (i := 0) (N := some 29) (v := ?_) (a' := ?_) #[true, false, false, false, false, false, false, false, false, false, false] rfl rfl (by kernel_rfl) (fun _ _ _ h => h) (Or.inl ⟨by rfl, ?_⟩) ?_ ?_
          rotate_left
          · intro w'
            go_simp
            with_reducible rfl
          rotate_left
          · simp only [Act.put, List.setIfInBounds_toArray, List.set_cons_zero, List.set_cons_succ, i64_w, i32_w]
            rfl
          refine pure_ (i := 1) (N := some 30) (v := ?_) (a' := ?_) #[true, true, false, false, false, false, false, false, false, false, false] rfl rfl (by kernel_rfl) (fun _ _ _ h => h) (Or.inl ⟨by rfl, ?_⟩) ?_ ?_
          rotate_left
          · intro w'
            go_simp
            with_reducible rfl
          rotate_left
          · simp only [Act.put, List.setIfInBounds_toArray, List.set_cons_zero, List.set_cons_succ, i64_w, i32_w]
            rfl
          refine pure_ (i := 2) (N := some 31) (v := ?_) (a' := ?_) #[true, true, true, false, false, false, false, false, false, false, false] rfl rfl (by kernel_rfl) (fun _ _ _ h => h) (Or.inl ⟨by rfl, ?_⟩) ?_ ?_
          rotate_left
          · intro w'
            go_simp
            with_reducible rfl
          rotate_left
          · simp only [Act.put, List.setIfInBounds_toArray, List.set_cons_zero, List.set_cons_succ, i64_w, i32_w]
            rfl
          refine pure_ (i := 3) (N := some 32) (v := ?_) (a' := ?_) #[true, true, true, true, false, false, false, false, false, false, false] rfl rfl (by kernel_rfl) (fun _ _ _ h => h) (Or.inl ⟨by rfl, ?_⟩) ?_ ?_
          rotate_left
          · intro w'
            go_simp
            with_reducible rfl
          rotate_left
          · simp only [Act.put, List.setIfInBounds_toArray, List.set_cons_zero, List.set_cons_succ, i64_w, i32_w]
            rfl
          refine pure_ (i := 4) (N := some 33) (v := ?_) (a' := ?_) #[true, true, true, true, true, false, false, false, false, false, false] rfl rfl (by kernel_rfl) (fun _ _ _ h => h) (Or.inl ⟨by rfl, ?_⟩) ?_ ?_
          rotate_left
          · intro w'
            go_simp
            with_reducible rfl
          rotate_left
          · simp only [Act.put, List.setIfInBounds_toArray, List.set_cons_zero, List.set_cons_succ, i64_w, i32_w]
            rfl
          refine take_ (i := 5) (N := some 34) (v := ?_) (a' := ?_) #[true, true, true, true, true, true, false, false, false, false, false] rfl rfl (by kernel_rfl) (fun _ _ _ h => h) (Or.inl ⟨by rfl, ?_⟩) hHeld ?_ ?_
          rotate_left
          · rintro w' ⟨s0, s1⟩
            go_simp
            with_reducible rfl
          rotate_left
          · simp only [Act.put, List.setIfInBounds_toArray, List.set_cons_zero, List.set_cons_succ, i64_w, i32_w]
            rfl
          refine take_ (i := 6) (N := some 35) (v := ?_) (a' := ?_) #[true, true, true, true, true, true, true, false, false, false, false] rfl rfl (by kernel_rfl) (fun _ _ _ h => h) (Or.inl ⟨by rfl, ?_⟩) hHeld ?_ ?_
          rotate_left
          · rintro w' ⟨s0, s1⟩
            go_simp
            with_reducible rfl
          rotate_left
          · simp only [Act.put, List.setIfInBounds_toArray, List.set_cons_zero, List.set_cons_succ, i64_w, i32_w]
            rfl
          refine one_ (i := 7) (N := some 36) #[true, true, true, true, true, true, true, true, false, false, false] rfl rfl (by kernel_rfl) (by decide) (fun K hK => ?_)
          refine value_ (w1 := ?_) (v := ?_) (by rfl) rfl ?_ ?_
          rotate_left 2
          · go_simp
            constructor
            · rfl
            · rfl
          refine hK.out _ _ ⟨(HQ.out _ (below_alloc (below_drew1 (Below.refl _ _)) _)).1, (HQ.out _ (below_alloc (below_drew1 (Below.refl _ _)) _)).2⟩ (fun hHeld => ?_)
          clear hK K
          refine norm_ (a' := ?_) ?_ ?_
          rotate_left
          · show Act.put _ (some 36) _ = _
            simp only [Act.put, List.setIfInBounds_toArray, List.set_cons_zero, List.set_cons_succ, i64_w, i32_w]
            rfl
          refine one_ (i := 8) (N := some 37) #[true, true, true, true, true, true, true, true, true, false, false] rfl rfl (by kernel_rfl) (by decide) (fun K hK => ?_)
          refine Kd.R_append_step (Kd.int .i64) (w0 := w9.drew) B2 (by rfl) _ _ 25 3 (.int .i64 0) 8 (by rfl) Tryd.underlying25 infoI rfl (by decide) (by omega) v (rAt rowsB nn) (i : Int) [.int .i64 (i : Int)] (fun _ => True) (fun _ => False) (by rfl) (by rfl) rfl (fun _ hk => hk.elim) (fun _ _ => trivial) (Kd.R_drew HRV.out) (Below.refl _ _) HB29.out (by have h1 := HSM.out; have h3 := HL.out; omega) ?_
          intro v1 w10 ho hb hg hat
          obtain ⟨A1, n1, c1, e1⟩ : ∃ A n c, v1 = .slice A n c := (by obtain ⟨A, c, h, _⟩ := Kd.R_reads ho; exact ⟨A, _, c, h⟩)
          subst e1
          have HV1 := Aside0.mk (show RI w10 B2 (encS (A1, n1, c1)) (rAt rowsB nn ++ [(i : Int)]) from ho)
          have HG1 := Aside0.mk hg
          have HN1 := Aside0.mk hat
          have hbg := (show w10.heap[g9]? = w9.heap[g9]? from hg.block g9 HG9.out.2.1 HG9.out.2.2)
          have hbb := (show w10.heap[gb]? = w9.heap[gb]? from hg.block gb (blk_lt HX9.out) HNG.out)
          have hy1 : w10.cell? ⟨g9, nn, none⟩ = some v := by simpa [World.cell?, hbg] using hq0
          have hz1 : w10.frozen? ⟨g9, nn, none⟩ = false := by obtain ⟨cells, hc⟩ := HTY9.out; exact blk_frozen (hbg.trans hc) nn
          have hy0 : w10.cell? ⟨gb, 0, none⟩ = some (.int .i64 (i : Int)) := by simpa [World.cell?, hbb] using hq1
          have HX10 := Aside0.mk (hbb.trans HX9.out)
          clear ho hb hg hat hbg hbb
          refine hK.out _ _ ⟨hy1, hy0⟩ (fun hHeld => ?_)
          clear hK K
          refine norm_ (a' := ?_) ?_ ?_
          rotate_left
          · show Act.put _ (some 37) _ = _
            simp only [Act.put, List.setIfInBounds_toArray, List.set_cons_zero, List.set_cons_succ, i64_w, i32_w]
            rfl
          refine pure_ (i := 9) (N := some 38) (v := ?_) (a' := ?_) #[true, true, true, true, true, true, true, true, true, true, false] rfl rfl (by kernel_rfl) (fun _ _ _ h => h) (Or.inl ⟨by rfl, ?_⟩) ?_ ?_
          rotate_left
          · intro w'
            go_simp
            with_reducible rfl
          rotate_left
          · simp only [Act.put, List.setIfInBounds_toArray, List.set_cons_zero, List.set_cons_succ, i64_w, i32_w]
            rfl
          refine last_ (i := 10) (N := none) #[true, true, true, true, true, true, true, true, true, true, true] rfl rfl (by kernel_rfl) (by decide) (fun K hK => ?_)
          refine skip_ (w1 := ?_) (by rfl) rfl ?_ ?_
          rotate_left
          · go_simp
            rfl
          refine hK.out _ _ ?_
          clear hK K
          refine done_ (by kernel_rfl) ?_

          have HKR := Aside0.mk (show Kept w9.drew w10 (fun b => (encS (sAt ssB nn)).ownBlock = some b) from Kept.of_grown HG1.out (Kept.refl _ _) (fun b hb => .inl (by rw [← HV.out]; exact hb)))
          have HNO := Aside0.mk (show NewOr w9.drew (encS (sAt ssB nn)) (encS (A1, n1, c1)) from fun b hb => HN1.out.elim (fun h => .inl (by rw [← HV.out, ← h]; exact hb)) (fun ⟨b', h, hb'⟩ => .inr (by have hb2 : (Value.slice A1 n1 c1).ownBlock = some b := hb; rw [h] at hb2; injection hb2 with hb2; rw [← hb2]; exact hb')))
          have HSL11 := Aside0.mk (SL.setRow (HSL9.out.below (below_drew1 (Below.refl _ _))) HNN.out HV1.out HKR.out HNO.out)
          have HK11 := Aside0.mk (show Kept w9 (w10.setCell ⟨g9, nn, none⟩ (.slice A1 n1 c1)) (fun b => B2 ≤ b) from Kept.setCell (S := fun b => B2 ≤ b) ((Kept.of_below (below_drew1 (Below.refl _ _)) (fun b => B2 ≤ b)).then_ HKR.out (fun b hb => .inl (Kd.R_base HRV.out b (by rw [HV.out]; exact hb)))) (p := ⟨g9, nn, none⟩) (.inl HG9.out.1) _)
          have HB11 := Aside0.mk (show Below w0.heap.size w0 (w10.setCell ⟨g9, nn, none⟩ (.slice A1 n1 c1)) from below_set (j := nn) (v := .slice A1 n1 c1) ((below_drew1 HB9.out).grown HG1.out (below_drew1 HB9.out).size (fun b hb => Nat.le_trans HTS.out.2.1 (Kd.R_base HRV.out b hb))) (Nat.le_trans HTS.out.2.1 HG9.out.1))
          have HX11 := Aside0.mk (show (w10.setCell ⟨g9, nn, none⟩ (.slice A1 n1 c1)).heap[gb]? = some (.cells #[.int .i64 (i : Int)] 3 (0, 0)) from (Below.heap_setCell _ ⟨g9, nn, none⟩ _ _ HGBN.out).trans HX10.out)
          have HS11 := Aside0.mk (HS9.out.kept HK11.out (fun h => by have := HSK.out.2; omega) (fun b hb h => by have h1 := HSK.out.1 b hb; omega))
          have HTB11 := Aside0.mk ((HK11.out.2 ts (blk_lt HTB9.out) (fun h => by have := HTS.out.1; omega)).trans HTB9.out)
          have HB211 := Aside0.mk (Nat.le_trans HB29.out HK11.out.1)
          have HSL11 := Aside0.mk (show SL (w10.setCell ⟨g9, nn, none⟩ (.slice A1 n1 c1)) B2 (.slice (some ⟨g9, 0, none⟩) n9 c9) (ssB.set nn (A1, n1, c1)) (rowsB.set nn (rAt rowsB nn ++ [(i : Int)])) from HSL11.out)
          clear hHeld hy0 hy1 hz1 hq0 hq1 HQ HNO HKR HV1 HG1 HN1 HX10 HX9 HSL9 HB9 HS9 HTB9 HB29 HRV HNG HTY9 HK11
          generalize w10.setCell ⟨g9, nn, none⟩ (.slice A1 n1 c1) = w11 at HSL11 HB11 HX11 HS11 HTB11 HB211 ⊢
          have hq2 : w11.cell? ⟨ts, 0, none⟩ = some (.pointer (some ⟨p, 0, none⟩)) := (blk_cell HTB11.out 0).trans rfl
          have hq3 := HS11.out.c2
          rw [HVA.out] at hq3
          have hq4 : w11.cell? ⟨gb, 0, none⟩ = some (.int .i64 (i : Int)) := (blk_cell HX11.out 0).trans rfl
          have HS12 := Aside0.mk HS11.out.drew
          have HSL12 := Aside0.mk (HSL11.out.below (below_drew1 (Below.refl _ _)))
          have HTB12 := Aside0.mk (show w11.drew.heap[ts]? = _ from HTB11.out)
          have HBB12 := Aside0.mk (below_drew1 HB11.out)
          have HB212 := Aside0.mk (show B2 ≤ w11.drew.heap.size from HB211.out)
          obtain ⟨hq5, hz5⟩ := Kd.R_celln 0 (show RI w11.drew B (.slice (some ⟨ga, 0, none⟩) at1.length cA) at1 by rw [← HVG.out]; exact HS12.out.hat) (i : Int) (by omega) (by rw [HAL.out]; have := HI.out; omega)
          rw [Int.toNat_natCast] at hq5 hz5
          have hw256 : wrap64 (256 + (nn : Int)) = ((256 + nn : Nat) : Int) := by unfold wrap64; have h1 := HNS.out; have h2 := HI.out; have h3 := HL.out; omega
          clear HS11 HSL11 HTB11 HB11 HB211 HX11
          go_wp2
          refine start_ (n := 9) (S := fun w' => w'.cell? ⟨ts, 0, none⟩ = some (.pointer (some ⟨p, 0, none⟩)) ∧ w'.cell? ⟨p, 2, none⟩ = some (.slice (some ⟨ga, 0, none⟩) l.length ca) ∧ w'.cell? ⟨gb, 0, none⟩ = some (.int .i64 (i : Int))) (ds := [8]) #[false, false, false, false, false, false, false, false, false] (by kernel_rfl) rfl rfl ⟨hq2, hq3, hq4⟩ (fun hHeld => ?_)
          generalize w11.drew = w12 at HS12 HSL12 HTB12 HBB12 HB212 hq5 hz5 hHeld ⊢
          refine pure_ (i := 5) (N := some 44) (v := ?_) (a' := ?_) #[false, false, false, false, false, true, false, false, false] rfl rfl (by kernel_rfl) (fun _ _ _ h => h) (Or.inl ⟨by rfl, ?_⟩) ?_ ?_
          rotate_left
          · intro w'
            go_simp
            with_reducible rfl
          rotate_left
          · simp only [Act.put, List.setIfInBounds_toArray, List.set_cons_zero, List.set_cons_succ, i64_w, i32_w]
            rfl
          refine pure_ (i := 6) (N := some 45) (v := ?_) (a' := ?_) #[false, false, false, false, false, true, true, false, false] rfl rfl (by kernel_rfl) (fun _ _ _ h => h) (Or.inl ⟨by rfl, ?_⟩) ?_ ?_
          rotate_left
          · intro w'
            go_simp
            with_reducible rfl
          rotate_left
          · simp only [Act.put, List.setIfInBounds_toArray, List.set_cons_zero, List.set_cons_succ, i64_w, i32_w]
            rfl
          refine take_ (i := 0) (N := some 39) (v := ?_) (a' := ?_) #[true, false, false, false, false, true, true, false, false] rfl rfl (by kernel_rfl) (fun _ _ _ h => h) (Or.inl ⟨by rfl, ?_⟩) hHeld ?_ ?_
          rotate_left
          · rintro w' ⟨s0, s1, s2⟩
            go_simp
            with_reducible rfl
          rotate_left
          · simp only [Act.put, List.setIfInBounds_toArray, List.set_cons_zero, List.set_cons_succ, i64_w, i32_w]
            rfl
          refine pure_ (i := 1) (N := some 40) (v := ?_) (a' := ?_) #[true, true, false, false, false, true, true, false, false] rfl rfl (by kernel_rfl) (fun _ _ _ h => h) (Or.inl ⟨by rfl, ?_⟩) ?_ ?_
          rotate_left
          · intro w'
            go_simp
            with_reducible rfl
          rotate_left
          · simp only [Act.put, List.setIfInBounds_toArray, List.set_cons_zero, List.set_cons_succ, i64_w, i32_w]
            rfl
          refine pure_ (i := 2) (N := some 41) (v := ?_) (a' := ?_) #[true, true, true, false, false, true, true, false, false] rfl rfl (by kernel_rfl) (fun _ _ _ h => h) (Or.inl ⟨by rfl, ?_⟩) ?_ ?_
          rotate_left
          · intro w'
            go_simp
            with_reducible rfl
          rotate_left
          · simp only [Act.put, List.setIfInBounds_toArray, List.set_cons_zero, List.set_cons_succ, i64_w, i32_w]
            rfl
          refine take_ (i := 3) (N := some 42) (v := ?_) (a' := ?_) #[true, true, true, true, false, true, true, false, false] rfl rfl (by kernel_rfl) (fun _ _ _ h => h) (Or.inl ⟨by rfl, ?_⟩) hHeld ?_ ?_
          rotate_left
          · rintro w' ⟨s0, s1, s2⟩
            go_simp
            with_reducible rfl
          rotate_left
          · simp only [Act.put, List.setIfInBounds_toArray, List.set_cons_zero, List.set_cons_succ, i64_w, i32_w]
            rfl
          refine take_ (i := 4) (N := some 43) (v := ?_) (a' := ?_) #[true, true, true, true, true, true, true, false, false] rfl rfl (by kernel_rfl) (fun _ _ _ h => h) (Or.inl ⟨by rfl, ?_⟩) hHeld ?_ ?_
          rotate_left
          · rintro w' ⟨s0, s1, s2⟩
            go_simp
            with_reducible rfl
          rotate_left
          · simp only [Act.put, List.setIfInBounds_toArray, List.set_cons_zero, List.set_cons_succ, i64_w, i32_w]
            rfl
          refine pure_ (i := 7) (N := some 46) (v := ?_) (a' := ?_) #[true, true, true, true, true, true, true, true, false] rfl rfl (by kernel_rfl) (fun _ _ _ h => h) (Or.inl ⟨by rfl, ?_⟩) ?_ ?_
          rotate_left
          · intro w'
            go_simp
            with_reducible rfl
          rotate_left
          · simp only [Act.put, List.setIfInBounds_toArray, List.set_cons_zero, List.set_cons_succ, i64_w, i32_w]
            rfl
          refine last_ (i := 8) (N := none) #[true, true, true, true, true, true, true, true, true] rfl rfl (by kernel_rfl) (by decide) (fun K hK => ?_)
          refine skip_ (w1 := ?_) (by rfl) rfl ?_ ?_
          rotate_left
          · go_simp
            rfl
          refine hK.out _ _ ?_
          clear hK K
          refine done_ (by kernel_rfl) ?_

          go_wp2
          go_roundg k1
          case measure => omega
          case rel => exact ⟨i + 1, _, _, _, (by first | rw [hw] | rfl | (push_cast; rfl)), ⟨by have := HK.out; omega⟩, HFB, ⟨HGD.out.put HNN.out (by omega) (by have := HI.out; omega), HSMB.out⟩, ⟨by rw [List.length_set]; exact HAL.out⟩, ⟨by first | exact SC.setAt HS12.out i ((256 + nn : Nat) : Int) HVG.out | (rw [hw256]; exact SC.setAt HS12.out i ((256 + nn : Nat) : Int) HVG.out)⟩, ⟨HSL12.out.kept (Kept.setCell (S := fun b => b = ga) (Kept.refl _ _) (p := ⟨ga, i, none⟩) (.inl rfl) _) (fun b hb => by rw [hb]; exact HGA.out.2)⟩, ⟨(Below.heap_setCell _ ⟨ga, i, none⟩ _ _ HTG.out).trans HTB12.out⟩, ⟨below_set HBB12.out HGA.out.1⟩, ⟨by rw [set_size']; exact HB212.out⟩⟩
        | some rr =>
          obtain ⟨A9, n9, c9, rfl⟩ : ∃ A n c, u3 = .slice A n c := by obtain ⟨A, c, h, _⟩ := Kd.R_reads HSL.out.hout; exact ⟨A, _, c, h⟩
          have HN3 := Aside0.mk (show n9 = rows.length by rw [← HSL.out.hlen]; exact (Kd.R_reads' HSL.out.hout).1)
          have HSR := Aside0.mk hsr
          obtain ⟨hI, hN⟩ := slot_some hsr
          have hF := HF.out
          rw [hI, hN] at hF
          have HNN := Aside0.mk (slotR_lt hsr)
          have hneg : decide ((rr : Int) < 0) = false := decide_eq_false (by omega)
          clear hsr HF hI hN
          go_wp2_with (first
            | ((with_reducible refine gate_dst (N := 4) rfl ?_); refine box_event ?hg (N := 4) ?hd (cs := #[.int .i64 0]) (t := 3) ?hr ?_; (case hd => rfl); (case hg => rfl); (case hr => first | (go_simp; done) | (go_simp; rfl)); intro gb hg w7 hbox hb; have HGB := Aside0.mk hg; have hcz0 : w7.cell? ⟨gb, 0, none⟩ = some (.int .i64 0) := (blk_cell hbox 0).trans rfl; have hfz0 := blk_frozen hbox 0; have HX6 := Aside0.mk (show (w7.setCell ⟨gb, 0, none⟩ (.int .i64 (i : Int))).heap[gb]? = some (.cells #[.int .i64 (i : Int)] 3 (0, 0)) from heap_setCell_block hbox _); have HB6 := Aside0.mk (show Below wr.heap.size wr (w7.setCell ⟨gb, 0, none⟩ (.int .i64 (i : Int))) from below_set (j := 0) (v := .int .i64 (i : Int)) hb (by omega)); have HSL6 := Aside0.mk (HSL.out.below HB6.out); have HCW := Aside0.mk (show CW w0 (w7.setCell ⟨gb, 0, none⟩ (.int .i64 (i : Int))) ts gb p A l.length c (i : Int) from ⟨below_step HB.out HB6.out, (blk_cell ((HB6.out.block ts (Nat.lt_of_lt_of_le HTS.out.1 HB2.out)).trans HTB.out) 0).trans rfl, (blk_cell HX6.out 0).trans rfl, (HS.out.below HB6.out).c0, Nat.lt_of_lt_of_le (Nat.lt_of_lt_of_le HTS.out.1 HB2.out) HB6.out.size, blk_lt HX6.out, Nat.lt_of_lt_of_le (Nat.lt_of_lt_of_le HSK.out.2 HB2.out) HB6.out.size⟩); clear hb hbox hg)
            | (go_at_call 33; refine (c_slot w0 _ A c l HR.out ts gb p mt HM.out (i : Int) (by omega) (by have := HI.out; omega) HCW.out B2 A9 n9 c9 ss rows HSL6.out HN3.out HGS.out.1 (fun r => by have h1 := HGS.out.2.2 r; have h2 := HI.out; have h3 := HL.out; omega) (by have h1 := HGS.out.2.1; have h2 := HI.out; have h3 := HL.out; omega)).mono ?_; rintro e w9 ⟨rfl, hb8⟩; rw [HSR.out, orM1]; have HB8 := Aside0.mk (below_step HB6.out hb8); have HX9 := Aside0.mk ((hb8.block gb (blk_lt HX6.out)).trans HX6.out); have HSL9 := Aside0.mk (HSL6.out.below hb8); clear hb8))
          obtain ⟨nn, hnn⟩ : ∃ nn, nn = rr := ⟨_, rfl⟩
          rw [← hnn] at hF HNN ⊢
          obtain ⟨rowsB, hrB⟩ : ∃ rowsB, rowsB = rows := ⟨_, rfl⟩
          obtain ⟨ssB, hsB⟩ : ∃ ssB, ssB = ss := ⟨_, rfl⟩
          rw [← hrB] at hF HNN
          have HFB := Aside0.mk hF
          have HN9B := Aside0.mk (show n9 = rowsB.length by rw [hrB]; exact HN3.out)
          have HNS := Aside0.mk (show nn ≤ i by have h1 := HGS.out.2.1; have h2 := HNN.out; rw [hrB] at h2; omega)
          have HGD := Aside0.mk (show Good l rowsB by rw [hrB]; exact HGS.out.1)
          have HNG0 := Aside0.mk (show some gb ≠ (encS (sAt ssB nn)).ownBlock by
            rw [hsB]
            intro e
            have h1 := Kd.R_lt (HSL.out.hrow nn (by rw [← hrB]; exact HNN.out)) gb e.symm
            have h2 := HGB.out
            omega)
          have HSM := Aside0.mk (show (rAt rowsB nn).length ≤ 10000 by rw [hrB]; have h1 := HGS.out.2.2 nn; have h2 := HI.out; have h3 := HL.out; omega)
          have HSMB := Aside0.mk (show Small (i + 1) (rowsB.set nn (rAt rowsB nn ++ [(i : Int)])) by rw [hrB] at HNN ⊢; exact HGS.out.2.put HNN.out _)
          have HB9 := Aside0.mk (below_step HB.out HB8.out)
          have HS9 := Aside0.mk (HS.out.below HB8.out)
          have HTB9 := Aside0.mk ((HB8.out.block ts (Nat.lt_of_lt_of_le HTS.out.1 HB2.out)).trans HTB.out)
          have HB29 := Aside0.mk (Nat.le_trans HB2.out HB8.out.size)
          rw [← hrB, ← hsB] at HSL9
          clear hF hnn hrB hsB HS HSL HTB HB HB2 HB6 HSL6 HCW HX6 HB8 HSR hcz0 hfz0 hy4
          obtain ⟨g9, e9, hg9B, hq0, hz0⟩ := HSL9.out.cell HNN.out
          subst e9
          obtain ⟨v, hv⟩ : ∃ v, v = encS (sAt ssB nn) := ⟨_, rfl⟩
          rw [← hv] at hq0
          have hq1 : w9.cell? ⟨gb, 0, none⟩ = some (.int .i64 (i : Int)) := (blk_cell HX9.out 0).trans rfl
          have HV := Aside0.mk hv
          have HRV := Aside0.mk (show RI w9 B2 v (rAt rowsB nn) by rw [hv]; exact HSL9.out.hrow nn HNN.out)
          have HNG := Aside0.mk (show some gb ≠ v.ownBlock by rw [hv]; exact HNG0.out)
          have hty := Kd.R_typed HSL9.out.hout g9 rfl
          have HTY9 := Aside0.mk hty
          have HG9 := Aside0.mk (show B2 ≤ g9 ∧ g9 < w9.heap.size ∧ some g9 ≠ v.ownBlock from ⟨hg9B, Kd.R_lt HSL9.out.hout g9 rfl, by obtain ⟨cells, hc⟩ := hty; exact Kd.R_ne HRV.out hc (by decide)⟩)
          have HGBN := Aside0.mk (show gb ≠ g9 from fun e => by obtain ⟨cells, hc⟩ := hty; rw [← e, HX9.out] at hc; injection hc with hc; injection hc with _ hc; exact absurd hc (by decide))
          have HQ := Aside0.mk (show ∀ W_, Below w9.heap.size w9 W_ → W_.cell? ⟨g9, nn, none⟩ = some v ∧ W_.cell? ⟨gb, 0, none⟩ = some (.int .i64 (i : Int)) from fun W_ hk => ⟨(hk.cell (p := ⟨g9, nn, none⟩) (Kd.R_lt HSL9.out.hout g9 rfl)).trans hq0, (hk.cell (p := ⟨gb, 0, none⟩) (blk_lt HX9.out)).trans hq1⟩)
          have q1 : (nn < n9) = True := eq_true (by rw [HN9B.out]; exact HNN.out)
          have q2 : ((nn : Int) < (n9 : Int)) = True := eq_true (by rw [HN9B.out]; have := HNN.out; omega)
          have q3 : (0 ≤ (nn : Int)) = True := eq_true (by omega)
          clear hv hty hg9B hz0
          try go_wp2
          refine start_ (n := 11) (S := fun w' => w'.cell? ⟨g9, nn, none⟩ = some (v) ∧ w'.cell? ⟨gb, 0, none⟩ = some (.int .i64 (i : Int))) (ds := [10]) #[false, false, false, false, false, false, false, false, false, false, false] (by kernel_rfl) rfl rfl ⟨hq0, hq1⟩ (fun hHeld => ?_)
          refine pure_ (i := 0) (N := some 29) (v := ?_) (a' := ?_) #[true, false, false, false, false, false, false, false, false, false, false] rfl rfl (by kernel_rfl) (fun _ _ _ h => h) (Or.inl ⟨by rfl, ?_⟩) ?_ ?_
          rotate_left
          · intro w'
            go_simp
            with_reducible rfl
          rotate_left
          · simp only [Act.put, List.setIfInBounds_toArray, List.set_cons_zero, List.set_cons_succ, i64_w, i32_w]
            rfl
          refine pure_ (i := 1) (N := some 30) (v := ?_) (a' := ?_) #[true, true, false, false, false, false, false, false, false, false, false] rfl rfl (by kernel_rfl) (fun _ _ _ h => h) (Or.inl ⟨by rfl, ?_⟩) ?_ ?_
          rotate_left
          · intro w'
            go_simp
            with_reducible rfl
          rotate_left
          · simp only [Act.put, List.setIfInBounds_toArray, List.set_cons_zero, List.set_cons_succ, i64_w, i32_w]
            rfl
          refine pure_ (i := 2) (N := some 31) (v := ?_) (a' := ?_) #[true, true, true, false, false, false, false, false, false, false, false] rfl rfl (by kernel_rfl) (fun _ _ _ h => h) (Or.inl ⟨by rfl, ?_⟩) ?_ ?_
          rotate_left
          · intro w'
            go_simp
            with_reducible rfl
          rotate_left
          · simp only [Act.put, List.setIfInBounds_toArray, List.set_cons_zero, List.set_cons_succ, i64_w, i32_w]
            rfl
          refine pure_ (i := 3) (N := some 32) (v := ?_) (a' := ?_) #[true, true, true, true, false, false, false, false, false, false, false] rfl rfl (by kernel_rfl) (fun _ _ _ h => h) (Or.inl ⟨by rfl, ?_⟩) ?_ ?_
          rotate_left
          · intro w'
            go_simp
            with_reducible rfl
          rotate_left
          · simp only [Act.put, List.setIfInBounds_toArray, List.set_cons_zero, List.set_cons_succ, i64_w, i32_w]
            rfl
          refine pure_ (i := 4) (N := some 33) (v := ?_) (a' := ?_) #[true, true, true, true, true, false, false, false, false, false, false] rfl rfl (by kernel_rfl) (fun _ _ _ h => h) (Or.inl ⟨by rfl, ?_⟩) ?_ ?_
          rotate_left
          · intro w'
            go_simp
            with_reducible rfl
          rotate_left
          · simp only [Act.put, List.setIfInBounds_toArray, List.set_cons_zero, List.set_cons_succ, i64_w, i32_w]
            rfl
          refine take_ (i := 5) (N := some 34) (v := ?_) (a' := ?_) #[true, true, true, true, true, true, false, false, false, false, false] rfl rfl (by kernel_rfl) (fun _ _ _ h => h) (Or.inl ⟨by rfl, ?_⟩) hHeld ?_ ?_
          rotate_left
          · rintro w' ⟨s0, s1⟩
            go_simp
            with_reducible rfl
          rotate_left
          · simp only [Act.put, List.setIfInBounds_toArray, List.set_cons_zero, List.set_cons_succ, i64_w, i32_w]
            rfl
          refine take_ (i := 6) (N := some 35) (v := ?_) (a' := ?_) #[true, true, true, true, true, true, true, false, false, false, false] rfl rfl (by kernel_rfl) (fun _ _ _ h => h) (Or.inl ⟨by rfl, ?_⟩) hHeld ?_ ?_
          rotate_left
          · rintro w' ⟨s0, s1⟩
            go_simp
            with_reducible rfl
          rotate_left
          · simp only [Act.put, List.setIfInBounds_toArray, List.set_cons_zero, List.set_cons_succ, i64_w, i32_w]
            rfl
          refine one_ (i := 7) (N := some 36) #[true, true, true, true, true, true, true, true, false, false, false] rfl rfl (by kernel_rfl) (by decide) (fun K hK => ?_)
          refine value_ (w1 := ?_) (v := ?_) (by rfl) rfl ?_ ?_
          rotate_left 2
          · go_simp
            constructor
            · rfl
            · rfl
          refine hK.out _ _ ⟨(HQ.out _ (below_alloc (below_drew1 (Below.refl _ _)) _)).1, (HQ.out _ (below_alloc (below_drew1 (Below.refl _ _)) _)).2⟩ (fun hHeld => ?_)
          clear hK K
          refine norm_ (a' := ?_) ?_ ?_
          rotate_left
          · show Act.put _ (some 36) _ = _
            simp only [Act.put, List.setIfInBounds_toArray, List.set_cons_zero, List.set_cons_succ, i64_w, i32_w]
            rfl
          refine one_ (i := 8) (N := some 37) #[true, true, true, true, true, true, true, true, true, false, false] rfl rfl (by kernel_rfl) (by decide) (fun K hK => ?_)
          refine Kd.R_append_step (Kd.int .i64) (w0 := w9.drew) B2 (by rfl) _ _ 25 3 (.int .i64 0) 8 (by rfl) Tryd.underlying25 infoI rfl (by decide) (by omega) v (rAt rowsB nn) (i : Int) [.int .i64 (i : Int)] (fun _ => True) (fun _ => False) (by rfl) (by rfl) rfl (fun _ hk => hk.elim) (fun _ _ => trivial) (Kd.R_drew HRV.out) (Below.refl _ _) HB29.out (by have h1 := HSM.out; have h3 := HL.out; omega) ?_
          intro v1 w10 ho hb hg hat
          obtain ⟨A1, n1, c1, e1⟩ : ∃ A n c, v1 = .slice A n c := (by obtain ⟨A, c, h, _⟩ := Kd.R_reads ho; exact ⟨A, _, c, h⟩)
          subst e1
          have HV1 := Aside0.mk (show RI w10 B2 (encS (A1, n1, c1)) (rAt rowsB nn ++ [(i : Int)]) from ho)
          have HG1 := Aside0.mk hg
          have HN1 := Aside0.mk hat
          have hbg := (show w10.heap[g9]? = w9.heap[g9]? from hg.block g9 HG9.out.2.1 HG9.out.2.2)
          have hbb := (show w10.heap[gb]? = w9.heap[gb]? from hg.block gb (blk_lt HX9.out) HNG.out)
          have hy1 : w10.cell? ⟨g9, nn, none⟩ = some v := by simpa [World.cell?, hbg] using hq0
          have hz1 : w10.frozen? ⟨g9, nn, none⟩ = false := by obtain ⟨cells, hc⟩ := HTY9.out; exact blk_frozen (hbg.trans hc) nn
          have hy0 : w10.cell? ⟨gb, 0, none⟩ = some (.int .i64 (i : Int)) := by simpa [World.cell?, hbb] using hq1
          have HX10 := Aside0.mk (hbb.trans HX9.out)
          clear ho hb hg hat hbg hbb
          refine hK.out _ _ ⟨hy1, hy0⟩ (fun hHeld => ?_)
          clear hK K
          refine norm_ (a' := ?_) ?_ ?_
          rotate_left
          · show Act.put _ (some 37) _ = _
            simp only [Act.put, List.setIfInBounds_toArray, List.set_cons_zero, List.set_cons_succ, i64_w, i32_w]
            rfl
          refine pure_ (i := 9) (N := some 38) (v := ?_) (a' := ?_) #[true, true, true, true, true, true, true, true, true, true, false] rfl rfl (by kernel_rfl) (fun _ _ _ h => h) (Or.inl ⟨by rfl, ?_⟩) ?_ ?_
          rotate_left
          · intro w'
            go_simp
            with_reducible rfl
          rotate_left
          · simp only [Act.put, List.setIfInBounds_toArray, List.set_cons_zero, List.set_cons_succ, i64_w, i32_w]
            rfl
          refine last_ (i := 10) (N := none) #[true, true, true, true, true, true, true, true, true, true, true] rfl rfl (by kernel_rfl) (by decide) (fun K hK => ?_)
          refine skip_ (w1 := ?_) (by rfl) rfl ?_ ?_
          rotate_left
          · go_simp
            rfl
          refine hK.out _ _ ?_
          clear hK K
          refine done_ (by kernel_rfl) ?_

          have HKR := Aside0.mk (show Kept w9.drew w10 (fun b => (encS (sAt ssB nn)).ownBlock = some b) from Kept.of_grown HG1.out (Kept.refl _ _) (fun b hb => .inl (by rw [← HV.out]; exact hb)))
          have HNO := Aside0.mk (show NewOr w9.drew (encS (sAt ssB nn)) (encS (A1, n1, c1)) from fun b hb => HN1.out.elim (fun h => .inl (by rw [← HV.out, ← h]; exact hb)) (fun ⟨b', h, hb'⟩ => .inr (by have hb2 : (Value.slice A1 n1 c1).ownBlock = some b := hb; rw [h] at hb2; injection hb2 with hb2; rw [← hb2]; exact hb')))
          have HSL11 := Aside0.mk (SL.setRow (HSL9.out.below (below_drew1 (Below.refl _ _))) HNN.out HV1.out HKR.out HNO.out)
          have HK11 := Aside0.mk (show Kept w9 (w10.setCell ⟨g9, nn, none⟩ (.slice A1 n1 c1)) (fun b => B2 ≤ b) from Kept.setCell (S := fun b => B2 ≤ b) ((Kept.of_below (below_drew1 (Below.refl _ _)) (fun b => B2 ≤ b)).then_ HKR.out (fun b hb => .inl (Kd.R_base HRV.out b (by rw [HV.out]; exact hb)))) (p := ⟨g9, nn, none⟩) (.inl HG9.out.1) _)
          have HB11 := Aside0.mk (show Below w0.heap.size w0 (w10.setCell ⟨g9, nn, none⟩ (.slice A1 n1 c1)) from below_set (j := nn) (v := .slice A1 n1 c1) ((below_drew1 HB9.out).grown HG1.out (below_drew1 HB9.out).size (fun b hb => Nat.le_trans HTS.out.2.1 (Kd.R_base HRV.out b hb))) (Nat.le_trans HTS.out.2.1 HG9.out.1))
          have HX11 := Aside0.mk (show (w10.setCell ⟨g9, nn, none⟩ (.slice A1 n1 c1)).heap[gb]? = some (.cells #[.int .i64 (i : Int)] 3 (0, 0)) from (Below.heap_setCell _ ⟨g9, nn, none⟩ _ _ HGBN.out).trans HX10.out)
          have HS11 := Aside0.mk (HS9.out.kept HK11.out (fun h => by have := HSK.out.2; omega) (fun b hb h => by have h1 := HSK.out.1 b hb; omega))
          have HTB11 := Aside0.mk ((HK11.out.2 ts (blk_lt HTB9.out) (fun h => by have := HTS.out.1; omega)).trans HTB9.out)
          have HB211 := Aside0.mk (Nat.le_trans HB29.out HK11.out.1)
          have HSL11 := Aside0.mk (show SL (w10.setCell ⟨g9, nn, none⟩ (.slice A1 n1 c1)) B2 (.slice (some ⟨g9, 0, none⟩) n9 c9) (ssB.set nn (A1, n1, c1)) (rowsB.set nn (rAt rowsB nn ++ [(i : Int)])) from HSL11.out)
          clear hHeld hy0 hy1 hz1 hq0 hq1 HQ HNO HKR HV1 HG1 HN1 HX10 HX9 HSL9 HB9 HS9 HTB9 HB29 HRV HNG HTY9 HK11
          generalize w10.setCell ⟨g9, nn, none⟩ (.slice A1 n1 c1) = w11 at HSL11 HB11 HX11 HS11 HTB11 HB211 ⊢
          have hq2 : w11.cell? ⟨ts, 0, none⟩ = some (.pointer (some ⟨p, 0, none⟩)) := (blk_cell HTB11.out 0).trans rfl
          have hq3 := HS11.out.c2
          rw [HVA.out] at hq3
          have hq4 : w11.cell? ⟨gb, 0, none⟩ = some (.int .i64 (i : Int)) := (blk_cell HX11.out 0).trans rfl
          have HS12 := Aside0.mk HS11.out.drew
          have HSL12 := Aside0.mk (HSL11.out.below (below_drew1 (Below.refl _ _)))
          have HTB12 := Aside0.mk (show w11.drew.heap[ts]? = _ from HTB11.out)
          have HBB12 := Aside0.mk (below_drew1 HB11.out)
          have HB212 := Aside0.mk (show B2 ≤ w11.drew.heap.size from HB211.out)
          obtain ⟨hq5, hz5⟩ := Kd.R_celln 0 (show RI w11.drew B (.slice (some ⟨ga, 0, none⟩) at1.length cA) at1 by rw [← HVG.out]; exact HS12.out.hat) (i : Int) (by omega) (by rw [HAL.out]; have := HI.out; omega)
          rw [Int.toNat_natCast] at hq5 hz5
          have hw256 : wrap64 (256 + (nn : Int)) = ((256 + nn : Nat) : Int) := by unfold wrap64; have h1 := HNS.out; have h2 := HI.out; have h3 := HL.out; omega
          clear HS11 HSL11 HTB11 HB11 HB211 HX11
          go_wp2
          refine start_ (n := 9) (S := fun w' => w'.cell? ⟨ts, 0, none⟩ = some (.pointer (some ⟨p, 0, none⟩)) ∧ w'.cell? ⟨p, 2, none⟩ = some (.slice (some ⟨ga, 0, none⟩) l.length ca) ∧ w'.cell? ⟨gb, 0, none⟩ = some (.int .i64 (i : Int))) (ds := [8]) #[false, false, false, false, false, false, false, false, false] (by kernel_rfl) rfl rfl ⟨hq2, hq3, hq4⟩ (fun hHeld => ?_)
          generalize w11.drew = w12 at HS12 HSL12 HTB12 HBB12 HB212 hq5 hz5 hHeld ⊢
          refine pure_ (i := 5) (N := some 44) (v := ?_) (a' := ?_) #[false, false, false, false, false, true, false, false, false] rfl rfl (by kernel_rfl) (fun _ _ _ h => h) (Or.inl ⟨by rfl, ?_⟩) ?_ ?_
          rotate_left
          · intro w'
            go_simp
            with_reducible rfl
          rotate_left
          · simp only [Act.put, List.setIfInBounds_toArray, List.set_cons_zero, List.set_cons_succ, i64_w, i32_w]
            rfl
          refine pure_ (i := 6) (N := some 45) (v := ?_) (a' := ?_) #[false, false, false, false, false, true, true, false, false] rfl rfl (by kernel_rfl) (fun _ _ _ h => h) (Or.inl ⟨by rfl, ?_⟩) ?_ ?_
          rotate_left
          · intro w'
            go_simp
            with_reducible rfl
          rotate_left
          · simp only [Act.put, List.setIfInBounds_toArray, List.set_cons_zero, List.set_cons_succ, i64_w, i32_w]
            rfl
          refine take_ (i := 0) (N := some 39) (v := ?_) (a' := ?_) #[true, false, false, false, false, true, true, false, false] rfl rfl (by kernel_rfl) (fun _ _ _ h => h) (Or.inl ⟨by rfl, ?_⟩) hHeld ?_ ?_
          rotate_left
          · rintro w' ⟨s0, s1, s2⟩
            go_simp
            with_reducible rfl
          rotate_left
          · simp only [Act.put, List.setIfInBounds_toArray, List.set_cons_zero, List.set_cons_succ, i64_w, i32_w]
            rfl
          refine pure_ (i := 1) (N := some 40) (v := ?_) (a' := ?_) #[true, true, false, false, false, true, true, false, false] rfl rfl (by kernel_rfl) (fun _ _ _ h => h) (Or.inl ⟨by rfl, ?_⟩) ?_ ?_
          rotate_left
          · intro w'
            go_simp
            with_reducible rfl
          rotate_left
          · simp only [Act.put, List.setIfInBounds_toArray, List.set_cons_zero, List.set_cons_succ, i64_w, i32_w]
            rfl
          refine pure_ (i := 2) (N := some 41) (v := ?_) (a' := ?_) #[true, true, true, false, false, true, true, false, false] rfl rfl (by kernel_rfl) (fun _ _ _ h => h) (Or.inl ⟨by rfl, ?_⟩) ?_ ?_
          rotate_left
          · intro w'
            go_simp
            with_reducible rfl
          rotate_left
          · simp only [Act.put, List.setIfInBounds_toArray, List.set_cons_zero, List.set_cons_succ, i64_w, i32_w]
            rfl
          refine take_ (i := 3) (N := some 42) (v := ?_) (a' := ?_) #[true, true, true, true, false, true, true, false, false] rfl rfl (by kernel_rfl) (fun _ _ _ h => h) (Or.inl ⟨by rfl, ?_⟩) hHeld ?_ ?_
          rotate_left
          · rintro w' ⟨s0, s1, s2⟩
            go_simp
            with_reducible rfl
          rotate_left
          · simp only [Act.put, List.setIfInBounds_toArray, List.set_cons_zero, List.set_cons_succ, i64_w, i32_w]
            rfl
          refine take_ (i := 4) (N := some 43) (v := ?_) (a' := ?_) #[true, true, true, true, true, true, true, false, false] rfl rfl (by kernel_rfl) (fun _ _ _ h => h) (Or.inl ⟨by rfl, ?_⟩) hHeld ?_ ?_
          rotate_left
          · rintro w' ⟨s0, s1, s2⟩
            go_simp
            with_reducible rfl
          rotate_left
          · simp only [Act.put, List.setIfInBounds_toArray, List.set_cons_zero, List.set_cons_succ, i64_w, i32_w]
            rfl
          refine pure_ (i := 7) (N := some 46) (v := ?_) (a' := ?_) #[true, true, true, true, true, true, true, true, false] rfl rfl (by kernel_rfl) (fun _ _ _ h => h) (Or.inl ⟨by rfl, ?_⟩) ?_ ?_
          rotate_left
          · intro w'
            go_simp
            with_reducible rfl
          rotate_left
          · simp only [Act.put, List.setIfInBounds_toArray, List.set_cons_zero, List.set_cons_succ, i64_w, i32_w]
            rfl
          refine last_ (i := 8) (N := none) #[true, true, true, true, true, true, true, true, true] rfl rfl (by kernel_rfl) (by decide) (fun K hK => ?_)
          refine skip_ (w1 := ?_) (by rfl) rfl ?_ ?_
          rotate_left
          · go_simp
            rfl
          refine hK.out _ _ ?_
          clear hK K
          refine done_ (by kernel_rfl) ?_

          go_wp2
          go_roundg k1
          case measure => omega
          case rel => exact ⟨i + 1, _, _, _, (by first | rw [hw] | rfl | (push_cast; rfl)), ⟨by have := HK.out; omega⟩, HFB, ⟨HGD.out.put HNN.out (by omega) (by have := HI.out; omega), HSMB.out⟩, ⟨by rw [List.length_set]; exact HAL.out⟩, ⟨by first | exact SC.setAt HS12.out i ((256 + nn : Nat) : Int) HVG.out | (rw [hw256]; exact SC.setAt HS12.out i ((256 + nn : Nat) : Int) HVG.out)⟩, ⟨HSL12.out.kept (Kept.setCell (S := fun b => b = ga) (Kept.refl _ _) (p := ⟨ga, i, none⟩) (.inl rfl) _) (fun b hb => by rw [hb]; exact HGA.out.2)⟩, ⟨(Below.heap_setCell _ ⟨ga, i, none⟩ _ _ HTG.out).trans HTB12.out⟩, ⟨below_set HBB12.out HGA.out.1⟩, ⟨by rw [set_size']; exact HB212.out⟩⟩
      · have hb1 : (x != 256) = true := bne_iff_ne.mpr h256
        rw [if_neg h256] at hF
        have HF := Aside0.mk hF
        clear hF h256
        go_wp2_with ((with_reducible refine gate_dst (N := 4) rfl ?_); refine box_event ?hg (N := 4) ?hd (cs := #[.int .i64 0]) (t := 3) ?hr ?_; (case hd => rfl); (case hg => rfl); (case hr => first | (go_simp; done) | (go_simp; rfl)); intro gb hg w7 hbox hb; have hcz0 : w7.cell? ⟨gb, 0, none⟩ = some (.int .i64 0) := (blk_cell hbox 0).trans rfl; have hfz0 := blk_frozen hbox 0; have HB6 := Aside0.mk (show Below wr.heap.size wr (w7.setCell ⟨gb, 0, none⟩ (.int .i64 (i : Int))) from below_set (j := 0) (v := .int .i64 (i : Int)) hb (by omega)); clear hb hbox hg)
        go_roundg k1
        case measure => omega
        case rel => exact ⟨i + 1, rows, at1, ss, (by first | rw [hw] | rfl | (push_cast; rfl)), ⟨by have := HK.out; omega⟩, HF, ⟨HGS.out.1, by have := HGS.out.2.1; omega, fun r => by have := HGS.out.2.2 r; omega⟩, HAL, ⟨HS.out.below HB6.out⟩, ⟨HSL.out.below HB6.out⟩, ⟨(HB6.out.block ts (Nat.lt_of_lt_of_le HTS.out.1 HB2.out)).trans HTB.out⟩, ⟨below_step HB.out HB6.out⟩, ⟨Nat.le_trans HB2.out HB6.out.size⟩⟩
    · obtain ⟨A3, n3, c3, rfl⟩ : ∃ A n c, u3 = .slice A n c := by obtain ⟨A, c, h, _⟩ := Kd.R_reads HSL.out.hout; exact ⟨A, _, c, h⟩
      have HN3 := Aside0.mk (show n3 = rows.length by rw [← HSL.out.hlen]; exact (Kd.R_reads' HSL.out.hout).1)
      have hc : decide ((i : Int) < (l.length : Int)) = false := decide_eq_false (by omega)
      have hi2 : (i < l.length) = False := eq_false hi
      have hF := HF.out
      rw [show gk = 0 by have := HK.out; omega, slotsIn] at hF
      subst hF
      go_wp2
      go_ret
      exact ⟨by rw [HN3.out]; rfl, HS.out, HB.out, Nat.le_trans HTS.out.2.2 HB2.out⟩
end Go.Proofs.YtolhijnkgkfjgaaDoor.XC
namespace Go.Proofs.YtolhijnkgkfjgaaDoor.XC
open Go.RowKit Go.Proofs.YtolhijnkgkfjgaaDoorW.PrintWords Go.Proofs.YtolhijnkgkfjgaaDoorW.PrintLast Go.Proofs.YtolhijnkgkfjgaaDoorW.PrintMore
attribute [local go_sem] max2_int min2_int max_two min_two max_three min_three max_four min_four   -- for this text's walks alone
set_option linter.unusedVariables false
set_option linter.unusedSimpArgs false
theorem mul1_fin : ∀ b : Fin 1025, bits_Mul.f 1 (b.val : Int) = some (0, (b.val : Int)) := by decide +kernel
theorem mul1 (n : Nat) (h : n ≤ 1024) : bits_Mul.f 1 (n : Int) = some (0, (n : Int)) := mul1_fin ⟨n, by omega⟩
theorem u64_nat (n : Nat) (h : n ≤ 1024) : IntKind.u64.wrap (n : Int) = (n : Int) := by
  simp [IntKind.wrap, IntKind.signed, IntKind.bits]
  omega
theorem copy_step {P : Program} {ops : Array Oper} {oi : Oper} {a : Act} {Q : Exit → Act → World → Prop} {Kc : Act → World → Prop} {W w1 : World} (hw : Region.wanted oi (yielded ops a.tmps) = true) (s x : Operand) (t t' : TypeId) (v1 v2 : Value) (m : Int)
    (ho : oi.op = .call { callee := .builtin .copy, args := #[s, x], argTypes := #[t, t'] }) (hs : a.eval s = v1) (hx : a.eval x = v2) (hr : ∀ ty, (Builtin.copy_ #[t, t'] ty #[v1, v2]).run P W = .ok (.int .i64 m) w1) (h : Kc (a.put oi.dst (.int .i64 m)) w1) :
    if Region.wanted oi (yielded ops a.tmps) = true then Oper.wp P oi a W Kc Q else Kc (a.put oi.dst undef) W := by
  rw [if_pos hw]
  unfold Oper.wp execOp
  simp only [ho, resolve, invoke, builtin, Sem.run_bind, Sem.run_pure, Result.andThen_ok, List.map_toArray, List.map_cons, List.map_nil, hs, hx, hr]
  exact h
set_option maxHeartbeats 8000000 in
set_option maxRecDepth 100000 in
theorem s_repeat (w : World) (g c : Nat) (x : Int) (n : Nat) (hn : n ≤ 1024) (hg : Kd.C (Kd.int .i64) w (some ⟨g, 0, none⟩) 1 [x]) :
    Calls Tryd.prog 13 #[.slice (some ⟨g, 0, none⟩) 1 c, .int .i64 (n : Int)] w fun e w' => ∃ v, e = .returned v ∧ RI w' w.heap.size v (List.replicate n x) ∧ Below w.heap.size w w' := by
  have HM := Aside0.mk (mul1 n hn)
  have HC := Aside0.mk hg
  have HN := Aside0.mk hn
  have hneg : decide ((n : Int) < 0) = false := decide_eq_false (by omega)
  have hu := u64_nat n hn
  have hu1 : IntKind.u64.wrap 1 = 1 := by decide
  have hgt : decide ((9223372036854775807 : Int) < (n : Int)) = false := decide_eq_false (by omega)
  have hw : wrap64 (n : Int) = (n : Int) := by unfold wrap64; omega
  clear hg hn
  go_enter Tryd.func13, Tryd.ntmps13
  go_wp2_with (first
    | (go_at_call 26; refine (bits_Mul.calls 1 (n : Int) 0 (n : Int) _ HM.out).mono ?_; rintro e w2 ⟨rfl, ⟨nd, rfl⟩⟩)
    | ((with_reducible refine gate_dst (N := 30) rfl ?_); refine Kd.R_make (Kd.int .i64) (w0 := w.drewN nd) (w.drewN nd).heap.size 3 rfl (N := 30) rfl 25 _ _ rfl (wrap64 (n : Int)) rfl rfl Tryd.underlying25 (.int .i64 0) 8 infoI rfl (by decide) (by omega) 0 (ok := fun _ => True) (okp := fun _ => True) rfl (fun _ hk => hk) trivial (by rw [hw]; omega) (by rw [hw]; have := HN.out; omega) (Below.refl _ _) (Nat.le_refl _) ?_; intro v3 w3 ho hb hg hnew; rw [hw, Int.toNat_natCast] at ho; obtain ⟨A3, c3, e3, hle3, _⟩ := Kd.R_reads ho; rw [List.length_replicate] at e3; subst e3; have HO3 := Aside0.mk ho; have HB3 := Aside0.mk (below_step (pw_below_drewN (Below.refl w.heap.size w) nd) hb); clear ho hb hg hnew hle3)
    | ((with_reducible refine gate_builtin (b := .copy) (xs := #[.tmp 31, .tmp 32]) rfl ?_); refine Kd.R_copy (enc := Value.int .i64) (h1 := fun _ => rfl) (0 : Int) (w0 := w3) w.heap.size rfl (.tmp 31) (.tmp 32) 25 25 3 rfl Tryd.underlying25 rfl (.slice A3 n c3) (List.replicate n 0) [x] (some ⟨g, 0, none⟩) 1 c (fun _ => True) rfl rfl ?aO ?aR ?aB ?aS ?_; (case aO => exact Kd.R_lower HO3.out (Nat.le_refl _)); (case aR => exact Kd.C_below HC.out HB3.out); (case aB => exact Below.refl _ _); (case aS => exact HB3.out.size); intro w4 ho hb hg; have HO4 := Aside0.mk ho; have HB4 := Aside0.mk (HB3.out.trans hb); clear ho hb hg))
  have HR4 := Aside0.mk (show RI w4 w.heap.size (.slice A3 n c3) (List.replicate (min 1 n) x ++ List.replicate (n - min 1 n) 0) by
    have h := HO4.out
    rw [List.length_replicate, List.drop_replicate] at h
    rw [show List.replicate (min 1 n) x = [x].take (min 1 n) by cases n with | zero => rfl | succ n => rw [show min 1 (n + 1) = 1 by omega]; rfl]
    exact h)
  have HMN := Aside0.mk (show min 1 n ≤ n ∧ (0 < n → 1 ≤ min 1 n) by omega)
  obtain ⟨m0, hm0⟩ : ∃ m0, m0 = min 1 n := ⟨_, rfl⟩
  rw [← hm0] at HR4 HMN
  rw [← hm0]
  clear HO3 HB3 HO4 hm0 HM HC
  go_loopg [8] n (fun kq v8 w' => ∃ (m : Nat), v8 = .int .i64 (m : Int) ∧ Aside0 (n ≤ kq + m) ∧ Aside0 (m ≤ n ∧ (0 < n → 1 ≤ m)) ∧ Aside0 (RI w' w.heap.size (.slice A3 n c3) (List.replicate m x ++ List.replicate (n - m) 0)) ∧ Aside0 (Below w.heap.size w w'))
  case atStart => exact ⟨m0, rfl, ⟨by omega⟩, HMN, HR4, HB4⟩
  case round =>
    clear HR4 HB4 HMN
    obtain ⟨m, rfl, HK, HMN, HR, HB⟩ := hrel
    by_cases hm : m < n
    · have hc : decide ((m : Int) < (n : Int)) = true := decide_eq_true (by omega)
      have q1 : (m < n) = True := eq_true hm
      have q2 : (m ≤ n) = True := eq_true (by omega)
      have q3 : ((m : Int) ≤ (n : Int)) = True := eq_true (by omega)
      have q4 : (0 ≤ (m : Int)) = True := eq_true (by omega)
      have hll : (List.replicate m x ++ List.replicate (n - m) 0).length = n := by simp; omega
      obtain ⟨g2, c2, e2, hgB, hgl, cells, hgc⟩ := Kd.R_form HR.out (by rw [hll]; omega)
      obtain rfl : A3 = some ⟨g2, 0, none⟩ := by injection e2
      have hcap : n ≤ c3 := (Kd.R_reads' HR.out).2.1
      have q5 : (n ≤ c3) = True := eq_true hcap
      have q6 : (m ≤ c3) = True := eq_true (by omega)
      have q7 : ((m : Int) ≤ (c3 : Int)) = True := eq_true (by omega)
      have q9 : (c3 = m) = False := eq_false (by omega)
      have q8 : ((n : Int) ≤ (c3 : Int)) = True := eq_true (by omega)
      obtain ⟨kk, hkk⟩ : ∃ kk, kk = min m (n - m) := ⟨_, rfl⟩
      obtain ⟨W5, hW5⟩ : ∃ W5, W5 = wr.drew.setCells g2 m ((List.replicate kk x).map (Value.int .i64)) := ⟨_, rfl⟩
      have hRd : RI wr.drew w.heap.size (.slice (some ⟨g2, 0, none⟩) n c3) (List.replicate m x ++ List.replicate (n - m) 0) := Kd.R_drew HR.out
      have HCP := Aside0.mk (show ∀ ty, (Builtin.copy_ #[25, 25] ty #[.slice (some ⟨g2, m, none⟩) (n - m) (c3 - m), .slice (some ⟨g2, 0, none⟩) m c3]).run Tryd.prog wr.drew = .ok (.int .i64 ((kk : Nat) : Int)) W5 from fun ty => by
        have h := run_copy_cells (P := Tryd.prog) wr.drew 25 25 ty 3 g2 m (n - m) (c3 - m) ⟨g2, 0, none⟩ m c3 ((List.replicate kk x).map (Value.int .i64)) Tryd.underlying25 rfl (by rw [List.length_map, List.length_replicate, hkk])
          (fun j v hj => by
            rw [List.map_replicate, List.getElem?_replicate] at hj
            split at hj
            · rename_i hjk
              injection hj with hj
              have h1 := (Kd.R_celln 0 hRd (j : Int) (by omega) (by omega)).1
              rw [Int.toNat_natCast] at h1
              have h2 : rdOf 0 (List.replicate m x ++ List.replicate (n - m) 0) (j : Int) = x := by
                unfold rdOf
                rw [Int.toNat_natCast, List.getD_eq_getElem?_getD, List.getElem?_append_left (by simp; omega), List.getElem?_replicate, if_pos (by omega)]
                rfl
              rw [h2] at h1
              rw [← hj, show (⟨g2, 0, none⟩ : Addr).add j = ⟨g2, j, none⟩ by unfold Addr.add; split <;> simp_all]
              exact h1
            · cases hj)
          (fun j hj => by
            rw [List.length_map, List.length_replicate] at hj
            have h1 := (Kd.R_celln 0 hRd ((m + j : Nat) : Int) (by omega) (by omega)).1
            rw [Int.toNat_natCast] at h1
            rw [h1]
            rfl)
          (fun j hj => by
            rw [List.length_map, List.length_replicate] at hj
            have h1 := (Kd.R_celln 0 hRd ((m + j : Nat) : Int) (by omega) (by omega)).2
            rw [Int.toNat_natCast] at h1
            exact h1)
          (fun v hv => by rw [List.map_replicate] at hv; rw [List.eq_of_mem_replicate hv]; rfl)
        rw [List.length_map, List.length_replicate, ← hW5] at h
        exact h)
      have HKK := Aside0.mk (show 1 ≤ kk ∧ m + kk ≤ n by have h1 := HMN.out.2; omega)
      have HR5 := Aside0.mk (show RI W5 w.heap.size (.slice (some ⟨g2, 0, none⟩) n c3) (List.replicate (m + kk) x ++ List.replicate (n - (m + kk)) 0) by
        have h := R_puts (g := g2) (cap := c3) (List.replicate kk x) m (List.replicate m x ++ List.replicate (n - m) 0) wr.drew (by rw [hll, List.length_replicate]; omega) (by rw [hll]; exact hRd)
        rw [hll, ← hW5] at h
        have e : (List.replicate m x ++ List.replicate (n - m) 0).take m ++ List.replicate kk x ++ (List.replicate m x ++ List.replicate (n - m) 0).drop (m + (List.replicate kk x).length) = List.replicate (m + kk) x ++ List.replicate (n - (m + kk)) 0 := by
          rw [List.length_replicate, List.take_left' (by simp), List.drop_append]
          simp [List.replicate_append_replicate]
          omega
        rw [e] at h
        exact h)
      have HB5 := Aside0.mk (show Below w.heap.size w W5 by rw [hW5]; exact setCells_below _ _ _ (below_drew1 HB.out) hgB)
      have hwk : wrap64 ((m : Int) + (kk : Int)) = ((m + kk : Nat) : Int) := by unfold wrap64; have := HN.out; omega
      clear hgc hm hkk hW5 hRd hll hgB hgl e2
      go_wp2
      refine start_ (n := 10) (S := fun w' => True) (ds := []) #[false, false, false, false, false, false, false, false, false, false] (by kernel_rfl) rfl rfl trivial (fun hHeld => ?_)
      refine pure_ (i := 0) (N := some 38) (v := ?_) (a' := ?_) #[true, false, false, false, false, false, false, false, false, false] rfl rfl (by kernel_rfl) (fun _ _ _ h => h) (Or.inl ⟨by rfl, ?_⟩) ?_ ?_
      rotate_left
      · intro w'
        go_simp
        with_reducible rfl
      rotate_left
      · simp only [Act.put, List.setIfInBounds_toArray, List.set_cons_zero, List.set_cons_succ, i64_w, i32_w]
        rfl
      refine pure_ (i := 1) (N := some 39) (v := ?_) (a' := ?_) #[true, true, false, false, false, false, false, false, false, false] rfl rfl (by kernel_rfl) (fun _ _ _ h => h) (Or.inl ⟨by rfl, ?_⟩) ?_ ?_
      rotate_left
      · intro w'
        go_simp
        with_reducible rfl
      rotate_left
      · simp only [Act.put, List.setIfInBounds_toArray, List.set_cons_zero, List.set_cons_succ, i64_w, i32_w]
        rfl
      refine pure_ (i := 2) (N := some 40) (v := ?_) (a' := ?_) #[true, true, true, false, false, false, false, false, false, false] rfl rfl (by kernel_rfl) (fun _ _ _ h => h) (Or.inl ⟨by rfl, ?_⟩) ?_ ?_
      rotate_left
      · intro w'
        go_simp
        with_reducible rfl
      rotate_left
      · simp only [Act.put, List.setIfInBounds_toArray, List.set_cons_zero, List.set_cons_succ, i64_w, i32_w]
        rfl
      refine pure_ (i := 3) (N := some 41) (v := ?_) (a' := ?_) #[true, true, true, true, false, false, false, false, false, false] rfl rfl (by kernel_rfl) (fun _ _ _ h => h) (Or.inl ⟨by rfl, ?_⟩) ?_ ?_
      rotate_left
      · intro w'
        go_simp
        with_reducible rfl
      rotate_left
      · simp only [Act.put, List.setIfInBounds_toArray, List.set_cons_zero, List.set_cons_succ, i64_w, i32_w]
        rfl
      refine pure_ (i := 4) (N := some 42) (v := ?_) (a' := ?_) #[true, true, true, true, true, false, false, false, false, false] rfl rfl (by kernel_rfl) (fun _ _ _ h => h) (Or.inl ⟨by rfl, ?_⟩) ?_ ?_
      rotate_left
      · intro w'
        go_simp
        with_reducible rfl
      rotate_left
      · simp only [Act.put, List.setIfInBounds_toArray, List.set_cons_zero, List.set_cons_succ, i64_w, i32_w]
        rfl
      refine pure_ (i := 5) (N := some 43) (v := ?_) (a' := ?_) #[true, true, true, true, true, true, false, false, false, false] rfl rfl (by kernel_rfl) (fun _ _ _ h => h) (Or.inl ⟨by rfl, ?_⟩) ?_ ?_
      rotate_left
      · intro w'
        go_simp
        with_reducible rfl
      rotate_left
      · simp only [Act.put, List.setIfInBounds_toArray, List.set_cons_zero, List.set_cons_succ, i64_w, i32_w]
        rfl
      refine pure_ (i := 6) (N := some 44) (v := ?_) (a' := ?_) #[true, true, true, true, true, true, true, false, false, false] rfl rfl (by kernel_rfl) (fun _ _ _ h => h) (Or.inl ⟨by rfl, ?_⟩) ?_ ?_
      rotate_left
      · intro w'
        go_simp
        with_reducible rfl
      rotate_left
      · simp only [Act.put, List.setIfInBounds_toArray, List.set_cons_zero, List.set_cons_succ, i64_w, i32_w]
        rfl
      refine one_ (i := 7) (N := some 45) #[true, true, true, true, true, true, true, true, false, false] rfl rfl (by kernel_rfl) (by decide) (fun K hK => ?_)
      refine copy_step (w1 := W5) (by rfl) _ _ _ _ (.slice (some ⟨g2, m, none⟩) (n - m) (c3 - m)) (.slice (some ⟨g2, 0, none⟩) m c3) ((kk : Nat) : Int) (by rfl) (by rfl) (by rfl) HCP.out ?_
      refine hK.out _ _ trivial (fun hHeld => ?_)
      clear hK K
      refine norm_ (a' := ?_) ?_ ?_
      rotate_left
      · show Act.put _ (some 45) _ = _
        simp only [Act.put, List.setIfInBounds_toArray, List.set_cons_zero, List.set_cons_succ, i64_w, i32_w]
        rfl
      refine pure_ (i := 8) (N := some 46) (v := ?_) (a' := ?_) #[true, true, true, true, true, true, true, true, true, false] rfl rfl (by kernel_rfl) (fun _ _ _ h => h) (Or.inl ⟨by rfl, ?_⟩) ?_ ?_
      rotate_left
      · intro w'
        go_simp
        with_reducible rfl
      rotate_left
      · simp only [Act.put, List.setIfInBounds_toArray, List.set_cons_zero, List.set_cons_succ, i64_w, i32_w]
        rfl
      refine pure_ (i := 9) (N := some 8) (v := ?_) (a' := ?_) #[true, true, true, true, true, true, true, true, true, true] rfl rfl (by kernel_rfl) (fun _ _ _ h => h) (Or.inl ⟨by rfl, ?_⟩) ?_ ?_
      rotate_left
      · intro w'
        go_simp
        with_reducible rfl
      rotate_left
      · simp only [Act.put, List.setIfInBounds_toArray, List.set_cons_zero, List.set_cons_succ, i64_w, i32_w]
        rfl
      refine done_ (by kernel_rfl) ?_

      go_wp2
      obtain ⟨k1, rfl⟩ : ∃ k1, gk = k1 + 1 := ⟨gk - 1, by have h1 := HK.out; have h2 := HKK.out; omega⟩
      go_roundg k1
      case measure => omega
      case rel => exact ⟨m + kk, (by first | rw [hwk] | rfl | (push_cast; rfl)), ⟨by have h1 := HK.out; have h2 := HKK.out; omega⟩, ⟨by have h2 := HKK.out; omega⟩, HR5, HB5⟩
    · have hc : decide ((m : Int) < (n : Int)) = false := decide_eq_false (by omega)
      have q1 : (m < n) = False := eq_false hm
      have HE := Aside0.mk (show m = n by have := HMN.out.1; omega)
      go_wp2
      go_ret
      exact ⟨_, rfl, by have h := HR.out; rw [HE.out, Nat.sub_self] at h; simpa using h, HB.out⟩
end Go.Proofs.YtolhijnkgkfjgaaDoor.XC
namespace Go.Proofs.YtolhijnkgkfjgaaDoor.XC
open Go.RowKit Go.Proofs.YtolhijnkgkfjgaaDoorW.PrintWords
set_option linter.unusedVariables false
set_option linter.unusedSimpArgs false
theorem rd_get {xs : List Int} {i : Nat} (h : i < xs.length) : rd xs (i : Int) = xs[i] := by
  unfold rd
  rw [Int.toNat_natCast, List.getD_eq_getElem?_getD, List.getElem?_eq_getElem h]
  rfl
theorem swapF_perm {xs : List Int} {i j : Nat} (hi : i < xs.length) (hj : j < xs.length) : (swapF xs i j).Perm xs := by
  rw [List.perm_iff_count]
  intro a
  unfold swapF
  rw [rd_get hi, rd_get hj]
  have h1 : j < (xs.set i xs[j]).length := by rw [List.length_set]; exact hj
  have ci : xs[i] = a → 0 < List.count a xs := fun e => List.count_pos_iff.2 (by rw [← e]; exact List.getElem_mem hi)
  have cj : xs[j] = a → 0 < List.count a xs := fun e => List.count_pos_iff.2 (by rw [← e]; exact List.getElem_mem hj)
  rw [List.count_set h1, List.count_set hi, List.getElem_set]
  by_cases e : i = j
  · subst e
    simp only [if_true]
    by_cases e1 : xs[i] = a
    · have := ci e1; simp [e1]; omega
    · simp [e1]
  · rw [if_neg e]
    by_cases e1 : xs[i] = a
    · have h2 := ci e1
      by_cases e2 : xs[j] = a
      · simp [e1, e2]; omega
      · simp [e1, e2]; omega
    · by_cases e2 : xs[j] = a
      · have h2 := cj e2
        simp [e1, e2]
      · simp [e1, e2]
theorem upF_perm (l : List Sp) : ∀ (k j : Nat) (xs : List Int), j < xs.length → (upF l k j xs).Perm xs
  | 0, _, _, _ => List.Perm.refl _
  | k + 1, j, xs, hj => by
    rw [upF]
    split
    · exact List.Perm.refl _
    · split
      · exact (upF_perm l k _ _ (by rw [swapF_len]; omega)).trans (swapF_perm (by omega) hj)
      · exact List.Perm.refl _
theorem downF_perm (l : List Sp) (n : Nat) : ∀ (k i : Nat) (xs : List Int), n ≤ xs.length → (downF l n k i xs).Perm xs
  | 0, _, _, _ => List.Perm.refl _
  | k + 1, i, xs, hn => by
    rw [downF]
    split
    · exact List.Perm.refl _
    · rename_i h1
      have hp := pickF_lt (l := l) (n := n) (i := i) (xs := xs) (by omega)
      split
      · exact (downF_perm l n k _ _ (by rw [swapF_len]; exact hn)).trans (swapF_perm (by omega) (by omega))
      · exact List.Perm.refl _
theorem pushF_perm (l : List Sp) (ids : List Int) (x : Int) : (pushF l ids x).Perm (ids ++ [x]) := upF_perm l _ _ _ (by simp)
theorem popF_perm (l : List Sp) (ids : List Int) (h : ids.length ≠ 0) : (popF l ids).Perm ids := by
  unfold popF
  exact (downF_perm l _ _ _ _ (by rw [swapF_len]; omega)).trans (swapF_perm (by omega) (by omega))
theorem pop_split (l : List Sp) (ids : List Int) (h : ids.length ≠ 0) : popF l ids = (popF l ids).dropLast ++ [(popF l ids).getLastD 0] := by
  have hl := popF_len l ids
  have hne : popF l ids ≠ [] := fun e => by rw [e] at hl; simp at hl; omega
  have h2 := List.dropLast_concat_getLast hne
  rw [List.getLastD_eq_getLast?, List.getLast?_eq_some_getLast hne]
  exact h2.symm
end Go.Proofs.YtolhijnkgkfjgaaDoor.XC
