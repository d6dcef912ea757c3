/- The slots' rows; which of them a span may be in. -/
import Derived.Test.YtolhijnkgkfjgaaClos
namespace Go.Proofs.Ytolhijnkgkfjgaa.XC
open Go.RowKit Go.Proofs.YtolhijnkgkfjgaaW.PrintWords Go.Proofs.YtolhijnkgkfjgaaW.PrintLast Go.Proofs.YtolhijnkgkfjgaaW.PrintMore
attribute [local go_sem] max2_int min2_int max_two min_two max_three min_three max_four min_four   -- for this text's walks alone
set_option linter.unusedVariables false
set_option linter.unusedSimpArgs false
abbrev SVal := Option Addr × Nat × Nat
def encS (s : SVal) : Value := .slice s.1 s.2.1 s.2.2
theorem encS_one (s : SVal) : (encS s).oneCell' = true := rfl
abbrev RS (w : World) (B : Nat) (v : Value) (ss : List SVal) : Prop := (Kd.scalar encS encS_one).R 29 w B (fun _ => True) v ss
def sAt (ss : List SVal) (r : Nat) : SVal := ss.getD r (none, 0, 0)
/-- The slots' rows. -/
structure SL (w : World) (B : Nat) (v : Value) (ss : List SVal) (rows : List (List Int)) : Prop where
  hout : RS w B v ss
  hlen : ss.length = rows.length
  hrow : ∀ r, r < rows.length → RI w B (encS (sAt ss r)) (rAt rows r)
  hap : ∀ r r' b, r < rows.length → r' < rows.length → r ≠ r' → (encS (sAt ss r)).ownBlock = some b → (encS (sAt ss r')).ownBlock ≠ some b
theorem SL.nil (w : World) (B : Nat) : SL w B nilS [] [] := ⟨Kd.R_nil _ _ _ _ _, rfl, fun r h => absurd h (Nat.not_lt_zero _), fun r _ _ h => absurd h (Nat.not_lt_zero _)⟩
theorem RS.kept {w w' : World} {B : Nat} {v : Value} {ss : List SVal} (h : RS w B v ss) {S : Nat → Prop} (hk : Kept w w' S) (hne : ∀ b, v.ownBlock = some b → ¬ S b) : RS w' B v ss :=
  Kd.R_mono (Kd.R_kept (Kd.R_tight rfl h) hk (fun b hb => hne b hb.symm)) (fun _ _ => trivial)
theorem SL.kept {w w' : World} {B : Nat} {v : Value} {ss : List SVal} {rows : List (List Int)} (h : SL w B v ss rows) {S : Nat → Prop} (hk : Kept w w' S) (hS : ∀ b, S b → b < B) : SL w' B v ss rows :=
  ⟨h.hout.kept hk (fun b hb hs => by have h1 := Kd.R_base h.hout b hb; have h2 := hS b hs; omega), h.hlen, fun r hr => (h.hrow r hr).kept hk (fun b hb hs => by have h1 := Kd.R_base (h.hrow r hr) b hb; have h2 := hS b hs; omega), h.hap⟩
theorem SL.below {w w' : World} {B : Nat} {v : Value} {ss : List SVal} {rows : List (List Int)} (h : SL w B v ss rows) (hb : Below w.heap.size w w') : SL w' B v ss rows := h.kept (Kept.of_below hb (fun _ => False)) (fun _ h => h.elim)
theorem SL.cell {w : World} {B : Nat} {ss : List SVal} {rows : List (List Int)} {A : Option Addr} {n c : Nat} (h : SL w B (.slice A n c) ss rows) {r : Nat} (hr : r < rows.length) : ∃ g, A = some ⟨g, 0, none⟩ ∧ B ≤ g ∧ w.cell? ⟨g, r, none⟩ = some (encS (sAt ss r)) ∧ w.frozen? ⟨g, r, none⟩ = false := by
  have hl := h.hlen
  obtain ⟨g, cap, e, hgB, _, _, _⟩ := Kd.R_form h.hout (by omega)
  injection e with e1 e2 e3
  subst e1 e2 e3
  obtain ⟨h1, h2⟩ := Kd.R_celln ((none, 0, 0) : SVal) h.hout (r : Int) (by omega) (by omega)
  rw [Int.toNat_natCast] at h1 h2
  exact ⟨g, rfl, hgB, by rw [h1]; rfl, h2⟩
/-- The first slot where one meets none. -/
def slotFrom (mt : Int → Int → Bool) (rows : List (List Int)) (id : Int) : Nat → Nat → Option Nat
  | 0, _ => none
  | m + 1, r => if (rAt rows r).any (fun o => mt id o) = false then some r else slotFrom mt rows id m (r + 1)
def slotR (mt : Int → Int → Bool) (rows : List (List Int)) (id : Int) : Option Nat := slotFrom mt rows id rows.length 0
def orM1 : Option Nat → Int
  | none => -1
  | some r => (r : Int)
set_option maxHeartbeats 8000000 in
set_option maxRecDepth 100000 in
theorem c_cont (w0 w : World) (A : Option Addr) (c : Nat) (l : List Sp) (hr : Kd.C k28 w0 A l.length l) (ts tid p : Nat) (mt : Int → Int → Bool) (hm : MeetIs l mt) (id : Int) (h0 : 0 ≤ id) (h1 : id < (l.length : Int)) (hw : CW w0 w ts tid p A l.length c id) (A3 : Option Addr) (c3 : Nat) (row : List Int) (hrow : Kd.C (Kd.int .i64) w A3 row.length row) (hg : ∀ o ∈ row, 0 ≤ o ∧ o < (l.length : Int)) (hrl : row.length < 100000) :
    Calls Try.prog 36 #[.slice A3 row.length c3, .func (.func 37) #[] #[.pointer (some ⟨ts, 0, none⟩), .pointer (some ⟨tid, 0, none⟩)]] w fun e w' => e = .returned (.bool (row.any (fun o => mt id o))) ∧ Below w.heap.size w w' := by
  have C := Aside0.mk (c_index w0 w A c l hr ts tid p mt hm id h0 h1 hw A3 c3 row hrow hg hrl)
  clear hr hm h0 h1 hw hrow hg hrl
  go_enter Try.func36, Try.ntmps36
  go_wp2_with (go_at_call 43; refine C.out.mono ?_; rintro e w2 ⟨⟨x, rfl, hx⟩, hb⟩; have HX := Aside0.mk hx; have HB := Aside0.mk hb; clear hx hb)
  go_ret
  exact ⟨by rw [← HX.out]; rfl, HB.out⟩
set_option maxHeartbeats 8000000 in
set_option maxRecDepth 100000 in
theorem c_not (w0 w : World) (A : Option Addr) (c : Nat) (l : List Sp) (hr : Kd.C k28 w0 A l.length l) (ts tid p : Nat) (mt : Int → Int → Bool) (hm : MeetIs l mt) (id : Int) (h0 : 0 ≤ id) (h1 : id < (l.length : Int)) (hw : CW w0 w ts tid p A l.length c id) (A3 : Option Addr) (c3 : Nat) (row : List Int) (hrow : Kd.C (Kd.int .i64) w A3 row.length row) (hg : ∀ o ∈ row, 0 ≤ o ∧ o < (l.length : Int)) (hrl : row.length < 100000) :
    Calls Try.prog 35 #[.slice A3 row.length c3, .pointer (some ⟨ts, 0, none⟩), .pointer (some ⟨tid, 0, none⟩)] w fun e w' => e = .returned (.bool (!(row.any (fun o => mt id o)))) ∧ Below w.heap.size w w' := by
  have hmf : ∀ (fn : Fn) (first cap : Array Value) (w : World), (Instr.makeFunc fn first cap).run Try.prog w = .ok (.func fn first cap) w := fun _ _ _ _ => rfl
  have C := Aside0.mk (c_cont w0 w A c l hr ts tid p mt hm id h0 h1 hw A3 c3 row hrow hg hrl)
  clear hr hm h0 h1 hw hrow hg hrl
  go_enter Try.func35, Try.ntmps35
  go_wp2_with (go_at_call 36; refine C.out.mono ?_; rintro e w2 ⟨rfl, hb⟩; have HB := Aside0.mk hb; clear hb)
  go_ret
  exact ⟨rfl, HB.out⟩
set_option maxHeartbeats 8000000 in
set_option maxRecDepth 100000 in
theorem c_slot (w0 w : World) (A : Option Addr) (c : Nat) (l : List Sp) (hr : Kd.C k28 w0 A l.length l) (ts tid p : Nat) (mt : Int → Int → Bool) (hm : MeetIs l mt) (id : Int) (h0 : 0 ≤ id) (h1 : id < (l.length : Int)) (hw : CW w0 w ts tid p A l.length c id) (B : Nat) (A3 : Option Addr) (n3 c3 : Nat) (ss : List SVal) (rows : List (List Int)) (hs : SL w B (.slice A3 n3 c3) ss rows) (hn3 : n3 = rows.length) (hg : Good l rows) (hrl : ∀ r, (rAt rows r).length < 100000) (hrows : rows.length < 100000) :
    Calls Try.prog 34 #[.slice A3 n3 c3, .func (.func 35) #[] #[.pointer (some ⟨ts, 0, none⟩), .pointer (some ⟨tid, 0, none⟩)]] w fun e w' => e = .returned (.int .i64 (orM1 (slotR mt rows id))) ∧ Below w.heap.size w w' := by
  have eg : ∀ args w, (callFunc 35 args).run Try.prog w = .ok (.enter 35 args) w := enters_of Try.func35 (by kernel_rfl) rfl
  subst hn3
  obtain ⟨F, hF⟩ : ∃ F, F = slotR mt rows id := ⟨_, rfl⟩
  rw [← hF]
  have HF := Aside0.mk (show F = slotFrom mt rows id rows.length 0 from hF)
  have C := Aside0.mk (fun (W : World) (hk : Below w.heap.size w W) (r : Nat) (hrr : r < rows.length) (A4 : Option Addr) (c4 : Nat) (h4 : Kd.C (Kd.int .i64) W A4 (rAt rows r).length (rAt rows r)) => c_not w0 W A c l hr ts tid p mt hm id h0 h1 (hw.below hk) A4 c4 (rAt rows r) h4 (hg r) (hrl r))
  have HS := Aside0.mk hs
  have HL := Aside0.mk hrows
  clear hF hr hm h0 h1 hw hs hg hrl hrows
  go_enter Try.func34, Try.ntmps34
  go_wp2
  go_loopg [8] rows.length (fun kq v8 w' => ∃ (i : Nat), v8 = .int .i64 (i : Int) ∧ Aside0 (kq + i = rows.length) ∧ Aside0 (F = slotFrom mt rows id kq i) ∧ Aside0 (Below w.heap.size w w'))
  case atStart => exact ⟨0, rfl, ⟨rfl⟩, HF, ⟨Below.refl _ _⟩⟩
  case round =>
    clear HF
    obtain ⟨i, rfl, HK, HF, HW⟩ := hrel
    by_cases hi : i < rows.length
    · obtain ⟨k1, rfl⟩ : ∃ k1, gk = k1 + 1 := ⟨gk - 1, by have := HK.out; omega⟩
      have hc : decide ((i : Int) < (rows.length : Int)) = true := decide_eq_true (by omega)
      have q0 : (0 ≤ (i : Int)) = True := eq_true (by omega)
      have q1 : ((i : Int) < (rows.length : Int)) = True := eq_true (by omega)
      have q2 : (i < rows.length) = True := eq_true hi
      obtain ⟨g, e1, _, hx4, _⟩ := (HS.out.below HW.out).cell hi
      subst e1
      obtain ⟨A4, c4, e4, _, h4⟩ := Kd.R_reads ((HS.out.below HW.out).hrow i hi)
      rw [e4] at hx4
      have H4 := Aside0.mk h4
      have hw := wrap_succ i rows.length hi (by have := HL.out; omega)
      have hF := HF.out
      rw [slotFrom] at hF
      have HI := Aside0.mk hi
      clear e4 h4 hi HF
      cases hb : (rAt rows i).any (fun o => mt id o) with
      | true =>
        rw [if_neg (by rw [hb]; decide)] at hF
        have HF := Aside0.mk hF
        have HBM := Aside0.mk hb
        clear hb hF
        go_wp2_with (go_at_call 35; refine (C.out _ HW.out i HI.out A4 c4 H4.out).mono ?_; rintro e w3 ⟨rfl, hb⟩; rw [HBM.out]; have HW3 := Aside0.mk (below_step HW.out hb); clear hb)
        go_roundg k1
        case measure => omega
        case rel => exact ⟨i + 1, (by first | rw [hw] | rfl | (push_cast; rfl)), ⟨by have := HK.out; omega⟩, HF, HW3⟩
      | false =>
        rw [if_pos hb] at hF
        subst hF
        have HBM := Aside0.mk hb
        clear hb
        go_wp2_with (go_at_call 35; refine (C.out _ HW.out i HI.out A4 c4 H4.out).mono ?_; rintro e w3 ⟨rfl, hb⟩; rw [HBM.out]; have HW3 := Aside0.mk (below_step HW.out hb); clear hb)
        go_ret
        exact ⟨rfl, HW3.out⟩
    · have hc : decide ((i : Int) < (rows.length : Int)) = false := decide_eq_false (by omega)
      have q2 : (i < rows.length) = False := eq_false hi
      have hF := HF.out
      rw [show gk = 0 by have := HK.out; omega, slotFrom] at hF
      subst hF
      go_wp2
      go_ret
      exact ⟨rfl, HW.out⟩
end Go.Proofs.Ytolhijnkgkfjgaa.XC
