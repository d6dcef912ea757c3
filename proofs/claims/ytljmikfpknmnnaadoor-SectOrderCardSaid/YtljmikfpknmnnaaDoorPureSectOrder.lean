/- SectOrder: two sections without contents are taken just if the first one's ID is 0 with a name, or less than the second one's; for every input. No condition. The law's own walk is by hand. -/
import Derived.Test.YtljmikfpknmnnaaDoorOrderFns
namespace Go.Proofs.YtljmikfpknmnnaaDoor.XS
open Go.RowKit Go.Proofs.YtljmikfpknmnnaaDoorW.PrintWords Go.Proofs.YtljmikfpknmnnaaDoorW.PrintLast Go.Proofs.YtljmikfpknmnnaaDoorW.PrintMore
set_option linter.unusedVariables false
set_option linter.unusedSimpArgs false
def ordS (i : Nat) : ByteArray := if i = 0 then ⟨#[0, 1, 0]⟩ else strOfNums [(i : Int), 0]
def ordB (x y : Nat) : ByteArray := (⟨#[0, 97, 115, 109, 1, 0, 0, 0]⟩ : ByteArray) ++ ordS x ++ ordS y
def ordFine (x y : Nat) : Bool := decide (x ≤ 11) && (decide (y ≤ 11) && (decide (x = 0) || (decide (y = 0) || decide (x < y))))
def ordOk (x y : Nat) : Bool := match sect_Split.f 60 (bytesOf (ordB x y)) with
  | some (l, _, none) => ordFine x y && decide (l.length = 2)
  | some (_, _, some e) => (!ordFine x y) && decide (e = 6)
  | none => false
set_option maxRecDepth 100000 in
theorem ord_all : ∀ x y : Fin 14, ordOk x.val y.val = true := by decide +kernel
theorem ord_sizes : ∀ x : Fin 14, (ordS x.val).size ≤ 3 := by decide +kernel
theorem ord_idle (x : Nat) : mandrellaw06_idle.f (x : Int) = some (ordS x) := by
  unfold mandrellaw06_idle.f ordS
  by_cases h : x = 0
  · rw [if_pos (by omega), if_pos h]
  · rw [if_neg (by omega), if_neg h]
theorem ord_split (x y : Nat) (hx : x < 14) (hy : y < 14) : ∃ l n, sect_Split.f 60 (bytesOf (ordB x y)) = some (l, n, if ordFine x y = true then none else some 6) ∧ (ordFine x y = true → l.length = 2) := by
  have h := ord_all ⟨x, hx⟩ ⟨y, hy⟩
  unfold ordOk at h
  simp only [] at h
  split at h
  · rename_i l n he
    simp only [Bool.and_eq_true, decide_eq_true_eq] at h
    refine ⟨l, n, ?_, fun _ => h.2⟩
    rw [if_pos h.1]
    exact he
  · rename_i l n e he
    simp only [Bool.and_eq_true, decide_eq_true_eq, Bool.not_eq_true'] at h
    refine ⟨l, n, ?_, fun h2 => by rw [h.1] at h2; cases h2⟩
    rw [if_neg (by rw [h.1]; decide), ← h.2]
    exact he
  · cases h
theorem calls_len2 {P : Program} {f : Nat} {A : Option Addr} {n m c : Nat} {w : World} {R : Ending → World → Prop} (h : n = m) (k : Calls P f #[.slice A m c] w R) : Calls P f #[.slice A n c] w R := h ▸ k
theorem C_bytes (W : World) (s : ByteArray) (hs : s.size ≤ 100) : Kd.C (Kd.int .u8) (Lib.bytesWorld W 5 s) (some ⟨W.heap.size, 0, none⟩) (bytesOf s).length (bytesOf s) := by
  have h := bytes_reads W 5 s (by omega)
  rw [bytesOf_length]
  exact Kd.C_of_reads (d := (0 : Int)) (h1 := fun _ => rfl) h
set_option maxHeartbeats 8000000 in
set_option maxRecDepth 100000 in
theorem order_f1 (a0 a1 : Int) (x y : Nat) (hx : a0.tmod 14 = (x : Int)) (hy : a1.tmod 14 = (y : Int)) (hx2 : x < 14) (hy2 : y < 14) (w : World) (hLE : LaidE w) (l : List S53) (n : Int) (hl : sect_Split.f 60 (bytesOf (ordB x y)) = some (l, n, none)) (hlen : l.length = 2) (b0 : decide ((x : Int) ≤ 11) = true) (b1 : decide ((y : Int) ≤ 11) = true) (b2 : ((x : Int) == 0) = true) :
    Calls Tryd.prog 6 #[.int .u8 a0, .int .u8 a1] w fun e w' => e = .returned (.bool true) ∧ Below w.heap.size w w' := by
  have hu25 := Tryd.underlying25
  have hu66 := Tryd.underlying66
  have hsx := ord_sizes ⟨x, hx2⟩
  have hsy := ord_sizes ⟨y, hy2⟩
  simp only [] at hsx hsy
  have h8 : (⟨#[0, 97, 115, 109, 1, 0, 0, 0]⟩ : ByteArray).size = 8 := by decide
  have hz1 : (⟨#[0, 97, 115, 109, 1, 0, 0, 0]⟩ : ByteArray).size + (ordS x).size ≤ 9223372036854775807 := by omega
  have hz2 : ((⟨#[0, 97, 115, 109, 1, 0, 0, 0]⟩ : ByteArray) ++ ordS x).size + (ordS y).size ≤ 9223372036854775807 := by rw [ByteArray.size_append]; omega
  have hsB : ((⟨#[0, 97, 115, 109, 1, 0, 0, 0]⟩ : ByteArray) ++ ordS x ++ ordS y).size ≤ 100 := by rw [ByteArray.size_append, ByteArray.size_append]; omega
  have ka1 := fun W : World => run_string_add_sum (P := Tryd.prog) W (⟨#[0, 97, 115, 109, 1, 0, 0, 0]⟩ : ByteArray) (ordS x) hz1
  have ka2 := fun W : World => run_string_add_sum (P := Tryd.prog) W ((⟨#[0, 97, 115, 109, 1, 0, 0, 0]⟩ : ByteArray) ++ ordS x) (ordS y) hz2
  obtain ⟨S, hS⟩ : ∃ S : ByteArray, (⟨#[0, 97, 115, 109, 1, 0, 0, 0]⟩ : ByteArray) ++ ordS x ++ ordS y = S := ⟨_, rfl⟩
  rw [hS] at ka2 hsB
  have hl2 : sect_Split.f 60 (bytesOf S) = some (l, n, none) := by rw [← hS]; exact hl
  have kb := fun W : World => print_bytes (P := Tryd.prog) 9 22 5 Tryd.underlying9 Tryd.underlying22 Tryd.underlying5 S W
  have HX := Aside0.mk (mandrellaw06_idle.calls (x : Int) (ordS x) w (ord_idle x))
  have HY := fun W : World => Aside0.mk (mandrellaw06_idle.calls (y : Int) (ordS y) W (ord_idle y))
  have HL := Aside0.mk (And.intro hl2 hsB)
  have HE := Aside0.mk hLE
  clear hl hl2 hsB hsx hsy hz1 hz2 h8 hx2 hy2 hS hLE
  go_enter Tryd.func6, Tryd.ntmps6
  go_wp2_with (first
    | (go_at_call 22; refine HX.out.mono ?_; clear HX; rintro e w1 ⟨rfl, hb⟩; have B1 := Aside0.mk hb; clear hb)
    | (go_at_call 22; refine (HY _).out.mono ?_; clear HY; rintro e w2 ⟨rfl, hb⟩; have B2 := Aside0.mk (below_step B1.out hb); clear hb B1)
    | (go_at_call 18; refine calls_len2 (m := (bytesOf S).length) (bytesOf_length S).symm ?_; refine (sect_Split.calls 60 (some ⟨w2.heap.size, 0, none⟩) (grownCap w2 S.size 0 5) (bytesOf S) l n none _ (C_bytes w2 S HL.out.2) (by rw [bytesOf_length]; exact grownCap_ge w2 S.size 0 5) HL.out.1).mono ?_; rintro e w3 ⟨v3, rfl, hS3, hb⟩; have B3 := Aside0.mk (below_step (bytes_below B2.out (below_size B2.out) 5 S) hb); clear hb B2; obtain ⟨Ao, co, eo⟩ := Kd.S_slice hS3; subst eo; clear hS3; (try simp only [errW_none, errW_some]))
    | (go_at_call 21; refine (mandrellaw06_num.calls (some 6) 6 _ (HE.out.below B3.out) rfl).mono ?_; rintro e w4 ⟨rfl, hb⟩; have B4 := Aside0.mk (below_step B3.out hb); clear hb B3)
    | (go_at_call 17; refine (mandrellaw06_sure.calls true _ rfl).mono ?_; rintro e w5 ⟨rfl, hb⟩; have B5 := Aside0.mk (below_step B3.out hb); clear hb))
  go_ret
  exact ⟨rfl, B5.out⟩
set_option maxHeartbeats 8000000 in
set_option maxRecDepth 100000 in
theorem order_f2 (a0 a1 : Int) (x y : Nat) (hx : a0.tmod 14 = (x : Int)) (hy : a1.tmod 14 = (y : Int)) (hx2 : x < 14) (hy2 : y < 14) (w : World) (hLE : LaidE w) (l : List S53) (n : Int) (hl : sect_Split.f 60 (bytesOf (ordB x y)) = some (l, n, none)) (hlen : l.length = 2) (b0 : decide ((x : Int) ≤ 11) = true) (b1 : decide ((y : Int) ≤ 11) = true) (b2 : ((x : Int) == 0) = false) (b3 : ((y : Int) == 0) = true) :
    Calls Tryd.prog 6 #[.int .u8 a0, .int .u8 a1] w fun e w' => e = .returned (.bool true) ∧ Below w.heap.size w w' := by
  have hu25 := Tryd.underlying25
  have hu66 := Tryd.underlying66
  have hsx := ord_sizes ⟨x, hx2⟩
  have hsy := ord_sizes ⟨y, hy2⟩
  simp only [] at hsx hsy
  have h8 : (⟨#[0, 97, 115, 109, 1, 0, 0, 0]⟩ : ByteArray).size = 8 := by decide
  have hz1 : (⟨#[0, 97, 115, 109, 1, 0, 0, 0]⟩ : ByteArray).size + (ordS x).size ≤ 9223372036854775807 := by omega
  have hz2 : ((⟨#[0, 97, 115, 109, 1, 0, 0, 0]⟩ : ByteArray) ++ ordS x).size + (ordS y).size ≤ 9223372036854775807 := by rw [ByteArray.size_append]; omega
  have hsB : ((⟨#[0, 97, 115, 109, 1, 0, 0, 0]⟩ : ByteArray) ++ ordS x ++ ordS y).size ≤ 100 := by rw [ByteArray.size_append, ByteArray.size_append]; omega
  have ka1 := fun W : World => run_string_add_sum (P := Tryd.prog) W (⟨#[0, 97, 115, 109, 1, 0, 0, 0]⟩ : ByteArray) (ordS x) hz1
  have ka2 := fun W : World => run_string_add_sum (P := Tryd.prog) W ((⟨#[0, 97, 115, 109, 1, 0, 0, 0]⟩ : ByteArray) ++ ordS x) (ordS y) hz2
  obtain ⟨S, hS⟩ : ∃ S : ByteArray, (⟨#[0, 97, 115, 109, 1, 0, 0, 0]⟩ : ByteArray) ++ ordS x ++ ordS y = S := ⟨_, rfl⟩
  rw [hS] at ka2 hsB
  have hl2 : sect_Split.f 60 (bytesOf S) = some (l, n, none) := by rw [← hS]; exact hl
  have kb := fun W : World => print_bytes (P := Tryd.prog) 9 22 5 Tryd.underlying9 Tryd.underlying22 Tryd.underlying5 S W
  have HX := Aside0.mk (mandrellaw06_idle.calls (x : Int) (ordS x) w (ord_idle x))
  have HY := fun W : World => Aside0.mk (mandrellaw06_idle.calls (y : Int) (ordS y) W (ord_idle y))
  have HL := Aside0.mk (And.intro hl2 hsB)
  have HE := Aside0.mk hLE
  clear hl hl2 hsB hsx hsy hz1 hz2 h8 hx2 hy2 hS hLE
  go_enter Tryd.func6, Tryd.ntmps6
  go_wp2_with (first
    | (go_at_call 22; refine HX.out.mono ?_; clear HX; rintro e w1 ⟨rfl, hb⟩; have B1 := Aside0.mk hb; clear hb)
    | (go_at_call 22; refine (HY _).out.mono ?_; clear HY; rintro e w2 ⟨rfl, hb⟩; have B2 := Aside0.mk (below_step B1.out hb); clear hb B1)
    | (go_at_call 18; refine calls_len2 (m := (bytesOf S).length) (bytesOf_length S).symm ?_; refine (sect_Split.calls 60 (some ⟨w2.heap.size, 0, none⟩) (grownCap w2 S.size 0 5) (bytesOf S) l n none _ (C_bytes w2 S HL.out.2) (by rw [bytesOf_length]; exact grownCap_ge w2 S.size 0 5) HL.out.1).mono ?_; rintro e w3 ⟨v3, rfl, hS3, hb⟩; have B3 := Aside0.mk (below_step (bytes_below B2.out (below_size B2.out) 5 S) hb); clear hb B2; obtain ⟨Ao, co, eo⟩ := Kd.S_slice hS3; subst eo; clear hS3; (try simp only [errW_none, errW_some]))
    | (go_at_call 21; refine (mandrellaw06_num.calls (some 6) 6 _ (HE.out.below B3.out) rfl).mono ?_; rintro e w4 ⟨rfl, hb⟩; have B4 := Aside0.mk (below_step B3.out hb); clear hb B3)
    | (go_at_call 17; refine (mandrellaw06_sure.calls true _ rfl).mono ?_; rintro e w5 ⟨rfl, hb⟩; have B5 := Aside0.mk (below_step B3.out hb); clear hb))
  go_ret
  exact ⟨rfl, B5.out⟩
set_option maxHeartbeats 8000000 in
set_option maxRecDepth 100000 in
theorem order_f3 (a0 a1 : Int) (x y : Nat) (hx : a0.tmod 14 = (x : Int)) (hy : a1.tmod 14 = (y : Int)) (hx2 : x < 14) (hy2 : y < 14) (w : World) (hLE : LaidE w) (l : List S53) (n : Int) (hl : sect_Split.f 60 (bytesOf (ordB x y)) = some (l, n, none)) (hlen : l.length = 2) (b0 : decide ((x : Int) ≤ 11) = true) (b1 : decide ((y : Int) ≤ 11) = true) (b2 : ((x : Int) == 0) = false) (b3 : ((y : Int) == 0) = false) (b4 : decide ((x : Int) < (y : Int)) = true) :
    Calls Tryd.prog 6 #[.int .u8 a0, .int .u8 a1] w fun e w' => e = .returned (.bool true) ∧ Below w.heap.size w w' := by
  have hu25 := Tryd.underlying25
  have hu66 := Tryd.underlying66
  have hsx := ord_sizes ⟨x, hx2⟩
  have hsy := ord_sizes ⟨y, hy2⟩
  simp only [] at hsx hsy
  have h8 : (⟨#[0, 97, 115, 109, 1, 0, 0, 0]⟩ : ByteArray).size = 8 := by decide
  have hz1 : (⟨#[0, 97, 115, 109, 1, 0, 0, 0]⟩ : ByteArray).size + (ordS x).size ≤ 9223372036854775807 := by omega
  have hz2 : ((⟨#[0, 97, 115, 109, 1, 0, 0, 0]⟩ : ByteArray) ++ ordS x).size + (ordS y).size ≤ 9223372036854775807 := by rw [ByteArray.size_append]; omega
  have hsB : ((⟨#[0, 97, 115, 109, 1, 0, 0, 0]⟩ : ByteArray) ++ ordS x ++ ordS y).size ≤ 100 := by rw [ByteArray.size_append, ByteArray.size_append]; omega
  have ka1 := fun W : World => run_string_add_sum (P := Tryd.prog) W (⟨#[0, 97, 115, 109, 1, 0, 0, 0]⟩ : ByteArray) (ordS x) hz1
  have ka2 := fun W : World => run_string_add_sum (P := Tryd.prog) W ((⟨#[0, 97, 115, 109, 1, 0, 0, 0]⟩ : ByteArray) ++ ordS x) (ordS y) hz2
  obtain ⟨S, hS⟩ : ∃ S : ByteArray, (⟨#[0, 97, 115, 109, 1, 0, 0, 0]⟩ : ByteArray) ++ ordS x ++ ordS y = S := ⟨_, rfl⟩
  rw [hS] at ka2 hsB
  have hl2 : sect_Split.f 60 (bytesOf S) = some (l, n, none) := by rw [← hS]; exact hl
  have kb := fun W : World => print_bytes (P := Tryd.prog) 9 22 5 Tryd.underlying9 Tryd.underlying22 Tryd.underlying5 S W
  have HX := Aside0.mk (mandrellaw06_idle.calls (x : Int) (ordS x) w (ord_idle x))
  have HY := fun W : World => Aside0.mk (mandrellaw06_idle.calls (y : Int) (ordS y) W (ord_idle y))
  have HL := Aside0.mk (And.intro hl2 hsB)
  have HE := Aside0.mk hLE
  clear hl hl2 hsB hsx hsy hz1 hz2 h8 hx2 hy2 hS hLE
  go_enter Tryd.func6, Tryd.ntmps6
  go_wp2_with (first
    | (go_at_call 22; refine HX.out.mono ?_; clear HX; rintro e w1 ⟨rfl, hb⟩; have B1 := Aside0.mk hb; clear hb)
    | (go_at_call 22; refine (HY _).out.mono ?_; clear HY; rintro e w2 ⟨rfl, hb⟩; have B2 := Aside0.mk (below_step B1.out hb); clear hb B1)
    | (go_at_call 18; refine calls_len2 (m := (bytesOf S).length) (bytesOf_length S).symm ?_; refine (sect_Split.calls 60 (some ⟨w2.heap.size, 0, none⟩) (grownCap w2 S.size 0 5) (bytesOf S) l n none _ (C_bytes w2 S HL.out.2) (by rw [bytesOf_length]; exact grownCap_ge w2 S.size 0 5) HL.out.1).mono ?_; rintro e w3 ⟨v3, rfl, hS3, hb⟩; have B3 := Aside0.mk (below_step (bytes_below B2.out (below_size B2.out) 5 S) hb); clear hb B2; obtain ⟨Ao, co, eo⟩ := Kd.S_slice hS3; subst eo; clear hS3; (try simp only [errW_none, errW_some]))
    | (go_at_call 21; refine (mandrellaw06_num.calls (some 6) 6 _ (HE.out.below B3.out) rfl).mono ?_; rintro e w4 ⟨rfl, hb⟩; have B4 := Aside0.mk (below_step B3.out hb); clear hb B3)
    | (go_at_call 17; refine (mandrellaw06_sure.calls true _ rfl).mono ?_; rintro e w5 ⟨rfl, hb⟩; have B5 := Aside0.mk (below_step B3.out hb); clear hb))
  all_goals first
    | (exfalso; exact absurd (Int.ofNat_lt.mp (of_decide_eq_true b4)) (by assumption))
    | (go_ret; exact ⟨rfl, B5.out⟩)
set_option maxHeartbeats 8000000 in
set_option maxRecDepth 100000 in
theorem order_n1 (a0 a1 : Int) (x y : Nat) (hx : a0.tmod 14 = (x : Int)) (hy : a1.tmod 14 = (y : Int)) (hx2 : x < 14) (hy2 : y < 14) (w : World) (hLE : LaidE w) (l : List S53) (n : Int) (hl : sect_Split.f 60 (bytesOf (ordB x y)) = some (l, n, (some 6)))  (b0 : decide ((x : Int) ≤ 11) = false) :
    Calls Tryd.prog 6 #[.int .u8 a0, .int .u8 a1] w fun e w' => e = .returned (.bool true) ∧ Below w.heap.size w w' := by
  have hu25 := Tryd.underlying25
  have hu66 := Tryd.underlying66
  have hsx := ord_sizes ⟨x, hx2⟩
  have hsy := ord_sizes ⟨y, hy2⟩
  simp only [] at hsx hsy
  have h8 : (⟨#[0, 97, 115, 109, 1, 0, 0, 0]⟩ : ByteArray).size = 8 := by decide
  have hz1 : (⟨#[0, 97, 115, 109, 1, 0, 0, 0]⟩ : ByteArray).size + (ordS x).size ≤ 9223372036854775807 := by omega
  have hz2 : ((⟨#[0, 97, 115, 109, 1, 0, 0, 0]⟩ : ByteArray) ++ ordS x).size + (ordS y).size ≤ 9223372036854775807 := by rw [ByteArray.size_append]; omega
  have hsB : ((⟨#[0, 97, 115, 109, 1, 0, 0, 0]⟩ : ByteArray) ++ ordS x ++ ordS y).size ≤ 100 := by rw [ByteArray.size_append, ByteArray.size_append]; omega
  have ka1 := fun W : World => run_string_add_sum (P := Tryd.prog) W (⟨#[0, 97, 115, 109, 1, 0, 0, 0]⟩ : ByteArray) (ordS x) hz1
  have ka2 := fun W : World => run_string_add_sum (P := Tryd.prog) W ((⟨#[0, 97, 115, 109, 1, 0, 0, 0]⟩ : ByteArray) ++ ordS x) (ordS y) hz2
  obtain ⟨S, hS⟩ : ∃ S : ByteArray, (⟨#[0, 97, 115, 109, 1, 0, 0, 0]⟩ : ByteArray) ++ ordS x ++ ordS y = S := ⟨_, rfl⟩
  rw [hS] at ka2 hsB
  have hl2 : sect_Split.f 60 (bytesOf S) = some (l, n, (some 6)) := by rw [← hS]; exact hl
  have kb := fun W : World => print_bytes (P := Tryd.prog) 9 22 5 Tryd.underlying9 Tryd.underlying22 Tryd.underlying5 S W
  have HX := Aside0.mk (mandrellaw06_idle.calls (x : Int) (ordS x) w (ord_idle x))
  have HY := fun W : World => Aside0.mk (mandrellaw06_idle.calls (y : Int) (ordS y) W (ord_idle y))
  have HL := Aside0.mk (And.intro hl2 hsB)
  have HE := Aside0.mk hLE
  clear hl hl2 hsB hsx hsy hz1 hz2 h8 hx2 hy2 hS hLE
  go_enter Tryd.func6, Tryd.ntmps6
  go_wp2_with (first
    | (go_at_call 22; refine HX.out.mono ?_; clear HX; rintro e w1 ⟨rfl, hb⟩; have B1 := Aside0.mk hb; clear hb)
    | (go_at_call 22; refine (HY _).out.mono ?_; clear HY; rintro e w2 ⟨rfl, hb⟩; have B2 := Aside0.mk (below_step B1.out hb); clear hb B1)
    | (go_at_call 18; refine calls_len2 (m := (bytesOf S).length) (bytesOf_length S).symm ?_; refine (sect_Split.calls 60 (some ⟨w2.heap.size, 0, none⟩) (grownCap w2 S.size 0 5) (bytesOf S) l n (some 6) _ (C_bytes w2 S HL.out.2) (by rw [bytesOf_length]; exact grownCap_ge w2 S.size 0 5) HL.out.1).mono ?_; rintro e w3 ⟨v3, rfl, hS3, hb⟩; have B3 := Aside0.mk (below_step (bytes_below B2.out (below_size B2.out) 5 S) hb); clear hb B2; obtain ⟨Ao, co, eo⟩ := Kd.S_slice hS3; subst eo; clear hS3; (try simp only [errW_none, errW_some]))
    | (go_at_call 21; refine (mandrellaw06_num.calls (some 6) 6 _ (HE.out.below B3.out) rfl).mono ?_; rintro e w4 ⟨rfl, hb⟩; have B4 := Aside0.mk (below_step B3.out hb); clear hb B3)
    | (go_at_call 17; refine (mandrellaw06_sure.calls true _ rfl).mono ?_; rintro e w5 ⟨rfl, hb⟩; have B5 := Aside0.mk (below_step B4.out hb); clear hb))
  go_ret
  exact ⟨rfl, B5.out⟩
set_option maxHeartbeats 8000000 in
set_option maxRecDepth 100000 in
theorem order_n2 (a0 a1 : Int) (x y : Nat) (hx : a0.tmod 14 = (x : Int)) (hy : a1.tmod 14 = (y : Int)) (hx2 : x < 14) (hy2 : y < 14) (w : World) (hLE : LaidE w) (l : List S53) (n : Int) (hl : sect_Split.f 60 (bytesOf (ordB x y)) = some (l, n, (some 6)))  (b0 : decide ((x : Int) ≤ 11) = true) (b1 : decide ((y : Int) ≤ 11) = false) :
    Calls Tryd.prog 6 #[.int .u8 a0, .int .u8 a1] w fun e w' => e = .returned (.bool true) ∧ Below w.heap.size w w' := by
  have hu25 := Tryd.underlying25
  have hu66 := Tryd.underlying66
  have hsx := ord_sizes ⟨x, hx2⟩
  have hsy := ord_sizes ⟨y, hy2⟩
  simp only [] at hsx hsy
  have h8 : (⟨#[0, 97, 115, 109, 1, 0, 0, 0]⟩ : ByteArray).size = 8 := by decide
  have hz1 : (⟨#[0, 97, 115, 109, 1, 0, 0, 0]⟩ : ByteArray).size + (ordS x).size ≤ 9223372036854775807 := by omega
  have hz2 : ((⟨#[0, 97, 115, 109, 1, 0, 0, 0]⟩ : ByteArray) ++ ordS x).size + (ordS y).size ≤ 9223372036854775807 := by rw [ByteArray.size_append]; omega
  have hsB : ((⟨#[0, 97, 115, 109, 1, 0, 0, 0]⟩ : ByteArray) ++ ordS x ++ ordS y).size ≤ 100 := by rw [ByteArray.size_append, ByteArray.size_append]; omega
  have ka1 := fun W : World => run_string_add_sum (P := Tryd.prog) W (⟨#[0, 97, 115, 109, 1, 0, 0, 0]⟩ : ByteArray) (ordS x) hz1
  have ka2 := fun W : World => run_string_add_sum (P := Tryd.prog) W ((⟨#[0, 97, 115, 109, 1, 0, 0, 0]⟩ : ByteArray) ++ ordS x) (ordS y) hz2
  obtain ⟨S, hS⟩ : ∃ S : ByteArray, (⟨#[0, 97, 115, 109, 1, 0, 0, 0]⟩ : ByteArray) ++ ordS x ++ ordS y = S := ⟨_, rfl⟩
  rw [hS] at ka2 hsB
  have hl2 : sect_Split.f 60 (bytesOf S) = some (l, n, (some 6)) := by rw [← hS]; exact hl
  have kb := fun W : World => print_bytes (P := Tryd.prog) 9 22 5 Tryd.underlying9 Tryd.underlying22 Tryd.underlying5 S W
  have HX := Aside0.mk (mandrellaw06_idle.calls (x : Int) (ordS x) w (ord_idle x))
  have HY := fun W : World => Aside0.mk (mandrellaw06_idle.calls (y : Int) (ordS y) W (ord_idle y))
  have HL := Aside0.mk (And.intro hl2 hsB)
  have HE := Aside0.mk hLE
  clear hl hl2 hsB hsx hsy hz1 hz2 h8 hx2 hy2 hS hLE
  go_enter Tryd.func6, Tryd.ntmps6
  go_wp2_with (first
    | (go_at_call 22; refine HX.out.mono ?_; clear HX; rintro e w1 ⟨rfl, hb⟩; have B1 := Aside0.mk hb; clear hb)
    | (go_at_call 22; refine (HY _).out.mono ?_; clear HY; rintro e w2 ⟨rfl, hb⟩; have B2 := Aside0.mk (below_step B1.out hb); clear hb B1)
    | (go_at_call 18; refine calls_len2 (m := (bytesOf S).length) (bytesOf_length S).symm ?_; refine (sect_Split.calls 60 (some ⟨w2.heap.size, 0, none⟩) (grownCap w2 S.size 0 5) (bytesOf S) l n (some 6) _ (C_bytes w2 S HL.out.2) (by rw [bytesOf_length]; exact grownCap_ge w2 S.size 0 5) HL.out.1).mono ?_; rintro e w3 ⟨v3, rfl, hS3, hb⟩; have B3 := Aside0.mk (below_step (bytes_below B2.out (below_size B2.out) 5 S) hb); clear hb B2; obtain ⟨Ao, co, eo⟩ := Kd.S_slice hS3; subst eo; clear hS3; (try simp only [errW_none, errW_some]))
    | (go_at_call 21; refine (mandrellaw06_num.calls (some 6) 6 _ (HE.out.below B3.out) rfl).mono ?_; rintro e w4 ⟨rfl, hb⟩; have B4 := Aside0.mk (below_step B3.out hb); clear hb B3)
    | (go_at_call 17; refine (mandrellaw06_sure.calls true _ rfl).mono ?_; rintro e w5 ⟨rfl, hb⟩; have B5 := Aside0.mk (below_step B4.out hb); clear hb))
  go_ret
  exact ⟨rfl, B5.out⟩
set_option maxHeartbeats 8000000 in
set_option maxRecDepth 100000 in
theorem order_n3 (a0 a1 : Int) (x y : Nat) (hx : a0.tmod 14 = (x : Int)) (hy : a1.tmod 14 = (y : Int)) (hx2 : x < 14) (hy2 : y < 14) (w : World) (hLE : LaidE w) (l : List S53) (n : Int) (hl : sect_Split.f 60 (bytesOf (ordB x y)) = some (l, n, (some 6)))  (b0 : decide ((x : Int) ≤ 11) = true) (b1 : decide ((y : Int) ≤ 11) = true) (b2 : ((x : Int) == 0) = false) (b3 : ((y : Int) == 0) = false) (b4 : decide ((x : Int) < (y : Int)) = false) :
    Calls Tryd.prog 6 #[.int .u8 a0, .int .u8 a1] w fun e w' => e = .returned (.bool true) ∧ Below w.heap.size w w' := by
  have hu25 := Tryd.underlying25
  have hu66 := Tryd.underlying66
  have hsx := ord_sizes ⟨x, hx2⟩
  have hsy := ord_sizes ⟨y, hy2⟩
  simp only [] at hsx hsy
  have h8 : (⟨#[0, 97, 115, 109, 1, 0, 0, 0]⟩ : ByteArray).size = 8 := by decide
  have hz1 : (⟨#[0, 97, 115, 109, 1, 0, 0, 0]⟩ : ByteArray).size + (ordS x).size ≤ 9223372036854775807 := by omega
  have hz2 : ((⟨#[0, 97, 115, 109, 1, 0, 0, 0]⟩ : ByteArray) ++ ordS x).size + (ordS y).size ≤ 9223372036854775807 := by rw [ByteArray.size_append]; omega
  have hsB : ((⟨#[0, 97, 115, 109, 1, 0, 0, 0]⟩ : ByteArray) ++ ordS x ++ ordS y).size ≤ 100 := by rw [ByteArray.size_append, ByteArray.size_append]; omega
  have ka1 := fun W : World => run_string_add_sum (P := Tryd.prog) W (⟨#[0, 97, 115, 109, 1, 0, 0, 0]⟩ : ByteArray) (ordS x) hz1
  have ka2 := fun W : World => run_string_add_sum (P := Tryd.prog) W ((⟨#[0, 97, 115, 109, 1, 0, 0, 0]⟩ : ByteArray) ++ ordS x) (ordS y) hz2
  obtain ⟨S, hS⟩ : ∃ S : ByteArray, (⟨#[0, 97, 115, 109, 1, 0, 0, 0]⟩ : ByteArray) ++ ordS x ++ ordS y = S := ⟨_, rfl⟩
  rw [hS] at ka2 hsB
  have hl2 : sect_Split.f 60 (bytesOf S) = some (l, n, (some 6)) := by rw [← hS]; exact hl
  have kb := fun W : World => print_bytes (P := Tryd.prog) 9 22 5 Tryd.underlying9 Tryd.underlying22 Tryd.underlying5 S W
  have HX := Aside0.mk (mandrellaw06_idle.calls (x : Int) (ordS x) w (ord_idle x))
  have HY := fun W : World => Aside0.mk (mandrellaw06_idle.calls (y : Int) (ordS y) W (ord_idle y))
  have HL := Aside0.mk (And.intro hl2 hsB)
  have HE := Aside0.mk hLE
  clear hl hl2 hsB hsx hsy hz1 hz2 h8 hx2 hy2 hS hLE
  go_enter Tryd.func6, Tryd.ntmps6
  go_wp2_with (first
    | (go_at_call 22; refine HX.out.mono ?_; clear HX; rintro e w1 ⟨rfl, hb⟩; have B1 := Aside0.mk hb; clear hb)
    | (go_at_call 22; refine (HY _).out.mono ?_; clear HY; rintro e w2 ⟨rfl, hb⟩; have B2 := Aside0.mk (below_step B1.out hb); clear hb B1)
    | (go_at_call 18; refine calls_len2 (m := (bytesOf S).length) (bytesOf_length S).symm ?_; refine (sect_Split.calls 60 (some ⟨w2.heap.size, 0, none⟩) (grownCap w2 S.size 0 5) (bytesOf S) l n (some 6) _ (C_bytes w2 S HL.out.2) (by rw [bytesOf_length]; exact grownCap_ge w2 S.size 0 5) HL.out.1).mono ?_; rintro e w3 ⟨v3, rfl, hS3, hb⟩; have B3 := Aside0.mk (below_step (bytes_below B2.out (below_size B2.out) 5 S) hb); clear hb B2; obtain ⟨Ao, co, eo⟩ := Kd.S_slice hS3; subst eo; clear hS3; (try simp only [errW_none, errW_some]))
    | (go_at_call 21; refine (mandrellaw06_num.calls (some 6) 6 _ (HE.out.below B3.out) rfl).mono ?_; rintro e w4 ⟨rfl, hb⟩; have B4 := Aside0.mk (below_step B3.out hb); clear hb B3)
    | (go_at_call 17; refine (mandrellaw06_sure.calls true _ rfl).mono ?_; rintro e w5 ⟨rfl, hb⟩; have B5 := Aside0.mk (below_step B4.out hb); clear hb))
  all_goals have b5 : ¬ x < y := fun h => of_decide_eq_false b4 (Int.ofNat_lt.mpr h)
  all_goals first
    | (exfalso; exact absurd (by assumption) b5)
    | (exfalso; exact absurd (Nat.not_le.mp (by assumption)) b5)
    | (go_ret; exact ⟨rfl, B5.out⟩)
    | (go_ret; exact ⟨by simp [b5], B5.out⟩)
theorem mandrellaw06_SectOrder.walk (_ : True) (a0 a1 : Int) (w : World) (w0 : (Lit.int .u8 a0).wf = true) (w1 : (Lit.int .u8 a1).wf = true) (hLE : LaidE w) :
    Calls Tryd.prog 6 #[.int .u8 a0, .int .u8 a1] w fun e w' => e = .returned (.bool true) ∧ Below w.heap.size w w' := by
  have g : ∀ a : Int, (Lit.int .u8 a).wf = true → ∃ x : Nat, a.tmod 14 = (x : Int) ∧ x < 14 := by
    intro a ha
    simp [Lit.wf, IntKind.min, IntKind.max, IntKind.signed, IntKind.bits] at ha
    refine ⟨(a % 14).toNat, ?_, by omega⟩
    rw [Int.tmod_eq_emod_of_nonneg (by omega)]
    omega
  obtain ⟨x, hx, hx2⟩ := g a0 w0
  obtain ⟨y, hy, hy2⟩ := g a1 w1
  obtain ⟨l, n, hl, hl2⟩ := ord_split x y hx2 hy2
  by_cases c1 : x ≤ 11
  · by_cases c2 : y ≤ 11
    · by_cases c3 : x = 0
      · have hf : ordFine x y = true := by unfold ordFine; simp [c1, c2, c3]
        rw [if_pos hf] at hl
        exact order_f1 a0 a1 x y hx hy hx2 hy2 w hLE l n hl (hl2 hf) (decide_eq_true (by omega)) (decide_eq_true (by omega)) (by simp [c3])
      · have e3 : ((x : Int) == 0) = false := by rw [beq_eq_false_iff_ne]; omega
        by_cases c4 : y = 0
        · have hf : ordFine x y = true := by unfold ordFine; simp [c1, c2, c4]
          rw [if_pos hf] at hl
          exact order_f2 a0 a1 x y hx hy hx2 hy2 w hLE l n hl (hl2 hf) (decide_eq_true (by omega)) (decide_eq_true (by omega)) e3 (by simp [c4])
        · have e4 : ((y : Int) == 0) = false := by rw [beq_eq_false_iff_ne]; omega
          by_cases c5 : x < y
          · have hf : ordFine x y = true := by unfold ordFine; simp [c1, c2, c5]
            rw [if_pos hf] at hl
            exact order_f3 a0 a1 x y hx hy hx2 hy2 w hLE l n hl (hl2 hf) (decide_eq_true (by omega)) (decide_eq_true (by omega)) e3 e4 (decide_eq_true (by omega))
          · have hf : ¬ ordFine x y = true := by unfold ordFine; simp [c3, c4, c5]
            rw [if_neg hf] at hl
            exact order_n3 a0 a1 x y hx hy hx2 hy2 w hLE l n hl (decide_eq_true (by omega)) (decide_eq_true (by omega)) e3 e4 (decide_eq_false (by omega))
    · have hf : ¬ ordFine x y = true := by unfold ordFine; simp [c2]
      rw [if_neg hf] at hl
      exact order_n2 a0 a1 x y hx hy hx2 hy2 w hLE l n hl (decide_eq_true (by omega)) (decide_eq_false (by omega))
  · have hf : ¬ ordFine x y = true := by unfold ordFine; simp [c1]
    rw [if_neg hf] at hl
    exact order_n1 a0 a1 x y hx hy hx2 hy2 w hLE l n hl (decide_eq_false (by omega))
end Go.Proofs.YtljmikfpknmnnaaDoor.XS
namespace Go.Proofs.YtljmikfpknmnnaaDoor.Pure
theorem SectOrder : True := trivial
end Go.Proofs.YtljmikfpknmnnaaDoor.Pure
