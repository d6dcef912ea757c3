/- The planner: (*planner).do. -/
import Derived.Test.YtaklfdlcedlmfaaRings
namespace Go.Proofs.Ytaklfdlcedlmfaa.XM
open Go.RowKit Go.Proofs.YtaklfdlcedlmfaaW.PrintWords Go.Proofs.YtaklfdlcedlmfaaW.PrintLast Go.Proofs.YtaklfdlcedlmfaaW.PrintMore
open Mo
attribute [local go_sem] max2_int min2_int max_two min_two max_three min_three max_four min_four   -- for this text's walks alone
set_option linter.unusedVariables false
set_option linter.unusedSimpArgs false
/-- A move, and those that were kept from being done by it. -/
def doF : Nat → (Int → Option Int) → (Int → Option Int) → List Mv → Int → (Int → Option Int) × (Int → Option Int) × List Mv
  | 0, f, u, out, _ => (f, u, out)
  | k + 1, f, u, out, a => match f a with
    | none => (f, u, out)
    | some x => if (u a).getD 0 > 0 then (f, u, out) else doF k (up f a none) (up u x (some ((u x).getD 0 - 1))) (out ++ [⟨a, x⟩]) x
theorem doF_stop (k : Nat) (f u : Int → Option Int) (out : List Mv) (a : Int) (h : f a = none) : doF k f u out a = (f, u, out) := by
  cases k with
  | zero => rfl
  | succ k => rw [doF, h]
theorem doF_wait (k : Nat) (f u : Int → Option Int) (out : List Mv) (a : Int) (h : (u a).getD 0 > 0) : doF k f u out a = (f, u, out) := by
  cases k with
  | zero => rfl
  | succ k =>
    rw [doF]
    split
    · rfl
    · rw [if_pos h]
/-- The planner's block. -/
def PL (w : World) (p bf bu : Nat) (v : Value) : Prop := w.heap[p]? = some (.cells #[.map (some bf), .map (some bu), v] 51 (0, 0))
theorem PL.block {w w' : World} {p bf bu : Nat} {v : Value} (h : PL w p bf bu v) (hb : w'.heap[p]? = w.heap[p]?) : PL w' p bf bu v := hb.trans h
theorem PL.lt {w : World} {p bf bu : Nat} {v : Value} (h : PL w p bf bu v) : p < w.heap.size := blk_lt h
theorem PL.c0 {w : World} {p bf bu : Nat} {v : Value} (h : PL w p bf bu v) : w.cell? ⟨p, 0, none⟩ = some (.map (some bf)) := (blk_cell h 0).trans rfl
theorem PL.c1 {w : World} {p bf bu : Nat} {v : Value} (h : PL w p bf bu v) : w.cell? ⟨p, 1, none⟩ = some (.map (some bu)) := (blk_cell h 1).trans rfl
theorem PL.c2 {w : World} {p bf bu : Nat} {v : Value} (h : PL w p bf bu v) : w.cell? ⟨p, 2, none⟩ = some v := (blk_cell h 2).trans rfl
theorem PL.z2 {w : World} {p bf bu : Nat} {v : Value} (h : PL w p bf bu v) : w.frozen? ⟨p, 2, none⟩ = false := blk_frozen h 2
theorem PL.put {w : World} {p bf bu : Nat} {v : Value} (h : PL w p bf bu v) (v1 : Value) : PL (w.setCell ⟨p, 2, none⟩ v1) p bf bu v1 := by
  unfold PL at h ⊢
  have hl := blk_lt h
  have he : w.heap[p]? = some w.heap[p] := Array.getElem?_eq_getElem hl
  rw [he] at h
  have h2 : w.heap[p] = .cells #[.map (some bf), .map (some bu), v] 51 (0, 0) := Option.some.inj h
  have h3 : (w.setCell ⟨p, 2, none⟩ v1).heap[p]? = (w.heap[p]?).map (fun x => match x with | .cells c elem fz => .cells (c.setIfInBounds 2 v1) elem fz | o => o) := by
    show (w.heap.modify p _)[p]? = _
    rw [Array.getElem?_modify, if_pos rfl]
    rfl
  rw [h3, he, h2]
  rfl
/-- What the planner's moves leave as it was. -/
def KB (B p bf bu : Nat) (w w' : World) : Prop := ∀ k, k < B → k ≠ p → k ≠ bf → k ≠ bu → w'.heap[k]? = w.heap[k]?
theorem KB.trans {B p bf bu : Nat} {w w' w'' : World} (h : KB B p bf bu w w') (k : KB B p bf bu w' w'') : KB B p bf bu w w'' := fun i h1 h2 h3 h4 => (k i h1 h2 h3 h4).trans (h i h1 h2 h3 h4)
abbrev ROut (w : World) (B : Nat) (v : Value) (out : List Mv) : Prop := Kd.R k25 25 w B (fun _ => True) v out
theorem R_ne_PL {w : World} {B p bf bu : Nat} {v v0 : Value} {out : List Mv} (h : ROut w B v out) (hp : PL w p bf bu v0) : some p ≠ v.ownBlock := fun e => by
  obtain ⟨inner, ho⟩ := Kd.R_own h
  obtain ⟨cells, hc⟩ := own_typed ho p e.symm
  unfold PL at hp
  rw [hp] at hc
  injection hc with hc
  injection hc with _ hc
  exact absurd hc (by decide)
theorem R_ne_IM {w : World} {B b n : Nat} {f : Int → Option Int} {v : Value} {out : List Mv} (h : ROut w B v out) (hp : IM w b n f) : some b ≠ v.ownBlock := fun e => by
  obtain ⟨inner, ho⟩ := Kd.R_own h
  obtain ⟨cells, hc⟩ := own_typed ho b e.symm
  exact hp.ne_cells hc rfl
def UB (c : Nat) (u : Int → Option Int) : Prop := ∀ x, -(c : Int) ≤ (u x).getD 0 ∧ (u x).getD 0 ≤ (c : Int)
theorem UB.step {c : Nat} {u : Int → Option Int} (h : UB c u) (x : Int) : UB (c + 1) (up u x (some ((u x).getD 0 - 1))) := fun y => by
  unfold Mo.up
  have h1 := h y
  by_cases e : y = x
  · subst e; rw [if_pos rfl]; simp only [Option.getD_some]; omega
  · rw [if_neg e]; omega
theorem wf_small {z : Int} (h1 : -2000000000 ≤ z) (h2 : z ≤ 2000000000) : Wf z := by simp [Wf, Lit.wf, IntKind.min, IntKind.max, IntKind.signed, IntKind.bits]; omega
theorem wrap_dec {z : Int} {c : Nat} (h1 : -(c : Int) ≤ z) (h2 : z ≤ (c : Int)) (hc : c < 1000000000) : wrap64 (z - 1) = z - 1 := by unfold wrap64; omega
theorem dom_del {f : Int → Option Int} {K : List Int} {a x : Int} (hK : ∀ y, (f y).isSome = true → y ∈ K) (h : f a = some x) : (∀ y, (up f a none y).isSome = true → y ∈ K.erase a) ∧ (K.erase a).length + 1 = K.length := by
  have ha : a ∈ K := hK a (by rw [h]; rfl)
  refine ⟨fun y hy => ?_, ?_⟩
  · unfold Mo.up at hy
    by_cases e : y = a
    · rw [if_pos e] at hy; cases hy
    · rw [if_neg e] at hy
      exact (List.mem_erase_of_ne e).2 (hK y hy)
  · have h2 := List.length_erase_of_mem ha
    have h3 := List.length_pos_of_mem ha
    omega
theorem UB.mono {c d : Nat} {u : Int → Option Int} (h : UB c u) (hd : c ≤ d) : UB d u := fun x => by have := h x; omega
theorem KB.below {B p bf bu : Nat} {w w' : World} (h : Below B w w') : KB B p bf bu w w' := fun k hk _ _ _ => h.block k hk
theorem KB.set {B p bf bu : Nat} {w w' : World} (h : KB B p bf bu w w') (j : Nat) (v : Value) : KB B p bf bu w (w'.setCell ⟨p, j, none⟩ v) := fun k h1 h2 h3 h4 => (Below.heap_setCell _ _ _ _ h2).trans (h k h1 h2 h3 h4)
theorem KB.turnF {B p bf bu : Nat} {w w' w2 : World} (h : KB B p bf bu w w') (hB : B ≤ w'.heap.size) (t : w'.mapTurned w2 bf) : KB B p bf bu w w2 := fun k h1 h2 h3 h4 => (t.grown.block k (by omega) (fun e => h3 (Option.some.inj e))).trans (h k h1 h2 h3 h4)
theorem KB.turnU {B p bf bu : Nat} {w w' w2 : World} (h : KB B p bf bu w w') (hB : B ≤ w'.heap.size) (t : w'.mapTurned w2 bu) : KB B p bf bu w w2 := fun k h1 h2 h3 h4 => (t.grown.block k (by omega) (fun e => h4 (Option.some.inj e))).trans (h k h1 h2 h3 h4)
theorem set_size {w : World} {p : Addr} {v : Value} : (w.setCell p v).heap.size = w.heap.size := by simp [World.setCell]
theorem turn_size {w w2 : World} {b : Nat} (t : w.mapTurned w2 b) : w.heap.size ≤ w2.heap.size := t.grown.size
theorem R_turn {w w2 : World} {B b n : Nat} {f : Int → Option Int} {v : Value} {out : List Mv} (h : ROut w B v out) (hb : IM w b n f) (t : w.mapTurned w2 b) : ROut w2 B v out :=
  Kd.R_mono (Kd.R_move (Kd.R_bound h) (fun k hk => t.grown.block k hk.2.2.1 (fun e => by
    obtain ⟨_, _, _, q, hq, cells, hc⟩ := hk
    exact hb.ne_cells hc (Option.some.inj e).symm))) (fun _ _ => trivial)
theorem R_store {w : World} {B p bf bu : Nat} {v v0 v1 : Value} {out : List Mv} (h : ROut w B v out) (hp : PL w p bf bu v0) : ROut (w.setCell ⟨p, 2, none⟩ v1) B v out :=
  Kd.R_mono (Kd.R_far (p := ⟨p, 2, none⟩) (Kd.R_types h hp (by decide)) (fun _ hk => hk.2) v1) (fun _ _ => trivial)
theorem PL.turn {w w2 : World} {p bf bu b n : Nat} {v : Value} {f : Int → Option Int} (h : PL w p bf bu v) (hb : IM w b n f) (t : w.mapTurned w2 b) : PL w2 p bf bu v := h.block (t.grown.block p h.lt (fun e => hb.ne_cells h (Option.some.inj e).symm))
theorem IM.turn {w w2 : World} {b b' n : Nat} {f : Int → Option Int} (h : IM w b' n f) (hne : b' ≠ b) (t : w.mapTurned w2 b) : IM w2 b' n f := Mo.IM.block h (t.grown.block b' (Mo.IM.lt h) (fun e => hne (Option.some.inj e)))
set_option maxHeartbeats 8000000 in
set_option maxRecDepth 100000 in
theorem moves_do.calls (N c B p bf bu nf nu : Nat) (f u : Int → Option Int) (v : Value) (out : List Mv) (a : Int) (w0 w : World) (hB : Below w0.heap.size w0 w) (hp0 : w0.heap.size ≤ p) (hf0 : w0.heap.size ≤ bf) (hu0 : w0.heap.size ≤ bu) (hB0 : w0.heap.size ≤ B) (hBw : B ≤ w.heap.size)
    (hne : bf ≠ bu) (hp : PL w p bf bu v) (hf : IM w bf nf f) (hu : IM w bu nu u) (hr : ROut w B v out) (hnu : nu ≤ c) (hlen : out.length ≤ c) (hub : UB c u) (hc : c + N < 1000000000) (ha : Wf a) (hfv : ∀ x y, f x = some y → Wf y) (K : List Int) (hK : ∀ y, (f y).isSome = true → y ∈ K) (hKN : K.length ≤ N) :
    Calls Try.prog 16 #[.pointer (some ⟨p, 0, none⟩), .int .i64 a] w fun e w' => e = .returned (.tuple #[]) ∧ ∃ nf' nu' v', PL w' p bf bu v' ∧ IM w' bf nf' (doF N f u out a).1 ∧ IM w' bu nu' (doF N f u out a).2.1 ∧ ROut w' B v' (doF N f u out a).2.2 ∧ nu' ≤ c + N ∧ (doF N f u out a).2.2.length ≤ c + N ∧ UB (c + N) (doF N f u out a).2.1 ∧ (∀ x y, (doF N f u out a).1 x = some y → Wf y) ∧ (∃ K' : List Int, (∀ y, ((doF N f u out a).1 y).isSome = true → y ∈ K') ∧ K'.length ≤ N) ∧ Below w0.heap.size w0 w' ∧ B ≤ w'.heap.size ∧ KB B p bf bu w w' := by
  obtain ⟨F, hF⟩ : ∃ F, F = doF N f u out a := ⟨_, rfl⟩
  rw [← hF]
  have HF := Aside0.mk hF
  have HB := Aside0.mk hB
  have H0 := Aside0.mk (And.intro hp0 (And.intro hf0 (And.intro hu0 hB0)))
  have HBW := Aside0.mk hBw
  have HNE := Aside0.mk hne
  have HP := Aside0.mk hp
  have HMF := Aside0.mk hf
  have HMU := Aside0.mk hu
  have HR := Aside0.mk hr
  have HC := Aside0.mk hc
  have HNU := Aside0.mk hnu
  have HLN := Aside0.mk hlen
  have HUB := Aside0.mk hub
  have HA := Aside0.mk ha
  have HFV := Aside0.mk hfv
  have HK := Aside0.mk hK
  have HKN := Aside0.mk hKN
  clear hF hB hp0 hf0 hu0 hB0 hBw hne hp hf hu hr hc hnu hlen hub ha hfv hK hKN
  go_enter Try.func16, Try.ntmps16
  go_wp2
  go_loopg [1] N (fun kq v1 w' => ∃ (a' : Int) (nf' nu' c' : Nat) (f' u' : Int → Option Int) (out' : List Mv) (v' : Value) (K' : List Int), v1 = .int .i64 a' ∧ Aside0 (F = doF kq f' u' out' a') ∧ Aside0 (PL w' p bf bu v') ∧ Aside0 (IM w' bf nf' f') ∧ Aside0 (IM w' bu nu' u') ∧ Aside0 (ROut w' B v' out') ∧ Aside0 (c' + kq = c + N) ∧ Aside0 (nu' ≤ c' ∧ out'.length ≤ c' ∧ UB c' u' ∧ c ≤ c') ∧ Aside0 (Wf a') ∧ Aside0 (∀ x y, f' x = some y → Wf y) ∧ Aside0 (∀ y, (f' y).isSome = true → y ∈ K') ∧ Aside0 (K'.length ≤ kq) ∧ Aside0 (Below w0.heap.size w0 w') ∧ Aside0 (B ≤ w'.heap.size) ∧ Aside0 (KB B p bf bu w w'))
  case atStart => exact ⟨a, nf, nu, c, f, u, out, v, K, rfl, HF, HP, HMF, HMU, HR, ⟨rfl⟩, ⟨HNU.out, HLN.out, HUB.out, Nat.le_refl _⟩, HA, HFV, HK, HKN, HB, HBW, ⟨fun _ _ _ _ _ => rfl⟩⟩
  case round =>
    clear HF HP HMF HMU HR HNU HLN HUB HA HFV HK HKN HB HBW
    obtain ⟨a', nf', nu', c', f', u', out', v', K', rfl, HF, HP, HMF, HMU, HR, HCK, HUB, HA, HFV, HK, HKN, HB, HBW, HKB⟩ := hrel
    have hx0 := HP.out.c0
    have hx1 := HP.out.c1
    have hx2 := HP.out.c2
    cases hfa : f' a' with
    | none =>
      have hF := HF.out
      rw [doF_stop gk f' u' out' a' hfa] at hF
      have HFA := Aside0.mk hfa
      clear HF hfa
      go_wp2_with (at_lookup; refine wp_look_ok _ rfl _ _ rfl bf nf' f' rfl HMF.out a' rfl HA.out ?_; rw [HFA.out]; simp only [Option.getD_none, Option.isSome_none])
      refine bodyPost_ret (results_none rfl _ _ _) rfl ?_
      subst hF
      exact ⟨rfl, nf', nu', v', HP.out, HMF.out, HMU.out, HR.out, by have := HUB.out.1; have := HCK.out; omega, by have := HUB.out.2.1; have := HCK.out; show out'.length ≤ c + N; omega, HUB.out.2.2.1.mono (by have := HCK.out; omega), HFV.out, ⟨K', HK.out, by have := HKN.out; have := HCK.out; have := HUB.out.2.2.2; omega⟩, HB.out, HBW.out, HKB.out⟩
    | some x =>
      have HFA := Aside0.mk hfa
      have HXW := Aside0.mk (HFV.out a' x hfa)
      obtain ⟨z, hz⟩ : ∃ z, z = (u' a').getD 0 := ⟨_, rfl⟩
      have HZ := Aside0.mk hz
      by_cases hz0 : z > 0
      · have hF := HF.out
        rw [doF_wait gk f' u' out' a' (by rw [← hz]; exact hz0)] at hF
        have hzb : decide (0 < z) = true := decide_eq_true hz0
        clear HF hfa hz hz0
        go_wp2_with (at_lookup; (try (refine gate_guard (by rfl) ?_; dsimp only)); first | (refine wp_look_ok _ rfl _ _ rfl bf nf' f' rfl HMF.out a' rfl HA.out ?_; rw [HFA.out]; simp only [Option.getD_some, Option.isSome_some]) | (refine wp_look _ rfl _ _ rfl bu nu' u' rfl HMU.out a' rfl HA.out ?_; rw [← HZ.out]))
        refine bodyPost_ret (results_none rfl _ _ _) rfl ?_
        subst hF
        exact ⟨rfl, nf', nu', v', HP.out, HMF.out, HMU.out, HR.out, by have := HUB.out.1; have := HCK.out; omega, by have := HUB.out.2.1; have := HCK.out; show out'.length ≤ c + N; omega, HUB.out.2.2.1.mono (by have := HCK.out; omega), HFV.out, ⟨K', HK.out, by have := HKN.out; have := HCK.out; have := HUB.out.2.2.2; omega⟩, HB.out, HBW.out, HKB.out⟩
      · obtain ⟨hd1, hd2⟩ := dom_del HK.out hfa
        obtain ⟨k1, rfl⟩ : ∃ k1, gk = k1 + 1 := ⟨gk - 1, by have := HKN.out; omega⟩
        have hF := HF.out
        rw [doF, hfa] at hF
        simp only [] at hF
        rw [← hz, if_neg hz0] at hF
        have hzb : decide (0 < z) = false := decide_eq_false hz0
        obtain ⟨y, hy⟩ : ∃ y, y = (u' x).getD 0 := ⟨_, rfl⟩
        rw [← hy] at hF
        have HY := Aside0.mk hy
        have hyw : wrap64 (y - 1) = y - 1 := by rw [hy]; exact wrap_dec (HUB.out.2.2.1 x).1 (HUB.out.2.2.1 x).2 (by have := HCK.out; have := HC.out; omega)
        have HYW := Aside0.mk (show Wf (y - 1) from wf_small (by have := (HUB.out.2.2.1 x).1; have := HCK.out; have := HC.out; omega) (by have := (HUB.out.2.2.1 x).2; have := HCK.out; have := HC.out; omega))
        have HEQ := Aside0.mk hF
        have HYWR := Aside0.mk hyw
        have HD1 := Aside0.mk hd1
        have HD2 := Aside0.mk hd2
        clear HF hfa hz hz0 hF hd1 hd2 hy hyw
        go_wp2_with (first
          | (at_lookup; (try (refine gate_guard (by rfl) ?_; dsimp only)); first | (refine wp_look_ok _ rfl _ _ rfl bf nf' f' rfl HMF.out a' rfl HA.out ?_; rw [HFA.out]; simp only [Option.getD_some, Option.isSome_some]) | (refine wp_look _ rfl _ _ rfl bu nu' u' rfl HMU.out a' rfl HA.out ?_; rw [← HZ.out]) | (refine wp_look _ rfl _ _ rfl bu nu' u' rfl HU2.out x rfl HXW.out ?_; rw [← HY.out]))
          | ((with_reducible refine gate_builtin (b := .append) (xs := #[.tmp 30, .tmp 34]) rfl ?_); at_builtin; refine Kd.R_append k25 (w0 := wr) B rfl (.tmp 30) (.tmp 34) 23 25 (.agg #[(.int .i64 0), (.int .i64 0)]) 16 rfl Try.underlying23 info25 rfl (by decide) (by omega) v' out' (⟨a', x⟩ : Mv) [.int .i64 a', .int .i64 x] (fun _ => True) (fun _ => False) rfl rfl ?aP (fun _ hk => hk.elim) ?aF ?aO ?aB ?aS ?aL ?_; (case aP => exact k25_mkM _ _ _ (⟨a', x⟩ : Mv)); (case aF => exact fun _ _ => trivial); (case aO => exact HR.out); (case aB => exact Below.refl _ _); (case aS => exact HBW.out); (case aL => have := HUB.out.2.1; have := HCK.out; have := HC.out; omega); intro v1 w1 ho hb hg hat; obtain ⟨A1, n1, c1, e1⟩ : ∃ A n c, v1 = .slice A n c := (by obtain ⟨A, c, h, _⟩ := Kd.R_reads ho; exact ⟨A, _, c, h⟩); subst e1; have HR1 := Aside0.mk ho; have HP1 := Aside0.mk (HP.out.block (hg.block p HP.out.lt (R_ne_PL HR.out HP.out))); have HF1 := Aside0.mk (HMF.out.block (hg.block bf HMF.out.lt (R_ne_IM HR.out HMF.out))); have HU1 := Aside0.mk (HMU.out.block (hg.block bu HMU.out.lt (R_ne_IM HR.out HMU.out))); have HB1 := Aside0.mk (below_weaken HB.out H0.out.2.2.2 hb); have HKB1 := Aside0.mk (HKB.out.trans (KB.below hb)); have HS1 := Aside0.mk (Nat.le_trans HBW.out hb.size); have HFP := Aside0.mk (show bf ≠ p from HF1.out.ne_cells (show w1.heap[p]? = _ from HP1.out)); have HUP := Aside0.mk (show bu ≠ p from HU1.out.ne_cells (show w1.heap[p]? = _ from HP1.out)); have hy0 := HP1.out.c0; have hy1 := HP1.out.c1; have hy2 := HP1.out.c2; have hz2 := HP1.out.z2; clear ho hb hg hat)
          | ((with_reducible refine gate_ (.call { callee := .builtin .delete, args := #[.tmp 41, .tmp 42], argTypes := #[40, 3] }) rfl ?_); refine wp_del _ rfl _ _ rfl bf nf' f' rfl (HF1.out.set (p := ⟨p, 2, none⟩) HFP.out (.slice A1 n1 c1)) a' rfl HA.out ?_; intro w2 hm2 ht2; have HF2 := Aside0.mk hm2; have HU2 := Aside0.mk (IM.turn (HU1.out.set (p := ⟨p, 2, none⟩) HUP.out (.slice A1 n1 c1)) (fun e => HNE.out e.symm) ht2); have HP2 := Aside0.mk ((HP1.out.put (.slice A1 n1 c1)).turn (HF1.out.set (p := ⟨p, 2, none⟩) HFP.out (.slice A1 n1 c1)) ht2); have HR2 := Aside0.mk (R_turn (R_store HR1.out HP1.out) (HF1.out.set (p := ⟨p, 2, none⟩) HFP.out (.slice A1 n1 c1)) ht2); have HB2 := Aside0.mk (below_turned (below_set HB1.out H0.out.1) H0.out.2.1 ht2); have HKB2 := Aside0.mk ((HKB1.out.set 2 (.slice A1 n1 c1)).turnF (by rw [set_size]; exact HS1.out) ht2); have HS2 := Aside0.mk (Nat.le_trans (by rw [set_size]; exact HS1.out) (turn_size ht2)); have hu1 := HP2.out.c1; clear hm2 ht2)
          | (at_mapUpdate; refine wp_upd _ rfl _ _ _ rfl bu nu' u' rfl HU2.out (by have := HUB.out.1; have := HCK.out; have := HC.out; omega) x (wrap64 (y - 1)) rfl rfl HXW.out (by rw [HYWR.out]; exact HYW.out) ?_; intro w3 hm3 ht3; rw [HYWR.out] at hm3; have HU3 := Aside0.mk hm3; have HF3 := Aside0.mk (IM.turn HF2.out HNE.out ht3); have HP3 := Aside0.mk (HP2.out.turn HU2.out ht3); have HR3 := Aside0.mk (R_turn HR2.out HU2.out ht3); have HB3 := Aside0.mk (below_turned HB2.out H0.out.2.2.1 ht3); have HKB3 := Aside0.mk (HKB2.out.turnU HS2.out ht3); have HS3 := Aside0.mk (Nat.le_trans HS2.out (turn_size ht3)); clear hm3 ht3))
        go_roundg k1
        case measure => omega
        case rel => exact ⟨x, nf', nu' + 1, c' + 1, _, _, _, _, _, rfl, ⟨HEQ.out⟩, HP3, HF3, HU3, HR3, ⟨by have := HCK.out; omega⟩, ⟨by have := HUB.out.1; omega, by have := HUB.out.2.1; simp; omega, by rw [HY.out]; exact HUB.out.2.2.1.step x, by have := HUB.out.2.2.2; omega⟩, HXW, ⟨fun z0 y0 h0 => by unfold Mo.up at h0; split at h0 <;> first | cases h0 | exact HFV.out z0 y0 h0⟩, HD1, ⟨by have := HD2.out; have := HKN.out; omega⟩, HB3, HS3, HKB3⟩
end Go.Proofs.Ytaklfdlcedlmfaa.XM
