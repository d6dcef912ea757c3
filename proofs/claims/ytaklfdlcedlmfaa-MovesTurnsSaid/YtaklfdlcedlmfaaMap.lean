/- Maps from int to int, and sets of int, as functions: made, asked, written, struck, gone over. -/
import Derived.Test.YtaklfdlcedlmfaaProg
import Derived.WalkKit
import Derived.Maps.OwnSet
import Derived.Maps.OwnOps
import Derived.Maps.RangeWalk
import Derived.Test.YtaklfdlcedlmfaaWWords
import Derived.Test.YtaklfdlcedlmfaaWKept
namespace Go.Proofs.Ytaklfdlcedlmfaa.Mo
open Go Go.RowKit Go.Maps Go.Proofs.YtaklfdlcedlmfaaW.PrintWords
set_option linter.unusedVariables false
theorem law : Keyed Try.prog 3 := int_keyed Try.underlying3
theorem zeroI (w : World) : (zeroValue 3).run Try.prog w = .ok (.int .i64 0) w := by kernel_rfl
theorem zeroB (w : World) : (zeroValue 4).run Try.prog w = .ok (.bool false) w := by kernel_rfl
abbrev Wf (x : Int) : Prop := (Lit.int .i64 x).wf = true
def up (f : Int → Option Int) (x : Int) (v : Option Int) : Int → Option Int := fun y => if y = x then v else f y
/-- D reads as f. -/
def Rds (D : DataW Unit) (f : Int → Option Int) : Prop := ∀ x, Wf x → Maps.has D (.int .i64 x) = (f x).isSome ∧ D.atKey (.int .i64 x) (.lit (.int .i64 0)) = .lit (.int .i64 ((f x).getD 0))
/-- Block b is a map from int to int of at most n entries: f. -/
def IM (w : World) (b n : Nat) (f : Int → Option Int) : Prop := ∃ D : DataW Unit, w.ownsMap Try.prog 3 (plainElem Try.prog 3) b n D ∧ Rds D f
theorem ownsMap_block {P : Program} {k : TypeId} {R : Value → Option (DataW Unit × List MemPlace)} {w w' : World} {b n : Nat} {D : DataW Unit} (h : w.ownsMap P k R b n D) (hb : w'.heap[b]? = w.heap[b]?) : w'.ownsMap P k R b n D := by
  obtain ⟨es, clock, h1, h2⟩ := h
  exact ⟨es, clock, hb.trans h1, h2⟩
theorem IM.block {w w' : World} {b n : Nat} {f : Int → Option Int} (h : IM w b n f) (hb : w'.heap[b]? = w.heap[b]?) : IM w' b n f := by
  obtain ⟨D, h1, h2⟩ := h
  exact ⟨D, ownsMap_block h1 hb, h2⟩
theorem IM.set {w : World} {b n : Nat} {f : Int → Option Int} (h : IM w b n f) {p : Addr} (hp : b ≠ p.block) (v : Value) : IM (w.setCell p v) b n f := h.block (Below.heap_setCell _ _ _ _ hp)
theorem IM.drew {w : World} {b n : Nat} {f : Int → Option Int} (h : IM w b n f) : IM w.drew b n f := h.block rfl
theorem IM.drewN {w : World} {b n : Nat} {f : Int → Option Int} (h : IM w b n f) (k : Nat) : IM (w.drewN k) b n f := h.block rfl
theorem IM.lt {w : World} {b n : Nat} {f : Int → Option Int} (h : IM w b n f) : b < w.heap.size := by
  obtain ⟨D, h1, _⟩ := h
  exact h1.lt
theorem IM.ne_cells {w : World} {b n g : Nat} {f : Int → Option Int} {cs : Array Value} {t : TypeId} {fz : Nat × Nat} (h : IM w b n f) (hg : w.heap[g]? = some (.cells cs t fz)) : b ≠ g := by
  rintro rfl
  obtain ⟨D, ⟨es, clock, h1, h2⟩, _⟩ := h
  rw [h1] at hg
  cases hg
theorem IM.made (w : World) : IM (w.alloc (.map #[] 0)) w.heap.size 0 (fun _ => none) :=
  ⟨.map [], World.ownsMap_made w _ _ _, fun x _ => ⟨rfl, rfl⟩⟩
theorem isKey (x : Int) (h : Wf x) : WideAt.IsKeyLit (.int .i64 x) := law.key (keyOf_int_mk Try.underlying3 h)
theorem Rds.put {D : DataW Unit} {f : Int → Option Int} (h : Rds D f) (hD : IsMap D) (x v : Int) (hx : Wf x) : Rds (D.put (.int .i64 x) (.lit (.int .i64 v))) (up f x (some v)) := by
  intro y hy
  unfold up
  by_cases e : y = x
  · subst e
    rw [if_pos rfl, has_put_same hD (isKey y hx), atKey_put_same hD (isKey y hx)]
    exact ⟨rfl, rfl⟩
  · rw [if_neg e, has_put_other (fun h => e (by injection h)), atKey_put_other (fun h => e (by injection h))]
    exact h y hy
theorem Rds.del {D : DataW Unit} {f : Int → Option Int} (h : Rds D f) (x : Int) : Rds (D.del (.int .i64 x)) (up f x none) := by
  intro y hy
  unfold up
  by_cases e : y = x
  · subst e
    rw [if_pos rfl, has_del_same, atKey_del_same]
    exact ⟨rfl, rfl⟩
  · rw [if_neg e, has_del_other (fun h => e (by injection h)), atKey_del_other (fun h => e (by injection h))]
    exact h y hy
section
variable {ops : Array Oper} {rest : List Oper} {o : Oper} {a : Act} {Q : Exit → Act → World → Prop}
theorem wp_look (w : World) (hg : o.guard = none) (m x : Operand) (hop : o.op = Op.lookup 40 m x false) (b n : Nat) (f : Int → Option Int) (hm : a.eval m = .map (some b)) (h : IM w b n f) (z : Int) (hx : a.eval x = .int .i64 z) (hz : Wf z)
    (hK : wpList Try.prog ops Q rest (a.put o.dst (.int .i64 ((f z).getD 0))) w) : wpList Try.prog ops Q (o :: rest) a w := by
  obtain ⟨D, h1, h2⟩ := h
  refine wpList_lookup_own_int w hg m x _ hop 3 3 .i64 law Try.underlying40 Try.underlying3 (zeroI w) b n D hm h1 _ _ hx (keyOf_int_mk Try.underlying3 hz) (fun c hc _ => ?_)
  have h3 := (h2 z hz).2
  rw [hc] at h3
  have : c = (f z).getD 0 := by injection h3 with h3; injection h3
  rw [this]
  exact hK
theorem wp_look_ok (w : World) (hg : o.guard = none) (m x : Operand) (hop : o.op = Op.lookup 40 m x true) (b n : Nat) (f : Int → Option Int) (hm : a.eval m = .map (some b)) (h : IM w b n f) (z : Int) (hx : a.eval x = .int .i64 z) (hz : Wf z)
    (hK : wpList Try.prog ops Q rest (a.put o.dst (.tuple #[.int .i64 ((f z).getD 0), .bool (f z).isSome])) w) : wpList Try.prog ops Q (o :: rest) a w := by
  obtain ⟨D, h1, h2⟩ := h
  refine wpList_lookup_own_ok_int w hg m x _ hop 3 3 .i64 law Try.underlying40 Try.underlying3 (zeroI w) b n D hm h1 _ _ hx (keyOf_int_mk Try.underlying3 hz) (fun c hc _ => ?_)
  have h3 := (h2 z hz).2
  rw [hc] at h3
  have : c = (f z).getD 0 := by injection h3 with h3; injection h3
  rw [this, (h2 z hz).1]
  exact hK
theorem wp_upd (w : World) (hg : o.guard = none) (m x v : Operand) (hop : o.op = Op.mapUpdate 40 m x v) (b n : Nat) (f : Int → Option Int) (hm : a.eval m = .map (some b)) (h : IM w b n f) (hn : n < 1000000000) (z y : Int) (hx : a.eval x = .int .i64 z) (hv : a.eval v = .int .i64 y) (hz : Wf z) (hy : Wf y)
    (hK : ∀ w', IM w' b (n + 1) (up f z (some y)) → w.mapTurned w' b → wpList Try.prog ops Q rest (a.put o.dst undef) w') : wpList Try.prog ops Q (o :: rest) a w := by
  obtain ⟨D, h1, h2⟩ := h
  refine wpList_mapUpdate_in w hg m x v _ hop 3 3 law Try.underlying40 (plainElem Try.prog 3) b n D hm h1 (by unfold maxLen; omega) _ _ _ hx hv (keyOf_int_mk Try.underlying3 hz) _ [] (plainElem_int Try.underlying3 hy) (fun w' h3 h4 => hK w' ⟨_, h3, h2.put h1.isMap z y hz⟩ h4)
theorem wp_del (w : World) (hg : o.guard = none) (m x : Operand) (hop : o.op = Op.call { callee := Callee.builtin Builtin.delete, args := #[m, x], argTypes := #[40, 3] }) (b n : Nat) (f : Int → Option Int) (hm : a.eval m = .map (some b)) (h : IM w b n f) (z : Int) (hx : a.eval x = .int .i64 z) (hz : Wf z)
    (hK : ∀ w', IM w' b n (up f z none) → w.mapTurned w' b → wpList Try.prog ops Q rest (a.put o.dst (.tuple #[])) w') : wpList Try.prog ops Q (o :: rest) a w := by
  obtain ⟨D, h1, h2⟩ := h
  refine wpList_delete_own w hg m x _ _ hop 3 law Try.underlying40 (plainElem Try.prog 3) b n D hm h1 _ _ hx (keyOf_int_mk Try.underlying3 hz) (fun w' h3 h4 => hK w' ⟨_, h3, h2.del z⟩ h4)
theorem wp_make (w : World) (hg : o.guard = none) (hop : o.op = Op.makeMap 40 none)
    (hK : ∀ w' b, w.heap.size = b → IM w' b 0 (fun _ => none) → Below w.heap.size w w' → wpList Try.prog ops Q rest (a.put o.dst (.map (some b))) w') : wpList Try.prog ops Q (o :: rest) a w := by
  refine Kd.event_run hg (w1 := w.alloc (.map #[] 0)) (v := .map (some w.heap.size)) ?_ (hK _ _ rfl (IM.made w) (below_alloc (Below.refl _ _) _))
  unfold execOp
  rw [hop]
  kernel_rfl
/-- D reads as the set g. -/
def RdsB (D : DataW Unit) (g : Int → Bool) : Prop := ∀ x, Wf x → D.atKey (.int .i64 x) (.lit (.bool false)) = .lit (.bool (g x))
/-- Block b is a map from int to bool: g. -/
def SM (w : World) (b n : Nat) (g : Int → Bool) : Prop := ∃ D : DataW Unit, w.ownsMap Try.prog 3 (plainElem Try.prog 4) b n D ∧ RdsB D g
theorem SM.block {w w' : World} {b n : Nat} {g : Int → Bool} (h : SM w b n g) (hb : w'.heap[b]? = w.heap[b]?) : SM w' b n g := by
  obtain ⟨D, h1, h2⟩ := h
  exact ⟨D, ownsMap_block h1 hb, h2⟩
theorem SM.set {w : World} {b n : Nat} {g : Int → Bool} (h : SM w b n g) {p : Addr} (hp : b ≠ p.block) (v : Value) : SM (w.setCell p v) b n g := h.block (Below.heap_setCell _ _ _ _ hp)
theorem SM.lt {w : World} {b n : Nat} {g : Int → Bool} (h : SM w b n g) : b < w.heap.size := by
  obtain ⟨D, h1, _⟩ := h
  exact h1.lt
theorem SM.made (w : World) : SM (w.alloc (.map #[] 0)) w.heap.size 0 (fun _ => false) :=
  ⟨.map [], World.ownsMap_made w _ _ _, fun x _ => rfl⟩
theorem bool_inv_of {P : Program} {e : TypeId} (he : P.underlying e = some .bool) {v : Value} {c : Bool} {z : List MemPlace} (h : plainElem (H := Unit) P e v = some (.lit (.bool c), z)) : v = .bool c := by
  cases v <;> simp [plainElem, he] at h
  rw [h.1]
theorem bool_inv {v : Value} {c : Bool} {z : List MemPlace} (h : plainElem (H := Unit) Try.prog 4 v = some (.lit (.bool c), z)) : v = .bool c := bool_inv_of Try.underlying4 h
theorem wp_makeB (w : World) (hg : o.guard = none) (hop : o.op = Op.makeMap 54 none)
    (hK : ∀ w' b, w.heap.size = b → SM w' b 0 (fun _ => false) → Below w.heap.size w w' → wpList Try.prog ops Q rest (a.put o.dst (.map (some b))) w') : wpList Try.prog ops Q (o :: rest) a w := by
  refine Kd.event_run hg (w1 := w.alloc (.map #[] 0)) (v := .map (some w.heap.size)) ?_ (hK _ _ rfl (SM.made w) (below_alloc (Below.refl _ _) _))
  unfold execOp
  rw [hop]
  kernel_rfl
theorem wp_lookB (w : World) (hg : o.guard = none) (m x : Operand) (hop : o.op = Op.lookup 54 m x false) (b n : Nat) (g : Int → Bool) (hm : a.eval m = .map (some b)) (h : SM w b n g) (z : Int) (hx : a.eval x = .int .i64 z) (hz : Wf z)
    (hK : wpList Try.prog ops Q rest (a.put o.dst (.bool (g z))) w) : wpList Try.prog ops Q (o :: rest) a w := by
  obtain ⟨D, h1, h2⟩ := h
  refine wpList_plain hg fun K' hK' => ?_
  obtain ⟨v, ps, hrun, hat⟩ := h1.lookup law Try.underlying54 (zeroB w) (plainElem_bool Try.underlying4 false) (keyOf_int_mk Try.underlying3 hz)
  rw [h2 z hz] at hat
  have hv := bool_inv hat
  subst hv
  unfold Oper.wp
  simp [execOp, hop, hm, hx, hrun, Result.andThen]
  exact hK' _ _ hK
theorem wp_updB (w : World) (hg : o.guard = none) (m x v : Operand) (hop : o.op = Op.mapUpdate 54 m x v) (b n : Nat) (g : Int → Bool) (hm : a.eval m = .map (some b)) (h : SM w b n g) (hn : n < 1000000000) (z : Int) (c : Bool) (hx : a.eval x = .int .i64 z) (hv : a.eval v = .bool c) (hz : Wf z)
    (hK : ∀ w', SM w' b (n + 1) (fun y => if y = z then c else g y) → w.mapTurned w' b → wpList Try.prog ops Q rest (a.put o.dst undef) w') : wpList Try.prog ops Q (o :: rest) a w := by
  obtain ⟨D, h1, h2⟩ := h
  refine wpList_mapUpdate_in w hg m x v _ hop 3 4 law Try.underlying54 (plainElem Try.prog 4) b n D hm h1 (by unfold maxLen; omega) _ _ _ hx hv (keyOf_int_mk Try.underlying3 hz) _ [] (plainElem_bool Try.underlying4 c) (fun w' h3 h4 => hK w' ⟨_, h3, fun y hy => ?_⟩ h4)
  show _ = DataW.lit (Lit.bool (if y = z then c else g y))
  by_cases e : y = z
  · subst e
    rw [if_pos rfl, atKey_put_same h1.isMap (isKey y hy)]
  · rw [if_neg e, atKey_put_other (fun h => e (by injection h))]
    exact h2 y hy
theorem below_turned {w0 w w' : World} {b : Nat} (h : Below w0.heap.size w0 w) (hb : w0.heap.size ≤ b) (t : w.mapTurned w' b) : Below w0.heap.size w0 w' :=
  h.grown t.grown h.size (fun k hk => by cases hk; exact hb)
/-- The map in block b is gone over by the iterator in block r: 'left' is still to come. -/
def IR (w : World) (b r n : Nat) (f : Int → Option Int) (left : Int → Bool) (cnt : Nat) : Prop :=
  ∃ (D : DataW Unit) (L : Lit → Bool), w.ranges Try.prog 3 (plainElem Try.prog 3) b r n D L cnt ∧ Rds D f ∧ ∀ x, Wf x → L (.int .i64 x) = left x
theorem IR.im {w : World} {b r n cnt : Nat} {f : Int → Option Int} {left : Int → Bool} (h : IR w b r n f left cnt) : IM w b n f := by
  obtain ⟨D, L, h1, h2, _⟩ := h
  exact ⟨D, h1.owns, h2⟩
theorem IR.ne {w : World} {b r n cnt : Nat} {f : Int → Option Int} {left : Int → Bool} (h : IR w b r n f left cnt) : r ≠ b := by
  obtain ⟨D, L, h1, h2, _⟩ := h
  exact h1.ne
theorem IR.ltr {w : World} {b r n cnt : Nat} {f : Int → Option Int} {left : Int → Bool} (h : IR w b r n f left cnt) : r < w.heap.size := by
  obtain ⟨D, L, h1, h2, _⟩ := h
  exact h1.lt
theorem IR.block {w w' : World} {b r n cnt : Nat} {f : Int → Option Int} {left : Int → Bool} (h : IR w b r n f left cnt) (hb : w'.heap[b]? = w.heap[b]?) (hr : w'.heap[r]? = w.heap[r]?) : IR w' b r n f left cnt := by
  obtain ⟨D, L, ⟨es, clock, since, seen, c0, h1, h2, h3, h4, h5, h6⟩, hD, hL⟩ := h
  exact ⟨D, L, ⟨es, clock, since, seen, c0, hb.trans h1, h2, h3, h4, hr.trans h5, h6⟩, hD, hL⟩
theorem wp_range (w : World) (hg : o.guard = none) (m : Operand) (hop : o.op = Op.range 40 m) (b n : Nat) (f : Int → Option Int) (hm : a.eval m = .map (some b)) (h : IM w b n f)
    (hK : ∀ w' r cnt, w.heap.size = r → cnt ≤ n → IR w' b r n f (fun x => (f x).isSome) cnt → Below w.heap.size w w' → wpList Try.prog ops Q rest (a.put o.dst (.pointer (some ⟨r, 0, none⟩))) w') : wpList Try.prog ops Q (o :: rest) a w := by
  obtain ⟨D, h1, h2⟩ := h
  refine wpList_range_own w hg m _ hop 3 3 law Try.underlying40 (plainElem Try.prog 3) b n D hm h1 (fun w' h3 h4 h5 => hK w' _ (Maps.size D) rfl h1.size_le ⟨D, _, h3, h2, fun x hx => (h2 x hx).1⟩ ((Below.refl _ _).grown h4 (Nat.le_refl _) (fun k hk => by cases hk)))
theorem wp_next (w : World) (hg : o.guard = none) (it : Operand) (hop : o.op = Op.next it false) (b r n : Nat) (f : Int → Option Int) (left : Int → Bool) (cnt : Nat) (hit : a.eval it = .pointer (some ⟨r, 0, none⟩)) (h : IR w b r n f left cnt)
    (hDone : (∀ x, Wf x → left x = false) → wpList Try.prog ops Q rest (a.put o.dst (.tuple #[.bool false])) w)
    (hMore : ∀ (x c : Int) (w' : World) (cnt' : Nat), Wf x → Wf c → left x = true → f x = some c → IR w' b r n f (fun z => left z && !(z == x)) cnt' → cnt' < cnt → w.grownBy w' (some r) → w'.heap.size = w.heap.size → (Instr.entry (.pointer (some ⟨r, 0, none⟩))).run Try.prog w' = .ok (.tuple #[.int .i64 x, .int .i64 c]) w' → wpList Try.prog ops Q rest (a.put o.dst (.tuple #[.bool true, .int .i64 x, .int .i64 c])) w') :
    wpList Try.prog ops Q (o :: rest) a w := by
  obtain ⟨D, L, h1, h2, h3⟩ := h
  refine wpList_next_ranges_ii w hg it hop 3 3 .i64 .i64 law Try.underlying3 Try.underlying3 b r n D L cnt hit h1 (fun _ hl => hDone (fun x hx => by rw [← h3 x hx]; exact hl _)) (fun x c w' cnt' hx hc hl hat hr hlt hgr hs hen => ?_)
  have h4 := h2 x hx
  have hh : Maps.has D (.int .i64 x) = true := has_true_of_atKey hat
  have hf : f x = some c := by
    rw [hat] at h4
    rw [hh] at h4
    cases hfx : f x with
    | none => rw [hfx] at h4; exact absurd h4.1 (by simp)
    | some v =>
      rw [hfx] at h4
      have h5 := h4.2
      injection h5 with h5
      injection h5 with _ h5
      rw [h5]
      rfl
  refine hMore x c w' cnt' hx hc (by rw [← h3 x hx]; exact hl) hf ⟨D, _, hr, h2, fun z hz => ?_⟩ hlt hgr hs hen
  simp only [h3 z hz]
  congr 2
  simp only [Lit.sameKey]
  by_cases e : z = x
  · subst e
    simp
  · simp [e]
end
end Go.Proofs.Ytaklfdlcedlmfaa.Mo
