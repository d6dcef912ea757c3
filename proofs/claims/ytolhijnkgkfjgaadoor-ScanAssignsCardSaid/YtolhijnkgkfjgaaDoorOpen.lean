/- What came in, read by its kind: whole numbers, slices, structs, of whatever depth. No program. -/
import Derived.Deep.Slices
import Derived.ChangeSame
import Derived.OpenShut
import Derived.Test.YtolhijnkgkfjgaaDoorWWords
namespace Go.Proofs.YtolhijnkgkfjgaaDoor.Op
open Go Go.RowKit Go.ChangeShapes Go.WideShapes Go.Deep Go.Proofs.YtolhijnkgkfjgaaDoorW.PrintWords
set_option linter.unusedVariables false
/-- A value of type t that came in reads as one of kind d, a good one. -/
def Opens {α : Type} (P : Program) (t : TypeId) (d : Kd α) (good : α → Prop) : Prop :=
  ∀ (H : Type) (enc : TypeId × Value → H) (w : World) (base : Nat) (spare : Nat → Bool) (held : Bool) (fuel : Nat) (cs : List Value) (x : DataW H × List MemPlace), DataW.trod enc P w base spare held fuel t cs = some x → ∃ a, d.K w a cs ∧ good a
theorem opens_int {P : Program} {t : TypeId} {k : IntKind} (ht : P.underlying t = some (.int k)) : Opens P t (Kd.int k) (fun a => (Lit.int k a).wf = true) := by
  intro H enc w base spare held fuel cs x h
  obtain ⟨n, rfl, _, hw⟩ := DataW.trod_int ht h
  exact ⟨n, rfl, hw⟩
theorem opens_slice {α : Type} {P : Program} {t e : TypeId} {d : Kd α} {good : α → Prop} [Inhabited α] (ht : P.underlying t = some (.slice e)) (hc : P.cellsOf e = d.sz) (he : Opens P e d good) : Opens P t (Kd.slice e d) (fun l => ∀ a ∈ l, good a) := by
  intro H enc w base spare held fuel cs x h
  rcases open_slice ht h with ⟨rfl, _⟩ | ⟨a, len, cap, m, n, D, Pl, rfl, hb, hl, hm, hmm, _, hx⟩
  · exact ⟨[], ⟨none, 0, rfl, Nat.le_refl _, ⟨rfl, by simp, fun h => absurd h (Nat.lt_irrefl 0)⟩⟩, fun a ha => by simp at ha⟩
  · have hlm : len ≤ m := by rw [hmm]; split <;> omega
    obtain ⟨f, hf⟩ := choose_lt (α := α) (n := len) (p := fun i v => ∃ cs', w.cells? base (a.add (i * P.cellsOf e)) (P.cellsOf e) = some cs' ∧ d.K w v cs' ∧ good v) (fun i hi => by
      obtain ⟨cs', h1, h2⟩ := hx i (by omega)
      obtain ⟨v, h3, h4⟩ := he H enc w base spare held n cs' _ h2
      exact ⟨v, cs', h1, h3, h4⟩)
    refine ⟨(List.range len).map f, ⟨some a, cap, by simp, by simpa using hl, by simp, by simp; unfold maxLen at hm; omega, fun _ => ⟨a, rfl, fun j p hj => ?_⟩⟩, fun z hz => ?_⟩
    · have hjl : j < len := by simpa using (List.getElem?_eq_some_iff.1 hj).1
      have hp : f j = p := by
        rw [List.getElem?_eq_getElem (by simpa using hjl)] at hj
        simpa using hj
      subst hp
      obtain ⟨cs', h1, h2, _⟩ := hf j hjl
      obtain ⟨_, h4, h5⟩ := World.cells?_some h1
      refine ⟨cs', d.K_len h2, h2, fun i u hu => ?_⟩
      have hi : i < P.cellsOf e := by rw [← h4]; exact (List.getElem?_eq_some_iff.1 hu).1
      have h6 := h5 i hi
      rw [Go.Deep.add_add, hc] at h6
      rw [h6, hu]
    · obtain ⟨i, hi, rfl⟩ := List.mem_map.1 hz
      obtain ⟨_, _, _, h7⟩ := hf i (List.mem_range.1 hi)
      exact h7
/-- Fields from one on, in line. -/
def FieldsOpen {α : Type} (P : Program) (fs : List Field) (off : Nat) (d : Kd α) (good : α → Prop) : Prop :=
  ∀ (H : Type) (enc : TypeId × Value → H) (w : World) (base : Nat) (spare : Nat → Bool) (held : Bool) (n : Nat) (cs : List Value), (∀ f ∈ fs, ∃ y, DataW.trod enc P w base spare held n f.type ((cs.drop f.offset).take (P.cellsOf f.type)) = some y) → cs.length = off + d.sz → ∃ a, d.K w a (cs.drop off) ∧ good a
theorem fields_one {α : Type} {P : Program} {f : Field} {off : Nat} {d : Kd α} {good : α → Prop} (ho : f.offset = off) (hc : P.cellsOf f.type = d.sz) (h : Opens P f.type d good) : FieldsOpen P [f] off d good := by
  intro H enc w base spare held n cs hf hl
  obtain ⟨y, hy⟩ := hf f (by simp)
  obtain ⟨a, ha, hg⟩ := h H enc w base spare held n _ y hy
  rw [hc, ho, List.take_of_length_le (by rw [List.length_drop]; omega)] at ha
  exact ⟨a, ha, hg⟩
theorem fields_cons {α β : Type} {P : Program} {f : Field} {fs : List Field} {off : Nat} {d : Kd α} {dr : Kd β} {good : α → Prop} {goodr : β → Prop} (ho : f.offset = off) (hc : P.cellsOf f.type = d.sz) (h : Opens P f.type d good) (hr : FieldsOpen P fs (off + d.sz) dr goodr) :
    FieldsOpen P (f :: fs) off (Kd.pair d dr) (fun x => good x.1 ∧ goodr x.2) := by
  intro H enc w base spare held n cs hf hl
  have hl' : cs.length = off + (d.sz + dr.sz) := hl
  obtain ⟨y, hy⟩ := hf f (by simp)
  obtain ⟨a, ha, hg⟩ := h H enc w base spare held n _ y hy
  obtain ⟨b, hb, hgb⟩ := hr H enc w base spare held n cs (fun f' hf' => hf f' (by simp [hf'])) (by omega)
  rw [hc, ho] at ha
  refine ⟨(a, b), ⟨_, _, ?_, ha, hb⟩, hg, hgb⟩
  rw [← List.drop_drop, List.take_append_drop]
theorem opens_struct {α β : Type} {P : Program} {t : TypeId} {fs : List Field} {d : Kd α} {good : α → Prop} (f : β → α) (g : α → β) (hfg : ∀ a, f (g a) = a) (ht : P.underlying t = some (.struct fs.toArray)) (hc : P.cellsOf t = d.sz) (h : FieldsOpen P fs 0 d good) : Opens P t (Kd.iso d f) (fun b => good (f b)) := by
  intro H enc w base spare held fuel cs x hx
  obtain ⟨xs, n, _, _, hl, hlen, hf⟩ := DataW.trod_struct ht hx
  obtain ⟨a, ha, hg⟩ := h H enc w base spare held n cs (fun q hq => by
    obtain ⟨i, hi, rfl⟩ := List.mem_iff_getElem.1 hq
    have h2 := hf i fs[i] (by simp [List.getElem?_eq_getElem hi])
    have h3 : i < xs.length := by rw [hlen]; simpa using hi
    exact ⟨xs[i], by rw [h2, List.getElem?_eq_getElem h3]⟩) (by omega)
  rw [List.drop_zero] at ha
  exact ⟨g a, by show d.K w (f (g a)) cs; rw [hfg]; exact ha, by show good (f (g a)); rw [hfg]; exact hg⟩
end Go.Proofs.YtolhijnkgkfjgaaDoor.Op
