/- Assign: as one plain function, and its walk. -/
import Derived.Test.YtolhijnkgkfjgaaDoorScan4
namespace Go.Proofs.YtolhijnkgkfjgaaDoor.XC
open Go.RowKit Go.Proofs.YtolhijnkgkfjgaaDoorW.PrintWords Go.Proofs.YtolhijnkgkfjgaaDoorW.PrintLast Go.Proofs.YtolhijnkgkfjgaaDoorW.PrintMore
attribute [local go_sem] max2_int min2_int max_two min_two max_three min_three max_four min_four   -- for this text's walks alone
set_option linter.unusedVariables false
set_option linter.unusedSimpArgs false
theorem one_C {w : World} {g : Nat} {x : Int} (h : w.heap[g]? = some (.cells #[.int .i64 x] 3 (0, 0))) : Kd.C (Kd.int .i64) w (some ⟨g, 0, none⟩) 1 [x] := by
  refine Kd.C_of_reads (enc := Value.int .i64) (d := (0 : Int)) (h1 := fun _ => rfl) ⟨rfl, by omega, fun _ => ⟨_, rfl, fun j hj => ?_⟩⟩
  obtain rfl : j = 0 := by omega
  rw [Addr.add_zero']
  exact (blk_cell h 0).trans rfl
theorem made_nil (k : Nat) : madeCells #[nilS] (k * 1) = Array.replicate k nilS := by
  unfold madeCells
  apply Array.ext
  · simp
  · intro i h1 h2
    simp [Nat.mod_one]
theorem make_ex (W : World) (k : Nat) (hk : k ≤ 1000) : ∃ (w1 : World) (g : Nat), (∀ (f : Operand → Value) (oi : Oper) (x y : Operand), oi.op = .makeSlice 48 x y → f x = .int .i64 (k : Int) → f y = .int .i64 (k : Int) → (execOp f oi).run Tryd.prog W = .ok (.value (.slice (some ⟨g, 0, none⟩) k k)) w1) ∧ w1.heap[g]? = some (.cells (Array.replicate k nilS) 25 (0, 0)) ∧ Below W.heap.size W w1 ∧ W.heap.size ≤ g := by
  obtain ⟨i0, hi, hzz⟩ := Option.map_eq_some_iff.1 infoIs
  simp only [Prod.mk.injEq] at hzz
  obtain ⟨hz0, hz1, hz2⟩ := hzz
  have hr := run_make (P := Tryd.prog) W 48 25 i0 nilS Tryd.underlying48 hi hz0 .i64 .i64 (k : Int) (k : Int) (by omega) (by omega) (by rw [hz2]; omega) (by omega)
  rw [Int.toNat_natCast, hz1, show (nilS : Value).cells = #[nilS] from rfl, made_nil] at hr
  refine ⟨W.alloc (.cells (Array.replicate k nilS) 25), W.heap.size, fun f oi x y ho hx hy => ?_, ?_, below_alloc (Below.refl _ _) _, Nat.le_refl _⟩
  · simp [execOp, ho, hx, hy, hr]
  · show (W.heap.push _)[W.heap.size]? = _
    exact Array.getElem?_push_size
theorem lit_run (W : World) : (Instr.buildSlice 25 1 #[(0, .int .i64 (-1))]).run Tryd.prog W = .ok (.slice (some ⟨W.heap.size, 0, none⟩) 1 1) (W.alloc (.cells #[.int .i64 (-1)] 3)) := by kernel_rfl
theorem lit_ex (W : World) : ∃ (w1 : World) (g : Nat), (∀ (f : Operand → Value) (oi : Oper), oi.op = .buildSlice 25 1 #[(0, .const (.int .i64 (-1)))] → f (.const (.int .i64 (-1))) = .int .i64 (-1) → (execOp f oi).run Tryd.prog W = .ok (.value (.slice (some ⟨g, 0, none⟩) 1 1)) w1) ∧ w1.heap[g]? = some (.cells #[.int .i64 (-1)] 3 (0, 0)) ∧ Below W.heap.size W w1 ∧ W.heap.size ≤ g := by
  refine ⟨W.alloc (.cells #[.int .i64 (-1)] 3), W.heap.size, fun f oi ho hx => ?_, ?_, below_alloc (Below.refl _ _) _, Nat.le_refl _⟩
  · simp [execOp, ho, hx, lit_run]
  · show (W.heap.push _)[W.heap.size]? = _
    exact Array.getElem?_push_size
/-- All that wait, one after another. -/
def pushAll (l : List Sp) : Nat → Nat → List Int → List Int
  | 0, _, q => q
  | m + 1, i, q => pushAll l m (i + 1) (if (rdS l (i : Int)).f0.length = 0 then q else pushF l q (i : Int))
/-- One is given a place. -/
def stepI (mt : Int → Int → Bool) (l : List Sp) (k : Nat) (ins : List (List Int)) (at_ : List Int) (id : Int) : List (List Int) := if (freeR mt k ins id).isSome = true then freeI mt k ins id else insteadI mt l k ins at_ id
def stepA (mt : Int → Int → Bool) (l : List Sp) (k : Nat) (ins : List (List Int)) (at_ : List Int) (id : Int) : List Int := if (freeR mt k ins id).isSome = true then freeA mt k ins at_ id else insteadA mt l k ins at_ id
def runF (mt : Int → Int → Bool) (l : List Sp) (k : Nat) : Nat → List Int → List (List Int) → List Int → List (List Int) × List Int
  | 0, _, ins, at_ => (ins, at_)
  | f + 1, q, ins, at_ => if q.length = 0 then (ins, at_) else runF mt l k f (popF l q).dropLast (stepI mt l k ins at_ ((popF l q).getLastD 0)) (stepA mt l k ins at_ ((popF l q).getLastD 0))
def asg1 (mt : Int → Int → Bool) (l : List Sp) (k : Nat) : List (List Int) × List Int := runF mt l k (l.length + 1) (pushAll l l.length 0 []) (List.replicate k []) (List.replicate l.length (-1))
def asg2 (mt : Int → Int → Bool) (l : List Sp) (k : Nat) : List (List Int) × List Int := againF mt k (l.length + 1) (asg1 mt l k).1 (asg1 mt l k).2
def asg3 (mt : Int → Int → Bool) (l : List Sp) (k : Nat) : List (List Int) × List Int := slotsIn mt l.length 0 [] (asg2 mt l k).2
theorem pushAll_ids {l : List Sp} : ∀ (m i : Nat) (q : List Int), i + m = l.length → Ids l q → Ids l (pushAll l m i q)
  | 0, _, _, _, h => h
  | m + 1, i, q, hi, h => by
    rw [pushAll]
    refine pushAll_ids m (i + 1) _ (by omega) ?_
    by_cases e : (rdS l (i : Int)).f0.length = 0
    · rw [if_pos e]; exact h
    · rw [if_neg e]
      intro x hx
      have hx2 := ((pushF_perm l q (i : Int)).mem_iff).1 hx
      rw [List.mem_append, List.mem_singleton] at hx2
      rcases hx2 with hx2 | rfl
      · exact h x hx2
      · exact ⟨by omega, by omega, by omega⟩
/-- None that waits has a place. -/
structure NP (q : List Int) (at_ : List Int) : Prop where
  nd : q.Nodup
  no : ∀ x ∈ q, rd at_ x = -1
theorem stepA_other {mt : Int → Int → Bool} {l : List Sp} {k : Nat} {ins : List (List Int)} {at_ : List Int} (h : St l k ins at_) {id x : Int} (h0 : 0 ≤ id) (h1 : id < (l.length : Int)) (hx0 : 0 ≤ x) (hx1 : x < (l.length : Int)) (hne : x ≠ id) (hx : rd at_ x = -1) : rd (stepA mt l k ins at_ id) x = -1 := by
  have hset : ∀ y, rd (at_.set id.toNat y) x = -1 := fun y => by rw [rd_set _ _ _ _ h0 hx0 (by rw [h.hal]; exact hx1), if_neg hne]; exact hx
  unfold stepA
  split
  · unfold freeA
    split
    · exact hx
    · exact hset _
  · rcases instead_cases h mt id with ⟨_, e2⟩ | ⟨r, o, hr, hm, _, e2⟩
    · rw [e2]; exact hset _
    · have ho := meets_mem hm
      have hog := h.good r o ho
      have hxo : x ≠ o := fun e => by
        have h2 := h.cons r hr o ho
        rw [← e, hx] at h2
        omega
      rw [e2, rd_set _ _ _ _ h0 hx0 (by rw [List.length_set, h.hal]; exact hx1), if_neg hne, rd_set _ _ _ _ hog.1 hx0 (by rw [h.hal]; exact hx1), if_neg hxo]
      exact hx
theorem St.step {mt : Int → Int → Bool} {l : List Sp} {k : Nat} {ins : List (List Int)} {at_ : List Int} (h : St l k ins at_) {id : Int} (h0 : 0 ≤ id) (h1 : id < (l.length : Int)) (hk : k < 256) (hx : rd at_ id = -1) : St l k (stepI mt l k ins at_ id) (stepA mt l k ins at_ id) := by
  have hnot : ∀ r', r' < k → rd at_ id ≠ (r' : Int) := fun r' _ e => by rw [hx] at e; omega
  unfold stepI stepA
  split
  · exact h.free h0 h1 hnot
  · exact h.instead h0 h1 hk hnot
theorem NP.step {mt : Int → Int → Bool} {l : List Sp} {k : Nat} {ins : List (List Int)} {at_ : List Int} {q q' : List Int} {id : Int} (hs : St l k ins at_) (hi : Ids l q) (h : NP q at_) (hp : q.Perm (q' ++ [id])) : NP q' (stepA mt l k ins at_ id) := by
  have hn := (hp.nodup_iff).1 h.nd
  rw [List.nodup_append] at hn
  have hid : id ∈ q := (hp.mem_iff).2 (by simp)
  refine ⟨hn.1, fun x hx => ?_⟩
  have hxq : x ∈ q := (hp.mem_iff).2 (by simp [hx])
  exact stepA_other hs (hi id hid).1 (hi id hid).2.1 (hi x hxq).1 (hi x hxq).2.1 (fun e => hn.2.2 x hx id (List.mem_singleton.2 rfl) e) (h.no x hxq)
theorem Ids.perm {l : List Sp} {q q' : List Int} {id : Int} (hi : Ids l q) (hp : q.Perm (q' ++ [id])) : Ids l q' ∧ 0 ≤ id ∧ id < (l.length : Int) ∧ id ∈ q :=
  have hid : id ∈ q := (hp.mem_iff).2 (by simp)
  ⟨fun x hx => hi x ((hp.mem_iff).2 (by simp [hx])), (hi id hid).1, (hi id hid).2.1, hid⟩
theorem rAt_rep (k r : Nat) : rAt (List.replicate k []) r = [] := by
  unfold rAt
  rw [List.getD_eq_getElem?_getD, List.getElem?_replicate]
  split <;> rfl
theorem vAt_rep (k r : Nat) : vAt (List.replicate k nilS) r = nilS := by
  unfold vAt
  rw [List.getD_eq_getElem?_getD, List.getElem?_replicate]
  split <;> rfl
theorem St.start (l : List Sp) (k : Nat) : St l k (List.replicate k []) (List.replicate l.length (-1)) :=
  ⟨by simp, by simp, fun r o ho => (by rw [rAt_rep] at ho; cases ho), fun r _ o ho => (by rw [rAt_rep] at ho; cases ho), fun r => by rw [rAt_rep]; exact List.nodup_nil⟩
theorem rd_rep (n : Nat) (y x : Int) (h0 : 0 ≤ x) (h1 : x < (n : Int)) : rd (List.replicate n y) x = y := by
  unfold rd
  rw [List.getD_eq_getElem?_getD, List.getElem?_replicate, if_pos (by omega)]
  rfl
/-- The queue lies apart from the scanner. -/
def Sep (gi k : Nat) (va : Value) (vs : List Value) (g : Nat) (vq : Value) : Prop := ∀ b, SK gi k va vs b → b ≠ g ∧ vq.ownBlock ≠ some b
theorem St.again {mt : Int → Int → Bool} {l : List Sp} {k : Nat} (hk : k < 256) : ∀ (f : Nat) (ins : List (List Int)) (at_ : List Int), St l k ins at_ → St l k (againF mt k f ins at_).1 (againF mt k f ins at_).2
  | 0, _, _, h => h
  | f + 1, ins, at_, h => by
    have h1 := (againIn_spec (mt := mt) hk at_.length 0 ins at_ false (by rw [h.hal]; omega) h).1
    rw [againF]
    split
    · exact St.again hk f _ _ h1
    · exact h1
/-- The scanner and the queue beside it. -/
structure Two (w0 w : World) (B p gi k : Nat) (va : Value) (A : Option Addr) (n c : Nat) (vs : List Value) (ins : List (List Int)) (at_ : List Int) (g : Nat) (vq : Value) (q : List Int) : Prop where
  sc : SC w B p gi k va A n c vs ins at_
  qs : QS w g A n c vq
  ri : RI w B vq q
  sep : Sep gi k va vs g vq
  bl : Below w0.heap.size w0 w
  bw : B ≤ w.heap.size
theorem Two.pg {w0 w : World} {B p gi k n c g : Nat} {va vq : Value} {A : Option Addr} {vs : List Value} {ins : List (List Int)} {at_ q : List Int} (h : Two w0 w B p gi k va A n c vs ins at_ g vq q) : p ≠ g := fun e => by
  have h1 := h.sc.hp
  have h2 := h.qs
  unfold QS at h2
  rw [e, h2] at h1
  injection h1 with h1
  injection h1 with _ h1
  exact absurd h1 (by decide)
theorem Two.pushed {w0 w w' : World} {B p gi k n c g : Nat} {va vq vq' : Value} {A : Option Addr} {vs : List Value} {ins : List (List Int)} {at_ q q' : List Int} (h : Two w0 w B p gi k va A n c vs ins at_ g vq q) (h1 : QS w' g A n c vq') (h2 : RI w' B vq' q') (h3 : Below w0.heap.size w0 w') (h4 : Kept w w' (QK g vq)) (h5 : NewOr w vq vq') : Two w0 w' B p gi k va A n c vs ins at_ g vq' q' :=
  ⟨h.sc.kept h4 (fun hk => hk.elim h.pg (fun e => h.sc.nepv h.ri e.symm)) (fun b hb hk => hk.elim (h.sep b hb).1 (h.sep b hb).2), h1, h2, fun b hb => ⟨(h.sep b hb).1, fun e => (h5 b e).elim (h.sep b hb).2 (fun hl => by have := (h.sc.SK_lt hb).2; omega)⟩, h3, Nat.le_trans h.bw h4.1⟩
theorem Two.moved {w0 w w' : World} {B p gi k n c g : Nat} {va vq : Value} {A : Option Addr} {vs : List Value} {ins ins' : List (List Int)} {at_ at' q : List Int} (h : Two w0 w B p gi k va A n c vs ins at_ g vq q) (hl : Left w0 w w' B p gi k va A n c vs ins' at') : ∃ vs', Two w0 w' B p gi k va A n c vs' ins' at' g vq q := by
  obtain ⟨vs', h1, h2, h3, h4⟩ := hl
  exact ⟨vs', h1, h.qs.block (h3.2 g h.qs.lt (fun hk => (h.sep g hk).1 rfl)), h.ri.kept h3 (fun b hb hs => (h.sep b hs).2 hb), fun b hb => (h4 b hb).elim (h.sep b) (fun hl => ⟨fun e => by have := h.qs.lt; omega, fun e => by have := Kd.R_lt h.ri b e; omega⟩), h2, Nat.le_trans h.bw h3.1⟩
theorem Two.below {w0 w w' : World} {B p gi k n c g : Nat} {va vq : Value} {A : Option Addr} {vs : List Value} {ins : List (List Int)} {at_ q : List Int} (h : Two w0 w B p gi k va A n c vs ins at_ g vq q) (hb : Below w.heap.size w w') : Two w0 w' B p gi k va A n c vs ins at_ g vq q :=
  ⟨h.sc.below hb, h.qs.block (hb.block g h.qs.lt), Kd.R_below h.ri hb, h.sep, below_step h.bl hb, Nat.le_trans h.bw hb.size⟩
theorem Two.start {w1 w5 : World} {gm k n c : Nat} {A : Option Addr} {va : Value} (hx : w5.heap[gm]? = some (.cells (Array.replicate k nilS) 25 (0, 0))) (hr : RI w5 w1.heap.size va (List.replicate n (-1))) (hb : Below w1.heap.size w1 w5) (hg : w1.heap.size ≤ gm) :
    Two w1 ((w5.alloc (.cells #[.slice A n c, .slice (some ⟨gm, 0, none⟩) k k, va] 51)).alloc (.cells #[.slice A n c, nilS] 54)) w1.heap.size w5.heap.size gm k va A n c (List.replicate k nilS) (List.replicate k []) (List.replicate n (-1)) (w5.heap.size + 1) nilS [] := by
  have hb6 : Below w5.heap.size w5 (w5.alloc (.cells #[.slice A n c, .slice (some ⟨gm, 0, none⟩) k k, va] 51)) := below_alloc (Below.refl _ _) _
  have hb7 : Below w5.heap.size w5 ((w5.alloc (.cells #[.slice A n c, .slice (some ⟨gm, 0, none⟩) k k, va] 51)).alloc (.cells #[.slice A n c, nilS] 54)) := below_alloc hb6 _
  have hb67 := below_alloc (Below.refl ((w5.alloc (.cells #[.slice A n c, .slice (some ⟨gm, 0, none⟩) k k, va] 51)).heap.size) (w5.alloc (.cells #[.slice A n c, .slice (some ⟨gm, 0, none⟩) k k, va] 51))) (.cells #[.slice A n c, nilS] 54)
  have h6 : (w5.alloc (.cells #[.slice A n c, .slice (some ⟨gm, 0, none⟩) k k, va] 51)).heap[w5.heap.size]? = some (.cells #[.slice A n c, .slice (some ⟨gm, 0, none⟩) k k, va] 51 (0, 0)) := by
    show (w5.heap.push _)[w5.heap.size]? = _
    exact Array.getElem?_push_size
  have hs6 : (w5.alloc (.cells #[.slice A n c, .slice (some ⟨gm, 0, none⟩) k k, va] 51)).heap.size = w5.heap.size + 1 := by
    show (w5.heap.push _).size = _
    rw [Array.size_push]
  have hn : ∀ b, ¬ (nilS.ownBlock = some b) := fun b h => by cases h
  have hgl := blk_lt hx
  refine ⟨⟨(hb67.block _ (by omega)).trans h6, (hb7.block gm hgl).trans (by rw [hx, List.toArray_replicate]), by simp, by simp, Kd.R_below hr hb7, fun r _ => ?_, fun r r' b _ _ _ h => ?_, fun r b _ h => ?_, hg⟩, ?_, ?_, fun b hb2 => ⟨?_, fun e => hn b e⟩, below_step hb hb7, ?_⟩
  · rw [vAt_rep, rAt_rep]; exact Kd.R_nil _ _ _ _ _
  · rw [vAt_rep] at h; exact absurd h (hn b)
  · rw [vAt_rep] at h; exact absurd h (hn b)
  · unfold QS
    rw [← hs6]
    show (Array.push _ _)[_]? = _
    exact Array.getElem?_push_size
  · exact Kd.R_nil _ _ _ _ _
  · rcases hb2 with rfl | hb2 | ⟨r, _, hb2⟩
    · omega
    · have := Kd.R_lt hr b hb2; omega
    · rw [vAt_rep] at hb2; exact absurd hb2 (hn b)
  · have h1 := hb.size
    have h2 := hb7.size
    omega
set_option maxHeartbeats 16000000 in
set_option maxRecDepth 100000 in
theorem scan_Assign.good (w : World) (A : Option Addr) (c : Nat) (l : List Sp) (hr : Kd.C k44 w A l.length l) (hc : l.length ≤ c) (k : Nat) (hk : k ≤ 32) (kf : Nat) (hck : scan_check.f kf l (k : Int) = some none) (hl : l.length ≤ 1024) (mt : Int → Int → Bool) (hm : MeetIs l mt) (hrs : ∀ x, (rdS l x).f0.length < 1000000000) :
    Calls Tryd.prog 6 #[.slice A l.length c, .int .i64 (k : Int)] w fun e w' => ∃ v, e = .returned (.tuple #[v, .int .i64 ((asg3 mt l k).1.length : Int), .nilIface]) ∧ RI w' w.heap.size v (asg3 mt l k).2 ∧ Below w.heap.size w w' := by
  obtain ⟨n, hn⟩ : ∃ n, n = l.length := ⟨_, rfl⟩
  rw [← hn] at hr hc hl ⊢
  have HNL := Aside0.mk hn
  have HR := Aside0.mk hr
  have HC := Aside0.mk hc
  have HK := Aside0.mk hk
  have HN := Aside0.mk hl
  have HM := Aside0.mk hm
  have HRS := Aside0.mk hrs
  have HCK := Aside0.mk ((scan_check.calls kf A c l (k : Int) none w (by rw [← hn]; exact hr) (by rw [← hn]; exact hc) hck).mono (R' := fun e w' => e = .returned .nilIface ∧ Below w.heap.size w w') (fun e w' h => h))
  rw [← hn] at HCK
  have hgt : decide ((1024 : Int) < (n : Int)) = false := decide_eq_false (by omega)
  have hgt2 : (1024 < n) = False := eq_false (by omega)
  clear hr hc hk hck hl hm hrs hn
  go_enter Tryd.func6, Tryd.ntmps6
  go_wp2_with (go_at_call 12; refine HCK.out.mono ?_; rintro e w1 ⟨rfl, hb⟩; have HB1 := Aside0.mk hb; clear hb HCK)
  have HLw9 := Aside0.mk (show Below w1.heap.size w1 w1.drew from below_drew1 (Below.refl _ _))
  refine start_ (n := 10) (S := fun w' => True) (ds := []) #[false, false, false, false, false, false, false, false, false, false] (by kernel_rfl) rfl rfl trivial (fun hHeld => ?_)
  generalize w1.drew = w9 at HLw9 hHeld ⊢
  refine pure_ (i := 0) (N := some 24) (v := ?_) (a' := ?_) #[true, false, false, false, false, false, false, false, false, false] rfl rfl (by kernel_rfl) (fun _ _ _ h => h) (Or.inl ⟨by rfl, ?_⟩) ?_ ?_
  rotate_left
  · intro w'
    go_simp
    with_reducible rfl
  rotate_left
  · simp only [Act.put, List.setIfInBounds_toArray, List.set_cons_zero, List.set_cons_succ, i64_w, i32_w]
    rfl
  refine pure_ (i := 1) (N := some 25) (v := ?_) (a' := ?_) #[true, true, false, false, false, false, false, false, false, false] rfl rfl (by kernel_rfl) (fun _ _ _ h => h) (Or.inl ⟨by rfl, ?_⟩) ?_ ?_
  rotate_left
  · intro w'
    go_simp
    with_reducible rfl
  rotate_left
  · simp only [Act.put, List.setIfInBounds_toArray, List.set_cons_zero, List.set_cons_succ, i64_w, i32_w]
    rfl
  refine pure_ (i := 4) (N := some 28) (v := ?_) (a' := ?_) #[true, true, false, false, true, false, false, false, false, false] rfl rfl (by kernel_rfl) (fun _ _ _ h => h) (Or.inl ⟨by rfl, ?_⟩) ?_ ?_
  rotate_left
  · intro w'
    go_simp
    with_reducible rfl
  rotate_left
  · simp only [Act.put, List.setIfInBounds_toArray, List.set_cons_zero, List.set_cons_succ, i64_w, i32_w]
    rfl
  refine pure_ (i := 5) (N := some 29) (v := ?_) (a' := ?_) #[true, true, false, false, true, true, false, false, false, false] rfl rfl (by kernel_rfl) (fun _ _ _ h => h) (Or.inl ⟨by rfl, ?_⟩) ?_ ?_
  rotate_left
  · intro w'
    go_simp
    with_reducible rfl
  rotate_left
  · simp only [Act.put, List.setIfInBounds_toArray, List.set_cons_zero, List.set_cons_succ, i64_w, i32_w]
    rfl
  refine join_ (σ := Nat × Nat × Value) 3 #[true, true, true, true, true, true, true, false, false, false] (fun s_ => [(26, .slice (some ⟨s_.1, 0, none⟩) k k), (27, .slice (some ⟨s_.2.1, 0, none⟩) 1 1), (30, s_.2.2)]) (fun s_ w' => w'.heap[s_.1]? = some (.cells (Array.replicate k nilS) 25 (0, 0)) ∧ RI w' w1.heap.size s_.2.2 (List.replicate n (-1)) ∧ Below w1.heap.size w1 w' ∧ w1.heap.size ≤ s_.1) ?_ ?_
  rotate_left
  · intro hCont
    refine two_ (i := 2) (j := 3) (Ni := some 26) (Nj := some 27) #[true, true, true, false, true, true, false, false, false, false] #[true, true, false, true, true, true, false, false, false, false] rfl rfl rfl rfl (by kernel_rfl) (by decide) (by decide) (fun K hK => ?_) (fun K hK => ?_)
    · skip
      obtain ⟨wm, gm, hrm, hxm, hb, hgm⟩ := make_ex w9 k (by have := HK.out; omega)
      refine value_ (w1 := wm) (v := .slice (some ⟨gm, 0, none⟩) k k) (by rfl) rfl (hrm _ _ _ _ rfl rfl rfl) ?_
      have HBwm := Aside0.mk hb
      have HLwm := Aside0.mk (below_step HLw9.out hb)
      clear hb
      refine hK.out _ _ trivial (fun hHeld => ?_)
      clear hK K
      refine norm_ (a' := ?_) ?_ ?_
      rotate_left
      · show Act.put _ (some 26) _ = _
        simp only [Act.put, List.setIfInBounds_toArray, List.set_cons_zero, List.set_cons_succ, i64_w, i32_w]
        rfl
      refine one_ (i := 3) (N := some 27) #[true, true, true, true, true, true, false, false, false, false] rfl rfl (by kernel_rfl) (by decide) (fun K hK => ?_)
      obtain ⟨wb, gb, hrb, hxb, hb, hgb⟩ := lit_ex wm
      refine value_ (w1 := wb) (v := .slice (some ⟨gb, 0, none⟩) 1 1) (by rfl) rfl (hrb _ _ rfl rfl) ?_
      have HBwb := Aside0.mk hb
      have HLwb := Aside0.mk (below_step HLwm.out hb)
      clear hb
      refine hK.out _ _ trivial (fun hHeld => ?_)
      clear hK K
      refine norm_ (a' := ?_) ?_ ?_
      rotate_left
      · show Act.put _ (some 27) _ = _
        simp only [Act.put, List.setIfInBounds_toArray, List.set_cons_zero, List.set_cons_succ, i64_w, i32_w]
        rfl
      refine one_ (i := 6) (N := some 30) #[true, true, true, true, true, true, true, false, false, false] rfl rfl (by kernel_rfl) (by decide) (fun K hK => ?_)
      refine goes_ Tryd.func13 (by kernel_rfl) rfl #[.slice (some ⟨gb, 0, none⟩) 1 1, .int .i64 (n : Int)] (by rfl) rfl rfl (by simp only [List.map_toArray, List.map_cons, List.map_nil]; rfl) ?_
      with_reducible refine (s_repeat wb gb 1 (-1) n HN.out (one_C hxb)).mono ?_
      rintro e wc ⟨va, rfl, hrc, hb⟩
      refine ⟨_, rfl, ?_⟩
      have HBwc := Aside0.mk hb
      have HLwc := Aside0.mk (below_step HLwb.out hb)
      clear hb
      refine hK.out _ _ trivial (fun hHeld => ?_)
      clear hK K
      refine norm_ (a' := ?_) ?_ ?_
      rotate_left
      · show Act.put _ (some 30) _ = _
        simp only [Act.put, List.setIfInBounds_toArray, List.set_cons_zero, List.set_cons_succ, i64_w, i32_w]
        rfl
      exact norm_ (by simp only [putAll, Act.put, List.setIfInBounds_toArray, List.set_cons_zero, List.set_cons_succ]) (hCont (gm, gb, va) _ ⟨((HBwc.out.block _ (blk_lt ((HBwb.out.block _ (blk_lt hxm)).trans hxm))).trans ((HBwb.out.block _ (blk_lt hxm)).trans hxm)), (Kd.R_lower hrc HLwb.out.size), HLwc.out, Nat.le_trans HLw9.out.size hgm⟩)
    · skip
      obtain ⟨wb, gb, hrb, hxb, hb, hgb⟩ := lit_ex w9
      refine value_ (w1 := wb) (v := .slice (some ⟨gb, 0, none⟩) 1 1) (by rfl) rfl (hrb _ _ rfl rfl) ?_
      have HBwb := Aside0.mk hb
      have HLwb := Aside0.mk (below_step HLw9.out hb)
      clear hb
      refine hK.out _ _ trivial (fun hHeld => ?_)
      clear hK K
      refine norm_ (a' := ?_) ?_ ?_
      rotate_left
      · show Act.put _ (some 27) _ = _
        simp only [Act.put, List.setIfInBounds_toArray, List.set_cons_zero, List.set_cons_succ, i64_w, i32_w]
        rfl
      refine two_ (i := 2) (j := 6) (Ni := some 26) (Nj := some 30) #[true, true, true, true, true, true, false, false, false, false] #[true, true, false, true, true, true, true, false, false, false] rfl rfl rfl rfl (by kernel_rfl) (by decide) (by decide) (fun K hK => ?_) (fun K hK => ?_)
      · skip
        obtain ⟨wm, gm, hrm, hxm, hb, hgm⟩ := make_ex wb k (by have := HK.out; omega)
        refine value_ (w1 := wm) (v := .slice (some ⟨gm, 0, none⟩) k k) (by rfl) rfl (hrm _ _ _ _ rfl rfl rfl) ?_
        have HBwm := Aside0.mk hb
        have HLwm := Aside0.mk (below_step HLwb.out hb)
        clear hb
        refine hK.out _ _ trivial (fun hHeld => ?_)
        clear hK K
        refine norm_ (a' := ?_) ?_ ?_
        rotate_left
        · show Act.put _ (some 26) _ = _
          simp only [Act.put, List.setIfInBounds_toArray, List.set_cons_zero, List.set_cons_succ, i64_w, i32_w]
          rfl
        refine one_ (i := 6) (N := some 30) #[true, true, true, true, true, true, true, false, false, false] rfl rfl (by kernel_rfl) (by decide) (fun K hK => ?_)
        refine goes_ Tryd.func13 (by kernel_rfl) rfl #[.slice (some ⟨gb, 0, none⟩) 1 1, .int .i64 (n : Int)] (by rfl) rfl rfl (by simp only [List.map_toArray, List.map_cons, List.map_nil]; rfl) ?_
        with_reducible refine (s_repeat wm gb 1 (-1) n HN.out (one_C ((HBwm.out.block _ (blk_lt hxb)).trans hxb))).mono ?_
        rintro e wc ⟨va, rfl, hrc, hb⟩
        refine ⟨_, rfl, ?_⟩
        have HBwc := Aside0.mk hb
        have HLwc := Aside0.mk (below_step HLwm.out hb)
        clear hb
        refine hK.out _ _ trivial (fun hHeld => ?_)
        clear hK K
        refine norm_ (a' := ?_) ?_ ?_
        rotate_left
        · show Act.put _ (some 30) _ = _
          simp only [Act.put, List.setIfInBounds_toArray, List.set_cons_zero, List.set_cons_succ, i64_w, i32_w]
          rfl
        exact norm_ (by simp only [putAll, Act.put, List.setIfInBounds_toArray, List.set_cons_zero, List.set_cons_succ]) (hCont (gm, gb, va) _ ⟨((HBwc.out.block _ (blk_lt hxm)).trans hxm), (Kd.R_lower hrc HLwm.out.size), HLwc.out, Nat.le_trans HLwb.out.size hgm⟩)
      · skip
        refine goes_ Tryd.func13 (by kernel_rfl) rfl #[.slice (some ⟨gb, 0, none⟩) 1 1, .int .i64 (n : Int)] (by rfl) rfl rfl (by simp only [List.map_toArray, List.map_cons, List.map_nil]; rfl) ?_
        with_reducible refine (s_repeat wb gb 1 (-1) n HN.out (one_C hxb)).mono ?_
        rintro e wc ⟨va, rfl, hrc, hb⟩
        refine ⟨_, rfl, ?_⟩
        have HBwc := Aside0.mk hb
        have HLwc := Aside0.mk (below_step HLwb.out hb)
        clear hb
        refine hK.out _ _ trivial (fun hHeld => ?_)
        clear hK K
        refine norm_ (a' := ?_) ?_ ?_
        rotate_left
        · show Act.put _ (some 30) _ = _
          simp only [Act.put, List.setIfInBounds_toArray, List.set_cons_zero, List.set_cons_succ, i64_w, i32_w]
          rfl
        refine one_ (i := 2) (N := some 26) #[true, true, true, true, true, true, true, false, false, false] rfl rfl (by kernel_rfl) (by decide) (fun K hK => ?_)
        obtain ⟨wm, gm, hrm, hxm, hb, hgm⟩ := make_ex wc k (by have := HK.out; omega)
        refine value_ (w1 := wm) (v := .slice (some ⟨gm, 0, none⟩) k k) (by rfl) rfl (hrm _ _ _ _ rfl rfl rfl) ?_
        have HBwm := Aside0.mk hb
        have HLwm := Aside0.mk (below_step HLwc.out hb)
        clear hb
        refine hK.out _ _ trivial (fun hHeld => ?_)
        clear hK K
        refine norm_ (a' := ?_) ?_ ?_
        rotate_left
        · show Act.put _ (some 26) _ = _
          simp only [Act.put, List.setIfInBounds_toArray, List.set_cons_zero, List.set_cons_succ, i64_w, i32_w]
          rfl
        exact norm_ (by simp only [putAll, Act.put, List.setIfInBounds_toArray, List.set_cons_zero, List.set_cons_succ]) (hCont (gm, gb, va) _ ⟨hxm, (Kd.R_below (Kd.R_lower hrc HLwb.out.size) HBwm.out), HLwm.out, Nat.le_trans HLwc.out.size hgm⟩)
  rintro ⟨gm, gb, va⟩ w5 ⟨hx5, hr5, hb5, hg5⟩
  obtain ⟨va1, na, ca, rfl⟩ : ∃ A n c, va = .slice A n c := (by obtain ⟨A, c, h, _⟩ := Kd.R_reads hr5; exact ⟨A, _, c, h⟩)
  have hHeld := trivial
  refine norm_ (a' := ?_) ?_ ?_
  rotate_left
  · simp only [putAll, Act.put, List.setIfInBounds_toArray, List.set_cons_zero, List.set_cons_succ]
    rfl
  refine pure_ (i := 7) (N := some 31) (v := ?_) (a' := ?_) #[true, true, true, true, true, true, true, true, false, false] rfl rfl (by kernel_rfl) (fun _ _ _ h => h) (Or.inl ⟨by rfl, ?_⟩) ?_ ?_
  rotate_left
  · intro w'
    go_simp
    with_reducible rfl
  rotate_left
  · simp only [Act.put, List.setIfInBounds_toArray, List.set_cons_zero, List.set_cons_succ, i64_w, i32_w]
    rfl
  refine one_ (i := 8) (N := some 32) #[true, true, true, true, true, true, true, true, true, false] rfl rfl (by kernel_rfl) (by decide) (fun K hK => ?_)
  refine value_ (w1 := ?_) (v := ?_) (by rfl) rfl ?_ ?_
  rotate_left 2
  · go_simp
    constructor
    · rfl
    · rfl
  refine hK.out _ _ trivial (fun hHeld => ?_)
  clear hK K
  refine norm_ (a' := ?_) ?_ ?_
  rotate_left
  · show Act.put _ (some 32) _ = _
    simp only [Act.put, List.setIfInBounds_toArray, List.set_cons_zero, List.set_cons_succ, i64_w, i32_w]
    rfl
  refine pure_ (i := 9) (N := some 7) (v := ?_) (a' := ?_) #[true, true, true, true, true, true, true, true, true, true] rfl rfl (by kernel_rfl) (fun _ _ _ h => h) (Or.inl ⟨by rfl, ?_⟩) ?_ ?_
  rotate_left
  · intro w'
    go_simp
    with_reducible rfl
  rotate_left
  · simp only [Act.put, List.setIfInBounds_toArray, List.set_cons_zero, List.set_cons_succ, i64_w, i32_w]
    rfl
  refine done_ (by kernel_rfl) ?_

  go_wp2
  have HT0 := Aside0.mk (Two.start (A := A) (c := c) hx5 hr5 hb5 hg5)
  obtain ⟨w7, hw7⟩ : ∃ w7, w7 = (w5.alloc (.cells #[.slice A n c, .slice (some ⟨gm, 0, none⟩) k k, .slice va1 na ca] 51)).alloc (.cells #[.slice A n c, nilS] 54) := ⟨_, rfl⟩
  obtain ⟨p, hp⟩ : ∃ p, p = w5.heap.size := ⟨_, rfl⟩
  obtain ⟨g, hg⟩ : ∃ g, g = w5.heap.size + 1 := ⟨_, rfl⟩
  rw [← hw7, ← hg, ← hp] at HT0 ⊢
  have HGP := Aside0.mk (show w1.heap.size ≤ g by have := hb5.size; omega)
  clear hx5 hr5 hb5 hg5 hw7 hp hg HLw9
  obtain rfl := HNL.out
  have HRW := Aside0.mk (Kd.C_below HR.out HB1.out)
  go_loopg [38] l.length (fun kq v38 w' => ∃ (i : Nat) (q : List Int) (vq : Value), v38 = .int .i64 (i : Int) ∧ Aside0 (kq + i = l.length) ∧ Aside0 (pushAll l l.length 0 [] = pushAll l kq i q) ∧ Aside0 (Two w1 w' w1.heap.size p gm k (.slice va1 na ca) A l.length c (List.replicate k nilS) (List.replicate k []) (List.replicate l.length (-1)) g vq q) ∧ Aside0 (Ids l q ∧ q.Nodup ∧ (∀ x ∈ q, x < (i : Int)) ∧ q.length ≤ i))
  case atStart => exact ⟨0, [], nilS, rfl, ⟨rfl⟩, ⟨rfl⟩, HT0, ⟨fun x hx => (by cases hx), List.nodup_nil, fun x hx => (by cases hx), Nat.le_refl _⟩⟩
  case round =>
    clear HT0
    obtain ⟨i, q, vq, rfl, HKQ, HPQ, HT, HQ⟩ := hrel
    by_cases hi : i < l.length
    · obtain ⟨k1, rfl⟩ : ∃ k1, gk = k1 + 1 := ⟨gk - 1, by have := HKQ.out; omega⟩
      have hc : decide ((i : Int) < (l.length : Int)) = true := decide_eq_true (by omega)
      have hi2 : (i < l.length) = True := eq_true hi
      have hi3 : ((i : Int) < (l.length : Int)) = True := eq_true (by omega)
      have hi4 : (0 ≤ (i : Int)) = True := eq_true (by omega)
      have hw := wrap_succ i l.length hi (by have := HN.out; omega)
      have HI := Aside0.mk hi
      have hP := HPQ.out
      rw [pushAll] at hP
      obtain ⟨ads, A1, c1, e1, hs1, hs2, hl1, hi1⟩ := at_T44 (Kd.C_below HRW.out HT.out.bl) (i : Int) (by omega) (by omega)
      subst e1
      rw [Int.toNat_natCast] at hs1 hs2
      obtain ⟨n1, hn1⟩ : ∃ n1, n1 = (rdS l (i : Int)).f0.length := ⟨_, rfl⟩
      obtain ⟨f1, hf1⟩ : ∃ f1, f1 = (rdS l (i : Int)).f1 := ⟨_, rfl⟩
      rw [show (rd_T44 l (i : Int)).f0.length = n1 from hn1.symm] at hs1
      rw [show (rd_T44 l (i : Int)).f1 = f1 from hf1.symm] at hs2
      rw [← hn1] at hP
      have HN1 := Aside0.mk hn1
      have HBX := Aside0.mk (below_alloc (Below.refl wr.heap.size wr) (.cells #[.slice A1 n1 c1, .int .i64 f1] 44))
      clear hi hl1 hi1 hn1 hf1 HNL HPQ
      by_cases hz : n1 = 0
      · have q1 : (0 < n1) = False := eq_false (by omega)
        have q2 : decide ((0 : Int) < (n1 : Int)) = false := decide_eq_false (by omega)
        rw [if_pos hz] at hP
        have HP2 := Aside0.mk hP
        clear hP hz
        go_wp2
        go_roundg k1
        case measure => omega
        case rel => exact ⟨i + 1, q, vq, (by first | rw [hw] | rfl | (push_cast; rfl)), ⟨by have := HKQ.out; omega⟩, HP2, ⟨HT.out.below HBX.out⟩, ⟨HQ.out.1, HQ.out.2.1, fun x hx => by have := HQ.out.2.2.1 x hx; omega, by have := HQ.out.2.2.2; omega⟩⟩
      · have q1 : (0 < n1) = True := eq_true (by omega)
        have q2 : decide ((0 : Int) < (n1 : Int)) = true := decide_eq_true (by omega)
        rw [if_neg hz] at hP
        have HP2 := Aside0.mk hP
        have HT2 := Aside0.mk (HT.out.below HBX.out)
        have HI2 := Aside0.mk (show Ids l (q ++ [(i : Int)]) from fun x hx => by
          rw [List.mem_append, List.mem_singleton] at hx
          rcases hx with hx | rfl
          · exact HQ.out.1 x hx
          · exact ⟨by omega, by have := HI.out; omega, by rw [← HN1.out]; omega⟩)
        have HQ2 := Aside0.mk (show (pushF l q (i : Int)).Nodup ∧ (∀ x ∈ pushF l q (i : Int), x < ((i + 1 : Nat) : Int)) ∧ (pushF l q (i : Int)).length ≤ i + 1 ∧ Ids l (pushF l q (i : Int)) by
          have hp := pushF_perm l q (i : Int)
          refine ⟨(hp.nodup_iff).2 (List.nodup_append.2 ⟨HQ.out.2.1, by simp, fun a ha b hb e => ?_⟩), fun x hx => ?_, ?_, fun x hx => HI2.out x ((hp.mem_iff).1 hx)⟩
          · rw [List.mem_singleton] at hb
            have := HQ.out.2.2.1 a ha
            omega
          · have hx := (hp.mem_iff).1 hx
            rw [List.mem_append, List.mem_singleton] at hx
            rcases hx with hx | rfl
            · have := HQ.out.2.2.1 x hx; omega
            · omega
          · rw [hp.length_eq, List.length_append]
            have := HQ.out.2.2.2
            simp
            omega)
        clear hP hz HT
        go_wp2_with (go_at_call 14; refine (h_push w1 _ HT2.out.bl (some ads) c l HRW.out g w1.heap.size vq q HT2.out.qs HT2.out.ri HGP.out (Nat.le_refl _) HT2.out.bw (i : Int) HI2.out (by have h1 := HQ.out.2.2.2; have h2 := HI.out; have h3 := HN.out; omega)).mono ?_; rintro e w8 ⟨rfl, v8, h3, h4, h5, h6, h7⟩; have HT8 := Aside0.mk (HT2.out.pushed h3 h4 h5 h6 h7); clear h3 h4 h5 h6 h7)
        go_roundg k1
        case measure => omega
        case rel => exact ⟨i + 1, _, v8, (by first | rw [hw] | rfl | (push_cast; rfl)), ⟨by have := HKQ.out; omega⟩, HP2, HT8, ⟨HQ2.out.2.2.2, HQ2.out.1, HQ2.out.2.1, HQ2.out.2.2.1⟩⟩
    · have hc : decide ((i : Int) < (l.length : Int)) = false := decide_eq_false (by omega)
      have hi2 : (i < l.length) = False := eq_false hi
      have hi3 : ((i : Int) < (l.length : Int)) = False := eq_false (by omega)
      have hP := HPQ.out
      rw [show gk = 0 by have := HKQ.out; omega, pushAll] at hP
      have HP2 := Aside0.mk hP
      clear hP HPQ HNL
      have HNP := Aside0.mk (show NP q (List.replicate l.length (-1)) from ⟨HQ.out.2.1, fun x hx => rd_rep _ _ _ (HQ.out.1 x hx).1 (HQ.out.1 x hx).2.1⟩)
      have HIQ := Aside0.mk (show Ids l q ∧ q.length < l.length + 1 ∧ l.length + 1 ≤ l.length + 1 from ⟨HQ.out.1, by have h1 := HQ.out.2.2.2; have h2 := HKQ.out; omega, Nat.le_refl _⟩)
      have HST := Aside0.mk (St.start l k)
      obtain ⟨F, hF⟩ : ∃ F, F = asg1 mt l k := ⟨_, rfl⟩
      have HF := Aside0.mk hF
      have HRU := Aside0.mk (show F = runF mt l k (l.length + 1) q (List.replicate k []) (List.replicate l.length (-1)) by rw [hF, asg1, HP2.out])
      obtain ⟨vs, hvs⟩ : ∃ vs : List Value, vs = List.replicate k nilS := ⟨_, rfl⟩
      obtain ⟨ins, hins⟩ : ∃ ins : List (List Int), ins = List.replicate k [] := ⟨_, rfl⟩
      obtain ⟨at_, hat⟩ : ∃ at_ : List Int, at_ = List.replicate l.length (-1) := ⟨_, rfl⟩
      rw [← hvs, ← hins, ← hat] at HT
      rw [← hins, ← hat] at HRU HST
      rw [← hat] at HNP
      clear hF HP2 HQ HKQ hvs hins hat
      go_wp2
      clear hi hc hi2 hi3
      go_loopg [] (l.length + 1) (fun kq w' => ∃ (q : List Int) (vq : Value) (vs : List Value) (ins : List (List Int)) (at_ : List Int), Aside0 (F = runF mt l k kq q ins at_) ∧ Aside0 (Two w1 w' w1.heap.size p gm k (.slice va1 na ca) A l.length c vs ins at_ g vq q) ∧ Aside0 (St l k ins at_ ∧ NP q at_) ∧ Aside0 (Ids l q ∧ q.length < kq ∧ kq ≤ l.length + 1))
      case atStart => exact ⟨q, vq, vs, ins, at_, HRU, HT, ⟨HST.out, HNP.out⟩, HIQ⟩
      case round =>
        clear HRU HT HST HNP HIQ
        obtain ⟨q, vq, vs, ins, at_, HRU, HT, HST, HIQ⟩ := hrel
        obtain ⟨k1, rfl⟩ : ∃ k1, gk = k1 + 1 := ⟨gk - 1, by have := HIQ.out.2.1; omega⟩
        have hru := HRU.out
        rw [runF] at hru
        obtain ⟨nq, hnq⟩ : ∃ nq, nq = q.length := ⟨_, rfl⟩
        have HNQ := Aside0.mk hnq
        by_cases hz : nq = 0
        · rw [← hnq, if_pos hz] at hru
          have HRU2 := Aside0.mk hru
          have q1 : (0 < nq) = False := eq_false (by omega)
          have q2 : decide ((0 : Int) < (nq : Int)) = false := decide_eq_false (by omega)
          have q3 : ((0 : Int) < (nq : Int)) = False := eq_false (by omega)
          have HAL := Aside0.mk (St.again (mt := mt) (by have := HK.out; omega) (l.length + 1) ins at_ HST.out.1).hal
          clear hru hnq HRU
          go_wp2_with (first
            | (go_at_call 15; refine (q_len _ A l.length c g w1.heap.size vq q HT.out.qs HT.out.ri).mono ?_; rintro e w3 ⟨rfl, ⟨nd, rfl⟩⟩; rw [← HNQ.out]; have HT3 := Aside0.mk (HT.out.below (pw_below_drewN (Below.refl _ _) nd)))
            | (go_at_call 19; refine (s_again w1 _ HT3.out.bl A c l HRW.out (by have := HN.out; omega) w1.heap.size p gm k (.slice va1 na ca) vs ins at_ HT3.out.sc mt HM.out (Nat.le_refl _) HT3.out.bw (by have := HK.out; omega) HST.out.1).mono ?_; rintro e w4 ⟨rfl, h3⟩; have HT4 := Aside0.mk (HT3.out.moved h3); clear h3; obtain ⟨vs4, ht4⟩ := HT4.out; have HT5 := Aside0.mk ht4; clear ht4 HT4)
            | (go_at_call 20; refine (s_slots w1 _ HT5.out.bl A c l HRW.out (by have := HN.out; omega) w1.heap.size p gm k (.slice va1 na ca) vs4 _ _ HT5.out.sc mt HM.out (Nat.le_refl _) HT5.out.bw HAL.out).mono ?_; rintro e w6 ⟨rfl, h3, h4, _⟩; have hc2 := h3.c2; have HS6 := Aside0.mk h3; have HB6 := Aside0.mk h4; clear h3 h4))
          go_ret3
          have e1 : asg1 mt l k = (ins, at_) := by rw [← HF.out, HRU2.out]
          have e2 : asg2 mt l k = againF mt k (l.length + 1) ins at_ := by unfold asg2; rw [e1]
          have e3 : asg3 mt l k = slotsIn mt l.length 0 [] (againF mt k (l.length + 1) ins at_).2 := by unfold asg3; rw [e2]
          exact ⟨.slice va1 na ca, by rw [e3]; rfl, by rw [e3]; exact Kd.R_lower HS6.out.hat HB1.out.size, below_step HB1.out HB6.out⟩
        · rw [← hnq, if_neg hz] at hru
          have HRU2 := Aside0.mk hru
          have q1 : (0 < nq) = True := eq_true (by omega)
          have q2 : decide ((0 : Int) < (nq : Int)) = true := decide_eq_true (by omega)
          have q3 : ((0 : Int) < (nq : Int)) = True := eq_true (by omega)
          have hps := pop_split l q (by omega)
          have hpp := popF_perm l q (by omega)
          obtain ⟨q2, hq2⟩ : ∃ q2, q2 = (popF l q).dropLast := ⟨_, rfl⟩
          obtain ⟨x, hx⟩ : ∃ x, x = (popF l q).getLastD 0 := ⟨_, rfl⟩
          rw [← hq2, ← hx] at hps hru
          rw [hps] at hpp
          have HPP := Aside0.mk hpp.symm
          have HPS := Aside0.mk hps
          have HRU2 := Aside0.mk hru
          have HIX := Aside0.mk (HIQ.out.1.perm HPP.out)
          have HQL := Aside0.mk (show q2.length < k1 by have h1 := HIQ.out.2.1; have h2 := HPP.out.length_eq; rw [List.length_append] at h2; simp at h2; omega)
          have hta := ta_int x
          have HSS := Aside0.mk (HST.out.1.step (mt := mt) HIX.out.2.1 HIX.out.2.2.1 (by have := HK.out; omega) (HST.out.2.no x HIX.out.2.2.2))
          have HNS := Aside0.mk (HST.out.2.step (mt := mt) HST.out.1 HIQ.out.1 HPP.out)
          clear hru hnq HRU hz hps hpp hq2 hx
          cases hfr : (freeR mt k ins x).isSome with
          | true =>
            have HFR := Aside0.mk hfr
            have HEI := Aside0.mk (show stepI mt l k ins at_ x = freeI mt k ins x ∧ stepA mt l k ins at_ x = freeA mt k ins at_ x by unfold stepI stepA; rw [hfr]; exact ⟨rfl, rfl⟩)
            clear hfr
            go_wp2_with (first
              | (go_at_call 15; refine (q_len _ A l.length c g w1.heap.size vq q HT.out.qs HT.out.ri).mono ?_; rintro e w3 ⟨rfl, ⟨nd, rfl⟩⟩; rw [← HNQ.out]; have HT3 := Aside0.mk (HT.out.below (pw_below_drewN (Below.refl _ _) nd)))
              | (go_at_call 16; refine (h_pop w1 _ HT3.out.bl A c l HRW.out g w1.heap.size vq q HT3.out.qs HT3.out.ri HGP.out (Nat.le_refl _) HIQ.out.1 (by have h1 := HIQ.out.2.1; have h2 := HIQ.out.2.2; have h3 := HN.out; omega) q2 x HPS.out).mono ?_; rintro e w4 ⟨rfl, v4, h3, h4, h5, h6, h7⟩; have HT4 := Aside0.mk (HT3.out.pushed h3 h4 h5 h6 h7); clear h3 h4 h5 h6 h7)
              | (go_at_call 17; refine (s_free w1 _ HT4.out.bl A c l HRW.out (by have := HN.out; omega) w1.heap.size p gm k (.slice va1 na ca) vs ins at_ HT4.out.sc mt HM.out (Nat.le_refl _) HT4.out.bw (by have := HK.out; omega) x HIX.out.2.1 HIX.out.2.2.1 HST.out.1.hal HST.out.1.good (fun r => Nat.lt_of_le_of_lt (HST.out.1.len r) (by have := HN.out; omega))).mono ?_; rintro e w5' ⟨rfl, h5⟩; rw [HFR.out]; rw [← HEI.out.1, ← HEI.out.2] at h5; have HT5 := Aside0.mk (HT4.out.moved h5); clear h5))
            go_roundg k1
            case measure => omega
            case rel =>
              obtain ⟨vs6, ht6⟩ := HT5.out
              exact ⟨q2, v4, vs6, stepI mt l k ins at_ x, stepA mt l k ins at_ x, HRU2, ⟨ht6⟩, ⟨HSS.out, HNS.out⟩, ⟨HIX.out.1, HQL.out, by have := HIQ.out.2.2; omega⟩⟩
          | false =>
            have HFR := Aside0.mk hfr
            have HSAME := Aside0.mk (show freeI mt k ins x = ins ∧ freeA mt k ins at_ x = at_ by
              unfold freeI freeA
              cases e : freeR mt k ins x with
              | none => exact ⟨rfl, rfl⟩
              | some r => rw [e] at hfr; cases hfr)
            have HEI := Aside0.mk (show stepI mt l k ins at_ x = insteadI mt l k ins at_ x ∧ stepA mt l k ins at_ x = insteadA mt l k ins at_ x by unfold stepI stepA; rw [hfr]; exact ⟨rfl, rfl⟩)
            clear hfr
            go_wp2_with (first
              | (go_at_call 15; refine (q_len _ A l.length c g w1.heap.size vq q HT.out.qs HT.out.ri).mono ?_; rintro e w3 ⟨rfl, ⟨nd, rfl⟩⟩; rw [← HNQ.out]; have HT3 := Aside0.mk (HT.out.below (pw_below_drewN (Below.refl _ _) nd)))
              | (go_at_call 16; refine (h_pop w1 _ HT3.out.bl A c l HRW.out g w1.heap.size vq q HT3.out.qs HT3.out.ri HGP.out (Nat.le_refl _) HIQ.out.1 (by have h1 := HIQ.out.2.1; have h2 := HIQ.out.2.2; have h3 := HN.out; omega) q2 x HPS.out).mono ?_; rintro e w4 ⟨rfl, v4, h3, h4, h5, h6, h7⟩; have HT4 := Aside0.mk (HT3.out.pushed h3 h4 h5 h6 h7); clear h3 h4 h5 h6 h7)
              | (go_at_call 17; refine (s_free w1 _ HT4.out.bl A c l HRW.out (by have := HN.out; omega) w1.heap.size p gm k (.slice va1 na ca) vs ins at_ HT4.out.sc mt HM.out (Nat.le_refl _) HT4.out.bw (by have := HK.out; omega) x HIX.out.2.1 HIX.out.2.2.1 HST.out.1.hal HST.out.1.good (fun r => Nat.lt_of_le_of_lt (HST.out.1.len r) (by have := HN.out; omega))).mono ?_; rintro e w5' ⟨rfl, h5⟩; rw [HFR.out]; rw [HSAME.out.1, HSAME.out.2] at h5; have HT5 := Aside0.mk (HT4.out.moved h5); clear h5; obtain ⟨vs5, ht5⟩ := HT5.out; have HT6 := Aside0.mk ht5; clear ht5 HT5)
              | (go_at_call 18; refine (s_instead w1 _ HT6.out.bl A c l HRW.out (by have := HN.out; omega) w1.heap.size p gm k (.slice va1 na ca) vs5 ins at_ HT6.out.sc mt HM.out (Nat.le_refl _) HT6.out.bw (by have := HK.out; omega) x HIX.out.2.1 HIX.out.2.2.1 HST.out.1.hal HST.out.1.good (fun r => Nat.lt_of_le_of_lt (HST.out.1.len r) (by have := HN.out; omega)) HRS.out HST.out.1.cons).mono ?_; rintro e w5' ⟨rfl, h5⟩; rw [← HEI.out.1, ← HEI.out.2] at h5; have HT5 := Aside0.mk (HT6.out.moved h5); clear h5))
            go_roundg k1
            case measure => omega
            case rel =>
              obtain ⟨vs6, ht6⟩ := HT5.out
              exact ⟨q2, v4, vs6, stepI mt l k ins at_ x, stepA mt l k ins at_ x, HRU2, ⟨ht6⟩, ⟨HSS.out, HNS.out⟩, ⟨HIX.out.1, HQL.out, by have := HIQ.out.2.2; omega⟩⟩
end Go.Proofs.YtolhijnkgkfjgaaDoor.XC
