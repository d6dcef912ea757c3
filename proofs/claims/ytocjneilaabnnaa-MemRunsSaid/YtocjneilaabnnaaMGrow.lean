/- Layer 3: append(m.b, make([]byte, n)...), as one step; (*Memory).Pages; (*Memory).Grow. -/
import Derived.Test.YtocjneilaabnnaaMSpan
import Derived.OwnWalk
namespace Go.Proofs.Ytocjneilaabnnaa.M
open Go Go.RowKit Go.Proofs.YtocjneilaabnnaaW.PrintWords
set_option linter.unusedVariables false
set_option linter.unusedSimpArgs false
theorem info5 : (Try.prog.info? 5).map (fun i => (i.zero, i.size, i.bytes)) = some (some (.int .u8 0), 1, 1) := by kernel_rfl
theorem zeros_get (n j : Nat) (h : j < n) : (Builtin.zeroCells #[Value.int .u8 0] n)[j]? = some (.int .u8 0) := by
  simp [Builtin.zeroCells, h, Nat.mod_one]
theorem zeros_size (n : Nat) : (Builtin.zeroCells #[Value.int .u8 0] n).size = n := by simp [Builtin.zeroCells]
theorem next_fits (len cap n : Nat) (h1 : len + n ≤ 16777216) (h2 : cap < len + n) : Builtin.nextslicecap (len + n) cap * 1 ≤ 281474976710656 := by
  have h := growslice_fits (bytes := 1) h2 (by omega)
  simpa using h
/-- What append of n new zeros does to a row of bytes: in its place, or in a new block. -/
theorem run_append_zeros (b len cap n : Nat) (g : Nat → Int) (w : World) (hrow : w.rowIs b 5 cap (fun j => .int .u8 (g j))) (hle : len ≤ cap) (hcap : cap ≤ maxLen) (hsm : len + n ≤ 16777216) :
    ∃ (b' cap' : Nat) (w' : World) (g' : Nat → Int), (Builtin.append_ #[36, 3] 36 #[.slice (some ⟨b, 0, none⟩) len cap, .int .i64 (n : Int)]).run Try.prog w = .ok (.slice (some ⟨b', 0, none⟩) (len + n) cap') w' ∧
      w'.rowIs b' 5 cap' (fun j => .int .u8 (g' j)) ∧ len + n ≤ cap' ∧ cap' ≤ maxLen ∧ (∀ j, j < len → g' j = g j) ∧ (∀ j, len ≤ j → j < len + n → g' j = 0) ∧ (b' = b ∨ b' = w.heap.size) ∧
      w'.os = w.os ∧ w'.tape = w.tape ∧ w'.output = w.output ∧ w.heap.size ≤ w'.heap.size ∧ ∀ k, k ≠ b → k < w.heap.size → w'.heap[k]? = w.heap[k]? := by
  obtain ⟨i0, hi, hz0, hz1, hz2⟩ := info_parts info5
  obtain ⟨c, hb, hc, hcell⟩ := hrow
  have hl : IntKind.i64.wrap (n : Int) = n := by
    simp [IntKind.wrap, IntKind.bits, IntKind.signed]
    split <;> omega
  have hai : ∀ w : World, (asInt (Value.int .i64 (n : Int))).run Try.prog w = .ok (n : Int) w := fun _ => rfl
  have h0 : ¬ ((n : Int) < 0) := by omega
  have h48 : ¬ (281474976710656 < (n : Int)) := by omega
  by_cases hroom : len + n ≤ cap
  · obtain ⟨zs, hzs⟩ : ∃ zs, zs = (Builtin.zeroCells #[Value.int .u8 0] n).toList := ⟨_, rfl⟩
    have hzl : zs.length = n := by rw [hzs, Array.length_toList, zeros_size]
    have hzg : ∀ j, j < n → zs[j]? = some (.int .u8 0) := fun j hj => by rw [hzs, Array.getElem?_toList]; exact zeros_get n j hj
    have hst := run_storeCells_at Try.prog b len 5 zs 0 c w hb (by rw [hzl, hc]; omega) (by
      intro v hv
      obtain ⟨j, hj, rfl⟩ := List.getElem_of_mem hv
      have := hzg j (by omega)
      rw [List.getElem?_eq_getElem hj] at this
      rw [Option.some.inj this]; rfl)
    simp only [Nat.add_zero] at hst
    refine ⟨b, cap, w.setRow b (c.toList.take len ++ zs ++ c.toList.drop (len + zs.length)).toArray, fun j => if j < len then g j else if j < len + n then 0 else g j, ?_, ?_, hroom, hcap, fun j hj => if_pos hj, fun j h1 h2 => by simp only []; rw [if_neg (by omega), if_pos h2], .inl rfl, rfl, rfl, rfl, by simp [World.setRow], fun k hk _ => setRow_other w b k _ hk⟩
    · by_cases hn0 : n = 0
      · subst hn0
        have hz : zs = [] := List.eq_nil_of_length_eq_zero hzl
        subst hz
        simp only [Int.natCast_zero] at hai hl
        have hs2 : (c.toList.take len ++ [] ++ c.toList.drop (len + ([] : List Value).length)).toArray = c := by simp
        rw [hs2, setRow_self w b c 5 (0, 0) hb]
        simp [Builtin.append_, run_underlying Try.underlying36, run_underlying Try.underlying3, sizeOf, typeInfo, zeroValue, hi, hz0, hz1, hz2, hle, hai, hl, Addr.add_lit, storeCells]
      · have hz : (Builtin.zeroCells (Value.int IntKind.u8 0).cells n).toList = zs := hzs.symm
        simp [Builtin.append_, run_underlying Try.underlying36, run_underlying Try.underlying3, sizeOf, typeInfo, zeroValue, hi, hz0, hz1, hz2, hroom, hai, hl, h0, h48, Addr.add_lit, hn0, hz]
        rw [hst]
        simp
    · refine ⟨_, setRow_heap w b c _ 5 _ hb, ?_, ?_⟩
      · simp [hzl, hc]; omega
      · intro j hj
        have h1 : (c.toList.take len).length = len := by simp [hc]; omega
        simp only [List.getElem?_toArray]
        by_cases e1 : j < len
        · rw [List.getElem?_append_left (by simp only [List.length_append, h1]; omega), List.getElem?_append_left (by omega), List.getElem?_take_of_lt e1, Array.getElem?_toList, hcell j hj, if_pos e1]
        · by_cases e2 : j < len + n
          · rw [List.getElem?_append_left (by simp only [List.length_append, h1]; omega), List.getElem?_append_right (by omega), h1, hzg _ (by omega), if_neg e1, if_pos e2]
          · rw [List.getElem?_append_right (by simp only [List.length_append, h1]; omega), List.getElem?_drop, List.length_append, h1, hzl, show len + n + (j - (len + n)) = j by omega, Array.getElem?_toList, hcell j hj, if_neg e1, if_neg e2]
  · have hgc := grownCap_ge w (len + n) cap 5
    have hgm := grownCap_le_maxLen w (len + n) cap 5 (by simp only [maxLen]; omega)
    have hn0 : ¬ n = 0 := by omega
    have h63 : ¬ (9223372036854775807 < (len : Int) + n) := by omega
    have hfit := next_fits len cap n hsm (by omega)
    have h48' : ¬ (281474976710656 < Builtin.nextslicecap (len + n) cap) := by omega
    have hfo := run_firstCells_some (P := Try.prog) w.drew 1 len ⟨b, 0, none⟩ len cap (c.toList.take len) (by simp [hc]; omega) (by
      intro j v hj
      have hjl : j < len := by
        have := (List.getElem?_eq_some_iff.1 hj).1
        simp at this; omega
      rw [List.getElem?_take_of_lt hjl, Array.getElem?_toList] at hj
      have : (⟨b, 0, none⟩ : Addr).add j = ⟨b, j, none⟩ := by unfold Addr.add; split <;> simp_all
      rw [this]
      have hbd : w.drew.heap[b]? = some (.cells c 5) := hb
      simp [World.cell?, hbd, hj])
    refine ⟨w.heap.size, grownCap w (len + n) cap 5, w.drew.alloc (.cells ((c.toList.take len).toArray ++ Builtin.zeroCells #[Value.int .u8 0] n ++ Builtin.zeroCells #[Value.int .u8 0] (grownCap w (len + n) cap 5 - (len + n))) 5), fun j => if j < len then g j else 0, ?_, ?_, hgc, hgm, fun j hj => if_pos hj, fun j h1 h2 => if_neg (by omega), .inr rfl, rfl, rfl, rfl, by simp, fun k _ hk => Below.heap_alloc w.drew _ k hk⟩
    · simp [Builtin.append_, run_underlying Try.underlying36, run_underlying Try.underlying3, sizeOf, typeInfo, zeroValue, hi, hz0, hz1, hz2, hroom, hai, hl, h0, h48, Addr.add_lit, hn0, h63, h48', Question.forced, hfo, newRow, grownCap]
      congr 2
    · refine ⟨_, Array.getElem?_push_size, ?_, ?_⟩
      · simp [zeros_size, hc]; omega
      · intro j hj
        show _ = some (Value.int .u8 (if j < len then g j else 0))
        have h1 : (c.toList.take len).toArray.size = len := by simp [hc]; omega
        by_cases e1 : j < len
        · rw [Array.getElem?_append_left (by simp only [Array.size_append, h1]; omega), Array.getElem?_append_left (by omega), if_pos e1, List.getElem?_toArray, List.getElem?_take_of_lt e1, Array.getElem?_toList, hcell j (by omega)]
        · rw [if_neg e1]
          by_cases e2 : j < len + n
          · rw [Array.getElem?_append_left (by simp only [Array.size_append, h1, zeros_size]; omega), Array.getElem?_append_right (by omega), h1, zeros_get _ _ (by omega)]
          · rw [Array.getElem?_append_right (by simp only [Array.size_append, h1, zeros_size]; omega), Array.size_append, h1, zeros_size, zeros_get _ _ (by omega)]
theorem wpList_append_zeros {ops : Array Oper} {rest : List Oper} {o : Oper} {a : Act} {Q : Exit → Act → World → Prop} (b len cap n : Nat) (g : Nat → Int) (w : World) (hgd : o.guard = none) (s x : Operand)
    (ho : o.op = .call { callee := .builtin .append, args := #[s, x], argTypes := #[36, 3] }) (hty : o.type = 36) (hs : a.eval s = .slice (some ⟨b, 0, none⟩) len cap) (hx : a.eval x = .int .i64 (n : Int))
    (hrow : w.rowIs b 5 cap (fun j => .int .u8 (g j))) (hle : len ≤ cap) (hcap : cap ≤ maxLen) (hsm : len + n ≤ 16777216)
    (h : ∀ (b' cap' : Nat) (w' : World) (g' : Nat → Int), w'.rowIs b' 5 cap' (fun j => .int .u8 (g' j)) → len + n ≤ cap' → cap' ≤ maxLen → (∀ j, j < len → g' j = g j) → (∀ j, len ≤ j → j < len + n → g' j = 0) → (b' = b ∨ b' = w.heap.size) →
      (∀ B, B ≤ b → Below B w w') → (∀ k, k ≠ b → k < w.heap.size → w'.heap[k]? = w.heap[k]?) → wpList Try.prog ops Q rest (a.put o.dst (.slice (some ⟨b', 0, none⟩) (len + n) cap')) w') :
    wpList Try.prog ops Q (o :: rest) a w := by
  have hlt := hrow.lt
  refine wpList_plain hgd fun K hK => ?_
  obtain ⟨b', cap', w', g', hr, h1, h2, h3, h4, h5, h6, h7, h8, h9, h10, h11⟩ := run_append_zeros b len cap n g w hrow hle hcap hsm
  unfold Oper.wp execOp
  simp only [ho, hty, resolve, invoke, builtin, Sem.run_bind, Sem.run_pure, Result.andThen_ok, List.map_toArray, List.map_cons, List.map_nil, hs, hx, hr]
  exact hK _ _ (h b' cap' w' g' h1 h2 h3 h4 h5 h6 (fun B hB => ⟨h7, h8, h9, h10, fun k hk => h11 k (by omega) (by omega)⟩) h11)
set_option maxHeartbeats 2000000 in
set_option maxRecDepth 100000 in
theorem pages (p b len cap k : Nat) (most : Int) (g : Nat → Int) (w : World) (h : IsMem w p b len cap most g) (hk : len = 4096 * k) :
    Calls Try.prog 15 #[.pointer (some ⟨p, 0, none⟩)] w fun e w' => e = .returned (.int .i64 k) ∧ w' = w := by
  have hc := h.c0
  have hsm := h.small
  have ht : (len : Int).tdiv 4096 = k := by rw [hk, Int.tdiv_eq_ediv_of_nonneg (by omega)]; omega
  have hkb : k < 4611686018427387904 := by omega
  clear h hk
  go_enter Try.func15, Try.ntmps15
  go_wp2
  go_ret
  exact ⟨rfl, rfl⟩
set_option maxHeartbeats 4000000 in
set_option maxRecDepth 100000 in
theorem grow_no (p b len cap k most n : Nat) (g : Nat → Int) (w : World) (h : IsMem w p b len cap most g) (hk : len = 4096 * k) (hm : most ≤ 16) (hkm : k ≤ most) (hn : most - k < n) (hn2 : n < 18446744073709551616) :
    Calls Try.prog 8 #[.pointer (some ⟨p, 0, none⟩), .int .u64 n] w fun e w' => e = .returned (.int .i64 (-1)) ∧ w' = w := by
  have P := pages p b len cap k most g w h hk
  have hc := h.c1
  clear h hk
  go_enter Try.func8, Try.ntmps8
  go_wp2_with (go_at_call 15; refine P.mono ?_; clear P; rintro e w2 ⟨rfl, hw⟩; obtain rfl := hw.symm)
  go_ret
  exact ⟨rfl, rfl⟩
set_option maxHeartbeats 4000000 in
set_option maxRecDepth 100000 in
theorem grow_yes (B p b len cap k most n : Nat) (g : Nat → Int) (w : World) (h : IsMem w p b len cap most g) (hk : len = 4096 * k) (hm : most ≤ 16) (hn : k + n ≤ most) (hB : B ≤ b) (hBp : B ≤ p) :
    Calls Try.prog 8 #[.pointer (some ⟨p, 0, none⟩), .int .u64 n] w fun e w' => e = .returned (.int .i64 k) ∧ Below B w w' ∧ ∃ b' cap' g', B ≤ b' ∧ IsMem w' p b' (4096 * (k + n)) cap' most g' ∧ (∀ j, j < len → g' j = g j) ∧ (∀ j, len ≤ j → j < 4096 * (k + n) → g' j = 0) := by
  subst hk
  have P := pages p b (4096 * k) cap k most g w h rfl
  have hc := h.c1
  have hc0 := h.c0
  have H := Aside0.mk h
  have hle := h.le
  have htop := h.top
  have hlen : Hid (((4096 * n : Nat) : Int) = (n : Int) * 4096) := by show ((4096 * n : Nat) : Int) = (n : Int) * 4096; omega
  clear h
  go_enter Try.func8, Try.ntmps8
  go_wp2_with (first
    | (go_at_call 15; refine P.mono ?_; clear P; rintro e w2 ⟨rfl, hw⟩; obtain rfl := hw.symm)
    | (at_builtin; refine wpList_append_zeros b (4096 * k) cap (4096 * n) g w rfl _ _ rfl rfl rfl (by rw [hlen.out]; rfl) H.out.row H.out.le H.out.top (by omega) ?_; intro b' cap' w' g' r1 r2 r3 r4 r5 r6 r7 r8; have R := Aside0.mk (And.intro r1 (And.intro r2 (And.intro r3 (And.intro r4 (And.intro r5 (And.intro r6 (And.intro (r7 B hB) r8))))))); have q0 : w'.cell? ⟨p, 0, none⟩ = some (.slice (some ⟨b, 0, none⟩) (4096 * k) cap) := (H.out.obj.of_block (r8 p H.out.ne H.out.obj.lt)).cell (i := 0) (by omega); have q1 : w'.frozen? ⟨p, 0, none⟩ = false := (H.out.obj.of_block (r8 p H.out.ne H.out.obj.lt)).frozen 0; clear r1 r2 r3 r4 r5 r6 r7 r8))
  go_ret
  obtain ⟨r1, r2, r3, r4, r5, r6, r7, r8⟩ := R.out
  have hpl := H.out.obj.lt
  have hne : p ≠ b' := by
    rcases r6 with rfl | rfl
    · exact H.out.ne
    · omega
  have ob := H.out.obj.of_block (r8 p H.out.ne hpl)
  refine ⟨rfl, r7.setCell (p := ⟨p, 0, none⟩) hBp _, b', cap', g', ?_, ⟨(ob.set 0 _).congr (fun j hj => ?_), r1.setOther (fun e => hne e.symm) _, by omega, by omega, r3, hne⟩, r4, fun j h1 h2 => r5 j h1 (by omega)⟩
  · rcases r6 with rfl | rfl
    · exact hB
    · have := H.out.row.lt; omega
  · by_cases e : j = 0
    · rw [if_pos e, if_pos e, show 4096 * (k + n) = 4096 * k + 4096 * n by omega]
    · simp only [if_neg e]
end Go.Proofs.Ytocjneilaabnnaa.M
