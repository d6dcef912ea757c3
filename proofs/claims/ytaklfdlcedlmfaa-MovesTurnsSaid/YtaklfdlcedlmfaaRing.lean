/- A place's ring: as one plain function, and the walk. -/
import Derived.Test.YtaklfdlcedlmfaaSrc
import Derived.Test.YtaklfdlcedlmfaaShelf
namespace Go.Proofs.Ytaklfdlcedlmfaa.XM
open Go.RowKit Go.Proofs.YtaklfdlcedlmfaaW.PrintWords Go.Proofs.YtaklfdlcedlmfaaW.PrintLast Go.Proofs.YtaklfdlcedlmfaaW.PrintMore
open Mo
attribute [local go_sem] max2_int min2_int max_two min_two max_three min_three max_four min_four   -- for this text's walks alone
set_option linter.unusedVariables false
set_option linter.unusedSimpArgs false
/-- On from a place, those gone by kept: the ring, or none. -/
def ringF (f : Int → Option Int) (a : Int) : Nat → List Int → Option Int → List Int
  | _, _, none => []
  | 0, _, some _ => []
  | k + 1, out, some x => if x = a then a :: out.reverse else if (a :: out).contains x = true then [] else ringF f a k (out ++ [x]) (f x)
theorem nodup_le : ∀ (xs K : List Int), xs.Nodup → (∀ x ∈ xs, x ∈ K) → xs.length ≤ K.length
  | [], _, _, _ => Nat.zero_le _
  | x :: xs, K, hn, h => by
    rw [List.nodup_cons] at hn
    have h1 := nodup_le xs (K.erase x) hn.2 (fun y hy => (List.mem_erase_of_ne (fun (e : y = x) => hn.1 (by rw [← e]; exact hy))).2 (h y (List.mem_cons_of_mem _ hy)))
    have h2 := List.length_erase_of_mem (h x List.mem_cons_self)
    have h3 := List.length_pos_of_mem (h x List.mem_cons_self)
    rw [List.length_cons]
    omega
/-- What holds of the places gone by. -/
def RInv (f : Int → Option Int) (a : Int) (out : List Int) (o : Option Int) : Prop := (a :: out).Nodup ∧ o = f ((a :: out).getLast (by simp)) ∧ ∀ y ∈ (a :: out).dropLast, (f y).isSome = true
theorem RInv.start (f : Int → Option Int) (a : Int) : RInv f a [] (f a) := ⟨by simp, by simp, by simp⟩
theorem RInv.next {f : Int → Option Int} {a x : Int} {out : List Int} (h : RInv f a out (some x)) (hx : (a :: out).contains x = false) : RInv f a (out ++ [x]) (f x) := by
  obtain ⟨h1, h2, h3⟩ := h
  have hx2 : x ∉ a :: out := by
    intro hm
    rw [List.contains_iff_mem.2 hm] at hx
    cases hx
  refine ⟨?_, ?_, ?_⟩
  · rw [← List.cons_append, List.nodup_append]
    exact ⟨h1, by simp, fun y hy z hz e => hx2 (by rw [List.mem_singleton] at hz; rw [← hz, ← e]; exact hy)⟩
  · have : (a :: (out ++ [x])).getLast (by simp) = x := by
      have h : ∀ (l : List Int) (h : l ++ [x] ≠ []), (l ++ [x]).getLast h = x := fun l h => by simp
      exact h (a :: out) (by simp)
    rw [this]
  · intro y hy
    rw [← List.cons_append, List.dropLast_concat] at hy
    rw [← List.dropLast_concat_getLast (l := a :: out) (by simp), List.mem_append, List.mem_singleton] at hy
    rcases hy with hy | hy
    · exact h3 y hy
    · rw [hy, ← h2]
      rfl
theorem RInv.short {f : Int → Option Int} {a x : Int} {out K : List Int} (h : RInv f a out (some x)) (hK : ∀ y, (f y).isSome = true → y ∈ K) : out.length + 1 ≤ K.length := by
  obtain ⟨h1, h2, h3⟩ := h
  refine nodup_le (a :: out) K h1 (fun y hy => hK y ?_)
  rw [← List.dropLast_concat_getLast (l := a :: out) (by simp), List.mem_append, List.mem_singleton] at hy
  rcases hy with hy | hy
  · exact h3 y hy
  · rw [hy, ← h2]
    rfl
set_option maxHeartbeats 8000000 in
set_option maxRecDepth 100000 in
theorem moves_ring.calls (b n N : Nat) (f : Int → Option Int) (a : Int) (w : World) (hm : IM w b n f) (hf : ∀ x y, f x = some y → Wf y) (ha : Wf a) (hself : ∀ x, f x ≠ some x) (K : List Int) (hK : ∀ y, (f y).isSome = true → y ∈ K) (hN : K.length ≤ N) (hN2 : N < 1000000000) :
    Calls Try.prog 11 #[.map (some b), .int .i64 a] w fun e w' => ∃ v, e = .returned v ∧ Kd.R (Kd.int .i64) 3 w' w.heap.size (fun _ => True) v (ringF f a N [] (f a)) ∧ Below w.heap.size w w' := by
  have HM := Aside0.mk hm
  have HF := Aside0.mk hf
  have HA := Aside0.mk ha
  have HSF := Aside0.mk hself
  have HK := Aside0.mk hK
  have HN := Aside0.mk hN
  have HN2 := Aside0.mk hN2
  clear hm hf ha hself hK hN hN2
  obtain ⟨r, hr⟩ : ∃ r, r = ringF f a N [] (f a) := ⟨_, rfl⟩
  rw [← hr]
  have HR := Aside0.mk hr
  clear hr
  have HB0 := Aside0.mk (Below.refl w.heap.size w)
  go_enter Try.func11, Try.ntmps11
  go_wp2_with (first
    | ((with_reducible refine gate_dst (N := 9) rfl ?_); refine Kd.R_lit (Kd.int .i64) _ 3 ?hg (N := 9) ?hd (xs := ([a] : List Int)) (inner := [.int .i64 a]) (ok := fun _ => True) (okp := fun _ => True) ?hr ?hp (fun _ hk => hk) trivial (Below.refl _ _) (Nat.le_refl _) (by simp) ?_; (case hd => rfl); (case hg => rfl); (case hr => first | (go_simp; done) | (go_simp; rfl)); (case hp => exact (Reps.one (show Kd.M (Kd.int .i64) _ _ _ a [.int .i64 a] from rfl) (Reps.none _ _))); intro v1 w1 ho1 hb1 hg1 hnew1; have HB := Aside0.mk (below_step HB0.out hb1); have HO := Aside0.mk (Kd.R_lower ho1 (Nat.le_refl _)); have HM1 := Aside0.mk (HM.out.block (HB.out.block b HM.out.lt)); clear ho1 hb1 hg1 hnew1)
    | (at_lookup; refine wp_look_ok _ rfl _ _ rfl b n f rfl HM1.out a rfl HA.out ?_))
  clear HM1
  go_loopg [5, 6, 7] N (fun kq v5 v6 v7 w' => ∃ (out : List Int) (o : Option Int), v6 = .int .i64 (o.getD 0) ∧ v7 = .bool o.isSome ∧ Aside0 (Kd.R (Kd.int .i64) 3 w' w.heap.size (fun _ => True) v5 (a :: out)) ∧ Aside0 (kq + out.length = N) ∧ Aside0 (RInv f a out o) ∧ Aside0 (r = ringF f a kq out o) ∧ Aside0 (Below w.heap.size w w'))
  case atStart => exact ⟨[], f a, rfl, rfl, ⟨HO.out⟩, ⟨rfl⟩, ⟨RInv.start f a⟩, ⟨HR.out⟩, ⟨HB.out⟩⟩
  case round =>
    clear HO HR HB
    obtain ⟨out, o, rfl, rfl, HO, HKQ, HI, HR, HB⟩ := hrel
    cases o with
    | none =>
      have hr := HR.out
      have e : ringF f a gk out none = [] := by cases gk <;> rfl
      rw [e] at hr
      subst hr
      clear e HR
      go_wp2
      go_ret
      exact ⟨_, rfl, Kd.R_nil _ _ _ _ _, HB.out⟩
    | some x =>
      obtain ⟨k1, rfl⟩ : ∃ k1, gk = k1 + 1 := ⟨gk - 1, by have h1 := HI.out.short HK.out; have h2 := HN.out; have h3 := HKQ.out; omega⟩
      have HWX := Aside0.mk (HF.out _ _ HI.out.2.1.symm)
      have hgd : (some x).getD 0 = x := rfl
      have his : (some x).isSome = true := rfl
      by_cases hx : x = a
      · have hr := HR.out
        rw [ringF, if_pos hx] at hr
        have hxb : (x == a) = true := by simp [hx]
        clear HR
        rcases Sh.R_open HO.out with ⟨_, h0⟩ | ⟨g, cap, rfl, hg, _, hgl, hle, hmx, _⟩
        · cases h0
        have HG := Aside0.mk hg
        have HC := Aside0.mk hle
        clear hg hgl hle hmx
        obtain ⟨L, hL⟩ : ∃ L, L = out.length := ⟨_, rfl⟩
        have hll : (a :: out).length = L + 1 := by rw [hL]; rfl
        rw [hll] at HC ⊢
        have hL1 : 1 ≤ L := by
          rcases out with _ | ⟨z, zs⟩
          · have h2 := HI.out.2.1
            simp at h2
            exact absurd h2.symm (by rw [hx]; exact HSF.out a)
          · rw [hL]; simp
        have HL := Aside0.mk hL
        have HLL := Aside0.mk hll
        have HHR := Aside0.mk hr
        clear hL hll hr hx
        obtain ⟨cap, rfl⟩ : ∃ c, cap = L + 1 + c := ⟨cap - (L + 1), by have := HC.out; omega⟩
        have hs1 : (1 ≤ L + 1 + cap) = True := eq_true (by omega)
        have hs2 : (1 ≤ L + 1) = True := eq_true (by omega)
        have hs3 : (L + 1 + cap = 1) = False := eq_false (by omega)
        have hs4 : (L + cap = 0) = False := eq_false (by omega)
        simp only [Option.getD_some, Option.isSome_some]
        go_wp2_with (go_at_call 20; (rw [HL.out]; refine (Sh.reverse1 _ w.heap.size g (out.length + 1 + cap) _ (fun _ => True) a out ?hR).mono ?_; (case hR => have h := HO.out; rw [HL.out] at h; exact h); rintro e w2 ⟨rfl, h2, h3⟩; have HO2 := Aside0.mk h2; have HB2 := Aside0.mk (h3 w HB.out HG.out); clear h2 h3))
        go_ret
        exact ⟨_, rfl, by rw [HHR.out]; exact HO2.out, HB2.out⟩
      · have hxb : (x == a) = false := by simp [hx]
        simp only [Option.getD_some, Option.isSome_some]
        by_cases hc : (a :: out).contains x = true
        · have hr := HR.out
          rw [ringF, if_neg hx, if_pos hc] at hr
          have HHR := Aside0.mk hr
          have HC := Aside0.mk hc
          clear hr hx hc HR
          go_wp2_with (go_at_call 21; refine (Sh.contains _ w.heap.size (fun _ => True) _ (a :: out) x HO.out).mono ?_; rintro e w2 ⟨rfl, rfl⟩; rw [HC.out])
          go_ret
          exact ⟨_, rfl, by rw [HHR.out]; exact Kd.R_nil _ _ _ _ _, HB.out⟩
        · have hr := HR.out
          rw [ringF, if_neg hx, if_neg hc] at hr
          have HHR := Aside0.mk hr
          have HC := Aside0.mk ((Bool.not_eq_true _).mp hc)
          have HLN := Aside0.mk (show out.length + 2 ≤ 1000000001 by have h1 := HI.out.short HK.out; have h2 := HN.out; have h3 := HN2.out; omega)
          clear hr hx hc HR
          go_wp2_with (first
            | (go_at_call 21; refine (Sh.contains _ w.heap.size (fun _ => True) _ (a :: out) x HO.out).mono ?_; rintro e w2 ⟨rfl, rfl⟩; rw [HC.out])
            | ((with_reducible refine gate_builtin (b := .append) (xs := #[.tmp 33, .tmp 35]) rfl ?_); at_builtin; refine Kd.R_append (Kd.int .i64) (w0 := w) w.heap.size rfl (.tmp 33) (.tmp 35) 33 3 (.int .i64 0) 8 rfl Try.underlying33 infoI rfl (by decide) (by omega) u5 (a :: out) x [.int .i64 x] (fun _ => True) (fun _ => False) rfl rfl ?aP (fun _ hk => hk.elim) ?aF ?aO ?aB ?aS ?aL ?_; (case aP => exact rfl); (case aB => exact HB.out); (case aF => exact (fun _ _ => trivial)); (case aO => exact HO.out); (case aS => exact HB.out.size); (case aL => have := HLN.out; simp only [List.length_cons]; omega); intro v2 w2 ho hb hg hat; have HO2 := Aside0.mk ho; have HB2 := Aside0.mk hb; clear ho hb hg hat; have HM2 := Aside0.mk (HM.out.block (HB2.out.block b HM.out.lt)))
            | (at_lookup; refine wp_look_ok _ rfl _ _ rfl b n f rfl HM2.out x rfl HWX.out ?_))
          go_roundg k1
          case measure => omega
          case rel => exact ⟨out ++ [x], f x, rfl, rfl, ⟨HO2.out⟩, ⟨by have := HKQ.out; simp; omega⟩, ⟨HI.out.next HC.out⟩, ⟨HHR.out⟩, ⟨HB2.out⟩⟩
end Go.Proofs.Ytaklfdlcedlmfaa.XM
