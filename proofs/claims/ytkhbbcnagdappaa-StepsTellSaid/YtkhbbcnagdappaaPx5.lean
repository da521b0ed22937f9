-- Written by this session's program gprint.py: functions of the program as plain functions, and that the machine does what they say. Not trusted: Lean checks it.
import Derived.Test.YtkhbbcnagdappaaPx0
import Derived.Test.YtkhbbcnagdappaaPx1
import Derived.Test.YtkhbbcnagdappaaPx3
import Derived.Test.YtkhbbcnagdappaaPx4
namespace Go.Proofs.Ytkhbbcnagdappaa.P
open Go.RowKit Go.Proofs.YtkhbbcnagdappaaW.PrintWords Go.Proofs.YtkhbbcnagdappaaW.PrintLast Go.Proofs.YtkhbbcnagdappaaW.PrintMore
attribute [local go_sem] max2_int min2_int max_two min_two max_three min_three max_four min_four   -- for this text's walks alone
set_option linter.unusedVariables false
set_option linter.unusedSimpArgs false

/-! ### steps_At: function 12 -/
/-- How many there are at a time. -/
def atT (t : Int) : List (Int × Int × Int) → Int := List.foldl (fun n x => if x.1 ≤ t then x.2.2 else n) 0
theorem atT_snoc (t : Int) (l : List (Int × Int × Int)) (x : Int × Int × Int) : atT t (l ++ [x]) = if x.1 ≤ t then x.2.2 else atT t l := by simp [atT]
def steps_At.f (k : Nat) (a n : List Int) (t : Int) : Option Int :=
  (steps_Check.f k a n).bind fun e => if e = 0 ∧ badQ t = false then (if n.length = a.length ∧ a.length ≤ 100000 then some (atT t (spansT a n)) else none) else some 0
theorem steps_At.mono : ∀ a n t k, LeO (steps_At.f k a n t) (steps_At.f (k + 1) a n t) := by
  intro a n t k
  unfold steps_At.f
  exact LeO.bind (steps_Check.mono _ _ _) (fun _ => LeO.refl _)
attribute [local go_sem] Oper.semAt_some
set_option maxHeartbeats 8000000 in
theorem steps_At.calls (k : Nat) (A0_0 : Option Addr) (c0_0 : Nat) (l0_0 : List Int) (A0_1 : Option Addr) (c0_1 : Nat) (l0_1 : List Int) (a1 : Int) (r : Int) (w : World) (hr0_0 : Kd.C (Kd.int .i64) w A0_0 l0_0.length l0_0) (hc0_0 : l0_0.length ≤ c0_0) (hr0_1 : Kd.C (Kd.int .i64) w A0_1 l0_1.length l0_1) (hc0_1 : l0_1.length ≤ c0_1) (h : steps_At.f k l0_0 l0_1 a1 = some r) :
    Calls Try.prog 12 #[.agg #[.slice A0_0 l0_0.length c0_0, .slice A0_1 l0_1.length c0_1], .int .i64 a1] w fun e w' => e = .returned (.int .i64 r) ∧ Below w.heap.size w w' := by
  unfold steps_At.f at h
  obtain ⟨e, he, h⟩ := Option.bind_eq_some_iff.1 h
  have hu24 := Try.underlying24
  have HE := Aside0.mk he
  clear he
  have HR0 := Aside0.mk hr0_0
  have HR1 := Aside0.mk hr0_1
  clear hr0_0 hr0_1
  obtain ⟨H, hH⟩ : ∃ H, w.heap.size = H := ⟨_, rfl⟩
  by_cases hg : e = 0 ∧ badQ a1 = false
  · rw [if_pos hg] at h
    obtain ⟨rfl, hq⟩ := hg
    by_cases hl : l0_1.length = l0_0.length ∧ l0_0.length ≤ 100000
    case neg => rw [if_neg hl] at h; cases h
    rw [if_pos hl] at h
    obtain rfl := Option.some.inj h
    obtain ⟨hl1, hl2⟩ := hl
    replace hl1 := Aside0.mk hl1
    clear h
    clear h
    have HQ := Aside0.mk (show steps_quantity.f [a1] = some true by unfold steps_quantity.f; simp [hq])
    clear hq
    refine (callsIn_wide (n := 9)).1 (callsIn_of_wp_marks Try.func12 rfl trivial ?_ rfl)
    simp only [Try.ntmps12, List.size_toArray, List.length_cons, List.length_nil, Nat.reduceAdd, Nat.reduceSub, Array.replicate_succ, Array.replicate_zero, List.push_toArray, List.append_toArray, List.nil_append, List.cons_append]
    gi_upto_region 1 with fail
    obtain ⟨W0, hW0⟩ : ∃ W0, ((w.alloc (Obj.cells #[Value.slice A0_0 l0_0.length c0_0, Value.slice A0_1 l0_1.length c0_1] 24)).alloc (Obj.cells #[Value.int IntKind.i64 a1] 2)) = W0 := ⟨_, rfl⟩
    have HB := Aside0.mk (show Below w.heap.size w W0 by rw [← hW0]; exact ((Below.refl _ w).alloc (Nat.le_refl _) _).alloc (by simp) _)
    have BX : BoxN W0 H 24 [.slice A0_0 l0_0.length c0_0, .slice A0_1 l0_1.length c0_1] := by rw [← hW0, ← hH]; exact (BoxN.new w _ [.slice A0_0 l0_0.length c0_0, .slice A0_1 l0_1.length c0_1]).alloc _
    have BT : Boxed W0 (H + 1) 2 (.int .i64 a1) := by
      have := Boxed.new (w.alloc (Obj.cells #[Value.slice A0_0 l0_0.length c0_0, Value.slice A0_1 l0_1.length c0_1] 24)) 2 (.int .i64 a1)
      rw [hW0] at this
      rwa [World.size_alloc, hH] at this
    rw [hW0]
    clear hW0
    have hx0 := BX.cell 0 rfl
    have hx1 := BX.cell 1 rfl
    have hxf0 := BX.frozen 0
    have hxf1 := BX.frozen 1
    have ht0 := BT.cell
    have htf := BT.frozen
    replace BX := Aside0.mk BX
    replace BT := Aside0.mk BT
    gi_wp2_with (first | (refine ⟨trivial, ?_⟩; gi_at_call 9; refine (callsIn_wide.2 (steps_Check.calls k _ _ _ _ _ _ _ _ (Kd.C_below HR0.out HB.out) hc0_0 (Kd.C_below HR1.out HB.out) hc0_1 HE.out)).mono ?_; rintro e w1 ⟨rfl, hb1⟩; have BX1 := Aside0.mk (BX.out.below hb1 BX.out.lt); have BT1 := Aside0.mk (Boxed.below' BT.out hb1 BT.out.lt); have ht1 := BT1.out.cell; have htf1 := BT1.out.frozen; replace hb1 := Aside0.mk hb1) | (refine ⟨trivial, ?_⟩; gi_at_call 26; refine (callsIn_wide.2 (steps_quantity.calls _ _ [a1] true _ (C_lits _ [a1] (show (1 : Nat) ≤ maxLen by decide)) (Nat.le_refl _) HQ.out)).mono ?_; rintro e w2 ⟨rfl, hd2⟩; have hb2 : Below w1.heap.size w1 w2 := (by obtain ⟨nd2, hd3⟩ := hd2; subst hd3; exact pw_below_drewN ((Below.refl _ w1).alloc (Nat.le_refl _) _) _); have BX2 := BX1.out.below hb2 BX1.out.lt; have BT2 := Aside0.mk (Boxed.below' BT1.out hb2 BT1.out.lt); have hx20 := fun o => (BX2.alloc o).cell 0 rfl; have hx21 := fun o => (BX2.alloc o).cell 1 rfl; have hxf20 := fun o => (BX2.alloc o).frozen 0; have hxf21 := fun o => (BX2.alloc o).frozen 1; have HB2 := Aside0.mk (below_then (below_then HB.out HB.out.size hb1.out) (Nat.le_trans HB.out.size hb1.out.size) hb2); clear hd2 hb2) | (refine ⟨trivial, ?_⟩; gi_at_call 27; refine (callsIn_wide.2 (steps_spans_calls _ _ rfl rfl _)).mono ?_; rintro e w3 ⟨rfl, rfl⟩; skip))
    obtain ⟨M, hM⟩ : ∃ M, w2.heap.size = M := ⟨_, rfl⟩
    obtain ⟨s1, hs1⟩ : ∃ s, w1.heap.size = s := ⟨_, rfl⟩
    have c1 : Boxed ((w2.alloc (Obj.cells #[Value.int IntKind.i64 0] 2)).alloc (Obj.cells #[Value.slice A0_0 l0_0.length c0_0, Value.slice A0_1 l0_1.length c0_1] 24)) M 2 (.int .i64 0) := by
      rw [← hM]; exact (Boxed.new w2 _ _).alloc _
    have c2 : BoxN ((w2.alloc (Obj.cells #[Value.int IntKind.i64 0] 2)).alloc (Obj.cells #[Value.slice A0_0 l0_0.length c0_0, Value.slice A0_1 l0_1.length c0_1] 24)) (M + 1) 24 [.slice A0_0 l0_0.length c0_0, .slice A0_1 l0_1.length c0_1] := by
      have := BoxN.new (w2.alloc (Obj.cells #[Value.int IntKind.i64 0] 2)) 24 [.slice A0_0 l0_0.length c0_0, .slice A0_1 l0_1.length c0_1]
      rwa [World.size_alloc, hM] at this
    have c3 := (BT2.out.alloc (Obj.cells #[Value.int IntKind.i64 0] 2)).alloc (Obj.cells #[Value.slice A0_0 l0_0.length c0_0, Value.slice A0_1 l0_1.length c0_1] 24)
    have c4 := (HB2.out.alloc HB2.out.size (Obj.cells #[Value.int IntKind.i64 0] 2)).alloc (by simp; have := HB2.out.size; omega) (Obj.cells #[Value.slice A0_0 l0_0.length c0_0, Value.slice A0_1 l0_1.length c0_1] 24)
    have c5 : ((w2.alloc (Obj.cells #[Value.int IntKind.i64 0] 2)).alloc (Obj.cells #[Value.slice A0_0 l0_0.length c0_0, Value.slice A0_1 l0_1.length c0_1] 24)).heap.size = M + 2 := by simp [hM]
    have hHM : H + 1 < M := by rw [← hM]; exact BT2.out.lt
    have hsz := c4.size
    rw [hM, hs1]
    generalize ((w2.alloc (Obj.cells #[Value.int IntKind.i64 0] 2)).alloc (Obj.cells #[Value.slice A0_0 l0_0.length c0_0, Value.slice A0_1 l0_1.length c0_1] 24)) = Wr at *
    clear BX2 BT2 hx20 hx21 hxf20 hxf21 HB2 BX1 BT1 ht1 htf1 hb1 hx0 hx1 hxf0 hxf1 ht0 htf BX BT HB HQ HE
    refine wpIn_range (n := 9) (w := Wr) rfl (by omega) (gf := 37) (lb := #[.pointer (some ⟨M + 1, 0, none⟩)]) rfl trivial (enters_of Try.func37 (by kernel_rfl) rfl)
      (steps_spans_seq w A0_0 c0_0 A0_1 c0_1 l0_0 l0_1 (M + 1) Wr HR0.out HR1.out c4 c2 hl1.out hl2) (fun k hk => hk.elim) (fun k hk => by rcases hk with hk | hk <;> omega) (fun _ => rfl)
      (fun pre W => Boxed W M 2 (.int .i64 (atT a1 pre)) ∧ Boxed W (H + 1) 2 (.int .i64 a1) ∧ Below H w W)
      (fun _ _ _ => False)
      (by
        rintro s A B ⟨h1, h2, h3⟩ hk
        exact ⟨hk.boxed h1 ⟨not_false, by omega, by omega⟩, hk.boxed h2 ⟨not_false, by omega, by omega⟩, h3.trans (hk.below (by have := h3.size; omega) (fun k hk => ⟨not_false, by omega, by omega⟩))⟩)
      (fun _ _ _ _ h _ => h)
      ⟨c1, c3, by rw [← hH]; exact c4⟩
      (fun pre x a' W => (Boxed W M 2 (.int .i64 (atT a1 pre)) ∧ Boxed W (H + 1) 2 (.int .i64 a1) ∧ Below H w W) ∧ ∃ sb, BoxN W sb 55 [.int .i64 x.1, .int .i64 x.2.1, .int .i64 x.2.2] ∧ M + 4 ≤ sb ∧
        a' = { tmps := #[Value.agg #[Value.slice A0_0 l0_0.length c0_0, Value.slice A0_1 l0_1.length c0_1], Value.int IntKind.i64 a1,
          Value.pointer (some { block := H, off := 0 }), Value.pointer (some { block := H + 1, off := 0 }),
          Value.int IntKind.i64 0, Value.pointer (some { block := M, off := 0 }), Value.pointer (some { block := sb, off := 0 }),
          Value.agg #[Value.slice A0_0 l0_0.length c0_0, Value.slice A0_1 l0_1.length c0_1], Value.int IntKind.i64 0,
          Value.bool false, Value.bool false, Value.int IntKind.i64 a1,
          Value.slice (some { block := s1, off := 0 }) 1 1, Value.bool true, Value.bool false,
          Value.bool false, Value.agg #[Value.slice A0_0 l0_0.length c0_0, Value.slice A0_1 l0_1.length c0_1],
          Value.func (Fn.func 37) #[] #[Value.pointer (some { block := M + 1, off := 0 })], Value.agg #[.int .i64 x.1, .int .i64 x.2.1, .int .i64 x.2.2], undef,
          undef, undef, undef, undef, undef, undef], defers := [] })
      (by
        rintro pre x a' A B ⟨⟨h1, h2, h3⟩, sb, h4, h5, h6⟩ hk
        exact ⟨⟨hk.boxed h1 (by omega), hk.boxed h2 (by omega), h3.trans (hk.below (by have := h3.size; omega) (fun k hk => by omega))⟩, sb, hk.boxN h4 (by omega), h5, h6⟩)
      ?assign ?body ?done (fun _ _ _ _ _ h _ => h.elim)
    case assign =>
      rintro pre ⟨x0, x1, x2⟩ W hi hpre hsz
      simp only [encSpan]
      gi_wp2
      obtain ⟨h1, h2, h3⟩ := hi
      exact ⟨(Keeps.refl _ W).alloc _, ⟨h1.alloc _, h2.alloc _, h3.alloc (by have := h3.size; omega) _⟩, W.heap.size, BoxN.new W _ [.int .i64 x0, .int .i64 x1, .int .i64 x2], by omega, rfl⟩
    case body =>
      rintro pre ⟨x0, x1, x2⟩ a' W hpre hrec ⟨⟨h1, h2, h3⟩, sb, h4, h5, rfl⟩
      have hc1 := h1.cell
      have hf1 := h1.frozen
      have hc2 := h2.cell
      have hf2 := h2.frozen
      have hs0 := h4.cell 0 rfl
      have hs2 := h4.cell 2 rfl
      have hsf0 := h4.frozen 0
      have hsf2 := h4.frozen 2
      by_cases hx : x0 ≤ a1
      · have hx' : decide (x0 ≤ a1) = true := decide_eq_true hx
        gi_wp2
        have hk : Keeps (fun k => k ≠ M) W (W.setCell { block := M, off := 0 } (Value.int IntKind.i64 x2)) := (Keeps.refl _ W).setCell _ (fun h => h.2 rfl)
        refine ⟨hk.mono (fun k _ h => by omega), ?_, hk.boxed h2 (by omega), h3.trans (hk.below (by have := h3.size; omega) (fun k hk => by omega))⟩
        rw [atT_snoc, if_pos hx]
        exact h1.set _
      · have hx' : decide (x0 ≤ a1) = false := decide_eq_false hx
        gi_wp2
        refine ⟨Keeps.refl _ W, ?_, h2, h3⟩
        rw [atT_snoc, if_neg (by omega)]
        exact h1
    case done =>
      intro xs W hsz hxs hI hW
      obtain ⟨h1, h2, h3⟩ := hI
      have hc1 := h1.cell
      have hf1 := h1.frozen
      gi_wp2
      refine ⟨by simp, .inl ⟨_, _, rfl, run_takeDeferred hW, ?_⟩⟩
      refine ⟨.int .i64 (atT a1 (spansT l0_0 l0_1)), by simp [results, Try.f12, go_sem], rfl, ?_⟩
      rw [hH]
      exact h3.trans (((Keeps.refl (fun k => k ≠ Wr.heap.size) W).putObj _ (fun h => h.2 rfl)).below (by have := h3.size; omega) (fun k hk => by omega))
  · rw [if_neg hg] at h
    obtain rfl := Option.some.inj h
    clear h
    clear h
    have hb0 : ∀ w : World, Below w.heap.size w ((w.alloc (Obj.cells #[Value.slice A0_0 l0_0.length c0_0, Value.slice A0_1 l0_1.length c0_1] 24)).alloc (Obj.cells #[Value.int IntKind.i64 a1] 2)) := fun w => ((Below.refl _ w).alloc (Nat.le_refl _) _).alloc (by simp) _
    by_cases h0 : e = 0
    · subst h0
      have hq : badQ a1 = true := by
        cases hb : badQ a1 with
        | true => rfl
        | false => exact absurd ⟨rfl, hb⟩ hg
      have HQ := Aside0.mk (show steps_quantity.f [a1] = some false by unfold steps_quantity.f; simp [hq])
      clear hq hg
      go_enter Try.func12, Try.ntmps12
      go_upto_region 1 with fail
      obtain ⟨W0, hW0⟩ : ∃ W0, ((w.alloc (Obj.cells #[Value.slice A0_0 l0_0.length c0_0, Value.slice A0_1 l0_1.length c0_1] 24)).alloc (Obj.cells #[Value.int IntKind.i64 a1] 2)) = W0 := ⟨_, rfl⟩
      have HB := Aside0.mk (show Below w.heap.size w W0 by rw [← hW0]; exact hb0 w)
      have BX : BoxN W0 H 24 [.slice A0_0 l0_0.length c0_0, .slice A0_1 l0_1.length c0_1] := by rw [← hW0, ← hH]; exact (BoxN.new w _ [.slice A0_0 l0_0.length c0_0, .slice A0_1 l0_1.length c0_1]).alloc _
      have BT : Boxed W0 (H + 1) 2 (.int .i64 a1) := by
        have := Boxed.new (w.alloc (Obj.cells #[Value.slice A0_0 l0_0.length c0_0, Value.slice A0_1 l0_1.length c0_1] 24)) 2 (.int .i64 a1)
        rw [hW0] at this
        rwa [World.size_alloc, hH] at this
      rw [hW0]
      clear hW0 hb0
      have hx0 := BX.cell 0 rfl
      have hx1 := BX.cell 1 rfl
      have hxf0 := BX.frozen 0
      have hxf1 := BX.frozen 1
      replace BX := Aside0.mk BX
      replace BT := Aside0.mk BT
      go_wp2_with (first | (go_at_call 9; refine (steps_Check.calls k _ _ _ _ _ _ _ _ (Kd.C_below HR0.out HB.out) hc0_0 (Kd.C_below HR1.out HB.out) hc0_1 HE.out).mono ?_; rintro e w1 ⟨rfl, hb1⟩; have BT1 := Aside0.mk (Boxed.below' BT.out hb1 BT.out.lt); have ht1 := BT1.out.cell; have htf1 := BT1.out.frozen; replace hb1 := Aside0.mk hb1) | (go_at_call 26; refine (steps_quantity.calls _ _ [a1] false _ (C_lits _ [a1] (show (1 : Nat) ≤ maxLen by decide)) (Nat.le_refl _) HQ.out).mono ?_; rintro e w2 ⟨rfl, hd2⟩; have hb2 : Below w1.heap.size w1 w2 := (by obtain ⟨nd2, hd3⟩ := hd2; subst hd3; exact pw_below_drewN ((Below.refl _ w1).alloc (Nat.le_refl _) _) _); have HB2 := Aside0.mk (below_then (below_then HB.out HB.out.size hb1.out) (Nat.le_trans HB.out.size hb1.out.size) hb2); clear hd2 hb2))
      go_ret
      exact ⟨rfl, HB2.out⟩
    · have he1 : (e == 0) = false := beq_eq_false_iff_ne.mpr h0
      have he2 : (e != 0) = true := bne_iff_ne.mpr h0
      clear hg
      go_enter Try.func12, Try.ntmps12
      go_upto_region 1 with fail
      obtain ⟨W0, hW0⟩ : ∃ W0, ((w.alloc (Obj.cells #[Value.slice A0_0 l0_0.length c0_0, Value.slice A0_1 l0_1.length c0_1] 24)).alloc (Obj.cells #[Value.int IntKind.i64 a1] 2)) = W0 := ⟨_, rfl⟩
      have HB := Aside0.mk (show Below w.heap.size w W0 by rw [← hW0]; exact hb0 w)
      have BX : BoxN W0 H 24 [.slice A0_0 l0_0.length c0_0, .slice A0_1 l0_1.length c0_1] := by rw [← hW0, ← hH]; exact (BoxN.new w _ [.slice A0_0 l0_0.length c0_0, .slice A0_1 l0_1.length c0_1]).alloc _
      rw [hW0]
      clear hW0 hb0
      have hx0 := BX.cell 0 rfl
      have hx1 := BX.cell 1 rfl
      have hxf0 := BX.frozen 0
      have hxf1 := BX.frozen 1
      replace BX := Aside0.mk BX
      go_wp2_with (first | (go_at_call 9; refine (steps_Check.calls k _ _ _ _ _ _ _ _ (Kd.C_below HR0.out HB.out) hc0_0 (Kd.C_below HR1.out HB.out) hc0_1 HE.out).mono ?_; rintro e w1 ⟨rfl, hb1⟩; have HB2 := Aside0.mk (below_then HB.out HB.out.size hb1); clear hb1))
      go_ret
      exact ⟨rfl, HB2.out⟩

/-! ### forebaylaw04_head: function 10 -/
/-- What the head's calls tell. -/
def headOk (k : Nat) : Prop :=
  steps_New.f 5 = some ([0], [5]) ∧ steps_Take.f k [0] [5] 2 4 3 = some ([0, 2, 4], [5, 2, 5], 0) ∧ steps_Take.f k [0, 2, 4] [5, 2, 5] 3 9 3 = some ([], [], 6) ∧ steps_Take.f k [] [] 3 9 3 = some ([], [], 2) ∧
  forebayref04_Equal.f k [0, 2, 4] [5, 2, 5] [0, 2, 4] [5, 2, 5] = some true ∧ steps_Least.f k [0, 2, 4] [5, 2, 5] 0 2 = some 5 ∧ steps_Least.f k [0, 2, 4] [5, 2, 5] 0 3 = some 2 ∧ steps_Least.f k [0, 2, 4] [5, 2, 5] 4 4 = some 1099511627776 ∧ steps_At.f k [0, 2, 4] [5, 2, 5] 3 = some 2
instance (k : Nat) : Decidable (headOk k) := by unfold headOk; infer_instance
def forebaylaw04_head.f (k : Nat) : Option Bool := if headOk k then some true else none
theorem forebaylaw04_head.mono : ∀ k, LeO (forebaylaw04_head.f k) (forebaylaw04_head.f (k + 1)) := by
  intro k r h
  unfold forebaylaw04_head.f at h ⊢
  by_cases hk : headOk k
  · rw [if_pos hk] at h
    have hk2 : headOk (k + 1) := by
      obtain ⟨h1, h2, h3, h4, h5, h6, h7, h8, h9⟩ := hk
      exact ⟨h1, steps_Take.mono _ _ _ _ _ _ _ h2, steps_Take.mono _ _ _ _ _ _ _ h3, steps_Take.mono _ _ _ _ _ _ _ h4, forebayref04_Equal.mono _ _ _ _ _ _ h5, steps_Least.mono _ _ _ _ _ _ h6, steps_Least.mono _ _ _ _ _ _ h7, steps_Least.mono _ _ _ _ _ _ h8, steps_At.mono _ _ _ _ _ h9⟩
    rw [if_pos hk2]
    exact h
  · rw [if_neg hk] at h; cases h
set_option maxHeartbeats 16000000 in
set_option maxRecDepth 100000 in
theorem forebaylaw04_head.calls (k : Nat) (r : Bool) (w : World) (h : forebaylaw04_head.f k = some r) :
    Calls Try.prog 10 #[] w fun e w' => e = .returned (.bool r) ∧ Below w.heap.size w w' := by
  have hu24 := Try.underlying24
  unfold forebaylaw04_head.f at h
  by_cases hk : headOk k
  case neg => rw [if_neg hk] at h; cases h
  rw [if_pos hk] at h
  obtain rfl := Option.some.inj h
  clear h
  obtain ⟨h1, h2, h3, h4, h5, h6, h7, h8, h9⟩ := hk
  replace h1 := Aside0.mk h1
  replace h2 := Aside0.mk h2
  replace h3 := Aside0.mk h3
  replace h4 := Aside0.mk h4
  replace h5 := Aside0.mk h5
  replace h6 := Aside0.mk h6
  replace h7 := Aside0.mk h7
  replace h8 := Aside0.mk h8
  replace h9 := Aside0.mk h9
  go_enter Try.func10, Try.ntmps10
  go_upto_region 2 with (first | (go_at_call 17; refine (steps_New.calls 5 _ _ _ h1.out).mono ?_; rintro e w1 ⟨v0, v1, rfl, hv0, hv1, hb1⟩; obtain ⟨A1, c1, rfl⟩ := Kd.R_slice hv0; obtain ⟨A2, c2, rfl⟩ := Kd.R_slice hv1; replace hv0 := Aside0.mk (Kd.R_reads' hv0); replace hv1 := Aside0.mk (Kd.R_reads' hv1); replace hb1 := Aside0.mk hb1) | (go_at_call 13; refine (steps_Take.calls k A1 c1 [0] A2 c2 [5] _ _ _ _ _ _ _ hv0.out.2.2 hv0.out.2.1 hv1.out.2.2 hv1.out.2.1 h2.out).mono ?_; rintro e w2 ⟨v2, v3, rfl, hv2, hv3, hb2⟩; obtain ⟨A3, c3, rfl⟩ := Kd.V_slice hv2; obtain ⟨A4, c4, rfl⟩ := Kd.V_slice hv3; replace hv2 := Aside0.mk (Kd.V_reads' hv2); replace hv3 := Aside0.mk (Kd.V_reads' hv3); replace hb2 := Aside0.mk hb2))
  obtain ⟨B, hB⟩ : ∃ B, w2.heap.size = B := ⟨_, rfl⟩
  have HB := Aside0.mk ((below_then hb1.out hb1.out.size hb2.out).alloc (Nat.le_trans hb1.out.size hb2.out.size) (Obj.cells #[Value.slice A3 3 c3, Value.slice A4 3 c4] 24))
  have BX := Aside0.mk (BoxN.new w2 24 [.slice A3 3 c3, .slice A4 3 c4])
  have HC0 := Aside0.mk (Kd.C_below hv2.out.2.2 ((Below.refl _ w2).alloc (Nat.le_refl _) (Obj.cells #[Value.slice A3 3 c3, Value.slice A4 3 c4] 24)))
  have HC1 := Aside0.mk (Kd.C_below hv3.out.2.2 ((Below.refl _ w2).alloc (Nat.le_refl _) (Obj.cells #[Value.slice A3 3 c3, Value.slice A4 3 c4] 24)))
  rw [hB] at BX ⊢
  have hx0 := BX.out.cell 0 rfl
  have hx1 := BX.out.cell 1 rfl
  have hxf0 := BX.out.frozen 0
  have hxf1 := BX.out.frozen 1
  generalize (w2.alloc (Obj.cells #[Value.slice A3 3 c3, Value.slice A4 3 c4] 24)) = W3 at *
  clear hb1 hb2 hv0 hv1 hB
  go_upto_region 3 with (go_at_call 13; refine (steps_Take.calls k A3 c3 [0, 2, 4] A4 c4 [5, 2, 5] _ _ _ _ _ _ _ HC0.out hv2.out.2.1 HC1.out hv3.out.2.1 h3.out).mono ?_; rintro e w4 ⟨v4, v5, rfl, hv4, hv5, hb4⟩; obtain ⟨A5, c5, rfl⟩ := Kd.V_slice hv4; obtain ⟨A6, c6, rfl⟩ := Kd.V_slice hv5; clear hv4 hv5; replace hb4 := Aside0.mk hb4)
  have hb40 := hb4.out.alloc hb4.out.size (Obj.cells #[Value.slice A5 0 c5, Value.slice A6 0 c6] 24)
  replace HB := Aside0.mk (below_then HB.out HB.out.size hb40)
  replace HC0 := Aside0.mk (Kd.C_below HC0.out hb40)
  replace HC1 := Aside0.mk (Kd.C_below HC1.out hb40)
  replace BX := Aside0.mk (BX.out.below hb40 BX.out.lt)
  clear hb40 hb4 hx0 hx1 hxf0 hxf1
  generalize (w4.alloc (Obj.cells #[Value.slice A5 0 c5, Value.slice A6 0 c6] 24)) = W4 at *
  go_upto_region 4 with (go_at_call 13; refine (steps_Take.calls k none 0 [] none 0 [] _ _ _ _ _ _ _ (Kd.F_now (Kd.F_nil _ _ (fun _ => True))) (Nat.le_refl _) (Kd.F_now (Kd.F_nil _ _ (fun _ => True))) (Nat.le_refl _) h4.out).mono ?_; rintro e w5 ⟨v6, v7, rfl, hv6, hv7, hb5⟩; obtain ⟨A7, c7, rfl⟩ := Kd.V_slice hv6; obtain ⟨A8, c8, rfl⟩ := Kd.V_slice hv7; clear hv6 hv7; replace hb5 := Aside0.mk hb5)
  have hb50 := hb5.out.alloc hb5.out.size (Obj.cells #[Value.slice A7 0 c7, Value.slice A8 0 c8] 24)
  replace HB := Aside0.mk (below_then HB.out HB.out.size hb50)
  replace HC0 := Aside0.mk (Kd.C_below HC0.out hb50)
  replace HC1 := Aside0.mk (Kd.C_below HC1.out hb50)
  replace BX := Aside0.mk (BX.out.below hb50 BX.out.lt)
  clear hb50 hb5
  generalize (w5.alloc (Obj.cells #[Value.slice A7 0 c7, Value.slice A8 0 c8] 24)) = W5 at *
  have hx0 := BX.out.cell 0 rfl
  have hx1 := BX.out.cell 1 rfl
  have hxf0 := BX.out.frozen 0
  have hxf1 := BX.out.frozen 1
  have HC := Aside0.mk (((Below.refl W5.heap.size W5).alloc (Nat.le_refl _) (Obj.cells #[.int .i64 0, .int .i64 2, .int .i64 4] 2)).alloc (by simp) (Obj.cells #[.int .i64 5, .int .i64 2, .int .i64 5] 2))
  have hml : (3 : Nat) ≤ maxLen := by decide
  have L0 : Kd.C (Kd.int .i64) (W5.alloc (Obj.cells #[.int .i64 0, .int .i64 2, .int .i64 4] 2)) (some ⟨W5.heap.size, 0, none⟩) 3 [0, 2, 4] := C_lits (e := 2) W5 [0, 2, 4] hml
  have L1 : Kd.C (Kd.int .i64) ((W5.alloc (Obj.cells #[.int .i64 0, .int .i64 2, .int .i64 4] 2)).alloc (Obj.cells #[.int .i64 5, .int .i64 2, .int .i64 5] 2)) (some ⟨W5.heap.size + 1, 0, none⟩) 3 [5, 2, 5] := by
    have h_ := C_lits (e := 2) (W5.alloc (Obj.cells #[.int .i64 0, .int .i64 2, .int .i64 4] 2)) [5, 2, 5] hml
    rw [World.size_alloc] at h_
    exact h_
  have L2 := Kd.C_below L0 ((Below.refl _ (W5.alloc (Obj.cells #[.int .i64 0, .int .i64 2, .int .i64 4] 2))).alloc (Nat.le_refl _) (Obj.cells #[.int .i64 5, .int .i64 2, .int .i64 5] 2))
  have hE := Aside0.mk (show Calls Try.prog 15 #[.agg #[.slice A3 3 c3, .slice A4 3 c4], .agg #[.slice (some ⟨W5.heap.size, 0, none⟩) 3 3, .slice (some ⟨W5.heap.size + 1, 0, none⟩) 3 3]] ((W5.alloc (Obj.cells #[.int .i64 0, .int .i64 2, .int .i64 4] 2)).alloc (Obj.cells #[.int .i64 5, .int .i64 2, .int .i64 5] 2)) fun e w' => e = .returned (.bool true) ∧ Below ((W5.alloc (Obj.cells #[.int .i64 0, .int .i64 2, .int .i64 4] 2)).alloc (Obj.cells #[.int .i64 5, .int .i64 2, .int .i64 5] 2)).heap.size ((W5.alloc (Obj.cells #[.int .i64 0, .int .i64 2, .int .i64 4] 2)).alloc (Obj.cells #[.int .i64 5, .int .i64 2, .int .i64 5] 2)) w' from forebayref04_Equal.calls k A3 c3 [0, 2, 4] A4 c4 [5, 2, 5] (some ⟨W5.heap.size, 0, none⟩) 3 [0, 2, 4] (some ⟨W5.heap.size + 1, 0, none⟩) 3 [5, 2, 5] true _ (Kd.C_below HC0.out HC.out) hv2.out.2.1 (Kd.C_below HC1.out HC.out) hv3.out.2.1 L2 (Nat.le_refl _) L1 (Nat.le_refl _) h5.out)
  clear L0 L1 L2
  have hL6 := Aside0.mk (show ∀ W, Kd.C (Kd.int .i64) W A3 3 [0, 2, 4] → Kd.C (Kd.int .i64) W A4 3 [5, 2, 5] → Calls Try.prog 11 #[.agg #[.slice A3 3 c3, .slice A4 3 c4], .int .i64 0, .int .i64 2] W fun e w' => e = .returned (.int .i64 5) ∧ Below W.heap.size W w' from fun W a_ b_ => steps_Least.calls k A3 c3 [0, 2, 4] A4 c4 [5, 2, 5] 0 2 5 W a_ hv2.out.2.1 b_ hv3.out.2.1 h6.out)
  have hL7 := Aside0.mk (show ∀ W, Kd.C (Kd.int .i64) W A3 3 [0, 2, 4] → Kd.C (Kd.int .i64) W A4 3 [5, 2, 5] → Calls Try.prog 11 #[.agg #[.slice A3 3 c3, .slice A4 3 c4], .int .i64 0, .int .i64 3] W fun e w' => e = .returned (.int .i64 2) ∧ Below W.heap.size W w' from fun W a_ b_ => steps_Least.calls k A3 c3 [0, 2, 4] A4 c4 [5, 2, 5] 0 3 2 W a_ hv2.out.2.1 b_ hv3.out.2.1 h7.out)
  have hL8 := Aside0.mk (show ∀ W, Kd.C (Kd.int .i64) W A3 3 [0, 2, 4] → Kd.C (Kd.int .i64) W A4 3 [5, 2, 5] → Calls Try.prog 11 #[.agg #[.slice A3 3 c3, .slice A4 3 c4], .int .i64 4, .int .i64 4] W fun e w' => e = .returned (.int .i64 1099511627776) ∧ Below W.heap.size W w' from fun W a_ b_ => steps_Least.calls k A3 c3 [0, 2, 4] A4 c4 [5, 2, 5] 4 4 1099511627776 W a_ hv2.out.2.1 b_ hv3.out.2.1 h8.out)
  have hA9 := Aside0.mk (show ∀ W, Kd.C (Kd.int .i64) W A3 3 [0, 2, 4] → Kd.C (Kd.int .i64) W A4 3 [5, 2, 5] → Calls Try.prog 12 #[.agg #[.slice A3 3 c3, .slice A4 3 c4], .int .i64 3] W fun e w' => e = .returned (.int .i64 2) ∧ Below W.heap.size W w' from fun W a_ b_ => steps_At.calls k A3 c3 [0, 2, 4] A4 c4 [5, 2, 5] 3 2 W a_ hv2.out.2.1 b_ hv3.out.2.1 h9.out)
  replace HC0 := Aside0.mk (show Kd.C (Kd.int .i64) W5 A3 3 [0, 2, 4] from HC0.out)
  replace HC1 := Aside0.mk (show Kd.C (Kd.int .i64) W5 A4 3 [5, 2, 5] from HC1.out)
  go_wp2_with (first | (go_at_call 15; with_reducible refine hE.out.mono ?_; rintro e w6 ⟨rfl, hb6⟩; replace HC := Aside0.mk (below_then HC.out HC.out.size hb6); clear hb6; have hx0 := (BX.out.below HC.out BX.out.lt).cell 0 rfl; have hx1 := (BX.out.below HC.out BX.out.lt).cell 1 rfl; have hxf0 := (BX.out.below HC.out BX.out.lt).frozen 0; have hxf1 := (BX.out.below HC.out BX.out.lt).frozen 1) | (go_at_call 11; with_reducible refine (hL6.out _ (Kd.C_below HC0.out HC.out) (Kd.C_below HC1.out HC.out)).mono ?_; rintro e w6 ⟨rfl, hb6⟩; replace HC := Aside0.mk (below_then HC.out HC.out.size hb6); clear hb6; have hx0 := (BX.out.below HC.out BX.out.lt).cell 0 rfl; have hx1 := (BX.out.below HC.out BX.out.lt).cell 1 rfl; have hxf0 := (BX.out.below HC.out BX.out.lt).frozen 0; have hxf1 := (BX.out.below HC.out BX.out.lt).frozen 1) | (go_at_call 11; with_reducible refine (hL7.out _ (Kd.C_below HC0.out HC.out) (Kd.C_below HC1.out HC.out)).mono ?_; rintro e w6 ⟨rfl, hb6⟩; replace HC := Aside0.mk (below_then HC.out HC.out.size hb6); clear hb6; have hx0 := (BX.out.below HC.out BX.out.lt).cell 0 rfl; have hx1 := (BX.out.below HC.out BX.out.lt).cell 1 rfl; have hxf0 := (BX.out.below HC.out BX.out.lt).frozen 0; have hxf1 := (BX.out.below HC.out BX.out.lt).frozen 1) | (go_at_call 11; with_reducible refine (hL8.out _ (Kd.C_below HC0.out HC.out) (Kd.C_below HC1.out HC.out)).mono ?_; rintro e w6 ⟨rfl, hb6⟩; replace HC := Aside0.mk (below_then HC.out HC.out.size hb6); clear hb6; have hx0 := (BX.out.below HC.out BX.out.lt).cell 0 rfl; have hx1 := (BX.out.below HC.out BX.out.lt).cell 1 rfl; have hxf0 := (BX.out.below HC.out BX.out.lt).frozen 0; have hxf1 := (BX.out.below HC.out BX.out.lt).frozen 1) | (go_at_call 12; with_reducible refine (hA9.out _ (Kd.C_below HC0.out HC.out) (Kd.C_below HC1.out HC.out)).mono ?_; rintro e w6 ⟨rfl, hb6⟩; replace HC := Aside0.mk (below_then HC.out HC.out.size hb6); clear hb6))
  go_ret
  exact ⟨rfl, below_then HB.out HB.out.size HC.out⟩

/-! ### forebayref04_Quantity: function 25 -/
def forebayref04_Quantity.f (a0 : Int) : Option (Bool) := if a0 ≥ 0 then (some (decide (a0 ≤ 1099511627776))) else (some false)
set_option maxHeartbeats 8000000 in
set_option maxRecDepth 100000 in
theorem forebayref04_Quantity.calls (a0 : Int) (r : Bool) (w : World) (h : forebayref04_Quantity.f a0 = some r) :
    Calls Try.prog 25 #[.int .i64 a0] w fun e w' => e = .returned (.bool r) ∧ Drawn0 w w' := by
  have H : (if a0 ≥ 0 then (some (decide (a0 ≤ 1099511627776))) else (some false)) = some r := h
  clear h
  by_cases c2 : a0 ≥ 0
  · rw [if_pos c2] at H
    have c2b0 : decide (0 ≤ a0) = true := decide_eq_true c2
    clear c2
    obtain rfl := Option.some.inj H
    go_enter Try.func25, Try.ntmps25
    go_wp2
    go_ret
    exact ⟨by first | rfl | (simp; done) | (simp [*]; done), by repeat (first | exact Drawn0.refl _ | apply Drawn0.step)⟩
  · rw [if_neg c2] at H
    have c2b0 : decide (0 ≤ a0) = false := decide_eq_false c2
    clear c2
    obtain rfl := Option.some.inj H
    go_enter Try.func25, Try.ntmps25
    go_wp2
    go_ret
    exact ⟨by first | rfl | (simp; done) | (simp [*]; done), by repeat (first | exact Drawn0.refl _ | apply Drawn0.step)⟩

end Go.Proofs.Ytkhbbcnagdappaa.P
