-- Written by this session's program gprint.py: functions of the program as plain functions, and that the machine does what they say. Not trusted: Lean checks it.
import Derived.Test.YtkhbbcnagdappaaPx0
import Derived.Test.YtkhbbcnagdappaaPx1
import Derived.Test.YtkhbbcnagdappaaPx2
import Derived.Test.YtkhbbcnagdappaaPx3
import Derived.Test.YtkhbbcnagdappaaPx4
namespace Go.Proofs.Ytkhbbcnagdappaa.P
open Go.RowKit Go.Proofs.YtkhbbcnagdappaaW.PrintWords Go.Proofs.YtkhbbcnagdappaaW.PrintLast Go.Proofs.YtkhbbcnagdappaaW.PrintMore
attribute [local go_sem] max2_int min2_int max_two min_two max_three min_three max_four min_four   -- for this text's walks alone
set_option linter.unusedVariables false
set_option linter.unusedSimpArgs false

/-! ### steps_At: function 12 -/
/-- How many there are at a time. -/
def atT (t : Int) : List (Int × Int × Int) → Int := List.foldl (fun n x => if x.1 ≤ t then x.2.2 else n) 0
theorem atT_snoc (t : Int) (l : List (Int × Int × Int)) (x : Int × Int × Int) : atT t (l ++ [x]) = if x.1 ≤ t then x.2.2 else atT t l := by simp [atT]
def steps_At.f (k : Nat) (a n : List Int) (t : Int) : Option Int :=
  (steps_Check.f k a n).bind fun e => if e = 0 ∧ badQ t = false then (if n.length = a.length ∧ a.length ≤ 100000 then some (atT t (spansT a n)) else none) else some 0
theorem steps_At.mono : ∀ a n t k, LeO (steps_At.f k a n t) (steps_At.f (k + 1) a n t) := by
  intro a n t k
  unfold steps_At.f
  exact LeO.bind (steps_Check.mono _ _ _) (fun _ => LeO.refl _)
attribute [local go_sem] Oper.semAt_some
set_option maxHeartbeats 8000000 in
theorem steps_At.calls (k : Nat) (A0_0 : Option Addr) (c0_0 : Nat) (l0_0 : List Int) (A0_1 : Option Addr) (c0_1 : Nat) (l0_1 : List Int) (a1 : Int) (r : Int) (w : World) (hr0_0 : Kd.C (Kd.int .i64) w A0_0 l0_0.length l0_0) (hc0_0 : l0_0.length ≤ c0_0) (hr0_1 : Kd.C (Kd.int .i64) w A0_1 l0_1.length l0_1) (hc0_1 : l0_1.length ≤ c0_1) (h : steps_At.f k l0_0 l0_1 a1 = some r) :
    Calls Try.prog 12 #[.agg #[.slice A0_0 l0_0.length c0_0, .slice A0_1 l0_1.length c0_1], .int .i64 a1] w fun e w' => e = .returned (.int .i64 r) ∧ Below w.heap.size w w' := by
  unfold steps_At.f at h
  obtain ⟨e, he, h⟩ := Option.bind_eq_some_iff.1 h
  have hu24 := Try.underlying24
  have HE := Aside0.mk he
  clear he
  have HR0 := Aside0.mk hr0_0
  have HR1 := Aside0.mk hr0_1
  clear hr0_0 hr0_1
  obtain ⟨H, hH⟩ : ∃ H, w.heap.size = H := ⟨_, rfl⟩
  by_cases hg : e = 0 ∧ badQ a1 = false
  · rw [if_pos hg] at h
    obtain ⟨rfl, hq⟩ := hg
    by_cases hl : l0_1.length = l0_0.length ∧ l0_0.length ≤ 100000
    case neg => rw [if_neg hl] at h; cases h
    rw [if_pos hl] at h
    obtain rfl := Option.some.inj h
    obtain ⟨hl1, hl2⟩ := hl
    replace hl1 := Aside0.mk hl1
    clear h
    clear h
    have HQ := Aside0.mk (show steps_quantity.f [a1] = some true by unfold steps_quantity.f; simp [hq])
    clear hq
    refine (callsIn_wide (n := 9)).1 (callsIn_of_wp_marks Try.func12 rfl trivial ?_ rfl)
    simp only [Try.ntmps12, List.size_toArray, List.length_cons, List.length_nil, Nat.reduceAdd, Nat.reduceSub, Array.replicate_succ, Array.replicate_zero, List.push_toArray, List.append_toArray, List.nil_append, List.cons_append]
    gi_upto_region 1 with fail
    obtain ⟨W0, hW0⟩ : ∃ W0, ((w.alloc (Obj.cells #[Value.slice A0_0 l0_0.length c0_0, Value.slice A0_1 l0_1.length c0_1] 24)).alloc (Obj.cells #[Value.int IntKind.i64 a1] 2)) = W0 := ⟨_, rfl⟩
    have HB := Aside0.mk (show Below w.heap.size w W0 by rw [← hW0]; exact ((Below.refl _ w).alloc (Nat.le_refl _) _).alloc (by simp) _)
    have BX : BoxN W0 H 24 [.slice A0_0 l0_0.length c0_0, .slice A0_1 l0_1.length c0_1] := by rw [← hW0, ← hH]; exact (BoxN.new w _ [.slice A0_0 l0_0.length c0_0, .slice A0_1 l0_1.length c0_1]).alloc _
    have BT : Boxed W0 (H + 1) 2 (.int .i64 a1) := by
      have := Boxed.new (w.alloc (Obj.cells #[Value.slice A0_0 l0_0.length c0_0, Value.slice A0_1 l0_1.length c0_1] 24)) 2 (.int .i64 a1)
      rw [hW0] at this
      rwa [World.size_alloc, hH] at this
    rw [hW0]
    clear hW0
    have hx0 := BX.cell 0 rfl
    have hx1 := BX.cell 1 rfl
    have hxf0 := BX.frozen 0
    have hxf1 := BX.frozen 1
    have ht0 := BT.cell
    have htf := BT.frozen
    replace BX := Aside0.mk BX
    replace BT := Aside0.mk BT
    gi_wp2_with (first | (refine ⟨trivial, ?_⟩; gi_at_call 9; refine (callsIn_wide.2 (steps_Check.calls k _ _ _ _ _ _ _ _ (Kd.C_below HR0.out HB.out) hc0_0 (Kd.C_below HR1.out HB.out) hc0_1 HE.out)).mono ?_; rintro e w1 ⟨rfl, hb1⟩; have BX1 := Aside0.mk (BX.out.below hb1 BX.out.lt); have BT1 := Aside0.mk (Boxed.below' BT.out hb1 BT.out.lt); have ht1 := BT1.out.cell; have htf1 := BT1.out.frozen; replace hb1 := Aside0.mk hb1) | (refine ⟨trivial, ?_⟩; gi_at_call 26; refine (callsIn_wide.2 (steps_quantity.calls _ _ [a1] true _ (C_lits _ [a1] (show (1 : Nat) ≤ maxLen by decide)) (Nat.le_refl _) HQ.out)).mono ?_; rintro e w2 ⟨rfl, hd2⟩; have hb2 : Below w1.heap.size w1 w2 := (by obtain ⟨nd2, hd3⟩ := hd2; subst hd3; exact pw_below_drewN ((Below.refl _ w1).alloc (Nat.le_refl _) _) _); have BX2 := BX1.out.below hb2 BX1.out.lt; have BT2 := Aside0.mk (Boxed.below' BT1.out hb2 BT1.out.lt); have hx20 := fun o => (BX2.alloc o).cell 0 rfl; have hx21 := fun o => (BX2.alloc o).cell 1 rfl; have hxf20 := fun o => (BX2.alloc o).frozen 0; have hxf21 := fun o => (BX2.alloc o).frozen 1; have HB2 := Aside0.mk (below_then (below_then HB.out HB.out.size hb1.out) (Nat.le_trans HB.out.size hb1.out.size) hb2); clear hd2 hb2) | (refine ⟨trivial, ?_⟩; gi_at_call 27; refine (callsIn_wide.2 (steps_spans_calls _ _ rfl rfl _)).mono ?_; rintro e w3 ⟨rfl, rfl⟩; skip))
    obtain ⟨M, hM⟩ : ∃ M, w2.heap.size = M := ⟨_, rfl⟩
    obtain ⟨s1, hs1⟩ : ∃ s, w1.heap.size = s := ⟨_, rfl⟩
    have c1 : Boxed ((w2.alloc (Obj.cells #[Value.int IntKind.i64 0] 2)).alloc (Obj.cells #[Value.slice A0_0 l0_0.length c0_0, Value.slice A0_1 l0_1.length c0_1] 24)) M 2 (.int .i64 0) := by
      rw [← hM]; exact (Boxed.new w2 _ _).alloc _
    have c2 : BoxN ((w2.alloc (Obj.cells #[Value.int IntKind.i64 0] 2)).alloc (Obj.cells #[Value.slice A0_0 l0_0.length c0_0, Value.slice A0_1 l0_1.length c0_1] 24)) (M + 1) 24 [.slice A0_0 l0_0.length c0_0, .slice A0_1 l0_1.length c0_1] := by
      have := BoxN.new (w2.alloc (Obj.cells #[Value.int IntKind.i64 0] 2)) 24 [.slice A0_0 l0_0.length c0_0, .slice A0_1 l0_1.length c0_1]
      rwa [World.size_alloc, hM] at this
    have c3 := (BT2.out.alloc (Obj.cells #[Value.int IntKind.i64 0] 2)).alloc (Obj.cells #[Value.slice A0_0 l0_0.length c0_0, Value.slice A0_1 l0_1.length c0_1] 24)
    have c4 := (HB2.out.alloc HB2.out.size (Obj.cells #[Value.int IntKind.i64 0] 2)).alloc (by simp; have := HB2.out.size; omega) (Obj.cells #[Value.slice A0_0 l0_0.length c0_0, Value.slice A0_1 l0_1.length c0_1] 24)
    have c5 : ((w2.alloc (Obj.cells #[Value.int IntKind.i64 0] 2)).alloc (Obj.cells #[Value.slice A0_0 l0_0.length c0_0, Value.slice A0_1 l0_1.length c0_1] 24)).heap.size = M + 2 := by simp [hM]
    have hHM : H + 1 < M := by rw [← hM]; exact BT2.out.lt
    have hsz := c4.size
    rw [hM, hs1]
    generalize ((w2.alloc (Obj.cells #[Value.int IntKind.i64 0] 2)).alloc (Obj.cells #[Value.slice A0_0 l0_0.length c0_0, Value.slice A0_1 l0_1.length c0_1] 24)) = Wr at *
    clear BX2 BT2 hx20 hx21 hxf20 hxf21 HB2 BX1 BT1 ht1 htf1 hb1 hx0 hx1 hxf0 hxf1 ht0 htf BX BT HB HQ HE
    refine wpIn_range (n := 9) (w := Wr) rfl (by omega) (gf := 37) (lb := #[.pointer (some ⟨M + 1, 0, none⟩)]) rfl trivial (enters_of Try.func37 (by kernel_rfl) rfl)
      (steps_spans_seq w A0_0 c0_0 A0_1 c0_1 l0_0 l0_1 (M + 1) Wr HR0.out HR1.out c4 c2 hl1.out hl2) (fun k hk => hk.elim) (fun k hk => by rcases hk with hk | hk <;> omega) (fun _ => rfl)
      (fun pre W => Boxed W M 2 (.int .i64 (atT a1 pre)) ∧ Boxed W (H + 1) 2 (.int .i64 a1) ∧ Below H w W)
      (fun _ _ _ => False)
      (by
        rintro s A B ⟨h1, h2, h3⟩ hk
        exact ⟨hk.boxed h1 ⟨not_false, by omega, by omega⟩, hk.boxed h2 ⟨not_false, by omega, by omega⟩, h3.trans (hk.below (by have := h3.size; omega) (fun k hk => ⟨not_false, by omega, by omega⟩))⟩)
      (fun _ _ _ _ h _ => h)
      ⟨c1, c3, by rw [← hH]; exact c4⟩
      (fun pre x a' W => (Boxed W M 2 (.int .i64 (atT a1 pre)) ∧ Boxed W (H + 1) 2 (.int .i64 a1) ∧ Below H w W) ∧ ∃ sb, BoxN W sb 55 [.int .i64 x.1, .int .i64 x.2.1, .int .i64 x.2.2] ∧ M + 4 ≤ sb ∧
        a' = { tmps := #[Value.agg #[Value.slice A0_0 l0_0.length c0_0, Value.slice A0_1 l0_1.length c0_1], Value.int IntKind.i64 a1,
          Value.pointer (some { block := H, off := 0 }), Value.pointer (some { block := H + 1, off := 0 }),
          Value.int IntKind.i64 0, Value.pointer (some { block := M, off := 0 }), Value.pointer (some { block := sb, off := 0 }),
          Value.agg #[Value.slice A0_0 l0_0.length c0_0, Value.slice A0_1 l0_1.length c0_1], Value.int IntKind.i64 0,
          Value.bool false, Value.bool false, Value.int IntKind.i64 a1,
          Value.slice (some { block := s1, off := 0 }) 1 1, Value.bool true, Value.bool false,
          Value.bool false, Value.agg #[Value.slice A0_0 l0_0.length c0_0, Value.slice A0_1 l0_1.length c0_1],
          Value.func (Fn.func 37) #[] #[Value.pointer (some { block := M + 1, off := 0 })], Value.agg #[.int .i64 x.1, .int .i64 x.2.1, .int .i64 x.2.2], undef,
          undef, undef, undef, undef, undef, undef], defers := [] })
      (by
        rintro pre x a' A B ⟨⟨h1, h2, h3⟩, sb, h4, h5, h6⟩ hk
        exact ⟨⟨hk.boxed h1 (by omega), hk.boxed h2 (by omega), h3.trans (hk.below (by have := h3.size; omega) (fun k hk => by omega))⟩, sb, hk.boxN h4 (by omega), h5, h6⟩)
      ?assign ?body ?done (fun _ _ _ _ _ h _ => h.elim)
    case assign =>
      rintro pre ⟨x0, x1, x2⟩ W hi hpre hsz
      simp only [encSpan]
      gi_wp2
      obtain ⟨h1, h2, h3⟩ := hi
      exact ⟨(Keeps.refl _ W).alloc _, ⟨h1.alloc _, h2.alloc _, h3.alloc (by have := h3.size; omega) _⟩, W.heap.size, BoxN.new W _ [.int .i64 x0, .int .i64 x1, .int .i64 x2], by omega, rfl⟩
    case body =>
      rintro pre ⟨x0, x1, x2⟩ a' W hpre hrec ⟨⟨h1, h2, h3⟩, sb, h4, h5, rfl⟩
      have hc1 := h1.cell
      have hf1 := h1.frozen
      have hc2 := h2.cell
      have hf2 := h2.frozen
      have hs0 := h4.cell 0 rfl
      have hs2 := h4.cell 2 rfl
      have hsf0 := h4.frozen 0
      have hsf2 := h4.frozen 2
      by_cases hx : x0 ≤ a1
      · have hx' : decide (x0 ≤ a1) = true := decide_eq_true hx
        gi_wp2
        have hk : Keeps (fun k => k ≠ M) W (W.setCell { block := M, off := 0 } (Value.int IntKind.i64 x2)) := (Keeps.refl _ W).setCell _ (fun h => h.2 rfl)
        refine ⟨hk.mono (fun k _ h => by omega), ?_, hk.boxed h2 (by omega), h3.trans (hk.below (by have := h3.size; omega) (fun k hk => by omega))⟩
        rw [atT_snoc, if_pos hx]
        exact h1.set _
      · have hx' : decide (x0 ≤ a1) = false := decide_eq_false hx
        gi_wp2
        refine ⟨Keeps.refl _ W, ?_, h2, h3⟩
        rw [atT_snoc, if_neg (by omega)]
        exact h1
    case done =>
      intro xs W hsz hxs hI hW
      obtain ⟨h1, h2, h3⟩ := hI
      have hc1 := h1.cell
      have hf1 := h1.frozen
      gi_wp2
      refine ⟨by simp, .inl ⟨_, _, rfl, run_takeDeferred hW, ?_⟩⟩
      refine ⟨.int .i64 (atT a1 (spansT l0_0 l0_1)), by simp [results, Try.f12, go_sem], rfl, ?_⟩
      rw [hH]
      exact h3.trans (((Keeps.refl (fun k => k ≠ Wr.heap.size) W).putObj _ (fun h => h.2 rfl)).below (by have := h3.size; omega) (fun k hk => by omega))
  · rw [if_neg hg] at h
    obtain rfl := Option.some.inj h
    clear h
    clear h
    have hb0 : ∀ w : World, Below w.heap.size w ((w.alloc (Obj.cells #[Value.slice A0_0 l0_0.length c0_0, Value.slice A0_1 l0_1.length c0_1] 24)).alloc (Obj.cells #[Value.int IntKind.i64 a1] 2)) := fun w => ((Below.refl _ w).alloc (Nat.le_refl _) _).alloc (by simp) _
    by_cases h0 : e = 0
    · subst h0
      have hq : badQ a1 = true := by
        cases hb : badQ a1 with
        | true => rfl
        | false => exact absurd ⟨rfl, hb⟩ hg
      have HQ := Aside0.mk (show steps_quantity.f [a1] = some false by unfold steps_quantity.f; simp [hq])
      clear hq hg
      go_enter Try.func12, Try.ntmps12
      go_upto_region 1 with fail
      obtain ⟨W0, hW0⟩ : ∃ W0, ((w.alloc (Obj.cells #[Value.slice A0_0 l0_0.length c0_0, Value.slice A0_1 l0_1.length c0_1] 24)).alloc (Obj.cells #[Value.int IntKind.i64 a1] 2)) = W0 := ⟨_, rfl⟩
      have HB := Aside0.mk (show Below w.heap.size w W0 by rw [← hW0]; exact hb0 w)
      have BX : BoxN W0 H 24 [.slice A0_0 l0_0.length c0_0, .slice A0_1 l0_1.length c0_1] := by rw [← hW0, ← hH]; exact (BoxN.new w _ [.slice A0_0 l0_0.length c0_0, .slice A0_1 l0_1.length c0_1]).alloc _
      have BT : Boxed W0 (H + 1) 2 (.int .i64 a1) := by
        have := Boxed.new (w.alloc (Obj.cells #[Value.slice A0_0 l0_0.length c0_0, Value.slice A0_1 l0_1.length c0_1] 24)) 2 (.int .i64 a1)
        rw [hW0] at this
        rwa [World.size_alloc, hH] at this
      rw [hW0]
      clear hW0 hb0
      have hx0 := BX.cell 0 rfl
      have hx1 := BX.cell 1 rfl
      have hxf0 := BX.frozen 0
      have hxf1 := BX.frozen 1
      replace BX := Aside0.mk BX
      replace BT := Aside0.mk BT
      go_wp2_with (first | (go_at_call 9; refine (steps_Check.calls k _ _ _ _ _ _ _ _ (Kd.C_below HR0.out HB.out) hc0_0 (Kd.C_below HR1.out HB.out) hc0_1 HE.out).mono ?_; rintro e w1 ⟨rfl, hb1⟩; have BT1 := Aside0.mk (Boxed.below' BT.out hb1 BT.out.lt); have ht1 := BT1.out.cell; have htf1 := BT1.out.frozen; replace hb1 := Aside0.mk hb1) | (go_at_call 26; refine (steps_quantity.calls _ _ [a1] false _ (C_lits _ [a1] (show (1 : Nat) ≤ maxLen by decide)) (Nat.le_refl _) HQ.out).mono ?_; rintro e w2 ⟨rfl, hd2⟩; have hb2 : Below w1.heap.size w1 w2 := (by obtain ⟨nd2, hd3⟩ := hd2; subst hd3; exact pw_below_drewN ((Below.refl _ w1).alloc (Nat.le_refl _) _) _); have HB2 := Aside0.mk (below_then (below_then HB.out HB.out.size hb1.out) (Nat.le_trans HB.out.size hb1.out.size) hb2); clear hd2 hb2))
      go_ret
      exact ⟨rfl, HB2.out⟩
    · have he1 : (e == 0) = false := beq_eq_false_iff_ne.mpr h0
      have he2 : (e != 0) = true := bne_iff_ne.mpr h0
      clear hg
      go_enter Try.func12, Try.ntmps12
      go_upto_region 1 with fail
      obtain ⟨W0, hW0⟩ : ∃ W0, ((w.alloc (Obj.cells #[Value.slice A0_0 l0_0.length c0_0, Value.slice A0_1 l0_1.length c0_1] 24)).alloc (Obj.cells #[Value.int IntKind.i64 a1] 2)) = W0 := ⟨_, rfl⟩
      have HB := Aside0.mk (show Below w.heap.size w W0 by rw [← hW0]; exact hb0 w)
      have BX : BoxN W0 H 24 [.slice A0_0 l0_0.length c0_0, .slice A0_1 l0_1.length c0_1] := by rw [← hW0, ← hH]; exact (BoxN.new w _ [.slice A0_0 l0_0.length c0_0, .slice A0_1 l0_1.length c0_1]).alloc _
      rw [hW0]
      clear hW0 hb0
      have hx0 := BX.cell 0 rfl
      have hx1 := BX.cell 1 rfl
      have hxf0 := BX.frozen 0
      have hxf1 := BX.frozen 1
      replace BX := Aside0.mk BX
      go_wp2_with (first | (go_at_call 9; refine (steps_Check.calls k _ _ _ _ _ _ _ _ (Kd.C_below HR0.out HB.out) hc0_0 (Kd.C_below HR1.out HB.out) hc0_1 HE.out).mono ?_; rintro e w1 ⟨rfl, hb1⟩; have HB2 := Aside0.mk (below_then HB.out HB.out.size hb1); clear hb1))
      go_ret
      exact ⟨rfl, HB2.out⟩

/-! ### forebaylaw04_head: function 10 -/
/-- What the head's calls tell. -/
def headOk (k : Nat) : Prop :=
  steps_New.f 5 = some ([0], [5]) ∧ steps_Take.f k [0] [5] 2 4 3 = some ([0, 2, 4], [5, 2, 5], 0) ∧ steps_Take.f k [0, 2, 4] [5, 2, 5] 3 9 3 = some ([], [], 6) ∧ steps_Take.f k [] [] 3 9 3 = some ([], [], 2) ∧
  forebayref04_Equal.f k [0, 2, 4] [5, 2, 5] [0, 2, 4] [5, 2, 5] = some true ∧ steps_Least.f k [0, 2, 4] [5, 2, 5] 0 2 = some 5 ∧ steps_Least.f k [0, 2, 4] [5, 2, 5] 0 3 = some 2 ∧ steps_Least.f k [0, 2, 4] [5, 2, 5] 4 4 = some 1099511627776 ∧ steps_At.f k [0, 2, 4] [5, 2, 5] 3 = some 2
instance (k : Nat) : Decidable (headOk k) := by unfold headOk; infer_instance
def forebaylaw04_head.f (k : Nat) : Option Bool := if headOk k then some true else none
theorem forebaylaw04_head.mono : ∀ k, LeO (forebaylaw04_head.f k) (forebaylaw04_head.f (k + 1)) := by
  intro k r h
  unfold forebaylaw04_head.f at h ⊢
  by_cases hk : headOk k
  · rw [if_pos hk] at h
    have hk2 : headOk (k + 1) := by
      obtain ⟨h1, h2, h3, h4, h5, h6, h7, h8, h9⟩ := hk
      exact ⟨h1, steps_Take.mono _ _ _ _ _ _ _ h2, steps_Take.mono _ _ _ _ _ _ _ h3, steps_Take.mono _ _ _ _ _ _ _ h4, forebayref04_Equal.mono _ _ _ _ _ _ h5, steps_Least.mono _ _ _ _ _ _ h6, steps_Least.mono _ _ _ _ _ _ h7, steps_Least.mono _ _ _ _ _ _ h8, steps_At.mono _ _ _ _ _ h9⟩
    rw [if_pos hk2]
    exact h
  · rw [if_neg hk] at h; cases h
set_option maxHeartbeats 16000000 in
set_option maxRecDepth 100000 in
theorem forebaylaw04_head.calls (k : Nat) (r : Bool) (w : World) (h : forebaylaw04_head.f k = some r) :
    Calls Try.prog 10 #[] w fun e w' => e = .returned (.bool r) ∧ Below w.heap.size w w' := by
  have hu24 := Try.underlying24
  unfold forebaylaw04_head.f at h
  by_cases hk : headOk k
  case neg => rw [if_neg hk] at h; cases h
  rw [if_pos hk] at h
  obtain rfl := Option.some.inj h
  clear h
  obtain ⟨h1, h2, h3, h4, h5, h6, h7, h8, h9⟩ := hk
  replace h1 := Aside0.mk h1
  replace h2 := Aside0.mk h2
  replace h3 := Aside0.mk h3
  replace h4 := Aside0.mk h4
  replace h5 := Aside0.mk h5
  replace h6 := Aside0.mk h6
  replace h7 := Aside0.mk h7
  replace h8 := Aside0.mk h8
  replace h9 := Aside0.mk h9
  go_enter Try.func10, Try.ntmps10
  go_upto_region 2 with (first | (go_at_call 17; refine (steps_New.calls 5 _ _ _ h1.out).mono ?_; rintro e w1 ⟨v0, v1, rfl, hv0, hv1, hb1⟩; obtain ⟨A1, c1, rfl⟩ := Kd.R_slice hv0; obtain ⟨A2, c2, rfl⟩ := Kd.R_slice hv1; replace hv0 := Aside0.mk (Kd.R_reads' hv0); replace hv1 := Aside0.mk (Kd.R_reads' hv1); replace hb1 := Aside0.mk hb1) | (go_at_call 13; refine (steps_Take.calls k A1 c1 [0] A2 c2 [5] _ _ _ _ _ _ _ hv0.out.2.2 hv0.out.2.1 hv1.out.2.2 hv1.out.2.1 h2.out).mono ?_; rintro e w2 ⟨v2, v3, rfl, hv2, hv3, hb2⟩; obtain ⟨A3, c3, rfl⟩ := Kd.V_slice hv2; obtain ⟨A4, c4, rfl⟩ := Kd.V_slice hv3; replace hv2 := Aside0.mk (Kd.V_reads' hv2); replace hv3 := Aside0.mk (Kd.V_reads' hv3); replace hb2 := Aside0.mk hb2))
  obtain ⟨B, hB⟩ : ∃ B, w2.heap.size = B := ⟨_, rfl⟩
  have HB := Aside0.mk ((below_then hb1.out hb1.out.size hb2.out).alloc (Nat.le_trans hb1.out.size hb2.out.size) (Obj.cells #[Value.slice A3 3 c3, Value.slice A4 3 c4] 24))
  have BX := Aside0.mk (BoxN.new w2 24 [.slice A3 3 c3, .slice A4 3 c4])
  have HC0 := Aside0.mk (Kd.C_below hv2.out.2.2 ((Below.refl _ w2).alloc (Nat.le_refl _) (Obj.cells #[Value.slice A3 3 c3, Value.slice A4 3 c4] 24)))
  have HC1 := Aside0.mk (Kd.C_below hv3.out.2.2 ((Below.refl _ w2).alloc (Nat.le_refl _) (Obj.cells #[Value.slice A3 3 c3, Value.slice A4 3 c4] 24)))
  rw [hB] at BX ⊢
  have hx0 := BX.out.cell 0 rfl
  have hx1 := BX.out.cell 1 rfl
  have hxf0 := BX.out.frozen 0
  have hxf1 := BX.out.frozen 1
  generalize (w2.alloc (Obj.cells #[Value.slice A3 3 c3, Value.slice A4 3 c4] 24)) = W3 at *
  clear hb1 hb2 hv0 hv1 hB
  go_upto_region 3 with (go_at_call 13; refine (steps_Take.calls k A3 c3 [0, 2, 4] A4 c4 [5, 2, 5] _ _ _ _ _ _ _ HC0.out hv2.out.2.1 HC1.out hv3.out.2.1 h3.out).mono ?_; rintro e w4 ⟨v4, v5, rfl, hv4, hv5, hb4⟩; obtain ⟨A5, c5, rfl⟩ := Kd.V_slice hv4; obtain ⟨A6, c6, rfl⟩ := Kd.V_slice hv5; clear hv4 hv5; replace hb4 := Aside0.mk hb4)
  have hb40 := hb4.out.alloc hb4.out.size (Obj.cells #[Value.slice A5 0 c5, Value.slice A6 0 c6] 24)
  replace HB := Aside0.mk (below_then HB.out HB.out.size hb40)
  replace HC0 := Aside0.mk (Kd.C_below HC0.out hb40)
  replace HC1 := Aside0.mk (Kd.C_below HC1.out hb40)
  replace BX := Aside0.mk (BX.out.below hb40 BX.out.lt)
  clear hb40 hb4 hx0 hx1 hxf0 hxf1
  generalize (w4.alloc (Obj.cells #[Value.slice A5 0 c5, Value.slice A6 0 c6] 24)) = W4 at *
  go_upto_region 4 with (go_at_call 13; refine (steps_Take.calls k none 0 [] none 0 [] _ _ _ _ _ _ _ (Kd.F_now (Kd.F_nil _ _ (fun _ => True))) (Nat.le_refl _) (Kd.F_now (Kd.F_nil _ _ (fun _ => True))) (Nat.le_refl _) h4.out).mono ?_; rintro e w5 ⟨v6, v7, rfl, hv6, hv7, hb5⟩; obtain ⟨A7, c7, rfl⟩ := Kd.V_slice hv6; obtain ⟨A8, c8, rfl⟩ := Kd.V_slice hv7; clear hv6 hv7; replace hb5 := Aside0.mk hb5)
  have hb50 := hb5.out.alloc hb5.out.size (Obj.cells #[Value.slice A7 0 c7, Value.slice A8 0 c8] 24)
  replace HB := Aside0.mk (below_then HB.out HB.out.size hb50)
  replace HC0 := Aside0.mk (Kd.C_below HC0.out hb50)
  replace HC1 := Aside0.mk (Kd.C_below HC1.out hb50)
  replace BX := Aside0.mk (BX.out.below hb50 BX.out.lt)
  clear hb50 hb5
  generalize (w5.alloc (Obj.cells #[Value.slice A7 0 c7, Value.slice A8 0 c8] 24)) = W5 at *
  have hx0 := BX.out.cell 0 rfl
  have hx1 := BX.out.cell 1 rfl
  have hxf0 := BX.out.frozen 0
  have hxf1 := BX.out.frozen 1
  have HC := Aside0.mk (((Below.refl W5.heap.size W5).alloc (Nat.le_refl _) (Obj.cells #[.int .i64 0, .int .i64 2, .int .i64 4] 2)).alloc (by simp) (Obj.cells #[.int .i64 5, .int .i64 2, .int .i64 5] 2))
  have hml : (3 : Nat) ≤ maxLen := by decide
  have L0 : Kd.C (Kd.int .i64) (W5.alloc (Obj.cells #[.int .i64 0, .int .i64 2, .int .i64 4] 2)) (some ⟨W5.heap.size, 0, none⟩) 3 [0, 2, 4] := C_lits (e := 2) W5 [0, 2, 4] hml
  have L1 : Kd.C (Kd.int .i64) ((W5.alloc (Obj.cells #[.int .i64 0, .int .i64 2, .int .i64 4] 2)).alloc (Obj.cells #[.int .i64 5, .int .i64 2, .int .i64 5] 2)) (some ⟨W5.heap.size + 1, 0, none⟩) 3 [5, 2, 5] := by
    have h_ := C_lits (e := 2) (W5.alloc (Obj.cells #[.int .i64 0, .int .i64 2, .int .i64 4] 2)) [5, 2, 5] hml
    rw [World.size_alloc] at h_
    exact h_
  have L2 := Kd.C_below L0 ((Below.refl _ (W5.alloc (Obj.cells #[.int .i64 0, .int .i64 2, .int .i64 4] 2))).alloc (Nat.le_refl _) (Obj.cells #[.int .i64 5, .int .i64 2, .int .i64 5] 2))
  have hE := Aside0.mk (show Calls Try.prog 15 #[.agg #[.slice A3 3 c3, .slice A4 3 c4], .agg #[.slice (some ⟨W5.heap.size, 0, none⟩) 3 3, .slice (some ⟨W5.heap.size + 1, 0, none⟩) 3 3]] ((W5.alloc (Obj.cells #[.int .i64 0, .int .i64 2, .int .i64 4] 2)).alloc (Obj.cells #[.int .i64 5, .int .i64 2, .int .i64 5] 2)) fun e w' => e = .returned (.bool true) ∧ Below ((W5.alloc (Obj.cells #[.int .i64 0, .int .i64 2, .int .i64 4] 2)).alloc (Obj.cells #[.int .i64 5, .int .i64 2, .int .i64 5] 2)).heap.size ((W5.alloc (Obj.cells #[.int .i64 0, .int .i64 2, .int .i64 4] 2)).alloc (Obj.cells #[.int .i64 5, .int .i64 2, .int .i64 5] 2)) w' from forebayref04_Equal.calls k A3 c3 [0, 2, 4] A4 c4 [5, 2, 5] (some ⟨W5.heap.size, 0, none⟩) 3 [0, 2, 4] (some ⟨W5.heap.size + 1, 0, none⟩) 3 [5, 2, 5] true _ (Kd.C_below HC0.out HC.out) hv2.out.2.1 (Kd.C_below HC1.out HC.out) hv3.out.2.1 L2 (Nat.le_refl _) L1 (Nat.le_refl _) h5.out)
  clear L0 L1 L2
  have hL6 := Aside0.mk (show ∀ W, Kd.C (Kd.int .i64) W A3 3 [0, 2, 4] → Kd.C (Kd.int .i64) W A4 3 [5, 2, 5] → Calls Try.prog 11 #[.agg #[.slice A3 3 c3, .slice A4 3 c4], .int .i64 0, .int .i64 2] W fun e w' => e = .returned (.int .i64 5) ∧ Below W.heap.size W w' from fun W a_ b_ => steps_Least.calls k A3 c3 [0, 2, 4] A4 c4 [5, 2, 5] 0 2 5 W a_ hv2.out.2.1 b_ hv3.out.2.1 h6.out)
  have hL7 := Aside0.mk (show ∀ W, Kd.C (Kd.int .i64) W A3 3 [0, 2, 4] → Kd.C (Kd.int .i64) W A4 3 [5, 2, 5] → Calls Try.prog 11 #[.agg #[.slice A3 3 c3, .slice A4 3 c4], .int .i64 0, .int .i64 3] W fun e w' => e = .returned (.int .i64 2) ∧ Below W.heap.size W w' from fun W a_ b_ => steps_Least.calls k A3 c3 [0, 2, 4] A4 c4 [5, 2, 5] 0 3 2 W a_ hv2.out.2.1 b_ hv3.out.2.1 h7.out)
  have hL8 := Aside0.mk (show ∀ W, Kd.C (Kd.int .i64) W A3 3 [0, 2, 4] → Kd.C (Kd.int .i64) W A4 3 [5, 2, 5] → Calls Try.prog 11 #[.agg #[.slice A3 3 c3, .slice A4 3 c4], .int .i64 4, .int .i64 4] W fun e w' => e = .returned (.int .i64 1099511627776) ∧ Below W.heap.size W w' from fun W a_ b_ => steps_Least.calls k A3 c3 [0, 2, 4] A4 c4 [5, 2, 5] 4 4 1099511627776 W a_ hv2.out.2.1 b_ hv3.out.2.1 h8.out)
  have hA9 := Aside0.mk (show ∀ W, Kd.C (Kd.int .i64) W A3 3 [0, 2, 4] → Kd.C (Kd.int .i64) W A4 3 [5, 2, 5] → Calls Try.prog 12 #[.agg #[.slice A3 3 c3, .slice A4 3 c4], .int .i64 3] W fun e w' => e = .returned (.int .i64 2) ∧ Below W.heap.size W w' from fun W a_ b_ => steps_At.calls k A3 c3 [0, 2, 4] A4 c4 [5, 2, 5] 3 2 W a_ hv2.out.2.1 b_ hv3.out.2.1 h9.out)
  replace HC0 := Aside0.mk (show Kd.C (Kd.int .i64) W5 A3 3 [0, 2, 4] from HC0.out)
  replace HC1 := Aside0.mk (show Kd.C (Kd.int .i64) W5 A4 3 [5, 2, 5] from HC1.out)
  go_wp2_with (first | (go_at_call 15; with_reducible refine hE.out.mono ?_; rintro e w6 ⟨rfl, hb6⟩; replace HC := Aside0.mk (below_then HC.out HC.out.size hb6); clear hb6; have hx0 := (BX.out.below HC.out BX.out.lt).cell 0 rfl; have hx1 := (BX.out.below HC.out BX.out.lt).cell 1 rfl; have hxf0 := (BX.out.below HC.out BX.out.lt).frozen 0; have hxf1 := (BX.out.below HC.out BX.out.lt).frozen 1) | (go_at_call 11; with_reducible refine (hL6.out _ (Kd.C_below HC0.out HC.out) (Kd.C_below HC1.out HC.out)).mono ?_; rintro e w6 ⟨rfl, hb6⟩; replace HC := Aside0.mk (below_then HC.out HC.out.size hb6); clear hb6; have hx0 := (BX.out.below HC.out BX.out.lt).cell 0 rfl; have hx1 := (BX.out.below HC.out BX.out.lt).cell 1 rfl; have hxf0 := (BX.out.below HC.out BX.out.lt).frozen 0; have hxf1 := (BX.out.below HC.out BX.out.lt).frozen 1) | (go_at_call 11; with_reducible refine (hL7.out _ (Kd.C_below HC0.out HC.out) (Kd.C_below HC1.out HC.out)).mono ?_; rintro e w6 ⟨rfl, hb6⟩; replace HC := Aside0.mk (below_then HC.out HC.out.size hb6); clear hb6; have hx0 := (BX.out.below HC.out BX.out.lt).cell 0 rfl; have hx1 := (BX.out.below HC.out BX.out.lt).cell 1 rfl; have hxf0 := (BX.out.below HC.out BX.out.lt).frozen 0; have hxf1 := (BX.out.below HC.out BX.out.lt).frozen 1) | (go_at_call 11; with_reducible refine (hL8.out _ (Kd.C_below HC0.out HC.out) (Kd.C_below HC1.out HC.out)).mono ?_; rintro e w6 ⟨rfl, hb6⟩; replace HC := Aside0.mk (below_then HC.out HC.out.size hb6); clear hb6; have hx0 := (BX.out.below HC.out BX.out.lt).cell 0 rfl; have hx1 := (BX.out.below HC.out BX.out.lt).cell 1 rfl; have hxf0 := (BX.out.below HC.out BX.out.lt).frozen 0; have hxf1 := (BX.out.below HC.out BX.out.lt).frozen 1) | (go_at_call 12; with_reducible refine (hA9.out _ (Kd.C_below HC0.out HC.out) (Kd.C_below HC1.out HC.out)).mono ?_; rintro e w6 ⟨rfl, hb6⟩; replace HC := Aside0.mk (below_then HC.out HC.out.size hb6); clear hb6))
  go_ret
  exact ⟨rfl, below_then HB.out HB.out.size HC.out⟩

/-! ### steps_Give: function 14 -/
/-- What Give does with a step's number. -/
def giveF (m x : Int) : Int × Bool := (wrap64 (x + m), decide (x ≤ wrap64 (1099511627776 - m)))
def steps_Give.f (k : Nat) (a n : List Int) (lo hi m : Int) : Option (List Int × List Int × Int) :=
  (steps_Check.f k a n).bind fun e => if e = 0 ∧ (badQ lo || badQ hi || badQ m) = false then (if n.length = a.length ∧ a.length ≤ 60000 then some (resT (turnL lo hi (giveF m) (spansT a n))) else none) else some ([], [], 2)
theorem steps_Give.mono : ∀ a n lo hi m k, LeO (steps_Give.f k a n lo hi m) (steps_Give.f (k + 1) a n lo hi m) := by
  intro a n lo hi m k
  unfold steps_Give.f
  exact LeO.bind (steps_Check.mono _ _ _) (fun _ => LeO.refl _)
theorem steps_Give_do (dx : Nat) (m : Int) (x : Int) (W : World) (hb : Boxed W dx 2 (.int .i64 m)) :
    Calls Try.prog 30 #[.int .i64 x, .pointer (some ⟨dx, 0, none⟩)] W fun e w' => e = .returned (.tuple #[.int .i64 (giveF m x).1, .bool (giveF m x).2]) ∧ Drawn0 W w' := by
  have hc := hb.cell
  have hf := hb.frozen
  go_enter Try.func30, Try.ntmps30
  go_wp2
  go_quiet (fail)
  go_wp2
  refine bodyPost_ret (v := .tuple #[.int .i64 (giveF m x).1, .bool (giveF m x).2]) ?_ rfl ⟨rfl, _, rfl⟩
  simp [results, Try.f30, giveF, go_sem, i64_w]
set_option maxHeartbeats 16000000 in
set_option maxRecDepth 100000 in
theorem steps_Give_own (k : Nat) (A0_0 : Option Addr) (c0_0 : Nat) (l0_0 : List Int) (A0_1 : Option Addr) (c0_1 : Nat) (l0_1 : List Int) (a1 a2 a3 : Int) (r1 r2 : List Int) (r3 : Int) (w : World) (hr0_0 : Kd.C (Kd.int .i64) w A0_0 l0_0.length l0_0) (hc0_0 : l0_0.length ≤ c0_0) (hr0_1 : Kd.C (Kd.int .i64) w A0_1 l0_1.length l0_1) (hc0_1 : l0_1.length ≤ c0_1) (h : steps_Give.f k l0_0 l0_1 a1 a2 a3 = some (r1, r2, r3)) :
    Calls Try.prog 14 #[.agg #[.slice A0_0 l0_0.length c0_0, .slice A0_1 l0_1.length c0_1], .int .i64 a1, .int .i64 a2, .int .i64 a3] w fun e w' => StepsPost w r1 r2 r3 e w' := by
  unfold steps_Give.f at h
  obtain ⟨e, he, h⟩ := Option.bind_eq_some_iff.1 h
  have hu24 := Try.underlying24
  have hmf : ∀ (fn : Fn) (first cap : Array Value) (w : World), (Instr.makeFunc fn first cap).run Try.prog w = .ok (.func fn first cap) w := fun _ _ _ _ => rfl
  have HE := Aside0.mk he
  clear he
  have HR0 := Aside0.mk hr0_0
  have HR1 := Aside0.mk hr0_1
  clear hr0_0 hr0_1
  obtain ⟨H, hH⟩ : ∃ H, w.heap.size = H := ⟨_, rfl⟩
  replace h := Aside0.mk h
  go_enter Try.func14, Try.ntmps14
  go_upto_region 1 with fail
  obtain ⟨W0, hW0⟩ : ∃ W0, (((w.alloc (Obj.cells #[Value.slice A0_0 l0_0.length c0_0, Value.slice A0_1 l0_1.length c0_1] 24)).alloc (Obj.cells #[Value.int IntKind.i64 a3] 2)).alloc (Obj.cells #[Value.slice none 0 0, Value.slice none 0 0] 24)) = W0 := ⟨_, rfl⟩
  rw [hW0]
  have hWl : ([Obj.cells #[Value.slice A0_0 l0_0.length c0_0, Value.slice A0_1 l0_1.length c0_1] 24, Obj.cells #[Value.int IntKind.i64 a3] 2, Obj.cells #[Value.slice none 0 0, Value.slice none 0 0] 24] : List Obj).foldl World.alloc w = W0 := hW0
  clear hW0
  have hat := (heap_allocs [Obj.cells #[Value.slice A0_0 l0_0.length c0_0, Value.slice A0_1 l0_1.length c0_1] 24, Obj.cells #[Value.int IntKind.i64 a3] 2, Obj.cells #[Value.slice none 0 0, Value.slice none 0 0] 24] w).2
  have hsz := (heap_allocs [Obj.cells #[Value.slice A0_0 l0_0.length c0_0, Value.slice A0_1 l0_1.length c0_1] 24, Obj.cells #[Value.int IntKind.i64 a3] 2, Obj.cells #[Value.slice none 0 0, Value.slice none 0 0] 24] w).1
  have hkp : Keeps (fun k => k < H) w (([Obj.cells #[Value.slice A0_0 l0_0.length c0_0, Value.slice A0_1 l0_1.length c0_1] 24, Obj.cells #[Value.int IntKind.i64 a3] 2, Obj.cells #[Value.slice none 0 0, Value.slice none 0 0] 24] : List Obj).foldl World.alloc w) := keeps_allocs _ _ _
  rw [hWl] at hat hsz hkp
  simp only [hH] at hat hsz
  have BX : BoxN W0 H 24 [.slice A0_0 l0_0.length c0_0, .slice A0_1 l0_1.length c0_1] := hat 0 _ rfl
  have BT : Boxed W0 (H + 1) 2 (.int .i64 a3) := hat 1 _ rfl
  have BR : BoxN W0 (H + 2) 24 [.slice none 0 0, .slice none 0 0] := hat 2 _ rfl
  replace hsz : W0.heap.size = H + 3 := hsz
  have HB := Aside0.mk (show Below w.heap.size w W0 from hkp.below (Nat.le_refl _) (fun k hk => by omega))
  clear hat hWl hkp
  simp only [Nat.add_assoc, Nat.reduceAdd]
  have hx0 := BX.cell 0 rfl
  have hx1 := BX.cell 1 rfl
  have hxf0 := BX.frozen 0
  have hxf1 := BX.frozen 1
  have ht0 := BT.cell
  have htf := BT.frozen
  replace BX := Aside0.mk BX
  replace BT := Aside0.mk BT
  replace BR := Aside0.mk BR
  replace hsz := Aside0.mk hsz
  by_cases h0 : e = 0
  · subst h0
    by_cases hq : (badQ a1 || badQ a2 || badQ a3) = false
    · have h := h.out
      rw [if_pos ⟨rfl, hq⟩] at h
      by_cases hl : l0_1.length = l0_0.length ∧ l0_0.length ≤ 60000
      case neg => rw [if_neg hl] at h; cases h
      rw [if_pos hl] at h
      have HRES := Aside0.mk (Option.some.inj h)
      obtain ⟨hl1, hl2⟩ := hl
      replace hl1 := Aside0.mk hl1
      clear h
      clear h
      have HQ := Aside0.mk (show steps_quantity.f [a1, a2, a3] = some true by unfold steps_quantity.f; simpa [or_assoc, and_assoc] using hq)
      clear hq
      go_wp2_with (first | (go_at_call 9; refine (steps_Check.calls k _ _ _ _ _ _ _ _ (Kd.C_below HR0.out HB.out) hc0_0 (Kd.C_below HR1.out HB.out) hc0_1 HE.out).mono ?_; rintro e w1 ⟨rfl, hb1⟩; have BX1 := Aside0.mk (BX.out.below hb1 BX.out.lt); have BT1 := Aside0.mk (Boxed.below' BT.out hb1 BT.out.lt); have BR1 := Aside0.mk (BR.out.below hb1 BR.out.lt); have ht1 := BT1.out.cell; have htf1 := BT1.out.frozen; replace hb1 := Aside0.mk hb1) | (go_at_call 26; refine (steps_quantity.calls _ _ [a1, a2, a3] true _ (C_lits _ [a1, a2, a3] (show (3 : Nat) ≤ maxLen by decide)) (Nat.le_refl _) HQ.out).mono ?_; rintro e w2 ⟨rfl, hd2⟩; have hb2 : Below w1.heap.size w1 w2 := (by obtain ⟨nd2, hd3⟩ := hd2; subst hd3; exact pw_below_drewN ((Below.refl _ w1).alloc (Nat.le_refl _) _) _); have BX2 := BX1.out.below hb2 BX1.out.lt; have BT2 := Aside0.mk (Boxed.below' BT1.out hb2 BT1.out.lt); have BR2 := Aside0.mk (BR1.out.below hb2 BR1.out.lt); have hx20 := BX2.cell 0 rfl; have hx21 := BX2.cell 1 rfl; have hxf20 := BX2.frozen 0; have hxf21 := BX2.frozen 1; have hst := HB.out.size; have HB2 := Aside0.mk (below_then (below_then HB.out HB.out.size hb1.out) (Nat.le_trans HB.out.size hb1.out.size) hb2); have HS2 := Aside0.mk (Nat.le_trans hb1.out.size hb2.size); clear hd2 hb2 hst) | (go_at_call 28; refine (steps_turn_calls 30 (H + 1) a3 (giveF a3) (enters_of Try.func30 (by kernel_rfl) rfl) (fun x W hb => steps_Give_do (H + 1) a3 x W hb) _ _ _ _ _ _ _ _ _ (Kd.C_below HR0.out HB2.out) (Kd.C_below HR1.out HB2.out) BT2.out hl1.out hl2).mono ?_; rintro e w3 ⟨hb3, hres⟩; obtain ⟨out, A', c', B', d', rfl, h5, h6, h7, h8⟩ := turn_res hres HRES.out; have BR3 := BR2.out.below hb3 BR2.out.lt; have hr30 := BR3.cell 0 rfl; have hr31 := BR3.cell 1 rfl; have hrf30 := BR3.frozen 0; have hrf31 := BR3.frozen 1; replace BR3 := Aside0.mk BR3; replace hb3 := Aside0.mk hb3; replace h5 := Aside0.mk h5; replace h6 := Aside0.mk h6; replace h7 := Aside0.mk h7; replace h8 := Aside0.mk h8; clear hres))
      exact take_tail (hH := hH) Try.f14 rfl rfl rfl BR3.out h5.out (by have := HS2.out; have := hsz.out; omega) HB2.out hb3.out h6.out h7.out h8.out
    · have hq1 : (badQ a1 || badQ a2 || badQ a3) = true := by
        cases hb : (badQ a1 || badQ a2 || badQ a3) with
        | true => rfl
        | false => exact absurd hb hq
      have h := h.out
      rw [if_neg (fun hh => hq hh.2)] at h
      have hres := Option.some.inj h
      clear h
      clear h
      clear hq
      injection hres with e1 e2
      injection e2 with e2 e3
      subst e1
      subst e2
      subst e3
      have HQ := Aside0.mk (show steps_quantity.f [a1, a2, a3] = some false by unfold steps_quantity.f; rw [show ([a1, a2, a3].any badQ) = (badQ a1 || badQ a2 || badQ a3) by simp [Bool.or_assoc], hq1]; rfl)
      clear hq1
      go_wp2_with (first | (go_at_call 9; refine (steps_Check.calls k _ _ _ _ _ _ _ _ (Kd.C_below HR0.out HB.out) hc0_0 (Kd.C_below HR1.out HB.out) hc0_1 HE.out).mono ?_; rintro e w1 ⟨rfl, hb1⟩; have BT1 := Aside0.mk (Boxed.below' BT.out hb1 BT.out.lt); have BR1 := Aside0.mk (BR.out.below hb1 BR.out.lt); have ht1 := BT1.out.cell; have htf1 := BT1.out.frozen; replace hb1 := Aside0.mk hb1) | (go_at_call 26; refine (steps_quantity.calls _ _ [a1, a2, a3] false _ (C_lits _ [a1, a2, a3] (show (3 : Nat) ≤ maxLen by decide)) (Nat.le_refl _) HQ.out).mono ?_; rintro e w2 ⟨rfl, hd2⟩; have hb2 : Below w1.heap.size w1 w2 := (by obtain ⟨nd2, hd3⟩ := hd2; subst hd3; exact pw_below_drewN ((Below.refl _ w1).alloc (Nat.le_refl _) _) _); have BR2 := BR1.out.below hb2 BR1.out.lt; have hr20 := BR2.cell 0 rfl; have hr21 := BR2.cell 1 rfl; have hrf20 := BR2.frozen 0; have hrf21 := BR2.frozen 1; have hst := HB.out.size; have HB2 := Aside0.mk (below_then (below_then HB.out HB.out.size hb1.out) (Nat.le_trans HB.out.size hb1.out.size) hb2); have HS2 := Aside0.mk (Nat.le_trans hb1.out.size hb2.size); replace BR2 := Aside0.mk BR2; clear hd2 hb2 hst))
      exact take_tail0 (hH := hH) Try.f14 rfl rfl rfl BR2.out (by have := HS2.out; have := hsz.out; omega) HB2.out
  · have h := h.out
    rw [if_neg (fun hh => h0 hh.1)] at h
    have hres := Option.some.inj h
    clear h
    clear h
    injection hres with e1 e2
    injection e2 with e2 e3
    subst e1
    subst e2
    subst e3
    have he1 : (e == 0) = false := beq_eq_false_iff_ne.mpr h0
    have he2 : (e != 0) = true := bne_iff_ne.mpr h0
    clear h0
    go_wp2_with (first | (go_at_call 9; refine (steps_Check.calls k _ _ _ _ _ _ _ _ (Kd.C_below HR0.out HB.out) hc0_0 (Kd.C_below HR1.out HB.out) hc0_1 HE.out).mono ?_; rintro e w1 ⟨rfl, hb1⟩; have BR1 := BR.out.below hb1 BR.out.lt; have hr20 := BR1.cell 0 rfl; have hr21 := BR1.cell 1 rfl; have hrf20 := BR1.frozen 0; have hrf21 := BR1.frozen 1; have HB2 := Aside0.mk (below_then HB.out HB.out.size hb1); have HS2 := Aside0.mk hb1.size; replace BR1 := Aside0.mk BR1; clear hb1))
    exact take_tail0 (hH := hH) Try.f14 rfl rfl rfl BR1.out (by have := HS2.out; have := hsz.out; omega) HB2.out
theorem steps_Give.calls (k : Nat) (A0_0 : Option Addr) (c0_0 : Nat) (l0_0 : List Int) (A0_1 : Option Addr) (c0_1 : Nat) (l0_1 : List Int) (a1 : Int) (a2 : Int) (a3 : Int) (r1 : List Int) (r2 : List Int) (r3 : Int) (w : World) (hr0_0 : Kd.C (Kd.int .i64) w A0_0 l0_0.length l0_0) (hc0_0 : l0_0.length ≤ c0_0) (hr0_1 : Kd.C (Kd.int .i64) w A0_1 l0_1.length l0_1) (hc0_1 : l0_1.length ≤ c0_1) (h : steps_Give.f k l0_0 l0_1 a1 a2 a3 = some (r1, r2, r3)) :
    Calls Try.prog 14 #[.agg #[.slice A0_0 l0_0.length c0_0, .slice A0_1 l0_1.length c0_1], .int .i64 a1, .int .i64 a2, .int .i64 a3] w fun e w' => ∃ v0_ v1_ : Value, e = .returned (.tuple #[.agg #[v0_, v1_], .int .i64 r3]) ∧ Kd.V (Kd.int .i64) 2 w' w.heap.size (fun k_ => w.heap.size ≤ k_) v0_ r1 ∧ Kd.V (Kd.int .i64) 2 w' w.heap.size (fun k_ => w.heap.size ≤ k_) v1_ r2 ∧ Below w.heap.size w w' :=
  (steps_Give_own k A0_0 c0_0 l0_0 A0_1 c0_1 l0_1 a1 a2 a3 r1 r2 r3 w hr0_0 hc0_0 hr0_1 hc0_1 h).mono (fun _ _ hp => StepsPost.view hp)

/-! ### forebaylaw04_StepsOwn: function 4 -/
/-- What the law's calls tell. -/
structure OwnOk (k : Nat) (a n : List Int) (lo hi m : Int) : Prop where
  hd : forebaylaw04_head.f k = some true
  great : ∃ g, forebayref04_Great.f a n = some g
  take : forebayref04_Great.f a n = some false → ∃ r1 r2 r3, steps_Take.f k a n lo hi m = some (r1, r2, r3)
  give : forebayref04_Great.f a n = some false → ∃ r1 r2 r3, steps_Give.f k a n lo hi m = some (r1, r2, r3)
  eq : forebayref04_Great.f a n = some false → forebayref04_Equal.f k a n a n = some true
noncomputable def forebaylaw04_StepsOwn.f (k : Nat) (l0_0 l0_1 : List Int) (a1_0 a1_1 a1_2 : Int) : Option Bool := @ite _ (OwnOk k l0_0 l0_1 a1_0 a1_1 a1_2) (Classical.propDecidable _) (some true) none
/-- append([]int64{}, ys...): an empty row without room that is appended to, as one step of a region that draws. -/
theorem run_append_fresh {P : Program} {W : World} (t ty e : TypeId) (k : IntKind) (bytes : Nat)
    (ht : P.underlying t = some (.slice e)) (hinfo : (P.info? e).map (fun i => (i.zero, i.size, i.bytes)) = some (some (.int k 0), 1, bytes)) (hb0 : 0 < bytes)
    (g : Nat) (ys : List Int) (A : Option Addr) (c : Nat) (HR : ReadsInt W k A ys.length ys) (hl : ys.length * bytes ≤ 140737488355328) :
    ∃ A' c' w1, (Builtin.append_ #[t, t] ty #[.slice (some ⟨g, 0, none⟩) 0 0, .slice A ys.length c]).run P W = .ok (.slice A' ys.length c') w1 ∧ Below W.heap.size W w1 ∧ Kd.F (Kd.int k) w1 (fun j => W.heap.size ≤ j) A' ys.length ys ∧ ys.length ≤ c' := by
  obtain ⟨i0, hi, hzz⟩ := Option.map_eq_some_iff.1 hinfo
  simp only [Prod.mk.injEq] at hzz
  obtain ⟨hz0, hz1, hz2⟩ := hzz
  have hlen : ys.length ≤ 140737488355328 := Nat.le_trans (Nat.le_mul_of_pos_right _ hb0) hl
  by_cases h0 : ys.length = 0
  · obtain rfl : ys = [] := List.eq_nil_of_length_eq_zero h0
    refine ⟨some ⟨g, 0, none⟩, 0, W, ?_, Below.refl _ _, fun W' _ => ⟨rfl, by simp, fun h => absurd h (by simp)⟩, Nat.le_refl _⟩
    rcases A with _ | ad
    · simp [Builtin.append_, run_underlying ht, sizeOf, typeInfo, hi, Builtin.lenOf, Builtin.firstCells, storeCells]
    · simp [Builtin.append_, run_underlying ht, sizeOf, typeInfo, hi, Builtin.lenOf, Builtin.firstCells, storeCells, loadCells, loadCellsFrom]
  · obtain ⟨ad, rfl, _⟩ := HR.2.2 (by omega)
    have hcells : ∀ j u, (nums k ys)[j]? = some u → W.cell? (ad.add j) = some u := by
      intro j u hu
      have hj : j < ys.length := by
        rcases Nat.lt_or_ge j ys.length with h | h
        · exact h
        · simp [nums, List.getElem?_eq_none h] at hu
      obtain ⟨ad', h', hc⟩ := HR.2.2 (by omega)
      injection h' with h'
      subst h'
      have := hc j (by omega)
      simp [nums, List.getElem?_eq_getElem hj] at hu
      subst hu
      rw [this]
      simp [List.getD_eq_getElem?_getD, List.getElem?_eq_getElem hj]
    obtain ⟨v', w', hrun, r1, r2⟩ := run_append_arg_grows (P := P) W t ty e i0 (.int k 0) 1 bytes ht hi hz0 hz1 hz2 rfl (by decide) ⟨g, 0, none⟩ 0 0 [] rfl (by simp) ad ys.length c (nums k ys) (by simp [nums]) hcells (by omega) (by simp only [maxLen]; omega) (by simpa using hl)
    have r1' : w'.ownsRow W.heap.size e 1 v' ys.length (nums k ys) := by simpa using r1
    obtain ⟨A', c', rfl⟩ := own_slice r1'
    exact ⟨A', c', w', hrun, (Below.refl _ _).grown r2 (Nat.le_refl _) (by simp), F_of_own (enc := Value.int k) (h1 := fun _ => rfl) (by simpa [nums] using r1'), own_le r1'⟩
theorem step_append_fresh {P : Program} {ops : Array Oper} {o : Oper} {a : Act} {W : World} {K : Act → World → Prop} {Q : Exit → Act → World → Prop} {E : Prop} (hg : o.guard = none) (s x : Operand) (t e : TypeId) (k : IntKind) (bytes : Nat)
    (ho : o.op = .call { callee := .builtin .append, args := #[s, x], argTypes := #[t, t] })
    (ht : P.underlying t = some (.slice e)) (hinfo : (P.info? e).map (fun i => (i.zero, i.size, i.bytes)) = some (some (.int k 0), 1, bytes)) (hb0 : 0 < bytes)
    (g : Nat) (ys : List Int) (A : Option Addr) (c : Nat) (hs : a.eval s = .slice (some ⟨g, 0, none⟩) 0 0) (hx : a.eval x = .slice A ys.length c) (HR : ReadsInt W k A ys.length ys) (hl : ys.length * bytes ≤ 140737488355328)
    (h : ∀ A' c' w1, Below W.heap.size W w1 → Kd.F (Kd.int k) w1 (fun j => W.heap.size ≤ j) A' ys.length ys → ys.length ≤ c' → K (a.put o.dst (.slice A' ys.length c')) w1) :
    if Region.wanted o (yielded ops a.tmps) = true then Oper.wp P o a W K Q else E := by
  have hw : Region.wanted o (yielded ops a.tmps) = true := by simp [Region.wanted, hg]
  rw [if_pos hw]
  obtain ⟨A', c', w1, hr, hb, hC, hc⟩ := run_append_fresh (P := P) (W := W) t o.type e k bytes ht hinfo hb0 g ys A c HR hl
  unfold Oper.wp execOp
  simp only [ho, resolve, invoke, builtin, Sem.run_bind, Sem.run_pure, Result.andThen_ok, List.map_toArray, List.map_cons, List.map_nil, hs, hx, hr]
  exact h A' c' w1 hb hC hc
def KeptW (w W : World) : Prop := Below w.heap.size w W
theorem KeptW.refl (w : World) : KeptW w w := Below.refl _ _
theorem KeptW.alloc {w W : World} (h : KeptW w W) (o : Obj) : KeptW w (W.alloc o) := (show Below w.heap.size w W from h).alloc (show Below w.heap.size w W from h).size _
theorem KeptW.drew {w W : World} (h : KeptW w W) : KeptW w W.drew := by
  have h : Below w.heap.size w W := h
  exact (show Below w.heap.size w W.drew from ⟨h.os, h.tape, h.output, h.size, h.block⟩)
theorem KeptW.trans {w W W' : World} (h : KeptW w W) (hb : Below W.heap.size W W') : KeptW w W' := (show Below w.heap.size w W from h).trans (hb.mono (show Below w.heap.size w W from h).size)
theorem reads_of_C {W : World} {k : IntKind} {A : Option Addr} {n : Nat} {xs : List Int} (h : Kd.C (Kd.int k) W A n xs) : ReadsInt W k A n xs := by
  refine ⟨h.1, h.2.1, fun h0 => ?_⟩
  obtain ⟨ad, rfl, hc⟩ := h.2.2 h0
  refine ⟨ad, rfl, fun j hj => ?_⟩
  have hj' : j < xs.length := by have := h.1; omega
  obtain ⟨c, _, hR, hu⟩ := hc j _ (List.getElem?_eq_getElem hj')
  have hR' : c = [.int k xs[j]] := hR
  have := hu 0 _ (by rw [hR']; rfl)
  rw [List.getD_eq_getElem?_getD, List.getElem?_eq_getElem hj']
  simpa [Kd.int, Kd.scalar] using this
theorem C_of_reads {W : World} {k : IntKind} {A : Option Addr} {n : Nat} {xs : List Int} (h : ReadsInt W k A n xs) : Kd.C (Kd.int k) W A n xs := by
  refine ⟨h.1, h.2.1, fun h0 => ?_⟩
  obtain ⟨ad, rfl, hc⟩ := h.2.2 h0
  refine ⟨ad, rfl, fun j p hj => ⟨[.int k p], rfl, rfl, fun i u hu => ?_⟩⟩
  cases i with
  | zero =>
    simp at hu
    subst hu
    have hj' : j < xs.length := (List.getElem?_eq_some_iff.1 hj).1
    have := hc j (by have := h.1; omega)
    rw [List.getD_eq_getElem?_getD, hj] at this
    simpa [Kd.int, Kd.scalar] using this
  | succ i => simp at hu
theorem cell_alloc_eq {W : World} {a : Addr} {x : Value} (h : W.cell? a = some x) (o : Obj) : (W.alloc o).cell? a = some x := (World.cell?_alloc_some W a o (by rw [h]; rfl)).trans h
theorem held_alloc {w W : World} {a b : Addr} {x y : Value} (h : W.cell? a = some x ∧ W.cell? b = some y ∧ KeptW w W) (o : Obj) : (W.alloc o).cell? a = some x ∧ (W.alloc o).cell? b = some y ∧ KeptW w (W.alloc o) :=
  ⟨cell_alloc_eq h.1 o, cell_alloc_eq h.2.1 o, h.2.2.alloc o⟩
theorem held_set {w W : World} {a b : Addr} {x y : Value} (h : W.cell? a = some x ∧ W.cell? b = some y ∧ KeptW w W) (p : Addr) (u : Value) (hp : w.heap.size ≤ p.block) (ha : a.block ≠ p.block) (hb : b.block ≠ p.block) : (W.setCell p u).cell? a = some x ∧ (W.setCell p u).cell? b = some y ∧ KeptW w (W.setCell p u) :=
  ⟨(World.cell?_of_block (w := W) (Below.heap_setCell W p u _ ha)).trans h.1, (World.cell?_of_block (w := W) (Below.heap_setCell W p u _ hb)).trans h.2.1, show Below w.heap.size w (W.setCell p u) from (show Below w.heap.size w W from h.2.2).setCell hp u⟩
theorem held_drew {w W : World} {a b : Addr} {x y : Value} (h : W.cell? a = some x ∧ W.cell? b = some y ∧ KeptW w W) : W.drew.cell? a = some x ∧ W.drew.cell? b = some y ∧ KeptW w W.drew := ⟨h.1, h.2.1, h.2.2.drew⟩
theorem held_next {w W W' : World} {a b : Addr} {x y : Value} (h : W.cell? a = some x ∧ W.cell? b = some y ∧ KeptW w W) (hb : Below W.heap.size W W') : W'.cell? a = some x ∧ W'.cell? b = some y ∧ KeptW w W' :=
  ⟨(hb.cell (World.block_lt_of_cell? W _ h.1)).trans h.1, (hb.cell (World.block_lt_of_cell? W _ h.2.1)).trans h.2.1, h.2.2.trans hb⟩
theorem heap_drew_get (W : World) (k : Nat) : W.drew.heap[k]? = W.heap[k]? := rfl
theorem own_size_drew (W : World) : W.drew.heap.size = W.heap.size := rfl
theorem own_size_alloc (W : World) (o : Obj) : (W.alloc o).heap.size = W.heap.size + 1 := by simp
theorem heap_alloc_get (W : World) (o : Obj) (k : Nat) : (W.alloc o).heap[k]? = if k = W.heap.size then some o else W.heap[k]? := by
  by_cases h : k = W.heap.size
  · subst h
    rw [if_pos rfl]
    exact World.alloc_heap_new W o
  · rw [if_neg h]
    by_cases hlt : k < W.heap.size
    · exact Below.heap_alloc W o k hlt
    · have h1 : (W.alloc o).heap.size = W.heap.size + 1 := own_size_alloc W o
      rw [Array.getElem?_eq_none (by omega), Array.getElem?_eq_none (by omega)]
def GetB (W : World) (k : Nat) (x : Obj) : Prop := W.heap[k]? = some x
theorem getB_drew (W : World) (k : Nat) (x : Obj) : GetB W.drew k x ↔ GetB W k x := Iff.rfl
theorem getB_alloc (W : World) (o : Obj) (k : Nat) (x : Obj) : GetB (W.alloc o) k x ↔ if k = W.heap.size then o = x else GetB W k x := by
  unfold GetB
  rw [heap_alloc_get]
  split <;> simp
theorem ne_add2 (n : Nat) : (n = n + 1 + 1) = False := by simp only [eq_iff_iff, iff_false]; omega
theorem box_in {W v : World} (h : Below W.heap.size W v) (B : Nat) (hB : GetB W B (.cells #[.slice none 0 0, .slice none 0 0] 24 (0, 0))) : BoxN v B 24 [.slice none 0 0, .slice none 0 0] :=
  (show BoxN W B 24 [.slice none 0 0, .slice none 0 0] from hB).below h (Array.getElem?_eq_some_iff.1 hB).1
theorem own_fin {α : Type} {d : Kd α} {v v1 W' : World} {ok : Nat → Prop} {A : Option Addr} {n : Nat} {xs : List α} (hC : Kd.F d v ok A n xs) (hv : Below v.heap.size v v1) (h : ∀ k, ok k → k < v.heap.size → W'.heap[k]? = v1.heap[k]?) : Kd.C d W' A n xs :=
  hC W' (fun k a b => (h k a b).trans (hv.block k b))
theorem heap_set2 {W : World} {B i j k : Nat} {u x : Value} (h : k ≠ B) : ((W.setCell ⟨B, i, none⟩ u).setCell ⟨B, j, none⟩ x).heap[k]? = W.heap[k]? :=
  (Below.heap_setCell _ ⟨B, j, none⟩ x k h).trans (Below.heap_setCell _ ⟨B, i, none⟩ u k h)
theorem KeptW.set2 {w W : World} {B i j : Nat} {u x : Value} (h : KeptW w W) (hB : w.heap.size ≤ B) : KeptW w ((W.setCell ⟨B, i, none⟩ u).setCell ⟨B, j, none⟩ x) :=
  ((show Below w.heap.size w W from h).setCell (p := ⟨B, i, none⟩) hB u).setCell (p := ⟨B, j, none⟩) hB x
/-- Both rows hold a 7 at i. -/
theorem two_sevens {W : World} {base n ca da i : Nat} {A B : Option Addr} {out : List (Int × Int)} (h : Two W base (.slice A n ca) (.slice B n da) out) (hn : out.length = n) (hi : i < n) :
    ∃ g g', A = some ⟨g, 0, none⟩ ∧ B = some ⟨g', 0, none⟩ ∧ g ≠ g' ∧ base ≤ g ∧ g < W.heap.size ∧ base ≤ g' ∧ g' < W.heap.size ∧ (∃ x, W.cell? ⟨g, i, none⟩ = some x) ∧ W.frozen? ⟨g, i, none⟩ = false ∧ (∃ x, W.cell? ⟨g', i, none⟩ = some x) ∧ W.frozen? ⟨g', i, none⟩ = false ∧
      ∃ out' : List (Int × Int), out'.length = n ∧ Two ((W.setCell ⟨g, i, none⟩ (.int .i64 7)).setCell ⟨g', i, none⟩ (.int .i64 7)) base (.slice A n ca) (.slice B n da) out' := by
  subst hn
  obtain ⟨g, cg, e1, hg1, hg2⟩ := h.a.form (by omega)
  obtain ⟨g', cg', e2, hg1', hg2'⟩ := h.n.form (by omega)
  cases e1
  cases e2
  have hne : g ≠ g' := fun e => h.ne g (by simp [Value.ownBlock]) (by simp [Value.ownBlock, e])
  have ha : W.ownsRow base 2 1 (.slice (some ⟨g, 0, none⟩) (out.map (·.1)).length ca) (out.map (·.1)).length (nums .i64 (out.map (·.1))) := by rw [List.length_map]; exact h.a
  have hb : W.ownsRow base 2 1 (.slice (some ⟨g', 0, none⟩) (out.map (·.2)).length da) (out.map (·.2)).length (nums .i64 (out.map (·.2))) := by rw [List.length_map]; exact h.n
  have pa := own_put ha (i : Int) 7
  have pb := own_put hb (i : Int) 7
  rw [Int.toNat_natCast] at pa pb
  refine ⟨g, g', rfl, rfl, hne, hg1, hg2, hg1', hg2', ?_, h.a.frozenAt i, ?_, h.n.frozenAt i, out.set i (7, 7), by simp, ?_⟩
  · rw [h.a.cellAt i (by omega)]
    exact ⟨_, List.getElem?_eq_getElem (by rw [nums_length, List.length_map]; exact hi)⟩
  · rw [h.n.cellAt i (by omega)]
    exact ⟨_, List.getElem?_eq_getElem (by rw [nums_length, List.length_map]; exact hi)⟩
  · have ea : (out.set i (7, 7)).map (·.1) = (out.map (·.1)).set i 7 := by rw [List.map_set]
    have eb : (out.set i (7, 7)).map (·.2) = (out.map (·.2)).set i 7 := by rw [List.map_set]
    refine ⟨?_, ?_, h.ne⟩
    · rw [ea]
      have := ownsRow_setCell_other pa (a := ⟨g', i, none⟩) (fun e => hne (by simpa [Value.ownBlock] using e)) (.int .i64 7)
      simpa using this
    · rw [eb]
      have hb' := ownsRow_setCell_other hb (a := ⟨g, i, none⟩) (fun e => hne (by simpa [Value.ownBlock] using e.symm)) (.int .i64 7)
      have pb' := own_put hb' (i : Int) 7
      rw [Int.toNat_natCast] at pb'
      simpa using pb'
theorem held2_drew {W : World} {a b : Addr} {x y : Value} (h : W.cell? a = some x ∧ W.cell? b = some y) : W.drew.cell? a = some x ∧ W.drew.cell? b = some y := h
theorem held2_set {W : World} {a b : Addr} {x y : Value} (h : W.cell? a = some x ∧ W.cell? b = some y) (p : Addr) (u : Value) (ha : a.block ≠ p.block) (hb : b.block ≠ p.block) : (W.setCell p u).cell? a = some x ∧ (W.setCell p u).cell? b = some y :=
  ⟨(World.cell?_of_block (w := W) (Below.heap_setCell W p u _ ha)).trans h.1, (World.cell?_of_block (w := W) (Below.heap_setCell W p u _ hb)).trans h.2⟩
theorem own_maxLen {W : World} {base n size : Nat} {e : TypeId} {v : Value} {xs : List Value} (h : W.ownsRow base e size v n xs) : n ≤ 9223372036854775807 := by
  have hm : maxLen ≤ 9223372036854775807 := by decide
  rcases h.2 with ⟨_, h0⟩ | ⟨g, cap, cur, rfl, hg, hh, h1, h2, _⟩ <;> omega
theorem KeptW.reads {w W : World} {k : IntKind} {A : Option Addr} {n m : Nat} {xs : List Int} (h : KeptW w W) (hr : Aside0 (Kd.C (Kd.int k) w A n xs)) (hn : n = m) : ReadsInt W k A m xs := hn ▸ reads_of_C (Kd.C_below hr.out h)
theorem great_len {a n : List Int} (h : forebayref04_Great.f a n = some false) : a.length ≤ 60 ∧ n.length ≤ 60 := by
  unfold forebayref04_Great.f at h
  split at h
  · cases h
  · have := of_decide_eq_false (Option.some.inj h)
    omega
theorem forebaylaw04_StepsOwn.mono : ∀ a0 a1 a2 a3 a4 k, LeO (forebaylaw04_StepsOwn.f k a0 a1 a2 a3 a4) (forebaylaw04_StepsOwn.f (k + 1) a0 a1 a2 a3 a4) := by
  intro a0 a1 a2 a3 a4 k r h
  unfold forebaylaw04_StepsOwn.f at h ⊢
  by_cases hk : OwnOk k a0 a1 a2 a3 a4
  · rw [@if_pos _ (Classical.propDecidable _) hk] at h
    rw [@if_pos _ (Classical.propDecidable _) { hk with
      hd := forebaylaw04_head.mono _ _ hk.hd
      take := fun hg => by obtain ⟨r1, r2, r3, e⟩ := hk.take hg; exact ⟨r1, r2, r3, steps_Take.mono _ _ _ _ _ _ _ e⟩
      give := fun hg => by obtain ⟨r1, r2, r3, e⟩ := hk.give hg; exact ⟨r1, r2, r3, steps_Give.mono _ _ _ _ _ _ _ e⟩
      eq := fun hg => forebayref04_Equal.mono _ _ _ _ _ _ (hk.eq hg) }]
    exact h
  · rw [@if_neg _ (Classical.propDecidable _) hk] at h; cases h
set_option maxHeartbeats 4000000 in
set_option maxRecDepth 100000 in
theorem forebaylaw04_StepsOwn.calls (k : Nat) (A0_0 : Option Addr) (c0_0 : Nat) (l0_0 : List Int) (A0_1 : Option Addr) (c0_1 : Nat) (l0_1 : List Int) (a1_0 : Int) (a1_1 : Int) (a1_2 : Int) (r : Bool) (w : World) (hr0_0 : Kd.C (Kd.int .i64) w A0_0 l0_0.length l0_0) (hc0_0 : l0_0.length ≤ c0_0) (hr0_1 : Kd.C (Kd.int .i64) w A0_1 l0_1.length l0_1) (hc0_1 : l0_1.length ≤ c0_1) (h : forebaylaw04_StepsOwn.f k l0_0 l0_1 a1_0 a1_1 a1_2 = some r) :
    Calls Try.prog 4 #[.agg #[.slice A0_0 l0_0.length c0_0, .slice A0_1 l0_1.length c0_1], .agg #[.int .i64 a1_0, .int .i64 a1_1, .int .i64 a1_2]] w fun e w' => e = .returned (.bool r) ∧ Below w.heap.size w w' := by
  have hu24 := Try.underlying24
  have HR0 := Aside0.mk hr0_0
  have HR1 := Aside0.mk hr0_1
  have HC0 := Aside0.mk hc0_0
  have HC1 := Aside0.mk hc0_1
  clear hr0_0 hr0_1 hc0_0 hc0_1
  unfold forebaylaw04_StepsOwn.f at h
  by_cases hk : OwnOk k l0_0 l0_1 a1_0 a1_1 a1_2
  case neg => rw [@if_neg _ (Classical.propDecidable _) hk] at h; cases h
  rw [@if_pos _ (Classical.propDecidable _) hk] at h
  obtain rfl := Option.some.inj h
  clear h
  have hhd := Aside0.mk hk.hd
  obtain ⟨g, hg⟩ := hk.great
  replace hk := Aside0.mk hk
  obtain ⟨H, hH⟩ : ∃ H, w.heap.size = H := ⟨_, rfl⟩
  cases g with
  | true =>
    replace hg := Aside0.mk hg
    go_enter Try.func4, Try.ntmps4
    go_wp2_with (first | (go_at_call 8; with_reducible refine (forebayref04_Great.calls _ _ l0_0 _ _ l0_1 _ _ (Kd.C_below (Kd.C_below HR0.out ((Below.refl _ _).alloc (Nat.le_refl _) _)) ((Below.refl _ _).alloc (Nat.le_refl _) _)) HC0.out (Kd.C_below (Kd.C_below HR1.out ((Below.refl _ _).alloc (Nat.le_refl _) _)) ((Below.refl _ _).alloc (Nat.le_refl _) _)) HC1.out hg.out).mono ?_; rintro e w1 ⟨rfl, hb1⟩; replace hb1 := Aside0.mk hb1) | (go_at_call 10; with_reducible refine (forebaylaw04_head.calls _ _ _ hhd.out).mono ?_; rintro e w2 ⟨rfl, hb2⟩; replace hb2 := Aside0.mk hb2))
    go_ret
    refine ⟨rfl, ?_⟩
    have h1 : Below w.heap.size w w1 := (((Below.refl w.heap.size w).alloc (Nat.le_refl _) _).alloc (by simp) _).trans (hb1.out.mono (by simp; omega))
    exact h1.trans (hb2.out.mono h1.size)
  | false =>
    obtain ⟨t1, t2, t3, ht⟩ := hk.out.take hg
    obtain ⟨g1, g2, g3, hgv⟩ := hk.out.give hg
    have heq := Aside0.mk (hk.out.eq hg)
    replace hg := Aside0.mk hg
    replace ht := Aside0.mk ht
    replace hgv := Aside0.mk hgv
    clear hk
    go_enter Try.func4, Try.ntmps4
    go_upto_region 3 with (go_at_call 8; with_reducible refine (forebayref04_Great.calls _ _ l0_0 _ _ l0_1 _ _ (Kd.C_below (Kd.C_below HR0.out ((Below.refl _ _).alloc (Nat.le_refl _) _)) ((Below.refl _ _).alloc (Nat.le_refl _) _)) HC0.out (Kd.C_below (Kd.C_below HR1.out ((Below.refl _ _).alloc (Nat.le_refl _) _)) ((Below.refl _ _).alloc (Nat.le_refl _) _)) HC1.out hg.out).mono ?_; rintro e w1 ⟨rfl, hb1⟩; replace hb1 := Aside0.mk hb1)
    have hl := great_len hg.out
    have hl0 := Aside0.mk (show l0_0.length * 8 ≤ 140737488355328 by omega)
    have hl1 := Aside0.mk (show l0_1.length * 8 ≤ 140737488355328 by omega)
    clear hl
    have hu22 := Aside0.mk Try.underlying22
    have hinfo2 : Aside0 ((Try.prog.info? 2).map (fun i => (i.zero, i.size, i.bytes)) = some (some (.int .i64 0), 1, 8)) := ⟨by kernel_rfl⟩
    have hx := ((BoxN.new w 24 [.slice A0_0 l0_0.length c0_0, .slice A0_1 l0_1.length c0_1]).alloc (.cells #[.int .i64 a1_0, .int .i64 a1_1, .int .i64 a1_2] 35)).below hb1.out (by simp; omega)
    have hk1 : KeptW w w1 := (((Below.refl w.heap.size w).alloc (Nat.le_refl _) _).alloc (by simp) _).trans (hb1.out.mono (by simp; omega))
    rw [hH] at hx
    have hx0 := hx.cell 0 rfl
    have hx1 := hx.cell 1 rfl
    replace hx := Aside0.mk hx
    have hws : H < w1.heap.size := World.block_lt_of_cell? w1 _ hx0
    have hwin := (BoxN.new (w.alloc (.cells #[.slice A0_0 l0_0.length c0_0, .slice A0_1 l0_1.length c0_1] 24)) 35 [.int .i64 a1_0, .int .i64 a1_1, .int .i64 a1_2]).below hb1.out (by simp)
    rw [World.size_alloc, hH] at hwin
    replace hwin := Aside0.mk hwin
    go_cut [5] (fun v5 wc => ∃ (B : Nat) (A A' : Option Addr) (c c' : Nat), v5 = .pointer (some ⟨B, 0, none⟩) ∧ Aside0 (BoxN wc B 24 [.slice A l0_0.length c, .slice A' l0_1.length c']) ∧ Aside0 (Kd.C (Kd.int .i64) wc A l0_0.length l0_0) ∧ Aside0 (Kd.C (Kd.int .i64) wc A' l0_1.length l0_1) ∧ l0_0.length ≤ c ∧ l0_1.length ≤ c' ∧ KeptW w1 wc)
    case first =>
      have h0 := And.intro hx0 (And.intro hx1 hk1)
      go_region_held3 (fun w' => w'.cell? ⟨H, 0, none⟩ = some (.slice A0_0 l0_0.length c0_0) ∧ w'.cell? ⟨H, 1, none⟩ = some (.slice A0_1 l0_1.length c0_1) ∧ KeptW w w') (((repeat (first | assumption | refine held_drew ?_ | refine held_alloc ?_ _ | refine held_next ?_ (by assumption) | refine held_set ?_ _ _ (by dsimp only; omega) (by dsimp only; omega) (by dsimp only; omega))); done))
        (first | (refine step_append_fresh rfl (.tmp 15) (.tmp 17) 22 2 .i64 8 rfl hu22.out hinfo2.out (by decide) _ l0_0 A0_0 c0_0 rfl rfl (KeptW.reads ‹_ ∧ _ ∧ KeptW w _›.2.2 HR0 rfl) hl0.out ?_; intro A0' cc0 v0 hv0 hC0 hcc0; have hvs0 : H < v0.heap.size := World.block_lt_of_cell? v0 _ (held_next ‹_ ∧ _ ∧ KeptW w _› hv0).1; have hkv0 := Aside0.mk (held_next ‹_ ∧ _ ∧ KeptW w _› hv0).2.2; have hq0 := box_in hv0 (w1.heap.size); (try simp [getB_drew, getB_alloc, ne_add2] at hq0); (try (have hq0a := hq0.cell 0 rfl; have hq0b := hq0.cell 1 rfl; have hq0f := hq0.frozen 0; have hq0g := hq0.frozen 1)); have hq1 := box_in hv0 (w1.heap.size + 1); (try simp [getB_drew, getB_alloc, ne_add2] at hq1); (try (have hq1a := hq1.cell 0 rfl; have hq1b := hq1.cell 1 rfl; have hq1f := hq1.frozen 0; have hq1g := hq1.frozen 1)); have hq2 := box_in hv0 (w1.heap.size + 2); (try simp [getB_drew, getB_alloc, ne_add2] at hq2); (try (have hq2a := hq2.cell 0 rfl; have hq2b := hq2.cell 1 rfl; have hq2f := hq2.frozen 0; have hq2g := hq2.frozen 1))) | (refine step_append_fresh rfl (.tmp 19) (.tmp 21) 22 2 .i64 8 rfl hu22.out hinfo2.out (by decide) _ l0_1 A0_1 c0_1 rfl rfl (KeptW.reads ‹_ ∧ _ ∧ KeptW w _›.2.2 HR1 rfl) hl1.out ?_; intro A1' cc1 v1 hv1 hC1 hcc1; have hvs1 : H < v1.heap.size := World.block_lt_of_cell? v1 _ (held_next ‹_ ∧ _ ∧ KeptW w _› hv1).1; have hkv1 := Aside0.mk (held_next ‹_ ∧ _ ∧ KeptW w _› hv1).2.2; (first | (have hr0 := box_in hv1 _ hq0; clear hq0) | (have hr0 := box_in hv1 _ (BoxN.alloc hq0 _); clear hq0) | (have hr0 := box_in hv1 _ (BoxN.alloc (BoxN.alloc hq0 _) _); clear hq0) | skip); (try (have hr0a := hr0.cell 0 rfl; have hr0b := hr0.cell 1 rfl; have hr0f := hr0.frozen 0; have hr0g := hr0.frozen 1)); (first | (have hr1 := box_in hv1 _ hq1; clear hq1) | (have hr1 := box_in hv1 _ (BoxN.alloc hq1 _); clear hq1) | (have hr1 := box_in hv1 _ (BoxN.alloc (BoxN.alloc hq1 _) _); clear hq1) | skip); (try (have hr1a := hr1.cell 0 rfl; have hr1b := hr1.cell 1 rfl; have hr1f := hr1.frozen 0; have hr1g := hr1.frozen 1)); (first | (have hr2 := box_in hv1 _ hq2; clear hq2) | (have hr2 := box_in hv1 _ (BoxN.alloc hq2 _); clear hq2) | (have hr2 := box_in hv1 _ (BoxN.alloc (BoxN.alloc hq2 _) _); clear hq2) | skip); (try (have hr2a := hr2.cell 0 rfl; have hr2b := hr2.cell 1 rfl; have hr2f := hr2.frozen 0; have hr2g := hr2.frozen 1)); have hs0 := box_in hv1 (v0.heap.size); (try simp [getB_drew, getB_alloc, ne_add2] at hs0); (try (have hs0a := hs0.cell 0 rfl; have hs0b := hs0.cell 1 rfl; have hs0f := hs0.frozen 0; have hs0g := hs0.frozen 1)); have hs1 := box_in hv1 (v0.heap.size + 1); (try simp [getB_drew, getB_alloc, ne_add2] at hs1); (try (have hs1a := hs1.cell 0 rfl; have hs1b := hs1.cell 1 rfl; have hs1f := hs1.frozen 0; have hs1g := hs1.frozen 1))))
      all_goals go_wp2
      all_goals go_meet
      all_goals (
        have e0 := hv0.size
        have e1 := hv1.size
        try simp only [own_size_drew, own_size_alloc] at e0
        try simp only [own_size_drew, own_size_alloc] at e1
        have hv1b : KeptW v0 v1 := by
          refine KeptW.trans ?_ hv1
          repeat (first | exact KeptW.refl _ | refine KeptW.drew ?_ | refine KeptW.alloc ?_ _)
        have hv1c : KeptW w1 v1 := by
          refine KeptW.trans ?_ hv1b
          refine KeptW.trans ?_ hv0
          repeat (first | exact KeptW.refl _ | refine KeptW.drew ?_ | refine KeptW.alloc ?_ _)
        refine ⟨_, A0', A1', cc0, cc1, rfl, ⟨?_⟩, ⟨own_fin hC0 (hv1b) ?_⟩, ⟨own_fin hC1 (Below.refl _ _) ?_⟩, hcc0, hcc1, ?_⟩
        · first
            | exact BoxN.new _ _ _
            | exact (hr0.set 0 _).set 1 _
            | exact (hr1.set 0 _).set 1 _
            | exact (hr2.set 0 _).set 1 _
            | exact (hs0.set 0 _).set 1 _
            | exact (hs1.set 0 _).set 1 _
        · intro k_ h1 h2
          try simp only [own_size_drew, own_size_alloc] at h1
          first
            | exact Below.heap_alloc _ _ _ (by omega)
            | exact heap_set2 (by omega)
        · intro k_ h1 h2
          try simp only [own_size_drew, own_size_alloc] at h1
          first
            | exact Below.heap_alloc _ _ _ (by omega)
            | exact heap_set2 (by omega)
        · first
            | exact KeptW.alloc hv1c _
            | exact KeptW.set2 hv1c (by omega))
    case rest =>
      obtain ⟨B, A, A', c, c', rfl, hbox, hCa, hCn, hca, hcn, hkw⟩ := hcut
      have hkb : Below w1.heap.size w1 wc := hkw
      have hxc := hx.out.below hkb hws
      have hwc := hwin.out.below hkb (World.block_lt_of_cell? w1 _ (hwin.out.cell 0 rfl))
      have hd0 := hxc.cell 0 rfl
      have hd1 := hxc.cell 1 rfl
      have hn0 := hwc.cell 0 rfl
      have hn1 := hwc.cell 1 rfl
      have hn2 := hwc.cell 2 rfl
      have HCa := Aside0.mk (Kd.C_below (Kd.C_below HR0.out hk1) hkb)
      have HCn := Aside0.mk (Kd.C_below (Kd.C_below HR1.out hk1) hkb)
      replace hk1 := Aside0.mk hk1
      replace hkb := Aside0.mk (show Below H w wc from hH ▸ ((show Below w.heap.size w w1 from hk1.out).trans (hkb.mono (show Below w.heap.size w w1 from hk1.out).size)))
      replace hxc := Aside0.mk hxc
      replace hwc := Aside0.mk hwc
      replace hbox := Aside0.mk (And.intro hbox.out (World.block_lt_of_cell? wc _ (hbox.out.cell 0 rfl)))
      clear hx0 hx1 hx hwin hkw hws hb1 hu22 hinfo2 hl0 hl1 HR0 HR1
      obtain ⟨Hc, hHc⟩ : ∃ Hc, wc.heap.size = Hc := ⟨_, rfl⟩
      go_upto_block 0 with (first
        | (go_at_call 13; (with_reducible refine (steps_Take_own k A0_0 c0_0 l0_0 A0_1 c0_1 l0_1 _ _ _ t1 t2 t3 _ HCa.out HC0.out HCn.out HC1.out ht.out).mono ?_); rintro e w2 ⟨hb2, out, Aa, ca, Ba, da, rfl, -, -, -, -, hT⟩; have hxd := (hxc.out.below hb2 hxc.out.lt).alloc (.cells #[.slice Aa out.length out.length, .slice Ba out.length out.length] 24); have hwd := (hwc.out.below hb2 hwc.out.lt).alloc (.cells #[.slice Aa out.length out.length, .slice Ba out.length out.length] 24); have hd0' := hxd.cell 0 rfl; have hd1' := hxd.cell 1 rfl; have hn0' := hwd.cell 0 rfl; have hn1' := hwd.cell 1 rfl; have hn2' := hwd.cell 2 rfl; replace hb2 := Aside0.mk hb2; replace hT := Aside0.mk hT; replace hxd := Aside0.mk hxd; clear hwd)
        | (go_at_call 14; (with_reducible refine (steps_Give_own k A0_0 c0_0 l0_0 A0_1 c0_1 l0_1 _ _ _ g1 g2 g3 _ (Kd.C_below (Kd.C_below HCa.out hb2.out) ((Below.refl _ _).alloc (Nat.le_refl _) _)) HC0.out (Kd.C_below (Kd.C_below HCn.out hb2.out) ((Below.refl _ _).alloc (Nat.le_refl _) _)) HC1.out hgv.out).mono ?_); rintro e w3 ⟨hb3, out', Ab, cb, Bb, db, rfl, -, -, -, -, hT'⟩; replace hb3 := Aside0.mk hb3; replace hT' := Aside0.mk hT'))
      generalize hn : out.length = n at *
      generalize hm : out'.length = m at *
      have h6 : BoxN (w3.alloc (.cells #[.slice Ab m m, .slice Bb m m] 24)) w2.heap.size 24 [.slice Aa n n, .slice Ba n n] := ((BoxN.new w2 24 [.slice Aa n n, .slice Ba n n]).below hb3.out (by simp)).alloc _
      have h8 : BoxN (w3.alloc (.cells #[.slice Ab m m, .slice Bb m m] 24)) w3.heap.size 24 [.slice Ab m m, .slice Bb m m] := BoxN.new _ _ _
      have hTa : Two (w3.alloc (.cells #[.slice Ab m m, .slice Bb m m] 24)) Hc (.slice Aa n ca) (.slice Ba n da) out := (((hHc ▸ hT.out).alloc _).keeps (K := fun _ => True) (Keeps.of_below hb3.out (fun _ h _ => h)) (fun _ _ => trivial)).alloc _
      have hTb : Two (w3.alloc (.cells #[.slice Ab m m, .slice Bb m m] 24)) (w2.heap.size + 1) (.slice Ab m cb) (.slice Bb m db) out' := by
        have := hT'.out
        rw [World.size_alloc] at this
        exact this.alloc _
      have hB5 : Below wc.heap.size wc (w3.alloc (.cells #[.slice Ab m m, .slice Bb m m] 24)) :=
        ((hb2.out.alloc hb2.out.size _).trans (hb3.out.mono (by have := hb2.out.size; simp; omega))).alloc (by have := hb2.out.size; have h3 := hb3.out.size; simp at h3; omega) _
      have hs2 : Hc ≤ w2.heap.size := hHc ▸ hb2.out.size
      have hs3 : w2.heap.size + 1 ≤ w3.heap.size := by have h3 := hb3.out.size; simpa using h3
      have ha6 : ∀ k, (Value.slice Aa n ca).ownBlock = some k → Hc ≤ k ∧ k < w2.heap.size := fun k hk => ⟨(hTa.a.lt k hk).1, (hT.out.a.lt k hk).2⟩
      have hn6 : ∀ k, (Value.slice Ba n da).ownBlock = some k → Hc ≤ k ∧ k < w2.heap.size := fun k hk => ⟨(hTa.n.lt k hk).1, (hT.out.n.lt k hk).2⟩
      have ha8 : ∀ k, (Value.slice Ab m cb).ownBlock = some k → w2.heap.size + 1 ≤ k ∧ k < w3.heap.size := fun k hk => ⟨(hTb.a.lt k hk).1, (hT'.out.a.lt k hk).2⟩
      have hn8 : ∀ k, (Value.slice Bb m db).ownBlock = some k → w2.heap.size + 1 ≤ k ∧ k < w3.heap.size := fun k hk => ⟨(hTb.n.lt k hk).1, (hT'.out.n.lt k hk).2⟩
      clear hd0 hd1 hn0 hn1 hn2 hd0' hd1' hn0' hn1' hn2' hxd hT hT' hwc
      obtain ⟨W5, hW5⟩ : ∃ W5, w3.alloc (.cells #[.slice Ab m m, .slice Bb m m] 24) = W5 := ⟨_, rfl⟩
      rw [hW5] at h6 h8 hTa hTb hB5 ⊢
      clear hW5
      obtain ⟨b6, hb6⟩ : ∃ b6, w2.heap.size = b6 := ⟨_, rfl⟩
      obtain ⟨b8, hb8⟩ : ∃ b8, w3.heap.size = b8 := ⟨_, rfl⟩
      rw [hb6] at h6 hTb hs2 hs3 ha6 hn6 ⊢
      rw [hb8] at h8 hs3 ⊢
      simp only [hb6, hb8] at ha8 hn8
      clear hb6 hb8 hb2 hb3
      replace hTa := Aside0.mk (show ∃ xs : List (Int × Int), xs.length = n ∧ Two W5 Hc (.slice Aa n ca) (.slice Ba n da) xs from ⟨out, hn, hTa⟩)
      replace hTb := Aside0.mk (show ∃ xs : List (Int × Int), xs.length = m ∧ Two W5 (b6 + 1) (.slice Ab m cb) (.slice Bb m db) xs from ⟨out', hm, hTb⟩)
      clear hn hm
      clear out out'
      replace h6 := Aside0.mk h6
      replace h8 := Aside0.mk h8
      replace hB5 := Aside0.mk hB5
      replace ha6 := Aside0.mk ha6
      replace hn6 := Aside0.mk hn6
      replace ha8 := Aside0.mk ha8
      replace hn8 := Aside0.mk hn8
      have hmaxn : n ≤ 9223372036854775807 := by
        obtain ⟨xs, rfl, h⟩ := hTa.out
        exact own_maxLen h.a
      have hmaxm : m ≤ 9223372036854775807 := by
        obtain ⟨xs, rfl, h⟩ := hTb.out
        exact own_maxLen h.a
      go_wp2
      go_loopg [10] n (fun kq v10 W => ∃ i : Nat, v10 = .int .i64 i ∧ Aside0 (kq + i = n) ∧ Aside0 (∃ xs : List (Int × Int), xs.length = n ∧ Two W Hc (.slice Aa n ca) (.slice Ba n da) xs) ∧ Aside0 (Keeps (fun k => (Value.slice Aa n ca).ownBlock ≠ some k ∧ (Value.slice Ba n da).ownBlock ≠ some k) W5 W))
      case atStart => exact ⟨0, rfl, ⟨rfl⟩, hTa, ⟨Keeps.refl _ _⟩⟩
      case round =>
        clear hTa
        obtain ⟨i, rfl, HK, HT, HP⟩ := hrel
        have h6W := HP.out.boxN h6.out ⟨fun e => by have := ha6.out _ e; omega, fun e => by have := hn6.out _ e; omega⟩
        have hc0 := h6W.cell 0 rfl
        have hc1 := h6W.cell 1 rfl
        replace h6W := Aside0.mk h6W
        cases gk with
        | zero =>
          have e : i = n := by have := HK.out; omega
          subst e
          go_upto_block 2 with fail
          have h8W := HP.out.boxN h8.out ⟨fun e => by have := ha6.out _ e; omega, fun e => by have := hn6.out _ e; omega⟩
          have hTbW : ∃ xs : List (Int × Int), xs.length = m ∧ Two wr (b6 + 1) (.slice Ab m cb) (.slice Bb m db) xs := by
            obtain ⟨xs, hxs, hT⟩ := hTb.out
            refine ⟨xs, hxs, hT.keeps HP.out (fun q hq => ⟨fun e => by have := ha6.out _ e; omega, fun e => by have := hn6.out _ e; omega⟩)⟩
          have hBW : Below wc.heap.size wc wr := hB5.out.trans (HP.out.below hB5.out.size (fun q hq => ⟨fun e => by have := ha6.out _ e; omega, fun e => by have := hn6.out _ e; omega⟩))
          replace h8W := Aside0.mk h8W
          replace hTbW := Aside0.mk hTbW
          replace hBW := Aside0.mk hBW
          clear hc0 hc1 h6W HT HK HP hTb h8 h6 hB5 ha6 hn6
          go_wp2
          go_loopg [11] m (fun kq v11 W => ∃ j : Nat, v11 = .int .i64 j ∧ Aside0 (kq + j = m) ∧ Aside0 (∃ xs : List (Int × Int), xs.length = m ∧ Two W (b6 + 1) (.slice Ab m cb) (.slice Bb m db) xs) ∧ Aside0 (Keeps (fun k => (Value.slice Ab m cb).ownBlock ≠ some k ∧ (Value.slice Bb m db).ownBlock ≠ some k) wr W))
          case atStart => exact ⟨0, rfl, ⟨rfl⟩, hTbW, ⟨Keeps.refl _ _⟩⟩
          case round =>
            clear hTbW
            obtain ⟨j, rfl, HK, HT, HP⟩ := hrel
            have h8X := HP.out.boxN h8W.out ⟨fun e => by have := ha8.out _ e; omega, fun e => by have := hn8.out _ e; omega⟩
            have hc0 := h8X.cell 0 rfl
            have hc1 := h8X.cell 1 rfl
            replace h8X := Aside0.mk h8X
            cases gk with
            | zero =>
              have e : j = m := by have := HK.out; omega
              subst e
              have hBX := hBW.out.trans (HP.out.below hBW.out.size (fun q hq => ⟨fun e => by have := ha8.out _ e; omega, fun e => by have := hn8.out _ e; omega⟩))
              have hy := hxc.out.below hBX hxc.out.lt
              have hz := hbox.out.1.below hBX hbox.out.2
              have hy0 := hy.cell 0 rfl
              have hy1 := hy.cell 1 rfl
              have hz0 := hz.cell 0 rfl
              have hz1 := hz.cell 1 rfl
              replace hBX := Aside0.mk hBX
              clear hy hz h8X HT HK HP hBW h8W ha8 hn8
              have HE0 := Aside0.mk (Kd.C_below HCa.out hBX.out)
              have HE1 := Aside0.mk (Kd.C_below HCn.out hBX.out)
              have HE2 := Aside0.mk (Kd.C_below hCa.out hBX.out)
              have HE3 := Aside0.mk (Kd.C_below hCn.out hBX.out)
              clear HCa HCn hCa hCn
              replace hca := Aside0.mk hca
              replace hcn := Aside0.mk hcn
              go_wp2_with (first
                | (go_at_call 15; (with_reducible refine (forebayref04_Equal.calls k A0_0 c0_0 l0_0 A0_1 c0_1 l0_1 A c l0_0 A' c' l0_1 true _ HE0.out HC0.out HE1.out HC1.out HE2.out hca.out HE3.out hcn.out heq.out).mono ?_); rintro e w7 ⟨rfl, hb7⟩; replace hb7 := Aside0.mk hb7)
                | (go_at_call 10; (with_reducible refine (forebaylaw04_head.calls k true _ hhd.out).mono ?_); rintro e w8 ⟨rfl, hb8⟩; replace hb8 := Aside0.mk hb8))
              go_ret
              refine ⟨rfl, ?_⟩
              have p1 : Below w.heap.size w wr := hH.symm ▸ hkb.out.trans (hBX.out.mono (by have := hkb.out.size; omega))
              have p2 := p1.trans (hb7.out.mono p1.size)
              exact p2.trans (hb8.out.mono p2.size)
            | succ k1 =>
              have hlt : j < m := by have := HK.out; omega
              obtain ⟨xs, hxs, hT⟩ := HT.out
              obtain ⟨g, g', rfl, rfl, hne, hg1, hg2, hg1', hg2', ⟨x, hx⟩, hfx, ⟨y, hy⟩, hfy, hT2⟩ := two_sevens hT hxs hlt
              have hgl := ha8.out g (by simp [Value.ownBlock])
              have hgl' := hn8.out g' (by simp [Value.ownBlock])
              have hgne : g' ≠ g := hne.symm
              have hb6g : b8 ≠ g := by omega
              have hb6g' : b8 ≠ g' := by omega
              clear HT hT
              replace hT2 := Aside0.mk hT2
              go_wp2
              have hcc := And.intro hc0 hc1
              go_region_held3 (fun w' => w'.cell? ⟨b8, 0, none⟩ = some (.slice (some ⟨g, 0, none⟩) m m) ∧ w'.cell? ⟨b8, 1, none⟩ = some (.slice (some ⟨g', 0, none⟩) m m)) (((repeat (first | assumption | refine held2_drew ?_ | refine held2_set ?_ _ _ (by dsimp only; omega) (by dsimp only; omega))); done)) (fail)
              all_goals go_wp2
              all_goals (
                go_roundg k1
                case measure => omega
                case rel =>
                  obtain ⟨xs2, hxs2, hT3⟩ := hT2.out
                  refine ⟨j + 1, by go_num, ⟨by have := HK.out; omega⟩, ⟨xs2, hxs2, hT3.keeps (K := fun _ => True) (Keeps.refl _ _).drew (fun _ _ => trivial)⟩, ⟨?_⟩⟩
                  exact ((HP.out.setCell (p := ⟨g, j, none⟩) (.int .i64 7) (fun e => e.2.1 (by simp [Value.ownBlock]))).setCell (p := ⟨g', j, none⟩) (.int .i64 7) (fun e => e.2.2 (by simp [Value.ownBlock]))).drew)
        | succ k1 =>
          have hlt : i < n := by have := HK.out; omega
          obtain ⟨xs, hxs, hT⟩ := HT.out
          obtain ⟨g, g', rfl, rfl, hne, hg1, hg2, hg1', hg2', ⟨x, hx⟩, hfx, ⟨y, hy⟩, hfy, hT2⟩ := two_sevens hT hxs hlt
          have hgl := ha6.out g (by simp [Value.ownBlock])
          have hgl' := hn6.out g' (by simp [Value.ownBlock])
          have hgne : g' ≠ g := hne.symm
          have hb6g : b6 ≠ g := by omega
          have hb6g' : b6 ≠ g' := by omega
          clear HT hT
          replace hT2 := Aside0.mk hT2
          go_wp2
          have hcc := And.intro hc0 hc1
          go_region_held3 (fun w' => w'.cell? ⟨b6, 0, none⟩ = some (.slice (some ⟨g, 0, none⟩) n n) ∧ w'.cell? ⟨b6, 1, none⟩ = some (.slice (some ⟨g', 0, none⟩) n n)) (((repeat (first | assumption | refine held2_drew ?_ | refine held2_set ?_ _ _ (by dsimp only; omega) (by dsimp only; omega))); done)) (fail)
          all_goals go_wp2
          all_goals (
            go_roundg k1
            case measure => omega
            case rel =>
              obtain ⟨xs2, hxs2, hT3⟩ := hT2.out
              refine ⟨i + 1, by go_num, ⟨by have := HK.out; omega⟩, ⟨xs2, hxs2, hT3.keeps (K := fun _ => True) (Keeps.refl _ _).drew (fun _ _ => trivial)⟩, ⟨?_⟩⟩
              exact ((HP.out.setCell (p := ⟨g, i, none⟩) (.int .i64 7) (fun e => e.2.1 (by simp [Value.ownBlock]))).setCell (p := ⟨g', i, none⟩) (.int .i64 7) (fun e => e.2.2 (by simp [Value.ownBlock]))).drew)
def inv24 (x : S24) : Prop := (fun l : List Int => l.length * 8 ≤ 140737488351232 ∧ l.length ≤ maxLen ∧ ∀ x ∈ l, (fun n : Int => (Lit.int .i64 n).wf = true) x) x.f0 ∧ (fun l : List Int => l.length * 8 ≤ 140737488351232 ∧ l.length ≤ maxLen ∧ ∀ x ∈ l, (fun n : Int => (Lit.int .i64 n).wf = true) x) x.f1
theorem opn24 : Opn Try.prog 24 k24 inv24 := opn_struct (fun x : S24 => (x.f0, x.f1)) (fun p => (⟨p.1, p.2⟩ : S24)) (fun _ => rfl) Try.underlying24 (by kernel_rfl) (fl := [(22, 0), (22, 1)]) (by rfl) (opnL_cons (opn_slice Try.underlying22 (by kernel_rfl) (by kernel_rfl) (opn_int Try.underlying2 (by kernel_rfl))) rfl (opnL_one (opn_slice Try.underlying22 (by kernel_rfl) (by kernel_rfl) (opn_int Try.underlying2 (by kernel_rfl)))))
def inv35 (x : S35) : Prop := (fun n : Int => (Lit.int .i64 n).wf = true) x.f0 ∧ (fun n : Int => (Lit.int .i64 n).wf = true) x.f1 ∧ (fun n : Int => (Lit.int .i64 n).wf = true) x.f2
theorem opn35 : Opn Try.prog 35 k35 inv35 := opn_struct (fun x : S35 => (x.f0, x.f1, x.f2)) (fun p => (⟨p.1, p.2.1, p.2.2⟩ : S35)) (fun _ => rfl) Try.underlying35 (by kernel_rfl) (fl := [(2, 0), (2, 1), (2, 2)]) (by rfl) (opnL_cons (opn_int Try.underlying2 (by kernel_rfl)) rfl (opnL_cons (opn_int Try.underlying2 (by kernel_rfl)) rfl (opnL_one (opn_int Try.underlying2 (by kernel_rfl)))))

/-- THE ONE PURE STATEMENT of forebaylaw04_StepsOwn: yours. -/
def forebaylaw04_StepsOwn.Pure : Prop := ∀ (l0_0 : List Int) (l0_1 : List Int) (a1_0 : Int) (a1_1 : Int) (a1_2 : Int), inv24 ⟨l0_0, l0_1⟩ → inv35 ⟨a1_0, a1_1, a1_2⟩ → ∃ k, forebaylaw04_StepsOwn.f k l0_0 l0_1 a1_0 a1_1 a1_2 = some true
theorem forebaylaw04_StepsOwn.walk (P : forebaylaw04_StepsOwn.Pure) (A0_0 : Option Addr) (c0_0 : Nat) (l0_0 : List Int) (A0_1 : Option Addr) (c0_1 : Nat) (l0_1 : List Int) (a1_0 : Int) (a1_1 : Int) (a1_2 : Int) (w : World) (hr0_0 : Kd.C (Kd.int .i64) w A0_0 l0_0.length l0_0) (hc0_0 : l0_0.length ≤ c0_0) (hr0_1 : Kd.C (Kd.int .i64) w A0_1 l0_1.length l0_1) (hc0_1 : l0_1.length ≤ c0_1) (y0 : inv24 ⟨l0_0, l0_1⟩) (y1 : inv35 ⟨a1_0, a1_1, a1_2⟩) :
    Calls Try.prog 4 #[.agg #[.slice A0_0 l0_0.length c0_0, .slice A0_1 l0_1.length c0_1], .agg #[.int .i64 a1_0, .int .i64 a1_1, .int .i64 a1_2]] w fun e w' => e = .returned (.bool true) ∧ Below w.heap.size w w' := by
  obtain ⟨k, h⟩ := P l0_0 l0_1 a1_0 a1_1 a1_2 y0 y1
  refine (forebaylaw04_StepsOwn.calls k A0_0 c0_0 l0_0 A0_1 c0_1 l0_1 a1_0 a1_1 a1_2 true w hr0_0 hc0_0 hr0_1 hc0_1 h).mono ?_
  rintro e w' ⟨rfl, hd⟩
  exact ⟨rfl, hd⟩

end Go.Proofs.Ytkhbbcnagdappaa.P
