-- Written by this session's program gprint.py: functions of the program as plain functions, and that the machine does what they say. Not trusted: Lean checks it.
import Derived.Test.YthbonmpkjkihgaaPx0
import Derived.Test.YthbonmpkjkihgaaPx1
namespace Go.Proofs.Ythbonmpkjkihgaa.P
open Go.RowKit Go.Proofs.YthbonmpkjkihgaaW.PrintWords Go.Proofs.YthbonmpkjkihgaaW.PrintLast Go.Proofs.YthbonmpkjkihgaaW.PrintMore
attribute [local go_sem] max2_int min2_int max_two min_two max_three min_three max_four min_four   -- for this text's walks alone
set_option linter.unusedVariables false
set_option linter.unusedSimpArgs false

/-! ### steps_Least: function 37 -/
/-- The least number in a window. -/
def leastT (lo hi : Int) : List (Int × Int × Int) → Int := List.foldl (fun m x => if mx x.1 lo < mn x.2.1 hi then mn m x.2.2 else m) 1099511627776
theorem leastT_snoc (lo hi : Int) (l : List (Int × Int × Int)) (x : Int × Int × Int) : leastT lo hi (l ++ [x]) = if mx x.1 lo < mn x.2.1 hi then mn (leastT lo hi l) x.2.2 else leastT lo hi l := by simp [leastT]
def steps_Least.f (k : Nat) (a n : List Int) (lo hi : Int) : Option Int :=
 (steps_Check.f k a n).bind fun e => if e = 0 ∧ (badQ lo || badQ hi) = false then (if n.length = a.length ∧ a.length ≤ 100000 then some (leastT lo hi (spansT a n)) else none) else some 0
theorem steps_Least.mono : ∀ a n lo hi k, LeO (steps_Least.f k a n lo hi) (steps_Least.f (k + 1) a n lo hi) := by
 intro a n lo hi k
 unfold steps_Least.f
 exact LeO.bind (steps_Check.mono _ _ _) (fun _ => LeO.refl _)
attribute [local go_sem] Oper.semAt_some
theorem boxed_eqv {W : World} {B : Nat} {t : TypeId} {u v : Int} (h : Boxed W B t (.int .i64 u)) (e : v = u) : Boxed W B t (.int .i64 v) := e ▸ h
set_option maxHeartbeats 8000000 in
theorem steps_Least.calls (k : Nat) (A0_0 : Option Addr) (c0_0 : Nat) (l0_0 : List Int) (A0_1 : Option Addr) (c0_1 : Nat) (l0_1 : List Int) (a1 : Int) (a2 : Int) (r : Int) (w : World) (hr0_0 : Kd.C (Kd.int .i64) w A0_0 l0_0.length l0_0) (hc0_0 : l0_0.length ≤ c0_0) (hr0_1 : Kd.C (Kd.int .i64) w A0_1 l0_1.length l0_1) (hc0_1 : l0_1.length ≤ c0_1) (h : steps_Least.f k l0_0 l0_1 a1 a2 = some r) :
  Calls Try.prog 37 #[.agg #[.slice A0_0 l0_0.length c0_0, .slice A0_1 l0_1.length c0_1], .int .i64 a1, .int .i64 a2] w fun e w' => e = .returned (.int .i64 r) ∧ Below w.heap.size w w' := by
 unfold steps_Least.f at h
 obtain ⟨e, he, h⟩ := Option.bind_eq_some_iff.1 h
 have hu24 := Try.underlying24
 have HE := Aside0.mk he
 clear he
 have HR0 := Aside0.mk hr0_0
 have HR1 := Aside0.mk hr0_1
 clear hr0_0 hr0_1
 obtain ⟨H, hH⟩ : ∃ H, w.heap.size = H := ⟨_, rfl⟩
 by_cases hg : e = 0 ∧ (badQ a1 || badQ a2) = false
 ·
  rw [if_pos hg] at h
  obtain ⟨rfl, hq⟩ := hg
  by_cases hl : l0_1.length = l0_0.length ∧ l0_0.length ≤ 100000
  case neg => rw [if_neg hl] at h; cases h
  rw [if_pos hl] at h
  obtain rfl := Option.some.inj h
  obtain ⟨hl1, hl2⟩ := hl
  replace hl1 := Aside0.mk hl1
  clear h
  clear h
  have HQ := Aside0.mk (show steps_quantity.f [a1, a2] = some true by unfold steps_quantity.f; simpa using hq)
  clear hq
  refine (callsIn_wide (n := 9)).1 (callsIn_of_wp_marks Try.func37 rfl trivial ?_ rfl)
  simp only [Try.ntmps37, List.size_toArray, List.length_cons, List.length_nil, Nat.reduceAdd, Nat.reduceSub, Array.replicate_succ, Array.replicate_zero, List.push_toArray, List.append_toArray, List.nil_append, List.cons_append]
  gi_upto_region 1 with fail
  obtain ⟨W0, hW0⟩ : ∃ W0, (((w.alloc (Obj.cells #[Value.slice A0_0 l0_0.length c0_0, Value.slice A0_1 l0_1.length c0_1] 24)).alloc (Obj.cells #[Value.int IntKind.i64 a1] 2)).alloc (Obj.cells #[Value.int IntKind.i64 a2] 2)) = W0 := ⟨_, rfl⟩
  have HB := Aside0.mk (show Below w.heap.size w W0 by rw [← hW0]; exact (((Below.refl _ w).alloc (Nat.le_refl _) _).alloc (by simp) _).alloc (by simp; omega) _)
  have BX : BoxN W0 H 24 [.slice A0_0 l0_0.length c0_0, .slice A0_1 l0_1.length c0_1] := by rw [← hW0, ← hH]; exact ((BoxN.new w _ [.slice A0_0 l0_0.length c0_0, .slice A0_1 l0_1.length c0_1]).alloc _).alloc _
  have BT : Boxed W0 (H + 1) 2 (.int .i64 a1) := by
   have := (Boxed.new (w.alloc (Obj.cells #[Value.slice A0_0 l0_0.length c0_0, Value.slice A0_1 l0_1.length c0_1] 24)) 2 (.int .i64 a1)).alloc (Obj.cells #[Value.int IntKind.i64 a2] 2)
   rw [hW0] at this
   rwa [World.size_alloc, hH] at this
  have BU : Boxed W0 (H + 2) 2 (.int .i64 a2) := by
   have := Boxed.new ((w.alloc (Obj.cells #[Value.slice A0_0 l0_0.length c0_0, Value.slice A0_1 l0_1.length c0_1] 24)).alloc (Obj.cells #[Value.int IntKind.i64 a1] 2)) 2 (.int .i64 a2)
   rw [hW0] at this
   rwa [World.size_alloc, World.size_alloc, hH] at this
  rw [hW0]
  clear hW0
  have hx0 := BX.cell 0 rfl
  have hx1 := BX.cell 1 rfl
  have hxf0 := BX.frozen 0
  have hxf1 := BX.frozen 1
  have ht0 := BT.cell
  have htf := BT.frozen
  replace BX := Aside0.mk BX
  replace BT := Aside0.mk BT
  replace BU := Aside0.mk BU
  gi_wp2_with (first | (refine ⟨trivial, ?_⟩; gi_at_call 20; refine (callsIn_wide.2 (steps_Check.calls k _ _ _ _ _ _ _ _ (Kd.C_below HR0.out HB.out) hc0_0 (Kd.C_below HR1.out HB.out) hc0_1 HE.out)).mono ?_; rintro e w1 ⟨rfl, hb1⟩; have BX1 := Aside0.mk (BX.out.below hb1 BX.out.lt); have BT1 := Aside0.mk (Boxed.below' BT.out hb1 BT.out.lt); have ht1 := BT1.out.cell; have htf1 := BT1.out.frozen; have BU1 := Aside0.mk (Boxed.below' BU.out hb1 BU.out.lt); have hu1 := BU1.out.cell; have huf1 := BU1.out.frozen; replace hb1 := Aside0.mk hb1) | (refine ⟨trivial, ?_⟩; gi_at_call 23; refine (callsIn_wide.2 (steps_quantity.calls _ _ [a1, a2] true _ (C_lits _ [a1, a2] (show (2 : Nat) ≤ maxLen by decide)) (Nat.le_refl _) HQ.out)).mono ?_; rintro e w2 ⟨rfl, hd2⟩; have hb2 : Below w1.heap.size w1 w2 := (by obtain ⟨nd2, hd3⟩ := hd2; subst hd3; exact pw_below_drewN ((Below.refl _ w1).alloc (Nat.le_refl _) _) _); have BX2 := BX1.out.below hb2 BX1.out.lt; have BT2 := Aside0.mk (Boxed.below' BT1.out hb2 BT1.out.lt); have BU2 := Aside0.mk (Boxed.below' BU1.out hb2 BU1.out.lt); have hx20 := fun o => (BX2.alloc o).cell 0 rfl; have hx21 := fun o => (BX2.alloc o).cell 1 rfl; have hxf20 := fun o => (BX2.alloc o).frozen 0; have hxf21 := fun o => (BX2.alloc o).frozen 1; have HB2 := Aside0.mk (below_then (below_then HB.out HB.out.size hb1.out) (Nat.le_trans HB.out.size hb1.out.size) hb2); clear hd2 hb2) | (refine ⟨trivial, ?_⟩; gi_at_call 35; refine (callsIn_wide.2 (steps_spans_calls _ _ rfl rfl _)).mono ?_; rintro e w3 ⟨rfl, rfl⟩; skip))
  obtain ⟨M, hM⟩ : ∃ M, w2.heap.size = M := ⟨_, rfl⟩
  obtain ⟨s1, hs1⟩ : ∃ s, w1.heap.size = s := ⟨_, rfl⟩
  have c1 : Boxed ((w2.alloc (Obj.cells #[Value.int IntKind.i64 1099511627776] 2)).alloc (Obj.cells #[Value.slice A0_0 l0_0.length c0_0, Value.slice A0_1 l0_1.length c0_1] 24)) M 2 (.int .i64 1099511627776) := by
   rw [← hM]; exact (Boxed.new w2 _ _).alloc _
  have c2 : BoxN ((w2.alloc (Obj.cells #[Value.int IntKind.i64 1099511627776] 2)).alloc (Obj.cells #[Value.slice A0_0 l0_0.length c0_0, Value.slice A0_1 l0_1.length c0_1] 24)) (M + 1) 24 [.slice A0_0 l0_0.length c0_0, .slice A0_1 l0_1.length c0_1] := by
   have := BoxN.new (w2.alloc (Obj.cells #[Value.int IntKind.i64 1099511627776] 2)) 24 [.slice A0_0 l0_0.length c0_0, .slice A0_1 l0_1.length c0_1]
   rwa [World.size_alloc, hM] at this
  have c3 := (BT2.out.alloc (Obj.cells #[Value.int IntKind.i64 1099511627776] 2)).alloc (Obj.cells #[Value.slice A0_0 l0_0.length c0_0, Value.slice A0_1 l0_1.length c0_1] 24)
  have c3u := (BU2.out.alloc (Obj.cells #[Value.int IntKind.i64 1099511627776] 2)).alloc (Obj.cells #[Value.slice A0_0 l0_0.length c0_0, Value.slice A0_1 l0_1.length c0_1] 24)
  have c4 := (HB2.out.alloc HB2.out.size (Obj.cells #[Value.int IntKind.i64 1099511627776] 2)).alloc (by simp; have := HB2.out.size; omega) (Obj.cells #[Value.slice A0_0 l0_0.length c0_0, Value.slice A0_1 l0_1.length c0_1] 24)
  have c5 : ((w2.alloc (Obj.cells #[Value.int IntKind.i64 1099511627776] 2)).alloc (Obj.cells #[Value.slice A0_0 l0_0.length c0_0, Value.slice A0_1 l0_1.length c0_1] 24)).heap.size = M + 2 := by simp [hM]
  have hHM : H + 2 < M := by rw [← hM]; exact BU2.out.lt
  have hsz := c4.size
  rw [hM, hs1]
  generalize ((w2.alloc (Obj.cells #[Value.int IntKind.i64 1099511627776] 2)).alloc (Obj.cells #[Value.slice A0_0 l0_0.length c0_0, Value.slice A0_1 l0_1.length c0_1] 24)) = Wr at *
  clear BX2 BT2 BU2 BU1 BU hu1 huf1 hx20 hx21 hxf20 hxf21 HB2 BX1 BT1 ht1 htf1 hb1 hx0 hx1 hxf0 hxf1 ht0 htf BX BT HB HQ HE
  refine wpIn_range (n := 9) (w := Wr) rfl (by omega) (gf := 46) (lb := #[.pointer (some ⟨M + 1, 0, none⟩)]) rfl trivial (enters_of Try.func46 (by kernel_rfl) rfl)
   (steps_spans_seq w A0_0 c0_0 A0_1 c0_1 l0_0 l0_1 (M + 1) Wr HR0.out HR1.out c4 c2 hl1.out hl2) (fun k hk => hk.elim) (fun k hk => by rcases hk with hk | hk <;> omega) (fun _ => rfl)
   (fun pre W => Boxed W M 2 (.int .i64 (leastT a1 a2 pre)) ∧ Boxed W (H + 1) 2 (.int .i64 a1) ∧ Boxed W (H + 2) 2 (.int .i64 a2) ∧ Below H w W)
   (fun _ _ _ => False)
   (by
    rintro s A B ⟨h1, h2, h2u, h3⟩ hk
    exact ⟨hk.boxed h1 ⟨not_false, by omega, by omega⟩, hk.boxed h2 ⟨not_false, by omega, by omega⟩, hk.boxed h2u ⟨not_false, by omega, by omega⟩, h3.trans (hk.below (by have := h3.size; omega) (fun k hk => ⟨not_false, by omega, by omega⟩))⟩)
   (fun _ _ _ _ h _ => h)
   ⟨c1, c3, c3u, by rw [← hH]; exact c4⟩
   (fun pre x a' W => (Boxed W M 2 (.int .i64 (leastT a1 a2 pre)) ∧ Boxed W (H + 1) 2 (.int .i64 a1) ∧ Boxed W (H + 2) 2 (.int .i64 a2) ∧ Below H w W) ∧ ∃ sb, BoxN W sb 74 [.int .i64 x.1, .int .i64 x.2.1, .int .i64 x.2.2] ∧ M + 4 ≤ sb ∧
    a' = { tmps := #[Value.agg #[Value.slice A0_0 l0_0.length c0_0, Value.slice A0_1 l0_1.length c0_1], Value.int IntKind.i64 a1, Value.int IntKind.i64 a2,
     Value.pointer (some { block := H, off := 0 }), Value.pointer (some { block := H + 1, off := 0 }), Value.pointer (some { block := H + 2, off := 0 }),
     Value.int IntKind.i64 0, Value.pointer (some { block := M, off := 0 }), Value.pointer (some { block := sb, off := 0 }),
     Value.agg #[Value.slice A0_0 l0_0.length c0_0, Value.slice A0_1 l0_1.length c0_1], Value.int IntKind.i64 0,
     Value.bool false, Value.bool false, Value.int IntKind.i64 a1, Value.int IntKind.i64 a2,
     Value.slice (some { block := s1, off := 0 }) 2 2, Value.bool true, Value.bool false,
     Value.bool false, Value.agg #[Value.slice A0_0 l0_0.length c0_0, Value.slice A0_1 l0_1.length c0_1],
     Value.func (Fn.func 46) #[] #[Value.pointer (some { block := M + 1, off := 0 })], Value.agg #[.int .i64 x.1, .int .i64 x.2.1, .int .i64 x.2.2], undef,
     undef, undef, undef, undef, undef, undef, undef, undef, undef, undef, undef, undef, undef], defers := [] })
   (by
    rintro pre x a' A B ⟨⟨h1, h2, h2u, h3⟩, sb, h4, h5, h6⟩ hk
    exact ⟨⟨hk.boxed h1 (by omega), hk.boxed h2 (by omega), hk.boxed h2u (by omega), h3.trans (hk.below (by have := h3.size; omega) (fun k hk => by omega))⟩, sb, hk.boxN h4 (by omega), h5, h6⟩)
   ?assign ?body ?done (fun _ _ _ _ _ h _ => h.elim)
  case assign =>
   rintro pre ⟨x0, x1, x2⟩ W hi hpre hsz
   simp only [encSpan]
   gi_wp2
   obtain ⟨h1, h2, h2u, h3⟩ := hi
   exact ⟨(Keeps.refl _ W).alloc _, ⟨h1.alloc _, h2.alloc _, h2u.alloc _, h3.alloc (by have := h3.size; omega) _⟩, W.heap.size, BoxN.new W _ [.int .i64 x0, .int .i64 x1, .int .i64 x2], by omega, rfl⟩
  case body =>
   rintro pre ⟨x0, x1, x2⟩ a' W hpre hrec ⟨⟨h1, h2, h2u, h3⟩, sb, h4, h5, rfl⟩
   have hc1 := h1.cell
   have hf1 := h1.frozen
   have hc2 := h2.cell
   have hf2 := h2.frozen
   have hc3 := h2u.cell
   have hf3 := h2u.frozen
   have hs0 := h4.cell 0 rfl
   have hs1 := h4.cell 1 rfl
   have hs2 := h4.cell 2 rfl
   have hsf0 := h4.frozen 0
   have hsf1 := h4.frozen 1
   have hsf2 := h4.frozen 2
   gi_wp2
   all_goals first
    | exact ⟨((Keeps.refl (fun k => k ≠ M) W).setCell _ (fun h => h.2 rfl)).mono (fun k _ h => by omega), boxed_eqv (h1.set _) (by rw [leastT_snoc]; simp only [mx, mn]; (repeat' split) <;> omega), ((Keeps.refl (fun k => k ≠ M) W).setCell _ (fun h => h.2 rfl)).boxed h2 (by omega), ((Keeps.refl (fun k => k ≠ M) W).setCell _ (fun h => h.2 rfl)).boxed h2u (by omega), h3.trans (((Keeps.refl (fun k => k ≠ M) W).setCell _ (fun h => h.2 rfl)).below (by have := h3.size; omega) (fun k hk => by omega))⟩
    | exact ⟨Keeps.refl _ W, boxed_eqv h1 (by rw [leastT_snoc]; simp only [mx, mn]; (repeat' split) <;> omega), h2, h2u, h3⟩
  case done =>
   intro xs W hsz hxs hI hW
   obtain ⟨h1, h2, h2u, h3⟩ := hI
   have hc1 := h1.cell
   have hf1 := h1.frozen
   gi_wp2
   refine ⟨by simp, .inl ⟨_, _, rfl, run_takeDeferred hW, ?_⟩⟩
   refine ⟨.int .i64 (leastT a1 a2 (spansT l0_0 l0_1)), by simp [results, Try.f37, go_sem], rfl, ?_⟩
   rw [hH]
   exact h3.trans (((Keeps.refl (fun k => k ≠ Wr.heap.size) W).putObj _ (fun h => h.2 rfl)).below (by have := h3.size; omega) (fun k hk => by omega))
 ·
  rw [if_neg hg] at h
  obtain rfl := Option.some.inj h
  clear h
  clear h
  have hb0 : ∀ w : World, Below w.heap.size w (((w.alloc (Obj.cells #[Value.slice A0_0 l0_0.length c0_0, Value.slice A0_1 l0_1.length c0_1] 24)).alloc (Obj.cells #[Value.int IntKind.i64 a1] 2)).alloc (Obj.cells #[Value.int IntKind.i64 a2] 2)) := fun w => (((Below.refl _ w).alloc (Nat.le_refl _) _).alloc (by simp) _).alloc (by simp; omega) _
  by_cases h0 : e = 0
  ·
   subst h0
   have hq : (badQ a1 || badQ a2) = true := by
    cases hb : (badQ a1 || badQ a2) with
    | true => rfl
    | false => exact absurd ⟨rfl, hb⟩ hg
   have HQ := Aside0.mk (show steps_quantity.f [a1, a2] = some false by unfold steps_quantity.f; rw [show ([a1, a2].any badQ) = (badQ a1 || badQ a2) by simp, hq]; rfl)
   clear hq hg
   go_enter Try.func37, Try.ntmps37
   go_upto_region 1 with fail
   obtain ⟨W0, hW0⟩ : ∃ W0, (((w.alloc (Obj.cells #[Value.slice A0_0 l0_0.length c0_0, Value.slice A0_1 l0_1.length c0_1] 24)).alloc (Obj.cells #[Value.int IntKind.i64 a1] 2)).alloc (Obj.cells #[Value.int IntKind.i64 a2] 2)) = W0 := ⟨_, rfl⟩
   have HB := Aside0.mk (show Below w.heap.size w W0 by rw [← hW0]; exact hb0 w)
   have BX : BoxN W0 H 24 [.slice A0_0 l0_0.length c0_0, .slice A0_1 l0_1.length c0_1] := by rw [← hW0, ← hH]; exact ((BoxN.new w _ [.slice A0_0 l0_0.length c0_0, .slice A0_1 l0_1.length c0_1]).alloc _).alloc _
   have BT : Boxed W0 (H + 1) 2 (.int .i64 a1) := by
    have := (Boxed.new (w.alloc (Obj.cells #[Value.slice A0_0 l0_0.length c0_0, Value.slice A0_1 l0_1.length c0_1] 24)) 2 (.int .i64 a1)).alloc (Obj.cells #[Value.int IntKind.i64 a2] 2)
    rw [hW0] at this
    rwa [World.size_alloc, hH] at this
   have BU : Boxed W0 (H + 2) 2 (.int .i64 a2) := by
    have := Boxed.new ((w.alloc (Obj.cells #[Value.slice A0_0 l0_0.length c0_0, Value.slice A0_1 l0_1.length c0_1] 24)).alloc (Obj.cells #[Value.int IntKind.i64 a1] 2)) 2 (.int .i64 a2)
    rw [hW0] at this
    rwa [World.size_alloc, World.size_alloc, hH] at this
   rw [hW0]
   clear hW0 hb0
   have hx0 := BX.cell 0 rfl
   have hx1 := BX.cell 1 rfl
   have hxf0 := BX.frozen 0
   have hxf1 := BX.frozen 1
   replace BX := Aside0.mk BX
   replace BT := Aside0.mk BT
   replace BU := Aside0.mk BU
   go_wp2_with (first | (go_at_call 20; refine (steps_Check.calls k _ _ _ _ _ _ _ _ (Kd.C_below HR0.out HB.out) hc0_0 (Kd.C_below HR1.out HB.out) hc0_1 HE.out).mono ?_; rintro e w1 ⟨rfl, hb1⟩; have BT1 := Aside0.mk (Boxed.below' BT.out hb1 BT.out.lt); have ht1 := BT1.out.cell; have htf1 := BT1.out.frozen; have BU1 := Aside0.mk (Boxed.below' BU.out hb1 BU.out.lt); have hu1 := BU1.out.cell; have huf1 := BU1.out.frozen; replace hb1 := Aside0.mk hb1) | (go_at_call 23; refine (steps_quantity.calls _ _ [a1, a2] false _ (C_lits _ [a1, a2] (show (2 : Nat) ≤ maxLen by decide)) (Nat.le_refl _) HQ.out).mono ?_; rintro e w2 ⟨rfl, hd2⟩; have hb2 : Below w1.heap.size w1 w2 := (by obtain ⟨nd2, hd3⟩ := hd2; subst hd3; exact pw_below_drewN ((Below.refl _ w1).alloc (Nat.le_refl _) _) _); have HB2 := Aside0.mk (below_then (below_then HB.out HB.out.size hb1.out) (Nat.le_trans HB.out.size hb1.out.size) hb2); clear hd2 hb2))
   go_ret
   exact ⟨rfl, HB2.out⟩
  ·
   have he1 : (e == 0) = false := beq_eq_false_iff_ne.mpr h0
   have he2 : (e != 0) = true := bne_iff_ne.mpr h0
   clear hg
   go_enter Try.func37, Try.ntmps37
   go_upto_region 1 with fail
   obtain ⟨W0, hW0⟩ : ∃ W0, (((w.alloc (Obj.cells #[Value.slice A0_0 l0_0.length c0_0, Value.slice A0_1 l0_1.length c0_1] 24)).alloc (Obj.cells #[Value.int IntKind.i64 a1] 2)).alloc (Obj.cells #[Value.int IntKind.i64 a2] 2)) = W0 := ⟨_, rfl⟩
   have HB := Aside0.mk (show Below w.heap.size w W0 by rw [← hW0]; exact hb0 w)
   have BX : BoxN W0 H 24 [.slice A0_0 l0_0.length c0_0, .slice A0_1 l0_1.length c0_1] := by rw [← hW0, ← hH]; exact ((BoxN.new w _ [.slice A0_0 l0_0.length c0_0, .slice A0_1 l0_1.length c0_1]).alloc _).alloc _
   rw [hW0]
   clear hW0 hb0
   have hx0 := BX.cell 0 rfl
   have hx1 := BX.cell 1 rfl
   have hxf0 := BX.frozen 0
   have hxf1 := BX.frozen 1
   replace BX := Aside0.mk BX
   go_wp2_with (first | (go_at_call 20; refine (steps_Check.calls k _ _ _ _ _ _ _ _ (Kd.C_below HR0.out HB.out) hc0_0 (Kd.C_below HR1.out HB.out) hc0_1 HE.out).mono ?_; rintro e w1 ⟨rfl, hb1⟩; have HB2 := Aside0.mk (below_then HB.out HB.out.size hb1); clear hb1))
   go_ret
   exact ⟨rfl, HB2.out⟩

/-! ### fit_fits: function 26 -/
def fit_fits.f (k : Nat) (l0_0 : List Int) (l0_1 : List Int) (a1 : Int) (a2 : Int) (a3 : Int) : Option (Bool) := if a1 ≤ (wrap64 (1099511627776 - a2)) then (if a2 = 0 then (some true) else ((steps_Least.f k l0_0 l0_1 a1 (wrap64 (a1 + a2))).bind fun t112 => (some (decide (t112 ≥ a3))))) else (some false)
theorem fit_fits.mono : ∀ a0 a1 a2 a3 a4 k, LeO (fit_fits.f k a0 a1 a2 a3 a4) (fit_fits.f (k + 1) a0 a1 a2 a3 a4) := by
 intro a0 a1 a2 a3 a4 k
 unfold fit_fits.f
 repeat' first
   | (with_reducible exact steps_Least.mono _ _ _ _ _)
   | (with_reducible exact LeO.refl _)
   | (with_reducible exact LeO.none _)
   | (with_reducible refine LeO.ite ?_ ?_)
   | (with_reducible refine LeO.bind ?_ (fun _ => ?_))
   | exact steps_Least.mono _ _ _ _ _
   | exact LeO.none _
   | refine LeO.ite ?_ ?_
   | refine LeO.bind ?_ (fun _ => ?_)
set_option maxHeartbeats 8000000 in
set_option maxRecDepth 100000 in
theorem fit_fits.calls (k : Nat) (A0_0 : Option Addr) (c0_0 : Nat) (l0_0 : List Int) (A0_1 : Option Addr) (c0_1 : Nat) (l0_1 : List Int) (a1 : Int) (a2 : Int) (a3 : Int) (r : Bool) (w : World) (hr0_0 : Kd.C (Kd.int .i64) w A0_0 l0_0.length l0_0) (hc0_0 : l0_0.length ≤ c0_0) (hr0_1 : Kd.C (Kd.int .i64) w A0_1 l0_1.length l0_1) (hc0_1 : l0_1.length ≤ c0_1) (h : fit_fits.f k l0_0 l0_1 a1 a2 a3 = some r) :
  Calls Try.prog 26 #[.agg #[.slice A0_0 l0_0.length c0_0, .slice A0_1 l0_1.length c0_1], .int .i64 a1, .int .i64 a2, .int .i64 a3] w fun e w' => e = .returned (.bool r) ∧ Below w.heap.size w w' := by
 have hu24 := Try.underlying24
 have HR0_0 := Aside0.mk hr0_0
 have HC0_0 := Aside0.mk hc0_0
 clear hr0_0 hc0_0
 have HR0_1 := Aside0.mk hr0_1
 have HC0_1 := Aside0.mk hc0_1
 clear hr0_1 hc0_1
 have HB := Aside0.mk (Below.refl w.heap.size w)
 have H : (if a1 ≤ (wrap64 (1099511627776 - a2)) then (if a2 = 0 then (some true) else ((steps_Least.f k l0_0 l0_1 a1 (wrap64 (a1 + a2))).bind fun t112 => (some (decide (t112 ≥ a3))))) else (some false)) = some r := h
 clear h
 by_cases c5 : a1 ≤ (wrap64 (1099511627776 - a2))
 ·
  rw [if_pos c5] at H
  have c5b0 : decide (a1 ≤ (wrap64 (1099511627776 - a2))) = true := decide_eq_true c5
  clear c5
  by_cases c6 : a2 = 0
  ·
   rw [if_pos c6] at H
   have c6b0 : (a2 == 0) = true := beq_iff_eq.mpr c6
   have c6b1 : (a2 != 0) = false := bne_eq_false_iff_eq.mpr c6
   clear c6
   obtain rfl := Option.some.inj H
   go_enter Try.func26, Try.ntmps26
   go_wp2_with (first | ((with_reducible refine gate_dst (N := 4) rfl ?_); refine box_event ?hg (N := 4) ?hd (cs := #[.slice A0_0 l0_0.length c0_0, .slice A0_1 l0_1.length c0_1]) (t := 24) ?hr ?_; (case hd => rfl); (case hg => rfl); (case hr => first | (go_simp; done) | (go_simp; rfl)); intro gb111 hg w7 hbox hb; have n0_ := Aside0.mk (below_step (by repeat (first | (with_reducible first | exact HB.out | apply below_alloc | apply pw_below_drewN | apply below_drew1) | exact HB.out)) hb); have n1_ := Aside0.mk (hbox); have n2_ := Aside0.mk ((by rw [hg]; exact (below_size (by repeat (first | (with_reducible first | exact HB.out | apply below_alloc | apply pw_below_drewN | apply below_drew1) | exact HB.out))) : w.heap.size ≤ gb111)); have n3_ := Aside0.mk ((by rw [hg]; exact (below_size (by repeat (first | (with_reducible first | exact HB.out | apply below_alloc | apply pw_below_drewN | apply below_drew1) | exact HB.out))) : w.heap.size ≤ gb111)); clear HB; have HB := n0_; have BK111 := n1_; have GW111 := n2_; have GE111 := n3_; clear n0_ n1_ n2_ n3_; clear hb hbox hg))
   go_ret
   exact ⟨by first | rfl | (simp [errW_none, errW_some] <;> rfl) | (simp [*, errW_none, errW_some] <;> rfl), by repeat (first | (with_reducible first | exact HB.out | apply below_alloc | apply pw_below_drewN | apply below_drew1 | refine below_set ?_ GE111.out) | exact HB.out)⟩
  ·
   rw [if_neg c6] at H
   have c6b0 : (a2 == 0) = false := beq_eq_false_iff_ne.mpr c6
   have c6b1 : (a2 != 0) = true := bne_iff_ne.mpr c6
   replace H := Option.bind_eq_some_iff.mp H
   obtain ⟨t112, A80, H⟩ := H
   replace H : (some (decide (t112 ≥ a3))) = some r := H
   have A8 := Aside0.mk A80
   clear A80
   obtain rfl := Option.some.inj H
   go_enter Try.func26, Try.ntmps26
   go_wp2_with (first | ((with_reducible refine gate_dst (N := 4) rfl ?_); refine box_event ?hg (N := 4) ?hd (cs := #[.slice A0_0 l0_0.length c0_0, .slice A0_1 l0_1.length c0_1]) (t := 24) ?hr ?_; (case hd => rfl); (case hg => rfl); (case hr => first | (go_simp; done) | (go_simp; rfl)); intro gb111 hg w9 hbox hb; have n0_ := Aside0.mk (below_step (by repeat (first | (with_reducible first | exact HB.out | apply below_alloc | apply pw_below_drewN | apply below_drew1) | exact HB.out)) hb); have n1_ := Aside0.mk (hbox); have n2_ := Aside0.mk ((by rw [hg]; exact (below_size (by repeat (first | (with_reducible first | exact HB.out | apply below_alloc | apply pw_below_drewN | apply below_drew1) | exact HB.out))) : w.heap.size ≤ gb111)); have n3_ := Aside0.mk ((by rw [hg]; exact (below_size (by repeat (first | (with_reducible first | exact HB.out | apply below_alloc | apply pw_below_drewN | apply below_drew1) | exact HB.out))) : w.heap.size ≤ gb111)); clear HB; have HB := n0_; have BK111 := n1_; have GW111 := n2_; have GE111 := n3_; clear n0_ n1_ n2_ n3_; clear hb hbox hg; have hcz10_0 : w9.cell? ⟨gb111, 0, none⟩ = some (.slice A0_0 l0_0.length c0_0) := (blk_cell BK111.out 0).trans rfl; have hcz10_1 : w9.cell? ⟨gb111, 1, none⟩ = some (.slice A0_1 l0_1.length c0_1) := (blk_cell BK111.out 1).trans rfl; have hfz10_0 := blk_frozen BK111.out 0; have hfz10_1 := blk_frozen BK111.out 1) | (go_at_call 37; (with_reducible refine (steps_Least.calls k _ _ l0_0 _ _ l0_1 a1 (wrap64 (a1 + a2)) t112 _ ?side1 ?side2 ?side3 ?side4 A8.out).mono ?_); (case side1 => repeat (first | exact (Kd.C_below HR0_0.out HB.out) | (with_reducible refine Kd.C_alloc ?_ _) | (with_reducible refine Kd.C_drewN ?_ _) | (with_reducible refine Kd.C_drew ?_))); (case side2 => exact HC0_0.out); (case side3 => repeat (first | exact (Kd.C_below HR0_1.out HB.out) | (with_reducible refine Kd.C_alloc ?_ _) | (with_reducible refine Kd.C_drewN ?_ _) | (with_reducible refine Kd.C_drew ?_))); (case side4 => exact HC0_1.out); rintro e w11 ⟨rfl, hb⟩; have n0_ := Aside0.mk (blk_below (g := gb111) (o := .cells #[.slice A0_0 l0_0.length c0_0, .slice A0_1 l0_1.length c0_1] 24 (0, 0)) (by (with_reducible repeat (first | refine blk_drewN ?_ _ | refine blk_drew ?_ | refine blk_alloc ?_ _)); exact BK111.out) hb); have n1_ := Aside0.mk (below_step (by repeat (first | (with_reducible first | exact HB.out | apply below_alloc | apply pw_below_drewN | apply below_drew1 | refine below_set ?_ GE111.out) | exact HB.out)) hb); clear BK111; clear HB; have BK111 := n0_; have HB := n1_; clear n0_ n1_; (try clear hb); (try clear hb2); (try clear hk); (try clear hi)))
   go_ret
   exact ⟨by first | rfl | (simp [errW_none, errW_some] <;> rfl) | (simp [*, errW_none, errW_some] <;> rfl), by repeat (first | (with_reducible first | exact HB.out | apply below_alloc | apply pw_below_drewN | apply below_drew1 | refine below_set ?_ GE111.out) | exact HB.out)⟩
 ·
  rw [if_neg c5] at H
  have c5b0 : decide (a1 ≤ (wrap64 (1099511627776 - a2))) = false := decide_eq_false c5
  clear c5
  obtain rfl := Option.some.inj H
  go_enter Try.func26, Try.ntmps26
  go_wp2_with (first | ((with_reducible refine gate_dst (N := 4) rfl ?_); refine box_event ?hg (N := 4) ?hd (cs := #[.slice A0_0 l0_0.length c0_0, .slice A0_1 l0_1.length c0_1]) (t := 24) ?hr ?_; (case hd => rfl); (case hg => rfl); (case hr => first | (go_simp; done) | (go_simp; rfl)); intro gb111 hg w12 hbox hb; have n0_ := Aside0.mk (below_step (by repeat (first | (with_reducible first | exact HB.out | apply below_alloc | apply pw_below_drewN | apply below_drew1) | exact HB.out)) hb); have n1_ := Aside0.mk (hbox); have n2_ := Aside0.mk ((by rw [hg]; exact (below_size (by repeat (first | (with_reducible first | exact HB.out | apply below_alloc | apply pw_below_drewN | apply below_drew1) | exact HB.out))) : w.heap.size ≤ gb111)); have n3_ := Aside0.mk ((by rw [hg]; exact (below_size (by repeat (first | (with_reducible first | exact HB.out | apply below_alloc | apply pw_below_drewN | apply below_drew1) | exact HB.out))) : w.heap.size ≤ gb111)); clear HB; have HB := n0_; have BK111 := n1_; have GW111 := n2_; have GE111 := n3_; clear n0_ n1_ n2_ n3_; clear hb hbox hg))
  go_ret
  exact ⟨by first | rfl | (simp [errW_none, errW_some] <;> rfl) | (simp [*, errW_none, errW_some] <;> rfl), by repeat (first | (with_reducible first | exact HB.out | apply below_alloc | apply pw_below_drewN | apply below_drew1 | refine below_set ?_ GE111.out) | exact HB.out)⟩

/-! ### fit_times: function 18 -/
/-- A time, and the times behind it, as they come. -/
def timU (f : Int) (l : List Int) (i : Nat) : List Int := f :: (l.take i).filter (fun t => decide (f < t))
def timesT (l : List Int) (f : Int) : List Int := f :: l.filter (fun t => decide (f < t))
theorem timU_all (f : Int) (l : List Int) : timU f l l.length = timesT l f := by unfold timU timesT; rw [List.take_length]
theorem timU_succ (f : Int) (l : List Int) (i : Nat) (hi : i < l.length) : timU f l (i + 1) = timU f l i ++ (if f < l[i] then [l[i]] else []) := by
 unfold timU
 rw [List.take_succ_eq_append_getElem hi, List.filter_append]
 by_cases h : f < l[i]
 ·
  rw [if_pos h]
  simp [List.filter, h]
 ·
  rw [if_neg h]
  simp [List.filter, h]
theorem timU_pre (f : Int) (l : List Int) (i : Nat) : timU f l i <+: timesT l f := by
 unfold timU timesT
 rw [List.cons_prefix_cons]
 refine ⟨rfl, ?_⟩
 have e : l.filter (fun t => decide (f < t)) = (l.take i).filter (fun t => decide (f < t)) ++ (l.drop i).filter (fun t => decide (f < t)) := by rw [← List.filter_append, List.take_append_drop]
 rw [e]
 exact List.prefix_append _ _
def encTime (x : Int) : Array Value := #[.int .i64 x]
theorem fit_times_calls (v0 v1 : Value) (h0 : v0.oneCell' = true) (h1 : v1.oneCell' = true) (f : Int) (w : World) : Calls Try.prog 18 #[.agg #[v0, v1], .int .i64 f] w fun e w' => e = .returned (.func (.func 31) #[] #[.pointer (some ⟨w.heap.size + 1, 0, none⟩), .pointer (some ⟨w.heap.size, 0, none⟩)]) ∧ w' = (w.alloc (.cells #[v0, v1] 24)).alloc (.cells #[.int .i64 f] 2) := by
 have hmf : ∀ (fn : Fn) (first cap : Array Value) (w : World), (Instr.makeFunc fn first cap).run Try.prog w = .ok (.func fn first cap) w := fun _ _ _ _ => rfl
 go_enter Try.func18, Try.ntmps18
 go_wp2
 go_ret
 exact ⟨rfl, rfl⟩
set_option maxHeartbeats 4000000 in
theorem fit_times_seq (w0 : World) (A : Option Addr) (c : Nat) (l0 : List Int) (vN : Value) (f : Int) (bs bf : Nat) (w : World) (hA : Kd.C (Kd.int .i64) w0 A l0.length l0)
  (hb0 : Below w0.heap.size w0 w) (hb : BoxN w bs 24 [.slice A l0.length c, vN]) (hbf : BoxN w bf 2 [.int .i64 f]) (hl : l0.length ≤ 100000) :
  RSeq Fence.wide 8 Try.prog 31 #[.pointer (some ⟨bf, 0, none⟩), .pointer (some ⟨bs, 0, none⟩)] encTime (fun k => k < w0.heap.size ∨ k = bs ∨ k = bf) (fun _ => False)
   (fun pre => pre <+: timesT l0 f) (fun xs => xs = timesT l0 f) w := by
 intro l J Jx W hW hJ hJx hY h0
 have hu := Try.underlying24
 refine callsIn_of_wp Try.func31 rfl trivial ?_ rfl
 simp only [Try.ntmps31, List.size_toArray, List.length_cons, List.length_nil, Nat.reduceAdd, Nat.reduceSub, Array.replicate_succ, Array.replicate_zero, List.push_toArray, List.append_toArray, List.nil_append, List.cons_append]
 have HK0 := Aside0.mk (show Keeps (fun k => k < w0.heap.size ∨ k = bs ∨ k = bf) w W from Keeps.of_below hW (fun k hk _ => hk))
 replace hJ := Aside0.mk hJ
 replace hJx := Aside0.mk hJx
 replace hY := Aside0.mk hY
 replace h0 := Aside0.mk h0
 replace hb := Aside0.mk hb
 replace hbf := Aside0.mk hbf
 replace hb0 := Aside0.mk hb0
 replace hA := Aside0.mk hA
 clear hW
 have hc0 := (HK0.out.boxN hb.out (.inr (.inl rfl))).cell 0 rfl
 have hg0 := (HK0.out.boxN hbf.out (.inr (.inr rfl))).cell 0 rfl
 have hp0 : [] ++ [f] = timU f l0 0 := by simp [timU]
 obtain ⟨fn0, tmps0, assign0, body0, hy0, hR0⟩ := hY.out [] f W h0.out (by rw [hp0]; exact timU_pre f l0 0)
 rw [hp0] at hR0
 simp only [encTime] at hy0
 clear hp0 h0
 gi_wp2
 refine hR0.mono ?_
 clear hy0 hR0 hc0 hg0
 rintro e W1 (⟨rfl, hJ1, hk1⟩ | ⟨rfl, hJx1⟩)
 case inr =>
  gi_wp2
  refine bodyPost_ret (results_none rfl _ _ _) rfl ?_
  exact ⟨⟨_, rfl⟩, .inr ⟨_, timU_pre f l0 0, hJx1⟩⟩
 have HK1 := Aside0.mk (HK0.out.trans hk1)
 replace hJ1 := Aside0.mk hJ1
 clear hk1 HK0
 have hc0 := (HK1.out.boxN hb.out (.inr (.inl rfl))).cell 0 rfl
 gi_wp2
 gi_loopg [13] l0.length (fun kq v13 wr => ∃ i : Nat, v13 = .int .i64 i ∧ Aside0 (kq + i = l0.length) ∧ Aside0 (Keeps (fun k => k < w0.heap.size ∨ k = bs ∨ k = bf) w wr) ∧ Aside0 (J (timU f l0 i) wr))
 case atStart => exact ⟨0, rfl, ⟨rfl⟩, HK1, hJ1⟩
 case round =>
  clear hc0 HK1 hJ1
  obtain ⟨i, rfl, HK, HP, HJ⟩ := hrel
  have hg1 := (HP.out.boxN hbf.out (.inr (.inr rfl))).cell 0 rfl
  cases gk with
  | zero =>
   have e : i = l0.length := by have := HK.out; omega
   subst e
   gi_wp2
   (try simp only [Exit.noGoto_normal])
   go_end0
   exact ⟨⟨_, rfl⟩, .inl ⟨_, timU_all f l0, HJ.out⟩⟩
  | succ k1 =>
   have hlt : i < l0.length := by have := HK.out; omega
   have hlt0 : (0 : Int) ≤ (i : Int) := Int.natCast_nonneg _
   have hlt1 : (i : Int) < (l0.length : Int) := by omega
   obtain ⟨ad, eA, hx⟩ := Kd.at_int (Kd.C_below hA.out (hb0.out.trans (HP.out.below hb0.out.size (fun k hk => .inl hk)))) (i : Int) hlt0 hlt1
   subst eA
   have er : rd l0 (i : Int) = l0[i] := by simp [rd, hlt]
   rw [er] at hx
   rw [Int.toNat_natCast] at hx
   have hsu := Aside0.mk (timU_succ f l0 i hlt)
   have hpre := Aside0.mk (timU_pre f l0 (i + 1))
   clear er
   generalize l0[i] = x at *
   by_cases hp : f < x
   ·
    replace hsu := Aside0.mk (show timU f l0 (i + 1) = timU f l0 i ++ [x] by have := hsu.out; rw [if_pos hp] at this; exact this)
    obtain ⟨fn, tmps, assign, body, hy', hR⟩ := hY.out _ x wr HJ.out (by rw [← hsu.out]; exact hpre.out)
    simp only [encTime] at hy'
    gi_wp2
    refine hR.mono ?_
    rintro e W3 (⟨rfl, hJ3, hk3⟩ | ⟨rfl, hJx3⟩)
    ·
     gi_wp2
     gi_roundg k1
     case measure => omega
     case rel =>
      exact ⟨i + 1, by go_num, ⟨by have := HK.out; omega⟩, ⟨HP.out.trans hk3⟩, ⟨by rw [hsu.out]; exact hJ3⟩⟩
    ·
     gi_wp2
     refine bodyPost_ret (results_none rfl _ _ _) rfl ?_
     exact ⟨⟨_, rfl⟩, .inr ⟨_, by rw [← hsu.out]; exact hpre.out, hJx3⟩⟩
   ·
    replace hsu := Aside0.mk (show timU f l0 (i + 1) = timU f l0 i by have := hsu.out; rw [if_neg hp, List.append_nil] at this; exact this)
    gi_wp2
    refine ⟨fun f hf => absurd hf (by simp), ?_⟩
    gi_wp2
    gi_roundg k1
    case measure => omega
    case rel =>
     exact ⟨i + 1, by go_num, ⟨by have := HK.out; omega⟩, ⟨HP.out⟩, ⟨by rw [hsu.out]; exact HJ.out⟩⟩
set_option maxHeartbeats 4000000 in
theorem fit_times_seq7 (w0 : World) (A : Option Addr) (c : Nat) (l0 : List Int) (vN : Value) (f : Int) (bs bf : Nat) (w : World) (hA : Kd.C (Kd.int .i64) w0 A l0.length l0)
  (hb0 : Below w0.heap.size w0 w) (hb : BoxN w bs 24 [.slice A l0.length c, vN]) (hbf : BoxN w bf 2 [.int .i64 f]) (hl : l0.length ≤ 100000) :
  RSeq Fence.wide 7 Try.prog 31 #[.pointer (some ⟨bf, 0, none⟩), .pointer (some ⟨bs, 0, none⟩)] encTime (fun k => k < w0.heap.size ∨ k = bs ∨ k = bf) (fun _ => False)
   (fun pre => pre <+: timesT l0 f) (fun xs => xs = timesT l0 f) w := by
 intro l J Jx W hW hJ hJx hY h0
 have hu := Try.underlying24
 refine callsIn_of_wp Try.func31 rfl trivial ?_ rfl
 simp only [Try.ntmps31, List.size_toArray, List.length_cons, List.length_nil, Nat.reduceAdd, Nat.reduceSub, Array.replicate_succ, Array.replicate_zero, List.push_toArray, List.append_toArray, List.nil_append, List.cons_append]
 have HK0 := Aside0.mk (show Keeps (fun k => k < w0.heap.size ∨ k = bs ∨ k = bf) w W from Keeps.of_below hW (fun k hk _ => hk))
 replace hJ := Aside0.mk hJ
 replace hJx := Aside0.mk hJx
 replace hY := Aside0.mk hY
 replace h0 := Aside0.mk h0
 replace hb := Aside0.mk hb
 replace hbf := Aside0.mk hbf
 replace hb0 := Aside0.mk hb0
 replace hA := Aside0.mk hA
 clear hW
 have hc0 := (HK0.out.boxN hb.out (.inr (.inl rfl))).cell 0 rfl
 have hg0 := (HK0.out.boxN hbf.out (.inr (.inr rfl))).cell 0 rfl
 have hp0 : [] ++ [f] = timU f l0 0 := by simp [timU]
 obtain ⟨fn0, tmps0, assign0, body0, hy0, hR0⟩ := hY.out [] f W h0.out (by rw [hp0]; exact timU_pre f l0 0)
 rw [hp0] at hR0
 simp only [encTime] at hy0
 clear hp0 h0
 gi_wp2
 refine hR0.mono ?_
 clear hy0 hR0 hc0 hg0
 rintro e W1 (⟨rfl, hJ1, hk1⟩ | ⟨rfl, hJx1⟩)
 case inr =>
  gi_wp2
  refine bodyPost_ret (results_none rfl _ _ _) rfl ?_
  exact ⟨⟨_, rfl⟩, .inr ⟨_, timU_pre f l0 0, hJx1⟩⟩
 have HK1 := Aside0.mk (HK0.out.trans hk1)
 replace hJ1 := Aside0.mk hJ1
 clear hk1 HK0
 have hc0 := (HK1.out.boxN hb.out (.inr (.inl rfl))).cell 0 rfl
 gi_wp2
 gi_loopg [13] l0.length (fun kq v13 wr => ∃ i : Nat, v13 = .int .i64 i ∧ Aside0 (kq + i = l0.length) ∧ Aside0 (Keeps (fun k => k < w0.heap.size ∨ k = bs ∨ k = bf) w wr) ∧ Aside0 (J (timU f l0 i) wr))
 case atStart => exact ⟨0, rfl, ⟨rfl⟩, HK1, hJ1⟩
 case round =>
  clear hc0 HK1 hJ1
  obtain ⟨i, rfl, HK, HP, HJ⟩ := hrel
  have hg1 := (HP.out.boxN hbf.out (.inr (.inr rfl))).cell 0 rfl
  cases gk with
  | zero =>
   have e : i = l0.length := by have := HK.out; omega
   subst e
   gi_wp2
   (try simp only [Exit.noGoto_normal])
   go_end0
   exact ⟨⟨_, rfl⟩, .inl ⟨_, timU_all f l0, HJ.out⟩⟩
  | succ k1 =>
   have hlt : i < l0.length := by have := HK.out; omega
   have hlt0 : (0 : Int) ≤ (i : Int) := Int.natCast_nonneg _
   have hlt1 : (i : Int) < (l0.length : Int) := by omega
   obtain ⟨ad, eA, hx⟩ := Kd.at_int (Kd.C_below hA.out (hb0.out.trans (HP.out.below hb0.out.size (fun k hk => .inl hk)))) (i : Int) hlt0 hlt1
   subst eA
   have er : rd l0 (i : Int) = l0[i] := by simp [rd, hlt]
   rw [er] at hx
   rw [Int.toNat_natCast] at hx
   have hsu := Aside0.mk (timU_succ f l0 i hlt)
   have hpre := Aside0.mk (timU_pre f l0 (i + 1))
   clear er
   generalize l0[i] = x at *
   by_cases hp : f < x
   ·
    replace hsu := Aside0.mk (show timU f l0 (i + 1) = timU f l0 i ++ [x] by have := hsu.out; rw [if_pos hp] at this; exact this)
    obtain ⟨fn, tmps, assign, body, hy', hR⟩ := hY.out _ x wr HJ.out (by rw [← hsu.out]; exact hpre.out)
    simp only [encTime] at hy'
    gi_wp2
    refine hR.mono ?_
    rintro e W3 (⟨rfl, hJ3, hk3⟩ | ⟨rfl, hJx3⟩)
    ·
     gi_wp2
     gi_roundg k1
     case measure => omega
     case rel =>
      exact ⟨i + 1, by go_num, ⟨by have := HK.out; omega⟩, ⟨HP.out.trans hk3⟩, ⟨by rw [hsu.out]; exact hJ3⟩⟩
    ·
     gi_wp2
     refine bodyPost_ret (results_none rfl _ _ _) rfl ?_
     exact ⟨⟨_, rfl⟩, .inr ⟨_, by rw [← hsu.out]; exact hpre.out, hJx3⟩⟩
   ·
    replace hsu := Aside0.mk (show timU f l0 (i + 1) = timU f l0 i by have := hsu.out; rw [if_neg hp, List.append_nil] at this; exact this)
    gi_wp2
    refine ⟨fun f hf => absurd hf (by simp), ?_⟩
    gi_wp2
    gi_roundg k1
    case measure => omega
    case rel =>
     exact ⟨i + 1, by go_num, ⟨by have := HK.out; omega⟩, ⟨HP.out⟩, ⟨by rw [hsu.out]; exact HJ.out⟩⟩

/-! ### fit_first: function 22 -/
/-- The first of some times at which a window fits; -1: none. -/
def firstF (k : Nat) (a n : List Int) (long m : Int) : List Int → Option Int
 | [] => some (-1)
 | t :: ts => (fit_fits.f k a n t long m).bind fun b => if b = true then some t else firstF k a n long m ts
def fit_first.f (k : Nat) (a n : List Int) (f long m : Int) : Option Int := if a.length ≤ 100000 then firstF k a n long m (timesT a f) else none
theorem firstF_mono (k : Nat) (a n : List Int) (long m : Int) : ∀ ts, LeO (firstF k a n long m ts) (firstF (k + 1) a n long m ts)
 | [] => LeO.refl _
 | t :: ts => by
  unfold firstF
  exact LeO.bind (fit_fits.mono _ _ _ _ _ _) (fun b => LeO.ite (LeO.refl _) (firstF_mono k a n long m ts))
theorem fit_first.mono : ∀ a0 a1 a2 a3 a4 k, LeO (fit_first.f k a0 a1 a2 a3 a4) (fit_first.f (k + 1) a0 a1 a2 a3 a4) := by
 intro a0 a1 a2 a3 a4 k
 unfold fit_first.f
 exact LeO.ite (firstF_mono _ _ _ _ _ _) (LeO.none _)
theorem al_size (os : List Obj) : ∀ w : World, (os.foldl World.alloc w).heap.size = w.heap.size + os.length := by
 induction os with
 | nil => intro w; rfl
 | cons o os ih => intro w; rw [List.foldl_cons, ih, World.size_alloc, List.length_cons]; omega
theorem al_below (os : List Obj) : ∀ w : World, Below w.heap.size w (os.foldl World.alloc w) := by
 induction os with
 | nil => intro w; exact Below.refl _ _
 | cons o os ih => intro w; exact ((Below.refl _ w).alloc (Nat.le_refl _) o).trans ((ih (w.alloc o)).mono (by simp))
theorem al_new (os : List Obj) : ∀ (w : World) (i : Nat) (o : Obj), os[i]? = some o → (os.foldl World.alloc w).heap[w.heap.size + i]? = some o := by
 induction os with
 | nil => intro w i o h; cases h
 | cons a os ih =>
  intro w i o h
  rw [List.foldl_cons]
  cases i with
  | zero =>
   obtain rfl := Option.some.inj h
   rw [Nat.add_zero, (al_below os (w.alloc a)).block _ (by simp)]
   exact World.alloc_heap_new w a
  | succ i =>
   have := ih (w.alloc a) i o h
   rw [World.size_alloc] at this
   rw [← this]
   congr 1
   omega
theorem al_at {os : List Obj} {w W : World} (h : os.foldl World.alloc w = W) (i : Nat) (o : Obj) (ho : os[i]? = some o) : W.heap[w.heap.size + i]? = some o := h ▸ al_new os w i o ho
attribute [local go_sem] Oper.semAt_some
set_option maxHeartbeats 8000000 in
theorem fit_first.calls (k : Nat) (A0_0 : Option Addr) (c0_0 : Nat) (l0_0 : List Int) (A0_1 : Option Addr) (c0_1 : Nat) (l0_1 : List Int) (a1 : Int) (a2 : Int) (a3 : Int) (r : Int) (w : World) (hr0_0 : Kd.C (Kd.int .i64) w A0_0 l0_0.length l0_0) (hc0_0 : l0_0.length ≤ c0_0) (hr0_1 : Kd.C (Kd.int .i64) w A0_1 l0_1.length l0_1) (hc0_1 : l0_1.length ≤ c0_1) (h : fit_first.f k l0_0 l0_1 a1 a2 a3 = some r) :
  Calls Try.prog 22 #[.agg #[.slice A0_0 l0_0.length c0_0, .slice A0_1 l0_1.length c0_1], .int .i64 a1, .int .i64 a2, .int .i64 a3] w fun e w' => e = .returned (.int .i64 r) ∧ Below w.heap.size w w' := by
 unfold fit_first.f at h
 by_cases hl : l0_0.length ≤ 100000
 case neg => rw [if_neg hl] at h; cases h
 rw [if_pos hl] at h
 have hu24 := Try.underlying24
 have hmf : ∀ (fn : Fn) (first cap : Array Value) (w : World), (Instr.makeFunc fn first cap).run Try.prog w = .ok (.func fn first cap) w := fun _ _ _ _ => rfl
 have HF := Aside0.mk h
 clear h
 have HR0 := Aside0.mk hr0_0
 have HR1 := Aside0.mk hr0_1
 have HC0 := Aside0.mk hc0_0
 have HC1 := Aside0.mk hc0_1
 clear hr0_0 hr0_1 hc0_0 hc0_1
 obtain ⟨H, hH⟩ : ∃ H, w.heap.size = H := ⟨_, rfl⟩
 refine (callsIn_wide (n := 9)).1 (callsIn_of_wp_marks Try.func22 rfl trivial ?_ rfl)
 simp only [Try.ntmps22, List.size_toArray, List.length_cons, List.length_nil, Nat.reduceAdd, Nat.reduceSub, Array.replicate_succ, Array.replicate_zero, List.push_toArray, List.append_toArray, List.nil_append, List.cons_append]
 gi_wp2_with (refine ⟨trivial, ?_⟩; gi_at_call 18; refine (callsIn_wide.2 (fit_times_calls _ _ rfl rfl _ _)).mono ?_; rintro e w3 ⟨rfl, rfl⟩; skip)
 obtain ⟨Wr, hWr⟩ : ∃ Wr, List.foldl World.alloc w [.cells #[.slice A0_0 l0_0.length c0_0, .slice A0_1 l0_1.length c0_1] 24, .cells #[.int .i64 a2] 2, .cells #[.int .i64 a3] 2, .cells #[.int .i64 0] 2, .cells #[.slice A0_0 l0_0.length c0_0, .slice A0_1 l0_1.length c0_1] 24, .cells #[.int .i64 a1] 2] = Wr := ⟨_, rfl⟩
 have c0 : BoxN Wr H 24 [.slice A0_0 l0_0.length c0_0, .slice A0_1 l0_1.length c0_1] := by have := al_at hWr 0 _ rfl; rw [hH] at this; exact this
 have c1 : Boxed Wr (H + 1) 2 (.int .i64 a2) := by have := al_at hWr 1 _ rfl; rw [hH] at this; exact this
 have c2 : Boxed Wr (H + 1 + 1) 2 (.int .i64 a3) := by have := al_at hWr 2 _ rfl; rw [hH] at this; exact this
 have c3 : Boxed Wr (H + 1 + 1 + 1) 2 (.int .i64 0) := by have := al_at hWr 3 _ rfl; rw [hH] at this; exact this
 have c4 : BoxN Wr (H + 1 + 1 + 1 + 1) 24 [.slice A0_0 l0_0.length c0_0, .slice A0_1 l0_1.length c0_1] := by have := al_at hWr 4 _ rfl; rw [hH] at this; exact this
 have c5 : BoxN Wr (H + 1 + 1 + 1 + 1 + 1) 2 [.int .i64 a1] := by have := al_at hWr 5 _ rfl; rw [hH] at this; exact this
 have c6 : Below w.heap.size w Wr := by rw [← hWr]; exact al_below _ w
 have c7 : Wr.heap.size = H + 6 := by rw [← hWr, al_size, hH]; rfl
 simp only [List.foldl_cons, List.foldl_nil] at hWr
 rw [hWr]
 clear hWr
 have hJ0 : ∀ rest, [] ++ rest = timesT l0_0 a1 → firstF k l0_0 l0_1 a2 a3 rest = some r := fun rest e => by rw [List.nil_append] at e; rw [e]; exact HF.out
 refine wpIn_range (n := 9) (w := Wr) rfl (by omega) (gf := 31) (lb := #[.pointer (some ⟨H + 1 + 1 + 1 + 1 + 1, 0, none⟩), .pointer (some ⟨H + 1 + 1 + 1 + 1, 0, none⟩)]) rfl trivial (enters_of Try.func31 (by kernel_rfl) rfl)
  (fit_times_seq w A0_0 c0_0 l0_0 (.slice A0_1 l0_1.length c0_1) a1 (H + 1 + 1 + 1 + 1) (H + 1 + 1 + 1 + 1 + 1) Wr HR0.out c6 c4 c5 hl) (fun k hk => hk.elim) (fun k hk => by rcases hk with hk | hk | hk <;> omega) (fun _ => rfl)
  (fun pre W => (BoxN W H 24 [.slice A0_0 l0_0.length c0_0, .slice A0_1 l0_1.length c0_1] ∧ Boxed W (H + 1) 2 (.int .i64 a2) ∧ Boxed W (H + 1 + 1) 2 (.int .i64 a3) ∧ Boxed W (H + 1 + 1 + 1) 2 (.int .i64 0) ∧ Below H w W) ∧ ∀ rest, pre ++ rest = timesT l0_0 a1 → firstF k l0_0 l0_1 a2 a3 rest = some r)
  (fun c s W => c = .ret ∧ Boxed W (H + 1 + 1 + 1) 2 (.int .i64 r) ∧ Below H w W)
  (by
   rintro s A B ⟨⟨h1, h2, h3, h4, h5⟩, h6⟩ hk
   exact ⟨⟨hk.boxN h1 ⟨not_false, by omega, by omega⟩, hk.boxed h2 ⟨not_false, by omega, by omega⟩, hk.boxed h3 ⟨not_false, by omega, by omega⟩, hk.boxed h4 ⟨not_false, by omega, by omega⟩, h5.trans (hk.below (by have := h5.size; omega) (fun k hk => ⟨not_false, by omega, by omega⟩))⟩, h6⟩)
  (by
   rintro c s A B ⟨h1, h4, h5⟩ hk
   exact ⟨h1, hk.boxed h4 ⟨not_false, by omega, by omega⟩, h5.trans (hk.below (by have := h5.size; omega) (fun k hk => ⟨not_false, by omega, by omega⟩))⟩)
  ⟨⟨c0, c1, c2, c3, by rw [← hH]; exact c6⟩, hJ0⟩
  (fun pre x a' W => ((BoxN W H 24 [.slice A0_0 l0_0.length c0_0, .slice A0_1 l0_1.length c0_1] ∧ Boxed W (H + 1) 2 (.int .i64 a2) ∧ Boxed W (H + 1 + 1) 2 (.int .i64 a3) ∧ Boxed W (H + 1 + 1 + 1) 2 (.int .i64 0) ∧ Below H w W) ∧ ∀ rest, pre ++ rest = timesT l0_0 a1 → firstF k l0_0 l0_1 a2 a3 rest = some r) ∧
   a' = { tmps := #[Value.agg #[Value.slice A0_0 l0_0.length c0_0, Value.slice A0_1 l0_1.length c0_1], Value.int IntKind.i64 a1,
     Value.int IntKind.i64 a2, Value.int IntKind.i64 a3, Value.pointer (some { block := H, off := 0 }), undef,
     Value.pointer (some { block := H + 1, off := 0 }), Value.pointer (some { block := H + 1 + 1, off := 0 }),
     Value.pointer (some { block := H + 1 + 1 + 1, off := 0 }), Value.int IntKind.i64 x,
     Value.agg #[Value.slice A0_0 l0_0.length c0_0, Value.slice A0_1 l0_1.length c0_1], Value.int IntKind.i64 a1,
     Value.func (Fn.func 31) #[] #[Value.pointer (some { block := H + 1 + 1 + 1 + 1 + 1, off := 0 }), Value.pointer (some { block := H + 1 + 1 + 1 + 1, off := 0 })],
     Value.int IntKind.i64 x, undef, undef, undef, undef, undef, undef], defers := [] })
  (by
   rintro pre x a' A B ⟨⟨⟨h1, h2, h3, h4, h5⟩, h6⟩, h7⟩ hk
   exact ⟨⟨⟨hk.boxN h1 (by omega), hk.boxed h2 (by omega), hk.boxed h3 (by omega), hk.boxed h4 (by omega), h5.trans (hk.below (by have := h5.size; omega) (fun k hk => by omega))⟩, h6⟩, h7⟩)
  ?assign ?body ?done ?stop
 case assign =>
  rintro pre x W hi hpre hsz
  simp only [encTime]
  gi_wp2
  exact ⟨Keeps.refl _ W, hi, by first | rfl | trivial⟩
 case body =>
  rintro pre x a' W hpre hrec ⟨⟨⟨h1, h2, h3, h4, h5⟩, h6⟩, rfl⟩
  obtain ⟨rest, hrest⟩ := hpre
  have hF := h6 (x :: rest) (by rw [← hrest]; simp)
  unfold firstF at hF
  obtain ⟨b, hb, hF⟩ := Option.bind_eq_some_iff.1 hF
  have hx0 := h1.cell 0 rfl
  have hx1 := h1.cell 1 rfl
  have hx2 := h2.cell
  have hx3 := h3.cell
  replace hb := Aside0.mk hb
  have HB5 := Aside0.mk h5
  cases b with
  | true =>
   rw [if_pos rfl] at hF
   obtain rfl := Option.some.inj hF
   gi_wp2_with (refine ⟨trivial, ?_⟩; gi_at_call 26; refine (callsIn_wide.2 (fit_fits.calls k _ _ _ _ _ _ _ _ _ true _ (Kd.C_below HR0.out (hH.symm ▸ HB5.out)) HC0.out (Kd.C_below HR1.out (hH.symm ▸ HB5.out)) HC1.out hb.out)).mono ?_; rintro e w1 ⟨rfl, hb1⟩; have h41 := Boxed.below' h4 hb1 h4.lt; have hc4 := h41.cell; have hf4 := h41.frozen; replace hb1 := Aside0.mk hb1)
   have hk1 : Keeps (fun k => k ≠ H + 1 + 1 + 1) W (w1.setCell ⟨H + 1 + 1 + 1, 0, none⟩ (.int .i64 x)) := (Keeps.of_below hb1.out (fun k hk _ => hk)).setCell _ (fun h => h.2 rfl)
   refine ⟨(hk1.mono (fun k _ h => by omega)), rfl, h41.set _, HB5.out.trans (hk1.below (by have := HB5.out.size; omega) (fun k hk => by omega))⟩
  | false =>
   rw [if_neg (by simp)] at hF
   gi_wp2_with (refine ⟨trivial, ?_⟩; gi_at_call 26; refine (callsIn_wide.2 (fit_fits.calls k _ _ _ _ _ _ _ _ _ false _ (Kd.C_below HR0.out (hH.symm ▸ HB5.out)) HC0.out (Kd.C_below HR1.out (hH.symm ▸ HB5.out)) HC1.out hb.out)).mono ?_; rintro e w1 ⟨rfl, hb1⟩; replace hb1 := Aside0.mk hb1)
   have hk1 : Keeps (fun _ => True) W w1 := Keeps.of_below hb1.out (fun k hk _ => hk)
   refine ⟨hk1.mono (fun k _ _ => trivial), ⟨hk1.boxN h1 trivial, hk1.boxed h2 trivial, hk1.boxed h3 trivial, hk1.boxed h4 trivial, HB5.out.trans (hk1.below (by have := HB5.out.size; omega) (fun k hk => trivial))⟩, fun rest' e => ?_⟩
   have : rest' = rest := by
    rw [← hrest] at e
    exact List.append_cancel_left e
   rw [this]
   exact hF
 case done =>
  intro xs W hsz hxs hI hW
  obtain ⟨⟨h1, h2, h3, h4, h5⟩, h6⟩ := hI
  subst hxs
  have hr := h6 [] (by simp)
  unfold firstF at hr
  obtain rfl := Option.some.inj hr
  have hc4 := h4.cell
  have hf4 := h4.frozen
  gi_wp2
  refine ⟨by simp, .inl ⟨_, _, rfl, run_takeDeferred (show ((W.setCell ⟨H + 1 + 1 + 1, 0, none⟩ (.int .i64 (-1))).heap[H + 6]? = some (.deferred (some []))) from c7 ▸ ((Keeps.setCell (K := fun k => k ≠ H + 1 + 1 + 1) (Keeps.refl _ W) (p := ⟨H + 1 + 1 + 1, 0, none⟩) (.int .i64 (-1)) (fun h => h.2 rfl)).block _ (by omega) (by omega)).trans hW), ?_⟩⟩
  have hk9 : Keeps (fun k => k ≠ H + 6) (W.setCell ⟨H + 1 + 1 + 1, 0, none⟩ (.int .i64 (-1))) ((W.setCell ⟨H + 1 + 1 + 1, 0, none⟩ (.int .i64 (-1))).putObj (H + 6) (.deferred none)) := (Keeps.refl _ _).putObj _ (fun h => h.2 rfl)
  have hq := (hk9.boxed (h4.set (.int .i64 (-1))) (by omega)).cell
  refine ⟨.int .i64 (-1), by simp [results, Try.f22, go_sem, hq], rfl, ?_⟩
  have hk8 : Keeps (fun k => k ≠ H + 1 + 1 + 1 ∧ k ≠ H + 6) W ((W.setCell ⟨H + 1 + 1 + 1, 0, none⟩ (.int .i64 (-1))).putObj (H + 6) (.deferred none)) := ((Keeps.refl _ W).setCell (p := ⟨H + 1 + 1 + 1, 0, none⟩) _ (fun h => h.2.1 rfl)).putObj _ (fun h => h.2.2 rfl)
  exact h5.trans (hk8.below (by have := h5.size; omega) (fun k hk => by omega))
 case stop =>
  rintro c0' s W hsz hpre ⟨rfl, h4, h5⟩ hW
  have hc4 := h4.cell
  gi_wp2
  refine ⟨by simp, .inl ⟨_, _, rfl, run_takeDeferred hW, ?_⟩⟩
  have hk9 : Keeps (fun k => k ≠ Wr.heap.size) W (W.putObj Wr.heap.size (.deferred none)) := (Keeps.refl _ _).putObj _ (fun h => h.2 rfl)
  have hq := (hk9.boxed h4 (by omega)).cell
  refine ⟨.int .i64 r, by simp [results, Try.f22, go_sem, hq], rfl, ?_⟩
  rw [hH]
  exact h5.trans (hk9.below (by have := h5.size; omega) (fun k hk => by omega))

/-! ### fit_First: function 9 -/
def fit_First.j0 : Nat → Int → Int → Int → Bool → List Int → List Int → Option (Int × Int)
 | 0, _, _, _, _, _, _ => none
 | k + 1, x1, x2, x3, x21, x114000, x114001 => if x21 = true then (some (0, 2)) else ((fit_first.f k x114000 x114001 x1 x2 x3).bind fun t119 => (if t119 < 0 then (some (0, 7)) else (some (t119, 0))))
def fit_First.f (k : Nat) (l0_0 : List Int) (l0_1 : List Int) (a1 : Int) (a2 : Int) (a3 : Int) : Option (Int × Int) := (steps_Check.f k l0_0 l0_1).bind fun t114 => (if t114 = 0 then ((fit_quantity.f k (([a1, a2, a3] : List Int))).bind fun t118 => (fit_First.j0 k a1 a2 a3 (!t118) l0_0 l0_1)) else (fit_First.j0 k a1 a2 a3 true l0_0 l0_1))
theorem fit_First.mono_l : ∀ k, (∀ y0 y1 y2 y3 y4 y5, LeO (fit_First.j0 k y0 y1 y2 y3 y4 y5) (fit_First.j0 (k + 1) y0 y1 y2 y3 y4 y5))
 | 0 => fun _ _ _ _ _ _ r h => by simp [fit_First.j0] at h
 | k + 1 => by
  have ih0 := fit_First.mono_l k
  ·
   intro y0 y1 y2 y3 y4 y5
   unfold fit_First.j0
   repeat' first
   | (with_reducible exact ih0 _ _ _ _ _ _)
   | (with_reducible exact fit_first.mono _ _ _ _ _ _)
   | (with_reducible exact fit_quantity.mono _ _)
   | (with_reducible exact steps_Check.mono _ _ _)
   | (with_reducible exact LeO.refl _)
   | (with_reducible exact LeO.none _)
   | (with_reducible refine LeO.ite ?_ ?_)
   | (with_reducible refine LeO.bind ?_ (fun _ => ?_))
   | exact ih0 _ _ _ _ _ _
   | exact fit_first.mono _ _ _ _ _ _
   | exact fit_quantity.mono _ _
   | exact steps_Check.mono _ _ _
   | exact LeO.none _
   | refine LeO.ite ?_ ?_
   | refine LeO.bind ?_ (fun _ => ?_)
theorem fit_First.mono : ∀ a0 a1 a2 a3 a4 k, LeO (fit_First.f k a0 a1 a2 a3 a4) (fit_First.f (k + 1) a0 a1 a2 a3 a4) := by
 intro a0 a1 a2 a3 a4 k
 have ih0 := fit_First.mono_l k
 unfold fit_First.f
 repeat' first
   | (with_reducible exact ih0 _ _ _ _ _ _)
   | (with_reducible exact fit_first.mono _ _ _ _ _ _)
   | (with_reducible exact fit_quantity.mono _ _)
   | (with_reducible exact steps_Check.mono _ _ _)
   | (with_reducible exact LeO.refl _)
   | (with_reducible exact LeO.none _)
   | (with_reducible refine LeO.ite ?_ ?_)
   | (with_reducible refine LeO.bind ?_ (fun _ => ?_))
   | exact ih0 _ _ _ _ _ _
   | exact fit_first.mono _ _ _ _ _ _
   | exact fit_quantity.mono _ _
   | exact steps_Check.mono _ _ _
   | exact LeO.none _
   | refine LeO.ite ?_ ?_
   | refine LeO.bind ?_ (fun _ => ?_)
set_option maxHeartbeats 8000000 in
set_option maxRecDepth 100000 in
theorem fit_First.calls (k : Nat) (A0_0 : Option Addr) (c0_0 : Nat) (l0_0 : List Int) (A0_1 : Option Addr) (c0_1 : Nat) (l0_1 : List Int) (a1 : Int) (a2 : Int) (a3 : Int) (r1 : Int) (r2 : Int) (w : World) (hr0_0 : Kd.C (Kd.int .i64) w A0_0 l0_0.length l0_0) (hc0_0 : l0_0.length ≤ c0_0) (hr0_1 : Kd.C (Kd.int .i64) w A0_1 l0_1.length l0_1) (hc0_1 : l0_1.length ≤ c0_1) (h : fit_First.f k l0_0 l0_1 a1 a2 a3 = some (r1, r2)) :
  Calls Try.prog 9 #[.agg #[.slice A0_0 l0_0.length c0_0, .slice A0_1 l0_1.length c0_1], .int .i64 a1, .int .i64 a2, .int .i64 a3] w fun e w' => e = .returned (.tuple #[.int .i64 r1, .int .i64 r2]) ∧ Below w.heap.size w w' := by
 have hu24 := Try.underlying24
 have HR0_0 := Aside0.mk hr0_0
 have HC0_0 := Aside0.mk hc0_0
 clear hr0_0 hc0_0
 have HR0_1 := Aside0.mk hr0_1
 have HC0_1 := Aside0.mk hc0_1
 clear hr0_1 hc0_1
 have HB := Aside0.mk (Below.refl w.heap.size w)
 have H : ((steps_Check.f k l0_0 l0_1).bind fun t114 => (if t114 = 0 then ((fit_quantity.f k (([a1, a2, a3] : List Int))).bind fun t118 => (fit_First.j0 k a1 a2 a3 (!t118) l0_0 l0_1)) else (fit_First.j0 k a1 a2 a3 true l0_0 l0_1))) = some (r1, r2) := h
 clear h
 have HC5 := Aside0.mk H
 clear H
 go_enter Try.func9, Try.ntmps9
 go_upto_region 1 with (first | ((with_reducible refine gate_dst (N := 4) rfl ?_); (try (refine gate_guard (by rfl) ?_; dsimp only)); refine box_event ?hg (N := 4) ?hd (cs := #[.slice A0_0 l0_0.length c0_0, .slice A0_1 l0_1.length c0_1]) (t := 24) ?hr ?_; (case hd => rfl); (case hg => rfl); (case hr => first | (go_simp; done) | (go_simp; rfl)); intro gb113 hg w6 hbox hb; have n0_ := Aside0.mk (below_step (by repeat (first | (with_reducible first | exact HB.out | apply below_alloc | apply pw_below_drewN | apply below_drew1) | exact HB.out)) hb); have n1_ := Aside0.mk (hbox); have n2_ := Aside0.mk ((by rw [hg]; exact (below_size (by repeat (first | (with_reducible first | exact HB.out | apply below_alloc | apply pw_below_drewN | apply below_drew1) | exact HB.out))) : w.heap.size ≤ gb113)); have n3_ := Aside0.mk ((by rw [hg]; exact (below_size (by repeat (first | (with_reducible first | exact HB.out | apply below_alloc | apply pw_below_drewN | apply below_drew1) | exact HB.out))) : w.heap.size ≤ gb113)); clear HB; have HB := n0_; have BK113 := n1_; have GW113 := n2_; have GE113 := n3_; clear n0_ n1_ n2_ n3_; clear hb hbox hg))
 (try simp only [Act.put, List.setIfInBounds_toArray, List.set_cons_zero, List.set_cons_succ])
 go_cut [21] (fun v21 wc => ∃ (kq : Nat) (x21_4 : Bool), v21 = .bool x21_4 ∧ Aside0 (fit_First.j0 kq a1 a2 a3 x21_4 l0_0 l0_1 = some (r1, r2)) ∧ Aside0 (kq ≤ k) ∧ Aside0 (wc.heap[gb113]? = some (.cells #[(.slice A0_0 l0_0.length c0_0), (.slice A0_1 l0_1.length c0_1)] 24 (0, 0))) ∧ Aside0 (Below w.heap.size w wc))
 case first =>
  have H := HC5.out
  clear HC5
  replace H := Option.bind_eq_some_iff.mp H
  obtain ⟨t114, A70, H⟩ := H
  replace H : (if t114 = 0 then ((fit_quantity.f k (([a1, a2, a3] : List Int))).bind fun t118 => (fit_First.j0 k a1 a2 a3 (!t118) l0_0 l0_1)) else (fit_First.j0 k a1 a2 a3 true l0_0 l0_1)) = some (r1, r2) := H
  have A7 := Aside0.mk A70
  clear A70
  by_cases c8 : t114 = 0
  ·
   rw [if_pos c8] at H
   have c8b0 : (t114 == 0) = true := beq_iff_eq.mpr c8
   have c8b1 : (t114 != 0) = false := bne_eq_false_iff_eq.mpr c8
   clear c8
   (first | rw [c8b0] | (simp only [i64_w, i32_w]; rw [c8b0]) | skip)
   obtain ⟨y115, hy115⟩ : ∃ y_ : List Int, y_ = (([a1, a2, a3] : List Int)) := ⟨_, rfl⟩
   replace H : ((fit_quantity.f k y115).bind fun t118 => (fit_First.j0 k a1 a2 a3 (!t118) l0_0 l0_1)) = some (r1, r2) := by first | (rw [hy115]; with_reducible exact H) | (have H2_ := (Option.bind_some _ _).symm.trans H; rw [hy115]; with_reducible exact H2_) | (have H2_ := (Option.bind_some _ _).symm.trans H; with_reducible exact H2_) | with_reducible exact H | (rw [hy115]; exact H) | exact H
   have Ny115 := Aside0.mk hy115
   clear hy115
   replace H := Option.bind_eq_some_iff.mp H
   obtain ⟨t118, A90, H⟩ := H
   replace H : (fit_First.j0 k a1 a2 a3 (!t118) l0_0 l0_1) = some (r1, r2) := H
   have A9 := Aside0.mk A90
   clear A90
   have H' := Aside0.mk H
   clear H
   have hcz10_0 : w6.cell? ⟨gb113, 0, none⟩ = some (.slice A0_0 l0_0.length c0_0) := (blk_cell BK113.out 0).trans rfl
   have hcz10_1 : w6.cell? ⟨gb113, 1, none⟩ = some (.slice A0_1 l0_1.length c0_1) := (blk_cell BK113.out 1).trans rfl
   have hfz10_0 := blk_frozen BK113.out 0
   have hfz10_1 := blk_frozen BK113.out 1
   go_wp2_with (first | ((with_reducible refine gate_callee (f := 20) rfl ?_); refine goesL_ (some 12) rfl rfl Try.func20 (by kernel_rfl) rfl #[.agg #[.slice A0_0 l0_0.length c0_0, .slice A0_1 l0_1.length c0_1]] rfl (by (try simp only [List.map_toArray, List.map_cons, List.map_nil]); first | done | rfl | (simp only [List.length_drop, List.length_take]; rfl)) ?_; (with_reducible refine (steps_Check.calls k _ _ l0_0 _ _ l0_1 t114 _ ?side1 ?side2 ?side3 ?side4 A7.out).mono ?_); (case side1 => repeat (first | exact (Kd.C_below HR0_0.out HB.out) | (with_reducible refine Kd.C_alloc ?_ _) | (with_reducible refine Kd.C_drewN ?_ _) | (with_reducible refine Kd.C_drew ?_))); (case side2 => exact HC0_0.out); (case side3 => repeat (first | exact (Kd.C_below HR0_1.out HB.out) | (with_reducible refine Kd.C_alloc ?_ _) | (with_reducible refine Kd.C_drewN ?_ _) | (with_reducible refine Kd.C_drew ?_))); (case side4 => exact HC0_1.out); rintro e w11 ⟨rfl, hb⟩; refine ⟨_, rfl, ?_⟩; have n0_ := Aside0.mk (blk_below (g := gb113) (o := .cells #[.slice A0_0 l0_0.length c0_0, .slice A0_1 l0_1.length c0_1] 24 (0, 0)) (by (with_reducible repeat (first | refine blk_drewN ?_ _ | refine blk_drew ?_ | refine blk_alloc ?_ _)); exact BK113.out) hb); have n1_ := Aside0.mk (below_step (by repeat (first | (with_reducible first | exact HB.out | apply below_alloc | apply pw_below_drewN | apply below_drew1 | refine below_set ?_ GE113.out) | exact HB.out)) hb); clear BK113; clear HB; have BK113 := n0_; have HB := n1_; clear n0_ n1_; (try clear hb); (try clear hb2); (try clear hk); (try clear hi)) | ((with_reducible refine gate_dst (N := 18) rfl ?_); (try (refine gate_guard (by rfl) ?_; dsimp only)); refine Kd.R_lit (Kd.int .i64) _ 2 ?hg (N := 18) ?hd (xs := ([a1, a2, a3] : List Int)) (inner := [.int .i64 a1, .int .i64 a2, .int .i64 a3]) (ok := fun _ => True) (okp := fun _ => True) ?hr ?hp (fun _ hk => hk) trivial (Below.refl _ _) (Nat.le_refl _) (by simp) ?_; (case hd => rfl); (case hg => rfl); (case hr => first | (go_simp; done) | (go_simp; rfl)); (case hp => exact (Reps.one (show Kd.M (Kd.int .i64) _ _ _ a1 [.int .i64 a1] from rfl) (Reps.one (show Kd.M (Kd.int .i64) _ _ _ a2 [.int .i64 a2] from rfl) (Reps.one (show Kd.M (Kd.int .i64) _ _ _ a3 [.int .i64 a3] from rfl) (Reps.none _ _))))); intro v116 w12 ho13 hb hg_ hnew_; clear hg_ hnew_; (first | rw [← Ny115.out] at ho13 | (simp only [Int.reduceToNat] at ho13; rw [← Ny115.out] at ho13)); have n0_ := Aside0.mk (Kd.R_lower ho13 (below_size (by repeat (first | (with_reducible first | exact HB.out | apply below_alloc | apply pw_below_drewN | apply below_drew1 | refine below_set ?_ GE113.out) | exact HB.out)))); have n1_ := Aside0.mk (blk_below (g := gb113) (o := .cells #[.slice A0_0 l0_0.length c0_0, .slice A0_1 l0_1.length c0_1] 24 (0, 0)) (by (with_reducible repeat (first | refine blk_drewN ?_ _ | refine blk_drew ?_ | refine blk_alloc ?_ _)); exact BK113.out) hb); have n2_ := Aside0.mk (below_step (by repeat (first | (with_reducible first | exact HB.out | apply below_alloc | apply pw_below_drewN | apply below_drew1 | refine below_set ?_ GE113.out) | exact HB.out)) hb); clear BK113; clear HB; have HO117 := n0_; have BK113 := n1_; have HB := n2_; clear n0_ n1_ n2_; clear hb ho13; obtain ⟨Ao14, co14, eo14⟩ := Kd.R_slice HO117.out; subst eo14) | (go_at_call 21; (with_reducible refine (fit_quantity.calls k _ _ y115 t118 _ ?side1 ?side2 A9.out).mono ?_); (case side1 => repeat (first | exact (Kd.R_reads' HO117.out).2.2 | (with_reducible refine Kd.C_alloc ?_ _) | (with_reducible refine Kd.C_drewN ?_ _) | (with_reducible refine Kd.C_drew ?_))); (case side2 => exact (Kd.R_reads' HO117.out).2.1); rintro e w' ⟨rfl, ⟨nd, rfl⟩⟩))
   go_meet
   case rel => exact ⟨_, (!t118), (by first | rfl | (simp; done) | (simp [*]; done) | (simp; exact isEmpty_bne _)), H', ⟨by first | omega | exact Nat.le_refl _⟩, ⟨by (with_reducible repeat (first | refine blk_drewN ?_ _ | refine blk_drew ?_ | refine blk_alloc ?_ _)); exact BK113.out⟩, ⟨by repeat (first | (with_reducible first | exact HB.out | apply below_alloc | apply pw_below_drewN | apply below_drew1 | refine below_set ?_ GE113.out) | exact HB.out)⟩⟩
  ·
   rw [if_neg c8] at H
   have c8b0 : (t114 == 0) = false := beq_eq_false_iff_ne.mpr c8
   have c8b1 : (t114 != 0) = true := bne_iff_ne.mpr c8
   (first | rw [c8b0] | (simp only [i64_w, i32_w]; rw [c8b0]) | skip)
   have H' := Aside0.mk H
   clear H
   have hcz15_0 : w6.cell? ⟨gb113, 0, none⟩ = some (.slice A0_0 l0_0.length c0_0) := (blk_cell BK113.out 0).trans rfl
   have hcz15_1 : w6.cell? ⟨gb113, 1, none⟩ = some (.slice A0_1 l0_1.length c0_1) := (blk_cell BK113.out 1).trans rfl
   have hfz15_0 := blk_frozen BK113.out 0
   have hfz15_1 := blk_frozen BK113.out 1
   go_wp2_with (first | ((with_reducible refine gate_callee (f := 20) rfl ?_); refine goesL_ (some 12) rfl rfl Try.func20 (by kernel_rfl) rfl #[.agg #[.slice A0_0 l0_0.length c0_0, .slice A0_1 l0_1.length c0_1]] rfl (by (try simp only [List.map_toArray, List.map_cons, List.map_nil]); first | done | rfl | (simp only [List.length_drop, List.length_take]; rfl)) ?_; (with_reducible refine (steps_Check.calls k _ _ l0_0 _ _ l0_1 t114 _ ?side1 ?side2 ?side3 ?side4 A7.out).mono ?_); (case side1 => repeat (first | exact (Kd.C_below HR0_0.out HB.out) | (with_reducible refine Kd.C_alloc ?_ _) | (with_reducible refine Kd.C_drewN ?_ _) | (with_reducible refine Kd.C_drew ?_))); (case side2 => exact HC0_0.out); (case side3 => repeat (first | exact (Kd.C_below HR0_1.out HB.out) | (with_reducible refine Kd.C_alloc ?_ _) | (with_reducible refine Kd.C_drewN ?_ _) | (with_reducible refine Kd.C_drew ?_))); (case side4 => exact HC0_1.out); rintro e w16 ⟨rfl, hb⟩; refine ⟨_, rfl, ?_⟩; have n0_ := Aside0.mk (blk_below (g := gb113) (o := .cells #[.slice A0_0 l0_0.length c0_0, .slice A0_1 l0_1.length c0_1] 24 (0, 0)) (by (with_reducible repeat (first | refine blk_drewN ?_ _ | refine blk_drew ?_ | refine blk_alloc ?_ _)); exact BK113.out) hb); have n1_ := Aside0.mk (below_step (by repeat (first | (with_reducible first | exact HB.out | apply below_alloc | apply pw_below_drewN | apply below_drew1 | refine below_set ?_ GE113.out) | exact HB.out)) hb); clear BK113; clear HB; have BK113 := n0_; have HB := n1_; clear n0_ n1_; (try clear hb); (try clear hb2); (try clear hk); (try clear hi)))
   go_meet
   case rel => exact ⟨_, (true), (by first | rfl | (simp; done) | (simp [*]; done) | (simp; exact isEmpty_bne _)), H', ⟨by first | omega | exact Nat.le_refl _⟩, ⟨by (with_reducible repeat (first | refine blk_drewN ?_ _ | refine blk_drew ?_ | refine blk_alloc ?_ _)); exact BK113.out⟩, ⟨by repeat (first | (with_reducible first | exact HB.out | apply below_alloc | apply pw_below_drewN | apply below_drew1 | refine below_set ?_ GE113.out) | exact HB.out)⟩⟩
 case rest =>
  clear HC5
  try clear c2
  try clear p2
  try clear c8
  try clear c8b0
  try clear c8b1
  try clear c9
  try clear hcz10_0
  try clear hcz10_1
  try clear hcz15_0
  try clear hcz15_1
  try clear hfz10_0
  try clear hfz10_1
  try clear hfz15_0
  try clear hfz15_1
  obtain ⟨kq, x21_4, rfl, HA, HJ4, BK113, HB⟩ := hcut
  cases kq with
  | zero => exact absurd HA.out (by simp [fit_First.j0])
  | succ kj4 =>
   have H := HA.out
   clear HA
   simp only [fit_First.j0] at H
   by_cases c17 : x21_4 = true
   ·
    subst c17
    have H1 : (some (0, 2)) = some (r1, r2) := by rw [if_pos rfl] at H; exact H
    clear H
    have H := H1
    clear H1
    simp only [Option.some.injEq, Prod.mk.injEq] at H
    obtain ⟨rfl, rfl⟩ := H
    go_wp2
    go_ret2
    exact ⟨by first | rfl | (simp [errW_none, errW_some] <;> rfl) | (simp [*, errW_none, errW_some] <;> rfl), by repeat (first | (with_reducible first | exact HB.out | apply below_alloc | apply pw_below_drewN | apply below_drew1 | refine below_set ?_ GE113.out) | exact HB.out)⟩
   ·
    replace c17 := Bool.eq_false_iff.mpr c17
    subst c17
    have H1 : ((fit_first.f kj4 l0_0 l0_1 a1 a2 a3).bind fun t119 => (if t119 < 0 then (some (0, 7)) else (some (t119, 0)))) = some (r1, r2) := by rw [if_neg (show ¬ (false = true) by decide)] at H; exact H
    clear H
    have H := H1
    clear H1
    replace H := Option.bind_eq_some_iff.mp H
    obtain ⟨t119, A180, H⟩ := H
    replace H : (if t119 < 0 then (some (0, 7)) else (some (t119, 0))) = some (r1, r2) := H
    have A18 := Aside0.mk A180
    clear A180
    by_cases c19 : t119 < 0
    ·
     rw [if_pos c19] at H
     have c19b0 : decide (t119 < 0) = true := decide_eq_true c19
     clear c19
     simp only [Option.some.injEq, Prod.mk.injEq] at H
     obtain ⟨rfl, rfl⟩ := H
     have hcz20_0 : wc.cell? ⟨gb113, 0, none⟩ = some (.slice A0_0 l0_0.length c0_0) := (blk_cell BK113.out 0).trans rfl
     have hcz20_1 : wc.cell? ⟨gb113, 1, none⟩ = some (.slice A0_1 l0_1.length c0_1) := (blk_cell BK113.out 1).trans rfl
     have hfz20_0 := blk_frozen BK113.out 0
     have hfz20_1 := blk_frozen BK113.out 1
     go_wp2_with (first | ((with_reducible refine gate_callee (f := 22) rfl ?_); refine goesL_ (some 26) rfl rfl Try.func22 (by kernel_rfl) rfl #[.agg #[.slice A0_0 l0_0.length c0_0, .slice A0_1 l0_1.length c0_1], .int .i64 a1, .int .i64 a2, .int .i64 a3] rfl (by (try simp only [List.map_toArray, List.map_cons, List.map_nil]); first | done | rfl | (simp only [List.length_drop, List.length_take]; rfl)) ?_; (with_reducible refine (fit_first.calls kj4 _ _ l0_0 _ _ l0_1 a1 a2 a3 t119 _ ?side1 ?side2 ?side3 ?side4 A18.out).mono ?_); (case side1 => repeat (first | exact (Kd.C_below HR0_0.out HB.out) | (with_reducible refine Kd.C_alloc ?_ _) | (with_reducible refine Kd.C_drewN ?_ _) | (with_reducible refine Kd.C_drew ?_))); (case side2 => exact HC0_0.out); (case side3 => repeat (first | exact (Kd.C_below HR0_1.out HB.out) | (with_reducible refine Kd.C_alloc ?_ _) | (with_reducible refine Kd.C_drewN ?_ _) | (with_reducible refine Kd.C_drew ?_))); (case side4 => exact HC0_1.out); rintro e w21 ⟨rfl, hb⟩; refine ⟨_, rfl, ?_⟩; have n0_ := Aside0.mk (blk_below (g := gb113) (o := .cells #[.slice A0_0 l0_0.length c0_0, .slice A0_1 l0_1.length c0_1] 24 (0, 0)) (by (with_reducible repeat (first | refine blk_drewN ?_ _ | refine blk_drew ?_ | refine blk_alloc ?_ _)); exact BK113.out) hb); have n1_ := Aside0.mk (below_step (by repeat (first | (with_reducible first | exact HB.out | apply below_alloc | apply pw_below_drewN | apply below_drew1 | refine below_set ?_ GE113.out) | exact HB.out)) hb); clear BK113; clear HB; have BK113 := n0_; have HB := n1_; clear n0_ n1_; (try clear hb); (try clear hb2); (try clear hk); (try clear hi)))
     go_ret2
     exact ⟨by first | rfl | (simp [errW_none, errW_some] <;> rfl) | (simp [*, errW_none, errW_some] <;> rfl), by repeat (first | (with_reducible first | exact HB.out | apply below_alloc | apply pw_below_drewN | apply below_drew1 | refine below_set ?_ GE113.out) | exact HB.out)⟩
    ·
     rw [if_neg c19] at H
     have c19b0 : decide (t119 < 0) = false := decide_eq_false c19
     clear c19
     simp only [Option.some.injEq, Prod.mk.injEq] at H
     obtain ⟨rfl, rfl⟩ := H
     have hcz22_0 : wc.cell? ⟨gb113, 0, none⟩ = some (.slice A0_0 l0_0.length c0_0) := (blk_cell BK113.out 0).trans rfl
     have hcz22_1 : wc.cell? ⟨gb113, 1, none⟩ = some (.slice A0_1 l0_1.length c0_1) := (blk_cell BK113.out 1).trans rfl
     have hfz22_0 := blk_frozen BK113.out 0
     have hfz22_1 := blk_frozen BK113.out 1
     go_wp2_with (first | ((with_reducible refine gate_callee (f := 22) rfl ?_); refine goesL_ (some 26) rfl rfl Try.func22 (by kernel_rfl) rfl #[.agg #[.slice A0_0 l0_0.length c0_0, .slice A0_1 l0_1.length c0_1], .int .i64 a1, .int .i64 a2, .int .i64 a3] rfl (by (try simp only [List.map_toArray, List.map_cons, List.map_nil]); first | done | rfl | (simp only [List.length_drop, List.length_take]; rfl)) ?_; (with_reducible refine (fit_first.calls kj4 _ _ l0_0 _ _ l0_1 a1 a2 a3 t119 _ ?side1 ?side2 ?side3 ?side4 A18.out).mono ?_); (case side1 => repeat (first | exact (Kd.C_below HR0_0.out HB.out) | (with_reducible refine Kd.C_alloc ?_ _) | (with_reducible refine Kd.C_drewN ?_ _) | (with_reducible refine Kd.C_drew ?_))); (case side2 => exact HC0_0.out); (case side3 => repeat (first | exact (Kd.C_below HR0_1.out HB.out) | (with_reducible refine Kd.C_alloc ?_ _) | (with_reducible refine Kd.C_drewN ?_ _) | (with_reducible refine Kd.C_drew ?_))); (case side4 => exact HC0_1.out); rintro e w23 ⟨rfl, hb⟩; refine ⟨_, rfl, ?_⟩; have n0_ := Aside0.mk (blk_below (g := gb113) (o := .cells #[.slice A0_0 l0_0.length c0_0, .slice A0_1 l0_1.length c0_1] 24 (0, 0)) (by (with_reducible repeat (first | refine blk_drewN ?_ _ | refine blk_drew ?_ | refine blk_alloc ?_ _)); exact BK113.out) hb); have n1_ := Aside0.mk (below_step (by repeat (first | (with_reducible first | exact HB.out | apply below_alloc | apply pw_below_drewN | apply below_drew1 | refine below_set ?_ GE113.out) | exact HB.out)) hb); clear BK113; clear HB; have BK113 := n0_; have HB := n1_; clear n0_ n1_; (try clear hb); (try clear hb2); (try clear hk); (try clear hi)))
     go_ret2
     exact ⟨by first | rfl | (simp [errW_none, errW_some] <;> rfl) | (simp [*, errW_none, errW_some] <;> rfl), by repeat (first | (with_reducible first | exact HB.out | apply below_alloc | apply pw_below_drewN | apply below_drew1 | refine below_set ?_ GE113.out) | exact HB.out)⟩

end Go.Proofs.Ythbonmpkjkihgaa.P
