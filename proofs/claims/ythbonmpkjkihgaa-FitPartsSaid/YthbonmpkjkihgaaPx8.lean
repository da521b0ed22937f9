-- Written by this session's program gprint.py: functions of the program as plain functions, and that the machine does what they say. Not trusted: Lean checks it.
import Derived.Test.YthbonmpkjkihgaaPx0
import Derived.Test.YthbonmpkjkihgaaPx1
import Derived.Test.YthbonmpkjkihgaaPx7
namespace Go.Proofs.Ythbonmpkjkihgaa.P
open Go.RowKit Go.Proofs.YthbonmpkjkihgaaW.PrintWords Go.Proofs.YthbonmpkjkihgaaW.PrintLast Go.Proofs.YthbonmpkjkihgaaW.PrintMore
attribute [local go_sem] max2_int min2_int max_two min_two max_three min_three max_four min_four   -- for this text's walks alone
set_option linter.unusedVariables false
set_option linter.unusedSimpArgs false

/-! ### steps_Give: function 11 -/
/-- What Give does with a step's number. -/
def giveF (m x : Int) : Int × Bool := (wrap64 (x + m), decide (x ≤ wrap64 (1099511627776 - m)))
def steps_Give.f (k : Nat) (a n : List Int) (lo hi m : Int) : Option (List Int × List Int × Int) :=
 (steps_Check.f k a n).bind fun e => if e = 0 ∧ (badQ lo || badQ hi || badQ m) = false then (if n.length = a.length ∧ a.length ≤ 60000 then some (resT (turnL lo hi (giveF m) (spansT a n))) else none) else some ([], [], 2)
theorem steps_Give.mono : ∀ a n lo hi m k, LeO (steps_Give.f k a n lo hi m) (steps_Give.f (k + 1) a n lo hi m) := by
 intro a n lo hi m k
 unfold steps_Give.f
 exact LeO.bind (steps_Check.mono _ _ _) (fun _ => LeO.refl _)
theorem steps_Give_do (dx : Nat) (m : Int) (x : Int) (W : World) (hb : Boxed W dx 2 (.int .i64 m)) :
  Calls Try.prog 25 #[.int .i64 x, .pointer (some ⟨dx, 0, none⟩)] W fun e w' => e = .returned (.tuple #[.int .i64 (giveF m x).1, .bool (giveF m x).2]) ∧ Drawn0 W w' := by
 have hc := hb.cell
 have hf := hb.frozen
 go_enter Try.func25, Try.ntmps25
 go_wp2
 go_quiet (fail)
 go_wp2
 refine bodyPost_ret (v := .tuple #[.int .i64 (giveF m x).1, .bool (giveF m x).2]) ?_ rfl ⟨rfl, _, rfl⟩
 simp [results, Try.f25, giveF, go_sem, i64_w]
set_option maxHeartbeats 16000000 in
set_option maxRecDepth 100000 in
theorem steps_Give_own (k : Nat) (A0_0 : Option Addr) (c0_0 : Nat) (l0_0 : List Int) (A0_1 : Option Addr) (c0_1 : Nat) (l0_1 : List Int) (a1 a2 a3 : Int) (r1 r2 : List Int) (r3 : Int) (w : World) (hr0_0 : Kd.C (Kd.int .i64) w A0_0 l0_0.length l0_0) (hc0_0 : l0_0.length ≤ c0_0) (hr0_1 : Kd.C (Kd.int .i64) w A0_1 l0_1.length l0_1) (hc0_1 : l0_1.length ≤ c0_1) (h : steps_Give.f k l0_0 l0_1 a1 a2 a3 = some (r1, r2, r3)) :
  Calls Try.prog 11 #[.agg #[.slice A0_0 l0_0.length c0_0, .slice A0_1 l0_1.length c0_1], .int .i64 a1, .int .i64 a2, .int .i64 a3] w fun e w' => StepsPost w r1 r2 r3 e w' := by
 unfold steps_Give.f at h
 obtain ⟨e, he, h⟩ := Option.bind_eq_some_iff.1 h
 have hu24 := Try.underlying24
 have hmf : ∀ (fn : Fn) (first cap : Array Value) (w : World), (Instr.makeFunc fn first cap).run Try.prog w = .ok (.func fn first cap) w := fun _ _ _ _ => rfl
 have HE := Aside0.mk he
 clear he
 have HR0 := Aside0.mk hr0_0
 have HR1 := Aside0.mk hr0_1
 clear hr0_0 hr0_1
 obtain ⟨H, hH⟩ : ∃ H, w.heap.size = H := ⟨_, rfl⟩
 replace h := Aside0.mk h
 go_enter Try.func11, Try.ntmps11
 go_upto_region 1 with fail
 obtain ⟨W0, hW0⟩ : ∃ W0, (((w.alloc (Obj.cells #[Value.slice A0_0 l0_0.length c0_0, Value.slice A0_1 l0_1.length c0_1] 24)).alloc (Obj.cells #[Value.int IntKind.i64 a3] 2)).alloc (Obj.cells #[Value.slice none 0 0, Value.slice none 0 0] 24)) = W0 := ⟨_, rfl⟩
 rw [hW0]
 have hWl : ([Obj.cells #[Value.slice A0_0 l0_0.length c0_0, Value.slice A0_1 l0_1.length c0_1] 24, Obj.cells #[Value.int IntKind.i64 a3] 2, Obj.cells #[Value.slice none 0 0, Value.slice none 0 0] 24] : List Obj).foldl World.alloc w = W0 := hW0
 clear hW0
 have hat := (heap_allocs [Obj.cells #[Value.slice A0_0 l0_0.length c0_0, Value.slice A0_1 l0_1.length c0_1] 24, Obj.cells #[Value.int IntKind.i64 a3] 2, Obj.cells #[Value.slice none 0 0, Value.slice none 0 0] 24] w).2
 have hsz := (heap_allocs [Obj.cells #[Value.slice A0_0 l0_0.length c0_0, Value.slice A0_1 l0_1.length c0_1] 24, Obj.cells #[Value.int IntKind.i64 a3] 2, Obj.cells #[Value.slice none 0 0, Value.slice none 0 0] 24] w).1
 have hkp : Keeps (fun k => k < H) w (([Obj.cells #[Value.slice A0_0 l0_0.length c0_0, Value.slice A0_1 l0_1.length c0_1] 24, Obj.cells #[Value.int IntKind.i64 a3] 2, Obj.cells #[Value.slice none 0 0, Value.slice none 0 0] 24] : List Obj).foldl World.alloc w) := keeps_allocs _ _ _
 rw [hWl] at hat hsz hkp
 simp only [hH] at hat hsz
 have BX : BoxN W0 H 24 [.slice A0_0 l0_0.length c0_0, .slice A0_1 l0_1.length c0_1] := hat 0 _ rfl
 have BT : Boxed W0 (H + 1) 2 (.int .i64 a3) := hat 1 _ rfl
 have BR : BoxN W0 (H + 2) 24 [.slice none 0 0, .slice none 0 0] := hat 2 _ rfl
 replace hsz : W0.heap.size = H + 3 := hsz
 have HB := Aside0.mk (show Below w.heap.size w W0 from hkp.below (Nat.le_refl _) (fun k hk => by omega))
 clear hat hWl hkp
 simp only [Nat.add_assoc, Nat.reduceAdd]
 have hx0 := BX.cell 0 rfl
 have hx1 := BX.cell 1 rfl
 have hxf0 := BX.frozen 0
 have hxf1 := BX.frozen 1
 have ht0 := BT.cell
 have htf := BT.frozen
 replace BX := Aside0.mk BX
 replace BT := Aside0.mk BT
 replace BR := Aside0.mk BR
 replace hsz := Aside0.mk hsz
 by_cases h0 : e = 0
 ·
  subst h0
  by_cases hq : (badQ a1 || badQ a2 || badQ a3) = false
  ·
   have h := h.out
   rw [if_pos ⟨rfl, hq⟩] at h
   by_cases hl : l0_1.length = l0_0.length ∧ l0_0.length ≤ 60000
   case neg => rw [if_neg hl] at h; cases h
   rw [if_pos hl] at h
   have HRES := Aside0.mk (Option.some.inj h)
   obtain ⟨hl1, hl2⟩ := hl
   replace hl1 := Aside0.mk hl1
   clear h
   clear h
   have HQ := Aside0.mk (show steps_quantity.f [a1, a2, a3] = some true by unfold steps_quantity.f; simpa [or_assoc, and_assoc] using hq)
   clear hq
   go_wp2_with (first | (go_at_call 20; refine (steps_Check.calls k _ _ _ _ _ _ _ _ (Kd.C_below HR0.out HB.out) hc0_0 (Kd.C_below HR1.out HB.out) hc0_1 HE.out).mono ?_; rintro e w1 ⟨rfl, hb1⟩; have BX1 := Aside0.mk (BX.out.below hb1 BX.out.lt); have BT1 := Aside0.mk (Boxed.below' BT.out hb1 BT.out.lt); have BR1 := Aside0.mk (BR.out.below hb1 BR.out.lt); have ht1 := BT1.out.cell; have htf1 := BT1.out.frozen; replace hb1 := Aside0.mk hb1) | (go_at_call 23; refine (steps_quantity.calls _ _ [a1, a2, a3] true _ (C_lits _ [a1, a2, a3] (show (3 : Nat) ≤ maxLen by decide)) (Nat.le_refl _) HQ.out).mono ?_; rintro e w2 ⟨rfl, hd2⟩; have hb2 : Below w1.heap.size w1 w2 := (by obtain ⟨nd2, hd3⟩ := hd2; subst hd3; exact pw_below_drewN ((Below.refl _ w1).alloc (Nat.le_refl _) _) _); have BX2 := BX1.out.below hb2 BX1.out.lt; have BT2 := Aside0.mk (Boxed.below' BT1.out hb2 BT1.out.lt); have BR2 := Aside0.mk (BR1.out.below hb2 BR1.out.lt); have hx20 := BX2.cell 0 rfl; have hx21 := BX2.cell 1 rfl; have hxf20 := BX2.frozen 0; have hxf21 := BX2.frozen 1; have hst := HB.out.size; have HB2 := Aside0.mk (below_then (below_then HB.out HB.out.size hb1.out) (Nat.le_trans HB.out.size hb1.out.size) hb2); have HS2 := Aside0.mk (Nat.le_trans hb1.out.size hb2.size); clear hd2 hb2 hst) | (go_at_call 24; refine (steps_turn_calls 25 (H + 1) a3 (giveF a3) (enters_of Try.func25 (by kernel_rfl) rfl) (fun x W hb => steps_Give_do (H + 1) a3 x W hb) _ _ _ _ _ _ _ _ _ (Kd.C_below HR0.out HB2.out) (Kd.C_below HR1.out HB2.out) BT2.out hl1.out hl2).mono ?_; rintro e w3 ⟨hb3, hres⟩; obtain ⟨out, A', c', B', d', rfl, h5, h6, h7, h8⟩ := turn_res hres HRES.out; have BR3 := BR2.out.below hb3 BR2.out.lt; have hr30 := BR3.cell 0 rfl; have hr31 := BR3.cell 1 rfl; have hrf30 := BR3.frozen 0; have hrf31 := BR3.frozen 1; replace BR3 := Aside0.mk BR3; replace hb3 := Aside0.mk hb3; replace h5 := Aside0.mk h5; replace h6 := Aside0.mk h6; replace h7 := Aside0.mk h7; replace h8 := Aside0.mk h8; clear hres))
   exact take_tail (hH := hH) Try.f11 rfl rfl rfl BR3.out h5.out (by have := HS2.out; have := hsz.out; omega) HB2.out hb3.out h6.out h7.out h8.out
  ·
   have hq1 : (badQ a1 || badQ a2 || badQ a3) = true := by
    cases hb : (badQ a1 || badQ a2 || badQ a3) with
    | true => rfl
    | false => exact absurd hb hq
   have h := h.out
   rw [if_neg (fun hh => hq hh.2)] at h
   have hres := Option.some.inj h
   clear h
   clear h
   clear hq
   injection hres with e1 e2
   injection e2 with e2 e3
   subst e1
   subst e2
   subst e3
   have HQ := Aside0.mk (show steps_quantity.f [a1, a2, a3] = some false by unfold steps_quantity.f; rw [show ([a1, a2, a3].any badQ) = (badQ a1 || badQ a2 || badQ a3) by simp [Bool.or_assoc], hq1]; rfl)
   clear hq1
   go_wp2_with (first | (go_at_call 20; refine (steps_Check.calls k _ _ _ _ _ _ _ _ (Kd.C_below HR0.out HB.out) hc0_0 (Kd.C_below HR1.out HB.out) hc0_1 HE.out).mono ?_; rintro e w1 ⟨rfl, hb1⟩; have BT1 := Aside0.mk (Boxed.below' BT.out hb1 BT.out.lt); have BR1 := Aside0.mk (BR.out.below hb1 BR.out.lt); have ht1 := BT1.out.cell; have htf1 := BT1.out.frozen; replace hb1 := Aside0.mk hb1) | (go_at_call 23; refine (steps_quantity.calls _ _ [a1, a2, a3] false _ (C_lits _ [a1, a2, a3] (show (3 : Nat) ≤ maxLen by decide)) (Nat.le_refl _) HQ.out).mono ?_; rintro e w2 ⟨rfl, hd2⟩; have hb2 : Below w1.heap.size w1 w2 := (by obtain ⟨nd2, hd3⟩ := hd2; subst hd3; exact pw_below_drewN ((Below.refl _ w1).alloc (Nat.le_refl _) _) _); have BR2 := BR1.out.below hb2 BR1.out.lt; have hr20 := BR2.cell 0 rfl; have hr21 := BR2.cell 1 rfl; have hrf20 := BR2.frozen 0; have hrf21 := BR2.frozen 1; have hst := HB.out.size; have HB2 := Aside0.mk (below_then (below_then HB.out HB.out.size hb1.out) (Nat.le_trans HB.out.size hb1.out.size) hb2); have HS2 := Aside0.mk (Nat.le_trans hb1.out.size hb2.size); replace BR2 := Aside0.mk BR2; clear hd2 hb2 hst))
   exact take_tail0 (hH := hH) Try.f11 rfl rfl rfl BR2.out (by have := HS2.out; have := hsz.out; omega) HB2.out
 ·
  have h := h.out
  rw [if_neg (fun hh => h0 hh.1)] at h
  have hres := Option.some.inj h
  clear h
  clear h
  injection hres with e1 e2
  injection e2 with e2 e3
  subst e1
  subst e2
  subst e3
  have he1 : (e == 0) = false := beq_eq_false_iff_ne.mpr h0
  have he2 : (e != 0) = true := bne_iff_ne.mpr h0
  clear h0
  go_wp2_with (first | (go_at_call 20; refine (steps_Check.calls k _ _ _ _ _ _ _ _ (Kd.C_below HR0.out HB.out) hc0_0 (Kd.C_below HR1.out HB.out) hc0_1 HE.out).mono ?_; rintro e w1 ⟨rfl, hb1⟩; have BR1 := BR.out.below hb1 BR.out.lt; have hr20 := BR1.cell 0 rfl; have hr21 := BR1.cell 1 rfl; have hrf20 := BR1.frozen 0; have hrf21 := BR1.frozen 1; have HB2 := Aside0.mk (below_then HB.out HB.out.size hb1); have HS2 := Aside0.mk hb1.size; replace BR1 := Aside0.mk BR1; clear hb1))
  exact take_tail0 (hH := hH) Try.f11 rfl rfl rfl BR1.out (by have := HS2.out; have := hsz.out; omega) HB2.out
theorem steps_Give.calls (k : Nat) (A0_0 : Option Addr) (c0_0 : Nat) (l0_0 : List Int) (A0_1 : Option Addr) (c0_1 : Nat) (l0_1 : List Int) (a1 : Int) (a2 : Int) (a3 : Int) (r1 : List Int) (r2 : List Int) (r3 : Int) (w : World) (hr0_0 : Kd.C (Kd.int .i64) w A0_0 l0_0.length l0_0) (hc0_0 : l0_0.length ≤ c0_0) (hr0_1 : Kd.C (Kd.int .i64) w A0_1 l0_1.length l0_1) (hc0_1 : l0_1.length ≤ c0_1) (h : steps_Give.f k l0_0 l0_1 a1 a2 a3 = some (r1, r2, r3)) :
  Calls Try.prog 11 #[.agg #[.slice A0_0 l0_0.length c0_0, .slice A0_1 l0_1.length c0_1], .int .i64 a1, .int .i64 a2, .int .i64 a3] w fun e w' => ∃ v0_ v1_ : Value, e = .returned (.tuple #[.agg #[v0_, v1_], .int .i64 r3]) ∧ Kd.V (Kd.int .i64) 2 w' w.heap.size (fun k_ => w.heap.size ≤ k_) v0_ r1 ∧ Kd.V (Kd.int .i64) 2 w' w.heap.size (fun k_ => w.heap.size ≤ k_) v1_ r2 ∧ Below w.heap.size w w' :=
 (steps_Give_own k A0_0 c0_0 l0_0 A0_1 c0_1 l0_1 a1 a2 a3 r1 r2 r3 w hr0_0 hc0_0 hr0_1 hc0_1 h).mono (fun _ _ hp => StepsPost.view hp)

end Go.Proofs.Ythbonmpkjkihgaa.P
