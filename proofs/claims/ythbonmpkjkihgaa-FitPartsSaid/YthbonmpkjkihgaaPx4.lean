-- Written by this session's program gprint.py: functions of the program as plain functions, and that the machine does what they say. Not trusted: Lean checks it.
import Derived.Test.YthbonmpkjkihgaaPx0
import Derived.Test.YthbonmpkjkihgaaPx2
import Derived.Test.YthbonmpkjkihgaaPx3
namespace Go.Proofs.Ythbonmpkjkihgaa.P
open Go.RowKit Go.Proofs.YthbonmpkjkihgaaW.PrintWords Go.Proofs.YthbonmpkjkihgaaW.PrintLast Go.Proofs.YthbonmpkjkihgaaW.PrintMore
attribute [local go_sem] max2_int min2_int max_two min_two max_three min_three max_four min_four   -- for this text's walks alone
set_option linter.unusedVariables false
set_option linter.unusedSimpArgs false

/-! ### fit_Slot: function 8 -/
/-- What has been found: a slot's three times, whether there is one, the best time. -/
abbrev SlotSt := Int × Int × Int × Bool × Int
/-- One profile's times, tried. -/
def rowF (k : Nat) (l0_0 l0_1 l0_2 l0_3 l0_4 l0_5 : List Int) (a1_0 a1_1 a1_2 a1_3 a1_4 a1_5 : Int) : List Int → SlotSt → Option SlotSt
 | [], st => some st
 | t :: ts, st => if st.2.2.2.2 ≤ t then some st else (fit_behind.f k l0_0 l0_1 l0_2 l0_3 l0_4 l0_5 a1_0 a1_1 a1_2 a1_3 a1_4 a1_5 t).bind fun r => if r.2.2.2 = true then some (r.1, r.2.1, r.2.2.1, true, t) else rowF k l0_0 l0_1 l0_2 l0_3 l0_4 l0_5 a1_0 a1_1 a1_2 a1_3 a1_4 a1_5 ts st
def slotF (k : Nat) (l0_0 l0_1 l0_2 l0_3 l0_4 l0_5 : List Int) (a1_0 a1_1 a1_2 a1_3 a1_4 a1_5 : Int) (a2 : Int) : Option (Int × Int × Int × Int) :=
 (rowF k l0_0 l0_1 l0_2 l0_3 l0_4 l0_5 a1_0 a1_1 a1_2 a1_3 a1_4 a1_5 (timesT l0_4 a2) (0, 0, 0, false, 1099511627777)).bind fun s1 => (rowF k l0_0 l0_1 l0_2 l0_3 l0_4 l0_5 a1_0 a1_1 a1_2 a1_3 a1_4 a1_5 (timesT l0_2 a2) s1).bind fun s2 => if s2.2.2.2.1 = true then some (s2.1, s2.2.1, s2.2.2.1, 0) else some (0, 0, 0, 7)
def fit_Slot.f (k : Nat) (l0_0 l0_1 l0_2 l0_3 l0_4 l0_5 : List Int) (a1_0 a1_1 a1_2 a1_3 a1_4 a1_5 : Int) (a2 : Int) : Option (Int × Int × Int × Int) :=
 (fit_may.f k l0_0 l0_1 l0_2 l0_3 l0_4 l0_5 a1_0 a1_1 a1_2 a1_3 a1_4 a1_5 [a2]).bind fun b => if b = true then (if l0_4.length ≤ 100000 ∧ l0_2.length ≤ 100000 then slotF k l0_0 l0_1 l0_2 l0_3 l0_4 l0_5 a1_0 a1_1 a1_2 a1_3 a1_4 a1_5 a2 else none) else some (0, 0, 0, 2)
theorem rowF_mono (k : Nat) (l0_0 l0_1 l0_2 l0_3 l0_4 l0_5 : List Int) (a1_0 a1_1 a1_2 a1_3 a1_4 a1_5 : Int) : ∀ ts st, LeO (rowF k l0_0 l0_1 l0_2 l0_3 l0_4 l0_5 a1_0 a1_1 a1_2 a1_3 a1_4 a1_5 ts st) (rowF (k + 1) l0_0 l0_1 l0_2 l0_3 l0_4 l0_5 a1_0 a1_1 a1_2 a1_3 a1_4 a1_5 ts st)
 | [], st => LeO.refl _
 | t :: ts, st => by
  unfold rowF
  exact LeO.ite (LeO.refl _) (LeO.bind (fit_behind.mono _ _ _ _ _ _ _ _ _ _ _ _ _ _) (fun b => LeO.ite (LeO.refl _) (rowF_mono k l0_0 l0_1 l0_2 l0_3 l0_4 l0_5 a1_0 a1_1 a1_2 a1_3 a1_4 a1_5 ts st)))
theorem fit_Slot.mono : ∀ a0 a1 a2 a3 a4 a5 a6 a7 a8 a9 a10 a11 a12 k, LeO (fit_Slot.f k a0 a1 a2 a3 a4 a5 a6 a7 a8 a9 a10 a11 a12) (fit_Slot.f (k + 1) a0 a1 a2 a3 a4 a5 a6 a7 a8 a9 a10 a11 a12) := by
 intro a0 a1 a2 a3 a4 a5 a6 a7 a8 a9 a10 a11 a12 k
 unfold fit_Slot.f slotF
 exact LeO.bind (fit_may.mono _ _ _ _ _ _ _ _ _ _ _ _ _ _) (fun b => LeO.ite (LeO.ite (LeO.bind (rowF_mono _ _ _ _ _ _ _ _ _ _ _ _ _ _ _) (fun s1 => LeO.bind (rowF_mono _ _ _ _ _ _ _ _ _ _ _ _ _ _ _) (fun s2 => LeO.refl _))) (LeO.none _)) (LeO.refl _))
theorem may_one (k : Nat) (A0_0 : Option Addr) (c0_0 : Nat) (l0_0 : List Int) (A0_1 : Option Addr) (c0_1 : Nat) (l0_1 : List Int) (A0_2 : Option Addr) (c0_2 : Nat) (l0_2 : List Int) (A0_3 : Option Addr) (c0_3 : Nat) (l0_3 : List Int) (A0_4 : Option Addr) (c0_4 : Nat) (l0_4 : List Int) (A0_5 : Option Addr) (c0_5 : Nat) (l0_5 : List Int) (a1_0 : Int) (a1_1 : Int) (a1_2 : Int) (a1_3 : Int) (a1_4 : Int) (a1_5 : Int) (a2 : Int) (s : Nat) (r : Bool) (w : World) (hs : w.heap.size = s) (hr0_0 : Kd.C (Kd.int .i64) w A0_0 l0_0.length l0_0) (hc0_0 : l0_0.length ≤ c0_0) (hr0_1 : Kd.C (Kd.int .i64) w A0_1 l0_1.length l0_1) (hc0_1 : l0_1.length ≤ c0_1) (hr0_2 : Kd.C (Kd.int .i64) w A0_2 l0_2.length l0_2) (hc0_2 : l0_2.length ≤ c0_2) (hr0_3 : Kd.C (Kd.int .i64) w A0_3 l0_3.length l0_3) (hc0_3 : l0_3.length ≤ c0_3) (hr0_4 : Kd.C (Kd.int .i64) w A0_4 l0_4.length l0_4) (hc0_4 : l0_4.length ≤ c0_4) (hr0_5 : Kd.C (Kd.int .i64) w A0_5 l0_5.length l0_5) (hc0_5 : l0_5.length ≤ c0_5) (h : fit_may.f k l0_0 l0_1 l0_2 l0_3 l0_4 l0_5 a1_0 a1_1 a1_2 a1_3 a1_4 a1_5 [a2] = some r) :
  Calls Try.prog 17 #[.agg #[.slice A0_0 l0_0.length c0_0, .slice A0_1 l0_1.length c0_1, .slice A0_2 l0_2.length c0_2, .slice A0_3 l0_3.length c0_3, .slice A0_4 l0_4.length c0_4, .slice A0_5 l0_5.length c0_5], .agg #[.int .i64 a1_0, .int .i64 a1_1, .int .i64 a1_2, .int .i64 a1_3, .int .i64 a1_4, .int .i64 a1_5], .slice (some ⟨s, 0, none⟩) 1 1] (w.alloc (.cells #[.int .i64 a2] 2)) fun e w' => e = .returned (.bool r) ∧ Below w.heap.size w w' := by
 subst hs
 have hl : Kd.C (Kd.int .i64) (w.alloc (.cells #[.int .i64 a2] 2)) (some ⟨w.heap.size, 0, none⟩) ([a2] : List Int).length [a2] := C_lits w [a2] (by show 1 ≤ maxLen; decide)
 exact (fit_may.calls k A0_0 c0_0 l0_0 A0_1 c0_1 l0_1 A0_2 c0_2 l0_2 A0_3 c0_3 l0_3 A0_4 c0_4 l0_4 A0_5 c0_5 l0_5 a1_0 a1_1 a1_2 a1_3 a1_4 a1_5 (some ⟨w.heap.size, 0, none⟩) 1 [a2] r _ (Kd.C_alloc hr0_0 _) hc0_0 (Kd.C_alloc hr0_1 _) hc0_1 (Kd.C_alloc hr0_2 _) hc0_2 (Kd.C_alloc hr0_3 _) hc0_3 (Kd.C_alloc hr0_4 _) hc0_4 (Kd.C_alloc hr0_5 _) hc0_5 hl (Nat.le_refl _) h).mono (fun e w' h => ⟨h.1, ((Below.refl _ w).alloc (Nat.le_refl _) _).trans (h.2.mono (by simp))⟩)
/-- Slot's variables, as they lie; ds: blocks that lie as they lay. -/
structure SlotB (w : World) (H S : Nat) (room shape : List Value) (ds : List (Nat × Obj)) (st : SlotSt) (W : World) : Prop where
 b0 : BoxN W H 26 room
 b1 : BoxN W (H + 1) 28 shape
 b2 : BoxN W (H + 1 + 1) 30 [.int .i64 0, .int .i64 0, .int .i64 0]
 s0 : BoxN W S 30 [.int .i64 st.1, .int .i64 st.2.1, .int .i64 st.2.2.1]
 s1 : Boxed W (S + 1) 4 (.bool st.2.2.2.1)
 s2 : Boxed W (S + 1 + 1) 2 (.int .i64 st.2.2.2.2)
 below : Below H w W
 ds : ∀ b o, (b, o) ∈ ds → W.heap[b]? = some o
theorem SlotB.keep {w : World} {H S : Nat} {room shape : List Value} {ds : List (Nat × Obj)} {st : SlotSt} {W W' : World} {K : Nat → Prop} (h : SlotB w H S room shape ds st W) (hk : Keeps K W W') (hS : H + 1 + 1 + 1 ≤ S) (hK : ∀ k, k < S + 3 → K k) (hD : ∀ b o, (b, o) ∈ ds → K b) : SlotB w H S room shape ds st W' :=
 ⟨hk.boxN h.b0 (hK _ (by omega)), hk.boxN h.b1 (hK _ (by omega)), hk.boxN h.b2 (hK _ (by omega)), hk.boxN h.s0 (hK _ (by omega)), hk.boxed h.s1 (hK _ (by omega)), hk.boxed h.s2 (hK _ (by omega)),
  h.below.trans (hk.below (by have := h.b0.lt; omega) (fun k hk2 => hK k (by omega))), fun b o hb => (hk.block b (Array.getElem?_eq_some_iff.1 (h.ds b o hb)).1 (hD b o hb)).trans (h.ds b o hb)⟩
theorem SlotB.store {w : World} {H S : Nat} {room shape : List Value} {ds : List (Nat × Obj)} {st : SlotSt} {W : World} (h : SlotB w H S room shape ds st W) (hS : H + 1 + 1 + 1 ≤ S) (hD : ∀ b o, (b, o) ∈ ds → S + 3 ≤ b) (q1 q2 q3 x : Int) :
  SlotB w H S room shape ds (q1, q2, q3, true, x) (((((W.setCell ⟨S, 0, none⟩ (.int .i64 q1)).setCell ⟨S, 1, none⟩ (.int .i64 q2)).setCell ⟨S, 2, none⟩ (.int .i64 q3)).setCell ⟨S + 1, 0, none⟩ (.bool true)).setCell ⟨S + 1 + 1, 0, none⟩ (.int .i64 x)) := by
 have hk : ∀ (K : Nat → Prop), (∀ k, K k → k < S ∨ S + 3 ≤ k) → Keeps K W (((((W.setCell ⟨S, 0, none⟩ (.int .i64 q1)).setCell ⟨S, 1, none⟩ (.int .i64 q2)).setCell ⟨S, 2, none⟩ (.int .i64 q3)).setCell ⟨S + 1, 0, none⟩ (.bool true)).setCell ⟨S + 1 + 1, 0, none⟩ (.int .i64 x)) := fun K hK =>
  Keeps.setCell (p := ⟨S + 1 + 1, 0, none⟩) (Keeps.setCell (p := ⟨S + 1, 0, none⟩) (Keeps.setCell (p := ⟨S, 2, none⟩) (Keeps.setCell (p := ⟨S, 1, none⟩) (Keeps.setCell (p := ⟨S, 0, none⟩) (Keeps.refl K W) _ (fun h => by rcases hK S h.2 with h3 | h3 <;> omega)) _ (fun h => by rcases hK S h.2 with h3 | h3 <;> omega)) _ (fun h => by rcases hK S h.2 with h3 | h3 <;> omega)) _ (fun h => by rcases hK (S + 1) h.2 with h3 | h3 <;> omega)) _ (fun h => by rcases hK (S + 1 + 1) h.2 with h3 | h3 <;> omega)
 have hA := hk (fun k => k < S ∨ S + 3 ≤ k) (fun k h => h)
 refine ⟨hA.boxN h.b0 (.inl (by omega)), hA.boxN h.b1 (.inl (by omega)), hA.boxN h.b2 (.inl (by omega)), ?_, ?_, ?_, h.below.trans (hA.below (by have := h.b0.lt; omega) (fun k hk => .inl (by omega))), fun b o hb => (hA.block b (Array.getElem?_eq_some_iff.1 (h.ds b o hb)).1 (.inr (hD b o hb))).trans (h.ds b o hb)⟩
 ·
  have e := ((((h.s0.set 0 (.int .i64 q1)).set 1 (.int .i64 q2)).set 2 (.int .i64 q3)).other (p := ⟨S + 1, 0, none⟩) (show S ≠ S + 1 by omega) (.bool true)).other (p := ⟨S + 1 + 1, 0, none⟩) (show S ≠ S + 1 + 1 by omega) (.int .i64 x)
  exact e
 ·
  have e1 : Boxed (((W.setCell ⟨S, 0, none⟩ (.int .i64 q1)).setCell ⟨S, 1, none⟩ (.int .i64 q2)).setCell ⟨S, 2, none⟩ (.int .i64 q3)) (S + 1) 4 (.bool st.2.2.2.1) := Keeps.boxed (K := fun k => k ≠ S) (Keeps.setCell (p := ⟨S, 2, none⟩) (Keeps.setCell (p := ⟨S, 1, none⟩) (Keeps.setCell (p := ⟨S, 0, none⟩) (Keeps.refl (fun k => k ≠ S) W) _ (fun h => h.2 rfl)) _ (fun h => h.2 rfl)) _ (fun h => h.2 rfl)) h.s1 (by omega)
  exact Keeps.boxed (K := fun k => k ≠ S + 1 + 1) ((Keeps.refl _ _).setCell _ (fun h => h.2 rfl)) (e1.set (.bool true)) (by omega)
 ·
  have e1 : Boxed ((((W.setCell ⟨S, 0, none⟩ (.int .i64 q1)).setCell ⟨S, 1, none⟩ (.int .i64 q2)).setCell ⟨S, 2, none⟩ (.int .i64 q3)).setCell ⟨S + 1, 0, none⟩ (.bool true)) (S + 1 + 1) 2 (.int .i64 st.2.2.2.2) := Keeps.boxed (K := fun k => k ≠ S ∧ k ≠ S + 1) (Keeps.setCell (p := ⟨S + 1, 0, none⟩) (Keeps.setCell (p := ⟨S, 2, none⟩) (Keeps.setCell (p := ⟨S, 1, none⟩) (Keeps.setCell (p := ⟨S, 0, none⟩) (Keeps.refl _ W) _ (fun h => h.2.1 rfl)) _ (fun h => h.2.1 rfl)) _ (fun h => h.2.1 rfl)) _ (fun h => h.2.2 rfl)) h.s2 ⟨by omega, by omega⟩
  exact e1.set (.int .i64 x)
attribute [local go_sem] Oper.semAt_some
set_option maxHeartbeats 16000000 in
set_option maxRecDepth 100000 in
theorem fit_Slot.calls (k : Nat) (A0_0 : Option Addr) (c0_0 : Nat) (l0_0 : List Int) (A0_1 : Option Addr) (c0_1 : Nat) (l0_1 : List Int) (A0_2 : Option Addr) (c0_2 : Nat) (l0_2 : List Int) (A0_3 : Option Addr) (c0_3 : Nat) (l0_3 : List Int) (A0_4 : Option Addr) (c0_4 : Nat) (l0_4 : List Int) (A0_5 : Option Addr) (c0_5 : Nat) (l0_5 : List Int) (a1_0 : Int) (a1_1 : Int) (a1_2 : Int) (a1_3 : Int) (a1_4 : Int) (a1_5 : Int) (a2 : Int) (r1 r2 r3 r4 : Int) (w : World) (hr0_0 : Kd.C (Kd.int .i64) w A0_0 l0_0.length l0_0) (hc0_0 : l0_0.length ≤ c0_0) (hr0_1 : Kd.C (Kd.int .i64) w A0_1 l0_1.length l0_1) (hc0_1 : l0_1.length ≤ c0_1) (hr0_2 : Kd.C (Kd.int .i64) w A0_2 l0_2.length l0_2) (hc0_2 : l0_2.length ≤ c0_2) (hr0_3 : Kd.C (Kd.int .i64) w A0_3 l0_3.length l0_3) (hc0_3 : l0_3.length ≤ c0_3) (hr0_4 : Kd.C (Kd.int .i64) w A0_4 l0_4.length l0_4) (hc0_4 : l0_4.length ≤ c0_4) (hr0_5 : Kd.C (Kd.int .i64) w A0_5 l0_5.length l0_5) (hc0_5 : l0_5.length ≤ c0_5) (h : fit_Slot.f k l0_0 l0_1 l0_2 l0_3 l0_4 l0_5 a1_0 a1_1 a1_2 a1_3 a1_4 a1_5 a2 = some (r1, r2, r3, r4)) :
  Calls Try.prog 8 #[.agg #[.slice A0_0 l0_0.length c0_0, .slice A0_1 l0_1.length c0_1, .slice A0_2 l0_2.length c0_2, .slice A0_3 l0_3.length c0_3, .slice A0_4 l0_4.length c0_4, .slice A0_5 l0_5.length c0_5], .agg #[.int .i64 a1_0, .int .i64 a1_1, .int .i64 a1_2, .int .i64 a1_3, .int .i64 a1_4, .int .i64 a1_5], .int .i64 a2] w fun e w' => e = .returned (.tuple #[.agg #[.int .i64 r1, .int .i64 r2, .int .i64 r3], .int .i64 r4]) ∧ Below w.heap.size w w' := by
 unfold fit_Slot.f at h
 obtain ⟨b, hb, h⟩ := Option.bind_eq_some_iff.1 h
 have HM := Aside0.mk hb
 clear hb
 have hu24 := Try.underlying24
 have hu26 := Try.underlying26
 have hu28 := Try.underlying28
 have hu30 := Try.underlying30
 have hix0 : ∀ W : World, (Instr.index 55 (.agg #[.slice A0_4 l0_4.length c0_4, .slice A0_5 l0_5.length c0_5, .slice A0_2 l0_2.length c0_2, .slice A0_3 l0_3.length c0_3]) (.int .i64 0)).run Try.prog W = .ok (.agg #[.slice A0_4 l0_4.length c0_4, .slice A0_5 l0_5.length c0_5]) W := fun W => by kernel_rfl
 have hix1 : ∀ W : World, (Instr.index 55 (.agg #[.slice A0_4 l0_4.length c0_4, .slice A0_5 l0_5.length c0_5, .slice A0_2 l0_2.length c0_2, .slice A0_3 l0_3.length c0_3]) (.int .i64 1)).run Try.prog W = .ok (.agg #[.slice A0_2 l0_2.length c0_2, .slice A0_3 l0_3.length c0_3]) W := fun W => by kernel_rfl
 have hmf : ∀ (fn : Fn) (first cap : Array Value) (w : World), (Instr.makeFunc fn first cap).run Try.prog w = .ok (.func fn first cap) w := fun _ _ _ _ => rfl
 have HR0 := Aside0.mk hr0_0
 have HC0 := Aside0.mk hc0_0
 have HR1 := Aside0.mk hr0_1
 have HC1 := Aside0.mk hc0_1
 have HR2 := Aside0.mk hr0_2
 have HC2 := Aside0.mk hc0_2
 have HR3 := Aside0.mk hr0_3
 have HC3 := Aside0.mk hc0_3
 have HR4 := Aside0.mk hr0_4
 have HC4 := Aside0.mk hc0_4
 have HR5 := Aside0.mk hr0_5
 have HC5 := Aside0.mk hc0_5
 clear hr0_0 hc0_0 hr0_1 hc0_1 hr0_2 hc0_2 hr0_3 hc0_3 hr0_4 hc0_4 hr0_5 hc0_5
 obtain ⟨H, hH⟩ : ∃ H, w.heap.size = H := ⟨_, rfl⟩
 obtain ⟨W3, hW3⟩ : ∃ W3, List.foldl World.alloc w [.cells #[.slice A0_0 l0_0.length c0_0, .slice A0_1 l0_1.length c0_1, .slice A0_2 l0_2.length c0_2, .slice A0_3 l0_3.length c0_3, .slice A0_4 l0_4.length c0_4, .slice A0_5 l0_5.length c0_5] 26, .cells #[.int .i64 a1_0, .int .i64 a1_1, .int .i64 a1_2, .int .i64 a1_3, .int .i64 a1_4, .int .i64 a1_5] 28, .cells #[.int .i64 0, .int .i64 0, .int .i64 0] 30] = W3 := ⟨_, rfl⟩
 have b0 : BoxN W3 H 26 [.slice A0_0 l0_0.length c0_0, .slice A0_1 l0_1.length c0_1, .slice A0_2 l0_2.length c0_2, .slice A0_3 l0_3.length c0_3, .slice A0_4 l0_4.length c0_4, .slice A0_5 l0_5.length c0_5] := by have := al_at hW3 0 _ rfl; rw [hH] at this; exact this
 have b1 : BoxN W3 (H + 1) 28 [.int .i64 a1_0, .int .i64 a1_1, .int .i64 a1_2, .int .i64 a1_3, .int .i64 a1_4, .int .i64 a1_5] := by have := al_at hW3 1 _ rfl; rw [hH] at this; exact this
 have b2 : BoxN W3 (H + 1 + 1) 30 [.int .i64 0, .int .i64 0, .int .i64 0] := by have := al_at hW3 2 _ rfl; rw [hH] at this; exact this
 have b3 : Below w.heap.size w W3 := by rw [← hW3]; exact al_below _ w
 have b4 : W3.heap.size = H + 1 + 1 + 1 := by rw [← hW3, al_size, hH]; rfl
 simp only [List.foldl_cons, List.foldl_nil] at hW3
 cases b with
 | false =>
  rw [if_neg (by simp)] at h
  simp only [Option.some.injEq, Prod.mk.injEq] at h
  obtain ⟨rfl, rfl, rfl, rfl⟩ := h
  go_enter Try.func8, Try.ntmps8
  go_wp2
  clear hW3
  have x0 := b0.cell 0 rfl
  have x1 := b0.cell 1 rfl
  have x2 := b0.cell 2 rfl
  have x3 := b0.cell 3 rfl
  have x4 := b0.cell 4 rfl
  have x5 := b0.cell 5 rfl
  have y0 := b1.cell 0 rfl
  have y1 := b1.cell 1 rfl
  have y2 := b1.cell 2 rfl
  have y3 := b1.cell 3 rfl
  have y4 := b1.cell 4 rfl
  have y5 := b1.cell 5 rfl
  replace b2 := Aside0.mk b2
  replace b3 := Aside0.mk b3
  refine wp_scope_straight ?_
  go_wp2_with (go_at_call 17; (with_reducible refine (may_one k A0_0 c0_0 l0_0 A0_1 c0_1 l0_1 A0_2 c0_2 l0_2 A0_3 c0_3 l0_3 A0_4 c0_4 l0_4 A0_5 c0_5 l0_5 a1_0 a1_1 a1_2 a1_3 a1_4 a1_5 a2 _ false _ b4 (Kd.C_below HR0.out b3.out) HC0.out (Kd.C_below HR1.out b3.out) HC1.out (Kd.C_below HR2.out b3.out) HC2.out (Kd.C_below HR3.out b3.out) HC3.out (Kd.C_below HR4.out b3.out) HC4.out (Kd.C_below HR5.out b3.out) HC5.out HM.out).mono ?_); rintro e w1 ⟨rfl, hb1⟩; have d2 := Aside0.mk (BoxN.below b2.out hb1 b2.out.lt); have d3 := Aside0.mk (b3.out.trans (hb1.mono b3.out.size)); have m0 := d2.out.cell 0 rfl; have m1 := d2.out.cell 1 rfl; have m2 := d2.out.cell 2 rfl; have n0 := d2.out.frozen 0; have n1 := d2.out.frozen 1; have n2 := d2.out.frozen 2; clear hb1)
  simp only [Exit.noGoto_ret]
  have hb2 : BoxN (((w1.setCell ⟨H + 1 + 1, 0, none⟩ (.int .i64 0)).setCell ⟨H + 1 + 1, 1, none⟩ (.int .i64 0)).setCell ⟨H + 1 + 1, 2, none⟩ (.int .i64 0)) (H + 1 + 1) 30 [.int .i64 0, .int .i64 0, .int .i64 0] := ((d2.out.set 0 (.int .i64 0)).set 1 (.int .i64 0)).set 2 (.int .i64 0)
  refine bodyPost_ret (results_ct rfl _ _ (H + 1 + 1) 30 #[.int .i64 0, .int .i64 0, .int .i64 0] (0, 0) _ rfl hb2 Try.underlying30 rfl (by kernel_rfl)) rfl ?_
  have hk9 : Keeps (fun k => k ≠ H + 1 + 1) w1 (((w1.setCell ⟨H + 1 + 1, 0, none⟩ (.int .i64 0)).setCell ⟨H + 1 + 1, 1, none⟩ (.int .i64 0)).setCell ⟨H + 1 + 1, 2, none⟩ (.int .i64 0)) := Keeps.setCell (p := ⟨H + 1 + 1, 2, none⟩) (Keeps.setCell (p := ⟨H + 1 + 1, 1, none⟩) (Keeps.setCell (p := ⟨H + 1 + 1, 0, none⟩) (Keeps.refl (fun k => k ≠ H + 1 + 1) w1) _ (fun h => h.2 rfl)) _ (fun h => h.2 rfl)) _ (fun h => h.2 rfl)
  exact ⟨rfl, d3.out.trans (hk9.below (by have := d3.out.size; omega) (fun k hk => by omega))⟩
 | true =>
  rw [if_pos rfl] at h
  by_cases hl : l0_4.length ≤ 100000 ∧ l0_2.length ≤ 100000
  case neg => rw [if_neg hl] at h; cases h
  rw [if_pos hl] at h
  unfold slotF at h
  obtain ⟨s1, hs1, h⟩ := Option.bind_eq_some_iff.1 h
  obtain ⟨s2, hs2, h⟩ := Option.bind_eq_some_iff.1 h
  replace h := Aside0.mk h
  replace hs1 := Aside0.mk hs1
  replace hs2 := Aside0.mk hs2
  refine (callsIn_wide (n := 9)).1 (callsIn_of_wp_marks Try.func8 rfl trivial ?_ rfl)
  simp only [Try.ntmps8, List.size_toArray, List.length_cons, List.length_nil, Nat.reduceAdd, Nat.reduceSub, Array.replicate_succ, Array.replicate_zero, List.push_toArray, List.append_toArray, List.nil_append, List.cons_append]
  gi_wp2
  clear hW3
  have x0 := b0.cell 0 rfl
  have x1 := b0.cell 1 rfl
  have x2 := b0.cell 2 rfl
  have x3 := b0.cell 3 rfl
  have x4 := b0.cell 4 rfl
  have x5 := b0.cell 5 rfl
  have y0 := b1.cell 0 rfl
  have y1 := b1.cell 1 rfl
  have y2 := b1.cell 2 rfl
  have y3 := b1.cell 3 rfl
  have y4 := b1.cell 4 rfl
  have y5 := b1.cell 5 rfl
  replace b0 := Aside0.mk b0
  replace b1 := Aside0.mk b1
  replace b2 := Aside0.mk b2
  replace b3 := Aside0.mk b3
  refine wpIn_wide.2 (wp_scope_straight ((wpIn_wide (n := 8)).1 ?_))
  gi_wp2_with (refine ⟨trivial, ?_⟩; gi_at_call 17; (with_reducible refine (callsIn_wide.2 (may_one k A0_0 c0_0 l0_0 A0_1 c0_1 l0_1 A0_2 c0_2 l0_2 A0_3 c0_3 l0_3 A0_4 c0_4 l0_4 A0_5 c0_5 l0_5 a1_0 a1_1 a1_2 a1_3 a1_4 a1_5 a2 _ true _ b4 (Kd.C_below HR0.out b3.out) HC0.out (Kd.C_below HR1.out b3.out) HC1.out (Kd.C_below HR2.out b3.out) HC2.out (Kd.C_below HR3.out b3.out) HC3.out (Kd.C_below HR4.out b3.out) HC4.out (Kd.C_below HR5.out b3.out) HC5.out HM.out)).mono ?_); rintro e w1 ⟨rfl, hb1⟩; have d0 := Aside0.mk (BoxN.below b0.out hb1 b0.out.lt); have d1 := Aside0.mk (BoxN.below b1.out hb1 b1.out.lt); have d2 := Aside0.mk (BoxN.below b2.out hb1 b2.out.lt); have d3 := Aside0.mk (b3.out.trans (hb1.mono b3.out.size)); have hszS : H + 1 + 1 + 1 ≤ w1.heap.size := (by rw [← b4]; exact hb1.size); obtain ⟨S, hS⟩ : ∃ S, w1.heap.size = S := ⟨_, rfl⟩; clear hb1)
  obtain ⟨W4, hW4⟩ : ∃ W4, List.foldl World.alloc w1 [.cells #[.int .i64 0, .int .i64 0, .int .i64 0] 30, .cells #[.bool false] 4, .cells #[.int .i64 1099511627777] 2] = W4 := ⟨_, rfl⟩
  have e4 : Below w1.heap.size w1 W4 := by rw [← hW4]; exact al_below _ w1
  have e5 : W4.heap.size = S + 3 := by rw [← hW4, al_size, hS]; rfl
  have G0 : SlotB w H S [.slice A0_0 l0_0.length c0_0, .slice A0_1 l0_1.length c0_1, .slice A0_2 l0_2.length c0_2, .slice A0_3 l0_3.length c0_3, .slice A0_4 l0_4.length c0_4, .slice A0_5 l0_5.length c0_5] [.int .i64 a1_0, .int .i64 a1_1, .int .i64 a1_2, .int .i64 a1_3, .int .i64 a1_4, .int .i64 a1_5] [] (0, 0, 0, false, 1099511627777) W4 := ⟨BoxN.below d0.out e4 d0.out.lt, BoxN.below d1.out e4 d1.out.lt, BoxN.below d2.out e4 d2.out.lt, (by have := al_at hW4 0 _ rfl; rw [hS] at this; exact this), (by have := al_at hW4 1 _ rfl; rw [hS] at this; exact this), (by have := al_at hW4 2 _ rfl; rw [hS] at this; exact this), hH ▸ d3.out.trans (e4.mono d3.out.size), fun b o h => by cases h⟩
  replace G0 := Aside0.mk G0
  simp only [List.foldl_cons, List.foldl_nil] at hW4
  rw [hW4]
  clear hW4 e4 d0 d1 d2 d3 x0 x1 x2 x3 x4 x5 y0 y1 y2 y3 y4 y5 b0 b1 b2 b3 b4
  replace hszS : H + 1 + 1 + 1 ≤ S := hS ▸ hszS
  clear hS
  refine wpIn_label ?_
  have x0 := G0.out.b0.cell 0 rfl
  have x1 := G0.out.b0.cell 1 rfl
  have x2 := G0.out.b0.cell 2 rfl
  have x3 := G0.out.b0.cell 3 rfl
  have x4 := G0.out.b0.cell 4 rfl
  have x5 := G0.out.b0.cell 5 rfl
  gi_wp2
  refine wpIn_loop_rounds 3 ?_
  rw [roundsIn_succ]
  gi_wp2_with (refine ⟨trivial, ?_⟩; gi_at_call 18; refine (callsIn_wide.2 (fit_times_calls _ _ rfl rfl _ _)).mono ?_; rintro e w3 ⟨rfl, rfl⟩; skip)

  obtain ⟨Wr, hWr⟩ : ∃ Wr, List.foldl World.alloc W4 [.cells #[.slice A0_4 l0_4.length c0_4, .slice A0_5 l0_5.length c0_5] 24, .cells #[.slice A0_4 l0_4.length c0_4, .slice A0_5 l0_5.length c0_5] 24, .cells #[.int .i64 a2] 2] = Wr := ⟨_, rfl⟩
  have f4 : Below W4.heap.size W4 Wr := by rw [← hWr]; exact al_below _ W4
  have f5 : Wr.heap.size = S + 3 + 3 := by rw [← hWr, al_size, e5]; rfl
  have f1 : BoxN Wr (S + 3 + 1) 24 [.slice A0_4 l0_4.length c0_4, .slice A0_5 l0_5.length c0_5] := by have := al_at hWr 1 _ rfl; rw [e5] at this; exact this
  have f2 : BoxN Wr (S + 3 + 1 + 1) 2 [.int .i64 a2] := by have := al_at hWr 2 _ rfl; rw [e5] at this; exact this
  have GR := G0.out.keep (K := fun _ => True) (Keeps.of_below f4 (fun k hk _ => hk)) hszS (fun _ _ => trivial) (fun _ _ _ => trivial)
  have f3 : Below w.heap.size w Wr := by rw [hH]; exact GR.below
  simp only [List.foldl_cons, List.foldl_nil] at hWr
  rw [hWr]
  clear hWr f4
  have hJ0 : ∀ rest, [] ++ rest = timesT l0_4 a2 → rowF k l0_0 l0_1 l0_2 l0_3 l0_4 l0_5 a1_0 a1_1 a1_2 a1_3 a1_4 a1_5 rest (0, 0, 0, false, 1099511627777) = some s1 := fun rest e => by rw [List.nil_append] at e; rw [e]; exact hs1.out
  refine wpIn_range (n := 8) (w := Wr) rfl (by omega) (gf := 31) (lb := #[.pointer (some ⟨S + 3 + 1 + 1, 0, none⟩), .pointer (some ⟨S + 3 + 1, 0, none⟩)]) rfl trivial (enters_of Try.func31 (by kernel_rfl) rfl)
   (fit_times_seq7 w A0_4 c0_4 l0_4 (.slice A0_5 l0_5.length c0_5) a2 (S + 3 + 1) (S + 3 + 1 + 1) Wr HR4.out f3 f1 f2 hl.1) (fun k hk => hk.elim) (fun k hk => by rcases hk with hk | hk | hk <;> omega) (fun _ => rfl)
   (fun pre W => SlotB w H S [.slice A0_0 l0_0.length c0_0, .slice A0_1 l0_1.length c0_1, .slice A0_2 l0_2.length c0_2, .slice A0_3 l0_3.length c0_3, .slice A0_4 l0_4.length c0_4, .slice A0_5 l0_5.length c0_5] [.int .i64 a1_0, .int .i64 a1_1, .int .i64 a1_2, .int .i64 a1_3, .int .i64 a1_4, .int .i64 a1_5] [] (0, 0, 0, false, 1099511627777) W ∧ ∀ rest, pre ++ rest = timesT l0_4 a2 → rowF k l0_0 l0_1 l0_2 l0_3 l0_4 l0_5 a1_0 a1_1 a1_2 a1_3 a1_4 a1_5 rest (0, 0, 0, false, 1099511627777) = some s1)
   (fun c s W => c = .exit 1 ∧ SlotB w H S [.slice A0_0 l0_0.length c0_0, .slice A0_1 l0_1.length c0_1, .slice A0_2 l0_2.length c0_2, .slice A0_3 l0_3.length c0_3, .slice A0_4 l0_4.length c0_4, .slice A0_5 l0_5.length c0_5] [.int .i64 a1_0, .int .i64 a1_1, .int .i64 a1_2, .int .i64 a1_3, .int .i64 a1_4, .int .i64 a1_5] [] s1 W)
   (by
    rintro s A B ⟨h1, h6⟩ hk
    exact ⟨h1.keep hk hszS (fun k hk => ⟨not_false, by omega, by omega⟩) (fun b o h => by cases h), h6⟩)
   (by
    rintro c s A B ⟨h0, h1⟩ hk
    exact ⟨h0, h1.keep hk hszS (fun k hk => ⟨not_false, by omega, by omega⟩) (fun b o h => by cases h)⟩)
   ⟨GR, hJ0⟩
   (fun pre x a' W => (SlotB w H S [.slice A0_0 l0_0.length c0_0, .slice A0_1 l0_1.length c0_1, .slice A0_2 l0_2.length c0_2, .slice A0_3 l0_3.length c0_3, .slice A0_4 l0_4.length c0_4, .slice A0_5 l0_5.length c0_5] [.int .i64 a1_0, .int .i64 a1_1, .int .i64 a1_2, .int .i64 a1_3, .int .i64 a1_4, .int .i64 a1_5] [] (0, 0, 0, false, 1099511627777) W ∧ ∀ rest, pre ++ rest = timesT l0_4 a2 → rowF k l0_0 l0_1 l0_2 l0_3 l0_4 l0_5 a1_0 a1_1 a1_2 a1_3 a1_4 a1_5 rest (0, 0, 0, false, 1099511627777) = some s1) ∧
    a' = { tmps := #[Value.agg #[Value.slice A0_0 l0_0.length c0_0, Value.slice A0_1 l0_1.length c0_1, Value.slice A0_2 l0_2.length c0_2, Value.slice A0_3 l0_3.length c0_3, Value.slice A0_4 l0_4.length c0_4, Value.slice A0_5 l0_5.length c0_5],
       Value.agg #[Value.int IntKind.i64 a1_0, Value.int IntKind.i64 a1_1, Value.int IntKind.i64 a1_2, Value.int IntKind.i64 a1_3, Value.int IntKind.i64 a1_4, Value.int IntKind.i64 a1_5],
       Value.int IntKind.i64 a2,
       Value.pointer (some { block := H, off := 0 }),
       Value.pointer (some { block := H + 1, off := 0 }),
       undef,
       Value.pointer (some { block := H + 1 + 1, off := 0 }),
       Value.int IntKind.i64 0,
       Value.pointer (some { block := S, off := 0 }),
       Value.pointer (some { block := S + 1, off := 0 }),
       Value.pointer (some { block := S + 1 + 1, off := 0 }),
       undef,
       Value.pointer (some { block := S + 3, off := 0 }),
       Value.int IntKind.i64 x,
       undef,
       undef,
       Value.agg #[Value.slice A0_0 l0_0.length c0_0, Value.slice A0_1 l0_1.length c0_1, Value.slice A0_2 l0_2.length c0_2, Value.slice A0_3 l0_3.length c0_3, Value.slice A0_4 l0_4.length c0_4, Value.slice A0_5 l0_5.length c0_5],
       Value.agg #[Value.int IntKind.i64 a1_0, Value.int IntKind.i64 a1_1, Value.int IntKind.i64 a1_2, Value.int IntKind.i64 a1_3, Value.int IntKind.i64 a1_4, Value.int IntKind.i64 a1_5],
       Value.int IntKind.i64 a2,
       Value.slice (some { block := H + 1 + 1 + 1, off := 0 }) 1 1,
       Value.bool true,
       Value.bool false,
       undef,
       Value.agg #[Value.int IntKind.i64 0, Value.int IntKind.i64 0, Value.int IntKind.i64 0],
       Value.pointer (some { block := H, off := 4 }),
       Value.agg #[Value.slice A0_4 l0_4.length c0_4, Value.slice A0_5 l0_5.length c0_5],
       Value.pointer (some { block := H, off := 2 }),
       Value.agg #[Value.slice A0_2 l0_2.length c0_2, Value.slice A0_3 l0_3.length c0_3],
       Value.agg #[Value.slice A0_4 l0_4.length c0_4, Value.slice A0_5 l0_5.length c0_5, Value.slice A0_2 l0_2.length c0_2, Value.slice A0_3 l0_3.length c0_3],
       Value.int IntKind.i64 0,
       Value.bool true,
       Value.agg #[Value.slice A0_4 l0_4.length c0_4, Value.slice A0_5 l0_5.length c0_5],
       Value.agg #[Value.slice A0_4 l0_4.length c0_4, Value.slice A0_5 l0_5.length c0_5],
       Value.int IntKind.i64 a2,
       Value.func (Fn.func 31) #[] #[Value.pointer (some { block := S + 3 + 1 + 1, off := 0 }), Value.pointer (some { block := S + 3 + 1, off := 0 })],
       Value.int IntKind.i64 x,
       undef,
       undef,
       undef,
       undef,
       undef,
       undef,
       undef,
       undef,
       undef,
       undef,
       undef,
       undef,
       undef,
       undef,
       undef,
       undef,
       undef,
       undef], defers := [] })
   (by
    rintro pre x a' A B ⟨⟨h1, h6⟩, h7⟩ hk
    exact ⟨⟨h1.keep hk hszS (fun k hk => by omega) (fun b o h => by cases h), h6⟩, h7⟩)
   ?assign ?body ?done ?stop
  case assign =>
   rintro pre x W hi hpre hsz
   simp only [encTime]
   gi_wp2
   exact ⟨Keeps.refl _ W, hi, by first | rfl | trivial⟩
  case body =>
   rintro pre x a' W hpre hrec ⟨⟨hG, h6⟩, rfl⟩
   obtain ⟨rest, hrest⟩ := hpre
   have hF := h6 (x :: rest) (by rw [← hrest]; simp)
   unfold rowF at hF
   have hx0 := hG.b0.cell 0 rfl
   have hx1 := hG.b0.cell 1 rfl
   have hx2 := hG.b0.cell 2 rfl
   have hx3 := hG.b0.cell 3 rfl
   have hx4 := hG.b0.cell 4 rfl
   have hx5 := hG.b0.cell 5 rfl
   have hy0 := hG.b1.cell 0 rfl
   have hy1 := hG.b1.cell 1 rfl
   have hy2 := hG.b1.cell 2 rfl
   have hy3 := hG.b1.cell 3 rfl
   have hy4 := hG.b1.cell 4 rfl
   have hy5 := hG.b1.cell 5 rfl
   have hz := hG.s2.cell
   have GG := Aside0.mk hG
   clear hG
   by_cases hc : (0, 0, 0, false, 1099511627777).2.2.2.2 ≤ x
   ·
    rw [if_pos hc] at hF
    have e : (0, 0, 0, false, 1099511627777) = s1 := Option.some.inj hF
    replace GG := Aside0.mk (show SlotB w H S [.slice A0_0 l0_0.length c0_0, .slice A0_1 l0_1.length c0_1, .slice A0_2 l0_2.length c0_2, .slice A0_3 l0_3.length c0_3, .slice A0_4 l0_4.length c0_4, .slice A0_5 l0_5.length c0_5] [.int .i64 a1_0, .int .i64 a1_1, .int .i64 a1_2, .int .i64 a1_3, .int .i64 a1_4, .int .i64 a1_5] [] s1 W by rw [← e]; exact GG.out)
    replace hc : (1099511627777 : Int) ≤ x := hc
    clear hF e h6 hJ0
    gi_wp2
    exact ⟨Keeps.refl _ W, rfl, GG.out⟩
   ·
    rw [if_neg hc] at hF
    obtain ⟨⟨q1, q2, q3, qb⟩, hq, hF⟩ := Option.bind_eq_some_iff.1 hF
    replace hq := Aside0.mk hq
    replace hc : ¬ (1099511627777 : Int) ≤ x := hc
    cases qb with
    | true =>
     rw [if_pos rfl] at hF
     have e : (q1, q2, q3, true, x) = s1 := Option.some.inj hF
     replace e := Aside0.mk e
     clear hF h6 hJ0
     gi_wp2_with (refine ⟨trivial, ?_⟩; gi_at_call 19; (refine (callsIn_wide.2 (fit_behind.calls k A0_0 c0_0 l0_0 A0_1 c0_1 l0_1 A0_2 c0_2 l0_2 A0_3 c0_3 l0_3 A0_4 c0_4 l0_4 A0_5 c0_5 l0_5 a1_0 a1_1 a1_2 a1_3 a1_4 a1_5 x q1 q2 q3 true _ (Kd.C_below HR0.out (hH.symm ▸ GG.out.below)) HC0.out (Kd.C_below HR1.out (hH.symm ▸ GG.out.below)) HC1.out (Kd.C_below HR2.out (hH.symm ▸ GG.out.below)) HC2.out (Kd.C_below HR3.out (hH.symm ▸ GG.out.below)) HC3.out (Kd.C_below HR4.out (hH.symm ▸ GG.out.below)) HC4.out (Kd.C_below HR5.out (hH.symm ▸ GG.out.below)) HC5.out hq.out)).mono ?_); rintro e w1 ⟨rfl, hb1⟩; have hk1 := Aside0.mk (show Keeps (fun _ => True) W w1 from Keeps.of_below hb1 (fun k hk _ => hk)); have G1 := Aside0.mk (GG.out.keep hk1.out hszS (fun _ _ => trivial) (fun _ _ _ => trivial)); have G2 := Aside0.mk (G1.out.keep (K := fun _ => True) ((Keeps.refl _ _).alloc (.cells #[.int .i64 q1, .int .i64 q2, .int .i64 q3] 30)) hszS (fun _ _ => trivial) (fun _ _ _ => trivial)); have k0 := G2.out.s0.cell 0 rfl; have k1 := G2.out.s0.cell 1 rfl; have k2 := G2.out.s0.cell 2 rfl; have k3 := G2.out.s1.cell; have k4 := G2.out.s2.cell; have l0 := G2.out.s0.frozen 0; have l1 := G2.out.s0.frozen 1; have l2 := G2.out.s0.frozen 2; have l3 := G2.out.s1.frozen; have l4 := G2.out.s2.frozen; clear hb1)
     refine ⟨?_, rfl, by rw [← e.out]; exact G2.out.store hszS (fun b o h => by cases h) q1 q2 q3 x⟩
     exact Keeps.setCell (p := ⟨S + 1 + 1, 0, none⟩) (Keeps.setCell (p := ⟨S + 1, 0, none⟩) (Keeps.setCell (p := ⟨S, 2, none⟩) (Keeps.setCell (p := ⟨S, 1, none⟩) (Keeps.setCell (p := ⟨S, 0, none⟩) ((hk1.out.mono (fun k _ _ => trivial)).alloc _) _ (fun h => by rcases h.2 with h3 | h3 <;> (simp only at h3; omega))) _ (fun h => by rcases h.2 with h3 | h3 <;> (simp only at h3; omega))) _ (fun h => by rcases h.2 with h3 | h3 <;> (simp only at h3; omega))) _ (fun h => by rcases h.2 with h3 | h3 <;> (simp only at h3; omega))) _ (fun h => by rcases h.2 with h3 | h3 <;> (simp only at h3; omega))
    | false =>
     rw [if_neg (by simp)] at hF
     gi_wp2_with (refine ⟨trivial, ?_⟩; gi_at_call 19; (refine (callsIn_wide.2 (fit_behind.calls k A0_0 c0_0 l0_0 A0_1 c0_1 l0_1 A0_2 c0_2 l0_2 A0_3 c0_3 l0_3 A0_4 c0_4 l0_4 A0_5 c0_5 l0_5 a1_0 a1_1 a1_2 a1_3 a1_4 a1_5 x q1 q2 q3 false _ (Kd.C_below HR0.out (hH.symm ▸ GG.out.below)) HC0.out (Kd.C_below HR1.out (hH.symm ▸ GG.out.below)) HC1.out (Kd.C_below HR2.out (hH.symm ▸ GG.out.below)) HC2.out (Kd.C_below HR3.out (hH.symm ▸ GG.out.below)) HC3.out (Kd.C_below HR4.out (hH.symm ▸ GG.out.below)) HC4.out (Kd.C_below HR5.out (hH.symm ▸ GG.out.below)) HC5.out hq.out)).mono ?_); rintro e w1 ⟨rfl, hb1⟩; have hk1 := Aside0.mk (show Keeps (fun _ => True) W w1 from Keeps.of_below hb1 (fun k hk _ => hk)); have G1 := Aside0.mk (GG.out.keep hk1.out hszS (fun _ _ => trivial) (fun _ _ _ => trivial)); clear hb1)
     refine ⟨(hk1.out.mono (fun k _ _ => trivial)).alloc _, G1.out.keep (K := fun _ => True) ((Keeps.refl _ _).alloc _) hszS (fun _ _ => trivial) (fun _ _ _ => trivial), fun rest' e2 => ?_⟩
     have : rest' = rest := by
      rw [← hrest] at e2
      exact List.append_cancel_left e2
     rw [this]
     exact hF
  case' done =>
   intro xs W hsz hxs hI hW
   obtain ⟨hG, h6⟩ := hI
   subst hxs
   have hr := h6 [] (by simp)
   unfold rowF at hr
   have e : (0, 0, 0, false, 1099511627777) = s1 := Option.some.inj hr
   replace hG : SlotB w H S [.slice A0_0 l0_0.length c0_0, .slice A0_1 l0_1.length c0_1, .slice A0_2 l0_2.length c0_2, .slice A0_3 l0_3.length c0_3, .slice A0_4 l0_4.length c0_4, .slice A0_5 l0_5.length c0_5] [.int .i64 a1_0, .int .i64 a1_1, .int .i64 a1_2, .int .i64 a1_3, .int .i64 a1_4, .int .i64 a1_5] [] s1 W := by rw [← e]; exact hG
  case' stop =>
   rintro c0' xs W hsz hpre ⟨rfl, hG⟩ hW
  all_goals
   replace hW : W.heap[S + 3 + 3]? = some (.deferred (some [])) := f5 ▸ hW
   have G1 := Aside0.mk (show SlotB w H S [.slice A0_0 l0_0.length c0_0, .slice A0_1 l0_1.length c0_1, .slice A0_2 l0_2.length c0_2, .slice A0_3 l0_3.length c0_3, .slice A0_4 l0_4.length c0_4, .slice A0_5 l0_5.length c0_5] [.int .i64 a1_0, .int .i64 a1_1, .int .i64 a1_2, .int .i64 a1_3, .int .i64 a1_4, .int .i64 a1_5] [(S + 3 + 3, .deferred (some []))] s1 W from ⟨hG.b0, hG.b1, hG.b2, hG.s0, hG.s1, hG.s2, hG.below, fun b o h => by simp only [List.mem_singleton, Prod.mk.injEq] at h; obtain ⟨rfl, rfl⟩ := h; exact hW⟩)
   have hE6 : S + 3 + 3 + 2 ≤ W.heap.size := f5 ▸ hsz
   obtain ⟨E, e5'⟩ : ∃ E, W.heap.size = E := ⟨_, rfl⟩
   rw [e5'] at hE6
   clear hG hW hsz f1 f2 f3 G0 GR hJ0 e5
   have e5 := e5'
   have W5e : W = W := rfl
   gi_wp2
   rw [roundsIn_succ]
   gi_wp2_with (refine ⟨trivial, ?_⟩; gi_at_call 18; refine (callsIn_wide.2 (fit_times_calls _ _ rfl rfl _ _)).mono ?_; rintro e w3 ⟨rfl, rfl⟩; skip)
  ·
   obtain ⟨Wr, hWr⟩ : ∃ Wr, List.foldl World.alloc W [.cells #[.slice A0_2 l0_2.length c0_2, .slice A0_3 l0_3.length c0_3] 24, .cells #[.slice A0_2 l0_2.length c0_2, .slice A0_3 l0_3.length c0_3] 24, .cells #[.int .i64 a2] 2] = Wr := ⟨_, rfl⟩
   have f4 : Below W.heap.size W Wr := by rw [← hWr]; exact al_below _ W
   have f5 : Wr.heap.size = E + 3 := by rw [← hWr, al_size, e5]; rfl
   have f1 : BoxN Wr (E + 1) 24 [.slice A0_2 l0_2.length c0_2, .slice A0_3 l0_3.length c0_3] := by have := al_at hWr 1 _ rfl; rw [e5] at this; exact this
   have f2 : BoxN Wr (E + 1 + 1) 2 [.int .i64 a2] := by have := al_at hWr 2 _ rfl; rw [e5] at this; exact this
   have GR := G1.out.keep (K := fun _ => True) (Keeps.of_below f4 (fun k hk _ => hk)) hszS (fun _ _ => trivial) (fun _ _ _ => trivial)
   have f3 : Below w.heap.size w Wr := by rw [hH]; exact GR.below
   simp only [List.foldl_cons, List.foldl_nil] at hWr
   rw [hWr]
   clear hWr f4
   have hJ0 : ∀ rest, [] ++ rest = timesT l0_2 a2 → rowF k l0_0 l0_1 l0_2 l0_3 l0_4 l0_5 a1_0 a1_1 a1_2 a1_3 a1_4 a1_5 rest s1 = some s2 := fun rest e => by rw [List.nil_append] at e; rw [e]; exact hs2.out
   refine wpIn_range (n := 8) (w := Wr) rfl (by omega) (gf := 31) (lb := #[.pointer (some ⟨E + 1 + 1, 0, none⟩), .pointer (some ⟨E + 1, 0, none⟩)]) rfl trivial (enters_of Try.func31 (by kernel_rfl) rfl)
    (fit_times_seq7 w A0_2 c0_2 l0_2 (.slice A0_3 l0_3.length c0_3) a2 (E + 1) (E + 1 + 1) Wr HR2.out f3 f1 f2 hl.2) (fun k hk => hk.elim) (fun k hk => by rcases hk with hk | hk | hk <;> omega) (fun _ => rfl)
    (fun pre W => SlotB w H S [.slice A0_0 l0_0.length c0_0, .slice A0_1 l0_1.length c0_1, .slice A0_2 l0_2.length c0_2, .slice A0_3 l0_3.length c0_3, .slice A0_4 l0_4.length c0_4, .slice A0_5 l0_5.length c0_5] [.int .i64 a1_0, .int .i64 a1_1, .int .i64 a1_2, .int .i64 a1_3, .int .i64 a1_4, .int .i64 a1_5] [(S + 3 + 3, .deferred (some []))] s1 W ∧ ∀ rest, pre ++ rest = timesT l0_2 a2 → rowF k l0_0 l0_1 l0_2 l0_3 l0_4 l0_5 a1_0 a1_1 a1_2 a1_3 a1_4 a1_5 rest s1 = some s2)
    (fun c s W => c = .exit 1 ∧ SlotB w H S [.slice A0_0 l0_0.length c0_0, .slice A0_1 l0_1.length c0_1, .slice A0_2 l0_2.length c0_2, .slice A0_3 l0_3.length c0_3, .slice A0_4 l0_4.length c0_4, .slice A0_5 l0_5.length c0_5] [.int .i64 a1_0, .int .i64 a1_1, .int .i64 a1_2, .int .i64 a1_3, .int .i64 a1_4, .int .i64 a1_5] [(S + 3 + 3, .deferred (some []))] s2 W)
    (by
     rintro s A B ⟨h1, h6⟩ hk
     exact ⟨h1.keep hk hszS (fun k hk => ⟨not_false, by omega, by omega⟩) (fun b o h => by simp only [List.mem_singleton, Prod.mk.injEq] at h; exact ⟨not_false, by omega, by omega⟩), h6⟩)
    (by
     rintro c s A B ⟨h0, h1⟩ hk
     exact ⟨h0, h1.keep hk hszS (fun k hk => ⟨not_false, by omega, by omega⟩) (fun b o h => by simp only [List.mem_singleton, Prod.mk.injEq] at h; exact ⟨not_false, by omega, by omega⟩)⟩)
    ⟨GR, hJ0⟩
    (fun pre x a' W => (SlotB w H S [.slice A0_0 l0_0.length c0_0, .slice A0_1 l0_1.length c0_1, .slice A0_2 l0_2.length c0_2, .slice A0_3 l0_3.length c0_3, .slice A0_4 l0_4.length c0_4, .slice A0_5 l0_5.length c0_5] [.int .i64 a1_0, .int .i64 a1_1, .int .i64 a1_2, .int .i64 a1_3, .int .i64 a1_4, .int .i64 a1_5] [(S + 3 + 3, .deferred (some []))] s1 W ∧ ∀ rest, pre ++ rest = timesT l0_2 a2 → rowF k l0_0 l0_1 l0_2 l0_3 l0_4 l0_5 a1_0 a1_1 a1_2 a1_3 a1_4 a1_5 rest s1 = some s2) ∧
     a' = { tmps := #[Value.agg #[Value.slice A0_0 l0_0.length c0_0, Value.slice A0_1 l0_1.length c0_1, Value.slice A0_2 l0_2.length c0_2, Value.slice A0_3 l0_3.length c0_3, Value.slice A0_4 l0_4.length c0_4, Value.slice A0_5 l0_5.length c0_5],
        Value.agg #[Value.int IntKind.i64 a1_0, Value.int IntKind.i64 a1_1, Value.int IntKind.i64 a1_2, Value.int IntKind.i64 a1_3, Value.int IntKind.i64 a1_4, Value.int IntKind.i64 a1_5],
        Value.int IntKind.i64 a2,
        Value.pointer (some { block := H, off := 0 }),
        Value.pointer (some { block := H + 1, off := 0 }),
        undef,
        Value.pointer (some { block := H + 1 + 1, off := 0 }),
        Value.int IntKind.i64 0,
        Value.pointer (some { block := S, off := 0 }),
        Value.pointer (some { block := S + 1, off := 0 }),
        Value.pointer (some { block := S + 1 + 1, off := 0 }),
        undef,
        Value.pointer (some { block := E, off := 0 }),
        Value.int IntKind.i64 x,
        undef,
        undef,
        Value.agg #[Value.slice A0_0 l0_0.length c0_0, Value.slice A0_1 l0_1.length c0_1, Value.slice A0_2 l0_2.length c0_2, Value.slice A0_3 l0_3.length c0_3, Value.slice A0_4 l0_4.length c0_4, Value.slice A0_5 l0_5.length c0_5],
        Value.agg #[Value.int IntKind.i64 a1_0, Value.int IntKind.i64 a1_1, Value.int IntKind.i64 a1_2, Value.int IntKind.i64 a1_3, Value.int IntKind.i64 a1_4, Value.int IntKind.i64 a1_5],
        Value.int IntKind.i64 a2,
        Value.slice (some { block := H + 1 + 1 + 1, off := 0 }) 1 1,
        Value.bool true,
        Value.bool false,
        undef,
        Value.agg #[Value.int IntKind.i64 0, Value.int IntKind.i64 0, Value.int IntKind.i64 0],
        Value.pointer (some { block := H, off := 4 }),
        Value.agg #[Value.slice A0_4 l0_4.length c0_4, Value.slice A0_5 l0_5.length c0_5],
        Value.pointer (some { block := H, off := 2 }),
        Value.agg #[Value.slice A0_2 l0_2.length c0_2, Value.slice A0_3 l0_3.length c0_3],
        Value.agg #[Value.slice A0_4 l0_4.length c0_4, Value.slice A0_5 l0_5.length c0_5, Value.slice A0_2 l0_2.length c0_2, Value.slice A0_3 l0_3.length c0_3],
        Value.int IntKind.i64 1,
        Value.bool true,
        Value.agg #[Value.slice A0_2 l0_2.length c0_2, Value.slice A0_3 l0_3.length c0_3],
        Value.agg #[Value.slice A0_2 l0_2.length c0_2, Value.slice A0_3 l0_3.length c0_3],
        Value.int IntKind.i64 a2,
        Value.func (Fn.func 31) #[] #[Value.pointer (some { block := E + 1 + 1, off := 0 }), Value.pointer (some { block := E + 1, off := 0 })],
        Value.int IntKind.i64 x,
        undef,
        undef,
        undef,
        undef,
        undef,
        undef,
        undef,
        undef,
        undef,
        undef,
        undef,
        undef,
        undef,
        Value.int IntKind.i64 1,
        undef,
        undef,
        undef,
        undef], defers := [] })
    (by
     rintro pre x a' A B ⟨⟨h1, h6⟩, h7⟩ hk
     exact ⟨⟨h1.keep hk hszS (fun k hk => by omega) (fun b o h => by simp only [List.mem_singleton, Prod.mk.injEq] at h; omega), h6⟩, h7⟩)
    ?assignA ?bodyA ?doneA ?stopA
   case assignA =>
    rintro pre x W hi hpre hsz
    simp only [encTime]
    gi_wp2
    exact ⟨Keeps.refl _ W, hi, by first | rfl | trivial⟩
   case bodyA =>
    rintro pre x a' W hpre hrec ⟨⟨hG, h6⟩, rfl⟩
    obtain ⟨rest, hrest⟩ := hpre
    have hF := h6 (x :: rest) (by rw [← hrest]; simp)
    unfold rowF at hF
    have hx0 := hG.b0.cell 0 rfl
    have hx1 := hG.b0.cell 1 rfl
    have hx2 := hG.b0.cell 2 rfl
    have hx3 := hG.b0.cell 3 rfl
    have hx4 := hG.b0.cell 4 rfl
    have hx5 := hG.b0.cell 5 rfl
    have hy0 := hG.b1.cell 0 rfl
    have hy1 := hG.b1.cell 1 rfl
    have hy2 := hG.b1.cell 2 rfl
    have hy3 := hG.b1.cell 3 rfl
    have hy4 := hG.b1.cell 4 rfl
    have hy5 := hG.b1.cell 5 rfl
    have hz := hG.s2.cell
    have GG := Aside0.mk hG
    clear hG
    by_cases hc : s1.2.2.2.2 ≤ x
    ·
     rw [if_pos hc] at hF
     have e : s1 = s2 := Option.some.inj hF
     replace GG := Aside0.mk (show SlotB w H S [.slice A0_0 l0_0.length c0_0, .slice A0_1 l0_1.length c0_1, .slice A0_2 l0_2.length c0_2, .slice A0_3 l0_3.length c0_3, .slice A0_4 l0_4.length c0_4, .slice A0_5 l0_5.length c0_5] [.int .i64 a1_0, .int .i64 a1_1, .int .i64 a1_2, .int .i64 a1_3, .int .i64 a1_4, .int .i64 a1_5] [(S + 3 + 3, .deferred (some []))] s2 W by rw [← e]; exact GG.out)
     skip
     clear hF e h6 hJ0
     gi_wp2
     exact ⟨Keeps.refl _ W, rfl, GG.out⟩
    ·
     rw [if_neg hc] at hF
     obtain ⟨⟨q1, q2, q3, qb⟩, hq, hF⟩ := Option.bind_eq_some_iff.1 hF
     replace hq := Aside0.mk hq
     skip
     cases qb with
     | true =>
      rw [if_pos rfl] at hF
      have e : (q1, q2, q3, true, x) = s2 := Option.some.inj hF
      replace e := Aside0.mk e
      clear hF h6 hJ0
      gi_wp2_with (refine ⟨trivial, ?_⟩; gi_at_call 19; (refine (callsIn_wide.2 (fit_behind.calls k A0_0 c0_0 l0_0 A0_1 c0_1 l0_1 A0_2 c0_2 l0_2 A0_3 c0_3 l0_3 A0_4 c0_4 l0_4 A0_5 c0_5 l0_5 a1_0 a1_1 a1_2 a1_3 a1_4 a1_5 x q1 q2 q3 true _ (Kd.C_below HR0.out (hH.symm ▸ GG.out.below)) HC0.out (Kd.C_below HR1.out (hH.symm ▸ GG.out.below)) HC1.out (Kd.C_below HR2.out (hH.symm ▸ GG.out.below)) HC2.out (Kd.C_below HR3.out (hH.symm ▸ GG.out.below)) HC3.out (Kd.C_below HR4.out (hH.symm ▸ GG.out.below)) HC4.out (Kd.C_below HR5.out (hH.symm ▸ GG.out.below)) HC5.out hq.out)).mono ?_); rintro e w1 ⟨rfl, hb1⟩; have hk1 := Aside0.mk (show Keeps (fun _ => True) W w1 from Keeps.of_below hb1 (fun k hk _ => hk)); have G1 := Aside0.mk (GG.out.keep hk1.out hszS (fun _ _ => trivial) (fun _ _ _ => trivial)); have G2 := Aside0.mk (G1.out.keep (K := fun _ => True) ((Keeps.refl _ _).alloc (.cells #[.int .i64 q1, .int .i64 q2, .int .i64 q3] 30)) hszS (fun _ _ => trivial) (fun _ _ _ => trivial)); have k0 := G2.out.s0.cell 0 rfl; have k1 := G2.out.s0.cell 1 rfl; have k2 := G2.out.s0.cell 2 rfl; have k3 := G2.out.s1.cell; have k4 := G2.out.s2.cell; have l0 := G2.out.s0.frozen 0; have l1 := G2.out.s0.frozen 1; have l2 := G2.out.s0.frozen 2; have l3 := G2.out.s1.frozen; have l4 := G2.out.s2.frozen; clear hb1)
      refine ⟨?_, rfl, by rw [← e.out]; exact G2.out.store hszS (fun b o h => by simp only [List.mem_singleton, Prod.mk.injEq] at h; omega) q1 q2 q3 x⟩
      exact Keeps.setCell (p := ⟨S + 1 + 1, 0, none⟩) (Keeps.setCell (p := ⟨S + 1, 0, none⟩) (Keeps.setCell (p := ⟨S, 2, none⟩) (Keeps.setCell (p := ⟨S, 1, none⟩) (Keeps.setCell (p := ⟨S, 0, none⟩) ((hk1.out.mono (fun k _ _ => trivial)).alloc _) _ (fun h => by rcases h.2 with h3 | h3 <;> (simp only at h3; omega))) _ (fun h => by rcases h.2 with h3 | h3 <;> (simp only at h3; omega))) _ (fun h => by rcases h.2 with h3 | h3 <;> (simp only at h3; omega))) _ (fun h => by rcases h.2 with h3 | h3 <;> (simp only at h3; omega))) _ (fun h => by rcases h.2 with h3 | h3 <;> (simp only at h3; omega))
     | false =>
      rw [if_neg (by simp)] at hF
      gi_wp2_with (refine ⟨trivial, ?_⟩; gi_at_call 19; (refine (callsIn_wide.2 (fit_behind.calls k A0_0 c0_0 l0_0 A0_1 c0_1 l0_1 A0_2 c0_2 l0_2 A0_3 c0_3 l0_3 A0_4 c0_4 l0_4 A0_5 c0_5 l0_5 a1_0 a1_1 a1_2 a1_3 a1_4 a1_5 x q1 q2 q3 false _ (Kd.C_below HR0.out (hH.symm ▸ GG.out.below)) HC0.out (Kd.C_below HR1.out (hH.symm ▸ GG.out.below)) HC1.out (Kd.C_below HR2.out (hH.symm ▸ GG.out.below)) HC2.out (Kd.C_below HR3.out (hH.symm ▸ GG.out.below)) HC3.out (Kd.C_below HR4.out (hH.symm ▸ GG.out.below)) HC4.out (Kd.C_below HR5.out (hH.symm ▸ GG.out.below)) HC5.out hq.out)).mono ?_); rintro e w1 ⟨rfl, hb1⟩; have hk1 := Aside0.mk (show Keeps (fun _ => True) W w1 from Keeps.of_below hb1 (fun k hk _ => hk)); have G1 := Aside0.mk (GG.out.keep hk1.out hszS (fun _ _ => trivial) (fun _ _ _ => trivial)); clear hb1)
      refine ⟨(hk1.out.mono (fun k _ _ => trivial)).alloc _, G1.out.keep (K := fun _ => True) ((Keeps.refl _ _).alloc _) hszS (fun _ _ => trivial) (fun _ _ _ => trivial), fun rest' e2 => ?_⟩
      have : rest' = rest := by
       rw [← hrest] at e2
       exact List.append_cancel_left e2
      rw [this]
      exact hF
   case' doneA =>
    intro xs W hsz hxs hI hW
    obtain ⟨hG, h6⟩ := hI
    subst hxs
    have hr := h6 [] (by simp)
    unfold rowF at hr
    have e : s1 = s2 := Option.some.inj hr
    replace hG : SlotB w H S [.slice A0_0 l0_0.length c0_0, .slice A0_1 l0_1.length c0_1, .slice A0_2 l0_2.length c0_2, .slice A0_3 l0_3.length c0_3, .slice A0_4 l0_4.length c0_4, .slice A0_5 l0_5.length c0_5] [.int .i64 a1_0, .int .i64 a1_1, .int .i64 a1_2, .int .i64 a1_3, .int .i64 a1_4, .int .i64 a1_5] [(S + 3 + 3, .deferred (some []))] s2 W := by rw [← e]; exact hG
   case' stopA =>
    rintro c0' xs W hsz hpre ⟨rfl, hG⟩ hW
   all_goals
    replace hW : W.heap[E + 3]? = some (.deferred (some [])) := f5 ▸ hW
    have hD1 := hG.ds (S + 3 + 3) (.deferred (some [])) (by simp)
    obtain ⟨p1, p2, p3, pb, p5⟩ := s2
    have h' := h.out
    clear h
    have GG := Aside0.mk hG
    clear hG G1 GR hJ0 f1 f2 f3
    have k0 := GG.out.s0.cell 0 rfl
    have k1 := GG.out.s0.cell 1 rfl
    have k2 := GG.out.s0.cell 2 rfl
    have k3 := GG.out.s1.cell
    have m0 := GG.out.b2.cell 0 rfl
    have m1 := GG.out.b2.cell 1 rfl
    have m2 := GG.out.b2.cell 2 rfl
    have n0 := GG.out.b2.frozen 0
    have n1 := GG.out.b2.frozen 1
    have n2 := GG.out.b2.frozen 2
    cases pb with
    | true =>
     rw [if_pos rfl] at h'
     simp only [Option.some.injEq, Prod.mk.injEq] at h'
     obtain ⟨rfl, rfl, rfl, rfl⟩ := h'
     gi_wp2
     rw [roundsIn_succ]
     gi_wp2
     simp only [Exit.noGoto_ret]
     have hk9 : Keeps (fun k => k ≠ H + 1 + 1) W (((W.setCell ⟨H + 1 + 1, 0, none⟩ (.int .i64 p1)).setCell ⟨H + 1 + 1, 1, none⟩ (.int .i64 p2)).setCell ⟨H + 1 + 1, 2, none⟩ (.int .i64 p3)) := Keeps.setCell (p := ⟨H + 1 + 1, 2, none⟩) (Keeps.setCell (p := ⟨H + 1 + 1, 1, none⟩) (Keeps.setCell (p := ⟨H + 1 + 1, 0, none⟩) (Keeps.refl (fun k => k ≠ H + 1 + 1) W) _ (fun h => h.2 rfl)) _ (fun h => h.2 rfl)) _ (fun h => h.2 rfl)
     have hb2 : BoxN (((W.setCell ⟨H + 1 + 1, 0, none⟩ (.int .i64 p1)).setCell ⟨H + 1 + 1, 1, none⟩ (.int .i64 p2)).setCell ⟨H + 1 + 1, 2, none⟩ (.int .i64 p3)) (H + 1 + 1) 30 [.int .i64 p1, .int .i64 p2, .int .i64 p3] := ((GG.out.b2.set 0 (.int .i64 p1)).set 1 (.int .i64 p2)).set 2 (.int .i64 p3)
     have hk8 : Keeps (fun k => k ≠ E + 3 ∧ k ≠ S + 3 + 3) (((W.setCell ⟨H + 1 + 1, 0, none⟩ (.int .i64 p1)).setCell ⟨H + 1 + 1, 1, none⟩ (.int .i64 p2)).setCell ⟨H + 1 + 1, 2, none⟩ (.int .i64 p3)) (((((W.setCell ⟨H + 1 + 1, 0, none⟩ (.int .i64 p1)).setCell ⟨H + 1 + 1, 1, none⟩ (.int .i64 p2)).setCell ⟨H + 1 + 1, 2, none⟩ (.int .i64 p3)).putObj (E + 3) (.deferred none)).putObj (S + 3 + 3) (.deferred none)) := ((Keeps.refl (fun k => k ≠ E + 3 ∧ k ≠ S + 3 + 3) _).putObj _ (fun h => h.2.1 rfl)).putObj _ (fun h => h.2.2 rfl)
     have hq := hk8.boxN hb2 ⟨by omega, by omega⟩
     have hq0 := hq.cell 0 rfl
     have hq1 := hq.cell 1 rfl
     have hq2 := hq.cell 2 rfl
     have hW1 := (hk9.block (E + 3) (Array.getElem?_eq_some_iff.1 hW).1 (by omega)).trans hW
     have hD2 := (hk9.block (S + 3 + 3) (Array.getElem?_eq_some_iff.1 hD1).1 (by omega)).trans hD1
     have hD3 := ((Keeps.putObj (Keeps.refl (fun k => k ≠ E + 3) (((W.setCell ⟨H + 1 + 1, 0, none⟩ (.int .i64 p1)).setCell ⟨H + 1 + 1, 1, none⟩ (.int .i64 p2)).setCell ⟨H + 1 + 1, 2, none⟩ (.int .i64 p3))) (.deferred none) (fun h => h.2 rfl)).block (S + 3 + 3) (Array.getElem?_eq_some_iff.1 hD2).1 (by omega)).trans hD2
     refine ⟨by simp, .inl ⟨_, _, rfl, run_takeDeferred hW1, by simp, .inl ⟨_, _, rfl, run_takeDeferred hD3, ?_⟩⟩⟩
     refine ⟨.tuple #[.agg #[.int .i64 p1, .int .i64 p2, .int .i64 p3], .int .i64 0], by simp [results, Try.f8, go_sem, hq0, hq1, hq2], rfl, ?_⟩
     rw [hH]
     have hBH := GG.out.below.size
     exact (GG.out.below.trans (hk9.below (by omega) (fun k hk => by omega))).trans (hk8.below (by have := hk9.size; omega) (fun k hk => ⟨by omega, by omega⟩))
    | false =>
     rw [if_neg (by simp)] at h'
     simp only [Option.some.injEq, Prod.mk.injEq] at h'
     obtain ⟨rfl, rfl, rfl, rfl⟩ := h'
     gi_wp2
     rw [roundsIn_succ]
     gi_wp2
     simp only [Exit.noGoto_ret]
     have hk9 : Keeps (fun k => k ≠ H + 1 + 1) W (((W.setCell ⟨H + 1 + 1, 0, none⟩ (.int .i64 0)).setCell ⟨H + 1 + 1, 1, none⟩ (.int .i64 0)).setCell ⟨H + 1 + 1, 2, none⟩ (.int .i64 0)) := Keeps.setCell (p := ⟨H + 1 + 1, 2, none⟩) (Keeps.setCell (p := ⟨H + 1 + 1, 1, none⟩) (Keeps.setCell (p := ⟨H + 1 + 1, 0, none⟩) (Keeps.refl (fun k => k ≠ H + 1 + 1) W) _ (fun h => h.2 rfl)) _ (fun h => h.2 rfl)) _ (fun h => h.2 rfl)
     have hb2 : BoxN (((W.setCell ⟨H + 1 + 1, 0, none⟩ (.int .i64 0)).setCell ⟨H + 1 + 1, 1, none⟩ (.int .i64 0)).setCell ⟨H + 1 + 1, 2, none⟩ (.int .i64 0)) (H + 1 + 1) 30 [.int .i64 0, .int .i64 0, .int .i64 0] := ((GG.out.b2.set 0 (.int .i64 0)).set 1 (.int .i64 0)).set 2 (.int .i64 0)
     have hk8 : Keeps (fun k => k ≠ E + 3 ∧ k ≠ S + 3 + 3) (((W.setCell ⟨H + 1 + 1, 0, none⟩ (.int .i64 0)).setCell ⟨H + 1 + 1, 1, none⟩ (.int .i64 0)).setCell ⟨H + 1 + 1, 2, none⟩ (.int .i64 0)) (((((W.setCell ⟨H + 1 + 1, 0, none⟩ (.int .i64 0)).setCell ⟨H + 1 + 1, 1, none⟩ (.int .i64 0)).setCell ⟨H + 1 + 1, 2, none⟩ (.int .i64 0)).putObj (E + 3) (.deferred none)).putObj (S + 3 + 3) (.deferred none)) := ((Keeps.refl (fun k => k ≠ E + 3 ∧ k ≠ S + 3 + 3) _).putObj _ (fun h => h.2.1 rfl)).putObj _ (fun h => h.2.2 rfl)
     have hq := hk8.boxN hb2 ⟨by omega, by omega⟩
     have hq0 := hq.cell 0 rfl
     have hq1 := hq.cell 1 rfl
     have hq2 := hq.cell 2 rfl
     have hW1 := (hk9.block (E + 3) (Array.getElem?_eq_some_iff.1 hW).1 (by omega)).trans hW
     have hD2 := (hk9.block (S + 3 + 3) (Array.getElem?_eq_some_iff.1 hD1).1 (by omega)).trans hD1
     have hD3 := ((Keeps.putObj (Keeps.refl (fun k => k ≠ E + 3) (((W.setCell ⟨H + 1 + 1, 0, none⟩ (.int .i64 0)).setCell ⟨H + 1 + 1, 1, none⟩ (.int .i64 0)).setCell ⟨H + 1 + 1, 2, none⟩ (.int .i64 0))) (.deferred none) (fun h => h.2 rfl)).block (S + 3 + 3) (Array.getElem?_eq_some_iff.1 hD2).1 (by omega)).trans hD2
     refine ⟨by simp, .inl ⟨_, _, rfl, run_takeDeferred hW1, by simp, .inl ⟨_, _, rfl, run_takeDeferred hD3, ?_⟩⟩⟩
     refine ⟨.tuple #[.agg #[.int .i64 0, .int .i64 0, .int .i64 0], .int .i64 7], by simp [results, Try.f8, go_sem, hq0, hq1, hq2], rfl, ?_⟩
     rw [hH]
     have hBH := GG.out.below.size
     exact (GG.out.below.trans (hk9.below (by omega) (fun k hk => by omega))).trans (hk8.below (by have := hk9.size; omega) (fun k hk => ⟨by omega, by omega⟩))
  ·
   obtain ⟨Wr, hWr⟩ : ∃ Wr, List.foldl World.alloc W [.cells #[.slice A0_2 l0_2.length c0_2, .slice A0_3 l0_3.length c0_3] 24, .cells #[.slice A0_2 l0_2.length c0_2, .slice A0_3 l0_3.length c0_3] 24, .cells #[.int .i64 a2] 2] = Wr := ⟨_, rfl⟩
   have f4 : Below W.heap.size W Wr := by rw [← hWr]; exact al_below _ W
   have f5 : Wr.heap.size = E + 3 := by rw [← hWr, al_size, e5]; rfl
   have f1 : BoxN Wr (E + 1) 24 [.slice A0_2 l0_2.length c0_2, .slice A0_3 l0_3.length c0_3] := by have := al_at hWr 1 _ rfl; rw [e5] at this; exact this
   have f2 : BoxN Wr (E + 1 + 1) 2 [.int .i64 a2] := by have := al_at hWr 2 _ rfl; rw [e5] at this; exact this
   have GR := G1.out.keep (K := fun _ => True) (Keeps.of_below f4 (fun k hk _ => hk)) hszS (fun _ _ => trivial) (fun _ _ _ => trivial)
   have f3 : Below w.heap.size w Wr := by rw [hH]; exact GR.below
   simp only [List.foldl_cons, List.foldl_nil] at hWr
   rw [hWr]
   clear hWr f4
   have hJ0 : ∀ rest, [] ++ rest = timesT l0_2 a2 → rowF k l0_0 l0_1 l0_2 l0_3 l0_4 l0_5 a1_0 a1_1 a1_2 a1_3 a1_4 a1_5 rest s1 = some s2 := fun rest e => by rw [List.nil_append] at e; rw [e]; exact hs2.out
   refine wpIn_range (n := 8) (w := Wr) rfl (by omega) (gf := 31) (lb := #[.pointer (some ⟨E + 1 + 1, 0, none⟩), .pointer (some ⟨E + 1, 0, none⟩)]) rfl trivial (enters_of Try.func31 (by kernel_rfl) rfl)
    (fit_times_seq7 w A0_2 c0_2 l0_2 (.slice A0_3 l0_3.length c0_3) a2 (E + 1) (E + 1 + 1) Wr HR2.out f3 f1 f2 hl.2) (fun k hk => hk.elim) (fun k hk => by rcases hk with hk | hk | hk <;> omega) (fun _ => rfl)
    (fun pre W => SlotB w H S [.slice A0_0 l0_0.length c0_0, .slice A0_1 l0_1.length c0_1, .slice A0_2 l0_2.length c0_2, .slice A0_3 l0_3.length c0_3, .slice A0_4 l0_4.length c0_4, .slice A0_5 l0_5.length c0_5] [.int .i64 a1_0, .int .i64 a1_1, .int .i64 a1_2, .int .i64 a1_3, .int .i64 a1_4, .int .i64 a1_5] [(S + 3 + 3, .deferred (some []))] s1 W ∧ ∀ rest, pre ++ rest = timesT l0_2 a2 → rowF k l0_0 l0_1 l0_2 l0_3 l0_4 l0_5 a1_0 a1_1 a1_2 a1_3 a1_4 a1_5 rest s1 = some s2)
    (fun c s W => c = .exit 1 ∧ SlotB w H S [.slice A0_0 l0_0.length c0_0, .slice A0_1 l0_1.length c0_1, .slice A0_2 l0_2.length c0_2, .slice A0_3 l0_3.length c0_3, .slice A0_4 l0_4.length c0_4, .slice A0_5 l0_5.length c0_5] [.int .i64 a1_0, .int .i64 a1_1, .int .i64 a1_2, .int .i64 a1_3, .int .i64 a1_4, .int .i64 a1_5] [(S + 3 + 3, .deferred (some []))] s2 W)
    (by
     rintro s A B ⟨h1, h6⟩ hk
     exact ⟨h1.keep hk hszS (fun k hk => ⟨not_false, by omega, by omega⟩) (fun b o h => by simp only [List.mem_singleton, Prod.mk.injEq] at h; exact ⟨not_false, by omega, by omega⟩), h6⟩)
    (by
     rintro c s A B ⟨h0, h1⟩ hk
     exact ⟨h0, h1.keep hk hszS (fun k hk => ⟨not_false, by omega, by omega⟩) (fun b o h => by simp only [List.mem_singleton, Prod.mk.injEq] at h; exact ⟨not_false, by omega, by omega⟩)⟩)
    ⟨GR, hJ0⟩
    (fun pre x a' W => (SlotB w H S [.slice A0_0 l0_0.length c0_0, .slice A0_1 l0_1.length c0_1, .slice A0_2 l0_2.length c0_2, .slice A0_3 l0_3.length c0_3, .slice A0_4 l0_4.length c0_4, .slice A0_5 l0_5.length c0_5] [.int .i64 a1_0, .int .i64 a1_1, .int .i64 a1_2, .int .i64 a1_3, .int .i64 a1_4, .int .i64 a1_5] [(S + 3 + 3, .deferred (some []))] s1 W ∧ ∀ rest, pre ++ rest = timesT l0_2 a2 → rowF k l0_0 l0_1 l0_2 l0_3 l0_4 l0_5 a1_0 a1_1 a1_2 a1_3 a1_4 a1_5 rest s1 = some s2) ∧
     a' = { tmps := #[Value.agg #[Value.slice A0_0 l0_0.length c0_0, Value.slice A0_1 l0_1.length c0_1, Value.slice A0_2 l0_2.length c0_2, Value.slice A0_3 l0_3.length c0_3, Value.slice A0_4 l0_4.length c0_4, Value.slice A0_5 l0_5.length c0_5],
        Value.agg #[Value.int IntKind.i64 a1_0, Value.int IntKind.i64 a1_1, Value.int IntKind.i64 a1_2, Value.int IntKind.i64 a1_3, Value.int IntKind.i64 a1_4, Value.int IntKind.i64 a1_5],
        Value.int IntKind.i64 a2,
        Value.pointer (some { block := H, off := 0 }),
        Value.pointer (some { block := H + 1, off := 0 }),
        undef,
        Value.pointer (some { block := H + 1 + 1, off := 0 }),
        Value.int IntKind.i64 0,
        Value.pointer (some { block := S, off := 0 }),
        Value.pointer (some { block := S + 1, off := 0 }),
        Value.pointer (some { block := S + 1 + 1, off := 0 }),
        undef,
        Value.pointer (some { block := E, off := 0 }),
        Value.int IntKind.i64 x,
        undef,
        undef,
        Value.agg #[Value.slice A0_0 l0_0.length c0_0, Value.slice A0_1 l0_1.length c0_1, Value.slice A0_2 l0_2.length c0_2, Value.slice A0_3 l0_3.length c0_3, Value.slice A0_4 l0_4.length c0_4, Value.slice A0_5 l0_5.length c0_5],
        Value.agg #[Value.int IntKind.i64 a1_0, Value.int IntKind.i64 a1_1, Value.int IntKind.i64 a1_2, Value.int IntKind.i64 a1_3, Value.int IntKind.i64 a1_4, Value.int IntKind.i64 a1_5],
        Value.int IntKind.i64 a2,
        Value.slice (some { block := H + 1 + 1 + 1, off := 0 }) 1 1,
        Value.bool true,
        Value.bool false,
        undef,
        Value.agg #[Value.int IntKind.i64 0, Value.int IntKind.i64 0, Value.int IntKind.i64 0],
        Value.pointer (some { block := H, off := 4 }),
        Value.agg #[Value.slice A0_4 l0_4.length c0_4, Value.slice A0_5 l0_5.length c0_5],
        Value.pointer (some { block := H, off := 2 }),
        Value.agg #[Value.slice A0_2 l0_2.length c0_2, Value.slice A0_3 l0_3.length c0_3],
        Value.agg #[Value.slice A0_4 l0_4.length c0_4, Value.slice A0_5 l0_5.length c0_5, Value.slice A0_2 l0_2.length c0_2, Value.slice A0_3 l0_3.length c0_3],
        Value.int IntKind.i64 1,
        Value.bool true,
        Value.agg #[Value.slice A0_2 l0_2.length c0_2, Value.slice A0_3 l0_3.length c0_3],
        Value.agg #[Value.slice A0_2 l0_2.length c0_2, Value.slice A0_3 l0_3.length c0_3],
        Value.int IntKind.i64 a2,
        Value.func (Fn.func 31) #[] #[Value.pointer (some { block := E + 1 + 1, off := 0 }), Value.pointer (some { block := E + 1, off := 0 })],
        Value.int IntKind.i64 x,
        undef,
        undef,
        undef,
        undef,
        undef,
        undef,
        undef,
        undef,
        undef,
        undef,
        undef,
        undef,
        undef,
        Value.int IntKind.i64 1,
        undef,
        undef,
        undef,
        undef], defers := [] })
    (by
     rintro pre x a' A B ⟨⟨h1, h6⟩, h7⟩ hk
     exact ⟨⟨h1.keep hk hszS (fun k hk => by omega) (fun b o h => by simp only [List.mem_singleton, Prod.mk.injEq] at h; omega), h6⟩, h7⟩)
    ?assignB ?bodyB ?doneB ?stopB
   case assignB =>
    rintro pre x W hi hpre hsz
    simp only [encTime]
    gi_wp2
    exact ⟨Keeps.refl _ W, hi, by first | rfl | trivial⟩
   case bodyB =>
    rintro pre x a' W hpre hrec ⟨⟨hG, h6⟩, rfl⟩
    obtain ⟨rest, hrest⟩ := hpre
    have hF := h6 (x :: rest) (by rw [← hrest]; simp)
    unfold rowF at hF
    have hx0 := hG.b0.cell 0 rfl
    have hx1 := hG.b0.cell 1 rfl
    have hx2 := hG.b0.cell 2 rfl
    have hx3 := hG.b0.cell 3 rfl
    have hx4 := hG.b0.cell 4 rfl
    have hx5 := hG.b0.cell 5 rfl
    have hy0 := hG.b1.cell 0 rfl
    have hy1 := hG.b1.cell 1 rfl
    have hy2 := hG.b1.cell 2 rfl
    have hy3 := hG.b1.cell 3 rfl
    have hy4 := hG.b1.cell 4 rfl
    have hy5 := hG.b1.cell 5 rfl
    have hz := hG.s2.cell
    have GG := Aside0.mk hG
    clear hG
    by_cases hc : s1.2.2.2.2 ≤ x
    ·
     rw [if_pos hc] at hF
     have e : s1 = s2 := Option.some.inj hF
     replace GG := Aside0.mk (show SlotB w H S [.slice A0_0 l0_0.length c0_0, .slice A0_1 l0_1.length c0_1, .slice A0_2 l0_2.length c0_2, .slice A0_3 l0_3.length c0_3, .slice A0_4 l0_4.length c0_4, .slice A0_5 l0_5.length c0_5] [.int .i64 a1_0, .int .i64 a1_1, .int .i64 a1_2, .int .i64 a1_3, .int .i64 a1_4, .int .i64 a1_5] [(S + 3 + 3, .deferred (some []))] s2 W by rw [← e]; exact GG.out)
     skip
     clear hF e h6 hJ0
     gi_wp2
     exact ⟨Keeps.refl _ W, rfl, GG.out⟩
    ·
     rw [if_neg hc] at hF
     obtain ⟨⟨q1, q2, q3, qb⟩, hq, hF⟩ := Option.bind_eq_some_iff.1 hF
     replace hq := Aside0.mk hq
     skip
     cases qb with
     | true =>
      rw [if_pos rfl] at hF
      have e : (q1, q2, q3, true, x) = s2 := Option.some.inj hF
      replace e := Aside0.mk e
      clear hF h6 hJ0
      gi_wp2_with (refine ⟨trivial, ?_⟩; gi_at_call 19; (refine (callsIn_wide.2 (fit_behind.calls k A0_0 c0_0 l0_0 A0_1 c0_1 l0_1 A0_2 c0_2 l0_2 A0_3 c0_3 l0_3 A0_4 c0_4 l0_4 A0_5 c0_5 l0_5 a1_0 a1_1 a1_2 a1_3 a1_4 a1_5 x q1 q2 q3 true _ (Kd.C_below HR0.out (hH.symm ▸ GG.out.below)) HC0.out (Kd.C_below HR1.out (hH.symm ▸ GG.out.below)) HC1.out (Kd.C_below HR2.out (hH.symm ▸ GG.out.below)) HC2.out (Kd.C_below HR3.out (hH.symm ▸ GG.out.below)) HC3.out (Kd.C_below HR4.out (hH.symm ▸ GG.out.below)) HC4.out (Kd.C_below HR5.out (hH.symm ▸ GG.out.below)) HC5.out hq.out)).mono ?_); rintro e w1 ⟨rfl, hb1⟩; have hk1 := Aside0.mk (show Keeps (fun _ => True) W w1 from Keeps.of_below hb1 (fun k hk _ => hk)); have G1 := Aside0.mk (GG.out.keep hk1.out hszS (fun _ _ => trivial) (fun _ _ _ => trivial)); have G2 := Aside0.mk (G1.out.keep (K := fun _ => True) ((Keeps.refl _ _).alloc (.cells #[.int .i64 q1, .int .i64 q2, .int .i64 q3] 30)) hszS (fun _ _ => trivial) (fun _ _ _ => trivial)); have k0 := G2.out.s0.cell 0 rfl; have k1 := G2.out.s0.cell 1 rfl; have k2 := G2.out.s0.cell 2 rfl; have k3 := G2.out.s1.cell; have k4 := G2.out.s2.cell; have l0 := G2.out.s0.frozen 0; have l1 := G2.out.s0.frozen 1; have l2 := G2.out.s0.frozen 2; have l3 := G2.out.s1.frozen; have l4 := G2.out.s2.frozen; clear hb1)
      refine ⟨?_, rfl, by rw [← e.out]; exact G2.out.store hszS (fun b o h => by simp only [List.mem_singleton, Prod.mk.injEq] at h; omega) q1 q2 q3 x⟩
      exact Keeps.setCell (p := ⟨S + 1 + 1, 0, none⟩) (Keeps.setCell (p := ⟨S + 1, 0, none⟩) (Keeps.setCell (p := ⟨S, 2, none⟩) (Keeps.setCell (p := ⟨S, 1, none⟩) (Keeps.setCell (p := ⟨S, 0, none⟩) ((hk1.out.mono (fun k _ _ => trivial)).alloc _) _ (fun h => by rcases h.2 with h3 | h3 <;> (simp only at h3; omega))) _ (fun h => by rcases h.2 with h3 | h3 <;> (simp only at h3; omega))) _ (fun h => by rcases h.2 with h3 | h3 <;> (simp only at h3; omega))) _ (fun h => by rcases h.2 with h3 | h3 <;> (simp only at h3; omega))) _ (fun h => by rcases h.2 with h3 | h3 <;> (simp only at h3; omega))
     | false =>
      rw [if_neg (by simp)] at hF
      gi_wp2_with (refine ⟨trivial, ?_⟩; gi_at_call 19; (refine (callsIn_wide.2 (fit_behind.calls k A0_0 c0_0 l0_0 A0_1 c0_1 l0_1 A0_2 c0_2 l0_2 A0_3 c0_3 l0_3 A0_4 c0_4 l0_4 A0_5 c0_5 l0_5 a1_0 a1_1 a1_2 a1_3 a1_4 a1_5 x q1 q2 q3 false _ (Kd.C_below HR0.out (hH.symm ▸ GG.out.below)) HC0.out (Kd.C_below HR1.out (hH.symm ▸ GG.out.below)) HC1.out (Kd.C_below HR2.out (hH.symm ▸ GG.out.below)) HC2.out (Kd.C_below HR3.out (hH.symm ▸ GG.out.below)) HC3.out (Kd.C_below HR4.out (hH.symm ▸ GG.out.below)) HC4.out (Kd.C_below HR5.out (hH.symm ▸ GG.out.below)) HC5.out hq.out)).mono ?_); rintro e w1 ⟨rfl, hb1⟩; have hk1 := Aside0.mk (show Keeps (fun _ => True) W w1 from Keeps.of_below hb1 (fun k hk _ => hk)); have G1 := Aside0.mk (GG.out.keep hk1.out hszS (fun _ _ => trivial) (fun _ _ _ => trivial)); clear hb1)
      refine ⟨(hk1.out.mono (fun k _ _ => trivial)).alloc _, G1.out.keep (K := fun _ => True) ((Keeps.refl _ _).alloc _) hszS (fun _ _ => trivial) (fun _ _ _ => trivial), fun rest' e2 => ?_⟩
      have : rest' = rest := by
       rw [← hrest] at e2
       exact List.append_cancel_left e2
      rw [this]
      exact hF
   case' doneB =>
    intro xs W hsz hxs hI hW
    obtain ⟨hG, h6⟩ := hI
    subst hxs
    have hr := h6 [] (by simp)
    unfold rowF at hr
    have e : s1 = s2 := Option.some.inj hr
    replace hG : SlotB w H S [.slice A0_0 l0_0.length c0_0, .slice A0_1 l0_1.length c0_1, .slice A0_2 l0_2.length c0_2, .slice A0_3 l0_3.length c0_3, .slice A0_4 l0_4.length c0_4, .slice A0_5 l0_5.length c0_5] [.int .i64 a1_0, .int .i64 a1_1, .int .i64 a1_2, .int .i64 a1_3, .int .i64 a1_4, .int .i64 a1_5] [(S + 3 + 3, .deferred (some []))] s2 W := by rw [← e]; exact hG
   case' stopB =>
    rintro c0' xs W hsz hpre ⟨rfl, hG⟩ hW
   all_goals
    replace hW : W.heap[E + 3]? = some (.deferred (some [])) := f5 ▸ hW
    have hD1 := hG.ds (S + 3 + 3) (.deferred (some [])) (by simp)
    obtain ⟨p1, p2, p3, pb, p5⟩ := s2
    have h' := h.out
    clear h
    have GG := Aside0.mk hG
    clear hG G1 GR hJ0 f1 f2 f3
    have k0 := GG.out.s0.cell 0 rfl
    have k1 := GG.out.s0.cell 1 rfl
    have k2 := GG.out.s0.cell 2 rfl
    have k3 := GG.out.s1.cell
    have m0 := GG.out.b2.cell 0 rfl
    have m1 := GG.out.b2.cell 1 rfl
    have m2 := GG.out.b2.cell 2 rfl
    have n0 := GG.out.b2.frozen 0
    have n1 := GG.out.b2.frozen 1
    have n2 := GG.out.b2.frozen 2
    cases pb with
    | true =>
     rw [if_pos rfl] at h'
     simp only [Option.some.injEq, Prod.mk.injEq] at h'
     obtain ⟨rfl, rfl, rfl, rfl⟩ := h'
     gi_wp2
     rw [roundsIn_succ]
     gi_wp2
     simp only [Exit.noGoto_ret]
     have hk9 : Keeps (fun k => k ≠ H + 1 + 1) W (((W.setCell ⟨H + 1 + 1, 0, none⟩ (.int .i64 p1)).setCell ⟨H + 1 + 1, 1, none⟩ (.int .i64 p2)).setCell ⟨H + 1 + 1, 2, none⟩ (.int .i64 p3)) := Keeps.setCell (p := ⟨H + 1 + 1, 2, none⟩) (Keeps.setCell (p := ⟨H + 1 + 1, 1, none⟩) (Keeps.setCell (p := ⟨H + 1 + 1, 0, none⟩) (Keeps.refl (fun k => k ≠ H + 1 + 1) W) _ (fun h => h.2 rfl)) _ (fun h => h.2 rfl)) _ (fun h => h.2 rfl)
     have hb2 : BoxN (((W.setCell ⟨H + 1 + 1, 0, none⟩ (.int .i64 p1)).setCell ⟨H + 1 + 1, 1, none⟩ (.int .i64 p2)).setCell ⟨H + 1 + 1, 2, none⟩ (.int .i64 p3)) (H + 1 + 1) 30 [.int .i64 p1, .int .i64 p2, .int .i64 p3] := ((GG.out.b2.set 0 (.int .i64 p1)).set 1 (.int .i64 p2)).set 2 (.int .i64 p3)
     have hk8 : Keeps (fun k => k ≠ E + 3 ∧ k ≠ S + 3 + 3) (((W.setCell ⟨H + 1 + 1, 0, none⟩ (.int .i64 p1)).setCell ⟨H + 1 + 1, 1, none⟩ (.int .i64 p2)).setCell ⟨H + 1 + 1, 2, none⟩ (.int .i64 p3)) (((((W.setCell ⟨H + 1 + 1, 0, none⟩ (.int .i64 p1)).setCell ⟨H + 1 + 1, 1, none⟩ (.int .i64 p2)).setCell ⟨H + 1 + 1, 2, none⟩ (.int .i64 p3)).putObj (E + 3) (.deferred none)).putObj (S + 3 + 3) (.deferred none)) := ((Keeps.refl (fun k => k ≠ E + 3 ∧ k ≠ S + 3 + 3) _).putObj _ (fun h => h.2.1 rfl)).putObj _ (fun h => h.2.2 rfl)
     have hq := hk8.boxN hb2 ⟨by omega, by omega⟩
     have hq0 := hq.cell 0 rfl
     have hq1 := hq.cell 1 rfl
     have hq2 := hq.cell 2 rfl
     have hW1 := (hk9.block (E + 3) (Array.getElem?_eq_some_iff.1 hW).1 (by omega)).trans hW
     have hD2 := (hk9.block (S + 3 + 3) (Array.getElem?_eq_some_iff.1 hD1).1 (by omega)).trans hD1
     have hD3 := ((Keeps.putObj (Keeps.refl (fun k => k ≠ E + 3) (((W.setCell ⟨H + 1 + 1, 0, none⟩ (.int .i64 p1)).setCell ⟨H + 1 + 1, 1, none⟩ (.int .i64 p2)).setCell ⟨H + 1 + 1, 2, none⟩ (.int .i64 p3))) (.deferred none) (fun h => h.2 rfl)).block (S + 3 + 3) (Array.getElem?_eq_some_iff.1 hD2).1 (by omega)).trans hD2
     refine ⟨by simp, .inl ⟨_, _, rfl, run_takeDeferred hW1, by simp, .inl ⟨_, _, rfl, run_takeDeferred hD3, ?_⟩⟩⟩
     refine ⟨.tuple #[.agg #[.int .i64 p1, .int .i64 p2, .int .i64 p3], .int .i64 0], by simp [results, Try.f8, go_sem, hq0, hq1, hq2], rfl, ?_⟩
     rw [hH]
     have hBH := GG.out.below.size
     exact (GG.out.below.trans (hk9.below (by omega) (fun k hk => by omega))).trans (hk8.below (by have := hk9.size; omega) (fun k hk => ⟨by omega, by omega⟩))
    | false =>
     rw [if_neg (by simp)] at h'
     simp only [Option.some.injEq, Prod.mk.injEq] at h'
     obtain ⟨rfl, rfl, rfl, rfl⟩ := h'
     gi_wp2
     rw [roundsIn_succ]
     gi_wp2
     simp only [Exit.noGoto_ret]
     have hk9 : Keeps (fun k => k ≠ H + 1 + 1) W (((W.setCell ⟨H + 1 + 1, 0, none⟩ (.int .i64 0)).setCell ⟨H + 1 + 1, 1, none⟩ (.int .i64 0)).setCell ⟨H + 1 + 1, 2, none⟩ (.int .i64 0)) := Keeps.setCell (p := ⟨H + 1 + 1, 2, none⟩) (Keeps.setCell (p := ⟨H + 1 + 1, 1, none⟩) (Keeps.setCell (p := ⟨H + 1 + 1, 0, none⟩) (Keeps.refl (fun k => k ≠ H + 1 + 1) W) _ (fun h => h.2 rfl)) _ (fun h => h.2 rfl)) _ (fun h => h.2 rfl)
     have hb2 : BoxN (((W.setCell ⟨H + 1 + 1, 0, none⟩ (.int .i64 0)).setCell ⟨H + 1 + 1, 1, none⟩ (.int .i64 0)).setCell ⟨H + 1 + 1, 2, none⟩ (.int .i64 0)) (H + 1 + 1) 30 [.int .i64 0, .int .i64 0, .int .i64 0] := ((GG.out.b2.set 0 (.int .i64 0)).set 1 (.int .i64 0)).set 2 (.int .i64 0)
     have hk8 : Keeps (fun k => k ≠ E + 3 ∧ k ≠ S + 3 + 3) (((W.setCell ⟨H + 1 + 1, 0, none⟩ (.int .i64 0)).setCell ⟨H + 1 + 1, 1, none⟩ (.int .i64 0)).setCell ⟨H + 1 + 1, 2, none⟩ (.int .i64 0)) (((((W.setCell ⟨H + 1 + 1, 0, none⟩ (.int .i64 0)).setCell ⟨H + 1 + 1, 1, none⟩ (.int .i64 0)).setCell ⟨H + 1 + 1, 2, none⟩ (.int .i64 0)).putObj (E + 3) (.deferred none)).putObj (S + 3 + 3) (.deferred none)) := ((Keeps.refl (fun k => k ≠ E + 3 ∧ k ≠ S + 3 + 3) _).putObj _ (fun h => h.2.1 rfl)).putObj _ (fun h => h.2.2 rfl)
     have hq := hk8.boxN hb2 ⟨by omega, by omega⟩
     have hq0 := hq.cell 0 rfl
     have hq1 := hq.cell 1 rfl
     have hq2 := hq.cell 2 rfl
     have hW1 := (hk9.block (E + 3) (Array.getElem?_eq_some_iff.1 hW).1 (by omega)).trans hW
     have hD2 := (hk9.block (S + 3 + 3) (Array.getElem?_eq_some_iff.1 hD1).1 (by omega)).trans hD1
     have hD3 := ((Keeps.putObj (Keeps.refl (fun k => k ≠ E + 3) (((W.setCell ⟨H + 1 + 1, 0, none⟩ (.int .i64 0)).setCell ⟨H + 1 + 1, 1, none⟩ (.int .i64 0)).setCell ⟨H + 1 + 1, 2, none⟩ (.int .i64 0))) (.deferred none) (fun h => h.2 rfl)).block (S + 3 + 3) (Array.getElem?_eq_some_iff.1 hD2).1 (by omega)).trans hD2
     refine ⟨by simp, .inl ⟨_, _, rfl, run_takeDeferred hW1, by simp, .inl ⟨_, _, rfl, run_takeDeferred hD3, ?_⟩⟩⟩
     refine ⟨.tuple #[.agg #[.int .i64 0, .int .i64 0, .int .i64 0], .int .i64 7], by simp [results, Try.f8, go_sem, hq0, hq1, hq2], rfl, ?_⟩
     rw [hH]
     have hBH := GG.out.below.size
     exact (GG.out.below.trans (hk9.below (by omega) (fun k hk => by omega))).trans (hk8.below (by have := hk9.size; omega) (fun k hk => ⟨by omega, by omega⟩))

end Go.Proofs.Ythbonmpkjkihgaa.P
