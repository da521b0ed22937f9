-- Written by this session's program gprint.py: functions of the program as plain functions, and that the machine does what they say. Not trusted: Lean checks it.
import Derived.Test.YthbonmpkjkihgaaPx0
import Derived.Test.YthbonmpkjkihgaaPx1
import Derived.Test.YthbonmpkjkihgaaPx6
namespace Go.Proofs.Ythbonmpkjkihgaa.P
open Go.RowKit Go.Proofs.YthbonmpkjkihgaaW.PrintWords Go.Proofs.YthbonmpkjkihgaaW.PrintLast Go.Proofs.YthbonmpkjkihgaaW.PrintMore
attribute [local go_sem] max2_int min2_int max_two min_two max_three min_three max_four min_four   -- for this text's walks alone
set_option linter.unusedVariables false
set_option linter.unusedSimpArgs false
def qf7b0 : Array Bool := #[false, false, false, false, false, false, false, false, false, false]
def qf7b1 : Array Bool := #[true, false, false, false, false, false, false, false, false, false]
def qf7b2 : Array Bool := #[true, true, false, false, false, false, false, false, false, false]
def qf7b3 : Array Bool := #[true, true, true, false, false, false, false, false, false, false]
def qf7b4 : Array Bool := #[true, true, true, true, false, false, false, false, false, false]
def qf7b5 : Array Bool := #[true, true, true, true, true, false, false, false, false, false]
def qf7b6 : Array Bool := #[true, true, true, true, true, true, false, false, false, false]
def qf7b7 : Array Bool := #[true, true, true, true, true, true, true, false, false, false]
def qf7b8 : Array Bool := #[true, true, true, true, true, true, true, true, false, false]
def qf7b9 : Array Bool := #[true, true, true, true, true, true, true, true, true, false]
def qf7b10 : Array Bool := #[true, true, true, true, true, true, true, true, true, true]
def qf7b11 : Array Bool := #[false, false, false, false, false, false, false, false, false, false, false, false, false]
def qf7b12 : Array Bool := #[true, false, false, false, false, false, false, false, false, false, false, false, false]
def qf7b13 : Array Bool := #[true, false, true, false, false, false, false, false, false, false, false, false, false]
def qf7b14 : Array Bool := #[true, false, true, true, false, false, false, false, false, false, false, false, false]
def qf7b15 : Array Bool := #[true, false, true, true, false, true, false, false, false, false, false, false, false]
def qf7b16 : Array Bool := #[true, false, true, true, false, true, false, true, false, false, false, false, false]
def qf7b17 : Array Bool := #[true, false, true, true, false, true, false, true, true, false, false, false, false]
def qf7b18 : Array Bool := #[true, true, true, true, false, true, false, true, true, false, false, false, false]
def qf7b19 : Array Bool := #[true, true, true, true, false, true, true, true, true, false, false, false, false]
def qf7b20 : Array Bool := #[true, true, true, true, true, true, true, true, true, false, false, false, false]
def qf7b21 : Array Bool := #[true, true, true, true, true, true, true, true, true, true, false, false, false]
def qf7b22 : Array Bool := #[true, true, true, true, true, true, true, true, true, true, true, false, false]
def qf7b23 : Array Bool := #[true, true, true, true, true, true, true, true, true, true, true, true, false]
def qf7b24 : Array Bool := #[true, true, true, true, true, true, true, true, true, true, true, true, true]

/-! ### steps_turn: function 24 -/
/-- A profile turned in a window, step by step. -/
def turn1 (lo hi : Int) (doF : Int → Int × Bool) (out : List (Int × Int)) (x : Int × Int × Int) : Option (List (Int × Int)) :=
 if mn x.2.1 hi ≤ mx x.1 lo then some (putS out x.1 x.2.2)
 else if (doF x.2.2).2 = false then none
 else if mn x.2.1 hi < x.2.1 ∧ mn x.2.1 hi ≤ 1099511627776 then some (putS (putS (if x.1 < mx x.1 lo then putS out x.1 x.2.2 else out) (mx x.1 lo) (doF x.2.2).1) (mn x.2.1 hi) x.2.2)
 else some (putS (if x.1 < mx x.1 lo then putS out x.1 x.2.2 else out) (mx x.1 lo) (doF x.2.2).1)
def turnL (lo hi : Int) (doF : Int → Int × Bool) (l : List (Int × Int × Int)) : Option (List (Int × Int)) := l.foldlM (turn1 lo hi doF) []
theorem turnL_snoc (lo hi : Int) (doF : Int → Int × Bool) (l : List (Int × Int × Int)) (x : Int × Int × Int) : turnL lo hi doF (l ++ [x]) = (turnL lo hi doF l).bind fun o => turn1 lo hi doF o x := by
 simp [turnL, List.foldlM_append]
theorem putS_length (l : List (Int × Int)) (t n : Int) : (putS l t n).length ≤ l.length + 1 := by
 unfold putS
 split
 ·
  simp
 ·
  split
  ·
   omega
  ·
   split
   ·
    simp; (try omega)
   ·
    simp
theorem turn1_length {lo hi : Int} {doF : Int → Int × Bool} {o o' : List (Int × Int)} {x : Int × Int × Int} (h : turn1 lo hi doF o x = some o') : o'.length ≤ o.length + 3 := by
 have h1 := fun l t n => putS_length l t n
 unfold turn1 at h
 split at h
 ·
  obtain rfl := Option.some.inj h; have := h1 o x.1 x.2.2; omega
 ·
  split at h
  ·
   cases h
  ·
   have h2 : (if x.1 < mx x.1 lo then putS o x.1 x.2.2 else o).length ≤ o.length + 1 := by
    split
    ·
     exact h1 _ _ _
    ·
     omega
   have h3 := h1 (if x.1 < mx x.1 lo then putS o x.1 x.2.2 else o) (mx x.1 lo) (doF x.2.2).1
   split at h
   ·
    obtain rfl := Option.some.inj h
    have h4 := h1 (putS (if x.1 < mx x.1 lo then putS o x.1 x.2.2 else o) (mx x.1 lo) (doF x.2.2).1) (mn x.2.1 hi) x.2.2
    omega
   ·
    obtain rfl := Option.some.inj h
    omega
theorem turnL_len (lo hi : Int) (doF : Int → Int × Bool) : ∀ (l : List (Int × Int × Int)) (o0 o : List (Int × Int)), l.foldlM (turn1 lo hi doF) o0 = some o → o.length ≤ o0.length + 3 * l.length
 | [], o0, o, h => by obtain rfl := Option.some.inj h; simp
 | x :: l, o0, o, h => by
  rw [List.foldlM_cons] at h
  obtain ⟨o1, h1, h2⟩ := Option.bind_eq_some_iff.1 h
  have h3 := turnL_len lo hi doF l o1 o h2
  have h4 := turn1_length h1
  simp; omega
theorem turnL_length (lo hi : Int) (doF : Int → Int × Bool) (l : List (Int × Int × Int)) (o : List (Int × Int)) (h : turnL lo hi doF l = some o) : o.length ≤ 3 * l.length := by
 have := turnL_len lo hi doF l [] o h
 simpa using this
theorem Two.keeps {A B : World} {base : Nat} {vA vN : Value} {l : List (Int × Int)} (h : Two A base vA vN l) {K : Nat → Prop} (hk : Keeps K A B) (hK : ∀ k, base ≤ k → K k) : Two B base vA vN l := ⟨hk.row h.a hK, hk.row h.n hK, h.ne⟩
theorem Two.alloc {A : World} {base : Nat} {vA vN : Value} {l : List (Int × Int)} (h : Two A base vA vN l) (o : Obj) : Two (A.alloc o) base vA vN l := ⟨h.a.alloc o, h.n.alloc o, h.ne⟩
theorem Two.far {A : World} {base : Nat} {vA vN : Value} {l : List (Int × Int)} (h : Two A base vA vN l) (p : Addr) (hp : p.block < base) (u : Value) : Two (A.setCell p u) base vA vN l :=
 ⟨ownsRow_setCell_other h.a (fun e => Nat.not_le_of_lt hp (h.a.lt _ e).1) u, ownsRow_setCell_other h.n (fun e => Nat.not_le_of_lt hp (h.n.lt _ e).1) u, h.ne⟩
theorem keeps_trans2 {K K1 K2 : Nat → Prop} {A B C : World} (h : Keeps K1 A B) (k : Keeps K2 B C) (h1 : ∀ i, i < A.heap.size → K i → K1 i) (h2 : ∀ i, i < B.heap.size → K i → K2 i) : Keeps K A C := (h.mono h1).trans (k.mono h2)
theorem heap_allocs : ∀ (l : List Obj) (w : World), (l.foldl World.alloc w).heap.size = w.heap.size + l.length ∧ ∀ i o, l[i]? = some o → (l.foldl World.alloc w).heap[w.heap.size + i]? = some o
 | [], w => ⟨rfl, fun i o h => by simp at h⟩
 | o0 :: l, w => by
  obtain ⟨h1, h2⟩ := heap_allocs l (w.alloc o0)
  have hk : ∀ (l : List Obj) (w : World) (k : Nat), k < w.heap.size → (l.foldl World.alloc w).heap[k]? = w.heap[k]? := by
   intro l
   induction l with
   | nil => intro w k _; rfl
   | cons o l ih => intro w k hk; exact (ih (w.alloc o) k (by simp; omega)).trans (Below.heap_alloc w o k hk)
  refine ⟨by rw [List.foldl_cons, h1]; simp; omega, fun i o h => ?_⟩
  cases i with
  | zero =>
   obtain rfl := Option.some.inj h
   exact (hk l (w.alloc o0) _ (by simp)).trans (World.alloc_heap_new w o0)
  | succ i =>
   have := h2 i o (by simpa using h)
   rw [World.size_alloc, Nat.add_assoc, Nat.add_comm 1 i] at this
   exact this
theorem keeps_allocs (K : Nat → Prop) : ∀ (l : List Obj) (w : World), Keeps K w (l.foldl World.alloc w)
 | [], w => Keeps.refl _ w
 | o0 :: l, w => ((Keeps.refl K w).alloc o0).trans (keeps_allocs K l (w.alloc o0))
/-- What stands in a round. -/
structure TurnInv (H : Nat) (Wr : World) (x : Int × Int × Int) (sb : Nat) (out : List (Int × Int)) (W : World) (vA vN : Value) : Prop where
 box : BoxN W (H + 6) 24 [vA, vN]
 two : Two W (H + 10) vA vN out
 span : BoxN W sb 74 [.int .i64 x.1, .int .i64 x.2.1, .int .i64 x.2.2]
 na : vA.ownBlock ≠ some sb
 nn : vN.ownBlock ≠ some sb
 keeps : Keeps (fun k => k < H + 8 ∧ k ≠ H + 6) Wr W
 ge : H + 10 ≤ sb
/-- Behind put, ahead of the store. -/
theorem TurnInv.put {H : Nat} {Wr : World} {x : Int × Int × Int} {sb : Nat} {out : List (Int × Int)} {W W' : World} {vA vN vA' vN' : Value} {l : List (Int × Int)} (h : TurnInv H Wr x sb out W vA vN)
  (hT : Two W' (H + 10) vA' vN' l) (hK : Keeps (fun k => vA.ownBlock ≠ some k ∧ vN.ownBlock ≠ some k) W W') (hN : ∀ k, (vA'.ownBlock = some k ∨ vN'.ownBlock = some k) → k < W.heap.size → vA.ownBlock = some k ∨ vN.ownBlock = some k) :
  BoxN W' (H + 6) 24 [vA, vN] ∧ TurnInv H Wr x sb l ((W'.setCell ⟨H + 6, 0, none⟩ vA').setCell ⟨H + 6, 1, none⟩ vN') vA' vN' ∧ Keeps (fun k => k < H + 10 ∧ k ≠ H + 6) W ((W'.setCell ⟨H + 6, 0, none⟩ vA').setCell ⟨H + 6, 1, none⟩ vN') := by
 have hlow : ∀ k, k < H + 10 → vA.ownBlock ≠ some k ∧ vN.ownBlock ≠ some k := fun k hk => ⟨fun e => by have := (h.two.a.lt k e).1; omega, fun e => by have := (h.two.n.lt k e).1; omega⟩
 have b1 := hK.boxN h.box (hlow _ (by omega))
 have b2 := hK.boxN h.span ⟨h.na, h.nn⟩
 have hsb := h.ge
 refine ⟨b1, ⟨(b1.set 0 vA').set 1 vN', (hT.far _ (by simp) vA').far _ (by simp) vN', (b2.other (by simp; omega) vA').other (by simp; omega) vN',
  fun e => (hN sb (.inl e) h.span.lt).elim h.na h.nn, fun e => (hN sb (.inr e) h.span.lt).elim h.na h.nn, ?_, h.ge⟩, ((hK.mono (fun k _ hk => hlow k hk.1)).setCell _ (fun e => e.2.2 rfl)).setCell _ (fun e => e.2.2 rfl)⟩
 exact ((h.keeps.trans (hK.mono (fun k _ hk => hlow k (by omega)))).setCell _ (fun e => e.2.2 rfl)).setCell _ (fun e => e.2.2 rfl)
theorem wpIn_no_panic {F : Fence} {m : Nat} {P : Program} {c : Code} {Q : Exit → Act → World → Prop} {a : Act} {w : World} (h : c.wpIn F m P (fun e a w => (∀ ch, e ≠ Exit.panic ch) ∧ Q e a w) a w) : c.wpIn F m P Q a w := wpIn_mono h (fun _ _ _ h => h.2)
theorem turn_tail {H D : Nat} {R : Ending → World → Prop} {tmps : Array Value} {WF : World} {v1 v2 : Value} {m : Int} (ht8 : tmps[8]? = some (.pointer (some ⟨H + 4, 0, none⟩))) (ht9 : tmps[9]? = some (.pointer (some ⟨H + 5, 0, none⟩)))
  (b4 : BoxN WF (H + 4) 24 [v1, v2]) (b5 : Boxed WF (H + 5) 35 (.int .i64 m)) (hd : WF.heap[D]? = some (.deferred (some []))) (h4 : H + 4 ≠ D) (h5 : H + 5 ≠ D) (hR : R (.returned (.tuple #[.agg #[v1, v2], .int .i64 m])) (WF.putObj D (.deferred none))) :
  bodyPostM Fence.wide 9 Try.prog Try.f24 R Exit.ret { tmps := tmps, defers := [{ target := Target.collected D, args := #[] }] } WF := by
 have hu24 := Try.underlying24
 have hk : Keeps (fun k => k ≠ D) WF (WF.putObj D (.deferred none)) := (Keeps.refl _ WF).putObj _ (fun h => h.2 rfl)
 have c4 := hk.boxN b4 h4
 have c40 := c4.cell 0 rfl
 have c41 := c4.cell 1 rfl
 have c5 := (hk.boxed b5 h5).cell
 refine ⟨by simp, .inl ⟨_, _, rfl, run_takeDeferred hd, ?_⟩⟩
 refine ⟨.tuple #[.agg #[v1, v2], .int .i64 m], ?_, hR⟩
 generalize WF.putObj D (.deferred none) = WG at *
 simp [results, Try.f24, asAddr, loadVar, go_sem, ht8, ht9, c40, c41, c5, hu24]
attribute [local go_sem] Oper.semAt_some
set_option maxHeartbeats 16000000 in
set_option maxRecDepth 100000 in
theorem steps_turn_calls (fd dx : Nat) (a3 : Int) (doF : Int → Int × Bool) (hent : ∀ args w, (callFunc fd args).run Try.prog w = .ok (.enter fd args) w) (hdo : ∀ (x : Int) (W : World), Boxed W dx 2 (.int .i64 a3) → Calls Try.prog fd #[.int .i64 x, .pointer (some ⟨dx, 0, none⟩)] W fun e w' => e = .returned (.tuple #[.int .i64 (doF x).1, .bool (doF x).2]) ∧ Drawn0 W w')
  (A : Option Addr) (c : Nat) (B : Option Addr) (d : Nat) (a n : List Int) (a1 a2 : Int) (w : World) (hA : Kd.C (Kd.int .i64) w A a.length a) (hB : Kd.C (Kd.int .i64) w B n.length n) (hdx : Boxed w dx 2 (.int .i64 a3)) (hl : n.length = a.length) (hs : a.length ≤ 60000) :
  Calls Try.prog 24 #[.agg #[.slice A a.length c, .slice B n.length d], .int .i64 a1, .int .i64 a2, .func (Fn.func fd) #[] #[.pointer (some ⟨dx, 0, none⟩)]] w fun e w' =>
   Below w.heap.size w w' ∧ ((turnL a1 a2 doF (spansT a n) = none ∧ e = .returned (.tuple #[.agg #[.slice none 0 0, .slice none 0 0], .int .i64 6])) ∨
    ∃ out, turnL a1 a2 doF (spansT a n) = some out ∧ ((2000 < out.length ∧ e = .returned (.tuple #[.agg #[.slice none 0 0, .slice none 0 0], .int .i64 6])) ∨
     (out.length ≤ 2000 ∧ ∃ A' c' B' d', out.length ≤ c' ∧ out.length ≤ d' ∧ e = .returned (.tuple #[.agg #[.slice A' out.length out.length, .slice B' out.length out.length], .int .i64 0]) ∧ Two w' w.heap.size (.slice A' out.length c') (.slice B' out.length d') out))) := by
 have hu24 := Try.underlying24
 have hmo : Try.prog.follows .mixedOrders = true := by kernel_rfl
 obtain ⟨H, hH⟩ : ∃ H, w.heap.size = H := ⟨_, rfl⟩
 replace hA := Aside0.mk hA
 replace hB := Aside0.mk hB
 replace hdx := Aside0.mk hdx
 replace hl := Aside0.mk hl
 replace hdo := Aside0.mk hdo
 refine (callsIn_wide (n := 9)).1 (callsIn_of_wp_marks Try.func24 rfl trivial ?_ rfl)
 simp only [Try.ntmps24, List.size_toArray, List.length_cons, List.length_nil, Nat.reduceAdd, Nat.reduceSub, Array.replicate_succ, Array.replicate_zero, List.push_toArray, List.append_toArray, List.nil_append, List.cons_append]
 gi_wp2_with (refine ⟨trivial, ?_⟩; gi_at_call 35; refine (callsIn_wide.2 (steps_spans_calls _ _ rfl rfl _)).mono ?_; rintro e w3 ⟨rfl, rfl⟩)
 obtain ⟨Wr, hWr⟩ : ∃ Wr, ((((((((w.alloc (Obj.cells #[Value.slice A a.length c, Value.slice B n.length d] 24)).alloc (Obj.cells #[Value.int IntKind.i64 a1] 2)).alloc (Obj.cells #[Value.int IntKind.i64 a2] 2)).alloc (Obj.cells #[Value.func (Fn.func fd) #[] #[Value.pointer (some ⟨dx, 0, none⟩)]] 64)).alloc (Obj.cells #[Value.slice none 0 0, Value.slice none 0 0] 24)).alloc (Obj.cells #[Value.int IntKind.i64 0] 35)).alloc (Obj.cells #[Value.slice none 0 0, Value.slice none 0 0] 24)).alloc (Obj.cells #[Value.slice A a.length c, Value.slice B n.length d] 24)) = Wr := ⟨_, rfl⟩
 rw [hWr]
 have hWl : ([(Obj.cells #[Value.slice A a.length c, Value.slice B n.length d] 24), (Obj.cells #[Value.int IntKind.i64 a1] 2), (Obj.cells #[Value.int IntKind.i64 a2] 2), (Obj.cells #[Value.func (Fn.func fd) #[] #[Value.pointer (some ⟨dx, 0, none⟩)]] 64), (Obj.cells #[Value.slice none 0 0, Value.slice none 0 0] 24), (Obj.cells #[Value.int IntKind.i64 0] 35), (Obj.cells #[Value.slice none 0 0, Value.slice none 0 0] 24), (Obj.cells #[Value.slice A a.length c, Value.slice B n.length d] 24)] : List Obj).foldl World.alloc w = Wr := hWr
 clear hWr
 have hsz := (heap_allocs [(Obj.cells #[Value.slice A a.length c, Value.slice B n.length d] 24), (Obj.cells #[Value.int IntKind.i64 a1] 2), (Obj.cells #[Value.int IntKind.i64 a2] 2), (Obj.cells #[Value.func (Fn.func fd) #[] #[Value.pointer (some ⟨dx, 0, none⟩)]] 64), (Obj.cells #[Value.slice none 0 0, Value.slice none 0 0] 24), (Obj.cells #[Value.int IntKind.i64 0] 35), (Obj.cells #[Value.slice none 0 0, Value.slice none 0 0] 24), (Obj.cells #[Value.slice A a.length c, Value.slice B n.length d] 24)] w).1
 have hat := (heap_allocs [(Obj.cells #[Value.slice A a.length c, Value.slice B n.length d] 24), (Obj.cells #[Value.int IntKind.i64 a1] 2), (Obj.cells #[Value.int IntKind.i64 a2] 2), (Obj.cells #[Value.func (Fn.func fd) #[] #[Value.pointer (some ⟨dx, 0, none⟩)]] 64), (Obj.cells #[Value.slice none 0 0, Value.slice none 0 0] 24), (Obj.cells #[Value.int IntKind.i64 0] 35), (Obj.cells #[Value.slice none 0 0, Value.slice none 0 0] 24), (Obj.cells #[Value.slice A a.length c, Value.slice B n.length d] 24)] w).2
 have hkp : Keeps (fun k => k < H) w (([(Obj.cells #[Value.slice A a.length c, Value.slice B n.length d] 24), (Obj.cells #[Value.int IntKind.i64 a1] 2), (Obj.cells #[Value.int IntKind.i64 a2] 2), (Obj.cells #[Value.func (Fn.func fd) #[] #[Value.pointer (some ⟨dx, 0, none⟩)]] 64), (Obj.cells #[Value.slice none 0 0, Value.slice none 0 0] 24), (Obj.cells #[Value.int IntKind.i64 0] 35), (Obj.cells #[Value.slice none 0 0, Value.slice none 0 0] 24), (Obj.cells #[Value.slice A a.length c, Value.slice B n.length d] 24)] : List Obj).foldl World.alloc w) := keeps_allocs _ _ _
 rw [hWl] at hsz hat hkp
 simp only [hH] at hsz hat
 have hr1 : Boxed Wr (H + 1) 2 (.int .i64 a1) := hat 1 _ rfl
 have hr2 : Boxed Wr (H + 2) 2 (.int .i64 a2) := hat 2 _ rfl
 have hr3 : Boxed Wr (H + 3) 64 (.func (Fn.func fd) #[] #[.pointer (some ⟨dx, 0, none⟩)]) := hat 3 _ rfl
 have hr4 : BoxN Wr (H + 4) 24 [.slice none 0 0, .slice none 0 0] := hat 4 _ rfl
 have hr5 : Boxed Wr (H + 5) 35 (.int .i64 0) := hat 5 _ rfl
 have hr6 : BoxN Wr (H + 6) 24 [.slice none 0 0, .slice none 0 0] := hat 6 _ rfl
 have hr7 : BoxN Wr (H + 7) 24 [.slice A a.length c, .slice B n.length d] := hat 7 _ rfl
 have hdl : dx < H := by rw [← hH]; exact hdx.out.lt
 have hrd : Boxed Wr dx 2 (.int .i64 a3) := hkp.boxed hdx.out hdl
 have hBr : Below w.heap.size w Wr := hkp.below (Nat.le_refl _) (fun k hk => by omega)
 replace hsz : Wr.heap.size = H + 8 := hsz
 clear hat hWl
 have hr1 := Aside0.mk hr1
 have hr2 := Aside0.mk hr2
 have hr3 := Aside0.mk hr3
 have hr4 := Aside0.mk hr4
 have hr5 := Aside0.mk hr5
 have hrd := Aside0.mk hrd
 simp only [Nat.add_assoc, Nat.reduceAdd]
 have hsl := spansT_length a n
 refine wpIn_range (n := 9) (w := Wr) rfl (by omega) (gf := 46) (lb := #[.pointer (some ⟨H + 7, 0, none⟩)]) rfl trivial (enters_of Try.func46 (by kernel_rfl) rfl)
  (steps_spans_seq w A c B d a n (H + 7) Wr hA.out hB.out hBr hr7 hl.out (by omega)) (fun k hk => hk.elim) (fun k hk => by rcases hk with hk | hk <;> omega) (fun _ => rfl)
  (fun pre W => (∃ out, turnL a1 a2 doF pre = some out ∧ (∃ vA vN, BoxN W (H + 6) 24 [vA, vN] ∧ Two W (H + 10) vA vN out) ∧ Keeps (fun k => k < H + 8 ∧ k ≠ H + 6) Wr W))
  (fun cd pre W => cd = .ret ∧ turnL a1 a2 doF pre = none ∧ BoxN W (H + 4) 24 [.slice none 0 0, .slice none 0 0] ∧ Boxed W (H + 5) 35 (.int .i64 6) ∧ Keeps (fun k => k < H) Wr W)
  (by
   rintro s X Y ⟨out, h1, ⟨vA, vN, h2, h3⟩, h4⟩ hk
   exact ⟨out, h1, ⟨vA, vN, hk.boxN h2 ⟨not_false, by omega, by omega⟩, h3.keeps hk (fun k hk => ⟨not_false, by omega, by omega⟩)⟩, h4.trans (hk.mono (fun k _ hk => ⟨not_false, by omega, by omega⟩))⟩)
  (by
   rintro cd s X Y ⟨h0, h1, h2, h3, h4⟩ hk
   exact ⟨h0, h1, hk.boxN h2 ⟨not_false, by omega, by omega⟩, hk.boxed h3 ⟨not_false, by omega, by omega⟩, h4.trans (hk.mono (fun k _ hk => ⟨not_false, by omega, by omega⟩))⟩)
  ⟨[], rfl, ⟨_, _, hr6, World.ownsRow_nil _ _ _ _, World.ownsRow_nil _ _ _ _, fun k hk => by simp [Value.ownBlock] at hk⟩, Keeps.refl _ _⟩
  (fun pre x a' W => ∃ out sb vA vN, turnL a1 a2 doF pre = some out ∧ TurnInv H Wr x sb out W vA vN ∧
   a' = { tmps := #[Value.agg #[Value.slice A a.length c, Value.slice B n.length d], Value.int IntKind.i64 a1, Value.int IntKind.i64 a2, Value.func (Fn.func fd) #[] #[Value.pointer (some { block := dx, off := 0 })], Value.pointer (some { block := H, off := 0 }), Value.pointer (some { block := H + 1, off := 0 }), Value.pointer (some { block := H + 2, off := 0 }), Value.pointer (some { block := H + 3, off := 0 }), Value.pointer (some { block := H + 4, off := 0 }), Value.pointer (some { block := H + 5, off := 0 }), Value.pointer (some { block := H + 6, off := 0 }), Value.pointer (some { block := sb, off := 0 }), undef, undef, undef, undef, undef, Value.agg #[Value.slice A a.length c, Value.slice B n.length d], Value.func (Fn.func 46) #[] #[Value.pointer (some { block := H + 7, off := 0 })], Value.agg #[.int .i64 x.1, .int .i64 x.2.1, .int .i64 x.2.2], undef, undef, undef, undef, undef, undef, undef, undef, undef, undef, undef, undef, undef, undef, undef, undef, undef, undef, undef, undef, undef, undef, undef, undef, undef, undef, undef, undef, undef, undef, undef, undef, undef, undef, undef, undef, undef, undef, undef, undef, undef, undef, undef, undef, undef, undef, undef, undef, undef, undef, undef, undef, undef, undef, undef, undef, undef, undef, undef, undef, undef, undef, undef, undef, undef, undef, undef, undef, undef, undef, undef, undef, undef], defers := [] })
  (by
   rintro pre x a' X Y ⟨out, sb, vA, vN, h1, h2, h3⟩ hk
   exact ⟨out, sb, vA, vN, h1, ⟨hk.boxN h2.box (by omega), h2.two.keeps hk (fun k hk => by omega), hk.boxN h2.span (by have := h2.ge; omega), h2.na, h2.nn, h2.keeps.trans (hk.mono (fun k _ hk => by omega)), h2.ge⟩, h3⟩)
  ?assign ?body ?done ?stop
 case assign =>
  rintro pre ⟨x0, x1, x2⟩ W ⟨out, h1, ⟨vA, vN, h2, h3⟩, h4⟩ hpre hsz2
  simp only [encSpan]
  gi_wp2
  refine ⟨(Keeps.refl _ W).alloc _, out, W.heap.size, vA, vN, h1, ⟨h2.alloc _, h3.alloc _, BoxN.new W _ [.int .i64 x0, .int .i64 x1, .int .i64 x2], fun e => Nat.lt_irrefl _ (h3.a.lt _ e).2, fun e => Nat.lt_irrefl _ (h3.n.lt _ e).2, h4.alloc _, by omega⟩, rfl⟩
 case body =>
  rintro pre ⟨x0, x1, x2⟩ a' W hpre hrec ⟨out, sb, vA, vN, h1, HI, rfl⟩
  obtain ⟨vp, hvp⟩ : ∃ v : Value, v = .agg #[.int .i64 x0, .int .i64 x1, .int .i64 x2] := ⟨_, rfl⟩
  simp only [← hvp]
  clear hvp
  have h91 : 1 ≤ 9 - 1 - 1 := by decide
  have hb1 := HI.keeps.boxed hr1.out (by omega)
  have hb2 := HI.keeps.boxed hr2.out (by omega)
  have hc1 := hb1.cell
  have hf1 := hb1.frozen
  have hc2 := hb2.cell
  have hf2 := hb2.frozen
  have hs0 := HI.span.cell 0 rfl
  have hs1 := HI.span.cell 1 rfl
  have hs2 := HI.span.cell 2 rfl
  have hsf0 := HI.span.frozen 0
  have hsf1 := HI.span.frozen 1
  have hsf2 := HI.span.frozen 2
  replace HI := Aside0.mk HI
  gi_upto_region 4 with fail
  gi_cut [12, 13] from 20 (fun v12 v13 wx => ∃ m, v12 = .int .i64 (mx x0 a1) ∧ v13 = .int .i64 (mn x1 a2) ∧ wx = W.drewN m)
  case first =>
   by_cases q1 : x0 < a1 <;> by_cases q2 : a2 < x1
   all_goals
    refine start_in (n := 10) (S := fun w' => w'.cell? ⟨sb, 0, none⟩ = some (.int .i64 x0) ∧ w'.cell? ⟨sb, 1, none⟩ = some (.int .i64 x1) ∧ w'.cell? ⟨H + 1, 0, none⟩ = some (.int .i64 a1) ∧ w'.cell? ⟨H + 2, 0, none⟩ = some (.int .i64 a2)) (ds := []) qf7b0 hmo rfl rfl (by rfl) (fun ⟨a_, w_, h_⟩ => h_) ⟨hs0, hs1, hc1, hc2⟩ (fun hHeld => ?_)
    refine pure_ (i := 0) (N := some 20) (v := ?_) (a' := ?_) qf7b1 rfl rfl (by kernel_rfl) (fun _ _ _ h => h) (Or.inl ⟨by rfl, ?_⟩) ?_ ?_
    rotate_left
    ·
     intro w'
     go_simp
     with_reducible rfl
    rotate_left
    ·
     simp only [Act.put, List.setIfInBounds_toArray, List.set_cons_zero, List.set_cons_succ, i64_w, i32_w]
     rfl
    refine take_ (i := 1) (N := some 21) (v := ?_) (a' := ?_) qf7b2 rfl rfl (by kernel_rfl) (fun _ _ _ h => h) (Or.inl ⟨by rfl, ?_⟩) hHeld ?_ ?_
    rotate_left
    ·
     rintro w' ⟨s0_, s1_, s2_, s3_⟩
     go_simp
     with_reducible rfl
    rotate_left
    ·
     simp only [Act.put, List.setIfInBounds_toArray, List.set_cons_zero, List.set_cons_succ, i64_w, i32_w]
     rfl
    refine take_ (i := 2) (N := some 22) (v := ?_) (a' := ?_) qf7b3 rfl rfl (by kernel_rfl) (fun _ _ _ h => h) (Or.inl ⟨by rfl, ?_⟩) hHeld ?_ ?_
    rotate_left
    ·
     rintro w' ⟨s0_, s1_, s2_, s3_⟩
     go_simp
     with_reducible rfl
    rotate_left
    ·
     simp only [Act.put, List.setIfInBounds_toArray, List.set_cons_zero, List.set_cons_succ, i64_w, i32_w]
     rfl
    refine pure_ (i := 3) (N := some 23) (v := ?_) (a' := ?_) qf7b4 rfl rfl (by kernel_rfl) (fun _ _ _ h => h) (Or.inl ⟨by rfl, ?_⟩) ?_ ?_
    rotate_left
    ·
     intro w'
     go_simp
     with_reducible rfl
    rotate_left
    ·
     simp only [Act.put, List.setIfInBounds_toArray, List.set_cons_zero, List.set_cons_succ, i64_w, i32_w]
     rfl
    refine pure_ (i := 4) (N := some 24) (v := ?_) (a' := ?_) qf7b5 rfl rfl (by kernel_rfl) (fun _ _ _ h => h) (Or.inl ⟨by rfl, ?_⟩) ?_ ?_
    rotate_left
    ·
     intro w'
     go_simp
     with_reducible rfl
    rotate_left
    ·
     simp only [Act.put, List.setIfInBounds_toArray, List.set_cons_zero, List.set_cons_succ, i64_w, i32_w]
     rfl
    refine take_ (i := 5) (N := some 25) (v := ?_) (a' := ?_) qf7b6 rfl rfl (by kernel_rfl) (fun _ _ _ h => h) (Or.inl ⟨by rfl, ?_⟩) hHeld ?_ ?_
    rotate_left
    ·
     rintro w' ⟨s0_, s1_, s2_, s3_⟩
     go_simp
     with_reducible rfl
    rotate_left
    ·
     simp only [Act.put, List.setIfInBounds_toArray, List.set_cons_zero, List.set_cons_succ, i64_w, i32_w]
     rfl
    refine take_ (i := 6) (N := some 26) (v := ?_) (a' := ?_) qf7b7 rfl rfl (by kernel_rfl) (fun _ _ _ h => h) (Or.inl ⟨by rfl, ?_⟩) hHeld ?_ ?_
    rotate_left
    ·
     rintro w' ⟨s0_, s1_, s2_, s3_⟩
     go_simp
     with_reducible rfl
    rotate_left
    ·
     simp only [Act.put, List.setIfInBounds_toArray, List.set_cons_zero, List.set_cons_succ, i64_w, i32_w]
     rfl
    refine pure_ (i := 7) (N := some 27) (v := ?_) (a' := ?_) qf7b8 rfl rfl (by kernel_rfl) (fun _ _ _ h => h) (Or.inl ⟨by rfl, ?_⟩) ?_ ?_
    rotate_left
    ·
     intro w'
     go_simp
     with_reducible rfl
    rotate_left
    ·
     simp only [Act.put, List.setIfInBounds_toArray, List.set_cons_zero, List.set_cons_succ, i64_w, i32_w]
     rfl
    refine pure_ (i := 8) (N := some 12) (v := ?_) (a' := ?_) qf7b9 rfl rfl (by kernel_rfl) (fun _ _ _ h => h) (Or.inl ⟨by rfl, ?_⟩) ?_ ?_
    rotate_left
    ·
     intro w'
     go_simp
     with_reducible rfl
    rotate_left
    ·
     simp only [Act.put, List.setIfInBounds_toArray, List.set_cons_zero, List.set_cons_succ, i64_w, i32_w]
     rfl
    refine pure_ (i := 9) (N := some 13) (v := ?_) (a' := ?_) qf7b10 rfl rfl (by kernel_rfl) (fun _ _ _ h => h) (Or.inl ⟨by rfl, ?_⟩) ?_ ?_
    rotate_left
    ·
     intro w'
     go_simp
     with_reducible rfl
    rotate_left
    ·
     simp only [Act.put, List.setIfInBounds_toArray, List.set_cons_zero, List.set_cons_succ, i64_w, i32_w]
     rfl
    refine done_ (by kernel_rfl) ?_
    gi_wp2
    gi_meet
    case rel => exact ⟨1, (by simp only [mx]; (repeat' split) <;> first | rfl | omega), (by simp only [mn]; (repeat' split) <;> first | rfl | omega), rfl⟩
  case rest =>
   obtain ⟨m, rfl, rfl, rfl⟩ := hcut
   replace HI := Aside0.mk (show TurnInv H Wr (x0, x1, x2) sb out (W.drewN m) vA vN from ⟨HI.out.box, HI.out.two.keeps ((Keeps.refl (fun _ => True) W).drewN m) (fun _ _ => trivial), HI.out.span, HI.out.na, HI.out.nn, HI.out.keeps.drewN m, HI.out.ge⟩)
   have HG := Aside0.mk (show H + 10 ≤ (W.drewN m).heap.size by have h7 := HI.out.span.lt; have h8 := HI.out.ge; omega)
   have hpl : pre.length + 1 ≤ a.length := by have h7 := hpre.length_le; rw [hsl] at h7; simpa using h7
   have hol := turnL_length _ _ _ _ _ h1
   have HL := Aside0.mk (show out.length ≤ 180000 by omega)
   clear hb1 hb2 hc1 hf1 hc2 hf2 hs0 hs1 hs2 hsf0 hsf1 hsf2
   have hkR := Aside0.mk ((Keeps.refl (fun k => k ≠ H + 6) W).drewN m)
   generalize W.drewN m = W2 at *
   by_cases q : mn x1 a2 ≤ mx x0 a1
   ·
    have hq : decide (mn x1 a2 ≤ mx x0 a1) = true := decide_eq_true q
    have ht1 : turn1 a1 a2 doF out (x0, x1, x2) = some (putS out x0 x2) := by unfold turn1; rw [if_pos q]
    clear q
    replace HL := Aside0.mk (show out.length ≤ 200000 by have := HL.out; omega)
    have hi0 := HI.out.box.cell 0 rfl
    have hi1 := HI.out.box.cell 1 rfl
    have hi2 := HI.out.box.frozen 0
    have hi3 := HI.out.box.frozen 1
    have hs0 := HI.out.span.cell 0 rfl
    have hs1 := HI.out.span.cell 1 rfl
    have hs2 := HI.out.span.cell 2 rfl
    have hsf0 := HI.out.span.frozen 0
    have hsf1 := HI.out.span.frozen 1
    have hsf2 := HI.out.span.frozen 2
    gi_wp2_with (refine ⟨trivial, ?_⟩; gi_at_call 36; refine (CallsIn.inRound _ (callsIn_wide.2 (steps_put_calls (H + 10) _ _ _ _ _ _ HI.out.two HG.out (HL.out)))).mono ?_; rintro e w5 ⟨vA5, vN5, rfl, hT5, hK5, hN5⟩; obtain ⟨A5, c5, rfl⟩ := own_slice hT5.a; obtain ⟨B5, d5, rfl⟩ := own_slice hT5.n; obtain ⟨hB5, HI5, HK5⟩ := HI.out.put hT5 hK5 hN5; have hG5 := Aside0.mk (Nat.le_trans HG.out hK5.size); have hp0 := hB5.cell 0 rfl; have hp1 := hB5.cell 1 rfl; have hp2 := hB5.frozen 0; have hp3 := hB5.frozen 1; replace HI5 := Aside0.mk HI5; replace HK5 := Aside0.mk HK5; clear hT5 hK5 hN5 hB5)
    exact ⟨keeps_trans2 hkR.out HK5.out (fun k _ hk => by omega) (fun k _ hk => by omega), _, by rw [turnL_snoc, h1]; exact ht1, ⟨_, _, HI5.out.box, HI5.out.two⟩, HI5.out.keeps⟩
   ·
    have hq : decide (mn x1 a2 ≤ mx x0 a1) = false := decide_eq_false q
    have hbd := Aside0.mk (HI.out.keeps.boxed hrd.out (by omega))
    have hb3 := HI.out.keeps.boxed hr3.out (by omega)
    have hcf := hb3.cell
    have hff := hb3.frozen
    clear hb3
    have hi0 := HI.out.box.cell 0 rfl
    have hi1 := HI.out.box.cell 1 rfl
    have hi2 := HI.out.box.frozen 0
    have hi3 := HI.out.box.frozen 1
    have hs0 := HI.out.span.cell 0 rfl
    have hs1 := HI.out.span.cell 1 rfl
    have hs2 := HI.out.span.cell 2 rfl
    have hsf0 := HI.out.span.frozen 0
    have hsf1 := HI.out.span.frozen 1
    have hsf2 := HI.out.span.frozen 2
    cases hok : (doF x2).2 with
    | false =>
     have ht1 : turn1 a1 a2 doF out (x0, x1, x2) = none := by unfold turn1; rw [if_neg q, if_pos hok]
     clear q
     have hb4 := HI.out.keeps.boxN hr4.out (by omega)
     have hb5 := HI.out.keeps.boxed hr5.out (by omega)
     have hc40 := hb4.cell 0 rfl
     have hc41 := hb4.cell 1 rfl
     have hf40 := hb4.frozen 0
     have hf41 := hb4.frozen 1
     have hc5 := hb5.cell
     have hf5 := hb5.frozen
     replace hb4 := Aside0.mk hb4
     replace hb5 := Aside0.mk hb5
     gi_wp2_with (refine ⟨trivial, ?_⟩; refine (CallsIn.inRound _ (callsIn_wide.2 (hdo.out _ _ hbd.out))).mono ?_; rintro e w4 ⟨rfl, nd4, rfl⟩; rw [hok])
     have KA : Keeps (fun k => k ≠ H + 4 ∧ k ≠ H + 5) W2 ((((W2.drewN nd4).setCell ⟨H + 4, 0, none⟩ (.slice none 0 0)).setCell ⟨H + 4, 1, none⟩ (.slice none 0 0)).setCell ⟨H + 5, 0, none⟩ (.int .i64 6)) :=
      ((((Keeps.refl _ W2).drewN nd4).setCell _ (fun h => h.2.1 rfl)).setCell _ (fun h => h.2.1 rfl)).setCell _ (fun h => h.2.2 rfl)
     refine ⟨keeps_trans2 hkR.out KA (fun k _ hk => by omega) (fun k _ hk => by omega), rfl, by rw [turnL_snoc, h1]; exact ht1, ?_, ?_, keeps_trans2 HI.out.keeps KA (fun k _ hk => by omega) (fun k _ hk => by omega)⟩
     ·
      exact (((hb4.out.drewN nd4).set 0 (.slice none 0 0)).set 1 (.slice none 0 0)).other (by simp) _
     ·
      refine Boxed.set (v := .int .i64 0) _ ?_
      exact (((Keeps.refl (fun k => k ≠ H + 4) (W2.drewN nd4)).setCell _ (fun h => h.2 rfl)).setCell _ (fun h => h.2 rfl)).boxed (show Boxed (W2.drewN nd4) (H + 5) 35 (.int .i64 0) from hb5.out) (by omega)
    | true =>
     gi_upto_if 50 with (refine ⟨trivial, ?_⟩; refine (CallsIn.inRound _ (callsIn_wide.2 (hdo.out _ _ hbd.out))).mono ?_; rintro e w4 ⟨rfl, nd4, rfl⟩; rw [hok])
     replace HI := Aside0.mk (show TurnInv H Wr (x0, x1, x2) sb out (W2.drewN nd4) vA vN from ⟨HI.out.box, HI.out.two.keeps ((Keeps.refl (fun _ => True) W2).drewN nd4) (fun _ _ => trivial), HI.out.span, HI.out.na, HI.out.nn, HI.out.keeps.drewN nd4, HI.out.ge⟩)
     replace HG := Aside0.mk (show H + 10 ≤ (W2.drewN nd4).heap.size from HG.out)
     replace hkR := Aside0.mk (hkR.out.drewN nd4)
     clear hi0 hi1 hi2 hi3 hs0 hs1 hs2 hsf0 hsf1 hsf2 hbd hcf hff
     generalize W2.drewN nd4 = W3 at *
     gi_cut [] from 50 (fun wx => ∃ vA1 vN1, Aside0 (TurnInv H Wr (x0, x1, x2) sb (if x0 < mx x0 a1 then putS out x0 x2 else out) wx vA1 vN1) ∧ Aside0 (Keeps (fun k => k < H + 10 ∧ k ≠ H + 6) W wx))
     case first =>
      by_cases q5 : x0 < mx x0 a1
      ·
       have hq5 : decide (x0 < mx x0 a1) = true := decide_eq_true q5
       replace HL := Aside0.mk (show out.length ≤ 200000 by have := HL.out; omega)
       have hi0 := HI.out.box.cell 0 rfl
       have hi1 := HI.out.box.cell 1 rfl
       have hi2 := HI.out.box.frozen 0
       have hi3 := HI.out.box.frozen 1
       have hs0 := HI.out.span.cell 0 rfl
       have hs1 := HI.out.span.cell 1 rfl
       have hs2 := HI.out.span.cell 2 rfl
       have hsf0 := HI.out.span.frozen 0
       have hsf1 := HI.out.span.frozen 1
       have hsf2 := HI.out.span.frozen 2
       gi_wp2_with (refine ⟨trivial, ?_⟩; gi_at_call 36; refine (CallsIn.inRound _ (callsIn_wide.2 (steps_put_calls (H + 10) _ _ _ _ _ _ HI.out.two HG.out (HL.out)))).mono ?_; rintro e w5 ⟨vA5, vN5, rfl, hT5, hK5, hN5⟩; obtain ⟨A5, c5, rfl⟩ := own_slice hT5.a; obtain ⟨B5, d5, rfl⟩ := own_slice hT5.n; obtain ⟨hB5, HI5, HK5⟩ := HI.out.put hT5 hK5 hN5; have hG5 := Aside0.mk (Nat.le_trans HG.out hK5.size); have hp0 := hB5.cell 0 rfl; have hp1 := hB5.cell 1 rfl; have hp2 := hB5.frozen 0; have hp3 := hB5.frozen 1; replace HI5 := Aside0.mk HI5; replace HK5 := Aside0.mk HK5; clear hT5 hK5 hN5 hB5)
       gi_meet
       case rel => exact ⟨_, _, ⟨by rw [if_pos q5]; exact HI5.out⟩, ⟨keeps_trans2 hkR.out HK5.out (fun k _ hk => by omega) (fun k _ hk => by omega)⟩⟩
      ·
       have hq5 : decide (x0 < mx x0 a1) = false := decide_eq_false q5
       gi_wp2
       gi_meet
       case rel => exact ⟨_, _, ⟨by rw [if_neg (show ¬ x0 < mx x0 a1 by omega)]; exact HI.out⟩, ⟨hkR.out.mono (fun k _ hk => by omega)⟩⟩
     case rest =>
      obtain ⟨vA1, vN1, HI, hkR⟩ := hcut
      obtain ⟨out1, ho1⟩ : ∃ o, (if x0 < mx x0 a1 then putS out x0 x2 else out) = o := ⟨_, rfl⟩
      rw [ho1] at HI
      have hol1 : out1.length ≤ out.length + 1 := by
       rw [← ho1]
       split
       ·
        exact putS_length _ _ _
       ·
        omega
      have HL0 := HL.out
      replace HL := Aside0.mk (show out1.length ≤ 200000 by omega)
      replace HG := Aside0.mk (show H + 10 ≤ wc.heap.size by have h7 := HI.out.span.lt; have h8 := HI.out.ge; omega)
      have hi0 := HI.out.box.cell 0 rfl
      have hi1 := HI.out.box.cell 1 rfl
      have hi2 := HI.out.box.frozen 0
      have hi3 := HI.out.box.frozen 1
      have hs0 := HI.out.span.cell 0 rfl
      have hs1 := HI.out.span.cell 1 rfl
      have hs2 := HI.out.span.cell 2 rfl
      have hsf0 := HI.out.span.frozen 0
      have hsf1 := HI.out.span.frozen 1
      have hsf2 := HI.out.span.frozen 2
      gi_upto_region 13 with (refine ⟨trivial, ?_⟩; gi_at_call 36; refine (CallsIn.inRound _ (callsIn_wide.2 (steps_put_calls (H + 10) _ _ _ _ _ _ HI.out.two HG.out (HL.out)))).mono ?_; rintro e w5 ⟨vA5, vN5, rfl, hT5, hK5, hN5⟩; obtain ⟨A5, c5, rfl⟩ := own_slice hT5.a; obtain ⟨B5, d5, rfl⟩ := own_slice hT5.n; obtain ⟨hB5, HI5, HK5⟩ := HI.out.put hT5 hK5 hN5; have hG5 := Aside0.mk (Nat.le_trans HG.out hK5.size); have hp0 := hB5.cell 0 rfl; have hp1 := hB5.cell 1 rfl; have hp2 := hB5.frozen 0; have hp3 := hB5.frozen 1; replace HI5 := Aside0.mk HI5; replace HK5 := Aside0.mk HK5; clear hT5 hK5 hN5 hB5)
      have ht1 : turn1 a1 a2 doF out (x0, x1, x2) = (if mn x1 a2 < x1 ∧ mn x1 a2 ≤ 1099511627776 then some (putS (putS out1 (mx x0 a1) (doF x2).1) (mn x1 a2) x2) else some (putS out1 (mx x0 a1) (doF x2).1)) := by
       unfold turn1
       dsimp only
       rw [if_neg (show ¬ mn x1 a2 ≤ mx x0 a1 by omega), if_neg (by rw [hok]; decide), ← ho1]
      clear q
      have hol2 := putS_length out1 (mx x0 a1) (doF x2).1
      replace hkR := Aside0.mk (show Keeps (fun k => k < H + 10 ∧ k ≠ H + 6) W _ from keeps_trans2 hkR.out HK5.out (fun k _ hk => hk) (fun k _ hk => hk))
      clear HI HK5 hp0 hp1 hp2 hp3 hi0 hi1 hi2 hi3 hs0 hs1 hs2 hsf0 hsf1 hsf2 HG hG5
      have HI := HI5
      clear HI5
      generalize putS out1 (mx x0 a1) (doF x2).1 = out2 at *
      generalize ((w5.setCell ⟨H + 6, 0, none⟩ (Value.slice A5 out2.length c5)).setCell ⟨H + 6, 1, none⟩ (Value.slice B5 out2.length d5)) = W6 at *
      replace HL := Aside0.mk (show out2.length ≤ 200000 by omega)
      have HG := Aside0.mk (show H + 10 ≤ W6.heap.size by have h7 := HI.out.span.lt; have h8 := HI.out.ge; omega)
      have hi0 := HI.out.box.cell 0 rfl
      have hi1 := HI.out.box.cell 1 rfl
      have hi2 := HI.out.box.frozen 0
      have hi3 := HI.out.box.frozen 1
      have hs0 := HI.out.span.cell 0 rfl
      have hs1 := HI.out.span.cell 1 rfl
      have hs2 := HI.out.span.cell 2 rfl
      have hsf0 := HI.out.span.frozen 0
      have hsf1 := HI.out.span.frozen 1
      have hsf2 := HI.out.span.frozen 2
      by_cases q6 : mn x1 a2 < x1
      ·
       have hq6 : decide (mn x1 a2 < x1) = true := decide_eq_true q6
       by_cases q7 : mn x1 a2 ≤ 1099511627776
       ·
        have hq7 : decide (mn x1 a2 ≤ 1099511627776) = true := decide_eq_true q7
        rw [if_pos ⟨q6, q7⟩] at ht1
        clear q6 q7
        gi_wp2_with (refine ⟨trivial, ?_⟩; gi_at_call 36; refine (CallsIn.inRound _ (callsIn_wide.2 (steps_put_calls (H + 10) _ _ _ _ _ _ HI.out.two HG.out (HL.out)))).mono ?_; rintro e w5 ⟨vA5, vN5, rfl, hT5, hK5, hN5⟩; obtain ⟨A5, c5, rfl⟩ := own_slice hT5.a; obtain ⟨B5, d5, rfl⟩ := own_slice hT5.n; obtain ⟨hB5, HI5, HK5⟩ := HI.out.put hT5 hK5 hN5; have hG5 := Aside0.mk (Nat.le_trans HG.out hK5.size); have hp0 := hB5.cell 0 rfl; have hp1 := hB5.cell 1 rfl; have hp2 := hB5.frozen 0; have hp3 := hB5.frozen 1; replace HI5 := Aside0.mk HI5; replace HK5 := Aside0.mk HK5; clear hT5 hK5 hN5 hB5)
        exact ⟨keeps_trans2 hkR.out HK5.out (fun k _ hk => by omega) (fun k _ hk => by omega), _, by rw [turnL_snoc, h1]; exact ht1, ⟨_, _, HI5.out.box, HI5.out.two⟩, HI5.out.keeps⟩
       ·
        have hq7 : decide (mn x1 a2 ≤ 1099511627776) = false := decide_eq_false q7
        rw [if_neg (fun h => q7 h.2)] at ht1
        clear q6 q7
        gi_wp2
        exact ⟨hkR.out.mono (fun k _ hk => by omega), _, by rw [turnL_snoc, h1]; exact ht1, ⟨_, _, HI.out.box, HI.out.two⟩, HI.out.keeps⟩
      ·
       have hq6 : decide (mn x1 a2 < x1) = false := decide_eq_false q6
       rw [if_neg (fun h => q6 h.1)] at ht1
       clear q6
       gi_wp2
       exact ⟨hkR.out.mono (fun k _ hk => by omega), _, by rw [turnL_snoc, h1]; exact ht1, ⟨_, _, HI.out.box, HI.out.two⟩, HI.out.keeps⟩
 case done =>
  rintro xs W hsz2 rfl ⟨out, h1, ⟨vA, vN, h2, h3⟩, h4⟩ hWd
  have hol := turnL_length _ _ _ _ _ h1
  obtain ⟨A', c', rfl⟩ := own_slice h3.a
  obtain ⟨B', d', rfl⟩ := own_slice h3.n
  have hcA := own_le h3.a
  have hcN := own_le h3.n
  have hb4 := h4.boxN hr4.out (by omega)
  have hb5 := h4.boxed hr5.out (by omega)
  have hi0 := h2.cell 0 rfl
  have hi1 := h2.cell 1 rfl
  have hi2 := h2.frozen 0
  have hi3 := h2.frozen 1
  have hc40 := hb4.cell 0 rfl
  have hc41 := hb4.cell 1 rfl
  have hf40 := hb4.frozen 0
  have hf41 := hb4.frozen 1
  have hc5 := hb5.cell
  have hf5 := hb5.frozen
  have hBW : Below H w W := (by rw [← hH]; exact hBr.trans (h4.below (by rw [hH]; omega) (fun k hk => by omega)))
  replace hb4 := Aside0.mk hb4
  replace hb5 := Aside0.mk hb5
  replace h2 := Aside0.mk h2
  replace h3 := Aside0.mk h3
  replace h4 := Aside0.mk h4
  by_cases q : 2000 < out.length
  ·
   have hq1 : decide ((2000 : Int) < (out.length : Int)) = true := decide_eq_true (by omega)
   have hq2 : decide ((out.length : Int) > 2000) = true := decide_eq_true (by omega)
   have hq3 : decide (2000 < out.length) = true := decide_eq_true q
   replace q := Aside0.mk q
   gi_wp2
   have KA : Keeps (fun k => k ≠ H + 4 ∧ k ≠ H + 5) W (((W.setCell ⟨H + 4, 0, none⟩ (.slice none 0 0)).setCell ⟨H + 4, 1, none⟩ (.slice none 0 0)).setCell ⟨H + 5, 0, none⟩ (.int .i64 6)) :=
    (((Keeps.refl _ W).setCell _ (fun h => h.2.1 rfl)).setCell _ (fun h => h.2.1 rfl)).setCell _ (fun h => h.2.2 rfl)
   have hB5 : Boxed (((W.setCell ⟨H + 4, 0, none⟩ (.slice none 0 0)).setCell ⟨H + 4, 1, none⟩ (.slice none 0 0)).setCell ⟨H + 5, 0, none⟩ (.int .i64 6)) (H + 5) 35 (.int .i64 6) := by
    refine Boxed.set (v := .int .i64 0) _ ?_
    exact (((Keeps.refl (fun k => k ≠ H + 4) W).setCell _ (fun h => h.2 rfl)).setCell _ (fun h => h.2 rfl)).boxed hb5.out (by omega)
   refine turn_tail (H := H) rfl rfl (((hb4.out.set 0 (.slice none 0 0)).set 1 (.slice none 0 0)).other (by simp) _) hB5 ((KA.block _ (by omega) (by omega)).trans hWd) (by omega) (by omega) ?_
   refine ⟨?_, .inr ⟨out, h1, .inl ⟨q.out, rfl⟩⟩⟩
   rw [hH]
   exact hBW.trans ((KA.below (by have := hBW.size; omega) (fun k hk => by omega)).trans (((Keeps.refl (fun k => k < H) _).putObj _ (fun h => by have := h.2; omega)).below (by have := KA.size; have := hBW.size; omega) (fun k hk => hk)))
  ·
   have hq1 : decide ((2000 : Int) < (out.length : Int)) = false := decide_eq_false (by omega)
   have hq2 : decide ((out.length : Int) > 2000) = false := decide_eq_false (by omega)
   have hq3 : decide (2000 < out.length) = false := decide_eq_false q
   have hlI : (out.length : Int) ≤ (c' : Int) := Int.ofNat_le.2 hcA
   have hlN : (out.length : Int) ≤ (d' : Int) := Int.ofNat_le.2 hcN
   have hl0 : (0 : Int) ≤ (out.length : Int) := Int.natCast_nonneg _
   replace q := Aside0.mk q
   gi_wp2
   refine wpIn_no_panic (wpIn_wide.2 ?_)
   refine start_ (n := 13) (S := fun w' => w'.cell? ⟨H + 6, 0, none⟩ = some (.slice A' out.length c') ∧ w'.cell? ⟨H + 6, 1, none⟩ = some (.slice B' out.length d')) (ds := [11, 12]) qf7b11 hmo rfl rfl ⟨hi0, hi1⟩ (fun hHeld => ?_)
   refine pure_ (i := 0) (N := some 82) (v := ?_) (a' := ?_) qf7b12 rfl rfl (by kernel_rfl) (fun c_ _ _ h_ => absurd rfl (h_.1 c_)) (Or.inl ⟨by rfl, ?_⟩) ?_ ?_
   rotate_left
   ·
    intro w'
    go_simp
    with_reducible rfl
   rotate_left
   ·
    simp only [Act.put, List.setIfInBounds_toArray, List.set_cons_zero, List.set_cons_succ, i64_w, i32_w]
    rfl
   refine pure_ (i := 2) (N := some 84) (v := ?_) (a' := ?_) qf7b13 rfl rfl (by kernel_rfl) (fun c_ _ _ h_ => absurd rfl (h_.1 c_)) (Or.inl ⟨by rfl, ?_⟩) ?_ ?_
   rotate_left
   ·
    intro w'
    go_simp
    with_reducible rfl
   rotate_left
   ·
    simp only [Act.put, List.setIfInBounds_toArray, List.set_cons_zero, List.set_cons_succ, i64_w, i32_w]
    rfl
   refine pure_ (i := 3) (N := some 85) (v := ?_) (a' := ?_) qf7b14 rfl rfl (by kernel_rfl) (fun c_ _ _ h_ => absurd rfl (h_.1 c_)) (Or.inl ⟨by rfl, ?_⟩) ?_ ?_
   rotate_left
   ·
    intro w'
    go_simp
    with_reducible rfl
   rotate_left
   ·
    simp only [Act.put, List.setIfInBounds_toArray, List.set_cons_zero, List.set_cons_succ, i64_w, i32_w]
    rfl
   refine pure_ (i := 5) (N := some 87) (v := ?_) (a' := ?_) qf7b15 rfl rfl (by kernel_rfl) (fun c_ _ _ h_ => absurd rfl (h_.1 c_)) (Or.inl ⟨by rfl, ?_⟩) ?_ ?_
   rotate_left
   ·
    intro w'
    go_simp
    with_reducible rfl
   rotate_left
   ·
    simp only [Act.put, List.setIfInBounds_toArray, List.set_cons_zero, List.set_cons_succ, i64_w, i32_w]
    rfl
   refine pure_ (i := 7) (N := some 89) (v := ?_) (a' := ?_) qf7b16 rfl rfl (by kernel_rfl) (fun c_ _ _ h_ => absurd rfl (h_.1 c_)) (Or.inl ⟨by rfl, ?_⟩) ?_ ?_
   rotate_left
   ·
    intro w'
    go_simp
    with_reducible rfl
   rotate_left
   ·
    simp only [Act.put, List.setIfInBounds_toArray, List.set_cons_zero, List.set_cons_succ, i64_w, i32_w]
    rfl
   refine pure_ (i := 8) (N := some 90) (v := ?_) (a' := ?_) qf7b17 rfl rfl (by kernel_rfl) (fun c_ _ _ h_ => absurd rfl (h_.1 c_)) (Or.inl ⟨by rfl, ?_⟩) ?_ ?_
   rotate_left
   ·
    intro w'
    go_simp
    with_reducible rfl
   rotate_left
   ·
    simp only [Act.put, List.setIfInBounds_toArray, List.set_cons_zero, List.set_cons_succ, i64_w, i32_w]
    rfl
   refine take_ (i := 1) (N := some 83) (v := ?_) (a' := ?_) qf7b18 rfl rfl (by kernel_rfl) (fun c_ _ _ h_ => absurd rfl (h_.1 c_)) (Or.inl ⟨by rfl, ?_⟩) hHeld ?_ ?_
   rotate_left
   ·
    rintro w' ⟨s0_, s1_⟩
    go_simp
    with_reducible rfl
   rotate_left
   ·
    simp only [Act.put, List.setIfInBounds_toArray, List.set_cons_zero, List.set_cons_succ, i64_w, i32_w]
    rfl
   refine take_ (i := 6) (N := some 88) (v := ?_) (a' := ?_) qf7b19 rfl rfl (by kernel_rfl) (fun c_ _ _ h_ => absurd rfl (h_.1 c_)) (Or.inl ⟨by rfl, ?_⟩) hHeld ?_ ?_
   rotate_left
   ·
    rintro w' ⟨s0_, s1_⟩
    go_simp
    with_reducible rfl
   rotate_left
   ·
    simp only [Act.put, List.setIfInBounds_toArray, List.set_cons_zero, List.set_cons_succ, i64_w, i32_w]
    rfl
   refine pure_ (i := 4) (N := some 86) (v := ?_) (a' := ?_) qf7b20 rfl rfl (by kernel_rfl) (fun c_ _ _ h_ => absurd rfl (h_.1 c_)) (Or.inl ⟨by rfl, ?_⟩) ?_ ?_
   rotate_left
   ·
    intro w'
    go_simp
    with_reducible rfl
   rotate_left
   ·
    simp only [Act.put, List.setIfInBounds_toArray, List.set_cons_zero, List.set_cons_succ, i64_w, i32_w]
    rfl
   refine pure_ (i := 9) (N := some 91) (v := ?_) (a' := ?_) qf7b21 rfl rfl (by kernel_rfl) (fun c_ _ _ h_ => absurd rfl (h_.1 c_)) (Or.inl ⟨by rfl, ?_⟩) ?_ ?_
   rotate_left
   ·
    intro w'
    go_simp
    with_reducible rfl
   rotate_left
   ·
    simp only [Act.put, List.setIfInBounds_toArray, List.set_cons_zero, List.set_cons_succ, i64_w, i32_w]
    rfl
   refine pure_ (i := 10) (N := some 92) (v := ?_) (a' := ?_) qf7b22 rfl rfl (by kernel_rfl) (fun c_ _ _ h_ => absurd rfl (h_.1 c_)) (Or.inl ⟨by rfl, ?_⟩) ?_ ?_
   rotate_left
   ·
    intro w'
    go_simp
    with_reducible rfl
   rotate_left
   ·
    simp only [Act.put, List.setIfInBounds_toArray, List.set_cons_zero, List.set_cons_succ, i64_w, i32_w]
    rfl
   refine last_ (i := 11) (N := none) qf7b23 rfl rfl (by kernel_rfl) (by decide) (fun K hK => ?_)
   have hcd0 : W.drew.cell? ⟨H + 4, 0, none⟩ = some (.slice none 0 0) := hc40
   have hcd1 : W.drew.cell? ⟨H + 4, 1, none⟩ = some (.slice none 0 0) := hc41
   have hfd0 : W.drew.frozen? ⟨H + 4, 0, none⟩ = false := hf40
   have hfd1 : W.drew.frozen? ⟨H + 4, 1, none⟩ = false := hf41
   have hcd5 : W.drew.cell? ⟨H + 5, 0, none⟩ = some (.int .i64 0) := hc5
   have hfd5 : W.drew.frozen? ⟨H + 5, 0, none⟩ = false := hf5
   refine skip_ (w1 := ?_) (by rfl) rfl ?_ ?_
   rotate_left
   ·
    go_simp
    rfl
   refine hK.out _ _ ?_
   clear hK K
   refine last_ (i := 12) (N := none) qf7b24 rfl rfl (by kernel_rfl) (by decide) (fun K hK => ?_)
   refine skip_ (w1 := ?_) (by rfl) rfl ?_ ?_
   rotate_left
   ·
    go_simp
    rfl
   refine hK.out _ _ ?_
   clear hK K
   refine done_ (by kernel_rfl) ⟨fun _ h_ => (by cases h_), ?_⟩
   gi_wp2
   have KA : Keeps (fun k => k ≠ H + 4 ∧ k ≠ H + 5) W (((W.setCell ⟨H + 4, 0, none⟩ (.slice A' out.length out.length)).setCell ⟨H + 4, 1, none⟩ (.slice B' out.length out.length)).setCell ⟨H + 5, 0, none⟩ (.int .i64 0)).drew :=
    ((((Keeps.refl _ W).setCell _ (fun h => h.2.1 rfl)).setCell _ (fun h => h.2.1 rfl)).setCell _ (fun h => h.2.2 rfl)).drew
   have hB5 : Boxed (((W.setCell ⟨H + 4, 0, none⟩ (.slice A' out.length out.length)).setCell ⟨H + 4, 1, none⟩ (.slice B' out.length out.length)).setCell ⟨H + 5, 0, none⟩ (.int .i64 0)).drew (H + 5) 35 (.int .i64 0) := by
    refine Boxed.set (v := .int .i64 0) _ ?_
    exact (((Keeps.refl (fun k => k ≠ H + 4) W).setCell _ (fun h => h.2 rfl)).setCell _ (fun h => h.2 rfl)).boxed hb5.out (by omega)
   refine turn_tail (H := H) rfl rfl (((hb4.out.set 0 (.slice A' out.length out.length)).set 1 (.slice B' out.length out.length)).other (by simp) _) hB5 ((KA.block _ (by omega) (by omega)).trans hWd) (by omega) (by omega) ?_
   refine ⟨?_, .inr ⟨out, h1, .inr ⟨by have := q.out; omega, A', c', B', d', hcA, hcN, rfl, ?_⟩⟩⟩
   ·
    rw [hH]
    exact hBW.trans ((KA.below (by have := hBW.size; omega) (fun k hk => by omega)).trans (((Keeps.refl (fun k => k < H) _).putObj _ (fun h => by have := h.2; omega)).below (by have := KA.size; have := hBW.size; omega) (fun k hk => hk)))
   ·
    have h9 := (h3.out.keeps KA (fun k hk => by omega)).keeps ((Keeps.refl (fun k => k ≠ Wr.heap.size) _).putObj (l := Wr.heap.size) (.deferred none) (fun h => h.2 rfl)) (fun k hk => by omega)
    exact ⟨own_less h9.a (by omega), own_less h9.n (by omega), h9.ne⟩
 case stop =>
  rintro cd pre W hsz2 hpre ⟨rfl, h1, h2, h3, h4⟩ hWd
  gi_wp2
  obtain ⟨t, ht⟩ := hpre
  have hnone : turnL a1 a2 doF (spansT a n) = none := by
   rw [← ht]
   unfold turnL at h1 ⊢
   rw [List.foldlM_append, h1]
   rfl
  refine turn_tail (H := H) rfl rfl h2 h3 hWd (by omega) (by omega) ?_
  refine ⟨?_, .inl ⟨hnone, rfl⟩⟩
  exact hBr.trans ((h4.below (by omega) (fun k hk => by omega)).trans (((Keeps.refl (fun k => k < H) _).putObj _ (fun h => by have := h.2; omega)).below (by have := h4.size; omega) (fun k hk => by omega)))

/-! ### steps_Take: function 28 -/
/-- What Take and Give tell of a turned profile. -/
def resT : Option (List (Int × Int)) → List Int × List Int × Int
 | none => ([], [], 6)
 | some out => if 2000 < out.length then ([], [], 6) else (out.map (·.1), out.map (·.2), 0)
/-- A profile handed back, in rows of the call's own. -/
def StepsPost (w : World) (r1 r2 : List Int) (r3 : Int) (e : Ending) (w' : World) : Prop :=
 Below w.heap.size w w' ∧ ∃ (out : List (Int × Int)) (A' : Option Addr) (c' : Nat) (B' : Option Addr) (d' : Nat), e = .returned (.tuple #[.agg #[.slice A' out.length out.length, .slice B' out.length out.length], .int .i64 r3]) ∧ r1 = out.map (·.1) ∧ r2 = out.map (·.2) ∧ out.length ≤ c' ∧ out.length ≤ d' ∧ Two w' w.heap.size (.slice A' out.length c') (.slice B' out.length d') out
theorem StepsPost.view {w : World} {r1 r2 : List Int} {r3 : Int} {e : Ending} {w' : World} (h : StepsPost w r1 r2 r3 e w') : ∃ v0_ v1_ : Value, e = .returned (.tuple #[.agg #[v0_, v1_], .int .i64 r3]) ∧ Kd.V (Kd.int .i64) 2 w' w.heap.size (fun k_ => w.heap.size ≤ k_) v0_ r1 ∧ Kd.V (Kd.int .i64) 2 w' w.heap.size (fun k_ => w.heap.size ≤ k_) v1_ r2 ∧ Below w.heap.size w w' := by
 obtain ⟨hb, out, A', c', B', d', rfl, rfl, rfl, h1, h2, h3⟩ := h
 refine ⟨_, _, rfl, ⟨A', out.length, by simp, by simp, ?_⟩, ⟨B', out.length, by simp, by simp, ?_⟩, hb⟩
 ·
  rw [List.length_map]
  exact F_of_own (enc := Value.int .i64) (h1 := fun _ => rfl) (xs := out.map (·.1)) h3.a
 ·
  rw [List.length_map]
  exact F_of_own (enc := Value.int .i64) (h1 := fun _ => rfl) (xs := out.map (·.2)) h3.n
theorem two_nil (w : World) (base c d : Nat) : Two w base (.slice none 0 0) (.slice none 0 0) [] := ⟨World.ownsRow_nil _ _ _ _, World.ownsRow_nil _ _ _ _, fun k hk => by simp [Value.ownBlock] at hk⟩
theorem turn_res {a1 a2 : Int} {doF : Int → Int × Bool} {l : List (Int × Int × Int)} {base : Nat} {w' : World} {e : Ending} {r1 r2 : List Int} {r3 : Int}
  (h : (turnL a1 a2 doF l = none ∧ e = .returned (.tuple #[.agg #[.slice none 0 0, .slice none 0 0], .int .i64 6])) ∨
    ∃ out, turnL a1 a2 doF l = some out ∧ ((2000 < out.length ∧ e = .returned (.tuple #[.agg #[.slice none 0 0, .slice none 0 0], .int .i64 6])) ∨
     (out.length ≤ 2000 ∧ ∃ A' c' B' d', out.length ≤ c' ∧ out.length ≤ d' ∧ e = .returned (.tuple #[.agg #[.slice A' out.length out.length, .slice B' out.length out.length], .int .i64 0]) ∧ Two w' base (.slice A' out.length c') (.slice B' out.length d') out)))
  (hr : resT (turnL a1 a2 doF l) = (r1, r2, r3)) :
  ∃ (out : List (Int × Int)) (A' : Option Addr) (c' : Nat) (B' : Option Addr) (d' : Nat), e = .returned (.tuple #[.agg #[.slice A' out.length out.length, .slice B' out.length out.length], .int .i64 r3]) ∧ r1 = out.map (·.1) ∧ r2 = out.map (·.2) ∧ (out.length ≤ c' ∧ out.length ≤ d') ∧ Two w' base (.slice A' out.length c') (.slice B' out.length d') out := by
 rcases h with ⟨h1, rfl⟩ | ⟨out, h1, ⟨h2, rfl⟩ | ⟨h2, A', c', B', d', h3, h4, rfl, h5⟩⟩
 ·
  rw [h1] at hr
  injection hr with e1 e2
  injection e2 with e2 e3
  subst e1; subst e2; subst e3
  exact ⟨[], none, 0, none, 0, rfl, rfl, rfl, ⟨Nat.le_refl _, Nat.le_refl _⟩, two_nil _ _ 0 0⟩
 ·
  rw [h1] at hr
  simp only [resT] at hr
  rw [if_pos h2] at hr
  injection hr with e1 e2
  injection e2 with e2 e3
  subst e1; subst e2; subst e3
  exact ⟨[], none, 0, none, 0, rfl, rfl, rfl, ⟨Nat.le_refl _, Nat.le_refl _⟩, two_nil _ _ 0 0⟩
 ·
  rw [h1] at hr
  simp only [resT] at hr
  rw [if_neg (by omega)] at hr
  injection hr with e1 e2
  injection e2 with e2 e3
  subst e1; subst e2; subst e3
  exact ⟨out, A', c', B', d', rfl, rfl, rfl, ⟨h3, h4⟩, h5⟩
theorem take_tail {H : Nat} {w w2 w3 : World} {tmps : Array Value} {out : List (Int × Int)} {A' B' : Option Addr} {c' d' : Nat} {r1 r2 : List Int} {r3 : Int} (fn : Func) (hfn : fn.results = #[.cell 8 24, .tmp 9]) (ht8 : tmps[8]? = some (.pointer (some ⟨H + 2, 0, none⟩))) (ht9 : tmps[9]? = some (.int .i64 r3)) (hH : w.heap.size = H)
  (b : BoxN w3 (H + 2) 24 [.slice none 0 0, .slice none 0 0]) (h1 : r1 = out.map (·.1)) (hs : H + 3 ≤ w2.heap.size) (hb2 : Below w.heap.size w w2) (hb3 : Below w2.heap.size w2 w3) (h2 : r2 = out.map (·.2)) (h3 : out.length ≤ c' ∧ out.length ≤ d') (h4 : Two w3 w2.heap.size (.slice A' out.length c') (.slice B' out.length d') out) :
  bodyPost Try.prog fn (StepsPost w r1 r2 r3) Exit.ret { tmps := tmps, defers := [] } ((w3.setCell ⟨H + 2, 0, none⟩ (.slice A' out.length out.length)).setCell ⟨H + 2, 1, none⟩ (.slice B' out.length out.length)) := by
 have hu24 := Try.underlying24
 have b4 := (b.set 0 (.slice A' out.length out.length)).set 1 (.slice B' out.length out.length)
 have c0 := b4.cell 0 rfl
 have c1 := b4.cell 1 rfl
 have hk : Keeps (fun k => k ≠ H + 2) w3 ((w3.setCell ⟨H + 2, 0, none⟩ (.slice A' out.length out.length)).setCell ⟨H + 2, 1, none⟩ (.slice B' out.length out.length)) := ((Keeps.refl (fun k => k ≠ H + 2) w3).setCell _ (fun h => h.2 rfl)).setCell _ (fun h => h.2 rfl)
 generalize ((w3.setCell ⟨H + 2, 0, none⟩ (.slice A' out.length out.length)).setCell ⟨H + 2, 1, none⟩ (.slice B' out.length out.length)) = W4 at *
 refine bodyPost_ret (v := .tuple #[.agg #[.slice A' out.length out.length, .slice B' out.length out.length], .int .i64 r3]) ?_ rfl ?_
 ·
  simp [results, hfn, asAddr, loadVar, go_sem, ht8, ht9, c0, c1, hu24]
 ·
  have h5 := h4.keeps hk (fun k hk => by omega)
  have hsz := hb3.size
  exact ⟨(below_then hb2 hb2.size hb3).trans (hk.below (by omega) (fun k hk => by omega)), out, A', c', B', d', rfl, h1, h2, h3.1, h3.2, own_less h5.a (by omega), own_less h5.n (by omega), h5.ne⟩
theorem take_tail0 {H : Nat} {w w2 : World} {tmps : Array Value} (fn : Func) (hfn : fn.results = #[.cell 8 24, .tmp 9]) (ht8 : tmps[8]? = some (.pointer (some ⟨H + 2, 0, none⟩))) (ht9 : tmps[9]? = some (.int .i64 2)) (hH : w.heap.size = H)
  (b : BoxN w2 (H + 2) 24 [.slice none 0 0, .slice none 0 0]) (hs : H + 3 ≤ w2.heap.size) (hb2 : Below w.heap.size w w2) :
  bodyPost Try.prog fn (StepsPost w [] [] 2) Exit.ret { tmps := tmps, defers := [] } ((w2.setCell ⟨H + 2, 0, none⟩ (.slice none 0 0)).setCell ⟨H + 2, 1, none⟩ (.slice none 0 0)) :=
 take_tail (out := []) (A' := none) (B' := none) (c' := 0) (d' := 0) fn hfn ht8 ht9 hH b rfl hs hb2 (Below.refl _ _) rfl ⟨Nat.le_refl _, Nat.le_refl _⟩ (two_nil _ _ 0 0)
/-- What Take does with a step's number. -/
def takeF (m x : Int) : Int × Bool := (wrap64 (x - m), decide (m ≤ x))
def steps_Take.f (k : Nat) (a n : List Int) (lo hi m : Int) : Option (List Int × List Int × Int) :=
 (steps_Check.f k a n).bind fun e => if e = 0 ∧ (badQ lo || badQ hi || badQ m) = false then (if n.length = a.length ∧ a.length ≤ 60000 then some (resT (turnL lo hi (takeF m) (spansT a n))) else none) else some ([], [], 2)
theorem steps_Take.mono : ∀ a n lo hi m k, LeO (steps_Take.f k a n lo hi m) (steps_Take.f (k + 1) a n lo hi m) := by
 intro a n lo hi m k
 unfold steps_Take.f
 exact LeO.bind (steps_Check.mono _ _ _) (fun _ => LeO.refl _)
theorem steps_Take_do (dx : Nat) (m : Int) (x : Int) (W : World) (hb : Boxed W dx 2 (.int .i64 m)) :
  Calls Try.prog 43 #[.int .i64 x, .pointer (some ⟨dx, 0, none⟩)] W fun e w' => e = .returned (.tuple #[.int .i64 (takeF m x).1, .bool (takeF m x).2]) ∧ Drawn0 W w' := by
 have hc := hb.cell
 have hf := hb.frozen
 go_enter Try.func43, Try.ntmps43
 go_wp2
 go_quiet (fail)
 go_wp2
 refine bodyPost_ret (v := .tuple #[.int .i64 (takeF m x).1, .bool (takeF m x).2]) ?_ rfl ⟨rfl, _, rfl⟩
 simp [results, Try.f43, takeF, go_sem, i64_w]
set_option maxHeartbeats 16000000 in
set_option maxRecDepth 100000 in
theorem steps_Take_own (k : Nat) (A0_0 : Option Addr) (c0_0 : Nat) (l0_0 : List Int) (A0_1 : Option Addr) (c0_1 : Nat) (l0_1 : List Int) (a1 a2 a3 : Int) (r1 r2 : List Int) (r3 : Int) (w : World) (hr0_0 : Kd.C (Kd.int .i64) w A0_0 l0_0.length l0_0) (hc0_0 : l0_0.length ≤ c0_0) (hr0_1 : Kd.C (Kd.int .i64) w A0_1 l0_1.length l0_1) (hc0_1 : l0_1.length ≤ c0_1) (h : steps_Take.f k l0_0 l0_1 a1 a2 a3 = some (r1, r2, r3)) :
  Calls Try.prog 28 #[.agg #[.slice A0_0 l0_0.length c0_0, .slice A0_1 l0_1.length c0_1], .int .i64 a1, .int .i64 a2, .int .i64 a3] w fun e w' => StepsPost w r1 r2 r3 e w' := by
 unfold steps_Take.f at h
 obtain ⟨e, he, h⟩ := Option.bind_eq_some_iff.1 h
 have hu24 := Try.underlying24
 have hmf : ∀ (fn : Fn) (first cap : Array Value) (w : World), (Instr.makeFunc fn first cap).run Try.prog w = .ok (.func fn first cap) w := fun _ _ _ _ => rfl
 have HE := Aside0.mk he
 clear he
 have HR0 := Aside0.mk hr0_0
 have HR1 := Aside0.mk hr0_1
 clear hr0_0 hr0_1
 obtain ⟨H, hH⟩ : ∃ H, w.heap.size = H := ⟨_, rfl⟩
 replace h := Aside0.mk h
 go_enter Try.func28, Try.ntmps28
 go_upto_region 1 with fail
 obtain ⟨W0, hW0⟩ : ∃ W0, (((w.alloc (Obj.cells #[Value.slice A0_0 l0_0.length c0_0, Value.slice A0_1 l0_1.length c0_1] 24)).alloc (Obj.cells #[Value.int IntKind.i64 a3] 2)).alloc (Obj.cells #[Value.slice none 0 0, Value.slice none 0 0] 24)) = W0 := ⟨_, rfl⟩
 rw [hW0]
 have hWl : ([Obj.cells #[Value.slice A0_0 l0_0.length c0_0, Value.slice A0_1 l0_1.length c0_1] 24, Obj.cells #[Value.int IntKind.i64 a3] 2, Obj.cells #[Value.slice none 0 0, Value.slice none 0 0] 24] : List Obj).foldl World.alloc w = W0 := hW0
 clear hW0
 have hat := (heap_allocs [Obj.cells #[Value.slice A0_0 l0_0.length c0_0, Value.slice A0_1 l0_1.length c0_1] 24, Obj.cells #[Value.int IntKind.i64 a3] 2, Obj.cells #[Value.slice none 0 0, Value.slice none 0 0] 24] w).2
 have hsz := (heap_allocs [Obj.cells #[Value.slice A0_0 l0_0.length c0_0, Value.slice A0_1 l0_1.length c0_1] 24, Obj.cells #[Value.int IntKind.i64 a3] 2, Obj.cells #[Value.slice none 0 0, Value.slice none 0 0] 24] w).1
 have hkp : Keeps (fun k => k < H) w (([Obj.cells #[Value.slice A0_0 l0_0.length c0_0, Value.slice A0_1 l0_1.length c0_1] 24, Obj.cells #[Value.int IntKind.i64 a3] 2, Obj.cells #[Value.slice none 0 0, Value.slice none 0 0] 24] : List Obj).foldl World.alloc w) := keeps_allocs _ _ _
 rw [hWl] at hat hsz hkp
 simp only [hH] at hat hsz
 have BX : BoxN W0 H 24 [.slice A0_0 l0_0.length c0_0, .slice A0_1 l0_1.length c0_1] := hat 0 _ rfl
 have BT : Boxed W0 (H + 1) 2 (.int .i64 a3) := hat 1 _ rfl
 have BR : BoxN W0 (H + 2) 24 [.slice none 0 0, .slice none 0 0] := hat 2 _ rfl
 replace hsz : W0.heap.size = H + 3 := hsz
 have HB := Aside0.mk (show Below w.heap.size w W0 from hkp.below (Nat.le_refl _) (fun k hk => by omega))
 clear hat hWl hkp
 simp only [Nat.add_assoc, Nat.reduceAdd]
 have hx0 := BX.cell 0 rfl
 have hx1 := BX.cell 1 rfl
 have hxf0 := BX.frozen 0
 have hxf1 := BX.frozen 1
 have ht0 := BT.cell
 have htf := BT.frozen
 replace BX := Aside0.mk BX
 replace BT := Aside0.mk BT
 replace BR := Aside0.mk BR
 replace hsz := Aside0.mk hsz
 by_cases h0 : e = 0
 ·
  subst h0
  by_cases hq : (badQ a1 || badQ a2 || badQ a3) = false
  ·
   have h := h.out
   rw [if_pos ⟨rfl, hq⟩] at h
   by_cases hl : l0_1.length = l0_0.length ∧ l0_0.length ≤ 60000
   case neg => rw [if_neg hl] at h; cases h
   rw [if_pos hl] at h
   have HRES := Aside0.mk (Option.some.inj h)
   obtain ⟨hl1, hl2⟩ := hl
   replace hl1 := Aside0.mk hl1
   clear h
   clear h
   have HQ := Aside0.mk (show steps_quantity.f [a1, a2, a3] = some true by unfold steps_quantity.f; simpa [or_assoc, and_assoc] using hq)
   clear hq
   go_wp2_with (first | (go_at_call 20; refine (steps_Check.calls k _ _ _ _ _ _ _ _ (Kd.C_below HR0.out HB.out) hc0_0 (Kd.C_below HR1.out HB.out) hc0_1 HE.out).mono ?_; rintro e w1 ⟨rfl, hb1⟩; have BX1 := Aside0.mk (BX.out.below hb1 BX.out.lt); have BT1 := Aside0.mk (Boxed.below' BT.out hb1 BT.out.lt); have BR1 := Aside0.mk (BR.out.below hb1 BR.out.lt); have ht1 := BT1.out.cell; have htf1 := BT1.out.frozen; replace hb1 := Aside0.mk hb1) | (go_at_call 23; refine (steps_quantity.calls _ _ [a1, a2, a3] true _ (C_lits _ [a1, a2, a3] (show (3 : Nat) ≤ maxLen by decide)) (Nat.le_refl _) HQ.out).mono ?_; rintro e w2 ⟨rfl, hd2⟩; have hb2 : Below w1.heap.size w1 w2 := (by obtain ⟨nd2, hd3⟩ := hd2; subst hd3; exact pw_below_drewN ((Below.refl _ w1).alloc (Nat.le_refl _) _) _); have BX2 := BX1.out.below hb2 BX1.out.lt; have BT2 := Aside0.mk (Boxed.below' BT1.out hb2 BT1.out.lt); have BR2 := Aside0.mk (BR1.out.below hb2 BR1.out.lt); have hx20 := BX2.cell 0 rfl; have hx21 := BX2.cell 1 rfl; have hxf20 := BX2.frozen 0; have hxf21 := BX2.frozen 1; have hst := HB.out.size; have HB2 := Aside0.mk (below_then (below_then HB.out HB.out.size hb1.out) (Nat.le_trans HB.out.size hb1.out.size) hb2); have HS2 := Aside0.mk (Nat.le_trans hb1.out.size hb2.size); clear hd2 hb2 hst) | (go_at_call 24; refine (steps_turn_calls 43 (H + 1) a3 (takeF a3) (enters_of Try.func43 (by kernel_rfl) rfl) (fun x W hb => steps_Take_do (H + 1) a3 x W hb) _ _ _ _ _ _ _ _ _ (Kd.C_below HR0.out HB2.out) (Kd.C_below HR1.out HB2.out) BT2.out hl1.out hl2).mono ?_; rintro e w3 ⟨hb3, hres⟩; obtain ⟨out, A', c', B', d', rfl, h5, h6, h7, h8⟩ := turn_res hres HRES.out; have BR3 := BR2.out.below hb3 BR2.out.lt; have hr30 := BR3.cell 0 rfl; have hr31 := BR3.cell 1 rfl; have hrf30 := BR3.frozen 0; have hrf31 := BR3.frozen 1; replace BR3 := Aside0.mk BR3; replace hb3 := Aside0.mk hb3; replace h5 := Aside0.mk h5; replace h6 := Aside0.mk h6; replace h7 := Aside0.mk h7; replace h8 := Aside0.mk h8; clear hres))
   exact take_tail (hH := hH) Try.f28 rfl rfl rfl BR3.out h5.out (by have := HS2.out; have := hsz.out; omega) HB2.out hb3.out h6.out h7.out h8.out
  ·
   have hq1 : (badQ a1 || badQ a2 || badQ a3) = true := by
    cases hb : (badQ a1 || badQ a2 || badQ a3) with
    | true => rfl
    | false => exact absurd hb hq
   have h := h.out
   rw [if_neg (fun hh => hq hh.2)] at h
   have hres := Option.some.inj h
   clear h
   clear h
   clear hq
   injection hres with e1 e2
   injection e2 with e2 e3
   subst e1
   subst e2
   subst e3
   have HQ := Aside0.mk (show steps_quantity.f [a1, a2, a3] = some false by unfold steps_quantity.f; rw [show ([a1, a2, a3].any badQ) = (badQ a1 || badQ a2 || badQ a3) by simp [Bool.or_assoc], hq1]; rfl)
   clear hq1
   go_wp2_with (first | (go_at_call 20; refine (steps_Check.calls k _ _ _ _ _ _ _ _ (Kd.C_below HR0.out HB.out) hc0_0 (Kd.C_below HR1.out HB.out) hc0_1 HE.out).mono ?_; rintro e w1 ⟨rfl, hb1⟩; have BT1 := Aside0.mk (Boxed.below' BT.out hb1 BT.out.lt); have BR1 := Aside0.mk (BR.out.below hb1 BR.out.lt); have ht1 := BT1.out.cell; have htf1 := BT1.out.frozen; replace hb1 := Aside0.mk hb1) | (go_at_call 23; refine (steps_quantity.calls _ _ [a1, a2, a3] false _ (C_lits _ [a1, a2, a3] (show (3 : Nat) ≤ maxLen by decide)) (Nat.le_refl _) HQ.out).mono ?_; rintro e w2 ⟨rfl, hd2⟩; have hb2 : Below w1.heap.size w1 w2 := (by obtain ⟨nd2, hd3⟩ := hd2; subst hd3; exact pw_below_drewN ((Below.refl _ w1).alloc (Nat.le_refl _) _) _); have BR2 := BR1.out.below hb2 BR1.out.lt; have hr20 := BR2.cell 0 rfl; have hr21 := BR2.cell 1 rfl; have hrf20 := BR2.frozen 0; have hrf21 := BR2.frozen 1; have hst := HB.out.size; have HB2 := Aside0.mk (below_then (below_then HB.out HB.out.size hb1.out) (Nat.le_trans HB.out.size hb1.out.size) hb2); have HS2 := Aside0.mk (Nat.le_trans hb1.out.size hb2.size); replace BR2 := Aside0.mk BR2; clear hd2 hb2 hst))
   exact take_tail0 (hH := hH) Try.f28 rfl rfl rfl BR2.out (by have := HS2.out; have := hsz.out; omega) HB2.out
 ·
  have h := h.out
  rw [if_neg (fun hh => h0 hh.1)] at h
  have hres := Option.some.inj h
  clear h
  clear h
  injection hres with e1 e2
  injection e2 with e2 e3
  subst e1
  subst e2
  subst e3
  have he1 : (e == 0) = false := beq_eq_false_iff_ne.mpr h0
  have he2 : (e != 0) = true := bne_iff_ne.mpr h0
  clear h0
  go_wp2_with (first | (go_at_call 20; refine (steps_Check.calls k _ _ _ _ _ _ _ _ (Kd.C_below HR0.out HB.out) hc0_0 (Kd.C_below HR1.out HB.out) hc0_1 HE.out).mono ?_; rintro e w1 ⟨rfl, hb1⟩; have BR1 := BR.out.below hb1 BR.out.lt; have hr20 := BR1.cell 0 rfl; have hr21 := BR1.cell 1 rfl; have hrf20 := BR1.frozen 0; have hrf21 := BR1.frozen 1; have HB2 := Aside0.mk (below_then HB.out HB.out.size hb1); have HS2 := Aside0.mk hb1.size; replace BR1 := Aside0.mk BR1; clear hb1))
  exact take_tail0 (hH := hH) Try.f28 rfl rfl rfl BR1.out (by have := HS2.out; have := hsz.out; omega) HB2.out
theorem steps_Take.calls (k : Nat) (A0_0 : Option Addr) (c0_0 : Nat) (l0_0 : List Int) (A0_1 : Option Addr) (c0_1 : Nat) (l0_1 : List Int) (a1 : Int) (a2 : Int) (a3 : Int) (r1 : List Int) (r2 : List Int) (r3 : Int) (w : World) (hr0_0 : Kd.C (Kd.int .i64) w A0_0 l0_0.length l0_0) (hc0_0 : l0_0.length ≤ c0_0) (hr0_1 : Kd.C (Kd.int .i64) w A0_1 l0_1.length l0_1) (hc0_1 : l0_1.length ≤ c0_1) (h : steps_Take.f k l0_0 l0_1 a1 a2 a3 = some (r1, r2, r3)) :
  Calls Try.prog 28 #[.agg #[.slice A0_0 l0_0.length c0_0, .slice A0_1 l0_1.length c0_1], .int .i64 a1, .int .i64 a2, .int .i64 a3] w fun e w' => ∃ v0_ v1_ : Value, e = .returned (.tuple #[.agg #[v0_, v1_], .int .i64 r3]) ∧ Kd.V (Kd.int .i64) 2 w' w.heap.size (fun k_ => w.heap.size ≤ k_) v0_ r1 ∧ Kd.V (Kd.int .i64) 2 w' w.heap.size (fun k_ => w.heap.size ≤ k_) v1_ r2 ∧ Below w.heap.size w w' :=
 (steps_Take_own k A0_0 c0_0 l0_0 A0_1 c0_1 l0_1 a1 a2 a3 r1 r2 r3 w hr0_0 hc0_0 hr0_1 hc0_1 h).mono (fun _ _ hp => StepsPost.view hp)

end Go.Proofs.Ythbonmpkjkihgaa.P
