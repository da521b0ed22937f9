/- A range over a function, told by the blocks that each party keeps: the iterator changes the blocks of O alone (its own captured variables), a round keeps the blocks of R (what the iterator reads). -/
import Derived.RangeFuncNested
import Derived.RangeFuncBound
import Derived.RangeFuncCalls
import Derived.RangeFuncLeaves
import Derived.Test.YthbonmpkjkihgaaWWords
import Derived.Test.YthbonmpkjkihgaaWShare
import Derived.Test.YthbonmpkjkihgaaWMore
import Derived.Test.YthbonmpkjkihgaaWLast
import Derived.OrdersIn
namespace Go.Proofs.YthbonmpkjkihgaaW.PrintWords
open Go.RowKit

/-- The blocks of K lie as they lay. -/
structure Keeps (K : Nat → Prop) (W W' : World) : Prop where
  os : W'.os = W.os
  tape : W'.tape = W.tape
  output : W'.output = W.output
  size : W.heap.size ≤ W'.heap.size
  block : ∀ k, k < W.heap.size → K k → W'.heap[k]? = W.heap[k]?

namespace Keeps
variable {K K' : Nat → Prop} {A B C W : World}
theorem refl (K : Nat → Prop) (W : World) : Keeps K W W := ⟨rfl, rfl, rfl, Nat.le_refl _, fun _ _ _ => rfl⟩
theorem trans (h : Keeps K A B) (k : Keeps K B C) : Keeps K A C :=
  ⟨k.os.trans h.os, k.tape.trans h.tape, k.output.trans h.output, Nat.le_trans h.size k.size, fun i hi hk => (k.block i (Nat.lt_of_lt_of_le hi h.size) hk).trans (h.block i hi hk)⟩
theorem mono (h : Keeps K A B) (hk : ∀ k, k < A.heap.size → K' k → K k) : Keeps K' A B := ⟨h.os, h.tape, h.output, h.size, fun i hi hk' => h.block i hi (hk i hi hk')⟩
theorem alloc (h : Keeps K A W) (o : Obj) : Keeps K A (W.alloc o) :=
  ⟨h.os, h.tape, h.output, by simp; exact Nat.le_succ_of_le h.size, fun k hk hK => (Below.heap_alloc W o k (Nat.lt_of_lt_of_le hk h.size)).trans (h.block k hk hK)⟩
theorem setCell (h : Keeps K A W) {p : Addr} (u : Value) (hp : ¬ (p.block < A.heap.size ∧ K p.block)) : Keeps K A (W.setCell p u) :=
  ⟨h.os, h.tape, h.output, by show A.heap.size ≤ (W.heap.modify _ _).size; rw [Array.size_modify]; exact h.size, fun k hk hK => (Below.heap_setCell W p u k (fun e => hp (e ▸ ⟨hk, hK⟩))).trans (h.block k hk hK)⟩
theorem putObj (h : Keeps K A W) {l : Nat} (o : Obj) (hp : ¬ (l < A.heap.size ∧ K l)) : Keeps K A (W.putObj l o) :=
  ⟨h.os, h.tape, h.output, by rw [World.putObj_size]; exact h.size, fun k hk hK => (World.putObj_heap_other (fun e => hp (by rw [← e]; exact ⟨hk, hK⟩))).trans (h.block k hk hK)⟩
theorem drewN (h : Keeps K A W) (n : Nat) : Keeps K A (W.drewN n) := ⟨h.os, h.tape, h.output, h.size, h.block⟩
theorem drew (h : Keeps K A W) : Keeps K A W.drew := ⟨h.os, h.tape, h.output, h.size, h.block⟩
theorem of_below {n : Nat} (h : Below n A B) (hk : ∀ k, k < A.heap.size → K k → k < n) : Keeps K A B := ⟨h.os, h.tape, h.output, h.size, fun k hk' hK => h.block k (hk k hk' hK)⟩
theorem below {n : Nat} (h : Keeps K A B) (hn : n ≤ A.heap.size) (hk : ∀ k, k < n → K k) : Below n A B := ⟨h.os, h.tape, h.output, h.size, fun k hk' => h.block k (Nat.lt_of_lt_of_le hk' hn) (hk k hk')⟩
theorem cell (h : Keeps K A B) {p : Addr} (hp : p.block < A.heap.size) (hK : K p.block) : B.cell? p = A.cell? p := World.cell?_of_block (w := A) (h.block _ hp hK)
theorem frozen (h : Keeps K A B) {p : Addr} (hp : p.block < A.heap.size) (hK : K p.block) : B.frozen? p = A.frozen? p := World.frozen?_of_block (w := A) (h.block _ hp hK)
theorem cell_of (h : Keeps K A B) {p : Addr} {v : Value} (hv : A.cell? p = some v) (hK : K p.block) : B.cell? p = some v := (h.cell (World.block_lt_of_cell? A p hv) hK).trans hv
theorem grown {row : Option Nat} {w w' : World} (h : Keeps K A w) (hg : w.grownBy w' row) (hr : ∀ k, row = some k → ¬ (k < A.heap.size ∧ K k)) : Keeps K A w' :=
  ⟨hg.os.trans h.os, hg.tape.trans h.tape, hg.output.trans h.output, Nat.le_trans h.size hg.size, fun k hk hK => (hg.block k (Nat.lt_of_lt_of_le hk h.size) (fun e => hr k e.symm ⟨hk, hK⟩)).trans (h.block k hk hK)⟩
theorem boxed (h : Keeps K A B) {b : Nat} {t : TypeId} {v : Value} (hb : Boxed A b t v) (hK : K b) : Boxed B b t v := (h.block b hb.lt hK).trans hb
theorem row (h : Keeps K A B) {base : Nat} {e : TypeId} {size n : Nat} {v : Value} {xs : List Value} (hr : A.ownsRow base e size v n xs) (hK : ∀ k, base ≤ k → K k) : B.ownsRow base e size v n xs := by
  refine own_move hr (fun k hk => ?_)
  have := hr.lt k hk
  exact h.block k this.2 (hK k this.1)
end Keeps

/-- A block is a variable of several cells. -/
def BoxN (W : World) (B : Nat) (t : TypeId) (vs : List Value) : Prop := W.heap[B]? = some (.cells vs.toArray t (0, 0))
namespace BoxN
variable {W W' : World} {B : Nat} {t : TypeId} {vs : List Value}
theorem lt (h : BoxN W B t vs) : B < W.heap.size := (Array.getElem?_eq_some_iff.1 h).1
theorem cell (h : BoxN W B t vs) (i : Nat) {v : Value} (hv : vs[i]? = some v) : W.cell? ⟨B, i, none⟩ = some v := by
  simp [World.cell?, show W.heap[B]? = _ from h, hv]
theorem frozen (h : BoxN W B t vs) (i : Nat) : W.frozen? ⟨B, i, none⟩ = false := by simp [World.frozen?, show W.heap[B]? = _ from h]
theorem new (W : World) (t : TypeId) (vs : List Value) : BoxN (W.alloc (.cells vs.toArray t)) W.heap.size t vs := World.alloc_heap_new W _
theorem alloc (h : BoxN W B t vs) (o : Obj) : BoxN (W.alloc o) B t vs := (Below.heap_alloc W o B h.lt).trans h
theorem drewN (h : BoxN W B t vs) (n : Nat) : BoxN (W.drewN n) B t vs := h
theorem kept (h : BoxN W B t vs) {row : Option Nat} (hg : W.grownBy W' row) (hne : some B ≠ row) : BoxN W' B t vs := (hg.block B h.lt hne).trans h
theorem set (h : BoxN W B t vs) (i : Nat) (u : Value) : BoxN (W.setCell ⟨B, i, none⟩ u) B t (vs.set i u) := by
  obtain ⟨hlt, hk⟩ := Array.getElem?_eq_some_iff.1 h
  show (W.heap.modify B _)[B]? = _
  rw [Array.getElem?_eq_getElem (by rw [Array.size_modify]; exact hlt), Array.getElem_modify_self, hk]
  simp
theorem other (h : BoxN W B t vs) {p : Addr} (hne : B ≠ p.block) (u : Value) : BoxN (W.setCell p u) B t vs := (Below.heap_setCell W p u B hne).trans h
end BoxN
theorem Keeps.boxN {K : Nat → Prop} {A B : World} (h : Keeps K A B) {b : Nat} {t : TypeId} {vs : List Value} (hb : BoxN A b t vs) (hK : K b) : BoxN B b t vs := (h.block b hb.lt hK).trans hb
theorem not_own {W : World} {base : Nat} {e : TypeId} {size n : Nat} {v : Value} {xs : List Value} (hr : W.ownsRow base e size v n xs) {b : Nat} (h : b < base) : some b ≠ v.ownBlock := fun e' => by
  have := (hr.lt b e'.symm).1
  omega
/-- A row of one's own of one-cell elements, read as it lies. -/
theorem F_of_own {α : Type} {enc : α → Value} {h1 : ∀ x, (enc x).oneCell' = true} {W : World} {base : Nat} {e : TypeId} {A : Option Addr} {n c : Nat} {xs : List α}
    (h : W.ownsRow base e 1 (.slice A n c) n (xs.map enc)) : Kd.F (Kd.scalar enc h1) W (fun k => base ≤ k) A n xs := by
  have hl : xs.length = n := by have := h.1; simp at this; exact this
  intro W' hW
  have hr : W'.ownsRow base e 1 (.slice A n c) n (xs.map enc) := own_move h (fun k hk => hW k (h.lt k hk).1 (h.lt k hk).2)
  rcases hr.2 with ⟨e0, h0⟩ | ⟨g, cap, cur, e0, hb, hh, hcap, hm, hsz, hcell⟩
  · have h0' : n = 0 := h0
    exact ⟨hl, by omega, fun hn => by omega⟩
  · have hh' : A = some ⟨g, 0, none⟩ := by cases e0; rfl
    subst hh'
    refine ⟨hl, ?_, fun hn => ⟨_, rfl, fun j p hj => ⟨[enc p], rfl, rfl, ?_⟩⟩⟩
    · have : maxLen ≤ 9223372036854775807 := by decide
      omega
    · intro i u hu
      cases i with
      | zero =>
        simp at hu
        subst hu
        have := hr.cells (g := g) (by simp [Value.ownBlock]) j (enc p) (by rw [List.getElem?_map, hj]; rfl)
        show W'.cell? ((⟨g, 0, none⟩ : Addr).add (j * 1 + 0)) = _
        rw [Nat.mul_one, Nat.add_zero]
        exact this
      | succ i => simp at hu

theorem BoxN.c2 {W : World} {B : Nat} {t : TypeId} {v0 v1 : Value} (h : BoxN W B t [v0, v1]) : W.cell? ⟨B, 0, none⟩ = some v0 ∧ W.cell? ⟨B, 1, none⟩ = some v1 := ⟨h.cell 0 rfl, h.cell 1 rfl⟩
theorem BoxN.c3 {W : World} {B : Nat} {t : TypeId} {v0 v1 v2 : Value} (h : BoxN W B t [v0, v1, v2]) : W.cell? ⟨B, 0, none⟩ = some v0 ∧ W.cell? ⟨B, 1, none⟩ = some v1 ∧ W.cell? ⟨B, 2, none⟩ = some v2 := ⟨h.cell 0 rfl, h.cell 1 rfl, h.cell 2 rfl⟩
theorem BoxN.c4 {W : World} {B : Nat} {t : TypeId} {v0 v1 v2 v3 : Value} (h : BoxN W B t [v0, v1, v2, v3]) : W.cell? ⟨B, 0, none⟩ = some v0 ∧ W.cell? ⟨B, 1, none⟩ = some v1 ∧ W.cell? ⟨B, 2, none⟩ = some v2 ∧ W.cell? ⟨B, 3, none⟩ = some v3 := ⟨h.cell 0 rfl, h.cell 1 rfl, h.cell 2 rfl, h.cell 3 rfl⟩
theorem BoxN.c5 {W : World} {B : Nat} {t : TypeId} {v0 v1 v2 v3 v4 : Value} (h : BoxN W B t [v0, v1, v2, v3, v4]) : W.cell? ⟨B, 0, none⟩ = some v0 ∧ W.cell? ⟨B, 1, none⟩ = some v1 ∧ W.cell? ⟨B, 2, none⟩ = some v2 ∧ W.cell? ⟨B, 3, none⟩ = some v3 ∧ W.cell? ⟨B, 4, none⟩ = some v4 := ⟨h.cell 0 rfl, h.cell 1 rfl, h.cell 2 rfl, h.cell 3 rfl, h.cell 4 rfl⟩
theorem BoxN.c6 {W : World} {B : Nat} {t : TypeId} {v0 v1 v2 v3 v4 v5 : Value} (h : BoxN W B t [v0, v1, v2, v3, v4, v5]) : W.cell? ⟨B, 0, none⟩ = some v0 ∧ W.cell? ⟨B, 1, none⟩ = some v1 ∧ W.cell? ⟨B, 2, none⟩ = some v2 ∧ W.cell? ⟨B, 3, none⟩ = some v3 ∧ W.cell? ⟨B, 4, none⟩ = some v4 ∧ W.cell? ⟨B, 5, none⟩ = some v5 := ⟨h.cell 0 rfl, h.cell 1 rfl, h.cell 2 rfl, h.cell 3 rfl, h.cell 4 rfl, h.cell 5 rfl⟩
theorem BoxN.below {W W' : World} {B n : Nat} {t : TypeId} {vs : List Value} (h : BoxN W B t vs) (hb : Below n W W') (hn : B < n) : BoxN W' B t vs := (hb.block B hn).trans h
theorem Boxed.below' {W W' : World} {B n : Nat} {t : TypeId} {v : Value} (h : Boxed W B t v) (hb : Below n W W') (hn : B < n) : Boxed W' B t v := (hb.block B hn).trans h
/-- A row that was written out as it stands. -/
theorem own_lits {e : TypeId} (w : World) (xs : List Int) (h : xs.length ≤ maxLen) : (w.alloc (.cells (xs.map (Value.int .i64)).toArray e)).ownsRow w.heap.size e 1 (.slice (some ⟨w.heap.size, 0, none⟩) xs.length xs.length) xs.length (xs.map (Value.int .i64)) :=
  ⟨by simp, .inr ⟨w.heap.size, xs.length, _, rfl, Nat.le_refl _, World.alloc_heap_new w _, Nat.le_refl _, h, by simp, by simp; exact List.take_of_length_le (by simp)⟩⟩
theorem C_lits {e : TypeId} (w : World) (xs : List Int) (h : xs.length ≤ maxLen) : Kd.C (Kd.int .i64) (w.alloc (.cells (xs.map (Value.int .i64)).toArray e)) (some ⟨w.heap.size, 0, none⟩) xs.length xs :=
  Kd.F_now (F_of_own (enc := Value.int .i64) (h1 := fun _ => rfl) (own_lits w xs h))

variable {F : Fence} {n : Nat} {P : Program}

/-- An iterator's contract: pre has come ('Pre'), all has come ('S'). -/
def RSeq {α : Type} (F : Fence) (n : Nat) (P : Program) (g : Nat) (lb : Array Value) (encs : α → Array Value) (R O : Nat → Prop) (Pre S : List α → Prop) (w : World) : Prop :=
  ∀ (l : Nat) (J Jx : List α → World → Prop) (W : World), Below w.heap.size w W →
    (∀ s A B, J s A → Keeps (fun k => ¬ O k) A B → J s B) → (∀ s A B, Jx s A → Keeps (fun k => ¬ O k) A B → Jx s B) →
    (∀ pre x W1, J pre W1 → Pre (pre ++ [x]) → YieldAt F (n - 1) P l (encs x) W1 fun e W' =>
      (e = .returned (.bool true) ∧ J (pre ++ [x]) W' ∧ Keeps R W1 W') ∨ (e = .returned (.bool false) ∧ Jx (pre ++ [x]) W')) →
    J [] W →
    CallsIn F n P g (#[.func (.yield l) #[] #[]] ++ lb) W fun e W' => (∃ v, e = .returned v) ∧ ((∃ xs, S xs ∧ J xs W') ∨ (∃ pre, Pre pre ∧ Jx pre W'))

/-- How a round's body may be left. -/
def rpost {α : Type} (R : Nat → Prop) (B : Nat) (I : List α → World → Prop) (Ix : Code → List α → World → Prop) (xs : List α) (W : World) : Exit → Act → World → Prop
  | .normal, _, W' => Keeps (fun k => R k ∨ k = B ∨ k = B + 1) W W' ∧ I xs W'
  | .ret, _, W' => Keeps (fun k => k = B ∨ k = B + 1) W W' ∧ Ix .ret xs W'
  | .exit id, _, W' => Keeps (fun k => k = B ∨ k = B + 1) W W' ∧ Ix (.exit id) xs W'
  | .goto t, _, W' => Keeps (fun k => k = B ∨ k = B + 1) W W' ∧ Ix (.goto t) xs W'
  | .panic _, _, _ => False
  | .outgrown, _, _ => False

/-- **The statement 'for x := range seq { body }'**, the round's assignment and body each walked once; Ax tells what stands behind the assignment. -/
theorem wpIn_range {α : Type} {g : Operand} {ps : Array Tmp} {assign body : Code} {Q : Exit → Act → World → Prop} {a : Act} {w : World}
    (hro : F.round = none) (h1 : 1 ≤ n) {gf : Nat} {lb : Array Value} (hg : a.eval g = .func (.func gf) #[] lb) (hFg : F.fn gf) (eg : ∀ args w, (callFunc gf args).run P w = .ok (.enter gf args) w)
    {encs : α → Array Value} {R O : Nat → Prop} {Pre S : List α → Prop} (hseq : RSeq F (n - 1) P gf lb encs R O Pre S w) (hO : ∀ k, O k → k < w.heap.size) (hR : ∀ k, R k → k < w.heap.size) (hps : ∀ x, (encs x).size = ps.size)
    (I : List α → World → Prop) (Ix : Code → List α → World → Prop)
    (hI : ∀ s A B, I s A → Keeps (fun k => ¬ O k ∧ k ≠ w.heap.size ∧ k ≠ w.heap.size + 1) A B → I s B)
    (hIx : ∀ c s A B, Ix c s A → Keeps (fun k => ¬ O k ∧ k ≠ w.heap.size ∧ k ≠ w.heap.size + 1) A B → Ix c s B)
    (h0 : I [] w) (Ax : List α → α → Act → World → Prop)
    (hAx : ∀ pre x a' A B, Ax pre x a' A → Keeps (fun k => k ≠ w.heap.size + 1) A B → Ax pre x a' B)
    (hassign : ∀ (pre : List α) (x : α) (W : World), I pre W → Pre (pre ++ [x]) → w.heap.size + 2 ≤ W.heap.size →
      assign.wpIn (F.inRound (w.heap.size + 1)) (n - 1 - 1) P (Exit.then (fun a' W' => Keeps (fun k => R k ∨ k = w.heap.size ∨ k = w.heap.size + 1) W W' ∧ Ax pre x a' W') (fun _ _ _ => False)) { tmps := (ps.zip (encs x)).foldl (fun t (p, v) => t.setIfInBounds p v) a.tmps, defers := [] } W)
    (hbody : ∀ (pre : List α) (x : α) (a' : Act) (W : World), Pre (pre ++ [x]) → (∃ r, W.heap[w.heap.size + 1]? = some (.loop r)) → Ax pre x a' W →
      body.wpIn (F.inRound (w.heap.size + 1)) (n - 1 - 1) P (rpost R w.heap.size I Ix (pre ++ [x]) W) a' W)
    (hdone : ∀ (xs : List α) (W : World), w.heap.size + 2 ≤ W.heap.size → S xs → I xs W → W.heap[w.heap.size]? = some (.deferred (some [])) → Q .normal { a with defers := { target := .collected w.heap.size, args := #[] } :: a.defers } W)
    (hstop : ∀ (c : Code) (pre : List α) (W : World), w.heap.size + 2 ≤ W.heap.size → Pre pre → Ix c pre W → W.heap[w.heap.size]? = some (.deferred (some [])) → c.wpIn F n P Q { a with defers := { target := .collected w.heap.size, args := #[] } :: a.defers } W) :
    (Code.rangeFunc g ps assign body).wpIn F n P Q a w := by
  refine wpIn_rangeFunc ?_
  intro fn hfn
  rw [hro]
  obtain ⟨B, hB⟩ : ∃ B, w.heap.size = B := ⟨_, rfl⟩
  obtain ⟨rec, hrec⟩ : ∃ rec : LoopState → Option Code → Loop, rec = fun st pe => { state := st, pending := pe, fn, tmps := a.tmps, params := ps, assign, body, defers := w.heap.size } := ⟨_, rfl⟩
  obtain ⟨W1, hW1⟩ : ∃ W1, (w.alloc (.deferred (some []))).alloc (.loop (rec .ready none)) = W1 := ⟨_, rfl⟩
  have hL1 : W1.heap[w.heap.size + 1]? = some (.loop (rec .ready none)) := by
    rw [← hW1]
    have := World.alloc_heap_new (w.alloc (.deferred (some []))) (.loop (rec .ready none))
    rwa [World.size_alloc] at this
  have hK1 : W1.heap[w.heap.size]? = some (.deferred (some [])) := by
    rw [← hW1]
    exact (Below.heap_alloc _ _ _ (by simp)).trans (World.alloc_heap_new w _)
  have hI1 : I [] W1 := by rw [← hW1]; exact hI _ _ _ h0 (((Keeps.refl _ w).alloc _).alloc _)
  have hb1 : Below w.heap.size w W1 := by rw [← hW1]; exact ((Below.refl _ w).alloc (Nat.le_refl _) _).alloc (by simp) _
  refine ⟨w.heap.size + 1, [{ target := .collected w.heap.size, args := #[] }], W1, { target := .fn (.func gf) lb, args := #[.func (.yield (w.heap.size + 1)) #[] #[]] }, W1, gf,
    #[.func (.yield (w.heap.size + 1)) #[] #[]] ++ lb, W1, ?_, ?_, ?_, ?_, fun _ => h1, ?_⟩
  · rw [← hW1, hrec]; exact run_enterLoop_outer _ _ _ _ _
  · simp only [resolve, hg]
    simp [go_sem]
  · intro f' hf'; simp [Target.leads] at hf'; subst hf'; exact hFg
  · simp [invoke, go_sem, eg]
  · have hnO : ∀ j, w.heap.size ≤ j → ¬ O j := fun j hj ho => Nat.lt_irrefl _ (Nat.lt_of_lt_of_le (hO j ho) hj)
    have hs1 : ∀ {W : World} {o : Obj}, W.heap[w.heap.size + 1]? = some o → w.heap.size + 1 < W.heap.size := fun h => (Array.getElem?_eq_some_iff.1 h).1
    have put : ∀ (s : List α) (W : World) (o : Obj), I s W → I s (W.putObj (w.heap.size + 1) o) := fun s W o h => hI _ _ _ h ((Keeps.refl _ W).putObj _ (fun h => h.2.2.2 rfl))
    have putx : ∀ (c : Code) (s : List α) (W : World) (o : Obj), Ix c s W → Ix c s (W.putObj (w.heap.size + 1) o) := fun c s W o h => hIx _ _ _ _ h ((Keeps.refl _ W).putObj _ (fun h => h.2.2.2 rfl))
    refine (hseq (w.heap.size + 1)
      (fun pre W => I pre W ∧ W.heap[w.heap.size + 1]? = some (.loop (rec .ready none)) ∧ W.heap[w.heap.size]? = some (.deferred (some [])))
      (fun pre W => ∃ c, Ix c pre W ∧ W.heap[w.heap.size + 1]? = some (.loop (rec .done (some c))) ∧ W.heap[w.heap.size]? = some (.deferred (some [])))
      W1 hb1 ?_ ?_ ?_ ⟨hI1, hL1, hK1⟩).mono ?_
    · rintro s A B ⟨hi, hl, hk⟩ hkeep
      have hlt := hs1 hl
      exact ⟨hI _ _ _ hi (hkeep.mono (fun _ _ h => h.1)), (hkeep.block _ hlt (hnO _ (Nat.le_succ _))).trans hl, (hkeep.block _ (Nat.lt_of_succ_lt hlt) (hnO _ (Nat.le_refl _))).trans hk⟩
    · rintro s A B ⟨c, hi, hl, hk⟩ hkeep
      have hlt := hs1 hl
      exact ⟨c, hIx _ _ _ _ hi (hkeep.mono (fun _ _ h => h.1)), (hkeep.block _ hlt (hnO _ (Nat.le_succ _))).trans hl, (hkeep.block _ (Nat.lt_of_succ_lt hlt) (hnO _ (Nat.le_refl _))).trans hk⟩
    · rintro pre x W ⟨hi, hl, hk⟩ hpre
      have hlt := hs1 hl
      have hy := run_yield (P := P) (args := encs x) hl (by rw [hrec]; exact hps x)
      rw [hrec] at hy
      refine ⟨fn, _, assign, body, hy, roundIn_of_wpIn hfn (wpIn_mono (hassign pre x W hi hpre hlt) ?_)⟩
      rintro e a' Wa hp
      cases e with
      | normal =>
        obtain ⟨hka, hax⟩ := hp
        have hla : Wa.heap[w.heap.size + 1]? = some (.loop (rec .ready none)) := (hka.block _ hlt (.inr (.inr rfl))).trans hl
        have hda : Wa.heap[w.heap.size]? = some (.deferred (some [])) := (hka.block _ (Nat.lt_of_succ_lt hlt) (.inr (.inl rfl))).trans hk
        have hlta := hs1 hla
        refine ⟨_, run_beginRound hla (by rw [hrec]), ?_⟩
        have hl2 : (Wa.putObj (w.heap.size + 1) (.loop { rec .ready none with state := .busy })).heap[w.heap.size + 1]? = some (.loop { rec .ready none with state := .busy }) := World.putObj_heap_same hlta
        have hk2 : (Wa.putObj (w.heap.size + 1) (.loop { rec .ready none with state := .busy })).heap[w.heap.size]? = some (.deferred (some [])) := (World.putObj_heap_other (by omega)).trans hda
        have hw2 : Keeps (fun k => R k) Wa (Wa.putObj (w.heap.size + 1) (.loop { rec .ready none with state := .busy })) := (Keeps.refl _ Wa).putObj _ (fun h => by have := hR _ h.2; omega)
        refine wpIn_mono (hbody pre x a' _ hpre ⟨_, hl2⟩ (hAx _ _ _ _ _ hax ((Keeps.refl _ Wa).putObj _ (fun h => h.2 rfl)))) ?_
        have fin : ∀ (jump : Option Code) (W3 : World), Keeps (fun k => k = w.heap.size ∨ k = w.heap.size + 1) (Wa.putObj (w.heap.size + 1) (.loop { rec .ready none with state := .busy })) W3 →
            (Instr.endRound (w.heap.size + 1) jump).run P W3 = .ok (.bool jump.isNone) (W3.putObj (w.heap.size + 1) (.loop (rec (if jump.isNone then .ready else .done) jump))) ∧
            (W3.putObj (w.heap.size + 1) (.loop (rec (if jump.isNone then .ready else .done) jump))).heap[w.heap.size + 1]? = some (.loop (rec (if jump.isNone then .ready else .done) jump)) ∧
            (W3.putObj (w.heap.size + 1) (.loop (rec (if jump.isNone then .ready else .done) jump))).heap[w.heap.size]? = some (.deferred (some [])) := fun jump W3 hk3 => by
          have hl3 := (hk3.block _ (by rw [World.putObj_size]; exact hlta) (.inr rfl)).trans hl2
          have := run_endRound (P := P) jump hl3
          rw [hrec] at this ⊢
          exact ⟨this, World.putObj_heap_same (hs1 hl3), (World.putObj_heap_other (by omega)).trans ((hk3.block _ (by rw [World.putObj_size]; omega) (.inl rfl)).trans hk2)⟩
        rintro e a3 W3 hp
        cases e with
        | normal =>
          obtain ⟨hk3, hi3⟩ := hp
          obtain ⟨hr, hl4, hk4⟩ := fin none W3 (hk3.mono (fun _ _ h => .inr h))
          exact ⟨_, _, hr, .inl ⟨rfl, ⟨put _ _ _ hi3, hl4, hk4⟩, (((hka.mono (fun _ _ h => .inl h)).trans (hw2.trans (hk3.mono (fun _ _ h => .inl h)))).putObj _ (fun h => by have := hR _ h.2; omega))⟩⟩
        | ret =>
          obtain ⟨hk3, hi3⟩ := hp
          obtain ⟨hr, hl4, hk4⟩ := fin (some .ret) W3 hk3
          exact ⟨_, _, hr, .inr ⟨rfl, .ret, putx _ _ _ _ hi3, hl4, hk4⟩⟩
        | exit id =>
          obtain ⟨hk3, hi3⟩ := hp
          obtain ⟨hr, hl4, hk4⟩ := fin (some (.exit id)) W3 hk3
          exact ⟨_, _, hr, .inr ⟨rfl, .exit id, putx _ _ _ _ hi3, hl4, hk4⟩⟩
        | goto t =>
          obtain ⟨hk3, hi3⟩ := hp
          obtain ⟨hr, hl4, hk4⟩ := fin (some (.goto t)) W3 hk3
          exact ⟨_, _, hr, .inr ⟨rfl, .goto t, putx _ _ _ _ hi3, hl4, hk4⟩⟩
        | panic ch => exact hp.elim
        | outgrown => exact hp.elim
      | exit id => exact hp.elim
      | goto t => exact hp.elim
      | ret => exact hp.elim
      | panic ch => exact hp.elim
      | outgrown => exact hp.elim
    · rintro e W2 ⟨⟨v, rfl⟩, (⟨xs, hS, hi, hl, hk⟩ | ⟨pre, hSp, c, hi, hl, hk⟩)⟩
      · exact ⟨none, _, by have := run_endLoop (P := P) hl (by rw [hrec]; simp); rw [hrec] at this; exact this, hdone xs _ (by rw [World.putObj_size]; exact hs1 hl) hS (put _ _ _ hi) ((World.putObj_heap_other (by omega)).trans hk)⟩
      · exact ⟨some c, _, by have := run_endLoop (P := P) hl (by rw [hrec]; simp); rw [hrec] at this; exact this, hstop c pre _ (by rw [World.putObj_size]; exact hs1 hl) hSp (putx _ _ _ _ hi) ((World.putObj_heap_other (by omega)).trans hk)⟩

/-- A region that draws, within a round: what any order shows without a round (no operation of it defers, none lets the machine outgrow). -/
theorem wpOpIn_of_wpOp {P : Program} {ops : Array Oper} {Q : Exit → Act → World → Prop} {l m i : Nat} {K K' : Act → World → Prop} {a : Act} {w : World} (hd : ∀ (j : Nat) (o : Oper), ops[j]? = some o → ∀ c, o.op ≠ .defer c) (hq : ¬ LetsOut Q)
    (hK : ∀ a w, K a w → K' a w) (h : wpOp P ops Q i K a w) : wpOpIn (Fence.wide.inRound l) m P ops Q i K' a w := by
  unfold wpOp at h
  unfold wpOpIn
  split
  · rename_i ho
    rw [ho] at h
    exact hK _ _ h
  · rename_i o ho
    rw [ho] at h
    dsimp only at h
    split
    · rename_i hw
      rw [if_pos hw] at h
      rcases h with h | h
      case inr => exact absurd h.2 hq
      refine ⟨fun _ _ => trivial, ?_⟩
      rw [Oper.semAt_eq _ _ _ (hd i o ho)]
      unfold Oper.wp at h
      generalize (execOp a.eval o).run P w = r at *
      have hdep : (Fence.wide.inRound l).depth.isSome = true → 1 ≤ m := fun h => by cases h
      cases r with
      | ok x w' =>
        cases x with
        | value v => exact hK _ _ h
        | skip => exact hK _ _ h
        | defer d => exact hK _ _ h
        | enter f args => exact ⟨hdep, (CallsIn.inRound l (callsIn_wide.2 h)).mono (fun e w'' he => by cases e <;> first | exact hK _ _ he | exact he)⟩
        | row row args => exact ⟨hdep, RowsIn.mono (fun c cs _ => by obtain ⟨v, w', h1, h2⟩ := h c cs; exact ⟨v, w', h1, stepsIn_wide.2 h2⟩) (fun _ _ he => hK _ _ he)⟩
        | round l f tmps assign body => exact h.elim
        | _ => exact h.elim
      | halt x w' => cases x <;> exact h
    · rename_i hw
      rw [if_neg hw] at h
      exact ⟨fun _ _ => trivial, hK _ _ h⟩
theorem wpAnyIn_of_wpAny {P : Program} {md : Region.Mode} {ops : Array Oper} {Q : Exit → Act → World → Prop} {l m : Nat} (hd : ∀ (j : Nat) (o : Oper), ops[j]? = some o → ∀ c, o.op ≠ .defer c) (hq : ¬ LetsOut Q) :
    ∀ (fuel : Nat) (listed : Array Bool) (a : Act) (w : World), wpAny P md ops Q fuel listed a w → wpAnyIn (Fence.wide.inRound l) m P md ops Q fuel listed a w
  | 0, _, _, _, h => h
  | fuel + 1, _, _, _, h => ⟨h.1, fun i hi => wpOpIn_of_wpOp hd hq (fun a' w' h' => wpAnyIn_of_wpAny hd hq fuel _ a' w' h') (h.2 i hi)⟩
def noDefer (o : Oper) : Bool := match o.op with | .defer _ => false | _ => true
theorem noDefer_spec {ops : Array Oper} (h : ops.toList.all noDefer = true) : ∀ (j : Nat) (o : Oper), ops[j]? = some o → ∀ c, o.op ≠ .defer c := by
  intro j o ho c hc
  have h1 := List.all_eq_true.1 h o (by rw [← Array.getElem?_toList] at ho; exact List.mem_of_getElem? ho)
  unfold noDefer at h1
  rw [hc] at h1
  cases h1
theorem start_in {P : Program} {ops : Array Oper} {Q : Exit → Act → World → Prop} {S : World → Prop} {ds : List Nat} {id n lr m : Nat} {a : Act} {w : World} (l : Array Bool) (hm : P.follows .mixedOrders = true) (hn : ops.size = n) (hl : Array.replicate n false = l) (hd : ops.toList.all noDefer = true) (hq : ¬ LetsOut Q) (hS : S w.drew)
    (h : S w.drew → PrintLast.wpAnyLast P .any ops Q S ds n l a w.drew) : (Code.region id ops true).wpIn (Fence.wide.inRound lr) m P Q a w := by
  subst hn
  subst hl
  exact wpIn_region_any hm (wpAnyIn_of_wpAny (noDefer_spec hd) hq _ _ _ _ (PrintLast.wpAny_of_last _ _ _ _ (h hS)))
end Go.Proofs.YthbonmpkjkihgaaW.PrintWords
