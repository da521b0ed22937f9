/- Maps of whole numbers' keys in memory: what a block tells as a function of its keys; look-up, store, and what keeps it. -/
import Derived.Test.YtpjhmollejiaoaaRF
import Derived.Maps.OwnIn
import Derived.Maps.Views
import Derived.Test.YtpjhmollejiaoaaWGuard
namespace Go.Proofs.YtpjhmollejiaoaaW.PrintWords
open Go.RowKit Go.Maps

/-- An element, told as the value that it is. -/
def rdV (v : Value) : Option (DataW Value × List MemPlace) := some (.held v, [])
/-- Block b is a map of whole numbers' keys, of at most n entries, that tells f (z where there is none). -/
def MapI (w : World) (P : Program) (k : TypeId) (z : Value) (b n : Nat) (f : Int → Value) : Prop :=
  ∃ D : DataW Value, w.ownsMap P k rdV b n D ∧ IsMap D ∧ ∀ i : Int, (Lit.int .i64 i).wf = true → D.atKey (.int .i64 i) (.held z) = .held (f i)
section
variable {w w' : World} {P : Program} {k t e : TypeId} {z : Value} {b n : Nat} {f : Int → Value}
theorem MapI.lt (h : MapI w P k z b n f) : b < w.heap.size := by obtain ⟨D, h, _⟩ := h; exact h.lt
theorem MapI.made (w : World) (P : Program) (k : TypeId) (z : Value) : MapI (w.alloc (.map #[] 0)) P k z w.heap.size 0 (fun _ => z) :=
  ⟨.map [], World.ownsMap_made w P k rdV, isMap_empty, fun _ _ => rfl⟩
theorem MapI.kept (h : MapI w P k z b n f) (hb : w'.heap[b]? = w.heap[b]?) : MapI w' P k z b n f := by
  obtain ⟨D, ⟨es, clock, h1, h2⟩, h3⟩ := h
  exact ⟨D, ⟨es, clock, hb.trans h1, h2⟩, h3⟩
theorem MapI.keeps {K : Nat → Prop} (h : MapI w P k z b n f) (hk : Keeps K w w') (hK : K b) : MapI w' P k z b n f := h.kept (hk.block b h.lt hK)
theorem MapI.below {m : Nat} (h : MapI w P k z b n f) (hb : Below m w w') (hm : b < m) : MapI w' P k z b n f := h.kept (hb.block b hm)
theorem MapI.alloc (h : MapI w P k z b n f) (o : Obj) : MapI (w.alloc o) P k z b n f := h.kept (Below.heap_alloc w o b h.lt)
theorem MapI.other (h : MapI w P k z b n f) {p : Addr} (hne : b ≠ p.block) (u : Value) : MapI (w.setCell p u) P k z b n f := h.kept (Below.heap_setCell w p u b hne)
theorem MapI.lookup (h : MapI w P k z b n f) (hk : P.underlying k = some (.int .i64)) (ht : P.underlying t = some (.map k e)) (hz : (zeroValue e).run P w = .ok z w) {i : Int} (hi : (Lit.int .i64 i).wf = true) :
    (Instr.lookup t (.map (some b)) (.int .i64 i) false).run P w = .ok (f i) w := by
  obtain ⟨D, ho, _, hf⟩ := h
  obtain ⟨v, ps, hr, hv⟩ := ho.lookup (int_keyed hk) ht hz (zd := .held z) (zp := []) rfl (keyOf_int_mk hk hi)
  rw [hr]
  rw [hf i hi] at hv
  simp [rdV] at hv
  rw [hv.1]
theorem MapI.update (h : MapI w P k z b n f) (hk : P.underlying k = some (.int .i64)) (ht : P.underlying t = some (.map k e)) (hn : n < maxLen) {i : Int} (hi : (Lit.int .i64 i).wf = true) (v : Value) :
    ∃ w', (Instr.mapUpdate t (.map (some b)) (.int .i64 i) v).run P w = .ok () w' ∧ MapI w' P k z b (n + 1) (fun j => if j = i then v else f j) ∧ w.grownBy w' (some b) := by
  obtain ⟨D, ho, hm, hf⟩ := h
  obtain ⟨w', hr, ho', hg⟩ := ho.update (int_keyed hk) ht hn (keyOf_int_mk hk hi) (d := .held v) (ps := []) (val := v) rfl
  refine ⟨w', hr, ⟨_, ho', hm.put _ _, fun j hj => ?_⟩, hg⟩
  by_cases e : j = i
  · subst e
    show _ = DataW.held (if j = j then v else f j)
    rw [if_pos rfl, atKey_put_same hm ((int_keyed hk).key (keyOf_int_mk hk hj))]
  · show _ = DataW.held (if j = i then v else f j)
    rw [if_neg e, atKey_put_other (by simpa using e), hf j hj]
end
/-- A map's value, nil's too. -/
def MapV (w : World) (P : Program) (k : TypeId) (z m : Value) (f : Int → Value) : Prop := (m = .map none ∧ f = fun _ => z) ∨ ∃ b n, m = .map (some b) ∧ MapI w P k z b n f
section
variable {w w' : World} {P : Program} {k t e : TypeId} {z m : Value} {f : Int → Value}
theorem MapV.below (h : MapV w P k z m f) (hb : Below w.heap.size w w') : MapV w' P k z m f := by
  rcases h with h | ⟨b, n, h1, h2⟩
  · exact .inl h
  · exact .inr ⟨b, n, h1, h2.below hb h2.lt⟩
theorem MapV.lookup (h : MapV w P k z m f) (hk : P.underlying k = some (.int .i64)) (ht : P.underlying t = some (.map k e)) (hz : (zeroValue e).run P w = .ok z w) {i : Int} (hi : (Lit.int .i64 i).wf = true) :
    (Instr.lookup t m (.int .i64 i) false).run P w = .ok (f i) w := by
  rcases h with ⟨rfl, rfl⟩ | ⟨b, n, rfl, h2⟩
  · rcases (int_keyed hk).find w (keyOf_int_mk hk hi) [] (by simp) with ⟨h1, _⟩ | ⟨j, e0, _, h2, _⟩
    · simp [Instr.lookup, run_underlying ht, (int_keyed hk).check w _ (keyOf_int_mk hk hi), h1, hz, Result.andThen]
    · simp at h2
  · exact h2.lookup hk ht hz hi
end
section
variable {P : Program} {ops : Array Oper} {rest : List Oper} {o : Oper} {a : Act} {Q : Exit → Act → World → Prop} {w : World} {k t e : TypeId} {z : Value} {b n : Nat} {f : Int → Value}
theorem gate_insert {t : TypeId} {m v : Operand} (i : Int) (_ho : o.op = .insert t m (.const (.int .i64 i)) v) (h : wpList P ops Q (o :: rest) a w) : wpList P ops Q (o :: rest) a w := h
theorem wpList_insertI (hg : o.guard = none) (m x v : Operand) (hop : o.op = .insert t m x v) (hmap : MapI w P k z b n f) (hk : P.underlying k = some (.int .i64)) (ht : P.underlying t = some (.map k e)) (hn : n < maxLen) (i : Int) (val : Value)
    (hm : a.eval m = .map (some b)) (hx : a.eval x = .int .i64 i) (hi : (Lit.int .i64 i).wf = true) (hv : a.eval v = val)
    (h : ∀ w', MapI w' P k z b (n + 1) (fun j => if j = i then val else f j) → w.grownBy w' (some b) → wpList P ops Q rest (a.put o.dst undef) w') : wpList P ops Q (o :: rest) a w := by
  refine wpList_plain hg fun K' hK' => ?_
  obtain ⟨w', hrun, r1, r2⟩ := hmap.update hk ht hn hi val
  unfold Oper.wp
  simp [execOp, hop, hm, hx, hv, hrun, Result.andThen]
  exact hK' _ _ (h w' r1 r2)
end
/-- A row that was written out as it stands, of elements of several cells. -/
theorem C_reps {α : Type} {d : Kd α} {e : TypeId} (w : World) {xs : List α} {inner : List Value} (h : ∀ W, Reps (d.K W) d.sz xs inner) (hm : xs.length ≤ 9223372036854775807) :
    Kd.C d (w.alloc (.cells inner.toArray e)) (some ⟨w.heap.size, 0, none⟩) xs.length xs := by
  obtain ⟨A, c, h1, _, h2⟩ := (OwnRow.lit (e := e) w w.heap.size (h (w.alloc (.cells inner.toArray e))) (Nat.le_refl _) hm).reads
  injection h1 with h1 _ _
  rw [h1]
  exact h2
theorem F_reps {α : Type} {d : Kd α} {e : TypeId} (w : World) {xs : List α} {inner : List Value} (h : ∀ W, Reps (d.K W) d.sz xs inner) (hm : xs.length ≤ 9223372036854775807) :
    Kd.F d (w.alloc (.cells inner.toArray e)) (fun k => k = w.heap.size) (some ⟨w.heap.size, 0, none⟩) xs.length xs := by
  intro W' hW
  obtain ⟨i, ho, hr⟩ := OwnRow.lit (e := e) w w.heap.size (h W') (Nat.le_refl _) hm
  have ho' := own_move (w1 := W') ho (fun k hk => hW k (by simpa [Value.ownBlock] using hk.symm) (by have := ho.lt k hk; omega))
  obtain ⟨A, c, h1, _, h2⟩ := (show OwnRow (d.K W') e d.sz W' w.heap.size _ xs from ⟨i, ho', hr⟩).reads
  injection h1 with h1 _ _
  rw [h1]
  exact h2
end Go.Proofs.YtpjhmollejiaoaaW.PrintWords
