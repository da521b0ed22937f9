/- A row of bytes in a block of the call's own, whatever mark a conversion has laid behind its cells: read, appended to, stored into, made a string. -/
import Derived.ArgAppend
import Derived.Below
import Derived.OwnWalk
import Derived.Lib.ConvBytes
import Derived.Laws.BytesArg
import Derived.Laws.Rows
import Derived.Maps.AppendAt
import Derived.Deep.AppendLies
namespace Go.Proofs.Ytdhnlcbijefinaa.GR
open Go.RowKit

/-- v is a row in a block from 'base' on, of one-cell elements of type e, its first cells are xs, and none of its cells is frozen. -/
def GRow (w : World) (base : Nat) (e : TypeId) (v : Value) (xs : List Value) : Prop :=
  ∃ (g cap : Nat) (cur : Array Value) (lo hi : Nat), v = .slice (some ⟨g, 0, none⟩) xs.length cap ∧ base ≤ g ∧ w.heap[g]? = some (.cells cur e (lo, hi)) ∧ xs.length ≤ cap ∧ cap ≤ maxLen ∧ cur.size = cap ∧ cur.toList.take xs.length = xs ∧ (∀ j, j < cap → ¬ (lo ≤ j ∧ j < hi))

theorem heap_setCell_fr (w : World) (g i : Nat) (cs : Array Value) (t : TypeId) (fr : Nat × Nat) (v : Value) (hg : w.heap[g]? = some (.cells cs t fr)) :
    (w.setCell ⟨g, i, none⟩ v).heap[g]? = some (.cells (cs.setIfInBounds i v) t fr) := by
  rw [setCell_eq_setRow w g i cs t fr v hg]
  exact setRow_heap w g cs _ t _ hg
theorem GRow.of_own {w : World} {base n : Nat} {e : TypeId} {v : Value} {xs : List Value} (h : w.ownsRow base e 1 v n xs) (h0 : 0 < n) : GRow w base e v xs := by
  have hl : xs.length = n := by have := h.1; omega
  rcases h.2 with ⟨_, h1⟩ | ⟨g, cap, cur, rfl, hb, hh, hn, hm, hs, ht⟩
  · omega
  · subst hl
    exact ⟨g, cap, cur, 0, 0, rfl, hb, hh, hn, hm, by omega, by simpa using ht, fun j _ => by omega⟩
theorem GRow.grown {w w' : World} {base : Nat} {e : TypeId} {v : Value} {xs : List Value} {row : Option Nat} (h : GRow w base e v xs) (hg : w.grownBy w' row) (hne : row ≠ v.ownBlock) : GRow w' base e v xs := by
  obtain ⟨g, cap, cur, lo, hi, rfl, hb, hh, r⟩ := h
  refine ⟨g, cap, cur, lo, hi, rfl, hb, (hg.block g (Array.getElem?_eq_some_iff.1 hh).1 ?_).trans hh, r⟩
  intro e1
  exact hne (by simp [Value.ownBlock, e1])
theorem GRow.block {w : World} {base : Nat} {e : TypeId} {v : Value} {xs : List Value} (h : GRow w base e v xs) (k : Nat) (hk : v.ownBlock = some k) : base ≤ k ∧ k < w.heap.size := by
  obtain ⟨g, cap, cur, lo, hi, rfl, hb, hh, _⟩ := h
  have : g = k := by simpa [Value.ownBlock] using hk
  subst this
  exact ⟨hb, (Array.getElem?_eq_some_iff.1 hh).1⟩
theorem GRow.alloc {w : World} {base : Nat} {e : TypeId} {v : Value} {xs : List Value} (h : GRow w base e v xs) (o : Obj) : GRow (w.alloc o) base e v xs := by
  refine h.grown (World.grownBy_alloc w o none) ?_
  obtain ⟨g, cap, cur, lo, hi, rfl, _⟩ := h
  simp [Value.ownBlock]
theorem GRow.shape {w : World} {base : Nat} {e : TypeId} {v : Value} {xs : List Value} (h : GRow w base e v xs) : ∃ g cap, v = .slice (some ⟨g, 0, none⟩) xs.length cap ∧ base ≤ g ∧ g < w.heap.size ∧ xs.length ≤ maxLen ∧
    (∀ j u, xs[j]? = some u → w.cell? ⟨g, j, none⟩ = some u) ∧ (∀ j, j < xs.length → w.frozen? ⟨g, j, none⟩ = false) ∧ ∀ i u, i < xs.length → GRow (w.setCell ⟨g, i, none⟩ u) base e v (xs.set i u) := by
  obtain ⟨g, cap, cur, lo, hi, rfl, hb, hh, hn, hm, hs, ht, hf⟩ := h
  refine ⟨g, cap, rfl, hb, (Array.getElem?_eq_some_iff.1 hh).1, Nat.le_trans hn hm, fun j u hj => ?_, fun j hj => ?_, fun i u hi' => ?_⟩
  · have hjl : j < xs.length := (List.getElem?_eq_some_iff.1 hj).1
    rw [cell_of_row w g j cur e _ hh]
    rw [← ht, List.getElem?_take_of_lt hjl] at hj
    simpa using hj
  · have := hf j (by omega)
    simp only [World.frozen?, hh]
    by_cases h1 : lo ≤ j
    · have h2 : ¬ j < hi := fun h2 => this ⟨h1, h2⟩
      simp [h2]
    · simp [h1]
  · refine ⟨g, cap, cur.setIfInBounds i u, lo, hi, by rw [List.length_set], hb, heap_setCell_fr w g i cur e _ u hh, by rw [List.length_set]; exact hn, hm, by simpa using hs, ?_, hf⟩
    rw [List.length_set]
    conv => rhs; rw [← ht]
    rw [Array.toList_setIfInBounds, List.take_set]
/-- What []byte(s) makes. -/
theorem GRow.bytes (w : World) (base : Nat) (e : TypeId) (s : ByteArray) (hb : base ≤ w.heap.size) (hs : s.size ≤ maxLen) :
    GRow (Lib.bytesWorld w e s) base e (.slice (some ⟨w.heap.size, 0, none⟩) s.size (grownCap w s.size 0 e)) (s.data.toList.map fun b => Value.int .u8 b.toNat) := by
  have h1 := grownCap_ge w s.size 0 e
  have h2 : (Lib.bytesCells w e s).size = grownCap w s.size 0 e := by
    simp only [Lib.bytesCells, Array.size_append, Array.size_map, Array.size_replicate]
    show s.size + _ = _
    omega
  refine ⟨w.heap.size, grownCap w s.size 0 e, Lib.bytesCells w e s, _, _, by simp, hb, Lib.bytesWorld_at_new w e s, by simpa using h1, grownCap_le_maxLen w s.size 0 e hs, h2, ?_, fun j hj => by omega⟩
  simp [Lib.bytesCells]

section
variable {P : Program} {ops : Array Oper} {rest : List Oper} {o : Oper} {a : Act} {Q : Exit → Act → World → Prop}
/-- append(v, y) onto such a row. -/
theorem GRow.append {w0 W : World} (base : Nat) (hgd : o.guard = none) (s x : Operand) (t e : TypeId) (z : Value) (bytes : Nat)
    (ho : o.op = .call { callee := .builtin .append, args := #[s, x], argTypes := #[t, t] })
    (ht : P.underlying t = some (.slice e)) (hinfo : (P.info? e).map (fun i => (i.zero, i.size, i.bytes)) = some (some z, 1, bytes)) (hz : z.cells.size = 1) (hb0 : 0 < bytes)
    (v : Value) (xs : List Value) (y : Value) (hs : a.eval s = v) (hx : a.eval x = .slice (some ⟨W.heap.size, 0, none⟩) 1 1) (h1 : y.oneCell' = true)
    (HO : GRow W base e v xs) (HB : Below base w0 W) (hbase : base ≤ W.heap.size) (hl : (xs.length + 1) * bytes ≤ 140737488355328)
    (h : ∀ v1 w1, GRow w1 base e v1 (xs ++ [y]) → Below base w0 w1 → W.grownBy w1 v.ownBlock → wpList P ops Q rest (a.put o.dst v1) w1) :
    wpList P ops Q (o :: rest) a (W.alloc (.cells #[y] e)) := by
  obtain ⟨i0, hi, hzz⟩ := Option.map_eq_some_iff.1 hinfo
  simp only [Prod.mk.injEq] at hzz
  obtain ⟨hz0, hz1, hz2⟩ := hzz
  have hlen : xs.length + 1 ≤ 140737488355328 := Nat.le_trans (Nat.le_mul_of_pos_right _ hb0) hl
  have HA := HO.alloc (.cells #[y] e)
  have HBA := HB.alloc hbase (.cells #[y] e)
  obtain ⟨g, cap, cur, lo, hi', rfl, hb, hh, hn, hm, hsz, htk, hf⟩ := HA
  have hgl : g < (W.alloc (.cells #[y] e)).heap.size := (Array.getElem?_eq_some_iff.1 hh).1
  have hcell : ∀ j u, xs[j]? = some u → (W.alloc (.cells #[y] e)).cell? ⟨g, 0 + j, none⟩ = some u := by
    intro j u hj
    have hjl : j < xs.length := (List.getElem?_eq_some_iff.1 hj).1
    rw [Nat.zero_add, cell_of_row _ g j cur e _ hh]
    rw [← htk, List.getElem?_take_of_lt hjl] at hj
    simpa using hj
  refine wpList_append_arg (W.alloc (.cells #[y] e)) hgd s x t ho e i0 z 1 bytes ht hi hz0 hz1 hz2 hz (by omega) g 0 xs.length cap xs hs (by simp) hcell ⟨W.heap.size, 0, none⟩ 1 1 [y] hx rfl
    (World.news_of_block (cs := #[y]) (t := e) (fr := (0, 0)) (heap_alloc_new W _)) (by simpa using h1) ?_ (by simp only [maxLen]; omega) hl ?_ ?_
  · intro hroom j hj
    have hj0 : j = 0 := by simp at hj; omega
    subst hj0
    constructor
    · rw [cell_of_row _ g _ cur e _ hh]
      have hlt : xs.length < cur.size := by omega
      simp [hlt]
    · have := hf xs.length (by omega)
      simp only [World.frozen?, hh]
      by_cases h1 : lo ≤ 0 + xs.length * 1 + 0
      · have h2 : ¬ 0 + xs.length * 1 + 0 < hi' := fun h2 => this ⟨by omega, by omega⟩
        simp only [decide_eq_false h2, Bool.and_false]
      · simp only [decide_eq_false h1, Bool.false_and]
  · intro hroom
    have hset : (W.alloc (.cells #[y] e)).setCells g (0 + xs.length * 1) [y] = (W.alloc (.cells #[y] e)).setCell ⟨g, xs.length, none⟩ y := by
      rw [Nat.zero_add, Nat.mul_one]; rfl
    rw [hset]
    refine h _ _ ⟨g, cap, cur.setIfInBounds xs.length y, lo, hi', by simp, hb, heap_setCell_fr _ g xs.length cur e _ y hh, by simpa using hroom, hm, by simpa using hsz, ?_, hf⟩ (HBA.setCell hb _) ?_
    · rw [Array.toList_setIfInBounds, List.length_append, List.length_singleton]
      have hlt : xs.length < cur.toList.length := by simp; omega
      rw [List.take_succ_eq_append_getElem (by simpa using hlt), List.take_set, htk, List.getElem_set_self, List.set_eq_of_length_le (Nat.le_refl xs.length)]
    · refine World.grownBy.trans (World.grownBy_alloc W _ _) ⟨rfl, rfl, rfl, by simp [World.setCell], fun k hk hne => Below.heap_setCell _ _ _ k (fun e1 => hne (by rw [e1]; rfl))⟩
  · intro hgrow v' w' hown hg
    have hne : (W.alloc (.cells #[y] e)).grownBy w' (Value.ownBlock (.slice (some ⟨g, 0, none⟩) xs.length cap)) := ⟨hg.os, hg.tape, hg.output, hg.size, fun k hk _ => hg.block k hk (by simp)⟩
    have hbb : base ≤ (W.alloc (.cells #[y] e)).heap.size := by simp; omega
    refine h v' w' ?_ (HBA.grown hg hbb (fun k hk => by cases hk)) (World.grownBy.trans (World.grownBy_alloc W _ _) hne)
    obtain ⟨g2, cap2, cur2, lo2, hi2, e2, hb2, r⟩ := GRow.of_own hown (by omega)
    exact ⟨g2, cap2, cur2, lo2, hi2, e2, Nat.le_trans hbb hb2, r⟩
end
/-- string(v) of such a row of bytes. -/
theorem GRow.string {P : Program} {w : World} {base : Nat} {e' src dst e : TypeId} {v : Value} {xs : List Int} (hs : P.underlying src = some (.slice e)) (he : P.underlying e = some (.int .u8)) (hd : P.underlying dst = some .string)
    (h : GRow w base e' v (xs.map (Value.int .u8))) : (convert src dst v).run P w = .ok (.string (strOfNums xs)) w := by
  obtain ⟨g, cap, rfl, _, _, _, hc, _⟩ := h.shape
  rw [List.length_map]
  refine run_convert_bytes_arg w src e hs he g 0 xs.length cap xs rfl (fun i hi => ?_) dst hd
  rw [Nat.zero_add]
  exact hc i _ (by simp [List.getD_eq_getElem?_getD, List.getElem?_eq_getElem hi])

end Go.Proofs.Ytdhnlcbijefinaa.GR
