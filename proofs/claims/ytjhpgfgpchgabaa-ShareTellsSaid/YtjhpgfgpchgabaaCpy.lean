/- copy() of elements of several cells; rows of plain elements told by their cells; an element put into a row. -/
import Derived.Laws.CopyOwn
import Derived.Laws.OwnMore
import Derived.Lib.AppendZerosOnto
import Derived.Lib.Overlaps
import Derived.RangeFuncRecord
import Derived.Test.YtjhpgfgpchgabaaWWords
namespace Go.Proofs.YtjhpgfgpchgabaaW.PrintWords
open Go.RowKit

theorem run_copy_sz {P : Program} (size : Nat) (w : World) (dT sT ty elem : TypeId) (g o dLen dCap : Nat) (a : Addr) (sLen sCap : Nat) (cur : Array Value) (t : TypeId) (cs : List Value)
    (hu : P.underlying dT = some (.slice elem)) (hs : (P.info? elem).map (·.size) = some size)
    (hg : w.heap[g]? = some (.cells cur t (0, 0))) (hn : cs.length = Nat.min sLen dLen * size)
    (hsrc : ∀ j v, cs[j]? = some v → w.cell? (a.add j) = some v) (hfit : o + cs.length ≤ cur.size) (h1 : ∀ v ∈ cs, v.oneCell' = true) :
    (Builtin.copy_ #[dT, sT] ty #[.slice (some ⟨g, o, none⟩) dLen dCap, .slice (some a) sLen sCap]).run P w =
      .ok (goInt (Nat.min sLen dLen)) (w.setRow g (cur.toList.take o ++ cs ++ cur.toList.drop (o + cs.length)).toArray) := by
  have hl := run_loadCells_list (P := P) w a cs hsrc
  have hst := run_storeCells_at P g o t cs 0 cur w hg (by simpa using hfit) h1
  cases hq : P.info? elem with
  | none => simp [hq] at hs
  | some i =>
    have hi : i.size = size := by simpa [hq] using hs
    simp [Builtin.copy_, run_underlying hu, Builtin.lenOf, Builtin.firstCells, sizeOf, typeInfo, hq, hi, ← hn, hl, hst]
theorem wpList_copy_sz {P : Program} (size : Nat) {w : World} {ops : Array Oper} {rest : List Oper} {o : Oper} {a : Act} {Q : Exit → Act → World → Prop} (hgd : o.guard = none) (d s : Operand) (dT sT : TypeId)
    (ho : o.op = .call { callee := .builtin .copy, args := #[d, s], argTypes := #[dT, sT] }) (elem : TypeId) (hu : P.underlying dT = some (.slice elem)) (hsz : (P.info? elem).map (·.size) = some size)
    (g off : Nat) (dLen dCap : Nat) (ad : Addr) (sLen sCap : Nat) (hd : a.eval d = .slice (some ⟨g, off, none⟩) dLen dCap) (hs : a.eval s = .slice (some ad) sLen sCap)
    (cur : List Value) (t : TypeId) (hg : w.heap[g]? = some (.cells cur.toArray t (0, 0))) (N : Nat) (hN : N = Nat.min sLen dLen) (cs : List Value) (hn : cs.length = N * size)
    (hsrc : ∀ j v, cs[j]? = some v → w.cell? (ad.add j) = some v)
    (hfit : off + cs.length ≤ cur.length) (h1 : ∀ v ∈ cs, v.oneCell' = true) (B : Nat) (w0 : World) (hb : Below B w0 w) (hBg : B ≤ g)
    (h : ∀ w', Hid (w'.heap[g]? = some (.cells (splice cur off cs).toArray t (0, 0))) → (∀ k, k ≠ g → w'.heap[k]? = w.heap[k]?) → Below B w0 w' → wpList P ops Q rest (a.put o.dst (.int .i64 (N : Int))) w') :
    wpList P ops Q (o :: rest) a w := by
  refine wpList_plain hgd fun K hK => ?_
  have hrun := run_copy_sz (P := P) size w dT sT o.type elem g off dLen dCap ad sLen sCap cur.toArray t cs hu hsz hg (by rw [hn, hN]) hsrc (by simpa using hfit) h1
  rw [← hN] at hrun
  unfold Oper.wp execOp
  simp only [ho, resolve, invoke, builtin, Sem.run_bind, Sem.run_pure, Result.andThen_ok, List.map_toArray, List.map_cons, List.map_nil, hd, hs, hrun]
  exact hK _ _ (h _ (show _ = _ by simpa [splice] using setRow_heap w g _ _ t _ hg) (fun k hk => setRow_other w g k _ hk) (below_setRow hb hBg _))
theorem step_copy_sz {P : Program} (size : Nat) {ops : Array Oper} {o : Oper} {a : Act} {w : World} {K : Act → World → Prop} {Q : Exit → Act → World → Prop} {E : Prop} (hgd : o.guard = none) (d s : Operand) (dT sT : TypeId)
    (ho : o.op = .call { callee := .builtin .copy, args := #[d, s], argTypes := #[dT, sT] }) (elem : TypeId) (hu : P.underlying dT = some (.slice elem)) (hsz : (P.info? elem).map (·.size) = some size)
    (g off : Nat) (dLen dCap : Nat) (ad : Addr) (sLen sCap : Nat) (hd : a.eval d = .slice (some ⟨g, off, none⟩) dLen dCap) (hs : a.eval s = .slice (some ad) sLen sCap)
    (cur : List Value) (t : TypeId) (hg : w.heap[g]? = some (.cells cur.toArray t (0, 0))) (N : Nat) (hN : N = Nat.min sLen dLen) (cs : List Value) (hn : cs.length = N * size)
    (hsrc : ∀ j v, cs[j]? = some v → w.cell? (ad.add j) = some v)
    (hfit : off + cs.length ≤ cur.length) (h1 : ∀ v ∈ cs, v.oneCell' = true) (B : Nat) (w0 : World) (hb : Below B w0 w) (hBg : B ≤ g)
    (h : ∀ w', Hid (w'.heap[g]? = some (.cells (splice cur off cs).toArray t (0, 0))) → (∀ k, k ≠ g → w'.heap[k]? = w.heap[k]?) → Below B w0 w' → K (a.put o.dst (.int .i64 (N : Int))) w') :
    if Region.wanted o (yielded ops a.tmps) = true then Oper.wp P o a w K Q else E := by
  rw [if_pos (by simp [Region.wanted, hgd])]
  have hrun := run_copy_sz (P := P) size w dT sT o.type elem g off dLen dCap ad sLen sCap cur.toArray t cs hu hsz hg (by rw [hn, hN]) hsrc (by simpa using hfit) h1
  rw [← hN] at hrun
  unfold Oper.wp execOp
  simp only [ho, resolve, invoke, builtin, Sem.run_bind, Sem.run_pure, Result.andThen_ok, List.map_toArray, List.map_cons, List.map_nil, hd, hs, hrun]
  exact (h _ (show _ = _ by simpa [splice] using setRow_heap w g _ _ t _ hg) (fun k hk => setRow_other w g k _ hk) (below_setRow hb hBg _))

/-- append(s, make(S, k)...) without room: a new row, what stood in s ahead. -/
theorem wpList_append_zeros_new {P : Program} {w : World} {ops : Array Oper} {rest : List Oper} {o : Oper} {a : Act} {Q : Exit → Act → World → Prop} (hgd : o.guard = none) (s x : Operand) (t tn e : TypeId)
    (ho : o.op = .call { callee := .builtin .append, args := #[s, x], argTypes := #[t, tn] }) {kn : IntKind} (z : Value) (sz bytes : Nat) (ht : P.underlying t = some (.slice e)) (htn : P.underlying tn = some (.int kn))
    (hinfo : (P.info? e).map (fun i => (i.zero, i.size, i.bytes)) = some (some z, sz, bytes)) (hzc : z.cells.size = sz) (hs0 : 0 < sz) (hb0 : 0 < bytes)
    (b : Addr) (n c k m : Nat) (hs : a.eval s = .slice (some b) n c) (hx : a.eval x = .int .i64 (k : Int)) (h0 : 0 < k) (hm : n + k = m) (hg : c < m)
    (olds : List Value) (hol : olds.length = n * sz) (hol2 : ∀ j v, olds[j]? = some v → w.cell? (b.add j) = some v) (hbig : m * bytes ≤ 140737488355328)
    (B : Nat) (w0 : World) (hb : Below B w0 w) (hB : B ≤ w.heap.size)
    (h : ∀ w' cap ROW, Hid (w'.heap[w.heap.size]? = some (.cells (ROW : List Value).toArray e (0, 0))) → w'.heap.size = w.heap.size + 1 → (∀ j, j < w.heap.size → w'.heap[j]? = w.heap[j]?) → Below B w0 w' → m ≤ cap → cap ≤ maxLen → ROW.length = cap * sz → ROW.take (n * sz) = olds → wpList P ops Q rest (a.put o.dst (.slice (some ⟨w.heap.size, 0, none⟩) m cap)) w') :
    wpList P ops Q (o :: rest) a w := by
  obtain ⟨i0, hi, hzz⟩ := Option.map_eq_some_iff.1 hinfo
  simp only [Prod.mk.injEq] at hzz
  obtain ⟨hz0, hz1, hz2⟩ := hzz
  have hm0 : m ≤ 140737488355328 := Nat.le_trans (Nat.le_mul_of_pos_right _ hb0) hbig
  have hold : (Builtin.firstCells i0.size n (.slice (some b) n c)).run P w.drew = .ok olds.toArray w.drew := by
    rw [hz1]
    exact run_firstCells_some w.drew sz n b n c olds hol hol2
  have hrz := Lib.run_append_grow_zeros w t tn o.type e i0 z .i64 kn ht htn hi hz0 (some b) n c olds hold k h0 (by rw [hz1]; exact hs0) (by omega) (by omega) (by
    rw [hz2]
    have : k * bytes ≤ m * bytes := Nat.mul_le_mul_right _ (by omega)
    omega) (by rw [hz2, hm]; exact growslice_fits hg hbig)
  rw [hm] at hrz
  have hge := grownCap_ge w m c e
  have hmax := grownCap_le_maxLen w m c e (by unfold maxLen; omega)
  refine Lib.wpList_append_run w hgd s x t tn ho _ _ hs hx _ _ hrz ?_
  refine h _ _ (olds ++ ((Builtin.zeroCells z.cells k).toList ++ (Builtin.zeroCells z.cells (grownCap w m c e - m)).toList)) ?_ (by simp [World.alloc]) ?_ ?_ hge hmax ?_ ?_
  · show _ = _
    have := World.alloc_heap_new w.drew (.cells (olds.toArray ++ Builtin.zeroCells z.cells k ++ Builtin.zeroCells z.cells (grownCap w m c e - m)) e)
    rw [show w.drew.heap.size = w.heap.size from rfl] at this
    rw [this]
    congr 2
    apply Array.ext'
    simp
  · intro j hj
    exact Below.heap_alloc w.drew _ j hj
  · exact hb.drew.alloc hB _
  · have e1 : (Builtin.zeroCells z.cells k).size = k * sz := by rw [← hzc]; simp [Builtin.zeroCells]
    have e2 : (Builtin.zeroCells z.cells (grownCap w m c e - m)).size = (grownCap w m c e - m) * sz := by rw [← hzc]; simp [Builtin.zeroCells]
    have e3 : (olds ++ ((Builtin.zeroCells z.cells k).toList ++ (Builtin.zeroCells z.cells (grownCap w m c e - m)).toList)).length = n * sz + (k * sz + (grownCap w m c e - m) * sz) := by rw [List.length_append, List.length_append, hol]; simp only [Array.length_toList]; rw [e1, e2]
    rw [e3, ← Nat.add_mul, ← Nat.add_mul]
    congr 1
    omega
  · rw [← hol, List.take_left]

theorem own_src {w : World} {g : Nat} {cur : List Value} {e : TypeId} (hg : w.heap[g]? = some (.cells cur.toArray e (0, 0))) (off m : Nat) (cs : List Value) (h : (cur.drop off).take m = cs) : ∀ j v, cs[j]? = some v → w.cell? ((⟨g, off, none⟩ : Addr).add j) = some v := by
  subst h
  intro j v hj
  rw [Addr.add_lit]
  rw [List.getElem?_take] at hj
  split at hj
  · rw [List.getElem?_drop] at hj
    simp [World.cell?, hg, hj]
  · cases hj
theorem own_frozen {w : World} {g : Nat} {cur : Array Value} {e : TypeId} (hg : w.heap[g]? = some (.cells cur e (0, 0))) (j : Nat) : w.frozen? ⟨g, j, none⟩ = false := by
  simp [World.frozen?, hg]
theorem own_shape {w : World} {g : Nat} {cur : Array Value} {e : TypeId} {fr : Nat × Nat} (hg : w.heap[g]? = some (.cells cur e fr)) : w.shape? g = some (e, cur.size) := by
  simp [World.shape?, hg]
/-- The cells of a row of plain elements. -/
def rowE {α : Type} (enc : α → List Value) (l : List α) : List Value := (l.map enc).flatten
section
variable {α : Type} {enc : α → List Value} {sz : Nat}
theorem rowE_len (h : ∀ x, (enc x).length = sz) (l : List α) : (rowE enc l).length = l.length * sz := by
  unfold rowE
  induction l with
  | nil => simp
  | cons x l ih => simp only [List.map_cons, List.flatten_cons, List.length_append, List.length_cons, ih, h, Nat.add_mul, Nat.one_mul]; omega
theorem rowE_append (a b : List α) : rowE enc (a ++ b) = rowE enc a ++ rowE enc b := by unfold rowE; simp
theorem rowE_cons (x : α) (b : List α) : rowE enc (x :: b) = enc x ++ rowE enc b := by unfold rowE; simp
theorem rowE_take (h : ∀ x, (enc x).length = sz) (l : List α) (i : Nat) (hi : i ≤ l.length) : (rowE enc l).take (i * sz) = rowE enc (l.take i) := by
  have e : rowE enc l = rowE enc (l.take i) ++ rowE enc (l.drop i) := by rw [← rowE_append, List.take_append_drop]
  have hl : (rowE enc (l.take i)).length = i * sz := by rw [rowE_len h, List.length_take, Nat.min_eq_left hi]
  rw [e, ← hl, List.take_left]
theorem rowE_drop (h : ∀ x, (enc x).length = sz) (l : List α) (i : Nat) (hi : i ≤ l.length) : (rowE enc l).drop (i * sz) = rowE enc (l.drop i) := by
  have e : rowE enc l = rowE enc (l.take i) ++ rowE enc (l.drop i) := by rw [← rowE_append, List.take_append_drop]
  have hl : (rowE enc (l.take i)).length = i * sz := by rw [rowE_len h, List.length_take, Nat.min_eq_left hi]
  rw [e, ← hl, List.drop_left]
theorem rowE_one (h1 : ∀ x, ∀ v ∈ enc x, v.oneCell' = true) (l : List α) : ∀ v ∈ rowE enc l, v.oneCell' = true := by
  intro v hv
  obtain ⟨c, hc, hv⟩ := List.mem_flatten.1 hv
  obtain ⟨x, _, rfl⟩ := List.mem_map.1 hc
  exact h1 x v hv
theorem rowE_get (h : ∀ x, (enc x).length = sz) (l : List α) (j : Nat) (p : α) (hp : l[j]? = some p) : ((rowE enc l).drop (j * sz)).take sz = enc p := by
  obtain ⟨hj, rfl⟩ := List.getElem?_eq_some_iff.1 hp
  rw [rowE_drop h l j (by omega), List.drop_eq_getElem_cons hj, rowE_cons]
  rw [List.take_append_of_le_length (by rw [h]; exact Nat.le_refl _), List.take_of_length_le (by rw [h]; exact Nat.le_refl _)]
theorem reps_rowE (h : ∀ x, (enc x).length = sz) : ∀ (l : List α) (cs : List Value), Reps (fun x c => c = enc x) sz l cs → cs = rowE enc l
  | [], cs, hr => by
    have := hr.1
    simp at this
    subst this
    rfl
  | x :: l, cs, hr => by
    have hl : cs.length = l.length * sz + sz := by rw [hr.1, List.length_cons, Nat.add_mul, Nat.one_mul]
    have h0 := hr.2 0 x rfl
    simp only [Nat.zero_mul, List.drop_zero] at h0
    have ht := reps_rowE h l (cs.drop sz) ⟨by rw [List.length_drop]; omega, fun j p hp => by
      have := hr.2 (j + 1) p hp
      simp only
      rw [List.drop_drop, ← this, Nat.add_mul, Nat.one_mul, Nat.add_comm (j * sz)]⟩
    rw [rowE_cons, ← h0, ← ht, List.take_append_drop]
/-- The cells of a row of its own. -/
theorem R_cells {d : Kd α} {e : Nat} {w : World} {base : Nat} {ok : Nat → Prop} {v : Value} {xs : List α} (hO : ∀ {w base ok x cs}, d.M w base ok x cs → cs = enc x) (hl : ∀ x, (enc x).length = d.sz) (h : d.R e w base ok v xs) :
    w.ownsRow base e d.sz v xs.length (rowE enc xs) := by
  obtain ⟨_, inner, ho, hr⟩ := h
  have : inner = rowE enc xs := reps_rowE hl xs inner ⟨hr.1, fun j p hp => hO (hr.2 j p hp)⟩
  rw [← this]
  exact ho
theorem cells_R {d : Kd α} {e : Nat} {w : World} {base : Nat} {ok : Nat → Prop} {v : Value} {xs : List α} (hM : ∀ w base ok x, d.M w base ok x (enc x)) (hl : ∀ x, (enc x).length = d.sz) (hok : ∀ k, v.ownBlock = some k → ok k) (h : w.ownsRow base e d.sz v xs.length (rowE enc xs)) :
    d.R e w base ok v xs :=
  ⟨hok, rowE enc xs, h, rowE_len hl xs, fun j p hp => by
    show d.M _ _ _ p _
    rw [rowE_get hl xs j p hp]
    exact hM _ _ _ _⟩
/-- A row with an element put in at i: what stood ahead, the element, what stood behind. -/
theorem ins_cells (h : ∀ x, (enc x).length = sz) (l : List α) (x : α) (i : Nat) (hi : i ≤ l.length) (cur : List Value) (hc : cur.take (i * sz) = rowE enc (l.take i)) (hlen : (l.length + 1) * sz ≤ cur.length) :
    (splice (splice cur ((i + 1) * sz) (rowE enc (l.drop i))) (i * sz) (enc x)).take ((l.length + 1) * sz) = rowE enc (l.take i ++ x :: l.drop i) := by
  have hm : (i + 1) * sz = i * sz + sz := by rw [Nat.add_mul, Nat.one_mul]
  have hd : (rowE enc (l.drop i)).length = (l.length - i) * sz := by rw [rowE_len h, List.length_drop]
  have hs : (l.length + 1) * sz = i * sz + (sz + (l.length - i) * sz) := by
    have : l.length + 1 = i + 1 + (l.length - i) := by omega
    rw [this, Nat.add_mul, hm]
    omega
  have ht : (cur.take ((i + 1) * sz)).length = i * sz + sz := by rw [List.length_take, hm]; omega
  have e1 : (splice cur ((i + 1) * sz) (rowE enc (l.drop i))).take (i * sz) = rowE enc (l.take i) := by
    unfold splice
    rw [List.take_append_of_le_length (by rw [ht]; omega), List.take_take, Nat.min_eq_left (by omega)]
    exact hc
  have e2 : (splice cur ((i + 1) * sz) (rowE enc (l.drop i))).drop (i * sz + (enc x).length) = rowE enc (l.drop i) ++ cur.drop ((i + 1) * sz + (rowE enc (l.drop i)).length) := by
    unfold splice
    rw [h, List.drop_append_of_le_length (by rw [ht]; exact Nat.le_refl _), List.drop_of_length_le (by rw [ht]; exact Nat.le_refl _), List.nil_append]
  have hti : (rowE enc (l.take i)).length = i * sz := by rw [rowE_len h, List.length_take, Nat.min_eq_left hi]
  rw [splice, e1, e2, rowE_append, rowE_cons, hs, ← List.append_assoc, ← List.append_assoc]
  rw [List.take_append_of_le_length (by simp only [List.length_append, hti, h, hd]; omega)]
  rw [List.take_of_length_le (by simp only [List.length_append, hti, h, hd]; omega), List.append_assoc]
/-- .. the element first, then what stood behind. -/
theorem ins_cells2 (h : ∀ x, (enc x).length = sz) (l : List α) (x : α) (i : Nat) (hi : i ≤ l.length) (cur : List Value) (hc : cur.take (i * sz) = rowE enc (l.take i)) :
    (splice (splice cur (i * sz) (enc x)) ((i + 1) * sz) (rowE enc (l.drop i))).take ((l.length + 1) * sz) = rowE enc (l.take i ++ x :: l.drop i) := by
  have hm : (i + 1) * sz = i * sz + sz := by rw [Nat.add_mul, Nat.one_mul]
  have hd : (rowE enc (l.drop i)).length = (l.length - i) * sz := by rw [rowE_len h, List.length_drop]
  have hs : (l.length + 1) * sz = i * sz + (sz + (l.length - i) * sz) := by
    have : l.length + 1 = i + 1 + (l.length - i) := by omega
    rw [this, Nat.add_mul, hm]
    omega
  have hti : (rowE enc (l.take i)).length = i * sz := by rw [rowE_len h, List.length_take, Nat.min_eq_left hi]
  have e1 : (splice cur (i * sz) (enc x)).take ((i + 1) * sz) = rowE enc (l.take i) ++ enc x := by
    unfold splice
    rw [hc, ← List.append_assoc, List.take_append_of_le_length (by rw [List.length_append, hti, h]; omega), List.take_of_length_le (by rw [List.length_append, hti, h]; omega)]
  rw [splice, e1, rowE_append, rowE_cons, hs]
  rw [← List.append_assoc, List.take_append_of_le_length (by simp only [List.length_append, hti, h, hd]; omega)]
  rw [List.take_of_length_le (by simp only [List.length_append, hti, h, hd]; omega), List.append_assoc]
theorem ins_len (h : ∀ x, (enc x).length = sz) (l : List α) (x : α) (i : Nat) (hi : i ≤ l.length) (cur : List Value) (hlen : (l.length + 1) * sz ≤ cur.length) :
    (splice (splice cur ((i + 1) * sz) (rowE enc (l.drop i))) (i * sz) (enc x)).length = cur.length ∧ (splice (splice cur (i * sz) (enc x)) ((i + 1) * sz) (rowE enc (l.drop i))).length = cur.length := by
  have hm : (i + 1) * sz = i * sz + sz := by rw [Nat.add_mul, Nat.one_mul]
  have hd : (rowE enc (l.drop i)).length = (l.length - i) * sz := by rw [rowE_len h, List.length_drop]
  have hs : (l.length + 1) * sz = i * sz + (sz + (l.length - i) * sz) := by
    have : l.length + 1 = i + 1 + (l.length - i) := by omega
    rw [this, Nat.add_mul, hm]
    omega
  have a1 := length_splice cur ((i + 1) * sz) (rowE enc (l.drop i)) (by rw [hd]; omega)
  have a2 := length_splice cur (i * sz) (enc x) (by rw [h]; omega)
  exact ⟨by rw [length_splice _ _ _ (by rw [a1, h]; omega), a1], by rw [length_splice _ _ _ (by rw [a2, hd]; omega), a2]⟩
end
end Go.Proofs.YtjhpgfgpchgabaaW.PrintWords
