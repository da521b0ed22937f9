-- Written by this session's program gprint.py: functions of the program as plain functions, and that the machine does what they say. Not trusted: Lean checks it.
import Derived.Test.YtifebcdkckjphaaPx0
import Derived.Test.YtifebcdkckjphaaPx2
import Derived.Test.YtifebcdkckjphaaPx3
namespace Go.Proofs.Ytifebcdkckjphaa.P
open Go.RowKit Go.Proofs.YtifebcdkckjphaaW.PrintWords Go.Proofs.YtifebcdkckjphaaW.PrintLast Go.Proofs.YtifebcdkckjphaaW.PrintMore
attribute [local go_sem] max2_int min2_int max_two min_two max_three min_three max_four min_four   -- for this text's walks alone
set_option linter.unusedVariables false
set_option linter.unusedSimpArgs false

/-! ### api_Node_37: function 37 -/
theorem run_copy_node {P : Program} (w : World) (dT sT ty elem : TypeId) (g o dLen dCap : Nat) (a : Addr) (sLen sCap : Nat) (cur : Array Value) (t : TypeId) (cs : List Value)
    (hu : P.underlying dT = some (.slice elem)) (hs : (P.info? elem).map (·.size) = some 3)
    (hg : w.heap[g]? = some (.cells cur t (0, 0))) (hn : cs.length = Nat.min sLen dLen * 3)
    (hsrc : ∀ j v, cs[j]? = some v → w.cell? (a.add j) = some v) (hfit : o + cs.length ≤ cur.size) (h1 : ∀ v ∈ cs, v.oneCell' = true) :
    (Builtin.copy_ #[dT, sT] ty #[.slice (some ⟨g, o, none⟩) dLen dCap, .slice (some a) sLen sCap]).run P w =
      .ok (goInt (Nat.min sLen dLen)) (w.setRow g (cur.toList.take o ++ cs ++ cur.toList.drop (o + cs.length)).toArray) := by
  have hl := run_loadCells_list (P := P) w a cs hsrc
  have hst := run_storeCells_at P g o t cs 0 cur w hg (by simpa using hfit) h1
  cases hq : P.info? elem with
  | none => simp [hq] at hs
  | some i =>
    have hi : i.size = 3 := by simpa [hq] using hs
    simp [Builtin.copy_, run_underlying hu, Builtin.lenOf, Builtin.firstCells, sizeOf, typeInfo, hq, hi, ← hn, hl, hst]
theorem wpList_copy_node {P : Program} {w : World} {ops : Array Oper} {rest : List Oper} {o : Oper} {a : Act} {Q : Exit → Act → World → Prop} (hgd : o.guard = none) (d s : Operand) (dT sT : TypeId)
    (ho : o.op = .call { callee := .builtin .copy, args := #[d, s], argTypes := #[dT, sT] }) (elem : TypeId) (hu : P.underlying dT = some (.slice elem)) (hsz : (P.info? elem).map (·.size) = some 3)
    (g off : Nat) (dLen dCap : Nat) (ad : Addr) (sLen sCap : Nat) (hd : a.eval d = .slice (some ⟨g, off, none⟩) dLen dCap) (hs : a.eval s = .slice (some ad) sLen sCap)
    (cur : List Value) (t : TypeId) (hg : w.heap[g]? = some (.cells cur.toArray t (0, 0))) (N : Nat) (hN : N = Nat.min sLen dLen) (cs : List Value) (hn : cs.length = N * 3)
    (hsrc : ∀ j v, cs[j]? = some v → w.cell? (ad.add j) = some v)
    (hfit : off + cs.length ≤ cur.length) (h1 : ∀ v ∈ cs, v.oneCell' = true) (B : Nat) (w0 : World) (hb : Below B w0 w) (hBg : B ≤ g)
    (h : ∀ w', Hid (w'.heap[g]? = some (.cells (splice cur off cs).toArray t (0, 0))) → Below B w0 w' → wpList P ops Q rest (a.put o.dst (.int .i64 (N : Int))) w') :
    wpList P ops Q (o :: rest) a w := by
  refine wpList_plain hgd fun K hK => ?_
  have hrun := run_copy_node (P := P) w dT sT o.type elem g off dLen dCap ad sLen sCap cur.toArray t cs hu hsz hg (by rw [hn, hN]) hsrc (by simpa using hfit) h1
  rw [← hN] at hrun
  unfold Oper.wp execOp
  simp only [ho, resolve, invoke, builtin, Sem.run_bind, Sem.run_pure, Result.andThen_ok, List.map_toArray, List.map_cons, List.map_nil, hd, hs, hrun]
  exact hK _ _ (h _ (show _ = _ by simpa [splice] using setRow_heap w g _ _ t _ hg) (below_setRow hb hBg _))
theorem step_copy_node {P : Program} {ops : Array Oper} {o : Oper} {a : Act} {w : World} {K : Act → World → Prop} {Q : Exit → Act → World → Prop} {E : Prop} (hgd : o.guard = none) (d s : Operand) (dT sT : TypeId)
    (ho : o.op = .call { callee := .builtin .copy, args := #[d, s], argTypes := #[dT, sT] }) (elem : TypeId) (hu : P.underlying dT = some (.slice elem)) (hsz : (P.info? elem).map (·.size) = some 3)
    (g off : Nat) (dLen dCap : Nat) (ad : Addr) (sLen sCap : Nat) (hd : a.eval d = .slice (some ⟨g, off, none⟩) dLen dCap) (hs : a.eval s = .slice (some ad) sLen sCap)
    (cur : List Value) (t : TypeId) (hg : w.heap[g]? = some (.cells cur.toArray t (0, 0))) (N : Nat) (hN : N = Nat.min sLen dLen) (cs : List Value) (hn : cs.length = N * 3)
    (hsrc : ∀ j v, cs[j]? = some v → w.cell? (ad.add j) = some v)
    (hfit : off + cs.length ≤ cur.length) (h1 : ∀ v ∈ cs, v.oneCell' = true) (B : Nat) (w0 : World) (hb : Below B w0 w) (hBg : B ≤ g)
    (h : ∀ w', Hid (w'.heap[g]? = some (.cells (splice cur off cs).toArray t (0, 0))) → Below B w0 w' → K (a.put o.dst (.int .i64 (N : Int))) w') :
    if Region.wanted o (yielded ops a.tmps) = true then Oper.wp P o a w K Q else E := by
  rw [if_pos (by simp [Region.wanted, hgd])]
  have hrun := run_copy_node (P := P) w dT sT o.type elem g off dLen dCap ad sLen sCap cur.toArray t cs hu hsz hg (by rw [hn, hN]) hsrc (by simpa using hfit) h1
  rw [← hN] at hrun
  unfold Oper.wp execOp
  simp only [ho, resolve, invoke, builtin, Sem.run_bind, Sem.run_pure, Result.andThen_ok, List.map_toArray, List.map_cons, List.map_nil, hd, hs, hrun]
  exact (h _ (show _ = _ by simpa [splice] using setRow_heap w g _ _ t _ hg) (below_setRow hb hBg _))
theorem nodeC_one (x : S35) : ∀ v ∈ nodeC x, v.oneCell' = true := by
  intro v hv
  simp only [nodeC, List.mem_cons, List.not_mem_nil, or_false] at hv
  rcases hv with rfl | rfl | rfl <;> rfl
theorem mul_one_n (n : Nat) (h : n < 65) : bits_Mul.f 1 (n : Int) = some (0, (n : Int)) := (show ∀ n : Nat, n < 65 → bits_Mul.f 1 (n : Int) = some (0, (n : Int)) by decide) n h
/-- The first cells of a block are a node, again and again. -/
def NodeRep (x : S35) (n m : Nat) (L : List Value) : Prop := L.length = n * 3 ∧ ∀ i, i < m * 3 → L[i]? = (nodeC x)[i % 3]?
theorem NodeRep.first {x : S35} {n : Nat} {L : List Value} (h : L.length = n * 3) (hn : 1 ≤ n) : NodeRep x n 1 (splice L 0 (nodeC x)) := by
  refine ⟨by rw [length_splice _ _ _ (by rw [h]; show 0 + 3 ≤ _; omega), h], fun i hi => ?_⟩
  unfold splice
  rw [List.take_zero, List.nil_append, List.getElem?_append_left (by show i < 3; omega), Nat.mod_eq_of_lt (by omega)]
theorem NodeRep.more {x : S35} {n m c : Nat} {L : List Value} (h : NodeRep x n m L) (hc : c ≤ m) (hn : m + c ≤ n) : NodeRep x n (m + c) (splice L (m * 3) (L.take (c * 3))) := by
  have hl : (L.take (c * 3)).length = c * 3 := by rw [List.length_take, h.1]; omega
  refine ⟨by rw [length_splice _ _ _ (by rw [hl, h.1]; omega), h.1], fun i hi => ?_⟩
  unfold splice
  have ht : (L.take (m * 3)).length = m * 3 := by rw [List.length_take, h.1]; omega
  by_cases hm : i < m * 3
  · rw [List.getElem?_append_left (by rw [ht]; exact hm), List.getElem?_take, if_pos hm]
    exact h.2 i hm
  · rw [List.getElem?_append_right (by rw [ht]; omega), ht, List.getElem?_append_left (by rw [hl]; omega), List.getElem?_take, if_pos (by omega), h.2 _ (by omega)]
    congr 1
    omega
theorem NodeRep.one {x : S35} {n m : Nat} {L : List Value} (h : NodeRep x n m L) (i : Nat) (hi : i < m * 3) {v : Value} (hv : L[i]? = some v) : v.oneCell' = true := by
  rw [h.2 i hi] at hv
  have : i % 3 < 3 := Nat.mod_lt _ (by omega)
  generalize i % 3 = k at hv this
  match k, this with
  | 0, _ => cases hv; rfl
  | 1, _ => cases hv; rfl
  | 2, _ => cases hv; rfl
theorem NodeRep.row {x : S35} {n : Nat} {L : List Value} (h : NodeRep x n n L) {W : World} {base g : Nat} (hg : W.heap[g]? = some (.cells L.toArray 35 (0, 0))) (hb : base ≤ g) (hn : n ≤ 64) :
    Kd.R k35 35 W base (fun _ => True) (.slice (some ⟨g, 0, none⟩) n n) (List.replicate n x) := by
  have hr : W.ownsRow base 35 3 (.slice (some ⟨g, 0, none⟩) n n) n L := ⟨h.1, .inr ⟨g, n, _, rfl, hb, hg, Nat.le_refl _, Nat.le_trans hn (by decide), by simp [h.1], by simp; exact List.take_of_length_le (by rw [h.1]; exact Nat.le_refl _)⟩⟩
  refine ⟨fun _ _ => trivial, L, by rw [List.length_replicate]; exact hr, by rw [List.length_replicate]; exact h.1, fun q p hq => ?_⟩
  obtain ⟨hq1, rfl⟩ := List.getElem?_eq_some_iff.1 hq
  rw [List.length_replicate] at hq1
  rw [List.getElem_replicate]
  have e : (L.drop (q * 3)).take 3 = nodeC x := by
    apply List.ext_getElem?
    intro k
    rw [List.getElem?_take, List.getElem?_drop]
    by_cases hk : k < 3
    · rw [if_pos hk, h.2 _ (by omega)]
      congr 1
      omega
    · rw [if_neg hk, List.getElem?_eq_none (by show 3 ≤ k; omega)]
  show k35.M _ _ _ x ((L.drop (q * 3)).take 3)
  rw [e]
  exact k35_mkM _ _ _ _
set_option maxHeartbeats 4000000 in
theorem nodes_Repeat_own (x : S35) (n : Nat) (ad : Addr) (c : Nat) (w : World) (hn1 : 1 ≤ n) (hn2 : n ≤ 64) (hx : ∀ j v, (nodeC x)[j]? = some v → w.cell? (ad.add j) = some v) :
    Calls Try.prog 37 #[.slice (some ad) 1 c, .int .i64 (n : Int)] w fun e w' => ∃ v, e = .returned v ∧ Kd.R k35 35 w' w.heap.size (fun _ => True) v (List.replicate n x) ∧ Below w.heap.size w w' := by
  have hM := Aside0.mk (mul_one_n n (by omega))
  have g0 : ¬ (n : Int) < 0 := by omega
  have g1 : ¬ (9223372036854775807 : Int) < (n : Int) := by omega
  obtain ⟨i0, hi, hz0, hz1, hz2⟩ := info_parts (P := Try.prog) (e := 35) (z := .agg #[.bool false, .bool false, .int .i64 0]) (size := 3) (bytes := 16) (by kernel_rfl)
  have hmk : ∃ Z : List Value, Z.length = n * 3 ∧ ∀ W : World, (Instr.makeSlice 22 (.int .i64 (n : Int)) (.int .i64 (n : Int))).run Try.prog W = .ok (.slice (some ⟨W.heap.size, 0, none⟩) n n) (W.alloc (.cells Z.toArray 35)) := by
    refine ⟨(madeCells (Value.agg #[.bool false, .bool false, .int .i64 0]).cells (n * 3)).toList, by rw [Array.length_toList]; exact size_madeCells _ _, fun W => ?_⟩
    have := run_makeSlice (P := Try.prog) (w := W) 22 35 i0 _ Try.underlying22 hi hz0 .i64 .i64 (n : Int) (n : Int) (by omega) (Int.le_refl _) (by rw [hz1]; omega) (by rw [hz2]; omega) (by omega)
    rw [hz1] at this
    simpa using this
  obtain ⟨Z, hZl, hmk⟩ := hmk
  have hsrc := Aside0.mk (show ∀ W, Below w.heap.size w W → ∀ j v, (nodeC x)[j]? = some v → W.cell? (ad.add j) = some v from fun W hb j v hj => (hb.cell (World.block_lt_of_cell? _ _ (hx j v hj))).trans (hx j v hj))
  clear hx hi hz0 hz1 hz2
  go_enter Try.func37, Try.ntmps37
  go_wp2_with (first
    | (go_at_call 45; refine (bits_Mul.calls _ _ _ _ _ hM.out).mono ?_; rintro e w1 ⟨rfl, hd⟩; have hb1 := Aside0.mk (show Below w.heap.size w w1 by obtain ⟨m, rfl⟩ := hd; exact ⟨rfl, rfl, rfl, Nat.le_refl _, fun _ _ => rfl⟩); obtain ⟨G, hG⟩ : ∃ G, w1.heap.size = G := ⟨_, rfl⟩; have hnew := Aside0.mk (hG ▸ World.alloc_heap_new w1 (.cells Z.toArray 35)); clear hd)
    | ((with_reducible refine gate_builtin (b := .copy) (xs := #[.tmp 31, .tmp 32]) rfl ?_); go_loud (refine wpList_copy_node rfl (.tmp 31) (.tmp 32) 22 22 rfl 35 Try.underlying22 (by kernel_rfl) G 0 n n ad 1 c rfl rfl Z 35 hnew.out 1 (Nat.min_eq_left hn1).symm (nodeC x) rfl (hsrc.out _ (hb1.out.alloc hb1.out.size _)) (by rw [hZl]; show 0 + 3 ≤ _; omega) (nodeC_one x) w.heap.size w (hb1.out.alloc hb1.out.size _) (by rw [← hG]; exact hb1.out.size) ?_); intro w2 hg2 hb2; replace hb2 := Aside0.mk hb2; have hR0 := Aside0.mk (NodeRep.first (x := x) hZl hn1); replace hg2 := Aside0.mk (show w2.heap[G]? = _ from hg2); have hGw := Aside0.mk (show w.heap.size ≤ G by rw [← hG]; exact hb1.out.size)))
  go_loopg [8] (n - 1) (fun kq v8 W => ∃ (m : Nat) (L : List Value), v8 = .int .i64 m ∧ Aside0 (kq + m = n) ∧ Aside0 (1 ≤ m) ∧ Aside0 (NodeRep x n m L) ∧ Aside0 (W.heap[G]? = some (.cells L.toArray 35 (0, 0))) ∧ Aside0 (Below w.heap.size w W))
  case atStart => exact ⟨1, _, rfl, ⟨Nat.sub_add_cancel hn1⟩, ⟨Nat.le_refl _⟩, hR0, hg2, hb2⟩
  case round =>
    obtain ⟨m, L, rfl, HK, H1, HR, HG, HB⟩ := hrel
    cases gk with
    | zero =>
      have e : m = n := by have := HK.out; omega
      subst e
      go_wp2
      go_ret
      exact ⟨_, rfl, HR.out.row HG.out hGw.out hn2, HB.out⟩
    | succ k1 =>
      have hlt : m < n := by have := HK.out; omega
      have hlt' : (m : Int) < (n : Int) := by omega
      have hm1 : 1 ≤ m := H1.out
      have hmn : m ≤ n := by omega
      have hnm : (n = m) = False := eq_false (by omega)
      have hm0 : (m = 0) = False := eq_false (by omega)
      obtain ⟨q, hq⟩ : ∃ q, Nat.min m (n - m) = q := ⟨_, rfl⟩
      have hqm : q ≤ m := by rw [← hq]; exact Nat.min_le_left _ _
      have hqn : m + q ≤ n := by have := Nat.min_le_right m (n - m); rw [show min m (n - m) = q from hq] at this; omega
      have hq1 : 1 ≤ q := by rw [← hq]; exact Nat.le_min.2 ⟨hm1, by omega⟩
      have HL := Aside0.mk (HR.out.more hqm hqn)
      replace hq := Aside0.mk hq
      have hsum := Aside0.mk (show IntKind.i64.wrap ((m : Int) + (q : Int)) = ((m + q : Nat) : Int) by rw [IntWalk.i64_in _ (by omega)]; omega)
      have hG1 : wr.heap[G]? = some (.cells L.toArray 35 (0, 0)) := HG.out
      have hLq := Aside0.mk (show (L.take (q * 3)).length = q * 3 by rw [List.length_take, HR.out.1]; omega)
      have hsr := Aside0.mk (show ∀ j v, (L.take (q * 3))[j]? = some v → wr.drew.cell? ((⟨G, 0, none⟩ : Addr).add j) = some v from fun j v hj => by
        rw [List.getElem?_take] at hj
        split at hj
        · show wr.cell? _ = _
          by_cases h0 : j = 0
          · subst h0; simp [Addr.add, World.cell?, hG1, hj]
          · simp [Addr.add, World.cell?, hG1, hj, h0]
        · cases hj)
      have h1q := Aside0.mk (show ∀ v ∈ L.take (q * 3), v.oneCell' = true from fun v hv => by
        obtain ⟨j, hj⟩ := List.getElem?_of_mem hv
        rw [List.getElem?_take] at hj
        split at hj
        · exact HR.out.one j (by omega) hj
        · cases hj)
      go_wp2
      go_region_law (refine step_copy_node ?h1 (.tmp 41) (.tmp 44) 22 22 ?h2 35 ?h3 ?h4 G (m * 3) (n - m) (n - m) ⟨G, 0, none⟩ m n ?h5 ?h6 L 35 ?h7 q ?h8 (L.take (q * 3)) ?h9 ?h10 ?h11 ?h12 w.heap.size w ?h13 ?h14 ?_; (case h1 => rfl); (case h2 => rfl); (case h3 => exact Try.underlying22); (case h4 => kernel_rfl); (case h5 => go_simp; done); (case h6 => go_simp; done); (case h7 => exact hG1); (case h8 => exact hq.out.symm); (case h9 => exact hLq.out); (case h10 => exact hsr.out); (case h11 => rw [hLq.out, HR.out.1]; omega); (case h12 => exact h1q.out); (case h13 => exact HB.out.drew); (case h14 => exact hGw.out); intro w4 hg4 hb4; replace hg4 := Aside0.mk (show w4.heap[G]? = _ from hg4); replace hb4 := Aside0.mk hb4)
      rw [hsum.out]
      go_wp2
      go_roundg (k1 + 1 - q)
      case measure => omega
      case rel => exact ⟨m + q, _, by first | rfl | go_num, ⟨by have := HK.out; omega⟩, ⟨by omega⟩, HL, hg4, hb4⟩

/-! ### nodes_New: function 16 -/
def newR (n : Int) : List S35 × Int := if 1 ≤ n ∧ n ≤ 64 then (List.replicate n.toNat ⟨true, true, 0⟩, 0) else ([], 2)
def nodes_New.f (n : Int) : Option (List S35 × Int) := some (newR n)
theorem new_cells (w : World) : ∀ j v, (nodeC (⟨true, true, 0⟩ : S35))[j]? = some v → (w.alloc (.cells #[.bool true, .bool true, .int .i64 0] 35)).cell? ((⟨w.heap.size, 0, none⟩ : Addr).add j) = some v := by
  intro j v hj
  have hn := World.alloc_heap_new w (.cells #[.bool true, .bool true, .int .i64 0] 35)
  by_cases h0 : j = 0
  · subst h0
    have : ((⟨w.heap.size, 0, none⟩ : Addr).add 0) = ⟨w.heap.size, 0, none⟩ := by simp [Addr.add]
    rw [this]
    simp only [World.cell?, hn]
    simpa [nodeC] using hj
  · have : ((⟨w.heap.size, 0, none⟩ : Addr).add j) = ⟨w.heap.size, j, none⟩ := by simp [Addr.add, h0]
    rw [this]
    simp only [World.cell?, hn]
    simpa [nodeC] using hj
set_option maxHeartbeats 2000000 in
theorem nodes_New.calls (a0 : Int) (r1 : List S35) (r2 : Int) (w : World) (h : nodes_New.f a0 = some (r1, r2)) :
    Calls Try.prog 16 #[.int .i64 a0] w fun e w' => ∃ v0_ : Value, e = .returned (.tuple #[v0_, .int .i64 r2]) ∧ Kd.R k35 35 w' w.heap.size (fun _ => True) v0_ r1 ∧ Below w.heap.size w w' := by
  replace h := Option.some.inj h
  unfold newR at h
  by_cases h1 : 1 ≤ a0
  case neg =>
    rw [if_neg (fun e => h1 e.1)] at h
    obtain ⟨rfl, rfl⟩ := Prod.mk.inj h
    have h1' : a0 < 1 := by omega
    clear h
    go_enter Try.func16, Try.ntmps16
    go_wp2
    go_ret2
    exact ⟨_, rfl, Kd.R_nil _ _ _ _ _, Below.refl _ _⟩
  by_cases h2 : a0 ≤ 64
  case neg =>
    rw [if_neg (fun e => h2 e.2)] at h
    obtain ⟨rfl, rfl⟩ := Prod.mk.inj h
    have h1' : ¬ a0 < 1 := by omega
    have h2' : 64 < a0 := by omega
    clear h
    go_enter Try.func16, Try.ntmps16
    go_wp2
    go_ret2
    exact ⟨_, rfl, Kd.R_nil _ _ _ _ _, Below.refl _ _⟩
  rw [if_pos ⟨h1, h2⟩] at h
  obtain ⟨rfl, rfl⟩ := Prod.mk.inj h
  clear h
  obtain ⟨n, rfl⟩ := Int.eq_ofNat_of_zero_le (show 0 ≤ a0 by omega)
  have h1' : ¬ (n : Int) < 1 := by omega
  have h2' : ¬ 64 < (n : Int) := by omega
  have hc := Aside0.mk (new_cells w)
  rw [Int.toNat_natCast]
  go_enter Try.func16, Try.ntmps16
  go_wp2_with (go_at_call 37; (refine (nodes_Repeat_own ⟨true, true, 0⟩ n _ _ _ (by omega) (by omega) hc.out).mono ?_); rintro e w1 ⟨v, rfl, hrow, hb⟩; replace hrow := Aside0.mk (Kd.R_lower hrow (show w.heap.size ≤ _ by simp)); have hb1 := Aside0.mk (((Below.refl _ w).alloc (Nat.le_refl _) _).trans (hb.mono (show w.heap.size ≤ _ by simp))); clear hb)
  go_ret2
  exact ⟨_, rfl, hrow.out, hb1.out⟩

/-! ### nodes_Up: function 25 -/
def nodes_Up.f (l : List S35) (i : Int) : Option (List S35 × Int) := some (turnR (fun x => !x.f0) (fun x => ⟨true, x.f1, x.f2⟩) l i)
set_option maxHeartbeats 2000000 in
theorem up_1.calls (W : World) (base g n cap : Nat) (xs : List S35) (j : Nat) (hj : j < xs.length) (h : NodeRow W base g n cap xs) :
    Calls Try.prog 41 (#[.pointer (some ⟨g, j * 3, none⟩)] ++ #[]) W fun e W' => e = .returned (.bool ((fun x : S35 => !x.f0) (xs.getD j z35))) ∧ NodeRow W' base g n cap (xs.set j ((fun x : S35 => (⟨true, x.f1, x.f2⟩ : S35)) (xs.getD j z35))) ∧ Keeps (fun k => k ≠ g ∧ ¬ False) W W' ∧ (fun (_ : S35) (_ : World) => True) (xs.getD j z35) W' := by
  obtain ⟨k0, k1, k2, kf⟩ := node_cells h j hj
  have kf0 : W.frozen? ⟨g, j * 3, none⟩ = false := kf 0
  clear kf
  obtain ⟨x, hxe⟩ : ∃ x, xs.getD j z35 = x := ⟨_, rfl⟩
  have h1 : NodeRow (W.setCell ⟨g, j * 3, none⟩ (.bool true)) base g n cap (xs.set j ⟨true, x.f1, x.f2⟩) := node_put h j 0 hj (by decide) (.bool true) ⟨true, x.f1, x.f2⟩ (by rw [hxe]; rfl)
  have h2 : Keeps (fun k => k ≠ g ∧ ¬ False) W (W.setCell ⟨g, j * 3, none⟩ (.bool true)) := (Keeps.refl _ W).setCell _ (fun e => e.2.1 rfl)
  rw [hxe] at k0 k1 k2 ⊢
  replace h1 := Aside0.mk h1
  replace h2 := Aside0.mk h2
  clear h hxe hj
  go_enter Try.func41, Try.ntmps41
  go_wp2
  go_ret
  exact ⟨rfl, h1.out, h2.out, trivial⟩
set_option maxHeartbeats 4000000 in
theorem nodes_Up.calls (A0 : Option Addr) (c0 : Nat) (l0 : List S35) (a1 : Int) (r1 : List S35) (r2 : Int) (w : World) (hr0 : Kd.C k35 w A0 l0.length l0) (hc0 : l0.length ≤ c0) (h : nodes_Up.f l0 a1 = some (r1, r2)) :
    Calls Try.prog 25 #[.slice A0 l0.length c0, .int .i64 a1] w fun e w' => ∃ v0_ : Value, e = .returned (.tuple #[v0_, .int .i64 r2]) ∧ Kd.R k35 35 w' w.heap.size (fun _ => True) v0_ r1 ∧ Below w.heap.size w w' := by
  have h := Option.some.inj h
  have hturn := Aside0.mk (nodes_turn_own A0 c0 l0 a1 41 #[] (fun x => !x.f0) (fun x => ⟨true, x.f1, x.f2⟩) (fun _ => False) (fun _ _ => True) w
    hr0 hc0 (enters_of Try.func41 (by kernel_rfl) rfl) (fun W base g n cap xs j hB hg hj h => up_1.calls W base g n cap xs j hj h))
  rw [h] at hturn
  clear h hr0
  go_enter Try.func25, Try.ntmps25
  go_wp2_with (go_at_call 35; refine hturn.out.mono ?_; rintro e w1 ⟨v0, rfl, hrow, hk, hpost⟩; replace hrow := Aside0.mk hrow; replace hk := Aside0.mk hk; clear hpost)
  go_ret2
  exact ⟨_, rfl, hrow.out, hk.out.below (Nat.le_refl _) (fun k hk => ⟨hk, not_false⟩)⟩

/-! ### forebaylaw20_head: function 7 -/
def forebaylaw20_head.f : Option Bool := some true
theorem head_facts : ∃ (N L M C G : List S35) (B O Q : List Int), nodes_New.f 3 = some (N, 0) ∧ nodes_Give.f N 7 2 = some (L, B, 0) ∧ nodes_Fail.f L 0 = some (M, 7, 0) ∧ nodes_Clear.f M 7 = some (C, 0) ∧ nodes_Give.f C 8 2 = some (G, Q, 0) ∧ nodes_Up.f L 0 = some ([], 8) ∧ nodes_Fail.f L 3 = some ([], 0, 200) ∧ forebayref20_Ints.f 5 B [0, 1] = some true ∧ nodes_Free.f L = some 1 ∧ nodes_Of.f M 7 = some O ∧ forebayref20_Ints.f 5 O [1] = some true ∧ forebayref20_Ints.f 5 Q [1, 2] = some true :=
  ⟨[⟨true, true, 0⟩, ⟨true, true, 0⟩, ⟨true, true, 0⟩], [⟨true, true, 7⟩, ⟨true, true, 7⟩, ⟨true, true, 0⟩], [⟨false, true, 0⟩, ⟨true, true, 7⟩, ⟨true, true, 0⟩], [⟨false, true, 0⟩, ⟨true, true, 0⟩, ⟨true, true, 0⟩], [⟨false, true, 0⟩, ⟨true, true, 8⟩, ⟨true, true, 8⟩], [0, 1], [1], [1, 2], by kernel_rfl, by kernel_rfl, by kernel_rfl, by kernel_rfl, by kernel_rfl, by kernel_rfl, by kernel_rfl, by kernel_rfl, by kernel_rfl, by kernel_rfl, by kernel_rfl, by kernel_rfl⟩
theorem ints01 (A : Option Addr) (c : Nat) (B : List Int) (w : World) (hC : Kd.C (Kd.int .i64) w A B.length B) (hc : B.length ≤ c) (h : forebayref20_Ints.f 5 B [0, 1] = some true) :
    Calls Try.prog 9 #[.slice A B.length c, .slice (some ⟨w.heap.size, 0, none⟩) 2 2] (w.alloc (.cells #[.int .i64 0, .int .i64 1] 3)) fun e w' => e = .returned (.bool true) ∧ Below w.heap.size w w' := by
  have hl : Kd.C (Kd.int .i64) (w.alloc (.cells #[.int .i64 0, .int .i64 1] 3)) (some ⟨w.heap.size, 0, none⟩) ([0, 1] : List Int).length [0, 1] := C_lits w [0, 1] (by decide)
  exact (forebayref20_Ints.calls 5 A c B _ 2 [0, 1] true _ (Kd.C_alloc hC _) hc hl (Nat.le_refl _) h).mono (fun e w' h => ⟨h.1, ((Below.refl _ _).alloc (Nat.le_refl _) _).trans ((node_drawn h.2).mono (by simp))⟩)
theorem ints1 (A : Option Addr) (c : Nat) (B : List Int) (w : World) (hC : Kd.C (Kd.int .i64) w A B.length B) (hc : B.length ≤ c) (h : forebayref20_Ints.f 5 B [1] = some true) :
    Calls Try.prog 9 #[.slice A B.length c, .slice (some ⟨w.heap.size, 0, none⟩) 1 1] (w.alloc (.cells #[.int .i64 1] 3)) fun e w' => e = .returned (.bool true) ∧ Below w.heap.size w w' := by
  have hl : Kd.C (Kd.int .i64) (w.alloc (.cells #[.int .i64 1] 3)) (some ⟨w.heap.size, 0, none⟩) ([1] : List Int).length [1] := C_lits w [1] (by decide)
  exact (forebayref20_Ints.calls 5 A c B _ 1 [1] true _ (Kd.C_alloc hC _) hc hl (Nat.le_refl _) h).mono (fun e w' h => ⟨h.1, ((Below.refl _ _).alloc (Nat.le_refl _) _).trans ((node_drawn h.2).mono (by simp))⟩)
theorem ints12 (A : Option Addr) (c : Nat) (B : List Int) (w : World) (hC : Kd.C (Kd.int .i64) w A B.length B) (hc : B.length ≤ c) (h : forebayref20_Ints.f 5 B [1, 2] = some true) :
    Calls Try.prog 9 #[.slice A B.length c, .slice (some ⟨w.heap.size, 0, none⟩) 2 2] (w.alloc (.cells #[.int .i64 1, .int .i64 2] 3)) fun e w' => e = .returned (.bool true) ∧ Below w.heap.size w w' := by
  have hl : Kd.C (Kd.int .i64) (w.alloc (.cells #[.int .i64 1, .int .i64 2] 3)) (some ⟨w.heap.size, 0, none⟩) ([1, 2] : List Int).length [1, 2] := C_lits w [1, 2] (by decide)
  exact (forebayref20_Ints.calls 5 A c B _ 2 [1, 2] true _ (Kd.C_alloc hC _) hc hl (Nat.le_refl _) h).mono (fun e w' h => ⟨h.1, ((Below.refl _ _).alloc (Nat.le_refl _) _).trans ((node_drawn h.2).mono (by simp))⟩)
set_option maxHeartbeats 1000000 in
theorem forebaylaw20_head.calls (r : Bool) (w : World) (h : forebaylaw20_head.f = some r) : Calls Try.prog 7 #[] w fun e w' => e = .returned (.bool r) ∧ Below w.heap.size w w' := by
  obtain rfl := Option.some.inj h
  clear h
  obtain ⟨N, L, M, C, G, B, O, Q, h1, h2, h3, h4, h5, h6, h7, h8, h9, h10, h11, h12⟩ := head_facts
  replace h1 := Aside0.mk h1
  replace h2 := Aside0.mk h2
  replace h3 := Aside0.mk h3
  replace h4 := Aside0.mk h4
  replace h5 := Aside0.mk h5
  replace h6 := Aside0.mk h6
  replace h7 := Aside0.mk h7
  replace h8 := Aside0.mk h8
  replace h9 := Aside0.mk h9
  replace h10 := Aside0.mk h10
  replace h11 := Aside0.mk h11
  replace h12 := Aside0.mk h12
  have HB := Aside0.mk (Below.refl w.heap.size w)
  go_enter Try.func7, Try.ntmps7
  go_wp2_with (first
    | (go_at_call 16; (with_reducible refine (nodes_New.calls 3 N 0 _ h1.out).mono ?_); rintro e w1 ⟨vN, rfl, rN, hb⟩; obtain ⟨AN, cN, rfl⟩ := Kd.R_slice rN; have RN := Aside0.mk (Kd.R_lower rN HB.out.size); clear rN; replace HB := Aside0.mk (HB.out.trans (hb.mono HB.out.size)); clear hb)
    | (go_at_call 8; (with_reducible refine (nodes_Give.calls AN cN N 7 2 L B 0 _ (Kd.R_reads' RN.out).2.2 (Kd.R_reads' RN.out).2.1 h2.out).mono ?_); rintro e w1 ⟨vL, vB, rfl, rL, rB, hb⟩; obtain ⟨AL, cL, rfl⟩ := Kd.R_slice rL; obtain ⟨AB, cB, rfl⟩ := Kd.R_slice rB; replace RN := Aside0.mk (Kd.R_below RN.out hb); have RL := Aside0.mk (Kd.R_lower rL HB.out.size); clear rL; have RB := Aside0.mk (Kd.R_lower rB HB.out.size); clear rB; replace HB := Aside0.mk (HB.out.trans (hb.mono HB.out.size)); clear hb)
    | (go_at_call 15; (with_reducible refine (nodes_Fail.calls AL cL L 0 M 7 0 _ (Kd.R_reads' RL.out).2.2 (Kd.R_reads' RL.out).2.1 h3.out).mono ?_); rintro e w1 ⟨vM, rfl, rM, hb⟩; obtain ⟨AM, cM, rfl⟩ := Kd.R_slice rM; replace RN := Aside0.mk (Kd.R_below RN.out hb); replace RL := Aside0.mk (Kd.R_below RL.out hb); replace RB := Aside0.mk (Kd.R_below RB.out hb); have RM := Aside0.mk (Kd.R_lower rM HB.out.size); clear rM; replace HB := Aside0.mk (HB.out.trans (hb.mono HB.out.size)); clear hb)
    | (go_at_call 13; (with_reducible refine (nodes_Clear.calls AM cM M 7 C 0 _ (Kd.R_reads' RM.out).2.2 (Kd.R_reads' RM.out).2.1 h4.out).mono ?_); rintro e w1 ⟨vC, rfl, rC, hb⟩; obtain ⟨AC, cC, rfl⟩ := Kd.R_slice rC; replace RN := Aside0.mk (Kd.R_below RN.out hb); replace RL := Aside0.mk (Kd.R_below RL.out hb); replace RB := Aside0.mk (Kd.R_below RB.out hb); replace RM := Aside0.mk (Kd.R_below RM.out hb); have RC := Aside0.mk (Kd.R_lower rC HB.out.size); clear rC; replace HB := Aside0.mk (HB.out.trans (hb.mono HB.out.size)); clear hb)
    | (go_at_call 8; (with_reducible refine (nodes_Give.calls AC cC C 8 2 G Q 0 _ (Kd.R_reads' RC.out).2.2 (Kd.R_reads' RC.out).2.1 h5.out).mono ?_); rintro e w1 ⟨vG, vQ, rfl, rG, rQ, hb⟩; obtain ⟨AG, cG, rfl⟩ := Kd.R_slice rG; obtain ⟨AQ, cQ, rfl⟩ := Kd.R_slice rQ; replace RN := Aside0.mk (Kd.R_below RN.out hb); replace RL := Aside0.mk (Kd.R_below RL.out hb); replace RB := Aside0.mk (Kd.R_below RB.out hb); replace RM := Aside0.mk (Kd.R_below RM.out hb); replace RC := Aside0.mk (Kd.R_below RC.out hb); have RG := Aside0.mk (Kd.R_lower rG HB.out.size); clear rG; have RQ := Aside0.mk (Kd.R_lower rQ HB.out.size); clear rQ; replace HB := Aside0.mk (HB.out.trans (hb.mono HB.out.size)); clear hb)
    | (go_at_call 25; (with_reducible refine (nodes_Up.calls AL cL L 0 [] 8 _ (Kd.R_reads' RL.out).2.2 (Kd.R_reads' RL.out).2.1 h6.out).mono ?_); rintro e w1 ⟨vU, rfl, rU, hb⟩; obtain ⟨AU, cU, rfl⟩ := Kd.R_slice rU; replace RN := Aside0.mk (Kd.R_below RN.out hb); replace RL := Aside0.mk (Kd.R_below RL.out hb); replace RB := Aside0.mk (Kd.R_below RB.out hb); replace RM := Aside0.mk (Kd.R_below RM.out hb); replace RC := Aside0.mk (Kd.R_below RC.out hb); replace RG := Aside0.mk (Kd.R_below RG.out hb); replace RQ := Aside0.mk (Kd.R_below RQ.out hb); have RU := Aside0.mk (Kd.R_lower rU HB.out.size); clear rU; replace HB := Aside0.mk (HB.out.trans (hb.mono HB.out.size)); clear hb)
    | (go_at_call 15; (with_reducible refine (nodes_Fail.calls AL cL L 3 [] 0 200 _ (Kd.R_reads' RL.out).2.2 (Kd.R_reads' RL.out).2.1 h7.out).mono ?_); rintro e w1 ⟨vV, rfl, rV, hb⟩; obtain ⟨AV, cV, rfl⟩ := Kd.R_slice rV; replace RN := Aside0.mk (Kd.R_below RN.out hb); replace RL := Aside0.mk (Kd.R_below RL.out hb); replace RB := Aside0.mk (Kd.R_below RB.out hb); replace RM := Aside0.mk (Kd.R_below RM.out hb); replace RC := Aside0.mk (Kd.R_below RC.out hb); replace RG := Aside0.mk (Kd.R_below RG.out hb); replace RQ := Aside0.mk (Kd.R_below RQ.out hb); replace RU := Aside0.mk (Kd.R_below RU.out hb); have RV := Aside0.mk (Kd.R_lower rV HB.out.size); clear rV; replace HB := Aside0.mk (HB.out.trans (hb.mono HB.out.size)); clear hb)
    | (go_at_call 9; (with_reducible refine (ints01 AB cB B _ (Kd.R_reads' RB.out).2.2 (Kd.R_reads' RB.out).2.1 h8.out).mono ?_); rintro e w1 ⟨rfl, hb⟩; replace RN := Aside0.mk (Kd.R_below RN.out hb); replace RL := Aside0.mk (Kd.R_below RL.out hb); replace RB := Aside0.mk (Kd.R_below RB.out hb); replace RM := Aside0.mk (Kd.R_below RM.out hb); replace RC := Aside0.mk (Kd.R_below RC.out hb); replace RG := Aside0.mk (Kd.R_below RG.out hb); replace RQ := Aside0.mk (Kd.R_below RQ.out hb); replace RU := Aside0.mk (Kd.R_below RU.out hb); replace RV := Aside0.mk (Kd.R_below RV.out hb); replace HB := Aside0.mk (HB.out.trans (hb.mono HB.out.size)); clear hb)
    | (go_at_call 11; (with_reducible refine (nodes_Free.calls AL cL L 1 _ (Kd.R_reads' RL.out).2.2 (Kd.R_reads' RL.out).2.1 h9.out).mono ?_); rintro e w1 ⟨rfl, hb⟩; replace RN := Aside0.mk (Kd.R_below RN.out hb); replace RL := Aside0.mk (Kd.R_below RL.out hb); replace RB := Aside0.mk (Kd.R_below RB.out hb); replace RM := Aside0.mk (Kd.R_below RM.out hb); replace RC := Aside0.mk (Kd.R_below RC.out hb); replace RG := Aside0.mk (Kd.R_below RG.out hb); replace RQ := Aside0.mk (Kd.R_below RQ.out hb); replace RU := Aside0.mk (Kd.R_below RU.out hb); replace RV := Aside0.mk (Kd.R_below RV.out hb); replace HB := Aside0.mk (HB.out.trans (hb.mono HB.out.size)); clear hb)
    | (go_at_call 10; (with_reducible refine (nodes_Of.calls AM cM M 7 O _ (Kd.R_reads' RM.out).2.2 (Kd.R_reads' RM.out).2.1 h10.out).mono ?_); rintro e w1 ⟨vO, rfl, rO, hb⟩; obtain ⟨AO, cO, rfl⟩ := Kd.R_slice rO; replace RN := Aside0.mk (Kd.R_below RN.out hb); replace RL := Aside0.mk (Kd.R_below RL.out hb); replace RB := Aside0.mk (Kd.R_below RB.out hb); replace RM := Aside0.mk (Kd.R_below RM.out hb); replace RC := Aside0.mk (Kd.R_below RC.out hb); replace RG := Aside0.mk (Kd.R_below RG.out hb); replace RQ := Aside0.mk (Kd.R_below RQ.out hb); replace RU := Aside0.mk (Kd.R_below RU.out hb); replace RV := Aside0.mk (Kd.R_below RV.out hb); have RO := Aside0.mk (Kd.R_lower rO HB.out.size); clear rO; replace HB := Aside0.mk (HB.out.trans (hb.mono HB.out.size)); clear hb)
    | (go_at_call 9; (with_reducible refine (ints1 AO cO O _ (Kd.R_reads' RO.out).2.2 (Kd.R_reads' RO.out).2.1 h11.out).mono ?_); rintro e w1 ⟨rfl, hb⟩; replace RN := Aside0.mk (Kd.R_below RN.out hb); replace RL := Aside0.mk (Kd.R_below RL.out hb); replace RB := Aside0.mk (Kd.R_below RB.out hb); replace RM := Aside0.mk (Kd.R_below RM.out hb); replace RC := Aside0.mk (Kd.R_below RC.out hb); replace RG := Aside0.mk (Kd.R_below RG.out hb); replace RQ := Aside0.mk (Kd.R_below RQ.out hb); replace RU := Aside0.mk (Kd.R_below RU.out hb); replace RV := Aside0.mk (Kd.R_below RV.out hb); replace RO := Aside0.mk (Kd.R_below RO.out hb); replace HB := Aside0.mk (HB.out.trans (hb.mono HB.out.size)); clear hb)
    | (go_at_call 9; (with_reducible refine (ints12 AQ cQ Q _ (Kd.R_reads' RQ.out).2.2 (Kd.R_reads' RQ.out).2.1 h12.out).mono ?_); rintro e w1 ⟨rfl, hb⟩; replace RN := Aside0.mk (Kd.R_below RN.out hb); replace RL := Aside0.mk (Kd.R_below RL.out hb); replace RB := Aside0.mk (Kd.R_below RB.out hb); replace RM := Aside0.mk (Kd.R_below RM.out hb); replace RC := Aside0.mk (Kd.R_below RC.out hb); replace RG := Aside0.mk (Kd.R_below RG.out hb); replace RQ := Aside0.mk (Kd.R_below RQ.out hb); replace RU := Aside0.mk (Kd.R_below RU.out hb); replace RV := Aside0.mk (Kd.R_below RV.out hb); replace RO := Aside0.mk (Kd.R_below RO.out hb); replace HB := Aside0.mk (HB.out.trans (hb.mono HB.out.size)); clear hb))
  go_ret
  exact ⟨rfl, HB.out⟩

/-! ### forebaylaw20_NodesApart: function 3 -/
/-- What is wanted of a row of which m nodes are given. -/
structure ApartGood (l : List S35) (n m : Int) (which : Nat) (a : List S35) (b : List Int) (d : List S35) (j : Nat) (o : List Int) (F : Nat) (k : Nat) : Prop where
  give : nodes_Give.f l n m = some (a, b, 0)
  alen : a.length = l.length
  blen : (b.length : Int) = m
  bpos : 1 ≤ b.length ∧ b.length ≤ 64
  of1 : nodes_Of.f a n = some b
  ints : forebayref20_Ints.f k b b = some true
  free : ∃ y : Nat, nodes_Free.f l = some (y : Int) ∧ y ≤ 64 ∧ b.length ≤ y ∧ nodes_Free.f a = some (((y - b.length : Nat)) : Int)
  chk : nodes_Check.f a = some 0
  each : ∀ q, q < b.length → ∃ p : Nat, rd b (q : Int) = (p : Int) ∧ p < l.length ∧ (l.getD p z35).f0 = true ∧ (l.getD p z35).f1 = true ∧ (l.getD p z35).f2 = 0
  clear : nodes_Clear.f a n = some (l, 0)
  same : forebayref20_Same.f k l l = some true
  pick : rd b ((which % b.length : Nat) : Int) = (j : Int)
  fail : nodes_Fail.f a (j : Int) = some (d, n, 0)
  of2 : nodes_Of.f d n = some o
  olen : o.length + 1 = b.length
  chk2 : nodes_Check.f d = some 0
  free2 : nodes_Free.f d = some (F : Int)
  F64 : F ≤ 64
  more : ∀ i : Nat, 1 ≤ i → i ≤ F → ∃ x g e, nodes_Give.f d 1073741824 (i : Int) = some (x, g, e) ∧ g.length ≤ 64 ∧ (e = 8 ∨ (e ≠ 8 ∧ ∀ q, q < g.length → rd g (q : Int) ≠ (j : Int)))
inductive ApartOk (l : List S35) (n m which : Int) : Prop where
  | long (h : 80 < l.length)
  | no (e : Int) (h : l.length ≤ 80) (he : e ≠ 0) (hg : nodes_Give.f l n m = some ([], [], e))
  | good (a : List S35) (b : List Int) (d : List S35) (j : Nat) (o : List Int) (F k : Nat) (h : l.length ≤ 80) (hw : 0 ≤ which ∧ which ≤ 255) (hg : ApartGood l n m which.toNat a b d j o F k)
open Classical in
noncomputable def forebaylaw20_NodesApart.f (l0_0 : List S35) (a0_1 a0_2 a0_3 : Int) : Option Bool := @ite _ (ApartOk l0_0 a0_1 a0_2 a0_3) (Classical.propDecidable _) (some true) none
set_option maxHeartbeats 8000000 in
set_option maxRecDepth 100000 in
theorem forebaylaw20_NodesApart.calls (A0_0 : Option Addr) (c0_0 : Nat) (l0_0 : List S35) (a0_1 a0_2 a0_3 : Int) (r : Bool) (w : World) (hr0_0 : Kd.C k35 w A0_0 l0_0.length l0_0) (hc0_0 : l0_0.length ≤ c0_0) (h : forebaylaw20_NodesApart.f l0_0 a0_1 a0_2 a0_3 = some r) :
    Calls Try.prog 3 #[.agg #[.slice A0_0 l0_0.length c0_0, .int .i64 a0_1, .int .i64 a0_2, .int .u8 a0_3]] w fun e w' => e = .returned (.bool r) ∧ Below w.heap.size w w' := by
  unfold forebaylaw20_NodesApart.f at h
  by_cases hok : ApartOk l0_0 a0_1 a0_2 a0_3
  case neg => rw [if_neg hok] at h; cases h
  rw [if_pos hok] at h
  obtain rfl := Option.some.inj h
  clear h
  have HR := Aside0.mk hr0_0
  have HC := Aside0.mk hc0_0
  have hmx := hr0_0.2.1
  clear hr0_0 hc0_0
  have hb0 := Aside0.mk ((Below.refl w.heap.size w).alloc (Nat.le_refl _) (.cells #[.slice A0_0 l0_0.length c0_0, .int .i64 a0_1, .int .i64 a0_2, .int .u8 a0_3] 24))
  cases hok with
  | long h80 =>
    have h80' : (80 : Int) < (l0_0.length : Int) := by omega
    go_enter Try.func3, Try.ntmps3
    go_wp2
    go_quiet (fail)
    have HB := Aside0.mk (show Below w.heap.size w ((w.alloc (.cells #[.slice A0_0 l0_0.length c0_0, .int .i64 a0_1, .int .i64 a0_2, .int .u8 a0_3] 24)).drewN nq) from hb0.out.trans ⟨rfl, rfl, rfl, Nat.le_refl _, fun _ _ => rfl⟩)
    generalize ((w.alloc (.cells #[.slice A0_0 l0_0.length c0_0, .int .i64 a0_1, .int .i64 a0_2, .int .u8 a0_3] 24)).drewN nq) = W0 at *
    go_wp2_with (go_at_call 7; (with_reducible refine (forebaylaw20_head.calls true _ rfl).mono ?_); rintro e w1 ⟨rfl, hb⟩; replace HB := Aside0.mk (HB.out.trans (hb.mono HB.out.size)); clear hb)
    go_ret
    exact ⟨rfl, HB.out⟩
  | no e h80 he hg =>
    have h80' : ¬ (80 : Int) < (l0_0.length : Int) := by omega
    replace hg := Aside0.mk hg
    go_enter Try.func3, Try.ntmps3
    go_wp2
    go_quiet (fail)
    have HB := Aside0.mk (show Below w.heap.size w ((w.alloc (.cells #[.slice A0_0 l0_0.length c0_0, .int .i64 a0_1, .int .i64 a0_2, .int .u8 a0_3] 24)).drewN nq) from hb0.out.trans ⟨rfl, rfl, rfl, Nat.le_refl _, fun _ _ => rfl⟩)
    generalize ((w.alloc (.cells #[.slice A0_0 l0_0.length c0_0, .int .i64 a0_1, .int .i64 a0_2, .int .u8 a0_3] 24)).drewN nq) = W0 at *

    go_wp2_with (first
      | ((with_reducible refine gate_dst (N := 36) rfl ?_); refine Kd.R_lit k35 _ 35 ?hg (N := 36) ?hd (xs := ([] : List S35)) (inner := []) (ok := fun _ => True) (okp := fun _ => True) ?hr ?hp (fun _ hk => hk) trivial (Below.refl _ _) (Nat.le_refl _) (by simp) ?_; (case hd => rfl); (case hg => rfl); (case hr => first | (go_simp; done) | (go_simp; rfl)); (case hp => exact (Reps.none _ _)); intro v36 w3 ho4 hb hg_ hnew_; clear hg_ hnew_; have RL := Aside0.mk (Kd.R_lower ho4 HB.out.size); replace HB := Aside0.mk (HB.out.trans (hb.mono HB.out.size)); clear hb ho4)
      | ((with_reducible refine gate_builtin (b := .append) (xs := #[.tmp 36, .tmp 37]) rfl ?_); at_builtin; refine Kd.R_append_rows k35 (w0 := w) w.heap.size rfl (.tmp 36) (.tmp 37) 22 35 (.agg #[(.bool false), (.bool false), (.int .i64 0)]) 16 rfl Try.underlying22 node_info rfl (by decide) (by omega) v36 [] l0_0 _ _ _ (fun _ => True) (fun _ => False) rfl rfl ?aO ?aR (fun _ _ h => h) (fun _ h => h.elim) ?aF ?aB ?aS ?aL ?_; (case aR => exact (Kd.C_below HR.out HB.out)); (case aB => exact HB.out); (case aF => exact (fun _ _ => trivial)); (case aO => exact RL.out); (case aS => exact HB.out.size); (case aL => simp; omega); intro v38 w5 ho hb hg hat; replace HB := Aside0.mk hb; have RW0 := ho; replace RW0 : Kd.R k35 35 w5 w.heap.size (fun _ => True) v38 l0_0 := RW0; obtain ⟨AW, cW, rfl⟩ := Kd.R_slice RW0; have RW := Aside0.mk RW0; clear RW0 RL ho hb hg hat)
      | (go_at_call 8; (with_reducible refine (nodes_Give.calls A0_0 c0_0 l0_0 a0_1 a0_2 [] [] e _ (Kd.C_below HR.out HB.out) HC.out hg.out).mono ?_); rintro e w1 ⟨va, vb, rfl, ra, rb, hb⟩; obtain ⟨Aa, ca, rfl⟩ := Kd.R_slice ra; obtain ⟨Ab, cb, rfl⟩ := Kd.R_slice rb; replace RW := Aside0.mk (Kd.R_below RW.out hb); have Ra := Aside0.mk (Kd.R_lower ra HB.out.size); clear ra; have Rb := Aside0.mk (Kd.R_lower rb HB.out.size); clear rb; replace HB := Aside0.mk (HB.out.trans (hb.mono HB.out.size)); clear hb)
      | (go_at_call 7; (with_reducible refine (forebaylaw20_head.calls true _ rfl).mono ?_); rintro e w1 ⟨rfl, hb⟩; replace HB := Aside0.mk (HB.out.trans (hb.mono HB.out.size)); clear hb))
    go_ret
    exact ⟨rfl, HB.out⟩
  | good a b d j o F k h80 hw3 hg =>
    have h80' : ¬ (80 : Int) < (l0_0.length : Int) := by omega
    obtain ⟨hgive, halen, hblen, hbpos, hof1, hints, ⟨y, hfl, hy64, hby, hfa⟩, hchk, heach, hclear, hsame, hpick, hfail, hof2, holen, hchk2, hfree2, hF64, hmore⟩ := hg
    replace hgive := Aside0.mk hgive
    replace hof1 := Aside0.mk hof1
    replace hints := Aside0.mk hints
    replace hfl := Aside0.mk hfl
    replace hfa := Aside0.mk hfa
    replace hchk := Aside0.mk hchk
    replace heach := Aside0.mk heach
    replace hclear := Aside0.mk hclear
    replace hsame := Aside0.mk hsame
    replace hpick := Aside0.mk hpick
    replace hfail := Aside0.mk hfail
    replace hof2 := Aside0.mk hof2
    replace hchk2 := Aside0.mk hchk2
    replace hfree2 := Aside0.mk hfree2
    replace hmore := Aside0.mk hmore
    subst hblen
    have hsub := Aside0.mk (show IntKind.i64.wrap ((y : Int) - (b.length : Int)) = ((y - b.length : Nat) : Int) by rw [IntWalk.i64_in _ (by omega)]; omega)
    have hal : (a.length : Int) = (l0_0.length : Int) := by rw [halen]
    replace halen := Aside0.mk halen
    go_enter Try.func3, Try.ntmps3
    go_wp2
    go_quiet (fail)
    have HB := Aside0.mk (show Below w.heap.size w ((w.alloc (.cells #[.slice A0_0 l0_0.length c0_0, .int .i64 a0_1, .int .i64 (b.length : Int), .int .u8 a0_3] 24)).drewN nq) from hb0.out.trans ⟨rfl, rfl, rfl, Nat.le_refl _, fun _ _ => rfl⟩)
    generalize ((w.alloc (.cells #[.slice A0_0 l0_0.length c0_0, .int .i64 a0_1, .int .i64 (b.length : Int), .int .u8 a0_3] 24)).drewN nq) = W0 at *

    go_upto_block 0 with (first
      | ((with_reducible refine gate_dst (N := 36) rfl ?_); refine Kd.R_lit k35 _ 35 ?hg (N := 36) ?hd (xs := ([] : List S35)) (inner := []) (ok := fun _ => True) (okp := fun _ => True) ?hr ?hp (fun _ hk => hk) trivial (Below.refl _ _) (Nat.le_refl _) (by simp) ?_; (case hd => rfl); (case hg => rfl); (case hr => first | (go_simp; done) | (go_simp; rfl)); (case hp => exact (Reps.none _ _)); intro v36 w3 ho4 hb hg_ hnew_; clear hg_ hnew_; have RL := Aside0.mk (Kd.R_lower ho4 HB.out.size); replace HB := Aside0.mk (HB.out.trans (hb.mono HB.out.size)); clear hb ho4)
      | ((with_reducible refine gate_builtin (b := .append) (xs := #[.tmp 36, .tmp 37]) rfl ?_); at_builtin; refine Kd.R_append_rows k35 (w0 := w) w.heap.size rfl (.tmp 36) (.tmp 37) 22 35 (.agg #[(.bool false), (.bool false), (.int .i64 0)]) 16 rfl Try.underlying22 node_info rfl (by decide) (by omega) v36 [] l0_0 _ _ _ (fun _ => True) (fun _ => False) rfl rfl ?aO ?aR (fun _ _ h => h) (fun _ h => h.elim) ?aF ?aB ?aS ?aL ?_; (case aR => exact (Kd.C_below HR.out HB.out)); (case aB => exact HB.out); (case aF => exact (fun _ _ => trivial)); (case aO => exact RL.out); (case aS => exact HB.out.size); (case aL => simp; omega); intro v38 w5 ho hb hg hat; replace HB := Aside0.mk hb; have RW0 := ho; replace RW0 : Kd.R k35 35 w5 w.heap.size (fun _ => True) v38 l0_0 := RW0; obtain ⟨AW, cW, rfl⟩ := Kd.R_slice RW0; have RW := Aside0.mk RW0; clear RW0 RL ho hb hg hat)
      | (go_at_call 8; (with_reducible refine (nodes_Give.calls A0_0 c0_0 l0_0 a0_1 (b.length : Int) a b 0 _ (Kd.C_below HR.out HB.out) HC.out hgive.out).mono ?_); rintro e w1 ⟨va, vb, rfl, ra, rb, hb⟩; obtain ⟨Aa, ca, rfl⟩ := Kd.R_slice ra; obtain ⟨Ab, cb, rfl⟩ := Kd.R_slice rb; replace RW := Aside0.mk (Kd.R_below RW.out hb); have Ra := Aside0.mk (Kd.R_lower ra HB.out.size); clear ra; have Rb := Aside0.mk (Kd.R_lower rb HB.out.size); clear rb; replace HB := Aside0.mk (HB.out.trans (hb.mono HB.out.size)); clear hb)
      | (go_at_call 10; (with_reducible refine (nodes_Of.calls Aa ca a a0_1 b _ (Kd.R_reads' Ra.out).2.2 (Kd.R_reads' Ra.out).2.1 hof1.out).mono ?_); rintro e w1 ⟨vo1, rfl, ro1, hb⟩; obtain ⟨Ao1, co1, rfl⟩ := Kd.R_slice ro1; replace RW := Aside0.mk (Kd.R_below RW.out hb); replace Ra := Aside0.mk (Kd.R_below Ra.out hb); replace Rb := Aside0.mk (Kd.R_below Rb.out hb); have Ro1 := Aside0.mk (Kd.R_lower ro1 HB.out.size); clear ro1; replace HB := Aside0.mk (HB.out.trans (hb.mono HB.out.size)); clear hb)
      | (go_at_call 9; (with_reducible refine (forebayref20_Ints.calls k Ao1 co1 b Ab cb b true _ (Kd.R_reads' Ro1.out).2.2 (Kd.R_reads' Ro1.out).2.1 (Kd.R_reads' Rb.out).2.2 (Kd.R_reads' Rb.out).2.1 hints.out).mono ?_); rintro e w1 ⟨rfl, hd⟩; have hb := node_drawn hd; clear hd; replace RW := Aside0.mk (Kd.R_below RW.out hb); replace Ra := Aside0.mk (Kd.R_below Ra.out hb); replace Rb := Aside0.mk (Kd.R_below Rb.out hb); replace Ro1 := Aside0.mk (Kd.R_below Ro1.out hb); replace HB := Aside0.mk (HB.out.trans (hb.mono HB.out.size)); clear hb)
      | (go_at_call 11; (with_reducible refine (nodes_Free.calls Aa ca a _ _ (Kd.R_reads' Ra.out).2.2 (Kd.R_reads' Ra.out).2.1 hfa.out).mono ?_); rintro e w1 ⟨rfl, hb⟩; replace RW := Aside0.mk (Kd.R_below RW.out hb); replace Ra := Aside0.mk (Kd.R_below Ra.out hb); replace Rb := Aside0.mk (Kd.R_below Rb.out hb); replace Ro1 := Aside0.mk (Kd.R_below Ro1.out hb); replace HB := Aside0.mk (HB.out.trans (hb.mono HB.out.size)); clear hb)
      | (go_at_call 11; (with_reducible refine (nodes_Free.calls A0_0 c0_0 l0_0 _ _ (Kd.C_below HR.out HB.out) HC.out hfl.out).mono ?_); rintro e w1 ⟨rfl, hb⟩; replace RW := Aside0.mk (Kd.R_below RW.out hb); replace Ra := Aside0.mk (Kd.R_below Ra.out hb); replace Rb := Aside0.mk (Kd.R_below Rb.out hb); replace Ro1 := Aside0.mk (Kd.R_below Ro1.out hb); replace HB := Aside0.mk (HB.out.trans (hb.mono HB.out.size)); clear hb)
      | (go_at_call 12; (with_reducible refine (nodes_Check.calls Aa ca a _ _ (Kd.R_reads' Ra.out).2.2 (Kd.R_reads' Ra.out).2.1 hchk.out).mono ?_); rintro e wA ⟨rfl, hb⟩; replace RW := Aside0.mk (Kd.R_below RW.out hb); replace Ra := Aside0.mk (Kd.R_below Ra.out hb); replace Rb := Aside0.mk (Kd.R_below Rb.out hb); replace Ro1 := Aside0.mk (Kd.R_below Ro1.out hb); replace HB := Aside0.mk (HB.out.trans (hb.mono HB.out.size)); clear hb))
    go_wp2
    go_loopg [11] b.length (fun kq v11 wr => ∃ q : Nat, v11 = .int .i64 q ∧ Aside0 (kq + q = b.length) ∧ Aside0 (Below wA.heap.size wA wr))
    case atStart => exact ⟨0, rfl, ⟨rfl⟩, ⟨Below.refl _ _⟩⟩
    case round =>
      obtain ⟨q, rfl, HK, HL⟩ := hrel
      cases gk with
      | succ kA =>
        have hlt : q < b.length := by have := HK.out; omega
        have hq0 : (0 : Int) ≤ (q : Int) := Int.natCast_nonneg _
        have hq1 : (q : Int) < (b.length : Int) := by omega
        obtain ⟨p, hp, hpl, hf0, hf1, hf2⟩ := heach.out q hlt
        have hp0 : (0 : Int) ≤ (p : Int) := Int.natCast_nonneg _
        have hp1 : (p : Int) < (l0_0.length : Int) := by omega
        obtain ⟨ad, eAb, hx⟩ := Kd.at_int (Kd.R_reads' (Kd.R_below Rb.out HL.out)).2.2 (q : Int) hq0 hq1
        cases eAb
        rw [hp, Int.toNat_natCast] at hx
        obtain ⟨ae, eAl, hy0, hy1, hy2⟩ := at_T35 (Kd.C_below HR.out (HB.out.trans (HL.out.mono HB.out.size))) (p : Int) hp0 hp1
        cases eAl
        have er : rd_T35 l0_0 (p : Int) = l0_0.getD p z35 := by simp [rd_T35]
        rw [er, hf0] at hy0
        rw [er, hf1] at hy1
        rw [er, hf2] at hy2
        rw [Int.toNat_natCast] at hy0 hy1 hy2
        clear er hf0 hf1 hf2
        go_wp2
        go_roundg kA
        case measure => omega
        case rel => exact ⟨q + 1, by go_num, ⟨by have := HK.out; omega⟩, ⟨HL.out.alloc HL.out.size _⟩⟩
      | zero =>
        have e : q = b.length := by have := HK.out; omega
        subst e
        have hb := HL.out
        replace RW := Aside0.mk (Kd.R_below RW.out hb)
        replace Ra := Aside0.mk (Kd.R_below Ra.out hb)
        replace Rb := Aside0.mk (Kd.R_below Rb.out hb)
        replace Ro1 := Aside0.mk (Kd.R_below Ro1.out hb)
        replace HB := Aside0.mk (HB.out.trans (hb.mono HB.out.size))
        clear hb
        have htl : a0_3.toNat % b.length < b.length := Nat.mod_lt _ (by omega)
        have hw0 : ((a0_3.toNat : Nat) : Int) = a0_3 := by omega
        have htm : Int.tmod a0_3 (b.length : Int) = ((a0_3.toNat % b.length : Nat) : Int) := by
          rw [← hw0, Int.toNat_natCast]; exact (Int.ofNat_tmod _ _).symm
        clear hw0
        obtain ⟨tt, htt⟩ : ∃ tt, a0_3.toNat % b.length = tt := ⟨_, rfl⟩
        rw [htt] at htl htm hpick
        clear htt
        have ht0 : (0 : Int) ≤ (tt : Int) := Int.natCast_nonneg _
        have ht1 : (tt : Int) < (b.length : Int) := Int.ofNat_lt.2 htl
        have hbz : ¬ (b.length : Int) = 0 := by omega
        have hol : (o.length : Int) = (b.length : Int) - 1 := by omega
        go_upto_block 2 with (first
          | (go_at_call 13; (with_reducible refine (nodes_Clear.calls Aa ca a a0_1 l0_0 0 _ (Kd.R_reads' Ra.out).2.2 (Kd.R_reads' Ra.out).2.1 hclear.out).mono ?_); rintro e w1 ⟨vc, rfl, rc, hb⟩; obtain ⟨Ac, cc, rfl⟩ := Kd.R_slice rc; replace RW := Aside0.mk (Kd.R_below RW.out hb); replace Ra := Aside0.mk (Kd.R_below Ra.out hb); replace Rb := Aside0.mk (Kd.R_below Rb.out hb); replace Ro1 := Aside0.mk (Kd.R_below Ro1.out hb); have Rc := Aside0.mk (Kd.R_lower rc HB.out.size); clear rc; replace HB := Aside0.mk (HB.out.trans (hb.mono HB.out.size)); clear hb)
          | (go_at_call 14; (with_reducible refine (forebayref20_Same.calls k Ac cc l0_0 A0_0 c0_0 l0_0 true _ (Kd.R_reads' Rc.out).2.2 (Kd.R_reads' Rc.out).2.1 (Kd.C_below HR.out HB.out) HC.out hsame.out).mono ?_); rintro e w1 ⟨rfl, hd⟩; have hb := node_drawn hd; clear hd; replace RW := Aside0.mk (Kd.R_below RW.out hb); replace Ra := Aside0.mk (Kd.R_below Ra.out hb); replace Rb := Aside0.mk (Kd.R_below Rb.out hb); replace Ro1 := Aside0.mk (Kd.R_below Ro1.out hb); replace Rc := Aside0.mk (Kd.R_below Rc.out hb); replace HB := Aside0.mk (HB.out.trans (hb.mono HB.out.size)); clear hb)
          | (go_at_call 14; (with_reducible refine (forebayref20_Same.calls k A0_0 c0_0 l0_0 AW cW l0_0 true _ (Kd.C_below HR.out HB.out) HC.out (Kd.R_reads' RW.out).2.2 (Kd.R_reads' RW.out).2.1 hsame.out).mono ?_); rintro e w1 ⟨rfl, hd⟩; have hb := node_drawn hd; clear hd; replace RW := Aside0.mk (Kd.R_below RW.out hb); replace Ra := Aside0.mk (Kd.R_below Ra.out hb); replace Rb := Aside0.mk (Kd.R_below Rb.out hb); replace Ro1 := Aside0.mk (Kd.R_below Ro1.out hb); replace Rc := Aside0.mk (Kd.R_below Rc.out hb); replace HB := Aside0.mk (HB.out.trans (hb.mono HB.out.size)); clear hb; obtain ⟨ad, eAb, hx⟩ := Kd.at_int (Kd.R_reads' Rb.out).2.2 (tt : Int) ht0 ht1; cases eAb; rw [hpick.out, Int.toNat_natCast] at hx)
          | (go_at_call 15; (with_reducible refine (nodes_Fail.calls Aa ca a (j : Int) d a0_1 0 _ (Kd.R_reads' Ra.out).2.2 (Kd.R_reads' Ra.out).2.1 hfail.out).mono ?_); rintro e w1 ⟨vd, rfl, rd, hb⟩; obtain ⟨Ad, cd, rfl⟩ := Kd.R_slice rd; replace RW := Aside0.mk (Kd.R_below RW.out hb); replace Ra := Aside0.mk (Kd.R_below Ra.out hb); replace Rb := Aside0.mk (Kd.R_below Rb.out hb); replace Ro1 := Aside0.mk (Kd.R_below Ro1.out hb); replace Rc := Aside0.mk (Kd.R_below Rc.out hb); have Rd := Aside0.mk (Kd.R_lower rd HB.out.size); clear rd; replace HB := Aside0.mk (HB.out.trans (hb.mono HB.out.size)); clear hb)
          | (go_at_call 10; (with_reducible refine (nodes_Of.calls Ad cd d a0_1 o _ (Kd.R_reads' Rd.out).2.2 (Kd.R_reads' Rd.out).2.1 hof2.out).mono ?_); rintro e w1 ⟨vo2, rfl, ro2, hb⟩; obtain ⟨Ao2, co2, rfl⟩ := Kd.R_slice ro2; replace RW := Aside0.mk (Kd.R_below RW.out hb); replace Ra := Aside0.mk (Kd.R_below Ra.out hb); replace Rb := Aside0.mk (Kd.R_below Rb.out hb); replace Ro1 := Aside0.mk (Kd.R_below Ro1.out hb); replace Rc := Aside0.mk (Kd.R_below Rc.out hb); replace Rd := Aside0.mk (Kd.R_below Rd.out hb); have Ro2 := Aside0.mk (Kd.R_lower ro2 HB.out.size); clear ro2; replace HB := Aside0.mk (HB.out.trans (hb.mono HB.out.size)); clear hb)
          | (go_at_call 12; (with_reducible refine (nodes_Check.calls Ad cd d _ _ (Kd.R_reads' Rd.out).2.2 (Kd.R_reads' Rd.out).2.1 hchk2.out).mono ?_); rintro e wB ⟨rfl, hb⟩; replace RW := Aside0.mk (Kd.R_below RW.out hb); replace Ra := Aside0.mk (Kd.R_below Ra.out hb); replace Rb := Aside0.mk (Kd.R_below Rb.out hb); replace Ro1 := Aside0.mk (Kd.R_below Ro1.out hb); replace Rc := Aside0.mk (Kd.R_below Rc.out hb); replace Rd := Aside0.mk (Kd.R_below Rd.out hb); replace Ro2 := Aside0.mk (Kd.R_below Ro2.out hb); replace HB := Aside0.mk (HB.out.trans (hb.mono HB.out.size)); clear hb))
        go_wp2
        go_loopg [19] F (fun kq v19 wr => ∃ i : Nat, v19 = .int .i64 i ∧ Aside0 (kq + i = F + 1) ∧ Aside0 (1 ≤ i) ∧ Aside0 (Below wB.heap.size wB wr))
        case atStart => exact ⟨1, rfl, ⟨rfl⟩, ⟨Nat.le_refl _⟩, ⟨Below.refl _ _⟩⟩
        case round =>
          obtain ⟨i, rfl, HK2, HI, HL2⟩ := hrel
          cases gk with
          | zero =>
            have hiF : (F : Int) < (i : Int) := by have := HK2.out; omega
            have hb := HL2.out
            replace RW := Aside0.mk (Kd.R_below RW.out hb)
            replace Ra := Aside0.mk (Kd.R_below Ra.out hb)
            replace Rb := Aside0.mk (Kd.R_below Rb.out hb)
            replace Ro1 := Aside0.mk (Kd.R_below Ro1.out hb)
            replace Rc := Aside0.mk (Kd.R_below Rc.out hb)
            replace Rd := Aside0.mk (Kd.R_below Rd.out hb)
            replace Ro2 := Aside0.mk (Kd.R_below Ro2.out hb)
            replace HB := Aside0.mk (HB.out.trans (hb.mono HB.out.size))
            clear hb
            go_wp2_with (first
              | (go_at_call 11; (with_reducible refine (nodes_Free.calls Ad cd d _ _ (Kd.R_reads' Rd.out).2.2 (Kd.R_reads' Rd.out).2.1 hfree2.out).mono ?_); rintro e w1 ⟨rfl, hb⟩; replace RW := Aside0.mk (Kd.R_below RW.out hb); replace Ra := Aside0.mk (Kd.R_below Ra.out hb); replace Rb := Aside0.mk (Kd.R_below Rb.out hb); replace Ro1 := Aside0.mk (Kd.R_below Ro1.out hb); replace Rc := Aside0.mk (Kd.R_below Rc.out hb); replace Rd := Aside0.mk (Kd.R_below Rd.out hb); replace Ro2 := Aside0.mk (Kd.R_below Ro2.out hb); replace HB := Aside0.mk (HB.out.trans (hb.mono HB.out.size)); clear hb)
              | (go_at_call 7; (with_reducible refine (forebaylaw20_head.calls true _ rfl).mono ?_); rintro e w1 ⟨rfl, hb⟩; replace HB := Aside0.mk (HB.out.trans (hb.mono HB.out.size)); clear hb))
            go_ret
            exact ⟨rfl, HB.out⟩
          | succ kB =>
            have hiF : (i : Int) ≤ (F : Int) := by have := HK2.out; omega
            obtain ⟨gx, gl, ge, hgv, hgl, hge⟩ := hmore.out i HI.out (by omega)
            replace hgv := Aside0.mk hgv
            have hi1 : (i : Int) < 9223372036854775807 := by omega
            have HL3 := HL2
            have hb := HL2.out
            replace RW := Aside0.mk (Kd.R_below RW.out hb)
            replace Ra := Aside0.mk (Kd.R_below Ra.out hb)
            replace Rb := Aside0.mk (Kd.R_below Rb.out hb)
            replace Ro1 := Aside0.mk (Kd.R_below Ro1.out hb)
            replace Rc := Aside0.mk (Kd.R_below Rc.out hb)
            replace Rd := Aside0.mk (Kd.R_below Rd.out hb)
            replace Ro2 := Aside0.mk (Kd.R_below Ro2.out hb)
            replace HB := Aside0.mk (HB.out.trans (hb.mono HB.out.size))
            clear hb
            rcases hge with rfl | ⟨hge, hne⟩
            · go_wp2_with (first
              | (go_at_call 11; (with_reducible refine (nodes_Free.calls Ad cd d _ _ (Kd.R_reads' Rd.out).2.2 (Kd.R_reads' Rd.out).2.1 hfree2.out).mono ?_); rintro e w1 ⟨rfl, hb⟩; replace RW := Aside0.mk (Kd.R_below RW.out hb); replace Ra := Aside0.mk (Kd.R_below Ra.out hb); replace Rb := Aside0.mk (Kd.R_below Rb.out hb); replace Ro1 := Aside0.mk (Kd.R_below Ro1.out hb); replace Rc := Aside0.mk (Kd.R_below Rc.out hb); replace Rd := Aside0.mk (Kd.R_below Rd.out hb); replace Ro2 := Aside0.mk (Kd.R_below Ro2.out hb); replace HB := Aside0.mk (HB.out.trans (hb.mono HB.out.size)); clear hb)
              | (go_at_call 8; (with_reducible refine (nodes_Give.calls Ad cd d 1073741824 (i : Int) gx gl _ _ (Kd.R_reads' Rd.out).2.2 (Kd.R_reads' Rd.out).2.1 hgv.out).mono ?_); rintro e wC ⟨vgx, vgl, rfl, rgx, rgl, hb⟩; obtain ⟨Agx, cgx, rfl⟩ := Kd.R_slice rgx; obtain ⟨Agl, cgl, rfl⟩ := Kd.R_slice rgl; replace RW := Aside0.mk (Kd.R_below RW.out hb); replace Ra := Aside0.mk (Kd.R_below Ra.out hb); replace Rb := Aside0.mk (Kd.R_below Rb.out hb); replace Ro1 := Aside0.mk (Kd.R_below Ro1.out hb); replace Rc := Aside0.mk (Kd.R_below Rc.out hb); replace Rd := Aside0.mk (Kd.R_below Rd.out hb); replace Ro2 := Aside0.mk (Kd.R_below Ro2.out hb); have Rgx := Aside0.mk (Kd.R_lower rgx HB.out.size); clear rgx; have Rgl := Aside0.mk (Kd.R_lower rgl HB.out.size); clear rgl; replace HB := Aside0.mk (HB.out.trans (hb.mono HB.out.size)); clear hb)
              | (go_at_call 7; (with_reducible refine (forebaylaw20_head.calls true _ rfl).mono ?_); rintro e w1 ⟨rfl, hb⟩; replace HB := Aside0.mk (HB.out.trans (hb.mono HB.out.size)); clear hb))
              go_ret
              exact ⟨rfl, HB.out⟩
            · replace hne := Aside0.mk hne
              have hge1 : (ge = 8) = False := eq_false hge
              have hge2 : (ge == 8) = false := by simpa using hge
              clear hge
              have HB0 := Aside0.mk (Below.refl wr.heap.size wr)
              go_upto_block 4 with (first
                | (go_at_call 11; (with_reducible refine (nodes_Free.calls Ad cd d _ _ (Kd.R_reads' Rd.out).2.2 (Kd.R_reads' Rd.out).2.1 hfree2.out).mono ?_); rintro e w1 ⟨rfl, hb⟩; replace RW := Aside0.mk (Kd.R_below RW.out hb); replace Ra := Aside0.mk (Kd.R_below Ra.out hb); replace Rb := Aside0.mk (Kd.R_below Rb.out hb); replace Ro1 := Aside0.mk (Kd.R_below Ro1.out hb); replace Rc := Aside0.mk (Kd.R_below Rc.out hb); replace Rd := Aside0.mk (Kd.R_below Rd.out hb); replace Ro2 := Aside0.mk (Kd.R_below Ro2.out hb); replace HB := Aside0.mk (HB.out.trans (hb.mono HB.out.size)); replace HB0 := Aside0.mk (HB0.out.trans (hb.mono HB0.out.size)); clear hb)
                | (go_at_call 8; (with_reducible refine (nodes_Give.calls Ad cd d 1073741824 (i : Int) gx gl _ _ (Kd.R_reads' Rd.out).2.2 (Kd.R_reads' Rd.out).2.1 hgv.out).mono ?_); rintro e wC ⟨vgx, vgl, rfl, rgx, rgl, hb⟩; obtain ⟨Agx, cgx, rfl⟩ := Kd.R_slice rgx; obtain ⟨Agl, cgl, rfl⟩ := Kd.R_slice rgl; replace RW := Aside0.mk (Kd.R_below RW.out hb); replace Ra := Aside0.mk (Kd.R_below Ra.out hb); replace Rb := Aside0.mk (Kd.R_below Rb.out hb); replace Ro1 := Aside0.mk (Kd.R_below Ro1.out hb); replace Rc := Aside0.mk (Kd.R_below Rc.out hb); replace Rd := Aside0.mk (Kd.R_below Rd.out hb); replace Ro2 := Aside0.mk (Kd.R_below Ro2.out hb); have Rgx := Aside0.mk (Kd.R_lower rgx HB.out.size); clear rgx; have Rgl := Aside0.mk (Kd.R_lower rgl HB.out.size); clear rgl; replace HB := Aside0.mk (HB.out.trans (hb.mono HB.out.size)); replace HB0 := Aside0.mk (HB0.out.trans (hb.mono HB0.out.size)); clear hb))
              go_wp2
              go_loopg [23] gl.length (fun kq v23 wr2 => ∃ q : Nat, v23 = .int .i64 q ∧ Aside0 (kq + q = gl.length) ∧ Aside0 (Below wC.heap.size wC wr2))
              case atStart => exact ⟨0, rfl, ⟨rfl⟩, ⟨Below.refl _ _⟩⟩
              case round =>
                obtain ⟨q, rfl, HK4, HL4⟩ := hrel
                cases gk with
                | zero =>
                  have e : q = gl.length := by have := HK4.out; omega
                  subst e
                  go_wp2
                  go_roundg kB
                  case measure => omega
                  case rel => exact ⟨i + 1, by go_num, ⟨by have := HK2.out; omega⟩, ⟨by omega⟩, ⟨HL3.out.trans ((HB0.out.trans (HL4.out.mono HB0.out.size)).mono HL3.out.size)⟩⟩
                | succ kC =>
                  have hlt : q < gl.length := by have := HK4.out; omega
                  have hq0 : (0 : Int) ≤ (q : Int) := Int.natCast_nonneg _
                  have hq1 : (q : Int) < (gl.length : Int) := by omega
                  obtain ⟨ag, eAg, hz⟩ := Kd.at_int (Kd.R_reads' (Kd.R_below Rgl.out HL4.out)).2.2 (q : Int) hq0 hq1
                  cases eAg
                  have hz0 := hne.out q hlt
                  rw [Int.toNat_natCast] at hz
                  obtain ⟨zz, hzz⟩ : ∃ zz, rd gl (q : Int) = zz := ⟨_, rfl⟩
                  rw [hzz] at hz hz0
                  clear hzz
                  have hz1 : (zz == (j : Int)) = false := by simpa using hz0
                  go_wp2
                  go_roundg kC
                  case measure => omega
                  case rel => exact ⟨q + 1, by go_num, ⟨by have := HK4.out; omega⟩, HL4⟩
def inv35 (x : S35) : Prop := (fun _ : Bool => True) x.f0 ∧ (fun _ : Bool => True) x.f1 ∧ (fun n : Int => (Lit.int .i64 n).wf = true) x.f2
theorem opn35 : Opn Try.prog 35 k35 inv35 := opn_struct (fun x : S35 => (x.f0, x.f1, x.f2)) (fun p => (⟨p.1, p.2.1, p.2.2⟩ : S35)) (fun _ => rfl) Try.underlying35 (by kernel_rfl) (fl := [(4, 0), (4, 1), (2, 2)]) (by rfl) (opnL_cons (opn_bool Try.underlying4 (by kernel_rfl)) rfl (opnL_cons (opn_bool Try.underlying4 (by kernel_rfl)) rfl (opnL_one (opn_int Try.underlying2 (by kernel_rfl)))))
def inv24 (x : S24) : Prop := (fun l : List (S35) => l.length * 16 ≤ 140737488351232 ∧ l.length ≤ maxLen ∧ ∀ x ∈ l, inv35 x) x.f0 ∧ (fun n : Int => (Lit.int .i64 n).wf = true) x.f1 ∧ (fun n : Int => (Lit.int .i64 n).wf = true) x.f2 ∧ (fun n : Int => (Lit.int .u8 n).wf = true) x.f3
theorem opn24 : Opn Try.prog 24 k24 inv24 := opn_struct (fun x : S24 => (x.f0, x.f1, x.f2, x.f3)) (fun p => (⟨p.1, p.2.1, p.2.2.1, p.2.2.2⟩ : S24)) (fun _ => rfl) Try.underlying24 (by kernel_rfl) (fl := [(22, 0), (2, 1), (3, 2), (5, 3)]) (by rfl) (opnL_cons (opn_slice Try.underlying22 (by kernel_rfl) (by kernel_rfl) opn35) rfl (opnL_cons (opn_int Try.underlying2 (by kernel_rfl)) rfl (opnL_cons (opn_int Try.underlying3 (by kernel_rfl)) rfl (opnL_one (opn_int Try.underlying5 (by kernel_rfl))))))

/-- THE ONE PURE STATEMENT of forebaylaw20_NodesApart: yours. -/
def forebaylaw20_NodesApart.Pure : Prop := ∀ (l0_0 : List (S35)) (a0_1 : Int) (a0_2 : Int) (a0_3 : Int), inv24 ⟨l0_0, a0_1, a0_2, a0_3⟩ → forebaylaw20_NodesApart.f l0_0 a0_1 a0_2 a0_3 = some true
theorem forebaylaw20_NodesApart.walk (P : forebaylaw20_NodesApart.Pure) (A0_0 : Option Addr) (c0_0 : Nat) (l0_0 : List (S35)) (a0_1 : Int) (a0_2 : Int) (a0_3 : Int) (w : World) (hr0_0 : Kd.C k35 w A0_0 l0_0.length l0_0) (hc0_0 : l0_0.length ≤ c0_0) (y0 : inv24 ⟨l0_0, a0_1, a0_2, a0_3⟩) :
    Calls Try.prog 3 #[.agg #[.slice A0_0 l0_0.length c0_0, .int .i64 a0_1, .int .i64 a0_2, .int .u8 a0_3]] w fun e w' => e = .returned (.bool true) ∧ Below w.heap.size w w' := by
  have h := P l0_0 a0_1 a0_2 a0_3 y0
  refine (forebaylaw20_NodesApart.calls A0_0 c0_0 l0_0 a0_1 a0_2 a0_3 true w hr0_0 hc0_0 h).mono ?_
  rintro e w' ⟨rfl, hd⟩
  exact ⟨rfl, hd⟩

end Go.Proofs.Ytifebcdkckjphaa.P
