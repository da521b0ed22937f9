-- Written by this session's program gprint.py: functions of the program as plain functions, and that the machine does what they say. Not trusted: Lean checks it.
import Derived.Test.YthbonmpkjkihgaaPx0
namespace Go.Proofs.Ythbonmpkjkihgaa.P
open Go.RowKit Go.Proofs.YthbonmpkjkihgaaW.PrintWords Go.Proofs.YthbonmpkjkihgaaW.PrintLast Go.Proofs.YthbonmpkjkihgaaW.PrintMore
attribute [local go_sem] max2_int min2_int max_two min_two max_three min_three max_four min_four   -- for this text's walks alone
set_option linter.unusedVariables false
set_option linter.unusedSimpArgs false

/-! ### steps_put: function 36 -/
/-- Two rows of one's own, apart: a profile that is being made. -/
structure Two (W : World) (base : Nat) (vA vN : Value) (l : List (Int × Int)) : Prop where
  a : W.ownsRow base 2 1 vA l.length (nums .i64 (l.map (·.1)))
  n : W.ownsRow base 2 1 vN l.length (nums .i64 (l.map (·.2)))
  ne : ∀ k, vA.ownBlock = some k → vN.ownBlock ≠ some k
/-- A step put behind. -/
def putS (l : List (Int × Int)) (t n : Int) : List (Int × Int) :=
  match l.getLast? with
  | none => [(t, n)]
  | some p => if p.2 = n then l else if p.1 = t then l.dropLast ++ [(t, n)] else l ++ [(t, n)]
theorem putS_nil (t n : Int) : putS [] t n = [(t, n)] := rfl
theorem putS_snoc (l : List (Int × Int)) (p : Int × Int) (t n : Int) : putS (l ++ [p]) t n = if p.2 = n then l ++ [p] else if p.1 = t then l ++ [(t, n)] else l ++ [p] ++ [(t, n)] := by
  unfold putS
  rw [List.getLast?_concat]
  simp
theorem lit_new {W : World} {u : Value} {e : TypeId} {k : Nat} (hk : W.heap.size = k) : ∀ j v, [u][j]? = some v → (W.alloc (.cells #[u] e)).cell? ((⟨k, 0, none⟩ : Addr).add j) = some v := by
  subst hk
  intro j v hj
  exact World.news_of_block (cs := #[u]) (t := e) (fr := (0, 0)) (heap_alloc_new W _) j v hj
theorem lit_old {W : World} {u : Value} {e : TypeId} {k : Nat} {o : Obj} (hk : W.heap.size = k) : ∀ j v, [u][j]? = some v → ((W.alloc (.cells #[u] e)).alloc o).cell? ((⟨k, 0, none⟩ : Addr).add j) = some v := by
  subst hk
  intro j v hj
  exact World.news_of_block (cs := #[u]) (t := e) (fr := (0, 0)) ((Below.heap_alloc _ o _ (by simp)).trans (heap_alloc_new W _)) j v hj
theorem lit_kept {W W' : World} {u : Value} {k : Nat} {row : Option Nat} (h : ∀ j v, [u][j]? = some v → W.cell? ((⟨k, 0, none⟩ : Addr).add j) = some v) (hg : W.grownBy W' row) (hne : some k ≠ row) : ∀ j v, [u][j]? = some v → W'.cell? ((⟨k, 0, none⟩ : Addr).add j) = some v :=
  fun j v hj => hg.cell (h j v hj) (by rw [add_block]; exact hne)
/-- What put leaves. -/
def PutPost (w : World) (base : Nat) (vA vN : Value) (l : List (Int × Int)) (e : Ending) (w' : World) : Prop :=
  ∃ vA' vN', e = .returned (.agg #[vA', vN']) ∧ Two w' base vA' vN' l ∧ Keeps (fun k => vA.ownBlock ≠ some k ∧ vN.ownBlock ≠ some k) w w' ∧
    ∀ k, (vA'.ownBlock = some k ∨ vN'.ownBlock = some k) → k < w.heap.size → vA.ownBlock = some k ∨ vN.ownBlock = some k
theorem last_rd (l : List (Int × Int)) (h : 0 < l.length) : ∃ p, l.getLast? = some p ∧ rd (l.map (·.1)) ((l.length : Int) - 1) = p.1 ∧ rd (l.map (·.2)) ((l.length : Int) - 1) = p.2 := by
  rcases List.eq_nil_or_concat l with rfl | ⟨l', p, rfl⟩
  · simp at h
  · rw [List.concat_eq_append]
    refine ⟨p, List.getLast?_concat, ?_, ?_⟩ <;> simp [rd, List.getD_eq_getElem?_getD]
theorem put_tail {base H : Nat} {vA vN : Value} {l : List (Int × Int)} {t n : Int} {w Wz : World} {gA capA gN capN : Nat} {tmps : Array Value} {u0 u1 : Value} (ht : tmps[6]? = some (.pointer (some ⟨H + 1, 0, none⟩))) (hH : w.heap.size = H)
    (HY : BoxN Wz (H + 1) 24 [u0, u1])
    (HA : Wz.ownsRow base 2 1 (.slice (some ⟨gA, 0, none⟩) (l.length + 1) capA) (l.length + 1) (nums .i64 (l.map (·.1)) ++ [.int .i64 t]))
    (HN : Wz.ownsRow base 2 1 (.slice (some ⟨gN, 0, none⟩) (l.length + 1) capN) (l.length + 1) (nums .i64 (l.map (·.2)) ++ [.int .i64 n]))
    (HK : Keeps (fun k => vA.ownBlock ≠ some k ∧ vN.ownBlock ≠ some k) w Wz) (hA : vA.ownBlock = some gA ∨ H + 2 ≤ gA) (hN : vN.ownBlock = some gN ∨ H + 2 ≤ gN) (hne : gN ≠ gA)
    (hAlt : ∀ k, vA.ownBlock = some k → k < H) (hNlt : ∀ k, vN.ownBlock = some k → k < H) :
    bodyPost Try.prog Try.f36 (PutPost w base vA vN (l ++ [(t, n)])) Exit.ret { tmps := tmps, defers := [] }
      ((Wz.setCell ⟨H + 1, 0, none⟩ (.slice (some ⟨gA, 0, none⟩) (l.length + 1) capA)).setCell ⟨H + 1, 1, none⟩ (.slice (some ⟨gN, 0, none⟩) (l.length + 1) capN)) := by
  have hu24 := Try.underlying24
  have HY4 := (HY.set 0 (.slice (some ⟨gA, 0, none⟩) (l.length + 1) capA)).set 1 (.slice (some ⟨gN, 0, none⟩) (l.length + 1) capN)
  have hAH : gA ≠ H + 1 := fun e => hA.elim (fun e2 => by have := hAlt gA e2; omega) (fun e2 => by omega)
  have hNH : gN ≠ H + 1 := fun e => hN.elim (fun e2 => by have := hNlt gN e2; omega) (fun e2 => by omega)
  have HA4 := ownsRow_setCell_other (a := ⟨H + 1, 1, none⟩) (ownsRow_setCell_other (a := ⟨H + 1, 0, none⟩) HA (by simp [Value.ownBlock]; omega) (.slice (some ⟨gA, 0, none⟩) (l.length + 1) capA)) (by simp [Value.ownBlock]; omega) (.slice (some ⟨gN, 0, none⟩) (l.length + 1) capN)
  have HN4 := ownsRow_setCell_other (a := ⟨H + 1, 1, none⟩) (ownsRow_setCell_other (a := ⟨H + 1, 0, none⟩) HN (by simp [Value.ownBlock]; omega) (.slice (some ⟨gA, 0, none⟩) (l.length + 1) capA)) (by simp [Value.ownBlock]; omega) (.slice (some ⟨gN, 0, none⟩) (l.length + 1) capN)
  have HK4 := (HK.setCell (p := ⟨H + 1, 0, none⟩) (.slice (some ⟨gA, 0, none⟩) (l.length + 1) capA) (fun h => by have := h.1; simp at this; omega)).setCell (p := ⟨H + 1, 1, none⟩) (.slice (some ⟨gN, 0, none⟩) (l.length + 1) capN) (fun h => by have := h.1; simp at this; omega)
  generalize ((Wz.setCell ⟨H + 1, 0, none⟩ (.slice (some ⟨gA, 0, none⟩) (l.length + 1) capA)).setCell ⟨H + 1, 1, none⟩ (.slice (some ⟨gN, 0, none⟩) (l.length + 1) capN)) = W4 at *
  have hc0 := HY4.cell 0 rfl
  have hc1 := HY4.cell 1 rfl
  refine bodyPost_ret (v := .agg #[.slice (some ⟨gA, 0, none⟩) (l.length + 1) capA, .slice (some ⟨gN, 0, none⟩) (l.length + 1) capN]) ?_ rfl ?_
  · simp [results, Try.f36, asAddr, loadVar, go_sem, ht, hc0, hc1, hu24]
  · refine ⟨_, _, rfl, ⟨?_, ?_, fun k hk hk2 => ?_⟩, HK4, fun k hk hlt => ?_⟩
    · simpa [nums] using HA4
    · simpa [nums] using HN4
    · simp [Value.ownBlock] at hk hk2; omega
    · rcases hk with hk | hk
      · have : gA = k := by simpa [Value.ownBlock] using hk
        subst this
        exact .inl (hA.elim id (fun e => by omega))
      · have : gN = k := by simpa [Value.ownBlock] using hk
        subst this
        exact .inr (hN.elim id (fun e => by omega))
set_option maxHeartbeats 8000000 in
theorem steps_put_append (base : Nat) (vA vN : Value) (l : List (Int × Int)) (t n : Int) (w : World) (h : Two w base vA vN l) (hb : base ≤ w.heap.size) (hl : l.length ≤ 200000)
    (hn : ∀ p, l.getLast? = some p → p.2 ≠ n ∧ p.1 ≠ t) :
    Calls Try.prog 36 #[.agg #[vA, vN], .int .i64 t, .int .i64 n] w (PutPost w base vA vN (l ++ [(t, n)])) := by
  have hu24 := Try.underlying24
  obtain ⟨A, c, rfl⟩ := own_slice h.a
  obtain ⟨B, d, rfl⟩ := own_slice h.n
  obtain ⟨H, hH⟩ : ∃ H, w.heap.size = H := ⟨_, rfl⟩
  have HT := Aside0.mk h
  clear h
  obtain ⟨i0, hi, hz0, hz1, hz2⟩ := info_parts (P := Try.prog) (e := 2) (z := .int .i64 0) (size := 1) (bytes := 8) (by kernel_rfl)
  replace hi := Aside0.mk hi
  replace hz0 := Aside0.mk hz0
  replace hz1 := Aside0.mk hz1
  replace hz2 := Aside0.mk hz2
  go_enter Try.func36, Try.ntmps36
  go_upto_region 1 with fail
  obtain ⟨W0, hW0⟩ : ∃ W0, ((w.alloc (Obj.cells #[Value.slice A l.length c, Value.slice B l.length d] 24)).alloc (Obj.cells #[Value.slice none 0 0, Value.slice none 0 0] 24)) = W0 := ⟨_, rfl⟩
  have HK := Aside0.mk (show Keeps (fun k => True) w W0 by rw [← hW0]; exact ((Keeps.refl _ w).alloc _).alloc _)
  have hsz : W0.heap.size = H + 2 := by rw [← hW0]; simp [hH]
  have HX : BoxN W0 H 24 [.slice A l.length c, .slice B l.length d] := by rw [← hW0, ← hH]; exact (BoxN.new w _ [.slice A l.length c, .slice B l.length d]).alloc _
  have HY : BoxN W0 (H + 1) 24 [.slice none 0 0, .slice none 0 0] := by
    have := BoxN.new (w.alloc (Obj.cells #[Value.slice A l.length c, Value.slice B l.length d] 24)) 24 [.slice none 0 0, .slice none 0 0]
    rw [World.size_alloc, hH] at this
    rwa [← hW0]
  have HA : W0.ownsRow base 2 1 (.slice A l.length c) l.length (nums .i64 (l.map (·.1))) := by rw [← hW0]; exact (HT.out.a.alloc _).alloc _
  have HN : W0.ownsRow base 2 1 (.slice B l.length d) l.length (nums .i64 (l.map (·.2))) := by rw [← hW0]; exact (HT.out.n.alloc _).alloc _
  have hAlt := fun k hk => hH ▸ (HT.out.a.lt k hk).2
  have hNlt := fun k hk => hH ▸ (HT.out.n.lt k hk).2
  rw [hW0]
  clear hW0
  have hx0 := HX.cell 0 rfl
  have hx1 := HX.cell 1 rfl
  have hxf0 := HX.frozen 0
  have hxf1 := HX.frozen 1
  have hy0 := HY.cell 0 rfl
  have hy1 := HY.cell 1 rfl
  have hyf0 := HY.frozen 0
  have hyf1 := HY.frozen 1
  replace HX := Aside0.mk HX
  replace HY := Aside0.mk HY
  replace HA := Aside0.mk HA
  replace HN := Aside0.mk HN
  replace hAlt := Aside0.mk hAlt
  replace hNlt := Aside0.mk hNlt
  replace hsz := Aside0.mk hsz
  have hl1 : l.length + 1 ≤ maxLen := by have : (200001 : Nat) ≤ maxLen := by decide
                                         omega
  have hl8 : (l.length + 1) * 8 ≤ 140737488355328 := by omega
  by_cases hl0 : l.length = 0
  · have hi0 : decide ((0 : Int) ≤ (l.length : Int) - 1) = false := decide_eq_false (by omega)
    have hi1 : ((0 : Int) ≤ (l.length : Int) - 1) = False := eq_false (by omega)
    have hi2 : ((1 : Int) ≤ (l.length : Int)) = False := eq_false (by omega)
    have hi3 : decide ((1 : Int) ≤ (l.length : Int)) = false := decide_eq_false (by omega)
    replace hl0 := Aside0.mk hl0
    go_upto_region 7 with fail
    have hbase0 : base ≤ H + 2 := by omega
    have hAx : some H ≠ (Value.slice A l.length c).ownBlock := fun e => Nat.lt_irrefl _ (hAlt.out H e.symm)
    have hNx : some H ≠ (Value.slice B l.length d).ownBlock := fun e => Nat.lt_irrefl _ (hNlt.out H e.symm)
    have hAy : some (H + 1) ≠ (Value.slice A l.length c).ownBlock := fun e => by have := hAlt.out _ e.symm; omega
    have hNy : some (H + 1) ≠ (Value.slice B l.length d).ownBlock := fun e => by have := hNlt.out _ e.symm; omega
    have hAN : (Value.slice B l.length d).ownBlock = none ∨ (Value.slice B l.length d).ownBlock ≠ (Value.slice A l.length c).ownBlock := by
      cases hq : (Value.slice B l.length d).ownBlock with
      | none => exact .inl rfl
      | some q => exact .inr (fun e => HT.out.ne q e.symm hq)
    have hNAg : ∀ g, ((Value.slice A l.length c).ownBlock = some g ∨ H + 2 ≤ g) → ∀ cap, (Value.slice (some ⟨g, 0, none⟩) (l.length + 1) cap).ownBlock = none ∨ (Value.slice (some ⟨g, 0, none⟩) (l.length + 1) cap).ownBlock ≠ (Value.slice B l.length d).ownBlock := fun g hg cap => .inr (fun e => hg.elim (fun e2 => HT.out.ne g e2 (e.symm.trans rfl)) (fun e2 => by have := hNlt.out g (e.symm.trans rfl); omega))
    refine start_ (n := 14) (S := fun w' => BoxN w' H 24 [.slice A l.length c, .slice B l.length d]) (ds := [11, 13]) #[false, false, false, false, false, false, false, false, false, false, false, false, false, false] (by kernel_rfl) rfl rfl (show BoxN W0.drew H 24 [.slice A l.length c, .slice B l.length d] from HX.out) (fun hHeld => ?_)
    have HKp := Aside0.mk (show Keeps (fun k => (.slice A l.length c : Value).ownBlock ≠ some k ∧ (.slice B l.length d : Value).ownBlock ≠ some k) w W0.drew from (HK.out.mono (fun _ _ _ => trivial)).drew)
    replace HA := Aside0.mk (show W0.drew.ownsRow base 2 1 (.slice A l.length c) l.length (nums .i64 (l.map (·.1))) from HA.out)
    replace HN := Aside0.mk (show W0.drew.ownsRow base 2 1 (.slice B l.length d) l.length (nums .i64 (l.map (·.2))) from HN.out)
    replace HX := Aside0.mk (show BoxN W0.drew H 24 [.slice A l.length c, .slice B l.length d] from HX.out)
    replace HY := Aside0.mk (show BoxN W0.drew (H + 1) 24 [.slice none 0 0, .slice none 0 0] from HY.out)
    replace hsz := Aside0.mk (show H + 2 ≤ W0.drew.heap.size by have := hsz.out; show H + 2 ≤ W0.heap.size; omega)
    clear hx0 hx1 hxf0 hxf1 hy0 hy1 hyf0 hyf1 HK
    generalize W0.drew = W1 at HKp HA HN HX HY hsz hHeld ⊢
    refine pure_ (i := 0) (N := some 43) (v := ?_) (a' := ?_) #[true, false, false, false, false, false, false, false, false, false, false, false, false, false] rfl rfl (by kernel_rfl) (fun _ _ _ h => h) (Or.inl ⟨by rfl, ?_⟩) ?_ ?_
    rotate_left
    · intro w'
      go_simp
      with_reducible rfl
    rotate_left
    · simp only [Act.put, List.setIfInBounds_toArray, List.set_cons_zero, List.set_cons_succ, i64_w, i32_w]
      rfl
    refine pure_ (i := 2) (N := some 45) (v := ?_) (a' := ?_) #[true, false, true, false, false, false, false, false, false, false, false, false, false, false] rfl rfl (by kernel_rfl) (fun _ _ _ h => h) (Or.inl ⟨by rfl, ?_⟩) ?_ ?_
    rotate_left
    · intro w'
      go_simp
      with_reducible rfl
    rotate_left
    · simp only [Act.put, List.setIfInBounds_toArray, List.set_cons_zero, List.set_cons_succ, i64_w, i32_w]
      rfl
    refine pure_ (i := 5) (N := some 48) (v := ?_) (a' := ?_) #[true, false, true, false, false, true, false, false, false, false, false, false, false, false] rfl rfl (by kernel_rfl) (fun _ _ _ h => h) (Or.inl ⟨by rfl, ?_⟩) ?_ ?_
    rotate_left
    · intro w'
      go_simp
      with_reducible rfl
    rotate_left
    · simp only [Act.put, List.setIfInBounds_toArray, List.set_cons_zero, List.set_cons_succ, i64_w, i32_w]
      rfl
    refine pure_ (i := 7) (N := some 50) (v := ?_) (a' := ?_) #[true, false, true, false, false, true, false, true, false, false, false, false, false, false] rfl rfl (by kernel_rfl) (fun _ _ _ h => h) (Or.inl ⟨by rfl, ?_⟩) ?_ ?_
    rotate_left
    · intro w'
      go_simp
      with_reducible rfl
    rotate_left
    · simp only [Act.put, List.setIfInBounds_toArray, List.set_cons_zero, List.set_cons_succ, i64_w, i32_w]
      rfl
    refine take_ (i := 1) (N := some 44) (v := ?_) (a' := ?_) #[true, true, true, false, false, true, false, true, false, false, false, false, false, false] rfl rfl (by kernel_rfl) (fun _ _ _ h => h) (Or.inl ⟨by rfl, ?_⟩) hHeld ?_ ?_
    rotate_left
    · intro w' s_
      have s0_ := s_.cell 0 rfl
      clear s_
      go_simp
      with_reducible rfl
    rotate_left
    · simp only [Act.put, List.setIfInBounds_toArray, List.set_cons_zero, List.set_cons_succ, i64_w, i32_w]
      rfl
    refine take_ (i := 6) (N := some 49) (v := ?_) (a' := ?_) #[true, true, true, false, false, true, true, true, false, false, false, false, false, false] rfl rfl (by kernel_rfl) (fun _ _ _ h => h) (Or.inl ⟨by rfl, ?_⟩) hHeld ?_ ?_
    rotate_left
    · intro w' s_
      have s0_ := s_.cell 1 rfl
      clear s_
      go_simp
      with_reducible rfl
    rotate_left
    · simp only [Act.put, List.setIfInBounds_toArray, List.set_cons_zero, List.set_cons_succ, i64_w, i32_w]
      rfl
    refine two_ (i := 3) (j := 8) (Ni := some 46) (Nj := some 51) #[true, true, true, true, false, true, true, true, false, false, false, false, false, false] #[true, true, true, false, false, true, true, true, true, false, false, false, false, false] rfl rfl rfl rfl (by kernel_rfl) (by decide) (by decide) (fun K hK => ?_) (fun K hK => ?_)
    · refine value_ (w1 := ?_) (v := ?_) (by rfl) rfl ?_ ?_
      rotate_left 2
      · go_simp
        constructor
        · rfl
        · rfl
      obtain ⟨kA, hkA⟩ : ∃ k_ : Nat, W1.heap.size = k_ := ⟨_, rfl⟩
      have LITkA := Aside0.mk (lit_new (W := W1) (u := .int .i64 t) (e := 2) hkA)
      have HX' := HX.out.alloc (.cells #[.int .i64 t] 2)
      have HY' := Aside0.mk (HY.out.alloc (.cells #[.int .i64 t] 2))
      have HA' := Aside0.mk (HA.out.alloc (.cells #[.int .i64 t] 2))
      have HN' := Aside0.mk (HN.out.alloc (.cells #[.int .i64 t] 2))
      have HKp' := Aside0.mk (HKp.out.alloc (.cells #[.int .i64 t] 2))
      have LTkA := Aside0.mk (show H + 2 ≤ kA by have := hsz.out; omega)
      have LSkA := Aside0.mk (show kA < (W1.alloc (.cells #[.int .i64 t] 2)).heap.size by simp; omega)
      have hsz' := Aside0.mk (show H + 2 ≤ (W1.alloc (.cells #[.int .i64 t] 2)).heap.size by simp; have := hsz.out; omega)
      (try have LITkN' := Aside0.mk (fun j v hj => ((World.grownBy_alloc W1 (.cells #[.int .i64 t] 2) none).cell (LITkN.out j v hj) (by simp))))
      (try have LSkN' := Aside0.mk (show kN < (W1.alloc (.cells #[.int .i64 t] 2)).heap.size by simp; have := LSkN.out; omega))
      (try have hltgA' := Aside0.mk (show gA < (W1.alloc (.cells #[.int .i64 t] 2)).heap.size by simp; have := hltgA.out; omega))
      (try replace hltgA := hltgA')
      (try clear hltgA')
      (try replace LITkN := LITkN')
      (try replace LSkN := LSkN')
      (try clear LITkN')
      (try clear LSkN')
      rw [hkA]
      refine hK.out _ _ HX' (fun hHeld => ?_)
      clear hK K HX hsz HY HA HN HKp
      replace HX' := Aside0.mk HX'
      have HX := HX'
      clear HX'
      have hsz := hsz'
      clear hsz'
      have HY := HY'
      clear HY'
      have HA := HA'
      clear HA'
      have HN := HN'
      clear HN'
      have HKp := HKp'
      clear HKp'
      generalize (W1.alloc (.cells #[.int .i64 t] 2)) = W2 at *
      refine norm_ (a' := ?_) ?_ ?_
      rotate_left
      · show Act.put _ (some 46) _ = _
        simp only [Act.put, List.setIfInBounds_toArray, List.set_cons_zero, List.set_cons_succ, i64_w, i32_w]
        rfl
      refine two_ (i := 4) (j := 8) (Ni := some 47) (Nj := some 51) #[true, true, true, true, true, true, true, true, false, false, false, false, false, false] #[true, true, true, true, false, true, true, true, true, false, false, false, false, false] rfl rfl rfl rfl (by kernel_rfl) (by decide) (by decide) (fun K hK => ?_) (fun K hK => ?_)
      · refine step_append_lies _ (by rfl) (.tmp 44) (.tmp 46) 22 (by rfl) base 2 i0 (.int .i64 0) 1 8 Try.underlying22 hi.out hz0.out hz1.out hz2.out rfl (by omega) (.slice A l.length c) l.length (nums .i64 (l.map (·.1))) (by rfl) HA.out ⟨kA, 0, none⟩ 1 1 [.int .i64 t] (by rfl) (by rfl) LITkA.out (by simp [Value.oneCell']) (by omega) hl1 hl8 (by have := hsz.out; omega) _ rfl ?_
        intro gA capgA W3 howngA hggA hatgA hltgA
        have HX' := HX.out.kept hggA hAx
        have HY' := Aside0.mk (HY.out.kept hggA hAy)
        have HN' := Aside0.mk (HN.out.kept hggA hAN)
        have HKp' := Aside0.mk (HKp.out.grown hggA (fun k_ e_ h_ => h_.2.1 e_))
        have hsz' := Aside0.mk (Nat.le_trans hsz.out hggA.size)
        have HA' := Aside0.mk howngA
        have hatgA' := Aside0.mk (show (.slice A l.length c : Value).ownBlock = some gA ∨ H + 2 ≤ gA from hatgA.imp id (fun e_ => by have := hsz.out; omega))
        have hkNg := Aside0.mk (show ∀ k_, H + 2 ≤ k_ → k_ < W2.heap.size → some k_ ≠ (.slice A l.length c : Value).ownBlock from fun k_ h1_ _ e_ => by have := hAlt.out k_ e_.symm; omega)
        (try have LITkN' := Aside0.mk (lit_kept LITkN.out hggA (hkNg.out _ LTkN.out LSkN.out)))
        (try replace LITkN := LITkN')
        (try clear LITkN')
        have hneA := Aside0.mk (show (∀ q, (.slice B l.length d : Value).ownBlock = some q → q ≠ gA) from fun q hq e_ => hatgA.elim (fun e2_ => HT.out.ne q (by rw [e_]; exact e2_) hq) (fun e2_ => by have := hNlt.out q hq; have := hsz.out; omega))
        have hltgA' := Aside0.mk hltgA
        clear hatgA hltgA
        have hatgA := hatgA'
        have hltgA := hltgA'
        clear hatgA' hltgA'
        have hltm := Aside0.mk hggA.size
        refine hK.out _ _ HX' (fun hHeld => ?_)
        clear hK K HX hsz HY HA HN HKp hggA howngA
        replace HX' := Aside0.mk HX'
        have HX := HX'
        clear HX'
        have hsz := hsz'
        clear hsz'
        have HY := HY'
        clear HY'
        have HA := HA'
        clear HA'
        have HN := HN'
        clear HN'
        have HKp := HKp'
        clear HKp'
        refine norm_ (a' := ?_) ?_ ?_
        rotate_left
        · show Act.put _ (some 47) _ = _
          simp only [Act.put, List.setIfInBounds_toArray, List.set_cons_zero, List.set_cons_succ, i64_w, i32_w]
          rfl
        refine pure_ (i := 10) (N := some 53) (v := ?_) (a' := ?_) #[true, true, true, true, true, true, true, true, false, false, true, false, false, false] rfl rfl (by kernel_rfl) (fun _ _ _ h => h) (Or.inl ⟨by rfl, ?_⟩) ?_ ?_
        rotate_left
        · intro w'
          go_simp
          with_reducible rfl
        rotate_left
        · simp only [Act.put, List.setIfInBounds_toArray, List.set_cons_zero, List.set_cons_succ, i64_w, i32_w]
          rfl
        refine one_ (i := 8) (N := some 51) #[true, true, true, true, true, true, true, true, true, false, true, false, false, false] rfl rfl (by kernel_rfl) (by decide) (fun K hK => ?_)
        refine value_ (w1 := ?_) (v := ?_) (by rfl) rfl ?_ ?_
        rotate_left 2
        · go_simp
          constructor
          · rfl
          · rfl
        obtain ⟨kN, hkN⟩ : ∃ k_ : Nat, W3.heap.size = k_ := ⟨_, rfl⟩
        have LITkN := Aside0.mk (lit_new (W := W3) (u := .int .i64 n) (e := 2) hkN)
        have HX' := HX.out.alloc (.cells #[.int .i64 n] 2)
        have HY' := Aside0.mk (HY.out.alloc (.cells #[.int .i64 n] 2))
        have HA' := Aside0.mk (HA.out.alloc (.cells #[.int .i64 n] 2))
        have HN' := Aside0.mk (HN.out.alloc (.cells #[.int .i64 n] 2))
        have HKp' := Aside0.mk (HKp.out.alloc (.cells #[.int .i64 n] 2))
        have LTkN := Aside0.mk (show H + 2 ≤ kN by have := hsz.out; omega)
        have LSkN := Aside0.mk (show kN < (W3.alloc (.cells #[.int .i64 n] 2)).heap.size by simp; omega)
        have hsz' := Aside0.mk (show H + 2 ≤ (W3.alloc (.cells #[.int .i64 n] 2)).heap.size by simp; have := hsz.out; omega)
        (try have LITkA' := Aside0.mk (fun j v hj => ((World.grownBy_alloc W3 (.cells #[.int .i64 n] 2) none).cell (LITkA.out j v hj) (by simp))))
        (try have LSkA' := Aside0.mk (show kA < (W3.alloc (.cells #[.int .i64 n] 2)).heap.size by simp; have := LSkA.out; omega))
        (try have hltgA' := Aside0.mk (show gA < (W3.alloc (.cells #[.int .i64 n] 2)).heap.size by simp; have := hltgA.out; omega))
        (try replace hltgA := hltgA')
        (try clear hltgA')
        (try replace LITkA := LITkA')
        (try replace LSkA := LSkA')
        (try clear LITkA')
        (try clear LSkA')
        rw [hkN]
        refine hK.out _ _ HX' (fun hHeld => ?_)
        clear hK K HX hsz HY HA HN HKp
        replace HX' := Aside0.mk HX'
        have HX := HX'
        clear HX'
        have hsz := hsz'
        clear hsz'
        have HY := HY'
        clear HY'
        have HA := HA'
        clear HA'
        have HN := HN'
        clear HN'
        have HKp := HKp'
        clear HKp'
        generalize (W3.alloc (.cells #[.int .i64 n] 2)) = W4 at *
        refine norm_ (a' := ?_) ?_ ?_
        rotate_left
        · show Act.put _ (some 51) _ = _
          simp only [Act.put, List.setIfInBounds_toArray, List.set_cons_zero, List.set_cons_succ, i64_w, i32_w]
          rfl
        refine one_ (i := 9) (N := some 52) #[true, true, true, true, true, true, true, true, true, true, true, false, false, false] rfl rfl (by kernel_rfl) (by decide) (fun K hK => ?_)
        refine step_append_lies _ (by rfl) (.tmp 49) (.tmp 51) 22 (by rfl) base 2 i0 (.int .i64 0) 1 8 Try.underlying22 hi.out hz0.out hz1.out hz2.out rfl (by omega) (.slice B l.length d) l.length (nums .i64 (l.map (·.2))) (by rfl) HN.out ⟨kN, 0, none⟩ 1 1 [.int .i64 n] (by rfl) (by rfl) LITkN.out (by simp [Value.oneCell']) (by omega) hl1 hl8 (by have := hsz.out; omega) _ rfl ?_
        intro gN capgN W5 howngN hggN hatgN hltgN
        have HX' := HX.out.kept hggN hNx
        have HY' := Aside0.mk (HY.out.kept hggN hNy)
        have HA' := Aside0.mk (World.ownsRow.kept HA.out hggN (hNAg gA hatgA.out _))
        have HKp' := Aside0.mk (HKp.out.grown hggN (fun k_ e_ h_ => h_.2.2 e_))
        have hsz' := Aside0.mk (Nat.le_trans hsz.out hggN.size)
        have HN' := Aside0.mk howngN
        have hne2 : gN ≠ gA := fun e_ => hatgN.elim (fun e2_ => hneA.out gN e2_ e_) (fun e2_ => by have := hltgA.out; omega)
        have hatgN' := Aside0.mk (show (.slice B l.length d : Value).ownBlock = some gN ∨ H + 2 ≤ gN from hatgN.imp id (fun e_ => by have := hsz.out; omega))
        clear hatgN
        have hatgN := hatgN'
        clear hatgN'
        refine hK.out _ _ HX' (fun hHeld => ?_)
        clear hK K HX hsz HY HA HN HKp hggN howngN
        replace HX' := Aside0.mk HX'
        have HX := HX'
        clear HX'
        have hsz := hsz'
        clear hsz'
        have HY := HY'
        clear HY'
        have HA := HA'
        clear HA'
        have HN := HN'
        clear HN'
        have HKp := HKp'
        clear HKp'
        refine norm_ (a' := ?_) ?_ ?_
        rotate_left
        · show Act.put _ (some 52) _ = _
          simp only [Act.put, List.setIfInBounds_toArray, List.set_cons_zero, List.set_cons_succ, i64_w, i32_w]
          rfl
        have hc_ := HX.out.cell 0 rfl
        have hf_ := HX.out.frozen 0
        refine last_ (i := 11) (N := none) #[true, true, true, true, true, true, true, true, true, true, true, true, false, false] rfl rfl (by kernel_rfl) (by decide) (fun K hK => ?_)
        refine skip_ (w1 := ?_) (by rfl) rfl ?_ ?_
        rotate_left
        · go_simp
          rfl
        refine hK.out _ _ ?_
        clear hK K hc_ hf_
        have HX2 := HX.out.set 0 (Value.slice (some ⟨gA, 0, none⟩) (l.length + 1) capgA)
        refine pure_ (i := 12) (N := some 54) (v := ?_) (a' := ?_) #[true, true, true, true, true, true, true, true, true, true, true, true, true, false] rfl rfl (by kernel_rfl) (fun _ _ _ h => h) (Or.inl ⟨by rfl, ?_⟩) ?_ ?_
        rotate_left
        · intro w'
          go_simp
          with_reducible rfl
        rotate_left
        · simp only [Act.put, List.setIfInBounds_toArray, List.set_cons_zero, List.set_cons_succ, i64_w, i32_w]
          rfl
        have hc_ := HX2.cell 1 rfl
        have hf_ := HX2.frozen 1
        refine last_ (i := 13) (N := none) #[true, true, true, true, true, true, true, true, true, true, true, true, true, true] rfl rfl (by kernel_rfl) (by decide) (fun K hK => ?_)
        refine skip_ (w1 := ?_) (by rfl) rfl ?_ ?_
        rotate_left
        · go_simp
          rfl
        refine hK.out _ _ ?_
        clear hK K hc_ hf_
        refine done_ (by kernel_rfl) ?_
        have HX3 := HX2.set 1 (Value.slice (some ⟨gN, 0, none⟩) (l.length + 1) capgN)
        have HY3 := (HY.out.other (p := ⟨H, 0, none⟩) (by simp) (Value.slice (some ⟨gA, 0, none⟩) (l.length + 1) capgA)).other (p := ⟨H, 1, none⟩) (by simp) (Value.slice (some ⟨gN, 0, none⟩) (l.length + 1) capgN)
        have hAH : gA ≠ H := fun e_ => hatgA.out.elim (fun e2_ => by have := hAlt.out gA e2_; omega) (fun e2_ => by omega)
        have hNH : gN ≠ H := fun e_ => hatgN.out.elim (fun e2_ => by have := hNlt.out gN e2_; omega) (fun e2_ => by omega)
        have HA3 := ownsRow_setCell_other (a := ⟨H, 1, none⟩) (ownsRow_setCell_other (a := ⟨H, 0, none⟩) HA.out (by simp [Value.ownBlock]; omega) (Value.slice (some ⟨gA, 0, none⟩) (l.length + 1) capgA)) (by simp [Value.ownBlock]; omega) (Value.slice (some ⟨gN, 0, none⟩) (l.length + 1) capgN)
        have HN3 := ownsRow_setCell_other (a := ⟨H, 1, none⟩) (ownsRow_setCell_other (a := ⟨H, 0, none⟩) HN.out (by simp [Value.ownBlock]; omega) (Value.slice (some ⟨gA, 0, none⟩) (l.length + 1) capgA)) (by simp [Value.ownBlock]; omega) (Value.slice (some ⟨gN, 0, none⟩) (l.length + 1) capgN)
        have HK3 := (HKp.out.setCell (p := ⟨H, 0, none⟩) (Value.slice (some ⟨gA, 0, none⟩) (l.length + 1) capgA) (fun h_ => by have h2_ : H < w.heap.size := h_.1; omega)).setCell (p := ⟨H, 1, none⟩) (Value.slice (some ⟨gN, 0, none⟩) (l.length + 1) capgN) (fun h_ => by have h2_ : H < w.heap.size := h_.1; omega)
        generalize ((W5.setCell ⟨H, 0, none⟩ (Value.slice (some ⟨gA, 0, none⟩) (l.length + 1) capgA)).setCell ⟨H, 1, none⟩ (Value.slice (some ⟨gN, 0, none⟩) (l.length + 1) capgN)) = Wz at *
        have hq0 := HX3.cell 0 rfl
        have hq1 := HX3.cell 1 rfl
        have hq2 := HX3.frozen 0
        have hq3 := HX3.frozen 1
        have hr0 := HY3.cell 0 rfl
        have hr1 := HY3.cell 1 rfl
        have hr2 := HY3.frozen 0
        have hr3 := HY3.frozen 1
        replace hne2 := Aside0.mk hne2
        go_wp2
        exact put_tail rfl hH HY3 HA3 HN3 HK3 hatgA.out hatgN.out hne2.out hAlt.out hNlt.out
      · refine value_ (w1 := ?_) (v := ?_) (by rfl) rfl ?_ ?_
        rotate_left 2
        · go_simp
          constructor
          · rfl
          · rfl
        obtain ⟨kN, hkN⟩ : ∃ k_ : Nat, W2.heap.size = k_ := ⟨_, rfl⟩
        have LITkN := Aside0.mk (lit_new (W := W2) (u := .int .i64 n) (e := 2) hkN)
        have HX' := HX.out.alloc (.cells #[.int .i64 n] 2)
        have HY' := Aside0.mk (HY.out.alloc (.cells #[.int .i64 n] 2))
        have HA' := Aside0.mk (HA.out.alloc (.cells #[.int .i64 n] 2))
        have HN' := Aside0.mk (HN.out.alloc (.cells #[.int .i64 n] 2))
        have HKp' := Aside0.mk (HKp.out.alloc (.cells #[.int .i64 n] 2))
        have LTkN := Aside0.mk (show H + 2 ≤ kN by have := hsz.out; omega)
        have LSkN := Aside0.mk (show kN < (W2.alloc (.cells #[.int .i64 n] 2)).heap.size by simp; omega)
        have hsz' := Aside0.mk (show H + 2 ≤ (W2.alloc (.cells #[.int .i64 n] 2)).heap.size by simp; have := hsz.out; omega)
        (try have LITkA' := Aside0.mk (fun j v hj => ((World.grownBy_alloc W2 (.cells #[.int .i64 n] 2) none).cell (LITkA.out j v hj) (by simp))))
        (try have LSkA' := Aside0.mk (show kA < (W2.alloc (.cells #[.int .i64 n] 2)).heap.size by simp; have := LSkA.out; omega))
        (try have hltgA' := Aside0.mk (show gA < (W2.alloc (.cells #[.int .i64 n] 2)).heap.size by simp; have := hltgA.out; omega))
        (try replace hltgA := hltgA')
        (try clear hltgA')
        (try replace LITkA := LITkA')
        (try replace LSkA := LSkA')
        (try clear LITkA')
        (try clear LSkA')
        rw [hkN]
        refine hK.out _ _ HX' (fun hHeld => ?_)
        clear hK K HX hsz HY HA HN HKp
        replace HX' := Aside0.mk HX'
        have HX := HX'
        clear HX'
        have hsz := hsz'
        clear hsz'
        have HY := HY'
        clear HY'
        have HA := HA'
        clear HA'
        have HN := HN'
        clear HN'
        have HKp := HKp'
        clear HKp'
        generalize (W2.alloc (.cells #[.int .i64 n] 2)) = W3 at *
        refine norm_ (a' := ?_) ?_ ?_
        rotate_left
        · show Act.put _ (some 51) _ = _
          simp only [Act.put, List.setIfInBounds_toArray, List.set_cons_zero, List.set_cons_succ, i64_w, i32_w]
          rfl
        refine one_ (i := 4) (N := some 47) #[true, true, true, true, true, true, true, true, true, false, false, false, false, false] rfl rfl (by kernel_rfl) (by decide) (fun K hK => ?_)
        refine step_append_lies _ (by rfl) (.tmp 44) (.tmp 46) 22 (by rfl) base 2 i0 (.int .i64 0) 1 8 Try.underlying22 hi.out hz0.out hz1.out hz2.out rfl (by omega) (.slice A l.length c) l.length (nums .i64 (l.map (·.1))) (by rfl) HA.out ⟨kA, 0, none⟩ 1 1 [.int .i64 t] (by rfl) (by rfl) LITkA.out (by simp [Value.oneCell']) (by omega) hl1 hl8 (by have := hsz.out; omega) _ rfl ?_
        intro gA capgA W4 howngA hggA hatgA hltgA
        have HX' := HX.out.kept hggA hAx
        have HY' := Aside0.mk (HY.out.kept hggA hAy)
        have HN' := Aside0.mk (HN.out.kept hggA hAN)
        have HKp' := Aside0.mk (HKp.out.grown hggA (fun k_ e_ h_ => h_.2.1 e_))
        have hsz' := Aside0.mk (Nat.le_trans hsz.out hggA.size)
        have HA' := Aside0.mk howngA
        have hatgA' := Aside0.mk (show (.slice A l.length c : Value).ownBlock = some gA ∨ H + 2 ≤ gA from hatgA.imp id (fun e_ => by have := hsz.out; omega))
        have hkNg := Aside0.mk (show ∀ k_, H + 2 ≤ k_ → k_ < W3.heap.size → some k_ ≠ (.slice A l.length c : Value).ownBlock from fun k_ h1_ _ e_ => by have := hAlt.out k_ e_.symm; omega)
        (try have LITkN' := Aside0.mk (lit_kept LITkN.out hggA (hkNg.out _ LTkN.out LSkN.out)))
        (try replace LITkN := LITkN')
        (try clear LITkN')
        have hneA := Aside0.mk (show (∀ q, (.slice B l.length d : Value).ownBlock = some q → q ≠ gA) from fun q hq e_ => hatgA.elim (fun e2_ => HT.out.ne q (by rw [e_]; exact e2_) hq) (fun e2_ => by have := hNlt.out q hq; have := hsz.out; omega))
        have hltgA' := Aside0.mk hltgA
        clear hatgA hltgA
        have hatgA := hatgA'
        have hltgA := hltgA'
        clear hatgA' hltgA'
        have hltm := Aside0.mk hggA.size
        refine hK.out _ _ HX' (fun hHeld => ?_)
        clear hK K HX hsz HY HA HN HKp hggA howngA
        replace HX' := Aside0.mk HX'
        have HX := HX'
        clear HX'
        have hsz := hsz'
        clear hsz'
        have HY := HY'
        clear HY'
        have HA := HA'
        clear HA'
        have HN := HN'
        clear HN'
        have HKp := HKp'
        clear HKp'
        refine norm_ (a' := ?_) ?_ ?_
        rotate_left
        · show Act.put _ (some 47) _ = _
          simp only [Act.put, List.setIfInBounds_toArray, List.set_cons_zero, List.set_cons_succ, i64_w, i32_w]
          rfl
        refine pure_ (i := 10) (N := some 53) (v := ?_) (a' := ?_) #[true, true, true, true, true, true, true, true, true, false, true, false, false, false] rfl rfl (by kernel_rfl) (fun _ _ _ h => h) (Or.inl ⟨by rfl, ?_⟩) ?_ ?_
        rotate_left
        · intro w'
          go_simp
          with_reducible rfl
        rotate_left
        · simp only [Act.put, List.setIfInBounds_toArray, List.set_cons_zero, List.set_cons_succ, i64_w, i32_w]
          rfl
        refine one_ (i := 9) (N := some 52) #[true, true, true, true, true, true, true, true, true, true, true, false, false, false] rfl rfl (by kernel_rfl) (by decide) (fun K hK => ?_)
        refine step_append_lies _ (by rfl) (.tmp 49) (.tmp 51) 22 (by rfl) base 2 i0 (.int .i64 0) 1 8 Try.underlying22 hi.out hz0.out hz1.out hz2.out rfl (by omega) (.slice B l.length d) l.length (nums .i64 (l.map (·.2))) (by rfl) HN.out ⟨kN, 0, none⟩ 1 1 [.int .i64 n] (by rfl) (by rfl) LITkN.out (by simp [Value.oneCell']) (by omega) hl1 hl8 (by have := hsz.out; omega) _ rfl ?_
        intro gN capgN W5 howngN hggN hatgN hltgN
        have HX' := HX.out.kept hggN hNx
        have HY' := Aside0.mk (HY.out.kept hggN hNy)
        have HA' := Aside0.mk (World.ownsRow.kept HA.out hggN (hNAg gA hatgA.out _))
        have HKp' := Aside0.mk (HKp.out.grown hggN (fun k_ e_ h_ => h_.2.2 e_))
        have hsz' := Aside0.mk (Nat.le_trans hsz.out hggN.size)
        have HN' := Aside0.mk howngN
        have hne2 : gN ≠ gA := fun e_ => hatgN.elim (fun e2_ => hneA.out gN e2_ e_) (fun e2_ => by have := hltgA.out; omega)
        have hatgN' := Aside0.mk (show (.slice B l.length d : Value).ownBlock = some gN ∨ H + 2 ≤ gN from hatgN.imp id (fun e_ => by have := hsz.out; omega))
        clear hatgN
        have hatgN := hatgN'
        clear hatgN'
        refine hK.out _ _ HX' (fun hHeld => ?_)
        clear hK K HX hsz HY HA HN HKp hggN howngN
        replace HX' := Aside0.mk HX'
        have HX := HX'
        clear HX'
        have hsz := hsz'
        clear hsz'
        have HY := HY'
        clear HY'
        have HA := HA'
        clear HA'
        have HN := HN'
        clear HN'
        have HKp := HKp'
        clear HKp'
        refine norm_ (a' := ?_) ?_ ?_
        rotate_left
        · show Act.put _ (some 52) _ = _
          simp only [Act.put, List.setIfInBounds_toArray, List.set_cons_zero, List.set_cons_succ, i64_w, i32_w]
          rfl
        have hc_ := HX.out.cell 0 rfl
        have hf_ := HX.out.frozen 0
        refine last_ (i := 11) (N := none) #[true, true, true, true, true, true, true, true, true, true, true, true, false, false] rfl rfl (by kernel_rfl) (by decide) (fun K hK => ?_)
        refine skip_ (w1 := ?_) (by rfl) rfl ?_ ?_
        rotate_left
        · go_simp
          rfl
        refine hK.out _ _ ?_
        clear hK K hc_ hf_
        have HX2 := HX.out.set 0 (Value.slice (some ⟨gA, 0, none⟩) (l.length + 1) capgA)
        refine pure_ (i := 12) (N := some 54) (v := ?_) (a' := ?_) #[true, true, true, true, true, true, true, true, true, true, true, true, true, false] rfl rfl (by kernel_rfl) (fun _ _ _ h => h) (Or.inl ⟨by rfl, ?_⟩) ?_ ?_
        rotate_left
        · intro w'
          go_simp
          with_reducible rfl
        rotate_left
        · simp only [Act.put, List.setIfInBounds_toArray, List.set_cons_zero, List.set_cons_succ, i64_w, i32_w]
          rfl
        have hc_ := HX2.cell 1 rfl
        have hf_ := HX2.frozen 1
        refine last_ (i := 13) (N := none) #[true, true, true, true, true, true, true, true, true, true, true, true, true, true] rfl rfl (by kernel_rfl) (by decide) (fun K hK => ?_)
        refine skip_ (w1 := ?_) (by rfl) rfl ?_ ?_
        rotate_left
        · go_simp
          rfl
        refine hK.out _ _ ?_
        clear hK K hc_ hf_
        refine done_ (by kernel_rfl) ?_
        have HX3 := HX2.set 1 (Value.slice (some ⟨gN, 0, none⟩) (l.length + 1) capgN)
        have HY3 := (HY.out.other (p := ⟨H, 0, none⟩) (by simp) (Value.slice (some ⟨gA, 0, none⟩) (l.length + 1) capgA)).other (p := ⟨H, 1, none⟩) (by simp) (Value.slice (some ⟨gN, 0, none⟩) (l.length + 1) capgN)
        have hAH : gA ≠ H := fun e_ => hatgA.out.elim (fun e2_ => by have := hAlt.out gA e2_; omega) (fun e2_ => by omega)
        have hNH : gN ≠ H := fun e_ => hatgN.out.elim (fun e2_ => by have := hNlt.out gN e2_; omega) (fun e2_ => by omega)
        have HA3 := ownsRow_setCell_other (a := ⟨H, 1, none⟩) (ownsRow_setCell_other (a := ⟨H, 0, none⟩) HA.out (by simp [Value.ownBlock]; omega) (Value.slice (some ⟨gA, 0, none⟩) (l.length + 1) capgA)) (by simp [Value.ownBlock]; omega) (Value.slice (some ⟨gN, 0, none⟩) (l.length + 1) capgN)
        have HN3 := ownsRow_setCell_other (a := ⟨H, 1, none⟩) (ownsRow_setCell_other (a := ⟨H, 0, none⟩) HN.out (by simp [Value.ownBlock]; omega) (Value.slice (some ⟨gA, 0, none⟩) (l.length + 1) capgA)) (by simp [Value.ownBlock]; omega) (Value.slice (some ⟨gN, 0, none⟩) (l.length + 1) capgN)
        have HK3 := (HKp.out.setCell (p := ⟨H, 0, none⟩) (Value.slice (some ⟨gA, 0, none⟩) (l.length + 1) capgA) (fun h_ => by have h2_ : H < w.heap.size := h_.1; omega)).setCell (p := ⟨H, 1, none⟩) (Value.slice (some ⟨gN, 0, none⟩) (l.length + 1) capgN) (fun h_ => by have h2_ : H < w.heap.size := h_.1; omega)
        generalize ((W5.setCell ⟨H, 0, none⟩ (Value.slice (some ⟨gA, 0, none⟩) (l.length + 1) capgA)).setCell ⟨H, 1, none⟩ (Value.slice (some ⟨gN, 0, none⟩) (l.length + 1) capgN)) = Wz at *
        have hq0 := HX3.cell 0 rfl
        have hq1 := HX3.cell 1 rfl
        have hq2 := HX3.frozen 0
        have hq3 := HX3.frozen 1
        have hr0 := HY3.cell 0 rfl
        have hr1 := HY3.cell 1 rfl
        have hr2 := HY3.frozen 0
        have hr3 := HY3.frozen 1
        replace hne2 := Aside0.mk hne2
        go_wp2
        exact put_tail rfl hH HY3 HA3 HN3 HK3 hatgA.out hatgN.out hne2.out hAlt.out hNlt.out
    · refine value_ (w1 := ?_) (v := ?_) (by rfl) rfl ?_ ?_
      rotate_left 2
      · go_simp
        constructor
        · rfl
        · rfl
      obtain ⟨kN, hkN⟩ : ∃ k_ : Nat, W1.heap.size = k_ := ⟨_, rfl⟩
      have LITkN := Aside0.mk (lit_new (W := W1) (u := .int .i64 n) (e := 2) hkN)
      have HX' := HX.out.alloc (.cells #[.int .i64 n] 2)
      have HY' := Aside0.mk (HY.out.alloc (.cells #[.int .i64 n] 2))
      have HA' := Aside0.mk (HA.out.alloc (.cells #[.int .i64 n] 2))
      have HN' := Aside0.mk (HN.out.alloc (.cells #[.int .i64 n] 2))
      have HKp' := Aside0.mk (HKp.out.alloc (.cells #[.int .i64 n] 2))
      have LTkN := Aside0.mk (show H + 2 ≤ kN by have := hsz.out; omega)
      have LSkN := Aside0.mk (show kN < (W1.alloc (.cells #[.int .i64 n] 2)).heap.size by simp; omega)
      have hsz' := Aside0.mk (show H + 2 ≤ (W1.alloc (.cells #[.int .i64 n] 2)).heap.size by simp; have := hsz.out; omega)
      (try have LITkA' := Aside0.mk (fun j v hj => ((World.grownBy_alloc W1 (.cells #[.int .i64 n] 2) none).cell (LITkA.out j v hj) (by simp))))
      (try have LSkA' := Aside0.mk (show kA < (W1.alloc (.cells #[.int .i64 n] 2)).heap.size by simp; have := LSkA.out; omega))
      (try have hltgA' := Aside0.mk (show gA < (W1.alloc (.cells #[.int .i64 n] 2)).heap.size by simp; have := hltgA.out; omega))
      (try replace hltgA := hltgA')
      (try clear hltgA')
      (try replace LITkA := LITkA')
      (try replace LSkA := LSkA')
      (try clear LITkA')
      (try clear LSkA')
      rw [hkN]
      refine hK.out _ _ HX' (fun hHeld => ?_)
      clear hK K HX hsz HY HA HN HKp
      replace HX' := Aside0.mk HX'
      have HX := HX'
      clear HX'
      have hsz := hsz'
      clear hsz'
      have HY := HY'
      clear HY'
      have HA := HA'
      clear HA'
      have HN := HN'
      clear HN'
      have HKp := HKp'
      clear HKp'
      generalize (W1.alloc (.cells #[.int .i64 n] 2)) = W2 at *
      refine norm_ (a' := ?_) ?_ ?_
      rotate_left
      · show Act.put _ (some 51) _ = _
        simp only [Act.put, List.setIfInBounds_toArray, List.set_cons_zero, List.set_cons_succ, i64_w, i32_w]
        rfl
      refine one_ (i := 3) (N := some 46) #[true, true, true, true, false, true, true, true, true, false, false, false, false, false] rfl rfl (by kernel_rfl) (by decide) (fun K hK => ?_)
      refine value_ (w1 := ?_) (v := ?_) (by rfl) rfl ?_ ?_
      rotate_left 2
      · go_simp
        constructor
        · rfl
        · rfl
      obtain ⟨kA, hkA⟩ : ∃ k_ : Nat, W2.heap.size = k_ := ⟨_, rfl⟩
      have LITkA := Aside0.mk (lit_new (W := W2) (u := .int .i64 t) (e := 2) hkA)
      have HX' := HX.out.alloc (.cells #[.int .i64 t] 2)
      have HY' := Aside0.mk (HY.out.alloc (.cells #[.int .i64 t] 2))
      have HA' := Aside0.mk (HA.out.alloc (.cells #[.int .i64 t] 2))
      have HN' := Aside0.mk (HN.out.alloc (.cells #[.int .i64 t] 2))
      have HKp' := Aside0.mk (HKp.out.alloc (.cells #[.int .i64 t] 2))
      have LTkA := Aside0.mk (show H + 2 ≤ kA by have := hsz.out; omega)
      have LSkA := Aside0.mk (show kA < (W2.alloc (.cells #[.int .i64 t] 2)).heap.size by simp; omega)
      have hsz' := Aside0.mk (show H + 2 ≤ (W2.alloc (.cells #[.int .i64 t] 2)).heap.size by simp; have := hsz.out; omega)
      (try have LITkN' := Aside0.mk (fun j v hj => ((World.grownBy_alloc W2 (.cells #[.int .i64 t] 2) none).cell (LITkN.out j v hj) (by simp))))
      (try have LSkN' := Aside0.mk (show kN < (W2.alloc (.cells #[.int .i64 t] 2)).heap.size by simp; have := LSkN.out; omega))
      (try have hltgA' := Aside0.mk (show gA < (W2.alloc (.cells #[.int .i64 t] 2)).heap.size by simp; have := hltgA.out; omega))
      (try replace hltgA := hltgA')
      (try clear hltgA')
      (try replace LITkN := LITkN')
      (try replace LSkN := LSkN')
      (try clear LITkN')
      (try clear LSkN')
      rw [hkA]
      refine hK.out _ _ HX' (fun hHeld => ?_)
      clear hK K HX hsz HY HA HN HKp
      replace HX' := Aside0.mk HX'
      have HX := HX'
      clear HX'
      have hsz := hsz'
      clear hsz'
      have HY := HY'
      clear HY'
      have HA := HA'
      clear HA'
      have HN := HN'
      clear HN'
      have HKp := HKp'
      clear HKp'
      generalize (W2.alloc (.cells #[.int .i64 t] 2)) = W3 at *
      refine norm_ (a' := ?_) ?_ ?_
      rotate_left
      · show Act.put _ (some 46) _ = _
        simp only [Act.put, List.setIfInBounds_toArray, List.set_cons_zero, List.set_cons_succ, i64_w, i32_w]
        rfl
      refine one_ (i := 4) (N := some 47) #[true, true, true, true, true, true, true, true, true, false, false, false, false, false] rfl rfl (by kernel_rfl) (by decide) (fun K hK => ?_)
      refine step_append_lies _ (by rfl) (.tmp 44) (.tmp 46) 22 (by rfl) base 2 i0 (.int .i64 0) 1 8 Try.underlying22 hi.out hz0.out hz1.out hz2.out rfl (by omega) (.slice A l.length c) l.length (nums .i64 (l.map (·.1))) (by rfl) HA.out ⟨kA, 0, none⟩ 1 1 [.int .i64 t] (by rfl) (by rfl) LITkA.out (by simp [Value.oneCell']) (by omega) hl1 hl8 (by have := hsz.out; omega) _ rfl ?_
      intro gA capgA W4 howngA hggA hatgA hltgA
      have HX' := HX.out.kept hggA hAx
      have HY' := Aside0.mk (HY.out.kept hggA hAy)
      have HN' := Aside0.mk (HN.out.kept hggA hAN)
      have HKp' := Aside0.mk (HKp.out.grown hggA (fun k_ e_ h_ => h_.2.1 e_))
      have hsz' := Aside0.mk (Nat.le_trans hsz.out hggA.size)
      have HA' := Aside0.mk howngA
      have hatgA' := Aside0.mk (show (.slice A l.length c : Value).ownBlock = some gA ∨ H + 2 ≤ gA from hatgA.imp id (fun e_ => by have := hsz.out; omega))
      have hkNg := Aside0.mk (show ∀ k_, H + 2 ≤ k_ → k_ < W3.heap.size → some k_ ≠ (.slice A l.length c : Value).ownBlock from fun k_ h1_ _ e_ => by have := hAlt.out k_ e_.symm; omega)
      (try have LITkN' := Aside0.mk (lit_kept LITkN.out hggA (hkNg.out _ LTkN.out LSkN.out)))
      (try replace LITkN := LITkN')
      (try clear LITkN')
      have hneA := Aside0.mk (show (∀ q, (.slice B l.length d : Value).ownBlock = some q → q ≠ gA) from fun q hq e_ => hatgA.elim (fun e2_ => HT.out.ne q (by rw [e_]; exact e2_) hq) (fun e2_ => by have := hNlt.out q hq; have := hsz.out; omega))
      have hltgA' := Aside0.mk hltgA
      clear hatgA hltgA
      have hatgA := hatgA'
      have hltgA := hltgA'
      clear hatgA' hltgA'
      have hltm := Aside0.mk hggA.size
      refine hK.out _ _ HX' (fun hHeld => ?_)
      clear hK K HX hsz HY HA HN HKp hggA howngA
      replace HX' := Aside0.mk HX'
      have HX := HX'
      clear HX'
      have hsz := hsz'
      clear hsz'
      have HY := HY'
      clear HY'
      have HA := HA'
      clear HA'
      have HN := HN'
      clear HN'
      have HKp := HKp'
      clear HKp'
      refine norm_ (a' := ?_) ?_ ?_
      rotate_left
      · show Act.put _ (some 47) _ = _
        simp only [Act.put, List.setIfInBounds_toArray, List.set_cons_zero, List.set_cons_succ, i64_w, i32_w]
        rfl
      refine pure_ (i := 10) (N := some 53) (v := ?_) (a' := ?_) #[true, true, true, true, true, true, true, true, true, false, true, false, false, false] rfl rfl (by kernel_rfl) (fun _ _ _ h => h) (Or.inl ⟨by rfl, ?_⟩) ?_ ?_
      rotate_left
      · intro w'
        go_simp
        with_reducible rfl
      rotate_left
      · simp only [Act.put, List.setIfInBounds_toArray, List.set_cons_zero, List.set_cons_succ, i64_w, i32_w]
        rfl
      refine one_ (i := 9) (N := some 52) #[true, true, true, true, true, true, true, true, true, true, true, false, false, false] rfl rfl (by kernel_rfl) (by decide) (fun K hK => ?_)
      refine step_append_lies _ (by rfl) (.tmp 49) (.tmp 51) 22 (by rfl) base 2 i0 (.int .i64 0) 1 8 Try.underlying22 hi.out hz0.out hz1.out hz2.out rfl (by omega) (.slice B l.length d) l.length (nums .i64 (l.map (·.2))) (by rfl) HN.out ⟨kN, 0, none⟩ 1 1 [.int .i64 n] (by rfl) (by rfl) LITkN.out (by simp [Value.oneCell']) (by omega) hl1 hl8 (by have := hsz.out; omega) _ rfl ?_
      intro gN capgN W5 howngN hggN hatgN hltgN
      have HX' := HX.out.kept hggN hNx
      have HY' := Aside0.mk (HY.out.kept hggN hNy)
      have HA' := Aside0.mk (World.ownsRow.kept HA.out hggN (hNAg gA hatgA.out _))
      have HKp' := Aside0.mk (HKp.out.grown hggN (fun k_ e_ h_ => h_.2.2 e_))
      have hsz' := Aside0.mk (Nat.le_trans hsz.out hggN.size)
      have HN' := Aside0.mk howngN
      have hne2 : gN ≠ gA := fun e_ => hatgN.elim (fun e2_ => hneA.out gN e2_ e_) (fun e2_ => by have := hltgA.out; omega)
      have hatgN' := Aside0.mk (show (.slice B l.length d : Value).ownBlock = some gN ∨ H + 2 ≤ gN from hatgN.imp id (fun e_ => by have := hsz.out; omega))
      clear hatgN
      have hatgN := hatgN'
      clear hatgN'
      refine hK.out _ _ HX' (fun hHeld => ?_)
      clear hK K HX hsz HY HA HN HKp hggN howngN
      replace HX' := Aside0.mk HX'
      have HX := HX'
      clear HX'
      have hsz := hsz'
      clear hsz'
      have HY := HY'
      clear HY'
      have HA := HA'
      clear HA'
      have HN := HN'
      clear HN'
      have HKp := HKp'
      clear HKp'
      refine norm_ (a' := ?_) ?_ ?_
      rotate_left
      · show Act.put _ (some 52) _ = _
        simp only [Act.put, List.setIfInBounds_toArray, List.set_cons_zero, List.set_cons_succ, i64_w, i32_w]
        rfl
      have hc_ := HX.out.cell 0 rfl
      have hf_ := HX.out.frozen 0
      refine last_ (i := 11) (N := none) #[true, true, true, true, true, true, true, true, true, true, true, true, false, false] rfl rfl (by kernel_rfl) (by decide) (fun K hK => ?_)
      refine skip_ (w1 := ?_) (by rfl) rfl ?_ ?_
      rotate_left
      · go_simp
        rfl
      refine hK.out _ _ ?_
      clear hK K hc_ hf_
      have HX2 := HX.out.set 0 (Value.slice (some ⟨gA, 0, none⟩) (l.length + 1) capgA)
      refine pure_ (i := 12) (N := some 54) (v := ?_) (a' := ?_) #[true, true, true, true, true, true, true, true, true, true, true, true, true, false] rfl rfl (by kernel_rfl) (fun _ _ _ h => h) (Or.inl ⟨by rfl, ?_⟩) ?_ ?_
      rotate_left
      · intro w'
        go_simp
        with_reducible rfl
      rotate_left
      · simp only [Act.put, List.setIfInBounds_toArray, List.set_cons_zero, List.set_cons_succ, i64_w, i32_w]
        rfl
      have hc_ := HX2.cell 1 rfl
      have hf_ := HX2.frozen 1
      refine last_ (i := 13) (N := none) #[true, true, true, true, true, true, true, true, true, true, true, true, true, true] rfl rfl (by kernel_rfl) (by decide) (fun K hK => ?_)
      refine skip_ (w1 := ?_) (by rfl) rfl ?_ ?_
      rotate_left
      · go_simp
        rfl
      refine hK.out _ _ ?_
      clear hK K hc_ hf_
      refine done_ (by kernel_rfl) ?_
      have HX3 := HX2.set 1 (Value.slice (some ⟨gN, 0, none⟩) (l.length + 1) capgN)
      have HY3 := (HY.out.other (p := ⟨H, 0, none⟩) (by simp) (Value.slice (some ⟨gA, 0, none⟩) (l.length + 1) capgA)).other (p := ⟨H, 1, none⟩) (by simp) (Value.slice (some ⟨gN, 0, none⟩) (l.length + 1) capgN)
      have hAH : gA ≠ H := fun e_ => hatgA.out.elim (fun e2_ => by have := hAlt.out gA e2_; omega) (fun e2_ => by omega)
      have hNH : gN ≠ H := fun e_ => hatgN.out.elim (fun e2_ => by have := hNlt.out gN e2_; omega) (fun e2_ => by omega)
      have HA3 := ownsRow_setCell_other (a := ⟨H, 1, none⟩) (ownsRow_setCell_other (a := ⟨H, 0, none⟩) HA.out (by simp [Value.ownBlock]; omega) (Value.slice (some ⟨gA, 0, none⟩) (l.length + 1) capgA)) (by simp [Value.ownBlock]; omega) (Value.slice (some ⟨gN, 0, none⟩) (l.length + 1) capgN)
      have HN3 := ownsRow_setCell_other (a := ⟨H, 1, none⟩) (ownsRow_setCell_other (a := ⟨H, 0, none⟩) HN.out (by simp [Value.ownBlock]; omega) (Value.slice (some ⟨gA, 0, none⟩) (l.length + 1) capgA)) (by simp [Value.ownBlock]; omega) (Value.slice (some ⟨gN, 0, none⟩) (l.length + 1) capgN)
      have HK3 := (HKp.out.setCell (p := ⟨H, 0, none⟩) (Value.slice (some ⟨gA, 0, none⟩) (l.length + 1) capgA) (fun h_ => by have h2_ : H < w.heap.size := h_.1; omega)).setCell (p := ⟨H, 1, none⟩) (Value.slice (some ⟨gN, 0, none⟩) (l.length + 1) capgN) (fun h_ => by have h2_ : H < w.heap.size := h_.1; omega)
      generalize ((W5.setCell ⟨H, 0, none⟩ (Value.slice (some ⟨gA, 0, none⟩) (l.length + 1) capgA)).setCell ⟨H, 1, none⟩ (Value.slice (some ⟨gN, 0, none⟩) (l.length + 1) capgN)) = Wz at *
      have hq0 := HX3.cell 0 rfl
      have hq1 := HX3.cell 1 rfl
      have hq2 := HX3.frozen 0
      have hq3 := HX3.frozen 1
      have hr0 := HY3.cell 0 rfl
      have hr1 := HY3.cell 1 rfl
      have hr2 := HY3.frozen 0
      have hr3 := HY3.frozen 1
      replace hne2 := Aside0.mk hne2
      go_wp2
      exact put_tail rfl hH HY3 HA3 HN3 HK3 hatgA.out hatgN.out hne2.out hAlt.out hNlt.out
  · have hl00 : 0 < l.length := by omega
    have hi0 : decide ((0 : Int) ≤ (l.length : Int) - 1) = true := decide_eq_true (by omega)
    have hi1 : ((0 : Int) ≤ (l.length : Int) - 1) = True := eq_true (by omega)
    have hi2 : ((1 : Int) ≤ (l.length : Int)) = True := eq_true (by omega)
    have hi3 : decide ((1 : Int) ≤ (l.length : Int)) = true := decide_eq_true (by omega)
    have hi4 : ((l.length : Int) - 1 < (l.length : Int)) = True := eq_true (by omega)
    obtain ⟨g1, cap1, e1, _, _⟩ := HT.out.a.form hl00
    injection e1 with e1 _ e1c
    subst e1
    subst e1c
    obtain ⟨g2, cap2, e2, _, _⟩ := HT.out.n.form hl00
    injection e2 with e2 _ e2c
    subst e2
    subst e2c
    obtain ⟨p, hp1, hp2, hp3⟩ := last_rd l hl00
    obtain ⟨hc1, hd1⟩ := own_at HA.out ((l.length : Int) - 1) (by omega) (by omega)
    obtain ⟨hc2, hd2⟩ := own_at HN.out ((l.length : Int) - 1) (by omega) (by omega)
    have htn : ((l.length : Int) - 1).toNat = l.length - 1 := by omega
    rw [hp2, htn] at hc1
    rw [hp3, htn] at hc2
    rw [htn] at hd1 hd2
    have hb1 : (p.2 == n) = false := beq_eq_false_iff_ne.mpr (hn p hp1).1
    have hb2 : (p.1 == t) = false := beq_eq_false_iff_ne.mpr (hn p hp1).2
    replace hl0 := Aside0.mk hl0
    replace hl00 := Aside0.mk hl00
    go_upto_region 7 with fail
    clear hc1 hd1 hc2 hd2
    have hbase0 : base ≤ H + 2 := by omega
    have hAx : some H ≠ (Value.slice (some ⟨g1, 0, none⟩) l.length c).ownBlock := fun e => Nat.lt_irrefl _ (hAlt.out H e.symm)
    have hNx : some H ≠ (Value.slice (some ⟨g2, 0, none⟩) l.length d).ownBlock := fun e => Nat.lt_irrefl _ (hNlt.out H e.symm)
    have hAy : some (H + 1) ≠ (Value.slice (some ⟨g1, 0, none⟩) l.length c).ownBlock := fun e => by have := hAlt.out _ e.symm; omega
    have hNy : some (H + 1) ≠ (Value.slice (some ⟨g2, 0, none⟩) l.length d).ownBlock := fun e => by have := hNlt.out _ e.symm; omega
    have hAN : (Value.slice (some ⟨g2, 0, none⟩) l.length d).ownBlock = none ∨ (Value.slice (some ⟨g2, 0, none⟩) l.length d).ownBlock ≠ (Value.slice (some ⟨g1, 0, none⟩) l.length c).ownBlock := by
      cases hq : (Value.slice (some ⟨g2, 0, none⟩) l.length d).ownBlock with
      | none => exact .inl rfl
      | some q => exact .inr (fun e => HT.out.ne q e.symm hq)
    have hNAg : ∀ g, ((Value.slice (some ⟨g1, 0, none⟩) l.length c).ownBlock = some g ∨ H + 2 ≤ g) → ∀ cap, (Value.slice (some ⟨g, 0, none⟩) (l.length + 1) cap).ownBlock = none ∨ (Value.slice (some ⟨g, 0, none⟩) (l.length + 1) cap).ownBlock ≠ (Value.slice (some ⟨g2, 0, none⟩) l.length d).ownBlock := fun g hg cap => .inr (fun e => hg.elim (fun e2 => HT.out.ne g e2 (e.symm.trans rfl)) (fun e2 => by have := hNlt.out g (e.symm.trans rfl); omega))
    refine start_ (n := 14) (S := fun w' => BoxN w' H 24 [.slice (some ⟨g1, 0, none⟩) l.length c, .slice (some ⟨g2, 0, none⟩) l.length d]) (ds := [11, 13]) #[false, false, false, false, false, false, false, false, false, false, false, false, false, false] (by kernel_rfl) rfl rfl (show BoxN W0.drew H 24 [.slice (some ⟨g1, 0, none⟩) l.length c, .slice (some ⟨g2, 0, none⟩) l.length d] from HX.out) (fun hHeld => ?_)
    have HKp := Aside0.mk (show Keeps (fun k => (.slice (some ⟨g1, 0, none⟩) l.length c : Value).ownBlock ≠ some k ∧ (.slice (some ⟨g2, 0, none⟩) l.length d : Value).ownBlock ≠ some k) w W0.drew from (HK.out.mono (fun _ _ _ => trivial)).drew)
    replace HA := Aside0.mk (show W0.drew.ownsRow base 2 1 (.slice (some ⟨g1, 0, none⟩) l.length c) l.length (nums .i64 (l.map (·.1))) from HA.out)
    replace HN := Aside0.mk (show W0.drew.ownsRow base 2 1 (.slice (some ⟨g2, 0, none⟩) l.length d) l.length (nums .i64 (l.map (·.2))) from HN.out)
    replace HX := Aside0.mk (show BoxN W0.drew H 24 [.slice (some ⟨g1, 0, none⟩) l.length c, .slice (some ⟨g2, 0, none⟩) l.length d] from HX.out)
    replace HY := Aside0.mk (show BoxN W0.drew (H + 1) 24 [.slice none 0 0, .slice none 0 0] from HY.out)
    replace hsz := Aside0.mk (show H + 2 ≤ W0.drew.heap.size by have := hsz.out; show H + 2 ≤ W0.heap.size; omega)
    clear hx0 hx1 hxf0 hxf1 hy0 hy1 hyf0 hyf1 HK
    generalize W0.drew = W1 at HKp HA HN HX HY hsz hHeld ⊢
    refine pure_ (i := 0) (N := some 43) (v := ?_) (a' := ?_) #[true, false, false, false, false, false, false, false, false, false, false, false, false, false] rfl rfl (by kernel_rfl) (fun _ _ _ h => h) (Or.inl ⟨by rfl, ?_⟩) ?_ ?_
    rotate_left
    · intro w'
      go_simp
      with_reducible rfl
    rotate_left
    · simp only [Act.put, List.setIfInBounds_toArray, List.set_cons_zero, List.set_cons_succ, i64_w, i32_w]
      rfl
    refine pure_ (i := 2) (N := some 45) (v := ?_) (a' := ?_) #[true, false, true, false, false, false, false, false, false, false, false, false, false, false] rfl rfl (by kernel_rfl) (fun _ _ _ h => h) (Or.inl ⟨by rfl, ?_⟩) ?_ ?_
    rotate_left
    · intro w'
      go_simp
      with_reducible rfl
    rotate_left
    · simp only [Act.put, List.setIfInBounds_toArray, List.set_cons_zero, List.set_cons_succ, i64_w, i32_w]
      rfl
    refine pure_ (i := 5) (N := some 48) (v := ?_) (a' := ?_) #[true, false, true, false, false, true, false, false, false, false, false, false, false, false] rfl rfl (by kernel_rfl) (fun _ _ _ h => h) (Or.inl ⟨by rfl, ?_⟩) ?_ ?_
    rotate_left
    · intro w'
      go_simp
      with_reducible rfl
    rotate_left
    · simp only [Act.put, List.setIfInBounds_toArray, List.set_cons_zero, List.set_cons_succ, i64_w, i32_w]
      rfl
    refine pure_ (i := 7) (N := some 50) (v := ?_) (a' := ?_) #[true, false, true, false, false, true, false, true, false, false, false, false, false, false] rfl rfl (by kernel_rfl) (fun _ _ _ h => h) (Or.inl ⟨by rfl, ?_⟩) ?_ ?_
    rotate_left
    · intro w'
      go_simp
      with_reducible rfl
    rotate_left
    · simp only [Act.put, List.setIfInBounds_toArray, List.set_cons_zero, List.set_cons_succ, i64_w, i32_w]
      rfl
    refine take_ (i := 1) (N := some 44) (v := ?_) (a' := ?_) #[true, true, true, false, false, true, false, true, false, false, false, false, false, false] rfl rfl (by kernel_rfl) (fun _ _ _ h => h) (Or.inl ⟨by rfl, ?_⟩) hHeld ?_ ?_
    rotate_left
    · intro w' s_
      have s0_ := s_.cell 0 rfl
      clear s_
      go_simp
      with_reducible rfl
    rotate_left
    · simp only [Act.put, List.setIfInBounds_toArray, List.set_cons_zero, List.set_cons_succ, i64_w, i32_w]
      rfl
    refine take_ (i := 6) (N := some 49) (v := ?_) (a' := ?_) #[true, true, true, false, false, true, true, true, false, false, false, false, false, false] rfl rfl (by kernel_rfl) (fun _ _ _ h => h) (Or.inl ⟨by rfl, ?_⟩) hHeld ?_ ?_
    rotate_left
    · intro w' s_
      have s0_ := s_.cell 1 rfl
      clear s_
      go_simp
      with_reducible rfl
    rotate_left
    · simp only [Act.put, List.setIfInBounds_toArray, List.set_cons_zero, List.set_cons_succ, i64_w, i32_w]
      rfl
    refine two_ (i := 3) (j := 8) (Ni := some 46) (Nj := some 51) #[true, true, true, true, false, true, true, true, false, false, false, false, false, false] #[true, true, true, false, false, true, true, true, true, false, false, false, false, false] rfl rfl rfl rfl (by kernel_rfl) (by decide) (by decide) (fun K hK => ?_) (fun K hK => ?_)
    · refine value_ (w1 := ?_) (v := ?_) (by rfl) rfl ?_ ?_
      rotate_left 2
      · go_simp
        constructor
        · rfl
        · rfl
      obtain ⟨kA, hkA⟩ : ∃ k_ : Nat, W1.heap.size = k_ := ⟨_, rfl⟩
      have LITkA := Aside0.mk (lit_new (W := W1) (u := .int .i64 t) (e := 2) hkA)
      have HX' := HX.out.alloc (.cells #[.int .i64 t] 2)
      have HY' := Aside0.mk (HY.out.alloc (.cells #[.int .i64 t] 2))
      have HA' := Aside0.mk (HA.out.alloc (.cells #[.int .i64 t] 2))
      have HN' := Aside0.mk (HN.out.alloc (.cells #[.int .i64 t] 2))
      have HKp' := Aside0.mk (HKp.out.alloc (.cells #[.int .i64 t] 2))
      have LTkA := Aside0.mk (show H + 2 ≤ kA by have := hsz.out; omega)
      have LSkA := Aside0.mk (show kA < (W1.alloc (.cells #[.int .i64 t] 2)).heap.size by simp; omega)
      have hsz' := Aside0.mk (show H + 2 ≤ (W1.alloc (.cells #[.int .i64 t] 2)).heap.size by simp; have := hsz.out; omega)
      (try have LITkN' := Aside0.mk (fun j v hj => ((World.grownBy_alloc W1 (.cells #[.int .i64 t] 2) none).cell (LITkN.out j v hj) (by simp))))
      (try have LSkN' := Aside0.mk (show kN < (W1.alloc (.cells #[.int .i64 t] 2)).heap.size by simp; have := LSkN.out; omega))
      (try have hltgA' := Aside0.mk (show gA < (W1.alloc (.cells #[.int .i64 t] 2)).heap.size by simp; have := hltgA.out; omega))
      (try replace hltgA := hltgA')
      (try clear hltgA')
      (try replace LITkN := LITkN')
      (try replace LSkN := LSkN')
      (try clear LITkN')
      (try clear LSkN')
      rw [hkA]
      refine hK.out _ _ HX' (fun hHeld => ?_)
      clear hK K HX hsz HY HA HN HKp
      replace HX' := Aside0.mk HX'
      have HX := HX'
      clear HX'
      have hsz := hsz'
      clear hsz'
      have HY := HY'
      clear HY'
      have HA := HA'
      clear HA'
      have HN := HN'
      clear HN'
      have HKp := HKp'
      clear HKp'
      generalize (W1.alloc (.cells #[.int .i64 t] 2)) = W2 at *
      refine norm_ (a' := ?_) ?_ ?_
      rotate_left
      · show Act.put _ (some 46) _ = _
        simp only [Act.put, List.setIfInBounds_toArray, List.set_cons_zero, List.set_cons_succ, i64_w, i32_w]
        rfl
      refine two_ (i := 4) (j := 8) (Ni := some 47) (Nj := some 51) #[true, true, true, true, true, true, true, true, false, false, false, false, false, false] #[true, true, true, true, false, true, true, true, true, false, false, false, false, false] rfl rfl rfl rfl (by kernel_rfl) (by decide) (by decide) (fun K hK => ?_) (fun K hK => ?_)
      · refine step_append_lies _ (by rfl) (.tmp 44) (.tmp 46) 22 (by rfl) base 2 i0 (.int .i64 0) 1 8 Try.underlying22 hi.out hz0.out hz1.out hz2.out rfl (by omega) (.slice (some ⟨g1, 0, none⟩) l.length c) l.length (nums .i64 (l.map (·.1))) (by rfl) HA.out ⟨kA, 0, none⟩ 1 1 [.int .i64 t] (by rfl) (by rfl) LITkA.out (by simp [Value.oneCell']) (by omega) hl1 hl8 (by have := hsz.out; omega) _ rfl ?_
        intro gA capgA W3 howngA hggA hatgA hltgA
        have HX' := HX.out.kept hggA hAx
        have HY' := Aside0.mk (HY.out.kept hggA hAy)
        have HN' := Aside0.mk (HN.out.kept hggA hAN)
        have HKp' := Aside0.mk (HKp.out.grown hggA (fun k_ e_ h_ => h_.2.1 e_))
        have hsz' := Aside0.mk (Nat.le_trans hsz.out hggA.size)
        have HA' := Aside0.mk howngA
        have hatgA' := Aside0.mk (show (.slice (some ⟨g1, 0, none⟩) l.length c : Value).ownBlock = some gA ∨ H + 2 ≤ gA from hatgA.imp id (fun e_ => by have := hsz.out; omega))
        have hkNg := Aside0.mk (show ∀ k_, H + 2 ≤ k_ → k_ < W2.heap.size → some k_ ≠ (.slice (some ⟨g1, 0, none⟩) l.length c : Value).ownBlock from fun k_ h1_ _ e_ => by have := hAlt.out k_ e_.symm; omega)
        (try have LITkN' := Aside0.mk (lit_kept LITkN.out hggA (hkNg.out _ LTkN.out LSkN.out)))
        (try replace LITkN := LITkN')
        (try clear LITkN')
        have hneA := Aside0.mk (show (∀ q, (.slice (some ⟨g2, 0, none⟩) l.length d : Value).ownBlock = some q → q ≠ gA) from fun q hq e_ => hatgA.elim (fun e2_ => HT.out.ne q (by rw [e_]; exact e2_) hq) (fun e2_ => by have := hNlt.out q hq; have := hsz.out; omega))
        have hltgA' := Aside0.mk hltgA
        clear hatgA hltgA
        have hatgA := hatgA'
        have hltgA := hltgA'
        clear hatgA' hltgA'
        have hltm := Aside0.mk hggA.size
        refine hK.out _ _ HX' (fun hHeld => ?_)
        clear hK K HX hsz HY HA HN HKp hggA howngA
        replace HX' := Aside0.mk HX'
        have HX := HX'
        clear HX'
        have hsz := hsz'
        clear hsz'
        have HY := HY'
        clear HY'
        have HA := HA'
        clear HA'
        have HN := HN'
        clear HN'
        have HKp := HKp'
        clear HKp'
        refine norm_ (a' := ?_) ?_ ?_
        rotate_left
        · show Act.put _ (some 47) _ = _
          simp only [Act.put, List.setIfInBounds_toArray, List.set_cons_zero, List.set_cons_succ, i64_w, i32_w]
          rfl
        refine pure_ (i := 10) (N := some 53) (v := ?_) (a' := ?_) #[true, true, true, true, true, true, true, true, false, false, true, false, false, false] rfl rfl (by kernel_rfl) (fun _ _ _ h => h) (Or.inl ⟨by rfl, ?_⟩) ?_ ?_
        rotate_left
        · intro w'
          go_simp
          with_reducible rfl
        rotate_left
        · simp only [Act.put, List.setIfInBounds_toArray, List.set_cons_zero, List.set_cons_succ, i64_w, i32_w]
          rfl
        refine one_ (i := 8) (N := some 51) #[true, true, true, true, true, true, true, true, true, false, true, false, false, false] rfl rfl (by kernel_rfl) (by decide) (fun K hK => ?_)
        refine value_ (w1 := ?_) (v := ?_) (by rfl) rfl ?_ ?_
        rotate_left 2
        · go_simp
          constructor
          · rfl
          · rfl
        obtain ⟨kN, hkN⟩ : ∃ k_ : Nat, W3.heap.size = k_ := ⟨_, rfl⟩
        have LITkN := Aside0.mk (lit_new (W := W3) (u := .int .i64 n) (e := 2) hkN)
        have HX' := HX.out.alloc (.cells #[.int .i64 n] 2)
        have HY' := Aside0.mk (HY.out.alloc (.cells #[.int .i64 n] 2))
        have HA' := Aside0.mk (HA.out.alloc (.cells #[.int .i64 n] 2))
        have HN' := Aside0.mk (HN.out.alloc (.cells #[.int .i64 n] 2))
        have HKp' := Aside0.mk (HKp.out.alloc (.cells #[.int .i64 n] 2))
        have LTkN := Aside0.mk (show H + 2 ≤ kN by have := hsz.out; omega)
        have LSkN := Aside0.mk (show kN < (W3.alloc (.cells #[.int .i64 n] 2)).heap.size by simp; omega)
        have hsz' := Aside0.mk (show H + 2 ≤ (W3.alloc (.cells #[.int .i64 n] 2)).heap.size by simp; have := hsz.out; omega)
        (try have LITkA' := Aside0.mk (fun j v hj => ((World.grownBy_alloc W3 (.cells #[.int .i64 n] 2) none).cell (LITkA.out j v hj) (by simp))))
        (try have LSkA' := Aside0.mk (show kA < (W3.alloc (.cells #[.int .i64 n] 2)).heap.size by simp; have := LSkA.out; omega))
        (try have hltgA' := Aside0.mk (show gA < (W3.alloc (.cells #[.int .i64 n] 2)).heap.size by simp; have := hltgA.out; omega))
        (try replace hltgA := hltgA')
        (try clear hltgA')
        (try replace LITkA := LITkA')
        (try replace LSkA := LSkA')
        (try clear LITkA')
        (try clear LSkA')
        rw [hkN]
        refine hK.out _ _ HX' (fun hHeld => ?_)
        clear hK K HX hsz HY HA HN HKp
        replace HX' := Aside0.mk HX'
        have HX := HX'
        clear HX'
        have hsz := hsz'
        clear hsz'
        have HY := HY'
        clear HY'
        have HA := HA'
        clear HA'
        have HN := HN'
        clear HN'
        have HKp := HKp'
        clear HKp'
        generalize (W3.alloc (.cells #[.int .i64 n] 2)) = W4 at *
        refine norm_ (a' := ?_) ?_ ?_
        rotate_left
        · show Act.put _ (some 51) _ = _
          simp only [Act.put, List.setIfInBounds_toArray, List.set_cons_zero, List.set_cons_succ, i64_w, i32_w]
          rfl
        refine one_ (i := 9) (N := some 52) #[true, true, true, true, true, true, true, true, true, true, true, false, false, false] rfl rfl (by kernel_rfl) (by decide) (fun K hK => ?_)
        refine step_append_lies _ (by rfl) (.tmp 49) (.tmp 51) 22 (by rfl) base 2 i0 (.int .i64 0) 1 8 Try.underlying22 hi.out hz0.out hz1.out hz2.out rfl (by omega) (.slice (some ⟨g2, 0, none⟩) l.length d) l.length (nums .i64 (l.map (·.2))) (by rfl) HN.out ⟨kN, 0, none⟩ 1 1 [.int .i64 n] (by rfl) (by rfl) LITkN.out (by simp [Value.oneCell']) (by omega) hl1 hl8 (by have := hsz.out; omega) _ rfl ?_
        intro gN capgN W5 howngN hggN hatgN hltgN
        have HX' := HX.out.kept hggN hNx
        have HY' := Aside0.mk (HY.out.kept hggN hNy)
        have HA' := Aside0.mk (World.ownsRow.kept HA.out hggN (hNAg gA hatgA.out _))
        have HKp' := Aside0.mk (HKp.out.grown hggN (fun k_ e_ h_ => h_.2.2 e_))
        have hsz' := Aside0.mk (Nat.le_trans hsz.out hggN.size)
        have HN' := Aside0.mk howngN
        have hne2 : gN ≠ gA := fun e_ => hatgN.elim (fun e2_ => hneA.out gN e2_ e_) (fun e2_ => by have := hltgA.out; omega)
        have hatgN' := Aside0.mk (show (.slice (some ⟨g2, 0, none⟩) l.length d : Value).ownBlock = some gN ∨ H + 2 ≤ gN from hatgN.imp id (fun e_ => by have := hsz.out; omega))
        clear hatgN
        have hatgN := hatgN'
        clear hatgN'
        refine hK.out _ _ HX' (fun hHeld => ?_)
        clear hK K HX hsz HY HA HN HKp hggN howngN
        replace HX' := Aside0.mk HX'
        have HX := HX'
        clear HX'
        have hsz := hsz'
        clear hsz'
        have HY := HY'
        clear HY'
        have HA := HA'
        clear HA'
        have HN := HN'
        clear HN'
        have HKp := HKp'
        clear HKp'
        refine norm_ (a' := ?_) ?_ ?_
        rotate_left
        · show Act.put _ (some 52) _ = _
          simp only [Act.put, List.setIfInBounds_toArray, List.set_cons_zero, List.set_cons_succ, i64_w, i32_w]
          rfl
        have hc_ := HX.out.cell 0 rfl
        have hf_ := HX.out.frozen 0
        refine last_ (i := 11) (N := none) #[true, true, true, true, true, true, true, true, true, true, true, true, false, false] rfl rfl (by kernel_rfl) (by decide) (fun K hK => ?_)
        refine skip_ (w1 := ?_) (by rfl) rfl ?_ ?_
        rotate_left
        · go_simp
          rfl
        refine hK.out _ _ ?_
        clear hK K hc_ hf_
        have HX2 := HX.out.set 0 (Value.slice (some ⟨gA, 0, none⟩) (l.length + 1) capgA)
        refine pure_ (i := 12) (N := some 54) (v := ?_) (a' := ?_) #[true, true, true, true, true, true, true, true, true, true, true, true, true, false] rfl rfl (by kernel_rfl) (fun _ _ _ h => h) (Or.inl ⟨by rfl, ?_⟩) ?_ ?_
        rotate_left
        · intro w'
          go_simp
          with_reducible rfl
        rotate_left
        · simp only [Act.put, List.setIfInBounds_toArray, List.set_cons_zero, List.set_cons_succ, i64_w, i32_w]
          rfl
        have hc_ := HX2.cell 1 rfl
        have hf_ := HX2.frozen 1
        refine last_ (i := 13) (N := none) #[true, true, true, true, true, true, true, true, true, true, true, true, true, true] rfl rfl (by kernel_rfl) (by decide) (fun K hK => ?_)
        refine skip_ (w1 := ?_) (by rfl) rfl ?_ ?_
        rotate_left
        · go_simp
          rfl
        refine hK.out _ _ ?_
        clear hK K hc_ hf_
        refine done_ (by kernel_rfl) ?_
        have HX3 := HX2.set 1 (Value.slice (some ⟨gN, 0, none⟩) (l.length + 1) capgN)
        have HY3 := (HY.out.other (p := ⟨H, 0, none⟩) (by simp) (Value.slice (some ⟨gA, 0, none⟩) (l.length + 1) capgA)).other (p := ⟨H, 1, none⟩) (by simp) (Value.slice (some ⟨gN, 0, none⟩) (l.length + 1) capgN)
        have hAH : gA ≠ H := fun e_ => hatgA.out.elim (fun e2_ => by have := hAlt.out gA e2_; omega) (fun e2_ => by omega)
        have hNH : gN ≠ H := fun e_ => hatgN.out.elim (fun e2_ => by have := hNlt.out gN e2_; omega) (fun e2_ => by omega)
        have HA3 := ownsRow_setCell_other (a := ⟨H, 1, none⟩) (ownsRow_setCell_other (a := ⟨H, 0, none⟩) HA.out (by simp [Value.ownBlock]; omega) (Value.slice (some ⟨gA, 0, none⟩) (l.length + 1) capgA)) (by simp [Value.ownBlock]; omega) (Value.slice (some ⟨gN, 0, none⟩) (l.length + 1) capgN)
        have HN3 := ownsRow_setCell_other (a := ⟨H, 1, none⟩) (ownsRow_setCell_other (a := ⟨H, 0, none⟩) HN.out (by simp [Value.ownBlock]; omega) (Value.slice (some ⟨gA, 0, none⟩) (l.length + 1) capgA)) (by simp [Value.ownBlock]; omega) (Value.slice (some ⟨gN, 0, none⟩) (l.length + 1) capgN)
        have HK3 := (HKp.out.setCell (p := ⟨H, 0, none⟩) (Value.slice (some ⟨gA, 0, none⟩) (l.length + 1) capgA) (fun h_ => by have h2_ : H < w.heap.size := h_.1; omega)).setCell (p := ⟨H, 1, none⟩) (Value.slice (some ⟨gN, 0, none⟩) (l.length + 1) capgN) (fun h_ => by have h2_ : H < w.heap.size := h_.1; omega)
        generalize ((W5.setCell ⟨H, 0, none⟩ (Value.slice (some ⟨gA, 0, none⟩) (l.length + 1) capgA)).setCell ⟨H, 1, none⟩ (Value.slice (some ⟨gN, 0, none⟩) (l.length + 1) capgN)) = Wz at *
        have hq0 := HX3.cell 0 rfl
        have hq1 := HX3.cell 1 rfl
        have hq2 := HX3.frozen 0
        have hq3 := HX3.frozen 1
        have hr0 := HY3.cell 0 rfl
        have hr1 := HY3.cell 1 rfl
        have hr2 := HY3.frozen 0
        have hr3 := HY3.frozen 1
        replace hne2 := Aside0.mk hne2
        go_wp2
        exact put_tail rfl hH HY3 HA3 HN3 HK3 hatgA.out hatgN.out hne2.out hAlt.out hNlt.out
      · refine value_ (w1 := ?_) (v := ?_) (by rfl) rfl ?_ ?_
        rotate_left 2
        · go_simp
          constructor
          · rfl
          · rfl
        obtain ⟨kN, hkN⟩ : ∃ k_ : Nat, W2.heap.size = k_ := ⟨_, rfl⟩
        have LITkN := Aside0.mk (lit_new (W := W2) (u := .int .i64 n) (e := 2) hkN)
        have HX' := HX.out.alloc (.cells #[.int .i64 n] 2)
        have HY' := Aside0.mk (HY.out.alloc (.cells #[.int .i64 n] 2))
        have HA' := Aside0.mk (HA.out.alloc (.cells #[.int .i64 n] 2))
        have HN' := Aside0.mk (HN.out.alloc (.cells #[.int .i64 n] 2))
        have HKp' := Aside0.mk (HKp.out.alloc (.cells #[.int .i64 n] 2))
        have LTkN := Aside0.mk (show H + 2 ≤ kN by have := hsz.out; omega)
        have LSkN := Aside0.mk (show kN < (W2.alloc (.cells #[.int .i64 n] 2)).heap.size by simp; omega)
        have hsz' := Aside0.mk (show H + 2 ≤ (W2.alloc (.cells #[.int .i64 n] 2)).heap.size by simp; have := hsz.out; omega)
        (try have LITkA' := Aside0.mk (fun j v hj => ((World.grownBy_alloc W2 (.cells #[.int .i64 n] 2) none).cell (LITkA.out j v hj) (by simp))))
        (try have LSkA' := Aside0.mk (show kA < (W2.alloc (.cells #[.int .i64 n] 2)).heap.size by simp; have := LSkA.out; omega))
        (try have hltgA' := Aside0.mk (show gA < (W2.alloc (.cells #[.int .i64 n] 2)).heap.size by simp; have := hltgA.out; omega))
        (try replace hltgA := hltgA')
        (try clear hltgA')
        (try replace LITkA := LITkA')
        (try replace LSkA := LSkA')
        (try clear LITkA')
        (try clear LSkA')
        rw [hkN]
        refine hK.out _ _ HX' (fun hHeld => ?_)
        clear hK K HX hsz HY HA HN HKp
        replace HX' := Aside0.mk HX'
        have HX := HX'
        clear HX'
        have hsz := hsz'
        clear hsz'
        have HY := HY'
        clear HY'
        have HA := HA'
        clear HA'
        have HN := HN'
        clear HN'
        have HKp := HKp'
        clear HKp'
        generalize (W2.alloc (.cells #[.int .i64 n] 2)) = W3 at *
        refine norm_ (a' := ?_) ?_ ?_
        rotate_left
        · show Act.put _ (some 51) _ = _
          simp only [Act.put, List.setIfInBounds_toArray, List.set_cons_zero, List.set_cons_succ, i64_w, i32_w]
          rfl
        refine one_ (i := 4) (N := some 47) #[true, true, true, true, true, true, true, true, true, false, false, false, false, false] rfl rfl (by kernel_rfl) (by decide) (fun K hK => ?_)
        refine step_append_lies _ (by rfl) (.tmp 44) (.tmp 46) 22 (by rfl) base 2 i0 (.int .i64 0) 1 8 Try.underlying22 hi.out hz0.out hz1.out hz2.out rfl (by omega) (.slice (some ⟨g1, 0, none⟩) l.length c) l.length (nums .i64 (l.map (·.1))) (by rfl) HA.out ⟨kA, 0, none⟩ 1 1 [.int .i64 t] (by rfl) (by rfl) LITkA.out (by simp [Value.oneCell']) (by omega) hl1 hl8 (by have := hsz.out; omega) _ rfl ?_
        intro gA capgA W4 howngA hggA hatgA hltgA
        have HX' := HX.out.kept hggA hAx
        have HY' := Aside0.mk (HY.out.kept hggA hAy)
        have HN' := Aside0.mk (HN.out.kept hggA hAN)
        have HKp' := Aside0.mk (HKp.out.grown hggA (fun k_ e_ h_ => h_.2.1 e_))
        have hsz' := Aside0.mk (Nat.le_trans hsz.out hggA.size)
        have HA' := Aside0.mk howngA
        have hatgA' := Aside0.mk (show (.slice (some ⟨g1, 0, none⟩) l.length c : Value).ownBlock = some gA ∨ H + 2 ≤ gA from hatgA.imp id (fun e_ => by have := hsz.out; omega))
        have hkNg := Aside0.mk (show ∀ k_, H + 2 ≤ k_ → k_ < W3.heap.size → some k_ ≠ (.slice (some ⟨g1, 0, none⟩) l.length c : Value).ownBlock from fun k_ h1_ _ e_ => by have := hAlt.out k_ e_.symm; omega)
        (try have LITkN' := Aside0.mk (lit_kept LITkN.out hggA (hkNg.out _ LTkN.out LSkN.out)))
        (try replace LITkN := LITkN')
        (try clear LITkN')
        have hneA := Aside0.mk (show (∀ q, (.slice (some ⟨g2, 0, none⟩) l.length d : Value).ownBlock = some q → q ≠ gA) from fun q hq e_ => hatgA.elim (fun e2_ => HT.out.ne q (by rw [e_]; exact e2_) hq) (fun e2_ => by have := hNlt.out q hq; have := hsz.out; omega))
        have hltgA' := Aside0.mk hltgA
        clear hatgA hltgA
        have hatgA := hatgA'
        have hltgA := hltgA'
        clear hatgA' hltgA'
        have hltm := Aside0.mk hggA.size
        refine hK.out _ _ HX' (fun hHeld => ?_)
        clear hK K HX hsz HY HA HN HKp hggA howngA
        replace HX' := Aside0.mk HX'
        have HX := HX'
        clear HX'
        have hsz := hsz'
        clear hsz'
        have HY := HY'
        clear HY'
        have HA := HA'
        clear HA'
        have HN := HN'
        clear HN'
        have HKp := HKp'
        clear HKp'
        refine norm_ (a' := ?_) ?_ ?_
        rotate_left
        · show Act.put _ (some 47) _ = _
          simp only [Act.put, List.setIfInBounds_toArray, List.set_cons_zero, List.set_cons_succ, i64_w, i32_w]
          rfl
        refine pure_ (i := 10) (N := some 53) (v := ?_) (a' := ?_) #[true, true, true, true, true, true, true, true, true, false, true, false, false, false] rfl rfl (by kernel_rfl) (fun _ _ _ h => h) (Or.inl ⟨by rfl, ?_⟩) ?_ ?_
        rotate_left
        · intro w'
          go_simp
          with_reducible rfl
        rotate_left
        · simp only [Act.put, List.setIfInBounds_toArray, List.set_cons_zero, List.set_cons_succ, i64_w, i32_w]
          rfl
        refine one_ (i := 9) (N := some 52) #[true, true, true, true, true, true, true, true, true, true, true, false, false, false] rfl rfl (by kernel_rfl) (by decide) (fun K hK => ?_)
        refine step_append_lies _ (by rfl) (.tmp 49) (.tmp 51) 22 (by rfl) base 2 i0 (.int .i64 0) 1 8 Try.underlying22 hi.out hz0.out hz1.out hz2.out rfl (by omega) (.slice (some ⟨g2, 0, none⟩) l.length d) l.length (nums .i64 (l.map (·.2))) (by rfl) HN.out ⟨kN, 0, none⟩ 1 1 [.int .i64 n] (by rfl) (by rfl) LITkN.out (by simp [Value.oneCell']) (by omega) hl1 hl8 (by have := hsz.out; omega) _ rfl ?_
        intro gN capgN W5 howngN hggN hatgN hltgN
        have HX' := HX.out.kept hggN hNx
        have HY' := Aside0.mk (HY.out.kept hggN hNy)
        have HA' := Aside0.mk (World.ownsRow.kept HA.out hggN (hNAg gA hatgA.out _))
        have HKp' := Aside0.mk (HKp.out.grown hggN (fun k_ e_ h_ => h_.2.2 e_))
        have hsz' := Aside0.mk (Nat.le_trans hsz.out hggN.size)
        have HN' := Aside0.mk howngN
        have hne2 : gN ≠ gA := fun e_ => hatgN.elim (fun e2_ => hneA.out gN e2_ e_) (fun e2_ => by have := hltgA.out; omega)
        have hatgN' := Aside0.mk (show (.slice (some ⟨g2, 0, none⟩) l.length d : Value).ownBlock = some gN ∨ H + 2 ≤ gN from hatgN.imp id (fun e_ => by have := hsz.out; omega))
        clear hatgN
        have hatgN := hatgN'
        clear hatgN'
        refine hK.out _ _ HX' (fun hHeld => ?_)
        clear hK K HX hsz HY HA HN HKp hggN howngN
        replace HX' := Aside0.mk HX'
        have HX := HX'
        clear HX'
        have hsz := hsz'
        clear hsz'
        have HY := HY'
        clear HY'
        have HA := HA'
        clear HA'
        have HN := HN'
        clear HN'
        have HKp := HKp'
        clear HKp'
        refine norm_ (a' := ?_) ?_ ?_
        rotate_left
        · show Act.put _ (some 52) _ = _
          simp only [Act.put, List.setIfInBounds_toArray, List.set_cons_zero, List.set_cons_succ, i64_w, i32_w]
          rfl
        have hc_ := HX.out.cell 0 rfl
        have hf_ := HX.out.frozen 0
        refine last_ (i := 11) (N := none) #[true, true, true, true, true, true, true, true, true, true, true, true, false, false] rfl rfl (by kernel_rfl) (by decide) (fun K hK => ?_)
        refine skip_ (w1 := ?_) (by rfl) rfl ?_ ?_
        rotate_left
        · go_simp
          rfl
        refine hK.out _ _ ?_
        clear hK K hc_ hf_
        have HX2 := HX.out.set 0 (Value.slice (some ⟨gA, 0, none⟩) (l.length + 1) capgA)
        refine pure_ (i := 12) (N := some 54) (v := ?_) (a' := ?_) #[true, true, true, true, true, true, true, true, true, true, true, true, true, false] rfl rfl (by kernel_rfl) (fun _ _ _ h => h) (Or.inl ⟨by rfl, ?_⟩) ?_ ?_
        rotate_left
        · intro w'
          go_simp
          with_reducible rfl
        rotate_left
        · simp only [Act.put, List.setIfInBounds_toArray, List.set_cons_zero, List.set_cons_succ, i64_w, i32_w]
          rfl
        have hc_ := HX2.cell 1 rfl
        have hf_ := HX2.frozen 1
        refine last_ (i := 13) (N := none) #[true, true, true, true, true, true, true, true, true, true, true, true, true, true] rfl rfl (by kernel_rfl) (by decide) (fun K hK => ?_)
        refine skip_ (w1 := ?_) (by rfl) rfl ?_ ?_
        rotate_left
        · go_simp
          rfl
        refine hK.out _ _ ?_
        clear hK K hc_ hf_
        refine done_ (by kernel_rfl) ?_
        have HX3 := HX2.set 1 (Value.slice (some ⟨gN, 0, none⟩) (l.length + 1) capgN)
        have HY3 := (HY.out.other (p := ⟨H, 0, none⟩) (by simp) (Value.slice (some ⟨gA, 0, none⟩) (l.length + 1) capgA)).other (p := ⟨H, 1, none⟩) (by simp) (Value.slice (some ⟨gN, 0, none⟩) (l.length + 1) capgN)
        have hAH : gA ≠ H := fun e_ => hatgA.out.elim (fun e2_ => by have := hAlt.out gA e2_; omega) (fun e2_ => by omega)
        have hNH : gN ≠ H := fun e_ => hatgN.out.elim (fun e2_ => by have := hNlt.out gN e2_; omega) (fun e2_ => by omega)
        have HA3 := ownsRow_setCell_other (a := ⟨H, 1, none⟩) (ownsRow_setCell_other (a := ⟨H, 0, none⟩) HA.out (by simp [Value.ownBlock]; omega) (Value.slice (some ⟨gA, 0, none⟩) (l.length + 1) capgA)) (by simp [Value.ownBlock]; omega) (Value.slice (some ⟨gN, 0, none⟩) (l.length + 1) capgN)
        have HN3 := ownsRow_setCell_other (a := ⟨H, 1, none⟩) (ownsRow_setCell_other (a := ⟨H, 0, none⟩) HN.out (by simp [Value.ownBlock]; omega) (Value.slice (some ⟨gA, 0, none⟩) (l.length + 1) capgA)) (by simp [Value.ownBlock]; omega) (Value.slice (some ⟨gN, 0, none⟩) (l.length + 1) capgN)
        have HK3 := (HKp.out.setCell (p := ⟨H, 0, none⟩) (Value.slice (some ⟨gA, 0, none⟩) (l.length + 1) capgA) (fun h_ => by have h2_ : H < w.heap.size := h_.1; omega)).setCell (p := ⟨H, 1, none⟩) (Value.slice (some ⟨gN, 0, none⟩) (l.length + 1) capgN) (fun h_ => by have h2_ : H < w.heap.size := h_.1; omega)
        generalize ((W5.setCell ⟨H, 0, none⟩ (Value.slice (some ⟨gA, 0, none⟩) (l.length + 1) capgA)).setCell ⟨H, 1, none⟩ (Value.slice (some ⟨gN, 0, none⟩) (l.length + 1) capgN)) = Wz at *
        have hq0 := HX3.cell 0 rfl
        have hq1 := HX3.cell 1 rfl
        have hq2 := HX3.frozen 0
        have hq3 := HX3.frozen 1
        have hr0 := HY3.cell 0 rfl
        have hr1 := HY3.cell 1 rfl
        have hr2 := HY3.frozen 0
        have hr3 := HY3.frozen 1
        replace hne2 := Aside0.mk hne2
        go_wp2
        exact put_tail rfl hH HY3 HA3 HN3 HK3 hatgA.out hatgN.out hne2.out hAlt.out hNlt.out
    · refine value_ (w1 := ?_) (v := ?_) (by rfl) rfl ?_ ?_
      rotate_left 2
      · go_simp
        constructor
        · rfl
        · rfl
      obtain ⟨kN, hkN⟩ : ∃ k_ : Nat, W1.heap.size = k_ := ⟨_, rfl⟩
      have LITkN := Aside0.mk (lit_new (W := W1) (u := .int .i64 n) (e := 2) hkN)
      have HX' := HX.out.alloc (.cells #[.int .i64 n] 2)
      have HY' := Aside0.mk (HY.out.alloc (.cells #[.int .i64 n] 2))
      have HA' := Aside0.mk (HA.out.alloc (.cells #[.int .i64 n] 2))
      have HN' := Aside0.mk (HN.out.alloc (.cells #[.int .i64 n] 2))
      have HKp' := Aside0.mk (HKp.out.alloc (.cells #[.int .i64 n] 2))
      have LTkN := Aside0.mk (show H + 2 ≤ kN by have := hsz.out; omega)
      have LSkN := Aside0.mk (show kN < (W1.alloc (.cells #[.int .i64 n] 2)).heap.size by simp; omega)
      have hsz' := Aside0.mk (show H + 2 ≤ (W1.alloc (.cells #[.int .i64 n] 2)).heap.size by simp; have := hsz.out; omega)
      (try have LITkA' := Aside0.mk (fun j v hj => ((World.grownBy_alloc W1 (.cells #[.int .i64 n] 2) none).cell (LITkA.out j v hj) (by simp))))
      (try have LSkA' := Aside0.mk (show kA < (W1.alloc (.cells #[.int .i64 n] 2)).heap.size by simp; have := LSkA.out; omega))
      (try have hltgA' := Aside0.mk (show gA < (W1.alloc (.cells #[.int .i64 n] 2)).heap.size by simp; have := hltgA.out; omega))
      (try replace hltgA := hltgA')
      (try clear hltgA')
      (try replace LITkA := LITkA')
      (try replace LSkA := LSkA')
      (try clear LITkA')
      (try clear LSkA')
      rw [hkN]
      refine hK.out _ _ HX' (fun hHeld => ?_)
      clear hK K HX hsz HY HA HN HKp
      replace HX' := Aside0.mk HX'
      have HX := HX'
      clear HX'
      have hsz := hsz'
      clear hsz'
      have HY := HY'
      clear HY'
      have HA := HA'
      clear HA'
      have HN := HN'
      clear HN'
      have HKp := HKp'
      clear HKp'
      generalize (W1.alloc (.cells #[.int .i64 n] 2)) = W2 at *
      refine norm_ (a' := ?_) ?_ ?_
      rotate_left
      · show Act.put _ (some 51) _ = _
        simp only [Act.put, List.setIfInBounds_toArray, List.set_cons_zero, List.set_cons_succ, i64_w, i32_w]
        rfl
      refine one_ (i := 3) (N := some 46) #[true, true, true, true, false, true, true, true, true, false, false, false, false, false] rfl rfl (by kernel_rfl) (by decide) (fun K hK => ?_)
      refine value_ (w1 := ?_) (v := ?_) (by rfl) rfl ?_ ?_
      rotate_left 2
      · go_simp
        constructor
        · rfl
        · rfl
      obtain ⟨kA, hkA⟩ : ∃ k_ : Nat, W2.heap.size = k_ := ⟨_, rfl⟩
      have LITkA := Aside0.mk (lit_new (W := W2) (u := .int .i64 t) (e := 2) hkA)
      have HX' := HX.out.alloc (.cells #[.int .i64 t] 2)
      have HY' := Aside0.mk (HY.out.alloc (.cells #[.int .i64 t] 2))
      have HA' := Aside0.mk (HA.out.alloc (.cells #[.int .i64 t] 2))
      have HN' := Aside0.mk (HN.out.alloc (.cells #[.int .i64 t] 2))
      have HKp' := Aside0.mk (HKp.out.alloc (.cells #[.int .i64 t] 2))
      have LTkA := Aside0.mk (show H + 2 ≤ kA by have := hsz.out; omega)
      have LSkA := Aside0.mk (show kA < (W2.alloc (.cells #[.int .i64 t] 2)).heap.size by simp; omega)
      have hsz' := Aside0.mk (show H + 2 ≤ (W2.alloc (.cells #[.int .i64 t] 2)).heap.size by simp; have := hsz.out; omega)
      (try have LITkN' := Aside0.mk (fun j v hj => ((World.grownBy_alloc W2 (.cells #[.int .i64 t] 2) none).cell (LITkN.out j v hj) (by simp))))
      (try have LSkN' := Aside0.mk (show kN < (W2.alloc (.cells #[.int .i64 t] 2)).heap.size by simp; have := LSkN.out; omega))
      (try have hltgA' := Aside0.mk (show gA < (W2.alloc (.cells #[.int .i64 t] 2)).heap.size by simp; have := hltgA.out; omega))
      (try replace hltgA := hltgA')
      (try clear hltgA')
      (try replace LITkN := LITkN')
      (try replace LSkN := LSkN')
      (try clear LITkN')
      (try clear LSkN')
      rw [hkA]
      refine hK.out _ _ HX' (fun hHeld => ?_)
      clear hK K HX hsz HY HA HN HKp
      replace HX' := Aside0.mk HX'
      have HX := HX'
      clear HX'
      have hsz := hsz'
      clear hsz'
      have HY := HY'
      clear HY'
      have HA := HA'
      clear HA'
      have HN := HN'
      clear HN'
      have HKp := HKp'
      clear HKp'
      generalize (W2.alloc (.cells #[.int .i64 t] 2)) = W3 at *
      refine norm_ (a' := ?_) ?_ ?_
      rotate_left
      · show Act.put _ (some 46) _ = _
        simp only [Act.put, List.setIfInBounds_toArray, List.set_cons_zero, List.set_cons_succ, i64_w, i32_w]
        rfl
      refine one_ (i := 4) (N := some 47) #[true, true, true, true, true, true, true, true, true, false, false, false, false, false] rfl rfl (by kernel_rfl) (by decide) (fun K hK => ?_)
      refine step_append_lies _ (by rfl) (.tmp 44) (.tmp 46) 22 (by rfl) base 2 i0 (.int .i64 0) 1 8 Try.underlying22 hi.out hz0.out hz1.out hz2.out rfl (by omega) (.slice (some ⟨g1, 0, none⟩) l.length c) l.length (nums .i64 (l.map (·.1))) (by rfl) HA.out ⟨kA, 0, none⟩ 1 1 [.int .i64 t] (by rfl) (by rfl) LITkA.out (by simp [Value.oneCell']) (by omega) hl1 hl8 (by have := hsz.out; omega) _ rfl ?_
      intro gA capgA W4 howngA hggA hatgA hltgA
      have HX' := HX.out.kept hggA hAx
      have HY' := Aside0.mk (HY.out.kept hggA hAy)
      have HN' := Aside0.mk (HN.out.kept hggA hAN)
      have HKp' := Aside0.mk (HKp.out.grown hggA (fun k_ e_ h_ => h_.2.1 e_))
      have hsz' := Aside0.mk (Nat.le_trans hsz.out hggA.size)
      have HA' := Aside0.mk howngA
      have hatgA' := Aside0.mk (show (.slice (some ⟨g1, 0, none⟩) l.length c : Value).ownBlock = some gA ∨ H + 2 ≤ gA from hatgA.imp id (fun e_ => by have := hsz.out; omega))
      have hkNg := Aside0.mk (show ∀ k_, H + 2 ≤ k_ → k_ < W3.heap.size → some k_ ≠ (.slice (some ⟨g1, 0, none⟩) l.length c : Value).ownBlock from fun k_ h1_ _ e_ => by have := hAlt.out k_ e_.symm; omega)
      (try have LITkN' := Aside0.mk (lit_kept LITkN.out hggA (hkNg.out _ LTkN.out LSkN.out)))
      (try replace LITkN := LITkN')
      (try clear LITkN')
      have hneA := Aside0.mk (show (∀ q, (.slice (some ⟨g2, 0, none⟩) l.length d : Value).ownBlock = some q → q ≠ gA) from fun q hq e_ => hatgA.elim (fun e2_ => HT.out.ne q (by rw [e_]; exact e2_) hq) (fun e2_ => by have := hNlt.out q hq; have := hsz.out; omega))
      have hltgA' := Aside0.mk hltgA
      clear hatgA hltgA
      have hatgA := hatgA'
      have hltgA := hltgA'
      clear hatgA' hltgA'
      have hltm := Aside0.mk hggA.size
      refine hK.out _ _ HX' (fun hHeld => ?_)
      clear hK K HX hsz HY HA HN HKp hggA howngA
      replace HX' := Aside0.mk HX'
      have HX := HX'
      clear HX'
      have hsz := hsz'
      clear hsz'
      have HY := HY'
      clear HY'
      have HA := HA'
      clear HA'
      have HN := HN'
      clear HN'
      have HKp := HKp'
      clear HKp'
      refine norm_ (a' := ?_) ?_ ?_
      rotate_left
      · show Act.put _ (some 47) _ = _
        simp only [Act.put, List.setIfInBounds_toArray, List.set_cons_zero, List.set_cons_succ, i64_w, i32_w]
        rfl
      refine pure_ (i := 10) (N := some 53) (v := ?_) (a' := ?_) #[true, true, true, true, true, true, true, true, true, false, true, false, false, false] rfl rfl (by kernel_rfl) (fun _ _ _ h => h) (Or.inl ⟨by rfl, ?_⟩) ?_ ?_
      rotate_left
      · intro w'
        go_simp
        with_reducible rfl
      rotate_left
      · simp only [Act.put, List.setIfInBounds_toArray, List.set_cons_zero, List.set_cons_succ, i64_w, i32_w]
        rfl
      refine one_ (i := 9) (N := some 52) #[true, true, true, true, true, true, true, true, true, true, true, false, false, false] rfl rfl (by kernel_rfl) (by decide) (fun K hK => ?_)
      refine step_append_lies _ (by rfl) (.tmp 49) (.tmp 51) 22 (by rfl) base 2 i0 (.int .i64 0) 1 8 Try.underlying22 hi.out hz0.out hz1.out hz2.out rfl (by omega) (.slice (some ⟨g2, 0, none⟩) l.length d) l.length (nums .i64 (l.map (·.2))) (by rfl) HN.out ⟨kN, 0, none⟩ 1 1 [.int .i64 n] (by rfl) (by rfl) LITkN.out (by simp [Value.oneCell']) (by omega) hl1 hl8 (by have := hsz.out; omega) _ rfl ?_
      intro gN capgN W5 howngN hggN hatgN hltgN
      have HX' := HX.out.kept hggN hNx
      have HY' := Aside0.mk (HY.out.kept hggN hNy)
      have HA' := Aside0.mk (World.ownsRow.kept HA.out hggN (hNAg gA hatgA.out _))
      have HKp' := Aside0.mk (HKp.out.grown hggN (fun k_ e_ h_ => h_.2.2 e_))
      have hsz' := Aside0.mk (Nat.le_trans hsz.out hggN.size)
      have HN' := Aside0.mk howngN
      have hne2 : gN ≠ gA := fun e_ => hatgN.elim (fun e2_ => hneA.out gN e2_ e_) (fun e2_ => by have := hltgA.out; omega)
      have hatgN' := Aside0.mk (show (.slice (some ⟨g2, 0, none⟩) l.length d : Value).ownBlock = some gN ∨ H + 2 ≤ gN from hatgN.imp id (fun e_ => by have := hsz.out; omega))
      clear hatgN
      have hatgN := hatgN'
      clear hatgN'
      refine hK.out _ _ HX' (fun hHeld => ?_)
      clear hK K HX hsz HY HA HN HKp hggN howngN
      replace HX' := Aside0.mk HX'
      have HX := HX'
      clear HX'
      have hsz := hsz'
      clear hsz'
      have HY := HY'
      clear HY'
      have HA := HA'
      clear HA'
      have HN := HN'
      clear HN'
      have HKp := HKp'
      clear HKp'
      refine norm_ (a' := ?_) ?_ ?_
      rotate_left
      · show Act.put _ (some 52) _ = _
        simp only [Act.put, List.setIfInBounds_toArray, List.set_cons_zero, List.set_cons_succ, i64_w, i32_w]
        rfl
      have hc_ := HX.out.cell 0 rfl
      have hf_ := HX.out.frozen 0
      refine last_ (i := 11) (N := none) #[true, true, true, true, true, true, true, true, true, true, true, true, false, false] rfl rfl (by kernel_rfl) (by decide) (fun K hK => ?_)
      refine skip_ (w1 := ?_) (by rfl) rfl ?_ ?_
      rotate_left
      · go_simp
        rfl
      refine hK.out _ _ ?_
      clear hK K hc_ hf_
      have HX2 := HX.out.set 0 (Value.slice (some ⟨gA, 0, none⟩) (l.length + 1) capgA)
      refine pure_ (i := 12) (N := some 54) (v := ?_) (a' := ?_) #[true, true, true, true, true, true, true, true, true, true, true, true, true, false] rfl rfl (by kernel_rfl) (fun _ _ _ h => h) (Or.inl ⟨by rfl, ?_⟩) ?_ ?_
      rotate_left
      · intro w'
        go_simp
        with_reducible rfl
      rotate_left
      · simp only [Act.put, List.setIfInBounds_toArray, List.set_cons_zero, List.set_cons_succ, i64_w, i32_w]
        rfl
      have hc_ := HX2.cell 1 rfl
      have hf_ := HX2.frozen 1
      refine last_ (i := 13) (N := none) #[true, true, true, true, true, true, true, true, true, true, true, true, true, true] rfl rfl (by kernel_rfl) (by decide) (fun K hK => ?_)
      refine skip_ (w1 := ?_) (by rfl) rfl ?_ ?_
      rotate_left
      · go_simp
        rfl
      refine hK.out _ _ ?_
      clear hK K hc_ hf_
      refine done_ (by kernel_rfl) ?_
      have HX3 := HX2.set 1 (Value.slice (some ⟨gN, 0, none⟩) (l.length + 1) capgN)
      have HY3 := (HY.out.other (p := ⟨H, 0, none⟩) (by simp) (Value.slice (some ⟨gA, 0, none⟩) (l.length + 1) capgA)).other (p := ⟨H, 1, none⟩) (by simp) (Value.slice (some ⟨gN, 0, none⟩) (l.length + 1) capgN)
      have hAH : gA ≠ H := fun e_ => hatgA.out.elim (fun e2_ => by have := hAlt.out gA e2_; omega) (fun e2_ => by omega)
      have hNH : gN ≠ H := fun e_ => hatgN.out.elim (fun e2_ => by have := hNlt.out gN e2_; omega) (fun e2_ => by omega)
      have HA3 := ownsRow_setCell_other (a := ⟨H, 1, none⟩) (ownsRow_setCell_other (a := ⟨H, 0, none⟩) HA.out (by simp [Value.ownBlock]; omega) (Value.slice (some ⟨gA, 0, none⟩) (l.length + 1) capgA)) (by simp [Value.ownBlock]; omega) (Value.slice (some ⟨gN, 0, none⟩) (l.length + 1) capgN)
      have HN3 := ownsRow_setCell_other (a := ⟨H, 1, none⟩) (ownsRow_setCell_other (a := ⟨H, 0, none⟩) HN.out (by simp [Value.ownBlock]; omega) (Value.slice (some ⟨gA, 0, none⟩) (l.length + 1) capgA)) (by simp [Value.ownBlock]; omega) (Value.slice (some ⟨gN, 0, none⟩) (l.length + 1) capgN)
      have HK3 := (HKp.out.setCell (p := ⟨H, 0, none⟩) (Value.slice (some ⟨gA, 0, none⟩) (l.length + 1) capgA) (fun h_ => by have h2_ : H < w.heap.size := h_.1; omega)).setCell (p := ⟨H, 1, none⟩) (Value.slice (some ⟨gN, 0, none⟩) (l.length + 1) capgN) (fun h_ => by have h2_ : H < w.heap.size := h_.1; omega)
      generalize ((W5.setCell ⟨H, 0, none⟩ (Value.slice (some ⟨gA, 0, none⟩) (l.length + 1) capgA)).setCell ⟨H, 1, none⟩ (Value.slice (some ⟨gN, 0, none⟩) (l.length + 1) capgN)) = Wz at *
      have hq0 := HX3.cell 0 rfl
      have hq1 := HX3.cell 1 rfl
      have hq2 := HX3.frozen 0
      have hq3 := HX3.frozen 1
      have hr0 := HY3.cell 0 rfl
      have hr1 := HY3.cell 1 rfl
      have hr2 := HY3.frozen 0
      have hr3 := HY3.frozen 1
      replace hne2 := Aside0.mk hne2
      go_wp2
      exact put_tail rfl hH HY3 HA3 HN3 HK3 hatgA.out hatgN.out hne2.out hAlt.out hNlt.out
theorem put_tail2 {base H : Nat} {vA vN : Value} {l l2 : List (Int × Int)} {t n : Int} {w Wz : World} {tmps : Array Value} {u0 u1 : Value} (hl : putS l t n = l2) (ht : tmps[6]? = some (.pointer (some ⟨H + 1, 0, none⟩))) (hH : w.heap.size = H)
    (HY : BoxN Wz (H + 1) 24 [u0, u1]) (h1A : vA.oneCell' = true) (h1N : vN.oneCell' = true)
    (HA : Wz.ownsRow base 2 1 vA l2.length (nums .i64 (l2.map (·.1))))
    (HN : Wz.ownsRow base 2 1 vN l2.length (nums .i64 (l2.map (·.2))))
    (HK : Keeps (fun k => vA.ownBlock ≠ some k ∧ vN.ownBlock ≠ some k) w Wz) (hne : ∀ k, vA.ownBlock = some k → vN.ownBlock ≠ some k)
    (hAlt : ∀ k, vA.ownBlock = some k → k < H) (hNlt : ∀ k, vN.ownBlock = some k → k < H) :
    bodyPost Try.prog Try.f36 (PutPost w base vA vN (putS l t n)) Exit.ret { tmps := tmps, defers := [] }
      ((Wz.setCell ⟨H + 1, 0, none⟩ vA).setCell ⟨H + 1, 1, none⟩ vN) := by
  have hu24 := Try.underlying24
  have HY4 := (HY.set 0 vA).set 1 vN
  have HA4 := ownsRow_setCell_other (a := ⟨H + 1, 1, none⟩) (ownsRow_setCell_other (a := ⟨H + 1, 0, none⟩) HA (fun e => by have := hAlt _ e; simp at this; omega) vA) (fun e => by have := hAlt _ e; simp at this; omega) vN
  have HN4 := ownsRow_setCell_other (a := ⟨H + 1, 1, none⟩) (ownsRow_setCell_other (a := ⟨H + 1, 0, none⟩) HN (fun e => by have := hNlt _ e; simp at this; omega) vA) (fun e => by have := hNlt _ e; simp at this; omega) vN
  have HK4 := (HK.setCell (p := ⟨H + 1, 0, none⟩) vA (fun h => by have := h.1; simp at this; omega)).setCell (p := ⟨H + 1, 1, none⟩) vN (fun h => by have := h.1; simp at this; omega)
  generalize ((Wz.setCell ⟨H + 1, 0, none⟩ vA).setCell ⟨H + 1, 1, none⟩ vN) = W4 at *
  have hc0 := HY4.cell 0 rfl
  have hc1 := HY4.cell 1 rfl
  rw [hl]
  refine bodyPost_ret (v := .agg #[vA, vN]) ?_ rfl ?_
  · simp [results, Try.f36, asAddr, loadVar, go_sem, ht, hc0, hc1, hu24]
  · exact ⟨_, _, rfl, ⟨HA4, HN4, hne⟩, HK4, fun k hk _ => hk⟩
set_option maxHeartbeats 8000000 in
theorem steps_put_keep (base : Nat) (vA vN : Value) (l : List (Int × Int)) (t n : Int) (w : World) (h : Two w base vA vN l) (hb : base ≤ w.heap.size) (hl : l.length ≤ 200000)
    (p : Int × Int) (hp : l.getLast? = some p) (hn : p.2 = n ∨ p.1 = t) :
    Calls Try.prog 36 #[.agg #[vA, vN], .int .i64 t, .int .i64 n] w (PutPost w base vA vN (putS l t n)) := by
  have hu24 := Try.underlying24
  obtain ⟨A, c, rfl⟩ := own_slice h.a
  obtain ⟨B, d, rfl⟩ := own_slice h.n
  obtain ⟨H, hH⟩ : ∃ H, w.heap.size = H := ⟨_, rfl⟩
  have HT := Aside0.mk h
  clear h
  have hl0 : ¬ l.length = 0 := fun h0 => by rw [List.length_eq_zero_iff.1 h0] at hp; cases hp
  go_enter Try.func36, Try.ntmps36
  go_upto_region 1 with fail
  obtain ⟨W0, hW0⟩ : ∃ W0, ((w.alloc (Obj.cells #[Value.slice A l.length c, Value.slice B l.length d] 24)).alloc (Obj.cells #[Value.slice none 0 0, Value.slice none 0 0] 24)) = W0 := ⟨_, rfl⟩
  have HK := Aside0.mk (show Keeps (fun k => True) w W0 by rw [← hW0]; exact ((Keeps.refl _ w).alloc _).alloc _)
  have hsz : W0.heap.size = H + 2 := by rw [← hW0]; simp [hH]
  have HX : BoxN W0 H 24 [.slice A l.length c, .slice B l.length d] := by rw [← hW0, ← hH]; exact (BoxN.new w _ [.slice A l.length c, .slice B l.length d]).alloc _
  have HY : BoxN W0 (H + 1) 24 [.slice none 0 0, .slice none 0 0] := by
    have := BoxN.new (w.alloc (Obj.cells #[Value.slice A l.length c, Value.slice B l.length d] 24)) 24 [.slice none 0 0, .slice none 0 0]
    rw [World.size_alloc, hH] at this
    rwa [← hW0]
  have HA : W0.ownsRow base 2 1 (.slice A l.length c) l.length (nums .i64 (l.map (·.1))) := by rw [← hW0]; exact (HT.out.a.alloc _).alloc _
  have HN : W0.ownsRow base 2 1 (.slice B l.length d) l.length (nums .i64 (l.map (·.2))) := by rw [← hW0]; exact (HT.out.n.alloc _).alloc _
  have hAlt := fun k hk => hH ▸ (HT.out.a.lt k hk).2
  have hNlt := fun k hk => hH ▸ (HT.out.n.lt k hk).2
  rw [hW0]
  clear hW0
  have hx0 := HX.cell 0 rfl
  have hx1 := HX.cell 1 rfl
  have hxf0 := HX.frozen 0
  have hxf1 := HX.frozen 1
  have hy0 := HY.cell 0 rfl
  have hy1 := HY.cell 1 rfl
  have hyf0 := HY.frozen 0
  have hyf1 := HY.frozen 1
  replace HX := Aside0.mk HX
  replace HY := Aside0.mk HY
  replace HA := Aside0.mk HA
  replace HN := Aside0.mk HN
  replace hAlt := Aside0.mk hAlt
  replace hNlt := Aside0.mk hNlt
  replace hsz := Aside0.mk hsz
  have hl1 : l.length + 1 ≤ maxLen := by have : (200001 : Nat) ≤ maxLen := by decide
                                         omega
  have hl8 : (l.length + 1) * 8 ≤ 140737488355328 := by omega
  have hl00 : 0 < l.length := by omega
  have hi0 : decide ((0 : Int) ≤ (l.length : Int) - 1) = true := decide_eq_true (by omega)
  have hi1 : ((0 : Int) ≤ (l.length : Int) - 1) = True := eq_true (by omega)
  have hi2 : ((1 : Int) ≤ (l.length : Int)) = True := eq_true (by omega)
  have hi3 : decide ((1 : Int) ≤ (l.length : Int)) = true := decide_eq_true (by omega)
  have hi4 : ((l.length : Int) - 1 < (l.length : Int)) = True := eq_true (by omega)
  obtain ⟨g1, cap1, e1, _, _⟩ := HT.out.a.form hl00
  injection e1 with e1 _ e1c
  subst e1
  subst e1c
  obtain ⟨g2, cap2, e2, _, _⟩ := HT.out.n.form hl00
  injection e2 with e2 _ e2c
  subst e2
  subst e2c
  obtain ⟨p', hp1, hp2, hp3⟩ := last_rd l hl00
  obtain rfl : p' = p := Option.some.inj (hp1.symm.trans hp)
  obtain ⟨hc1, hd1⟩ := own_at HA.out ((l.length : Int) - 1) (by omega) (by omega)
  obtain ⟨hc2, hd2⟩ := own_at HN.out ((l.length : Int) - 1) (by omega) (by omega)
  have htn : ((l.length : Int) - 1).toNat = l.length - 1 := by omega
  rw [hp2, htn] at hc1
  rw [hp3, htn] at hc2
  rw [htn] at hd1 hd2
  replace hl0 := Aside0.mk hl0
  replace hl00 := Aside0.mk hl00
  by_cases hq : p'.2 = n
  · have hb1 : (p'.2 == n) = true := beq_iff_eq.mpr hq
    have hps : putS l t n = l := by unfold putS; rw [hp]; simp [hq]
    have HKp := Aside0.mk (show Keeps (fun k => (Value.slice (some ⟨g1, 0, none⟩) l.length c).ownBlock ≠ some k ∧ (Value.slice (some ⟨g2, 0, none⟩) l.length d).ownBlock ≠ some k) w W0 from HK.out.mono (fun _ _ _ => trivial))
    replace hps := Aside0.mk hps
    subst hq
    go_wp2
    exact put_tail2 hps.out rfl hH HY.out rfl rfl HA.out HN.out HKp.out HT.out.ne hAlt.out hNlt.out
  · have hb1 : (p'.2 == n) = false := beq_eq_false_iff_ne.mpr hq
    have hb2 : (p'.1 == t) = true := beq_iff_eq.mpr (hn.resolve_left hq)
    obtain ⟨l2, hl2⟩ : ∃ l2, l.dropLast ++ [(t, n)] = l2 := ⟨_, rfl⟩
    have hps := Aside0.mk (show putS l t n = l2 by unfold putS; rw [hp]; simp [hq, hn.resolve_left hq, hl2])
    have h12 : l2.map (·.1) = l.map (·.1) ∧ l2.map (·.2) = (l.map (·.2)).set (l.length - 1) n ∧ l2.length = l.length := by
      have hp1' := hn.resolve_left hq
      rcases List.eq_nil_or_concat l with rfl | ⟨l', p2, rfl⟩
      · cases hp
      · rw [List.concat_eq_append] at *
        have : p2 = p' := by rw [List.getLast?_concat] at hp; exact Option.some.inj hp
        subst this
        rw [← hl2]
        refine ⟨by simp [hp1'], ?_, by simp⟩
        simp
    have hst := own_store HN.out ((l.length : Int) - 1) n
    rw [htn] at hst
    have HN2 := Aside0.mk (show (W0.setCell ⟨g2, l.length - 1, none⟩ (.int .i64 n)).ownsRow base 2 1 (.slice (some ⟨g2, 0, none⟩) l.length d) l2.length (nums .i64 (l2.map (·.2))) by rw [h12.2.1, h12.2.2]; exact hst.1)
    have HA2 := Aside0.mk (show (W0.setCell ⟨g2, l.length - 1, none⟩ (.int .i64 n)).ownsRow base 2 1 (.slice (some ⟨g1, 0, none⟩) l.length c) l2.length (nums .i64 (l2.map (·.1))) by rw [h12.1, h12.2.2]; exact ownsRow_setCell_other (a := ⟨g2, l.length - 1, none⟩) HA.out (fun e => HT.out.ne _ e rfl) _)
    have HY2 := Aside0.mk (HY.out.other (p := ⟨g2, l.length - 1, none⟩) (fun e => by have h9 := hNlt.out g2 rfl; simp at e; omega) (.int .i64 n))
    have HKp := Aside0.mk (show Keeps (fun k => (Value.slice (some ⟨g1, 0, none⟩) l.length c).ownBlock ≠ some k ∧ (Value.slice (some ⟨g2, 0, none⟩) l.length d).ownBlock ≠ some k) w (W0.setCell ⟨g2, l.length - 1, none⟩ (.int .i64 n)) from (HK.out.mono (fun _ _ _ => trivial)).setCell _ (fun h => h.2.2 rfl))
    clear h12 hst hl2
    have hx2 := (HX.out.other (p := ⟨g2, l.length - 1, none⟩) (fun e => by have h9 := hNlt.out g2 rfl; simp at e; omega) (.int .i64 n)).cell 0 rfl
    have hx3 := (HX.out.other (p := ⟨g2, l.length - 1, none⟩) (fun e => by have h9 := hNlt.out g2 rfl; simp at e; omega) (.int .i64 n)).cell 1 rfl
    have hy2 := HY2.out.cell 0 rfl
    have hy3 := HY2.out.cell 1 rfl
    have hy4 := HY2.out.frozen 0
    have hy5 := HY2.out.frozen 1
    go_wp2
    exact put_tail2 hps.out rfl hH HY2.out rfl rfl HA2.out HN2.out HKp.out HT.out.ne hAlt.out hNlt.out
theorem steps_put_calls (base : Nat) (vA vN : Value) (l : List (Int × Int)) (t n : Int) (w : World) (h : Two w base vA vN l) (hb : base ≤ w.heap.size) (hl : l.length ≤ 200000) :
    Calls Try.prog 36 #[.agg #[vA, vN], .int .i64 t, .int .i64 n] w (PutPost w base vA vN (putS l t n)) := by
  cases hp : l.getLast? with
  | none =>
    have e : putS l t n = l ++ [(t, n)] := by
      unfold putS
      rw [hp]
      have := List.getLast?_eq_none_iff.1 hp
      subst this
      rfl
    rw [e]
    exact steps_put_append base vA vN l t n w h hb hl (fun p h2 => by rw [hp] at h2; cases h2)
  | some p =>
    by_cases hq : p.2 = n ∨ p.1 = t
    · exact steps_put_keep base vA vN l t n w h hb hl p hp hq
    · have e : putS l t n = l ++ [(t, n)] := by
        unfold putS
        rw [hp]
        simp only
        rw [if_neg (fun h => hq (.inl h)), if_neg (fun h => hq (.inr h))]
      rw [e]
      exact steps_put_append base vA vN l t n w h hb hl (fun p2 h2 => by
        rw [hp] at h2
        obtain rfl := Option.some.inj h2
        exact ⟨fun h => hq (.inl h), fun h => hq (.inr h)⟩)

end Go.Proofs.Ythbonmpkjkihgaa.P
