-- Written by this session's program gprint.py: functions of the program as plain functions, and that the machine does what they say. Not trusted: Lean checks it.
import Derived.Test.YthbonmpkjkihgaaPx0
namespace Go.Proofs.Ythbonmpkjkihgaa.P
open Go.RowKit Go.Proofs.YthbonmpkjkihgaaW.PrintWords Go.Proofs.YthbonmpkjkihgaaW.PrintLast Go.Proofs.YthbonmpkjkihgaaW.PrintMore
attribute [local go_sem] max2_int min2_int max_two min_two max_three min_three max_four min_four   -- for this text's walks alone
set_option linter.unusedVariables false
set_option linter.unusedSimpArgs false

/-! ### forebayref10_Great: function 6 -/
def forebayref10_Great.f (l0_0 : List Int) (l0_1 : List Int) (l0_2 : List Int) (l0_3 : List Int) (l0_4 : List Int) (l0_5 : List Int) : Option (Bool) := if (wrap64 ((wrap64 ((l0_0.length : Int) + (l0_2.length : Int))) + (l0_4.length : Int))) > 40 then (some true) else (some (decide ((wrap64 ((wrap64 ((l0_1.length : Int) + (l0_3.length : Int))) + (l0_5.length : Int))) > 40)))
set_option maxHeartbeats 8000000 in
set_option maxRecDepth 100000 in
theorem forebayref10_Great.calls (A0_0 : Option Addr) (c0_0 : Nat) (l0_0 : List Int) (A0_1 : Option Addr) (c0_1 : Nat) (l0_1 : List Int) (A0_2 : Option Addr) (c0_2 : Nat) (l0_2 : List Int) (A0_3 : Option Addr) (c0_3 : Nat) (l0_3 : List Int) (A0_4 : Option Addr) (c0_4 : Nat) (l0_4 : List Int) (A0_5 : Option Addr) (c0_5 : Nat) (l0_5 : List Int) (r : Bool) (w : World) (hr0_0 : Kd.C (Kd.int .i64) w A0_0 l0_0.length l0_0) (hc0_0 : l0_0.length ≤ c0_0) (hr0_1 : Kd.C (Kd.int .i64) w A0_1 l0_1.length l0_1) (hc0_1 : l0_1.length ≤ c0_1) (hr0_2 : Kd.C (Kd.int .i64) w A0_2 l0_2.length l0_2) (hc0_2 : l0_2.length ≤ c0_2) (hr0_3 : Kd.C (Kd.int .i64) w A0_3 l0_3.length l0_3) (hc0_3 : l0_3.length ≤ c0_3) (hr0_4 : Kd.C (Kd.int .i64) w A0_4 l0_4.length l0_4) (hc0_4 : l0_4.length ≤ c0_4) (hr0_5 : Kd.C (Kd.int .i64) w A0_5 l0_5.length l0_5) (hc0_5 : l0_5.length ≤ c0_5) (h : forebayref10_Great.f l0_0 l0_1 l0_2 l0_3 l0_4 l0_5 = some r) :
  Calls Try.prog 6 #[.agg #[.slice A0_0 l0_0.length c0_0, .slice A0_1 l0_1.length c0_1, .slice A0_2 l0_2.length c0_2, .slice A0_3 l0_3.length c0_3, .slice A0_4 l0_4.length c0_4, .slice A0_5 l0_5.length c0_5]] w fun e w' => e = .returned (.bool r) ∧ Below w.heap.size w w' := by
 have hu26 := Try.underlying26
 have HR0_0 := Aside0.mk hr0_0
 have HC0_0 := Aside0.mk hc0_0
 clear hr0_0 hc0_0
 have HR0_1 := Aside0.mk hr0_1
 have HC0_1 := Aside0.mk hc0_1
 clear hr0_1 hc0_1
 have HR0_2 := Aside0.mk hr0_2
 have HC0_2 := Aside0.mk hc0_2
 clear hr0_2 hc0_2
 have HR0_3 := Aside0.mk hr0_3
 have HC0_3 := Aside0.mk hc0_3
 clear hr0_3 hc0_3
 have HR0_4 := Aside0.mk hr0_4
 have HC0_4 := Aside0.mk hc0_4
 clear hr0_4 hc0_4
 have HR0_5 := Aside0.mk hr0_5
 have HC0_5 := Aside0.mk hc0_5
 clear hr0_5 hc0_5
 have HB := Aside0.mk (Below.refl w.heap.size w)
 have H : (if (wrap64 ((wrap64 ((l0_0.length : Int) + (l0_2.length : Int))) + (l0_4.length : Int))) > 40 then (some true) else (some (decide ((wrap64 ((wrap64 ((l0_1.length : Int) + (l0_3.length : Int))) + (l0_5.length : Int))) > 40)))) = some r := h
 clear h
 by_cases c2 : (wrap64 ((wrap64 ((l0_0.length : Int) + (l0_2.length : Int))) + (l0_4.length : Int))) > 40
 ·
  rw [if_pos c2] at H
  have c2b0 : decide (40 < (wrap64 ((wrap64 ((l0_0.length : Int) + (l0_2.length : Int))) + (l0_4.length : Int)))) = true := decide_eq_true c2
  clear c2
  obtain rfl := Option.some.inj H
  go_enter Try.func6, Try.ntmps6
  go_wp2_with (first | ((with_reducible refine gate_dst (N := 1) rfl ?_); (try (refine gate_guard (by rfl) ?_; dsimp only)); refine box_event ?hg (N := 1) ?hd (cs := #[.slice A0_0 l0_0.length c0_0, .slice A0_1 l0_1.length c0_1, .slice A0_2 l0_2.length c0_2, .slice A0_3 l0_3.length c0_3, .slice A0_4 l0_4.length c0_4, .slice A0_5 l0_5.length c0_5]) (t := 26) ?hr ?_; (case hd => rfl); (case hg => rfl); (case hr => first | (go_simp; done) | (go_simp; rfl)); intro gb101 hg w3 hbox hb; have n0_ := Aside0.mk (below_step (by repeat (first | (with_reducible first | exact HB.out | apply below_alloc | apply pw_below_drewN | apply below_drew1) | exact HB.out)) hb); have n1_ := Aside0.mk (hbox); have n2_ := Aside0.mk ((by rw [hg]; exact (below_size (by repeat (first | (with_reducible first | exact HB.out | apply below_alloc | apply pw_below_drewN | apply below_drew1) | exact HB.out))) : w.heap.size ≤ gb101)); have n3_ := Aside0.mk ((by rw [hg]; exact (below_size (by repeat (first | (with_reducible first | exact HB.out | apply below_alloc | apply pw_below_drewN | apply below_drew1) | exact HB.out))) : w.heap.size ≤ gb101)); clear HB; have HB := n0_; have BK101 := n1_; have GW101 := n2_; have GE101 := n3_; clear n0_ n1_ n2_ n3_; clear hb hbox hg; have hcz4_0 : w3.cell? ⟨gb101, 0, none⟩ = some (.slice A0_0 l0_0.length c0_0) := (blk_cell BK101.out 0).trans rfl; have hcz4_1 : w3.cell? ⟨gb101, 1, none⟩ = some (.slice A0_1 l0_1.length c0_1) := (blk_cell BK101.out 1).trans rfl; have hcz4_2 : w3.cell? ⟨gb101, 2, none⟩ = some (.slice A0_2 l0_2.length c0_2) := (blk_cell BK101.out 2).trans rfl; have hcz4_3 : w3.cell? ⟨gb101, 3, none⟩ = some (.slice A0_3 l0_3.length c0_3) := (blk_cell BK101.out 3).trans rfl; have hcz4_4 : w3.cell? ⟨gb101, 4, none⟩ = some (.slice A0_4 l0_4.length c0_4) := (blk_cell BK101.out 4).trans rfl; have hcz4_5 : w3.cell? ⟨gb101, 5, none⟩ = some (.slice A0_5 l0_5.length c0_5) := (blk_cell BK101.out 5).trans rfl; have hfz4_0 := blk_frozen BK101.out 0; have hfz4_1 := blk_frozen BK101.out 1; have hfz4_2 := blk_frozen BK101.out 2; have hfz4_3 := blk_frozen BK101.out 3; have hfz4_4 := blk_frozen BK101.out 4; have hfz4_5 := blk_frozen BK101.out 5))
  go_ret
  exact ⟨by first | rfl | (simp [errW_none, errW_some] <;> rfl) | (simp [*, errW_none, errW_some] <;> rfl), by repeat (first | (with_reducible first | exact HB.out | apply below_alloc | apply pw_below_drewN | apply below_drew1 | refine below_set ?_ GE101.out) | exact HB.out)⟩
 ·
  rw [if_neg c2] at H
  have c2b0 : decide (40 < (wrap64 ((wrap64 ((l0_0.length : Int) + (l0_2.length : Int))) + (l0_4.length : Int)))) = false := decide_eq_false c2
  clear c2
  obtain rfl := Option.some.inj H
  go_enter Try.func6, Try.ntmps6
  go_wp2_with (first | ((with_reducible refine gate_dst (N := 1) rfl ?_); (try (refine gate_guard (by rfl) ?_; dsimp only)); refine box_event ?hg (N := 1) ?hd (cs := #[.slice A0_0 l0_0.length c0_0, .slice A0_1 l0_1.length c0_1, .slice A0_2 l0_2.length c0_2, .slice A0_3 l0_3.length c0_3, .slice A0_4 l0_4.length c0_4, .slice A0_5 l0_5.length c0_5]) (t := 26) ?hr ?_; (case hd => rfl); (case hg => rfl); (case hr => first | (go_simp; done) | (go_simp; rfl)); intro gb101 hg w5 hbox hb; have n0_ := Aside0.mk (below_step (by repeat (first | (with_reducible first | exact HB.out | apply below_alloc | apply pw_below_drewN | apply below_drew1) | exact HB.out)) hb); have n1_ := Aside0.mk (hbox); have n2_ := Aside0.mk ((by rw [hg]; exact (below_size (by repeat (first | (with_reducible first | exact HB.out | apply below_alloc | apply pw_below_drewN | apply below_drew1) | exact HB.out))) : w.heap.size ≤ gb101)); have n3_ := Aside0.mk ((by rw [hg]; exact (below_size (by repeat (first | (with_reducible first | exact HB.out | apply below_alloc | apply pw_below_drewN | apply below_drew1) | exact HB.out))) : w.heap.size ≤ gb101)); clear HB; have HB := n0_; have BK101 := n1_; have GW101 := n2_; have GE101 := n3_; clear n0_ n1_ n2_ n3_; clear hb hbox hg; have hcz6_0 : w5.cell? ⟨gb101, 0, none⟩ = some (.slice A0_0 l0_0.length c0_0) := (blk_cell BK101.out 0).trans rfl; have hcz6_1 : w5.cell? ⟨gb101, 1, none⟩ = some (.slice A0_1 l0_1.length c0_1) := (blk_cell BK101.out 1).trans rfl; have hcz6_2 : w5.cell? ⟨gb101, 2, none⟩ = some (.slice A0_2 l0_2.length c0_2) := (blk_cell BK101.out 2).trans rfl; have hcz6_3 : w5.cell? ⟨gb101, 3, none⟩ = some (.slice A0_3 l0_3.length c0_3) := (blk_cell BK101.out 3).trans rfl; have hcz6_4 : w5.cell? ⟨gb101, 4, none⟩ = some (.slice A0_4 l0_4.length c0_4) := (blk_cell BK101.out 4).trans rfl; have hcz6_5 : w5.cell? ⟨gb101, 5, none⟩ = some (.slice A0_5 l0_5.length c0_5) := (blk_cell BK101.out 5).trans rfl; have hfz6_0 := blk_frozen BK101.out 0; have hfz6_1 := blk_frozen BK101.out 1; have hfz6_2 := blk_frozen BK101.out 2; have hfz6_3 := blk_frozen BK101.out 3; have hfz6_4 := blk_frozen BK101.out 4; have hfz6_5 := blk_frozen BK101.out 5))
  go_ret
  exact ⟨by first | rfl | (simp [errW_none, errW_some] <;> rfl) | (simp [*, errW_none, errW_some] <;> rfl), by repeat (first | (with_reducible first | exact HB.out | apply below_alloc | apply pw_below_drewN | apply below_drew1 | refine below_set ?_ GE101.out) | exact HB.out)⟩

/-! ### sat_Of: function 32 -/
/-- What a number is brought to. -/
def clampT (x : Int) : Int := if x < 0 then 0 else if x > 1099511627776 then 1099511627776 else x
theorem clampT_lo (x : Int) : 0 ≤ clampT x := by unfold clampT; split <;> (try split) <;> omega
theorem clampT_hi (x : Int) : clampT x ≤ 1099511627776 := by unfold clampT; split <;> (try split) <;> omega
def sat_Of.f (a0 : Int) : Option (Int) := some (clampT a0)
theorem sat_Of.calls (a0 : Int) (r : Int) (w : World) (h : sat_Of.f a0 = some r) :
  Calls Try.prog 32 #[.int .i64 a0] w fun e w' => e = .returned (.int .i64 r) ∧ Drawn0 w w' := by
 obtain rfl := Option.some.inj h
 by_cases h1 : a0 < 0
 ·
  have e : clampT a0 = 0 := by unfold clampT; rw [if_pos h1]
  rw [e]
  clear e h
  have h1' : decide (a0 < 0) = true := decide_eq_true h1
  go_enter Try.func32, Try.ntmps32
  go_wp2
  go_ret
  exact ⟨by first | rfl | (unfold mx; simp [h1]), Drawn0.refl _⟩
 ·
  by_cases h2 : a0 > 1099511627776
  ·
   have e : clampT a0 = 1099511627776 := by unfold clampT; rw [if_neg h1, if_pos h2]
   rw [e]
   clear e h
   go_enter Try.func32, Try.ntmps32
   go_wp2
   go_ret
   exact ⟨by first | rfl | (simp; unfold mx mn; split <;> omega), Drawn0.refl _⟩
  ·
   have e : clampT a0 = a0 := by unfold clampT; rw [if_neg h1, if_neg h2]
   rw [e]
   clear e h
   go_enter Try.func32, Try.ntmps32
   go_wp2
   go_ret
   exact ⟨by first | rfl | (simp; unfold mx mn; split <;> omega), Drawn0.refl _⟩

/-! ### slices_ContainsFunc_int64_int64: function 33 -/
/-- Is it no quantity? -/
def badQ (n : Int) : Bool := n != clampT n
set_option maxHeartbeats 1000000 in
theorem quant_1.calls (n : Int) (w : World) : Calls Try.prog 34 #[.int .i64 n] w fun e w' => e = .returned (.bool (badQ n)) ∧ Drawn0 w w' := by
 go_enter Try.func34, Try.ntmps34
 go_wp2_with (go_at_call 32; refine (sat_Of.calls _ _ _ rfl).mono ?_; rintro e w' ⟨rfl, ⟨nd, rfl⟩⟩)
 go_ret
 exact ⟨rfl, by repeat (first | exact Drawn0.refl _ | apply Drawn0.step)⟩
set_option maxHeartbeats 4000000 in
theorem index_q.calls (A0 : Option Addr) (c0 : Nat) (l0 : List Int) (w : World) (hr0 : Kd.C (Kd.int .i64) w A0 l0.length l0) :
  Calls Try.prog 45 #[.slice A0 l0.length c0, .func (Fn.func 34) #[] #[]] w fun e w' => (∃ n : Int, e = .returned (.int .i64 n) ∧ decide (0 ≤ n) = l0.any badQ) ∧ Drawn0 w w' := by
 have HR0 := Aside0.mk hr0
 have hm : l0.length ≤ 9223372036854775807 := hr0.2.1
 clear hr0
 go_enter Try.func45, Try.ntmps45
 go_wp2
 go_loopg [8] l0.length (fun kq v8 w' => ∃ i : Nat, v8 = .int .i64 i ∧ Aside0 (kq + i = l0.length) ∧ Aside0 ((l0.take i).any badQ = false) ∧ Drawn0 w w')
 case atStart => exact ⟨0, rfl, ⟨rfl⟩, ⟨rfl⟩, Drawn0.refl _⟩
 case round =>
  obtain ⟨i, rfl, HK, HP, ⟨m1, rfl⟩⟩ := hrel
  cases gk with
  | zero =>
   have e : i = l0.length := by have := HK.out; omega
   subst e
   go_wp2
   go_ret
   refine ⟨⟨-1, rfl, ?_⟩, by repeat (first | exact Drawn0.refl _ | apply Drawn0.step)⟩
   have := HP.out
   rw [List.take_length] at this
   rw [this]; rfl
  | succ k1 =>
   have hlt : i < l0.length := by have := HK.out; omega
   obtain ⟨ad, e1, hx⟩ := Kd.at_int HR0.out (i : Int) (by omega) (by omega)
   cases e1
   have er : rd l0 (i : Int) = l0[i] := by simp [rd, hlt]
   rw [er] at hx
   clear er
   have HT := Aside0.mk (List.take_succ_eq_append_getElem (l := l0) hlt)
   have HM := Aside0.mk (List.getElem_mem hlt)
   generalize l0[i] = x at *
   simp only [Int.toNat_natCast] at hx
   cases hb : badQ x with
   | true =>
    go_wp2_with (go_at_call 34; refine (quant_1.calls x _).mono ?_; rintro e w' ⟨rfl, ⟨nd, rfl⟩⟩)
    go_ret
    refine ⟨⟨i, rfl, ?_⟩, by repeat (first | exact Drawn0.refl _ | apply Drawn0.step)⟩
    rw [decide_eq_true (by omega)]
    exact (List.any_eq_true.2 ⟨x, HM.out, hb⟩).symm
   | false =>
    go_wp2_with (go_at_call 34; refine (quant_1.calls x _).mono ?_; rintro e w' ⟨rfl, ⟨nd, rfl⟩⟩)
    go_roundg k1
    case measure => omega
    case rel => exact ⟨i + 1, by go_num, ⟨by have := HK.out; omega⟩, ⟨by rw [HT.out, List.any_append, HP.out]; simp [hb]⟩, by repeat (first | exact Drawn0.refl _ | apply Drawn0.step)⟩
set_option maxHeartbeats 1000000 in
/-- Is any of a row no quantity? -/
theorem contains_q.calls (A0 : Option Addr) (c0 : Nat) (l0 : List Int) (w : World) (hr0 : Kd.C (Kd.int .i64) w A0 l0.length l0) :
  Calls Try.prog 33 #[.slice A0 l0.length c0, .func (Fn.func 34) #[] #[]] w fun e w' => e = .returned (.bool (l0.any badQ)) ∧ Drawn0 w w' := by
 go_enter Try.func33, Try.ntmps33
 go_wp2_with (go_at_call 45; (first | refine (index_q.calls _ _ l0 _ hr0).mono ?_ | refine (index_q.calls _ _ l0 _ (Kd.C_drewN' hr0)).mono ?_); rintro e w' ⟨⟨n, rfl, hn⟩, ⟨nd, rfl⟩⟩; replace hn := Aside0.mk hn)
 go_ret
 exact ⟨by rw [← hn.out]; rfl, by repeat (first | exact Drawn0.refl _ | apply Drawn0.step)⟩

/-! ### steps_quantity: function 23 -/
def steps_quantity.f (l : List Int) : Option Bool := some (!(l.any badQ))
set_option maxHeartbeats 1000000 in
theorem steps_quantity.calls (A0 : Option Addr) (c0 : Nat) (l0 : List Int) (r : Bool) (w : World) (hr0 : Kd.C (Kd.int .i64) w A0 l0.length l0) (hc0 : l0.length ≤ c0) (h : steps_quantity.f l0 = some r) :
  Calls Try.prog 23 #[.slice A0 l0.length c0] w fun e w' => e = .returned (.bool r) ∧ Drawn0 w w' := by
 obtain rfl := Option.some.inj h
 clear h
 go_enter Try.func23, Try.ntmps23
 go_wp2_with (go_at_call 33; (first | refine (contains_q.calls _ _ l0 _ hr0).mono ?_ | refine (contains_q.calls _ _ l0 _ (Kd.C_drewN' hr0)).mono ?_); rintro e w' ⟨rfl, ⟨nd, rfl⟩⟩)
 go_ret
 exact ⟨rfl, by repeat (first | exact Drawn0.refl _ | apply Drawn0.step)⟩

/-! ### steps_Check: function 20 -/
mutual
def steps_Check.j0 : Nat → Bool → List Int → List Int → Option (Int)
 | 0, _, _, _ => none
 | k + 1, x42, x103000, x103001 => if x42 = true then (some 2) else (if 1 ≤ (x103000.length : Int) then (steps_Check.l0 k (x103000.drop 1) ((x103000.drop 1).length : Int) 0 x103000 x103001) else (none))
def steps_Check.l0 : Nat → List Int → Int → Int → List Int → List Int → Option (Int)
 | 0, _, _, _, _, _ => none
 | k + 1, x45, x46, x47, x103000, x103001 => if x47 < x46 then (if 0 ≤ x47 then (if x47 < (x45.length : Int) then (if x47 < (x103000.length : Int) then (if (rd x45 x47) ≤ (rd x103000 x47) then (some 2) else (steps_Check.l0 k x45 x46 (wrap64 (x47 + 1)) x103000 x103001)) else (none)) else (none)) else (none)) else (some 0)
end
def steps_Check.f (k : Nat) (l0_0 : List Int) (l0_1 : List Int) : Option (Int) := if (l0_0.length : Int) = (l0_1.length : Int) then (if (l0_0.length : Int) < 1 then (steps_Check.j0 k true l0_0 l0_1) else (if (l0_0.length : Int) > 2000 then (steps_Check.j0 k true l0_0 l0_1) else (if 0 < (l0_0.length : Int) then (if (rd l0_0 0) = 0 then ((steps_quantity.f l0_0).bind fun t104 => (if t104 = true then ((steps_quantity.f l0_1).bind fun t105 => (steps_Check.j0 k (!t105) l0_0 l0_1)) else (steps_Check.j0 k true l0_0 l0_1))) else (steps_Check.j0 k true l0_0 l0_1)) else (none)))) else (steps_Check.j0 k true l0_0 l0_1)
theorem steps_Check.mono_l : ∀ k, (∀ y0 y1 y2, LeO (steps_Check.j0 k y0 y1 y2) (steps_Check.j0 (k + 1) y0 y1 y2)) ∧ (∀ y0 y1 y2 y3 y4, LeO (steps_Check.l0 k y0 y1 y2 y3 y4) (steps_Check.l0 (k + 1) y0 y1 y2 y3 y4))
 | 0 => ⟨fun _ _ _ r h => by simp [steps_Check.j0] at h, fun _ _ _ _ _ r h => by simp [steps_Check.l0] at h⟩
 | k + 1 => by
  obtain ⟨ih0, ih1⟩ := steps_Check.mono_l k
  refine ⟨?_, ?_⟩
  ·
   intro y0 y1 y2
   unfold steps_Check.j0
   repeat' first
   | (with_reducible exact ih0 _ _ _)
   | (with_reducible exact ih1 _ _ _ _ _)
   | (with_reducible exact LeO.refl _)
   | (with_reducible exact LeO.none _)
   | (with_reducible refine LeO.ite ?_ ?_)
   | (with_reducible refine LeO.bind ?_ (fun _ => ?_))
   | exact ih0 _ _ _
   | exact ih1 _ _ _ _ _
   | exact LeO.none _
   | refine LeO.ite ?_ ?_
   | refine LeO.bind ?_ (fun _ => ?_)
  ·
   intro y0 y1 y2 y3 y4
   unfold steps_Check.l0
   repeat' first
   | (with_reducible exact ih0 _ _ _)
   | (with_reducible exact ih1 _ _ _ _ _)
   | (with_reducible exact LeO.refl _)
   | (with_reducible exact LeO.none _)
   | (with_reducible refine LeO.ite ?_ ?_)
   | (with_reducible refine LeO.bind ?_ (fun _ => ?_))
   | exact ih0 _ _ _
   | exact ih1 _ _ _ _ _
   | exact LeO.none _
   | refine LeO.ite ?_ ?_
   | refine LeO.bind ?_ (fun _ => ?_)
theorem steps_Check.mono : ∀ a0 a1 k, LeO (steps_Check.f k a0 a1) (steps_Check.f (k + 1) a0 a1) := by
 intro a0 a1 k
 obtain ⟨ih0, ih1⟩ := steps_Check.mono_l k
 unfold steps_Check.f
 repeat' first
   | (with_reducible exact ih0 _ _ _)
   | (with_reducible exact ih1 _ _ _ _ _)
   | (with_reducible exact LeO.refl _)
   | (with_reducible exact LeO.none _)
   | (with_reducible refine LeO.ite ?_ ?_)
   | (with_reducible refine LeO.bind ?_ (fun _ => ?_))
   | exact ih0 _ _ _
   | exact ih1 _ _ _ _ _
   | exact LeO.none _
   | refine LeO.ite ?_ ?_
   | refine LeO.bind ?_ (fun _ => ?_)
set_option maxHeartbeats 8000000 in
set_option maxRecDepth 100000 in
theorem steps_Check.calls (k : Nat) (A0_0 : Option Addr) (c0_0 : Nat) (l0_0 : List Int) (A0_1 : Option Addr) (c0_1 : Nat) (l0_1 : List Int) (r : Int) (w : World) (hr0_0 : Kd.C (Kd.int .i64) w A0_0 l0_0.length l0_0) (hc0_0 : l0_0.length ≤ c0_0) (hr0_1 : Kd.C (Kd.int .i64) w A0_1 l0_1.length l0_1) (hc0_1 : l0_1.length ≤ c0_1) (h : steps_Check.f k l0_0 l0_1 = some r) :
  Calls Try.prog 20 #[.agg #[.slice A0_0 l0_0.length c0_0, .slice A0_1 l0_1.length c0_1]] w fun e w' => e = .returned (.int .i64 r) ∧ Below w.heap.size w w' := by
 have hu24 := Try.underlying24
 have HR0_0 := Aside0.mk hr0_0
 have HC0_0 := Aside0.mk hc0_0
 clear hr0_0 hc0_0
 have HR0_1 := Aside0.mk hr0_1
 have HC0_1 := Aside0.mk hc0_1
 clear hr0_1 hc0_1
 have HB := Aside0.mk (Below.refl w.heap.size w)
 have H : (if (l0_0.length : Int) = (l0_1.length : Int) then (if (l0_0.length : Int) < 1 then (steps_Check.j0 k true l0_0 l0_1) else (if (l0_0.length : Int) > 2000 then (steps_Check.j0 k true l0_0 l0_1) else (if 0 < (l0_0.length : Int) then (if (rd l0_0 0) = 0 then ((steps_quantity.f l0_0).bind fun t104 => (if t104 = true then ((steps_quantity.f l0_1).bind fun t105 => (steps_Check.j0 k (!t105) l0_0 l0_1)) else (steps_Check.j0 k true l0_0 l0_1))) else (steps_Check.j0 k true l0_0 l0_1)) else (none)))) else (steps_Check.j0 k true l0_0 l0_1)) = some r := h
 clear h
 have HC2 := Aside0.mk H
 clear H
 go_enter Try.func20, Try.ntmps20
 go_upto_region 1 with (first | ((with_reducible refine gate_dst (N := 1) rfl ?_); (try (refine gate_guard (by rfl) ?_; dsimp only)); refine box_event ?hg (N := 1) ?hd (cs := #[.slice A0_0 l0_0.length c0_0, .slice A0_1 l0_1.length c0_1]) (t := 24) ?hr ?_; (case hd => rfl); (case hg => rfl); (case hr => first | (go_simp; done) | (go_simp; rfl)); intro gb102 hg w3 hbox hb; have n0_ := Aside0.mk (below_step (by repeat (first | (with_reducible first | exact HB.out | apply below_alloc | apply pw_below_drewN | apply below_drew1) | exact HB.out)) hb); have n1_ := Aside0.mk (hbox); have n2_ := Aside0.mk ((by rw [hg]; exact (below_size (by repeat (first | (with_reducible first | exact HB.out | apply below_alloc | apply pw_below_drewN | apply below_drew1) | exact HB.out))) : w.heap.size ≤ gb102)); have n3_ := Aside0.mk ((by rw [hg]; exact (below_size (by repeat (first | (with_reducible first | exact HB.out | apply below_alloc | apply pw_below_drewN | apply below_drew1) | exact HB.out))) : w.heap.size ≤ gb102)); clear HB; have HB := n0_; have BK102 := n1_; have GW102 := n2_; have GE102 := n3_; clear n0_ n1_ n2_ n3_; clear hb hbox hg))
 (try simp only [Act.put, List.setIfInBounds_toArray, List.set_cons_zero, List.set_cons_succ])
 go_cut [42] (fun v42 wc => ∃ (kq : Nat) (x42_1 : Bool), v42 = .bool x42_1 ∧ Aside0 (steps_Check.j0 kq x42_1 l0_0 l0_1 = some r) ∧ Aside0 (kq ≤ k) ∧ Aside0 (wc.heap[gb102]? = some (.cells #[(.slice A0_0 l0_0.length c0_0), (.slice A0_1 l0_1.length c0_1)] 24 (0, 0))) ∧ Aside0 (Below w.heap.size w wc))
 case first =>
  have H := HC2.out
  clear HC2
  by_cases c4 : (l0_0.length : Int) = (l0_1.length : Int)
  ·
   rw [if_pos c4] at H
   have c4b0 : ((l0_0.length : Int) == (l0_1.length : Int)) = true := beq_iff_eq.mpr c4
   have c4b1 : ((l0_0.length : Int) != (l0_1.length : Int)) = false := bne_eq_false_iff_eq.mpr c4
   have c4b2 : (l0_0.length == l0_1.length) = true := by first | simpa using c4 | (simp at c4 ⊢; omega)
   clear c4
   (first | rw [c4b0] | (simp only [i64_w, i32_w]; rw [c4b0]) | skip)
   by_cases c5 : (l0_0.length : Int) < 1
   ·
    rw [if_pos c5] at H
    have c5b0 : decide ((l0_0.length : Int) < 1) = true := decide_eq_true c5
    have c5b1 : decide (l0_0.length < 1) = true := decide_eq_true (by omega)
    clear c5
    have H' := Aside0.mk H
    clear H
    have hcz6_0 : w3.cell? ⟨gb102, 0, none⟩ = some (.slice A0_0 l0_0.length c0_0) := (blk_cell BK102.out 0).trans rfl
    have hcz6_1 : w3.cell? ⟨gb102, 1, none⟩ = some (.slice A0_1 l0_1.length c0_1) := (blk_cell BK102.out 1).trans rfl
    have hfz6_0 := blk_frozen BK102.out 0
    have hfz6_1 := blk_frozen BK102.out 1
    go_wp2
    go_meet
    case rel => exact ⟨_, (true), (by first | rfl | (simp; done) | (simp [*]; done) | (simp; exact isEmpty_bne _)), H', ⟨by first | omega | exact Nat.le_refl _⟩, ⟨by (with_reducible repeat (first | refine blk_drewN ?_ _ | refine blk_drew ?_ | refine blk_alloc ?_ _)); exact BK102.out⟩, ⟨by repeat (first | (with_reducible first | exact HB.out | apply below_alloc | apply pw_below_drewN | apply below_drew1 | refine below_set ?_ GE102.out) | exact HB.out)⟩⟩
   ·
    rw [if_neg c5] at H
    have c5b0 : decide ((l0_0.length : Int) < 1) = false := decide_eq_false c5
    have c5b1 : decide (l0_0.length < 1) = false := decide_eq_false (by omega)
    clear c5
    by_cases c7 : (l0_0.length : Int) > 2000
    ·
     rw [if_pos c7] at H
     have c7b0 : decide (2000 < (l0_0.length : Int)) = true := decide_eq_true c7
     have c7b1 : decide (2000 < l0_0.length) = true := decide_eq_true (by omega)
     clear c7
     have H' := Aside0.mk H
     clear H
     have hcz8_0 : w3.cell? ⟨gb102, 0, none⟩ = some (.slice A0_0 l0_0.length c0_0) := (blk_cell BK102.out 0).trans rfl
     have hcz8_1 : w3.cell? ⟨gb102, 1, none⟩ = some (.slice A0_1 l0_1.length c0_1) := (blk_cell BK102.out 1).trans rfl
     have hfz8_0 := blk_frozen BK102.out 0
     have hfz8_1 := blk_frozen BK102.out 1
     go_wp2
     go_meet
     case rel => exact ⟨_, (true), (by first | rfl | (simp; done) | (simp [*]; done) | (simp; exact isEmpty_bne _)), H', ⟨by first | omega | exact Nat.le_refl _⟩, ⟨by (with_reducible repeat (first | refine blk_drewN ?_ _ | refine blk_drew ?_ | refine blk_alloc ?_ _)); exact BK102.out⟩, ⟨by repeat (first | (with_reducible first | exact HB.out | apply below_alloc | apply pw_below_drewN | apply below_drew1 | refine below_set ?_ GE102.out) | exact HB.out)⟩⟩
    ·
     rw [if_neg c7] at H
     have c7b0 : decide (2000 < (l0_0.length : Int)) = false := decide_eq_false c7
     have c7b1 : decide (2000 < l0_0.length) = false := decide_eq_false (by omega)
     clear c7
     by_cases c9 : 0 < (l0_0.length : Int)
     ·
      rw [if_pos c9] at H
      have c9b0 : decide (0 < (l0_0.length : Int)) = true := decide_eq_true c9
      have c9b1 : decide (0 < l0_0.length) = true := decide_eq_true (by omega)
      clear c9
      by_cases c10 : (rd l0_0 0) = 0
      ·
       rw [if_pos c10] at H
       have c10b0 : ((rd l0_0 0) == 0) = true := beq_iff_eq.mpr c10
       have c10b1 : ((rd l0_0 0) != 0) = false := bne_eq_false_iff_eq.mpr c10
       clear c10
       replace H := Option.bind_eq_some_iff.mp H
       obtain ⟨t104, A110, H⟩ := H
       replace H : (if t104 = true then ((steps_quantity.f l0_1).bind fun t105 => (steps_Check.j0 k (!t105) l0_0 l0_1)) else (steps_Check.j0 k true l0_0 l0_1)) = some r := H
       have A11 := Aside0.mk A110
       clear A110
       by_cases c12 : t104 = true
       ·
        subst c12
        have H1 : ((steps_quantity.f l0_1).bind fun t105 => (steps_Check.j0 k (!t105) l0_0 l0_1)) = some r := by rw [if_pos rfl] at H; exact H
        clear H
        have H := H1
        clear H1
        replace H := Option.bind_eq_some_iff.mp H
        obtain ⟨t105, A130, H⟩ := H
        replace H : (steps_Check.j0 k (!t105) l0_0 l0_1) = some r := H
        have A13 := Aside0.mk A130
        clear A130
        have H' := Aside0.mk H
        clear H
        have hcz14_0 : w3.cell? ⟨gb102, 0, none⟩ = some (.slice A0_0 l0_0.length c0_0) := (blk_cell BK102.out 0).trans rfl
        have hcz14_1 : w3.cell? ⟨gb102, 1, none⟩ = some (.slice A0_1 l0_1.length c0_1) := (blk_cell BK102.out 1).trans rfl
        have hfz14_0 := blk_frozen BK102.out 0
        have hfz14_1 := blk_frozen BK102.out 1
        have p103 : 0 ≤ (0 : Int) := (by omega)
        have q103 : 0 < (l0_0.length : Int) := of_decide_eq_true (by first | (with_reducible assumption) | assumption)
        obtain ⟨ad103, e103, hx103_0⟩ := Kd.at_int HR0_0.out 0 p103 q103
        cases e103
        have qi103 : (0 < l0_0.length) = True := eq_true (by omega)
        (try rw [show ((0 : Int)).toNat = 0 from rfl] at hx103_0)
        (try rw [Addr.add_zero'] at hx103_0)
        replace hx103_0 := (HB.out.cell (World.block_lt_of_cell? w _ hx103_0)).trans hx103_0
        replace p103 := eq_true p103
        replace q103 := eq_true q103
        go_wp2_with (first | (go_at_call 23; (with_reducible refine (steps_quantity.calls _ _ l0_0 true _ ?side1 ?side2 A11.out).mono ?_); (case side1 => repeat (first | exact (Kd.C_below HR0_0.out HB.out) | (with_reducible refine Kd.C_alloc ?_ _) | (with_reducible refine Kd.C_drewN ?_ _) | (with_reducible refine Kd.C_drew ?_))); (case side2 => exact HC0_0.out); rintro e w' ⟨rfl, ⟨nd, rfl⟩⟩) | (go_at_call 23; (with_reducible refine (steps_quantity.calls _ _ l0_1 t105 _ ?side1 ?side2 A13.out).mono ?_); (case side1 => repeat (first | exact (Kd.C_below HR0_1.out (by repeat (first | (with_reducible first | exact HB.out | apply below_alloc | apply pw_below_drewN | apply below_drew1 | refine below_set ?_ GE102.out) | exact HB.out))) | (with_reducible refine Kd.C_alloc ?_ _) | (with_reducible refine Kd.C_drewN ?_ _) | (with_reducible refine Kd.C_drew ?_))); (case side2 => exact HC0_1.out); rintro e w' ⟨rfl, ⟨nd, rfl⟩⟩))
        go_meet
        case rel => exact ⟨_, (!t105), (by first | rfl | (simp; done) | (simp [*]; done) | (simp; exact isEmpty_bne _)), H', ⟨by first | omega | exact Nat.le_refl _⟩, ⟨by (with_reducible repeat (first | refine blk_drewN ?_ _ | refine blk_drew ?_ | refine blk_alloc ?_ _)); exact BK102.out⟩, ⟨by repeat (first | (with_reducible first | exact HB.out | apply below_alloc | apply pw_below_drewN | apply below_drew1 | refine below_set ?_ GE102.out) | exact HB.out)⟩⟩
       ·
        replace c12 := Bool.eq_false_iff.mpr c12
        subst c12
        have H1 : (steps_Check.j0 k true l0_0 l0_1) = some r := by rw [if_neg (show ¬ (false = true) by decide)] at H; exact H
        clear H
        have H := H1
        clear H1
        have H' := Aside0.mk H
        clear H
        have hcz15_0 : w3.cell? ⟨gb102, 0, none⟩ = some (.slice A0_0 l0_0.length c0_0) := (blk_cell BK102.out 0).trans rfl
        have hcz15_1 : w3.cell? ⟨gb102, 1, none⟩ = some (.slice A0_1 l0_1.length c0_1) := (blk_cell BK102.out 1).trans rfl
        have hfz15_0 := blk_frozen BK102.out 0
        have hfz15_1 := blk_frozen BK102.out 1
        have p103 : 0 ≤ (0 : Int) := (by omega)
        have q103 : 0 < (l0_0.length : Int) := of_decide_eq_true (by first | (with_reducible assumption) | assumption)
        obtain ⟨ad103, e103, hx103_0⟩ := Kd.at_int HR0_0.out 0 p103 q103
        cases e103
        have qi103 : (0 < l0_0.length) = True := eq_true (by omega)
        (try rw [show ((0 : Int)).toNat = 0 from rfl] at hx103_0)
        (try rw [Addr.add_zero'] at hx103_0)
        replace hx103_0 := (HB.out.cell (World.block_lt_of_cell? w _ hx103_0)).trans hx103_0
        replace p103 := eq_true p103
        replace q103 := eq_true q103
        go_wp2_with (first | (go_at_call 23; (with_reducible refine (steps_quantity.calls _ _ l0_0 false _ ?side1 ?side2 A11.out).mono ?_); (case side1 => repeat (first | exact (Kd.C_below HR0_0.out HB.out) | (with_reducible refine Kd.C_alloc ?_ _) | (with_reducible refine Kd.C_drewN ?_ _) | (with_reducible refine Kd.C_drew ?_))); (case side2 => exact HC0_0.out); rintro e w' ⟨rfl, ⟨nd, rfl⟩⟩))
        go_meet
        case rel => exact ⟨_, (true), (by first | rfl | (simp; done) | (simp [*]; done) | (simp; exact isEmpty_bne _)), H', ⟨by first | omega | exact Nat.le_refl _⟩, ⟨by (with_reducible repeat (first | refine blk_drewN ?_ _ | refine blk_drew ?_ | refine blk_alloc ?_ _)); exact BK102.out⟩, ⟨by repeat (first | (with_reducible first | exact HB.out | apply below_alloc | apply pw_below_drewN | apply below_drew1 | refine below_set ?_ GE102.out) | exact HB.out)⟩⟩
      ·
       rw [if_neg c10] at H
       have c10b0 : ((rd l0_0 0) == 0) = false := beq_eq_false_iff_ne.mpr c10
       have c10b1 : ((rd l0_0 0) != 0) = true := bne_iff_ne.mpr c10
       have H' := Aside0.mk H
       clear H
       have hcz16_0 : w3.cell? ⟨gb102, 0, none⟩ = some (.slice A0_0 l0_0.length c0_0) := (blk_cell BK102.out 0).trans rfl
       have hcz16_1 : w3.cell? ⟨gb102, 1, none⟩ = some (.slice A0_1 l0_1.length c0_1) := (blk_cell BK102.out 1).trans rfl
       have hfz16_0 := blk_frozen BK102.out 0
       have hfz16_1 := blk_frozen BK102.out 1
       have p103 : 0 ≤ (0 : Int) := (by omega)
       have q103 : 0 < (l0_0.length : Int) := of_decide_eq_true (by first | (with_reducible assumption) | assumption)
       obtain ⟨ad103, e103, hx103_0⟩ := Kd.at_int HR0_0.out 0 p103 q103
       cases e103
       have qi103 : (0 < l0_0.length) = True := eq_true (by omega)
       (try rw [show ((0 : Int)).toNat = 0 from rfl] at hx103_0)
       (try rw [Addr.add_zero'] at hx103_0)
       replace hx103_0 := (HB.out.cell (World.block_lt_of_cell? w _ hx103_0)).trans hx103_0
       replace p103 := eq_true p103
       replace q103 := eq_true q103
       go_wp2
       go_meet
       case rel => exact ⟨_, (true), (by first | rfl | (simp; done) | (simp [*]; done) | (simp; exact isEmpty_bne _)), H', ⟨by first | omega | exact Nat.le_refl _⟩, ⟨by (with_reducible repeat (first | refine blk_drewN ?_ _ | refine blk_drew ?_ | refine blk_alloc ?_ _)); exact BK102.out⟩, ⟨by repeat (first | (with_reducible first | exact HB.out | apply below_alloc | apply pw_below_drewN | apply below_drew1 | refine below_set ?_ GE102.out) | exact HB.out)⟩⟩
     ·
      rw [if_neg c9] at H
      exact absurd H (by simp)
  ·
   rw [if_neg c4] at H
   have c4b0 : ((l0_0.length : Int) == (l0_1.length : Int)) = false := beq_eq_false_iff_ne.mpr c4
   have c4b1 : ((l0_0.length : Int) != (l0_1.length : Int)) = true := bne_iff_ne.mpr c4
   have c4b2 : (l0_0.length == l0_1.length) = false := by first | simpa using c4 | (simp at c4 ⊢; omega)
   (first | rw [c4b0] | (simp only [i64_w, i32_w]; rw [c4b0]) | skip)
   have H' := Aside0.mk H
   clear H
   have hcz17_0 : w3.cell? ⟨gb102, 0, none⟩ = some (.slice A0_0 l0_0.length c0_0) := (blk_cell BK102.out 0).trans rfl
   have hcz17_1 : w3.cell? ⟨gb102, 1, none⟩ = some (.slice A0_1 l0_1.length c0_1) := (blk_cell BK102.out 1).trans rfl
   have hfz17_0 := blk_frozen BK102.out 0
   have hfz17_1 := blk_frozen BK102.out 1
   go_wp2
   go_meet
   case rel => exact ⟨_, (true), (by first | rfl | (simp; done) | (simp [*]; done) | (simp; exact isEmpty_bne _)), H', ⟨by first | omega | exact Nat.le_refl _⟩, ⟨by (with_reducible repeat (first | refine blk_drewN ?_ _ | refine blk_drew ?_ | refine blk_alloc ?_ _)); exact BK102.out⟩, ⟨by repeat (first | (with_reducible first | exact HB.out | apply below_alloc | apply pw_below_drewN | apply below_drew1 | refine below_set ?_ GE102.out) | exact HB.out)⟩⟩
 case rest =>
  clear HC2
  try clear c1
  try clear p1
  try clear q1
  try clear hx1
  try clear qi1
  try clear c2
  try clear p2
  try clear c4
  try clear c4b0
  try clear c4b1
  try clear c4b2
  try clear c5
  try clear c5b0
  try clear c5b1
  try clear c7
  try clear c7b0
  try clear c7b1
  try clear c9
  try clear c9b0
  try clear c9b1
  try clear c10
  try clear c10b0
  try clear c10b1
  try clear p10
  try clear q10
  try clear hx10
  try clear qi10
  try clear c12
  try clear hcz14_0
  try clear hcz14_1
  try clear hcz15_0
  try clear hcz15_1
  try clear hcz16_0
  try clear hcz16_1
  try clear hcz17_0
  try clear hcz17_1
  try clear hcz6_0
  try clear hcz6_1
  try clear hcz8_0
  try clear hcz8_1
  try clear hfz14_0
  try clear hfz14_1
  try clear hfz15_0
  try clear hfz15_1
  try clear hfz16_0
  try clear hfz16_1
  try clear hfz17_0
  try clear hfz17_1
  try clear hfz6_0
  try clear hfz6_1
  try clear hfz8_0
  try clear hfz8_1
  try clear hx103_0
  try clear p103
  try clear q103
  obtain ⟨kq, x42_1, rfl, HA, HJ1, BK102, HB⟩ := hcut
  cases kq with
  | zero => exact absurd HA.out (by simp [steps_Check.j0])
  | succ kj1 =>
   have H := HA.out
   clear HA
   simp only [steps_Check.j0] at H
   by_cases c18 : x42_1 = true
   ·
    subst c18
    have H1 : (some 2) = some r := by rw [if_pos rfl] at H; exact H
    clear H
    have H := H1
    clear H1
    obtain rfl := Option.some.inj H
    go_wp2
    go_ret
    exact ⟨by first | rfl | (simp [errW_none, errW_some] <;> rfl) | (simp [*, errW_none, errW_some] <;> rfl), by repeat (first | (with_reducible first | exact HB.out | apply below_alloc | apply pw_below_drewN | apply below_drew1 | refine below_set ?_ GE102.out) | exact HB.out)⟩
   ·
    replace c18 := Bool.eq_false_iff.mpr c18
    subst c18
    have H1 : (if 1 ≤ (l0_0.length : Int) then (steps_Check.l0 kj1 (l0_0.drop 1) ((l0_0.drop 1).length : Int) 0 l0_0 l0_1) else (none)) = some r := by rw [if_neg (show ¬ (false = true) by decide)] at H; exact H
    clear H
    have H := H1
    clear H1
    by_cases c19 : 1 ≤ (l0_0.length : Int)
    ·
     rw [if_pos c19] at H
     have c19b0 := eq_true c19
     have c19b1 : decide (1 ≤ (l0_0.length : Int)) = true := decide_eq_true c19
     clear c19
     have H' := Aside0.mk H
     clear H
     have hcz20_0 : wc.cell? ⟨gb102, 0, none⟩ = some (.slice A0_0 l0_0.length c0_0) := (blk_cell BK102.out 0).trans rfl
     have hcz20_1 : wc.cell? ⟨gb102, 1, none⟩ = some (.slice A0_1 l0_1.length c0_1) := (blk_cell BK102.out 1).trans rfl
     have hfz20_0 := blk_frozen BK102.out 0
     have hfz20_1 := blk_frozen BK102.out 1
     obtain ⟨i021, hi021, _, hsz21, _⟩ := info_parts info2
     obtain ⟨A21, hcut21, hA21, hC21⟩ := print_drop_of (P := Try.prog) (Value.int .i64) 0 22 2 .i64 Try.underlying22 hi021 hsz21 A0_0 c0_0 l0_0 1 (by omega) (of_decide_eq_true (by first | (with_reducible assumption) | assumption)) HC0_0.out
     have HR106 := Aside0.mk (Kd.C_of_reads (h1 := fun _ => rfl) (hA21 _ (Kd.reads_of_C HR0_0.out)))
     have HC106 := Aside0.mk hC21
     clear hA21 hC21 hi021 hsz21
     go_wp2
     go_loopg [47] kj1 (fun kq v47 w' => ∃ (x47_2 : Int), v47 = .int .i64 x47_2 ∧ Aside0 (steps_Check.l0 kq (l0_0.drop 1) ((l0_0.drop 1).length : Int) x47_2 l0_0 l0_1 = some r) ∧ Aside0 (kq ≤ kj1) ∧ Aside0 (w'.heap[gb102]? = some (.cells #[(.slice A0_0 l0_0.length c0_0), (.slice A0_1 l0_1.length c0_1)] 24 (0, 0))) ∧ Aside0 (Below w.heap.size w w'))
     case atStart => exact ⟨(0), (by first | rfl | (simp; done) | (simp [*]; done) | (simp; exact isEmpty_bne _)), H', ⟨Nat.le_refl _⟩, ⟨by (with_reducible repeat (first | refine blk_drewN ?_ _ | refine blk_drew ?_ | refine blk_alloc ?_ _)); exact BK102.out⟩, ⟨by repeat (first | (with_reducible first | exact HB.out | apply below_alloc | apply pw_below_drewN | apply below_drew1 | refine below_set ?_ GE102.out) | exact HB.out)⟩⟩
     case round =>
      clear H'
      try clear c1
      try clear p1
      try clear q1
      try clear hx1
      try clear qi1
      try clear c2
      try clear p2
      try clear c4
      try clear c4b0
      try clear c4b1
      try clear c4b2
      try clear c5
      try clear c5b0
      try clear c5b1
      try clear c7
      try clear c7b0
      try clear c7b1
      try clear c9
      try clear c9b0
      try clear c9b1
      try clear c10
      try clear c10b0
      try clear c10b1
      try clear p10
      try clear q10
      try clear hx10
      try clear qi10
      try clear c12
      try clear c18
      try clear c19
      try clear c19b0
      try clear c19b1
      try clear c20
      try clear hcz14_0
      try clear hcz14_1
      try clear hcz15_0
      try clear hcz15_1
      try clear hcz16_0
      try clear hcz16_1
      try clear hcz17_0
      try clear hcz17_1
      try clear hcz20_0
      try clear hcz20_1
      try clear hcz6_0
      try clear hcz6_1
      try clear hcz8_0
      try clear hcz8_1
      try clear hfz14_0
      try clear hfz14_1
      try clear hfz15_0
      try clear hfz15_1
      try clear hfz16_0
      try clear hfz16_1
      try clear hfz17_0
      try clear hfz17_1
      try clear hfz20_0
      try clear hfz20_1
      try clear hfz6_0
      try clear hfz6_1
      try clear hfz8_0
      try clear hfz8_1
      try clear hx103_0
      try clear p1
      try clear p10
      try clear p103
      try clear p2
      try clear q1
      try clear q10
      try clear q103
      obtain ⟨x47_2, rfl, HA, HK2, BK102, HB⟩ := hrel
      cases gk with
      | zero => exact absurd HA.out (by simp [steps_Check.l0])
      | succ k2 =>
       have H := HA.out
       clear HA
       simp only [steps_Check.l0] at H
       by_cases c22 : x47_2 < ((l0_0.drop 1).length : Int)
       ·
        rw [if_pos c22] at H
        have c22b0 : decide (x47_2 < ((l0_0.drop 1).length : Int)) = true := decide_eq_true c22
        have c22b0t := c22b0; (try simp only [List.drop_one] at c22b0t)
        have c22b0u := c22b0; (try simp only [List.length_drop] at c22b0u)
        clear c22
        by_cases c23 : 0 ≤ x47_2
        ·
         rw [if_pos c23] at H
         have c23b0 : decide (0 ≤ x47_2) = true := decide_eq_true c23
         clear c23
         by_cases c24 : x47_2 < ((l0_0.drop 1).length : Int)
         ·
          rw [if_pos c24] at H
          have c24b0 : decide (x47_2 < ((l0_0.drop 1).length : Int)) = true := decide_eq_true c24
          have c24b0t := c24b0; (try simp only [List.drop_one] at c24b0t)
          have c24b0u := c24b0; (try simp only [List.length_drop] at c24b0u)
          clear c24
          by_cases c25 : x47_2 < (l0_0.length : Int)
          ·
           rw [if_pos c25] at H
           have c25b0 : decide (x47_2 < (l0_0.length : Int)) = true := decide_eq_true c25
           clear c25
           by_cases c26 : (rd (l0_0.drop 1) x47_2) ≤ (rd l0_0 x47_2)
           ·
            rw [if_pos c26] at H
            have c26b0 : decide ((rd (l0_0.drop 1) x47_2) ≤ (rd l0_0 x47_2)) = true := decide_eq_true c26
            have c26b0t := c26b0; (try simp only [List.drop_one] at c26b0t)
            have c26b0u := c26b0; (try simp only [List.length_drop] at c26b0u)
            clear c26
            obtain rfl := Option.some.inj H
            have p107 : 0 ≤ (x47_2 : Int) := of_decide_eq_true (by first | (with_reducible assumption) | assumption)
            have q107 : x47_2 < ((l0_0.drop 1).length : Int) := of_decide_eq_true (by first | (with_reducible assumption) | assumption)
            have q107u := q107; (try simp only [List.length_drop] at q107u); replace q107u := eq_true q107u
            obtain ⟨ad107, e107, hx107_0⟩ := Kd.at_int HR106.out x47_2 p107 q107
            cases e107
            replace hx107_0 := (HB.out.cell (World.block_lt_of_cell? w _ hx107_0)).trans hx107_0
            replace p107 := eq_true p107
            replace q107 := eq_true q107
            have hcz27_0 : wr.cell? ⟨gb102, 0, none⟩ = some (.slice A0_0 l0_0.length c0_0) := (blk_cell BK102.out 0).trans rfl
            have hcz27_1 : wr.cell? ⟨gb102, 1, none⟩ = some (.slice A0_1 l0_1.length c0_1) := (blk_cell BK102.out 1).trans rfl
            have hfz27_0 := blk_frozen BK102.out 0
            have hfz27_1 := blk_frozen BK102.out 1
            have p108 : 0 ≤ (x47_2 : Int) := of_decide_eq_true (by first | (with_reducible assumption) | assumption)
            have q108 : x47_2 < (l0_0.length : Int) := of_decide_eq_true (by first | (with_reducible assumption) | assumption)
            obtain ⟨ad108, e108, hx108_0⟩ := Kd.at_int HR0_0.out x47_2 p108 q108
            cases e108
            replace hx108_0 := (HB.out.cell (World.block_lt_of_cell? w _ hx108_0)).trans hx108_0
            replace p108 := eq_true p108
            replace q108 := eq_true q108
            go_wp2
            go_ret
            exact ⟨by first | rfl | (simp [errW_none, errW_some] <;> rfl) | (simp [*, errW_none, errW_some] <;> rfl), by repeat (first | (with_reducible first | exact HB.out | apply below_alloc | apply pw_below_drewN | apply below_drew1 | refine below_set ?_ GE102.out) | exact HB.out)⟩
           ·
            rw [if_neg c26] at H
            have c26b0 : decide ((rd (l0_0.drop 1) x47_2) ≤ (rd l0_0 x47_2)) = false := decide_eq_false c26
            have c26b0t := c26b0; (try simp only [List.drop_one] at c26b0t)
            have c26b0u := c26b0; (try simp only [List.length_drop] at c26b0u)
            clear c26
            have H' := Aside0.mk H
            clear H
            have p107 : 0 ≤ (x47_2 : Int) := of_decide_eq_true (by first | (with_reducible assumption) | assumption)
            have q107 : x47_2 < ((l0_0.drop 1).length : Int) := of_decide_eq_true (by first | (with_reducible assumption) | assumption)
            have q107u := q107; (try simp only [List.length_drop] at q107u); replace q107u := eq_true q107u
            obtain ⟨ad107, e107, hx107_0⟩ := Kd.at_int HR106.out x47_2 p107 q107
            cases e107
            replace hx107_0 := (HB.out.cell (World.block_lt_of_cell? w _ hx107_0)).trans hx107_0
            replace p107 := eq_true p107
            replace q107 := eq_true q107
            have hcz28_0 : wr.cell? ⟨gb102, 0, none⟩ = some (.slice A0_0 l0_0.length c0_0) := (blk_cell BK102.out 0).trans rfl
            have hcz28_1 : wr.cell? ⟨gb102, 1, none⟩ = some (.slice A0_1 l0_1.length c0_1) := (blk_cell BK102.out 1).trans rfl
            have hfz28_0 := blk_frozen BK102.out 0
            have hfz28_1 := blk_frozen BK102.out 1
            have p108 : 0 ≤ (x47_2 : Int) := of_decide_eq_true (by first | (with_reducible assumption) | assumption)
            have q108 : x47_2 < (l0_0.length : Int) := of_decide_eq_true (by first | (with_reducible assumption) | assumption)
            obtain ⟨ad108, e108, hx108_0⟩ := Kd.at_int HR0_0.out x47_2 p108 q108
            cases e108
            replace hx108_0 := (HB.out.cell (World.block_lt_of_cell? w _ hx108_0)).trans hx108_0
            replace p108 := eq_true p108
            replace q108 := eq_true q108
            go_wp2
            go_roundg k2
            case measure => have := HJ1.out; have := HK2.out; omega
            case rel => exact ⟨(wrap64 (x47_2 + 1)), (by first | rfl | (simp; done) | (simp [*]; done) | (simp; exact isEmpty_bne _)), H', ⟨by have := HJ1.out; have := HK2.out; omega⟩, ⟨by (with_reducible repeat (first | refine blk_drewN ?_ _ | refine blk_drew ?_ | refine blk_alloc ?_ _)); exact BK102.out⟩, ⟨by repeat (first | (with_reducible first | exact HB.out | apply below_alloc | apply pw_below_drewN | apply below_drew1 | refine below_set ?_ GE102.out) | exact HB.out)⟩⟩
          ·
           rw [if_neg c25] at H
           exact absurd H (by simp)
         ·
          rw [if_neg c24] at H
          exact absurd H (by simp)
        ·
         rw [if_neg c23] at H
         exact absurd H (by simp)
       ·
        rw [if_neg c22] at H
        have c22b0 : decide (x47_2 < ((l0_0.drop 1).length : Int)) = false := decide_eq_false c22
        have c22b0t := c22b0; (try simp only [List.drop_one] at c22b0t)
        have c22b0u := c22b0; (try simp only [List.length_drop] at c22b0u)
        clear c22
        obtain rfl := Option.some.inj H
        go_wp2
        go_ret
        exact ⟨by first | rfl | (simp [errW_none, errW_some] <;> rfl) | (simp [*, errW_none, errW_some] <;> rfl), by repeat (first | (with_reducible first | exact HB.out | apply below_alloc | apply pw_below_drewN | apply below_drew1 | refine below_set ?_ GE102.out) | exact HB.out)⟩
    ·
     rw [if_neg c19] at H
     exact absurd H (by simp)

/-! ### fit_quantity: function 21 -/
def fit_quantity.l0 : Nat → List Int → Int → Int → Option (Bool)
 | 0, _, _, _ => none
 | k + 1, x5, x6, x7 => if x7 < x6 then (if 0 ≤ x7 then (if x7 < (x5.length : Int) then ((sat_Of.f (rd x5 x7)).bind fun t110 => (if (rd x5 x7) = t110 then (fit_quantity.l0 k x5 x6 (wrap64 (x7 + 1))) else (some false))) else (none)) else (none)) else (some true)
def fit_quantity.f (k : Nat) (l0 : List Int) : Option (Bool) := fit_quantity.l0 k l0 (l0.length : Int) 0
theorem fit_quantity.mono_l : ∀ k, (∀ y0 y1 y2, LeO (fit_quantity.l0 k y0 y1 y2) (fit_quantity.l0 (k + 1) y0 y1 y2))
 | 0 => fun _ _ _ r h => by simp [fit_quantity.l0] at h
 | k + 1 => by
  have ih0 := fit_quantity.mono_l k
  ·
   intro y0 y1 y2
   unfold fit_quantity.l0
   repeat' first
   | (with_reducible exact ih0 _ _ _)
   | (with_reducible exact LeO.refl _)
   | (with_reducible exact LeO.none _)
   | (with_reducible refine LeO.ite ?_ ?_)
   | (with_reducible refine LeO.bind ?_ (fun _ => ?_))
   | exact ih0 _ _ _
   | exact LeO.none _
   | refine LeO.ite ?_ ?_
   | refine LeO.bind ?_ (fun _ => ?_)
theorem fit_quantity.mono : ∀ a0 k, LeO (fit_quantity.f k a0) (fit_quantity.f (k + 1) a0) := by
 intro a0 k
 have ih0 := fit_quantity.mono_l k
 unfold fit_quantity.f
 repeat' first
   | (with_reducible exact ih0 _ _ _)
   | (with_reducible exact LeO.refl _)
   | (with_reducible exact LeO.none _)
   | (with_reducible refine LeO.ite ?_ ?_)
   | (with_reducible refine LeO.bind ?_ (fun _ => ?_))
   | exact ih0 _ _ _
   | exact LeO.none _
   | refine LeO.ite ?_ ?_
   | refine LeO.bind ?_ (fun _ => ?_)
set_option maxHeartbeats 8000000 in
set_option maxRecDepth 100000 in
theorem fit_quantity.calls (k : Nat) (A0 : Option Addr) (c0 : Nat) (l0 : List Int) (r : Bool) (w : World) (hr0 : Kd.C (Kd.int .i64) w A0 l0.length l0) (hc0 : l0.length ≤ c0) (h : fit_quantity.f k l0 = some r) :
  Calls Try.prog 21 #[.slice A0 l0.length c0] w fun e w' => e = .returned (.bool r) ∧ Drawn0 w w' := by
 have HR0 := Aside0.mk hr0
 have HC0 := Aside0.mk hc0
 clear hr0 hc0
 have H : (fit_quantity.l0 k l0 (l0.length : Int) 0) = some r := h
 clear h
 have H' := Aside0.mk H
 clear H
 go_enter Try.func21, Try.ntmps21
 go_wp2
 go_loopg [7] k (fun kq v7 w' => ∃ (x7_1 : Int), v7 = .int .i64 x7_1 ∧ Aside0 (fit_quantity.l0 kq l0 (l0.length : Int) x7_1 = some r) ∧ Aside0 (kq ≤ k) ∧ Drawn0 w w')
 case atStart => exact ⟨(0), (by first | rfl | (simp; done) | (simp [*]; done) | (simp; exact isEmpty_bne _)), H', ⟨Nat.le_refl _⟩, by repeat (first | exact Drawn0.refl _ | apply Drawn0.step)⟩
 case round =>
  clear H'
  obtain ⟨x7_1, rfl, HA, HK1, ⟨m1, rfl⟩⟩ := hrel
  cases gk with
  | zero => exact absurd HA.out (by simp [fit_quantity.l0])
  | succ k1 =>
   have H := HA.out
   clear HA
   simp only [fit_quantity.l0] at H
   by_cases c2 : x7_1 < (l0.length : Int)
   ·
    rw [if_pos c2] at H
    have c2b0 : decide (x7_1 < (l0.length : Int)) = true := decide_eq_true c2
    clear c2
    by_cases c3 : 0 ≤ x7_1
    ·
     rw [if_pos c3] at H
     have c3b0 : decide (0 ≤ x7_1) = true := decide_eq_true c3
     clear c3
     by_cases c4 : x7_1 < (l0.length : Int)
     ·
      rw [if_pos c4] at H
      have c4b0 : decide (x7_1 < (l0.length : Int)) = true := decide_eq_true c4
      clear c4
      replace H := Option.bind_eq_some_iff.mp H
      obtain ⟨t110, A50, H⟩ := H
      replace H : (if (rd l0 x7_1) = t110 then (fit_quantity.l0 k1 l0 (l0.length : Int) (wrap64 (x7_1 + 1))) else (some false)) = some r := H
      have A5 := Aside0.mk A50
      clear A50
      by_cases c6 : (rd l0 x7_1) = t110
      ·
       rw [if_pos c6] at H
       have c6b0 : ((rd l0 x7_1) == t110) = true := beq_iff_eq.mpr c6
       have c6b1 : ((rd l0 x7_1) != t110) = false := bne_eq_false_iff_eq.mpr c6
       clear c6
       have H' := Aside0.mk H
       clear H
       have p109 : 0 ≤ (x7_1 : Int) := of_decide_eq_true (by first | (with_reducible assumption) | assumption)
       have q109 : x7_1 < (l0.length : Int) := of_decide_eq_true (by first | (with_reducible assumption) | assumption)
       obtain ⟨ad109, e109, hx109_0⟩ := Kd.at_int HR0.out x7_1 p109 q109
       cases e109
       replace p109 := eq_true p109
       replace q109 := eq_true q109
       go_wp2_with (first | ((with_reducible refine gate_callee (f := 32) rfl ?_); refine goesL_ (some 13) rfl rfl Try.func32 (by kernel_rfl) rfl #[.int .i64 (rd l0 x7_1)] rfl (by (try simp only [List.map_toArray, List.map_cons, List.map_nil]); first | done | rfl | (simp only [List.length_drop, List.length_take]; rfl)) ?_; (with_reducible refine (sat_Of.calls (rd l0 x7_1) t110 _ A5.out).mono ?_); rintro e w' ⟨rfl, ⟨nd, rfl⟩⟩; refine ⟨_, rfl, ?_⟩))
       go_roundg k1
       case measure => have := HK1.out; omega
       case rel => exact ⟨(wrap64 (x7_1 + 1)), (by first | rfl | (simp; done) | (simp [*]; done) | (simp; exact isEmpty_bne _)), H', ⟨by have := HK1.out; omega⟩, by repeat (first | exact Drawn0.refl _ | apply Drawn0.step)⟩
      ·
       rw [if_neg c6] at H
       have c6b0 : ((rd l0 x7_1) == t110) = false := beq_eq_false_iff_ne.mpr c6
       have c6b1 : ((rd l0 x7_1) != t110) = true := bne_iff_ne.mpr c6
       obtain rfl := Option.some.inj H
       have p109 : 0 ≤ (x7_1 : Int) := of_decide_eq_true (by first | (with_reducible assumption) | assumption)
       have q109 : x7_1 < (l0.length : Int) := of_decide_eq_true (by first | (with_reducible assumption) | assumption)
       obtain ⟨ad109, e109, hx109_0⟩ := Kd.at_int HR0.out x7_1 p109 q109
       cases e109
       replace p109 := eq_true p109
       replace q109 := eq_true q109
       go_wp2_with (first | ((with_reducible refine gate_callee (f := 32) rfl ?_); refine goesL_ (some 13) rfl rfl Try.func32 (by kernel_rfl) rfl #[.int .i64 (rd l0 x7_1)] rfl (by (try simp only [List.map_toArray, List.map_cons, List.map_nil]); first | done | rfl | (simp only [List.length_drop, List.length_take]; rfl)) ?_; (with_reducible refine (sat_Of.calls (rd l0 x7_1) t110 _ A5.out).mono ?_); rintro e w' ⟨rfl, ⟨nd, rfl⟩⟩; refine ⟨_, rfl, ?_⟩))
       go_ret
       exact ⟨by first | rfl | (simp; done) | (simp [*]; done), by repeat (first | exact Drawn0.refl _ | apply Drawn0.step)⟩
     ·
      rw [if_neg c4] at H
      exact absurd H (by simp)
    ·
     rw [if_neg c3] at H
     exact absurd H (by simp)
   ·
    rw [if_neg c2] at H
    have c2b0 : decide (x7_1 < (l0.length : Int)) = false := decide_eq_false c2
    clear c2
    obtain rfl := Option.some.inj H
    go_wp2
    go_ret
    exact ⟨by first | rfl | (simp; done) | (simp [*]; done), by repeat (first | exact Drawn0.refl _ | apply Drawn0.step)⟩

/-! ### steps_spans: function 35 -/
/-- A step with its window: from, to, how many. -/
def spanAt (a n : List Int) (i : Nat) : Int × Int × Int := (a.getD i 0, if i + 1 < a.length then a.getD (i + 1) 0 else 1099511627777, n.getD i 0)
def spansT (a n : List Int) : List (Int × Int × Int) := (List.range a.length).map (spanAt a n)
theorem spansT_length (a n : List Int) : (spansT a n).length = a.length := by simp [spansT]
theorem spansT_pre (a n : List Int) (i : Nat) (hi : i < a.length) : (spansT a n).take (i + 1) = (spansT a n).take i ++ [spanAt a n i] := by
 have h : i < (spansT a n).length := by rw [spansT_length]; exact hi
 rw [List.take_succ_eq_append_getElem h]
 congr 2
 simp [spansT]
def encSpan (x : Int × Int × Int) : Array Value := #[.agg #[.int .i64 x.1, .int .i64 x.2.1, .int .i64 x.2.2]]
theorem steps_spans_calls (v0 v1 : Value) (h0 : v0.oneCell' = true) (h1 : v1.oneCell' = true) (w : World) : Calls Try.prog 35 #[.agg #[v0, v1]] w fun e w' => e = .returned (.func (.func 46) #[] #[.pointer (some ⟨w.heap.size, 0, none⟩)]) ∧ w' = w.alloc (.cells #[v0, v1] 24) := by
 have hmf : ∀ (fn : Fn) (first cap : Array Value) (w : World), (Instr.makeFunc fn first cap).run Try.prog w = .ok (.func fn first cap) w := fun _ _ _ _ => rfl
 go_enter Try.func35, Try.ntmps35
 go_wp2
 go_ret
 exact ⟨rfl, rfl⟩
set_option maxHeartbeats 4000000 in
theorem steps_spans_seq (w0 : World) (A : Option Addr) (c : Nat) (B : Option Addr) (d : Nat) (a n : List Int) (bx : Nat) (w : World) (hA : Kd.C (Kd.int .i64) w0 A a.length a) (hB : Kd.C (Kd.int .i64) w0 B n.length n)
  (hb0 : Below w0.heap.size w0 w) (hb : BoxN w bx 24 [.slice A a.length c, .slice B n.length d]) (hl : n.length = a.length) (hs : a.length ≤ 100000) :
  RSeq Fence.wide 8 Try.prog 46 #[.pointer (some ⟨bx, 0, none⟩)] encSpan (fun k => k < w0.heap.size ∨ k = bx) (fun _ => False)
   (fun pre => pre <+: spansT a n) (fun xs => xs = spansT a n) w := by
 intro l J Jx W hW hJ hJx hY h0
 have hu24 := Try.underlying24
 refine callsIn_of_wp Try.func46 rfl trivial ?_ rfl
 simp only [Try.ntmps46, List.size_toArray, List.length_cons, List.length_nil, Nat.reduceAdd, Nat.reduceSub, Array.replicate_succ, Array.replicate_zero, List.push_toArray, List.append_toArray, List.nil_append, List.cons_append]
 have HB := Aside0.mk (show BoxN W bx 24 [.slice A a.length c, .slice B n.length d] from (hW.block _ hb.lt).trans hb)
 have HB0 := Aside0.mk (show Below w0.heap.size w0 W from hb0.trans (hW.mono hb0.size))
 replace hJ := Aside0.mk hJ
 replace hJx := Aside0.mk hJx
 replace hY := Aside0.mk hY
 replace h0 := Aside0.mk h0
 clear hW hb hb0
 replace hA := Aside0.mk hA
 replace hB := Aside0.mk hB
 have hc0 := HB.out.cell 0 rfl
 have hc1 := HB.out.cell 1 rfl
 have hf0 := HB.out.frozen 0
 have hf1 := HB.out.frozen 1
 gi_wp2
 gi_loopg [9] a.length (fun kq v9 wr => ∃ i : Nat, v9 = .int .i64 i ∧ Aside0 (kq + i = a.length) ∧ Aside0 (BoxN wr bx 24 [.slice A a.length c, .slice B n.length d]) ∧ Aside0 (Below w0.heap.size w0 wr) ∧ Aside0 (J ((spansT a n).take i) wr))
 case atStart => exact ⟨0, rfl, ⟨rfl⟩, HB, HB0, ⟨by rw [List.take_zero]; exact h0.out⟩⟩
 case round =>
  clear hc0 hc1 hf0 hf1 HB HB0 h0
  obtain ⟨i, rfl, HK, HB, HB0, HJ⟩ := hrel
  have hc0 := HB.out.cell 0 rfl
  have hc1 := HB.out.cell 1 rfl
  have hf0 := HB.out.frozen 0
  have hf1 := HB.out.frozen 1
  cases gk with
  | zero =>
   have e : i = a.length := by have := HK.out; omega
   subst e
   gi_wp2
   (try simp only [Exit.noGoto_normal])
   go_end0
   refine ⟨⟨_, rfl⟩, .inl ⟨_, rfl, ?_⟩⟩
   have := HJ.out
   rwa [List.take_of_length_le (by rw [spansT_length]; exact Nat.le_refl _)] at this
  | succ k1 =>
   have hlt : i < a.length := by have := HK.out; omega
   have hlt0 : (0 : Int) ≤ (i : Int) := Int.natCast_nonneg _
   have hlt1 : (i : Int) < (a.length : Int) := by omega
   have hlt2 : (i : Int) < (n.length : Int) := by omega
   obtain ⟨ad, eA, hx⟩ := Kd.at_int (Kd.C_below hA.out HB0.out) (i : Int) hlt0 hlt1
   obtain ⟨bd, eB, hy⟩ := Kd.at_int (Kd.C_below hB.out HB0.out) (i : Int) hlt0 hlt2
   subst eA
   subst eB
   rw [Int.toNat_natCast] at hx hy
   have hsp := Aside0.mk (spansT_pre a n i hlt)
   have hspx := spansT_pre a n i hlt
   by_cases h1 : i + 1 < a.length
   ·
    have h1b : decide ((i : Int) + 1 < (a.length : Int)) = true := decide_eq_true (by omega)
    have h1c : ((i : Int) + 1 < (a.length : Int)) = True := eq_true (by omega)
    obtain ⟨ad2, eA2, hx2⟩ := Kd.at_int (Kd.C_below hA.out HB0.out) ((i : Int) + 1) (by omega) (by omega)
    injection eA2 with eA2
    subst eA2
    rw [show ((i : Int) + 1).toNat = i + 1 by omega] at hx2
    have hx3 : wr.cell? { block := ad.block, off := ad.off + (i + 1) } = some (.int .i64 (rd a ((i : Int) + 1))) := hx2
    clear hx2
    have hsa : spanAt a n i = (rd a (i : Int), rd a ((i : Int) + 1), rd n (i : Int)) := by
     unfold spanAt
     rw [if_pos h1]
     simp [rd]
    obtain ⟨fn, tmps, assign, body, hy', hR⟩ := hY.out _ _ wr HJ.out (show (spansT a n).take i ++ [spanAt a n i] <+: spansT a n from by rw [← hspx]; exact List.take_prefix _ _)
    rw [hsa] at hy'
    simp only [encSpan] at hy'
    clear hspx
    gi_wp2
    refine hR.mono ?_
    rintro e W3 (⟨rfl, hJ3, hk3⟩ | ⟨rfl, hJx3⟩)
    ·
     gi_wp2
     gi_roundg k1
     case measure => omega
     case rel =>
      exact ⟨i + 1, by go_num, ⟨by have := HK.out; omega⟩, ⟨hk3.boxN HB.out (.inr rfl)⟩, ⟨HB0.out.trans (hk3.below HB0.out.size (fun k hk => .inl hk))⟩, ⟨by rw [hsp.out]; exact hJ3⟩⟩
    ·
     gi_wp2
     refine bodyPost_ret (results_none rfl _ _ _) rfl ?_
     exact ⟨⟨_, rfl⟩, .inr ⟨_, by rw [← hsp.out]; exact List.take_prefix _ _, hJx3⟩⟩
   ·
    have h1b : decide ((i : Int) + 1 < (a.length : Int)) = false := decide_eq_false (by omega)
    have h1c : ((i : Int) + 1 < (a.length : Int)) = False := eq_false (by omega)
    have hsa : spanAt a n i = (rd a (i : Int), 1099511627777, rd n (i : Int)) := by
     unfold spanAt
     rw [if_neg h1]
     simp [rd]
    obtain ⟨fn, tmps, assign, body, hy', hR⟩ := hY.out _ _ wr HJ.out (show (spansT a n).take i ++ [spanAt a n i] <+: spansT a n from by rw [← hspx]; exact List.take_prefix _ _)
    rw [hsa] at hy'
    simp only [encSpan] at hy'
    clear hspx
    gi_wp2
    refine hR.mono ?_
    rintro e W3 (⟨rfl, hJ3, hk3⟩ | ⟨rfl, hJx3⟩)
    ·
     gi_wp2
     gi_roundg k1
     case measure => omega
     case rel =>
      exact ⟨i + 1, by go_num, ⟨by have := HK.out; omega⟩, ⟨hk3.boxN HB.out (.inr rfl)⟩, ⟨HB0.out.trans (hk3.below HB0.out.size (fun k hk => .inl hk))⟩, ⟨by rw [hsp.out]; exact hJ3⟩⟩
    ·
     gi_wp2
     refine bodyPost_ret (results_none rfl _ _ _) rfl ?_
     exact ⟨⟨_, rfl⟩, .inr ⟨_, by rw [← hsp.out]; exact List.take_prefix _ _, hJx3⟩⟩

end Go.Proofs.Ythbonmpkjkihgaa.P
