-- Written by this session's program gprint.py: functions of the program as plain functions, and that the machine does what they say. Not trusted: Lean checks it.
import Derived.Test.YtpjhmollejiaoaaPx0
namespace Go.Proofs.Ytpjhmollejiaoaa.P
open Go.RowKit Go.Proofs.YtpjhmollejiaoaaW.PrintWords Go.Proofs.YtpjhmollejiaoaaW.PrintLast Go.Proofs.YtpjhmollejiaoaaW.PrintMore
attribute [local go_sem] max2_int min2_int max_two min_two max_three min_three max_four min_four   -- for this text's walks alone
set_option linter.unusedVariables false
set_option linter.unusedSimpArgs false

/-! ### deps_of: function 12 -/
def deps_of.l0 : Nat → List (S32) → Int → Int → Int → Bool → Option (Int)
  | 0, _, _, _, _, _ => none
  | k + 1, x7, x8, x9, x102000, x102001 => if x9 < x8 then (if 0 ≤ x9 then (if x9 < (x7.length : Int) then (if ((rd_T32 x7 x9).f0) = x102000 then (if ((rd_T32 x7 x9).f1 = true) then (if (rd_T32 x7 x9).f2 = true then (some 1) else (if x102001 = true then (some 1) else (some 3))) else (some 2)) else (deps_of.l0 k x7 x8 (wrap64 (x9 + 1)) x102000 x102001)) else (none)) else (none)) else (some 3)
def deps_of.f (k : Nat) (a0_0 : Int) (a0_1 : Bool) (l1 : List (S32)) : Option (Int) := deps_of.l0 k l1 (l1.length : Int) 0 a0_0 a0_1
theorem deps_of.mono_l : ∀ k, (∀ y0 y1 y2 y3 y4, LeO (deps_of.l0 k y0 y1 y2 y3 y4) (deps_of.l0 (k + 1) y0 y1 y2 y3 y4))
  | 0 => fun _ _ _ _ _ r h => by simp [deps_of.l0] at h
  | k + 1 => by
    have ih0 := deps_of.mono_l k
    · intro y0 y1 y2 y3 y4
      unfold deps_of.l0
      repeat' first
      | (with_reducible exact ih0 _ _ _ _ _)
      | (with_reducible exact LeO.refl _)
      | (with_reducible exact LeO.none _)
      | (with_reducible refine LeO.ite ?_ ?_)
      | (with_reducible refine LeO.bind ?_ (fun _ => ?_))
      | exact ih0 _ _ _ _ _
      | exact LeO.none _
      | refine LeO.ite ?_ ?_
      | refine LeO.bind ?_ (fun _ => ?_)
theorem deps_of.mono : ∀ a0 a1 a2 k, LeO (deps_of.f k a0 a1 a2) (deps_of.f (k + 1) a0 a1 a2) := by
  intro a0 a1 a2 k
  have ih0 := deps_of.mono_l k
  unfold deps_of.f
  repeat' first
      | (with_reducible exact ih0 _ _ _ _ _)
      | (with_reducible exact LeO.refl _)
      | (with_reducible exact LeO.none _)
      | (with_reducible refine LeO.ite ?_ ?_)
      | (with_reducible refine LeO.bind ?_ (fun _ => ?_))
      | exact ih0 _ _ _ _ _
      | exact LeO.none _
      | refine LeO.ite ?_ ?_
      | refine LeO.bind ?_ (fun _ => ?_)
set_option maxHeartbeats 8000000 in
set_option maxRecDepth 100000 in
theorem deps_of.calls (k : Nat) (a0_0 : Int) (a0_1 : Bool) (A1 : Option Addr) (c1 : Nat) (l1 : List (S32)) (r : Int) (w : World) (hr1 : Kd.C k32 w A1 l1.length l1) (hc1 : l1.length ≤ c1) (h : deps_of.f k a0_0 a0_1 l1 = some r) :
    Calls Try.prog 12 #[.agg #[.int .i64 a0_0, .bool a0_1], .slice A1 l1.length c1] w fun e w' => e = .returned (.int .u8 r) ∧ Below w.heap.size w w' := by
  have hu28 := Try.underlying28
  have hu32 := Try.underlying32
  have HR1 := Aside0.mk hr1
  have HC1 := Aside0.mk hc1
  clear hr1 hc1
  have HB := Aside0.mk (Below.refl w.heap.size w)
  have H : (deps_of.l0 k l1 (l1.length : Int) 0 a0_0 a0_1) = some r := h
  clear h
  have H' := Aside0.mk H
  clear H
  go_enter Try.func12, Try.ntmps12
  go_wp2_with (first | ((with_reducible refine gate_dst (N := 2) rfl ?_); refine box_event ?hg (N := 2) ?hd (cs := #[.int .i64 a0_0, .bool a0_1]) (t := 28) ?hr ?_; (case hd => rfl); (case hg => rfl); (case hr => first | (go_simp; done) | (go_simp; rfl)); intro gb101 hg w3 hbox hb; have n0_ := Aside0.mk (below_step (by repeat (first | (with_reducible first | exact HB.out | apply below_alloc | apply pw_below_drewN | apply below_drew1) | exact HB.out)) hb); have n1_ := Aside0.mk (hbox); have n2_ := Aside0.mk ((by rw [hg]; exact (below_size (by repeat (first | (with_reducible first | exact HB.out | apply below_alloc | apply pw_below_drewN | apply below_drew1) | exact HB.out))) : w.heap.size ≤ gb101)); have n3_ := Aside0.mk ((by rw [hg]; exact (below_size (by repeat (first | (with_reducible first | exact HB.out | apply below_alloc | apply pw_below_drewN | apply below_drew1) | exact HB.out))) : w.heap.size ≤ gb101)); clear HB; have HB := n0_; have BK101 := n1_; have GW101 := n2_; have GE101 := n3_; clear n0_ n1_ n2_ n3_; clear hb hbox hg))
  go_loopg [9] k (fun kq v9 w' => ∃ (x9_1 : Int), v9 = .int .i64 x9_1 ∧ Aside0 (deps_of.l0 kq l1 (l1.length : Int) x9_1 a0_0 a0_1 = some r) ∧ Aside0 (kq ≤ k) ∧ Aside0 (w'.heap[gb101]? = some (.cells #[.int .i64 a0_0, .bool a0_1] 28 (0, 0))) ∧ Aside0 (Below w.heap.size w w'))
  case atStart => exact ⟨(0), (by first | rfl | (simp; done) | (simp [*]; done) | (simp; exact isEmpty_bne _)), H', ⟨Nat.le_refl _⟩, ⟨by (with_reducible repeat (first | refine blk_drewN ?_ _ | refine blk_drew ?_ | refine blk_alloc ?_ _)); exact BK101.out⟩, ⟨by repeat (first | (with_reducible first | exact HB.out | apply below_alloc | apply pw_below_drewN | apply below_drew1 | refine below_set ?_ GE101.out) | exact HB.out)⟩⟩
  case round =>
    clear H'
    try clear c1
    try clear p2
    obtain ⟨x9_1, rfl, HA, HK1, BK101, HB⟩ := hrel
    cases gk with
    | zero => exact absurd HA.out (by simp [deps_of.l0])
    | succ k1 =>
      have H := HA.out
      clear HA
      simp only [deps_of.l0] at H
      by_cases c4 : x9_1 < (l1.length : Int)
      · rw [if_pos c4] at H
        have c4b0 : decide (x9_1 < (l1.length : Int)) = true := decide_eq_true c4
        clear c4
        by_cases c5 : 0 ≤ x9_1
        · rw [if_pos c5] at H
          have c5b0 : decide (0 ≤ x9_1) = true := decide_eq_true c5
          clear c5
          by_cases c6 : x9_1 < (l1.length : Int)
          · rw [if_pos c6] at H
            have c6b0 : decide (x9_1 < (l1.length : Int)) = true := decide_eq_true c6
            clear c6
            by_cases c7 : ((rd_T32 l1 x9_1).f0) = a0_0
            · rw [if_pos c7] at H
              have c7b0 : (((rd_T32 l1 x9_1).f0) == a0_0) = true := beq_iff_eq.mpr c7
              have c7b1 : (((rd_T32 l1 x9_1).f0) != a0_0) = false := bne_eq_false_iff_eq.mpr c7
              clear c7
              obtain ⟨bq8, hbq8⟩ : ∃ b_ : Bool, b_ = ((rd_T32 l1 x9_1).f1) := ⟨_, rfl⟩
              replace H : (if (bq8 = true) then (if (rd_T32 l1 x9_1).f2 = true then (some 1) else (if a0_1 = true then (some 1) else (some 3))) else (some 2)) = some r := by rw [← hbq8] at H; exact H
              have Nbq8 := Aside0.mk hbq8
              clear hbq8
              by_cases c9 : (bq8 = true)
              · subst c9
                have H1 : (if (rd_T32 l1 x9_1).f2 = true then (some 1) else (if a0_1 = true then (some 1) else (some 3))) = some r := by rw [if_pos rfl] at H; exact H
                clear H
                have H := H1
                clear H1
                obtain ⟨bq10, hbq10⟩ : ∃ b_ : Bool, b_ = ((rd_T32 l1 x9_1).f2) := ⟨_, rfl⟩
                replace H : (if bq10 = true then (some 1) else (if a0_1 = true then (some 1) else (some 3))) = some r := by rw [← hbq10] at H; exact H
                have Nbq10 := Aside0.mk hbq10
                clear hbq10
                by_cases c11 : bq10 = true
                · subst c11
                  have H1 : (some 1) = some r := by rw [if_pos rfl] at H; exact H
                  clear H
                  have H := H1
                  clear H1
                  obtain rfl := Option.some.inj H
                  have p102 : 0 ≤ (x9_1 : Int) := of_decide_eq_true (by first | (with_reducible assumption) | assumption)
                  have q102 : x9_1 < (l1.length : Int) := of_decide_eq_true (by first | (with_reducible assumption) | assumption)
                  obtain ⟨ad102, e102, hx102_0, hx102_1, hx102_2⟩ := at_T32 HR1.out x9_1 p102 q102
                  (try rw [← Nbq8.out] at hx102_1)
                  (try rw [← Nbq10.out] at hx102_1)
                  (try rw [← Nbq8.out] at hx102_2)
                  (try rw [← Nbq10.out] at hx102_2)
                  cases e102
                  replace hx102_0 := (HB.out.cell (World.block_lt_of_cell? w _ hx102_0)).trans hx102_0
                  replace hx102_1 := (HB.out.cell (World.block_lt_of_cell? w _ hx102_1)).trans hx102_1
                  replace hx102_2 := (HB.out.cell (World.block_lt_of_cell? w _ hx102_2)).trans hx102_2
                  replace p102 := eq_true p102
                  replace q102 := eq_true q102
                  go_wp2_with (first | ((with_reducible refine gate_dst (N := 6) rfl ?_); refine box_event ?hg (N := 6) ?hd (cs := #[.int .i64 0, .bool false, .bool false]) (t := 32) ?hr ?_; (case hd => rfl); (case hg => rfl); (case hr => first | (go_simp; done) | (go_simp; rfl)); intro gb103 hg w12 hbox hb; have n0_ := Aside0.mk (blk_below (g := gb101) (o := .cells #[.int .i64 a0_0, .bool a0_1] 28 (0, 0)) (by (with_reducible repeat (first | refine blk_drewN ?_ _ | refine blk_drew ?_ | refine blk_alloc ?_ _)); exact BK101.out) hb); have n1_ := Aside0.mk (below_step (by repeat (first | (with_reducible first | exact HB.out | apply below_alloc | apply pw_below_drewN | apply below_drew1 | refine below_set ?_ GE101.out) | exact HB.out)) hb); have n2_ := Aside0.mk (hbox); have n3_ := Aside0.mk ((by rw [hg]; exact (below_size (by repeat (first | (with_reducible first | exact HB.out | apply below_alloc | apply pw_below_drewN | apply below_drew1 | refine below_set ?_ GE101.out) | exact HB.out))) : w.heap.size ≤ gb103)); have n4_ := Aside0.mk ((by rw [hg]; exact (below_size (by repeat (first | (with_reducible first | exact HB.out | apply below_alloc | apply pw_below_drewN | apply below_drew1 | refine below_set ?_ GE101.out) | exact HB.out))) : w.heap.size ≤ gb103)); have n5_ := Aside0.mk ((by rw [hg]; exact Nat.ne_of_lt (blk_lt (g := gb101) (o := .cells #[.int .i64 a0_0, .bool a0_1] 28 (0, 0)) (by (with_reducible repeat (first | refine blk_drewN ?_ _ | refine blk_drew ?_ | refine blk_alloc ?_ _)); exact BK101.out)) : gb101 ≠ gb103)); have n6_ := Aside0.mk ((by rw [hg]; exact Nat.ne_of_gt (blk_lt (g := gb101) (o := .cells #[.int .i64 a0_0, .bool a0_1] 28 (0, 0)) (by (with_reducible repeat (first | refine blk_drewN ?_ _ | refine blk_drew ?_ | refine blk_alloc ?_ _)); exact BK101.out)) : gb103 ≠ gb101)); clear BK101; clear HB; have BK101 := n0_; have HB := n1_; have BK103 := n2_; have GW103 := n3_; have GE103 := n4_; have NB101_103 := n5_; have NB103_101 := n6_; clear n0_ n1_ n2_ n3_ n4_ n5_ n6_; clear hb hbox hg; have hnb13 := NB103_101.out; have hnc13 := NB101_103.out; have hcz14_0 : w12.cell? ⟨gb103, 0, none⟩ = some (.int .i64 0) := (blk_cell BK103.out 0).trans rfl; have hcz14_1 : w12.cell? ⟨gb103, 1, none⟩ = some (.bool false) := (blk_cell BK103.out 1).trans rfl; have hcz14_2 : w12.cell? ⟨gb103, 2, none⟩ = some (.bool false) := (blk_cell BK103.out 2).trans rfl; have hfz14_0 := blk_frozen BK103.out 0; have hfz14_1 := blk_frozen BK103.out 1; have hfz14_2 := blk_frozen BK103.out 2; have hcz15_0 : w12.cell? ⟨gb101, 0, none⟩ = some (.int .i64 a0_0) := (blk_cell BK101.out 0).trans rfl; have hcz15_1 : w12.cell? ⟨gb101, 1, none⟩ = some (.bool a0_1) := (blk_cell BK101.out 1).trans rfl; have hfz15_0 := blk_frozen BK101.out 0; have hfz15_1 := blk_frozen BK101.out 1))
                  go_ret
                  exact ⟨by first | rfl | (simp [errW_none, errW_some] <;> rfl) | (simp [*, errW_none, errW_some] <;> rfl), by repeat (first | (with_reducible first | exact HB.out | apply below_alloc | apply pw_below_drewN | apply below_drew1 | refine below_set ?_ GE101.out | refine below_set ?_ GE103.out) | exact HB.out)⟩
                · replace c11 := Bool.eq_false_iff.mpr c11
                  subst c11
                  have H1 : (if a0_1 = true then (some 1) else (some 3)) = some r := by rw [if_neg (show ¬ (false = true) by decide)] at H; exact H
                  clear H
                  have H := H1
                  clear H1
                  by_cases c16 : a0_1 = true
                  · subst c16
                    have H1 : (some 1) = some r := by rw [if_pos rfl] at H; exact H
                    clear H
                    have H := H1
                    clear H1
                    obtain rfl := Option.some.inj H
                    have p102 : 0 ≤ (x9_1 : Int) := of_decide_eq_true (by first | (with_reducible assumption) | assumption)
                    have q102 : x9_1 < (l1.length : Int) := of_decide_eq_true (by first | (with_reducible assumption) | assumption)
                    obtain ⟨ad102, e102, hx102_0, hx102_1, hx102_2⟩ := at_T32 HR1.out x9_1 p102 q102
                    (try rw [← Nbq8.out] at hx102_1)
                    (try rw [← Nbq10.out] at hx102_1)
                    (try rw [← Nbq8.out] at hx102_2)
                    (try rw [← Nbq10.out] at hx102_2)
                    cases e102
                    replace hx102_0 := (HB.out.cell (World.block_lt_of_cell? w _ hx102_0)).trans hx102_0
                    replace hx102_1 := (HB.out.cell (World.block_lt_of_cell? w _ hx102_1)).trans hx102_1
                    replace hx102_2 := (HB.out.cell (World.block_lt_of_cell? w _ hx102_2)).trans hx102_2
                    replace p102 := eq_true p102
                    replace q102 := eq_true q102
                    go_wp2_with (first | ((with_reducible refine gate_dst (N := 6) rfl ?_); refine box_event ?hg (N := 6) ?hd (cs := #[.int .i64 0, .bool false, .bool false]) (t := 32) ?hr ?_; (case hd => rfl); (case hg => rfl); (case hr => first | (go_simp; done) | (go_simp; rfl)); intro gb103 hg w17 hbox hb; have n0_ := Aside0.mk (blk_below (g := gb101) (o := .cells #[.int .i64 a0_0, .bool true] 28 (0, 0)) (by (with_reducible repeat (first | refine blk_drewN ?_ _ | refine blk_drew ?_ | refine blk_alloc ?_ _)); exact BK101.out) hb); have n1_ := Aside0.mk (below_step (by repeat (first | (with_reducible first | exact HB.out | apply below_alloc | apply pw_below_drewN | apply below_drew1 | refine below_set ?_ GE101.out) | exact HB.out)) hb); have n2_ := Aside0.mk (hbox); have n3_ := Aside0.mk ((by rw [hg]; exact (below_size (by repeat (first | (with_reducible first | exact HB.out | apply below_alloc | apply pw_below_drewN | apply below_drew1 | refine below_set ?_ GE101.out) | exact HB.out))) : w.heap.size ≤ gb103)); have n4_ := Aside0.mk ((by rw [hg]; exact (below_size (by repeat (first | (with_reducible first | exact HB.out | apply below_alloc | apply pw_below_drewN | apply below_drew1 | refine below_set ?_ GE101.out) | exact HB.out))) : w.heap.size ≤ gb103)); have n5_ := Aside0.mk ((by rw [hg]; exact Nat.ne_of_lt (blk_lt (g := gb101) (o := .cells #[.int .i64 a0_0, .bool true] 28 (0, 0)) (by (with_reducible repeat (first | refine blk_drewN ?_ _ | refine blk_drew ?_ | refine blk_alloc ?_ _)); exact BK101.out)) : gb101 ≠ gb103)); have n6_ := Aside0.mk ((by rw [hg]; exact Nat.ne_of_gt (blk_lt (g := gb101) (o := .cells #[.int .i64 a0_0, .bool true] 28 (0, 0)) (by (with_reducible repeat (first | refine blk_drewN ?_ _ | refine blk_drew ?_ | refine blk_alloc ?_ _)); exact BK101.out)) : gb103 ≠ gb101)); clear BK101; clear HB; have BK101 := n0_; have HB := n1_; have BK103 := n2_; have GW103 := n3_; have GE103 := n4_; have NB101_103 := n5_; have NB103_101 := n6_; clear n0_ n1_ n2_ n3_ n4_ n5_ n6_; clear hb hbox hg; have hnb18 := NB103_101.out; have hnc18 := NB101_103.out; have hcz19_0 : w17.cell? ⟨gb103, 0, none⟩ = some (.int .i64 0) := (blk_cell BK103.out 0).trans rfl; have hcz19_1 : w17.cell? ⟨gb103, 1, none⟩ = some (.bool false) := (blk_cell BK103.out 1).trans rfl; have hcz19_2 : w17.cell? ⟨gb103, 2, none⟩ = some (.bool false) := (blk_cell BK103.out 2).trans rfl; have hfz19_0 := blk_frozen BK103.out 0; have hfz19_1 := blk_frozen BK103.out 1; have hfz19_2 := blk_frozen BK103.out 2; have hcz20_0 : w17.cell? ⟨gb101, 0, none⟩ = some (.int .i64 a0_0) := (blk_cell BK101.out 0).trans rfl; have hcz20_1 : w17.cell? ⟨gb101, 1, none⟩ = some (.bool true) := (blk_cell BK101.out 1).trans rfl; have hfz20_0 := blk_frozen BK101.out 0; have hfz20_1 := blk_frozen BK101.out 1))
                    go_ret
                    exact ⟨by first | rfl | (simp [errW_none, errW_some] <;> rfl) | (simp [*, errW_none, errW_some] <;> rfl), by repeat (first | (with_reducible first | exact HB.out | apply below_alloc | apply pw_below_drewN | apply below_drew1 | refine below_set ?_ GE101.out | refine below_set ?_ GE103.out) | exact HB.out)⟩
                  · replace c16 := Bool.eq_false_iff.mpr c16
                    subst c16
                    have H1 : (some 3) = some r := by rw [if_neg (show ¬ (false = true) by decide)] at H; exact H
                    clear H
                    have H := H1
                    clear H1
                    obtain rfl := Option.some.inj H
                    have p102 : 0 ≤ (x9_1 : Int) := of_decide_eq_true (by first | (with_reducible assumption) | assumption)
                    have q102 : x9_1 < (l1.length : Int) := of_decide_eq_true (by first | (with_reducible assumption) | assumption)
                    obtain ⟨ad102, e102, hx102_0, hx102_1, hx102_2⟩ := at_T32 HR1.out x9_1 p102 q102
                    (try rw [← Nbq8.out] at hx102_1)
                    (try rw [← Nbq10.out] at hx102_1)
                    (try rw [← Nbq8.out] at hx102_2)
                    (try rw [← Nbq10.out] at hx102_2)
                    cases e102
                    replace hx102_0 := (HB.out.cell (World.block_lt_of_cell? w _ hx102_0)).trans hx102_0
                    replace hx102_1 := (HB.out.cell (World.block_lt_of_cell? w _ hx102_1)).trans hx102_1
                    replace hx102_2 := (HB.out.cell (World.block_lt_of_cell? w _ hx102_2)).trans hx102_2
                    replace p102 := eq_true p102
                    replace q102 := eq_true q102
                    go_wp2_with (first | ((with_reducible refine gate_dst (N := 6) rfl ?_); refine box_event ?hg (N := 6) ?hd (cs := #[.int .i64 0, .bool false, .bool false]) (t := 32) ?hr ?_; (case hd => rfl); (case hg => rfl); (case hr => first | (go_simp; done) | (go_simp; rfl)); intro gb103 hg w21 hbox hb; have n0_ := Aside0.mk (blk_below (g := gb101) (o := .cells #[.int .i64 a0_0, .bool false] 28 (0, 0)) (by (with_reducible repeat (first | refine blk_drewN ?_ _ | refine blk_drew ?_ | refine blk_alloc ?_ _)); exact BK101.out) hb); have n1_ := Aside0.mk (below_step (by repeat (first | (with_reducible first | exact HB.out | apply below_alloc | apply pw_below_drewN | apply below_drew1 | refine below_set ?_ GE101.out) | exact HB.out)) hb); have n2_ := Aside0.mk (hbox); have n3_ := Aside0.mk ((by rw [hg]; exact (below_size (by repeat (first | (with_reducible first | exact HB.out | apply below_alloc | apply pw_below_drewN | apply below_drew1 | refine below_set ?_ GE101.out) | exact HB.out))) : w.heap.size ≤ gb103)); have n4_ := Aside0.mk ((by rw [hg]; exact (below_size (by repeat (first | (with_reducible first | exact HB.out | apply below_alloc | apply pw_below_drewN | apply below_drew1 | refine below_set ?_ GE101.out) | exact HB.out))) : w.heap.size ≤ gb103)); have n5_ := Aside0.mk ((by rw [hg]; exact Nat.ne_of_lt (blk_lt (g := gb101) (o := .cells #[.int .i64 a0_0, .bool false] 28 (0, 0)) (by (with_reducible repeat (first | refine blk_drewN ?_ _ | refine blk_drew ?_ | refine blk_alloc ?_ _)); exact BK101.out)) : gb101 ≠ gb103)); have n6_ := Aside0.mk ((by rw [hg]; exact Nat.ne_of_gt (blk_lt (g := gb101) (o := .cells #[.int .i64 a0_0, .bool false] 28 (0, 0)) (by (with_reducible repeat (first | refine blk_drewN ?_ _ | refine blk_drew ?_ | refine blk_alloc ?_ _)); exact BK101.out)) : gb103 ≠ gb101)); clear BK101; clear HB; have BK101 := n0_; have HB := n1_; have BK103 := n2_; have GW103 := n3_; have GE103 := n4_; have NB101_103 := n5_; have NB103_101 := n6_; clear n0_ n1_ n2_ n3_ n4_ n5_ n6_; clear hb hbox hg; have hnb22 := NB103_101.out; have hnc22 := NB101_103.out; have hcz23_0 : w21.cell? ⟨gb103, 0, none⟩ = some (.int .i64 0) := (blk_cell BK103.out 0).trans rfl; have hcz23_1 : w21.cell? ⟨gb103, 1, none⟩ = some (.bool false) := (blk_cell BK103.out 1).trans rfl; have hcz23_2 : w21.cell? ⟨gb103, 2, none⟩ = some (.bool false) := (blk_cell BK103.out 2).trans rfl; have hfz23_0 := blk_frozen BK103.out 0; have hfz23_1 := blk_frozen BK103.out 1; have hfz23_2 := blk_frozen BK103.out 2; have hcz24_0 : w21.cell? ⟨gb101, 0, none⟩ = some (.int .i64 a0_0) := (blk_cell BK101.out 0).trans rfl; have hcz24_1 : w21.cell? ⟨gb101, 1, none⟩ = some (.bool false) := (blk_cell BK101.out 1).trans rfl; have hfz24_0 := blk_frozen BK101.out 0; have hfz24_1 := blk_frozen BK101.out 1))
                    go_ret
                    exact ⟨by first | rfl | (simp [errW_none, errW_some] <;> rfl) | (simp [*, errW_none, errW_some] <;> rfl), by repeat (first | (with_reducible first | exact HB.out | apply below_alloc | apply pw_below_drewN | apply below_drew1 | refine below_set ?_ GE101.out | refine below_set ?_ GE103.out) | exact HB.out)⟩
              · replace c9 := Bool.eq_false_iff.mpr c9
                subst c9
                have H1 : (some 2) = some r := by rw [if_neg (show ¬ (false = true) by decide)] at H; exact H
                clear H
                have H := H1
                clear H1
                obtain rfl := Option.some.inj H
                have p102 : 0 ≤ (x9_1 : Int) := of_decide_eq_true (by first | (with_reducible assumption) | assumption)
                have q102 : x9_1 < (l1.length : Int) := of_decide_eq_true (by first | (with_reducible assumption) | assumption)
                obtain ⟨ad102, e102, hx102_0, hx102_1, hx102_2⟩ := at_T32 HR1.out x9_1 p102 q102
                (try rw [← Nbq8.out] at hx102_1)
                (try rw [← Nbq8.out] at hx102_2)
                cases e102
                replace hx102_0 := (HB.out.cell (World.block_lt_of_cell? w _ hx102_0)).trans hx102_0
                replace hx102_1 := (HB.out.cell (World.block_lt_of_cell? w _ hx102_1)).trans hx102_1
                replace hx102_2 := (HB.out.cell (World.block_lt_of_cell? w _ hx102_2)).trans hx102_2
                replace p102 := eq_true p102
                replace q102 := eq_true q102
                go_wp2_with (first | ((with_reducible refine gate_dst (N := 6) rfl ?_); refine box_event ?hg (N := 6) ?hd (cs := #[.int .i64 0, .bool false, .bool false]) (t := 32) ?hr ?_; (case hd => rfl); (case hg => rfl); (case hr => first | (go_simp; done) | (go_simp; rfl)); intro gb103 hg w25 hbox hb; have n0_ := Aside0.mk (blk_below (g := gb101) (o := .cells #[.int .i64 a0_0, .bool a0_1] 28 (0, 0)) (by (with_reducible repeat (first | refine blk_drewN ?_ _ | refine blk_drew ?_ | refine blk_alloc ?_ _)); exact BK101.out) hb); have n1_ := Aside0.mk (below_step (by repeat (first | (with_reducible first | exact HB.out | apply below_alloc | apply pw_below_drewN | apply below_drew1 | refine below_set ?_ GE101.out) | exact HB.out)) hb); have n2_ := Aside0.mk (hbox); have n3_ := Aside0.mk ((by rw [hg]; exact (below_size (by repeat (first | (with_reducible first | exact HB.out | apply below_alloc | apply pw_below_drewN | apply below_drew1 | refine below_set ?_ GE101.out) | exact HB.out))) : w.heap.size ≤ gb103)); have n4_ := Aside0.mk ((by rw [hg]; exact (below_size (by repeat (first | (with_reducible first | exact HB.out | apply below_alloc | apply pw_below_drewN | apply below_drew1 | refine below_set ?_ GE101.out) | exact HB.out))) : w.heap.size ≤ gb103)); have n5_ := Aside0.mk ((by rw [hg]; exact Nat.ne_of_lt (blk_lt (g := gb101) (o := .cells #[.int .i64 a0_0, .bool a0_1] 28 (0, 0)) (by (with_reducible repeat (first | refine blk_drewN ?_ _ | refine blk_drew ?_ | refine blk_alloc ?_ _)); exact BK101.out)) : gb101 ≠ gb103)); have n6_ := Aside0.mk ((by rw [hg]; exact Nat.ne_of_gt (blk_lt (g := gb101) (o := .cells #[.int .i64 a0_0, .bool a0_1] 28 (0, 0)) (by (with_reducible repeat (first | refine blk_drewN ?_ _ | refine blk_drew ?_ | refine blk_alloc ?_ _)); exact BK101.out)) : gb103 ≠ gb101)); clear BK101; clear HB; have BK101 := n0_; have HB := n1_; have BK103 := n2_; have GW103 := n3_; have GE103 := n4_; have NB101_103 := n5_; have NB103_101 := n6_; clear n0_ n1_ n2_ n3_ n4_ n5_ n6_; clear hb hbox hg; have hnb26 := NB103_101.out; have hnc26 := NB101_103.out; have hcz27_0 : w25.cell? ⟨gb103, 0, none⟩ = some (.int .i64 0) := (blk_cell BK103.out 0).trans rfl; have hcz27_1 : w25.cell? ⟨gb103, 1, none⟩ = some (.bool false) := (blk_cell BK103.out 1).trans rfl; have hcz27_2 : w25.cell? ⟨gb103, 2, none⟩ = some (.bool false) := (blk_cell BK103.out 2).trans rfl; have hfz27_0 := blk_frozen BK103.out 0; have hfz27_1 := blk_frozen BK103.out 1; have hfz27_2 := blk_frozen BK103.out 2; have hcz28_0 : w25.cell? ⟨gb101, 0, none⟩ = some (.int .i64 a0_0) := (blk_cell BK101.out 0).trans rfl; have hcz28_1 : w25.cell? ⟨gb101, 1, none⟩ = some (.bool a0_1) := (blk_cell BK101.out 1).trans rfl; have hfz28_0 := blk_frozen BK101.out 0; have hfz28_1 := blk_frozen BK101.out 1))
                go_ret
                exact ⟨by first | rfl | (simp [errW_none, errW_some] <;> rfl) | (simp [*, errW_none, errW_some] <;> rfl), by repeat (first | (with_reducible first | exact HB.out | apply below_alloc | apply pw_below_drewN | apply below_drew1 | refine below_set ?_ GE101.out | refine below_set ?_ GE103.out) | exact HB.out)⟩
            · rw [if_neg c7] at H
              have c7b0 : (((rd_T32 l1 x9_1).f0) == a0_0) = false := beq_eq_false_iff_ne.mpr c7
              have c7b1 : (((rd_T32 l1 x9_1).f0) != a0_0) = true := bne_iff_ne.mpr c7
              have H' := Aside0.mk H
              clear H
              have p102 : 0 ≤ (x9_1 : Int) := of_decide_eq_true (by first | (with_reducible assumption) | assumption)
              have q102 : x9_1 < (l1.length : Int) := of_decide_eq_true (by first | (with_reducible assumption) | assumption)
              obtain ⟨ad102, e102, hx102_0, hx102_1, hx102_2⟩ := at_T32 HR1.out x9_1 p102 q102
              cases e102
              replace hx102_0 := (HB.out.cell (World.block_lt_of_cell? w _ hx102_0)).trans hx102_0
              replace hx102_1 := (HB.out.cell (World.block_lt_of_cell? w _ hx102_1)).trans hx102_1
              replace hx102_2 := (HB.out.cell (World.block_lt_of_cell? w _ hx102_2)).trans hx102_2
              replace p102 := eq_true p102
              replace q102 := eq_true q102
              go_wp2_with (first | ((with_reducible refine gate_dst (N := 6) rfl ?_); refine box_event ?hg (N := 6) ?hd (cs := #[.int .i64 0, .bool false, .bool false]) (t := 32) ?hr ?_; (case hd => rfl); (case hg => rfl); (case hr => first | (go_simp; done) | (go_simp; rfl)); intro gb103 hg w29 hbox hb; have n0_ := Aside0.mk (blk_below (g := gb101) (o := .cells #[.int .i64 a0_0, .bool a0_1] 28 (0, 0)) (by (with_reducible repeat (first | refine blk_drewN ?_ _ | refine blk_drew ?_ | refine blk_alloc ?_ _)); exact BK101.out) hb); have n1_ := Aside0.mk (below_step (by repeat (first | (with_reducible first | exact HB.out | apply below_alloc | apply pw_below_drewN | apply below_drew1 | refine below_set ?_ GE101.out) | exact HB.out)) hb); have n2_ := Aside0.mk (hbox); have n3_ := Aside0.mk ((by rw [hg]; exact (below_size (by repeat (first | (with_reducible first | exact HB.out | apply below_alloc | apply pw_below_drewN | apply below_drew1 | refine below_set ?_ GE101.out) | exact HB.out))) : w.heap.size ≤ gb103)); have n4_ := Aside0.mk ((by rw [hg]; exact (below_size (by repeat (first | (with_reducible first | exact HB.out | apply below_alloc | apply pw_below_drewN | apply below_drew1 | refine below_set ?_ GE101.out) | exact HB.out))) : w.heap.size ≤ gb103)); have n5_ := Aside0.mk ((by rw [hg]; exact Nat.ne_of_lt (blk_lt (g := gb101) (o := .cells #[.int .i64 a0_0, .bool a0_1] 28 (0, 0)) (by (with_reducible repeat (first | refine blk_drewN ?_ _ | refine blk_drew ?_ | refine blk_alloc ?_ _)); exact BK101.out)) : gb101 ≠ gb103)); have n6_ := Aside0.mk ((by rw [hg]; exact Nat.ne_of_gt (blk_lt (g := gb101) (o := .cells #[.int .i64 a0_0, .bool a0_1] 28 (0, 0)) (by (with_reducible repeat (first | refine blk_drewN ?_ _ | refine blk_drew ?_ | refine blk_alloc ?_ _)); exact BK101.out)) : gb103 ≠ gb101)); clear BK101; clear HB; have BK101 := n0_; have HB := n1_; have BK103 := n2_; have GW103 := n3_; have GE103 := n4_; have NB101_103 := n5_; have NB103_101 := n6_; clear n0_ n1_ n2_ n3_ n4_ n5_ n6_; clear hb hbox hg; have hnb30 := NB103_101.out; have hnc30 := NB101_103.out; have hcz31_0 : w29.cell? ⟨gb103, 0, none⟩ = some (.int .i64 0) := (blk_cell BK103.out 0).trans rfl; have hcz31_1 : w29.cell? ⟨gb103, 1, none⟩ = some (.bool false) := (blk_cell BK103.out 1).trans rfl; have hcz31_2 : w29.cell? ⟨gb103, 2, none⟩ = some (.bool false) := (blk_cell BK103.out 2).trans rfl; have hfz31_0 := blk_frozen BK103.out 0; have hfz31_1 := blk_frozen BK103.out 1; have hfz31_2 := blk_frozen BK103.out 2; have hcz32_0 : w29.cell? ⟨gb101, 0, none⟩ = some (.int .i64 a0_0) := (blk_cell BK101.out 0).trans rfl; have hcz32_1 : w29.cell? ⟨gb101, 1, none⟩ = some (.bool a0_1) := (blk_cell BK101.out 1).trans rfl; have hfz32_0 := blk_frozen BK101.out 0; have hfz32_1 := blk_frozen BK101.out 1))
              go_roundg k1
              case measure => have := HK1.out; omega
              case rel => exact ⟨(wrap64 (x9_1 + 1)), (by first | rfl | (simp; done) | (simp [*]; done) | (simp; exact isEmpty_bne _)), H', ⟨by have := HK1.out; omega⟩, ⟨by (with_reducible repeat (first | refine blk_drewN ?_ _ | refine blk_drew ?_ | refine blk_alloc ?_ _)); refine blk_far ?_ NB101_103.out _; (with_reducible repeat (first | refine blk_drewN ?_ _ | refine blk_drew ?_ | refine blk_alloc ?_ _)); refine blk_far ?_ NB101_103.out _; (with_reducible repeat (first | refine blk_drewN ?_ _ | refine blk_drew ?_ | refine blk_alloc ?_ _)); refine blk_far ?_ NB101_103.out _; (with_reducible repeat (first | refine blk_drewN ?_ _ | refine blk_drew ?_ | refine blk_alloc ?_ _)); exact BK101.out⟩, ⟨by repeat (first | (with_reducible first | exact HB.out | apply below_alloc | apply pw_below_drewN | apply below_drew1 | refine below_set ?_ GE101.out | refine below_set ?_ GE103.out) | exact HB.out)⟩⟩
          · rw [if_neg c6] at H
            exact absurd H (by simp)
        · rw [if_neg c5] at H
          exact absurd H (by simp)
      · rw [if_neg c4] at H
        have c4b0 : decide (x9_1 < (l1.length : Int)) = false := decide_eq_false c4
        clear c4
        obtain rfl := Option.some.inj H
        go_wp2
        go_ret
        exact ⟨by first | rfl | (simp [errW_none, errW_some] <;> rfl) | (simp [*, errW_none, errW_some] <;> rfl), by repeat (first | (with_reducible first | exact HB.out | apply below_alloc | apply pw_below_drewN | apply below_drew1 | refine below_set ?_ GE101.out) | exact HB.out)⟩

/-! ### deps_Of: function 8 -/
def deps_Of.l0 : Nat → List (S32) → Int → List (S28) → Int → Int → Option (Int)
  | 0, _, _, _, _, _ => none
  | k + 1, x1, x5, x8, x9, x10 => if x10 < x9 then (if 0 ≤ x10 then (if x10 < (x8.length : Int) then ((deps_of.f k ((rd_T28 x8 x10).f0) ((rd_T28 x8 x10).f1) x1).bind fun t106 => (deps_Of.l0 k x1 (mx x5 t106) x8 x9 (wrap64 (x10 + 1)))) else (none)) else (none)) else (some x5)
def deps_Of.f (k : Nat) (l0 : List (S28)) (l1 : List (S32)) : Option (Int) := deps_Of.l0 k l1 1 l0 (l0.length : Int) 0
theorem deps_Of.mono_l : ∀ k, (∀ y0 y1 y2 y3 y4, LeO (deps_Of.l0 k y0 y1 y2 y3 y4) (deps_Of.l0 (k + 1) y0 y1 y2 y3 y4))
  | 0 => fun _ _ _ _ _ r h => by simp [deps_Of.l0] at h
  | k + 1 => by
    have ih0 := deps_Of.mono_l k
    · intro y0 y1 y2 y3 y4
      unfold deps_Of.l0
      repeat' first
      | (with_reducible exact ih0 _ _ _ _ _)
      | (with_reducible exact deps_of.mono _ _ _ _)
      | (with_reducible exact LeO.refl _)
      | (with_reducible exact LeO.none _)
      | (with_reducible refine LeO.ite ?_ ?_)
      | (with_reducible refine LeO.bind ?_ (fun _ => ?_))
      | exact ih0 _ _ _ _ _
      | exact deps_of.mono _ _ _ _
      | exact LeO.none _
      | refine LeO.ite ?_ ?_
      | refine LeO.bind ?_ (fun _ => ?_)
theorem deps_Of.mono : ∀ a0 a1 k, LeO (deps_Of.f k a0 a1) (deps_Of.f (k + 1) a0 a1) := by
  intro a0 a1 k
  have ih0 := deps_Of.mono_l k
  unfold deps_Of.f
  repeat' first
      | (with_reducible exact ih0 _ _ _ _ _)
      | (with_reducible exact deps_of.mono _ _ _ _)
      | (with_reducible exact LeO.refl _)
      | (with_reducible exact LeO.none _)
      | (with_reducible refine LeO.ite ?_ ?_)
      | (with_reducible refine LeO.bind ?_ (fun _ => ?_))
      | exact ih0 _ _ _ _ _
      | exact deps_of.mono _ _ _ _
      | exact LeO.none _
      | refine LeO.ite ?_ ?_
      | refine LeO.bind ?_ (fun _ => ?_)
set_option maxHeartbeats 8000000 in
set_option maxRecDepth 100000 in
theorem deps_Of.calls (k : Nat) (A0 : Option Addr) (c0 : Nat) (l0 : List (S28)) (A1 : Option Addr) (c1 : Nat) (l1 : List (S32)) (r : Int) (w : World) (hr0 : Kd.C k28 w A0 l0.length l0) (hc0 : l0.length ≤ c0) (hr1 : Kd.C k32 w A1 l1.length l1) (hc1 : l1.length ≤ c1) (h : deps_Of.f k l0 l1 = some r) :
    Calls Try.prog 8 #[.slice A0 l0.length c0, .slice A1 l1.length c1] w fun e w' => e = .returned (.int .u8 r) ∧ Below w.heap.size w w' := by
  have hu28 := Try.underlying28
  have HR0 := Aside0.mk hr0
  have HC0 := Aside0.mk hc0
  clear hr0 hc0
  have HR1 := Aside0.mk hr1
  have HC1 := Aside0.mk hc1
  clear hr1 hc1
  have HB := Aside0.mk (Below.refl w.heap.size w)
  have H : (deps_Of.l0 k l1 1 l0 (l0.length : Int) 0) = some r := h
  clear h
  have H' := Aside0.mk H
  clear H
  go_enter Try.func8, Try.ntmps8
  go_wp2
  go_loopg [5, 10] k (fun kq v5 v10 w' => ∃ (x5_1 : Int) (x10_1 : Int), v5 = .int .u8 x5_1 ∧ v10 = .int .i64 x10_1 ∧ Aside0 (deps_Of.l0 kq l1 x5_1 l0 (l0.length : Int) x10_1 = some r) ∧ Aside0 (kq ≤ k) ∧ Aside0 (Below w.heap.size w w'))
  case atStart => exact ⟨(1), (0), (by first | rfl | (simp; done) | (simp [*]; done) | (simp; exact isEmpty_bne _)), (by first | rfl | (simp; done) | (simp [*]; done) | (simp; exact isEmpty_bne _)), H', ⟨Nat.le_refl _⟩, ⟨by repeat (first | (with_reducible first | exact HB.out | apply below_alloc | apply pw_below_drewN | apply below_drew1) | exact HB.out)⟩⟩
  case round =>
    clear H'
    try clear c1
    try clear p2
    obtain ⟨x5_1, x10_1, rfl, rfl, HA, HK1, HB⟩ := hrel
    cases gk with
    | zero => exact absurd HA.out (by simp [deps_Of.l0])
    | succ k1 =>
      have H := HA.out
      clear HA
      simp only [deps_Of.l0] at H
      by_cases c3 : x10_1 < (l0.length : Int)
      · rw [if_pos c3] at H
        have c3b0 : decide (x10_1 < (l0.length : Int)) = true := decide_eq_true c3
        clear c3
        by_cases c4 : 0 ≤ x10_1
        · rw [if_pos c4] at H
          have c4b0 : decide (0 ≤ x10_1) = true := decide_eq_true c4
          clear c4
          by_cases c5 : x10_1 < (l0.length : Int)
          · rw [if_pos c5] at H
            have c5b0 : decide (x10_1 < (l0.length : Int)) = true := decide_eq_true c5
            clear c5
            replace H := Option.bind_eq_some_iff.mp H
            obtain ⟨t106, A60, H⟩ := H
            replace H : (deps_Of.l0 k1 l1 (mx x5_1 t106) l0 (l0.length : Int) (wrap64 (x10_1 + 1))) = some r := H
            have A6 := Aside0.mk A60
            clear A60
            obtain ⟨ji7, hji7⟩ : ∃ j_ : Int, (mx x5_1 t106) = j_ := ⟨_, rfl⟩
            replace H : (deps_Of.l0 k1 l1 ji7 l0 (l0.length : Int) (wrap64 (x10_1 + 1))) = some r := by first | (rw [hji7] at H; exact H) | (simp only [hji7] at H ⊢; exact H)
            (try rw [hji7] at A6)
            have hji7_ : (if x5_1 < t106 then t106 else x5_1) = ji7 := hji7
            have H' := Aside0.mk H
            clear H
            have p104 : 0 ≤ (x10_1 : Int) := of_decide_eq_true (by first | (with_reducible assumption) | assumption)
            have q104 : x10_1 < (l0.length : Int) := of_decide_eq_true (by first | (with_reducible assumption) | assumption)
            obtain ⟨ad104, e104, hx104_0, hx104_1⟩ := at_T28 HR0.out x10_1 p104 q104
            cases e104
            replace hx104_0 := (HB.out.cell (World.block_lt_of_cell? w _ hx104_0)).trans hx104_0
            replace hx104_1 := (HB.out.cell (World.block_lt_of_cell? w _ hx104_1)).trans hx104_1
            replace p104 := eq_true p104
            replace q104 := eq_true q104
            go_wp2_with (first | ((with_reducible refine gate_dst (N := 7) rfl ?_); refine box_event ?hg (N := 7) ?hd (cs := #[.int .i64 0, .bool false]) (t := 28) ?hr ?_; (case hd => rfl); (case hg => rfl); (case hr => first | (go_simp; done) | (go_simp; rfl)); intro gb105 hg w8 hbox hb; have n0_ := Aside0.mk (below_step (by repeat (first | (with_reducible first | exact HB.out | apply below_alloc | apply pw_below_drewN | apply below_drew1) | exact HB.out)) hb); have n1_ := Aside0.mk (hbox); have n2_ := Aside0.mk ((by rw [hg]; exact (below_size (by repeat (first | (with_reducible first | exact HB.out | apply below_alloc | apply pw_below_drewN | apply below_drew1) | exact HB.out))) : w.heap.size ≤ gb105)); have n3_ := Aside0.mk ((by rw [hg]; exact (below_size (by repeat (first | (with_reducible first | exact HB.out | apply below_alloc | apply pw_below_drewN | apply below_drew1) | exact HB.out))) : w.heap.size ≤ gb105)); clear HB; have HB := n0_; have BK105 := n1_; have GW105 := n2_; have GE105 := n3_; clear n0_ n1_ n2_ n3_; clear hb hbox hg; have hcz9_0 : w8.cell? ⟨gb105, 0, none⟩ = some (.int .i64 0) := (blk_cell BK105.out 0).trans rfl; have hcz9_1 : w8.cell? ⟨gb105, 1, none⟩ = some (.bool false) := (blk_cell BK105.out 1).trans rfl; have hfz9_0 := blk_frozen BK105.out 0; have hfz9_1 := blk_frozen BK105.out 1) | ((with_reducible refine gate_callee (f := 12) rfl ?_); refine goesL_ (some 17) rfl rfl Try.func12 (by kernel_rfl) rfl #[.agg #[.int .i64 ((rd_T28 l0 x10_1).f0), .bool ((rd_T28 l0 x10_1).f1)], .slice A1 l1.length c1] rfl (by (try simp only [List.map_toArray, List.map_cons, List.map_nil]); first | done | rfl | (simp only [List.length_drop, List.length_take]; rfl)) ?_; (with_reducible refine (deps_of.calls k1 ((rd_T28 l0 x10_1).f0) ((rd_T28 l0 x10_1).f1) _ _ l1 t106 _ ?side1 ?side2 A6.out).mono ?_); (case side1 => exact Kd.C_below HR1.out (by repeat (first | (with_reducible first | exact HB.out | apply below_alloc | apply pw_below_drewN | apply below_drew1 | refine below_set ?_ GE105.out) | exact HB.out))); (case side2 => exact HC1.out); rintro e w10 ⟨rfl, hb⟩; refine ⟨_, rfl, ?_⟩; have n0_ := Aside0.mk (blk_below (g := gb105) (o := .cells #[.int .i64 ((rd_T28 l0 x10_1).f0), .bool ((rd_T28 l0 x10_1).f1)] 28 (0, 0)) (by (with_reducible repeat (first | refine blk_drewN ?_ _ | refine blk_drew ?_ | refine blk_alloc ?_ _)); refine blk_put (cs := #[.int .i64 ((rd_T28 l0 x10_1).f0), .bool false]) ?_ 1 _ rfl; (with_reducible repeat (first | refine blk_drewN ?_ _ | refine blk_drew ?_ | refine blk_alloc ?_ _)); refine blk_put (cs := #[.int .i64 0, .bool false]) ?_ 0 _ rfl; (with_reducible repeat (first | refine blk_drewN ?_ _ | refine blk_drew ?_ | refine blk_alloc ?_ _)); exact BK105.out) hb); have n1_ := Aside0.mk (below_step (by repeat (first | (with_reducible first | exact HB.out | apply below_alloc | apply pw_below_drewN | apply below_drew1 | refine below_set ?_ GE105.out) | exact HB.out)) hb); clear BK105; clear HB; have BK105 := n0_; have HB := n1_; clear n0_ n1_; (try clear hb); (try clear hb2); (try clear hk); (try clear hi)))
            go_roundg k1
            case measure => have := HK1.out; omega
            case rel => exact ⟨(ji7), (wrap64 (x10_1 + 1)), (by first | rfl | (simp; done) | (simp only [← hji7] <;> (first | rfl | simp)) | (simp [*]; done) | (simp; exact isEmpty_bne _)), (by first | rfl | (simp; done) | (simp [*]; done) | (simp; exact isEmpty_bne _)), H', ⟨by have := HK1.out; omega⟩, ⟨by repeat (first | (with_reducible first | exact HB.out | apply below_alloc | apply pw_below_drewN | apply below_drew1 | refine below_set ?_ GE105.out) | exact HB.out)⟩⟩
          · rw [if_neg c5] at H
            exact absurd H (by simp)
        · rw [if_neg c4] at H
          exact absurd H (by simp)
      · rw [if_neg c3] at H
        have c3b0 : decide (x10_1 < (l0.length : Int)) = false := decide_eq_false c3
        clear c3
        obtain rfl := Option.some.inj H
        go_wp2
        go_ret
        exact ⟨by first | rfl | (simp [errW_none, errW_some] <;> rfl) | (simp [*, errW_none, errW_some] <;> rfl), by repeat (first | (with_reducible first | exact HB.out | apply below_alloc | apply pw_below_drewN | apply below_drew1) | exact HB.out)⟩

/-! ### deps_next: function 13 -/
/-- The jobs that are waited for from a row of jobs. -/
def nextT (adj : Int → List S28) (l : List Int) : List Int := l.flatMap fun j => (adj j).map S28.f0
theorem nextT_in (adj : Int → List S28) (l : List Int) (i k : Nat) (hi : i < l.length) (hk : k < (adj (l.getD i 0)).length) :
    nextT adj (l.take i) ++ ((adj (l.getD i 0)).take k).map S28.f0 ++ [(rd_T28 (adj (l.getD i 0)) (k : Int)).f0] = nextT adj (l.take i) ++ ((adj (l.getD i 0)).take (k + 1)).map S28.f0 := by
  rw [List.append_assoc]
  congr 1
  generalize adj (l.getD i 0) = r at *
  have e : rd_T28 r (k : Int) = r[k] := by
    simp only [rd_T28, Int.toNat_natCast, List.getD_eq_getElem?_getD, List.getElem?_eq_getElem hk, Option.getD_some]
  rw [List.take_succ_eq_append_getElem hk, List.map_append, e]
  rfl
theorem nextT_next (adj : Int → List S28) (l : List Int) (i : Nat) (hi : i < l.length) : nextT adj (l.take i) ++ (adj (l.getD i 0)).map S28.f0 = nextT adj (l.take (i + 1)) := by
  have e : l.getD i 0 = l[i] := by simp [hi]
  rw [List.take_succ_eq_append_getElem hi, e]
  unfold nextT
  rw [List.flatMap_append]
  simp only [List.flatMap_cons, List.flatMap_nil, List.append_nil]
theorem nextT_pre (adj : Int → List S28) (l : List Int) (i k : Nat) (hi : i < l.length) : nextT adj (l.take i) ++ ((adj (l.getD i 0)).take k).map S28.f0 <+: nextT adj l := by
  have h1 : nextT adj (l.take (i + 1)) <+: nextT adj l := by
    refine ⟨nextT adj (l.drop (i + 1)), ?_⟩
    unfold nextT
    rw [← List.flatMap_append, List.take_append_drop]
  rw [← nextT_next adj l i hi] at h1
  refine List.IsPrefix.trans ?_ h1
  rw [List.prefix_append_right_inj, List.map_take]
  exact List.take_prefix _ _
/-- The map of what is waited for, as it lies. -/
def IsAfter (w : World) (m : Value) (adj : Int → List S28) : Prop :=
  ∃ f : Int → Value, MapV w Try.prog 2 (.slice none 0 0) m f ∧ ∀ j : Int, (Lit.int .i64 j).wf = true → ∃ A c, f j = .slice A (adj j).length c ∧ Kd.C k28 w A (adj j).length (adj j)
theorem IsAfter.below {w w' : World} {m : Value} {adj : Int → List S28} (h : IsAfter w m adj) (hb : Below w.heap.size w w') : IsAfter w' m adj := by
  obtain ⟨f, hm, hf⟩ := h
  exact ⟨f, hm.below hb, fun j hj => by obtain ⟨A, c, h1, h2⟩ := hf j hj; exact ⟨A, c, h1, Kd.C_below h2 hb⟩⟩
theorem IsAfter.look {w : World} {m : Value} {adj : Int → List S28} (h : IsAfter w m adj) {j : Int} (hj : (Lit.int .i64 j).wf = true) :
    ∃ A c, Kd.C k28 w A (adj j).length (adj j) ∧ ∀ W, Below w.heap.size w W → (Instr.lookup 36 m (.int .i64 j) false).run Try.prog W = .ok (.slice A (adj j).length c) W := by
  obtain ⟨f, hm, hf⟩ := h
  obtain ⟨A, c, h1, h2⟩ := hf j hj
  exact ⟨A, c, h2, fun W hW => by rw [(hm.below hW).lookup Try.underlying2 Try.underlying36 (by kernel_rfl) hj, h1]⟩
theorem deps_next_calls (v0 v1 : Value) (h0 : v0.oneCell' = true) (h1 : v1.oneCell' = true) (w : World) : Calls Try.prog 13 #[v0, v1] w fun e w' => e = .returned (.func (.func 14) #[] #[.pointer (some ⟨w.heap.size + 1, 0, none⟩), .pointer (some ⟨w.heap.size, 0, none⟩)]) ∧ w' = (w.alloc (.cells #[v0] 36)).alloc (.cells #[v1] 34) := by
  have hmf : ∀ (fn : Fn) (first cap : Array Value) (w : World), (Instr.makeFunc fn first cap).run Try.prog w = .ok (.func fn first cap) w := fun _ _ _ _ => rfl
  go_enter Try.func13, Try.ntmps13
  go_wp2
  go_ret
  exact ⟨rfl, rfl⟩
set_option maxHeartbeats 4000000 in
theorem deps_next_seq (w0 : World) (m : Value) (adj : Int → List S28) (A : Option Addr) (c : Nat) (l : List Int) (bx by_ : Nat) (w : World) (hm : IsAfter w0 m adj) (hw : ∀ j ∈ l, (Lit.int .i64 j).wf = true) (hl : l.length ≤ 1000000) (ha : ∀ j, (adj j).length ≤ 1000000)
    (hb0 : Below w0.heap.size w0 w) (hx : Boxed w bx 36 m) (hy : Boxed w by_ 34 (.slice A l.length c)) (hr : w.ownsRow w0.heap.size 2 1 (.slice A l.length c) l.length (l.map (Value.int .i64))) :
    RSeq Fence.wide 8 Try.prog 14 #[.pointer (some ⟨by_, 0, none⟩), .pointer (some ⟨bx, 0, none⟩)] (fun j => #[.int .i64 j]) (fun k => k < w0.heap.size ∨ k = bx ∨ k = by_ ∨ some k = (Value.slice A l.length c).ownBlock) (fun _ => False)
      (fun pre => pre <+: nextT adj l) (fun xs => xs = nextT adj l) w := by
  intro lp J Jx W hW hJ hJx hY h0
  refine callsIn_of_wp Try.func14 rfl trivial ?_ rfl
  simp only [Try.ntmps14, List.size_toArray, List.length_cons, List.length_nil, Nat.reduceAdd, Nat.reduceSub, Array.replicate_succ, Array.replicate_zero, List.push_toArray, List.append_toArray, List.nil_append, List.cons_append]
  have HX := Aside0.mk (show Boxed W bx 36 m from (hW.block _ hx.lt).trans hx)
  have HY := Aside0.mk (show Boxed W by_ 34 (.slice A l.length c) from (hW.block _ hy.lt).trans hy)
  have HB0 := Aside0.mk (show Below w0.heap.size w0 W from hb0.trans (hW.mono hb0.size))
  have HR := Aside0.mk (show W.ownsRow w0.heap.size 2 1 (.slice A l.length c) l.length (l.map (Value.int .i64)) from own_move hr (fun k hk => hW.block k (hr.lt k hk).2))
  replace hJ := Aside0.mk hJ
  replace hJx := Aside0.mk hJx
  replace hY := Aside0.mk hY
  replace h0 := Aside0.mk h0
  clear hW hx hy hb0 hr
  replace hm := Aside0.mk hm
  replace hw := Aside0.mk hw
  replace ha := Aside0.mk ha
  have hc0 := HX.out.cell
  have hf0 := HX.out.frozen
  have hc1 := HY.out.cell
  have hf1 := HY.out.frozen
  gi_wp2
  gi_loopg [10] l.length (fun kq v10 wr => ∃ i : Nat, v10 = .int .i64 i ∧ Aside0 (kq + i = l.length) ∧ Aside0 (Boxed wr bx 36 m) ∧ Aside0 (Boxed wr by_ 34 (.slice A l.length c)) ∧ Aside0 (Below w0.heap.size w0 wr) ∧ Aside0 (wr.ownsRow w0.heap.size 2 1 (.slice A l.length c) l.length (l.map (Value.int .i64))) ∧ Aside0 (J (nextT adj (l.take i)) wr))
  case atStart => exact ⟨0, rfl, ⟨rfl⟩, HX, HY, HB0, HR, ⟨h0.out⟩⟩
  case round =>
    clear hc0 hc1 hf0 hf1 HB0 HX HY HR h0
    obtain ⟨i, rfl, HK, HX, HY, HB0, HR, HJ⟩ := hrel
    have hc0 := HX.out.cell
    have hf0 := HX.out.frozen
    cases gk with
    | zero =>
      have e : i = l.length := by have := HK.out; omega
      subst e
      gi_wp2
      (try simp only [Exit.noGoto_normal])
      go_end0
      refine ⟨⟨_, rfl⟩, .inl ⟨_, rfl, ?_⟩⟩
      have := HJ.out
      rwa [List.take_of_length_le (Nat.le_refl _)] at this
    | succ k1 =>
      have hlt : i < l.length := by have := HK.out; omega
      have hlt0 : (0 : Int) ≤ (i : Int) := Int.natCast_nonneg _
      have hlt1 : (i : Int) < (l.length : Int) := by omega
      obtain ⟨ad, eA, hx⟩ := Kd.at_int (Kd.F_now (F_of_own (enc := Value.int .i64) (h1 := fun _ => rfl) HR.out)) (i : Int) hlt0 hlt1
      subst eA
      rw [Int.toNat_natCast] at hx
      have hwi : (Lit.int .i64 (l.getD i 0)).wf = true := hw.out _ (by simp [hlt])
      have hrd : rd l (i : Int) = l.getD i 0 := by simp [rd]
      rw [hrd] at hx
      obtain ⟨RA, rc, hrow, hlk0⟩ := hm.out.look hwi
      have hlk := hlk0 _ HB0.out
      clear hlk0
      have HRow := Aside0.mk hrow
      have hal := ha.out (l.getD i 0)
      have hpre := Aside0.mk (fun k => nextT_pre adj l i k hlt)
      have hin := Aside0.mk (fun k => nextT_in adj l i k hlt)
      have hnx := Aside0.mk (nextT_next adj l i hlt)
      clear hrow
      generalize l.getD i 0 = j at *
      clear hrd
      gi_wp2
      gi_loopg [18] (adj j).length (fun kq v18 wr => ∃ k : Nat, v18 = .int .i64 k ∧ Aside0 (kq + k = (adj j).length) ∧ Aside0 (Boxed wr bx 36 m) ∧ Aside0 (Boxed wr by_ 34 (.slice (some ad) l.length c)) ∧ Aside0 (Below w0.heap.size w0 wr) ∧ Aside0 (wr.ownsRow w0.heap.size 2 1 (.slice (some ad) l.length c) l.length (l.map (Value.int .i64))) ∧ Aside0 (J (nextT adj (l.take i) ++ ((adj j).take k).map S28.f0) wr))
      case atStart => exact ⟨0, rfl, ⟨rfl⟩, HX, HY, HB0, HR, ⟨by simpa using HJ.out⟩⟩
      case round =>
        clear hc0 hf0 hlk hx HB0 HX HY HR HJ
        obtain ⟨k, rfl, HK1, HX, HY, HB0, HR, HJ⟩ := hrel
        cases gk with
        | zero =>
          have e : k = (adj j).length := by have := HK1.out; omega
          subst e
          gi_wp2
          gi_roundg k1
          case measure => omega
          case rel =>
            exact ⟨i + 1, by go_num, ⟨by have := HK.out; omega⟩, HX, HY, HB0, HR, ⟨by rw [← hnx.out]; have := HJ.out; rwa [List.take_of_length_le (Nat.le_refl _)] at this⟩⟩
        | succ k2 =>
          have hlt2 : k < (adj j).length := by have := HK1.out; omega
          have hlt3 : (0 : Int) ≤ (k : Int) := Int.natCast_nonneg _
          have hlt4 : (k : Int) < ((adj j).length : Int) := by omega
          obtain ⟨ad2, eA2, hx0, hx1⟩ := at_T28 (Kd.C_below HRow.out HB0.out) (k : Int) hlt3 hlt4
          subst eA2
          rw [Int.toNat_natCast] at hx0 hx1
          have hinx := Aside0.mk (hin.out k hlt2)
          have hprx := Aside0.mk (hpre.out (k + 1))
          rw [← hinx.out] at hprx
          generalize rd_T28 (adj j) (k : Int) = d at *
          gi_upto_region 6 with fail
          have hk1 : Keeps (fun _ => True) wr (wr.alloc (Obj.cells #[Value.int IntKind.i64 d.f0, Value.bool d.f1] 28)) := (Keeps.refl _ wr).alloc _
          have hd := BoxN.new wr 28 [Value.int IntKind.i64 d.f0, Value.bool d.f1]
          have hd0 := hd.cell 0 rfl
          have hdf0 := hd.frozen 0
          have hJ1 := hJ.out _ _ _ HJ.out (hk1.mono (fun _ _ _ => trivial))
          obtain ⟨fn, tmps, assign, body, hy', hR'⟩ := hY.out _ d.f0 _ hJ1 hprx.out
          clear hd hJ1
          replace hk1 := Aside0.mk hk1
          generalize (wr.alloc (Obj.cells #[Value.int IntKind.i64 d.f0, Value.bool d.f1] 28)) = W1 at *
          gi_wp2
          refine hR'.mono ?_
          rintro e W3 (⟨rfl, hJ3, hk3⟩ | ⟨rfl, hJx3⟩)
          · have hk4 : Keeps (fun k => k < w0.heap.size ∨ k = bx ∨ k = by_ ∨ some k = (Value.slice (some ad) l.length c).ownBlock) wr W3 := (hk1.out.mono (fun _ _ _ => trivial)).trans hk3
            gi_wp2
            gi_roundg k2
            case measure => omega
            case rel =>
              exact ⟨k + 1, by go_num, ⟨by have := HK1.out; omega⟩, ⟨hk4.boxed HX.out (.inr (.inl rfl))⟩, ⟨hk4.boxed HY.out (.inr (.inr (.inl rfl)))⟩, ⟨HB0.out.trans (hk4.below HB0.out.size (fun k hk => .inl hk))⟩,
                ⟨own_move HR.out (fun k hk => hk4.block k (HR.out.lt k hk).2 (.inr (.inr (.inr hk.symm))))⟩, ⟨by rw [← hinx.out]; exact hJ3⟩⟩
          · gi_wp2
            refine bodyPost_ret (results_none rfl _ _ _) rfl ?_
            exact ⟨⟨_, rfl⟩, .inr ⟨_, hprx.out, hJx3⟩⟩

/-! ### deps_Ring: function 10 -/
/-- What is waited for, of one job. -/
def succT (adj : Int → List S28) (j : Int) : List Int := (adj j).map S28.f0
/-- From a job one comes to another by one step or more. -/
inductive Leads (adj : Int → List S28) : Int → Int → Prop
  | one {a b : Int} (h : b ∈ succT adj a) : Leads adj a b
  | more {a b c : Int} (h : Leads adj a b) (k : c ∈ succT adj b) : Leads adj a c
noncomputable def ringT (adj : Int → List S28) (job : Int) : Bool := @decide (Leads adj job job) (Classical.propDecidable _)
theorem ringT_false {adj : Int → List S28} {job : Int} (h : ¬ Leads adj job job) : ringT adj job = false := by
  unfold ringT
  exact @decide_eq_false _ (Classical.propDecidable _) h
theorem ringT_true {adj : Int → List S28} {job : Int} (h : Leads adj job job) : ringT adj job = true := by
  unfold ringT
  exact @decide_eq_true _ (Classical.propDecidable _) h
theorem nodup_len {U : List Int} : ∀ {m : List Int}, m.Nodup → (∀ x ∈ m, x ∈ U) → m.length ≤ U.length := by
  induction U with
  | nil => intro m _ h; cases m with
    | nil => exact Nat.le_refl _
    | cons x r => exact absurd (h x List.mem_cons_self) (by simp)
  | cons u U ih =>
    intro m hn h
    have h1 : (m.erase u).length ≤ U.length := by
      refine ih (hn.erase u) (fun x hx => ?_)
      have hx1 := List.mem_of_mem_erase hx
      rcases List.mem_cons.1 (h x hx1) with rfl | h2
      · exact absurd hx (List.Nodup.not_mem_erase hn)
      · exact h2
    have h2 : m.length ≤ (m.erase u).length + 1 := by
      rw [List.length_erase]
      split <;> omega
    simp
    omega
structure RInv (adj : Int → List S28) (U : List Int) (job : Int) (met front : List Int) : Prop where
  nod : met.Nodup
  sub : ∀ x ∈ met, x ∈ U ∧ x ≠ job ∧ Leads adj job x
  fr : ∀ x ∈ front, x = job ∨ x ∈ met
  cl : ∀ x, (x = job ∨ x ∈ met) → x ∈ front ∨ ∀ y ∈ succT adj x, y ≠ job ∧ y ∈ met
namespace RInv
variable {adj : Int → List S28} {U : List Int} {job : Int} {met front new : List Int}
theorem start : RInv adj U job [] [job] := ⟨List.nodup_nil, by simp, by simp, by simp⟩
theorem stop (h : RInv adj U job met []) : ¬ Leads adj job job := by
  have key : ∀ a b, Leads adj a b → a = job → b ≠ job ∧ b ∈ met := by
    intro a b hl
    induction hl with
    | one hb => intro e; subst e; rcases h.cl _ (.inl rfl) with h1 | h1; · cases h1
                exact h1 _ hb
    | more _ hb ih => intro e; rcases h.cl _ (.inr (ih e).2) with h1 | h1; · cases h1
                      exact h1 _ hb
  intro hl
  exact (key _ _ hl rfl).1 rfl
theorem leads (h : RInv adj U job met front) {y : Int} (hy : y ∈ nextT adj front) : Leads adj job y := by
  obtain ⟨x, hx, hy⟩ := List.mem_flatMap.1 hy
  rcases h.fr x hx with rfl | h1
  · exact .one hy
  · exact .more (h.sub x h1).2.2 hy
theorem step (h : RInv adj U job met front) (hU : ∀ j, ∀ y ∈ succT adj j, y ∈ U) (h1 : ∀ y ∈ nextT adj front, y ≠ job ∧ y ∈ met ++ new) (h2 : (met ++ new).Nodup) (h3 : ∀ x ∈ new, x ∈ nextT adj front) : RInv adj U job (met ++ new) new := by
  refine ⟨h2, fun x hx => ?_, fun x hx => .inr (List.mem_append.2 (.inr hx)), fun x hx => ?_⟩
  · rcases List.mem_append.1 hx with hx | hx
    · exact h.sub x hx
    · have h4 := h3 x hx
      obtain ⟨z, hz, h5⟩ := List.mem_flatMap.1 h4
      exact ⟨hU z x h5, (h1 x h4).1, h.leads h4⟩
  · have old : (x = job ∨ x ∈ met) → ∀ y ∈ succT adj x, y ≠ job ∧ y ∈ met ++ new := fun hx y hy => by
      rcases h.cl x hx with h4 | h4
      · exact h1 y (List.mem_flatMap.2 ⟨x, h4, hy⟩)
      · exact ⟨(h4 y hy).1, List.mem_append.2 (.inl (h4 y hy).2)⟩
    rcases hx with hx | hx
    · exact .inr (old (.inl hx))
    · rcases List.mem_append.1 hx with hx | hx
      · exact .inr (old (.inr hx))
      · exact .inl hx
theorem len (h : RInv adj U job met front) : met.length ≤ U.length := nodup_len h.nod (fun x hx => (h.sub x hx).1)
end RInv
/-- What a round has met. -/
def RNew (met pre new : List Int) (job : Int) : Prop := (∀ y ∈ pre, y ≠ job ∧ y ∈ met ++ new) ∧ (met ++ new).Nodup ∧ ∀ x ∈ new, x ∈ pre
theorem RNew.old {met pre new : List Int} {job x : Int} (h : RNew met pre new job) (hx : x ≠ job) (hm : x ∈ met ++ new) : RNew met (pre ++ [x]) new job :=
  ⟨fun y hy => by rcases List.mem_append.1 hy with hy | hy; · exact h.1 y hy
                  · rw [List.mem_singleton.1 hy]; exact ⟨hx, hm⟩, h.2.1, fun y hy => List.mem_append.2 (.inl (h.2.2 y hy))⟩
theorem RNew.new {met pre new : List Int} {job x : Int} (h : RNew met pre new job) (hx : x ≠ job) (hm : x ∉ met ++ new) : RNew met (pre ++ [x]) (new ++ [x]) job := by
  refine ⟨fun y hy => ?_, ?_, fun y hy => ?_⟩
  · rw [← List.append_assoc]
    rcases List.mem_append.1 hy with hy | hy
    · exact ⟨(h.1 y hy).1, List.mem_append.2 (.inl (h.1 y hy).2)⟩
    · exact ⟨by rw [List.mem_singleton.1 hy]; exact hx, List.mem_append.2 (.inr hy)⟩
  · rw [← List.append_assoc]
    exact List.nodup_append.2 ⟨h.2.1, by simp, fun a ha b hb e => hm (by rw [← List.mem_singleton.1 hb, ← e]; exact ha)⟩
  · rcases List.mem_append.1 hy with hy | hy
    · exact List.mem_append.2 (.inl (h.2.2 y hy))
    · exact List.mem_append.2 (.inr hy)
/-- Marks of ranges that have ended, among what a frame has deferred. -/
structure Marks (H : Nat) (rs : List Nat) (W : World) : Prop where
  nod : rs.Nodup
  at_ : ∀ r ∈ rs, H ≤ r ∧ W.heap[r]? = some (.deferred (some []))
def markOf (r : Nat) : Deferred := { target := .collected r, args := #[] }
theorem Marks.keeps {H : Nat} {rs : List Nat} {A B : World} {K : Nat → Prop} (h : Marks H rs A) (hk : Keeps K A B) (hK : ∀ r ∈ rs, K r) : Marks H rs B :=
  ⟨h.nod, fun r hr => ⟨(h.at_ r hr).1, (hk.block r (Array.getElem?_eq_some_iff.1 (h.at_ r hr).2).1 (hK r hr)).trans (h.at_ r hr).2⟩⟩
theorem Marks.lt {H : Nat} {rs : List Nat} {A : World} (h : Marks H rs A) : ∀ r ∈ rs, r < A.heap.size := fun r hr => (Array.getElem?_eq_some_iff.1 (h.at_ r hr).2).1
theorem leaves_marks {F : Fence} {n : Nat} {P : Program} {fn : Func} {tmps : Array Value} {R : Ending → World → Prop} {H : Nat} : ∀ (rs : List Nat) (W : World), Marks H rs W →
    (∀ W', Keeps (fun k => k < H) W W' → LeavesInM F n P fn tmps R [] .returning W') → LeavesInM F n P fn tmps R (rs.map markOf) .returning W
  | [], W, _, h => h W (Keeps.refl _ W)
  | r :: rs, W, hm, h => by
    refine ⟨by simp, .inl ⟨r, _, rfl, run_takeDeferred (hm.at_ r List.mem_cons_self).2, ?_⟩⟩
    have hn := List.nodup_cons.1 hm.nod
    have hk := (Keeps.refl (fun k => k ≠ r) W).putObj (l := r) (.deferred none) (fun h => h.2 rfl)
    refine leaves_marks rs _ ⟨hn.2, fun q hq => ⟨(hm.at_ q (List.mem_cons_of_mem _ hq)).1, ?_⟩⟩ (fun W' hW => h W' ?_)
    · have := (hm.at_ q (List.mem_cons_of_mem _ hq)).2
      exact (hk.block q (Array.getElem?_eq_some_iff.1 this).1 (fun e => hn.1 (e ▸ hq))).trans this
    · have := (hm.at_ r List.mem_cons_self).1
      exact (hk.mono (fun k _ h => by omega)).trans hW
theorem wpIn_act {F : Fence} {n : Nat} {P : Program} {c : Code} {Q : Exit → Act → World → Prop} {a b : Act} {w : World} (h : a = b) (h2 : c.wpIn F n P Q b w) : c.wpIn F n P Q a w := h ▸ h2
/-- What stands at the head of Ring's loop. -/
structure RSt (w : World) (adj : Int → List S28) (U : List Int) (job : Int) (H : Nat) (met front : List Int) (A : Option Addr) (c : Nat) (rs : List Nat) (W : World) : Prop where
  inv : RInv adj U job met front
  len : front.length ≤ U.length + 1
  marks : Marks (H + 4) rs W
  bj : Boxed W H 2 (.int .i64 job)
  bm : Boxed W (H + 1 + 1) 41 (.map (some (H + 1)))
  br : Boxed W (H + 1 + 1 + 1) 4 (.bool false)
  mp : MapI W Try.prog 2 (.int .i64 0) (H + 1) met.length (fun i => .int .i64 (if i ∈ met then 1 else 0))
  row : W.ownsRow (H + 4) 2 1 (.slice A front.length c) front.length (front.map (Value.int .i64))
  below : Below H w W
theorem RSt.keeps {w W W' : World} {adj : Int → List S28} {U : List Int} {job : Int} {H : Nat} {met front : List Int} {A : Option Addr} {c : Nat} {rs : List Nat} (h : RSt w adj U job H met front A c rs W) (hk : Keeps (fun _ => True) W W') : RSt w adj U job H met front A c rs W' :=
  ⟨h.inv, h.len, h.marks.keeps hk (fun _ _ => trivial), hk.boxed h.bj trivial, hk.boxed h.bm trivial, hk.boxed h.br trivial, h.mp.keeps hk trivial, hk.row h.row (fun _ _ => trivial), h.below.trans (hk.below (Nat.le_of_lt h.bj.lt) (fun _ _ => trivial))⟩
/-- What stands within a round of the range in Ring. -/
structure RBd (w : World) (job : Int) (H Y : Nat) (met : List Int) (rs : List Nat) (pre new : List Int) (v : Value) (W : World) : Prop where
  nw : RNew met pre new job
  bj : Boxed W H 2 (.int .i64 job)
  bm : Boxed W (H + 1 + 1) 41 (.map (some (H + 1)))
  br : Boxed W (H + 1 + 1 + 1) 4 (.bool false)
  mp : MapI W Try.prog 2 (.int .i64 0) (H + 1) (met ++ new).length (fun i => .int .i64 (if i ∈ met ++ new then 1 else 0))
  by_ : Boxed W Y 34 v
  row : W.ownsRow (Y + 5) 2 1 v new.length (new.map (Value.int .i64))
  below : Below H w W
  marks : Marks (H + 4) rs W
theorem RBd.keeps {w W W' : World} {job : Int} {H Y : Nat} {met : List Int} {rs : List Nat} {pre new : List Int} {v : Value} {K : Nat → Prop} (h : RBd w job H Y met rs pre new v W) (hk : Keeps K W W') (hY : H + 4 ≤ Y) (hr : ∀ r ∈ rs, r < Y) (hK : ∀ k, k ≠ Y + 3 → k ≠ Y + 4 → K k) : RBd w job H Y met rs pre new v W' :=
  ⟨h.nw, hk.boxed h.bj (hK _ (by omega) (by omega)), hk.boxed h.bm (hK _ (by omega) (by omega)), hk.boxed h.br (hK _ (by omega) (by omega)), h.mp.keeps hk (hK _ (by omega) (by omega)), hk.boxed h.by_ (hK _ (by omega) (by omega)), hk.row h.row (fun k hk => hK _ (by omega) (by omega)),
    h.below.trans (hk.below (Nat.le_of_lt h.bj.lt) (fun k hk => hK _ (by omega) (by omega))), h.marks.keeps hk (fun r hr' => by have := hr r hr'; exact hK _ (by omega) (by omega))⟩
def RRel (w : World) (adj : Int → List S28) (U : List Int) (job : Int) (H : Nat) (kq : Nat) (fv : Value) (ds : List Deferred) (W : World) : Prop :=
  ∃ met front A c rs, fv = .slice A front.length c ∧ ds = rs.map markOf ∧ RSt w adj U job H met front A c rs W ∧ 2 * (U.length - met.length) + (if front = [] then 0 else 1) ≤ kq
attribute [local go_sem] Oper.semAt_some
set_option maxHeartbeats 8000000 in
theorem deps_Ring.calls (adj : Int → List S28) (U : List Int) (m : Value) (job : Int) (w : World) (hm : IsAfter w m adj) (hjob : (Lit.int .i64 job).wf = true) (hU : ∀ j, ∀ y ∈ succT adj j, y ∈ U) (hUw : ∀ u ∈ U, (Lit.int .i64 u).wf = true)
    (hUl : U.length ≤ 100000) (ha : ∀ j, (adj j).length ≤ 1000000) (hm1 : m.oneCell' = true) : Calls Try.prog 10 #[m, .int .i64 job] w fun e w' => e = .returned (.bool (ringT adj job)) ∧ Below w.heap.size w w' := by
  obtain ⟨H, hH⟩ : ∃ H, w.heap.size = H := ⟨_, rfl⟩
  refine (callsIn_wide (n := 9)).1 (callsIn_of_wp_marks Try.func10 rfl trivial ?_ rfl)
  simp only [Try.ntmps10, List.size_toArray, List.length_cons, List.length_nil, Nat.reduceAdd, Nat.reduceSub, Array.replicate_succ, Array.replicate_zero, List.push_toArray, List.append_toArray, List.nil_append, List.cons_append]
  replace hm := Aside0.mk hm
  replace hU := Aside0.mk hU
  replace hUw := Aside0.mk hUw
  replace ha := Aside0.mk ha
  obtain ⟨i0, hi, hz0, hz1, hz2⟩ := info_parts (P := Try.prog) (e := 2) (z := .int .i64 0) (size := 1) (bytes := 8) (by kernel_rfl)
  have hmm := @run_makeMap Try.prog
  gi_wp2
  refine wpIn_wide.2 (wp_scope_straight ((wpIn_wide (n := 9)).1 ?_))
  gi_wp2
  refine wpIn_label ?_
  gi_wp2
  clear hmm
  obtain ⟨W0, h0, hW0⟩ : ∃ W0, RSt w adj U job H [] [job] (some { block := H + 1 + 1 + 1 + 1, off := 0 }) 1 [] W0 ∧ (((((w.alloc (Obj.cells #[Value.int IntKind.i64 job] 2)).alloc (Obj.map #[] 0)).alloc (Obj.cells #[Value.map (some (H + 1))] 41)).alloc (Obj.cells #[Value.bool false] 4)).alloc (Obj.cells #[Value.int IntKind.i64 job] 2)) = W0 := by
    refine ⟨_, ?_, rfl⟩
    obtain ⟨W1, hW1⟩ : ∃ W1, w.alloc (Obj.cells #[Value.int IntKind.i64 job] 2) = W1 := ⟨_, rfl⟩
    have s1 : W1.heap.size = H + 1 := by rw [← hW1]; simp [hH]
    have b1 : Boxed W1 H 2 (.int .i64 job) := by rw [← hW1, ← hH]; exact Boxed.new w _ _
    have l1 : Below H w W1 := by rw [← hW1]; exact (Below.refl _ w).alloc (Nat.le_of_eq hH.symm) _
    rw [hW1]
    obtain ⟨W2, hW2⟩ : ∃ W2, W1.alloc (Obj.map #[] 0) = W2 := ⟨_, rfl⟩
    have s2 : W2.heap.size = H + 1 + 1 := by rw [← hW2]; simp [s1]
    have m2 : MapI W2 Try.prog 2 (.int .i64 0) (H + 1) 0 (fun _ => .int .i64 0) := by rw [← hW2, ← s1]; exact MapI.made W1 _ _ _
    have b2 : Boxed W2 H 2 (.int .i64 job) := by rw [← hW2]; exact b1.alloc _
    have l2 : Below H w W2 := by rw [← hW2]; exact l1.alloc (by omega) _
    rw [hW2]
    obtain ⟨W3, hW3⟩ : ∃ W3, W2.alloc (Obj.cells #[Value.map (some (H + 1))] 41) = W3 := ⟨_, rfl⟩
    have s3 : W3.heap.size = H + 1 + 1 + 1 := by rw [← hW3]; simp [s2]
    have c3 : Boxed W3 (H + 1 + 1) 41 (.map (some (H + 1))) := by rw [← hW3, ← s2]; exact Boxed.new W2 _ _
    have m3 : MapI W3 Try.prog 2 (.int .i64 0) (H + 1) 0 (fun _ => .int .i64 0) := by rw [← hW3]; exact m2.alloc _
    have b3 : Boxed W3 H 2 (.int .i64 job) := by rw [← hW3]; exact b2.alloc _
    have l3 : Below H w W3 := by rw [← hW3]; exact l2.alloc (by omega) _
    rw [hW3]
    obtain ⟨W4, hW4⟩ : ∃ W4, W3.alloc (Obj.cells #[Value.bool false] 4) = W4 := ⟨_, rfl⟩
    have s4 : W4.heap.size = H + 1 + 1 + 1 + 1 := by rw [← hW4]; simp [s3]
    have d4 : Boxed W4 (H + 1 + 1 + 1) 4 (.bool false) := by rw [← hW4, ← s3]; exact Boxed.new W3 _ _
    have c4 : Boxed W4 (H + 1 + 1) 41 (.map (some (H + 1))) := by rw [← hW4]; exact c3.alloc _
    have m4 : MapI W4 Try.prog 2 (.int .i64 0) (H + 1) 0 (fun _ => .int .i64 0) := by rw [← hW4]; exact m3.alloc _
    have b4 : Boxed W4 H 2 (.int .i64 job) := by rw [← hW4]; exact b3.alloc _
    have l4 : Below H w W4 := by rw [← hW4]; exact l3.alloc (by omega) _
    rw [hW4]
    have r5 := own_lits (e := 2) W4 [job] (show 1 ≤ maxLen by decide)
    rw [s4] at r5
    exact ⟨RInv.start, by simp, ⟨List.nodup_nil, by simp⟩, b4.alloc _, c4.alloc _, d4.alloc _, by simpa using m4.alloc _, r5, l4.alloc (by omega) _⟩
  rw [hW0]
  clear hW0
  refine wpIn_loop_ghost_k (fun kq a' w' => ∃ fv u8 u9 u13 u14 u15 u16 u17 u18 u19 u20 u21 u22 u23 u24 u25 u26 u27 u28 u29 u30 u31 u32 u33 ds, RRel w adj U job H kq fv ds w' ∧ a' = { tmps := List.toArray (m :: (Value.int IntKind.i64 job) :: undef :: (Value.pointer (some { block := H, off := 0 })) :: (Value.bool false) :: (Value.pointer (some { block := H + 1 + 1, off := 0 })) :: (Value.pointer (some { block := H + 1 + 1 + 1, off := 0 })) :: fv :: u8 :: u9 :: (Value.map (some (H + 1))) :: (Value.int IntKind.i64 job) :: (Value.slice (some { block := H + 1 + 1 + 1 + 1, off := 0 }) 1 1) :: u13 :: u14 :: u15 :: u16 :: u17 :: u18 :: u19 :: u20 :: u21 :: u22 :: u23 :: u24 :: u25 :: u26 :: u27 :: u28 :: u29 :: u30 :: u31 :: u32 :: u33 :: undef :: []), defers := ds }) (2 * U.length + 1) ?_ ?_
  · (repeat apply Exists.intro)
    refine ⟨?_, rfl⟩
    exact ⟨[], [job], _, _, [], rfl, rfl, h0, by simp⟩
  intro gk a wr hinv J K hJ hK
  obtain ⟨fv, u8, u9, u13, u14, u15, u16, u17, u18, u19, u20, u21, u22, u23, u24, u25, u26, u27, u28, u29, u30, u31, u32, u33, ds, hrel, ha'⟩ := hinv
  subst ha'
  obtain ⟨met, front, A, c, rs, rfl, rfl, hS, hM⟩ := hrel
  replace hS := Aside0.mk hS
  replace hM := Aside0.mk hM
  clear h0
  have hcr := hS.out.br.cell
  have hfr := hS.out.br.frozen
  cases front with
  | nil =>
    have hring := Aside0.mk (ringT_false hS.out.inv.stop)
    gi_wp2
    refine leaves_marks (H := H + 4) rs wr hS.out.marks (fun W' hW' => ?_)
    refine ⟨.bool (ringT adj job), by rw [hring.out]; simp [results, Try.f10, go_sem], rfl, ?_⟩
    rw [hH]
    exact hS.out.below.trans (hW'.below (Nat.le_of_lt hS.out.bj.lt) (fun k hk => by omega))
  | cons j fr =>
    obtain ⟨front, hfe⟩ : ∃ front, j :: fr = front := ⟨_, rfl⟩
    have hlen : (0 : Int) < (front.length : Int) := by rw [← hfe]; simp
    have hne : front ≠ [] := by rw [← hfe]; simp
    rw [hfe] at hS hM ⊢
    clear hfe
    rw [if_neg hne] at hM
    clear hne
    have hlen' : decide ((0 : Int) < (front.length : Int)) = true := decide_eq_true hlen
    gi_wp2_with (refine ⟨trivial, ?_⟩; gi_at_call 13; refine (callsIn_wide.2 (deps_next_calls _ _ hm1 rfl _)).mono ?_; rintro e w' ⟨rfl, rfl⟩)
    obtain ⟨Y, hY⟩ : ∃ Y, wr.heap.size = Y := ⟨_, rfl⟩
    obtain ⟨Wr, hWr, hSr, hsz, hb0, hb1, hb2, hmk⟩ : ∃ Wr, (((wr.alloc (Obj.cells #[Value.slice none 0 0] 34)).alloc (Obj.cells #[m] 36)).alloc (Obj.cells #[Value.slice A front.length c] 34)) = Wr ∧ RSt w adj U job H met front A c rs Wr ∧ Wr.heap.size = Y + 3 ∧
        Boxed Wr Y 34 (.slice none 0 0) ∧ Boxed Wr (Y + 1) 36 m ∧ Boxed Wr (Y + 1 + 1) 34 (.slice A front.length c) ∧ ∀ r ∈ rs, r < Y := by
      have hk := (((Keeps.refl (fun _ => True) wr).alloc (Obj.cells #[Value.slice none 0 0] 34)).alloc (Obj.cells #[m] 36)).alloc (Obj.cells #[Value.slice A front.length c] 34)
      refine ⟨_, rfl, hS.out.keeps hk, by simp [hY], ?_, ?_, ?_, by rw [← hY]; exact hS.out.marks.lt⟩
      · rw [← hY]; exact ((Boxed.new wr _ _).alloc _).alloc _
      · have := (Boxed.new (wr.alloc (Obj.cells #[Value.slice none 0 0] 34)) 36 m).alloc (Obj.cells #[Value.slice A front.length c] 34)
        rwa [World.size_alloc, hY] at this
      · have := Boxed.new ((wr.alloc (Obj.cells #[Value.slice none 0 0] 34)).alloc (Obj.cells #[m] 36)) 34 (.slice A front.length c)
        rwa [World.size_alloc, World.size_alloc, hY] at this
    have hHY : H + 4 ≤ Y := by have := hS.out.br.lt; omega
    have hfo : ∀ k, some k = (Value.slice A front.length c).ownBlock → H + 4 ≤ k ∧ k < Y := fun k hk => by
      have := hS.out.row.lt k hk.symm
      omega
    rw [hWr, hY]
    clear hWr hS hcr hfr hY
    replace hSr := Aside0.mk hSr
    have hfw : ∀ j ∈ front, (Lit.int .i64 j).wf = true := fun j hj => (hSr.out.inv.fr j hj).elim (fun e => e ▸ hjob) (fun h => hUw.out _ (hSr.out.inv.sub j h).1)
    have hfk : ∀ k, (k < w.heap.size ∨ k = Y + 1 ∨ k = Y + 1 + 1 ∨ some k = (Value.slice A front.length c).ownBlock) → k < Wr.heap.size := by
      intro k hk
      rcases hk with hk | hk | hk | hk
      · omega
      · omega
      · omega
      · have := hfo k hk; omega
    refine wpIn_range (n := 9) (w := Wr) rfl (by omega) (gf := 14) (lb := #[.pointer (some ⟨Y + 1 + 1, 0, none⟩), .pointer (some ⟨Y + 1, 0, none⟩)]) rfl trivial (enters_of Try.func14 (by kernel_rfl) rfl)
      (deps_next_seq w m adj A c front (Y + 1) (Y + 1 + 1) Wr hm.out hfw (by have := hSr.out.len; omega) ha.out (by rw [hH]; exact hSr.out.below) hb1 hb2 (by rw [hH]; exact own_weaken hSr.out.row (by omega)))
      (fun k hk => hk.elim) hfk (fun _ => rfl)
      (fun pre W => ∃ new v, RBd w job H Y met rs pre new v W)
      (fun cd pre W => cd = .exit 0 ∧ job ∈ pre ∧ Boxed W (H + 1 + 1 + 1) 4 (.bool true) ∧ Below H w W ∧ Marks (H + 4) rs W)
      (by
        rintro s A' B ⟨new, v, h⟩ hk
        exact ⟨new, v, h.keeps hk hHY hmk (fun k h1 h2 => ⟨not_false, by omega, by omega⟩)⟩)
      (by
        rintro cd s A' B ⟨h1, h2, h3, h4, h5⟩ hk
        exact ⟨h1, h2, hk.boxed h3 ⟨not_false, by omega, by omega⟩, h4.trans (hk.below (by have := h3.lt; omega) (fun k hk => ⟨not_false, by omega, by omega⟩)), h5.keeps hk (fun r hr => by have := hmk r hr; exact ⟨not_false, by omega, by omega⟩)⟩)
      ⟨[], _, ⟨⟨by simp, by simpa using hSr.out.inv.nod, by simp⟩, hSr.out.bj, hSr.out.bm, hSr.out.br, by simpa using hSr.out.mp, hb0, World.ownsRow_nil _ _ _ _, hSr.out.below, hSr.out.marks⟩⟩
      (fun pre x a' W => (∃ new v, RBd w job H Y met rs pre new v W) ∧ a' = { tmps := List.toArray (m :: (Value.int IntKind.i64 job) :: undef :: (Value.pointer (some { block := H, off := 0 })) :: (Value.bool false) :: (Value.pointer (some { block := H + 1 + 1, off := 0 })) :: (Value.pointer (some { block := H + 1 + 1 + 1, off := 0 })) :: (Value.slice A front.length c) :: (Value.pointer (some { block := Y, off := 0 })) :: (Value.int IntKind.i64 x) :: (Value.map (some (H + 1))) :: (Value.int IntKind.i64 job) :: (Value.slice (some { block := H + 1 + 1 + 1 + 1, off := 0 }) 1 1) :: (Value.slice A front.length c) :: (Value.int IntKind.i64 front.length) :: (Value.bool true) :: m :: (Value.slice A front.length c) :: (Value.func (Fn.func 14) #[] #[Value.pointer (some { block := Y + 1 + 1, off := 0 }), Value.pointer (some { block := Y + 1, off := 0 })]) :: (Value.int IntKind.i64 x) :: u20 :: u21 :: u22 :: u23 :: u24 :: u25 :: u26 :: u27 :: u28 :: u29 :: u30 :: u31 :: u32 :: u33 :: undef :: []), defers := [] })
      (by
        rintro pre x a' A' B ⟨⟨new, v, h⟩, h6⟩ hk
        exact ⟨⟨new, v, h.keeps hk hHY hmk (fun k h1 h2 => by omega)⟩, h6⟩)
      ?assign ?body ?done ?stop
    case assign =>
      intro pre x W hi hpre hsz'
      clear hJ hK
      refine wpIn_act (b := { tmps := List.toArray (m :: (Value.int IntKind.i64 job) :: undef :: (Value.pointer (some { block := H, off := 0 })) :: (Value.bool false) :: (Value.pointer (some { block := H + 1 + 1, off := 0 })) :: (Value.pointer (some { block := H + 1 + 1 + 1, off := 0 })) :: (Value.slice A front.length c) :: (Value.pointer (some { block := Y, off := 0 })) :: u9 :: (Value.map (some (H + 1))) :: (Value.int IntKind.i64 job) :: (Value.slice (some { block := H + 1 + 1 + 1 + 1, off := 0 }) 1 1) :: (Value.slice A front.length c) :: (Value.int IntKind.i64 front.length) :: (Value.bool true) :: m :: (Value.slice A front.length c) :: (Value.func (Fn.func 14) #[] #[Value.pointer (some { block := Y + 1 + 1, off := 0 }), Value.pointer (some { block := Y + 1, off := 0 })]) :: (Value.int IntKind.i64 x) :: u20 :: u21 :: u22 :: u23 :: u24 :: u25 :: u26 :: u27 :: u28 :: u29 :: u30 :: u31 :: u32 :: u33 :: undef :: []), defers := [] }) (by simp) ?_
      gi_wp2
      exact ⟨Keeps.refl _ _, hi, by first | rfl | trivial⟩
    case body =>
      rintro pre x a' W hpre ⟨lr, hrec⟩ ⟨⟨new, v, hB⟩, rfl⟩
      clear hJ hK
      have hWsz : Y + 5 ≤ W.heap.size := by have := (Array.getElem?_eq_some_iff.1 hrec).1; omega
      replace hrec := Aside0.mk hrec
      have hj := hB.bj.cell
      have hjf := hB.bj.frozen
      have hr := hB.br.cell
      have hrf := hB.br.frozen
      have hmc := hB.bm.cell
      have hmf := hB.bm.frozen
      have hbc := hB.by_.cell
      have hbf := hB.by_.frozen
      have hxL : x ∈ nextT adj front := hpre.subset (List.mem_append.2 (.inr List.mem_cons_self))
      obtain ⟨z, hz, hxz⟩ := List.mem_flatMap.1 hxL
      have hxU : x ∈ U := hU.out z x hxz
      have hxw := hUw.out x hxU
      clear hz hxz z
      have hlk := hB.mp.lookup (t := 41) Try.underlying2 Try.underlying41 (by kernel_rfl) hxw
      by_cases hx : x = job
      · subst hx
        have hK3 := (Keeps.refl (fun k => k ≠ H + 1 + 1 + 1) W).setCell (p := ⟨H + 1 + 1 + 1, 0, none⟩) (Value.bool true) (fun h => h.2 rfl)
        gi_wp2
        exact ⟨hK3.mono (fun k _ h => by omega), rfl, List.mem_append.2 (.inr List.mem_cons_self), hB.br.set _, hB.below.trans (hK3.below (Nat.le_of_lt hB.bj.lt) (fun k hk => by omega)), hB.marks.keeps hK3 (fun r hr' => by have := (hB.marks.at_ r hr').1; omega)⟩
      · have hx' : (x == job) = false := by simpa using hx
        by_cases hm0 : x ∈ met ++ new
        · rw [if_pos hm0] at hlk
          gi_wp2
          exact ⟨Keeps.refl _ _, new, v, { hB with nw := hB.nw.old hx hm0 }⟩
        · rw [if_neg hm0] at hlk
          have hlU : (met ++ new).length ≤ 100000 := Nat.le_trans (nodup_len hB.nw.2.1 (fun y hy => by
            rcases List.mem_append.1 hy with hy | hy
            · exact (hSr.out.inv.sub y hy).1
            · have := hpre.subset (List.mem_append.2 (.inl (hB.nw.2.2 y hy)))
              obtain ⟨z, hz, hyz⟩ := List.mem_flatMap.1 this
              exact hU.out z y hyz)) hUl
          obtain ⟨w1, hup, hmp1, hg1⟩ := hB.mp.update (t := 41) Try.underlying2 Try.underlying41 (Nat.lt_of_le_of_lt hlU (by decide)) hxw (.int .i64 1)
          have hj1 := hB.bj.kept hg1 (fun e => by injection e with e; omega)
          have hm1' := hB.bm.kept hg1 (fun e => by injection e with e; omega)
          have hr1 := hB.br.kept hg1 (fun e => by injection e with e; omega)
          have hb1' := hB.by_.kept hg1 (fun e => by injection e with e; omega)
          have hrow1 : w1.ownsRow (Y + 5) 2 1 v new.length (new.map (Value.int .i64)) := own_move hB.row (fun k hk => hg1.block k (hB.row.lt k hk).2 (fun e => by injection e with e; have := (hB.row.lt k hk).1; omega))
          have hsz1 : Y + 5 ≤ w1.heap.size := Nat.le_trans hWsz hg1.size
          have hbc1 := hb1'.cell
          have hbf1 := hb1'.frozen
          have hnl : new.length ≤ 100000 := by rw [List.length_append] at hlU; omega
          have hl1 : new.length + 1 ≤ maxLen := by have : (100001 : Nat) ≤ maxLen := by decide
                                                   omega
          have hl2 : (new.length + 1) * 8 ≤ 140737488355328 := by omega
          gi_wp2_with (gi_at_builtin; refine wpListIn_append_own _ rfl _ _ 34 rfl (Y + 5) 2 i0 (.int .i64 0) 1 8 Try.underlying34 hi hz0 hz1 hz2 rfl (by decide) _ _ _ rfl (hrow1.alloc _) ⟨w1.heap.size, 0, none⟩ 1 1 [Value.int .i64 x] rfl rfl (cell_one_new _ _ _) (by simp [Value.oneCell']) hl1 hl2 (by simp; omega) ?_; intro v' w2 hown' hgrow _; obtain ⟨g', cap', rfl⟩ := ownsRow_succ hown'; have hb2' : Boxed w2 Y 34 v := (hb1'.alloc _).kept hgrow (not_own hrow1 (by omega)); have hbc2 := hb2'.cell; have hbf2 := hb2'.frozen; skip)
          have hk2 : Keeps (fun k => k < Y + 5 ∧ k ≠ Y) w1 (w2.setCell ⟨Y, 0, none⟩ (Value.slice (some ⟨g', 0, none⟩) (new.length + 1) cap')) :=
            (((Keeps.refl _ w1).alloc _).grown hgrow (fun k e h => by have := (hrow1.lt k (show v.ownBlock = some k from e)).1; omega)).setCell _ (fun h => h.2.2 rfl)
          have hk1 : Keeps (fun k => k ≠ H + 1) W w1 := (Keeps.refl _ W).grown hg1 (fun k e h => h.2 (by injection e with e; exact e.symm))
          have hk3 : Keeps (fun k => k ≠ H + 1 ∧ k < Y + 5 ∧ k ≠ Y) W (w2.setCell ⟨Y, 0, none⟩ (Value.slice (some ⟨g', 0, none⟩) (new.length + 1) cap')) := (hk1.mono (fun k _ h => h.1)).trans (hk2.mono (fun k _ h => h.2))
          have hr2 := (Keeps.setCell (K := fun k => k ≠ Y) (Keeps.refl _ w2) (p := ⟨Y, 0, none⟩) (Value.slice (some ⟨g', 0, none⟩) (new.length + 1) cap') (fun h => h.2 rfl)).row hown' (fun k hk => by omega)
          have hv2 := hb2'.set (Value.slice (some ⟨g', 0, none⟩) (new.length + 1) cap')
          have hfx : (fun i : Int => Value.int .i64 (if i ∈ met ++ (new ++ [x]) then 1 else 0)) = (fun j => if j = x then Value.int .i64 1 else Value.int .i64 (if j ∈ met ++ new then 1 else 0)) := by
            funext j
            have hmem : j ∈ met ++ (new ++ [x]) ↔ j ∈ met ++ new ∨ j = x := by rw [← List.append_assoc, List.mem_append, List.mem_singleton]
            by_cases e : j = x
            · rw [if_pos (hmem.2 (.inr e)), if_pos e]
            · rw [if_neg e]
              by_cases e2 : j ∈ met ++ new
              · rw [if_pos (hmem.2 (.inl e2)), if_pos e2]
              · rw [if_neg (fun h => (hmem.1 h).elim e2 e), if_neg e2]
          refine ⟨hk3.mono (fun k _ h => ?_), new ++ [x], _, hB.nw.new hx hm0, hk2.boxed hj1 (by omega), hk2.boxed hm1' (by omega), hk2.boxed hr1 (by omega), ?_, hv2, ?_, hB.below.trans (hk3.below (Nat.le_of_lt hB.bj.lt) (fun k hk => by omega)), hB.marks.keeps hk3 (fun r hr' => by have := hmk r hr'; have := (hB.marks.at_ r hr').1; omega)⟩
          · rcases h with (h | h | h | h) | h | h
            · omega
            · omega
            · omega
            · have := hfo k h; omega
            · omega
            · omega
          · rw [hfx, ← List.append_assoc, List.length_append (bs := [x])]
            exact hmp1.keeps hk2 (by omega)
          · rw [List.length_append, List.map_append]
            exact hr2
    case done =>
      rintro xs W hsz' rfl ⟨new, v, hB⟩ hKB
      have hbc := hB.by_.cell
      have hbf := hB.by_.frozen
      obtain ⟨A', c', rfl⟩ : ∃ A' c', v = .slice A' new.length c' := by
        rcases hB.row.2 with ⟨rfl, h0⟩ | ⟨g, cap, cur, rfl, _⟩
        · exact ⟨none, 0, by rw [h0]⟩
        · exact ⟨_, cap, rfl⟩
      have hI' := Aside0.mk (hSr.out.inv.step hU.out hB.nw.1 hB.nw.2.1 hB.nw.2.2)
      have hlenI := hI'.out.len
      rw [List.length_append] at hlenI
      have hSt : RSt w adj U job H (met ++ new) new A' c' (Wr.heap.size :: rs) W :=
        ⟨hI'.out, by omega, ⟨List.nodup_cons.2 ⟨fun h => by have := hmk _ h; omega, hB.marks.nod⟩, fun r hr => by
          rcases List.mem_cons.1 hr with rfl | hr
          · exact ⟨by omega, hKB⟩
          · exact hB.marks.at_ r hr⟩, hB.bj, hB.bm, hB.br, hB.mp, own_weaken hB.row (by omega), hB.below⟩
      replace hSt := Aside0.mk hSt
      have hMe : 2 * (U.length - (met ++ new).length) + (if new = [] then 0 else 1) < gk := by
        have := hM.out
        rw [List.length_append]
        by_cases e : new = []
        · subst e; simp; omega
        · rw [if_neg e]
          have : new.length ≠ 0 := fun h => e (List.length_eq_zero_iff.1 h)
          omega
      replace hMe := Aside0.mk hMe
      clear hB hKB hlenI hI'
      gi_wp2
      gi_roundg (2 * (U.length - (met ++ new).length) + (if new = [] then 0 else 1))
      case measure => exact hMe.out
      case rel => exact ⟨met ++ new, new, A', c', Wr.heap.size :: rs, rfl, rfl, hSt.out, Nat.le_refl _⟩
    case stop =>
      rintro cd pre W hsz' hpre ⟨rfl, hjp, hb, hbel, hmks⟩ hKB
      have hring := Aside0.mk (ringT_true (hSr.out.inv.leads (hpre.subset hjp)))
      have hc := hb.cell
      have hf := hb.frozen
      have hmks' : Marks (H + 4) (Wr.heap.size :: rs) W := ⟨List.nodup_cons.2 ⟨fun h => by have := hmk _ h; omega, hmks.nod⟩, fun r hr => by
          rcases List.mem_cons.1 hr with rfl | hr
          · exact ⟨by omega, hKB⟩
          · exact hmks.at_ r hr⟩
      gi_wp2
      refine leaves_marks (H := H + 4) (Wr.heap.size :: rs) W hmks' (fun W' hW' => ?_)
      refine ⟨.bool (ringT adj job), by rw [hring.out]; simp [results, Try.f10, go_sem], rfl, ?_⟩
      rw [hH]
      exact hbel.trans (hW'.below (by have := hb.lt; omega) (fun k hk => by omega))

end Go.Proofs.Ytpjhmollejiaoaa.P
