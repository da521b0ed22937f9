-- Written by this session's program gprint.py: functions of the program as plain functions, and that the machine does what they say. Not trusted: Lean checks it.
import Derived.Test.YtifebcdkckjphaaPx0
import Derived.Test.YtifebcdkckjphaaPx2
import Derived.Test.YtifebcdkckjphaaPx3
import Derived.Test.YtifebcdkckjphaaPx4
import Derived.Test.YtifebcdkckjphaaPx5
namespace Go.Proofs.Ytifebcdkckjphaa.P
open Go.RowKit Go.Proofs.YtifebcdkckjphaaW.PrintWords Go.Proofs.YtifebcdkckjphaaW.PrintLast Go.Proofs.YtifebcdkckjphaaW.PrintMore
attribute [local go_sem] max2_int min2_int max_two min_two max_three min_three max_four min_four   -- for this text's walks alone
set_option linter.unusedVariables false
set_option linter.unusedSimpArgs false

/-! ### forebayref20_Clear: function 19 -/
mutual
def forebayref20_Clear.j0 : Nat → List (S35) → Int → Bool → Option ((List (S35)) × Int)
  | 0, _, _, _ => none
  | k + 1, x0, x1, x15 => if x15 = true then (some (([] : List (S35)), 2)) else ((forebayref20_Of.f k x0 x1).bind fun t156 => (if (t156.length : Int) = 0 then (some (([] : List (S35)), 7)) else ((forebayref20_own.f x0).bind fun t159 => (forebayref20_Clear.l0 k x1 t159 0))))
def forebayref20_Clear.l0 : Nat → Int → List (S35) → Int → Option ((List (S35)) × Int)
  | 0, _, _, _ => none
  | k + 1, x1, x6, x7 => if x7 < (x6.length : Int) then (if 0 ≤ x7 then (if ((rd_T35 x6 x7).f2) = x1 then (forebayref20_Clear.l0 k x1 (x6.set (x7 : Int).toNat (⟨(rd_T35 x6 x7).f0, (rd_T35 x6 x7).f1, 0⟩ : S35)) (wrap64 (x7 + 1))) else (forebayref20_Clear.l0 k x1 x6 (wrap64 (x7 + 1)))) else (none)) else (some (x6, 0))
end
def forebayref20_Clear.f (k : Nat) (l0 : List (S35)) (a1 : Int) : Option ((List (S35)) × Int) := (forebayref20_Check.f k l0).bind fun t154 => (if t154 = 0 then ((forebayref20_job.f a1).bind fun t155 => (forebayref20_Clear.j0 k l0 a1 (!t155))) else (forebayref20_Clear.j0 k l0 a1 true))
theorem forebayref20_Clear.mono_l : ∀ k, (∀ y0 y1 y2, LeO (forebayref20_Clear.j0 k y0 y1 y2) (forebayref20_Clear.j0 (k + 1) y0 y1 y2)) ∧ (∀ y0 y1 y2, LeO (forebayref20_Clear.l0 k y0 y1 y2) (forebayref20_Clear.l0 (k + 1) y0 y1 y2))
  | 0 => ⟨fun _ _ _ r h => by simp [forebayref20_Clear.j0] at h, fun _ _ _ r h => by simp [forebayref20_Clear.l0] at h⟩
  | k + 1 => by
    obtain ⟨ih0, ih1⟩ := forebayref20_Clear.mono_l k
    refine ⟨?_, ?_⟩
    · intro y0 y1 y2
      unfold forebayref20_Clear.j0
      repeat' first
      | (with_reducible exact ih0 _ _ _)
      | (with_reducible exact ih1 _ _ _)
      | (with_reducible exact forebayref20_Check.mono _ _)
      | (with_reducible exact forebayref20_Of.mono _ _ _)
      | (with_reducible exact LeO.refl _)
      | (with_reducible exact LeO.none _)
      | (with_reducible refine LeO.ite ?_ ?_)
      | (with_reducible refine LeO.bind ?_ (fun _ => ?_))
      | exact ih0 _ _ _
      | exact ih1 _ _ _
      | exact forebayref20_Check.mono _ _
      | exact forebayref20_Of.mono _ _ _
      | exact LeO.none _
      | refine LeO.ite ?_ ?_
      | refine LeO.bind ?_ (fun _ => ?_)
    · intro y0 y1 y2
      unfold forebayref20_Clear.l0
      repeat' first
      | (with_reducible exact ih0 _ _ _)
      | (with_reducible exact ih1 _ _ _)
      | (with_reducible exact forebayref20_Check.mono _ _)
      | (with_reducible exact forebayref20_Of.mono _ _ _)
      | (with_reducible exact LeO.refl _)
      | (with_reducible exact LeO.none _)
      | (with_reducible refine LeO.ite ?_ ?_)
      | (with_reducible refine LeO.bind ?_ (fun _ => ?_))
      | exact ih0 _ _ _
      | exact ih1 _ _ _
      | exact forebayref20_Check.mono _ _
      | exact forebayref20_Of.mono _ _ _
      | exact LeO.none _
      | refine LeO.ite ?_ ?_
      | refine LeO.bind ?_ (fun _ => ?_)
theorem forebayref20_Clear.mono : ∀ a0 a1 k, LeO (forebayref20_Clear.f k a0 a1) (forebayref20_Clear.f (k + 1) a0 a1) := by
  intro a0 a1 k
  obtain ⟨ih0, ih1⟩ := forebayref20_Clear.mono_l k
  unfold forebayref20_Clear.f
  repeat' first
      | (with_reducible exact ih0 _ _ _)
      | (with_reducible exact ih1 _ _ _)
      | (with_reducible exact forebayref20_Check.mono _ _)
      | (with_reducible exact forebayref20_Of.mono _ _ _)
      | (with_reducible exact LeO.refl _)
      | (with_reducible exact LeO.none _)
      | (with_reducible refine LeO.ite ?_ ?_)
      | (with_reducible refine LeO.bind ?_ (fun _ => ?_))
      | exact ih0 _ _ _
      | exact ih1 _ _ _
      | exact forebayref20_Check.mono _ _
      | exact forebayref20_Of.mono _ _ _
      | exact LeO.none _
      | refine LeO.ite ?_ ?_
      | refine LeO.bind ?_ (fun _ => ?_)
set_option maxHeartbeats 8000000 in
set_option maxRecDepth 100000 in
theorem forebayref20_Clear.calls (k : Nat) (A0 : Option Addr) (c0 : Nat) (l0 : List (S35)) (a1 : Int) (r1 : List (S35)) (r2 : Int) (w : World) (hr0 : Kd.C k35 w A0 l0.length l0) (hc0 : l0.length ≤ c0) (h : forebayref20_Clear.f k l0 a1 = some (r1, r2)) :
    Calls Try.prog 19 #[.slice A0 l0.length c0, .int .i64 a1] w fun e w' => ∃ v0_ : Value, e = .returned (.tuple #[v0_, .int .i64 r2]) ∧ Kd.R k35 35 w' w.heap.size (fun _ => True) v0_ r1 ∧ Below w.heap.size w w' := by
  have HR0 := Aside0.mk hr0
  have HC0 := Aside0.mk hc0
  clear hr0 hc0
  have HB := Aside0.mk (Below.refl w.heap.size w)
  have H : ((forebayref20_Check.f k l0).bind fun t154 => (if t154 = 0 then ((forebayref20_job.f a1).bind fun t155 => (forebayref20_Clear.j0 k l0 a1 (!t155))) else (forebayref20_Clear.j0 k l0 a1 true))) = some (r1, r2) := h
  clear h
  have HC3 := Aside0.mk H
  clear H
  go_enter Try.func19, Try.ntmps19
  go_upto_region 1 with (fail)
  go_cut [15] (fun v15 wc => ∃ (kq : Nat) (x15_2 : Bool), v15 = .bool x15_2 ∧ Aside0 (forebayref20_Clear.j0 kq l0 a1 x15_2 = some (r1, r2)) ∧ Aside0 (kq ≤ k) ∧ Aside0 (Below w.heap.size w wc))
  case first =>
    have H := HC3.out
    clear HC3
    replace H := Option.bind_eq_some_iff.mp H
    obtain ⟨t154, A40, H⟩ := H
    replace H : (if t154 = 0 then ((forebayref20_job.f a1).bind fun t155 => (forebayref20_Clear.j0 k l0 a1 (!t155))) else (forebayref20_Clear.j0 k l0 a1 true)) = some (r1, r2) := H
    have A4 := Aside0.mk A40
    clear A40
    by_cases c5 : t154 = 0
    · rw [if_pos c5] at H
      have c5b0 : (t154 == 0) = true := beq_iff_eq.mpr c5
      have c5b1 : (t154 != 0) = false := bne_eq_false_iff_eq.mpr c5
      clear c5
      (first | rw [c5b0] | (simp only [i64_w, i32_w]; rw [c5b0]) | skip)
      replace H := Option.bind_eq_some_iff.mp H
      obtain ⟨t155, A60, H⟩ := H
      replace H : (forebayref20_Clear.j0 k l0 a1 (!t155)) = some (r1, r2) := H
      have A6 := Aside0.mk A60
      clear A60
      have H' := Aside0.mk H
      clear H
      go_wp2_with (first | ((with_reducible refine gate_callee (f := 20) rfl ?_); refine goesL_ (some 9) rfl rfl Try.func20 (by kernel_rfl) rfl #[.slice A0 l0.length c0] rfl (by (try simp only [List.map_toArray, List.map_cons, List.map_nil]); first | done | rfl | (simp only [List.length_drop, List.length_take]; rfl)) ?_; (with_reducible refine (forebayref20_Check.calls k _ _ l0 t154 _ ?side1 ?side2 A4.out).mono ?_); (case side1 => repeat (first | exact (Kd.C_below HR0.out HB.out) | (with_reducible refine Kd.C_alloc ?_ _) | (with_reducible refine Kd.C_drewN ?_ _) | (with_reducible refine Kd.C_drew ?_))); (case side2 => exact HC0.out); rintro e w' ⟨rfl, ⟨nd, rfl⟩⟩; refine ⟨_, rfl, ?_⟩) | (go_at_call 39; (with_reducible refine (forebayref20_job.calls a1 t155 _ A6.out).mono ?_); rintro e w' ⟨rfl, ⟨nd, rfl⟩⟩))
      go_meet
      case rel => exact ⟨_, (!t155), (by first | rfl | (simp; done) | (simp [*]; done) | (simp; exact isEmpty_bne _)), H', ⟨by first | omega | exact Nat.le_refl _⟩, ⟨by repeat (first | (with_reducible first | exact HB.out | apply below_alloc | apply pw_below_drewN | apply below_drew1) | exact HB.out)⟩⟩
    · rw [if_neg c5] at H
      have c5b0 : (t154 == 0) = false := beq_eq_false_iff_ne.mpr c5
      have c5b1 : (t154 != 0) = true := bne_iff_ne.mpr c5
      (first | rw [c5b0] | (simp only [i64_w, i32_w]; rw [c5b0]) | skip)
      have H' := Aside0.mk H
      clear H
      go_wp2_with (first | ((with_reducible refine gate_callee (f := 20) rfl ?_); refine goesL_ (some 9) rfl rfl Try.func20 (by kernel_rfl) rfl #[.slice A0 l0.length c0] rfl (by (try simp only [List.map_toArray, List.map_cons, List.map_nil]); first | done | rfl | (simp only [List.length_drop, List.length_take]; rfl)) ?_; (with_reducible refine (forebayref20_Check.calls k _ _ l0 t154 _ ?side1 ?side2 A4.out).mono ?_); (case side1 => repeat (first | exact (Kd.C_below HR0.out HB.out) | (with_reducible refine Kd.C_alloc ?_ _) | (with_reducible refine Kd.C_drewN ?_ _) | (with_reducible refine Kd.C_drew ?_))); (case side2 => exact HC0.out); rintro e w' ⟨rfl, ⟨nd, rfl⟩⟩; refine ⟨_, rfl, ?_⟩))
      go_meet
      case rel => exact ⟨_, (true), (by first | rfl | (simp; done) | (simp [*]; done) | (simp; exact isEmpty_bne _)), H', ⟨by first | omega | exact Nat.le_refl _⟩, ⟨by repeat (first | (with_reducible first | exact HB.out | apply below_alloc | apply pw_below_drewN | apply below_drew1) | exact HB.out)⟩⟩
  case rest =>
    clear HC3
    try clear c1
    try clear c2
    try clear p2
    try clear c5
    try clear c5b0
    try clear c5b1
    obtain ⟨kq, x15_2, rfl, HA, HJ2, HB⟩ := hcut
    cases kq with
    | zero => exact absurd HA.out (by simp [forebayref20_Clear.j0])
    | succ kj2 =>
      have H := HA.out
      clear HA
      simp only [forebayref20_Clear.j0] at H
      by_cases c7 : x15_2 = true
      · subst c7
        have H1 : (some (([] : List (S35)), 2)) = some (r1, r2) := by rw [if_pos rfl] at H; exact H
        clear H
        have H := H1
        clear H1
        simp only [Option.some.injEq, Prod.mk.injEq] at H
        obtain ⟨rfl, rfl⟩ := H
        go_wp2
        go_ret2
        exact ⟨_, by first | rfl | (simp [errW_none, errW_some] <;> rfl) | (simp [*, errW_none, errW_some] <;> rfl), by first | exact Kd.R_nil _ _ _ _ _ | exact Kd.N_nil _ _ _ _ _ | exact Kd.V_nil _ _ _ _ _ | exact Kd.Q_nil _ _ _ _ _ | exact Kd.S_nil _ _ _ _ _, by repeat (first | (with_reducible first | exact HB.out | apply below_alloc | apply pw_below_drewN | apply below_drew1) | exact HB.out)⟩
      · replace c7 := Bool.eq_false_iff.mpr c7
        subst c7
        have H1 : ((forebayref20_Of.f kj2 l0 a1).bind fun t156 => (if (t156.length : Int) = 0 then (some (([] : List (S35)), 7)) else ((forebayref20_own.f l0).bind fun t159 => (forebayref20_Clear.l0 kj2 a1 t159 0)))) = some (r1, r2) := by rw [if_neg (show ¬ (false = true) by decide)] at H; exact H
        clear H
        have H := H1
        clear H1
        replace H := Option.bind_eq_some_iff.mp H
        obtain ⟨t156, A80, H⟩ := H
        replace H : (if (t156.length : Int) = 0 then (some (([] : List (S35)), 7)) else ((forebayref20_own.f l0).bind fun t159 => (forebayref20_Clear.l0 kj2 a1 t159 0))) = some (r1, r2) := H
        have A8 := Aside0.mk A80
        clear A80
        by_cases c9 : (t156.length : Int) = 0
        · rw [if_pos c9] at H
          have c9b0 : ((t156.length : Int) == 0) = true := beq_iff_eq.mpr c9
          have c9b1 : ((t156.length : Int) != 0) = false := bne_eq_false_iff_eq.mpr c9
          clear c9
          simp only [Option.some.injEq, Prod.mk.injEq] at H
          obtain ⟨rfl, rfl⟩ := H
          go_wp2_with (first | ((with_reducible refine gate_callee (f := 23) rfl ?_); refine goesL_ (some 18) rfl rfl Try.func23 (by kernel_rfl) rfl #[.slice A0 l0.length c0, .int .i64 a1] rfl (by (try simp only [List.map_toArray, List.map_cons, List.map_nil]); first | done | rfl | (simp only [List.length_drop, List.length_take]; rfl)) ?_; (with_reducible refine (forebayref20_Of.calls kj2 _ _ l0 a1 t156 _ ?side1 ?side2 A8.out).mono ?_); (case side1 => repeat (first | exact (Kd.C_below HR0.out HB.out) | (with_reducible refine Kd.C_alloc ?_ _) | (with_reducible refine Kd.C_drewN ?_ _) | (with_reducible refine Kd.C_drew ?_))); (case side2 => exact HC0.out); rintro e w10 ⟨v157, rfl, ho0, hb⟩; refine ⟨_, rfl, ?_⟩; have n0_ := Aside0.mk (Kd.R_lower ho0 (below_size (by repeat (first | (with_reducible first | exact HB.out | apply below_alloc | apply pw_below_drewN | apply below_drew1) | exact HB.out)))); have n1_ := Aside0.mk (below_step (by repeat (first | (with_reducible first | exact HB.out | apply below_alloc | apply pw_below_drewN | apply below_drew1) | exact HB.out)) hb); clear HB; have HO158 := n0_; have HB := n1_; clear n0_ n1_; (try clear hb); (try clear hb2); (try clear hk); (try clear hi); (try clear ho0); obtain ⟨Ao11, co11, eo11⟩ := Kd.R_slice HO158.out; subst eo11))
          go_ret2
          exact ⟨_, by first | rfl | (simp [errW_none, errW_some] <;> rfl) | (simp [*, errW_none, errW_some] <;> rfl), by first | exact Kd.R_nil _ _ _ _ _ | exact Kd.N_nil _ _ _ _ _ | exact Kd.V_nil _ _ _ _ _ | exact Kd.Q_nil _ _ _ _ _ | exact Kd.S_nil _ _ _ _ _, by repeat (first | (with_reducible first | exact HB.out | apply below_alloc | apply pw_below_drewN | apply below_drew1) | exact HB.out)⟩
        · rw [if_neg c9] at H
          have c9b0 : ((t156.length : Int) == 0) = false := beq_eq_false_iff_ne.mpr c9
          have c9b1 : ((t156.length : Int) != 0) = true := bne_iff_ne.mpr c9
          have c9b2 : ¬ (t156 = []) := fun h_ => c9 (by rw [h_]; rfl)
          replace H := Option.bind_eq_some_iff.mp H
          obtain ⟨t159, A120, H⟩ := H
          replace H : (forebayref20_Clear.l0 kj2 a1 t159 0) = some (r1, r2) := H
          have A12 := Aside0.mk A120
          clear A120
          have H' := Aside0.mk H
          clear H
          go_wp2_with (first | ((with_reducible refine gate_callee (f := 23) rfl ?_); refine goesL_ (some 18) rfl rfl Try.func23 (by kernel_rfl) rfl #[.slice A0 l0.length c0, .int .i64 a1] rfl (by (try simp only [List.map_toArray, List.map_cons, List.map_nil]); first | done | rfl | (simp only [List.length_drop, List.length_take]; rfl)) ?_; (with_reducible refine (forebayref20_Of.calls kj2 _ _ l0 a1 t156 _ ?side1 ?side2 A8.out).mono ?_); (case side1 => repeat (first | exact (Kd.C_below HR0.out HB.out) | (with_reducible refine Kd.C_alloc ?_ _) | (with_reducible refine Kd.C_drewN ?_ _) | (with_reducible refine Kd.C_drew ?_))); (case side2 => exact HC0.out); rintro e w13 ⟨v157, rfl, ho0, hb⟩; refine ⟨_, rfl, ?_⟩; have n0_ := Aside0.mk (Kd.R_lower ho0 (below_size (by repeat (first | (with_reducible first | exact HB.out | apply below_alloc | apply pw_below_drewN | apply below_drew1) | exact HB.out)))); have n1_ := Aside0.mk (below_step (by repeat (first | (with_reducible first | exact HB.out | apply below_alloc | apply pw_below_drewN | apply below_drew1) | exact HB.out)) hb); clear HB; have HO158 := n0_; have HB := n1_; clear n0_ n1_; (try clear hb); (try clear hb2); (try clear hk); (try clear hi); (try clear ho0); obtain ⟨Ao14, co14, eo14⟩ := Kd.R_slice HO158.out; subst eo14) | ((with_reducible refine gate_callee (f := 40) rfl ?_); refine goesL_ (some 22) rfl rfl Try.func40 (by kernel_rfl) rfl #[.slice A0 l0.length c0] rfl (by (try simp only [List.map_toArray, List.map_cons, List.map_nil]); first | done | rfl | (simp only [List.length_drop, List.length_take]; rfl)) ?_; (with_reducible refine (forebayref20_own.calls _ _ l0 t159 _ ?side1 ?side2 A12.out).mono ?_); (case side1 => repeat (first | exact (Kd.C_below HR0.out HB.out) | (with_reducible refine Kd.C_alloc ?_ _) | (with_reducible refine Kd.C_drewN ?_ _) | (with_reducible refine Kd.C_drew ?_))); (case side2 => exact HC0.out); rintro e w15 ⟨v160, rfl, ho0, hb⟩; refine ⟨_, rfl, ?_⟩; have n0_ := Aside0.mk (Kd.R_below (by (with_reducible repeat (first | apply Kd.R_alloc | apply Kd.R_drewN | apply Kd.R_drew)); exact HO158.out) hb); have n1_ := Aside0.mk (Kd.R_lower ho0 (below_size (by repeat (first | (with_reducible first | exact HB.out | apply below_alloc | apply pw_below_drewN | apply below_drew1) | exact HB.out)))); have n2_ := Aside0.mk (below_step (by repeat (first | (with_reducible first | exact HB.out | apply below_alloc | apply pw_below_drewN | apply below_drew1) | exact HB.out)) hb); clear HO158; clear HB; have HO158 := n0_; have HO161 := n1_; have HB := n2_; clear n0_ n1_ n2_; (try clear hb); (try clear hb2); (try clear hk); (try clear hi); (try clear ho0)))
          go_loopg [7] kj2 (fun kq v7 w' => ∃ (x6_2 : List (S35)) (x7_2 : Int), v7 = .int .i64 x7_2 ∧ Aside0 (forebayref20_Clear.l0 kq a1 x6_2 x7_2 = some (r1, r2)) ∧ Aside0 (kq ≤ kj2) ∧ Aside0 (Kd.R k35 35 w' w.heap.size (fun _ => True) v160 x6_2) ∧ Aside0 (Below w.heap.size w w'))
          case atStart => exact ⟨(t159), (0), (by first | rfl | (simp; done) | (simp [*]; done) | (simp; exact isEmpty_bne _)), H', ⟨Nat.le_refl _⟩, ⟨by (with_reducible repeat (first | apply Kd.R_alloc | apply Kd.R_drewN | apply Kd.R_drew)); exact HO161.out⟩, ⟨by repeat (first | (with_reducible first | exact HB.out | apply below_alloc | apply pw_below_drewN | apply below_drew1) | exact HB.out)⟩⟩
          case round =>
            clear H'
            try clear c1
            try clear c2
            try clear p2
            try clear c4
            try clear c5
            try clear c5b0
            try clear c5b1
            try clear c7
            try clear c9
            try clear c9b0
            try clear c9b1
            try clear c9b2
            try clear p2
            obtain ⟨x6_2, x7_2, rfl, HA, HK2, HO_6, HB⟩ := hrel
            cases gk with
            | zero => exact absurd HA.out (by simp [forebayref20_Clear.l0])
            | succ k2 =>
              have H := HA.out
              clear HA
              simp only [forebayref20_Clear.l0] at H
              by_cases c16 : x7_2 < (x6_2.length : Int)
              · rw [if_pos c16] at H
                have c16b0 : decide (x7_2 < (x6_2.length : Int)) = true := decide_eq_true c16
                clear c16
                by_cases c17 : 0 ≤ x7_2
                · rw [if_pos c17] at H
                  have c17b0 : decide (0 ≤ x7_2) = true := decide_eq_true c17
                  clear c17
                  by_cases c18 : ((rd_T35 x6_2 x7_2).f2) = a1
                  · rw [if_pos c18] at H
                    have c18b0 : (((rd_T35 x6_2 x7_2).f2) == a1) = true := beq_iff_eq.mpr c18
                    have c18b1 : (((rd_T35 x6_2 x7_2).f2) != a1) = false := bne_eq_false_iff_eq.mpr c18
                    clear c18
                    obtain ⟨y163, hy163⟩ : ∃ y_ : List (S35), y_ = (x6_2.set (x7_2 : Int).toNat (⟨(rd_T35 x6_2 x7_2).f0, (rd_T35 x6_2 x7_2).f1, 0⟩ : S35)) := ⟨_, rfl⟩
                    replace H : (forebayref20_Clear.l0 k2 a1 y163 (wrap64 (x7_2 + 1))) = some (r1, r2) := by first | (rw [hy163]; with_reducible exact H) | (have H2_ := (Option.bind_some _ _).symm.trans H; rw [hy163]; with_reducible exact H2_) | (have H2_ := (Option.bind_some _ _).symm.trans H; with_reducible exact H2_) | with_reducible exact H | (rw [hy163]; exact H) | exact H
                    have Ny163 := Aside0.mk hy163
                    clear hy163
                    have H' := Aside0.mk H
                    clear H
                    obtain ⟨Ao20, co20, eo20⟩ := Kd.R_slice HO_6.out
                    subst eo20
                    have p162 : 0 ≤ (x7_2 : Int) := of_decide_eq_true (by first | (with_reducible assumption) | assumption)
                    have q162 : x7_2 < (x6_2.length : Int) := of_decide_eq_true (by first | (with_reducible assumption) | assumption)
                    obtain ⟨ad162, e162, hx162_0, hx162_1, hx162_2⟩ := at_T35 (Kd.R_reads' HO_6.out).2.2 x7_2 p162 q162
                    cases e162
                    replace p162 := eq_true p162
                    replace q162 := eq_true q162
                    have p19 : 0 ≤ (x7_2 : Int) := of_decide_eq_true (by first | (with_reducible assumption) | assumption)
                    have q19 : (x7_2 : Int) < ((x6_2.length : Int) : Int) := of_decide_eq_true (by first | (with_reducible assumption) | assumption)
                    obtain ⟨go19, co19, eo19, gb19, gl19, cl19, HG19⟩ := Kd.R_form HO_6.out (by omega)
                    (first | cases eo19 | (injection eo19 with ea_ en_ ec_; (first | subst ea_ | (injection ea_ with ea_; subst ea_)); subst ec_; clear en_))
                    have GB19 := Aside0.mk gb19
                    have GG19 := Aside0.mk HG19
                    clear gb19 gl19 HG19
                    (first | simp only [add_plain] at hx162_0 | skip)
                    (first | simp only [add_plain] at hx162_1 | skip)
                    (first | simp only [add_plain] at hx162_2 | skip)
                    obtain ⟨ce19, hcl19, hM19, hcc19, hfr19⟩ := Kd.R_elem HO_6.out z35 (x7_2 : Int) p19 q19
                    obtain rfl := k35_openM hM19
                    have hx19_0 : wr.cell? ⟨go19, (x7_2 : Int).toNat * 3, none⟩ = some (.bool ((rd_T35 x6_2 x7_2).f0)) := hcc19 0 _ rfl
                    have hx19_1 : wr.cell? ⟨go19, (x7_2 : Int).toNat * 3 + 1, none⟩ = some (.bool ((rd_T35 x6_2 x7_2).f1)) := hcc19 1 _ rfl
                    have hx19_2 : wr.cell? ⟨go19, (x7_2 : Int).toNat * 3 + 2, none⟩ = some (.int .i64 ((rd_T35 x6_2 x7_2).f2)) := hcc19 2 _ rfl
                    have hf19_0 : wr.frozen? ⟨go19, (x7_2 : Int).toNat * 3, none⟩ = false := hfr19 0
                    have hf19_1 : wr.frozen? ⟨go19, (x7_2 : Int).toNat * 3 + 1, none⟩ = false := hfr19 1
                    have hf19_2 : wr.frozen? ⟨go19, (x7_2 : Int).toNat * 3 + 2, none⟩ = false := hfr19 2
                    clear hcl19 hcc19 hfr19 hM19
                    replace p19 := eq_true p19
                    replace q19 := eq_true q19
                    have HX21 := Aside0.mk (show Kd.R k35 35 wr w.heap.size (fun _ => True) (.slice (some ⟨go19, 0, none⟩) x6_2.length co20) x6_2 from (by (with_reducible repeat (first | apply Kd.R_alloc | apply Kd.R_drewN | apply Kd.R_drew)); exact HO_6.out))
                    obtain ⟨ce21, hcl21, hM21, hcc21, hfr21⟩ := Kd.R_elem HX21.out z35 (x7_2 : Int) (of_decide_eq_true (by first | (with_reducible assumption) | assumption)) (by have h_ : (x7_2 : Int) < ((x6_2.length : Int) : Int) := of_decide_eq_true (by first | (with_reducible assumption) | assumption); first | exact h_ | (have e_ := (Kd.R_reads' HO_6.out).1; omega) | simpa using h_)
                    obtain rfl := k35_openM hM21
                    have HP21 := Kd.R_seg HX21.out (x7_2 : Int) (of_decide_eq_true (by first | (with_reducible assumption) | assumption)) (by have h_ : (x7_2 : Int) < ((x6_2.length : Int) : Int) := of_decide_eq_true (by first | (with_reducible assumption) | assumption); first | exact h_ | (have e_ := (Kd.R_reads' HO_6.out).1; omega) | simpa using h_) (seg := [.int .i64 0]) (j := 2) hcl21 hcc21 (show 3 ≤ 3 from by decide) (x' := (⟨(rd_T35 x6_2 x7_2).f0, (rd_T35 x6_2 x7_2).f1, 0⟩ : S35)) (k35_mkM _ _ _ (⟨(rd_T35 x6_2 x7_2).f0, (rd_T35 x6_2 x7_2).f1, 0⟩ : S35) ) (fun _ hk => hk)
                    have hx21_2 := hcc21 2 _ rfl
                    (try simp only [show (k35).sz = 3 from rfl, Nat.mul_one, Nat.add_zero] at hx21_2)
                    have hf21_2 := hfr21 2
                    (try simp only [show (k35).sz = 3 from rfl, Nat.mul_one, Nat.add_zero] at hf21_2)
                    clear hcl21 hcc21 hfr21 hM21
                    go_wp2_with (first | ((with_reducible refine gate_store (t := 2) (p := 39) rfl ?_); refine store_event (t := 2) (p := 39) (v := ?vo_w22) (w1 := (wr.setCell ⟨go19, (x7_2 : Int).toNat * 3 + 2, none⟩ (.int .i64 0))) ?hg ?ho ?hn ?hr ?_; (case ho => rfl); (case hg => rfl); (case hn => rfl); (case hr => first | (go_simp; done) | (go_simp; rfl)); intro w22 hw; have hg : wr.grownBy w22 (some go19) := (by rw [hw]; exact HP21.2); have hp_ : Kd.R k35 35 w22 w.heap.size (fun _ => True) (.slice (some ⟨go19, 0, none⟩) x6_2.length co20) y163 := (by rw [hw, Ny163.out]; exact HP21.1); clear HP21; have n0_ := Aside0.mk (hp_); have n1_ := Aside0.mk ((by rw [hw]; exact below_set (HB.out) GB19.out : Below w.heap.size w w22)); clear HO_6; clear HB; have HO_6 := n0_; have HB := n1_; clear n0_ n1_; clear hg hw hp_))
                    go_roundg k2
                    case measure => have := HJ2.out; have := HK2.out; omega
                    case rel => exact ⟨(y163), (wrap64 (x7_2 + 1)), (by first | rfl | (simp; done) | (simp [*]; done) | (simp; exact isEmpty_bne _)), H', ⟨by have := HJ2.out; have := HK2.out; omega⟩, ⟨by (with_reducible repeat (first | apply Kd.R_alloc | apply Kd.R_drewN | apply Kd.R_drew)); exact HO_6.out⟩, ⟨by repeat (first | (with_reducible first | exact HB.out | apply below_alloc | apply pw_below_drewN | apply below_drew1) | exact HB.out)⟩⟩
                  · rw [if_neg c18] at H
                    have c18b0 : (((rd_T35 x6_2 x7_2).f2) == a1) = false := beq_eq_false_iff_ne.mpr c18
                    have c18b1 : (((rd_T35 x6_2 x7_2).f2) != a1) = true := bne_iff_ne.mpr c18
                    have H' := Aside0.mk H
                    clear H
                    obtain ⟨Ao23, co23, eo23⟩ := Kd.R_slice HO_6.out
                    subst eo23
                    have p162 : 0 ≤ (x7_2 : Int) := of_decide_eq_true (by first | (with_reducible assumption) | assumption)
                    have q162 : x7_2 < (x6_2.length : Int) := of_decide_eq_true (by first | (with_reducible assumption) | assumption)
                    obtain ⟨ad162, e162, hx162_0, hx162_1, hx162_2⟩ := at_T35 (Kd.R_reads' HO_6.out).2.2 x7_2 p162 q162
                    cases e162
                    replace p162 := eq_true p162
                    replace q162 := eq_true q162
                    go_wp2
                    go_roundg k2
                    case measure => have := HJ2.out; have := HK2.out; omega
                    case rel => exact ⟨(x6_2), (wrap64 (x7_2 + 1)), (by first | rfl | (simp; done) | (simp [*]; done) | (simp; exact isEmpty_bne _)), H', ⟨by have := HJ2.out; have := HK2.out; omega⟩, ⟨by (with_reducible repeat (first | apply Kd.R_alloc | apply Kd.R_drewN | apply Kd.R_drew)); exact HO_6.out⟩, ⟨by repeat (first | (with_reducible first | exact HB.out | apply below_alloc | apply pw_below_drewN | apply below_drew1) | exact HB.out)⟩⟩
                · rw [if_neg c17] at H
                  exact absurd H (by simp)
              · rw [if_neg c16] at H
                have c16b0 : decide (x7_2 < (x6_2.length : Int)) = false := decide_eq_false c16
                clear c16
                simp only [Option.some.injEq, Prod.mk.injEq] at H
                obtain ⟨rfl, rfl⟩ := H
                obtain ⟨Ao24, co24, eo24⟩ := Kd.R_slice HO_6.out
                subst eo24
                go_wp2
                go_ret2
                exact ⟨_, by first | rfl | (simp [errW_none, errW_some] <;> rfl) | (simp [*, errW_none, errW_some] <;> rfl), by (with_reducible repeat (first | apply Kd.R_alloc | apply Kd.R_drewN | apply Kd.R_drew)); exact HO_6.out, by repeat (first | (with_reducible first | exact HB.out | apply below_alloc | apply pw_below_drewN | apply below_drew1) | exact HB.out)⟩

/-! ### forebayref20_Usable: function 21 -/
mutual
def forebayref20_Usable.l0 : Nat → List (S35) → Int → Int → Option (Int)
  | 0, _, _, _ => none
  | k + 1, x0, x3, x4 => if x4 < (x0.length : Int) then ((forebayref20_Check.f k x0).bind fun t164 => (forebayref20_Usable.j1 k x0 x3 x4 (t164 == 0))) else (forebayref20_Usable.j1 k x0 x3 x4 false)
def forebayref20_Usable.j1 : Nat → List (S35) → Int → Int → Bool → Option (Int)
  | 0, _, _, _, _ => none
  | k + 1, x0, x3, x4, x13 => if x13 = true then (if 0 ≤ x4 then (if x4 < (x0.length : Int) then (if (rd_T35 x0 x4).f0 = true then (if (rd_T35 x0 x4).f1 = true then (forebayref20_Usable.l0 k x0 (wrap64 (x3 + 1)) (wrap64 (x4 + 1))) else (forebayref20_Usable.l0 k x0 x3 (wrap64 (x4 + 1)))) else (forebayref20_Usable.l0 k x0 x3 (wrap64 (x4 + 1)))) else (none)) else (none)) else (some x3)
end
def forebayref20_Usable.f (k : Nat) (l0 : List (S35)) : Option (Int) := forebayref20_Usable.l0 k l0 0 0
theorem forebayref20_Usable.mono_l : ∀ k, (∀ y0 y1 y2, LeO (forebayref20_Usable.l0 k y0 y1 y2) (forebayref20_Usable.l0 (k + 1) y0 y1 y2)) ∧ (∀ y0 y1 y2 y3, LeO (forebayref20_Usable.j1 k y0 y1 y2 y3) (forebayref20_Usable.j1 (k + 1) y0 y1 y2 y3))
  | 0 => ⟨fun _ _ _ r h => by simp [forebayref20_Usable.l0] at h, fun _ _ _ _ r h => by simp [forebayref20_Usable.j1] at h⟩
  | k + 1 => by
    obtain ⟨ih0, ih1⟩ := forebayref20_Usable.mono_l k
    refine ⟨?_, ?_⟩
    · intro y0 y1 y2
      unfold forebayref20_Usable.l0
      repeat' first
      | (with_reducible exact ih0 _ _ _)
      | (with_reducible exact ih1 _ _ _ _)
      | (with_reducible exact forebayref20_Check.mono _ _)
      | (with_reducible exact LeO.refl _)
      | (with_reducible exact LeO.none _)
      | (with_reducible refine LeO.ite ?_ ?_)
      | (with_reducible refine LeO.bind ?_ (fun _ => ?_))
      | exact ih0 _ _ _
      | exact ih1 _ _ _ _
      | exact forebayref20_Check.mono _ _
      | exact LeO.none _
      | refine LeO.ite ?_ ?_
      | refine LeO.bind ?_ (fun _ => ?_)
    · intro y0 y1 y2 y3
      unfold forebayref20_Usable.j1
      repeat' first
      | (with_reducible exact ih0 _ _ _)
      | (with_reducible exact ih1 _ _ _ _)
      | (with_reducible exact forebayref20_Check.mono _ _)
      | (with_reducible exact LeO.refl _)
      | (with_reducible exact LeO.none _)
      | (with_reducible refine LeO.ite ?_ ?_)
      | (with_reducible refine LeO.bind ?_ (fun _ => ?_))
      | exact ih0 _ _ _
      | exact ih1 _ _ _ _
      | exact forebayref20_Check.mono _ _
      | exact LeO.none _
      | refine LeO.ite ?_ ?_
      | refine LeO.bind ?_ (fun _ => ?_)
theorem forebayref20_Usable.mono : ∀ a0 k, LeO (forebayref20_Usable.f k a0) (forebayref20_Usable.f (k + 1) a0) := by
  intro a0 k
  obtain ⟨ih0, ih1⟩ := forebayref20_Usable.mono_l k
  unfold forebayref20_Usable.f
  repeat' first
      | (with_reducible exact ih0 _ _ _)
      | (with_reducible exact ih1 _ _ _ _)
      | (with_reducible exact forebayref20_Check.mono _ _)
      | (with_reducible exact LeO.refl _)
      | (with_reducible exact LeO.none _)
      | (with_reducible refine LeO.ite ?_ ?_)
      | (with_reducible refine LeO.bind ?_ (fun _ => ?_))
      | exact ih0 _ _ _
      | exact ih1 _ _ _ _
      | exact forebayref20_Check.mono _ _
      | exact LeO.none _
      | refine LeO.ite ?_ ?_
      | refine LeO.bind ?_ (fun _ => ?_)
set_option maxHeartbeats 8000000 in
set_option maxRecDepth 100000 in
theorem forebayref20_Usable.calls (k : Nat) (A0 : Option Addr) (c0 : Nat) (l0 : List (S35)) (r : Int) (w : World) (hr0 : Kd.C k35 w A0 l0.length l0) (hc0 : l0.length ≤ c0) (h : forebayref20_Usable.f k l0 = some r) :
    Calls Try.prog 21 #[.slice A0 l0.length c0] w fun e w' => e = .returned (.int .i64 r) ∧ Drawn0 w w' := by
  have HR0 := Aside0.mk hr0
  have HC0 := Aside0.mk hc0
  clear hr0 hc0
  have H : (forebayref20_Usable.l0 k l0 0 0) = some r := h
  clear h
  have H' := Aside0.mk H
  clear H
  go_enter Try.func21, Try.ntmps21
  go_wp2
  go_loopg [3, 4] k (fun kq v3 v4 w' => ∃ (x3_1 : Int) (x4_1 : Int), v3 = .int .i64 x3_1 ∧ v4 = .int .i64 x4_1 ∧ Aside0 (forebayref20_Usable.l0 kq l0 x3_1 x4_1 = some r) ∧ Aside0 (kq ≤ k) ∧ Drawn0 w w')
  case atStart => exact ⟨(0), (0), (by first | rfl | (simp; done) | (simp [*]; done) | (simp; exact isEmpty_bne _)), (by first | rfl | (simp; done) | (simp [*]; done) | (simp; exact isEmpty_bne _)), H', ⟨Nat.le_refl _⟩, by repeat (first | exact Drawn0.refl _ | apply Drawn0.step)⟩
  case round =>
    clear H'
    obtain ⟨x3_1, x4_1, rfl, rfl, HA, HK1, ⟨m1, rfl⟩⟩ := hrel
    cases gk with
    | zero => exact absurd HA.out (by simp [forebayref20_Usable.l0])
    | succ k1 =>
      have H := HA.out
      clear HA
      simp only [forebayref20_Usable.l0] at H
      have HC2 := Aside0.mk H
      clear H
      go_upto_region 3 with (fail)
      go_cut [13] (fun v13 wc => ∃ (kq : Nat) (x13_1 : Bool), v13 = .bool x13_1 ∧ Aside0 (forebayref20_Usable.j1 kq l0 x3_1 x4_1 x13_1 = some r) ∧ Aside0 (kq ≤ k1) ∧ Drawn0 w wc)
      case first =>
        have H := HC2.out
        clear HC2
        by_cases c3 : x4_1 < (l0.length : Int)
        · rw [if_pos c3] at H
          have c3b0 : decide (x4_1 < (l0.length : Int)) = true := decide_eq_true c3
          clear c3
          (first | rw [c3b0] | (simp only [i64_w, i32_w]; rw [c3b0]) | skip)
          replace H := Option.bind_eq_some_iff.mp H
          obtain ⟨t164, A40, H⟩ := H
          replace H : (forebayref20_Usable.j1 k1 l0 x3_1 x4_1 (t164 == 0)) = some r := H
          have A4 := Aside0.mk A40
          clear A40
          have H' := Aside0.mk H
          clear H
          go_wp2_with (first | (go_at_call 20; (with_reducible refine (forebayref20_Check.calls k1 _ _ l0 t164 _ ?side1 ?side2 A4.out).mono ?_); (case side1 => repeat (first | exact HR0.out | (with_reducible refine Kd.C_alloc ?_ _) | (with_reducible refine Kd.C_drewN ?_ _) | (with_reducible refine Kd.C_drew ?_))); (case side2 => exact HC0.out); rintro e w' ⟨rfl, ⟨nd, rfl⟩⟩))
          go_meet
          case rel => exact ⟨_, ((t164 == 0)), (by first | rfl | (simp; done) | (simp [*]; done) | (simp; exact isEmpty_bne _)), H', ⟨by have := HK1.out; first | omega | exact Nat.le_refl _⟩, by repeat (first | exact Drawn0.refl _ | apply Drawn0.step)⟩
        · rw [if_neg c3] at H
          have c3b0 : decide (x4_1 < (l0.length : Int)) = false := decide_eq_false c3
          clear c3
          (first | rw [c3b0] | (simp only [i64_w, i32_w]; rw [c3b0]) | skip)
          have H' := Aside0.mk H
          clear H
          go_wp2
          go_meet
          case rel => exact ⟨_, (false), (by first | rfl | (simp; done) | (simp [*]; done) | (simp; exact isEmpty_bne _)), H', ⟨by have := HK1.out; first | omega | exact Nat.le_refl _⟩, by repeat (first | exact Drawn0.refl _ | apply Drawn0.step)⟩
      case rest =>
        clear HC2
        try clear c2
        try clear p2
        try clear c3
        try clear c3b0
        obtain ⟨kq, x13_1, rfl, HA, HJ1, ⟨mc1, rfl⟩⟩ := hcut
        cases kq with
        | zero => exact absurd HA.out (by simp [forebayref20_Usable.j1])
        | succ kj1 =>
          have H := HA.out
          clear HA
          simp only [forebayref20_Usable.j1] at H
          by_cases c5 : x13_1 = true
          · subst c5
            have H1 : (if 0 ≤ x4_1 then (if x4_1 < (l0.length : Int) then (if (rd_T35 l0 x4_1).f0 = true then (if (rd_T35 l0 x4_1).f1 = true then (forebayref20_Usable.l0 kj1 l0 (wrap64 (x3_1 + 1)) (wrap64 (x4_1 + 1))) else (forebayref20_Usable.l0 kj1 l0 x3_1 (wrap64 (x4_1 + 1)))) else (forebayref20_Usable.l0 kj1 l0 x3_1 (wrap64 (x4_1 + 1)))) else (none)) else (none)) = some r := by rw [if_pos rfl] at H; exact H
            clear H
            have H := H1
            clear H1
            by_cases c6 : 0 ≤ x4_1
            · rw [if_pos c6] at H
              have c6b0 : decide (0 ≤ x4_1) = true := decide_eq_true c6
              clear c6
              by_cases c7 : x4_1 < (l0.length : Int)
              · rw [if_pos c7] at H
                have c7b0 : decide (x4_1 < (l0.length : Int)) = true := decide_eq_true c7
                clear c7
                obtain ⟨bq8, hbq8⟩ : ∃ b_ : Bool, b_ = ((rd_T35 l0 x4_1).f0) := ⟨_, rfl⟩
                replace H : (if bq8 = true then (if (rd_T35 l0 x4_1).f1 = true then (forebayref20_Usable.l0 kj1 l0 (wrap64 (x3_1 + 1)) (wrap64 (x4_1 + 1))) else (forebayref20_Usable.l0 kj1 l0 x3_1 (wrap64 (x4_1 + 1)))) else (forebayref20_Usable.l0 kj1 l0 x3_1 (wrap64 (x4_1 + 1)))) = some r := by rw [← hbq8] at H; exact H
                have Nbq8 := Aside0.mk hbq8
                clear hbq8
                by_cases c9 : bq8 = true
                · subst c9
                  have H1 : (if (rd_T35 l0 x4_1).f1 = true then (forebayref20_Usable.l0 kj1 l0 (wrap64 (x3_1 + 1)) (wrap64 (x4_1 + 1))) else (forebayref20_Usable.l0 kj1 l0 x3_1 (wrap64 (x4_1 + 1)))) = some r := by rw [if_pos rfl] at H; exact H
                  clear H
                  have H := H1
                  clear H1
                  obtain ⟨bq10, hbq10⟩ : ∃ b_ : Bool, b_ = ((rd_T35 l0 x4_1).f1) := ⟨_, rfl⟩
                  replace H : (if bq10 = true then (forebayref20_Usable.l0 kj1 l0 (wrap64 (x3_1 + 1)) (wrap64 (x4_1 + 1))) else (forebayref20_Usable.l0 kj1 l0 x3_1 (wrap64 (x4_1 + 1)))) = some r := by rw [← hbq10] at H; exact H
                  have Nbq10 := Aside0.mk hbq10
                  clear hbq10
                  by_cases c11 : bq10 = true
                  · subst c11
                    have H1 : (forebayref20_Usable.l0 kj1 l0 (wrap64 (x3_1 + 1)) (wrap64 (x4_1 + 1))) = some r := by rw [if_pos rfl] at H; exact H
                    clear H
                    have H := H1
                    clear H1
                    have H' := Aside0.mk H
                    clear H
                    have p165 : 0 ≤ (x4_1 : Int) := of_decide_eq_true (by first | (with_reducible assumption) | assumption)
                    have q165 : x4_1 < (l0.length : Int) := of_decide_eq_true (by first | (with_reducible assumption) | assumption)
                    obtain ⟨ad165, e165, hx165_0, hx165_1, hx165_2⟩ := at_T35 HR0.out x4_1 p165 q165
                    (try rw [← Nbq8.out] at hx165_0)
                    (try rw [← Nbq10.out] at hx165_0)
                    (try rw [← Nbq8.out] at hx165_1)
                    (try rw [← Nbq10.out] at hx165_1)
                    cases e165
                    replace p165 := eq_true p165
                    replace q165 := eq_true q165
                    have p166 : 0 ≤ (x4_1 : Int) := of_decide_eq_true (by first | (with_reducible assumption) | assumption)
                    have q166 : x4_1 < (l0.length : Int) := of_decide_eq_true (by first | (with_reducible assumption) | assumption)
                    obtain ⟨ad166, e166, hx166_0, hx166_1, hx166_2⟩ := at_T35 HR0.out x4_1 p166 q166
                    (try rw [← Nbq8.out] at hx166_0)
                    (try rw [← Nbq10.out] at hx166_0)
                    (try rw [← Nbq8.out] at hx166_1)
                    (try rw [← Nbq10.out] at hx166_1)
                    obtain rfl : ad165 = ad166 := (by injection e166)
                    replace p166 := eq_true p166
                    replace q166 := eq_true q166
                    go_wp2
                    go_roundg kj1
                    case measure => have := HK1.out; have := HJ1.out; omega
                    case rel => exact ⟨(wrap64 (x3_1 + 1)), (wrap64 (x4_1 + 1)), (by first | rfl | (simp; done) | (simp [*]; done) | (simp; exact isEmpty_bne _)), (by first | rfl | (simp; done) | (simp [*]; done) | (simp; exact isEmpty_bne _)), H', ⟨by have := HK1.out; have := HJ1.out; omega⟩, by repeat (first | exact Drawn0.refl _ | apply Drawn0.step)⟩
                  · replace c11 := Bool.eq_false_iff.mpr c11
                    subst c11
                    have H1 : (forebayref20_Usable.l0 kj1 l0 x3_1 (wrap64 (x4_1 + 1))) = some r := by rw [if_neg (show ¬ (false = true) by decide)] at H; exact H
                    clear H
                    have H := H1
                    clear H1
                    have H' := Aside0.mk H
                    clear H
                    have p165 : 0 ≤ (x4_1 : Int) := of_decide_eq_true (by first | (with_reducible assumption) | assumption)
                    have q165 : x4_1 < (l0.length : Int) := of_decide_eq_true (by first | (with_reducible assumption) | assumption)
                    obtain ⟨ad165, e165, hx165_0, hx165_1, hx165_2⟩ := at_T35 HR0.out x4_1 p165 q165
                    (try rw [← Nbq8.out] at hx165_0)
                    (try rw [← Nbq10.out] at hx165_0)
                    (try rw [← Nbq8.out] at hx165_1)
                    (try rw [← Nbq10.out] at hx165_1)
                    cases e165
                    replace p165 := eq_true p165
                    replace q165 := eq_true q165
                    have p166 : 0 ≤ (x4_1 : Int) := of_decide_eq_true (by first | (with_reducible assumption) | assumption)
                    have q166 : x4_1 < (l0.length : Int) := of_decide_eq_true (by first | (with_reducible assumption) | assumption)
                    obtain ⟨ad166, e166, hx166_0, hx166_1, hx166_2⟩ := at_T35 HR0.out x4_1 p166 q166
                    (try rw [← Nbq8.out] at hx166_0)
                    (try rw [← Nbq10.out] at hx166_0)
                    (try rw [← Nbq8.out] at hx166_1)
                    (try rw [← Nbq10.out] at hx166_1)
                    obtain rfl : ad165 = ad166 := (by injection e166)
                    replace p166 := eq_true p166
                    replace q166 := eq_true q166
                    go_wp2
                    go_roundg kj1
                    case measure => have := HK1.out; have := HJ1.out; omega
                    case rel => exact ⟨(x3_1), (wrap64 (x4_1 + 1)), (by first | rfl | (simp; done) | (simp [*]; done) | (simp; exact isEmpty_bne _)), (by first | rfl | (simp; done) | (simp [*]; done) | (simp; exact isEmpty_bne _)), H', ⟨by have := HK1.out; have := HJ1.out; omega⟩, by repeat (first | exact Drawn0.refl _ | apply Drawn0.step)⟩
                · replace c9 := Bool.eq_false_iff.mpr c9
                  subst c9
                  have H1 : (forebayref20_Usable.l0 kj1 l0 x3_1 (wrap64 (x4_1 + 1))) = some r := by rw [if_neg (show ¬ (false = true) by decide)] at H; exact H
                  clear H
                  have H := H1
                  clear H1
                  have H' := Aside0.mk H
                  clear H
                  have p165 : 0 ≤ (x4_1 : Int) := of_decide_eq_true (by first | (with_reducible assumption) | assumption)
                  have q165 : x4_1 < (l0.length : Int) := of_decide_eq_true (by first | (with_reducible assumption) | assumption)
                  obtain ⟨ad165, e165, hx165_0, hx165_1, hx165_2⟩ := at_T35 HR0.out x4_1 p165 q165
                  (try rw [← Nbq8.out] at hx165_0)
                  (try rw [← Nbq8.out] at hx165_1)
                  cases e165
                  replace p165 := eq_true p165
                  replace q165 := eq_true q165
                  go_wp2
                  go_roundg kj1
                  case measure => have := HK1.out; have := HJ1.out; omega
                  case rel => exact ⟨(x3_1), (wrap64 (x4_1 + 1)), (by first | rfl | (simp; done) | (simp [*]; done) | (simp; exact isEmpty_bne _)), (by first | rfl | (simp; done) | (simp [*]; done) | (simp; exact isEmpty_bne _)), H', ⟨by have := HK1.out; have := HJ1.out; omega⟩, by repeat (first | exact Drawn0.refl _ | apply Drawn0.step)⟩
              · rw [if_neg c7] at H
                exact absurd H (by simp)
            · rw [if_neg c6] at H
              exact absurd H (by simp)
          · replace c5 := Bool.eq_false_iff.mpr c5
            subst c5
            have H1 : (some x3_1) = some r := by rw [if_neg (show ¬ (false = true) by decide)] at H; exact H
            clear H
            have H := H1
            clear H1
            obtain rfl := Option.some.inj H
            go_wp2
            go_ret
            exact ⟨by first | rfl | (simp; done) | (simp [*]; done), by repeat (first | exact Drawn0.refl _ | apply Drawn0.step)⟩

/-! ### forebayref20_Turn: function 24 -/
/-- What the document says of one node's turn. -/
def refNo (x : S35) (what : Int) : Bool := (what == 0 && !x.f0) || (what == 1 && x.f0) || (what == 2 && x.f1) || (what == 3 && !x.f1)
def refDo (x : S35) (what : Int) : S35 := if what = 0 then ⟨false, x.f1, 0⟩ else if what = 1 then ⟨true, x.f1, x.f2⟩ else if what = 2 then ⟨x.f0, true, x.f2⟩ else if what = 3 then ⟨x.f0, false, x.f2⟩ else x
def refTurn (l : List S35) (i what : Int) : List S35 × Int × Int :=
  if okNodes l then (if 0 ≤ i ∧ i < (l.length : Int) then (if refNo (l.getD i.toNat z35) what then ([], 0, 8) else (l.set i.toNat (refDo (l.getD i.toNat z35) what), (if what = 0 then (l.getD i.toNat z35).f2 else 0), 0)) else ([], 0, 200)) else ([], 0, 2)
def forebayref20_Turn.f (l : List S35) (i what : Int) : Option (List S35 × Int × Int) := some (refTurn l i what)
theorem refJob_eq (n : Int) : forebayref20_job.f n = some (decide (1 ≤ n ∧ n ≤ 1073741824)) := by
  unfold forebayref20_job.f
  by_cases h1 : 1 ≤ n <;> by_cases h2 : n ≤ 1073741824 <;> simp [h1, h2]
theorem refBad (x : S35) : badN x = (x.f2 != 0 && !(decide (1 ≤ x.f2 ∧ x.f2 ≤ 1073741824) && x.f0)) := by
  obtain ⟨a, b, c⟩ := x
  unfold badN
  by_cases h0 : c = 0
  · subst h0; cases a <;> rfl
  by_cases h1 : c < 0
  · have : ¬ (1 ≤ c ∧ c ≤ 1073741824) := by omega
    simp [h1, this, h0]
  by_cases h2 : 1073741824 < c
  · have : ¬ (1 ≤ c ∧ c ≤ 1073741824) := by omega
    simp [h1, h2, this, h0]
  have : 1 ≤ c ∧ c ≤ 1073741824 := by omega
  cases a <;> simp [h1, h2, this, h0]
theorem refCheck_l0 (l : List S35) (hl : l.length ≤ 64) (e : Nat) : ∀ d i, i + d = l.length → forebayref20_Check.l0 (d + 1 + e) l (i : Int) = some (if (l.drop i).any badN then 2 else 0)
  | 0, i, h => by
    rw [show 0 + 1 + e = e + 1 by omega, forebayref20_Check.l0, if_neg (by omega), List.drop_of_length_le (by omega)]; rfl
  | d + 1, i, h => by
    have hlt : i < l.length := by omega
    have er : rd_T35 l (i : Int) = l[i] := by simp [rd_T35, List.getD_eq_getElem?_getD, List.getElem?_eq_getElem hlt]
    rw [show d + 1 + 1 + e = (d + 1 + e) + 1 by omega, forebayref20_Check.l0, if_pos (by omega), if_pos (by omega), er, show wrap64 ((i : Int) + 1) = ((i + 1 : Nat) : Int) by unfold wrap64; omega, refCheck_l0 l hl e d (i + 1) (by omega), List.drop_eq_getElem_cons hlt, List.any_cons, refBad l[i], refJob_eq]
    by_cases h0 : l[i].f2 = 0
    · rw [if_pos h0, h0]; rfl
    · rw [if_neg h0, Option.bind_some]
      have hb : (l[i].f2 != 0) = true := by simpa using h0
      rw [hb, Bool.true_and]
      by_cases h1 : 1 ≤ l[i].f2 ∧ l[i].f2 ≤ 1073741824
      · rw [decide_eq_true h1, if_pos rfl, Bool.true_and]
        cases l[i].f0 <;> rfl
      · rw [decide_eq_false h1]; rfl
theorem refCheck_eq (l : List S35) (e : Nat) : forebayref20_Check.f (70 + e) l = some (if okNodes l then 0 else 2) := by
  unfold forebayref20_Check.f okNodes
  by_cases h1 : l.length < 1
  · rw [if_pos (by omega), decide_eq_false (by omega), show 70 + e = (69 + e) + 1 by omega, forebayref20_Check.j0]; rfl
  by_cases h2 : 64 < l.length
  · rw [if_neg (by omega), decide_eq_true (show (l.length : Int) > 64 by omega), decide_eq_false (show ¬ (1 ≤ l.length ∧ l.length ≤ 64) by omega), show 70 + e = (69 + e) + 1 by omega, forebayref20_Check.j0]; rfl
  · rw [if_neg (by omega), decide_eq_false (show ¬ (l.length : Int) > 64 by omega), decide_eq_true (show 1 ≤ l.length ∧ l.length ≤ 64 by omega), show 70 + e = (69 + e) + 1 by omega, forebayref20_Check.j0, if_neg (by simp), show 69 + e = l.length + 1 + (68 - l.length + e) by omega]
    have := refCheck_l0 l (by omega) (68 - l.length + e) l.length 0 (by omega)
    rw [List.drop_zero] at this
    refine this.trans ?_
    cases l.any badN <;> rfl
theorem refOwn_eq (l : List S35) (h : l.length ≤ 64) : forebayref20_own.f l = some l := by
  unfold forebayref20_own.f
  rw [Option.bind_some, if_pos (by simp; omega)]; rfl
theorem node_put3 {W : World} {base g n cap : Nat} {xs : List S35} (h : NodeRow W base g n cap xs) (i : Nat) (hi : i < xs.length) (x' : S35) :
    NodeRow (((W.setCell ⟨g, i * 3, none⟩ (.bool x'.f0)).setCell ⟨g, i * 3 + 1, none⟩ (.bool x'.f1)).setCell ⟨g, i * 3 + 2, none⟩ (.int .i64 x'.f2)) base g n cap (xs.set i x') := by
  have g1 : ∀ y, (xs.set i y).getD i z35 = y := fun y => by rw [List.getD_eq_getElem?_getD, List.getElem?_set_self hi]; rfl
  have h1 := node_put h i 0 hi (by decide) (.bool x'.f0) ⟨x'.f0, (xs.getD i z35).f1, (xs.getD i z35).f2⟩ rfl
  have h2 := node_put h1 i 1 (by simpa using hi) (by decide) (.bool x'.f1) ⟨x'.f0, x'.f1, (xs.getD i z35).f2⟩ (by rw [g1]; rfl)
  rw [List.set_set] at h2
  have h3 := node_put h2 i 2 (by simpa using hi) (by decide) (.int .i64 x'.f2) x' (by rw [g1]; rfl)
  rw [List.set_set] at h3
  exact h3
set_option maxHeartbeats 8000000 in
theorem forebayref20_Turn.calls (A0 : Option Addr) (c0 : Nat) (l0 : List S35) (a1 a2 : Int) (r1 : List S35) (r2 r3 : Int) (w : World) (hr0 : Kd.C k35 w A0 l0.length l0) (hc0 : l0.length ≤ c0) (h : forebayref20_Turn.f l0 a1 a2 = some (r1, r2, r3)) :
    Calls Try.prog 24 #[.slice A0 l0.length c0, .int .i64 a1, .int .i64 a2] w fun e w' => ∃ v0_ : Value, e = .returned (.tuple #[v0_, .int .i64 r2, .int .i64 r3]) ∧ Kd.R k35 35 w' w.heap.size (fun _ => True) v0_ r1 ∧ Below w.heap.size w w' := by
  replace h := Option.some.inj h
  have HR := Aside0.mk hr0
  have HC := Aside0.mk hc0
  have HB := Aside0.mk (Below.refl w.heap.size w)
  unfold refTurn at h
  by_cases hok : okNodes l0 = true
  case neg =>
    rw [if_neg hok] at h
    obtain ⟨rfl, h2⟩ := Prod.mk.inj h
    obtain ⟨rfl, rfl⟩ := Prod.mk.inj h2
    have HE := Aside0.mk (show forebayref20_Check.f 70 l0 = some 2 by rw [show 70 = 70 + 0 by rfl, refCheck_eq, if_neg hok])
    clear hok h h2 hr0 hc0
    go_enter Try.func24, Try.ntmps24
    go_wp2_with (first
      | (go_at_call 20; (with_reducible refine (forebayref20_Check.calls 70 A0 c0 l0 _ _ (Kd.C_below HR.out HB.out) HC.out HE.out).mono ?_); rintro e w1 ⟨rfl, hd⟩; replace HB := Aside0.mk (HB.out.trans ((node_drawn hd).mono HB.out.size)); clear hd))
    go_ret3
    exact ⟨_, rfl, Kd.R_nil _ _ _ _ _, HB.out⟩
  have HE := Aside0.mk (show forebayref20_Check.f 70 l0 = some 0 by rw [show 70 = 70 + 0 by rfl, refCheck_eq, if_pos hok])
  have hlen : 1 ≤ l0.length ∧ l0.length ≤ 64 := by
    have h := hok
    unfold okNodes at h
    simp only [Bool.and_eq_true, decide_eq_true_eq] at h
    exact h.1
  rw [if_pos hok] at h
  clear hok
  by_cases hi0 : 0 ≤ a1
  case neg =>
    rw [if_neg (fun e => hi0 e.1)] at h
    obtain ⟨rfl, h2⟩ := Prod.mk.inj h
    obtain ⟨rfl, rfl⟩ := Prod.mk.inj h2
    have hi0' : a1 < 0 := by omega
    clear h h2 hr0 hc0 hi0
    go_enter Try.func24, Try.ntmps24
    go_wp2_with (first
      | (go_at_call 20; (with_reducible refine (forebayref20_Check.calls 70 A0 c0 l0 _ _ (Kd.C_below HR.out HB.out) HC.out HE.out).mono ?_); rintro e w1 ⟨rfl, hd⟩; replace HB := Aside0.mk (HB.out.trans ((node_drawn hd).mono HB.out.size)); clear hd))
    go_ret3
    exact ⟨_, rfl, Kd.R_nil _ _ _ _ _, HB.out⟩
  by_cases hi1 : a1 < (l0.length : Int)
  case neg =>
    rw [if_neg (fun e => hi1 e.2)] at h
    obtain ⟨rfl, h2⟩ := Prod.mk.inj h
    obtain ⟨rfl, rfl⟩ := Prod.mk.inj h2
    have hi0' : ¬ a1 < 0 := by omega
    have hi1' : (l0.length : Int) ≤ a1 := by omega
    clear h h2 hr0 hc0 hi0 hi1
    go_enter Try.func24, Try.ntmps24
    go_wp2_with (first
      | (go_at_call 20; (with_reducible refine (forebayref20_Check.calls 70 A0 c0 l0 _ _ (Kd.C_below HR.out HB.out) HC.out HE.out).mono ?_); rintro e w1 ⟨rfl, hd⟩; replace HB := Aside0.mk (HB.out.trans ((node_drawn hd).mono HB.out.size)); clear hd))
    go_ret3
    exact ⟨_, rfl, Kd.R_nil _ _ _ _ _, HB.out⟩
  rw [if_pos ⟨hi0, hi1⟩] at h
  obtain ⟨i, rfl⟩ := Int.eq_ofNat_of_zero_le hi0
  have hi : i < l0.length := by omega
  have hi0' : ¬ (i : Int) < 0 := by omega
  have hi1' : ¬ (l0.length : Int) ≤ (i : Int) := by omega
  have HOW := Aside0.mk (refOwn_eq l0 hlen.2)
  obtain ⟨ad, rfl, _⟩ := at_T35 hr0 (i : Int) hi0 hi1
  clear hr0 hc0
  rw [Int.toNat_natCast] at h
  have er : rd_T35 l0 (i : Int) = l0.getD i z35 := by simp [rd_T35]
  replace er := Aside0.mk er
  obtain ⟨x, hx⟩ : ∃ x, l0.getD i z35 = x := ⟨_, rfl⟩
  rw [hx] at h er
  replace hx := Aside0.mk hx
  obtain ⟨xa, xb, xc⟩ := x
  by_cases q0 : a2 = 0
  · subst q0
    cases xa with
    | false =>
      rw [if_pos (show refNo ⟨_, _, xc⟩ _ = true from by cases xb <;> rfl)] at h
      obtain ⟨rfl, h2⟩ := Prod.mk.inj h
      obtain ⟨rfl, rfl⟩ := Prod.mk.inj h2
      clear h h2
      go_enter Try.func24, Try.ntmps24
      go_wp2_with (first
        | (go_at_call 20; (with_reducible refine (forebayref20_Check.calls 70 (some ad) c0 l0 _ _ (Kd.C_below HR.out HB.out) HC.out HE.out).mono ?_); rintro e w1 ⟨rfl, hd⟩; replace HB := Aside0.mk (HB.out.trans ((node_drawn hd).mono HB.out.size)); clear hd)
        | (go_at_call 40; (with_reducible refine (forebayref20_own.calls (some ad) c0 l0 l0 _ (Kd.C_below HR.out HB.out) HC.out HOW.out).mono ?_); rintro e w3 ⟨v0, rfl, hrow, hb⟩; obtain ⟨g, cap, rfl, hgb, hgs, _⟩ := Kd.R_form hrow (by omega); replace hgb := Aside0.mk (show w.heap.size ≤ g from Nat.le_trans HB.out.size hgb); replace hrow := Aside0.mk (Kd.R_lower hrow HB.out.size); replace HB := Aside0.mk (HB.out.trans (hb.mono HB.out.size)); clear hb; obtain ⟨_, eA, hx0, hx1, hx2⟩ := at_T35 (Kd.C_below HR.out HB.out) (i : Int) hi0 hi1; cases eA; rw [er.out] at hx0 hx1 hx2; rw [Int.toNat_natCast] at hx0 hx1 hx2))
      go_ret3
      exact ⟨_, rfl, Kd.R_nil _ _ _ _ _, HB.out.alloc HB.out.size _⟩
    | true =>
      rw [if_neg (show ¬ refNo ⟨_, _, xc⟩ _ = true from by cases xb <;> exact Bool.false_ne_true)] at h
      obtain ⟨rfl, h2⟩ := Prod.mk.inj h
      obtain ⟨rfl, rfl⟩ := Prod.mk.inj h2
      clear h h2
      go_enter Try.func24, Try.ntmps24
      go_upto_region 21 with (first
        | (go_at_call 20; (with_reducible refine (forebayref20_Check.calls 70 (some ad) c0 l0 _ _ (Kd.C_below HR.out HB.out) HC.out HE.out).mono ?_); rintro e w1 ⟨rfl, hd⟩; replace HB := Aside0.mk (HB.out.trans ((node_drawn hd).mono HB.out.size)); clear hd)
        | (go_at_call 40; (with_reducible refine (forebayref20_own.calls (some ad) c0 l0 l0 _ (Kd.C_below HR.out HB.out) HC.out HOW.out).mono ?_); rintro e w3 ⟨v0, rfl, hrow, hb⟩; obtain ⟨g, cap, rfl, hgb, hgs, _⟩ := Kd.R_form hrow (by omega); replace hgb := Aside0.mk (show w.heap.size ≤ g from Nat.le_trans HB.out.size hgb); replace hrow := Aside0.mk (Kd.R_lower hrow HB.out.size); replace HB := Aside0.mk (HB.out.trans (hb.mono HB.out.size)); clear hb; obtain ⟨_, eA, hx0, hx1, hx2⟩ := at_T35 (Kd.C_below HR.out HB.out) (i : Int) hi0 hi1; cases eA; rw [er.out] at hx0 hx1 hx2; rw [Int.toNat_natCast] at hx0 hx1 hx2))
      have hrow5 := Aside0.mk (node_move (W' := (w3.alloc (.cells #[.bool false, .bool xb, .int .i64 0] 35))) hrow.out (Below.heap_alloc w3 _ g hgs))
      have HB5 := Aside0.mk (show Below w.heap.size w (w3.alloc (.cells #[.bool false, .bool xb, .int .i64 0] 35)) from HB.out.alloc HB.out.size _)
      have hb5 : BoxN (w3.alloc (.cells #[.bool false, .bool xb, .int .i64 0] 35)) w3.heap.size 35 [.bool false, .bool xb, .int .i64 0] := BoxN.new w3 _ _
      have b0 := hb5.cell 0 rfl
      have b1 := hb5.cell 1 rfl
      have b2 := hb5.cell 2 rfl
      generalize (w3.alloc (.cells #[.bool false, .bool xb, .int .i64 0] 35)) = W5 at *
      clear hx0 hx1 hx2 hb5
      obtain ⟨k0, k1, k2, kf⟩ := node_cells hrow5.out i hi
      have f0 : W5.frozen? ⟨g, i * 3, none⟩ = false := kf 0
      have f1 : W5.frozen? ⟨g, i * 3 + 1, none⟩ = false := kf 1
      have f2 : W5.frozen? ⟨g, i * 3 + 2, none⟩ = false := kf 2
      clear kf
      have hput := Aside0.mk (node_put3 hrow5.out i hi ⟨false, xb, 0⟩)
      have hK : Keeps (fun k => k ≠ g) W5 (((W5.setCell ⟨g, i * 3, none⟩ (.bool false)).setCell ⟨g, i * 3 + 1, none⟩ (.bool xb)).setCell ⟨g, i * 3 + 2, none⟩ (.int .i64 0)) := (((Keeps.refl (fun k => k ≠ g) W5).setCell _ (fun h => h.2 rfl)).setCell _ (fun h => h.2 rfl)).setCell _ (fun h => h.2 rfl)
      have HB6 := Aside0.mk (HB5.out.trans (hK.below HB5.out.size (fun k hk => by have := hgb.out; omega)))
      clear hK
      go_wp2
      go_ret3
      exact ⟨_, rfl, hput.out, HB6.out⟩
  by_cases q1 : a2 = 1
  · subst q1
    cases xa with
    | false =>
      rw [if_neg (show ¬ refNo ⟨_, _, xc⟩ _ = true from by cases xb <;> exact Bool.false_ne_true)] at h
      obtain ⟨rfl, h2⟩ := Prod.mk.inj h
      obtain ⟨rfl, rfl⟩ := Prod.mk.inj h2
      clear h h2
      go_enter Try.func24, Try.ntmps24
      go_upto_region 21 with (first
        | (go_at_call 20; (with_reducible refine (forebayref20_Check.calls 70 (some ad) c0 l0 _ _ (Kd.C_below HR.out HB.out) HC.out HE.out).mono ?_); rintro e w1 ⟨rfl, hd⟩; replace HB := Aside0.mk (HB.out.trans ((node_drawn hd).mono HB.out.size)); clear hd)
        | (go_at_call 40; (with_reducible refine (forebayref20_own.calls (some ad) c0 l0 l0 _ (Kd.C_below HR.out HB.out) HC.out HOW.out).mono ?_); rintro e w3 ⟨v0, rfl, hrow, hb⟩; obtain ⟨g, cap, rfl, hgb, hgs, _⟩ := Kd.R_form hrow (by omega); replace hgb := Aside0.mk (show w.heap.size ≤ g from Nat.le_trans HB.out.size hgb); replace hrow := Aside0.mk (Kd.R_lower hrow HB.out.size); replace HB := Aside0.mk (HB.out.trans (hb.mono HB.out.size)); clear hb; obtain ⟨_, eA, hx0, hx1, hx2⟩ := at_T35 (Kd.C_below HR.out HB.out) (i : Int) hi0 hi1; cases eA; rw [er.out] at hx0 hx1 hx2; rw [Int.toNat_natCast] at hx0 hx1 hx2))
      have hrow5 := Aside0.mk (node_move (W' := (w3.alloc (.cells #[.bool true, .bool xb, .int .i64 xc] 35))) hrow.out (Below.heap_alloc w3 _ g hgs))
      have HB5 := Aside0.mk (show Below w.heap.size w (w3.alloc (.cells #[.bool true, .bool xb, .int .i64 xc] 35)) from HB.out.alloc HB.out.size _)
      have hb5 : BoxN (w3.alloc (.cells #[.bool true, .bool xb, .int .i64 xc] 35)) w3.heap.size 35 [.bool true, .bool xb, .int .i64 xc] := BoxN.new w3 _ _
      have b0 := hb5.cell 0 rfl
      have b1 := hb5.cell 1 rfl
      have b2 := hb5.cell 2 rfl
      generalize (w3.alloc (.cells #[.bool true, .bool xb, .int .i64 xc] 35)) = W5 at *
      clear hx0 hx1 hx2 hb5
      obtain ⟨k0, k1, k2, kf⟩ := node_cells hrow5.out i hi
      have f0 : W5.frozen? ⟨g, i * 3, none⟩ = false := kf 0
      have f1 : W5.frozen? ⟨g, i * 3 + 1, none⟩ = false := kf 1
      have f2 : W5.frozen? ⟨g, i * 3 + 2, none⟩ = false := kf 2
      clear kf
      have hput := Aside0.mk (node_put3 hrow5.out i hi ⟨true, xb, xc⟩)
      have hK : Keeps (fun k => k ≠ g) W5 (((W5.setCell ⟨g, i * 3, none⟩ (.bool true)).setCell ⟨g, i * 3 + 1, none⟩ (.bool xb)).setCell ⟨g, i * 3 + 2, none⟩ (.int .i64 xc)) := (((Keeps.refl (fun k => k ≠ g) W5).setCell _ (fun h => h.2 rfl)).setCell _ (fun h => h.2 rfl)).setCell _ (fun h => h.2 rfl)
      have HB6 := Aside0.mk (HB5.out.trans (hK.below HB5.out.size (fun k hk => by have := hgb.out; omega)))
      clear hK
      go_wp2
      go_ret3
      exact ⟨_, rfl, hput.out, HB6.out⟩
    | true =>
      rw [if_pos (show refNo ⟨_, _, xc⟩ _ = true from by cases xb <;> rfl)] at h
      obtain ⟨rfl, h2⟩ := Prod.mk.inj h
      obtain ⟨rfl, rfl⟩ := Prod.mk.inj h2
      clear h h2
      go_enter Try.func24, Try.ntmps24
      go_wp2_with (first
        | (go_at_call 20; (with_reducible refine (forebayref20_Check.calls 70 (some ad) c0 l0 _ _ (Kd.C_below HR.out HB.out) HC.out HE.out).mono ?_); rintro e w1 ⟨rfl, hd⟩; replace HB := Aside0.mk (HB.out.trans ((node_drawn hd).mono HB.out.size)); clear hd)
        | (go_at_call 40; (with_reducible refine (forebayref20_own.calls (some ad) c0 l0 l0 _ (Kd.C_below HR.out HB.out) HC.out HOW.out).mono ?_); rintro e w3 ⟨v0, rfl, hrow, hb⟩; obtain ⟨g, cap, rfl, hgb, hgs, _⟩ := Kd.R_form hrow (by omega); replace hgb := Aside0.mk (show w.heap.size ≤ g from Nat.le_trans HB.out.size hgb); replace hrow := Aside0.mk (Kd.R_lower hrow HB.out.size); replace HB := Aside0.mk (HB.out.trans (hb.mono HB.out.size)); clear hb; obtain ⟨_, eA, hx0, hx1, hx2⟩ := at_T35 (Kd.C_below HR.out HB.out) (i : Int) hi0 hi1; cases eA; rw [er.out] at hx0 hx1 hx2; rw [Int.toNat_natCast] at hx0 hx1 hx2))
      go_ret3
      exact ⟨_, rfl, Kd.R_nil _ _ _ _ _, HB.out.alloc HB.out.size _⟩
  by_cases q2 : a2 = 2
  · subst q2
    cases xb with
    | false =>
      rw [if_neg (show ¬ refNo ⟨_, _, xc⟩ _ = true from by cases xa <;> exact Bool.false_ne_true)] at h
      obtain ⟨rfl, h2⟩ := Prod.mk.inj h
      obtain ⟨rfl, rfl⟩ := Prod.mk.inj h2
      clear h h2
      go_enter Try.func24, Try.ntmps24
      go_upto_region 21 with (first
        | (go_at_call 20; (with_reducible refine (forebayref20_Check.calls 70 (some ad) c0 l0 _ _ (Kd.C_below HR.out HB.out) HC.out HE.out).mono ?_); rintro e w1 ⟨rfl, hd⟩; replace HB := Aside0.mk (HB.out.trans ((node_drawn hd).mono HB.out.size)); clear hd)
        | (go_at_call 40; (with_reducible refine (forebayref20_own.calls (some ad) c0 l0 l0 _ (Kd.C_below HR.out HB.out) HC.out HOW.out).mono ?_); rintro e w3 ⟨v0, rfl, hrow, hb⟩; obtain ⟨g, cap, rfl, hgb, hgs, _⟩ := Kd.R_form hrow (by omega); replace hgb := Aside0.mk (show w.heap.size ≤ g from Nat.le_trans HB.out.size hgb); replace hrow := Aside0.mk (Kd.R_lower hrow HB.out.size); replace HB := Aside0.mk (HB.out.trans (hb.mono HB.out.size)); clear hb; obtain ⟨_, eA, hx0, hx1, hx2⟩ := at_T35 (Kd.C_below HR.out HB.out) (i : Int) hi0 hi1; cases eA; rw [er.out] at hx0 hx1 hx2; rw [Int.toNat_natCast] at hx0 hx1 hx2))
      have hrow5 := Aside0.mk (node_move (W' := (w3.alloc (.cells #[.bool xa, .bool true, .int .i64 xc] 35))) hrow.out (Below.heap_alloc w3 _ g hgs))
      have HB5 := Aside0.mk (show Below w.heap.size w (w3.alloc (.cells #[.bool xa, .bool true, .int .i64 xc] 35)) from HB.out.alloc HB.out.size _)
      have hb5 : BoxN (w3.alloc (.cells #[.bool xa, .bool true, .int .i64 xc] 35)) w3.heap.size 35 [.bool xa, .bool true, .int .i64 xc] := BoxN.new w3 _ _
      have b0 := hb5.cell 0 rfl
      have b1 := hb5.cell 1 rfl
      have b2 := hb5.cell 2 rfl
      generalize (w3.alloc (.cells #[.bool xa, .bool true, .int .i64 xc] 35)) = W5 at *
      clear hx0 hx1 hx2 hb5
      obtain ⟨k0, k1, k2, kf⟩ := node_cells hrow5.out i hi
      have f0 : W5.frozen? ⟨g, i * 3, none⟩ = false := kf 0
      have f1 : W5.frozen? ⟨g, i * 3 + 1, none⟩ = false := kf 1
      have f2 : W5.frozen? ⟨g, i * 3 + 2, none⟩ = false := kf 2
      clear kf
      have hput := Aside0.mk (node_put3 hrow5.out i hi ⟨xa, true, xc⟩)
      have hK : Keeps (fun k => k ≠ g) W5 (((W5.setCell ⟨g, i * 3, none⟩ (.bool xa)).setCell ⟨g, i * 3 + 1, none⟩ (.bool true)).setCell ⟨g, i * 3 + 2, none⟩ (.int .i64 xc)) := (((Keeps.refl (fun k => k ≠ g) W5).setCell _ (fun h => h.2 rfl)).setCell _ (fun h => h.2 rfl)).setCell _ (fun h => h.2 rfl)
      have HB6 := Aside0.mk (HB5.out.trans (hK.below HB5.out.size (fun k hk => by have := hgb.out; omega)))
      clear hK
      go_wp2
      go_ret3
      exact ⟨_, rfl, hput.out, HB6.out⟩
    | true =>
      rw [if_pos (show refNo ⟨_, _, xc⟩ _ = true from by cases xa <;> rfl)] at h
      obtain ⟨rfl, h2⟩ := Prod.mk.inj h
      obtain ⟨rfl, rfl⟩ := Prod.mk.inj h2
      clear h h2
      go_enter Try.func24, Try.ntmps24
      go_wp2_with (first
        | (go_at_call 20; (with_reducible refine (forebayref20_Check.calls 70 (some ad) c0 l0 _ _ (Kd.C_below HR.out HB.out) HC.out HE.out).mono ?_); rintro e w1 ⟨rfl, hd⟩; replace HB := Aside0.mk (HB.out.trans ((node_drawn hd).mono HB.out.size)); clear hd)
        | (go_at_call 40; (with_reducible refine (forebayref20_own.calls (some ad) c0 l0 l0 _ (Kd.C_below HR.out HB.out) HC.out HOW.out).mono ?_); rintro e w3 ⟨v0, rfl, hrow, hb⟩; obtain ⟨g, cap, rfl, hgb, hgs, _⟩ := Kd.R_form hrow (by omega); replace hgb := Aside0.mk (show w.heap.size ≤ g from Nat.le_trans HB.out.size hgb); replace hrow := Aside0.mk (Kd.R_lower hrow HB.out.size); replace HB := Aside0.mk (HB.out.trans (hb.mono HB.out.size)); clear hb; obtain ⟨_, eA, hx0, hx1, hx2⟩ := at_T35 (Kd.C_below HR.out HB.out) (i : Int) hi0 hi1; cases eA; rw [er.out] at hx0 hx1 hx2; rw [Int.toNat_natCast] at hx0 hx1 hx2))
      go_ret3
      exact ⟨_, rfl, Kd.R_nil _ _ _ _ _, HB.out.alloc HB.out.size _⟩
  by_cases q3 : a2 = 3
  · subst q3
    cases xb with
    | false =>
      rw [if_pos (show refNo ⟨_, _, xc⟩ _ = true from by cases xa <;> rfl)] at h
      obtain ⟨rfl, h2⟩ := Prod.mk.inj h
      obtain ⟨rfl, rfl⟩ := Prod.mk.inj h2
      clear h h2
      go_enter Try.func24, Try.ntmps24
      go_wp2_with (first
        | (go_at_call 20; (with_reducible refine (forebayref20_Check.calls 70 (some ad) c0 l0 _ _ (Kd.C_below HR.out HB.out) HC.out HE.out).mono ?_); rintro e w1 ⟨rfl, hd⟩; replace HB := Aside0.mk (HB.out.trans ((node_drawn hd).mono HB.out.size)); clear hd)
        | (go_at_call 40; (with_reducible refine (forebayref20_own.calls (some ad) c0 l0 l0 _ (Kd.C_below HR.out HB.out) HC.out HOW.out).mono ?_); rintro e w3 ⟨v0, rfl, hrow, hb⟩; obtain ⟨g, cap, rfl, hgb, hgs, _⟩ := Kd.R_form hrow (by omega); replace hgb := Aside0.mk (show w.heap.size ≤ g from Nat.le_trans HB.out.size hgb); replace hrow := Aside0.mk (Kd.R_lower hrow HB.out.size); replace HB := Aside0.mk (HB.out.trans (hb.mono HB.out.size)); clear hb; obtain ⟨_, eA, hx0, hx1, hx2⟩ := at_T35 (Kd.C_below HR.out HB.out) (i : Int) hi0 hi1; cases eA; rw [er.out] at hx0 hx1 hx2; rw [Int.toNat_natCast] at hx0 hx1 hx2))
      go_ret3
      exact ⟨_, rfl, Kd.R_nil _ _ _ _ _, HB.out.alloc HB.out.size _⟩
    | true =>
      rw [if_neg (show ¬ refNo ⟨_, _, xc⟩ _ = true from by cases xa <;> exact Bool.false_ne_true)] at h
      obtain ⟨rfl, h2⟩ := Prod.mk.inj h
      obtain ⟨rfl, rfl⟩ := Prod.mk.inj h2
      clear h h2
      go_enter Try.func24, Try.ntmps24
      go_upto_region 21 with (first
        | (go_at_call 20; (with_reducible refine (forebayref20_Check.calls 70 (some ad) c0 l0 _ _ (Kd.C_below HR.out HB.out) HC.out HE.out).mono ?_); rintro e w1 ⟨rfl, hd⟩; replace HB := Aside0.mk (HB.out.trans ((node_drawn hd).mono HB.out.size)); clear hd)
        | (go_at_call 40; (with_reducible refine (forebayref20_own.calls (some ad) c0 l0 l0 _ (Kd.C_below HR.out HB.out) HC.out HOW.out).mono ?_); rintro e w3 ⟨v0, rfl, hrow, hb⟩; obtain ⟨g, cap, rfl, hgb, hgs, _⟩ := Kd.R_form hrow (by omega); replace hgb := Aside0.mk (show w.heap.size ≤ g from Nat.le_trans HB.out.size hgb); replace hrow := Aside0.mk (Kd.R_lower hrow HB.out.size); replace HB := Aside0.mk (HB.out.trans (hb.mono HB.out.size)); clear hb; obtain ⟨_, eA, hx0, hx1, hx2⟩ := at_T35 (Kd.C_below HR.out HB.out) (i : Int) hi0 hi1; cases eA; rw [er.out] at hx0 hx1 hx2; rw [Int.toNat_natCast] at hx0 hx1 hx2))
      have hrow5 := Aside0.mk (node_move (W' := (w3.alloc (.cells #[.bool xa, .bool false, .int .i64 xc] 35))) hrow.out (Below.heap_alloc w3 _ g hgs))
      have HB5 := Aside0.mk (show Below w.heap.size w (w3.alloc (.cells #[.bool xa, .bool false, .int .i64 xc] 35)) from HB.out.alloc HB.out.size _)
      have hb5 : BoxN (w3.alloc (.cells #[.bool xa, .bool false, .int .i64 xc] 35)) w3.heap.size 35 [.bool xa, .bool false, .int .i64 xc] := BoxN.new w3 _ _
      have b0 := hb5.cell 0 rfl
      have b1 := hb5.cell 1 rfl
      have b2 := hb5.cell 2 rfl
      generalize (w3.alloc (.cells #[.bool xa, .bool false, .int .i64 xc] 35)) = W5 at *
      clear hx0 hx1 hx2 hb5
      obtain ⟨k0, k1, k2, kf⟩ := node_cells hrow5.out i hi
      have f0 : W5.frozen? ⟨g, i * 3, none⟩ = false := kf 0
      have f1 : W5.frozen? ⟨g, i * 3 + 1, none⟩ = false := kf 1
      have f2 : W5.frozen? ⟨g, i * 3 + 2, none⟩ = false := kf 2
      clear kf
      have hput := Aside0.mk (node_put3 hrow5.out i hi ⟨xa, false, xc⟩)
      have hK : Keeps (fun k => k ≠ g) W5 (((W5.setCell ⟨g, i * 3, none⟩ (.bool xa)).setCell ⟨g, i * 3 + 1, none⟩ (.bool false)).setCell ⟨g, i * 3 + 2, none⟩ (.int .i64 xc)) := (((Keeps.refl (fun k => k ≠ g) W5).setCell _ (fun h => h.2 rfl)).setCell _ (fun h => h.2 rfl)).setCell _ (fun h => h.2 rfl)
      have HB6 := Aside0.mk (HB5.out.trans (hK.below HB5.out.size (fun k hk => by have := hgb.out; omega)))
      clear hK
      go_wp2
      go_ret3
      exact ⟨_, rfl, hput.out, HB6.out⟩
  have e0 : ¬ refNo ⟨xa, xb, xc⟩ a2 = true := by simp [refNo, q0, q1, q2, q3]
  have e1 : refDo ⟨xa, xb, xc⟩ a2 = ⟨xa, xb, xc⟩ := by simp [refDo, q0, q1, q2, q3]
  rw [if_neg e0, e1, if_neg q0] at h
  obtain ⟨rfl, h2⟩ := Prod.mk.inj h
  obtain ⟨rfl, rfl⟩ := Prod.mk.inj h2
  clear h h2 e0
  go_enter Try.func24, Try.ntmps24
  go_upto_region 21 with (first
    | (go_at_call 20; (with_reducible refine (forebayref20_Check.calls 70 (some ad) c0 l0 _ _ (Kd.C_below HR.out HB.out) HC.out HE.out).mono ?_); rintro e w1 ⟨rfl, hd⟩; replace HB := Aside0.mk (HB.out.trans ((node_drawn hd).mono HB.out.size)); clear hd)
    | (go_at_call 40; (with_reducible refine (forebayref20_own.calls (some ad) c0 l0 l0 _ (Kd.C_below HR.out HB.out) HC.out HOW.out).mono ?_); rintro e w3 ⟨v0, rfl, hrow, hb⟩; obtain ⟨g, cap, rfl, hgb, hgs, _⟩ := Kd.R_form hrow (by omega); replace hgb := Aside0.mk (show w.heap.size ≤ g from Nat.le_trans HB.out.size hgb); replace hrow := Aside0.mk (Kd.R_lower hrow HB.out.size); replace HB := Aside0.mk (HB.out.trans (hb.mono HB.out.size)); clear hb; obtain ⟨_, eA, hx0, hx1, hx2⟩ := at_T35 (Kd.C_below HR.out HB.out) (i : Int) hi0 hi1; cases eA; rw [er.out] at hx0 hx1 hx2; rw [Int.toNat_natCast] at hx0 hx1 hx2))
  have hrow5 := Aside0.mk (node_move (W' := (w3.alloc (.cells #[.bool xa, .bool xb, .int .i64 xc] 35))) hrow.out (Below.heap_alloc w3 _ g hgs))
  have HB5 := Aside0.mk (show Below w.heap.size w (w3.alloc (.cells #[.bool xa, .bool xb, .int .i64 xc] 35)) from HB.out.alloc HB.out.size _)
  have hb5 : BoxN (w3.alloc (.cells #[.bool xa, .bool xb, .int .i64 xc] 35)) w3.heap.size 35 [.bool xa, .bool xb, .int .i64 xc] := BoxN.new w3 _ _
  have b0 := hb5.cell 0 rfl
  have b1 := hb5.cell 1 rfl
  have b2 := hb5.cell 2 rfl
  generalize (w3.alloc (.cells #[.bool xa, .bool xb, .int .i64 xc] 35)) = W5 at *
  clear hx0 hx1 hx2 hb5
  obtain ⟨k0, k1, k2, kf⟩ := node_cells hrow5.out i hi
  have f0 : W5.frozen? ⟨g, i * 3, none⟩ = false := kf 0
  have f1 : W5.frozen? ⟨g, i * 3 + 1, none⟩ = false := kf 1
  have f2 : W5.frozen? ⟨g, i * 3 + 2, none⟩ = false := kf 2
  clear kf
  have hput := Aside0.mk (node_put3 hrow5.out i hi ⟨xa, xb, xc⟩)
  have hK : Keeps (fun k => k ≠ g) W5 (((W5.setCell ⟨g, i * 3, none⟩ (.bool xa)).setCell ⟨g, i * 3 + 1, none⟩ (.bool xb)).setCell ⟨g, i * 3 + 2, none⟩ (.int .i64 xc)) := (((Keeps.refl (fun k => k ≠ g) W5).setCell _ (fun h => h.2 rfl)).setCell _ (fun h => h.2 rfl)).setCell _ (fun h => h.2 rfl)
  have HB6 := Aside0.mk (HB5.out.trans (hK.below HB5.out.size (fun k hk => by have := hgb.out; omega)))
  clear hK
  go_wp2
  go_ret3
  exact ⟨_, rfl, hput.out, HB6.out⟩

end Go.Proofs.Ytifebcdkckjphaa.P
