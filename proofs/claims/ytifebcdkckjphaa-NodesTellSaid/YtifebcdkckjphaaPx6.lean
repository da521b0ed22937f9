-- Written by this session's program gprint.py: functions of the program as plain functions, and that the machine does what they say. Not trusted: Lean checks it.
import Derived.Test.YtifebcdkckjphaaPx0
import Derived.Test.YtifebcdkckjphaaPx4
import Derived.Test.YtifebcdkckjphaaPx5
namespace Go.Proofs.Ytifebcdkckjphaa.P
open Go.RowKit Go.Proofs.YtifebcdkckjphaaW.PrintWords Go.Proofs.YtifebcdkckjphaaW.PrintLast Go.Proofs.YtifebcdkckjphaaW.PrintMore
attribute [local go_sem] max2_int min2_int max_two min_two max_three min_three max_four min_four   -- for this text's walks alone
set_option linter.unusedVariables false
set_option linter.unusedSimpArgs false

/-! ### forebayref20_Give: function 18 -/
mutual
def forebayref20_Give.j0 : Nat → List (S35) → Int → Int → Bool → Option ((List (S35)) × List Int × Int)
  | 0, _, _, _, _ => none
  | k + 1, x0, x1, x2, x27 => if x27 = true then (some (([] : List (S35)), ([] : List Int), 2)) else ((forebayref20_Of.f k x0 x1).bind fun t140 => (if (t140.length : Int) > 0 then (some (([] : List (S35)), ([] : List Int), 8)) else ((forebayref20_Free.f k x0).bind fun t143 => (if t143 < x2 then (some (([] : List (S35)), ([] : List Int), 6)) else ((forebayref20_own.f x0).bind fun t144 => (forebayref20_Give.l0 k x0 x1 x2 t144 ([] : List Int) 0))))))
def forebayref20_Give.l0 : Nat → List (S35) → Int → Int → List (S35) → List Int → Int → Option ((List (S35)) × List Int × Int)
  | 0, _, _, _, _, _, _ => none
  | k + 1, x0, x1, x2, x9, x10, x11 => if x11 < (x0.length : Int) then (forebayref20_Give.j2 k x0 x1 x2 x9 x10 x11 (decide ((x10.length : Int) < x2))) else (forebayref20_Give.j2 k x0 x1 x2 x9 x10 x11 false)
def forebayref20_Give.j2 : Nat → List (S35) → Int → Int → List (S35) → List Int → Int → Bool → Option ((List (S35)) × List Int × Int)
  | 0, _, _, _, _, _, _, _ => none
  | k + 1, x0, x1, x2, x9, x10, x11, x48 => if x48 = true then (if 0 ≤ x11 then (if x11 < (x0.length : Int) then (if (rd_T35 x0 x11).f0 = true then (if (rd_T35 x0 x11).f1 = true then (if ((rd_T35 x0 x11).f2) = 0 then (if x11 < (x9.length : Int) then (if x10.length < 17592186044416 then (forebayref20_Give.l0 k x0 x1 x2 (x9.set (x11 : Int).toNat (⟨(rd_T35 x9 x11).f0, (rd_T35 x9 x11).f1, x1⟩ : S35)) (x10 ++ [x11]) (wrap64 (x11 + 1))) else (none)) else (none)) else (forebayref20_Give.l0 k x0 x1 x2 x9 x10 (wrap64 (x11 + 1)))) else (forebayref20_Give.l0 k x0 x1 x2 x9 x10 (wrap64 (x11 + 1)))) else (forebayref20_Give.l0 k x0 x1 x2 x9 x10 (wrap64 (x11 + 1)))) else (none)) else (none)) else (some (x9, x10, 0))
end
def forebayref20_Give.f (k : Nat) (l0 : List (S35)) (a1 : Int) (a2 : Int) : Option ((List (S35)) × List Int × Int) := (forebayref20_Check.f k l0).bind fun t138 => (if t138 = 0 then ((forebayref20_job.f a1).bind fun t139 => (if t139 = true then (if a2 < 1 then (forebayref20_Give.j0 k l0 a1 a2 true) else (forebayref20_Give.j0 k l0 a1 a2 (decide (a2 > 64)))) else (forebayref20_Give.j0 k l0 a1 a2 true))) else (forebayref20_Give.j0 k l0 a1 a2 true))
theorem forebayref20_Give.mono_l : ∀ k, (∀ y0 y1 y2 y3, LeO (forebayref20_Give.j0 k y0 y1 y2 y3) (forebayref20_Give.j0 (k + 1) y0 y1 y2 y3)) ∧ (∀ y0 y1 y2 y3 y4 y5, LeO (forebayref20_Give.l0 k y0 y1 y2 y3 y4 y5) (forebayref20_Give.l0 (k + 1) y0 y1 y2 y3 y4 y5)) ∧ (∀ y0 y1 y2 y3 y4 y5 y6, LeO (forebayref20_Give.j2 k y0 y1 y2 y3 y4 y5 y6) (forebayref20_Give.j2 (k + 1) y0 y1 y2 y3 y4 y5 y6))
  | 0 => ⟨fun _ _ _ _ r h => by simp [forebayref20_Give.j0] at h, fun _ _ _ _ _ _ r h => by simp [forebayref20_Give.l0] at h, fun _ _ _ _ _ _ _ r h => by simp [forebayref20_Give.j2] at h⟩
  | k + 1 => by
    obtain ⟨ih0, ih1, ih2⟩ := forebayref20_Give.mono_l k
    refine ⟨?_, ?_, ?_⟩
    · intro y0 y1 y2 y3
      unfold forebayref20_Give.j0
      repeat' first
      | (with_reducible exact ih0 _ _ _ _)
      | (with_reducible exact ih1 _ _ _ _ _ _)
      | (with_reducible exact ih2 _ _ _ _ _ _ _)
      | (with_reducible exact forebayref20_Check.mono _ _)
      | (with_reducible exact forebayref20_Free.mono _ _)
      | (with_reducible exact forebayref20_Of.mono _ _ _)
      | (with_reducible exact LeO.refl _)
      | (with_reducible exact LeO.none _)
      | (with_reducible refine LeO.ite ?_ ?_)
      | (with_reducible refine LeO.bind ?_ (fun _ => ?_))
      | exact ih0 _ _ _ _
      | exact ih1 _ _ _ _ _ _
      | exact ih2 _ _ _ _ _ _ _
      | exact forebayref20_Check.mono _ _
      | exact forebayref20_Free.mono _ _
      | exact forebayref20_Of.mono _ _ _
      | exact LeO.none _
      | refine LeO.ite ?_ ?_
      | refine LeO.bind ?_ (fun _ => ?_)
    · intro y0 y1 y2 y3 y4 y5
      unfold forebayref20_Give.l0
      repeat' first
      | (with_reducible exact ih0 _ _ _ _)
      | (with_reducible exact ih1 _ _ _ _ _ _)
      | (with_reducible exact ih2 _ _ _ _ _ _ _)
      | (with_reducible exact forebayref20_Check.mono _ _)
      | (with_reducible exact forebayref20_Free.mono _ _)
      | (with_reducible exact forebayref20_Of.mono _ _ _)
      | (with_reducible exact LeO.refl _)
      | (with_reducible exact LeO.none _)
      | (with_reducible refine LeO.ite ?_ ?_)
      | (with_reducible refine LeO.bind ?_ (fun _ => ?_))
      | exact ih0 _ _ _ _
      | exact ih1 _ _ _ _ _ _
      | exact ih2 _ _ _ _ _ _ _
      | exact forebayref20_Check.mono _ _
      | exact forebayref20_Free.mono _ _
      | exact forebayref20_Of.mono _ _ _
      | exact LeO.none _
      | refine LeO.ite ?_ ?_
      | refine LeO.bind ?_ (fun _ => ?_)
    · intro y0 y1 y2 y3 y4 y5 y6
      unfold forebayref20_Give.j2
      repeat' first
      | (with_reducible exact ih0 _ _ _ _)
      | (with_reducible exact ih1 _ _ _ _ _ _)
      | (with_reducible exact ih2 _ _ _ _ _ _ _)
      | (with_reducible exact forebayref20_Check.mono _ _)
      | (with_reducible exact forebayref20_Free.mono _ _)
      | (with_reducible exact forebayref20_Of.mono _ _ _)
      | (with_reducible exact LeO.refl _)
      | (with_reducible exact LeO.none _)
      | (with_reducible refine LeO.ite ?_ ?_)
      | (with_reducible refine LeO.bind ?_ (fun _ => ?_))
      | exact ih0 _ _ _ _
      | exact ih1 _ _ _ _ _ _
      | exact ih2 _ _ _ _ _ _ _
      | exact forebayref20_Check.mono _ _
      | exact forebayref20_Free.mono _ _
      | exact forebayref20_Of.mono _ _ _
      | exact LeO.none _
      | refine LeO.ite ?_ ?_
      | refine LeO.bind ?_ (fun _ => ?_)
theorem forebayref20_Give.mono : ∀ a0 a1 a2 k, LeO (forebayref20_Give.f k a0 a1 a2) (forebayref20_Give.f (k + 1) a0 a1 a2) := by
  intro a0 a1 a2 k
  obtain ⟨ih0, ih1, ih2⟩ := forebayref20_Give.mono_l k
  unfold forebayref20_Give.f
  repeat' first
      | (with_reducible exact ih0 _ _ _ _)
      | (with_reducible exact ih1 _ _ _ _ _ _)
      | (with_reducible exact ih2 _ _ _ _ _ _ _)
      | (with_reducible exact forebayref20_Check.mono _ _)
      | (with_reducible exact forebayref20_Free.mono _ _)
      | (with_reducible exact forebayref20_Of.mono _ _ _)
      | (with_reducible exact LeO.refl _)
      | (with_reducible exact LeO.none _)
      | (with_reducible refine LeO.ite ?_ ?_)
      | (with_reducible refine LeO.bind ?_ (fun _ => ?_))
      | exact ih0 _ _ _ _
      | exact ih1 _ _ _ _ _ _
      | exact ih2 _ _ _ _ _ _ _
      | exact forebayref20_Check.mono _ _
      | exact forebayref20_Free.mono _ _
      | exact forebayref20_Of.mono _ _ _
      | exact LeO.none _
      | refine LeO.ite ?_ ?_
      | refine LeO.bind ?_ (fun _ => ?_)
set_option maxHeartbeats 8000000 in
set_option maxRecDepth 100000 in
theorem forebayref20_Give.calls (k : Nat) (A0 : Option Addr) (c0 : Nat) (l0 : List (S35)) (a1 : Int) (a2 : Int) (r1 : List (S35)) (r2 : List Int) (r3 : Int) (w : World) (hr0 : Kd.C k35 w A0 l0.length l0) (hc0 : l0.length ≤ c0) (h : forebayref20_Give.f k l0 a1 a2 = some (r1, r2, r3)) :
    Calls Try.prog 18 #[.slice A0 l0.length c0, .int .i64 a1, .int .i64 a2] w fun e w' => ∃ v0_ v1_ : Value, e = .returned (.tuple #[v0_, v1_, .int .i64 r3]) ∧ Kd.R k35 35 w' w.heap.size (fun _ => True) v0_ r1 ∧ Kd.R (Kd.int .i64) 3 w' w.heap.size (fun _ => True) v1_ r2 ∧ Below w.heap.size w w' := by
  have HR0 := Aside0.mk hr0
  have HC0 := Aside0.mk hc0
  clear hr0 hc0
  have HB := Aside0.mk (Below.refl w.heap.size w)
  have H : ((forebayref20_Check.f k l0).bind fun t138 => (if t138 = 0 then ((forebayref20_job.f a1).bind fun t139 => (if t139 = true then (if a2 < 1 then (forebayref20_Give.j0 k l0 a1 a2 true) else (forebayref20_Give.j0 k l0 a1 a2 (decide (a2 > 64)))) else (forebayref20_Give.j0 k l0 a1 a2 true))) else (forebayref20_Give.j0 k l0 a1 a2 true))) = some (r1, r2, r3) := h
  clear h
  have HC4 := Aside0.mk H
  clear H
  go_enter Try.func18, Try.ntmps18
  go_upto_region 1 with (fail)
  go_cut [27] (fun v27 wc => ∃ (kq : Nat) (x27_3 : Bool), v27 = .bool x27_3 ∧ Aside0 (forebayref20_Give.j0 kq l0 a1 a2 x27_3 = some (r1, r2, r3)) ∧ Aside0 (kq ≤ k) ∧ Aside0 (Below w.heap.size w wc))
  case first =>
    have H := HC4.out
    clear HC4
    replace H := Option.bind_eq_some_iff.mp H
    obtain ⟨t138, A50, H⟩ := H
    replace H : (if t138 = 0 then ((forebayref20_job.f a1).bind fun t139 => (if t139 = true then (if a2 < 1 then (forebayref20_Give.j0 k l0 a1 a2 true) else (forebayref20_Give.j0 k l0 a1 a2 (decide (a2 > 64)))) else (forebayref20_Give.j0 k l0 a1 a2 true))) else (forebayref20_Give.j0 k l0 a1 a2 true)) = some (r1, r2, r3) := H
    have A5 := Aside0.mk A50
    clear A50
    by_cases c6 : t138 = 0
    · rw [if_pos c6] at H
      have c6b0 : (t138 == 0) = true := beq_iff_eq.mpr c6
      have c6b1 : (t138 != 0) = false := bne_eq_false_iff_eq.mpr c6
      clear c6
      (first | rw [c6b0] | (simp only [i64_w, i32_w]; rw [c6b0]) | skip)
      replace H := Option.bind_eq_some_iff.mp H
      obtain ⟨t139, A70, H⟩ := H
      replace H : (if t139 = true then (if a2 < 1 then (forebayref20_Give.j0 k l0 a1 a2 true) else (forebayref20_Give.j0 k l0 a1 a2 (decide (a2 > 64)))) else (forebayref20_Give.j0 k l0 a1 a2 true)) = some (r1, r2, r3) := H
      have A7 := Aside0.mk A70
      clear A70
      by_cases c8 : t139 = true
      · subst c8
        have H1 : (if a2 < 1 then (forebayref20_Give.j0 k l0 a1 a2 true) else (forebayref20_Give.j0 k l0 a1 a2 (decide (a2 > 64)))) = some (r1, r2, r3) := by rw [if_pos rfl] at H; exact H
        clear H
        have H := H1
        clear H1
        by_cases c9 : a2 < 1
        · rw [if_pos c9] at H
          have c9b0 : decide (a2 < 1) = true := decide_eq_true c9
          clear c9
          have H' := Aside0.mk H
          clear H
          go_wp2_with (first | ((with_reducible refine gate_callee (f := 20) rfl ?_); refine goesL_ (some 13) rfl rfl Try.func20 (by kernel_rfl) rfl #[.slice A0 l0.length c0] rfl (by (try simp only [List.map_toArray, List.map_cons, List.map_nil]); first | done | rfl | (simp only [List.length_drop, List.length_take]; rfl)) ?_; (with_reducible refine (forebayref20_Check.calls k _ _ l0 t138 _ ?side1 ?side2 A5.out).mono ?_); (case side1 => repeat (first | exact (Kd.C_below HR0.out HB.out) | (with_reducible refine Kd.C_alloc ?_ _) | (with_reducible refine Kd.C_drewN ?_ _) | (with_reducible refine Kd.C_drew ?_))); (case side2 => exact HC0.out); rintro e w' ⟨rfl, ⟨nd, rfl⟩⟩; refine ⟨_, rfl, ?_⟩) | (go_at_call 39; (with_reducible refine (forebayref20_job.calls a1 true _ A7.out).mono ?_); rintro e w' ⟨rfl, ⟨nd, rfl⟩⟩))
          go_meet
          case rel => exact ⟨_, (true), (by first | rfl | (simp; done) | (simp [*]; done) | (simp; exact isEmpty_bne _)), H', ⟨by first | omega | exact Nat.le_refl _⟩, ⟨by repeat (first | (with_reducible first | exact HB.out | apply below_alloc | apply pw_below_drewN | apply below_drew1) | exact HB.out)⟩⟩
        · rw [if_neg c9] at H
          have c9b0 : decide (a2 < 1) = false := decide_eq_false c9
          clear c9
          have H' := Aside0.mk H
          clear H
          go_wp2_with (first | ((with_reducible refine gate_callee (f := 20) rfl ?_); refine goesL_ (some 13) rfl rfl Try.func20 (by kernel_rfl) rfl #[.slice A0 l0.length c0] rfl (by (try simp only [List.map_toArray, List.map_cons, List.map_nil]); first | done | rfl | (simp only [List.length_drop, List.length_take]; rfl)) ?_; (with_reducible refine (forebayref20_Check.calls k _ _ l0 t138 _ ?side1 ?side2 A5.out).mono ?_); (case side1 => repeat (first | exact (Kd.C_below HR0.out HB.out) | (with_reducible refine Kd.C_alloc ?_ _) | (with_reducible refine Kd.C_drewN ?_ _) | (with_reducible refine Kd.C_drew ?_))); (case side2 => exact HC0.out); rintro e w' ⟨rfl, ⟨nd, rfl⟩⟩; refine ⟨_, rfl, ?_⟩) | (go_at_call 39; (with_reducible refine (forebayref20_job.calls a1 true _ A7.out).mono ?_); rintro e w' ⟨rfl, ⟨nd, rfl⟩⟩))
          go_meet
          case rel => exact ⟨_, (decide (a2 > 64)), (by first | rfl | (simp; done) | (simp [*]; done) | (simp; exact isEmpty_bne _)), H', ⟨by first | omega | exact Nat.le_refl _⟩, ⟨by repeat (first | (with_reducible first | exact HB.out | apply below_alloc | apply pw_below_drewN | apply below_drew1) | exact HB.out)⟩⟩
      · replace c8 := Bool.eq_false_iff.mpr c8
        subst c8
        have H1 : (forebayref20_Give.j0 k l0 a1 a2 true) = some (r1, r2, r3) := by rw [if_neg (show ¬ (false = true) by decide)] at H; exact H
        clear H
        have H := H1
        clear H1
        have H' := Aside0.mk H
        clear H
        go_wp2_with (first | ((with_reducible refine gate_callee (f := 20) rfl ?_); refine goesL_ (some 13) rfl rfl Try.func20 (by kernel_rfl) rfl #[.slice A0 l0.length c0] rfl (by (try simp only [List.map_toArray, List.map_cons, List.map_nil]); first | done | rfl | (simp only [List.length_drop, List.length_take]; rfl)) ?_; (with_reducible refine (forebayref20_Check.calls k _ _ l0 t138 _ ?side1 ?side2 A5.out).mono ?_); (case side1 => repeat (first | exact (Kd.C_below HR0.out HB.out) | (with_reducible refine Kd.C_alloc ?_ _) | (with_reducible refine Kd.C_drewN ?_ _) | (with_reducible refine Kd.C_drew ?_))); (case side2 => exact HC0.out); rintro e w' ⟨rfl, ⟨nd, rfl⟩⟩; refine ⟨_, rfl, ?_⟩) | (go_at_call 39; (with_reducible refine (forebayref20_job.calls a1 false _ A7.out).mono ?_); rintro e w' ⟨rfl, ⟨nd, rfl⟩⟩))
        go_meet
        case rel => exact ⟨_, (true), (by first | rfl | (simp; done) | (simp [*]; done) | (simp; exact isEmpty_bne _)), H', ⟨by first | omega | exact Nat.le_refl _⟩, ⟨by repeat (first | (with_reducible first | exact HB.out | apply below_alloc | apply pw_below_drewN | apply below_drew1) | exact HB.out)⟩⟩
    · rw [if_neg c6] at H
      have c6b0 : (t138 == 0) = false := beq_eq_false_iff_ne.mpr c6
      have c6b1 : (t138 != 0) = true := bne_iff_ne.mpr c6
      (first | rw [c6b0] | (simp only [i64_w, i32_w]; rw [c6b0]) | skip)
      have H' := Aside0.mk H
      clear H
      go_wp2_with (first | ((with_reducible refine gate_callee (f := 20) rfl ?_); refine goesL_ (some 13) rfl rfl Try.func20 (by kernel_rfl) rfl #[.slice A0 l0.length c0] rfl (by (try simp only [List.map_toArray, List.map_cons, List.map_nil]); first | done | rfl | (simp only [List.length_drop, List.length_take]; rfl)) ?_; (with_reducible refine (forebayref20_Check.calls k _ _ l0 t138 _ ?side1 ?side2 A5.out).mono ?_); (case side1 => repeat (first | exact (Kd.C_below HR0.out HB.out) | (with_reducible refine Kd.C_alloc ?_ _) | (with_reducible refine Kd.C_drewN ?_ _) | (with_reducible refine Kd.C_drew ?_))); (case side2 => exact HC0.out); rintro e w' ⟨rfl, ⟨nd, rfl⟩⟩; refine ⟨_, rfl, ?_⟩))
      go_meet
      case rel => exact ⟨_, (true), (by first | rfl | (simp; done) | (simp [*]; done) | (simp; exact isEmpty_bne _)), H', ⟨by first | omega | exact Nat.le_refl _⟩, ⟨by repeat (first | (with_reducible first | exact HB.out | apply below_alloc | apply pw_below_drewN | apply below_drew1) | exact HB.out)⟩⟩
  case rest =>
    clear HC4
    try clear c1
    try clear c2
    try clear p2
    try clear c6
    try clear c6b0
    try clear c6b1
    try clear c8
    try clear c9
    try clear c9b0
    obtain ⟨kq, x27_3, rfl, HA, HJ3, HB⟩ := hcut
    cases kq with
    | zero => exact absurd HA.out (by simp [forebayref20_Give.j0])
    | succ kj3 =>
      have H := HA.out
      clear HA
      simp only [forebayref20_Give.j0] at H
      by_cases c10 : x27_3 = true
      · subst c10
        have H1 : (some (([] : List (S35)), ([] : List Int), 2)) = some (r1, r2, r3) := by rw [if_pos rfl] at H; exact H
        clear H
        have H := H1
        clear H1
        simp only [Option.some.injEq, Prod.mk.injEq] at H
        obtain ⟨rfl, rfl, rfl⟩ := H
        go_wp2
        go_ret3
        exact ⟨_, _, by first | rfl | (simp [errW_none, errW_some] <;> rfl) | (simp [*, errW_none, errW_some] <;> rfl), by first | exact Kd.R_nil _ _ _ _ _ | exact Kd.N_nil _ _ _ _ _ | exact Kd.V_nil _ _ _ _ _ | exact Kd.Q_nil _ _ _ _ _ | exact Kd.S_nil _ _ _ _ _, by first | exact Kd.R_nil _ _ _ _ _ | exact Kd.N_nil _ _ _ _ _ | exact Kd.V_nil _ _ _ _ _ | exact Kd.Q_nil _ _ _ _ _ | exact Kd.S_nil _ _ _ _ _, by repeat (first | (with_reducible first | exact HB.out | apply below_alloc | apply pw_below_drewN | apply below_drew1) | exact HB.out)⟩
      · replace c10 := Bool.eq_false_iff.mpr c10
        subst c10
        have H1 : ((forebayref20_Of.f kj3 l0 a1).bind fun t140 => (if (t140.length : Int) > 0 then (some (([] : List (S35)), ([] : List Int), 8)) else ((forebayref20_Free.f kj3 l0).bind fun t143 => (if t143 < a2 then (some (([] : List (S35)), ([] : List Int), 6)) else ((forebayref20_own.f l0).bind fun t144 => (forebayref20_Give.l0 kj3 l0 a1 a2 t144 ([] : List Int) 0)))))) = some (r1, r2, r3) := by rw [if_neg (show ¬ (false = true) by decide)] at H; exact H
        clear H
        have H := H1
        clear H1
        replace H := Option.bind_eq_some_iff.mp H
        obtain ⟨t140, A110, H⟩ := H
        replace H : (if (t140.length : Int) > 0 then (some (([] : List (S35)), ([] : List Int), 8)) else ((forebayref20_Free.f kj3 l0).bind fun t143 => (if t143 < a2 then (some (([] : List (S35)), ([] : List Int), 6)) else ((forebayref20_own.f l0).bind fun t144 => (forebayref20_Give.l0 kj3 l0 a1 a2 t144 ([] : List Int) 0))))) = some (r1, r2, r3) := H
        have A11 := Aside0.mk A110
        clear A110
        by_cases c12 : (t140.length : Int) > 0
        · rw [if_pos c12] at H
          have c12b0 : decide (0 < (t140.length : Int)) = true := decide_eq_true c12
          have c12b1 : decide (0 < t140.length) = true := decide_eq_true (by omega)
          clear c12
          simp only [Option.some.injEq, Prod.mk.injEq] at H
          obtain ⟨rfl, rfl, rfl⟩ := H
          go_wp2_with (first | ((with_reducible refine gate_callee (f := 23) rfl ?_); refine goesL_ (some 30) rfl rfl Try.func23 (by kernel_rfl) rfl #[.slice A0 l0.length c0, .int .i64 a1] rfl (by (try simp only [List.map_toArray, List.map_cons, List.map_nil]); first | done | rfl | (simp only [List.length_drop, List.length_take]; rfl)) ?_; (with_reducible refine (forebayref20_Of.calls kj3 _ _ l0 a1 t140 _ ?side1 ?side2 A11.out).mono ?_); (case side1 => repeat (first | exact (Kd.C_below HR0.out HB.out) | (with_reducible refine Kd.C_alloc ?_ _) | (with_reducible refine Kd.C_drewN ?_ _) | (with_reducible refine Kd.C_drew ?_))); (case side2 => exact HC0.out); rintro e w13 ⟨v141, rfl, ho0, hb⟩; refine ⟨_, rfl, ?_⟩; have n0_ := Aside0.mk (Kd.R_lower ho0 (below_size (by repeat (first | (with_reducible first | exact HB.out | apply below_alloc | apply pw_below_drewN | apply below_drew1) | exact HB.out)))); have n1_ := Aside0.mk (below_step (by repeat (first | (with_reducible first | exact HB.out | apply below_alloc | apply pw_below_drewN | apply below_drew1) | exact HB.out)) hb); clear HB; have HO142 := n0_; have HB := n1_; clear n0_ n1_; (try clear hb); (try clear hb2); (try clear hk); (try clear hi); (try clear ho0); obtain ⟨Ao14, co14, eo14⟩ := Kd.R_slice HO142.out; subst eo14))
          go_ret3
          exact ⟨_, _, by first | rfl | (simp [errW_none, errW_some] <;> rfl) | (simp [*, errW_none, errW_some] <;> rfl), by first | exact Kd.R_nil _ _ _ _ _ | exact Kd.N_nil _ _ _ _ _ | exact Kd.V_nil _ _ _ _ _ | exact Kd.Q_nil _ _ _ _ _ | exact Kd.S_nil _ _ _ _ _, by first | exact Kd.R_nil _ _ _ _ _ | exact Kd.N_nil _ _ _ _ _ | exact Kd.V_nil _ _ _ _ _ | exact Kd.Q_nil _ _ _ _ _ | exact Kd.S_nil _ _ _ _ _, by repeat (first | (with_reducible first | exact HB.out | apply below_alloc | apply pw_below_drewN | apply below_drew1) | exact HB.out)⟩
        · rw [if_neg c12] at H
          have c12b0 : decide (0 < (t140.length : Int)) = false := decide_eq_false c12
          have c12b1 : decide (0 < t140.length) = false := decide_eq_false (by omega)
          clear c12
          replace H := Option.bind_eq_some_iff.mp H
          obtain ⟨t143, A150, H⟩ := H
          replace H : (if t143 < a2 then (some (([] : List (S35)), ([] : List Int), 6)) else ((forebayref20_own.f l0).bind fun t144 => (forebayref20_Give.l0 kj3 l0 a1 a2 t144 ([] : List Int) 0))) = some (r1, r2, r3) := H
          have A15 := Aside0.mk A150
          clear A150
          by_cases c16 : t143 < a2
          · rw [if_pos c16] at H
            have c16b0 : decide (t143 < a2) = true := decide_eq_true c16
            clear c16
            simp only [Option.some.injEq, Prod.mk.injEq] at H
            obtain ⟨rfl, rfl, rfl⟩ := H
            go_wp2_with (first | ((with_reducible refine gate_callee (f := 23) rfl ?_); refine goesL_ (some 30) rfl rfl Try.func23 (by kernel_rfl) rfl #[.slice A0 l0.length c0, .int .i64 a1] rfl (by (try simp only [List.map_toArray, List.map_cons, List.map_nil]); first | done | rfl | (simp only [List.length_drop, List.length_take]; rfl)) ?_; (with_reducible refine (forebayref20_Of.calls kj3 _ _ l0 a1 t140 _ ?side1 ?side2 A11.out).mono ?_); (case side1 => repeat (first | exact (Kd.C_below HR0.out HB.out) | (with_reducible refine Kd.C_alloc ?_ _) | (with_reducible refine Kd.C_drewN ?_ _) | (with_reducible refine Kd.C_drew ?_))); (case side2 => exact HC0.out); rintro e w17 ⟨v141, rfl, ho0, hb⟩; refine ⟨_, rfl, ?_⟩; have n0_ := Aside0.mk (Kd.R_lower ho0 (below_size (by repeat (first | (with_reducible first | exact HB.out | apply below_alloc | apply pw_below_drewN | apply below_drew1) | exact HB.out)))); have n1_ := Aside0.mk (below_step (by repeat (first | (with_reducible first | exact HB.out | apply below_alloc | apply pw_below_drewN | apply below_drew1) | exact HB.out)) hb); clear HB; have HO142 := n0_; have HB := n1_; clear n0_ n1_; (try clear hb); (try clear hb2); (try clear hk); (try clear hi); (try clear ho0); obtain ⟨Ao18, co18, eo18⟩ := Kd.R_slice HO142.out; subst eo18) | ((with_reducible refine gate_callee (f := 22) rfl ?_); refine goesL_ (some 34) rfl rfl Try.func22 (by kernel_rfl) rfl #[.slice A0 l0.length c0] rfl (by (try simp only [List.map_toArray, List.map_cons, List.map_nil]); first | done | rfl | (simp only [List.length_drop, List.length_take]; rfl)) ?_; (with_reducible refine (forebayref20_Free.calls kj3 _ _ l0 t143 _ ?side1 ?side2 A15.out).mono ?_); (case side1 => repeat (first | exact (Kd.C_below HR0.out HB.out) | (with_reducible refine Kd.C_alloc ?_ _) | (with_reducible refine Kd.C_drewN ?_ _) | (with_reducible refine Kd.C_drew ?_))); (case side2 => exact HC0.out); rintro e w' ⟨rfl, ⟨nd, rfl⟩⟩; refine ⟨_, rfl, ?_⟩))
            go_ret3
            exact ⟨_, _, by first | rfl | (simp [errW_none, errW_some] <;> rfl) | (simp [*, errW_none, errW_some] <;> rfl), by first | exact Kd.R_nil _ _ _ _ _ | exact Kd.N_nil _ _ _ _ _ | exact Kd.V_nil _ _ _ _ _ | exact Kd.Q_nil _ _ _ _ _ | exact Kd.S_nil _ _ _ _ _, by first | exact Kd.R_nil _ _ _ _ _ | exact Kd.N_nil _ _ _ _ _ | exact Kd.V_nil _ _ _ _ _ | exact Kd.Q_nil _ _ _ _ _ | exact Kd.S_nil _ _ _ _ _, by repeat (first | (with_reducible first | exact HB.out | apply below_alloc | apply pw_below_drewN | apply below_drew1) | exact HB.out)⟩
          · rw [if_neg c16] at H
            have c16b0 : decide (t143 < a2) = false := decide_eq_false c16
            clear c16
            replace H := Option.bind_eq_some_iff.mp H
            obtain ⟨t144, A190, H⟩ := H
            replace H : (forebayref20_Give.l0 kj3 l0 a1 a2 t144 ([] : List Int) 0) = some (r1, r2, r3) := H
            have A19 := Aside0.mk A190
            clear A190
            have H' := Aside0.mk H
            clear H
            go_wp2_with (first | ((with_reducible refine gate_callee (f := 23) rfl ?_); refine goesL_ (some 30) rfl rfl Try.func23 (by kernel_rfl) rfl #[.slice A0 l0.length c0, .int .i64 a1] rfl (by (try simp only [List.map_toArray, List.map_cons, List.map_nil]); first | done | rfl | (simp only [List.length_drop, List.length_take]; rfl)) ?_; (with_reducible refine (forebayref20_Of.calls kj3 _ _ l0 a1 t140 _ ?side1 ?side2 A11.out).mono ?_); (case side1 => repeat (first | exact (Kd.C_below HR0.out HB.out) | (with_reducible refine Kd.C_alloc ?_ _) | (with_reducible refine Kd.C_drewN ?_ _) | (with_reducible refine Kd.C_drew ?_))); (case side2 => exact HC0.out); rintro e w20 ⟨v141, rfl, ho0, hb⟩; refine ⟨_, rfl, ?_⟩; have n0_ := Aside0.mk (Kd.R_lower ho0 (below_size (by repeat (first | (with_reducible first | exact HB.out | apply below_alloc | apply pw_below_drewN | apply below_drew1) | exact HB.out)))); have n1_ := Aside0.mk (below_step (by repeat (first | (with_reducible first | exact HB.out | apply below_alloc | apply pw_below_drewN | apply below_drew1) | exact HB.out)) hb); clear HB; have HO142 := n0_; have HB := n1_; clear n0_ n1_; (try clear hb); (try clear hb2); (try clear hk); (try clear hi); (try clear ho0); obtain ⟨Ao21, co21, eo21⟩ := Kd.R_slice HO142.out; subst eo21) | ((with_reducible refine gate_callee (f := 22) rfl ?_); refine goesL_ (some 34) rfl rfl Try.func22 (by kernel_rfl) rfl #[.slice A0 l0.length c0] rfl (by (try simp only [List.map_toArray, List.map_cons, List.map_nil]); first | done | rfl | (simp only [List.length_drop, List.length_take]; rfl)) ?_; (with_reducible refine (forebayref20_Free.calls kj3 _ _ l0 t143 _ ?side1 ?side2 A15.out).mono ?_); (case side1 => repeat (first | exact (Kd.C_below HR0.out HB.out) | (with_reducible refine Kd.C_alloc ?_ _) | (with_reducible refine Kd.C_drewN ?_ _) | (with_reducible refine Kd.C_drew ?_))); (case side2 => exact HC0.out); rintro e w' ⟨rfl, ⟨nd, rfl⟩⟩; refine ⟨_, rfl, ?_⟩) | ((with_reducible refine gate_callee (f := 40) rfl ?_); refine goesL_ (some 38) rfl rfl Try.func40 (by kernel_rfl) rfl #[.slice A0 l0.length c0] rfl (by (try simp only [List.map_toArray, List.map_cons, List.map_nil]); first | done | rfl | (simp only [List.length_drop, List.length_take]; rfl)) ?_; (with_reducible refine (forebayref20_own.calls _ _ l0 t144 _ ?side1 ?side2 A19.out).mono ?_); (case side1 => repeat (first | exact (Kd.C_below HR0.out (by repeat (first | (with_reducible first | exact HB.out | apply below_alloc | apply pw_below_drewN | apply below_drew1) | exact HB.out))) | (with_reducible refine Kd.C_alloc ?_ _) | (with_reducible refine Kd.C_drewN ?_ _) | (with_reducible refine Kd.C_drew ?_))); (case side2 => exact HC0.out); rintro e w22 ⟨v145, rfl, ho0, hb⟩; refine ⟨_, rfl, ?_⟩; have n0_ := Aside0.mk (Kd.R_below (by (with_reducible repeat (first | apply Kd.R_alloc | apply Kd.R_drewN | apply Kd.R_drew)); exact HO142.out) hb); have n1_ := Aside0.mk (Kd.R_lower ho0 (below_size (by repeat (first | (with_reducible first | exact HB.out | apply below_alloc | apply pw_below_drewN | apply below_drew1) | exact HB.out)))); have n2_ := Aside0.mk (below_step (by repeat (first | (with_reducible first | exact HB.out | apply below_alloc | apply pw_below_drewN | apply below_drew1) | exact HB.out)) hb); clear HO142; clear HB; have HO142 := n0_; have HO146 := n1_; have HB := n2_; clear n0_ n1_ n2_; (try clear hb); (try clear hb2); (try clear hk); (try clear hi); (try clear ho0)))
            go_loopg [10, 11] kj3 (fun kq v10 v11 w' => ∃ (x9_2 : List (S35)) (x10_2 : List Int) (x11_2 : Int), v11 = .int .i64 x11_2 ∧ Aside0 (forebayref20_Give.l0 kq l0 a1 a2 x9_2 x10_2 x11_2 = some (r1, r2, r3)) ∧ Aside0 (kq ≤ kj3) ∧ Aside0 (Kd.R k35 35 w' w.heap.size (fun _ => True) v145 x9_2) ∧ Aside0 (Kd.R (Kd.int .i64) 3 w' w.heap.size (fun _ => True) v10 x10_2) ∧ Aside0 (Below w.heap.size w w'))
            case atStart => exact ⟨(t144), (([] : List Int)), (0), (by first | rfl | (simp; done) | (simp [*]; done) | (simp; exact isEmpty_bne _)), H', ⟨Nat.le_refl _⟩, ⟨by (with_reducible repeat (first | apply Kd.R_alloc | apply Kd.R_drewN | apply Kd.R_drew)); exact HO146.out⟩, ⟨by first | exact Kd.R_nil _ _ _ _ _ | exact Kd.N_nil _ _ _ _ _ | exact Kd.V_nil _ _ _ _ _ | exact Kd.Q_nil _ _ _ _ _ | exact Kd.S_nil _ _ _ _ _⟩, ⟨by repeat (first | (with_reducible first | exact HB.out | apply below_alloc | apply pw_below_drewN | apply below_drew1) | exact HB.out)⟩⟩
            case round =>
              clear H'
              try clear c1
              try clear c2
              try clear p2
              try clear c4
              try clear c6
              try clear c6b0
              try clear c6b1
              try clear c8
              try clear c9
              try clear c9b0
              try clear c10
              try clear c12
              try clear c12b0
              try clear c12b1
              try clear c16
              try clear c16b0
              try clear c18
              try clear c20
              try clear c22
              try clear p2
              obtain ⟨x9_2, x10_2, x11_2, rfl, HA, HK2, HO_9, HO_10, HB⟩ := hrel
              cases gk with
              | zero => exact absurd HA.out (by simp [forebayref20_Give.l0])
              | succ k2 =>
                have H := HA.out
                clear HA
                simp only [forebayref20_Give.l0] at H
                have HC23 := Aside0.mk H
                clear H
                go_upto_region 10 with (fail)
                go_cut [48] (fun v48 wc => ∃ (kq : Nat) (x48_22 : Bool), v48 = .bool x48_22 ∧ Aside0 (forebayref20_Give.j2 kq l0 a1 a2 x9_2 x10_2 x11_2 x48_22 = some (r1, r2, r3)) ∧ Aside0 (kq ≤ k2) ∧ Aside0 (Kd.R k35 35 wc w.heap.size (fun _ => True) v145 x9_2) ∧ Aside0 (Kd.R (Kd.int .i64) 3 wc w.heap.size (fun _ => True) u10 x10_2) ∧ Aside0 (Below w.heap.size w wc))
                case first =>
                  have H := HC23.out
                  clear HC23
                  by_cases c24 : x11_2 < (l0.length : Int)
                  · rw [if_pos c24] at H
                    have c24b0 : decide (x11_2 < (l0.length : Int)) = true := decide_eq_true c24
                    clear c24
                    (first | rw [c24b0] | (simp only [i64_w, i32_w]; rw [c24b0]) | skip)
                    have H' := Aside0.mk H
                    clear H
                    obtain ⟨Ao25, co25, eo25⟩ := Kd.R_slice HO_10.out
                    subst eo25
                    go_wp2
                    go_meet
                    case rel => exact ⟨_, (decide ((x10_2.length : Int) < a2)), (by first | rfl | (simp; done) | (simp [*]; done) | (simp; exact isEmpty_bne _)), H', ⟨by have := HJ3.out; have := HK2.out; first | omega | exact Nat.le_refl _⟩, ⟨by (with_reducible repeat (first | apply Kd.R_alloc | apply Kd.R_drewN | apply Kd.R_drew)); exact HO_9.out⟩, ⟨by (with_reducible repeat (first | apply Kd.R_alloc | apply Kd.R_drewN | apply Kd.R_drew)); exact HO_10.out⟩, ⟨by repeat (first | (with_reducible first | exact HB.out | apply below_alloc | apply pw_below_drewN | apply below_drew1) | exact HB.out)⟩⟩
                  · rw [if_neg c24] at H
                    have c24b0 : decide (x11_2 < (l0.length : Int)) = false := decide_eq_false c24
                    clear c24
                    (first | rw [c24b0] | (simp only [i64_w, i32_w]; rw [c24b0]) | skip)
                    have H' := Aside0.mk H
                    clear H
                    go_wp2
                    go_meet
                    case rel => exact ⟨_, (false), (by first | rfl | (simp; done) | (simp [*]; done) | (simp; exact isEmpty_bne _)), H', ⟨by have := HJ3.out; have := HK2.out; first | omega | exact Nat.le_refl _⟩, ⟨by (with_reducible repeat (first | apply Kd.R_alloc | apply Kd.R_drewN | apply Kd.R_drew)); exact HO_9.out⟩, ⟨by (with_reducible repeat (first | apply Kd.R_alloc | apply Kd.R_drewN | apply Kd.R_drew)); exact HO_10.out⟩, ⟨by repeat (first | (with_reducible first | exact HB.out | apply below_alloc | apply pw_below_drewN | apply below_drew1) | exact HB.out)⟩⟩
                case rest =>
                  clear HC23
                  try clear c1
                  try clear c2
                  try clear p2
                  try clear c4
                  try clear c6
                  try clear c6b0
                  try clear c6b1
                  try clear c8
                  try clear c9
                  try clear c9b0
                  try clear c10
                  try clear c12
                  try clear c12b0
                  try clear c12b1
                  try clear c16
                  try clear c16b0
                  try clear c18
                  try clear c20
                  try clear c22
                  try clear c23
                  try clear c24
                  try clear c24b0
                  try clear p2
                  obtain ⟨kq, x48_22, rfl, HA, HJ22, HO_9, HO_10, HB⟩ := hcut
                  cases kq with
                  | zero => exact absurd HA.out (by simp [forebayref20_Give.j2])
                  | succ kj22 =>
                    have H := HA.out
                    clear HA
                    simp only [forebayref20_Give.j2] at H
                    by_cases c26 : x48_22 = true
                    · subst c26
                      have H1 : (if 0 ≤ x11_2 then (if x11_2 < (l0.length : Int) then (if (rd_T35 l0 x11_2).f0 = true then (if (rd_T35 l0 x11_2).f1 = true then (if ((rd_T35 l0 x11_2).f2) = 0 then (if x11_2 < (x9_2.length : Int) then (if x10_2.length < 17592186044416 then (forebayref20_Give.l0 kj22 l0 a1 a2 (x9_2.set (x11_2 : Int).toNat (⟨(rd_T35 x9_2 x11_2).f0, (rd_T35 x9_2 x11_2).f1, a1⟩ : S35)) (x10_2 ++ [x11_2]) (wrap64 (x11_2 + 1))) else (none)) else (none)) else (forebayref20_Give.l0 kj22 l0 a1 a2 x9_2 x10_2 (wrap64 (x11_2 + 1)))) else (forebayref20_Give.l0 kj22 l0 a1 a2 x9_2 x10_2 (wrap64 (x11_2 + 1)))) else (forebayref20_Give.l0 kj22 l0 a1 a2 x9_2 x10_2 (wrap64 (x11_2 + 1)))) else (none)) else (none)) = some (r1, r2, r3) := by rw [if_pos rfl] at H; exact H
                      clear H
                      have H := H1
                      clear H1
                      by_cases c27 : 0 ≤ x11_2
                      · rw [if_pos c27] at H
                        have c27b0 : decide (0 ≤ x11_2) = true := decide_eq_true c27
                        clear c27
                        by_cases c28 : x11_2 < (l0.length : Int)
                        · rw [if_pos c28] at H
                          have c28b0 : decide (x11_2 < (l0.length : Int)) = true := decide_eq_true c28
                          clear c28
                          obtain ⟨bq29, hbq29⟩ : ∃ b_ : Bool, b_ = ((rd_T35 l0 x11_2).f0) := ⟨_, rfl⟩
                          replace H : (if bq29 = true then (if (rd_T35 l0 x11_2).f1 = true then (if ((rd_T35 l0 x11_2).f2) = 0 then (if x11_2 < (x9_2.length : Int) then (if x10_2.length < 17592186044416 then (forebayref20_Give.l0 kj22 l0 a1 a2 (x9_2.set (x11_2 : Int).toNat (⟨(rd_T35 x9_2 x11_2).f0, (rd_T35 x9_2 x11_2).f1, a1⟩ : S35)) (x10_2 ++ [x11_2]) (wrap64 (x11_2 + 1))) else (none)) else (none)) else (forebayref20_Give.l0 kj22 l0 a1 a2 x9_2 x10_2 (wrap64 (x11_2 + 1)))) else (forebayref20_Give.l0 kj22 l0 a1 a2 x9_2 x10_2 (wrap64 (x11_2 + 1)))) else (forebayref20_Give.l0 kj22 l0 a1 a2 x9_2 x10_2 (wrap64 (x11_2 + 1)))) = some (r1, r2, r3) := by rw [← hbq29] at H; exact H
                          have Nbq29 := Aside0.mk hbq29
                          clear hbq29
                          by_cases c30 : bq29 = true
                          · subst c30
                            have H1 : (if (rd_T35 l0 x11_2).f1 = true then (if ((rd_T35 l0 x11_2).f2) = 0 then (if x11_2 < (x9_2.length : Int) then (if x10_2.length < 17592186044416 then (forebayref20_Give.l0 kj22 l0 a1 a2 (x9_2.set (x11_2 : Int).toNat (⟨(rd_T35 x9_2 x11_2).f0, (rd_T35 x9_2 x11_2).f1, a1⟩ : S35)) (x10_2 ++ [x11_2]) (wrap64 (x11_2 + 1))) else (none)) else (none)) else (forebayref20_Give.l0 kj22 l0 a1 a2 x9_2 x10_2 (wrap64 (x11_2 + 1)))) else (forebayref20_Give.l0 kj22 l0 a1 a2 x9_2 x10_2 (wrap64 (x11_2 + 1)))) = some (r1, r2, r3) := by rw [if_pos rfl] at H; exact H
                            clear H
                            have H := H1
                            clear H1
                            obtain ⟨bq31, hbq31⟩ : ∃ b_ : Bool, b_ = ((rd_T35 l0 x11_2).f1) := ⟨_, rfl⟩
                            replace H : (if bq31 = true then (if ((rd_T35 l0 x11_2).f2) = 0 then (if x11_2 < (x9_2.length : Int) then (if x10_2.length < 17592186044416 then (forebayref20_Give.l0 kj22 l0 a1 a2 (x9_2.set (x11_2 : Int).toNat (⟨(rd_T35 x9_2 x11_2).f0, (rd_T35 x9_2 x11_2).f1, a1⟩ : S35)) (x10_2 ++ [x11_2]) (wrap64 (x11_2 + 1))) else (none)) else (none)) else (forebayref20_Give.l0 kj22 l0 a1 a2 x9_2 x10_2 (wrap64 (x11_2 + 1)))) else (forebayref20_Give.l0 kj22 l0 a1 a2 x9_2 x10_2 (wrap64 (x11_2 + 1)))) = some (r1, r2, r3) := by rw [← hbq31] at H; exact H
                            have Nbq31 := Aside0.mk hbq31
                            clear hbq31
                            by_cases c32 : bq31 = true
                            · subst c32
                              have H1 : (if ((rd_T35 l0 x11_2).f2) = 0 then (if x11_2 < (x9_2.length : Int) then (if x10_2.length < 17592186044416 then (forebayref20_Give.l0 kj22 l0 a1 a2 (x9_2.set (x11_2 : Int).toNat (⟨(rd_T35 x9_2 x11_2).f0, (rd_T35 x9_2 x11_2).f1, a1⟩ : S35)) (x10_2 ++ [x11_2]) (wrap64 (x11_2 + 1))) else (none)) else (none)) else (forebayref20_Give.l0 kj22 l0 a1 a2 x9_2 x10_2 (wrap64 (x11_2 + 1)))) = some (r1, r2, r3) := by rw [if_pos rfl] at H; exact H
                              clear H
                              have H := H1
                              clear H1
                              by_cases c33 : ((rd_T35 l0 x11_2).f2) = 0
                              · rw [if_pos c33] at H
                                have c33b0 : (((rd_T35 l0 x11_2).f2) == 0) = true := beq_iff_eq.mpr c33
                                have c33b1 : (((rd_T35 l0 x11_2).f2) != 0) = false := bne_eq_false_iff_eq.mpr c33
                                clear c33
                                by_cases c34 : x11_2 < (x9_2.length : Int)
                                · rw [if_pos c34] at H
                                  have c34b0 : decide (x11_2 < (x9_2.length : Int)) = true := decide_eq_true c34
                                  clear c34
                                  obtain ⟨y150, hy150⟩ : ∃ y_ : List (S35), y_ = (x9_2.set (x11_2 : Int).toNat (⟨(rd_T35 x9_2 x11_2).f0, (rd_T35 x9_2 x11_2).f1, a1⟩ : S35)) := ⟨_, rfl⟩
                                  replace H : (if x10_2.length < 17592186044416 then (forebayref20_Give.l0 kj22 l0 a1 a2 y150 (x10_2 ++ [x11_2]) (wrap64 (x11_2 + 1))) else (none)) = some (r1, r2, r3) := by first | (rw [hy150]; with_reducible exact H) | (have H2_ := (Option.bind_some _ _).symm.trans H; rw [hy150]; with_reducible exact H2_) | (have H2_ := (Option.bind_some _ _).symm.trans H; with_reducible exact H2_) | with_reducible exact H | (rw [hy150]; exact H) | exact H
                                  have Ny150 := Aside0.mk hy150
                                  clear hy150
                                  by_cases c36 : x10_2.length < 17592186044416
                                  · rw [if_pos c36] at H
                                    have LMc36 := Aside0.mk c36
                                    clear c36
                                    obtain ⟨y151, hy151⟩ : ∃ y_ : List Int, y_ = (x10_2 ++ [x11_2]) := ⟨_, rfl⟩
                                    replace H : (forebayref20_Give.l0 kj22 l0 a1 a2 y150 y151 (wrap64 (x11_2 + 1))) = some (r1, r2, r3) := by first | (rw [hy151]; with_reducible exact H) | (have H2_ := (Option.bind_some _ _).symm.trans H; rw [hy151]; with_reducible exact H2_) | (have H2_ := (Option.bind_some _ _).symm.trans H; with_reducible exact H2_) | with_reducible exact H | (rw [hy151]; exact H) | exact H
                                    have Ny151 := Aside0.mk hy151
                                    clear hy151
                                    have H' := Aside0.mk H
                                    clear H
                                    have p147 : 0 ≤ (x11_2 : Int) := of_decide_eq_true (by first | (with_reducible assumption) | assumption)
                                    have q147 : x11_2 < (l0.length : Int) := of_decide_eq_true (by first | (with_reducible assumption) | assumption)
                                    obtain ⟨ad147, e147, hx147_0, hx147_1, hx147_2⟩ := at_T35 HR0.out x11_2 p147 q147
                                    (try rw [← Nbq29.out] at hx147_0)
                                    (try rw [← Nbq31.out] at hx147_0)
                                    (try rw [← Nbq29.out] at hx147_1)
                                    (try rw [← Nbq31.out] at hx147_1)
                                    cases e147
                                    replace hx147_0 := (HB.out.cell (World.block_lt_of_cell? w _ hx147_0)).trans hx147_0
                                    replace hx147_1 := (HB.out.cell (World.block_lt_of_cell? w _ hx147_1)).trans hx147_1
                                    replace hx147_2 := (HB.out.cell (World.block_lt_of_cell? w _ hx147_2)).trans hx147_2
                                    replace p147 := eq_true p147
                                    replace q147 := eq_true q147
                                    have p148 : 0 ≤ (x11_2 : Int) := of_decide_eq_true (by first | (with_reducible assumption) | assumption)
                                    have q148 : x11_2 < (l0.length : Int) := of_decide_eq_true (by first | (with_reducible assumption) | assumption)
                                    obtain ⟨ad148, e148, hx148_0, hx148_1, hx148_2⟩ := at_T35 HR0.out x11_2 p148 q148
                                    (try rw [← Nbq29.out] at hx148_0)
                                    (try rw [← Nbq31.out] at hx148_0)
                                    (try rw [← Nbq29.out] at hx148_1)
                                    (try rw [← Nbq31.out] at hx148_1)
                                    obtain rfl : ad147 = ad148 := (by injection e148)
                                    replace hx148_0 := (HB.out.cell (World.block_lt_of_cell? w _ hx148_0)).trans hx148_0
                                    replace hx148_1 := (HB.out.cell (World.block_lt_of_cell? w _ hx148_1)).trans hx148_1
                                    replace hx148_2 := (HB.out.cell (World.block_lt_of_cell? w _ hx148_2)).trans hx148_2
                                    replace p148 := eq_true p148
                                    replace q148 := eq_true q148
                                    have p149 : 0 ≤ (x11_2 : Int) := of_decide_eq_true (by first | (with_reducible assumption) | assumption)
                                    have q149 : x11_2 < (l0.length : Int) := of_decide_eq_true (by first | (with_reducible assumption) | assumption)
                                    obtain ⟨ad149, e149, hx149_0, hx149_1, hx149_2⟩ := at_T35 HR0.out x11_2 p149 q149
                                    (try rw [← Nbq29.out] at hx149_0)
                                    (try rw [← Nbq31.out] at hx149_0)
                                    (try rw [← Nbq29.out] at hx149_1)
                                    (try rw [← Nbq31.out] at hx149_1)
                                    obtain rfl : ad147 = ad149 := (by injection e149)
                                    replace hx149_0 := (HB.out.cell (World.block_lt_of_cell? w _ hx149_0)).trans hx149_0
                                    replace hx149_1 := (HB.out.cell (World.block_lt_of_cell? w _ hx149_1)).trans hx149_1
                                    replace hx149_2 := (HB.out.cell (World.block_lt_of_cell? w _ hx149_2)).trans hx149_2
                                    replace p149 := eq_true p149
                                    replace q149 := eq_true q149
                                    have p35 : 0 ≤ (x11_2 : Int) := of_decide_eq_true (by first | (with_reducible assumption) | assumption)
                                    have q35 : (x11_2 : Int) < ((x9_2.length : Int) : Int) := of_decide_eq_true (by first | (with_reducible assumption) | assumption)
                                    obtain ⟨go35, co35, eo35, gb35, gl35, cl35, HG35⟩ := Kd.R_form HO_9.out (by omega)
                                    (first | cases eo35 | (injection eo35 with ea_ en_ ec_; (first | subst ea_ | (injection ea_ with ea_; subst ea_)); subst ec_; clear en_))
                                    have GB35 := Aside0.mk gb35
                                    have GG35 := Aside0.mk HG35
                                    clear gb35 gl35 HG35
                                    obtain ⟨ce35, hcl35, hM35, hcc35, hfr35⟩ := Kd.R_elem HO_9.out z35 (x11_2 : Int) p35 q35
                                    obtain rfl := k35_openM hM35
                                    have hx35_0 : wc.cell? ⟨go35, (x11_2 : Int).toNat * 3, none⟩ = some (.bool ((rd_T35 x9_2 x11_2).f0)) := hcc35 0 _ rfl
                                    have hx35_1 : wc.cell? ⟨go35, (x11_2 : Int).toNat * 3 + 1, none⟩ = some (.bool ((rd_T35 x9_2 x11_2).f1)) := hcc35 1 _ rfl
                                    have hx35_2 : wc.cell? ⟨go35, (x11_2 : Int).toNat * 3 + 2, none⟩ = some (.int .i64 ((rd_T35 x9_2 x11_2).f2)) := hcc35 2 _ rfl
                                    have hf35_0 : wc.frozen? ⟨go35, (x11_2 : Int).toNat * 3, none⟩ = false := hfr35 0
                                    have hf35_1 : wc.frozen? ⟨go35, (x11_2 : Int).toNat * 3 + 1, none⟩ = false := hfr35 1
                                    have hf35_2 : wc.frozen? ⟨go35, (x11_2 : Int).toNat * 3 + 2, none⟩ = false := hfr35 2
                                    clear hcl35 hcc35 hfr35 hM35
                                    replace p35 := eq_true p35
                                    replace q35 := eq_true q35
                                    have HX37 := Aside0.mk (show Kd.R k35 35 wc w.heap.size (fun _ => True) (.slice (some ⟨go35, 0, none⟩) x9_2.length co35) x9_2 from (by (with_reducible repeat (first | apply Kd.R_alloc | apply Kd.R_drewN | apply Kd.R_drew)); exact HO_9.out))
                                    obtain ⟨ce37, hcl37, hM37, hcc37, hfr37⟩ := Kd.R_elem HX37.out z35 (x11_2 : Int) (of_decide_eq_true (by first | (with_reducible assumption) | assumption)) (by have h_ : (x11_2 : Int) < ((x9_2.length : Int) : Int) := of_decide_eq_true (by first | (with_reducible assumption) | assumption); first | exact h_ | (have e_ := (Kd.R_reads' HO_9.out).1; omega) | simpa using h_)
                                    obtain rfl := k35_openM hM37
                                    have HP37 := Kd.R_seg HX37.out (x11_2 : Int) (of_decide_eq_true (by first | (with_reducible assumption) | assumption)) (by have h_ : (x11_2 : Int) < ((x9_2.length : Int) : Int) := of_decide_eq_true (by first | (with_reducible assumption) | assumption); first | exact h_ | (have e_ := (Kd.R_reads' HO_9.out).1; omega) | simpa using h_) (seg := [.int .i64 a1]) (j := 2) hcl37 hcc37 (show 3 ≤ 3 from by decide) (x' := (⟨(rd_T35 x9_2 x11_2).f0, (rd_T35 x9_2 x11_2).f1, a1⟩ : S35)) (k35_mkM _ _ _ (⟨(rd_T35 x9_2 x11_2).f0, (rd_T35 x9_2 x11_2).f1, a1⟩ : S35) ) (fun _ hk => hk)
                                    have hx37_2 := hcc37 2 _ rfl
                                    (try simp only [show (k35).sz = 3 from rfl, Nat.mul_one, Nat.add_zero] at hx37_2)
                                    have hf37_2 := hfr37 2
                                    (try simp only [show (k35).sz = 3 from rfl, Nat.mul_one, Nat.add_zero] at hf37_2)
                                    clear hcl37 hcc37 hfr37 hM37
                                    go_wp2_with (first | ((with_reducible refine gate_store (t := 2) (p := 75) rfl ?_); refine store_event (t := 2) (p := 75) (v := ?vo_w38) (w1 := (wc.setCell ⟨go35, (x11_2 : Int).toNat * 3 + 2, none⟩ (.int .i64 a1))) ?hg ?ho ?hn ?hr ?_; (case ho => rfl); (case hg => rfl); (case hn => rfl); (case hr => first | (go_simp; done) | (go_simp; rfl)); intro w38 hw; have hg : wc.grownBy w38 (some go35) := (by rw [hw]; exact HP37.2); have hp_ : Kd.R k35 35 w38 w.heap.size (fun _ => True) (.slice (some ⟨go35, 0, none⟩) x9_2.length co35) y150 := (by rw [hw, Ny150.out]; exact HP37.1); clear HP37; have n0_ := Aside0.mk (hp_); have n1_ := Aside0.mk (Kd.R_over' (v := (.slice (some ⟨go35, 0, none⟩) x9_2.length co35)) (by (with_reducible repeat (first | apply Kd.R_alloc | apply Kd.R_drewN | apply Kd.R_drew)); exact HO_10.out) (Kd.R_typed HO_9.out) (by decide) hg); have n2_ := Aside0.mk ((by rw [hw]; exact below_set (HB.out) GB35.out : Below w.heap.size w w38)); clear HO_9; clear HO_10; clear HB; have HO_9 := n0_; have HO_10 := n1_; have HB := n2_; clear n0_ n1_ n2_; clear hg hw hp_) | ((with_reducible refine gate_builtin (b := .append) (xs := #[.tmp 76, .tmp 78]) rfl ?_); (try (refine gate_guard (by rfl) ?_; dsimp only)); at_builtin; refine Kd.R_append (Kd.int .i64) (w0 := w) w.heap.size rfl (.tmp 76) (.tmp 78) 26 3 (.int .i64 0) 8 rfl Try.underlying26 info3 rfl (by decide) (by omega) u10 x10_2 x11_2 [.int .i64 x11_2] (fun _ => True) (fun _ => False) rfl rfl ?aP (fun _ hk => hk.elim) ?aF ?aO ?aB ?aS ?aL ?_; (case aP => exact rfl); (case aB => exact (by repeat (first | (with_reducible first | exact HB.out | apply below_alloc | apply pw_below_drewN | apply below_drew1) | exact HB.out))); (case aF => exact (fun _ _ => trivial)); (case aO => exact (by (with_reducible repeat (first | apply Kd.R_alloc | apply Kd.R_drewN | apply Kd.R_drew)); exact HO_10.out)); (case aS => exact (below_size (by repeat (first | (with_reducible first | exact HB.out | apply below_alloc | apply pw_below_drewN | apply below_drew1) | exact HB.out)))); (case aL => have := LMc36.out; omega); intro v152 w39 ho hb hg hat; rw [← Ny151.out] at ho; have n0_ := Aside0.mk (Kd.R_over' (by (with_reducible repeat (first | apply Kd.R_alloc | apply Kd.R_drewN | apply Kd.R_drew)); exact HO_9.out) (Kd.R_typed (by (with_reducible repeat (first | apply Kd.R_alloc | apply Kd.R_drewN | apply Kd.R_drew)); exact HO_10.out)) (by decide) hg); have n1_ := Aside0.mk (hb); have n2_ := Aside0.mk (ho); clear HO_9; clear HB; clear HO_10; have HO_9 := n0_; have HB := n1_; have HO153 := n2_; clear n0_ n1_ n2_; clear ho hb hg hat))
                                    go_roundg kj22
                                    case measure => have := HJ3.out; have := HK2.out; have := HJ22.out; omega
                                    case rel => exact ⟨(y150), (y151), (wrap64 (x11_2 + 1)), (by first | rfl | (simp; done) | (simp [*]; done) | (simp; exact isEmpty_bne _)), H', ⟨by have := HJ3.out; have := HK2.out; have := HJ22.out; omega⟩, ⟨by (with_reducible repeat (first | apply Kd.R_alloc | apply Kd.R_drewN | apply Kd.R_drew)); exact HO_9.out⟩, ⟨by (with_reducible repeat (first | apply Kd.R_alloc | apply Kd.R_drewN | apply Kd.R_drew)); exact HO153.out⟩, ⟨by repeat (first | (with_reducible first | exact HB.out | apply below_alloc | apply pw_below_drewN | apply below_drew1) | exact HB.out)⟩⟩
                                  · rw [if_neg c36] at H
                                    exact absurd H (by simp)
                                · rw [if_neg c34] at H
                                  exact absurd H (by simp)
                              · rw [if_neg c33] at H
                                have c33b0 : (((rd_T35 l0 x11_2).f2) == 0) = false := beq_eq_false_iff_ne.mpr c33
                                have c33b1 : (((rd_T35 l0 x11_2).f2) != 0) = true := bne_iff_ne.mpr c33
                                have H' := Aside0.mk H
                                clear H
                                have p147 : 0 ≤ (x11_2 : Int) := of_decide_eq_true (by first | (with_reducible assumption) | assumption)
                                have q147 : x11_2 < (l0.length : Int) := of_decide_eq_true (by first | (with_reducible assumption) | assumption)
                                obtain ⟨ad147, e147, hx147_0, hx147_1, hx147_2⟩ := at_T35 HR0.out x11_2 p147 q147
                                (try rw [← Nbq29.out] at hx147_0)
                                (try rw [← Nbq31.out] at hx147_0)
                                (try rw [← Nbq29.out] at hx147_1)
                                (try rw [← Nbq31.out] at hx147_1)
                                cases e147
                                replace hx147_0 := (HB.out.cell (World.block_lt_of_cell? w _ hx147_0)).trans hx147_0
                                replace hx147_1 := (HB.out.cell (World.block_lt_of_cell? w _ hx147_1)).trans hx147_1
                                replace hx147_2 := (HB.out.cell (World.block_lt_of_cell? w _ hx147_2)).trans hx147_2
                                replace p147 := eq_true p147
                                replace q147 := eq_true q147
                                have p148 : 0 ≤ (x11_2 : Int) := of_decide_eq_true (by first | (with_reducible assumption) | assumption)
                                have q148 : x11_2 < (l0.length : Int) := of_decide_eq_true (by first | (with_reducible assumption) | assumption)
                                obtain ⟨ad148, e148, hx148_0, hx148_1, hx148_2⟩ := at_T35 HR0.out x11_2 p148 q148
                                (try rw [← Nbq29.out] at hx148_0)
                                (try rw [← Nbq31.out] at hx148_0)
                                (try rw [← Nbq29.out] at hx148_1)
                                (try rw [← Nbq31.out] at hx148_1)
                                obtain rfl : ad147 = ad148 := (by injection e148)
                                replace hx148_0 := (HB.out.cell (World.block_lt_of_cell? w _ hx148_0)).trans hx148_0
                                replace hx148_1 := (HB.out.cell (World.block_lt_of_cell? w _ hx148_1)).trans hx148_1
                                replace hx148_2 := (HB.out.cell (World.block_lt_of_cell? w _ hx148_2)).trans hx148_2
                                replace p148 := eq_true p148
                                replace q148 := eq_true q148
                                have p149 : 0 ≤ (x11_2 : Int) := of_decide_eq_true (by first | (with_reducible assumption) | assumption)
                                have q149 : x11_2 < (l0.length : Int) := of_decide_eq_true (by first | (with_reducible assumption) | assumption)
                                obtain ⟨ad149, e149, hx149_0, hx149_1, hx149_2⟩ := at_T35 HR0.out x11_2 p149 q149
                                (try rw [← Nbq29.out] at hx149_0)
                                (try rw [← Nbq31.out] at hx149_0)
                                (try rw [← Nbq29.out] at hx149_1)
                                (try rw [← Nbq31.out] at hx149_1)
                                obtain rfl : ad147 = ad149 := (by injection e149)
                                replace hx149_0 := (HB.out.cell (World.block_lt_of_cell? w _ hx149_0)).trans hx149_0
                                replace hx149_1 := (HB.out.cell (World.block_lt_of_cell? w _ hx149_1)).trans hx149_1
                                replace hx149_2 := (HB.out.cell (World.block_lt_of_cell? w _ hx149_2)).trans hx149_2
                                replace p149 := eq_true p149
                                replace q149 := eq_true q149
                                go_wp2
                                go_roundg kj22
                                case measure => have := HJ3.out; have := HK2.out; have := HJ22.out; omega
                                case rel => exact ⟨(x9_2), (x10_2), (wrap64 (x11_2 + 1)), (by first | rfl | (simp; done) | (simp [*]; done) | (simp; exact isEmpty_bne _)), H', ⟨by have := HJ3.out; have := HK2.out; have := HJ22.out; omega⟩, ⟨by (with_reducible repeat (first | apply Kd.R_alloc | apply Kd.R_drewN | apply Kd.R_drew)); exact HO_9.out⟩, ⟨by (with_reducible repeat (first | apply Kd.R_alloc | apply Kd.R_drewN | apply Kd.R_drew)); exact HO_10.out⟩, ⟨by repeat (first | (with_reducible first | exact HB.out | apply below_alloc | apply pw_below_drewN | apply below_drew1) | exact HB.out)⟩⟩
                            · replace c32 := Bool.eq_false_iff.mpr c32
                              subst c32
                              have H1 : (forebayref20_Give.l0 kj22 l0 a1 a2 x9_2 x10_2 (wrap64 (x11_2 + 1))) = some (r1, r2, r3) := by rw [if_neg (show ¬ (false = true) by decide)] at H; exact H
                              clear H
                              have H := H1
                              clear H1
                              have H' := Aside0.mk H
                              clear H
                              have p147 : 0 ≤ (x11_2 : Int) := of_decide_eq_true (by first | (with_reducible assumption) | assumption)
                              have q147 : x11_2 < (l0.length : Int) := of_decide_eq_true (by first | (with_reducible assumption) | assumption)
                              obtain ⟨ad147, e147, hx147_0, hx147_1, hx147_2⟩ := at_T35 HR0.out x11_2 p147 q147
                              (try rw [← Nbq29.out] at hx147_0)
                              (try rw [← Nbq31.out] at hx147_0)
                              (try rw [← Nbq29.out] at hx147_1)
                              (try rw [← Nbq31.out] at hx147_1)
                              cases e147
                              replace hx147_0 := (HB.out.cell (World.block_lt_of_cell? w _ hx147_0)).trans hx147_0
                              replace hx147_1 := (HB.out.cell (World.block_lt_of_cell? w _ hx147_1)).trans hx147_1
                              replace hx147_2 := (HB.out.cell (World.block_lt_of_cell? w _ hx147_2)).trans hx147_2
                              replace p147 := eq_true p147
                              replace q147 := eq_true q147
                              have p148 : 0 ≤ (x11_2 : Int) := of_decide_eq_true (by first | (with_reducible assumption) | assumption)
                              have q148 : x11_2 < (l0.length : Int) := of_decide_eq_true (by first | (with_reducible assumption) | assumption)
                              obtain ⟨ad148, e148, hx148_0, hx148_1, hx148_2⟩ := at_T35 HR0.out x11_2 p148 q148
                              (try rw [← Nbq29.out] at hx148_0)
                              (try rw [← Nbq31.out] at hx148_0)
                              (try rw [← Nbq29.out] at hx148_1)
                              (try rw [← Nbq31.out] at hx148_1)
                              obtain rfl : ad147 = ad148 := (by injection e148)
                              replace hx148_0 := (HB.out.cell (World.block_lt_of_cell? w _ hx148_0)).trans hx148_0
                              replace hx148_1 := (HB.out.cell (World.block_lt_of_cell? w _ hx148_1)).trans hx148_1
                              replace hx148_2 := (HB.out.cell (World.block_lt_of_cell? w _ hx148_2)).trans hx148_2
                              replace p148 := eq_true p148
                              replace q148 := eq_true q148
                              go_wp2
                              go_roundg kj22
                              case measure => have := HJ3.out; have := HK2.out; have := HJ22.out; omega
                              case rel => exact ⟨(x9_2), (x10_2), (wrap64 (x11_2 + 1)), (by first | rfl | (simp; done) | (simp [*]; done) | (simp; exact isEmpty_bne _)), H', ⟨by have := HJ3.out; have := HK2.out; have := HJ22.out; omega⟩, ⟨by (with_reducible repeat (first | apply Kd.R_alloc | apply Kd.R_drewN | apply Kd.R_drew)); exact HO_9.out⟩, ⟨by (with_reducible repeat (first | apply Kd.R_alloc | apply Kd.R_drewN | apply Kd.R_drew)); exact HO_10.out⟩, ⟨by repeat (first | (with_reducible first | exact HB.out | apply below_alloc | apply pw_below_drewN | apply below_drew1) | exact HB.out)⟩⟩
                          · replace c30 := Bool.eq_false_iff.mpr c30
                            subst c30
                            have H1 : (forebayref20_Give.l0 kj22 l0 a1 a2 x9_2 x10_2 (wrap64 (x11_2 + 1))) = some (r1, r2, r3) := by rw [if_neg (show ¬ (false = true) by decide)] at H; exact H
                            clear H
                            have H := H1
                            clear H1
                            have H' := Aside0.mk H
                            clear H
                            have p147 : 0 ≤ (x11_2 : Int) := of_decide_eq_true (by first | (with_reducible assumption) | assumption)
                            have q147 : x11_2 < (l0.length : Int) := of_decide_eq_true (by first | (with_reducible assumption) | assumption)
                            obtain ⟨ad147, e147, hx147_0, hx147_1, hx147_2⟩ := at_T35 HR0.out x11_2 p147 q147
                            (try rw [← Nbq29.out] at hx147_0)
                            (try rw [← Nbq29.out] at hx147_1)
                            cases e147
                            replace hx147_0 := (HB.out.cell (World.block_lt_of_cell? w _ hx147_0)).trans hx147_0
                            replace hx147_1 := (HB.out.cell (World.block_lt_of_cell? w _ hx147_1)).trans hx147_1
                            replace hx147_2 := (HB.out.cell (World.block_lt_of_cell? w _ hx147_2)).trans hx147_2
                            replace p147 := eq_true p147
                            replace q147 := eq_true q147
                            go_wp2
                            go_roundg kj22
                            case measure => have := HJ3.out; have := HK2.out; have := HJ22.out; omega
                            case rel => exact ⟨(x9_2), (x10_2), (wrap64 (x11_2 + 1)), (by first | rfl | (simp; done) | (simp [*]; done) | (simp; exact isEmpty_bne _)), H', ⟨by have := HJ3.out; have := HK2.out; have := HJ22.out; omega⟩, ⟨by (with_reducible repeat (first | apply Kd.R_alloc | apply Kd.R_drewN | apply Kd.R_drew)); exact HO_9.out⟩, ⟨by (with_reducible repeat (first | apply Kd.R_alloc | apply Kd.R_drewN | apply Kd.R_drew)); exact HO_10.out⟩, ⟨by repeat (first | (with_reducible first | exact HB.out | apply below_alloc | apply pw_below_drewN | apply below_drew1) | exact HB.out)⟩⟩
                        · rw [if_neg c28] at H
                          exact absurd H (by simp)
                      · rw [if_neg c27] at H
                        exact absurd H (by simp)
                    · replace c26 := Bool.eq_false_iff.mpr c26
                      subst c26
                      have H1 : (some (x9_2, x10_2, 0)) = some (r1, r2, r3) := by rw [if_neg (show ¬ (false = true) by decide)] at H; exact H
                      clear H
                      have H := H1
                      clear H1
                      simp only [Option.some.injEq, Prod.mk.injEq] at H
                      obtain ⟨rfl, rfl, rfl⟩ := H
                      go_wp2
                      go_ret3
                      exact ⟨_, _, by first | rfl | (simp [errW_none, errW_some] <;> rfl) | (simp [*, errW_none, errW_some] <;> rfl), by (with_reducible repeat (first | apply Kd.R_alloc | apply Kd.R_drewN | apply Kd.R_drew)); exact HO_9.out, by (with_reducible repeat (first | apply Kd.R_alloc | apply Kd.R_drewN | apply Kd.R_drew)); exact HO_10.out, by repeat (first | (with_reducible first | exact HB.out | apply below_alloc | apply pw_below_drewN | apply below_drew1) | exact HB.out)⟩

end Go.Proofs.Ytifebcdkckjphaa.P
