-- Written by this session's program gprint.py: functions of the program as plain functions, and that the machine does what they say. Not trusted: Lean checks it.
import Derived.Test.YtphmejgipjcppaaPx0
import Derived.Test.YtphmejgipjcppaaPx1
import Derived.Test.YtphmejgipjcppaaPx2
namespace Go.Proofs.Ytphmejgipjcppaa.P
open Go.RowKit Go.Proofs.YtphmejgipjcppaaW.PrintWords Go.Proofs.YtphmejgipjcppaaW.PrintLast Go.Proofs.YtphmejgipjcppaaW.PrintMore
attribute [local go_sem] max2_int min2_int max_two min_two max_three min_three max_four min_four   -- for this text's walks alone
set_option linter.unusedVariables false
set_option linter.unusedSimpArgs false

/-! ### forebayref01_ReadNum: function 8 -/
mutual
def forebayref01_ReadNum.j1 : Nat → ByteArray → Int → Option (Int × Int)
  | 0, _, _ => none
  | k + 1, x0, x4 => if x4 ≥ (x0.size : Int) then (forebayref01_ReadNum.j2 k x0 x4 true) else (if x4 > 9 then (forebayref01_ReadNum.j2 k x0 x4 true) else (if x4 > 0 then (if 0 ≤ x4 then (if x4 < (x0.size : Int) then (if (bt x0 x4) = 0 then (forebayref01_ReadNum.j2 k x0 x4 true) else (if x4 = 9 then (forebayref01_ReadNum.j2 k x0 x4 (decide ((bt x0 x4) > 1))) else (forebayref01_ReadNum.j2 k x0 x4 false))) else (none)) else (none)) else (if x4 = 9 then (if 0 ≤ x4 then (if x4 < (x0.size : Int) then (forebayref01_ReadNum.j2 k x0 x4 (decide ((bt x0 x4) > 1))) else (none)) else (none)) else (forebayref01_ReadNum.j2 k x0 x4 false))))
def forebayref01_ReadNum.j2 : Nat → ByteArray → Int → Bool → Option (Int × Int)
  | 0, _, _, _ => none
  | k + 1, x0, x4, x46 => if x46 = true then (some (0, 0)) else (forebayref01_ReadNum.l1 k x0 x4 0 x4)
def forebayref01_ReadNum.l1 : Nat → ByteArray → Int → Int → Int → Option (Int × Int)
  | 0, _, _, _, _ => none
  | k + 1, x0, x4, x5, x6 => if x6 ≥ 0 then (if 0 ≤ x6 then (if x6 < (x0.size : Int) then (forebayref01_ReadNum.l1 k x0 x4 (IntKind.u64.wrap ((IntKind.u64.wrap (x5 * 128)) + (Int.tmod (IntKind.u64.wrap (bt x0 x6)) 128))) (wrap64 (x6 - 1))) else (none)) else (none)) else (some (x5, wrap64 (x4 + 1)))
def forebayref01_ReadNum.l0 : Nat → ByteArray → Int → Option (Int × Int)
  | 0, _, _ => none
  | k + 1, x0, x4 => if x4 < (x0.size : Int) then (if 0 ≤ x4 then (if (bt x0 x4) ≥ 128 then (forebayref01_ReadNum.l0 k x0 (wrap64 (x4 + 1))) else (forebayref01_ReadNum.j1 k x0 x4)) else (none)) else (forebayref01_ReadNum.j1 k x0 x4)
end
def forebayref01_ReadNum.f (k : Nat) (a0 : ByteArray) : Option (Int × Int) := forebayref01_ReadNum.l0 k a0 0
theorem forebayref01_ReadNum.mono_l : ∀ k, (∀ y0 y1, LeO (forebayref01_ReadNum.j1 k y0 y1) (forebayref01_ReadNum.j1 (k + 1) y0 y1)) ∧ (∀ y0 y1 y2, LeO (forebayref01_ReadNum.j2 k y0 y1 y2) (forebayref01_ReadNum.j2 (k + 1) y0 y1 y2)) ∧ (∀ y0 y1 y2 y3, LeO (forebayref01_ReadNum.l1 k y0 y1 y2 y3) (forebayref01_ReadNum.l1 (k + 1) y0 y1 y2 y3)) ∧ (∀ y0 y1, LeO (forebayref01_ReadNum.l0 k y0 y1) (forebayref01_ReadNum.l0 (k + 1) y0 y1))
  | 0 => ⟨fun _ _ r h => by simp [forebayref01_ReadNum.j1] at h, fun _ _ _ r h => by simp [forebayref01_ReadNum.j2] at h, fun _ _ _ _ r h => by simp [forebayref01_ReadNum.l1] at h, fun _ _ r h => by simp [forebayref01_ReadNum.l0] at h⟩
  | k + 1 => by
    obtain ⟨ih0, ih1, ih2, ih3⟩ := forebayref01_ReadNum.mono_l k
    refine ⟨?_, ?_, ?_, ?_⟩
    · intro y0 y1
      unfold forebayref01_ReadNum.j1
      repeat' first
      | (with_reducible exact ih0 _ _)
      | (with_reducible exact ih1 _ _ _)
      | (with_reducible exact ih2 _ _ _ _)
      | (with_reducible exact ih3 _ _)
      | (with_reducible exact LeO.refl _)
      | (with_reducible exact LeO.none _)
      | (with_reducible refine LeO.ite ?_ ?_)
      | (with_reducible refine LeO.bind ?_ (fun _ => ?_))
      | exact ih0 _ _
      | exact ih1 _ _ _
      | exact ih2 _ _ _ _
      | exact ih3 _ _
      | exact LeO.none _
      | refine LeO.ite ?_ ?_
      | refine LeO.bind ?_ (fun _ => ?_)
    · intro y0 y1 y2
      unfold forebayref01_ReadNum.j2
      repeat' first
      | (with_reducible exact ih0 _ _)
      | (with_reducible exact ih1 _ _ _)
      | (with_reducible exact ih2 _ _ _ _)
      | (with_reducible exact ih3 _ _)
      | (with_reducible exact LeO.refl _)
      | (with_reducible exact LeO.none _)
      | (with_reducible refine LeO.ite ?_ ?_)
      | (with_reducible refine LeO.bind ?_ (fun _ => ?_))
      | exact ih0 _ _
      | exact ih1 _ _ _
      | exact ih2 _ _ _ _
      | exact ih3 _ _
      | exact LeO.none _
      | refine LeO.ite ?_ ?_
      | refine LeO.bind ?_ (fun _ => ?_)
    · intro y0 y1 y2 y3
      unfold forebayref01_ReadNum.l1
      repeat' first
      | (with_reducible exact ih0 _ _)
      | (with_reducible exact ih1 _ _ _)
      | (with_reducible exact ih2 _ _ _ _)
      | (with_reducible exact ih3 _ _)
      | (with_reducible exact LeO.refl _)
      | (with_reducible exact LeO.none _)
      | (with_reducible refine LeO.ite ?_ ?_)
      | (with_reducible refine LeO.bind ?_ (fun _ => ?_))
      | exact ih0 _ _
      | exact ih1 _ _ _
      | exact ih2 _ _ _ _
      | exact ih3 _ _
      | exact LeO.none _
      | refine LeO.ite ?_ ?_
      | refine LeO.bind ?_ (fun _ => ?_)
    · intro y0 y1
      unfold forebayref01_ReadNum.l0
      repeat' first
      | (with_reducible exact ih0 _ _)
      | (with_reducible exact ih1 _ _ _)
      | (with_reducible exact ih2 _ _ _ _)
      | (with_reducible exact ih3 _ _)
      | (with_reducible exact LeO.refl _)
      | (with_reducible exact LeO.none _)
      | (with_reducible refine LeO.ite ?_ ?_)
      | (with_reducible refine LeO.bind ?_ (fun _ => ?_))
      | exact ih0 _ _
      | exact ih1 _ _ _
      | exact ih2 _ _ _ _
      | exact ih3 _ _
      | exact LeO.none _
      | refine LeO.ite ?_ ?_
      | refine LeO.bind ?_ (fun _ => ?_)
theorem forebayref01_ReadNum.mono : ∀ a0 k, LeO (forebayref01_ReadNum.f k a0) (forebayref01_ReadNum.f (k + 1) a0) := by
  intro a0 k
  obtain ⟨ih0, ih1, ih2, ih3⟩ := forebayref01_ReadNum.mono_l k
  unfold forebayref01_ReadNum.f
  repeat' first
      | (with_reducible exact ih0 _ _)
      | (with_reducible exact ih1 _ _ _)
      | (with_reducible exact ih2 _ _ _ _)
      | (with_reducible exact ih3 _ _)
      | (with_reducible exact LeO.refl _)
      | (with_reducible exact LeO.none _)
      | (with_reducible refine LeO.ite ?_ ?_)
      | (with_reducible refine LeO.bind ?_ (fun _ => ?_))
      | exact ih0 _ _
      | exact ih1 _ _ _
      | exact ih2 _ _ _ _
      | exact ih3 _ _
      | exact LeO.none _
      | refine LeO.ite ?_ ?_
      | refine LeO.bind ?_ (fun _ => ?_)
set_option maxHeartbeats 8000000 in
set_option maxRecDepth 100000 in
theorem forebayref01_ReadNum.calls (k : Nat) (a0 : ByteArray) (r1 : Int) (r2 : Int) (w : World) (h : forebayref01_ReadNum.f k a0 = some (r1, r2)) :
    Calls Try.prog 8 #[.string a0] w fun e w' => e = .returned (.tuple #[.int .u64 r1, .int .i64 r2]) ∧ Drawn0 w w' := by
  have H : (forebayref01_ReadNum.l0 k a0 0) = some (r1, r2) := h
  clear h
  have HC2 := Aside0.mk H
  clear H
  go_enter Try.func8, Try.ntmps8
  go_upto_block 0 with (fail)
  go_cut [4] (fun v4 wc => ∃ (kq : Nat) (x4_1 : Int), v4 = .int .i64 x4_1 ∧ Aside0 (forebayref01_ReadNum.j1 kq a0 x4_1 = some (r1, r2)) ∧ Aside0 (kq ≤ k) ∧ Drawn0 w wc)
  case first =>
    have H := HC2.out
    clear HC2
    have H' := Aside0.mk H
    clear H
    go_wp2
    go_loopg [4] k (fun kq v4 w' => ∃ (x4_1 : Int), v4 = .int .i64 x4_1 ∧ Aside0 (forebayref01_ReadNum.l0 kq a0 x4_1 = some (r1, r2)) ∧ Aside0 (kq ≤ k) ∧ Drawn0 w w')
    case atStart => exact ⟨(0), (by first | rfl | (simp; done) | (simp [*]; done) | (simp; exact isEmpty_bne _)), H', ⟨Nat.le_refl _⟩, by repeat (first | exact Drawn0.refl _ | apply Drawn0.step)⟩
    case round =>
      clear H'
      try clear p2
      obtain ⟨x4_1, rfl, HA, HK1, ⟨m1, rfl⟩⟩ := hrel
      cases gk with
      | zero => exact absurd HA.out (by simp [forebayref01_ReadNum.l0])
      | succ k1 =>
        have H := HA.out
        clear HA
        simp only [forebayref01_ReadNum.l0] at H
        by_cases c3 : x4_1 < (a0.size : Int)
        · rw [if_pos c3] at H
          have c3b0 : decide (x4_1 < (a0.size : Int)) = true := decide_eq_true c3
          clear c3
          (first | rw [c3b0] | (simp only [i64_w, i32_w]; rw [c3b0]) | skip)
          by_cases c4 : 0 ≤ x4_1
          · rw [if_pos c4] at H
            have c4b0 : decide (0 ≤ x4_1) = true := decide_eq_true c4
            clear c4
            by_cases c6 : (bt a0 x4_1) ≥ 128
            · rw [if_pos c6] at H
              have c6b0 : decide (128 ≤ (bt a0 x4_1)) = true := decide_eq_true c6
              clear c6
              have H' := Aside0.mk H
              clear H
              have p5 : 0 ≤ (x4_1 : Int) := of_decide_eq_true (by first | (with_reducible assumption) | assumption)
              have q5 : x4_1 < (a0.size : Int) := of_decide_eq_true (by first | (with_reducible assumption) | assumption)
              have hx5 := bt_at a0 x4_1
              replace p5 := eq_true p5
              replace q5 := eq_true q5
              go_wp2
              go_roundg k1
              case measure => have := HK1.out; omega
              case rel => exact ⟨(wrap64 (x4_1 + 1)), (by first | rfl | (simp; done) | (simp [*]; done) | (simp; exact isEmpty_bne _)), H', ⟨by have := HK1.out; omega⟩, by repeat (first | exact Drawn0.refl _ | apply Drawn0.step)⟩
            · rw [if_neg c6] at H
              have c6b0 : decide (128 ≤ (bt a0 x4_1)) = false := decide_eq_false c6
              clear c6
              have H' := Aside0.mk H
              clear H
              have p5 : 0 ≤ (x4_1 : Int) := of_decide_eq_true (by first | (with_reducible assumption) | assumption)
              have q5 : x4_1 < (a0.size : Int) := of_decide_eq_true (by first | (with_reducible assumption) | assumption)
              have hx5 := bt_at a0 x4_1
              replace p5 := eq_true p5
              replace q5 := eq_true q5
              go_wp2
              go_meet
              case rel => exact ⟨_, (x4_1), (by first | rfl | (simp; done) | (simp [*]; done) | (simp; exact isEmpty_bne _)), H', ⟨by have := HK1.out; first | omega | exact Nat.le_refl _⟩, by repeat (first | exact Drawn0.refl _ | apply Drawn0.step)⟩
          · rw [if_neg c4] at H
            exact absurd H (by simp)
        · rw [if_neg c3] at H
          have c3b0 : decide (x4_1 < (a0.size : Int)) = false := decide_eq_false c3
          clear c3
          (first | rw [c3b0] | (simp only [i64_w, i32_w]; rw [c3b0]) | skip)
          have H' := Aside0.mk H
          clear H
          go_wp2
          go_meet
          case rel => exact ⟨_, (x4_1), (by first | rfl | (simp; done) | (simp [*]; done) | (simp; exact isEmpty_bne _)), H', ⟨by have := HK1.out; first | omega | exact Nat.le_refl _⟩, by repeat (first | exact Drawn0.refl _ | apply Drawn0.step)⟩
  case rest =>
    clear HC2
    try clear p2
    try clear c3
    try clear c3b0
    try clear c4
    try clear c4b0
    try clear p5
    try clear q5
    try clear hx5
    try clear c6
    try clear c6b0
    try clear p6
    try clear p2
    try clear p5
    try clear q5
    obtain ⟨kq, x4_1, rfl, HA, HJ1, ⟨mc1, rfl⟩⟩ := hcut
    cases kq with
    | zero => exact absurd HA.out (by simp [forebayref01_ReadNum.j1])
    | succ kj1 =>
      have H := HA.out
      clear HA
      simp only [forebayref01_ReadNum.j1] at H
      have HC7 := Aside0.mk H
      clear H
      go_upto_region 4 with (fail)
      go_cut [46] (fun v46 wc => ∃ (kq : Nat) (x46_6 : Bool), v46 = .bool x46_6 ∧ Aside0 (forebayref01_ReadNum.j2 kq a0 x4_1 x46_6 = some (r1, r2)) ∧ Aside0 (kq ≤ kj1) ∧ Drawn0 w wc)
      case first =>
        have H := HC7.out
        clear HC7
        by_cases c8 : x4_1 ≥ (a0.size : Int)
        · rw [if_pos c8] at H
          have c8b0 : decide ((a0.size : Int) ≤ x4_1) = true := decide_eq_true c8
          clear c8
          (first | rw [c8b0] | (simp only [i64_w, i32_w]; rw [c8b0]) | skip)
          have H' := Aside0.mk H
          clear H
          go_wp2
          go_meet
          case rel => exact ⟨_, (true), (by first | rfl | (simp; done) | (simp [*]; done) | (simp; exact isEmpty_bne _)), H', ⟨by have := HJ1.out; first | omega | exact Nat.le_refl _⟩, by repeat (first | exact Drawn0.refl _ | apply Drawn0.step)⟩
        · rw [if_neg c8] at H
          have c8b0 : decide ((a0.size : Int) ≤ x4_1) = false := decide_eq_false c8
          clear c8
          (first | rw [c8b0] | (simp only [i64_w, i32_w]; rw [c8b0]) | skip)
          by_cases c9 : x4_1 > 9
          · rw [if_pos c9] at H
            have c9b0 : decide (9 < x4_1) = true := decide_eq_true c9
            clear c9
            have H' := Aside0.mk H
            clear H
            go_wp2
            go_meet
            case rel => exact ⟨_, (true), (by first | rfl | (simp; done) | (simp [*]; done) | (simp; exact isEmpty_bne _)), H', ⟨by have := HJ1.out; first | omega | exact Nat.le_refl _⟩, by repeat (first | exact Drawn0.refl _ | apply Drawn0.step)⟩
          · rw [if_neg c9] at H
            have c9b0 : decide (9 < x4_1) = false := decide_eq_false c9
            clear c9
            by_cases c10 : x4_1 > 0
            · rw [if_pos c10] at H
              have c10b0 : decide (0 < x4_1) = true := decide_eq_true c10
              clear c10
              by_cases c11 : 0 ≤ x4_1
              · rw [if_pos c11] at H
                have c11b0 : decide (0 ≤ x4_1) = true := decide_eq_true c11
                clear c11
                by_cases c12 : x4_1 < (a0.size : Int)
                · rw [if_pos c12] at H
                  have c12b0 : decide (x4_1 < (a0.size : Int)) = true := decide_eq_true c12
                  clear c12
                  by_cases c14 : (bt a0 x4_1) = 0
                  · rw [if_pos c14] at H
                    have c14b0 : ((bt a0 x4_1) == 0) = true := beq_iff_eq.mpr c14
                    have c14b1 : ((bt a0 x4_1) != 0) = false := bne_eq_false_iff_eq.mpr c14
                    clear c14
                    have H' := Aside0.mk H
                    clear H
                    have p13 : 0 ≤ (x4_1 : Int) := of_decide_eq_true (by first | (with_reducible assumption) | assumption)
                    have q13 : x4_1 < (a0.size : Int) := of_decide_eq_true (by first | (with_reducible assumption) | assumption)
                    have hx13 := bt_at a0 x4_1
                    replace p13 := eq_true p13
                    replace q13 := eq_true q13
                    go_wp2
                    go_meet
                    case rel => exact ⟨_, (true), (by first | rfl | (simp; done) | (simp [*]; done) | (simp; exact isEmpty_bne _)), H', ⟨by have := HJ1.out; first | omega | exact Nat.le_refl _⟩, by repeat (first | exact Drawn0.refl _ | apply Drawn0.step)⟩
                  · rw [if_neg c14] at H
                    have c14b0 : ((bt a0 x4_1) == 0) = false := beq_eq_false_iff_ne.mpr c14
                    have c14b1 : ((bt a0 x4_1) != 0) = true := bne_iff_ne.mpr c14
                    by_cases c15 : x4_1 = 9
                    · rw [if_pos c15] at H
                      have c15b0 : (x4_1 == 9) = true := beq_iff_eq.mpr c15
                      have c15b1 : (x4_1 != 9) = false := bne_eq_false_iff_eq.mpr c15
                      clear c15
                      have H' := Aside0.mk H
                      clear H
                      have p13 : 0 ≤ (x4_1 : Int) := of_decide_eq_true (by first | (with_reducible assumption) | assumption)
                      have q13 : x4_1 < (a0.size : Int) := of_decide_eq_true (by first | (with_reducible assumption) | assumption)
                      have hx13 := bt_at a0 x4_1
                      replace p13 := eq_true p13
                      replace q13 := eq_true q13
                      have p16 : 0 ≤ (x4_1 : Int) := of_decide_eq_true (by first | (with_reducible assumption) | assumption)
                      have q16 : x4_1 < (a0.size : Int) := of_decide_eq_true (by first | (with_reducible assumption) | assumption)
                      have hx16 := bt_at a0 x4_1
                      replace p16 := eq_true p16
                      replace q16 := eq_true q16
                      go_wp2
                      go_meet
                      case rel => exact ⟨_, (decide ((bt a0 x4_1) > 1)), (by first | rfl | (simp; done) | (simp [*]; done) | (simp; exact isEmpty_bne _)), H', ⟨by have := HJ1.out; first | omega | exact Nat.le_refl _⟩, by repeat (first | exact Drawn0.refl _ | apply Drawn0.step)⟩
                    · rw [if_neg c15] at H
                      have c15b0 : (x4_1 == 9) = false := beq_eq_false_iff_ne.mpr c15
                      have c15b1 : (x4_1 != 9) = true := bne_iff_ne.mpr c15
                      have H' := Aside0.mk H
                      clear H
                      have p13 : 0 ≤ (x4_1 : Int) := of_decide_eq_true (by first | (with_reducible assumption) | assumption)
                      have q13 : x4_1 < (a0.size : Int) := of_decide_eq_true (by first | (with_reducible assumption) | assumption)
                      have hx13 := bt_at a0 x4_1
                      replace p13 := eq_true p13
                      replace q13 := eq_true q13
                      go_wp2
                      go_meet
                      case rel => exact ⟨_, (false), (by first | rfl | (simp; done) | (simp [*]; done) | (simp; exact isEmpty_bne _)), H', ⟨by have := HJ1.out; first | omega | exact Nat.le_refl _⟩, by repeat (first | exact Drawn0.refl _ | apply Drawn0.step)⟩
                · rw [if_neg c12] at H
                  exact absurd H (by simp)
              · rw [if_neg c11] at H
                exact absurd H (by simp)
            · rw [if_neg c10] at H
              have c10b0 : decide (0 < x4_1) = false := decide_eq_false c10
              clear c10
              by_cases c17 : x4_1 = 9
              · rw [if_pos c17] at H
                have c17b0 : (x4_1 == 9) = true := beq_iff_eq.mpr c17
                have c17b1 : (x4_1 != 9) = false := bne_eq_false_iff_eq.mpr c17
                clear c17
                by_cases c18 : 0 ≤ x4_1
                · rw [if_pos c18] at H
                  have c18b0 : decide (0 ≤ x4_1) = true := decide_eq_true c18
                  clear c18
                  by_cases c19 : x4_1 < (a0.size : Int)
                  · rw [if_pos c19] at H
                    have c19b0 : decide (x4_1 < (a0.size : Int)) = true := decide_eq_true c19
                    clear c19
                    have H' := Aside0.mk H
                    clear H
                    have p20 : 0 ≤ (x4_1 : Int) := of_decide_eq_true (by first | (with_reducible assumption) | assumption)
                    have q20 : x4_1 < (a0.size : Int) := of_decide_eq_true (by first | (with_reducible assumption) | assumption)
                    have hx20 := bt_at a0 x4_1
                    replace p20 := eq_true p20
                    replace q20 := eq_true q20
                    go_wp2
                    go_meet
                    case rel => exact ⟨_, (decide ((bt a0 x4_1) > 1)), (by first | rfl | (simp; done) | (simp [*]; done) | (simp; exact isEmpty_bne _)), H', ⟨by have := HJ1.out; first | omega | exact Nat.le_refl _⟩, by repeat (first | exact Drawn0.refl _ | apply Drawn0.step)⟩
                  · rw [if_neg c19] at H
                    exact absurd H (by simp)
                · rw [if_neg c18] at H
                  exact absurd H (by simp)
              · rw [if_neg c17] at H
                have c17b0 : (x4_1 == 9) = false := beq_eq_false_iff_ne.mpr c17
                have c17b1 : (x4_1 != 9) = true := bne_iff_ne.mpr c17
                have H' := Aside0.mk H
                clear H
                go_wp2
                go_meet
                case rel => exact ⟨_, (false), (by first | rfl | (simp; done) | (simp [*]; done) | (simp; exact isEmpty_bne _)), H', ⟨by have := HJ1.out; first | omega | exact Nat.le_refl _⟩, by repeat (first | exact Drawn0.refl _ | apply Drawn0.step)⟩
      case rest =>
        clear HC7
        try clear c1
        try clear p1
        try clear q1
        try clear hx1
        try clear p2
        try clear q2
        try clear hx2
        try clear c3
        try clear c3b0
        try clear c4
        try clear c4b0
        try clear p5
        try clear q5
        try clear hx5
        try clear c6
        try clear c6b0
        try clear p6
        try clear c8
        try clear c8b0
        try clear c9
        try clear c9b0
        try clear c10
        try clear c10b0
        try clear c11
        try clear c11b0
        try clear c12
        try clear c12b0
        try clear p13
        try clear q13
        try clear hx13
        try clear c14
        try clear c14b0
        try clear c14b1
        try clear c15
        try clear c15b0
        try clear c15b1
        try clear p16
        try clear q16
        try clear hx16
        try clear c17
        try clear c17b0
        try clear c17b1
        try clear c18
        try clear c18b0
        try clear c19
        try clear c19b0
        try clear p20
        try clear q20
        try clear hx20
        try clear p13
        try clear p16
        try clear p2
        try clear p20
        try clear p5
        try clear p6
        try clear q13
        try clear q16
        try clear q20
        try clear q5
        obtain ⟨kq, x46_6, rfl, HA, HJ6, ⟨mc6, rfl⟩⟩ := hcut
        cases kq with
        | zero => exact absurd HA.out (by simp [forebayref01_ReadNum.j2])
        | succ kj6 =>
          have H := HA.out
          clear HA
          simp only [forebayref01_ReadNum.j2] at H
          by_cases c21 : x46_6 = true
          · subst c21
            have H1 : (some (0, 0)) = some (r1, r2) := by rw [if_pos rfl] at H; exact H
            clear H
            have H := H1
            clear H1
            simp only [Option.some.injEq, Prod.mk.injEq] at H
            obtain ⟨rfl, rfl⟩ := H
            go_wp2
            go_ret2
            exact ⟨by first | rfl | (simp; done) | (simp [*]; done), by repeat (first | exact Drawn0.refl _ | apply Drawn0.step)⟩
          · replace c21 := Bool.eq_false_iff.mpr c21
            subst c21
            have H1 : (forebayref01_ReadNum.l1 kj6 a0 x4_1 0 x4_1) = some (r1, r2) := by rw [if_neg (show ¬ (false = true) by decide)] at H; exact H
            clear H
            have H := H1
            clear H1
            have H' := Aside0.mk H
            clear H
            go_wp2
            go_loopg [5, 6] kj6 (fun kq v5 v6 w' => ∃ (x5_3 : Int) (x6_3 : Int), v5 = .int .u64 x5_3 ∧ v6 = .int .i64 x6_3 ∧ Aside0 (forebayref01_ReadNum.l1 kq a0 x4_1 x5_3 x6_3 = some (r1, r2)) ∧ Aside0 (kq ≤ kj6) ∧ Drawn0 w w')
            case atStart => exact ⟨(0), (x4_1), (by first | rfl | (simp; done) | (simp [*]; done) | (simp; exact isEmpty_bne _)), (by first | rfl | (simp; done) | (simp [*]; done) | (simp; exact isEmpty_bne _)), H', ⟨Nat.le_refl _⟩, by repeat (first | exact Drawn0.refl _ | apply Drawn0.step)⟩
            case round =>
              clear H'
              try clear c1
              try clear p1
              try clear q1
              try clear hx1
              try clear c2
              try clear p2
              try clear q2
              try clear hx2
              try clear c3
              try clear c3b0
              try clear c4
              try clear c4b0
              try clear p5
              try clear q5
              try clear hx5
              try clear c6
              try clear c6b0
              try clear p6
              try clear c8
              try clear c8b0
              try clear c9
              try clear c9b0
              try clear c10
              try clear c10b0
              try clear c11
              try clear c11b0
              try clear c12
              try clear c12b0
              try clear p13
              try clear q13
              try clear hx13
              try clear c14
              try clear c14b0
              try clear c14b1
              try clear c15
              try clear c15b0
              try clear c15b1
              try clear p16
              try clear q16
              try clear hx16
              try clear c17
              try clear c17b0
              try clear c17b1
              try clear c18
              try clear c18b0
              try clear c19
              try clear c19b0
              try clear p20
              try clear q20
              try clear hx20
              try clear c21
              try clear p1
              try clear p13
              try clear p16
              try clear p2
              try clear p20
              try clear p5
              try clear p6
              try clear q1
              try clear q13
              try clear q16
              try clear q2
              try clear q20
              try clear q5
              obtain ⟨x5_3, x6_3, rfl, rfl, HA, HK3, ⟨m3, rfl⟩⟩ := hrel
              cases gk with
              | zero => exact absurd HA.out (by simp [forebayref01_ReadNum.l1])
              | succ k3 =>
                have H := HA.out
                clear HA
                simp only [forebayref01_ReadNum.l1] at H
                by_cases c22 : x6_3 ≥ 0
                · rw [if_pos c22] at H
                  have c22b0 : decide (0 ≤ x6_3) = true := decide_eq_true c22
                  clear c22
                  by_cases c23 : 0 ≤ x6_3
                  · rw [if_pos c23] at H
                    have c23b0 : decide (0 ≤ x6_3) = true := decide_eq_true c23
                    clear c23
                    by_cases c24 : x6_3 < (a0.size : Int)
                    · rw [if_pos c24] at H
                      have c24b0 : decide (x6_3 < (a0.size : Int)) = true := decide_eq_true c24
                      clear c24
                      have H' := Aside0.mk H
                      clear H
                      have p25 : 0 ≤ (x6_3 : Int) := of_decide_eq_true (by first | (with_reducible assumption) | assumption)
                      have q25 : x6_3 < (a0.size : Int) := of_decide_eq_true (by first | (with_reducible assumption) | assumption)
                      have hx25 := bt_at a0 x6_3
                      replace p25 := eq_true p25
                      replace q25 := eq_true q25
                      go_wp2
                      go_roundg k3
                      case measure => have := HJ1.out; have := HJ6.out; have := HK3.out; omega
                      case rel => exact ⟨(IntKind.u64.wrap ((IntKind.u64.wrap (x5_3 * 128)) + (Int.tmod (IntKind.u64.wrap (bt a0 x6_3)) 128))), (wrap64 (x6_3 - 1)), (by first | rfl | (simp; done) | (simp [*]; done) | (simp; exact isEmpty_bne _)), (by first | rfl | (simp; done) | (simp [*]; done) | (simp; exact isEmpty_bne _)), H', ⟨by have := HJ1.out; have := HJ6.out; have := HK3.out; omega⟩, by repeat (first | exact Drawn0.refl _ | apply Drawn0.step)⟩
                    · rw [if_neg c24] at H
                      exact absurd H (by simp)
                  · rw [if_neg c23] at H
                    exact absurd H (by simp)
                · rw [if_neg c22] at H
                  have c22b0 : decide (0 ≤ x6_3) = false := decide_eq_false c22
                  clear c22
                  simp only [Option.some.injEq, Prod.mk.injEq] at H
                  obtain ⟨rfl, rfl⟩ := H
                  go_wp2
                  go_ret2
                  exact ⟨by first | rfl | (simp; done) | (simp [*]; done), by repeat (first | exact Drawn0.refl _ | apply Drawn0.step)⟩

/-! ### forebaylaw01_PackReads: function 3 -/
/-- What the document's ReadNum tells. -/
def rdN (s : ByteArray) : Int × Int := match rdNum 0 (bytesOf s) 0 with | some (n, m) => (n, (m : Int)) | none => (0, 0)
/-- What the law's calls tell. -/
def ReadsOk (k : Nat) (s : ByteArray) : Prop := forebaylaw01_head.f k = some true ∧ (s.size ≤ 400 → ∀ j, j ≤ s.size → forebayref01_ReadNum.f k (s.extract j s.size) = some (rdN (s.extract j s.size)))
noncomputable def forebaylaw01_PackReads.f (k : Nat) (a0 : ByteArray) (a1 a2 : Int) : Option Bool := @ite _ (ReadsOk k a0 ∧ (0 ≤ a1 ∧ a1 ≤ 255) ∧ (0 ≤ a2 ∧ a2 ≤ 255)) (Classical.propDecidable _) (some true) none
theorem forebaylaw01_PackReads.mono : ∀ a0 a1 a2 k, LeO (forebaylaw01_PackReads.f k a0 a1 a2) (forebaylaw01_PackReads.f (k + 1) a0 a1 a2) := by
  intro a0 a1 a2 k r h
  unfold forebaylaw01_PackReads.f at h ⊢
  by_cases hk : ReadsOk k a0 ∧ (0 ≤ a1 ∧ a1 ≤ 255) ∧ (0 ≤ a2 ∧ a2 ≤ 255)
  · rw [@if_pos _ (Classical.propDecidable _) hk] at h
    rw [@if_pos _ (Classical.propDecidable _) ⟨⟨forebaylaw01_head.mono _ _ hk.1.1, fun hs j hj => forebayref01_ReadNum.mono _ _ _ (hk.1.2 hs j hj)⟩, hk.2⟩]
    exact h
  · rw [@if_neg _ (Classical.propDecidable _) hk] at h; cases h
theorem ext_ext (s : ByteArray) (j m : Nat) : (s.extract j s.size).extract m (s.extract j s.size).size = s.extract (j + m) s.size := by
  refine ba_ext ?_
  rw [ba_drop, ba_drop, ba_drop, List.drop_drop]
theorem ext_all (s : ByteArray) : s.extract 0 s.size = s := by
  refine ba_ext ?_
  rw [ba_drop, List.drop_zero]
theorem ext_size (s : ByteArray) (j : Nat) : (s.extract j s.size).size = s.size - j := by
  rw [← ba_size, ba_drop, List.length_drop, ba_size]
theorem ext_mid (s : ByteArray) (m n : Nat) (h : m + n ≤ s.size) : (s.extract m s.size).extract 0 n = s.extract m (m + n) := by
  refine ba_ext ?_
  rw [ba_take, ba_drop, ba_extract, List.take_drop]
theorem rdN_none {s : ByteArray} (h : rdNum 0 (bytesOf s) 0 = none) : rdN s = (0, 0) := by unfold rdN; rw [h]
theorem rdN_some {s : ByteArray} {n : Int} {m : Nat} (h : rdNum 0 (bytesOf s) 0 = some (n, m)) : rdN s = (n, (m : Int)) := by unfold rdN; rw [h]
/-- What stands at a round's head: how the reader is, of what is left. -/
structure RdSt (w : World) (s : ByteArray) (H j : Nat) (fine : Bool) (W : World) : Prop where
  jl : j ≤ s.size
  at_ : RdAt W H (if fine = true then s.extract j s.size else ⟨#[]⟩) fine
  below : Below H w W
theorem num_way {b : Nat} {s s' : ByteArray} {f f' : Bool} {n : Int} {w : World} (h : RdAt w b s f) (hs : s.size ≤ 400) (hv : numS s f = (n, s', f')) : Calls Try.prog 9 #[.pointer (some ⟨b, 0, none⟩)] w fun e w' => e = .returned (.int .u64 n) ∧ RdAt w' b s' f' ∧ Keeps (fun k => k ≠ b) w w' := by
  have := pack_RNum_calls b s f w h (by omega)
  rwa [hv] at this
theorem text_way {b : Nat} {s s' g : ByteArray} {f f' : Bool} {most : Int} {w : World} (h : RdAt w b s f) (hs : s.size ≤ 400) (hm : 0 ≤ most ∧ most ≤ 255) (hv : textS s f most = (g, s', f')) : Calls Try.prog 10 #[.pointer (some ⟨b, 0, none⟩), .int .i64 most] w fun e w' => e = .returned (.string g) ∧ RdAt w' b s' f' ∧ Keeps (fun k => k ≠ b) w w' := by
  have := pack_RText_calls b s f most w h (by omega) ⟨by omega, by omega⟩
  rwa [hv] at this
theorem textS_dead (most : Int) : textS ⟨#[]⟩ false most = (⟨#[]⟩, ⟨#[]⟩, false) := by
  unfold textS
  rw [show numS ⟨#[]⟩ false = (0, ⟨#[]⟩, false) from rfl, if_pos rfl]
theorem textS_none {s : ByteArray} (h : rdNum 0 (bytesOf s) 0 = none) (most : Int) : textS s true most = (⟨#[]⟩, ⟨#[]⟩, false) := by
  unfold textS
  rw [numS_none h, if_pos rfl]
theorem textS_bad {s : ByteArray} {n : Int} {m : Nat} {most : Int} (h : rdNum 0 (bytesOf s) 0 = some (n, m)) (hb : ((s.extract m s.size).size : Int) < n ∨ most < 0 ∨ most < n) : textS s true most = (⟨#[]⟩, ⟨#[]⟩, false) := by
  unfold textS
  rw [numS_some h, if_neg (by simp), if_pos hb]
theorem textS_good {s : ByteArray} {n m : Nat} {most : Int} (h : rdNum 0 (bytesOf s) 0 = some ((n : Int), m)) (h1 : m + n ≤ s.size) (hm : (n : Int) ≤ most) : textS s true most = (s.extract m (m + n), s.extract (m + n) s.size, true) := by
  unfold textS
  have hz := ext_size s m
  rw [numS_some h]
  dsimp only
  rw [if_neg (by simp), if_neg (by omega), Int.toNat_natCast, ext_mid s m n h1, ext_ext]
set_option maxHeartbeats 8000000 in
set_option maxRecDepth 100000 in
theorem forebaylaw01_PackReads.calls (k : Nat) (a0 : ByteArray) (a1 : Int) (a2 : Int) (r : Bool) (w : World) (h : forebaylaw01_PackReads.f k a0 a1 a2 = some r) :
    Calls Try.prog 3 #[.string a0, .int .u8 a1, .int .u8 a2] w fun e w' => e = .returned (.bool r) ∧ Below w.heap.size w w' := by
  unfold forebaylaw01_PackReads.f at h
  by_cases hk : ReadsOk k a0 ∧ (0 ≤ a1 ∧ a1 ≤ 255) ∧ (0 ≤ a2 ∧ a2 ≤ 255)
  case neg => rw [@if_neg _ (Classical.propDecidable _) hk] at h; cases h
  rw [@if_pos _ (Classical.propDecidable _) hk] at h
  obtain rfl := Option.some.inj h
  clear h
  obtain ⟨⟨hhd, hrn⟩, ⟨p0, p1⟩, ⟨g0, g1⟩⟩ := hk
  replace hhd := Aside0.mk hhd
  by_cases hs : 400 < a0.size
  · have q1 : decide (400 < (a0.size : Int)) = true := decide_eq_true (by omega)
    have q2 : decide (400 < a0.size) = true := decide_eq_true hs
    clear hrn hs
    go_enter Try.func3, Try.ntmps3
    go_wp2_with (go_at_call 6; with_reducible refine (forebaylaw01_head.calls _ _ _ hhd.out).mono ?_; rintro e w1 ⟨rfl, hb⟩)
    go_ret
    exact ⟨rfl, hb⟩
  have hs4 : a0.size ≤ 400 := by omega
  have q1 : decide (400 < (a0.size : Int)) = false := decide_eq_false (by omega)
  have q2 : decide (400 < a0.size) = false := decide_eq_false hs
  replace hrn := Aside0.mk (hrn hs4)
  clear hs
  obtain ⟨H, hH⟩ : ∃ H, w.heap.size = H := ⟨_, rfl⟩
  obtain ⟨N, hN, hN60⟩ : ∃ N : Nat, (wrap64 a2).tmod 60 = (N : Int) ∧ N < 60 := by
    have e : wrap64 a2 = a2 := by unfold wrap64; omega
    rw [e, Int.tmod_eq_emod_of_nonneg g0]
    exact ⟨(a2 % 60).toNat, by omega, by omega⟩
  clear g0 g1
  go_enter Try.func3, Try.ntmps3
  go_wp2_with (go_at_call 7; with_reducible refine (pack_Open_calls _ _).mono ?_; rintro e w1 ⟨rfl, hR1, hb1⟩; rw [hH] at hR1 hb1 ⊢; replace hR1 := Aside0.mk hR1; replace hb1 := Aside0.mk hb1)
  go_loopg [0, 8, 9] N (fun kq v0 v8 v9 W => ∃ (i j : Nat) (fine : Bool), v9 = .int .i64 i ∧ v8 = .bool fine ∧ v0 = .string (a0.extract j a0.size) ∧ Aside0 (kq + i = N) ∧ Aside0 (RdSt w a0 H j fine W))
  case atStart => exact ⟨0, 0, true, rfl, rfl, by rw [ext_all], ⟨rfl⟩, ⟨⟨Nat.zero_le _, by rw [if_pos rfl, ext_all]; exact hR1.out, hb1.out⟩⟩⟩
  case round =>
    clear hR1 hb1
    obtain ⟨i, j, fine, rfl, rfl, rfl, HK, HS⟩ := hrel
    cases gk with
    | zero =>
      obtain rfl : i = N := by have := HK.out; omega
      have q3 : decide ((i : Int) < (i : Int)) = false := by simp
      go_wp2_with (go_at_call 6; with_reducible refine (forebaylaw01_head.calls _ _ _ hhd.out).mono ?_; rintro e w2 ⟨rfl, hb⟩; replace hb := Aside0.mk hb)
      go_ret
      have hB := HS.out.below
      rw [← hH] at hB
      exact ⟨rfl, hB.trans (hb.out.mono hB.size)⟩
    | succ k1 =>
      have hlt : i < N := by have := HK.out; omega
      have q3 : decide ((i : Int) < (N : Int)) = true := decide_eq_true (by omega)
      have q3n : decide (i < N) = true := decide_eq_true hlt
      have hread := Aside0.mk (hrn.out j HS.out.jl)
      have hnx := Aside0.mk (fun m => ext_ext a0 j m)
      have hsz := ext_size a0 j
      have hsj : (a0.extract j a0.size).size ≤ 400 := by omega
      obtain ⟨hj, hat, hbl⟩ := HS.out
      replace hbl := Aside0.mk hbl
      replace hsz := Aside0.mk hsz
      clear HS
      generalize hsje : a0.extract j a0.size = sj at *
      replace hsje := Aside0.mk hsje
      cases fine with
      | false =>
        rw [if_neg (by simp)] at hat
        replace hat := Aside0.mk hat
        have hsa := Aside0.mk (show (⟨#[]⟩ : ByteArray).size ≤ 400 by decide)
        generalize hr : rdN sj = pr at *
        obtain ⟨n, m⟩ := pr
        clear hr
        by_cases hpar : i % 2 = 0
        · have hval := Aside0.mk (show numS ⟨#[]⟩ false = (0, ⟨#[]⟩, false) from rfl)
          have p2 : ((i : Int) % 2 == 0) = true := beq_iff_eq.mpr (by omega)
          have p2n : (i % 2 == 0) = true := beq_iff_eq.mpr hpar
          go_wp2_with (first | (go_at_call 8; with_reducible refine (forebayref01_ReadNum.calls _ _ _ _ _ hread.out).mono ?_; rintro e w2 ⟨rfl, hd⟩; obtain ⟨nd, rfl⟩ := hd) | (go_at_call 9; with_reducible refine (num_way (hat.out.drewN _) hsa.out hval.out).mono ?_; rintro e w3 ⟨rfl, hR3, hK3⟩; replace hR3 := Aside0.mk hR3; replace hK3 := Aside0.mk hK3) | (go_at_call 11; with_reducible refine (pack_Fine_calls _ _ _ _ hR3.out).mono ?_; rintro e w4 ⟨rfl, rfl⟩) | (go_at_call 12; with_reducible refine (pack_Over_calls _ _ _ _ hR3.out).mono ?_; rintro e w5 ⟨rfl, rfl⟩))
          go_roundg k1
          case measure => omega
          case rel =>
            have hB3 := Aside0.mk ((hbl.out.trans (pw_below_drewN (Below.refl H _) _)).trans (hK3.out.below (Nat.le_of_lt hat.out.lt) (fun k hk => by omega)))
            exact ⟨i + 1, j, false, by go_num, rfl, by rw [hsje.out], ⟨by have := HK.out; omega⟩, ⟨⟨hj, by rw [if_neg (by simp)]; exact hR3.out, hB3.out⟩⟩⟩
        · have hval := Aside0.mk (textS_dead a1)
          have p2 : ((i : Int) % 2 == 0) = false := beq_eq_false_iff_ne.mpr (by omega)
          have p2n : (i % 2 == 0) = false := beq_eq_false_iff_ne.mpr hpar
          go_wp2_with (first | (go_at_call 8; with_reducible refine (forebayref01_ReadNum.calls _ _ _ _ _ hread.out).mono ?_; rintro e w2 ⟨rfl, hd⟩; obtain ⟨nd, rfl⟩ := hd) | (go_at_call 10; with_reducible refine (text_way (hat.out.drewN _) hsa.out (And.intro p0 p1) hval.out).mono ?_; rintro e w3 ⟨rfl, hR3, hK3⟩; replace hR3 := Aside0.mk hR3; replace hK3 := Aside0.mk hK3) | (go_at_call 11; with_reducible refine (pack_Fine_calls _ _ _ _ hR3.out).mono ?_; rintro e w4 ⟨rfl, rfl⟩) | (go_at_call 12; with_reducible refine (pack_Over_calls _ _ _ _ hR3.out).mono ?_; rintro e w5 ⟨rfl, rfl⟩))
          go_roundg k1
          case measure => omega
          case rel =>
            have hB3 := Aside0.mk ((hbl.out.trans (pw_below_drewN (Below.refl H _) _)).trans (hK3.out.below (Nat.le_of_lt hat.out.lt) (fun k hk => by omega)))
            exact ⟨i + 1, j, false, by go_num, rfl, by rw [hsje.out], ⟨by have := HK.out; omega⟩, ⟨⟨hj, by rw [if_neg (by simp)]; exact hR3.out, hB3.out⟩⟩⟩
      | true =>
        rw [if_pos rfl] at hat
        replace hat := Aside0.mk hat
        have hsa := Aside0.mk hsj
        cases hrd : rdNum 0 (bytesOf sj) 0 with
        | none =>
          rw [rdN_none hrd] at hread
          by_cases hpar : i % 2 = 0
          · have hval := Aside0.mk (numS_none hrd)
            clear hrd
            have p2 : ((i : Int) % 2 == 0) = true := beq_iff_eq.mpr (by omega)
            have p2n : (i % 2 == 0) = true := beq_iff_eq.mpr hpar
            go_wp2_with (first | (go_at_call 8; with_reducible refine (forebayref01_ReadNum.calls _ _ _ _ _ hread.out).mono ?_; rintro e w2 ⟨rfl, hd⟩; obtain ⟨nd, rfl⟩ := hd) | (go_at_call 9; with_reducible refine (num_way (hat.out.drewN _) hsa.out hval.out).mono ?_; rintro e w3 ⟨rfl, hR3, hK3⟩; replace hR3 := Aside0.mk hR3; replace hK3 := Aside0.mk hK3) | (go_at_call 11; with_reducible refine (pack_Fine_calls _ _ _ _ hR3.out).mono ?_; rintro e w4 ⟨rfl, rfl⟩) | (go_at_call 12; with_reducible refine (pack_Over_calls _ _ _ _ hR3.out).mono ?_; rintro e w5 ⟨rfl, rfl⟩))
            go_roundg k1
            case measure => omega
            case rel =>
              have hB3 := Aside0.mk ((hbl.out.trans (pw_below_drewN (Below.refl H _) _)).trans (hK3.out.below (Nat.le_of_lt hat.out.lt) (fun k hk => by omega)))
              exact ⟨i + 1, j, false, by go_num, rfl, by rw [hsje.out], ⟨by have := HK.out; omega⟩, ⟨⟨hj, by rw [if_neg (by simp)]; exact hR3.out, hB3.out⟩⟩⟩
          · have hval := Aside0.mk (textS_none hrd a1)
            clear hrd
            have p2 : ((i : Int) % 2 == 0) = false := beq_eq_false_iff_ne.mpr (by omega)
            have p2n : (i % 2 == 0) = false := beq_eq_false_iff_ne.mpr hpar
            go_wp2_with (first | (go_at_call 8; with_reducible refine (forebayref01_ReadNum.calls _ _ _ _ _ hread.out).mono ?_; rintro e w2 ⟨rfl, hd⟩; obtain ⟨nd, rfl⟩ := hd) | (go_at_call 10; with_reducible refine (text_way (hat.out.drewN _) hsa.out (And.intro p0 p1) hval.out).mono ?_; rintro e w3 ⟨rfl, hR3, hK3⟩; replace hR3 := Aside0.mk hR3; replace hK3 := Aside0.mk hK3) | (go_at_call 11; with_reducible refine (pack_Fine_calls _ _ _ _ hR3.out).mono ?_; rintro e w4 ⟨rfl, rfl⟩) | (go_at_call 12; with_reducible refine (pack_Over_calls _ _ _ _ hR3.out).mono ?_; rintro e w5 ⟨rfl, rfl⟩))
            go_roundg k1
            case measure => omega
            case rel =>
              have hB3 := Aside0.mk ((hbl.out.trans (pw_below_drewN (Below.refl H _) _)).trans (hK3.out.below (Nat.le_of_lt hat.out.lt) (fun k hk => by omega)))
              exact ⟨i + 1, j, false, by go_num, rfl, by rw [hsje.out], ⟨by have := HK.out; omega⟩, ⟨⟨hj, by rw [if_neg (by simp)]; exact hR3.out, hB3.out⟩⟩⟩
        | some p =>
          obtain ⟨n, m⟩ := p
          rw [rdN_some hrd] at hread
          obtain ⟨x0, x1, x2, x3⟩ := rdNum_range _ 0 0 n m (bytesOf_range _) (by omega) (by omega) (by decide) hrd
          rw [bytesOf_length] at x3
          have hz0 : m ≤ a0.size - j := by have := hsz.out; omega
          have q5 : decide (0 < (m : Int)) = true := decide_eq_true (by omega)
          have q5n : decide (0 < m) = true := decide_eq_true x2
          by_cases hpar : i % 2 = 0
          · have hval := Aside0.mk (numS_some hrd)
            clear hrd
            have p2 : ((i : Int) % 2 == 0) = true := beq_iff_eq.mpr (by omega)
            have p2n : (i % 2 == 0) = true := beq_iff_eq.mpr hpar
            go_wp2_with (first | (go_at_call 8; with_reducible refine (forebayref01_ReadNum.calls _ _ _ _ _ hread.out).mono ?_; rintro e w2 ⟨rfl, hd⟩; obtain ⟨nd, rfl⟩ := hd) | (go_at_call 9; with_reducible refine (num_way (hat.out.drewN _) hsa.out hval.out).mono ?_; rintro e w3 ⟨rfl, hR3, hK3⟩; replace hR3 := Aside0.mk hR3; replace hK3 := Aside0.mk hK3) | (go_at_call 11; with_reducible refine (pack_Fine_calls _ _ _ _ hR3.out).mono ?_; rintro e w4 ⟨rfl, rfl⟩) | (go_at_call 12; with_reducible refine (pack_Over_calls _ _ _ _ hR3.out).mono ?_; rintro e w5 ⟨rfl, rfl⟩))
            go_roundg k1
            case measure => omega
            case rel =>
              have hB3 := Aside0.mk ((hbl.out.trans (pw_below_drewN (Below.refl H _) _)).trans (hK3.out.below (Nat.le_of_lt hat.out.lt) (fun k hk => by omega)))
              exact ⟨i + 1, j + m, true, by go_num, rfl, by rw [hnx.out], ⟨by have := HK.out; omega⟩, ⟨⟨by omega, by rw [if_pos rfl, ← hnx.out]; exact hR3.out, hB3.out⟩⟩⟩
          · obtain ⟨nn, rfl⟩ := Int.eq_ofNat_of_zero_le x0
            by_cases hg : (nn : Int) ≤ a1
            · by_cases hg2 : m + nn ≤ sj.size
              · have hval := Aside0.mk (textS_good hrd hg2 hg)
                clear hrd
                have q6 : decide ((nn : Int) ≤ a1) = true := decide_eq_true hg
                have hb7 : (0 : Int) ≤ (sj.size : Int) - (m : Int) ∧ (sj.size : Int) - (m : Int) ≤ 400 := by omega
                have q9 : decide ((nn : Int) ≤ (sj.size : Int) - (m : Int)) = true := decide_eq_true (by omega)
                have q12 : m + nn ≤ a0.size - j := by have := hsz.out; omega
                have q11 : (sj.extract m (m + nn)).size = nn := by rw [← ba_size, ba_extract, List.length_drop, List.length_take, ba_size]; omega
                have hn4 : nn ≤ 400 := by omega
                have hm4 : m ≤ 400 := by omega
                have hmn : (m : Int) + (nn : Int) ≤ (sj.size : Int) := by omega
                have hmn2 : (m : Int) ≤ (m : Int) + (nn : Int) := by omega
                have q14 : ((m : Int) + (nn : Int)).toNat = m + nn := by omega
                clear x1
                have p2 : ((i : Int) % 2 == 0) = false := beq_eq_false_iff_ne.mpr (by omega)
                have p2n : (i % 2 == 0) = false := beq_eq_false_iff_ne.mpr hpar
                go_wp2_with (first | (go_at_call 8; with_reducible refine (forebayref01_ReadNum.calls _ _ _ _ _ hread.out).mono ?_; rintro e w2 ⟨rfl, hd⟩; obtain ⟨nd, rfl⟩ := hd) | (go_at_call 10; with_reducible refine (text_way (hat.out.drewN _) hsa.out (And.intro p0 p1) hval.out).mono ?_; rintro e w3 ⟨rfl, hR3, hK3⟩; replace hR3 := Aside0.mk hR3; replace hK3 := Aside0.mk hK3) | (go_at_call 11; with_reducible refine (pack_Fine_calls _ _ _ _ hR3.out).mono ?_; rintro e w4 ⟨rfl, rfl⟩) | (go_at_call 12; with_reducible refine (pack_Over_calls _ _ _ _ hR3.out).mono ?_; rintro e w5 ⟨rfl, rfl⟩))
                go_roundg k1
                case measure => omega
                case rel =>
                  have hB3 := Aside0.mk ((hbl.out.trans (pw_below_drewN (Below.refl H _) _)).trans (hK3.out.below (Nat.le_of_lt hat.out.lt) (fun k hk => by omega)))
                  exact ⟨i + 1, j + (m + nn), true, by go_num, rfl, by rw [hnx.out], ⟨by have := HK.out; omega⟩, ⟨⟨by omega, by rw [if_pos rfl, ← hnx.out]; exact hR3.out, hB3.out⟩⟩⟩
              · have hval := Aside0.mk (textS_bad (most := a1) hrd (.inl (by rw [ext_size]; omega)))
                clear hrd
                have q6 : decide ((nn : Int) ≤ a1) = true := decide_eq_true hg
                have hb7 : (0 : Int) ≤ (sj.size : Int) - (m : Int) ∧ (sj.size : Int) - (m : Int) ≤ 400 := by omega
                have q9 : decide ((nn : Int) ≤ (sj.size : Int) - (m : Int)) = false := decide_eq_false (by omega)
                have hm4 : m ≤ 400 := by omega
                have hms : (m : Int) ≤ (sj.size : Int) := by omega
                clear x1
                have p2 : ((i : Int) % 2 == 0) = false := beq_eq_false_iff_ne.mpr (by omega)
                have p2n : (i % 2 == 0) = false := beq_eq_false_iff_ne.mpr hpar
                go_wp2_with (first | (go_at_call 8; with_reducible refine (forebayref01_ReadNum.calls _ _ _ _ _ hread.out).mono ?_; rintro e w2 ⟨rfl, hd⟩; obtain ⟨nd, rfl⟩ := hd) | (go_at_call 10; with_reducible refine (text_way (hat.out.drewN _) hsa.out (And.intro p0 p1) hval.out).mono ?_; rintro e w3 ⟨rfl, hR3, hK3⟩; replace hR3 := Aside0.mk hR3; replace hK3 := Aside0.mk hK3) | (go_at_call 11; with_reducible refine (pack_Fine_calls _ _ _ _ hR3.out).mono ?_; rintro e w4 ⟨rfl, rfl⟩) | (go_at_call 12; with_reducible refine (pack_Over_calls _ _ _ _ hR3.out).mono ?_; rintro e w5 ⟨rfl, rfl⟩))
                go_roundg k1
                case measure => omega
                case rel =>
                  have hB3 := Aside0.mk ((hbl.out.trans (pw_below_drewN (Below.refl H _) _)).trans (hK3.out.below (Nat.le_of_lt hat.out.lt) (fun k hk => by omega)))
                  exact ⟨i + 1, j, false, by go_num, rfl, by rw [hsje.out], ⟨by have := HK.out; omega⟩, ⟨⟨hj, by rw [if_neg (by simp)]; exact hR3.out, hB3.out⟩⟩⟩
            · have hval := Aside0.mk (textS_bad (most := a1) hrd (.inr (.inr (by omega))))
              clear hrd
              have q6 : decide ((nn : Int) ≤ a1) = false := decide_eq_false hg
              have p2 : ((i : Int) % 2 == 0) = false := beq_eq_false_iff_ne.mpr (by omega)
              have p2n : (i % 2 == 0) = false := beq_eq_false_iff_ne.mpr hpar
              go_wp2_with (first | (go_at_call 8; with_reducible refine (forebayref01_ReadNum.calls _ _ _ _ _ hread.out).mono ?_; rintro e w2 ⟨rfl, hd⟩; obtain ⟨nd, rfl⟩ := hd) | (go_at_call 10; with_reducible refine (text_way (hat.out.drewN _) hsa.out (And.intro p0 p1) hval.out).mono ?_; rintro e w3 ⟨rfl, hR3, hK3⟩; replace hR3 := Aside0.mk hR3; replace hK3 := Aside0.mk hK3) | (go_at_call 11; with_reducible refine (pack_Fine_calls _ _ _ _ hR3.out).mono ?_; rintro e w4 ⟨rfl, rfl⟩) | (go_at_call 12; with_reducible refine (pack_Over_calls _ _ _ _ hR3.out).mono ?_; rintro e w5 ⟨rfl, rfl⟩))
              go_roundg k1
              case measure => omega
              case rel =>
                have hB3 := Aside0.mk ((hbl.out.trans (pw_below_drewN (Below.refl H _) _)).trans (hK3.out.below (Nat.le_of_lt hat.out.lt) (fun k hk => by omega)))
                exact ⟨i + 1, j, false, by go_num, rfl, by rw [hsje.out], ⟨by have := HK.out; omega⟩, ⟨⟨hj, by rw [if_neg (by simp)]; exact hR3.out, hB3.out⟩⟩⟩

/-- THE ONE PURE STATEMENT of forebaylaw01_PackReads: yours. -/
def forebaylaw01_PackReads.Pure : Prop := ∀ (a0 : ByteArray) (a1 : Int) (a2 : Int), a0.size ≤ 140737488351232 → (Lit.int .u8 a1).wf = true → (Lit.int .u8 a2).wf = true → ∃ k, forebaylaw01_PackReads.f k a0 a1 a2 = some true
theorem forebaylaw01_PackReads.walk (P : forebaylaw01_PackReads.Pure) (a0 : ByteArray) (a1 : Int) (a2 : Int) (w : World) (w0 : a0.size ≤ 140737488351232) (w1 : (Lit.int .u8 a1).wf = true) (w2 : (Lit.int .u8 a2).wf = true) :
    Calls Try.prog 3 #[.string a0, .int .u8 a1, .int .u8 a2] w fun e w' => e = .returned (.bool true) ∧ Below w.heap.size w w' := by
  obtain ⟨k, h⟩ := P a0 a1 a2 w0 w1 w2
  refine (forebaylaw01_PackReads.calls k a0 a1 a2 true w h).mono ?_
  rintro e w' ⟨rfl, hd⟩
  exact ⟨rfl, hd⟩

end Go.Proofs.Ytphmejgipjcppaa.P
