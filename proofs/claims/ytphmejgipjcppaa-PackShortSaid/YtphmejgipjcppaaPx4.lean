-- Written by this session's program gprint.py: functions of the program as plain functions, and that the machine does what they say. Not trusted: Lean checks it.
import Derived.Test.YtphmejgipjcppaaPx0
import Derived.Test.YtphmejgipjcppaaPx1
import Derived.Test.YtphmejgipjcppaaPx2
namespace Go.Proofs.Ytphmejgipjcppaa.P
open Go.RowKit Go.Proofs.YtphmejgipjcppaaW.PrintWords Go.Proofs.YtphmejgipjcppaaW.PrintLast Go.Proofs.YtphmejgipjcppaaW.PrintMore
attribute [local go_sem] max2_int min2_int max_two min_two max_three min_three max_four min_four   -- for this text's walks alone
set_option linter.unusedVariables false
set_option linter.unusedSimpArgs false

/-! ### forebayref01_ReadNum: function 8 -/
mutual
def forebayref01_ReadNum.j1 : Nat → ByteArray → Int → Option (Int × Int)
  | 0, _, _ => none
  | k + 1, x0, x4 => if x4 ≥ (x0.size : Int) then (forebayref01_ReadNum.j2 k x0 x4 true) else (if x4 > 9 then (forebayref01_ReadNum.j2 k x0 x4 true) else (if x4 > 0 then (if 0 ≤ x4 then (if x4 < (x0.size : Int) then (if (bt x0 x4) = 0 then (forebayref01_ReadNum.j2 k x0 x4 true) else (if x4 = 9 then (forebayref01_ReadNum.j2 k x0 x4 (decide ((bt x0 x4) > 1))) else (forebayref01_ReadNum.j2 k x0 x4 false))) else (none)) else (none)) else (if x4 = 9 then (if 0 ≤ x4 then (if x4 < (x0.size : Int) then (forebayref01_ReadNum.j2 k x0 x4 (decide ((bt x0 x4) > 1))) else (none)) else (none)) else (forebayref01_ReadNum.j2 k x0 x4 false))))
def forebayref01_ReadNum.j2 : Nat → ByteArray → Int → Bool → Option (Int × Int)
  | 0, _, _, _ => none
  | k + 1, x0, x4, x46 => if x46 = true then (some (0, 0)) else (forebayref01_ReadNum.l1 k x0 x4 0 x4)
def forebayref01_ReadNum.l1 : Nat → ByteArray → Int → Int → Int → Option (Int × Int)
  | 0, _, _, _, _ => none
  | k + 1, x0, x4, x5, x6 => if x6 ≥ 0 then (if 0 ≤ x6 then (if x6 < (x0.size : Int) then (forebayref01_ReadNum.l1 k x0 x4 (IntKind.u64.wrap ((IntKind.u64.wrap (x5 * 128)) + (Int.tmod (IntKind.u64.wrap (bt x0 x6)) 128))) (wrap64 (x6 - 1))) else (none)) else (none)) else (some (x5, wrap64 (x4 + 1)))
def forebayref01_ReadNum.l0 : Nat → ByteArray → Int → Option (Int × Int)
  | 0, _, _ => none
  | k + 1, x0, x4 => if x4 < (x0.size : Int) then (if 0 ≤ x4 then (if (bt x0 x4) ≥ 128 then (forebayref01_ReadNum.l0 k x0 (wrap64 (x4 + 1))) else (forebayref01_ReadNum.j1 k x0 x4)) else (none)) else (forebayref01_ReadNum.j1 k x0 x4)
end
def forebayref01_ReadNum.f (k : Nat) (a0 : ByteArray) : Option (Int × Int) := forebayref01_ReadNum.l0 k a0 0
theorem forebayref01_ReadNum.mono_l : ∀ k, (∀ y0 y1, LeO (forebayref01_ReadNum.j1 k y0 y1) (forebayref01_ReadNum.j1 (k + 1) y0 y1)) ∧ (∀ y0 y1 y2, LeO (forebayref01_ReadNum.j2 k y0 y1 y2) (forebayref01_ReadNum.j2 (k + 1) y0 y1 y2)) ∧ (∀ y0 y1 y2 y3, LeO (forebayref01_ReadNum.l1 k y0 y1 y2 y3) (forebayref01_ReadNum.l1 (k + 1) y0 y1 y2 y3)) ∧ (∀ y0 y1, LeO (forebayref01_ReadNum.l0 k y0 y1) (forebayref01_ReadNum.l0 (k + 1) y0 y1))
  | 0 => ⟨fun _ _ r h => by simp [forebayref01_ReadNum.j1] at h, fun _ _ _ r h => by simp [forebayref01_ReadNum.j2] at h, fun _ _ _ _ r h => by simp [forebayref01_ReadNum.l1] at h, fun _ _ r h => by simp [forebayref01_ReadNum.l0] at h⟩
  | k + 1 => by
    obtain ⟨ih0, ih1, ih2, ih3⟩ := forebayref01_ReadNum.mono_l k
    refine ⟨?_, ?_, ?_, ?_⟩
    · intro y0 y1
      unfold forebayref01_ReadNum.j1
      repeat' first
      | (with_reducible exact ih0 _ _)
      | (with_reducible exact ih1 _ _ _)
      | (with_reducible exact ih2 _ _ _ _)
      | (with_reducible exact ih3 _ _)
      | (with_reducible exact LeO.refl _)
      | (with_reducible exact LeO.none _)
      | (with_reducible refine LeO.ite ?_ ?_)
      | (with_reducible refine LeO.bind ?_ (fun _ => ?_))
      | exact ih0 _ _
      | exact ih1 _ _ _
      | exact ih2 _ _ _ _
      | exact ih3 _ _
      | exact LeO.none _
      | refine LeO.ite ?_ ?_
      | refine LeO.bind ?_ (fun _ => ?_)
    · intro y0 y1 y2
      unfold forebayref01_ReadNum.j2
      repeat' first
      | (with_reducible exact ih0 _ _)
      | (with_reducible exact ih1 _ _ _)
      | (with_reducible exact ih2 _ _ _ _)
      | (with_reducible exact ih3 _ _)
      | (with_reducible exact LeO.refl _)
      | (with_reducible exact LeO.none _)
      | (with_reducible refine LeO.ite ?_ ?_)
      | (with_reducible refine LeO.bind ?_ (fun _ => ?_))
      | exact ih0 _ _
      | exact ih1 _ _ _
      | exact ih2 _ _ _ _
      | exact ih3 _ _
      | exact LeO.none _
      | refine LeO.ite ?_ ?_
      | refine LeO.bind ?_ (fun _ => ?_)
    · intro y0 y1 y2 y3
      unfold forebayref01_ReadNum.l1
      repeat' first
      | (with_reducible exact ih0 _ _)
      | (with_reducible exact ih1 _ _ _)
      | (with_reducible exact ih2 _ _ _ _)
      | (with_reducible exact ih3 _ _)
      | (with_reducible exact LeO.refl _)
      | (with_reducible exact LeO.none _)
      | (with_reducible refine LeO.ite ?_ ?_)
      | (with_reducible refine LeO.bind ?_ (fun _ => ?_))
      | exact ih0 _ _
      | exact ih1 _ _ _
      | exact ih2 _ _ _ _
      | exact ih3 _ _
      | exact LeO.none _
      | refine LeO.ite ?_ ?_
      | refine LeO.bind ?_ (fun _ => ?_)
    · intro y0 y1
      unfold forebayref01_ReadNum.l0
      repeat' first
      | (with_reducible exact ih0 _ _)
      | (with_reducible exact ih1 _ _ _)
      | (with_reducible exact ih2 _ _ _ _)
      | (with_reducible exact ih3 _ _)
      | (with_reducible exact LeO.refl _)
      | (with_reducible exact LeO.none _)
      | (with_reducible refine LeO.ite ?_ ?_)
      | (with_reducible refine LeO.bind ?_ (fun _ => ?_))
      | exact ih0 _ _
      | exact ih1 _ _ _
      | exact ih2 _ _ _ _
      | exact ih3 _ _
      | exact LeO.none _
      | refine LeO.ite ?_ ?_
      | refine LeO.bind ?_ (fun _ => ?_)
theorem forebayref01_ReadNum.mono : ∀ a0 k, LeO (forebayref01_ReadNum.f k a0) (forebayref01_ReadNum.f (k + 1) a0) := by
  intro a0 k
  obtain ⟨ih0, ih1, ih2, ih3⟩ := forebayref01_ReadNum.mono_l k
  unfold forebayref01_ReadNum.f
  repeat' first
      | (with_reducible exact ih0 _ _)
      | (with_reducible exact ih1 _ _ _)
      | (with_reducible exact ih2 _ _ _ _)
      | (with_reducible exact ih3 _ _)
      | (with_reducible exact LeO.refl _)
      | (with_reducible exact LeO.none _)
      | (with_reducible refine LeO.ite ?_ ?_)
      | (with_reducible refine LeO.bind ?_ (fun _ => ?_))
      | exact ih0 _ _
      | exact ih1 _ _ _
      | exact ih2 _ _ _ _
      | exact ih3 _ _
      | exact LeO.none _
      | refine LeO.ite ?_ ?_
      | refine LeO.bind ?_ (fun _ => ?_)
set_option maxHeartbeats 8000000 in
set_option maxRecDepth 100000 in
theorem forebayref01_ReadNum.calls (k : Nat) (a0 : ByteArray) (r1 : Int) (r2 : Int) (w : World) (h : forebayref01_ReadNum.f k a0 = some (r1, r2)) :
    Calls Try.prog 8 #[.string a0] w fun e w' => e = .returned (.tuple #[.int .u64 r1, .int .i64 r2]) ∧ Drawn0 w w' := by
  have H : (forebayref01_ReadNum.l0 k a0 0) = some (r1, r2) := h
  clear h
  have HC2 := Aside0.mk H
  clear H
  go_enter Try.func8, Try.ntmps8
  go_upto_block 0 with (fail)
  go_cut [4] (fun v4 wc => ∃ (kq : Nat) (x4_1 : Int), v4 = .int .i64 x4_1 ∧ Aside0 (forebayref01_ReadNum.j1 kq a0 x4_1 = some (r1, r2)) ∧ Aside0 (kq ≤ k) ∧ Drawn0 w wc)
  case first =>
    have H := HC2.out
    clear HC2
    have H' := Aside0.mk H
    clear H
    go_wp2
    go_loopg [4] k (fun kq v4 w' => ∃ (x4_1 : Int), v4 = .int .i64 x4_1 ∧ Aside0 (forebayref01_ReadNum.l0 kq a0 x4_1 = some (r1, r2)) ∧ Aside0 (kq ≤ k) ∧ Drawn0 w w')
    case atStart => exact ⟨(0), (by first | rfl | (simp; done) | (simp [*]; done) | (simp; exact isEmpty_bne _)), H', ⟨Nat.le_refl _⟩, by repeat (first | exact Drawn0.refl _ | apply Drawn0.step)⟩
    case round =>
      clear H'
      try clear p2
      obtain ⟨x4_1, rfl, HA, HK1, ⟨m1, rfl⟩⟩ := hrel
      cases gk with
      | zero => exact absurd HA.out (by simp [forebayref01_ReadNum.l0])
      | succ k1 =>
        have H := HA.out
        clear HA
        simp only [forebayref01_ReadNum.l0] at H
        by_cases c3 : x4_1 < (a0.size : Int)
        · rw [if_pos c3] at H
          have c3b0 : decide (x4_1 < (a0.size : Int)) = true := decide_eq_true c3
          clear c3
          (first | rw [c3b0] | (simp only [i64_w, i32_w]; rw [c3b0]) | skip)
          by_cases c4 : 0 ≤ x4_1
          · rw [if_pos c4] at H
            have c4b0 : decide (0 ≤ x4_1) = true := decide_eq_true c4
            clear c4
            by_cases c6 : (bt a0 x4_1) ≥ 128
            · rw [if_pos c6] at H
              have c6b0 : decide (128 ≤ (bt a0 x4_1)) = true := decide_eq_true c6
              clear c6
              have H' := Aside0.mk H
              clear H
              have p5 : 0 ≤ (x4_1 : Int) := of_decide_eq_true (by first | (with_reducible assumption) | assumption)
              have q5 : x4_1 < (a0.size : Int) := of_decide_eq_true (by first | (with_reducible assumption) | assumption)
              have hx5 := bt_at a0 x4_1
              replace p5 := eq_true p5
              replace q5 := eq_true q5
              go_wp2
              go_roundg k1
              case measure => have := HK1.out; omega
              case rel => exact ⟨(wrap64 (x4_1 + 1)), (by first | rfl | (simp; done) | (simp [*]; done) | (simp; exact isEmpty_bne _)), H', ⟨by have := HK1.out; omega⟩, by repeat (first | exact Drawn0.refl _ | apply Drawn0.step)⟩
            · rw [if_neg c6] at H
              have c6b0 : decide (128 ≤ (bt a0 x4_1)) = false := decide_eq_false c6
              clear c6
              have H' := Aside0.mk H
              clear H
              have p5 : 0 ≤ (x4_1 : Int) := of_decide_eq_true (by first | (with_reducible assumption) | assumption)
              have q5 : x4_1 < (a0.size : Int) := of_decide_eq_true (by first | (with_reducible assumption) | assumption)
              have hx5 := bt_at a0 x4_1
              replace p5 := eq_true p5
              replace q5 := eq_true q5
              go_wp2
              go_meet
              case rel => exact ⟨_, (x4_1), (by first | rfl | (simp; done) | (simp [*]; done) | (simp; exact isEmpty_bne _)), H', ⟨by have := HK1.out; first | omega | exact Nat.le_refl _⟩, by repeat (first | exact Drawn0.refl _ | apply Drawn0.step)⟩
          · rw [if_neg c4] at H
            exact absurd H (by simp)
        · rw [if_neg c3] at H
          have c3b0 : decide (x4_1 < (a0.size : Int)) = false := decide_eq_false c3
          clear c3
          (first | rw [c3b0] | (simp only [i64_w, i32_w]; rw [c3b0]) | skip)
          have H' := Aside0.mk H
          clear H
          go_wp2
          go_meet
          case rel => exact ⟨_, (x4_1), (by first | rfl | (simp; done) | (simp [*]; done) | (simp; exact isEmpty_bne _)), H', ⟨by have := HK1.out; first | omega | exact Nat.le_refl _⟩, by repeat (first | exact Drawn0.refl _ | apply Drawn0.step)⟩
  case rest =>
    clear HC2
    try clear p2
    try clear c3
    try clear c3b0
    try clear c4
    try clear c4b0
    try clear p5
    try clear q5
    try clear hx5
    try clear c6
    try clear c6b0
    try clear p6
    try clear p2
    try clear p5
    try clear q5
    obtain ⟨kq, x4_1, rfl, HA, HJ1, ⟨mc1, rfl⟩⟩ := hcut
    cases kq with
    | zero => exact absurd HA.out (by simp [forebayref01_ReadNum.j1])
    | succ kj1 =>
      have H := HA.out
      clear HA
      simp only [forebayref01_ReadNum.j1] at H
      have HC7 := Aside0.mk H
      clear H
      go_upto_region 4 with (fail)
      go_cut [46] (fun v46 wc => ∃ (kq : Nat) (x46_6 : Bool), v46 = .bool x46_6 ∧ Aside0 (forebayref01_ReadNum.j2 kq a0 x4_1 x46_6 = some (r1, r2)) ∧ Aside0 (kq ≤ kj1) ∧ Drawn0 w wc)
      case first =>
        have H := HC7.out
        clear HC7
        by_cases c8 : x4_1 ≥ (a0.size : Int)
        · rw [if_pos c8] at H
          have c8b0 : decide ((a0.size : Int) ≤ x4_1) = true := decide_eq_true c8
          clear c8
          (first | rw [c8b0] | (simp only [i64_w, i32_w]; rw [c8b0]) | skip)
          have H' := Aside0.mk H
          clear H
          go_wp2
          go_meet
          case rel => exact ⟨_, (true), (by first | rfl | (simp; done) | (simp [*]; done) | (simp; exact isEmpty_bne _)), H', ⟨by have := HJ1.out; first | omega | exact Nat.le_refl _⟩, by repeat (first | exact Drawn0.refl _ | apply Drawn0.step)⟩
        · rw [if_neg c8] at H
          have c8b0 : decide ((a0.size : Int) ≤ x4_1) = false := decide_eq_false c8
          clear c8
          (first | rw [c8b0] | (simp only [i64_w, i32_w]; rw [c8b0]) | skip)
          by_cases c9 : x4_1 > 9
          · rw [if_pos c9] at H
            have c9b0 : decide (9 < x4_1) = true := decide_eq_true c9
            clear c9
            have H' := Aside0.mk H
            clear H
            go_wp2
            go_meet
            case rel => exact ⟨_, (true), (by first | rfl | (simp; done) | (simp [*]; done) | (simp; exact isEmpty_bne _)), H', ⟨by have := HJ1.out; first | omega | exact Nat.le_refl _⟩, by repeat (first | exact Drawn0.refl _ | apply Drawn0.step)⟩
          · rw [if_neg c9] at H
            have c9b0 : decide (9 < x4_1) = false := decide_eq_false c9
            clear c9
            by_cases c10 : x4_1 > 0
            · rw [if_pos c10] at H
              have c10b0 : decide (0 < x4_1) = true := decide_eq_true c10
              clear c10
              by_cases c11 : 0 ≤ x4_1
              · rw [if_pos c11] at H
                have c11b0 : decide (0 ≤ x4_1) = true := decide_eq_true c11
                clear c11
                by_cases c12 : x4_1 < (a0.size : Int)
                · rw [if_pos c12] at H
                  have c12b0 : decide (x4_1 < (a0.size : Int)) = true := decide_eq_true c12
                  clear c12
                  by_cases c14 : (bt a0 x4_1) = 0
                  · rw [if_pos c14] at H
                    have c14b0 : ((bt a0 x4_1) == 0) = true := beq_iff_eq.mpr c14
                    have c14b1 : ((bt a0 x4_1) != 0) = false := bne_eq_false_iff_eq.mpr c14
                    clear c14
                    have H' := Aside0.mk H
                    clear H
                    have p13 : 0 ≤ (x4_1 : Int) := of_decide_eq_true (by first | (with_reducible assumption) | assumption)
                    have q13 : x4_1 < (a0.size : Int) := of_decide_eq_true (by first | (with_reducible assumption) | assumption)
                    have hx13 := bt_at a0 x4_1
                    replace p13 := eq_true p13
                    replace q13 := eq_true q13
                    go_wp2
                    go_meet
                    case rel => exact ⟨_, (true), (by first | rfl | (simp; done) | (simp [*]; done) | (simp; exact isEmpty_bne _)), H', ⟨by have := HJ1.out; first | omega | exact Nat.le_refl _⟩, by repeat (first | exact Drawn0.refl _ | apply Drawn0.step)⟩
                  · rw [if_neg c14] at H
                    have c14b0 : ((bt a0 x4_1) == 0) = false := beq_eq_false_iff_ne.mpr c14
                    have c14b1 : ((bt a0 x4_1) != 0) = true := bne_iff_ne.mpr c14
                    by_cases c15 : x4_1 = 9
                    · rw [if_pos c15] at H
                      have c15b0 : (x4_1 == 9) = true := beq_iff_eq.mpr c15
                      have c15b1 : (x4_1 != 9) = false := bne_eq_false_iff_eq.mpr c15
                      clear c15
                      have H' := Aside0.mk H
                      clear H
                      have p13 : 0 ≤ (x4_1 : Int) := of_decide_eq_true (by first | (with_reducible assumption) | assumption)
                      have q13 : x4_1 < (a0.size : Int) := of_decide_eq_true (by first | (with_reducible assumption) | assumption)
                      have hx13 := bt_at a0 x4_1
                      replace p13 := eq_true p13
                      replace q13 := eq_true q13
                      have p16 : 0 ≤ (x4_1 : Int) := of_decide_eq_true (by first | (with_reducible assumption) | assumption)
                      have q16 : x4_1 < (a0.size : Int) := of_decide_eq_true (by first | (with_reducible assumption) | assumption)
                      have hx16 := bt_at a0 x4_1
                      replace p16 := eq_true p16
                      replace q16 := eq_true q16
                      go_wp2
                      go_meet
                      case rel => exact ⟨_, (decide ((bt a0 x4_1) > 1)), (by first | rfl | (simp; done) | (simp [*]; done) | (simp; exact isEmpty_bne _)), H', ⟨by have := HJ1.out; first | omega | exact Nat.le_refl _⟩, by repeat (first | exact Drawn0.refl _ | apply Drawn0.step)⟩
                    · rw [if_neg c15] at H
                      have c15b0 : (x4_1 == 9) = false := beq_eq_false_iff_ne.mpr c15
                      have c15b1 : (x4_1 != 9) = true := bne_iff_ne.mpr c15
                      have H' := Aside0.mk H
                      clear H
                      have p13 : 0 ≤ (x4_1 : Int) := of_decide_eq_true (by first | (with_reducible assumption) | assumption)
                      have q13 : x4_1 < (a0.size : Int) := of_decide_eq_true (by first | (with_reducible assumption) | assumption)
                      have hx13 := bt_at a0 x4_1
                      replace p13 := eq_true p13
                      replace q13 := eq_true q13
                      go_wp2
                      go_meet
                      case rel => exact ⟨_, (false), (by first | rfl | (simp; done) | (simp [*]; done) | (simp; exact isEmpty_bne _)), H', ⟨by have := HJ1.out; first | omega | exact Nat.le_refl _⟩, by repeat (first | exact Drawn0.refl _ | apply Drawn0.step)⟩
                · rw [if_neg c12] at H
                  exact absurd H (by simp)
              · rw [if_neg c11] at H
                exact absurd H (by simp)
            · rw [if_neg c10] at H
              have c10b0 : decide (0 < x4_1) = false := decide_eq_false c10
              clear c10
              by_cases c17 : x4_1 = 9
              · rw [if_pos c17] at H
                have c17b0 : (x4_1 == 9) = true := beq_iff_eq.mpr c17
                have c17b1 : (x4_1 != 9) = false := bne_eq_false_iff_eq.mpr c17
                clear c17
                by_cases c18 : 0 ≤ x4_1
                · rw [if_pos c18] at H
                  have c18b0 : decide (0 ≤ x4_1) = true := decide_eq_true c18
                  clear c18
                  by_cases c19 : x4_1 < (a0.size : Int)
                  · rw [if_pos c19] at H
                    have c19b0 : decide (x4_1 < (a0.size : Int)) = true := decide_eq_true c19
                    clear c19
                    have H' := Aside0.mk H
                    clear H
                    have p20 : 0 ≤ (x4_1 : Int) := of_decide_eq_true (by first | (with_reducible assumption) | assumption)
                    have q20 : x4_1 < (a0.size : Int) := of_decide_eq_true (by first | (with_reducible assumption) | assumption)
                    have hx20 := bt_at a0 x4_1
                    replace p20 := eq_true p20
                    replace q20 := eq_true q20
                    go_wp2
                    go_meet
                    case rel => exact ⟨_, (decide ((bt a0 x4_1) > 1)), (by first | rfl | (simp; done) | (simp [*]; done) | (simp; exact isEmpty_bne _)), H', ⟨by have := HJ1.out; first | omega | exact Nat.le_refl _⟩, by repeat (first | exact Drawn0.refl _ | apply Drawn0.step)⟩
                  · rw [if_neg c19] at H
                    exact absurd H (by simp)
                · rw [if_neg c18] at H
                  exact absurd H (by simp)
              · rw [if_neg c17] at H
                have c17b0 : (x4_1 == 9) = false := beq_eq_false_iff_ne.mpr c17
                have c17b1 : (x4_1 != 9) = true := bne_iff_ne.mpr c17
                have H' := Aside0.mk H
                clear H
                go_wp2
                go_meet
                case rel => exact ⟨_, (false), (by first | rfl | (simp; done) | (simp [*]; done) | (simp; exact isEmpty_bne _)), H', ⟨by have := HJ1.out; first | omega | exact Nat.le_refl _⟩, by repeat (first | exact Drawn0.refl _ | apply Drawn0.step)⟩
      case rest =>
        clear HC7
        try clear c1
        try clear p1
        try clear q1
        try clear hx1
        try clear p2
        try clear q2
        try clear hx2
        try clear c3
        try clear c3b0
        try clear c4
        try clear c4b0
        try clear p5
        try clear q5
        try clear hx5
        try clear c6
        try clear c6b0
        try clear p6
        try clear c8
        try clear c8b0
        try clear c9
        try clear c9b0
        try clear c10
        try clear c10b0
        try clear c11
        try clear c11b0
        try clear c12
        try clear c12b0
        try clear p13
        try clear q13
        try clear hx13
        try clear c14
        try clear c14b0
        try clear c14b1
        try clear c15
        try clear c15b0
        try clear c15b1
        try clear p16
        try clear q16
        try clear hx16
        try clear c17
        try clear c17b0
        try clear c17b1
        try clear c18
        try clear c18b0
        try clear c19
        try clear c19b0
        try clear p20
        try clear q20
        try clear hx20
        try clear p13
        try clear p16
        try clear p2
        try clear p20
        try clear p5
        try clear p6
        try clear q13
        try clear q16
        try clear q20
        try clear q5
        obtain ⟨kq, x46_6, rfl, HA, HJ6, ⟨mc6, rfl⟩⟩ := hcut
        cases kq with
        | zero => exact absurd HA.out (by simp [forebayref01_ReadNum.j2])
        | succ kj6 =>
          have H := HA.out
          clear HA
          simp only [forebayref01_ReadNum.j2] at H
          by_cases c21 : x46_6 = true
          · subst c21
            have H1 : (some (0, 0)) = some (r1, r2) := by rw [if_pos rfl] at H; exact H
            clear H
            have H := H1
            clear H1
            simp only [Option.some.injEq, Prod.mk.injEq] at H
            obtain ⟨rfl, rfl⟩ := H
            go_wp2
            go_ret2
            exact ⟨by first | rfl | (simp; done) | (simp [*]; done), by repeat (first | exact Drawn0.refl _ | apply Drawn0.step)⟩
          · replace c21 := Bool.eq_false_iff.mpr c21
            subst c21
            have H1 : (forebayref01_ReadNum.l1 kj6 a0 x4_1 0 x4_1) = some (r1, r2) := by rw [if_neg (show ¬ (false = true) by decide)] at H; exact H
            clear H
            have H := H1
            clear H1
            have H' := Aside0.mk H
            clear H
            go_wp2
            go_loopg [5, 6] kj6 (fun kq v5 v6 w' => ∃ (x5_3 : Int) (x6_3 : Int), v5 = .int .u64 x5_3 ∧ v6 = .int .i64 x6_3 ∧ Aside0 (forebayref01_ReadNum.l1 kq a0 x4_1 x5_3 x6_3 = some (r1, r2)) ∧ Aside0 (kq ≤ kj6) ∧ Drawn0 w w')
            case atStart => exact ⟨(0), (x4_1), (by first | rfl | (simp; done) | (simp [*]; done) | (simp; exact isEmpty_bne _)), (by first | rfl | (simp; done) | (simp [*]; done) | (simp; exact isEmpty_bne _)), H', ⟨Nat.le_refl _⟩, by repeat (first | exact Drawn0.refl _ | apply Drawn0.step)⟩
            case round =>
              clear H'
              try clear c1
              try clear p1
              try clear q1
              try clear hx1
              try clear c2
              try clear p2
              try clear q2
              try clear hx2
              try clear c3
              try clear c3b0
              try clear c4
              try clear c4b0
              try clear p5
              try clear q5
              try clear hx5
              try clear c6
              try clear c6b0
              try clear p6
              try clear c8
              try clear c8b0
              try clear c9
              try clear c9b0
              try clear c10
              try clear c10b0
              try clear c11
              try clear c11b0
              try clear c12
              try clear c12b0
              try clear p13
              try clear q13
              try clear hx13
              try clear c14
              try clear c14b0
              try clear c14b1
              try clear c15
              try clear c15b0
              try clear c15b1
              try clear p16
              try clear q16
              try clear hx16
              try clear c17
              try clear c17b0
              try clear c17b1
              try clear c18
              try clear c18b0
              try clear c19
              try clear c19b0
              try clear p20
              try clear q20
              try clear hx20
              try clear c21
              try clear p1
              try clear p13
              try clear p16
              try clear p2
              try clear p20
              try clear p5
              try clear p6
              try clear q1
              try clear q13
              try clear q16
              try clear q2
              try clear q20
              try clear q5
              obtain ⟨x5_3, x6_3, rfl, rfl, HA, HK3, ⟨m3, rfl⟩⟩ := hrel
              cases gk with
              | zero => exact absurd HA.out (by simp [forebayref01_ReadNum.l1])
              | succ k3 =>
                have H := HA.out
                clear HA
                simp only [forebayref01_ReadNum.l1] at H
                by_cases c22 : x6_3 ≥ 0
                · rw [if_pos c22] at H
                  have c22b0 : decide (0 ≤ x6_3) = true := decide_eq_true c22
                  clear c22
                  by_cases c23 : 0 ≤ x6_3
                  · rw [if_pos c23] at H
                    have c23b0 : decide (0 ≤ x6_3) = true := decide_eq_true c23
                    clear c23
                    by_cases c24 : x6_3 < (a0.size : Int)
                    · rw [if_pos c24] at H
                      have c24b0 : decide (x6_3 < (a0.size : Int)) = true := decide_eq_true c24
                      clear c24
                      have H' := Aside0.mk H
                      clear H
                      have p25 : 0 ≤ (x6_3 : Int) := of_decide_eq_true (by first | (with_reducible assumption) | assumption)
                      have q25 : x6_3 < (a0.size : Int) := of_decide_eq_true (by first | (with_reducible assumption) | assumption)
                      have hx25 := bt_at a0 x6_3
                      replace p25 := eq_true p25
                      replace q25 := eq_true q25
                      go_wp2
                      go_roundg k3
                      case measure => have := HJ1.out; have := HJ6.out; have := HK3.out; omega
                      case rel => exact ⟨(IntKind.u64.wrap ((IntKind.u64.wrap (x5_3 * 128)) + (Int.tmod (IntKind.u64.wrap (bt a0 x6_3)) 128))), (wrap64 (x6_3 - 1)), (by first | rfl | (simp; done) | (simp [*]; done) | (simp; exact isEmpty_bne _)), (by first | rfl | (simp; done) | (simp [*]; done) | (simp; exact isEmpty_bne _)), H', ⟨by have := HJ1.out; have := HJ6.out; have := HK3.out; omega⟩, by repeat (first | exact Drawn0.refl _ | apply Drawn0.step)⟩
                    · rw [if_neg c24] at H
                      exact absurd H (by simp)
                  · rw [if_neg c23] at H
                    exact absurd H (by simp)
                · rw [if_neg c22] at H
                  have c22b0 : decide (0 ≤ x6_3) = false := decide_eq_false c22
                  clear c22
                  simp only [Option.some.injEq, Prod.mk.injEq] at H
                  obtain ⟨rfl, rfl⟩ := H
                  go_wp2
                  go_ret2
                  exact ⟨by first | rfl | (simp; done) | (simp [*]; done), by repeat (first | exact Drawn0.refl _ | apply Drawn0.step)⟩

-- NOT PRINTED: function 3 (forebaylaw01_PackReads)

/-! ### forebaylaw01_PackShort: function 4 -/
/-- What PackShort's calls tell where nothing is wrong; a is the lesser number. -/
structure ShortOk (k : Nat) (a b : Int) : Prop where
  a0 : 0 ≤ a
  a1 : a < 18446744073709551616
  b0 : 0 ≤ b
  b1 : b < 18446744073709551616
  l1 : (strOfNums (numT a)).size ≤ (strOfNums (numT b)).size
  l2 : (strOfNums (numT b)).size ≤ 10
  l3 : 0 < (strOfNums (numT a)).size
  ne : a ≠ b → ((strOfNums (numT b)).extract 0 (strOfNums (numT a)).size).toList ≠ (strOfNums (numT a)).toList
  i1 : ∃ x, pack_Int.f k [] [a % 64] = some [x]
  i2 : ∃ x, pack_Int.f k [] [-(a % 64)] = some [x]
  i3 : ∃ x, pack_Int.f k [] [-(a % 64) - 1] = some [x]
  hd : forebaylaw01_head.f k = some true
noncomputable def forebaylaw01_PackShort.f (k : Nat) (a0 a1 : Int) : Option Bool := @ite _ (ShortOk k (if a1 < a0 then a1 else a0) (if a1 < a0 then a0 else a1)) (Classical.propDecidable _) (some true) none
theorem forebaylaw01_PackShort.mono : ∀ a0 a1 k, LeO (forebaylaw01_PackShort.f k a0 a1) (forebaylaw01_PackShort.f (k + 1) a0 a1) := by
  intro a0 a1 k r h
  unfold forebaylaw01_PackShort.f at h ⊢
  by_cases hk : ShortOk k (if a1 < a0 then a1 else a0) (if a1 < a0 then a0 else a1)
  · rw [@if_pos _ (Classical.propDecidable _) hk] at h
    obtain ⟨x1, e1⟩ := hk.i1
    obtain ⟨x2, e2⟩ := hk.i2
    obtain ⟨x3, e3⟩ := hk.i3
    rw [@if_pos _ (Classical.propDecidable _) { hk with i1 := ⟨x1, pack_Int.mono _ _ _ _ e1⟩, i2 := ⟨x2, pack_Int.mono _ _ _ _ e2⟩, i3 := ⟨x3, pack_Int.mono _ _ _ _ e3⟩, hd := forebaylaw01_head.mono _ _ hk.hd }]
    exact h
  · rw [@if_neg _ (Classical.propDecidable _) hk] at h; cases h
theorem pack_Num_str (A : Option Addr) (x : Int) (W : World) (h : Kd.C (Kd.int .u64) W A 1 [x]) (hx : 0 ≤ x ∧ x < 18446744073709551616) :
    Calls Try.prog 13 #[.slice none 0 0, .slice A 1 1] W fun e w' => ∃ g : Nat, e = .returned (.slice (some ⟨g, 0, none⟩) (numT x).length (numT x).length) ∧ Kd.F (Kd.int .u8) w' (fun k => W.heap.size ≤ k) (some ⟨g, 0, none⟩) (numT x).length (numT x) ∧ Below W.heap.size W w' := by
  have := pack_Num1 none 0 0 [] A x W (Kd.F_now (Kd.F_nil _ _ (fun _ => True))) rfl h (by decide) hx
  rwa [List.nil_append] at this
theorem pack_Int_one (k : Nat) (A : Option Addr) (x y : Int) (W : World) (h : Kd.C (Kd.int .i64) W A 1 [x]) (hk : pack_Int.f k [] [x] = some [y]) :
    Calls Try.prog 14 #[.slice none 0 0, .slice A 1 1] W fun e w' => (∃ A' c', e = .returned (.slice A' 1 c')) ∧ Below W.heap.size W w' := by
  refine (pack_Int.calls k none 0 [] A 1 [x] _ W (Kd.F_now (Kd.F_nil _ _ (fun _ => True))) (Nat.le_refl _) h (Nat.le_refl _) hk).mono ?_
  rintro e w' ⟨v, rfl, hV, hb⟩
  obtain ⟨A', c', rfl, hc, hF⟩ := hV
  exact ⟨⟨A', c', rfl⟩, hb⟩
set_option maxHeartbeats 4000000 in
theorem short_lt (k : Nat) (a b : Int) (w : World) (hgt : ¬ b < a) (hk : ShortOk k a b) :
    Calls Try.prog 4 #[.int .u64 a, .int .u64 b] w fun e w' => e = .returned (.bool true) ∧ Below w.heap.size w w' := by
  have hd := decide_eq_false hgt
  obtain ⟨a0, a1, b0, b1, l1, l2, l3, ne, ⟨y1, i1⟩, ⟨y2, i2⟩, ⟨y3, i3⟩, hhd⟩ := hk
  replace i1 := Aside0.mk i1
  replace i2 := Aside0.mk i2
  replace i3 := Aside0.mk i3
  replace hhd := Aside0.mk hhd
  replace ne := Aside0.mk ne
  replace l1 := Aside0.mk l1
  replace l2 := Aside0.mk l2
  replace l3 := Aside0.mk l3
  have HA := Aside0.mk (And.intro a0 a1)
  have HBb := Aside0.mk (And.intro b0 b1)
  clear a1 b0 b1
  go_enter Try.func4, Try.ntmps4
  go_upto_region 3 with (fail)
  go_cut [5, 6] (fun v5 v6 wc => v5 = .string (strOfNums (numT a)) ∧ v6 = .string (strOfNums (numT b)) ∧ Aside0 (Below w.heap.size w wc))
  case first =>
    have g1 := Aside0.mk (show Below w.heap.size w (w.alloc (.cells #[.int .u64 a] 25)).drew from below_drew ((Below.refl _ _).alloc (Nat.le_refl _) _))
    have g2 := Aside0.mk (show Below w.heap.size w ((w.alloc (.cells #[.int .u64 a] 25)).alloc (.cells #[.int .u64 b] 25)).drew from below_drew (((Below.refl _ _).alloc (Nat.le_refl _) _).alloc (by simp) _))
    have g3 := Aside0.mk (show Below w.heap.size w ((w.alloc (.cells #[.int .u64 b] 25)).alloc (.cells #[.int .u64 a] 25)).drew from below_drew (((Below.refl _ _).alloc (Nat.le_refl _) _).alloc (by simp) _))
    have h1 := Aside0.mk (show Kd.C (Kd.int .u64) (w.alloc (.cells #[.int .u64 a] 25)).drew (some ⟨w.heap.size, 0, none⟩) 1 [a] from Kd.C_below (C_lit1 .u64 w a) (below_drew (Below.refl _ _)))
    have h2 := Aside0.mk (show Kd.C (Kd.int .u64) ((w.alloc (.cells #[.int .u64 a] 25)).alloc (.cells #[.int .u64 b] 25)).drew (some ⟨w.heap.size, 0, none⟩) 1 [a] from Kd.C_below (C_lit1 .u64 w a) (below_drew ((Below.refl _ _).alloc (Nat.le_refl _) _)))
    have h3b := Aside0.mk (show Kd.C (Kd.int .u64) ((w.alloc (.cells #[.int .u64 b] 25)).alloc (.cells #[.int .u64 a] 25)).drew (some ⟨w.heap.size, 0, none⟩) 1 [b] from Kd.C_below (C_lit1 .u64 w b) (below_drew ((Below.refl _ _).alloc (Nat.le_refl _) _)))
    have h2b := Aside0.mk (show Kd.C (Kd.int .u64) ((w.alloc (.cells #[.int .u64 a] 25)).alloc (.cells #[.int .u64 b] 25)).drew (some ⟨w.heap.size + 1, 0, none⟩) 1 [b] from Kd.C_below (by have := C_lit1 (e := 25) .u64 (w.alloc (.cells #[.int .u64 a] 25)) b; rwa [World.size_alloc] at this) (below_drew (Below.refl _ _)))
    have h3 := Aside0.mk (show Kd.C (Kd.int .u64) ((w.alloc (.cells #[.int .u64 b] 25)).alloc (.cells #[.int .u64 a] 25)).drew (some ⟨w.heap.size + 1, 0, none⟩) 1 [a] from Kd.C_below (by have := C_lit1 (e := 25) .u64 (w.alloc (.cells #[.int .u64 b] 25)) a; rwa [World.size_alloc] at this) (below_drew (Below.refl _ _)))
    go_region_with (first | (go_at_call 13; with_reducible refine (pack_Num_str _ a _ h1.out HA.out).mono ?_; rintro e w1 ⟨gA, rfl, hF, hb⟩; have hFn := Kd.F_now hF; have hcv := Kd.C_string (c := (numT a).length) Try.underlying31 Try.underlying5 Try.underlying9 hFn; have hAb := Kd.C_below hFn ((Below.refl _ _).alloc (Nat.le_refl _) (.cells #[.int .u64 b] 25)); have hcv1 := Kd.C_string (c := (numT a).length) Try.underlying31 Try.underlying5 Try.underlying9 hAb; have hrb := Aside0.mk (C_lit1 (e := 25) .u64 w1 b); have hBa := Aside0.mk (g1.out.trans (hb.mono g1.out.size)); have hBb := Aside0.mk (hBa.out.trans (((Below.refl _ _).alloc (Nat.le_refl _) (.cells #[.int .u64 b] 25)).mono hBa.out.size)); replace hAb := Aside0.mk hAb; clear hF hFn hb) | (go_at_call 13; with_reducible refine (pack_Num_str _ a _ h2.out HA.out).mono ?_; rintro e w1 ⟨gA, rfl, hF, hb⟩; have hFn := Kd.F_now hF; have hcv := Kd.C_string (c := (numT a).length) Try.underlying31 Try.underlying5 Try.underlying9 hFn; have hAb := Aside0.mk hFn; have hrb := Aside0.mk (Kd.C_below h2b.out hb); have hBb := Aside0.mk (g2.out.trans (hb.mono g2.out.size)); clear hF hFn hb) | (go_at_call 13; with_reducible refine (pack_Num_str _ a _ h3.out HA.out).mono ?_; rintro e w1 ⟨gA, rfl, hF, hb⟩; have hFn := Kd.F_now hF; have hcv := Kd.C_string (c := (numT a).length) Try.underlying31 Try.underlying5 Try.underlying9 hFn; have hAb := Aside0.mk hFn; have hrb := Aside0.mk (Kd.C_below h3b.out hb); have hBb := Aside0.mk (g3.out.trans (hb.mono g3.out.size)); clear hF hFn hb) | (go_at_call 13; with_reducible refine (pack_Num_str _ b _ hrb.out HBb.out).mono ?_; rintro e w2 ⟨gB, rfl, hF2, hb2⟩; have hFn2 := Kd.F_now hF2; have hcv2 := Kd.C_string (c := (numT b).length) Try.underlying31 Try.underlying5 Try.underlying9 hFn2; have hcv3 := Kd.C_string (c := (numT a).length) Try.underlying31 Try.underlying5 Try.underlying9 (Kd.C_below hAb.out hb2); have hBe := Aside0.mk (hBb.out.trans (hb2.mono hBb.out.size)); clear hF2 hFn2 hb2))
    all_goals go_wp2
    all_goals (go_meet; case rel => exact ⟨rfl, rfl, hBe⟩)
  case rest =>
    obtain ⟨rfl, rfl, HB⟩ := hcut
    have n1 := ne.out
    have m1 := l1.out
    have m2 := l2.out
    have m3 := l3.out
    clear l1 l2 l3 ne
    generalize strOfNums (numT a) = sa at *
    generalize strOfNums (numT b) = sb at *
    have q1 : decide ((sb.size : Int) < (sa.size : Int)) = false := decide_eq_false (by omega)
    have q1n : decide (sb.size < sa.size) = false := decide_eq_false (by omega)
    have q2 : decide (10 < (sb.size : Int)) = false := decide_eq_false (by omega)
    have q2n : decide (10 < sb.size) = false := decide_eq_false (by omega)
    have q3 : ((sa.size : Int) == 0) = false := beq_eq_false_iff_ne.mpr (by omega)
    have q3n : (sa.size == 0) = false := beq_eq_false_iff_ne.mpr (by omega)
    have r0 : 0 ≤ a % 64 := Int.emod_nonneg a (by omega)
    have r1 : a % 64 < 64 := Int.emod_lt_of_pos a (by omega)
    by_cases hab : a = b
    · have q4 : (a == b) = true := beq_iff_eq.mpr hab
      have q4' : (a != b) = false := bne_eq_false_iff_eq.mpr hab
      clear hab n1
      go_wp2_with (first | (go_at_call 14; with_reducible refine (pack_Int_one k _ _ y1 _ (C_lit1 _ _ _) i1.out).mono ?_; rintro e w3 ⟨⟨A3, c3, rfl⟩, hb3⟩; replace hb3 := Aside0.mk hb3) | (go_at_call 14; with_reducible refine (pack_Int_one k _ _ y2 _ (C_lit1 _ _ _) i2.out).mono ?_; rintro e w4 ⟨⟨A4, c4, rfl⟩, hb4⟩; replace hb4 := Aside0.mk hb4) | (go_at_call 14; with_reducible refine (pack_Int_one k _ _ y3 _ (C_lit1 _ _ _) i3.out).mono ?_; rintro e w5 ⟨⟨A5, c5, rfl⟩, hb5⟩; replace hb5 := Aside0.mk hb5) | (go_at_call 6; with_reducible refine (forebaylaw01_head.calls _ _ _ hhd.out).mono ?_; rintro e w6 ⟨rfl, hb6⟩; replace hb6 := Aside0.mk hb6))
      go_ret
      have k3 := HB.out.trans (((Below.refl wc.heap.size wc).alloc (Nat.le_refl _) (.cells #[.int .i64 (a % 64)] 2)).mono HB.out.size)
      have k4 := k3.trans (hb3.out.mono k3.size)
      have k5 := k4.trans (((Below.refl w3.heap.size w3).alloc (Nat.le_refl _) (.cells #[.int .i64 (-(a % 64))] 2)).mono k4.size)
      have k6 := k5.trans (hb4.out.mono k5.size)
      have k7 := k6.trans (((Below.refl w4.heap.size w4).alloc (Nat.le_refl _) (.cells #[.int .i64 (-(a % 64) - 1)] 2)).mono k6.size)
      have k8 := k7.trans (hb5.out.mono k7.size)
      exact ⟨rfl, k8.trans (hb6.out.mono k8.size)⟩
    · have q4 : (a == b) = false := beq_eq_false_iff_ne.mpr hab
      have q4' : (a != b) = true := bne_iff_ne.mpr hab
      have q5 : ((sb.extract 0 sa.size).toList == sa.toList) = false := beq_eq_false_iff_ne.mpr (n1 hab)
      clear hab n1
      go_wp2_with (first | (go_at_call 14; with_reducible refine (pack_Int_one k _ _ y1 _ (C_lit1 _ _ _) i1.out).mono ?_; rintro e w3 ⟨⟨A3, c3, rfl⟩, hb3⟩; replace hb3 := Aside0.mk hb3) | (go_at_call 14; with_reducible refine (pack_Int_one k _ _ y2 _ (C_lit1 _ _ _) i2.out).mono ?_; rintro e w4 ⟨⟨A4, c4, rfl⟩, hb4⟩; replace hb4 := Aside0.mk hb4) | (go_at_call 14; with_reducible refine (pack_Int_one k _ _ y3 _ (C_lit1 _ _ _) i3.out).mono ?_; rintro e w5 ⟨⟨A5, c5, rfl⟩, hb5⟩; replace hb5 := Aside0.mk hb5) | (go_at_call 6; with_reducible refine (forebaylaw01_head.calls _ _ _ hhd.out).mono ?_; rintro e w6 ⟨rfl, hb6⟩; replace hb6 := Aside0.mk hb6))
      go_ret
      have k3 := HB.out.trans (((Below.refl wc.heap.size wc).alloc (Nat.le_refl _) (.cells #[.int .i64 (a % 64)] 2)).mono HB.out.size)
      have k4 := k3.trans (hb3.out.mono k3.size)
      have k5 := k4.trans (((Below.refl w3.heap.size w3).alloc (Nat.le_refl _) (.cells #[.int .i64 (-(a % 64))] 2)).mono k4.size)
      have k6 := k5.trans (hb4.out.mono k5.size)
      have k7 := k6.trans (((Below.refl w4.heap.size w4).alloc (Nat.le_refl _) (.cells #[.int .i64 (-(a % 64) - 1)] 2)).mono k6.size)
      have k8 := k7.trans (hb5.out.mono k7.size)
      exact ⟨rfl, k8.trans (hb6.out.mono k8.size)⟩
set_option maxHeartbeats 4000000 in
theorem short_gt (k : Nat) (a b : Int) (w : World) (hgt : a < b) (hk : ShortOk k a b) :
    Calls Try.prog 4 #[.int .u64 b, .int .u64 a] w fun e w' => e = .returned (.bool true) ∧ Below w.heap.size w w' := by
  have hd := decide_eq_true hgt
  obtain ⟨a0, a1, b0, b1, l1, l2, l3, ne, ⟨y1, i1⟩, ⟨y2, i2⟩, ⟨y3, i3⟩, hhd⟩ := hk
  replace i1 := Aside0.mk i1
  replace i2 := Aside0.mk i2
  replace i3 := Aside0.mk i3
  replace hhd := Aside0.mk hhd
  replace ne := Aside0.mk ne
  replace l1 := Aside0.mk l1
  replace l2 := Aside0.mk l2
  replace l3 := Aside0.mk l3
  have HA := Aside0.mk (And.intro a0 a1)
  have HBb := Aside0.mk (And.intro b0 b1)
  clear a1 b0 b1
  go_enter Try.func4, Try.ntmps4
  go_upto_region 3 with (fail)
  go_cut [5, 6] (fun v5 v6 wc => v5 = .string (strOfNums (numT a)) ∧ v6 = .string (strOfNums (numT b)) ∧ Aside0 (Below w.heap.size w wc))
  case first =>
    have g1 := Aside0.mk (show Below w.heap.size w (w.alloc (.cells #[.int .u64 a] 25)).drew from below_drew ((Below.refl _ _).alloc (Nat.le_refl _) _))
    have g2 := Aside0.mk (show Below w.heap.size w ((w.alloc (.cells #[.int .u64 a] 25)).alloc (.cells #[.int .u64 b] 25)).drew from below_drew (((Below.refl _ _).alloc (Nat.le_refl _) _).alloc (by simp) _))
    have g3 := Aside0.mk (show Below w.heap.size w ((w.alloc (.cells #[.int .u64 b] 25)).alloc (.cells #[.int .u64 a] 25)).drew from below_drew (((Below.refl _ _).alloc (Nat.le_refl _) _).alloc (by simp) _))
    have h1 := Aside0.mk (show Kd.C (Kd.int .u64) (w.alloc (.cells #[.int .u64 a] 25)).drew (some ⟨w.heap.size, 0, none⟩) 1 [a] from Kd.C_below (C_lit1 .u64 w a) (below_drew (Below.refl _ _)))
    have h2 := Aside0.mk (show Kd.C (Kd.int .u64) ((w.alloc (.cells #[.int .u64 a] 25)).alloc (.cells #[.int .u64 b] 25)).drew (some ⟨w.heap.size, 0, none⟩) 1 [a] from Kd.C_below (C_lit1 .u64 w a) (below_drew ((Below.refl _ _).alloc (Nat.le_refl _) _)))
    have h3b := Aside0.mk (show Kd.C (Kd.int .u64) ((w.alloc (.cells #[.int .u64 b] 25)).alloc (.cells #[.int .u64 a] 25)).drew (some ⟨w.heap.size, 0, none⟩) 1 [b] from Kd.C_below (C_lit1 .u64 w b) (below_drew ((Below.refl _ _).alloc (Nat.le_refl _) _)))
    have h2b := Aside0.mk (show Kd.C (Kd.int .u64) ((w.alloc (.cells #[.int .u64 a] 25)).alloc (.cells #[.int .u64 b] 25)).drew (some ⟨w.heap.size + 1, 0, none⟩) 1 [b] from Kd.C_below (by have := C_lit1 (e := 25) .u64 (w.alloc (.cells #[.int .u64 a] 25)) b; rwa [World.size_alloc] at this) (below_drew (Below.refl _ _)))
    have h3 := Aside0.mk (show Kd.C (Kd.int .u64) ((w.alloc (.cells #[.int .u64 b] 25)).alloc (.cells #[.int .u64 a] 25)).drew (some ⟨w.heap.size + 1, 0, none⟩) 1 [a] from Kd.C_below (by have := C_lit1 (e := 25) .u64 (w.alloc (.cells #[.int .u64 b] 25)) a; rwa [World.size_alloc] at this) (below_drew (Below.refl _ _)))
    go_region_with (first | (go_at_call 13; with_reducible refine (pack_Num_str _ a _ h1.out HA.out).mono ?_; rintro e w1 ⟨gA, rfl, hF, hb⟩; have hFn := Kd.F_now hF; have hcv := Kd.C_string (c := (numT a).length) Try.underlying31 Try.underlying5 Try.underlying9 hFn; have hAb := Kd.C_below hFn ((Below.refl _ _).alloc (Nat.le_refl _) (.cells #[.int .u64 b] 25)); have hcv1 := Kd.C_string (c := (numT a).length) Try.underlying31 Try.underlying5 Try.underlying9 hAb; have hrb := Aside0.mk (C_lit1 (e := 25) .u64 w1 b); have hBa := Aside0.mk (g1.out.trans (hb.mono g1.out.size)); have hBb := Aside0.mk (hBa.out.trans (((Below.refl _ _).alloc (Nat.le_refl _) (.cells #[.int .u64 b] 25)).mono hBa.out.size)); replace hAb := Aside0.mk hAb; clear hF hFn hb) | (go_at_call 13; with_reducible refine (pack_Num_str _ a _ h2.out HA.out).mono ?_; rintro e w1 ⟨gA, rfl, hF, hb⟩; have hFn := Kd.F_now hF; have hcv := Kd.C_string (c := (numT a).length) Try.underlying31 Try.underlying5 Try.underlying9 hFn; have hAb := Aside0.mk hFn; have hrb := Aside0.mk (Kd.C_below h2b.out hb); have hBb := Aside0.mk (g2.out.trans (hb.mono g2.out.size)); clear hF hFn hb) | (go_at_call 13; with_reducible refine (pack_Num_str _ a _ h3.out HA.out).mono ?_; rintro e w1 ⟨gA, rfl, hF, hb⟩; have hFn := Kd.F_now hF; have hcv := Kd.C_string (c := (numT a).length) Try.underlying31 Try.underlying5 Try.underlying9 hFn; have hAb := Aside0.mk hFn; have hrb := Aside0.mk (Kd.C_below h3b.out hb); have hBb := Aside0.mk (g3.out.trans (hb.mono g3.out.size)); clear hF hFn hb) | (go_at_call 13; with_reducible refine (pack_Num_str _ b _ hrb.out HBb.out).mono ?_; rintro e w2 ⟨gB, rfl, hF2, hb2⟩; have hFn2 := Kd.F_now hF2; have hcv2 := Kd.C_string (c := (numT b).length) Try.underlying31 Try.underlying5 Try.underlying9 hFn2; have hcv3 := Kd.C_string (c := (numT a).length) Try.underlying31 Try.underlying5 Try.underlying9 (Kd.C_below hAb.out hb2); have hBe := Aside0.mk (hBb.out.trans (hb2.mono hBb.out.size)); clear hF2 hFn2 hb2))
    all_goals go_wp2
    all_goals (go_meet; case rel => exact ⟨rfl, rfl, hBe⟩)
  case rest =>
    obtain ⟨rfl, rfl, HB⟩ := hcut
    have n1 := ne.out
    have m1 := l1.out
    have m2 := l2.out
    have m3 := l3.out
    clear l1 l2 l3 ne
    generalize strOfNums (numT a) = sa at *
    generalize strOfNums (numT b) = sb at *
    have q1 : decide ((sb.size : Int) < (sa.size : Int)) = false := decide_eq_false (by omega)
    have q1n : decide (sb.size < sa.size) = false := decide_eq_false (by omega)
    have q2 : decide (10 < (sb.size : Int)) = false := decide_eq_false (by omega)
    have q2n : decide (10 < sb.size) = false := decide_eq_false (by omega)
    have q3 : ((sa.size : Int) == 0) = false := beq_eq_false_iff_ne.mpr (by omega)
    have q3n : (sa.size == 0) = false := beq_eq_false_iff_ne.mpr (by omega)
    have r0 : 0 ≤ a % 64 := Int.emod_nonneg a (by omega)
    have r1 : a % 64 < 64 := Int.emod_lt_of_pos a (by omega)
    by_cases hab : a = b
    · have q4 : (a == b) = true := beq_iff_eq.mpr hab
      have q4' : (a != b) = false := bne_eq_false_iff_eq.mpr hab
      clear hab n1
      go_wp2_with (first | (go_at_call 14; with_reducible refine (pack_Int_one k _ _ y1 _ (C_lit1 _ _ _) i1.out).mono ?_; rintro e w3 ⟨⟨A3, c3, rfl⟩, hb3⟩; replace hb3 := Aside0.mk hb3) | (go_at_call 14; with_reducible refine (pack_Int_one k _ _ y2 _ (C_lit1 _ _ _) i2.out).mono ?_; rintro e w4 ⟨⟨A4, c4, rfl⟩, hb4⟩; replace hb4 := Aside0.mk hb4) | (go_at_call 14; with_reducible refine (pack_Int_one k _ _ y3 _ (C_lit1 _ _ _) i3.out).mono ?_; rintro e w5 ⟨⟨A5, c5, rfl⟩, hb5⟩; replace hb5 := Aside0.mk hb5) | (go_at_call 6; with_reducible refine (forebaylaw01_head.calls _ _ _ hhd.out).mono ?_; rintro e w6 ⟨rfl, hb6⟩; replace hb6 := Aside0.mk hb6))
      go_ret
      have k3 := HB.out.trans (((Below.refl wc.heap.size wc).alloc (Nat.le_refl _) (.cells #[.int .i64 (a % 64)] 2)).mono HB.out.size)
      have k4 := k3.trans (hb3.out.mono k3.size)
      have k5 := k4.trans (((Below.refl w3.heap.size w3).alloc (Nat.le_refl _) (.cells #[.int .i64 (-(a % 64))] 2)).mono k4.size)
      have k6 := k5.trans (hb4.out.mono k5.size)
      have k7 := k6.trans (((Below.refl w4.heap.size w4).alloc (Nat.le_refl _) (.cells #[.int .i64 (-(a % 64) - 1)] 2)).mono k6.size)
      have k8 := k7.trans (hb5.out.mono k7.size)
      exact ⟨rfl, k8.trans (hb6.out.mono k8.size)⟩
    · have q4 : (a == b) = false := beq_eq_false_iff_ne.mpr hab
      have q4' : (a != b) = true := bne_iff_ne.mpr hab
      have q5 : ((sb.extract 0 sa.size).toList == sa.toList) = false := beq_eq_false_iff_ne.mpr (n1 hab)
      clear hab n1
      go_wp2_with (first | (go_at_call 14; with_reducible refine (pack_Int_one k _ _ y1 _ (C_lit1 _ _ _) i1.out).mono ?_; rintro e w3 ⟨⟨A3, c3, rfl⟩, hb3⟩; replace hb3 := Aside0.mk hb3) | (go_at_call 14; with_reducible refine (pack_Int_one k _ _ y2 _ (C_lit1 _ _ _) i2.out).mono ?_; rintro e w4 ⟨⟨A4, c4, rfl⟩, hb4⟩; replace hb4 := Aside0.mk hb4) | (go_at_call 14; with_reducible refine (pack_Int_one k _ _ y3 _ (C_lit1 _ _ _) i3.out).mono ?_; rintro e w5 ⟨⟨A5, c5, rfl⟩, hb5⟩; replace hb5 := Aside0.mk hb5) | (go_at_call 6; with_reducible refine (forebaylaw01_head.calls _ _ _ hhd.out).mono ?_; rintro e w6 ⟨rfl, hb6⟩; replace hb6 := Aside0.mk hb6))
      go_ret
      have k3 := HB.out.trans (((Below.refl wc.heap.size wc).alloc (Nat.le_refl _) (.cells #[.int .i64 (a % 64)] 2)).mono HB.out.size)
      have k4 := k3.trans (hb3.out.mono k3.size)
      have k5 := k4.trans (((Below.refl w3.heap.size w3).alloc (Nat.le_refl _) (.cells #[.int .i64 (-(a % 64))] 2)).mono k4.size)
      have k6 := k5.trans (hb4.out.mono k5.size)
      have k7 := k6.trans (((Below.refl w4.heap.size w4).alloc (Nat.le_refl _) (.cells #[.int .i64 (-(a % 64) - 1)] 2)).mono k6.size)
      have k8 := k7.trans (hb5.out.mono k7.size)
      exact ⟨rfl, k8.trans (hb6.out.mono k8.size)⟩
theorem forebaylaw01_PackShort.calls (k : Nat) (a0 : Int) (a1 : Int) (r : Bool) (w : World) (h : forebaylaw01_PackShort.f k a0 a1 = some r) :
    Calls Try.prog 4 #[.int .u64 a0, .int .u64 a1] w fun e w' => e = .returned (.bool r) ∧ Below w.heap.size w w' := by
  unfold forebaylaw01_PackShort.f at h
  by_cases hk : ShortOk k (if a1 < a0 then a1 else a0) (if a1 < a0 then a0 else a1)
  case neg => rw [@if_neg _ (Classical.propDecidable _) hk] at h; cases h
  rw [@if_pos _ (Classical.propDecidable _) hk] at h
  obtain rfl := Option.some.inj h
  by_cases hgt : a1 < a0
  · rw [if_pos hgt, if_pos hgt] at hk
    exact short_gt k a1 a0 w hgt hk
  · rw [if_neg hgt, if_neg hgt] at hk
    exact short_lt k a0 a1 w hgt hk

/-- THE ONE PURE STATEMENT of forebaylaw01_PackShort: yours. -/
def forebaylaw01_PackShort.Pure : Prop := ∀ (a0 : Int) (a1 : Int), (Lit.int .u64 a0).wf = true → (Lit.int .u64 a1).wf = true → ∃ k, forebaylaw01_PackShort.f k a0 a1 = some true
theorem forebaylaw01_PackShort.walk (P : forebaylaw01_PackShort.Pure) (a0 : Int) (a1 : Int) (w : World) (w0 : (Lit.int .u64 a0).wf = true) (w1 : (Lit.int .u64 a1).wf = true) :
    Calls Try.prog 4 #[.int .u64 a0, .int .u64 a1] w fun e w' => e = .returned (.bool true) ∧ Below w.heap.size w w' := by
  obtain ⟨k, h⟩ := P a0 a1 w0 w1
  refine (forebaylaw01_PackShort.calls k a0 a1 true w h).mono ?_
  rintro e w' ⟨rfl, hd⟩
  exact ⟨rfl, hd⟩

end Go.Proofs.Ytphmejgipjcppaa.P
