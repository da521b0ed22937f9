-- Written by this session's program gprint.py: functions of the program as plain functions, and that the machine does what they say. Not trusted: Lean checks it.
import Derived.Test.YtdhnlcbijefinaaPx0
import Derived.Test.YtdhnlcbijefinaaPx1
import Derived.Test.YtdhnlcbijefinaaPx2
import Derived.Test.YtdhnlcbijefinaaPx3
import Derived.Test.YtdhnlcbijefinaaPx5
namespace Go.Proofs.Ytdhnlcbijefinaa.P
open Go.RowKit Go.Proofs.YtdhnlcbijefinaaW.PrintWords Go.Proofs.YtdhnlcbijefinaaW.PrintLast Go.Proofs.YtdhnlcbijefinaaW.PrintMore
attribute [local go_sem] max2_int min2_int max_two min_two max_three min_three max_four min_four   -- for this text's walks alone
set_option linter.unusedVariables false
set_option linter.unusedSimpArgs false

/-! ### forebaylaw06_FrameCut: function 4 -/
def forebaylaw06_FrameCut.l0 : Nat → List ByteArray → Int → List ByteArray → Int → Int → Int → Option (Bool)
  | 0, _, _, _, _, _, _ => none
  | k + 1, x0, x7, x8, x9, x10, x11 => if x11 < (x8.length : Int) then (if x11 ≥ (x0.length : Int) then (some false) else (if 0 ≤ x11 then (if x11 < (x0.length : Int) then (if (rdOf ByteArray.empty x8 x11).toList = (rdOf ByteArray.empty x0 x11).toList then ((frame_Cost.f ((rdOf ByteArray.empty x0 x11).size : Int)).bind fun t162 => (forebaylaw06_FrameCut.l0 k x0 x7 x8 x9 (wrap64 (x10 + t162)) (wrap64 (x11 + 1)))) else (some false)) else (none)) else (none))) else (if (x8.length : Int) = (x0.length : Int) then (if x9 = x10 then (if x10 ≤ x7 then ((forebaylaw06_head.f k).bind fun t163 => (some t163)) else (some false)) else (some false)) else (if 0 ≤ (x8.length : Int) then (if (x8.length : Int) < (x0.length : Int) then ((frame_Cost.f ((rdOf ByteArray.empty x0 (x8.length : Int)).size : Int)).bind fun t165 => (if x9 = x10 then (if x10 ≤ x7 then (if x7 < (wrap64 (x10 + t165)) then ((forebaylaw06_head.f k).bind fun t166 => (some t166)) else (some false)) else (some false)) else (some false))) else (none)) else (none)))
def forebaylaw06_FrameCut.f (k : Nat) (l0 : List ByteArray) (a1 : Int) : Option (Bool) := (forebaylaw06_great.f k l0).bind fun t151 => (if t151 = true then ((forebaylaw06_head.f k).bind fun t152 => (some t152)) else ((frame_Put.f k l0).bind fun bt153 => (if bt153.2 = 0 then (if (wrap64 ((bt153.1.size : Int) + 1)) = 0 then (none) else (if 0 ≤ (Int.tmod (wrap64 (a1)) (wrap64 ((bt153.1.size : Int) + 1))) then (if (Int.tmod (wrap64 (a1)) (wrap64 ((bt153.1.size : Int) + 1))) ≤ (bt153.1.size : Int) then ((frame_Scan.f (bt153.1.extract 0 ((Int.tmod (wrap64 (a1)) (wrap64 ((bt153.1.size : Int) + 1))) : Int).toNat)).bind fun bt155 => (forebaylaw06_FrameCut.l0 k l0 (Int.tmod (wrap64 (a1)) (wrap64 ((bt153.1.size : Int) + 1))) bt155.1 bt155.2 0 0)) else (none)) else (none))) else (some false))))
theorem forebaylaw06_FrameCut.mono_l : ∀ k, (∀ y0 y1 y2 y3 y4 y5, LeO (forebaylaw06_FrameCut.l0 k y0 y1 y2 y3 y4 y5) (forebaylaw06_FrameCut.l0 (k + 1) y0 y1 y2 y3 y4 y5))
  | 0 => fun _ _ _ _ _ _ r h => by simp [forebaylaw06_FrameCut.l0] at h
  | k + 1 => by
    have ih0 := forebaylaw06_FrameCut.mono_l k
    · intro y0 y1 y2 y3 y4 y5
      unfold forebaylaw06_FrameCut.l0
      repeat' first
      | (with_reducible exact ih0 _ _ _ _ _ _)
      | (with_reducible exact forebaylaw06_great.mono _ _)
      | (with_reducible exact forebaylaw06_head.mono _)
      | (with_reducible exact frame_Put.mono _ _)
      | (with_reducible exact LeO.refl _)
      | (with_reducible exact LeO.none _)
      | (with_reducible refine LeO.ite ?_ ?_)
      | (with_reducible refine LeO.bind ?_ (fun _ => ?_))
      | exact ih0 _ _ _ _ _ _
      | exact forebaylaw06_great.mono _ _
      | exact forebaylaw06_head.mono _
      | exact frame_Put.mono _ _
      | exact LeO.none _
      | refine LeO.ite ?_ ?_
      | refine LeO.bind ?_ (fun _ => ?_)
theorem forebaylaw06_FrameCut.mono : ∀ a0 a1 k, LeO (forebaylaw06_FrameCut.f k a0 a1) (forebaylaw06_FrameCut.f (k + 1) a0 a1) := by
  intro a0 a1 k
  have ih0 := forebaylaw06_FrameCut.mono_l k
  unfold forebaylaw06_FrameCut.f
  repeat' first
      | (with_reducible exact ih0 _ _ _ _ _ _)
      | (with_reducible exact forebaylaw06_great.mono _ _)
      | (with_reducible exact forebaylaw06_head.mono _)
      | (with_reducible exact frame_Put.mono _ _)
      | (with_reducible exact LeO.refl _)
      | (with_reducible exact LeO.none _)
      | (with_reducible refine LeO.ite ?_ ?_)
      | (with_reducible refine LeO.bind ?_ (fun _ => ?_))
      | exact ih0 _ _ _ _ _ _
      | exact forebaylaw06_great.mono _ _
      | exact forebaylaw06_head.mono _
      | exact frame_Put.mono _ _
      | exact LeO.none _
      | refine LeO.ite ?_ ?_
      | refine LeO.bind ?_ (fun _ => ?_)
set_option maxHeartbeats 8000000 in
set_option maxRecDepth 100000 in
theorem forebaylaw06_FrameCut.calls (k : Nat) (A0 : Option Addr) (c0 : Nat) (l0 : List ByteArray) (a1 : Int) (r : Bool) (w : World) (hr0 : Kd.C Kd.string w A0 l0.length l0) (hc0 : l0.length ≤ c0) (h : forebaylaw06_FrameCut.f k l0 a1 = some r) :
    Calls Try.prog 4 #[.slice A0 l0.length c0, .int .u16 a1] w fun e w' => e = .returned (.bool r) ∧ Below w.heap.size w w' := by
  have HR0 := Aside0.mk hr0
  have HC0 := Aside0.mk hc0
  clear hr0 hc0
  have HB := Aside0.mk (Below.refl w.heap.size w)
  have H : ((forebaylaw06_great.f k l0).bind fun t151 => (if t151 = true then ((forebaylaw06_head.f k).bind fun t152 => (some t152)) else ((frame_Put.f k l0).bind fun bt153 => (if bt153.2 = 0 then (if (wrap64 ((bt153.1.size : Int) + 1)) = 0 then (none) else (if 0 ≤ (Int.tmod (wrap64 (a1)) (wrap64 ((bt153.1.size : Int) + 1))) then (if (Int.tmod (wrap64 (a1)) (wrap64 ((bt153.1.size : Int) + 1))) ≤ (bt153.1.size : Int) then ((frame_Scan.f (bt153.1.extract 0 ((Int.tmod (wrap64 (a1)) (wrap64 ((bt153.1.size : Int) + 1))) : Int).toNat)).bind fun bt155 => (forebaylaw06_FrameCut.l0 k l0 (Int.tmod (wrap64 (a1)) (wrap64 ((bt153.1.size : Int) + 1))) bt155.1 bt155.2 0 0)) else (none)) else (none))) else (some false))))) = some r := h
  clear h
  replace H := Option.bind_eq_some_iff.mp H
  obtain ⟨t151, A30, H⟩ := H
  replace H : (if t151 = true then ((forebaylaw06_head.f k).bind fun t152 => (some t152)) else ((frame_Put.f k l0).bind fun bt153 => (if bt153.2 = 0 then (if (wrap64 ((bt153.1.size : Int) + 1)) = 0 then (none) else (if 0 ≤ (Int.tmod (wrap64 (a1)) (wrap64 ((bt153.1.size : Int) + 1))) then (if (Int.tmod (wrap64 (a1)) (wrap64 ((bt153.1.size : Int) + 1))) ≤ (bt153.1.size : Int) then ((frame_Scan.f (bt153.1.extract 0 ((Int.tmod (wrap64 (a1)) (wrap64 ((bt153.1.size : Int) + 1))) : Int).toNat)).bind fun bt155 => (forebaylaw06_FrameCut.l0 k l0 (Int.tmod (wrap64 (a1)) (wrap64 ((bt153.1.size : Int) + 1))) bt155.1 bt155.2 0 0)) else (none)) else (none))) else (some false)))) = some r := H
  have A3 := Aside0.mk A30
  clear A30
  by_cases c4 : t151 = true
  · subst c4
    have H1 : ((forebaylaw06_head.f k).bind fun t152 => (some t152)) = some r := by rw [if_pos rfl] at H; exact H
    clear H
    have H := H1
    clear H1
    replace H := Option.bind_eq_some_iff.mp H
    obtain ⟨t152, A50, H⟩ := H
    replace H : (some t152) = some r := H
    have A5 := Aside0.mk A50
    clear A50
    obtain rfl := Option.some.inj H
    go_enter Try.func4, Try.ntmps4
    go_wp2_with (first | (go_at_call 6; (with_reducible refine (forebaylaw06_great.calls k _ _ l0 true _ ?side1 ?side2 A3.out).mono ?_); (case side1 => repeat (first | exact HR0.out | (with_reducible refine Kd.C_alloc ?_ _) | (with_reducible refine Kd.C_drewN ?_ _) | (with_reducible refine Kd.C_drew ?_))); (case side2 => exact HC0.out); rintro e w' ⟨rfl, ⟨nd, rfl⟩⟩; (try first | exact ⟨rfl, _, World.drewN_drewN _ _ _⟩ | exact ⟨rfl, _, Eq.trans (World.drewN_drewN _ _ _) (congrArg (World.drewN _) (Nat.add_assoc _ _ _))⟩)) | (go_at_call 7; (with_reducible refine (forebaylaw06_head.calls k  t152 _ A5.out).mono ?_); rintro e w6 ⟨rfl, hb⟩; have n0_ := Aside0.mk (below_step (by repeat (first | (with_reducible first | exact HB.out | apply below_alloc | apply pw_below_drewN | apply below_drew1) | exact HB.out)) hb); clear HB; have HB := n0_; clear n0_; (try clear hb); (try clear hb2); (try clear hk); (try clear hi)))
    repeat (go_quiet (first | (go_at_call 6; (with_reducible refine (forebaylaw06_great.calls k _ _ l0 true _ ?side1 ?side2 A3.out).mono ?_); (case side1 => repeat (first | exact HR0.out | (with_reducible refine Kd.C_alloc ?_ _) | (with_reducible refine Kd.C_drewN ?_ _) | (with_reducible refine Kd.C_drew ?_))); (case side2 => exact HC0.out); rintro e w' ⟨rfl, ⟨nd, rfl⟩⟩; (try first | exact ⟨rfl, _, World.drewN_drewN _ _ _⟩ | exact ⟨rfl, _, Eq.trans (World.drewN_drewN _ _ _) (congrArg (World.drewN _) (Nat.add_assoc _ _ _))⟩)) | (go_at_call 7; (with_reducible refine (forebaylaw06_head.calls k  t152 _ A5.out).mono ?_); rintro e w6 ⟨rfl, hb⟩; have n0_ := Aside0.mk (below_step (by repeat (first | (with_reducible first | exact HB.out | apply below_alloc | apply pw_below_drewN | apply below_drew1) | exact HB.out)) hb); clear HB; have HB := n0_; clear n0_; (try clear hb); (try clear hb2); (try clear hk); (try clear hi))); try go_wp2_with (first | (go_at_call 6; (with_reducible refine (forebaylaw06_great.calls k _ _ l0 true _ ?side1 ?side2 A3.out).mono ?_); (case side1 => repeat (first | exact HR0.out | (with_reducible refine Kd.C_alloc ?_ _) | (with_reducible refine Kd.C_drewN ?_ _) | (with_reducible refine Kd.C_drew ?_))); (case side2 => exact HC0.out); rintro e w' ⟨rfl, ⟨nd, rfl⟩⟩; (try first | exact ⟨rfl, _, World.drewN_drewN _ _ _⟩ | exact ⟨rfl, _, Eq.trans (World.drewN_drewN _ _ _) (congrArg (World.drewN _) (Nat.add_assoc _ _ _))⟩)) | (go_at_call 7; (with_reducible refine (forebaylaw06_head.calls k  t152 _ A5.out).mono ?_); rintro e w6 ⟨rfl, hb⟩; have n0_ := Aside0.mk (below_step (by repeat (first | (with_reducible first | exact HB.out | apply below_alloc | apply pw_below_drewN | apply below_drew1) | exact HB.out)) hb); clear HB; have HB := n0_; clear n0_; (try clear hb); (try clear hb2); (try clear hk); (try clear hi))))
    go_ret
    exact ⟨by first | rfl | (simp [errW_none, errW_some] <;> rfl) | (simp [*, errW_none, errW_some] <;> rfl), by repeat (first | (with_reducible first | exact HB.out | apply below_alloc | apply pw_below_drewN | apply below_drew1) | exact HB.out)⟩
  · replace c4 := Bool.eq_false_iff.mpr c4
    subst c4
    have H1 : ((frame_Put.f k l0).bind fun bt153 => (if bt153.2 = 0 then (if (wrap64 ((bt153.1.size : Int) + 1)) = 0 then (none) else (if 0 ≤ (Int.tmod (wrap64 (a1)) (wrap64 ((bt153.1.size : Int) + 1))) then (if (Int.tmod (wrap64 (a1)) (wrap64 ((bt153.1.size : Int) + 1))) ≤ (bt153.1.size : Int) then ((frame_Scan.f (bt153.1.extract 0 ((Int.tmod (wrap64 (a1)) (wrap64 ((bt153.1.size : Int) + 1))) : Int).toNat)).bind fun bt155 => (forebaylaw06_FrameCut.l0 k l0 (Int.tmod (wrap64 (a1)) (wrap64 ((bt153.1.size : Int) + 1))) bt155.1 bt155.2 0 0)) else (none)) else (none))) else (some false))) = some r := by rw [if_neg (show ¬ (false = true) by decide)] at H; exact H
    clear H
    have H := H1
    clear H1
    replace H := Option.bind_eq_some_iff.mp H
    obtain ⟨⟨t153, t154⟩, A70, H⟩ := H
    replace H : (if t154 = 0 then (if (wrap64 ((t153.size : Int) + 1)) = 0 then (none) else (if 0 ≤ (Int.tmod (wrap64 (a1)) (wrap64 ((t153.size : Int) + 1))) then (if (Int.tmod (wrap64 (a1)) (wrap64 ((t153.size : Int) + 1))) ≤ (t153.size : Int) then ((frame_Scan.f (t153.extract 0 ((Int.tmod (wrap64 (a1)) (wrap64 ((t153.size : Int) + 1))) : Int).toNat)).bind fun bt155 => (forebaylaw06_FrameCut.l0 k l0 (Int.tmod (wrap64 (a1)) (wrap64 ((t153.size : Int) + 1))) bt155.1 bt155.2 0 0)) else (none)) else (none))) else (some false)) = some r := H
    have A7 := Aside0.mk A70
    clear A70
    by_cases c8 : t154 = 0
    · rw [if_pos c8] at H
      have c8b0 : (t154 == 0) = true := beq_iff_eq.mpr c8
      have c8b1 : (t154 != 0) = false := bne_eq_false_iff_eq.mpr c8
      clear c8
      by_cases c9 : (wrap64 ((t153.size : Int) + 1)) = 0
      · rw [if_pos c9] at H
        exact absurd H (by simp)
      · rw [if_neg c9] at H
        have c9b0 : ((wrap64 ((t153.size : Int) + 1)) == 0) = false := beq_eq_false_iff_ne.mpr c9
        have c9b1 : ((wrap64 ((t153.size : Int) + 1)) != 0) = true := bne_iff_ne.mpr c9
        obtain ⟨ji10, hji10⟩ : ∃ j_ : Int, (Int.tmod (wrap64 (a1)) (wrap64 ((t153.size : Int) + 1))) = j_ := ⟨_, rfl⟩
        replace H : (if 0 ≤ (ji10) then (if (ji10) ≤ (t153.size : Int) then ((frame_Scan.f (t153.extract 0 ((ji10) : Int).toNat)).bind fun bt155 => (forebaylaw06_FrameCut.l0 k l0 ji10 bt155.1 bt155.2 0 0)) else (none)) else (none)) = some r := by first | (rw [hji10] at H; exact H) | (simp only [hji10] at H ⊢; exact H)
        (try rw [hji10] at A3)
        (try rw [hji10] at A7)
        by_cases c11 : 0 ≤ (ji10)
        · rw [if_pos c11] at H
          have c11b0 := eq_true c11
          have c11b1 : decide (0 ≤ (ji10)) = true := decide_eq_true c11
          clear c11
          by_cases c12 : (ji10) ≤ (t153.size : Int)
          · rw [if_pos c12] at H
            have c12b0 := eq_true c12
            have c12b1 : decide ((ji10) ≤ (t153.size : Int)) = true := decide_eq_true c12
            clear c12
            replace H := Option.bind_eq_some_iff.mp H
            obtain ⟨⟨t155, t158⟩, A130, H⟩ := H
            replace H : (forebaylaw06_FrameCut.l0 k l0 ji10 t155 t158 0 0) = some r := H
            have A13 := Aside0.mk A130
            clear A130
            have H' := Aside0.mk H
            clear H
            go_enter Try.func4, Try.ntmps4
            go_wp2_with (first | (go_at_call 6; (with_reducible refine (forebaylaw06_great.calls k _ _ l0 false _ ?side1 ?side2 A3.out).mono ?_); (case side1 => repeat (first | exact HR0.out | (with_reducible refine Kd.C_alloc ?_ _) | (with_reducible refine Kd.C_drewN ?_ _) | (with_reducible refine Kd.C_drew ?_))); (case side2 => exact HC0.out); rintro e w' ⟨rfl, ⟨nd, rfl⟩⟩; (try first | exact ⟨rfl, _, World.drewN_drewN _ _ _⟩ | exact ⟨rfl, _, Eq.trans (World.drewN_drewN _ _ _) (congrArg (World.drewN _) (Nat.add_assoc _ _ _))⟩)) | (go_at_call 8; (with_reducible refine (frame_Put.calls k _ _ l0 t153 t154 _ ?side1 ?side2 A7.out).mono ?_); (case side1 => repeat (first | exact HR0.out | (with_reducible refine Kd.C_alloc ?_ _) | (with_reducible refine Kd.C_drewN ?_ _) | (with_reducible refine Kd.C_drew ?_))); (case side2 => exact HC0.out); rintro e w14 ⟨rfl, hb⟩; have n0_ := Aside0.mk (below_step (by repeat (first | (with_reducible first | exact HB.out | apply below_alloc | apply pw_below_drewN | apply below_drew1) | exact HB.out)) hb); clear HB; have HB := n0_; clear n0_; (try clear hb); (try clear hb2); (try clear hk); (try clear hi)) | (go_at_call 11; (with_reducible refine (frame_Scan.calls (t153.extract 0 ((ji10) : Int).toNat) t155 t158 _ A13.out).mono ?_); rintro e w15 ⟨v156, rfl, ho0, hb⟩; have n0_ := Aside0.mk (Kd.V_lower (Kd.V_mono (ok' := fun k_ => True) ho0 (fun k_ hk_ => trivial)) (below_size (by repeat (first | (with_reducible first | exact HB.out | apply below_alloc | apply pw_below_drewN | apply below_drew1) | exact HB.out)))); have n1_ := Aside0.mk (below_step (by repeat (first | (with_reducible first | exact HB.out | apply below_alloc | apply pw_below_drewN | apply below_drew1) | exact HB.out)) hb); clear HB; have HO157 := n0_; have HB := n1_; clear n0_ n1_; (try clear hb); (try clear hb2); (try clear hk); (try clear hi); (try clear ho0)))
            repeat (go_quiet (first | (go_at_call 6; (with_reducible refine (forebaylaw06_great.calls k _ _ l0 false _ ?side1 ?side2 A3.out).mono ?_); (case side1 => repeat (first | exact HR0.out | (with_reducible refine Kd.C_alloc ?_ _) | (with_reducible refine Kd.C_drewN ?_ _) | (with_reducible refine Kd.C_drew ?_))); (case side2 => exact HC0.out); rintro e w' ⟨rfl, ⟨nd, rfl⟩⟩; (try first | exact ⟨rfl, _, World.drewN_drewN _ _ _⟩ | exact ⟨rfl, _, Eq.trans (World.drewN_drewN _ _ _) (congrArg (World.drewN _) (Nat.add_assoc _ _ _))⟩)) | (go_at_call 8; (with_reducible refine (frame_Put.calls k _ _ l0 t153 t154 _ ?side1 ?side2 A7.out).mono ?_); (case side1 => repeat (first | exact HR0.out | (with_reducible refine Kd.C_alloc ?_ _) | (with_reducible refine Kd.C_drewN ?_ _) | (with_reducible refine Kd.C_drew ?_))); (case side2 => exact HC0.out); rintro e w14 ⟨rfl, hb⟩; have n0_ := Aside0.mk (below_step (by repeat (first | (with_reducible first | exact HB.out | apply below_alloc | apply pw_below_drewN | apply below_drew1) | exact HB.out)) hb); clear HB; have HB := n0_; clear n0_; (try clear hb); (try clear hb2); (try clear hk); (try clear hi)) | (go_at_call 11; (with_reducible refine (frame_Scan.calls (t153.extract 0 ((ji10) : Int).toNat) t155 t158 _ A13.out).mono ?_); rintro e w15 ⟨v156, rfl, ho0, hb⟩; have n0_ := Aside0.mk (Kd.V_lower (Kd.V_mono (ok' := fun k_ => True) ho0 (fun k_ hk_ => trivial)) (below_size (by repeat (first | (with_reducible first | exact HB.out | apply below_alloc | apply pw_below_drewN | apply below_drew1) | exact HB.out)))); have n1_ := Aside0.mk (below_step (by repeat (first | (with_reducible first | exact HB.out | apply below_alloc | apply pw_below_drewN | apply below_drew1) | exact HB.out)) hb); clear HB; have HO157 := n0_; have HB := n1_; clear n0_ n1_; (try clear hb); (try clear hb2); (try clear hk); (try clear hi); (try clear ho0))); try go_wp2_with (first | (go_at_call 6; (with_reducible refine (forebaylaw06_great.calls k _ _ l0 false _ ?side1 ?side2 A3.out).mono ?_); (case side1 => repeat (first | exact HR0.out | (with_reducible refine Kd.C_alloc ?_ _) | (with_reducible refine Kd.C_drewN ?_ _) | (with_reducible refine Kd.C_drew ?_))); (case side2 => exact HC0.out); rintro e w' ⟨rfl, ⟨nd, rfl⟩⟩; (try first | exact ⟨rfl, _, World.drewN_drewN _ _ _⟩ | exact ⟨rfl, _, Eq.trans (World.drewN_drewN _ _ _) (congrArg (World.drewN _) (Nat.add_assoc _ _ _))⟩)) | (go_at_call 8; (with_reducible refine (frame_Put.calls k _ _ l0 t153 t154 _ ?side1 ?side2 A7.out).mono ?_); (case side1 => repeat (first | exact HR0.out | (with_reducible refine Kd.C_alloc ?_ _) | (with_reducible refine Kd.C_drewN ?_ _) | (with_reducible refine Kd.C_drew ?_))); (case side2 => exact HC0.out); rintro e w14 ⟨rfl, hb⟩; have n0_ := Aside0.mk (below_step (by repeat (first | (with_reducible first | exact HB.out | apply below_alloc | apply pw_below_drewN | apply below_drew1) | exact HB.out)) hb); clear HB; have HB := n0_; clear n0_; (try clear hb); (try clear hb2); (try clear hk); (try clear hi)) | (go_at_call 11; (with_reducible refine (frame_Scan.calls (t153.extract 0 ((ji10) : Int).toNat) t155 t158 _ A13.out).mono ?_); rintro e w15 ⟨v156, rfl, ho0, hb⟩; have n0_ := Aside0.mk (Kd.V_lower (Kd.V_mono (ok' := fun k_ => True) ho0 (fun k_ hk_ => trivial)) (below_size (by repeat (first | (with_reducible first | exact HB.out | apply below_alloc | apply pw_below_drewN | apply below_drew1) | exact HB.out)))); have n1_ := Aside0.mk (below_step (by repeat (first | (with_reducible first | exact HB.out | apply below_alloc | apply pw_below_drewN | apply below_drew1) | exact HB.out)) hb); clear HB; have HO157 := n0_; have HB := n1_; clear n0_ n1_; (try clear hb); (try clear hb2); (try clear hk); (try clear hi); (try clear ho0))))
            go_loopg [10, 11] k (fun kq v10 v11 w' => ∃ (x10_1 : Int) (x11_1 : Int), v10 = .int .i64 x10_1 ∧ v11 = .int .i64 x11_1 ∧ Aside0 (forebaylaw06_FrameCut.l0 kq l0 ji10 t155 t158 x10_1 x11_1 = some r) ∧ Aside0 (kq ≤ k) ∧ Aside0 (Kd.V Kd.string 9 w' w.heap.size (fun _ => True) v156 t155) ∧ Aside0 (Below w.heap.size w w'))
            case atStart => exact ⟨(0), (0), (by first | rfl | (simp; done) | (simp [*]; done) | (simp; exact isEmpty_bne _)), (by first | rfl | (simp; done) | (simp [*]; done) | (simp; exact isEmpty_bne _)), H', ⟨Nat.le_refl _⟩, ⟨by (with_reducible repeat (first | apply Kd.V_alloc | apply Kd.V_drewN | apply Kd.V_drew)); exact HO157.out⟩, ⟨by repeat (first | (with_reducible first | exact HB.out | apply below_alloc | apply pw_below_drewN | apply below_drew1) | exact HB.out)⟩⟩
            case round =>
              clear H'
              try clear c1
              try clear p2
              try clear c4
              try clear p6
              try clear c8
              try clear c8b0
              try clear c8b1
              try clear c9
              try clear c9b0
              try clear c9b1
              try clear c11
              try clear c11b0
              try clear c11b1
              try clear c12
              try clear c12b0
              try clear c12b1
              obtain ⟨x10_1, x11_1, rfl, rfl, HA, HK1, HO_8, HB⟩ := hrel
              cases gk with
              | zero => exact absurd HA.out (by simp [forebaylaw06_FrameCut.l0])
              | succ k1 =>
                have H := HA.out
                clear HA
                simp only [forebaylaw06_FrameCut.l0] at H
                by_cases c16 : x11_1 < (t155.length : Int)
                · rw [if_pos c16] at H
                  have c16b0 : decide (x11_1 < (t155.length : Int)) = true := decide_eq_true c16
                  clear c16
                  by_cases c17 : x11_1 ≥ (l0.length : Int)
                  · rw [if_pos c17] at H
                    have c17b0 : decide ((l0.length : Int) ≤ x11_1) = true := decide_eq_true c17
                    clear c17
                    obtain rfl := Option.some.inj H
                    obtain ⟨Ao18, co18, eo18⟩ := Kd.V_slice HO_8.out
                    subst eo18
                    go_wp2
                    repeat (go_quiet (fail); try go_wp2)
                    go_ret
                    exact ⟨by first | rfl | (simp [errW_none, errW_some] <;> rfl) | (simp only [← hji10]; first | rfl | (simp [errW_none, errW_some] <;> rfl)) | (simp [*, errW_none, errW_some] <;> rfl), by repeat (first | (with_reducible first | exact HB.out | apply below_alloc | apply pw_below_drewN | apply below_drew1) | exact HB.out)⟩
                  · rw [if_neg c17] at H
                    have c17b0 : decide ((l0.length : Int) ≤ x11_1) = false := decide_eq_false c17
                    clear c17
                    by_cases c19 : 0 ≤ x11_1
                    · rw [if_pos c19] at H
                      have c19b0 : decide (0 ≤ x11_1) = true := decide_eq_true c19
                      clear c19
                      by_cases c20 : x11_1 < (l0.length : Int)
                      · rw [if_pos c20] at H
                        have c20b0 : decide (x11_1 < (l0.length : Int)) = true := decide_eq_true c20
                        clear c20
                        by_cases c21 : (rdOf ByteArray.empty t155 x11_1).toList = (rdOf ByteArray.empty l0 x11_1).toList
                        · rw [if_pos c21] at H
                          have c21b0 : ((rdOf ByteArray.empty t155 x11_1).toList == (rdOf ByteArray.empty l0 x11_1).toList) = true := beq_iff_eq.mpr c21
                          have c21b1 : ((rdOf ByteArray.empty t155 x11_1).toList != (rdOf ByteArray.empty l0 x11_1).toList) = false := bne_eq_false_iff_eq.mpr c21
                          clear c21
                          replace H := Option.bind_eq_some_iff.mp H
                          obtain ⟨t162, A220, H⟩ := H
                          replace H : (forebaylaw06_FrameCut.l0 k1 l0 ji10 t155 t158 (wrap64 (x10_1 + t162)) (wrap64 (x11_1 + 1))) = some r := H
                          have A22 := Aside0.mk A220
                          clear A220
                          have H' := Aside0.mk H
                          clear H
                          obtain ⟨Ao23, co23, eo23⟩ := Kd.V_slice HO_8.out
                          subst eo23
                          have p159 : 0 ≤ (x11_1 : Int) := of_decide_eq_true (by first | (with_reducible assumption) | assumption)
                          have q159 : x11_1 < (t155.length : Int) := of_decide_eq_true (by first | (with_reducible assumption) | assumption)
                          obtain ⟨ad159, e159, hx159_0⟩ := Kd.at_string (Kd.V_reads' HO_8.out).2.2 x11_1 p159 q159
                          cases e159
                          replace p159 := eq_true p159
                          replace q159 := eq_true q159
                          have p160 : 0 ≤ (x11_1 : Int) := of_decide_eq_true (by first | (with_reducible assumption) | assumption)
                          have q160 : x11_1 < (l0.length : Int) := of_decide_eq_true (by first | (with_reducible assumption) | assumption)
                          obtain ⟨ad160, e160, hx160_0⟩ := Kd.at_string HR0.out x11_1 p160 q160
                          cases e160
                          replace hx160_0 := (HB.out.cell (World.block_lt_of_cell? w _ hx160_0)).trans hx160_0
                          replace p160 := eq_true p160
                          replace q160 := eq_true q160
                          have p161 : 0 ≤ (x11_1 : Int) := of_decide_eq_true (by first | (with_reducible assumption) | assumption)
                          have q161 : x11_1 < (l0.length : Int) := of_decide_eq_true (by first | (with_reducible assumption) | assumption)
                          obtain ⟨ad161, e161, hx161_0⟩ := Kd.at_string HR0.out x11_1 p161 q161
                          obtain rfl : ad160 = ad161 := (by injection e161)
                          replace hx161_0 := (HB.out.cell (World.block_lt_of_cell? w _ hx161_0)).trans hx161_0
                          replace p161 := eq_true p161
                          replace q161 := eq_true q161
                          go_wp2_with (first | (go_at_call 10; (with_reducible refine (frame_Cost.calls ((rdOf ByteArray.empty l0 x11_1).size : Int) t162 _ A22.out).mono ?_); rintro e w' ⟨rfl, ⟨nd, rfl⟩⟩; (try first | exact ⟨rfl, _, World.drewN_drewN _ _ _⟩ | exact ⟨rfl, _, Eq.trans (World.drewN_drewN _ _ _) (congrArg (World.drewN _) (Nat.add_assoc _ _ _))⟩)))
                          repeat (go_quiet (first | (go_at_call 10; (with_reducible refine (frame_Cost.calls ((rdOf ByteArray.empty l0 x11_1).size : Int) t162 _ A22.out).mono ?_); rintro e w' ⟨rfl, ⟨nd, rfl⟩⟩; (try first | exact ⟨rfl, _, World.drewN_drewN _ _ _⟩ | exact ⟨rfl, _, Eq.trans (World.drewN_drewN _ _ _) (congrArg (World.drewN _) (Nat.add_assoc _ _ _))⟩))); try go_wp2_with (first | (go_at_call 10; (with_reducible refine (frame_Cost.calls ((rdOf ByteArray.empty l0 x11_1).size : Int) t162 _ A22.out).mono ?_); rintro e w' ⟨rfl, ⟨nd, rfl⟩⟩; (try first | exact ⟨rfl, _, World.drewN_drewN _ _ _⟩ | exact ⟨rfl, _, Eq.trans (World.drewN_drewN _ _ _) (congrArg (World.drewN _) (Nat.add_assoc _ _ _))⟩))))
                          go_roundg k1
                          case measure => have := HK1.out; omega
                          case rel => exact ⟨(wrap64 (x10_1 + t162)), (wrap64 (x11_1 + 1)), (by first | rfl | (simp; done) | (simp [*]; done) | (simp; exact isEmpty_bne _)), (by first | rfl | (simp; done) | (simp [*]; done) | (simp; exact isEmpty_bne _)), H', ⟨by have := HK1.out; omega⟩, ⟨by (with_reducible repeat (first | apply Kd.V_alloc | apply Kd.V_drewN | apply Kd.V_drew)); exact HO_8.out⟩, ⟨by repeat (first | (with_reducible first | exact HB.out | apply below_alloc | apply pw_below_drewN | apply below_drew1) | exact HB.out)⟩⟩
                        · rw [if_neg c21] at H
                          have c21b0 : ((rdOf ByteArray.empty t155 x11_1).toList == (rdOf ByteArray.empty l0 x11_1).toList) = false := beq_eq_false_iff_ne.mpr c21
                          have c21b1 : ((rdOf ByteArray.empty t155 x11_1).toList != (rdOf ByteArray.empty l0 x11_1).toList) = true := bne_iff_ne.mpr c21
                          obtain rfl := Option.some.inj H
                          obtain ⟨Ao24, co24, eo24⟩ := Kd.V_slice HO_8.out
                          subst eo24
                          have p159 : 0 ≤ (x11_1 : Int) := of_decide_eq_true (by first | (with_reducible assumption) | assumption)
                          have q159 : x11_1 < (t155.length : Int) := of_decide_eq_true (by first | (with_reducible assumption) | assumption)
                          obtain ⟨ad159, e159, hx159_0⟩ := Kd.at_string (Kd.V_reads' HO_8.out).2.2 x11_1 p159 q159
                          cases e159
                          replace p159 := eq_true p159
                          replace q159 := eq_true q159
                          have p160 : 0 ≤ (x11_1 : Int) := of_decide_eq_true (by first | (with_reducible assumption) | assumption)
                          have q160 : x11_1 < (l0.length : Int) := of_decide_eq_true (by first | (with_reducible assumption) | assumption)
                          obtain ⟨ad160, e160, hx160_0⟩ := Kd.at_string HR0.out x11_1 p160 q160
                          cases e160
                          replace hx160_0 := (HB.out.cell (World.block_lt_of_cell? w _ hx160_0)).trans hx160_0
                          replace p160 := eq_true p160
                          replace q160 := eq_true q160
                          go_wp2
                          repeat (go_quiet (fail); try go_wp2)
                          go_ret
                          exact ⟨by first | rfl | (simp [errW_none, errW_some] <;> rfl) | (simp only [← hji10]; first | rfl | (simp [errW_none, errW_some] <;> rfl)) | (simp [*, errW_none, errW_some] <;> rfl), by repeat (first | (with_reducible first | exact HB.out | apply below_alloc | apply pw_below_drewN | apply below_drew1) | exact HB.out)⟩
                      · rw [if_neg c20] at H
                        exact absurd H (by simp)
                    · rw [if_neg c19] at H
                      exact absurd H (by simp)
                · rw [if_neg c16] at H
                  have c16b0 : decide (x11_1 < (t155.length : Int)) = false := decide_eq_false c16
                  clear c16
                  by_cases c25 : (t155.length : Int) = (l0.length : Int)
                  · rw [if_pos c25] at H
                    have c25b0 : ((t155.length : Int) == (l0.length : Int)) = true := beq_iff_eq.mpr c25
                    have c25b1 : ((t155.length : Int) != (l0.length : Int)) = false := bne_eq_false_iff_eq.mpr c25
                    have c25b2 : (t155.length == l0.length) = true := by first | simpa using c25 | (simp at c25 ⊢; omega)
                    clear c25
                    by_cases c26 : t158 = x10_1
                    · rw [if_pos c26] at H
                      have c26b0 : (t158 == x10_1) = true := beq_iff_eq.mpr c26
                      have c26b1 : (t158 != x10_1) = false := bne_eq_false_iff_eq.mpr c26
                      clear c26
                      by_cases c27 : x10_1 ≤ ji10
                      · rw [if_pos c27] at H
                        have c27b0 : decide (x10_1 ≤ ji10) = true := decide_eq_true c27
                        clear c27
                        replace H := Option.bind_eq_some_iff.mp H
                        obtain ⟨t163, A280, H⟩ := H
                        replace H : (some t163) = some r := H
                        have A28 := Aside0.mk A280
                        clear A280
                        obtain rfl := Option.some.inj H
                        obtain ⟨Ao29, co29, eo29⟩ := Kd.V_slice HO_8.out
                        subst eo29
                        go_wp2_with (first | (go_at_call 7; (with_reducible refine (forebaylaw06_head.calls k1  t163 _ A28.out).mono ?_); rintro e w30 ⟨rfl, hb⟩; have n0_ := Aside0.mk (Kd.V_below (by (with_reducible repeat (first | apply Kd.V_alloc | apply Kd.V_drewN | apply Kd.V_drew)); exact HO_8.out) hb); have n1_ := Aside0.mk (below_step (by repeat (first | (with_reducible first | exact HB.out | apply below_alloc | apply pw_below_drewN | apply below_drew1) | exact HB.out)) hb); clear HO_8; clear HB; have HO_8 := n0_; have HB := n1_; clear n0_ n1_; (try clear hb); (try clear hb2); (try clear hk); (try clear hi)))
                        repeat (go_quiet (first | (go_at_call 7; (with_reducible refine (forebaylaw06_head.calls k1  t163 _ A28.out).mono ?_); rintro e w30 ⟨rfl, hb⟩; have n0_ := Aside0.mk (Kd.V_below (by (with_reducible repeat (first | apply Kd.V_alloc | apply Kd.V_drewN | apply Kd.V_drew)); exact HO_8.out) hb); have n1_ := Aside0.mk (below_step (by repeat (first | (with_reducible first | exact HB.out | apply below_alloc | apply pw_below_drewN | apply below_drew1) | exact HB.out)) hb); clear HO_8; clear HB; have HO_8 := n0_; have HB := n1_; clear n0_ n1_; (try clear hb); (try clear hb2); (try clear hk); (try clear hi))); try go_wp2_with (first | (go_at_call 7; (with_reducible refine (forebaylaw06_head.calls k1  t163 _ A28.out).mono ?_); rintro e w30 ⟨rfl, hb⟩; have n0_ := Aside0.mk (Kd.V_below (by (with_reducible repeat (first | apply Kd.V_alloc | apply Kd.V_drewN | apply Kd.V_drew)); exact HO_8.out) hb); have n1_ := Aside0.mk (below_step (by repeat (first | (with_reducible first | exact HB.out | apply below_alloc | apply pw_below_drewN | apply below_drew1) | exact HB.out)) hb); clear HO_8; clear HB; have HO_8 := n0_; have HB := n1_; clear n0_ n1_; (try clear hb); (try clear hb2); (try clear hk); (try clear hi))))
                        go_ret
                        exact ⟨by first | rfl | (simp [errW_none, errW_some] <;> rfl) | (simp only [← hji10]; first | rfl | (simp [errW_none, errW_some] <;> rfl)) | (simp [*, errW_none, errW_some] <;> rfl), by repeat (first | (with_reducible first | exact HB.out | apply below_alloc | apply pw_below_drewN | apply below_drew1) | exact HB.out)⟩
                      · rw [if_neg c27] at H
                        have c27b0 : decide (x10_1 ≤ ji10) = false := decide_eq_false c27
                        clear c27
                        obtain rfl := Option.some.inj H
                        obtain ⟨Ao31, co31, eo31⟩ := Kd.V_slice HO_8.out
                        subst eo31
                        go_wp2
                        repeat (go_quiet (fail); try go_wp2)
                        go_ret
                        exact ⟨by first | rfl | (simp [errW_none, errW_some] <;> rfl) | (simp only [← hji10]; first | rfl | (simp [errW_none, errW_some] <;> rfl)) | (simp [*, errW_none, errW_some] <;> rfl), by repeat (first | (with_reducible first | exact HB.out | apply below_alloc | apply pw_below_drewN | apply below_drew1) | exact HB.out)⟩
                    · rw [if_neg c26] at H
                      have c26b0 : (t158 == x10_1) = false := beq_eq_false_iff_ne.mpr c26
                      have c26b1 : (t158 != x10_1) = true := bne_iff_ne.mpr c26
                      obtain rfl := Option.some.inj H
                      obtain ⟨Ao32, co32, eo32⟩ := Kd.V_slice HO_8.out
                      subst eo32
                      go_wp2
                      repeat (go_quiet (fail); try go_wp2)
                      go_ret
                      exact ⟨by first | rfl | (simp [errW_none, errW_some] <;> rfl) | (simp only [← hji10]; first | rfl | (simp [errW_none, errW_some] <;> rfl)) | (simp [*, errW_none, errW_some] <;> rfl), by repeat (first | (with_reducible first | exact HB.out | apply below_alloc | apply pw_below_drewN | apply below_drew1) | exact HB.out)⟩
                  · rw [if_neg c25] at H
                    have c25b0 : ((t155.length : Int) == (l0.length : Int)) = false := beq_eq_false_iff_ne.mpr c25
                    have c25b1 : ((t155.length : Int) != (l0.length : Int)) = true := bne_iff_ne.mpr c25
                    have c25b2 : (t155.length == l0.length) = false := by first | simpa using c25 | (simp at c25 ⊢; omega)
                    by_cases c33 : 0 ≤ (t155.length : Int)
                    · rw [if_pos c33] at H
                      have c33b0 : decide (0 ≤ (t155.length : Int)) = true := decide_eq_true c33
                      have c33b1 : decide (0 ≤ t155.length) = true := decide_eq_true (by omega)
                      clear c33
                      by_cases c34 : (t155.length : Int) < (l0.length : Int)
                      · rw [if_pos c34] at H
                        have c34b0 : decide ((t155.length : Int) < (l0.length : Int)) = true := decide_eq_true c34
                        have c34b1 : decide (t155.length < l0.length) = true := decide_eq_true (Int.ofNat_lt.mp c34)
                        clear c34
                        replace H := Option.bind_eq_some_iff.mp H
                        obtain ⟨t165, A350, H⟩ := H
                        replace H : (if t158 = x10_1 then (if x10_1 ≤ ji10 then (if ji10 < (wrap64 (x10_1 + t165)) then ((forebaylaw06_head.f k1).bind fun t166 => (some t166)) else (some false)) else (some false)) else (some false)) = some r := H
                        have A35 := Aside0.mk A350
                        clear A350
                        by_cases c36 : t158 = x10_1
                        · rw [if_pos c36] at H
                          have c36b0 : (t158 == x10_1) = true := beq_iff_eq.mpr c36
                          have c36b1 : (t158 != x10_1) = false := bne_eq_false_iff_eq.mpr c36
                          clear c36
                          by_cases c37 : x10_1 ≤ ji10
                          · rw [if_pos c37] at H
                            have c37b0 : decide (x10_1 ≤ ji10) = true := decide_eq_true c37
                            clear c37
                            by_cases c38 : ji10 < (wrap64 (x10_1 + t165))
                            · rw [if_pos c38] at H
                              have c38b0 : decide (ji10 < (wrap64 (x10_1 + t165))) = true := decide_eq_true c38
                              clear c38
                              replace H := Option.bind_eq_some_iff.mp H
                              obtain ⟨t166, A390, H⟩ := H
                              replace H : (some t166) = some r := H
                              have A39 := Aside0.mk A390
                              clear A390
                              obtain rfl := Option.some.inj H
                              obtain ⟨Ao40, co40, eo40⟩ := Kd.V_slice HO_8.out
                              subst eo40
                              have p164 : 0 ≤ ((t155.length : Int) : Int) := of_decide_eq_true (by first | (with_reducible assumption) | assumption)
                              have q164 : (t155.length : Int) < (l0.length : Int) := of_decide_eq_true (by first | (with_reducible assumption) | assumption)
                              obtain ⟨ad164, e164, hx164_0⟩ := Kd.at_string HR0.out (t155.length : Int) p164 q164
                              cases e164
                              replace hx164_0 := (HB.out.cell (World.block_lt_of_cell? w _ hx164_0)).trans hx164_0
                              (try simp only [Go.IntWalk.toNatUp] at hx164_0)
                              replace p164 := eq_true p164
                              replace q164 := eq_true q164
                              go_wp2_with (first | (go_at_call 10; (with_reducible refine (frame_Cost.calls ((rdOf ByteArray.empty l0 (t155.length : Int)).size : Int) t165 _ A35.out).mono ?_); rintro e w' ⟨rfl, ⟨nd, rfl⟩⟩; (try first | exact ⟨rfl, _, World.drewN_drewN _ _ _⟩ | exact ⟨rfl, _, Eq.trans (World.drewN_drewN _ _ _) (congrArg (World.drewN _) (Nat.add_assoc _ _ _))⟩)) | (go_at_call 7; (with_reducible refine (forebaylaw06_head.calls k1  t166 _ A39.out).mono ?_); rintro e w41 ⟨rfl, hb⟩; have n0_ := Aside0.mk (Kd.V_below (by (with_reducible repeat (first | apply Kd.V_alloc | apply Kd.V_drewN | apply Kd.V_drew)); exact HO_8.out) hb); have n1_ := Aside0.mk (below_step (by repeat (first | (with_reducible first | exact HB.out | apply below_alloc | apply pw_below_drewN | apply below_drew1) | exact HB.out)) hb); clear HO_8; clear HB; have HO_8 := n0_; have HB := n1_; clear n0_ n1_; (try clear hb); (try clear hb2); (try clear hk); (try clear hi)))
                              repeat (go_quiet (first | (go_at_call 10; (with_reducible refine (frame_Cost.calls ((rdOf ByteArray.empty l0 (t155.length : Int)).size : Int) t165 _ A35.out).mono ?_); rintro e w' ⟨rfl, ⟨nd, rfl⟩⟩; (try first | exact ⟨rfl, _, World.drewN_drewN _ _ _⟩ | exact ⟨rfl, _, Eq.trans (World.drewN_drewN _ _ _) (congrArg (World.drewN _) (Nat.add_assoc _ _ _))⟩)) | (go_at_call 7; (with_reducible refine (forebaylaw06_head.calls k1  t166 _ A39.out).mono ?_); rintro e w41 ⟨rfl, hb⟩; have n0_ := Aside0.mk (Kd.V_below (by (with_reducible repeat (first | apply Kd.V_alloc | apply Kd.V_drewN | apply Kd.V_drew)); exact HO_8.out) hb); have n1_ := Aside0.mk (below_step (by repeat (first | (with_reducible first | exact HB.out | apply below_alloc | apply pw_below_drewN | apply below_drew1) | exact HB.out)) hb); clear HO_8; clear HB; have HO_8 := n0_; have HB := n1_; clear n0_ n1_; (try clear hb); (try clear hb2); (try clear hk); (try clear hi))); try go_wp2_with (first | (go_at_call 10; (with_reducible refine (frame_Cost.calls ((rdOf ByteArray.empty l0 (t155.length : Int)).size : Int) t165 _ A35.out).mono ?_); rintro e w' ⟨rfl, ⟨nd, rfl⟩⟩; (try first | exact ⟨rfl, _, World.drewN_drewN _ _ _⟩ | exact ⟨rfl, _, Eq.trans (World.drewN_drewN _ _ _) (congrArg (World.drewN _) (Nat.add_assoc _ _ _))⟩)) | (go_at_call 7; (with_reducible refine (forebaylaw06_head.calls k1  t166 _ A39.out).mono ?_); rintro e w41 ⟨rfl, hb⟩; have n0_ := Aside0.mk (Kd.V_below (by (with_reducible repeat (first | apply Kd.V_alloc | apply Kd.V_drewN | apply Kd.V_drew)); exact HO_8.out) hb); have n1_ := Aside0.mk (below_step (by repeat (first | (with_reducible first | exact HB.out | apply below_alloc | apply pw_below_drewN | apply below_drew1) | exact HB.out)) hb); clear HO_8; clear HB; have HO_8 := n0_; have HB := n1_; clear n0_ n1_; (try clear hb); (try clear hb2); (try clear hk); (try clear hi))))
                              go_ret
                              exact ⟨by first | rfl | (simp [errW_none, errW_some] <;> rfl) | (simp only [← hji10]; first | rfl | (simp [errW_none, errW_some] <;> rfl)) | (simp [*, errW_none, errW_some] <;> rfl), by repeat (first | (with_reducible first | exact HB.out | apply below_alloc | apply pw_below_drewN | apply below_drew1) | exact HB.out)⟩
                            · rw [if_neg c38] at H
                              have c38b0 : decide (ji10 < (wrap64 (x10_1 + t165))) = false := decide_eq_false c38
                              clear c38
                              obtain rfl := Option.some.inj H
                              obtain ⟨Ao42, co42, eo42⟩ := Kd.V_slice HO_8.out
                              subst eo42
                              have p164 : 0 ≤ ((t155.length : Int) : Int) := of_decide_eq_true (by first | (with_reducible assumption) | assumption)
                              have q164 : (t155.length : Int) < (l0.length : Int) := of_decide_eq_true (by first | (with_reducible assumption) | assumption)
                              obtain ⟨ad164, e164, hx164_0⟩ := Kd.at_string HR0.out (t155.length : Int) p164 q164
                              cases e164
                              replace hx164_0 := (HB.out.cell (World.block_lt_of_cell? w _ hx164_0)).trans hx164_0
                              (try simp only [Go.IntWalk.toNatUp] at hx164_0)
                              replace p164 := eq_true p164
                              replace q164 := eq_true q164
                              go_wp2_with (first | (go_at_call 10; (with_reducible refine (frame_Cost.calls ((rdOf ByteArray.empty l0 (t155.length : Int)).size : Int) t165 _ A35.out).mono ?_); rintro e w' ⟨rfl, ⟨nd, rfl⟩⟩; (try first | exact ⟨rfl, _, World.drewN_drewN _ _ _⟩ | exact ⟨rfl, _, Eq.trans (World.drewN_drewN _ _ _) (congrArg (World.drewN _) (Nat.add_assoc _ _ _))⟩)))
                              repeat (go_quiet (first | (go_at_call 10; (with_reducible refine (frame_Cost.calls ((rdOf ByteArray.empty l0 (t155.length : Int)).size : Int) t165 _ A35.out).mono ?_); rintro e w' ⟨rfl, ⟨nd, rfl⟩⟩; (try first | exact ⟨rfl, _, World.drewN_drewN _ _ _⟩ | exact ⟨rfl, _, Eq.trans (World.drewN_drewN _ _ _) (congrArg (World.drewN _) (Nat.add_assoc _ _ _))⟩))); try go_wp2_with (first | (go_at_call 10; (with_reducible refine (frame_Cost.calls ((rdOf ByteArray.empty l0 (t155.length : Int)).size : Int) t165 _ A35.out).mono ?_); rintro e w' ⟨rfl, ⟨nd, rfl⟩⟩; (try first | exact ⟨rfl, _, World.drewN_drewN _ _ _⟩ | exact ⟨rfl, _, Eq.trans (World.drewN_drewN _ _ _) (congrArg (World.drewN _) (Nat.add_assoc _ _ _))⟩))))
                              go_ret
                              exact ⟨by first | rfl | (simp [errW_none, errW_some] <;> rfl) | (simp only [← hji10]; first | rfl | (simp [errW_none, errW_some] <;> rfl)) | (simp [*, errW_none, errW_some] <;> rfl), by repeat (first | (with_reducible first | exact HB.out | apply below_alloc | apply pw_below_drewN | apply below_drew1) | exact HB.out)⟩
                          · rw [if_neg c37] at H
                            have c37b0 : decide (x10_1 ≤ ji10) = false := decide_eq_false c37
                            clear c37
                            obtain rfl := Option.some.inj H
                            obtain ⟨Ao43, co43, eo43⟩ := Kd.V_slice HO_8.out
                            subst eo43
                            have p164 : 0 ≤ ((t155.length : Int) : Int) := of_decide_eq_true (by first | (with_reducible assumption) | assumption)
                            have q164 : (t155.length : Int) < (l0.length : Int) := of_decide_eq_true (by first | (with_reducible assumption) | assumption)
                            obtain ⟨ad164, e164, hx164_0⟩ := Kd.at_string HR0.out (t155.length : Int) p164 q164
                            cases e164
                            replace hx164_0 := (HB.out.cell (World.block_lt_of_cell? w _ hx164_0)).trans hx164_0
                            (try simp only [Go.IntWalk.toNatUp] at hx164_0)
                            replace p164 := eq_true p164
                            replace q164 := eq_true q164
                            go_wp2_with (first | (go_at_call 10; (with_reducible refine (frame_Cost.calls ((rdOf ByteArray.empty l0 (t155.length : Int)).size : Int) t165 _ A35.out).mono ?_); rintro e w' ⟨rfl, ⟨nd, rfl⟩⟩; (try first | exact ⟨rfl, _, World.drewN_drewN _ _ _⟩ | exact ⟨rfl, _, Eq.trans (World.drewN_drewN _ _ _) (congrArg (World.drewN _) (Nat.add_assoc _ _ _))⟩)))
                            repeat (go_quiet (first | (go_at_call 10; (with_reducible refine (frame_Cost.calls ((rdOf ByteArray.empty l0 (t155.length : Int)).size : Int) t165 _ A35.out).mono ?_); rintro e w' ⟨rfl, ⟨nd, rfl⟩⟩; (try first | exact ⟨rfl, _, World.drewN_drewN _ _ _⟩ | exact ⟨rfl, _, Eq.trans (World.drewN_drewN _ _ _) (congrArg (World.drewN _) (Nat.add_assoc _ _ _))⟩))); try go_wp2_with (first | (go_at_call 10; (with_reducible refine (frame_Cost.calls ((rdOf ByteArray.empty l0 (t155.length : Int)).size : Int) t165 _ A35.out).mono ?_); rintro e w' ⟨rfl, ⟨nd, rfl⟩⟩; (try first | exact ⟨rfl, _, World.drewN_drewN _ _ _⟩ | exact ⟨rfl, _, Eq.trans (World.drewN_drewN _ _ _) (congrArg (World.drewN _) (Nat.add_assoc _ _ _))⟩))))
                            go_ret
                            exact ⟨by first | rfl | (simp [errW_none, errW_some] <;> rfl) | (simp only [← hji10]; first | rfl | (simp [errW_none, errW_some] <;> rfl)) | (simp [*, errW_none, errW_some] <;> rfl), by repeat (first | (with_reducible first | exact HB.out | apply below_alloc | apply pw_below_drewN | apply below_drew1) | exact HB.out)⟩
                        · rw [if_neg c36] at H
                          have c36b0 : (t158 == x10_1) = false := beq_eq_false_iff_ne.mpr c36
                          have c36b1 : (t158 != x10_1) = true := bne_iff_ne.mpr c36
                          obtain rfl := Option.some.inj H
                          obtain ⟨Ao44, co44, eo44⟩ := Kd.V_slice HO_8.out
                          subst eo44
                          have p164 : 0 ≤ ((t155.length : Int) : Int) := of_decide_eq_true (by first | (with_reducible assumption) | assumption)
                          have q164 : (t155.length : Int) < (l0.length : Int) := of_decide_eq_true (by first | (with_reducible assumption) | assumption)
                          obtain ⟨ad164, e164, hx164_0⟩ := Kd.at_string HR0.out (t155.length : Int) p164 q164
                          cases e164
                          replace hx164_0 := (HB.out.cell (World.block_lt_of_cell? w _ hx164_0)).trans hx164_0
                          (try simp only [Go.IntWalk.toNatUp] at hx164_0)
                          replace p164 := eq_true p164
                          replace q164 := eq_true q164
                          go_wp2_with (first | (go_at_call 10; (with_reducible refine (frame_Cost.calls ((rdOf ByteArray.empty l0 (t155.length : Int)).size : Int) t165 _ A35.out).mono ?_); rintro e w' ⟨rfl, ⟨nd, rfl⟩⟩; (try first | exact ⟨rfl, _, World.drewN_drewN _ _ _⟩ | exact ⟨rfl, _, Eq.trans (World.drewN_drewN _ _ _) (congrArg (World.drewN _) (Nat.add_assoc _ _ _))⟩)))
                          repeat (go_quiet (first | (go_at_call 10; (with_reducible refine (frame_Cost.calls ((rdOf ByteArray.empty l0 (t155.length : Int)).size : Int) t165 _ A35.out).mono ?_); rintro e w' ⟨rfl, ⟨nd, rfl⟩⟩; (try first | exact ⟨rfl, _, World.drewN_drewN _ _ _⟩ | exact ⟨rfl, _, Eq.trans (World.drewN_drewN _ _ _) (congrArg (World.drewN _) (Nat.add_assoc _ _ _))⟩))); try go_wp2_with (first | (go_at_call 10; (with_reducible refine (frame_Cost.calls ((rdOf ByteArray.empty l0 (t155.length : Int)).size : Int) t165 _ A35.out).mono ?_); rintro e w' ⟨rfl, ⟨nd, rfl⟩⟩; (try first | exact ⟨rfl, _, World.drewN_drewN _ _ _⟩ | exact ⟨rfl, _, Eq.trans (World.drewN_drewN _ _ _) (congrArg (World.drewN _) (Nat.add_assoc _ _ _))⟩))))
                          go_ret
                          exact ⟨by first | rfl | (simp [errW_none, errW_some] <;> rfl) | (simp only [← hji10]; first | rfl | (simp [errW_none, errW_some] <;> rfl)) | (simp [*, errW_none, errW_some] <;> rfl), by repeat (first | (with_reducible first | exact HB.out | apply below_alloc | apply pw_below_drewN | apply below_drew1) | exact HB.out)⟩
                      · rw [if_neg c34] at H
                        exact absurd H (by simp)
                    · rw [if_neg c33] at H
                      exact absurd H (by simp)
          · rw [if_neg c12] at H
            exact absurd H (by simp)
        · rw [if_neg c11] at H
          exact absurd H (by simp)
    · rw [if_neg c8] at H
      have c8b0 : (t154 == 0) = false := beq_eq_false_iff_ne.mpr c8
      have c8b1 : (t154 != 0) = true := bne_iff_ne.mpr c8
      obtain rfl := Option.some.inj H
      go_enter Try.func4, Try.ntmps4
      go_wp2_with (first | (go_at_call 6; (with_reducible refine (forebaylaw06_great.calls k _ _ l0 false _ ?side1 ?side2 A3.out).mono ?_); (case side1 => repeat (first | exact HR0.out | (with_reducible refine Kd.C_alloc ?_ _) | (with_reducible refine Kd.C_drewN ?_ _) | (with_reducible refine Kd.C_drew ?_))); (case side2 => exact HC0.out); rintro e w' ⟨rfl, ⟨nd, rfl⟩⟩; (try first | exact ⟨rfl, _, World.drewN_drewN _ _ _⟩ | exact ⟨rfl, _, Eq.trans (World.drewN_drewN _ _ _) (congrArg (World.drewN _) (Nat.add_assoc _ _ _))⟩)) | (go_at_call 8; (with_reducible refine (frame_Put.calls k _ _ l0 t153 t154 _ ?side1 ?side2 A7.out).mono ?_); (case side1 => repeat (first | exact HR0.out | (with_reducible refine Kd.C_alloc ?_ _) | (with_reducible refine Kd.C_drewN ?_ _) | (with_reducible refine Kd.C_drew ?_))); (case side2 => exact HC0.out); rintro e w45 ⟨rfl, hb⟩; have n0_ := Aside0.mk (below_step (by repeat (first | (with_reducible first | exact HB.out | apply below_alloc | apply pw_below_drewN | apply below_drew1) | exact HB.out)) hb); clear HB; have HB := n0_; clear n0_; (try clear hb); (try clear hb2); (try clear hk); (try clear hi)))
      repeat (go_quiet (first | (go_at_call 6; (with_reducible refine (forebaylaw06_great.calls k _ _ l0 false _ ?side1 ?side2 A3.out).mono ?_); (case side1 => repeat (first | exact HR0.out | (with_reducible refine Kd.C_alloc ?_ _) | (with_reducible refine Kd.C_drewN ?_ _) | (with_reducible refine Kd.C_drew ?_))); (case side2 => exact HC0.out); rintro e w' ⟨rfl, ⟨nd, rfl⟩⟩; (try first | exact ⟨rfl, _, World.drewN_drewN _ _ _⟩ | exact ⟨rfl, _, Eq.trans (World.drewN_drewN _ _ _) (congrArg (World.drewN _) (Nat.add_assoc _ _ _))⟩)) | (go_at_call 8; (with_reducible refine (frame_Put.calls k _ _ l0 t153 t154 _ ?side1 ?side2 A7.out).mono ?_); (case side1 => repeat (first | exact HR0.out | (with_reducible refine Kd.C_alloc ?_ _) | (with_reducible refine Kd.C_drewN ?_ _) | (with_reducible refine Kd.C_drew ?_))); (case side2 => exact HC0.out); rintro e w45 ⟨rfl, hb⟩; have n0_ := Aside0.mk (below_step (by repeat (first | (with_reducible first | exact HB.out | apply below_alloc | apply pw_below_drewN | apply below_drew1) | exact HB.out)) hb); clear HB; have HB := n0_; clear n0_; (try clear hb); (try clear hb2); (try clear hk); (try clear hi))); try go_wp2_with (first | (go_at_call 6; (with_reducible refine (forebaylaw06_great.calls k _ _ l0 false _ ?side1 ?side2 A3.out).mono ?_); (case side1 => repeat (first | exact HR0.out | (with_reducible refine Kd.C_alloc ?_ _) | (with_reducible refine Kd.C_drewN ?_ _) | (with_reducible refine Kd.C_drew ?_))); (case side2 => exact HC0.out); rintro e w' ⟨rfl, ⟨nd, rfl⟩⟩; (try first | exact ⟨rfl, _, World.drewN_drewN _ _ _⟩ | exact ⟨rfl, _, Eq.trans (World.drewN_drewN _ _ _) (congrArg (World.drewN _) (Nat.add_assoc _ _ _))⟩)) | (go_at_call 8; (with_reducible refine (frame_Put.calls k _ _ l0 t153 t154 _ ?side1 ?side2 A7.out).mono ?_); (case side1 => repeat (first | exact HR0.out | (with_reducible refine Kd.C_alloc ?_ _) | (with_reducible refine Kd.C_drewN ?_ _) | (with_reducible refine Kd.C_drew ?_))); (case side2 => exact HC0.out); rintro e w45 ⟨rfl, hb⟩; have n0_ := Aside0.mk (below_step (by repeat (first | (with_reducible first | exact HB.out | apply below_alloc | apply pw_below_drewN | apply below_drew1) | exact HB.out)) hb); clear HB; have HB := n0_; clear n0_; (try clear hb); (try clear hb2); (try clear hk); (try clear hi))))
      go_ret
      exact ⟨by first | rfl | (simp [errW_none, errW_some] <;> rfl) | (simp [*, errW_none, errW_some] <;> rfl), by repeat (first | (with_reducible first | exact HB.out | apply below_alloc | apply pw_below_drewN | apply below_drew1) | exact HB.out)⟩

/-- THE ONE PURE STATEMENT of forebaylaw06_FrameCut: yours. -/
def forebaylaw06_FrameCut.Pure : Prop := ∀ (l0 : List ByteArray) (a1 : Int), (l0.length * 16 ≤ 140737488351232 ∧ l0.length ≤ maxLen ∧ ∀ x ∈ l0, (fun s : ByteArray => s.size ≤ 140737488351232) x) → (Lit.int .u16 a1).wf = true → ∃ k, forebaylaw06_FrameCut.f k l0 a1 = some true
theorem forebaylaw06_FrameCut.walk (P : forebaylaw06_FrameCut.Pure) (A0 : Option Addr) (c0 : Nat) (l0 : List ByteArray) (a1 : Int) (w : World) (hr0 : Kd.C Kd.string w A0 l0.length l0) (hc0 : l0.length ≤ c0) (y0 : (l0.length * 16 ≤ 140737488351232 ∧ l0.length ≤ maxLen ∧ ∀ x ∈ l0, (fun s : ByteArray => s.size ≤ 140737488351232) x)) (y1 : (Lit.int .u16 a1).wf = true) :
    Calls Try.prog 4 #[.slice A0 l0.length c0, .int .u16 a1] w fun e w' => e = .returned (.bool true) ∧ Below w.heap.size w w' := by
  obtain ⟨k, h⟩ := P l0 a1 y0 y1
  refine (forebaylaw06_FrameCut.calls k A0 c0 l0 a1 true w hr0 hc0 h).mono ?_
  rintro e w' ⟨rfl, hd⟩
  exact ⟨rfl, hd⟩


/-! ### forebaylaw06_FrameTurned: function 5 -/
/-- Bytes of which bits are turned, k of the 64 having been asked. -/
def flipNums (l : List Int) (at_ : Nat) (word : Int) : Nat → List Int
  | 0 => l
  | k + 1 => if word / 2 ^ k % 2 = 1 then (flipNums l at_ word k).set ((at_ + k) / 8) (Go.bits .xor .u8 ((flipNums l at_ word k).getD ((at_ + k) / 8) 0) (2 ^ ((at_ + k) % 8))) else flipNums l at_ word k
theorem nums_set (l : List Int) (i : Nat) (u : Int) : (nums .u8 l).set i (.int .u8 u) = nums .u8 (l.set i u) := by simp [nums, List.map_set]
theorem flipNums_length (l : List Int) (at_ : Nat) (word : Int) (k : Nat) : (flipNums l at_ word k).length = l.length := by
  induction k with
  | zero => rfl
  | succ k ih => rw [flipNums]; split <;> simp [ih]
/-- Where the bits are turned. -/
def turnAt (l : List ByteArray) (kk : Nat) (ahead at_ : Int) : Int := 8 * ahead + at_ % (8 * (((rdOf ByteArray.empty l (kk : Int)).size : Int) + 20) - 63)
def forebaylaw06_FrameTurned.f (k : Nat) (l0_0 : List ByteArray) (a0_1 : Int) (a0_2 : Int) (a0_3 : Int) : Option Bool :=
  (forebaylaw06_great.f k l0_0).bind fun g => if g = true ∨ l0_0.length = 0 ∨ a0_3 = 0 then forebaylaw06_head.f k else
    if 0 ≤ a0_1 ∧ a0_1 ≤ 255 ∧ 0 ≤ a0_2 ∧ a0_2 ≤ 65535 ∧ 0 ≤ a0_3 ∧ l0_0.length ≤ 1000 then
      (frame_Put.f k l0_0).bind fun p => (frame_Put.f k (l0_0.take (a0_1 % l0_0.length).toNat)).bind fun q =>
        if p.2 ≠ 0 ∨ q.2 ≠ 0 then none else
          if p.1.size ≤ 20000 ∧ q.1.size ≤ 20000 ∧ (rdOf ByteArray.empty l0_0 (a0_1 % l0_0.length)).size ≤ 20000 ∧ turnAt l0_0 (a0_1 % l0_0.length).toNat q.1.size a0_2 + 63 < 8 * p.1.size then
            (frame_Scan.f (strOfNums (flipNums (bytesOf p.1) (turnAt l0_0 (a0_1 % l0_0.length).toNat q.1.size a0_2).toNat a0_3 64))).bind fun s =>
              if s.2 = (q.1.size : Int) then (forebayref06_Same.f k s.1 (l0_0.take (a0_1 % l0_0.length).toNat)).bind fun e => if e = true then forebaylaw06_head.f k else some false
              else some false
          else none
    else none
set_option maxHeartbeats 8000000 in
theorem forebaylaw06_FrameTurned.calls (k : Nat) (A0_0 : Option Addr) (c0_0 : Nat) (l0_0 : List ByteArray) (a0_1 : Int) (a0_2 : Int) (a0_3 : Int) (r : Bool) (w : World) (hr0_0 : Kd.C Kd.string w A0_0 l0_0.length l0_0) (hc0_0 : l0_0.length ≤ c0_0) (h : forebaylaw06_FrameTurned.f k l0_0 a0_1 a0_2 a0_3 = some r) :
    Calls Try.prog 5 #[.agg #[.slice A0_0 l0_0.length c0_0, .int .u8 a0_1, .int .u16 a0_2, .int .u64 a0_3]] w fun e w' => e = .returned (.bool r) ∧ Below w.heap.size w w' := by
  have hu39 := Try.underlying39
  have HR := Aside0.mk hr0_0
  have HRw := Aside0.mk hr0_0
  have hlm : l0_0.length ≤ 9223372036854775807 := hr0_0.2.1
  clear hr0_0
  unfold forebaylaw06_FrameTurned.f at h
  obtain ⟨g, hg, h⟩ := Option.bind_eq_some_iff.1 h
  have HG := Aside0.mk hg
  have HH := Aside0.mk h
  clear h hg
  go_enter Try.func5, Try.ntmps5
  go_wp2
  go_quiet (skip)
  have HB := Aside0.mk (show Below w.heap.size w ((w.alloc (Obj.cells #[Value.slice A0_0 l0_0.length c0_0, Value.int IntKind.u8 a0_1, Value.int IntKind.u16 a0_2, Value.int IntKind.u64 a0_3] 39)).drewN nq) from pw_below_drewN ((Below.refl _ _).alloc (Nat.le_refl _) _) _)
  replace HR := Aside0.mk (Kd.C_below HR.out (show Below w.heap.size w _ from HB.out))
  generalize ((w.alloc (Obj.cells #[Value.slice A0_0 l0_0.length c0_0, Value.int IntKind.u8 a0_1, Value.int IntKind.u16 a0_2, Value.int IntKind.u64 a0_3] 39)).drewN nq) = W1 at *
  by_cases h1 : g = true ∨ l0_0.length = 0 ∨ a0_3 = 0
  · have H2 := Aside0.mk (show forebaylaw06_head.f k = some r by have h := HH.out; rwa [if_pos h1] at h)
    clear HH
    cases g with
    | true =>
      go_wp2_with (first | (go_at_call 6; refine (forebaylaw06_great.calls k A0_0 c0_0 l0_0 true _ HR.out hc0_0 HG.out).mono ?_; rintro e w' ⟨rfl, ⟨nd, rfl⟩⟩) | (go_at_call 7; refine (forebaylaw06_head.calls k r _ H2.out).mono ?_; rintro e w' ⟨rfl, hb⟩))
      go_ret
      exact ⟨rfl, below_then (pw_below_drewN HB.out _) HB.out.size hb⟩
    | false =>
      by_cases h2 : l0_0.length = 0
      · have h2b : ((l0_0.length : Int) == 0) = true := beq_iff_eq.mpr (by omega)
        have h2c : (l0_0.length == 0) = true := beq_iff_eq.mpr h2
        clear h1
        replace h2 := Aside0.mk h2
        go_wp2_with (first | (go_at_call 6; refine (forebaylaw06_great.calls k A0_0 c0_0 l0_0 false _ HR.out hc0_0 HG.out).mono ?_; rintro e w' ⟨rfl, ⟨nd, rfl⟩⟩) | (go_at_call 7; refine (forebaylaw06_head.calls k r _ H2.out).mono ?_; rintro e w' ⟨rfl, hb⟩))
        go_ret
        exact ⟨rfl, below_then (pw_below_drewN HB.out _) HB.out.size hb⟩
      · have h3 : a0_3 = 0 := by rcases h1 with h1 | h1 | h1; cases h1; exact absurd h1 h2; exact h1
        subst h3
        have h2b : ((l0_0.length : Int) == 0) = false := beq_eq_false_iff_ne.mpr (by omega)
        have h2c : (l0_0.length == 0) = false := beq_eq_false_iff_ne.mpr h2
        clear h1
        go_wp2_with (first | (go_at_call 6; refine (forebaylaw06_great.calls k A0_0 c0_0 l0_0 false _ HR.out hc0_0 HG.out).mono ?_; rintro e w' ⟨rfl, ⟨nd, rfl⟩⟩) | (go_at_call 7; refine (forebaylaw06_head.calls k r _ H2.out).mono ?_; rintro e w' ⟨rfl, hb⟩))
        go_ret
        exact ⟨rfl, below_then (pw_below_drewN HB.out _) HB.out.size hb⟩
  · have g0 : g = false := by cases g; rfl; exact absurd (.inl rfl) h1
    subst g0
    have h2 : ¬ l0_0.length = 0 := fun h => h1 (.inr (.inl h))
    have h3 : ¬ a0_3 = 0 := fun h => h1 (.inr (.inr h))
    have h2b : ((l0_0.length : Int) == 0) = false := beq_eq_false_iff_ne.mpr (by omega)
    have h2c : (l0_0.length == 0) = false := beq_eq_false_iff_ne.mpr h2
    have h3b : (a0_3 == 0) = false := beq_eq_false_iff_ne.mpr h3
    have h := HH.out
    clear HH
    rw [if_neg h1] at h
    clear h1
    by_cases h4 : 0 ≤ a0_1 ∧ a0_1 ≤ 255 ∧ 0 ≤ a0_2 ∧ a0_2 ≤ 65535 ∧ 0 ≤ a0_3 ∧ l0_0.length ≤ 1000
    case neg => rw [if_neg h4] at h; cases h
    rw [if_pos h4] at h
    obtain ⟨p1, p2, p3, p4, p5, p6⟩ := h4
    obtain ⟨kk, hkk⟩ : ∃ kk : Nat, a0_1 % (l0_0.length : Int) = kk := ⟨(a0_1 % (l0_0.length : Int)).toNat, by have := Int.emod_nonneg a0_1 (show (l0_0.length : Int) ≠ 0 by omega); omega⟩
    have hkl : kk < l0_0.length := by have := Int.emod_lt_of_pos a0_1 (show 0 < (l0_0.length : Int) by omega); omega
    rw [hkk, Int.toNat_natCast] at h
    obtain ⟨⟨s, e⟩, hp, h⟩ := Option.bind_eq_some_iff.1 h
    obtain ⟨⟨u, f⟩, hq, h⟩ := Option.bind_eq_some_iff.1 h
    replace hp := Aside0.mk hp
    replace hq := Aside0.mk hq
    dsimp only at h
    by_cases he : e ≠ 0 ∨ f ≠ 0
    · rw [if_pos he] at h
      cases h
    rw [if_neg he] at h
    have he1 : e = 0 := by
      by_cases hh : e = 0
      · exact hh
      · exact absurd (.inl hh) he
    have hf1 : f = 0 := by
      by_cases hh : f = 0
      · exact hh
      · exact absurd (.inr hh) he
    subst he1
    subst hf1
    clear he
    by_cases hz : s.size ≤ 20000 ∧ u.size ≤ 20000 ∧ (rdOf ByteArray.empty l0_0 (kk : Int)).size ≤ 20000 ∧ turnAt l0_0 kk u.size a0_2 + 63 < 8 * s.size
    case neg => rw [if_neg hz] at h; cases h
    rw [if_pos hz] at h
    obtain ⟨z1, z2, z3, z4⟩ := hz
    replace h := Aside0.mk h
    replace z4 := Aside0.mk z4
    have hk := fun W => print_bytes (P := Try.prog) 9 40 5 Try.underlying9 Try.underlying40 Try.underlying5 s W
    have hsm : s.size ≤ 140737488351232 := by omega
    have hkk' := hkk
    replace hkk := Aside0.mk hkk
    replace h2 := Aside0.mk h2
    have hki : (kk : Int) < (l0_0.length : Int) := Int.ofNat_lt.2 hkl
    have hkle : (kk : Int) ≤ (l0_0.length : Int) := by omega
    have hk0 : (0 : Int) ≤ (kk : Int) := Int.natCast_nonneg _
    have hput2 : Aside0 (∀ W, Kd.C Kd.string W A0_0 l0_0.length l0_0 → Calls Try.prog 8 #[.slice A0_0 kk c0_0] W fun e w' => e = .returned (.tuple #[.string u, .int .i64 0]) ∧ Below W.heap.size W w') := ⟨fun W hC => by
      have hl : (l0_0.take kk).length = kk := by rw [List.length_take]; omega
      have := frame_Put.calls k A0_0 c0_0 (l0_0.take kk) u 0 W (Kd.C_take hC (by omega)) (by rw [hl]; omega) hq.out
      rwa [hl] at this⟩
    go_upto_region 10 with (first | (go_at_call 6; refine (forebaylaw06_great.calls k A0_0 c0_0 l0_0 false _ HR.out hc0_0 HG.out).mono ?_; rintro e w' ⟨rfl, ⟨nd, rfl⟩⟩) | (go_at_call 8; (with_reducible refine (frame_Put.calls k A0_0 c0_0 l0_0 _ _ _ (Kd.C_drewN HR.out _) hc0_0 hp.out).mono ?_); clear hp; rintro e w2 ⟨rfl, hb2⟩; replace hb2 := Aside0.mk hb2) | (go_at_call 8; (with_reducible refine (hput2.out _ (Kd.C_below (Kd.C_drewN HR.out _) hb2.out)).mono ?_); clear hput2; rintro e w3 ⟨rfl, hb3⟩; replace hb3 := Aside0.mk hb3))
    have HB3 := Aside0.mk (below_then (below_then (pw_below_drewN HB.out _) HB.out.size hb2.out) (Nat.le_trans HB.out.size hb2.out.size) hb3.out)
    have HC3 := Kd.C_below (Kd.C_below (Kd.C_drewN HR.out _) hb2.out) hb3.out
    clear hb2 hb3 HB HR
    have HB0 := Aside0.mk (bytes_below HB3.out HB3.out.size 5 s)
    have HC4 := Aside0.mk (Kd.C_below HC3 (bytes_below (Below.refl w3.heap.size w3) (Nat.le_refl _) 5 s))
    clear HC3
    have HG0 := Aside0.mk (show GR.GRow (Lib.bytesWorld w3 5 s) w.heap.size 5 (.slice (some ⟨w3.heap.size, 0, none⟩) s.size (grownCap w3 s.size 0 5)) (nums .u8 (flipNums (bytesOf s) (turnAt l0_0 kk u.size a0_2).toNat a0_3 0)) by
      have h := GR.GRow.bytes w3 w.heap.size 5 s HB3.out.size (by unfold maxLen; omega)
      simpa [nums, flipNums, bytesOf, Function.comp_def] using h)
    clear hk
    generalize Lib.bytesWorld w3 5 s = W4 at *
    generalize grownCap w3 s.size 0 5 = cap at *
    obtain ⟨g, hg⟩ : ∃ g, w3.heap.size = g := ⟨_, rfl⟩
    rw [hg] at HG0 ⊢
    replace hg := Aside0.mk hg
    obtain ⟨ad, hA, hcell⟩ := Kd.at_string HC4.out (kk : Int) hk0 hki
    rw [Int.toNat_natCast] at hcell
    subst hA
    have hcost : Aside0 (frame_Cost.f ((rdOf ByteArray.empty l0_0 (kk : Int)).size : Int) = some (((rdOf ByteArray.empty l0_0 (kk : Int)).size : Int) + 20)) := ⟨by unfold frame_Cost.f; rw [if_pos (by omega)]⟩
    have hta : turnAt l0_0 kk u.size a0_2 = 8 * (u.size : Int) + a0_2 % (8 * (((rdOf ByteArray.empty l0_0 (kk : Int)).size : Int) + 20) - 63) := rfl
    have m0 := Int.emod_nonneg a0_2 (show (8 * (((rdOf ByteArray.empty l0_0 (kk : Int)).size : Int) + 20) - 63) ≠ 0 by omega)
    have m1 := Int.emod_lt_of_pos a0_2 (show 0 < (8 * (((rdOf ByteArray.empty l0_0 (kk : Int)).size : Int) + 20) - 63) by omega)
    have hz4 := z4.out
    generalize turnAt l0_0 kk u.size a0_2 = T at *
    generalize rdOf ByteArray.empty l0_0 (kk : Int) = x at *
    go_wp2_with (first | (go_at_call 10; (with_reducible refine (frame_Cost.calls _ _ _ hcost.out).mono ?_); rintro e w' ⟨rfl, ⟨nd4, rfl⟩⟩))
    obtain ⟨fr, hfr⟩ : ∃ fr : Nat, T = fr := ⟨T.toNat, by omega⟩
    have hfr' := Aside0.mk (show 8 * (u.size : Int) + a0_2 % (8 * ((x.size : Int) + 20) - 63) = fr by rw [← hta, hfr])
    subst hfr
    rw [Int.toNat_natCast] at HG0 h
    have hfl : fr + 63 < 8 * s.size := by omega
    have hbl := bytesOf_length s
    rw [hfr'.out]
    clear hta m0 m1 hz4 z4 hcost hcell HC4
    have HB4 := Aside0.mk (pw_below_drewN HB0.out nd4)
    replace HG0 := Aside0.mk (show GR.GRow (W4.drewN nd4) w.heap.size 5 (.slice (some ⟨g, 0, none⟩) s.size cap) (nums .u8 (flipNums (bytesOf s) fr a0_3 0)) from HG0.out)
    clear HB0 HB3
    generalize W4.drewN nd4 = W5 at *
    go_loopg [14] 64 (fun kq v14 w' => ∃ j : Nat, v14 = .int .i64 j ∧ Aside0 (kq + j = 64) ∧ Aside0 (GR.GRow w' w.heap.size 5 (.slice (some ⟨g, 0, none⟩) s.size cap) (nums .u8 (flipNums (bytesOf s) fr a0_3 j))) ∧ Aside0 (Below w.heap.size w w'))
    case atStart => exact ⟨0, rfl, ⟨rfl⟩, HG0, HB4⟩
    case round =>
      clear HG0 HB4
      obtain ⟨j, rfl, HK, HGR, HB⟩ := hrel
      cases gk with
      | zero =>
        have e : j = 64 := by have := HK.out; omega
        subst e
        have hstr := GR.GRow.string (P := Try.prog) Try.underlying40 Try.underlying5 Try.underlying9 HGR.out
        obtain ⟨⟨l2, n2⟩, hsc, h⟩ := Option.bind_eq_some_iff.1 h.out
        dsimp only at h
        replace hsc := Aside0.mk hsc
        by_cases hn : n2 = (u.size : Int)
        · rw [if_pos hn] at h
          subst hn
          obtain ⟨q, hsa, h⟩ := Option.bind_eq_some_iff.1 h
          have hsame : Aside0 (∀ (A : Option Addr) (c : Nat) (W : World), Kd.C Kd.string W A l2.length l2 → l2.length ≤ c → Kd.C Kd.string W (some ad) l0_0.length l0_0 → Calls Try.prog 13 #[.slice A l2.length c, .slice (some ad) kk c0_0] W fun e w' => e = .returned (.bool q) ∧ Drawn0 W w') := ⟨fun A c W hA hc hC => by
            have hl : (l0_0.take kk).length = kk := by rw [List.length_take]; omega
            have := forebayref06_Same.calls k A c l2 (some ad) c0_0 (l0_0.take kk) q W hA hc (Kd.C_take hC (by omega)) (by rw [hl]; omega) hsa
            rwa [hl] at this⟩
          clear hsa
          cases q with
          | true =>
            have HH2 := Aside0.mk (show forebaylaw06_head.f k = some r by simpa using h)
            clear h
            go_wp2_with (first | (go_at_call 11; (with_reducible refine (frame_Scan.calls _ l2 (u.size : Int) _ hsc.out).mono ?_); rintro e w6 ⟨v6, rfl, hV, hb6⟩; obtain ⟨A6, c6, rfl⟩ := Kd.V_slice hV; have hV6 := Aside0.mk (Kd.V_reads' hV); clear hV; have HB6 := Aside0.mk (below_then HB.out HB.out.size hb6); clear hb6) | (go_at_call 13; (with_reducible refine (hsame.out _ _ _ hV6.out.2.2 hV6.out.2.1 (Kd.C_below HRw.out HB6.out)).mono ?_); rintro e w7 ⟨rfl, ⟨nd7, rfl⟩⟩) | (go_at_call 7; (with_reducible refine (forebaylaw06_head.calls k r _ HH2.out).mono ?_); rintro e w8 ⟨rfl, hb8⟩))
            go_ret
            exact ⟨rfl, below_then (pw_below_drewN HB6.out _) HB6.out.size hb8⟩
          | false =>
            obtain rfl : false = r := by simpa using h
            clear h
            go_wp2_with (first | (go_at_call 11; (with_reducible refine (frame_Scan.calls _ l2 (u.size : Int) _ hsc.out).mono ?_); rintro e w6 ⟨v6, rfl, hV, hb6⟩; obtain ⟨A6, c6, rfl⟩ := Kd.V_slice hV; have hV6 := Aside0.mk (Kd.V_reads' hV); clear hV; have HB6 := Aside0.mk (below_then HB.out HB.out.size hb6); clear hb6) | (go_at_call 13; (with_reducible refine (hsame.out _ _ _ hV6.out.2.2 hV6.out.2.1 (Kd.C_below HRw.out HB6.out)).mono ?_); rintro e w7 ⟨rfl, ⟨nd7, rfl⟩⟩))
            go_ret
            exact ⟨rfl, pw_below_drewN HB6.out _⟩
        · rw [if_neg hn] at h
          obtain rfl := Option.some.inj h
          have hnb : (n2 == (u.size : Int)) = false := beq_eq_false_iff_ne.mpr hn
          clear h
          go_wp2_with (first | (go_at_call 11; (with_reducible refine (frame_Scan.calls _ l2 n2 _ hsc.out).mono ?_); rintro e w6 ⟨v6, rfl, hV, hb6⟩; obtain ⟨A6, c6, rfl⟩ := Kd.V_slice hV; clear hV; have HB6 := Aside0.mk (below_then HB.out HB.out.size hb6); clear hb6))
          go_ret
          exact ⟨rfl, HB6.out⟩
      | succ k1 =>
        have hlt : j < 64 := by have := HK.out; omega
        clear h hq
        have hdd : 0 ≤ a0_3 / 2 ^ j := Int.ediv_nonneg p5 (Int.le_of_lt (Int.pow_pos (by omega)))
        by_cases hbit : a0_3 / 2 ^ j % 2 = 1
        · have hb1 : (a0_3 / 2 ^ j % 2 == 1) = true := by simpa using hbit
          have hfs := Aside0.mk (show flipNums (bytesOf s) fr a0_3 (j + 1) = (flipNums (bytesOf s) fr a0_3 j).set ((fr + j) / 8) (Go.bits .xor .u8 ((flipNums (bytesOf s) fr a0_3 j).getD ((fr + j) / 8) 0) (2 ^ ((fr + j) % 8))) by rw [flipNums, if_pos hbit])
          replace hbit := Aside0.mk hbit
          have hln := flipNums_length (bytesOf s) fr a0_3 j
          rw [hbl] at hln
          obtain ⟨g2, cap2, hv, hgb, hgl, hgm, hcs, hfz, hset⟩ := HGR.out.shape
          injection hv with hv1 hv2 hv3
          injection hv1 with hv1
          injection hv1 with hv1
          subst hv1
          obtain ⟨ix, hix, hix'⟩ : ∃ ix : Nat, ((fr : Int) + (j : Int)) / 8 = ix ∧ (fr + j) / 8 = ix := ⟨(fr + j) / 8, by omega, rfl⟩
          obtain ⟨m, hm, hm'⟩ : ∃ m : Nat, ((fr : Int) + (j : Int)) % 8 = m ∧ (fr + j) % 8 = m := ⟨(fr + j) % 8, by omega, rfl⟩
          have hixl : ix < s.size := by omega
          have hixf : decide ((s.size : Int) ≤ (ix : Int)) = false := decide_eq_false (by omega)
          have hixn : decide (s.size ≤ ix) = false := decide_eq_false (by omega)
          have hml : m < 8 := by omega
          rw [hix', hm'] at hfs
          have hcell := hcs ix (.int .u8 ((flipNums (bytesOf s) fr a0_3 j).getD ix 0)) (by simp [nums, List.getD_eq_getElem?_getD, List.getElem?_eq_getElem (show ix < (flipNums (bytesOf s) fr a0_3 j).length by omega)])
          have hfro := hfz ix (by rw [nums_length]; omega)
          have hset' := fun u => Aside0.mk (hset ix (.int .u8 u) (by rw [nums_length]; omega))
          clear hcs hfz hset hv2 hv3 hix' hm'
          go_wp2
          go_roundg k1
          case measure => omega
          case rel =>
            refine ⟨j + 1, by go_num, ⟨by have := HK.out; omega⟩, ⟨?_⟩, ⟨HB.out.setCell (by exact hgb) _⟩⟩
            rw [hfs.out]
            have hh := (hset' (Go.bits .xor .u8 ((flipNums (bytesOf s) fr a0_3 j).getD ix 0) (2 ^ m))).out
            rw [nums_set] at hh
            have e2 : (2 : Int) ^ m % 256 = 2 ^ m := by
              have h8 : m = 0 ∨ m = 1 ∨ m = 2 ∨ m = 3 ∨ m = 4 ∨ m = 5 ∨ m = 6 ∨ m = 7 := by omega
              rcases h8 with h8 | h8 | h8 | h8 | h8 | h8 | h8 | h8 <;> rw [h8] <;> rfl
            have e1 : (flipNums (bytesOf s) fr a0_3 j)[ix]'(by omega) = (flipNums (bytesOf s) fr a0_3 j).getD ix 0 := by rw [List.getD_eq_getElem?_getD, List.getElem?_eq_getElem (by omega)]; rfl
            rw [e2, e1]
            exact hh
        · have hb1 : (a0_3 / 2 ^ j % 2 == 1) = false := by simpa using hbit
          have hfs := Aside0.mk (show flipNums (bytesOf s) fr a0_3 (j + 1) = flipNums (bytesOf s) fr a0_3 j by rw [flipNums, if_neg hbit])
          go_wp2
          go_roundg k1
          case measure => omega
          case rel => exact ⟨j + 1, by go_num, ⟨by have := HK.out; omega⟩, ⟨by rw [hfs.out]; exact HGR.out⟩, HB⟩
def inv39 (x : S39) : Prop := (fun l : List ByteArray => l.length * 16 ≤ 140737488351232 ∧ l.length ≤ maxLen ∧ ∀ x ∈ l, (fun s : ByteArray => s.size ≤ 140737488351232) x) x.f0 ∧ (fun n : Int => (Lit.int .u8 n).wf = true) x.f1 ∧ (fun n : Int => (Lit.int .u16 n).wf = true) x.f2 ∧ (fun n : Int => (Lit.int .u64 n).wf = true) x.f3
theorem opn39 : Opn Try.prog 39 k39 inv39 := opn_struct (fun x : S39 => (x.f0, x.f1, x.f2, x.f3)) (fun p => (⟨p.1, p.2.1, p.2.2.1, p.2.2.2⟩ : S39)) (fun _ => rfl) Try.underlying39 (by kernel_rfl) (fl := [(22, 0), (5, 1), (35, 2), (37, 3)]) (by rfl) (opnL_cons (opn_slice Try.underlying22 (by kernel_rfl) (by kernel_rfl) (opn_string Try.underlying9 (by kernel_rfl))) rfl (opnL_cons (opn_int Try.underlying5 (by kernel_rfl)) rfl (opnL_cons (opn_int Try.underlying35 (by kernel_rfl)) rfl (opnL_one (opn_int Try.underlying37 (by kernel_rfl))))))

/-- THE ONE PURE STATEMENT of forebaylaw06_FrameTurned: yours. -/
def forebaylaw06_FrameTurned.Pure : Prop := ∀ (l0_0 : List ByteArray) (a0_1 : Int) (a0_2 : Int) (a0_3 : Int), inv39 ⟨l0_0, a0_1, a0_2, a0_3⟩ → ∃ k, forebaylaw06_FrameTurned.f k l0_0 a0_1 a0_2 a0_3 = some true
theorem forebaylaw06_FrameTurned.walk (P : forebaylaw06_FrameTurned.Pure) (A0_0 : Option Addr) (c0_0 : Nat) (l0_0 : List ByteArray) (a0_1 : Int) (a0_2 : Int) (a0_3 : Int) (w : World) (hr0_0 : Kd.C Kd.string w A0_0 l0_0.length l0_0) (hc0_0 : l0_0.length ≤ c0_0) (y0 : inv39 ⟨l0_0, a0_1, a0_2, a0_3⟩) :
    Calls Try.prog 5 #[.agg #[.slice A0_0 l0_0.length c0_0, .int .u8 a0_1, .int .u16 a0_2, .int .u64 a0_3]] w fun e w' => e = .returned (.bool true) ∧ Below w.heap.size w w' := by
  obtain ⟨k, h⟩ := P l0_0 a0_1 a0_2 a0_3 y0
  refine (forebaylaw06_FrameTurned.calls k A0_0 c0_0 l0_0 a0_1 a0_2 a0_3 true w hr0_0 hc0_0 h).mono ?_
  rintro e w' ⟨rfl, hd⟩
  exact ⟨rfl, hd⟩

end Go.Proofs.Ytdhnlcbijefinaa.P
