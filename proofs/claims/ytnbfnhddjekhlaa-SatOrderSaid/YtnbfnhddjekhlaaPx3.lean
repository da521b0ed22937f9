-- Written by this session's program gprint.py: functions of the program as plain functions, and that the machine does what they say. Not trusted: Lean checks it.
import Derived.Test.YtnbfnhddjekhlaaPx0
import Derived.Test.YtnbfnhddjekhlaaPx1
import Derived.Test.YtnbfnhddjekhlaaPx2
namespace Go.Proofs.Ytnbfnhddjekhlaa.P
open Go.RowKit Go.Proofs.YtnbfnhddjekhlaaW.PrintWords Go.Proofs.YtnbfnhddjekhlaaW.PrintLast Go.Proofs.YtnbfnhddjekhlaaW.PrintMore
attribute [local go_sem] max2_int min2_int max_two min_two max_three min_three max_four min_four   -- for this text's walks alone
set_option linter.unusedVariables false
set_option linter.unusedSimpArgs false

/-! ### forebaylaw03_SatLaws: function 5 -/
mutual
def forebaylaw03_SatLaws.j0 : Nat → Int → Int → Int → Bool → Option (Bool)
  | 0, _, _, _, _ => none
  | k + 1, x0, x1, x2, x34 => if x34 = true then (some false) else ((sat_Ceil.f x0 x1).bind fun t179 => (if x1 > 0 then ((sat_Mul.f t179 x1).bind fun t180 => (if t180 < x0 then (forebaylaw03_SatLaws.j1 k x0 x1 x2 true) else (if t179 > 0 then ((sat_Mul.f (wrap64 (t179 - 1)) x1).bind fun t181 => (if t181 ≥ x0 then (forebaylaw03_SatLaws.j1 k x0 x1 x2 (decide (t181 < 1099511627776))) else (forebaylaw03_SatLaws.j1 k x0 x1 x2 false))) else (forebaylaw03_SatLaws.j1 k x0 x1 x2 false)))) else (forebaylaw03_SatLaws.j1 k x0 x1 x2 false)))
def forebaylaw03_SatLaws.j1 : Nat → Int → Int → Int → Bool → Option (Bool)
  | 0, _, _, _, _ => none
  | k + 1, x0, x1, x2, x65 => if x65 = true then (some false) else ((sat_Grain.f x0 x1).bind fun t182 => (if t182 < x0 then (forebaylaw03_SatLaws.j2 k x0 x1 x2 true) else (if x1 > 0 then (if t182 < 1099511627776 then (if x1 = 0 then (none) else (if (Int.tmod t182 x1) = 0 then (forebaylaw03_SatLaws.j2 k x0 x1 x2 (decide ((wrap64 (t182 - x0)) ≥ x1))) else (forebaylaw03_SatLaws.j2 k x0 x1 x2 true))) else (forebaylaw03_SatLaws.j2 k x0 x1 x2 (decide ((wrap64 (t182 - x0)) ≥ x1)))) else (forebaylaw03_SatLaws.j2 k x0 x1 x2 false))))
def forebaylaw03_SatLaws.j2 : Nat → Int → Int → Int → Bool → Option (Bool)
  | 0, _, _, _, _ => none
  | k + 1, x0, x1, x2, x96 => if x96 = true then (some false) else ((sat_Twice.f k x0 (wrap64 (Int.tmod x2 30))).bind fun t183 => (if 0 ≤ (IntKind.u64.wrap (wrap64 (Int.tmod x2 30))) then ((sat_Mul.f x0 (shl .i64 1 (IntKind.u64.wrap (wrap64 (Int.tmod x2 30))))).bind fun t184 => (if t183 = t184 then ((sat_Mul.f x0 x1).bind fun t185 => ((sat_Mul.f x1 x0).bind fun t186 => (if t185 = t186 then ((forebaylaw03_head.f k).bind fun t187 => (some t187)) else (some false)))) else (some false))) else (none)))
end
def forebaylaw03_SatLaws.f (k : Nat) (a0 : Int) (a1 : Int) (a2 : Int) : Option (Bool) := (sat_Of.f a0).bind fun t171 => ((sat_Of.f a1).bind fun t172 => ((sat_Add.f (([t171, t172] : List Int))).bind fun t176 => (if t176 < 1099511627776 then ((sat_Sub.f t176 t171).bind fun t177 => (if t177 = t172 then ((sat_Sub.f t176 t172).bind fun t178 => (forebaylaw03_SatLaws.j0 k t171 t172 a2 (t178 != t171))) else (forebaylaw03_SatLaws.j0 k t171 t172 a2 true))) else (forebaylaw03_SatLaws.j0 k t171 t172 a2 false))))
theorem forebaylaw03_SatLaws.mono_l : ∀ k, (∀ y0 y1 y2 y3, LeO (forebaylaw03_SatLaws.j0 k y0 y1 y2 y3) (forebaylaw03_SatLaws.j0 (k + 1) y0 y1 y2 y3)) ∧ (∀ y0 y1 y2 y3, LeO (forebaylaw03_SatLaws.j1 k y0 y1 y2 y3) (forebaylaw03_SatLaws.j1 (k + 1) y0 y1 y2 y3)) ∧ (∀ y0 y1 y2 y3, LeO (forebaylaw03_SatLaws.j2 k y0 y1 y2 y3) (forebaylaw03_SatLaws.j2 (k + 1) y0 y1 y2 y3))
  | 0 => ⟨fun _ _ _ _ r h => by simp [forebaylaw03_SatLaws.j0] at h, fun _ _ _ _ r h => by simp [forebaylaw03_SatLaws.j1] at h, fun _ _ _ _ r h => by simp [forebaylaw03_SatLaws.j2] at h⟩
  | k + 1 => by
    obtain ⟨ih0, ih1, ih2⟩ := forebaylaw03_SatLaws.mono_l k
    refine ⟨?_, ?_, ?_⟩
    · intro y0 y1 y2 y3
      unfold forebaylaw03_SatLaws.j0
      repeat' first
      | (with_reducible exact ih0 _ _ _ _)
      | (with_reducible exact ih1 _ _ _ _)
      | (with_reducible exact ih2 _ _ _ _)
      | (with_reducible exact forebaylaw03_head.mono _)
      | (with_reducible exact sat_Twice.mono _ _ _)
      | (with_reducible exact LeO.refl _)
      | (with_reducible exact LeO.none _)
      | (with_reducible refine LeO.ite ?_ ?_)
      | (with_reducible refine LeO.bind ?_ (fun _ => ?_))
      | exact ih0 _ _ _ _
      | exact ih1 _ _ _ _
      | exact ih2 _ _ _ _
      | exact forebaylaw03_head.mono _
      | exact sat_Twice.mono _ _ _
      | exact LeO.none _
      | refine LeO.ite ?_ ?_
      | refine LeO.bind ?_ (fun _ => ?_)
    · intro y0 y1 y2 y3
      unfold forebaylaw03_SatLaws.j1
      repeat' first
      | (with_reducible exact ih0 _ _ _ _)
      | (with_reducible exact ih1 _ _ _ _)
      | (with_reducible exact ih2 _ _ _ _)
      | (with_reducible exact forebaylaw03_head.mono _)
      | (with_reducible exact sat_Twice.mono _ _ _)
      | (with_reducible exact LeO.refl _)
      | (with_reducible exact LeO.none _)
      | (with_reducible refine LeO.ite ?_ ?_)
      | (with_reducible refine LeO.bind ?_ (fun _ => ?_))
      | exact ih0 _ _ _ _
      | exact ih1 _ _ _ _
      | exact ih2 _ _ _ _
      | exact forebaylaw03_head.mono _
      | exact sat_Twice.mono _ _ _
      | exact LeO.none _
      | refine LeO.ite ?_ ?_
      | refine LeO.bind ?_ (fun _ => ?_)
    · intro y0 y1 y2 y3
      unfold forebaylaw03_SatLaws.j2
      repeat' first
      | (with_reducible exact ih0 _ _ _ _)
      | (with_reducible exact ih1 _ _ _ _)
      | (with_reducible exact ih2 _ _ _ _)
      | (with_reducible exact forebaylaw03_head.mono _)
      | (with_reducible exact sat_Twice.mono _ _ _)
      | (with_reducible exact LeO.refl _)
      | (with_reducible exact LeO.none _)
      | (with_reducible refine LeO.ite ?_ ?_)
      | (with_reducible refine LeO.bind ?_ (fun _ => ?_))
      | exact ih0 _ _ _ _
      | exact ih1 _ _ _ _
      | exact ih2 _ _ _ _
      | exact forebaylaw03_head.mono _
      | exact sat_Twice.mono _ _ _
      | exact LeO.none _
      | refine LeO.ite ?_ ?_
      | refine LeO.bind ?_ (fun _ => ?_)
theorem forebaylaw03_SatLaws.mono : ∀ a0 a1 a2 k, LeO (forebaylaw03_SatLaws.f k a0 a1 a2) (forebaylaw03_SatLaws.f (k + 1) a0 a1 a2) := by
  intro a0 a1 a2 k
  obtain ⟨ih0, ih1, ih2⟩ := forebaylaw03_SatLaws.mono_l k
  unfold forebaylaw03_SatLaws.f
  repeat' first
      | (with_reducible exact ih0 _ _ _ _)
      | (with_reducible exact ih1 _ _ _ _)
      | (with_reducible exact ih2 _ _ _ _)
      | (with_reducible exact forebaylaw03_head.mono _)
      | (with_reducible exact sat_Twice.mono _ _ _)
      | (with_reducible exact LeO.refl _)
      | (with_reducible exact LeO.none _)
      | (with_reducible refine LeO.ite ?_ ?_)
      | (with_reducible refine LeO.bind ?_ (fun _ => ?_))
      | exact ih0 _ _ _ _
      | exact ih1 _ _ _ _
      | exact ih2 _ _ _ _
      | exact forebaylaw03_head.mono _
      | exact sat_Twice.mono _ _ _
      | exact LeO.none _
      | refine LeO.ite ?_ ?_
      | refine LeO.bind ?_ (fun _ => ?_)
set_option maxHeartbeats 8000000 in
set_option maxRecDepth 100000 in
theorem forebaylaw03_SatLaws.calls (k : Nat) (a0 : Int) (a1 : Int) (a2 : Int) (r : Bool) (w : World) (h : forebaylaw03_SatLaws.f k a0 a1 a2 = some r) :
    Calls Try.prog 5 #[.int .i64 a0, .int .i64 a1, .int .u8 a2] w fun e w' => e = .returned (.bool r) ∧ Below w.heap.size w w' := by
  have HB := Aside0.mk (Below.refl w.heap.size w)
  have H : ((sat_Of.f a0).bind fun t171 => ((sat_Of.f a1).bind fun t172 => ((sat_Add.f (([t171, t172] : List Int))).bind fun t176 => (if t176 < 1099511627776 then ((sat_Sub.f t176 t171).bind fun t177 => (if t177 = t172 then ((sat_Sub.f t176 t172).bind fun t178 => (forebaylaw03_SatLaws.j0 k t171 t172 a2 (t178 != t171))) else (forebaylaw03_SatLaws.j0 k t171 t172 a2 true))) else (forebaylaw03_SatLaws.j0 k t171 t172 a2 false))))) = some r := h
  clear h
  replace H := Option.bind_eq_some_iff.mp H
  obtain ⟨t171, A40, H⟩ := H
  replace H : ((sat_Of.f a1).bind fun t172 => ((sat_Add.f (([t171, t172] : List Int))).bind fun t176 => (if t176 < 1099511627776 then ((sat_Sub.f t176 t171).bind fun t177 => (if t177 = t172 then ((sat_Sub.f t176 t172).bind fun t178 => (forebaylaw03_SatLaws.j0 k t171 t172 a2 (t178 != t171))) else (forebaylaw03_SatLaws.j0 k t171 t172 a2 true))) else (forebaylaw03_SatLaws.j0 k t171 t172 a2 false)))) = some r := H
  have A4 := Aside0.mk A40
  clear A40
  replace H := Option.bind_eq_some_iff.mp H
  obtain ⟨t172, A50, H⟩ := H
  replace H : ((sat_Add.f (([t171, t172] : List Int))).bind fun t176 => (if t176 < 1099511627776 then ((sat_Sub.f t176 t171).bind fun t177 => (if t177 = t172 then ((sat_Sub.f t176 t172).bind fun t178 => (forebaylaw03_SatLaws.j0 k t171 t172 a2 (t178 != t171))) else (forebaylaw03_SatLaws.j0 k t171 t172 a2 true))) else (forebaylaw03_SatLaws.j0 k t171 t172 a2 false))) = some r := H
  have A5 := Aside0.mk A50
  clear A50
  obtain ⟨y173, hy173⟩ : ∃ y_ : List Int, y_ = (([t171, t172] : List Int)) := ⟨_, rfl⟩
  replace H : ((sat_Add.f y173).bind fun t176 => (if t176 < 1099511627776 then ((sat_Sub.f t176 t171).bind fun t177 => (if t177 = t172 then ((sat_Sub.f t176 t172).bind fun t178 => (forebaylaw03_SatLaws.j0 k t171 t172 a2 (t178 != t171))) else (forebaylaw03_SatLaws.j0 k t171 t172 a2 true))) else (forebaylaw03_SatLaws.j0 k t171 t172 a2 false))) = some r := by first | (rw [hy173]; with_reducible exact H) | (have H2_ := (Option.bind_some _ _).symm.trans H; rw [hy173]; with_reducible exact H2_) | (have H2_ := (Option.bind_some _ _).symm.trans H; with_reducible exact H2_) | with_reducible exact H | (rw [hy173]; exact H) | exact H
  have Ny173 := Aside0.mk hy173
  clear hy173
  replace H := Option.bind_eq_some_iff.mp H
  obtain ⟨t176, A60, H⟩ := H
  replace H : (if t176 < 1099511627776 then ((sat_Sub.f t176 t171).bind fun t177 => (if t177 = t172 then ((sat_Sub.f t176 t172).bind fun t178 => (forebaylaw03_SatLaws.j0 k t171 t172 a2 (t178 != t171))) else (forebaylaw03_SatLaws.j0 k t171 t172 a2 true))) else (forebaylaw03_SatLaws.j0 k t171 t172 a2 false)) = some r := H
  have A6 := Aside0.mk A60
  clear A60
  have HC7 := Aside0.mk H
  clear H
  go_enter Try.func5, Try.ntmps5
  go_upto_region 3 with (first | ((with_reducible refine gate_callee (f := 7) rfl ?_); refine goesL_ (some 12) rfl rfl Try.func7 (by kernel_rfl) rfl #[.int .i64 a0] rfl (by (try simp only [List.map_toArray, List.map_cons, List.map_nil]); first | done | rfl | (simp only [List.length_drop, List.length_take]; rfl)) ?_; (with_reducible refine (sat_Of.calls a0 t171 _ A4.out).mono ?_); rintro e w' ⟨rfl, ⟨nd, rfl⟩⟩; refine ⟨_, rfl, ?_⟩) | ((with_reducible refine gate_callee (f := 7) rfl ?_); refine goesL_ (some 14) rfl rfl Try.func7 (by kernel_rfl) rfl #[.int .i64 a1] rfl (by (try simp only [List.map_toArray, List.map_cons, List.map_nil]); first | done | rfl | (simp only [List.length_drop, List.length_take]; rfl)) ?_; (with_reducible refine (sat_Of.calls a1 t172 _ A5.out).mono ?_); rintro e w' ⟨rfl, ⟨nd, rfl⟩⟩; refine ⟨_, rfl, ?_⟩) | ((with_reducible refine gate_dst (N := 17) rfl ?_); refine Kd.R_lit (Kd.int .i64) _ 2 ?hg (N := 17) ?hd (xs := ([t171, t172] : List Int)) (inner := [.int .i64 t171, .int .i64 t172]) (ok := fun _ => True) (okp := fun _ => True) ?hr ?hp (fun _ hk => hk) trivial (Below.refl _ _) (Nat.le_refl _) (by simp) ?_; (case hd => rfl); (case hg => rfl); (case hr => first | (go_simp; done) | (go_simp; rfl)); (case hp => exact (Reps.one (show Kd.M (Kd.int .i64) _ _ _ t171 [.int .i64 t171] from rfl) (Reps.one (show Kd.M (Kd.int .i64) _ _ _ t172 [.int .i64 t172] from rfl) (Reps.none _ _)))); intro v174 w8 ho9 hb hg_ hnew_; clear hg_ hnew_; (first | rw [← Ny173.out] at ho9 | (simp only [Int.reduceToNat] at ho9; rw [← Ny173.out] at ho9)); have n0_ := Aside0.mk (Kd.R_lower ho9 (below_size (by repeat (first | (with_reducible first | exact HB.out | apply below_alloc | apply pw_below_drewN | apply below_drew1) | exact HB.out)))); have n1_ := Aside0.mk (below_step (by repeat (first | (with_reducible first | exact HB.out | apply below_alloc | apply pw_below_drewN | apply below_drew1) | exact HB.out)) hb); clear HB; have HO175 := n0_; have HB := n1_; clear n0_ n1_; clear hb ho9; obtain ⟨Ao10, co10, eo10⟩ := Kd.R_slice HO175.out; subst eo10) | ((with_reducible refine gate_callee (f := 9) rfl ?_); refine goesL_ (some 18) rfl rfl Try.func9 (by kernel_rfl) rfl #[.slice Ao10 y173.length co10] rfl (by (try simp only [List.map_toArray, List.map_cons, List.map_nil]); first | done | rfl | (simp only [List.length_drop, List.length_take]; rfl)) ?_; (with_reducible refine (sat_Add.calls _ _ y173 t176 _ ?side1 ?side2 A6.out).mono ?_); (case side1 => repeat (first | exact (Kd.R_reads' HO175.out).2.2 | (with_reducible refine Kd.C_alloc ?_ _) | (with_reducible refine Kd.C_drewN ?_ _) | (with_reducible refine Kd.C_drew ?_))); (case side2 => exact (Kd.R_reads' HO175.out).2.1); rintro e w' ⟨rfl, ⟨nd, rfl⟩⟩; refine ⟨_, rfl, ?_⟩))
  (try simp only [Act.put, List.setIfInBounds_toArray, List.set_cons_zero, List.set_cons_succ])
  go_cut [34] (fun v34 wc => ∃ (kq : Nat) (x34_6 : Bool), v34 = .bool x34_6 ∧ Aside0 (forebaylaw03_SatLaws.j0 kq t171 t172 a2 x34_6 = some r) ∧ Aside0 (kq ≤ k) ∧ Aside0 (Below w.heap.size w wc))
  case first =>
    have H := HC7.out
    clear HC7
    by_cases c11 : t176 < 1099511627776
    · rw [if_pos c11] at H
      have c11b0 : decide (t176 < 1099511627776) = true := decide_eq_true c11
      clear c11
      (first | rw [c11b0] | (simp only [i64_w, i32_w]; rw [c11b0]) | skip)
      replace H := Option.bind_eq_some_iff.mp H
      obtain ⟨t177, A120, H⟩ := H
      replace H : (if t177 = t172 then ((sat_Sub.f t176 t172).bind fun t178 => (forebaylaw03_SatLaws.j0 k t171 t172 a2 (t178 != t171))) else (forebaylaw03_SatLaws.j0 k t171 t172 a2 true)) = some r := H
      have A12 := Aside0.mk A120
      clear A120
      by_cases c13 : t177 = t172
      · rw [if_pos c13] at H
        have c13b0 : (t177 == t172) = true := beq_iff_eq.mpr c13
        have c13b1 : (t177 != t172) = false := bne_eq_false_iff_eq.mpr c13
        clear c13
        replace H := Option.bind_eq_some_iff.mp H
        obtain ⟨t178, A140, H⟩ := H
        replace H : (forebaylaw03_SatLaws.j0 k t171 t172 a2 (t178 != t171)) = some r := H
        have A14 := Aside0.mk A140
        clear A140
        have H' := Aside0.mk H
        clear H
        go_wp2_with (first | (go_at_call 11; (with_reducible refine (sat_Sub.calls t176 t171 t177 _ A12.out).mono ?_); rintro e w' ⟨rfl, ⟨nd, rfl⟩⟩) | (go_at_call 11; (with_reducible refine (sat_Sub.calls t176 t172 t178 _ A14.out).mono ?_); rintro e w' ⟨rfl, ⟨nd, rfl⟩⟩))
        go_meet
        case rel => exact ⟨_, ((t178 != t171)), (by first | rfl | (simp; done) | (simp [*]; done)), H', ⟨by first | omega | exact Nat.le_refl _⟩, ⟨by repeat (first | (with_reducible first | exact HB.out | apply below_alloc | apply pw_below_drewN | apply below_drew1) | exact HB.out)⟩⟩
      · rw [if_neg c13] at H
        have c13b0 : (t177 == t172) = false := beq_eq_false_iff_ne.mpr c13
        have c13b1 : (t177 != t172) = true := bne_iff_ne.mpr c13
        have H' := Aside0.mk H
        clear H
        go_wp2_with (first | (go_at_call 11; (with_reducible refine (sat_Sub.calls t176 t171 t177 _ A12.out).mono ?_); rintro e w' ⟨rfl, ⟨nd, rfl⟩⟩))
        go_meet
        case rel => exact ⟨_, (true), (by first | rfl | (simp; done) | (simp [*]; done)), H', ⟨by first | omega | exact Nat.le_refl _⟩, ⟨by repeat (first | (with_reducible first | exact HB.out | apply below_alloc | apply pw_below_drewN | apply below_drew1) | exact HB.out)⟩⟩
    · rw [if_neg c11] at H
      have c11b0 : decide (t176 < 1099511627776) = false := decide_eq_false c11
      clear c11
      (first | rw [c11b0] | (simp only [i64_w, i32_w]; rw [c11b0]) | skip)
      have H' := Aside0.mk H
      clear H
      go_wp2
      go_meet
      case rel => exact ⟨_, (false), (by first | rfl | (simp; done) | (simp [*]; done)), H', ⟨by first | omega | exact Nat.le_refl _⟩, ⟨by repeat (first | (with_reducible first | exact HB.out | apply below_alloc | apply pw_below_drewN | apply below_drew1) | exact HB.out)⟩⟩
  case rest =>
    clear HC7
    try clear c1
    try clear p2
    try clear c5
    try clear c7
    try clear c9
    try clear c11
    try clear c11b0
    try clear c13
    try clear c13b0
    try clear c13b1
    obtain ⟨kq, x34_6, rfl, HA, HJ6, HB⟩ := hcut
    cases kq with
    | zero => exact absurd HA.out (by simp [forebaylaw03_SatLaws.j0])
    | succ kj6 =>
      have H := HA.out
      clear HA
      simp only [forebaylaw03_SatLaws.j0] at H
      by_cases c15 : x34_6 = true
      · subst c15
        have H1 : (some false) = some r := by rw [if_pos rfl] at H; exact H
        clear H
        have H := H1
        clear H1
        obtain rfl := Option.some.inj H
        go_wp2
        go_ret
        exact ⟨by first | rfl | (simp [errW_none, errW_some] <;> rfl) | (simp [*, errW_none, errW_some] <;> rfl), by repeat (first | (with_reducible first | exact HB.out | apply below_alloc | apply pw_below_drewN | apply below_drew1) | exact HB.out)⟩
      · replace c15 := Bool.eq_false_iff.mpr c15
        subst c15
        have H1 : ((sat_Ceil.f t171 t172).bind fun t179 => (if t172 > 0 then ((sat_Mul.f t179 t172).bind fun t180 => (if t180 < t171 then (forebaylaw03_SatLaws.j1 kj6 t171 t172 a2 true) else (if t179 > 0 then ((sat_Mul.f (wrap64 (t179 - 1)) t172).bind fun t181 => (if t181 ≥ t171 then (forebaylaw03_SatLaws.j1 kj6 t171 t172 a2 (decide (t181 < 1099511627776))) else (forebaylaw03_SatLaws.j1 kj6 t171 t172 a2 false))) else (forebaylaw03_SatLaws.j1 kj6 t171 t172 a2 false)))) else (forebaylaw03_SatLaws.j1 kj6 t171 t172 a2 false))) = some r := by rw [if_neg (show ¬ (false = true) by decide)] at H; exact H
        clear H
        have H := H1
        clear H1
        replace H := Option.bind_eq_some_iff.mp H
        obtain ⟨t179, A160, H⟩ := H
        replace H : (if t172 > 0 then ((sat_Mul.f t179 t172).bind fun t180 => (if t180 < t171 then (forebaylaw03_SatLaws.j1 kj6 t171 t172 a2 true) else (if t179 > 0 then ((sat_Mul.f (wrap64 (t179 - 1)) t172).bind fun t181 => (if t181 ≥ t171 then (forebaylaw03_SatLaws.j1 kj6 t171 t172 a2 (decide (t181 < 1099511627776))) else (forebaylaw03_SatLaws.j1 kj6 t171 t172 a2 false))) else (forebaylaw03_SatLaws.j1 kj6 t171 t172 a2 false)))) else (forebaylaw03_SatLaws.j1 kj6 t171 t172 a2 false)) = some r := H
        have A16 := Aside0.mk A160
        clear A160
        have HC17 := Aside0.mk H
        clear H
        go_upto_region 6 with (first | ((with_reducible refine gate_callee (f := 15) rfl ?_); refine goesL_ (some 37) rfl rfl Try.func15 (by kernel_rfl) rfl #[.int .i64 t171, .int .i64 t172] rfl (by (try simp only [List.map_toArray, List.map_cons, List.map_nil]); first | done | rfl | (simp only [List.length_drop, List.length_take]; rfl)) ?_; (with_reducible refine (sat_Ceil.calls t171 t172 t179 _ A16.out).mono ?_); rintro e w' ⟨rfl, ⟨nd, rfl⟩⟩; refine ⟨_, rfl, ?_⟩))
        (try simp only [Act.put, List.setIfInBounds_toArray, List.set_cons_zero, List.set_cons_succ])
        go_cut [65] (fun v65 wc => ∃ (kq : Nat) (x65_16 : Bool), v65 = .bool x65_16 ∧ Aside0 (forebaylaw03_SatLaws.j1 kq t171 t172 a2 x65_16 = some r) ∧ Aside0 (kq ≤ kj6) ∧ Aside0 (Below w.heap.size w wc))
        case first =>
          have H := HC17.out
          clear HC17
          by_cases c18 : t172 > 0
          · rw [if_pos c18] at H
            have c18b0 : decide (0 < t172) = true := decide_eq_true c18
            clear c18
            (first | rw [c18b0] | (simp only [i64_w, i32_w]; rw [c18b0]) | skip)
            replace H := Option.bind_eq_some_iff.mp H
            obtain ⟨t180, A190, H⟩ := H
            replace H : (if t180 < t171 then (forebaylaw03_SatLaws.j1 kj6 t171 t172 a2 true) else (if t179 > 0 then ((sat_Mul.f (wrap64 (t179 - 1)) t172).bind fun t181 => (if t181 ≥ t171 then (forebaylaw03_SatLaws.j1 kj6 t171 t172 a2 (decide (t181 < 1099511627776))) else (forebaylaw03_SatLaws.j1 kj6 t171 t172 a2 false))) else (forebaylaw03_SatLaws.j1 kj6 t171 t172 a2 false))) = some r := H
            have A19 := Aside0.mk A190
            clear A190
            by_cases c20 : t180 < t171
            · rw [if_pos c20] at H
              have c20b0 : decide (t180 < t171) = true := decide_eq_true c20
              clear c20
              have H' := Aside0.mk H
              clear H
              go_wp2_with (first | (go_at_call 13; (with_reducible refine (sat_Mul.calls t179 t172 t180 _ A19.out).mono ?_); rintro e w' ⟨rfl, ⟨nd, rfl⟩⟩))
              go_meet
              case rel => exact ⟨_, (true), (by first | rfl | (simp; done) | (simp [*]; done)), H', ⟨by have := HJ6.out; first | omega | exact Nat.le_refl _⟩, ⟨by repeat (first | (with_reducible first | exact HB.out | apply below_alloc | apply pw_below_drewN | apply below_drew1) | exact HB.out)⟩⟩
            · rw [if_neg c20] at H
              have c20b0 : decide (t180 < t171) = false := decide_eq_false c20
              clear c20
              by_cases c21 : t179 > 0
              · rw [if_pos c21] at H
                have c21b0 : decide (0 < t179) = true := decide_eq_true c21
                clear c21
                replace H := Option.bind_eq_some_iff.mp H
                obtain ⟨t181, A220, H⟩ := H
                replace H : (if t181 ≥ t171 then (forebaylaw03_SatLaws.j1 kj6 t171 t172 a2 (decide (t181 < 1099511627776))) else (forebaylaw03_SatLaws.j1 kj6 t171 t172 a2 false)) = some r := H
                have A22 := Aside0.mk A220
                clear A220
                by_cases c23 : t181 ≥ t171
                · rw [if_pos c23] at H
                  have c23b0 : decide (t171 ≤ t181) = true := decide_eq_true c23
                  clear c23
                  have H' := Aside0.mk H
                  clear H
                  go_wp2_with (first | (go_at_call 13; (with_reducible refine (sat_Mul.calls t179 t172 t180 _ A19.out).mono ?_); rintro e w' ⟨rfl, ⟨nd, rfl⟩⟩) | (go_at_call 13; (with_reducible refine (sat_Mul.calls (wrap64 (t179 - 1)) t172 t181 _ A22.out).mono ?_); rintro e w' ⟨rfl, ⟨nd, rfl⟩⟩))
                  go_meet
                  case rel => exact ⟨_, (decide (t181 < 1099511627776)), (by first | rfl | (simp; done) | (simp [*]; done)), H', ⟨by have := HJ6.out; first | omega | exact Nat.le_refl _⟩, ⟨by repeat (first | (with_reducible first | exact HB.out | apply below_alloc | apply pw_below_drewN | apply below_drew1) | exact HB.out)⟩⟩
                · rw [if_neg c23] at H
                  have c23b0 : decide (t171 ≤ t181) = false := decide_eq_false c23
                  clear c23
                  have H' := Aside0.mk H
                  clear H
                  go_wp2_with (first | (go_at_call 13; (with_reducible refine (sat_Mul.calls t179 t172 t180 _ A19.out).mono ?_); rintro e w' ⟨rfl, ⟨nd, rfl⟩⟩) | (go_at_call 13; (with_reducible refine (sat_Mul.calls (wrap64 (t179 - 1)) t172 t181 _ A22.out).mono ?_); rintro e w' ⟨rfl, ⟨nd, rfl⟩⟩))
                  go_meet
                  case rel => exact ⟨_, (false), (by first | rfl | (simp; done) | (simp [*]; done)), H', ⟨by have := HJ6.out; first | omega | exact Nat.le_refl _⟩, ⟨by repeat (first | (with_reducible first | exact HB.out | apply below_alloc | apply pw_below_drewN | apply below_drew1) | exact HB.out)⟩⟩
              · rw [if_neg c21] at H
                have c21b0 : decide (0 < t179) = false := decide_eq_false c21
                clear c21
                have H' := Aside0.mk H
                clear H
                go_wp2_with (first | (go_at_call 13; (with_reducible refine (sat_Mul.calls t179 t172 t180 _ A19.out).mono ?_); rintro e w' ⟨rfl, ⟨nd, rfl⟩⟩))
                go_meet
                case rel => exact ⟨_, (false), (by first | rfl | (simp; done) | (simp [*]; done)), H', ⟨by have := HJ6.out; first | omega | exact Nat.le_refl _⟩, ⟨by repeat (first | (with_reducible first | exact HB.out | apply below_alloc | apply pw_below_drewN | apply below_drew1) | exact HB.out)⟩⟩
          · rw [if_neg c18] at H
            have c18b0 : decide (0 < t172) = false := decide_eq_false c18
            clear c18
            (first | rw [c18b0] | (simp only [i64_w, i32_w]; rw [c18b0]) | skip)
            have H' := Aside0.mk H
            clear H
            go_wp2
            go_meet
            case rel => exact ⟨_, (false), (by first | rfl | (simp; done) | (simp [*]; done)), H', ⟨by have := HJ6.out; first | omega | exact Nat.le_refl _⟩, ⟨by repeat (first | (with_reducible first | exact HB.out | apply below_alloc | apply pw_below_drewN | apply below_drew1) | exact HB.out)⟩⟩
        case rest =>
          clear HC17
          try clear c1
          try clear c2
          try clear p2
          try clear c5
          try clear p6
          try clear c7
          try clear c9
          try clear c11
          try clear c11b0
          try clear c13
          try clear c13b0
          try clear c13b1
          try clear c15
          try clear c18
          try clear c18b0
          try clear c20
          try clear c20b0
          try clear c21
          try clear c21b0
          try clear c23
          try clear c23b0
          try clear p2
          obtain ⟨kq, x65_16, rfl, HA, HJ16, HB⟩ := hcut
          cases kq with
          | zero => exact absurd HA.out (by simp [forebaylaw03_SatLaws.j1])
          | succ kj16 =>
            have H := HA.out
            clear HA
            simp only [forebaylaw03_SatLaws.j1] at H
            by_cases c24 : x65_16 = true
            · subst c24
              have H1 : (some false) = some r := by rw [if_pos rfl] at H; exact H
              clear H
              have H := H1
              clear H1
              obtain rfl := Option.some.inj H
              go_wp2
              go_ret
              exact ⟨by first | rfl | (simp [errW_none, errW_some] <;> rfl) | (simp [*, errW_none, errW_some] <;> rfl), by repeat (first | (with_reducible first | exact HB.out | apply below_alloc | apply pw_below_drewN | apply below_drew1) | exact HB.out)⟩
            · replace c24 := Bool.eq_false_iff.mpr c24
              subst c24
              have H1 : ((sat_Grain.f t171 t172).bind fun t182 => (if t182 < t171 then (forebaylaw03_SatLaws.j2 kj16 t171 t172 a2 true) else (if t172 > 0 then (if t182 < 1099511627776 then (if t172 = 0 then (none) else (if (Int.tmod t182 t172) = 0 then (forebaylaw03_SatLaws.j2 kj16 t171 t172 a2 (decide ((wrap64 (t182 - t171)) ≥ t172))) else (forebaylaw03_SatLaws.j2 kj16 t171 t172 a2 true))) else (forebaylaw03_SatLaws.j2 kj16 t171 t172 a2 (decide ((wrap64 (t182 - t171)) ≥ t172)))) else (forebaylaw03_SatLaws.j2 kj16 t171 t172 a2 false)))) = some r := by rw [if_neg (show ¬ (false = true) by decide)] at H; exact H
              clear H
              have H := H1
              clear H1
              replace H := Option.bind_eq_some_iff.mp H
              obtain ⟨t182, A250, H⟩ := H
              replace H : (if t182 < t171 then (forebaylaw03_SatLaws.j2 kj16 t171 t172 a2 true) else (if t172 > 0 then (if t182 < 1099511627776 then (if t172 = 0 then (none) else (if (Int.tmod t182 t172) = 0 then (forebaylaw03_SatLaws.j2 kj16 t171 t172 a2 (decide ((wrap64 (t182 - t171)) ≥ t172))) else (forebaylaw03_SatLaws.j2 kj16 t171 t172 a2 true))) else (forebaylaw03_SatLaws.j2 kj16 t171 t172 a2 (decide ((wrap64 (t182 - t171)) ≥ t172)))) else (forebaylaw03_SatLaws.j2 kj16 t171 t172 a2 false))) = some r := H
              have A25 := Aside0.mk A250
              clear A250
              have HC26 := Aside0.mk H
              clear H
              go_upto_region 9 with (first | ((with_reducible refine gate_callee (f := 19) rfl ?_); refine goesL_ (some 68) rfl rfl Try.func19 (by kernel_rfl) rfl #[.int .i64 t171, .int .i64 t172] rfl (by (try simp only [List.map_toArray, List.map_cons, List.map_nil]); first | done | rfl | (simp only [List.length_drop, List.length_take]; rfl)) ?_; (with_reducible refine (sat_Grain.calls t171 t172 t182 _ A25.out).mono ?_); rintro e w' ⟨rfl, ⟨nd, rfl⟩⟩; refine ⟨_, rfl, ?_⟩))
              (try simp only [Act.put, List.setIfInBounds_toArray, List.set_cons_zero, List.set_cons_succ])
              go_cut [96] (fun v96 wc => ∃ (kq : Nat) (x96_25 : Bool), v96 = .bool x96_25 ∧ Aside0 (forebaylaw03_SatLaws.j2 kq t171 t172 a2 x96_25 = some r) ∧ Aside0 (kq ≤ kj16) ∧ Aside0 (Below w.heap.size w wc))
              case first =>
                have H := HC26.out
                clear HC26
                by_cases c27 : t182 < t171
                · rw [if_pos c27] at H
                  have c27b0 : decide (t182 < t171) = true := decide_eq_true c27
                  clear c27
                  (first | rw [c27b0] | (simp only [i64_w, i32_w]; rw [c27b0]) | skip)
                  have H' := Aside0.mk H
                  clear H
                  go_wp2
                  go_meet
                  case rel => exact ⟨_, (true), (by first | rfl | (simp; done) | (simp [*]; done)), H', ⟨by have := HJ6.out; have := HJ16.out; first | omega | exact Nat.le_refl _⟩, ⟨by repeat (first | (with_reducible first | exact HB.out | apply below_alloc | apply pw_below_drewN | apply below_drew1) | exact HB.out)⟩⟩
                · rw [if_neg c27] at H
                  have c27b0 : decide (t182 < t171) = false := decide_eq_false c27
                  clear c27
                  (first | rw [c27b0] | (simp only [i64_w, i32_w]; rw [c27b0]) | skip)
                  by_cases c28 : t172 > 0
                  · rw [if_pos c28] at H
                    have c28b0 : decide (0 < t172) = true := decide_eq_true c28
                    clear c28
                    by_cases c29 : t182 < 1099511627776
                    · rw [if_pos c29] at H
                      have c29b0 : decide (t182 < 1099511627776) = true := decide_eq_true c29
                      clear c29
                      by_cases c30 : t172 = 0
                      · rw [if_pos c30] at H
                        exact absurd H (by simp)
                      · rw [if_neg c30] at H
                        have c30b0 : (t172 == 0) = false := beq_eq_false_iff_ne.mpr c30
                        have c30b1 : (t172 != 0) = true := bne_iff_ne.mpr c30
                        by_cases c31 : (Int.tmod t182 t172) = 0
                        · rw [if_pos c31] at H
                          have c31b0 : ((Int.tmod t182 t172) == 0) = true := beq_iff_eq.mpr c31
                          have c31b1 : ((Int.tmod t182 t172) != 0) = false := bne_eq_false_iff_eq.mpr c31
                          clear c31
                          have H' := Aside0.mk H
                          clear H
                          go_wp2
                          go_meet
                          case rel => exact ⟨_, (decide ((wrap64 (t182 - t171)) ≥ t172)), (by first | rfl | (simp; done) | (simp [*]; done)), H', ⟨by have := HJ6.out; have := HJ16.out; first | omega | exact Nat.le_refl _⟩, ⟨by repeat (first | (with_reducible first | exact HB.out | apply below_alloc | apply pw_below_drewN | apply below_drew1) | exact HB.out)⟩⟩
                        · rw [if_neg c31] at H
                          have c31b0 : ((Int.tmod t182 t172) == 0) = false := beq_eq_false_iff_ne.mpr c31
                          have c31b1 : ((Int.tmod t182 t172) != 0) = true := bne_iff_ne.mpr c31
                          have H' := Aside0.mk H
                          clear H
                          go_wp2
                          go_meet
                          case rel => exact ⟨_, (true), (by first | rfl | (simp; done) | (simp [*]; done)), H', ⟨by have := HJ6.out; have := HJ16.out; first | omega | exact Nat.le_refl _⟩, ⟨by repeat (first | (with_reducible first | exact HB.out | apply below_alloc | apply pw_below_drewN | apply below_drew1) | exact HB.out)⟩⟩
                    · rw [if_neg c29] at H
                      have c29b0 : decide (t182 < 1099511627776) = false := decide_eq_false c29
                      clear c29
                      have H' := Aside0.mk H
                      clear H
                      go_wp2
                      go_meet
                      case rel => exact ⟨_, (decide ((wrap64 (t182 - t171)) ≥ t172)), (by first | rfl | (simp; done) | (simp [*]; done)), H', ⟨by have := HJ6.out; have := HJ16.out; first | omega | exact Nat.le_refl _⟩, ⟨by repeat (first | (with_reducible first | exact HB.out | apply below_alloc | apply pw_below_drewN | apply below_drew1) | exact HB.out)⟩⟩
                  · rw [if_neg c28] at H
                    have c28b0 : decide (0 < t172) = false := decide_eq_false c28
                    clear c28
                    have H' := Aside0.mk H
                    clear H
                    go_wp2
                    go_meet
                    case rel => exact ⟨_, (false), (by first | rfl | (simp; done) | (simp [*]; done)), H', ⟨by have := HJ6.out; have := HJ16.out; first | omega | exact Nat.le_refl _⟩, ⟨by repeat (first | (with_reducible first | exact HB.out | apply below_alloc | apply pw_below_drewN | apply below_drew1) | exact HB.out)⟩⟩
              case rest =>
                clear HC26
                try clear c1
                try clear c2
                try clear p2
                try clear c3
                try clear c5
                try clear p6
                try clear c7
                try clear c9
                try clear c11
                try clear c11b0
                try clear c13
                try clear c13b0
                try clear c13b1
                try clear c15
                try clear c18
                try clear c18b0
                try clear c19
                try clear c20
                try clear c20b0
                try clear c21
                try clear c21b0
                try clear c23
                try clear c23b0
                try clear c24
                try clear c27
                try clear c27b0
                try clear c28
                try clear c28b0
                try clear c29
                try clear c29b0
                try clear c30
                try clear c30b0
                try clear c30b1
                try clear c31
                try clear c31b0
                try clear c31b1
                try clear p2
                try clear p6
                obtain ⟨kq, x96_25, rfl, HA, HJ25, HB⟩ := hcut
                cases kq with
                | zero => exact absurd HA.out (by simp [forebaylaw03_SatLaws.j2])
                | succ kj25 =>
                  have H := HA.out
                  clear HA
                  simp only [forebaylaw03_SatLaws.j2] at H
                  by_cases c32 : x96_25 = true
                  · subst c32
                    have H1 : (some false) = some r := by rw [if_pos rfl] at H; exact H
                    clear H
                    have H := H1
                    clear H1
                    obtain rfl := Option.some.inj H
                    go_wp2
                    go_ret
                    exact ⟨by first | rfl | (simp [errW_none, errW_some] <;> rfl) | (simp [*, errW_none, errW_some] <;> rfl), by repeat (first | (with_reducible first | exact HB.out | apply below_alloc | apply pw_below_drewN | apply below_drew1) | exact HB.out)⟩
                  · replace c32 := Bool.eq_false_iff.mpr c32
                    subst c32
                    have H1 : ((sat_Twice.f kj25 t171 (wrap64 (Int.tmod a2 30))).bind fun t183 => (if 0 ≤ (IntKind.u64.wrap (wrap64 (Int.tmod a2 30))) then ((sat_Mul.f t171 (shl .i64 1 (IntKind.u64.wrap (wrap64 (Int.tmod a2 30))))).bind fun t184 => (if t183 = t184 then ((sat_Mul.f t171 t172).bind fun t185 => ((sat_Mul.f t172 t171).bind fun t186 => (if t185 = t186 then ((forebaylaw03_head.f kj25).bind fun t187 => (some t187)) else (some false)))) else (some false))) else (none))) = some r := by rw [if_neg (show ¬ (false = true) by decide)] at H; exact H
                    clear H
                    have H := H1
                    clear H1
                    replace H := Option.bind_eq_some_iff.mp H
                    obtain ⟨t183, A330, H⟩ := H
                    replace H : (if 0 ≤ (IntKind.u64.wrap (wrap64 (Int.tmod a2 30))) then ((sat_Mul.f t171 (shl .i64 1 (IntKind.u64.wrap (wrap64 (Int.tmod a2 30))))).bind fun t184 => (if t183 = t184 then ((sat_Mul.f t171 t172).bind fun t185 => ((sat_Mul.f t172 t171).bind fun t186 => (if t185 = t186 then ((forebaylaw03_head.f kj25).bind fun t187 => (some t187)) else (some false)))) else (some false))) else (none)) = some r := H
                    have A33 := Aside0.mk A330
                    clear A330
                    obtain ⟨ji34, hji34⟩ : ∃ j_ : Int, (IntKind.u64.wrap (wrap64 (Int.tmod a2 30))) = j_ := ⟨_, rfl⟩
                    replace H : (if 0 ≤ (ji34) then ((sat_Mul.f t171 (shl .i64 1 (ji34))).bind fun t184 => (if t183 = t184 then ((sat_Mul.f t171 t172).bind fun t185 => ((sat_Mul.f t172 t171).bind fun t186 => (if t185 = t186 then ((forebaylaw03_head.f kj25).bind fun t187 => (some t187)) else (some false)))) else (some false))) else (none)) = some r := by first | (rw [hji34] at H; exact H) | (simp only [hji34] at H ⊢; exact H)
                    (try rw [hji34] at A33)
                    by_cases c35 : 0 ≤ (ji34)
                    · rw [if_pos c35] at H
                      have c35b0 := eq_true c35
                      have c35b1 : decide (0 ≤ (ji34)) = true := decide_eq_true c35
                      clear c35
                      obtain ⟨ji36, hji36⟩ : ∃ j_ : Int, (shl .i64 1 (ji34)) = j_ := ⟨_, rfl⟩
                      replace H : ((sat_Mul.f t171 (ji36)).bind fun t184 => (if t183 = t184 then ((sat_Mul.f t171 t172).bind fun t185 => ((sat_Mul.f t172 t171).bind fun t186 => (if t185 = t186 then ((forebaylaw03_head.f kj25).bind fun t187 => (some t187)) else (some false)))) else (some false))) = some r := by first | (rw [hji36] at H; exact H) | (simp only [hji36] at H ⊢; exact H)
                      (try rw [hji36] at A33)
                      have hji36_ : (IntKind.i64.wrap (1 * 2 ^ min (ji34).toNat 64)) = ji36 := hji36
                      have hji36z : (ji34) ≤ 64 → (IntKind.i64.wrap (1 * 2 ^ (ji34).toNat)) = ji36 := shl_small hji36
                      have hji36u : (IntKind.i64.wrap (2 ^ min (ji34).toNat 64)) = ji36 := by have h_ := hji36_; rw [Int.one_mul] at h_; exact h_
                      have hji36v : (ji34) ≤ 64 → (IntKind.i64.wrap (2 ^ (ji34).toNat)) = ji36 := fun hle_ => by have h_ := hji36z hle_; rw [Int.one_mul] at h_; exact h_
                      have hji36y : (wrap64 (1 * 2 ^ min (ji34).toNat 64)) = ji36 := (i64_w _).symm.trans hji36_
                      have hji36x : (ji34) ≤ 64 → (wrap64 (1 * 2 ^ (ji34).toNat)) = ji36 := fun h_ => (i64_w _).symm.trans (hji36z h_)
                      replace H := Option.bind_eq_some_iff.mp H
                      obtain ⟨t184, A370, H⟩ := H
                      replace H : (if t183 = t184 then ((sat_Mul.f t171 t172).bind fun t185 => ((sat_Mul.f t172 t171).bind fun t186 => (if t185 = t186 then ((forebaylaw03_head.f kj25).bind fun t187 => (some t187)) else (some false)))) else (some false)) = some r := H
                      have A37 := Aside0.mk A370
                      clear A370
                      by_cases c38 : t183 = t184
                      · rw [if_pos c38] at H
                        have c38b0 : (t183 == t184) = true := beq_iff_eq.mpr c38
                        have c38b1 : (t183 != t184) = false := bne_eq_false_iff_eq.mpr c38
                        clear c38
                        replace H := Option.bind_eq_some_iff.mp H
                        obtain ⟨t185, A390, H⟩ := H
                        replace H : ((sat_Mul.f t172 t171).bind fun t186 => (if t185 = t186 then ((forebaylaw03_head.f kj25).bind fun t187 => (some t187)) else (some false))) = some r := H
                        have A39 := Aside0.mk A390
                        clear A390
                        replace H := Option.bind_eq_some_iff.mp H
                        obtain ⟨t186, A400, H⟩ := H
                        replace H : (if t185 = t186 then ((forebaylaw03_head.f kj25).bind fun t187 => (some t187)) else (some false)) = some r := H
                        have A40 := Aside0.mk A400
                        clear A400
                        by_cases c41 : t185 = t186
                        · rw [if_pos c41] at H
                          have c41b0 : (t185 == t186) = true := beq_iff_eq.mpr c41
                          have c41b1 : (t185 != t186) = false := bne_eq_false_iff_eq.mpr c41
                          clear c41
                          replace H := Option.bind_eq_some_iff.mp H
                          obtain ⟨t187, A420, H⟩ := H
                          replace H : (some t187) = some r := H
                          have A42 := Aside0.mk A420
                          clear A420
                          obtain rfl := Option.some.inj H
                          go_wp2_with (first | ((with_reducible refine gate_callee (f := 17) rfl ?_); refine goesL_ (some 102) rfl rfl Try.func17 (by kernel_rfl) rfl #[.int .i64 t171, .int .i64 (wrap64 (Int.tmod a2 30))] rfl (by (try simp only [List.map_toArray, List.map_cons, List.map_nil]); first | done | rfl | (simp only [List.length_drop, List.length_take]; rfl)) ?_; (with_reducible refine (sat_Twice.calls kj25 t171 (wrap64 (Int.tmod a2 30)) t183 _ A33.out).mono ?_); rintro e w43 ⟨rfl, hb⟩; refine ⟨_, rfl, ?_⟩; have n0_ := Aside0.mk (below_step (by repeat (first | (with_reducible first | exact HB.out | apply below_alloc | apply pw_below_drewN | apply below_drew1) | exact HB.out)) hb); clear HB; have HB := n0_; clear n0_; (try clear hb); (try clear hb2); (try clear hk); (try clear hi)) | ((with_reducible refine gate_callee (f := 13) rfl ?_); refine goesL_ (some 107) rfl rfl Try.func13 (by kernel_rfl) rfl #[.int .i64 t171, .int .i64 ji36] rfl (by (try simp only [List.map_toArray, List.map_cons, List.map_nil]); first | done | (simp only [hji36]; rfl) | rfl | (simp only [List.length_drop, List.length_take]; rfl)) ?_; (with_reducible refine (sat_Mul.calls t171 ji36 t184 _ A37.out).mono ?_); rintro e w' ⟨rfl, ⟨nd, rfl⟩⟩; refine ⟨_, rfl, ?_⟩) | (go_at_call 13; (with_reducible refine (sat_Mul.calls t171 t172 t185 _ A39.out).mono ?_); rintro e w' ⟨rfl, ⟨nd, rfl⟩⟩) | (go_at_call 13; (with_reducible refine (sat_Mul.calls t172 t171 t186 _ A40.out).mono ?_); rintro e w' ⟨rfl, ⟨nd, rfl⟩⟩) | (go_at_call 21; (with_reducible refine (forebaylaw03_head.calls kj25  t187 _ A42.out).mono ?_); rintro e w44 ⟨rfl, hb⟩; have n0_ := Aside0.mk (below_step (by repeat (first | (with_reducible first | exact HB.out | apply below_alloc | apply pw_below_drewN | apply below_drew1) | exact HB.out)) hb); clear HB; have HB := n0_; clear n0_; (try clear hb); (try clear hb2); (try clear hk); (try clear hi)))
                          go_ret
                          exact ⟨by first | rfl | (simp [errW_none, errW_some] <;> rfl) | (simp only [← hji34, ← hji36]; first | rfl | (simp [errW_none, errW_some] <;> rfl)) | (simp [*, errW_none, errW_some] <;> rfl), by repeat (first | (with_reducible first | exact HB.out | apply below_alloc | apply pw_below_drewN | apply below_drew1) | exact HB.out)⟩
                        · rw [if_neg c41] at H
                          have c41b0 : (t185 == t186) = false := beq_eq_false_iff_ne.mpr c41
                          have c41b1 : (t185 != t186) = true := bne_iff_ne.mpr c41
                          obtain rfl := Option.some.inj H
                          go_wp2_with (first | ((with_reducible refine gate_callee (f := 17) rfl ?_); refine goesL_ (some 102) rfl rfl Try.func17 (by kernel_rfl) rfl #[.int .i64 t171, .int .i64 (wrap64 (Int.tmod a2 30))] rfl (by (try simp only [List.map_toArray, List.map_cons, List.map_nil]); first | done | rfl | (simp only [List.length_drop, List.length_take]; rfl)) ?_; (with_reducible refine (sat_Twice.calls kj25 t171 (wrap64 (Int.tmod a2 30)) t183 _ A33.out).mono ?_); rintro e w45 ⟨rfl, hb⟩; refine ⟨_, rfl, ?_⟩; have n0_ := Aside0.mk (below_step (by repeat (first | (with_reducible first | exact HB.out | apply below_alloc | apply pw_below_drewN | apply below_drew1) | exact HB.out)) hb); clear HB; have HB := n0_; clear n0_; (try clear hb); (try clear hb2); (try clear hk); (try clear hi)) | ((with_reducible refine gate_callee (f := 13) rfl ?_); refine goesL_ (some 107) rfl rfl Try.func13 (by kernel_rfl) rfl #[.int .i64 t171, .int .i64 ji36] rfl (by (try simp only [List.map_toArray, List.map_cons, List.map_nil]); first | done | (simp only [hji36]; rfl) | rfl | (simp only [List.length_drop, List.length_take]; rfl)) ?_; (with_reducible refine (sat_Mul.calls t171 ji36 t184 _ A37.out).mono ?_); rintro e w' ⟨rfl, ⟨nd, rfl⟩⟩; refine ⟨_, rfl, ?_⟩) | (go_at_call 13; (with_reducible refine (sat_Mul.calls t171 t172 t185 _ A39.out).mono ?_); rintro e w' ⟨rfl, ⟨nd, rfl⟩⟩) | (go_at_call 13; (with_reducible refine (sat_Mul.calls t172 t171 t186 _ A40.out).mono ?_); rintro e w' ⟨rfl, ⟨nd, rfl⟩⟩))
                          go_ret
                          exact ⟨by first | rfl | (simp [errW_none, errW_some] <;> rfl) | (simp only [← hji34, ← hji36]; first | rfl | (simp [errW_none, errW_some] <;> rfl)) | (simp [*, errW_none, errW_some] <;> rfl), by repeat (first | (with_reducible first | exact HB.out | apply below_alloc | apply pw_below_drewN | apply below_drew1) | exact HB.out)⟩
                      · rw [if_neg c38] at H
                        have c38b0 : (t183 == t184) = false := beq_eq_false_iff_ne.mpr c38
                        have c38b1 : (t183 != t184) = true := bne_iff_ne.mpr c38
                        obtain rfl := Option.some.inj H
                        go_wp2_with (first | ((with_reducible refine gate_callee (f := 17) rfl ?_); refine goesL_ (some 102) rfl rfl Try.func17 (by kernel_rfl) rfl #[.int .i64 t171, .int .i64 (wrap64 (Int.tmod a2 30))] rfl (by (try simp only [List.map_toArray, List.map_cons, List.map_nil]); first | done | rfl | (simp only [List.length_drop, List.length_take]; rfl)) ?_; (with_reducible refine (sat_Twice.calls kj25 t171 (wrap64 (Int.tmod a2 30)) t183 _ A33.out).mono ?_); rintro e w46 ⟨rfl, hb⟩; refine ⟨_, rfl, ?_⟩; have n0_ := Aside0.mk (below_step (by repeat (first | (with_reducible first | exact HB.out | apply below_alloc | apply pw_below_drewN | apply below_drew1) | exact HB.out)) hb); clear HB; have HB := n0_; clear n0_; (try clear hb); (try clear hb2); (try clear hk); (try clear hi)) | ((with_reducible refine gate_callee (f := 13) rfl ?_); refine goesL_ (some 107) rfl rfl Try.func13 (by kernel_rfl) rfl #[.int .i64 t171, .int .i64 ji36] rfl (by (try simp only [List.map_toArray, List.map_cons, List.map_nil]); first | done | (simp only [hji36]; rfl) | rfl | (simp only [List.length_drop, List.length_take]; rfl)) ?_; (with_reducible refine (sat_Mul.calls t171 ji36 t184 _ A37.out).mono ?_); rintro e w' ⟨rfl, ⟨nd, rfl⟩⟩; refine ⟨_, rfl, ?_⟩))
                        go_ret
                        exact ⟨by first | rfl | (simp [errW_none, errW_some] <;> rfl) | (simp only [← hji34, ← hji36]; first | rfl | (simp [errW_none, errW_some] <;> rfl)) | (simp [*, errW_none, errW_some] <;> rfl), by repeat (first | (with_reducible first | exact HB.out | apply below_alloc | apply pw_below_drewN | apply below_drew1) | exact HB.out)⟩
                    · rw [if_neg c35] at H
                      exact absurd H (by simp)

/-- THE ONE PURE STATEMENT of forebaylaw03_SatLaws: yours. -/
def forebaylaw03_SatLaws.Pure : Prop := ∀ (a0 : Int) (a1 : Int) (a2 : Int), (Lit.int .i64 a0).wf = true → (Lit.int .i64 a1).wf = true → (Lit.int .u8 a2).wf = true → ∃ k, forebaylaw03_SatLaws.f k a0 a1 a2 = some true
theorem forebaylaw03_SatLaws.walk (P : forebaylaw03_SatLaws.Pure) (a0 : Int) (a1 : Int) (a2 : Int) (w : World) (w0 : (Lit.int .i64 a0).wf = true) (w1 : (Lit.int .i64 a1).wf = true) (w2 : (Lit.int .u8 a2).wf = true) :
    Calls Try.prog 5 #[.int .i64 a0, .int .i64 a1, .int .u8 a2] w fun e w' => e = .returned (.bool true) ∧ Below w.heap.size w w' := by
  obtain ⟨k, h⟩ := P a0 a1 a2 w0 w1 w2
  refine (forebaylaw03_SatLaws.calls k a0 a1 a2 true w h).mono ?_
  rintro e w' ⟨rfl, hd⟩
  exact ⟨rfl, hd⟩

end Go.Proofs.Ytnbfnhddjekhlaa.P
