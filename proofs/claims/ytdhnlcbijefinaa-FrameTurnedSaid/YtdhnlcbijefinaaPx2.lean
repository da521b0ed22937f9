-- Written by this session's program gprint.py: functions of the program as plain functions, and that the machine does what they say. Not trusted: Lean checks it.
import Derived.Test.YtdhnlcbijefinaaPx0
import Derived.Test.YtdhnlcbijefinaaPx1
namespace Go.Proofs.Ytdhnlcbijefinaa.P
open Go.RowKit Go.Proofs.YtdhnlcbijefinaaW.PrintWords Go.Proofs.YtdhnlcbijefinaaW.PrintLast Go.Proofs.YtdhnlcbijefinaaW.PrintMore
attribute [local go_sem] max2_int min2_int max_two min_two max_three min_three max_four min_four   -- for this text's walks alone
set_option linter.unusedVariables false
set_option linter.unusedSimpArgs false

/-! ### frame_Cost: function 10 -/
def frame_Cost.f (a0 : Int) : Option Int := if 0 ≤ a0 ∧ a0 ≤ 9223372036854775000 then some (a0 + 20) else if a0 < 0 then some 20 else none
theorem frame_Cost.calls (a0 : Int) (r : Int) (w : World) (h : frame_Cost.f a0 = some r) :
    Calls Try.prog 10 #[.int .i64 a0] w fun e w' => e = .returned (.int .i64 r) ∧ ∃ nd, w' = w.drewN nd := by
  unfold frame_Cost.f at h
  by_cases h0 : 0 ≤ a0 ∧ a0 ≤ 9223372036854775000
  · rw [if_pos h0] at h
    obtain rfl := Option.some.inj h
    obtain ⟨h1, h2⟩ := h0
    have e1 : (if 0 ≤ a0 then a0 else 0) = a0 := if_pos h1
    have e2 : (if a0 < 0 then 0 else a0) = a0 := if_neg (by omega)
    go_enter Try.func10, Try.ntmps10
    go_wp2
    go_ret
    exact ⟨by rw [show a0 + 20 = 12 + a0 + 8 by omega]; rfl, 0, rfl⟩
  · rw [if_neg h0] at h
    by_cases h1 : a0 < 0
    case neg => rw [if_neg h1] at h; cases h
    rw [if_pos h1] at h
    obtain rfl := Option.some.inj h
    go_enter Try.func10, Try.ntmps10
    go_wp2
    go_ret
    exact ⟨rfl, 0, rfl⟩

/-! ### seal_Open: function 22 -/
def seal_Open.f (a0 : ByteArray) : Option (ByteArray × Bool) := if (wrap64 ((a0.size : Int) - 8)) < 0 then (some ((⟨#[]⟩ : ByteArray), false)) else (if 0 ≤ (wrap64 ((a0.size : Int) - 8)) then (if (wrap64 ((a0.size : Int) - 8)) ≤ (a0.size : Int) then ((seal_Seal.f (a0.extract 0 ((wrap64 ((a0.size : Int) - 8)) : Int).toNat)).bind fun t105 => (if t105.toList = a0.toList then (some (a0.extract 0 ((wrap64 ((a0.size : Int) - 8)) : Int).toNat, true)) else (some ((⟨#[]⟩ : ByteArray), false)))) else (none)) else (none))
set_option maxHeartbeats 8000000 in
set_option maxRecDepth 100000 in
theorem seal_Open.calls (a0 : ByteArray) (r1 : ByteArray) (r2 : Bool) (w : World) (h : seal_Open.f a0 = some (r1, r2)) :
    Calls Try.prog 22 #[.string a0] w fun e w' => e = .returned (.tuple #[.string r1, .bool r2]) ∧ Below w.heap.size w w' := by
  have HB := Aside0.mk (Below.refl w.heap.size w)
  have H : (if (wrap64 ((a0.size : Int) - 8)) < 0 then (some ((⟨#[]⟩ : ByteArray), false)) else (if 0 ≤ (wrap64 ((a0.size : Int) - 8)) then (if (wrap64 ((a0.size : Int) - 8)) ≤ (a0.size : Int) then ((seal_Seal.f (a0.extract 0 ((wrap64 ((a0.size : Int) - 8)) : Int).toNat)).bind fun t105 => (if t105.toList = a0.toList then (some (a0.extract 0 ((wrap64 ((a0.size : Int) - 8)) : Int).toNat, true)) else (some ((⟨#[]⟩ : ByteArray), false)))) else (none)) else (none))) = some (r1, r2) := h
  clear h
  by_cases c2 : (wrap64 ((a0.size : Int) - 8)) < 0
  · rw [if_pos c2] at H
    have c2b0 : decide ((wrap64 ((a0.size : Int) - 8)) < 0) = true := decide_eq_true c2
    clear c2
    simp only [Option.some.injEq, Prod.mk.injEq] at H
    obtain ⟨rfl, rfl⟩ := H
    go_enter Try.func22, Try.ntmps22
    go_wp2
    go_ret2
    exact ⟨by first | rfl | (simp [errW_none, errW_some] <;> rfl) | (simp [*, errW_none, errW_some] <;> rfl), by repeat (first | (with_reducible first | exact HB.out | apply below_alloc | apply pw_below_drewN | apply below_drew1) | exact HB.out)⟩
  · rw [if_neg c2] at H
    have c2b0 : decide ((wrap64 ((a0.size : Int) - 8)) < 0) = false := decide_eq_false c2
    clear c2
    obtain ⟨ji3, hji3⟩ : ∃ j_ : Int, (wrap64 ((a0.size : Int) - 8)) = j_ := ⟨_, rfl⟩
    replace H : (if 0 ≤ (ji3) then (if (ji3) ≤ (a0.size : Int) then ((seal_Seal.f (a0.extract 0 ((ji3) : Int).toNat)).bind fun t105 => (if t105.toList = a0.toList then (some (a0.extract 0 ((ji3) : Int).toNat, true)) else (some ((⟨#[]⟩ : ByteArray), false)))) else (none)) else (none)) = some (r1, r2) := by first | (rw [hji3] at H; exact H) | (simp only [hji3] at H ⊢; exact H)
    (try rw [hji3] at c2b0)
    have hji3w : (IntKind.i64.wrap ((a0.size : Int) - 8)) = ji3 := (i64_w _).trans hji3
    by_cases c4 : 0 ≤ (ji3)
    · rw [if_pos c4] at H
      have c4b0 := eq_true c4
      have c4b1 : decide (0 ≤ (ji3)) = true := decide_eq_true c4
      clear c4
      by_cases c5 : (ji3) ≤ (a0.size : Int)
      · rw [if_pos c5] at H
        have c5b0 := eq_true c5
        have c5b1 : decide ((ji3) ≤ (a0.size : Int)) = true := decide_eq_true c5
        clear c5
        replace H := Option.bind_eq_some_iff.mp H
        obtain ⟨t105, A60, H⟩ := H
        replace H : (if t105.toList = a0.toList then (some (a0.extract 0 ((ji3) : Int).toNat, true)) else (some ((⟨#[]⟩ : ByteArray), false))) = some (r1, r2) := H
        have A6 := Aside0.mk A60
        clear A60
        by_cases c7 : t105.toList = a0.toList
        · rw [if_pos c7] at H
          have c7b0 : (t105.toList == a0.toList) = true := beq_iff_eq.mpr c7
          have c7b1 : (t105.toList != a0.toList) = false := bne_eq_false_iff_eq.mpr c7
          clear c7
          have c8b0 := eq_true (of_decide_eq_true (by first | (with_reducible assumption) | assumption) : 0 ≤ (ji3))
          have c9b0 := eq_true (of_decide_eq_true (by first | (with_reducible assumption) | assumption) : (ji3) ≤ (a0.size : Int))
          simp only [Option.some.injEq, Prod.mk.injEq] at H
          obtain ⟨rfl, rfl⟩ := H
          go_enter Try.func22, Try.ntmps22
          go_wp2_with (first | (go_at_call 15; (with_reducible refine (seal_Seal.calls (a0.extract 0 ((ji3) : Int).toNat) t105 _ A6.out).mono ?_); rintro e w10 ⟨rfl, hb⟩; have n0_ := Aside0.mk (below_step (by repeat (first | (with_reducible first | exact HB.out | apply below_alloc | apply pw_below_drewN | apply below_drew1) | exact HB.out)) hb); clear HB; have HB := n0_; clear n0_; (try clear hb); (try clear hb2); (try clear hk); (try clear hi)))
          go_ret2
          exact ⟨by first | rfl | (simp [errW_none, errW_some] <;> rfl) | (simp only [← hji3]; first | rfl | (simp [errW_none, errW_some] <;> rfl)) | (simp [*, errW_none, errW_some] <;> rfl), by repeat (first | (with_reducible first | exact HB.out | apply below_alloc | apply pw_below_drewN | apply below_drew1) | exact HB.out)⟩
        · rw [if_neg c7] at H
          have c7b0 : (t105.toList == a0.toList) = false := beq_eq_false_iff_ne.mpr c7
          have c7b1 : (t105.toList != a0.toList) = true := bne_iff_ne.mpr c7
          simp only [Option.some.injEq, Prod.mk.injEq] at H
          obtain ⟨rfl, rfl⟩ := H
          go_enter Try.func22, Try.ntmps22
          go_wp2_with (first | (go_at_call 15; (with_reducible refine (seal_Seal.calls (a0.extract 0 ((ji3) : Int).toNat) t105 _ A6.out).mono ?_); rintro e w11 ⟨rfl, hb⟩; have n0_ := Aside0.mk (below_step (by repeat (first | (with_reducible first | exact HB.out | apply below_alloc | apply pw_below_drewN | apply below_drew1) | exact HB.out)) hb); clear HB; have HB := n0_; clear n0_; (try clear hb); (try clear hb2); (try clear hk); (try clear hi)))
          go_ret2
          exact ⟨by first | rfl | (simp [errW_none, errW_some] <;> rfl) | (simp only [← hji3]; first | rfl | (simp [errW_none, errW_some] <;> rfl)) | (simp [*, errW_none, errW_some] <;> rfl), by repeat (first | (with_reducible first | exact HB.out | apply below_alloc | apply pw_below_drewN | apply below_drew1) | exact HB.out)⟩
      · rw [if_neg c5] at H
        exact absurd H (by simp)
    · rw [if_neg c4] at H
      exact absurd H (by simp)

/-! ### frame_size: function 21 -/
def frame_size.l0 : Nat → ByteArray → Int → Int → Int → Option (Int × Bool)
  | 0, _, _, _, _ => none
  | k + 1, x4, x6, x20, x21 => if x21 < x20 then (if 0 ≤ x21 then (if x21 < (x4.size : Int) then (if 0 ≤ (wrap64 (8 * x21)) then (frame_size.l0 k x4 (Go.bits .or .i64 x6 (shl .i64 (wrap64 (bt x4 x21)) (wrap64 (8 * x21)))) x20 (wrap64 (x21 + 1))) else (none)) else (none)) else (none)) else (some (x6, decide (x6 ≤ 262144)))
def frame_size.f (k : Nat) (a0 : ByteArray) : Option (Int × Bool) := if (a0.size : Int) < 12 then (some (0, false)) else (if 0 ≤ 12 then (if 12 ≤ (a0.size : Int) then ((seal_Open.f (a0.extract 0 12)).bind fun bt106 => (if bt106.2 = true then (frame_size.l0 k bt106.1 0 (bt106.1.size : Int) 0) else (some (0, false)))) else (none)) else (none))
theorem frame_size.mono_l : ∀ k, (∀ y0 y1 y2 y3, LeO (frame_size.l0 k y0 y1 y2 y3) (frame_size.l0 (k + 1) y0 y1 y2 y3))
  | 0 => fun _ _ _ _ r h => by simp [frame_size.l0] at h
  | k + 1 => by
    have ih0 := frame_size.mono_l k
    · intro y0 y1 y2 y3
      unfold frame_size.l0
      repeat' first
      | (with_reducible exact ih0 _ _ _ _)
      | (with_reducible exact LeO.refl _)
      | (with_reducible exact LeO.none _)
      | (with_reducible refine LeO.ite ?_ ?_)
      | (with_reducible refine LeO.bind ?_ (fun _ => ?_))
      | exact ih0 _ _ _ _
      | exact LeO.none _
      | refine LeO.ite ?_ ?_
      | refine LeO.bind ?_ (fun _ => ?_)
theorem frame_size.mono : ∀ a0 k, LeO (frame_size.f k a0) (frame_size.f (k + 1) a0) := by
  intro a0 k
  have ih0 := frame_size.mono_l k
  unfold frame_size.f
  repeat' first
      | (with_reducible exact ih0 _ _ _ _)
      | (with_reducible exact LeO.refl _)
      | (with_reducible exact LeO.none _)
      | (with_reducible refine LeO.ite ?_ ?_)
      | (with_reducible refine LeO.bind ?_ (fun _ => ?_))
      | exact ih0 _ _ _ _
      | exact LeO.none _
      | refine LeO.ite ?_ ?_
      | refine LeO.bind ?_ (fun _ => ?_)
set_option maxHeartbeats 8000000 in
set_option maxRecDepth 100000 in
theorem frame_size.calls (k : Nat) (a0 : ByteArray) (r1 : Int) (r2 : Bool) (w : World) (h : frame_size.f k a0 = some (r1, r2)) :
    Calls Try.prog 21 #[.string a0] w fun e w' => e = .returned (.tuple #[.int .i64 r1, .bool r2]) ∧ Below w.heap.size w w' := by
  have HB := Aside0.mk (Below.refl w.heap.size w)
  have H : (if (a0.size : Int) < 12 then (some (0, false)) else (if 0 ≤ 12 then (if 12 ≤ (a0.size : Int) then ((seal_Open.f (a0.extract 0 12)).bind fun bt106 => (if bt106.2 = true then (frame_size.l0 k bt106.1 0 (bt106.1.size : Int) 0) else (some (0, false)))) else (none)) else (none))) = some (r1, r2) := h
  clear h
  by_cases c2 : (a0.size : Int) < 12
  · rw [if_pos c2] at H
    have c2b0 : decide ((a0.size : Int) < 12) = true := decide_eq_true c2
    have c2b1 : decide (a0.size < 12) = true := decide_eq_true (by omega)
    clear c2
    simp only [Option.some.injEq, Prod.mk.injEq] at H
    obtain ⟨rfl, rfl⟩ := H
    go_enter Try.func21, Try.ntmps21
    go_wp2
    go_ret2
    exact ⟨by first | rfl | (simp [errW_none, errW_some] <;> rfl) | (simp [*, errW_none, errW_some] <;> rfl), by repeat (first | (with_reducible first | exact HB.out | apply below_alloc | apply pw_below_drewN | apply below_drew1) | exact HB.out)⟩
  · rw [if_neg c2] at H
    have c2b0 : decide ((a0.size : Int) < 12) = false := decide_eq_false c2
    have c2b1 : decide (a0.size < 12) = false := decide_eq_false (by omega)
    clear c2
    by_cases c3 : 0 ≤ 12
    · rw [if_pos c3] at H
      have c3b0 := eq_true c3
      have c3b1 : decide (0 ≤ 12) = true := decide_eq_true c3
      clear c3
      by_cases c4 : 12 ≤ (a0.size : Int)
      · rw [if_pos c4] at H
        have c4b0 := eq_true c4
        have c4b1 : decide (12 ≤ (a0.size : Int)) = true := decide_eq_true c4
        clear c4
        replace H := Option.bind_eq_some_iff.mp H
        obtain ⟨⟨t106, t107⟩, A50, H⟩ := H
        replace H : (if t107 = true then (frame_size.l0 k t106 0 (t106.size : Int) 0) else (some (0, false))) = some (r1, r2) := H
        have A5 := Aside0.mk A50
        clear A50
        by_cases c6 : t107 = true
        · subst c6
          have H1 : (frame_size.l0 k t106 0 (t106.size : Int) 0) = some (r1, r2) := by rw [if_pos rfl] at H; exact H
          clear H
          have H := H1
          clear H1
          have H' := Aside0.mk H
          clear H
          go_enter Try.func21, Try.ntmps21
          go_wp2_with (first | ((with_reducible refine gate_callee (f := 22) rfl ?_); refine goesL_ (some 14) rfl rfl Try.func22 (by kernel_rfl) rfl #[.string (a0.extract 0 12)] rfl (by (try simp only [List.map_toArray, List.map_cons, List.map_nil]); first | done | rfl | (simp only [List.length_drop, List.length_take]; rfl)) ?_; (with_reducible refine (seal_Open.calls (a0.extract 0 12) t106 true _ A5.out).mono ?_); rintro e w7 ⟨rfl, hb⟩; refine ⟨_, rfl, ?_⟩; have n0_ := Aside0.mk (below_step (by repeat (first | (with_reducible first | exact HB.out | apply below_alloc | apply pw_below_drewN | apply below_drew1) | exact HB.out)) hb); clear HB; have HB := n0_; clear n0_; (try clear hb); (try clear hb2); (try clear hk); (try clear hi)))
          go_loopg [6, 21] k (fun kq v6 v21 w' => ∃ (x6_1 : Int) (x21_1 : Int), v6 = .int .i64 x6_1 ∧ v21 = .int .i64 x21_1 ∧ Aside0 (frame_size.l0 kq t106 x6_1 (t106.size : Int) x21_1 = some (r1, r2)) ∧ Aside0 (kq ≤ k) ∧ Aside0 (Below w.heap.size w w'))
          case atStart => exact ⟨(0), (0), (by first | rfl | (simp; done) | (simp [*]; done) | (simp; exact isEmpty_bne _)), (by first | rfl | (simp; done) | (simp [*]; done) | (simp; exact isEmpty_bne _)), H', ⟨Nat.le_refl _⟩, ⟨by repeat (first | (with_reducible first | exact HB.out | apply below_alloc | apply pw_below_drewN | apply below_drew1) | exact HB.out)⟩⟩
          case round =>
            clear H'
            try clear c2
            try clear c2b0
            try clear c2b1
            try clear p2
            try clear c3
            try clear c3b0
            try clear c3b1
            try clear c4
            try clear c4b0
            try clear c4b1
            try clear c6
            obtain ⟨x6_1, x21_1, rfl, rfl, HA, HK1, HB⟩ := hrel
            cases gk with
            | zero => exact absurd HA.out (by simp [frame_size.l0])
            | succ k1 =>
              have H := HA.out
              clear HA
              simp only [frame_size.l0] at H
              by_cases c8 : x21_1 < (t106.size : Int)
              · rw [if_pos c8] at H
                have c8b0 : decide (x21_1 < (t106.size : Int)) = true := decide_eq_true c8
                clear c8
                by_cases c9 : 0 ≤ x21_1
                · rw [if_pos c9] at H
                  have c9b0 : decide (0 ≤ x21_1) = true := decide_eq_true c9
                  clear c9
                  by_cases c10 : x21_1 < (t106.size : Int)
                  · rw [if_pos c10] at H
                    have c10b0 : decide (x21_1 < (t106.size : Int)) = true := decide_eq_true c10
                    clear c10
                    obtain ⟨ji12, hji12⟩ : ∃ j_ : Int, (wrap64 (8 * x21_1)) = j_ := ⟨_, rfl⟩
                    replace H : (if 0 ≤ (ji12) then (frame_size.l0 k1 t106 (Go.bits .or .i64 x6_1 (shl .i64 (wrap64 (bt t106 x21_1)) (ji12))) (t106.size : Int) (wrap64 (x21_1 + 1))) else (none)) = some (r1, r2) := by first | (rw [hji12] at H; exact H) | (simp only [hji12] at H ⊢; exact H)
                    have hji12w : (IntKind.i64.wrap (8 * x21_1)) = ji12 := (i64_w _).trans hji12
                    by_cases c13 : 0 ≤ (ji12)
                    · rw [if_pos c13] at H
                      have c13b0 := eq_true c13
                      have c13b1 : decide (0 ≤ (ji12)) = true := decide_eq_true c13
                      clear c13
                      obtain ⟨ji14, hji14⟩ : ∃ j_ : Int, (shl .i64 (wrap64 (bt t106 x21_1)) (ji12)) = j_ := ⟨_, rfl⟩
                      replace H : (frame_size.l0 k1 t106 (Go.bits .or .i64 x6_1 (ji14)) (t106.size : Int) (wrap64 (x21_1 + 1))) = some (r1, r2) := by first | (rw [hji14] at H; exact H) | (simp only [hji14] at H ⊢; exact H)
                      have hji14_ : (IntKind.i64.wrap ((wrap64 (bt t106 x21_1)) * 2 ^ min (ji12).toNat 64)) = ji14 := hji14
                      have hji14z : (ji12) ≤ 64 → (IntKind.i64.wrap ((wrap64 (bt t106 x21_1)) * 2 ^ (ji12).toNat)) = ji14 := shl_small hji14
                      have hji14y : (wrap64 ((wrap64 (bt t106 x21_1)) * 2 ^ min (ji12).toNat 64)) = ji14 := (i64_w _).symm.trans hji14_
                      have hji14x : (ji12) ≤ 64 → (wrap64 ((wrap64 (bt t106 x21_1)) * 2 ^ (ji12).toNat)) = ji14 := fun h_ => (i64_w _).symm.trans (hji14z h_)
                      have H' := Aside0.mk H
                      clear H
                      have p11 : 0 ≤ (x21_1 : Int) := of_decide_eq_true (by first | (with_reducible assumption) | assumption)
                      have q11 : x21_1 < (t106.size : Int) := of_decide_eq_true (by first | (with_reducible assumption) | assumption)
                      have hx11 := bt_at t106 x21_1
                      replace p11 := eq_true p11
                      replace q11 := eq_true q11
                      go_wp2
                      go_roundg k1
                      case measure => have := HK1.out; omega
                      case rel => exact ⟨(Go.bits .or .i64 x6_1 (ji14)), (wrap64 (x21_1 + 1)), (by first | rfl | (simp; done) | (simp only [← hji14] <;> (first | rfl | simp)) | (simp [*]; done) | (simp; exact isEmpty_bne _)), (by first | rfl | (simp; done) | (simp [*]; done) | (simp; exact isEmpty_bne _)), H', ⟨by have := HK1.out; omega⟩, ⟨by repeat (first | (with_reducible first | exact HB.out | apply below_alloc | apply pw_below_drewN | apply below_drew1) | exact HB.out)⟩⟩
                    · rw [if_neg c13] at H
                      exact absurd H (by simp)
                  · rw [if_neg c10] at H
                    exact absurd H (by simp)
                · rw [if_neg c9] at H
                  exact absurd H (by simp)
              · rw [if_neg c8] at H
                have c8b0 : decide (x21_1 < (t106.size : Int)) = false := decide_eq_false c8
                clear c8
                simp only [Option.some.injEq, Prod.mk.injEq] at H
                obtain ⟨rfl, rfl⟩ := H
                go_wp2
                go_ret2
                exact ⟨by first | rfl | (simp [errW_none, errW_some] <;> rfl) | (simp [*, errW_none, errW_some] <;> rfl), by repeat (first | (with_reducible first | exact HB.out | apply below_alloc | apply pw_below_drewN | apply below_drew1) | exact HB.out)⟩
        · replace c6 := Bool.eq_false_iff.mpr c6
          subst c6
          have H1 : (some (0, false)) = some (r1, r2) := by rw [if_neg (show ¬ (false = true) by decide)] at H; exact H
          clear H
          have H := H1
          clear H1
          simp only [Option.some.injEq, Prod.mk.injEq] at H
          obtain ⟨rfl, rfl⟩ := H
          go_enter Try.func21, Try.ntmps21
          go_wp2_with (first | ((with_reducible refine gate_callee (f := 22) rfl ?_); refine goesL_ (some 14) rfl rfl Try.func22 (by kernel_rfl) rfl #[.string (a0.extract 0 12)] rfl (by (try simp only [List.map_toArray, List.map_cons, List.map_nil]); first | done | rfl | (simp only [List.length_drop, List.length_take]; rfl)) ?_; (with_reducible refine (seal_Open.calls (a0.extract 0 12) t106 false _ A5.out).mono ?_); rintro e w15 ⟨rfl, hb⟩; refine ⟨_, rfl, ?_⟩; have n0_ := Aside0.mk (below_step (by repeat (first | (with_reducible first | exact HB.out | apply below_alloc | apply pw_below_drewN | apply below_drew1) | exact HB.out)) hb); clear HB; have HB := n0_; clear n0_; (try clear hb); (try clear hb2); (try clear hk); (try clear hi)))
          go_ret2
          exact ⟨by first | rfl | (simp [errW_none, errW_some] <;> rfl) | (simp [*, errW_none, errW_some] <;> rfl), by repeat (first | (with_reducible first | exact HB.out | apply below_alloc | apply pw_below_drewN | apply below_drew1) | exact HB.out)⟩
      · rw [if_neg c4] at H
        exact absurd H (by simp)
    · rw [if_neg c3] at H
      exact absurd H (by simp)

/-! ### frame_Scan: function 11 -/
/-- The number that four bytes tell. -/
def numT (b : ByteArray) : Int := bt b 0 + 256 * bt b 1 + 65536 * bt b 2 + 16777216 * bt b 3
def sizeT (b : ByteArray) : Int × Bool := if b.size < 12 then (0, false) else if sealT (b.extract 0 4) = b.extract 0 12 then (numT b, decide (numT b ≤ 262144)) else (0, false)
theorem or_low (x y : Int) (n : Nat) (hn : n ≤ 24) (hx0 : 0 ≤ x) (hx : x < 2 ^ n) (hy0 : 0 ≤ y) (hy : y ≤ 255) : Go.bits .or .i64 x (shl .i64 y n) = x + 2 ^ n * y := by
  obtain ⟨X, rfl⟩ := Int.eq_ofNat_of_zero_le hx0
  obtain ⟨Y, rfl⟩ := Int.eq_ofNat_of_zero_le hy0
  have hX : X < 2 ^ n := by exact_mod_cast hx
  have hp : (2 : Nat) ^ n ≤ 2 ^ 24 := Nat.pow_le_pow_right (by decide) hn
  have hY : Y ≤ 255 := by omega
  have hb : 2 ^ n * Y ≤ 2 ^ 24 * 255 := Nat.mul_le_mul hp hY
  have e1 : shl .i64 (Y : Int) n = ((2 ^ n * Y : Nat) : Int) := by
    unfold shl
    rw [show min (n : Int).toNat IntKind.i64.bits = n by simp [IntKind.bits]; omega]
    rw [Nat.mul_comm, Int.natCast_mul, Int.natCast_pow]
    have h2 : ((Y : Int) * ((2 : Nat) : Int) ^ n) = ((Y * 2 ^ n : Nat) : Int) := by rw [Int.natCast_mul, Int.natCast_pow]
    rw [h2]
    have h3 : Y * 2 ^ n ≤ 2 ^ 24 * 255 := by rw [Nat.mul_comm]; exact hb
    rw [show (Y : Int) * (2 : Int) ^ n = ((Y * 2 ^ n : Nat) : Int) from h2]
    generalize Y * 2 ^ n = Z at *
    exact wrap_i64_id (by omega) (by omega)
  rw [e1]
  show IntKind.i64.wrap (((BitVec.ofInt 64 (X : Int) ||| BitVec.ofInt 64 ((2 ^ n * Y : Nat) : Int)).toNat : Nat) : Int) = _
  rw [BitVec.ofInt_natCast, BitVec.ofInt_natCast, BitVec.toNat_or, BitVec.toNat_ofNat, BitVec.toNat_ofNat, Nat.mod_eq_of_lt (by omega), Nat.mod_eq_of_lt (by omega), Nat.or_comm, ← Nat.two_pow_add_eq_or_of_lt hX]
  rw [show ((X : Int) + 2 ^ n * (Y : Int)) = ((2 ^ n * Y + X : Nat) : Int) by rw [Int.natCast_add, Int.natCast_mul, Int.natCast_pow, Int.add_comm]; rfl]
  have h4 : 2 ^ n * Y + X ≤ 2 ^ 24 * 255 + 2 ^ 24 := by omega
  generalize 2 ^ n * Y + X = Z at *
  exact wrap_i64_id (by omega) (by omega)
theorem bt_extract (b : ByteArray) (m i : Nat) (h : i < m) (hm : m ≤ b.size) : bt (b.extract 0 m) i = bt b i := by
  have h1 : (b.extract 0 m).data.toList = b.data.toList.take m := ba_take b m
  have hl : i < b.data.toList.length := by rw [ba_size]; omega
  have hl2 : i < (b.extract 0 m).data.toList.length := by rw [h1, List.length_take]; omega
  rw [bt_get _ _ hl2, bt_get _ _ hl]
  simp only [h1, List.getElem_take]
theorem ex_size (b : ByteArray) (m : Nat) (hm : m ≤ b.size) : (b.extract 0 m).size = m := by rw [← ba_size, ba_take, List.length_take, ba_size]; omega
theorem ex_ex (b : ByteArray) (m k : Nat) (h : k ≤ m) : (b.extract 0 m).extract 0 k = b.extract 0 k := by
  refine ba_ext ?_
  rw [ba_take, ba_take, ba_take, List.take_take, Nat.min_eq_left h]
theorem open_eq0 (s : ByteArray) (h : s.size ≤ 140737488355320) (h8 : 8 ≤ s.size) : seal_Open.f s = some (if sealT (s.extract 0 (s.size - 8)) = s then (s.extract 0 (s.size - 8), true) else ((⟨#[]⟩ : ByteArray), false)) := by
  have e1 : wrap64 ((s.size : Int) - 8) = ((s.size - 8 : Nat) : Int) := by unfold wrap64; omega
  have e2 : (s.extract 0 (s.size - 8)).size ≤ 140737488355320 := by rw [ex_size _ _ (by omega)]; omega
  unfold seal_Open.f
  rw [e1, if_neg (by omega), if_pos (by omega), if_pos (by omega), Int.toNat_natCast]
  unfold seal_Seal.f
  rw [if_pos e2, Option.bind_some]
  by_cases hh : sealT (s.extract 0 (s.size - 8)) = s
  · rw [if_pos hh, if_pos (by rw [hh])]
  · rw [if_neg hh, if_neg (fun e => hh (ba_inj.1 e))]
theorem size_l (s : ByteArray) (k : Nat) (hs : s.size = 4) : frame_size.l0 (k + 5) s 0 4 0 = some (numT s, decide (numT s ≤ 262144)) := by
  have r0 := bt_range s 0
  have r1 := bt_range s 1
  have r2 := bt_range s 2
  have r3 := bt_range s 3
  have w0 : wrap64 (bt s 0) = bt s 0 := by unfold wrap64; omega
  have w1 : wrap64 (bt s 1) = bt s 1 := by unfold wrap64; omega
  have w2 : wrap64 (bt s 2) = bt s 2 := by unfold wrap64; omega
  have w3 : wrap64 (bt s 3) = bt s 3 := by unfold wrap64; omega
  have o0 := or_low 0 (bt s 0) 0 (by omega) (by omega) (by omega) r0.1 r0.2
  have o1 := or_low (bt s 0) (bt s 1) 8 (by omega) (by omega) (by omega) r1.1 r1.2
  have o2 := or_low (bt s 0 + 256 * bt s 1) (bt s 2) 16 (by omega) (by omega) (by omega) r2.1 r2.2
  have o3 := or_low (bt s 0 + 256 * bt s 1 + 65536 * bt s 2) (bt s 3) 24 (by omega) (by omega) (by omega) r3.1 r3.2
  simp only [Int.reducePow, Int.one_mul, Int.zero_add, Int.natCast_zero, Int.cast_ofNat_Int] at o0 o1 o2 o3
  have W0 : wrap64 0 = 0 := by unfold wrap64; omega
  have W1 : wrap64 8 = 8 := by unfold wrap64; omega
  have W2 : wrap64 16 = 16 := by unfold wrap64; omega
  have W3 : wrap64 24 = 24 := by unfold wrap64; omega
  have V0 : wrap64 1 = 1 := by unfold wrap64; omega
  have V1 : wrap64 2 = 2 := by unfold wrap64; omega
  have V2 : wrap64 3 = 3 := by unfold wrap64; omega
  have V3 : wrap64 4 = 4 := by unfold wrap64; omega
  simp [frame_size.l0, hs, w0, w1, w2, w3, W0, W1, W2, W3, V0, V1, V2, V3, o0, o1, o2, o3, numT]
  exact decide_eq_decide.2 Iff.rfl
theorem size_eq (b : ByteArray) (k : Nat) : frame_size.f (k + 5) b = some (sizeT b) := by
  unfold frame_size.f sizeT
  by_cases h : b.size < 12
  · rw [if_pos (by omega), if_pos h]
  · rw [if_neg (by omega), if_neg h, if_pos (by omega), if_pos (by omega)]
    have hs := ex_size b 12 (by omega)
    rw [open_eq0 _ (by omega) (by omega), Option.bind_some, hs, ex_ex b 12 (12 - 8) (by omega)]
    by_cases hh : sealT (b.extract 0 4) = b.extract 0 12
    · rw [if_pos hh, if_pos hh, if_pos rfl]
      have h4 := ex_size b 4 (by omega)
      have hn : numT (b.extract 0 4) = numT b := by
        unfold numT
        have e0 := bt_extract b 4 0 (by omega) (by omega)
        have e1 := bt_extract b 4 1 (by omega) (by omega)
        have e2 := bt_extract b 4 2 (by omega) (by omega)
        have e3 := bt_extract b 4 3 (by omega) (by omega)
        simp only [Int.natCast_zero, Int.natCast_one, Int.cast_ofNat_Int] at e0 e1 e2 e3
        rw [e0, e1, e2, e3]
      rw [← hn]
      show frame_size.l0 (k + 5) (b.extract 0 4) 0 ((b.extract 0 4).size : Int) 0 = _
      rw [h4]
      exact size_l _ k h4
    · rw [if_neg hh, if_neg hh, if_neg (by simp)]
/-- The text of the first frame. -/
def frame1 (b : ByteArray) : Option ByteArray :=
  if (sizeT b).2 = true ∧ 20 + (sizeT b).1 ≤ b.size ∧ sealT (b.extract 12 (12 + (sizeT b).1.toNat)) = b.extract 12 (20 + (sizeT b).1.toNat) then some (b.extract 12 (12 + (sizeT b).1.toNat)) else none
/-- The texts of the frames, as far as there are any. -/
def scanF : Nat → ByteArray → List ByteArray
  | 0, _ => []
  | k + 1, b => match frame1 b with
    | none => []
    | some s => s :: scanF k (b.extract (20 + s.size) b.size)
def costs : List ByteArray → Int
  | [] => 0
  | s :: l => 20 + (s.size : Int) + costs l
def frame_Scan.f (b : ByteArray) : Option (List ByteArray × Int) := if b.size ≤ 140737488351232 then some (scanF (b.size + 1) b, costs (scanF (b.size + 1) b)) else none
theorem numT_nn (b : ByteArray) : 0 ≤ numT b := by
  have r0 := bt_range b 0
  have r1 := bt_range b 1
  have r2 := bt_range b 2
  have r3 := bt_range b 3
  unfold numT; omega
theorem sizeT_rng (b : ByteArray) (h : (sizeT b).2 = true) : 0 ≤ (sizeT b).1 ∧ (sizeT b).1 ≤ 262144 := by
  unfold sizeT at h ⊢
  have := numT_nn b
  by_cases h1 : b.size < 12
  · rw [if_pos h1] at h; cases h
  · rw [if_neg h1] at h ⊢
    by_cases h2 : sealT (b.extract 0 4) = b.extract 0 12
    · rw [if_pos h2] at h ⊢
      exact ⟨this, by simpa using h⟩
    · rw [if_neg h2] at h; cases h
theorem ex_sz (b : ByteArray) (a m : Nat) (ha : a ≤ m) (hm : m ≤ b.size) : (b.extract a m).size = m - a := by
  rw [← ba_size, ba_extract, List.length_drop, List.length_take, ba_size]; omega
theorem ex_exm (b : ByteArray) (a m k : Nat) (h : a + k ≤ m) : (b.extract a m).extract 0 k = b.extract a (a + k) := by
  refine ba_ext ?_
  rw [ba_take, ba_extract, ba_extract, List.take_drop, List.take_take, Nat.min_eq_left h]
theorem frame1_cases (b : ByteArray) (hs : b.size ≤ 140737488351232) :
    (∃ n, sizeT b = (n, false) ∧ frame1 b = none) ∨
    (∃ n : Nat, sizeT b = ((n : Int), true) ∧ n ≤ 262144 ∧ b.size < 20 + n ∧ frame1 b = none) ∨
    (∃ (n : Nat) (x : ByteArray), sizeT b = ((n : Int), true) ∧ n ≤ 262144 ∧ 20 + n ≤ b.size ∧ seal_Open.f (b.extract 12 (20 + n)) = some (x, false) ∧ frame1 b = none) ∨
    (∃ (n : Nat) (s : ByteArray), sizeT b = ((n : Int), true) ∧ n ≤ 262144 ∧ 20 + n ≤ b.size ∧ seal_Open.f (b.extract 12 (20 + n)) = some (s, true) ∧ frame1 b = some s ∧ s.size = n) := by
  rcases hz : sizeT b with ⟨n, is⟩
  cases is with
  | false => exact .inl ⟨n, rfl, by unfold frame1; rw [hz]; simp⟩
  | true =>
    have hr := sizeT_rng b (by rw [hz])
    rw [hz] at hr
    obtain ⟨m, rfl⟩ := Int.eq_ofNat_of_zero_le hr.1
    have hm : m ≤ 262144 := by have := hr.2; simp at this; omega
    by_cases h1 : b.size < 20 + m
    · exact .inr (.inl ⟨m, rfl, hm, h1, by unfold frame1; rw [hz, if_neg]; rintro ⟨_, h2, _⟩; simp at h2; omega⟩)
    · have ho := open_eq0 (b.extract 12 (20 + m)) (by rw [ex_sz _ _ _ (by omega) (by omega)]; omega) (by rw [ex_sz _ _ _ (by omega) (by omega)]; omega)
      rw [ex_sz b 12 (20 + m) (by omega) (by omega), show 20 + m - 12 - 8 = m by omega, ex_exm b 12 (20 + m) m (by omega)] at ho
      have e1 : ((m : Nat) : Int).toNat = m := Int.toNat_natCast m
      by_cases h2 : sealT (b.extract 12 (12 + m)) = b.extract 12 (20 + m)
      · rw [if_pos h2] at ho
        refine .inr (.inr (.inr ⟨m, _, rfl, hm, by omega, ho, ?_, ?_⟩))
        · unfold frame1
          rw [hz, if_pos ⟨rfl, by simp; omega, by simpa using h2⟩]
          simp
        · rw [ex_sz _ _ _ (by omega) (by omega)]; omega
      · rw [if_neg h2] at ho
        refine .inr (.inr (.inl ⟨m, _, rfl, hm, by omega, ho, ?_⟩))
        unfold frame1
        rw [hz, if_neg]
        rintro ⟨_, _, h3⟩
        exact h2 (by simpa using h3)
theorem ex_drop (b : ByteArray) (m : Nat) (hm : m ≤ b.size) : (b.extract m b.size).size = b.size - m := ex_sz b m b.size hm (Nat.le_refl _)
theorem frame1_sz (b s : ByteArray) (hs : b.size ≤ 140737488351232) (h : frame1 b = some s) : 20 + s.size ≤ b.size := by
  rcases frame1_cases b hs with ⟨n, _, h1⟩ | ⟨n, _, _, _, h1⟩ | ⟨n, x, _, _, _, _, h1⟩ | ⟨n, x, _, _, h2, _, h1, h3⟩ <;> rw [h] at h1
  · cases h1
  · cases h1
  · cases h1
  · cases h1; omega
theorem costs_le (k : Nat) : ∀ b : ByteArray, b.size ≤ 140737488351232 → costs (scanF k b) ≤ b.size := by
  induction k with
  | zero => intro b _; show (0 : Int) ≤ _; omega
  | succ k ih =>
    intro b hs
    rw [scanF]
    cases h : frame1 b with
    | none => show (0 : Int) ≤ _; omega
    | some s =>
      have h1 := frame1_sz b s hs h
      have h2 := ex_drop b (20 + s.size) h1
      have h3 := ih (b.extract (20 + s.size) b.size) (by omega)
      show 20 + (s.size : Int) + costs _ ≤ _
      omega
theorem costs_len (l : List ByteArray) : 20 * (l.length : Int) ≤ costs l := by
  induction l with
  | nil => exact Int.le_refl _
  | cons s l ih => show _ ≤ 20 + (s.size : Int) + costs l; rw [List.length_cons]; omega
theorem costs_snoc (l : List ByteArray) (s : ByteArray) : costs (l ++ [s]) = costs l + (20 + (s.size : Int)) := by
  induction l with
  | nil => show 20 + (s.size : Int) + 0 = 0 + _; omega
  | cons a l ih => show 20 + (a.size : Int) + costs (l ++ [s]) = 20 + (a.size : Int) + costs l + _; rw [ih]; omega
theorem costs_nn (l : List ByteArray) : 0 ≤ costs l := by have := costs_len l; omega
theorem costs_pre {p l : List ByteArray} (h : p <+: l) : costs p ≤ costs l := by
  obtain ⟨t, rfl⟩ := h
  induction t generalizing p with
  | nil => simp
  | cons s t ih => have := @ih (p ++ [s]); rw [costs_snoc] at this; simp at this ⊢; omega
/-- The call that hands the texts back. -/
theorem frame_texts_calls (b : ByteArray) (w : World) : Calls Try.prog 17 #[.string b] w fun e w' => e = .returned (.func (.func 20) #[] #[.pointer (some ⟨w.heap.size, 0, none⟩)]) ∧ w' = w.alloc (.cells #[.string b] 9) := by
  have hmf : ∀ (fn : Fn) (first cap : Array Value) (w : World), (Instr.makeFunc fn first cap).run Try.prog w = .ok (.func fn first cap) w := fun _ _ _ _ => rfl
  go_enter Try.func17, Try.ntmps17
  go_wp2
  go_ret
  exact ⟨rfl, rfl⟩
attribute [local go_sem] Oper.semAt_some
set_option maxHeartbeats 4000000 in
theorem frame_texts_seq (b0 : ByteArray) (bx : Nat) (w : World) (hb : Boxed w bx 9 (.string b0)) (hs : b0.size ≤ 140737488351232) :
    RSeq Fence.wide 8 Try.prog 20 #[.pointer (some ⟨bx, 0, none⟩)] (fun s : ByteArray => #[.string s]) (· = bx) (· = bx)
      (fun pre => pre <+: scanF (b0.size + 1) b0) (fun xs => xs = scanF (b0.size + 1) b0) w := by
  intro l J Jx W hW hJ hJx hY h0
  refine callsIn_of_wp Try.func20 rfl trivial ?_ rfl
  simp only [Try.ntmps20, List.size_toArray, List.length_cons, List.length_nil, Nat.reduceAdd, Nat.reduceSub, Array.replicate_succ, Array.replicate_zero, List.push_toArray, List.append_toArray, List.nil_append, List.cons_append]
  have HB := Aside0.mk (show Boxed W bx 9 (.string b0) from (hW.block _ hb.lt).trans hb)
  replace hJ := Aside0.mk hJ
  replace hJx := Aside0.mk hJx
  replace hY := Aside0.mk hY
  replace h0 := Aside0.mk h0
  replace hW := Aside0.mk hW
  obtain ⟨xs, hxs⟩ : ∃ xs, scanF (b0.size + 1) b0 = xs := ⟨_, rfl⟩
  rw [hxs] at hY ⊢
  replace hxs := Aside0.mk hxs
  refine wpIn_wide.2 (wp_scope_straight ((wpIn_wide (n := 8)).1 ?_))
  gi_wp2
  refine wpIn_label ?_
  gi_wp2
  gi_loopg [3] (b0.size + 1) (fun kq v3 wr => ∃ (pre : List ByteArray) (b : ByteArray), Aside0 (Boxed wr bx 9 (.string b)) ∧ Aside0 (b.size ≤ 140737488351232 ∧ b.size < kq) ∧ Aside0 (pre ++ scanF kq b = xs) ∧ Aside0 (J pre wr))
  case atStart => exact ⟨[], b0, HB, ⟨hs, by omega⟩, ⟨hxs.out⟩, h0⟩
  case round =>
    obtain ⟨pre, b, HBx, HS, HX, HJ⟩ := hrel
    cases gk with
    | zero => exact absurd HS.out.2 (Nat.not_lt_zero _)
    | succ k =>
      have hc := HBx.out.cell
      have hf := HBx.out.frozen
      have hbs := HS.out.1
      rcases frame1_cases b HS.out.1 with ⟨n, hz, h1⟩ | ⟨n, hz, hn, hlt, h1⟩ | ⟨n, x, hz, hn, hle, ho, h1⟩ | ⟨n, s, hz, hn, hle, ho, h1, hsn⟩
      · have hsz : Aside0 (frame_size.f 5 b = some (n, false)) := ⟨by rw [show 5 = 0 + 5 by rfl, size_eq, hz]⟩
        have hx : Aside0 (scanF (k + 1) b = []) := ⟨by rw [scanF, h1]⟩
        clear hz h1
        gi_wp2_with (refine ⟨trivial, ?_⟩; gi_at_call 21; refine (callsIn_wide.2 (frame_size.calls 5 b _ _ _ hsz.out)).mono ?_; rintro e w1 ⟨rfl, hb1⟩; replace hb1 := Aside0.mk hb1)
        refine wpIn_wide.2 ?_
        go_quiet (skip)
        gi_wp2
        simp only [Exit.noGoto_normal]
        go_end0
        exact ⟨⟨_, rfl⟩, .inl ⟨xs, rfl, hJ.out _ _ _ (by have := HX.out; rw [hx.out, List.append_nil] at this; rw [← this]; exact HJ.out) ((Keeps.of_below hb1.out (fun _ h _ => h)).drewN _)⟩⟩
      · have hsz : Aside0 (frame_size.f 5 b = some ((n : Int), true)) := ⟨by rw [show 5 = 0 + 5 by rfl, size_eq, hz]⟩
        have hx : Aside0 (scanF (k + 1) b = []) := ⟨by rw [scanF, h1]⟩
        have hC : Aside0 (frame_Cost.f (n : Int) = some ((n : Int) + 20)) := ⟨by unfold frame_Cost.f; rw [if_pos (by omega)]⟩
        have hlt' : decide ((b.size : Int) < (n : Int) + 20) = true := decide_eq_true (by omega)
        clear hz h1
        gi_wp2_with (refine ⟨trivial, ?_⟩; gi_at_call 21; refine (callsIn_wide.2 (frame_size.calls 5 b _ _ _ hsz.out)).mono ?_; rintro e w1 ⟨rfl, hb1⟩; have hlt1 := Aside0.mk (Nat.lt_of_lt_of_le HBx.out.lt hb1.size); have hc1 := (hb1.cell (p := ⟨bx, 0, none⟩) HBx.out.lt).trans hc; have hf1 := (hb1.frozen (p := ⟨bx, 0, none⟩) HBx.out.lt).trans hf; replace hb1 := Aside0.mk hb1)
        refine wpIn_wide.2 ?_
        go_quiet (first | (go_at_call 10; refine (frame_Cost.calls _ _ _ hC.out).mono ?_; rintro e w' ⟨rfl, ⟨nd, rfl⟩⟩; (try first | exact ⟨rfl, _, World.drewN_drewN _ _ _⟩ | exact ⟨rfl, _, Eq.trans (World.drewN_drewN _ _ _) (congrArg (World.drewN _) (Nat.add_assoc _ _ _))⟩)))
        gi_wp2
        simp only [Exit.noGoto_normal]
        go_end0
        exact ⟨⟨_, rfl⟩, .inl ⟨xs, rfl, hJ.out _ _ _ (by have := HX.out; rw [hx.out, List.append_nil] at this; rw [← this]; exact HJ.out) ((Keeps.of_below hb1.out (fun _ h _ => h)).drewN _)⟩⟩
      · have hsz : Aside0 (frame_size.f 5 b = some ((n : Int), true)) := ⟨by rw [show 5 = 0 + 5 by rfl, size_eq, hz]⟩
        have hx : Aside0 (scanF (k + 1) b = []) := ⟨by rw [scanF, h1]⟩
        obtain ⟨m, hm⟩ : ∃ m : Int, (n : Int) + 20 = m := ⟨_, rfl⟩
        have hC : Aside0 (frame_Cost.f (n : Int) = some m) := ⟨by unfold frame_Cost.f; rw [if_pos (by omega), hm]⟩
        have hlt' : decide ((b.size : Int) < m) = false := decide_eq_false (by omega)
        have ha1 : ((12 : Int) ≤ m) = True := eq_true (by omega)
        have ha2 : (m ≤ (b.size : Int)) = True := eq_true (by omega)
        have ha3 : ((0 : Int) ≤ m) = True := eq_true (by omega)
        have ha4 : decide ((12 : Int) ≤ m) = true := decide_eq_true (by omega)
        have ha5 : decide (m ≤ (b.size : Int)) = true := decide_eq_true (by omega)
        have htn : m.toNat = 20 + n := by omega
        replace hm := Aside0.mk hm
        replace ho := Aside0.mk ho
        clear hz h1
        gi_wp2_with (refine ⟨trivial, ?_⟩; gi_at_call 21; refine (callsIn_wide.2 (frame_size.calls 5 b _ _ _ hsz.out)).mono ?_; rintro e w1 ⟨rfl, hb1⟩; have hlt1 := Aside0.mk (Nat.lt_of_lt_of_le HBx.out.lt hb1.size); have hc1 := (hb1.cell (p := ⟨bx, 0, none⟩) HBx.out.lt).trans hc; have hf1 := (hb1.frozen (p := ⟨bx, 0, none⟩) HBx.out.lt).trans hf; replace hb1 := Aside0.mk hb1)
        refine wpIn_wide.2 ?_
        go_quiet (first | (go_at_call 10; refine (frame_Cost.calls _ _ _ hC.out).mono ?_; rintro e w' ⟨rfl, ⟨nd, rfl⟩⟩; (try first | exact ⟨rfl, _, World.drewN_drewN _ _ _⟩ | exact ⟨rfl, _, Eq.trans (World.drewN_drewN _ _ _) (congrArg (World.drewN _) (Nat.add_assoc _ _ _))⟩)))
        gi_wp2
        refine wpIn_wide.2 ?_
        go_region_held3 (fun w' => w'.cell? ⟨bx, 0, none⟩ = some (.string b)) (go_keep) (first | (go_at_call 10; refine (frame_Cost.calls _ _ _ hC.out).mono ?_; rintro e w' ⟨rfl, ⟨nd, rfl⟩⟩) | (go_at_call 22; refine (seal_Open.calls _ _ _ _ ho.out).mono ?_; rintro e w2 ⟨rfl, hb2⟩; have hc2 := (hb2.cell (p := ⟨bx, 0, none⟩) hlt1.out).trans hc1; replace hb2 := Aside0.mk hb2))
        gi_wp2
        refine ⟨fun _ h => (by cases h), ?_⟩
        gi_wp2
        simp only [Exit.noGoto_normal]
        go_end0
        exact ⟨⟨_, rfl⟩, .inl ⟨xs, rfl, hJ.out _ _ _ (by have := HX.out; rw [hx.out, List.append_nil] at this; rw [← this]; exact HJ.out) (((Keeps.of_below hb1.out (fun _ h _ => h)).drewN _).trans (Keeps.of_below hb2.out (fun _ h _ => h)))⟩⟩
      · have hsz : Aside0 (frame_size.f 5 b = some ((n : Int), true)) := ⟨by rw [show 5 = 0 + 5 by rfl, size_eq, hz]⟩
        have hx : Aside0 (scanF (k + 1) b = s :: scanF k (b.extract (20 + s.size) b.size)) := ⟨by rw [scanF, h1]⟩
        obtain ⟨m, hm⟩ : ∃ m : Int, (n : Int) + 20 = m := ⟨_, rfl⟩
        have hC : Aside0 (frame_Cost.f (n : Int) = some m) := ⟨by unfold frame_Cost.f; rw [if_pos (by omega), hm]⟩
        have hlt' : decide ((b.size : Int) < m) = false := decide_eq_false (by omega)
        have ha1 : ((12 : Int) ≤ m) = True := eq_true (by omega)
        have ha2 : (m ≤ (b.size : Int)) = True := eq_true (by omega)
        have ha3 : ((0 : Int) ≤ m) = True := eq_true (by omega)
        have ha4 : decide ((12 : Int) ≤ m) = true := decide_eq_true (by omega)
        have ha5 : decide (m ≤ (b.size : Int)) = true := decide_eq_true (by omega)
        have htn : m.toNat = 20 + n := by omega
        replace hm := Aside0.mk hm
        replace ho := Aside0.mk ho
        replace h1 := Aside0.mk h1
        replace hsn := Aside0.mk hsn
        clear hz
        gi_wp2_with (refine ⟨trivial, ?_⟩; gi_at_call 21; refine (callsIn_wide.2 (frame_size.calls 5 b _ _ _ hsz.out)).mono ?_; rintro e w1 ⟨rfl, hb1⟩; have hlt1 := Aside0.mk (Nat.lt_of_lt_of_le HBx.out.lt hb1.size); have hc1 := (hb1.cell (p := ⟨bx, 0, none⟩) HBx.out.lt).trans hc; have hf1 := (hb1.frozen (p := ⟨bx, 0, none⟩) HBx.out.lt).trans hf; replace hb1 := Aside0.mk hb1)
        refine wpIn_wide.2 ?_
        go_quiet (first | (go_at_call 10; refine (frame_Cost.calls _ _ _ hC.out).mono ?_; rintro e w' ⟨rfl, ⟨nd, rfl⟩⟩; (try first | exact ⟨rfl, _, World.drewN_drewN _ _ _⟩ | exact ⟨rfl, _, Eq.trans (World.drewN_drewN _ _ _) (congrArg (World.drewN _) (Nat.add_assoc _ _ _))⟩)))
        gi_wp2
        refine wpIn_wide.2 ?_
        go_region_held3 (fun w' => w'.cell? ⟨bx, 0, none⟩ = some (.string b)) (go_keep) (first | (go_at_call 10; refine (frame_Cost.calls _ _ _ hC.out).mono ?_; rintro e w' ⟨rfl, ⟨nd, rfl⟩⟩) | (go_at_call 22; refine (seal_Open.calls _ _ _ _ ho.out).mono ?_; rintro e w2 ⟨rfl, hb2⟩; have hc2 := (hb2.cell (p := ⟨bx, 0, none⟩) hlt1.out).trans hc1; replace hb2 := Aside0.mk hb2))
        have hJ2 : J pre w2 := hJ.out _ _ _ HJ.out (((Keeps.of_below hb1.out (fun _ h _ => h)).drewN _).trans (Keeps.of_below hb2.out (fun _ h _ => h)))
        obtain ⟨fn, tmps, assign, body, hy, hR⟩ := hY.out pre s w2 hJ2 ⟨scanF k (b.extract (20 + s.size) b.size), by rw [List.append_assoc, List.singleton_append, ← hx.out]; exact HX.out⟩
        clear hJ2
        gi_wp2
        refine hR.mono ?_
        rintro e W3 (⟨rfl, hJ3, hk3⟩ | ⟨rfl, hJx3⟩)
        · have hlt2 := Aside0.mk (Nat.lt_of_lt_of_le hlt1.out hb2.out.size)
          have hc3 := (hk3.cell (p := ⟨bx, 0, none⟩) hlt2.out rfl).trans hc2
          have hB3 := Aside0.mk (hk3.boxed (show Boxed w2 bx 9 (.string b) from (hb2.out.block _ hlt1.out).trans ((hb1.out.block _ HBx.out.lt).trans HBx.out)) rfl)
          have hf3 := hB3.out.frozen
          gi_wp2
          refine wpIn_wide.2 ?_
          go_region_with (first | (go_at_call 10; refine (frame_Cost.calls _ _ _ hC.out).mono ?_; rintro e w' ⟨rfl, ⟨nd, rfl⟩⟩))
          all_goals gi_wp2
          all_goals gi_roundg k
          all_goals first
            | exact Nat.lt_succ_self _
            | (refine ⟨pre ++ [s], b.extract (20 + n) b.size, ⟨Boxed.set _ (show Boxed (W3.drewN _) bx 9 (.string b) from hB3.out)⟩, ⟨?_⟩, ⟨?_⟩, ⟨hJ.out _ W3 _ hJ3 (((Keeps.refl _ W3).drewN _).setCell _ (fun h => h.2 rfl))⟩⟩
               · have h5 := ex_drop b (20 + n) (by omega)
                 have := HS.out.2
                 exact ⟨by omega, by omega⟩
               · rw [List.append_assoc, List.singleton_append, ← hsn.out, ← hx.out]; exact HX.out)
        · gi_wp2
          simp only [Exit.noGoto_normal]
          go_end0
          exact ⟨⟨_, rfl⟩, .inr ⟨pre ++ [s], ⟨scanF k (b.extract (20 + s.size) b.size), by rw [List.append_assoc, List.singleton_append, ← hx.out]; exact HX.out⟩, hJx3⟩⟩
set_option maxHeartbeats 8000000 in
theorem frame_Scan.calls (b : ByteArray) (r0 : List ByteArray) (r1 : Int) (w : World) (h : frame_Scan.f b = some (r0, r1)) :
    Calls Try.prog 11 #[.string b] w fun e w' => ∃ v0_ : Value, e = .returned (.tuple #[v0_, .int .i64 r1]) ∧ Kd.V Kd.string 9 w' w.heap.size (fun k_ => w.heap.size ≤ k_) v0_ r0 ∧ Below w.heap.size w w' := by
  by_cases hs : b.size ≤ 140737488351232
  case neg => unfold frame_Scan.f at h; rw [if_neg hs] at h; cases h
  unfold frame_Scan.f at h
  rw [if_pos hs] at h
  obtain ⟨rfl, rfl⟩ := Prod.mk.inj (Option.some.inj h)
  clear h
  have hcl := costs_le (b.size + 1) b hs
  have hseq := fun (bx : Nat) (w : World) (hb : Boxed w bx 9 (.string b)) => frame_texts_seq b bx w hb hs
  generalize scanF (b.size + 1) b = xs at *
  obtain ⟨i0, hi, hz0, hz1, hz2⟩ := info_parts (P := Try.prog) (e := 9) (z := .string ⟨#[]⟩) (size := 1) (bytes := 16) (by kernel_rfl)
  replace hcl := Aside0.mk (show costs xs ≤ 140737488351232 by omega)
  replace hseq := Aside0.mk hseq
  clear hs
  obtain ⟨H, hH⟩ : ∃ H, w.heap.size = H := ⟨_, rfl⟩
  refine (callsIn_wide (n := 9)).1 (callsIn_of_wp_marks Try.func11 rfl trivial ?_ rfl)
  simp only [Try.ntmps11, List.size_toArray, List.length_cons, List.length_nil, Nat.reduceAdd, Nat.reduceSub, Array.replicate_succ, Array.replicate_zero, List.push_toArray, List.append_toArray, List.nil_append, List.cons_append]
  gi_wp2_with (refine ⟨trivial, ?_⟩; gi_at_call 17; refine (callsIn_wide.2 (frame_texts_calls _ _)).mono ?_; rintro e w' ⟨rfl, rfl⟩)
  have b1 : Boxed (((w.alloc (Obj.cells #[Value.slice none 0 0] 22)).alloc (Obj.cells #[Value.int IntKind.i64 0] 3)).alloc (Obj.cells #[Value.string b] 9)) H 22 (.slice none 0 0) := by
    rw [← hH]; exact ((Boxed.new w _ _).alloc _).alloc _
  have b2 : Boxed (((w.alloc (Obj.cells #[Value.slice none 0 0] 22)).alloc (Obj.cells #[Value.int IntKind.i64 0] 3)).alloc (Obj.cells #[Value.string b] 9)) (H + 1) 3 (.int .i64 0) := by
    have := (Boxed.new (w.alloc (Obj.cells #[Value.slice none 0 0] 22)) 3 (.int .i64 0)).alloc (Obj.cells #[Value.string b] 9)
    rwa [World.size_alloc, hH] at this
  have b3 : Boxed (((w.alloc (Obj.cells #[Value.slice none 0 0] 22)).alloc (Obj.cells #[Value.int IntKind.i64 0] 3)).alloc (Obj.cells #[Value.string b] 9)) (H + 1 + 1) 9 (.string b) := by
    have := Boxed.new ((w.alloc (Obj.cells #[Value.slice none 0 0] 22)).alloc (Obj.cells #[Value.int IntKind.i64 0] 3)) 9 (.string b)
    rwa [World.size_alloc, World.size_alloc, hH] at this
  have b4 : Below H w (((w.alloc (Obj.cells #[Value.slice none 0 0] 22)).alloc (Obj.cells #[Value.int IntKind.i64 0] 3)).alloc (Obj.cells #[Value.string b] 9)) := (((Below.refl H w).alloc (Nat.le_of_eq hH.symm) _).alloc (by simp; omega) _).alloc (by simp; omega) _
  have b5 : (((w.alloc (Obj.cells #[Value.slice none 0 0] 22)).alloc (Obj.cells #[Value.int IntKind.i64 0] 3)).alloc (Obj.cells #[Value.string b] 9)).heap.size = H + 3 := by simp [hH]
  generalize (((w.alloc (Obj.cells #[Value.slice none 0 0] 22)).alloc (Obj.cells #[Value.int IntKind.i64 0] 3)).alloc (Obj.cells #[Value.string b] 9)) = W0 at *
  refine wpIn_range (n := 9) (w := W0) rfl (by omega) (gf := 20) (lb := #[.pointer (some ⟨H + 1 + 1, 0, none⟩)]) rfl trivial (enters_of Try.func20 (by kernel_rfl) rfl)
    (hseq.out (H + 1 + 1) W0 b3) (fun k hk => by omega) (fun k hk => by omega) (fun _ => rfl)
    (fun pre W => (∃ v, Boxed W H 22 v ∧ W.ownsRow (H + 5) 9 1 v pre.length (pre.map Value.string)) ∧ Boxed W (H + 1) 3 (.int .i64 (costs pre)) ∧ Below H w W)
    (fun _ _ _ => False)
    (by
      rintro s A B ⟨⟨v, h1, h2⟩, h3, h4⟩ hk
      have := h1.lt
      have := h4.size
      exact ⟨⟨v, hk.boxed h1 (by omega), hk.row h2 (fun k hk => by omega)⟩, hk.boxed h3 (by omega), h4.trans (hk.below (by omega) (fun k hk => by omega))⟩)
    (fun _ _ _ _ h _ => h)
    ⟨⟨_, b1, World.ownsRow_nil _ _ _ _⟩, b2, b4⟩
    (fun pre x a' W => ((∃ v, Boxed W H 22 v ∧ W.ownsRow (H + 5) 9 1 v pre.length (pre.map Value.string)) ∧ Boxed W (H + 1) 3 (.int .i64 (costs pre)) ∧ Below H w W) ∧ H + 5 ≤ W.heap.size ∧
      a' = { tmps := #[Value.string b, undef, Value.pointer (some { block := H, off := 0 }), Value.pointer (some { block := H + 1, off := 0 }), Value.string x, Value.string b,
          Value.func (Fn.func 20) #[] #[Value.pointer (some { block := H + 1 + 1, off := 0 })], Value.string x, undef, undef, undef, undef, undef, undef, undef, undef, undef, undef, undef, undef, undef, undef, undef, undef], defers := [] })
    (by
      rintro pre x a' A B ⟨⟨⟨v, h1, h2⟩, h3, h4⟩, h5, h6⟩ hk
      have := h1.lt
      have := h4.size
      have := hk.size
      exact ⟨⟨⟨v, hk.boxed h1 (by omega), hk.row h2 (fun k hk => by omega)⟩, hk.boxed h3 (by omega), h4.trans (hk.below (by omega) (fun k hk => by omega))⟩, by omega, h6⟩)
    ?assign ?body ?done (fun _ _ _ _ _ h _ => h.elim)
  case assign =>
    intro pre x W hi hpre hsz
    gi_wp2
    exact ⟨Keeps.refl _ _, hi, by omega, by first | rfl | trivial⟩
  case body =>
    rintro pre x a' W hpre hrec ⟨⟨⟨v, hv, hrow⟩, hn, hB⟩, hsz, rfl⟩
    have hc := hv.cell
    have hfz := hv.frozen
    have hpl := costs_pre hpre
    have hln := costs_len (pre ++ [x])
    rw [List.length_append, List.length_singleton] at hln
    have hnn := costs_nn pre
    have hsn := costs_snoc pre x
    have hcx := hcl.out
    have hl1 : pre.length + 1 ≤ maxLen := by have : (8796093022208 : Nat) ≤ maxLen := by decide
                                             omega
    have hl2 : (pre.length + 1) * 16 ≤ 140737488355328 := by omega
    have hcx2 : costs pre + (20 + (x.size : Int)) ≤ 140737488351232 := by omega
    have hxs0 : (0 : Int) ≤ (x.size : Int) := Int.natCast_nonneg _
    have hC : Aside0 (frame_Cost.f (x.size : Int) = some ((x.size : Int) + 20)) := ⟨by unfold frame_Cost.f; rw [if_pos (by omega)]⟩
    clear hpl hln hsn hcx
    replace hpre := Aside0.mk hpre
    gi_wp2_with (gi_at_builtin; refine wpListIn_append_own _ rfl _ _ 22 rfl (H + 5) 9 i0 (.string ⟨#[]⟩) 1 16 Try.underlying22 hi hz0 hz1 hz2 rfl (by decide) _ _ _ rfl (hrow.alloc _) ⟨W.heap.size, 0, none⟩ 1 1 [Value.string x] rfl rfl (cell_one_new _ _ _) (by simp [Value.oneCell']) hl1 hl2 (by simp; omega) ?_; intro v' w1 hown' hgrow _; obtain ⟨g', cap', rfl⟩ := ownsRow_succ hown'; have hv1 : Boxed w1 H 22 v := (hv.alloc _).kept hgrow (not_own hrow (by omega)); have hc1 := hv1.cell; have hf1 := hv1.frozen; have hn1 : Boxed w1 (H + 1) 3 (.int .i64 (costs pre)) := (hn.alloc _).kept hgrow (not_own hrow (by omega)); have hn2 := (Keeps.setCell (K := fun k => k ≠ H) (Keeps.refl _ w1) (p := ⟨H, 0, none⟩) (Value.slice (some ⟨g', 0, none⟩) (pre.length + 1) cap') (fun h => h.2 rfl)).boxed hn1 (by omega); skip)
    have hk2 : Keeps (fun k => k < H + 5 ∧ k ≠ H) W (w1.setCell ⟨H, 0, none⟩ (Value.slice (some ⟨g', 0, none⟩) (pre.length + 1) cap')) :=
      (((Keeps.refl _ W).alloc _).grown hgrow (fun k e h => by have := (hrow.lt k (show v.ownBlock = some k from e)).1; omega)).setCell _ (fun h => h.2.2 rfl)
    have hr2 := (Keeps.setCell (K := fun k => k ≠ H) (Keeps.refl _ w1) (p := ⟨H, 0, none⟩) (Value.slice (some ⟨g', 0, none⟩) (pre.length + 1) cap') (fun h => h.2 rfl)).row hown' (fun k hk => by omega)
    have hv2 := hv1.set (Value.slice (some ⟨g', 0, none⟩) (pre.length + 1) cap')
    clear hgrow hown' hv1 hc1 hf1 hn1 hc hfz hi hz0 hz1 hz2
    generalize (w1.setCell ⟨H, 0, none⟩ (Value.slice (some ⟨g', 0, none⟩) (pre.length + 1) cap')) = W2 at *
    have hcn2 := hn2.cell
    have hfn2 := hn2.frozen
    have hmo : Try.prog.follows .mixedOrders = true := by kernel_rfl
    have h91 : 1 ≤ 9 - 1 - 1 := by decide
    have e5 : IntKind.i64.wrap (costs pre + ((x.size : Int) + 20)) = costs (pre ++ [x]) := by rw [costs_snoc, wrap_i64_id (by omega) (by omega)]; omega
    replace e5 := Aside0.mk e5
    gi_region_with_o (first | (refine ⟨trivial, ?_⟩; gi_at_call 10; refine (CallsIn.inRound _ (callsIn_wide.2 (frame_Cost.calls _ _ _ hC.out))).mono ?_; rintro e w' ⟨rfl, ⟨nd, rfl⟩⟩))
    all_goals gi_wp2
    all_goals
      rw [e5.out]
      have K3 : Keeps (fun k => k ≠ H + 1) W2 ((W2.drewN (1 + nd)).setCell ⟨H + 1, 0, none⟩ (.int .i64 (costs (pre ++ [x])))) := ((Keeps.refl _ W2).drewN _).setCell _ (fun h => h.2 rfl)
      refine ⟨(hk2.mono (fun k _ h => by omega)).trans (K3.mono (fun k _ h => by omega)), ⟨_, K3.boxed hv2 (by omega), ?_⟩, Boxed.set _ (show Boxed (W2.drewN _) (H + 1) 3 (.int .i64 (costs pre)) from hn2), hB.trans ((hk2.below (by omega) (fun k hk => by omega)).trans (K3.below (by have := hv2.lt; omega) (fun k hk => by omega)))⟩
      have := K3.row hr2 (fun k hk => by omega)
      rw [List.length_append, List.length_singleton, List.map_append]
      exact this
  case done =>
    rintro xs' W hsz rfl ⟨⟨v, hv, hrow⟩, hn, hB⟩ hK
    have hc := hv.cell
    have hfz := hv.frozen
    have hcn := hn.cell
    have hfn := hn.frozen
    obtain ⟨A, c, rfl⟩ : ∃ A c, v = .slice A xs'.length c := by
      rcases hrow.2 with ⟨rfl, h0⟩ | ⟨g, cap, cur, rfl, _⟩
      · exact ⟨none, 0, by rw [h0]⟩
      · exact ⟨_, cap, rfl⟩
    have hlc : xs'.length ≤ c := by
      rcases hrow.2 with ⟨e0, h0⟩ | ⟨g, cap, cur, e0, _, _, h1, _⟩
      · omega
      · cases e0; exact h1
    have hlI : (xs'.length : Int) ≤ (c : Int) := Int.ofNat_le.2 hlc
    have hl0 : (0 : Int) ≤ (xs'.length : Int) := Int.natCast_nonneg _
    gi_wp2
    refine wpIn_wide.2 ?_
    go_region
    gi_wp2
    have hKF : Keeps (fun k => k ≠ H ∧ k ≠ H + 1) W ((W.setCell ⟨H, 0, none⟩ (Value.slice A xs'.length xs'.length)).setCell ⟨H + 1, 0, none⟩ (Value.int IntKind.i64 (costs xs'))).drew :=
      (((Keeps.refl _ W).setCell _ (fun h => h.2.1 rfl)).setCell _ (fun h => h.2.2 rfl)).drew
    have hb1 : Boxed ((W.setCell ⟨H, 0, none⟩ (Value.slice A xs'.length xs'.length)).setCell ⟨H + 1, 0, none⟩ (Value.int IntKind.i64 (costs xs'))).drew H 22 (Value.slice A xs'.length xs'.length) :=
      (Keeps.setCell (K := fun k => k ≠ H + 1) (Keeps.refl _ _) (p := ⟨H + 1, 0, none⟩) (Value.int IntKind.i64 (costs xs')) (fun h => h.2 rfl)).drew.boxed (hv.set _) (by omega)
    have hb2 : Boxed ((W.setCell ⟨H, 0, none⟩ (Value.slice A xs'.length xs'.length)).setCell ⟨H + 1, 0, none⟩ (Value.int IntKind.i64 (costs xs'))).drew (H + 1) 3 (Value.int IntKind.i64 (costs xs')) :=
      Boxed.set _ (show Boxed (W.setCell ⟨H, 0, none⟩ (Value.slice A xs'.length xs'.length)) (H + 1) 3 (Value.int IntKind.i64 (costs xs')) from (Keeps.setCell (K := fun k => k ≠ H) (Keeps.refl _ _) (p := ⟨H, 0, none⟩) _ (fun h => h.2 rfl)).boxed hn (by omega))
    generalize ((W.setCell ⟨H, 0, none⟩ (Value.slice A xs'.length xs'.length)).setCell ⟨H + 1, 0, none⟩ (Value.int IntKind.i64 (costs xs'))).drew = WF at *
    have hK2 := (hKF.block _ (by omega) (by omega)).trans hK
    refine ⟨by simp, .inl ⟨_, _, rfl, run_takeDeferred hK2, ?_⟩⟩
    have hKP : Keeps (fun k => k ≠ W0.heap.size) WF (WF.putObj W0.heap.size (.deferred none)) := (Keeps.refl _ WF).putObj _ (fun h => h.2 rfl)
    have hp1 := (hKP.boxed hb1 (by omega)).cell
    have hp2 := (hKP.boxed hb2 (by omega)).cell
    generalize (WF.putObj W0.heap.size (Obj.deferred none)) = WG at *
    refine ⟨.tuple #[.slice A xs'.length xs'.length, .int .i64 (costs xs')], ?_, _, rfl, ⟨A, xs'.length, rfl, Nat.le_refl _, ?_⟩, ?_⟩
    · simp [results, Try.f11, asAddr, loadVar, go_sem, hp1, hp2]
    · have hrG := hKP.row (hKF.row hrow (fun k hk => by omega)) (fun k hk => by omega)
      refine Kd.F_mono (F_of_own (h1 := fun _ => rfl) hrG) (fun k hk => by omega)
    · rw [hH]
      exact hB.trans ((hKF.below (by have := hv.lt; omega) (fun k hk => by omega)).trans (hKP.below (by have := hb1.lt; omega) (fun k hk => by omega)))

end Go.Proofs.Ytdhnlcbijefinaa.P
