-- Written by this session's program gprint.py: functions of the program as plain functions, and that the machine does what they say. Not trusted: Lean checks it.
import Derived.Test.YtjhpgfgpchgabaaPx0
import Derived.Test.YtjhpgfgpchgabaaPx1
import Derived.Test.YtjhpgfgpchgabaaPx2
import Derived.Test.YtjhpgfgpchgabaaPx3
import Derived.Test.YtjhpgfgpchgabaaPx4
import Derived.Test.YtjhpgfgpchgabaaPx5
import Derived.Test.YtjhpgfgpchgabaaPx6
import Derived.Test.YtjhpgfgpchgabaaPx7
import Derived.Test.YtjhpgfgpchgabaaPx8
namespace Go.Proofs.Ytjhpgfgpchgabaa.P
open Go.RowKit Go.Proofs.YtjhpgfgpchgabaaW.PrintWords Go.Proofs.YtjhpgfgpchgabaaW.PrintLast Go.Proofs.YtjhpgfgpchgabaaW.PrintMore
attribute [local go_sem] max2_int min2_int max_two min_two max_three min_three max_four min_four   -- for this text's walks alone
set_option linter.unusedVariables false
set_option linter.unusedSimpArgs false

attribute [local go_sem high] eqA52
/-! ### forebayref24_Same: function 16 -/
def forebayref24_Same.l0 : Nat → List (S52) → List (S52) → Int → Option (Bool)
  | 0, _, _, _ => none
  | k + 1, x0, x1, x5 => if x5 < (x0.length : Int) then (if 0 ≤ x5 then (if x5 < (x1.length : Int) then (if (!((((rd_T52 x0 x5).f0).toList) == (((rd_T52 x1 x5).f0).toList)) || (!(((rd_T52 x0 x5).f1) == ((rd_T52 x1 x5).f1)))) = true then (some false) else (forebayref24_Same.l0 k x0 x1 (wrap64 (x5 + 1)))) else (none)) else (none)) else (some true)
def forebayref24_Same.f (k : Nat) (l0 : List (S52)) (l1 : List (S52)) : Option (Bool) := if (l0.length : Int) = (l1.length : Int) then (forebayref24_Same.l0 k l0 l1 0) else (some false)
theorem forebayref24_Same.mono_l : ∀ k, (∀ y0 y1 y2, LeO (forebayref24_Same.l0 k y0 y1 y2) (forebayref24_Same.l0 (k + 1) y0 y1 y2))
  | 0 => fun _ _ _ r h => by simp [forebayref24_Same.l0] at h
  | k + 1 => by
    have ih0 := forebayref24_Same.mono_l k
    · intro y0 y1 y2
      unfold forebayref24_Same.l0
      repeat' first
      | (with_reducible exact ih0 _ _ _)
      | (with_reducible exact LeO.refl _)
      | (with_reducible exact LeO.none _)
      | (with_reducible refine LeO.ite ?_ ?_)
      | (with_reducible refine LeO.bind ?_ (fun _ => ?_))
      | exact ih0 _ _ _
      | exact LeO.none _
      | refine LeO.ite ?_ ?_
      | refine LeO.bind ?_ (fun _ => ?_)
theorem forebayref24_Same.mono : ∀ a0 a1 k, LeO (forebayref24_Same.f k a0 a1) (forebayref24_Same.f (k + 1) a0 a1) := by
  intro a0 a1 k
  have ih0 := forebayref24_Same.mono_l k
  unfold forebayref24_Same.f
  repeat' first
      | (with_reducible exact ih0 _ _ _)
      | (with_reducible exact LeO.refl _)
      | (with_reducible exact LeO.none _)
      | (with_reducible refine LeO.ite ?_ ?_)
      | (with_reducible refine LeO.bind ?_ (fun _ => ?_))
      | exact ih0 _ _ _
      | exact LeO.none _
      | refine LeO.ite ?_ ?_
      | refine LeO.bind ?_ (fun _ => ?_)
set_option maxHeartbeats 8000000 in
set_option maxRecDepth 100000 in
theorem forebayref24_Same.calls (k : Nat) (A0 : Option Addr) (c0 : Nat) (l0 : List (S52)) (A1 : Option Addr) (c1 : Nat) (l1 : List (S52)) (r : Bool) (w : World) (hr0 : Kd.C k52 w A0 l0.length l0) (hc0 : l0.length ≤ c0) (hr1 : Kd.C k52 w A1 l1.length l1) (hc1 : l1.length ≤ c1) (h : forebayref24_Same.f k l0 l1 = some r) :
    Calls Try.prog 16 #[.slice A0 l0.length c0, .slice A1 l1.length c1] w fun e w' => e = .returned (.bool r) ∧ Drawn0 w w' := by
  have hu52 := Try.underlying52
  have HR0 := Aside0.mk hr0
  have HC0 := Aside0.mk hc0
  clear hr0 hc0
  have HR1 := Aside0.mk hr1
  have HC1 := Aside0.mk hc1
  clear hr1 hc1
  have H : (if (l0.length : Int) = (l1.length : Int) then (forebayref24_Same.l0 k l0 l1 0) else (some false)) = some r := h
  clear h
  by_cases c3 : (l0.length : Int) = (l1.length : Int)
  · rw [if_pos c3] at H
    have c3b0 : ((l0.length : Int) == (l1.length : Int)) = true := beq_iff_eq.mpr c3
    have c3b1 : ((l0.length : Int) != (l1.length : Int)) = false := bne_eq_false_iff_eq.mpr c3
    have c3b2 : (l0.length == l1.length) = true := by first | simpa using c3 | (simp at c3 ⊢; omega)
    clear c3
    have H' := Aside0.mk H
    clear H
    go_enter Try.func16, Try.ntmps16
    go_wp2
    repeat (go_quiet (fail); try go_wp2)
    go_loopg [5] k (fun kq v5 w' => ∃ (x5_1 : Int), v5 = .int .i64 x5_1 ∧ Aside0 (forebayref24_Same.l0 kq l0 l1 x5_1 = some r) ∧ Aside0 (kq ≤ k) ∧ Drawn0 w w')
    case atStart => exact ⟨(0), (by first | rfl | (simp; done) | (simp [*]; done) | (simp; exact isEmpty_bne _)), H', ⟨Nat.le_refl _⟩, by repeat (first | exact Drawn0.refl _ | apply Drawn0.step)⟩
    case round =>
      clear H'
      try clear c1
      try clear p2
      try clear c3
      try clear c3b0
      try clear c3b1
      try clear c3b2
      obtain ⟨x5_1, rfl, HA, HK1, ⟨m1, rfl⟩⟩ := hrel
      cases gk with
      | zero => exact absurd HA.out (by simp [forebayref24_Same.l0])
      | succ k1 =>
        have H := HA.out
        clear HA
        simp only [forebayref24_Same.l0] at H
        by_cases c4 : x5_1 < (l0.length : Int)
        · rw [if_pos c4] at H
          have c4b0 : decide (x5_1 < (l0.length : Int)) = true := decide_eq_true c4
          clear c4
          by_cases c5 : 0 ≤ x5_1
          · rw [if_pos c5] at H
            have c5b0 : decide (0 ≤ x5_1) = true := decide_eq_true c5
            clear c5
            by_cases c6 : x5_1 < (l1.length : Int)
            · rw [if_pos c6] at H
              have c6b0 : decide (x5_1 < (l1.length : Int)) = true := decide_eq_true c6
              clear c6
              by_cases c7 : (!((((rd_T52 l0 x5_1).f0).toList) == (((rd_T52 l1 x5_1).f0).toList)) || (!(((rd_T52 l0 x5_1).f1) == ((rd_T52 l1 x5_1).f1)))) = true
              · rw [if_pos c7] at H
                have c7b0 : (!((((rd_T52 l0 x5_1).f0).toList) == (((rd_T52 l1 x5_1).f0).toList)) || (!(((rd_T52 l0 x5_1).f1) == ((rd_T52 l1 x5_1).f1)))) = true := c7
                clear c7
                obtain rfl := Option.some.inj H
                have p173 : 0 ≤ (x5_1 : Int) := of_decide_eq_true (by first | (with_reducible assumption) | assumption)
                have q173 : x5_1 < (l0.length : Int) := of_decide_eq_true (by first | (with_reducible assumption) | assumption)
                obtain ⟨ad173, e173, hx173_0, hx173_1⟩ := at_T52 HR0.out x5_1 p173 q173
                cases e173
                replace p173 := eq_true p173
                replace q173 := eq_true q173
                have p174 : 0 ≤ (x5_1 : Int) := of_decide_eq_true (by first | (with_reducible assumption) | assumption)
                have q174 : x5_1 < (l1.length : Int) := of_decide_eq_true (by first | (with_reducible assumption) | assumption)
                obtain ⟨ad174, e174, hx174_0, hx174_1⟩ := at_T52 HR1.out x5_1 p174 q174
                cases e174
                replace p174 := eq_true p174
                replace q174 := eq_true q174
                go_wp2
                repeat (go_quiet (fail); try go_wp2)
                go_ret
                exact ⟨by first | rfl | (simp; done) | (simp [*]; done), by repeat (first | exact Drawn0.refl _ | apply Drawn0.step)⟩
              · rw [if_neg c7] at H
                have c7b0 : (!((((rd_T52 l0 x5_1).f0).toList) == (((rd_T52 l1 x5_1).f0).toList)) || (!(((rd_T52 l0 x5_1).f1) == ((rd_T52 l1 x5_1).f1)))) = false := by simpa using c7
                clear c7
                have H' := Aside0.mk H
                clear H
                have p173 : 0 ≤ (x5_1 : Int) := of_decide_eq_true (by first | (with_reducible assumption) | assumption)
                have q173 : x5_1 < (l0.length : Int) := of_decide_eq_true (by first | (with_reducible assumption) | assumption)
                obtain ⟨ad173, e173, hx173_0, hx173_1⟩ := at_T52 HR0.out x5_1 p173 q173
                cases e173
                replace p173 := eq_true p173
                replace q173 := eq_true q173
                have p174 : 0 ≤ (x5_1 : Int) := of_decide_eq_true (by first | (with_reducible assumption) | assumption)
                have q174 : x5_1 < (l1.length : Int) := of_decide_eq_true (by first | (with_reducible assumption) | assumption)
                obtain ⟨ad174, e174, hx174_0, hx174_1⟩ := at_T52 HR1.out x5_1 p174 q174
                cases e174
                replace p174 := eq_true p174
                replace q174 := eq_true q174
                go_wp2
                repeat (go_quiet (fail); try go_wp2)
                go_roundg k1
                case measure => have := HK1.out; omega
                case rel => exact ⟨(wrap64 (x5_1 + 1)), (by first | rfl | (simp; done) | (simp [*]; done) | (simp; exact isEmpty_bne _)), H', ⟨by have := HK1.out; omega⟩, by repeat (first | exact Drawn0.refl _ | apply Drawn0.step)⟩
            · rw [if_neg c6] at H
              exact absurd H (by simp)
          · rw [if_neg c5] at H
            exact absurd H (by simp)
        · rw [if_neg c4] at H
          have c4b0 : decide (x5_1 < (l0.length : Int)) = false := decide_eq_false c4
          clear c4
          obtain rfl := Option.some.inj H
          go_wp2
          repeat (go_quiet (fail); try go_wp2)
          go_ret
          exact ⟨by first | rfl | (simp; done) | (simp [*]; done), by repeat (first | exact Drawn0.refl _ | apply Drawn0.step)⟩
  · rw [if_neg c3] at H
    have c3b0 : ((l0.length : Int) == (l1.length : Int)) = false := beq_eq_false_iff_ne.mpr c3
    have c3b1 : ((l0.length : Int) != (l1.length : Int)) = true := bne_iff_ne.mpr c3
    have c3b2 : (l0.length == l1.length) = false := by first | simpa using c3 | (simp at c3 ⊢; omega)
    obtain rfl := Option.some.inj H
    go_enter Try.func16, Try.ntmps16
    go_wp2
    repeat (go_quiet (fail); try go_wp2)
    go_ret
    exact ⟨by first | rfl | (simp; done) | (simp [*]; done), by repeat (first | exact Drawn0.refl _ | apply Drawn0.step)⟩

/-! ### forebaylaw24_ShareTells: function 3 -/
/-- What is wanted. -/
inductive TellsOk (l : List S52) (u : ByteArray) (n a b c : Int) : Prop where
  | great (h0 : forebaylaw24_great.f l u = some true) (hh : forebaylaw24_head.f = some true)
  | good (k : Nat) (X Y : List S52) (e g ck ou : Int) (h0 : forebaylaw24_great.f l u = some false) (h1 : share_Add.f l u n = some (X, e)) (h2 : forebayref24_Add.f k l u n = some (X, e)) (h3 : share_Fade.f l a b c = some (Y, g)) (h4 : forebayref24_Fade.f k l a b c = some (Y, g))
      (h5 : share_Check.f l = some ck) (h6 : forebayref24_Check.f k l = some ck) (h7 : share_Of.f l u = some ou) (h8 : forebayref24_Of.f k l u = some ou) (h9 : forebayref24_Same.f k X X = some true) (h10 : forebayref24_Same.f k Y Y = some true) (hh : forebaylaw24_head.f = some true)
open Classical in
noncomputable def forebaylaw24_ShareTells.f (l0_0 : List S52) (a0_1 : ByteArray) (a0_2 a0_3 a0_4 a0_5 : Int) : Option Bool := @ite _ (TellsOk l0_0 a0_1 a0_2 a0_3 a0_4 a0_5) (Classical.propDecidable _) (some true) none
set_option maxHeartbeats 8000000 in
set_option maxRecDepth 100000 in
theorem forebaylaw24_ShareTells.calls (A0_0 : Option Addr) (c0_0 : Nat) (l0_0 : List S52) (a0_1 : ByteArray) (a0_2 : Int) (a0_3 : Int) (a0_4 : Int) (a0_5 : Int) (r : Bool) (w : World) (hr0_0 : Kd.C k52 w A0_0 l0_0.length l0_0) (hc0_0 : l0_0.length ≤ c0_0) (h : forebaylaw24_ShareTells.f l0_0 a0_1 a0_2 a0_3 a0_4 a0_5 = some r) :
    Calls Try.prog 3 #[.agg #[.slice A0_0 l0_0.length c0_0, .string a0_1, .int .i64 a0_2, .int .i64 a0_3, .int .i64 a0_4, .int .i64 a0_5]] w fun e w' => e = .returned (.bool r) ∧ Below w.heap.size w w' := by
  unfold forebaylaw24_ShareTells.f at h
  by_cases hok : TellsOk l0_0 a0_1 a0_2 a0_3 a0_4 a0_5
  case neg => rw [if_neg hok] at h; cases h
  rw [if_pos hok] at h
  obtain rfl := Option.some.inj h
  clear h
  have hu := Try.underlying24
  have CL := Aside0.mk hr0_0
  have LL := Aside0.mk hc0_0
  clear hr0_0 hc0_0
  have HB := Aside0.mk (Below.refl w.heap.size w)
  cases hok with
  | great h0 hh =>
    replace h0 := Aside0.mk h0
    replace hh := Aside0.mk hh
    go_enter Try.func3, Try.ntmps3
    go_wp2_with ((with_reducible refine gate_dst (N := 1) rfl ?_); refine box_event ?hg (N := 1) ?hd (cs := #[.slice A0_0 l0_0.length c0_0, .string a0_1, .int .i64 a0_2, .int .i64 a0_3, .int .i64 a0_4, .int .i64 a0_5]) (t := 24) ?hr ?_; (case hd => rfl); (case hg => rfl); (case hr => first | (go_simp; done) | (go_simp; rfl)); intro gb hg w3 hbox hb; have hz0 : w3.cell? ⟨gb, 0, none⟩ = some (.slice A0_0 l0_0.length c0_0) := (blk_cell hbox 0).trans rfl; have hz1 : w3.cell? ⟨gb, 1, none⟩ = some (.string a0_1) := (blk_cell hbox 1).trans rfl; have hz2 : w3.cell? ⟨gb, 2, none⟩ = some (.int .i64 a0_2) := (blk_cell hbox 2).trans rfl; have hz3 : w3.cell? ⟨gb, 3, none⟩ = some (.int .i64 a0_3) := (blk_cell hbox 3).trans rfl; have hz4 : w3.cell? ⟨gb, 4, none⟩ = some (.int .i64 a0_4) := (blk_cell hbox 4).trans rfl; have hz5 : w3.cell? ⟨gb, 5, none⟩ = some (.int .i64 a0_5) := (blk_cell hbox 5).trans rfl; have HBn := Aside0.mk (show ∀ n, Below w.heap.size w (w3.drewN n) from fun n => ⟨hb.os, hb.tape, hb.output, hb.size, hb.block⟩); clear hg hbox hb)
    go_quiet (fail)
    go_wp2_with (first
      | (go_at_call 6; (with_reducible refine (forebaylaw24_great.calls A0_0 c0_0 l0_0 a0_1 true _ (Kd.C_below CL.out (HBn.out _)) LL.out h0.out).mono ?_); rintro e w1 ⟨rfl, hd⟩; have HB := Aside0.mk ((HBn.out _).trans ((drawn_below hd).mono (HBn.out 0).size)); replace CL := Aside0.mk (Kd.C_below CL.out HB.out); clear hd HBn)
      | (go_at_call 7; (with_reducible refine (forebaylaw24_head.calls true _ hh.out).mono ?_); rintro e w1 ⟨rfl, hb⟩; replace HB := Aside0.mk (HB.out.trans (hb.mono HB.out.size)); clear hb))
    go_ret
    exact ⟨rfl, HB.out⟩
  | good k X Y e g ck ou h0 h1 h2 h3 h4 h5 h6 h7 h8 h9 h10 hh =>
    replace h0 := Aside0.mk h0
    replace h1 := Aside0.mk h1
    replace h2 := Aside0.mk h2
    replace h3 := Aside0.mk h3
    replace h4 := Aside0.mk h4
    replace h5 := Aside0.mk h5
    replace h6 := Aside0.mk h6
    replace h7 := Aside0.mk h7
    replace h8 := Aside0.mk h8
    replace h9 := Aside0.mk h9
    replace h10 := Aside0.mk h10
    replace hh := Aside0.mk hh
    go_enter Try.func3, Try.ntmps3
    go_wp2_with ((with_reducible refine gate_dst (N := 1) rfl ?_); refine box_event ?hg (N := 1) ?hd (cs := #[.slice A0_0 l0_0.length c0_0, .string a0_1, .int .i64 a0_2, .int .i64 a0_3, .int .i64 a0_4, .int .i64 a0_5]) (t := 24) ?hr ?_; (case hd => rfl); (case hg => rfl); (case hr => first | (go_simp; done) | (go_simp; rfl)); intro gb hg w3 hbox hb; have hz0 : w3.cell? ⟨gb, 0, none⟩ = some (.slice A0_0 l0_0.length c0_0) := (blk_cell hbox 0).trans rfl; have hz1 : w3.cell? ⟨gb, 1, none⟩ = some (.string a0_1) := (blk_cell hbox 1).trans rfl; have hz2 : w3.cell? ⟨gb, 2, none⟩ = some (.int .i64 a0_2) := (blk_cell hbox 2).trans rfl; have hz3 : w3.cell? ⟨gb, 3, none⟩ = some (.int .i64 a0_3) := (blk_cell hbox 3).trans rfl; have hz4 : w3.cell? ⟨gb, 4, none⟩ = some (.int .i64 a0_4) := (blk_cell hbox 4).trans rfl; have hz5 : w3.cell? ⟨gb, 5, none⟩ = some (.int .i64 a0_5) := (blk_cell hbox 5).trans rfl; have HBn := Aside0.mk (show ∀ n, Below w.heap.size w (w3.drewN n) from fun n => ⟨hb.os, hb.tape, hb.output, hb.size, hb.block⟩); clear hg hbox hb)
    go_quiet (fail)
    go_wp2_with (first
      | (go_at_call 6; (with_reducible refine (forebaylaw24_great.calls A0_0 c0_0 l0_0 a0_1 false _ (Kd.C_below CL.out (HBn.out _)) LL.out h0.out).mono ?_); rintro e w1 ⟨rfl, hd⟩; have HB := Aside0.mk ((HBn.out _).trans ((drawn_below hd).mono (HBn.out 0).size)); replace CL := Aside0.mk (Kd.C_below CL.out HB.out); clear hd HBn)
      | (go_at_call 8; (with_reducible refine (share_Add.calls A0_0 c0_0 l0_0 a0_1 a0_2 X e _ CL.out LL.out h1.out).mono ?_); rintro e w1 ⟨v, rfl, r, hb⟩; obtain ⟨AP, cP, rfl⟩ := Kd.V_slice r; replace CL := Aside0.mk (Kd.C_below CL.out hb); have CP := Aside0.mk (Kd.V_reads' r).2.2; have LP := Aside0.mk (Kd.V_reads' r).2.1; clear r; replace HB := Aside0.mk (HB.out.trans (hb.mono HB.out.size)); clear hb)
      | (go_at_call 9; (with_reducible refine (forebayref24_Add.calls k A0_0 c0_0 l0_0 a0_1 a0_2 X e _ CL.out LL.out h2.out).mono ?_); rintro e w1 ⟨v, rfl, r, hb⟩; obtain ⟨AQ, cQ, rfl⟩ := Kd.R_slice r; replace CL := Aside0.mk (Kd.C_below CL.out hb); replace CP := Aside0.mk (Kd.C_below CP.out hb); have CQ := Aside0.mk (Kd.R_reads' r).2.2; have LQ := Aside0.mk (Kd.R_reads' r).2.1; clear r; replace HB := Aside0.mk (HB.out.trans (hb.mono HB.out.size)); clear hb)
      | (go_at_call 10; (with_reducible refine (share_Fade.calls A0_0 c0_0 l0_0 a0_3 a0_4 a0_5 Y g _ CL.out LL.out h3.out).mono ?_); rintro e w1 ⟨v, rfl, r, hb⟩; obtain ⟨AS, cS, rfl⟩ := Kd.V_slice r; replace CL := Aside0.mk (Kd.C_below CL.out hb); replace CP := Aside0.mk (Kd.C_below CP.out hb); replace CQ := Aside0.mk (Kd.C_below CQ.out hb); have CS := Aside0.mk (Kd.V_reads' r).2.2; have LS := Aside0.mk (Kd.V_reads' r).2.1; clear r; replace HB := Aside0.mk (HB.out.trans (hb.mono HB.out.size)); clear hb)
      | (go_at_call 11; (with_reducible refine (forebayref24_Fade.calls k A0_0 c0_0 l0_0 a0_3 a0_4 a0_5 Y g _ CL.out LL.out h4.out).mono ?_); rintro e w1 ⟨v, rfl, r, hb⟩; obtain ⟨AT, cT, rfl⟩ := Kd.R_slice r; replace CL := Aside0.mk (Kd.C_below CL.out hb); replace CP := Aside0.mk (Kd.C_below CP.out hb); replace CQ := Aside0.mk (Kd.C_below CQ.out hb); replace CS := Aside0.mk (Kd.C_below CS.out hb); have CT := Aside0.mk (Kd.R_reads' r).2.2; have LT := Aside0.mk (Kd.R_reads' r).2.1; clear r; replace HB := Aside0.mk (HB.out.trans (hb.mono HB.out.size)); clear hb)
      | (go_at_call 12; (with_reducible refine (share_Check.calls A0_0 c0_0 l0_0 ck _ CL.out LL.out h5.out).mono ?_); rintro e w1 ⟨rfl, hb⟩; replace CL := Aside0.mk (Kd.C_below CL.out hb); replace CP := Aside0.mk (Kd.C_below CP.out hb); replace CQ := Aside0.mk (Kd.C_below CQ.out hb); replace CS := Aside0.mk (Kd.C_below CS.out hb); replace CT := Aside0.mk (Kd.C_below CT.out hb); replace HB := Aside0.mk (HB.out.trans (hb.mono HB.out.size)); clear hb)
      | (go_at_call 13; (with_reducible refine (forebayref24_Check.calls k A0_0 c0_0 l0_0 ck _ CL.out LL.out h6.out).mono ?_); rintro e w1 ⟨rfl, hb⟩; replace CL := Aside0.mk (Kd.C_below CL.out hb); replace CP := Aside0.mk (Kd.C_below CP.out hb); replace CQ := Aside0.mk (Kd.C_below CQ.out hb); replace CS := Aside0.mk (Kd.C_below CS.out hb); replace CT := Aside0.mk (Kd.C_below CT.out hb); replace HB := Aside0.mk (HB.out.trans (hb.mono HB.out.size)); clear hb)
      | (go_at_call 14; (with_reducible refine (share_Of.calls A0_0 c0_0 l0_0 a0_1 ou _ CL.out LL.out h7.out).mono ?_); rintro e w1 ⟨rfl, hb⟩; replace CL := Aside0.mk (Kd.C_below CL.out hb); replace CP := Aside0.mk (Kd.C_below CP.out hb); replace CQ := Aside0.mk (Kd.C_below CQ.out hb); replace CS := Aside0.mk (Kd.C_below CS.out hb); replace CT := Aside0.mk (Kd.C_below CT.out hb); replace HB := Aside0.mk (HB.out.trans (hb.mono HB.out.size)); clear hb)
      | (go_at_call 15; (with_reducible refine (forebayref24_Of.calls k A0_0 c0_0 l0_0 a0_1 ou _ CL.out LL.out h8.out).mono ?_); rintro e w1 ⟨rfl, hb⟩; replace CL := Aside0.mk (Kd.C_below CL.out hb); replace CP := Aside0.mk (Kd.C_below CP.out hb); replace CQ := Aside0.mk (Kd.C_below CQ.out hb); replace CS := Aside0.mk (Kd.C_below CS.out hb); replace CT := Aside0.mk (Kd.C_below CT.out hb); replace HB := Aside0.mk (HB.out.trans (hb.mono HB.out.size)); clear hb)
      | (go_at_call 16; (with_reducible refine (forebayref24_Same.calls k AP cP X AQ cQ X true _ CP.out LP.out CQ.out LQ.out h9.out).mono ?_); rintro e w1 ⟨rfl, hd⟩; have hb := drawn_below hd; clear hd; replace CL := Aside0.mk (Kd.C_below CL.out hb); replace CP := Aside0.mk (Kd.C_below CP.out hb); replace CQ := Aside0.mk (Kd.C_below CQ.out hb); replace CS := Aside0.mk (Kd.C_below CS.out hb); replace CT := Aside0.mk (Kd.C_below CT.out hb); replace HB := Aside0.mk (HB.out.trans (hb.mono HB.out.size)); clear hb)
      | (go_at_call 16; (with_reducible refine (forebayref24_Same.calls k AS cS Y AT cT Y true _ CS.out LS.out CT.out LT.out h10.out).mono ?_); rintro e w1 ⟨rfl, hd⟩; have hb := drawn_below hd; clear hd; replace CL := Aside0.mk (Kd.C_below CL.out hb); replace CP := Aside0.mk (Kd.C_below CP.out hb); replace CQ := Aside0.mk (Kd.C_below CQ.out hb); replace CS := Aside0.mk (Kd.C_below CS.out hb); replace CT := Aside0.mk (Kd.C_below CT.out hb); replace HB := Aside0.mk (HB.out.trans (hb.mono HB.out.size)); clear hb)
      | (go_at_call 7; (with_reducible refine (forebaylaw24_head.calls true _ hh.out).mono ?_); rintro e w1 ⟨rfl, hb⟩; replace HB := Aside0.mk (HB.out.trans (hb.mono HB.out.size)); clear hb))
    go_ret
    exact ⟨rfl, HB.out⟩
def inv52 (x : S52) : Prop := (fun s : ByteArray => s.size ≤ 140737488351232) x.f0 ∧ (fun n : Int => (Lit.int .i64 n).wf = true) x.f1
theorem opn52 : Opn Try.prog 52 k52 inv52 := opn_struct (fun x : S52 => (x.f0, x.f1)) (fun p => (⟨p.1, p.2⟩ : S52)) (fun _ => rfl) Try.underlying52 (by kernel_rfl) (fl := [(9, 0), (2, 1)]) (by rfl) (opnL_cons (opn_string Try.underlying9 (by kernel_rfl)) rfl (opnL_one (opn_int Try.underlying2 (by kernel_rfl))))
def inv24 (x : S24) : Prop := (fun l : List (S52) => l.length * 24 ≤ 140737488351232 ∧ l.length ≤ maxLen ∧ ∀ x ∈ l, inv52 x) x.f0 ∧ (fun s : ByteArray => s.size ≤ 140737488351232) x.f1 ∧ (fun n : Int => (Lit.int .i64 n).wf = true) x.f2 ∧ (fun n : Int => (Lit.int .i64 n).wf = true) x.f3 ∧ (fun n : Int => (Lit.int .i64 n).wf = true) x.f4 ∧ (fun n : Int => (Lit.int .i64 n).wf = true) x.f5
theorem opn24 : Opn Try.prog 24 k24 inv24 := opn_struct (fun x : S24 => (x.f0, x.f1, x.f2, x.f3, x.f4, x.f5)) (fun p => (⟨p.1, p.2.1, p.2.2.1, p.2.2.2.1, p.2.2.2.2.1, p.2.2.2.2.2⟩ : S24)) (fun _ => rfl) Try.underlying24 (by kernel_rfl) (fl := [(22, 0), (9, 1), (2, 2), (2, 3), (2, 4), (2, 5)]) (by rfl) (opnL_cons (opn_slice Try.underlying22 (by kernel_rfl) (by kernel_rfl) opn52) rfl (opnL_cons (opn_string Try.underlying9 (by kernel_rfl)) rfl (opnL_cons (opn_int Try.underlying2 (by kernel_rfl)) rfl (opnL_cons (opn_int Try.underlying2 (by kernel_rfl)) rfl (opnL_cons (opn_int Try.underlying2 (by kernel_rfl)) rfl (opnL_one (opn_int Try.underlying2 (by kernel_rfl))))))))

/-- THE ONE PURE STATEMENT of forebaylaw24_ShareTells: yours. -/
def forebaylaw24_ShareTells.Pure : Prop := ∀ (l0_0 : List (S52)) (a0_1 : ByteArray) (a0_2 : Int) (a0_3 : Int) (a0_4 : Int) (a0_5 : Int), inv24 ⟨l0_0, a0_1, a0_2, a0_3, a0_4, a0_5⟩ → forebaylaw24_ShareTells.f l0_0 a0_1 a0_2 a0_3 a0_4 a0_5 = some true
theorem forebaylaw24_ShareTells.walk (P : forebaylaw24_ShareTells.Pure) (A0_0 : Option Addr) (c0_0 : Nat) (l0_0 : List (S52)) (a0_1 : ByteArray) (a0_2 : Int) (a0_3 : Int) (a0_4 : Int) (a0_5 : Int) (w : World) (hr0_0 : Kd.C k52 w A0_0 l0_0.length l0_0) (hc0_0 : l0_0.length ≤ c0_0) (y0 : inv24 ⟨l0_0, a0_1, a0_2, a0_3, a0_4, a0_5⟩) :
    Calls Try.prog 3 #[.agg #[.slice A0_0 l0_0.length c0_0, .string a0_1, .int .i64 a0_2, .int .i64 a0_3, .int .i64 a0_4, .int .i64 a0_5]] w fun e w' => e = .returned (.bool true) ∧ Below w.heap.size w w' := by
  have h := P l0_0 a0_1 a0_2 a0_3 a0_4 a0_5 y0
  refine (forebaylaw24_ShareTells.calls A0_0 c0_0 l0_0 a0_1 a0_2 a0_3 a0_4 a0_5 true w hr0_0 hc0_0 h).mono ?_
  rintro e w' ⟨rfl, hd⟩
  exact ⟨rfl, hd⟩

end Go.Proofs.Ytjhpgfgpchgabaa.P
