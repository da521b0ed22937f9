-- Written by this session's program gprint.py: functions of the program as plain functions, and that the machine does what they say. Not trusted: Lean checks it.
import Derived.Test.YtphmejgipjcppaaPx0
import Derived.Test.YtphmejgipjcppaaPx1
namespace Go.Proofs.Ytphmejgipjcppaa.P
open Go.RowKit Go.Proofs.YtphmejgipjcppaaW.PrintWords Go.Proofs.YtphmejgipjcppaaW.PrintLast Go.Proofs.YtphmejgipjcppaaW.PrintMore
attribute [local go_sem] max2_int min2_int max_two min_two max_three min_three max_four min_four   -- for this text's walks alone
set_option linter.unusedVariables false
set_option linter.unusedSimpArgs false

/-! ### forebaylaw01_head: function 6 -/
def headInt (k : Nat) : Prop := pack_Int.f k [] [-1, 1, -64, 64] = some [1, 2, 127, 128, 1]
instance (k : Nat) : Decidable (headInt k) := by unfold headInt; infer_instance
def forebaylaw01_head.f (k : Nat) : Option Bool := if headInt k then some true else none
theorem forebaylaw01_head.mono : ∀ k, LeO (forebaylaw01_head.f k) (forebaylaw01_head.f (k + 1)) := by
  intro k r h
  unfold forebaylaw01_head.f at h ⊢
  by_cases hk : headInt k
  · rw [if_pos hk] at h
    rw [if_pos (show headInt (k + 1) from pack_Int.mono _ _ _ _ hk)]
    exact h
  · rw [if_neg hk] at h; cases h
theorem lits4 {e : TypeId} (k : IntKind) (W : World) (x y z u : Int) : Kd.C (Kd.int k) (W.alloc (.cells #[.int k x, .int k y, .int k z, .int k u] e)) (some ⟨W.heap.size, 0, none⟩) 4 [x, y, z, u] := by
  have h : (W.alloc (.cells #[.int k x, .int k y, .int k z, .int k u] e)).ownsRow W.heap.size e 1 (.slice (some ⟨W.heap.size, 0, none⟩) 4 4) 4 ([x, y, z, u].map (Value.int k)) :=
    ⟨rfl, .inr ⟨W.heap.size, 4, _, rfl, Nat.le_refl _, World.alloc_heap_new W _, Nat.le_refl _, by decide, rfl, rfl⟩⟩
  exact Kd.F_now (F_of_own (enc := Value.int k) (h1 := fun _ => rfl) h)
theorem headv1 : numS ⟨#[172, 2, 127, 3, 97, 98, 99, 1]⟩ true = (300, ⟨#[127, 3, 97, 98, 99, 1]⟩, true) := by rfl
theorem headv2 : numS ⟨#[127, 3, 97, 98, 99, 1]⟩ true = (127, ⟨#[3, 97, 98, 99, 1]⟩, true) := by rfl
theorem headv3 : textS ⟨#[3, 97, 98, 99, 1]⟩ true 3 = (⟨#[97, 98, 99]⟩, ⟨#[1]⟩, true) := by rfl
theorem headv4 : flagS ⟨#[1]⟩ true = (true, ⟨#[]⟩, true) := by rfl
theorem headv5 : numS ⟨#[128, 0]⟩ true = (0, ⟨#[]⟩, false) := by rfl
theorem headv6 : numsT [0, 127, 128, 300] = [0, 127, 128, 1, 172, 2] := by
  simp [numsT, numT_last, numT_more]
theorem headv7 : strOfNums [0, 127, 128, 1, 172, 2] = ⟨#[0, 127, 128, 1, 172, 2]⟩ := by rfl
theorem headv8 : strOfNums [1, 2, 127, 128, 1] = ⟨#[1, 2, 127, 128, 1]⟩ := by rfl
set_option maxHeartbeats 4000000 in
theorem forebaylaw01_head.calls (k : Nat) (r : Bool) (w : World) (h : forebaylaw01_head.f k = some r) :
    Calls Try.prog 6 #[] w fun e w' => e = .returned (.bool r) ∧ Below w.heap.size w w' := by
  unfold forebaylaw01_head.f at h
  by_cases hk : headInt k
  case neg => rw [if_neg hk] at h; cases h
  rw [if_pos hk] at h
  obtain rfl := Option.some.inj h
  clear h
  have hk := Aside0.mk (show pack_Int.f k [] [-1, 1, -64, 64] = some [1, 2, 127, 128, 1] from hk)
  have c1 : Aside0 (∀ (b : Nat) (W : World), RdAt W b ⟨#[172, 2, 127, 3, 97, 98, 99, 1]⟩ true → Calls Try.prog 9 #[.pointer (some ⟨b, 0, none⟩)] W fun e w' => e = .returned (.int .u64 300) ∧ RdAt w' b ⟨#[127, 3, 97, 98, 99, 1]⟩ true ∧ Keeps (fun k => k ≠ b) W w') :=
    ⟨fun b W h => by have := pack_RNum_calls b _ _ W h (by decide); rwa [headv1] at this⟩
  have c2 : Aside0 (∀ (b : Nat) (W : World), RdAt W b ⟨#[127, 3, 97, 98, 99, 1]⟩ true → Calls Try.prog 16 #[.pointer (some ⟨b, 0, none⟩)] W fun e w' => e = .returned (.int .i64 (-64)) ∧ RdAt w' b ⟨#[3, 97, 98, 99, 1]⟩ true ∧ Keeps (fun k => k ≠ b) W w') :=
    ⟨fun b W h => by have := pack_RInt_calls b _ _ W h (by decide); rwa [headv2] at this⟩
  have c3 : Aside0 (∀ (b : Nat) (W : World), RdAt W b ⟨#[3, 97, 98, 99, 1]⟩ true → Calls Try.prog 10 #[.pointer (some ⟨b, 0, none⟩), .int .i64 3] W fun e w' => e = .returned (.string ⟨#[97, 98, 99]⟩) ∧ RdAt w' b ⟨#[1]⟩ true ∧ Keeps (fun k => k ≠ b) W w') :=
    ⟨fun b W h => by have := pack_RText_calls b _ _ 3 W h (by decide) (by decide); rwa [headv3] at this⟩
  have c4 : Aside0 (∀ (b : Nat) (W : World), RdAt W b ⟨#[1]⟩ true → Calls Try.prog 17 #[.pointer (some ⟨b, 0, none⟩)] W fun e w' => e = .returned (.bool true) ∧ RdAt w' b ⟨#[]⟩ true ∧ Keeps (fun k => k ≠ b) W w') :=
    ⟨fun b W h => by have := pack_RFlag_calls b _ _ W h (by decide); rwa [headv4] at this⟩
  have c5 : Aside0 (∀ (b : Nat) (W : World), RdAt W b ⟨#[128, 0]⟩ true → Calls Try.prog 9 #[.pointer (some ⟨b, 0, none⟩)] W fun e w' => e = .returned (.int .u64 0) ∧ RdAt w' b ⟨#[]⟩ false ∧ Keeps (fun k => k ≠ b) W w') :=
    ⟨fun b W h => by have := pack_RNum_calls b _ _ W h (by decide); rwa [headv5] at this⟩
  have c6 : Aside0 (∀ (W : World) (A : Option Addr), Kd.C (Kd.int .u64) W A 4 [0, 127, 128, 300] → Calls Try.prog 13 #[.slice none 0 0, .slice A 4 4] W fun e w' => (∃ g, e = .returned (.slice (some ⟨g, 0, none⟩) 6 6) ∧ (convert 31 9 (.slice (some ⟨g, 0, none⟩) 6 6)).run Try.prog w' = .ok (.string ⟨#[0, 127, 128, 1, 172, 2]⟩) w') ∧ Below W.heap.size W w') :=
    ⟨fun W A h => by
      have := pack_Num_own none 0 [] A 4 [0, 127, 128, 300] W (Kd.F_now (Kd.F_nil _ _ (fun _ => True))) h (by decide) (by decide) (by decide)
      rw [headv6] at this
      refine this.mono ?_
      rintro e w' ⟨g, rfl, hF, hb⟩
      refine ⟨⟨g, rfl, ?_⟩, hb⟩
      have := Kd.C_string (c := 6) Try.underlying31 Try.underlying5 Try.underlying9 (Kd.F_now hF)
      rw [List.nil_append, headv7] at this
      exact this⟩
  have c7 : Aside0 (∀ (W : World) (A : Option Addr), Kd.C (Kd.int .i64) W A 4 [-1, 1, -64, 64] → Calls Try.prog 14 #[.slice none 0 0, .slice A 4 4] W fun e w' => (∃ v, e = .returned v ∧ (convert 31 9 v).run Try.prog w' = .ok (.string ⟨#[1, 2, 127, 128, 1]⟩) w') ∧ Below W.heap.size W w') :=
    ⟨fun W A h => by
      refine (pack_Int.calls k none 0 [] A 4 [-1, 1, -64, 64] _ W (Kd.F_now (Kd.F_nil _ _ (fun _ => True))) (Nat.le_refl _) h (Nat.le_refl _) hk.out).mono ?_
      rintro e w' ⟨v, rfl, hV, hb⟩
      obtain ⟨A', c', rfl, hc, hF⟩ := hV
      refine ⟨⟨_, rfl, ?_⟩, hb⟩
      have := Kd.C_string (c := c') Try.underlying31 Try.underlying5 Try.underlying9 (Kd.F_now hF)
      rw [headv8] at this
      exact this⟩
  clear hk
  obtain ⟨H, hH⟩ : ∃ H, w.heap.size = H := ⟨_, rfl⟩
  go_enter Try.func6, Try.ntmps6
  go_upto_region 3 with (first | (go_at_call 7; with_reducible refine (pack_Open_calls _ _).mono ?_; rintro e w1 ⟨rfl, hR1, hb1⟩; rw [hH] at hR1 hb1 ⊢; replace hR1 := Aside0.mk hR1; replace hb1 := Aside0.mk hb1) | (go_at_call 9; with_reducible refine (c1.out _ _ hR1.out).mono ?_; rintro e w2 ⟨rfl, hR2, hK2⟩; replace hR2 := Aside0.mk hR2; replace hK2 := Aside0.mk hK2) | (go_at_call 16; with_reducible refine (c2.out _ _ hR2.out).mono ?_; rintro e w3 ⟨rfl, hR3, hK3⟩; replace hR3 := Aside0.mk hR3; replace hK3 := Aside0.mk hK3) | (go_at_call 10; with_reducible refine (c3.out _ _ hR3.out).mono ?_; rintro e w4 ⟨rfl, hR4, hK4⟩; replace hR4 := Aside0.mk hR4; replace hK4 := Aside0.mk hK4) | (go_at_call 17; with_reducible refine (c4.out _ _ hR4.out).mono ?_; rintro e w5 ⟨rfl, hR5, hK5⟩; replace hR5 := Aside0.mk hR5; replace hK5 := Aside0.mk hK5))
  have hb5 : Aside0 (Below H w w5) := ⟨hb1.out.trans (((hK2.out.trans hK3.out).trans (hK4.out.trans hK5.out)).below (by have := hR1.out.lt; omega) (fun k hk => by omega))⟩
  clear hb1 hK2 hK3 hK4 hK5 hR1 hR2 hR3 hR4
  have hlt5 := hR5.out.lt
  obtain ⟨H2, hH2⟩ : ∃ H2, w5.heap.size = H2 := ⟨_, rfl⟩
  go_upto_region 5 with (first | (go_at_call 7; with_reducible refine (pack_Open_calls _ _).mono ?_; rintro e w6 ⟨rfl, hR6, hb6⟩; rw [hH2] at hR6 hb6 ⊢; replace hR6 := Aside0.mk hR6; replace hb6 := Aside0.mk hb6) | (go_at_call 9; with_reducible refine (c5.out _ _ hR6.out).mono ?_; rintro e w7 ⟨rfl, hR7, hK7⟩; replace hR7 := Aside0.mk hR7; replace hK7 := Aside0.mk hK7))
  have hb7 : Aside0 (Below H w w7) := ⟨(hb5.out.trans (hb6.out.mono (by omega))).trans (hK7.out.below (by have := hR6.out.lt; omega) (fun k hk => by omega))⟩
  have hQ7 : Aside0 (RdAt w7 H ⟨#[]⟩ true) := ⟨(hR5.out.below hb6.out (by omega)).keeps hK7.out (by omega)⟩
  have hlt7 : H < H2 := by omega
  have hlt8 := hR7.out.lt
  clear hb5 hb6 hK7 hR5 hR6 hH2 hlt5
  go_wp2_with (first | (go_at_call 13; with_reducible refine (c6.out _ _ (lits4 .u64 _ 0 127 128 300)).mono ?_; rintro e w8 ⟨⟨g8, rfl, hcv8⟩, hb8⟩; replace hb8 := Aside0.mk hb8) | (go_at_call 14; with_reducible refine (c7.out _ _ (lits4 .i64 _ (-1) 1 (-64) 64)).mono ?_; rintro e w9 ⟨⟨v9, rfl, hcv9⟩, hb9⟩; replace hb9 := Aside0.mk hb9; have hQ9 := Aside0.mk ((((hQ7.out.alloc _).belowS hb8.out).alloc _).belowS hb9.out); have hX9 := Aside0.mk ((((hR7.out.alloc _).belowS hb8.out).alloc _).belowS hb9.out)) | (go_at_call 12; with_reducible refine (pack_Over_calls _ _ _ _ hQ9.out).mono ?_; rintro e wA ⟨rfl, rfl⟩) | (go_at_call 11; with_reducible refine (pack_Fine_calls _ _ _ _ hX9.out).mono ?_; rintro e wB ⟨rfl, rfl⟩))
  go_ret
  refine ⟨rfl, ?_⟩
  have h1 := hb7.out.trans (((Below.refl w7.heap.size w7).alloc (Nat.le_refl _) (.cells #[.int .u64 0, .int .u64 127, .int .u64 128, .int .u64 300] 25)).mono (by omega))
  have h2 := h1.trans (hb8.out.mono (by simp; omega))
  have h3 := h2.trans (((Below.refl w8.heap.size w8).alloc (Nat.le_refl _) (.cells #[.int .i64 (-1), .int .i64 1, .int .i64 (-64), .int .i64 64] 2)).mono (by have := hb8.out.size; simp at this; omega))
  rw [hH]
  exact h3.trans (hb9.out.mono (by have := hb8.out.size; simp at this ⊢; omega))

/-! ### forebayref01_Num: function 21 -/
def forebayref01_Num.l0 : Nat → Int → ByteArray → Option (ByteArray)
  | 0, _, _ => none
  | k + 1, x0, x3 => if x0 ≥ 128 then ((some (([(IntKind.u64.wrap ((Int.tmod x0 128) + 128)) % 256] : List Int) : List Int)).bind fun y112 => (if x3.size + (strOfNums y112).size ≤ 9223372036854775807 then (forebayref01_Num.l0 k (IntKind.u64.wrap (Int.tdiv x0 128)) (x3 ++ (strOfNums y112))) else (none))) else ((some (([(x0) % 256] : List Int) : List Int)).bind fun y115 => (if x3.size + (strOfNums y115).size ≤ 9223372036854775807 then (some (x3 ++ (strOfNums y115))) else (none)))
def forebayref01_Num.f (k : Nat) (a0 : Int) : Option (ByteArray) := forebayref01_Num.l0 k a0 (⟨#[]⟩ : ByteArray)
theorem forebayref01_Num.mono_l : ∀ k, (∀ y0 y1, LeO (forebayref01_Num.l0 k y0 y1) (forebayref01_Num.l0 (k + 1) y0 y1))
  | 0 => fun _ _ r h => by simp [forebayref01_Num.l0] at h
  | k + 1 => by
    have ih0 := forebayref01_Num.mono_l k
    · intro y0 y1
      unfold forebayref01_Num.l0
      repeat' first
      | (with_reducible exact ih0 _ _)
      | (with_reducible exact LeO.refl _)
      | (with_reducible exact LeO.none _)
      | (with_reducible refine LeO.ite ?_ ?_)
      | (with_reducible refine LeO.bind ?_ (fun _ => ?_))
      | exact ih0 _ _
      | exact LeO.none _
      | refine LeO.ite ?_ ?_
      | refine LeO.bind ?_ (fun _ => ?_)
theorem forebayref01_Num.mono : ∀ a0 k, LeO (forebayref01_Num.f k a0) (forebayref01_Num.f (k + 1) a0) := by
  intro a0 k
  have ih0 := forebayref01_Num.mono_l k
  unfold forebayref01_Num.f
  repeat' first
      | (with_reducible exact ih0 _ _)
      | (with_reducible exact LeO.refl _)
      | (with_reducible exact LeO.none _)
      | (with_reducible refine LeO.ite ?_ ?_)
      | (with_reducible refine LeO.bind ?_ (fun _ => ?_))
      | exact ih0 _ _
      | exact LeO.none _
      | refine LeO.ite ?_ ?_
      | refine LeO.bind ?_ (fun _ => ?_)
set_option maxHeartbeats 8000000 in
set_option maxRecDepth 100000 in
theorem forebayref01_Num.calls (k : Nat) (a0 : Int) (r : ByteArray) (w : World) (h : forebayref01_Num.f k a0 = some r) :
    Calls Try.prog 21 #[.int .u64 a0] w fun e w' => e = .returned (.string r) ∧ Below w.heap.size w w' := by
  have HB := Aside0.mk (Below.refl w.heap.size w)
  have H : (forebayref01_Num.l0 k a0 (⟨#[]⟩ : ByteArray)) = some r := h
  clear h
  have H' := Aside0.mk H
  clear H
  go_enter Try.func21, Try.ntmps21
  go_wp2
  go_loopg [0, 3] k (fun kq v0 v3 w' => ∃ (x0_1 : Int) (x3_1 : ByteArray), v0 = .int .u64 x0_1 ∧ v3 = .string x3_1 ∧ Aside0 (forebayref01_Num.l0 kq x0_1 x3_1 = some r) ∧ Aside0 (kq ≤ k) ∧ Aside0 (Below w.heap.size w w'))
  case atStart => exact ⟨(a0), ((⟨#[]⟩ : ByteArray)), (by first | rfl | (simp; done) | (simp [*]; done) | (simp; exact isEmpty_bne _)), (by first | rfl | (simp; done) | (simp [*]; done) | (simp; exact isEmpty_bne _)), H', ⟨Nat.le_refl _⟩, ⟨by repeat (first | (with_reducible first | exact HB.out | apply below_alloc | apply pw_below_drewN | apply below_drew1) | exact HB.out)⟩⟩
  case round =>
    clear H'
    obtain ⟨x0_1, x3_1, rfl, rfl, HA, HK1, HB⟩ := hrel
    cases gk with
    | zero => exact absurd HA.out (by simp [forebayref01_Num.l0])
    | succ k1 =>
      have H := HA.out
      clear HA
      simp only [forebayref01_Num.l0] at H
      by_cases c2 : x0_1 ≥ 128
      · rw [if_pos c2] at H
        have c2b0 : decide (128 ≤ x0_1) = true := decide_eq_true c2
        clear c2
        obtain ⟨y112, hy112⟩ : ∃ y_ : List Int, y_ = (([(IntKind.u64.wrap ((Int.tmod x0_1 128) + 128)) % 256] : List Int)) := ⟨_, rfl⟩
        replace H : (if x3_1.size + (strOfNums y112).size ≤ 9223372036854775807 then (forebayref01_Num.l0 k1 (IntKind.u64.wrap (Int.tdiv x0_1 128)) (x3_1 ++ (strOfNums y112))) else (none)) = some r := by first | (rw [hy112]; with_reducible exact H) | (have H2_ := (Option.bind_some _ _).symm.trans H; rw [hy112]; with_reducible exact H2_) | (have H2_ := (Option.bind_some _ _).symm.trans H; with_reducible exact H2_) | with_reducible exact H | (rw [hy112]; exact H) | exact H
        have Ny112 := Aside0.mk hy112
        clear hy112
        by_cases c3 : x3_1.size + (strOfNums y112).size ≤ 9223372036854775807
        · rw [if_pos c3] at H
          have c3b0 := eq_true c3
          have c3b1 : decide (x3_1.size + (strOfNums y112).size ≤ 9223372036854775807) = true := decide_eq_true c3
          try have c3b2 : (9223372036854775807 < x3_1.size + (strOfNums y112).size) = False := eq_false (Nat.not_lt.2 c3)
          have H' := Aside0.mk H
          clear H
          go_wp2_with (first | ((with_reducible refine gate_dst (N := 11) rfl ?_); refine Kd.R_lit (Kd.int .u8) _ 5 ?hg (N := 11) ?hd (xs := ([(IntKind.u64.wrap ((Int.tmod x0_1 128) + 128)) % 256] : List Int)) (inner := [.int .u8 ((IntKind.u64.wrap ((Int.tmod x0_1 128) + 128)) % 256)]) (ok := fun _ => True) (okp := fun _ => True) ?hr ?hp (fun _ hk => hk) trivial (Below.refl _ _) (Nat.le_refl _) (by simp) ?_; (case hd => rfl); (case hg => rfl); (case hr => first | (go_simp; done) | (go_simp; rfl)); (case hp => exact (Reps.one (show Kd.M (Kd.int .u8) _ _ _ ((IntKind.u64.wrap ((Int.tmod x0_1 128) + 128)) % 256) [.int .u8 ((IntKind.u64.wrap ((Int.tmod x0_1 128) + 128)) % 256)] from rfl) (Reps.none _ _))); intro v113 w4 ho5 hb hg_ hnew_; clear hg_ hnew_; (first | rw [← Ny112.out] at ho5 | (simp only [Int.reduceToNat] at ho5; rw [← Ny112.out] at ho5)); have n0_ := Aside0.mk (Kd.R_lower ho5 (below_size (by repeat (first | (with_reducible first | exact HB.out | apply below_alloc | apply pw_below_drewN | apply below_drew1) | exact HB.out)))); have n1_ := Aside0.mk (below_step (by repeat (first | (with_reducible first | exact HB.out | apply below_alloc | apply pw_below_drewN | apply below_drew1) | exact HB.out)) hb); clear HB; have HO114 := n0_; have HB := n1_; clear n0_ n1_; clear hb ho5; have hcv6 := own_string (P := Try.prog) Try.underlying31 Try.underlying5 Try.underlying9 (Kd.own_of_R HO114.out)))
          go_roundg k1
          case measure => have := HK1.out; omega
          case rel => exact ⟨(IntKind.u64.wrap (Int.tdiv x0_1 128)), (x3_1 ++ (strOfNums y112)), (by first | rfl | (simp; done) | (simp [*]; done) | (simp; exact isEmpty_bne _)), (by first | rfl | (simp; done) | (simp [*]; done) | (simp; exact isEmpty_bne _)), H', ⟨by have := HK1.out; omega⟩, ⟨by repeat (first | (with_reducible first | exact HB.out | apply below_alloc | apply pw_below_drewN | apply below_drew1) | exact HB.out)⟩⟩
        · rw [if_neg c3] at H
          exact absurd H (by simp)
      · rw [if_neg c2] at H
        have c2b0 : decide (128 ≤ x0_1) = false := decide_eq_false c2
        clear c2
        obtain ⟨y115, hy115⟩ : ∃ y_ : List Int, y_ = (([(x0_1) % 256] : List Int)) := ⟨_, rfl⟩
        replace H : (if x3_1.size + (strOfNums y115).size ≤ 9223372036854775807 then (some (x3_1 ++ (strOfNums y115))) else (none)) = some r := by first | (rw [hy115]; with_reducible exact H) | (have H2_ := (Option.bind_some _ _).symm.trans H; rw [hy115]; with_reducible exact H2_) | (have H2_ := (Option.bind_some _ _).symm.trans H; with_reducible exact H2_) | with_reducible exact H | (rw [hy115]; exact H) | exact H
        have Ny115 := Aside0.mk hy115
        clear hy115
        by_cases c7 : x3_1.size + (strOfNums y115).size ≤ 9223372036854775807
        · rw [if_pos c7] at H
          have c7b0 := eq_true c7
          have c7b1 : decide (x3_1.size + (strOfNums y115).size ≤ 9223372036854775807) = true := decide_eq_true c7
          try have c7b2 : (9223372036854775807 < x3_1.size + (strOfNums y115).size) = False := eq_false (Nat.not_lt.2 c7)
          obtain rfl := Option.some.inj H
          go_wp2_with (first | ((with_reducible refine gate_dst (N := 19) rfl ?_); refine Kd.R_lit (Kd.int .u8) _ 5 ?hg (N := 19) ?hd (xs := ([(x0_1) % 256] : List Int)) (inner := [.int .u8 ((x0_1) % 256)]) (ok := fun _ => True) (okp := fun _ => True) ?hr ?hp (fun _ hk => hk) trivial (Below.refl _ _) (Nat.le_refl _) (by simp) ?_; (case hd => rfl); (case hg => rfl); (case hr => first | (go_simp; done) | (go_simp; rfl)); (case hp => exact (Reps.one (show Kd.M (Kd.int .u8) _ _ _ ((x0_1) % 256) [.int .u8 ((x0_1) % 256)] from rfl) (Reps.none _ _))); intro v116 w8 ho9 hb hg_ hnew_; clear hg_ hnew_; (first | rw [← Ny115.out] at ho9 | (simp only [Int.reduceToNat] at ho9; rw [← Ny115.out] at ho9)); have n0_ := Aside0.mk (Kd.R_lower ho9 (below_size (by repeat (first | (with_reducible first | exact HB.out | apply below_alloc | apply pw_below_drewN | apply below_drew1) | exact HB.out)))); have n1_ := Aside0.mk (below_step (by repeat (first | (with_reducible first | exact HB.out | apply below_alloc | apply pw_below_drewN | apply below_drew1) | exact HB.out)) hb); clear HB; have HO117 := n0_; have HB := n1_; clear n0_ n1_; clear hb ho9; have hcv10 := own_string (P := Try.prog) Try.underlying31 Try.underlying5 Try.underlying9 (Kd.own_of_R HO117.out)))
          go_ret
          exact ⟨by first | rfl | (simp [errW_none, errW_some] <;> rfl) | (simp [*, errW_none, errW_some] <;> rfl), by repeat (first | (with_reducible first | exact HB.out | apply below_alloc | apply pw_below_drewN | apply below_drew1) | exact HB.out)⟩
        · rw [if_neg c7] at H
          exact absurd H (by simp)

/-! ### forebayref01_Int: function 22 -/
def forebayref01_Int.f (k : Nat) (a0 : Int) : Option (ByteArray) := if a0 ≥ 0 then ((forebayref01_Num.f k (IntKind.u64.wrap (2 * (IntKind.u64.wrap (a0))))).bind fun t118 => (some t118)) else ((forebayref01_Num.f k (IntKind.u64.wrap ((IntKind.u64.wrap (2 * (IntKind.u64.wrap (wrap64 (-(wrap64 (a0 + 1))))))) + 1))).bind fun t119 => (some t119))
theorem forebayref01_Int.mono : ∀ a0 k, LeO (forebayref01_Int.f k a0) (forebayref01_Int.f (k + 1) a0) := by
  intro a0 k
  unfold forebayref01_Int.f
  repeat' first
      | (with_reducible exact forebayref01_Num.mono _ _)
      | (with_reducible exact LeO.refl _)
      | (with_reducible exact LeO.none _)
      | (with_reducible refine LeO.ite ?_ ?_)
      | (with_reducible refine LeO.bind ?_ (fun _ => ?_))
      | exact forebayref01_Num.mono _ _
      | exact LeO.none _
      | refine LeO.ite ?_ ?_
      | refine LeO.bind ?_ (fun _ => ?_)
set_option maxHeartbeats 8000000 in
set_option maxRecDepth 100000 in
theorem forebayref01_Int.calls (k : Nat) (a0 : Int) (r : ByteArray) (w : World) (h : forebayref01_Int.f k a0 = some r) :
    Calls Try.prog 22 #[.int .i64 a0] w fun e w' => e = .returned (.string r) ∧ Below w.heap.size w w' := by
  have HB := Aside0.mk (Below.refl w.heap.size w)
  have H : (if a0 ≥ 0 then ((forebayref01_Num.f k (IntKind.u64.wrap (2 * (IntKind.u64.wrap (a0))))).bind fun t118 => (some t118)) else ((forebayref01_Num.f k (IntKind.u64.wrap ((IntKind.u64.wrap (2 * (IntKind.u64.wrap (wrap64 (-(wrap64 (a0 + 1))))))) + 1))).bind fun t119 => (some t119))) = some r := h
  clear h
  by_cases c2 : a0 ≥ 0
  · rw [if_pos c2] at H
    have c2b0 : decide (0 ≤ a0) = true := decide_eq_true c2
    clear c2
    replace H := Option.bind_eq_some_iff.mp H
    obtain ⟨t118, A30, H⟩ := H
    replace H : (some t118) = some r := H
    have A3 := Aside0.mk A30
    clear A30
    obtain rfl := Option.some.inj H
    go_enter Try.func22, Try.ntmps22
    go_wp2_with (first | ((with_reducible refine gate_callee (f := 21) rfl ?_); refine goesL_ (some 8) rfl rfl Try.func21 (by kernel_rfl) rfl #[.int .u64 (IntKind.u64.wrap (2 * (IntKind.u64.wrap (a0))))] rfl (by (try simp only [List.map_toArray, List.map_cons, List.map_nil]); first | done | rfl | (simp only [List.length_drop, List.length_take]; rfl)) ?_; (with_reducible refine (forebayref01_Num.calls k (IntKind.u64.wrap (2 * (IntKind.u64.wrap (a0)))) t118 _ A3.out).mono ?_); rintro e w4 ⟨rfl, hb⟩; refine ⟨_, rfl, ?_⟩; have n0_ := Aside0.mk (below_step (by repeat (first | (with_reducible first | exact HB.out | apply below_alloc | apply pw_below_drewN | apply below_drew1) | exact HB.out)) hb); clear HB; have HB := n0_; clear n0_; (try clear hb); (try clear hb2); (try clear hk); (try clear hi)))
    go_ret
    exact ⟨by first | rfl | (simp [errW_none, errW_some] <;> rfl) | (simp [*, errW_none, errW_some] <;> rfl), by repeat (first | (with_reducible first | exact HB.out | apply below_alloc | apply pw_below_drewN | apply below_drew1) | exact HB.out)⟩
  · rw [if_neg c2] at H
    have c2b0 : decide (0 ≤ a0) = false := decide_eq_false c2
    clear c2
    replace H := Option.bind_eq_some_iff.mp H
    obtain ⟨t119, A50, H⟩ := H
    replace H : (some t119) = some r := H
    have A5 := Aside0.mk A50
    clear A50
    obtain rfl := Option.some.inj H
    go_enter Try.func22, Try.ntmps22
    go_wp2_with (first | ((with_reducible refine gate_callee (f := 21) rfl ?_); refine goesL_ (some 15) rfl rfl Try.func21 (by kernel_rfl) rfl #[.int .u64 (IntKind.u64.wrap ((IntKind.u64.wrap (2 * (IntKind.u64.wrap (wrap64 (-(wrap64 (a0 + 1))))))) + 1))] rfl (by (try simp only [List.map_toArray, List.map_cons, List.map_nil]); first | done | rfl | (simp only [List.length_drop, List.length_take]; rfl)) ?_; (with_reducible refine (forebayref01_Num.calls k (IntKind.u64.wrap ((IntKind.u64.wrap (2 * (IntKind.u64.wrap (wrap64 (-(wrap64 (a0 + 1))))))) + 1)) t119 _ A5.out).mono ?_); rintro e w6 ⟨rfl, hb⟩; refine ⟨_, rfl, ?_⟩; have n0_ := Aside0.mk (below_step (by repeat (first | (with_reducible first | exact HB.out | apply below_alloc | apply pw_below_drewN | apply below_drew1) | exact HB.out)) hb); clear HB; have HB := n0_; clear n0_; (try clear hb); (try clear hb2); (try clear hk); (try clear hi)))
    go_ret
    exact ⟨by first | rfl | (simp [errW_none, errW_some] <;> rfl) | (simp [*, errW_none, errW_some] <;> rfl), by repeat (first | (with_reducible first | exact HB.out | apply below_alloc | apply pw_below_drewN | apply below_drew1) | exact HB.out)⟩

/-! ### pack_Text: function 23 -/
/-- A text behind a row that has no room. -/
theorem run_append_text {P : Program} {t u ty e : TypeId} {i : TypeInfo} (ht : P.underlying t = some (.slice e)) (hu : P.underlying u = some .string) (hi : P.info? e = some i) (hz : i.zero = some (.int .u8 0)) (hsize : i.size = 1) (hby : i.bytes = 1)
    {W : World} {g n : Nat} {ys : List Int} (hC : Kd.C (Kd.int .u8) W (some ⟨g, 0, none⟩) n ys) (s : ByteArray) (hl : n + s.size ≤ 140737488355328) :
    ∃ g' c' w', (Builtin.append_ #[t, u] ty #[.slice (some ⟨g, 0, none⟩) n n, .string s]).run P W = .ok (.slice (some ⟨g', 0, none⟩) (n + s.size) c') w' ∧ n + s.size ≤ c' ∧ Kd.C (Kd.int .u8) w' (some ⟨g', 0, none⟩) (n + s.size) (ys ++ bytesOf s) ∧ Below W.heap.size W w' := by
  have hyl : ys.length = n := hC.1
  have holds : ∀ j v, (nums .u8 ys)[j]? = some v → W.cell? ((⟨g, 0, none⟩ : Addr).add j) = some v := by
    intro j v hv
    unfold nums at hv
    rw [List.getElem?_map, Option.map_eq_some_iff] at hv
    obtain ⟨x, hx, rfl⟩ := hv
    have hlt := (List.getElem?_eq_some_iff.1 hx).1
    obtain ⟨ad, h1, h2⟩ := Kd.at_int hC (j : Int) (by omega) (by omega)
    injection h1 with h1
    subst h1
    rw [Int.toNat_natCast] at h2
    rw [h2, rd, Int.toNat_natCast, List.getD_eq_getElem?_getD, hx]
    rfl
  by_cases hs : s.size = 0
  · have hc : Lib.strCells s = [] := List.eq_nil_of_length_eq_zero (by rw [Lib.strCells_length]; exact hs)
    have hb : bytesOf s = [] := List.eq_nil_of_length_eq_zero (by rw [bytesOf_length]; exact hs)
    have hf := Lib.run_firstCells_string (P := P) W 1 s
    rw [hc, hs] at hf
    refine ⟨g, n, W, ?_, by omega, by rw [hb, hs]; simpa using hC, Below.refl _ _⟩
    simp [Builtin.append_, run_underlying ht, run_underlying hu, sizeOf, typeInfo, hi, hsize, Builtin.lenOf, hs, hf, storeCells]
  · have hr := Lib.run_append_grow_string (P := P) W t u ty e i (.int .u8 0) ht hu hi hz ⟨g, 0, none⟩ n n (nums .u8 ys) (by rw [hsize]; simp [nums, hyl]) holds s (by omega) (by omega) (by rw [hby]; exact growslice_fits (by omega) (by omega))
    have hge := grownCap_ge W (n + s.size) n e
    have hcm : grownCap W (n + s.size) n e ≤ maxLen := grownCap_le_maxLen W (n + s.size) n e (by simp only [maxLen]; omega)
    refine ⟨W.heap.size, _, _, hr, hge, ?_, (below_drew (Below.refl _ W)).alloc (Nat.le_refl _) _⟩
    have hcells : nums .u8 (ys ++ bytesOf s) = nums .u8 ys ++ Lib.strCells s := by
      rw [nums_append]
      congr 1
      simp [nums, bytesOf, Lib.strCells]
    have hlen : (nums .u8 (ys ++ bytesOf s)).length = (n + s.size) * 1 := by rw [hcells, List.length_append, Lib.strCells_length]; simp [nums, hyl]
    have hown : (W.drew.alloc (.cells ((nums .u8 ys).toArray ++ (Lib.strCells s).toArray ++ Builtin.zeroCells (Value.int .u8 0).cells (grownCap W (n + s.size) n e - (n + s.size))) e)).ownsRow W.heap.size e 1 (.slice (some ⟨W.heap.size, 0, none⟩) (n + s.size) (grownCap W (n + s.size) n e)) (n + s.size) (nums .u8 (ys ++ bytesOf s)) := by
      refine ⟨hlen, .inr ⟨W.heap.size, _, _, rfl, Nat.le_refl _, heap_alloc_new W.drew _, hge, hcm, ?_, ?_⟩⟩
      · have hz1 : (Value.int IntKind.u8 0).cells.size = 1 := rfl
        simp only [Array.size_append, List.size_toArray, size_zeroCells, hz1, Lib.strCells_length]
        simp [nums, hyl]
        omega
      · simp only [Array.toList_append, List.append_assoc]
        rw [← List.append_assoc, ← hcells, ← hlen]
        exact List.take_left
    exact Kd.F_now (F_of_own (enc := Value.int .u8) (h1 := fun _ => rfl) hown)
theorem wpList_append_text {P : Program} {ops : Array Oper} {rest : List Oper} {o : Oper} {a : Act} {Q : Exit → Act → World → Prop} {t u e : TypeId} {i : TypeInfo} (hgd : o.guard = none) (sl x : Operand) (ho : o.op = .call { callee := .builtin .append, args := #[sl, x], argTypes := #[t, u] })
    (ht : P.underlying t = some (.slice e)) (hu : P.underlying u = some .string) (hi : P.info? e = some i) (hz : i.zero = some (.int .u8 0)) (hsize : i.size = 1) (hby : i.bytes = 1)
    {W : World} {g n : Nat} {ys : List Int} (s : ByteArray) (hs : a.eval sl = .slice (some ⟨g, 0, none⟩) n n) (hx : a.eval x = .string s) (hC : Kd.C (Kd.int .u8) W (some ⟨g, 0, none⟩) n ys) (hl : n + s.size ≤ 140737488355328)
    (h : ∀ g' c' w', n + s.size ≤ c' → Kd.C (Kd.int .u8) w' (some ⟨g', 0, none⟩) (n + s.size) (ys ++ bytesOf s) → Below W.heap.size W w' → wpList P ops Q rest (a.put o.dst (.slice (some ⟨g', 0, none⟩) (n + s.size) c')) w') : wpList P ops Q (o :: rest) a W := by
  refine wpList_plain hgd fun K hK => ?_
  obtain ⟨g', c', w', hr, h2, h3, h4⟩ := run_append_text (P := P) (ty := o.type) ht hu hi hz hsize hby hC s hl
  unfold Oper.wp execOp
  simp only [ho, resolve, invoke, builtin, Sem.run_bind, Sem.run_pure, Result.andThen_ok, List.map_toArray, List.map_cons, List.map_nil, hs, hx, hr]
  exact hK _ _ (h g' c' w' h2 h3 h4)
/-- Several texts' bytes. -/
def textsT (l : List ByteArray) : List Int := l.flatMap (fun s => numT (s.size : Int) ++ bytesOf s)
theorem textsT_snoc (l : List ByteArray) (x : ByteArray) : textsT (l ++ [x]) = textsT l ++ (numT (x.size : Int) ++ bytesOf x) := by simp [textsT]
theorem textsT_len {l : List ByteArray} (h : ∀ x ∈ l, x.size ≤ 1000000) : (textsT l).length ≤ 1000010 * l.length := by
  unfold textsT
  induction l with
  | nil => simp
  | cons a t ih =>
    rw [List.flatMap_cons, List.length_append, List.length_cons, List.length_append, bytesOf_length]
    have h3 := h a List.mem_cons_self
    have h1 := numT_ten (n := (a.size : Int)) (by omega)
    have h2 := ih (fun x hx => h x (List.mem_cons_of_mem _ hx))
    omega
theorem cell_rdS {W : World} {A : Option Addr} {n : Nat} {xs : List ByteArray} (h : Kd.C Kd.string W A n xs) (i : Nat) (hi : i < xs.length) : ∃ ad, A = some ad ∧ W.cell? (ad.add i) = some (.string xs[i]) := by
  obtain ⟨ad, h1, h2⟩ := Kd.at_string h (i : Int) (by omega) (by have := h.1; omega)
  refine ⟨ad, h1, ?_⟩
  rw [Int.toNat_natCast] at h2
  rw [h2]
  simp [rdOf, hi]
set_option maxHeartbeats 2000000 in
theorem pack_Text_own (A0 : Option Addr) (c0 : Nat) (l0 : List Int) (A1 : Option Addr) (c1 : Nat) (l1 : List ByteArray) (w : World) (hr0 : Kd.C (Kd.int .u8) w A0 l0.length l0) (hr1 : Kd.C Kd.string w A1 l1.length l1)
    (hl0 : l0.length ≤ 10000000) (hl1 : l1.length ≤ 10) (hw : ∀ x ∈ l1, x.size ≤ 1000000) :
    Calls Try.prog 23 #[.slice A0 l0.length c0, .slice A1 l1.length c1] w fun e w' => ∃ g, e = .returned (.slice (some ⟨g, 0, none⟩) (l0 ++ textsT l1).length (l0 ++ textsT l1).length) ∧ Kd.F (Kd.int .u8) w' (fun k => w.heap.size ≤ k) (some ⟨g, 0, none⟩) (l0 ++ textsT l1).length (l0 ++ textsT l1) ∧ Below w.heap.size w w' := by
  have HR0 := Aside0.mk hr0
  have HR1 := Aside0.mk hr1
  have HW := Aside0.mk hw
  have HL := Aside0.mk (fun i => textsT_len (l := l1.take i) (fun x hx => hw x (List.mem_of_mem_take hx)))
  obtain ⟨i0, hi, hz0, hz1, hz2⟩ := info_parts (P := Try.prog) (e := 5) (z := .int .u8 0) (size := 1) (bytes := 1) (by kernel_rfl)
  clear hr0 hr1 hw
  go_enter Try.func23, Try.ntmps23
  go_wp2_with (go_at_call 13; with_reducible refine (pack_Num0 _ _ l0 _ HR0.out (by omega)).mono ?_; rintro e W1 ⟨g0, rfl, hF, hb⟩; replace hF := Aside0.mk hF; replace hb := Aside0.mk hb)
  go_loopg [0, 11] l1.length (fun kq v0 v11 W => ∃ (i g : Nat), v11 = .int .i64 i ∧ v0 = .slice (some ⟨g, 0, none⟩) (l0 ++ textsT (l1.take i)).length (l0 ++ textsT (l1.take i)).length ∧ Aside0 (kq + i = l1.length) ∧ Aside0 (Kd.F (Kd.int .u8) W (fun k => w.heap.size ≤ k) (some ⟨g, 0, none⟩) (l0 ++ textsT (l1.take i)).length (l0 ++ textsT (l1.take i))) ∧ Aside0 (Below w.heap.size w W))
  case atStart => exact ⟨0, g0, rfl, by simp [textsT], ⟨rfl⟩, ⟨by simpa [textsT] using hF.out⟩, hb⟩
  case round =>
    clear hF hb
    obtain ⟨i, g, rfl, rfl, HK, HF, HB⟩ := hrel
    cases gk with
    | zero =>
      obtain rfl : i = l1.length := by have := HK.out; omega
      have hd : decide ((l1.length : Int) < (l1.length : Int)) = false := by simp
      have hd2 : decide (l1.length < l1.length) = false := by simp
      rw [List.take_length] at HF
      rw [List.take_length]
      generalize hys : l0 ++ textsT l1 = ys at *
      replace hys := Aside0.mk hys
      go_wp2
      go_ret
      exact ⟨g, by rw [hys.out]; rfl, by rw [hys.out]; exact HF.out, HB.out⟩
    | succ k1 =>
      have hlt : i < l1.length := by have := HK.out; omega
      have hd : decide ((i : Int) < (l1.length : Int)) = true := decide_eq_true (by omega)
      have hd2 : decide (i < l1.length) = true := decide_eq_true hlt
      obtain ⟨ad, eA, hx⟩ := cell_rdS HR1.out i hlt
      subst eA
      replace hx := (HB.out.cell (World.block_lt_of_cell? w _ hx)).trans hx
      have hwi := HW.out l1[i] (List.getElem_mem hlt)
      have HN := Aside0.mk (show l0 ++ textsT (l1.take (i + 1)) = (l0 ++ textsT (l1.take i)) ++ (numT (l1[i].size : Int) ++ bytesOf l1[i]) by rw [List.take_succ_eq_append_getElem hlt, textsT_snoc, List.append_assoc])
      have hbig : (l0 ++ textsT (l1.take i)).length ≤ 30000000 := by
        rw [List.length_append]
        have := HL.out i
        rw [List.length_take] at this
        omega
      generalize l1[i] = m0 at *
      generalize hys : l0 ++ textsT (l1.take i) = ys at *
      generalize hzs : l0 ++ textsT (l1.take (i + 1)) = zs at *
      replace hys := Aside0.mk hys
      replace hzs := Aside0.mk hzs
      have h1x := numT_ten (n := (m0.size : Int)) (by omega)
      have hu : IntKind.u64.wrap (m0.size : Int) = (m0.size : Int) := by
        unfold IntKind.wrap
        simp only [IntKind.bits, IntKind.signed, Bool.false_and, Bool.false_eq_true, if_false]
        omega
      obtain ⟨y2, hy2⟩ : ∃ y2, y2 = ys ++ numT (m0.size : Int) := ⟨_, rfl⟩
      obtain ⟨y3, hy3⟩ : ∃ y3, y3 = y2 ++ bytesOf m0 := ⟨_, rfl⟩
      have hlen1 : y2.length = ys.length + (numT (m0.size : Int)).length := by rw [hy2, List.length_append]
      have hlen2 : y3.length = y2.length + m0.size := by rw [hy3, List.length_append, bytesOf_length]
      replace hlen1 := Aside0.mk hlen1
      replace hlen2 := Aside0.mk hlen2
      replace hy2 := Aside0.mk hy2
      replace hy3 := Aside0.mk hy3
      go_wp2_with (first | (go_at_call 13; with_reducible refine (pack_Num1 _ _ _ ys _ (m0.size : Int) _ (Kd.C_below (Kd.F_now HF.out) ((Below.refl _ _).alloc (Nat.le_refl _) _)) rfl (C_lit1 _ _ _) (by omega) (by omega)).mono ?_; rintro e W2 ⟨g2, rfl, hF2, hb2⟩; rw [← hy2.out] at hF2 ⊢; replace hF2 := Aside0.mk hF2; replace hb2 := Aside0.mk hb2) | (refine wpList_append_text rfl _ _ rfl Try.underlying31 Try.underlying9 hi hz0 hz1 hz2 m0 rfl rfl (Kd.F_now hF2.out) (by have := hlen1.out; omega) ?_; intro g3 c3 W3 hc3 hC3 hb3; rw [← hlen2.out, ← hy3.out] at hC3; rw [← hlen2.out] at hc3 ⊢; replace hc3 := Aside0.mk hc3; replace hC3 := Aside0.mk hC3; replace hb3 := Aside0.mk hb3) | (go_at_call 13; with_reducible refine (pack_Num0 _ _ _ _ hC3.out (by have := hlen1.out; have := hlen2.out; omega)).mono ?_; rintro e W4 ⟨g4, rfl, hF4, hb4⟩; replace hF4 := Aside0.mk hF4; replace hb4 := Aside0.mk hb4))
      have HZ := Aside0.mk (show y3 = zs from by rw [HN.out, hy3.out, hy2.out, List.append_assoc])
      have HB1 := HB.out.trans (((Below.refl _ _).alloc (Nat.le_refl _) (.cells #[.int .u64 (m0.size : Int)] 25)).mono HB.out.size)
      have HB2 := HB1.trans (hb2.out.mono HB1.size)
      have HB3 := HB2.trans (hb3.out.mono HB2.size)
      have HB4 := Aside0.mk (HB3.trans (hb4.out.mono HB3.size))
      have HF5 := Aside0.mk (Kd.F_mono hF4.out (fun k hk => Nat.le_trans HB3.size hk))
      clear HB1 HB2 HB3
      rw [HZ.out] at HF5 ⊢
      go_roundg k1
      case measure => omega
      case rel => exact ⟨i + 1, g4, by go_num, by rw [hzs.out], ⟨by have := HK.out; omega⟩, ⟨by rw [hzs.out]; exact HF5.out⟩, HB4⟩
def pack_Text.f (l0 : List Int) (l1 : List ByteArray) : Option (List Int) := if l0.length ≤ 10000000 ∧ l1.length ≤ 10 ∧ l1.all (fun x => decide (x.size ≤ 1000000)) = true then some (l0 ++ textsT l1) else none
theorem pack_Text.calls (A0 : Option Addr) (c0 : Nat) (l0 : List Int) (A1 : Option Addr) (c1 : Nat) (l1 : List ByteArray) (r : List Int) (w : World) (hr0 : Kd.C (Kd.int .u8) w A0 l0.length l0) (hc0 : l0.length ≤ c0) (hr1 : Kd.C Kd.string w A1 l1.length l1) (hc1 : l1.length ≤ c1) (h : pack_Text.f l0 l1 = some r) :
    Calls Try.prog 23 #[.slice A0 l0.length c0, .slice A1 l1.length c1] w fun e w' => ∃ v0_ : Value, e = .returned v0_ ∧ Kd.V (Kd.int .u8) 5 w' w.heap.size (fun k_ => w.heap.size ≤ k_) v0_ r ∧ Below w.heap.size w w' := by
  unfold pack_Text.f at h
  by_cases hk : l0.length ≤ 10000000 ∧ l1.length ≤ 10 ∧ l1.all (fun x => decide (x.size ≤ 1000000)) = true
  case neg => rw [if_neg hk] at h; cases h
  rw [if_pos hk] at h
  obtain rfl := Option.some.inj h
  refine (pack_Text_own A0 c0 l0 A1 c1 l1 w hr0 hr1 hk.1 hk.2.1 (fun x hx => of_decide_eq_true (List.all_eq_true.1 hk.2.2 x hx))).mono ?_
  rintro e w' ⟨g, rfl, hF, hb⟩
  exact ⟨_, rfl, Kd.V_mk (Nat.le_refl _) hF, hb⟩

/-! ### forebayref01_Text: function 24 -/
def forebayref01_Text.f (k : Nat) (a0 : ByteArray) : Option (ByteArray) := if a0.size ≤ 1000000 then (forebayref01_Num.f k (a0.size : Int)).bind (fun t => if t.size ≤ 1000000 then some (t ++ a0) else none) else none
theorem forebayref01_Text.mono : ∀ a0 k, LeO (forebayref01_Text.f k a0) (forebayref01_Text.f (k + 1) a0) := by
  intro a0 k
  unfold forebayref01_Text.f
  repeat' first
      | (with_reducible exact forebayref01_Num.mono _ _)
      | (with_reducible exact LeO.refl _)
      | (with_reducible exact LeO.none _)
      | (with_reducible refine LeO.ite ?_ ?_)
      | (with_reducible refine LeO.bind ?_ (fun _ => ?_))
theorem forebayref01_Text.calls (k : Nat) (a0 : ByteArray) (r : ByteArray) (w : World) (h : forebayref01_Text.f k a0 = some r) :
    Calls Try.prog 24 #[.string a0] w fun e w' => e = .returned (.string r) ∧ Below w.heap.size w w' := by
  unfold forebayref01_Text.f at h
  by_cases hs : a0.size ≤ 1000000
  case neg => rw [if_neg hs] at h; cases h
  rw [if_pos hs] at h
  obtain ⟨t, ht, h⟩ := Option.bind_eq_some_iff.1 h
  by_cases ht2 : t.size ≤ 1000000
  case neg => rw [if_neg ht2] at h; cases h
  rw [if_pos ht2] at h
  obtain rfl := Option.some.inj h
  clear h
  replace ht := Aside0.mk ht
  have e2 : (t.size + a0.size > 9223372036854775807) = False := eq_false (by omega)
  have e3 : IntKind.u64.wrap (a0.size : Int) = (a0.size : Int) := by
    unfold IntKind.wrap
    simp only [IntKind.bits, IntKind.signed, Bool.false_and, Bool.false_eq_true, if_false]
    omega
  go_enter Try.func24, Try.ntmps24
  go_wp2_with (go_at_call 21; with_reducible refine (forebayref01_Num.calls _ _ _ _ ht.out).mono ?_; rintro e w1 ⟨rfl, hb⟩; replace hb := Aside0.mk hb)
  go_ret
  exact ⟨rfl, hb.out⟩

/-! ### pack_Flag: function 25 -/
def pack_Flag.l0 : Nat → List Int → List Bool → Int → Int → Option (List Int)
  | 0, _, _, _, _ => none
  | k + 1, x0, x10, x11, x12 => if x12 < x11 then (if 0 ≤ x12 then (if x12 < (x10.length : Int) then (if rdOf false x10 x12 = true then ((pack_Num.f x0 (([1] : List Int))).bind fun t127 => (pack_Flag.l0 k t127 x10 x11 (wrap64 (x12 + 1)))) else ((pack_Num.f x0 (([0] : List Int))).bind fun t133 => (pack_Flag.l0 k t133 x10 x11 (wrap64 (x12 + 1))))) else (none)) else (none)) else (some x0)
def pack_Flag.f (k : Nat) (l0 : List Int) (l1 : List Bool) : Option (List Int) := (pack_Num.f l0 ([] : List Int)).bind fun t120 => (pack_Flag.l0 k t120 l1 (l1.length : Int) 0)
theorem pack_Flag.mono_l : ∀ k, (∀ y0 y1 y2 y3, LeO (pack_Flag.l0 k y0 y1 y2 y3) (pack_Flag.l0 (k + 1) y0 y1 y2 y3))
  | 0 => fun _ _ _ _ r h => by simp [pack_Flag.l0] at h
  | k + 1 => by
    have ih0 := pack_Flag.mono_l k
    · intro y0 y1 y2 y3
      unfold pack_Flag.l0
      repeat' first
      | (with_reducible exact ih0 _ _ _ _)
      | (with_reducible exact LeO.refl _)
      | (with_reducible exact LeO.none _)
      | (with_reducible refine LeO.ite ?_ ?_)
      | (with_reducible refine LeO.bind ?_ (fun _ => ?_))
      | exact ih0 _ _ _ _
      | exact LeO.none _
      | refine LeO.ite ?_ ?_
      | refine LeO.bind ?_ (fun _ => ?_)
theorem pack_Flag.mono : ∀ a0 a1 k, LeO (pack_Flag.f k a0 a1) (pack_Flag.f (k + 1) a0 a1) := by
  intro a0 a1 k
  have ih0 := pack_Flag.mono_l k
  unfold pack_Flag.f
  repeat' first
      | (with_reducible exact ih0 _ _ _ _)
      | (with_reducible exact LeO.refl _)
      | (with_reducible exact LeO.none _)
      | (with_reducible refine LeO.ite ?_ ?_)
      | (with_reducible refine LeO.bind ?_ (fun _ => ?_))
      | exact ih0 _ _ _ _
      | exact LeO.none _
      | refine LeO.ite ?_ ?_
      | refine LeO.bind ?_ (fun _ => ?_)
set_option maxHeartbeats 8000000 in
set_option maxRecDepth 100000 in
theorem pack_Flag.calls (k : Nat) (A0 : Option Addr) (c0 : Nat) (l0 : List Int) (A1 : Option Addr) (c1 : Nat) (l1 : List Bool) (r : List Int) (w : World) (hr0 : Kd.C (Kd.int .u8) w A0 l0.length l0) (hc0 : l0.length ≤ c0) (hr1 : Kd.C Kd.bool w A1 l1.length l1) (hc1 : l1.length ≤ c1) (h : pack_Flag.f k l0 l1 = some r) :
    Calls Try.prog 25 #[.slice A0 l0.length c0, .slice A1 l1.length c1] w fun e w' => ∃ v0_ : Value, e = .returned (v0_) ∧ Kd.V (Kd.int .u8) 5 w' w.heap.size (fun k_ => (w.heap.size ≤ k_)) v0_ r ∧ Below w.heap.size w w' := by
  have HR0 := Aside0.mk hr0
  have HC0 := Aside0.mk hc0
  clear hr0 hc0
  have HR1 := Aside0.mk hr1
  have HC1 := Aside0.mk hc1
  clear hr1 hc1
  have HB := Aside0.mk (Below.refl w.heap.size w)
  have H : ((pack_Num.f l0 ([] : List Int)).bind fun t120 => (pack_Flag.l0 k t120 l1 (l1.length : Int) 0)) = some r := h
  clear h
  replace H := Option.bind_eq_some_iff.mp H
  obtain ⟨t120, A30, H⟩ := H
  replace H : (pack_Flag.l0 k t120 l1 (l1.length : Int) 0) = some r := H
  have A3 := Aside0.mk A30
  clear A30
  have H' := Aside0.mk H
  clear H
  go_enter Try.func25, Try.ntmps25
  go_wp2_with (first | ((with_reducible refine gate_callee (f := 13) rfl ?_); refine goesL_ (some 9) rfl rfl Try.func13 (by kernel_rfl) rfl #[.slice A0 l0.length c0, .slice none 0 0] rfl (by (try simp only [List.map_toArray, List.map_cons, List.map_nil]); first | done | rfl | (simp only [List.length_drop, List.length_take]; rfl)) ?_; (refine (pack_Num.calls _ _ l0 _ _ ([] : List Int) t120 _ ?side1 ?side2 ?side3 ?side4 A3.out).mono ?_); (case side1 => repeat (first | exact HR0.out | (with_reducible refine Kd.C_alloc ?_ _) | (with_reducible refine Kd.C_drewN ?_ _) | (with_reducible refine Kd.C_drew ?_))); (case side2 => exact HC0.out); (case side3 => exact Kd.C_nil _ _); (case side4 => exact Nat.le_refl _); rintro e w4 ⟨v121, rfl, ho0, hb⟩; refine ⟨_, rfl, ?_⟩; have n0_ := Aside0.mk (Kd.V_lower (Kd.V_mono (ok' := fun k_ => (w.heap.size ≤ k_)) ho0 (fun k_ hk_ => (Nat.le_trans (below_size (by repeat (first | (with_reducible first | exact HB.out | apply below_alloc | apply pw_below_drewN | apply below_drew1) | exact HB.out))) hk_))) (below_size (by repeat (first | (with_reducible first | exact HB.out | apply below_alloc | apply pw_below_drewN | apply below_drew1) | exact HB.out)))); have n1_ := Aside0.mk (below_step (by repeat (first | (with_reducible first | exact HB.out | apply below_alloc | apply pw_below_drewN | apply below_drew1) | exact HB.out)) hb); clear HB; have HO122 := n0_; have HB := n1_; clear n0_ n1_; (try clear hb); (try clear hb2); (try clear hk); (try clear hi); (try clear ho0)))
  go_loopg [0, 12] k (fun kq v0 v12 w' => ∃ (x0_1 : List Int) (x12_1 : Int), v12 = .int .i64 x12_1 ∧ Aside0 (pack_Flag.l0 kq x0_1 l1 (l1.length : Int) x12_1 = some r) ∧ Aside0 (kq ≤ k) ∧ Aside0 (Kd.V (Kd.int .u8) 5 w' w.heap.size (fun k_ => (w.heap.size ≤ k_)) v0 x0_1) ∧ Aside0 (Below w.heap.size w w'))
  case atStart => exact ⟨(t120), (0), (by first | rfl | (simp; done) | (simp [*]; done) | (simp; exact isEmpty_bne _)), H', ⟨Nat.le_refl _⟩, ⟨by (with_reducible repeat (first | apply Kd.V_alloc | apply Kd.V_drewN | apply Kd.V_drew)); exact HO122.out⟩, ⟨by repeat (first | (with_reducible first | exact HB.out | apply below_alloc | apply pw_below_drewN | apply below_drew1) | exact HB.out)⟩⟩
  case round =>
    clear H'
    try clear c1
    try clear c2
    try clear p2
    obtain ⟨x0_1, x12_1, rfl, HA, HK1, HO_0, HB⟩ := hrel
    cases gk with
    | zero => exact absurd HA.out (by simp [pack_Flag.l0])
    | succ k1 =>
      have H := HA.out
      clear HA
      simp only [pack_Flag.l0] at H
      by_cases c5 : x12_1 < (l1.length : Int)
      · rw [if_pos c5] at H
        have c5b0 : decide (x12_1 < (l1.length : Int)) = true := decide_eq_true c5
        clear c5
        by_cases c6 : 0 ≤ x12_1
        · rw [if_pos c6] at H
          have c6b0 : decide (0 ≤ x12_1) = true := decide_eq_true c6
          clear c6
          by_cases c7 : x12_1 < (l1.length : Int)
          · rw [if_pos c7] at H
            have c7b0 : decide (x12_1 < (l1.length : Int)) = true := decide_eq_true c7
            clear c7
            obtain ⟨bq8, hbq8⟩ : ∃ b_ : Bool, b_ = (rdOf false l1 x12_1) := ⟨_, rfl⟩
            replace H : (if bq8 = true then ((pack_Num.f x0_1 (([1] : List Int))).bind fun t127 => (pack_Flag.l0 k1 t127 l1 (l1.length : Int) (wrap64 (x12_1 + 1)))) else ((pack_Num.f x0_1 (([0] : List Int))).bind fun t133 => (pack_Flag.l0 k1 t133 l1 (l1.length : Int) (wrap64 (x12_1 + 1))))) = some r := by rw [← hbq8] at H; exact H
            have Nbq8 := Aside0.mk hbq8
            clear hbq8
            by_cases c9 : bq8 = true
            · subst c9
              have H1 : ((pack_Num.f x0_1 (([1] : List Int))).bind fun t127 => (pack_Flag.l0 k1 t127 l1 (l1.length : Int) (wrap64 (x12_1 + 1)))) = some r := by rw [if_pos rfl] at H; exact H
              clear H
              have H := H1
              clear H1
              obtain ⟨y124, hy124⟩ : ∃ y_ : List Int, y_ = (([1] : List Int)) := ⟨_, rfl⟩
              replace H : ((pack_Num.f x0_1 y124).bind fun t127 => (pack_Flag.l0 k1 t127 l1 (l1.length : Int) (wrap64 (x12_1 + 1)))) = some r := by first | (rw [hy124]; with_reducible exact H) | (have H2_ := (Option.bind_some _ _).symm.trans H; rw [hy124]; with_reducible exact H2_) | (have H2_ := (Option.bind_some _ _).symm.trans H; with_reducible exact H2_) | with_reducible exact H | (rw [hy124]; exact H) | exact H
              have Ny124 := Aside0.mk hy124
              clear hy124
              replace H := Option.bind_eq_some_iff.mp H
              obtain ⟨t127, A100, H⟩ := H
              replace H : (pack_Flag.l0 k1 t127 l1 (l1.length : Int) (wrap64 (x12_1 + 1))) = some r := H
              have A10 := Aside0.mk A100
              clear A100
              have H' := Aside0.mk H
              clear H
              have p123 : 0 ≤ (x12_1 : Int) := of_decide_eq_true (by first | (with_reducible assumption) | assumption)
              have q123 : x12_1 < (l1.length : Int) := of_decide_eq_true (by first | (with_reducible assumption) | assumption)
              obtain ⟨ad123, e123, hx123_0⟩ := Kd.at_bool HR1.out x12_1 p123 q123
              (try rw [← Nbq8.out] at hx123_0)
              cases e123
              replace hx123_0 := (HB.out.cell (World.block_lt_of_cell? w _ hx123_0)).trans hx123_0
              replace p123 := eq_true p123
              replace q123 := eq_true q123
              go_wp2_with (first | ((with_reducible refine gate_dst (N := 19) rfl ?_); refine Kd.R_lit (Kd.int .u64) _ 25 ?hg (N := 19) ?hd (xs := ([1] : List Int)) (inner := [.int .u64 1]) (ok := fun _ => True) (okp := fun _ => True) ?hr ?hp (fun _ hk => hk) trivial (Below.refl _ _) (Nat.le_refl _) (by simp) ?_; (case hd => rfl); (case hg => rfl); (case hr => first | (go_simp; done) | (go_simp; rfl)); (case hp => exact (Reps.one (show Kd.M (Kd.int .u64) _ _ _ 1 [.int .u64 1] from rfl) (Reps.none _ _))); intro v125 w11 ho12 hb hg_ hnew_; clear hg_ hnew_; (first | rw [← Ny124.out] at ho12 | (simp only [Int.reduceToNat] at ho12; rw [← Ny124.out] at ho12)); have n0_ := Aside0.mk (Kd.V_elder' (by (with_reducible repeat (first | apply Kd.V_alloc | apply Kd.V_drewN | apply Kd.V_drew)); exact HO_0.out) (Kd.R_base ho12) hb); have n1_ := Aside0.mk (Kd.R_lower (Kd.R_newM (M := fun k_ => (w.heap.size ≤ k_)) ho12 (below_size (by repeat (first | (with_reducible first | exact HB.out | apply below_alloc | apply pw_below_drewN | apply below_drew1) | exact HB.out))) (fun k_ h_ => h_)) (below_size (by repeat (first | (with_reducible first | exact HB.out | apply below_alloc | apply pw_below_drewN | apply below_drew1) | exact HB.out)))); have n2_ := Aside0.mk (below_step (by repeat (first | (with_reducible first | exact HB.out | apply below_alloc | apply pw_below_drewN | apply below_drew1) | exact HB.out)) hb); clear HO_0; clear HB; have HO_0 := n0_; have HO126 := n1_; have HB := n2_; clear n0_ n1_ n2_; clear hb ho12; obtain ⟨Ao13, co13, eo13⟩ := Kd.V_slice HO_0.out; subst eo13; obtain ⟨Ao14, co14, eo14⟩ := Kd.R_slice HO126.out; subst eo14) | ((with_reducible refine gate_callee (f := 13) rfl ?_); refine goesL_ (some 20) rfl rfl Try.func13 (by kernel_rfl) rfl #[.slice Ao13 x0_1.length co13, .slice Ao14 y124.length co14] rfl (by (try simp only [List.map_toArray, List.map_cons, List.map_nil]); first | done | rfl | (simp only [List.length_drop, List.length_take]; rfl)) ?_; (with_reducible refine (pack_Num.calls _ _ x0_1 _ _ y124 t127 _ ?side1 ?side2 ?side3 ?side4 A10.out).mono ?_); (case side1 => repeat (first | exact (Kd.V_reads' HO_0.out).2.2 | (with_reducible refine Kd.C_alloc ?_ _) | (with_reducible refine Kd.C_drewN ?_ _) | (with_reducible refine Kd.C_drew ?_))); (case side2 => exact (Kd.V_reads' HO_0.out).2.1); (case side3 => repeat (first | exact (Kd.R_reads' HO126.out).2.2 | (with_reducible refine Kd.C_alloc ?_ _) | (with_reducible refine Kd.C_drewN ?_ _) | (with_reducible refine Kd.C_drew ?_))); (case side4 => exact (Kd.R_reads' HO126.out).2.1); rintro e w15 ⟨v128, rfl, ho0, hb⟩; refine ⟨_, rfl, ?_⟩; have n0_ := Aside0.mk (Kd.V_below (by (with_reducible repeat (first | apply Kd.V_alloc | apply Kd.V_drewN | apply Kd.V_drew)); exact HO_0.out) hb); have n1_ := Aside0.mk (Kd.R_below (by (with_reducible repeat (first | apply Kd.R_alloc | apply Kd.R_drewN | apply Kd.R_drew)); exact HO126.out) hb); have n2_ := Aside0.mk (Kd.V_lower (Kd.V_mono (ok' := fun k_ => (w.heap.size ≤ k_) ∧ some k_ ≠ (.slice Ao14 y124.length co14 : Value).ownBlock) ho0 (fun k_ hk_ => ⟨(Nat.le_trans (below_size (by repeat (first | (with_reducible first | exact HB.out | apply below_alloc | apply pw_below_drewN | apply below_drew1) | exact HB.out))) hk_), (Kd.fresh' (Kd.R_lt (by (with_reducible repeat (first | apply Kd.R_alloc | apply Kd.R_drewN | apply Kd.R_drew)); exact HO126.out)) k_ hk_)⟩)) (below_size (by repeat (first | (with_reducible first | exact HB.out | apply below_alloc | apply pw_below_drewN | apply below_drew1) | exact HB.out)))); have n3_ := Aside0.mk (below_step (by repeat (first | (with_reducible first | exact HB.out | apply below_alloc | apply pw_below_drewN | apply below_drew1) | exact HB.out)) hb); clear HO_0; clear HO126; clear HB; have HO_0 := n0_; have HO126 := n1_; have HO129 := n2_; have HB := n3_; clear n0_ n1_ n2_ n3_; (try clear hb); (try clear hb2); (try clear hk); (try clear hi); (try clear ho0)))
              go_roundg k1
              case measure => have := HK1.out; omega
              case rel => exact ⟨(t127), (wrap64 (x12_1 + 1)), (by first | rfl | (simp; done) | (simp [*]; done) | (simp; exact isEmpty_bne _)), H', ⟨by have := HK1.out; omega⟩, ⟨by (with_reducible repeat (first | apply Kd.V_alloc | apply Kd.V_drewN | apply Kd.V_drew)); exact Kd.V_mono HO129.out (fun _ hk => hk.1)⟩, ⟨by repeat (first | (with_reducible first | exact HB.out | apply below_alloc | apply pw_below_drewN | apply below_drew1) | exact HB.out)⟩⟩
            · replace c9 := Bool.eq_false_iff.mpr c9
              subst c9
              have H1 : ((pack_Num.f x0_1 (([0] : List Int))).bind fun t133 => (pack_Flag.l0 k1 t133 l1 (l1.length : Int) (wrap64 (x12_1 + 1)))) = some r := by rw [if_neg (show ¬ (false = true) by decide)] at H; exact H
              clear H
              have H := H1
              clear H1
              obtain ⟨y130, hy130⟩ : ∃ y_ : List Int, y_ = (([0] : List Int)) := ⟨_, rfl⟩
              replace H : ((pack_Num.f x0_1 y130).bind fun t133 => (pack_Flag.l0 k1 t133 l1 (l1.length : Int) (wrap64 (x12_1 + 1)))) = some r := by first | (rw [hy130]; with_reducible exact H) | (have H2_ := (Option.bind_some _ _).symm.trans H; rw [hy130]; with_reducible exact H2_) | (have H2_ := (Option.bind_some _ _).symm.trans H; with_reducible exact H2_) | with_reducible exact H | (rw [hy130]; exact H) | exact H
              have Ny130 := Aside0.mk hy130
              clear hy130
              replace H := Option.bind_eq_some_iff.mp H
              obtain ⟨t133, A160, H⟩ := H
              replace H : (pack_Flag.l0 k1 t133 l1 (l1.length : Int) (wrap64 (x12_1 + 1))) = some r := H
              have A16 := Aside0.mk A160
              clear A160
              have H' := Aside0.mk H
              clear H
              have p123 : 0 ≤ (x12_1 : Int) := of_decide_eq_true (by first | (with_reducible assumption) | assumption)
              have q123 : x12_1 < (l1.length : Int) := of_decide_eq_true (by first | (with_reducible assumption) | assumption)
              obtain ⟨ad123, e123, hx123_0⟩ := Kd.at_bool HR1.out x12_1 p123 q123
              (try rw [← Nbq8.out] at hx123_0)
              cases e123
              replace hx123_0 := (HB.out.cell (World.block_lt_of_cell? w _ hx123_0)).trans hx123_0
              replace p123 := eq_true p123
              replace q123 := eq_true q123
              go_wp2_with (first | ((with_reducible refine gate_dst (N := 19) rfl ?_); refine Kd.R_lit (Kd.int .u64) _ 25 ?hg (N := 19) ?hd (xs := ([0] : List Int)) (inner := [.int .u64 0]) (ok := fun _ => True) (okp := fun _ => True) ?hr ?hp (fun _ hk => hk) trivial (Below.refl _ _) (Nat.le_refl _) (by simp) ?_; (case hd => rfl); (case hg => rfl); (case hr => first | (go_simp; done) | (go_simp; rfl)); (case hp => exact (Reps.one (show Kd.M (Kd.int .u64) _ _ _ 0 [.int .u64 0] from rfl) (Reps.none _ _))); intro v131 w17 ho18 hb hg_ hnew_; clear hg_ hnew_; (first | rw [← Ny130.out] at ho18 | (simp only [Int.reduceToNat] at ho18; rw [← Ny130.out] at ho18)); have n0_ := Aside0.mk (Kd.V_elder' (by (with_reducible repeat (first | apply Kd.V_alloc | apply Kd.V_drewN | apply Kd.V_drew)); exact HO_0.out) (Kd.R_base ho18) hb); have n1_ := Aside0.mk (Kd.R_lower (Kd.R_newM (M := fun k_ => (w.heap.size ≤ k_)) ho18 (below_size (by repeat (first | (with_reducible first | exact HB.out | apply below_alloc | apply pw_below_drewN | apply below_drew1) | exact HB.out))) (fun k_ h_ => h_)) (below_size (by repeat (first | (with_reducible first | exact HB.out | apply below_alloc | apply pw_below_drewN | apply below_drew1) | exact HB.out)))); have n2_ := Aside0.mk (below_step (by repeat (first | (with_reducible first | exact HB.out | apply below_alloc | apply pw_below_drewN | apply below_drew1) | exact HB.out)) hb); clear HO_0; clear HB; have HO_0 := n0_; have HO132 := n1_; have HB := n2_; clear n0_ n1_ n2_; clear hb ho18; obtain ⟨Ao19, co19, eo19⟩ := Kd.V_slice HO_0.out; subst eo19; obtain ⟨Ao20, co20, eo20⟩ := Kd.R_slice HO132.out; subst eo20) | ((with_reducible refine gate_callee (f := 13) rfl ?_); refine goesL_ (some 20) rfl rfl Try.func13 (by kernel_rfl) rfl #[.slice Ao19 x0_1.length co19, .slice Ao20 y130.length co20] rfl (by (try simp only [List.map_toArray, List.map_cons, List.map_nil]); first | done | rfl | (simp only [List.length_drop, List.length_take]; rfl)) ?_; (with_reducible refine (pack_Num.calls _ _ x0_1 _ _ y130 t133 _ ?side1 ?side2 ?side3 ?side4 A16.out).mono ?_); (case side1 => repeat (first | exact (Kd.V_reads' HO_0.out).2.2 | (with_reducible refine Kd.C_alloc ?_ _) | (with_reducible refine Kd.C_drewN ?_ _) | (with_reducible refine Kd.C_drew ?_))); (case side2 => exact (Kd.V_reads' HO_0.out).2.1); (case side3 => repeat (first | exact (Kd.R_reads' HO132.out).2.2 | (with_reducible refine Kd.C_alloc ?_ _) | (with_reducible refine Kd.C_drewN ?_ _) | (with_reducible refine Kd.C_drew ?_))); (case side4 => exact (Kd.R_reads' HO132.out).2.1); rintro e w21 ⟨v134, rfl, ho0, hb⟩; refine ⟨_, rfl, ?_⟩; have n0_ := Aside0.mk (Kd.V_below (by (with_reducible repeat (first | apply Kd.V_alloc | apply Kd.V_drewN | apply Kd.V_drew)); exact HO_0.out) hb); have n1_ := Aside0.mk (Kd.R_below (by (with_reducible repeat (first | apply Kd.R_alloc | apply Kd.R_drewN | apply Kd.R_drew)); exact HO132.out) hb); have n2_ := Aside0.mk (Kd.V_lower (Kd.V_mono (ok' := fun k_ => (w.heap.size ≤ k_) ∧ some k_ ≠ (.slice Ao20 y130.length co20 : Value).ownBlock) ho0 (fun k_ hk_ => ⟨(Nat.le_trans (below_size (by repeat (first | (with_reducible first | exact HB.out | apply below_alloc | apply pw_below_drewN | apply below_drew1) | exact HB.out))) hk_), (Kd.fresh' (Kd.R_lt (by (with_reducible repeat (first | apply Kd.R_alloc | apply Kd.R_drewN | apply Kd.R_drew)); exact HO132.out)) k_ hk_)⟩)) (below_size (by repeat (first | (with_reducible first | exact HB.out | apply below_alloc | apply pw_below_drewN | apply below_drew1) | exact HB.out)))); have n3_ := Aside0.mk (below_step (by repeat (first | (with_reducible first | exact HB.out | apply below_alloc | apply pw_below_drewN | apply below_drew1) | exact HB.out)) hb); clear HO_0; clear HO132; clear HB; have HO_0 := n0_; have HO132 := n1_; have HO135 := n2_; have HB := n3_; clear n0_ n1_ n2_ n3_; (try clear hb); (try clear hb2); (try clear hk); (try clear hi); (try clear ho0)))
              go_roundg k1
              case measure => have := HK1.out; omega
              case rel => exact ⟨(t133), (wrap64 (x12_1 + 1)), (by first | rfl | (simp; done) | (simp [*]; done) | (simp; exact isEmpty_bne _)), H', ⟨by have := HK1.out; omega⟩, ⟨by (with_reducible repeat (first | apply Kd.V_alloc | apply Kd.V_drewN | apply Kd.V_drew)); exact Kd.V_mono HO135.out (fun _ hk => hk.1)⟩, ⟨by repeat (first | (with_reducible first | exact HB.out | apply below_alloc | apply pw_below_drewN | apply below_drew1) | exact HB.out)⟩⟩
          · rw [if_neg c7] at H
            exact absurd H (by simp)
        · rw [if_neg c6] at H
          exact absurd H (by simp)
      · rw [if_neg c5] at H
        have c5b0 : decide (x12_1 < (l1.length : Int)) = false := decide_eq_false c5
        clear c5
        obtain rfl := Option.some.inj H
        go_wp2
        go_ret
        exact ⟨_, by first | rfl | (simp [errW_none, errW_some] <;> rfl) | (simp [*, errW_none, errW_some] <;> rfl), by (with_reducible repeat (first | apply Kd.V_alloc | apply Kd.V_drewN | apply Kd.V_drew)); exact HO_0.out, by repeat (first | (with_reducible first | exact HB.out | apply below_alloc | apply pw_below_drewN | apply below_drew1) | exact HB.out)⟩

/-! ### forebayref01_Flag: function 26 -/
def forebayref01_Flag.f (a0 : Bool) : Option (ByteArray) := if a0 = true then (some (⟨#[1]⟩ : ByteArray)) else (some (⟨#[0]⟩ : ByteArray))
set_option maxHeartbeats 8000000 in
set_option maxRecDepth 100000 in
theorem forebayref01_Flag.calls (a0 : Bool) (r : ByteArray) (w : World) (h : forebayref01_Flag.f a0 = some r) :
    Calls Try.prog 26 #[.bool a0] w fun e w' => e = .returned (.string r) ∧ Drawn0 w w' := by
  have H : (if a0 = true then (some (⟨#[1]⟩ : ByteArray)) else (some (⟨#[0]⟩ : ByteArray))) = some r := h
  clear h
  by_cases c2 : a0 = true
  · subst c2
    have H1 : (some (⟨#[1]⟩ : ByteArray)) = some r := by rw [if_pos rfl] at H; exact H
    clear H
    have H := H1
    clear H1
    obtain rfl := Option.some.inj H
    go_enter Try.func26, Try.ntmps26
    go_wp2
    go_ret
    exact ⟨by first | rfl | (simp; done) | (simp [*]; done), by repeat (first | exact Drawn0.refl _ | apply Drawn0.step)⟩
  · replace c2 := Bool.eq_false_iff.mpr c2
    subst c2
    have H1 : (some (⟨#[0]⟩ : ByteArray)) = some r := by rw [if_neg (show ¬ (false = true) by decide)] at H; exact H
    clear H
    have H := H1
    clear H1
    obtain rfl := Option.some.inj H
    go_enter Try.func26, Try.ntmps26
    go_wp2
    go_ret
    exact ⟨by first | rfl | (simp; done) | (simp [*]; done), by repeat (first | exact Drawn0.refl _ | apply Drawn0.step)⟩

end Go.Proofs.Ytphmejgipjcppaa.P
