-- Written by this session's program gprint.py: functions of the program as plain functions, and that the machine does what they say. Not trusted: Lean checks it.
import Derived.Test.YtpjhmollejiaoaaPx0
import Derived.Test.YtpjhmollejiaoaaPx1
namespace Go.Proofs.Ytpjhmollejiaoaa.P
open Go.RowKit Go.Proofs.YtpjhmollejiaoaaW.PrintWords Go.Proofs.YtpjhmollejiaoaaW.PrintLast Go.Proofs.YtpjhmollejiaoaaW.PrintMore
attribute [local go_sem] max2_int min2_int max_two min_two max_three min_three max_four min_four   -- for this text's walks alone
set_option linter.unusedVariables false
set_option linter.unusedSimpArgs false

/-! ### forebaylaw21_head: function 7 -/
/-- What the head's calls tell. -/
def headOk (k : Nat) : Prop :=
  deps_Of.f k [⟨1, false⟩] [⟨1, true, true⟩] = some 1 ∧ deps_Of.f k [⟨1, false⟩, ⟨2, true⟩] [⟨1, true, false⟩, ⟨2, false, false⟩] = some 3 ∧ deps_Of.f k [⟨1, false⟩, ⟨2, true⟩] [⟨1, true, true⟩, ⟨2, false, false⟩] = some 2 ∧
  deps_Of.f k [⟨1, true⟩] [] = some 3 ∧ deps_Of.f k [] [] = some 1
instance (k : Nat) : Decidable (headOk k) := by unfold headOk; infer_instance
def forebaylaw21_head.f (k : Nat) : Option Bool := if headOk k then some true else none
theorem forebaylaw21_head.mono : ∀ k, LeO (forebaylaw21_head.f k) (forebaylaw21_head.f (k + 1)) := by
  intro k r h
  unfold forebaylaw21_head.f at h ⊢
  by_cases hk : headOk k
  · rw [if_pos hk] at h
    have hk2 : headOk (k + 1) := by
      obtain ⟨h1, h2, h3, h4, h5⟩ := hk
      exact ⟨deps_Of.mono _ _ _ _ h1, deps_Of.mono _ _ _ _ h2, deps_Of.mono _ _ _ _ h3, deps_Of.mono _ _ _ _ h4, deps_Of.mono _ _ _ _ h5⟩
    rw [if_pos hk2]
    exact h
  · rw [if_neg hk] at h; cases h
/-- Two jobs that wait for each other. -/
def adjH (j : Int) : List S28 := if j = 1 then [⟨2, false⟩] else if j = 2 then [⟨1, false⟩] else []
theorem adjH_mem : ∀ j, ∀ y ∈ succT adjH j, y ∈ ([1, 2] : List Int) := by
  intro j y hy
  unfold succT adjH at hy
  by_cases h1 : j = 1
  · rw [if_pos h1] at hy; simp at hy; simp [hy]
  · rw [if_neg h1] at hy
    by_cases h2 : j = 2
    · rw [if_pos h2] at hy; simp at hy; simp [hy]
    · rw [if_neg h2] at hy; simp at hy
theorem adjH_len (j : Int) : (adjH j).length ≤ 1000000 := by
  unfold adjH
  by_cases h1 : j = 1
  · rw [if_pos h1]; simp
  · rw [if_neg h1]
    by_cases h2 : j = 2
    · rw [if_pos h2]; simp
    · rw [if_neg h2]; simp
theorem ring_head : ringT adjH 1 = true := ringT_true (.more (.one (b := 2) (by simp [succT, adjH])) (by simp [succT, adjH]))
theorem ring_none (j : Int) : ringT (fun _ => []) j = false := by
  refine ringT_false (fun h => ?_)
  cases h with
  | one h => simp [succT] at h
  | more _ h => simp [succT] at h
theorem reps_dep1 (W : World) (x : S28) : Reps (k28.K W) k28.sz [x] [.int .i64 x.f0, .bool x.f1] := (Reps.none _ _).snoc (k28_mk W x) rfl
theorem reps_dep2 (W : World) (x y : S28) : Reps (k28.K W) k28.sz [x, y] [.int .i64 x.f0, .bool x.f1, .int .i64 y.f0, .bool y.f1] := (reps_dep1 W x).snoc (k28_mk W y) rfl
theorem reps_end1 (W : World) (x : S32) : Reps (k32.K W) k32.sz [x] [.int .i64 x.f0, .bool x.f1, .bool x.f2] := (Reps.none _ _).snoc (k32_mk W x) rfl
theorem reps_end2 (W : World) (x y : S32) : Reps (k32.K W) k32.sz [x, y] [.int .i64 x.f0, .bool x.f1, .bool x.f2, .int .i64 y.f0, .bool y.f1, .bool y.f2] := (reps_end1 W x).snoc (k32_mk W y) rfl
theorem C_dep1 (w : World) (x : S28) : Kd.C k28 (w.alloc (.cells #[.int .i64 x.f0, .bool x.f1] 28)) (some ⟨w.heap.size, 0, none⟩) 1 [x] := C_reps w (fun W => reps_dep1 W x) (by simp)
theorem C_dep2 (w : World) (x y : S28) : Kd.C k28 (w.alloc (.cells #[.int .i64 x.f0, .bool x.f1, .int .i64 y.f0, .bool y.f1] 28)) (some ⟨w.heap.size, 0, none⟩) 2 [x, y] := C_reps w (fun W => reps_dep2 W x y) (by simp)
theorem C_end1 (w : World) (x : S32) : Kd.C k32 (w.alloc (.cells #[.int .i64 x.f0, .bool x.f1, .bool x.f2] 32)) (some ⟨w.heap.size, 0, none⟩) 1 [x] := C_reps w (fun W => reps_end1 W x) (by simp)
theorem C_end2 (w : World) (x y : S32) : Kd.C k32 (w.alloc (.cells #[.int .i64 x.f0, .bool x.f1, .bool x.f2, .int .i64 y.f0, .bool y.f1, .bool y.f2] 32)) (some ⟨w.heap.size, 0, none⟩) 2 [x, y] := C_reps w (fun W => reps_end2 W x y) (by simp)
theorem F_dep1 (w : World) (x : S28) : Kd.F k28 (w.alloc (.cells #[.int .i64 x.f0, .bool x.f1] 28)) (fun k => k = w.heap.size) (some ⟨w.heap.size, 0, none⟩) 1 [x] := F_reps w (fun W => reps_dep1 W x) (by simp)
/-- The head's own variables, as they lie. -/
structure HSt (w : World) (H : Nat) (W : World) : Prop where
  b1 : BoxN W H 32 [.int .i64 1, .bool true, .bool true]
  b2 : BoxN W (H + 1) 32 [.int .i64 1, .bool true, .bool false]
  b3 : BoxN W (H + 1 + 1) 32 [.int .i64 2, .bool false, .bool false]
  r1 : Kd.C k28 W (some ⟨H + 1 + 1 + 1, 0, none⟩) 1 [⟨1, false⟩]
  r2 : Kd.C k28 W (some ⟨H + 1 + 1 + 1 + 1, 0, none⟩) 2 [⟨1, false⟩, ⟨2, true⟩]
  below : Below H w W
theorem HSt.below' {w W W' : World} {H : Nat} (h : HSt w H W) (hb : Below W.heap.size W W') : HSt w H W' :=
  ⟨h.b1.below hb h.b1.lt, h.b2.below hb h.b2.lt, h.b3.below hb h.b3.lt, Kd.C_below h.r1 hb, Kd.C_below h.r2 hb, h.below.trans (hb.mono (Nat.le_of_lt h.b1.lt))⟩
theorem HSt.alloc {w W : World} {H : Nat} (h : HSt w H W) (o : Obj) : HSt w H (W.alloc o) := h.below' ((Below.refl _ W).alloc (Nat.le_refl _) o)
set_option maxHeartbeats 1000000 in
theorem forebaylaw21_head.calls (k : Nat) (r : Bool) (w : World) (h : forebaylaw21_head.f k = some r) :
    Calls Try.prog 7 #[] w fun e w' => e = .returned (.bool r) ∧ Below w.heap.size w w' := by
  have hu28 := Try.underlying28
  have hu32 := Try.underlying32
  unfold forebaylaw21_head.f at h
  by_cases hk : headOk k
  case neg => rw [if_neg hk] at h; cases h
  rw [if_pos hk] at h
  obtain rfl := Option.some.inj h
  clear h
  obtain ⟨h1, h2, h3, h4, h5⟩ := hk
  have call1 : Aside0 (∀ (W : World) (A0 A1 : Option Addr), Kd.C k28 W A0 1 [⟨1, false⟩] → Kd.C k32 W A1 1 [⟨1, true, true⟩] → Calls Try.prog 8 #[.slice A0 1 1, .slice A1 1 1] W fun e w' => e = .returned (.int .u8 1) ∧ Below W.heap.size W w') :=
    ⟨fun W A0 A1 g0 g1 => deps_Of.calls k A0 1 [⟨1, false⟩] A1 1 [⟨1, true, true⟩] 1 W g0 (Nat.le_refl _) g1 (Nat.le_refl _) h1⟩
  have call2 : Aside0 (∀ (W : World) (A0 A1 : Option Addr), Kd.C k28 W A0 2 [⟨1, false⟩, ⟨2, true⟩] → Kd.C k32 W A1 2 [⟨1, true, false⟩, ⟨2, false, false⟩] → Calls Try.prog 8 #[.slice A0 2 2, .slice A1 2 2] W fun e w' => e = .returned (.int .u8 3) ∧ Below W.heap.size W w') :=
    ⟨fun W A0 A1 g0 g1 => deps_Of.calls k A0 2 [⟨1, false⟩, ⟨2, true⟩] A1 2 [⟨1, true, false⟩, ⟨2, false, false⟩] 3 W g0 (Nat.le_refl _) g1 (Nat.le_refl _) h2⟩
  have call3 : Aside0 (∀ (W : World) (A0 A1 : Option Addr), Kd.C k28 W A0 2 [⟨1, false⟩, ⟨2, true⟩] → Kd.C k32 W A1 2 [⟨1, true, true⟩, ⟨2, false, false⟩] → Calls Try.prog 8 #[.slice A0 2 2, .slice A1 2 2] W fun e w' => e = .returned (.int .u8 2) ∧ Below W.heap.size W w') :=
    ⟨fun W A0 A1 g0 g1 => deps_Of.calls k A0 2 [⟨1, false⟩, ⟨2, true⟩] A1 2 [⟨1, true, true⟩, ⟨2, false, false⟩] 2 W g0 (Nat.le_refl _) g1 (Nat.le_refl _) h3⟩
  have call4 : Aside0 (∀ (W : World) (A0 : Option Addr), Kd.C k28 W A0 1 [⟨1, true⟩] → Calls Try.prog 8 #[.slice A0 1 1, .slice none 0 0] W fun e w' => e = .returned (.int .u8 3) ∧ Below W.heap.size W w') :=
    ⟨fun W A0 g0 => deps_Of.calls k A0 1 [⟨1, true⟩] none 0 [] 3 W g0 (Nat.le_refl _) (Kd.F_now (Kd.F_nil _ _ (fun _ => True))) (Nat.le_refl _) h4⟩
  have call5 : Aside0 (∀ (W : World), Calls Try.prog 8 #[.slice none 0 0, .slice none 0 0] W fun e w' => e = .returned (.int .u8 1) ∧ Below W.heap.size W w') :=
    ⟨fun W => deps_Of.calls k none 0 [] none 0 [] 1 W (Kd.F_now (Kd.F_nil _ _ (fun _ => True))) (Nat.le_refl _) (Kd.F_now (Kd.F_nil _ _ (fun _ => True))) (Nat.le_refl _) h5⟩
  have call6 : Aside0 (∀ (W : World) (b : Nat), IsAfter W (.map (some b)) adjH → Calls Try.prog 10 #[.map (some b), .int .i64 1] W fun e w' => e = .returned (.bool true) ∧ Below W.heap.size W w') :=
    ⟨fun W b g => by
      have := deps_Ring.calls adjH [1, 2] (.map (some b)) 1 W g (by decide) adjH_mem (by decide) (by decide) adjH_len rfl
      rwa [ring_head] at this⟩
  have call7 : Aside0 (∀ (W : World), Calls Try.prog 10 #[.map none, .int .i64 1] W fun e w' => e = .returned (.bool false) ∧ Below W.heap.size W w') :=
    ⟨fun W => by
      have := deps_Ring.calls (fun _ => []) [] (.map none) 1 W ⟨_, .inl ⟨rfl, rfl⟩, fun j _ => ⟨none, 0, rfl, Kd.F_now (Kd.F_nil _ _ (fun _ => True))⟩⟩ (by decide) (fun j y hy => by simp [succT] at hy) (by simp) (by decide) (fun j => by simp) rfl
      rwa [ring_none] at this⟩
  clear h1 h2 h3 h4 h5
  obtain ⟨H, hH⟩ : ∃ H, w.heap.size = H := ⟨_, rfl⟩
  have hmm := @run_makeMap Try.prog
  go_enter Try.func7, Try.ntmps7
  go_upto_region 4 with fail
  obtain ⟨W0, HS0, hW0⟩ : ∃ W0, HSt w H W0 ∧ (((((w.alloc (Obj.cells #[Value.int IntKind.i64 1, Value.bool true, Value.bool true] 32)).alloc (Obj.cells #[Value.int IntKind.i64 1, Value.bool true, Value.bool false] 32)).alloc
              (Obj.cells #[Value.int IntKind.i64 2, Value.bool false, Value.bool false] 32)).alloc (Obj.cells #[Value.int IntKind.i64 1, Value.bool false] 28)).alloc
      (Obj.cells #[Value.int IntKind.i64 1, Value.bool false, Value.int IntKind.i64 2, Value.bool true] 28)) = W0 := by
    refine ⟨_, ?_, rfl⟩
    obtain ⟨W1, hW1⟩ : ∃ W1, w.alloc (Obj.cells #[Value.int IntKind.i64 1, Value.bool true, Value.bool true] 32) = W1 := ⟨_, rfl⟩
    have s1 : W1.heap.size = H + 1 := by rw [← hW1]; simp [hH]
    have b1 : BoxN W1 H 32 [.int .i64 1, .bool true, .bool true] := by rw [← hW1, ← hH]; exact BoxN.new w _ [.int .i64 1, .bool true, .bool true]
    have l1 : Below H w W1 := by rw [← hW1]; exact (Below.refl _ w).alloc (Nat.le_of_eq hH.symm) _
    rw [hW1]
    obtain ⟨W2, hW2⟩ : ∃ W2, W1.alloc (Obj.cells #[Value.int IntKind.i64 1, Value.bool true, Value.bool false] 32) = W2 := ⟨_, rfl⟩
    have s2 : W2.heap.size = H + 1 + 1 := by rw [← hW2]; simp [s1]
    have b2 : BoxN W2 (H + 1) 32 [.int .i64 1, .bool true, .bool false] := by rw [← hW2, ← s1]; exact BoxN.new W1 _ [.int .i64 1, .bool true, .bool false]
    have l2 : Below W1.heap.size W1 W2 := by rw [← hW2]; exact (Below.refl _ _).alloc (Nat.le_refl _) _
    rw [hW2]
    obtain ⟨W3, hW3⟩ : ∃ W3, W2.alloc (Obj.cells #[Value.int IntKind.i64 2, Value.bool false, Value.bool false] 32) = W3 := ⟨_, rfl⟩
    have s3 : W3.heap.size = H + 1 + 1 + 1 := by rw [← hW3]; simp [s2]
    have b3 : BoxN W3 (H + 1 + 1) 32 [.int .i64 2, .bool false, .bool false] := by rw [← hW3, ← s2]; exact BoxN.new W2 _ [.int .i64 2, .bool false, .bool false]
    have l3 : Below W2.heap.size W2 W3 := by rw [← hW3]; exact (Below.refl _ _).alloc (Nat.le_refl _) _
    rw [hW3]
    obtain ⟨W4, hW4⟩ : ∃ W4, W3.alloc (Obj.cells #[Value.int IntKind.i64 1, Value.bool false] 28) = W4 := ⟨_, rfl⟩
    have s4 : W4.heap.size = H + 1 + 1 + 1 + 1 := by rw [← hW4]; simp [s3]
    have b4 : Kd.C k28 W4 (some ⟨H + 1 + 1 + 1, 0, none⟩) 1 [⟨1, false⟩] := by rw [← hW4, ← s3]; exact C_dep1 W3 ⟨1, false⟩
    have l4 : Below W3.heap.size W3 W4 := by rw [← hW4]; exact (Below.refl _ _).alloc (Nat.le_refl _) _
    rw [hW4]
    have b5 := C_dep2 W4 ⟨1, false⟩ ⟨2, true⟩
    rw [s4] at b5
    have l5 : Below W4.heap.size W4 (W4.alloc (Obj.cells #[Value.int IntKind.i64 1, Value.bool false, Value.int IntKind.i64 2, Value.bool true] 28)) := (Below.refl _ _).alloc (Nat.le_refl _) _
    exact ⟨(((b1.below l2 b1.lt).below l3 (by omega)).below l4 (by omega)).below l5 (by omega), ((b2.below l3 b2.lt).below l4 (by omega)).below l5 (by omega), (b3.below l4 b3.lt).below l5 (by omega), Kd.C_below b4 l5, b5,
      (((l1.trans (l2.mono (by omega))).trans (l3.mono (by omega))).trans (l4.mono (by omega))).trans (l5.mono (by omega))⟩
  rw [hW0]
  clear hW0
  replace HS0 := Aside0.mk HS0
  have c0_10 := HS0.out.b1.cell 0 rfl
  have d0_10 := HS0.out.b1.frozen 0
  have c0_11 := HS0.out.b1.cell 1 rfl
  have d0_11 := HS0.out.b1.frozen 1
  have c0_12 := HS0.out.b1.cell 2 rfl
  have d0_12 := HS0.out.b1.frozen 2
  have c0_20 := HS0.out.b2.cell 0 rfl
  have d0_20 := HS0.out.b2.frozen 0
  have c0_21 := HS0.out.b2.cell 1 rfl
  have d0_21 := HS0.out.b2.frozen 1
  have c0_22 := HS0.out.b2.cell 2 rfl
  have d0_22 := HS0.out.b2.frozen 2
  have c0_30 := HS0.out.b3.cell 0 rfl
  have d0_30 := HS0.out.b3.frozen 0
  have c0_31 := HS0.out.b3.cell 1 rfl
  have d0_31 := HS0.out.b3.frozen 1
  have c0_32 := HS0.out.b3.cell 2 rfl
  have d0_32 := HS0.out.b3.frozen 2
  go_wp2_with (first | (go_at_call 8; with_reducible refine (call1.out _ _ _ (HS0.out.alloc _).r1 (C_end1 _ ⟨1, true, true⟩)).mono ?_; rintro e w1 ⟨rfl, hb1⟩; have HS1 := Aside0.mk ((HS0.out.alloc _).below' hb1); clear hb1; have c1_10 := HS1.out.b1.cell 0 rfl; have d1_10 := HS1.out.b1.frozen 0; have c1_11 := HS1.out.b1.cell 1 rfl; have d1_11 := HS1.out.b1.frozen 1; have c1_12 := HS1.out.b1.cell 2 rfl; have d1_12 := HS1.out.b1.frozen 2; have c1_20 := HS1.out.b2.cell 0 rfl; have d1_20 := HS1.out.b2.frozen 0; have c1_21 := HS1.out.b2.cell 1 rfl; have d1_21 := HS1.out.b2.frozen 1; have c1_22 := HS1.out.b2.cell 2 rfl; have d1_22 := HS1.out.b2.frozen 2; have c1_30 := HS1.out.b3.cell 0 rfl; have d1_30 := HS1.out.b3.frozen 0; have c1_31 := HS1.out.b3.cell 1 rfl; have d1_31 := HS1.out.b3.frozen 1; have c1_32 := HS1.out.b3.cell 2 rfl; have d1_32 := HS1.out.b3.frozen 2) | (go_at_call 8; with_reducible refine (call2.out _ _ _ (HS1.out.alloc _).r2 (C_end2 _ ⟨1, true, false⟩ ⟨2, false, false⟩)).mono ?_; rintro e w2 ⟨rfl, hb2⟩; have HS2 := Aside0.mk ((HS1.out.alloc _).below' hb2); clear hb2; have c2_10 := HS2.out.b1.cell 0 rfl; have d2_10 := HS2.out.b1.frozen 0; have c2_11 := HS2.out.b1.cell 1 rfl; have d2_11 := HS2.out.b1.frozen 1; have c2_12 := HS2.out.b1.cell 2 rfl; have d2_12 := HS2.out.b1.frozen 2; have c2_20 := HS2.out.b2.cell 0 rfl; have d2_20 := HS2.out.b2.frozen 0; have c2_21 := HS2.out.b2.cell 1 rfl; have d2_21 := HS2.out.b2.frozen 1; have c2_22 := HS2.out.b2.cell 2 rfl; have d2_22 := HS2.out.b2.frozen 2; have c2_30 := HS2.out.b3.cell 0 rfl; have d2_30 := HS2.out.b3.frozen 0; have c2_31 := HS2.out.b3.cell 1 rfl; have d2_31 := HS2.out.b3.frozen 1; have c2_32 := HS2.out.b3.cell 2 rfl; have d2_32 := HS2.out.b3.frozen 2) | (go_at_call 8; with_reducible refine (call3.out _ _ _ (HS2.out.alloc _).r2 (C_end2 _ ⟨1, true, true⟩ ⟨2, false, false⟩)).mono ?_; rintro e w3 ⟨rfl, hb3⟩; have HS3 := Aside0.mk ((HS2.out.alloc _).below' hb3); clear hb3; have c3_10 := HS3.out.b1.cell 0 rfl; have d3_10 := HS3.out.b1.frozen 0; have c3_11 := HS3.out.b1.cell 1 rfl; have d3_11 := HS3.out.b1.frozen 1; have c3_12 := HS3.out.b1.cell 2 rfl; have d3_12 := HS3.out.b1.frozen 2; have c3_20 := HS3.out.b2.cell 0 rfl; have d3_20 := HS3.out.b2.frozen 0; have c3_21 := HS3.out.b2.cell 1 rfl; have d3_21 := HS3.out.b2.frozen 1; have c3_22 := HS3.out.b2.cell 2 rfl; have d3_22 := HS3.out.b2.frozen 2; have c3_30 := HS3.out.b3.cell 0 rfl; have d3_30 := HS3.out.b3.frozen 0; have c3_31 := HS3.out.b3.cell 1 rfl; have d3_31 := HS3.out.b3.frozen 1; have c3_32 := HS3.out.b3.cell 2 rfl; have d3_32 := HS3.out.b3.frozen 2) | (go_at_call 8; with_reducible refine (call4.out _ _ (C_dep1 _ ⟨1, true⟩)).mono ?_; rintro e w4 ⟨rfl, hb4⟩; have HS4 := Aside0.mk ((HS3.out.alloc _).below' hb4); clear hb4; have c4_10 := HS4.out.b1.cell 0 rfl; have d4_10 := HS4.out.b1.frozen 0; have c4_11 := HS4.out.b1.cell 1 rfl; have d4_11 := HS4.out.b1.frozen 1; have c4_12 := HS4.out.b1.cell 2 rfl; have d4_12 := HS4.out.b1.frozen 2; have c4_20 := HS4.out.b2.cell 0 rfl; have d4_20 := HS4.out.b2.frozen 0; have c4_21 := HS4.out.b2.cell 1 rfl; have d4_21 := HS4.out.b2.frozen 1; have c4_22 := HS4.out.b2.cell 2 rfl; have d4_22 := HS4.out.b2.frozen 2; have c4_30 := HS4.out.b3.cell 0 rfl; have d4_30 := HS4.out.b3.frozen 0; have c4_31 := HS4.out.b3.cell 1 rfl; have d4_31 := HS4.out.b3.frozen 1; have c4_32 := HS4.out.b3.cell 2 rfl; have d4_32 := HS4.out.b3.frozen 2) | (go_at_call 8; with_reducible refine (call5.out _).mono ?_; rintro e w5 ⟨rfl, hb5⟩; have HS5 := Aside0.mk (HS4.out.below' hb5); clear hb5; have c5_10 := HS5.out.b1.cell 0 rfl; have d5_10 := HS5.out.b1.frozen 0; have c5_11 := HS5.out.b1.cell 1 rfl; have d5_11 := HS5.out.b1.frozen 1; have c5_12 := HS5.out.b1.cell 2 rfl; have d5_12 := HS5.out.b1.frozen 2; have c5_20 := HS5.out.b2.cell 0 rfl; have d5_20 := HS5.out.b2.frozen 0; have c5_21 := HS5.out.b2.cell 1 rfl; have d5_21 := HS5.out.b2.frozen 1; have c5_22 := HS5.out.b2.cell 2 rfl; have d5_22 := HS5.out.b2.frozen 2; have c5_30 := HS5.out.b3.cell 0 rfl; have d5_30 := HS5.out.b3.frozen 0; have c5_31 := HS5.out.b3.cell 1 rfl; have d5_31 := HS5.out.b3.frozen 1; have c5_32 := HS5.out.b3.cell 2 rfl; have d5_32 := HS5.out.b3.frozen 2))
  clear c0_10 d0_10 c0_11 d0_11 c0_12 d0_12 c0_20 d0_20 c0_21 d0_21 c0_22 d0_22 c0_30 d0_30 c0_31 d0_31 c0_32 d0_32 c1_10 d1_10 c1_11 d1_11 c1_12 d1_12 c1_20 d1_20 c1_21 d1_21 c1_22 d1_22 c1_30 d1_30 c1_31 d1_31 c1_32 d1_32 c2_10 d2_10 c2_11 d2_11 c2_12 d2_12 c2_20 d2_20 c2_21 d2_21 c2_22 d2_22 c2_30 d2_30 c2_31 d2_31 c2_32 d2_32 c3_10 d3_10 c3_11 d3_11 c3_12 d3_12 c3_20 d3_20 c3_21 d3_21 c3_22 d3_22 c3_30 d3_30 c3_31 d3_31 c3_32 d3_32 c4_10 d4_10 c4_11 d4_11 c4_12 d4_12 c4_20 d4_20 c4_21 d4_21 c4_22 d4_22 c4_30 d4_30 c4_31 d4_31 c4_32 d4_32 c5_10 d5_10 c5_11 d5_11 c5_12 d5_12 c5_20 d5_20 c5_21 d5_21 c5_22 d5_22 c5_30 d5_30 c5_31 d5_31 c5_32 d5_32
  clear HS0 HS1 HS2 HS3 HS4 call1 call2 call3 call4 call5
  have HB5 := Aside0.mk (Keeps.of_below (K := fun k => k < H) HS5.out.below (fun _ _ h => h))
  have hH5 : H ≤ w5.heap.size := Nat.le_of_lt HS5.out.b1.lt
  clear HS5
  have M0 := (MapI.made w5 Try.prog 2 (.slice none 0 0)).alloc (Obj.cells #[Value.int IntKind.i64 2, Value.bool false] 28)
  have F0 := F_dep1 (w5.alloc (Obj.map #[] 0)) ⟨2, false⟩
  have HB5b := Aside0.mk ((HB5.out.alloc (Obj.map #[] 0)).alloc (Obj.cells #[Value.int IntKind.i64 2, Value.bool false] 28))
  rw [World.size_alloc] at F0
  have hsz0 : w5.heap.size + 1 + 1 ≤ ((w5.alloc (Obj.map #[] 0)).alloc (Obj.cells #[Value.int IntKind.i64 2, Value.bool false] 28)).heap.size := by simp
  obtain ⟨wm1, hr1, hm1, hg1⟩ := M0.update Try.underlying2 Try.underlying36 (by decide) (i := 1) (by decide) (.slice (some ⟨w5.heap.size + 1, 0, none⟩) 1 1)
  rw [hr1]
  have F1 := Kd.F_grown F0 hg1 (fun k hk e => by subst hk; injection e with e; omega)
  have hz1 : w5.heap.size + 1 + 1 ≤ wm1.heap.size := Nat.le_trans hsz0 hg1.size
  have HB6 := Aside0.mk (HB5b.out.grown hg1 (fun k e h => by injection e with e; omega))
  clear hr1 hg1 F0 M0 HB5b hsz0
  replace hm1 := Aside0.mk hm1
  replace F1 := Aside0.mk F1
  replace hz1 := Aside0.mk hz1
  go_wp2
  have M1 := hm1.out.alloc (Obj.cells #[Value.int IntKind.i64 1, Value.bool false] 28)
  have G0 := F_dep1 wm1 ⟨1, false⟩
  have F2 := Kd.F_alloc F1.out (Obj.cells #[Value.int IntKind.i64 1, Value.bool false] 28)
  have HB7 := Aside0.mk (HB6.out.alloc (Obj.cells #[Value.int IntKind.i64 1, Value.bool false] 28))
  have hsz1 : w5.heap.size + 1 + 1 ≤ (wm1.alloc (Obj.cells #[Value.int IntKind.i64 1, Value.bool false] 28)).heap.size := by have := hz1.out; simp; omega
  obtain ⟨wm2, hr2, hm2, hg2⟩ := M1.update Try.underlying2 Try.underlying36 (by decide) (i := 2) (by decide) (.slice (some ⟨wm1.heap.size, 0, none⟩) 1 1)
  rw [hr2]
  have F3 := Kd.F_grown F2 hg2 (fun k hk e => by subst hk; injection e with e; omega)
  have G1 := Kd.F_grown G0 hg2 (fun k hk e => by subst hk; injection e with e; have := hz1.out; omega)
  have HB8 := Aside0.mk (HB7.out.grown hg2 (fun k e h => by injection e with e; omega))
  clear hr2 hg2 F2 M1 HB7 hsz1 G0 F1 hm1
  have HI := Aside0.mk (show IsAfter wm2 (.map (some w5.heap.size)) adjH from by
    refine ⟨_, .inr ⟨_, _, rfl, hm2⟩, fun j _ => ?_⟩
    by_cases h1 : j = 1
    · subst h1
      exact ⟨_, _, rfl, Kd.F_now F3⟩
    · by_cases h2 : j = 2
      · subst h2
        exact ⟨_, _, rfl, Kd.F_now G1⟩
      · have e : adjH j = [] := by unfold adjH; rw [if_neg h1, if_neg h2]
        rw [e]
        exact ⟨none, 0, by simp [h1, h2], Kd.F_now (Kd.F_nil _ _ (fun _ => True))⟩)
  clear F3 G1 hm2 hz1
  have HW := Aside0.mk (HB8.out.below (n := H) (Nat.le_of_eq hH.symm) (fun _ h => h))
  clear HB8 HB6 HB5
  go_wp2_with (first | (go_at_call 10; with_reducible refine (call6.out _ _ HI.out).mono ?_; rintro e w7 ⟨rfl, hb7⟩; replace hb7 := Aside0.mk hb7) | (go_at_call 10; with_reducible refine (call7.out _).mono ?_; rintro e w8 ⟨rfl, hb8⟩; replace hb8 := Aside0.mk hb8))
  go_ret
  refine ⟨rfl, ?_⟩
  have hw := HW.out
  rw [← hH] at hw
  have h7 := hw.trans (hb7.out.mono hw.size)
  exact h7.trans (hb8.out.mono h7.size)

/-! ### forebayref21_Of: function 9 -/
mutual
def forebayref21_Of.l0 : Nat → List (S28) → List (S32) → Bool → Int → Option (Int)
  | 0, _, _, _, _ => none
  | k + 1, x0, x1, x5, x6 => if x6 < (x0.length : Int) then (forebayref21_Of.l1 k x0 x1 x5 x6 false 0) else (if x5 = true then (some 2) else (some 1))
def forebayref21_Of.l1 : Nat → List (S28) → List (S32) → Bool → Int → Bool → Int → Option (Int)
  | 0, _, _, _, _, _, _ => none
  | k + 1, x0, x1, x5, x6, x7, x8 => if x8 < (x1.length : Int) then (forebayref21_Of.j2 k x0 x1 x5 x6 x7 x8 (!x7)) else (forebayref21_Of.j2 k x0 x1 x5 x6 x7 x8 false)
def forebayref21_Of.j2 : Nat → List (S28) → List (S32) → Bool → Int → Bool → Int → Bool → Option (Int)
  | 0, _, _, _, _, _, _, _ => none
  | k + 1, x0, x1, x5, x6, x7, x8, x22 => if x22 = true then (if 0 ≤ x8 then (if x8 < (x1.length : Int) then (if 0 ≤ x6 then (if x6 < (x0.length : Int) then (if ((rd_T32 x1 x8).f0) = ((rd_T28 x0 x6).f0) then (if ((rd_T32 x1 x8).f1 = true) then (if ((rd_T32 x1 x8).f2 = true) then (forebayref21_Of.l1 k x0 x1 x5 x6 true (wrap64 (x8 + 1))) else (if ((rd_T28 x0 x6).f1 = true) then (forebayref21_Of.l1 k x0 x1 x5 x6 true (wrap64 (x8 + 1))) else (some 3))) else (forebayref21_Of.l1 k x0 x1 true x6 true (wrap64 (x8 + 1)))) else (forebayref21_Of.l1 k x0 x1 x5 x6 x7 (wrap64 (x8 + 1)))) else (none)) else (none)) else (none)) else (none)) else (if x7 = true then (forebayref21_Of.l0 k x0 x1 x5 (wrap64 (x6 + 1))) else (some 3))
end
def forebayref21_Of.f (k : Nat) (l0 : List (S28)) (l1 : List (S32)) : Option (Int) := forebayref21_Of.l0 k l0 l1 false 0
theorem forebayref21_Of.mono_l : ∀ k, (∀ y0 y1 y2 y3, LeO (forebayref21_Of.l0 k y0 y1 y2 y3) (forebayref21_Of.l0 (k + 1) y0 y1 y2 y3)) ∧ (∀ y0 y1 y2 y3 y4 y5, LeO (forebayref21_Of.l1 k y0 y1 y2 y3 y4 y5) (forebayref21_Of.l1 (k + 1) y0 y1 y2 y3 y4 y5)) ∧ (∀ y0 y1 y2 y3 y4 y5 y6, LeO (forebayref21_Of.j2 k y0 y1 y2 y3 y4 y5 y6) (forebayref21_Of.j2 (k + 1) y0 y1 y2 y3 y4 y5 y6))
  | 0 => ⟨fun _ _ _ _ r h => by simp [forebayref21_Of.l0] at h, fun _ _ _ _ _ _ r h => by simp [forebayref21_Of.l1] at h, fun _ _ _ _ _ _ _ r h => by simp [forebayref21_Of.j2] at h⟩
  | k + 1 => by
    obtain ⟨ih0, ih1, ih2⟩ := forebayref21_Of.mono_l k
    refine ⟨?_, ?_, ?_⟩
    · intro y0 y1 y2 y3
      unfold forebayref21_Of.l0
      repeat' first
      | (with_reducible exact ih0 _ _ _ _)
      | (with_reducible exact ih1 _ _ _ _ _ _)
      | (with_reducible exact ih2 _ _ _ _ _ _ _)
      | (with_reducible exact LeO.refl _)
      | (with_reducible exact LeO.none _)
      | (with_reducible refine LeO.ite ?_ ?_)
      | (with_reducible refine LeO.bind ?_ (fun _ => ?_))
      | exact ih0 _ _ _ _
      | exact ih1 _ _ _ _ _ _
      | exact ih2 _ _ _ _ _ _ _
      | exact LeO.none _
      | refine LeO.ite ?_ ?_
      | refine LeO.bind ?_ (fun _ => ?_)
    · intro y0 y1 y2 y3 y4 y5
      unfold forebayref21_Of.l1
      repeat' first
      | (with_reducible exact ih0 _ _ _ _)
      | (with_reducible exact ih1 _ _ _ _ _ _)
      | (with_reducible exact ih2 _ _ _ _ _ _ _)
      | (with_reducible exact LeO.refl _)
      | (with_reducible exact LeO.none _)
      | (with_reducible refine LeO.ite ?_ ?_)
      | (with_reducible refine LeO.bind ?_ (fun _ => ?_))
      | exact ih0 _ _ _ _
      | exact ih1 _ _ _ _ _ _
      | exact ih2 _ _ _ _ _ _ _
      | exact LeO.none _
      | refine LeO.ite ?_ ?_
      | refine LeO.bind ?_ (fun _ => ?_)
    · intro y0 y1 y2 y3 y4 y5 y6
      unfold forebayref21_Of.j2
      repeat' first
      | (with_reducible exact ih0 _ _ _ _)
      | (with_reducible exact ih1 _ _ _ _ _ _)
      | (with_reducible exact ih2 _ _ _ _ _ _ _)
      | (with_reducible exact LeO.refl _)
      | (with_reducible exact LeO.none _)
      | (with_reducible refine LeO.ite ?_ ?_)
      | (with_reducible refine LeO.bind ?_ (fun _ => ?_))
      | exact ih0 _ _ _ _
      | exact ih1 _ _ _ _ _ _
      | exact ih2 _ _ _ _ _ _ _
      | exact LeO.none _
      | refine LeO.ite ?_ ?_
      | refine LeO.bind ?_ (fun _ => ?_)
theorem forebayref21_Of.mono : ∀ a0 a1 k, LeO (forebayref21_Of.f k a0 a1) (forebayref21_Of.f (k + 1) a0 a1) := by
  intro a0 a1 k
  obtain ⟨ih0, ih1, ih2⟩ := forebayref21_Of.mono_l k
  unfold forebayref21_Of.f
  repeat' first
      | (with_reducible exact ih0 _ _ _ _)
      | (with_reducible exact ih1 _ _ _ _ _ _)
      | (with_reducible exact ih2 _ _ _ _ _ _ _)
      | (with_reducible exact LeO.refl _)
      | (with_reducible exact LeO.none _)
      | (with_reducible refine LeO.ite ?_ ?_)
      | (with_reducible refine LeO.bind ?_ (fun _ => ?_))
      | exact ih0 _ _ _ _
      | exact ih1 _ _ _ _ _ _
      | exact ih2 _ _ _ _ _ _ _
      | exact LeO.none _
      | refine LeO.ite ?_ ?_
      | refine LeO.bind ?_ (fun _ => ?_)
set_option maxHeartbeats 8000000 in
set_option maxRecDepth 100000 in
theorem forebayref21_Of.calls (k : Nat) (A0 : Option Addr) (c0 : Nat) (l0 : List (S28)) (A1 : Option Addr) (c1 : Nat) (l1 : List (S32)) (r : Int) (w : World) (hr0 : Kd.C k28 w A0 l0.length l0) (hc0 : l0.length ≤ c0) (hr1 : Kd.C k32 w A1 l1.length l1) (hc1 : l1.length ≤ c1) (h : forebayref21_Of.f k l0 l1 = some r) :
    Calls Try.prog 9 #[.slice A0 l0.length c0, .slice A1 l1.length c1] w fun e w' => e = .returned (.int .u8 r) ∧ Drawn0 w w' := by
  have HR0 := Aside0.mk hr0
  have HC0 := Aside0.mk hc0
  clear hr0 hc0
  have HR1 := Aside0.mk hr1
  have HC1 := Aside0.mk hc1
  clear hr1 hc1
  have H : (forebayref21_Of.l0 k l0 l1 false 0) = some r := h
  clear h
  have H' := Aside0.mk H
  clear H
  go_enter Try.func9, Try.ntmps9
  go_wp2
  repeat (go_quiet (fail); try go_wp2)
  go_loopg [5, 6] k (fun kq v5 v6 w' => ∃ (x5_1 : Bool) (x6_1 : Int), v5 = .bool x5_1 ∧ v6 = .int .i64 x6_1 ∧ Aside0 (forebayref21_Of.l0 kq l0 l1 x5_1 x6_1 = some r) ∧ Aside0 (kq ≤ k) ∧ Drawn0 w w')
  case atStart => exact ⟨(false), (0), (by first | rfl | (simp; done) | (simp [*]; done) | (simp; exact isEmpty_bne _)), (by first | rfl | (simp; done) | (simp [*]; done) | (simp; exact isEmpty_bne _)), H', ⟨Nat.le_refl _⟩, by repeat (first | exact Drawn0.refl _ | apply Drawn0.step)⟩
  case round =>
    clear H'
    try clear c1
    try clear p2
    obtain ⟨x5_1, x6_1, rfl, rfl, HA, HK1, ⟨m1, rfl⟩⟩ := hrel
    cases gk with
    | zero => exact absurd HA.out (by simp [forebayref21_Of.l0])
    | succ k1 =>
      have H := HA.out
      clear HA
      simp only [forebayref21_Of.l0] at H
      by_cases c3 : x6_1 < (l0.length : Int)
      · rw [if_pos c3] at H
        have c3b0 : decide (x6_1 < (l0.length : Int)) = true := decide_eq_true c3
        clear c3
        have H' := Aside0.mk H
        clear H
        go_wp2
        repeat (go_quiet (fail); try go_wp2)
        go_loopg [5, 7, 8] k1 (fun kq v5 v7 v8 w' => ∃ (x5_2 : Bool) (x7_2 : Bool) (x8_2 : Int), v5 = .bool x5_2 ∧ v7 = .bool x7_2 ∧ v8 = .int .i64 x8_2 ∧ Aside0 (forebayref21_Of.l1 kq l0 l1 x5_2 x6_1 x7_2 x8_2 = some r) ∧ Aside0 (kq ≤ k1) ∧ Drawn0 w w')
        case atStart => exact ⟨(x5_1), (false), (0), (by first | rfl | (simp; done) | (simp [*]; done) | (simp; exact isEmpty_bne _)), (by first | rfl | (simp; done) | (simp [*]; done) | (simp; exact isEmpty_bne _)), (by first | rfl | (simp; done) | (simp [*]; done) | (simp; exact isEmpty_bne _)), H', ⟨Nat.le_refl _⟩, by repeat (first | exact Drawn0.refl _ | apply Drawn0.step)⟩
        case round =>
          clear H'
          try clear c1
          try clear p2
          try clear c3
          try clear c3b0
          try clear p2
          obtain ⟨x5_2, x7_2, x8_2, rfl, rfl, rfl, HA, HK2, ⟨m2, rfl⟩⟩ := hrel
          cases gk with
          | zero => exact absurd HA.out (by simp [forebayref21_Of.l1])
          | succ k2 =>
            have H := HA.out
            clear HA
            simp only [forebayref21_Of.l1] at H
            have HC4 := Aside0.mk H
            clear H
            go_upto_region 7 with (fail)
            repeat (go_quiet (fail); go_upto_region 7 with (fail))
            go_cut [22] (fun v22 wc => ∃ (kq : Nat) (x22_3 : Bool), v22 = .bool x22_3 ∧ Aside0 (forebayref21_Of.j2 kq l0 l1 x5_2 x6_1 x7_2 x8_2 x22_3 = some r) ∧ Aside0 (kq ≤ k2) ∧ Drawn0 w wc)
            case first =>
              have H := HC4.out
              clear HC4
              by_cases c5 : x8_2 < (l1.length : Int)
              · rw [if_pos c5] at H
                have c5b0 : decide (x8_2 < (l1.length : Int)) = true := decide_eq_true c5
                clear c5
                (first | rw [c5b0] | (simp only [i64_w, i32_w]; rw [c5b0]) | skip)
                have H' := Aside0.mk H
                clear H
                go_wp2
                repeat (go_quiet (fail); try go_wp2)
                go_meet
                case rel => exact ⟨_, (!x7_2), (by first | rfl | (simp; done) | (simp [*]; done) | (simp; exact isEmpty_bne _)), H', ⟨by have := HK1.out; have := HK2.out; first | omega | exact Nat.le_refl _⟩, by repeat (first | exact Drawn0.refl _ | apply Drawn0.step)⟩
              · rw [if_neg c5] at H
                have c5b0 : decide (x8_2 < (l1.length : Int)) = false := decide_eq_false c5
                clear c5
                (first | rw [c5b0] | (simp only [i64_w, i32_w]; rw [c5b0]) | skip)
                have H' := Aside0.mk H
                clear H
                go_wp2
                repeat (go_quiet (fail); try go_wp2)
                go_meet
                case rel => exact ⟨_, (false), (by first | rfl | (simp; done) | (simp [*]; done) | (simp; exact isEmpty_bne _)), H', ⟨by have := HK1.out; have := HK2.out; first | omega | exact Nat.le_refl _⟩, by repeat (first | exact Drawn0.refl _ | apply Drawn0.step)⟩
            case rest =>
              clear HC4
              try clear c1
              try clear p2
              try clear c3
              try clear c3b0
              try clear c5
              try clear c5b0
              try clear p2
              obtain ⟨kq, x22_3, rfl, HA, HJ3, ⟨mc3, rfl⟩⟩ := hcut
              cases kq with
              | zero => exact absurd HA.out (by simp [forebayref21_Of.j2])
              | succ kj3 =>
                have H := HA.out
                clear HA
                simp only [forebayref21_Of.j2] at H
                by_cases c6 : x22_3 = true
                · subst c6
                  have H1 : (if 0 ≤ x8_2 then (if x8_2 < (l1.length : Int) then (if 0 ≤ x6_1 then (if x6_1 < (l0.length : Int) then (if ((rd_T32 l1 x8_2).f0) = ((rd_T28 l0 x6_1).f0) then (if ((rd_T32 l1 x8_2).f1 = true) then (if ((rd_T32 l1 x8_2).f2 = true) then (forebayref21_Of.l1 kj3 l0 l1 x5_2 x6_1 true (wrap64 (x8_2 + 1))) else (if ((rd_T28 l0 x6_1).f1 = true) then (forebayref21_Of.l1 kj3 l0 l1 x5_2 x6_1 true (wrap64 (x8_2 + 1))) else (some 3))) else (forebayref21_Of.l1 kj3 l0 l1 true x6_1 true (wrap64 (x8_2 + 1)))) else (forebayref21_Of.l1 kj3 l0 l1 x5_2 x6_1 x7_2 (wrap64 (x8_2 + 1)))) else (none)) else (none)) else (none)) else (none)) = some r := by rw [if_pos rfl] at H; exact H
                  clear H
                  have H := H1
                  clear H1
                  by_cases c7 : 0 ≤ x8_2
                  · rw [if_pos c7] at H
                    have c7b0 : decide (0 ≤ x8_2) = true := decide_eq_true c7
                    clear c7
                    by_cases c8 : x8_2 < (l1.length : Int)
                    · rw [if_pos c8] at H
                      have c8b0 : decide (x8_2 < (l1.length : Int)) = true := decide_eq_true c8
                      clear c8
                      by_cases c9 : 0 ≤ x6_1
                      · rw [if_pos c9] at H
                        have c9b0 : decide (0 ≤ x6_1) = true := decide_eq_true c9
                        clear c9
                        by_cases c10 : x6_1 < (l0.length : Int)
                        · rw [if_pos c10] at H
                          have c10b0 : decide (x6_1 < (l0.length : Int)) = true := decide_eq_true c10
                          clear c10
                          by_cases c11 : ((rd_T32 l1 x8_2).f0) = ((rd_T28 l0 x6_1).f0)
                          · rw [if_pos c11] at H
                            have c11b0 : (((rd_T32 l1 x8_2).f0) == ((rd_T28 l0 x6_1).f0)) = true := beq_iff_eq.mpr c11
                            have c11b1 : (((rd_T32 l1 x8_2).f0) != ((rd_T28 l0 x6_1).f0)) = false := bne_eq_false_iff_eq.mpr c11
                            clear c11
                            obtain ⟨bq12, hbq12⟩ : ∃ b_ : Bool, b_ = ((rd_T32 l1 x8_2).f1) := ⟨_, rfl⟩
                            replace H : (if (bq12 = true) then (if ((rd_T32 l1 x8_2).f2 = true) then (forebayref21_Of.l1 kj3 l0 l1 x5_2 x6_1 true (wrap64 (x8_2 + 1))) else (if ((rd_T28 l0 x6_1).f1 = true) then (forebayref21_Of.l1 kj3 l0 l1 x5_2 x6_1 true (wrap64 (x8_2 + 1))) else (some 3))) else (forebayref21_Of.l1 kj3 l0 l1 true x6_1 true (wrap64 (x8_2 + 1)))) = some r := by rw [← hbq12] at H; exact H
                            have Nbq12 := Aside0.mk hbq12
                            clear hbq12
                            by_cases c13 : (bq12 = true)
                            · subst c13
                              have H1 : (if ((rd_T32 l1 x8_2).f2 = true) then (forebayref21_Of.l1 kj3 l0 l1 x5_2 x6_1 true (wrap64 (x8_2 + 1))) else (if ((rd_T28 l0 x6_1).f1 = true) then (forebayref21_Of.l1 kj3 l0 l1 x5_2 x6_1 true (wrap64 (x8_2 + 1))) else (some 3))) = some r := by rw [if_pos rfl] at H; exact H
                              clear H
                              have H := H1
                              clear H1
                              obtain ⟨bq14, hbq14⟩ : ∃ b_ : Bool, b_ = ((rd_T32 l1 x8_2).f2) := ⟨_, rfl⟩
                              replace H : (if (bq14 = true) then (forebayref21_Of.l1 kj3 l0 l1 x5_2 x6_1 true (wrap64 (x8_2 + 1))) else (if ((rd_T28 l0 x6_1).f1 = true) then (forebayref21_Of.l1 kj3 l0 l1 x5_2 x6_1 true (wrap64 (x8_2 + 1))) else (some 3))) = some r := by rw [← hbq14] at H; exact H
                              have Nbq14 := Aside0.mk hbq14
                              clear hbq14
                              by_cases c15 : (bq14 = true)
                              · subst c15
                                have H1 : (forebayref21_Of.l1 kj3 l0 l1 x5_2 x6_1 true (wrap64 (x8_2 + 1))) = some r := by rw [if_pos rfl] at H; exact H
                                clear H
                                have H := H1
                                clear H1
                                have H' := Aside0.mk H
                                clear H
                                have p107 : 0 ≤ (x8_2 : Int) := of_decide_eq_true (by first | (with_reducible assumption) | assumption)
                                have q107 : x8_2 < (l1.length : Int) := of_decide_eq_true (by first | (with_reducible assumption) | assumption)
                                obtain ⟨ad107, e107, hx107_0, hx107_1, hx107_2⟩ := at_T32 HR1.out x8_2 p107 q107
                                (try rw [← Nbq12.out] at hx107_1)
                                (try rw [← Nbq14.out] at hx107_1)
                                (try rw [← Nbq12.out] at hx107_2)
                                (try rw [← Nbq14.out] at hx107_2)
                                cases e107
                                replace p107 := eq_true p107
                                replace q107 := eq_true q107
                                have p108 : 0 ≤ (x6_1 : Int) := of_decide_eq_true (by first | (with_reducible assumption) | assumption)
                                have q108 : x6_1 < (l0.length : Int) := of_decide_eq_true (by first | (with_reducible assumption) | assumption)
                                obtain ⟨ad108, e108, hx108_0, hx108_1⟩ := at_T28 HR0.out x6_1 p108 q108
                                (try rw [← Nbq12.out] at hx108_1)
                                (try rw [← Nbq14.out] at hx108_1)
                                cases e108
                                replace p108 := eq_true p108
                                replace q108 := eq_true q108
                                have p109 : 0 ≤ (x8_2 : Int) := of_decide_eq_true (by first | (with_reducible assumption) | assumption)
                                have q109 : x8_2 < (l1.length : Int) := of_decide_eq_true (by first | (with_reducible assumption) | assumption)
                                obtain ⟨ad109, e109, hx109_0, hx109_1, hx109_2⟩ := at_T32 HR1.out x8_2 p109 q109
                                (try rw [← Nbq12.out] at hx109_1)
                                (try rw [← Nbq14.out] at hx109_1)
                                (try rw [← Nbq12.out] at hx109_2)
                                (try rw [← Nbq14.out] at hx109_2)
                                obtain rfl : ad107 = ad109 := (by injection e109)
                                replace p109 := eq_true p109
                                replace q109 := eq_true q109
                                have p110 : 0 ≤ (x8_2 : Int) := of_decide_eq_true (by first | (with_reducible assumption) | assumption)
                                have q110 : x8_2 < (l1.length : Int) := of_decide_eq_true (by first | (with_reducible assumption) | assumption)
                                obtain ⟨ad110, e110, hx110_0, hx110_1, hx110_2⟩ := at_T32 HR1.out x8_2 p110 q110
                                (try rw [← Nbq12.out] at hx110_1)
                                (try rw [← Nbq14.out] at hx110_1)
                                (try rw [← Nbq12.out] at hx110_2)
                                (try rw [← Nbq14.out] at hx110_2)
                                obtain rfl : ad107 = ad110 := (by injection e110)
                                replace p110 := eq_true p110
                                replace q110 := eq_true q110
                                go_wp2
                                repeat (go_quiet (fail); try go_wp2)
                                go_roundg kj3
                                case measure => have := HK1.out; have := HK2.out; have := HJ3.out; omega
                                case rel => exact ⟨(x5_2), (true), (wrap64 (x8_2 + 1)), (by first | rfl | (simp; done) | (simp [*]; done) | (simp; exact isEmpty_bne _)), (by first | rfl | (simp; done) | (simp [*]; done) | (simp; exact isEmpty_bne _)), (by first | rfl | (simp; done) | (simp [*]; done) | (simp; exact isEmpty_bne _)), H', ⟨by have := HK1.out; have := HK2.out; have := HJ3.out; omega⟩, by repeat (first | exact Drawn0.refl _ | apply Drawn0.step)⟩
                              · replace c15 := Bool.eq_false_iff.mpr c15
                                subst c15
                                have H1 : (if ((rd_T28 l0 x6_1).f1 = true) then (forebayref21_Of.l1 kj3 l0 l1 x5_2 x6_1 true (wrap64 (x8_2 + 1))) else (some 3)) = some r := by rw [if_neg (show ¬ (false = true) by decide)] at H; exact H
                                clear H
                                have H := H1
                                clear H1
                                obtain ⟨bq16, hbq16⟩ : ∃ b_ : Bool, b_ = ((rd_T28 l0 x6_1).f1) := ⟨_, rfl⟩
                                replace H : (if (bq16 = true) then (forebayref21_Of.l1 kj3 l0 l1 x5_2 x6_1 true (wrap64 (x8_2 + 1))) else (some 3)) = some r := by rw [← hbq16] at H; exact H
                                have Nbq16 := Aside0.mk hbq16
                                clear hbq16
                                by_cases c17 : (bq16 = true)
                                · subst c17
                                  have H1 : (forebayref21_Of.l1 kj3 l0 l1 x5_2 x6_1 true (wrap64 (x8_2 + 1))) = some r := by rw [if_pos rfl] at H; exact H
                                  clear H
                                  have H := H1
                                  clear H1
                                  have H' := Aside0.mk H
                                  clear H
                                  have p107 : 0 ≤ (x8_2 : Int) := of_decide_eq_true (by first | (with_reducible assumption) | assumption)
                                  have q107 : x8_2 < (l1.length : Int) := of_decide_eq_true (by first | (with_reducible assumption) | assumption)
                                  obtain ⟨ad107, e107, hx107_0, hx107_1, hx107_2⟩ := at_T32 HR1.out x8_2 p107 q107
                                  (try rw [← Nbq12.out] at hx107_1)
                                  (try rw [← Nbq14.out] at hx107_1)
                                  (try rw [← Nbq16.out] at hx107_1)
                                  (try rw [← Nbq12.out] at hx107_2)
                                  (try rw [← Nbq14.out] at hx107_2)
                                  (try rw [← Nbq16.out] at hx107_2)
                                  cases e107
                                  replace p107 := eq_true p107
                                  replace q107 := eq_true q107
                                  have p108 : 0 ≤ (x6_1 : Int) := of_decide_eq_true (by first | (with_reducible assumption) | assumption)
                                  have q108 : x6_1 < (l0.length : Int) := of_decide_eq_true (by first | (with_reducible assumption) | assumption)
                                  obtain ⟨ad108, e108, hx108_0, hx108_1⟩ := at_T28 HR0.out x6_1 p108 q108
                                  (try rw [← Nbq12.out] at hx108_1)
                                  (try rw [← Nbq14.out] at hx108_1)
                                  (try rw [← Nbq16.out] at hx108_1)
                                  cases e108
                                  replace p108 := eq_true p108
                                  replace q108 := eq_true q108
                                  have p109 : 0 ≤ (x8_2 : Int) := of_decide_eq_true (by first | (with_reducible assumption) | assumption)
                                  have q109 : x8_2 < (l1.length : Int) := of_decide_eq_true (by first | (with_reducible assumption) | assumption)
                                  obtain ⟨ad109, e109, hx109_0, hx109_1, hx109_2⟩ := at_T32 HR1.out x8_2 p109 q109
                                  (try rw [← Nbq12.out] at hx109_1)
                                  (try rw [← Nbq14.out] at hx109_1)
                                  (try rw [← Nbq16.out] at hx109_1)
                                  (try rw [← Nbq12.out] at hx109_2)
                                  (try rw [← Nbq14.out] at hx109_2)
                                  (try rw [← Nbq16.out] at hx109_2)
                                  obtain rfl : ad107 = ad109 := (by injection e109)
                                  replace p109 := eq_true p109
                                  replace q109 := eq_true q109
                                  have p110 : 0 ≤ (x8_2 : Int) := of_decide_eq_true (by first | (with_reducible assumption) | assumption)
                                  have q110 : x8_2 < (l1.length : Int) := of_decide_eq_true (by first | (with_reducible assumption) | assumption)
                                  obtain ⟨ad110, e110, hx110_0, hx110_1, hx110_2⟩ := at_T32 HR1.out x8_2 p110 q110
                                  (try rw [← Nbq12.out] at hx110_1)
                                  (try rw [← Nbq14.out] at hx110_1)
                                  (try rw [← Nbq16.out] at hx110_1)
                                  (try rw [← Nbq12.out] at hx110_2)
                                  (try rw [← Nbq14.out] at hx110_2)
                                  (try rw [← Nbq16.out] at hx110_2)
                                  obtain rfl : ad107 = ad110 := (by injection e110)
                                  replace p110 := eq_true p110
                                  replace q110 := eq_true q110
                                  have p111 : 0 ≤ (x6_1 : Int) := of_decide_eq_true (by first | (with_reducible assumption) | assumption)
                                  have q111 : x6_1 < (l0.length : Int) := of_decide_eq_true (by first | (with_reducible assumption) | assumption)
                                  obtain ⟨ad111, e111, hx111_0, hx111_1⟩ := at_T28 HR0.out x6_1 p111 q111
                                  (try rw [← Nbq12.out] at hx111_1)
                                  (try rw [← Nbq14.out] at hx111_1)
                                  (try rw [← Nbq16.out] at hx111_1)
                                  obtain rfl : ad108 = ad111 := (by injection e111)
                                  replace p111 := eq_true p111
                                  replace q111 := eq_true q111
                                  go_wp2
                                  repeat (go_quiet (fail); try go_wp2)
                                  go_roundg kj3
                                  case measure => have := HK1.out; have := HK2.out; have := HJ3.out; omega
                                  case rel => exact ⟨(x5_2), (true), (wrap64 (x8_2 + 1)), (by first | rfl | (simp; done) | (simp [*]; done) | (simp; exact isEmpty_bne _)), (by first | rfl | (simp; done) | (simp [*]; done) | (simp; exact isEmpty_bne _)), (by first | rfl | (simp; done) | (simp [*]; done) | (simp; exact isEmpty_bne _)), H', ⟨by have := HK1.out; have := HK2.out; have := HJ3.out; omega⟩, by repeat (first | exact Drawn0.refl _ | apply Drawn0.step)⟩
                                · replace c17 := Bool.eq_false_iff.mpr c17
                                  subst c17
                                  have H1 : (some 3) = some r := by rw [if_neg (show ¬ (false = true) by decide)] at H; exact H
                                  clear H
                                  have H := H1
                                  clear H1
                                  obtain rfl := Option.some.inj H
                                  have p107 : 0 ≤ (x8_2 : Int) := of_decide_eq_true (by first | (with_reducible assumption) | assumption)
                                  have q107 : x8_2 < (l1.length : Int) := of_decide_eq_true (by first | (with_reducible assumption) | assumption)
                                  obtain ⟨ad107, e107, hx107_0, hx107_1, hx107_2⟩ := at_T32 HR1.out x8_2 p107 q107
                                  (try rw [← Nbq12.out] at hx107_1)
                                  (try rw [← Nbq14.out] at hx107_1)
                                  (try rw [← Nbq16.out] at hx107_1)
                                  (try rw [← Nbq12.out] at hx107_2)
                                  (try rw [← Nbq14.out] at hx107_2)
                                  (try rw [← Nbq16.out] at hx107_2)
                                  cases e107
                                  replace p107 := eq_true p107
                                  replace q107 := eq_true q107
                                  have p108 : 0 ≤ (x6_1 : Int) := of_decide_eq_true (by first | (with_reducible assumption) | assumption)
                                  have q108 : x6_1 < (l0.length : Int) := of_decide_eq_true (by first | (with_reducible assumption) | assumption)
                                  obtain ⟨ad108, e108, hx108_0, hx108_1⟩ := at_T28 HR0.out x6_1 p108 q108
                                  (try rw [← Nbq12.out] at hx108_1)
                                  (try rw [← Nbq14.out] at hx108_1)
                                  (try rw [← Nbq16.out] at hx108_1)
                                  cases e108
                                  replace p108 := eq_true p108
                                  replace q108 := eq_true q108
                                  have p109 : 0 ≤ (x8_2 : Int) := of_decide_eq_true (by first | (with_reducible assumption) | assumption)
                                  have q109 : x8_2 < (l1.length : Int) := of_decide_eq_true (by first | (with_reducible assumption) | assumption)
                                  obtain ⟨ad109, e109, hx109_0, hx109_1, hx109_2⟩ := at_T32 HR1.out x8_2 p109 q109
                                  (try rw [← Nbq12.out] at hx109_1)
                                  (try rw [← Nbq14.out] at hx109_1)
                                  (try rw [← Nbq16.out] at hx109_1)
                                  (try rw [← Nbq12.out] at hx109_2)
                                  (try rw [← Nbq14.out] at hx109_2)
                                  (try rw [← Nbq16.out] at hx109_2)
                                  obtain rfl : ad107 = ad109 := (by injection e109)
                                  replace p109 := eq_true p109
                                  replace q109 := eq_true q109
                                  have p110 : 0 ≤ (x8_2 : Int) := of_decide_eq_true (by first | (with_reducible assumption) | assumption)
                                  have q110 : x8_2 < (l1.length : Int) := of_decide_eq_true (by first | (with_reducible assumption) | assumption)
                                  obtain ⟨ad110, e110, hx110_0, hx110_1, hx110_2⟩ := at_T32 HR1.out x8_2 p110 q110
                                  (try rw [← Nbq12.out] at hx110_1)
                                  (try rw [← Nbq14.out] at hx110_1)
                                  (try rw [← Nbq16.out] at hx110_1)
                                  (try rw [← Nbq12.out] at hx110_2)
                                  (try rw [← Nbq14.out] at hx110_2)
                                  (try rw [← Nbq16.out] at hx110_2)
                                  obtain rfl : ad107 = ad110 := (by injection e110)
                                  replace p110 := eq_true p110
                                  replace q110 := eq_true q110
                                  have p111 : 0 ≤ (x6_1 : Int) := of_decide_eq_true (by first | (with_reducible assumption) | assumption)
                                  have q111 : x6_1 < (l0.length : Int) := of_decide_eq_true (by first | (with_reducible assumption) | assumption)
                                  obtain ⟨ad111, e111, hx111_0, hx111_1⟩ := at_T28 HR0.out x6_1 p111 q111
                                  (try rw [← Nbq12.out] at hx111_1)
                                  (try rw [← Nbq14.out] at hx111_1)
                                  (try rw [← Nbq16.out] at hx111_1)
                                  obtain rfl : ad108 = ad111 := (by injection e111)
                                  replace p111 := eq_true p111
                                  replace q111 := eq_true q111
                                  go_wp2
                                  repeat (go_quiet (fail); try go_wp2)
                                  go_ret
                                  exact ⟨by first | rfl | (simp; done) | (simp [*]; done), by repeat (first | exact Drawn0.refl _ | apply Drawn0.step)⟩
                            · replace c13 := Bool.eq_false_iff.mpr c13
                              subst c13
                              have H1 : (forebayref21_Of.l1 kj3 l0 l1 true x6_1 true (wrap64 (x8_2 + 1))) = some r := by rw [if_neg (show ¬ (false = true) by decide)] at H; exact H
                              clear H
                              have H := H1
                              clear H1
                              have H' := Aside0.mk H
                              clear H
                              have p107 : 0 ≤ (x8_2 : Int) := of_decide_eq_true (by first | (with_reducible assumption) | assumption)
                              have q107 : x8_2 < (l1.length : Int) := of_decide_eq_true (by first | (with_reducible assumption) | assumption)
                              obtain ⟨ad107, e107, hx107_0, hx107_1, hx107_2⟩ := at_T32 HR1.out x8_2 p107 q107
                              (try rw [← Nbq12.out] at hx107_1)
                              (try rw [← Nbq12.out] at hx107_2)
                              cases e107
                              replace p107 := eq_true p107
                              replace q107 := eq_true q107
                              have p108 : 0 ≤ (x6_1 : Int) := of_decide_eq_true (by first | (with_reducible assumption) | assumption)
                              have q108 : x6_1 < (l0.length : Int) := of_decide_eq_true (by first | (with_reducible assumption) | assumption)
                              obtain ⟨ad108, e108, hx108_0, hx108_1⟩ := at_T28 HR0.out x6_1 p108 q108
                              (try rw [← Nbq12.out] at hx108_1)
                              cases e108
                              replace p108 := eq_true p108
                              replace q108 := eq_true q108
                              have p109 : 0 ≤ (x8_2 : Int) := of_decide_eq_true (by first | (with_reducible assumption) | assumption)
                              have q109 : x8_2 < (l1.length : Int) := of_decide_eq_true (by first | (with_reducible assumption) | assumption)
                              obtain ⟨ad109, e109, hx109_0, hx109_1, hx109_2⟩ := at_T32 HR1.out x8_2 p109 q109
                              (try rw [← Nbq12.out] at hx109_1)
                              (try rw [← Nbq12.out] at hx109_2)
                              obtain rfl : ad107 = ad109 := (by injection e109)
                              replace p109 := eq_true p109
                              replace q109 := eq_true q109
                              go_wp2
                              repeat (go_quiet (fail); try go_wp2)
                              go_roundg kj3
                              case measure => have := HK1.out; have := HK2.out; have := HJ3.out; omega
                              case rel => exact ⟨(true), (true), (wrap64 (x8_2 + 1)), (by first | rfl | (simp; done) | (simp [*]; done) | (simp; exact isEmpty_bne _)), (by first | rfl | (simp; done) | (simp [*]; done) | (simp; exact isEmpty_bne _)), (by first | rfl | (simp; done) | (simp [*]; done) | (simp; exact isEmpty_bne _)), H', ⟨by have := HK1.out; have := HK2.out; have := HJ3.out; omega⟩, by repeat (first | exact Drawn0.refl _ | apply Drawn0.step)⟩
                          · rw [if_neg c11] at H
                            have c11b0 : (((rd_T32 l1 x8_2).f0) == ((rd_T28 l0 x6_1).f0)) = false := beq_eq_false_iff_ne.mpr c11
                            have c11b1 : (((rd_T32 l1 x8_2).f0) != ((rd_T28 l0 x6_1).f0)) = true := bne_iff_ne.mpr c11
                            have H' := Aside0.mk H
                            clear H
                            have p107 : 0 ≤ (x8_2 : Int) := of_decide_eq_true (by first | (with_reducible assumption) | assumption)
                            have q107 : x8_2 < (l1.length : Int) := of_decide_eq_true (by first | (with_reducible assumption) | assumption)
                            obtain ⟨ad107, e107, hx107_0, hx107_1, hx107_2⟩ := at_T32 HR1.out x8_2 p107 q107
                            cases e107
                            replace p107 := eq_true p107
                            replace q107 := eq_true q107
                            have p108 : 0 ≤ (x6_1 : Int) := of_decide_eq_true (by first | (with_reducible assumption) | assumption)
                            have q108 : x6_1 < (l0.length : Int) := of_decide_eq_true (by first | (with_reducible assumption) | assumption)
                            obtain ⟨ad108, e108, hx108_0, hx108_1⟩ := at_T28 HR0.out x6_1 p108 q108
                            cases e108
                            replace p108 := eq_true p108
                            replace q108 := eq_true q108
                            go_wp2
                            repeat (go_quiet (fail); try go_wp2)
                            go_roundg kj3
                            case measure => have := HK1.out; have := HK2.out; have := HJ3.out; omega
                            case rel => exact ⟨(x5_2), (x7_2), (wrap64 (x8_2 + 1)), (by first | rfl | (simp; done) | (simp [*]; done) | (simp; exact isEmpty_bne _)), (by first | rfl | (simp; done) | (simp [*]; done) | (simp; exact isEmpty_bne _)), (by first | rfl | (simp; done) | (simp [*]; done) | (simp; exact isEmpty_bne _)), H', ⟨by have := HK1.out; have := HK2.out; have := HJ3.out; omega⟩, by repeat (first | exact Drawn0.refl _ | apply Drawn0.step)⟩
                        · rw [if_neg c10] at H
                          exact absurd H (by simp)
                      · rw [if_neg c9] at H
                        exact absurd H (by simp)
                    · rw [if_neg c8] at H
                      exact absurd H (by simp)
                  · rw [if_neg c7] at H
                    exact absurd H (by simp)
                · replace c6 := Bool.eq_false_iff.mpr c6
                  subst c6
                  have H1 : (if x7_2 = true then (forebayref21_Of.l0 kj3 l0 l1 x5_2 (wrap64 (x6_1 + 1))) else (some 3)) = some r := by rw [if_neg (show ¬ (false = true) by decide)] at H; exact H
                  clear H
                  have H := H1
                  clear H1
                  by_cases c18 : x7_2 = true
                  · subst c18
                    have H1 : (forebayref21_Of.l0 kj3 l0 l1 x5_2 (wrap64 (x6_1 + 1))) = some r := by rw [if_pos rfl] at H; exact H
                    clear H
                    have H := H1
                    clear H1
                    have H' := Aside0.mk H
                    clear H
                    go_wp2
                    repeat (go_quiet (fail); try go_wp2)
                    go_roundg kj3
                    case measure => have := HK1.out; have := HK2.out; have := HJ3.out; omega
                    case rel => exact ⟨(x5_2), (wrap64 (x6_1 + 1)), (by first | rfl | (simp; done) | (simp [*]; done) | (simp; exact isEmpty_bne _)), (by first | rfl | (simp; done) | (simp [*]; done) | (simp; exact isEmpty_bne _)), H', ⟨by have := HK1.out; have := HK2.out; have := HJ3.out; omega⟩, by repeat (first | exact Drawn0.refl _ | apply Drawn0.step)⟩
                  · replace c18 := Bool.eq_false_iff.mpr c18
                    subst c18
                    have H1 : (some 3) = some r := by rw [if_neg (show ¬ (false = true) by decide)] at H; exact H
                    clear H
                    have H := H1
                    clear H1
                    obtain rfl := Option.some.inj H
                    go_wp2
                    repeat (go_quiet (fail); try go_wp2)
                    go_ret
                    exact ⟨by first | rfl | (simp; done) | (simp [*]; done), by repeat (first | exact Drawn0.refl _ | apply Drawn0.step)⟩
      · rw [if_neg c3] at H
        have c3b0 : decide (x6_1 < (l0.length : Int)) = false := decide_eq_false c3
        clear c3
        by_cases c19 : x5_1 = true
        · subst c19
          have H1 : (some 2) = some r := by rw [if_pos rfl] at H; exact H
          clear H
          have H := H1
          clear H1
          obtain rfl := Option.some.inj H
          go_wp2
          repeat (go_quiet (fail); try go_wp2)
          go_ret
          exact ⟨by first | rfl | (simp; done) | (simp [*]; done), by repeat (first | exact Drawn0.refl _ | apply Drawn0.step)⟩
        · replace c19 := Bool.eq_false_iff.mpr c19
          subst c19
          have H1 : (some 1) = some r := by rw [if_neg (show ¬ (false = true) by decide)] at H; exact H
          clear H
          have H := H1
          clear H1
          obtain rfl := Option.some.inj H
          go_wp2
          repeat (go_quiet (fail); try go_wp2)
          go_ret
          exact ⟨by first | rfl | (simp; done) | (simp [*]; done), by repeat (first | exact Drawn0.refl _ | apply Drawn0.step)⟩

end Go.Proofs.Ytpjhmollejiaoaa.P
