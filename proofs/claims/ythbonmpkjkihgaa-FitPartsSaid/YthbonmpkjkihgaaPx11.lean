-- Written by this session's program gprint.py: functions of the program as plain functions, and that the machine does what they say. Not trusted: Lean checks it.
import Derived.Test.YthbonmpkjkihgaaPx0
import Derived.Test.YthbonmpkjkihgaaPx2
import Derived.Test.YthbonmpkjkihgaaPx4
import Derived.Test.YthbonmpkjkihgaaPx5
import Derived.Test.YthbonmpkjkihgaaPx9
import Derived.Test.YthbonmpkjkihgaaPx10
namespace Go.Proofs.Ythbonmpkjkihgaa.P
open Go.RowKit Go.Proofs.YthbonmpkjkihgaaW.PrintWords Go.Proofs.YthbonmpkjkihgaaW.PrintLast Go.Proofs.YthbonmpkjkihgaaW.PrintMore
attribute [local go_sem] max2_int min2_int max_two min_two max_three min_three max_four min_four   -- for this text's walks alone
set_option linter.unusedVariables false
set_option linter.unusedSimpArgs false
def qf11b0 : Array Bool := #[false, false, false, false, false, false, false, false, false]
def qf11b1 : Array Bool := #[false, true, false, false, false, false, false, false, false]
def qf11b2 : Array Bool := #[true, true, false, false, false, false, false, false, false]
def qf11b3 : Array Bool := #[false, true, false, false, false, false, true, false, false]
def qf11b4 : Array Bool := #[true, true, true, false, false, false, false, false, false]
def qf11b5 : Array Bool := #[true, true, false, false, false, false, true, false, false]
def qf11b6 : Array Bool := #[true, true, true, true, false, false, false, false, false]
def qf11b7 : Array Bool := #[true, true, true, true, true, false, false, false, false]
def qf11b8 : Array Bool := #[true, true, true, true, true, true, false, false, false]
def qf11b9 : Array Bool := #[true, true, true, true, true, true, true, false, false]
def qf11b10 : Array Bool := #[true, true, true, true, true, true, true, true, false]
def qf11b11 : Array Bool := #[true, true, true, true, true, true, true, true, true]
def qf11b12 : Array Bool := #[true, true, true, false, false, false, true, false, false]
def qf11b13 : Array Bool := #[true, true, true, true, false, false, true, false, false]
def qf11b14 : Array Bool := #[true, true, true, true, true, false, true, false, false]
def qf11b15 : Array Bool := #[false, false, false, false, false, false, false, false, false, false]
def qf11b16 : Array Bool := #[false, true, false, false, false, false, false, false, false, false]
def qf11b17 : Array Bool := #[false, true, true, false, false, false, false, false, false, false]
def qf11b18 : Array Bool := #[true, true, true, false, false, false, false, false, false, false]
def qf11b19 : Array Bool := #[false, true, true, false, false, false, false, true, false, false]
def qf11b20 : Array Bool := #[true, true, true, true, false, false, false, false, false, false]
def qf11b21 : Array Bool := #[true, true, true, false, false, false, false, true, false, false]
def qf11b22 : Array Bool := #[true, true, true, true, true, false, false, false, false, false]
def qf11b23 : Array Bool := #[true, true, true, true, true, true, false, false, false, false]
def qf11b24 : Array Bool := #[true, true, true, true, true, true, true, false, false, false]
def qf11b25 : Array Bool := #[true, true, true, true, true, true, true, true, false, false]
def qf11b26 : Array Bool := #[true, true, true, true, true, true, true, true, true, false]
def qf11b27 : Array Bool := #[true, true, true, true, true, true, true, true, true, true]
def qf11b28 : Array Bool := #[true, true, true, true, false, false, false, true, false, false]
def qf11b29 : Array Bool := #[true, true, true, true, true, false, false, true, false, false]
def qf11b30 : Array Bool := #[true, true, true, true, true, true, false, true, false, false]

/-! ### forebaylaw10_head: function 7 -/
def forebaylaw10_head.T6 : Bool × List (List Nat × List Nat) := (true, [([], []), ([], []), ([0, 1, 0], [0, 1]), ([2], [2]), ([3], [3]), ([3], [3]), ([], []), ([6, 4, 2, 0, 1, 2, 3, 4, 6], [4, 6]), ([5, 7, 0, 1, 2, 3, 4, 5, 6, 7], [5])])
def forebaylaw10_head.B6 : List Nat := [0, 0, 3, 7, 15, 15, 0, 95, 255]
theorem forebaylaw10_head.tab6 : rtab .any (opsOf Try.f7 6) = forebaylaw10_head.T6 := by kernel_rfl
theorem forebaylaw10_head.bits6 : waitsOk forebaylaw10_head.T6.2 forebaylaw10_head.B6 = true := by kernel_rfl
def forebaylaw10_head.T7 : Bool × List (List Nat × List Nat) := (true, [([], []), ([], []), ([], []), ([0, 1, 2, 0], [0, 1, 2]), ([3], [3]), ([4], [4]), ([4], [4]), ([], []), ([7, 5, 3, 0, 1, 2, 3, 4, 5, 7], [5, 7]), ([6, 8, 0, 1, 2, 3, 4, 5, 6, 7, 8], [6])])
def forebaylaw10_head.B7 : List Nat := [0, 0, 0, 7, 15, 31, 31, 0, 191, 511]
theorem forebaylaw10_head.tab7 : rtab .any (opsOf Try.f7 7) = forebaylaw10_head.T7 := by kernel_rfl
theorem forebaylaw10_head.bits7 : waitsOk forebaylaw10_head.T7.2 forebaylaw10_head.B7 = true := by kernel_rfl
/-- What the head's calls tell. -/
def head10Ok (k : Nat) : Prop :=
 forebaylaw10_always.f 4 100 2 = some ([0], [4], [0], [100], [0], [2]) ∧ fit_First.f k [0, 2, 4] [5, 2, 5] 0 3 4 = some (4, 0) ∧ fit_First.f k [0, 2, 4] [5, 2, 5] 0 2 4 = some (0, 0) ∧ fit_First.f k [0, 2, 4] [5, 2, 5] 0 1 6 = some (0, 7) ∧ fit_Slot.f k [0] [4] [0] [100] [0] [2] 3 10 2 4 50 1 5 = some (5, 8, 18, 0) ∧ fit_Take.f k [0] [4] [0] [100] [0] [2] 3 10 2 4 50 1 5 8 18 = some ([0, 8, 18], [4, 0, 4], [0, 5, 20], [100, 50, 100], [0, 5, 8, 18, 20], [2, 1, 2, 1, 2], 0) ∧ fit_Slot.f k [0, 8, 18] [4, 0, 4] [0, 5, 20] [100, 50, 100] [0, 5, 8, 18, 20] [2, 1, 2, 1, 2] 3 10 2 4 50 1 5 = some (5, 18, 28, 0) ∧ fit_Is.f k [0, 8, 18] [4, 0, 4] [0, 5, 20] [100, 50, 100] [0, 5, 8, 18, 20] [2, 1, 2, 1, 2] 3 10 2 4 50 1 5 18 28 = some true
instance decL4 : DecidableEq (List Int × List Int × List Int × Int) := inferInstance
instance decL7 : DecidableEq (List Int × List Int × List Int × List Int × List Int × List Int × Int) := inferInstance
instance decL3 : DecidableEq (List Int × List Int × List Int) := inferInstance
instance decL6 : DecidableEq (List Int × List Int × List Int × List Int × List Int × List Int) := inferInstance
instance decO6 (a b : Option (List Int × List Int × List Int × List Int × List Int × List Int)) : Decidable (a = b) := inferInstance
instance decO7 (a b : Option (List Int × List Int × List Int × List Int × List Int × List Int × Int)) : Decidable (a = b) := inferInstance
instance decO4 (a b : Option (Int × Int × Int × Int)) : Decidable (a = b) := inferInstance
instance (k : Nat) : Decidable (head10Ok k) := by unfold head10Ok; infer_instance
def forebaylaw10_head.f (k : Nat) : Option Bool := if head10Ok k then some true else none
theorem forebaylaw10_head.mono : ∀ k, LeO (forebaylaw10_head.f k) (forebaylaw10_head.f (k + 1)) := by
 intro k r h
 unfold forebaylaw10_head.f at h ⊢
 by_cases hk : head10Ok k
 ·
  rw [if_pos hk] at h
  have hk2 : head10Ok (k + 1) := by
   obtain ⟨h0, h1, h2, h3, h4, h5, h6, h7⟩ := hk
   exact ⟨h0, fit_First.mono _ _ _ _ _ _ _ h1, fit_First.mono _ _ _ _ _ _ _ h2, fit_First.mono _ _ _ _ _ _ _ h3, fit_Slot.mono _ _ _ _ _ _ _ _ _ _ _ _ _ _ _ h4, fit_Take.mono _ _ _ _ _ _ _ _ _ _ _ _ _ _ _ _ _ h5, fit_Slot.mono _ _ _ _ _ _ _ _ _ _ _ _ _ _ _ h6, fit_Is.mono _ _ _ _ _ _ _ _ _ _ _ _ _ _ _ _ _ h7⟩
  rw [if_pos hk2]
  exact h
 ·
  rw [if_neg hk] at h; cases h
theorem head10_facts {k : Nat} (h : head10Ok k) : ∃ n0 n1 n2 n3 n4 n5 r0 r1 r2 r3 r4 r5 : List Int, forebaylaw10_always.f 4 100 2 = some (n0, n1, n2, n3, n4, n5) ∧ fit_First.f k [0, 2, 4] [5, 2, 5] 0 3 4 = some (4, 0) ∧ fit_First.f k [0, 2, 4] [5, 2, 5] 0 2 4 = some (0, 0) ∧ fit_First.f k [0, 2, 4] [5, 2, 5] 0 1 6 = some (0, 7) ∧ fit_Slot.f k n0 n1 n2 n3 n4 n5 3 10 2 4 50 1 5 = some (5, 8, 18, 0) ∧ fit_Take.f k n0 n1 n2 n3 n4 n5 3 10 2 4 50 1 5 8 18 = some (r0, r1, r2, r3, r4, r5, 0) ∧ fit_Slot.f k r0 r1 r2 r3 r4 r5 3 10 2 4 50 1 5 = some (5, 18, 28, 0) ∧ fit_Is.f k r0 r1 r2 r3 r4 r5 3 10 2 4 50 1 5 18 28 = some true := by
 unfold head10Ok at h
 exact ⟨_, _, _, _, _, _, _, _, _, _, _, _, h⟩
theorem C_boxn {W : World} {B : Nat} {t : TypeId} (xs : List Int) (h : BoxN W B t (xs.map (Value.int .i64))) (hl : xs.length ≤ maxLen) : Kd.C (Kd.int .i64) W (some ⟨B, 0, none⟩) xs.length xs :=
 Kd.F_now (F_of_own (base := 0) (e := t) (c := xs.length) (enc := Value.int .i64) (h1 := fun _ => rfl) ⟨by simp, .inr ⟨B, xs.length, _, rfl, Nat.zero_le _, h, Nat.le_refl _, hl, by simp, by simp; exact List.take_of_length_le (by simp)⟩⟩)
theorem head10_first (k : Nat) (B0 B1 : Nat) (w : World) (h0 : Kd.C (Kd.int .i64) w (some ⟨B0, 0, none⟩) 3 [0, 2, 4]) (h1 : Kd.C (Kd.int .i64) w (some ⟨B1, 0, none⟩) 3 [5, 2, 5]) (x y z r1 r2 : Int) (h : fit_First.f k [0, 2, 4] [5, 2, 5] x y z = some (r1, r2)) :
  Calls Try.prog 9 #[.agg #[.slice (some ⟨B0, 0, none⟩) 3 3, .slice (some ⟨B1, 0, none⟩) 3 3], .int .i64 x, .int .i64 y, .int .i64 z] w fun e w' => e = .returned (.tuple #[.int .i64 r1, .int .i64 r2]) ∧ Below w.heap.size w w' :=
 fit_First.calls k (some ⟨B0, 0, none⟩) 3 [0, 2, 4] (some ⟨B1, 0, none⟩) 3 [5, 2, 5] x y z r1 r2 w h0 (Nat.le_refl _) h1 (Nat.le_refl _) h
set_option maxHeartbeats 32000000 in
set_option maxRecDepth 100000 in
theorem forebaylaw10_head.calls (k : Nat) (r : Bool) (w : World) (h : forebaylaw10_head.f k = some r) :
  Calls Try.prog 7 #[] w fun e w' => e = .returned (.bool r) ∧ Below w.heap.size w w' := by
 have hu24 := Try.underlying24
 have hu26 := Try.underlying26
 have hu28 := Try.underlying28
 have hu30 := Try.underlying30
 unfold forebaylaw10_head.f at h
 by_cases hk : head10Ok k
 case neg => rw [if_neg hk] at h; cases h
 rw [if_pos hk] at h
 obtain rfl := Option.some.inj h
 clear h
 obtain ⟨n0, n1, n2, n3, n4, n5, r0, r1, r2, r3, r4, r5, h0, h1, h2, h3, h4, h5, h6, h7⟩ := head10_facts hk
 clear hk
 replace h0 := Aside0.mk h0
 replace h1 := Aside0.mk h1
 replace h2 := Aside0.mk h2
 replace h3 := Aside0.mk h3
 replace h4 := Aside0.mk h4
 replace h5 := Aside0.mk h5
 replace h6 := Aside0.mk h6
 replace h7 := Aside0.mk h7
 obtain ⟨H, hH⟩ : ∃ H, w.heap.size = H := ⟨_, rfl⟩
 obtain ⟨W3, hW3⟩ : ∃ W3, List.foldl World.alloc w [.cells #[.int .i64 0, .int .i64 2, .int .i64 4] 2, .cells #[.int .i64 5, .int .i64 2, .int .i64 5] 2, .cells #[.slice (some ⟨H, 0, none⟩) 3 3, .slice (some ⟨H + 1, 0, none⟩) 3 3] 24] = W3 := ⟨_, rfl⟩
 have P2 : BoxN W3 (H + 1 + 1) 24 [.slice (some ⟨H, 0, none⟩) 3 3, .slice (some ⟨H + 1, 0, none⟩) 3 3] := by have := al_at hW3 2 _ rfl; rw [hH] at this; exact this
 have P0 : BoxN W3 H 2 ([0, 2, 4].map (Value.int .i64)) := by have := al_at hW3 0 _ rfl; rw [hH] at this; exact this
 have P1 : BoxN W3 (H + 1) 2 ([5, 2, 5].map (Value.int .i64)) := by have := al_at hW3 1 _ rfl; rw [hH] at this; exact this
 have C0 := Aside0.mk (show Kd.C (Kd.int .i64) W3 (some ⟨H, 0, none⟩) 3 [0, 2, 4] from C_boxn [0, 2, 4] P0 (by decide))
 have C1 := Aside0.mk (show Kd.C (Kd.int .i64) W3 (some ⟨H + 1, 0, none⟩) 3 [5, 2, 5] from C_boxn [5, 2, 5] P1 (by decide))
 have HB : Below w.heap.size w W3 := by rw [← hW3]; exact al_below _ w
 simp only [List.foldl_cons, List.foldl_nil] at hW3
 clear P0 P1
 go_enter Try.func7, Try.ntmps7
 go_upto_region 2 with fail
 (try simp only [hH, World.size_alloc])
 (try rw [hW3])
 clear hW3
 have x0 := P2.cell 0 rfl
 have x1 := P2.cell 1 rfl
 replace P2 := Aside0.mk P2
 replace HB := Aside0.mk HB
 go_upto_region 6 with (first
  | (go_at_call 9; (with_reducible refine (head10_first k H (H + 1) _ C0.out C1.out 0 3 4 4 0 h1.out).mono ?_); rintro e u1 ⟨rfl, hb⟩; replace HB := Aside0.mk (HB.out.trans (hb.mono HB.out.size)); replace C0 := Aside0.mk (Kd.C_below C0.out hb); replace C1 := Aside0.mk (Kd.C_below C1.out hb); replace P2 := Aside0.mk (BoxN.below P2.out hb P2.out.lt); clear hb; clear x0 x1; have x0 := P2.out.cell 0 rfl; have x1 := P2.out.cell 1 rfl)
  | (go_at_call 9; (with_reducible refine (head10_first k H (H + 1) _ C0.out C1.out 0 2 4 0 0 h2.out).mono ?_); rintro e u2 ⟨rfl, hb⟩; replace HB := Aside0.mk (HB.out.trans (hb.mono HB.out.size)); replace C0 := Aside0.mk (Kd.C_below C0.out hb); replace C1 := Aside0.mk (Kd.C_below C1.out hb); replace P2 := Aside0.mk (BoxN.below P2.out hb P2.out.lt); clear hb; clear x0 x1; have x0 := P2.out.cell 0 rfl; have x1 := P2.out.cell 1 rfl)
  | (go_at_call 9; (with_reducible refine (head10_first k H (H + 1) _ C0.out C1.out 0 1 6 0 7 h3.out).mono ?_); rintro e u3 ⟨rfl, hb⟩; replace HB := Aside0.mk (HB.out.trans (hb.mono HB.out.size)); replace C0 := Aside0.mk (Kd.C_below C0.out hb); replace C1 := Aside0.mk (Kd.C_below C1.out hb); replace P2 := Aside0.mk (BoxN.below P2.out hb P2.out.lt); clear hb; clear x0 x1; have x0 := P2.out.cell 0 rfl; have x1 := P2.out.cell 1 rfl))
 clear x0 x1 P2 C0 C1
 have hb := (Below.refl u3.heap.size u3).alloc (Nat.le_refl _) (Obj.cells #[.int .i64 3, .int .i64 10, .int .i64 2, .int .i64 4, .int .i64 50, .int .i64 1] 28)
 obtain ⟨X8, hX8⟩ : ∃ X8, u3.heap.size = X8 := ⟨_, rfl⟩
 have P8 : BoxN (u3.alloc (Obj.cells #[.int .i64 3, .int .i64 10, .int .i64 2, .int .i64 4, .int .i64 50, .int .i64 1] 28)) X8 28 [.int .i64 3, .int .i64 10, .int .i64 2, .int .i64 4, .int .i64 50, .int .i64 1] := by rw [← hX8]; exact BoxN.new u3 28 [.int .i64 3, .int .i64 10, .int .i64 2, .int .i64 4, .int .i64 50, .int .i64 1]
 replace P8 := Aside0.mk P8
 replace HB := Aside0.mk (HB.out.trans (hb.mono HB.out.size))
 rw [hX8]
 clear hb hX8
 generalize (u3.alloc (Obj.cells #[.int .i64 3, .int .i64 10, .int .i64 2, .int .i64 4, .int .i64 50, .int .i64 1] 28)) = W8 at *
 have s0 := P8.out.cell 0 rfl
 have s1 := P8.out.cell 1 rfl
 have s2 := P8.out.cell 2 rfl
 have s3 := P8.out.cell 3 rfl
 have s4 := P8.out.cell 4 rfl
 have s5 := P8.out.cell 5 rfl
 go_cut [9, 10] (fun v9 v10 wc => ∃ g9, v9 = .pointer (some ⟨g9, 0, none⟩) ∧ v10 = .int .i64 0 ∧ Aside0 (X8 < g9) ∧ Aside0 (w.heap.size ≤ g9) ∧ Aside0 (BoxN wc X8 28 [.int .i64 3, .int .i64 10, .int .i64 2, .int .i64 4, .int .i64 50, .int .i64 1]) ∧ Aside0 (BoxN wc g9 30 [.int .i64 5, .int .i64 8, .int .i64 18]) ∧ Aside0 (Below w.heap.size w wc))
 case first =>
  refine start_ (n := 9) (S := fun w' => w'.cell? ⟨X8, 0, none⟩ = some (.int .i64 3) ∧ w'.cell? ⟨X8, 1, none⟩ = some (.int .i64 10) ∧ w'.cell? ⟨X8, 2, none⟩ = some (.int .i64 2) ∧ w'.cell? ⟨X8, 3, none⟩ = some (.int .i64 4) ∧ w'.cell? ⟨X8, 4, none⟩ = some (.int .i64 50) ∧ w'.cell? ⟨X8, 5, none⟩ = some (.int .i64 1)) (ds := [7]) qf11b0 (by kernel_rfl) rfl rfl ⟨s0, s1, s2, s3, s4, s5⟩ (fun hHeld => ?_); refine with_tabW forebaylaw10_head.tab6 forebaylaw10_head.bits6 (fun HT_ HW_ => ?_)
  have hb : Below W8.heap.size W8 W8.drew := below_drew (Below.refl _ _)
  replace HB := Aside0.mk (HB.out.trans (hb.mono HB.out.size))
  replace P8 := Aside0.mk (BoxN.below P8.out hb P8.out.lt)
  clear hb
  clear s0 s1 s2 s3 s4 s5
  have s0 := P8.out.cell 0 rfl
  have s1 := P8.out.cell 1 rfl
  have s2 := P8.out.cell 2 rfl
  have s3 := P8.out.cell 3 rfl
  have s4 := P8.out.cell 4 rfl
  have s5 := P8.out.cell 5 rfl
  generalize W8.drew = wd6 at *
  refine take_ (i := 1) (N := some 36) (v := ?_) (a' := ?_) qf11b1 rfl rfl (take_ofW HT_.out HW_.out (by kernel_rfl)) (fun _ _ _ h => h) (Or.inl ⟨by rfl, ?_⟩) hHeld ?_ ?_
  rotate_left
  ·
   rintro w' ⟨s0, s1, s2, s3, s4, s5⟩
   go_simp
   with_reducible rfl
  rotate_left
  ·
   refine (put_list _ _ _ _).trans ?_
   dsimp only [List.set_cons_zero, List.set_cons_succ]
   rfl
  refine two_ (i := 0) (j := 6) (Ni := some 35) (Nj := some 9) qf11b2 qf11b3 rfl rfl rfl rfl (two_of HT_.out (by kernel_rfl)) (by decide) (by decide) (fun K hK => ?_) (fun K hK => ?_)
  ·
   refine goes_ Try.func16 (by kernel_rfl) rfl #[.int .i64 4, .int .i64 100, .int .i64 2] (by rfl) rfl rfl (by (try simp only [List.map_toArray, List.map_cons, List.map_nil]); first | done | rfl) ?_
   (with_reducible refine (forebaylaw10_always.calls 4 100 2 n0 n1 n2 n3 n4 n5 _ h0.out).mono ?_)
   rintro e wn ⟨v0, v1, v2, v3, v4, v5, rfl, q0, q1, q2, q3, q4, q5, hb⟩
   refine ⟨_, rfl, ?_⟩
   obtain ⟨A0, c0, rfl⟩ := Kd.R_slice q0
   obtain ⟨A1, c1, rfl⟩ := Kd.R_slice q1
   obtain ⟨A2, c2, rfl⟩ := Kd.R_slice q2
   obtain ⟨A3, c3, rfl⟩ := Kd.R_slice q3
   obtain ⟨A4, c4, rfl⟩ := Kd.R_slice q4
   obtain ⟨A5, c5, rfl⟩ := Kd.R_slice q5
   replace q0 := Aside0.mk q0
   replace q1 := Aside0.mk q1
   replace q2 := Aside0.mk q2
   replace q3 := Aside0.mk q3
   replace q4 := Aside0.mk q4
   replace q5 := Aside0.mk q5
   replace HB := Aside0.mk (HB.out.trans (hb.mono HB.out.size))
   replace P8 := Aside0.mk (BoxN.below P8.out hb P8.out.lt)
   clear hb
   clear s0 s1 s2 s3 s4 s5
   have s0 := P8.out.cell 0 rfl
   have s1 := P8.out.cell 1 rfl
   have s2 := P8.out.cell 2 rfl
   have s3 := P8.out.cell 3 rfl
   have s4 := P8.out.cell 4 rfl
   have s5 := P8.out.cell 5 rfl
   refine hK.out _ _ ⟨s0, s1, s2, s3, s4, s5⟩ (fun hHeld => ?_)
   clear hK K
   refine norm_ (a' := ?_) ?_ ?_
   rotate_left
   ·
    refine (put_list _ _ 35 _).trans ?_
    dsimp only [List.set_cons_zero, List.set_cons_succ]
    (try rfl)
   refine two_ (i := 2) (j := 6) (Ni := some 37) (Nj := some 9) qf11b4 qf11b5 rfl rfl rfl rfl (two_of HT_.out (by kernel_rfl)) (by decide) (by decide) (fun K hK => ?_) (fun K hK => ?_)
   ·
    refine goes_ Try.func8 (by kernel_rfl) rfl #[.agg #[.slice A0 n0.length c0, .slice A1 n1.length c1, .slice A2 n2.length c2, .slice A3 n3.length c3, .slice A4 n4.length c4, .slice A5 n5.length c5], .agg #[.int .i64 3, .int .i64 10, .int .i64 2, .int .i64 4, .int .i64 50, .int .i64 1], .int .i64 5] (by rfl) rfl rfl (by (try simp only [List.map_toArray, List.map_cons, List.map_nil]); first | done | rfl) ?_
    (with_reducible refine (fit_Slot.calls k A0 c0 n0 A1 c1 n1 A2 c2 n2 A3 c3 n3 A4 c4 n4 A5 c5 n5 3 10 2 4 50 1 5 5 8 18 0 _ (Kd.R_reads' q0.out).2.2 (Kd.R_reads' q0.out).2.1 (Kd.R_reads' q1.out).2.2 (Kd.R_reads' q1.out).2.1 (Kd.R_reads' q2.out).2.2 (Kd.R_reads' q2.out).2.1 (Kd.R_reads' q3.out).2.2 (Kd.R_reads' q3.out).2.1 (Kd.R_reads' q4.out).2.2 (Kd.R_reads' q4.out).2.1 (Kd.R_reads' q5.out).2.2 (Kd.R_reads' q5.out).2.1 h4.out).mono ?_)
    rintro e wn ⟨rfl, hb⟩
    refine ⟨_, rfl, ?_⟩
    replace HB := Aside0.mk (HB.out.trans (hb.mono HB.out.size))
    replace P8 := Aside0.mk (BoxN.below P8.out hb P8.out.lt)
    replace q0 := Aside0.mk (Kd.R_below q0.out hb)
    replace q1 := Aside0.mk (Kd.R_below q1.out hb)
    replace q2 := Aside0.mk (Kd.R_below q2.out hb)
    replace q3 := Aside0.mk (Kd.R_below q3.out hb)
    replace q4 := Aside0.mk (Kd.R_below q4.out hb)
    replace q5 := Aside0.mk (Kd.R_below q5.out hb)
    clear hb
    clear s0 s1 s2 s3 s4 s5
    have s0 := P8.out.cell 0 rfl
    have s1 := P8.out.cell 1 rfl
    have s2 := P8.out.cell 2 rfl
    have s3 := P8.out.cell 3 rfl
    have s4 := P8.out.cell 4 rfl
    have s5 := P8.out.cell 5 rfl
    refine hK.out _ _ ⟨s0, s1, s2, s3, s4, s5⟩ (fun hHeld => ?_)
    clear hK K
    refine norm_ (a' := ?_) ?_ ?_
    rotate_left
    ·
     refine (put_list _ _ 37 _).trans ?_
     dsimp only [List.set_cons_zero, List.set_cons_succ]
     (try rfl)
    refine pure_ (i := 3) (N := some 34) (v := ?_) (a' := ?_) qf11b6 rfl rfl (any_of HT_.out (by kernel_rfl)) (fun _ _ _ h => h) (Or.inl ⟨by rfl, ?_⟩) ?_ ?_
    rotate_left
    ·
     intro w'
     go_simp
     with_reducible rfl
    rotate_left
    ·
     refine (put_list _ _ _ _).trans ?_
     dsimp only [List.set_cons_zero, List.set_cons_succ]
     rfl
    refine pure_ (i := 4) (N := some 38) (v := ?_) (a' := ?_) qf11b7 rfl rfl (any_of HT_.out (by kernel_rfl)) (fun _ _ _ h => h) (Or.inl ⟨by rfl, ?_⟩) ?_ ?_
    rotate_left
    ·
     intro w'
     go_simp
     with_reducible rfl
    rotate_left
    ·
     refine (put_list _ _ _ _).trans ?_
     dsimp only [List.set_cons_zero, List.set_cons_succ]
     rfl
    refine pure_ (i := 5) (N := some 39) (v := ?_) (a' := ?_) qf11b8 rfl rfl (any_of HT_.out (by kernel_rfl)) (fun _ _ _ h => h) (Or.inl ⟨by rfl, ?_⟩) ?_ ?_
    rotate_left
    ·
     intro w'
     go_simp
     with_reducible rfl
    rotate_left
    ·
     refine (put_list _ _ _ _).trans ?_
     dsimp only [List.set_cons_zero, List.set_cons_succ]
     rfl
    refine one_ (i := 6) (N := some 9) qf11b9 rfl rfl (one_of HT_.out (by kernel_rfl)) (by decide) (fun K hK => ?_)
    refine box_step ?hg (N := 9) ?hd (cs := #[.int .i64 0, .int .i64 0, .int .i64 0]) (t := 30) ?hr ?_; (case hd => rfl); (case hg => rfl); (case hr => first | (go_simp; done) | (go_simp; rfl))
    intro g9 hg_ wq hbx hb
    have h89 := Aside0.mk (show X8 < g9 from hg_ ▸ P8.out.lt)
    have h9w := Aside0.mk (show w.heap.size ≤ g9 from hg_ ▸ HB.out.size)
    replace HB := Aside0.mk (HB.out.trans (hb.mono HB.out.size))
    replace P8 := Aside0.mk (BoxN.below P8.out hb P8.out.lt)
    replace q0 := Aside0.mk (Kd.R_below q0.out hb)
    replace q1 := Aside0.mk (Kd.R_below q1.out hb)
    replace q2 := Aside0.mk (Kd.R_below q2.out hb)
    replace q3 := Aside0.mk (Kd.R_below q3.out hb)
    replace q4 := Aside0.mk (Kd.R_below q4.out hb)
    replace q5 := Aside0.mk (Kd.R_below q5.out hb)
    clear hb
    have P9 := Aside0.mk (show BoxN wq g9 30 [.int .i64 0, .int .i64 0, .int .i64 0] from hbx)
    clear hbx hg_
    clear s0 s1 s2 s3 s4 s5
    have s0 := P8.out.cell 0 rfl
    have s1 := P8.out.cell 1 rfl
    have s2 := P8.out.cell 2 rfl
    have s3 := P8.out.cell 3 rfl
    have s4 := P8.out.cell 4 rfl
    have s5 := P8.out.cell 5 rfl
    refine hK.out _ _ ⟨s0, s1, s2, s3, s4, s5⟩ (fun hHeld => ?_)
    clear hK K
    refine norm_ (a' := ?_) ?_ ?_
    rotate_left
    ·
     refine (put_list _ _ 9 _).trans ?_
     dsimp only [List.set_cons_zero, List.set_cons_succ]
     (try rfl)
    refine last_ (i := 7) (N := none) qf11b10 rfl rfl (one_of HT_.out (by kernel_rfl)) (by decide) (fun K hK => ?_)
    have cx := P9.out.cell
    have fx := P9.out.frozen
    have cx0 := cx 0 rfl
    have cx1 := cx 1 rfl
    have cx2 := cx 2 rfl
    have fx0 := fx 0
    have fx1 := fx 1
    have fx2 := fx 2
    clear cx fx
    refine skip_ (w1 := ?_) (by rfl) rfl ?_ ?_
    rotate_left
    ·
     go_simp
     (try rfl)
    refine hK.out _ _ ?_
    clear hK K
    have hk : Keeps (fun k => k ≠ g9) wq (((wq.setCell ⟨g9, 0, none⟩ (.int .i64 5)).setCell ⟨g9, 1, none⟩ (.int .i64 8)).setCell ⟨g9, 2, none⟩ (.int .i64 18)) := Keeps.setCell (p := ⟨g9, 2, none⟩) (Keeps.setCell (p := ⟨g9, 1, none⟩) (Keeps.setCell (p := ⟨g9, 0, none⟩) (Keeps.refl (fun k => k ≠ g9) wq) (.int .i64 5) (fun h => h.2 rfl)) (.int .i64 8) (fun h => h.2 rfl)) (.int .i64 18) (fun h => h.2 rfl)
    have hX : BoxN (((wq.setCell ⟨g9, 0, none⟩ (.int .i64 5)).setCell ⟨g9, 1, none⟩ (.int .i64 8)).setCell ⟨g9, 2, none⟩ (.int .i64 18)) g9 30 [.int .i64 5, .int .i64 8, .int .i64 18] := (((P9.out.set 0 (.int .i64 5)).set 1 (.int .i64 8)).set 2 (.int .i64 18))
    generalize (((wq.setCell ⟨g9, 0, none⟩ (.int .i64 5)).setCell ⟨g9, 1, none⟩ (.int .i64 8)).setCell ⟨g9, 2, none⟩ (.int .i64 18)) = Wz at *
    replace P9 := Aside0.mk hX
    replace P8 := Aside0.mk (hk.boxN P8.out (by have := h89.out; omega))
    replace HB := Aside0.mk (HB.out.trans (hk.below HB.out.size (fun k hk => by have := h9w.out; omega)))
    clear q0 q1 q2 q3 q4 q5
    clear hk hX cx0 fx0 cx1 fx1 cx2 fx2
    refine pure_ (i := 8) (N := some 10) (v := ?_) (a' := ?_) qf11b11 rfl rfl (any_of HT_.out (by kernel_rfl)) (fun _ _ _ h => h) (Or.inl ⟨by rfl, ?_⟩) ?_ ?_
    rotate_left
    ·
     intro w'
     go_simp
     with_reducible rfl
    rotate_left
    ·
     refine (put_list _ _ _ _).trans ?_
     dsimp only [List.set_cons_zero, List.set_cons_succ]
     rfl
    refine done_ (done_of HT_.out (by kernel_rfl)) ?_
    go_wp2
    go_meet
    case rel => exact ⟨g9, by rfl, by rfl, h89, h9w, P8, P9, HB⟩
   ·
    refine box_step ?hg (N := 9) ?hd (cs := #[.int .i64 0, .int .i64 0, .int .i64 0]) (t := 30) ?hr ?_; (case hd => rfl); (case hg => rfl); (case hr => first | (go_simp; done) | (go_simp; rfl))
    intro g9 hg_ wq hbx hb
    have h89 := Aside0.mk (show X8 < g9 from hg_ ▸ P8.out.lt)
    have h9w := Aside0.mk (show w.heap.size ≤ g9 from hg_ ▸ HB.out.size)
    replace HB := Aside0.mk (HB.out.trans (hb.mono HB.out.size))
    replace P8 := Aside0.mk (BoxN.below P8.out hb P8.out.lt)
    replace q0 := Aside0.mk (Kd.R_below q0.out hb)
    replace q1 := Aside0.mk (Kd.R_below q1.out hb)
    replace q2 := Aside0.mk (Kd.R_below q2.out hb)
    replace q3 := Aside0.mk (Kd.R_below q3.out hb)
    replace q4 := Aside0.mk (Kd.R_below q4.out hb)
    replace q5 := Aside0.mk (Kd.R_below q5.out hb)
    clear hb
    have P9 := Aside0.mk (show BoxN wq g9 30 [.int .i64 0, .int .i64 0, .int .i64 0] from hbx)
    clear hbx hg_
    clear s0 s1 s2 s3 s4 s5
    have s0 := P8.out.cell 0 rfl
    have s1 := P8.out.cell 1 rfl
    have s2 := P8.out.cell 2 rfl
    have s3 := P8.out.cell 3 rfl
    have s4 := P8.out.cell 4 rfl
    have s5 := P8.out.cell 5 rfl
    refine hK.out _ _ ⟨s0, s1, s2, s3, s4, s5⟩ (fun hHeld => ?_)
    clear hK K
    refine norm_ (a' := ?_) ?_ ?_
    rotate_left
    ·
     refine (put_list _ _ 9 _).trans ?_
     dsimp only [List.set_cons_zero, List.set_cons_succ]
     (try rfl)
    refine one_ (i := 2) (N := some 37) qf11b12 rfl rfl (one_of HT_.out (by kernel_rfl)) (by decide) (fun K hK => ?_)
    refine goes_ Try.func8 (by kernel_rfl) rfl #[.agg #[.slice A0 n0.length c0, .slice A1 n1.length c1, .slice A2 n2.length c2, .slice A3 n3.length c3, .slice A4 n4.length c4, .slice A5 n5.length c5], .agg #[.int .i64 3, .int .i64 10, .int .i64 2, .int .i64 4, .int .i64 50, .int .i64 1], .int .i64 5] (by rfl) rfl rfl (by (try simp only [List.map_toArray, List.map_cons, List.map_nil]); first | done | rfl) ?_
    (with_reducible refine (fit_Slot.calls k A0 c0 n0 A1 c1 n1 A2 c2 n2 A3 c3 n3 A4 c4 n4 A5 c5 n5 3 10 2 4 50 1 5 5 8 18 0 _ (Kd.R_reads' q0.out).2.2 (Kd.R_reads' q0.out).2.1 (Kd.R_reads' q1.out).2.2 (Kd.R_reads' q1.out).2.1 (Kd.R_reads' q2.out).2.2 (Kd.R_reads' q2.out).2.1 (Kd.R_reads' q3.out).2.2 (Kd.R_reads' q3.out).2.1 (Kd.R_reads' q4.out).2.2 (Kd.R_reads' q4.out).2.1 (Kd.R_reads' q5.out).2.2 (Kd.R_reads' q5.out).2.1 h4.out).mono ?_)
    rintro e wn ⟨rfl, hb⟩
    refine ⟨_, rfl, ?_⟩
    replace HB := Aside0.mk (HB.out.trans (hb.mono HB.out.size))
    replace P8 := Aside0.mk (BoxN.below P8.out hb P8.out.lt)
    replace q0 := Aside0.mk (Kd.R_below q0.out hb)
    replace q1 := Aside0.mk (Kd.R_below q1.out hb)
    replace q2 := Aside0.mk (Kd.R_below q2.out hb)
    replace q3 := Aside0.mk (Kd.R_below q3.out hb)
    replace q4 := Aside0.mk (Kd.R_below q4.out hb)
    replace q5 := Aside0.mk (Kd.R_below q5.out hb)
    replace P9 := Aside0.mk (BoxN.below P9.out hb P9.out.lt)
    clear hb
    clear s0 s1 s2 s3 s4 s5
    have s0 := P8.out.cell 0 rfl
    have s1 := P8.out.cell 1 rfl
    have s2 := P8.out.cell 2 rfl
    have s3 := P8.out.cell 3 rfl
    have s4 := P8.out.cell 4 rfl
    have s5 := P8.out.cell 5 rfl
    refine hK.out _ _ ⟨s0, s1, s2, s3, s4, s5⟩ (fun hHeld => ?_)
    clear hK K
    refine norm_ (a' := ?_) ?_ ?_
    rotate_left
    ·
     refine (put_list _ _ 37 _).trans ?_
     dsimp only [List.set_cons_zero, List.set_cons_succ]
     (try rfl)
    refine pure_ (i := 3) (N := some 34) (v := ?_) (a' := ?_) qf11b13 rfl rfl (any_of HT_.out (by kernel_rfl)) (fun _ _ _ h => h) (Or.inl ⟨by rfl, ?_⟩) ?_ ?_
    rotate_left
    ·
     intro w'
     go_simp
     with_reducible rfl
    rotate_left
    ·
     refine (put_list _ _ _ _).trans ?_
     dsimp only [List.set_cons_zero, List.set_cons_succ]
     rfl
    refine pure_ (i := 4) (N := some 38) (v := ?_) (a' := ?_) qf11b14 rfl rfl (any_of HT_.out (by kernel_rfl)) (fun _ _ _ h => h) (Or.inl ⟨by rfl, ?_⟩) ?_ ?_
    rotate_left
    ·
     intro w'
     go_simp
     with_reducible rfl
    rotate_left
    ·
     refine (put_list _ _ _ _).trans ?_
     dsimp only [List.set_cons_zero, List.set_cons_succ]
     rfl
    refine pure_ (i := 5) (N := some 39) (v := ?_) (a' := ?_) qf11b9 rfl rfl (any_of HT_.out (by kernel_rfl)) (fun _ _ _ h => h) (Or.inl ⟨by rfl, ?_⟩) ?_ ?_
    rotate_left
    ·
     intro w'
     go_simp
     with_reducible rfl
    rotate_left
    ·
     refine (put_list _ _ _ _).trans ?_
     dsimp only [List.set_cons_zero, List.set_cons_succ]
     rfl
    refine last_ (i := 7) (N := none) qf11b10 rfl rfl (one_of HT_.out (by kernel_rfl)) (by decide) (fun K hK => ?_)
    have cx := P9.out.cell
    have fx := P9.out.frozen
    have cx0 := cx 0 rfl
    have cx1 := cx 1 rfl
    have cx2 := cx 2 rfl
    have fx0 := fx 0
    have fx1 := fx 1
    have fx2 := fx 2
    clear cx fx
    refine skip_ (w1 := ?_) (by rfl) rfl ?_ ?_
    rotate_left
    ·
     go_simp
     (try rfl)
    refine hK.out _ _ ?_
    clear hK K
    have hk : Keeps (fun k => k ≠ g9) wn (((wn.setCell ⟨g9, 0, none⟩ (.int .i64 5)).setCell ⟨g9, 1, none⟩ (.int .i64 8)).setCell ⟨g9, 2, none⟩ (.int .i64 18)) := Keeps.setCell (p := ⟨g9, 2, none⟩) (Keeps.setCell (p := ⟨g9, 1, none⟩) (Keeps.setCell (p := ⟨g9, 0, none⟩) (Keeps.refl (fun k => k ≠ g9) wn) (.int .i64 5) (fun h => h.2 rfl)) (.int .i64 8) (fun h => h.2 rfl)) (.int .i64 18) (fun h => h.2 rfl)
    have hX : BoxN (((wn.setCell ⟨g9, 0, none⟩ (.int .i64 5)).setCell ⟨g9, 1, none⟩ (.int .i64 8)).setCell ⟨g9, 2, none⟩ (.int .i64 18)) g9 30 [.int .i64 5, .int .i64 8, .int .i64 18] := (((P9.out.set 0 (.int .i64 5)).set 1 (.int .i64 8)).set 2 (.int .i64 18))
    generalize (((wn.setCell ⟨g9, 0, none⟩ (.int .i64 5)).setCell ⟨g9, 1, none⟩ (.int .i64 8)).setCell ⟨g9, 2, none⟩ (.int .i64 18)) = Wz at *
    replace P9 := Aside0.mk hX
    replace P8 := Aside0.mk (hk.boxN P8.out (by have := h89.out; omega))
    replace HB := Aside0.mk (HB.out.trans (hk.below HB.out.size (fun k hk => by have := h9w.out; omega)))
    clear q0 q1 q2 q3 q4 q5
    clear hk hX cx0 fx0 cx1 fx1 cx2 fx2
    refine pure_ (i := 8) (N := some 10) (v := ?_) (a' := ?_) qf11b11 rfl rfl (any_of HT_.out (by kernel_rfl)) (fun _ _ _ h => h) (Or.inl ⟨by rfl, ?_⟩) ?_ ?_
    rotate_left
    ·
     intro w'
     go_simp
     with_reducible rfl
    rotate_left
    ·
     refine (put_list _ _ _ _).trans ?_
     dsimp only [List.set_cons_zero, List.set_cons_succ]
     rfl
    refine done_ (done_of HT_.out (by kernel_rfl)) ?_
    go_wp2
    go_meet
    case rel => exact ⟨g9, by rfl, by rfl, h89, h9w, P8, P9, HB⟩
  ·
   refine box_step ?hg (N := 9) ?hd (cs := #[.int .i64 0, .int .i64 0, .int .i64 0]) (t := 30) ?hr ?_; (case hd => rfl); (case hg => rfl); (case hr => first | (go_simp; done) | (go_simp; rfl))
   intro g9 hg_ wq hbx hb
   have h89 := Aside0.mk (show X8 < g9 from hg_ ▸ P8.out.lt)
   have h9w := Aside0.mk (show w.heap.size ≤ g9 from hg_ ▸ HB.out.size)
   replace HB := Aside0.mk (HB.out.trans (hb.mono HB.out.size))
   replace P8 := Aside0.mk (BoxN.below P8.out hb P8.out.lt)
   clear hb
   have P9 := Aside0.mk (show BoxN wq g9 30 [.int .i64 0, .int .i64 0, .int .i64 0] from hbx)
   clear hbx hg_
   clear s0 s1 s2 s3 s4 s5
   have s0 := P8.out.cell 0 rfl
   have s1 := P8.out.cell 1 rfl
   have s2 := P8.out.cell 2 rfl
   have s3 := P8.out.cell 3 rfl
   have s4 := P8.out.cell 4 rfl
   have s5 := P8.out.cell 5 rfl
   refine hK.out _ _ ⟨s0, s1, s2, s3, s4, s5⟩ (fun hHeld => ?_)
   clear hK K
   refine norm_ (a' := ?_) ?_ ?_
   rotate_left
   ·
    refine (put_list _ _ 9 _).trans ?_
    dsimp only [List.set_cons_zero, List.set_cons_succ]
    (try rfl)
   refine one_ (i := 0) (N := some 35) qf11b5 rfl rfl (one_of HT_.out (by kernel_rfl)) (by decide) (fun K hK => ?_)
   refine goes_ Try.func16 (by kernel_rfl) rfl #[.int .i64 4, .int .i64 100, .int .i64 2] (by rfl) rfl rfl (by (try simp only [List.map_toArray, List.map_cons, List.map_nil]); first | done | rfl) ?_
   (with_reducible refine (forebaylaw10_always.calls 4 100 2 n0 n1 n2 n3 n4 n5 _ h0.out).mono ?_)
   rintro e wn ⟨v0, v1, v2, v3, v4, v5, rfl, q0, q1, q2, q3, q4, q5, hb⟩
   refine ⟨_, rfl, ?_⟩
   obtain ⟨A0, c0, rfl⟩ := Kd.R_slice q0
   obtain ⟨A1, c1, rfl⟩ := Kd.R_slice q1
   obtain ⟨A2, c2, rfl⟩ := Kd.R_slice q2
   obtain ⟨A3, c3, rfl⟩ := Kd.R_slice q3
   obtain ⟨A4, c4, rfl⟩ := Kd.R_slice q4
   obtain ⟨A5, c5, rfl⟩ := Kd.R_slice q5
   replace q0 := Aside0.mk q0
   replace q1 := Aside0.mk q1
   replace q2 := Aside0.mk q2
   replace q3 := Aside0.mk q3
   replace q4 := Aside0.mk q4
   replace q5 := Aside0.mk q5
   replace HB := Aside0.mk (HB.out.trans (hb.mono HB.out.size))
   replace P8 := Aside0.mk (BoxN.below P8.out hb P8.out.lt)
   replace P9 := Aside0.mk (BoxN.below P9.out hb P9.out.lt)
   clear hb
   clear s0 s1 s2 s3 s4 s5
   have s0 := P8.out.cell 0 rfl
   have s1 := P8.out.cell 1 rfl
   have s2 := P8.out.cell 2 rfl
   have s3 := P8.out.cell 3 rfl
   have s4 := P8.out.cell 4 rfl
   have s5 := P8.out.cell 5 rfl
   refine hK.out _ _ ⟨s0, s1, s2, s3, s4, s5⟩ (fun hHeld => ?_)
   clear hK K
   refine norm_ (a' := ?_) ?_ ?_
   rotate_left
   ·
    refine (put_list _ _ 35 _).trans ?_
    dsimp only [List.set_cons_zero, List.set_cons_succ]
    (try rfl)
   refine one_ (i := 2) (N := some 37) qf11b12 rfl rfl (one_of HT_.out (by kernel_rfl)) (by decide) (fun K hK => ?_)
   refine goes_ Try.func8 (by kernel_rfl) rfl #[.agg #[.slice A0 n0.length c0, .slice A1 n1.length c1, .slice A2 n2.length c2, .slice A3 n3.length c3, .slice A4 n4.length c4, .slice A5 n5.length c5], .agg #[.int .i64 3, .int .i64 10, .int .i64 2, .int .i64 4, .int .i64 50, .int .i64 1], .int .i64 5] (by rfl) rfl rfl (by (try simp only [List.map_toArray, List.map_cons, List.map_nil]); first | done | rfl) ?_
   (with_reducible refine (fit_Slot.calls k A0 c0 n0 A1 c1 n1 A2 c2 n2 A3 c3 n3 A4 c4 n4 A5 c5 n5 3 10 2 4 50 1 5 5 8 18 0 _ (Kd.R_reads' q0.out).2.2 (Kd.R_reads' q0.out).2.1 (Kd.R_reads' q1.out).2.2 (Kd.R_reads' q1.out).2.1 (Kd.R_reads' q2.out).2.2 (Kd.R_reads' q2.out).2.1 (Kd.R_reads' q3.out).2.2 (Kd.R_reads' q3.out).2.1 (Kd.R_reads' q4.out).2.2 (Kd.R_reads' q4.out).2.1 (Kd.R_reads' q5.out).2.2 (Kd.R_reads' q5.out).2.1 h4.out).mono ?_)
   rintro e wn ⟨rfl, hb⟩
   refine ⟨_, rfl, ?_⟩
   replace HB := Aside0.mk (HB.out.trans (hb.mono HB.out.size))
   replace P8 := Aside0.mk (BoxN.below P8.out hb P8.out.lt)
   replace P9 := Aside0.mk (BoxN.below P9.out hb P9.out.lt)
   replace q0 := Aside0.mk (Kd.R_below q0.out hb)
   replace q1 := Aside0.mk (Kd.R_below q1.out hb)
   replace q2 := Aside0.mk (Kd.R_below q2.out hb)
   replace q3 := Aside0.mk (Kd.R_below q3.out hb)
   replace q4 := Aside0.mk (Kd.R_below q4.out hb)
   replace q5 := Aside0.mk (Kd.R_below q5.out hb)
   clear hb
   clear s0 s1 s2 s3 s4 s5
   have s0 := P8.out.cell 0 rfl
   have s1 := P8.out.cell 1 rfl
   have s2 := P8.out.cell 2 rfl
   have s3 := P8.out.cell 3 rfl
   have s4 := P8.out.cell 4 rfl
   have s5 := P8.out.cell 5 rfl
   refine hK.out _ _ ⟨s0, s1, s2, s3, s4, s5⟩ (fun hHeld => ?_)
   clear hK K
   refine norm_ (a' := ?_) ?_ ?_
   rotate_left
   ·
    refine (put_list _ _ 37 _).trans ?_
    dsimp only [List.set_cons_zero, List.set_cons_succ]
    (try rfl)
   refine pure_ (i := 3) (N := some 34) (v := ?_) (a' := ?_) qf11b13 rfl rfl (any_of HT_.out (by kernel_rfl)) (fun _ _ _ h => h) (Or.inl ⟨by rfl, ?_⟩) ?_ ?_
   rotate_left
   ·
    intro w'
    go_simp
    with_reducible rfl
   rotate_left
   ·
    refine (put_list _ _ _ _).trans ?_
    dsimp only [List.set_cons_zero, List.set_cons_succ]
    rfl
   refine pure_ (i := 4) (N := some 38) (v := ?_) (a' := ?_) qf11b14 rfl rfl (any_of HT_.out (by kernel_rfl)) (fun _ _ _ h => h) (Or.inl ⟨by rfl, ?_⟩) ?_ ?_
   rotate_left
   ·
    intro w'
    go_simp
    with_reducible rfl
   rotate_left
   ·
    refine (put_list _ _ _ _).trans ?_
    dsimp only [List.set_cons_zero, List.set_cons_succ]
    rfl
   refine pure_ (i := 5) (N := some 39) (v := ?_) (a' := ?_) qf11b9 rfl rfl (any_of HT_.out (by kernel_rfl)) (fun _ _ _ h => h) (Or.inl ⟨by rfl, ?_⟩) ?_ ?_
   rotate_left
   ·
    intro w'
    go_simp
    with_reducible rfl
   rotate_left
   ·
    refine (put_list _ _ _ _).trans ?_
    dsimp only [List.set_cons_zero, List.set_cons_succ]
    rfl
   refine last_ (i := 7) (N := none) qf11b10 rfl rfl (one_of HT_.out (by kernel_rfl)) (by decide) (fun K hK => ?_)
   have cx := P9.out.cell
   have fx := P9.out.frozen
   have cx0 := cx 0 rfl
   have cx1 := cx 1 rfl
   have cx2 := cx 2 rfl
   have fx0 := fx 0
   have fx1 := fx 1
   have fx2 := fx 2
   clear cx fx
   refine skip_ (w1 := ?_) (by rfl) rfl ?_ ?_
   rotate_left
   ·
    go_simp
    (try rfl)
   refine hK.out _ _ ?_
   clear hK K
   have hk : Keeps (fun k => k ≠ g9) wn (((wn.setCell ⟨g9, 0, none⟩ (.int .i64 5)).setCell ⟨g9, 1, none⟩ (.int .i64 8)).setCell ⟨g9, 2, none⟩ (.int .i64 18)) := Keeps.setCell (p := ⟨g9, 2, none⟩) (Keeps.setCell (p := ⟨g9, 1, none⟩) (Keeps.setCell (p := ⟨g9, 0, none⟩) (Keeps.refl (fun k => k ≠ g9) wn) (.int .i64 5) (fun h => h.2 rfl)) (.int .i64 8) (fun h => h.2 rfl)) (.int .i64 18) (fun h => h.2 rfl)
   have hX : BoxN (((wn.setCell ⟨g9, 0, none⟩ (.int .i64 5)).setCell ⟨g9, 1, none⟩ (.int .i64 8)).setCell ⟨g9, 2, none⟩ (.int .i64 18)) g9 30 [.int .i64 5, .int .i64 8, .int .i64 18] := (((P9.out.set 0 (.int .i64 5)).set 1 (.int .i64 8)).set 2 (.int .i64 18))
   generalize (((wn.setCell ⟨g9, 0, none⟩ (.int .i64 5)).setCell ⟨g9, 1, none⟩ (.int .i64 8)).setCell ⟨g9, 2, none⟩ (.int .i64 18)) = Wz at *
   replace P9 := Aside0.mk hX
   replace P8 := Aside0.mk (hk.boxN P8.out (by have := h89.out; omega))
   replace HB := Aside0.mk (HB.out.trans (hk.below HB.out.size (fun k hk => by have := h9w.out; omega)))
   clear q0 q1 q2 q3 q4 q5
   clear hk hX cx0 fx0 cx1 fx1 cx2 fx2
   refine pure_ (i := 8) (N := some 10) (v := ?_) (a' := ?_) qf11b11 rfl rfl (any_of HT_.out (by kernel_rfl)) (fun _ _ _ h => h) (Or.inl ⟨by rfl, ?_⟩) ?_ ?_
   rotate_left
   ·
    intro w'
    go_simp
    with_reducible rfl
   rotate_left
   ·
    refine (put_list _ _ _ _).trans ?_
    dsimp only [List.set_cons_zero, List.set_cons_succ]
    rfl
   refine done_ (done_of HT_.out (by kernel_rfl)) ?_
   go_wp2
   go_meet
   case rel => exact ⟨g9, by rfl, by rfl, h89, h9w, P8, P9, HB⟩
 case rest =>
  clear s0 s1 s2 s3 s4 s5 P8 HB
  obtain ⟨g9, rfl, rfl, h89, h9w, P8, P9, HB⟩ := hcut
  go_upto_region 7 with fail
  have s0 := P8.out.cell 0 rfl
  have s1 := P8.out.cell 1 rfl
  have s2 := P8.out.cell 2 rfl
  have s3 := P8.out.cell 3 rfl
  have s4 := P8.out.cell 4 rfl
  have s5 := P8.out.cell 5 rfl
  have s6 := P9.out.cell 0 rfl
  have s7 := P9.out.cell 1 rfl
  have s8 := P9.out.cell 2 rfl
  go_cut [11, 12] (fun v11 v12 wc2 => ∃ (g11 : Nat) (B0 : Option Addr) (d0 : Nat) (B1 : Option Addr) (d1 : Nat) (B2 : Option Addr) (d2 : Nat) (B3 : Option Addr) (d3 : Nat) (B4 : Option Addr) (d4 : Nat) (B5 : Option Addr) (d5 : Nat), v11 = .pointer (some ⟨g11, 0, none⟩) ∧ v12 = .int .i64 0 ∧ Aside0 (BoxN wc2 X8 28 [.int .i64 3, .int .i64 10, .int .i64 2, .int .i64 4, .int .i64 50, .int .i64 1]) ∧ Aside0 (BoxN wc2 g9 30 [.int .i64 5, .int .i64 8, .int .i64 18]) ∧ Aside0 (BoxN wc2 g11 26 [.slice B0 r0.length d0, .slice B1 r1.length d1, .slice B2 r2.length d2, .slice B3 r3.length d3, .slice B4 r4.length d4, .slice B5 r5.length d5]) ∧ Aside0 (Kd.V (Kd.int .i64) 2 wc2 0 (fun k => k ≠ g11) (.slice B0 r0.length d0) r0) ∧ Aside0 (Kd.V (Kd.int .i64) 2 wc2 0 (fun k => k ≠ g11) (.slice B1 r1.length d1) r1) ∧ Aside0 (Kd.V (Kd.int .i64) 2 wc2 0 (fun k => k ≠ g11) (.slice B2 r2.length d2) r2) ∧ Aside0 (Kd.V (Kd.int .i64) 2 wc2 0 (fun k => k ≠ g11) (.slice B3 r3.length d3) r3) ∧ Aside0 (Kd.V (Kd.int .i64) 2 wc2 0 (fun k => k ≠ g11) (.slice B4 r4.length d4) r4) ∧ Aside0 (Kd.V (Kd.int .i64) 2 wc2 0 (fun k => k ≠ g11) (.slice B5 r5.length d5) r5) ∧ Aside0 (Below w.heap.size w wc2))
  case first =>
   refine start_ (n := 10) (S := fun w' => w'.cell? ⟨X8, 0, none⟩ = some (.int .i64 3) ∧ w'.cell? ⟨X8, 1, none⟩ = some (.int .i64 10) ∧ w'.cell? ⟨X8, 2, none⟩ = some (.int .i64 2) ∧ w'.cell? ⟨X8, 3, none⟩ = some (.int .i64 4) ∧ w'.cell? ⟨X8, 4, none⟩ = some (.int .i64 50) ∧ w'.cell? ⟨X8, 5, none⟩ = some (.int .i64 1) ∧ w'.cell? ⟨g9, 0, none⟩ = some (.int .i64 5) ∧ w'.cell? ⟨g9, 1, none⟩ = some (.int .i64 8) ∧ w'.cell? ⟨g9, 2, none⟩ = some (.int .i64 18)) (ds := [8]) qf11b15 (by kernel_rfl) rfl rfl ⟨s0, s1, s2, s3, s4, s5, s6, s7, s8⟩ (fun hHeld => ?_); refine with_tabW forebaylaw10_head.tab7 forebaylaw10_head.bits7 (fun HT_ HW_ => ?_)
   have hb : Below wc.heap.size wc wc.drew := below_drew (Below.refl _ _)
   replace HB := Aside0.mk (HB.out.trans (hb.mono HB.out.size))
   replace P8 := Aside0.mk (BoxN.below P8.out hb P8.out.lt)
   replace P9 := Aside0.mk (BoxN.below P9.out hb P9.out.lt)
   clear hb
   clear s0 s1 s2 s3 s4 s5 s6 s7 s8
   have s0 := P8.out.cell 0 rfl
   have s1 := P8.out.cell 1 rfl
   have s2 := P8.out.cell 2 rfl
   have s3 := P8.out.cell 3 rfl
   have s4 := P8.out.cell 4 rfl
   have s5 := P8.out.cell 5 rfl
   have s6 := P9.out.cell 0 rfl
   have s7 := P9.out.cell 1 rfl
   have s8 := P9.out.cell 2 rfl
   generalize wc.drew = wd7 at *
   refine take_ (i := 1) (N := some 42) (v := ?_) (a' := ?_) qf11b16 rfl rfl (take_ofW HT_.out HW_.out (by kernel_rfl)) (fun _ _ _ h => h) (Or.inl ⟨by rfl, ?_⟩) hHeld ?_ ?_
   rotate_left
   ·
    rintro w' ⟨s0, s1, s2, s3, s4, s5, s6, s7, s8⟩
    go_simp
    with_reducible rfl
   rotate_left
   ·
    refine (put_list _ _ _ _).trans ?_
    dsimp only [List.set_cons_zero, List.set_cons_succ]
    rfl
   refine take_ (i := 2) (N := some 43) (v := ?_) (a' := ?_) qf11b17 rfl rfl (take_ofW HT_.out HW_.out (by kernel_rfl)) (fun _ _ _ h => h) (Or.inl ⟨by rfl, ?_⟩) hHeld ?_ ?_
   rotate_left
   ·
    rintro w' ⟨s0, s1, s2, s3, s4, s5, s6, s7, s8⟩
    go_simp
    with_reducible rfl
   rotate_left
   ·
    refine (put_list _ _ _ _).trans ?_
    dsimp only [List.set_cons_zero, List.set_cons_succ]
    rfl
   refine two_ (i := 0) (j := 7) (Ni := some 41) (Nj := some 11) qf11b18 qf11b19 rfl rfl rfl rfl (two_of HT_.out (by kernel_rfl)) (by decide) (by decide) (fun K hK => ?_) (fun K hK => ?_)
   ·
    refine goes_ Try.func16 (by kernel_rfl) rfl #[.int .i64 4, .int .i64 100, .int .i64 2] (by rfl) rfl rfl (by (try simp only [List.map_toArray, List.map_cons, List.map_nil]); first | done | rfl) ?_
    (with_reducible refine (forebaylaw10_always.calls 4 100 2 n0 n1 n2 n3 n4 n5 _ h0.out).mono ?_)
    rintro e wn ⟨v0, v1, v2, v3, v4, v5, rfl, q0, q1, q2, q3, q4, q5, hb⟩
    refine ⟨_, rfl, ?_⟩
    obtain ⟨A0, c0, rfl⟩ := Kd.R_slice q0
    obtain ⟨A1, c1, rfl⟩ := Kd.R_slice q1
    obtain ⟨A2, c2, rfl⟩ := Kd.R_slice q2
    obtain ⟨A3, c3, rfl⟩ := Kd.R_slice q3
    obtain ⟨A4, c4, rfl⟩ := Kd.R_slice q4
    obtain ⟨A5, c5, rfl⟩ := Kd.R_slice q5
    replace q0 := Aside0.mk q0
    replace q1 := Aside0.mk q1
    replace q2 := Aside0.mk q2
    replace q3 := Aside0.mk q3
    replace q4 := Aside0.mk q4
    replace q5 := Aside0.mk q5
    replace HB := Aside0.mk (HB.out.trans (hb.mono HB.out.size))
    replace P8 := Aside0.mk (BoxN.below P8.out hb P8.out.lt)
    replace P9 := Aside0.mk (BoxN.below P9.out hb P9.out.lt)
    clear hb
    clear s0 s1 s2 s3 s4 s5 s6 s7 s8
    have s0 := P8.out.cell 0 rfl
    have s1 := P8.out.cell 1 rfl
    have s2 := P8.out.cell 2 rfl
    have s3 := P8.out.cell 3 rfl
    have s4 := P8.out.cell 4 rfl
    have s5 := P8.out.cell 5 rfl
    have s6 := P9.out.cell 0 rfl
    have s7 := P9.out.cell 1 rfl
    have s8 := P9.out.cell 2 rfl
    refine hK.out _ _ ⟨s0, s1, s2, s3, s4, s5, s6, s7, s8⟩ (fun hHeld => ?_)
    clear hK K
    refine norm_ (a' := ?_) ?_ ?_
    rotate_left
    ·
     refine (put_list _ _ 41 _).trans ?_
     dsimp only [List.set_cons_zero, List.set_cons_succ]
     (try rfl)
    refine two_ (i := 3) (j := 7) (Ni := some 44) (Nj := some 11) qf11b20 qf11b21 rfl rfl rfl rfl (two_of HT_.out (by kernel_rfl)) (by decide) (by decide) (fun K hK => ?_) (fun K hK => ?_)
    ·
     refine goes_ Try.func13 (by kernel_rfl) rfl #[.agg #[.slice A0 n0.length c0, .slice A1 n1.length c1, .slice A2 n2.length c2, .slice A3 n3.length c3, .slice A4 n4.length c4, .slice A5 n5.length c5], .agg #[.int .i64 3, .int .i64 10, .int .i64 2, .int .i64 4, .int .i64 50, .int .i64 1], .agg #[.int .i64 5, .int .i64 8, .int .i64 18]] (by rfl) rfl rfl (by (try simp only [List.map_toArray, List.map_cons, List.map_nil]); first | done | rfl) ?_
     (with_reducible refine (fit_Take.calls k A0 c0 n0 A1 c1 n1 A2 c2 n2 A3 c3 n3 A4 c4 n4 A5 c5 n5 3 10 2 4 50 1 5 8 18 r0 r1 r2 r3 r4 r5 0 _ (Kd.R_reads' q0.out).2.2 (Kd.R_reads' q0.out).2.1 (Kd.R_reads' q1.out).2.2 (Kd.R_reads' q1.out).2.1 (Kd.R_reads' q2.out).2.2 (Kd.R_reads' q2.out).2.1 (Kd.R_reads' q3.out).2.2 (Kd.R_reads' q3.out).2.1 (Kd.R_reads' q4.out).2.2 (Kd.R_reads' q4.out).2.1 (Kd.R_reads' q5.out).2.2 (Kd.R_reads' q5.out).2.1 h5.out).mono ?_)
     rintro e wn ⟨v0, v1, v2, v3, v4, v5, rfl, y0, y1, y2, y3, y4, y5, hb⟩
     refine ⟨_, rfl, ?_⟩
     obtain ⟨B0, d0, rfl⟩ := Kd.V_slice y0
     obtain ⟨B1, d1, rfl⟩ := Kd.V_slice y1
     obtain ⟨B2, d2, rfl⟩ := Kd.V_slice y2
     obtain ⟨B3, d3, rfl⟩ := Kd.V_slice y3
     obtain ⟨B4, d4, rfl⟩ := Kd.V_slice y4
     obtain ⟨B5, d5, rfl⟩ := Kd.V_slice y5
     have V0 := Aside0.mk (Kd.V_lower (Kd.V_mono (ok' := fun k => True) y0 (fun _ _ => trivial)) (Nat.zero_le _))
     have V1 := Aside0.mk (Kd.V_lower (Kd.V_mono (ok' := fun k => True) y1 (fun _ _ => trivial)) (Nat.zero_le _))
     have V2 := Aside0.mk (Kd.V_lower (Kd.V_mono (ok' := fun k => True) y2 (fun _ _ => trivial)) (Nat.zero_le _))
     have V3 := Aside0.mk (Kd.V_lower (Kd.V_mono (ok' := fun k => True) y3 (fun _ _ => trivial)) (Nat.zero_le _))
     have V4 := Aside0.mk (Kd.V_lower (Kd.V_mono (ok' := fun k => True) y4 (fun _ _ => trivial)) (Nat.zero_le _))
     have V5 := Aside0.mk (Kd.V_lower (Kd.V_mono (ok' := fun k => True) y5 (fun _ _ => trivial)) (Nat.zero_le _))
     clear y0 y1 y2 y3 y4 y5
     replace HB := Aside0.mk (HB.out.trans (hb.mono HB.out.size))
     replace P8 := Aside0.mk (BoxN.below P8.out hb P8.out.lt)
     replace P9 := Aside0.mk (BoxN.below P9.out hb P9.out.lt)
     replace q0 := Aside0.mk (Kd.R_below q0.out hb)
     replace q1 := Aside0.mk (Kd.R_below q1.out hb)
     replace q2 := Aside0.mk (Kd.R_below q2.out hb)
     replace q3 := Aside0.mk (Kd.R_below q3.out hb)
     replace q4 := Aside0.mk (Kd.R_below q4.out hb)
     replace q5 := Aside0.mk (Kd.R_below q5.out hb)
     clear hb
     clear s0 s1 s2 s3 s4 s5 s6 s7 s8
     have s0 := P8.out.cell 0 rfl
     have s1 := P8.out.cell 1 rfl
     have s2 := P8.out.cell 2 rfl
     have s3 := P8.out.cell 3 rfl
     have s4 := P8.out.cell 4 rfl
     have s5 := P8.out.cell 5 rfl
     have s6 := P9.out.cell 0 rfl
     have s7 := P9.out.cell 1 rfl
     have s8 := P9.out.cell 2 rfl
     refine hK.out _ _ ⟨s0, s1, s2, s3, s4, s5, s6, s7, s8⟩ (fun hHeld => ?_)
     clear hK K
     refine norm_ (a' := ?_) ?_ ?_
     rotate_left
     ·
      refine (put_list _ _ 44 _).trans ?_
      dsimp only [List.set_cons_zero, List.set_cons_succ]
      (try rfl)
     refine pure_ (i := 4) (N := some 40) (v := ?_) (a' := ?_) qf11b22 rfl rfl (any_of HT_.out (by kernel_rfl)) (fun _ _ _ h => h) (Or.inl ⟨by rfl, ?_⟩) ?_ ?_
     rotate_left
     ·
      intro w'
      go_simp
      with_reducible rfl
     rotate_left
     ·
      refine (put_list _ _ _ _).trans ?_
      dsimp only [List.set_cons_zero, List.set_cons_succ]
      rfl
     refine pure_ (i := 5) (N := some 45) (v := ?_) (a' := ?_) qf11b23 rfl rfl (any_of HT_.out (by kernel_rfl)) (fun _ _ _ h => h) (Or.inl ⟨by rfl, ?_⟩) ?_ ?_
     rotate_left
     ·
      intro w'
      go_simp
      with_reducible rfl
     rotate_left
     ·
      refine (put_list _ _ _ _).trans ?_
      dsimp only [List.set_cons_zero, List.set_cons_succ]
      rfl
     refine pure_ (i := 6) (N := some 46) (v := ?_) (a' := ?_) qf11b24 rfl rfl (any_of HT_.out (by kernel_rfl)) (fun _ _ _ h => h) (Or.inl ⟨by rfl, ?_⟩) ?_ ?_
     rotate_left
     ·
      intro w'
      go_simp
      with_reducible rfl
     rotate_left
     ·
      refine (put_list _ _ _ _).trans ?_
      dsimp only [List.set_cons_zero, List.set_cons_succ]
      rfl
     refine one_ (i := 7) (N := some 11) qf11b25 rfl rfl (one_of HT_.out (by kernel_rfl)) (by decide) (fun K hK => ?_)
     refine box_step ?hg (N := 11) ?hd (cs := #[.slice none 0 0, .slice none 0 0, .slice none 0 0, .slice none 0 0, .slice none 0 0, .slice none 0 0]) (t := 26) ?hr ?_; (case hd => rfl); (case hg => rfl); (case hr => first | (go_simp; done) | (go_simp; rfl))
     intro g11 hg_ wq hbx hb
     have h811 := Aside0.mk (show X8 < g11 from hg_ ▸ P8.out.lt)
     have h911 := Aside0.mk (show g9 < g11 from hg_ ▸ P9.out.lt)
     have h11w := Aside0.mk (show w.heap.size ≤ g11 from hg_ ▸ HB.out.size)
     replace V0 := Aside0.mk (Kd.V_mono (Kd.V_elderB V0.out g11 (Nat.le_of_eq hg_.symm)) (fun k hk => hk.2))
     replace V1 := Aside0.mk (Kd.V_mono (Kd.V_elderB V1.out g11 (Nat.le_of_eq hg_.symm)) (fun k hk => hk.2))
     replace V2 := Aside0.mk (Kd.V_mono (Kd.V_elderB V2.out g11 (Nat.le_of_eq hg_.symm)) (fun k hk => hk.2))
     replace V3 := Aside0.mk (Kd.V_mono (Kd.V_elderB V3.out g11 (Nat.le_of_eq hg_.symm)) (fun k hk => hk.2))
     replace V4 := Aside0.mk (Kd.V_mono (Kd.V_elderB V4.out g11 (Nat.le_of_eq hg_.symm)) (fun k hk => hk.2))
     replace V5 := Aside0.mk (Kd.V_mono (Kd.V_elderB V5.out g11 (Nat.le_of_eq hg_.symm)) (fun k hk => hk.2))
     replace HB := Aside0.mk (HB.out.trans (hb.mono HB.out.size))
     replace P8 := Aside0.mk (BoxN.below P8.out hb P8.out.lt)
     replace P9 := Aside0.mk (BoxN.below P9.out hb P9.out.lt)
     replace q0 := Aside0.mk (Kd.R_below q0.out hb)
     replace q1 := Aside0.mk (Kd.R_below q1.out hb)
     replace q2 := Aside0.mk (Kd.R_below q2.out hb)
     replace q3 := Aside0.mk (Kd.R_below q3.out hb)
     replace q4 := Aside0.mk (Kd.R_below q4.out hb)
     replace q5 := Aside0.mk (Kd.R_below q5.out hb)
     replace V0 := Aside0.mk (Kd.V_below V0.out hb)
     replace V1 := Aside0.mk (Kd.V_below V1.out hb)
     replace V2 := Aside0.mk (Kd.V_below V2.out hb)
     replace V3 := Aside0.mk (Kd.V_below V3.out hb)
     replace V4 := Aside0.mk (Kd.V_below V4.out hb)
     replace V5 := Aside0.mk (Kd.V_below V5.out hb)
     clear hb
     have P11 := Aside0.mk (show BoxN wq g11 26 [.slice none 0 0, .slice none 0 0, .slice none 0 0, .slice none 0 0, .slice none 0 0, .slice none 0 0] from hbx)
     clear hbx hg_
     clear s0 s1 s2 s3 s4 s5 s6 s7 s8
     have s0 := P8.out.cell 0 rfl
     have s1 := P8.out.cell 1 rfl
     have s2 := P8.out.cell 2 rfl
     have s3 := P8.out.cell 3 rfl
     have s4 := P8.out.cell 4 rfl
     have s5 := P8.out.cell 5 rfl
     have s6 := P9.out.cell 0 rfl
     have s7 := P9.out.cell 1 rfl
     have s8 := P9.out.cell 2 rfl
     refine hK.out _ _ ⟨s0, s1, s2, s3, s4, s5, s6, s7, s8⟩ (fun hHeld => ?_)
     clear hK K
     refine norm_ (a' := ?_) ?_ ?_
     rotate_left
     ·
      refine (put_list _ _ 11 _).trans ?_
      dsimp only [List.set_cons_zero, List.set_cons_succ]
      (try rfl)
     refine last_ (i := 8) (N := none) qf11b26 rfl rfl (one_of HT_.out (by kernel_rfl)) (by decide) (fun K hK => ?_)
     have cx := P11.out.cell
     have fx := P11.out.frozen
     have cx0 := cx 0 rfl
     have cx1 := cx 1 rfl
     have cx2 := cx 2 rfl
     have cx3 := cx 3 rfl
     have cx4 := cx 4 rfl
     have cx5 := cx 5 rfl
     have fx0 := fx 0
     have fx1 := fx 1
     have fx2 := fx 2
     have fx3 := fx 3
     have fx4 := fx 4
     have fx5 := fx 5
     clear cx fx
     refine skip_ (w1 := ?_) (by rfl) rfl ?_ ?_
     rotate_left
     ·
      go_simp
      (try rfl)
     refine hK.out _ _ ?_
     clear hK K
     have hk : Keeps (fun k => k ≠ g11) wq ((((((wq.setCell ⟨g11, 0, none⟩ (.slice B0 r0.length d0)).setCell ⟨g11, 1, none⟩ (.slice B1 r1.length d1)).setCell ⟨g11, 2, none⟩ (.slice B2 r2.length d2)).setCell ⟨g11, 3, none⟩ (.slice B3 r3.length d3)).setCell ⟨g11, 4, none⟩ (.slice B4 r4.length d4)).setCell ⟨g11, 5, none⟩ (.slice B5 r5.length d5)) := Keeps.setCell (p := ⟨g11, 5, none⟩) (Keeps.setCell (p := ⟨g11, 4, none⟩) (Keeps.setCell (p := ⟨g11, 3, none⟩) (Keeps.setCell (p := ⟨g11, 2, none⟩) (Keeps.setCell (p := ⟨g11, 1, none⟩) (Keeps.setCell (p := ⟨g11, 0, none⟩) (Keeps.refl (fun k => k ≠ g11) wq) (.slice B0 r0.length d0) (fun h => h.2 rfl)) (.slice B1 r1.length d1) (fun h => h.2 rfl)) (.slice B2 r2.length d2) (fun h => h.2 rfl)) (.slice B3 r3.length d3) (fun h => h.2 rfl)) (.slice B4 r4.length d4) (fun h => h.2 rfl)) (.slice B5 r5.length d5) (fun h => h.2 rfl)
     have hX : BoxN ((((((wq.setCell ⟨g11, 0, none⟩ (.slice B0 r0.length d0)).setCell ⟨g11, 1, none⟩ (.slice B1 r1.length d1)).setCell ⟨g11, 2, none⟩ (.slice B2 r2.length d2)).setCell ⟨g11, 3, none⟩ (.slice B3 r3.length d3)).setCell ⟨g11, 4, none⟩ (.slice B4 r4.length d4)).setCell ⟨g11, 5, none⟩ (.slice B5 r5.length d5)) g11 26 [.slice B0 r0.length d0, .slice B1 r1.length d1, .slice B2 r2.length d2, .slice B3 r3.length d3, .slice B4 r4.length d4, .slice B5 r5.length d5] := ((((((P11.out.set 0 (.slice B0 r0.length d0)).set 1 (.slice B1 r1.length d1)).set 2 (.slice B2 r2.length d2)).set 3 (.slice B3 r3.length d3)).set 4 (.slice B4 r4.length d4)).set 5 (.slice B5 r5.length d5))
     generalize ((((((wq.setCell ⟨g11, 0, none⟩ (.slice B0 r0.length d0)).setCell ⟨g11, 1, none⟩ (.slice B1 r1.length d1)).setCell ⟨g11, 2, none⟩ (.slice B2 r2.length d2)).setCell ⟨g11, 3, none⟩ (.slice B3 r3.length d3)).setCell ⟨g11, 4, none⟩ (.slice B4 r4.length d4)).setCell ⟨g11, 5, none⟩ (.slice B5 r5.length d5)) = Wz at *
     replace P11 := Aside0.mk hX
     replace P8 := Aside0.mk (hk.boxN P8.out (by have := h811.out; omega))
     replace P9 := Aside0.mk (hk.boxN P9.out (by have := h911.out; omega))
     replace HB := Aside0.mk (HB.out.trans (hk.below HB.out.size (fun k hk => by have := h11w.out; omega)))
     replace V0 := Aside0.mk (Kd.V_step V0.out (fun k hk' hlt => hk.block k hlt hk'))
     replace V1 := Aside0.mk (Kd.V_step V1.out (fun k hk' hlt => hk.block k hlt hk'))
     replace V2 := Aside0.mk (Kd.V_step V2.out (fun k hk' hlt => hk.block k hlt hk'))
     replace V3 := Aside0.mk (Kd.V_step V3.out (fun k hk' hlt => hk.block k hlt hk'))
     replace V4 := Aside0.mk (Kd.V_step V4.out (fun k hk' hlt => hk.block k hlt hk'))
     replace V5 := Aside0.mk (Kd.V_step V5.out (fun k hk' hlt => hk.block k hlt hk'))
     clear q0 q1 q2 q3 q4 q5
     clear hk hX cx0 fx0 cx1 fx1 cx2 fx2 cx3 fx3 cx4 fx4 cx5 fx5
     refine pure_ (i := 9) (N := some 12) (v := ?_) (a' := ?_) qf11b27 rfl rfl (any_of HT_.out (by kernel_rfl)) (fun _ _ _ h => h) (Or.inl ⟨by rfl, ?_⟩) ?_ ?_
     rotate_left
     ·
      intro w'
      go_simp
      with_reducible rfl
     rotate_left
     ·
      refine (put_list _ _ _ _).trans ?_
      dsimp only [List.set_cons_zero, List.set_cons_succ]
      rfl
     refine done_ (done_of HT_.out (by kernel_rfl)) ?_
     go_wp2
     go_meet
     case rel => exact ⟨g11, B0, d0, B1, d1, B2, d2, B3, d3, B4, d4, B5, d5, by rfl, by rfl, P8, P9, P11, V0, V1, V2, V3, V4, V5, HB⟩
    ·
     refine box_step ?hg (N := 11) ?hd (cs := #[.slice none 0 0, .slice none 0 0, .slice none 0 0, .slice none 0 0, .slice none 0 0, .slice none 0 0]) (t := 26) ?hr ?_; (case hd => rfl); (case hg => rfl); (case hr => first | (go_simp; done) | (go_simp; rfl))
     intro g11 hg_ wq hbx hb
     have h811 := Aside0.mk (show X8 < g11 from hg_ ▸ P8.out.lt)
     have h911 := Aside0.mk (show g9 < g11 from hg_ ▸ P9.out.lt)
     have h11w := Aside0.mk (show w.heap.size ≤ g11 from hg_ ▸ HB.out.size)
     replace HB := Aside0.mk (HB.out.trans (hb.mono HB.out.size))
     replace P8 := Aside0.mk (BoxN.below P8.out hb P8.out.lt)
     replace P9 := Aside0.mk (BoxN.below P9.out hb P9.out.lt)
     replace q0 := Aside0.mk (Kd.R_below q0.out hb)
     replace q1 := Aside0.mk (Kd.R_below q1.out hb)
     replace q2 := Aside0.mk (Kd.R_below q2.out hb)
     replace q3 := Aside0.mk (Kd.R_below q3.out hb)
     replace q4 := Aside0.mk (Kd.R_below q4.out hb)
     replace q5 := Aside0.mk (Kd.R_below q5.out hb)
     clear hb
     have P11 := Aside0.mk (show BoxN wq g11 26 [.slice none 0 0, .slice none 0 0, .slice none 0 0, .slice none 0 0, .slice none 0 0, .slice none 0 0] from hbx)
     clear hbx hg_
     clear s0 s1 s2 s3 s4 s5 s6 s7 s8
     have s0 := P8.out.cell 0 rfl
     have s1 := P8.out.cell 1 rfl
     have s2 := P8.out.cell 2 rfl
     have s3 := P8.out.cell 3 rfl
     have s4 := P8.out.cell 4 rfl
     have s5 := P8.out.cell 5 rfl
     have s6 := P9.out.cell 0 rfl
     have s7 := P9.out.cell 1 rfl
     have s8 := P9.out.cell 2 rfl
     refine hK.out _ _ ⟨s0, s1, s2, s3, s4, s5, s6, s7, s8⟩ (fun hHeld => ?_)
     clear hK K
     refine norm_ (a' := ?_) ?_ ?_
     rotate_left
     ·
      refine (put_list _ _ 11 _).trans ?_
      dsimp only [List.set_cons_zero, List.set_cons_succ]
      (try rfl)
     refine one_ (i := 3) (N := some 44) qf11b28 rfl rfl (one_of HT_.out (by kernel_rfl)) (by decide) (fun K hK => ?_)
     refine goes_ Try.func13 (by kernel_rfl) rfl #[.agg #[.slice A0 n0.length c0, .slice A1 n1.length c1, .slice A2 n2.length c2, .slice A3 n3.length c3, .slice A4 n4.length c4, .slice A5 n5.length c5], .agg #[.int .i64 3, .int .i64 10, .int .i64 2, .int .i64 4, .int .i64 50, .int .i64 1], .agg #[.int .i64 5, .int .i64 8, .int .i64 18]] (by rfl) rfl rfl (by (try simp only [List.map_toArray, List.map_cons, List.map_nil]); first | done | rfl) ?_
     (with_reducible refine (fit_Take.calls k A0 c0 n0 A1 c1 n1 A2 c2 n2 A3 c3 n3 A4 c4 n4 A5 c5 n5 3 10 2 4 50 1 5 8 18 r0 r1 r2 r3 r4 r5 0 _ (Kd.R_reads' q0.out).2.2 (Kd.R_reads' q0.out).2.1 (Kd.R_reads' q1.out).2.2 (Kd.R_reads' q1.out).2.1 (Kd.R_reads' q2.out).2.2 (Kd.R_reads' q2.out).2.1 (Kd.R_reads' q3.out).2.2 (Kd.R_reads' q3.out).2.1 (Kd.R_reads' q4.out).2.2 (Kd.R_reads' q4.out).2.1 (Kd.R_reads' q5.out).2.2 (Kd.R_reads' q5.out).2.1 h5.out).mono ?_)
     rintro e wn ⟨v0, v1, v2, v3, v4, v5, rfl, y0, y1, y2, y3, y4, y5, hb⟩
     refine ⟨_, rfl, ?_⟩
     obtain ⟨B0, d0, rfl⟩ := Kd.V_slice y0
     obtain ⟨B1, d1, rfl⟩ := Kd.V_slice y1
     obtain ⟨B2, d2, rfl⟩ := Kd.V_slice y2
     obtain ⟨B3, d3, rfl⟩ := Kd.V_slice y3
     obtain ⟨B4, d4, rfl⟩ := Kd.V_slice y4
     obtain ⟨B5, d5, rfl⟩ := Kd.V_slice y5
     have V0 := Aside0.mk (Kd.V_lower (Kd.V_mono (ok' := fun k => k ≠ g11) y0 (fun k hk => by have := P11.out.lt; omega)) (Nat.zero_le _))
     have V1 := Aside0.mk (Kd.V_lower (Kd.V_mono (ok' := fun k => k ≠ g11) y1 (fun k hk => by have := P11.out.lt; omega)) (Nat.zero_le _))
     have V2 := Aside0.mk (Kd.V_lower (Kd.V_mono (ok' := fun k => k ≠ g11) y2 (fun k hk => by have := P11.out.lt; omega)) (Nat.zero_le _))
     have V3 := Aside0.mk (Kd.V_lower (Kd.V_mono (ok' := fun k => k ≠ g11) y3 (fun k hk => by have := P11.out.lt; omega)) (Nat.zero_le _))
     have V4 := Aside0.mk (Kd.V_lower (Kd.V_mono (ok' := fun k => k ≠ g11) y4 (fun k hk => by have := P11.out.lt; omega)) (Nat.zero_le _))
     have V5 := Aside0.mk (Kd.V_lower (Kd.V_mono (ok' := fun k => k ≠ g11) y5 (fun k hk => by have := P11.out.lt; omega)) (Nat.zero_le _))
     clear y0 y1 y2 y3 y4 y5
     replace HB := Aside0.mk (HB.out.trans (hb.mono HB.out.size))
     replace P8 := Aside0.mk (BoxN.below P8.out hb P8.out.lt)
     replace P9 := Aside0.mk (BoxN.below P9.out hb P9.out.lt)
     replace q0 := Aside0.mk (Kd.R_below q0.out hb)
     replace q1 := Aside0.mk (Kd.R_below q1.out hb)
     replace q2 := Aside0.mk (Kd.R_below q2.out hb)
     replace q3 := Aside0.mk (Kd.R_below q3.out hb)
     replace q4 := Aside0.mk (Kd.R_below q4.out hb)
     replace q5 := Aside0.mk (Kd.R_below q5.out hb)
     replace P11 := Aside0.mk (BoxN.below P11.out hb P11.out.lt)
     clear hb
     clear s0 s1 s2 s3 s4 s5 s6 s7 s8
     have s0 := P8.out.cell 0 rfl
     have s1 := P8.out.cell 1 rfl
     have s2 := P8.out.cell 2 rfl
     have s3 := P8.out.cell 3 rfl
     have s4 := P8.out.cell 4 rfl
     have s5 := P8.out.cell 5 rfl
     have s6 := P9.out.cell 0 rfl
     have s7 := P9.out.cell 1 rfl
     have s8 := P9.out.cell 2 rfl
     refine hK.out _ _ ⟨s0, s1, s2, s3, s4, s5, s6, s7, s8⟩ (fun hHeld => ?_)
     clear hK K
     refine norm_ (a' := ?_) ?_ ?_
     rotate_left
     ·
      refine (put_list _ _ 44 _).trans ?_
      dsimp only [List.set_cons_zero, List.set_cons_succ]
      (try rfl)
     refine pure_ (i := 4) (N := some 40) (v := ?_) (a' := ?_) qf11b29 rfl rfl (any_of HT_.out (by kernel_rfl)) (fun _ _ _ h => h) (Or.inl ⟨by rfl, ?_⟩) ?_ ?_
     rotate_left
     ·
      intro w'
      go_simp
      with_reducible rfl
     rotate_left
     ·
      refine (put_list _ _ _ _).trans ?_
      dsimp only [List.set_cons_zero, List.set_cons_succ]
      rfl
     refine pure_ (i := 5) (N := some 45) (v := ?_) (a' := ?_) qf11b30 rfl rfl (any_of HT_.out (by kernel_rfl)) (fun _ _ _ h => h) (Or.inl ⟨by rfl, ?_⟩) ?_ ?_
     rotate_left
     ·
      intro w'
      go_simp
      with_reducible rfl
     rotate_left
     ·
      refine (put_list _ _ _ _).trans ?_
      dsimp only [List.set_cons_zero, List.set_cons_succ]
      rfl
     refine pure_ (i := 6) (N := some 46) (v := ?_) (a' := ?_) qf11b25 rfl rfl (any_of HT_.out (by kernel_rfl)) (fun _ _ _ h => h) (Or.inl ⟨by rfl, ?_⟩) ?_ ?_
     rotate_left
     ·
      intro w'
      go_simp
      with_reducible rfl
     rotate_left
     ·
      refine (put_list _ _ _ _).trans ?_
      dsimp only [List.set_cons_zero, List.set_cons_succ]
      rfl
     refine last_ (i := 8) (N := none) qf11b26 rfl rfl (one_of HT_.out (by kernel_rfl)) (by decide) (fun K hK => ?_)
     have cx := P11.out.cell
     have fx := P11.out.frozen
     have cx0 := cx 0 rfl
     have cx1 := cx 1 rfl
     have cx2 := cx 2 rfl
     have cx3 := cx 3 rfl
     have cx4 := cx 4 rfl
     have cx5 := cx 5 rfl
     have fx0 := fx 0
     have fx1 := fx 1
     have fx2 := fx 2
     have fx3 := fx 3
     have fx4 := fx 4
     have fx5 := fx 5
     clear cx fx
     refine skip_ (w1 := ?_) (by rfl) rfl ?_ ?_
     rotate_left
     ·
      go_simp
      (try rfl)
     refine hK.out _ _ ?_
     clear hK K
     have hk : Keeps (fun k => k ≠ g11) wn ((((((wn.setCell ⟨g11, 0, none⟩ (.slice B0 r0.length d0)).setCell ⟨g11, 1, none⟩ (.slice B1 r1.length d1)).setCell ⟨g11, 2, none⟩ (.slice B2 r2.length d2)).setCell ⟨g11, 3, none⟩ (.slice B3 r3.length d3)).setCell ⟨g11, 4, none⟩ (.slice B4 r4.length d4)).setCell ⟨g11, 5, none⟩ (.slice B5 r5.length d5)) := Keeps.setCell (p := ⟨g11, 5, none⟩) (Keeps.setCell (p := ⟨g11, 4, none⟩) (Keeps.setCell (p := ⟨g11, 3, none⟩) (Keeps.setCell (p := ⟨g11, 2, none⟩) (Keeps.setCell (p := ⟨g11, 1, none⟩) (Keeps.setCell (p := ⟨g11, 0, none⟩) (Keeps.refl (fun k => k ≠ g11) wn) (.slice B0 r0.length d0) (fun h => h.2 rfl)) (.slice B1 r1.length d1) (fun h => h.2 rfl)) (.slice B2 r2.length d2) (fun h => h.2 rfl)) (.slice B3 r3.length d3) (fun h => h.2 rfl)) (.slice B4 r4.length d4) (fun h => h.2 rfl)) (.slice B5 r5.length d5) (fun h => h.2 rfl)
     have hX : BoxN ((((((wn.setCell ⟨g11, 0, none⟩ (.slice B0 r0.length d0)).setCell ⟨g11, 1, none⟩ (.slice B1 r1.length d1)).setCell ⟨g11, 2, none⟩ (.slice B2 r2.length d2)).setCell ⟨g11, 3, none⟩ (.slice B3 r3.length d3)).setCell ⟨g11, 4, none⟩ (.slice B4 r4.length d4)).setCell ⟨g11, 5, none⟩ (.slice B5 r5.length d5)) g11 26 [.slice B0 r0.length d0, .slice B1 r1.length d1, .slice B2 r2.length d2, .slice B3 r3.length d3, .slice B4 r4.length d4, .slice B5 r5.length d5] := ((((((P11.out.set 0 (.slice B0 r0.length d0)).set 1 (.slice B1 r1.length d1)).set 2 (.slice B2 r2.length d2)).set 3 (.slice B3 r3.length d3)).set 4 (.slice B4 r4.length d4)).set 5 (.slice B5 r5.length d5))
     generalize ((((((wn.setCell ⟨g11, 0, none⟩ (.slice B0 r0.length d0)).setCell ⟨g11, 1, none⟩ (.slice B1 r1.length d1)).setCell ⟨g11, 2, none⟩ (.slice B2 r2.length d2)).setCell ⟨g11, 3, none⟩ (.slice B3 r3.length d3)).setCell ⟨g11, 4, none⟩ (.slice B4 r4.length d4)).setCell ⟨g11, 5, none⟩ (.slice B5 r5.length d5)) = Wz at *
     replace P11 := Aside0.mk hX
     replace P8 := Aside0.mk (hk.boxN P8.out (by have := h811.out; omega))
     replace P9 := Aside0.mk (hk.boxN P9.out (by have := h911.out; omega))
     replace HB := Aside0.mk (HB.out.trans (hk.below HB.out.size (fun k hk => by have := h11w.out; omega)))
     replace V0 := Aside0.mk (Kd.V_step V0.out (fun k hk' hlt => hk.block k hlt hk'))
     replace V1 := Aside0.mk (Kd.V_step V1.out (fun k hk' hlt => hk.block k hlt hk'))
     replace V2 := Aside0.mk (Kd.V_step V2.out (fun k hk' hlt => hk.block k hlt hk'))
     replace V3 := Aside0.mk (Kd.V_step V3.out (fun k hk' hlt => hk.block k hlt hk'))
     replace V4 := Aside0.mk (Kd.V_step V4.out (fun k hk' hlt => hk.block k hlt hk'))
     replace V5 := Aside0.mk (Kd.V_step V5.out (fun k hk' hlt => hk.block k hlt hk'))
     clear q0 q1 q2 q3 q4 q5
     clear hk hX cx0 fx0 cx1 fx1 cx2 fx2 cx3 fx3 cx4 fx4 cx5 fx5
     refine pure_ (i := 9) (N := some 12) (v := ?_) (a' := ?_) qf11b27 rfl rfl (any_of HT_.out (by kernel_rfl)) (fun _ _ _ h => h) (Or.inl ⟨by rfl, ?_⟩) ?_ ?_
     rotate_left
     ·
      intro w'
      go_simp
      with_reducible rfl
     rotate_left
     ·
      refine (put_list _ _ _ _).trans ?_
      dsimp only [List.set_cons_zero, List.set_cons_succ]
      rfl
     refine done_ (done_of HT_.out (by kernel_rfl)) ?_
     go_wp2
     go_meet
     case rel => exact ⟨g11, B0, d0, B1, d1, B2, d2, B3, d3, B4, d4, B5, d5, by rfl, by rfl, P8, P9, P11, V0, V1, V2, V3, V4, V5, HB⟩
   ·
    refine box_step ?hg (N := 11) ?hd (cs := #[.slice none 0 0, .slice none 0 0, .slice none 0 0, .slice none 0 0, .slice none 0 0, .slice none 0 0]) (t := 26) ?hr ?_; (case hd => rfl); (case hg => rfl); (case hr => first | (go_simp; done) | (go_simp; rfl))
    intro g11 hg_ wq hbx hb
    have h811 := Aside0.mk (show X8 < g11 from hg_ ▸ P8.out.lt)
    have h911 := Aside0.mk (show g9 < g11 from hg_ ▸ P9.out.lt)
    have h11w := Aside0.mk (show w.heap.size ≤ g11 from hg_ ▸ HB.out.size)
    replace HB := Aside0.mk (HB.out.trans (hb.mono HB.out.size))
    replace P8 := Aside0.mk (BoxN.below P8.out hb P8.out.lt)
    replace P9 := Aside0.mk (BoxN.below P9.out hb P9.out.lt)
    clear hb
    have P11 := Aside0.mk (show BoxN wq g11 26 [.slice none 0 0, .slice none 0 0, .slice none 0 0, .slice none 0 0, .slice none 0 0, .slice none 0 0] from hbx)
    clear hbx hg_
    clear s0 s1 s2 s3 s4 s5 s6 s7 s8
    have s0 := P8.out.cell 0 rfl
    have s1 := P8.out.cell 1 rfl
    have s2 := P8.out.cell 2 rfl
    have s3 := P8.out.cell 3 rfl
    have s4 := P8.out.cell 4 rfl
    have s5 := P8.out.cell 5 rfl
    have s6 := P9.out.cell 0 rfl
    have s7 := P9.out.cell 1 rfl
    have s8 := P9.out.cell 2 rfl
    refine hK.out _ _ ⟨s0, s1, s2, s3, s4, s5, s6, s7, s8⟩ (fun hHeld => ?_)
    clear hK K
    refine norm_ (a' := ?_) ?_ ?_
    rotate_left
    ·
     refine (put_list _ _ 11 _).trans ?_
     dsimp only [List.set_cons_zero, List.set_cons_succ]
     (try rfl)
    refine one_ (i := 0) (N := some 41) qf11b21 rfl rfl (one_of HT_.out (by kernel_rfl)) (by decide) (fun K hK => ?_)
    refine goes_ Try.func16 (by kernel_rfl) rfl #[.int .i64 4, .int .i64 100, .int .i64 2] (by rfl) rfl rfl (by (try simp only [List.map_toArray, List.map_cons, List.map_nil]); first | done | rfl) ?_
    (with_reducible refine (forebaylaw10_always.calls 4 100 2 n0 n1 n2 n3 n4 n5 _ h0.out).mono ?_)
    rintro e wn ⟨v0, v1, v2, v3, v4, v5, rfl, q0, q1, q2, q3, q4, q5, hb⟩
    refine ⟨_, rfl, ?_⟩
    obtain ⟨A0, c0, rfl⟩ := Kd.R_slice q0
    obtain ⟨A1, c1, rfl⟩ := Kd.R_slice q1
    obtain ⟨A2, c2, rfl⟩ := Kd.R_slice q2
    obtain ⟨A3, c3, rfl⟩ := Kd.R_slice q3
    obtain ⟨A4, c4, rfl⟩ := Kd.R_slice q4
    obtain ⟨A5, c5, rfl⟩ := Kd.R_slice q5
    replace q0 := Aside0.mk q0
    replace q1 := Aside0.mk q1
    replace q2 := Aside0.mk q2
    replace q3 := Aside0.mk q3
    replace q4 := Aside0.mk q4
    replace q5 := Aside0.mk q5
    replace HB := Aside0.mk (HB.out.trans (hb.mono HB.out.size))
    replace P8 := Aside0.mk (BoxN.below P8.out hb P8.out.lt)
    replace P9 := Aside0.mk (BoxN.below P9.out hb P9.out.lt)
    replace P11 := Aside0.mk (BoxN.below P11.out hb P11.out.lt)
    clear hb
    clear s0 s1 s2 s3 s4 s5 s6 s7 s8
    have s0 := P8.out.cell 0 rfl
    have s1 := P8.out.cell 1 rfl
    have s2 := P8.out.cell 2 rfl
    have s3 := P8.out.cell 3 rfl
    have s4 := P8.out.cell 4 rfl
    have s5 := P8.out.cell 5 rfl
    have s6 := P9.out.cell 0 rfl
    have s7 := P9.out.cell 1 rfl
    have s8 := P9.out.cell 2 rfl
    refine hK.out _ _ ⟨s0, s1, s2, s3, s4, s5, s6, s7, s8⟩ (fun hHeld => ?_)
    clear hK K
    refine norm_ (a' := ?_) ?_ ?_
    rotate_left
    ·
     refine (put_list _ _ 41 _).trans ?_
     dsimp only [List.set_cons_zero, List.set_cons_succ]
     (try rfl)
    refine one_ (i := 3) (N := some 44) qf11b28 rfl rfl (one_of HT_.out (by kernel_rfl)) (by decide) (fun K hK => ?_)
    refine goes_ Try.func13 (by kernel_rfl) rfl #[.agg #[.slice A0 n0.length c0, .slice A1 n1.length c1, .slice A2 n2.length c2, .slice A3 n3.length c3, .slice A4 n4.length c4, .slice A5 n5.length c5], .agg #[.int .i64 3, .int .i64 10, .int .i64 2, .int .i64 4, .int .i64 50, .int .i64 1], .agg #[.int .i64 5, .int .i64 8, .int .i64 18]] (by rfl) rfl rfl (by (try simp only [List.map_toArray, List.map_cons, List.map_nil]); first | done | rfl) ?_
    (with_reducible refine (fit_Take.calls k A0 c0 n0 A1 c1 n1 A2 c2 n2 A3 c3 n3 A4 c4 n4 A5 c5 n5 3 10 2 4 50 1 5 8 18 r0 r1 r2 r3 r4 r5 0 _ (Kd.R_reads' q0.out).2.2 (Kd.R_reads' q0.out).2.1 (Kd.R_reads' q1.out).2.2 (Kd.R_reads' q1.out).2.1 (Kd.R_reads' q2.out).2.2 (Kd.R_reads' q2.out).2.1 (Kd.R_reads' q3.out).2.2 (Kd.R_reads' q3.out).2.1 (Kd.R_reads' q4.out).2.2 (Kd.R_reads' q4.out).2.1 (Kd.R_reads' q5.out).2.2 (Kd.R_reads' q5.out).2.1 h5.out).mono ?_)
    rintro e wn ⟨v0, v1, v2, v3, v4, v5, rfl, y0, y1, y2, y3, y4, y5, hb⟩
    refine ⟨_, rfl, ?_⟩
    obtain ⟨B0, d0, rfl⟩ := Kd.V_slice y0
    obtain ⟨B1, d1, rfl⟩ := Kd.V_slice y1
    obtain ⟨B2, d2, rfl⟩ := Kd.V_slice y2
    obtain ⟨B3, d3, rfl⟩ := Kd.V_slice y3
    obtain ⟨B4, d4, rfl⟩ := Kd.V_slice y4
    obtain ⟨B5, d5, rfl⟩ := Kd.V_slice y5
    have V0 := Aside0.mk (Kd.V_lower (Kd.V_mono (ok' := fun k => k ≠ g11) y0 (fun k hk => by have := P11.out.lt; omega)) (Nat.zero_le _))
    have V1 := Aside0.mk (Kd.V_lower (Kd.V_mono (ok' := fun k => k ≠ g11) y1 (fun k hk => by have := P11.out.lt; omega)) (Nat.zero_le _))
    have V2 := Aside0.mk (Kd.V_lower (Kd.V_mono (ok' := fun k => k ≠ g11) y2 (fun k hk => by have := P11.out.lt; omega)) (Nat.zero_le _))
    have V3 := Aside0.mk (Kd.V_lower (Kd.V_mono (ok' := fun k => k ≠ g11) y3 (fun k hk => by have := P11.out.lt; omega)) (Nat.zero_le _))
    have V4 := Aside0.mk (Kd.V_lower (Kd.V_mono (ok' := fun k => k ≠ g11) y4 (fun k hk => by have := P11.out.lt; omega)) (Nat.zero_le _))
    have V5 := Aside0.mk (Kd.V_lower (Kd.V_mono (ok' := fun k => k ≠ g11) y5 (fun k hk => by have := P11.out.lt; omega)) (Nat.zero_le _))
    clear y0 y1 y2 y3 y4 y5
    replace HB := Aside0.mk (HB.out.trans (hb.mono HB.out.size))
    replace P8 := Aside0.mk (BoxN.below P8.out hb P8.out.lt)
    replace P9 := Aside0.mk (BoxN.below P9.out hb P9.out.lt)
    replace P11 := Aside0.mk (BoxN.below P11.out hb P11.out.lt)
    replace q0 := Aside0.mk (Kd.R_below q0.out hb)
    replace q1 := Aside0.mk (Kd.R_below q1.out hb)
    replace q2 := Aside0.mk (Kd.R_below q2.out hb)
    replace q3 := Aside0.mk (Kd.R_below q3.out hb)
    replace q4 := Aside0.mk (Kd.R_below q4.out hb)
    replace q5 := Aside0.mk (Kd.R_below q5.out hb)
    clear hb
    clear s0 s1 s2 s3 s4 s5 s6 s7 s8
    have s0 := P8.out.cell 0 rfl
    have s1 := P8.out.cell 1 rfl
    have s2 := P8.out.cell 2 rfl
    have s3 := P8.out.cell 3 rfl
    have s4 := P8.out.cell 4 rfl
    have s5 := P8.out.cell 5 rfl
    have s6 := P9.out.cell 0 rfl
    have s7 := P9.out.cell 1 rfl
    have s8 := P9.out.cell 2 rfl
    refine hK.out _ _ ⟨s0, s1, s2, s3, s4, s5, s6, s7, s8⟩ (fun hHeld => ?_)
    clear hK K
    refine norm_ (a' := ?_) ?_ ?_
    rotate_left
    ·
     refine (put_list _ _ 44 _).trans ?_
     dsimp only [List.set_cons_zero, List.set_cons_succ]
     (try rfl)
    refine pure_ (i := 4) (N := some 40) (v := ?_) (a' := ?_) qf11b29 rfl rfl (any_of HT_.out (by kernel_rfl)) (fun _ _ _ h => h) (Or.inl ⟨by rfl, ?_⟩) ?_ ?_
    rotate_left
    ·
     intro w'
     go_simp
     with_reducible rfl
    rotate_left
    ·
     refine (put_list _ _ _ _).trans ?_
     dsimp only [List.set_cons_zero, List.set_cons_succ]
     rfl
    refine pure_ (i := 5) (N := some 45) (v := ?_) (a' := ?_) qf11b30 rfl rfl (any_of HT_.out (by kernel_rfl)) (fun _ _ _ h => h) (Or.inl ⟨by rfl, ?_⟩) ?_ ?_
    rotate_left
    ·
     intro w'
     go_simp
     with_reducible rfl
    rotate_left
    ·
     refine (put_list _ _ _ _).trans ?_
     dsimp only [List.set_cons_zero, List.set_cons_succ]
     rfl
    refine pure_ (i := 6) (N := some 46) (v := ?_) (a' := ?_) qf11b25 rfl rfl (any_of HT_.out (by kernel_rfl)) (fun _ _ _ h => h) (Or.inl ⟨by rfl, ?_⟩) ?_ ?_
    rotate_left
    ·
     intro w'
     go_simp
     with_reducible rfl
    rotate_left
    ·
     refine (put_list _ _ _ _).trans ?_
     dsimp only [List.set_cons_zero, List.set_cons_succ]
     rfl
    refine last_ (i := 8) (N := none) qf11b26 rfl rfl (one_of HT_.out (by kernel_rfl)) (by decide) (fun K hK => ?_)
    have cx := P11.out.cell
    have fx := P11.out.frozen
    have cx0 := cx 0 rfl
    have cx1 := cx 1 rfl
    have cx2 := cx 2 rfl
    have cx3 := cx 3 rfl
    have cx4 := cx 4 rfl
    have cx5 := cx 5 rfl
    have fx0 := fx 0
    have fx1 := fx 1
    have fx2 := fx 2
    have fx3 := fx 3
    have fx4 := fx 4
    have fx5 := fx 5
    clear cx fx
    refine skip_ (w1 := ?_) (by rfl) rfl ?_ ?_
    rotate_left
    ·
     go_simp
     (try rfl)
    refine hK.out _ _ ?_
    clear hK K
    have hk : Keeps (fun k => k ≠ g11) wn ((((((wn.setCell ⟨g11, 0, none⟩ (.slice B0 r0.length d0)).setCell ⟨g11, 1, none⟩ (.slice B1 r1.length d1)).setCell ⟨g11, 2, none⟩ (.slice B2 r2.length d2)).setCell ⟨g11, 3, none⟩ (.slice B3 r3.length d3)).setCell ⟨g11, 4, none⟩ (.slice B4 r4.length d4)).setCell ⟨g11, 5, none⟩ (.slice B5 r5.length d5)) := Keeps.setCell (p := ⟨g11, 5, none⟩) (Keeps.setCell (p := ⟨g11, 4, none⟩) (Keeps.setCell (p := ⟨g11, 3, none⟩) (Keeps.setCell (p := ⟨g11, 2, none⟩) (Keeps.setCell (p := ⟨g11, 1, none⟩) (Keeps.setCell (p := ⟨g11, 0, none⟩) (Keeps.refl (fun k => k ≠ g11) wn) (.slice B0 r0.length d0) (fun h => h.2 rfl)) (.slice B1 r1.length d1) (fun h => h.2 rfl)) (.slice B2 r2.length d2) (fun h => h.2 rfl)) (.slice B3 r3.length d3) (fun h => h.2 rfl)) (.slice B4 r4.length d4) (fun h => h.2 rfl)) (.slice B5 r5.length d5) (fun h => h.2 rfl)
    have hX : BoxN ((((((wn.setCell ⟨g11, 0, none⟩ (.slice B0 r0.length d0)).setCell ⟨g11, 1, none⟩ (.slice B1 r1.length d1)).setCell ⟨g11, 2, none⟩ (.slice B2 r2.length d2)).setCell ⟨g11, 3, none⟩ (.slice B3 r3.length d3)).setCell ⟨g11, 4, none⟩ (.slice B4 r4.length d4)).setCell ⟨g11, 5, none⟩ (.slice B5 r5.length d5)) g11 26 [.slice B0 r0.length d0, .slice B1 r1.length d1, .slice B2 r2.length d2, .slice B3 r3.length d3, .slice B4 r4.length d4, .slice B5 r5.length d5] := ((((((P11.out.set 0 (.slice B0 r0.length d0)).set 1 (.slice B1 r1.length d1)).set 2 (.slice B2 r2.length d2)).set 3 (.slice B3 r3.length d3)).set 4 (.slice B4 r4.length d4)).set 5 (.slice B5 r5.length d5))
    generalize ((((((wn.setCell ⟨g11, 0, none⟩ (.slice B0 r0.length d0)).setCell ⟨g11, 1, none⟩ (.slice B1 r1.length d1)).setCell ⟨g11, 2, none⟩ (.slice B2 r2.length d2)).setCell ⟨g11, 3, none⟩ (.slice B3 r3.length d3)).setCell ⟨g11, 4, none⟩ (.slice B4 r4.length d4)).setCell ⟨g11, 5, none⟩ (.slice B5 r5.length d5)) = Wz at *
    replace P11 := Aside0.mk hX
    replace P8 := Aside0.mk (hk.boxN P8.out (by have := h811.out; omega))
    replace P9 := Aside0.mk (hk.boxN P9.out (by have := h911.out; omega))
    replace HB := Aside0.mk (HB.out.trans (hk.below HB.out.size (fun k hk => by have := h11w.out; omega)))
    replace V0 := Aside0.mk (Kd.V_step V0.out (fun k hk' hlt => hk.block k hlt hk'))
    replace V1 := Aside0.mk (Kd.V_step V1.out (fun k hk' hlt => hk.block k hlt hk'))
    replace V2 := Aside0.mk (Kd.V_step V2.out (fun k hk' hlt => hk.block k hlt hk'))
    replace V3 := Aside0.mk (Kd.V_step V3.out (fun k hk' hlt => hk.block k hlt hk'))
    replace V4 := Aside0.mk (Kd.V_step V4.out (fun k hk' hlt => hk.block k hlt hk'))
    replace V5 := Aside0.mk (Kd.V_step V5.out (fun k hk' hlt => hk.block k hlt hk'))
    clear q0 q1 q2 q3 q4 q5
    clear hk hX cx0 fx0 cx1 fx1 cx2 fx2 cx3 fx3 cx4 fx4 cx5 fx5
    refine pure_ (i := 9) (N := some 12) (v := ?_) (a' := ?_) qf11b27 rfl rfl (any_of HT_.out (by kernel_rfl)) (fun _ _ _ h => h) (Or.inl ⟨by rfl, ?_⟩) ?_ ?_
    rotate_left
    ·
     intro w'
     go_simp
     with_reducible rfl
    rotate_left
    ·
     refine (put_list _ _ _ _).trans ?_
     dsimp only [List.set_cons_zero, List.set_cons_succ]
     rfl
    refine done_ (done_of HT_.out (by kernel_rfl)) ?_
    go_wp2
    go_meet
    case rel => exact ⟨g11, B0, d0, B1, d1, B2, d2, B3, d3, B4, d4, B5, d5, by rfl, by rfl, P8, P9, P11, V0, V1, V2, V3, V4, V5, HB⟩
  case rest =>
   clear s0 s1 s2 s3 s4 s5 s6 s7 s8 P8 P9 HB h89 h9w
   obtain ⟨g11, B0, d0, B1, d1, B2, d2, B3, d3, B4, d4, B5, d5, rfl, rfl, P8, P9, P11, V0, V1, V2, V3, V4, V5, HB⟩ := hcut
   have s0 := P8.out.cell 0 rfl
   have s1 := P8.out.cell 1 rfl
   have s2 := P8.out.cell 2 rfl
   have s3 := P8.out.cell 3 rfl
   have s4 := P8.out.cell 4 rfl
   have s5 := P8.out.cell 5 rfl
   have s6 := P9.out.cell 0 rfl
   have s7 := P9.out.cell 1 rfl
   have s8 := P9.out.cell 2 rfl
   have z0 := P11.out.cell 0 rfl
   have z1 := P11.out.cell 1 rfl
   have z2 := P11.out.cell 2 rfl
   have z3 := P11.out.cell 3 rfl
   have z4 := P11.out.cell 4 rfl
   have z5 := P11.out.cell 5 rfl
   go_upto_region 9 with (go_at_call 8; (with_reducible refine (fit_Slot.calls k B0 d0 r0 B1 d1 r1 B2 d2 r2 B3 d3 r3 B4 d4 r4 B5 d5 r5 3 10 2 4 50 1 5 5 18 28 0 _ (Kd.V_reads' V0.out).2.2 (Kd.V_reads' V0.out).2.1 (Kd.V_reads' V1.out).2.2 (Kd.V_reads' V1.out).2.1 (Kd.V_reads' V2.out).2.2 (Kd.V_reads' V2.out).2.1 (Kd.V_reads' V3.out).2.2 (Kd.V_reads' V3.out).2.1 (Kd.V_reads' V4.out).2.2 (Kd.V_reads' V4.out).2.1 (Kd.V_reads' V5.out).2.2 (Kd.V_reads' V5.out).2.1 h6.out).mono ?_); rintro e w9 ⟨rfl, hb⟩; replace HB := Aside0.mk (HB.out.trans (hb.mono HB.out.size)); replace P8 := Aside0.mk (BoxN.below P8.out hb P8.out.lt); replace P9 := Aside0.mk (BoxN.below P9.out hb P9.out.lt); replace P11 := Aside0.mk (BoxN.below P11.out hb P11.out.lt); replace V0 := Aside0.mk (Kd.V_below V0.out hb); replace V1 := Aside0.mk (Kd.V_below V1.out hb); replace V2 := Aside0.mk (Kd.V_below V2.out hb); replace V3 := Aside0.mk (Kd.V_below V3.out hb); replace V4 := Aside0.mk (Kd.V_below V4.out hb); replace V5 := Aside0.mk (Kd.V_below V5.out hb); clear hb; clear s0 s1 s2 s3 s4 s5 s6 s7 s8 z0 z1 z2 z3 z4 z5; have s0 := P8.out.cell 0 rfl; have s1 := P8.out.cell 1 rfl; have s2 := P8.out.cell 2 rfl; have s3 := P8.out.cell 3 rfl; have s4 := P8.out.cell 4 rfl; have s5 := P8.out.cell 5 rfl; have s6 := P9.out.cell 0 rfl; have s7 := P9.out.cell 1 rfl; have s8 := P9.out.cell 2 rfl; have z0 := P11.out.cell 0 rfl; have z1 := P11.out.cell 1 rfl; have z2 := P11.out.cell 2 rfl; have z3 := P11.out.cell 3 rfl; have z4 := P11.out.cell 4 rfl; have z5 := P11.out.cell 5 rfl)
   have hb := (Below.refl w9.heap.size w9).alloc (Nat.le_refl _) (Obj.cells #[.int .i64 5, .int .i64 18, .int .i64 28] 30)
   obtain ⟨X13, hX13⟩ : ∃ X13, w9.heap.size = X13 := ⟨_, rfl⟩
   have P13 : BoxN (w9.alloc (Obj.cells #[.int .i64 5, .int .i64 18, .int .i64 28] 30)) X13 30 [.int .i64 5, .int .i64 18, .int .i64 28] := by rw [← hX13]; exact BoxN.new w9 30 [.int .i64 5, .int .i64 18, .int .i64 28]
   replace HB := Aside0.mk (HB.out.trans (hb.mono HB.out.size))
   replace P8 := Aside0.mk (BoxN.below P8.out hb P8.out.lt)
   replace P9 := Aside0.mk (BoxN.below P9.out hb P9.out.lt)
   replace P11 := Aside0.mk (BoxN.below P11.out hb P11.out.lt)
   replace V0 := Aside0.mk (Kd.V_below V0.out hb)
   replace V1 := Aside0.mk (Kd.V_below V1.out hb)
   replace V2 := Aside0.mk (Kd.V_below V2.out hb)
   replace V3 := Aside0.mk (Kd.V_below V3.out hb)
   replace V4 := Aside0.mk (Kd.V_below V4.out hb)
   replace V5 := Aside0.mk (Kd.V_below V5.out hb)
   clear hb
   clear s0 s1 s2 s3 s4 s5 s6 s7 s8 z0 z1 z2 z3 z4 z5
   rw [hX13]
   clear hX13
   generalize (w9.alloc (Obj.cells #[.int .i64 5, .int .i64 18, .int .i64 28] 30)) = W13 at *
   have s0 := P8.out.cell 0 rfl
   have s1 := P8.out.cell 1 rfl
   have s2 := P8.out.cell 2 rfl
   have s3 := P8.out.cell 3 rfl
   have s4 := P8.out.cell 4 rfl
   have s5 := P8.out.cell 5 rfl
   have s6 := P9.out.cell 0 rfl
   have s7 := P9.out.cell 1 rfl
   have s8 := P9.out.cell 2 rfl
   have z0 := P11.out.cell 0 rfl
   have z1 := P11.out.cell 1 rfl
   have z2 := P11.out.cell 2 rfl
   have z3 := P11.out.cell 3 rfl
   have z4 := P11.out.cell 4 rfl
   have z5 := P11.out.cell 5 rfl
   have y0 := P13.cell 0 rfl
   have y1 := P13.cell 1 rfl
   have y2 := P13.cell 2 rfl
   replace P13 := Aside0.mk P13
   go_wp2_with (go_at_call 12; (with_reducible refine (fit_Is.calls k B0 d0 r0 B1 d1 r1 B2 d2 r2 B3 d3 r3 B4 d4 r4 B5 d5 r5 3 10 2 4 50 1 5 18 28 true _ (Kd.V_reads' V0.out).2.2 (Kd.V_reads' V0.out).2.1 (Kd.V_reads' V1.out).2.2 (Kd.V_reads' V1.out).2.1 (Kd.V_reads' V2.out).2.2 (Kd.V_reads' V2.out).2.1 (Kd.V_reads' V3.out).2.2 (Kd.V_reads' V3.out).2.1 (Kd.V_reads' V4.out).2.2 (Kd.V_reads' V4.out).2.1 (Kd.V_reads' V5.out).2.2 (Kd.V_reads' V5.out).2.1 h7.out).mono ?_); rintro e w10 ⟨rfl, hb⟩; replace HB := Aside0.mk (HB.out.trans (hb.mono HB.out.size)); clear hb)
   go_ret
   exact ⟨rfl, HB.out⟩

end Go.Proofs.Ythbonmpkjkihgaa.P
