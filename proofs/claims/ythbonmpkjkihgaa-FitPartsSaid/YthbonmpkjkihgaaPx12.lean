-- Written by this session's program gprint.py: functions of the program as plain functions, and that the machine does what they say. Not trusted: Lean checks it.
import Derived.Test.YthbonmpkjkihgaaPx0
import Derived.Test.YthbonmpkjkihgaaPx1
import Derived.Test.YthbonmpkjkihgaaPx2
import Derived.Test.YthbonmpkjkihgaaPx4
import Derived.Test.YthbonmpkjkihgaaPx9
import Derived.Test.YthbonmpkjkihgaaPx11
namespace Go.Proofs.Ythbonmpkjkihgaa.P
open Go.RowKit Go.Proofs.YthbonmpkjkihgaaW.PrintWords Go.Proofs.YthbonmpkjkihgaaW.PrintLast Go.Proofs.YthbonmpkjkihgaaW.PrintMore
attribute [local go_sem] max2_int min2_int max_two min_two max_three min_three max_four min_four   -- for this text's walks alone
set_option linter.unusedVariables false
set_option linter.unusedSimpArgs false
def qf12b0 : Array Bool := #[false, false, false, false, false, false, false, false, false, false, false]
def qf12b1 : Array Bool := #[true, false, false, false, false, false, false, false, false, false, false]
def qf12b2 : Array Bool := #[true, false, true, false, false, false, false, false, false, false, false]
def qf12b3 : Array Bool := #[true, false, true, false, true, false, false, false, false, false, false]
def qf12b4 : Array Bool := #[true, true, true, false, true, false, false, false, false, false, false]
def qf12b5 : Array Bool := #[true, true, true, true, true, false, false, false, false, false, false]
def qf12b6 : Array Bool := #[true, true, true, true, true, true, false, false, false, false, false]
def qf12b7 : Array Bool := #[true, true, true, true, true, true, true, false, false, false, false]
def qf12b8 : Array Bool := #[true, true, true, true, true, true, false, true, false, false, false]
def qf12b9 : Array Bool := #[true, true, true, true, true, true, true, true, false, false, false]
def qf12b10 : Array Bool := #[true, true, true, true, true, true, true, true, true, false, false]
def qf12b11 : Array Bool := #[true, true, true, true, true, true, true, true, true, true, false]
def qf12b12 : Array Bool := #[true, true, true, true, true, true, true, true, true, true, true]

/-! ### forebaylaw10_FitParts: function 3 -/
/-- What is wanted. -/
inductive FitPartsOk (l0_0 l0_1 l0_2 l0_3 l0_4 l0_5 : List Int) (a0_6 a0_7 a0_8 a0_9 a0_10 a0_11 a0_12 a0_13 a0_14 a0_15 : Int) : Prop where
 | great (k : Nat) (h0 : forebayref10_Great.f l0_0 l0_1 l0_2 l0_3 l0_4 l0_5 = some true) (hh : forebaylaw10_head.f k = some true)
 | arg (k : Nat) (S C O t f : Int) (h0 : forebayref10_Great.f l0_0 l0_1 l0_2 l0_3 l0_4 l0_5 = some false) (h1 : fit_Slot.f k l0_0 l0_1 l0_2 l0_3 l0_4 l0_5 0 a0_7 0 a0_9 0 a0_11 a0_15 = some (S, C, O, 2)) (h2 : fit_First.f k l0_0 l0_1 a0_15 a0_7 a0_9 = some (t, f)) (hh : forebaylaw10_head.f k = some true)
 | bad (k : Nat) (S C O t f : Int) (h0 : forebayref10_Great.f l0_0 l0_1 l0_2 l0_3 l0_4 l0_5 = some false) (h1 : fit_Slot.f k l0_0 l0_1 l0_2 l0_3 l0_4 l0_5 0 a0_7 0 a0_9 0 a0_11 a0_15 = some (S, C, O, 7)) (h2 : fit_First.f k l0_0 l0_1 a0_15 a0_7 a0_9 = some (t, f)) (hf : f ≠ 0) (hh : forebaylaw10_head.f k = some true)
 | good (k : Nat) (t : Int) (h0 : forebayref10_Great.f l0_0 l0_1 l0_2 l0_3 l0_4 l0_5 = some false) (h1 : fit_Slot.f k l0_0 l0_1 l0_2 l0_3 l0_4 l0_5 0 a0_7 0 a0_9 0 a0_11 a0_15 = some (a0_15, t, t + a0_7, 0)) (h2 : fit_First.f k l0_0 l0_1 a0_15 a0_7 a0_9 = some (t, 0)) (b1 : 0 ≤ t) (b2 : t ≤ 1099511627776) (b3 : 0 ≤ a0_7) (b4 : a0_7 ≤ 1099511627776) (hf : t + a0_7 ≤ 1099511627776) (h3 : fit_Slot.f k l0_0 l0_1 l0_2 l0_3 l0_4 l0_5 0 0 0 0 0 0 a0_15 = some (a0_15, a0_15, a0_15, 0)) (hh : forebaylaw10_head.f k = some true)
open Classical in
noncomputable def forebaylaw10_FitParts.f (l0_0 l0_1 l0_2 l0_3 l0_4 l0_5 : List Int) (a0_6 a0_7 a0_8 a0_9 a0_10 a0_11 a0_12 a0_13 a0_14 a0_15 : Int) : Option Bool := @ite _ (FitPartsOk l0_0 l0_1 l0_2 l0_3 l0_4 l0_5 a0_6 a0_7 a0_8 a0_9 a0_10 a0_11 a0_12 a0_13 a0_14 a0_15) (Classical.propDecidable _) (some true) none
def forebaylaw10_FitParts.T1 : Bool × List (List Nat × List Nat) := (true, [([], []), ([0], [0]), ([], []), ([2], [2]), ([], []), ([4], [4]), ([], []), ([], []), ([6, 1, 0, 1, 6, 7], [1, 6]), ([7, 3, 8, 0, 1, 2, 3, 6, 7, 8], [3, 7]), ([5, 9, 0, 1, 2, 3, 4, 5, 6, 7, 8, 9], [5])])
def forebaylaw10_FitParts.B1 : List Nat := [0, 1, 0, 4, 0, 16, 0, 0, 195, 463, 1023]
theorem forebaylaw10_FitParts.tab1 : rtab .any (opsOf Try.f3 1) = forebaylaw10_FitParts.T1 := by kernel_rfl
theorem forebaylaw10_FitParts.bits1 : waitsOk forebaylaw10_FitParts.T1.2 forebaylaw10_FitParts.B1 = true := by kernel_rfl
set_option maxHeartbeats 32000000 in
set_option maxRecDepth 100000 in
theorem forebaylaw10_FitParts.calls (A0_0 : Option Addr) (c0_0 : Nat) (l0_0 : List Int) (A0_1 : Option Addr) (c0_1 : Nat) (l0_1 : List Int) (A0_2 : Option Addr) (c0_2 : Nat) (l0_2 : List Int) (A0_3 : Option Addr) (c0_3 : Nat) (l0_3 : List Int) (A0_4 : Option Addr) (c0_4 : Nat) (l0_4 : List Int) (A0_5 : Option Addr) (c0_5 : Nat) (l0_5 : List Int) (a0_6 : Int) (a0_7 : Int) (a0_8 : Int) (a0_9 : Int) (a0_10 : Int) (a0_11 : Int) (a0_12 : Int) (a0_13 : Int) (a0_14 : Int) (a0_15 : Int) (r : Bool) (w : World) (hr0_0 : Kd.C (Kd.int .i64) w A0_0 l0_0.length l0_0) (hc0_0 : l0_0.length ≤ c0_0) (hr0_1 : Kd.C (Kd.int .i64) w A0_1 l0_1.length l0_1) (hc0_1 : l0_1.length ≤ c0_1) (hr0_2 : Kd.C (Kd.int .i64) w A0_2 l0_2.length l0_2) (hc0_2 : l0_2.length ≤ c0_2) (hr0_3 : Kd.C (Kd.int .i64) w A0_3 l0_3.length l0_3) (hc0_3 : l0_3.length ≤ c0_3) (hr0_4 : Kd.C (Kd.int .i64) w A0_4 l0_4.length l0_4) (hc0_4 : l0_4.length ≤ c0_4) (hr0_5 : Kd.C (Kd.int .i64) w A0_5 l0_5.length l0_5) (hc0_5 : l0_5.length ≤ c0_5) (h : forebaylaw10_FitParts.f l0_0 l0_1 l0_2 l0_3 l0_4 l0_5 a0_6 a0_7 a0_8 a0_9 a0_10 a0_11 a0_12 a0_13 a0_14 a0_15 = some r) :
  Calls Try.prog 3 #[.agg #[.slice A0_0 l0_0.length c0_0, .slice A0_1 l0_1.length c0_1, .slice A0_2 l0_2.length c0_2, .slice A0_3 l0_3.length c0_3, .slice A0_4 l0_4.length c0_4, .slice A0_5 l0_5.length c0_5, .int .i64 a0_6, .int .i64 a0_7, .int .i64 a0_8, .int .i64 a0_9, .int .i64 a0_10, .int .i64 a0_11, .int .i64 a0_12, .int .i64 a0_13, .int .i64 a0_14, .int .i64 a0_15]] w fun e w' => e = .returned (.bool r) ∧ Below w.heap.size w w' := by
 unfold forebaylaw10_FitParts.f at h
 by_cases hok : FitPartsOk l0_0 l0_1 l0_2 l0_3 l0_4 l0_5 a0_6 a0_7 a0_8 a0_9 a0_10 a0_11 a0_12 a0_13 a0_14 a0_15
 case neg => rw [if_neg hok] at h; cases h
 rw [if_pos hok] at h
 obtain rfl := Option.some.inj h
 clear h
 have hu24 := Try.underlying24
 have hu26 := Try.underlying26
 have hu28 := Try.underlying28
 have hu30 := Try.underlying30
 have hu32 := Try.underlying32
 have CR0 := Aside0.mk hr0_0
 have LR0 := Aside0.mk hc0_0
 have CR1 := Aside0.mk hr0_1
 have LR1 := Aside0.mk hc0_1
 have CR2 := Aside0.mk hr0_2
 have LR2 := Aside0.mk hc0_2
 have CR3 := Aside0.mk hr0_3
 have LR3 := Aside0.mk hc0_3
 have CR4 := Aside0.mk hr0_4
 have LR4 := Aside0.mk hc0_4
 have CR5 := Aside0.mk hr0_5
 have LR5 := Aside0.mk hc0_5
 clear hr0_0 hc0_0 hr0_1 hc0_1 hr0_2 hc0_2 hr0_3 hc0_3 hr0_4 hc0_4 hr0_5 hc0_5
 obtain ⟨H, hH⟩ : ∃ H, w.heap.size = H := ⟨_, rfl⟩
 obtain ⟨W1, hW1⟩ : ∃ W1, List.foldl World.alloc w [.cells #[.slice A0_0 l0_0.length c0_0, .slice A0_1 l0_1.length c0_1, .slice A0_2 l0_2.length c0_2, .slice A0_3 l0_3.length c0_3, .slice A0_4 l0_4.length c0_4, .slice A0_5 l0_5.length c0_5, .int .i64 a0_6, .int .i64 a0_7, .int .i64 a0_8, .int .i64 a0_9, .int .i64 a0_10, .int .i64 a0_11, .int .i64 a0_12, .int .i64 a0_13, .int .i64 a0_14, .int .i64 a0_15] 32] = W1 := ⟨_, rfl⟩
 have P1 : BoxN W1 H 32 [.slice A0_0 l0_0.length c0_0, .slice A0_1 l0_1.length c0_1, .slice A0_2 l0_2.length c0_2, .slice A0_3 l0_3.length c0_3, .slice A0_4 l0_4.length c0_4, .slice A0_5 l0_5.length c0_5, .int .i64 a0_6, .int .i64 a0_7, .int .i64 a0_8, .int .i64 a0_9, .int .i64 a0_10, .int .i64 a0_11, .int .i64 a0_12, .int .i64 a0_13, .int .i64 a0_14, .int .i64 a0_15] := by have := al_at hW1 0 _ rfl; rw [hH] at this; exact this
 have HB : Below w.heap.size w W1 := by rw [← hW1]; exact al_below _ w
 simp only [List.foldl_cons, List.foldl_nil] at hW1
 replace hok := Aside0.mk hok
 go_enter Try.func3, Try.ntmps3
 go_upto_region 1 with fail
 (try rw [hW1])
 clear hW1
 replace P1 := Aside0.mk P1
 replace HB := Aside0.mk HB
 go_cut [3, 4, 5] (fun v3 v4 v5 wc => ∃ g3 g4 : Nat, v3 = .pointer (some ⟨g3, 0, none⟩) ∧ v4 = .pointer (some ⟨g4, 0, none⟩) ∧ v5 = .int .i64 a0_15 ∧ Aside0 (BoxN wc (g3) 26 [.slice A0_0 l0_0.length c0_0, .slice A0_1 l0_1.length c0_1, .slice A0_2 l0_2.length c0_2, .slice A0_3 l0_3.length c0_3, .slice A0_4 l0_4.length c0_4, .slice A0_5 l0_5.length c0_5]) ∧ Aside0 (BoxN wc (g4) 28 [.int .i64 a0_6, .int .i64 a0_7, .int .i64 a0_8, .int .i64 a0_9, .int .i64 a0_10, .int .i64 a0_11]) ∧ Aside0 (w.heap.size ≤ g3) ∧ Aside0 (w.heap.size ≤ g4) ∧ Aside0 (g3 ≠ g4) ∧ Aside0 (Below w.heap.size w wc))
 case first =>
  have s0 := P1.out.cell 0 rfl
  have s1 := P1.out.cell 1 rfl
  have s2 := P1.out.cell 2 rfl
  have s3 := P1.out.cell 3 rfl
  have s4 := P1.out.cell 4 rfl
  have s5 := P1.out.cell 5 rfl
  have s6 := P1.out.cell 6 rfl
  have s7 := P1.out.cell 7 rfl
  have s8 := P1.out.cell 8 rfl
  have s9 := P1.out.cell 9 rfl
  have s10 := P1.out.cell 10 rfl
  have s11 := P1.out.cell 11 rfl
  have s12 := P1.out.cell 12 rfl
  have s13 := P1.out.cell 13 rfl
  have s14 := P1.out.cell 14 rfl
  have s15 := P1.out.cell 15 rfl
  refine start_ (n := 11) (S := fun w' => w'.cell? ⟨H, 0, none⟩ = some (.slice A0_0 l0_0.length c0_0) ∧ w'.cell? ⟨H, 1, none⟩ = some (.slice A0_1 l0_1.length c0_1) ∧ w'.cell? ⟨H, 2, none⟩ = some (.slice A0_2 l0_2.length c0_2) ∧ w'.cell? ⟨H, 3, none⟩ = some (.slice A0_3 l0_3.length c0_3) ∧ w'.cell? ⟨H, 4, none⟩ = some (.slice A0_4 l0_4.length c0_4) ∧ w'.cell? ⟨H, 5, none⟩ = some (.slice A0_5 l0_5.length c0_5) ∧ w'.cell? ⟨H, 6, none⟩ = some (.int .i64 a0_6) ∧ w'.cell? ⟨H, 7, none⟩ = some (.int .i64 a0_7) ∧ w'.cell? ⟨H, 8, none⟩ = some (.int .i64 a0_8) ∧ w'.cell? ⟨H, 9, none⟩ = some (.int .i64 a0_9) ∧ w'.cell? ⟨H, 10, none⟩ = some (.int .i64 a0_10) ∧ w'.cell? ⟨H, 11, none⟩ = some (.int .i64 a0_11) ∧ w'.cell? ⟨H, 12, none⟩ = some (.int .i64 a0_12) ∧ w'.cell? ⟨H, 13, none⟩ = some (.int .i64 a0_13) ∧ w'.cell? ⟨H, 14, none⟩ = some (.int .i64 a0_14) ∧ w'.cell? ⟨H, 15, none⟩ = some (.int .i64 a0_15)) (ds := []) qf12b0 (by kernel_rfl) rfl rfl ⟨s0, s1, s2, s3, s4, s5, s6, s7, s8, s9, s10, s11, s12, s13, s14, s15⟩ (fun hHeld => ?_); refine with_tabW forebaylaw10_FitParts.tab1 forebaylaw10_FitParts.bits1 (fun HT_ HW_ => ?_)
  have hb : Below W1.heap.size W1 W1.drew := below_drew (Below.refl _ _)
  replace HB := Aside0.mk (HB.out.trans (hb.mono HB.out.size))
  replace P1 := Aside0.mk (BoxN.below P1.out hb P1.out.lt)
  clear hb
  (try clear s0 s1 s2 s3 s4 s5 s6 s7 s8 s9 s10 s11 s12 s13 s14 s15)
  have s0 := P1.out.cell 0 rfl
  have s1 := P1.out.cell 1 rfl
  have s2 := P1.out.cell 2 rfl
  have s3 := P1.out.cell 3 rfl
  have s4 := P1.out.cell 4 rfl
  have s5 := P1.out.cell 5 rfl
  have s6 := P1.out.cell 6 rfl
  have s7 := P1.out.cell 7 rfl
  have s8 := P1.out.cell 8 rfl
  have s9 := P1.out.cell 9 rfl
  have s10 := P1.out.cell 10 rfl
  have s11 := P1.out.cell 11 rfl
  have s12 := P1.out.cell 12 rfl
  have s13 := P1.out.cell 13 rfl
  have s14 := P1.out.cell 14 rfl
  have s15 := P1.out.cell 15 rfl
  generalize W1.drew = wd1 at *
  refine (fun (tail1 : ∀ (g3 : Nat) (g4 : Nat) (wn : World), Aside0 (Below w.heap.size w wn) → Aside0 (BoxN wn (H) 32 [.slice A0_0 l0_0.length c0_0, .slice A0_1 l0_1.length c0_1, .slice A0_2 l0_2.length c0_2, .slice A0_3 l0_3.length c0_3, .slice A0_4 l0_4.length c0_4, .slice A0_5 l0_5.length c0_5, .int .i64 a0_6, .int .i64 a0_7, .int .i64 a0_8, .int .i64 a0_9, .int .i64 a0_10, .int .i64 a0_11, .int .i64 a0_12, .int .i64 a0_13, .int .i64 a0_14, .int .i64 a0_15]) → Aside0 (w.heap.size ≤ g3) → Aside0 (H ≠ g3) → Aside0 (BoxN wn (g3) 26 [.slice none 0 0, .slice none 0 0, .slice none 0 0, .slice none 0 0, .slice none 0 0, .slice none 0 0]) → Aside0 (w.heap.size ≤ g4) → Aside0 (H ≠ g4) → Aside0 (g3 ≠ g4) → Aside0 (BoxN wn (g4) 28 [.int .i64 0, .int .i64 0, .int .i64 0, .int .i64 0, .int .i64 0, .int .i64 0]) → (?G1 : Nat → Nat → World → Prop) g3 g4 wn) => ?main1) ?tl1
  case main1 =>
   refine pure_ (i := 0) (N := some 12) (v := ?_) (a' := ?_) qf12b1 rfl rfl (any_of HT_.out (by kernel_rfl)) (fun _ _ _ h => h) (Or.inl ⟨by rfl, ?_⟩) ?_ ?_
   rotate_left
   ·
    intro w'
    go_simp
    with_reducible rfl
   rotate_left
   ·
    refine (put_list _ _ _ _).trans ?_
    dsimp only [List.set_cons_zero, List.set_cons_succ]
    rfl
   refine pure_ (i := 2) (N := some 14) (v := ?_) (a' := ?_) qf12b2 rfl rfl (any_of HT_.out (by kernel_rfl)) (fun _ _ _ h => h) (Or.inl ⟨by rfl, ?_⟩) ?_ ?_
   rotate_left
   ·
    intro w'
    go_simp
    with_reducible rfl
   rotate_left
   ·
    refine (put_list _ _ _ _).trans ?_
    dsimp only [List.set_cons_zero, List.set_cons_succ]
    rfl
   refine pure_ (i := 4) (N := some 16) (v := ?_) (a' := ?_) qf12b3 rfl rfl (any_of HT_.out (by kernel_rfl)) (fun _ _ _ h => h) (Or.inl ⟨by rfl, ?_⟩) ?_ ?_
   rotate_left
   ·
    intro w'
    go_simp
    with_reducible rfl
   rotate_left
   ·
    refine (put_list _ _ _ _).trans ?_
    dsimp only [List.set_cons_zero, List.set_cons_succ]
    rfl
   refine take_ (i := 1) (N := some 13) (v := ?_) (a' := ?_) qf12b4 rfl rfl (take_ofW HT_.out HW_.out (by kernel_rfl)) (fun _ _ _ h => h) (Or.inl ⟨by rfl, ?_⟩) hHeld ?_ ?_
   rotate_left
   ·
    rintro w' ⟨s0, s1, s2, s3, s4, s5, s6, s7, s8, s9, s10, s11, s12, s13, s14, s15⟩
    go_simp
    with_reducible rfl
   rotate_left
   ·
    refine (put_list _ _ _ _).trans ?_
    dsimp only [List.set_cons_zero, List.set_cons_succ]
    rfl
   refine take_ (i := 3) (N := some 15) (v := ?_) (a' := ?_) qf12b5 rfl rfl (take_ofW HT_.out HW_.out (by kernel_rfl)) (fun _ _ _ h => h) (Or.inl ⟨by rfl, ?_⟩) hHeld ?_ ?_
   rotate_left
   ·
    rintro w' ⟨s0, s1, s2, s3, s4, s5, s6, s7, s8, s9, s10, s11, s12, s13, s14, s15⟩
    go_simp
    with_reducible rfl
   rotate_left
   ·
    refine (put_list _ _ _ _).trans ?_
    dsimp only [List.set_cons_zero, List.set_cons_succ]
    rfl
   refine take_ (i := 5) (N := some 17) (v := ?_) (a' := ?_) qf12b6 rfl rfl (take_ofW HT_.out HW_.out (by kernel_rfl)) (fun _ _ _ h => h) (Or.inl ⟨by rfl, ?_⟩) hHeld ?_ ?_
   rotate_left
   ·
    rintro w' ⟨s0, s1, s2, s3, s4, s5, s6, s7, s8, s9, s10, s11, s12, s13, s14, s15⟩
    go_simp
    with_reducible rfl
   rotate_left
   ·
    refine (put_list _ _ _ _).trans ?_
    dsimp only [List.set_cons_zero, List.set_cons_succ]
    rfl
   refine two_ (i := 6) (j := 7) (Ni := some 3) (Nj := some 4) qf12b7 qf12b8 rfl rfl rfl rfl (two_of HT_.out (by kernel_rfl)) (by decide) (by decide) (fun K hK => ?_) (fun K hK => ?_)
   ·
    refine box_step ?hg (N := 3) ?hd (cs := #[.slice none 0 0, .slice none 0 0, .slice none 0 0, .slice none 0 0, .slice none 0 0, .slice none 0 0]) (t := 26) ?hr ?_; (case hd => rfl); (case hg => rfl); (case hr => first | (go_simp; done) | (go_simp; rfl))
    intro g3 hg_ wq hbx hb
    have w3 := Aside0.mk (show w.heap.size ≤ g3 from hg_ ▸ HB.out.size)
    have n3 := Aside0.mk (show H ≠ g3 by have := P1.out.lt; omega)
    replace HB := Aside0.mk (HB.out.trans (hb.mono HB.out.size))
    replace P1 := Aside0.mk (BoxN.below P1.out hb P1.out.lt)
    clear hb
    have P3 := Aside0.mk (show BoxN wq g3 26 [.slice none 0 0, .slice none 0 0, .slice none 0 0, .slice none 0 0, .slice none 0 0, .slice none 0 0] from hbx)
    clear hbx hg_
    (try clear s0 s1 s2 s3 s4 s5 s6 s7 s8 s9 s10 s11 s12 s13 s14 s15)
    have s0 := P1.out.cell 0 rfl
    have s1 := P1.out.cell 1 rfl
    have s2 := P1.out.cell 2 rfl
    have s3 := P1.out.cell 3 rfl
    have s4 := P1.out.cell 4 rfl
    have s5 := P1.out.cell 5 rfl
    have s6 := P1.out.cell 6 rfl
    have s7 := P1.out.cell 7 rfl
    have s8 := P1.out.cell 8 rfl
    have s9 := P1.out.cell 9 rfl
    have s10 := P1.out.cell 10 rfl
    have s11 := P1.out.cell 11 rfl
    have s12 := P1.out.cell 12 rfl
    have s13 := P1.out.cell 13 rfl
    have s14 := P1.out.cell 14 rfl
    have s15 := P1.out.cell 15 rfl
    refine hK.out _ _ ⟨s0, s1, s2, s3, s4, s5, s6, s7, s8, s9, s10, s11, s12, s13, s14, s15⟩ (fun hHeld => ?_)
    clear hK K
    refine norm_ (a' := ?_) ?_ ?_
    rotate_left
    ·
     refine (put_list _ _ 3 _).trans ?_
     dsimp only [List.set_cons_zero, List.set_cons_succ]
     (try rfl)
    refine one_ (i := 7) (N := some 4) qf12b9 rfl rfl (one_of HT_.out (by kernel_rfl)) (by decide) (fun K hK => ?_)
    refine box_step ?hg (N := 4) ?hd (cs := #[.int .i64 0, .int .i64 0, .int .i64 0, .int .i64 0, .int .i64 0, .int .i64 0]) (t := 28) ?hr ?_; (case hd => rfl); (case hg => rfl); (case hr => first | (go_simp; done) | (go_simp; rfl))
    intro g4 hg_ wq hbx hb
    have w4 := Aside0.mk (show w.heap.size ≤ g4 from hg_ ▸ HB.out.size)
    have n4 := Aside0.mk (show H ≠ g4 by have := P1.out.lt; omega)
    have d3_4 := Aside0.mk (show g3 ≠ g4 by have := P3.out.lt; omega)
    replace HB := Aside0.mk (HB.out.trans (hb.mono HB.out.size))
    replace P1 := Aside0.mk (BoxN.below P1.out hb P1.out.lt)
    replace P3 := Aside0.mk (BoxN.below P3.out hb P3.out.lt)
    clear hb
    have P4 := Aside0.mk (show BoxN wq g4 28 [.int .i64 0, .int .i64 0, .int .i64 0, .int .i64 0, .int .i64 0, .int .i64 0] from hbx)
    clear hbx hg_
    (try clear s0 s1 s2 s3 s4 s5 s6 s7 s8 s9 s10 s11 s12 s13 s14 s15)
    have s0 := P1.out.cell 0 rfl
    have s1 := P1.out.cell 1 rfl
    have s2 := P1.out.cell 2 rfl
    have s3 := P1.out.cell 3 rfl
    have s4 := P1.out.cell 4 rfl
    have s5 := P1.out.cell 5 rfl
    have s6 := P1.out.cell 6 rfl
    have s7 := P1.out.cell 7 rfl
    have s8 := P1.out.cell 8 rfl
    have s9 := P1.out.cell 9 rfl
    have s10 := P1.out.cell 10 rfl
    have s11 := P1.out.cell 11 rfl
    have s12 := P1.out.cell 12 rfl
    have s13 := P1.out.cell 13 rfl
    have s14 := P1.out.cell 14 rfl
    have s15 := P1.out.cell 15 rfl
    refine hK.out _ _ ⟨s0, s1, s2, s3, s4, s5, s6, s7, s8, s9, s10, s11, s12, s13, s14, s15⟩ (fun hHeld => ?_)
    clear hK K
    refine norm_ (a' := ?_) ?_ ?_
    rotate_left
    ·
     refine (put_list _ _ 4 _).trans ?_
     dsimp only [List.set_cons_zero, List.set_cons_succ]
     (try rfl)
    exact tail1 g3 g4 wq HB P1 w3 n3 P3 w4 n4 d3_4 P4
   ·
    refine box_step ?hg (N := 4) ?hd (cs := #[.int .i64 0, .int .i64 0, .int .i64 0, .int .i64 0, .int .i64 0, .int .i64 0]) (t := 28) ?hr ?_; (case hd => rfl); (case hg => rfl); (case hr => first | (go_simp; done) | (go_simp; rfl))
    intro g4 hg_ wq hbx hb
    have w4 := Aside0.mk (show w.heap.size ≤ g4 from hg_ ▸ HB.out.size)
    have n4 := Aside0.mk (show H ≠ g4 by have := P1.out.lt; omega)
    replace HB := Aside0.mk (HB.out.trans (hb.mono HB.out.size))
    replace P1 := Aside0.mk (BoxN.below P1.out hb P1.out.lt)
    clear hb
    have P4 := Aside0.mk (show BoxN wq g4 28 [.int .i64 0, .int .i64 0, .int .i64 0, .int .i64 0, .int .i64 0, .int .i64 0] from hbx)
    clear hbx hg_
    (try clear s0 s1 s2 s3 s4 s5 s6 s7 s8 s9 s10 s11 s12 s13 s14 s15)
    have s0 := P1.out.cell 0 rfl
    have s1 := P1.out.cell 1 rfl
    have s2 := P1.out.cell 2 rfl
    have s3 := P1.out.cell 3 rfl
    have s4 := P1.out.cell 4 rfl
    have s5 := P1.out.cell 5 rfl
    have s6 := P1.out.cell 6 rfl
    have s7 := P1.out.cell 7 rfl
    have s8 := P1.out.cell 8 rfl
    have s9 := P1.out.cell 9 rfl
    have s10 := P1.out.cell 10 rfl
    have s11 := P1.out.cell 11 rfl
    have s12 := P1.out.cell 12 rfl
    have s13 := P1.out.cell 13 rfl
    have s14 := P1.out.cell 14 rfl
    have s15 := P1.out.cell 15 rfl
    refine hK.out _ _ ⟨s0, s1, s2, s3, s4, s5, s6, s7, s8, s9, s10, s11, s12, s13, s14, s15⟩ (fun hHeld => ?_)
    clear hK K
    refine norm_ (a' := ?_) ?_ ?_
    rotate_left
    ·
     refine (put_list _ _ 4 _).trans ?_
     dsimp only [List.set_cons_zero, List.set_cons_succ]
     (try rfl)
    refine one_ (i := 6) (N := some 3) qf12b9 rfl rfl (one_of HT_.out (by kernel_rfl)) (by decide) (fun K hK => ?_)
    refine box_step ?hg (N := 3) ?hd (cs := #[.slice none 0 0, .slice none 0 0, .slice none 0 0, .slice none 0 0, .slice none 0 0, .slice none 0 0]) (t := 26) ?hr ?_; (case hd => rfl); (case hg => rfl); (case hr => first | (go_simp; done) | (go_simp; rfl))
    intro g3 hg_ wq hbx hb
    have w3 := Aside0.mk (show w.heap.size ≤ g3 from hg_ ▸ HB.out.size)
    have n3 := Aside0.mk (show H ≠ g3 by have := P1.out.lt; omega)
    have d3_4 := Aside0.mk (show g3 ≠ g4 by have := P4.out.lt; omega)
    replace HB := Aside0.mk (HB.out.trans (hb.mono HB.out.size))
    replace P1 := Aside0.mk (BoxN.below P1.out hb P1.out.lt)
    replace P4 := Aside0.mk (BoxN.below P4.out hb P4.out.lt)
    clear hb
    have P3 := Aside0.mk (show BoxN wq g3 26 [.slice none 0 0, .slice none 0 0, .slice none 0 0, .slice none 0 0, .slice none 0 0, .slice none 0 0] from hbx)
    clear hbx hg_
    (try clear s0 s1 s2 s3 s4 s5 s6 s7 s8 s9 s10 s11 s12 s13 s14 s15)
    have s0 := P1.out.cell 0 rfl
    have s1 := P1.out.cell 1 rfl
    have s2 := P1.out.cell 2 rfl
    have s3 := P1.out.cell 3 rfl
    have s4 := P1.out.cell 4 rfl
    have s5 := P1.out.cell 5 rfl
    have s6 := P1.out.cell 6 rfl
    have s7 := P1.out.cell 7 rfl
    have s8 := P1.out.cell 8 rfl
    have s9 := P1.out.cell 9 rfl
    have s10 := P1.out.cell 10 rfl
    have s11 := P1.out.cell 11 rfl
    have s12 := P1.out.cell 12 rfl
    have s13 := P1.out.cell 13 rfl
    have s14 := P1.out.cell 14 rfl
    have s15 := P1.out.cell 15 rfl
    refine hK.out _ _ ⟨s0, s1, s2, s3, s4, s5, s6, s7, s8, s9, s10, s11, s12, s13, s14, s15⟩ (fun hHeld => ?_)
    clear hK K
    refine norm_ (a' := ?_) ?_ ?_
    rotate_left
    ·
     refine (put_list _ _ 3 _).trans ?_
     dsimp only [List.set_cons_zero, List.set_cons_succ]
     (try rfl)
    exact tail1 g3 g4 wq HB P1 w3 n3 P3 w4 n4 d3_4 P4
  case tl1 =>
   (try clear s0 s1 s2 s3 s4 s5 s6 s7 s8 s9 s10 s11 s12 s13 s14 s15)
   clear HB P1
   intro g3 g4 wn HB P1 w3 n3 P3 w4 n4 d3_4 P4
   have s0 := P1.out.cell 0 rfl
   have s1 := P1.out.cell 1 rfl
   have s2 := P1.out.cell 2 rfl
   have s3 := P1.out.cell 3 rfl
   have s4 := P1.out.cell 4 rfl
   have s5 := P1.out.cell 5 rfl
   have s6 := P1.out.cell 6 rfl
   have s7 := P1.out.cell 7 rfl
   have s8 := P1.out.cell 8 rfl
   have s9 := P1.out.cell 9 rfl
   have s10 := P1.out.cell 10 rfl
   have s11 := P1.out.cell 11 rfl
   have s12 := P1.out.cell 12 rfl
   have s13 := P1.out.cell 13 rfl
   have s14 := P1.out.cell 14 rfl
   have s15 := P1.out.cell 15 rfl
   refine one_ (i := 8) (N := none) qf12b10 rfl rfl (one_of HT_.out (by kernel_rfl)) (by decide) (fun K hK => ?_)
   have cx := P3.out.cell
   have fx := P3.out.frozen
   have cx0 := cx 0 rfl
   have cx1 := cx 1 rfl
   have cx2 := cx 2 rfl
   have cx3 := cx 3 rfl
   have cx4 := cx 4 rfl
   have cx5 := cx 5 rfl
   have fx0 := fx 0
   have fx1 := fx 1
   have fx2 := fx 2
   have fx3 := fx 3
   have fx4 := fx 4
   have fx5 := fx 5
   clear cx fx
   refine skip_ (w1 := ?_) (by rfl) rfl ?_ ?_
   rotate_left
   ·
    go_simp
    (try rfl)
   have hk : Keeps (fun k => k ≠ g3) wn ((((((wn.setCell ⟨g3, 0, none⟩ (.slice A0_0 l0_0.length c0_0)).setCell ⟨g3, 1, none⟩ (.slice A0_1 l0_1.length c0_1)).setCell ⟨g3, 2, none⟩ (.slice A0_2 l0_2.length c0_2)).setCell ⟨g3, 3, none⟩ (.slice A0_3 l0_3.length c0_3)).setCell ⟨g3, 4, none⟩ (.slice A0_4 l0_4.length c0_4)).setCell ⟨g3, 5, none⟩ (.slice A0_5 l0_5.length c0_5)) := Keeps.setCell (p := ⟨g3, 5, none⟩) (Keeps.setCell (p := ⟨g3, 4, none⟩) (Keeps.setCell (p := ⟨g3, 3, none⟩) (Keeps.setCell (p := ⟨g3, 2, none⟩) (Keeps.setCell (p := ⟨g3, 1, none⟩) (Keeps.setCell (p := ⟨g3, 0, none⟩) (Keeps.refl (fun k => k ≠ g3) wn) (.slice A0_0 l0_0.length c0_0) (fun h => h.2 rfl)) (.slice A0_1 l0_1.length c0_1) (fun h => h.2 rfl)) (.slice A0_2 l0_2.length c0_2) (fun h => h.2 rfl)) (.slice A0_3 l0_3.length c0_3) (fun h => h.2 rfl)) (.slice A0_4 l0_4.length c0_4) (fun h => h.2 rfl)) (.slice A0_5 l0_5.length c0_5) (fun h => h.2 rfl)
   have hX : BoxN ((((((wn.setCell ⟨g3, 0, none⟩ (.slice A0_0 l0_0.length c0_0)).setCell ⟨g3, 1, none⟩ (.slice A0_1 l0_1.length c0_1)).setCell ⟨g3, 2, none⟩ (.slice A0_2 l0_2.length c0_2)).setCell ⟨g3, 3, none⟩ (.slice A0_3 l0_3.length c0_3)).setCell ⟨g3, 4, none⟩ (.slice A0_4 l0_4.length c0_4)).setCell ⟨g3, 5, none⟩ (.slice A0_5 l0_5.length c0_5)) g3 26 [.slice A0_0 l0_0.length c0_0, .slice A0_1 l0_1.length c0_1, .slice A0_2 l0_2.length c0_2, .slice A0_3 l0_3.length c0_3, .slice A0_4 l0_4.length c0_4, .slice A0_5 l0_5.length c0_5] := ((((((P3.out.set 0 (.slice A0_0 l0_0.length c0_0)).set 1 (.slice A0_1 l0_1.length c0_1)).set 2 (.slice A0_2 l0_2.length c0_2)).set 3 (.slice A0_3 l0_3.length c0_3)).set 4 (.slice A0_4 l0_4.length c0_4)).set 5 (.slice A0_5 l0_5.length c0_5))
   generalize ((((((wn.setCell ⟨g3, 0, none⟩ (.slice A0_0 l0_0.length c0_0)).setCell ⟨g3, 1, none⟩ (.slice A0_1 l0_1.length c0_1)).setCell ⟨g3, 2, none⟩ (.slice A0_2 l0_2.length c0_2)).setCell ⟨g3, 3, none⟩ (.slice A0_3 l0_3.length c0_3)).setCell ⟨g3, 4, none⟩ (.slice A0_4 l0_4.length c0_4)).setCell ⟨g3, 5, none⟩ (.slice A0_5 l0_5.length c0_5)) = Wzg3 at *
   replace P3 := Aside0.mk hX
   replace HB := Aside0.mk (HB.out.trans (hk.below HB.out.size (fun k hk => by have := w3.out; omega)))
   replace P1 := Aside0.mk (hk.boxN P1.out (by have := n3.out; omega))
   replace P4 := Aside0.mk (hk.boxN P4.out (by have := d3_4.out; omega))
   clear hk hX cx0 fx0 cx1 fx1 cx2 fx2 cx3 fx3 cx4 fx4 cx5 fx5
   (try clear s0 s1 s2 s3 s4 s5 s6 s7 s8 s9 s10 s11 s12 s13 s14 s15)
   have s0 := P1.out.cell 0 rfl
   have s1 := P1.out.cell 1 rfl
   have s2 := P1.out.cell 2 rfl
   have s3 := P1.out.cell 3 rfl
   have s4 := P1.out.cell 4 rfl
   have s5 := P1.out.cell 5 rfl
   have s6 := P1.out.cell 6 rfl
   have s7 := P1.out.cell 7 rfl
   have s8 := P1.out.cell 8 rfl
   have s9 := P1.out.cell 9 rfl
   have s10 := P1.out.cell 10 rfl
   have s11 := P1.out.cell 11 rfl
   have s12 := P1.out.cell 12 rfl
   have s13 := P1.out.cell 13 rfl
   have s14 := P1.out.cell 14 rfl
   have s15 := P1.out.cell 15 rfl
   refine hK.out _ _ ⟨s0, s1, s2, s3, s4, s5, s6, s7, s8, s9, s10, s11, s12, s13, s14, s15⟩ (fun hHeld => ?_)
   clear hK K
   refine one_ (i := 9) (N := none) qf12b11 rfl rfl (one_of HT_.out (by kernel_rfl)) (by decide) (fun K hK => ?_)
   have cx := P4.out.cell
   have fx := P4.out.frozen
   have cx0 := cx 0 rfl
   have cx1 := cx 1 rfl
   have cx2 := cx 2 rfl
   have cx3 := cx 3 rfl
   have cx4 := cx 4 rfl
   have cx5 := cx 5 rfl
   have fx0 := fx 0
   have fx1 := fx 1
   have fx2 := fx 2
   have fx3 := fx 3
   have fx4 := fx 4
   have fx5 := fx 5
   clear cx fx
   refine skip_ (w1 := ?_) (by rfl) rfl ?_ ?_
   rotate_left
   ·
    go_simp
    (try rfl)
   have hk : Keeps (fun k => k ≠ g4) Wzg3 ((((((Wzg3.setCell ⟨g4, 0, none⟩ (.int .i64 a0_6)).setCell ⟨g4, 1, none⟩ (.int .i64 a0_7)).setCell ⟨g4, 2, none⟩ (.int .i64 a0_8)).setCell ⟨g4, 3, none⟩ (.int .i64 a0_9)).setCell ⟨g4, 4, none⟩ (.int .i64 a0_10)).setCell ⟨g4, 5, none⟩ (.int .i64 a0_11)) := Keeps.setCell (p := ⟨g4, 5, none⟩) (Keeps.setCell (p := ⟨g4, 4, none⟩) (Keeps.setCell (p := ⟨g4, 3, none⟩) (Keeps.setCell (p := ⟨g4, 2, none⟩) (Keeps.setCell (p := ⟨g4, 1, none⟩) (Keeps.setCell (p := ⟨g4, 0, none⟩) (Keeps.refl (fun k => k ≠ g4) Wzg3) (.int .i64 a0_6) (fun h => h.2 rfl)) (.int .i64 a0_7) (fun h => h.2 rfl)) (.int .i64 a0_8) (fun h => h.2 rfl)) (.int .i64 a0_9) (fun h => h.2 rfl)) (.int .i64 a0_10) (fun h => h.2 rfl)) (.int .i64 a0_11) (fun h => h.2 rfl)
   have hX : BoxN ((((((Wzg3.setCell ⟨g4, 0, none⟩ (.int .i64 a0_6)).setCell ⟨g4, 1, none⟩ (.int .i64 a0_7)).setCell ⟨g4, 2, none⟩ (.int .i64 a0_8)).setCell ⟨g4, 3, none⟩ (.int .i64 a0_9)).setCell ⟨g4, 4, none⟩ (.int .i64 a0_10)).setCell ⟨g4, 5, none⟩ (.int .i64 a0_11)) g4 28 [.int .i64 a0_6, .int .i64 a0_7, .int .i64 a0_8, .int .i64 a0_9, .int .i64 a0_10, .int .i64 a0_11] := ((((((P4.out.set 0 (.int .i64 a0_6)).set 1 (.int .i64 a0_7)).set 2 (.int .i64 a0_8)).set 3 (.int .i64 a0_9)).set 4 (.int .i64 a0_10)).set 5 (.int .i64 a0_11))
   generalize ((((((Wzg3.setCell ⟨g4, 0, none⟩ (.int .i64 a0_6)).setCell ⟨g4, 1, none⟩ (.int .i64 a0_7)).setCell ⟨g4, 2, none⟩ (.int .i64 a0_8)).setCell ⟨g4, 3, none⟩ (.int .i64 a0_9)).setCell ⟨g4, 4, none⟩ (.int .i64 a0_10)).setCell ⟨g4, 5, none⟩ (.int .i64 a0_11)) = Wzg4 at *
   replace P4 := Aside0.mk hX
   replace HB := Aside0.mk (HB.out.trans (hk.below HB.out.size (fun k hk => by have := w4.out; omega)))
   replace P1 := Aside0.mk (hk.boxN P1.out (by have := n4.out; omega))
   replace P3 := Aside0.mk (hk.boxN P3.out (by have := d3_4.out; omega))
   clear hk hX cx0 fx0 cx1 fx1 cx2 fx2 cx3 fx3 cx4 fx4 cx5 fx5
   (try clear s0 s1 s2 s3 s4 s5 s6 s7 s8 s9 s10 s11 s12 s13 s14 s15)
   have s0 := P1.out.cell 0 rfl
   have s1 := P1.out.cell 1 rfl
   have s2 := P1.out.cell 2 rfl
   have s3 := P1.out.cell 3 rfl
   have s4 := P1.out.cell 4 rfl
   have s5 := P1.out.cell 5 rfl
   have s6 := P1.out.cell 6 rfl
   have s7 := P1.out.cell 7 rfl
   have s8 := P1.out.cell 8 rfl
   have s9 := P1.out.cell 9 rfl
   have s10 := P1.out.cell 10 rfl
   have s11 := P1.out.cell 11 rfl
   have s12 := P1.out.cell 12 rfl
   have s13 := P1.out.cell 13 rfl
   have s14 := P1.out.cell 14 rfl
   have s15 := P1.out.cell 15 rfl
   refine hK.out _ _ ⟨s0, s1, s2, s3, s4, s5, s6, s7, s8, s9, s10, s11, s12, s13, s14, s15⟩ (fun hHeld => ?_)
   clear hK K
   refine pure_ (i := 10) (N := some 5) (v := ?_) (a' := ?_) qf12b12 rfl rfl (any_of HT_.out (by kernel_rfl)) (fun _ _ _ h => h) (Or.inl ⟨by rfl, ?_⟩) ?_ ?_
   rotate_left
   ·
    intro w'
    go_simp
    with_reducible rfl
   rotate_left
   ·
    refine (put_list _ _ _ _).trans ?_
    dsimp only [List.set_cons_zero, List.set_cons_succ]
    rfl
   refine done_ (done_of HT_.out (by kernel_rfl)) ?_
   go_wp2
   go_meet
   case rel => exact ⟨g3, g4, by rfl, by rfl, by rfl, P3, P4, w3, w4, d3_4, HB⟩
 case rest =>
  clear P1 HB
  obtain ⟨g3, g4, rfl, rfl, rfl, P3, P4, w3, w4, d3_4, HB⟩ := hcut
  obtain ⟨x0, x1, x2, x3, x4, x5⟩ := BoxN.c6 P3.out
  obtain ⟨y0, y1, y2, y3, y4, y5⟩ := BoxN.c6 P4.out
  have yf0 := P4.out.frozen 0
  have yf1 := P4.out.frozen 1
  have yf2 := P4.out.frozen 2
  have yf3 := P4.out.frozen 3
  have yf4 := P4.out.frozen 4
  have yf5 := P4.out.frozen 5
  cases hok.out with
  | great k h0 hh =>
   replace h0 := Aside0.mk h0
   replace hh := Aside0.mk hh
   clear hok
   go_wp2_with (first
    | (go_at_call 6; (with_reducible refine (forebayref10_Great.calls A0_0 c0_0 l0_0 A0_1 c0_1 l0_1 A0_2 c0_2 l0_2 A0_3 c0_3 l0_3 A0_4 c0_4 l0_4 A0_5 c0_5 l0_5 true _ (Kd.C_below CR0.out HB.out) LR0.out (Kd.C_below CR1.out HB.out) LR1.out (Kd.C_below CR2.out HB.out) LR2.out (Kd.C_below CR3.out HB.out) LR3.out (Kd.C_below CR4.out HB.out) LR4.out (Kd.C_below CR5.out HB.out) LR5.out h0.out).mono ?_); rintro e w1 ⟨rfl, hb⟩; replace HB := Aside0.mk (HB.out.trans (hb.mono HB.out.size)); replace P3 := Aside0.mk (BoxN.below P3.out hb P3.out.lt); replace P4 := Aside0.mk (BoxN.below P4.out hb P4.out.lt); clear hb; clear x0 x1 x2 x3 x4 x5 y0 yf0 y1 yf1 y2 yf2 y3 yf3 y4 yf4 y5 yf5; obtain ⟨x0, x1, x2, x3, x4, x5⟩ := BoxN.c6 P3.out; obtain ⟨y0, y1, y2, y3, y4, y5⟩ := BoxN.c6 P4.out; have yf0 := P4.out.frozen 0; have yf1 := P4.out.frozen 1; have yf2 := P4.out.frozen 2; have yf3 := P4.out.frozen 3; have yf4 := P4.out.frozen 4; have yf5 := P4.out.frozen 5)
    | (go_at_call 7; (with_reducible refine (forebaylaw10_head.calls k true _ hh.out).mono ?_); rintro e w1 ⟨rfl, hb⟩; replace HB := Aside0.mk (HB.out.trans (hb.mono HB.out.size)); clear hb))
   go_ret
   exact ⟨rfl, HB.out⟩
  | arg k S C O t f h0 h1 h2 hh =>
   replace h0 := Aside0.mk h0
   replace h1 := Aside0.mk h1
   replace h2 := Aside0.mk h2
   replace hh := Aside0.mk hh
   clear hok
   go_upto_region 5 with (first
    | (go_at_call 6; (with_reducible refine (forebayref10_Great.calls A0_0 c0_0 l0_0 A0_1 c0_1 l0_1 A0_2 c0_2 l0_2 A0_3 c0_3 l0_3 A0_4 c0_4 l0_4 A0_5 c0_5 l0_5 false _ (Kd.C_below CR0.out HB.out) LR0.out (Kd.C_below CR1.out HB.out) LR1.out (Kd.C_below CR2.out HB.out) LR2.out (Kd.C_below CR3.out HB.out) LR3.out (Kd.C_below CR4.out HB.out) LR4.out (Kd.C_below CR5.out HB.out) LR5.out h0.out).mono ?_); rintro e w1 ⟨rfl, hb⟩; replace HB := Aside0.mk (HB.out.trans (hb.mono HB.out.size)); replace P3 := Aside0.mk (BoxN.below P3.out hb P3.out.lt); replace P4 := Aside0.mk (BoxN.below P4.out hb P4.out.lt); clear hb; clear x0 x1 x2 x3 x4 x5 y0 yf0 y1 yf1 y2 yf2 y3 yf3 y4 yf4 y5 yf5; obtain ⟨x0, x1, x2, x3, x4, x5⟩ := BoxN.c6 P3.out; obtain ⟨y0, y1, y2, y3, y4, y5⟩ := BoxN.c6 P4.out; have yf0 := P4.out.frozen 0; have yf1 := P4.out.frozen 1; have yf2 := P4.out.frozen 2; have yf3 := P4.out.frozen 3; have yf4 := P4.out.frozen 4; have yf5 := P4.out.frozen 5))
   have hk : Keeps (fun k => k ≠ g4) w1 (((w1.setCell ⟨g4, 0, none⟩ (.int .i64 0)).setCell ⟨g4, 2, none⟩ (.int .i64 0)).setCell ⟨g4, 4, none⟩ (.int .i64 0)) := Keeps.setCell (p := ⟨g4, 4, none⟩) (Keeps.setCell (p := ⟨g4, 2, none⟩) (Keeps.setCell (p := ⟨g4, 0, none⟩) (Keeps.refl (fun k => k ≠ g4) w1) _ (fun h => h.2 rfl)) _ (fun h => h.2 rfl)) _ (fun h => h.2 rfl)
   have hX : BoxN (((w1.setCell ⟨g4, 0, none⟩ (.int .i64 0)).setCell ⟨g4, 2, none⟩ (.int .i64 0)).setCell ⟨g4, 4, none⟩ (.int .i64 0)) g4 28 [.int .i64 0, .int .i64 a0_7, .int .i64 0, .int .i64 a0_9, .int .i64 0, .int .i64 a0_11] := ((P4.out.set 0 (.int .i64 0)).set 2 (.int .i64 0)).set 4 (.int .i64 0)
   replace P3 := Aside0.mk (hk.boxN P3.out (by have := d3_4.out; omega))
   replace HB := Aside0.mk (HB.out.trans (hk.below HB.out.size (fun k hk => by have := w4.out; omega)))
   generalize (((w1.setCell ⟨g4, 0, none⟩ (.int .i64 0)).setCell ⟨g4, 2, none⟩ (.int .i64 0)).setCell ⟨g4, 4, none⟩ (.int .i64 0)) = w2 at *
   replace P4 := Aside0.mk hX
   clear hk hX
   clear x0 x1 x2 x3 x4 x5 y0 yf0 y1 yf1 y2 yf2 y3 yf3 y4 yf4 y5 yf5
   obtain ⟨x0, x1, x2, x3, x4, x5⟩ := BoxN.c6 P3.out
   obtain ⟨y0, y1, y2, y3, y4, y5⟩ := BoxN.c6 P4.out
   go_upto_region 6 with (go_at_call 8; (with_reducible refine (fit_Slot.calls k A0_0 c0_0 l0_0 A0_1 c0_1 l0_1 A0_2 c0_2 l0_2 A0_3 c0_3 l0_3 A0_4 c0_4 l0_4 A0_5 c0_5 l0_5 0 a0_7 0 a0_9 0 a0_11 a0_15 S C O 2 _ (Kd.C_below CR0.out HB.out) LR0.out (Kd.C_below CR1.out HB.out) LR1.out (Kd.C_below CR2.out HB.out) LR2.out (Kd.C_below CR3.out HB.out) LR3.out (Kd.C_below CR4.out HB.out) LR4.out (Kd.C_below CR5.out HB.out) LR5.out h1.out).mono ?_); rintro e w1 ⟨rfl, hb⟩; replace HB := Aside0.mk (HB.out.trans (hb.mono HB.out.size)); replace P3 := Aside0.mk (BoxN.below P3.out hb P3.out.lt); replace P4 := Aside0.mk (BoxN.below P4.out hb P4.out.lt); clear hb; clear x0 y0 x1 y1 x2 y2 x3 y3 x4 y4 x5 y5; obtain ⟨x0, x1, x2, x3, x4, x5⟩ := BoxN.c6 P3.out; obtain ⟨y0, y1, y2, y3, y4, y5⟩ := BoxN.c6 P4.out)
   have hb := (Below.refl w1.heap.size w1).alloc (Nat.le_refl _) (Obj.cells #[.int .i64 S, .int .i64 C, .int .i64 O] 30)
   obtain ⟨g6, hg6⟩ : ∃ g6, w1.heap.size = g6 := ⟨_, rfl⟩
   have P6 : BoxN (w1.alloc (Obj.cells #[.int .i64 S, .int .i64 C, .int .i64 O] 30)) g6 30 [.int .i64 S, .int .i64 C, .int .i64 O] := by rw [← hg6]; exact BoxN.new w1 30 [.int .i64 S, .int .i64 C, .int .i64 O]
   replace P6 := Aside0.mk P6
   replace HB := Aside0.mk (HB.out.trans (hb.mono HB.out.size))
   replace P3 := Aside0.mk (BoxN.below P3.out hb P3.out.lt)
   replace P4 := Aside0.mk (BoxN.below P4.out hb P4.out.lt)
   clear hb
   rw [hg6]
   clear hg6
   generalize w1.alloc (Obj.cells #[.int .i64 S, .int .i64 C, .int .i64 O] 30) = Wg6 at *
   clear x0 y0 x1 y1 x2 y2 x3 y3 x4 y4 x5 y5
   obtain ⟨x0, x1, x2, x3, x4, x5⟩ := BoxN.c6 P3.out
   obtain ⟨y0, y1, y2, y3, y4, y5⟩ := BoxN.c6 P4.out
   obtain ⟨z0, z1, z2⟩ := BoxN.c3 P6.out
   go_wp2_with (first
    | (go_at_call 9; (with_reducible refine (fit_First.calls k A0_0 c0_0 l0_0 A0_1 c0_1 l0_1 a0_15 a0_7 a0_9 t f _ (Kd.C_below CR0.out HB.out) LR0.out (Kd.C_below CR1.out HB.out) LR1.out h2.out).mono ?_); rintro e w1 ⟨rfl, hb⟩; replace HB := Aside0.mk (HB.out.trans (hb.mono HB.out.size)); replace P3 := Aside0.mk (BoxN.below P3.out hb P3.out.lt); replace P4 := Aside0.mk (BoxN.below P4.out hb P4.out.lt); replace P6 := Aside0.mk (BoxN.below P6.out hb P6.out.lt); clear hb; clear x0 y0 x1 y1 x2 y2 x3 y3 x4 y4 x5 y5 z0 z1 z2; obtain ⟨x0, x1, x2, x3, x4, x5⟩ := BoxN.c6 P3.out; obtain ⟨y0, y1, y2, y3, y4, y5⟩ := BoxN.c6 P4.out; obtain ⟨z0, z1, z2⟩ := BoxN.c3 P6.out)
    | (go_at_call 7; (with_reducible refine (forebaylaw10_head.calls k true _ hh.out).mono ?_); rintro e w1 ⟨rfl, hb⟩; replace HB := Aside0.mk (HB.out.trans (hb.mono HB.out.size)); replace P3 := Aside0.mk (BoxN.below P3.out hb P3.out.lt); replace P4 := Aside0.mk (BoxN.below P4.out hb P4.out.lt); replace P6 := Aside0.mk (BoxN.below P6.out hb P6.out.lt); clear hb; clear x0 y0 x1 y1 x2 y2 x3 y3 x4 y4 x5 y5 z0 z1 z2; obtain ⟨x0, x1, x2, x3, x4, x5⟩ := BoxN.c6 P3.out; obtain ⟨y0, y1, y2, y3, y4, y5⟩ := BoxN.c6 P4.out; obtain ⟨z0, z1, z2⟩ := BoxN.c3 P6.out))
   go_ret
   exact ⟨rfl, HB.out⟩
  | bad k S C O t f h0 h1 h2 hf hh =>
   replace h0 := Aside0.mk h0
   replace h1 := Aside0.mk h1
   replace h2 := Aside0.mk h2
   replace hh := Aside0.mk hh
   clear hok
   go_upto_region 5 with (first
    | (go_at_call 6; (with_reducible refine (forebayref10_Great.calls A0_0 c0_0 l0_0 A0_1 c0_1 l0_1 A0_2 c0_2 l0_2 A0_3 c0_3 l0_3 A0_4 c0_4 l0_4 A0_5 c0_5 l0_5 false _ (Kd.C_below CR0.out HB.out) LR0.out (Kd.C_below CR1.out HB.out) LR1.out (Kd.C_below CR2.out HB.out) LR2.out (Kd.C_below CR3.out HB.out) LR3.out (Kd.C_below CR4.out HB.out) LR4.out (Kd.C_below CR5.out HB.out) LR5.out h0.out).mono ?_); rintro e w1 ⟨rfl, hb⟩; replace HB := Aside0.mk (HB.out.trans (hb.mono HB.out.size)); replace P3 := Aside0.mk (BoxN.below P3.out hb P3.out.lt); replace P4 := Aside0.mk (BoxN.below P4.out hb P4.out.lt); clear hb; clear x0 x1 x2 x3 x4 x5 y0 yf0 y1 yf1 y2 yf2 y3 yf3 y4 yf4 y5 yf5; obtain ⟨x0, x1, x2, x3, x4, x5⟩ := BoxN.c6 P3.out; obtain ⟨y0, y1, y2, y3, y4, y5⟩ := BoxN.c6 P4.out; have yf0 := P4.out.frozen 0; have yf1 := P4.out.frozen 1; have yf2 := P4.out.frozen 2; have yf3 := P4.out.frozen 3; have yf4 := P4.out.frozen 4; have yf5 := P4.out.frozen 5))
   have hk : Keeps (fun k => k ≠ g4) w1 (((w1.setCell ⟨g4, 0, none⟩ (.int .i64 0)).setCell ⟨g4, 2, none⟩ (.int .i64 0)).setCell ⟨g4, 4, none⟩ (.int .i64 0)) := Keeps.setCell (p := ⟨g4, 4, none⟩) (Keeps.setCell (p := ⟨g4, 2, none⟩) (Keeps.setCell (p := ⟨g4, 0, none⟩) (Keeps.refl (fun k => k ≠ g4) w1) _ (fun h => h.2 rfl)) _ (fun h => h.2 rfl)) _ (fun h => h.2 rfl)
   have hX : BoxN (((w1.setCell ⟨g4, 0, none⟩ (.int .i64 0)).setCell ⟨g4, 2, none⟩ (.int .i64 0)).setCell ⟨g4, 4, none⟩ (.int .i64 0)) g4 28 [.int .i64 0, .int .i64 a0_7, .int .i64 0, .int .i64 a0_9, .int .i64 0, .int .i64 a0_11] := ((P4.out.set 0 (.int .i64 0)).set 2 (.int .i64 0)).set 4 (.int .i64 0)
   replace P3 := Aside0.mk (hk.boxN P3.out (by have := d3_4.out; omega))
   replace HB := Aside0.mk (HB.out.trans (hk.below HB.out.size (fun k hk => by have := w4.out; omega)))
   generalize (((w1.setCell ⟨g4, 0, none⟩ (.int .i64 0)).setCell ⟨g4, 2, none⟩ (.int .i64 0)).setCell ⟨g4, 4, none⟩ (.int .i64 0)) = w2 at *
   replace P4 := Aside0.mk hX
   clear hk hX
   clear x0 x1 x2 x3 x4 x5 y0 yf0 y1 yf1 y2 yf2 y3 yf3 y4 yf4 y5 yf5
   obtain ⟨x0, x1, x2, x3, x4, x5⟩ := BoxN.c6 P3.out
   obtain ⟨y0, y1, y2, y3, y4, y5⟩ := BoxN.c6 P4.out
   go_upto_region 6 with (go_at_call 8; (with_reducible refine (fit_Slot.calls k A0_0 c0_0 l0_0 A0_1 c0_1 l0_1 A0_2 c0_2 l0_2 A0_3 c0_3 l0_3 A0_4 c0_4 l0_4 A0_5 c0_5 l0_5 0 a0_7 0 a0_9 0 a0_11 a0_15 S C O 7 _ (Kd.C_below CR0.out HB.out) LR0.out (Kd.C_below CR1.out HB.out) LR1.out (Kd.C_below CR2.out HB.out) LR2.out (Kd.C_below CR3.out HB.out) LR3.out (Kd.C_below CR4.out HB.out) LR4.out (Kd.C_below CR5.out HB.out) LR5.out h1.out).mono ?_); rintro e w1 ⟨rfl, hb⟩; replace HB := Aside0.mk (HB.out.trans (hb.mono HB.out.size)); replace P3 := Aside0.mk (BoxN.below P3.out hb P3.out.lt); replace P4 := Aside0.mk (BoxN.below P4.out hb P4.out.lt); clear hb; clear x0 y0 x1 y1 x2 y2 x3 y3 x4 y4 x5 y5; obtain ⟨x0, x1, x2, x3, x4, x5⟩ := BoxN.c6 P3.out; obtain ⟨y0, y1, y2, y3, y4, y5⟩ := BoxN.c6 P4.out)
   have hb := (Below.refl w1.heap.size w1).alloc (Nat.le_refl _) (Obj.cells #[.int .i64 S, .int .i64 C, .int .i64 O] 30)
   obtain ⟨g6, hg6⟩ : ∃ g6, w1.heap.size = g6 := ⟨_, rfl⟩
   have P6 : BoxN (w1.alloc (Obj.cells #[.int .i64 S, .int .i64 C, .int .i64 O] 30)) g6 30 [.int .i64 S, .int .i64 C, .int .i64 O] := by rw [← hg6]; exact BoxN.new w1 30 [.int .i64 S, .int .i64 C, .int .i64 O]
   replace P6 := Aside0.mk P6
   replace HB := Aside0.mk (HB.out.trans (hb.mono HB.out.size))
   replace P3 := Aside0.mk (BoxN.below P3.out hb P3.out.lt)
   replace P4 := Aside0.mk (BoxN.below P4.out hb P4.out.lt)
   clear hb
   rw [hg6]
   clear hg6
   generalize w1.alloc (Obj.cells #[.int .i64 S, .int .i64 C, .int .i64 O] 30) = Wg6 at *
   clear x0 y0 x1 y1 x2 y2 x3 y3 x4 y4 x5 y5
   obtain ⟨x0, x1, x2, x3, x4, x5⟩ := BoxN.c6 P3.out
   obtain ⟨y0, y1, y2, y3, y4, y5⟩ := BoxN.c6 P4.out
   obtain ⟨z0, z1, z2⟩ := BoxN.c3 P6.out
   go_wp2_with (first
    | (go_at_call 9; (with_reducible refine (fit_First.calls k A0_0 c0_0 l0_0 A0_1 c0_1 l0_1 a0_15 a0_7 a0_9 t f _ (Kd.C_below CR0.out HB.out) LR0.out (Kd.C_below CR1.out HB.out) LR1.out h2.out).mono ?_); rintro e w1 ⟨rfl, hb⟩; replace HB := Aside0.mk (HB.out.trans (hb.mono HB.out.size)); replace P3 := Aside0.mk (BoxN.below P3.out hb P3.out.lt); replace P4 := Aside0.mk (BoxN.below P4.out hb P4.out.lt); replace P6 := Aside0.mk (BoxN.below P6.out hb P6.out.lt); clear hb; clear x0 y0 x1 y1 x2 y2 x3 y3 x4 y4 x5 y5 z0 z1 z2; obtain ⟨x0, x1, x2, x3, x4, x5⟩ := BoxN.c6 P3.out; obtain ⟨y0, y1, y2, y3, y4, y5⟩ := BoxN.c6 P4.out; obtain ⟨z0, z1, z2⟩ := BoxN.c3 P6.out)
    | (go_at_call 7; (with_reducible refine (forebaylaw10_head.calls k true _ hh.out).mono ?_); rintro e w1 ⟨rfl, hb⟩; replace HB := Aside0.mk (HB.out.trans (hb.mono HB.out.size)); replace P3 := Aside0.mk (BoxN.below P3.out hb P3.out.lt); replace P4 := Aside0.mk (BoxN.below P4.out hb P4.out.lt); replace P6 := Aside0.mk (BoxN.below P6.out hb P6.out.lt); clear hb; clear x0 y0 x1 y1 x2 y2 x3 y3 x4 y4 x5 y5 z0 z1 z2; obtain ⟨x0, x1, x2, x3, x4, x5⟩ := BoxN.c6 P3.out; obtain ⟨y0, y1, y2, y3, y4, y5⟩ := BoxN.c6 P4.out; obtain ⟨z0, z1, z2⟩ := BoxN.c3 P6.out))
   go_ret
   exact ⟨rfl, HB.out⟩
  | good k t h0 h1 h2 b1 b2 b3 b4 hf h3 hh =>
   replace h0 := Aside0.mk h0
   replace h1 := Aside0.mk h1
   replace h2 := Aside0.mk h2
   replace h3 := Aside0.mk h3
   replace hh := Aside0.mk hh
   clear hok
   go_upto_region 5 with (first
    | (go_at_call 6; (with_reducible refine (forebayref10_Great.calls A0_0 c0_0 l0_0 A0_1 c0_1 l0_1 A0_2 c0_2 l0_2 A0_3 c0_3 l0_3 A0_4 c0_4 l0_4 A0_5 c0_5 l0_5 false _ (Kd.C_below CR0.out HB.out) LR0.out (Kd.C_below CR1.out HB.out) LR1.out (Kd.C_below CR2.out HB.out) LR2.out (Kd.C_below CR3.out HB.out) LR3.out (Kd.C_below CR4.out HB.out) LR4.out (Kd.C_below CR5.out HB.out) LR5.out h0.out).mono ?_); rintro e w1 ⟨rfl, hb⟩; replace HB := Aside0.mk (HB.out.trans (hb.mono HB.out.size)); replace P3 := Aside0.mk (BoxN.below P3.out hb P3.out.lt); replace P4 := Aside0.mk (BoxN.below P4.out hb P4.out.lt); clear hb; clear x0 x1 x2 x3 x4 x5 y0 yf0 y1 yf1 y2 yf2 y3 yf3 y4 yf4 y5 yf5; obtain ⟨x0, x1, x2, x3, x4, x5⟩ := BoxN.c6 P3.out; obtain ⟨y0, y1, y2, y3, y4, y5⟩ := BoxN.c6 P4.out; have yf0 := P4.out.frozen 0; have yf1 := P4.out.frozen 1; have yf2 := P4.out.frozen 2; have yf3 := P4.out.frozen 3; have yf4 := P4.out.frozen 4; have yf5 := P4.out.frozen 5))
   have hk : Keeps (fun k => k ≠ g4) w1 (((w1.setCell ⟨g4, 0, none⟩ (.int .i64 0)).setCell ⟨g4, 2, none⟩ (.int .i64 0)).setCell ⟨g4, 4, none⟩ (.int .i64 0)) := Keeps.setCell (p := ⟨g4, 4, none⟩) (Keeps.setCell (p := ⟨g4, 2, none⟩) (Keeps.setCell (p := ⟨g4, 0, none⟩) (Keeps.refl (fun k => k ≠ g4) w1) _ (fun h => h.2 rfl)) _ (fun h => h.2 rfl)) _ (fun h => h.2 rfl)
   have hX : BoxN (((w1.setCell ⟨g4, 0, none⟩ (.int .i64 0)).setCell ⟨g4, 2, none⟩ (.int .i64 0)).setCell ⟨g4, 4, none⟩ (.int .i64 0)) g4 28 [.int .i64 0, .int .i64 a0_7, .int .i64 0, .int .i64 a0_9, .int .i64 0, .int .i64 a0_11] := ((P4.out.set 0 (.int .i64 0)).set 2 (.int .i64 0)).set 4 (.int .i64 0)
   replace P3 := Aside0.mk (hk.boxN P3.out (by have := d3_4.out; omega))
   replace HB := Aside0.mk (HB.out.trans (hk.below HB.out.size (fun k hk => by have := w4.out; omega)))
   generalize (((w1.setCell ⟨g4, 0, none⟩ (.int .i64 0)).setCell ⟨g4, 2, none⟩ (.int .i64 0)).setCell ⟨g4, 4, none⟩ (.int .i64 0)) = w2 at *
   replace P4 := Aside0.mk hX
   clear hk hX
   clear x0 x1 x2 x3 x4 x5 y0 yf0 y1 yf1 y2 yf2 y3 yf3 y4 yf4 y5 yf5
   obtain ⟨x0, x1, x2, x3, x4, x5⟩ := BoxN.c6 P3.out
   obtain ⟨y0, y1, y2, y3, y4, y5⟩ := BoxN.c6 P4.out
   go_upto_region 6 with (go_at_call 8; (with_reducible refine (fit_Slot.calls k A0_0 c0_0 l0_0 A0_1 c0_1 l0_1 A0_2 c0_2 l0_2 A0_3 c0_3 l0_3 A0_4 c0_4 l0_4 A0_5 c0_5 l0_5 0 a0_7 0 a0_9 0 a0_11 a0_15 a0_15 t (t + a0_7) 0 _ (Kd.C_below CR0.out HB.out) LR0.out (Kd.C_below CR1.out HB.out) LR1.out (Kd.C_below CR2.out HB.out) LR2.out (Kd.C_below CR3.out HB.out) LR3.out (Kd.C_below CR4.out HB.out) LR4.out (Kd.C_below CR5.out HB.out) LR5.out h1.out).mono ?_); rintro e w1 ⟨rfl, hb⟩; replace HB := Aside0.mk (HB.out.trans (hb.mono HB.out.size)); replace P3 := Aside0.mk (BoxN.below P3.out hb P3.out.lt); replace P4 := Aside0.mk (BoxN.below P4.out hb P4.out.lt); clear hb; clear x0 y0 x1 y1 x2 y2 x3 y3 x4 y4 x5 y5; obtain ⟨x0, x1, x2, x3, x4, x5⟩ := BoxN.c6 P3.out; obtain ⟨y0, y1, y2, y3, y4, y5⟩ := BoxN.c6 P4.out)
   have hb := (Below.refl w1.heap.size w1).alloc (Nat.le_refl _) (Obj.cells #[.int .i64 a0_15, .int .i64 t, .int .i64 (t + a0_7)] 30)
   obtain ⟨g6, hg6⟩ : ∃ g6, w1.heap.size = g6 := ⟨_, rfl⟩
   have P6 : BoxN (w1.alloc (Obj.cells #[.int .i64 a0_15, .int .i64 t, .int .i64 (t + a0_7)] 30)) g6 30 [.int .i64 a0_15, .int .i64 t, .int .i64 (t + a0_7)] := by rw [← hg6]; exact BoxN.new w1 30 [.int .i64 a0_15, .int .i64 t, .int .i64 (t + a0_7)]
   replace P6 := Aside0.mk P6
   replace HB := Aside0.mk (HB.out.trans (hb.mono HB.out.size))
   replace P3 := Aside0.mk (BoxN.below P3.out hb P3.out.lt)
   replace P4 := Aside0.mk (BoxN.below P4.out hb P4.out.lt)
   clear hb
   rw [hg6]
   clear hg6
   generalize w1.alloc (Obj.cells #[.int .i64 a0_15, .int .i64 t, .int .i64 (t + a0_7)] 30) = Wg6 at *
   clear x0 y0 x1 y1 x2 y2 x3 y3 x4 y4 x5 y5
   obtain ⟨x0, x1, x2, x3, x4, x5⟩ := BoxN.c6 P3.out
   obtain ⟨y0, y1, y2, y3, y4, y5⟩ := BoxN.c6 P4.out
   obtain ⟨z0, z1, z2⟩ := BoxN.c3 P6.out
   go_upto_region 12 with (first
    | (go_at_call 9; (with_reducible refine (fit_First.calls k A0_0 c0_0 l0_0 A0_1 c0_1 l0_1 a0_15 a0_7 a0_9 t 0 _ (Kd.C_below CR0.out HB.out) LR0.out (Kd.C_below CR1.out HB.out) LR1.out h2.out).mono ?_); rintro e w1 ⟨rfl, hb⟩; replace HB := Aside0.mk (HB.out.trans (hb.mono HB.out.size)); replace P3 := Aside0.mk (BoxN.below P3.out hb P3.out.lt); replace P4 := Aside0.mk (BoxN.below P4.out hb P4.out.lt); replace P6 := Aside0.mk (BoxN.below P6.out hb P6.out.lt); clear hb; clear x0 y0 x1 y1 x2 y2 x3 y3 x4 y4 x5 y5 z0 z1 z2; obtain ⟨x0, x1, x2, x3, x4, x5⟩ := BoxN.c6 P3.out; obtain ⟨y0, y1, y2, y3, y4, y5⟩ := BoxN.c6 P4.out; obtain ⟨z0, z1, z2⟩ := BoxN.c3 P6.out)
    | (go_at_call 8; (with_reducible refine (fit_Slot.calls k A0_0 c0_0 l0_0 A0_1 c0_1 l0_1 A0_2 c0_2 l0_2 A0_3 c0_3 l0_3 A0_4 c0_4 l0_4 A0_5 c0_5 l0_5 0 0 0 0 0 0 a0_15 a0_15 a0_15 a0_15 0 _ (Kd.C_below CR0.out HB.out) LR0.out (Kd.C_below CR1.out HB.out) LR1.out (Kd.C_below CR2.out HB.out) LR2.out (Kd.C_below CR3.out HB.out) LR3.out (Kd.C_below CR4.out HB.out) LR4.out (Kd.C_below CR5.out HB.out) LR5.out h3.out).mono ?_); rintro e w1 ⟨rfl, hb⟩; replace HB := Aside0.mk (HB.out.trans (hb.mono HB.out.size)); replace P3 := Aside0.mk (BoxN.below P3.out hb P3.out.lt); replace P4 := Aside0.mk (BoxN.below P4.out hb P4.out.lt); replace P6 := Aside0.mk (BoxN.below P6.out hb P6.out.lt); clear hb; clear x0 y0 x1 y1 x2 y2 x3 y3 x4 y4 x5 y5 z0 z1 z2; obtain ⟨x0, x1, x2, x3, x4, x5⟩ := BoxN.c6 P3.out; obtain ⟨y0, y1, y2, y3, y4, y5⟩ := BoxN.c6 P4.out; obtain ⟨z0, z1, z2⟩ := BoxN.c3 P6.out))
   have hb := (Below.refl w1.heap.size w1).alloc (Nat.le_refl _) (Obj.cells #[.int .i64 a0_15, .int .i64 a0_15, .int .i64 a0_15] 30)
   obtain ⟨g10, hg10⟩ : ∃ g10, w1.heap.size = g10 := ⟨_, rfl⟩
   have P10 : BoxN (w1.alloc (Obj.cells #[.int .i64 a0_15, .int .i64 a0_15, .int .i64 a0_15] 30)) g10 30 [.int .i64 a0_15, .int .i64 a0_15, .int .i64 a0_15] := by rw [← hg10]; exact BoxN.new w1 30 [.int .i64 a0_15, .int .i64 a0_15, .int .i64 a0_15]
   replace P10 := Aside0.mk P10
   replace HB := Aside0.mk (HB.out.trans (hb.mono HB.out.size))
   replace P3 := Aside0.mk (BoxN.below P3.out hb P3.out.lt)
   replace P4 := Aside0.mk (BoxN.below P4.out hb P4.out.lt)
   replace P6 := Aside0.mk (BoxN.below P6.out hb P6.out.lt)
   clear hb
   rw [hg10]
   clear hg10
   generalize w1.alloc (Obj.cells #[.int .i64 a0_15, .int .i64 a0_15, .int .i64 a0_15] 30) = Wg10 at *
   clear x0 y0 x1 y1 x2 y2 x3 y3 x4 y4 x5 y5 z0 z1 z2
   obtain ⟨x0, x1, x2, x3, x4, x5⟩ := BoxN.c6 P3.out
   obtain ⟨y0, y1, y2, y3, y4, y5⟩ := BoxN.c6 P4.out
   obtain ⟨z0, z1, z2⟩ := BoxN.c3 P6.out
   obtain ⟨u0, u1, u2⟩ := BoxN.c3 P10.out
   go_wp2_with (first
    | (go_at_call 7; (with_reducible refine (forebaylaw10_head.calls k true _ hh.out).mono ?_); rintro e w1 ⟨rfl, hb⟩; replace HB := Aside0.mk (HB.out.trans (hb.mono HB.out.size)); replace P3 := Aside0.mk (BoxN.below P3.out hb P3.out.lt); replace P4 := Aside0.mk (BoxN.below P4.out hb P4.out.lt); replace P6 := Aside0.mk (BoxN.below P6.out hb P6.out.lt); replace P10 := Aside0.mk (BoxN.below P10.out hb P10.out.lt); clear hb; clear x0 y0 x1 y1 x2 y2 x3 y3 x4 y4 x5 y5 z0 z1 z2 u0 u1 u2; obtain ⟨x0, x1, x2, x3, x4, x5⟩ := BoxN.c6 P3.out; obtain ⟨y0, y1, y2, y3, y4, y5⟩ := BoxN.c6 P4.out; obtain ⟨z0, z1, z2⟩ := BoxN.c3 P6.out; obtain ⟨u0, u1, u2⟩ := BoxN.c3 P10.out))
   go_ret
   exact ⟨rfl, HB.out⟩
def inv24 (x : S24) : Prop := (fun l : List Int => l.length * 8 ≤ 140737488351232 ∧ l.length ≤ maxLen ∧ ∀ x ∈ l, (fun n : Int => (Lit.int .i64 n).wf = true) x) x.f0 ∧ (fun l : List Int => l.length * 8 ≤ 140737488351232 ∧ l.length ≤ maxLen ∧ ∀ x ∈ l, (fun n : Int => (Lit.int .i64 n).wf = true) x) x.f1
theorem opn24 : Opn Try.prog 24 k24 inv24 := opn_struct (fun x : S24 => (x.f0, x.f1)) (fun p => (⟨p.1, p.2⟩ : S24)) (fun _ => rfl) Try.underlying24 (by kernel_rfl) (fl := [(22, 0), (22, 1)]) (by rfl) (opnL_cons (opn_slice Try.underlying22 (by kernel_rfl) (by kernel_rfl) (opn_int Try.underlying2 (by kernel_rfl))) rfl (opnL_one (opn_slice Try.underlying22 (by kernel_rfl) (by kernel_rfl) (opn_int Try.underlying2 (by kernel_rfl)))))
def inv26 (x : S26) : Prop := inv24 x.f0 ∧ inv24 x.f1 ∧ inv24 x.f2
theorem opn26 : Opn Try.prog 26 k26 inv26 := opn_struct (fun x : S26 => (x.f0, x.f1, x.f2)) (fun p => (⟨p.1, p.2.1, p.2.2⟩ : S26)) (fun _ => rfl) Try.underlying26 (by kernel_rfl) (fl := [(24, 0), (24, 2), (24, 4)]) (by rfl) (opnL_cons opn24 rfl (opnL_cons opn24 rfl (opnL_one opn24)))
def inv28 (x : S28) : Prop := (fun n : Int => (Lit.int .i64 n).wf = true) x.f0 ∧ (fun n : Int => (Lit.int .i64 n).wf = true) x.f1 ∧ (fun n : Int => (Lit.int .i64 n).wf = true) x.f2 ∧ (fun n : Int => (Lit.int .i64 n).wf = true) x.f3 ∧ (fun n : Int => (Lit.int .i64 n).wf = true) x.f4 ∧ (fun n : Int => (Lit.int .i64 n).wf = true) x.f5
theorem opn28 : Opn Try.prog 28 k28 inv28 := opn_struct (fun x : S28 => (x.f0, x.f1, x.f2, x.f3, x.f4, x.f5)) (fun p => (⟨p.1, p.2.1, p.2.2.1, p.2.2.2.1, p.2.2.2.2.1, p.2.2.2.2.2⟩ : S28)) (fun _ => rfl) Try.underlying28 (by kernel_rfl) (fl := [(2, 0), (2, 1), (2, 2), (2, 3), (2, 4), (2, 5)]) (by rfl) (opnL_cons (opn_int Try.underlying2 (by kernel_rfl)) rfl (opnL_cons (opn_int Try.underlying2 (by kernel_rfl)) rfl (opnL_cons (opn_int Try.underlying2 (by kernel_rfl)) rfl (opnL_cons (opn_int Try.underlying2 (by kernel_rfl)) rfl (opnL_cons (opn_int Try.underlying2 (by kernel_rfl)) rfl (opnL_one (opn_int Try.underlying2 (by kernel_rfl))))))))
def inv30 (x : S30) : Prop := (fun n : Int => (Lit.int .i64 n).wf = true) x.f0 ∧ (fun n : Int => (Lit.int .i64 n).wf = true) x.f1 ∧ (fun n : Int => (Lit.int .i64 n).wf = true) x.f2
theorem opn30 : Opn Try.prog 30 k30 inv30 := opn_struct (fun x : S30 => (x.f0, x.f1, x.f2)) (fun p => (⟨p.1, p.2.1, p.2.2⟩ : S30)) (fun _ => rfl) Try.underlying30 (by kernel_rfl) (fl := [(2, 0), (2, 1), (2, 2)]) (by rfl) (opnL_cons (opn_int Try.underlying2 (by kernel_rfl)) rfl (opnL_cons (opn_int Try.underlying2 (by kernel_rfl)) rfl (opnL_one (opn_int Try.underlying2 (by kernel_rfl)))))
def inv32 (x : S32) : Prop := inv26 x.f0 ∧ inv28 x.f1 ∧ inv30 x.f2 ∧ (fun n : Int => (Lit.int .i64 n).wf = true) x.f3
theorem opn32 : Opn Try.prog 32 k32 inv32 := opn_struct (fun x : S32 => (x.f0, x.f1, x.f2, x.f3)) (fun p => (⟨p.1, p.2.1, p.2.2.1, p.2.2.2⟩ : S32)) (fun _ => rfl) Try.underlying32 (by kernel_rfl) (fl := [(26, 0), (28, 6), (30, 12), (2, 15)]) (by rfl) (opnL_cons opn26 rfl (opnL_cons opn28 rfl (opnL_cons opn30 rfl (opnL_one (opn_int Try.underlying2 (by kernel_rfl))))))

/-- THE ONE PURE STATEMENT of forebaylaw10_FitParts: yours. -/
def forebaylaw10_FitParts.Pure : Prop := ∀ (l0_0 : List Int) (l0_1 : List Int) (l0_2 : List Int) (l0_3 : List Int) (l0_4 : List Int) (l0_5 : List Int) (a0_6 : Int) (a0_7 : Int) (a0_8 : Int) (a0_9 : Int) (a0_10 : Int) (a0_11 : Int) (a0_12 : Int) (a0_13 : Int) (a0_14 : Int) (a0_15 : Int), inv32 ⟨(⟨(⟨l0_0, l0_1⟩ : S24), (⟨l0_2, l0_3⟩ : S24), (⟨l0_4, l0_5⟩ : S24)⟩ : S26), (⟨a0_6, a0_7, a0_8, a0_9, a0_10, a0_11⟩ : S28), (⟨a0_12, a0_13, a0_14⟩ : S30), a0_15⟩ → forebaylaw10_FitParts.f l0_0 l0_1 l0_2 l0_3 l0_4 l0_5 a0_6 a0_7 a0_8 a0_9 a0_10 a0_11 a0_12 a0_13 a0_14 a0_15 = some true
theorem forebaylaw10_FitParts.walk (P : forebaylaw10_FitParts.Pure) (A0_0 : Option Addr) (c0_0 : Nat) (l0_0 : List Int) (A0_1 : Option Addr) (c0_1 : Nat) (l0_1 : List Int) (A0_2 : Option Addr) (c0_2 : Nat) (l0_2 : List Int) (A0_3 : Option Addr) (c0_3 : Nat) (l0_3 : List Int) (A0_4 : Option Addr) (c0_4 : Nat) (l0_4 : List Int) (A0_5 : Option Addr) (c0_5 : Nat) (l0_5 : List Int) (a0_6 : Int) (a0_7 : Int) (a0_8 : Int) (a0_9 : Int) (a0_10 : Int) (a0_11 : Int) (a0_12 : Int) (a0_13 : Int) (a0_14 : Int) (a0_15 : Int) (w : World) (hr0_0 : Kd.C (Kd.int .i64) w A0_0 l0_0.length l0_0) (hc0_0 : l0_0.length ≤ c0_0) (hr0_1 : Kd.C (Kd.int .i64) w A0_1 l0_1.length l0_1) (hc0_1 : l0_1.length ≤ c0_1) (hr0_2 : Kd.C (Kd.int .i64) w A0_2 l0_2.length l0_2) (hc0_2 : l0_2.length ≤ c0_2) (hr0_3 : Kd.C (Kd.int .i64) w A0_3 l0_3.length l0_3) (hc0_3 : l0_3.length ≤ c0_3) (hr0_4 : Kd.C (Kd.int .i64) w A0_4 l0_4.length l0_4) (hc0_4 : l0_4.length ≤ c0_4) (hr0_5 : Kd.C (Kd.int .i64) w A0_5 l0_5.length l0_5) (hc0_5 : l0_5.length ≤ c0_5) (y0 : inv32 ⟨(⟨(⟨l0_0, l0_1⟩ : S24), (⟨l0_2, l0_3⟩ : S24), (⟨l0_4, l0_5⟩ : S24)⟩ : S26), (⟨a0_6, a0_7, a0_8, a0_9, a0_10, a0_11⟩ : S28), (⟨a0_12, a0_13, a0_14⟩ : S30), a0_15⟩) :
  Calls Try.prog 3 #[.agg #[.slice A0_0 l0_0.length c0_0, .slice A0_1 l0_1.length c0_1, .slice A0_2 l0_2.length c0_2, .slice A0_3 l0_3.length c0_3, .slice A0_4 l0_4.length c0_4, .slice A0_5 l0_5.length c0_5, .int .i64 a0_6, .int .i64 a0_7, .int .i64 a0_8, .int .i64 a0_9, .int .i64 a0_10, .int .i64 a0_11, .int .i64 a0_12, .int .i64 a0_13, .int .i64 a0_14, .int .i64 a0_15]] w fun e w' => e = .returned (.bool true) ∧ Below w.heap.size w w' := by
 have h := P l0_0 l0_1 l0_2 l0_3 l0_4 l0_5 a0_6 a0_7 a0_8 a0_9 a0_10 a0_11 a0_12 a0_13 a0_14 a0_15 y0
 refine (forebaylaw10_FitParts.calls A0_0 c0_0 l0_0 A0_1 c0_1 l0_1 A0_2 c0_2 l0_2 A0_3 c0_3 l0_3 A0_4 c0_4 l0_4 A0_5 c0_5 l0_5 a0_6 a0_7 a0_8 a0_9 a0_10 a0_11 a0_12 a0_13 a0_14 a0_15 true w hr0_0 hc0_0 hr0_1 hc0_1 hr0_2 hc0_2 hr0_3 hc0_3 hr0_4 hc0_4 hr0_5 hc0_5 h).mono ?_
 rintro e w' ⟨rfl, hd⟩
 exact ⟨rfl, hd⟩

/-! ### forebayref04_Quantity: function 10 -/
def forebayref04_Quantity.f (a0 : Int) : Option (Bool) := if a0 ≥ 0 then (some (decide (a0 ≤ 1099511627776))) else (some false)
set_option maxHeartbeats 8000000 in
set_option maxRecDepth 100000 in
theorem forebayref04_Quantity.calls (a0 : Int) (r : Bool) (w : World) (h : forebayref04_Quantity.f a0 = some r) :
  Calls Try.prog 10 #[.int .i64 a0] w fun e w' => e = .returned (.bool r) ∧ Drawn0 w w' := by
 have H : (if a0 ≥ 0 then (some (decide (a0 ≤ 1099511627776))) else (some false)) = some r := h
 clear h
 by_cases c2 : a0 ≥ 0
 ·
  rw [if_pos c2] at H
  have c2b0 : decide (0 ≤ a0) = true := decide_eq_true c2
  clear c2
  obtain rfl := Option.some.inj H
  go_enter Try.func10, Try.ntmps10
  go_wp2
  go_ret
  exact ⟨by first | rfl | (simp; done) | (simp [*]; done), by repeat (first | exact Drawn0.refl _ | apply Drawn0.step)⟩
 ·
  rw [if_neg c2] at H
  have c2b0 : decide (0 ≤ a0) = false := decide_eq_false c2
  clear c2
  obtain rfl := Option.some.inj H
  go_enter Try.func10, Try.ntmps10
  go_wp2
  go_ret
  exact ⟨by first | rfl | (simp; done) | (simp [*]; done), by repeat (first | exact Drawn0.refl _ | apply Drawn0.step)⟩

end Go.Proofs.Ythbonmpkjkihgaa.P
