-- Written by this session's program gprint.py: functions of the program as plain functions, and that the machine does what they say. Not trusted: Lean checks it.
import Derived.Test.YtkhbbcnagdappaaPx0
import Derived.Test.YtkhbbcnagdappaaPx1
import Derived.Test.YtkhbbcnagdappaaPx3
import Derived.Test.YtkhbbcnagdappaaPx4
import Derived.Test.YtkhbbcnagdappaaPx5
namespace Go.Proofs.Ytkhbbcnagdappaa.P
open Go.RowKit Go.Proofs.YtkhbbcnagdappaaW.PrintWords Go.Proofs.YtkhbbcnagdappaaW.PrintLast Go.Proofs.YtkhbbcnagdappaaW.PrintMore
attribute [local go_sem] max2_int min2_int max_two min_two max_three min_three max_four min_four   -- for this text's walks alone
set_option linter.unusedVariables false
set_option linter.unusedSimpArgs false

/-! ### forebaylaw04_StepsBack: function 6 -/
/-- The law's guard lets it go on. -/
structure BackGate (k : Nat) (a n : List Int) (x y z p q m t : Int) : Prop where
  great : forebayref04_Great.f a n = some false
  check : steps_Check.f k a n = some 0
  fine1 : forebaylaw04_fine.f x y z = some true
  fine2 : forebaylaw04_fine.f p q m = some true
  quant : forebayref04_Quantity.f t = some true
/-- What all the calls tell. -/
def BackGood (k : Nat) (a n : List Int) (x y z p q m t : Int) : Prop :=
  ∃ (a1 a2 b1 b2 c1 c2 : List Int) (g : Int) (d1 d2 : List Int) (h l u v : Int),
    steps_Take.f k a n x y z = some (a1, a2, 0) ∧ steps_Give.f k a1 a2 x y z = some (b1, b2, 0) ∧ steps_Same.f k b1 b2 a n = some true ∧ steps_Least.f k a n x y = some l ∧ (z ≤ l ∨ (l < z ∧ y ≤ x)) ∧
    steps_At.f k a n t = some u ∧ steps_At.f k a1 a2 t = some v ∧ steps_Take.f k a1 a2 p q m = some (c1, c2, g) ∧ steps_Take.f k a n p q m = some (d1, d2, h) ∧
    v = (if x ≤ t ∧ t < y then wrap64 (u - z) else u) ∧
    (g ≠ 0 ∨ (g = 0 ∧ h = 0 ∧ ∃ x1 x2 : List Int, steps_Take.f k d1 d2 x y z = some (x1, x2, 0) ∧ steps_Same.f k c1 c2 x1 x2 = some true))
def BackOk (k : Nat) (a n : List Int) (x y z p q m t : Int) : Prop :=
  forebaylaw04_head.f k = some true ∧
  (forebayref04_Great.f a n = some true ∨
   (∃ c, forebayref04_Great.f a n = some false ∧ steps_Check.f k a n = some c ∧ ¬ c = 0) ∨
   (forebayref04_Great.f a n = some false ∧ steps_Check.f k a n = some 0 ∧ forebaylaw04_fine.f x y z = some false) ∨
   (forebayref04_Great.f a n = some false ∧ steps_Check.f k a n = some 0 ∧ forebaylaw04_fine.f x y z = some true ∧ forebaylaw04_fine.f p q m = some false) ∨
   (forebayref04_Great.f a n = some false ∧ steps_Check.f k a n = some 0 ∧ forebaylaw04_fine.f x y z = some true ∧ forebaylaw04_fine.f p q m = some true ∧ forebayref04_Quantity.f t = some false) ∨
   (BackGate k a n x y z p q m t ∧ ∃ a1 a2 l, steps_Take.f k a n x y z = some (a1, a2, 6) ∧ steps_Least.f k a n x y = some l ∧ l < z) ∨
   (BackGate k a n x y z p q m t ∧ BackGood k a n x y z p q m t))
noncomputable def forebaylaw04_StepsBack.f (k : Nat) (l0_0 l0_1 : List Int) (a0_2 a0_3 a0_4 a0_5 a0_6 a0_7 a0_8 : Int) : Option Bool := @ite _ (BackOk k l0_0 l0_1 a0_2 a0_3 a0_4 a0_5 a0_6 a0_7 a0_8) (Classical.propDecidable _) (some true) none
theorem BackGate.up {k : Nat} {a n : List Int} {x y z p q m t : Int} (h : BackGate k a n x y z p q m t) : BackGate (k + 1) a n x y z p q m t := ⟨h.great, steps_Check.mono _ _ _ _ h.check, h.fine1, h.fine2, h.quant⟩
theorem BackGood.up {k : Nat} {a n : List Int} {x y z p q m t : Int} (h : BackGood k a n x y z p q m t) : BackGood (k + 1) a n x y z p q m t := by
  obtain ⟨a1, a2, b1, b2, c1, c2, g, d1, d2, h, l, u, v, k1, k2, k3, k4, k5, k6, k7, k8, k9, k10, k11⟩ := h
  refine ⟨a1, a2, b1, b2, c1, c2, g, d1, d2, h, l, u, v, steps_Take.mono _ _ _ _ _ _ _ k1, steps_Give.mono _ _ _ _ _ _ _ k2, steps_Same.mono _ _ _ _ _ _ k3, steps_Least.mono _ _ _ _ _ _ k4, k5, steps_At.mono _ _ _ _ _ k6, steps_At.mono _ _ _ _ _ k7, steps_Take.mono _ _ _ _ _ _ _ k8, steps_Take.mono _ _ _ _ _ _ _ k9, k10, ?_⟩
  rcases k11 with k11 | ⟨e1, e2, x1, x2, e3, e4⟩
  · exact .inl k11
  · exact .inr ⟨e1, e2, x1, x2, steps_Take.mono _ _ _ _ _ _ _ e3, steps_Same.mono _ _ _ _ _ _ e4⟩
theorem BackOk.up {k : Nat} {a n : List Int} {x y z p q m t : Int} (h : BackOk k a n x y z p q m t) : BackOk (k + 1) a n x y z p q m t := by
  obtain ⟨hh, hk⟩ := h
  refine ⟨forebaylaw04_head.mono _ _ hh, ?_⟩
  rcases hk with hk | ⟨c, hk, hk1, hk2⟩ | ⟨hk, hk1, hk2⟩ | ⟨hk, hk1, hk2, hk3⟩ | ⟨hk, hk1, hk2, hk3, hk4⟩ | ⟨hk, a1, a2, l, h1, h2, h3⟩ | ⟨hk, hgd⟩
  · exact .inl hk
  · exact .inr (.inl ⟨c, hk, steps_Check.mono _ _ _ _ hk1, hk2⟩)
  · exact .inr (.inr (.inl ⟨hk, steps_Check.mono _ _ _ _ hk1, hk2⟩))
  · exact .inr (.inr (.inr (.inl ⟨hk, steps_Check.mono _ _ _ _ hk1, hk2, hk3⟩)))
  · exact .inr (.inr (.inr (.inr (.inl ⟨hk, steps_Check.mono _ _ _ _ hk1, hk2, hk3, hk4⟩))))
  · exact .inr (.inr (.inr (.inr (.inr (.inl ⟨hk.up, a1, a2, l, steps_Take.mono _ _ _ _ _ _ _ h1, steps_Least.mono _ _ _ _ _ _ h2, h3⟩)))))
  · exact .inr (.inr (.inr (.inr (.inr (.inr ⟨hk.up, hgd.up⟩)))))
theorem forebaylaw04_StepsBack.mono : ∀ a0 a1 a2 a3 a4 a5 a6 a7 a8 k, LeO (forebaylaw04_StepsBack.f k a0 a1 a2 a3 a4 a5 a6 a7 a8) (forebaylaw04_StepsBack.f (k + 1) a0 a1 a2 a3 a4 a5 a6 a7 a8) := by
  intro a0 a1 a2 a3 a4 a5 a6 a7 a8 k r h
  unfold forebaylaw04_StepsBack.f at h ⊢
  by_cases hk : BackOk k a0 a1 a2 a3 a4 a5 a6 a7 a8
  · rw [@if_pos _ (Classical.propDecidable _) hk] at h
    rw [@if_pos _ (Classical.propDecidable _) hk.up]
    exact h
  · rw [@if_neg _ (Classical.propDecidable _) hk] at h; cases h
/-- A profile in a variable of one's own. -/
structure Pf (W : World) (b : Nat) (A : Option Addr) (c : Nat) (a : List Int) (B : Option Addr) (d : Nat) (n : List Int) : Prop where
  box : BoxN W b 24 [.slice A a.length c, .slice B n.length d]
  ca : Kd.C (Kd.int .i64) W A a.length a
  la : a.length ≤ c
  cb : Kd.C (Kd.int .i64) W B n.length n
  lb : n.length ≤ d
theorem Pf.below {W W' : World} {b : Nat} {A : Option Addr} {c : Nat} {a : List Int} {B : Option Addr} {d : Nat} {n : List Int} (h : Pf W b A c a B d n) (hb : Below W.heap.size W W') : Pf W' b A c a B d n :=
  ⟨h.box.below hb h.box.lt, Kd.C_below h.ca hb, h.la, Kd.C_below h.cb hb, h.lb⟩
theorem Pf.drew {W : World} {b : Nat} {A : Option Addr} {c : Nat} {a : List Int} {B : Option Addr} {d : Nat} {n : List Int} (h : Pf W b A c a B d n) : Pf W.drew b A c a B d n := h.below ⟨rfl, rfl, rfl, Nat.le_refl _, fun _ _ => rfl⟩
theorem Pf.cells {W : World} {b : Nat} {A : Option Addr} {c : Nat} {a : List Int} {B : Option Addr} {d : Nat} {n : List Int} (h : Pf W b A c a B d n) : W.cell? ⟨b, 0, none⟩ = some (.slice A a.length c) ∧ W.cell? ⟨b, 1, none⟩ = some (.slice B n.length d) := ⟨h.box.cell 0 rfl, h.box.cell 1 rfl⟩
theorem Pf.new {W : World} {ok ok' : Nat → Prop} {A : Option Addr} {c : Nat} {a : List Int} {B : Option Addr} {d : Nat} {n : List Int} (h1 : Kd.F (Kd.int .i64) W ok A a.length a) (h2 : a.length ≤ c) (h3 : Kd.F (Kd.int .i64) W ok' B n.length n) (h4 : n.length ≤ d) :
    Pf (W.alloc (.cells #[.slice A a.length c, .slice B n.length d] 24)) W.heap.size A c a B d n :=
  ⟨BoxN.new W _ [.slice A a.length c, .slice B n.length d], Kd.C_below (Kd.F_now h1) ((Below.refl _ _).alloc (Nat.le_refl _) _), h2, Kd.C_below (Kd.F_now h3) ((Below.refl _ _).alloc (Nat.le_refl _) _), h4⟩
/-- A window in a variable of one's own. -/
structure Wn (W : World) (b : Nat) (x y z : Int) : Prop where
  box : BoxN W b 35 [.int .i64 x, .int .i64 y, .int .i64 z]
theorem Wn.below {W W' : World} {b : Nat} {x y z : Int} (h : Wn W b x y z) (hb : Below W.heap.size W W') : Wn W' b x y z := ⟨h.box.below hb h.box.lt⟩
theorem Wn.cells {W : World} {b : Nat} {x y z : Int} (h : Wn W b x y z) : W.cell? ⟨b, 0, none⟩ = some (.int .i64 x) ∧ W.cell? ⟨b, 1, none⟩ = some (.int .i64 y) ∧ W.cell? ⟨b, 2, none⟩ = some (.int .i64 z) := ⟨h.box.cell 0 rfl, h.box.cell 1 rfl, h.box.cell 2 rfl⟩
theorem drawn_below {w w' : World} (h : Drawn0 w w') : Below w.heap.size w w' := by
  obtain ⟨m, rfl⟩ := h
  exact ⟨rfl, rfl, rfl, Nat.le_refl _, fun _ _ => rfl⟩
theorem below_of_drew {W w' : World} (h : Below W.drew.heap.size W.drew w') : Below W.heap.size W w' := ⟨h.os, h.tape, h.output, h.size, h.block⟩
theorem Pf.ex {W : World} {b : Nat} {A : Option Addr} {c : Nat} {a : List Int} {B : Option Addr} {d : Nat} {n : List Int} (_ : Pf W b A c a B d n) : ∃ q, b = q := ⟨_, rfl⟩
theorem below_drew (W : World) : Below W.heap.size W W.drew := ⟨rfl, rfl, rfl, Nat.le_refl _, fun _ _ => rfl⟩

def forebaylaw04_StepsBack.T1 : Bool × List (List Nat × List Nat) := (true, [([], []), ([0], [0]), ([], []), ([2], [2]), ([], []), ([4], [4]), ([], []), ([6], [6]), ([], []), ([], []), ([], []), ([8, 1, 0, 1, 8, 9, 10], [1, 8]), ([9, 3, 11, 0, 1, 2, 3, 8, 9, 10, 11], [3, 9]), ([10, 5, 12, 0, 1, 2, 3, 4, 5, 8, 9, 10, 11, 12], [5, 10]), ([7, 13, 0, 1, 2, 3, 4, 5, 6, 7, 8, 9, 10, 11, 12, 13], [7])])
def forebaylaw04_StepsBack.B1 : List Nat := [0, 1, 0, 4, 0, 16, 0, 64, 0, 0, 0, 1795, 3855, 7999, 16383]
theorem forebaylaw04_StepsBack.tab1 : rtab .any (opsOf Try.f6 1) = forebaylaw04_StepsBack.T1 := by kernel_rfl
theorem forebaylaw04_StepsBack.bits1 : waitsOk forebaylaw04_StepsBack.T1.2 forebaylaw04_StepsBack.B1 = true := by kernel_rfl
def forebaylaw04_StepsBack.T8 : Bool × List (List Nat × List Nat) := (true, [([], []), ([0], [0]), ([1], [1]), ([2], [2]), ([2], [2]), ([3, 4, 2, 2], [2, 3, 4]), ([5, 2], [2, 5]), ([2, 6], [2, 6]), ([7, 5], [7]), ([8], [8]), ([8], [8]), ([10, 8], [8, 10]), ([8], [8]), ([12, 8], [8, 12]), ([9, 11, 13, 8, 8], [8, 9, 11, 13]), ([8], [8]), ([15, 8], [8, 15]), ([14, 16, 8], [8, 14, 16]), ([17, 14, 8], [8, 17]), ([18], [18]), ([19, 18], [18, 19]), ([18], [18]), ([21, 18], [18, 21]), ([20, 22, 18], [18, 20, 22]), ([18, 23, 8], [8, 18, 23]), ([8, 24], [8, 24])])
def forebaylaw04_StepsBack.B8 : List Nat := [0, 1, 3, 7, 7, 31, 63, 127, 255, 511, 511, 1535, 511, 4607, 16383, 511, 33279, 131071, 262143, 524287, 1048575, 524287, 2621439, 8388607, 16777215, 33554431]
theorem forebaylaw04_StepsBack.tab8 : rtab .any (opsOf Try.f6 8) = forebaylaw04_StepsBack.T8 := by kernel_rfl
theorem forebaylaw04_StepsBack.bits8 : waitsOk forebaylaw04_StepsBack.T8.2 forebaylaw04_StepsBack.B8 = true := by kernel_rfl
set_option maxHeartbeats 8000000 in
set_option maxRecDepth 100000 in
theorem forebaylaw04_StepsBack.calls (k : Nat) (A0_0 : Option Addr) (c0_0 : Nat) (l0_0 : List Int) (A0_1 : Option Addr) (c0_1 : Nat) (l0_1 : List Int) (a0_2 : Int) (a0_3 : Int) (a0_4 : Int) (a0_5 : Int) (a0_6 : Int) (a0_7 : Int) (a0_8 : Int) (r : Bool) (w : World) (hr0_0 : Kd.C (Kd.int .i64) w A0_0 l0_0.length l0_0) (hc0_0 : l0_0.length ≤ c0_0) (hr0_1 : Kd.C (Kd.int .i64) w A0_1 l0_1.length l0_1) (hc0_1 : l0_1.length ≤ c0_1) (h : forebaylaw04_StepsBack.f k l0_0 l0_1 a0_2 a0_3 a0_4 a0_5 a0_6 a0_7 a0_8 = some r) :
    Calls Try.prog 6 #[.agg #[.slice A0_0 l0_0.length c0_0, .slice A0_1 l0_1.length c0_1, .int .i64 a0_2, .int .i64 a0_3, .int .i64 a0_4, .int .i64 a0_5, .int .i64 a0_6, .int .i64 a0_7, .int .i64 a0_8]] w fun e w' => e = .returned (.bool r) ∧ Below w.heap.size w w' := by
  have hu48 := Try.underlying48
  have hu24 := Try.underlying24
  have hu35 := Try.underlying35
  have HR0_0 := Aside0.mk hr0_0
  have HC0_0 := Aside0.mk hc0_0
  clear hr0_0 hc0_0
  have HR0_1 := Aside0.mk hr0_1
  have HC0_1 := Aside0.mk hc0_1
  clear hr0_1 hc0_1
  have HB := Aside0.mk (Below.refl w.heap.size w)
  unfold forebaylaw04_StepsBack.f at h
  by_cases hk : BackOk k l0_0 l0_1 a0_2 a0_3 a0_4 a0_5 a0_6 a0_7 a0_8
  case neg => rw [@if_neg _ (Classical.propDecidable _) hk] at h; cases h
  rw [@if_pos _ (Classical.propDecidable _) hk] at h
  obtain rfl := Option.some.inj h
  clear h
  have HC2 := Aside0.mk hk
  clear hk
  go_enter Try.func6, Try.ntmps6
  try go_wp2_with (first | ((with_reducible refine gate_dst (N := 1) rfl ?_); refine box_event ?hg (N := 1) ?hd (cs := #[.slice A0_0 l0_0.length c0_0, .slice A0_1 l0_1.length c0_1, .int .i64 a0_2, .int .i64 a0_3, .int .i64 a0_4, .int .i64 a0_5, .int .i64 a0_6, .int .i64 a0_7, .int .i64 a0_8]) (t := 48) ?hr ?_; (case hd => rfl); (case hg => rfl); (case hr => first | (go_simp; done) | (go_simp; rfl)); intro gb149 hg w3 hbox hb; have n0_ := Aside0.mk (below_step (by repeat (first | (with_reducible first | exact HB.out | apply below_alloc | apply pw_below_drewN | apply below_drew1) | exact HB.out)) hb); have n1_ := Aside0.mk (hbox); have n2_ := Aside0.mk ((by rw [hg]; exact (below_size (by repeat (first | (with_reducible first | exact HB.out | apply below_alloc | apply pw_below_drewN | apply below_drew1) | exact HB.out))) : w.heap.size ≤ gb149)); have n3_ := Aside0.mk ((by rw [hg]; exact (below_size (by repeat (first | (with_reducible first | exact HB.out | apply below_alloc | apply pw_below_drewN | apply below_drew1) | exact HB.out))) : w.heap.size ≤ gb149)); clear HB; have HB := n0_; have BK149 := n1_; have GW149 := n2_; have GE149 := n3_; clear n0_ n1_ n2_ n3_; clear hb hbox hg))
  have n0_ := Aside0.mk (blk_drew BK149.out)
  have n1_ := Aside0.mk (below_drew1 HB.out)
  clear BK149
  clear HB
  have BK149 := n0_
  have HB := n1_
  clear n0_ n1_
  refine start_ (n := 15) (S := fun w' => w'.cell? ⟨gb149, 0, none⟩ = some (.slice A0_0 l0_0.length c0_0) ∧ w'.cell? ⟨gb149, 1, none⟩ = some (.slice A0_1 l0_1.length c0_1) ∧ w'.cell? ⟨gb149, 2, none⟩ = some (.int .i64 a0_2) ∧ w'.cell? ⟨gb149, 3, none⟩ = some (.int .i64 a0_3) ∧ w'.cell? ⟨gb149, 4, none⟩ = some (.int .i64 a0_4) ∧ w'.cell? ⟨gb149, 5, none⟩ = some (.int .i64 a0_5) ∧ w'.cell? ⟨gb149, 6, none⟩ = some (.int .i64 a0_6) ∧ w'.cell? ⟨gb149, 7, none⟩ = some (.int .i64 a0_7) ∧ w'.cell? ⟨gb149, 8, none⟩ = some (.int .i64 a0_8)) (ds := []) #[false, false, false, false, false, false, false, false, false, false, false, false, false, false, false] (by kernel_rfl) rfl rfl ⟨(blk_cell BK149.out 0).trans rfl, (blk_cell BK149.out 1).trans rfl, (blk_cell BK149.out 2).trans rfl, (blk_cell BK149.out 3).trans rfl, (blk_cell BK149.out 4).trans rfl, (blk_cell BK149.out 5).trans rfl, (blk_cell BK149.out 6).trans rfl, (blk_cell BK149.out 7).trans rfl, (blk_cell BK149.out 8).trans rfl⟩ (fun hHeld => ?_); refine with_tabW forebaylaw04_StepsBack.tab1 forebaylaw04_StepsBack.bits1 (fun HT_ HW_ => ?_)
  generalize w3.drew = w4 at BK149 HB hHeld ⊢
  refine pure_ (i := 0) (N := some 18) (v := ?_) (a' := ?_) #[true, false, false, false, false, false, false, false, false, false, false, false, false, false, false] rfl rfl (any_of HT_.out (by kernel_rfl)) (fun _ _ _ h => h) (Or.inl ⟨by rfl, ?_⟩) ?_ ?_
  rotate_left
  · intro w'
    go_simp
    with_reducible rfl
  rotate_left
  · simp only [Act.put, List.setIfInBounds_toArray, List.set_cons_zero, List.set_cons_succ, i64_w, i32_w]
    rfl
  refine pure_ (i := 2) (N := some 20) (v := ?_) (a' := ?_) #[true, false, true, false, false, false, false, false, false, false, false, false, false, false, false] rfl rfl (any_of HT_.out (by kernel_rfl)) (fun _ _ _ h => h) (Or.inl ⟨by rfl, ?_⟩) ?_ ?_
  rotate_left
  · intro w'
    go_simp
    with_reducible rfl
  rotate_left
  · simp only [Act.put, List.setIfInBounds_toArray, List.set_cons_zero, List.set_cons_succ, i64_w, i32_w]
    rfl
  refine pure_ (i := 4) (N := some 22) (v := ?_) (a' := ?_) #[true, false, true, false, true, false, false, false, false, false, false, false, false, false, false] rfl rfl (any_of HT_.out (by kernel_rfl)) (fun _ _ _ h => h) (Or.inl ⟨by rfl, ?_⟩) ?_ ?_
  rotate_left
  · intro w'
    go_simp
    with_reducible rfl
  rotate_left
  · simp only [Act.put, List.setIfInBounds_toArray, List.set_cons_zero, List.set_cons_succ, i64_w, i32_w]
    rfl
  refine pure_ (i := 6) (N := some 24) (v := ?_) (a' := ?_) #[true, false, true, false, true, false, true, false, false, false, false, false, false, false, false] rfl rfl (any_of HT_.out (by kernel_rfl)) (fun _ _ _ h => h) (Or.inl ⟨by rfl, ?_⟩) ?_ ?_
  rotate_left
  · intro w'
    go_simp
    with_reducible rfl
  rotate_left
  · simp only [Act.put, List.setIfInBounds_toArray, List.set_cons_zero, List.set_cons_succ, i64_w, i32_w]
    rfl
  refine take_ (i := 1) (N := some 19) (v := ?_) (a' := ?_) #[true, true, true, false, true, false, true, false, false, false, false, false, false, false, false] rfl rfl (take_ofW HT_.out HW_.out (by kernel_rfl)) (fun _ _ _ h => h) (Or.inl ⟨by rfl, ?_⟩) hHeld ?_ ?_
  rotate_left
  · rintro w' ⟨s0, s1, s2, s3, s4, s5, s6, s7, s8⟩
    go_simp
    with_reducible rfl
  rotate_left
  · simp only [Act.put, List.setIfInBounds_toArray, List.set_cons_zero, List.set_cons_succ, i64_w, i32_w]
    rfl
  refine take_ (i := 3) (N := some 21) (v := ?_) (a' := ?_) #[true, true, true, true, true, false, true, false, false, false, false, false, false, false, false] rfl rfl (take_ofW HT_.out HW_.out (by kernel_rfl)) (fun _ _ _ h => h) (Or.inl ⟨by rfl, ?_⟩) hHeld ?_ ?_
  rotate_left
  · rintro w' ⟨s0, s1, s2, s3, s4, s5, s6, s7, s8⟩
    go_simp
    with_reducible rfl
  rotate_left
  · simp only [Act.put, List.setIfInBounds_toArray, List.set_cons_zero, List.set_cons_succ, i64_w, i32_w]
    rfl
  refine take_ (i := 5) (N := some 23) (v := ?_) (a' := ?_) #[true, true, true, true, true, true, true, false, false, false, false, false, false, false, false] rfl rfl (take_ofW HT_.out HW_.out (by kernel_rfl)) (fun _ _ _ h => h) (Or.inl ⟨by rfl, ?_⟩) hHeld ?_ ?_
  rotate_left
  · rintro w' ⟨s0, s1, s2, s3, s4, s5, s6, s7, s8⟩
    go_simp
    with_reducible rfl
  rotate_left
  · simp only [Act.put, List.setIfInBounds_toArray, List.set_cons_zero, List.set_cons_succ, i64_w, i32_w]
    rfl
  refine take_ (i := 7) (N := some 25) (v := ?_) (a' := ?_) #[true, true, true, true, true, true, true, true, false, false, false, false, false, false, false] rfl rfl (take_ofW HT_.out HW_.out (by kernel_rfl)) (fun _ _ _ h => h) (Or.inl ⟨by rfl, ?_⟩) hHeld ?_ ?_
  rotate_left
  · rintro w' ⟨s0, s1, s2, s3, s4, s5, s6, s7, s8⟩
    go_simp
    with_reducible rfl
  rotate_left
  · simp only [Act.put, List.setIfInBounds_toArray, List.set_cons_zero, List.set_cons_succ, i64_w, i32_w]
    rfl
  refine join_ (σ := Nat × Nat × Nat) 4 #[true, true, true, true, true, true, true, true, true, true, true, false, false, false, false] (fun s_ => [(3, .pointer (some ⟨s_.1, 0, none⟩)), (4, .pointer (some ⟨s_.2.1, 0, none⟩)), (5, .pointer (some ⟨s_.2.2, 0, none⟩))]) (fun s_ w' => (w'.cell? ⟨gb149, 0, none⟩ = some (.slice A0_0 l0_0.length c0_0) ∧ w'.cell? ⟨gb149, 1, none⟩ = some (.slice A0_1 l0_1.length c0_1) ∧ w'.cell? ⟨gb149, 2, none⟩ = some (.int .i64 a0_2) ∧ w'.cell? ⟨gb149, 3, none⟩ = some (.int .i64 a0_3) ∧ w'.cell? ⟨gb149, 4, none⟩ = some (.int .i64 a0_4) ∧ w'.cell? ⟨gb149, 5, none⟩ = some (.int .i64 a0_5) ∧ w'.cell? ⟨gb149, 6, none⟩ = some (.int .i64 a0_6) ∧ w'.cell? ⟨gb149, 7, none⟩ = some (.int .i64 a0_7) ∧ w'.cell? ⟨gb149, 8, none⟩ = some (.int .i64 a0_8)) ∧ (w'.heap[gb149]? = some (.cells #[.slice A0_0 l0_0.length c0_0, .slice A0_1 l0_1.length c0_1, .int .i64 a0_2, .int .i64 a0_3, .int .i64 a0_4, .int .i64 a0_5, .int .i64 a0_6, .int .i64 a0_7, .int .i64 a0_8] 48 (0, 0))) ∧ (w'.heap[s_.1]? = some (.cells #[.slice none 0 0, .slice none 0 0] 24 (0, 0))) ∧ (w'.heap[s_.2.1]? = some (.cells #[.int .i64 0, .int .i64 0, .int .i64 0] 35 (0, 0))) ∧ (w'.heap[s_.2.2]? = some (.cells #[.int .i64 0, .int .i64 0, .int .i64 0] 35 (0, 0))) ∧ (w.heap.size ≤ s_.1) ∧ (w.heap.size ≤ s_.1) ∧ (gb149 ≠ s_.1) ∧ (s_.1 ≠ gb149) ∧ (s_.2.1 ≠ s_.1) ∧ (s_.1 ≠ s_.2.1) ∧ (s_.2.2 ≠ s_.1) ∧ (s_.1 ≠ s_.2.2) ∧ (w.heap.size ≤ s_.2.1) ∧ (w.heap.size ≤ s_.2.1) ∧ (gb149 ≠ s_.2.1) ∧ (s_.2.1 ≠ gb149) ∧ (s_.2.2 ≠ s_.2.1) ∧ (s_.2.1 ≠ s_.2.2) ∧ (w.heap.size ≤ s_.2.2) ∧ (w.heap.size ≤ s_.2.2) ∧ (gb149 ≠ s_.2.2) ∧ (s_.2.2 ≠ gb149) ∧ (Below w.heap.size w w')) ?_ ?_
  rotate_left
  · intro hJ8_9_10
    refine join_ (σ := Nat × Nat) 5 #[true, true, true, true, true, true, true, true, true, true, false, false, false, false, false] (fun s_ => [(3, .pointer (some ⟨s_.1, 0, none⟩)), (4, .pointer (some ⟨s_.2, 0, none⟩))]) (fun s_ w' => (w'.cell? ⟨gb149, 0, none⟩ = some (.slice A0_0 l0_0.length c0_0) ∧ w'.cell? ⟨gb149, 1, none⟩ = some (.slice A0_1 l0_1.length c0_1) ∧ w'.cell? ⟨gb149, 2, none⟩ = some (.int .i64 a0_2) ∧ w'.cell? ⟨gb149, 3, none⟩ = some (.int .i64 a0_3) ∧ w'.cell? ⟨gb149, 4, none⟩ = some (.int .i64 a0_4) ∧ w'.cell? ⟨gb149, 5, none⟩ = some (.int .i64 a0_5) ∧ w'.cell? ⟨gb149, 6, none⟩ = some (.int .i64 a0_6) ∧ w'.cell? ⟨gb149, 7, none⟩ = some (.int .i64 a0_7) ∧ w'.cell? ⟨gb149, 8, none⟩ = some (.int .i64 a0_8)) ∧ (w'.heap[gb149]? = some (.cells #[.slice A0_0 l0_0.length c0_0, .slice A0_1 l0_1.length c0_1, .int .i64 a0_2, .int .i64 a0_3, .int .i64 a0_4, .int .i64 a0_5, .int .i64 a0_6, .int .i64 a0_7, .int .i64 a0_8] 48 (0, 0))) ∧ (w'.heap[s_.1]? = some (.cells #[.slice none 0 0, .slice none 0 0] 24 (0, 0))) ∧ (w'.heap[s_.2]? = some (.cells #[.int .i64 0, .int .i64 0, .int .i64 0] 35 (0, 0))) ∧ (w.heap.size ≤ s_.1) ∧ (w.heap.size ≤ s_.1) ∧ (gb149 ≠ s_.1) ∧ (s_.1 ≠ gb149) ∧ (s_.2 ≠ s_.1) ∧ (s_.1 ≠ s_.2) ∧ (w.heap.size ≤ s_.2) ∧ (w.heap.size ≤ s_.2) ∧ (gb149 ≠ s_.2) ∧ (s_.2 ≠ gb149) ∧ (Below w.heap.size w w')) ?_ ?_
    rotate_left
    · intro hJ8_9
      refine join_ (σ := Nat × Nat) 5 #[true, true, true, true, true, true, true, true, true, false, true, false, false, false, false] (fun s_ => [(3, .pointer (some ⟨s_.1, 0, none⟩)), (5, .pointer (some ⟨s_.2, 0, none⟩))]) (fun s_ w' => (w'.cell? ⟨gb149, 0, none⟩ = some (.slice A0_0 l0_0.length c0_0) ∧ w'.cell? ⟨gb149, 1, none⟩ = some (.slice A0_1 l0_1.length c0_1) ∧ w'.cell? ⟨gb149, 2, none⟩ = some (.int .i64 a0_2) ∧ w'.cell? ⟨gb149, 3, none⟩ = some (.int .i64 a0_3) ∧ w'.cell? ⟨gb149, 4, none⟩ = some (.int .i64 a0_4) ∧ w'.cell? ⟨gb149, 5, none⟩ = some (.int .i64 a0_5) ∧ w'.cell? ⟨gb149, 6, none⟩ = some (.int .i64 a0_6) ∧ w'.cell? ⟨gb149, 7, none⟩ = some (.int .i64 a0_7) ∧ w'.cell? ⟨gb149, 8, none⟩ = some (.int .i64 a0_8)) ∧ (w'.heap[gb149]? = some (.cells #[.slice A0_0 l0_0.length c0_0, .slice A0_1 l0_1.length c0_1, .int .i64 a0_2, .int .i64 a0_3, .int .i64 a0_4, .int .i64 a0_5, .int .i64 a0_6, .int .i64 a0_7, .int .i64 a0_8] 48 (0, 0))) ∧ (w'.heap[s_.1]? = some (.cells #[.slice none 0 0, .slice none 0 0] 24 (0, 0))) ∧ (w'.heap[s_.2]? = some (.cells #[.int .i64 0, .int .i64 0, .int .i64 0] 35 (0, 0))) ∧ (w.heap.size ≤ s_.1) ∧ (w.heap.size ≤ s_.1) ∧ (gb149 ≠ s_.1) ∧ (s_.1 ≠ gb149) ∧ (s_.2 ≠ s_.1) ∧ (s_.1 ≠ s_.2) ∧ (w.heap.size ≤ s_.2) ∧ (w.heap.size ≤ s_.2) ∧ (gb149 ≠ s_.2) ∧ (s_.2 ≠ gb149) ∧ (Below w.heap.size w w')) ?_ ?_
      rotate_left
      · intro hJ8_10
        refine join_ (σ := Nat × Nat) 5 #[true, true, true, true, true, true, true, true, false, true, true, false, false, false, false] (fun s_ => [(4, .pointer (some ⟨s_.1, 0, none⟩)), (5, .pointer (some ⟨s_.2, 0, none⟩))]) (fun s_ w' => (w'.cell? ⟨gb149, 0, none⟩ = some (.slice A0_0 l0_0.length c0_0) ∧ w'.cell? ⟨gb149, 1, none⟩ = some (.slice A0_1 l0_1.length c0_1) ∧ w'.cell? ⟨gb149, 2, none⟩ = some (.int .i64 a0_2) ∧ w'.cell? ⟨gb149, 3, none⟩ = some (.int .i64 a0_3) ∧ w'.cell? ⟨gb149, 4, none⟩ = some (.int .i64 a0_4) ∧ w'.cell? ⟨gb149, 5, none⟩ = some (.int .i64 a0_5) ∧ w'.cell? ⟨gb149, 6, none⟩ = some (.int .i64 a0_6) ∧ w'.cell? ⟨gb149, 7, none⟩ = some (.int .i64 a0_7) ∧ w'.cell? ⟨gb149, 8, none⟩ = some (.int .i64 a0_8)) ∧ (w'.heap[gb149]? = some (.cells #[.slice A0_0 l0_0.length c0_0, .slice A0_1 l0_1.length c0_1, .int .i64 a0_2, .int .i64 a0_3, .int .i64 a0_4, .int .i64 a0_5, .int .i64 a0_6, .int .i64 a0_7, .int .i64 a0_8] 48 (0, 0))) ∧ (w'.heap[s_.1]? = some (.cells #[.int .i64 0, .int .i64 0, .int .i64 0] 35 (0, 0))) ∧ (w'.heap[s_.2]? = some (.cells #[.int .i64 0, .int .i64 0, .int .i64 0] 35 (0, 0))) ∧ (w.heap.size ≤ s_.1) ∧ (w.heap.size ≤ s_.1) ∧ (gb149 ≠ s_.1) ∧ (s_.1 ≠ gb149) ∧ (s_.2 ≠ s_.1) ∧ (s_.1 ≠ s_.2) ∧ (w.heap.size ≤ s_.2) ∧ (w.heap.size ≤ s_.2) ∧ (gb149 ≠ s_.2) ∧ (s_.2 ≠ gb149) ∧ (Below w.heap.size w w')) ?_ ?_
        rotate_left
        · intro hJ9_10
          refine join_ (σ := Nat) 6 #[true, true, true, true, true, true, true, true, true, false, false, false, false, false, false] (fun s_ => [(3, .pointer (some ⟨s_, 0, none⟩))]) (fun s_ w' => (w'.cell? ⟨gb149, 0, none⟩ = some (.slice A0_0 l0_0.length c0_0) ∧ w'.cell? ⟨gb149, 1, none⟩ = some (.slice A0_1 l0_1.length c0_1) ∧ w'.cell? ⟨gb149, 2, none⟩ = some (.int .i64 a0_2) ∧ w'.cell? ⟨gb149, 3, none⟩ = some (.int .i64 a0_3) ∧ w'.cell? ⟨gb149, 4, none⟩ = some (.int .i64 a0_4) ∧ w'.cell? ⟨gb149, 5, none⟩ = some (.int .i64 a0_5) ∧ w'.cell? ⟨gb149, 6, none⟩ = some (.int .i64 a0_6) ∧ w'.cell? ⟨gb149, 7, none⟩ = some (.int .i64 a0_7) ∧ w'.cell? ⟨gb149, 8, none⟩ = some (.int .i64 a0_8)) ∧ (w'.heap[gb149]? = some (.cells #[.slice A0_0 l0_0.length c0_0, .slice A0_1 l0_1.length c0_1, .int .i64 a0_2, .int .i64 a0_3, .int .i64 a0_4, .int .i64 a0_5, .int .i64 a0_6, .int .i64 a0_7, .int .i64 a0_8] 48 (0, 0))) ∧ (w'.heap[s_]? = some (.cells #[.slice none 0 0, .slice none 0 0] 24 (0, 0))) ∧ (w.heap.size ≤ s_) ∧ (w.heap.size ≤ s_) ∧ (gb149 ≠ s_) ∧ (s_ ≠ gb149) ∧ (Below w.heap.size w w')) ?_ ?_
          rotate_left
          · intro hJ8
            refine join_ (σ := Nat) 6 #[true, true, true, true, true, true, true, true, false, true, false, false, false, false, false] (fun s_ => [(4, .pointer (some ⟨s_, 0, none⟩))]) (fun s_ w' => (w'.cell? ⟨gb149, 0, none⟩ = some (.slice A0_0 l0_0.length c0_0) ∧ w'.cell? ⟨gb149, 1, none⟩ = some (.slice A0_1 l0_1.length c0_1) ∧ w'.cell? ⟨gb149, 2, none⟩ = some (.int .i64 a0_2) ∧ w'.cell? ⟨gb149, 3, none⟩ = some (.int .i64 a0_3) ∧ w'.cell? ⟨gb149, 4, none⟩ = some (.int .i64 a0_4) ∧ w'.cell? ⟨gb149, 5, none⟩ = some (.int .i64 a0_5) ∧ w'.cell? ⟨gb149, 6, none⟩ = some (.int .i64 a0_6) ∧ w'.cell? ⟨gb149, 7, none⟩ = some (.int .i64 a0_7) ∧ w'.cell? ⟨gb149, 8, none⟩ = some (.int .i64 a0_8)) ∧ (w'.heap[gb149]? = some (.cells #[.slice A0_0 l0_0.length c0_0, .slice A0_1 l0_1.length c0_1, .int .i64 a0_2, .int .i64 a0_3, .int .i64 a0_4, .int .i64 a0_5, .int .i64 a0_6, .int .i64 a0_7, .int .i64 a0_8] 48 (0, 0))) ∧ (w'.heap[s_]? = some (.cells #[.int .i64 0, .int .i64 0, .int .i64 0] 35 (0, 0))) ∧ (w.heap.size ≤ s_) ∧ (w.heap.size ≤ s_) ∧ (gb149 ≠ s_) ∧ (s_ ≠ gb149) ∧ (Below w.heap.size w w')) ?_ ?_
            rotate_left
            · intro hJ9
              refine join_ (σ := Nat) 6 #[true, true, true, true, true, true, true, true, false, false, true, false, false, false, false] (fun s_ => [(5, .pointer (some ⟨s_, 0, none⟩))]) (fun s_ w' => (w'.cell? ⟨gb149, 0, none⟩ = some (.slice A0_0 l0_0.length c0_0) ∧ w'.cell? ⟨gb149, 1, none⟩ = some (.slice A0_1 l0_1.length c0_1) ∧ w'.cell? ⟨gb149, 2, none⟩ = some (.int .i64 a0_2) ∧ w'.cell? ⟨gb149, 3, none⟩ = some (.int .i64 a0_3) ∧ w'.cell? ⟨gb149, 4, none⟩ = some (.int .i64 a0_4) ∧ w'.cell? ⟨gb149, 5, none⟩ = some (.int .i64 a0_5) ∧ w'.cell? ⟨gb149, 6, none⟩ = some (.int .i64 a0_6) ∧ w'.cell? ⟨gb149, 7, none⟩ = some (.int .i64 a0_7) ∧ w'.cell? ⟨gb149, 8, none⟩ = some (.int .i64 a0_8)) ∧ (w'.heap[gb149]? = some (.cells #[.slice A0_0 l0_0.length c0_0, .slice A0_1 l0_1.length c0_1, .int .i64 a0_2, .int .i64 a0_3, .int .i64 a0_4, .int .i64 a0_5, .int .i64 a0_6, .int .i64 a0_7, .int .i64 a0_8] 48 (0, 0))) ∧ (w'.heap[s_]? = some (.cells #[.int .i64 0, .int .i64 0, .int .i64 0] 35 (0, 0))) ∧ (w.heap.size ≤ s_) ∧ (w.heap.size ≤ s_) ∧ (gb149 ≠ s_) ∧ (s_ ≠ gb149) ∧ (Below w.heap.size w w')) ?_ ?_
              rotate_left
              · intro hJ10
                refine three_ (i := 8) (j := 9) (k := 10) (Ni := some 3) (Nj := some 4) (Nk := some 5) #[true, true, true, true, true, true, true, true, true, false, false, false, false, false, false] #[true, true, true, true, true, true, true, true, false, true, false, false, false, false, false] #[true, true, true, true, true, true, true, true, false, false, true, false, false, false, false] rfl rfl rfl rfl rfl rfl (three_of HT_.out (by kernel_rfl)) (by decide) (by decide) (by decide) (fun K hK => ?_) (fun K hK => ?_) (fun K hK => ?_)
                · skip
                  refine box_step ?hg (N := 3) ?hd (cs := #[.slice none 0 0, .slice none 0 0]) (t := 24) ?hr ?_; (case hd => rfl); (case hg => rfl); (case hr => first | (go_simp; done) | (go_simp; rfl))
                  intro gb150 hg w5 hbox hb
                  have n0_ := Aside0.mk (blk_below (g := gb149) (o := .cells #[.slice A0_0 l0_0.length c0_0, .slice A0_1 l0_1.length c0_1, .int .i64 a0_2, .int .i64 a0_3, .int .i64 a0_4, .int .i64 a0_5, .int .i64 a0_6, .int .i64 a0_7, .int .i64 a0_8] 48 (0, 0)) (by (with_reducible repeat (first | refine blk_drewN ?_ _ | refine blk_drew ?_ | refine blk_alloc ?_ _)); exact BK149.out) hb)
                  have n1_ := Aside0.mk (below_step (by repeat (first | (with_reducible first | exact HB.out | apply below_alloc | apply pw_below_drewN | apply below_drew1 | refine below_set ?_ GE149.out) | exact HB.out)) hb)
                  have n2_ := Aside0.mk (hbox)
                  have n3_ := Aside0.mk ((by rw [hg]; exact (below_size (by repeat (first | (with_reducible first | exact HB.out | apply below_alloc | apply pw_below_drewN | apply below_drew1 | refine below_set ?_ GE149.out) | exact HB.out))) : w.heap.size ≤ gb150))
                  have n4_ := Aside0.mk ((by rw [hg]; exact (below_size (by repeat (first | (with_reducible first | exact HB.out | apply below_alloc | apply pw_below_drewN | apply below_drew1 | refine below_set ?_ GE149.out) | exact HB.out))) : w.heap.size ≤ gb150))
                  have n5_ := Aside0.mk ((by rw [hg]; exact Nat.ne_of_lt (blk_lt (g := gb149) (o := .cells #[.slice A0_0 l0_0.length c0_0, .slice A0_1 l0_1.length c0_1, .int .i64 a0_2, .int .i64 a0_3, .int .i64 a0_4, .int .i64 a0_5, .int .i64 a0_6, .int .i64 a0_7, .int .i64 a0_8] 48 (0, 0)) (by (with_reducible repeat (first | refine blk_drewN ?_ _ | refine blk_drew ?_ | refine blk_alloc ?_ _)); exact BK149.out)) : gb149 ≠ gb150))
                  have n6_ := Aside0.mk ((by rw [hg]; exact Nat.ne_of_gt (blk_lt (g := gb149) (o := .cells #[.slice A0_0 l0_0.length c0_0, .slice A0_1 l0_1.length c0_1, .int .i64 a0_2, .int .i64 a0_3, .int .i64 a0_4, .int .i64 a0_5, .int .i64 a0_6, .int .i64 a0_7, .int .i64 a0_8] 48 (0, 0)) (by (with_reducible repeat (first | refine blk_drewN ?_ _ | refine blk_drew ?_ | refine blk_alloc ?_ _)); exact BK149.out)) : gb150 ≠ gb149))
                  clear BK149
                  clear HB
                  have BK149 := n0_
                  have HB := n1_
                  have BK150 := n2_
                  have GW150 := n3_
                  have GE150 := n4_
                  have NB149_150 := n5_
                  have NB150_149 := n6_
                  clear n0_ n1_ n2_ n3_ n4_ n5_ n6_
                  clear hb hbox hg
                  refine hK.out _ _ ⟨(blk_cell BK149.out 0).trans rfl, (blk_cell BK149.out 1).trans rfl, (blk_cell BK149.out 2).trans rfl, (blk_cell BK149.out 3).trans rfl, (blk_cell BK149.out 4).trans rfl, (blk_cell BK149.out 5).trans rfl, (blk_cell BK149.out 6).trans rfl, (blk_cell BK149.out 7).trans rfl, (blk_cell BK149.out 8).trans rfl⟩ (fun hHeld => ?_)
                  clear hK K
                  refine norm_ (a' := ?_) ?_ ?_
                  rotate_left
                  · show Act.put _ (some 3) _ = _
                    simp only [Act.put, List.setIfInBounds_toArray, List.set_cons_zero, List.set_cons_succ, i64_w, i32_w]
                    rfl
                  exact norm_ (by first | (simp only [putAll, Act.put, List.setIfInBounds_toArray, List.set_cons_zero, List.set_cons_succ]; done) | (simp only [putAll, Act.put, List.setIfInBounds_toArray, List.set_cons_zero, List.set_cons_succ]; rfl)) (hJ8 (gb150) _ ⟨hHeld, (by (with_reducible repeat (first | refine blk_drewN ?_ _ | refine blk_drew ?_ | refine blk_alloc ?_ _)); exact BK149.out), (by (with_reducible repeat (first | refine blk_drewN ?_ _ | refine blk_drew ?_ | refine blk_alloc ?_ _)); exact BK150.out), GW150.out, GE150.out, NB149_150.out, NB150_149.out, (by repeat (first | (with_reducible first | exact HB.out | apply below_alloc | apply pw_below_drewN | apply below_drew1 | refine below_set ?_ GE149.out | refine below_set ?_ GE150.out) | exact HB.out))⟩)
                · skip
                  refine box_step ?hg (N := 4) ?hd (cs := #[.int .i64 0, .int .i64 0, .int .i64 0]) (t := 35) ?hr ?_; (case hd => rfl); (case hg => rfl); (case hr => first | (go_simp; done) | (go_simp; rfl))
                  intro gb151 hg w5 hbox hb
                  have n0_ := Aside0.mk (blk_below (g := gb149) (o := .cells #[.slice A0_0 l0_0.length c0_0, .slice A0_1 l0_1.length c0_1, .int .i64 a0_2, .int .i64 a0_3, .int .i64 a0_4, .int .i64 a0_5, .int .i64 a0_6, .int .i64 a0_7, .int .i64 a0_8] 48 (0, 0)) (by (with_reducible repeat (first | refine blk_drewN ?_ _ | refine blk_drew ?_ | refine blk_alloc ?_ _)); exact BK149.out) hb)
                  have n1_ := Aside0.mk (below_step (by repeat (first | (with_reducible first | exact HB.out | apply below_alloc | apply pw_below_drewN | apply below_drew1 | refine below_set ?_ GE149.out) | exact HB.out)) hb)
                  have n2_ := Aside0.mk (hbox)
                  have n3_ := Aside0.mk ((by rw [hg]; exact (below_size (by repeat (first | (with_reducible first | exact HB.out | apply below_alloc | apply pw_below_drewN | apply below_drew1 | refine below_set ?_ GE149.out) | exact HB.out))) : w.heap.size ≤ gb151))
                  have n4_ := Aside0.mk ((by rw [hg]; exact (below_size (by repeat (first | (with_reducible first | exact HB.out | apply below_alloc | apply pw_below_drewN | apply below_drew1 | refine below_set ?_ GE149.out) | exact HB.out))) : w.heap.size ≤ gb151))
                  have n5_ := Aside0.mk ((by rw [hg]; exact Nat.ne_of_lt (blk_lt (g := gb149) (o := .cells #[.slice A0_0 l0_0.length c0_0, .slice A0_1 l0_1.length c0_1, .int .i64 a0_2, .int .i64 a0_3, .int .i64 a0_4, .int .i64 a0_5, .int .i64 a0_6, .int .i64 a0_7, .int .i64 a0_8] 48 (0, 0)) (by (with_reducible repeat (first | refine blk_drewN ?_ _ | refine blk_drew ?_ | refine blk_alloc ?_ _)); exact BK149.out)) : gb149 ≠ gb151))
                  have n6_ := Aside0.mk ((by rw [hg]; exact Nat.ne_of_gt (blk_lt (g := gb149) (o := .cells #[.slice A0_0 l0_0.length c0_0, .slice A0_1 l0_1.length c0_1, .int .i64 a0_2, .int .i64 a0_3, .int .i64 a0_4, .int .i64 a0_5, .int .i64 a0_6, .int .i64 a0_7, .int .i64 a0_8] 48 (0, 0)) (by (with_reducible repeat (first | refine blk_drewN ?_ _ | refine blk_drew ?_ | refine blk_alloc ?_ _)); exact BK149.out)) : gb151 ≠ gb149))
                  clear BK149
                  clear HB
                  have BK149 := n0_
                  have HB := n1_
                  have BK151 := n2_
                  have GW151 := n3_
                  have GE151 := n4_
                  have NB149_151 := n5_
                  have NB151_149 := n6_
                  clear n0_ n1_ n2_ n3_ n4_ n5_ n6_
                  clear hb hbox hg
                  refine hK.out _ _ ⟨(blk_cell BK149.out 0).trans rfl, (blk_cell BK149.out 1).trans rfl, (blk_cell BK149.out 2).trans rfl, (blk_cell BK149.out 3).trans rfl, (blk_cell BK149.out 4).trans rfl, (blk_cell BK149.out 5).trans rfl, (blk_cell BK149.out 6).trans rfl, (blk_cell BK149.out 7).trans rfl, (blk_cell BK149.out 8).trans rfl⟩ (fun hHeld => ?_)
                  clear hK K
                  refine norm_ (a' := ?_) ?_ ?_
                  rotate_left
                  · show Act.put _ (some 4) _ = _
                    simp only [Act.put, List.setIfInBounds_toArray, List.set_cons_zero, List.set_cons_succ, i64_w, i32_w]
                    rfl
                  exact norm_ (by first | (simp only [putAll, Act.put, List.setIfInBounds_toArray, List.set_cons_zero, List.set_cons_succ]; done) | (simp only [putAll, Act.put, List.setIfInBounds_toArray, List.set_cons_zero, List.set_cons_succ]; rfl)) (hJ9 (gb151) _ ⟨hHeld, (by (with_reducible repeat (first | refine blk_drewN ?_ _ | refine blk_drew ?_ | refine blk_alloc ?_ _)); exact BK149.out), (by (with_reducible repeat (first | refine blk_drewN ?_ _ | refine blk_drew ?_ | refine blk_alloc ?_ _)); exact BK151.out), GW151.out, GE151.out, NB149_151.out, NB151_149.out, (by repeat (first | (with_reducible first | exact HB.out | apply below_alloc | apply pw_below_drewN | apply below_drew1 | refine below_set ?_ GE149.out | refine below_set ?_ GE151.out) | exact HB.out))⟩)
                · skip
                  refine box_step ?hg (N := 5) ?hd (cs := #[.int .i64 0, .int .i64 0, .int .i64 0]) (t := 35) ?hr ?_; (case hd => rfl); (case hg => rfl); (case hr => first | (go_simp; done) | (go_simp; rfl))
                  intro gb152 hg w5 hbox hb
                  have n0_ := Aside0.mk (blk_below (g := gb149) (o := .cells #[.slice A0_0 l0_0.length c0_0, .slice A0_1 l0_1.length c0_1, .int .i64 a0_2, .int .i64 a0_3, .int .i64 a0_4, .int .i64 a0_5, .int .i64 a0_6, .int .i64 a0_7, .int .i64 a0_8] 48 (0, 0)) (by (with_reducible repeat (first | refine blk_drewN ?_ _ | refine blk_drew ?_ | refine blk_alloc ?_ _)); exact BK149.out) hb)
                  have n1_ := Aside0.mk (below_step (by repeat (first | (with_reducible first | exact HB.out | apply below_alloc | apply pw_below_drewN | apply below_drew1 | refine below_set ?_ GE149.out) | exact HB.out)) hb)
                  have n2_ := Aside0.mk (hbox)
                  have n3_ := Aside0.mk ((by rw [hg]; exact (below_size (by repeat (first | (with_reducible first | exact HB.out | apply below_alloc | apply pw_below_drewN | apply below_drew1 | refine below_set ?_ GE149.out) | exact HB.out))) : w.heap.size ≤ gb152))
                  have n4_ := Aside0.mk ((by rw [hg]; exact (below_size (by repeat (first | (with_reducible first | exact HB.out | apply below_alloc | apply pw_below_drewN | apply below_drew1 | refine below_set ?_ GE149.out) | exact HB.out))) : w.heap.size ≤ gb152))
                  have n5_ := Aside0.mk ((by rw [hg]; exact Nat.ne_of_lt (blk_lt (g := gb149) (o := .cells #[.slice A0_0 l0_0.length c0_0, .slice A0_1 l0_1.length c0_1, .int .i64 a0_2, .int .i64 a0_3, .int .i64 a0_4, .int .i64 a0_5, .int .i64 a0_6, .int .i64 a0_7, .int .i64 a0_8] 48 (0, 0)) (by (with_reducible repeat (first | refine blk_drewN ?_ _ | refine blk_drew ?_ | refine blk_alloc ?_ _)); exact BK149.out)) : gb149 ≠ gb152))
                  have n6_ := Aside0.mk ((by rw [hg]; exact Nat.ne_of_gt (blk_lt (g := gb149) (o := .cells #[.slice A0_0 l0_0.length c0_0, .slice A0_1 l0_1.length c0_1, .int .i64 a0_2, .int .i64 a0_3, .int .i64 a0_4, .int .i64 a0_5, .int .i64 a0_6, .int .i64 a0_7, .int .i64 a0_8] 48 (0, 0)) (by (with_reducible repeat (first | refine blk_drewN ?_ _ | refine blk_drew ?_ | refine blk_alloc ?_ _)); exact BK149.out)) : gb152 ≠ gb149))
                  clear BK149
                  clear HB
                  have BK149 := n0_
                  have HB := n1_
                  have BK152 := n2_
                  have GW152 := n3_
                  have GE152 := n4_
                  have NB149_152 := n5_
                  have NB152_149 := n6_
                  clear n0_ n1_ n2_ n3_ n4_ n5_ n6_
                  clear hb hbox hg
                  refine hK.out _ _ ⟨(blk_cell BK149.out 0).trans rfl, (blk_cell BK149.out 1).trans rfl, (blk_cell BK149.out 2).trans rfl, (blk_cell BK149.out 3).trans rfl, (blk_cell BK149.out 4).trans rfl, (blk_cell BK149.out 5).trans rfl, (blk_cell BK149.out 6).trans rfl, (blk_cell BK149.out 7).trans rfl, (blk_cell BK149.out 8).trans rfl⟩ (fun hHeld => ?_)
                  clear hK K
                  refine norm_ (a' := ?_) ?_ ?_
                  rotate_left
                  · show Act.put _ (some 5) _ = _
                    simp only [Act.put, List.setIfInBounds_toArray, List.set_cons_zero, List.set_cons_succ, i64_w, i32_w]
                    rfl
                  exact norm_ (by first | (simp only [putAll, Act.put, List.setIfInBounds_toArray, List.set_cons_zero, List.set_cons_succ]; done) | (simp only [putAll, Act.put, List.setIfInBounds_toArray, List.set_cons_zero, List.set_cons_succ]; rfl)) (hJ10 (gb152) _ ⟨hHeld, (by (with_reducible repeat (first | refine blk_drewN ?_ _ | refine blk_drew ?_ | refine blk_alloc ?_ _)); exact BK149.out), (by (with_reducible repeat (first | refine blk_drewN ?_ _ | refine blk_drew ?_ | refine blk_alloc ?_ _)); exact BK152.out), GW152.out, GE152.out, NB149_152.out, NB152_149.out, (by repeat (first | (with_reducible first | exact HB.out | apply below_alloc | apply pw_below_drewN | apply below_drew1 | refine below_set ?_ GE149.out | refine below_set ?_ GE152.out) | exact HB.out))⟩)
              · skip
                rintro gb152 w6 ⟨hS_, h0_, h1_, h2_, h3_, h4_, h5_, h6_⟩
                have n0_ : Aside0 (w6.heap[gb149]? = some (.cells #[.slice A0_0 l0_0.length c0_0, .slice A0_1 l0_1.length c0_1, .int .i64 a0_2, .int .i64 a0_3, .int .i64 a0_4, .int .i64 a0_5, .int .i64 a0_6, .int .i64 a0_7, .int .i64 a0_8] 48 (0, 0))) := ⟨h0_⟩
                have n1_ : Aside0 (w6.heap[gb152]? = some (.cells #[.int .i64 0, .int .i64 0, .int .i64 0] 35 (0, 0))) := ⟨h1_⟩
                have n2_ : Aside0 (w.heap.size ≤ gb152) := ⟨h2_⟩
                have n3_ : Aside0 (w.heap.size ≤ gb152) := ⟨h3_⟩
                have n4_ : Aside0 (gb149 ≠ gb152) := ⟨h4_⟩
                have n5_ : Aside0 (gb152 ≠ gb149) := ⟨h5_⟩
                have n6_ : Aside0 (Below w.heap.size w w6) := ⟨h6_⟩
                clear BK149
                clear HB
                clear h0_ h1_ h2_ h3_ h4_ h5_ h6_
                have BK149 := n0_
                have BK152 := n1_
                have GW152 := n2_
                have GE152 := n3_
                have NB149_152 := n4_
                have NB152_149 := n5_
                have HB := n6_
                clear n0_ n1_ n2_ n3_ n4_ n5_ n6_
                have hHeld : w6.cell? ⟨gb149, 0, none⟩ = some (.slice A0_0 l0_0.length c0_0) ∧ w6.cell? ⟨gb149, 1, none⟩ = some (.slice A0_1 l0_1.length c0_1) ∧ w6.cell? ⟨gb149, 2, none⟩ = some (.int .i64 a0_2) ∧ w6.cell? ⟨gb149, 3, none⟩ = some (.int .i64 a0_3) ∧ w6.cell? ⟨gb149, 4, none⟩ = some (.int .i64 a0_4) ∧ w6.cell? ⟨gb149, 5, none⟩ = some (.int .i64 a0_5) ∧ w6.cell? ⟨gb149, 6, none⟩ = some (.int .i64 a0_6) ∧ w6.cell? ⟨gb149, 7, none⟩ = some (.int .i64 a0_7) ∧ w6.cell? ⟨gb149, 8, none⟩ = some (.int .i64 a0_8) := hS_
                refine norm_ (a' := ?_) ?_ ?_
                rotate_left
                · simp only [putAll, Act.put, List.setIfInBounds_toArray, List.set_cons_zero, List.set_cons_succ]
                  rfl
                refine two_ (i := 8) (j := 9) (Ni := some 3) (Nj := some 4) #[true, true, true, true, true, true, true, true, true, false, true, false, false, false, false] #[true, true, true, true, true, true, true, true, false, true, true, false, false, false, false] rfl rfl rfl rfl (two_of HT_.out (by kernel_rfl)) (by decide) (by decide) (fun K hK => ?_) (fun K hK => ?_)
                · skip
                  refine box_step ?hg (N := 3) ?hd (cs := #[.slice none 0 0, .slice none 0 0]) (t := 24) ?hr ?_; (case hd => rfl); (case hg => rfl); (case hr => first | (go_simp; done) | (go_simp; rfl))
                  intro gb150 hg w7 hbox hb
                  have n0_ := Aside0.mk (blk_below (g := gb149) (o := .cells #[.slice A0_0 l0_0.length c0_0, .slice A0_1 l0_1.length c0_1, .int .i64 a0_2, .int .i64 a0_3, .int .i64 a0_4, .int .i64 a0_5, .int .i64 a0_6, .int .i64 a0_7, .int .i64 a0_8] 48 (0, 0)) (by (with_reducible repeat (first | refine blk_drewN ?_ _ | refine blk_drew ?_ | refine blk_alloc ?_ _)); exact BK149.out) hb)
                  have n1_ := Aside0.mk (blk_below (g := gb152) (o := .cells #[.int .i64 0, .int .i64 0, .int .i64 0] 35 (0, 0)) (by (with_reducible repeat (first | refine blk_drewN ?_ _ | refine blk_drew ?_ | refine blk_alloc ?_ _)); exact BK152.out) hb)
                  have n2_ := Aside0.mk (below_step (by repeat (first | (with_reducible first | exact HB.out | apply below_alloc | apply pw_below_drewN | apply below_drew1 | refine below_set ?_ GE149.out | refine below_set ?_ GE152.out) | exact HB.out)) hb)
                  have n3_ := Aside0.mk (hbox)
                  have n4_ := Aside0.mk ((by rw [hg]; exact (below_size (by repeat (first | (with_reducible first | exact HB.out | apply below_alloc | apply pw_below_drewN | apply below_drew1 | refine below_set ?_ GE149.out | refine below_set ?_ GE152.out) | exact HB.out))) : w.heap.size ≤ gb150))
                  have n5_ := Aside0.mk ((by rw [hg]; exact (below_size (by repeat (first | (with_reducible first | exact HB.out | apply below_alloc | apply pw_below_drewN | apply below_drew1 | refine below_set ?_ GE149.out | refine below_set ?_ GE152.out) | exact HB.out))) : w.heap.size ≤ gb150))
                  have n6_ := Aside0.mk ((by rw [hg]; exact Nat.ne_of_lt (blk_lt (g := gb149) (o := .cells #[.slice A0_0 l0_0.length c0_0, .slice A0_1 l0_1.length c0_1, .int .i64 a0_2, .int .i64 a0_3, .int .i64 a0_4, .int .i64 a0_5, .int .i64 a0_6, .int .i64 a0_7, .int .i64 a0_8] 48 (0, 0)) (by (with_reducible repeat (first | refine blk_drewN ?_ _ | refine blk_drew ?_ | refine blk_alloc ?_ _)); exact BK149.out)) : gb149 ≠ gb150))
                  have n7_ := Aside0.mk ((by rw [hg]; exact Nat.ne_of_gt (blk_lt (g := gb149) (o := .cells #[.slice A0_0 l0_0.length c0_0, .slice A0_1 l0_1.length c0_1, .int .i64 a0_2, .int .i64 a0_3, .int .i64 a0_4, .int .i64 a0_5, .int .i64 a0_6, .int .i64 a0_7, .int .i64 a0_8] 48 (0, 0)) (by (with_reducible repeat (first | refine blk_drewN ?_ _ | refine blk_drew ?_ | refine blk_alloc ?_ _)); exact BK149.out)) : gb150 ≠ gb149))
                  have n8_ := Aside0.mk ((by rw [hg]; exact Nat.ne_of_lt (blk_lt (g := gb152) (o := .cells #[.int .i64 0, .int .i64 0, .int .i64 0] 35 (0, 0)) (by (with_reducible repeat (first | refine blk_drewN ?_ _ | refine blk_drew ?_ | refine blk_alloc ?_ _)); exact BK152.out)) : gb152 ≠ gb150))
                  have n9_ := Aside0.mk ((by rw [hg]; exact Nat.ne_of_gt (blk_lt (g := gb152) (o := .cells #[.int .i64 0, .int .i64 0, .int .i64 0] 35 (0, 0)) (by (with_reducible repeat (first | refine blk_drewN ?_ _ | refine blk_drew ?_ | refine blk_alloc ?_ _)); exact BK152.out)) : gb150 ≠ gb152))
                  clear BK149
                  clear BK152
                  clear HB
                  have BK149 := n0_
                  have BK152 := n1_
                  have HB := n2_
                  have BK150 := n3_
                  have GW150 := n4_
                  have GE150 := n5_
                  have NB149_150 := n6_
                  have NB150_149 := n7_
                  have NB152_150 := n8_
                  have NB150_152 := n9_
                  clear n0_ n1_ n2_ n3_ n4_ n5_ n6_ n7_ n8_ n9_
                  clear hb hbox hg
                  refine hK.out _ _ ⟨(blk_cell BK149.out 0).trans rfl, (blk_cell BK149.out 1).trans rfl, (blk_cell BK149.out 2).trans rfl, (blk_cell BK149.out 3).trans rfl, (blk_cell BK149.out 4).trans rfl, (blk_cell BK149.out 5).trans rfl, (blk_cell BK149.out 6).trans rfl, (blk_cell BK149.out 7).trans rfl, (blk_cell BK149.out 8).trans rfl⟩ (fun hHeld => ?_)
                  clear hK K
                  refine norm_ (a' := ?_) ?_ ?_
                  rotate_left
                  · show Act.put _ (some 3) _ = _
                    simp only [Act.put, List.setIfInBounds_toArray, List.set_cons_zero, List.set_cons_succ, i64_w, i32_w]
                    rfl
                  exact norm_ (by first | (simp only [putAll, Act.put, List.setIfInBounds_toArray, List.set_cons_zero, List.set_cons_succ]; done) | (simp only [putAll, Act.put, List.setIfInBounds_toArray, List.set_cons_zero, List.set_cons_succ]; rfl)) (hJ8_10 (gb150, gb152) _ ⟨hHeld, (by (with_reducible repeat (first | refine blk_drewN ?_ _ | refine blk_drew ?_ | refine blk_alloc ?_ _)); exact BK149.out), (by (with_reducible repeat (first | refine blk_drewN ?_ _ | refine blk_drew ?_ | refine blk_alloc ?_ _)); exact BK150.out), (by (with_reducible repeat (first | refine blk_drewN ?_ _ | refine blk_drew ?_ | refine blk_alloc ?_ _)); exact BK152.out), GW150.out, GE150.out, NB149_150.out, NB150_149.out, NB152_150.out, NB150_152.out, GW152.out, GE152.out, NB149_152.out, NB152_149.out, (by repeat (first | (with_reducible first | exact HB.out | apply below_alloc | apply pw_below_drewN | apply below_drew1 | refine below_set ?_ GE149.out | refine below_set ?_ GE152.out | refine below_set ?_ GE150.out) | exact HB.out))⟩)
                · skip
                  refine box_step ?hg (N := 4) ?hd (cs := #[.int .i64 0, .int .i64 0, .int .i64 0]) (t := 35) ?hr ?_; (case hd => rfl); (case hg => rfl); (case hr => first | (go_simp; done) | (go_simp; rfl))
                  intro gb151 hg w7 hbox hb
                  have n0_ := Aside0.mk (blk_below (g := gb149) (o := .cells #[.slice A0_0 l0_0.length c0_0, .slice A0_1 l0_1.length c0_1, .int .i64 a0_2, .int .i64 a0_3, .int .i64 a0_4, .int .i64 a0_5, .int .i64 a0_6, .int .i64 a0_7, .int .i64 a0_8] 48 (0, 0)) (by (with_reducible repeat (first | refine blk_drewN ?_ _ | refine blk_drew ?_ | refine blk_alloc ?_ _)); exact BK149.out) hb)
                  have n1_ := Aside0.mk (blk_below (g := gb152) (o := .cells #[.int .i64 0, .int .i64 0, .int .i64 0] 35 (0, 0)) (by (with_reducible repeat (first | refine blk_drewN ?_ _ | refine blk_drew ?_ | refine blk_alloc ?_ _)); exact BK152.out) hb)
                  have n2_ := Aside0.mk (below_step (by repeat (first | (with_reducible first | exact HB.out | apply below_alloc | apply pw_below_drewN | apply below_drew1 | refine below_set ?_ GE149.out | refine below_set ?_ GE152.out) | exact HB.out)) hb)
                  have n3_ := Aside0.mk (hbox)
                  have n4_ := Aside0.mk ((by rw [hg]; exact (below_size (by repeat (first | (with_reducible first | exact HB.out | apply below_alloc | apply pw_below_drewN | apply below_drew1 | refine below_set ?_ GE149.out | refine below_set ?_ GE152.out) | exact HB.out))) : w.heap.size ≤ gb151))
                  have n5_ := Aside0.mk ((by rw [hg]; exact (below_size (by repeat (first | (with_reducible first | exact HB.out | apply below_alloc | apply pw_below_drewN | apply below_drew1 | refine below_set ?_ GE149.out | refine below_set ?_ GE152.out) | exact HB.out))) : w.heap.size ≤ gb151))
                  have n6_ := Aside0.mk ((by rw [hg]; exact Nat.ne_of_lt (blk_lt (g := gb149) (o := .cells #[.slice A0_0 l0_0.length c0_0, .slice A0_1 l0_1.length c0_1, .int .i64 a0_2, .int .i64 a0_3, .int .i64 a0_4, .int .i64 a0_5, .int .i64 a0_6, .int .i64 a0_7, .int .i64 a0_8] 48 (0, 0)) (by (with_reducible repeat (first | refine blk_drewN ?_ _ | refine blk_drew ?_ | refine blk_alloc ?_ _)); exact BK149.out)) : gb149 ≠ gb151))
                  have n7_ := Aside0.mk ((by rw [hg]; exact Nat.ne_of_gt (blk_lt (g := gb149) (o := .cells #[.slice A0_0 l0_0.length c0_0, .slice A0_1 l0_1.length c0_1, .int .i64 a0_2, .int .i64 a0_3, .int .i64 a0_4, .int .i64 a0_5, .int .i64 a0_6, .int .i64 a0_7, .int .i64 a0_8] 48 (0, 0)) (by (with_reducible repeat (first | refine blk_drewN ?_ _ | refine blk_drew ?_ | refine blk_alloc ?_ _)); exact BK149.out)) : gb151 ≠ gb149))
                  have n8_ := Aside0.mk ((by rw [hg]; exact Nat.ne_of_lt (blk_lt (g := gb152) (o := .cells #[.int .i64 0, .int .i64 0, .int .i64 0] 35 (0, 0)) (by (with_reducible repeat (first | refine blk_drewN ?_ _ | refine blk_drew ?_ | refine blk_alloc ?_ _)); exact BK152.out)) : gb152 ≠ gb151))
                  have n9_ := Aside0.mk ((by rw [hg]; exact Nat.ne_of_gt (blk_lt (g := gb152) (o := .cells #[.int .i64 0, .int .i64 0, .int .i64 0] 35 (0, 0)) (by (with_reducible repeat (first | refine blk_drewN ?_ _ | refine blk_drew ?_ | refine blk_alloc ?_ _)); exact BK152.out)) : gb151 ≠ gb152))
                  clear BK149
                  clear BK152
                  clear HB
                  have BK149 := n0_
                  have BK152 := n1_
                  have HB := n2_
                  have BK151 := n3_
                  have GW151 := n4_
                  have GE151 := n5_
                  have NB149_151 := n6_
                  have NB151_149 := n7_
                  have NB152_151 := n8_
                  have NB151_152 := n9_
                  clear n0_ n1_ n2_ n3_ n4_ n5_ n6_ n7_ n8_ n9_
                  clear hb hbox hg
                  refine hK.out _ _ ⟨(blk_cell BK149.out 0).trans rfl, (blk_cell BK149.out 1).trans rfl, (blk_cell BK149.out 2).trans rfl, (blk_cell BK149.out 3).trans rfl, (blk_cell BK149.out 4).trans rfl, (blk_cell BK149.out 5).trans rfl, (blk_cell BK149.out 6).trans rfl, (blk_cell BK149.out 7).trans rfl, (blk_cell BK149.out 8).trans rfl⟩ (fun hHeld => ?_)
                  clear hK K
                  refine norm_ (a' := ?_) ?_ ?_
                  rotate_left
                  · show Act.put _ (some 4) _ = _
                    simp only [Act.put, List.setIfInBounds_toArray, List.set_cons_zero, List.set_cons_succ, i64_w, i32_w]
                    rfl
                  exact norm_ (by first | (simp only [putAll, Act.put, List.setIfInBounds_toArray, List.set_cons_zero, List.set_cons_succ]; done) | (simp only [putAll, Act.put, List.setIfInBounds_toArray, List.set_cons_zero, List.set_cons_succ]; rfl)) (hJ9_10 (gb151, gb152) _ ⟨hHeld, (by (with_reducible repeat (first | refine blk_drewN ?_ _ | refine blk_drew ?_ | refine blk_alloc ?_ _)); exact BK149.out), (by (with_reducible repeat (first | refine blk_drewN ?_ _ | refine blk_drew ?_ | refine blk_alloc ?_ _)); exact BK151.out), (by (with_reducible repeat (first | refine blk_drewN ?_ _ | refine blk_drew ?_ | refine blk_alloc ?_ _)); exact BK152.out), GW151.out, GE151.out, NB149_151.out, NB151_149.out, NB152_151.out, NB151_152.out, GW152.out, GE152.out, NB149_152.out, NB152_149.out, (by repeat (first | (with_reducible first | exact HB.out | apply below_alloc | apply pw_below_drewN | apply below_drew1 | refine below_set ?_ GE149.out | refine below_set ?_ GE152.out | refine below_set ?_ GE151.out) | exact HB.out))⟩)
            · skip
              rintro gb151 w6 ⟨hS_, h0_, h1_, h2_, h3_, h4_, h5_, h6_⟩
              have n0_ : Aside0 (w6.heap[gb149]? = some (.cells #[.slice A0_0 l0_0.length c0_0, .slice A0_1 l0_1.length c0_1, .int .i64 a0_2, .int .i64 a0_3, .int .i64 a0_4, .int .i64 a0_5, .int .i64 a0_6, .int .i64 a0_7, .int .i64 a0_8] 48 (0, 0))) := ⟨h0_⟩
              have n1_ : Aside0 (w6.heap[gb151]? = some (.cells #[.int .i64 0, .int .i64 0, .int .i64 0] 35 (0, 0))) := ⟨h1_⟩
              have n2_ : Aside0 (w.heap.size ≤ gb151) := ⟨h2_⟩
              have n3_ : Aside0 (w.heap.size ≤ gb151) := ⟨h3_⟩
              have n4_ : Aside0 (gb149 ≠ gb151) := ⟨h4_⟩
              have n5_ : Aside0 (gb151 ≠ gb149) := ⟨h5_⟩
              have n6_ : Aside0 (Below w.heap.size w w6) := ⟨h6_⟩
              clear BK149
              clear HB
              clear h0_ h1_ h2_ h3_ h4_ h5_ h6_
              have BK149 := n0_
              have BK151 := n1_
              have GW151 := n2_
              have GE151 := n3_
              have NB149_151 := n4_
              have NB151_149 := n5_
              have HB := n6_
              clear n0_ n1_ n2_ n3_ n4_ n5_ n6_
              have hHeld : w6.cell? ⟨gb149, 0, none⟩ = some (.slice A0_0 l0_0.length c0_0) ∧ w6.cell? ⟨gb149, 1, none⟩ = some (.slice A0_1 l0_1.length c0_1) ∧ w6.cell? ⟨gb149, 2, none⟩ = some (.int .i64 a0_2) ∧ w6.cell? ⟨gb149, 3, none⟩ = some (.int .i64 a0_3) ∧ w6.cell? ⟨gb149, 4, none⟩ = some (.int .i64 a0_4) ∧ w6.cell? ⟨gb149, 5, none⟩ = some (.int .i64 a0_5) ∧ w6.cell? ⟨gb149, 6, none⟩ = some (.int .i64 a0_6) ∧ w6.cell? ⟨gb149, 7, none⟩ = some (.int .i64 a0_7) ∧ w6.cell? ⟨gb149, 8, none⟩ = some (.int .i64 a0_8) := hS_
              refine norm_ (a' := ?_) ?_ ?_
              rotate_left
              · simp only [putAll, Act.put, List.setIfInBounds_toArray, List.set_cons_zero, List.set_cons_succ]
                rfl
              refine two_ (i := 8) (j := 10) (Ni := some 3) (Nj := some 5) #[true, true, true, true, true, true, true, true, true, true, false, false, false, false, false] #[true, true, true, true, true, true, true, true, false, true, true, false, false, false, false] rfl rfl rfl rfl (two_of HT_.out (by kernel_rfl)) (by decide) (by decide) (fun K hK => ?_) (fun K hK => ?_)
              · skip
                refine box_step ?hg (N := 3) ?hd (cs := #[.slice none 0 0, .slice none 0 0]) (t := 24) ?hr ?_; (case hd => rfl); (case hg => rfl); (case hr => first | (go_simp; done) | (go_simp; rfl))
                intro gb150 hg w7 hbox hb
                have n0_ := Aside0.mk (blk_below (g := gb149) (o := .cells #[.slice A0_0 l0_0.length c0_0, .slice A0_1 l0_1.length c0_1, .int .i64 a0_2, .int .i64 a0_3, .int .i64 a0_4, .int .i64 a0_5, .int .i64 a0_6, .int .i64 a0_7, .int .i64 a0_8] 48 (0, 0)) (by (with_reducible repeat (first | refine blk_drewN ?_ _ | refine blk_drew ?_ | refine blk_alloc ?_ _)); exact BK149.out) hb)
                have n1_ := Aside0.mk (blk_below (g := gb151) (o := .cells #[.int .i64 0, .int .i64 0, .int .i64 0] 35 (0, 0)) (by (with_reducible repeat (first | refine blk_drewN ?_ _ | refine blk_drew ?_ | refine blk_alloc ?_ _)); exact BK151.out) hb)
                have n2_ := Aside0.mk (below_step (by repeat (first | (with_reducible first | exact HB.out | apply below_alloc | apply pw_below_drewN | apply below_drew1 | refine below_set ?_ GE149.out | refine below_set ?_ GE151.out) | exact HB.out)) hb)
                have n3_ := Aside0.mk (hbox)
                have n4_ := Aside0.mk ((by rw [hg]; exact (below_size (by repeat (first | (with_reducible first | exact HB.out | apply below_alloc | apply pw_below_drewN | apply below_drew1 | refine below_set ?_ GE149.out | refine below_set ?_ GE151.out) | exact HB.out))) : w.heap.size ≤ gb150))
                have n5_ := Aside0.mk ((by rw [hg]; exact (below_size (by repeat (first | (with_reducible first | exact HB.out | apply below_alloc | apply pw_below_drewN | apply below_drew1 | refine below_set ?_ GE149.out | refine below_set ?_ GE151.out) | exact HB.out))) : w.heap.size ≤ gb150))
                have n6_ := Aside0.mk ((by rw [hg]; exact Nat.ne_of_lt (blk_lt (g := gb149) (o := .cells #[.slice A0_0 l0_0.length c0_0, .slice A0_1 l0_1.length c0_1, .int .i64 a0_2, .int .i64 a0_3, .int .i64 a0_4, .int .i64 a0_5, .int .i64 a0_6, .int .i64 a0_7, .int .i64 a0_8] 48 (0, 0)) (by (with_reducible repeat (first | refine blk_drewN ?_ _ | refine blk_drew ?_ | refine blk_alloc ?_ _)); exact BK149.out)) : gb149 ≠ gb150))
                have n7_ := Aside0.mk ((by rw [hg]; exact Nat.ne_of_gt (blk_lt (g := gb149) (o := .cells #[.slice A0_0 l0_0.length c0_0, .slice A0_1 l0_1.length c0_1, .int .i64 a0_2, .int .i64 a0_3, .int .i64 a0_4, .int .i64 a0_5, .int .i64 a0_6, .int .i64 a0_7, .int .i64 a0_8] 48 (0, 0)) (by (with_reducible repeat (first | refine blk_drewN ?_ _ | refine blk_drew ?_ | refine blk_alloc ?_ _)); exact BK149.out)) : gb150 ≠ gb149))
                have n8_ := Aside0.mk ((by rw [hg]; exact Nat.ne_of_lt (blk_lt (g := gb151) (o := .cells #[.int .i64 0, .int .i64 0, .int .i64 0] 35 (0, 0)) (by (with_reducible repeat (first | refine blk_drewN ?_ _ | refine blk_drew ?_ | refine blk_alloc ?_ _)); exact BK151.out)) : gb151 ≠ gb150))
                have n9_ := Aside0.mk ((by rw [hg]; exact Nat.ne_of_gt (blk_lt (g := gb151) (o := .cells #[.int .i64 0, .int .i64 0, .int .i64 0] 35 (0, 0)) (by (with_reducible repeat (first | refine blk_drewN ?_ _ | refine blk_drew ?_ | refine blk_alloc ?_ _)); exact BK151.out)) : gb150 ≠ gb151))
                clear BK149
                clear BK151
                clear HB
                have BK149 := n0_
                have BK151 := n1_
                have HB := n2_
                have BK150 := n3_
                have GW150 := n4_
                have GE150 := n5_
                have NB149_150 := n6_
                have NB150_149 := n7_
                have NB151_150 := n8_
                have NB150_151 := n9_
                clear n0_ n1_ n2_ n3_ n4_ n5_ n6_ n7_ n8_ n9_
                clear hb hbox hg
                refine hK.out _ _ ⟨(blk_cell BK149.out 0).trans rfl, (blk_cell BK149.out 1).trans rfl, (blk_cell BK149.out 2).trans rfl, (blk_cell BK149.out 3).trans rfl, (blk_cell BK149.out 4).trans rfl, (blk_cell BK149.out 5).trans rfl, (blk_cell BK149.out 6).trans rfl, (blk_cell BK149.out 7).trans rfl, (blk_cell BK149.out 8).trans rfl⟩ (fun hHeld => ?_)
                clear hK K
                refine norm_ (a' := ?_) ?_ ?_
                rotate_left
                · show Act.put _ (some 3) _ = _
                  simp only [Act.put, List.setIfInBounds_toArray, List.set_cons_zero, List.set_cons_succ, i64_w, i32_w]
                  rfl
                exact norm_ (by first | (simp only [putAll, Act.put, List.setIfInBounds_toArray, List.set_cons_zero, List.set_cons_succ]; done) | (simp only [putAll, Act.put, List.setIfInBounds_toArray, List.set_cons_zero, List.set_cons_succ]; rfl)) (hJ8_9 (gb150, gb151) _ ⟨hHeld, (by (with_reducible repeat (first | refine blk_drewN ?_ _ | refine blk_drew ?_ | refine blk_alloc ?_ _)); exact BK149.out), (by (with_reducible repeat (first | refine blk_drewN ?_ _ | refine blk_drew ?_ | refine blk_alloc ?_ _)); exact BK150.out), (by (with_reducible repeat (first | refine blk_drewN ?_ _ | refine blk_drew ?_ | refine blk_alloc ?_ _)); exact BK151.out), GW150.out, GE150.out, NB149_150.out, NB150_149.out, NB151_150.out, NB150_151.out, GW151.out, GE151.out, NB149_151.out, NB151_149.out, (by repeat (first | (with_reducible first | exact HB.out | apply below_alloc | apply pw_below_drewN | apply below_drew1 | refine below_set ?_ GE149.out | refine below_set ?_ GE151.out | refine below_set ?_ GE150.out) | exact HB.out))⟩)
              · skip
                refine box_step ?hg (N := 5) ?hd (cs := #[.int .i64 0, .int .i64 0, .int .i64 0]) (t := 35) ?hr ?_; (case hd => rfl); (case hg => rfl); (case hr => first | (go_simp; done) | (go_simp; rfl))
                intro gb152 hg w7 hbox hb
                have n0_ := Aside0.mk (blk_below (g := gb149) (o := .cells #[.slice A0_0 l0_0.length c0_0, .slice A0_1 l0_1.length c0_1, .int .i64 a0_2, .int .i64 a0_3, .int .i64 a0_4, .int .i64 a0_5, .int .i64 a0_6, .int .i64 a0_7, .int .i64 a0_8] 48 (0, 0)) (by (with_reducible repeat (first | refine blk_drewN ?_ _ | refine blk_drew ?_ | refine blk_alloc ?_ _)); exact BK149.out) hb)
                have n1_ := Aside0.mk (blk_below (g := gb151) (o := .cells #[.int .i64 0, .int .i64 0, .int .i64 0] 35 (0, 0)) (by (with_reducible repeat (first | refine blk_drewN ?_ _ | refine blk_drew ?_ | refine blk_alloc ?_ _)); exact BK151.out) hb)
                have n2_ := Aside0.mk (below_step (by repeat (first | (with_reducible first | exact HB.out | apply below_alloc | apply pw_below_drewN | apply below_drew1 | refine below_set ?_ GE149.out | refine below_set ?_ GE151.out) | exact HB.out)) hb)
                have n3_ := Aside0.mk (hbox)
                have n4_ := Aside0.mk ((by rw [hg]; exact (below_size (by repeat (first | (with_reducible first | exact HB.out | apply below_alloc | apply pw_below_drewN | apply below_drew1 | refine below_set ?_ GE149.out | refine below_set ?_ GE151.out) | exact HB.out))) : w.heap.size ≤ gb152))
                have n5_ := Aside0.mk ((by rw [hg]; exact (below_size (by repeat (first | (with_reducible first | exact HB.out | apply below_alloc | apply pw_below_drewN | apply below_drew1 | refine below_set ?_ GE149.out | refine below_set ?_ GE151.out) | exact HB.out))) : w.heap.size ≤ gb152))
                have n6_ := Aside0.mk ((by rw [hg]; exact Nat.ne_of_lt (blk_lt (g := gb149) (o := .cells #[.slice A0_0 l0_0.length c0_0, .slice A0_1 l0_1.length c0_1, .int .i64 a0_2, .int .i64 a0_3, .int .i64 a0_4, .int .i64 a0_5, .int .i64 a0_6, .int .i64 a0_7, .int .i64 a0_8] 48 (0, 0)) (by (with_reducible repeat (first | refine blk_drewN ?_ _ | refine blk_drew ?_ | refine blk_alloc ?_ _)); exact BK149.out)) : gb149 ≠ gb152))
                have n7_ := Aside0.mk ((by rw [hg]; exact Nat.ne_of_gt (blk_lt (g := gb149) (o := .cells #[.slice A0_0 l0_0.length c0_0, .slice A0_1 l0_1.length c0_1, .int .i64 a0_2, .int .i64 a0_3, .int .i64 a0_4, .int .i64 a0_5, .int .i64 a0_6, .int .i64 a0_7, .int .i64 a0_8] 48 (0, 0)) (by (with_reducible repeat (first | refine blk_drewN ?_ _ | refine blk_drew ?_ | refine blk_alloc ?_ _)); exact BK149.out)) : gb152 ≠ gb149))
                have n8_ := Aside0.mk ((by rw [hg]; exact Nat.ne_of_lt (blk_lt (g := gb151) (o := .cells #[.int .i64 0, .int .i64 0, .int .i64 0] 35 (0, 0)) (by (with_reducible repeat (first | refine blk_drewN ?_ _ | refine blk_drew ?_ | refine blk_alloc ?_ _)); exact BK151.out)) : gb151 ≠ gb152))
                have n9_ := Aside0.mk ((by rw [hg]; exact Nat.ne_of_gt (blk_lt (g := gb151) (o := .cells #[.int .i64 0, .int .i64 0, .int .i64 0] 35 (0, 0)) (by (with_reducible repeat (first | refine blk_drewN ?_ _ | refine blk_drew ?_ | refine blk_alloc ?_ _)); exact BK151.out)) : gb152 ≠ gb151))
                clear BK149
                clear BK151
                clear HB
                have BK149 := n0_
                have BK151 := n1_
                have HB := n2_
                have BK152 := n3_
                have GW152 := n4_
                have GE152 := n5_
                have NB149_152 := n6_
                have NB152_149 := n7_
                have NB151_152 := n8_
                have NB152_151 := n9_
                clear n0_ n1_ n2_ n3_ n4_ n5_ n6_ n7_ n8_ n9_
                clear hb hbox hg
                refine hK.out _ _ ⟨(blk_cell BK149.out 0).trans rfl, (blk_cell BK149.out 1).trans rfl, (blk_cell BK149.out 2).trans rfl, (blk_cell BK149.out 3).trans rfl, (blk_cell BK149.out 4).trans rfl, (blk_cell BK149.out 5).trans rfl, (blk_cell BK149.out 6).trans rfl, (blk_cell BK149.out 7).trans rfl, (blk_cell BK149.out 8).trans rfl⟩ (fun hHeld => ?_)
                clear hK K
                refine norm_ (a' := ?_) ?_ ?_
                rotate_left
                · show Act.put _ (some 5) _ = _
                  simp only [Act.put, List.setIfInBounds_toArray, List.set_cons_zero, List.set_cons_succ, i64_w, i32_w]
                  rfl
                exact norm_ (by first | (simp only [putAll, Act.put, List.setIfInBounds_toArray, List.set_cons_zero, List.set_cons_succ]; done) | (simp only [putAll, Act.put, List.setIfInBounds_toArray, List.set_cons_zero, List.set_cons_succ]; rfl)) (hJ9_10 (gb151, gb152) _ ⟨hHeld, (by (with_reducible repeat (first | refine blk_drewN ?_ _ | refine blk_drew ?_ | refine blk_alloc ?_ _)); exact BK149.out), (by (with_reducible repeat (first | refine blk_drewN ?_ _ | refine blk_drew ?_ | refine blk_alloc ?_ _)); exact BK151.out), (by (with_reducible repeat (first | refine blk_drewN ?_ _ | refine blk_drew ?_ | refine blk_alloc ?_ _)); exact BK152.out), GW151.out, GE151.out, NB149_151.out, NB151_149.out, NB152_151.out, NB151_152.out, GW152.out, GE152.out, NB149_152.out, NB152_149.out, (by repeat (first | (with_reducible first | exact HB.out | apply below_alloc | apply pw_below_drewN | apply below_drew1 | refine below_set ?_ GE149.out | refine below_set ?_ GE151.out | refine below_set ?_ GE152.out) | exact HB.out))⟩)
          · skip
            rintro gb150 w6 ⟨hS_, h0_, h1_, h2_, h3_, h4_, h5_, h6_⟩
            have n0_ : Aside0 (w6.heap[gb149]? = some (.cells #[.slice A0_0 l0_0.length c0_0, .slice A0_1 l0_1.length c0_1, .int .i64 a0_2, .int .i64 a0_3, .int .i64 a0_4, .int .i64 a0_5, .int .i64 a0_6, .int .i64 a0_7, .int .i64 a0_8] 48 (0, 0))) := ⟨h0_⟩
            have n1_ : Aside0 (w6.heap[gb150]? = some (.cells #[.slice none 0 0, .slice none 0 0] 24 (0, 0))) := ⟨h1_⟩
            have n2_ : Aside0 (w.heap.size ≤ gb150) := ⟨h2_⟩
            have n3_ : Aside0 (w.heap.size ≤ gb150) := ⟨h3_⟩
            have n4_ : Aside0 (gb149 ≠ gb150) := ⟨h4_⟩
            have n5_ : Aside0 (gb150 ≠ gb149) := ⟨h5_⟩
            have n6_ : Aside0 (Below w.heap.size w w6) := ⟨h6_⟩
            clear BK149
            clear HB
            clear h0_ h1_ h2_ h3_ h4_ h5_ h6_
            have BK149 := n0_
            have BK150 := n1_
            have GW150 := n2_
            have GE150 := n3_
            have NB149_150 := n4_
            have NB150_149 := n5_
            have HB := n6_
            clear n0_ n1_ n2_ n3_ n4_ n5_ n6_
            have hHeld : w6.cell? ⟨gb149, 0, none⟩ = some (.slice A0_0 l0_0.length c0_0) ∧ w6.cell? ⟨gb149, 1, none⟩ = some (.slice A0_1 l0_1.length c0_1) ∧ w6.cell? ⟨gb149, 2, none⟩ = some (.int .i64 a0_2) ∧ w6.cell? ⟨gb149, 3, none⟩ = some (.int .i64 a0_3) ∧ w6.cell? ⟨gb149, 4, none⟩ = some (.int .i64 a0_4) ∧ w6.cell? ⟨gb149, 5, none⟩ = some (.int .i64 a0_5) ∧ w6.cell? ⟨gb149, 6, none⟩ = some (.int .i64 a0_6) ∧ w6.cell? ⟨gb149, 7, none⟩ = some (.int .i64 a0_7) ∧ w6.cell? ⟨gb149, 8, none⟩ = some (.int .i64 a0_8) := hS_
            refine norm_ (a' := ?_) ?_ ?_
            rotate_left
            · simp only [putAll, Act.put, List.setIfInBounds_toArray, List.set_cons_zero, List.set_cons_succ]
              rfl
            refine two_ (i := 9) (j := 10) (Ni := some 4) (Nj := some 5) #[true, true, true, true, true, true, true, true, true, true, false, false, false, false, false] #[true, true, true, true, true, true, true, true, true, false, true, false, false, false, false] rfl rfl rfl rfl (two_of HT_.out (by kernel_rfl)) (by decide) (by decide) (fun K hK => ?_) (fun K hK => ?_)
            · skip
              refine box_step ?hg (N := 4) ?hd (cs := #[.int .i64 0, .int .i64 0, .int .i64 0]) (t := 35) ?hr ?_; (case hd => rfl); (case hg => rfl); (case hr => first | (go_simp; done) | (go_simp; rfl))
              intro gb151 hg w7 hbox hb
              have n0_ := Aside0.mk (blk_below (g := gb149) (o := .cells #[.slice A0_0 l0_0.length c0_0, .slice A0_1 l0_1.length c0_1, .int .i64 a0_2, .int .i64 a0_3, .int .i64 a0_4, .int .i64 a0_5, .int .i64 a0_6, .int .i64 a0_7, .int .i64 a0_8] 48 (0, 0)) (by (with_reducible repeat (first | refine blk_drewN ?_ _ | refine blk_drew ?_ | refine blk_alloc ?_ _)); exact BK149.out) hb)
              have n1_ := Aside0.mk (blk_below (g := gb150) (o := .cells #[.slice none 0 0, .slice none 0 0] 24 (0, 0)) (by (with_reducible repeat (first | refine blk_drewN ?_ _ | refine blk_drew ?_ | refine blk_alloc ?_ _)); exact BK150.out) hb)
              have n2_ := Aside0.mk (below_step (by repeat (first | (with_reducible first | exact HB.out | apply below_alloc | apply pw_below_drewN | apply below_drew1 | refine below_set ?_ GE149.out | refine below_set ?_ GE150.out) | exact HB.out)) hb)
              have n3_ := Aside0.mk (hbox)
              have n4_ := Aside0.mk ((by rw [hg]; exact (below_size (by repeat (first | (with_reducible first | exact HB.out | apply below_alloc | apply pw_below_drewN | apply below_drew1 | refine below_set ?_ GE149.out | refine below_set ?_ GE150.out) | exact HB.out))) : w.heap.size ≤ gb151))
              have n5_ := Aside0.mk ((by rw [hg]; exact (below_size (by repeat (first | (with_reducible first | exact HB.out | apply below_alloc | apply pw_below_drewN | apply below_drew1 | refine below_set ?_ GE149.out | refine below_set ?_ GE150.out) | exact HB.out))) : w.heap.size ≤ gb151))
              have n6_ := Aside0.mk ((by rw [hg]; exact Nat.ne_of_lt (blk_lt (g := gb149) (o := .cells #[.slice A0_0 l0_0.length c0_0, .slice A0_1 l0_1.length c0_1, .int .i64 a0_2, .int .i64 a0_3, .int .i64 a0_4, .int .i64 a0_5, .int .i64 a0_6, .int .i64 a0_7, .int .i64 a0_8] 48 (0, 0)) (by (with_reducible repeat (first | refine blk_drewN ?_ _ | refine blk_drew ?_ | refine blk_alloc ?_ _)); exact BK149.out)) : gb149 ≠ gb151))
              have n7_ := Aside0.mk ((by rw [hg]; exact Nat.ne_of_gt (blk_lt (g := gb149) (o := .cells #[.slice A0_0 l0_0.length c0_0, .slice A0_1 l0_1.length c0_1, .int .i64 a0_2, .int .i64 a0_3, .int .i64 a0_4, .int .i64 a0_5, .int .i64 a0_6, .int .i64 a0_7, .int .i64 a0_8] 48 (0, 0)) (by (with_reducible repeat (first | refine blk_drewN ?_ _ | refine blk_drew ?_ | refine blk_alloc ?_ _)); exact BK149.out)) : gb151 ≠ gb149))
              have n8_ := Aside0.mk ((by rw [hg]; exact Nat.ne_of_lt (blk_lt (g := gb150) (o := .cells #[.slice none 0 0, .slice none 0 0] 24 (0, 0)) (by (with_reducible repeat (first | refine blk_drewN ?_ _ | refine blk_drew ?_ | refine blk_alloc ?_ _)); exact BK150.out)) : gb150 ≠ gb151))
              have n9_ := Aside0.mk ((by rw [hg]; exact Nat.ne_of_gt (blk_lt (g := gb150) (o := .cells #[.slice none 0 0, .slice none 0 0] 24 (0, 0)) (by (with_reducible repeat (first | refine blk_drewN ?_ _ | refine blk_drew ?_ | refine blk_alloc ?_ _)); exact BK150.out)) : gb151 ≠ gb150))
              clear BK149
              clear BK150
              clear HB
              have BK149 := n0_
              have BK150 := n1_
              have HB := n2_
              have BK151 := n3_
              have GW151 := n4_
              have GE151 := n5_
              have NB149_151 := n6_
              have NB151_149 := n7_
              have NB150_151 := n8_
              have NB151_150 := n9_
              clear n0_ n1_ n2_ n3_ n4_ n5_ n6_ n7_ n8_ n9_
              clear hb hbox hg
              refine hK.out _ _ ⟨(blk_cell BK149.out 0).trans rfl, (blk_cell BK149.out 1).trans rfl, (blk_cell BK149.out 2).trans rfl, (blk_cell BK149.out 3).trans rfl, (blk_cell BK149.out 4).trans rfl, (blk_cell BK149.out 5).trans rfl, (blk_cell BK149.out 6).trans rfl, (blk_cell BK149.out 7).trans rfl, (blk_cell BK149.out 8).trans rfl⟩ (fun hHeld => ?_)
              clear hK K
              refine norm_ (a' := ?_) ?_ ?_
              rotate_left
              · show Act.put _ (some 4) _ = _
                simp only [Act.put, List.setIfInBounds_toArray, List.set_cons_zero, List.set_cons_succ, i64_w, i32_w]
                rfl
              exact norm_ (by first | (simp only [putAll, Act.put, List.setIfInBounds_toArray, List.set_cons_zero, List.set_cons_succ]; done) | (simp only [putAll, Act.put, List.setIfInBounds_toArray, List.set_cons_zero, List.set_cons_succ]; rfl)) (hJ8_9 (gb150, gb151) _ ⟨hHeld, (by (with_reducible repeat (first | refine blk_drewN ?_ _ | refine blk_drew ?_ | refine blk_alloc ?_ _)); exact BK149.out), (by (with_reducible repeat (first | refine blk_drewN ?_ _ | refine blk_drew ?_ | refine blk_alloc ?_ _)); exact BK150.out), (by (with_reducible repeat (first | refine blk_drewN ?_ _ | refine blk_drew ?_ | refine blk_alloc ?_ _)); exact BK151.out), GW150.out, GE150.out, NB149_150.out, NB150_149.out, NB151_150.out, NB150_151.out, GW151.out, GE151.out, NB149_151.out, NB151_149.out, (by repeat (first | (with_reducible first | exact HB.out | apply below_alloc | apply pw_below_drewN | apply below_drew1 | refine below_set ?_ GE149.out | refine below_set ?_ GE150.out | refine below_set ?_ GE151.out) | exact HB.out))⟩)
            · skip
              refine box_step ?hg (N := 5) ?hd (cs := #[.int .i64 0, .int .i64 0, .int .i64 0]) (t := 35) ?hr ?_; (case hd => rfl); (case hg => rfl); (case hr => first | (go_simp; done) | (go_simp; rfl))
              intro gb152 hg w7 hbox hb
              have n0_ := Aside0.mk (blk_below (g := gb149) (o := .cells #[.slice A0_0 l0_0.length c0_0, .slice A0_1 l0_1.length c0_1, .int .i64 a0_2, .int .i64 a0_3, .int .i64 a0_4, .int .i64 a0_5, .int .i64 a0_6, .int .i64 a0_7, .int .i64 a0_8] 48 (0, 0)) (by (with_reducible repeat (first | refine blk_drewN ?_ _ | refine blk_drew ?_ | refine blk_alloc ?_ _)); exact BK149.out) hb)
              have n1_ := Aside0.mk (blk_below (g := gb150) (o := .cells #[.slice none 0 0, .slice none 0 0] 24 (0, 0)) (by (with_reducible repeat (first | refine blk_drewN ?_ _ | refine blk_drew ?_ | refine blk_alloc ?_ _)); exact BK150.out) hb)
              have n2_ := Aside0.mk (below_step (by repeat (first | (with_reducible first | exact HB.out | apply below_alloc | apply pw_below_drewN | apply below_drew1 | refine below_set ?_ GE149.out | refine below_set ?_ GE150.out) | exact HB.out)) hb)
              have n3_ := Aside0.mk (hbox)
              have n4_ := Aside0.mk ((by rw [hg]; exact (below_size (by repeat (first | (with_reducible first | exact HB.out | apply below_alloc | apply pw_below_drewN | apply below_drew1 | refine below_set ?_ GE149.out | refine below_set ?_ GE150.out) | exact HB.out))) : w.heap.size ≤ gb152))
              have n5_ := Aside0.mk ((by rw [hg]; exact (below_size (by repeat (first | (with_reducible first | exact HB.out | apply below_alloc | apply pw_below_drewN | apply below_drew1 | refine below_set ?_ GE149.out | refine below_set ?_ GE150.out) | exact HB.out))) : w.heap.size ≤ gb152))
              have n6_ := Aside0.mk ((by rw [hg]; exact Nat.ne_of_lt (blk_lt (g := gb149) (o := .cells #[.slice A0_0 l0_0.length c0_0, .slice A0_1 l0_1.length c0_1, .int .i64 a0_2, .int .i64 a0_3, .int .i64 a0_4, .int .i64 a0_5, .int .i64 a0_6, .int .i64 a0_7, .int .i64 a0_8] 48 (0, 0)) (by (with_reducible repeat (first | refine blk_drewN ?_ _ | refine blk_drew ?_ | refine blk_alloc ?_ _)); exact BK149.out)) : gb149 ≠ gb152))
              have n7_ := Aside0.mk ((by rw [hg]; exact Nat.ne_of_gt (blk_lt (g := gb149) (o := .cells #[.slice A0_0 l0_0.length c0_0, .slice A0_1 l0_1.length c0_1, .int .i64 a0_2, .int .i64 a0_3, .int .i64 a0_4, .int .i64 a0_5, .int .i64 a0_6, .int .i64 a0_7, .int .i64 a0_8] 48 (0, 0)) (by (with_reducible repeat (first | refine blk_drewN ?_ _ | refine blk_drew ?_ | refine blk_alloc ?_ _)); exact BK149.out)) : gb152 ≠ gb149))
              have n8_ := Aside0.mk ((by rw [hg]; exact Nat.ne_of_lt (blk_lt (g := gb150) (o := .cells #[.slice none 0 0, .slice none 0 0] 24 (0, 0)) (by (with_reducible repeat (first | refine blk_drewN ?_ _ | refine blk_drew ?_ | refine blk_alloc ?_ _)); exact BK150.out)) : gb150 ≠ gb152))
              have n9_ := Aside0.mk ((by rw [hg]; exact Nat.ne_of_gt (blk_lt (g := gb150) (o := .cells #[.slice none 0 0, .slice none 0 0] 24 (0, 0)) (by (with_reducible repeat (first | refine blk_drewN ?_ _ | refine blk_drew ?_ | refine blk_alloc ?_ _)); exact BK150.out)) : gb152 ≠ gb150))
              clear BK149
              clear BK150
              clear HB
              have BK149 := n0_
              have BK150 := n1_
              have HB := n2_
              have BK152 := n3_
              have GW152 := n4_
              have GE152 := n5_
              have NB149_152 := n6_
              have NB152_149 := n7_
              have NB150_152 := n8_
              have NB152_150 := n9_
              clear n0_ n1_ n2_ n3_ n4_ n5_ n6_ n7_ n8_ n9_
              clear hb hbox hg
              refine hK.out _ _ ⟨(blk_cell BK149.out 0).trans rfl, (blk_cell BK149.out 1).trans rfl, (blk_cell BK149.out 2).trans rfl, (blk_cell BK149.out 3).trans rfl, (blk_cell BK149.out 4).trans rfl, (blk_cell BK149.out 5).trans rfl, (blk_cell BK149.out 6).trans rfl, (blk_cell BK149.out 7).trans rfl, (blk_cell BK149.out 8).trans rfl⟩ (fun hHeld => ?_)
              clear hK K
              refine norm_ (a' := ?_) ?_ ?_
              rotate_left
              · show Act.put _ (some 5) _ = _
                simp only [Act.put, List.setIfInBounds_toArray, List.set_cons_zero, List.set_cons_succ, i64_w, i32_w]
                rfl
              exact norm_ (by first | (simp only [putAll, Act.put, List.setIfInBounds_toArray, List.set_cons_zero, List.set_cons_succ]; done) | (simp only [putAll, Act.put, List.setIfInBounds_toArray, List.set_cons_zero, List.set_cons_succ]; rfl)) (hJ8_10 (gb150, gb152) _ ⟨hHeld, (by (with_reducible repeat (first | refine blk_drewN ?_ _ | refine blk_drew ?_ | refine blk_alloc ?_ _)); exact BK149.out), (by (with_reducible repeat (first | refine blk_drewN ?_ _ | refine blk_drew ?_ | refine blk_alloc ?_ _)); exact BK150.out), (by (with_reducible repeat (first | refine blk_drewN ?_ _ | refine blk_drew ?_ | refine blk_alloc ?_ _)); exact BK152.out), GW150.out, GE150.out, NB149_150.out, NB150_149.out, NB152_150.out, NB150_152.out, GW152.out, GE152.out, NB149_152.out, NB152_149.out, (by repeat (first | (with_reducible first | exact HB.out | apply below_alloc | apply pw_below_drewN | apply below_drew1 | refine below_set ?_ GE149.out | refine below_set ?_ GE150.out | refine below_set ?_ GE152.out) | exact HB.out))⟩)
        · skip
          rintro ⟨gb151, gb152⟩ w7 ⟨hS_, h0_, h1_, h2_, h3_, h4_, h5_, h6_, h7_, h8_, h9_, h10_, h11_, h12_, h13_⟩
          have n0_ : Aside0 (w7.heap[gb149]? = some (.cells #[.slice A0_0 l0_0.length c0_0, .slice A0_1 l0_1.length c0_1, .int .i64 a0_2, .int .i64 a0_3, .int .i64 a0_4, .int .i64 a0_5, .int .i64 a0_6, .int .i64 a0_7, .int .i64 a0_8] 48 (0, 0))) := ⟨h0_⟩
          have n1_ : Aside0 (w7.heap[gb151]? = some (.cells #[.int .i64 0, .int .i64 0, .int .i64 0] 35 (0, 0))) := ⟨h1_⟩
          have n2_ : Aside0 (w7.heap[gb152]? = some (.cells #[.int .i64 0, .int .i64 0, .int .i64 0] 35 (0, 0))) := ⟨h2_⟩
          have n3_ : Aside0 (w.heap.size ≤ gb151) := ⟨h3_⟩
          have n4_ : Aside0 (w.heap.size ≤ gb151) := ⟨h4_⟩
          have n5_ : Aside0 (gb149 ≠ gb151) := ⟨h5_⟩
          have n6_ : Aside0 (gb151 ≠ gb149) := ⟨h6_⟩
          have n7_ : Aside0 (gb152 ≠ gb151) := ⟨h7_⟩
          have n8_ : Aside0 (gb151 ≠ gb152) := ⟨h8_⟩
          have n9_ : Aside0 (w.heap.size ≤ gb152) := ⟨h9_⟩
          have n10_ : Aside0 (w.heap.size ≤ gb152) := ⟨h10_⟩
          have n11_ : Aside0 (gb149 ≠ gb152) := ⟨h11_⟩
          have n12_ : Aside0 (gb152 ≠ gb149) := ⟨h12_⟩
          have n13_ : Aside0 (Below w.heap.size w w7) := ⟨h13_⟩
          clear BK149
          clear HB
          clear h0_ h1_ h2_ h3_ h4_ h5_ h6_ h7_ h8_ h9_ h10_ h11_ h12_ h13_
          have BK149 := n0_
          have BK151 := n1_
          have BK152 := n2_
          have GW151 := n3_
          have GE151 := n4_
          have NB149_151 := n5_
          have NB151_149 := n6_
          have NB152_151 := n7_
          have NB151_152 := n8_
          have GW152 := n9_
          have GE152 := n10_
          have NB149_152 := n11_
          have NB152_149 := n12_
          have HB := n13_
          clear n0_ n1_ n2_ n3_ n4_ n5_ n6_ n7_ n8_ n9_ n10_ n11_ n12_ n13_
          have hHeld : w7.cell? ⟨gb149, 0, none⟩ = some (.slice A0_0 l0_0.length c0_0) ∧ w7.cell? ⟨gb149, 1, none⟩ = some (.slice A0_1 l0_1.length c0_1) ∧ w7.cell? ⟨gb149, 2, none⟩ = some (.int .i64 a0_2) ∧ w7.cell? ⟨gb149, 3, none⟩ = some (.int .i64 a0_3) ∧ w7.cell? ⟨gb149, 4, none⟩ = some (.int .i64 a0_4) ∧ w7.cell? ⟨gb149, 5, none⟩ = some (.int .i64 a0_5) ∧ w7.cell? ⟨gb149, 6, none⟩ = some (.int .i64 a0_6) ∧ w7.cell? ⟨gb149, 7, none⟩ = some (.int .i64 a0_7) ∧ w7.cell? ⟨gb149, 8, none⟩ = some (.int .i64 a0_8) := hS_
          refine norm_ (a' := ?_) ?_ ?_
          rotate_left
          · simp only [putAll, Act.put, List.setIfInBounds_toArray, List.set_cons_zero, List.set_cons_succ]
            rfl
          refine one_ (i := 8) (N := some 3) #[true, true, true, true, true, true, true, true, true, true, true, false, false, false, false] rfl rfl (one_of HT_.out (by kernel_rfl)) (by decide) (fun K hK => ?_)
          refine box_step ?hg (N := 3) ?hd (cs := #[.slice none 0 0, .slice none 0 0]) (t := 24) ?hr ?_; (case hd => rfl); (case hg => rfl); (case hr => first | (go_simp; done) | (go_simp; rfl))
          intro gb150 hg w8 hbox hb
          have n0_ := Aside0.mk (blk_below (g := gb149) (o := .cells #[.slice A0_0 l0_0.length c0_0, .slice A0_1 l0_1.length c0_1, .int .i64 a0_2, .int .i64 a0_3, .int .i64 a0_4, .int .i64 a0_5, .int .i64 a0_6, .int .i64 a0_7, .int .i64 a0_8] 48 (0, 0)) (by (with_reducible repeat (first | refine blk_drewN ?_ _ | refine blk_drew ?_ | refine blk_alloc ?_ _)); exact BK149.out) hb)
          have n1_ := Aside0.mk (blk_below (g := gb151) (o := .cells #[.int .i64 0, .int .i64 0, .int .i64 0] 35 (0, 0)) (by (with_reducible repeat (first | refine blk_drewN ?_ _ | refine blk_drew ?_ | refine blk_alloc ?_ _)); exact BK151.out) hb)
          have n2_ := Aside0.mk (blk_below (g := gb152) (o := .cells #[.int .i64 0, .int .i64 0, .int .i64 0] 35 (0, 0)) (by (with_reducible repeat (first | refine blk_drewN ?_ _ | refine blk_drew ?_ | refine blk_alloc ?_ _)); exact BK152.out) hb)
          have n3_ := Aside0.mk (below_step (by repeat (first | (with_reducible first | exact HB.out | apply below_alloc | apply pw_below_drewN | apply below_drew1 | refine below_set ?_ GE149.out | refine below_set ?_ GE151.out | refine below_set ?_ GE152.out) | exact HB.out)) hb)
          have n4_ := Aside0.mk (hbox)
          have n5_ := Aside0.mk ((by rw [hg]; exact (below_size (by repeat (first | (with_reducible first | exact HB.out | apply below_alloc | apply pw_below_drewN | apply below_drew1 | refine below_set ?_ GE149.out | refine below_set ?_ GE151.out | refine below_set ?_ GE152.out) | exact HB.out))) : w.heap.size ≤ gb150))
          have n6_ := Aside0.mk ((by rw [hg]; exact (below_size (by repeat (first | (with_reducible first | exact HB.out | apply below_alloc | apply pw_below_drewN | apply below_drew1 | refine below_set ?_ GE149.out | refine below_set ?_ GE151.out | refine below_set ?_ GE152.out) | exact HB.out))) : w.heap.size ≤ gb150))
          have n7_ := Aside0.mk ((by rw [hg]; exact Nat.ne_of_lt (blk_lt (g := gb149) (o := .cells #[.slice A0_0 l0_0.length c0_0, .slice A0_1 l0_1.length c0_1, .int .i64 a0_2, .int .i64 a0_3, .int .i64 a0_4, .int .i64 a0_5, .int .i64 a0_6, .int .i64 a0_7, .int .i64 a0_8] 48 (0, 0)) (by (with_reducible repeat (first | refine blk_drewN ?_ _ | refine blk_drew ?_ | refine blk_alloc ?_ _)); exact BK149.out)) : gb149 ≠ gb150))
          have n8_ := Aside0.mk ((by rw [hg]; exact Nat.ne_of_gt (blk_lt (g := gb149) (o := .cells #[.slice A0_0 l0_0.length c0_0, .slice A0_1 l0_1.length c0_1, .int .i64 a0_2, .int .i64 a0_3, .int .i64 a0_4, .int .i64 a0_5, .int .i64 a0_6, .int .i64 a0_7, .int .i64 a0_8] 48 (0, 0)) (by (with_reducible repeat (first | refine blk_drewN ?_ _ | refine blk_drew ?_ | refine blk_alloc ?_ _)); exact BK149.out)) : gb150 ≠ gb149))
          have n9_ := Aside0.mk ((by rw [hg]; exact Nat.ne_of_lt (blk_lt (g := gb151) (o := .cells #[.int .i64 0, .int .i64 0, .int .i64 0] 35 (0, 0)) (by (with_reducible repeat (first | refine blk_drewN ?_ _ | refine blk_drew ?_ | refine blk_alloc ?_ _)); exact BK151.out)) : gb151 ≠ gb150))
          have n10_ := Aside0.mk ((by rw [hg]; exact Nat.ne_of_gt (blk_lt (g := gb151) (o := .cells #[.int .i64 0, .int .i64 0, .int .i64 0] 35 (0, 0)) (by (with_reducible repeat (first | refine blk_drewN ?_ _ | refine blk_drew ?_ | refine blk_alloc ?_ _)); exact BK151.out)) : gb150 ≠ gb151))
          have n11_ := Aside0.mk ((by rw [hg]; exact Nat.ne_of_lt (blk_lt (g := gb152) (o := .cells #[.int .i64 0, .int .i64 0, .int .i64 0] 35 (0, 0)) (by (with_reducible repeat (first | refine blk_drewN ?_ _ | refine blk_drew ?_ | refine blk_alloc ?_ _)); exact BK152.out)) : gb152 ≠ gb150))
          have n12_ := Aside0.mk ((by rw [hg]; exact Nat.ne_of_gt (blk_lt (g := gb152) (o := .cells #[.int .i64 0, .int .i64 0, .int .i64 0] 35 (0, 0)) (by (with_reducible repeat (first | refine blk_drewN ?_ _ | refine blk_drew ?_ | refine blk_alloc ?_ _)); exact BK152.out)) : gb150 ≠ gb152))
          clear BK149
          clear BK151
          clear BK152
          clear HB
          have BK149 := n0_
          have BK151 := n1_
          have BK152 := n2_
          have HB := n3_
          have BK150 := n4_
          have GW150 := n5_
          have GE150 := n6_
          have NB149_150 := n7_
          have NB150_149 := n8_
          have NB151_150 := n9_
          have NB150_151 := n10_
          have NB152_150 := n11_
          have NB150_152 := n12_
          clear n0_ n1_ n2_ n3_ n4_ n5_ n6_ n7_ n8_ n9_ n10_ n11_ n12_
          clear hb hbox hg
          refine hK.out _ _ ⟨(blk_cell BK149.out 0).trans rfl, (blk_cell BK149.out 1).trans rfl, (blk_cell BK149.out 2).trans rfl, (blk_cell BK149.out 3).trans rfl, (blk_cell BK149.out 4).trans rfl, (blk_cell BK149.out 5).trans rfl, (blk_cell BK149.out 6).trans rfl, (blk_cell BK149.out 7).trans rfl, (blk_cell BK149.out 8).trans rfl⟩ (fun hHeld => ?_)
          clear hK K
          refine norm_ (a' := ?_) ?_ ?_
          rotate_left
          · show Act.put _ (some 3) _ = _
            simp only [Act.put, List.setIfInBounds_toArray, List.set_cons_zero, List.set_cons_succ, i64_w, i32_w]
            rfl
          exact norm_ (by first | (simp only [putAll, Act.put, List.setIfInBounds_toArray, List.set_cons_zero, List.set_cons_succ]; done) | (simp only [putAll, Act.put, List.setIfInBounds_toArray, List.set_cons_zero, List.set_cons_succ]; rfl)) (hJ8_9_10 (gb150, gb151, gb152) _ ⟨hHeld, (by (with_reducible repeat (first | refine blk_drewN ?_ _ | refine blk_drew ?_ | refine blk_alloc ?_ _)); exact BK149.out), (by (with_reducible repeat (first | refine blk_drewN ?_ _ | refine blk_drew ?_ | refine blk_alloc ?_ _)); exact BK150.out), (by (with_reducible repeat (first | refine blk_drewN ?_ _ | refine blk_drew ?_ | refine blk_alloc ?_ _)); exact BK151.out), (by (with_reducible repeat (first | refine blk_drewN ?_ _ | refine blk_drew ?_ | refine blk_alloc ?_ _)); exact BK152.out), GW150.out, GE150.out, NB149_150.out, NB150_149.out, NB151_150.out, NB150_151.out, NB152_150.out, NB150_152.out, GW151.out, GE151.out, NB149_151.out, NB151_149.out, NB152_151.out, NB151_152.out, GW152.out, GE152.out, NB149_152.out, NB152_149.out, (by repeat (first | (with_reducible first | exact HB.out | apply below_alloc | apply pw_below_drewN | apply below_drew1 | refine below_set ?_ GE149.out | refine below_set ?_ GE151.out | refine below_set ?_ GE152.out | refine below_set ?_ GE150.out) | exact HB.out))⟩)
      · skip
        rintro ⟨gb150, gb152⟩ w7 ⟨hS_, h0_, h1_, h2_, h3_, h4_, h5_, h6_, h7_, h8_, h9_, h10_, h11_, h12_, h13_⟩
        have n0_ : Aside0 (w7.heap[gb149]? = some (.cells #[.slice A0_0 l0_0.length c0_0, .slice A0_1 l0_1.length c0_1, .int .i64 a0_2, .int .i64 a0_3, .int .i64 a0_4, .int .i64 a0_5, .int .i64 a0_6, .int .i64 a0_7, .int .i64 a0_8] 48 (0, 0))) := ⟨h0_⟩
        have n1_ : Aside0 (w7.heap[gb150]? = some (.cells #[.slice none 0 0, .slice none 0 0] 24 (0, 0))) := ⟨h1_⟩
        have n2_ : Aside0 (w7.heap[gb152]? = some (.cells #[.int .i64 0, .int .i64 0, .int .i64 0] 35 (0, 0))) := ⟨h2_⟩
        have n3_ : Aside0 (w.heap.size ≤ gb150) := ⟨h3_⟩
        have n4_ : Aside0 (w.heap.size ≤ gb150) := ⟨h4_⟩
        have n5_ : Aside0 (gb149 ≠ gb150) := ⟨h5_⟩
        have n6_ : Aside0 (gb150 ≠ gb149) := ⟨h6_⟩
        have n7_ : Aside0 (gb152 ≠ gb150) := ⟨h7_⟩
        have n8_ : Aside0 (gb150 ≠ gb152) := ⟨h8_⟩
        have n9_ : Aside0 (w.heap.size ≤ gb152) := ⟨h9_⟩
        have n10_ : Aside0 (w.heap.size ≤ gb152) := ⟨h10_⟩
        have n11_ : Aside0 (gb149 ≠ gb152) := ⟨h11_⟩
        have n12_ : Aside0 (gb152 ≠ gb149) := ⟨h12_⟩
        have n13_ : Aside0 (Below w.heap.size w w7) := ⟨h13_⟩
        clear BK149
        clear HB
        clear h0_ h1_ h2_ h3_ h4_ h5_ h6_ h7_ h8_ h9_ h10_ h11_ h12_ h13_
        have BK149 := n0_
        have BK150 := n1_
        have BK152 := n2_
        have GW150 := n3_
        have GE150 := n4_
        have NB149_150 := n5_
        have NB150_149 := n6_
        have NB152_150 := n7_
        have NB150_152 := n8_
        have GW152 := n9_
        have GE152 := n10_
        have NB149_152 := n11_
        have NB152_149 := n12_
        have HB := n13_
        clear n0_ n1_ n2_ n3_ n4_ n5_ n6_ n7_ n8_ n9_ n10_ n11_ n12_ n13_
        have hHeld : w7.cell? ⟨gb149, 0, none⟩ = some (.slice A0_0 l0_0.length c0_0) ∧ w7.cell? ⟨gb149, 1, none⟩ = some (.slice A0_1 l0_1.length c0_1) ∧ w7.cell? ⟨gb149, 2, none⟩ = some (.int .i64 a0_2) ∧ w7.cell? ⟨gb149, 3, none⟩ = some (.int .i64 a0_3) ∧ w7.cell? ⟨gb149, 4, none⟩ = some (.int .i64 a0_4) ∧ w7.cell? ⟨gb149, 5, none⟩ = some (.int .i64 a0_5) ∧ w7.cell? ⟨gb149, 6, none⟩ = some (.int .i64 a0_6) ∧ w7.cell? ⟨gb149, 7, none⟩ = some (.int .i64 a0_7) ∧ w7.cell? ⟨gb149, 8, none⟩ = some (.int .i64 a0_8) := hS_
        refine norm_ (a' := ?_) ?_ ?_
        rotate_left
        · simp only [putAll, Act.put, List.setIfInBounds_toArray, List.set_cons_zero, List.set_cons_succ]
          rfl
        refine one_ (i := 9) (N := some 4) #[true, true, true, true, true, true, true, true, true, true, true, false, false, false, false] rfl rfl (one_of HT_.out (by kernel_rfl)) (by decide) (fun K hK => ?_)
        refine box_step ?hg (N := 4) ?hd (cs := #[.int .i64 0, .int .i64 0, .int .i64 0]) (t := 35) ?hr ?_; (case hd => rfl); (case hg => rfl); (case hr => first | (go_simp; done) | (go_simp; rfl))
        intro gb151 hg w8 hbox hb
        have n0_ := Aside0.mk (blk_below (g := gb149) (o := .cells #[.slice A0_0 l0_0.length c0_0, .slice A0_1 l0_1.length c0_1, .int .i64 a0_2, .int .i64 a0_3, .int .i64 a0_4, .int .i64 a0_5, .int .i64 a0_6, .int .i64 a0_7, .int .i64 a0_8] 48 (0, 0)) (by (with_reducible repeat (first | refine blk_drewN ?_ _ | refine blk_drew ?_ | refine blk_alloc ?_ _)); exact BK149.out) hb)
        have n1_ := Aside0.mk (blk_below (g := gb150) (o := .cells #[.slice none 0 0, .slice none 0 0] 24 (0, 0)) (by (with_reducible repeat (first | refine blk_drewN ?_ _ | refine blk_drew ?_ | refine blk_alloc ?_ _)); exact BK150.out) hb)
        have n2_ := Aside0.mk (blk_below (g := gb152) (o := .cells #[.int .i64 0, .int .i64 0, .int .i64 0] 35 (0, 0)) (by (with_reducible repeat (first | refine blk_drewN ?_ _ | refine blk_drew ?_ | refine blk_alloc ?_ _)); exact BK152.out) hb)
        have n3_ := Aside0.mk (below_step (by repeat (first | (with_reducible first | exact HB.out | apply below_alloc | apply pw_below_drewN | apply below_drew1 | refine below_set ?_ GE149.out | refine below_set ?_ GE150.out | refine below_set ?_ GE152.out) | exact HB.out)) hb)
        have n4_ := Aside0.mk (hbox)
        have n5_ := Aside0.mk ((by rw [hg]; exact (below_size (by repeat (first | (with_reducible first | exact HB.out | apply below_alloc | apply pw_below_drewN | apply below_drew1 | refine below_set ?_ GE149.out | refine below_set ?_ GE150.out | refine below_set ?_ GE152.out) | exact HB.out))) : w.heap.size ≤ gb151))
        have n6_ := Aside0.mk ((by rw [hg]; exact (below_size (by repeat (first | (with_reducible first | exact HB.out | apply below_alloc | apply pw_below_drewN | apply below_drew1 | refine below_set ?_ GE149.out | refine below_set ?_ GE150.out | refine below_set ?_ GE152.out) | exact HB.out))) : w.heap.size ≤ gb151))
        have n7_ := Aside0.mk ((by rw [hg]; exact Nat.ne_of_lt (blk_lt (g := gb149) (o := .cells #[.slice A0_0 l0_0.length c0_0, .slice A0_1 l0_1.length c0_1, .int .i64 a0_2, .int .i64 a0_3, .int .i64 a0_4, .int .i64 a0_5, .int .i64 a0_6, .int .i64 a0_7, .int .i64 a0_8] 48 (0, 0)) (by (with_reducible repeat (first | refine blk_drewN ?_ _ | refine blk_drew ?_ | refine blk_alloc ?_ _)); exact BK149.out)) : gb149 ≠ gb151))
        have n8_ := Aside0.mk ((by rw [hg]; exact Nat.ne_of_gt (blk_lt (g := gb149) (o := .cells #[.slice A0_0 l0_0.length c0_0, .slice A0_1 l0_1.length c0_1, .int .i64 a0_2, .int .i64 a0_3, .int .i64 a0_4, .int .i64 a0_5, .int .i64 a0_6, .int .i64 a0_7, .int .i64 a0_8] 48 (0, 0)) (by (with_reducible repeat (first | refine blk_drewN ?_ _ | refine blk_drew ?_ | refine blk_alloc ?_ _)); exact BK149.out)) : gb151 ≠ gb149))
        have n9_ := Aside0.mk ((by rw [hg]; exact Nat.ne_of_lt (blk_lt (g := gb150) (o := .cells #[.slice none 0 0, .slice none 0 0] 24 (0, 0)) (by (with_reducible repeat (first | refine blk_drewN ?_ _ | refine blk_drew ?_ | refine blk_alloc ?_ _)); exact BK150.out)) : gb150 ≠ gb151))
        have n10_ := Aside0.mk ((by rw [hg]; exact Nat.ne_of_gt (blk_lt (g := gb150) (o := .cells #[.slice none 0 0, .slice none 0 0] 24 (0, 0)) (by (with_reducible repeat (first | refine blk_drewN ?_ _ | refine blk_drew ?_ | refine blk_alloc ?_ _)); exact BK150.out)) : gb151 ≠ gb150))
        have n11_ := Aside0.mk ((by rw [hg]; exact Nat.ne_of_lt (blk_lt (g := gb152) (o := .cells #[.int .i64 0, .int .i64 0, .int .i64 0] 35 (0, 0)) (by (with_reducible repeat (first | refine blk_drewN ?_ _ | refine blk_drew ?_ | refine blk_alloc ?_ _)); exact BK152.out)) : gb152 ≠ gb151))
        have n12_ := Aside0.mk ((by rw [hg]; exact Nat.ne_of_gt (blk_lt (g := gb152) (o := .cells #[.int .i64 0, .int .i64 0, .int .i64 0] 35 (0, 0)) (by (with_reducible repeat (first | refine blk_drewN ?_ _ | refine blk_drew ?_ | refine blk_alloc ?_ _)); exact BK152.out)) : gb151 ≠ gb152))
        clear BK149
        clear BK150
        clear BK152
        clear HB
        have BK149 := n0_
        have BK150 := n1_
        have BK152 := n2_
        have HB := n3_
        have BK151 := n4_
        have GW151 := n5_
        have GE151 := n6_
        have NB149_151 := n7_
        have NB151_149 := n8_
        have NB150_151 := n9_
        have NB151_150 := n10_
        have NB152_151 := n11_
        have NB151_152 := n12_
        clear n0_ n1_ n2_ n3_ n4_ n5_ n6_ n7_ n8_ n9_ n10_ n11_ n12_
        clear hb hbox hg
        refine hK.out _ _ ⟨(blk_cell BK149.out 0).trans rfl, (blk_cell BK149.out 1).trans rfl, (blk_cell BK149.out 2).trans rfl, (blk_cell BK149.out 3).trans rfl, (blk_cell BK149.out 4).trans rfl, (blk_cell BK149.out 5).trans rfl, (blk_cell BK149.out 6).trans rfl, (blk_cell BK149.out 7).trans rfl, (blk_cell BK149.out 8).trans rfl⟩ (fun hHeld => ?_)
        clear hK K
        refine norm_ (a' := ?_) ?_ ?_
        rotate_left
        · show Act.put _ (some 4) _ = _
          simp only [Act.put, List.setIfInBounds_toArray, List.set_cons_zero, List.set_cons_succ, i64_w, i32_w]
          rfl
        exact norm_ (by first | (simp only [putAll, Act.put, List.setIfInBounds_toArray, List.set_cons_zero, List.set_cons_succ]; done) | (simp only [putAll, Act.put, List.setIfInBounds_toArray, List.set_cons_zero, List.set_cons_succ]; rfl)) (hJ8_9_10 (gb150, gb151, gb152) _ ⟨hHeld, (by (with_reducible repeat (first | refine blk_drewN ?_ _ | refine blk_drew ?_ | refine blk_alloc ?_ _)); exact BK149.out), (by (with_reducible repeat (first | refine blk_drewN ?_ _ | refine blk_drew ?_ | refine blk_alloc ?_ _)); exact BK150.out), (by (with_reducible repeat (first | refine blk_drewN ?_ _ | refine blk_drew ?_ | refine blk_alloc ?_ _)); exact BK151.out), (by (with_reducible repeat (first | refine blk_drewN ?_ _ | refine blk_drew ?_ | refine blk_alloc ?_ _)); exact BK152.out), GW150.out, GE150.out, NB149_150.out, NB150_149.out, NB151_150.out, NB150_151.out, NB152_150.out, NB150_152.out, GW151.out, GE151.out, NB149_151.out, NB151_149.out, NB152_151.out, NB151_152.out, GW152.out, GE152.out, NB149_152.out, NB152_149.out, (by repeat (first | (with_reducible first | exact HB.out | apply below_alloc | apply pw_below_drewN | apply below_drew1 | refine below_set ?_ GE149.out | refine below_set ?_ GE150.out | refine below_set ?_ GE152.out | refine below_set ?_ GE151.out) | exact HB.out))⟩)
    · skip
      rintro ⟨gb150, gb151⟩ w7 ⟨hS_, h0_, h1_, h2_, h3_, h4_, h5_, h6_, h7_, h8_, h9_, h10_, h11_, h12_, h13_⟩
      have n0_ : Aside0 (w7.heap[gb149]? = some (.cells #[.slice A0_0 l0_0.length c0_0, .slice A0_1 l0_1.length c0_1, .int .i64 a0_2, .int .i64 a0_3, .int .i64 a0_4, .int .i64 a0_5, .int .i64 a0_6, .int .i64 a0_7, .int .i64 a0_8] 48 (0, 0))) := ⟨h0_⟩
      have n1_ : Aside0 (w7.heap[gb150]? = some (.cells #[.slice none 0 0, .slice none 0 0] 24 (0, 0))) := ⟨h1_⟩
      have n2_ : Aside0 (w7.heap[gb151]? = some (.cells #[.int .i64 0, .int .i64 0, .int .i64 0] 35 (0, 0))) := ⟨h2_⟩
      have n3_ : Aside0 (w.heap.size ≤ gb150) := ⟨h3_⟩
      have n4_ : Aside0 (w.heap.size ≤ gb150) := ⟨h4_⟩
      have n5_ : Aside0 (gb149 ≠ gb150) := ⟨h5_⟩
      have n6_ : Aside0 (gb150 ≠ gb149) := ⟨h6_⟩
      have n7_ : Aside0 (gb151 ≠ gb150) := ⟨h7_⟩
      have n8_ : Aside0 (gb150 ≠ gb151) := ⟨h8_⟩
      have n9_ : Aside0 (w.heap.size ≤ gb151) := ⟨h9_⟩
      have n10_ : Aside0 (w.heap.size ≤ gb151) := ⟨h10_⟩
      have n11_ : Aside0 (gb149 ≠ gb151) := ⟨h11_⟩
      have n12_ : Aside0 (gb151 ≠ gb149) := ⟨h12_⟩
      have n13_ : Aside0 (Below w.heap.size w w7) := ⟨h13_⟩
      clear BK149
      clear HB
      clear h0_ h1_ h2_ h3_ h4_ h5_ h6_ h7_ h8_ h9_ h10_ h11_ h12_ h13_
      have BK149 := n0_
      have BK150 := n1_
      have BK151 := n2_
      have GW150 := n3_
      have GE150 := n4_
      have NB149_150 := n5_
      have NB150_149 := n6_
      have NB151_150 := n7_
      have NB150_151 := n8_
      have GW151 := n9_
      have GE151 := n10_
      have NB149_151 := n11_
      have NB151_149 := n12_
      have HB := n13_
      clear n0_ n1_ n2_ n3_ n4_ n5_ n6_ n7_ n8_ n9_ n10_ n11_ n12_ n13_
      have hHeld : w7.cell? ⟨gb149, 0, none⟩ = some (.slice A0_0 l0_0.length c0_0) ∧ w7.cell? ⟨gb149, 1, none⟩ = some (.slice A0_1 l0_1.length c0_1) ∧ w7.cell? ⟨gb149, 2, none⟩ = some (.int .i64 a0_2) ∧ w7.cell? ⟨gb149, 3, none⟩ = some (.int .i64 a0_3) ∧ w7.cell? ⟨gb149, 4, none⟩ = some (.int .i64 a0_4) ∧ w7.cell? ⟨gb149, 5, none⟩ = some (.int .i64 a0_5) ∧ w7.cell? ⟨gb149, 6, none⟩ = some (.int .i64 a0_6) ∧ w7.cell? ⟨gb149, 7, none⟩ = some (.int .i64 a0_7) ∧ w7.cell? ⟨gb149, 8, none⟩ = some (.int .i64 a0_8) := hS_
      refine norm_ (a' := ?_) ?_ ?_
      rotate_left
      · simp only [putAll, Act.put, List.setIfInBounds_toArray, List.set_cons_zero, List.set_cons_succ]
        rfl
      refine one_ (i := 10) (N := some 5) #[true, true, true, true, true, true, true, true, true, true, true, false, false, false, false] rfl rfl (one_of HT_.out (by kernel_rfl)) (by decide) (fun K hK => ?_)
      refine box_step ?hg (N := 5) ?hd (cs := #[.int .i64 0, .int .i64 0, .int .i64 0]) (t := 35) ?hr ?_; (case hd => rfl); (case hg => rfl); (case hr => first | (go_simp; done) | (go_simp; rfl))
      intro gb152 hg w8 hbox hb
      have n0_ := Aside0.mk (blk_below (g := gb149) (o := .cells #[.slice A0_0 l0_0.length c0_0, .slice A0_1 l0_1.length c0_1, .int .i64 a0_2, .int .i64 a0_3, .int .i64 a0_4, .int .i64 a0_5, .int .i64 a0_6, .int .i64 a0_7, .int .i64 a0_8] 48 (0, 0)) (by (with_reducible repeat (first | refine blk_drewN ?_ _ | refine blk_drew ?_ | refine blk_alloc ?_ _)); exact BK149.out) hb)
      have n1_ := Aside0.mk (blk_below (g := gb150) (o := .cells #[.slice none 0 0, .slice none 0 0] 24 (0, 0)) (by (with_reducible repeat (first | refine blk_drewN ?_ _ | refine blk_drew ?_ | refine blk_alloc ?_ _)); exact BK150.out) hb)
      have n2_ := Aside0.mk (blk_below (g := gb151) (o := .cells #[.int .i64 0, .int .i64 0, .int .i64 0] 35 (0, 0)) (by (with_reducible repeat (first | refine blk_drewN ?_ _ | refine blk_drew ?_ | refine blk_alloc ?_ _)); exact BK151.out) hb)
      have n3_ := Aside0.mk (below_step (by repeat (first | (with_reducible first | exact HB.out | apply below_alloc | apply pw_below_drewN | apply below_drew1 | refine below_set ?_ GE149.out | refine below_set ?_ GE150.out | refine below_set ?_ GE151.out) | exact HB.out)) hb)
      have n4_ := Aside0.mk (hbox)
      have n5_ := Aside0.mk ((by rw [hg]; exact (below_size (by repeat (first | (with_reducible first | exact HB.out | apply below_alloc | apply pw_below_drewN | apply below_drew1 | refine below_set ?_ GE149.out | refine below_set ?_ GE150.out | refine below_set ?_ GE151.out) | exact HB.out))) : w.heap.size ≤ gb152))
      have n6_ := Aside0.mk ((by rw [hg]; exact (below_size (by repeat (first | (with_reducible first | exact HB.out | apply below_alloc | apply pw_below_drewN | apply below_drew1 | refine below_set ?_ GE149.out | refine below_set ?_ GE150.out | refine below_set ?_ GE151.out) | exact HB.out))) : w.heap.size ≤ gb152))
      have n7_ := Aside0.mk ((by rw [hg]; exact Nat.ne_of_lt (blk_lt (g := gb149) (o := .cells #[.slice A0_0 l0_0.length c0_0, .slice A0_1 l0_1.length c0_1, .int .i64 a0_2, .int .i64 a0_3, .int .i64 a0_4, .int .i64 a0_5, .int .i64 a0_6, .int .i64 a0_7, .int .i64 a0_8] 48 (0, 0)) (by (with_reducible repeat (first | refine blk_drewN ?_ _ | refine blk_drew ?_ | refine blk_alloc ?_ _)); exact BK149.out)) : gb149 ≠ gb152))
      have n8_ := Aside0.mk ((by rw [hg]; exact Nat.ne_of_gt (blk_lt (g := gb149) (o := .cells #[.slice A0_0 l0_0.length c0_0, .slice A0_1 l0_1.length c0_1, .int .i64 a0_2, .int .i64 a0_3, .int .i64 a0_4, .int .i64 a0_5, .int .i64 a0_6, .int .i64 a0_7, .int .i64 a0_8] 48 (0, 0)) (by (with_reducible repeat (first | refine blk_drewN ?_ _ | refine blk_drew ?_ | refine blk_alloc ?_ _)); exact BK149.out)) : gb152 ≠ gb149))
      have n9_ := Aside0.mk ((by rw [hg]; exact Nat.ne_of_lt (blk_lt (g := gb150) (o := .cells #[.slice none 0 0, .slice none 0 0] 24 (0, 0)) (by (with_reducible repeat (first | refine blk_drewN ?_ _ | refine blk_drew ?_ | refine blk_alloc ?_ _)); exact BK150.out)) : gb150 ≠ gb152))
      have n10_ := Aside0.mk ((by rw [hg]; exact Nat.ne_of_gt (blk_lt (g := gb150) (o := .cells #[.slice none 0 0, .slice none 0 0] 24 (0, 0)) (by (with_reducible repeat (first | refine blk_drewN ?_ _ | refine blk_drew ?_ | refine blk_alloc ?_ _)); exact BK150.out)) : gb152 ≠ gb150))
      have n11_ := Aside0.mk ((by rw [hg]; exact Nat.ne_of_lt (blk_lt (g := gb151) (o := .cells #[.int .i64 0, .int .i64 0, .int .i64 0] 35 (0, 0)) (by (with_reducible repeat (first | refine blk_drewN ?_ _ | refine blk_drew ?_ | refine blk_alloc ?_ _)); exact BK151.out)) : gb151 ≠ gb152))
      have n12_ := Aside0.mk ((by rw [hg]; exact Nat.ne_of_gt (blk_lt (g := gb151) (o := .cells #[.int .i64 0, .int .i64 0, .int .i64 0] 35 (0, 0)) (by (with_reducible repeat (first | refine blk_drewN ?_ _ | refine blk_drew ?_ | refine blk_alloc ?_ _)); exact BK151.out)) : gb152 ≠ gb151))
      clear BK149
      clear BK150
      clear BK151
      clear HB
      have BK149 := n0_
      have BK150 := n1_
      have BK151 := n2_
      have HB := n3_
      have BK152 := n4_
      have GW152 := n5_
      have GE152 := n6_
      have NB149_152 := n7_
      have NB152_149 := n8_
      have NB150_152 := n9_
      have NB152_150 := n10_
      have NB151_152 := n11_
      have NB152_151 := n12_
      clear n0_ n1_ n2_ n3_ n4_ n5_ n6_ n7_ n8_ n9_ n10_ n11_ n12_
      clear hb hbox hg
      refine hK.out _ _ ⟨(blk_cell BK149.out 0).trans rfl, (blk_cell BK149.out 1).trans rfl, (blk_cell BK149.out 2).trans rfl, (blk_cell BK149.out 3).trans rfl, (blk_cell BK149.out 4).trans rfl, (blk_cell BK149.out 5).trans rfl, (blk_cell BK149.out 6).trans rfl, (blk_cell BK149.out 7).trans rfl, (blk_cell BK149.out 8).trans rfl⟩ (fun hHeld => ?_)
      clear hK K
      refine norm_ (a' := ?_) ?_ ?_
      rotate_left
      · show Act.put _ (some 5) _ = _
        simp only [Act.put, List.setIfInBounds_toArray, List.set_cons_zero, List.set_cons_succ, i64_w, i32_w]
        rfl
      exact norm_ (by first | (simp only [putAll, Act.put, List.setIfInBounds_toArray, List.set_cons_zero, List.set_cons_succ]; done) | (simp only [putAll, Act.put, List.setIfInBounds_toArray, List.set_cons_zero, List.set_cons_succ]; rfl)) (hJ8_9_10 (gb150, gb151, gb152) _ ⟨hHeld, (by (with_reducible repeat (first | refine blk_drewN ?_ _ | refine blk_drew ?_ | refine blk_alloc ?_ _)); exact BK149.out), (by (with_reducible repeat (first | refine blk_drewN ?_ _ | refine blk_drew ?_ | refine blk_alloc ?_ _)); exact BK150.out), (by (with_reducible repeat (first | refine blk_drewN ?_ _ | refine blk_drew ?_ | refine blk_alloc ?_ _)); exact BK151.out), (by (with_reducible repeat (first | refine blk_drewN ?_ _ | refine blk_drew ?_ | refine blk_alloc ?_ _)); exact BK152.out), GW150.out, GE150.out, NB149_150.out, NB150_149.out, NB151_150.out, NB150_151.out, NB152_150.out, NB150_152.out, GW151.out, GE151.out, NB149_151.out, NB151_149.out, NB152_151.out, NB151_152.out, GW152.out, GE152.out, NB149_152.out, NB152_149.out, (by repeat (first | (with_reducible first | exact HB.out | apply below_alloc | apply pw_below_drewN | apply below_drew1 | refine below_set ?_ GE149.out | refine below_set ?_ GE150.out | refine below_set ?_ GE151.out | refine below_set ?_ GE152.out) | exact HB.out))⟩)
  rintro ⟨gb150, gb151, gb152⟩ w8 ⟨hS_, h0_, h1_, h2_, h3_, h4_, h5_, h6_, h7_, h8_, h9_, h10_, h11_, h12_, h13_, h14_, h15_, h16_, h17_, h18_, h19_, h20_, h21_, h22_⟩
  have n0_ : Aside0 (w8.heap[gb149]? = some (.cells #[.slice A0_0 l0_0.length c0_0, .slice A0_1 l0_1.length c0_1, .int .i64 a0_2, .int .i64 a0_3, .int .i64 a0_4, .int .i64 a0_5, .int .i64 a0_6, .int .i64 a0_7, .int .i64 a0_8] 48 (0, 0))) := ⟨h0_⟩
  have n1_ : Aside0 (w8.heap[gb150]? = some (.cells #[.slice none 0 0, .slice none 0 0] 24 (0, 0))) := ⟨h1_⟩
  have n2_ : Aside0 (w8.heap[gb151]? = some (.cells #[.int .i64 0, .int .i64 0, .int .i64 0] 35 (0, 0))) := ⟨h2_⟩
  have n3_ : Aside0 (w8.heap[gb152]? = some (.cells #[.int .i64 0, .int .i64 0, .int .i64 0] 35 (0, 0))) := ⟨h3_⟩
  have n4_ : Aside0 (w.heap.size ≤ gb150) := ⟨h4_⟩
  have n5_ : Aside0 (w.heap.size ≤ gb150) := ⟨h5_⟩
  have n6_ : Aside0 (gb149 ≠ gb150) := ⟨h6_⟩
  have n7_ : Aside0 (gb150 ≠ gb149) := ⟨h7_⟩
  have n8_ : Aside0 (gb151 ≠ gb150) := ⟨h8_⟩
  have n9_ : Aside0 (gb150 ≠ gb151) := ⟨h9_⟩
  have n10_ : Aside0 (gb152 ≠ gb150) := ⟨h10_⟩
  have n11_ : Aside0 (gb150 ≠ gb152) := ⟨h11_⟩
  have n12_ : Aside0 (w.heap.size ≤ gb151) := ⟨h12_⟩
  have n13_ : Aside0 (w.heap.size ≤ gb151) := ⟨h13_⟩
  have n14_ : Aside0 (gb149 ≠ gb151) := ⟨h14_⟩
  have n15_ : Aside0 (gb151 ≠ gb149) := ⟨h15_⟩
  have n16_ : Aside0 (gb152 ≠ gb151) := ⟨h16_⟩
  have n17_ : Aside0 (gb151 ≠ gb152) := ⟨h17_⟩
  have n18_ : Aside0 (w.heap.size ≤ gb152) := ⟨h18_⟩
  have n19_ : Aside0 (w.heap.size ≤ gb152) := ⟨h19_⟩
  have n20_ : Aside0 (gb149 ≠ gb152) := ⟨h20_⟩
  have n21_ : Aside0 (gb152 ≠ gb149) := ⟨h21_⟩
  have n22_ : Aside0 (Below w.heap.size w w8) := ⟨h22_⟩
  clear BK149
  clear HB
  clear h0_ h1_ h2_ h3_ h4_ h5_ h6_ h7_ h8_ h9_ h10_ h11_ h12_ h13_ h14_ h15_ h16_ h17_ h18_ h19_ h20_ h21_ h22_
  have BK149 := n0_
  have BK150 := n1_
  have BK151 := n2_
  have BK152 := n3_
  have GW150 := n4_
  have GE150 := n5_
  have NB149_150 := n6_
  have NB150_149 := n7_
  have NB151_150 := n8_
  have NB150_151 := n9_
  have NB152_150 := n10_
  have NB150_152 := n11_
  have GW151 := n12_
  have GE151 := n13_
  have NB149_151 := n14_
  have NB151_149 := n15_
  have NB152_151 := n16_
  have NB151_152 := n17_
  have GW152 := n18_
  have GE152 := n19_
  have NB149_152 := n20_
  have NB152_149 := n21_
  have HB := n22_
  clear n0_ n1_ n2_ n3_ n4_ n5_ n6_ n7_ n8_ n9_ n10_ n11_ n12_ n13_ n14_ n15_ n16_ n17_ n18_ n19_ n20_ n21_ n22_
  have hHeld : w8.cell? ⟨gb149, 0, none⟩ = some (.slice A0_0 l0_0.length c0_0) ∧ w8.cell? ⟨gb149, 1, none⟩ = some (.slice A0_1 l0_1.length c0_1) ∧ w8.cell? ⟨gb149, 2, none⟩ = some (.int .i64 a0_2) ∧ w8.cell? ⟨gb149, 3, none⟩ = some (.int .i64 a0_3) ∧ w8.cell? ⟨gb149, 4, none⟩ = some (.int .i64 a0_4) ∧ w8.cell? ⟨gb149, 5, none⟩ = some (.int .i64 a0_5) ∧ w8.cell? ⟨gb149, 6, none⟩ = some (.int .i64 a0_6) ∧ w8.cell? ⟨gb149, 7, none⟩ = some (.int .i64 a0_7) ∧ w8.cell? ⟨gb149, 8, none⟩ = some (.int .i64 a0_8) := hS_
  refine norm_ (a' := ?_) ?_ ?_
  rotate_left
  · simp only [putAll, Act.put, List.setIfInBounds_toArray, List.set_cons_zero, List.set_cons_succ]
    rfl
  refine one_ (i := 11) (N := none) #[true, true, true, true, true, true, true, true, true, true, true, true, false, false, false] rfl rfl (one_of HT_.out (by kernel_rfl)) (by decide) (fun K hK => ?_)
  have hs9 : w8.cell? ⟨gb150, 0, none⟩ = some (.slice none 0 0) := (blk_cell BK150.out 0).trans rfl
  have hfs9 := blk_frozen BK150.out 0
  have hns9_0 := NB149_150.out
  have hns9_2 := NB151_150.out
  have hns9_3 := NB152_150.out
  have hms9_0 := NB150_149.out
  have hms9_2 := NB150_151.out
  have hms9_3 := NB150_152.out
  have hs10 : w8.cell? ⟨gb150, 1, none⟩ = some (.slice none 0 0) := (blk_cell BK150.out 1).trans rfl
  have hfs10 := blk_frozen BK150.out 1
  have hns10_0 := NB149_150.out
  have hns10_2 := NB151_150.out
  have hns10_3 := NB152_150.out
  have hms10_0 := NB150_149.out
  have hms10_2 := NB150_151.out
  have hms10_3 := NB150_152.out
  refine skip_ (w1 := ?_) (by rfl) rfl ?_ ?_
  rotate_left
  · go_simp
    rfl
  refine hK.out _ _ ⟨((cell_far (p := ⟨gb150, _, none⟩) NB149_150.out _).trans (((cell_far (p := ⟨gb150, _, none⟩) NB149_150.out _).trans (hHeld.1)))), ((cell_far (p := ⟨gb150, _, none⟩) NB149_150.out _).trans (((cell_far (p := ⟨gb150, _, none⟩) NB149_150.out _).trans (hHeld.2.1)))), ((cell_far (p := ⟨gb150, _, none⟩) NB149_150.out _).trans (((cell_far (p := ⟨gb150, _, none⟩) NB149_150.out _).trans (hHeld.2.2.1)))), ((cell_far (p := ⟨gb150, _, none⟩) NB149_150.out _).trans (((cell_far (p := ⟨gb150, _, none⟩) NB149_150.out _).trans (hHeld.2.2.2.1)))), ((cell_far (p := ⟨gb150, _, none⟩) NB149_150.out _).trans (((cell_far (p := ⟨gb150, _, none⟩) NB149_150.out _).trans (hHeld.2.2.2.2.1)))), ((cell_far (p := ⟨gb150, _, none⟩) NB149_150.out _).trans (((cell_far (p := ⟨gb150, _, none⟩) NB149_150.out _).trans (hHeld.2.2.2.2.2.1)))), ((cell_far (p := ⟨gb150, _, none⟩) NB149_150.out _).trans (((cell_far (p := ⟨gb150, _, none⟩) NB149_150.out _).trans (hHeld.2.2.2.2.2.2.1)))), ((cell_far (p := ⟨gb150, _, none⟩) NB149_150.out _).trans (((cell_far (p := ⟨gb150, _, none⟩) NB149_150.out _).trans (hHeld.2.2.2.2.2.2.2.1)))), ((cell_far (p := ⟨gb150, _, none⟩) NB149_150.out _).trans (((cell_far (p := ⟨gb150, _, none⟩) NB149_150.out _).trans (hHeld.2.2.2.2.2.2.2.2))))⟩ (fun hHeld => ?_)
  clear hK K
  refine one_ (i := 12) (N := none) #[true, true, true, true, true, true, true, true, true, true, true, true, true, false, false] rfl rfl (one_of HT_.out (by kernel_rfl)) (by decide) (fun K hK => ?_)
  have hs11 : w8.cell? ⟨gb151, 0, none⟩ = some (.int .i64 0) := (blk_cell BK151.out 0).trans rfl
  have hfs11 := blk_frozen BK151.out 0
  have hns11_0 := NB149_151.out
  have hns11_1 := NB150_151.out
  have hns11_3 := NB152_151.out
  have hms11_0 := NB151_149.out
  have hms11_1 := NB151_150.out
  have hms11_3 := NB151_152.out
  have hs12 : w8.cell? ⟨gb151, 1, none⟩ = some (.int .i64 0) := (blk_cell BK151.out 1).trans rfl
  have hfs12 := blk_frozen BK151.out 1
  have hns12_0 := NB149_151.out
  have hns12_1 := NB150_151.out
  have hns12_3 := NB152_151.out
  have hms12_0 := NB151_149.out
  have hms12_1 := NB151_150.out
  have hms12_3 := NB151_152.out
  have hs13 : w8.cell? ⟨gb151, 2, none⟩ = some (.int .i64 0) := (blk_cell BK151.out 2).trans rfl
  have hfs13 := blk_frozen BK151.out 2
  have hns13_0 := NB149_151.out
  have hns13_1 := NB150_151.out
  have hns13_3 := NB152_151.out
  have hms13_0 := NB151_149.out
  have hms13_1 := NB151_150.out
  have hms13_3 := NB151_152.out
  refine skip_ (w1 := ?_) (by rfl) rfl ?_ ?_
  rotate_left
  · go_simp
    rfl
  refine hK.out _ _ ⟨((cell_far (p := ⟨gb151, _, none⟩) NB149_151.out _).trans (((cell_far (p := ⟨gb151, _, none⟩) NB149_151.out _).trans (((cell_far (p := ⟨gb151, _, none⟩) NB149_151.out _).trans (hHeld.1)))))), ((cell_far (p := ⟨gb151, _, none⟩) NB149_151.out _).trans (((cell_far (p := ⟨gb151, _, none⟩) NB149_151.out _).trans (((cell_far (p := ⟨gb151, _, none⟩) NB149_151.out _).trans (hHeld.2.1)))))), ((cell_far (p := ⟨gb151, _, none⟩) NB149_151.out _).trans (((cell_far (p := ⟨gb151, _, none⟩) NB149_151.out _).trans (((cell_far (p := ⟨gb151, _, none⟩) NB149_151.out _).trans (hHeld.2.2.1)))))), ((cell_far (p := ⟨gb151, _, none⟩) NB149_151.out _).trans (((cell_far (p := ⟨gb151, _, none⟩) NB149_151.out _).trans (((cell_far (p := ⟨gb151, _, none⟩) NB149_151.out _).trans (hHeld.2.2.2.1)))))), ((cell_far (p := ⟨gb151, _, none⟩) NB149_151.out _).trans (((cell_far (p := ⟨gb151, _, none⟩) NB149_151.out _).trans (((cell_far (p := ⟨gb151, _, none⟩) NB149_151.out _).trans (hHeld.2.2.2.2.1)))))), ((cell_far (p := ⟨gb151, _, none⟩) NB149_151.out _).trans (((cell_far (p := ⟨gb151, _, none⟩) NB149_151.out _).trans (((cell_far (p := ⟨gb151, _, none⟩) NB149_151.out _).trans (hHeld.2.2.2.2.2.1)))))), ((cell_far (p := ⟨gb151, _, none⟩) NB149_151.out _).trans (((cell_far (p := ⟨gb151, _, none⟩) NB149_151.out _).trans (((cell_far (p := ⟨gb151, _, none⟩) NB149_151.out _).trans (hHeld.2.2.2.2.2.2.1)))))), ((cell_far (p := ⟨gb151, _, none⟩) NB149_151.out _).trans (((cell_far (p := ⟨gb151, _, none⟩) NB149_151.out _).trans (((cell_far (p := ⟨gb151, _, none⟩) NB149_151.out _).trans (hHeld.2.2.2.2.2.2.2.1)))))), ((cell_far (p := ⟨gb151, _, none⟩) NB149_151.out _).trans (((cell_far (p := ⟨gb151, _, none⟩) NB149_151.out _).trans (((cell_far (p := ⟨gb151, _, none⟩) NB149_151.out _).trans (hHeld.2.2.2.2.2.2.2.2))))))⟩ (fun hHeld => ?_)
  clear hK K
  refine one_ (i := 13) (N := none) #[true, true, true, true, true, true, true, true, true, true, true, true, true, true, false] rfl rfl (one_of HT_.out (by kernel_rfl)) (by decide) (fun K hK => ?_)
  have hs14 : w8.cell? ⟨gb152, 0, none⟩ = some (.int .i64 0) := (blk_cell BK152.out 0).trans rfl
  have hfs14 := blk_frozen BK152.out 0
  have hns14_0 := NB149_152.out
  have hns14_1 := NB150_152.out
  have hns14_2 := NB151_152.out
  have hms14_0 := NB152_149.out
  have hms14_1 := NB152_150.out
  have hms14_2 := NB152_151.out
  have hs15 : w8.cell? ⟨gb152, 1, none⟩ = some (.int .i64 0) := (blk_cell BK152.out 1).trans rfl
  have hfs15 := blk_frozen BK152.out 1
  have hns15_0 := NB149_152.out
  have hns15_1 := NB150_152.out
  have hns15_2 := NB151_152.out
  have hms15_0 := NB152_149.out
  have hms15_1 := NB152_150.out
  have hms15_2 := NB152_151.out
  have hs16 : w8.cell? ⟨gb152, 2, none⟩ = some (.int .i64 0) := (blk_cell BK152.out 2).trans rfl
  have hfs16 := blk_frozen BK152.out 2
  have hns16_0 := NB149_152.out
  have hns16_1 := NB150_152.out
  have hns16_2 := NB151_152.out
  have hms16_0 := NB152_149.out
  have hms16_1 := NB152_150.out
  have hms16_2 := NB152_151.out
  refine skip_ (w1 := ?_) (by rfl) rfl ?_ ?_
  rotate_left
  · go_simp
    rfl
  refine hK.out _ _ ⟨((cell_far (p := ⟨gb152, _, none⟩) NB149_152.out _).trans (((cell_far (p := ⟨gb152, _, none⟩) NB149_152.out _).trans (((cell_far (p := ⟨gb152, _, none⟩) NB149_152.out _).trans (hHeld.1)))))), ((cell_far (p := ⟨gb152, _, none⟩) NB149_152.out _).trans (((cell_far (p := ⟨gb152, _, none⟩) NB149_152.out _).trans (((cell_far (p := ⟨gb152, _, none⟩) NB149_152.out _).trans (hHeld.2.1)))))), ((cell_far (p := ⟨gb152, _, none⟩) NB149_152.out _).trans (((cell_far (p := ⟨gb152, _, none⟩) NB149_152.out _).trans (((cell_far (p := ⟨gb152, _, none⟩) NB149_152.out _).trans (hHeld.2.2.1)))))), ((cell_far (p := ⟨gb152, _, none⟩) NB149_152.out _).trans (((cell_far (p := ⟨gb152, _, none⟩) NB149_152.out _).trans (((cell_far (p := ⟨gb152, _, none⟩) NB149_152.out _).trans (hHeld.2.2.2.1)))))), ((cell_far (p := ⟨gb152, _, none⟩) NB149_152.out _).trans (((cell_far (p := ⟨gb152, _, none⟩) NB149_152.out _).trans (((cell_far (p := ⟨gb152, _, none⟩) NB149_152.out _).trans (hHeld.2.2.2.2.1)))))), ((cell_far (p := ⟨gb152, _, none⟩) NB149_152.out _).trans (((cell_far (p := ⟨gb152, _, none⟩) NB149_152.out _).trans (((cell_far (p := ⟨gb152, _, none⟩) NB149_152.out _).trans (hHeld.2.2.2.2.2.1)))))), ((cell_far (p := ⟨gb152, _, none⟩) NB149_152.out _).trans (((cell_far (p := ⟨gb152, _, none⟩) NB149_152.out _).trans (((cell_far (p := ⟨gb152, _, none⟩) NB149_152.out _).trans (hHeld.2.2.2.2.2.2.1)))))), ((cell_far (p := ⟨gb152, _, none⟩) NB149_152.out _).trans (((cell_far (p := ⟨gb152, _, none⟩) NB149_152.out _).trans (((cell_far (p := ⟨gb152, _, none⟩) NB149_152.out _).trans (hHeld.2.2.2.2.2.2.2.1)))))), ((cell_far (p := ⟨gb152, _, none⟩) NB149_152.out _).trans (((cell_far (p := ⟨gb152, _, none⟩) NB149_152.out _).trans (((cell_far (p := ⟨gb152, _, none⟩) NB149_152.out _).trans (hHeld.2.2.2.2.2.2.2.2))))))⟩ (fun hHeld => ?_)
  clear hK K
  refine pure_ (i := 14) (N := some 6) (v := ?_) (a' := ?_) #[true, true, true, true, true, true, true, true, true, true, true, true, true, true, true] rfl rfl (any_of HT_.out (by kernel_rfl)) (fun _ _ _ h => h) (Or.inl ⟨by rfl, ?_⟩) ?_ ?_
  rotate_left
  · intro w'
    go_simp
    with_reducible rfl
  rotate_left
  · simp only [Act.put, List.setIfInBounds_toArray, List.set_cons_zero, List.set_cons_succ, i64_w, i32_w]
    rfl
  refine done_ (done_of HT_.out (by kernel_rfl)) ?_
  have N150_151 := NB150_151.out
  have N151_150 := NB151_150.out
  have N150_152 := NB150_152.out
  have N152_150 := NB152_150.out
  have N151_152 := NB151_152.out
  have N152_151 := NB152_151.out
  have HB9 : Below w.heap.size w ((((((((w8.setCell ⟨gb150, 0, none⟩ (.slice A0_0 l0_0.length c0_0)).setCell ⟨gb150, 1, none⟩ (.slice A0_1 l0_1.length c0_1)).setCell ⟨gb151, 0, none⟩ (.int .i64 a0_2)).setCell ⟨gb151, 1, none⟩ (.int .i64 a0_3)).setCell ⟨gb151, 2, none⟩ (.int .i64 a0_4)).setCell ⟨gb152, 0, none⟩ (.int .i64 a0_5)).setCell ⟨gb152, 1, none⟩ (.int .i64 a0_6)).setCell ⟨gb152, 2, none⟩ (.int .i64 a0_7)) := ((((((((HB.out.setCell GE150.out _).setCell GE150.out _).setCell GE151.out _).setCell GE151.out _).setCell GE151.out _).setCell GE152.out _).setCell GE152.out _).setCell GE152.out _)
  have B150 : BoxN ((((((((w8.setCell ⟨gb150, 0, none⟩ (.slice A0_0 l0_0.length c0_0)).setCell ⟨gb150, 1, none⟩ (.slice A0_1 l0_1.length c0_1)).setCell ⟨gb151, 0, none⟩ (.int .i64 a0_2)).setCell ⟨gb151, 1, none⟩ (.int .i64 a0_3)).setCell ⟨gb151, 2, none⟩ (.int .i64 a0_4)).setCell ⟨gb152, 0, none⟩ (.int .i64 a0_5)).setCell ⟨gb152, 1, none⟩ (.int .i64 a0_6)).setCell ⟨gb152, 2, none⟩ (.int .i64 a0_7)) gb150 24 [.slice A0_0 l0_0.length c0_0, .slice A0_1 l0_1.length c0_1] := (((((((((show BoxN w8 gb150 24 [.slice none 0 0, .slice none 0 0] from BK150.out).set 0 _).set 1 _).other N150_151 _).other N150_151 _).other N150_151 _).other N150_152 _).other N150_152 _).other N150_152 _)
  have B151 : BoxN ((((((((w8.setCell ⟨gb150, 0, none⟩ (.slice A0_0 l0_0.length c0_0)).setCell ⟨gb150, 1, none⟩ (.slice A0_1 l0_1.length c0_1)).setCell ⟨gb151, 0, none⟩ (.int .i64 a0_2)).setCell ⟨gb151, 1, none⟩ (.int .i64 a0_3)).setCell ⟨gb151, 2, none⟩ (.int .i64 a0_4)).setCell ⟨gb152, 0, none⟩ (.int .i64 a0_5)).setCell ⟨gb152, 1, none⟩ (.int .i64 a0_6)).setCell ⟨gb152, 2, none⟩ (.int .i64 a0_7)) gb151 35 [.int .i64 a0_2, .int .i64 a0_3, .int .i64 a0_4] := (((((((((show BoxN w8 gb151 35 [.int .i64 0, .int .i64 0, .int .i64 0] from BK151.out).other N151_150 _).other N151_150 _).set 0 _).set 1 _).set 2 _).other N151_152 _).other N151_152 _).other N151_152 _)
  have B152 : BoxN ((((((((w8.setCell ⟨gb150, 0, none⟩ (.slice A0_0 l0_0.length c0_0)).setCell ⟨gb150, 1, none⟩ (.slice A0_1 l0_1.length c0_1)).setCell ⟨gb151, 0, none⟩ (.int .i64 a0_2)).setCell ⟨gb151, 1, none⟩ (.int .i64 a0_3)).setCell ⟨gb151, 2, none⟩ (.int .i64 a0_4)).setCell ⟨gb152, 0, none⟩ (.int .i64 a0_5)).setCell ⟨gb152, 1, none⟩ (.int .i64 a0_6)).setCell ⟨gb152, 2, none⟩ (.int .i64 a0_7)) gb152 35 [.int .i64 a0_5, .int .i64 a0_6, .int .i64 a0_7] := (((((((((show BoxN w8 gb152 35 [.int .i64 0, .int .i64 0, .int .i64 0] from BK152.out).other N152_150 _).other N152_150 _).other N152_151 _).other N152_151 _).other N152_151 _).set 0 _).set 1 _).set 2 _)
  have HS := Aside0.mk (Pf.mk B150 (Kd.C_below HR0_0.out HB9) HC0_0.out (Kd.C_below HR0_1.out HB9) HC0_1.out)
  have HW := Aside0.mk (Wn.mk B151)
  have HV := Aside0.mk (Wn.mk B152)
  have HZ := Aside0.mk HB9
  clear HB
  clear B150 B151 B152 HB9 N150_151 N151_150 N150_152 N152_150 N151_152 N152_151 hS_ BK149 BK150 BK151 BK152 GW150 GE150 GW151 GE151 GW152 GE152 NB149_150 NB150_149 NB151_150 NB150_151 NB152_150 NB150_152 NB149_151 NB151_149 NB152_151 NB151_152 NB149_152 NB152_149
  clear hs9 hfs9 hs10 hfs10 hs11 hfs11 hs12 hfs12 hs13 hfs13 hs14 hfs14 hs15 hfs15 hs16 hfs16
  clear hns9_0 hms9_0 hns9_2 hms9_2 hns9_3 hms9_3 hns10_0 hms10_0 hns10_2 hms10_2 hns10_3 hms10_3 hns11_0 hms11_0 hns11_1 hms11_1 hns11_3 hms11_3 hns12_0 hms12_0 hns12_1 hms12_1 hns12_3 hms12_3 hns13_0 hms13_0 hns13_1 hms13_1 hns13_3 hms13_3 hns14_0 hms14_0 hns14_1 hms14_1 hns14_2 hms14_2 hns15_0 hms15_0 hns15_1 hms15_1 hns15_2 hms15_2 hns16_0 hms16_0 hns16_1 hms16_1 hns16_2 hms16_2
  clear hHeld
  rename_i z1 z2 z3
  clear z1 z2 z3 HT_ HW_
  generalize ((((((((w8.setCell ⟨gb150, 0, none⟩ (.slice A0_0 l0_0.length c0_0)).setCell ⟨gb150, 1, none⟩ (.slice A0_1 l0_1.length c0_1)).setCell ⟨gb151, 0, none⟩ (.int .i64 a0_2)).setCell ⟨gb151, 1, none⟩ (.int .i64 a0_3)).setCell ⟨gb151, 2, none⟩ (.int .i64 a0_4)).setCell ⟨gb152, 0, none⟩ (.int .i64 a0_5)).setCell ⟨gb152, 1, none⟩ (.int .i64 a0_6)).setCell ⟨gb152, 2, none⟩ (.int .i64 a0_7)) = w99 at HS HW HV HZ ⊢
  obtain ⟨qS0, qS1⟩ := Pf.cells HS.out; obtain ⟨qW0, qW1, qW2⟩ := Wn.cells HW.out; obtain ⟨qV0, qV1, qV2⟩ := Wn.cells HV.out
  obtain ⟨hh, hk⟩ := HC2.out
  have hH := Aside0.mk hh
  clear HC2 hh
  rcases hk with hk | ⟨c, hk, hk1, hk2⟩ | ⟨hk, hk1, hk2⟩ | ⟨hk, hk1, hk2, hk3⟩ | ⟨hk, hk1, hk2, hk3, hk4⟩ | ⟨hk, a1, a2, l, h1, h2, h3⟩ | ⟨hk, hgd⟩
  · have hG := Aside0.mk hk
    clear hk
    go_wp2_with (first | (go_at_call 8; (with_reducible refine (forebayref04_Great.calls A0_0 c0_0 l0_0 A0_1 c0_1 l0_1 _ _ HS.out.ca HS.out.la HS.out.cb HS.out.lb hG.out).mono ?_); rintro e wn ⟨rfl, hb⟩; clear qS0 qS1 qW0 qW1 qW2 qV0 qV1 qV2; replace HS := Aside0.mk (Pf.below HS.out hb); replace HW := Aside0.mk (Wn.below HW.out hb); replace HV := Aside0.mk (Wn.below HV.out hb); replace HZ := Aside0.mk (HZ.out.trans (hb.mono HZ.out.size)); clear hb; obtain ⟨qS0, qS1⟩ := Pf.cells HS.out; obtain ⟨qW0, qW1, qW2⟩ := Wn.cells HW.out; obtain ⟨qV0, qV1, qV2⟩ := Wn.cells HV.out) | (go_at_call 10; (with_reducible refine (forebaylaw04_head.calls k _ _ hH.out).mono ?_); rintro e wn ⟨rfl, hb⟩; clear qS0 qS1 qW0 qW1 qW2 qV0 qV1 qV2; replace HS := Aside0.mk (Pf.below HS.out hb); replace HW := Aside0.mk (Wn.below HW.out hb); replace HV := Aside0.mk (Wn.below HV.out hb); replace HZ := Aside0.mk (HZ.out.trans (hb.mono HZ.out.size)); clear hb; obtain ⟨qS0, qS1⟩ := Pf.cells HS.out; obtain ⟨qW0, qW1, qW2⟩ := Wn.cells HW.out; obtain ⟨qV0, qV1, qV2⟩ := Wn.cells HV.out))
    go_ret
    exact ⟨rfl, HZ.out⟩
  · have hG := Aside0.mk hk
    have hCk := Aside0.mk hk1
    clear hk hk1
    go_wp2_with (first | (go_at_call 8; (with_reducible refine (forebayref04_Great.calls A0_0 c0_0 l0_0 A0_1 c0_1 l0_1 _ _ HS.out.ca HS.out.la HS.out.cb HS.out.lb hG.out).mono ?_); rintro e wn ⟨rfl, hb⟩; clear qS0 qS1 qW0 qW1 qW2 qV0 qV1 qV2; replace HS := Aside0.mk (Pf.below HS.out hb); replace HW := Aside0.mk (Wn.below HW.out hb); replace HV := Aside0.mk (Wn.below HV.out hb); replace HZ := Aside0.mk (HZ.out.trans (hb.mono HZ.out.size)); clear hb; obtain ⟨qS0, qS1⟩ := Pf.cells HS.out; obtain ⟨qW0, qW1, qW2⟩ := Wn.cells HW.out; obtain ⟨qV0, qV1, qV2⟩ := Wn.cells HV.out) | (go_at_call 9; (with_reducible refine (steps_Check.calls k A0_0 c0_0 l0_0 A0_1 c0_1 l0_1 _ _ HS.out.ca HS.out.la HS.out.cb HS.out.lb hCk.out).mono ?_); rintro e wn ⟨rfl, hb⟩; clear qS0 qS1 qW0 qW1 qW2 qV0 qV1 qV2; replace HS := Aside0.mk (Pf.below HS.out hb); replace HW := Aside0.mk (Wn.below HW.out hb); replace HV := Aside0.mk (Wn.below HV.out hb); replace HZ := Aside0.mk (HZ.out.trans (hb.mono HZ.out.size)); clear hb; obtain ⟨qS0, qS1⟩ := Pf.cells HS.out; obtain ⟨qW0, qW1, qW2⟩ := Wn.cells HW.out; obtain ⟨qV0, qV1, qV2⟩ := Wn.cells HV.out) | (go_at_call 10; (with_reducible refine (forebaylaw04_head.calls k _ _ hH.out).mono ?_); rintro e wn ⟨rfl, hb⟩; clear qS0 qS1 qW0 qW1 qW2 qV0 qV1 qV2; replace HS := Aside0.mk (Pf.below HS.out hb); replace HW := Aside0.mk (Wn.below HW.out hb); replace HV := Aside0.mk (Wn.below HV.out hb); replace HZ := Aside0.mk (HZ.out.trans (hb.mono HZ.out.size)); clear hb; obtain ⟨qS0, qS1⟩ := Pf.cells HS.out; obtain ⟨qW0, qW1, qW2⟩ := Wn.cells HW.out; obtain ⟨qV0, qV1, qV2⟩ := Wn.cells HV.out))
    go_ret
    exact ⟨rfl, HZ.out⟩
  · have hG := Aside0.mk hk
    have hCk := Aside0.mk hk1
    have hW := Aside0.mk hk2
    clear hk hk1 hk2
    go_wp2_with (first | (go_at_call 8; (with_reducible refine (forebayref04_Great.calls A0_0 c0_0 l0_0 A0_1 c0_1 l0_1 _ _ HS.out.ca HS.out.la HS.out.cb HS.out.lb hG.out).mono ?_); rintro e wn ⟨rfl, hb⟩; clear qS0 qS1 qW0 qW1 qW2 qV0 qV1 qV2; replace HS := Aside0.mk (Pf.below HS.out hb); replace HW := Aside0.mk (Wn.below HW.out hb); replace HV := Aside0.mk (Wn.below HV.out hb); replace HZ := Aside0.mk (HZ.out.trans (hb.mono HZ.out.size)); clear hb; obtain ⟨qS0, qS1⟩ := Pf.cells HS.out; obtain ⟨qW0, qW1, qW2⟩ := Wn.cells HW.out; obtain ⟨qV0, qV1, qV2⟩ := Wn.cells HV.out) | (go_at_call 9; (with_reducible refine (steps_Check.calls k A0_0 c0_0 l0_0 A0_1 c0_1 l0_1 _ _ HS.out.ca HS.out.la HS.out.cb HS.out.lb hCk.out).mono ?_); rintro e wn ⟨rfl, hb⟩; clear qS0 qS1 qW0 qW1 qW2 qV0 qV1 qV2; replace HS := Aside0.mk (Pf.below HS.out hb); replace HW := Aside0.mk (Wn.below HW.out hb); replace HV := Aside0.mk (Wn.below HV.out hb); replace HZ := Aside0.mk (HZ.out.trans (hb.mono HZ.out.size)); clear hb; obtain ⟨qS0, qS1⟩ := Pf.cells HS.out; obtain ⟨qW0, qW1, qW2⟩ := Wn.cells HW.out; obtain ⟨qV0, qV1, qV2⟩ := Wn.cells HV.out) | (go_at_call 19; (with_reducible refine (forebaylaw04_fine.calls a0_2 a0_3 a0_4 _ _ hW.out).mono ?_); rintro e wn ⟨rfl, hb⟩; clear qS0 qS1 qW0 qW1 qW2 qV0 qV1 qV2; replace HS := Aside0.mk (Pf.below HS.out hb); replace HW := Aside0.mk (Wn.below HW.out hb); replace HV := Aside0.mk (Wn.below HV.out hb); replace HZ := Aside0.mk (HZ.out.trans (hb.mono HZ.out.size)); clear hb; obtain ⟨qS0, qS1⟩ := Pf.cells HS.out; obtain ⟨qW0, qW1, qW2⟩ := Wn.cells HW.out; obtain ⟨qV0, qV1, qV2⟩ := Wn.cells HV.out) | (go_at_call 10; (with_reducible refine (forebaylaw04_head.calls k _ _ hH.out).mono ?_); rintro e wn ⟨rfl, hb⟩; clear qS0 qS1 qW0 qW1 qW2 qV0 qV1 qV2; replace HS := Aside0.mk (Pf.below HS.out hb); replace HW := Aside0.mk (Wn.below HW.out hb); replace HV := Aside0.mk (Wn.below HV.out hb); replace HZ := Aside0.mk (HZ.out.trans (hb.mono HZ.out.size)); clear hb; obtain ⟨qS0, qS1⟩ := Pf.cells HS.out; obtain ⟨qW0, qW1, qW2⟩ := Wn.cells HW.out; obtain ⟨qV0, qV1, qV2⟩ := Wn.cells HV.out))
    go_ret
    exact ⟨rfl, HZ.out⟩
  · have hG := Aside0.mk hk
    have hCk := Aside0.mk hk1
    have hW := Aside0.mk hk2
    have hV := Aside0.mk hk3
    clear hk hk1 hk2 hk3
    go_wp2_with (first | (go_at_call 8; (with_reducible refine (forebayref04_Great.calls A0_0 c0_0 l0_0 A0_1 c0_1 l0_1 _ _ HS.out.ca HS.out.la HS.out.cb HS.out.lb hG.out).mono ?_); rintro e wn ⟨rfl, hb⟩; clear qS0 qS1 qW0 qW1 qW2 qV0 qV1 qV2; replace HS := Aside0.mk (Pf.below HS.out hb); replace HW := Aside0.mk (Wn.below HW.out hb); replace HV := Aside0.mk (Wn.below HV.out hb); replace HZ := Aside0.mk (HZ.out.trans (hb.mono HZ.out.size)); clear hb; obtain ⟨qS0, qS1⟩ := Pf.cells HS.out; obtain ⟨qW0, qW1, qW2⟩ := Wn.cells HW.out; obtain ⟨qV0, qV1, qV2⟩ := Wn.cells HV.out) | (go_at_call 9; (with_reducible refine (steps_Check.calls k A0_0 c0_0 l0_0 A0_1 c0_1 l0_1 _ _ HS.out.ca HS.out.la HS.out.cb HS.out.lb hCk.out).mono ?_); rintro e wn ⟨rfl, hb⟩; clear qS0 qS1 qW0 qW1 qW2 qV0 qV1 qV2; replace HS := Aside0.mk (Pf.below HS.out hb); replace HW := Aside0.mk (Wn.below HW.out hb); replace HV := Aside0.mk (Wn.below HV.out hb); replace HZ := Aside0.mk (HZ.out.trans (hb.mono HZ.out.size)); clear hb; obtain ⟨qS0, qS1⟩ := Pf.cells HS.out; obtain ⟨qW0, qW1, qW2⟩ := Wn.cells HW.out; obtain ⟨qV0, qV1, qV2⟩ := Wn.cells HV.out) | (go_at_call 19; (with_reducible refine (forebaylaw04_fine.calls a0_2 a0_3 a0_4 _ _ hW.out).mono ?_); rintro e wn ⟨rfl, hb⟩; clear qS0 qS1 qW0 qW1 qW2 qV0 qV1 qV2; replace HS := Aside0.mk (Pf.below HS.out hb); replace HW := Aside0.mk (Wn.below HW.out hb); replace HV := Aside0.mk (Wn.below HV.out hb); replace HZ := Aside0.mk (HZ.out.trans (hb.mono HZ.out.size)); clear hb; obtain ⟨qS0, qS1⟩ := Pf.cells HS.out; obtain ⟨qW0, qW1, qW2⟩ := Wn.cells HW.out; obtain ⟨qV0, qV1, qV2⟩ := Wn.cells HV.out) | (go_at_call 19; (with_reducible refine (forebaylaw04_fine.calls a0_5 a0_6 a0_7 _ _ hV.out).mono ?_); rintro e wn ⟨rfl, hb⟩; clear qS0 qS1 qW0 qW1 qW2 qV0 qV1 qV2; replace HS := Aside0.mk (Pf.below HS.out hb); replace HW := Aside0.mk (Wn.below HW.out hb); replace HV := Aside0.mk (Wn.below HV.out hb); replace HZ := Aside0.mk (HZ.out.trans (hb.mono HZ.out.size)); clear hb; obtain ⟨qS0, qS1⟩ := Pf.cells HS.out; obtain ⟨qW0, qW1, qW2⟩ := Wn.cells HW.out; obtain ⟨qV0, qV1, qV2⟩ := Wn.cells HV.out) | (go_at_call 10; (with_reducible refine (forebaylaw04_head.calls k _ _ hH.out).mono ?_); rintro e wn ⟨rfl, hb⟩; clear qS0 qS1 qW0 qW1 qW2 qV0 qV1 qV2; replace HS := Aside0.mk (Pf.below HS.out hb); replace HW := Aside0.mk (Wn.below HW.out hb); replace HV := Aside0.mk (Wn.below HV.out hb); replace HZ := Aside0.mk (HZ.out.trans (hb.mono HZ.out.size)); clear hb; obtain ⟨qS0, qS1⟩ := Pf.cells HS.out; obtain ⟨qW0, qW1, qW2⟩ := Wn.cells HW.out; obtain ⟨qV0, qV1, qV2⟩ := Wn.cells HV.out))
    go_ret
    exact ⟨rfl, HZ.out⟩
  · have hG := Aside0.mk hk
    have hCk := Aside0.mk hk1
    have hW := Aside0.mk hk2
    have hV := Aside0.mk hk3
    have hQ := Aside0.mk hk4
    clear hk hk1 hk2 hk3 hk4
    go_wp2_with (first | (go_at_call 8; (with_reducible refine (forebayref04_Great.calls A0_0 c0_0 l0_0 A0_1 c0_1 l0_1 _ _ HS.out.ca HS.out.la HS.out.cb HS.out.lb hG.out).mono ?_); rintro e wn ⟨rfl, hb⟩; clear qS0 qS1 qW0 qW1 qW2 qV0 qV1 qV2; replace HS := Aside0.mk (Pf.below HS.out hb); replace HW := Aside0.mk (Wn.below HW.out hb); replace HV := Aside0.mk (Wn.below HV.out hb); replace HZ := Aside0.mk (HZ.out.trans (hb.mono HZ.out.size)); clear hb; obtain ⟨qS0, qS1⟩ := Pf.cells HS.out; obtain ⟨qW0, qW1, qW2⟩ := Wn.cells HW.out; obtain ⟨qV0, qV1, qV2⟩ := Wn.cells HV.out) | (go_at_call 9; (with_reducible refine (steps_Check.calls k A0_0 c0_0 l0_0 A0_1 c0_1 l0_1 _ _ HS.out.ca HS.out.la HS.out.cb HS.out.lb hCk.out).mono ?_); rintro e wn ⟨rfl, hb⟩; clear qS0 qS1 qW0 qW1 qW2 qV0 qV1 qV2; replace HS := Aside0.mk (Pf.below HS.out hb); replace HW := Aside0.mk (Wn.below HW.out hb); replace HV := Aside0.mk (Wn.below HV.out hb); replace HZ := Aside0.mk (HZ.out.trans (hb.mono HZ.out.size)); clear hb; obtain ⟨qS0, qS1⟩ := Pf.cells HS.out; obtain ⟨qW0, qW1, qW2⟩ := Wn.cells HW.out; obtain ⟨qV0, qV1, qV2⟩ := Wn.cells HV.out) | (go_at_call 19; (with_reducible refine (forebaylaw04_fine.calls a0_2 a0_3 a0_4 _ _ hW.out).mono ?_); rintro e wn ⟨rfl, hb⟩; clear qS0 qS1 qW0 qW1 qW2 qV0 qV1 qV2; replace HS := Aside0.mk (Pf.below HS.out hb); replace HW := Aside0.mk (Wn.below HW.out hb); replace HV := Aside0.mk (Wn.below HV.out hb); replace HZ := Aside0.mk (HZ.out.trans (hb.mono HZ.out.size)); clear hb; obtain ⟨qS0, qS1⟩ := Pf.cells HS.out; obtain ⟨qW0, qW1, qW2⟩ := Wn.cells HW.out; obtain ⟨qV0, qV1, qV2⟩ := Wn.cells HV.out) | (go_at_call 19; (with_reducible refine (forebaylaw04_fine.calls a0_5 a0_6 a0_7 _ _ hV.out).mono ?_); rintro e wn ⟨rfl, hb⟩; clear qS0 qS1 qW0 qW1 qW2 qV0 qV1 qV2; replace HS := Aside0.mk (Pf.below HS.out hb); replace HW := Aside0.mk (Wn.below HW.out hb); replace HV := Aside0.mk (Wn.below HV.out hb); replace HZ := Aside0.mk (HZ.out.trans (hb.mono HZ.out.size)); clear hb; obtain ⟨qS0, qS1⟩ := Pf.cells HS.out; obtain ⟨qW0, qW1, qW2⟩ := Wn.cells HW.out; obtain ⟨qV0, qV1, qV2⟩ := Wn.cells HV.out) | (go_at_call 25; (with_reducible refine (forebayref04_Quantity.calls a0_8 _ _ hQ.out).mono ?_); rintro e wn ⟨rfl, hdn⟩; have hb := drawn_below hdn; clear hdn; clear qS0 qS1 qW0 qW1 qW2 qV0 qV1 qV2; replace HS := Aside0.mk (Pf.below HS.out hb); replace HW := Aside0.mk (Wn.below HW.out hb); replace HV := Aside0.mk (Wn.below HV.out hb); replace HZ := Aside0.mk (HZ.out.trans (hb.mono HZ.out.size)); clear hb; obtain ⟨qS0, qS1⟩ := Pf.cells HS.out; obtain ⟨qW0, qW1, qW2⟩ := Wn.cells HW.out; obtain ⟨qV0, qV1, qV2⟩ := Wn.cells HV.out) | (go_at_call 10; (with_reducible refine (forebaylaw04_head.calls k _ _ hH.out).mono ?_); rintro e wn ⟨rfl, hb⟩; clear qS0 qS1 qW0 qW1 qW2 qV0 qV1 qV2; replace HS := Aside0.mk (Pf.below HS.out hb); replace HW := Aside0.mk (Wn.below HW.out hb); replace HV := Aside0.mk (Wn.below HV.out hb); replace HZ := Aside0.mk (HZ.out.trans (hb.mono HZ.out.size)); clear hb; obtain ⟨qS0, qS1⟩ := Pf.cells HS.out; obtain ⟨qW0, qW1, qW2⟩ := Wn.cells HW.out; obtain ⟨qV0, qV1, qV2⟩ := Wn.cells HV.out))
    go_ret
    exact ⟨rfl, HZ.out⟩
  · have hG := Aside0.mk hk.great
    have hCk := Aside0.mk hk.check
    have hW := Aside0.mk hk.fine1
    have hV := Aside0.mk hk.fine2
    have hQ := Aside0.mk hk.quant
    clear hk
    have hT := Aside0.mk h1
    have hL := Aside0.mk h2
    clear h1 h2
    go_upto_region 6 with (first | (go_at_call 8; (with_reducible refine (forebayref04_Great.calls A0_0 c0_0 l0_0 A0_1 c0_1 l0_1 _ _ HS.out.ca HS.out.la HS.out.cb HS.out.lb hG.out).mono ?_); rintro e wn ⟨rfl, hb⟩; clear qS0 qS1 qW0 qW1 qW2 qV0 qV1 qV2; replace HS := Aside0.mk (Pf.below HS.out hb); replace HW := Aside0.mk (Wn.below HW.out hb); replace HV := Aside0.mk (Wn.below HV.out hb); replace HZ := Aside0.mk (HZ.out.trans (hb.mono HZ.out.size)); clear hb; obtain ⟨qS0, qS1⟩ := Pf.cells HS.out; obtain ⟨qW0, qW1, qW2⟩ := Wn.cells HW.out; obtain ⟨qV0, qV1, qV2⟩ := Wn.cells HV.out) | (go_at_call 9; (with_reducible refine (steps_Check.calls k A0_0 c0_0 l0_0 A0_1 c0_1 l0_1 _ _ HS.out.ca HS.out.la HS.out.cb HS.out.lb hCk.out).mono ?_); rintro e wn ⟨rfl, hb⟩; clear qS0 qS1 qW0 qW1 qW2 qV0 qV1 qV2; replace HS := Aside0.mk (Pf.below HS.out hb); replace HW := Aside0.mk (Wn.below HW.out hb); replace HV := Aside0.mk (Wn.below HV.out hb); replace HZ := Aside0.mk (HZ.out.trans (hb.mono HZ.out.size)); clear hb; obtain ⟨qS0, qS1⟩ := Pf.cells HS.out; obtain ⟨qW0, qW1, qW2⟩ := Wn.cells HW.out; obtain ⟨qV0, qV1, qV2⟩ := Wn.cells HV.out) | (go_at_call 19; (with_reducible refine (forebaylaw04_fine.calls a0_2 a0_3 a0_4 _ _ hW.out).mono ?_); rintro e wn ⟨rfl, hb⟩; clear qS0 qS1 qW0 qW1 qW2 qV0 qV1 qV2; replace HS := Aside0.mk (Pf.below HS.out hb); replace HW := Aside0.mk (Wn.below HW.out hb); replace HV := Aside0.mk (Wn.below HV.out hb); replace HZ := Aside0.mk (HZ.out.trans (hb.mono HZ.out.size)); clear hb; obtain ⟨qS0, qS1⟩ := Pf.cells HS.out; obtain ⟨qW0, qW1, qW2⟩ := Wn.cells HW.out; obtain ⟨qV0, qV1, qV2⟩ := Wn.cells HV.out) | (go_at_call 19; (with_reducible refine (forebaylaw04_fine.calls a0_5 a0_6 a0_7 _ _ hV.out).mono ?_); rintro e wn ⟨rfl, hb⟩; clear qS0 qS1 qW0 qW1 qW2 qV0 qV1 qV2; replace HS := Aside0.mk (Pf.below HS.out hb); replace HW := Aside0.mk (Wn.below HW.out hb); replace HV := Aside0.mk (Wn.below HV.out hb); replace HZ := Aside0.mk (HZ.out.trans (hb.mono HZ.out.size)); clear hb; obtain ⟨qS0, qS1⟩ := Pf.cells HS.out; obtain ⟨qW0, qW1, qW2⟩ := Wn.cells HW.out; obtain ⟨qV0, qV1, qV2⟩ := Wn.cells HV.out) | (go_at_call 25; (with_reducible refine (forebayref04_Quantity.calls a0_8 _ _ hQ.out).mono ?_); rintro e wn ⟨rfl, hdn⟩; have hb := drawn_below hdn; clear hdn; clear qS0 qS1 qW0 qW1 qW2 qV0 qV1 qV2; replace HS := Aside0.mk (Pf.below HS.out hb); replace HW := Aside0.mk (Wn.below HW.out hb); replace HV := Aside0.mk (Wn.below HV.out hb); replace HZ := Aside0.mk (HZ.out.trans (hb.mono HZ.out.size)); clear hb; obtain ⟨qS0, qS1⟩ := Pf.cells HS.out; obtain ⟨qW0, qW1, qW2⟩ := Wn.cells HW.out; obtain ⟨qV0, qV1, qV2⟩ := Wn.cells HV.out) | (go_at_call 13; (with_reducible refine (steps_Take.calls k A0_0 c0_0 l0_0 A0_1 c0_1 l0_1 a0_2 a0_3 a0_4 _ _ _ _ HS.out.ca HS.out.la HS.out.cb HS.out.lb hT.out).mono ?_); rintro e wn ⟨v0, v1, rfl, hv0, hv1, hb0⟩; obtain ⟨Aa, ca, rfl, hl0, hF0⟩ := hv0; obtain ⟨Ba, da, rfl, hl1, hF1⟩ := hv1; have hb := hb0.alloc hb0.size (Obj.cells #[.slice Aa a1.length ca, .slice Ba a2.length da] 24); have HA := Aside0.mk (Pf.new hF0 hl0 hF1 hl1); clear hb0 hF0 hF1 hl0 hl1; clear qS0 qS1 qW0 qW1 qW2 qV0 qV1 qV2; replace HS := Aside0.mk (Pf.below HS.out hb); replace HW := Aside0.mk (Wn.below HW.out hb); replace HV := Aside0.mk (Wn.below HV.out hb); replace HZ := Aside0.mk (HZ.out.trans (hb.mono HZ.out.size)); clear hb; obtain ⟨qS0, qS1⟩ := Pf.cells HS.out; obtain ⟨qW0, qW1, qW2⟩ := Wn.cells HW.out; obtain ⟨qV0, qV1, qV2⟩ := Wn.cells HV.out; obtain ⟨qA0, qA1⟩ := Pf.cells HA.out))
    go_region_held3 (fun w' => w'.cell? ⟨gb150, 0, none⟩ = some (.slice A0_0 l0_0.length c0_0) ∧ w'.cell? ⟨gb150, 1, none⟩ = some (.slice A0_1 l0_1.length c0_1) ∧ w'.cell? ⟨gb151, 0, none⟩ = some (.int .i64 a0_2) ∧ w'.cell? ⟨gb151, 1, none⟩ = some (.int .i64 a0_3) ∧ w'.cell? ⟨gb151, 2, none⟩ = some (.int .i64 a0_4)) (first | assumption | exact ⟨qS0, qS1, qW0, qW1, qW2⟩) (first | (go_at_call 11; (with_reducible refine (steps_Least.calls k A0_0 c0_0 l0_0 A0_1 c0_1 l0_1 a0_2 a0_3 _ _ (Pf.drew HS.out).ca (Pf.drew HS.out).la (Pf.drew HS.out).cb (Pf.drew HS.out).lb hL.out).mono ?_); rintro e wn ⟨rfl, hb⟩; replace hb := below_of_drew hb; clear qS0 qS1 qW0 qW1 qW2 qV0 qV1 qV2 qA0 qA1; replace HS := Aside0.mk (Pf.below HS.out hb); replace HW := Aside0.mk (Wn.below HW.out hb); replace HV := Aside0.mk (Wn.below HV.out hb); replace HA := Aside0.mk (Pf.below HA.out hb); replace HZ := Aside0.mk (HZ.out.trans (hb.mono HZ.out.size)); clear hb; obtain ⟨qS0, qS1⟩ := Pf.cells HS.out; obtain ⟨qW0, qW1, qW2⟩ := Wn.cells HW.out; obtain ⟨qV0, qV1, qV2⟩ := Wn.cells HV.out; obtain ⟨qA0, qA1⟩ := Pf.cells HA.out) | (go_at_call 11; (with_reducible refine (steps_Least.calls k A0_0 c0_0 l0_0 A0_1 c0_1 l0_1 a0_2 a0_3 _ _ HS.out.ca HS.out.la HS.out.cb HS.out.lb hL.out).mono ?_); rintro e wn ⟨rfl, hb⟩; clear qS0 qS1 qW0 qW1 qW2 qV0 qV1 qV2 qA0 qA1; replace HS := Aside0.mk (Pf.below HS.out hb); replace HW := Aside0.mk (Wn.below HW.out hb); replace HV := Aside0.mk (Wn.below HV.out hb); replace HA := Aside0.mk (Pf.below HA.out hb); replace HZ := Aside0.mk (HZ.out.trans (hb.mono HZ.out.size)); clear hb; obtain ⟨qS0, qS1⟩ := Pf.cells HS.out; obtain ⟨qW0, qW1, qW2⟩ := Wn.cells HW.out; obtain ⟨qV0, qV1, qV2⟩ := Wn.cells HV.out; obtain ⟨qA0, qA1⟩ := Pf.cells HA.out) | (go_at_call 10; (with_reducible refine (forebaylaw04_head.calls k _ _ hH.out).mono ?_); rintro e wn ⟨rfl, hb⟩; clear qS0 qS1 qW0 qW1 qW2 qV0 qV1 qV2 qA0 qA1; replace HS := Aside0.mk (Pf.below HS.out hb); replace HW := Aside0.mk (Wn.below HW.out hb); replace HV := Aside0.mk (Wn.below HV.out hb); replace HA := Aside0.mk (Pf.below HA.out hb); replace HZ := Aside0.mk (HZ.out.trans (hb.mono HZ.out.size)); clear hb; obtain ⟨qS0, qS1⟩ := Pf.cells HS.out; obtain ⟨qW0, qW1, qW2⟩ := Wn.cells HW.out; obtain ⟨qV0, qV1, qV2⟩ := Wn.cells HV.out; obtain ⟨qA0, qA1⟩ := Pf.cells HA.out))
    all_goals go_wp2
    all_goals go_ret
    all_goals exact ⟨rfl, HZ.out⟩
  · have hG := Aside0.mk hk.great
    have hCk := Aside0.mk hk.check
    have hW := Aside0.mk hk.fine1
    have hV := Aside0.mk hk.fine2
    have hQ := Aside0.mk hk.quant
    clear hk
    obtain ⟨a1, a2, b1, b2, c1, c2, g, d1, d2, h, l, u, v, k1, k2, k3, k4, k5, k6, k7, k8, k9, k10, k11⟩ := hgd
    have hT := Aside0.mk k1
    have hGv := Aside0.mk k2
    have hSm := Aside0.mk k3
    have hL := Aside0.mk k4
    have hA1 := Aside0.mk k6
    have hA2 := Aside0.mk k7
    have hTc := Aside0.mk k8
    have hTd := Aside0.mk k9
    have hv := Aside0.mk k10
    have hgx := Aside0.mk k11
    clear k1 k2 k3 k4 k6 k7 k8 k9 k10 k11
    go_upto_region 8 with (first | (go_at_call 8; (with_reducible refine (forebayref04_Great.calls A0_0 c0_0 l0_0 A0_1 c0_1 l0_1 _ _ HS.out.ca HS.out.la HS.out.cb HS.out.lb hG.out).mono ?_); rintro e wn ⟨rfl, hb⟩; clear qS0 qS1 qW0 qW1 qW2 qV0 qV1 qV2; replace HS := Aside0.mk (Pf.below HS.out hb); replace HW := Aside0.mk (Wn.below HW.out hb); replace HV := Aside0.mk (Wn.below HV.out hb); replace HZ := Aside0.mk (HZ.out.trans (hb.mono HZ.out.size)); clear hb; obtain ⟨qS0, qS1⟩ := Pf.cells HS.out; obtain ⟨qW0, qW1, qW2⟩ := Wn.cells HW.out; obtain ⟨qV0, qV1, qV2⟩ := Wn.cells HV.out) | (go_at_call 9; (with_reducible refine (steps_Check.calls k A0_0 c0_0 l0_0 A0_1 c0_1 l0_1 _ _ HS.out.ca HS.out.la HS.out.cb HS.out.lb hCk.out).mono ?_); rintro e wn ⟨rfl, hb⟩; clear qS0 qS1 qW0 qW1 qW2 qV0 qV1 qV2; replace HS := Aside0.mk (Pf.below HS.out hb); replace HW := Aside0.mk (Wn.below HW.out hb); replace HV := Aside0.mk (Wn.below HV.out hb); replace HZ := Aside0.mk (HZ.out.trans (hb.mono HZ.out.size)); clear hb; obtain ⟨qS0, qS1⟩ := Pf.cells HS.out; obtain ⟨qW0, qW1, qW2⟩ := Wn.cells HW.out; obtain ⟨qV0, qV1, qV2⟩ := Wn.cells HV.out) | (go_at_call 19; (with_reducible refine (forebaylaw04_fine.calls a0_2 a0_3 a0_4 _ _ hW.out).mono ?_); rintro e wn ⟨rfl, hb⟩; clear qS0 qS1 qW0 qW1 qW2 qV0 qV1 qV2; replace HS := Aside0.mk (Pf.below HS.out hb); replace HW := Aside0.mk (Wn.below HW.out hb); replace HV := Aside0.mk (Wn.below HV.out hb); replace HZ := Aside0.mk (HZ.out.trans (hb.mono HZ.out.size)); clear hb; obtain ⟨qS0, qS1⟩ := Pf.cells HS.out; obtain ⟨qW0, qW1, qW2⟩ := Wn.cells HW.out; obtain ⟨qV0, qV1, qV2⟩ := Wn.cells HV.out) | (go_at_call 19; (with_reducible refine (forebaylaw04_fine.calls a0_5 a0_6 a0_7 _ _ hV.out).mono ?_); rintro e wn ⟨rfl, hb⟩; clear qS0 qS1 qW0 qW1 qW2 qV0 qV1 qV2; replace HS := Aside0.mk (Pf.below HS.out hb); replace HW := Aside0.mk (Wn.below HW.out hb); replace HV := Aside0.mk (Wn.below HV.out hb); replace HZ := Aside0.mk (HZ.out.trans (hb.mono HZ.out.size)); clear hb; obtain ⟨qS0, qS1⟩ := Pf.cells HS.out; obtain ⟨qW0, qW1, qW2⟩ := Wn.cells HW.out; obtain ⟨qV0, qV1, qV2⟩ := Wn.cells HV.out) | (go_at_call 25; (with_reducible refine (forebayref04_Quantity.calls a0_8 _ _ hQ.out).mono ?_); rintro e wn ⟨rfl, hdn⟩; have hb := drawn_below hdn; clear hdn; clear qS0 qS1 qW0 qW1 qW2 qV0 qV1 qV2; replace HS := Aside0.mk (Pf.below HS.out hb); replace HW := Aside0.mk (Wn.below HW.out hb); replace HV := Aside0.mk (Wn.below HV.out hb); replace HZ := Aside0.mk (HZ.out.trans (hb.mono HZ.out.size)); clear hb; obtain ⟨qS0, qS1⟩ := Pf.cells HS.out; obtain ⟨qW0, qW1, qW2⟩ := Wn.cells HW.out; obtain ⟨qV0, qV1, qV2⟩ := Wn.cells HV.out) | (go_at_call 13; (with_reducible refine (steps_Take.calls k A0_0 c0_0 l0_0 A0_1 c0_1 l0_1 a0_2 a0_3 a0_4 _ _ _ _ HS.out.ca HS.out.la HS.out.cb HS.out.lb hT.out).mono ?_); rintro e wn ⟨v0, v1, rfl, hv0, hv1, hb0⟩; obtain ⟨Aa, ca, rfl, hl0, hF0⟩ := hv0; obtain ⟨Ba, da, rfl, hl1, hF1⟩ := hv1; have hb := hb0.alloc hb0.size (Obj.cells #[.slice Aa a1.length ca, .slice Ba a2.length da] 24); have HA := Aside0.mk (Pf.new hF0 hl0 hF1 hl1); clear hb0 hF0 hF1 hl0 hl1; clear qS0 qS1 qW0 qW1 qW2 qV0 qV1 qV2; replace HS := Aside0.mk (Pf.below HS.out hb); replace HW := Aside0.mk (Wn.below HW.out hb); replace HV := Aside0.mk (Wn.below HV.out hb); replace HZ := Aside0.mk (HZ.out.trans (hb.mono HZ.out.size)); clear hb; obtain ⟨qS0, qS1⟩ := Pf.cells HS.out; obtain ⟨qW0, qW1, qW2⟩ := Wn.cells HW.out; obtain ⟨qV0, qV1, qV2⟩ := Wn.cells HV.out; obtain ⟨qA0, qA1⟩ := Pf.cells HA.out) | (go_at_call 14; (with_reducible refine (steps_Give.calls k Aa ca a1 Ba da a2 a0_2 a0_3 a0_4 _ _ _ _ HA.out.ca HA.out.la HA.out.cb HA.out.lb hGv.out).mono ?_); rintro e wn ⟨v0, v1, rfl, hv0, hv1, hb0⟩; obtain ⟨Ab, cb, rfl, hl0, hF0⟩ := hv0; obtain ⟨Bb, db, rfl, hl1, hF1⟩ := hv1; have hb := hb0.alloc hb0.size (Obj.cells #[.slice Ab b1.length cb, .slice Bb b2.length db] 24); have HB := Aside0.mk (Pf.new hF0 hl0 hF1 hl1); clear hb0 hF0 hF1 hl0 hl1; clear qS0 qS1 qW0 qW1 qW2 qV0 qV1 qV2 qA0 qA1; replace HS := Aside0.mk (Pf.below HS.out hb); replace HW := Aside0.mk (Wn.below HW.out hb); replace HV := Aside0.mk (Wn.below HV.out hb); replace HA := Aside0.mk (Pf.below HA.out hb); replace HZ := Aside0.mk (HZ.out.trans (hb.mono HZ.out.size)); clear hb; obtain ⟨qS0, qS1⟩ := Pf.cells HS.out; obtain ⟨qW0, qW1, qW2⟩ := Wn.cells HW.out; obtain ⟨qV0, qV1, qV2⟩ := Wn.cells HV.out; obtain ⟨qA0, qA1⟩ := Pf.cells HA.out; obtain ⟨qB0, qB1⟩ := Pf.cells HB.out))
    obtain ⟨bB, hbB⟩ := Pf.ex HB.out
    rw [hbB] at HB qB0 qB1 ⊢
    clear hbB
    have hin : (v = wrap64 (u - a0_4) ∧ a0_2 ≤ a0_8 ∧ a0_8 < a0_3) ∨ (v = u ∧ a0_2 ≤ a0_8 ∧ ¬ a0_8 < a0_3) ∨ (v = u ∧ ¬ a0_2 ≤ a0_8) := by
      have e0 := hv.out
      by_cases e1 : a0_2 ≤ a0_8
      · by_cases e2 : a0_8 < a0_3
        · exact .inl ⟨by rw [if_pos ⟨e1, e2⟩] at e0; exact e0, e1, e2⟩
        · exact .inr (.inl ⟨by rw [if_neg (fun e => e2 e.2)] at e0; exact e0, e1, e2⟩)
      · exact .inr (.inr ⟨by rw [if_neg (fun e => e1 e.1)] at e0; exact e0, e1⟩)
    clear hv
    replace hin := Aside0.mk hin
    replace k5 : (¬ l < a0_4) ∨ (l < a0_4 ∧ ¬ a0_2 < a0_3) := by omega
    rcases k5 with k5 | ⟨k5, k55⟩
    all_goals first
      | have hkn : ¬ l < a0_4 := k5
        refine start_ (n := 26) (S := fun w' => w'.cell? ⟨bB, 0, none⟩ = some (.slice Ab b1.length cb) ∧ w'.cell? ⟨bB, 1, none⟩ = some (.slice Bb b2.length db) ∧ w'.cell? ⟨gb150, 0, none⟩ = some (.slice A0_0 l0_0.length c0_0) ∧ w'.cell? ⟨gb150, 1, none⟩ = some (.slice A0_1 l0_1.length c0_1) ∧ w'.cell? ⟨gb151, 0, none⟩ = some (.int .i64 a0_2) ∧ w'.cell? ⟨gb151, 1, none⟩ = some (.int .i64 a0_3) ∧ w'.cell? ⟨gb151, 2, none⟩ = some (.int .i64 a0_4)) (ds := []) #[false, false, false, false, false, false, false, false, false, false, false, false, false, false, false, false, false, false, false, false, false, false, false, false, false, false] (by kernel_rfl) rfl rfl ⟨qB0, qB1, qS0, qS1, qW0, qW1, qW2⟩ (fun hHeld => ?_); refine with_tabW forebaylaw04_StepsBack.tab8 forebaylaw04_StepsBack.bits8 (fun HT_ HW_ => ?_)
        clear qS0 qS1 qW0 qW1 qW2 qV0 qV1 qV2 qA0 qA1 qB0 qB1
        replace HS := Aside0.mk (Pf.below HS.out (below_drew _)); replace HW := Aside0.mk (Wn.below HW.out (below_drew _)); replace HV := Aside0.mk (Wn.below HV.out (below_drew _)); replace HA := Aside0.mk (Pf.below HA.out (below_drew _)); replace HB := Aside0.mk (Pf.below HB.out (below_drew _)); replace HZ := Aside0.mk (HZ.out.trans ((below_drew _).mono HZ.out.size))
        obtain ⟨qS0, qS1⟩ := Pf.cells HS.out; obtain ⟨qW0, qW1, qW2⟩ := Wn.cells HW.out; obtain ⟨qV0, qV1, qV2⟩ := Wn.cells HV.out; obtain ⟨qA0, qA1⟩ := Pf.cells HA.out; obtain ⟨qB0, qB1⟩ := Pf.cells HB.out
        refine pure_ (i := 0) (N := some 89) (v := ?_) (a' := ?_) #[true, false, false, false, false, false, false, false, false, false, false, false, false, false, false, false, false, false, false, false, false, false, false, false, false, false] rfl rfl (any_of HT_.out (by kernel_rfl)) (fun _ _ _ h => h) (Or.inl ⟨by rfl, ?_⟩) ?_ ?_
        rotate_left
        · intro w'
          go_simp
          with_reducible rfl
        rotate_left
        · simp only [Act.put, List.setIfInBounds_toArray, List.set_cons_zero, List.set_cons_succ, i64_w, i32_w]
          rfl
        refine pure_ (i := 1) (N := some 90) (v := ?_) (a' := ?_) #[true, true, false, false, false, false, false, false, false, false, false, false, false, false, false, false, false, false, false, false, false, false, false, false, false, false] rfl rfl (any_of HT_.out (by kernel_rfl)) (fun _ _ _ h => h) (Or.inl ⟨by rfl, ?_⟩) ?_ ?_
        rotate_left
        · intro w'
          go_simp
          with_reducible rfl
        rotate_left
        · simp only [Act.put, List.setIfInBounds_toArray, List.set_cons_zero, List.set_cons_succ, i64_w, i32_w]
          rfl
        refine pure_ (i := 2) (N := some 91) (v := ?_) (a' := ?_) #[true, true, true, false, false, false, false, false, false, false, false, false, false, false, false, false, false, false, false, false, false, false, false, false, false, false] rfl rfl (any_of HT_.out (by kernel_rfl)) (fun _ _ _ h => h) (Or.inl ⟨by rfl, ?_⟩) ?_ ?_
        rotate_left
        · intro w'
          go_simp
          with_reducible rfl
        rotate_left
        · simp only [Act.put, List.setIfInBounds_toArray, List.set_cons_zero, List.set_cons_succ, i64_w, i32_w]
          rfl
        refine take_ (i := 3) (N := some 92) (v := ?_) (a' := ?_) #[true, true, true, true, false, false, false, false, false, false, false, false, false, false, false, false, false, false, false, false, false, false, false, false, false, false] rfl rfl (take_ofW HT_.out HW_.out (by kernel_rfl)) (fun _ _ _ h => h) (Or.inl ⟨by rfl, ?_⟩) hHeld ?_ ?_
        rotate_left
        · rintro w' ⟨s0, s1, s2, s3, s4, s5, s6⟩
          go_simp
          with_reducible rfl
        rotate_left
        · simp only [Act.put, List.setIfInBounds_toArray, List.set_cons_zero, List.set_cons_succ, i64_w, i32_w]
          rfl
        refine take_ (i := 4) (N := some 93) (v := ?_) (a' := ?_) #[true, true, true, true, true, false, false, false, false, false, false, false, false, false, false, false, false, false, false, false, false, false, false, false, false, false] rfl rfl (take_ofW HT_.out HW_.out (by kernel_rfl)) (fun _ _ _ h => h) (Or.inl ⟨by rfl, ?_⟩) hHeld ?_ ?_
        rotate_left
        · rintro w' ⟨s0, s1, s2, s3, s4, s5, s6⟩
          go_simp
          with_reducible rfl
        rotate_left
        · simp only [Act.put, List.setIfInBounds_toArray, List.set_cons_zero, List.set_cons_succ, i64_w, i32_w]
          rfl
        refine one_ (i := 5) (N := some 94) #[true, true, true, true, true, true, false, false, false, false, false, false, false, false, false, false, false, false, false, false, false, false, false, false, false, false] rfl rfl (one_of HT_.out (by kernel_rfl)) (by decide) (fun K hK => ?_)
        refine goes_ Try.func20 (by kernel_rfl) rfl #[.agg #[.slice Ab b1.length cb, .slice Bb b2.length db], .agg #[.slice A0_0 l0_0.length c0_0, .slice A0_1 l0_1.length c0_1]] (by rfl) rfl rfl (by (try simp only [List.map_toArray, List.map_cons, List.map_nil]); first | done | rfl) ?_
        (with_reducible refine (steps_Same.calls k Ab cb b1 Bb db b2 A0_0 c0_0 l0_0 A0_1 c0_1 l0_1 _ _ HB.out.ca HB.out.la HB.out.cb HB.out.lb HS.out.ca HS.out.la HS.out.cb HS.out.lb hSm.out).mono ?_)
        rintro e wn ⟨rfl, hb⟩
        refine ⟨_, rfl, ?_⟩
        clear qS0 qS1 qW0 qW1 qW2 qV0 qV1 qV2 qA0 qA1 qB0 qB1; replace HS := Aside0.mk (Pf.below HS.out hb); replace HW := Aside0.mk (Wn.below HW.out hb); replace HV := Aside0.mk (Wn.below HV.out hb); replace HA := Aside0.mk (Pf.below HA.out hb); replace HB := Aside0.mk (Pf.below HB.out hb); replace HZ := Aside0.mk (HZ.out.trans (hb.mono HZ.out.size)); clear hb; obtain ⟨qS0, qS1⟩ := Pf.cells HS.out; obtain ⟨qW0, qW1, qW2⟩ := Wn.cells HW.out; obtain ⟨qV0, qV1, qV2⟩ := Wn.cells HV.out; obtain ⟨qA0, qA1⟩ := Pf.cells HA.out; obtain ⟨qB0, qB1⟩ := Pf.cells HB.out
        refine hK.out _ _ ⟨qB0, qB1, qS0, qS1, qW0, qW1, qW2⟩ (fun hHeld => ?_)
        clear hK K
        refine norm_ (a' := ?_) ?_ ?_
        rotate_left
        · show Act.put _ (some 94) _ = _
          simp only [Act.put, List.setIfInBounds_toArray, List.set_cons_zero, List.set_cons_succ, i64_w, i32_w]
          rfl
        refine pure_ (i := 6) (N := some 95) (v := ?_) (a' := ?_) #[true, true, true, true, true, true, true, false, false, false, false, false, false, false, false, false, false, false, false, false, false, false, false, false, false, false] rfl rfl (any_of HT_.out (by kernel_rfl)) (fun _ _ _ h => h) (Or.inl ⟨by rfl, ?_⟩) ?_ ?_
        rotate_left
        · intro w'
          go_simp
          with_reducible rfl
        rotate_left
        · simp only [Act.put, List.setIfInBounds_toArray, List.set_cons_zero, List.set_cons_succ, i64_w, i32_w]
          rfl
        refine pure_ (i := 7) (N := some 96) (v := ?_) (a' := ?_) #[true, true, true, true, true, true, true, true, false, false, false, false, false, false, false, false, false, false, false, false, false, false, false, false, false, false] rfl rfl (any_of HT_.out (by kernel_rfl)) (fun _ _ _ h => h) (Or.inl ⟨by rfl, ?_⟩) ?_ ?_
        rotate_left
        · intro w'
          go_simp
          with_reducible rfl
        rotate_left
        · simp only [Act.put, List.setIfInBounds_toArray, List.set_cons_zero, List.set_cons_succ, i64_w, i32_w]
          rfl
        refine pure_ (i := 8) (N := some 97) (v := ?_) (a' := ?_) #[true, true, true, true, true, true, true, true, true, false, false, false, false, false, false, false, false, false, false, false, false, false, false, false, false, false] rfl rfl (any_of HT_.out (by kernel_rfl)) (fun _ _ _ h => h) (Or.inl ⟨by rfl, ?_⟩) ?_ ?_
        rotate_left
        · intro w'
          go_simp
          with_reducible rfl
        rotate_left
        · simp only [Act.put, List.setIfInBounds_toArray, List.set_cons_zero, List.set_cons_succ, i64_w, i32_w]
          rfl
        refine pure_ (i := 10) (N := some 99) (v := ?_) (a' := ?_) #[true, true, true, true, true, true, true, true, true, false, true, false, false, false, false, false, false, false, false, false, false, false, false, false, false, false] rfl rfl (any_of HT_.out (by kernel_rfl)) (fun _ _ _ h => h) (Or.inl ⟨by rfl, ?_⟩) ?_ ?_
        rotate_left
        · intro w'
          go_simp
          with_reducible rfl
        rotate_left
        · simp only [Act.put, List.setIfInBounds_toArray, List.set_cons_zero, List.set_cons_succ, i64_w, i32_w]
          rfl
        refine pure_ (i := 12) (N := some 101) (v := ?_) (a' := ?_) #[true, true, true, true, true, true, true, true, true, false, true, false, true, false, false, false, false, false, false, false, false, false, false, false, false, false] rfl rfl (any_of HT_.out (by kernel_rfl)) (fun _ _ _ h => h) (Or.inl ⟨by rfl, ?_⟩) ?_ ?_
        rotate_left
        · intro w'
          go_simp
          with_reducible rfl
        rotate_left
        · simp only [Act.put, List.setIfInBounds_toArray, List.set_cons_zero, List.set_cons_succ, i64_w, i32_w]
          rfl
        refine pure_ (i := 15) (N := some 104) (v := ?_) (a' := ?_) #[true, true, true, true, true, true, true, true, true, false, true, false, true, false, false, true, false, false, false, false, false, false, false, false, false, false] rfl rfl (any_of HT_.out (by kernel_rfl)) (fun _ _ _ h => h) (Or.inl ⟨by rfl, ?_⟩) ?_ ?_
        rotate_left
        · intro w'
          go_simp
          with_reducible rfl
        rotate_left
        · simp only [Act.put, List.setIfInBounds_toArray, List.set_cons_zero, List.set_cons_succ, i64_w, i32_w]
          rfl
        refine take_ (i := 9) (N := some 98) (v := ?_) (a' := ?_) #[true, true, true, true, true, true, true, true, true, true, true, false, true, false, false, true, false, false, false, false, false, false, false, false, false, false] rfl rfl (take_ofW HT_.out HW_.out (by kernel_rfl)) (fun _ _ _ h => h) (Or.inl ⟨by rfl, ?_⟩) hHeld ?_ ?_
        rotate_left
        · rintro w' ⟨s0, s1, s2, s3, s4, s5, s6⟩
          go_simp
          with_reducible rfl
        rotate_left
        · simp only [Act.put, List.setIfInBounds_toArray, List.set_cons_zero, List.set_cons_succ, i64_w, i32_w]
          rfl
        refine take_ (i := 11) (N := some 100) (v := ?_) (a' := ?_) #[true, true, true, true, true, true, true, true, true, true, true, true, true, false, false, true, false, false, false, false, false, false, false, false, false, false] rfl rfl (take_ofW HT_.out HW_.out (by kernel_rfl)) (fun _ _ _ h => h) (Or.inl ⟨by rfl, ?_⟩) hHeld ?_ ?_
        rotate_left
        · rintro w' ⟨s0, s1, s2, s3, s4, s5, s6⟩
          go_simp
          with_reducible rfl
        rotate_left
        · simp only [Act.put, List.setIfInBounds_toArray, List.set_cons_zero, List.set_cons_succ, i64_w, i32_w]
          rfl
        refine take_ (i := 13) (N := some 102) (v := ?_) (a' := ?_) #[true, true, true, true, true, true, true, true, true, true, true, true, true, true, false, true, false, false, false, false, false, false, false, false, false, false] rfl rfl (take_ofW HT_.out HW_.out (by kernel_rfl)) (fun _ _ _ h => h) (Or.inl ⟨by rfl, ?_⟩) hHeld ?_ ?_
        rotate_left
        · rintro w' ⟨s0, s1, s2, s3, s4, s5, s6⟩
          go_simp
          with_reducible rfl
        rotate_left
        · simp only [Act.put, List.setIfInBounds_toArray, List.set_cons_zero, List.set_cons_succ, i64_w, i32_w]
          rfl
        refine take_ (i := 16) (N := some 105) (v := ?_) (a' := ?_) #[true, true, true, true, true, true, true, true, true, true, true, true, true, true, false, true, true, false, false, false, false, false, false, false, false, false] rfl rfl (take_ofW HT_.out HW_.out (by kernel_rfl)) (fun _ _ _ h => h) (Or.inl ⟨by rfl, ?_⟩) hHeld ?_ ?_
        rotate_left
        · rintro w' ⟨s0, s1, s2, s3, s4, s5, s6⟩
          go_simp
          with_reducible rfl
        rotate_left
        · simp only [Act.put, List.setIfInBounds_toArray, List.set_cons_zero, List.set_cons_succ, i64_w, i32_w]
          rfl
        refine one_ (i := 14) (N := some 103) #[true, true, true, true, true, true, true, true, true, true, true, true, true, true, true, true, true, false, false, false, false, false, false, false, false, false] rfl rfl (one_of HT_.out (by kernel_rfl)) (by decide) (fun K hK => ?_)
        refine goes_ Try.func11 (by kernel_rfl) rfl #[.agg #[.slice A0_0 l0_0.length c0_0, .slice A0_1 l0_1.length c0_1], .int .i64 a0_2, .int .i64 a0_3] (by rfl) rfl rfl (by (try simp only [List.map_toArray, List.map_cons, List.map_nil]); first | done | rfl) ?_
        (with_reducible refine (steps_Least.calls k A0_0 c0_0 l0_0 A0_1 c0_1 l0_1 a0_2 a0_3 _ _ HS.out.ca HS.out.la HS.out.cb HS.out.lb hL.out).mono ?_)
        rintro e wn ⟨rfl, hb⟩
        refine ⟨_, rfl, ?_⟩
        clear qS0 qS1 qW0 qW1 qW2 qV0 qV1 qV2 qA0 qA1 qB0 qB1; replace HS := Aside0.mk (Pf.below HS.out hb); replace HW := Aside0.mk (Wn.below HW.out hb); replace HV := Aside0.mk (Wn.below HV.out hb); replace HA := Aside0.mk (Pf.below HA.out hb); replace HB := Aside0.mk (Pf.below HB.out hb); replace HZ := Aside0.mk (HZ.out.trans (hb.mono HZ.out.size)); clear hb; obtain ⟨qS0, qS1⟩ := Pf.cells HS.out; obtain ⟨qW0, qW1, qW2⟩ := Wn.cells HW.out; obtain ⟨qV0, qV1, qV2⟩ := Wn.cells HV.out; obtain ⟨qA0, qA1⟩ := Pf.cells HA.out; obtain ⟨qB0, qB1⟩ := Pf.cells HB.out
        refine hK.out _ _ ⟨qB0, qB1, qS0, qS1, qW0, qW1, qW2⟩ (fun hHeld => ?_)
        clear hK K
        refine norm_ (a' := ?_) ?_ ?_
        rotate_left
        · show Act.put _ (some 103) _ = _
          simp only [Act.put, List.setIfInBounds_toArray, List.set_cons_zero, List.set_cons_succ, i64_w, i32_w]
          rfl
        refine pure_ (i := 17) (N := some 106) (v := ?_) (a' := ?_) #[true, true, true, true, true, true, true, true, true, true, true, true, true, true, true, true, true, true, false, false, false, false, false, false, false, false] rfl rfl (any_of HT_.out (by kernel_rfl)) (fun _ _ _ h => h) (Or.inl ⟨by rfl, ?_⟩) ?_ ?_
        rotate_left
        · intro w'
          go_simp
          with_reducible rfl
        rotate_left
        · simp only [Act.put, List.setIfInBounds_toArray, List.set_cons_zero, List.set_cons_succ, i64_w, i32_w]
          rfl
        refine pure_ (i := 18) (N := some 107) (v := ?_) (a' := ?_) #[true, true, true, true, true, true, true, true, true, true, true, true, true, true, true, true, true, true, true, false, false, false, false, false, false, false] rfl rfl (any_of HT_.out (by kernel_rfl)) (fun _ _ _ h => h) (Or.inl ⟨by rfl, ?_⟩) ?_ ?_
        rotate_left
        · intro w'
          go_simp
          with_reducible rfl
        rotate_left
        · simp only [Act.put, List.setIfInBounds_toArray, List.set_cons_zero, List.set_cons_succ, i64_w, i32_w]
          rfl
        refine pure_ (i := 19) (N := some 108) (v := undef) (a' := ?_) #[true, true, true, true, true, true, true, true, true, true, true, true, true, true, true, true, true, true, true, true, false, false, false, false, false, false] rfl rfl (any_of HT_.out (by kernel_rfl)) (fun _ _ _ h => h) (Or.inr ⟨by rfl, rfl⟩) ?_ ?_
        rotate_left
        · simp only [Act.put, List.setIfInBounds_toArray, List.set_cons_zero, List.set_cons_succ, i64_w, i32_w]
          rfl
        refine pure_ (i := 20) (N := some 109) (v := undef) (a' := ?_) #[true, true, true, true, true, true, true, true, true, true, true, true, true, true, true, true, true, true, true, true, true, false, false, false, false, false] rfl rfl (any_of HT_.out (by kernel_rfl)) (fun _ _ _ h => h) (Or.inr ⟨by rfl, rfl⟩) ?_ ?_
        rotate_left
        · simp only [Act.put, List.setIfInBounds_toArray, List.set_cons_zero, List.set_cons_succ, i64_w, i32_w]
          rfl
        refine pure_ (i := 21) (N := some 110) (v := undef) (a' := ?_) #[true, true, true, true, true, true, true, true, true, true, true, true, true, true, true, true, true, true, true, true, true, true, false, false, false, false] rfl rfl (any_of HT_.out (by kernel_rfl)) (fun _ _ _ h => h) (Or.inr ⟨by rfl, rfl⟩) ?_ ?_
        rotate_left
        · simp only [Act.put, List.setIfInBounds_toArray, List.set_cons_zero, List.set_cons_succ, i64_w, i32_w]
          rfl
        refine pure_ (i := 22) (N := some 111) (v := undef) (a' := ?_) #[true, true, true, true, true, true, true, true, true, true, true, true, true, true, true, true, true, true, true, true, true, true, true, false, false, false] rfl rfl (any_of HT_.out (by kernel_rfl)) (fun _ _ _ h => h) (Or.inr ⟨by rfl, rfl⟩) ?_ ?_
        rotate_left
        · simp only [Act.put, List.setIfInBounds_toArray, List.set_cons_zero, List.set_cons_succ, i64_w, i32_w]
          rfl
        refine pure_ (i := 23) (N := some 112) (v := undef) (a' := ?_) #[true, true, true, true, true, true, true, true, true, true, true, true, true, true, true, true, true, true, true, true, true, true, true, true, false, false] rfl rfl (any_of HT_.out (by kernel_rfl)) (fun _ _ _ h => h) (Or.inr ⟨by rfl, rfl⟩) ?_ ?_
        rotate_left
        · simp only [Act.put, List.setIfInBounds_toArray, List.set_cons_zero, List.set_cons_succ, i64_w, i32_w]
          rfl
        refine pure_ (i := 24) (N := some 113) (v := ?_) (a' := ?_) #[true, true, true, true, true, true, true, true, true, true, true, true, true, true, true, true, true, true, true, true, true, true, true, true, true, false] rfl rfl (any_of HT_.out (by kernel_rfl)) (fun _ _ _ h => h) (Or.inl ⟨by rfl, ?_⟩) ?_ ?_
        rotate_left
        · intro w'
          go_simp
          with_reducible rfl
        rotate_left
        · simp only [Act.put, List.setIfInBounds_toArray, List.set_cons_zero, List.set_cons_succ, i64_w, i32_w]
          rfl
        refine pure_ (i := 25) (N := some 114) (v := ?_) (a' := ?_) #[true, true, true, true, true, true, true, true, true, true, true, true, true, true, true, true, true, true, true, true, true, true, true, true, true, true] rfl rfl (any_of HT_.out (by kernel_rfl)) (fun _ _ _ h => h) (Or.inl ⟨by rfl, ?_⟩) ?_ ?_
        rotate_left
        · intro w'
          go_simp
          with_reducible rfl
        rotate_left
        · simp only [Act.put, List.setIfInBounds_toArray, List.set_cons_zero, List.set_cons_succ, i64_w, i32_w]
          rfl
        refine done_ (done_of HT_.out (by kernel_rfl)) ?_
      | have hkn : l < a0_4 := k5
        refine start_ (n := 26) (S := fun w' => w'.cell? ⟨bB, 0, none⟩ = some (.slice Ab b1.length cb) ∧ w'.cell? ⟨bB, 1, none⟩ = some (.slice Bb b2.length db) ∧ w'.cell? ⟨gb150, 0, none⟩ = some (.slice A0_0 l0_0.length c0_0) ∧ w'.cell? ⟨gb150, 1, none⟩ = some (.slice A0_1 l0_1.length c0_1) ∧ w'.cell? ⟨gb151, 0, none⟩ = some (.int .i64 a0_2) ∧ w'.cell? ⟨gb151, 1, none⟩ = some (.int .i64 a0_3) ∧ w'.cell? ⟨gb151, 2, none⟩ = some (.int .i64 a0_4)) (ds := []) #[false, false, false, false, false, false, false, false, false, false, false, false, false, false, false, false, false, false, false, false, false, false, false, false, false, false] (by kernel_rfl) rfl rfl ⟨qB0, qB1, qS0, qS1, qW0, qW1, qW2⟩ (fun hHeld => ?_); refine with_tabW forebaylaw04_StepsBack.tab8 forebaylaw04_StepsBack.bits8 (fun HT_ HW_ => ?_)
        clear qS0 qS1 qW0 qW1 qW2 qV0 qV1 qV2 qA0 qA1 qB0 qB1
        replace HS := Aside0.mk (Pf.below HS.out (below_drew _)); replace HW := Aside0.mk (Wn.below HW.out (below_drew _)); replace HV := Aside0.mk (Wn.below HV.out (below_drew _)); replace HA := Aside0.mk (Pf.below HA.out (below_drew _)); replace HB := Aside0.mk (Pf.below HB.out (below_drew _)); replace HZ := Aside0.mk (HZ.out.trans ((below_drew _).mono HZ.out.size))
        obtain ⟨qS0, qS1⟩ := Pf.cells HS.out; obtain ⟨qW0, qW1, qW2⟩ := Wn.cells HW.out; obtain ⟨qV0, qV1, qV2⟩ := Wn.cells HV.out; obtain ⟨qA0, qA1⟩ := Pf.cells HA.out; obtain ⟨qB0, qB1⟩ := Pf.cells HB.out
        refine pure_ (i := 0) (N := some 89) (v := ?_) (a' := ?_) #[true, false, false, false, false, false, false, false, false, false, false, false, false, false, false, false, false, false, false, false, false, false, false, false, false, false] rfl rfl (any_of HT_.out (by kernel_rfl)) (fun _ _ _ h => h) (Or.inl ⟨by rfl, ?_⟩) ?_ ?_
        rotate_left
        · intro w'
          go_simp
          with_reducible rfl
        rotate_left
        · simp only [Act.put, List.setIfInBounds_toArray, List.set_cons_zero, List.set_cons_succ, i64_w, i32_w]
          rfl
        refine pure_ (i := 1) (N := some 90) (v := ?_) (a' := ?_) #[true, true, false, false, false, false, false, false, false, false, false, false, false, false, false, false, false, false, false, false, false, false, false, false, false, false] rfl rfl (any_of HT_.out (by kernel_rfl)) (fun _ _ _ h => h) (Or.inl ⟨by rfl, ?_⟩) ?_ ?_
        rotate_left
        · intro w'
          go_simp
          with_reducible rfl
        rotate_left
        · simp only [Act.put, List.setIfInBounds_toArray, List.set_cons_zero, List.set_cons_succ, i64_w, i32_w]
          rfl
        refine pure_ (i := 2) (N := some 91) (v := ?_) (a' := ?_) #[true, true, true, false, false, false, false, false, false, false, false, false, false, false, false, false, false, false, false, false, false, false, false, false, false, false] rfl rfl (any_of HT_.out (by kernel_rfl)) (fun _ _ _ h => h) (Or.inl ⟨by rfl, ?_⟩) ?_ ?_
        rotate_left
        · intro w'
          go_simp
          with_reducible rfl
        rotate_left
        · simp only [Act.put, List.setIfInBounds_toArray, List.set_cons_zero, List.set_cons_succ, i64_w, i32_w]
          rfl
        refine take_ (i := 3) (N := some 92) (v := ?_) (a' := ?_) #[true, true, true, true, false, false, false, false, false, false, false, false, false, false, false, false, false, false, false, false, false, false, false, false, false, false] rfl rfl (take_ofW HT_.out HW_.out (by kernel_rfl)) (fun _ _ _ h => h) (Or.inl ⟨by rfl, ?_⟩) hHeld ?_ ?_
        rotate_left
        · rintro w' ⟨s0, s1, s2, s3, s4, s5, s6⟩
          go_simp
          with_reducible rfl
        rotate_left
        · simp only [Act.put, List.setIfInBounds_toArray, List.set_cons_zero, List.set_cons_succ, i64_w, i32_w]
          rfl
        refine take_ (i := 4) (N := some 93) (v := ?_) (a' := ?_) #[true, true, true, true, true, false, false, false, false, false, false, false, false, false, false, false, false, false, false, false, false, false, false, false, false, false] rfl rfl (take_ofW HT_.out HW_.out (by kernel_rfl)) (fun _ _ _ h => h) (Or.inl ⟨by rfl, ?_⟩) hHeld ?_ ?_
        rotate_left
        · rintro w' ⟨s0, s1, s2, s3, s4, s5, s6⟩
          go_simp
          with_reducible rfl
        rotate_left
        · simp only [Act.put, List.setIfInBounds_toArray, List.set_cons_zero, List.set_cons_succ, i64_w, i32_w]
          rfl
        refine one_ (i := 5) (N := some 94) #[true, true, true, true, true, true, false, false, false, false, false, false, false, false, false, false, false, false, false, false, false, false, false, false, false, false] rfl rfl (one_of HT_.out (by kernel_rfl)) (by decide) (fun K hK => ?_)
        refine goes_ Try.func20 (by kernel_rfl) rfl #[.agg #[.slice Ab b1.length cb, .slice Bb b2.length db], .agg #[.slice A0_0 l0_0.length c0_0, .slice A0_1 l0_1.length c0_1]] (by rfl) rfl rfl (by (try simp only [List.map_toArray, List.map_cons, List.map_nil]); first | done | rfl) ?_
        (with_reducible refine (steps_Same.calls k Ab cb b1 Bb db b2 A0_0 c0_0 l0_0 A0_1 c0_1 l0_1 _ _ HB.out.ca HB.out.la HB.out.cb HB.out.lb HS.out.ca HS.out.la HS.out.cb HS.out.lb hSm.out).mono ?_)
        rintro e wn ⟨rfl, hb⟩
        refine ⟨_, rfl, ?_⟩
        clear qS0 qS1 qW0 qW1 qW2 qV0 qV1 qV2 qA0 qA1 qB0 qB1; replace HS := Aside0.mk (Pf.below HS.out hb); replace HW := Aside0.mk (Wn.below HW.out hb); replace HV := Aside0.mk (Wn.below HV.out hb); replace HA := Aside0.mk (Pf.below HA.out hb); replace HB := Aside0.mk (Pf.below HB.out hb); replace HZ := Aside0.mk (HZ.out.trans (hb.mono HZ.out.size)); clear hb; obtain ⟨qS0, qS1⟩ := Pf.cells HS.out; obtain ⟨qW0, qW1, qW2⟩ := Wn.cells HW.out; obtain ⟨qV0, qV1, qV2⟩ := Wn.cells HV.out; obtain ⟨qA0, qA1⟩ := Pf.cells HA.out; obtain ⟨qB0, qB1⟩ := Pf.cells HB.out
        refine hK.out _ _ ⟨qB0, qB1, qS0, qS1, qW0, qW1, qW2⟩ (fun hHeld => ?_)
        clear hK K
        refine norm_ (a' := ?_) ?_ ?_
        rotate_left
        · show Act.put _ (some 94) _ = _
          simp only [Act.put, List.setIfInBounds_toArray, List.set_cons_zero, List.set_cons_succ, i64_w, i32_w]
          rfl
        refine pure_ (i := 6) (N := some 95) (v := ?_) (a' := ?_) #[true, true, true, true, true, true, true, false, false, false, false, false, false, false, false, false, false, false, false, false, false, false, false, false, false, false] rfl rfl (any_of HT_.out (by kernel_rfl)) (fun _ _ _ h => h) (Or.inl ⟨by rfl, ?_⟩) ?_ ?_
        rotate_left
        · intro w'
          go_simp
          with_reducible rfl
        rotate_left
        · simp only [Act.put, List.setIfInBounds_toArray, List.set_cons_zero, List.set_cons_succ, i64_w, i32_w]
          rfl
        refine pure_ (i := 7) (N := some 96) (v := ?_) (a' := ?_) #[true, true, true, true, true, true, true, true, false, false, false, false, false, false, false, false, false, false, false, false, false, false, false, false, false, false] rfl rfl (any_of HT_.out (by kernel_rfl)) (fun _ _ _ h => h) (Or.inl ⟨by rfl, ?_⟩) ?_ ?_
        rotate_left
        · intro w'
          go_simp
          with_reducible rfl
        rotate_left
        · simp only [Act.put, List.setIfInBounds_toArray, List.set_cons_zero, List.set_cons_succ, i64_w, i32_w]
          rfl
        refine pure_ (i := 8) (N := some 97) (v := ?_) (a' := ?_) #[true, true, true, true, true, true, true, true, true, false, false, false, false, false, false, false, false, false, false, false, false, false, false, false, false, false] rfl rfl (any_of HT_.out (by kernel_rfl)) (fun _ _ _ h => h) (Or.inl ⟨by rfl, ?_⟩) ?_ ?_
        rotate_left
        · intro w'
          go_simp
          with_reducible rfl
        rotate_left
        · simp only [Act.put, List.setIfInBounds_toArray, List.set_cons_zero, List.set_cons_succ, i64_w, i32_w]
          rfl
        refine pure_ (i := 10) (N := some 99) (v := ?_) (a' := ?_) #[true, true, true, true, true, true, true, true, true, false, true, false, false, false, false, false, false, false, false, false, false, false, false, false, false, false] rfl rfl (any_of HT_.out (by kernel_rfl)) (fun _ _ _ h => h) (Or.inl ⟨by rfl, ?_⟩) ?_ ?_
        rotate_left
        · intro w'
          go_simp
          with_reducible rfl
        rotate_left
        · simp only [Act.put, List.setIfInBounds_toArray, List.set_cons_zero, List.set_cons_succ, i64_w, i32_w]
          rfl
        refine pure_ (i := 12) (N := some 101) (v := ?_) (a' := ?_) #[true, true, true, true, true, true, true, true, true, false, true, false, true, false, false, false, false, false, false, false, false, false, false, false, false, false] rfl rfl (any_of HT_.out (by kernel_rfl)) (fun _ _ _ h => h) (Or.inl ⟨by rfl, ?_⟩) ?_ ?_
        rotate_left
        · intro w'
          go_simp
          with_reducible rfl
        rotate_left
        · simp only [Act.put, List.setIfInBounds_toArray, List.set_cons_zero, List.set_cons_succ, i64_w, i32_w]
          rfl
        refine pure_ (i := 15) (N := some 104) (v := ?_) (a' := ?_) #[true, true, true, true, true, true, true, true, true, false, true, false, true, false, false, true, false, false, false, false, false, false, false, false, false, false] rfl rfl (any_of HT_.out (by kernel_rfl)) (fun _ _ _ h => h) (Or.inl ⟨by rfl, ?_⟩) ?_ ?_
        rotate_left
        · intro w'
          go_simp
          with_reducible rfl
        rotate_left
        · simp only [Act.put, List.setIfInBounds_toArray, List.set_cons_zero, List.set_cons_succ, i64_w, i32_w]
          rfl
        refine take_ (i := 9) (N := some 98) (v := ?_) (a' := ?_) #[true, true, true, true, true, true, true, true, true, true, true, false, true, false, false, true, false, false, false, false, false, false, false, false, false, false] rfl rfl (take_ofW HT_.out HW_.out (by kernel_rfl)) (fun _ _ _ h => h) (Or.inl ⟨by rfl, ?_⟩) hHeld ?_ ?_
        rotate_left
        · rintro w' ⟨s0, s1, s2, s3, s4, s5, s6⟩
          go_simp
          with_reducible rfl
        rotate_left
        · simp only [Act.put, List.setIfInBounds_toArray, List.set_cons_zero, List.set_cons_succ, i64_w, i32_w]
          rfl
        refine take_ (i := 11) (N := some 100) (v := ?_) (a' := ?_) #[true, true, true, true, true, true, true, true, true, true, true, true, true, false, false, true, false, false, false, false, false, false, false, false, false, false] rfl rfl (take_ofW HT_.out HW_.out (by kernel_rfl)) (fun _ _ _ h => h) (Or.inl ⟨by rfl, ?_⟩) hHeld ?_ ?_
        rotate_left
        · rintro w' ⟨s0, s1, s2, s3, s4, s5, s6⟩
          go_simp
          with_reducible rfl
        rotate_left
        · simp only [Act.put, List.setIfInBounds_toArray, List.set_cons_zero, List.set_cons_succ, i64_w, i32_w]
          rfl
        refine take_ (i := 13) (N := some 102) (v := ?_) (a' := ?_) #[true, true, true, true, true, true, true, true, true, true, true, true, true, true, false, true, false, false, false, false, false, false, false, false, false, false] rfl rfl (take_ofW HT_.out HW_.out (by kernel_rfl)) (fun _ _ _ h => h) (Or.inl ⟨by rfl, ?_⟩) hHeld ?_ ?_
        rotate_left
        · rintro w' ⟨s0, s1, s2, s3, s4, s5, s6⟩
          go_simp
          with_reducible rfl
        rotate_left
        · simp only [Act.put, List.setIfInBounds_toArray, List.set_cons_zero, List.set_cons_succ, i64_w, i32_w]
          rfl
        refine take_ (i := 16) (N := some 105) (v := ?_) (a' := ?_) #[true, true, true, true, true, true, true, true, true, true, true, true, true, true, false, true, true, false, false, false, false, false, false, false, false, false] rfl rfl (take_ofW HT_.out HW_.out (by kernel_rfl)) (fun _ _ _ h => h) (Or.inl ⟨by rfl, ?_⟩) hHeld ?_ ?_
        rotate_left
        · rintro w' ⟨s0, s1, s2, s3, s4, s5, s6⟩
          go_simp
          with_reducible rfl
        rotate_left
        · simp only [Act.put, List.setIfInBounds_toArray, List.set_cons_zero, List.set_cons_succ, i64_w, i32_w]
          rfl
        refine one_ (i := 14) (N := some 103) #[true, true, true, true, true, true, true, true, true, true, true, true, true, true, true, true, true, false, false, false, false, false, false, false, false, false] rfl rfl (one_of HT_.out (by kernel_rfl)) (by decide) (fun K hK => ?_)
        refine goes_ Try.func11 (by kernel_rfl) rfl #[.agg #[.slice A0_0 l0_0.length c0_0, .slice A0_1 l0_1.length c0_1], .int .i64 a0_2, .int .i64 a0_3] (by rfl) rfl rfl (by (try simp only [List.map_toArray, List.map_cons, List.map_nil]); first | done | rfl) ?_
        (with_reducible refine (steps_Least.calls k A0_0 c0_0 l0_0 A0_1 c0_1 l0_1 a0_2 a0_3 _ _ HS.out.ca HS.out.la HS.out.cb HS.out.lb hL.out).mono ?_)
        rintro e wn ⟨rfl, hb⟩
        refine ⟨_, rfl, ?_⟩
        clear qS0 qS1 qW0 qW1 qW2 qV0 qV1 qV2 qA0 qA1 qB0 qB1; replace HS := Aside0.mk (Pf.below HS.out hb); replace HW := Aside0.mk (Wn.below HW.out hb); replace HV := Aside0.mk (Wn.below HV.out hb); replace HA := Aside0.mk (Pf.below HA.out hb); replace HB := Aside0.mk (Pf.below HB.out hb); replace HZ := Aside0.mk (HZ.out.trans (hb.mono HZ.out.size)); clear hb; obtain ⟨qS0, qS1⟩ := Pf.cells HS.out; obtain ⟨qW0, qW1, qW2⟩ := Wn.cells HW.out; obtain ⟨qV0, qV1, qV2⟩ := Wn.cells HV.out; obtain ⟨qA0, qA1⟩ := Pf.cells HA.out; obtain ⟨qB0, qB1⟩ := Pf.cells HB.out
        refine hK.out _ _ ⟨qB0, qB1, qS0, qS1, qW0, qW1, qW2⟩ (fun hHeld => ?_)
        clear hK K
        refine norm_ (a' := ?_) ?_ ?_
        rotate_left
        · show Act.put _ (some 103) _ = _
          simp only [Act.put, List.setIfInBounds_toArray, List.set_cons_zero, List.set_cons_succ, i64_w, i32_w]
          rfl
        refine pure_ (i := 17) (N := some 106) (v := ?_) (a' := ?_) #[true, true, true, true, true, true, true, true, true, true, true, true, true, true, true, true, true, true, false, false, false, false, false, false, false, false] rfl rfl (any_of HT_.out (by kernel_rfl)) (fun _ _ _ h => h) (Or.inl ⟨by rfl, ?_⟩) ?_ ?_
        rotate_left
        · intro w'
          go_simp
          with_reducible rfl
        rotate_left
        · simp only [Act.put, List.setIfInBounds_toArray, List.set_cons_zero, List.set_cons_succ, i64_w, i32_w]
          rfl
        refine pure_ (i := 18) (N := some 107) (v := ?_) (a' := ?_) #[true, true, true, true, true, true, true, true, true, true, true, true, true, true, true, true, true, true, true, false, false, false, false, false, false, false] rfl rfl (any_of HT_.out (by kernel_rfl)) (fun _ _ _ h => h) (Or.inl ⟨by rfl, ?_⟩) ?_ ?_
        rotate_left
        · intro w'
          go_simp
          with_reducible rfl
        rotate_left
        · simp only [Act.put, List.setIfInBounds_toArray, List.set_cons_zero, List.set_cons_succ, i64_w, i32_w]
          rfl
        refine pure_ (i := 19) (N := some 108) (v := ?_) (a' := ?_) #[true, true, true, true, true, true, true, true, true, true, true, true, true, true, true, true, true, true, true, true, false, false, false, false, false, false] rfl rfl (any_of HT_.out (by kernel_rfl)) (fun _ _ _ h => h) (Or.inl ⟨by rfl, ?_⟩) ?_ ?_
        rotate_left
        · intro w'
          go_simp
          with_reducible rfl
        rotate_left
        · simp only [Act.put, List.setIfInBounds_toArray, List.set_cons_zero, List.set_cons_succ, i64_w, i32_w]
          rfl
        refine pure_ (i := 21) (N := some 110) (v := ?_) (a' := ?_) #[true, true, true, true, true, true, true, true, true, true, true, true, true, true, true, true, true, true, true, true, false, true, false, false, false, false] rfl rfl (any_of HT_.out (by kernel_rfl)) (fun _ _ _ h => h) (Or.inl ⟨by rfl, ?_⟩) ?_ ?_
        rotate_left
        · intro w'
          go_simp
          with_reducible rfl
        rotate_left
        · simp only [Act.put, List.setIfInBounds_toArray, List.set_cons_zero, List.set_cons_succ, i64_w, i32_w]
          rfl
        refine take_ (i := 20) (N := some 109) (v := ?_) (a' := ?_) #[true, true, true, true, true, true, true, true, true, true, true, true, true, true, true, true, true, true, true, true, true, true, false, false, false, false] rfl rfl (take_ofW HT_.out HW_.out (by kernel_rfl)) (fun _ _ _ h => h) (Or.inl ⟨by rfl, ?_⟩) hHeld ?_ ?_
        rotate_left
        · rintro w' ⟨s0, s1, s2, s3, s4, s5, s6⟩
          go_simp
          with_reducible rfl
        rotate_left
        · simp only [Act.put, List.setIfInBounds_toArray, List.set_cons_zero, List.set_cons_succ, i64_w, i32_w]
          rfl
        refine take_ (i := 22) (N := some 111) (v := ?_) (a' := ?_) #[true, true, true, true, true, true, true, true, true, true, true, true, true, true, true, true, true, true, true, true, true, true, true, false, false, false] rfl rfl (take_ofW HT_.out HW_.out (by kernel_rfl)) (fun _ _ _ h => h) (Or.inl ⟨by rfl, ?_⟩) hHeld ?_ ?_
        rotate_left
        · rintro w' ⟨s0, s1, s2, s3, s4, s5, s6⟩
          go_simp
          with_reducible rfl
        rotate_left
        · simp only [Act.put, List.setIfInBounds_toArray, List.set_cons_zero, List.set_cons_succ, i64_w, i32_w]
          rfl
        refine pure_ (i := 23) (N := some 112) (v := ?_) (a' := ?_) #[true, true, true, true, true, true, true, true, true, true, true, true, true, true, true, true, true, true, true, true, true, true, true, true, false, false] rfl rfl (any_of HT_.out (by kernel_rfl)) (fun _ _ _ h => h) (Or.inl ⟨by rfl, ?_⟩) ?_ ?_
        rotate_left
        · intro w'
          go_simp
          with_reducible rfl
        rotate_left
        · simp only [Act.put, List.setIfInBounds_toArray, List.set_cons_zero, List.set_cons_succ, i64_w, i32_w]
          rfl
        refine pure_ (i := 24) (N := some 113) (v := ?_) (a' := ?_) #[true, true, true, true, true, true, true, true, true, true, true, true, true, true, true, true, true, true, true, true, true, true, true, true, true, false] rfl rfl (any_of HT_.out (by kernel_rfl)) (fun _ _ _ h => h) (Or.inl ⟨by rfl, ?_⟩) ?_ ?_
        rotate_left
        · intro w'
          go_simp
          with_reducible rfl
        rotate_left
        · simp only [Act.put, List.setIfInBounds_toArray, List.set_cons_zero, List.set_cons_succ, i64_w, i32_w]
          rfl
        refine pure_ (i := 25) (N := some 114) (v := ?_) (a' := ?_) #[true, true, true, true, true, true, true, true, true, true, true, true, true, true, true, true, true, true, true, true, true, true, true, true, true, true] rfl rfl (any_of HT_.out (by kernel_rfl)) (fun _ _ _ h => h) (Or.inl ⟨by rfl, ?_⟩) ?_ ?_
        rotate_left
        · intro w'
          go_simp
          with_reducible rfl
        rotate_left
        · simp only [Act.put, List.setIfInBounds_toArray, List.set_cons_zero, List.set_cons_succ, i64_w, i32_w]
          rfl
        refine done_ (done_of HT_.out (by kernel_rfl)) ?_
    all_goals (
      clear HB qB0 qB1 hSm hL hT hGv HT_ HW_ hHeld
      go_upto_region 11 with (go_at_call 12; (with_reducible refine (steps_At.calls k A0_0 c0_0 l0_0 A0_1 c0_1 l0_1 a0_8 _ _ HS.out.ca HS.out.la HS.out.cb HS.out.lb hA1.out).mono ?_); rintro e wn ⟨rfl, hb⟩; clear qS0 qS1 qW0 qW1 qW2 qV0 qV1 qV2 qA0 qA1; replace HS := Aside0.mk (Pf.below HS.out hb); replace HW := Aside0.mk (Wn.below HW.out hb); replace HV := Aside0.mk (Wn.below HV.out hb); replace HA := Aside0.mk (Pf.below HA.out hb); replace HZ := Aside0.mk (HZ.out.trans (hb.mono HZ.out.size)); clear hb; obtain ⟨qS0, qS1⟩ := Pf.cells HS.out; obtain ⟨qW0, qW1, qW2⟩ := Wn.cells HW.out; obtain ⟨qV0, qV1, qV2⟩ := Wn.cells HV.out; obtain ⟨qA0, qA1⟩ := Pf.cells HA.out)
      clear hA1
      rcases hin.out with ⟨rfl, e1, e2⟩ | ⟨rfl, e1, e2⟩ | ⟨rfl, e1⟩)
    all_goals (try (exfalso; omega))
    all_goals (
      clear hin
      go_upto_region 17 with (first | (go_at_call 12; (with_reducible refine (steps_At.calls k Aa ca a1 Ba da a2 a0_8 _ _ HA.out.ca HA.out.la HA.out.cb HA.out.lb hA2.out).mono ?_); rintro e wn ⟨rfl, hb⟩; clear qS0 qS1 qW0 qW1 qW2 qV0 qV1 qV2 qA0 qA1; replace HS := Aside0.mk (Pf.below HS.out hb); replace HW := Aside0.mk (Wn.below HW.out hb); replace HV := Aside0.mk (Wn.below HV.out hb); replace HA := Aside0.mk (Pf.below HA.out hb); replace HZ := Aside0.mk (HZ.out.trans (hb.mono HZ.out.size)); clear hb; obtain ⟨qS0, qS1⟩ := Pf.cells HS.out; obtain ⟨qW0, qW1, qW2⟩ := Wn.cells HW.out; obtain ⟨qV0, qV1, qV2⟩ := Wn.cells HV.out; obtain ⟨qA0, qA1⟩ := Pf.cells HA.out) | (go_at_call 13; (with_reducible refine (steps_Take.calls k Aa ca a1 Ba da a2 a0_5 a0_6 a0_7 _ _ _ _ HA.out.ca HA.out.la HA.out.cb HA.out.lb hTc.out).mono ?_); rintro e wn ⟨v0, v1, rfl, hv0, hv1, hb0⟩; obtain ⟨Ac, cc, rfl, hl0, hF0⟩ := hv0; obtain ⟨Bc, dc, rfl, hl1, hF1⟩ := hv1; have hb := hb0.alloc hb0.size (Obj.cells #[.slice Ac c1.length cc, .slice Bc c2.length dc] 24); have HC := Aside0.mk (Pf.new hF0 hl0 hF1 hl1); clear hb0 hF0 hF1 hl0 hl1; clear qS0 qS1 qW0 qW1 qW2 qV0 qV1 qV2 qA0 qA1; replace HS := Aside0.mk (Pf.below HS.out hb); replace HW := Aside0.mk (Wn.below HW.out hb); replace HV := Aside0.mk (Wn.below HV.out hb); replace HA := Aside0.mk (Pf.below HA.out hb); replace HZ := Aside0.mk (HZ.out.trans (hb.mono HZ.out.size)); clear hb; obtain ⟨qS0, qS1⟩ := Pf.cells HS.out; obtain ⟨qW0, qW1, qW2⟩ := Wn.cells HW.out; obtain ⟨qV0, qV1, qV2⟩ := Wn.cells HV.out; obtain ⟨qA0, qA1⟩ := Pf.cells HA.out; obtain ⟨qC0, qC1⟩ := Pf.cells HC.out) | (go_at_call 13; (with_reducible refine (steps_Take.calls k A0_0 c0_0 l0_0 A0_1 c0_1 l0_1 a0_5 a0_6 a0_7 _ _ _ _ HS.out.ca HS.out.la HS.out.cb HS.out.lb hTd.out).mono ?_); rintro e wn ⟨v0, v1, rfl, hv0, hv1, hb0⟩; obtain ⟨Ad, cd, rfl, hl0, hF0⟩ := hv0; obtain ⟨Bd, dd, rfl, hl1, hF1⟩ := hv1; have hb := hb0.alloc hb0.size (Obj.cells #[.slice Ad d1.length cd, .slice Bd d2.length dd] 24); have HD := Aside0.mk (Pf.new hF0 hl0 hF1 hl1); clear hb0 hF0 hF1 hl0 hl1; clear qS0 qS1 qW0 qW1 qW2 qV0 qV1 qV2 qA0 qA1 qC0 qC1; replace HS := Aside0.mk (Pf.below HS.out hb); replace HW := Aside0.mk (Wn.below HW.out hb); replace HV := Aside0.mk (Wn.below HV.out hb); replace HA := Aside0.mk (Pf.below HA.out hb); replace HC := Aside0.mk (Pf.below HC.out hb); replace HZ := Aside0.mk (HZ.out.trans (hb.mono HZ.out.size)); clear hb; obtain ⟨qS0, qS1⟩ := Pf.cells HS.out; obtain ⟨qW0, qW1, qW2⟩ := Wn.cells HW.out; obtain ⟨qV0, qV1, qV2⟩ := Wn.cells HV.out; obtain ⟨qA0, qA1⟩ := Pf.cells HA.out; obtain ⟨qC0, qC1⟩ := Pf.cells HC.out; obtain ⟨qD0, qD1⟩ := Pf.cells HD.out))
      clear hA2 hTc hTd
      rcases hgx.out with hg0 | ⟨rfl, rfl, x1, x2, e3, e4⟩
      · replace hg0 : ¬ g = 0 := hg0
        go_wp2_with (go_at_call 10; (with_reducible refine (forebaylaw04_head.calls k _ _ hH.out).mono ?_); rintro e wn ⟨rfl, hb⟩; clear qS0 qS1 qW0 qW1 qW2 qV0 qV1 qV2 qA0 qA1 qC0 qC1 qD0 qD1; replace HS := Aside0.mk (Pf.below HS.out hb); replace HW := Aside0.mk (Wn.below HW.out hb); replace HV := Aside0.mk (Wn.below HV.out hb); replace HA := Aside0.mk (Pf.below HA.out hb); replace HC := Aside0.mk (Pf.below HC.out hb); replace HD := Aside0.mk (Pf.below HD.out hb); replace HZ := Aside0.mk (HZ.out.trans (hb.mono HZ.out.size)); clear hb; obtain ⟨qS0, qS1⟩ := Pf.cells HS.out; obtain ⟨qW0, qW1, qW2⟩ := Wn.cells HW.out; obtain ⟨qV0, qV1, qV2⟩ := Wn.cells HV.out; obtain ⟨qA0, qA1⟩ := Pf.cells HA.out; obtain ⟨qC0, qC1⟩ := Pf.cells HC.out; obtain ⟨qD0, qD1⟩ := Pf.cells HD.out)
        go_ret
        exact ⟨rfl, HZ.out⟩
      · have hTx := Aside0.mk e3
        have hS2 := Aside0.mk e4
        clear e3 e4 hgx
        go_wp2_with (first | (go_at_call 13; (with_reducible refine (steps_Take.calls k Ad cd d1 Bd dd d2 a0_2 a0_3 a0_4 _ _ _ _ HD.out.ca HD.out.la HD.out.cb HD.out.lb hTx.out).mono ?_); rintro e wn ⟨v0, v1, rfl, hv0, hv1, hb0⟩; obtain ⟨Ax, cx, rfl, hl0, hF0⟩ := hv0; obtain ⟨Bx, dx, rfl, hl1, hF1⟩ := hv1; have hb := hb0.alloc hb0.size (Obj.cells #[.slice Ax x1.length cx, .slice Bx x2.length dx] 24); have HX := Aside0.mk (Pf.new hF0 hl0 hF1 hl1); clear hb0 hF0 hF1 hl0 hl1; clear qS0 qS1 qW0 qW1 qW2 qV0 qV1 qV2 qA0 qA1 qC0 qC1 qD0 qD1; replace HS := Aside0.mk (Pf.below HS.out hb); replace HW := Aside0.mk (Wn.below HW.out hb); replace HV := Aside0.mk (Wn.below HV.out hb); replace HA := Aside0.mk (Pf.below HA.out hb); replace HC := Aside0.mk (Pf.below HC.out hb); replace HD := Aside0.mk (Pf.below HD.out hb); replace HZ := Aside0.mk (HZ.out.trans (hb.mono HZ.out.size)); clear hb; obtain ⟨qS0, qS1⟩ := Pf.cells HS.out; obtain ⟨qW0, qW1, qW2⟩ := Wn.cells HW.out; obtain ⟨qV0, qV1, qV2⟩ := Wn.cells HV.out; obtain ⟨qA0, qA1⟩ := Pf.cells HA.out; obtain ⟨qC0, qC1⟩ := Pf.cells HC.out; obtain ⟨qD0, qD1⟩ := Pf.cells HD.out; obtain ⟨qX0, qX1⟩ := Pf.cells HX.out) | (go_at_call 20; (with_reducible refine (steps_Same.calls k Ac cc c1 Bc dc c2 Ax cx x1 Bx dx x2 _ _ HC.out.ca HC.out.la HC.out.cb HC.out.lb HX.out.ca HX.out.la HX.out.cb HX.out.lb hS2.out).mono ?_); rintro e wn ⟨rfl, hb⟩; clear qS0 qS1 qW0 qW1 qW2 qV0 qV1 qV2 qA0 qA1 qC0 qC1 qD0 qD1 qX0 qX1; replace HS := Aside0.mk (Pf.below HS.out hb); replace HW := Aside0.mk (Wn.below HW.out hb); replace HV := Aside0.mk (Wn.below HV.out hb); replace HA := Aside0.mk (Pf.below HA.out hb); replace HC := Aside0.mk (Pf.below HC.out hb); replace HD := Aside0.mk (Pf.below HD.out hb); replace HX := Aside0.mk (Pf.below HX.out hb); replace HZ := Aside0.mk (HZ.out.trans (hb.mono HZ.out.size)); clear hb; obtain ⟨qS0, qS1⟩ := Pf.cells HS.out; obtain ⟨qW0, qW1, qW2⟩ := Wn.cells HW.out; obtain ⟨qV0, qV1, qV2⟩ := Wn.cells HV.out; obtain ⟨qA0, qA1⟩ := Pf.cells HA.out; obtain ⟨qC0, qC1⟩ := Pf.cells HC.out; obtain ⟨qD0, qD1⟩ := Pf.cells HD.out; obtain ⟨qX0, qX1⟩ := Pf.cells HX.out) | (go_at_call 10; (with_reducible refine (forebaylaw04_head.calls k _ _ hH.out).mono ?_); rintro e wn ⟨rfl, hb⟩; clear qS0 qS1 qW0 qW1 qW2 qV0 qV1 qV2 qA0 qA1 qC0 qC1 qD0 qD1 qX0 qX1; replace HS := Aside0.mk (Pf.below HS.out hb); replace HW := Aside0.mk (Wn.below HW.out hb); replace HV := Aside0.mk (Wn.below HV.out hb); replace HA := Aside0.mk (Pf.below HA.out hb); replace HC := Aside0.mk (Pf.below HC.out hb); replace HD := Aside0.mk (Pf.below HD.out hb); replace HX := Aside0.mk (Pf.below HX.out hb); replace HZ := Aside0.mk (HZ.out.trans (hb.mono HZ.out.size)); clear hb; obtain ⟨qS0, qS1⟩ := Pf.cells HS.out; obtain ⟨qW0, qW1, qW2⟩ := Wn.cells HW.out; obtain ⟨qV0, qV1, qV2⟩ := Wn.cells HV.out; obtain ⟨qA0, qA1⟩ := Pf.cells HA.out; obtain ⟨qC0, qC1⟩ := Pf.cells HC.out; obtain ⟨qD0, qD1⟩ := Pf.cells HD.out; obtain ⟨qX0, qX1⟩ := Pf.cells HX.out))
        go_ret
        exact ⟨rfl, HZ.out⟩)
def inv24 (x : S24) : Prop := (fun l : List Int => l.length * 8 ≤ 140737488351232 ∧ l.length ≤ maxLen ∧ ∀ x ∈ l, (fun n : Int => (Lit.int .i64 n).wf = true) x) x.f0 ∧ (fun l : List Int => l.length * 8 ≤ 140737488351232 ∧ l.length ≤ maxLen ∧ ∀ x ∈ l, (fun n : Int => (Lit.int .i64 n).wf = true) x) x.f1
theorem opn24 : Opn Try.prog 24 k24 inv24 := opn_struct (fun x : S24 => (x.f0, x.f1)) (fun p => (⟨p.1, p.2⟩ : S24)) (fun _ => rfl) Try.underlying24 (by kernel_rfl) (fl := [(22, 0), (22, 1)]) (by rfl) (opnL_cons (opn_slice Try.underlying22 (by kernel_rfl) (by kernel_rfl) (opn_int Try.underlying2 (by kernel_rfl))) rfl (opnL_one (opn_slice Try.underlying22 (by kernel_rfl) (by kernel_rfl) (opn_int Try.underlying2 (by kernel_rfl)))))
def inv35 (x : S35) : Prop := (fun n : Int => (Lit.int .i64 n).wf = true) x.f0 ∧ (fun n : Int => (Lit.int .i64 n).wf = true) x.f1 ∧ (fun n : Int => (Lit.int .i64 n).wf = true) x.f2
theorem opn35 : Opn Try.prog 35 k35 inv35 := opn_struct (fun x : S35 => (x.f0, x.f1, x.f2)) (fun p => (⟨p.1, p.2.1, p.2.2⟩ : S35)) (fun _ => rfl) Try.underlying35 (by kernel_rfl) (fl := [(2, 0), (2, 1), (2, 2)]) (by rfl) (opnL_cons (opn_int Try.underlying2 (by kernel_rfl)) rfl (opnL_cons (opn_int Try.underlying2 (by kernel_rfl)) rfl (opnL_one (opn_int Try.underlying2 (by kernel_rfl)))))
def inv48 (x : S48) : Prop := inv24 x.f0 ∧ inv35 x.f1 ∧ inv35 x.f2 ∧ (fun n : Int => (Lit.int .i64 n).wf = true) x.f3
theorem opn48 : Opn Try.prog 48 k48 inv48 := opn_struct (fun x : S48 => (x.f0, x.f1, x.f2, x.f3)) (fun p => (⟨p.1, p.2.1, p.2.2.1, p.2.2.2⟩ : S48)) (fun _ => rfl) Try.underlying48 (by kernel_rfl) (fl := [(24, 0), (35, 2), (35, 5), (2, 8)]) (by rfl) (opnL_cons opn24 rfl (opnL_cons opn35 rfl (opnL_cons opn35 rfl (opnL_one (opn_int Try.underlying2 (by kernel_rfl))))))

/-- THE ONE PURE STATEMENT of forebaylaw04_StepsBack: yours. -/
def forebaylaw04_StepsBack.Pure : Prop := ∀ (l0_0 : List Int) (l0_1 : List Int) (a0_2 : Int) (a0_3 : Int) (a0_4 : Int) (a0_5 : Int) (a0_6 : Int) (a0_7 : Int) (a0_8 : Int), inv48 ⟨(⟨l0_0, l0_1⟩ : S24), (⟨a0_2, a0_3, a0_4⟩ : S35), (⟨a0_5, a0_6, a0_7⟩ : S35), a0_8⟩ → ∃ k, forebaylaw04_StepsBack.f k l0_0 l0_1 a0_2 a0_3 a0_4 a0_5 a0_6 a0_7 a0_8 = some true
theorem forebaylaw04_StepsBack.walk (P : forebaylaw04_StepsBack.Pure) (A0_0 : Option Addr) (c0_0 : Nat) (l0_0 : List Int) (A0_1 : Option Addr) (c0_1 : Nat) (l0_1 : List Int) (a0_2 : Int) (a0_3 : Int) (a0_4 : Int) (a0_5 : Int) (a0_6 : Int) (a0_7 : Int) (a0_8 : Int) (w : World) (hr0_0 : Kd.C (Kd.int .i64) w A0_0 l0_0.length l0_0) (hc0_0 : l0_0.length ≤ c0_0) (hr0_1 : Kd.C (Kd.int .i64) w A0_1 l0_1.length l0_1) (hc0_1 : l0_1.length ≤ c0_1) (y0 : inv48 ⟨(⟨l0_0, l0_1⟩ : S24), (⟨a0_2, a0_3, a0_4⟩ : S35), (⟨a0_5, a0_6, a0_7⟩ : S35), a0_8⟩) :
    Calls Try.prog 6 #[.agg #[.slice A0_0 l0_0.length c0_0, .slice A0_1 l0_1.length c0_1, .int .i64 a0_2, .int .i64 a0_3, .int .i64 a0_4, .int .i64 a0_5, .int .i64 a0_6, .int .i64 a0_7, .int .i64 a0_8]] w fun e w' => e = .returned (.bool true) ∧ Below w.heap.size w w' := by
  obtain ⟨k, h⟩ := P l0_0 l0_1 a0_2 a0_3 a0_4 a0_5 a0_6 a0_7 a0_8 y0
  refine (forebaylaw04_StepsBack.calls k A0_0 c0_0 l0_0 A0_1 c0_1 l0_1 a0_2 a0_3 a0_4 a0_5 a0_6 a0_7 a0_8 true w hr0_0 hc0_0 hr0_1 hc0_1 h).mono ?_
  rintro e w' ⟨rfl, hd⟩
  exact ⟨rfl, hd⟩

end Go.Proofs.Ytkhbbcnagdappaa.P
