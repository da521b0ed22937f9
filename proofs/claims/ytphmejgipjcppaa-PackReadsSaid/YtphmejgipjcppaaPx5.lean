-- Written by this session's program gprint.py: functions of the program as plain functions, and that the machine does what they say. Not trusted: Lean checks it.
import Derived.Test.YtphmejgipjcppaaPx0
import Derived.Test.YtphmejgipjcppaaPx1
import Derived.Test.YtphmejgipjcppaaPx2
namespace Go.Proofs.Ytphmejgipjcppaa.P
open Go.RowKit Go.Proofs.YtphmejgipjcppaaW.PrintWords Go.Proofs.YtphmejgipjcppaaW.PrintLast Go.Proofs.YtphmejgipjcppaaW.PrintMore
attribute [local go_sem] max2_int min2_int max_two min_two max_three min_three max_four min_four   -- for this text's walks alone
set_option linter.unusedVariables false
set_option linter.unusedSimpArgs false

/-! ### forebaylaw01_PackShort: function 4 -/
/-- What PackShort's calls tell where nothing is wrong; a is the lesser number. -/
structure ShortOk (k : Nat) (a b : Int) : Prop where
  a0 : 0 ≤ a
  a1 : a < 18446744073709551616
  b0 : 0 ≤ b
  b1 : b < 18446744073709551616
  l1 : (strOfNums (numT a)).size ≤ (strOfNums (numT b)).size
  l2 : (strOfNums (numT b)).size ≤ 10
  l3 : 0 < (strOfNums (numT a)).size
  ne : a ≠ b → ((strOfNums (numT b)).extract 0 (strOfNums (numT a)).size).toList ≠ (strOfNums (numT a)).toList
  i1 : ∃ x, pack_Int.f k [] [a % 64] = some [x]
  i2 : ∃ x, pack_Int.f k [] [-(a % 64)] = some [x]
  i3 : ∃ x, pack_Int.f k [] [-(a % 64) - 1] = some [x]
  hd : forebaylaw01_head.f k = some true
noncomputable def forebaylaw01_PackShort.f (k : Nat) (a0 a1 : Int) : Option Bool := @ite _ (ShortOk k (if a1 < a0 then a1 else a0) (if a1 < a0 then a0 else a1)) (Classical.propDecidable _) (some true) none
theorem forebaylaw01_PackShort.mono : ∀ a0 a1 k, LeO (forebaylaw01_PackShort.f k a0 a1) (forebaylaw01_PackShort.f (k + 1) a0 a1) := by
  intro a0 a1 k r h
  unfold forebaylaw01_PackShort.f at h ⊢
  by_cases hk : ShortOk k (if a1 < a0 then a1 else a0) (if a1 < a0 then a0 else a1)
  · rw [@if_pos _ (Classical.propDecidable _) hk] at h
    obtain ⟨x1, e1⟩ := hk.i1
    obtain ⟨x2, e2⟩ := hk.i2
    obtain ⟨x3, e3⟩ := hk.i3
    rw [@if_pos _ (Classical.propDecidable _) { hk with i1 := ⟨x1, pack_Int.mono _ _ _ _ e1⟩, i2 := ⟨x2, pack_Int.mono _ _ _ _ e2⟩, i3 := ⟨x3, pack_Int.mono _ _ _ _ e3⟩, hd := forebaylaw01_head.mono _ _ hk.hd }]
    exact h
  · rw [@if_neg _ (Classical.propDecidable _) hk] at h; cases h
theorem pack_Num_str (A : Option Addr) (x : Int) (W : World) (h : Kd.C (Kd.int .u64) W A 1 [x]) (hx : 0 ≤ x ∧ x < 18446744073709551616) :
    Calls Try.prog 13 #[.slice none 0 0, .slice A 1 1] W fun e w' => ∃ g : Nat, e = .returned (.slice (some ⟨g, 0, none⟩) (numT x).length (numT x).length) ∧ Kd.F (Kd.int .u8) w' (fun k => W.heap.size ≤ k) (some ⟨g, 0, none⟩) (numT x).length (numT x) ∧ Below W.heap.size W w' := by
  have := pack_Num1 none 0 0 [] A x W (Kd.F_now (Kd.F_nil _ _ (fun _ => True))) rfl h (by decide) hx
  rwa [List.nil_append] at this
theorem pack_Int_one (k : Nat) (A : Option Addr) (x y : Int) (W : World) (h : Kd.C (Kd.int .i64) W A 1 [x]) (hk : pack_Int.f k [] [x] = some [y]) :
    Calls Try.prog 14 #[.slice none 0 0, .slice A 1 1] W fun e w' => (∃ A' c', e = .returned (.slice A' 1 c')) ∧ Below W.heap.size W w' := by
  refine (pack_Int.calls k none 0 [] A 1 [x] _ W (Kd.F_now (Kd.F_nil _ _ (fun _ => True))) (Nat.le_refl _) h (Nat.le_refl _) hk).mono ?_
  rintro e w' ⟨v, rfl, hV, hb⟩
  obtain ⟨A', c', rfl, hc, hF⟩ := hV
  exact ⟨⟨A', c', rfl⟩, hb⟩
set_option maxHeartbeats 4000000 in
theorem short_lt (k : Nat) (a b : Int) (w : World) (hgt : ¬ b < a) (hk : ShortOk k a b) :
    Calls Try.prog 4 #[.int .u64 a, .int .u64 b] w fun e w' => e = .returned (.bool true) ∧ Below w.heap.size w w' := by
  have hd := decide_eq_false hgt
  obtain ⟨a0, a1, b0, b1, l1, l2, l3, ne, ⟨y1, i1⟩, ⟨y2, i2⟩, ⟨y3, i3⟩, hhd⟩ := hk
  replace i1 := Aside0.mk i1
  replace i2 := Aside0.mk i2
  replace i3 := Aside0.mk i3
  replace hhd := Aside0.mk hhd
  replace ne := Aside0.mk ne
  replace l1 := Aside0.mk l1
  replace l2 := Aside0.mk l2
  replace l3 := Aside0.mk l3
  have HA := Aside0.mk (And.intro a0 a1)
  have HBb := Aside0.mk (And.intro b0 b1)
  clear a1 b0 b1
  go_enter Try.func4, Try.ntmps4
  go_upto_region 3 with (fail)
  go_cut [5, 6] (fun v5 v6 wc => v5 = .string (strOfNums (numT a)) ∧ v6 = .string (strOfNums (numT b)) ∧ Aside0 (Below w.heap.size w wc))
  case first =>
    have g1 := Aside0.mk (show Below w.heap.size w (w.alloc (.cells #[.int .u64 a] 25)).drew from below_drew ((Below.refl _ _).alloc (Nat.le_refl _) _))
    have g2 := Aside0.mk (show Below w.heap.size w ((w.alloc (.cells #[.int .u64 a] 25)).alloc (.cells #[.int .u64 b] 25)).drew from below_drew (((Below.refl _ _).alloc (Nat.le_refl _) _).alloc (by simp) _))
    have g3 := Aside0.mk (show Below w.heap.size w ((w.alloc (.cells #[.int .u64 b] 25)).alloc (.cells #[.int .u64 a] 25)).drew from below_drew (((Below.refl _ _).alloc (Nat.le_refl _) _).alloc (by simp) _))
    have h1 := Aside0.mk (show Kd.C (Kd.int .u64) (w.alloc (.cells #[.int .u64 a] 25)).drew (some ⟨w.heap.size, 0, none⟩) 1 [a] from Kd.C_below (C_lit1 .u64 w a) (below_drew (Below.refl _ _)))
    have h2 := Aside0.mk (show Kd.C (Kd.int .u64) ((w.alloc (.cells #[.int .u64 a] 25)).alloc (.cells #[.int .u64 b] 25)).drew (some ⟨w.heap.size, 0, none⟩) 1 [a] from Kd.C_below (C_lit1 .u64 w a) (below_drew ((Below.refl _ _).alloc (Nat.le_refl _) _)))
    have h3b := Aside0.mk (show Kd.C (Kd.int .u64) ((w.alloc (.cells #[.int .u64 b] 25)).alloc (.cells #[.int .u64 a] 25)).drew (some ⟨w.heap.size, 0, none⟩) 1 [b] from Kd.C_below (C_lit1 .u64 w b) (below_drew ((Below.refl _ _).alloc (Nat.le_refl _) _)))
    have h2b := Aside0.mk (show Kd.C (Kd.int .u64) ((w.alloc (.cells #[.int .u64 a] 25)).alloc (.cells #[.int .u64 b] 25)).drew (some ⟨w.heap.size + 1, 0, none⟩) 1 [b] from Kd.C_below (by have := C_lit1 (e := 25) .u64 (w.alloc (.cells #[.int .u64 a] 25)) b; rwa [World.size_alloc] at this) (below_drew (Below.refl _ _)))
    have h3 := Aside0.mk (show Kd.C (Kd.int .u64) ((w.alloc (.cells #[.int .u64 b] 25)).alloc (.cells #[.int .u64 a] 25)).drew (some ⟨w.heap.size + 1, 0, none⟩) 1 [a] from Kd.C_below (by have := C_lit1 (e := 25) .u64 (w.alloc (.cells #[.int .u64 b] 25)) a; rwa [World.size_alloc] at this) (below_drew (Below.refl _ _)))
    go_region_with (first | (go_at_call 13; with_reducible refine (pack_Num_str _ a _ h1.out HA.out).mono ?_; rintro e w1 ⟨gA, rfl, hF, hb⟩; have hFn := Kd.F_now hF; have hcv := Kd.C_string (c := (numT a).length) Try.underlying31 Try.underlying5 Try.underlying9 hFn; have hAb := Kd.C_below hFn ((Below.refl _ _).alloc (Nat.le_refl _) (.cells #[.int .u64 b] 25)); have hcv1 := Kd.C_string (c := (numT a).length) Try.underlying31 Try.underlying5 Try.underlying9 hAb; have hrb := Aside0.mk (C_lit1 (e := 25) .u64 w1 b); have hBa := Aside0.mk (g1.out.trans (hb.mono g1.out.size)); have hBb := Aside0.mk (hBa.out.trans (((Below.refl _ _).alloc (Nat.le_refl _) (.cells #[.int .u64 b] 25)).mono hBa.out.size)); replace hAb := Aside0.mk hAb; clear hF hFn hb) | (go_at_call 13; with_reducible refine (pack_Num_str _ a _ h2.out HA.out).mono ?_; rintro e w1 ⟨gA, rfl, hF, hb⟩; have hFn := Kd.F_now hF; have hcv := Kd.C_string (c := (numT a).length) Try.underlying31 Try.underlying5 Try.underlying9 hFn; have hAb := Aside0.mk hFn; have hrb := Aside0.mk (Kd.C_below h2b.out hb); have hBb := Aside0.mk (g2.out.trans (hb.mono g2.out.size)); clear hF hFn hb) | (go_at_call 13; with_reducible refine (pack_Num_str _ a _ h3.out HA.out).mono ?_; rintro e w1 ⟨gA, rfl, hF, hb⟩; have hFn := Kd.F_now hF; have hcv := Kd.C_string (c := (numT a).length) Try.underlying31 Try.underlying5 Try.underlying9 hFn; have hAb := Aside0.mk hFn; have hrb := Aside0.mk (Kd.C_below h3b.out hb); have hBb := Aside0.mk (g3.out.trans (hb.mono g3.out.size)); clear hF hFn hb) | (go_at_call 13; with_reducible refine (pack_Num_str _ b _ hrb.out HBb.out).mono ?_; rintro e w2 ⟨gB, rfl, hF2, hb2⟩; have hFn2 := Kd.F_now hF2; have hcv2 := Kd.C_string (c := (numT b).length) Try.underlying31 Try.underlying5 Try.underlying9 hFn2; have hcv3 := Kd.C_string (c := (numT a).length) Try.underlying31 Try.underlying5 Try.underlying9 (Kd.C_below hAb.out hb2); have hBe := Aside0.mk (hBb.out.trans (hb2.mono hBb.out.size)); clear hF2 hFn2 hb2))
    all_goals go_wp2
    all_goals (go_meet; case rel => exact ⟨rfl, rfl, hBe⟩)
  case rest =>
    obtain ⟨rfl, rfl, HB⟩ := hcut
    have n1 := ne.out
    have m1 := l1.out
    have m2 := l2.out
    have m3 := l3.out
    clear l1 l2 l3 ne
    generalize strOfNums (numT a) = sa at *
    generalize strOfNums (numT b) = sb at *
    have q1 : decide ((sb.size : Int) < (sa.size : Int)) = false := decide_eq_false (by omega)
    have q1n : decide (sb.size < sa.size) = false := decide_eq_false (by omega)
    have q2 : decide (10 < (sb.size : Int)) = false := decide_eq_false (by omega)
    have q2n : decide (10 < sb.size) = false := decide_eq_false (by omega)
    have q3 : ((sa.size : Int) == 0) = false := beq_eq_false_iff_ne.mpr (by omega)
    have q3n : (sa.size == 0) = false := beq_eq_false_iff_ne.mpr (by omega)
    have r0 : 0 ≤ a % 64 := Int.emod_nonneg a (by omega)
    have r1 : a % 64 < 64 := Int.emod_lt_of_pos a (by omega)
    by_cases hab : a = b
    · have q4 : (a == b) = true := beq_iff_eq.mpr hab
      have q4' : (a != b) = false := bne_eq_false_iff_eq.mpr hab
      clear hab n1
      go_wp2_with (first | (go_at_call 14; with_reducible refine (pack_Int_one k _ _ y1 _ (C_lit1 _ _ _) i1.out).mono ?_; rintro e w3 ⟨⟨A3, c3, rfl⟩, hb3⟩; replace hb3 := Aside0.mk hb3) | (go_at_call 14; with_reducible refine (pack_Int_one k _ _ y2 _ (C_lit1 _ _ _) i2.out).mono ?_; rintro e w4 ⟨⟨A4, c4, rfl⟩, hb4⟩; replace hb4 := Aside0.mk hb4) | (go_at_call 14; with_reducible refine (pack_Int_one k _ _ y3 _ (C_lit1 _ _ _) i3.out).mono ?_; rintro e w5 ⟨⟨A5, c5, rfl⟩, hb5⟩; replace hb5 := Aside0.mk hb5) | (go_at_call 6; with_reducible refine (forebaylaw01_head.calls _ _ _ hhd.out).mono ?_; rintro e w6 ⟨rfl, hb6⟩; replace hb6 := Aside0.mk hb6))
      go_ret
      have k3 := HB.out.trans (((Below.refl wc.heap.size wc).alloc (Nat.le_refl _) (.cells #[.int .i64 (a % 64)] 2)).mono HB.out.size)
      have k4 := k3.trans (hb3.out.mono k3.size)
      have k5 := k4.trans (((Below.refl w3.heap.size w3).alloc (Nat.le_refl _) (.cells #[.int .i64 (-(a % 64))] 2)).mono k4.size)
      have k6 := k5.trans (hb4.out.mono k5.size)
      have k7 := k6.trans (((Below.refl w4.heap.size w4).alloc (Nat.le_refl _) (.cells #[.int .i64 (-(a % 64) - 1)] 2)).mono k6.size)
      have k8 := k7.trans (hb5.out.mono k7.size)
      exact ⟨rfl, k8.trans (hb6.out.mono k8.size)⟩
    · have q4 : (a == b) = false := beq_eq_false_iff_ne.mpr hab
      have q4' : (a != b) = true := bne_iff_ne.mpr hab
      have q5 : ((sb.extract 0 sa.size).toList == sa.toList) = false := beq_eq_false_iff_ne.mpr (n1 hab)
      clear hab n1
      go_wp2_with (first | (go_at_call 14; with_reducible refine (pack_Int_one k _ _ y1 _ (C_lit1 _ _ _) i1.out).mono ?_; rintro e w3 ⟨⟨A3, c3, rfl⟩, hb3⟩; replace hb3 := Aside0.mk hb3) | (go_at_call 14; with_reducible refine (pack_Int_one k _ _ y2 _ (C_lit1 _ _ _) i2.out).mono ?_; rintro e w4 ⟨⟨A4, c4, rfl⟩, hb4⟩; replace hb4 := Aside0.mk hb4) | (go_at_call 14; with_reducible refine (pack_Int_one k _ _ y3 _ (C_lit1 _ _ _) i3.out).mono ?_; rintro e w5 ⟨⟨A5, c5, rfl⟩, hb5⟩; replace hb5 := Aside0.mk hb5) | (go_at_call 6; with_reducible refine (forebaylaw01_head.calls _ _ _ hhd.out).mono ?_; rintro e w6 ⟨rfl, hb6⟩; replace hb6 := Aside0.mk hb6))
      go_ret
      have k3 := HB.out.trans (((Below.refl wc.heap.size wc).alloc (Nat.le_refl _) (.cells #[.int .i64 (a % 64)] 2)).mono HB.out.size)
      have k4 := k3.trans (hb3.out.mono k3.size)
      have k5 := k4.trans (((Below.refl w3.heap.size w3).alloc (Nat.le_refl _) (.cells #[.int .i64 (-(a % 64))] 2)).mono k4.size)
      have k6 := k5.trans (hb4.out.mono k5.size)
      have k7 := k6.trans (((Below.refl w4.heap.size w4).alloc (Nat.le_refl _) (.cells #[.int .i64 (-(a % 64) - 1)] 2)).mono k6.size)
      have k8 := k7.trans (hb5.out.mono k7.size)
      exact ⟨rfl, k8.trans (hb6.out.mono k8.size)⟩
set_option maxHeartbeats 4000000 in
theorem short_gt (k : Nat) (a b : Int) (w : World) (hgt : a < b) (hk : ShortOk k a b) :
    Calls Try.prog 4 #[.int .u64 b, .int .u64 a] w fun e w' => e = .returned (.bool true) ∧ Below w.heap.size w w' := by
  have hd := decide_eq_true hgt
  obtain ⟨a0, a1, b0, b1, l1, l2, l3, ne, ⟨y1, i1⟩, ⟨y2, i2⟩, ⟨y3, i3⟩, hhd⟩ := hk
  replace i1 := Aside0.mk i1
  replace i2 := Aside0.mk i2
  replace i3 := Aside0.mk i3
  replace hhd := Aside0.mk hhd
  replace ne := Aside0.mk ne
  replace l1 := Aside0.mk l1
  replace l2 := Aside0.mk l2
  replace l3 := Aside0.mk l3
  have HA := Aside0.mk (And.intro a0 a1)
  have HBb := Aside0.mk (And.intro b0 b1)
  clear a1 b0 b1
  go_enter Try.func4, Try.ntmps4
  go_upto_region 3 with (fail)
  go_cut [5, 6] (fun v5 v6 wc => v5 = .string (strOfNums (numT a)) ∧ v6 = .string (strOfNums (numT b)) ∧ Aside0 (Below w.heap.size w wc))
  case first =>
    have g1 := Aside0.mk (show Below w.heap.size w (w.alloc (.cells #[.int .u64 a] 25)).drew from below_drew ((Below.refl _ _).alloc (Nat.le_refl _) _))
    have g2 := Aside0.mk (show Below w.heap.size w ((w.alloc (.cells #[.int .u64 a] 25)).alloc (.cells #[.int .u64 b] 25)).drew from below_drew (((Below.refl _ _).alloc (Nat.le_refl _) _).alloc (by simp) _))
    have g3 := Aside0.mk (show Below w.heap.size w ((w.alloc (.cells #[.int .u64 b] 25)).alloc (.cells #[.int .u64 a] 25)).drew from below_drew (((Below.refl _ _).alloc (Nat.le_refl _) _).alloc (by simp) _))
    have h1 := Aside0.mk (show Kd.C (Kd.int .u64) (w.alloc (.cells #[.int .u64 a] 25)).drew (some ⟨w.heap.size, 0, none⟩) 1 [a] from Kd.C_below (C_lit1 .u64 w a) (below_drew (Below.refl _ _)))
    have h2 := Aside0.mk (show Kd.C (Kd.int .u64) ((w.alloc (.cells #[.int .u64 a] 25)).alloc (.cells #[.int .u64 b] 25)).drew (some ⟨w.heap.size, 0, none⟩) 1 [a] from Kd.C_below (C_lit1 .u64 w a) (below_drew ((Below.refl _ _).alloc (Nat.le_refl _) _)))
    have h3b := Aside0.mk (show Kd.C (Kd.int .u64) ((w.alloc (.cells #[.int .u64 b] 25)).alloc (.cells #[.int .u64 a] 25)).drew (some ⟨w.heap.size, 0, none⟩) 1 [b] from Kd.C_below (C_lit1 .u64 w b) (below_drew ((Below.refl _ _).alloc (Nat.le_refl _) _)))
    have h2b := Aside0.mk (show Kd.C (Kd.int .u64) ((w.alloc (.cells #[.int .u64 a] 25)).alloc (.cells #[.int .u64 b] 25)).drew (some ⟨w.heap.size + 1, 0, none⟩) 1 [b] from Kd.C_below (by have := C_lit1 (e := 25) .u64 (w.alloc (.cells #[.int .u64 a] 25)) b; rwa [World.size_alloc] at this) (below_drew (Below.refl _ _)))
    have h3 := Aside0.mk (show Kd.C (Kd.int .u64) ((w.alloc (.cells #[.int .u64 b] 25)).alloc (.cells #[.int .u64 a] 25)).drew (some ⟨w.heap.size + 1, 0, none⟩) 1 [a] from Kd.C_below (by have := C_lit1 (e := 25) .u64 (w.alloc (.cells #[.int .u64 b] 25)) a; rwa [World.size_alloc] at this) (below_drew (Below.refl _ _)))
    go_region_with (first | (go_at_call 13; with_reducible refine (pack_Num_str _ a _ h1.out HA.out).mono ?_; rintro e w1 ⟨gA, rfl, hF, hb⟩; have hFn := Kd.F_now hF; have hcv := Kd.C_string (c := (numT a).length) Try.underlying31 Try.underlying5 Try.underlying9 hFn; have hAb := Kd.C_below hFn ((Below.refl _ _).alloc (Nat.le_refl _) (.cells #[.int .u64 b] 25)); have hcv1 := Kd.C_string (c := (numT a).length) Try.underlying31 Try.underlying5 Try.underlying9 hAb; have hrb := Aside0.mk (C_lit1 (e := 25) .u64 w1 b); have hBa := Aside0.mk (g1.out.trans (hb.mono g1.out.size)); have hBb := Aside0.mk (hBa.out.trans (((Below.refl _ _).alloc (Nat.le_refl _) (.cells #[.int .u64 b] 25)).mono hBa.out.size)); replace hAb := Aside0.mk hAb; clear hF hFn hb) | (go_at_call 13; with_reducible refine (pack_Num_str _ a _ h2.out HA.out).mono ?_; rintro e w1 ⟨gA, rfl, hF, hb⟩; have hFn := Kd.F_now hF; have hcv := Kd.C_string (c := (numT a).length) Try.underlying31 Try.underlying5 Try.underlying9 hFn; have hAb := Aside0.mk hFn; have hrb := Aside0.mk (Kd.C_below h2b.out hb); have hBb := Aside0.mk (g2.out.trans (hb.mono g2.out.size)); clear hF hFn hb) | (go_at_call 13; with_reducible refine (pack_Num_str _ a _ h3.out HA.out).mono ?_; rintro e w1 ⟨gA, rfl, hF, hb⟩; have hFn := Kd.F_now hF; have hcv := Kd.C_string (c := (numT a).length) Try.underlying31 Try.underlying5 Try.underlying9 hFn; have hAb := Aside0.mk hFn; have hrb := Aside0.mk (Kd.C_below h3b.out hb); have hBb := Aside0.mk (g3.out.trans (hb.mono g3.out.size)); clear hF hFn hb) | (go_at_call 13; with_reducible refine (pack_Num_str _ b _ hrb.out HBb.out).mono ?_; rintro e w2 ⟨gB, rfl, hF2, hb2⟩; have hFn2 := Kd.F_now hF2; have hcv2 := Kd.C_string (c := (numT b).length) Try.underlying31 Try.underlying5 Try.underlying9 hFn2; have hcv3 := Kd.C_string (c := (numT a).length) Try.underlying31 Try.underlying5 Try.underlying9 (Kd.C_below hAb.out hb2); have hBe := Aside0.mk (hBb.out.trans (hb2.mono hBb.out.size)); clear hF2 hFn2 hb2))
    all_goals go_wp2
    all_goals (go_meet; case rel => exact ⟨rfl, rfl, hBe⟩)
  case rest =>
    obtain ⟨rfl, rfl, HB⟩ := hcut
    have n1 := ne.out
    have m1 := l1.out
    have m2 := l2.out
    have m3 := l3.out
    clear l1 l2 l3 ne
    generalize strOfNums (numT a) = sa at *
    generalize strOfNums (numT b) = sb at *
    have q1 : decide ((sb.size : Int) < (sa.size : Int)) = false := decide_eq_false (by omega)
    have q1n : decide (sb.size < sa.size) = false := decide_eq_false (by omega)
    have q2 : decide (10 < (sb.size : Int)) = false := decide_eq_false (by omega)
    have q2n : decide (10 < sb.size) = false := decide_eq_false (by omega)
    have q3 : ((sa.size : Int) == 0) = false := beq_eq_false_iff_ne.mpr (by omega)
    have q3n : (sa.size == 0) = false := beq_eq_false_iff_ne.mpr (by omega)
    have r0 : 0 ≤ a % 64 := Int.emod_nonneg a (by omega)
    have r1 : a % 64 < 64 := Int.emod_lt_of_pos a (by omega)
    by_cases hab : a = b
    · have q4 : (a == b) = true := beq_iff_eq.mpr hab
      have q4' : (a != b) = false := bne_eq_false_iff_eq.mpr hab
      clear hab n1
      go_wp2_with (first | (go_at_call 14; with_reducible refine (pack_Int_one k _ _ y1 _ (C_lit1 _ _ _) i1.out).mono ?_; rintro e w3 ⟨⟨A3, c3, rfl⟩, hb3⟩; replace hb3 := Aside0.mk hb3) | (go_at_call 14; with_reducible refine (pack_Int_one k _ _ y2 _ (C_lit1 _ _ _) i2.out).mono ?_; rintro e w4 ⟨⟨A4, c4, rfl⟩, hb4⟩; replace hb4 := Aside0.mk hb4) | (go_at_call 14; with_reducible refine (pack_Int_one k _ _ y3 _ (C_lit1 _ _ _) i3.out).mono ?_; rintro e w5 ⟨⟨A5, c5, rfl⟩, hb5⟩; replace hb5 := Aside0.mk hb5) | (go_at_call 6; with_reducible refine (forebaylaw01_head.calls _ _ _ hhd.out).mono ?_; rintro e w6 ⟨rfl, hb6⟩; replace hb6 := Aside0.mk hb6))
      go_ret
      have k3 := HB.out.trans (((Below.refl wc.heap.size wc).alloc (Nat.le_refl _) (.cells #[.int .i64 (a % 64)] 2)).mono HB.out.size)
      have k4 := k3.trans (hb3.out.mono k3.size)
      have k5 := k4.trans (((Below.refl w3.heap.size w3).alloc (Nat.le_refl _) (.cells #[.int .i64 (-(a % 64))] 2)).mono k4.size)
      have k6 := k5.trans (hb4.out.mono k5.size)
      have k7 := k6.trans (((Below.refl w4.heap.size w4).alloc (Nat.le_refl _) (.cells #[.int .i64 (-(a % 64) - 1)] 2)).mono k6.size)
      have k8 := k7.trans (hb5.out.mono k7.size)
      exact ⟨rfl, k8.trans (hb6.out.mono k8.size)⟩
    · have q4 : (a == b) = false := beq_eq_false_iff_ne.mpr hab
      have q4' : (a != b) = true := bne_iff_ne.mpr hab
      have q5 : ((sb.extract 0 sa.size).toList == sa.toList) = false := beq_eq_false_iff_ne.mpr (n1 hab)
      clear hab n1
      go_wp2_with (first | (go_at_call 14; with_reducible refine (pack_Int_one k _ _ y1 _ (C_lit1 _ _ _) i1.out).mono ?_; rintro e w3 ⟨⟨A3, c3, rfl⟩, hb3⟩; replace hb3 := Aside0.mk hb3) | (go_at_call 14; with_reducible refine (pack_Int_one k _ _ y2 _ (C_lit1 _ _ _) i2.out).mono ?_; rintro e w4 ⟨⟨A4, c4, rfl⟩, hb4⟩; replace hb4 := Aside0.mk hb4) | (go_at_call 14; with_reducible refine (pack_Int_one k _ _ y3 _ (C_lit1 _ _ _) i3.out).mono ?_; rintro e w5 ⟨⟨A5, c5, rfl⟩, hb5⟩; replace hb5 := Aside0.mk hb5) | (go_at_call 6; with_reducible refine (forebaylaw01_head.calls _ _ _ hhd.out).mono ?_; rintro e w6 ⟨rfl, hb6⟩; replace hb6 := Aside0.mk hb6))
      go_ret
      have k3 := HB.out.trans (((Below.refl wc.heap.size wc).alloc (Nat.le_refl _) (.cells #[.int .i64 (a % 64)] 2)).mono HB.out.size)
      have k4 := k3.trans (hb3.out.mono k3.size)
      have k5 := k4.trans (((Below.refl w3.heap.size w3).alloc (Nat.le_refl _) (.cells #[.int .i64 (-(a % 64))] 2)).mono k4.size)
      have k6 := k5.trans (hb4.out.mono k5.size)
      have k7 := k6.trans (((Below.refl w4.heap.size w4).alloc (Nat.le_refl _) (.cells #[.int .i64 (-(a % 64) - 1)] 2)).mono k6.size)
      have k8 := k7.trans (hb5.out.mono k7.size)
      exact ⟨rfl, k8.trans (hb6.out.mono k8.size)⟩
theorem forebaylaw01_PackShort.calls (k : Nat) (a0 : Int) (a1 : Int) (r : Bool) (w : World) (h : forebaylaw01_PackShort.f k a0 a1 = some r) :
    Calls Try.prog 4 #[.int .u64 a0, .int .u64 a1] w fun e w' => e = .returned (.bool r) ∧ Below w.heap.size w w' := by
  unfold forebaylaw01_PackShort.f at h
  by_cases hk : ShortOk k (if a1 < a0 then a1 else a0) (if a1 < a0 then a0 else a1)
  case neg => rw [@if_neg _ (Classical.propDecidable _) hk] at h; cases h
  rw [@if_pos _ (Classical.propDecidable _) hk] at h
  obtain rfl := Option.some.inj h
  by_cases hgt : a1 < a0
  · rw [if_pos hgt, if_pos hgt] at hk
    exact short_gt k a1 a0 w hgt hk
  · rw [if_neg hgt, if_neg hgt] at hk
    exact short_lt k a0 a1 w hgt hk

/-- THE ONE PURE STATEMENT of forebaylaw01_PackShort: yours. -/
def forebaylaw01_PackShort.Pure : Prop := ∀ (a0 : Int) (a1 : Int), (Lit.int .u64 a0).wf = true → (Lit.int .u64 a1).wf = true → ∃ k, forebaylaw01_PackShort.f k a0 a1 = some true
theorem forebaylaw01_PackShort.walk (P : forebaylaw01_PackShort.Pure) (a0 : Int) (a1 : Int) (w : World) (w0 : (Lit.int .u64 a0).wf = true) (w1 : (Lit.int .u64 a1).wf = true) :
    Calls Try.prog 4 #[.int .u64 a0, .int .u64 a1] w fun e w' => e = .returned (.bool true) ∧ Below w.heap.size w w' := by
  obtain ⟨k, h⟩ := P a0 a1 w0 w1
  refine (forebaylaw01_PackShort.calls k a0 a1 true w h).mono ?_
  rintro e w' ⟨rfl, hd⟩
  exact ⟨rfl, hd⟩

end Go.Proofs.Ytphmejgipjcppaa.P
