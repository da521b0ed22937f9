/- Plain lemmas on the quantities of sat, and what the document's functions of layer 3 come to. -/
import Derived.Test.YtnbfnhddjekhlaaEv
import Derived.Test.YtnbfnhddjekhlaaPx
namespace Go.Proofs.Ytnbfnhddjekhlaa.Pure
open Go.RowKit Go.Proofs.Ytnbfnhddjekhlaa.P Go.Proofs.YtnbfnhddjekhlaaW.PrintWords Go.Proofs.YtnbfnhddjekhlaaW.PrintLast

theorem clampT_self {x : Int} (h0 : 0 ≤ x) (h1 : x ≤ 1099511627776) : clampT x = x := by unfold clampT; rw [if_neg (by omega), if_neg (by omega)]
theorem clampT_top {x : Int} (h1 : 1099511627776 ≤ x) : clampT x = 1099511627776 := by unfold clampT; rw [if_neg (by omega)]; split <;> omega
theorem clampT_zero {x : Int} (h1 : x ≤ 0) : clampT x = 0 := by unfold clampT; split <;> (try split) <;> omega
theorem clampT_clampT (x : Int) : clampT (clampT x) = clampT x := clampT_self (clampT_lo x) (clampT_hi x)
theorem clampT_mono {x y : Int} (h : x ≤ y) : clampT x ≤ clampT y := by unfold clampT; split <;> split <;> (try split) <;> (try split) <;> omega
theorem clampT_eq_iff {x : Int} : clampT x = x ↔ 0 ≤ x ∧ x ≤ 1099511627776 := by unfold clampT; split <;> (try split) <;> omega
theorem clampT_add_l {u v : Int} (hu : 0 ≤ u) (hv : 0 ≤ v) : clampT (clampT u + v) = clampT (u + v) := by unfold clampT; split <;> (try split) <;> (try split) <;> (try split) <;> omega
theorem clampT_add_mul {u v w : Int} (hu : 0 ≤ u) (hv : 0 ≤ v) (hw : 0 ≤ w) : clampT (u + clampT v * w) = clampT (u + v * w) := by
  rcases Int.lt_or_le v 1099511627777 with h | h
  · rw [clampT_self hv (by omega)]
  · rw [clampT_top (x := v) (by omega)]
    rcases Int.lt_or_le 0 w with h1 | h1
    · have a1 : (1099511627776 : Int) * 1 ≤ 1099511627776 * w := Int.mul_le_mul_of_nonneg_left (by omega) (by omega)
      have a2 : 1099511627776 * w ≤ v * w := Int.mul_le_mul_of_nonneg_right (by omega) hw
      rw [clampT_top (by omega), clampT_top (by omega)]
    · have : w = 0 := by omega
      subst this
      simp

theorem ref_Of (x : Int) : forebayref03_Of.f x = some (clampT x) := by unfold forebayref03_Of.f clampT; split <;> (try split) <;> rfl
theorem ref_Add (x y : Int) : forebayref03_Add.f x y = some (clampT (clampT x + clampT y)) := by
  have a1 := clampT_lo x; have a2 := clampT_hi x; have a3 := clampT_lo y; have a4 := clampT_hi y
  unfold forebayref03_Add.f
  simp only [ref_Of, Option.bind_some]
  rw [show wrap64 (clampT x + clampT y) = clampT x + clampT y by unfold wrap64; omega]
theorem ref_Sub (x y : Int) : forebayref03_Sub.f x y = some (clampT (clampT x - clampT y)) := by
  have a1 := clampT_lo x; have a2 := clampT_hi x; have a3 := clampT_lo y; have a4 := clampT_hi y
  unfold forebayref03_Sub.f
  simp only [ref_Of, Option.bind_some]
  rw [show wrap64 (clampT x - clampT y) = clampT x - clampT y by unfold wrap64; omega]
theorem ref_Ceil (x y : Int) : forebayref03_Ceil.f x y = some (ceilT (clampT x) (clampT y)) := by
  have a1 := clampT_lo x; have a2 := clampT_hi x; have a3 := clampT_lo y; have a4 := clampT_hi y
  unfold forebayref03_Ceil.f ceilT
  simp only [ref_Of, Option.bind_some]
  generalize clampT x = a at *
  generalize clampT y = b at *
  by_cases h1 : a = 0
  · rw [if_pos h1, if_pos h1]
  · rw [if_neg h1, if_neg h1]
    by_cases h2 : b = 0
    · rw [if_pos h2, if_pos h2]
    · rw [if_neg h2, if_neg h2]
      have hb : 0 < b := by omega
      rw [Int.tdiv_eq_ediv_of_nonneg a1]
      have q0 : 0 ≤ a / b := Int.ediv_nonneg a1 a3
      have q1 : a / b ≤ a := Int.ediv_le_self _ a1
      have q2 : a / b * b ≤ a := Int.ediv_mul_le _ (by omega)
      have q3 : 0 ≤ a / b * b := Int.mul_nonneg q0 a3
      have q4 : a < (a / b + 1) * b := Int.lt_ediv_add_one_mul_self a hb
      rw [show wrap64 (a / b) = a / b by unfold wrap64; omega, show wrap64 (a / b * b) = a / b * b by unfold wrap64; omega, show wrap64 (a / b + 1) = a / b + 1 by unfold wrap64; omega]
      by_cases h3 : a / b * b < a
      · rw [if_pos h3]
        congr 1
        have : (a - 1) / b = a / b := by
          apply Int.le_antisymm
          · exact Int.ediv_le_ediv hb (by omega)
          · exact (Int.le_ediv_iff_mul_le hb).2 (by omega)
        rw [this]
      · rw [if_neg h3]
        congr 1
        have e : a / b * b = a := by omega
        have e2 : (a - 1) / b = a / b - 1 := by
          apply Int.le_antisymm
          · have : (a - 1) / b < a / b := Int.ediv_lt_of_lt_mul hb (by omega)
            omega
          · refine (Int.le_ediv_iff_mul_le hb).2 ?_
            rw [Int.sub_mul]
            omega
        omega

theorem ref_Mul_l (n : Nat) : ∀ (a b s : Int), 0 ≤ a → a ≤ 1099511627776 → 0 ≤ b → b ≤ 1099511627776 → 0 ≤ s → s ≤ 1099511627776 → b.toNat ≤ n → Ev (fun k => forebayref03_Mul.l0 k a b s) (clampT (s + a * b)) := by
  induction n using Nat.strongRecOn with
  | _ n ih =>
    intro a b s a0 a1 b0 b1 s0 s1 hn
    refine Ev.succ ?_
    simp only [forebayref03_Mul.l0]
    by_cases hb : b > 0
    · refine Ev.pos hb ?_
      rw [Int.tdiv_eq_ediv_of_nonneg b0, Int.tmod_eq_emod_of_nonneg b0, show wrap64 (b / 2) = b / 2 by unfold wrap64; omega]
      simp only [ref_Add, Option.bind_some, clampT_self a0 a1, clampT_self s0 s1]
      have key : clampT (clampT (s + a * (b % 2)) + clampT (a + a) * (b / 2)) = clampT (s + a * b) := by
        have hm : 0 ≤ b % 2 := by omega
        have hd : 0 ≤ b / 2 := by omega
        rw [clampT_add_mul (clampT_lo _) (by omega) hd, clampT_add_l (Int.add_nonneg s0 (Int.mul_nonneg a0 hm)) (Int.mul_nonneg (by omega) hd)]
        congr 1
        have e : a * b = a * (b % 2 + 2 * (b / 2)) := by congr 1; omega
        rw [e, Int.mul_add, ← Int.mul_assoc, Int.add_assoc, show a + a = a * 2 by omega]
      refine Ev.ite (fun h => ?_) (fun h => ?_)
      · refine (ih (b / 2).toNat (by omega) _ _ _ (clampT_lo _) (clampT_hi _) (by omega) (by omega) (clampT_lo _) (clampT_hi _) (Nat.le_refl _)).eq ?_
        rw [h] at key
        simpa using key
      · refine (ih (b / 2).toNat (by omega) _ _ _ (clampT_lo _) (clampT_hi _) (by omega) (by omega) s0 s1 (Nat.le_refl _)).eq ?_
        rw [show b % 2 = 0 by omega] at key
        simp only [Int.mul_zero, Int.add_zero, clampT_self s0 s1] at key
        exact key
    · refine Ev.neg hb (Ev.const ?_)
      have : b = 0 := by omega
      subst this
      simp [clampT_self s0 s1]
theorem ref_Mul (x y : Int) : Ev (fun k => forebayref03_Mul.f k x y) (clampT (clampT x * clampT y)) := by
  unfold forebayref03_Mul.f
  refine Ev.eq_bind (ref_Of x) (Ev.eq_bind (ref_Of y) ?_)
  refine (ref_Mul_l _ _ _ 0 (clampT_lo _) (clampT_hi _) (clampT_lo _) (clampT_hi _) (by omega) (by omega) (Nat.le_refl _)).eq ?_
  simp

/-- A number that is doubled n times. -/
def twiceN (a : Int) : Nat → Int
  | 0 => a
  | n + 1 => twiceN (clampT (clampT a + clampT a)) n
theorem add_two (x y : Int) : sat_Add.f [x, y] = some (clampT (clampT x + clampT y)) := by
  show some (sumT 0 [x, y]) = _
  unfold sumT addT
  simp only [List.foldl_cons, List.foldl_nil]
  rw [show clampT 0 = 0 from rfl, Int.zero_add, clampT_clampT, clampT_clampT]
theorem twice_l (n : Nat) : ∀ (a i m : Int), m ≤ 64 → 0 ≤ i → m - i = n → Ev (fun k => sat_Twice.l0 k a m i) (twiceN a n) := by
  induction n with
  | zero =>
    intro a i m hm hi h
    refine Ev.succ ?_
    simp only [sat_Twice.l0]
    exact Ev.neg (by omega) (Ev.const rfl)
  | succ n ih =>
    intro a i m hm hi h
    refine Ev.succ ?_
    simp only [sat_Twice.l0]
    refine Ev.pos (by omega) (Ev.eq_bind (add_two a a) ?_)
    rw [show wrap64 (i + 1) = i + 1 by unfold wrap64; omega]
    exact ih _ _ _ hm (by omega) (by omega)
theorem twice_ends (a n : Int) : Ev (fun k => sat_Twice.f k a n) (twiceN (clampT a) (mn (mx n 0) 64).toNat) := by
  unfold sat_Twice.f
  refine Ev.eq_bind (a := clampT a) rfl ?_
  have h0 : 0 ≤ mn (mx n 0) 64 ∧ mn (mx n 0) 64 ≤ 64 := by unfold mn mx; split <;> split <;> omega
  exact twice_l _ _ _ _ h0.2 (by omega) (by omega)
theorem ref_twice_l (n : Nat) : ∀ (a i m : Int), 0 ≤ i → (mn (mx m 0) 64 - i).toNat = n → Ev (fun k => forebayref03_Twice.l0 k a m i) (twiceN a n) := by
  induction n with
  | zero =>
    intro a i m hi h
    refine Ev.succ ?_
    simp only [forebayref03_Twice.l0]
    refine Ev.ite (fun h1 => Ev.neg ?_ (Ev.const rfl)) (fun _ => Ev.const rfl)
    revert h; unfold mn mx; split <;> split <;> omega
  | succ n ih =>
    intro a i m hi h
    have h' : i < m ∧ i < 64 := by revert h; unfold mn mx; split <;> split <;> omega
    refine Ev.succ ?_
    simp only [forebayref03_Twice.l0]
    refine Ev.pos h'.1 (Ev.pos h'.2 (Ev.eq_bind (ref_Add a a) ?_))
    rw [show wrap64 (i + 1) = i + 1 by unfold wrap64; omega]
    exact ih _ _ _ (by omega) (by omega)
theorem ref_twice (a n : Int) : Ev (fun k => forebayref03_Twice.f k a n) (twiceN (clampT a) (mn (mx n 0) 64).toNat) := by
  unfold forebayref03_Twice.f
  refine Ev.eq_bind (ref_Of a) ?_
  exact ref_twice_l _ _ _ _ (by omega) (by simp)

/-- Rounded up to a multiple. -/
def grainT (a g : Int) : Int := if g = 0 then a else clampT (ceilT a g * g)
theorem grain_eq (a g : Int) : sat_Grain.f a g = some (grainT (clampT a) (clampT g)) := by
  unfold sat_Grain.f grainT
  simp only [sat_Of.f, sat_Ceil.f, sat_Mul.f, Option.bind_some]
  obtain ⟨c0, c1⟩ := ceilT_rng (clampT_lo a) (clampT_hi a) (clampT_lo g)
  split
  · rfl
  · rw [clampT_self c0 c1]
theorem ceilT_mul {a g : Int} (ha : 0 ≤ a) (hg : 0 < g) : ceilT a g * g = if a % g = 0 then a else a - a % g + g := by
  have e := Int.mul_ediv_add_emod a g
  have m0 := Int.emod_nonneg a (show g ≠ 0 by omega)
  have m1 := Int.emod_lt_of_pos a hg
  unfold ceilT
  by_cases h0 : a = 0
  · subst h0; simp
  · rw [if_neg h0, if_neg (by omega)]
    by_cases hm : a % g = 0
    · rw [if_pos hm]
      have e2 : (a - 1) / g = a / g - 1 := by
        apply Int.le_antisymm
        · have : (a - 1) / g < a / g := Int.ediv_lt_of_lt_mul hg (by rw [Int.mul_comm]; omega)
          omega
        · refine (Int.le_ediv_iff_mul_le hg).2 ?_
          rw [Int.sub_mul, Int.mul_comm]
          omega
      rw [e2, show a / g - 1 + 1 = a / g by omega, Int.mul_comm]
      omega
    · rw [if_neg hm]
      have e2 : (a - 1) / g = a / g := by
        apply Int.le_antisymm
        · exact Int.ediv_le_ediv hg (by omega)
        · refine (Int.le_ediv_iff_mul_le hg).2 ?_
          rw [Int.mul_comm]
          omega
      rw [e2, Int.add_mul, Int.one_mul, Int.mul_comm]
      omega
theorem emod_le {a b : Int} (ha : 0 ≤ a) : a % b ≤ a := by
  rcases Int.lt_trichotomy b 0 with h | h | h
  · rw [← Int.emod_neg]
    rcases Int.lt_or_le a (-b) with h2 | h2
    · rw [Int.emod_eq_of_lt ha h2]; omega
    · have := Int.emod_lt_of_pos a (show 0 < -b by omega); omega
  · subst h; simp
  · rcases Int.lt_or_le a b with h2 | h2
    · rw [Int.emod_eq_of_lt ha h2]; omega
    · have := Int.emod_lt_of_pos a h; omega
theorem ref_grain (a g : Int) : forebayref03_Grain.f a g = some (grainT (clampT a) (clampT g)) := by
  have a1 := clampT_lo a; have a2 := clampT_hi a; have a3 := clampT_lo g; have a4 := clampT_hi g
  unfold forebayref03_Grain.f grainT
  simp only [ref_Of, Option.bind_some]
  generalize clampT a = x at *
  generalize clampT g = y at *
  by_cases h0 : y = 0
  · rw [if_pos h0, if_pos h0]
  · rw [if_neg h0, if_neg h0, Int.tmod_eq_emod_of_nonneg a1]
    have m0 := Int.emod_nonneg x h0
    have m1 := Int.emod_lt_of_pos x (show 0 < y by omega)
    have m2 : x % y ≤ x := emod_le a1
    rw [ceilT_mul a1 (by omega)]
    by_cases hm : x % y = 0
    · rw [if_pos hm, if_pos hm, clampT_self a1 a2]
    · rw [if_neg hm, if_neg hm, show wrap64 (x - x % y) = x - x % y by unfold wrap64; omega, show wrap64 (x - x % y + y) = x - x % y + y by unfold wrap64; omega]
theorem head_ends : Ev (fun k => forebaylaw03_head.f k) true := Ev.of (fun k => forebaylaw03_head.mono k) (k := 8) (by decide +kernel)

end Go.Proofs.Ytnbfnhddjekhlaa.Pure
