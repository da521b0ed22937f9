/- SatLaws: for all numbers, Sub undoes Add below Top, Ceil is the least quotient, Grain tells a multiple, Twice is a product. No condition. -/
import Derived.Test.YtnbfnhddjekhlaaSat
namespace Go.Proofs.Ytnbfnhddjekhlaa.Pure
open Go.RowKit Go.Proofs.Ytnbfnhddjekhlaa.P Go.Proofs.YtnbfnhddjekhlaaW.PrintWords Go.Proofs.YtnbfnhddjekhlaaW.PrintLast

theorem twiceN_eq (n : Nat) : ∀ a, 0 ≤ a → a ≤ 1099511627776 → twiceN a n = clampT (a * 2 ^ n) := by
  induction n with
  | zero => intro a h0 h1; simp [twiceN, clampT_self h0 h1]
  | succ n ih =>
    intro a h0 h1
    rw [twiceN, ih _ (clampT_lo _) (clampT_hi _), clampT_self h0 h1]
    have hp : (0 : Int) ≤ 2 ^ n := Int.pow_nonneg (by omega)
    have := clampT_add_mul (u := 0) (v := a + a) (w := 2 ^ n) (by omega) (by omega) hp
    simp only [Int.zero_add] at this
    rw [this, Int.pow_succ]
    congr 1
    rw [Int.add_mul, ← Int.mul_assoc]
    omega
theorem SatLaws : forebaylaw03_SatLaws.Pure := by
  intro a0 b0 n _ _ hn
  have hn' := wf_u8 hn
  refine Ev.rounds (g := fun k => forebaylaw03_SatLaws.f k a0 b0 n) ?_
  unfold forebaylaw03_SatLaws.f
  refine Ev.eq_bind (a := clampT a0) rfl (Ev.eq_bind (a := clampT b0) rfl (Ev.eq_bind (add_two _ _) ?_))
  have a1 := clampT_lo a0; have a2 := clampT_hi a0; have b1 := clampT_lo b0; have b2 := clampT_hi b0
  generalize clampT a0 = a at *
  generalize clampT b0 = b at *
  rw [clampT_self a1 a2, clampT_self b1 b2]
  have J2 : Ev (fun k => forebaylaw03_SatLaws.j2 k a b n false) true := by
    refine Ev.succ ?_
    simp only [forebaylaw03_SatLaws.j2]
    refine Ev.neg (by simp) ?_
    rw [Int.tmod_eq_emod_of_nonneg hn'.1, show wrap64 (n % 30) = n % 30 by unfold wrap64; omega]
    have hu : IntKind.u64.wrap (n % 30) = n % 30 := wrap_u64_id (by omega) (by omega)
    rw [hu]
    refine Ev.bind (twice_ends a (n % 30)) (Ev.pos (by omega) ?_)
    have hm : mn (mx (n % 30) 0) 64 = n % 30 := by unfold mn mx; split <;> split <;> omega
    obtain ⟨m, hm2⟩ : ∃ m : Nat, n % 30 = m := ⟨(n % 30).toNat, by omega⟩
    have hshl : shl .i64 1 (n % 30) = 2 ^ m := by
      have hle : m ≤ 29 := by omega
      have h2 : (2 : Int) ^ m ≤ 2 ^ 29 := two_pow_le hle
      have h3 : (0 : Int) ≤ 2 ^ m := Int.pow_nonneg (by omega)
      have h4 : min m IntKind.i64.bits = m := Nat.min_eq_left (by show m ≤ 64; omega)
      rw [hm2]
      unfold shl
      rw [Int.toNat_natCast, h4, Int.one_mul]
      exact wrap_i64_id (by omega) (by omega)
    rw [hshl, hm, hm2, Int.toNat_natCast, clampT_self a1 a2, twiceN_eq m a a1 a2]
    refine Ev.eq_bind (a := clampT (clampT a * clampT (2 ^ m))) rfl (Ev.pos ?_ ?_)
    · rw [clampT_self a1 a2, clampT_self (x := 2 ^ m)]
      · exact Int.pow_nonneg (by omega)
      · have : m ≤ 29 := by omega
        have h2 : (2 : Int) ^ m ≤ 2 ^ 29 := two_pow_le this
        omega
    · refine Ev.eq_bind (a := clampT (clampT a * clampT b)) rfl (Ev.eq_bind (a := clampT (clampT b * clampT a)) rfl (Ev.pos (by rw [Int.mul_comm]) (Ev.bind head_ends (Ev.const rfl))))
  have J1 : Ev (fun k => forebaylaw03_SatLaws.j1 k a b n false) true := by
    refine Ev.succ ?_
    simp only [forebaylaw03_SatLaws.j1]
    refine Ev.neg (by simp) (Ev.eq_bind (grain_eq a b) ?_)
    rw [clampT_self a1 a2, clampT_self b1 b2]
    by_cases hb : b > 0
    · have hg : grainT a b = clampT (if a % b = 0 then a else a - a % b + b) := by unfold grainT; rw [if_neg (by omega), ceilT_mul a1 hb]
      have m0 := Int.emod_nonneg a (show b ≠ 0 by omega)
      have m1 := Int.emod_lt_of_pos a hb
      have m2 := emod_le a1 (b := b)
      have em := Int.mul_ediv_add_emod a b
      rw [hg]
      generalize hv : (if a % b = 0 then a else a - a % b + b) = v
      have hv0 : a ≤ v ∧ v - a < b ∧ v % b = 0 := by
        subst hv
        split
        · rename_i h; exact ⟨by omega, by omega, h⟩
        · refine ⟨by omega, by omega, ?_⟩
          rw [show a - a % b + b = b * (a / b + 1) by rw [Int.mul_add]; omega]
          exact Int.mul_emod_right _ _
      have hc : a ≤ clampT v ∧ clampT v ≤ v := by
        have := clampT_mono hv0.1
        rw [clampT_self a1 a2] at this
        refine ⟨this, ?_⟩
        unfold clampT; split <;> (try split) <;> omega
      refine Ev.neg (by omega) (Ev.pos hb ?_)
      have hd : decide (wrap64 (clampT v - a) ≥ b) = false := by
        have := clampT_hi v
        rw [show wrap64 (clampT v - a) = clampT v - a by unfold wrap64; omega]
        exact decide_eq_false (by omega)
      rw [hd]
      refine Ev.ite (fun h => Ev.neg (by omega) (Ev.pos ?_ J2)) (fun h => J2)
      have hvv : clampT v = v := by
        refine clampT_self (by omega) ?_
        have := h; unfold clampT at this; split at this <;> (try split at this) <;> omega
      rw [hvv, Int.tmod_eq_emod_of_nonneg (by omega)]
      exact hv0.2.2
    · have : b = 0 := by omega
      subst this
      have hg : grainT a 0 = a := by unfold grainT; rw [if_pos rfl]
      rw [hg]
      exact Ev.neg (by omega) (Ev.neg hb J2)
  have J0 : Ev (fun k => forebaylaw03_SatLaws.j0 k a b n false) true := by
    refine Ev.succ ?_
    simp only [forebaylaw03_SatLaws.j0]
    refine Ev.neg (by simp) (Ev.eq_bind (a := ceilT (clampT a) (clampT b)) rfl ?_)
    rw [clampT_self a1 a2, clampT_self b1 b2]
    refine Ev.ite (fun hb => ?_) (fun _ => J1)
    obtain ⟨c0, c1⟩ := ceilT_rng a1 a2 b1
    refine Ev.eq_bind (a := clampT (clampT (ceilT a b) * clampT b)) rfl ?_
    rw [clampT_self c0 c1, clampT_self b1 b2]
    have m0 := Int.emod_nonneg a (show b ≠ 0 by omega)
    have m1 := Int.emod_lt_of_pos a hb
    have hcm := ceilT_mul a1 hb
    refine Ev.neg ?_ (Ev.ite (fun hc => ?_) (fun _ => J1))
    · have : a ≤ ceilT a b * b := by rw [hcm]; split <;> omega
      have := clampT_mono this
      rw [clampT_self a1 a2] at this
      omega
    · have hw : wrap64 (ceilT a b - 1) = ceilT a b - 1 := by unfold wrap64; omega
      rw [hw]
      refine Ev.eq_bind (a := clampT (clampT (ceilT a b - 1) * clampT b)) rfl ?_
      rw [clampT_self (x := ceilT a b - 1) (by omega) (by omega), clampT_self b1 b2]
      have hlt : (ceilT a b - 1) * b < a := by
        rw [Int.sub_mul, Int.one_mul, hcm]
        split <;> omega
      have h0 : 0 ≤ (ceilT a b - 1) * b := Int.mul_nonneg (by omega) b1
      rw [clampT_self h0 (by omega)]
      exact Ev.neg (by omega) J1
  refine Ev.ite (fun h => ?_) (fun _ => J0)
  have hs : clampT (a + b) = a + b := by
    refine clampT_self (by omega) ?_
    have := h; unfold clampT at this; split at this <;> (try split at this) <;> omega
  rw [hs]
  refine Ev.eq_bind (a := clampT (clampT (a + b) - clampT a)) rfl ?_
  rw [hs, clampT_self a1 a2, show a + b - a = b by omega, clampT_self b1 b2]
  refine Ev.pos rfl (Ev.eq_bind (a := clampT (clampT (a + b) - clampT b)) rfl ?_)
  rw [hs, clampT_self b1 b2, show a + b - b = a by omega, clampT_self a1 a2]
  simpa using J0

end Go.Proofs.Ytnbfnhddjekhlaa.Pure
