/- SatOrder: for all numbers, the calls of sat rise with their first number, Sub and Ceil fall with the second, and all that is told is a quantity. No condition. -/
import Derived.Test.YtnbfnhddjekhlaaSat
namespace Go.Proofs.Ytnbfnhddjekhlaa.Pure
open Go.RowKit Go.Proofs.Ytnbfnhddjekhlaa.P Go.Proofs.YtnbfnhddjekhlaaW.PrintWords Go.Proofs.YtnbfnhddjekhlaaW.PrintLast

theorem twiceN_mono (n : Nat) : ∀ {a b : Int}, a ≤ b → twiceN a n ≤ twiceN b n := by
  induction n with
  | zero => intro a b h; exact h
  | succ n ih => intro a b h; exact ih (clampT_mono (by have := clampT_mono h; omega))
theorem twiceN_rng (n : Nat) : ∀ {a : Int}, 0 ≤ a → a ≤ 1099511627776 → 0 ≤ twiceN a n ∧ twiceN a n ≤ 1099511627776 := by
  induction n with
  | zero => intro a h0 h1; exact ⟨h0, h1⟩
  | succ n ih => intro a h0 h1; exact ih (clampT_lo _) (clampT_hi _)
theorem ceilT_mono {a b c : Int} (ha : 0 ≤ a) (h : a ≤ b) (hb : b ≤ 1099511627776) (hc : 0 ≤ c) : ceilT a c ≤ ceilT b c := by
  have r := ceilT_rng (a := b) (b := c) (by omega) hb hc
  unfold ceilT at *
  by_cases h0 : a = 0
  · rw [if_pos h0]; exact r.1
  · rw [if_neg h0, if_neg (show ¬ b = 0 by omega)]
    by_cases h1 : c = 0
    · rw [if_pos h1, if_pos h1]; omega
    · rw [if_neg h1, if_neg h1]
      have : (a - 1) / c ≤ (b - 1) / c := Int.ediv_le_ediv (by omega) (by omega)
      omega
theorem ceilT_anti {a b c : Int} (hc : 0 ≤ c) (hc1 : c ≤ 1099511627776) (ha : 0 ≤ a) (h : a ≤ b) : ceilT c b ≤ ceilT c a := by
  have r := ceilT_rng (a := c) (b := b) hc hc1 (by omega)
  unfold ceilT at *
  by_cases h0 : c = 0
  · rw [if_pos h0, if_pos h0]; omega
  · simp only [if_neg h0] at *
    by_cases h1 : a = 0
    · rw [if_pos h1]; exact r.2
    · rw [if_neg h1, if_neg (show ¬ b = 0 by omega)]
      have h3 : (c - 1) / b ≤ (c - 1) / a := by
        have q := Int.ediv_mul_le (c - 1) (show b ≠ 0 by omega)
        have q0 : 0 ≤ (c - 1) / b := Int.ediv_nonneg (by omega) (by omega)
        refine (Int.le_ediv_iff_mul_le (by omega)).2 ?_
        have : (c - 1) / b * a ≤ (c - 1) / b * b := Int.mul_le_mul_of_nonneg_left h q0
        omega
      omega
theorem grainT_mono {a b c : Int} (ha : 0 ≤ a) (h : a ≤ b) (hb : b ≤ 1099511627776) (hc : 0 ≤ c) : grainT a c ≤ grainT b c := by
  unfold grainT
  split
  · exact h
  · exact clampT_mono (Int.mul_le_mul_of_nonneg_right (ceilT_mono ha h hb hc) hc)
theorem grainT_rng {a c : Int} (ha : 0 ≤ a) (hb : a ≤ 1099511627776) : 0 ≤ grainT a c ∧ grainT a c ≤ 1099511627776 := by
  unfold grainT
  split
  · exact ⟨ha, hb⟩
  · exact ⟨clampT_lo _, clampT_hi _⟩
/-- What the loop asks of each pair. -/
theorem order_l (a b c : Int) (l m : List Int) (hlm : l.length = m.length) (hl : l.length ≤ 100) (H : ∀ i : Nat, i < l.length → l.getD i 0 ≤ m.getD i 0 ∧ 0 ≤ l.getD i 0 ∧ m.getD i 0 ≤ 1099511627776)
    (hab : a ≤ b) (d : Nat) : ∀ i : Int, 0 ≤ i → (l.length : Int) - i = d → Ev (fun k => forebaylaw03_SatOrder.l0 k a b c l m i) true := by
  induction d with
  | zero =>
    intro i h0 hd
    refine Ev.succ ?_
    simp only [forebaylaw03_SatOrder.l0]
    refine Ev.neg (by omega) ?_
    have e1 := clampT_mono hab
    refine Ev.eq_bind (a := ceilT (clampT a) (clampT c)) rfl (Ev.eq_bind (a := ceilT (clampT b) (clampT c)) rfl (Ev.pos (ceilT_mono (clampT_lo _) e1 (clampT_hi _) (clampT_lo _)) ?_))
    refine Ev.eq_bind (a := clampT (clampT c - clampT b)) rfl (Ev.eq_bind (a := clampT (clampT c - clampT a)) rfl (Ev.pos (clampT_mono (by omega)) ?_))
    refine Ev.eq_bind (a := ceilT (clampT c) (clampT b)) rfl (Ev.eq_bind (a := ceilT (clampT c) (clampT a)) rfl (Ev.pos (ceilT_anti (clampT_lo _) (clampT_hi _) (clampT_lo _) e1) ?_))
    exact Ev.bind head_ends (Ev.const rfl)
  | succ d ih =>
    intro i h0 hd
    obtain ⟨g1, g2, g3⟩ := H i.toNat (by omega)
    refine Ev.succ ?_
    simp only [forebaylaw03_SatOrder.l0]
    refine Ev.pos (by omega) (Ev.pos h0 (Ev.pos (by omega) (Ev.neg (by unfold rd; omega) (Ev.neg (by unfold rd; omega) (Ev.neg (by unfold rd; omega) ?_)))))
    refine Ev.eq_bind (a := clampT (rd l i)) rfl (Ev.pos (clampT_self (by unfold rd; omega) (by unfold rd; omega)) ?_)
    rw [show wrap64 (i + 1) = i + 1 by unfold wrap64; omega]
    exact ih _ (by omega) (by omega)
theorem order_j (a b c : Int) (hab : a ≤ b) : Ev (fun k => forebaylaw03_SatOrder.j0 k a b c) true := by
  refine Ev.succ ?_
  simp only [forebaylaw03_SatOrder.j0]
  refine Ev.eq_bind (a := clampT a) rfl (Ev.eq_bind (add_two _ _) (Ev.eq_bind (a := clampT (clampT a - clampT c)) rfl (Ev.eq_bind (a := clampT (clampT a * clampT c)) rfl (Ev.eq_bind (grain_eq a c) (Ev.bind (twice_ends a 3) ?_)))))
  refine Ev.eq_bind (a := clampT b) rfl (Ev.eq_bind (add_two _ _) (Ev.eq_bind (a := clampT (clampT b - clampT c)) rfl (Ev.eq_bind (a := clampT (clampT b * clampT c)) rfl (Ev.eq_bind (grain_eq b c) (Ev.bind (twice_ends b 3) ?_)))))
  have e1 := clampT_mono hab
  have a1 := clampT_lo a; have a2 := clampT_hi a; have b1 := clampT_lo b; have b2 := clampT_hi b; have c1 := clampT_lo c
  refine order_l a b c _ _ (by rfl) (by simp) ?_ hab 6 0 (by omega) (by simp)
  intro i hi
  have hi' : i < 6 := by simpa using hi
  rcases i with _ | _ | _ | _ | _ | _ | i
  all_goals simp only [List.getD_cons_succ, List.getD_cons_zero]
  · exact ⟨e1, a1, b2⟩
  · exact ⟨clampT_mono (by omega), clampT_lo _, clampT_hi _⟩
  · exact ⟨clampT_mono (by omega), clampT_lo _, clampT_hi _⟩
  · exact ⟨clampT_mono (Int.mul_le_mul_of_nonneg_right e1 c1), clampT_lo _, clampT_hi _⟩
  · exact ⟨grainT_mono a1 e1 b2 c1, (grainT_rng a1 a2).1, (grainT_rng b1 b2).2⟩
  · exact ⟨twiceN_mono _ e1, (twiceN_rng _ a1 a2).1, (twiceN_rng _ b1 b2).2⟩
  · omega

theorem SatOrder : forebaylaw03_SatOrder.Pure := by
  intro a b c _ _ _
  refine Ev.rounds (g := fun k => forebaylaw03_SatOrder.f k a b c) ?_
  unfold forebaylaw03_SatOrder.f
  exact Ev.ite (fun h => order_j b a c (by omega)) (fun h => order_j a b c (by omega))

end Go.Proofs.Ytnbfnhddjekhlaa.Pure
