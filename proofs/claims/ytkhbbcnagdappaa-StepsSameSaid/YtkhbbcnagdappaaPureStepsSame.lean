/- StepsSame: Same is so of a profile and itself with the same number given and taken, and not, if one is taken at a time. -/
import Derived.Test.YtkhbbcnagdappaaStepsEv
namespace Go.Proofs.Ytkhbbcnagdappaa.Pure
open Go.RowKit Go.Proofs.Ytkhbbcnagdappaa.P Go.Proofs.YtkhbbcnagdappaaW.PrintWords Go.Proofs.YtkhbbcnagdappaaW.PrintLast
set_option linter.unusedVariables false
set_option linter.unusedSimpArgs false

theorem quant_eq (x : Int) : forebayref04_Quantity.f x = some (decide (0 ≤ x ∧ x ≤ 1099511627776)) := by
  unfold forebayref04_Quantity.f
  by_cases h1 : x ≥ 0
  · rw [if_pos h1]
    congr 1
    exact decide_eq_decide.2 ⟨fun h => ⟨h1, h⟩, fun h => h.2⟩
  · rw [if_neg h1, decide_eq_false (fun h => h1 h.1)]
theorem fine_eq (x y z : Int) : forebaylaw04_fine.f x y z = some (decide ((0 ≤ x ∧ x ≤ 1099511627776) ∧ (0 ≤ y ∧ y ≤ 1099511627776) ∧ (0 ≤ z ∧ z ≤ 1099511627776))) := by
  unfold forebaylaw04_fine.f
  rw [quant_eq, quant_eq, quant_eq]
  by_cases h1 : 0 ≤ x ∧ x ≤ 1099511627776 <;> by_cases h2 : 0 ≤ y ∧ y ≤ 1099511627776 <;> by_cases h3 : 0 ≤ z ∧ z ≤ 1099511627776 <;> simp [h1, h2, h3]
theorem StepsSame : forebaylaw04_StepsSame.Pure := by
  intro a n lo hi m _ _
  refine Ev.rounds ?_
  unfold forebaylaw04_StepsSame.f
  have hd : Ev (fun k => forebaylaw04_StepsSame.j0 k true a n lo hi m) true := by
    refine Ev.succ ?_
    simp only [forebaylaw04_StepsSame.j0]
    exact Ev.pos (by trivial) (Ev.bind head_ends (Ev.const rfl))
  unfold forebayref04_Great.f
  by_cases h1 : (a.length : Int) > 60
  · exact Ev.eq_bind (a := true) (by rw [if_pos h1]) (Ev.pos (by trivial) hd)
  by_cases h2 : (n.length : Int) > 60
  · exact Ev.eq_bind (a := true) (by rw [if_neg h1, decide_eq_true h2]) (Ev.pos (by trivial) hd)
  refine Ev.eq_bind (a := false) (by rw [if_neg h1, decide_eq_false h2]) (Ev.neg (by decide) ?_)
  obtain ⟨e, hc, hv⟩ := check_ev a n (by omega)
  refine Ev.bind hc ?_
  by_cases he : e = 0
  case neg => exact Ev.neg he hd
  have hv := hv he
  refine Ev.pos he (Ev.eq_bind (fine_eq lo hi m) ?_)
  by_cases hq : (0 ≤ lo ∧ lo ≤ 1099511627776) ∧ (0 ≤ hi ∧ hi ≤ 1099511627776) ∧ (0 ≤ m ∧ m ≤ 1099511627776)
  case neg => rw [decide_eq_false hq]; exact hd
  rw [decide_eq_true hq]
  obtain ⟨q1, q2, q3⟩ := hq
  refine Ev.succ ?_
  simp only [forebaylaw04_StepsSame.j0]
  refine Ev.neg (by decide) ?_
  rcases give_spec hv (by omega) q1 q2 q3 with hg | ⟨b, c, hg, hb, hbl, hbv⟩
  · refine Ev.bind hg (Ev.neg (by decide) (Ev.pos rfl (Ev.bind head_ends (Ev.const rfl))))
  refine Ev.bind hg (Ev.pos rfl ?_)
  dsimp only
  rcases take_spec hb (by omega) q1 q2 q3 with ⟨_, t, t1, t2, t3, t4, t5⟩ | ⟨f, g, ht, hf, hfl, _, hfv⟩
  · rw [hbv t t3 t4, if_pos ⟨t1, t2⟩] at t5
    have := at_rng hv t t3 t4
    omega
  refine Ev.bind ht ?_
  dsimp only
  have hsame : ∀ t, 0 ≤ t → t ≤ 1099511627776 → atT t (spansT f g) = atT t (spansT a n) := fun t t1 t2 => by
    rw [hfv t t1 t2, hbv t t1 t2]
    by_cases h6 : lo ≤ t ∧ t < hi
    · rw [if_pos h6, if_pos h6]; omega
    · rw [if_neg h6, if_neg h6]
  obtain ⟨s1, e1, i1⟩ := same_ev hv hf (by omega) (by omega)
  obtain ⟨s2, e2, i2⟩ := same_ev hf hv (by omega) (by omega)
  obtain ⟨s3, e3, i3⟩ := same_ev hv hb (by omega) (by omega)
  have hs1 : s1 = true := i1.1 (fun t t1 t2 => (hsame t t1 t2).symm)
  have hs2 : s2 = true := i2.1 hsame
  have hj : ∀ ch : Bool, (ch = true ↔ (m > 0 ∧ hi > lo)) → Ev (fun k => forebaylaw04_StepsSame.j1 k 0 ch a n b c f g) true := by
    intro ch hch
    refine Ev.succ ?_
    simp only [forebaylaw04_StepsSame.j1]
    refine Ev.pos (by trivial) (Ev.bind e1 (Ev.pos hs1 (Ev.bind e2 (Ev.pos hs2 (Ev.bind e3 (Ev.pos ?_ (Ev.bind head_ends (Ev.const rfl))))))))
    by_cases hcg : m > 0 ∧ hi > lo
    · have h7 : s3 = false := by
        cases hs : s3 with
        | false => rfl
        | true =>
          have := i3.2 hs lo q1.1 q1.2
          rw [hbv lo q1.1 q1.2, if_pos ⟨Int.le_refl _, by omega⟩] at this
          omega
      rw [h7, hch.2 hcg]; rfl
    · have h7 : s3 = true := i3.1 (fun t t1 t2 => by
        rw [hbv t t1 t2]
        by_cases h6 : lo ≤ t ∧ t < hi
        · rw [if_pos h6]
          have : ¬ m > 0 := fun hm => hcg ⟨hm, by omega⟩
          omega
        · rw [if_neg h6])
      have h8 : ch = false := by
        cases hc2 : ch with
        | false => rfl
        | true => exact absurd (hch.1 hc2) hcg
      rw [h7, h8]; rfl
  refine Ev.ite (fun hm => ?_) (fun hm => ?_)
  · exact hj _ (by rw [decide_eq_true_eq]; exact ⟨fun h => ⟨hm, h⟩, fun h => h.2⟩)
  · exact hj false ⟨fun h => (by cases h), fun h => absurd h.1 hm⟩

end Go.Proofs.Ytkhbbcnagdappaa.Pure
