/- StepsLeast: the least number in a window is one that there is at a time in it, at no time in it there are fewer, and of two windows that meet it is the lesser of both. -/
import Derived.Test.YtkhbbcnagdappaaStepsAt
namespace Go.Proofs.Ytkhbbcnagdappaa.Pure
open Go.RowKit Go.Proofs.Ytkhbbcnagdappaa.P Go.Proofs.YtkhbbcnagdappaaW.PrintWords Go.Proofs.YtkhbbcnagdappaaW.PrintLast
set_option linter.unusedVariables false
set_option linter.unusedSimpArgs false

theorem least_two {a n : List Int} (h : Val a n) (f m t : Int) (h0 : 0 ≤ f) (h1 : f ≤ m) (h2 : m ≤ t) : leastT f t (spansT a n) = mn (leastT f m (spansT a n)) (leastT m t (spansT a n)) := by
  obtain ⟨a1, a2, a3⟩ := least_spec h f t h0
  obtain ⟨b1, b2, b3⟩ := least_spec h f m h0
  obtain ⟨c1, c2, c3⟩ := least_spec h m t (by omega)
  have hp : leastT f t (spansT a n) ≤ leastT f m (spansT a n) := by
    rcases b3 with b3 | ⟨u, u1, u2, u3, u4⟩
    · omega
    · have := a2 u u1 (by omega) u3; omega
  have hq : leastT f t (spansT a n) ≤ leastT m t (spansT a n) := by
    rcases c3 with c3 | ⟨u, u1, u2, u3, u4⟩
    · omega
    · have := a2 u (by omega) u2 u3; omega
  have hr : leastT f m (spansT a n) ≤ leastT f t (spansT a n) ∨ leastT m t (spansT a n) ≤ leastT f t (spansT a n) := by
    rcases a3 with a3 | ⟨u, u1, u2, u3, u4⟩
    · exact .inl (by omega)
    · by_cases hu : u < m
      · have := b2 u u1 hu u3; exact .inl (by omega)
      · have := c2 u (by omega) u2 u3; exact .inr (by omega)
  unfold mn
  split <;> omega
theorem least_loop {a n : List Int} (hv : Val a n) (ha : a.length ≤ 60) (hc : Ev (fun k => steps_Check.f k a n) 0) (f m t : Int) (h0 : 0 ≤ f) (h1 : f ≤ m) (h2 : m ≤ t) (h3 : t ≤ 1000) (d : Nat) : ∀ (u : Int) (is : Bool), f ≤ u → (u + d = t ∨ t ≤ u) →
    (is = true ∨ ∃ v, u ≤ v ∧ v < t ∧ atT v (spansT a n) = leastT f t (spansT a n)) →
    Ev (fun k => forebaylaw04_StepsLeast.l0 k f m t (leastT f t (spansT a n)) is u a n) true := by
  obtain ⟨s1, s2, s3⟩ := least_spec hv f t h0
  have hend : ∀ u, t ≤ u → Ev (fun k => forebaylaw04_StepsLeast.l0 k f m t (leastT f t (spansT a n)) true u a n) true := by
    intro u hu
    refine Ev.succ ?_
    simp only [forebaylaw04_StepsLeast.l0]
    refine Ev.neg (by omega) (Ev.pos (by trivial) (Ev.bind (least_ev hv ha hc f m h0 (by omega) (by omega) (by omega)) (Ev.bind (least_ev hv ha hc m t (by omega) (by omega) (by omega) (by omega)) (Ev.pos (least_two hv f m t h0 h1 h2) (Ev.bind head_ends (Ev.const rfl))))))
  induction d with
  | zero =>
    intro u is hf hu his
    rcases his with rfl | ⟨v, v1, v2, _⟩
    · exact hend u (by omega)
    · omega
  | succ d ih =>
    intro u is hf hu his
    by_cases hut : t ≤ u
    · rcases his with rfl | ⟨v, v1, v2, _⟩
      · exact hend u hut
      · omega
    · refine Ev.succ ?_
      simp only [forebaylaw04_StepsLeast.l0]
      have hw : wrap64 (u + 1) = u + 1 := wrap64_id (by omega) (by omega)
      rw [hw]
      have h4 := s2 u hf (by omega) (by omega)
      refine Ev.pos (by omega) (Ev.bind (at_ev hv ha hc u (by omega) (by omega)) (Ev.neg (by omega) ?_))
      cases is with
      | true => exact Ev.pos (by trivial) (ih (u + 1) true (by omega) (by omega) (.inl rfl))
      | false =>
        refine Ev.neg (by decide) (ih (u + 1) _ (by omega) (by omega) ?_)
        by_cases he : atT u (spansT a n) = leastT f t (spansT a n)
        · exact .inl (beq_iff_eq.2 he)
        · rcases his with h5 | ⟨v, v1, v2, v3⟩
          · cases h5
          · refine .inr ⟨v, ?_, v2, v3⟩
            by_cases hv : v = u
            · subst hv; exact absurd v3 he
            · omega
theorem StepsLeast : forebaylaw04_StepsLeast.Pure := by
  intro a n x y z hi
  obtain ⟨_, w1, w2, w3⟩ := hi
  have b1 := wf_u8 w1
  have b2 := wf_u8 w2
  have b3 := wf_u8 w3
  refine Ev.rounds ?_
  unfold forebaylaw04_StepsLeast.f
  have hd : Ev (fun k => forebaylaw04_StepsLeast.j0 k x y z true a n) true := by
    refine Ev.succ ?_
    simp only [forebaylaw04_StepsLeast.j0]
    exact Ev.pos (by trivial) (Ev.bind head_ends (Ev.const rfl))
  unfold forebayref04_Great.f
  by_cases h1 : (a.length : Int) > 60
  · exact Ev.eq_bind (a := true) (by rw [if_pos h1]) (Ev.pos (by trivial) hd)
  by_cases h2 : (n.length : Int) > 60
  · exact Ev.eq_bind (a := true) (by rw [if_neg h1, decide_eq_true h2]) (Ev.pos (by trivial) hd)
  refine Ev.eq_bind (a := false) (by rw [if_neg h1, decide_eq_false h2]) (Ev.neg (by decide) ?_)
  obtain ⟨e, hc, hv⟩ := check_ev a n (by omega)
  refine Ev.bind hc ?_
  by_cases he : e = 0
  case neg =>
    rw [bne_iff_ne.2 he]
    exact hd
  subst he
  have hv := hv rfl
  refine Ev.succ ?_
  simp only [forebaylaw04_StepsLeast.j0]
  have m1 := Int.emod_nonneg x (show (200 : Int) ≠ 0 by decide)
  have m2 := Int.emod_lt_of_pos x (show (0 : Int) < 200 by decide)
  have m3 := Int.emod_nonneg y (show (60 : Int) ≠ 0 by decide)
  have m4 := Int.emod_lt_of_pos y (show (0 : Int) < 60 by decide)
  have m5 := Int.emod_nonneg z (show (60 : Int) ≠ 0 by decide)
  have m6 := Int.emod_lt_of_pos z (show (0 : Int) < 60 by decide)
  rw [Int.tmod_eq_emod_of_nonneg b1.1, Int.tmod_eq_emod_of_nonneg b2.1, Int.tmod_eq_emod_of_nonneg b3.1]
  obtain ⟨f, hf⟩ : ∃ f, x % 200 = f := ⟨_, rfl⟩
  obtain ⟨p, hp⟩ : ∃ p, y % 60 = p := ⟨_, rfl⟩
  obtain ⟨q, hq⟩ : ∃ q, z % 60 = q := ⟨_, rfl⟩
  rw [hf] at m1 m2 ⊢
  rw [hp] at m3 m4 ⊢
  rw [hq] at m5 m6 ⊢
  rw [wrap64_id (x := f) (by omega) (by omega), wrap64_id (x := p) (by omega) (by omega), wrap64_id (x := q) (by omega) (by omega), wrap64_id (x := f + p) (by omega) (by omega), wrap64_id (x := f + p + q) (by omega) (by omega)]
  clear hf hp hq
  refine Ev.neg (by decide) (Ev.bind (least_ev hv (by omega) hc f (f + p + q) (by omega) (by omega) (by omega) (by omega)) ?_)
  refine least_loop hv (by omega) hc f (f + p) (f + p + q) (by omega) (by omega) (by omega) (by omega) (p + q).toNat f _ (Int.le_refl _) (by omega) ?_
  by_cases h3 : f + p + q ≤ f
  · exact .inl (decide_eq_true h3)
  · obtain ⟨s1, s2, s3⟩ := least_spec hv f (f + p + q) (by omega)
    rcases s3 with s3 | ⟨u, u1, u2, u3, u4⟩
    · have h4 := s2 f (Int.le_refl _) (by omega) (by omega)
      have h5 := at_rng hv f (by omega) (by omega)
      exact .inr ⟨f, Int.le_refl _, by omega, by omega⟩
    · exact .inr ⟨u, u1, u2, u4⟩

end Go.Proofs.Ytkhbbcnagdappaa.Pure
