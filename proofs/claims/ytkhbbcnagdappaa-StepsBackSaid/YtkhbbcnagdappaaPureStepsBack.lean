/- StepsBack: Give of what Take told is the profile again; two takes do not hang on their order; outside of the window nothing changes. -/
import Derived.Test.YtkhbbcnagdappaaStepsEv
namespace Go.Proofs.Ytkhbbcnagdappaa.Pure
open Go.RowKit Go.Proofs.Ytkhbbcnagdappaa.P Go.Proofs.YtkhbbcnagdappaaW.PrintWords Go.Proofs.YtkhbbcnagdappaaW.PrintLast
set_option linter.unusedVariables false
set_option linter.unusedSimpArgs false

theorem quant_eq (x : Int) : forebayref04_Quantity.f x = some (decide (0 ≤ x ∧ x ≤ 1099511627776)) := by
  unfold forebayref04_Quantity.f
  by_cases h1 : x ≥ 0
  · rw [if_pos h1]
    congr 1
    exact decide_eq_decide.2 ⟨fun h => ⟨h1, h⟩, fun h => h.2⟩
  · rw [if_neg h1, decide_eq_false (fun h => h1 h.1)]
theorem fine_eq (x y z : Int) : forebaylaw04_fine.f x y z = some (decide ((0 ≤ x ∧ x ≤ 1099511627776) ∧ (0 ≤ y ∧ y ≤ 1099511627776) ∧ (0 ≤ z ∧ z ≤ 1099511627776))) := by
  unfold forebaylaw04_fine.f
  rw [quant_eq, quant_eq, quant_eq]
  by_cases h1 : 0 ≤ x ∧ x ≤ 1099511627776 <;> by_cases h2 : 0 ≤ y ∧ y ≤ 1099511627776 <;> by_cases h3 : 0 ≤ z ∧ z ≤ 1099511627776 <;> simp [h1, h2, h3]
theorem at_ev6 {a n : List Int} (hv : Val a n) (ha : a.length ≤ 600) (t : Int) (h0 : 0 ≤ t) (h1 : t ≤ 1099511627776) : Ev (fun k => steps_At.f k a n t) (atT t (spansT a n)) := by
  unfold steps_At.f
  exact Ev.bind (check_ok hv (by omega)) (Ev.pos ⟨rfl, (badQ_iff t).2 ⟨h0, h1⟩⟩ (Ev.pos ⟨hv.len.symm, by omega⟩ (Ev.const rfl)))
theorem give_room {a n : List Int} (h : Val a n) (ha : a.length ≤ 200) {lo hi m : Int} (hx : 0 ≤ lo ∧ lo ≤ 1099511627776) (hy : 0 ≤ hi ∧ hi ≤ 1099511627776) (hz : 0 ≤ m ∧ m ≤ 1099511627776)
    (hr : ∀ t, lo ≤ t → t < hi → 0 ≤ t → t ≤ 1099511627776 → atT t (spansT a n) + m ≤ 1099511627776) :
    ∃ b c, Ev (fun k => steps_Give.f k a n lo hi m) (b, c, 0) ∧ Val b c ∧ b.length ≤ 3 * a.length ∧ ∀ t, 0 ≤ t → t ≤ 1099511627776 → atT t (spansT b c) = if lo ≤ t ∧ t < hi then atT t (spansT a n) + m else atT t (spansT a n) := by
  rcases give_spec h ha hx hy hz with h6 | h6
  case inr => exact h6
  exfalso
  have hg : ∀ x ∈ spansT a n, ¬ BadS lo hi (giveF m) x := good_of h (fun t t1 t2 t3 t4 => by
    unfold giveF
    dsimp only
    have h7 := hr t t1 t2 t3 t4
    rw [wrap64_id (by omega) (by omega), decide_eq_true_eq]
    omega)
  obtain ⟨o, v, r, h1, h2, h3, h4, h5⟩ := (turn_spec h lo hi (giveF m)).2 hg
  have hol := out_len h1
  have hev := give_ev h (by omega) hx hy hz
  rw [h1, resT_some (by omega)] at hev
  have h8 := congrArg (fun r => r.2.2) (ev_uniq h6 hev)
  simp at h8
theorem back_of {k : Nat} {a n : List Int} {x y z p q m t : Int} (h : BackOk k a n x y z p q m t) : ∃ k, forebaylaw04_StepsBack.f k a n x y z p q m t = some true :=
  ⟨k, by unfold forebaylaw04_StepsBack.f; exact @if_pos _ (Classical.propDecidable _) h _ _ _⟩
theorem StepsBack : forebaylaw04_StepsBack.Pure := by
  intro a n x y z p q m t _
  obtain ⟨K1, p1⟩ := head_ends
  by_cases hl : a.length ≤ 60 ∧ n.length ≤ 60
  case neg =>
    refine back_of (k := K1) ⟨p1 _ (by omega), .inl ?_⟩
    unfold forebayref04_Great.f
    by_cases h1 : (a.length : Int) > 60
    · rw [if_pos h1]
    · rw [if_neg h1, decide_eq_true (by omega)]
  have hG : forebayref04_Great.f a n = some false := by
    unfold forebayref04_Great.f
    rw [if_neg (by omega), decide_eq_false (by omega)]
  obtain ⟨e, ⟨K2, p2⟩, hval⟩ := check_ev a n (by omega)
  by_cases he : e = 0
  case neg => exact back_of (k := K1 + K2) ⟨p1 _ (by omega), .inr (.inl ⟨e, hG, p2 _ (by omega), he⟩)⟩
  subst he
  have hv := hval rfl
  by_cases hw : (0 ≤ x ∧ x ≤ 1099511627776) ∧ (0 ≤ y ∧ y ≤ 1099511627776) ∧ (0 ≤ z ∧ z ≤ 1099511627776)
  case neg => exact back_of (k := K1 + K2) ⟨p1 _ (by omega), .inr (.inr (.inl ⟨hG, p2 _ (by omega), by rw [fine_eq, decide_eq_false hw]⟩))⟩
  have hF1 : forebaylaw04_fine.f x y z = some true := by rw [fine_eq, decide_eq_true hw]
  by_cases hw2 : (0 ≤ p ∧ p ≤ 1099511627776) ∧ (0 ≤ q ∧ q ≤ 1099511627776) ∧ (0 ≤ m ∧ m ≤ 1099511627776)
  case neg => exact back_of (k := K1 + K2) ⟨p1 _ (by omega), .inr (.inr (.inr (.inl ⟨hG, p2 _ (by omega), hF1, by rw [fine_eq, decide_eq_false hw2]⟩)))⟩
  have hF2 : forebaylaw04_fine.f p q m = some true := by rw [fine_eq, decide_eq_true hw2]
  by_cases hq : 0 ≤ t ∧ t ≤ 1099511627776
  case neg => exact back_of (k := K1 + K2) ⟨p1 _ (by omega), .inr (.inr (.inr (.inr (.inl ⟨hG, p2 _ (by omega), hF1, hF2, by rw [quant_eq, decide_eq_false hq]⟩))))⟩
  have hQ : forebayref04_Quantity.f t = some true := by rw [quant_eq, decide_eq_true hq]
  have gate : ∀ k, K2 ≤ k → BackGate k a n x y z p q m t := fun k hk => ⟨hG, p2 _ hk, hF1, hF2, hQ⟩
  obtain ⟨w1, w2, w3⟩ := hw
  obtain ⟨v1, v2, v3⟩ := hw2
  obtain ⟨KL, pL⟩ := least_ev hv (by omega) ⟨K2, p2⟩ x y w1.1 w1.2 w2.1 w2.2
  obtain ⟨s1, s2, s3⟩ := least_spec hv x y w1.1
  rcases take_spec hv (by omega) w1 w2 w3 with ⟨⟨K3, p3⟩, t', t1, t2, t3, t4, t5⟩ | ⟨a1, a2, ⟨K3, p3⟩, hv1, hl1, hmin, hat⟩
  · refine back_of (k := K1 + K2 + K3 + KL) ⟨p1 _ (by omega), .inr (.inr (.inr (.inr (.inr (.inl ⟨gate _ (by omega), _, _, _, p3 _ (by omega), pL _ (by omega), ?_⟩)))))⟩
    have := s2 t' t1 t2 t4
    omega
  obtain ⟨b1, b2, ⟨K4, p4⟩, hv2, hl2, hbt⟩ := give_room hv1 (by omega) w1 w2 w3 (fun u u1 u2 u3 u4 => by
    have h1 := hat u u3 u4
    rw [if_pos ⟨u1, u2⟩] at h1
    have h2 := at_rng hv u u3 u4
    omega)
  obtain ⟨sm, ⟨K5, p5⟩, hsm⟩ := same_ev hv2 hv (by omega) (by omega)
  have hsm' : sm = true := hsm.1 (fun u u3 u4 => by
    have h1 := hat u u3 u4
    have h2 := hbt u u3 u4
    by_cases h3 : x ≤ u ∧ u < y
    · rw [if_pos h3] at h1 h2; omega
    · rw [if_neg h3] at h1 h2; omega)
  subst hsm'
  obtain ⟨K6, p6⟩ := at_ev6 hv (by omega) t hq.1 hq.2
  obtain ⟨K7, p7⟩ := at_ev6 hv1 (by omega) t hq.1 hq.2
  have hvat : atT t (spansT a1 a2) = (if x ≤ t ∧ t < y then wrap64 (atT t (spansT a n) - z) else atT t (spansT a n)) := by
    rw [hat t hq.1 hq.2]
    have h2 := at_rng hv t hq.1 hq.2
    rw [wrap64_id (by omega) (by omega)]
  have hlz : z ≤ leastT x y (spansT a n) ∨ (leastT x y (spansT a n) < z ∧ y ≤ x) := by
    rcases s3 with s3 | ⟨u, u1, u2, u3, u4⟩
    · exact .inl (by omega)
    · have := hmin u (by omega) u3 u1 u2
      exact .inl (by omega)
  have hd : ∃ d1 d2 h, Ev (fun k => steps_Take.f k a n p q m) (d1, d2, h) ∧ ((∀ u, 0 ≤ u → u ≤ 1099511627776 → p ≤ u → u < q → m ≤ atT u (spansT a n)) → h = 0 ∧ Val d1 d2 ∧ d1.length ≤ 3 * a.length ∧ ∀ u, 0 ≤ u → u ≤ 1099511627776 → atT u (spansT d1 d2) = if p ≤ u ∧ u < q then atT u (spansT a n) - m else atT u (spansT a n)) := by
    rcases take_spec hv (by omega) v1 v2 v3 with ⟨hev, u, u1, u2, u3, u4, u5⟩ | ⟨d1, d2, hev, h1, h2, h3, h4⟩
    · exact ⟨_, _, _, hev, fun h => by have := h u u3 u4 u1 u2; omega⟩
    · exact ⟨_, _, _, hev, fun _ => ⟨rfl, h1, h2, h4⟩⟩
  obtain ⟨d1, d2, h, ⟨K9, p9⟩, hdd⟩ := hd
  rcases take_spec hv1 (by omega) v1 v2 v3 with ⟨⟨K8, p8⟩, t', t1, t2, t3, t4, t5⟩ | ⟨c1, c2, ⟨K8, p8⟩, hv3, hl3, hmin3, hct⟩
  · exact back_of (k := K1 + K2 + K3 + KL + K4 + K5 + K6 + K7 + K8 + K9) ⟨p1 _ (by omega), .inr (.inr (.inr (.inr (.inr (.inr ⟨gate _ (by omega), a1, a2, b1, b2, _, _, _, d1, d2, h, _, _, _, p3 _ (by omega), p4 _ (by omega), p5 _ (by omega), pL _ (by omega), hlz, p6 _ (by omega), p7 _ (by omega), p8 _ (by omega), p9 _ (by omega), hvat, .inl (by decide)⟩)))))⟩
  have hle : ∀ u, 0 ≤ u → u ≤ 1099511627776 → atT u (spansT a1 a2) ≤ atT u (spansT a n) := fun u u3 u4 => by
    have h1 := hat u u3 u4
    split at h1 <;> omega
  obtain ⟨rfl, hvd, hld, hdt⟩ := hdd (fun u u3 u4 u1 u2 => by
    have h1 := hmin3 u u3 u4 u1 u2
    have h2 := hle u u3 u4
    omega)
  rcases take_spec hvd (by omega) w1 w2 w3 with ⟨_, t', t1, t2, t3, t4, t5⟩ | ⟨x1, x2, ⟨K10, p10⟩, hvx, hlx, hminx, hxt⟩
  · exfalso
    have h1 := hdt t' t3 t4
    have h2 := hct t' t3 t4
    have h3 := at_rng hv3 t' t3 t4
    have h4 := hat t' t3 t4
    rw [if_pos ⟨t1, t2⟩] at h4
    split at h1 <;> rename_i h5
    · rw [if_pos h5] at h2; omega
    · rw [if_neg h5] at h2; omega
  obtain ⟨sx, ⟨K11, p11⟩, hsx⟩ := same_ev hv3 hvx (by omega) (by omega)
  have hsx' : sx = true := hsx.1 (fun u u3 u4 => by
    have h1 := hdt u u3 u4
    have h2 := hct u u3 u4
    have h3 := hxt u u3 u4
    have h4 := hat u u3 u4
    split at h4 <;> rename_i h5 <;> split at h2 <;> rename_i h6
    · rw [if_pos h6] at h1; rw [if_pos h5] at h3; omega
    · rw [if_neg h6] at h1; rw [if_pos h5] at h3; omega
    · rw [if_pos h6] at h1; rw [if_neg h5] at h3; omega
    · rw [if_neg h6] at h1; rw [if_neg h5] at h3; omega)
  subst hsx'
  exact back_of (k := K1 + K2 + K3 + KL + K4 + K5 + K6 + K7 + K8 + K9 + K10 + K11) ⟨p1 _ (by omega), .inr (.inr (.inr (.inr (.inr (.inr ⟨gate _ (by omega), a1, a2, b1, b2, _, _, _, d1, d2, _, _, _, _, p3 _ (by omega), p4 _ (by omega), p5 _ (by omega), pL _ (by omega), hlz, p6 _ (by omega), p7 _ (by omega), p8 _ (by omega), p9 _ (by omega), hvat, .inr ⟨rfl, rfl, x1, x2, p10 _ (by omega), p11 _ (by omega)⟩⟩)))))⟩
end Go.Proofs.Ytkhbbcnagdappaa.Pure
