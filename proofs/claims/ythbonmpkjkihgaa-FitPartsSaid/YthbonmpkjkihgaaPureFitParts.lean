/- FitParts: a slot without what comes in, and goes out, is the first fit of the work alone. -/
import Derived.Test.YthbonmpkjkihgaaFitTurn
import Derived.Test.YthbonmpkjkihgaaPx12
namespace Go.Proofs.Ythbonmpkjkihgaa.Pure
open Go.RowKit Go.Proofs.Ythbonmpkjkihgaa.P Go.Proofs.YthbonmpkjkihgaaW.PrintWords Go.Proofs.YthbonmpkjkihgaaW.PrintLast
set_option linter.unusedVariables false
set_option linter.unusedSimpArgs false

theorem FitParts : forebaylaw10_FitParts.Pure := by
  intro n0 n1 b0 b1 c0 c1 i w o N B L x y z f hinv
  obtain ⟨hR, hX, hA, hF⟩ := hinv
  obtain ⟨⟨hn0, hn1⟩, ⟨hb0, hb1⟩, hc0, hc1⟩ := hR
  suffices h : FitPartsOk n0 n1 b0 b1 c0 c1 i w o N B L x y z f by unfold forebaylaw10_FitParts.f; exact if_pos h
  obtain ⟨kh, hh⟩ := head_ends
  rcases great_f n0 n1 b0 b1 c0 c1 hn0.2.1 hn1.2.1 hb0.2.1 hb1.2.1 hc0.2.1 hc1.2.1 hn0.1 hn1.1 hb0.1 hb1.1 hc0.1 hc1.1 with h0 | ⟨h0, ln, lb, lc⟩
  · exact .great kh h0 (hh kh (Nat.le_refl _))
  rcases slot_ev n0 n1 b0 b1 c0 c1 0 w 0 N 0 L f (by omega) (by omega) (by omega) with ⟨⟨k1, h1⟩, _⟩ | ⟨M, hf, hs⟩
  · obtain ⟨k2, t, e, h2⟩ : ∃ k2 t e, ∀ k, k2 ≤ k → fit_First.f k n0 n1 f w N = some (t, e) := by
      rcases First_ev n0 n1 f w N (by omega) with ⟨⟨k2, h2⟩, _⟩ | ⟨_, ⟨⟨k2, h2⟩, _⟩ | ⟨r, ⟨k2, h2⟩, _⟩⟩
      · exact ⟨k2, _, _, h2⟩
      · exact ⟨k2, _, _, h2⟩
      · exact ⟨k2, _, _, h2⟩
    exact .arg (k1 + k2 + kh) _ _ _ t e h0 (h1 _ (by omega)) (h2 _ (by omega)) (hh _ (by omega))
  rcases First_ev n0 n1 f w N (by omega) with ⟨_, h2⟩ | ⟨_, h2⟩
  · exact absurd ⟨M.vn, hf, M.qw, M.qN⟩ h2
  rcases h2 with ⟨⟨k2, h2⟩, hno⟩ | ⟨t, ⟨k2, h2⟩, ht1, ht2, ht3, ht4⟩
  · rcases hs with ⟨⟨k1, h1⟩, _⟩ | ⟨S, C, O, _, hS, hv, _⟩
    · exact .bad (k1 + k2 + kh) _ _ _ _ _ h0 (h1 _ (by omega)) (h2 _ (by omega)) (by decide) (hh _ (by omega))
    · have := hv.fc
      exact absurd hv.fn (hno C (by omega))
  have hw := M.qw
  have htw : t + w ≤ 1099511627776 := by have := ht3.1; omega
  have hv : SlotV n0 n1 b0 b1 c0 c1 0 w 0 N 0 L f t (t + w) :=
    ⟨⟨by omega, .inl rfl⟩, by omega, ht3, Int.le_refl _, ⟨by omega, .inl rfl⟩, ⟨by omega, .inr (fun u u1 u2 => (at_rng M.vb u (by omega) (by omega)).1)⟩⟩
  rcases hs with ⟨_, h1⟩ | ⟨S, C, O, ⟨k1, h1⟩, hS, hv2, hmin⟩
  · exact absurd hv (h1 f t (t + w) (Int.le_refl _))
  obtain ⟨m1, m2, m3⟩ := hmin f t (t + w) (Int.le_refl _) hv
  have g1 := hv2.fc
  have g2 := ht4 C (by omega) hv2.fn
  have g3 := hv2.fo
  obtain rfl : S = f := by omega
  obtain rfl : C = t := by omega
  obtain rfl : O = C + w := by omega
  rcases slot_ev n0 n1 b0 b1 c0 c1 0 0 0 0 0 0 S (by omega) (by omega) (by omega) with ⟨_, h3⟩ | ⟨M2, _, hs2⟩
  · exact absurd ⟨⟨M.vn, M.vb, M.vc, M.ln, M.lb, M.lc, by omega, by omega, by omega, by omega, by omega, by omega⟩, hf⟩ h3
  have hz : ∀ a n : List Int, Fits a n S 0 0 := fun a n => ⟨by omega, .inl rfl⟩
  have hv3 : SlotV n0 n1 b0 b1 c0 c1 0 0 0 0 0 0 S S S := ⟨hz _ _, by omega, hz _ _, by omega, hz _ _, ⟨by omega, .inl (by omega)⟩⟩
  rcases hs2 with ⟨_, h3⟩ | ⟨S', C', O', ⟨k3, h3⟩, hS', hv4, hmin2⟩
  · exact absurd hv3 (h3 S S S (Int.le_refl _))
  obtain ⟨m1, m2, m3⟩ := hmin2 S S S (Int.le_refl _) hv3
  have g1 := hv4.fc
  have g3 := hv4.fo
  obtain rfl : S' = S := by omega
  obtain rfl : C' = S' := by omega
  obtain rfl : O' = C' := by omega
  exact .good (k1 + k2 + k3 + kh) C h0 (h1 _ (by omega)) (h2 _ (by omega)) (by omega) (by omega) (by omega) (by omega) (by omega) (h3 _ (by omega)) (hh _ (by omega))
end Go.Proofs.Ythbonmpkjkihgaa.Pure
