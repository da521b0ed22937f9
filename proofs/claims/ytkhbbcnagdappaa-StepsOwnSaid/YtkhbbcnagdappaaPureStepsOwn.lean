/- StepsOwn: Take and Give leave the profile as it was, and what they told may be turned. -/
import Derived.Test.YtkhbbcnagdappaaStepsAt
namespace Go.Proofs.Ytkhbbcnagdappaa.Pure
open Go.RowKit Go.Proofs.Ytkhbbcnagdappaa.P Go.Proofs.YtkhbbcnagdappaaW.PrintWords Go.Proofs.YtkhbbcnagdappaaW.PrintLast
set_option linter.unusedVariables false
set_option linter.unusedSimpArgs false

theorem eqr_l1 (a n : List Int) (hx : n.length ≤ 100000) (d : Nat) : ∀ i : Nat, i + d = n.length → Ev (fun k => forebayref04_Equal.l1 k (i : Int) a n a n) true := by
  induction d with
  | zero =>
    intro i hi
    refine Ev.succ ?_
    simp only [forebayref04_Equal.l1]
    exact Ev.neg (by omega) (Ev.const rfl)
  | succ d ih =>
    intro i hi
    have hw : wrap64 ((i : Int) + 1) = ((i + 1 : Nat) : Int) := by unfold wrap64; omega
    refine Ev.succ ?_
    simp only [forebayref04_Equal.l1]
    rw [hw]
    exact Ev.pos (by omega) (Ev.pos (by omega) (Ev.pos (by omega) (Ev.pos (by trivial) (ih (i + 1) (by omega)))))
theorem eqr_l0 (a n : List Int) (ha : a.length ≤ 100000) (hx : n.length ≤ 100000) (d : Nat) : ∀ i : Nat, i + d = a.length → Ev (fun k => forebayref04_Equal.l0 k (i : Int) a n a n) true := by
  induction d with
  | zero =>
    intro i hi
    refine Ev.succ ?_
    simp only [forebayref04_Equal.l0]
    exact Ev.neg (by omega) (eqr_l1 a n hx n.length 0 (by omega))
  | succ d ih =>
    intro i hi
    have hw : wrap64 ((i : Int) + 1) = ((i + 1 : Nat) : Int) := by unfold wrap64; omega
    refine Ev.succ ?_
    simp only [forebayref04_Equal.l0]
    rw [hw]
    exact Ev.pos (by omega) (Ev.pos (by omega) (Ev.pos (by omega) (Ev.pos (by trivial) (ih (i + 1) (by omega)))))
theorem eqr_self (a n : List Int) (ha : a.length ≤ 100000) (hx : n.length ≤ 100000) : Ev (fun k => forebayref04_Equal.f k a n a n) true := by
  unfold forebayref04_Equal.f
  refine Ev.pos rfl (Ev.succ ?_)
  simp only [forebayref04_Equal.j0]
  exact Ev.neg (by simp) (eqr_l0 a n ha hx a.length 0 (by omega))
theorem take_any (a n : List Int) (ha : a.length ≤ 2000) (lo hi m : Int) : ∃ r, Ev (fun k => steps_Take.f k a n lo hi m) r := by
  obtain ⟨e, h1, h2⟩ := check_ev a n ha
  unfold steps_Take.f
  by_cases he : e = 0 ∧ (badQ lo || badQ hi || badQ m) = false
  · have hv := h2 he.1
    exact ⟨_, Ev.bind h1 (Ev.pos he (Ev.pos ⟨hv.len.symm, by omega⟩ (Ev.const rfl)))⟩
  · exact ⟨_, Ev.bind h1 (Ev.neg he (Ev.const rfl))⟩
theorem give_any (a n : List Int) (ha : a.length ≤ 2000) (lo hi m : Int) : ∃ r, Ev (fun k => steps_Give.f k a n lo hi m) r := by
  obtain ⟨e, h1, h2⟩ := check_ev a n ha
  unfold steps_Give.f
  by_cases he : e = 0 ∧ (badQ lo || badQ hi || badQ m) = false
  · have hv := h2 he.1
    exact ⟨_, Ev.bind h1 (Ev.pos he (Ev.pos ⟨hv.len.symm, by omega⟩ (Ev.const rfl)))⟩
  · exact ⟨_, Ev.bind h1 (Ev.neg he (Ev.const rfl))⟩
theorem StepsOwn : forebaylaw04_StepsOwn.Pure := by
  intro a n lo hi m _ _
  obtain ⟨K1, p1⟩ := head_ends
  have hg : ∃ g, forebayref04_Great.f a n = some g := by
    unfold forebayref04_Great.f
    split <;> exact ⟨_, rfl⟩
  by_cases hl : a.length ≤ 60 ∧ n.length ≤ 60
  · obtain ⟨⟨t1, t2, t3⟩, K2, p2⟩ := take_any a n (by omega) lo hi m
    obtain ⟨⟨g1, g2, g3⟩, K3, p3⟩ := give_any a n (by omega) lo hi m
    obtain ⟨K4, p4⟩ := eqr_self a n (by omega) (by omega)
    refine ⟨K1 + K2 + K3 + K4, ?_⟩
    unfold forebaylaw04_StepsOwn.f
    exact @if_pos _ (Classical.propDecidable _) ⟨p1 _ (by omega), hg, fun _ => ⟨t1, t2, t3, p2 _ (by omega)⟩, fun _ => ⟨g1, g2, g3, p3 _ (by omega)⟩, fun _ => p4 _ (by omega)⟩ _ _ _
  · refine ⟨K1, ?_⟩
    have hf : forebayref04_Great.f a n ≠ some false := fun h => hl (great_len h)
    unfold forebaylaw04_StepsOwn.f
    exact @if_pos _ (Classical.propDecidable _) ⟨p1 _ (by omega), hg, fun h => absurd h hf, fun h => absurd h hf, fun h => absurd h hf⟩ _ _ _
end Go.Proofs.Ytkhbbcnagdappaa.Pure
