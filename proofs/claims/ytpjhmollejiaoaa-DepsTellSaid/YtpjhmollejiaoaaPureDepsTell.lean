/- DepsTell: for all rows of what is waited for, and of ends (of at most 200; else the known answers alone), deps.Of tells what the document says. -/
import Derived.Test.YtpjhmollejiaoaaDeps
namespace Go.Proofs.Ytpjhmollejiaoaa.Pure
open Go.RowKit Go.Proofs.Ytpjhmollejiaoaa.P Go.Proofs.YtpjhmollejiaoaaW.PrintWords Go.Proofs.YtpjhmollejiaoaaW.PrintLast
set_option linter.unusedVariables false
set_option linter.unusedSimpArgs false

theorem ofFrom_three (ends : List S32) (l : List S28) : ofFrom ends 3 l = 3 := by
  refine eq_of_le (fun c => ?_)
  rw [ofFrom_le]
  exact ⟨fun h => h.1, fun h => ⟨h, fun d _ => Int.le_trans (of1_range _ _ _).2 h⟩⟩
theorem ref_found (l : List S28) (ends : List S32) (hl : l.length ≤ 1000000) (he : ends.length ≤ 1000000) (b : Bool) (i : Nat) (hi : i < l.length) (k : Int) (r : Int)
    (h : Ev (fun n => forebayref21_Of.l0 n l ends b ((i + 1 : Nat) : Int)) r) : Ev (fun n => forebayref21_Of.l1 n l ends b i true k) r := by
  have hj : Ev (fun n => forebayref21_Of.j2 n l ends b i true k false) r := by
    refine Ev.succ ?_
    simp only [forebayref21_Of.j2]
    rw [show wrap64 ((i : Int) + 1) = ((i + 1 : Nat) : Int) by unfold wrap64; omega]
    exact Ev.neg (by simp) (Ev.pos (by trivial) h)
  refine Ev.succ ?_
  simp only [forebayref21_Of.l1]
  exact Ev.ite (fun _ => hj) (fun _ => hj)
theorem ref_scan (l : List S28) (ends : List S32) (hl : l.length ≤ 1000000) (he : ends.length ≤ 1000000) (b : Bool) (i : Nat) (hi : i < l.length) (r : Int) (d : Nat) : ∀ k : Nat, k + d = ends.length →
    (of1 l[i].f0 l[i].f1 (ends.drop k) = 1 → Ev (fun n => forebayref21_Of.l0 n l ends b ((i + 1 : Nat) : Int)) r) →
    (of1 l[i].f0 l[i].f1 (ends.drop k) = 2 → Ev (fun n => forebayref21_Of.l0 n l ends true ((i + 1 : Nat) : Int)) r) →
    (of1 l[i].f0 l[i].f1 (ends.drop k) = 3 → r = 3) → Ev (fun n => forebayref21_Of.l1 n l ends b i false k) r := by
  induction d with
  | zero =>
    intro k hk h1 h2 h3
    rw [List.drop_of_length_le (by omega)] at h1 h2 h3
    refine Ev.succ ?_
    simp only [forebayref21_Of.l1]
    refine Ev.neg (by omega) (Ev.succ ?_)
    simp only [forebayref21_Of.j2]
    exact Ev.neg (by simp) (Ev.neg (by simp) (Ev.const (by rw [h3 rfl])))
  | succ d ih =>
    intro k hk h1 h2 h3
    have hlt : k < ends.length := by omega
    rw [List.drop_eq_getElem_cons hlt, of1] at h1 h2 h3
    refine Ev.succ ?_
    simp only [forebayref21_Of.l1]
    refine Ev.pos (by omega) (Ev.succ ?_)
    simp only [forebayref21_Of.j2]
    have e : rd_T32 ends (k : Int) = ends[k] := by simp [rd_T32, hlt]
    have e' : rd_T28 l (i : Int) = l[i] := by simp [rd_T28, hi]
    rw [e, e', show wrap64 ((k : Int) + 1) = ((k + 1 : Nat) : Int) by unfold wrap64; omega]
    refine Ev.pos (by simp) (Ev.pos (by omega) (Ev.pos (by omega) (Ev.pos (by omega) (Ev.pos (by omega) (Ev.ite (fun c1 => ?_) (fun c1 => ?_))))))
    · rw [if_pos c1] at h1 h2 h3
      refine Ev.ite (fun c2 => ?_) (fun c2 => ?_)
      · rw [if_pos c2] at h1 h2 h3
        refine Ev.ite (fun c3 => ?_) (fun c3 => ?_)
        · rw [if_pos c3] at h1 h2 h3
          exact ref_found l ends hl he b i hi _ r (h1 rfl)
        · rw [if_neg c3] at h1 h2 h3
          refine Ev.ite (fun c4 => ?_) (fun c4 => ?_)
          · rw [if_pos c4] at h1 h2 h3
            exact ref_found l ends hl he b i hi _ r (h1 rfl)
          · rw [if_neg c4] at h1 h2 h3
            exact Ev.const (by rw [h3 rfl])
      · rw [if_neg c2] at h1 h2 h3
        exact ref_found l ends hl he true i hi _ r (h2 rfl)
    · rw [if_neg c1] at h1 h2 h3
      exact ih (k + 1) (by omega) h1 h2 h3
theorem ref_l0 (l : List S28) (ends : List S32) (hl : l.length ≤ 1000000) (he : ends.length ≤ 1000000) (d : Nat) : ∀ (i : Nat) (b : Bool), i + d = l.length →
    Ev (fun n => forebayref21_Of.l0 n l ends b i) (ofFrom ends (if b = true then 2 else 1) (l.drop i)) := by
  induction d with
  | zero =>
    intro i b hi
    rw [List.drop_of_length_le (by omega)]
    refine Ev.succ ?_
    simp only [forebayref21_Of.l0]
    exact Ev.neg (by omega) (Ev.ite2 (fun _ => Ev.const rfl) (fun _ => Ev.const rfl))
  | succ d ih =>
    intro i b hi
    have hlt : i < l.length := by omega
    rw [List.drop_eq_getElem_cons hlt]
    refine Ev.succ ?_
    simp only [forebayref21_Of.l0]
    refine Ev.pos (by omega) ?_
    have hf : ofFrom ends (if b = true then 2 else 1) (l[i] :: l.drop (i + 1)) = ofFrom ends (mx (if b = true then 2 else 1) (of1 l[i].f0 l[i].f1 ends)) (l.drop (i + 1)) := by unfold ofFrom; rw [List.foldl_cons]
    rw [hf]
    refine ref_scan l ends hl he b i hlt _ ends.length 0 (by omega) (fun h => ?_) (fun h => ?_) (fun h => ?_)
    · rw [List.drop_zero] at h
      rw [h]
      have := ih (i + 1) b (by omega)
      cases b
      · exact this
      · exact this
    · rw [List.drop_zero] at h
      rw [h]
      have := ih (i + 1) true (by omega)
      cases b
      · exact this
      · exact this
    · rw [List.drop_zero] at h
      rw [h]
      cases b
      · exact ofFrom_three ends _
      · exact ofFrom_three ends _
theorem refOf_ev (l : List S28) (ends : List S32) (hl : l.length ≤ 1000000) (he : ends.length ≤ 1000000) : Ev (fun n => forebayref21_Of.f n l ends) (ofAll l ends) := by
  unfold forebayref21_Of.f
  exact ref_l0 l ends hl he l.length 0 false (by omega)
theorem tell_j0 (l : List S28) (ends : List S32) (b : Bool) (h : b = false → l.length ≤ 200 ∧ ends.length ≤ 200) : Ev (fun k => forebaylaw21_DepsTell.j0 k l ends b) true := by
  refine Ev.succ ?_
  simp only [forebaylaw21_DepsTell.j0]
  cases b
  · obtain ⟨h1, h2⟩ := h rfl
    refine Ev.neg (by simp) (Ev.bind (Of_ev l ends (by omega) (by omega)) (Ev.bind (refOf_ev l ends (by omega) (by omega)) (Ev.pos rfl (Ev.bind head_ev (Ev.const rfl)))))
  · exact Ev.pos rfl (Ev.bind head_ev (Ev.const rfl))
theorem DepsTell : forebaylaw21_DepsTell.Pure := by
  intro l ends hl he
  refine Ev.rounds (g := fun k => forebaylaw21_DepsTell.f k l ends) ?_
  unfold forebaylaw21_DepsTell.f
  refine Ev.ite (fun _ => tell_j0 l ends true (fun h => by cases h)) (fun h1 => tell_j0 l ends _ (fun h => ?_))
  have h2 := of_decide_eq_false h
  omega
end Go.Proofs.Ytpjhmollejiaoaa.Pure
