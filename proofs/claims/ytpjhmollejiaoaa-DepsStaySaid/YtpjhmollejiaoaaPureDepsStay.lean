/- DepsStay: for all rows of what is waited for, and of ends (of at most 200; else the known answers alone), what is DepGo, or DepNever, stays so when a job that is not over ends; with one thing more to wait for it does not become better. -/
import Derived.Test.YtpjhmollejiaoaaDeps
namespace Go.Proofs.Ytpjhmollejiaoaa.Pure
open Go.RowKit Go.Proofs.Ytpjhmollejiaoaa.P Go.Proofs.YtpjhmollejiaoaaW.PrintWords Go.Proofs.YtpjhmollejiaoaaW.PrintLast
set_option linter.unusedVariables false
set_option linter.unusedSimpArgs false

theorem of1_set (j : Int) (any g : Bool) : ∀ (l : List S32) (i : Nat) (hi : i < l.length), l[i].f1 = false →
    of1 j any (l.set i ⟨l[i].f0, true, g⟩) = of1 j any l ∨ of1 j any l = 2 := by
  intro l
  induction l with
  | nil => intro i hi; simp at hi
  | cons x r ih =>
    intro i hi h
    cases i with
    | zero =>
      simp only [List.getElem_cons_zero] at h
      simp only [List.set_cons_zero, List.getElem_cons_zero, of1]
      by_cases c : x.f0 = j
      · rw [if_pos c, if_pos c, h]; exact .inr (by simp)
      · rw [if_neg c, if_neg c]; exact .inl rfl
    | succ i =>
      simp only [List.getElem_cons_succ] at h
      simp only [List.set_cons_succ, List.getElem_cons_succ, of1]
      by_cases c : x.f0 = j
      · rw [if_pos c, if_pos c]; exact .inl rfl
      · rw [if_neg c, if_neg c]; exact ih i (by simpa using hi) h
theorem stay (l : List S28) (ends ends' : List S32) (h : ∀ d ∈ l, of1 d.f0 d.f1 ends' = of1 d.f0 d.f1 ends ∨ of1 d.f0 d.f1 ends = 2) (hw : ofAll l ends ≠ 2) : ofAll l ends' = ofAll l ends := by
  have r := ofAll_range l ends
  have r' := ofAll_range l ends'
  by_cases h1 : ofAll l ends = 1
  · rw [h1]
    have hle : ofAll l ends' ≤ 1 := ofAll_le.2 ⟨by omega, fun d hd => by
      have h2 := ofAll_ge (ends := ends) hd
      rcases h d hd with e | e
      · omega
      · omega⟩
    omega
  · have h3 : ofAll l ends = 3 := by omega
    rw [h3]
    by_cases h4 : ofAll l ends' ≤ 2
    · exfalso
      have h5 := ofAll_le.1 h4
      have h6 : ofAll l ends ≤ 2 := ofAll_le.2 ⟨by omega, fun d hd => by
        have := h5.2 d hd
        rcases h d hd with e | e
        · omega
        · omega⟩
      omega
    · omega
theorem longer (l : List S28) (m : S28) (ends : List S32) : ofAll l ends ≤ ofAll (l ++ [m]) ends :=
  ofAll_le.2 ⟨(ofAll_range _ _).1, fun d hd => ofAll_ge (List.mem_append.2 (.inl hd))⟩
theorem stay_j2 (l : List S28) (ends : List S32) (hl : l.length ≤ 200) (he : ends.length ≤ 200) (m : S28) : Ev (fun k => forebaylaw21_DepsStay.j2 k l ends (ofAll l ends) false m.f0 m.f1) true := by
  refine Ev.succ ?_
  simp only [forebaylaw21_DepsStay.j2]
  refine Ev.neg (by simp) (Ev.some_bind (Ev.pos (by simp; omega) (Ev.some_bind (Ev.some_bind (Ev.pos (by simp; omega) (Ev.bind (Of_ev _ ends (by simp; omega) (by omega)) (Ev.pos ?_ (Ev.bind head_ev (Ev.const rfl)))))))))
  rw [List.nil_append]
  exact longer l m ends
theorem stay_j1 (l : List S28) (ends ends' : List S32) (hl : l.length ≤ 200) (he : ends.length ≤ 200) (he' : ends'.length ≤ 200) (m : S28) (h : ∀ d ∈ l, of1 d.f0 d.f1 ends' = of1 d.f0 d.f1 ends ∨ of1 d.f0 d.f1 ends = 2) :
    Ev (fun k => forebaylaw21_DepsStay.j1 k l ends (ofAll l ends) ends' m.f0 m.f1) true := by
  have r := ofAll_range l ends
  have hin : Ev (fun k => (if ofAll l ends < 1 then (forebaylaw21_DepsStay.j2 k l ends (ofAll l ends) true m.f0 m.f1) else (forebaylaw21_DepsStay.j2 k l ends (ofAll l ends) (decide (ofAll l ends > 3)) m.f0 m.f1))) true := by
    rw [show decide (ofAll l ends > 3) = false from decide_eq_false (by omega)]
    exact Ev.neg (by omega) (stay_j2 l ends hl he m)
  refine Ev.succ ?_
  simp only [forebaylaw21_DepsStay.j1]
  refine Ev.bind (Of_ev l ends' (by omega) (by omega)) (Ev.ite (fun _ => hin) (fun hw => Ev.pos (stay l ends ends' h hw) hin))
theorem stay_j0 (l : List S28) (ends : List S32) (x : Int) (hx : 0 ≤ x ∧ x ≤ 255) (g : Bool) (m : S28) (b : Bool) (h : b = false → l.length ≤ 200 ∧ ends.length ≤ 200) : Ev (fun k => forebaylaw21_DepsStay.j0 k l ends x g b m.f0 m.f1) true := by
  refine Ev.succ ?_
  simp only [forebaylaw21_DepsStay.j0]
  cases b
  · obtain ⟨h1, h2⟩ := h rfl
    have same : Ev (fun k => forebaylaw21_DepsStay.j1 k l ends (ofAll l ends) ends m.f0 m.f1) true := stay_j1 l ends ends h1 h2 h2 m (fun _ _ => .inl rfl)
    refine Ev.neg (by simp) (Ev.bind (Of_ev l ends (by omega) (by omega)) (Ev.some_bind (Ev.pos (by simp; omega) (Ev.some_bind ?_))))
    rw [List.nil_append, show wrap64 x = x by unfold wrap64; omega]
    refine Ev.ite (fun h3 => Ev.neg (by omega) ?_) (fun _ => same)
    obtain ⟨i, hi, hlt⟩ : ∃ i : Nat, Int.tmod x (ends.length : Int) = (i : Int) ∧ i < ends.length := by
      have e1 : Int.tmod x (ends.length : Int) = x % (ends.length : Int) := Int.tmod_eq_emod_of_nonneg hx.1
      have e2 := Int.emod_nonneg x (show (ends.length : Int) ≠ 0 by omega)
      have e3 := Int.emod_lt_of_pos x (show 0 < (ends.length : Int) by omega)
      exact ⟨(x % (ends.length : Int)).toNat, by omega, by omega⟩
    rw [hi]
    have e : rd_T32 ends (i : Int) = ends[i] := by simp [rd_T32, hlt]
    rw [e, Int.toNat_natCast]
    refine Ev.pos (by omega) (Ev.pos (by omega) (Ev.ite (fun _ => same) (fun h4 => Ev.some_bind ?_)))
    have e5 : rd_T32 (ends.set i ⟨ends[i].f0, true, ends[i].f2⟩) (i : Int) = ⟨ends[i].f0, true, ends[i].f2⟩ := by simp [rd_T32, hlt]
    rw [e5, List.set_set]
    exact stay_j1 l ends _ h1 h2 (by simp; omega) m (fun d _ => of1_set d.f0 d.f1 g ends i hlt (by simpa using h4))
  · exact Ev.pos rfl (Ev.bind head_ev (Ev.const rfl))
theorem DepsStay : forebaylaw21_DepsStay.Pure := by
  intro l ends x g a b hinv
  have hx := wf_u8 hinv.2.2.1
  refine Ev.rounds (g := fun k => forebaylaw21_DepsStay.f k l ends x g a b) ?_
  unfold forebaylaw21_DepsStay.f
  refine Ev.ite (fun _ => stay_j0 l ends x hx g ⟨a, b⟩ true (fun h => by cases h)) (fun h1 => stay_j0 l ends x hx g ⟨a, b⟩ _ (fun h => ?_))
  have h2 := of_decide_eq_false h
  omega
end Go.Proofs.Ytpjhmollejiaoaa.Pure
