/- DepsEach: for all rows of what is waited for, and of ends (of at most 200; else the known answers alone), all stand as the worst of them, each asked alone; the order of what is waited for, and an end of another job, change nothing. -/
import Derived.Test.YtpjhmollejiaoaaDeps
namespace Go.Proofs.Ytpjhmollejiaoaa.Pure
open Go.RowKit Go.Proofs.Ytpjhmollejiaoaa.P Go.Proofs.YtpjhmollejiaoaaW.PrintWords Go.Proofs.YtpjhmollejiaoaaW.PrintLast
set_option linter.unusedVariables false
set_option linter.unusedSimpArgs false

theorem ofAll_reverse (l : List S28) (ends : List S32) : ofAll l.reverse ends = ofAll l ends := by
  refine eq_of_le (fun c => ?_)
  rw [ofAll_le, ofAll_le]
  simp
theorem ofAll_other (l : List S28) (ends : List S32) (m : S32) (h : ∀ d ∈ l, d.f0 ≠ m.f0) : ofAll l (m :: ends) = ofAll l ends := by
  refine eq_of_le (fun c => ?_)
  rw [ofAll_le, ofAll_le]
  have key : ∀ d ∈ l, of1 d.f0 d.f1 (m :: ends) = of1 d.f0 d.f1 ends := fun d hd => by rw [of1, if_neg (fun e => h d hd e.symm)]
  exact ⟨fun h1 => ⟨h1.1, fun d hd => by rw [← key d hd]; exact h1.2 d hd⟩, fun h1 => ⟨h1.1, fun d hd => by rw [key d hd]; exact h1.2 d hd⟩⟩
theorem ofFrom_cons (ends : List S32) (a : Int) (x : S28) (r : List S28) : ofFrom ends a (x :: r) = ofFrom ends (mx a (of1 x.f0 x.f1 ends)) r := by unfold ofFrom; rw [List.foldl_cons]
theorem each_j2 (l : List S28) (ends : List S32) (hl : l.length ≤ 200) (he : ends.length ≤ 200) (m : S32) (o : Bool) (ho : o = true → ∀ d ∈ l, d.f0 ≠ m.f0) :
    Ev (fun k => forebaylaw21_DepsEach.j2 k l ends o (ofAll l ends) false m.f0 m.f1 m.f2) true := by
  refine Ev.succ ?_
  simp only [forebaylaw21_DepsEach.j2]
  refine Ev.neg (by simp) (Ev.ite (fun h => ?_) (fun _ => Ev.bind head_ev (Ev.const rfl)))
  refine Ev.some_bind (Ev.pos (by simp; omega) ?_)
  refine Ev.bind (Of_ev l ([m] ++ ends) (by omega) (by simp; omega)) (Ev.pos ?_ (Ev.bind head_ev (Ev.const rfl)))
  exact ofAll_other l ends m (ho h)
theorem each_l0 (l : List S28) (ends : List S32) (hl : l.length ≤ 200) (he : ends.length ≤ 200) (m : S32) (i : Nat) : ∀ (a : Int) (o : Bool), i ≤ l.length → a = ofAll (l.drop i).reverse ends →
    (o = true → ∀ d ∈ l.drop i, d.f0 ≠ m.f0) → Ev (fun k => forebaylaw21_DepsEach.l0 k l ends a (l.drop i).reverse o ((i : Int) - 1) m.f0 m.f1 m.f2) true := by
  induction i with
  | zero =>
    intro a o hi ha ho
    rw [List.drop_zero] at ha ho ⊢
    rw [ofAll_reverse] at ha
    subst ha
    refine Ev.succ ?_
    simp only [forebaylaw21_DepsEach.l0]
    refine Ev.neg (by omega) (Ev.bind (Of_ev l ends (by omega) (by omega)) (Ev.pos rfl (Ev.bind (Of_ev l.reverse ends (by simp; omega) (by omega)) ?_)))
    rw [ofAll_reverse, show (ofAll l ends != ofAll l ends) = false by simp]
    exact each_j2 l ends hl he m o ho
  | succ i ih =>
    intro a o hi ha ho
    have hlt : i < l.length := by omega
    have e : rd_T28 l (i : Int) = l[i] := by simp [rd_T28, hlt]
    have ed : l.drop i = l[i] :: l.drop (i + 1) := List.drop_eq_getElem_cons hlt
    refine Ev.succ ?_
    simp only [forebaylaw21_DepsEach.l0]
    rw [show ((i + 1 : Nat) : Int) - 1 = (i : Int) by omega, show wrap64 ((i : Int) + 1) = ((i + 1 : Nat) : Int) by unfold wrap64; omega, show wrap64 ((i : Int) - 1) = (i : Int) - 1 by unfold wrap64; omega, e, Int.toNat_natCast, Int.toNat_natCast]
    have hs : (l.take (i + 1)).drop i = [l[i]] := by
      rw [List.take_succ_eq_append_getElem hlt, List.drop_append_of_le_length (by simp; omega), List.drop_of_length_le (by simp; omega)]
      rfl
    rw [hs]
    refine Ev.pos (by omega) (Ev.pos (by omega) (Ev.pos (by omega) (Ev.pos (by omega) (Ev.bind (Of_ev [l[i]] ends (by simp) (by omega)) (Ev.pos (by omega) (Ev.pos (by simp; omega) (Ev.some_bind ?_)))))))
    have er : (l.drop (i + 1)).reverse ++ [(⟨l[i].f0, l[i].f1⟩ : S28)] = (l.drop i).reverse := by rw [ed, List.reverse_cons]
    rw [er]
    have ea : mx a (ofAll [l[i]] ends) = ofAll (l.drop i).reverse ends := by
      subst ha
      refine eq_of_le (fun c => ?_)
      rw [mx_le, ofAll_le, ofAll_le, ofAll_le, ed]
      constructor
      · rintro ⟨⟨h1, h2⟩, h3, h4⟩
        refine ⟨h3, fun d hd => ?_⟩
        rcases List.mem_cons.1 (List.mem_reverse.1 hd) with e1 | hd'
        · rw [e1]; exact h4 _ (List.mem_singleton.2 rfl)
        · exact h2 d (List.mem_reverse.2 hd')
      · rintro ⟨h1, h2⟩
        refine ⟨⟨h1, fun d hd => h2 d (List.mem_reverse.2 (List.mem_cons_of_mem _ (List.mem_reverse.1 hd)))⟩, h1, fun d hd => ?_⟩
        rw [List.mem_singleton.1 hd]
        exact h2 _ (List.mem_reverse.2 List.mem_cons_self)
    refine Ev.ite (fun h => ?_) (fun h => ?_)
    · refine ih _ _ (by omega) ea (fun h1 d hd => ?_)
      rw [ed] at hd
      rcases List.mem_cons.1 hd with rfl | hd'
      · simpa using h1
      · exact ho h d hd'
    · exact ih _ _ (by omega) ea (fun h1 => by cases h1)
theorem each_j0 (l : List S28) (ends : List S32) (m : S32) (b : Bool) (h : b = false → l.length ≤ 200 ∧ ends.length ≤ 200) : Ev (fun k => forebaylaw21_DepsEach.j0 k l ends b m.f0 m.f1 m.f2) true := by
  refine Ev.succ ?_
  simp only [forebaylaw21_DepsEach.j0]
  cases b
  · obtain ⟨h1, h2⟩ := h rfl
    refine Ev.neg (by simp) (Ev.bind (Of_ev [] ends (by simp) (by omega)) ?_)
    have := each_l0 l ends h1 h2 m l.length (ofAll [] ends) true (Nat.le_refl _) (by rw [List.drop_of_length_le (Nat.le_refl _)]; rfl) (fun _ d hd => by rw [List.drop_of_length_le (Nat.le_refl _)] at hd; cases hd)
    rw [List.drop_of_length_le (Nat.le_refl _)] at this
    rw [show wrap64 ((l.length : Int) - 1) = (l.length : Int) - 1 by unfold wrap64; omega]
    exact this
  · exact Ev.pos rfl (Ev.bind head_ev (Ev.const rfl))
theorem DepsEach : forebaylaw21_DepsEach.Pure := by
  intro l ends a b c hl he hm
  refine Ev.rounds (g := fun k => forebaylaw21_DepsEach.f k l ends a b c) ?_
  unfold forebaylaw21_DepsEach.f
  refine Ev.ite (fun _ => each_j0 l ends ⟨a, b, c⟩ true (fun h => by cases h)) (fun h1 => each_j0 l ends ⟨a, b, c⟩ _ (fun h => ?_))
  have h2 := of_decide_eq_false h
  omega
end Go.Proofs.Ytpjhmollejiaoaa.Pure
