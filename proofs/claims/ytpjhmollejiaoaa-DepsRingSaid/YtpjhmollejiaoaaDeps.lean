/- Plain lemmas on what is waited for: what the calls of deps, and the document's answer, tell. -/
import Derived.Test.YtpjhmollejiaoaaEv
import Derived.Test.YtpjhmollejiaoaaPx
namespace Go.Proofs.Ytpjhmollejiaoaa.Pure
open Go.RowKit Go.Proofs.Ytpjhmollejiaoaa.P Go.Proofs.YtpjhmollejiaoaaW.PrintWords Go.Proofs.YtpjhmollejiaoaaW.PrintLast
set_option linter.unusedVariables false
set_option linter.unusedSimpArgs false

theorem Ev.ite2 {β : Type} {c : Prop} [Decidable c] {f g : Nat → Option β} {a b : β} (h1 : c → Ev f a) (h2 : ¬ c → Ev g b) : Ev (fun k => if c then f k else g k) (if c then a else b) := by
  by_cases hc : c
  · rw [if_pos hc]; exact Ev.pos hc (h1 hc)
  · rw [if_neg hc]; exact Ev.neg hc (h2 hc)
/-- How one job stands that is waited for. -/
def of1 (j : Int) (any : Bool) : List S32 → Int
  | [] => 3
  | x :: r => if x.f0 = j then (if x.f1 = true then (if x.f2 = true then 1 else if any = true then 1 else 3) else 2) else of1 j any r
/-- How all stand, behind some. -/
def ofFrom (ends : List S32) (a : Int) (l : List S28) : Int := l.foldl (fun a d => mx a (of1 d.f0 d.f1 ends)) a
def ofAll (l : List S28) (ends : List S32) : Int := ofFrom ends 1 l
theorem of1_range (j : Int) (any : Bool) (l : List S32) : 1 ≤ of1 j any l ∧ of1 j any l ≤ 3 := by
  induction l with
  | nil => simp [of1]
  | cons x r ih =>
    rw [of1]
    split
    · split
      · split
        · omega
        · split <;> omega
      · omega
    · exact ih
theorem mx_eq (a b : Int) : mx a b = if a < b then b else a := by unfold mx; split <;> rfl
theorem mx_le {a b c : Int} : mx a b ≤ c ↔ a ≤ c ∧ b ≤ c := by unfold mx; split <;> omega
theorem le_mxl (a b : Int) : a ≤ mx a b := by unfold mx; split <;> omega
theorem le_mxr (a b : Int) : b ≤ mx a b := by unfold mx; split <;> omega
theorem ofFrom_le {ends : List S32} {c : Int} : ∀ (l : List S28) (a : Int), ofFrom ends a l ≤ c ↔ a ≤ c ∧ ∀ d ∈ l, of1 d.f0 d.f1 ends ≤ c := by
  intro l
  induction l with
  | nil => intro a; simp [ofFrom]
  | cons x r ih =>
    intro a
    unfold ofFrom at ih ⊢
    rw [List.foldl_cons, ih, mx_le]
    constructor
    · rintro ⟨⟨h1, h2⟩, h3⟩
      exact ⟨h1, fun d hd => by rcases List.mem_cons.1 hd with e | hd'; exact e ▸ h2; exact h3 d hd'⟩
    · rintro ⟨h1, h2⟩
      exact ⟨⟨h1, h2 x List.mem_cons_self⟩, fun d hd => h2 d (List.mem_cons_of_mem _ hd)⟩
theorem ofAll_le {ends : List S32} {c : Int} {l : List S28} : ofAll l ends ≤ c ↔ 1 ≤ c ∧ ∀ d ∈ l, of1 d.f0 d.f1 ends ≤ c := ofFrom_le l 1
theorem ofAll_range (l : List S28) (ends : List S32) : 1 ≤ ofAll l ends ∧ ofAll l ends ≤ 3 :=
  ⟨((ofFrom_le l 1).1 (Int.le_refl _)).1, ofAll_le.2 ⟨by omega, fun d _ => (of1_range _ _ _).2⟩⟩
theorem ofAll_ge {ends : List S32} {l : List S28} {d : S28} (hd : d ∈ l) : of1 d.f0 d.f1 ends ≤ ofAll l ends := (ofAll_le.1 (Int.le_refl _)).2 d hd
theorem eq_of_le {a b : Int} (h : ∀ c, a ≤ c ↔ b ≤ c) : a = b := by
  have h1 := (h b).2 (Int.le_refl _)
  have h2 := (h a).1 (Int.le_refl _)
  omega
theorem of_ev (l : List S32) (hl : l.length ≤ 1000000) (j : Int) (any : Bool) (d : Nat) : ∀ i : Nat, i + d = l.length → Ev (fun k => deps_of.l0 k l (l.length : Int) i j any) (of1 j any (l.drop i)) := by
  induction d with
  | zero =>
    intro i hi
    refine Ev.succ ?_
    simp only [deps_of.l0]
    rw [List.drop_of_length_le (by omega)]
    exact Ev.neg (by omega) (Ev.const rfl)
  | succ d ih =>
    intro i hi
    have hlt : i < l.length := by omega
    refine Ev.succ ?_
    simp only [deps_of.l0]
    have e : rd_T32 l (i : Int) = l[i] := by simp [rd_T32, hlt]
    rw [e, List.drop_eq_getElem_cons hlt, of1, show wrap64 ((i : Int) + 1) = ((i + 1 : Nat) : Int) by unfold wrap64; omega]
    refine Ev.pos (by omega) (Ev.pos (by omega) (Ev.pos (by omega) ?_))
    exact Ev.ite2 (fun h1 => Ev.ite2 (fun h2 => Ev.ite2 (fun h3 => Ev.const rfl) (fun h3 => Ev.ite2 (fun _ => Ev.const rfl) (fun _ => Ev.const rfl))) (fun h2 => Ev.const rfl)) (fun h1 => ih _ (by omega))
theorem of1_ev (l : List S32) (hl : l.length ≤ 1000000) (j : Int) (any : Bool) : Ev (fun k => deps_of.f k j any l) (of1 j any l) := by
  unfold deps_of.f
  exact of_ev l hl j any l.length 0 (by omega)
theorem Of_ev_l (l : List S28) (ends : List S32) (hl : l.length ≤ 1000000) (he : ends.length ≤ 1000000) (d : Nat) : ∀ (i : Nat) (a : Int), i + d = l.length → Ev (fun k => deps_Of.l0 k ends a l (l.length : Int) i) (ofFrom ends a (l.drop i)) := by
  induction d with
  | zero =>
    intro i a hi
    refine Ev.succ ?_
    simp only [deps_Of.l0]
    rw [List.drop_of_length_le (by omega)]
    exact Ev.neg (by omega) (Ev.const rfl)
  | succ d ih =>
    intro i a hi
    have hlt : i < l.length := by omega
    refine Ev.succ ?_
    simp only [deps_Of.l0]
    have e : rd_T28 l (i : Int) = l[i] := by simp [rd_T28, hlt]
    rw [e, List.drop_eq_getElem_cons hlt, show wrap64 ((i : Int) + 1) = ((i + 1 : Nat) : Int) by unfold wrap64; omega]
    refine Ev.pos (by omega) (Ev.pos (by omega) (Ev.pos (by omega) ?_))
    exact Ev.bind (of1_ev ends he _ _) (ih (i + 1) _ (by omega))
theorem Of_ev (l : List S28) (ends : List S32) (hl : l.length ≤ 1000000) (he : ends.length ≤ 1000000) : Ev (fun k => deps_Of.f k l ends) (ofAll l ends) := by
  unfold deps_Of.f
  exact Of_ev_l l ends hl he l.length 0 1 (by omega)
theorem head_ev : Ev (fun k => forebaylaw21_head.f k) true := by
  obtain ⟨K1, h1⟩ := Of_ev [⟨1, false⟩] [⟨1, true, true⟩] (by decide) (by decide)
  obtain ⟨K2, h2⟩ := Of_ev [⟨1, false⟩, ⟨2, true⟩] [⟨1, true, false⟩, ⟨2, false, false⟩] (by decide) (by decide)
  obtain ⟨K3, h3⟩ := Of_ev [⟨1, false⟩, ⟨2, true⟩] [⟨1, true, true⟩, ⟨2, false, false⟩] (by decide) (by decide)
  obtain ⟨K4, h4⟩ := Of_ev [⟨1, true⟩] [] (by decide) (by decide)
  obtain ⟨K5, h5⟩ := Of_ev [] [] (by decide) (by decide)
  refine ⟨K1 + K2 + K3 + K4 + K5, fun k hk => ?_⟩
  show (if headOk k then some true else none) = some true
  rw [if_pos]
  exact ⟨(h1 k (by omega)).trans (by decide), (h2 k (by omega)).trans (by decide), (h3 k (by omega)).trans (by decide), (h4 k (by omega)).trans (by decide), (h5 k (by omega)).trans (by decide)⟩
end Go.Proofs.Ytpjhmollejiaoaa.Pure
