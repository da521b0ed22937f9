/- The document's Name, Check and Of, in plain rows. -/
import Derived.Test.YtjhpgfgpchgabaaShareFade
namespace Go.Proofs.Ytjhpgfgpchgabaa.Pure
open Go.RowKit Go.Proofs.Ytjhpgfgpchgabaa.P Go.Proofs.YtjhpgfgpchgabaaW.PrintWords Go.Proofs.YtjhpgfgpchgabaaW.PrintLast
set_option linter.unusedVariables false
set_option linter.unusedSimpArgs false

theorem fade_f {l : List Sh} (hl : l.length ≤ 1000000) (a b c : Int) : share_Fade.f l a b c = some (fadeR l a b c) := by unfold share_Fade.f; rw [if_pos hl]
theorem of_f {l : List Sh} (hl : l.length ≤ 1000000) (u : ByteArray) : share_Of.f l u = some (ofT l u) := by unfold share_Of.f; rw [if_pos hl]
theorem check_f {l : List Sh} (hl : l.length ≤ 1000000) : share_Check.f l = some (if okShares l then 0 else 240) := by unfold share_Check.f; rw [if_pos hl]
theorem add_f {l : List Sh} (hl : l.length ≤ 900000) (u : ByteArray) (n : Int) : share_Add.f l u n = some (addR l u n) := by unfold share_Add.f; rw [if_pos hl]
theorem quant_q (x : Int) : forebayref04_Quantity.f x = some (quantP x) := by
  unfold forebayref04_Quantity.f quantP
  by_cases h : x ≥ 0
  · rw [if_pos h]
    congr 1
    exact decide_eq_decide.2 ⟨fun h2 => ⟨h, h2⟩, fun h2 => h2.2⟩
  · rw [if_neg h, decide_eq_false (fun h2 => h h2.1)]
theorem wsucc (i : Nat) (h : i ≤ 1000000000000000000) : wrap64 ((i : Int) + 1) = ((i + 1 : Nat) : Int) := by unfold wrap64; omega
-- 1. names
theorem digit_f (c : Int) (J : Bool → Option Bool) : ((forebayref13_digit.f c).bind fun t => if t = true then J true else J (c == 95)) = J (decide (48 ≤ c ∧ c ≤ 57) || c == 95) := by
  unfold forebayref13_digit.f
  by_cases h : c ≥ 48
  · rw [if_pos h]
    by_cases h2 : c ≤ 57
    · rw [decide_eq_true h2, decide_eq_true ⟨h, h2⟩]
      rfl
    · rw [decide_eq_false h2, decide_eq_false (fun e => h2 e.2)]
      rfl
  · rw [if_neg h, decide_eq_false (fun e => h e.1)]
    rfl
theorem letter_f (c : Int) (J : Bool → Option Bool) : (if c ≥ 97 then (if c ≤ 122 then J true else (if c ≥ 65 then (if c ≤ 90 then J true else ((forebayref13_digit.f c).bind fun t => if t = true then J true else J (c == 95))) else ((forebayref13_digit.f c).bind fun t => if t = true then J true else J (c == 95)))) else (if c ≥ 65 then (if c ≤ 90 then J true else ((forebayref13_digit.f c).bind fun t => if t = true then J true else J (c == 95))) else ((forebayref13_digit.f c).bind fun t => if t = true then J true else J (c == 95)))) = J (letterB c) := by
  simp only [digit_f]
  unfold letterB
  by_cases h1 : 97 ≤ c ∧ c ≤ 122
  · rw [if_pos h1.1, if_pos h1.2, decide_eq_true h1]
    rfl
  · rw [decide_eq_false h1]
    have e : ∀ X : Option Bool, (if c ≥ 97 then (if c ≤ 122 then J true else X) else X) = X := fun X => by
      by_cases h : c ≥ 97
      · rw [if_pos h, if_neg (fun h2 => h1 ⟨h, h2⟩)]
      · rw [if_neg h]
    rw [e]
    by_cases h2 : 65 ≤ c ∧ c ≤ 90
    · rw [if_pos h2.1, if_pos h2.2, decide_eq_true h2]
      rfl
    · rw [decide_eq_false h2]
      have e2 : ∀ X : Option Bool, (if c ≥ 65 then (if c ≤ 90 then J true else X) else X) = X := fun X => by
        by_cases h : c ≥ 65
        · rw [if_pos h, if_neg (fun h3 => h2 ⟨h, h3⟩)]
        · rw [if_neg h]
      rw [e2]
      rfl
theorem bt_eq (s : ByteArray) (i : Nat) (h : i < s.size) : bt s (i : Int) = byteT s i := by
  unfold bt byteT
  rw [dif_pos (show (i : Int).toNat < s.size from h)]
  congr 2
  show s[i] = s.get! i
  obtain ⟨a⟩ := s
  exact (getElem!_pos a i h).symm
theorem name_l (s : ByteArray) (hs : s.size ≤ 140737488355328) (d : Nat) : ∀ i : Nat, i + d = s.size → (∀ j, j < i → nameC j (byteT s j) = true) → Ev (fun k => forebayref13_Name.l0 k s (i : Int)) (nameP s) := by
  induction d with
  | zero =>
    intro i hi hall
    refine Ev.succ ?_
    simp only [forebayref13_Name.l0]
    refine Ev.neg (by omega) ?_
    have e : nameP s = decide (1 ≤ s.size ∧ s.size ≤ 32) := by
      unfold nameP
      have : (List.range s.size).all (fun i => nameC i (byteT s i)) = true := by
        rw [List.all_eq_true]
        intro j hj
        exact hall j (by have := List.mem_range.1 hj; omega)
      rw [this]
      rfl
    rw [e]
    refine Ev.ite (fun h => Ev.const ?_) (fun h => Ev.const ?_)
    · congr 1
      exact decide_eq_decide.2 ⟨fun h2 => ⟨by omega, by omega⟩, fun h2 => by omega⟩
    · rw [decide_eq_false (by omega)]
  | succ d ih =>
    intro i hi hall
    refine Ev.succ ?_
    simp only [forebayref13_Name.l0]
    refine Ev.pos (by omega) (Ev.pos (by omega) ?_)
    rw [bt_eq s i (by omega)]
    refine Ev.congr (fun k => letter_f (byteT s i) (fun b => forebayref13_Name.j1 k s (i : Int) (byteT s i) b)) ?_
    have next : nameC i (byteT s i) = true → Ev (fun k => forebayref13_Name.l0 k s ((i + 1 : Nat) : Int)) (nameP s) := fun h => ih (i + 1) (by omega) (fun j hj => by
      by_cases e : j = i
      · subst e; exact h
      · exact hall j (by omega))
    have no : nameC i (byteT s i) = false → nameP s = false := fun h => name_no (by omega) h
    refine Ev.succ ?_
    simp only [forebayref13_Name.j1]
    rw [wsucc i (by omega)]
    have hC : nameC i (byteT s i) = (letterB (byteT s i) || (i != 0 && (byteT s i == 45 || byteT s i == 46))) := rfl
    cases hl : letterB (byteT s i) with
    | true => exact Ev.pos rfl (next (by rw [hC, hl]; rfl))
    | false =>
      refine Ev.neg (by simp) (Ev.ite (fun h0 => ?_) (fun h0 => ?_))
      · have : i = 0 := by omega
        rw [no (by rw [hC, hl, this]; rfl)]
        exact Ev.now _
      · have h0' : (i != 0) = true := by simp; omega
        refine Ev.ite (fun h1 => next (by rw [hC, hl, h0', h1]; rfl)) (fun h1 => Ev.ite (fun h2 => next (by rw [hC, hl, h0', h2]; rfl)) (fun h2 => ?_))
        rw [no (by rw [hC, hl, h0', beq_eq_false_iff_ne.2 h1, beq_eq_false_iff_ne.2 h2]; rfl)]
        exact Ev.now _
theorem name_f (s : ByteArray) (hs : s.size ≤ 140737488355328) : Ev (fun k => forebayref13_Name.f k s) (nameP s) := by
  unfold forebayref13_Name.f
  exact name_l s hs s.size 0 (by omega) (fun j hj => by omega)
-- 2. Check
theorem rd_eq (l : List Sh) (i : Nat) : rd_T52 l (i : Int) = l.getD i z52 := by simp [rd_T52]
/-- All names are of a length that can be. -/
def Short (l : List Sh) : Prop := ∀ x ∈ l, x.f0.size ≤ 140737488355328
theorem check_l (l : List Sh) (hl : l.length ≤ 1000000) (hs : Short l) (d : Nat) : ∀ i : Nat, i + d = l.length → (∀ j, j < i → okAt l j = true) → Ev (fun k => forebayref24_Check.l0 k l (i : Int)) (if okShares l then 0 else 240) := by
  induction d with
  | zero =>
    intro i hi hall
    refine Ev.succ ?_
    simp only [forebayref24_Check.l0]
    refine Ev.neg (by omega) ?_
    have e : okShares l = decide (l.length ≤ 100) := by
      unfold okShares
      have : (List.range l.length).all (okAt l) = true := by
        rw [List.all_eq_true]
        intro j hj
        exact hall j (by have := List.mem_range.1 hj; omega)
      rw [this]
      rfl
    rw [e]
    refine Ev.ite (fun h => ?_) (fun h => ?_)
    · rw [decide_eq_false (by omega)]
      exact Ev.now _
    · rw [decide_eq_true (by omega)]
      exact Ev.now _
  | succ d ih =>
    intro i hi hall
    have hil : i < l.length := by omega
    refine Ev.succ ?_
    simp only [forebayref24_Check.l0]
    refine Ev.pos (by omega) (Ev.pos (by omega) ?_)
    rw [rd_eq]
    have hx := hs (l[i]) (List.getElem_mem hil)
    have no : okAt l i = false → okShares l = false := fun h => okShares_no hil h
    have bad : okAt l i = false → Ev (fun _ => some (240 : Int)) (if okShares l then 0 else 240) := fun h => by
      rw [no h]
      exact Ev.now _
    have next : okAt l i = true → Ev (fun k => forebayref24_Check.l0 k l (wrap64 ((i : Int) + 1))) (if okShares l then 0 else 240) := fun h => by
      rw [wsucc i (by omega)]
      exact ih (i + 1) (by omega) (fun j hj => by
        by_cases e : j = i
        · subst e; exact h
        · exact hall j (by omega))
    have hk : okAt l i = (nameP (l.getD i z52).f0 && (decide (1 ≤ (l.getD i z52).f1) && (quantP (l.getD i z52).f1 && (i == 0 || ltT (l.getD (i - 1) z52).f0 (l.getD i z52).f0)))) := rfl
    refine Ev.bind (name_f _ (by rw [getD_mem hil]; exact hx)) ?_
    generalize hxx : l.getD i z52 = x at *
    cases hn : nameP x.f0 with
    | false => exact Ev.neg (by simp) (bad (by rw [hk, hn]; rfl))
    | true =>
      refine Ev.pos rfl (Ev.ite (fun h => bad (by rw [hk, hn, decide_eq_false (by omega)]; rfl)) (fun h1 => Ev.ite (fun h => bad (by
        rw [hk, hn, decide_eq_true (by omega)]
        unfold quantP
        rw [decide_eq_false (by omega)]
        rfl)) (fun h2 => ?_)))
      have hq : quantP x.f1 = true := by unfold quantP; simp; omega
      have hk2 : okAt l i = (i == 0 || ltT (l.getD (i - 1) z52).f0 x.f0) := by rw [hk, hn, decide_eq_true (by omega), hq]; rfl
      refine Ev.ite (fun h3 => ?_) (fun h3 => next (by rw [hk2, show (i == 0) = true by simp; omega]; rfl))
      have e1 : wrap64 ((i : Int) - 1) = ((i - 1 : Nat) : Int) := by unfold wrap64; omega
      rw [e1, rd_eq]
      refine Ev.pos (by omega) (Ev.pos (by omega) (Ev.ite (fun h4 => next ?_) (fun h4 => bad ?_)))
      · rw [hk2]
        have : ltT (l.getD (i - 1) z52).f0 x.f0 = true := h4
        rw [this, Bool.or_true]
      · rw [hk2]
        have : ltT (l.getD (i - 1) z52).f0 x.f0 = false := by
          cases e : ltT (l.getD (i - 1) z52).f0 x.f0 with
          | false => rfl
          | true => exact absurd e h4
        rw [this, show (i == 0) = false by simp; omega]
        rfl
theorem rcheck_f (l : List Sh) (hl : l.length ≤ 1000000) (hs : Short l) : Ev (fun k => forebayref24_Check.f k l) (if okShares l then 0 else 240) := by
  unfold forebayref24_Check.f
  exact check_l l hl hs l.length 0 (by omega) (fun j hj => by omega)
-- 3. Of
theorem rof_l (l : List Sh) (hl : l.length ≤ 1000000) (hs : Short l) (g : Good l) (u : ByteArray) (d : Nat) : ∀ i : Nat, i + d = l.length → Ev (fun k => forebayref24_Of.l0 k l u (i : Int)) (useL (l.drop i) u) := by
  have hc : Ev (fun k => forebayref24_Check.f k l) 0 := by
    have := rcheck_f l hl hs
    rw [ok_true g] at this
    exact this
  induction d with
  | zero =>
    intro i hi
    refine Ev.succ ?_
    simp only [forebayref24_Of.l0]
    rw [List.drop_eq_nil_of_le (by omega)]
    refine Ev.neg (by omega) (Ev.succ ?_)
    simp only [forebayref24_Of.j1]
    exact Ev.neg (by simp) (Ev.now _)
  | succ d ih =>
    intro i hi
    have hil : i < l.length := by omega
    refine Ev.succ ?_
    simp only [forebayref24_Of.l0]
    refine Ev.pos (by omega) (Ev.bind hc (Ev.succ ?_))
    simp only [forebayref24_Of.j1]
    rw [rd_eq, getD_mem hil, List.drop_eq_getElem_cons hil, useL, wsucc i (by omega)]
    refine Ev.pos rfl (Ev.pos (by omega) (Ev.pos (by omega) ?_))
    by_cases h : l[i].f0.toList = u.toList
    · rw [if_pos h]
      exact Ev.pos h (Ev.now _)
    · rw [if_neg h]
      exact Ev.neg h (ih (i + 1) (by omega))
theorem rof_f (l : List Sh) (hl : l.length ≤ 1000000) (hs : Short l) (u : ByteArray) : Ev (fun k => forebayref24_Of.f k l u) (ofT l u) := by
  unfold forebayref24_Of.f
  by_cases g : Good l
  · rw [of_eq g]
    exact rof_l l hl hs g u l.length 0 (by omega)
  · rw [of_bad g]
    refine Ev.succ ?_
    simp only [forebayref24_Of.l0]
    have hc := rcheck_f l hl hs
    rw [ok_false g] at hc
    refine Ev.ite (fun h => Ev.bind hc (Ev.succ ?_)) (fun h => Ev.succ ?_)
    · simp only [forebayref24_Of.j1]
      exact Ev.neg (by simp) (Ev.now _)
    · simp only [forebayref24_Of.j1]
      exact Ev.neg (by simp) (Ev.now _)
end Go.Proofs.Ytjhpgfgpchgabaa.Pure
