/- What is given, in plain rows: positions, and the row behind it. -/
import Derived.Test.YtifebcdkckjphaaPx4
import Derived.Test.YtifebcdkckjphaaEv
namespace Go.Proofs.Ytifebcdkckjphaa.Pure
open Go.RowKit Go.Proofs.Ytifebcdkckjphaa.P Go.Proofs.YtifebcdkckjphaaW.PrintWords Go.Proofs.YtifebcdkckjphaaW.PrintLast
set_option linter.unusedVariables false
set_option linter.unusedSimpArgs false

theorem ok_len {l : List S35} (h : okNodes l = true) : 1 ≤ l.length ∧ l.length ≤ 64 := by
  unfold okNodes at h
  simp only [Bool.and_eq_true, decide_eq_true_eq] at h
  exact h.1
theorem ok_all {l : List S35} (h : okNodes l = true) {j : Nat} (hj : j < l.length) : badN (l.getD j z35) = false := by
  unfold okNodes at h
  simp only [Bool.and_eq_true, Bool.not_eq_true'] at h
  have h2 := List.any_eq_false.1 h.2 (l[j]) (List.getElem_mem hj)
  rw [List.getD_eq_getElem?_getD, List.getElem?_eq_getElem hj]
  simpa using h2
theorem ok_of {l : List S35} (h1 : 1 ≤ l.length) (h2 : l.length ≤ 64) (h : ∀ j, j < l.length → badN (l.getD j z35) = false) : okNodes l = true := by
  unfold okNodes
  rw [decide_eq_true ⟨h1, h2⟩]
  have : l.any badN = false := by
    rw [List.any_eq_false]
    intro x hx
    obtain ⟨j, hj, rfl⟩ := List.getElem_of_mem hx
    have := h j hj
    rw [List.getD_eq_getElem?_getD, List.getElem?_eq_getElem hj] at this
    simpa using this
  rw [this]; rfl
theorem posT_yes {p : S35 → Bool} {l : List S35} (h : okNodes l = true) : posT p l = posU p l l.length := by unfold posT; rw [if_pos h]
theorem posU_yes {p : S35 → Bool} {l : List S35} {i : Nat} (h : p (l.getD i z35) = true) : posU p l (i + 1) = posU p l i ++ [(i : Int)] := by rw [posU_succ, if_pos h]
theorem posU_no {p : S35 → Bool} {l : List S35} {i : Nat} (h : p (l.getD i z35) = false) : posU p l (i + 1) = posU p l i := by rw [posU_succ, h]; simp
theorem posU_lt {p : S35 → Bool} {l : List S35} {i : Nat} {x : Int} (h : x ∈ posU p l i) : ∃ j : Nat, x = (j : Int) ∧ j < i ∧ p (l.getD j z35) = true := by
  unfold posU at h
  obtain ⟨j, hj, rfl⟩ := List.mem_map.1 h
  obtain ⟨h1, h2⟩ := List.mem_filter.1 hj
  exact ⟨j, rfl, List.mem_range.1 h1, h2⟩
theorem posU_mem {p : S35 → Bool} {l : List S35} {i j : Nat} (h : j < i) (hp : p (l.getD j z35) = true) : (j : Int) ∈ posU p l i := by
  unfold posU
  exact List.mem_map.2 ⟨j, List.mem_filter.2 ⟨List.mem_range.2 h, hp⟩, rfl⟩
theorem posU_congr {p q : S35 → Bool} {l r : List S35} (i : Nat) (h : ∀ j, j < i → p (l.getD j z35) = q (r.getD j z35)) : posU p l i = posU q r i := by
  induction i with
  | zero => rfl
  | succ i ih => rw [posU_succ, posU_succ, ih (fun j hj => h j (by omega)), h i (by omega)]
theorem giveL_getD (n : Int) (ps : List Int) : ∀ (l : List S35) (j : Nat), j < l.length → (∀ x ∈ ps, 0 ≤ x) →
    (giveL l n ps).getD j z35 = if (j : Int) ∈ ps then ⟨(l.getD j z35).f0, (l.getD j z35).f1, n⟩ else l.getD j z35 := by
  induction ps with
  | nil => intro l j _ _; rfl
  | cons p ps ih =>
    intro l j hj h0
    have hp : 0 ≤ p := h0 p (List.mem_cons_self ..)
    have e : giveL l n (p :: ps) = giveL (l.set p.toNat ⟨(l.getD p.toNat z35).f0, (l.getD p.toNat z35).f1, n⟩) n ps := rfl
    rw [e, ih _ j (by simpa using hj) (fun x hx => h0 x (List.mem_cons_of_mem _ hx))]
    by_cases hpj : p.toNat = j
    · have hj' : (j : Int) = p := by omega
      have e2 : (l.set p.toNat ⟨(l.getD p.toNat z35).f0, (l.getD p.toNat z35).f1, n⟩).getD j z35 = ⟨(l.getD j z35).f0, (l.getD j z35).f1, n⟩ := by
        rw [← hpj, List.getD_eq_getElem?_getD, List.getElem?_set_self (by rw [hpj]; exact hj)]; rfl
      rw [e2, if_pos (show (j : Int) ∈ p :: ps by rw [hj']; exact List.mem_cons_self ..)]
      split <;> rfl
    · have e2 : (l.set p.toNat ⟨(l.getD p.toNat z35).f0, (l.getD p.toNat z35).f1, n⟩).getD j z35 = l.getD j z35 := by
        rw [List.getD_eq_getElem?_getD, List.getElem?_set_ne hpj, ← List.getD_eq_getElem?_getD]
      have hne : (j : Int) ≠ p := by omega
      rw [e2]
      by_cases hm : (j : Int) ∈ ps
      · rw [if_pos hm, if_pos (List.mem_cons_of_mem _ hm)]
      · rw [if_neg hm, if_neg (fun h => by rcases List.mem_cons.1 h with h | h; exact hne h; exact hm h)]
/-- The first m free places. -/
theorem take_mem (l : List S35) (m : Nat) (i j : Nat) (hj : j < i) : (j : Int) ∈ (posU freeP l i).take m ↔ (freeP (l.getD j z35) = true ∧ (posU freeP l j).length < m) := by
  induction i with
  | zero => omega
  | succ i ih =>
    have hout : ∀ {i'} {x : Int}, x ∈ (posU freeP l i').take m → ∃ j : Nat, x = (j : Int) ∧ j < i' := fun hx => by
      obtain ⟨j, h1, h2, _⟩ := posU_lt (List.mem_of_mem_take hx)
      exact ⟨j, h1, h2⟩
    cases hp : freeP (l.getD i z35) with
    | false =>
      rw [posU_no hp]
      by_cases hji : j = i
      · subst hji
        rw [hp]
        refine ⟨fun h => ?_, fun h => by cases h.1⟩
        obtain ⟨j', h1, h2⟩ := hout h
        omega
      · exact ih (by omega)
    | true =>
      rw [posU_yes hp, List.take_append]
      by_cases hji : j = i
      · subst hji
        rw [hp]
        refine ⟨fun h => ⟨rfl, ?_⟩, fun h => ?_⟩
        · rcases List.mem_append.1 h with h | h
          · obtain ⟨j', h1, h2⟩ := hout h
            omega
          · by_cases hc : (posU freeP l j).length < m
            · exact hc
            · rw [show m - (posU freeP l j).length = 0 by omega] at h
              simp at h
        · refine List.mem_append.2 (.inr ?_)
          obtain ⟨c, hc⟩ : ∃ c, m - (posU freeP l j).length = c + 1 := ⟨m - (posU freeP l j).length - 1, by omega⟩
          rw [hc]; simp
      · rw [← ih (by omega)]
        refine ⟨fun h => ?_, fun h => List.mem_append.2 (.inl h)⟩
        rcases List.mem_append.1 h with h | h
        · exact h
        · have := List.mem_of_mem_take h
          simp at this
          omega
variable {l : List S35} {n : Int} {m : Nat}
/-- The row behind Give. -/
structure Gave (l : List S35) (n : Int) (m : Nat) : Prop where
  ok : okNodes l = true
  n1 : 1 ≤ n
  n2 : n ≤ 1073741824
  none : ∀ j, j < l.length → ofP n (l.getD j z35) = false
  room : m ≤ (posU freeP l l.length).length
def gB (l : List S35) (m : Nat) : List Int := (posU freeP l l.length).take m
def gA (l : List S35) (n : Int) (m : Nat) : List S35 := giveL l n (gB l m)
theorem gB_pos (x : Int) (h : x ∈ gB l m) : ∃ j : Nat, x = (j : Int) ∧ j < l.length ∧ freeP (l.getD j z35) = true := posU_lt (List.mem_of_mem_take h)
theorem gB_len (h : Gave l n m) : (gB l m).length = m := by unfold gB; rw [List.length_take]; have := h.room; omega
theorem gA_len : (gA l n m).length = l.length := giveL_len n _ l
theorem gA_getD {j : Nat} (hj : j < l.length) : (gA l n m).getD j z35 = if (j : Int) ∈ gB l m then ⟨(l.getD j z35).f0, (l.getD j z35).f1, n⟩ else l.getD j z35 :=
  giveL_getD n (gB l m) l j hj (fun x hx => by obtain ⟨j, rfl, _⟩ := gB_pos x hx; omega)
theorem gB_mem {j : Nat} (hj : j < l.length) : (j : Int) ∈ gB l m ↔ (freeP (l.getD j z35) = true ∧ (posU freeP l j).length < m) := take_mem l m _ j hj
theorem gA_ok (h : Gave l n m) : okNodes (gA l n m) = true := by
  have hl := ok_len h.ok
  refine ok_of (by rw [gA_len]; exact hl.1) (by rw [gA_len]; exact hl.2) (fun j hj => ?_)
  rw [gA_len] at hj
  rw [gA_getD hj]
  by_cases hm : (j : Int) ∈ gB l m
  · rw [if_pos hm]
    have hf := ((gB_mem hj).1 hm).1
    have h1 := h.n1
    have h2 := h.n2
    unfold freeP usableP at hf
    simp only [Bool.and_eq_true] at hf
    unfold badN
    rw [hf.1.1]
    simp
    omega
  · rw [if_neg hm]; exact ok_all h.ok hj
theorem gA_of (h : Gave l n m) : posU (ofP n) (gA l n m) l.length = gB l m := by
  have key : ∀ i, i ≤ l.length → posU (ofP n) (gA l n m) i = (posU freeP l i).take m := by
    intro i
    induction i with
    | zero => intro _; unfold posU; simp
    | succ i ih =>
      intro hi
      have hi' : i < l.length := by omega
      have e := ih (by omega)
      have hg := gA_getD (n := n) (m := m) hi'
      by_cases hm : (i : Int) ∈ gB l m
      · rw [if_pos hm] at hg
        obtain ⟨h1, h2⟩ := (gB_mem hi').1 hm
        have hp : ofP n ((gA l n m).getD i z35) = true := by
          rw [hg]; unfold ofP
          have := h.n1
          rw [decide_eq_true (by omega)]; simp
        rw [posU_yes hp, posU_yes h1, e, List.take_append, List.take_of_length_le (show [(i : Int)].length ≤ m - (posU freeP l i).length by simp; omega)]
      · rw [if_neg hm] at hg
        have hp : ofP n ((gA l n m).getD i z35) = false := by rw [hg]; exact h.none i hi'
        rw [posU_no hp, e]
        cases hf : freeP (l.getD i z35) with
        | false => rw [posU_no hf]
        | true =>
          have : ¬ (posU freeP l i).length < m := fun hc => hm ((gB_mem hi').2 ⟨hf, hc⟩)
          rw [posU_yes hf, List.take_append, show m - (posU freeP l i).length = 0 by omega]
          simp
  exact key l.length (Nat.le_refl _)
theorem gA_free (h : Gave l n m) : (posU freeP (gA l n m) l.length).length = (posU freeP l l.length).length - m := by
  have key : ∀ i, i ≤ l.length → (posU freeP (gA l n m) i).length = (posU freeP l i).length - m := by
    intro i
    induction i with
    | zero => intro _; unfold posU; simp
    | succ i ih =>
      intro hi
      have hi' : i < l.length := by omega
      have e := ih (by omega)
      have hg := gA_getD (n := n) (m := m) hi'
      by_cases hm : (i : Int) ∈ gB l m
      · rw [if_pos hm] at hg
        obtain ⟨h1, h2⟩ := (gB_mem hi').1 hm
        have hp : freeP ((gA l n m).getD i z35) = false := by
          rw [hg]; unfold freeP
          have h0 : (n == 0) = false := by have := h.n1; simp; omega
          simp only [h0, Bool.and_false]
        rw [posU_no hp, posU_yes h1, e, List.length_append, List.length_singleton]
        omega
      · rw [if_neg hm] at hg
        cases hf : freeP (l.getD i z35) with
        | false =>
          have hp : freeP ((gA l n m).getD i z35) = false := by rw [hg]; exact hf
          rw [posU_no hp, posU_no hf, e]
        | true =>
          have hp : freeP ((gA l n m).getD i z35) = true := by rw [hg]; exact hf
          have : ¬ (posU freeP l i).length < m := fun hc => hm ((gB_mem hi').2 ⟨hf, hc⟩)
          rw [posU_yes hp, posU_yes hf, List.length_append, List.length_append, e]
          simp
          omega
  exact key l.length (Nat.le_refl _)
theorem node_ext {a b : List S35} (hl : a.length = b.length) (h : ∀ j, j < b.length → a.getD j z35 = b.getD j z35) : a = b := by
  refine List.ext_getElem hl (fun j h1 h2 => ?_)
  have := h j h2
  rwa [List.getD_eq_getElem?_getD, List.getD_eq_getElem?_getD, List.getElem?_eq_getElem h1, List.getElem?_eq_getElem h2] at this
theorem gA_clear (h : Gave l n m) : clearL (gA l n m) (gB l m) = l := by
  have hc : clearL (gA l n m) (gB l m) = giveL (gA l n m) 0 (gB l m) := rfl
  refine node_ext (by rw [hc, giveL_len, gA_len]) (fun j hj => ?_)
  rw [hc, giveL_getD 0 (gB l m) (gA l n m) j (by rw [gA_len]; exact hj) (fun x hx => by obtain ⟨j, rfl, _⟩ := gB_pos x hx; omega), gA_getD hj]
  by_cases hm : (j : Int) ∈ gB l m
  · rw [if_pos hm, if_pos hm]
    have hf := ((gB_mem hj).1 hm).1
    generalize l.getD j z35 = x at hf
    obtain ⟨a, b, c⟩ := x
    unfold freeP at hf
    simp only [Bool.and_eq_true, beq_iff_eq] at hf
    obtain rfl := hf.2
    rfl
  · rw [if_neg hm, if_neg hm]
/-- A node of the row fails. -/
def gD (l : List S35) (n : Int) (m j : Nat) : List S35 := (gA l n m).set j ⟨false, ((gA l n m).getD j z35).f1, 0⟩
theorem gD_getD {j i : Nat} (hi : i < l.length) : (gD l n m j).getD i z35 = if i = j then ⟨false, ((gA l n m).getD j z35).f1, 0⟩ else (gA l n m).getD i z35 := by
  unfold gD
  by_cases h : i = j
  · subst h
    rw [if_pos rfl, List.getD_eq_getElem?_getD, List.getElem?_set_self (by rw [gA_len]; exact hi)]; rfl
  · rw [if_neg h, List.getD_eq_getElem?_getD, List.getElem?_set_ne (fun e => h e.symm), ← List.getD_eq_getElem?_getD]
theorem gD_len {j : Nat} : (gD l n m j).length = l.length := by unfold gD; rw [List.length_set, gA_len]
theorem gD_ok (h : Gave l n m) {j : Nat} (hj : j < l.length) : okNodes (gD l n m j) = true := by
  have hl := ok_len h.ok
  refine ok_of (by rw [gD_len]; exact hl.1) (by rw [gD_len]; exact hl.2) (fun i hi => ?_)
  rw [gD_len] at hi
  rw [gD_getD hi]
  by_cases he : i = j
  · rw [if_pos he]; rfl
  · rw [if_neg he]; exact ok_all (gA_ok h) (by rw [gA_len]; exact hi)
theorem gD_of (h : Gave l n m) {j : Nat} (hj : j < l.length) (hm : (j : Int) ∈ gB l m) : (posU (ofP n) (gD l n m j) l.length).length + 1 = m := by
  have h1 := h.n1
  have key : ∀ i, i ≤ l.length → (posU (ofP n) (gD l n m j) i).length + (if j < i then 1 else 0) = (posU (ofP n) (gA l n m) i).length := by
    intro i
    induction i with
    | zero => intro _; unfold posU; simp
    | succ i ih =>
      intro hi
      have hi' : i < l.length := by omega
      have e := ih (by omega)
      have hg := gD_getD (n := n) (m := m) (j := j) hi'
      by_cases he : i = j
      · subst he
        rw [if_pos rfl] at hg
        have hp : ofP n ((gD l n m i).getD i z35) = false := by
          rw [hg]; unfold ofP
          have h0 : ((0 : Int) == n) = false := by simp; omega
          simp only [h0, Bool.and_false]
        have hq : ofP n ((gA l n m).getD i z35) = true := by
          rw [gA_getD hi', if_pos hm]; unfold ofP
          rw [decide_eq_true (by omega)]; simp
        rw [posU_no hp, posU_yes hq, List.length_append, List.length_singleton, if_pos (by omega), ← e, if_neg (by omega)]
      · rw [if_neg he] at hg
        rw [posU_succ, posU_succ, hg, List.length_append, List.length_append]
        by_cases hji : j < i
        · rw [if_pos hji] at e
          rw [if_pos (show j < i + 1 by omega), ← e]; omega
        · rw [if_neg hji] at e
          rw [if_neg (show ¬ j < i + 1 by omega), ← e]; omega
  have := key l.length (Nat.le_refl _)
  rw [if_pos hj, gA_of h, gB_len h] at this
  exact this
theorem gD_free {j : Nat} (hj : j < l.length) {x : Int} (h : x ∈ posU freeP (gD l n m j) l.length) : x ≠ (j : Int) := by
  obtain ⟨i, rfl, hi, hf⟩ := posU_lt h
  intro he
  obtain rfl : i = j := by omega
  rw [gD_getD hi, if_pos rfl] at hf
  cases hf
end Go.Proofs.Ytifebcdkckjphaa.Pure
