/- What Add and Of tell, in plain rows; equal rows are the same. -/
import Derived.Test.YtjhpgfgpchgabaaShare
import Derived.Test.YtjhpgfgpchgabaaEv
namespace Go.Proofs.Ytjhpgfgpchgabaa.Pure
open Go.RowKit Go.Proofs.Ytjhpgfgpchgabaa.P Go.Proofs.YtjhpgfgpchgabaaW.PrintWords Go.Proofs.YtjhpgfgpchgabaaW.PrintLast
set_option linter.unusedVariables false
set_option linter.unusedSimpArgs false

theorem shAdd_eq {a b : Int} (ha : 0 ≤ a) (ha2 : a ≤ 1099511627776) (hb : 0 ≤ b) (hb2 : b ≤ 1099511627776) : shAdd a b = mnT (a + b) := by
  have c : ∀ x : Int, 0 ≤ x → x ≤ 1099511627776 → clampT x = x := fun x h0 h1 => by unfold clampT; rw [if_neg (by omega), if_neg (by omega)]
  have e : shAdd a b = addT (addT 0 a) b := by unfold shAdd sumT; rw [List.foldl_cons, List.foldl_cons, List.foldl_nil]
  have e1 : addT 0 a = a := by unfold addT; rw [c 0 (by omega) (by omega), c a ha ha2, Int.zero_add, c a ha ha2]
  rw [e, e1]
  unfold addT
  rw [c a ha ha2, c b hb hb2]
  unfold clampT mnT
  rw [if_neg (by omega)]
  by_cases h : a + b > 1099511627776
  · rw [if_pos h, if_neg (by omega)]
  · rw [if_neg h]
    by_cases h2 : a + b < 1099511627776
    · rw [if_pos h2]
    · rw [if_neg h2]; omega
theorem getD_mid (A B : List Sh) (x : Sh) : (A ++ x :: B).getD A.length z52 = x := by
  rw [List.getD_eq_getElem?_getD, List.getElem?_append_right (Nat.le_refl _), Nat.sub_self]
  rfl
theorem addAt_mid (A B : List Sh) (x : Sh) (n : Int) : addAt (A ++ x :: B) A.length n = A ++ ⟨x.f0, shAdd x.f1 n⟩ :: B := by
  unfold addAt
  rw [getD_mid, List.set_append_right _ _ (Nat.le_refl _), Nat.sub_self]
  rfl
theorem used_all {l : List Sh} (h : ∀ x ∈ l, 0 < x.f1) : l.filter usedP = l := by
  rw [List.filter_eq_self]
  intro x hx
  unfold usedP
  simpa using h x hx
/-- Does a row have a user? -/
def hasU (l : List Sh) (u : ByteArray) : Bool := l.any (fun x => x.f0.toList == u.toList)
theorem place_has {l : List Sh} (hs : Sorted l) (u : ByteArray) :
    ∃ A B, l = A ++ B ∧ A.length = placeI l u ∧ (∀ x ∈ A, ltT x.f0 u = true) ∧
      (((placeT l u).2 = true ∧ ∃ x C, B = x :: C ∧ x.f0.toList = u.toList) ∨ ((placeT l u).2 = false ∧ ∀ x ∈ B, ltT u x.f0 = true)) := by
  obtain ⟨h1, h2⟩ := place_cut hs u
  have hle := halfT_le l u
  refine ⟨l.take (placeI l u), l.drop (placeI l u), (List.take_append_drop _ _).symm, by rw [List.length_take]; omega, h1, ?_⟩
  have hsB : Sorted (l.drop (placeI l u)) := List.Pairwise.sublist (List.drop_sublist _ _) hs
  by_cases hlt : placeI l u < l.length
  · have hd : l.drop (placeI l u) = l[placeI l u] :: l.drop (placeI l u + 1) := List.drop_eq_getElem_cons hlt
    have hT : (placeT l u).2 = (cmpT (l[placeI l u]).f0 u == 0) := by
      unfold placeT
      simp only [hlt, decide_true, Bool.true_and]
      rw [getD_mem hlt]
    by_cases he : (l[placeI l u]).f0.toList = u.toList
    · left
      exact ⟨by rw [hT, beq_iff_eq]; exact (cmp_zero _ _).2 he, _, _, hd, he⟩
    · right
      refine ⟨by rw [hT]; exact beq_eq_false_iff_ne.2 (fun e => he ((cmp_zero _ _).1 e)), ?_⟩
      have h0 : ltT u (l[placeI l u]).f0 = true := lt_tot (h2 _ (by rw [hd]; exact List.mem_cons_self)) he
      rw [hd] at hsB ⊢
      intro x hx
      rcases List.mem_cons.1 hx with rfl | hx
      · exact h0
      · exact lt_tr h0 ((List.pairwise_cons.1 hsB).1 x hx)
  · right
    have hd : l.drop (placeI l u) = [] := List.drop_eq_nil_of_le (by omega)
    refine ⟨by unfold placeT; simp [hlt], ?_⟩
    rw [hd]
    intro x hx
    cases hx
theorem of_eq {l : List Sh} (h : Good l) (u : ByteArray) : ofT l u = useL l u := by
  obtain ⟨A, B, rfl, hA, h1, hB⟩ := place_has h.sorted u
  unfold ofT
  rw [useL_ahead h1]
  rcases hB with ⟨ht, x, C, rfl, hx⟩ | ⟨ht, hB⟩
  · rw [if_pos ⟨ok_true h, ht⟩, ← hA, getD_mid, useL, if_pos hx]
  · rw [if_neg (by rw [ht]; simp), useL_over hB]
theorem of_bad {l : List Sh} (h : ¬ Good l) (u : ByteArray) : ofT l u = 0 := by
  unfold ofT
  rw [if_neg (by rw [ok_false h]; simp)]
/-- What Add tells. -/
theorem add_eq {l : List Sh} (h : Good l) {u : ByteArray} {n : Int} (hq : quantP n = true) (hu : nameP u = true) :
    (addR l u n = ([], 6) ∧ hasU l u = false ∧ 0 < n ∧ 100 ≤ l.length) ∨ (addR l u n = (addL l u n, 0) ∧ (hasU l u = true ∨ ¬ (0 < n ∧ 100 ≤ l.length))) := by
  have hn : 0 ≤ n ∧ n ≤ 1099511627776 := by unfold quantP at hq; simpa using hq
  obtain ⟨A, B, rfl, hA, h1, hB⟩ := place_has h.sorted u
  have hpos : ∀ x ∈ A ++ B, 0 < x.f1 := fun x hx => by have := (h.fine x hx).2.1; omega
  unfold addR
  rw [if_pos hq, if_pos hu, if_pos (ok_true h)]
  rcases hB with ⟨ht, x, C, rfl, hx⟩ | ⟨ht, hB⟩
  · right
    rw [if_pos ht, ← hA, addAt_mid]
    have hf := h.fine x (by simp)
    have hs := shAdd_eq (a := x.f1) (b := n) (by have := hf.2.1; omega) hf.2.2 hn.1 hn.2
    refine ⟨?_, .inl ?_⟩
    · rw [addL_ahead h1, addL, if_pos hx, hs]
      rw [used_all]
      intro y hy
      rcases List.mem_append.1 hy with hy | hy
      · exact hpos y (List.mem_append_left _ hy)
      · rcases List.mem_cons.1 hy with rfl | hy
        · show 0 < mnT (x.f1 + n)
          have := hf.2.1
          unfold mnT
          split <;> omega
        · exact hpos y (List.mem_append_right _ (List.mem_cons_of_mem _ hy))
    · unfold hasU
      rw [List.any_eq_true]
      exact ⟨x, by simp, by simpa using hx⟩
  · have hno : hasU (A ++ B) u = false := by
      unfold hasU
      rw [List.any_eq_false]
      intro x hx
      rcases List.mem_append.1 hx with hx | hx
      · simpa using lt_ne (h1 x hx)
      · simpa using fun e : x.f0.toList = u.toList => lt_ne (hB x hx) e.symm
    rw [if_neg (by rw [ht]; simp)]
    by_cases hc : 0 < n ∧ 100 ≤ (A ++ B).length
    · rw [if_pos hc]
      exact .inl ⟨rfl, hno, hc.1, hc.2⟩
    · rw [if_neg hc]
      refine .inr ⟨?_, .inr hc⟩
      rw [← hA, List.take_left, List.drop_left, addAt_mid]
      have hs : shAdd 0 n = n := by
        rw [shAdd_eq (by omega) (by omega) hn.1 hn.2]
        unfold mnT
        split <;> omega
      rw [addL_ahead h1]
      have hB2 : addL B u n = if n = 0 then B else ⟨u, n⟩ :: B := by
        cases B with
        | nil => unfold addL; rfl
        | cons y B =>
          have hy := hB y List.mem_cons_self
          rw [addL, if_neg (fun e => lt_ne hy e.symm), if_pos hy]
      rw [hB2]
      show ((A ++ ⟨u, shAdd 0 n⟩ :: B).filter usedP, (0 : Int)) = _
      rw [hs]
      by_cases hz : n = 0
      · rw [if_pos hz, List.filter_append, List.filter_cons_of_neg (by unfold usedP; simp [hz]), ← List.filter_append, used_all hpos]
      · rw [if_neg hz, used_all]
        intro y hy
        rcases List.mem_append.1 hy with hy | hy
        · exact hpos y (List.mem_append_left _ hy)
        · rcases List.mem_cons.1 hy with rfl | hy
          · show 0 < n; omega
          · exact hpos y (List.mem_append_right _ hy)
theorem add_good {l : List Sh} (h : Good l) {u : ByteArray} {n : Int} (hq : quantP n = true) (hu : nameP u = true) (hl : l.length ≤ 99) : Good (addL l u n) := by
  have hn : 0 ≤ n ∧ n ≤ 1099511627776 := by unfold quantP at hq; simpa using hq
  exact ⟨addL_sorted h.sorted, addL_fine h.fine hu hn.1 hn.2, by have := addL_len l u n; omega⟩
/-- Add that told no error. -/
theorem add_ok {l : List Sh} {u : ByteArray} {n : Int} (h : (addR l u n).2 = 0) : Good l ∧ quantP n = true ∧ nameP u = true ∧ addR l u n = (addL l u n, 0) := by
  by_cases hq : quantP n = true
  case neg => unfold addR at h; rw [if_neg hq] at h; exact absurd h (by simp)
  by_cases hu : nameP u = true
  case neg => unfold addR at h; rw [if_pos hq, if_neg hu] at h; exact absurd h (by simp)
  by_cases hg : Good l
  case neg => unfold addR at h; rw [if_pos hq, if_pos hu, if_neg (by rw [ok_false hg]; simp)] at h; exact absurd h (by simp)
  refine ⟨hg, hq, hu, ?_⟩
  rcases add_eq hg hq hu with ⟨e, _⟩ | ⟨e, _⟩
  · rw [e] at h; exact absurd h (by simp)
  · exact e
theorem same_l (l : List Sh) (hl : l.length ≤ 1000000) (d : Nat) : ∀ i : Nat, i + d = l.length → Ev (fun k => forebayref24_Same.l0 k l l (i : Int)) true := by
  induction d with
  | zero =>
    intro i hi
    refine Ev.succ ?_
    simp only [forebayref24_Same.l0]
    exact Ev.neg (by omega) (Ev.now _)
  | succ d ih =>
    intro i hi
    refine Ev.succ ?_
    simp only [forebayref24_Same.l0]
    rw [show wrap64 ((i : Int) + 1) = ((i + 1 : Nat) : Int) by unfold wrap64; omega]
    exact Ev.pos (by omega) (Ev.pos (by omega) (Ev.pos (by omega) (Ev.neg (by simp) (ih (i + 1) (by omega)))))
theorem same_same (l : List Sh) (hl : l.length ≤ 1000000) : Ev (fun k => forebayref24_Same.f k l l) true := by
  unfold forebayref24_Same.f
  exact Ev.pos rfl (same_l l hl l.length 0 (by omega))
theorem head_true : forebaylaw24_head.f = some true := by kernel_rfl
end Go.Proofs.Ytjhpgfgpchgabaa.Pure
