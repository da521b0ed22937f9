/- Shares as plain rows: the order of names, a user's use, a use added. -/
import Derived.Test.YtjhpgfgpchgabaaPx
import Derived.Test.YtjhpgfgpchgabaaStr
import Derived.Test.YtjhpgfgpchgabaaBytes
namespace Go.Proofs.Ytjhpgfgpchgabaa.Pure
open Go.RowKit Go.Proofs.Ytjhpgfgpchgabaa.P Go.Proofs.YtjhpgfgpchgabaaW.PrintWords Go.Proofs.YtjhpgfgpchgabaaW.PrintLast
set_option linter.unusedVariables false
set_option linter.unusedSimpArgs false
abbrev Sh := S52

theorem lt_irr (a : ByteArray) : ltT a a = false := less_irrefl _
theorem lt_tr {a b c : ByteArray} (h : ltT a b = true) (k : ltT b c = true) : ltT a c = true := less_trans h k
theorem lt_as {a b : ByteArray} (h : ltT a b = true) : ltT b a = false := less_asymm h
theorem lt_tot {a b : ByteArray} (h : ltT a b = false) (hne : ¬ a.toList = b.toList) : ltT b a = true := less_total h hne
theorem lt_ne {a b : ByteArray} (h : ltT a b = true) : ¬ a.toList = b.toList := fun e => by
  have : a = b := ba_inj.1 e
  subst this
  rw [lt_irr] at h
  cases h
theorem cmp_lt (a b : ByteArray) : cmpT a b < 0 ↔ ltT a b = true := by
  unfold cmpT ltT
  rw [cmp_eq]
  by_cases h : Op.bytesLess a.toList b.toList = true
  · simp [h]
  · rw [if_neg h]
    by_cases h2 : a.toList = b.toList
    · simp [h2, less_irrefl]
    · rw [if_neg h2]
      simp [h]
theorem cmp_zero (a b : ByteArray) : cmpT a b = 0 ↔ a.toList = b.toList := by
  unfold cmpT
  rw [cmp_eq]
  by_cases h : Op.bytesLess a.toList b.toList = true
  · rw [if_pos h]
    exact ⟨fun e => absurd e (by decide), fun e => absurd e (lt_ne h)⟩
  · rw [if_neg h]
    by_cases h2 : a.toList = b.toList
    · simp [h2]
    · simp [h2]

def Sorted (l : List Sh) : Prop := l.Pairwise (fun x y => ltT x.f0 y.f0 = true)
def Fine (x : Sh) : Prop := nameP x.f0 = true ∧ 1 ≤ x.f1 ∧ x.f1 ≤ 1099511627776
structure Good (l : List Sh) : Prop where
  sorted : Sorted l
  fine : ∀ x ∈ l, Fine x
  len : l.length ≤ 100
theorem getD_mem {l : List Sh} {i : Nat} (h : i < l.length) : l.getD i z52 = l[i] := by rw [List.getD_eq_getElem?_getD, List.getElem?_eq_getElem h]; rfl
theorem sorted_of_next (l : List Sh) (h : ∀ i (hi : i + 1 < l.length), ltT l[i].f0 l[i + 1].f0 = true) : Sorted l := by
  unfold Sorted
  rw [List.pairwise_iff_getElem]
  intro i j hi hj hij
  obtain ⟨d, rfl⟩ : ∃ d, j = i + 1 + d := ⟨j - i - 1, by omega⟩
  induction d with
  | zero => exact h i hj
  | succ d ih => exact lt_tr (ih (by omega) (by omega)) (h (i + 1 + d) hj)
theorem ok_iff (l : List Sh) : okShares l = true ↔ Good l := by
  unfold okShares
  rw [Bool.and_eq_true, List.all_eq_true, decide_eq_true_eq]
  constructor
  · rintro ⟨h, hl⟩
    have h2 : ∀ i (hi : i < l.length), nameP l[i].f0 = true ∧ 1 ≤ l[i].f1 ∧ (0 ≤ l[i].f1 ∧ l[i].f1 ≤ 1099511627776) ∧ (i = 0 ∨ ltT (l.getD (i - 1) z52).f0 l[i].f0 = true) := by
      intro i hi
      have := h i (List.mem_range.2 hi)
      unfold okAt quantP at this
      rw [getD_mem hi] at this
      simpa only [Bool.and_eq_true, Bool.or_eq_true, decide_eq_true_eq, beq_iff_eq] using this
    refine ⟨sorted_of_next l fun i hi => ?_, fun x hx => ?_, hl⟩
    · rcases (h2 (i + 1) hi).2.2.2 with e | e
      · omega
      · rw [Nat.add_sub_cancel, getD_mem (by omega)] at e
        exact e
    · obtain ⟨i, hi, rfl⟩ := List.getElem_of_mem hx
      exact ⟨(h2 i hi).1, (h2 i hi).2.1, (h2 i hi).2.2.1.2⟩
  · rintro ⟨hs, hf, hl⟩
    refine ⟨fun i hi => ?_, hl⟩
    have hi := List.mem_range.1 hi
    have f := hf _ (List.getElem_mem hi)
    unfold okAt quantP
    rw [getD_mem hi]
    simp only [Bool.and_eq_true, Bool.or_eq_true, decide_eq_true_eq, beq_iff_eq]
    refine ⟨f.1, f.2.1, ⟨by have := f.2.1; omega, f.2.2⟩, ?_⟩
    by_cases h0 : i = 0
    · exact .inl h0
    · refine .inr ?_
      rw [getD_mem (by omega)]
      exact List.pairwise_iff_getElem.1 hs (i - 1) i (by omega) hi (by omega)
theorem ok_true {l : List Sh} (h : Good l) : okShares l = true := (ok_iff l).2 h
theorem ok_false {l : List Sh} (h : ¬ Good l) : okShares l = false := by
  cases e : okShares l with
  | false => rfl
  | true => exact absurd ((ok_iff l).1 e) h

/-- What a user has used. -/
def useL : List Sh → ByteArray → Int
  | [], _ => 0
  | x :: l, u => if x.f0.toList = u.toList then x.f1 else useL l u
def mnT (a : Int) : Int := if a < 1099511627776 then a else 1099511627776
/-- A use added. -/
def addL : List Sh → ByteArray → Int → List Sh
  | [], u, n => if n = 0 then [] else [⟨u, n⟩]
  | x :: l, u, n => if x.f0.toList = u.toList then ⟨x.f0, mnT (x.f1 + n)⟩ :: l else if ltT u x.f0 = true then (if n = 0 then x :: l else ⟨u, n⟩ :: x :: l) else x :: addL l u n
theorem useL_ahead {A : List Sh} {u : ByteArray} (h : ∀ x ∈ A, ltT x.f0 u = true) (B : List Sh) : useL (A ++ B) u = useL B u := by
  induction A with
  | nil => rfl
  | cons x A ih =>
    rw [List.cons_append, useL, if_neg (lt_ne (h x List.mem_cons_self))]
    exact ih fun y hy => h y (List.mem_cons_of_mem _ hy)
theorem useL_over {B : List Sh} {u : ByteArray} (h : ∀ x ∈ B, ltT u x.f0 = true) : useL B u = 0 := by
  induction B with
  | nil => rfl
  | cons x B ih =>
    rw [useL, if_neg (fun e => lt_ne (h x List.mem_cons_self) e.symm)]
    exact ih fun y hy => h y (List.mem_cons_of_mem _ hy)
theorem addL_ahead {A : List Sh} {u : ByteArray} (h : ∀ x ∈ A, ltT x.f0 u = true) (B : List Sh) (n : Int) : addL (A ++ B) u n = A ++ addL B u n := by
  induction A with
  | nil => rfl
  | cons x A ih =>
    have hx := h x List.mem_cons_self
    rw [List.cons_append, addL, if_neg (lt_ne hx), if_neg (by rw [lt_as hx]; simp), ih fun y hy => h y (List.mem_cons_of_mem _ hy)]
    rfl
theorem addL_mem {l : List Sh} {u : ByteArray} {n : Int} {y : Sh} (h : y ∈ addL l u n) : y ∈ l ∨ y.f0.toList = u.toList := by
  induction l with
  | nil =>
    unfold addL at h
    split at h
    · cases h
    · rw [List.mem_singleton] at h
      subst h
      exact .inr rfl
  | cons x l ih =>
    unfold addL at h
    split at h
    · rcases List.mem_cons.1 h with rfl | h
      · right; assumption
      · exact .inl (List.mem_cons_of_mem _ h)
    · split at h
      · split at h
        · exact .inl h
        · rcases List.mem_cons.1 h with rfl | h
          · exact .inr rfl
          · exact .inl h
      · rcases List.mem_cons.1 h with rfl | h
        · exact .inl List.mem_cons_self
        · rcases ih h with h | h
          · exact .inl (List.mem_cons_of_mem _ h)
          · exact .inr h
theorem tl_eq {a b c : ByteArray} (h : a.toList = b.toList) : ltT a c = ltT b c ∧ ltT c a = ltT c b := by
  have : a = b := ba_inj.1 h
  subst this
  exact ⟨rfl, rfl⟩
theorem addL_sorted {l : List Sh} {u : ByteArray} {n : Int} (h : Sorted l) : Sorted (addL l u n) := by
  induction l with
  | nil =>
    unfold addL
    split
    · exact List.Pairwise.nil
    · exact List.pairwise_singleton _ _
  | cons x l ih =>
    obtain ⟨h1, h2⟩ := List.pairwise_cons.1 h
    unfold addL
    split
    · exact List.pairwise_cons.2 ⟨h1, h2⟩
    · next hne =>
      split
      · next hlt =>
        split
        · exact h
        · refine List.pairwise_cons.2 ⟨fun y hy => ?_, h⟩
          rcases List.mem_cons.1 hy with rfl | hy
          · exact hlt
          · exact lt_tr hlt (h1 y hy)
      · next hnl =>
        have hxu : ltT x.f0 u = true := lt_tot (by cases e : ltT u x.f0 with | false => rfl | true => exact absurd e hnl) (fun e => hne e.symm)
        refine List.pairwise_cons.2 ⟨fun y hy => ?_, ih h2⟩
        rcases addL_mem hy with hy | hy
        · exact h1 y hy
        · show ltT x.f0 y.f0 = true
          rw [(tl_eq hy).2]
          exact hxu
theorem addL_fine {l : List Sh} {u : ByteArray} {n : Int} (hl : ∀ x ∈ l, Fine x) (hu : nameP u = true) (h0 : 0 ≤ n) (h1 : n ≤ 1099511627776) : ∀ x ∈ addL l u n, Fine x := by
  induction l with
  | nil =>
    unfold addL
    split
    · intro x hx; cases hx
    · intro x hx
      rw [List.mem_singleton] at hx
      subst hx
      exact ⟨hu, by show 1 ≤ n; omega, h1⟩
  | cons x l ih =>
    have hx := hl x List.mem_cons_self
    have hl2 := fun y hy => hl y (List.mem_cons_of_mem x hy)
    unfold addL
    split
    · intro y hy
      rcases List.mem_cons.1 hy with rfl | hy
      · refine ⟨hx.1, ?_, ?_⟩
        · show 1 ≤ mnT (x.f1 + n)
          have := hx.2.1
          unfold mnT
          split <;> omega
        · show mnT (x.f1 + n) ≤ _
          unfold mnT
          split <;> omega
      · exact hl2 y hy
    · split
      · split
        · exact hl
        · intro y hy
          rcases List.mem_cons.1 hy with rfl | hy
          · exact ⟨hu, by show 1 ≤ n; omega, h1⟩
          · exact hl y hy
      · intro y hy
        rcases List.mem_cons.1 hy with rfl | hy
        · exact hx
        · exact ih hl2 y hy
theorem addL_len (l : List Sh) (u : ByteArray) (n : Int) : (addL l u n).length ≤ l.length + 1 := by
  induction l with
  | nil => unfold addL; split <;> simp
  | cons x l ih =>
    unfold addL
    split
    · simp
    · split
      · split <;> simp
      · simpa using ih
theorem useL_addL {l : List Sh} {u : ByteArray} {n : Int} (h : Sorted l) (hf : ∀ x ∈ l, Fine x) (h0 : 0 ≤ n) (h1 : n ≤ 1099511627776) (v : ByteArray) : useL (addL l u n) v = if u.toList = v.toList then mnT (useL l u + n) else useL l v := by
  have hmn : mnT (0 + n) = n := by unfold mnT; split <;> omega
  induction l with
  | nil =>
    unfold addL
    by_cases hn : n = 0
    · subst hn
      rw [if_pos rfl]
      simp [useL, mnT]
    · rw [if_neg hn]
      simp only [useL]
      rw [hmn]
  | cons x l ih =>
    obtain ⟨s1, s2⟩ := List.pairwise_cons.1 h
    have hf2 := fun y hy => hf y (List.mem_cons_of_mem x hy)
    unfold addL
    by_cases hxu : x.f0.toList = u.toList
    · rw [if_pos hxu]
      simp only [useL]
      rw [if_pos hxu, hxu]
      split <;> rfl
    · rw [if_neg hxu]
      by_cases hlt : ltT u x.f0 = true
      · rw [if_pos hlt]
        have hz : useL (x :: l) u = 0 := useL_over fun y hy => by
          rcases List.mem_cons.1 hy with rfl | hy
          · exact hlt
          · exact lt_tr hlt (s1 y hy)
        by_cases hn : n = 0
        · rw [if_pos hn]
          subst hn
          by_cases huv : u.toList = v.toList
          · rw [if_pos huv, hz]
            have : u = v := ba_inj.1 huv
            subst this
            rw [hz]
            rfl
          · rw [if_neg huv]
        · rw [if_neg hn, hz, hmn]
          rfl
      · rw [if_neg hlt]
        have e1 : useL (x :: l) u = useL l u := by rw [useL, if_neg hxu]
        rw [e1]
        have ih2 := ih s2 hf2
        show (if x.f0.toList = v.toList then x.f1 else useL (addL l u n) v) = _
        rw [ih2]
        by_cases hxv : x.f0.toList = v.toList
        · rw [if_pos hxv, if_neg (fun e => hxu (hxv.trans e.symm))]
          rw [useL, if_pos hxv]
        · rw [if_neg hxv, useL, if_neg hxv]
theorem useL_rng {l : List Sh} (hf : ∀ x ∈ l, Fine x) (u : ByteArray) : 0 ≤ useL l u ∧ useL l u ≤ 1099511627776 := by
  induction l with
  | nil => simp [useL]
  | cons x l ih =>
    rw [useL]
    have := hf x List.mem_cons_self
    split
    · exact ⟨by have := this.2.1; omega, this.2.2⟩
    · exact ih fun y hy => hf y (List.mem_cons_of_mem _ hy)
/-- Rows of which all users' uses are the same are the same. -/
theorem use_ext : ∀ {l m : List Sh}, Sorted l → Sorted m → (∀ x ∈ l, 1 ≤ x.f1) → (∀ x ∈ m, 1 ≤ x.f1) → (∀ v, useL l v = useL m v) → l = m
  | [], [], _, _, _, _, _ => rfl
  | [], y :: m, _, _, _, h2, he => by
    have := he y.f0
    rw [useL, useL, if_pos rfl] at this
    have := h2 y List.mem_cons_self
    omega
  | x :: l, [], _, _, h1, _, he => by
    have := he x.f0
    rw [useL, useL, if_pos rfl] at this
    have := h1 x List.mem_cons_self
    omega
  | x :: l, y :: m, s1, s2, h1, h2, he => by
    obtain ⟨a1, a2⟩ := List.pairwise_cons.1 s1
    obtain ⟨b1, b2⟩ := List.pairwise_cons.1 s2
    have hx := h1 x List.mem_cons_self
    have hy := h2 y List.mem_cons_self
    have key : x.f0.toList = y.f0.toList := by
      by_cases e : x.f0.toList = y.f0.toList
      · exact e
      exfalso
      cases hlt : ltT x.f0 y.f0 with
      | true =>
        have e1 := he x.f0
        rw [useL, if_pos rfl, useL_over (fun z hz => by
          rcases List.mem_cons.1 hz with rfl | hz
          · exact hlt
          · exact lt_tr hlt (b1 z hz))] at e1
        omega
      | false =>
        have hgt := lt_tot hlt e
        have e1 := he y.f0
        rw [useL_over (fun z hz => by
          rcases List.mem_cons.1 hz with rfl | hz
          · exact hgt
          · exact lt_tr hgt (a1 z hz)), useL, if_pos rfl] at e1
        omega
    have hn : x.f0 = y.f0 := ba_inj.1 key
    have hu := he x.f0
    rw [useL, if_pos rfl, useL, if_pos key.symm] at hu
    have hxy : x = y := by
      cases x
      cases y
      simp only at hn hu
      subst hn
      subst hu
      rfl
    subst hxy
    congr 1
    refine use_ext a2 b2 (fun z hz => h1 z (List.mem_cons_of_mem _ hz)) (fun z hz => h2 z (List.mem_cons_of_mem _ hz)) fun v => ?_
    by_cases hv : x.f0.toList = v.toList
    · have : x.f0 = v := ba_inj.1 hv
      subst this
      rw [useL_over a1, useL_over b1]
    · have := he v
      rw [useL, if_neg hv, useL, if_neg hv] at this
      exact this
/-- Where a user is, of a sorted row. -/
theorem half_spec {l : List Sh} {u : ByteArray} (hs : Sorted l) : ∀ d i j, i ≤ j → j ≤ l.length → j ≤ d + i → (∀ k, k < i → ltT (l.getD k z52).f0 u = true) → (∀ k, j ≤ k → k < l.length → ltT (l.getD k z52).f0 u = false) →
    (∀ k, k < halfT l u d i j → ltT (l.getD k z52).f0 u = true) ∧ (∀ k, halfT l u d i j ≤ k → k < l.length → ltT (l.getD k z52).f0 u = false)
  | 0, i, j, h1, h2, h3, h4, h5 => by
    obtain rfl : i = j := by omega
    exact ⟨h4, h5⟩
  | d + 1, i, j, h1, h2, h3, h4, h5 => by
    have le : ∀ a b, a ≤ b → b < l.length → ltT (l.getD b z52).f0 u = true → ltT (l.getD a z52).f0 u = true := fun a b hab hb hlt => by
      by_cases e : a = b
      · subst e; exact hlt
      · rw [getD_mem (by omega)]
        rw [getD_mem hb] at hlt
        exact lt_tr (List.pairwise_iff_getElem.1 hs a b (by omega) hb (by omega)) hlt
    unfold halfT
    by_cases hij : i < j
    · rw [if_pos hij]
      by_cases hc : cmpT (l.getD ((i + j) / 2) z52).f0 u < 0
      · rw [if_pos hc]
        have hc := (cmp_lt _ _).1 hc
        exact half_spec hs d _ j (by omega) h2 (by omega) (fun k hk => le k ((i + j) / 2) (by omega) (by omega) hc) h5
      · rw [if_neg hc]
        have hc : ltT (l.getD ((i + j) / 2) z52).f0 u = false := by
          cases e : ltT (l.getD ((i + j) / 2) z52).f0 u with
          | false => rfl
          | true => exact absurd ((cmp_lt _ _).2 e) hc
        refine half_spec hs d i _ (by omega) (by omega) (by omega) h4 (fun k hk hkl => ?_)
        cases e : ltT (l.getD k z52).f0 u with
        | false => rfl
        | true =>
          have := le ((i + j) / 2) k hk hkl e
          rw [hc] at this
          cases this
    · rw [if_neg hij]
      obtain rfl : i = j := by omega
      exact ⟨h4, h5⟩
/-- A sorted row, cut where a user is, or should be. -/
theorem place_cut {l : List Sh} (hs : Sorted l) (u : ByteArray) : (∀ x ∈ l.take (placeI l u), ltT x.f0 u = true) ∧ (∀ x ∈ l.drop (placeI l u), ltT x.f0 u = false) := by
  obtain ⟨h1, h2⟩ := half_spec (u := u) hs l.length 0 l.length (Nat.zero_le _) (Nat.le_refl _) (Nat.le_refl _) (fun k hk => by omega) (fun k hk hkl => by omega)
  have hle := halfT_le l u
  constructor
  · intro x hx
    obtain ⟨i, hi, rfl⟩ := List.getElem_of_mem hx
    rw [List.length_take] at hi
    have := h1 i (by show i < placeI l u; omega)
    rw [getD_mem (by omega)] at this
    rw [List.getElem_take]
    exact this
  · intro x hx
    obtain ⟨i, hi, rfl⟩ := List.getElem_of_mem hx
    rw [List.length_drop] at hi
    have := h2 (placeI l u + i) (Nat.le_add_right _ _) (by omega)
    rw [getD_mem (by omega)] at this
    rw [List.getElem_drop]
    exact this
end Go.Proofs.Ytjhpgfgpchgabaa.Pure
