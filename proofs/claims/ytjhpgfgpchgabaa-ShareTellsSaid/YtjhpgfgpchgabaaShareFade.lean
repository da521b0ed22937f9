/- What Fade tells, in plain rows: all uses halved, again and again, and those that are nothing left out. -/
import Derived.Test.YtjhpgfgpchgabaaShareAdd
namespace Go.Proofs.Ytjhpgfgpchgabaa.Pure
open Go.RowKit Go.Proofs.Ytjhpgfgpchgabaa.P Go.Proofs.YtjhpgfgpchgabaaW.PrintWords Go.Proofs.YtjhpgfgpchgabaaW.PrintLast
set_option linter.unusedVariables false
set_option linter.unusedSimpArgs false

/-- A share, halved k times. -/
def hv (k : Nat) (x : Sh) : Sh := ⟨x.f0, x.f1 / 2 ^ k⟩
def fadeL (k : Nat) (l : List Sh) : List Sh := (l.map (hv k)).filter usedP
theorem pow_pos2 (k : Nat) : (0 : Int) < 2 ^ k := Int.pow_pos (by omega)
theorem div_pow (x : Int) (k j : Nat) : x / 2 ^ k / 2 ^ j = x / 2 ^ (k + j) := by
  rw [Int.ediv_ediv_of_nonneg (Int.le_of_lt (pow_pos2 k)), ← Int.pow_add]
theorem halved_eq {l : List Sh} (h : ∀ x ∈ l, 0 ≤ x.f1) : ∀ k, halved k l = l.map (hv k)
  | 0 => by
    show l = _
    have : ∀ x ∈ l, hv 0 x = x := fun x _ => by
      cases x
      unfold hv
      simp
    rw [List.map_congr_left this]
    simp
  | k + 1 => by
    show (halved k l).map halfX = _
    rw [halved_eq h k, List.map_map]
    refine List.map_congr_left fun x hx => ?_
    show (⟨x.f0, Int.tdiv (x.f1 / 2 ^ k) 2⟩ : Sh) = ⟨x.f0, x.f1 / 2 ^ (k + 1)⟩
    rw [Int.tdiv_eq_ediv_of_nonneg (Int.ediv_nonneg (h x hx) (Int.le_of_lt (pow_pos2 k))), ← div_pow x.f1 k 1, Int.pow_one]
theorem used_iff (x : Sh) : usedP x = true ↔ 0 < x.f1 := by unfold usedP; simp
theorem fadeL_cons (k : Nat) (x : Sh) (l : List Sh) : fadeL k (x :: l) = if 0 < x.f1 / 2 ^ k then hv k x :: fadeL k l else fadeL k l := by
  unfold fadeL
  rw [List.map_cons, List.filter_cons]
  by_cases h : 0 < x.f1 / 2 ^ k
  · rw [if_pos h, if_pos ((used_iff (hv k x)).2 h)]
  · rw [if_neg h, if_neg (fun e => h ((used_iff (hv k x)).1 e))]
theorem fade_fade {l : List Sh} (h : ∀ x ∈ l, 0 ≤ x.f1) (k j : Nat) : fadeL j (fadeL k l) = fadeL (k + j) l := by
  induction l with
  | nil => rfl
  | cons x l ih =>
    have hx := h x List.mem_cons_self
    have ih := ih fun y hy => h y (List.mem_cons_of_mem _ hy)
    rw [fadeL_cons k, fadeL_cons (k + j)]
    by_cases h1 : 0 < x.f1 / 2 ^ k
    · rw [if_pos h1, fadeL_cons]
      show (if 0 < x.f1 / 2 ^ k / 2 ^ j then hv j (hv k x) :: _ else _) = _
      have e : hv j (hv k x) = hv (k + j) x := by
        show (⟨x.f0, x.f1 / 2 ^ k / 2 ^ j⟩ : Sh) = ⟨x.f0, _⟩
        rw [div_pow]
      rw [div_pow, ih, e]
    · rw [if_neg h1, ih, if_neg]
      rw [← div_pow]
      have h0 : x.f1 / 2 ^ k = 0 := by
        have := Int.ediv_nonneg hx (Int.le_of_lt (pow_pos2 k))
        omega
      rw [h0]
      simp
theorem fade_zero {l : List Sh} (h : ∀ x ∈ l, 0 < x.f1) : fadeL 0 l = l := by
  unfold fadeL
  have : ∀ x ∈ l, hv 0 x = x := fun x _ => by
    cases x
    unfold hv
    simp
  rw [List.map_congr_left this, List.map_id', used_all h]
theorem big_div {x : Int} (h0 : 0 ≤ x) (h1 : x ≤ 1099511627776) {k : Nat} (hk : 41 ≤ k) : x / 2 ^ k = 0 := by
  refine Int.ediv_eq_zero_of_lt h0 ?_
  have : (2 : Int) ^ 41 ≤ 2 ^ k := two_pow_le hk
  have e : (2 : Int) ^ 41 = 2199023255552 := by decide
  omega
theorem fade_big {l : List Sh} (h : ∀ x ∈ l, 0 ≤ x.f1 ∧ x.f1 ≤ 1099511627776) {k : Nat} (hk : 41 ≤ k) : fadeL k l = [] := by
  induction l with
  | nil => rfl
  | cons x l ih =>
    have hx := h x List.mem_cons_self
    rw [fadeL_cons, big_div hx.1 hx.2 hk, if_neg (by omega)]
    exact ih fun y hy => h y (List.mem_cons_of_mem _ hy)
theorem fine_pos {l : List Sh} (h : Good l) : (∀ x ∈ l, 0 ≤ x.f1) ∧ (∀ x ∈ l, 0 < x.f1) ∧ (∀ x ∈ l, 0 ≤ x.f1 ∧ x.f1 ≤ 1099511627776) :=
  ⟨fun x hx => by have := (h.fine x hx).2.1; omega, fun x hx => by have := (h.fine x hx).2.1; omega, fun x hx => ⟨by have := (h.fine x hx).2.1; omega, (h.fine x hx).2.2⟩⟩
theorem div_le_self {x : Int} (h : 0 ≤ x) (k : Nat) : x / 2 ^ k ≤ x := Int.ediv_le_self _ h
theorem fade_good {l : List Sh} (h : Good l) (k : Nat) : Good (fadeL k l) := by
  refine ⟨?_, ?_, ?_⟩
  · unfold fadeL Sorted
    refine List.Pairwise.filter _ ?_
    rw [List.pairwise_map]
    exact h.sorted
  · intro y hy
    unfold fadeL at hy
    obtain ⟨hy, hu⟩ := List.mem_filter.1 hy
    obtain ⟨x, hx, rfl⟩ := List.mem_map.1 hy
    have f := h.fine x hx
    have hp := (used_iff _).1 hu
    refine ⟨f.1, by omega, ?_⟩
    show x.f1 / 2 ^ k ≤ _
    have := div_le_self (x := x.f1) (by have := f.2.1; omega) k
    have := f.2.2
    omega
  · have := List.length_filter_le usedP (l.map (hv k))
    rw [List.length_map] at this
    have := h.len
    show ((l.map (hv k)).filter usedP).length ≤ 100
    omega
theorem useL_fade {l : List Sh} (h : Sorted l) (hf : ∀ x ∈ l, 0 ≤ x.f1) (k : Nat) (u : ByteArray) : useL (fadeL k l) u = useL l u / 2 ^ k := by
  induction l with
  | nil => simp [fadeL, useL]
  | cons x l ih =>
    obtain ⟨s1, s2⟩ := List.pairwise_cons.1 h
    have ih := ih s2 fun y hy => hf y (List.mem_cons_of_mem _ hy)
    rw [fadeL_cons]
    by_cases hx : x.f0.toList = u.toList
    · rw [show useL (x :: l) u = x.f1 by rw [useL, if_pos hx]]
      by_cases h1 : 0 < x.f1 / 2 ^ k
      · rw [if_pos h1]
        show (if x.f0.toList = u.toList then x.f1 / 2 ^ k else _) = _
        rw [if_pos hx]
      · rw [if_neg h1, ih]
        have : x.f0 = u := ba_inj.1 hx
        subst this
        rw [useL_over s1]
        have := Int.ediv_nonneg (hf x List.mem_cons_self) (Int.le_of_lt (pow_pos2 k))
        simp
        omega
    · rw [show useL (x :: l) u = useL l u by rw [useL, if_neg hx]]
      by_cases h1 : 0 < x.f1 / 2 ^ k
      · rw [if_pos h1]
        show (if x.f0.toList = u.toList then x.f1 / 2 ^ k else _) = _
        rw [if_neg hx, ih]
      · rw [if_neg h1, ih]
theorem fadeR_eq {l : List Sh} (h : Good l) {a b c : Int} (ha : quantP a = true) (hb : quantP b = true) (hc : quantP c = true) : fadeR l a b c = (fadeL (fadeN a b c) l, 0) := by
  unfold fadeR
  rw [if_pos (by rw [ha, hb, hc]; rfl), if_pos (ok_true h), halved_eq (fine_pos h).1]
  rfl
theorem fadeN_eq {a b c : Int} (h0 : 0 ≤ a) (hab : a ≤ b) : (fadeN a b c : Int) = if 0 < c then (if b / c - a / c < 64 then b / c - a / c else 64) else 0 := by
  unfold fadeN
  by_cases hc : 0 < c
  · rw [if_pos hc]
    have e1 : Int.tdiv b c = b / c := Int.tdiv_eq_ediv_of_nonneg (by omega)
    have e2 : Int.tdiv a c = a / c := Int.tdiv_eq_ediv_of_nonneg h0
    have le : a / c ≤ b / c := Int.ediv_le_ediv hc hab
    by_cases h : a < b
    · rw [if_pos ⟨hc, h⟩, e1, e2]
      split
      · rw [Int.toNat_of_nonneg (by omega)]
      · rfl
    · obtain rfl : a = b := by omega
      rw [if_neg (fun h2 => h h2.2)]
      simp
  · rw [if_neg hc, if_neg (fun h => hc h.1)]
    rfl
/-- To fade twice is to fade at once. -/
theorem fade_twice {l : List Sh} (h : Good l) {a b c d : Int} (h0 : 0 ≤ a) (hab : a ≤ b) (hbc : b ≤ c) : fadeL (fadeN b c d) (fadeL (fadeN a b d) l) = fadeL (fadeN a c d) l := by
  obtain ⟨p0, p1, p2⟩ := fine_pos h
  rw [fade_fade p0]
  have e1 := fadeN_eq (c := d) h0 hab
  have e2 := fadeN_eq (c := d) (show 0 ≤ b by omega) hbc
  have e3 := fadeN_eq (c := d) h0 (show a ≤ c by omega)
  by_cases hd : 0 < d
  · rw [if_pos hd] at e1 e2 e3
    have le1 : a / d ≤ b / d := Int.ediv_le_ediv hd hab
    have le2 : b / d ≤ c / d := Int.ediv_le_ediv hd hbc
    by_cases hs : fadeN a b d + fadeN b c d = fadeN a c d
    · rw [hs]
    · rw [fade_big p2 (k := fadeN a b d + fadeN b c d), fade_big p2 (k := fadeN a c d)]
      · (repeat' split at e1) <;> (repeat' split at e2) <;> (repeat' split at e3) <;> omega
      · (repeat' split at e1) <;> (repeat' split at e2) <;> (repeat' split at e3) <;> omega
  · rw [if_neg hd] at e1 e2 e3
    congr 1
    omega
end Go.Proofs.Ytjhpgfgpchgabaa.Pure
