/- Profiles that may be, and what At and Least tell of them. -/
import Derived.Test.YthbonmpkjkihgaaEv
import Derived.Test.YthbonmpkjkihgaaPx
namespace Go.Proofs.Ythbonmpkjkihgaa.Pure
open Go.RowKit Go.Proofs.Ythbonmpkjkihgaa.P Go.Proofs.YthbonmpkjkihgaaW.PrintWords Go.Proofs.YthbonmpkjkihgaaW.PrintLast
set_option linter.unusedVariables false
set_option linter.unusedSimpArgs false

/-- What a profile tells of a time. -/
def atT (t : Int) : List (Int × Int × Int) → Int := List.foldl (fun n x => if x.1 ≤ t then x.2.2 else n) 0
/-- A profile that may be. -/
structure Val (a n : List Int) : Prop where
  len : a.length = n.length
  pos : 1 ≤ a.length
  zero : a.getD 0 0 = 0
  qa : ∀ x ∈ a, 0 ≤ x ∧ x ≤ 1099511627776
  qn : ∀ x ∈ n, 0 ≤ x ∧ x ≤ 1099511627776
  rise : ∀ j, j + 1 < a.length → a.getD j 0 < a.getD (j + 1) 0
theorem rd_nat (l : List Int) (i : Nat) : rd l (i : Int) = l.getD i 0 := by simp [rd]
theorem badQ_iff (x : Int) : badQ x = false ↔ 0 ≤ x ∧ x ≤ 1099511627776 := by
  unfold badQ clampT
  rw [bne_eq_false_iff_eq]
  constructor
  · intro h
    split at h
    · omega
    · split at h <;> omega
  · intro h
    rw [if_neg (by omega), if_neg (by omega)]
theorem any_badQ {l : List Int} (h : l.any badQ = false) : ∀ x ∈ l, 0 ≤ x ∧ x ≤ 1099511627776 := by
  intro x hx
  rw [List.any_eq_false] at h
  exact (badQ_iff x).1 (by simpa using h x hx)
theorem check_l (a n : List Int) (ha : a.length ≤ 2000) (h1 : 1 ≤ a.length) (d : Nat) : ∀ i : Nat, i + d = (a.drop 1).length →
    ∃ e, Ev (fun k => steps_Check.l0 k (a.drop 1) ((a.drop 1).length : Int) (i : Int) a n) e ∧ (e = 0 → ∀ j, i ≤ j → j + 1 < a.length → a.getD j 0 < a.getD (j + 1) 0) := by
  have hl : (a.drop 1).length = a.length - 1 := List.length_drop
  induction d with
  | zero =>
    intro i hi
    refine ⟨0, Ev.succ ?_, fun _ j h2 h3 => by omega⟩
    simp only [steps_Check.l0]
    exact Ev.neg (by omega) (Ev.const rfl)
  | succ d ih =>
    intro i hi
    have e1 : rd (a.drop 1) (i : Int) = a.getD (i + 1) 0 := by rw [rd_nat]; simp [List.getD_eq_getElem?_getD, Nat.add_comm]
    have e2 := rd_nat a i
    have hw : wrap64 ((i : Int) + 1) = ((i + 1 : Nat) : Int) := by unfold wrap64; omega
    by_cases hc : a.getD (i + 1) 0 ≤ a.getD i 0
    · refine ⟨2, Ev.succ ?_, fun h => by cases h⟩
      simp only [steps_Check.l0]
      rw [e1, e2]
      exact Ev.pos (by omega) (Ev.pos (by omega) (Ev.pos (by omega) (Ev.pos (by omega) (Ev.pos hc (Ev.const rfl)))))
    · obtain ⟨e, h2, h3⟩ := ih (i + 1) (by omega)
      refine ⟨e, Ev.succ ?_, fun h0 j h4 h5 => ?_⟩
      · simp only [steps_Check.l0]
        rw [e1, e2, hw]
        exact Ev.pos (by omega) (Ev.pos (by omega) (Ev.pos (by omega) (Ev.pos (by omega) (Ev.neg hc h2))))
      · by_cases hj : j = i
        · subst hj; omega
        · exact h3 h0 j (by omega) h5
theorem check_ev (a n : List Int) (ha : a.length ≤ 2000) : ∃ e, Ev (fun k => steps_Check.f k a n) e ∧ (e = 0 → Val a n) := by
  have hbad : Ev (fun k => steps_Check.j0 k true a n) 2 := by
    refine Ev.succ ?_
    simp only [steps_Check.j0]
    exact Ev.pos (by trivial) (Ev.const rfl)
  unfold steps_Check.f
  by_cases h1 : a.length = n.length
  case neg => exact ⟨2, Ev.neg (by omega) hbad, fun h => by cases h⟩
  by_cases h2 : 1 ≤ a.length
  case neg => exact ⟨2, Ev.pos (by omega) (Ev.pos (by omega) hbad), fun h => by cases h⟩
  have h3 : rd a 0 = a.getD 0 0 := rd_nat a 0
  by_cases h4 : a.getD 0 0 = 0
  case neg => exact ⟨2, Ev.pos (by omega) (Ev.neg (by omega) (Ev.neg (by omega) (Ev.pos (by omega) (Ev.neg (by omega) hbad)))), fun h => by cases h⟩
  cases h5 : a.any badQ with
  | true =>
    refine ⟨2, Ev.pos (by omega) (Ev.neg (by omega) (Ev.neg (by omega) (Ev.pos (by omega) (Ev.pos (by omega) (Ev.eq_bind (a := false) (by unfold steps_quantity.f; rw [h5]; rfl) (Ev.neg (by decide) hbad)))))), fun h => by cases h⟩
  | false =>
    cases h6 : n.any badQ with
    | true =>
      refine ⟨2, Ev.pos (by omega) (Ev.neg (by omega) (Ev.neg (by omega) (Ev.pos (by omega) (Ev.pos (by omega) (Ev.eq_bind (a := true) (by unfold steps_quantity.f; rw [h5]; rfl) (Ev.pos (by trivial) (Ev.eq_bind (a := false) (by unfold steps_quantity.f; rw [h6]; rfl) hbad))))))), fun h => by cases h⟩
    | false =>
      obtain ⟨e, h7, h8⟩ := check_l a n ha h2 (a.drop 1).length 0 (by omega)
      refine ⟨e, Ev.pos (by omega) (Ev.neg (by omega) (Ev.neg (by omega) (Ev.pos (by omega) (Ev.pos (by omega) (Ev.eq_bind (a := true) (by unfold steps_quantity.f; rw [h5]; rfl) (Ev.pos (by trivial) (Ev.eq_bind (a := true) (by unfold steps_quantity.f; rw [h6]; rfl) ?_))))))), fun h0 => ⟨h1, h2, h4, any_badQ h5, any_badQ h6, fun j hj => h8 h0 j (by omega) hj⟩⟩
      refine Ev.succ ?_
      simp only [steps_Check.j0]
      exact Ev.neg (by decide) (Ev.pos (by omega) h7)
/-- Spans behind one another, up to the top. -/
def Chain : Int → List (Int × Int × Int) → Prop
  | s, [] => s = 1099511627777
  | s, x :: l => x.1 = s ∧ x.1 < x.2.1 ∧ Chain x.2.1 l
theorem chain_spans {a n : List Int} (h : Val a n) (d : Nat) : ∀ i, i + d = a.length → 0 < d → Chain (a.getD i 0) ((List.range' i d).map (spanAt a n)) := by
  induction d with
  | zero => intro i _ h0; omega
  | succ d ih =>
    intro i hi _
    rw [List.range'_succ, List.map_cons]
    by_cases h1 : i + 1 < a.length
    · have h2 := h.rise i h1
      have e : (spanAt a n i).2.1 = a.getD (i + 1) 0 := by unfold spanAt; simp only [if_pos h1]
      refine ⟨rfl, by rw [e]; exact h2, ?_⟩
      rw [e]
      exact ih (i + 1) (by omega) (by omega)
    · have hd : d = 0 := by omega
      subst hd
      have e : (spanAt a n i).2.1 = 1099511627777 := by unfold spanAt; simp only [if_neg h1]
      have hq : a.getD i 0 ≤ 1099511627776 := by
        have hil : i < a.length := by omega
        have := h.qa (a.getD i 0) (by rw [List.getD_eq_getElem?_getD, List.getElem?_eq_getElem hil]; exact List.getElem_mem hil)
        exact this.2
      exact ⟨rfl, by rw [e]; show a.getD i 0 < _; omega, e⟩
theorem spans_chain {a n : List Int} (h : Val a n) : Chain 0 (spansT a n) := by
  have := chain_spans h a.length 0 (by omega) (by have := h.pos; omega)
  rw [h.zero] at this
  unfold spansT
  rw [List.range_eq_range']
  exact this
theorem spans_val {a n : List Int} (h : Val a n) : ∀ x ∈ spansT a n, 0 ≤ x.2.2 ∧ x.2.2 ≤ 1099511627776 := by
  intro x hx
  unfold spansT at hx
  obtain ⟨i, hi, rfl⟩ := List.mem_map.1 hx
  have hil : i < n.length := by have := List.mem_range.1 hi; have := h.len; omega
  exact h.qn _ (by show n.getD i 0 ∈ n; rw [List.getD_eq_getElem?_getD, List.getElem?_eq_getElem hil]; exact List.getElem_mem hil)
def atD (t d : Int) (l : List (Int × Int × Int)) : Int := l.foldl (fun n x => if x.1 ≤ t then x.2.2 else n) d
theorem chain_le : ∀ {l : List (Int × Int × Int)} {s : Int}, Chain s l → s ≤ 1099511627777 ∧ ∀ x ∈ l, s ≤ x.1 ∧ x.1 < x.2.1 ∧ x.2.1 ≤ 1099511627777
  | [], s, h => ⟨by have : s = 1099511627777 := h; omega, fun x hx => by simp at hx⟩
  | y :: l, s, h => by
    obtain ⟨h1, h2, h3⟩ := h
    obtain ⟨h4, h5⟩ := chain_le h3
    refine ⟨by omega, fun x hx => ?_⟩
    rcases List.mem_cons.1 hx with rfl | hx
    · exact ⟨by omega, h2, h4⟩
    · have := h5 x hx; exact ⟨by omega, this.2.1, this.2.2⟩
theorem at_low : ∀ {l : List (Int × Int × Int)} {s t : Int} (d : Int), Chain s l → t < s → atD t d l = d
  | [], _, _, _, _, _ => rfl
  | y :: l, s, t, d, h, ht => by
    have h1 := h.1
    have h2 := h.2.1
    show atD t (if y.1 ≤ t then y.2.2 else d) l = d
    rw [if_neg (by omega)]
    exact at_low d h.2.2 (by omega)
theorem at_of : ∀ {l : List (Int × Int × Int)} {s t : Int} (d : Int), Chain s l → ∀ x ∈ l, x.1 ≤ t → t < x.2.1 → atD t d l = x.2.2
  | [], _, _, _, _, x, hx, _, _ => by simp at hx
  | y :: l, s, t, d, h, x, hx, h1, h2 => by
    show atD t (if y.1 ≤ t then y.2.2 else d) l = x.2.2
    rcases List.mem_cons.1 hx with rfl | hx
    · rw [if_pos h1]
      exact at_low _ h.2.2 h2
    · exact at_of _ h.2.2 x hx h1 h2
theorem at_in : ∀ {l : List (Int × Int × Int)} {s t : Int}, Chain s l → s ≤ t → t ≤ 1099511627776 → ∃ x, x ∈ l ∧ x.1 ≤ t ∧ t < x.2.1
  | [], s, t, h, h1, h2 => by have : s = 1099511627777 := h; omega
  | y :: l, s, t, h, h1, h2 => by
    by_cases h3 : t < y.2.1
    · exact ⟨y, by simp, by have := h.1; omega, h3⟩
    · obtain ⟨x, hx, h4⟩ := at_in h.2.2 (show y.2.1 ≤ t by omega) h2
      exact ⟨x, by simp [hx], h4⟩
theorem mx_le {a b c : Int} : mx a b ≤ c ↔ a ≤ c ∧ b ≤ c := by unfold mx; split <;> omega
theorem lt_mn {a b c : Int} : c < mn a b ↔ c < a ∧ c < b := by unfold mn; split <;> omega
theorem least_fold (lo hi : Int) : ∀ (l : List (Int × Int × Int)) (m : Int),
    l.foldl (fun m x => if mx x.1 lo < mn x.2.1 hi then mn m x.2.2 else m) m ≤ m ∧ (∀ x ∈ l, mx x.1 lo < mn x.2.1 hi → l.foldl (fun m x => if mx x.1 lo < mn x.2.1 hi then mn m x.2.2 else m) m ≤ x.2.2) ∧
    (l.foldl (fun m x => if mx x.1 lo < mn x.2.1 hi then mn m x.2.2 else m) m = m ∨ ∃ x ∈ l, mx x.1 lo < mn x.2.1 hi ∧ l.foldl (fun m x => if mx x.1 lo < mn x.2.1 hi then mn m x.2.2 else m) m = x.2.2)
  | [], m => ⟨Int.le_refl _, fun x hx => by simp at hx, .inl rfl⟩
  | y :: l, m => by
    obtain ⟨h1, h2, h3⟩ := least_fold lo hi l (if mx y.1 lo < mn y.2.1 hi then mn m y.2.2 else m)
    rw [List.foldl_cons]
    generalize l.foldl (fun m x => if mx x.1 lo < mn x.2.1 hi then mn m x.2.2 else m) (if mx y.1 lo < mn y.2.1 hi then mn m y.2.2 else m) = r at *
    by_cases hy : mx y.1 lo < mn y.2.1 hi
    · rw [if_pos hy] at h1 h3
      have hm : mn m y.2.2 ≤ m ∧ mn m y.2.2 ≤ y.2.2 ∧ (mn m y.2.2 = m ∨ mn m y.2.2 = y.2.2) := by unfold mn; split <;> omega
      refine ⟨by omega, fun x hx hxo => ?_, ?_⟩
      · rcases List.mem_cons.1 hx with rfl | hx
        · omega
        · exact h2 x hx hxo
      · rcases h3 with h3 | ⟨x, hx, h4, h5⟩
        · rcases hm.2.2 with h6 | h6
          · exact .inl (by omega)
          · exact .inr ⟨y, by simp, hy, by omega⟩
        · exact .inr ⟨x, by simp [hx], h4, h5⟩
    · rw [if_neg hy] at h1 h3
      refine ⟨h1, fun x hx hxo => ?_, ?_⟩
      · rcases List.mem_cons.1 hx with rfl | hx
        · exact absurd hxo hy
        · exact h2 x hx hxo
      · rcases h3 with h3 | ⟨x, hx, h4, h5⟩
        · exact .inl h3
        · exact .inr ⟨x, by simp [hx], h4, h5⟩
/-- The least number of a window is one that there is at a time in it. -/
theorem least_spec {a n : List Int} (h : Val a n) (lo hi : Int) (h0 : 0 ≤ lo) :
    leastT lo hi (spansT a n) ≤ 1099511627776 ∧ (∀ t, lo ≤ t → t < hi → t ≤ 1099511627776 → leastT lo hi (spansT a n) ≤ atT t (spansT a n)) ∧
    (leastT lo hi (spansT a n) = 1099511627776 ∨ ∃ t, lo ≤ t ∧ t < hi ∧ t ≤ 1099511627776 ∧ atT t (spansT a n) = leastT lo hi (spansT a n)) := by
  have hc := spans_chain h
  obtain ⟨h1, h2, h3⟩ := least_fold lo hi (spansT a n) 1099511627776
  refine ⟨h1, fun t ht1 ht2 ht3 => ?_, ?_⟩
  · obtain ⟨x, hx, h4, h5⟩ := at_in hc (show 0 ≤ t by omega) ht3
    have e : atT t (spansT a n) = x.2.2 := at_of 0 hc x hx h4 h5
    rw [e]
    refine h2 x hx ?_
    have h6 : mx x.1 lo ≤ t := mx_le.2 ⟨h4, ht1⟩
    have h7 : t < mn x.2.1 hi := lt_mn.2 ⟨h5, ht2⟩
    omega
  · rcases h3 with h3 | ⟨x, hx, h4, h5⟩
    · exact .inl h3
    · have h6 := lt_mn.1 h4
      have h7 : x.1 ≤ mx x.1 lo ∧ lo ≤ mx x.1 lo := mx_le.1 (Int.le_refl _)
      have h8 := (chain_le hc).2 x hx
      exact .inr ⟨mx x.1 lo, h7.2, h6.2, by omega, (at_of 0 hc x hx h7.1 h6.1).trans h5.symm⟩
theorem at_rng {a n : List Int} (h : Val a n) (t : Int) (h0 : 0 ≤ t) (h1 : t ≤ 1099511627776) : 0 ≤ atT t (spansT a n) ∧ atT t (spansT a n) ≤ 1099511627776 := by
  obtain ⟨x, hx, h4, h5⟩ := at_in (spans_chain h) h0 h1
  have e : atT t (spansT a n) = x.2.2 := at_of 0 (spans_chain h) x hx h4 h5
  rw [e]
  exact spans_val h x hx
end Go.Proofs.Ythbonmpkjkihgaa.Pure
