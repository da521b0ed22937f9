/- What Take, Give, Same come to. -/
import Derived.Test.YthbonmpkjkihgaaStepsTurn
namespace Go.Proofs.Ythbonmpkjkihgaa.Pure
open Go.RowKit Go.Proofs.Ythbonmpkjkihgaa.P Go.Proofs.YthbonmpkjkihgaaW.PrintWords Go.Proofs.YthbonmpkjkihgaaW.PrintLast
set_option linter.unusedVariables false
set_option linter.unusedSimpArgs false

theorem ev_uniq {α : Type} {g : Nat → Option α} {r r' : α} (h1 : Ev g r) (h2 : Ev g r') : r = r' := by
  obtain ⟨K, hK⟩ := h1
  obtain ⟨L, hL⟩ := h2
  have a1 := hK (K + L) (by omega)
  have a2 := hL (K + L) (by omega)
  rw [a1] at a2
  exact Option.some.inj a2
theorem any_ok {l : List Int} (h : ∀ x ∈ l, 0 ≤ x ∧ x ≤ 1099511627776) : l.any badQ = false := by
  rw [List.any_eq_false]
  intro x hx
  rw [(badQ_iff x).2 (h x hx)]
  decide
theorem check_ok_l (a n : List Int) (ha : a.length ≤ 2000) (h1 : 1 ≤ a.length) (hr : ∀ j, j + 1 < a.length → a.getD j 0 < a.getD (j + 1) 0) (d : Nat) : ∀ i : Nat, i + d = (a.drop 1).length →
    Ev (fun k => steps_Check.l0 k (a.drop 1) ((a.drop 1).length : Int) (i : Int) a n) 0 := by
  have hl : (a.drop 1).length = a.length - 1 := List.length_drop
  induction d with
  | zero =>
    intro i hi
    refine Ev.succ ?_
    simp only [steps_Check.l0]
    exact Ev.neg (by omega) (Ev.const rfl)
  | succ d ih =>
    intro i hi
    have e1 : rd (a.drop 1) (i : Int) = a.getD (i + 1) 0 := by rw [rd_nat]; simp [List.getD_eq_getElem?_getD, Nat.add_comm]
    have e2 := rd_nat a i
    have hw : wrap64 ((i : Int) + 1) = ((i + 1 : Nat) : Int) := by unfold wrap64; omega
    have h2 := hr i (by omega)
    refine Ev.succ ?_
    simp only [steps_Check.l0]
    rw [e1, e2, hw]
    exact Ev.pos (by omega) (Ev.pos (by omega) (Ev.pos (by omega) (Ev.pos (by omega) (Ev.neg (by omega) (ih (i + 1) (by omega))))))
theorem check_ok {a n : List Int} (h : Val a n) (ha : a.length ≤ 2000) : Ev (fun k => steps_Check.f k a n) 0 := by
  have h3 : rd a 0 = 0 := (rd_nat a 0).trans h.zero
  have h1 := h.len
  have h2 := h.pos
  unfold steps_Check.f
  refine Ev.pos (by omega) (Ev.neg (by omega) (Ev.neg (by omega) (Ev.pos (by omega) (Ev.pos h3 (Ev.eq_bind (a := true) (by unfold steps_quantity.f; rw [any_ok h.qa]; rfl) (Ev.pos (by trivial) (Ev.eq_bind (a := true) (by unfold steps_quantity.f; rw [any_ok h.qn]; rfl) ?_)))))))
  refine Ev.succ ?_
  simp only [steps_Check.j0]
  exact Ev.neg (by decide) (Ev.pos (by omega) (check_ok_l a n ha h2 h.rise (a.drop 1).length 0 (by omega)))
theorem quants {x y z : Int} (hx : 0 ≤ x ∧ x ≤ 1099511627776) (hy : 0 ≤ y ∧ y ≤ 1099511627776) (hz : 0 ≤ z ∧ z ≤ 1099511627776) : (badQ x || badQ y || badQ z) = false := by
  rw [(badQ_iff x).2 hx, (badQ_iff y).2 hy, (badQ_iff z).2 hz]; rfl
theorem take_ev {a n : List Int} (h : Val a n) (ha : a.length ≤ 2000) {lo hi m : Int} (hx : 0 ≤ lo ∧ lo ≤ 1099511627776) (hy : 0 ≤ hi ∧ hi ≤ 1099511627776) (hz : 0 ≤ m ∧ m ≤ 1099511627776) :
    Ev (fun k => steps_Take.f k a n lo hi m) (resT (turnL lo hi (takeF m) (spansT a n))) := by
  unfold steps_Take.f
  exact Ev.bind (check_ok h ha) (Ev.pos ⟨rfl, quants hx hy hz⟩ (Ev.pos ⟨h.len.symm, by omega⟩ (Ev.const rfl)))
theorem resT_some {o : List (Int × Int)} (h : o.length ≤ 2000) : resT (some o) = (o.map (·.1), o.map (·.2), 0) := by
  unfold resT
  dsimp only
  rw [if_neg (by omega)]
theorem out_len {a n : List Int} {lo hi : Int} {doF : Int → Int × Bool} {o : List (Int × Int)} (h : turnL lo hi doF (spansT a n) = some o) : o.length ≤ 3 * a.length := by
  have := turnL_length _ _ _ _ _ h
  rwa [spansT_length] at this
theorem out_rng {a n : List Int} (h : Val a n) {lo hi : Int} {doF : Int → Int × Bool} {o : List (Int × Int)} (hn : NF o) (hb : ∀ p ∈ o, 0 ≤ p.1 ∧ p.1 ≤ 1099511627776)
    (hv : ∀ t, 0 ≤ t → t ≤ 1099511627776 → valD 0 o t = if lo ≤ t ∧ t < hi then (doF (atT t (spansT a n))).1 else atT t (spansT a n))
    (hd : ∀ t, 0 ≤ t → t ≤ 1099511627776 → lo ≤ t → t < hi → 0 ≤ (doF (atT t (spansT a n))).1 ∧ (doF (atT t (spansT a n))).1 ≤ 1099511627776) : ∀ p ∈ o, 0 ≤ p.2 ∧ p.2 ≤ 1099511627776 := by
  intro p hp
  have h1 := hb p hp
  have h2 := NF_val_mem 0 hn p hp
  rw [hv p.1 h1.1 h1.2] at h2
  by_cases h3 : lo ≤ p.1 ∧ p.1 < hi
  · rw [if_pos h3] at h2
    have := hd p.1 h1.1 h1.2 h3.1 h3.2
    omega
  · rw [if_neg h3] at h2
    have := at_rng h p.1 h1.1 h1.2
    omega
/-- A step of the window that may be turned, seen at a time. -/
theorem good_at {a n : List Int} (h : Val a n) {lo hi : Int} {doF : Int → Int × Bool} (hl : 0 ≤ lo) (hg : ∀ x ∈ spansT a n, ¬ BadS lo hi doF x) (t : Int) (h2 : t ≤ 1099511627776) (h3 : lo ≤ t) (h4 : t < hi) : (doF (atT t (spansT a n))).2 = true := by
  obtain ⟨x, hx, x1, x2⟩ := at_in (spans_chain h) (show 0 ≤ t by omega) h2
  have e : atT t (spansT a n) = x.2.2 := at_of 0 (spans_chain h) x hx x1 x2
  have h5 := hg x hx
  rw [e]
  cases hb : (doF x.2.2).2 with
  | true => rfl
  | false =>
    refine absurd ⟨?_, hb⟩ h5
    have h6 : mx x.1 lo ≤ t := mx_le.2 ⟨x1, h3⟩
    have h7 : t < mn x.2.1 hi := lt_mn.2 ⟨x2, h4⟩
    omega
/-- The converse: what may be turned at each time of the window. -/
theorem good_of {a n : List Int} (h : Val a n) {lo hi : Int} {doF : Int → Int × Bool} (hg : ∀ t, lo ≤ t → t < hi → 0 ≤ t → t ≤ 1099511627776 → (doF (atT t (spansT a n))).2 = true) : ∀ x ∈ spansT a n, ¬ BadS lo hi doF x := by
  intro x hx hb
  have h6 := lt_mn.1 hb.1
  have h7 : x.1 ≤ mx x.1 lo ∧ lo ≤ mx x.1 lo := mx_le.1 (Int.le_refl _)
  have h8 := (chain_le (spans_chain h)).2 x hx
  have h9 := hg (mx x.1 lo) h7.2 h6.2 (by omega) (by omega)
  have e : atT (mx x.1 lo) (spansT a n) = x.2.2 := at_of 0 (spans_chain h) x hx h7.1 h6.1
  rw [e, hb.2] at h9
  cases h9
/-- The profile, normal. -/
theorem norm_spec {a n : List Int} (h : Val a n) (ha : a.length ≤ 600) : ∃ o v r, Ev (fun k => steps_Take.f k a n 0 0 0) (o.map (·.1), o.map (·.2), 0) ∧ o = (0, v) :: r ∧ NF o ∧ (∀ p ∈ o, 0 ≤ p.1 ∧ p.1 ≤ 1099511627776) ∧ ∀ t, 0 ≤ t → t ≤ 1099511627776 → valD 0 o t = atT t (spansT a n) := by
  have hg : ∀ x ∈ spansT a n, ¬ BadS 0 0 (takeF 0) x := good_of h (fun t h1 h2 _ _ => by omega)
  obtain ⟨o, v, r, h1, h2, h3, h4, h5⟩ := (turn_spec h 0 0 (takeF 0)).2 hg
  have h6 := out_len h1
  have h7 := take_ev h (by omega) (lo := 0) (hi := 0) (m := 0) (by omega) (by omega) (by omega)
  rw [h1, resT_some (by omega)] at h7
  exact ⟨o, v, r, h7, h2, h3, h4, fun t t1 t2 => by rw [h5 t t1 t2, if_neg (by omega)]⟩
theorem give_ev {a n : List Int} (h : Val a n) (ha : a.length ≤ 2000) {lo hi m : Int} (hx : 0 ≤ lo ∧ lo ≤ 1099511627776) (hy : 0 ≤ hi ∧ hi ≤ 1099511627776) (hz : 0 ≤ m ∧ m ≤ 1099511627776) :
    Ev (fun k => steps_Give.f k a n lo hi m) (resT (turnL lo hi (giveF m) (spansT a n))) := by
  unfold steps_Give.f
  exact Ev.bind (check_ok h ha) (Ev.pos ⟨rfl, quants hx hy hz⟩ (Ev.pos ⟨h.len.symm, by omega⟩ (Ev.const rfl)))
/-- Give of a window, told: refused, or a profile that may be and is m more in the window. -/
theorem give_spec {a n : List Int} (h : Val a n) (ha : a.length ≤ 200) {lo hi m : Int} (hx : 0 ≤ lo ∧ lo ≤ 1099511627776) (hy : 0 ≤ hi ∧ hi ≤ 1099511627776) (hz : 0 ≤ m ∧ m ≤ 1099511627776) :
    Ev (fun k => steps_Give.f k a n lo hi m) ([], [], 6) ∨ ∃ b c, Ev (fun k => steps_Give.f k a n lo hi m) (b, c, 0) ∧ Val b c ∧ b.length ≤ 3 * a.length ∧ ∀ t, 0 ≤ t → t ≤ 1099511627776 → atT t (spansT b c) = if lo ≤ t ∧ t < hi then atT t (spansT a n) + m else atT t (spansT a n) := by
  have hev := give_ev h (by omega) hx hy hz
  by_cases hb : ∃ x ∈ spansT a n, BadS lo hi (giveF m) x
  · rw [(turn_spec h lo hi (giveF m)).1 hb] at hev
    exact .inl hev
  · have hg : ∀ x ∈ spansT a n, ¬ BadS lo hi (giveF m) x := fun x hx2 hb2 => hb ⟨x, hx2, hb2⟩
    obtain ⟨o, v, r, h1, h2, h3, h4, h5⟩ := (turn_spec h lo hi (giveF m)).2 hg
    have hol := out_len h1
    rw [h1, resT_some (by omega)] at hev
    have hval : ∀ t, 0 ≤ t → t ≤ 1099511627776 → lo ≤ t → t < hi → (giveF m (atT t (spansT a n))).1 = atT t (spansT a n) + m ∧ atT t (spansT a n) + m ≤ 1099511627776 ∧ 0 ≤ atT t (spansT a n) := fun t t1 t2 t3 t4 => by
      have h6 := good_at h hx.1 hg t t2 t3 t4
      have h7 := at_rng h t t1 t2
      unfold giveF at h6 ⊢
      dsimp only at h6 ⊢
      rw [wrap64_id (by omega) (by omega), decide_eq_true_eq] at h6
      rw [wrap64_id (by omega) (by omega)]
      omega
    have hv2 := out_rng h h3 h4 h5 (fun t t1 t2 t3 t4 => by have := hval t t1 t2 t3 t4; omega)
    have hV := val_out h2 h3 h4 hv2
    refine .inr ⟨_, _, hev, hV, by simpa using hol, fun t t1 t2 => ?_⟩
    rw [atT_zip hV.len, zip_out, h5 t t1 t2]
    by_cases h6 : lo ≤ t ∧ t < hi
    · rw [if_pos h6, if_pos h6, (hval t t1 t2 h6.1 h6.2).1]
    · rw [if_neg h6, if_neg h6]
theorem take_spec {a n : List Int} (h : Val a n) (ha : a.length ≤ 600) {lo hi m : Int} (hx : 0 ≤ lo ∧ lo ≤ 1099511627776) (hy : 0 ≤ hi ∧ hi ≤ 1099511627776) (hz : 0 ≤ m ∧ m ≤ 1099511627776) :
    (Ev (fun k => steps_Take.f k a n lo hi m) ([], [], 6) ∧ ∃ t, lo ≤ t ∧ t < hi ∧ 0 ≤ t ∧ t ≤ 1099511627776 ∧ atT t (spansT a n) < m) ∨ ∃ b c, Ev (fun k => steps_Take.f k a n lo hi m) (b, c, 0) ∧ Val b c ∧ b.length ≤ 3 * a.length ∧ (∀ t, 0 ≤ t → t ≤ 1099511627776 → lo ≤ t → t < hi → m ≤ atT t (spansT a n)) ∧ ∀ t, 0 ≤ t → t ≤ 1099511627776 → atT t (spansT b c) = if lo ≤ t ∧ t < hi then atT t (spansT a n) - m else atT t (spansT a n) := by
  have hev := take_ev h (by omega) hx hy hz
  by_cases hb : ∃ x ∈ spansT a n, BadS lo hi (takeF m) x
  · rw [(turn_spec h lo hi (takeF m)).1 hb] at hev
    refine .inl ⟨hev, ?_⟩
    refine Classical.byContradiction fun hh => ?_
    obtain ⟨x, hx1, hx2⟩ := hb
    refine good_of h (fun t t1 t2 t3 t4 => ?_) x hx1 hx2
    unfold takeF
    dsimp only
    rw [decide_eq_true_eq]
    refine Classical.byContradiction fun h9 => hh ⟨t, t1, t2, t3, t4, by omega⟩
  · have hg : ∀ x ∈ spansT a n, ¬ BadS lo hi (takeF m) x := fun x hx2 hb2 => hb ⟨x, hx2, hb2⟩
    obtain ⟨o, v, r, h1, h2, h3, h4, h5⟩ := (turn_spec h lo hi (takeF m)).2 hg
    have hol := out_len h1
    rw [h1, resT_some (by omega)] at hev
    have hval : ∀ t, 0 ≤ t → t ≤ 1099511627776 → lo ≤ t → t < hi → (takeF m (atT t (spansT a n))).1 = atT t (spansT a n) - m ∧ m ≤ atT t (spansT a n) ∧ atT t (spansT a n) ≤ 1099511627776 := fun t t1 t2 t3 t4 => by
      have h6 := good_at h hx.1 hg t t2 t3 t4
      have h7 := at_rng h t t1 t2
      unfold takeF at h6 ⊢
      dsimp only at h6 ⊢
      rw [decide_eq_true_eq] at h6
      rw [wrap64_id (by omega) (by omega)]
      omega
    have hv2 := out_rng h h3 h4 h5 (fun t t1 t2 t3 t4 => by have := hval t t1 t2 t3 t4; omega)
    have hV := val_out h2 h3 h4 hv2
    refine .inr ⟨_, _, hev, hV, by simpa using hol, fun t t1 t2 t3 t4 => (hval t t1 t2 t3 t4).2.1, fun t t1 t2 => ?_⟩
    rw [atT_zip hV.len, zip_out, h5 t t1 t2]
    by_cases h6 : lo ≤ t ∧ t < hi
    · rw [if_pos h6, if_pos h6, (hval t t1 t2 h6.1 h6.2).1]
    · rw [if_neg h6, if_neg h6]

end Go.Proofs.Ythbonmpkjkihgaa.Pure
