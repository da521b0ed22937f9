/- The document's answer for profiles: a window turned, the least, two that are equal, what may be. -/
import Derived.Test.YtkhbbcnagdappaaStepsRefA
namespace Go.Proofs.Ytkhbbcnagdappaa.Pure
open Go.RowKit Go.Proofs.Ytkhbbcnagdappaa.P Go.Proofs.YtkhbbcnagdappaaW.PrintWords Go.Proofs.YtkhbbcnagdappaaW.PrintLast
set_option linter.unusedVariables false
set_option linter.unusedSimpArgs false

/-- The greatest of a rising row's that is not behind a time. -/
theorem last_le : ∀ (L : List Int) (t : Int), L.Pairwise (· < ·) → (∃ v ∈ L, v ≤ t) → ∃ v ∈ L, v ≤ t ∧ ∀ u ∈ L, u ≤ t → u ≤ v
  | [], _, _, ⟨v, hv, _⟩ => by simp at hv
  | u :: L, t, hp, ⟨v, hv, hvt⟩ => by
    rw [List.pairwise_cons] at hp
    by_cases hL : ∃ v ∈ L, v ≤ t
    · obtain ⟨w, hw, h1, h2⟩ := last_le L t hp.2 hL
      refine ⟨w, by simp [hw], h1, fun z hz hzt => ?_⟩
      rcases List.mem_cons.1 hz with rfl | hz
      · have := hp.1 w hw; omega
      · exact h2 z hz hzt
    · rcases List.mem_cons.1 hv with rfl | hv
      · refine ⟨v, by simp, hvt, fun z hz hzt => ?_⟩
        rcases List.mem_cons.1 hz with rfl | hz
        · exact Int.le_refl _
        · exact absurd ⟨z, hz, hzt⟩ hL
      · exact absurd ⟨v, hv, hvt⟩ hL
/-- Between two of a profile's times nothing changes. -/
theorem at_same {a n : List Int} (h : Val a n) {v t : Int} (h0 : 0 ≤ v) (hvt : v ≤ t) (ht : t ≤ 1099511627776) (hno : ∀ u ∈ a, u ≤ t → u ≤ v) : atT t (spansT a n) = atT v (spansT a n) := by
  obtain ⟨x, hx, h4, h5⟩ := at_in (spans_chain h) h0 (show v ≤ 1099511627776 by omega)
  rw [show atT v (spansT a n) = x.2.2 from at_of 0 (spans_chain h) x hx h4 h5]
  refine at_of 0 (spans_chain h) x hx (by omega) ?_
  unfold spansT at hx
  obtain ⟨j, hj, rfl⟩ := List.mem_map.1 hx
  have hj' : j < a.length := List.mem_range.1 hj
  by_cases hl : j + 1 < a.length
  · have h8 : (spanAt a n j).2.1 = a.getD (j + 1) 0 := by unfold spanAt; exact if_pos hl
    rw [h8] at h5 ⊢
    refine Classical.byContradiction fun hh => ?_
    have := hno _ (mem_getD hl) (by omega)
    omega
  · have h8 : (spanAt a n j).2.1 = 1099511627777 := by unfold spanAt; exact if_neg hl
    rw [h8]
    omega
def gvR (a n : List Int) (x y z t : Int) : Int := if x ≤ t ∧ t < y then wrap64 (atT t (spansT a n) + z) else atT t (spansT a n)
theorem dedF_foldl (D r : List (Int × Int)) : r.foldl putD D = r.foldl putD D := rfl
theorem putD_last (D : List (Int × Int)) (p : Int × Int) (hD : ¬ D.length = 0) (hl : D.length ≤ 100000) : 0 ≤ wrap64 (((D.map (·.2)).length : Int) - 1) ∧ wrap64 (((D.map (·.2)).length : Int) - 1) < ((D.map (·.2)).length : Int) ∧ (rd (D.map (·.2)) (wrap64 (((D.map (·.2)).length : Int) - 1)) = p.2 → putD D p = D) ∧ (¬ rd (D.map (·.2)) (wrap64 (((D.map (·.2)).length : Int) - 1)) = p.2 → putD D p = D ++ [p]) := by
  rcases List.eq_nil_or_concat D with rfl | ⟨D', q, rfl⟩
  · simp at hD
  rw [List.concat_eq_append] at *
  have e : wrap64 ((((D' ++ [q]).map (·.2)).length : Int) - 1) = (D'.length : Int) := by simp at hl; unfold wrap64; simp; omega
  rw [e, rd_nat]
  have e2 : ((D' ++ [q]).map (·.2)).getD D'.length 0 = q.2 := by simp
  rw [e2]
  refine ⟨by omega, by simp; omega, fun h => ?_, fun h => ?_⟩
  · unfold putD
    rw [if_pos (by simp [h])]
  · unfold putD
    rw [if_neg (by simp [h])]
theorem putD_len (D : List (Int × Int)) (p : Int × Int) : (putD D p).length ≤ D.length + 1 := by
  unfold putD
  split <;> simp
theorem turn_l0 {a n : List Int} (h : Val a n) (ha : a.length ≤ 600) (x y z : Int) (L : List Int) (hL : ∀ v ∈ L, 0 ≤ v ∧ v ≤ 1099511627776) (hl : L.length ≤ 1900) (d : Nat) : ∀ (i : Nat) (D : List (Int × Int)), i + d = L.length → D.length ≤ i →
    ((∃ v ∈ L.drop i, ¬ (0 ≤ gvR a n x y z v ∧ gvR a n x y z v ≤ 1099511627776)) ∧ Ev (fun k => forebayref04_Turn.l0 k x y z L (i : Int) a n (D.map (·.1)) (D.map (·.2))) ([], [], 6)) ∨
    ((∀ v ∈ L.drop i, 0 ≤ gvR a n x y z v ∧ gvR a n x y z v ≤ 1099511627776) ∧ Ev (fun k => forebayref04_Turn.l0 k x y z L (i : Int) a n (D.map (·.1)) (D.map (·.2))) ((((L.drop i).map fun t => (t, gvR a n x y z t)).foldl putD D).map (·.1), (((L.drop i).map fun t => (t, gvR a n x y z t)).foldl putD D).map (·.2), 0)) := by
  induction d with
  | zero =>
    intro i D hi hD
    rw [List.drop_eq_nil_of_le (by omega)]
    refine .inr ⟨fun v hv => by simp at hv, Ev.succ ?_⟩
    simp only [forebayref04_Turn.l0]
    exact Ev.neg (by omega) (Ev.neg (by simp; omega) (Ev.const rfl))
  | succ d ih =>
    intro i D hi hD
    have hi' : i < L.length := by omega
    have e1 : L[i] = L.getD i 0 := by rw [List.getD_eq_getElem?_getD, List.getElem?_eq_getElem hi']; rfl
    have hv := hL (L.getD i 0) (mem_getD hi')
    rw [List.drop_eq_getElem_cons hi', e1]
    have hat := ref_at h ha (L.getD i 0) hv.1 hv.2
    -- to j2
    have toj2 : ∀ R, Ev (fun k => forebayref04_Turn.j2 k x y z L (i : Int) (gvR a n x y z (L.getD i 0)) a n (D.map (·.1)) (D.map (·.2))) R → Ev (fun k => forebayref04_Turn.l0 k x y z L (i : Int) a n (D.map (·.1)) (D.map (·.2))) R := fun R hR => by
      refine Ev.succ ?_
      simp only [forebayref04_Turn.l0]
      rw [rd_nat]
      refine Ev.pos (by omega) (Ev.pos (by omega) (Ev.bind hat (Ev.ite (fun hx => ?_) (fun hx => ?_))))
      · refine Ev.succ ?_
        simp only [forebayref04_Turn.j1]
        by_cases hy : L.getD i 0 < y
        · refine Ev.pos (decide_eq_true hy) ?_
          rw [show gvR a n x y z (L.getD i 0) = wrap64 (atT (L.getD i 0) (spansT a n) + z) from if_pos ⟨hx, hy⟩] at hR
          exact hR
        · refine Ev.neg (by rw [decide_eq_false hy]; decide) ?_
          rw [show gvR a n x y z (L.getD i 0) = atT (L.getD i 0) (spansT a n) from if_neg (fun e => hy e.2)] at hR
          exact hR
      · refine Ev.succ ?_
        simp only [forebayref04_Turn.j1]
        refine Ev.neg (by decide) ?_
        rw [show gvR a n x y z (L.getD i 0) = atT (L.getD i 0) (spansT a n) from if_neg (fun e => hx e.1)] at hR
        exact hR
    by_cases hq : 0 ≤ gvR a n x y z (L.getD i 0) ∧ gvR a n x y z (L.getD i 0) ≤ 1099511627776
    · have hput := putD_len D (L.getD i 0, gvR a n x y z (L.getD i 0))
      have hgo : ∀ R, Ev (fun k => forebayref04_Turn.l0 k x y z L ((i + 1 : Nat) : Int) a n ((putD D (L.getD i 0, gvR a n x y z (L.getD i 0))).map (·.1)) ((putD D (L.getD i 0, gvR a n x y z (L.getD i 0))).map (·.2))) R → Ev (fun k => forebayref04_Turn.l0 k x y z L (i : Int) a n (D.map (·.1)) (D.map (·.2))) R := fun R hR => by
        refine toj2 R (Ev.succ ?_)
        simp only [forebayref04_Turn.j2]
        rw [rd_nat, wrap_succ i (by omega)]
        refine Ev.eq_bind (quant_ok hq) (Ev.pos (by trivial) ?_)
        by_cases hD0 : D.length = 0
        · obtain rfl := List.eq_nil_of_length_eq_zero hD0
          exact Ev.pos (by simp) (Ev.pos (by omega) (Ev.pos (by omega) (Ev.pos (by simp) (Ev.pos (by simp) hR))))
        · obtain ⟨q1, q2, q3, q4⟩ := putD_last D (L.getD i 0, gvR a n x y z (L.getD i 0)) hD0 (by omega)
          refine Ev.neg (by simp; intro e; exact hD0 (by rw [e]; rfl)) (Ev.pos q1 (Ev.pos q2 (Ev.ite (fun he => ?_) (fun he => ?_))))
          · rw [q3 he] at hR
            exact hR
          · rw [q4 he, List.map_append, List.map_append] at hR
            exact Ev.pos (by omega) (Ev.pos (by omega) (Ev.pos (by simp; omega) (Ev.pos (by simp; omega) hR)))
      rw [List.map_cons, List.foldl_cons]
      rcases ih (i + 1) (putD D (L.getD i 0, gvR a n x y z (L.getD i 0))) (by omega) (by omega) with ⟨⟨v, h1, h2⟩, h3⟩ | ⟨h1, h2⟩
      · exact .inl ⟨⟨v, List.mem_cons_of_mem _ h1, h2⟩, hgo _ h3⟩
      · refine .inr ⟨fun v hv2 => ?_, hgo _ h2⟩
        rcases List.mem_cons.1 hv2 with rfl | hv2
        · exact hq
        · exact h1 v hv2
    · refine .inl ⟨⟨_, by simp, hq⟩, toj2 _ (Ev.succ ?_)⟩
      simp only [forebayref04_Turn.j2]
      exact Ev.eq_bind (quant_no hq) (Ev.neg (by decide) (Ev.const rfl))
theorem valD_rise (g : Int → Int) : ∀ (L : List Int) (d t v : Int), L.Pairwise (· < ·) → v ∈ L → v ≤ t → (∀ u ∈ L, u ≤ t → u ≤ v) → valD d (L.map fun t => (t, g t)) t = g v
  | [], _, _, _, _, hv, _, _ => by simp at hv
  | u :: L, d, t, v, hp, hv, hvt, hmax => by
    rw [List.pairwise_cons] at hp
    rw [List.map_cons]
    show valD (if u ≤ t then g u else d) (L.map fun t => (t, g t)) t = g v
    rcases List.mem_cons.1 hv with rfl | hv
    · rw [if_pos hvt]
      refine valD_low _ _ _ (fun p hp2 => ?_)
      obtain ⟨w, hw, rfl⟩ := List.mem_map.1 hp2
      refine Classical.byContradiction fun hh => ?_
      have h1 := hmax w (by simp [hw]) (by dsimp only at hh; omega)
      have h2 := hp.1 w hw
      omega
    · exact valD_rise g L _ t v hp.2 hv hvt (fun w hw hwt => hmax w (by simp [hw]) hwt)
/-- The document's turned profile is the program's. -/
theorem turn_ref {a n : List Int} (h : Val a n) (ha : a.length ≤ 600) {x y z : Int} (hx : 0 ≤ x ∧ x ≤ 1099511627776) (hy : 0 ≤ y ∧ y ≤ 1099511627776) (hz : -1099511627776 ≤ z ∧ z ≤ 1099511627776) (doF : Int → Int × Bool)
    (hdo : ∀ v, 0 ≤ v → v ≤ 1099511627776 → ((doF v).2 = true ↔ 0 ≤ v + z ∧ v + z ≤ 1099511627776) ∧ ((doF v).2 = true → (doF v).1 = v + z)) :
    Ev (fun k => forebayref04_Turn.f k a n x y z) (resT (turnL x y doF (spansT a n))) := by
  obtain ⟨L, l1, l2, l3, l4, l5, l6, l7⟩ := times_ev h ha hx hy
  have hLlen : L.length ≤ 1900 := by
    refine Classical.byContradiction fun hh => ?_
    -- L has no more than a.length + 2
    have hsub : ∀ (L M : List Int), L.Pairwise (· < ·) → (∀ v ∈ L, v ∈ M) → L.length ≤ M.length := by
      intro L
      induction L with
      | nil => intro M _ _; simp
      | cons u L ih =>
        intro M hp hm
        rw [List.pairwise_cons] at hp
        have hu : u ∈ M := hm u (by simp)
        have := ih (M.erase u) hp.2 (fun v hv => by
          have h1 := hp.1 v hv
          exact (List.mem_erase_of_ne (by omega)).2 (hm v (by simp [hv])))
        rw [List.length_erase_of_mem hu] at this
        have : 0 < M.length := List.length_pos_of_mem hu
        simp
        omega
    have := hsub L (x :: y :: a) l2 (fun v hv => by rcases l7 v hv with e | e | e <;> simp [e])
    simp at this
    omega
  have h0L : (0 : Int) ∈ L := by
    have : a.getD 0 0 ∈ a := mem_getD (by have := h.pos; omega)
    rw [h.zero] at this
    exact l6 0 this
  have hgv : ∀ t, 0 ≤ t → t ≤ 1099511627776 → gvR a n x y z t = if x ≤ t ∧ t < y then atT t (spansT a n) + z else atT t (spansT a n) := fun t t0 t1 => by
    have := at_rng h t t0 t1
    unfold gvR
    rw [wrap64_id (by omega) (by omega)]
  -- a time's value is that of the last of L not behind it
  have hlast : ∀ t, 0 ≤ t → t ≤ 1099511627776 → ∃ v ∈ L, v ≤ t ∧ (∀ u ∈ L, u ≤ t → u ≤ v) ∧ atT t (spansT a n) = atT v (spansT a n) ∧ ((x ≤ t ∧ t < y) ↔ (x ≤ v ∧ v < y)) := fun t t0 t1 => by
    obtain ⟨v, hv, h1, h2⟩ := last_le L t l2 ⟨0, h0L, t0⟩
    have hv0 := l3 v hv
    refine ⟨v, hv, h1, h2, at_same h hv0.1 h1 t1 (fun u hu hut => h2 u (l6 u hu) hut), fun e => ⟨h2 x l4 e.1, by omega⟩, fun e => ⟨by omega, ?_⟩⟩
    refine Classical.byContradiction fun hh => ?_
    have := h2 y l5 (by omega)
    omega
  obtain ⟨hbad, hgood⟩ := turn_spec h x y doF
  unfold forebayref04_Turn.f
  have key := turn_l0 h ha x y z L l3 hLlen L.length 0 [] (by omega) (Nat.le_refl _)
  rw [List.drop_zero] at key
  by_cases hb : ∃ s ∈ spansT a n, BadS x y doF s
  · rw [hbad hb]
    rcases key with ⟨_, k2⟩ | ⟨k1, k2⟩
    · exact Ev.bind l1 k2
    · exfalso
      obtain ⟨s, hs1, hs2⟩ := hb
      refine good_of h (fun t t1 t2 t3 t4 => ?_) s hs1 hs2
      obtain ⟨v, hv, h1, h2, h3, h4⟩ := hlast t t3 t4
      have hk := k1 v hv
      have hv0 := l3 v hv
      rw [hgv v hv0.1 hv0.2, if_pos (h4.1 ⟨t1, t2⟩)] at hk
      have hr := at_rng h v hv0.1 hv0.2
      rw [h3]
      exact (hdo _ hr.1 hr.2).1.2 hk
  · have hg : ∀ s ∈ spansT a n, ¬ BadS x y doF s := fun s hs hbs => hb ⟨s, hs, hbs⟩
    obtain ⟨o, v0, r, o1, o2, o3, o4, o5⟩ := hgood hg
    have hol := out_len o1
    rw [o1, resT_some (by omega)]
    have hgvdo : ∀ v, 0 ≤ v → v ≤ 1099511627776 → gvR a n x y z v = if x ≤ v ∧ v < y then (doF (atT v (spansT a n))).1 else atT v (spansT a n) := fun v t0 t1 => by
      rw [hgv v t0 t1]
      by_cases hw : x ≤ v ∧ v < y
      · have hr := at_rng h v t0 t1
        rw [if_pos hw, if_pos hw, (hdo _ hr.1 hr.2).2 (good_at h hx.1 hg v t1 hw.1 hw.2)]
      · rw [if_neg hw, if_neg hw]
    rcases key with ⟨⟨v, hv, hvb⟩, _⟩ | ⟨k1, k2⟩
    · exfalso
      have hv0 := l3 v hv
      have hr := at_rng h v hv0.1 hv0.2
      apply hvb
      rw [hgv v hv0.1 hv0.2]
      by_cases hw : x ≤ v ∧ v < y
      · rw [if_pos hw]
        exact (hdo _ hr.1 hr.2).1.1 (good_at h hx.1 hg v hv0.2 hw.1 hw.2)
      · rw [if_neg hw]; exact hr
    · have hris : Rising (L.map fun t => (t, gvR a n x y z t)) := by
        unfold Rising
        rw [List.pairwise_map]
        exact l2
      obtain ⟨d1, d2, d3, d4, d5, d6⟩ := dedF_spec _ _ rfl hris
      obtain ⟨L', hL'⟩ : ∃ L', L = 0 :: L' := by
        cases L with
        | nil => simp at h0L
        | cons u L' =>
          rw [List.pairwise_cons] at l2
          rcases List.mem_cons.1 h0L with e | e
          · exact ⟨L', by rw [e]⟩
          · have := l2.1 0 e; have := (l3 u (by simp)).1; omega
      have e3 : ∃ r', dedF (L.map fun t => (t, gvR a n x y z t)) = (0, gvR a n x y z 0) :: r' := by
        rw [hL', List.map_cons] at d3
        rw [hL', List.map_cons]
        cases hd : dedF ((0, gvR a n x y z 0) :: L'.map fun t => (t, gvR a n x y z t)) with
        | nil => rw [hd] at d3; simp at d3
        | cons p r' =>
          rw [hd] at d3
          obtain rfl : p = (0, gvR a n x y z 0) := by simpa using d3
          exact ⟨r', rfl⟩
      obtain ⟨r', e3⟩ := e3
      have hoeq : o = dedF (L.map fun t => (t, gvR a n x y z t)) := by
        refine NF_eq o2 e3 o3 d1 (fun p hp => (o4 p hp).2) (fun p hp => ?_) (fun t t0 t1 => ?_)
        · obtain ⟨w, hw, rfl⟩ := List.mem_map.1 (d6 p hp)
          exact (l3 w hw).2
        · obtain ⟨v, hv, h1, h2, h3, h4⟩ := hlast t t0 t1
          have hv0 := l3 v hv
          rw [o5 t t0 t1, d2, valD_rise _ L 0 t v l2 hv h1 h2, hgvdo v hv0.1 hv0.2, h3]
          by_cases hw : x ≤ t ∧ t < y
          · rw [if_pos hw, if_pos (h4.1 hw)]
          · rw [if_neg hw, if_neg (fun e => hw (h4.2 e))]
      rw [show ((L.map fun t => (t, gvR a n x y z t)).foldl putD []) = o from hoeq.symm] at k2
      exact Ev.bind l1 k2
theorem least_l {a n : List Int} (h : Val a n) (ha : a.length ≤ 600) (x y : Int) (L : List Int) (hL : ∀ v ∈ L, 0 ≤ v ∧ v ≤ 1099511627776) (hl : L.length ≤ 100000) (d : Nat) : ∀ (i : Nat) (m : Int), i + d = L.length →
    ∃ r, Ev (fun k => forebayref04_Least.l0 k x y m L (i : Int) a n) r ∧ r ≤ m ∧ (∀ v ∈ L.drop i, x ≤ v → v < y → r ≤ atT v (spansT a n)) ∧ (r = m ∨ ∃ v ∈ L.drop i, x ≤ v ∧ v < y ∧ atT v (spansT a n) = r) := by
  induction d with
  | zero =>
    intro i m hi
    rw [List.drop_eq_nil_of_le (by omega)]
    refine ⟨m, Ev.succ ?_, Int.le_refl _, fun v hv => by simp at hv, .inl rfl⟩
    simp only [forebayref04_Least.l0]
    exact Ev.neg (by omega) (Ev.const rfl)
  | succ d ih =>
    intro i m hi
    have hi' : i < L.length := by omega
    have e1 : L[i] = L.getD i 0 := by rw [List.getD_eq_getElem?_getD, List.getElem?_eq_getElem hi']; rfl
    have hv := hL (L.getD i 0) (mem_getD hi')
    rw [List.drop_eq_getElem_cons hi', e1]
    have hat := ref_at h ha (L.getD i 0) hv.1 hv.2
    by_cases hc : (x ≤ L.getD i 0 ∧ L.getD i 0 < y) ∧ atT (L.getD i 0) (spansT a n) < m
    · obtain ⟨r, r1, r2, r3, r4⟩ := ih (i + 1) (atT (L.getD i 0) (spansT a n)) (by omega)
      refine ⟨r, Ev.succ ?_, by omega, fun v hv2 h1 h2 => ?_, ?_⟩
      · simp only [forebayref04_Least.l0]
        rw [rd_nat, wrap_succ i (by omega)]
        exact Ev.pos (by omega) (Ev.pos (by omega) (Ev.pos hc.1.1 (Ev.pos hc.1.2 (Ev.bind hat (Ev.pos hc.2 (Ev.bind hat r1))))))
      · rcases List.mem_cons.1 hv2 with rfl | hv2
        · exact r2
        · exact r3 v hv2 h1 h2
      · rcases r4 with r4 | ⟨v, v1, v2, v3, v4⟩
        · exact .inr ⟨_, by simp, hc.1.1, hc.1.2, r4.symm⟩
        · exact .inr ⟨v, by simp [v1], v2, v3, v4⟩
    · obtain ⟨r, r1, r2, r3, r4⟩ := ih (i + 1) m (by omega)
      refine ⟨r, Ev.succ ?_, r2, fun v hv2 h1 h2 => ?_, ?_⟩
      · simp only [forebayref04_Least.l0]
        rw [rd_nat, wrap_succ i (by omega)]
        refine Ev.pos (by omega) (Ev.pos (by omega) (Ev.ite (fun h1 => Ev.ite (fun h2 => Ev.bind hat (Ev.neg (fun h3 => hc ⟨⟨h1, h2⟩, h3⟩) r1)) (fun _ => r1)) (fun _ => r1)))
      · rcases List.mem_cons.1 hv2 with rfl | hv2
        · refine Classical.byContradiction fun hh => hc ⟨⟨h1, h2⟩, by omega⟩
        · exact r3 v hv2 h1 h2
      · rcases r4 with r4 | ⟨v, v1, v2, v3, v4⟩
        · exact .inl r4
        · exact .inr ⟨v, by simp [v1], v2, v3, v4⟩
theorem least_ref {a n : List Int} (h : Val a n) (ha : a.length ≤ 600) {x y : Int} (hx : 0 ≤ x ∧ x ≤ 1099511627776) (hy : 0 ≤ y ∧ y ≤ 1099511627776) : Ev (fun k => forebayref04_Least.f k a n x y) (leastT x y (spansT a n)) := by
  obtain ⟨L, l1, l2, l3, l4, l5, l6, l7⟩ := times_ev h ha hx hy
  have hLlen : L.length ≤ 100000 := by
    have hsub : ∀ (L M : List Int), L.Pairwise (· < ·) → (∀ v ∈ L, v ∈ M) → L.length ≤ M.length := by
      intro L
      induction L with
      | nil => intro M _ _; simp
      | cons u L ih =>
        intro M hp hm
        rw [List.pairwise_cons] at hp
        have hu : u ∈ M := hm u (by simp)
        have := ih (M.erase u) hp.2 (fun v hv => by
          have h1 := hp.1 v hv
          exact (List.mem_erase_of_ne (by omega)).2 (hm v (by simp [hv])))
        rw [List.length_erase_of_mem hu] at this
        have : 0 < M.length := List.length_pos_of_mem hu
        simp
        omega
    have := hsub L (x :: y :: a) l2 (fun v hv => by rcases l7 v hv with e | e | e <;> simp [e])
    simp at this
    omega
  obtain ⟨r, r1, r2, r3, r4⟩ := least_l h ha x y L l3 hLlen L.length 0 1099511627776 (by omega)
  rw [List.drop_zero] at r3 r4
  obtain ⟨s1, s2, s3⟩ := least_spec h x y hx.1
  have e : r = leastT x y (spansT a n) := by
    have h1 : leastT x y (spansT a n) ≤ r := by
      rcases r4 with r4 | ⟨v, v1, v2, v3, v4⟩
      · omega
      · have := s2 v v2 v3 (l3 v v1).2; omega
    have h2 : r ≤ leastT x y (spansT a n) := by
      rcases s3 with s3 | ⟨t, t1, t2, t3, t4⟩
      · omega
      · obtain ⟨v, hv, hvt, hmax⟩ := last_le L t l2 ⟨x, l4, t1⟩
        have hxv := hmax x l4 t1
        have h3 := at_same h (l3 v hv).1 hvt t3 (fun u hu hut => hmax u (l6 u hu) hut)
        have := r3 v hv hxv (by omega)
        omega
    omega
  subst e
  unfold forebayref04_Least.f
  exact Ev.bind l1 r1
end Go.Proofs.Ytkhbbcnagdappaa.Pure
