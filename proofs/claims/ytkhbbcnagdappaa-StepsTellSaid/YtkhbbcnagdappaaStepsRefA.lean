/- The document's answer for profiles: at a time, the times where something may change. -/
import Derived.Test.YtkhbbcnagdappaaStepsEv
namespace Go.Proofs.Ytkhbbcnagdappaa.Pure
open Go.RowKit Go.Proofs.Ytkhbbcnagdappaa.P Go.Proofs.YtkhbbcnagdappaaW.PrintWords Go.Proofs.YtkhbbcnagdappaaW.PrintLast
set_option linter.unusedVariables false
set_option linter.unusedSimpArgs false

theorem quant_eq (x : Int) : forebayref04_Quantity.f x = some (decide (0 ≤ x ∧ x ≤ 1099511627776)) := by
  unfold forebayref04_Quantity.f
  by_cases h1 : x ≥ 0
  · rw [if_pos h1]
    congr 1
    exact decide_eq_decide.2 ⟨fun h => ⟨h1, h⟩, fun h => h.2⟩
  · rw [if_neg h1, decide_eq_false (fun h => h1 h.1)]
theorem quant_ok {x : Int} (h : 0 ≤ x ∧ x ≤ 1099511627776) : forebayref04_Quantity.f x = some true := by rw [quant_eq, decide_eq_true h]
theorem quant_no {x : Int} (h : ¬ (0 ≤ x ∧ x ≤ 1099511627776)) : forebayref04_Quantity.f x = some false := by rw [quant_eq, decide_eq_false h]
theorem fine_eq (x y z : Int) : forebaylaw04_fine.f x y z = some (decide ((0 ≤ x ∧ x ≤ 1099511627776) ∧ (0 ≤ y ∧ y ≤ 1099511627776) ∧ (0 ≤ z ∧ z ≤ 1099511627776))) := by
  unfold forebaylaw04_fine.f
  rw [quant_eq, quant_eq, quant_eq]
  by_cases h1 : 0 ≤ x ∧ x ≤ 1099511627776 <;> by_cases h2 : 0 ≤ y ∧ y ≤ 1099511627776 <;> by_cases h3 : 0 ≤ z ∧ z ≤ 1099511627776 <;> simp [h1, h2, h3]
theorem wrap_succ (i : Nat) (h : i ≤ 1000000) : wrap64 ((i : Int) + 1) = ((i + 1 : Nat) : Int) := by unfold wrap64; omega
theorem mem_getD {l : List Int} {i : Nat} (h : i < l.length) : l.getD i 0 ∈ l := by
  rw [List.getD_eq_getElem?_getD, List.getElem?_eq_getElem h]
  exact List.getElem_mem h
theorem rise_mono {a n : List Int} (h : Val a n) : ∀ (d i : Nat), i + d < a.length → a.getD i 0 ≤ a.getD (i + d) 0
  | 0, i, _ => Int.le_refl _
  | d + 1, i, hd => by
    have h1 := rise_mono h d i (by omega)
    have h2 := h.rise (i + d) (by omega)
    have e : i + (d + 1) = i + d + 1 := by omega
    rw [e]
    omega
theorem ref_at_l {a n : List Int} (h : Val a n) (ha : a.length ≤ 600) (t : Int) (j : Nat) (hj : j < a.length) (h2 : ∀ i, j < i → i < a.length → t < a.getD i 0) (h3 : ∀ i, i ≤ j → a.getD i 0 ≤ t) (d : Nat) :
    ∀ (i : Nat) (cur : Int), i + d = a.length → (j < i → cur = n.getD j 0) → Ev (fun k => forebayref04_At.l0 k t cur (i : Int) a n) (n.getD j 0) := by
  have hln := h.len
  induction d with
  | zero =>
    intro i cur hi hc
    refine Ev.succ ?_
    simp only [forebayref04_At.l0]
    exact Ev.neg (by omega) (Ev.const (by rw [hc (by omega)]))
  | succ d ih =>
    intro i cur hi hc
    refine Ev.succ ?_
    simp only [forebayref04_At.l0]
    rw [rd_nat, rd_nat, wrap_succ i (by omega)]
    refine Ev.pos (by omega) (Ev.pos (by omega) ?_)
    by_cases hij : i ≤ j
    · refine Ev.pos (h3 i hij) (Ev.pos (by omega) (ih (i + 1) _ (by omega) (fun h4 => ?_)))
      rw [show i = j by omega]
    · have := h2 i (by omega) (by omega)
      exact Ev.neg (by omega) (ih (i + 1) cur (by omega) (fun _ => hc (by omega)))
theorem ref_at {a n : List Int} (h : Val a n) (ha : a.length ≤ 600) (t : Int) (t0 : 0 ≤ t) (t1 : t ≤ 1099511627776) : Ev (fun k => forebayref04_At.f k a n t) (atT t (spansT a n)) := by
  obtain ⟨x, hx, h4, h5⟩ := at_in (spans_chain h) t0 t1
  rw [show atT t (spansT a n) = x.2.2 from at_of 0 (spans_chain h) x hx h4 h5]
  unfold spansT at hx
  obtain ⟨j, hj, rfl⟩ := List.mem_map.1 hx
  have hj' : j < a.length := List.mem_range.1 hj
  unfold forebayref04_At.f
  refine ref_at_l h ha t j hj' (fun i h6 h7 => ?_) (fun i h6 => ?_) a.length 0 0 (by omega) (fun h => by omega)
  · have h8 : (spanAt a n j).2.1 = a.getD (j + 1) 0 := by unfold spanAt; exact if_pos (by omega)
    rw [h8] at h5
    have h9 := rise_mono h (i - (j + 1)) (j + 1) (by omega)
    rw [show j + 1 + (i - (j + 1)) = i by omega] at h9
    omega
  · have h9 := rise_mono h (j - i) i (by omega)
    rw [show i + (j - i) = j by omega] at h9
    have h10 : (spanAt a n j).1 = a.getD j 0 := rfl
    omega
/-- What the last of a row is, -1 where there is none. -/
def Lbd (out : List Int) (b : Int) : Prop := (out.length = 0 ∧ b = -1) ∨ (¬ out.length = 0 ∧ 0 ≤ wrap64 ((out.length : Int) - 1) ∧ wrap64 ((out.length : Int) - 1) < (out.length : Int) ∧ rd out (wrap64 ((out.length : Int) - 1)) = b)
theorem Lbd_snoc (out : List Int) (v : Int) (h : out.length ≤ 100000) : Lbd (out ++ [v]) v := by
  have e : wrap64 (((out ++ [v]).length : Int) - 1) = (out.length : Int) := by unfold wrap64; simp; omega
  refine .inr ⟨by simp, by rw [e]; omega, by rw [e]; simp only [List.length_append, List.length_singleton]; omega, ?_⟩
  rw [e, rd_nat]
  simp
def stepB (b best v : Int) : Int := if b < v ∧ (best < 0 ∨ v < best) then v else best
theorem fold_spec (b : Int) (hb : -1 ≤ b) : ∀ (l : List Int) (best : Int), (∀ v ∈ l, 0 ≤ v) → -1 ≤ best →
    -1 ≤ l.foldl (stepB b) best ∧ (l.foldl (stepB b) best = best ∨ (l.foldl (stepB b) best ∈ l ∧ b < l.foldl (stepB b) best)) ∧ (∀ v ∈ l, b < v → 0 ≤ l.foldl (stepB b) best ∧ l.foldl (stepB b) best ≤ v) ∧ (0 ≤ best → 0 ≤ l.foldl (stepB b) best ∧ l.foldl (stepB b) best ≤ best)
  | [], best, _, hbest => ⟨hbest, .inl rfl, fun v hv => by simp at hv, fun h => ⟨h, Int.le_refl _⟩⟩
  | v :: l, best, hl, hbest => by
    have h0 := hl v (by simp)
    have hs : -1 ≤ stepB b best v := by unfold stepB; split <;> omega
    obtain ⟨i0, i1, i2, i3⟩ := fold_spec b hb l (stepB b best v) (fun u hu => hl u (by simp [hu])) hs
    rw [List.foldl_cons]
    by_cases hc : b < v ∧ (best < 0 ∨ v < best)
    · have e : stepB b best v = v := by unfold stepB; rw [if_pos hc]
      rw [e] at i0 i1 i2 i3 ⊢
      have i4 := i3 h0
      refine ⟨i0, ?_, fun u hu hbu => ?_, fun hb0 => by omega⟩
      · rcases i1 with i1 | ⟨i1, i5⟩
        · exact .inr ⟨by rw [i1]; simp, by rw [i1]; exact hc.1⟩
        · exact .inr ⟨by simp [i1], i5⟩
      · rcases List.mem_cons.1 hu with rfl | hu
        · exact i4
        · exact i2 u hu hbu
    · have e : stepB b best v = best := by unfold stepB; rw [if_neg hc]
      rw [e] at i0 i1 i2 i3 ⊢
      refine ⟨i0, ?_, fun u hu hbu => ?_, i3⟩
      · rcases i1 with i1 | ⟨i1, i5⟩
        · exact .inl i1
        · exact .inr ⟨by simp [i1], i5⟩
      · rcases List.mem_cons.1 hu with rfl | hu
        · have : 0 ≤ best ∧ best ≤ u := by omega
          have := i3 this.1
          omega
        · exact i2 u hu hbu
theorem times_l1 (M out : List Int) (b : Int) (hM : ∀ v ∈ M, 0 ≤ v ∧ v ≤ 1099511627776) (hl : M.length ≤ 700) (hb : Lbd out b) (hol : out.length ≤ 700) (R : List Int) (d : Nat) : ∀ (i : Nat) (best : Int), i + d = M.length →
    ((M.drop i).foldl (stepB b) best < 0 → R = out) → (¬ (M.drop i).foldl (stepB b) best < 0 → Ev (fun k => forebayref04_times.l0 k M (out ++ [(M.drop i).foldl (stepB b) best])) R) →
    Ev (fun k => forebayref04_times.l1 k M out best (i : Int)) R := by
  induction d with
  | zero =>
    intro i best hi hf1 hf2
    rw [List.drop_eq_nil_of_le (by omega), List.foldl_nil] at hf1 hf2
    refine Ev.succ ?_
    simp only [forebayref04_times.l1]
    refine Ev.neg (by omega) (Ev.ite (fun h => Ev.const (by rw [hf1 h])) (fun h => Ev.pos (by omega) (hf2 h)))
  | succ d ih =>
    intro i best hi hf1 hf2
    have hi' : i < M.length := by omega
    have e1 : M.getD i 0 = M[i] := by rw [List.getD_eq_getElem?_getD, List.getElem?_eq_getElem hi']; rfl
    have hv := hM (M.getD i 0) (mem_getD hi')
    have hdr : (M.drop i).foldl (stepB b) best = (M.drop (i + 1)).foldl (stepB b) (stepB b best (M.getD i 0)) := by rw [List.drop_eq_getElem_cons hi', List.foldl_cons, e1]
    rw [hdr] at hf1 hf2
    have hnext := ih (i + 1) (stepB b best (M.getD i 0)) (by omega) hf1 hf2
    have yes : b < M.getD i 0 ∧ (best < 0 ∨ M.getD i 0 < best) → Ev (fun k => forebayref04_times.l1 k M out (M.getD i 0) ((i + 1 : Nat) : Int)) R := fun h => by
      have e : stepB b best (M.getD i 0) = M.getD i 0 := by unfold stepB; rw [if_pos h]
      rw [e] at hnext; exact hnext
    have no : ¬ (b < M.getD i 0 ∧ (best < 0 ∨ M.getD i 0 < best)) → Ev (fun k => forebayref04_times.l1 k M out best ((i + 1 : Nat) : Int)) R := fun h => by
      have e : stepB b best (M.getD i 0) = best := by unfold stepB; rw [if_neg h]
      rw [e] at hnext; exact hnext
    refine Ev.succ ?_
    simp only [forebayref04_times.l1]
    rw [rd_nat, wrap_succ i (by omega)]
    refine Ev.pos (by omega) (Ev.pos (by omega) (Ev.eq_bind (quant_ok hv) (Ev.pos (by trivial) ?_)))
    have inner : (best < 0 ∨ M.getD i 0 < best) → Ev (fun k => if (out.length : Int) = 0 then forebayref04_times.l1 k M out (M.getD i 0) ((i + 1 : Nat) : Int) else if 0 ≤ wrap64 ((out.length : Int) - 1) then if wrap64 ((out.length : Int) - 1) < (out.length : Int) then if M.getD i 0 > rd out (wrap64 ((out.length : Int) - 1)) then forebayref04_times.l1 k M out (M.getD i 0) ((i + 1 : Nat) : Int) else forebayref04_times.l1 k M out best ((i + 1 : Nat) : Int) else none else none) R := fun hc => by
      rcases hb with ⟨h0, rfl⟩ | ⟨h0, h1, h2, h3⟩
      · exact Ev.pos (by omega) (yes ⟨by omega, hc⟩)
      · refine Ev.neg (by omega) (Ev.pos h1 (Ev.pos h2 ?_))
        rw [h3]
        exact Ev.ite (fun h => yes ⟨h, hc⟩) (fun h => no (fun e => h e.1))
    refine Ev.ite (fun h => inner (.inl h)) (fun h => Ev.ite (fun h2 => inner (.inr h2)) (fun h2 => no (fun e => by omega)))
theorem cnt_lt {p q : Int → Bool} : ∀ (M : List Int), (∀ v ∈ M, q v = true → p v = true) → (∃ v ∈ M, p v = true ∧ q v = false) → M.countP q < M.countP p
  | [], _, ⟨v, hv, _⟩ => by simp at hv
  | u :: M, h1, ⟨v, hv, hp, hq⟩ => by
    have hle : M.countP q ≤ M.countP p := List.countP_mono_left (fun x hx hqx => h1 x (by simp [hx]) hqx)
    rw [List.countP_cons, List.countP_cons]
    rcases List.mem_cons.1 hv with rfl | hv
    · rw [if_pos hp, if_neg (by rw [hq]; decide)]; omega
    · have := cnt_lt M (fun x hx => h1 x (by simp [hx])) ⟨v, hv, hp, hq⟩
      have h2 := h1 u (by simp)
      by_cases hqu : q u = true
      · rw [if_pos hqu, if_pos (h2 hqu)]; omega
      · rw [if_neg hqu]; split <;> omega
theorem times_l0 (M : List Int) (hM : ∀ v ∈ M, 0 ≤ v ∧ v ≤ 1099511627776) (hl : M.length ≤ 700) (c : Nat) : ∀ (out : List Int) (b : Int), Lbd out b → -1 ≤ b → M.countP (fun v => decide (b < v)) ≤ c → out.length + c ≤ 700 →
    ∃ L, Ev (fun k => forebayref04_times.l0 k M out) (out ++ L) ∧ L.Pairwise (· < ·) ∧ (∀ v ∈ L, b < v ∧ v ∈ M) ∧ (∀ v ∈ M, b < v → v ∈ L) := by
  induction c with
  | zero =>
    intro out b hb hb1 hc hol
    obtain ⟨f0, f1, f2, f3⟩ := fold_spec b hb1 M (-1) (fun v hv => (hM v hv).1) (by omega)
    have hnone : ∀ v ∈ M, ¬ b < v := fun v hv hlt => by
      have : 0 < M.countP (fun v => decide (b < v)) := List.countP_pos_iff.2 ⟨v, hv, decide_eq_true hlt⟩
      omega
    have hr : M.foldl (stepB b) (-1) < 0 := by
      rcases f1 with f1 | ⟨f1, f4⟩
      · omega
      · exact absurd f4 (hnone _ f1)
    refine ⟨[], ?_, List.Pairwise.nil, fun v hv => by simp at hv, fun v hv hlt => absurd hlt (hnone v hv)⟩
    rw [List.append_nil]
    refine Ev.succ ?_
    simp only [forebayref04_times.l0]
    exact times_l1 M out b hM hl hb (by omega) out M.length 0 (-1) (by omega) (fun _ => rfl) (fun h => absurd hr h)
  | succ c ih =>
    intro out b hb hb1 hc hol
    obtain ⟨f0, f1, f2, f3⟩ := fold_spec b hb1 M (-1) (fun v hv => (hM v hv).1) (by omega)
    by_cases hr : M.foldl (stepB b) (-1) < 0
    · refine ⟨[], ?_, List.Pairwise.nil, fun v hv => by simp at hv, fun v hv hlt => by have := f2 v hv hlt; omega⟩
      rw [List.append_nil]
      refine Ev.succ ?_
      simp only [forebayref04_times.l0]
      exact times_l1 M out b hM hl hb (by omega) out M.length 0 (-1) (by omega) (fun _ => rfl) (fun h => absurd hr h)
    · obtain ⟨g1, g2⟩ : M.foldl (stepB b) (-1) ∈ M ∧ b < M.foldl (stepB b) (-1) := by
        rcases f1 with f1 | f1
        · omega
        · exact f1
      have hcl : M.countP (fun v => decide (M.foldl (stepB b) (-1) < v)) < M.countP (fun v => decide (b < v)) :=
        cnt_lt M (fun v _ h => decide_eq_true (by have := of_decide_eq_true h; omega)) ⟨_, g1, decide_eq_true g2, decide_eq_false (by omega)⟩
      obtain ⟨L, l1, l2, l3, l4⟩ := ih (out ++ [M.foldl (stepB b) (-1)]) (M.foldl (stepB b) (-1)) (Lbd_snoc _ _ (by omega)) (by omega) (by omega) (by simp; omega)
      refine ⟨M.foldl (stepB b) (-1) :: L, ?_, List.pairwise_cons.2 ⟨fun v hv => (l3 v hv).1, l2⟩, fun v hv => ?_, fun v hv hlt => ?_⟩
      · rw [show out ++ M.foldl (stepB b) (-1) :: L = out ++ [M.foldl (stepB b) (-1)] ++ L by simp]
        refine Ev.succ ?_
        simp only [forebayref04_times.l0]
        refine times_l1 M out b hM hl hb (by omega) _ M.length 0 (-1) (by omega) (fun h => absurd h hr) (fun _ => ?_)
        rw [List.drop_zero]
        exact l1
      · rcases List.mem_cons.1 hv with rfl | hv
        · exact ⟨g2, g1⟩
        · have := l3 v hv
          exact ⟨by omega, this.2⟩
      · by_cases he : v = M.foldl (stepB b) (-1)
        · rw [he]; simp
        · have := f2 v hv hlt
          exact List.mem_cons_of_mem _ (l4 v hv (by omega))
/-- The times: all of the profile's and two more, rising. -/
theorem times_ev {a n : List Int} (h : Val a n) (ha : a.length ≤ 600) {x y : Int} (hx : 0 ≤ x ∧ x ≤ 1099511627776) (hy : 0 ≤ y ∧ y ≤ 1099511627776) :
    ∃ L, Ev (fun k => forebayref04_times.f k a n x y) L ∧ L.Pairwise (· < ·) ∧ (∀ v ∈ L, 0 ≤ v ∧ v ≤ 1099511627776) ∧ x ∈ L ∧ y ∈ L ∧ (∀ v ∈ a, v ∈ L) ∧ (∀ v ∈ L, v = x ∨ v = y ∨ v ∈ a) := by
  have hM : ∀ v ∈ [x, y] ++ a, 0 ≤ v ∧ v ≤ 1099511627776 := fun v hv => by
    rcases List.mem_append.1 hv with hv | hv
    · simp at hv; rcases hv with rfl | rfl <;> assumption
    · exact h.qa v hv
  obtain ⟨L, l1, l2, l3, l4⟩ := times_l0 ([x, y] ++ a) hM (by simp; omega) ([x, y] ++ a).length [] (-1) (.inl ⟨rfl, rfl⟩) (by omega) List.countP_le_length (by simp; omega)
  refine ⟨L, ?_, l2, fun v hv => hM v (l3 v hv).2, l4 x (by simp) (by omega), l4 y (by simp) (by omega), fun v hv => l4 v (by simp [hv]) (by have := h.qa v hv; omega), fun v hv => by have := (l3 v hv).2; simpa [or_assoc] using this⟩
  unfold forebayref04_times.f
  exact Ev.some_bind (Ev.pos (by simp; omega) l1)
end Go.Proofs.Ytkhbbcnagdappaa.Pure
