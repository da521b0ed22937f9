/- What a turned profile is: the profile's value at each time, turned within the window, in normal form. -/
import Derived.Test.YthbonmpkjkihgaaSteps
import Derived.Test.YthbonmpkjkihgaaStepsAt
namespace Go.Proofs.Ythbonmpkjkihgaa.Pure
open Go.RowKit Go.Proofs.Ythbonmpkjkihgaa.P Go.Proofs.YthbonmpkjkihgaaW.PrintWords Go.Proofs.YthbonmpkjkihgaaW.PrintLast
set_option linter.unusedVariables false
set_option linter.unusedSimpArgs false

def pieces (lo hi : Int) (doF : Int → Int × Bool) (x : Int × Int × Int) : List (Int × Int) :=
  if mn x.2.1 hi ≤ mx x.1 lo then [(x.1, x.2.2)]
  else (if x.1 < mx x.1 lo then [(x.1, x.2.2)] else []) ++ [(mx x.1 lo, (doF x.2.2).1)] ++ (if mn x.2.1 hi < x.2.1 ∧ mn x.2.1 hi ≤ 1099511627776 then [(mn x.2.1 hi, x.2.2)] else [])
def BadS (lo hi : Int) (doF : Int → Int × Bool) (x : Int × Int × Int) : Prop := mx x.1 lo < mn x.2.1 hi ∧ (doF x.2.2).2 = false
theorem turn1_pieces (lo hi : Int) (doF : Int → Int × Bool) (out : List (Int × Int)) (x : Int × Int × Int) : (BadS lo hi doF x → turn1 lo hi doF out x = none) ∧ (¬ BadS lo hi doF x → turn1 lo hi doF out x = some ((pieces lo hi doF x).foldl (fun o p => putS o p.1 p.2) out)) := by
  unfold turn1 pieces BadS
  by_cases h1 : mn x.2.1 hi ≤ mx x.1 lo
  · rw [if_pos h1, if_pos h1]
    exact ⟨fun h => by omega, fun _ => rfl⟩
  · rw [if_neg h1, if_neg h1]
    by_cases h2 : (doF x.2.2).2 = false
    · rw [if_pos h2]
      exact ⟨fun _ => rfl, fun h => absurd ⟨by omega, h2⟩ h⟩
    · rw [if_neg h2]
      refine ⟨fun h => absurd h.2 h2, fun _ => ?_⟩
      by_cases h3 : x.1 < mx x.1 lo <;> by_cases h4 : mn x.2.1 hi < x.2.1 ∧ mn x.2.1 hi ≤ 1099511627776 <;> simp [h3, h4]
theorem turnL_pieces (lo hi : Int) (doF : Int → Int × Bool) : ∀ (l : List (Int × Int × Int)) (o : List (Int × Int)), ((∃ x ∈ l, BadS lo hi doF x) → l.foldlM (turn1 lo hi doF) o = none) ∧ ((∀ x ∈ l, ¬ BadS lo hi doF x) → l.foldlM (turn1 lo hi doF) o = some ((l.flatMap (pieces lo hi doF)).foldl (fun o p => putS o p.1 p.2) o))
  | [], o => ⟨fun ⟨x, hx, _⟩ => by simp at hx, fun _ => rfl⟩
  | y :: l, o => by
    obtain ⟨h1, h2⟩ := turn1_pieces lo hi doF o y
    rw [List.foldlM_cons]
    refine ⟨fun ⟨x, hx, hb⟩ => ?_, fun h => ?_⟩
    · by_cases hy : BadS lo hi doF y
      · rw [h1 hy]; rfl
      · rw [h2 hy]
        rcases List.mem_cons.1 hx with rfl | hx
        · exact absurd hb hy
        · exact (turnL_pieces lo hi doF l _).1 ⟨x, hx, hb⟩
    · rw [h2 (h y (by simp))]
      rw [List.flatMap_cons, List.foldl_append]
      exact (turnL_pieces lo hi doF l _).2 (fun x hx => h x (by simp [hx]))
/-- A span's pieces: rising from its beginning, within it. -/
theorem pieces_spec (lo hi : Int) (doF : Int → Int × Bool) (x : Int × Int × Int) (hx : x.1 < x.2.1) (hT : x.2.1 ≤ 1099511627777) :
    Rising (pieces lo hi doF x) ∧ (∀ p ∈ pieces lo hi doF x, x.1 ≤ p.1 ∧ p.1 < x.2.1) ∧ (∃ v l, pieces lo hi doF x = (x.1, v) :: l) ∧
    ∀ d t, x.1 ≤ t → t < x.2.1 → t ≤ 1099511627776 → valD d (pieces lo hi doF x) t = if lo ≤ t ∧ t < hi then (doF x.2.2).1 else x.2.2 := by
  obtain ⟨f, e, v⟩ := x
  dsimp only at hx hT ⊢
  unfold pieces
  dsimp only
  have hm1 : f ≤ mx f lo ∧ lo ≤ mx f lo := mx_le.1 (Int.le_refl _)
  have hm2 : mx f lo = f ∨ mx f lo = lo := by unfold mx; split <;> simp
  have hm3 : mn e hi ≤ e ∧ mn e hi ≤ hi ∧ (mn e hi = e ∨ mn e hi = hi) := by unfold mn; split <;> omega
  generalize mx f lo = a at *
  generalize mn e hi = b at *
  by_cases h1 : b ≤ a
  · rw [if_pos h1]
    refine ⟨by simp [Rising], fun p hp => by simp at hp; subst hp; exact ⟨Int.le_refl _, hx⟩, ⟨_, _, rfl⟩, fun d t t1 t2 t3 => ?_⟩
    show (if f ≤ t then v else d) = _
    rw [if_pos t1, if_neg (by omega)]
  · rw [if_neg h1]
    by_cases h3 : f < a
    · by_cases h4 : b < e ∧ b ≤ 1099511627776
      · rw [if_pos h3, if_pos h4]
        refine ⟨by simp [Rising]; omega, fun p hp => by simp at hp; rcases hp with rfl | rfl | rfl <;> dsimp only <;> omega, ⟨_, _, rfl⟩, fun d t t1 t2 t3 => ?_⟩
        show (if b ≤ t then v else if a ≤ t then (doF v).1 else if f ≤ t then v else d) = _
        (repeat' split) <;> first | rfl | omega
      · rw [if_pos h3, if_neg h4]
        refine ⟨by simp [Rising]; omega, fun p hp => by simp at hp; rcases hp with rfl | rfl <;> dsimp only <;> omega, ⟨_, _, rfl⟩, fun d t t1 t2 t3 => ?_⟩
        show (if a ≤ t then (doF v).1 else if f ≤ t then v else d) = _
        (repeat' split) <;> first | rfl | omega
    · have h5 : a = f := by omega
      subst h5
      by_cases h4 : b < e ∧ b ≤ 1099511627776
      · rw [if_neg h3, if_pos h4]
        refine ⟨by simp [Rising]; omega, fun p hp => by simp at hp; rcases hp with rfl | rfl <;> dsimp only <;> omega, ⟨_, _, rfl⟩, fun d t t1 t2 t3 => ?_⟩
        show (if b ≤ t then v else if a ≤ t then (doF v).1 else d) = _
        (repeat' split) <;> first | rfl | omega
      · rw [if_neg h3, if_neg h4]
        refine ⟨by simp [Rising], fun p hp => by simp at hp; subst hp; dsimp only; omega, ⟨_, _, rfl⟩, fun d t t1 t2 t3 => ?_⟩
        show (if a ≤ t then (doF v).1 else d) = _
        (repeat' split) <;> first | rfl | omega
theorem raw_spec (lo hi : Int) (doF : Int → Int × Bool) : ∀ (l : List (Int × Int × Int)) (s : Int), Chain s l → s ≤ 1099511627776 →
    Rising (l.flatMap (pieces lo hi doF)) ∧ (∀ p ∈ l.flatMap (pieces lo hi doF), s ≤ p.1 ∧ p.1 ≤ 1099511627776) ∧ (∃ v r, l.flatMap (pieces lo hi doF) = (s, v) :: r) ∧
    ∀ d t, s ≤ t → t ≤ 1099511627776 → valD d (l.flatMap (pieces lo hi doF)) t = if lo ≤ t ∧ t < hi then (doF (atD t d l)).1 else atD t d l
  | [], s, h, hs => by have : s = 1099511627777 := h; omega
  | y :: l, s, h, hs => by
    obtain ⟨h1, h2, h3⟩ := h
    have h4 := (chain_le h3).1
    obtain ⟨p1, p2, ⟨v, r, p3⟩, p4⟩ := pieces_spec lo hi doF y h2 h4
    rw [List.flatMap_cons]
    have hat : ∀ d t, s ≤ t → t < y.2.1 → atD t d (y :: l) = y.2.2 := fun d t t1 t2 => by
      show atD t (if y.1 ≤ t then y.2.2 else d) l = _
      rw [if_pos (by omega)]
      exact at_low _ h3 t2
    by_cases hl : y.2.1 ≤ 1099511627776
    · obtain ⟨i1, i2, i3, i4⟩ := raw_spec lo hi doF l y.2.1 h3 hl
      refine ⟨List.pairwise_append.2 ⟨p1, i1, fun a ha b hb => by have := p2 a ha; have := i2 b hb; omega⟩, fun p hp => ?_, ⟨v, _, by rw [p3, h1]; rfl⟩, fun d t t1 t2 => ?_⟩
      · rcases List.mem_append.1 hp with hp | hp
        · have := p2 p hp; omega
        · have := i2 p hp; omega
      · rw [valD_append]
        by_cases ht : t < y.2.1
        · rw [valD_low _ t _ (fun p hp => by have := i2 p hp; omega), p4 d t (by omega) ht t2, hat d t t1 ht]
        · rw [i4 _ t (by omega) t2]
          have e : ∀ d', atD t d' l = atD t (if y.1 ≤ t then y.2.2 else d) l := fun d' => by
            obtain ⟨x, hx, x1, x2⟩ := at_in h3 (show y.2.1 ≤ t by omega) t2
            rw [at_of _ h3 x hx x1 x2, at_of _ h3 x hx x1 x2]
          rw [e]
          rfl
    · have hn : l = [] := by
        cases l with
        | nil => rfl
        | cons z l => have := h3.1; have := h3.2.1; have := (chain_le h3.2.2).1; omega
      subst hn
      rw [List.flatMap_nil, List.append_nil]
      refine ⟨p1, fun p hp => by have := p2 p hp; omega, ⟨v, r, by rw [p3, h1]⟩, fun d t t1 t2 => ?_⟩
      rw [p4 d t (by omega) (by omega) t2, hat d t t1 (by omega)]
/-- A profile's turned one: none, where a step of the window may not be turned; else the normal form of what it is at each time. -/
theorem turn_spec {a n : List Int} (h : Val a n) (lo hi : Int) (doF : Int → Int × Bool) :
    ((∃ x ∈ spansT a n, BadS lo hi doF x) → turnL lo hi doF (spansT a n) = none) ∧
    ((∀ x ∈ spansT a n, ¬ BadS lo hi doF x) → ∃ out v r, turnL lo hi doF (spansT a n) = some out ∧ out = (0, v) :: r ∧ NF out ∧ (∀ p ∈ out, 0 ≤ p.1 ∧ p.1 ≤ 1099511627776) ∧
      ∀ t, 0 ≤ t → t ≤ 1099511627776 → valD 0 out t = if lo ≤ t ∧ t < hi then (doF (atT t (spansT a n))).1 else atT t (spansT a n)) := by
  obtain ⟨h1, h2⟩ := turnL_pieces lo hi doF (spansT a n) []
  refine ⟨h1, fun hg => ?_⟩
  obtain ⟨r1, r2, ⟨v, r, r3⟩, r4⟩ := raw_spec lo hi doF (spansT a n) 0 (spans_chain h) (by omega)
  obtain ⟨d1, d2, d3, d4, d5, d6⟩ := dedF_spec _ _ rfl r1
  have hout := h2 hg
  rw [putS_ded _ _ rfl r1] at hout
  replace d3 : (dedF ((spansT a n).flatMap (pieces lo hi doF))).head? = some (0, v) := by rw [d3, r3]; rfl
  obtain ⟨r', hr'⟩ : ∃ r', dedF ((spansT a n).flatMap (pieces lo hi doF)) = (0, v) :: r' := by
    cases hd : dedF ((spansT a n).flatMap (pieces lo hi doF)) with
    | nil => rw [hd] at d3; simp at d3
    | cons p r' =>
      rw [hd] at d3
      obtain rfl : p = (0, v) := by simpa using d3
      exact ⟨r', rfl⟩
  exact ⟨_, v, r', hout, hr', d1, fun p hp => r2 p (d6 p hp), fun t t1 t2 => by rw [d2]; exact r4 0 t t1 t2⟩
theorem zip_spans {a n : List Int} (h : a.length = n.length) : (spansT a n).map (fun x => (x.1, x.2.2)) = a.zip n := by
  refine List.ext_getElem (by simp [spansT, h]) fun i h1 h2 => ?_
  have hi : i < a.length := by simp [spansT] at h1; exact h1
  simp [spansT, spanAt, List.getD_eq_getElem?_getD, List.getElem?_eq_getElem hi, List.getElem?_eq_getElem (show i < n.length by omega)]
theorem atT_zip {a n : List Int} (h : a.length = n.length) (t : Int) : atT t (spansT a n) = valD 0 (a.zip n) t := by
  rw [← zip_spans h]
  unfold atT
  generalize (0 : Int) = d
  generalize spansT a n = l
  induction l generalizing d with
  | nil => rfl
  | cons x l ih => exact ih _
theorem zip_out (out : List (Int × Int)) : (out.map (·.1)).zip (out.map (·.2)) = out := by
  induction out with
  | nil => rfl
  | cons p out ih => simp [ih]
theorem NF_get : ∀ {l : List (Int × Int)}, NF l → ∀ j, j + 1 < l.length → (l.map (·.1)).getD j 0 < (l.map (·.1)).getD (j + 1) 0
  | [], _, j, hj => by simp at hj
  | [_], _, j, hj => by simp at hj
  | p :: q :: l, h, 0, hj => by simpa using h.1
  | p :: q :: l, h, j + 1, hj => by
    have := NF_get (l := q :: l) h.2.2 j (by simpa using hj)
    simpa using this
/-- A normal form within the bounds is a profile that may be. -/
theorem val_out {out r : List (Int × Int)} {v : Int} (h1 : out = (0, v) :: r) (h2 : NF out) (h3 : ∀ p ∈ out, 0 ≤ p.1 ∧ p.1 ≤ 1099511627776) (h4 : ∀ p ∈ out, 0 ≤ p.2 ∧ p.2 ≤ 1099511627776) : Val (out.map (·.1)) (out.map (·.2)) := by
  refine ⟨by simp, by simp [h1], by simp [h1], fun x hx => ?_, fun x hx => ?_, fun j hj => NF_get h2 j (by simpa using hj)⟩
  · obtain ⟨p, hp, rfl⟩ := List.mem_map.1 hx; exact h3 p hp
  · obtain ⟨p, hp, rfl⟩ := List.mem_map.1 hx; exact h4 p hp
theorem NF_val_mem : ∀ {l : List (Int × Int)} (d : Int), NF l → ∀ p ∈ l, valD d l p.1 = p.2
  | [], _, _, p, hp => by simp at hp
  | q :: l, d, h, p, hp => by
    show valD (if q.1 ≤ p.1 then q.2 else d) l p.1 = p.2
    rcases List.mem_cons.1 hp with rfl | hp
    · rw [if_pos (Int.le_refl _)]
      exact valD_low l _ _ (NF_low h)
    · exact NF_val_mem _ (NF_tail h) p hp
/-- Two normal forms that are the same at each time are the same. -/
theorem NF_eq {o1 o2 r1 r2 : List (Int × Int)} {v1 v2 : Int} (e1 : o1 = (0, v1) :: r1) (e2 : o2 = (0, v2) :: r2) (n1 : NF o1) (n2 : NF o2) (b1 : ∀ p ∈ o1, p.1 ≤ 1099511627776) (b2 : ∀ p ∈ o2, p.1 ≤ 1099511627776)
    (h : ∀ t, 0 ≤ t → t ≤ 1099511627776 → valD 0 o1 t = valD 0 o2 t) : o1 = o2 := by
  subst e1
  subst e2
  have hv : v1 = v2 := by
    have h0 := h 0 (by omega) (by omega)
    have a1 := NF_val_mem 0 n1 (0, v1) (by simp)
    have a2 := NF_val_mem 0 n2 (0, v2) (by simp)
    dsimp only at a1 a2
    rw [a1, a2] at h0
    exact h0
  subst hv
  have hb : ∀ (r : List (Int × Int)) (t : Int), (∀ p ∈ r, p.1 ≤ 1099511627776) → 1099511627776 ≤ t → ∀ d, valD d r t = valD d r 1099511627776 := by
    intro r t
    induction r with
    | nil => intro _ _ d; rfl
    | cons p r ih =>
      intro hr ht d
      have hp := hr p (by simp)
      show valD (if p.1 ≤ t then p.2 else d) r t = valD (if p.1 ≤ 1099511627776 then p.2 else d) r 1099511627776
      rw [if_pos (by omega), if_pos hp]
      exact ih (fun q hq => hr q (by simp [hq])) ht _
  congr 1
  refine NF_uniq r1 r2 v1 0 n1 n2 (fun t ht => ?_)
  have hq : ∀ t, 0 ≤ t → t ≤ 1099511627776 → valD v1 r1 t = valD v1 r2 t := fun t t1 t2 => by
    have := h t t1 t2
    show valD v1 r1 t = valD v1 r2 t
    have c1 : valD 0 ((0, v1) :: r1) t = valD v1 r1 t := by show valD (if (0 : Int) ≤ t then v1 else 0) r1 t = _; rw [if_pos t1]
    have c2 : valD 0 ((0, v1) :: r2) t = valD v1 r2 t := by show valD (if (0 : Int) ≤ t then v1 else 0) r2 t = _; rw [if_pos t1]
    rw [c1, c2] at this
    exact this
  by_cases h5 : t ≤ 1099511627776
  · exact hq t ht h5
  · rw [hb r1 t (fun p hp => b1 p (by simp [hp])) (by omega), hb r2 t (fun p hp => b2 p (by simp [hp])) (by omega)]
    exact hq _ (by omega) (Int.le_refl _)

end Go.Proofs.Ythbonmpkjkihgaa.Pure
