/- Profiles as plain functions of the time; their normal form. -/
import Derived.Test.YthbonmpkjkihgaaEv
import Derived.Test.YthbonmpkjkihgaaPx
namespace Go.Proofs.Ythbonmpkjkihgaa.Pure
open Go.RowKit Go.Proofs.Ythbonmpkjkihgaa.P Go.Proofs.YthbonmpkjkihgaaW.PrintWords Go.Proofs.YthbonmpkjkihgaaW.PrintLast Go.Proofs.YthbonmpkjkihgaaW.PrintMore
set_option linter.unusedVariables false
set_option linter.unusedSimpArgs false

/-- The value at a time, d ahead of the first. -/
def valD : Int → List (Int × Int) → Int → Int
  | d, [], _ => d
  | d, p :: l, t => valD (if p.1 ≤ t then p.2 else d) l t
theorem valD_append (a b : List (Int × Int)) : ∀ (d t : Int), valD d (a ++ b) t = valD (valD d a t) b t := by
  induction a with
  | nil => intro d t; rfl
  | cons p a ih => intro d t; exact ih _ t
theorem valD_low (l : List (Int × Int)) (t : Int) : ∀ d, (∀ p ∈ l, t < p.1) → valD d l t = d := by
  induction l with
  | nil => intro d _; rfl
  | cons p l ih =>
    intro d h
    have h1 := h p (by simp)
    show valD (if p.1 ≤ t then p.2 else d) l t = d
    rw [if_neg (by omega)]
    exact ih d (fun q hq => h q (by simp [hq]))
/-- Rising in time, and no value twice behind one another. -/
def NF : List (Int × Int) → Prop
  | [] => True
  | [_] => True
  | p :: q :: l => p.1 < q.1 ∧ p.2 ≠ q.2 ∧ NF (q :: l)
theorem NF_tail {p : Int × Int} {l : List (Int × Int)} (h : NF (p :: l)) : NF l := by
  cases l with
  | nil => trivial
  | cons q l => exact h.2.2
theorem NF_low {p : Int × Int} : ∀ {l : List (Int × Int)}, NF (p :: l) → ∀ q ∈ l, p.1 < q.1 := by
  intro l
  induction l generalizing p with
  | nil => intro _ q hq; simp at hq
  | cons r l ih =>
    intro h q hq
    rcases List.mem_cons.1 hq with rfl | hq
    · exact h.1
    · have := ih h.2.2 q hq; have := h.1; omega
theorem NF_uniq : ∀ (c1 c2 : List (Int × Int)) (d s : Int), NF ((s, d) :: c1) → NF ((s, d) :: c2) → (∀ t, s ≤ t → valD d c1 t = valD d c2 t) → c1 = c2
  | [], [], _, _, _, _, _ => rfl
  | [], q :: c2, d, s, _, h2, h => by
    have h3 := h q.1 (by have := h2.1; dsimp only at this; omega)
    have h4 := valD_low c2 q.1 q.2 (NF_low h2.2.2)
    have h5 : valD d (q :: c2) q.1 = valD q.2 c2 q.1 := by show valD (if q.1 ≤ q.1 then q.2 else d) c2 q.1 = _; rw [if_pos (Int.le_refl _)]
    rw [h5, h4] at h3
    exact absurd h3 h2.2.1
  | p :: c1, [], d, s, h1, _, h => by
    have h3 := h p.1 (by have := h1.1; dsimp only at this; omega)
    have h4 := valD_low c1 p.1 p.2 (NF_low h1.2.2)
    have h5 : valD d (p :: c1) p.1 = valD p.2 c1 p.1 := by show valD (if p.1 ≤ p.1 then p.2 else d) c1 p.1 = _; rw [if_pos (Int.le_refl _)]
    rw [h5, h4] at h3
    exact absurd h3.symm h1.2.1
  | p :: c1, q :: c2, d, s, h1, h2, h => by
    have a1 := h1.1
    have a2 := h2.1
    dsimp only at a1 a2
    have n1 := h1.2.1
    have n2 := h2.2.1
    have v1 : ∀ t, p.1 ≤ t → valD d (p :: c1) t = valD p.2 c1 t := fun t ht => by show valD (if p.1 ≤ t then p.2 else d) c1 t = _; rw [if_pos ht]
    have v2 : ∀ t, q.1 ≤ t → valD d (q :: c2) t = valD q.2 c2 t := fun t ht => by show valD (if q.1 ≤ t then q.2 else d) c2 t = _; rw [if_pos ht]
    have w1 := valD_low c1 p.1 p.2 (NF_low h1.2.2)
    have w2 := valD_low c2 q.1 q.2 (NF_low h2.2.2)
    have l1 : ∀ t, t < p.1 → valD d (p :: c1) t = d := fun t ht => valD_low _ t d (fun r hr => by
      rcases List.mem_cons.1 hr with rfl | hr
      · exact ht
      · have := NF_low h1.2.2 r hr; omega)
    have l2 : ∀ t, t < q.1 → valD d (q :: c2) t = d := fun t ht => valD_low _ t d (fun r hr => by
      rcases List.mem_cons.1 hr with rfl | hr
      · exact ht
      · have := NF_low h2.2.2 r hr; omega)
    have e1 : p.1 = q.1 := by
      rcases Int.lt_trichotomy p.1 q.1 with h3 | h3 | h3
      · have h4 := h p.1 (by omega)
        rw [v1 _ (Int.le_refl _), w1, l2 _ h3] at h4
        exact absurd h4.symm n1
      · exact h3
      · have h4 := h q.1 (by omega)
        rw [v2 _ (Int.le_refl _), w2, l1 _ h3] at h4
        exact absurd h4 n2
    have e2 : p.2 = q.2 := by
      have h4 := h p.1 (by omega)
      rw [v1 _ (Int.le_refl _), w1, e1, v2 _ (Int.le_refl _), w2] at h4
      exact h4
    have e : p = q := Prod.ext e1 e2
    subst e
    congr 1
    refine NF_uniq c1 c2 p.2 p.1 h1.2.2 h2.2.2 (fun t ht => ?_)
    have h4 := h t (by omega)
    rwa [v1 t ht, v2 t ht] at h4
/-- A step put behind, if its value is another one. -/
def putD (l : List (Int × Int)) (p : Int × Int) : List (Int × Int) := if l.getLast?.map (·.2) = some p.2 then l else l ++ [p]
def dedF (r : List (Int × Int)) : List (Int × Int) := r.foldl putD []
theorem dedF_snoc (r : List (Int × Int)) (p : Int × Int) : dedF (r ++ [p]) = putD (dedF r) p := by simp [dedF, List.foldl_append]
theorem NF_snoc : ∀ (l : List (Int × Int)) (q p : Int × Int), NF (l ++ [q]) → q.1 < p.1 → q.2 ≠ p.2 → NF (l ++ [q] ++ [p])
  | [], q, p, _, h1, h2 => ⟨h1, h2, trivial⟩
  | [r], q, p, h, h1, h2 => ⟨h.1, h.2.1, h1, h2, trivial⟩
  | r :: s :: l, q, p, h, h1, h2 => ⟨h.1, h.2.1, NF_snoc (s :: l) q p h.2.2 h1 h2⟩
def Rising (l : List (Int × Int)) : Prop := l.Pairwise (fun p q => p.1 < q.1)
theorem valD_high (r : List (Int × Int)) (z : Int × Int) (d t : Int) (h : z.1 ≤ t) : valD d (r ++ [z]) t = z.2 := by
  rw [valD_append]
  show (if z.1 ≤ t then z.2 else _) = z.2
  rw [if_pos h]
theorem NF_last : ∀ (l : List (Int × Int)) (q p : Int × Int), l.getLast? = some q → NF l → q.1 < p.1 → q.2 ≠ p.2 → NF (l ++ [p]) := by
  intro l q p hq h h1 h2
  rcases List.eq_nil_or_concat l with rfl | ⟨l', z, rfl⟩
  · simp at hq
  · rw [List.concat_eq_append] at *
    rw [List.getLast?_concat] at hq
    obtain rfl := Option.some.inj hq
    exact NF_snoc l' z p h h1 h2
/-- What the doubles' leaving out leaves: the same values, in normal form. -/
theorem dedF_spec (m : Nat) : ∀ (r : List (Int × Int)), r.length = m → Rising r → NF (dedF r) ∧ (∀ d t, valD d (dedF r) t = valD d r t) ∧ (dedF r).head? = r.head? ∧ (dedF r).length ≤ r.length ∧ (∀ z, r.getLast? = some z → ∃ q, (dedF r).getLast? = some q ∧ q.1 ≤ z.1 ∧ q.2 = z.2) ∧ (∀ q ∈ dedF r, q ∈ r) := by
  induction m with
  | zero =>
    intro r hm _
    obtain rfl := List.length_eq_zero_iff.1 hm
    exact ⟨trivial, fun _ _ => rfl, rfl, Nat.le_refl _, fun z hz => by simp at hz, fun q hq => hq⟩
  | succ m ih =>
    intro r hm hr
    rcases List.eq_nil_or_concat r with rfl | ⟨r', p, rfl⟩
    · simp at hm
    rw [List.concat_eq_append] at *
    have hr2 := List.pairwise_append.1 hr
    obtain ⟨i1, i2, i3, i4, i5, i6⟩ := ih r' (by simpa using hm) hr2.1
    rw [dedF_snoc]
    rcases List.eq_nil_or_concat r' with rfl | ⟨r2, z, rfl⟩
    · refine ⟨trivial, fun _ _ => rfl, rfl, Nat.le_refl _, fun z hz => ?_, fun q hq => hq⟩
      rw [List.getLast?_concat] at hz
      obtain rfl := Option.some.inj hz
      exact ⟨_, rfl, Int.le_refl _, rfl⟩
    · rw [List.concat_eq_append] at *
      obtain ⟨q, q1, q2, q3⟩ := i5 z (List.getLast?_concat)
      have hzp : z.1 < p.1 := hr2.2.2 z (by simp) p (by simp)
      have hne : r2 ++ [z] ≠ [] := by simp
      have hd0 : dedF (r2 ++ [z]) ≠ [] := fun e => by rw [e] at q1; simp at q1
      unfold putD
      rw [q1]
      by_cases hv : q.2 = p.2
      · rw [if_pos (by simp [hv])]
        refine ⟨i1, fun d t => ?_, ?_, by simp at i4 ⊢; omega, fun y hy => ?_, fun y hy => List.mem_append_left _ (i6 y hy)⟩
        · rw [i2, valD_append (r2 ++ [z]) [p]]
          show _ = if p.1 ≤ t then p.2 else _
          by_cases ht : p.1 ≤ t
          · rw [if_pos ht, valD_high r2 z d t (by omega), ← q3, hv]
          · rw [if_neg ht]
        · rw [i3]
          cases r2 <;> rfl
        · rw [List.getLast?_concat] at hy
          obtain rfl := Option.some.inj hy
          exact ⟨q, q1, by omega, hv⟩
      · rw [if_neg (by simp [hv])]
        refine ⟨NF_last _ q p q1 i1 (by omega) hv, fun d t => ?_, ?_, by simp at i4 ⊢; omega, fun y hy => ?_, fun y hy => ?_⟩
        · rw [valD_append, valD_append (r2 ++ [z]) [p], i2]
        · rw [List.head?_append, i3]
          cases r2 <;> rfl
        · rw [List.getLast?_concat] at hy
          obtain rfl := Option.some.inj hy
          exact ⟨_, List.getLast?_concat, Int.le_refl _, rfl⟩
        · rcases List.mem_append.1 hy with h | h
          · exact List.mem_append_left _ (i6 y h)
          · exact List.mem_append_right _ h
/-- Put behind as the program does it: in rising time it is the same. -/
theorem putS_ded (m : Nat) : ∀ (r : List (Int × Int)), r.length = m → Rising r → r.foldl (fun o p => putS o p.1 p.2) [] = dedF r := by
  induction m with
  | zero => intro r hm _; obtain rfl := List.length_eq_zero_iff.1 hm; rfl
  | succ m ih =>
    intro r hm hr
    rcases List.eq_nil_or_concat r with rfl | ⟨r', p, rfl⟩
    · rfl
    rw [List.concat_eq_append] at *
    have hr2 := List.pairwise_append.1 hr
    rw [List.foldl_append, ih r' (by simpa using hm) hr2.1, dedF_snoc]
    show putS (dedF r') p.1 p.2 = putD (dedF r') p
    obtain ⟨i1, i2, i3, i4, i5, i6⟩ := dedF_spec r'.length r' rfl hr2.1
    unfold putS putD
    cases h : (dedF r').getLast? with
    | none =>
      have := List.getLast?_eq_none_iff.1 h
      simp [this]
    | some q =>
      have hq : q ∈ dedF r' := List.mem_of_getLast? h
      have h2 := hr2.2.2 q (i6 q hq) p (by simp)
      by_cases hv : q.2 = p.2
      · simp [hv]
      · simp [hv, show ¬ q.1 = p.1 by omega]

end Go.Proofs.Ythbonmpkjkihgaa.Pure
