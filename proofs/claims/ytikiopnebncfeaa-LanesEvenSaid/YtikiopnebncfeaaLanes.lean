/- Plain lemmas on shares: what a split gives to each. -/
import Derived.Test.YtikiopnebncfeaaEv
import Derived.Test.YtikiopnebncfeaaPx
namespace Go.Proofs.Ytikiopnebncfeaa.Pure
open Go.RowKit Go.Proofs.Ytikiopnebncfeaa.P Go.Proofs.YtikiopnebncfeaaW.PrintWords Go.Proofs.YtikiopnebncfeaaW.PrintLast
set_option linter.unusedVariables false
set_option linter.unusedSimpArgs false

theorem clampT_id {x : Int} (h0 : 0 ≤ x) (h1 : x ≤ 1099511627776) : clampT x = x := by unfold clampT; rw [if_neg (by omega), if_neg (by omega)]
theorem takesT_cons (x : Int) (t : List Int) (h : Int) : takesT (x :: t) h = mn x h + takesT t h := by
  have key : ∀ (l : List Int) (s : Int), l.foldl (fun s x => s + mn x h) s = s + l.foldl (fun s x => s + mn x h) 0 := by
    intro l
    induction l with
    | nil => intro s; simp
    | cons a t ih => intro s; simp only [List.foldl_cons]; rw [ih, ih (0 + mn a h)]; omega
  unfold takesT
  simp only [List.foldl_cons]
  rw [key]
  omega
theorem takesT_nil (h : Int) : takesT [] h = 0 := rfl
/-- How many are above a height. -/
def cntT (h : Int) : List Int → Int
  | [] => 0
  | x :: r => (if h < x then 1 else 0) + cntT h r
theorem cntT_nonneg (h : Int) (l : List Int) : 0 ≤ cntT h l := by
  induction l with
  | nil => exact Int.le_refl 0
  | cons a t ih => rw [cntT]; split <;> omega
theorem takesT_mono {h h' : Int} (hh : h ≤ h') (l : List Int) : takesT l h ≤ takesT l h' := by
  induction l with
  | nil => exact Int.le_refl _
  | cons a t ih => rw [takesT_cons, takesT_cons]; have : mn a h ≤ mn a h' := by unfold mn; split <;> split <;> omega
                   omega
theorem takesT_up (h : Int) (l : List Int) : takesT l (h + 1) = takesT l h + cntT h l := by
  induction l with
  | nil => rfl
  | cons a t ih =>
    rw [takesT_cons, takesT_cons, cntT, ih]
    have : mn a (h + 1) = mn a h + if h < a then 1 else 0 := by unfold mn; split <;> split <;> (try split) <;> omega
    omega
theorem takesT_le_sum {h : Int} (l : List Int) : takesT l h ≤ l.sum := by
  induction l with
  | nil => exact Int.le_refl _
  | cons a t ih => rw [takesT_cons, List.sum_cons]; have : mn a h ≤ a := by unfold mn; split <;> omega
                   omega
theorem takesT_len {h : Int} (l : List Int) (h0 : 0 ≤ h) : takesT l h ≤ h * l.length := by
  induction l with
  | nil => simp [takesT_nil]
  | cons a t ih =>
    rw [takesT_cons, List.length_cons]
    have : mn a h ≤ h := by unfold mn; split <;> omega
    have e : h * ((t.length + 1 : Nat) : Int) = h * t.length + h := by rw [Int.natCast_add, Int.mul_add]; simp
    omega
theorem heightT_prop (ws : List Int) (total : Int) (n : Nat) : ∀ lo hi, 0 ≤ lo → lo ≤ hi → hi - lo < 2 ^ n → takesT ws lo ≤ total → (hi = 1099511627776 ∨ total < takesT ws (hi + 1)) →
    takesT ws (heightT ws total n lo hi) ≤ total ∧ (heightT ws total n lo hi = 1099511627776 ∨ total < takesT ws (heightT ws total n lo hi + 1)) := by
  induction n with
  | zero =>
    intro lo hi h0 h1 h2 h3 h4
    have : lo = hi := by simp at h2; omega
    subst this
    exact ⟨h3, h4⟩
  | succ n ih =>
    intro lo hi h0 h1 h2 h3 h4
    rw [heightT]
    have hp : (2 : Int) ^ (n + 1) = 2 * 2 ^ n := by rw [Int.pow_succ, Int.mul_comm]
    rw [hp] at h2
    split
    · split
      · rename_i hlt ht
        exact ih _ _ (by omega) (by omega) (by omega) ht h4
      · rename_i hlt ht
        refine ih _ _ h0 (by omega) (by omega) h3 (.inr ?_)
        rw [show (lo + hi + 1) / 2 - 1 + 1 = (lo + hi + 1) / 2 by omega]
        omega
    · have : lo = hi := by omega
      subst this
      exact ⟨h3, h4⟩
theorem outT_get (h : Int) (l : List Int) : ∀ (left : Int) (i : Nat), i < l.length → (outT h left l).getD i 0 = mn (l.getD i 0) h + if h < l.getD i 0 ∧ cntT h (l.take i) < left then 1 else 0 := by
  induction l with
  | nil => intro left i hi; simp at hi
  | cons a t ih =>
    intro left i hi
    rw [outT_step]
    cases i with
    | zero =>
      simp only [List.take_zero, cntT, List.getD_cons_zero]
      by_cases hc : h < a ∧ 0 < left
      · rw [if_pos hc, if_pos hc]; rfl
      · rw [if_neg hc, if_neg hc]; simp
    | succ i =>
      have hi' : i < t.length := by simpa using hi
      simp only [List.take_succ_cons, cntT, List.getD_cons_succ]
      have hcn := cntT_nonneg h (t.take i)
      by_cases hc : h < a ∧ 0 < left
      · rw [if_pos hc, List.getD_cons_succ, ih _ _ hi', if_pos hc.1]
        congr 1
        have : (cntT h (t.take i) < left - 1) ↔ (1 + cntT h (t.take i) < left) := by omega
        simp only [this]
      · rw [if_neg hc, List.getD_cons_succ, ih _ _ hi']
        congr 1
        by_cases ha : h < a
        · rw [if_pos ha]
          have h0 : ¬ 0 < left := fun hl => hc ⟨ha, hl⟩
          rw [if_neg (by omega), if_neg (by omega)]
        · rw [if_neg ha, Int.zero_add]
theorem outT_sum (h : Int) (l : List Int) : ∀ left : Int, 0 ≤ left → (outT h left l).sum ≤ takesT l h + left := by
  induction l with
  | nil => intro left h0; simp [outT, takesT_nil]; exact h0
  | cons a t ih =>
    intro left h0
    rw [outT_step, takesT_cons]
    split
    · rw [List.sum_cons]; have := ih (left - 1) (by omega); omega
    · rw [List.sum_cons]; have := ih left h0; omega

/-- Of a total and wants that are quantities. -/
def Good (total : Int) (ws : List Int) : Prop := ws.length ≤ 1000 ∧ 0 ≤ total ∧ total ≤ 1099511627776 ∧ ∀ x ∈ ws, 0 ≤ x ∧ x ≤ 1099511627776
theorem good_or (total : Int) (ws : List Int) : Good total ws ∨ (¬ Good total ws ∧ splitT total ws = ([], 2)) := by
  unfold splitT
  by_cases h : 1000 < ws.length ∨ total ≠ clampT total ∨ ws.any badQ = true
  · rw [if_pos h]
    refine .inr ⟨fun hg => ?_, rfl⟩
    rcases h with h | h | h
    · exact absurd hg.1 (by omega)
    · exact h (clampT_id hg.2.1 hg.2.2.1).symm
    · obtain ⟨x, hx, hb⟩ := List.any_eq_true.1 h
      have := hg.2.2.2 x hx
      unfold badQ at hb
      rw [clampT_id this.1 this.2] at hb
      simp at hb
  · left
    have h1 : ¬ 1000 < ws.length := fun hh => h (.inl hh)
    have h2 : total = clampT total := by
      by_cases h2 : total = clampT total
      · exact h2
      · exact absurd (Or.inr (Or.inl h2)) h
    have h3 := quant_of (fun hh => h (.inr (.inr hh)))
    refine ⟨by omega, ?_, ?_, h3⟩
    · rw [h2]; exact clampT_lo _
    · rw [h2]; exact clampT_hi _
/-- The height of a split. -/
def hgt (total : Int) (ws : List Int) : Int := heightT ws total 41 0 1099511627776
theorem split_good {total : Int} {ws : List Int} (h : Good total ws) : splitT total ws = (outT (hgt total ws) (total - takesT ws (hgt total ws)) ws, 0) := by
  unfold splitT hgt
  rw [if_neg]
  rintro (h1 | h1 | h1)
  · exact absurd h.1 (by omega)
  · exact h1 (clampT_id h.2.1 h.2.2.1).symm
  · obtain ⟨x, hx, hb⟩ := List.any_eq_true.1 h1
    have := h.2.2.2 x hx
    unfold badQ at hb
    rw [clampT_id this.1 this.2] at hb
    simp at hb
theorem takesT_zero {ws : List Int} (h : ∀ x ∈ ws, 0 ≤ x ∧ x ≤ 1099511627776) : takesT ws 0 ≤ 0 := by
  have := takesT_len (h := 0) ws (Int.le_refl 0)
  simpa using this
theorem hgt_prop {total : Int} {ws : List Int} (h : Good total ws) : 0 ≤ hgt total ws ∧ hgt total ws ≤ 1099511627776 ∧ takesT ws (hgt total ws) ≤ total ∧ (hgt total ws = 1099511627776 ∨ total < takesT ws (hgt total ws + 1)) := by
  have r := heightT_rng ws total 41 0 1099511627776 (by omega) (by omega)
  have p := heightT_prop ws total 41 0 1099511627776 (by omega) (by omega) (by decide) (Int.le_trans (takesT_zero h.2.2.2) h.2.1) (.inl rfl)
  exact ⟨r.1, r.2, p.1, p.2⟩
/-- What is below the height, or at it, can be filled; it is the greatest. -/
theorem hgt_ge {total : Int} {ws : List Int} (h : Good total ws) {q : Int} (hq : q ≤ 1099511627776) (ht : takesT ws q ≤ total) : q ≤ hgt total ws := by
  obtain ⟨h0, h1, h2, h3⟩ := hgt_prop h
  rcases Int.lt_or_le (hgt total ws) q with hlt | hle
  · rcases h3 with h3 | h3
    · omega
    · have := takesT_mono (show hgt total ws + 1 ≤ q by omega) ws
      omega
  · exact hle
/-- The shares of a good split. -/
def share (total : Int) (ws : List Int) : List Int := outT (hgt total ws) (total - takesT ws (hgt total ws)) ws
theorem share_len (total : Int) (ws : List Int) : (share total ws).length = ws.length := outT_length _ _ _
theorem share_get (total : Int) (ws : List Int) (i : Nat) (hi : i < ws.length) : (share total ws).getD i 0 = mn (ws.getD i 0) (hgt total ws) + if hgt total ws < ws.getD i 0 ∧ cntT (hgt total ws) (ws.take i) < total - takesT ws (hgt total ws) then 1 else 0 := outT_get _ _ _ _ hi
theorem share_rng {total : Int} {ws : List Int} (h : Good total ws) (i : Nat) (hi : i < ws.length) : 0 ≤ (share total ws).getD i 0 ∧ (share total ws).getD i 0 ≤ ws.getD i 0 := by
  rw [share_get _ _ _ hi]
  have p := hgt_prop h
  have hm := h.2.2.2 (ws.getD i 0) (by rw [List.getD_eq_getElem?_getD, List.getElem?_eq_getElem hi]; exact List.getElem_mem hi)
  unfold mn
  split <;> split <;> omega
theorem head_ends : Ev (fun k => forebaylaw18_head.f k) true := Ev.of (fun k => forebaylaw18_head.mono k) (k := 8) (by decide +kernel)

end Go.Proofs.Ytikiopnebncfeaa.Pure
