/- SatSums: for every row of numbers (of at most 100; of longer ones the known answers alone), the sum is the document's, is not below any of them, and is the same of the row turned about. -/
import Derived.Test.YtnbfnhddjekhlaaSat
namespace Go.Proofs.Ytnbfnhddjekhlaa.Pure
open Go.RowKit Go.Proofs.Ytnbfnhddjekhlaa.P Go.Proofs.YtnbfnhddjekhlaaW.PrintWords Go.Proofs.YtnbfnhddjekhlaaW.PrintLast

/-- The sum of what the numbers of a row are brought to, without a top. -/
def plainSum (l : List Int) : Int := (l.map clampT).sum
theorem plainSum_nonneg (l : List Int) : 0 ≤ plainSum l := by
  induction l with
  | nil => exact Int.le_refl 0
  | cons a t ih => have := clampT_lo a; simp only [plainSum, List.map_cons, List.sum_cons] at *; omega
theorem sumT_eq (l : List Int) : ∀ s, 0 ≤ s → sumT (clampT s) l = clampT (s + plainSum l) := by
  induction l with
  | nil => intro s _; simp [sumT, plainSum]
  | cons a t ih =>
    intro s hs
    have h1 := clampT_lo a
    show sumT (clampT (clampT (clampT s) + clampT a)) t = _
    rw [clampT_clampT, clampT_add_l hs h1, ih _ (by omega)]
    simp only [plainSum, List.map_cons, List.sum_cons]
    congr 1
    omega
theorem sumT_zero (l : List Int) : sumT 0 l = clampT (plainSum l) := by
  have := sumT_eq l 0 (by omega)
  rwa [Int.zero_add] at this
theorem plainSum_append (l m : List Int) : plainSum (l ++ m) = plainSum l + plainSum m := by simp [plainSum]
theorem plainSum_reverse (l : List Int) : plainSum l.reverse = plainSum l := by
  induction l with
  | nil => rfl
  | cons a t ih => rw [List.reverse_cons, plainSum_append, ih]; simp [plainSum, Int.add_comm]
theorem plainSum_mem {l : List Int} {x : Int} (h : x ∈ l) : clampT x ≤ plainSum l := by
  induction l with
  | nil => cases h
  | cons a t ih =>
    have h0 := clampT_lo a
    have h1 := plainSum_nonneg t
    simp only [plainSum, List.map_cons, List.sum_cons] at *
    rcases List.mem_cons.1 h with rfl | h
    · omega
    · have := ih h; omega
theorem ref_sum_l (l : List Int) (hl : l.length ≤ 100) (d : Nat) : ∀ (s i : Int), 0 ≤ i → (l.length : Int) - i = d → Ev (fun k => forebayref03_Sum.l0 k l s i) (sumT s (l.drop i.toNat)) := by
  induction d with
  | zero =>
    intro s i h0 hd
    refine Ev.succ ?_
    simp only [forebayref03_Sum.l0]
    refine Ev.neg (by omega) (Ev.const ?_)
    rw [List.drop_of_length_le (by omega)]
    rfl
  | succ d ih =>
    intro s i h0 hd
    refine Ev.succ ?_
    simp only [forebayref03_Sum.l0]
    refine Ev.pos (by omega) (Ev.pos h0 (Ev.eq_bind (ref_Add _ _) ?_))
    rw [show wrap64 (i + 1) = i + 1 by unfold wrap64; omega]
    refine (ih _ (i + 1) (by omega) (by omega)).eq ?_
    rw [show (i + 1).toNat = i.toNat + 1 by omega, List.drop_eq_getElem_cons (i := i.toNat) (by omega)]
    show _ = sumT (addT s _) _
    unfold addT rd
    rw [List.getD_eq_getElem?_getD, List.getElem?_eq_getElem (by omega)]
    rfl
theorem sums_l (l : List Int) (hl : l.length ≤ 100) (d : Nat) : ∀ (m : List Int) (i : Int), i + 1 = d → i < l.length → m = (l.drop d).reverse →
    Ev (fun k => forebaylaw03_SatSums.l0 k l (sumT 0 l) m i) true := by
  induction d with
  | zero =>
    intro m i hd hi hm
    refine Ev.succ ?_
    simp only [forebaylaw03_SatSums.l0]
    refine Ev.neg (by omega) ?_
    refine Ev.bind (by unfold forebayref03_Sum.f; exact ref_sum_l l hl l.length 0 0 (by omega) (by omega)) ?_
    refine Ev.pos (by simp) ?_
    refine Ev.eq_bind (a := sumT 0 m) rfl (Ev.pos ?_ ?_)
    · rw [hm, List.drop_zero, sumT_zero, sumT_zero, plainSum_reverse]
    · exact Ev.bind head_ends (Ev.const rfl)
  | succ d ih =>
    intro m i hd hi hm
    have hml : m.length ≤ 100 := by rw [hm, List.length_reverse, List.length_drop]; omega
    refine Ev.succ ?_
    simp only [forebaylaw03_SatSums.l0]
    refine Ev.pos (by omega) (Ev.pos (by omega) (Ev.pos (by omega) (Ev.pos (by omega) (Ev.eq_bind (a := clampT (rd l i)) rfl ?_))))
    have hmem : rd l i ∈ l := by unfold rd; rw [List.getD_eq_getElem?_getD, List.getElem?_eq_getElem (by omega)]; exact List.getElem_mem _
    refine Ev.neg ?_ ?_
    · have h1 := plainSum_mem hmem
      have h2 := clampT_mono h1
      rw [clampT_clampT] at h2
      rw [sumT_zero]
      omega
    · rw [show wrap64 (i - 1) = i - 1 by unfold wrap64; omega]
      refine ih _ _ (by omega) (by omega) ?_
      rw [hm, List.drop_eq_getElem_cons (i := d) (by omega), List.reverse_cons]
      congr 2
      unfold rd
      rw [List.getD_eq_getElem?_getD, List.getElem?_eq_getElem (by omega), Option.getD_some]
      congr 1
      omega

theorem SatSums : forebaylaw03_SatSums.Pure := by
  intro l _ _ _
  refine Ev.rounds (g := fun k => forebaylaw03_SatSums.f k l) ?_
  unfold forebaylaw03_SatSums.f
  refine Ev.ite (fun _ => Ev.bind head_ends (Ev.const rfl)) (fun h => ?_)
  refine Ev.eq_bind (a := sumT 0 l) rfl ?_
  rw [show wrap64 ((l.length : Int) - 1) = (l.length : Int) - 1 by unfold wrap64; omega]
  exact sums_l l (by omega) l.length [] _ (by omega) (by omega) (by simp)

end Go.Proofs.Ytnbfnhddjekhlaa.Pure
