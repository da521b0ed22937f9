/- NodesNews: a new row has so many nodes, all of them free. -/
import Derived.Test.YtifebcdkckjphaaPx4
namespace Go.Proofs.Ytifebcdkckjphaa.Pure
open Go.RowKit Go.Proofs.Ytifebcdkckjphaa.P Go.Proofs.YtifebcdkckjphaaW.PrintWords Go.Proofs.YtifebcdkckjphaaW.PrintLast
set_option linter.unusedVariables false
set_option linter.unusedSimpArgs false

theorem posU_all (p : S35 → Bool) (l : List S35) (h : ∀ x ∈ l, p x = true) : ∀ i, i ≤ l.length → (posU p l i).length = i
  | 0, _ => rfl
  | i + 1, hi => by
    rw [posU_succ, List.length_append, posU_all p l h i (by omega)]
    have : p (l.getD i z35) = true := by
      rw [List.getD_eq_getElem?_getD, List.getElem?_eq_getElem (by omega)]
      exact h _ (List.getElem_mem _)
    rw [if_pos this]; rfl
theorem posT_all (p : S35 → Bool) (l : List S35) (hk : okNodes l = true) (h : ∀ x ∈ l, p x = true) : (posT p l).length = l.length := by
  unfold posT
  rw [if_pos hk]
  exact posU_all p l h _ (Nat.le_refl _)
theorem okNodes_new (n : Nat) (h1 : 1 ≤ n) (h2 : n ≤ 64) : okNodes (List.replicate n (⟨true, true, 0⟩ : S35)) = true := by
  unfold okNodes
  rw [List.length_replicate, decide_eq_true ⟨h1, h2⟩]
  have : (List.replicate n (⟨true, true, 0⟩ : S35)).any badN = false := by
    rw [List.any_eq_false]
    intro x hx
    obtain rfl := List.eq_of_mem_replicate hx
    decide
  rw [this]; rfl
theorem NodesNews : forebaylaw20_NodesNews.Pure := by
  intro a0 _
  refine ⟨1, ?_⟩
  have hnew : nodes_New.f a0 = some (newR a0) := rfl
  unfold forebaylaw20_NodesNews.f
  rw [hnew, Option.bind_some]
  by_cases h1 : 1 ≤ a0 ∧ a0 ≤ 64
  case neg =>
    have hR : newR a0 = ([], 2) := by unfold newR; rw [if_neg h1]
    rw [hR]
    by_cases h2 : a0 < 1
    · rw [if_pos h2]; rfl
    · rw [if_neg h2, decide_eq_true (show a0 > 64 by omega)]; rfl
  · obtain ⟨n, rfl⟩ := Int.eq_ofNat_of_zero_le (show 0 ≤ a0 by omega)
    have hR : newR (n : Int) = (List.replicate n ⟨true, true, 0⟩, 0) := by unfold newR; rw [if_pos h1, Int.toNat_natCast]
    have hk := okNodes_new n (by omega) (by omega)
    rw [hR, if_neg (by omega), decide_eq_false (by omega)]
    have hf : nodes_Free.f (List.replicate n (⟨true, true, 0⟩ : S35)) = some (n : Int) := by
      unfold nodes_Free.f
      rw [posT_all freeP _ hk (fun x hx => by obtain rfl := List.eq_of_mem_replicate hx; rfl), List.length_replicate]
    have hu : nodes_Usable.f (List.replicate n (⟨true, true, 0⟩ : S35)) = some (n : Int) := by
      unfold nodes_Usable.f
      rw [posT_all usableP _ hk (fun x hx => by obtain rfl := List.eq_of_mem_replicate hx; rfl), List.length_replicate]
    have hc : nodes_Check.f (List.replicate n (⟨true, true, 0⟩ : S35)) = some 0 := by
      unfold nodes_Check.f
      rw [if_pos hk]
    simp [forebaylaw20_NodesNews.j0, hf, hu, hc, forebaylaw20_head.f]
end Go.Proofs.Ytifebcdkckjphaa.Pure
