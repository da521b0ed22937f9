/- PackShort: for all numbers, a greater number never has fewer bytes, no number's bytes begin another one's, and signed numbers near 0 have one byte. -/
import Derived.Test.YtphmejgipjcppaaPack
namespace Go.Proofs.Ytphmejgipjcppaa.Pure
open Go.RowKit Go.Proofs.Ytphmejgipjcppaa.P Go.Proofs.YtphmejgipjcppaaW.PrintWords Go.Proofs.YtphmejgipjcppaaW.PrintLast
set_option linter.unusedVariables false
set_option linter.unusedSimpArgs false

theorem one_ev (n : Int) (h0 : -64 ≤ n) (h1 : n ≤ 63) : Ev (fun k => pack_Int.f k [] [n]) [foldT n] := by
  have := int_ev [] [n] (by simp) (by simp) (fun x hx => by rw [List.mem_singleton.1 hx]; omega)
  refine this.eq ?_
  have : foldT n < 128 := by unfold foldT; split <;> omega
  simp [intsT, numT_last this]
theorem short_ok (a b : Int) (ha : 0 ≤ a) (hab : a ≤ b) (hb : b < 18446744073709551616) : ∃ K, ∀ k, K ≤ k → ShortOk k a b := by
  have r0 : 0 ≤ a % 64 := Int.emod_nonneg a (by omega)
  have r1 : a % 64 < 64 := Int.emod_lt_of_pos a (by omega)
  obtain ⟨K1, h1⟩ := one_ev (a % 64) (by omega) (by omega)
  obtain ⟨K2, h2⟩ := one_ev (-(a % 64)) (by omega) (by omega)
  obtain ⟨K3, h3⟩ := one_ev (-(a % 64) - 1) (by omega) (by omega)
  obtain ⟨K4, h4⟩ := head_ev
  refine ⟨K1 + K2 + K3 + K4, fun k hk => ⟨ha, by omega, by omega, hb, ?_, ?_, ?_, ?_, ⟨_, h1 k (by omega)⟩, ⟨_, h2 k (by omega)⟩, ⟨_, h3 k (by omega)⟩, h4 k (by omega)⟩⟩
  · rw [strOfNums_len, strOfNums_len]; exact numT_mono a.toNat a b (Nat.le_refl _) ha hab
  · rw [strOfNums_len]; exact numT_ten hb
  · rw [strOfNums_len]; exact numT_pos a
  · intro hne he
    rw [ba_toList, ba_toList, ba_take, strOfNums_list, strOfNums_list, ← List.map_take] at he
    have he2 := bytes_inj _ _ (fun x hx => numT_range (show 0 ≤ b by omega) x (List.mem_of_mem_take hx)) (numT_range ha) he
    exact hne (numT_prefix a.toNat a b (Nat.le_refl _) ha (by omega) (he2 ▸ List.take_prefix _ _))
theorem PackShort : forebaylaw01_PackShort.Pure := by
  intro a b ha hb
  have ha := wf_u64 ha
  have hb := wf_u64 hb
  obtain ⟨K, hK⟩ := short_ok (if b < a then b else a) (if b < a then a else b) (by split <;> omega) (by split <;> omega) (by split <;> omega)
  refine ⟨K, ?_⟩
  unfold forebaylaw01_PackShort.f
  rw [@if_pos _ (Classical.propDecidable _) (hK K (Nat.le_refl _))]
end Go.Proofs.Ytphmejgipjcppaa.Pure
