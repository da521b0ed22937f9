/- PackReads: for all bytes (of at most 400; else the known answers alone), a reader tells just what stands there packed in as few bytes as can be, and behind the first thing that is none nothing. -/
import Derived.Test.YtphmejgipjcppaaReadNum
namespace Go.Proofs.Ytphmejgipjcppaa.Pure
open Go.RowKit Go.Proofs.Ytphmejgipjcppaa.P Go.Proofs.YtphmejgipjcppaaW.PrintWords Go.Proofs.YtphmejgipjcppaaW.PrintLast
set_option linter.unusedVariables false
set_option linter.unusedSimpArgs false

theorem all_ev (s : ByteArray) (hs : s.size ≤ 400) (n : Nat) : ∃ K, ∀ k, K ≤ k → ∀ j, j < n → forebayref01_ReadNum.f k (s.extract j s.size) = some (rdN (s.extract j s.size)) := by
  induction n with
  | zero => exact ⟨0, fun _ _ j hj => by omega⟩
  | succ n ih =>
    obtain ⟨K1, h1⟩ := ih
    obtain ⟨K2, h2⟩ := readNum_ev (s.extract n s.size) (by rw [ext_size]; omega)
    refine ⟨K1 + K2, fun k hk j hj => ?_⟩
    by_cases e : j = n
    · rw [e]; exact h2 k (by omega)
    · exact h1 k (by omega) j (by omega)
theorem PackReads : forebaylaw01_PackReads.Pure := by
  intro s a1 a2 hs h1 h2
  have h1 := wf_u8 h1
  have h2 := wf_u8 h2
  obtain ⟨K1, e1⟩ := head_ev
  by_cases h4 : s.size ≤ 400
  · obtain ⟨K2, e2⟩ := all_ev s h4 (s.size + 1)
    refine ⟨K1 + K2, ?_⟩
    unfold forebaylaw01_PackReads.f
    rw [@if_pos _ (Classical.propDecidable _) ⟨⟨e1 _ (by omega), fun _ j hj => e2 _ (by omega) j (by omega)⟩, h1, h2⟩]
  · refine ⟨K1, ?_⟩
    unfold forebaylaw01_PackReads.f
    rw [@if_pos _ (Classical.propDecidable _) ⟨⟨e1 _ (Nat.le_refl _), fun h => absurd h h4⟩, h1, h2⟩]
end Go.Proofs.Ytphmejgipjcppaa.Pure
