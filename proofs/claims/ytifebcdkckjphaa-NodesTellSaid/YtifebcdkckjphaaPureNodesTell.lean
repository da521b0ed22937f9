/- NodesTell: all calls tell what the document says. -/
import Derived.Test.YtifebcdkckjphaaNodesRef
namespace Go.Proofs.Ytifebcdkckjphaa.Pure
open Go.RowKit Go.Proofs.Ytifebcdkckjphaa.P Go.Proofs.YtifebcdkckjphaaW.PrintWords Go.Proofs.YtifebcdkckjphaaW.PrintLast
set_option linter.unusedVariables false
set_option linter.unusedSimpArgs false

theorem turnR_len (dp : S35 → Bool) (ds : S35 → S35) (l : List S35) (i : Int) (hl : l.length ≤ 80) : (turnR dp ds l i).1.length ≤ 80 := by
  unfold turnR
  split
  · split
    · split
      · simpa using hl
      · simp
    · simp
  · simp
theorem giveR_len (l : List S35) (n m : Int) (hl : l.length ≤ 80) : (giveR l n m).1.length ≤ 80 ∧ (giveR l n m).2.1.length ≤ 80 := by
  unfold giveR
  split
  · split
    · simp
    · split
      · simp
      · refine ⟨by rw [giveL_len]; exact hl, ?_⟩
        have := posT_length freeP l
        rw [List.length_take]
        omega
  · simp
theorem clearR_len (l : List S35) (n : Int) (hl : l.length ≤ 80) : (clearR l n).1.length ≤ 80 := by
  unfold clearR
  split
  · split
    · simp
    · rw [clearL_len]; exact hl
  · simp
theorem tell_head : Ev (fun k => (forebaylaw20_head.f).bind fun t => some t) true := Ev.const rfl
theorem tell_l (l : List S35) (n : Int) (hl : l.length ≤ 80) : Ev (fun k => forebaylaw20_NodesTell.l0 k l n 0) true := by
  have h4 : Ev (fun k => forebaylaw20_NodesTell.l0 k l n 4) true := by
    refine Ev.succ ?_
    simp only [forebaylaw20_NodesTell.l0]
    exact Ev.neg (by omega) (Ev.const rfl)
  have h3 : Ev (fun k => forebaylaw20_NodesTell.l0 k l n 3) true := by
    have hs := same_same (turnR (fun x => x.f1 != false) (fun x => ⟨x.f0, false, x.f2⟩) l n).1 (Nat.le_trans (turnR_len _ _ l n hl) (by omega))
    refine Ev.succ ?_
    simp only [forebaylaw20_NodesTell.l0]
    refine Ev.pos (by omega) (Ev.eq_bind (show forebayref20_Turn.f l n 3 = some (refTurn l n 3) from rfl) ?_)
    rw [turn_shut]
    refine Ev.neg (by omega) (Ev.neg (by omega) (Ev.neg (by omega) (Ev.pos trivial (Ev.eq_bind (show nodes_Open.f l n false = some _ from rfl) (Ev.bind hs (Ev.pos rfl (Ev.pos rfl (Ev.pos rfl ?_))))))))
    rw [show wrap64 (3 + 1) = 4 by unfold wrap64; omega]
    exact h4
  have h2 : Ev (fun k => forebaylaw20_NodesTell.l0 k l n 2) true := by
    have hs := same_same (turnR (fun x => x.f1 != true) (fun x => ⟨x.f0, true, x.f2⟩) l n).1 (Nat.le_trans (turnR_len _ _ l n hl) (by omega))
    refine Ev.succ ?_
    simp only [forebaylaw20_NodesTell.l0]
    refine Ev.pos (by omega) (Ev.eq_bind (show forebayref20_Turn.f l n 2 = some (refTurn l n 2) from rfl) ?_)
    rw [turn_open]
    refine Ev.neg (by omega) (Ev.neg (by omega) (Ev.pos trivial (Ev.eq_bind (show nodes_Open.f l n true = some _ from rfl) (Ev.bind hs (Ev.pos rfl (Ev.pos rfl (Ev.pos rfl ?_)))))))
    rw [show wrap64 (2 + 1) = 3 by unfold wrap64; omega]
    exact h3
  have h1 : Ev (fun k => forebaylaw20_NodesTell.l0 k l n 1) true := by
    have hs := same_same (turnR (fun x => !x.f0) (fun x => ⟨true, x.f1, x.f2⟩) l n).1 (Nat.le_trans (turnR_len _ _ l n hl) (by omega))
    refine Ev.succ ?_
    simp only [forebaylaw20_NodesTell.l0]
    refine Ev.pos (by omega) (Ev.eq_bind (show forebayref20_Turn.f l n 1 = some (refTurn l n 1) from rfl) ?_)
    rw [turn_up]
    refine Ev.neg (by omega) (Ev.pos trivial (Ev.eq_bind (show nodes_Up.f l n = some _ from rfl) (Ev.bind hs (Ev.pos rfl (Ev.pos rfl (Ev.pos rfl ?_))))))
    rw [show wrap64 (1 + 1) = 2 by unfold wrap64; omega]
    exact h2
  have hs := same_same (failR l n).1 (Nat.le_trans (turnR_len _ _ l n hl) (by omega))
  refine Ev.succ ?_
  simp only [forebaylaw20_NodesTell.l0]
  refine Ev.pos (by omega) (Ev.eq_bind (show forebayref20_Turn.f l n 0 = some (refTurn l n 0) from rfl) ?_)
  rw [turn_fail]
  refine Ev.pos trivial (Ev.eq_bind (show nodes_Fail.f l n = some _ from rfl) (Ev.bind hs (Ev.pos rfl (Ev.pos rfl (Ev.pos rfl ?_)))))
  rw [show wrap64 (0 + 1) = 1 by unfold wrap64; omega]
  exact h1
theorem NodesTell : forebaylaw20_NodesTell.Pure := by
  intro l a1 a2 _ _ _
  suffices h : Ev (fun k => forebaylaw20_NodesTell.f k l a1 a2) true from h.rounds
  unfold forebaylaw20_NodesTell.f
  refine Ev.ite (fun _ => tell_head) (fun h80 => ?_)
  have hl : l.length ≤ 80 := by omega
  obtain ⟨g1, g2⟩ := giveR_len l a1 a2 hl
  refine Ev.eq_bind (show nodes_Give.f l a1 a2 = some (giveR l a1 a2) from rfl) (Ev.bind (ref_give l a1 a2) (Ev.eq_bind (show nodes_Clear.f l a1 = some (clearR l a1) from rfl) (Ev.bind (ref_clear l a1) (Ev.eq_bind (show nodes_Check.f l = some _ from rfl) (Ev.bind (ev_check l) (Ev.pos rfl ?_))))))
  refine Ev.eq_bind (show nodes_Usable.f l = some _ from rfl) (Ev.bind (ref_usable l) (Ev.pos rfl (Ev.eq_bind (show nodes_Free.f l = some _ from rfl) (Ev.bind (ref_free l) (Ev.pos rfl (Ev.eq_bind (show nodes_Of.f l a1 = some _ from rfl) (Ev.bind (ref_of l a1) ?_)))))))
  refine Ev.bind (ints_same _ (Nat.le_trans (posT_length _ l) (by omega))) ?_
  refine Ev.succ ?_
  simp only [forebaylaw20_NodesTell.j0]
  refine Ev.neg (by simp) (Ev.bind (same_same _ (Nat.le_trans g1 (by omega))) (Ev.pos rfl (Ev.bind (ints_same _ (Nat.le_trans g2 (by omega))) (Ev.pos rfl (Ev.pos trivial (Ev.bind (same_same _ (Nat.le_trans (clearR_len l a1 hl) (by omega))) (Ev.pos rfl ?_)))))))
  refine Ev.succ ?_
  simp only [forebaylaw20_NodesTell.j1]
  exact Ev.neg (by simp) (tell_l l a2 hl)
end Go.Proofs.Ytifebcdkckjphaa.Pure
