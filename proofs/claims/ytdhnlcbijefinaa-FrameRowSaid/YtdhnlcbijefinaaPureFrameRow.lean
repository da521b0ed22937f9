/- FrameRow: what Put writes is the document's, its length the costs' sum, and Scan of it, with anything behind it, tells what the document says. -/
import Derived.Test.YtdhnlcbijefinaaFrameScan
namespace Go.Proofs.Ytdhnlcbijefinaa.Pure
open Go.RowKit Go.Proofs.Ytdhnlcbijefinaa.P Go.Proofs.YtdhnlcbijefinaaW.PrintWords Go.Proofs.YtdhnlcbijefinaaW.PrintLast
set_option linter.unusedVariables false
set_option linter.unusedSimpArgs false

theorem costs_append (a b : List ByteArray) : costs (a ++ b) = costs a + costs b := by
  induction a with
  | nil => show costs b = 0 + costs b; omega
  | cons s a ih => show 20 + (s.size : Int) + costs (a ++ b) = 20 + (s.size : Int) + costs a + costs b; omega
theorem same_l (a : List ByteArray) (ha : a.length ≤ 9000000000000000000) (d : Nat) : ∀ i : Nat, i + d = a.length → Ev (fun n => forebayref06_Same.l0 n a a (i : Int)) true := by
  induction d with
  | zero =>
    intro i hi
    refine Ev.succ ?_
    simp only [forebayref06_Same.l0]
    exact Ev.neg (by omega) (Ev.const rfl)
  | succ d ih =>
    intro i hi
    refine Ev.succ ?_
    simp only [forebayref06_Same.l0]
    have hw : wrap64 ((i : Int) + 1) = ((i + 1 : Nat) : Int) := by unfold wrap64; omega
    rw [hw]
    exact Ev.pos (by omega) (Ev.pos (by omega) (Ev.pos (by omega) (Ev.pos (by trivial) (ih (i + 1) (by omega)))))
theorem same_ev (a : List ByteArray) (ha : a.length ≤ 9000000000000000000) : Ev (fun n => forebayref06_Same.f n a a) true := by
  unfold forebayref06_Same.f
  exact Ev.pos (by trivial) (same_l a ha a.length 0 (by omega))
theorem row_l (l : List ByteArray) (more : ByteArray) (hg : greatT l = false) (hm : more.size ≤ 500) (d : Nat) : ∀ (i : Nat) (c : Int), i + d = l.length → 0 ≤ c → c + costs (l.drop i) = costs l →
    Ev (fun n => forebaylaw06_FrameRow.l0 n l more (putT l) c (i : Int)) true := by
  obtain ⟨h1, h2⟩ := great_not hg
  have hcs := costs_small h1 h2
  have hps := putT_size l
  induction d with
  | zero =>
    intro i c hi hc hci
    refine Ev.succ ?_
    simp only [forebaylaw06_FrameRow.l0]
    rw [List.drop_eq_nil_of_le (by omega)] at hci
    have hc2 : c = costs l := by show c = _; rw [← hci]; show c = c + 0; omega
    subst hc2
    have hsz := ba_append_size (putT l) more
    have hsc : scanT (putT l ++ more) = l ++ scanT more := scanT_put l more (fun s hs => by have := h2 s hs; omega) (by omega)
    have hco := costs_le ((putT l ++ more).size + 1) (putT l ++ more) (by omega)
    have hln := costs_len (scanT (putT l ++ more))
    have hge : costs (scanT (putT l ++ more)) ≥ costs l := by
      rw [hsc, costs_append]
      have := costs_nn (scanT more)
      omega
    have hco2 : costs (scanT (putT l ++ more)) ≤ ((putT l ++ more).size : Int) := hco
    have hs20 : (putT l ++ more).size ≤ 20000 := by omega
    refine Ev.neg (by omega) (Ev.pos (by omega) (Ev.eq_bind (scan_eq _ (by omega)) (Ev.bind (refscan_ev _ hs20) (Ev.pos hps (Ev.bind (same_ev (scanT (putT l ++ more)) (by omega)) (Ev.pos (by trivial) (Ev.pos (by trivial) (Ev.pos hge (Ev.bind head_ends (Ev.const rfl))))))))))
  | succ d ih =>
    intro i c hi hc hci
    have hil : i < l.length := by omega
    have hsm := h2 _ (rd_mem l i hil)
    rw [drop_cons l i hil] at hci
    refine Ev.succ ?_
    simp only [forebaylaw06_FrameRow.l0]
    have hw : wrap64 ((i : Int) + 1) = ((i + 1 : Nat) : Int) := by unfold wrap64; omega
    rw [hw]
    generalize rdOf ByteArray.empty l (i : Int) = s at *
    have hcc : costs (s :: l.drop (i + 1)) = 20 + (s.size : Int) + costs (l.drop (i + 1)) := rfl
    have hnn := costs_nn (l.drop (i + 1))
    rw [hcc] at hci
    have hw2 : wrap64 (c + ((s.size : Int) + 20)) = c + ((s.size : Int) + 20) := wrap64_id (by omega) (by omega)
    refine Ev.pos (by omega) (Ev.pos (by omega) (Ev.eq_bind (cost_eq _ (by omega)) ?_))
    rw [hw2]
    exact ih (i + 1) _ (by omega) (by omega) (by omega)
theorem FrameRow : forebaylaw06_FrameRow.Pure := by
  intro l more _ hm
  refine Ev.rounds ?_
  unfold forebaylaw06_FrameRow.f
  refine Ev.bind (great_ev l) ?_
  have hd : Ev (fun n => forebaylaw06_FrameRow.j0 n l more true) true := by
    refine Ev.succ ?_
    simp only [forebaylaw06_FrameRow.j0]
    exact Ev.pos (by trivial) (Ev.bind head_ends (Ev.const rfl))
  cases hg : greatT l with
  | true => exact Ev.pos (by trivial) hd
  | false =>
    refine Ev.neg (by decide) ?_
    by_cases h5 : more.size > 500
    · rw [decide_eq_true (show (more.size : Int) > 500 by omega)]; exact hd
    · rw [decide_eq_false (show ¬ (more.size : Int) > 500 by omega)]
      refine Ev.succ ?_
      simp only [forebaylaw06_FrameRow.j0]
      refine Ev.neg (by decide) (Ev.bind (put_ev hg) (Ev.bind (refput_ev hg) (Ev.pos (by trivial) ?_)))
      refine Ev.succ ?_
      simp only [forebaylaw06_FrameRow.j1]
      refine Ev.neg (by decide) ?_
      exact row_l l more hg (by omega) l.length 0 0 (by omega) (by omega) (by rw [List.drop_zero]; omega)

end Go.Proofs.Ytdhnlcbijefinaa.Pure
