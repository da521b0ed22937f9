/- FrameCut: of frames that are cut off anywhere just those are told that are there whole. -/
import Derived.Test.YtdhnlcbijefinaaFrameEv
namespace Go.Proofs.Ytdhnlcbijefinaa.Pure
open Go.RowKit Go.Proofs.Ytdhnlcbijefinaa.P Go.Proofs.YtdhnlcbijefinaaW.PrintWords Go.Proofs.YtdhnlcbijefinaaW.PrintLast
set_option linter.unusedVariables false
set_option linter.unusedSimpArgs false

/-- A frame that is cut off is none. -/
theorem frame1_cut (s t : ByteArray) (hs : s.size ≤ 262144) (k : Nat) (hk : k < s.size + 20) (hb : (frameT s ++ t).size ≤ 20000) : frame1 ((frameT s ++ t).extract 0 k) = none := by
  have hz := frameT_size s
  have hsz := ba_append_size (frameT s) t
  have hks := ex_size (frameT s ++ t) k (by omega)
  refine frame1_not _ (by omega) (fun u hu e => ?_)
  have e1 := congrArg ByteArray.size e
  rw [frameT_size] at e1
  have e2 : 20 + u.size ≤ k := by
    have := extract_size_le ((frameT s ++ t).extract 0 k) (20 + u.size)
    omega
  rw [ex_ex _ _ _ e2] at e
  have hu4 : leadB (u.size : Int) = leadB (s.size : Int) := by
    have f : ∀ x : ByteArray, (frameT x).extract 0 4 = leadB (x.size : Int) := by
      intro x
      have := sealT_prefix (leadB (x.size : Int))
      rw [leadB_size] at this
      unfold frameT
      rw [ex_left _ _ _ (by rw [sealT_size, leadB_size]; omega), this]
    have g1 := f u
    rw [e, ex_ex _ _ _ (by omega), ex_left _ _ _ (by omega), f s] at g1
    exact g1.symm
  have h3 := congrArg numT hu4
  rw [numT_leadB u.size (by omega), numT_leadB s.size (by omega)] at h3
  omega
/-- The texts whose frames end at k, or before. -/
def whole : List ByteArray → Nat → List ByteArray
  | [], _ => []
  | s :: l, k => if k < s.size + 20 then [] else s :: whole l (k - (s.size + 20))
theorem ex_app (a b : ByteArray) (k : Nat) (h : a.size ≤ k) : (a ++ b).extract 0 k = a ++ b.extract 0 (k - a.size) := by
  refine ba_ext ?_
  rw [ba_take, ba_append, ba_append, ba_take, List.take_append, ba_size, List.take_of_length_le (by rw [ba_size]; exact h)]
theorem scan_cut (l : List ByteArray) (hl : ∀ s ∈ l, s.size ≤ 500) (hc : costs l ≤ 20000) : ∀ k : Nat, scanT ((putT l).extract 0 k) = whole l k := by
  induction l with
  | nil =>
    intro k
    refine scanT_none _ ?_
    have : (putT []).extract 0 k = (⟨#[]⟩ : ByteArray) := by
      refine ba_ext ?_
      rw [ba_take]
      exact List.take_nil
    rw [this]
    exact frame1_not _ (by show (0 : Nat) ≤ _; omega) (fun s _ e => by have := congrArg ByteArray.size e; rw [frameT_size] at this; have := extract_size_le (⟨#[]⟩ : ByteArray) (20 + s.size); have h0 : (⟨#[]⟩ : ByteArray).size = 0 := rfl; omega)
  | cons s l ih =>
    intro k
    have hs := hl s (by simp)
    have hcc : costs (s :: l) = 20 + (s.size : Int) + costs l := rfl
    have hnn := costs_nn l
    have hp := putT_size l
    have hz := frameT_size s
    have hsz := ba_append_size (frameT s) (putT l)
    show scanT ((frameT s ++ putT l).extract 0 k) = _
    rw [whole]
    by_cases hk : k < s.size + 20
    · rw [if_pos hk, scanT_none _ (frame1_cut s (putT l) (by omega) k hk (by omega))]
    · rw [if_neg hk, ex_app _ _ _ (by omega)]
      have h1 := extract_size_le (putT l) (k - (frameT s).size)
      have h2 := ba_append_size (frameT s) ((putT l).extract 0 (k - (frameT s).size))
      rw [scanT_frame s _ (by omega) (by omega), ih (fun x hx => hl x (by simp [hx])) (by omega), hz]
theorem whole_is (l : List ByteArray) : ∀ k : Nat, ∃ t, l = whole l k ++ t ∧ costs (whole l k) ≤ k ∧ (∀ s u, t = s :: u → (k : Int) < costs (whole l k) + (20 + (s.size : Int))) := by
  induction l with
  | nil => intro k; exact ⟨[], rfl, by show (0 : Int) ≤ _; omega, fun s u h => by cases h⟩
  | cons s l ih =>
    intro k
    rw [whole]
    by_cases hk : k < s.size + 20
    · rw [if_pos hk]
      exact ⟨s :: l, rfl, by show (0 : Int) ≤ _; omega, fun x u h => by cases h; show _ < 0 + _; omega⟩
    · rw [if_neg hk]
      obtain ⟨t, h1, h2, h3⟩ := ih (k - (s.size + 20))
      refine ⟨t, by rw [List.cons_append, ← h1], ?_, fun x u h => ?_⟩
      · show 20 + (s.size : Int) + costs _ ≤ _; omega
      · have := h3 x u h
        show _ < 20 + (s.size : Int) + costs _ + _; omega
theorem cut_l (l w t : List ByteArray) (hl : l = w ++ t) (h500 : ∀ s ∈ l, s.size ≤ 500) (h20 : l.length ≤ 20) (k : Int) (hk0 : 0 ≤ k) (hk1 : k ≤ 20000) (hle : costs w ≤ k)
    (hn : ∀ s u, t = s :: u → k < costs w + (20 + (s.size : Int))) (d : Nat) : ∀ (i : Nat) (c : Int), i + d = w.length → 0 ≤ c → c + costs (w.drop i) = costs w →
    Ev (fun n => forebaylaw06_FrameCut.l0 n l k w (costs w) c (i : Int)) true := by
  have hcs := costs_small h20 h500
  have hlen : l.length = w.length + t.length := by rw [hl, List.length_append]
  induction d with
  | zero =>
    intro i c hi hc hci
    rw [List.drop_eq_nil_of_le (by omega)] at hci
    have hc2 : c = costs w := by rw [← hci]; show c = c + 0; omega
    subst hc2
    refine Ev.succ ?_
    simp only [forebaylaw06_FrameCut.l0]
    refine Ev.neg (by omega) (Ev.ite (fun he => ?_) (fun he => ?_))
    · exact Ev.pos (by trivial) (Ev.pos hle (Ev.bind head_ends (Ev.const rfl)))
    · cases t with
      | nil => exact absurd (by rw [hlen]; simp) he
      | cons s u =>
        have hs : rdOf ByteArray.empty l (w.length : Int) = s := by
          rw [hl]
          simp [rdOf, List.getD_eq_getElem?_getD]
        have hsm := h500 s (by rw [hl]; simp)
        have hlt := hn s u rfl
        have hcw := costs_nn w
        have hw : wrap64 (costs w + ((s.size : Int) + 20)) = costs w + ((s.size : Int) + 20) := wrap64_id (by omega) (by omega)
        rw [hs]
        refine Ev.pos (by omega) (Ev.pos (by rw [hlen, List.length_cons]; omega) (Ev.eq_bind (cost_eq _ (by omega)) ?_))
        rw [hw]
        exact Ev.pos (by trivial) (Ev.pos hle (Ev.pos (by omega) (Ev.bind head_ends (Ev.const rfl))))
  | succ d ih =>
    intro i c hi hc hci
    have hiw : i < w.length := by omega
    have e : rdOf ByteArray.empty l (i : Int) = rdOf ByteArray.empty w (i : Int) := by
      rw [hl]
      simp [rdOf, List.getD_eq_getElem?_getD, List.getElem?_append_left hiw]
    have hsm := h500 _ (rd_mem l i (by omega))
    rw [drop_cons w i hiw] at hci
    refine Ev.succ ?_
    simp only [forebaylaw06_FrameCut.l0]
    have hw : wrap64 ((i : Int) + 1) = ((i + 1 : Nat) : Int) := by unfold wrap64; omega
    rw [hw]
    clear hw
    rw [e] at hsm ⊢
    generalize rdOf ByteArray.empty w (i : Int) = s at *
    have hcc : costs (s :: w.drop (i + 1)) = 20 + (s.size : Int) + costs (w.drop (i + 1)) := rfl
    have hnn := costs_nn (w.drop (i + 1))
    rw [hcc] at hci
    have hw2 : wrap64 (c + ((s.size : Int) + 20)) = c + ((s.size : Int) + 20) := wrap64_id (by omega) (by omega)
    refine Ev.pos (by omega) (Ev.neg (by omega) (Ev.pos (by omega) (Ev.pos (by omega) (Ev.pos (by trivial) (Ev.eq_bind (cost_eq _ (by omega)) ?_)))))
    rw [hw2]
    exact ih (i + 1) _ (by omega) (by omega) (by omega)
theorem FrameCut : forebaylaw06_FrameCut.Pure := by
  intro l at_ _ hw
  have ha := wf_u16 hw
  refine Ev.rounds ?_
  unfold forebaylaw06_FrameCut.f
  refine Ev.bind (great_ev l) ?_
  cases hg : greatT l with
  | true => exact Ev.pos (by trivial) (Ev.bind head_ends (Ev.const rfl))
  | false =>
    obtain ⟨h20, h500⟩ := great_not hg
    have hcs := costs_small h20 h500
    have hnn := costs_nn l
    have hps := putT_size l
    have e1 : wrap64 (((putT l).size : Int) + 1) = ((putT l).size : Int) + 1 := wrap64_id (by omega) (by omega)
    have e2 : wrap64 at_ = at_ := wrap64_id (by omega) (by omega)
    refine Ev.neg (by decide) (Ev.bind (put_ev hg) (Ev.pos (by trivial) ?_))
    dsimp only
    rw [e1, e2, Int.tmod_eq_emod_of_nonneg ha.1]
    clear e1 e2
    have m0 := Int.emod_nonneg at_ (show ((putT l).size : Int) + 1 ≠ 0 by omega)
    have m1 := Int.emod_lt_of_pos at_ (show 0 < ((putT l).size : Int) + 1 by omega)
    obtain ⟨k, hk⟩ := Int.eq_ofNat_of_zero_le m0
    rw [hk] at m0 m1 ⊢
    clear hk
    have hx := extract_size_le (putT l) k
    rw [Int.toNat_natCast]
    refine Ev.neg (by omega) (Ev.pos m0 (Ev.pos (by omega) (Ev.eq_bind (scan_eq _ (by omega)) ?_)))
    rw [scan_cut l h500 (by omega) k]
    obtain ⟨t, t1, t2, t3⟩ := whole_is l k
    exact cut_l l (whole l k) t t1 h500 h20 k m0 (by omega) t2 t3 (whole l k).length 0 0 (by omega) (by omega) (by rw [List.drop_zero]; omega)

end Go.Proofs.Ytdhnlcbijefinaa.Pure
