/- SealTells: for every text (of at most 2000 bytes; of longer ones the known answers alone) Sum, More, Seal and Open tell what the document says, in two pieces, too. -/
import Derived.Test.YtnpppcfbnomjiaaSeal
namespace Go.Proofs.Ytnpppcfbnomjiaa.Pure
open Go.RowKit Go.Proofs.Ytnpppcfbnomjiaa.P Go.Proofs.YtnpppcfbnomjiaaW.PrintWords Go.Proofs.YtnpppcfbnomjiaaW.PrintLast
set_option linter.unusedVariables false
set_option linter.unusedSimpArgs false

theorem tells_j1 (s : ByteArray) (k : Int) (hs : s.size ≤ 2000) (h0 : 0 ≤ k) (h1 : k ≤ s.size) : Ev (fun n => forebaylaw02_SealTells.j1 n s k (sealT s) false) true := by
  obtain ⟨m, rfl⟩ : ∃ m : Nat, k = m := ⟨k.toNat, by omega⟩
  have hp := extract_size_le s m
  have hq : (s.extract m s.size).size ≤ s.size := by rw [← ba_size, ba_drop, List.length_drop, ba_size]; omega
  have hb : (sealT s).size ≤ 140737488355320 := by rw [sealT_size]; omega
  refine Ev.succ ?_
  simp only [forebaylaw02_SealTells.j1]
  refine Ev.neg (by simp) (Ev.eq_bind (open_eq _ hb) (Ev.eq_bind (sum_eq s (by omega)) (Ev.eq_bind (refMore_eq 0 s (by omega)) (Ev.pos rfl (Ev.pos h0 (Ev.pos h1 ?_))))))
  rw [Int.toNat_natCast]
  refine Ev.eq_bind (sum_eq _ (by omega)) (Ev.eq_bind (more_eq _ _ (by omega)) (Ev.eq_bind (sum_eq s (by omega)) (Ev.pos ?_ (Ev.eq_bind (refSeal_eq s (by omega)) (Ev.pos rfl ?_)))))
  · rw [more_more]
    congr 1
    refine ba_ext ?_
    rw [ba_append, ba_take, ba_drop, List.take_append_drop]
  · rw [open_seal]
    exact Ev.pos rfl (Ev.pos rfl (Ev.eq_bind head_eq (Ev.const rfl)))
theorem tells_j0 (s : ByteArray) (k : Int) (hs : s.size ≤ 2000) (h0 : 0 ≤ k) (h1 : k ≤ s.size) (want : Bool) (hw : want = (openT s).2) :
    Ev (fun n => forebaylaw02_SealTells.j0 n s k (sealT s) (openT s).1 (openT s).2 want) true := by
  subst hw
  refine Ev.succ ?_
  simp only [forebaylaw02_SealTells.j0]
  refine Ev.neg (by simp) ?_
  by_cases h : 8 ≤ s.size ∧ sealT (s.extract 0 (s.size - 8)) = s
  · have e : openT s = (s.extract 0 (s.size - 8), true) := by unfold openT; rw [if_pos h]
    have hw : wrap64 ((s.size : Int) - 8) = ((s.size - 8 : Nat) : Int) := by unfold wrap64; omega
    rw [e, hw]
    refine Ev.pos rfl (Ev.pos (by omega) (Ev.pos (by omega) (Ev.pos ?_ (tells_j1 s k hs h0 h1))))
    rw [Int.toNat_natCast]
  · have e : openT s = ((⟨#[]⟩ : ByteArray), false) := by unfold openT; rw [if_neg h]
    rw [e]
    refine Ev.neg (by simp) ?_
    have e2 : ((⟨#[]⟩ : ByteArray).toList != ([] : List UInt8)) = false := by rw [ba_toList]; rfl
    rw [e2]
    exact tells_j1 s k hs h0 h1

theorem SealTells : forebaylaw02_SealTells.Pure := by
  intro s cut hsz hcut
  have hc := wf_u16 hcut
  refine Ev.rounds (g := fun k => forebaylaw02_SealTells.f k s cut) ?_
  unfold forebaylaw02_SealTells.f
  refine Ev.ite (fun _ => Ev.eq_bind head_eq (Ev.const rfl)) (fun h => ?_)
  have hs : s.size ≤ 2000 := by omega
  have hw : wrap64 ((s.size : Int) + 1) = (s.size : Int) + 1 := by unfold wrap64; omega
  have hw2 : wrap64 cut = cut := by unfold wrap64; omega
  rw [hw, hw2, Int.tmod_eq_emod_of_nonneg hc.1]
  have m0 := Int.emod_nonneg cut (show (s.size : Int) + 1 ≠ 0 by omega)
  have m1 := Int.emod_lt_of_pos cut (show 0 < (s.size : Int) + 1 by omega)
  refine Ev.neg (by omega) (Ev.eq_bind (seal_eq s (by omega)) (Ev.eq_bind (open_eq s (by omega)) (Ev.ite (fun h8 => ?_) (fun h8 => ?_))))
  · have hw : wrap64 ((s.size : Int) - 8) = ((s.size - 8 : Nat) : Int) := by unfold wrap64; omega
    have hx := extract_size_le s (s.size - 8)
    rw [hw, Int.toNat_natCast]
    refine Ev.pos (by omega) (Ev.pos (by omega) (Ev.eq_bind (refSeal_eq _ (by omega)) ?_))
    refine tells_j0 s _ hs m0 (by omega) _ ?_
    rw [ba_toList, ba_toList]
    unfold openT
    by_cases he : sealT (s.extract 0 (s.size - 8)) = s
    · rw [if_pos ⟨by omega, he⟩, he]; simp
    · rw [if_neg (fun hh => he hh.2)]
      simp only [beq_eq_false_iff_ne]
      exact fun hh => he (ba_ext hh)
  · refine tells_j0 s _ hs m0 (by omega) _ ?_
    unfold openT
    rw [if_neg (fun hh => h8 (by omega))]

end Go.Proofs.Ytnpppcfbnomjiaa.Pure
