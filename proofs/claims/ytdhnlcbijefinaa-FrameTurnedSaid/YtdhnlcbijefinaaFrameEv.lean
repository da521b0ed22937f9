/- What the printed functions come to. -/
import Derived.Test.YtdhnlcbijefinaaFrame
namespace Go.Proofs.Ytdhnlcbijefinaa.Pure
open Go.RowKit Go.Proofs.Ytdhnlcbijefinaa.P Go.Proofs.YtdhnlcbijefinaaW.PrintWords Go.Proofs.YtdhnlcbijefinaaW.PrintLast
set_option linter.unusedVariables false
set_option linter.unusedSimpArgs false

theorem head_ends : Ev (fun n => forebaylaw06_head.f n) true := Ev.of forebaylaw06_head.mono (k := 12) (by decide +kernel)
theorem drop_cons (l : List ByteArray) (i : Nat) (h : i < l.length) : l.drop i = rdOf ByteArray.empty l (i : Int) :: l.drop (i + 1) := by
  rw [List.drop_eq_getElem_cons h]
  congr 1
  simp [rdOf, List.getD_eq_getElem?_getD, List.getElem?_eq_getElem h]
/-- Whether texts are more than is looked at. -/
def greatT (l : List ByteArray) : Bool := decide (20 < l.length) || l.any fun s => decide (500 < s.size)
theorem great_l (l : List ByteArray) (d : Nat) : ∀ i : Nat, i + d = l.length → l.length ≤ 20 → Ev (fun n => forebaylaw06_great.l0 n l (i : Int)) ((l.drop i).any fun s => decide (500 < s.size)) := by
  induction d with
  | zero =>
    intro i hi h20
    refine Ev.succ ?_
    simp only [forebaylaw06_great.l0]
    rw [List.drop_eq_nil_of_le (by omega)]
    exact Ev.neg (by omega) (Ev.const rfl)
  | succ d ih =>
    intro i hi h20
    have hil : i < l.length := by omega
    refine Ev.succ ?_
    simp only [forebaylaw06_great.l0]
    rw [drop_cons l i hil, List.any_cons]
    have hw : wrap64 ((i : Int) + 1) = ((i + 1 : Nat) : Int) := by unfold wrap64; omega
    rw [hw]
    refine Ev.pos (by omega) (Ev.pos (by omega) (Ev.ite (fun hb => ?_) (fun hb => ?_)))
    · rw [decide_eq_true (by omega), Bool.true_or]; exact Ev.const rfl
    · rw [decide_eq_false (by omega), Bool.false_or]; exact ih (i + 1) (by omega) h20
theorem great_ev (l : List ByteArray) : Ev (fun n => forebaylaw06_great.f n l) (greatT l) := by
  unfold forebaylaw06_great.f greatT
  refine Ev.ite (fun h => ?_) (fun h => ?_)
  · rw [decide_eq_true (by omega), Bool.true_or]; exact Ev.const rfl
  · rw [decide_eq_false (by omega), Bool.false_or]
    have := great_l l l.length 0 (by omega) (by omega)
    rwa [List.drop_zero] at this
theorem great_not {l : List ByteArray} (h : greatT l = false) : l.length ≤ 20 ∧ ∀ s ∈ l, s.size ≤ 500 := by
  unfold greatT at h
  rw [Bool.or_eq_false_iff] at h
  refine ⟨by have := of_decide_eq_false h.1; omega, fun s hs => ?_⟩
  have h2 := h.2
  rw [List.any_eq_false] at h2
  have := h2 s hs
  simpa using this
theorem costs_small {l : List ByteArray} (h1 : l.length ≤ 20) (h2 : ∀ s ∈ l, s.size ≤ 500) : costs l ≤ 10400 := by
  have : ∀ l : List ByteArray, (∀ s ∈ l, s.size ≤ 500) → costs l ≤ 520 * l.length := by
    intro l
    induction l with
    | nil => intro _; exact Int.le_refl _
    | cons s l ih =>
      intro h
      have := ih (fun x hx => h x (by simp [hx]))
      have := h s (by simp)
      show 20 + (s.size : Int) + costs l ≤ _
      rw [List.length_cons]; omega
  have := this l h2
  omega
theorem lead_eq (n : Nat) (h : n ≤ 262144) : frame_lead.f (n : Int) = some (sealT (leadB n)) := by unfold frame_lead.f; rw [if_pos (by omega)]
theorem cost_eq (n : Nat) (h : n ≤ 9223372036854775000) : frame_Cost.f (n : Int) = some ((n : Int) + 20) := by unfold frame_Cost.f; rw [if_pos (by omega)]
theorem rd_mem (l : List ByteArray) (i : Nat) (h : i < l.length) : rdOf ByteArray.empty l (i : Int) ∈ l := by
  simp [rdOf, List.getD_eq_getElem?_getD, List.getElem?_eq_getElem h]
theorem put_l (l : List ByteArray) (hs : ∀ s ∈ l, s.size ≤ 500) (h20 : l.length ≤ 20) (d : Nat) : ∀ (i : Nat) (acc : ByteArray), i + d = l.length → (acc.size : Int) + costs (l.drop i) ≤ 10400 →
    Ev (fun n => frame_Put.l0 n acc l (l.length : Int) (i : Int)) (acc ++ putT (l.drop i), 0) := by
  induction d with
  | zero =>
    intro i acc hi ha
    refine Ev.succ ?_
    simp only [frame_Put.l0]
    rw [List.drop_eq_nil_of_le (by omega)]
    exact Ev.neg (by omega) (Ev.const (by rw [show putT [] = (⟨#[]⟩ : ByteArray) from rfl, ba_nil']))
  | succ d ih =>
    intro i acc hi ha
    have hil : i < l.length := by omega
    have hsm := hs _ (rd_mem l i hil)
    rw [drop_cons l i hil] at ha ⊢
    refine Ev.succ ?_
    simp only [frame_Put.l0]
    have hw : wrap64 ((i : Int) + 1) = ((i + 1 : Nat) : Int) := by unfold wrap64; omega
    rw [hw]
    generalize rdOf ByteArray.empty l (i : Int) = s at *
    have hc : costs (s :: l.drop (i + 1)) = 20 + (s.size : Int) + costs (l.drop (i + 1)) := rfl
    have hnn := costs_nn (l.drop (i + 1))
    have l1 : (sealT (leadB (s.size : Int))).size = 12 := by rw [sealT_size, leadB_size]
    have l2 : (sealT s).size = s.size + 8 := sealT_size s
    have l3 := ba_append_size (sealT (leadB (s.size : Int))) (sealT s)
    rw [hc] at ha
    refine Ev.pos (by omega) (Ev.pos (by omega) (Ev.pos (by omega) (Ev.neg (by omega) (Ev.eq_bind (lead_eq _ (by omega)) (Ev.eq_bind (seal_eq s (by omega)) (Ev.pos (by omega) (Ev.pos (by omega) ?_)))))))
    have l4 := ba_append_size acc (frameT s)
    have l5 := frameT_size s
    have := ih (i + 1) (acc ++ frameT s) (by omega) (by omega)
    rw [ba_assoc] at this
    exact this
theorem put_ev {l : List ByteArray} (h : greatT l = false) : Ev (fun n => frame_Put.f n l) (putT l, 0) := by
  obtain ⟨h1, h2⟩ := great_not h
  have := put_l l h2 h1 l.length 0 ⟨#[]⟩ (by omega) (by rw [List.drop_zero]; have := costs_small h1 h2; show ((0 : Nat) : Int) + _ ≤ _; omega)
  rw [List.drop_zero, ba_nil] at this
  exact this
theorem one_eq (s : ByteArray) (h : s.size ≤ 262144) : forebayref06_One.f s = some (frameT s) := by
  have e : strOfNums (([(s.size : Int) % 256, (Int.tmod (wrap64 ((s.size : Int) / 256)) 256) % 256, (Int.tmod (wrap64 ((s.size : Int) / 65536)) 256) % 256, (Int.tmod (wrap64 ((s.size : Int) / 16777216)) 256) % 256] : List Int)) = leadB s.size := by
    unfold leadB
    congr 1
    have w1 : wrap64 ((s.size : Int) / 256) = (s.size : Int) / 256 := wrap64_id (by omega) (by omega)
    have w2 : wrap64 ((s.size : Int) / 65536) = (s.size : Int) / 65536 := wrap64_id (by omega) (by omega)
    have w3 : wrap64 ((s.size : Int) / 16777216) = (s.size : Int) / 16777216 := wrap64_id (by omega) (by omega)
    rw [w1, w2, w3, Int.tmod_eq_emod_of_nonneg (by omega), Int.tmod_eq_emod_of_nonneg (by omega), Int.tmod_eq_emod_of_nonneg (by omega)]
    simp [leadNums, List.range, List.range.loop]
  unfold forebayref06_One.f
  rw [e, refSeal_eq _ (by rw [leadB_size]; omega), Option.bind_some, refSeal_eq _ (by omega), Option.bind_some, if_pos (by rw [sealT_size, sealT_size, leadB_size]; omega)]
  rfl
theorem refput_l (l : List ByteArray) (hs : ∀ s ∈ l, s.size ≤ 500) (h20 : l.length ≤ 20) (d : Nat) : ∀ (i : Nat) (acc : ByteArray), i + d = l.length → (acc.size : Int) + costs (l.drop i) ≤ 10400 →
    Ev (fun n => forebayref06_Put.l0 n l acc (i : Int)) (acc ++ putT (l.drop i), 0) := by
  induction d with
  | zero =>
    intro i acc hi ha
    refine Ev.succ ?_
    simp only [forebayref06_Put.l0]
    rw [List.drop_eq_nil_of_le (by omega)]
    exact Ev.neg (by omega) (Ev.const (by rw [show putT [] = (⟨#[]⟩ : ByteArray) from rfl, ba_nil']))
  | succ d ih =>
    intro i acc hi ha
    have hil : i < l.length := by omega
    have hsm := hs _ (rd_mem l i hil)
    rw [drop_cons l i hil] at ha ⊢
    refine Ev.succ ?_
    simp only [forebayref06_Put.l0]
    have hw : wrap64 ((i : Int) + 1) = ((i + 1 : Nat) : Int) := by unfold wrap64; omega
    rw [hw]
    generalize rdOf ByteArray.empty l (i : Int) = s at *
    have hc : costs (s :: l.drop (i + 1)) = 20 + (s.size : Int) + costs (l.drop (i + 1)) := rfl
    have hnn := costs_nn (l.drop (i + 1))
    rw [hc] at ha
    have l5 := frameT_size s
    refine Ev.pos (by omega) (Ev.pos (by omega) (Ev.neg (by omega) (Ev.eq_bind (one_eq s (by omega)) (Ev.pos (by omega) ?_))))
    have l4 := ba_append_size acc (frameT s)
    have := ih (i + 1) (acc ++ frameT s) (by omega) (by omega)
    rw [ba_assoc] at this
    exact this
theorem refput_ev {l : List ByteArray} (h : greatT l = false) : Ev (fun n => forebayref06_Put.f n l) (putT l, 0) := by
  obtain ⟨h1, h2⟩ := great_not h
  have := refput_l l h2 h1 l.length 0 ⟨#[]⟩ (by omega) (by rw [List.drop_zero]; have := costs_small h1 h2; show ((0 : Nat) : Int) + _ ≤ _; omega)
  rw [List.drop_zero, ba_nil] at this
  exact this
theorem scan_eq (b : ByteArray) (h : b.size ≤ 140737488351232) : frame_Scan.f b = some (scanT b, costs (scanT b)) := by unfold frame_Scan.f scanT; rw [if_pos h]
/-- Bytes that are no frame's. -/
theorem frame1_not (b : ByteArray) (hb : b.size ≤ 140737488351232) (h : ∀ s, s.size ≤ 262144 → frameT s ≠ b.extract 0 (20 + s.size)) : frame1 b = none := by
  cases hf : frame1 b with
  | none => rfl
  | some s =>
    exfalso
    obtain ⟨h1, h2⟩ := frame1_is b s hb hf
    refine h s h1 ?_
    have hz := frameT_size s
    conv => rhs; rw [h2]
    rw [ex_left _ _ _ (by omega), show 20 + s.size = (frameT s).size by omega, ex_all]

end Go.Proofs.Ytdhnlcbijefinaa.Pure
