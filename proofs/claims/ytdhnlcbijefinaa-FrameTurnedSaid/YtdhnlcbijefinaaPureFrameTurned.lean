/- FrameTurned: behind bits that are turned within 64 of a frame's row just the texts ahead of it are told. -/
import Derived.Test.YtdhnlcbijefinaaFrameScan
import Derived.Test.YtdhnlcbijefinaaSealBits
namespace Go.Proofs.Ytdhnlcbijefinaa.Pure
open Go.RowKit Go.Proofs.Ytdhnlcbijefinaa.P Go.Proofs.YtdhnlcbijefinaaW.PrintWords Go.Proofs.YtdhnlcbijefinaaW.PrintLast
set_option linter.unusedVariables false
set_option linter.unusedSimpArgs false

/-- A number of given bits. -/
theorem bits_num (f : Nat → Bool) (k : Nat) : ∃ c : Nat, c < 2 ^ k ∧ ∀ j, c.testBit j = (decide (j < k) && f j) := by
  induction k with
  | zero => exact ⟨0, by decide, fun j => by simp⟩
  | succ k ih =>
    obtain ⟨c, hc, hj⟩ := ih
    cases hf : f k with
    | false =>
      refine ⟨c, by rw [Nat.pow_succ]; omega, fun j => ?_⟩
      rw [hj]
      by_cases h : j = k
      · subst h; simp [hf]
      · rw [decide_eq_decide.2 (show j < k ↔ j < k + 1 by omega)]
    | true =>
      refine ⟨2 ^ k + c, by rw [Nat.pow_succ]; omega, fun j => ?_⟩
      by_cases h : j = k
      · subst h
        rw [Nat.testBit_two_pow_add_eq, hj]; simp [hf]
      · rcases Nat.lt_or_gt_of_ne h with h1 | h1
        · rw [Nat.testBit_two_pow_add_gt h1, hj, decide_eq_true h1, decide_eq_true (show j < k + 1 by omega)]
        · rw [decide_eq_false (show ¬ j < k + 1 by omega), Bool.false_and]
          refine Nat.testBit_lt_two_pow (Nat.lt_of_lt_of_le ?_ (Nat.pow_le_pow_right (by omega) (show k + 1 ≤ j by omega)))
          rw [Nat.pow_succ]; omega
/-- A least one. -/
theorem least_bit (e : Nat → Bool) : ∀ q, e q = true → ∃ m, m ≤ q ∧ e m = true ∧ ∀ p, p < m → e p = false := by
  intro q
  induction q using Nat.strongRecOn with
  | _ q ih =>
    intro hq
    by_cases h : ∃ p, p < q ∧ e p = true
    · obtain ⟨p, hp, hp2⟩ := h
      obtain ⟨m, m1, m2, m3⟩ := ih p hp hp2
      exact ⟨m, by omega, m2, m3⟩
    · refine ⟨q, Nat.le_refl _, hq, fun p hp => ?_⟩
      cases he : e p with
      | false => rfl
      | true => exact absurd ⟨p, hp, he⟩ h
theorem feed_ne (e : Nat → Bool) (N q : Nat) (hN : 64 ≤ N) (hq : q < N) (he : e q = true) (hw : ∀ p p', e p = true → e p' = true → p < p' + 64) : feedN 0#64 e N ≠ 0#64 := by
  obtain ⟨m, hm, hem, hlow⟩ := least_bit e q he
  obtain ⟨fr, hfr1, hfr2, hfr3⟩ : ∃ fr, fr ≤ m ∧ fr + 64 ≤ N ∧ (fr = m ∨ fr + 64 = N) := by
    by_cases h : m + 64 ≤ N
    · exact ⟨m, Nat.le_refl _, h, .inl rfl⟩
    · exact ⟨N - 64, by omega, by omega, .inr (by omega)⟩
  obtain ⟨c, hc, hj⟩ := bits_num (fun j => e (fr + j)) 64
  have h1 : feedN 0#64 e N = feedN 0#64 (fun p => decide (fr ≤ p ∧ p < fr + 64) && c.testBit (p - fr)) N := by
    refine feedN_congr _ _ (fun p hp => ?_)
    rw [hj]
    by_cases h2 : fr ≤ p ∧ p < fr + 64
    · rw [decide_eq_true h2, decide_eq_true (show p - fr < 64 by omega), show fr + (p - fr) = p by omega]; rfl
    · rw [decide_eq_false h2, Bool.false_and]
      by_cases h3 : p < fr
      · exact hlow p (by omega)
      · cases hep : e p with
        | false => rfl
        | true => have := hw p m hep hem; omega
  have h2 := burst_feed fr c hc (by
    intro h0
    have h3 := hj (m - fr)
    have h4 : m < fr + 64 := by omega
    rw [decide_eq_true (show m - fr < 64 by omega), show fr + (m - fr) = m by omega, hem, h0] at h3
    simp at h3) (fun p => decide (fr ≤ p ∧ p < fr + 64) && c.testBit (p - fr)) (fun p => rfl) (N - (fr + 64))
  rw [show fr + 64 + (N - (fr + 64)) = N by omega] at h2
  rw [h1]; exact h2
/-- Two sealed texts of one length do not differ by bits within 64. -/
theorem sealed_apart (s t : ByteArray) (hz : t.size = s.size) (e : Nat → Bool) (he : ∀ p, p < 8 * (s.size + 8) → bitOf (sealT t).data.toList p = (bitOf (sealT s).data.toList p ^^ e p))
    (q : Nat) (hq : q < 8 * (s.size + 8)) (hqe : e q = true) (hw : ∀ p p', e p = true → e p' = true → p < p' + 64) : False := by
  have c1 := crc_sealed s
  have c2 := crc_sealed t
  have l1 : (sealT s).data.toList.length = s.size + 8 := by rw [ba_size, sealT_size]
  have l2 : (sealT t).data.toList.length = s.size + 8 := by rw [ba_size, sealT_size, hz]
  rw [crcBytes_all, l1] at c1
  rw [crcBytes_all, l2] at c2
  have hx := feedN_xor (~~~ BitVec.ofInt 64 0) (~~~ BitVec.ofInt 64 0) (bitOf (sealT s).data.toList) (bitOf (sealT t).data.toList) (8 * (s.size + 8))
  rw [c1, c2, BitVec.xor_self, BitVec.xor_self] at hx
  refine feed_ne e (8 * (s.size + 8)) q (by omega) hq hqe hw (Eq.trans (feedN_congr _ _ (fun p hp => ?_)) hx)
  rw [he p hp]
  generalize bitOf (sealT s).data.toList p = x
  cases x <;> cases e p <;> rfl
theorem bitOf_app (a b : List UInt8) (p : Nat) : bitOf (a ++ b) p = if p < 8 * a.length then bitOf a p else bitOf b (p - 8 * a.length) := by
  unfold bitOf
  rw [List.getD_eq_getElem?_getD, List.getElem?_append]
  by_cases h : p < 8 * a.length
  · rw [if_pos h, if_pos (by omega), List.getD_eq_getElem?_getD]
  · rw [if_neg h, if_neg (by omega), List.getD_eq_getElem?_getD, show (p - 8 * a.length) / 8 = p / 8 - a.length by omega, show (p - 8 * a.length) % 8 = p % 8 by omega]
theorem bitOf_left (a b : ByteArray) (p : Nat) (h : p < 8 * a.size) : bitOf (a ++ b).data.toList p = bitOf a.data.toList p := by
  rw [ba_append, bitOf_app, ba_size, if_pos h]
theorem bitOf_right (a b : ByteArray) (p : Nat) : bitOf (a ++ b).data.toList (8 * a.size + p) = bitOf b.data.toList p := by
  rw [ba_append, bitOf_app, ba_size, if_neg (by omega), Nat.add_sub_cancel_left]
/-- Rows of one length that have the same bits are the same. -/
theorem bits_ext (a b : ByteArray) (hz : a.size = b.size) (h : ∀ p, p < 8 * a.size → bitOf a.data.toList p = bitOf b.data.toList p) : a = b := by
  refine ba_ext (List.ext_getElem (by rw [ba_size, ba_size, hz]) fun i h1 h2 => ?_)
  refine UInt8.toNat_inj.1 (Nat.eq_of_testBit_eq fun j => ?_)
  by_cases hj : j < 8
  · have h3 := h (8 * i + j) (by rw [ba_size] at h1; omega)
    unfold bitOf at h3
    rw [show (8 * i + j) / 8 = i by omega, show (8 * i + j) % 8 = j by omega, List.getD_eq_getElem?_getD, List.getD_eq_getElem?_getD, List.getElem?_eq_getElem h1, List.getElem?_eq_getElem h2] at h3
    exact h3
  · have hb : ∀ x : UInt8, x.toNat.testBit j = false := fun x => Nat.testBit_lt_two_pow (Nat.lt_of_lt_of_le x.toNat_lt (Nat.pow_le_pow_right (by omega) (by omega)))
    rw [hb, hb]
theorem leadB_inj (a b : ByteArray) (ha : a.size ≤ 262144) (hb : b.size ≤ 262144) (h : sealT (leadB a.size) = sealT (leadB b.size)) : a.size = b.size := by
  have e : leadB (a.size : Int) = leadB (b.size : Int) := by
    have h1 := sealT_prefix (leadB (a.size : Int))
    have h2 := sealT_prefix (leadB (b.size : Int))
    rw [leadB_size] at h1 h2
    rw [← h1, h, h2]
  have h3 := congrArg numT e
  rw [numT_leadB a.size (by omega), numT_leadB b.size (by omega)] at h3
  omega
/-- Two frames do not differ by bits within 64. -/
theorem frames_apart (s t r r' : ByteArray) (hs : s.size ≤ 262144) (ht : t.size ≤ 262144) (e : Nat → Bool)
    (he : ∀ p, bitOf (frameT t ++ r').data.toList p = (bitOf (frameT s ++ r).data.toList p ^^ e p))
    (q : Nat) (hq : q < 8 * (s.size + 20)) (hqe : e q = true) (hw : ∀ p p', e p = true → e p' = true → p < p' + 64) : False := by
  have l1 : (sealT (leadB (s.size : Int))).size = 12 := by rw [sealT_size, leadB_size]
  have l2 : (sealT (leadB (t.size : Int))).size = 12 := by rw [sealT_size, leadB_size]
  have a1 : ∀ x r : ByteArray, frameT x ++ r = sealT (leadB (x.size : Int)) ++ (sealT x ++ r) := fun x r => ba_assoc _ _ _
  rw [a1, a1] at he
  by_cases h1 : ∃ q, q < 96 ∧ e q = true
  · obtain ⟨q1, hq1, hqe1⟩ := h1
    refine sealed_apart (leadB (s.size : Int)) (leadB (t.size : Int)) (by rw [leadB_size, leadB_size]) e (fun p hp => ?_) q1 (by rw [leadB_size]; omega) hqe1 hw
    rw [leadB_size] at hp
    have := he p
    rwa [bitOf_left _ _ _ (by omega), bitOf_left _ _ _ (by omega)] at this
  · have h2 : ∀ p, p < 96 → e p = false := fun p hp => by
      cases h3 : e p with
      | false => rfl
      | true => exact absurd ⟨p, hp, h3⟩ h1
    have h4 : sealT (leadB (t.size : Int)) = sealT (leadB (s.size : Int)) := by
      refine bits_ext _ _ (by omega) (fun p hp => ?_)
      have := he p
      rwa [bitOf_left _ _ _ (by omega), bitOf_left _ _ _ (by omega), h2 p (by omega), Bool.xor_false] at this
    have h5 := leadB_inj t s ht hs h4
    have hq96 : 96 ≤ q := by
      rcases Nat.lt_or_ge q 96 with h6 | h6
      · rw [h2 q h6] at hqe; cases hqe
      · exact h6
    refine sealed_apart s t h5 (fun p => e (96 + p)) (fun p hp => ?_) (q - 96) (by omega) (by show e _ = true; rw [show 96 + (q - 96) = q by omega]; exact hqe) (fun p p' h6 h7 => by have := hw _ _ h6 h7; omega)
    have h8 := he (96 + p)
    have z1 := sealT_size s
    have z2 := sealT_size t
    have b1 : bitOf (sealT (leadB (t.size : Int)) ++ (sealT t ++ r')).data.toList (96 + p) = bitOf (sealT t).data.toList p := by
      have := bitOf_right (sealT (leadB (t.size : Int))) (sealT t ++ r') p
      rw [l2] at this
      rw [this, bitOf_left _ _ _ (by omega)]
    have b2 : bitOf (sealT (leadB (s.size : Int)) ++ (sealT s ++ r)).data.toList (96 + p) = bitOf (sealT s).data.toList p := by
      have := bitOf_right (sealT (leadB (s.size : Int))) (sealT s ++ r) p
      rw [l1] at this
      rw [this, bitOf_left _ _ _ (by omega)]
    rw [b1, b2] at h8
    exact h8
theorem same_l' (a : List ByteArray) (ha : a.length ≤ 9000000000000000000) (d : Nat) : ∀ i : Nat, i + d = a.length → Ev (fun n => forebayref06_Same.l0 n a a (i : Int)) true := by
  induction d with
  | zero =>
    intro i hi
    refine Ev.succ ?_
    simp only [forebayref06_Same.l0]
    exact Ev.neg (by omega) (Ev.const rfl)
  | succ d ih =>
    intro i hi
    refine Ev.succ ?_
    simp only [forebayref06_Same.l0]
    have hw : wrap64 ((i : Int) + 1) = ((i + 1 : Nat) : Int) := by unfold wrap64; omega
    rw [hw]
    exact Ev.pos (by omega) (Ev.pos (by omega) (Ev.pos (by omega) (Ev.pos (by trivial) (ih (i + 1) (by omega)))))
theorem same_ev' (a : List ByteArray) (ha : a.length ≤ 9000000000000000000) : Ev (fun n => forebayref06_Same.f n a a) true := by
  unfold forebayref06_Same.f
  exact Ev.pos (by trivial) (same_l' a ha a.length 0 (by omega))
/-- Frames of which one has bits turned within 64. -/
theorem scan_turned (l : List ByteArray) (kk : Nat) (hkk : kk < l.length) (h500 : ∀ s ∈ l, s.size ≤ 500) (hc : costs l ≤ 20000) (fr : Nat) (a : Int) (h0 : 0 ≤ a) (h1 : a ≤ 18446744073709551615) (hne : a ≠ 0)
    (hfr : (putT (l.take kk)).size * 8 ≤ fr) (hfr2 : fr + 63 < 8 * ((putT (l.take kk)).size + (rdOf ByteArray.empty l (kk : Int)).size + 20)) :
    scanT (strOfNums (flipNums (bytesOf (putT l)) fr a 64)) = l.take kk := by
  have hx := h500 _ (rd_mem l kk hkk)
  have e0 : putT l = putT (l.take kk) ++ (frameT (rdOf ByteArray.empty l (kk : Int)) ++ putT (l.drop (kk + 1))) := by
    have h2 := putT_append (l.take kk) (l.drop kk)
    rw [List.take_append_drop] at h2
    rw [h2, drop_cons l kk hkk]
    rfl
  have hps := putT_size l
  have hA5 : ∀ s ∈ l.take kk, s.size ≤ 262144 := fun s hs => by have := h500 s (List.mem_of_mem_take hs); omega
  generalize rdOf ByteArray.empty l (kk : Int) = x at *
  generalize putT (l.drop (kk + 1)) = R at *
  have hlen := bytesOf_length (putT l)
  obtain ⟨A, hA⟩ : ∃ A, putT (l.take kk) = A := ⟨_, rfl⟩
  rw [hA] at e0 hfr hfr2
  have hsz := congrArg ByteArray.size e0
  rw [ba_append_size, ba_append_size, frameT_size] at hsz
  obtain ⟨f1, f2⟩ := flip_bits (bytesOf (putT l)) fr a h0 (bytes8_of _) (by rw [hlen]; omega) 64 (Nat.le_refl _)
  have hBz : (strOfNums (flipNums (bytesOf (putT l)) fr a 64)).size = (putT l).size := by rw [strOfNums_len, flipNums_length, hlen]
  have hbits : ∀ p, bitOf (strOfNums (flipNums (bytesOf (putT l)) fr a 64)).data.toList p = (bitOf (putT l).data.toList p ^^ (decide (fr ≤ p ∧ p < fr + 64) && a.toNat.testBit (p - fr))) := by
    intro p
    rw [bitI_of _ f1, f2]
    have e3 : bitOf (putT l).data.toList p = bitI (bytesOf (putT l)) p := by
      rw [← bitI_of _ (bytes8_of _), strOfNums_bytesOf]
    rw [e3]
  clear f1 f2
  generalize strOfNums (flipNums (bytesOf (putT l)) fr a 64) = B at *
  have e1 : B.extract 0 A.size = A := by
    have hez := ex_size B A.size (by omega)
    refine bits_ext _ _ hez (fun p hp => ?_)
    have h2 := ex_split B A.size
    have h3 := bitOf_left (B.extract 0 A.size) (B.extract A.size B.size) p (by omega)
    rw [h2] at h3
    rw [← h3, hbits, e0, bitOf_left _ _ _ (by omega), decide_eq_false (by omega), Bool.false_and, Bool.xor_false]
  have e2 := ex_split B A.size
  rw [e1] at e2
  have hT : ∀ p, bitOf (B.extract A.size B.size).data.toList p = (bitOf (frameT x ++ R).data.toList p ^^ (decide (fr ≤ 8 * A.size + p ∧ 8 * A.size + p < fr + 64) && a.toNat.testBit (8 * A.size + p - fr))) := by
    intro p
    have h2 := hbits (8 * A.size + p)
    rw [e0, bitOf_right] at h2
    rw [← h2]
    have h3 := bitOf_right A (B.extract A.size B.size) p
    rw [e2] at h3
    exact h3.symm
  have hTz := ex_drop B A.size (by omega)
  generalize B.extract A.size B.size = T at *
  have hone : ∃ j, j < 64 ∧ a.toNat.testBit j = true := by
    obtain ⟨j, hj⟩ : ∃ j, a.toNat.testBit j = true := by
      refine Classical.byContradiction fun hh => ?_
      have h2 : a.toNat = 0 := Nat.eq_of_testBit_eq fun j => by
        rw [Nat.zero_testBit]
        cases h3 : a.toNat.testBit j with
        | false => rfl
        | true => exact absurd ⟨j, h3⟩ hh
      omega
    refine ⟨j, ?_, hj⟩
    rcases Nat.lt_or_ge j 64 with h2 | h2
    · exact h2
    · have : a.toNat.testBit j = false := Nat.testBit_lt_two_pow (Nat.lt_of_lt_of_le (show a.toNat < 2 ^ 64 by omega) (Nat.pow_le_pow_right (by omega) h2))
      rw [this] at hj; cases hj
  obtain ⟨j, hj, hjb⟩ := hone
  have hnone : frame1 T = none := by
    cases h2 : frame1 T with
    | none => rfl
    | some s =>
      exfalso
      obtain ⟨h3, h4⟩ := frame1_is T s (by omega) h2
      refine frames_apart x s R (T.extract (20 + s.size) T.size) (by omega) h3 (fun p => decide (fr ≤ 8 * A.size + p ∧ 8 * A.size + p < fr + 64) && a.toNat.testBit (8 * A.size + p - fr)) (fun p => ?_) (fr + j - 8 * A.size) (by omega) ?_ (fun p p' h5 h6 => ?_)
      · rw [← h4]; exact hT p
      · show (decide _ && a.toNat.testBit _) = true
        rw [decide_eq_true (by omega), show 8 * A.size + (fr + j - 8 * A.size) - fr = j by omega, hjb]
        rfl
      · simp only [Bool.and_eq_true, decide_eq_true_eq] at h5 h6
        omega
  rw [← e2, ← hA, scanT_put _ _ hA5 (by rw [hA, e2]; omega), scanT_none _ hnone, List.append_nil]
theorem FrameTurned : forebaylaw06_FrameTurned.Pure := by
  intro l a1 a2 a3 hi
  obtain ⟨_, w1, w2, w3⟩ := hi
  have b1 := wf_u8 w1
  have b2 := wf_u16 w2
  have b3 := wf_u64 w3
  refine Ev.rounds ?_
  unfold forebaylaw06_FrameTurned.f
  refine Ev.bind (great_ev l) ?_
  cases hg : greatT l with
  | true => exact Ev.pos (.inl rfl) head_ends
  | false =>
    refine Ev.ite (fun _ => head_ends) (fun hn => ?_)
    have hl0 : ¬ l.length = 0 := fun h => hn (.inr (.inl h))
    have ha0 : ¬ a3 = 0 := fun h => hn (.inr (.inr h))
    obtain ⟨h20, h500⟩ := great_not hg
    have hcs := costs_small h20 h500
    refine Ev.pos ⟨b1.1, b1.2, b2.1, b2.2, b3.1, by omega⟩ ?_
    have m0 := Int.emod_nonneg a1 (show (l.length : Int) ≠ 0 by omega)
    have m1 := Int.emod_lt_of_pos a1 (show 0 < (l.length : Int) by omega)
    obtain ⟨kk, hk⟩ := Int.eq_ofNat_of_zero_le m0
    rw [hk] at m1 ⊢
    rw [Int.toNat_natCast]
    have hkl : kk < l.length := by omega
    clear hk m0 m1
    have hg2 : greatT (l.take kk) = false := by
      unfold greatT
      rw [Bool.or_eq_false_iff]
      refine ⟨decide_eq_false (by rw [List.length_take]; omega), ?_⟩
      rw [List.any_eq_false]
      intro s hs
      have := h500 s (List.mem_of_mem_take hs)
      simp; omega
    refine Ev.bind (put_ev hg) (Ev.bind (put_ev hg2) (Ev.neg (fun h => by rcases h with h | h <;> exact h rfl) ?_))
    dsimp only
    have hps := putT_size l
    have hpt := putT_size (l.take kk)
    have hx := h500 _ (rd_mem l kk hkl)
    have hsum : costs l = costs (l.take kk) + (20 + ((rdOf ByteArray.empty l (kk : Int)).size : Int) + costs (l.drop (kk + 1))) := by
      have h1 : ∀ a b : List ByteArray, costs (a ++ b) = costs a + costs b := by
        intro a b
        induction a with
        | nil => show costs b = 0 + costs b; omega
        | cons s a ih => show 20 + (s.size : Int) + costs (a ++ b) = 20 + (s.size : Int) + costs a + costs b; omega
      have h2 := h1 (l.take kk) (l.drop kk)
      rw [List.take_append_drop, drop_cons l kk hkl] at h2
      exact h2
    have hnn := costs_nn (l.drop (kk + 1))
    have t0 := Int.emod_nonneg a2 (show (8 * (((rdOf ByteArray.empty l (kk : Int)).size : Int) + 20) - 63) ≠ 0 by omega)
    have t1 := Int.emod_lt_of_pos a2 (show 0 < (8 * (((rdOf ByteArray.empty l (kk : Int)).size : Int) + 20) - 63) by omega)
    have hta : turnAt l kk ((putT (l.take kk)).size : Int) a2 = 8 * ((putT (l.take kk)).size : Int) + a2 % (8 * (((rdOf ByteArray.empty l (kk : Int)).size : Int) + 20) - 63) := rfl
    obtain ⟨fr, hfr⟩ := Int.eq_ofNat_of_zero_le (show 0 ≤ turnAt l kk ((putT (l.take kk)).size : Int) a2 by omega)
    rw [hfr] at hta ⊢
    rw [Int.toNat_natCast]
    have hst := scan_turned l kk hkl h500 (by omega) fr a3 b3.1 b3.2 ha0 (by omega) (by omega)
    have hz : (strOfNums (flipNums (bytesOf (putT l)) fr a3 64)).size = (putT l).size := by rw [strOfNums_len, flipNums_length, bytesOf_length]
    refine Ev.pos ⟨by omega, by omega, by omega, by omega⟩ (Ev.eq_bind (scan_eq _ (by omega)) ?_)
    rw [hst]
    refine Ev.pos hpt.symm (Ev.bind (same_ev' (l.take kk) (by rw [List.length_take]; omega)) (Ev.pos rfl head_ends))

end Go.Proofs.Ytdhnlcbijefinaa.Pure
