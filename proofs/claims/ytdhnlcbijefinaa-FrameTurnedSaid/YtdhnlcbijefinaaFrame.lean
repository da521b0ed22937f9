/- Frames, as plain rows of bytes. -/
import Derived.Test.YtdhnlcbijefinaaSeal
namespace Go.Proofs.Ytdhnlcbijefinaa.Pure
open Go.RowKit Go.Proofs.Ytdhnlcbijefinaa.P Go.Proofs.YtdhnlcbijefinaaW.PrintWords Go.Proofs.YtdhnlcbijefinaaW.PrintLast
set_option linter.unusedVariables false
set_option linter.unusedSimpArgs false

/-- A text's frame. -/
def frameT (s : ByteArray) : ByteArray := sealT (leadB s.size) ++ sealT s
theorem ba_append_size (a b : ByteArray) : (a ++ b).size = a.size + b.size := by rw [← ba_size, ba_append, List.length_append, ba_size, ba_size]
theorem frameT_size (s : ByteArray) : (frameT s).size = s.size + 20 := by
  unfold frameT
  rw [ba_append_size, sealT_size, sealT_size, leadB_size]; omega
theorem ex_left (a b : ByteArray) (m : Nat) (h : m ≤ a.size) : (a ++ b).extract 0 m = a.extract 0 m := by
  refine ba_ext ?_
  rw [ba_take, ba_take, ba_append, List.take_append_of_le_length (by rw [ba_size]; exact h)]
theorem ex_all (a : ByteArray) : a.extract 0 a.size = a := by
  refine ba_ext ?_
  rw [ba_take, ← ba_size, List.take_length]
theorem ex_right (a b : ByteArray) (i m : Nat) (h : a.size ≤ i) : (a ++ b).extract i m = b.extract (i - a.size) (m - a.size) := by
  refine ba_ext ?_
  rw [ba_extract, ba_extract, ba_append]
  by_cases hm : a.size ≤ m
  · rw [List.take_append, List.drop_append, ba_size]
    rw [List.drop_eq_nil_of_le (by rw [List.length_take, ba_size]; omega), List.nil_append, List.length_take, ba_size, Nat.min_eq_right hm]
  · rw [List.drop_eq_nil_of_le (by rw [List.length_take]; omega), List.drop_eq_nil_of_le (by rw [List.length_take]; omega)]
theorem ex_split (b : ByteArray) (m : Nat) : b.extract 0 m ++ b.extract m b.size = b := by
  refine ba_ext ?_
  rw [ba_append, ba_take, ba_drop, List.take_append_drop]
theorem ex_mid (b : ByteArray) (i m : Nat) (h : i ≤ m) : b.extract 0 i ++ b.extract i m = b.extract 0 m := by
  refine ba_ext ?_
  rw [ba_append, ba_take, ba_extract, ba_take]
  conv => rhs; rw [← List.take_append_drop i (List.take m b.data.toList)]
  rw [List.take_take, Nat.min_eq_left h]
theorem bt_leadB (n : Nat) (h : n < 4294967296) (j : Nat) (hj : j < 4) : bt (leadB n) j = (n : Int) / 256 ^ j % 256 := by
  have hl : (leadB (n : Int)).data.toList = (leadNums (n : Int)).map fun m => UInt8.ofNat m.toNat := strOfNums_list _
  have h1 : j < (leadB (n : Int)).data.toList.length := by rw [hl, List.length_map]; simpa [leadNums] using hj
  rw [bt_get _ _ h1]
  simp only [hl, List.getElem_map]
  have e : (leadNums (n : Int))[j]'(by simpa [leadNums] using hj) = (n : Int) / 256 ^ j % 256 := by simp [leadNums]
  rw [e]
  have h0 : 0 ≤ (n : Int) / 256 ^ j % 256 := Int.emod_nonneg _ (by decide)
  have h2 : (n : Int) / 256 ^ j % 256 < 256 := Int.emod_lt_of_pos _ (by decide)
  generalize (n : Int) / 256 ^ j % 256 = z at *
  rw [UInt8.toNat_ofNat_of_lt' (by show z.toNat < 256; omega)]
  omega
theorem numT_leadB (n : Nat) (h : n < 4294967296) : numT (leadB n) = n := by
  have e0 := bt_leadB n h 0 (by omega)
  have e1 := bt_leadB n h 1 (by omega)
  have e2 := bt_leadB n h 2 (by omega)
  have e3 := bt_leadB n h 3 (by omega)
  simp only [Int.natCast_zero, Int.natCast_one, Int.cast_ofNat_Int, Int.reducePow, Int.ediv_one] at e0 e1 e2 e3
  unfold numT
  rw [e0, e1, e2, e3]
  omega
theorem numT_congr (a b : ByteArray) (ha : 4 ≤ a.size) (hb : 4 ≤ b.size) (h : a.extract 0 4 = b.extract 0 4) : numT a = numT b := by
  have e : ∀ j : Nat, j < 4 → bt a j = bt b j := fun j hj => by rw [← bt_extract a 4 j hj ha, ← bt_extract b 4 j hj hb, h]
  have e0 := e 0 (by omega)
  have e1 := e 1 (by omega)
  have e2 := e 2 (by omega)
  have e3 := e 3 (by omega)
  simp only [Int.natCast_zero, Int.natCast_one, Int.cast_ofNat_Int] at e0 e1 e2 e3
  unfold numT
  rw [e0, e1, e2, e3]
theorem leadB_numT (b : ByteArray) (h : 4 ≤ b.size) : leadB (numT b) = b.extract 0 4 := by
  have hl : (leadB (numT b)).data.toList = (leadNums (numT b)).map fun m => UInt8.ofNat m.toNat := strOfNums_list _
  have r0 := bt_range b 0
  have r1 := bt_range b 1
  have r2 := bt_range b 2
  have r3 := bt_range b 3
  refine ba_ext ?_
  rw [hl, ba_take]
  apply List.ext_getElem
  · rw [List.length_map, List.length_take, ba_size]
    simp [leadNums]; omega
  · intro j h1 h2
    have hj : j < 4 := by rw [List.length_take] at h2; omega
    have hjb : j < b.data.toList.length := by rw [ba_size]; omega
    have hb := bt_get b j hjb
    rw [List.getElem_map, List.getElem_take]
    have e : (leadNums (numT b))[j]'(by simpa [leadNums] using hj) = bt b j := by
      have e1 : (leadNums (numT b))[j]'(by simpa [leadNums] using hj) = numT b / 256 ^ j % 256 := by simp [leadNums]
      rw [e1]
      have h4 : j = 0 ∨ j = 1 ∨ j = 2 ∨ j = 3 := by omega
      unfold numT
      rcases h4 with rfl | rfl | rfl | rfl
      all_goals simp only [Int.natCast_zero, Int.natCast_one, Int.cast_ofNat_Int, Int.reducePow, Int.ediv_one]
      all_goals omega
    rw [e, hb, Int.toNat_natCast]
    simp
/-- Bytes that begin with a frame (of a text that is not too long) tell its text. -/
theorem frame1_hit (s t : ByteArray) (hs : s.size ≤ 262144) : frame1 (frameT s ++ t) = some s := by
  have hz := frameT_size s
  have hz2 := ba_append_size (frameT s) t
  have l1 : (sealT (leadB (s.size : Int))).size = 12 := by rw [sealT_size, leadB_size]
  have l2 : (sealT s).size = s.size + 8 := sealT_size s
  have e12 : (frameT s ++ t).extract 0 12 = sealT (leadB (s.size : Int)) := by
    rw [ex_left _ _ _ (by omega)]
    unfold frameT
    rw [ex_left _ _ _ (by omega)]
    conv => lhs; rw [← l1]
    exact ex_all _
  have e4 : (frameT s ++ t).extract 0 4 = leadB (s.size : Int) := by
    rw [← ex_ex (frameT s ++ t) 12 4 (by omega), e12]
    have := sealT_prefix (leadB (s.size : Int))
    rwa [leadB_size] at this
  have en : numT (frameT s ++ t) = (s.size : Int) := by
    rw [← numT_leadB s.size (by omega)]
    refine numT_congr _ _ (by omega) (by rw [leadB_size]; omega) ?_
    rw [e4]
    have := ex_all (leadB (s.size : Int))
    rw [leadB_size] at this
    exact this.symm
  have hT : sizeT (frameT s ++ t) = ((s.size : Int), true) := by
    unfold sizeT
    rw [if_neg (by omega), if_pos (by rw [e4, e12]), en, decide_eq_true (by omega)]
  have e20 : (frameT s ++ t).extract 12 (20 + s.size) = sealT s := by
    unfold frameT
    rw [show sealT (leadB (s.size : Int)) ++ sealT s ++ t = sealT (leadB (s.size : Int)) ++ (sealT s ++ t) by refine ba_ext ?_; simp only [ba_append, List.append_assoc]]
    rw [ex_right _ _ _ _ (by omega), l1, Nat.sub_self, ex_left _ _ _ (by omega), show 20 + s.size - 12 = (sealT s).size by omega, ex_all]
  have e12n : (frameT s ++ t).extract 12 (12 + s.size) = s := by
    have := ex_exm (frameT s ++ t) 12 (20 + s.size) s.size (by omega)
    rw [← this, e20, sealT_prefix]
  unfold frame1
  rw [hT]
  simp only [Int.toNat_natCast]
  rw [if_pos ⟨by trivial, by omega, by rw [e12n, e20]⟩, e12n]
/-- What is told is a frame's text. -/
theorem frame1_is (b s : ByteArray) (hb : b.size ≤ 140737488351232) (h : frame1 b = some s) : s.size ≤ 262144 ∧ b = frameT s ++ b.extract (20 + s.size) b.size := by
  have hsz := frame1_sz b s hb h
  unfold frame1 at h
  split at h
  case isFalse => cases h
  case isTrue hc =>
    obtain ⟨c1, c2, c3⟩ := hc
    have hr := sizeT_rng b c1
    have hT : sizeT b = (numT b, true) ∧ sealT (b.extract 0 4) = b.extract 0 12 ∧ ¬ b.size < 12 := by
      unfold sizeT at c1 ⊢
      by_cases q1 : b.size < 12
      · rw [if_pos q1] at c1; cases c1
      · rw [if_neg q1] at c1 ⊢
        by_cases q2 : sealT (b.extract 0 4) = b.extract 0 12
        · rw [if_pos q2] at c1 ⊢
          exact ⟨by rw [Prod.mk.injEq]; exact ⟨rfl, c1⟩, q2, q1⟩
        · rw [if_neg q2] at c1; cases c1
    obtain ⟨t1, t2, t3⟩ := hT
    rw [t1] at h c2 c3 hr
    simp only at h c2 c3 hr
    obtain ⟨n, hn⟩ := Int.eq_ofNat_of_zero_le hr.1
    rw [hn] at h c2 c3 hr
    rw [Int.toNat_natCast] at h c3
    have hs := Option.some.inj h
    have hss : s.size = n := by rw [← hs, ex_sz _ _ _ (by omega) (by omega)]; omega
    refine ⟨by omega, ?_⟩
    have e1 : sealT (leadB (s.size : Int)) = b.extract 0 12 := by rw [hss, ← hn, leadB_numT b (by omega), t2]
    have e2 : sealT s = b.extract 12 (20 + n) := by rw [← hs]; exact c3
    unfold frameT
    rw [e1, e2, ex_mid _ _ _ (by omega), hss, ex_split]
/-- The fuel is of no account, where there is enough of it. -/
theorem scanF_fuel : ∀ (k m : Nat) (b : ByteArray), b.size ≤ 140737488351232 → b.size < k → b.size < m → scanF k b = scanF m b
  | 0, _, _, _, h, _ => absurd h (Nat.not_lt_zero _)
  | _, 0, _, _, _, h => absurd h (Nat.not_lt_zero _)
  | k + 1, m + 1, b, hb, hk, hm => by
    rw [scanF, scanF]
    cases h : frame1 b with
    | none => rfl
    | some s =>
      have h1 := frame1_sz b s hb h
      have h2 := ex_drop b (20 + s.size) h1
      simp only
      rw [scanF_fuel k m _ (by omega) (by omega) (by omega)]
/-- The texts of the frames. -/
def scanT (b : ByteArray) : List ByteArray := scanF (b.size + 1) b
theorem scanT_none (b : ByteArray) (h : frame1 b = none) : scanT b = [] := by unfold scanT; rw [scanF, h]
theorem scanT_some (b s : ByteArray) (hb : b.size ≤ 140737488351232) (h : frame1 b = some s) : scanT b = s :: scanT (b.extract (20 + s.size) b.size) := by
  have h1 := frame1_sz b s hb h
  have h2 := ex_drop b (20 + s.size) h1
  unfold scanT
  rw [scanF, h]
  simp only
  rw [scanF_fuel b.size _ _ (by omega) (by omega) (Nat.lt_succ_self _)]
theorem ex_past (a t : ByteArray) : (a ++ t).extract a.size (a ++ t).size = t := by
  refine ba_ext ?_
  rw [ba_drop, ba_append, ← ba_size, List.drop_left]
theorem scanT_frame (s t : ByteArray) (hs : s.size ≤ 262144) (hb : (frameT s ++ t).size ≤ 140737488351232) : scanT (frameT s ++ t) = s :: scanT t := by
  rw [scanT_some _ s hb (frame1_hit s t hs)]
  congr 2
  have := frameT_size s
  rw [show 20 + s.size = (frameT s).size by omega]
  exact ex_past _ _
/-- Frames behind one another. -/
def putT : List ByteArray → ByteArray
  | [] => ⟨#[]⟩
  | s :: l => frameT s ++ putT l
theorem ba_nil (b : ByteArray) : (⟨#[]⟩ : ByteArray) ++ b = b := by refine ba_ext ?_; rw [ba_append]; rfl
theorem ba_nil' (b : ByteArray) : b ++ (⟨#[]⟩ : ByteArray) = b := by refine ba_ext ?_; rw [ba_append]; exact List.append_nil _
theorem ba_assoc (a b c : ByteArray) : a ++ b ++ c = a ++ (b ++ c) := by refine ba_ext ?_; simp only [ba_append, List.append_assoc]
theorem putT_size (l : List ByteArray) : ((putT l).size : Int) = costs l := by
  induction l with
  | nil => rfl
  | cons s l ih =>
    show ((frameT s ++ putT l).size : Int) = 20 + (s.size : Int) + costs l
    rw [ba_append_size, frameT_size]; omega
theorem putT_append (l m : List ByteArray) : putT (l ++ m) = putT l ++ putT m := by
  induction l with
  | nil => exact (ba_nil _).symm
  | cons s l ih => show frameT s ++ putT (l ++ m) = frameT s ++ putT l ++ putT m; rw [ih, ba_assoc]
theorem scanT_put (l : List ByteArray) (t : ByteArray) (h : ∀ s ∈ l, s.size ≤ 262144) (hb : (putT l ++ t).size ≤ 140737488351232) : scanT (putT l ++ t) = l ++ scanT t := by
  induction l with
  | nil => rw [show putT [] = (⟨#[]⟩ : ByteArray) from rfl, ba_nil]; rfl
  | cons s l ih =>
    have e : putT (s :: l) ++ t = frameT s ++ (putT l ++ t) := ba_assoc _ _ _
    rw [e] at hb ⊢
    have h1 := ba_append_size (frameT s) (putT l ++ t)
    rw [scanT_frame s _ (h s (by simp)) hb, ih (fun x hx => h x (by simp [hx])) (by omega)]
    rfl

end Go.Proofs.Ytdhnlcbijefinaa.Pure
