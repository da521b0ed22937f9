/- The document's ReadNum tells what the reader reads. -/
import Derived.Test.YtphmejgipjcppaaPack
namespace Go.Proofs.Ytphmejgipjcppaa.Pure
open Go.RowKit Go.Proofs.Ytphmejgipjcppaa.P Go.Proofs.YtphmejgipjcppaaW.PrintWords Go.Proofs.YtphmejgipjcppaaW.PrintLast
set_option linter.unusedVariables false
set_option linter.unusedSimpArgs false

/-- What the first bytes come to. -/
def sumTo (s : ByteArray) : Nat → Int
  | 0 => 0
  | k + 1 => sumTo s k + bt s (k : Int) % 128 * 128 ^ k
theorem bt_range (s : ByteArray) (i : Int) : 0 ≤ bt s i ∧ bt s i ≤ 255 := by
  unfold bt
  split
  · have := (s[i.toNat]).toNat_lt
    omega
  · omega
theorem sumTo_nonneg (s : ByteArray) (k : Nat) : 0 ≤ sumTo s k := by
  induction k with
  | zero => exact Int.le_refl _
  | succ k ih =>
    rw [sumTo]
    have h1 : (0 : Int) < 128 ^ k := Int.pow_pos (by omega)
    have h2 : 0 ≤ bt s (k : Int) % 128 * 128 ^ k := Int.mul_nonneg (Int.emod_nonneg _ (by omega)) (Int.le_of_lt h1)
    omega
theorem drop_bytes (s : ByteArray) (k : Nat) (h : k < s.size) : (bytesOf s).drop k = bt s (k : Int) :: (bytesOf s).drop (k + 1) := by
  rw [List.drop_eq_getElem_cons (by rw [bytesOf_length]; exact h)]
  congr 1
  rw [← rd_bytesOf]
  simp [rd, bytesOf_length, h]
theorem rd_forward (s : ByteArray) (k : Nat) : k ≤ 9 → k ≤ s.size → (∀ i : Nat, i < k → 128 ≤ bt s (i : Int)) → rdNum 0 (bytesOf s) 0 = rdNum k ((bytesOf s).drop k) (sumTo s k) := by
  induction k with
  | zero => intro _ _ _; rfl
  | succ k ih =>
    intro h9 hs hi
    rw [ih (by omega) (by omega) (fun i h => hi i (by omega)), drop_bytes s k (by omega), rdNum, if_neg (by omega), if_pos (hi k (by omega)), sumTo]
theorem rd_long (s : ByteArray) (h : 9 < s.size) (hi : ∀ i : Nat, i < 10 → 128 ≤ bt s (i : Int)) : rdNum 0 (bytesOf s) 0 = none := by
  rw [rd_forward s 9 (Nat.le_refl _) (by omega) (fun i h => hi i (by omega)), drop_bytes s 9 h, rdNum, if_pos ⟨rfl, by have := hi 9 (by omega); omega⟩]
theorem back_ev (s : ByteArray) (hs : s.size ≤ 1000) (K : Nat) (hK : K ≤ 9) (T : Int) (hT : T < 18446744073709551616) (c : Nat) : ∀ n : Int, c ≤ s.size → 0 ≤ n → n * 128 ^ c + sumTo s c = T → Ev (fun k => forebayref01_ReadNum.l1 k s K n ((c : Int) - 1)) (T, (K : Int) + 1) := by
  induction c with
  | zero =>
    intro n hc h0 he
    refine Ev.succ ?_
    simp only [forebayref01_ReadNum.l1]
    rw [show wrap64 ((K : Int) + 1) = (K : Int) + 1 by unfold wrap64; omega]
    have e2 : n = T := by rw [sumTo] at he; omega
    subst e2
    exact Ev.neg (by omega) (Ev.const rfl)
  | succ c ih =>
    intro n hc h0 he
    have hb := bt_range s (c : Int)
    have hp : (1 : Int) ≤ 128 ^ c := Int.pow_pos (by omega)
    have hpe : (128 : Int) ^ (c + 1) = 128 ^ c * 128 := Int.pow_succ ..
    have hd0 : 0 ≤ bt s (c : Int) % 128 := Int.emod_nonneg _ (by omega)
    have he2 : (n * 128 + bt s (c : Int) % 128) * 128 ^ c + sumTo s c = T := by
      rw [sumTo, hpe] at he
      rw [← he, Int.add_mul, Int.mul_assoc n 128, Int.mul_comm (128 : Int) (128 ^ c)]
      omega
    have hn1 : 0 ≤ n * 128 + bt s (c : Int) % 128 := by omega
    have hn2 : n * 128 + bt s (c : Int) % 128 < 18446744073709551616 := by
      have h3 : (n * 128 + bt s (c : Int) % 128) * 1 ≤ (n * 128 + bt s (c : Int) % 128) * 128 ^ c := Int.mul_le_mul_of_nonneg_left hp hn1
      have h4 := sumTo_nonneg s c
      omega
    refine Ev.succ ?_
    simp only [forebayref01_ReadNum.l1]
    rw [show ((c + 1 : Nat) : Int) - 1 = (c : Int) by omega, u64_id (x := bt s (c : Int)) (by omega) (by omega), Int.tmod_eq_emod_of_nonneg hb.1, u64_id (x := n * 128) (by omega) (by omega), u64_id hn1 hn2, show wrap64 ((c : Int) - 1) = (c : Int) - 1 by unfold wrap64; omega]
    exact Ev.pos (by omega) (Ev.pos (by omega) (Ev.pos (by omega) (ih _ (by omega) hn1 he2)))
theorem j2_true (s : ByteArray) (K : Int) : Ev (fun k => forebayref01_ReadNum.j2 k s K true) (0, 0) := by
  refine Ev.succ ?_
  simp only [forebayref01_ReadNum.j2]
  exact Ev.pos (by trivial) (Ev.const rfl)
theorem j1_ev (s : ByteArray) (hs : s.size ≤ 1000) (K : Nat) (hK : K ≤ s.size) (hi : ∀ i : Nat, i < K → 128 ≤ bt s (i : Int)) (hl : K < s.size → bt s (K : Int) < 128) : Ev (fun k => forebayref01_ReadNum.j1 k s K) (rdN s) := by
  have none_ev : rdNum 0 (bytesOf s) 0 = none → Ev (fun k => forebayref01_ReadNum.j2 k s K true) (rdN s) := fun h => by rw [rdN_none h]; exact j2_true s K
  refine Ev.succ ?_
  simp only [forebayref01_ReadNum.j1]
  refine Ev.ite (fun h1 => none_ev ?_) (fun h1 => Ev.ite (fun h2 => none_ev ?_) (fun h2 => ?_))
  · by_cases h9 : K ≤ 9
    · rw [rd_forward s K h9 hK hi, List.drop_of_length_le (by rw [bytesOf_length]; omega), rdNum]
    · exact rd_long s (by omega) (fun i h => hi i (by omega))
  · exact rd_long s (by omega) (fun i h => hi i (by omega))
  · have hlt : K < s.size := by omega
    have h9 : K ≤ 9 := by omega
    have hb := hl hlt
    have hr := bt_range s (K : Int)
    have hfw := rd_forward s K h9 hK hi
    rw [drop_bytes s K hlt, rdNum] at hfw
    have good : ¬ (K = 9 ∧ 1 < bt s (K : Int)) → ¬ (bt s (K : Int) = 0 ∧ 0 < K) → Ev (fun k => forebayref01_ReadNum.j2 k s K false) (rdN s) := by
      intro g1 g2
      rw [if_neg g1, if_neg (by omega), if_neg g2] at hfw
      have hrange := rdNum_range _ 0 0 _ _ (bytesOf_range s) (by omega) (by omega) (by decide) hfw
      rw [rdN_some hfw]
      refine Ev.succ ?_
      simp only [forebayref01_ReadNum.j2]
      refine Ev.neg (by simp) ?_
      have hS : (0 : Int) * 128 ^ (K + 1) + sumTo s (K + 1) = sumTo s K + bt s (K : Int) * 128 ^ K := by
        rw [sumTo, show bt s (K : Int) % 128 = bt s (K : Int) by omega]; omega
      have := back_ev s hs K h9 _ hrange.2.1 (K + 1) 0 (by omega) (Int.le_refl _) hS
      rw [show ((K + 1 : Nat) : Int) - 1 = (K : Int) by omega] at this
      exact this
    have in9 : ¬ (bt s (K : Int) = 0 ∧ 0 < K) → Ev (fun k => (if (K : Int) = 9 then (if 0 ≤ (K : Int) then (if (K : Int) < (s.size : Int) then (forebayref01_ReadNum.j2 k s K (decide ((bt s (K : Int)) > 1))) else (none)) else (none)) else (forebayref01_ReadNum.j2 k s K false))) (rdN s) := by
      intro g2
      refine Ev.ite (fun e9 => Ev.pos (by omega) (Ev.pos (by omega) ?_)) (fun e9 => good (fun h => e9 (by omega)) g2)
      by_cases g1 : 1 < bt s (K : Int)
      · rw [show decide (bt s (K : Int) > 1) = true from decide_eq_true g1]
        rw [if_pos ⟨by omega, g1⟩] at hfw
        exact none_ev hfw
      · rw [show decide (bt s (K : Int) > 1) = false from decide_eq_false g1]
        exact good (fun h => g1 h.2) g2
    refine Ev.ite (fun h3 => Ev.pos (by omega) (Ev.pos (by omega) (Ev.ite (fun h4 => none_ev ?_) (fun h4 => ?_)))) (fun h3 => in9 (fun h => h3 (by omega)))
    · rw [hfw, if_neg (by omega), if_neg (by omega), if_pos ⟨h4, by omega⟩]
    · refine Ev.ite (fun e9 => ?_) (fun e9 => good (fun h => e9 (by omega)) (fun h => h4 h.1))
      by_cases g1 : 1 < bt s (K : Int)
      · rw [show decide (bt s (K : Int) > 1) = true from decide_eq_true g1]
        rw [if_pos ⟨by omega, g1⟩] at hfw
        exact none_ev hfw
      · rw [show decide (bt s (K : Int) > 1) = false from decide_eq_false g1]
        exact good (fun h => g1 h.2) (fun h => h4 h.1)
theorem scan_ev (s : ByteArray) (hs : s.size ≤ 1000) (d : Nat) : ∀ k : Nat, k + d = s.size → (∀ i : Nat, i < k → 128 ≤ bt s (i : Int)) → Ev (fun n => forebayref01_ReadNum.l0 n s k) (rdN s) := by
  induction d with
  | zero =>
    intro k hk hi
    refine Ev.succ ?_
    simp only [forebayref01_ReadNum.l0]
    exact Ev.neg (by omega) (j1_ev s hs k (by omega) hi (fun h => by omega))
  | succ d ih =>
    intro k hk hi
    refine Ev.succ ?_
    simp only [forebayref01_ReadNum.l0]
    rw [show wrap64 ((k : Int) + 1) = ((k + 1 : Nat) : Int) by unfold wrap64; omega]
    refine Ev.pos (by omega) (Ev.pos (by omega) (Ev.ite (fun h => ih (k + 1) (by omega) (fun i hik => ?_)) (fun h => j1_ev s hs k (by omega) hi (fun _ => by omega))))
    by_cases e : i = k
    · rw [e]; exact h
    · exact hi i (by omega)
theorem readNum_ev (s : ByteArray) (hs : s.size ≤ 1000) : Ev (fun n => forebayref01_ReadNum.f n s) (rdN s) := by
  unfold forebayref01_ReadNum.f
  exact scan_ev s hs s.size 0 (by omega) (fun i h => by omega)
end Go.Proofs.Ytphmejgipjcppaa.Pure
