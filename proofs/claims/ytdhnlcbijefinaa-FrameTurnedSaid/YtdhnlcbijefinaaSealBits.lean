/- Bits of a sealed row, and what turning some of them within 64 does. -/
import Derived.Test.YtdhnlcbijefinaaSealLin
namespace Go.Proofs.Ytdhnlcbijefinaa.Pure
open Go.RowKit Go.Proofs.Ytdhnlcbijefinaa.P Go.Proofs.YtdhnlcbijefinaaW.PrintWords Go.Proofs.YtdhnlcbijefinaaW.PrintLast
set_option linter.unusedVariables false
set_option linter.unusedSimpArgs false

def bit64 (b : Bool) : BitVec 64 := if b then 1#64 else 0#64
theorem bit64_xor (a b : Bool) : bit64 (a ^^ b) = bit64 a ^^^ bit64 b := by cases a <;> cases b <;> decide
/-- A register behind n bits. -/
def feedN (r : BitVec 64) (f : Nat → Bool) : Nat → BitVec 64
  | 0 => r
  | n + 1 => step1 (feedN r f n ^^^ bit64 (f n))
theorem feedN_add (r : BitVec 64) (f : Nat → Bool) (m n : Nat) : feedN r f (m + n) = feedN (feedN r f m) (fun j => f (m + j)) n := by
  induction n with
  | zero => rfl
  | succ n ih => show step1 (feedN r f (m + n) ^^^ bit64 (f (m + n))) = step1 (feedN (feedN r f m) (fun j => f (m + j)) n ^^^ bit64 (f (m + n))); rw [ih]
theorem feedN_congr {f g : Nat → Bool} (r : BitVec 64) (n : Nat) (h : ∀ i, i < n → f i = g i) : feedN r f n = feedN r g n := by
  induction n with
  | zero => rfl
  | succ n ih =>
    show step1 _ = step1 _
    rw [ih (fun i hi => h i (by omega)), h n (by omega)]
theorem feedN_xor (r q : BitVec 64) (f g : Nat → Bool) (n : Nat) : feedN (r ^^^ q) (fun i => f i ^^ g i) n = feedN r f n ^^^ feedN q g n := by
  induction n with
  | zero => rfl
  | succ n ih =>
    show step1 _ = step1 _ ^^^ step1 _
    rw [ih, bit64_xor, ← step1_xor]
    congr 1
    ac_rfl
theorem steps_pow (k : Nat) : k ≤ 63 → steps k (BitVec.ofNat 64 (2 ^ k)) = 1#64 := by
  induction k with
  | zero => intro _; rfl
  | succ k ih =>
    intro hk
    have h1 : 2 ^ k * 2 = 2 ^ (k + 1) := by rw [Nat.pow_succ]
    have h2 : 2 ^ (k + 1) ≤ 2 ^ 63 := Nat.pow_le_pow_right (by omega) hk
    show steps k (step1 _) = _
    have e : step1 (BitVec.ofNat 64 (2 ^ (k + 1))) = BitVec.ofNat 64 (2 ^ k) := by
      refine BitVec.eq_of_toNat_eq ?_
      have h3 : (BitVec.ofNat 64 (2 ^ (k + 1))).toNat = 2 ^ (k + 1) := by rw [BitVec.toNat_ofNat, Nat.mod_eq_of_lt (by omega)]
      rw [step1_even _ (by rw [h3]; omega), h3, BitVec.toNat_ofNat, Nat.mod_eq_of_lt (by omega)]
      omega
    rw [e]
    exact ih (by omega)
theorem steps_nil (k : Nat) : steps k 0#64 = 0#64 := by
  induction k with
  | zero => rfl
  | succ k ih => exact ih
theorem mod_pow_split (c k : Nat) (hk : k ≤ 63) : BitVec.ofNat 64 (c % 2 ^ (k + 1)) = BitVec.ofNat 64 (c % 2 ^ k) ^^^ (if c.testBit k then BitVec.ofNat 64 (2 ^ k) else 0#64) := by
  refine BitVec.eq_of_getLsbD_eq fun i hi => ?_
  rw [BitVec.getLsbD_xor]
  have h1 : ∀ x, (BitVec.ofNat 64 x).getLsbD i = x.testBit i := fun x => by rw [BitVec.getLsbD_ofNat]; simp [hi]
  rw [h1, h1, Nat.testBit_mod_two_pow, Nat.testBit_mod_two_pow]
  by_cases hb : c.testBit k = true
  · rw [if_pos hb, h1, Nat.testBit_two_pow]
    rcases Nat.lt_trichotomy i k with h | h | h
    · simp [h, show i < k + 1 by omega, show ¬ k = i by omega]
    · subst h; simp [hb]
    · simp [show ¬ i < k by omega, show ¬ i < k + 1 by omega, show ¬ k = i by omega]
  · rw [if_neg hb]
    rcases Nat.lt_trichotomy i k with h | h | h
    · simp [h, show i < k + 1 by omega]
    · subst h; simp [hb]
    · simp [show ¬ i < k by omega, show ¬ i < k + 1 by omega]
theorem feed_word (r : BitVec 64) (c : Nat) (k : Nat) : k ≤ 64 → feedN r (fun j => c.testBit j) k = steps k (r ^^^ BitVec.ofNat 64 (c % 2 ^ k)) := by
  induction k with
  | zero => intro _; simp [feedN, steps, Nat.mod_one]
  | succ k ih =>
    intro hk
    show step1 (feedN r _ k ^^^ _) = _
    rw [ih (by omega), steps_succ, mod_pow_split c k (by omega), ← BitVec.xor_assoc, steps_xor k (r ^^^ _)]
    congr 2
    by_cases hb : c.testBit k = true
    · rw [if_pos hb, steps_pow k (by omega)]; simp [bit64, hb]
    · rw [if_neg hb, steps_nil]; simp [bit64, hb]
theorem crcByte_feed (r : BitVec 64) (c : UInt8) : crcByte r c.toNat = feedN r (fun j => c.toNat.testBit j) 8 := by
  rw [feed_word r c.toNat 8 (by omega), Nat.mod_eq_of_lt c.toNat_lt]
  rfl
/-- Bit p of a row of bytes. -/
def bitOf (l : List UInt8) (p : Nat) : Bool := (l.getD (p / 8) 0).toNat.testBit (p % 8)
theorem crcBytes_feed (r : BitVec 64) (l : List UInt8) (n : Nat) : n ≤ l.length → crcBytes r (l.take n) = feedN r (bitOf l) (8 * n) := by
  induction n with
  | zero => intro _; rfl
  | succ n ih =>
    intro hn
    rw [List.take_succ_eq_append_getElem (by omega), crcBytes_append, ih (by omega), show 8 * (n + 1) = 8 * n + 8 by omega, feedN_add]
    show crcByte _ _ = _
    rw [crcByte_feed]
    refine feedN_congr _ _ (fun i hi => ?_)
    unfold bitOf
    rw [show (8 * n + i) / 8 = n by omega, show (8 * n + i) % 8 = i by omega, List.getD_eq_getElem?_getD, List.getElem?_eq_getElem (by omega)]
    rfl
theorem crcBytes_all (r : BitVec 64) (l : List UInt8) : crcBytes r l = feedN r (bitOf l) (8 * l.length) := by
  have := crcBytes_feed r l l.length (Nat.le_refl _)
  rwa [List.take_length] at this
theorem byte_of_word (n j i : Nat) (hi : i < 8) : (UInt8.ofNat (n / 256 ^ j % 256)).toNat.testBit i = n.testBit (8 * j + i) := by
  rw [UInt8.toNat_ofNat_of_lt' (by have := Nat.mod_lt (n / 256 ^ j) (show 0 < 256 by omega); exact this)]
  rw [show (256 : Nat) = 2 ^ 8 from rfl, Nat.testBit_mod_two_pow, ← Nat.pow_mul, Nat.testBit_div_two_pow]
  simp [hi]
  rw [Nat.add_comm]
theorem rfl_toNat (a b : Nat) : ((a : Int) / (b : Int) % 256).toNat = a / b % 256 := by omega
theorem crc_tail (R V : BitVec 64) : crcBytes R (tail8 (uv V)) = steps 64 (R ^^^ V) := by
  have hl := tail8_length (uv V)
  rw [crcBytes_all, hl]
  have h2 : feedN R (bitOf (tail8 (uv V))) (8 * 8) = feedN R (fun j => V.toNat.testBit j) 64 := by
    refine feedN_congr _ _ (fun p hp => ?_)
    have hb : (tail8 (uv V)).getD (p / 8) 0 = UInt8.ofNat (V.toNat / 256 ^ (p / 8) % 256) := by
      rw [List.getD_eq_getElem?_getD, List.getElem?_eq_getElem (by omega)]
      simp only [tail8, List.getElem_map, List.getElem_range, Option.getD_some]
      congr 1
    unfold bitOf
    rw [hb, byte_of_word _ _ _ (by omega)]
    congr 1
    omega
  rw [h2, feed_word R V.toNat 64 (Nat.le_refl _), Nat.mod_eq_of_lt V.isLt, BitVec.ofNat_toNat, BitVec.setWidth_eq]
theorem crc_sealed (u : ByteArray) : crcBytes (~~~ BitVec.ofInt 64 0) (sealT u).data.toList = steps 64 (BitVec.allOnes 64) := by
  rw [sealT_list, crcBytes_append]
  unfold moreT
  rw [crc_tail]
  congr 1
  generalize crcBytes (~~~ BitVec.ofInt 64 0) u.data.toList = R
  ext i hi
  simp only [BitVec.getElem_xor, BitVec.getElem_not, BitVec.getElem_allOnes]
  cases R[i] <;> rfl

/-- The bits of a row of numbers. -/
def bitI (l : List Int) (p : Nat) : Bool := (l.getD (p / 8) 0).toNat.testBit (p % 8)
def Bytes8 (l : List Int) : Prop := ∀ i : Nat, 0 ≤ l.getD i 0 ∧ l.getD i 0 ≤ 255
theorem xor8_int {x : Int} (h0 : 0 ≤ x) (h1 : x ≤ 255) {m : Nat} (hm : m < 8) : 0 ≤ Go.bits .xor .u8 x (2 ^ m) ∧ Go.bits .xor .u8 x (2 ^ m) ≤ 255 ∧ ∀ i, i < 8 → (Go.bits .xor .u8 x (2 ^ m)).toNat.testBit i = (x.toNat.testBit i ^^ decide (i = m)) := by
  obtain ⟨n, rfl⟩ : ∃ n : Nat, x = n := ⟨x.toNat, by omega⟩
  have hn : n < 2 ^ 8 := by omega
  have hp : (2 : Nat) ^ m < 2 ^ 8 := Nat.pow_lt_pow_right (by omega) hm
  have e2 : ((2 : Int) ^ m) = ((2 ^ m : Nat) : Int) := by simp
  have e : Go.bits .xor .u8 (n : Int) (2 ^ m) = ((n ^^^ 2 ^ m : Nat) : Int) := by
    show IntKind.u8.wrap ((BitVec.ofInt 8 (n : Int) ^^^ BitVec.ofInt 8 (2 ^ m)).toNat : Int) = _
    rw [e2, BitVec.ofInt_natCast, BitVec.ofInt_natCast, BitVec.toNat_xor, BitVec.toNat_ofNat, BitVec.toNat_ofNat, Nat.mod_eq_of_lt hn, Nat.mod_eq_of_lt hp]
    have hx : n ^^^ 2 ^ m < 2 ^ 8 := Nat.xor_lt_two_pow hn hp
    simp [IntKind.wrap, IntKind.bits, IntKind.signed]
    omega
  have hx : n ^^^ 2 ^ m < 2 ^ 8 := Nat.xor_lt_two_pow hn hp
  rw [e]
  refine ⟨by omega, by omega, fun i hi => ?_⟩
  rw [Int.toNat_natCast, Int.toNat_natCast, Nat.testBit_xor, Nat.testBit_two_pow]
  congr 1
  exact decide_eq_decide.2 ⟨fun h => h.symm, fun h => h.symm⟩
theorem word_bit {a : Int} (h : 0 ≤ a) (k : Nat) : (a / 2 ^ k % 2 = 1) ↔ a.toNat.testBit k = true := by
  obtain ⟨n, rfl⟩ : ∃ n : Nat, a = n := ⟨a.toNat, by omega⟩
  have e2 : ((2 : Int) ^ k) = ((2 ^ k : Nat) : Int) := by simp
  rw [Int.toNat_natCast, Nat.testBit_eq_decide_div_mod_eq, decide_eq_true_eq, e2]
  omega
theorem getD_set (l : List Int) (i j : Nat) (x : Int) (hi : i < l.length) : (l.set i x).getD j 0 = if i = j then x else l.getD j 0 := by
  rw [List.getD_eq_getElem?_getD, List.getD_eq_getElem?_getD, List.getElem?_set]
  by_cases h : i = j
  · subst h; simp [hi]
  · simp [h]
theorem flip_bits (l : List Int) (fr : Nat) (a : Int) (ha : 0 ≤ a) (hb : Bytes8 l) (hfr : fr + 63 < 8 * l.length) (k : Nat) : k ≤ 64 → Bytes8 (flipNums l fr a k) ∧
    ∀ p, bitI (flipNums l fr a k) p = (bitI l p ^^ (decide (fr ≤ p ∧ p < fr + k) && a.toNat.testBit (p - fr))) := by
  induction k with
  | zero =>
    intro _
    refine ⟨hb, fun p => ?_⟩
    have : ¬ (fr ≤ p ∧ p < fr + 0) := by omega
    simp only [flipNums, decide_eq_false this, Bool.false_and, Bool.xor_false]
  | succ k ih =>
    intro hk
    obtain ⟨ih1, ih2⟩ := ih (by omega)
    have hln := flipNums_length l fr a k
    rw [flipNums]
    by_cases hbit : a / 2 ^ k % 2 = 1
    · rw [if_pos hbit]
      have hbit' := (word_bit ha k).1 hbit
      have hidx : (fr + k) / 8 < (flipNums l fr a k).length := by rw [hln]; omega
      obtain ⟨x0, x1, x2⟩ := xor8_int (ih1 ((fr + k) / 8)).1 (ih1 ((fr + k) / 8)).2 (show (fr + k) % 8 < 8 by omega)
      refine ⟨fun i => ?_, fun p => ?_⟩
      · rw [getD_set _ _ _ _ hidx]
        split
        · exact ⟨x0, x1⟩
        · exact ih1 i
      · have hp := ih2 p
        unfold bitI at hp ⊢
        rw [getD_set _ _ _ _ hidx]
        by_cases h : (fr + k) / 8 = p / 8
        · rw [if_pos h, x2 _ (by omega), h, hp]
          by_cases hpk : p % 8 = (fr + k) % 8
          · have e : p = fr + k := by omega
            subst e
            have h1 : ¬ (fr ≤ fr + k ∧ fr + k < fr + k) := by omega
            have h2 : fr ≤ fr + k ∧ fr + k < fr + (k + 1) := by omega
            rw [decide_eq_false h1, decide_eq_true h2, decide_eq_true hpk, show fr + k - fr = k by omega, hbit']
            simp
          · have h3 : (fr ≤ p ∧ p < fr + k) ↔ (fr ≤ p ∧ p < fr + (k + 1)) := by omega
            rw [decide_eq_false hpk, show decide (fr ≤ p ∧ p < fr + k) = decide (fr ≤ p ∧ p < fr + (k + 1)) from decide_eq_decide.2 h3]
            simp
        · have h3 : (fr ≤ p ∧ p < fr + k) ↔ (fr ≤ p ∧ p < fr + (k + 1)) := by
            constructor
            · omega
            · intro hh
              refine ⟨hh.1, ?_⟩
              rcases Nat.lt_or_ge p (fr + k) with h4 | h4
              · exact h4
              · exact absurd (show (fr + k) / 8 = p / 8 by have : p = fr + k := by omega
                                                           rw [this]) h
          rw [if_neg h, hp, decide_eq_decide.2 h3]
    · rw [if_neg hbit]
      have hbit' : a.toNat.testBit k = false := by
        have := fun h => hbit ((word_bit ha k).2 h)
        simpa using this
      refine ⟨ih1, fun p => ?_⟩
      rw [ih2]
      by_cases hpk : p = fr + k
      · subst hpk
        rw [show fr + k - fr = k by omega, hbit']
        simp
      · have h3 : (fr ≤ p ∧ p < fr + k) ↔ (fr ≤ p ∧ p < fr + (k + 1)) := by omega
        rw [decide_eq_decide.2 h3]
theorem bytes8_of (s : ByteArray) : Bytes8 (bytesOf s) := by
  intro i
  unfold bytesOf
  rw [List.getD_eq_getElem?_getD, List.getElem?_map]
  cases h : s.data.toList[i]? with
  | none => simp
  | some b => have := b.toNat_lt; simp; omega
theorem bitI_of (l : List Int) (hb : Bytes8 l) (p : Nat) : bitOf (strOfNums l).data.toList p = bitI l p := by
  unfold bitOf bitI
  rw [strOfNums_list]
  have h := hb (p / 8)
  rw [List.getD_eq_getElem?_getD, List.getElem?_map]
  rw [List.getD_eq_getElem?_getD] at h ⊢
  cases hx : l[p / 8]? with
  | none => simp
  | some b =>
    rw [hx] at h
    simp only [Option.map_some, Option.getD_some] at h ⊢
    rw [UInt8.toNat_ofNat_of_lt' (show b.toNat < 256 by omega)]
theorem burst_feed (fr : Nat) (c : Nat) (hc : c < 2 ^ 64) (h0 : c ≠ 0) (e : Nat → Bool) (he : ∀ p, e p = (decide (fr ≤ p ∧ p < fr + 64) && c.testBit (p - fr))) (n : Nat) : feedN 0#64 e (fr + 64 + n) ≠ 0#64 := by
  have h1 : feedN 0#64 e fr = 0#64 := by
    have h2 : ∀ m, m ≤ fr → feedN 0#64 e m = 0#64 := by
      intro m
      induction m with
      | zero => intro _; rfl
      | succ m ih =>
        intro hm
        have h3 : ¬ (fr ≤ m ∧ m < fr + 64) := by omega
        show step1 (feedN 0#64 e m ^^^ bit64 (e m)) = _
        rw [ih (by omega), he, decide_eq_false h3]
        exact show step1 (0#64 ^^^ bit64 false) = 0#64 by decide
    exact h2 fr (Nat.le_refl _)
  have h4 : feedN 0#64 e (fr + 64) = steps 64 (BitVec.ofNat 64 c) := by
    rw [feedN_add, h1]
    have h5 : feedN 0#64 (fun j => e (fr + j)) 64 = feedN 0#64 (fun j => c.testBit j) 64 := by
      refine feedN_congr _ _ (fun i hi => ?_)
      rw [he, decide_eq_true (show fr ≤ fr + i ∧ fr + i < fr + 64 by omega), show fr + i - fr = i by omega]
      rfl
    rw [h5, feed_word _ _ 64 (Nat.le_refl _), Nat.mod_eq_of_lt hc, BitVec.zero_xor]
  induction n with
  | zero =>
    intro h
    rw [Nat.add_zero, h4] at h
    have h6 := steps_zero 64 _ h
    have h7 := congrArg BitVec.toNat h6
    rw [BitVec.toNat_ofNat, Nat.mod_eq_of_lt hc] at h7
    exact h0 h7
  | succ n ih =>
    intro h
    have h3 : ¬ (fr ≤ fr + 64 + n ∧ fr + 64 + n < fr + 64) := by omega
    have h8 : step1 (feedN 0#64 e (fr + 64 + n) ^^^ bit64 (e (fr + 64 + n))) = 0#64 := h
    rw [he, decide_eq_false h3] at h8
    have h9 : bit64 (false && c.testBit (fr + 64 + n - fr)) = 0#64 := rfl
    rw [h9, BitVec.xor_zero] at h8
    exact ih (step1_zero _ h8)
/-- Turned bits within 64 of a sealed row: it does not open. -/
theorem burst_shut (s : ByteArray) (fr : Nat) (a : Int) (h0 : 0 ≤ a) (h1 : a ≤ 18446744073709551615) (hne : a ≠ 0) (hfr : fr + 63 < 8 * (s.size + 8)) :
    (openT (strOfNums (flipNums (bytesOf (sealT s)) fr a 64))).2 = false := by
  have hl : (bytesOf (sealT s)).length = s.size + 8 := by rw [bytesOf_length, sealT_size]
  obtain ⟨f1, f2⟩ := flip_bits (bytesOf (sealT s)) fr a h0 (bytes8_of _) (by rw [hl]; exact hfr) 64 (Nat.le_refl _)
  unfold openT
  by_cases h : 8 ≤ (strOfNums (flipNums (bytesOf (sealT s)) fr a 64)).size ∧ sealT ((strOfNums (flipNums (bytesOf (sealT s)) fr a 64)).extract 0 ((strOfNums (flipNums (bytesOf (sealT s)) fr a 64)).size - 8)) = strOfNums (flipNums (bytesOf (sealT s)) fr a 64)
  · exfalso
    have c1 := crc_sealed s
    have c2 := crc_sealed ((strOfNums (flipNums (bytesOf (sealT s)) fr a 64)).extract 0 ((strOfNums (flipNums (bytesOf (sealT s)) fr a 64)).size - 8))
    rw [h.2] at c2
    have l2 : (strOfNums (flipNums (bytesOf (sealT s)) fr a 64)).data.toList.length = s.size + 8 := by rw [ba_size, strOfNums_len, flipNums_length, hl]
    have l1 : (sealT s).data.toList.length = s.size + 8 := by rw [ba_size, sealT_size]
    rw [crcBytes_all, l1] at c1
    rw [crcBytes_all, l2] at c2
    have hx := feedN_xor (~~~ BitVec.ofInt 64 0) (~~~ BitVec.ofInt 64 0) (bitOf (sealT s).data.toList) (bitOf (strOfNums (flipNums (bytesOf (sealT s)) fr a 64)).data.toList) (8 * (s.size + 8))
    rw [c1, c2, BitVec.xor_self, BitVec.xor_self] at hx
    refine burst_feed fr a.toNat (by omega) (by omega) _ (fun p => ?_) (8 * (s.size + 8) - (fr + 64)) (by rw [show fr + 64 + (8 * (s.size + 8) - (fr + 64)) = 8 * (s.size + 8) by omega]; exact hx)
    rw [bitI_of _ f1, f2]
    have e3 : bitOf (sealT s).data.toList p = bitI (bytesOf (sealT s)) p := by
      rw [← bitI_of _ (bytes8_of _), strOfNums_bytesOf]
    rw [e3]
    generalize bitI (bytesOf (sealT s)) p = x
    generalize (decide (fr ≤ p ∧ p < fr + 64) && a.toNat.testBit (p - fr)) = y
    cases x <;> cases y <;> rfl
  · rw [if_neg h]

end Go.Proofs.Ytdhnlcbijefinaa.Pure
