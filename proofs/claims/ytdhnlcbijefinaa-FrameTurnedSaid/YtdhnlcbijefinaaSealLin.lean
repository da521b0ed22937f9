/- The register of a sum is linear over exclusive or, and one step of it loses nothing. -/
import Derived.Test.YtdhnlcbijefinaaSeal
namespace Go.Proofs.Ytdhnlcbijefinaa.Pure
open Go.RowKit Go.Proofs.Ytdhnlcbijefinaa.P Go.Proofs.YtdhnlcbijefinaaW.PrintWords Go.Proofs.YtdhnlcbijefinaaW.PrintLast
set_option linter.unusedVariables false
set_option linter.unusedSimpArgs false

theorem ofNat_xor8 (a b : UInt8) : BitVec.ofNat 64 (a ^^^ b).toNat = BitVec.ofNat 64 a.toNat ^^^ BitVec.ofNat 64 b.toNat := by
  have ha := a.toNat_lt; have hb := b.toNat_lt
  refine BitVec.eq_of_toNat_eq ?_
  have hx : a.toNat ^^^ b.toNat < 2 ^ 8 := Nat.xor_lt_two_pow ha hb
  rw [UInt8.toNat_xor, BitVec.toNat_xor, BitVec.toNat_ofNat, BitVec.toNat_ofNat, BitVec.toNat_ofNat, Nat.mod_eq_of_lt (by omega), Nat.mod_eq_of_lt (by omega), Nat.mod_eq_of_lt (by omega)]
theorem crcByte_xor (r q : BitVec 64) (a b : UInt8) : crcByte (r ^^^ q) (a ^^^ b).toNat = crcByte r a.toNat ^^^ crcByte q b.toNat := by
  unfold crcByte
  rw [← steps_xor, ofNat_xor8]
  congr 1
  ac_rfl
theorem crcBytes_xor : ∀ (l m : List UInt8) (r q : BitVec 64), l.length = m.length → crcBytes (r ^^^ q) (List.zipWith (· ^^^ ·) l m) = crcBytes r l ^^^ crcBytes q m
  | [], [], r, q, _ => rfl
  | a :: l, b :: m, r, q, h => by
    show crcBytes (crcByte (r ^^^ q) (a ^^^ b).toNat) (List.zipWith (· ^^^ ·) l m) = _
    rw [crcByte_xor, crcBytes_xor l m _ _ (by simpa using h)]
    rfl
theorem zip_zeros : ∀ l : List UInt8, List.zipWith (· ^^^ ·) l (List.replicate l.length 0) = l
  | [] => rfl
  | a :: l => by
    simp only [List.length_cons, List.replicate_succ, List.zipWith_cons_cons, zip_zeros l]
    congr 1
    exact UInt8.xor_zero
theorem crc_together (r : BitVec 64) (l m : List UInt8) (h : l.length = m.length) (n : Nat) (hn : l.length = n) :
    ~~~ crcBytes r (List.zipWith (· ^^^ ·) l m) = ((~~~ crcBytes r l) ^^^ (~~~ crcBytes r m)) ^^^ (~~~ crcBytes r (List.replicate n 0)) := by
  have h1 := crcBytes_xor l m r 0#64 h
  rw [BitVec.xor_zero] at h1
  have h2 := crcBytes_xor m (List.replicate m.length 0) r r (by simp)
  rw [zip_zeros, BitVec.xor_self] at h2
  subst hn
  rw [h1, h2, h]
  generalize crcBytes r l = x
  generalize crcBytes r m = y
  generalize crcBytes r (List.replicate m.length 0) = z
  ext i hi
  simp only [BitVec.getElem_not, BitVec.getElem_xor]
  cases x[i] <;> cases y[i] <;> cases z[i] <;> rfl
theorem step1_zero (r : BitVec 64) (h : step1 r = 0#64) : r = 0#64 := by
  have hp : poly.toNat = 14514072000185962306 := rfl
  have hl := r.isLt
  unfold step1 at h
  simp only [lsb_iff] at h
  split at h
  · rename_i h1
    have h2 := congrArg BitVec.toNat h
    have h3 : r >>> 1 = poly := by
      have : (r >>> 1 ^^^ poly) ^^^ poly = 0#64 ^^^ poly := by rw [h]
      rwa [BitVec.xor_assoc, BitVec.xor_self, BitVec.xor_zero, BitVec.zero_xor] at this
    have h4 := congrArg BitVec.toNat h3
    rw [BitVec.toNat_ushiftRight, Nat.shiftRight_eq_div_pow, hp] at h4
    omega
  · rename_i h1
    have h4 := congrArg BitVec.toNat h
    rw [BitVec.toNat_ushiftRight, Nat.shiftRight_eq_div_pow] at h4
    refine BitVec.eq_of_toNat_eq ?_
    have e0 : (0#64).toNat = 0 := rfl
    rw [e0] at h4 ⊢
    omega
theorem steps_zero (n : Nat) : ∀ r, steps n r = 0#64 → r = 0#64 := by
  induction n with
  | zero => intro r h; exact h
  | succ n ih => intro r h; exact step1_zero r (ih _ h)
theorem crcBytes_inj (l : List UInt8) : ∀ r q, crcBytes r l = crcBytes q l → r = q := by
  induction l with
  | nil => intro r q h; exact h
  | cons a l ih =>
    intro r q h
    have h1 := ih _ _ h
    have h1' : steps 8 (r ^^^ BitVec.ofNat 64 a.toNat) = steps 8 (q ^^^ BitVec.ofNat 64 a.toNat) := h1
    have h2 : steps 8 ((r ^^^ BitVec.ofNat 64 a.toNat) ^^^ (q ^^^ BitVec.ofNat 64 a.toNat)) = 0#64 := by rw [steps_xor, h1', BitVec.xor_self]
    have h3 := steps_zero 8 _ h2
    have h4 : (r ^^^ BitVec.ofNat 64 a.toNat) ^^^ (q ^^^ BitVec.ofNat 64 a.toNat) = r ^^^ q := by
      generalize BitVec.ofNat 64 a.toNat = c
      ext i hi
      simp only [BitVec.getElem_xor]
      cases r[i] <;> cases q[i] <;> cases c[i] <;> rfl
    rw [h4] at h3
    have : (r ^^^ q) ^^^ q = 0#64 ^^^ q := by rw [h3]
    rwa [BitVec.xor_assoc, BitVec.xor_self, BitVec.xor_zero, BitVec.zero_xor] at this
theorem zero_ahead (l : List UInt8) : ¬ uv (~~~ crcBytes (~~~ BitVec.ofInt 64 0) ((⟨#[0]⟩ : ByteArray).data.toList ++ l)) = uv (~~~ crcBytes (~~~ BitVec.ofInt 64 0) l) := by
  intro h
  have h1 : ~~~ crcBytes (~~~ BitVec.ofInt 64 0) ((⟨#[0]⟩ : ByteArray).data.toList ++ l) = ~~~ crcBytes (~~~ BitVec.ofInt 64 0) l := by
    refine BitVec.eq_of_toNat_eq ?_
    unfold uv at h
    omega
  have h2 := congrArg (fun x => ~~~ x) h1
  simp only [BitVec.not_not] at h2
  rw [crcBytes_append] at h2
  have h3 := crcBytes_inj l _ _ h2
  revert h3
  decide +kernel

end Go.Proofs.Ytdhnlcbijefinaa.Pure
