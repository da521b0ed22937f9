/- SealLinear: for every two texts (of at most 500 bytes each; of longer ones the known answers alone) sums of texts of one length go together by exclusive or, and a byte 0 ahead of a text changes its sum. -/
import Derived.Test.YtnpppcfbnomjiaaSealLin
namespace Go.Proofs.Ytnpppcfbnomjiaa.Pure
open Go.RowKit Go.Proofs.Ytnpppcfbnomjiaa.P Go.Proofs.YtnpppcfbnomjiaaW.PrintWords Go.Proofs.YtnpppcfbnomjiaaW.PrintLast
set_option linter.unusedVariables false
set_option linter.unusedSimpArgs false

/-- The row that the loop makes. -/
def xorNums (s t : ByteArray) (n : Nat) : List Int := (List.range n).map fun i : Nat => Go.bits .xor .u8 (bt s i) (bt t i)
theorem xorNums_succ (s t : ByteArray) (n : Nat) : xorNums s t (n + 1) = xorNums s t n ++ [Go.bits .xor .u8 (bt s n) (bt t n)] := by
  unfold xorNums; rw [List.range_succ, List.map_append]; rfl
theorem xor8 (a b : UInt8) : UInt8.ofNat (Go.bits .xor .u8 (a.toNat : Int) (b.toNat : Int)).toNat = a ^^^ b := by
  have ha := a.toNat_lt; have hb := b.toNat_lt
  have e : Go.bits .xor .u8 (a.toNat : Int) (b.toNat : Int) = ((a.toNat ^^^ b.toNat : Nat) : Int) := by
    show IntKind.u8.wrap ((BitVec.ofInt 8 (a.toNat : Int) ^^^ BitVec.ofInt 8 (b.toNat : Int)).toNat : Int) = _
    rw [BitVec.ofInt_natCast, BitVec.ofInt_natCast, BitVec.toNat_xor, BitVec.toNat_ofNat, BitVec.toNat_ofNat, Nat.mod_eq_of_lt ha, Nat.mod_eq_of_lt hb]
    have hx : a.toNat ^^^ b.toNat < 2 ^ 8 := Nat.xor_lt_two_pow ha hb
    simp [IntKind.wrap, IntKind.bits, IntKind.signed]
    omega
  rw [e, Int.toNat_natCast]
  refine UInt8.toNat_inj.1 ?_
  rw [UInt8.toNat_xor]
  have hx : a.toNat ^^^ b.toNat < 2 ^ 8 := Nat.xor_lt_two_pow ha hb
  rw [UInt8.toNat_ofNat_of_lt' hx]
theorem xorNums_list (s t : ByteArray) (n : Nat) (h1 : n ≤ s.size) (h2 : n ≤ t.size) : (strOfNums (xorNums s t n)).data.toList = List.zipWith (· ^^^ ·) (s.data.toList.take n) (t.data.toList.take n) := by
  rw [strOfNums_list]
  unfold xorNums
  rw [List.map_map]
  have l1 := ba_size s; have l2 := ba_size t
  apply List.ext_getElem
  · simp; omega
  · intro i hi1 hi2
    have hi : i < n := by simpa using hi1
    simp only [List.getElem_map, List.getElem_range, Function.comp, List.getElem_zipWith, List.getElem_take]
    rw [bt_get s i (by omega), bt_get t i (by omega), xor8]
theorem zeros_list (n : Nat) : (strOfNums (List.replicate n 0)).data.toList = List.replicate n 0 := by
  rw [strOfNums_list, List.map_replicate]; rfl

theorem linear_end (s t : ByteArray) (hs : s.size ≤ 500) (ht : t.size ≤ 500) (n : Nat) (hn1 : n ≤ s.size) (hn2 : n ≤ t.size) : moreT 0 (strOfNums (xorNums s t n)) = Go.bits .xor .u64 (Go.bits .xor .u64 (moreT 0 (s.extract 0 n)) (moreT 0 (t.extract 0 n))) (moreT 0 (strOfNums (List.replicate n 0))) := by
  have l1 := ba_size s; have l2 := ba_size t
  unfold moreT
  rw [xor_uv, xor_uv, xorNums_list s t n hn1 hn2, zeros_list, ba_take, ba_take]
  congr 1
  exact crc_together _ _ _ (by simp; omega) n (by simp; omega)
theorem linear_l (s t : ByteArray) (hs : s.size ≤ 500) (ht : t.size ≤ 500) (n : Nat) (hn1 : n ≤ s.size) (hn2 : n ≤ t.size) (d : Nat) : ∀ i : Nat, i + d = n →
    Ev (fun k => forebaylaw02_SealLinear.l0 k s t n (xorNums s t i) i) true := by
  induction d with
  | zero =>
    intro i hi
    obtain rfl : i = n := by omega
    have e1 := extract_size_le s i; have e2 := extract_size_le t i
    have e3 : (strOfNums (List.replicate i 0)).size ≤ 500 := by rw [strOfNums_len]; simp; omega
    have e4 : (strOfNums (xorNums s t i)).size ≤ 500 := by rw [strOfNums_len]; simp [xorNums]; omega
    have e5 : ((⟨#[0]⟩ : ByteArray) ++ s).size = 1 + s.size := by rw [← ba_size, ba_append, List.length_append, ba_size]; rfl
    refine Ev.succ ?_
    simp only [forebaylaw02_SealLinear.l0]
    refine Ev.neg (by omega) (Ev.pos (by omega) (Ev.pos (by omega) (Ev.pos (by omega) ?_)))
    rw [Int.toNat_natCast]
    refine Ev.eq_bind (sum_eq _ (by omega)) (Ev.pos (by omega) (Ev.eq_bind (sum_eq _ (by omega)) (Ev.eq_bind (sum_eq _ (by omega)) (Ev.eq_bind (sum_eq _ (by omega)) (Ev.pos (linear_end s t hs ht i hn1 hn2) (Ev.pos (by omega) ?_))))))
    refine Ev.eq_bind (sum_eq _ (by omega)) (Ev.eq_bind (sum_eq _ (by omega)) (Ev.neg ?_ (Ev.eq_bind head_eq (Ev.const rfl))))
    unfold moreT
    rw [ba_append]
    exact zero_ahead s.data.toList
  | succ d ih =>
    intro i hi
    have hl : (xorNums s t i).length ≤ 500 := by simp [xorNums]; omega
    refine Ev.succ ?_
    simp only [forebaylaw02_SealLinear.l0]
    refine Ev.pos (by omega) (Ev.pos (by omega) (Ev.pos (by omega) (Ev.pos (by omega) (Ev.pos (by omega) ?_))))
    rw [show wrap64 ((i : Int) + 1) = ((i + 1 : Nat) : Int) by unfold wrap64; omega, ← xorNums_succ]
    exact ih (i + 1) (by omega)

theorem SealLinear : forebaylaw02_SealLinear.Pure := by
  intro s t _ _
  refine Ev.rounds (g := fun k => forebaylaw02_SealLinear.f k s t) ?_
  have J : ∀ b : Bool, (b = false → s.size ≤ 500 ∧ t.size ≤ 500) → Ev (fun k => forebaylaw02_SealLinear.j0 k s t b) true := by
    intro b hb
    refine Ev.succ ?_
    simp only [forebaylaw02_SealLinear.j0]
    refine Ev.ite (fun _ => Ev.eq_bind head_eq (Ev.const rfl)) (fun h => ?_)
    obtain ⟨h1, h2⟩ := hb (by simpa using h)
    have hm : mn (s.size : Int) (t.size : Int) = ((min s.size t.size : Nat) : Int) := by unfold mn; split <;> omega
    rw [hm]
    exact linear_l s t h1 h2 _ (Nat.min_le_left _ _) (Nat.min_le_right _ _) (min s.size t.size) 0 (Nat.zero_add _)
  unfold forebaylaw02_SealLinear.f
  refine Ev.ite (fun _ => J true (fun h => by cases h)) (fun h => J _ (fun hb => ?_))
  have := of_decide_eq_false hb
  omega

end Go.Proofs.Ytnpppcfbnomjiaa.Pure
