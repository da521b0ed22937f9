-- Written by this session's program gprint.py: functions of the program as plain functions, and that the machine does what they say. Not trusted: Lean checks it.
import Derived.Test.YtdhnlcbijefinaaPx0
namespace Go.Proofs.Ytdhnlcbijefinaa.P
open Go.RowKit Go.Proofs.YtdhnlcbijefinaaW.PrintWords Go.Proofs.YtdhnlcbijefinaaW.PrintLast Go.Proofs.YtdhnlcbijefinaaW.PrintMore
attribute [local go_sem] max2_int min2_int max_two min_two max_three min_three max_four min_four   -- for this text's walks alone
set_option linter.unusedVariables false
set_option linter.unusedSimpArgs false

/-! ### forebaylaw06_great: function 6 -/
def forebaylaw06_great.l0 : Nat → List ByteArray → Int → Option (Bool)
  | 0, _, _ => none
  | k + 1, x0, x3 => if x3 < (x0.length : Int) then (if 0 ≤ x3 then (if ((rdOf ByteArray.empty x0 x3).size : Int) > 500 then (some true) else (forebaylaw06_great.l0 k x0 (wrap64 (x3 + 1)))) else (none)) else (some false)
def forebaylaw06_great.f (k : Nat) (l0 : List ByteArray) : Option (Bool) := if (l0.length : Int) > 20 then (some true) else (forebaylaw06_great.l0 k l0 0)
theorem forebaylaw06_great.mono_l : ∀ k, (∀ y0 y1, LeO (forebaylaw06_great.l0 k y0 y1) (forebaylaw06_great.l0 (k + 1) y0 y1))
  | 0 => fun _ _ r h => by simp [forebaylaw06_great.l0] at h
  | k + 1 => by
    have ih0 := forebaylaw06_great.mono_l k
    · intro y0 y1
      unfold forebaylaw06_great.l0
      repeat' first
      | (with_reducible exact ih0 _ _)
      | (with_reducible exact LeO.refl _)
      | (with_reducible exact LeO.none _)
      | (with_reducible refine LeO.ite ?_ ?_)
      | (with_reducible refine LeO.bind ?_ (fun _ => ?_))
      | exact ih0 _ _
      | exact LeO.none _
      | refine LeO.ite ?_ ?_
      | refine LeO.bind ?_ (fun _ => ?_)
theorem forebaylaw06_great.mono : ∀ a0 k, LeO (forebaylaw06_great.f k a0) (forebaylaw06_great.f (k + 1) a0) := by
  intro a0 k
  have ih0 := forebaylaw06_great.mono_l k
  unfold forebaylaw06_great.f
  repeat' first
      | (with_reducible exact ih0 _ _)
      | (with_reducible exact LeO.refl _)
      | (with_reducible exact LeO.none _)
      | (with_reducible refine LeO.ite ?_ ?_)
      | (with_reducible refine LeO.bind ?_ (fun _ => ?_))
      | exact ih0 _ _
      | exact LeO.none _
      | refine LeO.ite ?_ ?_
      | refine LeO.bind ?_ (fun _ => ?_)
set_option maxHeartbeats 8000000 in
set_option maxRecDepth 100000 in
theorem forebaylaw06_great.calls (k : Nat) (A0 : Option Addr) (c0 : Nat) (l0 : List ByteArray) (r : Bool) (w : World) (hr0 : Kd.C Kd.string w A0 l0.length l0) (hc0 : l0.length ≤ c0) (h : forebaylaw06_great.f k l0 = some r) :
    Calls Try.prog 6 #[.slice A0 l0.length c0] w fun e w' => e = .returned (.bool r) ∧ Drawn0 w w' := by
  have HR0 := Aside0.mk hr0
  have HC0 := Aside0.mk hc0
  clear hr0 hc0
  have H : (if (l0.length : Int) > 20 then (some true) else (forebaylaw06_great.l0 k l0 0)) = some r := h
  clear h
  by_cases c2 : (l0.length : Int) > 20
  · rw [if_pos c2] at H
    have c2b0 : decide (20 < (l0.length : Int)) = true := decide_eq_true c2
    have c2b1 : decide (20 < l0.length) = true := decide_eq_true (by omega)
    clear c2
    obtain rfl := Option.some.inj H
    go_enter Try.func6, Try.ntmps6
    go_wp2
    go_ret
    exact ⟨by first | rfl | (simp; done) | (simp [*]; done), by repeat (first | exact Drawn0.refl _ | apply Drawn0.step)⟩
  · rw [if_neg c2] at H
    have c2b0 : decide (20 < (l0.length : Int)) = false := decide_eq_false c2
    have c2b1 : decide (20 < l0.length) = false := decide_eq_false (by omega)
    clear c2
    have H' := Aside0.mk H
    clear H
    go_enter Try.func6, Try.ntmps6
    go_wp2
    go_loopg [3] k (fun kq v3 w' => ∃ (x3_1 : Int), v3 = .int .i64 x3_1 ∧ Aside0 (forebaylaw06_great.l0 kq l0 x3_1 = some r) ∧ Aside0 (kq ≤ k) ∧ Drawn0 w w')
    case atStart => exact ⟨(0), (by first | rfl | (simp; done) | (simp [*]; done) | (simp; exact isEmpty_bne _)), H', ⟨Nat.le_refl _⟩, by repeat (first | exact Drawn0.refl _ | apply Drawn0.step)⟩
    case round =>
      clear H'
      try clear c2
      try clear c2b0
      try clear c2b1
      try clear p2
      obtain ⟨x3_1, rfl, HA, HK1, ⟨m1, rfl⟩⟩ := hrel
      cases gk with
      | zero => exact absurd HA.out (by simp [forebaylaw06_great.l0])
      | succ k1 =>
        have H := HA.out
        clear HA
        simp only [forebaylaw06_great.l0] at H
        by_cases c3 : x3_1 < (l0.length : Int)
        · rw [if_pos c3] at H
          have c3b0 : decide (x3_1 < (l0.length : Int)) = true := decide_eq_true c3
          clear c3
          by_cases c4 : 0 ≤ x3_1
          · rw [if_pos c4] at H
            have c4b0 : decide (0 ≤ x3_1) = true := decide_eq_true c4
            clear c4
            by_cases c5 : ((rdOf ByteArray.empty l0 x3_1).size : Int) > 500
            · rw [if_pos c5] at H
              have c5b0 : decide (500 < ((rdOf ByteArray.empty l0 x3_1).size : Int)) = true := decide_eq_true c5
              have c5b1 : decide (500 < (rdOf ByteArray.empty l0 x3_1).size) = true := decide_eq_true (by omega)
              clear c5
              obtain rfl := Option.some.inj H
              have p101 : 0 ≤ (x3_1 : Int) := of_decide_eq_true (by first | (with_reducible assumption) | assumption)
              have q101 : x3_1 < (l0.length : Int) := of_decide_eq_true (by first | (with_reducible assumption) | assumption)
              obtain ⟨ad101, e101, hx101_0⟩ := Kd.at_string HR0.out x3_1 p101 q101
              cases e101
              replace p101 := eq_true p101
              replace q101 := eq_true q101
              go_wp2
              go_ret
              exact ⟨by first | rfl | (simp; done) | (simp [*]; done), by repeat (first | exact Drawn0.refl _ | apply Drawn0.step)⟩
            · rw [if_neg c5] at H
              have c5b0 : decide (500 < ((rdOf ByteArray.empty l0 x3_1).size : Int)) = false := decide_eq_false c5
              have c5b1 : decide (500 < (rdOf ByteArray.empty l0 x3_1).size) = false := decide_eq_false (by omega)
              clear c5
              have H' := Aside0.mk H
              clear H
              have p101 : 0 ≤ (x3_1 : Int) := of_decide_eq_true (by first | (with_reducible assumption) | assumption)
              have q101 : x3_1 < (l0.length : Int) := of_decide_eq_true (by first | (with_reducible assumption) | assumption)
              obtain ⟨ad101, e101, hx101_0⟩ := Kd.at_string HR0.out x3_1 p101 q101
              cases e101
              replace p101 := eq_true p101
              replace q101 := eq_true q101
              go_wp2
              go_roundg k1
              case measure => have := HK1.out; omega
              case rel => exact ⟨(wrap64 (x3_1 + 1)), (by first | rfl | (simp; done) | (simp [*]; done) | (simp; exact isEmpty_bne _)), H', ⟨by have := HK1.out; omega⟩, by repeat (first | exact Drawn0.refl _ | apply Drawn0.step)⟩
          · rw [if_neg c4] at H
            exact absurd H (by simp)
        · rw [if_neg c3] at H
          have c3b0 : decide (x3_1 < (l0.length : Int)) = false := decide_eq_false c3
          clear c3
          obtain rfl := Option.some.inj H
          go_wp2
          go_ret
          exact ⟨by first | rfl | (simp; done) | (simp [*]; done), by repeat (first | exact Drawn0.refl _ | apply Drawn0.step)⟩

/-! ### seal_halves: function 25 -/
/-- A word of 64 bits as the machine's number. -/
def uv (r : BitVec 64) : Int := (r.toNat : Int)
theorem uv_lo (r : BitVec 64) : 0 ≤ uv r := Int.natCast_nonneg _
theorem uv_hi (r : BitVec 64) : uv r ≤ 18446744073709551615 := by have := r.isLt; unfold uv; omega
theorem ofInt_uv (r : BitVec 64) : BitVec.ofInt 64 (uv r) = r := by unfold uv; rw [BitVec.ofInt_natCast]; exact BitVec.ofNat_toNat 64 r |>.trans (by simp)
theorem u64_wrap_nat (r : BitVec 64) : IntKind.u64.wrap (r.toNat : Int) = uv r := by
  have := r.isLt
  unfold uv
  simp [IntKind.wrap, IntKind.bits, IntKind.signed]
  omega
theorem xor_uv (a b : BitVec 64) : Go.bits .xor .u64 (uv a) (uv b) = uv (a ^^^ b) := by
  show IntKind.u64.wrap ((BitVec.ofInt 64 (uv a) ^^^ BitVec.ofInt 64 (uv b)).toNat : Int) = _
  rw [ofInt_uv, ofInt_uv, u64_wrap_nat]
theorem and_uv (a b : BitVec 64) : Go.bits .and .u64 (uv a) (uv b) = uv (a &&& b) := by
  show IntKind.u64.wrap ((BitVec.ofInt 64 (uv a) &&& BitVec.ofInt 64 (uv b)).toNat : Int) = _
  rw [ofInt_uv, ofInt_uv, u64_wrap_nat]
theorem not_uv (a : BitVec 64) : Go.bits .xor .u64 18446744073709551615 (uv a) = uv (~~~ a) := by
  have e : (18446744073709551615 : Int) = uv (BitVec.allOnes 64) := by decide
  rw [e, xor_uv, BitVec.allOnes_xor]
theorem shr_uv (a : BitVec 64) (n : Nat) : uv a / (2 : Int) ^ n = uv (a >>> n) := by
  unfold uv
  rw [BitVec.toNat_ushiftRight, Nat.shiftRight_eq_div_pow]
  simp
/-- The polynomial, turned. -/
def poly : BitVec 64 := 0xC96C5795D7870F42#64
/-- One bit's step of a register. -/
def step1 (r : BitVec 64) : BitVec 64 := if (r &&& 1#64) = 1#64 then (r >>> 1) ^^^ poly else r >>> 1
def steps : Nat → BitVec 64 → BitVec 64
  | 0, r => r
  | n + 1, r => steps n (step1 r)
theorem steps_succ (n : Nat) (r : BitVec 64) : steps (n + 1) r = step1 (steps n r) := by
  induction n generalizing r with
  | zero => rfl
  | succ n ih => exact ih (step1 r)
/-- What half a byte does to a register. -/
def halfV (i : Nat) : BitVec 64 := steps 4 (BitVec.ofNat 64 i)
def halfRow (n : Nat) : Array Value := ((List.range 16).map fun j => Value.int .u64 (if j < n then uv (halfV j) else 0)).toArray
theorem halfRow_size (n : Nat) : (halfRow n).size = 16 := by simp [halfRow]
theorem one_uv : (1 : Int) = uv 1#64 := by decide
theorem poly_uv : (14514072000185962306 : Int) = uv poly := by decide
theorem lsb_cases (R : BitVec 64) : ((Go.bits .and .u64 (uv R) 1 == 1) = true ∧ uv (step1 R) = Go.bits .xor .u64 (uv R / 2) 14514072000185962306) ∨ ((Go.bits .and .u64 (uv R) 1 == 1) = false ∧ uv (step1 R) = uv R / 2) := by
  have e2 : uv R / (2 : Int) = uv (R >>> 1) := by have := shr_uv R 1; rwa [Int.pow_one] at this
  have e : Go.bits .and .u64 (uv R) 1 = uv (R &&& 1#64) := by rw [one_uv, and_uv]
  rw [e, e2, poly_uv, xor_uv]
  unfold step1
  by_cases h : (R &&& 1#64) = 1#64
  · refine .inl ⟨?_, by rw [if_pos h]⟩
    rw [h]; decide
  · refine .inr ⟨?_, by rw [if_neg h]⟩
    rw [beq_eq_false_iff_ne]
    intro h2
    refine h (BitVec.eq_of_toNat_eq ?_)
    have h3 : ((R &&& 1#64).toNat : Int) = 1 := h2
    show _ = 1
    omega
theorem halfRow_set (i : Nat) (h : i < 16) : (halfRow i).setIfInBounds i (.int .u64 (uv (halfV i))) = halfRow (i + 1) := by
  apply Array.ext
  · simp [halfRow]
  · intro j h1 h2
    have hj : j < 16 := by simpa [halfRow] using h1
    rw [Array.getElem_setIfInBounds (by simpa [halfRow] using hj)]
    by_cases e : i = j
    · subst e
      simp [halfRow]
    · rw [if_neg e]
      simp only [halfRow, List.getElem_toArray, List.getElem_map, List.getElem_range]
      by_cases h3 : j < i
      · rw [if_pos h3, if_pos (by omega)]
      · rw [if_neg h3, if_neg (by omega)]
theorem ofNat_uv (i : Nat) (h : i < 16) : (i : Int) = uv (BitVec.ofNat 64 i) := by
  unfold uv
  rw [BitVec.toNat_ofNat, Nat.mod_eq_of_lt (by omega)]
theorem halfRow_one (n : Nat) : (halfRow n).all (·.oneCell') = true := by
  rw [Array.all_eq_true]
  intro i hi
  simp [halfRow, Value.oneCell']
set_option maxHeartbeats 4000000 in
theorem seal_halves.calls (w : World) :
    Calls Try.prog 25 #[] w fun e w' => e = .returned (.agg (halfRow 16)) ∧ Below w.heap.size w w' := by
  go_enter Try.func25, Try.ntmps25
  go_wp2
  go_loopg [4] 16 (fun kq v4 w' => ∃ i : Nat, v4 = .int .i64 i ∧ Aside0 (kq + i = 16) ∧ Aside0 (w'.heap[w.heap.size]? = some (.cells (halfRow i) 55 (0, 0))) ∧ Aside0 (Below w.heap.size w w'))
  case atStart => exact ⟨0, rfl, ⟨rfl⟩, ⟨heap_alloc_new _ _⟩, ⟨(Below.refl _ _).alloc (Nat.le_refl _) _⟩⟩
  case round =>
    obtain ⟨i, rfl, HK, HH, HB⟩ := hrel
    cases gk with
    | zero =>
      have e : i = 16 := by have := HK.out; omega
      subst e
      go_wp2_with (first | (refine wpList_load_row rfl _ _ rfl w.heap.size rfl 55 (halfRow 16) (0, 0) _ HH.out Try.underlying55 rfl (by kernel_rfl) ?_) | (refine wpList_store_row rfl _ _ _ rfl w.heap.size (halfRow 16) rfl rfl 55 (halfRow 16) HH.out (by kernel_rfl) rfl (halfRow_one 16) ?_; rw [setRow_self _ _ _ _ _ HH.out]))
      refine bodyPost_ret (v := .agg (halfRow 16)) (results_cell_row (p := 0) rfl _ _ w.heap.size 55 (halfRow 16) (0, 0) _ rfl HH.out Try.underlying55 rfl (by kernel_rfl)) rfl ⟨rfl, HB.out⟩
    | succ k1 =>
      have hlt : i < 16 := by have := HK.out; omega
      have hi64 : IntKind.u64.wrap (i : Int) = i := by simp [IntKind.wrap, IntKind.bits, IntKind.signed]; omega
      go_wp2
      clear hi64
      go_loopg [2, 9] 4 (fun kq v2 v9 w' => ∃ j : Nat, v2 = .int .u64 (uv (steps j (BitVec.ofNat 64 i))) ∧ v9 = .int .i64 j ∧ Aside0 (kq + j = 4) ∧ w' = wr)
      case atStart => exact ⟨0, by rw [steps, ← ofNat_uv i hlt], rfl, ⟨rfl⟩, rfl⟩
      case round =>
        obtain ⟨j, rfl, rfl, HK2, rfl⟩ := hrel
        cases gk with
        | zero =>
          have e : j = 4 := by have := HK2.out; omega
          subst e
          have hc : wr.cell? ⟨w.heap.size, i, none⟩ = some (.int .u64 0) := by
            rw [cell_of_row _ _ _ _ _ _ HH.out]
            simp [halfRow, hlt]
          have hf : wr.frozen? ⟨w.heap.size, i, none⟩ = false := frozen_of_row _ _ _ _ _ HH.out
          go_wp2
          go_roundg k1
          case measure => omega
          case rel =>
            refine ⟨i + 1, by go_num, ⟨by have := HK.out; omega⟩, ⟨?_⟩, ⟨HB.out.setCell (Nat.le_refl _) _⟩⟩
            rw [heap_setCell_same _ _ _ _ _ _ HH.out]
            have := halfRow_set i hlt
            unfold halfV at this
            rw [← this]
        | succ k2 =>
          have hlt2 : j < 4 := by have := HK2.out; omega
          have r0 := uv_lo (steps j (BitVec.ofNat 64 i))
          have r1 := uv_hi (steps j (BitVec.ofNat 64 i))
          have L := lsb_cases (steps j (BitVec.ofNat 64 i))
          rw [← steps_succ] at L
          generalize hS : uv (steps (j + 1) (BitVec.ofNat 64 i)) = S at L
          generalize uv (steps j (BitVec.ofNat 64 i)) = R at *
          replace hS := Aside0.mk hS
          rcases L with ⟨L1, L2⟩ | ⟨L1, L2⟩
          all_goals
            replace L2 := Aside0.mk L2
            go_wp2
            go_roundg k2
            case measure => omega
            case rel => exact ⟨j + 1, by rw [hS.out, L2.out], by go_num, ⟨by have := HK2.out; omega⟩, rfl⟩

/-! ### seal_More_1: function 26 -/
/-- A register behind a byte. -/
def crcByte (r : BitVec 64) (c : Nat) : BitVec 64 := steps 8 (r ^^^ BitVec.ofNat 64 c)
theorem lsb_iff (R : BitVec 64) : (R &&& 1#64) = 1#64 ↔ R.toNat % 2 = 1 := by
  constructor
  · intro h
    have := congrArg BitVec.toNat h
    rw [BitVec.toNat_and] at this
    have e : (1#64).toNat = 1 := rfl
    rw [e, Nat.and_one_is_mod] at this
    exact this
  · intro h
    refine BitVec.eq_of_toNat_eq ?_
    rw [BitVec.toNat_and]
    have e : (1#64).toNat = 1 := rfl
    rw [e, Nat.and_one_is_mod, h]
theorem lsb_xor (a b : BitVec 64) : (a ^^^ b).toNat % 2 = (a.toNat + b.toNat) % 2 := by
  rw [BitVec.toNat_xor]
  have h := Nat.testBit_xor (x := a.toNat) (y := b.toNat) (i := 0)
  simp only [Nat.testBit_zero] at h
  have h1 := Nat.mod_two_eq_zero_or_one a.toNat
  have h2 := Nat.mod_two_eq_zero_or_one b.toNat
  have h3 := Nat.mod_two_eq_zero_or_one (a.toNat ^^^ b.toNat)
  rcases h1 with h1 | h1 <;> rcases h2 with h2 | h2 <;> rcases h3 with h3 | h3 <;> simp [h1, h2, h3] at h <;> omega
theorem step1_xor (a b : BitVec 64) : step1 (a ^^^ b) = step1 a ^^^ step1 b := by
  unfold step1
  simp only [lsb_iff, lsb_xor]
  have h1 := Nat.mod_two_eq_zero_or_one a.toNat
  have h2 := Nat.mod_two_eq_zero_or_one b.toNat
  rw [BitVec.ushiftRight_xor_distrib]
  rcases h1 with h1 | h1 <;> rcases h2 with h2 | h2
  · rw [if_neg (by omega), if_neg (by omega), if_neg (by omega)]
  · rw [if_pos (by omega), if_neg (by omega), if_pos h2, BitVec.xor_assoc]
  · rw [if_pos (by omega), if_pos h1, if_neg (by omega), BitVec.xor_assoc, BitVec.xor_assoc, BitVec.xor_comm _ poly]
  · rw [if_neg (by omega), if_pos h1, if_pos h2]
    rw [BitVec.xor_assoc, ← BitVec.xor_assoc poly, BitVec.xor_comm poly, BitVec.xor_assoc (b >>> 1), BitVec.xor_self, BitVec.xor_zero]
theorem steps_xor (n : Nat) : ∀ a b : BitVec 64, steps n (a ^^^ b) = steps n a ^^^ steps n b := by
  induction n with
  | zero => intro a b; rfl
  | succ n ih => intro a b; rw [steps, step1_xor, ih]; rfl
theorem steps_add (m n : Nat) : ∀ r, steps (m + n) r = steps n (steps m r) := by
  induction m with
  | zero => intro r; rw [Nat.zero_add]; rfl
  | succ m ih => intro r; rw [Nat.succ_add]; exact ih (step1 r)
theorem step1_even (R : BitVec 64) (h : R.toNat % 2 = 0) : (step1 R).toNat = R.toNat / 2 := by
  unfold step1
  rw [if_neg (by rw [lsb_iff]; omega), BitVec.toNat_ushiftRight, Nat.shiftRight_eq_div_pow]
theorem steps4_high (R : BitVec 64) (h : R.toNat % 16 = 0) : steps 4 R = R >>> 4 := by
  refine BitVec.eq_of_toNat_eq ?_
  have e1 := step1_even R (by omega)
  have e2 := step1_even (step1 R) (by omega)
  have e3 := step1_even (step1 (step1 R)) (by omega)
  have e4 := step1_even (step1 (step1 (step1 R))) (by omega)
  show (step1 (step1 (step1 (step1 R)))).toNat = _
  rw [e4, e3, e2, e1, BitVec.toNat_ushiftRight, Nat.shiftRight_eq_div_pow]
  omega
theorem split_mask (S m : BitVec 64) : S = (S &&& m) ^^^ (S &&& ~~~ m) := by
  ext i hi
  simp only [BitVec.getElem_xor, BitVec.getElem_and, BitVec.getElem_not]
  cases S[i] <;> cases m[i] <;> rfl
theorem split_low (S : BitVec 64) : S = (S &&& 15#64) ^^^ (S &&& ~~~ 15#64) := split_mask S _
theorem and15 (S : BitVec 64) : (S &&& 15#64).toNat = S.toNat % 16 := by
  rw [BitVec.toNat_and]
  exact Nat.and_two_pow_sub_one_eq_mod S.toNat 4
theorem high_mod (S : BitVec 64) : (S &&& ~~~ 15#64).toNat % 16 = 0 := by
  rw [← and15]
  have : (S &&& ~~~ 15#64) &&& 15#64 = 0#64 := by
    rw [BitVec.and_assoc]
    have : (~~~ 15#64 : BitVec 64) &&& 15#64 = 0#64 := by decide
    rw [this]; simp
  rw [this]; rfl
theorem high_shr (S : BitVec 64) : (S &&& ~~~ 15#64) >>> 4 = S >>> 4 := by
  conv => rhs; rw [split_low S]
  rw [BitVec.ushiftRight_xor_distrib]
  have : (S &&& 15#64) >>> 4 = 0#64 := by
    refine BitVec.eq_of_toNat_eq ?_
    rw [BitVec.toNat_ushiftRight, Nat.shiftRight_eq_div_pow, and15]
    show S.toNat % 16 / 16 = 0
    omega
  rw [this, BitVec.zero_xor]
/-- The table at the low half of a byte, and the rest, are four steps. -/
theorem table_at (S : BitVec 64) : ∃ ix : Nat, ix < 16 ∧ Go.bits .and .u64 (uv S) 15 = (ix : Int) ∧ Go.bits .xor .u64 (uv (halfV ix)) (uv S / 16) = uv (steps 4 S) := by
  have e15 : (15 : Int) = uv 15#64 := by decide
  have e2 : uv S / (16 : Int) = uv (S >>> 4) := by have := shr_uv S 4; rwa [show (2 : Int) ^ 4 = 16 from rfl] at this
  refine ⟨S.toNat % 16, Nat.mod_lt _ (by omega), ?_, ?_⟩
  · rw [e15, and_uv]; unfold uv; rw [and15]
  · rw [e2, xor_uv]
    congr 1
    conv => rhs; rw [split_low S, steps_xor, steps4_high _ (high_mod S), high_shr]
    unfold halfV
    rw [← and15, BitVec.ofNat_toNat, BitVec.setWidth_eq]
set_option maxHeartbeats 4000000 in
theorem seal_More_1.calls (c : Nat) (hc : c < 256) (R : BitVec 64) (g1 g2 : Nat) (w : World) (hne : g1 ≠ g2)
    (h1 : w.heap[g1]? = some (.cells #[.int .u64 (uv R)] 37 (0, 0))) (h2 : w.heap[g2]? = some (.cells (halfRow 16) 55 (0, 0))) :
    Calls Try.prog 26 #[.int .u8 c, .pointer (some ⟨g1, 0, none⟩), .pointer (some ⟨g2, 0, none⟩)] w fun e w' => e = .returned (.tuple #[]) ∧ w'.heap[g1]? = some (.cells #[.int .u64 (uv (crcByte R c))] 37 (0, 0)) ∧ w.grownBy w' (some g1) := by
  have k0 : w.cell? ⟨g1, 0, none⟩ = some (.int .u64 (uv R)) := by rw [cell_of_row _ _ _ _ _ _ h1]; rfl
  have f1 : w.frozen? ⟨g1, 0, none⟩ = false := frozen_of_row _ _ _ _ _ h1
  have H1 := Aside0.mk h1
  have H2 := Aside0.mk h2
  have hcw : IntKind.u64.wrap (c : Int) = c := by simp [IntKind.wrap, IntKind.bits, IntKind.signed]; omega
  clear h1 h2
  go_enter Try.func26, Try.ntmps26
  go_wp2
  go_loopg [8] 2 (fun kq v8 w' => ∃ j : Nat, v8 = .int .i64 j ∧ Aside0 (kq + j = 2) ∧ Aside0 (w'.heap[g1]? = some (.cells #[.int .u64 (uv (steps (4 * j) (R ^^^ BitVec.ofNat 64 c)))] 37 (0, 0))) ∧ Aside0 (w.grownBy w' (some g1)))
  case atStart =>
    refine ⟨0, rfl, ⟨rfl⟩, ⟨?_⟩, ⟨grownBy_setCell' w g1 _⟩⟩
    rw [heap_setCell_same _ _ _ _ _ _ H1.out]
    have e : (c : Int) = uv (BitVec.ofNat 64 c) := by unfold uv; rw [BitVec.toNat_ofNat, Nat.mod_eq_of_lt (by omega)]
    rw [e, xor_uv]
    rfl
  case round =>
    obtain ⟨j, rfl, HK, HH, HG⟩ := hrel
    cases gk with
    | zero =>
      have e : j = 2 := by have := HK.out; omega
      subst e
      go_wp2
      go_end0
      exact ⟨rfl, HH.out, HG.out⟩
    | succ k1 =>
      have hlt : j < 2 := by have := HK.out; omega
      clear k0 f1
      have q1 : wr.cell? ⟨g1, 0, none⟩ = some (.int .u64 (uv (steps (4 * j) (R ^^^ BitVec.ofNat 64 c)))) := by rw [cell_of_row _ _ _ _ _ _ HH.out]; rfl
      have q2 : wr.frozen? ⟨g1, 0, none⟩ = false := frozen_of_row _ _ _ _ _ HH.out
      obtain ⟨ix, h16, hix, htab⟩ := table_at (steps (4 * j) (R ^^^ BitVec.ofNat 64 c))
      have q3 : wr.cell? ⟨g2, ix, none⟩ = some (.int .u64 (uv (halfV ix))) := by
        have hb := HG.out.block g2 (by have := Array.getElem?_eq_some_iff.1 H2.out; exact this.1) (by simpa using fun e => hne e.symm)
        rw [cell_of_row _ _ _ _ _ _ (hb.trans H2.out)]
        simp [halfRow, h16]
      have r0 := uv_lo (steps (4 * j) (R ^^^ BitVec.ofNat 64 c))
      have HT := Aside0.mk htab
      clear htab
      generalize hS : uv (steps (4 * j) (R ^^^ BitVec.ofNat 64 c)) = S at *
      replace hS := Aside0.mk hS
      go_wp2
      go_region
      go_wp2
      go_roundg k1
      case measure => omega
      case rel =>
        refine ⟨j + 1, by go_num, ⟨by have := HK.out; omega⟩, ⟨?_⟩, ⟨?_⟩⟩
        · show (wr.setCell ⟨g1, 0, none⟩ _).heap[g1]? = _
          rw [heap_setCell_same _ _ _ _ _ _ HH.out, HT.out, show 4 * (j + 1) = 4 * j + 4 by omega, steps_add]
          rfl
        · have h := World.grownBy.trans HG.out (grownBy_setCell' wr g1 (.int .u64 (Go.bits .xor .u64 (uv (halfV ix)) (S / 16))))
          exact ⟨h.os, h.tape, h.output, h.size, h.block⟩

/-! ### seal_More: function 23 -/
/-- A register behind the bytes of a row. -/
def crcBytes (r : BitVec 64) (l : List UInt8) : BitVec 64 := l.foldl (fun r c => crcByte r c.toNat) r
/-- A sum gone on with. -/
def moreT (sum : Int) (s : ByteArray) : Int := uv (~~~ (crcBytes (~~~ (BitVec.ofInt 64 sum)) s.data.toList))
def seal_More.f (a0 : Int) (a1 : ByteArray) : Option (Int) := if a1.size ≤ 9223372036854775807 then some (moreT a0 a1) else none
theorem not_any (x : Int) : Go.bits .xor .u64 18446744073709551615 x = uv (~~~ (BitVec.ofInt 64 x)) := by
  have e : Go.bits .xor .u64 18446744073709551615 x = Go.bits .xor .u64 18446744073709551615 (uv (BitVec.ofInt 64 x)) := by
    show IntKind.u64.wrap ((_ ^^^ BitVec.ofInt 64 x).toNat : Int) = IntKind.u64.wrap ((_ ^^^ BitVec.ofInt 64 (uv (BitVec.ofInt 64 x))).toNat : Int)
    rw [ofInt_uv]
  rw [e, not_uv]
theorem crcBytes_take (r : BitVec 64) (s : ByteArray) (k : Nat) (h : k < s.size) : crcBytes r (s.data.toList.take (k + 1)) = crcByte (crcBytes r (s.data.toList.take k)) (s[k]'h).toNat := by
  have hk : k < s.data.toList.length := by simpa using h
  unfold crcBytes
  rw [List.take_succ_eq_append_getElem hk, List.foldl_append]
  rfl
theorem store_zeros (W : World) : (storeCells ⟨W.heap.size, 0, none⟩ (halfRow 16).toList).run Try.prog (W.alloc (.cells #[Value.int .u64 0, Value.int .u64 0, Value.int .u64 0, Value.int .u64 0, Value.int .u64 0, Value.int .u64 0, Value.int .u64 0, Value.int .u64 0, Value.int .u64 0, Value.int .u64 0, Value.int .u64 0, Value.int .u64 0, Value.int .u64 0, Value.int .u64 0, Value.int .u64 0, Value.int .u64 0] 55)) = .ok () (W.alloc (.cells (halfRow 16) 55)) := by
  have h := run_storeCells_from (P := Try.prog) W.heap.size 55 (halfRow 16).toList 0 #[Value.int .u64 0, Value.int .u64 0, Value.int .u64 0, Value.int .u64 0, Value.int .u64 0, Value.int .u64 0, Value.int .u64 0, Value.int .u64 0, Value.int .u64 0, Value.int .u64 0, Value.int .u64 0, Value.int .u64 0, Value.int .u64 0, Value.int .u64 0, Value.int .u64 0, Value.int .u64 0] (W.alloc (.cells #[Value.int .u64 0, Value.int .u64 0, Value.int .u64 0, Value.int .u64 0, Value.int .u64 0, Value.int .u64 0, Value.int .u64 0, Value.int .u64 0, Value.int .u64 0, Value.int .u64 0, Value.int .u64 0, Value.int .u64 0, Value.int .u64 0, Value.int .u64 0, Value.int .u64 0, Value.int .u64 0] 55)) (heap_alloc_new _ _) (by rw [Array.length_toList, halfRow_size]; rfl) (fun v hv => (Array.all_eq_true_iff_forall_mem.1 (halfRow_one 16)) v (by simpa using hv))
  rw [h, List.take_zero, List.nil_append, Array.toArray_toList, Go.World.setRow_alloc_new]
set_option maxHeartbeats 4000000 in
theorem seal_More.calls (a0 : Int) (a1 : ByteArray) (r : Int) (w : World) (h : seal_More.f a0 a1 = some r) :
    Calls Try.prog 23 #[.int .u64 a0, .string a1] w fun e w' => e = .returned (.int .u64 r) ∧ Below w.heap.size w w' := by
  by_cases hs : a1.size ≤ 9223372036854775807
  case neg => unfold seal_More.f at h; rw [if_neg hs] at h; cases h
  unfold seal_More.f at h
  rw [if_pos hs] at h
  obtain rfl := Option.some.inj h
  clear h
  go_enter Try.func23, Try.ntmps23
  have hmf : ∀ (fn : Fn) (first cap : Array Value) (w : World), (Instr.makeFunc fn first cap).run Try.prog w = .ok (.func fn first cap) w := fun _ _ _ _ => rfl
  have hst : ∀ W : World, (storeCells ⟨W.heap.size, 0, none⟩ (halfRow 16).toList).run Try.prog (W.alloc (.cells #[Value.int .u64 0, Value.int .u64 0, Value.int .u64 0, Value.int .u64 0, Value.int .u64 0, Value.int .u64 0, Value.int .u64 0, Value.int .u64 0, Value.int .u64 0, Value.int .u64 0, Value.int .u64 0, Value.int .u64 0, Value.int .u64 0, Value.int .u64 0, Value.int .u64 0, Value.int .u64 0] 55)) = .ok () (W.alloc (.cells (halfRow 16) 55)) := store_zeros
  go_wp2_with (first | (go_at_call 25; refine (seal_halves.calls _).mono ?_; rintro e w1 ⟨rfl, hb1⟩))
  have hlen : a1.size ≤ 9223372036854775807 := hs
  have HS := Aside0.mk (hb1.size)
  have HB := Aside0.mk hb1
  clear hb1 hst hs
  go_loopg [15] a1.size (fun kq v15 w' => ∃ i : Nat, v15 = .int .i64 i ∧ Aside0 (kq + i = a1.size) ∧ Aside0 (w'.heap[w1.heap.size]? = some (.cells (halfRow 16) 55 (0, 0))) ∧ Aside0 (w'.heap[w1.heap.size + 1]? = some (.cells #[.int .u64 (uv (crcBytes (~~~ (BitVec.ofInt 64 a0)) (a1.data.toList.take i)))] 37 (0, 0))) ∧ Aside0 (Below w.heap.size w w'))
  case atStart =>
    refine ⟨0, rfl, ⟨rfl⟩, ⟨heap_alloc2_old _ _ _⟩, ⟨?_⟩, ⟨(HB.out.alloc HS.out _).alloc (by simp; have := HS.out; omega) _⟩⟩
    rw [heap_alloc2_new, show IntKind.u64.max = 18446744073709551615 from rfl, not_any]
    rfl
  case round =>
    obtain ⟨i, rfl, HK, HH2, HH1, HB2⟩ := hrel
    cases gk with
    | zero =>
      have e : i = a1.size := by have := HK.out; omega
      subst e
      have k1 : wr.cell? ⟨w1.heap.size + 1, 0, none⟩ = some (.int .u64 (uv (crcBytes (~~~ (BitVec.ofInt 64 a0)) (a1.data.toList.take a1.size)))) := by rw [cell_of_row _ _ _ _ _ _ HH1.out]; rfl
      go_wp2
      go_ret
      refine ⟨?_, HB2.out⟩
      rw [show IntKind.u64.max = 18446744073709551615 from rfl, not_uv, List.take_of_length_le (by simp)]
      rfl
    | succ k1 =>
      have hlt : i < a1.size := by have := HK.out; omega
      go_wp2_with (first | (go_at_call 26; refine (seal_More_1.calls (a1[i]'hlt).toNat (UInt8.toNat_lt _) _ (w1.heap.size + 1) w1.heap.size _ (by omega) HH1.out HH2.out).mono ?_; rintro e w2 ⟨rfl, hH, hG⟩; replace hH := Aside0.mk hH; replace hG := Aside0.mk hG))
      go_roundg k1
      case measure => omega
      case rel =>
        refine ⟨i + 1, by go_num, ⟨by have := HK.out; omega⟩, ⟨?_⟩, ⟨?_⟩, ⟨HB2.out.grown hG.out ?_ ?_⟩⟩
        · exact (hG.out.block _ (Array.getElem?_eq_some_iff.1 HH2.out).1 (by simp)).trans HH2.out
        · rw [crcBytes_take _ _ _ hlt]; exact hH.out
        · exact HB2.out.size
        · rintro k hk
          have := HS.out
          injection hk with hk
          omega

/-! ### seal_Sum: function 18 -/
def seal_Sum.f (a0 : ByteArray) : Option (Int) := if a0.size ≤ 9223372036854775807 then some (moreT 0 a0) else none
theorem seal_Sum.calls (a0 : ByteArray) (r : Int) (w : World) (h : seal_Sum.f a0 = some r) :
    Calls Try.prog 18 #[.string a0] w fun e w' => e = .returned (.int .u64 r) ∧ Below w.heap.size w w' := by
  have H := Aside0.mk (show seal_More.f 0 a0 = some r from h)
  clear h
  go_enter Try.func18, Try.ntmps18
  go_wp2_with (go_at_call 23; refine (seal_More.calls 0 a0 r _ H.out).mono ?_; rintro e w1 ⟨rfl, hb⟩)
  go_ret
  exact ⟨rfl, hb⟩

/-! ### forebayref02_More: function 24 -/
def forebayref02_More.f (a0 : Int) (a1 : ByteArray) : Option (Int) := if a1.size ≤ 9223372036854775807 then some (moreT a0 a1) else none
theorem lsb_cases2 (R : BitVec 64) : ((uv R % 2 == 1) = true ∧ uv (step1 R) = Go.bits .xor .u64 (uv R / 2) 14514072000185962306) ∨ ((uv R % 2 == 1) = false ∧ uv (step1 R) = uv R / 2) := by
  have e2 : uv R / (2 : Int) = uv (R >>> 1) := by have := shr_uv R 1; rwa [Int.pow_one] at this
  rw [e2, poly_uv, xor_uv]
  unfold step1
  simp only [lsb_iff]
  have e3 : uv R % 2 = ((R.toNat % 2 : Nat) : Int) := by unfold uv; omega
  rw [e3]
  by_cases h : R.toNat % 2 = 1
  · refine .inl ⟨by rw [h]; rfl, by rw [if_pos h]⟩
  · have h0 : R.toNat % 2 = 0 := by omega
    refine .inr ⟨by rw [h0]; rfl, by rw [if_neg h]⟩
theorem quo2_uv (R : BitVec 64) : IntKind.u64.wrap ((uv R).tdiv 2) = uv R / (2 : Int) := by
  have h0 := uv_lo R
  have h1 := uv_hi R
  rw [Int.tdiv_eq_ediv_of_nonneg h0]
  simp [IntKind.wrap, IntKind.bits, IntKind.signed]
  omega
set_option maxHeartbeats 4000000 in
theorem forebayref02_More.calls (a0 : Int) (a1 : ByteArray) (r : Int) (w : World) (h : forebayref02_More.f a0 a1 = some r) :
    Calls Try.prog 24 #[.int .u64 a0, .string a1] w fun e w' => e = .returned (.int .u64 r) ∧ Drawn0 w w' := by
  by_cases hs : a1.size ≤ 9223372036854775807
  case neg => unfold forebayref02_More.f at h; rw [if_neg hs] at h; cases h
  unfold forebayref02_More.f at h
  rw [if_pos hs] at h
  obtain rfl := Option.some.inj h
  clear h
  go_enter Try.func24, Try.ntmps24
  go_wp2
  go_loopg [5, 6] a1.size (fun kq v5 v6 w' => ∃ i : Nat, v6 = .int .i64 i ∧ Aside0 (kq + i = a1.size) ∧ v5 = .int .u64 (uv (crcBytes (~~~ (BitVec.ofInt 64 a0)) (a1.data.toList.take i))) ∧ w' = w)
  case atStart =>
    refine ⟨0, rfl, ⟨rfl⟩, ?_, rfl⟩
    rw [show IntKind.u64.max = 18446744073709551615 from rfl, not_any]
    rfl
  case round =>
    obtain ⟨i, rfl, HK, rfl, rfl⟩ := hrel
    cases gk with
    | zero =>
      have e : i = a1.size := by have := HK.out; omega
      subst e
      go_wp2
      go_ret
      refine ⟨?_, Drawn0.refl _⟩
      rw [show IntKind.u64.max = 18446744073709551615 from rfl, not_uv, List.take_of_length_le (by simp)]
      rfl
    | succ k1 =>
      have hlt : i < a1.size := by have := HK.out; omega
      have ht := Aside0.mk (crcBytes_take (~~~ (BitVec.ofInt 64 a0)) a1 i hlt)
      obtain ⟨c, hc, hci⟩ : ∃ c : Nat, c < 256 ∧ (a1[i]'hlt).toNat = c := ⟨_, UInt8.toNat_lt _, rfl⟩
      have hcw : IntKind.u64.wrap (c : Int) = c := by simp [IntKind.wrap, IntKind.bits, IntKind.signed]; omega
      have ec : (c : Int) = uv (BitVec.ofNat 64 c) := by unfold uv; rw [BitVec.toNat_ofNat, Nat.mod_eq_of_lt (by omega)]
      replace ec := Aside0.mk ec
      generalize crcBytes (~~~ (BitVec.ofInt 64 a0)) (a1.data.toList.take i) = R at *
      go_wp2
      go_loopg [5, 7] 8 (fun kq v5 v7 w' => ∃ j : Nat, v5 = .int .u64 (uv (steps j (R ^^^ BitVec.ofNat 64 c))) ∧ v7 = .int .i64 j ∧ Aside0 (kq + j = 8) ∧ w' = wr)
      case atStart => exact ⟨0, by rw [ec.out, xor_uv]; rfl, rfl, ⟨rfl⟩, rfl⟩
      case round =>
        obtain ⟨j, rfl, rfl, HK2, rfl⟩ := hrel
        cases gk with
        | zero =>
          have e : j = 8 := by have := HK2.out; omega
          subst e
          go_wp2
          go_roundg k1
          case measure => omega
          case rel => exact ⟨i + 1, by go_num, ⟨by have := HK.out; omega⟩, by rw [ht.out, hci]; rfl, rfl⟩
        | succ k2 =>
          have hlt2 : j < 8 := by have := HK2.out; omega
          have r0 := uv_lo (steps j (R ^^^ BitVec.ofNat 64 c))
          have L := lsb_cases2 (steps j (R ^^^ BitVec.ofNat 64 c))
          have HQ := Aside0.mk (quo2_uv (steps j (R ^^^ BitVec.ofNat 64 c)))
          rw [← steps_succ] at L
          generalize hS : uv (steps (j + 1) (R ^^^ BitVec.ofNat 64 c)) = S at L
          generalize uv (steps j (R ^^^ BitVec.ofNat 64 c)) = X at *
          replace hS := Aside0.mk hS
          rcases L with ⟨L1, L2⟩ | ⟨L1, L2⟩
          all_goals
            replace L2 := Aside0.mk L2
            go_wp2
            go_roundg k2
            case measure => omega
            case rel => exact ⟨j + 1, by rw [hS.out, L2.out, HQ.out], by go_num, ⟨by have := HK2.out; omega⟩, rfl⟩

/-! ### forebayref02_Seal: function 19 -/
def sealNums (s : ByteArray) (k : Nat) : List Int := bytesOf s ++ (List.range k).map fun j => (moreT 0 s) / 256 ^ j % 256
/-- A text with its sum behind it. -/
def sealT (s : ByteArray) : ByteArray := strOfNums (sealNums s 8)
def forebayref02_Seal.f (a0 : ByteArray) : Option (ByteArray) := if a0.size ≤ 140737488355320 then some (sealT a0) else none
theorem moreT_lo (x : Int) (s : ByteArray) : 0 ≤ moreT x s := uv_lo _
theorem sealNums_succ (s : ByteArray) (k : Nat) : sealNums s (k + 1) = sealNums s k ++ [(moreT 0 s) / 256 ^ k % 256] := by
  unfold sealNums
  rw [List.range_succ, List.map_append, List.append_assoc]
  rfl
theorem sealNums_length (s : ByteArray) (k : Nat) : (sealNums s k).length = s.size + k := by simp [sealNums, bytesOf_length]
theorem moreT_step (s : ByteArray) (k : Nat) : IntKind.u64.wrap ((moreT 0 s / 256 ^ k).tdiv 256) = moreT 0 s / 256 ^ (k + 1) := by
  have h0 := moreT_lo 0 s
  have h1 : moreT 0 s ≤ 18446744073709551615 := uv_hi _
  have hp : (0 : Int) < 256 ^ k := Int.pow_pos (by omega)
  have h2 : 0 ≤ moreT 0 s / 256 ^ k := Int.ediv_nonneg h0 (by omega)
  have h3 : moreT 0 s / 256 ^ k ≤ moreT 0 s := Int.ediv_le_self _ h0
  rw [Int.tdiv_eq_ediv_of_nonneg h2, Int.pow_succ, ← Int.ediv_ediv_of_nonneg (by omega)]
  simp [IntKind.wrap, IntKind.bits, IntKind.signed]
  omega
set_option maxHeartbeats 4000000 in
theorem forebayref02_Seal.calls (a0 : ByteArray) (r : ByteArray) (w : World) (h : forebayref02_Seal.f a0 = some r) :
    Calls Try.prog 19 #[.string a0] w fun e w' => e = .returned (.string r) ∧ Below w.heap.size w w' := by
  by_cases hs : a0.size ≤ 140737488355320
  case neg => unfold forebayref02_Seal.f at h; rw [if_neg hs] at h; cases h
  unfold forebayref02_Seal.f at h
  rw [if_pos hs] at h
  obtain rfl := Option.some.inj h
  clear h
  have hm : forebayref02_More.f 0 a0 = some (moreT 0 a0) := by unfold forebayref02_More.f; rw [if_pos (by omega)]
  replace hm := Aside0.mk hm
  have hk := fun W => print_bytes (P := Try.prog) 9 40 5 Try.underlying9 Try.underlying40 Try.underlying5 a0 W
  go_enter Try.func19, Try.ntmps19
  go_wp2_with (first | (go_at_call 24; refine (forebayref02_More.calls 0 a0 _ _ hm.out).mono ?_; rintro e w1 ⟨rfl, ⟨nd, rfl⟩⟩))
  have HS := Aside0.mk (show (w.drewN nd).heap.size = w.heap.size by simp)
  have HM := Aside0.mk (show a0.size ≤ maxLen by unfold maxLen; omega)
  go_loopg [3, 4, 5] 8 (fun kq v3 v4 v5 w' => ∃ k : Nat, v5 = .int .i64 k ∧ Aside0 (kq + k = 8) ∧ v3 = .int .u64 (moreT 0 a0 / 256 ^ k) ∧ Aside0 (GR.GRow w' w.heap.size 5 v4 (nums .u8 (sealNums a0 k))) ∧ Aside0 (Below w.heap.size w w'))
  case atStart =>
    refine ⟨0, rfl, ⟨rfl⟩, by simp, ⟨?_⟩, ⟨?_⟩⟩
    · have h := GR.GRow.bytes (w.drewN nd) w.heap.size 5 a0 (by rw [HS.out]; exact Nat.le_refl _) HM.out
      rw [HS.out] at h
      simpa [nums, sealNums, bytesOf, Function.comp_def] using h
    · exact bytes_below (pw_below_drewN (Below.refl _ _) nd) (by rw [HS.out]; exact Nat.le_refl _) 5 a0
  case round =>
    obtain ⟨k, rfl, HK, rfl, HG, HB⟩ := hrel
    cases gk with
    | zero =>
      have e : k = 8 := by have := HK.out; omega
      subst e
      have hstr := GR.GRow.string (P := Try.prog) Try.underlying40 Try.underlying5 Try.underlying9 HG.out
      go_wp2
      go_ret
      exact ⟨rfl, HB.out⟩
    | succ k1 =>
      have hlt : k < 8 := by have := HK.out; omega
      have hst := Aside0.mk (moreT_step a0 k)
      have hsucc := Aside0.mk (sealNums_succ a0 k)
      have hp : (0 : Int) < 256 ^ k := Int.pow_pos (by omega)
      have x0 : 0 ≤ moreT 0 a0 / 256 ^ k := Int.ediv_nonneg (moreT_lo 0 a0) (by omega)
      clear hp
      have hlen := Aside0.mk (show (nums .u8 (sealNums a0 k)).length = a0.size + k by rw [nums_length, sealNums_length])
      generalize moreT 0 a0 / 256 ^ k = X at *
      go_wp2_with (first | (at_builtin; refine GR.GRow.append (w0 := w) w.heap.size rfl _ _ 40 5 (.int .u8 0) 1 rfl Try.underlying40 (by kernel_rfl) rfl (by decide) u4 (nums .u8 (sealNums a0 k)) (.int .u8 (X % 256)) rfl rfl rfl HG.out HB.out HB.out.size (by rw [hlen.out]; omega) ?_; intro v1 w1 hg1 hb1 hgr1; replace hg1 := Aside0.mk hg1; replace hb1 := Aside0.mk hb1; replace hgr1 := Aside0.mk hgr1))
      go_roundg k1
      case measure => omega
      case rel => exact ⟨k + 1, by go_num, ⟨by have := HK.out; omega⟩, by rw [hst.out], ⟨by rw [hsucc.out, nums_append]; exact hg1.out⟩, hb1⟩

/-! ### seal_Seal: function 15 -/
def seal_Seal.f (a0 : ByteArray) : Option (ByteArray) := if a0.size ≤ 140737488355320 then some (sealT a0) else none
theorem moreT_shr (s : ByteArray) (k : Nat) : moreT 0 s / 256 ^ k / 256 = moreT 0 s / 256 ^ (k + 1) := by
  rw [Int.pow_succ, ← Int.ediv_ediv_of_nonneg (Int.le_of_lt (Int.pow_pos (by omega)))]
set_option maxHeartbeats 4000000 in
theorem seal_Seal.calls (a0 : ByteArray) (r : ByteArray) (w : World) (h : seal_Seal.f a0 = some r) :
    Calls Try.prog 15 #[.string a0] w fun e w' => e = .returned (.string r) ∧ Below w.heap.size w w' := by
  by_cases hs : a0.size ≤ 140737488355320
  case neg => unfold seal_Seal.f at h; rw [if_neg hs] at h; cases h
  unfold seal_Seal.f at h
  rw [if_pos hs] at h
  obtain rfl := Option.some.inj h
  clear h
  have hm : seal_Sum.f a0 = some (moreT 0 a0) := by unfold seal_Sum.f; rw [if_pos (by omega)]
  replace hm := Aside0.mk hm
  obtain ⟨i0, hi, hz0, hz1, hz2⟩ := info_parts (P := Try.prog) (e := 5) (z := .int .u8 0) (size := 1) (bytes := 1) (by kernel_rfl)
  replace hi := Aside0.mk hi
  replace hz0 := Aside0.mk hz0
  replace hz1 := Aside0.mk hz1
  replace hz2 := Aside0.mk hz2
  go_enter Try.func15, Try.ntmps15
  go_wp2_with (first | (go_at_call 18; refine (seal_Sum.calls a0 _ _ hm.out).mono ?_; rintro e w1 ⟨rfl, hb1⟩; replace hb1 := Aside0.mk hb1) | (at_make; refine wpList_make_own _ rfl _ _ 40 rfl w.heap.size 5 i0 (.int .u8 0) 1 Try.underlying40 hi.out hz0.out hz1.out .i64 .i64 _ (a0.size + 8) rfl rfl (by simp) (by rw [hz2.out]; omega) (by unfold maxLen; omega) hb1.out.size ?_; intro w2 hown2 hg2; have HB2 := Aside0.mk (hb1.out.grown hg2 hb1.out.size (fun k hk => by cases hk)); replace hown2 := Aside0.mk hown2; clear hg2) | (at_builtin; refine print_append_str (w0 := w) w.heap.size rfl _ _ 40 9 5 rfl Try.underlying40 Try.underlying9 (by kernel_rfl) _ [] a0 rfl rfl hown2.out HB2.out HB2.out.size (by simp; omega) ?_; intro v3 w3 hown3 hb3 hg3; replace hown3 := Aside0.mk hown3; replace hb3 := Aside0.mk hb3; clear hg3))
  go_loopg [3, 4, 13] 8 (fun kq v3 v4 v13 w' => ∃ k : Nat, v13 = .int .i64 k ∧ Aside0 (kq + k = 8) ∧ v3 = .int .u64 (moreT 0 a0 / 256 ^ k) ∧ Aside0 (w'.ownsRow w.heap.size 5 1 v4 (sealNums a0 k).length (nums .u8 (sealNums a0 k))) ∧ Aside0 (Below w.heap.size w w'))
  case atStart => exact ⟨0, rfl, ⟨rfl⟩, by simp, ⟨by simpa [sealNums] using hown3.out⟩, hb3⟩
  case round =>
    obtain ⟨k, rfl, HK, rfl, HG, HB⟩ := hrel
    cases gk with
    | zero =>
      have e : k = 8 := by have := HK.out; omega
      subst e
      have hstr := own_string (P := Try.prog) Try.underlying40 Try.underlying5 Try.underlying9 HG.out
      go_wp2
      go_ret
      exact ⟨rfl, HB.out⟩
    | succ k1 =>
      have hlt : k < 8 := by have := HK.out; omega
      have hst := Aside0.mk (moreT_shr a0 k)
      have hsucc := Aside0.mk (sealNums_succ a0 k)
      have hp : (0 : Int) < 256 ^ k := Int.pow_pos (by omega)
      have x0 : 0 ≤ moreT 0 a0 / 256 ^ k := Int.ediv_nonneg (moreT_lo 0 a0) (by omega)
      clear hp
      have hlen := Aside0.mk (sealNums_length a0 k)
      generalize moreT 0 a0 / 256 ^ k = X at *
      go_wp2_with (first | (at_builtin; refine print_append_num (w0 := w) w.heap.size rfl _ _ 40 5 .u8 1 rfl Try.underlying40 (by kernel_rfl) (by decide) u4 (sealNums a0 k) (X % 256) rfl rfl HG.out HB.out HB.out.size (by rw [hlen.out]; omega) ?_; intro v1 w1 hg1 hb1 hgr1 hat1; replace hg1 := Aside0.mk hg1; replace hb1 := Aside0.mk hb1; clear hgr1 hat1))
      go_roundg k1
      case measure => omega
      case rel => exact ⟨k + 1, by go_num, ⟨by have := HK.out; omega⟩, by rw [hst.out], ⟨by rw [hsucc.out]; exact hg1.out⟩, hb1⟩

/-! ### frame_lead: function 14 -/
/-- The four bytes of a length, k of them written. -/
def leadRow (n : Int) (k : Nat) : Array Value := ((List.range 4).map fun j => Value.int .u8 (if j < k then n / 256 ^ j % 256 else 0)).toArray
def leadNums (n : Int) : List Int := (List.range 4).map fun j => n / 256 ^ j % 256
def leadB (n : Int) : ByteArray := strOfNums (leadNums n)
def frame_lead.f (n : Int) : Option ByteArray := if 0 ≤ n ∧ n ≤ 9223372036854775807 then some (sealT (leadB n)) else none
theorem leadRow_size (n : Int) (k : Nat) : (leadRow n k).size = 4 := by simp [leadRow]
theorem leadRow_set (n : Int) (i : Nat) (h : i < 4) : (leadRow n i).setIfInBounds i (.int .u8 (n / 256 ^ i % 256)) = leadRow n (i + 1) := by
  apply Array.ext
  · simp [leadRow]
  · intro j h1 h2
    have hj : j < 4 := by simpa [leadRow] using h1
    rw [Array.getElem_setIfInBounds (by simpa [leadRow] using hj)]
    by_cases e : i = j
    · subst e
      simp [leadRow]
    · rw [if_neg e]
      simp only [leadRow, List.getElem_toArray, List.getElem_map, List.getElem_range]
      by_cases h3 : j < i
      · rw [if_pos h3, if_pos (by omega)]
      · rw [if_neg h3, if_neg (by omega)]
theorem leadB_size (n : Int) : (leadB n).size = 4 := by unfold leadB; rw [strOfNums_size]; simp [leadNums]
set_option maxHeartbeats 4000000 in
theorem frame_lead.calls (n : Int) (r : ByteArray) (w : World) (h : frame_lead.f n = some r) :
    Calls Try.prog 14 #[.int .i64 n] w fun e w' => e = .returned (.string r) ∧ Below w.heap.size w w' := by
  unfold frame_lead.f at h
  by_cases h0 : 0 ≤ n ∧ n ≤ 9223372036854775807
  case neg => rw [if_neg h0] at h; cases h
  rw [if_pos h0] at h
  obtain rfl := Option.some.inj h
  clear h
  obtain ⟨n0, n1⟩ := h0
  have hS : seal_Seal.f (leadB n) = some (sealT (leadB n)) := by unfold seal_Seal.f; rw [if_pos (by rw [leadB_size]; omega)]
  replace hS := Aside0.mk hS
  generalize sealT (leadB n) = out at *
  go_enter Try.func14, Try.ntmps14
  go_wp2
  go_loopg [5] 4 (fun kq v5 w' => ∃ i : Nat, v5 = .int .i64 i ∧ Aside0 (kq + i = 4) ∧ Aside0 (w'.heap[w.heap.size]? = some (.cells (leadRow n i) 47 (0, 0))) ∧ Aside0 (Below w.heap.size w w'))
  case atStart => exact ⟨0, rfl, ⟨rfl⟩, ⟨heap_alloc_new _ _⟩, ⟨(Below.refl _ _).alloc (Nat.le_refl _) _⟩⟩
  case round =>
    obtain ⟨i, rfl, HK, HH, HB⟩ := hrel
    cases gk with
    | zero =>
      have e : i = 4 := by have := HK.out; omega
      subst e
      have hcv := run_convert_bytes_arg (P := Try.prog) wr 40 5 Try.underlying40 Try.underlying5 w.heap.size 0 4 4 (leadNums n) rfl (fun i hi => by
        rw [Nat.zero_add, cell_of_row _ _ _ _ _ _ HH.out]
        simp [leadRow, leadNums, hi]) 9 Try.underlying9
      go_wp2_with (go_at_call 15; refine (seal_Seal.calls _ _ _ hS.out).mono ?_; rintro e w1 ⟨rfl, hb1⟩; replace hb1 := Aside0.mk hb1)
      go_ret
      exact ⟨rfl, HB.out.trans (hb1.out.mono HB.out.size)⟩
    | succ k1 =>
      have hlt : i < 4 := by have := HK.out; omega
      have hc : wr.cell? ⟨w.heap.size, i, none⟩ = some (.int .u8 0) := by
        rw [cell_of_row _ _ _ _ _ _ HH.out]
        simp [leadRow, hlt]
      have hf : wr.frozen? ⟨w.heap.size, i, none⟩ = false := frozen_of_row _ _ _ _ _ HH.out
      go_wp2
      go_roundg k1
      case measure => omega
      case rel =>
        refine ⟨i + 1, by go_num, ⟨by have := HK.out; omega⟩, ⟨?_⟩, ⟨HB.out.setCell (Nat.le_refl _) _⟩⟩
        rw [heap_setCell_same _ _ _ _ _ _ HH.out]
        rw [← leadRow_set n i hlt]
        rw [show (2 : Int) ^ (8 * i) = 256 ^ i by rw [Int.pow_mul]; rfl]

/-! ### frame_Put: function 8 -/
def frame_Put.l0 : Nat → ByteArray → List ByteArray → Int → Int → Option (ByteArray × Int)
  | 0, _, _, _, _ => none
  | k + 1, x4, x7, x8, x9 => if x9 < x8 then (if 0 ≤ x9 then (if x9 < (x7.length : Int) then (if ((rdOf ByteArray.empty x7 x9).size : Int) > 262144 then (some ((⟨#[]⟩ : ByteArray), 3)) else ((frame_lead.f ((rdOf ByteArray.empty x7 x9).size : Int)).bind fun t103 => ((seal_Seal.f (rdOf ByteArray.empty x7 x9)).bind fun t104 => (if t103.size + t104.size ≤ 9223372036854775807 then (if x4.size + (t103 ++ t104).size ≤ 9223372036854775807 then (frame_Put.l0 k (x4 ++ (t103 ++ t104)) x7 x8 (wrap64 (x9 + 1))) else (none)) else (none))))) else (none)) else (none)) else (some (x4, 0))
def frame_Put.f (k : Nat) (l0 : List ByteArray) : Option (ByteArray × Int) := frame_Put.l0 k (⟨#[]⟩ : ByteArray) l0 (l0.length : Int) 0
theorem frame_Put.mono_l : ∀ k, (∀ y0 y1 y2 y3, LeO (frame_Put.l0 k y0 y1 y2 y3) (frame_Put.l0 (k + 1) y0 y1 y2 y3))
  | 0 => fun _ _ _ _ r h => by simp [frame_Put.l0] at h
  | k + 1 => by
    have ih0 := frame_Put.mono_l k
    · intro y0 y1 y2 y3
      unfold frame_Put.l0
      repeat' first
      | (with_reducible exact ih0 _ _ _ _)
      | (with_reducible exact LeO.refl _)
      | (with_reducible exact LeO.none _)
      | (with_reducible refine LeO.ite ?_ ?_)
      | (with_reducible refine LeO.bind ?_ (fun _ => ?_))
      | exact ih0 _ _ _ _
      | exact LeO.none _
      | refine LeO.ite ?_ ?_
      | refine LeO.bind ?_ (fun _ => ?_)
theorem frame_Put.mono : ∀ a0 k, LeO (frame_Put.f k a0) (frame_Put.f (k + 1) a0) := by
  intro a0 k
  have ih0 := frame_Put.mono_l k
  unfold frame_Put.f
  repeat' first
      | (with_reducible exact ih0 _ _ _ _)
      | (with_reducible exact LeO.refl _)
      | (with_reducible exact LeO.none _)
      | (with_reducible refine LeO.ite ?_ ?_)
      | (with_reducible refine LeO.bind ?_ (fun _ => ?_))
      | exact ih0 _ _ _ _
      | exact LeO.none _
      | refine LeO.ite ?_ ?_
      | refine LeO.bind ?_ (fun _ => ?_)
set_option maxHeartbeats 8000000 in
set_option maxRecDepth 100000 in
theorem frame_Put.calls (k : Nat) (A0 : Option Addr) (c0 : Nat) (l0 : List ByteArray) (r1 : ByteArray) (r2 : Int) (w : World) (hr0 : Kd.C Kd.string w A0 l0.length l0) (hc0 : l0.length ≤ c0) (h : frame_Put.f k l0 = some (r1, r2)) :
    Calls Try.prog 8 #[.slice A0 l0.length c0] w fun e w' => e = .returned (.tuple #[.string r1, .int .i64 r2]) ∧ Below w.heap.size w w' := by
  have HR0 := Aside0.mk hr0
  have HC0 := Aside0.mk hc0
  clear hr0 hc0
  have HB := Aside0.mk (Below.refl w.heap.size w)
  have H : (frame_Put.l0 k (⟨#[]⟩ : ByteArray) l0 (l0.length : Int) 0) = some (r1, r2) := h
  clear h
  have H' := Aside0.mk H
  clear H
  go_enter Try.func8, Try.ntmps8
  go_wp2
  go_loopg [4, 9] k (fun kq v4 v9 w' => ∃ (x4_1 : ByteArray) (x9_1 : Int), v4 = .string x4_1 ∧ v9 = .int .i64 x9_1 ∧ Aside0 (frame_Put.l0 kq x4_1 l0 (l0.length : Int) x9_1 = some (r1, r2)) ∧ Aside0 (kq ≤ k) ∧ Aside0 (Below w.heap.size w w'))
  case atStart => exact ⟨((⟨#[]⟩ : ByteArray)), (0), (by first | rfl | (simp; done) | (simp [*]; done) | (simp; exact isEmpty_bne _)), (by first | rfl | (simp; done) | (simp [*]; done) | (simp; exact isEmpty_bne _)), H', ⟨Nat.le_refl _⟩, ⟨by repeat (first | (with_reducible first | exact HB.out | apply below_alloc | apply pw_below_drewN | apply below_drew1) | exact HB.out)⟩⟩
  case round =>
    clear H'
    obtain ⟨x4_1, x9_1, rfl, rfl, HA, HK1, HB⟩ := hrel
    cases gk with
    | zero => exact absurd HA.out (by simp [frame_Put.l0])
    | succ k1 =>
      have H := HA.out
      clear HA
      simp only [frame_Put.l0] at H
      by_cases c2 : x9_1 < (l0.length : Int)
      · rw [if_pos c2] at H
        have c2b0 : decide (x9_1 < (l0.length : Int)) = true := decide_eq_true c2
        clear c2
        by_cases c3 : 0 ≤ x9_1
        · rw [if_pos c3] at H
          have c3b0 : decide (0 ≤ x9_1) = true := decide_eq_true c3
          clear c3
          by_cases c4 : x9_1 < (l0.length : Int)
          · rw [if_pos c4] at H
            have c4b0 : decide (x9_1 < (l0.length : Int)) = true := decide_eq_true c4
            clear c4
            by_cases c5 : ((rdOf ByteArray.empty l0 x9_1).size : Int) > 262144
            · rw [if_pos c5] at H
              have c5b0 : decide (262144 < ((rdOf ByteArray.empty l0 x9_1).size : Int)) = true := decide_eq_true c5
              have c5b1 : decide (262144 < (rdOf ByteArray.empty l0 x9_1).size) = true := decide_eq_true (by omega)
              clear c5
              simp only [Option.some.injEq, Prod.mk.injEq] at H
              obtain ⟨rfl, rfl⟩ := H
              have p102 : 0 ≤ (x9_1 : Int) := of_decide_eq_true (by first | (with_reducible assumption) | assumption)
              have q102 : x9_1 < (l0.length : Int) := of_decide_eq_true (by first | (with_reducible assumption) | assumption)
              obtain ⟨ad102, e102, hx102_0⟩ := Kd.at_string HR0.out x9_1 p102 q102
              cases e102
              replace hx102_0 := (HB.out.cell (World.block_lt_of_cell? w _ hx102_0)).trans hx102_0
              replace p102 := eq_true p102
              replace q102 := eq_true q102
              go_wp2
              go_ret2
              exact ⟨by first | rfl | (simp [errW_none, errW_some] <;> rfl) | (simp [*, errW_none, errW_some] <;> rfl), by repeat (first | (with_reducible first | exact HB.out | apply below_alloc | apply pw_below_drewN | apply below_drew1) | exact HB.out)⟩
            · rw [if_neg c5] at H
              have c5b0 : decide (262144 < ((rdOf ByteArray.empty l0 x9_1).size : Int)) = false := decide_eq_false c5
              have c5b1 : decide (262144 < (rdOf ByteArray.empty l0 x9_1).size) = false := decide_eq_false (by omega)
              clear c5
              replace H := Option.bind_eq_some_iff.mp H
              obtain ⟨t103, A60, H⟩ := H
              replace H : ((seal_Seal.f (rdOf ByteArray.empty l0 x9_1)).bind fun t104 => (if t103.size + t104.size ≤ 9223372036854775807 then (if x4_1.size + (t103 ++ t104).size ≤ 9223372036854775807 then (frame_Put.l0 k1 (x4_1 ++ (t103 ++ t104)) l0 (l0.length : Int) (wrap64 (x9_1 + 1))) else (none)) else (none))) = some (r1, r2) := H
              have A6 := Aside0.mk A60
              clear A60
              replace H := Option.bind_eq_some_iff.mp H
              obtain ⟨t104, A70, H⟩ := H
              replace H : (if t103.size + t104.size ≤ 9223372036854775807 then (if x4_1.size + (t103 ++ t104).size ≤ 9223372036854775807 then (frame_Put.l0 k1 (x4_1 ++ (t103 ++ t104)) l0 (l0.length : Int) (wrap64 (x9_1 + 1))) else (none)) else (none)) = some (r1, r2) := H
              have A7 := Aside0.mk A70
              clear A70
              by_cases c8 : t103.size + t104.size ≤ 9223372036854775807
              · rw [if_pos c8] at H
                have c8b0 := eq_true c8
                have c8b1 : decide (t103.size + t104.size ≤ 9223372036854775807) = true := decide_eq_true c8
                try have c8b2 : (9223372036854775807 < t103.size + t104.size) = False := eq_false (Nat.not_lt.2 c8)
                by_cases c9 : x4_1.size + (t103 ++ t104).size ≤ 9223372036854775807
                · rw [if_pos c9] at H
                  have c9b0 := eq_true c9
                  have c9b1 : decide (x4_1.size + (t103 ++ t104).size ≤ 9223372036854775807) = true := decide_eq_true c9
                  try have c9b2 : (9223372036854775807 < x4_1.size + (t103 ++ t104).size) = False := eq_false (Nat.not_lt.2 c9)
                  have H' := Aside0.mk H
                  clear H
                  have p102 : 0 ≤ (x9_1 : Int) := of_decide_eq_true (by first | (with_reducible assumption) | assumption)
                  have q102 : x9_1 < (l0.length : Int) := of_decide_eq_true (by first | (with_reducible assumption) | assumption)
                  obtain ⟨ad102, e102, hx102_0⟩ := Kd.at_string HR0.out x9_1 p102 q102
                  cases e102
                  replace hx102_0 := (HB.out.cell (World.block_lt_of_cell? w _ hx102_0)).trans hx102_0
                  replace p102 := eq_true p102
                  replace q102 := eq_true q102
                  go_wp2_with (first | ((with_reducible refine gate_callee (f := 14) rfl ?_); refine goesL_ (some 19) rfl rfl Try.func14 (by kernel_rfl) rfl #[.int .i64 ((rdOf ByteArray.empty l0 x9_1).size : Int)] rfl (by (try simp only [List.map_toArray, List.map_cons, List.map_nil]); first | done | rfl | (simp only [List.length_drop, List.length_take]; rfl)) ?_; (with_reducible refine (frame_lead.calls ((rdOf ByteArray.empty l0 x9_1).size : Int) t103 _ A6.out).mono ?_); rintro e w10 ⟨rfl, hb⟩; refine ⟨_, rfl, ?_⟩; have n0_ := Aside0.mk (below_step (by repeat (first | (with_reducible first | exact HB.out | apply below_alloc | apply pw_below_drewN | apply below_drew1) | exact HB.out)) hb); clear HB; have HB := n0_; clear n0_; (try clear hb); (try clear hb2); (try clear hk); (try clear hi)) | ((with_reducible refine gate_callee (f := 15) rfl ?_); refine goesL_ (some 21) rfl rfl Try.func15 (by kernel_rfl) rfl #[.string (rdOf ByteArray.empty l0 x9_1)] rfl (by (try simp only [List.map_toArray, List.map_cons, List.map_nil]); first | done | rfl | (simp only [List.length_drop, List.length_take]; rfl)) ?_; (with_reducible refine (seal_Seal.calls (rdOf ByteArray.empty l0 x9_1) t104 _ A7.out).mono ?_); rintro e w11 ⟨rfl, hb⟩; refine ⟨_, rfl, ?_⟩; have n0_ := Aside0.mk (below_step (by repeat (first | (with_reducible first | exact HB.out | apply below_alloc | apply pw_below_drewN | apply below_drew1) | exact HB.out)) hb); clear HB; have HB := n0_; clear n0_; (try clear hb); (try clear hb2); (try clear hk); (try clear hi)))
                  go_roundg k1
                  case measure => have := HK1.out; omega
                  case rel => exact ⟨(x4_1 ++ (t103 ++ t104)), (wrap64 (x9_1 + 1)), (by first | rfl | (simp; done) | (simp [*]; done) | (simp; exact isEmpty_bne _)), (by first | rfl | (simp; done) | (simp [*]; done) | (simp; exact isEmpty_bne _)), H', ⟨by have := HK1.out; omega⟩, ⟨by repeat (first | (with_reducible first | exact HB.out | apply below_alloc | apply pw_below_drewN | apply below_drew1) | exact HB.out)⟩⟩
                · rw [if_neg c9] at H
                  exact absurd H (by simp)
              · rw [if_neg c8] at H
                exact absurd H (by simp)
          · rw [if_neg c4] at H
            exact absurd H (by simp)
        · rw [if_neg c3] at H
          exact absurd H (by simp)
      · rw [if_neg c2] at H
        have c2b0 : decide (x9_1 < (l0.length : Int)) = false := decide_eq_false c2
        clear c2
        simp only [Option.some.injEq, Prod.mk.injEq] at H
        obtain ⟨rfl, rfl⟩ := H
        go_wp2
        go_ret2
        exact ⟨by first | rfl | (simp [errW_none, errW_some] <;> rfl) | (simp [*, errW_none, errW_some] <;> rfl), by repeat (first | (with_reducible first | exact HB.out | apply below_alloc | apply pw_below_drewN | apply below_drew1) | exact HB.out)⟩

end Go.Proofs.Ytdhnlcbijefinaa.P
