-- Written by this session's program gprint.py: functions of the program as plain functions, and that the machine does what they say. Not trusted: Lean checks it.
import Derived.Test.YtnpppcfbnomjiaaPx0
import Derived.Test.YtnpppcfbnomjiaaPx1
namespace Go.Proofs.Ytnpppcfbnomjiaa.P
open Go.RowKit Go.Proofs.YtnpppcfbnomjiaaW.PrintWords Go.Proofs.YtnpppcfbnomjiaaW.PrintLast Go.Proofs.YtnpppcfbnomjiaaW.PrintMore
attribute [local go_sem] max2_int min2_int max_two min_two max_three min_three max_four min_four   -- for this text's walks alone
set_option linter.unusedVariables false
set_option linter.unusedSimpArgs false

/-! ### forebaylaw02_SealBurst: function 4 -/
/-- Bytes of which bits are turned, k of the 64 having been asked. -/
def flipNums (l : List Int) (at_ : Nat) (word : Int) : Nat → List Int
  | 0 => l
  | k + 1 => if word / 2 ^ k % 2 = 1 then (flipNums l at_ word k).set ((at_ + k) / 8) (Go.bits .xor .u8 ((flipNums l at_ word k).getD ((at_ + k) / 8) 0) (2 ^ ((at_ + k) % 8))) else flipNums l at_ word k
theorem nums_set (l : List Int) (i : Nat) (u : Int) : (nums .u8 l).set i (.int .u8 u) = nums .u8 (l.set i u) := by simp [nums, List.map_set]
theorem flipNums_length (l : List Int) (at_ : Nat) (word : Int) (k : Nat) : (flipNums l at_ word k).length = l.length := by
  induction k with
  | zero => rfl
  | succ k ih => rw [flipNums]; split <;> simp [ih]
def forebaylaw02_SealBurst.f (a0 : ByteArray) (a1 a2 : Int) : Option Bool :=
  if a0.size > 2000 ∨ a2 = 0 then forebaylaw02_head.f
  else if 0 ≤ a1 ∧ a1 ≤ 4294967295 ∧ 0 ≤ a2 then
    (seal_Open.f (strOfNums (flipNums (bytesOf (sealT a0)) (a1 % (8 * (a0.size + 8) - 63)).toNat a2 64))).bind fun t => if t.2 = true then some false else forebaylaw02_head.f
  else none
set_option maxHeartbeats 8000000 in
theorem forebaylaw02_SealBurst.calls (a0 : ByteArray) (a1 a2 : Int) (r : Bool) (w : World) (h : forebaylaw02_SealBurst.f a0 a1 a2 = some r) :
    Calls Try.prog 4 #[.string a0, .int .u32 a1, .int .u64 a2] w fun e w' => e = .returned (.bool r) ∧ Below w.heap.size w w' := by
  unfold forebaylaw02_SealBurst.f at h
  by_cases h1 : a0.size > 2000 ∨ a2 = 0
  · rw [if_pos h1] at h
    have H := Aside0.mk h
    clear h
    by_cases h2 : a0.size > 2000
    · have h2' : decide (2000 < a0.size) = true := decide_eq_true h2
      clear h1
      go_enter Try.func4, Try.ntmps4
      go_wp2_with (go_at_call 6; refine (forebaylaw02_head.calls r _ H.out).mono ?_; rintro e w1 ⟨rfl, hb⟩)
      go_ret
      exact ⟨rfl, hb⟩
    · have h2' : decide (2000 < a0.size) = false := decide_eq_false h2
      have h3 : a2 = 0 := by exact h1.resolve_left h2
      subst h3
      clear h1
      go_enter Try.func4, Try.ntmps4
      go_wp2_with (go_at_call 6; refine (forebaylaw02_head.calls r _ H.out).mono ?_; rintro e w1 ⟨rfl, hb⟩)
      go_ret
      exact ⟨rfl, hb⟩
  · rw [if_neg h1] at h
    by_cases h2 : 0 ≤ a1 ∧ a1 ≤ 4294967295 ∧ 0 ≤ a2
    case neg => rw [if_neg h2] at h; cases h
    rw [if_pos h2] at h
    obtain ⟨p1, p2, p3⟩ := h2
    have q1 : ¬ 2000 < a0.size := fun hh => h1 (.inl hh)
    have q2 : ¬ a2 = 0 := fun hh => h1 (.inr hh)
    have q1' : decide (2000 < a0.size) = false := decide_eq_false q1
    have q1i : decide ((2000 : Int) < (a0.size : Int)) = false := decide_eq_false (by omega)
    have q2' : (a2 == 0) = false := by simpa using q2
    clear h1 q2
    have hS : seal_Seal.f a0 = some (sealT a0) := by unfold seal_Seal.f; rw [if_pos (by omega)]
    have hsz : (sealT a0).size = a0.size + 8 := by unfold sealT; rw [strOfNums_size, sealNums_length]
    replace hS := Aside0.mk hS
    generalize sealT a0 = s at *
    have hbl := bytesOf_length s
    obtain ⟨t, ht, h⟩ := Option.bind_eq_some_iff.1 h
    have hk := fun W => print_bytes (P := Try.prog) 9 32 5 Try.underlying9 Try.underlying32 Try.underlying5 s W
    have m0 := Int.emod_nonneg a1 (show (8 * ((a0.size : Int) + 8) - 63) ≠ 0 by omega)
    have m1 := Int.emod_lt_of_pos a1 (show 0 < (8 * ((a0.size : Int) + 8) - 63) by omega)
    obtain ⟨fr, hfr⟩ : ∃ fr : Nat, a1 % (8 * ((a0.size : Int) + 8) - 63) = fr := ⟨(a1 % (8 * ((a0.size : Int) + 8) - 63)).toNat, by omega⟩
    have hfr' : a1 % (8 * (s.size : Int) - 63) = fr := by rw [← hfr, hsz]; rfl
    rw [hfr, Int.toNat_natCast] at ht
    have hfl : fr + 63 < 8 * s.size := by omega
    have HT := Aside0.mk ht
    have HH := Aside0.mk h
    clear ht h m0 m1 hfr
    have hnz : ¬ s.size < 8 := by omega
    have hsm : s.size ≤ 2008 := by omega
    clear hsz q1
    go_enter Try.func4, Try.ntmps4
    go_wp2_with (first | (go_at_call 7; refine (seal_Seal.calls a0 s _ hS.out).mono ?_; rintro e w1 ⟨rfl, hb1⟩; replace hb1 := Aside0.mk hb1))
    replace hfr' := Aside0.mk hfr'
    have HB0 := Aside0.mk (bytes_below hb1.out hb1.out.size 5 s)
    have HG0 := Aside0.mk (show GR.GRow (Lib.bytesWorld w1 5 s) w.heap.size 5 (.slice (some ⟨w1.heap.size, 0, none⟩) s.size (grownCap w1 s.size 0 5)) (nums .u8 (flipNums (bytesOf s) fr a2 0)) by
      have h := GR.GRow.bytes w1 w.heap.size 5 s hb1.out.size (by unfold maxLen; omega)
      simpa [nums, flipNums, bytesOf, Function.comp_def] using h)
    clear hk
    rw [hfr'.out]
    go_loopg [9] 64 (fun kq v9 w' => ∃ k : Nat, v9 = .int .i64 k ∧ Aside0 (kq + k = 64) ∧ Aside0 (GR.GRow w' w.heap.size 5 (.slice (some ⟨w1.heap.size, 0, none⟩) s.size (grownCap w1 s.size 0 5)) (nums .u8 (flipNums (bytesOf s) fr a2 k))) ∧ Aside0 (Below w.heap.size w w'))
    case atStart => exact ⟨0, rfl, ⟨rfl⟩, HG0, HB0⟩
    case round =>
      clear HG0 HB0
      obtain ⟨k, rfl, HK, HG, HB⟩ := hrel
      cases gk with
      | zero =>
        have e : k = 64 := by have := HK.out; omega
        subst e
        have hstr := GR.GRow.string (P := Try.prog) Try.underlying32 Try.underlying5 Try.underlying9 HG.out
        obtain ⟨t1, t2⟩ := t
        cases t2 with
        | false =>
          have HH2 := Aside0.mk (show forebaylaw02_head.f = some r by have h := HH.out; simpa using h)
          go_wp2_with (first | (go_at_call 8; refine (seal_Open.calls _ t1 false _ HT.out).mono ?_; rintro e w3 ⟨rfl, hb3⟩; replace hb3 := Aside0.mk hb3) | (go_at_call 6; refine (forebaylaw02_head.calls r _ HH2.out).mono ?_; rintro e w4 ⟨rfl, hb4⟩; replace hb4 := Aside0.mk hb4))
          go_ret
          exact ⟨rfl, below_then (below_then HB.out HB.out.size hb3.out) (Nat.le_trans HB.out.size hb3.out.size) hb4.out⟩
        | true =>
          obtain rfl : false = r := by have h := HH.out; simpa using h
          go_wp2_with (first | (go_at_call 8; refine (seal_Open.calls _ t1 true _ HT.out).mono ?_; rintro e w3 ⟨rfl, hb3⟩; replace hb3 := Aside0.mk hb3))
          go_ret
          exact ⟨by rfl, below_then HB.out HB.out.size hb3.out⟩
      | succ k1 =>
        have hlt : k < 64 := by have := HK.out; omega
        clear HT HH
        have hdd : 0 ≤ a2 / 2 ^ k := Int.ediv_nonneg p3 (Int.le_of_lt (Int.pow_pos (by omega)))
        by_cases hbit : a2 / 2 ^ k % 2 = 1
        · have hb1 : (a2 / 2 ^ k % 2 == 1) = true := by simpa using hbit
          have hfs := Aside0.mk (show flipNums (bytesOf s) fr a2 (k + 1) = (flipNums (bytesOf s) fr a2 k).set ((fr + k) / 8) (Go.bits .xor .u8 ((flipNums (bytesOf s) fr a2 k).getD ((fr + k) / 8) 0) (2 ^ ((fr + k) % 8))) by rw [flipNums, if_pos hbit])
          replace hbit := Aside0.mk hbit
          have hln := flipNums_length (bytesOf s) fr a2 k
          rw [hbl] at hln
          obtain ⟨g, cap, hv, hgb, hgl, hgm, hcs, hfz, hset⟩ := HG.out.shape
          injection hv with hv1 hv2 hv3
          injection hv1 with hv1
          injection hv1 with hv1
          subst hv1
          obtain ⟨ix, hix, hix'⟩ : ∃ ix : Nat, ((fr : Int) + (k : Int)) / 8 = ix ∧ (fr + k) / 8 = ix := ⟨(fr + k) / 8, by omega, rfl⟩
          obtain ⟨m, hm, hm'⟩ : ∃ m : Nat, ((fr : Int) + (k : Int)) % 8 = m ∧ (fr + k) % 8 = m := ⟨(fr + k) % 8, by omega, rfl⟩
          have hixl : ix < s.size := by omega
          have hml : m < 8 := by omega
          rw [hix', hm'] at hfs
          have hcell := hcs ix (.int .u8 ((flipNums (bytesOf s) fr a2 k).getD ix 0)) (by simp [nums, List.getD_eq_getElem?_getD, List.getElem?_eq_getElem (show ix < (flipNums (bytesOf s) fr a2 k).length by omega)])
          have hfro := hfz ix (by rw [nums_length]; omega)
          have hset' := fun u => Aside0.mk (hset ix (.int .u8 u) (by rw [nums_length]; omega))
          clear hcs hfz hset hv2 hv3 hix' hm'
          go_wp2
          go_roundg k1
          case measure => omega
          case rel =>
            refine ⟨k + 1, by go_num, ⟨by have := HK.out; omega⟩, ⟨?_⟩, ⟨HB.out.setCell (by exact hgb) _⟩⟩
            rw [hfs.out]
            have hh := (hset' (Go.bits .xor .u8 ((flipNums (bytesOf s) fr a2 k).getD ix 0) (2 ^ m))).out
            rw [nums_set] at hh
            have e2 : (2 : Int) ^ m % 256 = 2 ^ m := by
              have h8 : m = 0 ∨ m = 1 ∨ m = 2 ∨ m = 3 ∨ m = 4 ∨ m = 5 ∨ m = 6 ∨ m = 7 := by omega
              rcases h8 with h8 | h8 | h8 | h8 | h8 | h8 | h8 | h8 <;> rw [h8] <;> rfl
            have e1 : (flipNums (bytesOf s) fr a2 k)[ix]'(by omega) = (flipNums (bytesOf s) fr a2 k).getD ix 0 := by rw [List.getD_eq_getElem?_getD, List.getElem?_eq_getElem (by omega)]; rfl
            rw [e2, e1]
            exact hh
        · have hb1 : (a2 / 2 ^ k % 2 == 1) = false := by simpa using hbit
          have hfs := Aside0.mk (show flipNums (bytesOf s) fr a2 (k + 1) = flipNums (bytesOf s) fr a2 k by rw [flipNums, if_neg hbit])
          go_wp2
          go_roundg k1
          case measure => omega
          case rel => exact ⟨k + 1, by go_num, ⟨by have := HK.out; omega⟩, ⟨by rw [hfs.out]; exact HG.out⟩, HB⟩

/-- THE ONE PURE STATEMENT of forebaylaw02_SealBurst: yours. -/
def forebaylaw02_SealBurst.Pure : Prop := ∀ (a0 : ByteArray) (a1 : Int) (a2 : Int), a0.size ≤ 140737488351232 → (Lit.int .u32 a1).wf = true → (Lit.int .u64 a2).wf = true → forebaylaw02_SealBurst.f a0 a1 a2 = some true
theorem forebaylaw02_SealBurst.walk (P : forebaylaw02_SealBurst.Pure) (a0 : ByteArray) (a1 : Int) (a2 : Int) (w : World) (w0 : a0.size ≤ 140737488351232) (w1 : (Lit.int .u32 a1).wf = true) (w2 : (Lit.int .u64 a2).wf = true) :
    Calls Try.prog 4 #[.string a0, .int .u32 a1, .int .u64 a2] w fun e w' => e = .returned (.bool true) ∧ Below w.heap.size w w' := by
  have h := P a0 a1 a2 w0 w1 w2
  refine (forebaylaw02_SealBurst.calls a0 a1 a2 true w h).mono ?_
  rintro e w' ⟨rfl, hd⟩
  exact ⟨rfl, hd⟩

end Go.Proofs.Ytnpppcfbnomjiaa.P
