-- Written by this session's program gprint.py: functions of the program as plain functions, and that the machine does what they say. Not trusted: Lean checks it.
import Derived.Test.YtphmejgipjcppaaPx0
namespace Go.Proofs.Ytphmejgipjcppaa.P
open Go.RowKit Go.Proofs.YtphmejgipjcppaaW.PrintWords Go.Proofs.YtphmejgipjcppaaW.PrintLast Go.Proofs.YtphmejgipjcppaaW.PrintMore
attribute [local go_sem] max2_int min2_int max_two min_two max_three min_three max_four min_four   -- for this text's walks alone
set_option linter.unusedVariables false
set_option linter.unusedSimpArgs false

/-! ### pack_Open: function 7 -/
/-- A reader as it lies: its text, is it fine, and how it gives up. -/
def RdAt (W : World) (b : Nat) (s : ByteArray) (f : Bool) : Prop := BoxN W b 43 [.string s, .bool f, .func (.func 18) #[.pointer (some ⟨b, 0, none⟩)] #[]]
namespace RdAt
variable {W W' : World} {b : Nat} {s : ByteArray} {f : Bool}
theorem c0 (h : RdAt W b s f) : W.cell? ⟨b, 0, none⟩ = some (.string s) := BoxN.cell h 0 rfl
theorem c1 (h : RdAt W b s f) : W.cell? ⟨b, 1, none⟩ = some (.bool f) := BoxN.cell h 1 rfl
theorem c2 (h : RdAt W b s f) : W.cell? ⟨b, 2, none⟩ = some (.func (.func 18) #[.pointer (some ⟨b, 0, none⟩)] #[]) := BoxN.cell h 2 rfl
theorem f0 (h : RdAt W b s f) (i : Nat) : W.frozen? ⟨b, i, none⟩ = false := BoxN.frozen h i
theorem lt (h : RdAt W b s f) : b < W.heap.size := BoxN.lt h
theorem keeps {K : Nat → Prop} (h : RdAt W b s f) (hk : Keeps K W W') (hb : K b) : RdAt W' b s f := hk.boxN h hb
theorem below {n : Nat} (h : RdAt W b s f) (hb : Below n W W') (hn : b < n) : RdAt W' b s f := BoxN.below h hb hn
theorem alloc (h : RdAt W b s f) (o : Obj) : RdAt (W.alloc o) b s f := h.below ((Below.refl W.heap.size W).alloc (Nat.le_refl _) o) h.lt
theorem belowS (h : RdAt W b s f) (hb : Below W.heap.size W W') : RdAt W' b s f := h.below hb h.lt
theorem drewN (h : RdAt W b s f) (n : Nat) : RdAt (W.drewN n) b s f := h
end RdAt
theorem pack_Open_calls (s : ByteArray) (w : World) : Calls Try.prog 7 #[.string s] w fun e w' => e = .returned (.pointer (some ⟨w.heap.size, 0, none⟩)) ∧ RdAt w' w.heap.size s true ∧ Below w.heap.size w w' := by
  have hmf : ∀ (fn : Fn) (first cap : Array Value) (w : World), (Instr.makeFunc fn first cap).run Try.prog w = .ok (.func fn first cap) w := fun _ _ _ _ => rfl
  go_enter Try.func7, Try.ntmps7
  have hst : ∀ (a : Addr) (fn : Fn) (fi ca : Array Value) (w : World), (store a (.func fn fi ca)).run Try.prog w = stored Try.prog w a (.func fn fi ca) .plain := fun a fn fi ca w => run_store _ w a _ _ rfl
  go_wp2
  go_ret
  exact ⟨rfl, BoxN.new w _ [_, _, _], (Below.refl _ w).alloc (Nat.le_refl _) _⟩
theorem pack_fail_calls (b : Nat) (s : ByteArray) (f : Bool) (w : World) (h : RdAt w b s f) : Calls Try.prog 18 #[.pointer (some ⟨b, 0, none⟩)] w fun e w' => e = .returned (.tuple #[]) ∧ RdAt w' b ⟨#[]⟩ false ∧ Keeps (fun k => k ≠ b) w w' := by
  have hc1 := h.c1
  have hf1 := h.f0 1
  have h1 := BoxN.set h 1 (.bool false)
  have hc0 := h1.cell 0 rfl
  have hf0 := h1.frozen 0
  have h2 := h1.set 0 (.string ⟨#[]⟩)
  have hk := ((Keeps.refl (fun k => k ≠ b) w).setCell (p := ⟨b, 1, none⟩) (.bool false) (fun h => h.2 rfl)).setCell (p := ⟨b, 0, none⟩) (.string ⟨#[]⟩) (fun h => h.2 rfl)
  replace h2 := Aside0.mk h2
  replace hk := Aside0.mk hk
  clear h h1
  go_enter Try.func18, Try.ntmps18
  go_wp2
  go_end0
  exact ⟨rfl, h2.out, hk.out⟩
theorem pack_Fine_calls (b : Nat) (s : ByteArray) (f : Bool) (w : World) (h : RdAt w b s f) : Calls Try.prog 11 #[.pointer (some ⟨b, 0, none⟩)] w fun e w' => e = .returned (.bool f) ∧ w = w' := by
  have hc := h.c1
  have hf := h.f0 1
  go_enter Try.func11, Try.ntmps11
  go_wp2
  go_ret
  exact ⟨rfl, rfl⟩
theorem pack_Over_calls (b : Nat) (s : ByteArray) (f : Bool) (w : World) (h : RdAt w b s f) : Calls Try.prog 12 #[.pointer (some ⟨b, 0, none⟩)] w fun e w' => e = .returned (.bool (f && s.toList.isEmpty)) ∧ w = w' := by
  have hc := h.c0
  have hf := h.f0 0
  have H := Aside0.mk h
  clear h
  cases f
  all_goals
    go_enter Try.func12, Try.ntmps12
    go_wp2_with (go_at_call 11; with_reducible refine (pack_Fine_calls b s _ _ H.out).mono ?_; rintro e w1 ⟨rfl, rfl⟩)
    go_ret
    exact ⟨rfl, rfl⟩
theorem pack_next_calls (b : Nat) (w : World) : Calls Try.prog 19 #[.pointer (some ⟨b, 0, none⟩)] w fun e w' => e = .returned (.func (.func 27) #[] #[.pointer (some ⟨w.heap.size + 1, 0, none⟩), .pointer (some ⟨w.heap.size, 0, none⟩)]) ∧ w' = (w.alloc (.cells #[.pointer (some ⟨b, 0, none⟩)] 23)).alloc (.cells #[.int .i64 0] 3) := by
  have hmf : ∀ (fn : Fn) (first cap : Array Value) (w : World), (Instr.makeFunc fn first cap).run Try.prog w = .ok (.func fn first cap) w := fun _ _ _ _ => rfl
  go_enter Try.func19, Try.ntmps19
  go_wp2
  go_ret
  exact ⟨rfl, rfl⟩
theorem pack_next1_some (b B0 B1 : Nat) (s : ByteArray) (f : Bool) (at_ : Nat) (w : World) (h0 : Boxed w B0 23 (.pointer (some ⟨b, 0, none⟩))) (h1 : Boxed w B1 3 (.int .i64 at_)) (hr : RdAt w b s f) (hlt : at_ < s.size) (hs : s.size ≤ 140737488351232) (hne : B0 ≠ B1) (hne2 : b ≠ B1) :
    Calls Try.prog 27 #[.pointer (some ⟨B1, 0, none⟩), .pointer (some ⟨B0, 0, none⟩)] w fun e w' => e = .returned (.tuple #[.int .u8 (s[at_].toNat : Int), .bool true]) ∧ Boxed w' B1 3 (.int .i64 ((at_ + 1 : Nat) : Int)) ∧ Keeps (fun k => k ≠ B1) w w' := by
  have hc0 := h0.cell
  have hf0 := h0.frozen
  have hc1 := h1.cell
  have hf1 := h1.frozen
  have hcr := hr.c0
  have hfr := hr.f0 0
  have hK := Aside0.mk ((Keeps.refl (fun k => k ≠ B1) w).setCell (p := ⟨B1, 0, none⟩) (Value.int .i64 ((at_ : Int) + 1)) (fun h => h.2 rfl))
  have hcr2 := (hr.keeps hK.out hne2).c0
  have hc02 := (hK.out.boxed h0 hne).cell
  have hc12 := (h1.set (Value.int .i64 ((at_ : Int) + 1))).cell
  have hB1 := Aside0.mk (h1.set (Value.int .i64 ((at_ : Int) + 1)))
  have hne3 : ((at_ : Int) == (s.size : Int)) = false := beq_eq_false_iff_ne.mpr (by omega)
  have hne4 : (at_ == s.size) = false := beq_eq_false_iff_ne.mpr (by omega)
  clear h0 h1 hr
  go_enter Try.func27, Try.ntmps27
  go_wp2
  go_quiet (fail)
  go_wp2
  go_quiet (fail)
  go_wp2
  go_ret2
  exact ⟨rfl, hB1.out, ⟨hK.out.os, hK.out.tape, hK.out.output, hK.out.size, hK.out.block⟩⟩
theorem pack_next1_none (b B0 B1 : Nat) (s : ByteArray) (f : Bool) (w : World) (h0 : Boxed w B0 23 (.pointer (some ⟨b, 0, none⟩))) (h1 : Boxed w B1 3 (.int .i64 s.size)) (hr : RdAt w b s f) :
    Calls Try.prog 27 #[.pointer (some ⟨B1, 0, none⟩), .pointer (some ⟨B0, 0, none⟩)] w fun e w' => e = .returned (.tuple #[.int .u8 0, .bool false]) ∧ ∃ n, w' = w.drewN n := by
  have hc0 := h0.cell
  have hf0 := h0.frozen
  have hc1 := h1.cell
  have hf1 := h1.frozen
  have hcr := hr.c0
  have hfr := hr.f0 0
  clear h0 h1 hr
  go_enter Try.func27, Try.ntmps27
  go_wp2
  go_quiet (fail)
  go_wp2
  go_ret2
  exact ⟨rfl, _, rfl⟩

/-! ### pack_Reader_Num: function 9 -/
/-- The number that stands at the beginning of bytes, and how many it has; k of them are read. -/
def rdNum : Nat → List Int → Int → Option (Int × Nat)
  | _, [], _ => none
  | k, c :: r, acc => if k = 9 ∧ 1 < c then none else if 128 ≤ c then rdNum (k + 1) r (acc + c % 128 * 128 ^ k) else if c = 0 ∧ 0 < k then none else some (acc + c * 128 ^ k, k + 1)
/-- What a reader's Num tells, and leaves. -/
def numS (s : ByteArray) (f : Bool) : Int × ByteArray × Bool :=
  if f = true then (match rdNum 0 (bytesOf s) 0 with | some (n, k) => (n, s.extract k s.size, true) | none => (0, ⟨#[]⟩, false)) else (0, s, false)
theorem numS_none {s : ByteArray} (h : rdNum 0 (bytesOf s) 0 = none) : numS s true = (0, ⟨#[]⟩, false) := by
  unfold numS
  rw [if_pos rfl, h]
theorem numS_some {s : ByteArray} {n : Int} {k : Nat} (h : rdNum 0 (bytesOf s) 0 = some (n, k)) : numS s true = (n, s.extract k s.size, true) := by
  unfold numS
  rw [if_pos rfl, h]
theorem pow128 (k : Nat) (h : k ≤ 8) : (128 : Int) ^ k ≤ 72057594037927936 := by
  have key : ∀ k : Fin 9, (128 : Int) ^ k.val ≤ 72057594037927936 := by decide
  exact key ⟨k, by omega⟩
set_option maxRecDepth 100000 in
theorem andNot_byte (c : Int) (h0 : 0 ≤ c) (h1 : c ≤ 255) : bits BinOp.andNot IntKind.u8 c 128 = c % 128 := by
  have key : ∀ n : Fin 256, bits BinOp.andNot IntKind.u8 ((n.val : Nat) : Int) 128 = ((n.val : Nat) : Int) % 128 := by decide
  have h3 := key ⟨c.toNat, by omega⟩
  rw [show ((c.toNat : Nat) : Int) = c by omega] at h3
  exact h3
theorem u64_id {x : Int} (h0 : 0 ≤ x) (h1 : x < 18446744073709551616) : IntKind.u64.wrap x = x := by
  unfold IntKind.wrap
  simp only [IntKind.bits, IntKind.signed, Bool.false_and, Bool.false_eq_true, if_false]
  omega
theorem pow7 (k : Nat) : (2 : Int) ^ (7 * k) = 128 ^ k := by rw [Int.pow_mul]; rfl
theorem or_high (a d : Int) (k : Nat) (h0 : 0 ≤ a) (h1 : a < 128 ^ k) (h2 : 0 ≤ d) (h3 : a + d * 128 ^ k < 18446744073709551616) : bits .or .u64 a (d * 128 ^ k) = a + d * 128 ^ k := by
  have hp : (0 : Int) < 128 ^ k := Int.pow_pos (by omega)
  have hm : 0 ≤ d * 128 ^ k := Int.mul_nonneg h2 (Int.le_of_lt hp)
  obtain ⟨an, rfl⟩ := Int.eq_ofNat_of_zero_le h0
  obtain ⟨dn, rfl⟩ := Int.eq_ofNat_of_zero_le h2
  have e : ((dn : Nat) : Int) * 128 ^ k = ((2 ^ (7 * k) * dn : Nat) : Int) := by rw [← pow7]; push_cast; rw [Int.mul_comm]
  rw [e] at h3 hm ⊢
  rw [← pow7] at h1
  have h1' : an < 2 ^ (7 * k) := by exact_mod_cast h1
  show IntKind.u64.wrap (((BitVec.ofInt 64 ((an : Nat) : Int) ||| BitVec.ofInt 64 ((2 ^ (7 * k) * dn : Nat) : Int)).toNat : Nat) : Int) = _
  rw [BitVec.toNat_or, BitVec.toNat_ofInt, BitVec.toNat_ofInt]
  have e1 : ((an : Int) % ((2 ^ 64 : Nat) : Int)).toNat = an := by omega
  have e2 : (((2 ^ (7 * k) * dn : Nat) : Int) % ((2 ^ 64 : Nat) : Int)).toNat = 2 ^ (7 * k) * dn := by omega
  rw [e1, e2, Nat.or_comm, ← Nat.two_pow_add_eq_or_of_lt h1', u64_id (by omega) (by omega)]
  omega
set_option maxHeartbeats 4000000 in
theorem pack_RNum_calls (b : Nat) (s : ByteArray) (f : Bool) (w : World) (h : RdAt w b s f) (hs : s.size ≤ 140737488351232) : Calls Try.prog 9 #[.pointer (some ⟨b, 0, none⟩)] w fun e w' => e = .returned (.int .u64 (numS s f).1) ∧ RdAt w' b (numS s f).2.1 (numS s f).2.2 ∧ Keeps (fun k => k ≠ b) w w' := by
  have HR := Aside0.mk h
  have hblt := h.lt
  clear h
  cases f with
  | false =>
    go_enter Try.func9, Try.ntmps9
    go_wp2_with (go_at_call 11; with_reducible refine (pack_Fine_calls b s false _ HR.out).mono ?_; rintro e w1 ⟨rfl, rfl⟩)
    go_ret
    exact ⟨rfl, HR.out, Keeps.refl _ _⟩
  | true =>
    obtain ⟨H, hH⟩ : ∃ H, w.heap.size = H := ⟨_, rfl⟩
    have hl1 : (bytesOf s).length = s.size := bytesOf_length s
    obtain ⟨l, hl⟩ : ∃ l, l = bytesOf s := ⟨_, rfl⟩
    rw [← hl] at hl1
    obtain ⟨R, hR⟩ : ∃ R, R = rdNum 0 l 0 := ⟨_, rfl⟩
    have none_way : Aside0 (R = none → numS s true = (0, ⟨#[]⟩, false)) := ⟨fun e => numS_none (by rw [← hl, ← hR]; exact e)⟩
    have some_way : Aside0 (∀ n m, R = some (n, m) → numS s true = (n, s.extract m s.size, true)) := ⟨fun n m e => numS_some (by rw [← hl, ← hR]; exact e)⟩
    have hgl := Aside0.mk (show ∀ k (hk : k < s.size), l.drop k = (s[k].toNat : Int) :: l.drop (k + 1) from fun k hk => by
      rw [List.drop_eq_getElem_cons (by omega)]
      congr 1
      subst hl
      simp [bytesOf]
      rfl)
    replace hl := Aside0.mk hl
    replace hl1 := Aside0.mk hl1
    replace hR := Aside0.mk hR
    go_enter Try.func9, Try.ntmps9
    go_wp2_with (first | (go_at_call 11; with_reducible refine (pack_Fine_calls b s true _ HR.out).mono ?_; rintro e w1 ⟨rfl, rfl⟩) | (go_at_call 19; with_reducible refine (pack_next_calls b _).mono ?_; rintro e w1 ⟨rfl, hw1⟩; replace hw1 := Aside0.mk hw1))
    have HS0 : Aside0 (RdAt w1 b s true ∧ Boxed w1 H 23 (.pointer (some ⟨b, 0, none⟩)) ∧ Boxed w1 (H + 1) 3 (.int .i64 ((0 : Nat) : Int)) ∧ Keeps (fun k => k ≠ b ∧ k < H) w w1) := by
      subst hH
      rw [hw1.out]
      have hk := ((Keeps.refl (fun k => k < w.heap.size) w).alloc (.cells #[.pointer (some ⟨b, 0, none⟩)] 23)).alloc (.cells #[.int .i64 0] 3)
      refine ⟨HR.out.keeps hk hblt, (Boxed.new w 23 (.pointer (some ⟨b, 0, none⟩))).alloc _, ?_, hk.mono (fun _ _ h => h.2)⟩
      have := Boxed.new (w.alloc (.cells #[.pointer (some ⟨b, 0, none⟩)] 23)) 3 (.int .i64 0)
      rwa [World.size_alloc] at this
    clear hw1
    go_loopg [4, 14] 10 (fun kq v4 v14 W => ∃ (k : Nat) (acc : Int), v14 = .int .i64 k ∧ v4 = .int .u64 acc ∧ Aside0 (kq + k = 10) ∧ Aside0 (k ≤ 9 ∧ k ≤ s.size) ∧ Aside0 (0 ≤ acc ∧ acc < 128 ^ k) ∧ Aside0 (rdNum k (l.drop k) acc = R) ∧ Aside0 (RdAt W b s true ∧ Boxed W H 23 (.pointer (some ⟨b, 0, none⟩)) ∧ Boxed W (H + 1) 3 (.int .i64 (k : Int)) ∧ Keeps (fun k => k ≠ b ∧ k < H) w W))
    case atStart => exact ⟨0, 0, rfl, rfl, ⟨rfl⟩, ⟨by omega⟩, ⟨by omega⟩, ⟨by rw [List.drop_zero]; exact hR.out.symm⟩, HS0⟩
    case round =>
      clear HS0
      obtain ⟨k, acc, rfl, rfl, HK, HK9, HA, HRd, HS⟩ := hrel
      cases gk with
      | zero => exfalso; have := HK.out; have := HK9.out; omega
      | succ k1 =>
        obtain ⟨hk9, hks⟩ := HK9.out
        obtain ⟨hS1, hS2, hS3, hS4⟩ := HS.out
        have hd10 : decide ((k : Int) < 10) = true := decide_eq_true (by omega)
        have hd10n : decide (k < 10) = true := decide_eq_true (by omega)
        rcases Nat.lt_or_ge k s.size with hlt | hge
        · have hdrop := hgl.out k hlt
          have hc0 : 0 ≤ (s[k].toNat : Int) := by omega
          have hc255 : (s[k].toNat : Int) ≤ 255 := by have := s[k].toNat_lt; omega
          have hcall := Aside0.mk (pack_next1_some b H (H + 1) s true k _ hS2 hS3 hS1 hlt hs (by omega) (by omega))
          generalize (s[k].toNat : Int) = c at *
          have HRd2 := HRd.out
          rw [hdrop, rdNum] at HRd2
          obtain ⟨lo, hlo⟩ : ∃ lo, lo = c % 128 := ⟨_, rfl⟩
          have e1 : IntKind.u64.wrap (bits BinOp.andNot IntKind.u8 c 128) = lo := by rw [andNot_byte c hc0 hc255, u64_id (by omega) (by omega), hlo]
          obtain ⟨acc2, hacc2⟩ : ∃ acc2, acc2 = bits .or .u64 acc (IntKind.u64.wrap (lo * 2 ^ (7 * k))) := ⟨_, rfl⟩
          have hp : (0 : Int) < 128 ^ k := Int.pow_pos (by omega)
          have hacc3 : ¬ (k = 9 ∧ 1 < c) → acc2 = acc + lo * 128 ^ k ∧ 0 ≤ acc2 ∧ acc2 < 128 ^ (k + 1) := by
            intro hn
            have hsm : acc + lo * 128 ^ k < 18446744073709551616 ∧ 0 ≤ lo * 128 ^ k ∧ acc + lo * 128 ^ k < 128 ^ (k + 1) := by
              have ha := HA.out
              have hm : lo * 128 ^ k ≤ 127 * 128 ^ k := Int.mul_le_mul_of_nonneg_right (by omega) (Int.le_of_lt hp)
              have hm0 : 0 ≤ lo * 128 ^ k := Int.mul_nonneg (by omega) (Int.le_of_lt hp)
              have hps : (128 : Int) ^ (k + 1) = 128 ^ k * 128 := Int.pow_succ ..
              refine ⟨?_, hm0, by omega⟩
              by_cases h9 : k = 9
              · have hc1 : c ≤ 1 := by have := fun h => hn ⟨h9, h⟩; omega
                subst h9
                have : lo ≤ 1 := by omega
                have h9p : (128 : Int) ^ 9 = 9223372036854775808 := by decide
                rw [h9p] at ha ⊢
                omega
              · have h8 := pow128 k (by omega)
                omega
            rw [hacc2, pow7, u64_id hsm.2.1 (by have := HA.out; omega), or_high acc lo k HA.out.1 HA.out.2 (by omega) hsm.1]
            have := HA.out
            exact ⟨rfl, by omega, hsm.2.2⟩
          have e2 := hacc2.symm
          replace hacc3 := Aside0.mk hacc3
          replace hlo := Aside0.mk hlo
          replace HRd2 := Aside0.mk HRd2
          clear hacc2 hdrop hp
          have hfin : Aside0 (∀ {W0 W2 W3 : World}, Keeps (fun k => k ≠ b ∧ k < H) w W0 → Keeps (fun k => k ≠ H + 1) W0 W2 → Keeps (fun k => k ≠ b) W2 W3 → Keeps (fun k => k ≠ b) w W3) := ⟨fun a1 a2 a3 => by
            have h1 := (a1.trans (a2.mono (fun k _ h => by omega))).trans (a3.mono (fun k _ h => h.1))
            exact h1.mono (fun k hk h => ⟨h, by omega⟩)⟩
          by_cases w1 : k = 9 ∧ 1 < c
          · have hR0 : R = none := by have := HRd2.out; rw [if_pos w1] at this; exact this.symm
            have hv := Aside0.mk (none_way.out hR0)
            have hq1 : ((k : Int) == 9) = true := beq_iff_eq.mpr (by omega)
            have hq2 : decide (1 < c) = true := decide_eq_true w1.2
            clear w1 hR0 e2
            go_wp2_with (first | (go_at_call 27; with_reducible refine hcall.out.mono ?_; rintro e w2 ⟨rfl, hB2, hK2⟩; have hS1' := hS1.keeps hK2 (by omega); have hcc2 := hS1'.c2; replace hS1' := Aside0.mk hS1'; replace hK2 := Aside0.mk hK2; clear hB2) | (go_at_call 18; with_reducible refine (pack_fail_calls b s true _ hS1'.out).mono ?_; rintro e w3 ⟨rfl, hS3', hK3⟩; replace hS3' := Aside0.mk hS3'; replace hK3 := Aside0.mk hK3))
            go_ret
            rw [hv.out]
            exact ⟨rfl, hS3'.out, hfin.out hS4 hK2.out hK3.out⟩
          · by_cases w2 : 128 ≤ c
            · have hk8 : k ≤ 8 := by
                rcases Nat.lt_or_ge 8 k with h | h
                · exfalso; exact w1 ⟨by omega, by omega⟩
                · exact h
              have hnx := HRd2.out
              rw [if_neg w1, if_pos w2] at hnx
              have ha3 := hacc3.out w1
              rw [← hlo.out, ← ha3.1] at hnx
              replace hnx := Aside0.mk hnx
              replace ha3 := Aside0.mk ha3.2
              have hq1 : ((k : Int) == 9) = false := beq_eq_false_iff_ne.mpr (by omega)
              have hq3 : decide (128 ≤ c) = true := decide_eq_true w2
              have hq4 : decide (9 < (k : Int)) = false := decide_eq_false (by omega)
              go_wp2_with (first | (go_at_call 27; with_reducible refine hcall.out.mono ?_; rintro e w2 ⟨rfl, hB2, hK2⟩; have hS1' := hS1.keeps hK2 (by omega); have hcc2 := hS1'.c2; have hcc0 := hS1'.c0; have hff0 := hS1'.f0 0; replace hS1' := Aside0.mk hS1'; replace hK2 := Aside0.mk hK2; replace hB2 := Aside0.mk hB2) | fail)
              go_roundg k1
              case measure => omega
              case rel =>
                exact ⟨k + 1, acc2, by go_num, rfl, ⟨by have := HK.out; omega⟩, ⟨by omega⟩, ⟨ha3.out⟩, ⟨hnx.out⟩, ⟨hS1'.out, hK2.out.boxed hS2 (by omega), hB2.out, hS4.trans (hK2.out.mono (fun k _ h => by omega))⟩⟩
            · have hq3 : decide (128 ≤ c) = false := decide_eq_false w2
              have hq1 : ((k : Int) == 9 && decide (1 < c)) = false := by
                cases h : ((k : Int) == 9) with
                | false => rfl
                | true => have := beq_iff_eq.1 h; exact decide_eq_false (fun h2 => w1 ⟨by omega, h2⟩)
              have hlc : lo = c := by rw [hlo.out]; omega
              by_cases w3 : c = 0 ∧ 0 < k
              · have hR0 : R = none := by have := HRd2.out; rw [if_neg w1, if_neg w2, if_pos w3] at this; exact this.symm
                have hv := Aside0.mk (none_way.out hR0)
                have hq5 : (lo == 0) = true := beq_iff_eq.mpr (by omega)
                have hq6 : decide (0 < (k : Int)) = true := decide_eq_true (by omega)
                have hq7 : decide (0 < k) = true := decide_eq_true w3.2
                have hq8 : decide (1 < c) = false := decide_eq_false (by omega)
                clear w1 hR0 w3 hlc
                go_wp2_with (first | (go_at_call 27; with_reducible refine hcall.out.mono ?_; rintro e w2 ⟨rfl, hB2, hK2⟩; have hS1' := hS1.keeps hK2 (by omega); have hcc2 := hS1'.c2; have hcc0 := hS1'.c0; have hff0 := hS1'.f0 0; replace hS1' := Aside0.mk hS1'; replace hK2 := Aside0.mk hK2; replace hB2 := Aside0.mk hB2) | (go_at_call 18; with_reducible refine (pack_fail_calls b s true _ hS1'.out).mono ?_; rintro e w3 ⟨rfl, hS3', hK3⟩; replace hS3' := Aside0.mk hS3'; replace hK3 := Aside0.mk hK3))
                all_goals go_ret
                all_goals rw [hv.out]
                all_goals exact ⟨rfl, hS3'.out, hfin.out hS4 hK2.out hK3.out⟩
              · have hR0 := HRd2.out
                rw [if_neg w1, if_neg w2, if_neg w3] at hR0
                have ha3 := (hacc3.out w1).1
                rw [hlc] at ha3
                rw [← ha3] at hR0
                have hv := Aside0.mk (some_way.out _ _ hR0.symm)
                have hq6 : (k : Int) + 1 ≤ (s.size : Int) := by omega
                by_cases h9 : k = 9
                · have hq8 : decide (1 < c) = false := decide_eq_false (fun h => w1 ⟨h9, h⟩)
                  have hq9 : ((k : Int) == 9) = true := beq_iff_eq.mpr (by omega)
                  have hc1 : c ≠ 0 := fun h => w3 ⟨h, by omega⟩
                  have hq5 : (lo == 0) = false := beq_eq_false_iff_ne.mpr (by omega)
                  clear w1 w3 hlc ha3 hR0 h9 hq1
                  go_wp2_with (first | (go_at_call 27; with_reducible refine hcall.out.mono ?_; rintro e w2 ⟨rfl, hB2, hK2⟩; have hS1' := hS1.keeps hK2 (by omega); have hcc2 := hS1'.c2; have hcc0 := hS1'.c0; have hff0 := hS1'.f0 0; replace hS1' := Aside0.mk hS1'; replace hK2 := Aside0.mk hK2; replace hB2 := Aside0.mk hB2) | fail)
                  go_ret
                  rw [hv.out]
                  exact ⟨rfl, BoxN.set hS1'.out 0 _, hfin.out hS4 hK2.out ((Keeps.refl (fun k => k ≠ b) _).setCell _ (fun h => h.2 rfl))⟩
                · have hq9 : ((k : Int) == 9) = false := beq_eq_false_iff_ne.mpr (by omega)
                  by_cases h0 : c = 0
                  · have hk0 : k = 0 := by
                      rcases Nat.eq_zero_or_pos k with h | h
                      · exact h
                      · exact absurd ⟨h0, h⟩ w3
                    have hq5 : (lo == 0) = true := beq_iff_eq.mpr (by omega)
                    have hq6' : decide (0 < (k : Int)) = false := decide_eq_false (by omega)
                    have hq7 : decide (0 < k) = false := decide_eq_false (by omega)
                    clear w1 w3 hlc ha3 hR0 hk0 h0
                    go_wp2_with (first | (go_at_call 27; with_reducible refine hcall.out.mono ?_; rintro e w2 ⟨rfl, hB2, hK2⟩; have hS1' := hS1.keeps hK2 (by omega); have hcc2 := hS1'.c2; have hcc0 := hS1'.c0; have hff0 := hS1'.f0 0; replace hS1' := Aside0.mk hS1'; replace hK2 := Aside0.mk hK2; replace hB2 := Aside0.mk hB2) | fail)
                    go_ret
                    rw [hv.out]
                    exact ⟨rfl, BoxN.set hS1'.out 0 _, hfin.out hS4 hK2.out ((Keeps.refl (fun k => k ≠ b) _).setCell _ (fun h => h.2 rfl))⟩
                  · have hq5 : (lo == 0) = false := beq_eq_false_iff_ne.mpr (by omega)
                    clear w1 w3 hlc ha3 hR0
                    go_wp2_with (first | (go_at_call 27; with_reducible refine hcall.out.mono ?_; rintro e w2 ⟨rfl, hB2, hK2⟩; have hS1' := hS1.keeps hK2 (by omega); have hcc2 := hS1'.c2; have hcc0 := hS1'.c0; have hff0 := hS1'.f0 0; replace hS1' := Aside0.mk hS1'; replace hK2 := Aside0.mk hK2; replace hB2 := Aside0.mk hB2) | fail)
                    go_ret
                    rw [hv.out]
                    exact ⟨rfl, BoxN.set hS1'.out 0 _, hfin.out hS4 hK2.out ((Keeps.refl (fun k => k ≠ b) _).setCell _ (fun h => h.2 rfl))⟩
        · obtain rfl : k = s.size := by omega
          have hR0 : R = none := by have := HRd.out; rw [List.drop_of_length_le (by have := hl1.out; omega), rdNum] at this; exact this.symm
          have hv := Aside0.mk (none_way.out hR0)
          have hcall := Aside0.mk (pack_next1_none b H (H + 1) s true _ hS2 hS3 hS1)
          have hcc2 := hS1.c2
          clear hR0
          go_wp2_with (first | (go_at_call 27; with_reducible refine hcall.out.mono ?_; rintro e w2 ⟨rfl, hn⟩; obtain ⟨nq, rfl⟩ := hn) | (go_at_call 18; with_reducible refine (pack_fail_calls b s true _ (hS1.drewN _)).mono ?_; rintro e w3 ⟨rfl, hS3', hK3⟩; replace hS3' := Aside0.mk hS3'; replace hK3 := Aside0.mk hK3))
          go_ret
          rw [hv.out]
          exact ⟨rfl, hS3'.out, (hS4.trans ((Keeps.refl _ _).drewN _ |>.trans (hK3.out.mono (fun k _ h => h.1)))).mono (fun k hk h => ⟨h, by omega⟩)⟩

/-! ### pack_Reader_Int: function 16 -/
theorem rdNum_range (l : List Int) : ∀ (k : Nat) (acc n : Int) (m : Nat), (∀ c ∈ l, 0 ≤ c ∧ c ≤ 255) → k ≤ 9 → 0 ≤ acc → acc < 128 ^ k → rdNum k l acc = some (n, m) → 0 ≤ n ∧ n < 18446744073709551616 ∧ k < m ∧ m ≤ k + l.length := by
  induction l with
  | nil => intro k acc n m _ _ _ _ h; rw [rdNum] at h; cases h
  | cons c r ih =>
    intro k acc n m hb hk h0 h1 h
    rw [rdNum] at h
    obtain ⟨hc0, hc1⟩ := hb c List.mem_cons_self
    have hp : (0 : Int) < 128 ^ k := Int.pow_pos (by omega)
    have hps : (128 : Int) ^ (k + 1) = 128 ^ k * 128 := Int.pow_succ ..
    by_cases w1 : k = 9 ∧ 1 < c
    · rw [if_pos w1] at h; cases h
    rw [if_neg w1] at h
    by_cases w2 : 128 ≤ c
    · rw [if_pos w2] at h
      have hm : c % 128 * 128 ^ k ≤ 127 * 128 ^ k := Int.mul_le_mul_of_nonneg_right (by omega) (Int.le_of_lt hp)
      have hm0 : 0 ≤ c % 128 * 128 ^ k := Int.mul_nonneg (by omega) (Int.le_of_lt hp)
      have hk9 : k ≠ 9 := fun e => w1 ⟨e, by omega⟩
      obtain ⟨a1, a2, a3, a4⟩ := ih (k + 1) _ n m (fun x hx => hb x (List.mem_cons_of_mem _ hx)) (by omega) (by omega) (by omega) h
      rw [List.length_cons]
      exact ⟨a1, a2, by omega, by omega⟩
    rw [if_neg w2] at h
    by_cases w3 : c = 0 ∧ 0 < k
    · rw [if_pos w3] at h; cases h
    rw [if_neg w3] at h
    injection h with h
    injection h with e1 e2
    have hm : c * 128 ^ k ≤ 127 * 128 ^ k := Int.mul_le_mul_of_nonneg_right (by omega) (Int.le_of_lt hp)
    have hm0 : 0 ≤ c * 128 ^ k := Int.mul_nonneg hc0 (Int.le_of_lt hp)
    rw [List.length_cons]
    refine ⟨by omega, ?_, by omega, by omega⟩
    by_cases h9 : k = 9
    · have hc2 : c ≤ 1 := by have := fun h => w1 ⟨h9, h⟩; omega
      subst h9
      have h9p : (128 : Int) ^ 9 = 9223372036854775808 := by decide
      rw [h9p] at h1 e1
      omega
    · have h8 := pow128 k (by omega)
      omega
theorem bytesOf_range (s : ByteArray) : ∀ c ∈ bytesOf s, 0 ≤ c ∧ c ≤ 255 := by
  intro c hc
  unfold bytesOf at hc
  obtain ⟨x, _, rfl⟩ := List.mem_map.1 hc
  have := x.toNat_lt
  omega
theorem numS_range (s : ByteArray) (f : Bool) : 0 ≤ (numS s f).1 ∧ (numS s f).1 < 18446744073709551616 ∧ (numS s f).2.1.size ≤ s.size ∧ ((numS s f).2.2 = false → (numS s f).1 = 0) := by
  cases f with
  | false => simp [numS]
  | true =>
    cases h : rdNum 0 (bytesOf s) 0 with
    | none => rw [numS_none h]; exact ⟨by decide, by decide, Nat.zero_le _, fun _ => rfl⟩
    | some p =>
      obtain ⟨n, m⟩ := p
      rw [numS_some h]
      obtain ⟨a1, a2, a3, a4⟩ := rdNum_range _ 0 0 n m (bytesOf_range s) (by omega) (by omega) (by decide) h
      exact ⟨a1, a2, by simp, fun h => by cases h⟩
/-- The signed number of a folded one. -/
def unfoldT (n : Int) : Int := if n % 2 = 0 then n / 2 else -(n / 2) - 1
theorem and_one (n : Int) (h0 : 0 ≤ n) (h1 : n < 18446744073709551616) : bits .and .u64 n 1 = n % 2 := by
  show IntKind.u64.wrap (((BitVec.ofInt 64 n &&& BitVec.ofInt 64 1).toNat : Nat) : Int) = _
  rw [BitVec.toNat_and, BitVec.toNat_ofInt, show (BitVec.ofInt 64 1).toNat = 1 from rfl, Nat.and_one_is_mod]
  rw [u64_id (by omega) (by omega)]
  omega
theorem i64_wrap (x : Int) : IntKind.i64.wrap x = if x % 18446744073709551616 ≥ 9223372036854775808 then x % 18446744073709551616 - 18446744073709551616 else x % 18446744073709551616 := by
  simp [IntKind.wrap, IntKind.bits, IntKind.signed]
theorem xor_zero64 (k : IntKind) (hk : k = .i64 ∨ k = .u64) (a : Int) (h0 : 0 ≤ a) (h1 : a < 9223372036854775808 ∨ k = .u64 ∧ a < 18446744073709551616) : bits .xor k a 0 = a := by
  have key : (BitVec.ofInt 64 a ^^^ BitVec.ofInt 64 0).toNat = a.toNat := by
    rw [show BitVec.ofInt 64 0 = 0#64 from rfl, BitVec.xor_zero, BitVec.toNat_ofInt]
    omega
  rcases hk with rfl | rfl
  · show IntKind.i64.wrap (((BitVec.ofInt 64 a ^^^ BitVec.ofInt 64 0).toNat : Nat) : Int) = _
    rw [key, i64_wrap]
    have : a < 9223372036854775808 := by
      rcases h1 with h | ⟨h, _⟩
      · exact h
      · cases h
    split <;> omega
  · show IntKind.u64.wrap (((BitVec.ofInt 64 a ^^^ BitVec.ofInt 64 0).toNat : Nat) : Int) = _
    rw [key, u64_id (by omega) (by omega)]
    omega
theorem xor_ones64 (y : Int) (hy : BitVec.ofInt 64 y = BitVec.allOnes 64) (a : Int) (h0 : 0 ≤ a) (h1 : a < 18446744073709551616) : (BitVec.ofInt 64 a ^^^ BitVec.ofInt 64 y).toNat = 18446744073709551615 - a.toNat := by
  rw [hy, BitVec.xor_allOnes, BitVec.toNat_not, BitVec.toNat_ofInt]
  omega
theorem unfold_eq (n : Int) (h0 : 0 ≤ n) (h1 : n < 18446744073709551616) : bits BinOp.xor IntKind.i64 (n / 2) (wrap64 (-wrap64 (bits BinOp.and IntKind.u64 n 1))) = unfoldT n := by
  rw [and_one n h0 h1]
  unfold unfoldT
  by_cases h : n % 2 = 0
  · rw [if_pos h, h, show wrap64 (-wrap64 0) = 0 from by unfold wrap64; omega]
    exact xor_zero64 .i64 (.inl rfl) _ (by omega) (.inl (by omega))
  · rw [if_neg h, show n % 2 = 1 by omega, show wrap64 (-wrap64 1) = -1 from by unfold wrap64; omega]
    show IntKind.i64.wrap (((BitVec.ofInt 64 (n / 2) ^^^ BitVec.ofInt 64 (-1)).toNat : Nat) : Int) = _
    rw [xor_ones64 (-1) (by decide) _ (by omega) (by omega), i64_wrap]
    split <;> omega
theorem pack_RInt_calls (b : Nat) (s : ByteArray) (f : Bool) (w : World) (h : RdAt w b s f) (hs : s.size ≤ 140737488351232) : Calls Try.prog 16 #[.pointer (some ⟨b, 0, none⟩)] w fun e w' => e = .returned (.int .i64 (unfoldT (numS s f).1)) ∧ RdAt w' b (numS s f).2.1 (numS s f).2.2 ∧ Keeps (fun k => k ≠ b) w w' := by
  have HC := Aside0.mk (pack_RNum_calls b s f w h hs)
  obtain ⟨r0, r1, r2, r3⟩ := numS_range s f
  clear r2 r3
  generalize numS s f = p at *
  obtain ⟨n, s1, f1⟩ := p
  dsimp only at r0 r1 ⊢
  go_enter Try.func16, Try.ntmps16
  go_wp2_with (go_at_call 9; with_reducible refine HC.out.mono ?_; rintro e w1 ⟨rfl, hR, hK⟩; dsimp only at hR ⊢; replace hR := Aside0.mk hR; replace hK := Aside0.mk hK)
  go_ret
  refine ⟨?_, hR.out, hK.out⟩
  show Ending.returned (.int .i64 (bits BinOp.xor IntKind.i64 (n / 2) (wrap64 (-wrap64 (bits BinOp.and IntKind.u64 n 1))))) = _
  rw [unfold_eq n r0 r1]
def flagS (s : ByteArray) (f : Bool) : Bool × ByteArray × Bool := if 1 < (numS s f).1 then (false, ⟨#[]⟩, false) else (decide ((numS s f).1 = 1), (numS s f).2.1, (numS s f).2.2)
theorem pack_RFlag_calls (b : Nat) (s : ByteArray) (f : Bool) (w : World) (h : RdAt w b s f) (hs : s.size ≤ 140737488351232) : Calls Try.prog 17 #[.pointer (some ⟨b, 0, none⟩)] w fun e w' => e = .returned (.bool (flagS s f).1) ∧ RdAt w' b (flagS s f).2.1 (flagS s f).2.2 ∧ Keeps (fun k => k ≠ b) w w' := by
  have HC := Aside0.mk (pack_RNum_calls b s f w h hs)
  obtain ⟨r0, r1, r2, r3⟩ := numS_range s f
  unfold flagS
  clear r2 r3
  generalize numS s f = p at *
  obtain ⟨n, s1, f1⟩ := p
  dsimp only at r0 r1 ⊢
  by_cases h1 : 1 < n
  · rw [if_pos h1]
    have hd : decide (1 < n) = true := decide_eq_true h1
    go_enter Try.func17, Try.ntmps17
    go_wp2_with (first | (go_at_call 9; with_reducible refine HC.out.mono ?_; rintro e w1 ⟨rfl, hR, hK⟩; dsimp only at hR ⊢; have hcc2 := hR.c2; replace hR := Aside0.mk hR; replace hK := Aside0.mk hK) | (go_at_call 18; with_reducible refine (pack_fail_calls b _ _ _ hR.out).mono ?_; rintro e w3 ⟨rfl, hS3, hK3⟩; replace hS3 := Aside0.mk hS3; replace hK3 := Aside0.mk hK3))
    go_ret
    exact ⟨rfl, hS3.out, hK.out.trans hK3.out⟩
  · rw [if_neg h1]
    have hd : decide (1 < n) = false := decide_eq_false h1
    have hd2 : (n == 1) = decide (n = 1) := rfl
    generalize decide (n = 1) = q at *
    go_enter Try.func17, Try.ntmps17
    go_wp2_with (first | (go_at_call 9; with_reducible refine HC.out.mono ?_; rintro e w1 ⟨rfl, hR, hK⟩; dsimp only at hR ⊢; replace hR := Aside0.mk hR; replace hK := Aside0.mk hK) | fail)
    go_ret
    exact ⟨rfl, hR.out, hK.out⟩
/-- What a reader's Text tells, and leaves. -/
def textS (s : ByteArray) (f : Bool) (most : Int) : ByteArray × ByteArray × Bool :=
  if (numS s f).2.2 = false then (⟨#[]⟩, (numS s f).2.1, false)
  else if ((numS s f).2.1.size : Int) < (numS s f).1 ∨ most < 0 ∨ most < (numS s f).1 then (⟨#[]⟩, ⟨#[]⟩, false)
  else ((numS s f).2.1.extract 0 (numS s f).1.toNat, (numS s f).2.1.extract (numS s f).1.toNat (numS s f).2.1.size, true)
theorem pack_RText_calls (b : Nat) (s : ByteArray) (f : Bool) (most : Int) (w : World) (h : RdAt w b s f) (hs : s.size ≤ 140737488351232) (hm : -9223372036854775808 ≤ most ∧ most ≤ 9223372036854775807) : Calls Try.prog 10 #[.pointer (some ⟨b, 0, none⟩), .int .i64 most] w fun e w' => e = .returned (.string (textS s f most).1) ∧ RdAt w' b (textS s f most).2.1 (textS s f most).2.2 ∧ Keeps (fun k => k ≠ b) w w' := by
  have HC := Aside0.mk (pack_RNum_calls b s f w h hs)
  obtain ⟨r0, r1, r2, r3⟩ := numS_range s f
  unfold textS
  generalize numS s f = p at *
  obtain ⟨n, s1, f1⟩ := p
  dsimp only at r0 r1 r2 r3 ⊢
  cases f1 with
  | false =>
    rw [if_pos rfl]
    clear r2 r3
    go_enter Try.func10, Try.ntmps10
    go_wp2_with (first | (go_at_call 9; with_reducible refine HC.out.mono ?_; rintro e w1 ⟨rfl, hR, hK⟩; dsimp only at hR ⊢; replace hR := Aside0.mk hR; replace hK := Aside0.mk hK) | (go_at_call 11; with_reducible refine (pack_Fine_calls b _ _ _ hR.out).mono ?_; rintro e w2 ⟨rfl, rfl⟩))
    go_ret
    exact ⟨rfl, hR.out, hK.out⟩
  | true =>
    rw [if_neg (by simp)]
    clear r3
    have hw1 : IntKind.u64.wrap (s1.size : Int) = (s1.size : Int) := u64_id (by omega) (by omega)
    have q1 : decide ((s1.size : Int) < n) = decide ((s1.size : Int) < n) := rfl
    clear q1
    by_cases d1 : (s1.size : Int) < n
    · rw [if_pos (.inl d1)]
      have q1 : decide ((s1.size : Int) < n) = true := decide_eq_true d1
      go_enter Try.func10, Try.ntmps10
      go_wp2_with (first | (go_at_call 9; with_reducible refine HC.out.mono ?_; rintro e w1 ⟨rfl, hR, hK⟩; dsimp only at hR ⊢; have hcc2 := hR.c2; have hcc0 := hR.c0; have hff0 := hR.f0 0; replace hR := Aside0.mk hR; replace hK := Aside0.mk hK) | (go_at_call 11; with_reducible refine (pack_Fine_calls b _ _ _ hR.out).mono ?_; rintro e w2 ⟨rfl, rfl⟩) | (go_at_call 18; with_reducible refine (pack_fail_calls b _ _ _ hR.out).mono ?_; rintro e w3 ⟨rfl, hS3, hK3⟩; replace hS3 := Aside0.mk hS3; replace hK3 := Aside0.mk hK3))
      go_ret
      exact ⟨rfl, hS3.out, hK.out.trans hK3.out⟩
    · have q1 : decide ((s1.size : Int) < n) = false := decide_eq_false d1
      by_cases d2 : most < 0
      · rw [if_pos (.inr (.inl d2))]
        have q2 : decide (most < 0) = true := decide_eq_true d2
        go_enter Try.func10, Try.ntmps10
        go_wp2_with (first | (go_at_call 9; with_reducible refine HC.out.mono ?_; rintro e w1 ⟨rfl, hR, hK⟩; dsimp only at hR ⊢; have hcc2 := hR.c2; have hcc0 := hR.c0; have hff0 := hR.f0 0; replace hR := Aside0.mk hR; replace hK := Aside0.mk hK) | (go_at_call 11; with_reducible refine (pack_Fine_calls b _ _ _ hR.out).mono ?_; rintro e w2 ⟨rfl, rfl⟩) | (go_at_call 18; with_reducible refine (pack_fail_calls b _ _ _ hR.out).mono ?_; rintro e w3 ⟨rfl, hS3, hK3⟩; replace hS3 := Aside0.mk hS3; replace hK3 := Aside0.mk hK3))
        go_ret
        exact ⟨rfl, hS3.out, hK.out.trans hK3.out⟩
      · have q2 : decide (most < 0) = false := decide_eq_false d2
        have hw2 : IntKind.u64.wrap most = most := u64_id (by omega) (by omega)
        by_cases d3 : most < n
        · rw [if_pos (.inr (.inr d3))]
          have q3 : decide (most < n) = true := decide_eq_true d3
          go_enter Try.func10, Try.ntmps10
          go_wp2_with (first | (go_at_call 9; with_reducible refine HC.out.mono ?_; rintro e w1 ⟨rfl, hR, hK⟩; dsimp only at hR ⊢; have hcc2 := hR.c2; have hcc0 := hR.c0; have hff0 := hR.f0 0; replace hR := Aside0.mk hR; replace hK := Aside0.mk hK) | (go_at_call 11; with_reducible refine (pack_Fine_calls b _ _ _ hR.out).mono ?_; rintro e w2 ⟨rfl, rfl⟩) | (go_at_call 18; with_reducible refine (pack_fail_calls b _ _ _ hR.out).mono ?_; rintro e w3 ⟨rfl, hS3, hK3⟩; replace hS3 := Aside0.mk hS3; replace hK3 := Aside0.mk hK3))
          go_ret
          exact ⟨rfl, hS3.out, hK.out.trans hK3.out⟩
        · rw [if_neg (by omega)]
          have q3 : decide (most < n) = false := decide_eq_false d3
          obtain ⟨m, rfl⟩ := Int.eq_ofNat_of_zero_le r0
          have hm1 : m ≤ s1.size := by omega
          replace r1 := Aside0.mk r1
          clear d1 d2 d3 r0
          rw [Int.toNat_natCast]
          go_enter Try.func10, Try.ntmps10
          go_wp2_with (first | (go_at_call 9; with_reducible refine HC.out.mono ?_; rintro e w1 ⟨rfl, hR, hK⟩; dsimp only at hR ⊢; have hcc2 := hR.c2; have hcc0 := hR.c0; have hff0 := hR.f0 0; replace hR := Aside0.mk hR; replace hK := Aside0.mk hK) | (go_at_call 11; with_reducible refine (pack_Fine_calls b _ _ _ hR.out).mono ?_; rintro e w2 ⟨rfl, rfl⟩) | (go_at_call 18; with_reducible refine (pack_fail_calls b _ _ _ hR.out).mono ?_; rintro e w3 ⟨rfl, hS3, hK3⟩; replace hS3 := Aside0.mk hS3; replace hK3 := Aside0.mk hK3))
          go_ret
          exact ⟨rfl, BoxN.set hR.out 0 _, hK.out.trans ((Keeps.refl (fun k => k ≠ b) _).setCell _ (fun h => h.2 rfl))⟩

/-! ### pack_Num: function 13 -/
/-- A number's bytes. -/
def numT (n : Int) : List Int := if h : 128 ≤ n then (n % 128 + 128) :: numT (n / 128) else [n]
termination_by n.toNat
decreasing_by omega
theorem numT_more {n : Int} (h : 128 ≤ n) : numT n = (n % 128 + 128) :: numT (n / 128) := by rw [numT, dif_pos h]
theorem numT_last {n : Int} (h : n < 128) : numT n = [n] := by rw [numT, dif_neg (by omega)]
theorem numT_pos (n : Int) : 0 < (numT n).length := by
  by_cases h : 128 ≤ n
  · rw [numT_more h]; simp
  · rw [numT_last (by omega)]; simp
theorem numT_len (k : Nat) : ∀ n : Int, n < 128 ^ (k + 1) → (numT n).length ≤ k + 1 := by
  induction k with
  | zero => intro n h; rw [numT_last (by simpa using h)]; simp
  | succ k ih =>
    intro n h
    by_cases h1 : 128 ≤ n
    · rw [numT_more h1, List.length_cons]
      have := ih (n / 128) (by rw [Int.pow_succ] at h; omega)
      omega
    · rw [numT_last (by omega)]; simp
theorem numT_ten {n : Int} (h : n < 18446744073709551616) : (numT n).length ≤ 10 := numT_len 9 n (by rw [show (128 : Int) ^ (9 + 1) = 1180591620717411303424 by decide]; omega)
theorem numT_byte : ∀ (k : Nat) (n : Int), n.toNat ≤ k → 0 ≤ n → ∀ x ∈ numT n, 0 ≤ x ∧ x ≤ 255 := by
  intro k
  induction k with
  | zero => intro n h h0 x hx; rw [numT_last (by omega), List.mem_singleton] at hx; omega
  | succ k ih =>
    intro n h h0 x hx
    by_cases h1 : 128 ≤ n
    · rw [numT_more h1] at hx
      rcases List.mem_cons.1 hx with e | hx
      · omega
      · exact ih (n / 128) (by omega) (by omega) x hx
    · rw [numT_last (by omega), List.mem_singleton] at hx; omega
/-- Several numbers' bytes. -/
def numsT (l : List Int) : List Int := l.flatMap numT
theorem numsT_snoc (l : List Int) (x : Int) : numsT (l ++ [x]) = numsT l ++ numT x := by simp [numsT]
theorem numsT_len {l : List Int} (h : ∀ x ∈ l, x < 18446744073709551616) : (numsT l).length ≤ 10 * l.length := by
  unfold numsT
  induction l with
  | nil => simp
  | cons a t ih =>
    rw [List.flatMap_cons, List.length_append, List.length_cons]
    have h1 := numT_ten (h a List.mem_cons_self)
    have h2 := ih (fun x hx => h x (List.mem_cons_of_mem _ hx))
    omega
theorem readsInt_of_C {W : World} {k : IntKind} {A : Option Addr} {n : Nat} {xs : List Int} (h : Kd.C (Kd.int k) W A n xs) : ReadsInt W k A n xs := Kd.reads_of_C (enc := Value.int k) (d := (0 : Int)) (h1 := fun _ => rfl) h
theorem below_grown0 {W W' : World} (h : W.grownBy W' none) : Below W.heap.size W W' := ⟨h.os, h.tape, h.output, h.size, fun k hk => h.block k hk (by simp)⟩
theorem own_some {W W1 : World} {base g c : Nat} {e : TypeId} {n : Nat} {v1 : Value} {xs : List Value} (hat : v1.ownBlock = (Value.slice (some ⟨g, 0, none⟩) 0 c).ownBlock ∨ ∃ b, v1.ownBlock = some b ∧ W.heap.size ≤ b) (h : W1.ownsRow base e 1 v1 n xs) : ∃ g' c', v1 = .slice (some ⟨g', 0, none⟩) n c' := by
  rcases h.2 with ⟨e0, h0⟩ | ⟨g', cap, cur, e0, hb, hh, hcap, hm, hsz, hcell⟩
  · subst e0
    rcases hat with h1 | ⟨b, h1, _⟩
    · simp [Value.ownBlock] at h1
    · simp [Value.ownBlock] at h1
  · exact ⟨g', cap, e0⟩
theorem own_cap {W : World} {base : Nat} {e : TypeId} {size n c : Nat} {A : Option Addr} {xs : List Value} (h : W.ownsRow base e size (.slice A n c) n xs) : n ≤ c := by
  rcases h.2 with ⟨e0, h0⟩ | ⟨g, cap, cur, e0, hb, hh, hcap, hm, hsz, hcell⟩
  · cases e0; exact Nat.le_of_eq h0
  · cases e0; exact hcap
set_option maxRecDepth 100000 in
theorem or_byte (m : Int) : bits BinOp.or IntKind.u8 (m % 256) 128 = m % 128 + 128 := by
  have key : ∀ n : Fin 256, bits BinOp.or IntKind.u8 ((n.val : Nat) : Int) 128 = ((n.val : Nat) : Int) % 128 + 128 := by decide
  have h1 := Int.emod_nonneg m (show (256 : Int) ≠ 0 by omega)
  have h2 := Int.emod_lt_of_pos m (show (0 : Int) < 256 by omega)
  have h3 := key ⟨(m % 256).toNat, by omega⟩
  rw [show (((m % 256).toNat : Nat) : Int) = m % 256 by omega] at h3
  rw [h3]
  omega
set_option maxHeartbeats 2000000 in
theorem pack_Num_own (A0 : Option Addr) (c0 : Nat) (l0 : List Int) (A1 : Option Addr) (c1 : Nat) (l1 : List Int) (w : World) (hr0 : Kd.C (Kd.int .u8) w A0 l0.length l0) (hr1 : Kd.C (Kd.int .u64) w A1 l1.length l1)
    (hl0 : l0.length ≤ 100000000) (hl1 : l1.length ≤ 1000000) (hw : ∀ x ∈ l1, 0 ≤ x ∧ x < 18446744073709551616) :
    Calls Try.prog 13 #[.slice A0 l0.length c0, .slice A1 l1.length c1] w fun e w' => ∃ g, e = .returned (.slice (some ⟨g, 0, none⟩) (l0 ++ numsT l1).length (l0 ++ numsT l1).length) ∧ Kd.F (Kd.int .u8) w' (fun k => w.heap.size ≤ k) (some ⟨g, 0, none⟩) (l0 ++ numsT l1).length (l0 ++ numsT l1) ∧ Below w.heap.size w w' := by
  have HR1 := Aside0.mk hr1
  have HW := Aside0.mk hw
  have HL := Aside0.mk (fun i => numsT_len (l := l1.take i) (fun x hx => (hw x (List.mem_of_mem_take hx)).2))
  obtain ⟨i0, hi, hz0, hz1, hz2⟩ := info_parts (P := Try.prog) (e := 5) (z := .int .u8 0) (size := 1) (bytes := 1) (by kernel_rfl)
  have hri : ReadsInt w .u8 A0 l0.length l0 := readsInt_of_C hr0
  replace hri := Aside0.mk hri
  clear hr0 hr1 hw
  go_enter Try.func13, Try.ntmps13
  go_wp2_with (first | (refine wpList_make_own _ rfl _ _ _ rfl w.heap.size 5 i0 (.int .u8 0) 1 Try.underlying31 hi hz0 hz1 .i64 .i64 ((l0.length : Int) + (l1.length : Int)) (l0.length + l1.length) rfl rfl (by omega) (by rw [hz2]; omega) (by unfold maxLen; omega) (Nat.le_refl _) ?_; intro W1 hown hgr; replace hown := Aside0.mk hown; replace hgr := Aside0.mk hgr) | (refine print_append_row (w0 := w) w.heap.size rfl _ _ 31 5 .u8 1 rfl Try.underlying31 (by kernel_rfl) (by decide) _ [] l0 A0 l0.length c0 rfl rfl hown.out (hri.out.below (below_grown0 hgr.out)) (below_grown0 hgr.out) hgr.out.size (by simp; omega) ?_; intro v1 W2 hown2 hb2 hg2 hat2; obtain ⟨g2, c2, hv1⟩ := own_some hat2 hown2; subst hv1; replace hown2 := Aside0.mk hown2; replace hb2 := Aside0.mk hb2; clear hg2 hat2))
  rw [List.nil_append] at hown2
  have HB0 := hb2
  clear hown hgr hri
  go_loopg [5, 18] l1.length (fun kq v5 v18 W => ∃ (i g c : Nat), v18 = .int .i64 i ∧ v5 = .slice (some ⟨g, 0, none⟩) (l0 ++ numsT (l1.take i)).length c ∧ Aside0 (kq + i = l1.length) ∧ Aside0 (W.ownsRow w.heap.size 5 1 (.slice (some ⟨g, 0, none⟩) (l0 ++ numsT (l1.take i)).length c) (l0 ++ numsT (l1.take i)).length ((l0 ++ numsT (l1.take i)).map (Value.int .u8))) ∧ Aside0 (Below w.heap.size w W))
  case atStart => exact ⟨0, g2, c2, rfl, by simp [numsT], ⟨rfl⟩, ⟨by simpa [numsT, nums] using hown2.out⟩, HB0⟩
  case round =>
    clear hown2 HB0
    obtain ⟨i, g, c, rfl, rfl, HK, HO, HB⟩ := hrel
    cases gk with
    | zero =>
      obtain rfl : i = l1.length := by have := HK.out; omega
      have hd : decide ((l1.length : Int) < (l1.length : Int)) = false := by simp
      have hd2 : decide (l1.length < l1.length) = false := by simp
      rw [List.take_length] at HO
      rw [List.take_length]
      generalize hys : l0 ++ numsT l1 = ys at *
      replace hys := Aside0.mk hys
      have hcap := own_cap HO.out
      go_wp2
      go_ret
      exact ⟨g, by rw [hys.out]; rfl, by rw [hys.out]; exact F_of_own HO.out, HB.out⟩
    | succ k1 =>
      have hlt : i < l1.length := by have := HK.out; omega
      have hd : decide ((i : Int) < (l1.length : Int)) = true := decide_eq_true (by omega)
      have hd2 : decide (i < l1.length) = true := decide_eq_true hlt
      obtain ⟨ad, eA, hx⟩ := Kd.at_int HR1.out (i : Int) (Int.natCast_nonneg _) (by omega)
      subst eA
      rw [Int.toNat_natCast] at hx
      replace hx := (HB.out.cell (World.block_lt_of_cell? w _ hx)).trans hx
      have hrd : rd l1 (i : Int) = l1[i] := by simp [rd, hlt]
      have hwi := HW.out l1[i] (List.getElem_mem hlt)
      have hnext : l0 ++ numsT (l1.take (i + 1)) = (l0 ++ numsT (l1.take i)) ++ numT l1[i] := by rw [List.take_succ_eq_append_getElem hlt, numsT_snoc, List.append_assoc]
      have hbig : (l0 ++ numsT (l1.take (i + 1))).length ≤ 110000010 := by
        rw [List.length_append]
        have := HL.out (i + 1)
        rw [List.length_take] at this
        omega
      have HN := Aside0.mk hnext
      clear hnext
      rw [hrd] at hx
      clear hrd
      generalize l1[i] = m0 at *
      generalize hys : l0 ++ numsT (l1.take i) = ys at *
      generalize hzs : l0 ++ numsT (l1.take (i + 1)) = zs at *
      replace hys := Aside0.mk hys
      replace hzs := Aside0.mk hzs
      replace hbig := Aside0.mk hbig
      go_wp2
      go_loopg [5, 7] ((numT m0).length - 1) (fun kq v5 v7 W => ∃ (m : Int) (us : List Int) (g c : Nat), v7 = .int .u64 m ∧ v5 = .slice (some ⟨g, 0, none⟩) us.length c ∧ Aside0 (0 ≤ m ∧ m < 18446744073709551616) ∧ Aside0 ((numT m).length = kq + 1) ∧ Aside0 (us ++ numT m = zs) ∧ Aside0 (W.ownsRow w.heap.size 5 1 (.slice (some ⟨g, 0, none⟩) us.length c) us.length (us.map (Value.int .u8))) ∧ Aside0 (Below w.heap.size w W))
      case atStart => exact ⟨m0, ys, g, c, rfl, rfl, ⟨hwi⟩, ⟨by have := numT_pos m0; omega⟩, ⟨HN.out.symm⟩, HO, HB⟩
      case round =>
        clear HO HB hx hwi HN
        obtain ⟨m, us, g1, c1, rfl, rfl, HM, HK1, HU, HO, HB⟩ := hrel
        obtain ⟨hm0, hm1⟩ := HM.out
        cases gk with
        | zero =>
          have hlt : m < 128 := by
            have h1 := HK1.out
            rcases Int.lt_or_le m 128 with h | h
            · exact h
            · rw [numT_more h, List.length_cons] at h1; have := numT_pos (m / 128); omega
          have HZ := Aside0.mk (show us ++ [m] = zs from by rw [← HU.out, numT_last hlt])
          have hlen : us.length ≤ 110000010 := by have := hbig.out; rw [← HZ.out, List.length_append] at this; omega
          have hd3 : decide (128 ≤ m) = false := decide_eq_false (by omega)
          have hl1' : us.length + 1 ≤ maxLen := by unfold maxLen; omega
          have hl2' : (us.length + 1) * 1 ≤ 140737488355328 := by omega
          go_wp2_with (refine wpList_append_own _ rfl _ _ 31 rfl w.heap.size 5 i0 (.int .u8 0) 1 1 Try.underlying31 hi hz0 hz1 hz2 rfl (by decide) _ _ _ rfl (HO.out.alloc _) ⟨wr.heap.size, 0, none⟩ 1 1 [Value.int .u8 m] rfl rfl (cell_one_new _ _ _) (by simp [Value.oneCell']) hl1' hl2' (by have := HB.out.size; simp; omega) ?_; intro v' w2 hown' hgrow _; obtain ⟨g', cap', rfl⟩ := ownsRow_succ hown'; replace hown' := Aside0.mk hown'; replace hgrow := Aside0.mk hgrow)
          have HB2 := Aside0.mk (show Below w.heap.size w w2 from ⟨hgrow.out.os.trans HB.out.os, hgrow.out.tape.trans HB.out.tape, hgrow.out.output.trans HB.out.output, Nat.le_trans HB.out.size (Nat.le_trans (by simp) hgrow.out.size), fun k hk => (hgrow.out.block k (by have := HB.out.size; simp; omega) (fun e => by have := (HO.out.lt k e.symm).1; omega)).trans ((Below.heap_alloc wr _ k (Nat.lt_of_lt_of_le hk HB.out.size)).trans (HB.out.block k hk))⟩)
          have hlz : us.length + 1 = zs.length := by rw [← HZ.out]; simp
          rw [hlz] at hown'
          have hmz : us.map (Value.int .u8) ++ [Value.int .u8 m] = zs.map (Value.int .u8) := by rw [← HZ.out]; simp
          rw [hmz] at hown'
          rw [hlz]
          clear hlz hmz
          go_wp2
          go_roundg k1
          case measure => omega
          case rel => exact ⟨i + 1, g', cap', by go_num, by rw [hzs.out], ⟨by have := HK.out; omega⟩, ⟨by rw [hzs.out]; exact hown'.out⟩, HB2⟩
        | succ k2 =>
          have hle : 128 ≤ m := by
            have h1 := HK1.out
            rcases Int.lt_or_le m 128 with h | h
            · rw [numT_last h] at h1; simp at h1
            · exact h
          have hd3 : decide (128 ≤ m) = true := decide_eq_true hle
          have hlen : us.length ≤ 110000010 := by have := hbig.out; rw [← HU.out, List.length_append] at this; omega
          have hor : bits BinOp.or IntKind.u8 (m % 256) 128 = m % 128 + 128 := or_byte m
          have hl1' : us.length + 1 ≤ maxLen := by unfold maxLen; omega
          have hl2' : (us.length + 1) * 1 ≤ 140737488355328 := by omega
          go_wp2_with (refine wpList_append_own _ rfl _ _ 31 rfl w.heap.size 5 i0 (.int .u8 0) 1 1 Try.underlying31 hi hz0 hz1 hz2 rfl (by decide) _ _ _ rfl (HO.out.alloc _) ⟨wr.heap.size, 0, none⟩ 1 1 [Value.int .u8 (m % 128 + 128)] rfl rfl (cell_one_new _ _ _) (by simp [Value.oneCell']) hl1' hl2' (by have := HB.out.size; simp; omega) ?_; intro v' w2 hown' hgrow _; obtain ⟨g', cap', rfl⟩ := ownsRow_succ hown'; replace hown' := Aside0.mk hown'; replace hgrow := Aside0.mk hgrow)
          have HB2 := Aside0.mk (show Below w.heap.size w w2 from ⟨hgrow.out.os.trans HB.out.os, hgrow.out.tape.trans HB.out.tape, hgrow.out.output.trans HB.out.output, Nat.le_trans HB.out.size (Nat.le_trans (by simp) hgrow.out.size), fun k hk => (hgrow.out.block k (by have := HB.out.size; simp; omega) (fun e => by have := (HO.out.lt k e.symm).1; omega)).trans ((Below.heap_alloc wr _ k (Nat.lt_of_lt_of_le hk HB.out.size)).trans (HB.out.block k hk))⟩)
          have HU2 := Aside0.mk (show (us ++ [m % 128 + 128]) ++ numT (m / 128) = zs from by rw [List.append_assoc, List.singleton_append, ← numT_more hle]; exact HU.out)
          have hK2 : (numT (m / 128)).length = k2 + 1 := by have h1 := HK1.out; rw [numT_more hle, List.length_cons] at h1; omega
          have hlz : us.length + 1 = (us ++ [m % 128 + 128]).length := by simp
          rw [hlz] at hown'
          have hmz : us.map (Value.int .u8) ++ [Value.int .u8 (m % 128 + 128)] = (us ++ [m % 128 + 128]).map (Value.int .u8) := by simp
          rw [hmz] at hown'
          rw [hlz]
          clear hlz hmz
          replace hK2 := Aside0.mk hK2
          go_wp2
          go_roundg k2
          case measure => omega
          case rel => exact ⟨m / 128, us ++ [m % 128 + 128], g', cap', rfl, rfl, ⟨by omega⟩, hK2, HU2, hown', HB2⟩
/-- What a packer's answer is: a row of the call's own with no room behind it. -/
def Packed (w w' : World) (v : Value) (ys : List Int) : Prop := ∃ g, v = .slice (some ⟨g, 0, none⟩) ys.length ys.length ∧ Kd.F (Kd.int .u8) w' (fun k => w.heap.size ≤ k) (some ⟨g, 0, none⟩) ys.length ys
def pack_Num.f (l0 l1 : List Int) : Option (List Int) := if l0.length ≤ 100000000 ∧ l1.length ≤ 1000000 ∧ l1.all (fun x => decide (0 ≤ x ∧ x < 18446744073709551616)) = true then some (l0 ++ numsT l1) else none
theorem pack_Num.calls (A0 : Option Addr) (c0 : Nat) (l0 : List Int) (A1 : Option Addr) (c1 : Nat) (l1 : List Int) (r : List Int) (w : World) (hr0 : Kd.C (Kd.int .u8) w A0 l0.length l0) (hc0 : l0.length ≤ c0) (hr1 : Kd.C (Kd.int .u64) w A1 l1.length l1) (hc1 : l1.length ≤ c1) (h : pack_Num.f l0 l1 = some r) :
    Calls Try.prog 13 #[.slice A0 l0.length c0, .slice A1 l1.length c1] w fun e w' => ∃ v0_ : Value, e = .returned v0_ ∧ Kd.V (Kd.int .u8) 5 w' w.heap.size (fun k_ => w.heap.size ≤ k_) v0_ r ∧ Below w.heap.size w w' := by
  unfold pack_Num.f at h
  by_cases hk : l0.length ≤ 100000000 ∧ l1.length ≤ 1000000 ∧ l1.all (fun x => decide (0 ≤ x ∧ x < 18446744073709551616)) = true
  case neg => rw [if_neg hk] at h; cases h
  rw [if_pos hk] at h
  obtain rfl := Option.some.inj h
  refine (pack_Num_own A0 c0 l0 A1 c1 l1 w hr0 hr1 hk.1 hk.2.1 (fun x hx => of_decide_eq_true (List.all_eq_true.1 hk.2.2 x hx))).mono ?_
  rintro e w' ⟨g, rfl, hF, hb⟩
  exact ⟨_, rfl, Kd.V_mk (Nat.le_refl _) hF, hb⟩
theorem pack_Num0 (A0 : Option Addr) (c0 : Nat) (l0 : List Int) (w : World) (hr0 : Kd.C (Kd.int .u8) w A0 l0.length l0) (hl0 : l0.length ≤ 100000000) :
    Calls Try.prog 13 #[.slice A0 l0.length c0, .slice none 0 0] w fun e w' => ∃ g, e = .returned (.slice (some ⟨g, 0, none⟩) l0.length l0.length) ∧ Kd.F (Kd.int .u8) w' (fun k => w.heap.size ≤ k) (some ⟨g, 0, none⟩) l0.length l0 ∧ Below w.heap.size w w' := by
  have := pack_Num_own A0 c0 l0 none 0 [] w hr0 (Kd.F_now (Kd.F_nil _ _ (fun _ => True))) hl0 (by decide) (by simp)
  simpa only [numsT, List.flatMap_nil, List.append_nil, List.length_nil] using this
theorem pack_Num1 (A0 : Option Addr) (n c0 : Nat) (l0 : List Int) (A1 : Option Addr) (x : Int) (w : World) (hr0 : Kd.C (Kd.int .u8) w A0 n l0) (hn : l0.length = n) (hr1 : Kd.C (Kd.int .u64) w A1 1 [x]) (hl0 : l0.length ≤ 100000000) (hx : 0 ≤ x ∧ x < 18446744073709551616) :
    Calls Try.prog 13 #[.slice A0 n c0, .slice A1 1 1] w fun e w' => ∃ g, e = .returned (.slice (some ⟨g, 0, none⟩) (l0 ++ numT x).length (l0 ++ numT x).length) ∧ Kd.F (Kd.int .u8) w' (fun k => w.heap.size ≤ k) (some ⟨g, 0, none⟩) (l0 ++ numT x).length (l0 ++ numT x) ∧ Below w.heap.size w w' := by
  subst hn
  have := pack_Num_own A0 c0 l0 A1 1 [x] w hr0 hr1 hl0 (by simp) (fun y hy => by rw [List.mem_singleton.1 hy]; exact hx)
  simpa only [numsT, List.flatMap_cons, List.flatMap_nil, List.append_nil, List.length_cons, List.length_nil, Nat.zero_add] using this
/-- One number that was written out. -/
theorem C_lit1 {e : TypeId} (k : IntKind) (W : World) (x : Int) : Kd.C (Kd.int k) (W.alloc (.cells #[.int k x] e)) (some ⟨W.heap.size, 0, none⟩) 1 [x] := by
  have h : (W.alloc (.cells #[.int k x] e)).ownsRow W.heap.size e 1 (.slice (some ⟨W.heap.size, 0, none⟩) 1 1) 1 ([x].map (Value.int k)) :=
    ⟨rfl, .inr ⟨W.heap.size, 1, _, rfl, Nat.le_refl _, World.alloc_heap_new W _, Nat.le_refl _, by decide, rfl, rfl⟩⟩
  exact Kd.F_now (F_of_own (enc := Value.int k) (h1 := fun _ => rfl) h)

/-! ### pack_fold: function 20 -/
def pack_fold.f (a0 : Int) : Option (Int) := some (Go.bits .xor .u64 (IntKind.u64.wrap ((IntKind.u64.wrap (a0)) * 2)) (IntKind.u64.wrap (a0 / 9223372036854775808)))
set_option maxHeartbeats 8000000 in
set_option maxRecDepth 100000 in
theorem pack_fold.calls (a0 : Int) (r : Int) (w : World) (h : pack_fold.f a0 = some r) :
    Calls Try.prog 20 #[.int .i64 a0] w fun e w' => e = .returned (.int .u64 r) ∧ Drawn0 w w' := by
  have H : (some (Go.bits .xor .u64 (IntKind.u64.wrap ((IntKind.u64.wrap (a0)) * 2)) (IntKind.u64.wrap (a0 / 9223372036854775808)))) = some r := h
  clear h
  obtain rfl := Option.some.inj H
  go_enter Try.func20, Try.ntmps20
  go_wp2
  go_ret
  exact ⟨by first | rfl | (simp; done) | (simp [*]; done), by repeat (first | exact Drawn0.refl _ | apply Drawn0.step)⟩

/-! ### pack_Int: function 14 -/
def pack_Int.l0 : Nat → List Int → List Int → Int → Int → Option (List Int)
  | 0, _, _, _, _ => none
  | k + 1, x0, x9, x10, x11 => if x11 < x10 then (if 0 ≤ x11 then (if x11 < (x9.length : Int) then ((pack_fold.f (rd x9 x11)).bind fun t105 => ((pack_Num.f x0 (([t105] : List Int))).bind fun t109 => (pack_Int.l0 k t109 x9 x10 (wrap64 (x11 + 1))))) else (none)) else (none)) else (some x0)
def pack_Int.f (k : Nat) (l0 : List Int) (l1 : List Int) : Option (List Int) := (pack_Num.f l0 ([] : List Int)).bind fun t101 => (pack_Int.l0 k t101 l1 (l1.length : Int) 0)
theorem pack_Int.mono_l : ∀ k, (∀ y0 y1 y2 y3, LeO (pack_Int.l0 k y0 y1 y2 y3) (pack_Int.l0 (k + 1) y0 y1 y2 y3))
  | 0 => fun _ _ _ _ r h => by simp [pack_Int.l0] at h
  | k + 1 => by
    have ih0 := pack_Int.mono_l k
    · intro y0 y1 y2 y3
      unfold pack_Int.l0
      repeat' first
      | (with_reducible exact ih0 _ _ _ _)
      | (with_reducible exact LeO.refl _)
      | (with_reducible exact LeO.none _)
      | (with_reducible refine LeO.ite ?_ ?_)
      | (with_reducible refine LeO.bind ?_ (fun _ => ?_))
      | exact ih0 _ _ _ _
      | exact LeO.none _
      | refine LeO.ite ?_ ?_
      | refine LeO.bind ?_ (fun _ => ?_)
theorem pack_Int.mono : ∀ a0 a1 k, LeO (pack_Int.f k a0 a1) (pack_Int.f (k + 1) a0 a1) := by
  intro a0 a1 k
  have ih0 := pack_Int.mono_l k
  unfold pack_Int.f
  repeat' first
      | (with_reducible exact ih0 _ _ _ _)
      | (with_reducible exact LeO.refl _)
      | (with_reducible exact LeO.none _)
      | (with_reducible refine LeO.ite ?_ ?_)
      | (with_reducible refine LeO.bind ?_ (fun _ => ?_))
      | exact ih0 _ _ _ _
      | exact LeO.none _
      | refine LeO.ite ?_ ?_
      | refine LeO.bind ?_ (fun _ => ?_)
set_option maxHeartbeats 8000000 in
set_option maxRecDepth 100000 in
theorem pack_Int.calls (k : Nat) (A0 : Option Addr) (c0 : Nat) (l0 : List Int) (A1 : Option Addr) (c1 : Nat) (l1 : List Int) (r : List Int) (w : World) (hr0 : Kd.C (Kd.int .u8) w A0 l0.length l0) (hc0 : l0.length ≤ c0) (hr1 : Kd.C (Kd.int .i64) w A1 l1.length l1) (hc1 : l1.length ≤ c1) (h : pack_Int.f k l0 l1 = some r) :
    Calls Try.prog 14 #[.slice A0 l0.length c0, .slice A1 l1.length c1] w fun e w' => ∃ v0_ : Value, e = .returned (v0_) ∧ Kd.V (Kd.int .u8) 5 w' w.heap.size (fun k_ => (w.heap.size ≤ k_)) v0_ r ∧ Below w.heap.size w w' := by
  have HR0 := Aside0.mk hr0
  have HC0 := Aside0.mk hc0
  clear hr0 hc0
  have HR1 := Aside0.mk hr1
  have HC1 := Aside0.mk hc1
  clear hr1 hc1
  have HB := Aside0.mk (Below.refl w.heap.size w)
  have H : ((pack_Num.f l0 ([] : List Int)).bind fun t101 => (pack_Int.l0 k t101 l1 (l1.length : Int) 0)) = some r := h
  clear h
  replace H := Option.bind_eq_some_iff.mp H
  obtain ⟨t101, A30, H⟩ := H
  replace H : (pack_Int.l0 k t101 l1 (l1.length : Int) 0) = some r := H
  have A3 := Aside0.mk A30
  clear A30
  have H' := Aside0.mk H
  clear H
  go_enter Try.func14, Try.ntmps14
  go_wp2_with (first | ((with_reducible refine gate_callee (f := 13) rfl ?_); refine goesL_ (some 8) rfl rfl Try.func13 (by kernel_rfl) rfl #[.slice A0 l0.length c0, .slice none 0 0] rfl (by (try simp only [List.map_toArray, List.map_cons, List.map_nil]); first | done | rfl | (simp only [List.length_drop, List.length_take]; rfl)) ?_; (refine (pack_Num.calls _ _ l0 _ _ ([] : List Int) t101 _ ?side1 ?side2 ?side3 ?side4 A3.out).mono ?_); (case side1 => repeat (first | exact HR0.out | (with_reducible refine Kd.C_alloc ?_ _) | (with_reducible refine Kd.C_drewN ?_ _) | (with_reducible refine Kd.C_drew ?_))); (case side2 => exact HC0.out); (case side3 => exact Kd.C_nil _ _); (case side4 => exact Nat.le_refl _); rintro e w4 ⟨v102, rfl, ho0, hb⟩; refine ⟨_, rfl, ?_⟩; have n0_ := Aside0.mk (Kd.V_lower (Kd.V_mono (ok' := fun k_ => (w.heap.size ≤ k_)) ho0 (fun k_ hk_ => (Nat.le_trans (below_size (by repeat (first | (with_reducible first | exact HB.out | apply below_alloc | apply pw_below_drewN | apply below_drew1) | exact HB.out))) hk_))) (below_size (by repeat (first | (with_reducible first | exact HB.out | apply below_alloc | apply pw_below_drewN | apply below_drew1) | exact HB.out)))); have n1_ := Aside0.mk (below_step (by repeat (first | (with_reducible first | exact HB.out | apply below_alloc | apply pw_below_drewN | apply below_drew1) | exact HB.out)) hb); clear HB; have HO103 := n0_; have HB := n1_; clear n0_ n1_; (try clear hb); (try clear hb2); (try clear hk); (try clear hi); (try clear ho0)))
  go_loopg [0, 11] k (fun kq v0 v11 w' => ∃ (x0_1 : List Int) (x11_1 : Int), v11 = .int .i64 x11_1 ∧ Aside0 (pack_Int.l0 kq x0_1 l1 (l1.length : Int) x11_1 = some r) ∧ Aside0 (kq ≤ k) ∧ Aside0 (Kd.V (Kd.int .u8) 5 w' w.heap.size (fun k_ => (w.heap.size ≤ k_)) v0 x0_1) ∧ Aside0 (Below w.heap.size w w'))
  case atStart => exact ⟨(t101), (0), (by first | rfl | (simp; done) | (simp [*]; done) | (simp; exact isEmpty_bne _)), H', ⟨Nat.le_refl _⟩, ⟨by (with_reducible repeat (first | apply Kd.V_alloc | apply Kd.V_drewN | apply Kd.V_drew)); exact HO103.out⟩, ⟨by repeat (first | (with_reducible first | exact HB.out | apply below_alloc | apply pw_below_drewN | apply below_drew1) | exact HB.out)⟩⟩
  case round =>
    clear H'
    try clear c1
    try clear p2
    obtain ⟨x0_1, x11_1, rfl, HA, HK1, HO_0, HB⟩ := hrel
    cases gk with
    | zero => exact absurd HA.out (by simp [pack_Int.l0])
    | succ k1 =>
      have H := HA.out
      clear HA
      simp only [pack_Int.l0] at H
      by_cases c5 : x11_1 < (l1.length : Int)
      · rw [if_pos c5] at H
        have c5b0 : decide (x11_1 < (l1.length : Int)) = true := decide_eq_true c5
        clear c5
        by_cases c6 : 0 ≤ x11_1
        · rw [if_pos c6] at H
          have c6b0 : decide (0 ≤ x11_1) = true := decide_eq_true c6
          clear c6
          by_cases c7 : x11_1 < (l1.length : Int)
          · rw [if_pos c7] at H
            have c7b0 : decide (x11_1 < (l1.length : Int)) = true := decide_eq_true c7
            clear c7
            replace H := Option.bind_eq_some_iff.mp H
            obtain ⟨t105, A80, H⟩ := H
            replace H : ((pack_Num.f x0_1 (([t105] : List Int))).bind fun t109 => (pack_Int.l0 k1 t109 l1 (l1.length : Int) (wrap64 (x11_1 + 1)))) = some r := H
            have A8 := Aside0.mk A80
            clear A80
            obtain ⟨y106, hy106⟩ : ∃ y_ : List Int, y_ = (([t105] : List Int)) := ⟨_, rfl⟩
            replace H : ((pack_Num.f x0_1 y106).bind fun t109 => (pack_Int.l0 k1 t109 l1 (l1.length : Int) (wrap64 (x11_1 + 1)))) = some r := by first | (rw [hy106]; with_reducible exact H) | (have H2_ := (Option.bind_some _ _).symm.trans H; rw [hy106]; with_reducible exact H2_) | (have H2_ := (Option.bind_some _ _).symm.trans H; with_reducible exact H2_) | with_reducible exact H | (rw [hy106]; exact H) | exact H
            have Ny106 := Aside0.mk hy106
            clear hy106
            replace H := Option.bind_eq_some_iff.mp H
            obtain ⟨t109, A90, H⟩ := H
            replace H : (pack_Int.l0 k1 t109 l1 (l1.length : Int) (wrap64 (x11_1 + 1))) = some r := H
            have A9 := Aside0.mk A90
            clear A90
            have H' := Aside0.mk H
            clear H
            have p104 : 0 ≤ (x11_1 : Int) := of_decide_eq_true (by first | (with_reducible assumption) | assumption)
            have q104 : x11_1 < (l1.length : Int) := of_decide_eq_true (by first | (with_reducible assumption) | assumption)
            obtain ⟨ad104, e104, hx104_0⟩ := Kd.at_int HR1.out x11_1 p104 q104
            cases e104
            replace hx104_0 := (HB.out.cell (World.block_lt_of_cell? w _ hx104_0)).trans hx104_0
            replace p104 := eq_true p104
            replace q104 := eq_true q104
            go_wp2_with (first | ((with_reducible refine gate_callee (f := 20) rfl ?_); refine goesL_ (some 17) rfl rfl Try.func20 (by kernel_rfl) rfl #[.int .i64 (rd l1 x11_1)] rfl (by (try simp only [List.map_toArray, List.map_cons, List.map_nil]); first | done | rfl | (simp only [List.length_drop, List.length_take]; rfl)) ?_; (with_reducible refine (pack_fold.calls (rd l1 x11_1) t105 _ A8.out).mono ?_); rintro e w' ⟨rfl, ⟨nd, rfl⟩⟩; refine ⟨_, rfl, ?_⟩) | ((with_reducible refine gate_dst (N := 18) rfl ?_); refine Kd.R_lit (Kd.int .u64) _ 25 ?hg (N := 18) ?hd (xs := ([t105] : List Int)) (inner := [.int .u64 t105]) (ok := fun _ => True) (okp := fun _ => True) ?hr ?hp (fun _ hk => hk) trivial (Below.refl _ _) (Nat.le_refl _) (by simp) ?_; (case hd => rfl); (case hg => rfl); (case hr => first | (go_simp; done) | (go_simp; rfl)); (case hp => exact (Reps.one (show Kd.M (Kd.int .u64) _ _ _ t105 [.int .u64 t105] from rfl) (Reps.none _ _))); intro v107 w10 ho11 hb hg_ hnew_; clear hg_ hnew_; (first | rw [← Ny106.out] at ho11 | (simp only [Int.reduceToNat] at ho11; rw [← Ny106.out] at ho11)); have n0_ := Aside0.mk (Kd.V_elder' (by (with_reducible repeat (first | apply Kd.V_alloc | apply Kd.V_drewN | apply Kd.V_drew)); exact HO_0.out) (Kd.R_base ho11) hb); have n1_ := Aside0.mk (Kd.R_lower (Kd.R_newM (M := fun k_ => (w.heap.size ≤ k_)) ho11 (below_size (by repeat (first | (with_reducible first | exact HB.out | apply below_alloc | apply pw_below_drewN | apply below_drew1) | exact HB.out))) (fun k_ h_ => h_)) (below_size (by repeat (first | (with_reducible first | exact HB.out | apply below_alloc | apply pw_below_drewN | apply below_drew1) | exact HB.out)))); have n2_ := Aside0.mk (below_step (by repeat (first | (with_reducible first | exact HB.out | apply below_alloc | apply pw_below_drewN | apply below_drew1) | exact HB.out)) hb); clear HO_0; clear HB; have HO_0 := n0_; have HO108 := n1_; have HB := n2_; clear n0_ n1_ n2_; clear hb ho11; obtain ⟨Ao12, co12, eo12⟩ := Kd.V_slice HO_0.out; subst eo12; obtain ⟨Ao13, co13, eo13⟩ := Kd.R_slice HO108.out; subst eo13) | ((with_reducible refine gate_callee (f := 13) rfl ?_); refine goesL_ (some 19) rfl rfl Try.func13 (by kernel_rfl) rfl #[.slice Ao12 x0_1.length co12, .slice Ao13 y106.length co13] rfl (by (try simp only [List.map_toArray, List.map_cons, List.map_nil]); first | done | rfl | (simp only [List.length_drop, List.length_take]; rfl)) ?_; (with_reducible refine (pack_Num.calls _ _ x0_1 _ _ y106 t109 _ ?side1 ?side2 ?side3 ?side4 A9.out).mono ?_); (case side1 => repeat (first | exact (Kd.V_reads' HO_0.out).2.2 | (with_reducible refine Kd.C_alloc ?_ _) | (with_reducible refine Kd.C_drewN ?_ _) | (with_reducible refine Kd.C_drew ?_))); (case side2 => exact (Kd.V_reads' HO_0.out).2.1); (case side3 => repeat (first | exact (Kd.R_reads' HO108.out).2.2 | (with_reducible refine Kd.C_alloc ?_ _) | (with_reducible refine Kd.C_drewN ?_ _) | (with_reducible refine Kd.C_drew ?_))); (case side4 => exact (Kd.R_reads' HO108.out).2.1); rintro e w14 ⟨v110, rfl, ho0, hb⟩; refine ⟨_, rfl, ?_⟩; have n0_ := Aside0.mk (Kd.V_below (by (with_reducible repeat (first | apply Kd.V_alloc | apply Kd.V_drewN | apply Kd.V_drew)); exact HO_0.out) hb); have n1_ := Aside0.mk (Kd.R_below (by (with_reducible repeat (first | apply Kd.R_alloc | apply Kd.R_drewN | apply Kd.R_drew)); exact HO108.out) hb); have n2_ := Aside0.mk (Kd.V_lower (Kd.V_mono (ok' := fun k_ => (w.heap.size ≤ k_) ∧ some k_ ≠ (.slice Ao13 y106.length co13 : Value).ownBlock) ho0 (fun k_ hk_ => ⟨(Nat.le_trans (below_size (by repeat (first | (with_reducible first | exact HB.out | apply below_alloc | apply pw_below_drewN | apply below_drew1) | exact HB.out))) hk_), (Kd.fresh' (Kd.R_lt (by (with_reducible repeat (first | apply Kd.R_alloc | apply Kd.R_drewN | apply Kd.R_drew)); exact HO108.out)) k_ hk_)⟩)) (below_size (by repeat (first | (with_reducible first | exact HB.out | apply below_alloc | apply pw_below_drewN | apply below_drew1) | exact HB.out)))); have n3_ := Aside0.mk (below_step (by repeat (first | (with_reducible first | exact HB.out | apply below_alloc | apply pw_below_drewN | apply below_drew1) | exact HB.out)) hb); clear HO_0; clear HO108; clear HB; have HO_0 := n0_; have HO108 := n1_; have HO111 := n2_; have HB := n3_; clear n0_ n1_ n2_ n3_; (try clear hb); (try clear hb2); (try clear hk); (try clear hi); (try clear ho0)))
            go_roundg k1
            case measure => have := HK1.out; omega
            case rel => exact ⟨(t109), (wrap64 (x11_1 + 1)), (by first | rfl | (simp; done) | (simp [*]; done) | (simp; exact isEmpty_bne _)), H', ⟨by have := HK1.out; omega⟩, ⟨by (with_reducible repeat (first | apply Kd.V_alloc | apply Kd.V_drewN | apply Kd.V_drew)); exact Kd.V_mono HO111.out (fun _ hk => hk.1)⟩, ⟨by repeat (first | (with_reducible first | exact HB.out | apply below_alloc | apply pw_below_drewN | apply below_drew1) | exact HB.out)⟩⟩
          · rw [if_neg c7] at H
            exact absurd H (by simp)
        · rw [if_neg c6] at H
          exact absurd H (by simp)
      · rw [if_neg c5] at H
        have c5b0 : decide (x11_1 < (l1.length : Int)) = false := decide_eq_false c5
        clear c5
        obtain rfl := Option.some.inj H
        go_wp2
        go_ret
        exact ⟨_, by first | rfl | (simp [errW_none, errW_some] <;> rfl) | (simp [*, errW_none, errW_some] <;> rfl), by (with_reducible repeat (first | apply Kd.V_alloc | apply Kd.V_drewN | apply Kd.V_drew)); exact HO_0.out, by repeat (first | (with_reducible first | exact HB.out | apply below_alloc | apply pw_below_drewN | apply below_drew1) | exact HB.out)⟩

end Go.Proofs.Ytphmejgipjcppaa.P
