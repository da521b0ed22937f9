-- Written by this session's program gprint.py: functions of the program as plain functions, and that the machine does what they say. Not trusted: Lean checks it.
import Derived.Test.YtjhpgfgpchgabaaPx0
import Derived.Test.YtjhpgfgpchgabaaPx2
import Derived.Test.YtjhpgfgpchgabaaPx3
namespace Go.Proofs.Ytjhpgfgpchgabaa.P
open Go.RowKit Go.Proofs.YtjhpgfgpchgabaaW.PrintWords Go.Proofs.YtjhpgfgpchgabaaW.PrintLast Go.Proofs.YtjhpgfgpchgabaaW.PrintMore
attribute [local go_sem] max2_int min2_int max_two min_two max_three min_three max_four min_four   -- for this text's walks alone
set_option linter.unusedVariables false
set_option linter.unusedSimpArgs false

/-! ### share_Fade: function 10 -/
theorem seg2_other (l : List Value) (m a : Nat) (u : Value) (h : m < a ∨ a + 2 ≤ m) : ((l.set m u).drop a).take 2 = (l.drop a).take 2 := by
  apply List.ext_getElem?
  intro k
  rw [List.getElem?_take, List.getElem?_take, List.getElem?_drop, List.getElem?_drop]
  by_cases hk : k < 2
  · rw [if_pos hk, if_pos hk, List.getElem?_set_ne (by omega)]
  · rw [if_neg hk, if_neg hk]
theorem seg2_same (l : List Value) (a j : Nat) (u : Value) (hj : j < 2) : ((l.set (a + j) u).drop a).take 2 = ((l.drop a).take 2).set j u := by
  apply List.ext_getElem?
  intro k
  rw [List.getElem?_take, List.getElem?_drop]
  by_cases hk : k < 2
  · rw [if_pos hk]
    by_cases hkj : k = j
    · subst hkj
      by_cases hl : a + k < l.length
      · rw [List.getElem?_set_self hl, List.getElem?_set_self (by simp; omega)]
      · rw [List.getElem?_eq_none (by simp; omega), List.getElem?_eq_none (by simp; omega)]
    · rw [List.getElem?_set_ne (by omega), List.getElem?_set_ne (by omega), List.getElem?_take, if_pos hk, List.getElem?_drop]
  · rw [if_neg hk, List.getElem?_eq_none (by simp; omega)]
def shareEnc (x : S52) : List Value := [.string x.f0, .int .i64 x.f1]
abbrev ShareRow (W : World) (base g n cap : Nat) (xs : List S52) : Prop := Kd.R k52 52 W base (fun _ => True) (.slice (some ⟨g, 0, none⟩) n cap) xs
theorem share_put {W : World} {base g n cap : Nat} {xs : List S52} (h : ShareRow W base g n cap xs) (i j : Nat) (hi : i < xs.length) (hj : j < 2) (u : Value) (x' : S52) (hx : shareEnc x' = (shareEnc (xs.getD i z52)).set j u) :
    ShareRow (W.setCell ⟨g, i * 2 + j, none⟩ u) base g n cap (xs.set i x') := by
  have hn : n = xs.length := (Kd.R_reads' h).1
  subst hn
  obtain ⟨_, inner, ho, hr⟩ := h
  have hst := (ho.stored (i * 2 + j) u).1
  refine ⟨fun _ _ => trivial, inner.set (i * 2 + j) u, by rw [List.length_set]; exact hst, by rw [List.length_set, List.length_set]; exact hr.1, fun q p hq => ?_⟩
  by_cases hqi : q = i
  · subst hqi
    rw [List.getElem?_set_self hi] at hq
    obtain rfl := Option.some.inj hq
    have hold := hr.2 q _ (List.getElem?_eq_getElem hi)
    have e1 := k52_openM hold
    show k52.M _ _ _ x' (((inner.set (q * 2 + j) u).drop (q * 2)).take 2)
    rw [seg2_same _ _ _ _ hj]
    have e2 : (inner.drop (q * 2)).take 2 = shareEnc (xs.getD q z52) := by
      rw [List.getD_eq_getElem?_getD, List.getElem?_eq_getElem hi]
      exact e1
    rw [e2, ← hx]
    exact k52_mkM _ _ _ _
  · rw [List.getElem?_set_ne (fun e => hqi e.symm)] at hq
    have hold := hr.2 q p hq
    have e1 := k52_openM hold
    show k52.M _ _ _ p (((inner.set (i * 2 + j) u).drop (q * 2)).take 2)
    rw [seg2_other _ _ _ _ (by omega)]
    have e2 : (inner.drop (q * 2)).take 2 = [.string p.f0, .int .i64 p.f1] := e1
    rw [e2]
    exact k52_mkM _ _ _ _
theorem share_cells {W : World} {base g n cap : Nat} {xs : List S52} (h : ShareRow W base g n cap xs) (i : Nat) (hi : i < xs.length) :
    W.cell? ⟨g, i * 2, none⟩ = some (.string (xs.getD i z52).f0) ∧ W.cell? ⟨g, i * 2 + 1, none⟩ = some (.int .i64 (xs.getD i z52).f1) ∧ ∀ j, W.frozen? ⟨g, i * 2 + j, none⟩ = false := by
  have hn : n = xs.length := (Kd.R_reads' h).1
  obtain ⟨c, _, hM, hc, hf⟩ := Kd.R_elem h z52 (i : Int) (by omega) (by omega)
  rw [Int.toNat_natCast] at hM hc hf
  have e1 := k52_openM hM
  subst e1
  exact ⟨hc 0 _ rfl, hc 1 _ rfl, hf⟩
/-- Has a share a use? -/
def usedP (x : S52) : Bool := decide (0 < x.f1)
set_option maxHeartbeats 1000000 in
theorem fade_1.calls (x : S52) (w : World) : Calls Try.prog 28 #[.agg #[.string x.f0, .int .i64 x.f1]] w fun e w' => e = .returned (.bool (usedP x)) ∧ Below w.heap.size w w' := by
  have hu := Try.underlying52
  go_enter Try.func28, Try.ntmps28
  go_wp2
  go_ret
  exact ⟨rfl, (Below.refl _ w).alloc (Nat.le_refl _) _⟩
/-- One halving of all uses. -/
def halfX (x : S52) : S52 := ⟨x.f0, Int.tdiv x.f1 2⟩
def halfAll (l : List S52) (i : Nat) : List S52 := (l.take i).map halfX ++ l.drop i
theorem halfAll_len (l : List S52) (i : Nat) (hi : i ≤ l.length) : (halfAll l i).length = l.length := by unfold halfAll; simp; omega
theorem halfAll_get (l : List S52) (i : Nat) (hi : i < l.length) : (halfAll l i).getD i z52 = l.getD i z52 := by
  unfold halfAll
  rw [List.getD_eq_getElem?_getD, List.getElem?_append_right (by simp; omega), List.getD_eq_getElem?_getD, List.getElem?_drop]
  simp
  congr 2
  omega
theorem halfAll_succ (l : List S52) (i : Nat) (hi : i < l.length) : halfAll l (i + 1) = (halfAll l i).set i (halfX (l.getD i z52)) := by
  unfold halfAll
  rw [List.take_succ_eq_append_getElem hi, List.map_append, List.append_assoc, List.set_append_right _ _ (by simp; omega)]
  congr 1
  rw [show i - ((l.take i).map halfX).length = 0 by simp; omega, List.drop_eq_getElem_cons hi, List.set_cons_zero, List.getD_eq_getElem?_getD, List.getElem?_eq_getElem hi]
  rfl
/-- k halvings. -/
def halved : Nat → List S52 → List S52
  | 0, l => l
  | k + 1, l => (halved k l).map halfX
theorem quant3 (a b c : Int) (w : World) : Calls Try.prog 18 #[.slice (some ⟨w.heap.size, 0, none⟩) 3 3] (w.alloc (.cells #[.int .i64 a, .int .i64 b, .int .i64 c] 2)) fun e w' => e = .returned (.bool (quantP a && (quantP b && quantP c))) ∧ Below w.heap.size w w' := by
  have hl : Kd.C (Kd.int .i64) (w.alloc (.cells #[.int .i64 a, .int .i64 b, .int .i64 c] 2)) (some ⟨w.heap.size, 0, none⟩) ([a, b, c] : List Int).length [a, b, c] := C_lits w [a, b, c] (by show 3 ≤ maxLen; decide)
  have hq : share_quantity.f [a, b, c] = some (quantP a && (quantP b && quantP c)) := by unfold share_quantity.f; simp
  exact (share_quantity.calls _ 3 [a, b, c] _ _ hl (Nat.le_refl _) hq).mono (fun e w' h => ⟨h.1, ((Below.refl _ w).alloc (Nat.le_refl _) _).trans ((drawn_below h.2).mono (by simp))⟩)
theorem quant1 (a : Int) (w : World) : Calls Try.prog 18 #[.slice (some ⟨w.heap.size, 0, none⟩) 1 1] (w.alloc (.cells #[.int .i64 a] 2)) fun e w' => e = .returned (.bool (quantP a)) ∧ Below w.heap.size w w' := by
  have hl : Kd.C (Kd.int .i64) (w.alloc (.cells #[.int .i64 a] 2)) (some ⟨w.heap.size, 0, none⟩) ([a] : List Int).length [a] := C_lits w [a] (by show 1 ≤ maxLen; decide)
  have hq : share_quantity.f [a] = some (quantP a) := by unfold share_quantity.f; simp
  exact (share_quantity.calls _ 1 [a] _ _ hl (Nat.le_refl _) hq).mono (fun e w' h => ⟨h.1, ((Below.refl _ w).alloc (Nat.le_refl _) _).trans ((drawn_below h.2).mono (by simp))⟩)
def fadeN (a b c : Int) : Nat := if 0 < c ∧ a < b then (if Int.tdiv b c - Int.tdiv a c < 64 then (Int.tdiv b c - Int.tdiv a c).toNat else 64) else 0
def fadeR (l : List S52) (a b c : Int) : List S52 × Int :=
  if (quantP a && (quantP b && quantP c)) = true then (if okShares l = true then ((halved (fadeN a b c) l).filter usedP, 0) else ([], 240)) else ([], 2)
def share_Fade.f (l : List S52) (a b c : Int) : Option (List S52 × Int) := if l.length ≤ 1000000 then some (fadeR l a b c) else none
theorem halved_len (l : List S52) : ∀ k, (halved k l).length = l.length
  | 0 => rfl
  | k + 1 => by show ((halved k l).map halfX).length = _; rw [List.length_map, halved_len l k]
theorem halfAll_all (l : List S52) (n : Nat) (h : l.length = n) : halfAll l n = l.map halfX := by
  subst h
  unfold halfAll
  rw [List.take_length, List.drop_length, List.append_nil]
theorem halved_rng (l : List S52) (h : ∀ x ∈ l, 0 ≤ x.f1 ∧ x.f1 ≤ 1099511627776) : ∀ k, ∀ x ∈ halved k l, 0 ≤ x.f1 ∧ x.f1 ≤ 1099511627776
  | 0 => h
  | k + 1 => fun x hx => by
    obtain ⟨y, hy, rfl⟩ := List.mem_map.1 (show x ∈ (halved k l).map halfX from hx)
    have := halved_rng l h k y hy
    show 0 ≤ Int.tdiv y.f1 2 ∧ Int.tdiv y.f1 2 ≤ _
    rw [Int.tdiv_eq_ediv_of_nonneg this.1]
    omega
theorem okShares_rng (l : List S52) (h : okShares l = true) : ∀ x ∈ l, 0 ≤ x.f1 ∧ x.f1 ≤ 1099511627776 := by
  intro x hx
  unfold okShares at h
  rw [Bool.and_eq_true, List.all_eq_true] at h
  obtain ⟨i, hi, rfl⟩ := List.getElem_of_mem hx
  have := h.1 i (List.mem_range.2 hi)
  unfold okAt quantP at this
  rw [List.getD_eq_getElem?_getD, List.getElem?_eq_getElem hi] at this
  simp only [Option.getD_some, Bool.and_eq_true, decide_eq_true_eq] at this
  omega
theorem keep_used (A0 : Option Addr) (c0 : Nat) (l0 : List S52) (w : World) (hr0 : Kd.C k52 w A0 l0.length l0) (hl0 : l0.length ≤ 1000000) :
    Calls Try.prog 24 #[.slice A0 l0.length c0, .func (Fn.func 28) #[] #[]] w fun e w' => ∃ v, e = .returned v ∧ Kd.V k52 52 w' w.heap.size (fun k => w.heap.size ≤ k) v (l0.filter usedP) ∧ Below w.heap.size w w' :=
  keep_calls A0 c0 l0 usedP 28 w hr0 hl0 (enters_of Try.func28 (by kernel_rfl) rfl) fade_1.calls
theorem keep_used' (A0 : Option Addr) (c0 n : Nat) (l0 : List S52) (w : World) (hn : n = l0.length) (hr0 : Kd.C k52 w A0 l0.length l0) (hl0 : n ≤ 1000000) :
    Calls Try.prog 24 #[.slice A0 n c0, .func (Fn.func 28) #[] #[]] w fun e w' => ∃ v, e = .returned v ∧ Kd.V k52 52 w' w.heap.size (fun k => w.heap.size ≤ k) v (l0.filter usedP) ∧ Below w.heap.size w w' := by
  subst hn
  exact keep_used A0 c0 l0 w hr0 hl0
set_option maxHeartbeats 8000000 in
set_option maxRecDepth 100000 in
theorem share_Fade.calls (A0 : Option Addr) (c0 : Nat) (l0 : List S52) (a1 a2 a3 : Int) (r1 : List S52) (r2 : Int) (w : World) (hr0 : Kd.C k52 w A0 l0.length l0) (hc0 : l0.length ≤ c0) (h : share_Fade.f l0 a1 a2 a3 = some (r1, r2)) :
    Calls Try.prog 10 #[.slice A0 l0.length c0, .int .i64 a1, .int .i64 a2, .int .i64 a3] w fun e w' => ∃ v0_ : Value, e = .returned (.tuple #[v0_, .int .i64 r2]) ∧ Kd.V k52 52 w' w.heap.size (fun k_ => w.heap.size ≤ k_) v0_ r1 ∧ Below w.heap.size w w' := by
  unfold share_Fade.f at h
  by_cases hl : l0.length ≤ 1000000
  case neg => rw [if_neg hl] at h; cases h
  rw [if_pos hl] at h
  replace h := Option.some.inj h
  have HR := Aside0.mk hr0
  have HC := Aside0.mk hc0
  clear hr0 hc0
  have HB := Aside0.mk (Below.refl w.heap.size w)
  have hck : share_Check.f l0 = some (if okShares l0 then 0 else 240) := by unfold share_Check.f; rw [if_pos hl]
  have hq3 := Aside0.mk (quant3 a1 a2 a3 w)
  unfold fadeR at h
  cases hq : (quantP a1 && (quantP a2 && quantP a3)) with
  | false =>
    rw [hq] at h hq3
    rw [if_neg (by simp)] at h
    obtain ⟨rfl, rfl⟩ := Prod.mk.inj h
    clear h hq hck
    go_enter Try.func10, Try.ntmps10
    go_wp2_with (go_at_call 18; (with_reducible refine (hq3.out).mono ?_); rintro e w1 ⟨rfl, hb⟩; replace HB := Aside0.mk hb; clear hb)
    go_ret2
    exact ⟨_, rfl, Kd.V_nil _ _ _ _ _, HB.out⟩
  | true =>
    rw [hq] at h hq3
    rw [if_pos rfl] at h
    have ha1 : quantP a1 = true := by simp at hq; exact hq.1
    have ha2 : quantP a2 = true := by simp at hq; exact hq.2.1
    have ha3 : quantP a3 = true := by simp at hq; exact hq.2.2
    unfold quantP at ha1 ha2 ha3
    simp only [decide_eq_true_eq] at ha1 ha2 ha3
    clear hq
    cases hk : okShares l0 with
    | false =>
      rw [hk] at h hck
      rw [if_neg (by simp)] at h
      obtain ⟨rfl, rfl⟩ := Prod.mk.inj h
      replace hck := Aside0.mk (show share_Check.f l0 = some 240 from hck)
      clear h
      go_enter Try.func10, Try.ntmps10
      go_wp2_with (first
        | (go_at_call 18; (with_reducible refine (hq3.out).mono ?_); rintro e w1 ⟨rfl, hb⟩; replace HB := Aside0.mk hb; clear hb)
        | (go_at_call 12; (with_reducible refine (share_Check.calls A0 c0 l0 240 _ (Kd.C_below HR.out HB.out) HC.out hck.out).mono ?_); rintro e w2 ⟨rfl, hb⟩; replace HB := Aside0.mk (HB.out.trans (hb.mono HB.out.size)); clear hb))
      go_ret2
      exact ⟨_, rfl, Kd.V_nil _ _ _ _ _, HB.out⟩
    | true =>
      rw [hk] at h hck
      rw [if_pos rfl] at h
      replace hck := Aside0.mk (show share_Check.f l0 = some 0 from hck)
      obtain ⟨h1, rfl⟩ := Prod.mk.inj h
      clear h
      replace h1 := Aside0.mk h1
      by_cases hc : 0 < a3 ∧ a1 < a2
      case neg =>
        have hn : fadeN a1 a2 a3 = 0 := by unfold fadeN; rw [if_neg hc]
        replace h1 := Aside0.mk (show l0.filter usedP = r1 by have := h1.out; rw [hn] at this; exact this)
        clear hn
        rcases (show ¬ 0 < a3 ∨ (0 < a3 ∧ ¬ a1 < a2) by omega) with hc1 | ⟨hc1, hc2⟩
        all_goals go_enter Try.func10, Try.ntmps10
        all_goals (go_wp2_with (first
          | (go_at_call 18; (with_reducible refine (hq3.out).mono ?_); rintro e w1 ⟨rfl, hb⟩; replace HB := Aside0.mk hb; clear hb)
          | (go_at_call 12; (with_reducible refine (share_Check.calls A0 c0 l0 0 _ (Kd.C_below HR.out HB.out) HC.out hck.out).mono ?_); rintro e w2 ⟨rfl, hb⟩; replace HB := Aside0.mk (HB.out.trans (hb.mono HB.out.size)); clear hb)
          | (go_at_call 21; (with_reducible refine (share_Clone_own A0 c0 l0 _ (Kd.C_below HR.out HB.out) HC.out hl).mono ?_); rintro e w3 ⟨v, rfl, ho, hb⟩; obtain ⟨A, c, rfl⟩ := Kd.R_slice ho; have HO := Aside0.mk (Kd.R_lower ho HB.out.size); replace HB := Aside0.mk (HB.out.trans (hb.mono HB.out.size)); clear hb ho)
          | (go_at_call 24; (with_reducible refine (keep_used A c l0 _ (Kd.R_reads' HO.out).2.2 hl).mono ?_); rintro e w4 ⟨v, rfl, hv, hb⟩; have HV := Aside0.mk (Kd.V_mono hv (fun k hk => Nat.le_trans HB.out.size hk)); replace HB := Aside0.mk (HB.out.trans (hb.mono HB.out.size)); clear hb hv)))
        all_goals go_ret2
        all_goals exact ⟨_, rfl, by rw [← h1.out]; exact HV.out, HB.out⟩
      case pos =>
        obtain ⟨hc1, hc2⟩ := hc
        have hrng := Aside0.mk (halved_rng l0 (okShares_rng l0 hk))
        obtain ⟨Qa, hQa⟩ : ∃ q, Int.tdiv a1 a3 = q := ⟨_, rfl⟩
        obtain ⟨Qb, hQb⟩ : ∃ q, Int.tdiv a2 a3 = q := ⟨_, rfl⟩
        have hbn : 0 ≤ Qa ∧ Qa ≤ Qb ∧ Qb ≤ a2 := by
          rw [← hQa, ← hQb]
          rw [Int.tdiv_eq_ediv_of_nonneg (by omega), Int.tdiv_eq_ediv_of_nonneg (by omega)]
          refine ⟨Int.ediv_nonneg (by omega) (by omega), Int.ediv_le_ediv (by omega) (by omega), Int.ediv_le_self _ (by omega)⟩
        obtain ⟨hb0, hb1, hb2⟩ := hbn
        have hz3 : ¬ a3 = 0 := by omega
        obtain ⟨M, hM, hM2⟩ : ∃ M : Nat, fadeN a1 a2 a3 = M ∧ (if Qb - Qa < 64 then Qb - Qa else 64) = (M : Int) := by
          refine ⟨_, rfl, ?_⟩
          unfold fadeN
          by_cases hd : Qb - Qa < 64
          · simp only [hc1, hc2, and_self, if_true, hQa, hQb, hd]
            omega
          · simp only [hc1, hc2, and_self, if_true, hQa, hQb, hd, if_false]
            rfl
        rw [hM] at h1
        clear hM
        have hM64 : M ≤ 64 := by split at hM2 <;> omega
        go_enter Try.func10, Try.ntmps10
        go_wp2_with (first
          | (go_at_call 18; (with_reducible refine (hq3.out).mono ?_); rintro e w1 ⟨rfl, hb⟩; replace HB := Aside0.mk hb; clear hb)
          | (go_at_call 12; (with_reducible refine (share_Check.calls A0 c0 l0 0 _ (Kd.C_below HR.out HB.out) HC.out hck.out).mono ?_); rintro e w2 ⟨rfl, hb⟩; replace HB := Aside0.mk (HB.out.trans (hb.mono HB.out.size)); clear hb)
          | (go_at_call 21; (with_reducible refine (share_Clone_own A0 c0 l0 _ (Kd.C_below HR.out HB.out) HC.out hl).mono ?_); rintro e w3 ⟨v, rfl, ho, hb⟩; obtain ⟨A, c, rfl⟩ := Kd.R_slice ho; have HO := Aside0.mk (Kd.R_lower ho HB.out.size); replace HB := Aside0.mk (HB.out.trans (hb.mono HB.out.size)); clear hb ho))
        go_quiet (fail)
        rw [show (if 64 < Qb - Qa then 64 else Qb - Qa) = (M : Int) from by split at hM2 <;> split <;> omega]
        clear hQa hQb hM2 hz3 hb0 hb1 hb2
        go_wp2
        go_loopg [40] M (fun kq v40 wr => ∃ k : Nat, v40 = .int .i64 k ∧ Aside0 (kq + k = M) ∧ Aside0 (Kd.R k52 52 wr w.heap.size (fun _ => True) (.slice A l0.length c) (halved k l0)) ∧ Aside0 (Below w.heap.size w wr))
        case atStart => exact ⟨0, rfl, ⟨rfl⟩, HO, ⟨⟨HB.out.os, HB.out.tape, HB.out.output, HB.out.size, HB.out.block⟩⟩⟩
        case round =>
          clear HO HB
          obtain ⟨k, rfl, HK, HO, HB⟩ := hrel
          cases gk with
          | zero =>
            have e : k = M := by have := HK.out; omega
            subst e
            go_wp2_with (go_at_call 24; (with_reducible refine (keep_used' A c l0.length (halved k l0) _ (halved_len l0 k).symm (Kd.R_reads' HO.out).2.2 hl).mono ?_); rintro e w4 ⟨v, rfl, hv, hb⟩; have HV := Aside0.mk (Kd.V_mono hv (fun k hk => Nat.le_trans HB.out.size hk)); replace HB := Aside0.mk (HB.out.trans (hb.mono HB.out.size)); clear hb hv)
            go_ret2
            exact ⟨_, rfl, by rw [← h1.out]; exact HV.out, HB.out⟩
          | succ k1 =>
            have hlt : k < M := by have := HK.out; omega
            have hlt' : (k : Int) < (M : Int) := by omega
            go_wp2
            go_loopg [44] l0.length (fun kq v44 wr2 => ∃ i : Nat, v44 = .int .i64 i ∧ Aside0 (kq + i = l0.length) ∧ Aside0 (Kd.R k52 52 wr2 w.heap.size (fun _ => True) (.slice A l0.length c) (halfAll (halved k l0) i)) ∧ Aside0 (Below w.heap.size w wr2))
            case atStart => exact ⟨0, rfl, ⟨rfl⟩, HO, HB⟩
            case round =>
              clear HO HB
              obtain ⟨i, rfl, HJ, HO, HB⟩ := hrel
              cases gk with
              | zero =>
                have e : i = l0.length := by have := HJ.out; omega
                subst e
                have HO2 := Aside0.mk (show Kd.R k52 52 wr w.heap.size (fun _ => True) (.slice A l0.length c) (halved (k + 1) l0) from by have := HO.out; rw [halfAll_all _ _ (halved_len l0 k)] at this; exact this)
                go_wp2
                go_roundg k1
                case measure => omega
                case rel => exact ⟨k + 1, by go_num, ⟨by have := HK.out; omega⟩, HO2, HB⟩
              | succ k2 =>
                have hli : i < l0.length := by have := HJ.out; omega
                have hli' : (i : Int) < (l0.length : Int) := by omega
                have hlen : (halfAll (halved k l0) i).length = l0.length := by rw [halfAll_len _ _ (by rw [halved_len]; omega), halved_len]
                obtain ⟨g, cap, e, hg1, hg2, cells, hgc⟩ := Kd.R_form HO.out (by rw [hlen]; omega)
                rw [hlen] at e
                injection e with e1 e2 e3
                subst e1 e3
                clear hgc
                obtain ⟨_, k2', kf⟩ := share_cells HO.out i (by rw [hlen]; exact hli)
                have kf2 : wr.frozen? ⟨g, i * 2 + 1, none⟩ = false := kf 1
                clear kf
                rw [halfAll_get _ _ (by rw [halved_len]; exact hli)] at k2'
                have hput := Aside0.mk (share_put HO.out i 1 (by rw [hlen]; exact hli) (by decide) (.int .i64 (Int.tdiv ((halved k l0).getD i z52).f1 2)) (halfX ((halved k l0).getD i z52)) (by rw [halfAll_get _ _ (by rw [halved_len]; exact hli)]; rfl))
                have hnext := Aside0.mk (halfAll_succ (halved k l0) i (by rw [halved_len]; exact hli))
                have hx := hrng.out k ((halved k l0).getD i z52) (by rw [List.getD_eq_getElem?_getD, List.getElem?_eq_getElem (by rw [halved_len]; exact hli)]; exact List.getElem_mem _)
                obtain ⟨hx0, hx1⟩ := hx
                generalize (halved k l0).getD i z52 = x at *
                obtain ⟨y, hy⟩ : ∃ y, Int.tdiv x.f1 2 = y := ⟨_, rfl⟩
                have hy0 : 0 ≤ y ∧ y ≤ 1099511627776 := by rw [← hy, Int.tdiv_eq_ediv_of_nonneg hx0]; omega
                rw [hy] at hput
                clear hlen e2
                go_wp2
                go_roundg k2
                case measure => omega
                case rel =>
                  refine ⟨i + 1, by go_num, ⟨by have := HJ.out; omega⟩, ⟨?_⟩, ⟨?_⟩⟩
                  · rw [hnext.out]
                    exact hput.out
                  · exact HB.out.setCell hg1 _

/-! ### api_Share_22: function 22 -/
theorem share_encO {w : World} {base : Nat} {ok : Nat → Prop} {x : S52} {cs : List Value} (h : k52.M w base ok x cs) : cs = shareEnc x := k52_openM h
theorem share_encM (w : World) (base : Nat) (ok : Nat → Prop) (x : S52) : k52.M w base ok x (shareEnc x) := k52_mkM w base ok x
theorem share_encl (x : S52) : (shareEnc x).length = 2 := rfl
theorem share_enc1 (x : S52) : ∀ v ∈ shareEnc x, v.oneCell' = true := by
  intro v hv
  simp only [shareEnc, List.mem_cons, List.not_mem_nil, or_false] at hv
  rcases hv with rfl | rfl <;> rfl
theorem share_sz : (Try.prog.info? 52).map (·.size) = some 2 := by kernel_rfl
set_option maxHeartbeats 4000000 in
set_option maxRecDepth 100000 in
/-- An element put behind a row of one's own. -/
theorem share_Insert_end (A : Option Addr) (c : Nat) (l : List S52) (x : S52) (g2 : Nat) (w : World) (base : Nat) (hr : Kd.R k52 52 w base (fun _ => True) (.slice A l.length c) l) (hb : base ≤ w.heap.size) (hl : l.length ≤ 1000000) (hx : Kd.C k52 w (some ⟨g2, 0, none⟩) 1 [x]) :
    Calls Try.prog 22 #[.slice A l.length c, .int .i64 (l.length : Int), .slice (some ⟨g2, 0, none⟩) 1 1] w fun e w' => ∃ v, e = .returned v ∧ Kd.R k52 52 w' base (fun _ => True) v (l ++ [x]) ∧ Below base w w' := by
  have HO := Aside0.mk hr
  have HX := Aside0.mk hx
  have hcl := (Kd.R_reads' hr).2
  have HB := Aside0.mk (Below.refl base w)
  cases A with
  | none =>
    obtain ⟨hc0, hl0⟩ : c = 0 ∧ l.length = 0 := by
      obtain ⟨inner, ho⟩ := Kd.R_own hr
      rcases ho.2 with ⟨e, e2⟩ | ⟨g, cap, cur, e, _⟩
      · simp only [Value.slice.injEq] at e; exact ⟨e.2.2, e2⟩
      · cases e
    obtain rfl := List.eq_nil_of_length_eq_zero hl0
    subst hc0
    clear hr hx hcl
    go_enter Try.func22, Try.ntmps22
    go_wp2_with ((with_reducible refine gate_builtin (b := .append) (xs := #[.tmp 23, .tmp 24]) rfl ?_); at_builtin; refine Kd.R_append_rows k52 (w0 := w) base rfl (.tmp 23) (.tmp 24) 22 52 (.agg #[(.string ⟨#[]⟩), (.int .i64 0)]) 24 rfl Try.underlying22 share_info rfl (by decide) (by omega) _ [] [x] _ _ _ (fun _ => True) (fun _ => False) rfl rfl ?aO ?aR (fun _ _ h => h) (fun _ h => h.elim) ?aF ?aB ?aS ?aL ?_; (case aR => exact HX.out); (case aB => exact HB.out); (case aF => exact (fun _ _ => trivial)); (case aO => exact HO.out); (case aS => exact hb); (case aL => simp); intro v130 w5 ho hb5 hg hat; replace HB := Aside0.mk hb5; have HO2 := Aside0.mk (show Kd.R k52 52 w5 base (fun _ => True) v130 ([] ++ [x]) from ho); clear ho hb5 hg hat)
    go_ret
    exact ⟨_, rfl, HO2.out, HB.out⟩
  | some ad =>
    obtain ⟨c1, c2⟩ : l.length ≤ c ∧ c ≤ 9223372036854775807 := by
      obtain ⟨inner, ho⟩ := Kd.R_own hr
      rcases ho.2 with ⟨e, _⟩ | ⟨g, cap, cur, e, _, _, h1, h2, _⟩
      · cases e
      · cases e; exact ⟨h1, h2⟩
    clear hr hx hcl
    by_cases hcq : c = l.length
    case' pos => subst hcq
    all_goals go_enter Try.func22, Try.ntmps22
    all_goals go_wp2_with ((with_reducible refine gate_builtin (b := .append) (xs := #[.tmp 23, .tmp 24]) rfl ?_); at_builtin; refine Kd.R_append_rows k52 (w0 := w) base rfl (.tmp 23) (.tmp 24) 22 52 (.agg #[(.string ⟨#[]⟩), (.int .i64 0)]) 24 rfl Try.underlying22 share_info rfl (by decide) (by omega) _ l [x] _ _ _ (fun _ => True) (fun _ => False) rfl rfl ?aO ?aR (fun _ _ h => h) (fun _ h => h.elim) ?aF ?aB ?aS ?aL ?_; (case aR => exact HX.out); (case aB => exact HB.out); (case aF => exact (fun _ _ => trivial)); (case aO => exact HO.out); (case aS => exact hb); (case aL => show (l.length + 1) * 24 ≤ 140737488355328; omega); intro v130 w5 ho hb5 hg hat; replace HB := Aside0.mk hb5; have HO2 := Aside0.mk (show Kd.R k52 52 w5 base (fun _ => True) v130 (l ++ [x]) from ho); clear ho hb5 hg hat)
    all_goals go_ret
    all_goals exact ⟨_, rfl, HO2.out, HB.out⟩
set_option maxHeartbeats 4000000 in
set_option maxRecDepth 100000 in
/-- An element put into a row of one's own that has no room. -/
theorem share_Insert_grow (g c : Nat) (l : List S52) (i : Nat) (x : S52) (g2 : Nat) (w : World) (base : Nat) (hr : Kd.R k52 52 w base (fun _ => True) (.slice (some ⟨g, 0, none⟩) l.length c) l) (hb : base ≤ w.heap.size) (hl : l.length ≤ 1000000) (hi : i < l.length) (hc : c = l.length)
    (hx : w.heap[g2]? = some (.cells (shareEnc x).toArray 52 (0, 0))) :
    Calls Try.prog 22 #[.slice (some ⟨g, 0, none⟩) l.length c, .int .i64 (i : Int), .slice (some ⟨g2, 0, none⟩) 1 1] w fun e w' => ∃ v, e = .returned v ∧ Kd.R k52 52 w' base (fun _ => True) v (l.take i ++ x :: l.drop i) ∧ Below base w w' := by
  subst hc
  have hown := R_cells (enc := shareEnc) (fun h => share_encO h) share_encl hr
  clear hr
  obtain ⟨hol, ⟨e, _⟩ | ⟨g', cap, cur, e, hbg, hg, hn, hmx, hcs, htk⟩⟩ := hown
  · cases e
  simp only [Value.slice.injEq, Option.some.injEq, Addr.mk.injEq] at e
  obtain ⟨⟨rfl, _, _⟩, _, rfl⟩ := e
  have hgl : g < w.heap.size := (Array.getElem?_eq_some_iff.1 hg).1
  have hg2l : g2 < w.heap.size := (Array.getElem?_eq_some_iff.1 hx).1
  have hcur : cur.toList = rowE shareEnc l := by rw [← htk, List.take_of_length_le (by rw [Array.length_toList, hcs]; exact Nat.le_refl _)]
  replace hg := Aside0.mk (show w.heap[g]? = some (.cells (rowE shareEnc l).toArray 52 (0, 0)) by rw [hg, ← hcur])
  clear htk hcur hcs hmx hn hol
  have HX := Aside0.mk hx
  clear hx
  obtain ⟨G, hG⟩ : ∃ G, w.heap.size = G := ⟨_, rfl⟩
  have hin : (i : Int) < (l.length : Int) := by omega
  have hi0 : i ≤ l.length := by omega
  have hne : ¬ ((i : Int) = (l.length : Int)) := by omega
  have hne2 : ¬ (i = l.length) := by omega
  have hk := Aside0.mk (show (l.length : Int) + 1 - (i : Int) = ((l.length + 1 - i : Nat) : Int) by omega)
  go_enter Try.func22, Try.ntmps22
  go_wp2_with (first
    | ((with_reducible refine gate_builtin (b := .append) (xs := #[.tmp 34, .tmp 39]) rfl ?_); at_builtin; go_loud (refine wpList_append_zeros_new rfl (.tmp 34) (.tmp 39) 22 3 52 rfl (.agg #[(.string ⟨#[]⟩), (.int .i64 0)]) 2 24 Try.underlying22 Try.underlying3 share_info rfl (by decide) (by decide) ⟨g, 0, none⟩ i l.length (l.length + 1 - i) (l.length + 1) rfl (congrArg (Value.int .i64) hk.out) (by omega) (by omega) (by omega) (rowE shareEnc (l.take i)) (by rw [rowE_len share_encl, List.length_take, Nat.min_eq_left hi0]) (own_src hg.out 0 (i * 2) _ (by rw [List.drop_zero]; exact rowE_take share_encl l i hi0)) (by omega) base w (Below.refl _ _) hb ?_); intro w1 cap ROW hg1 hsz1 hoth1 hb1 hge1 hmax1 hlen1 htk1; replace hg1 := Aside0.mk (show w1.heap[w.heap.size]? = _ from hg1); replace hoth1 := Aside0.mk hoth1; replace hb1 := Aside0.mk hb1; replace hlen1 := Aside0.mk hlen1; replace htk1 := Aside0.mk htk1; clear hsz1)
    | ((with_reducible refine gate_builtin (b := .copy) (xs := #[.tmp 43, .tmp 44]) rfl ?_); go_loud (refine wpList_copy_sz 2 rfl (.tmp 43) (.tmp 44) 22 22 rfl 52 Try.underlying22 share_sz G (i * 2) (l.length + 1 - i) (cap - i) ⟨g2, 0, none⟩ 1 1 rfl rfl ROW 52 (hG ▸ hg1.out) 1 (Nat.min_eq_left (by omega)).symm (shareEnc x) rfl (own_src ((hoth1.out g2 hg2l).trans HX.out) 0 2 _ rfl) (by rw [hlen1.out]; show _ + 2 ≤ _; omega) (share_enc1 x) base w hb1.out (hG ▸ hb) ?_); intro w2 hg2' hoth2 hb2; replace hg2' := Aside0.mk (show w2.heap[G]? = _ from hg2'); replace hb2 := Aside0.mk hb2; replace hoth2 := Aside0.mk hoth2))
  have hcap : ¬ (cap = i + 1) := by omega
  have hne3 : ¬ (l.length = i) := by omega
  have hcap63 : cap ≤ 9223372036854775807 := hmax1
  have hwr : IntKind.i64.wrap ((i : Int) + 1) = (i : Int) + 1 := by rw [IntKind.wrap_i64]; omega
  have hb01 : (0 : Int) ≤ (i : Int) + 1 := by omega
  have htn1 : ((i : Int) + 1).toNat = i + 1 := by omega
  have hle1 : (i : Int) + 1 ≤ (l.length : Int) + 1 := by omega
  have hsrc := Aside0.mk (show ∀ j v, (rowE shareEnc (l.drop i))[j]? = some v → w2.drew.cell? ((⟨g, i * 2, none⟩ : Addr).add j) = some v from own_src ((show w2.heap[g]? = some (.cells (rowE shareEnc l).toArray 52 (0, 0)) from (hoth2.out g (by omega)).trans ((hoth1.out g hgl).trans hg.out))) (i * 2) ((l.length - i) * 2) _ (by rw [rowE_drop share_encl l i hi0, List.take_of_length_le (by rw [rowE_len share_encl, List.length_drop]; exact Nat.le_refl _)]))
  have hdl := Aside0.mk (show (rowE shareEnc (l.drop i)).length = (l.length - i) * 2 by rw [rowE_len share_encl, List.length_drop])
  have hsl := Aside0.mk (show (splice ROW (i * 2) (shareEnc x)).length = cap * 2 by rw [length_splice _ _ _ (by rw [hlen1.out]; show _ + 2 ≤ _; omega), hlen1.out])
  go_region_law (refine step_copy_sz 2 ?h1 (.tmp 50) (.tmp 53) 22 22 ?h2 52 ?h3 ?h4 G ((i + 1) * 2) (l.length - i) (cap - (i + 1)) ⟨g, i * 2, none⟩ (l.length - i) (l.length - i) ?h5 ?h6 (splice ROW (i * 2) (shareEnc x)) 52 ?h7 (l.length - i) ?h8 (rowE shareEnc (l.drop i)) ?h9 ?h10 ?h11 ?h12 base w ?h13 ?h14 ?_; (case h1 => rfl); (case h2 => rfl); (case h3 => exact Try.underlying22); (case h4 => exact share_sz); (case h5 => go_simp; done); (case h6 => go_simp; done); (case h7 => exact hg2'.out); (case h8 => exact (Nat.min_self _).symm); (case h9 => exact hdl.out); (case h10 => exact hsrc.out); (case h11 => rw [hdl.out, hsl.out]; omega); (case h12 => exact rowE_one share_enc1 _); (case h13 => exact hb2.out.drew); (case h14 => exact hG ▸ hb); intro w4 hg4 hoth4 hb4; replace hg4 := Aside0.mk (show w4.heap[G]? = _ from hg4); replace hb4 := Aside0.mk hb4)
  go_wp2
  go_ret
  refine ⟨_, rfl, cells_R share_encM share_encl (fun _ _ => trivial) ⟨by rw [rowE_len share_encl]; rfl, .inr ⟨G, cap, _, ?_, hG ▸ hb, hg4.out, ?_, hmax1, ?_, ?_⟩⟩, hb4.out⟩
  · simp; omega
  · simp; omega
  · rw [List.size_toArray]
    have := (ins_len share_encl l x i hi0 ROW (by rw [hlen1.out]; omega)).2
    rw [this]
    exact hlen1.out
  · show (splice (splice ROW (i * 2) (shareEnc x)) ((i + 1) * 2) (rowE shareEnc (l.drop i))).take _ = _
    rw [show (l.take i ++ x :: l.drop i).length = l.length + 1 by simp; omega]
    exact ins_cells2 share_encl l x i hi0 ROW htk1.out
set_option maxHeartbeats 4000000 in
set_option maxRecDepth 100000 in
/-- An element put into a row of one's own that has room. -/
theorem share_Insert_room (g c : Nat) (l : List S52) (i : Nat) (x : S52) (g2 : Nat) (w : World) (base : Nat) (hr : Kd.R k52 52 w base (fun _ => True) (.slice (some ⟨g, 0, none⟩) l.length c) l) (hl : l.length ≤ 1000000) (hi : i < l.length) (hc : l.length < c)
    (hx : w.heap[g2]? = some (.cells (shareEnc x).toArray 52 (0, 0))) (hgg : g2 ≠ g) :
    Calls Try.prog 22 #[.slice (some ⟨g, 0, none⟩) l.length c, .int .i64 (i : Int), .slice (some ⟨g2, 0, none⟩) 1 1] w fun e w' => ∃ v, e = .returned v ∧ Kd.R k52 52 w' base (fun _ => True) v (l.take i ++ x :: l.drop i) ∧ Below base w w' := by
  have hown := R_cells (enc := shareEnc) (fun h => share_encO h) share_encl hr
  clear hr
  obtain ⟨hol, ⟨e, _⟩ | ⟨g', cap, cur, e, hbg, hg, hn, hmx, hcs, htk⟩⟩ := hown
  · cases e
  simp only [Value.slice.injEq, Option.some.injEq, Addr.mk.injEq] at e
  obtain ⟨⟨rfl, _, _⟩, _, rfl⟩ := e
  have hgl : g < w.heap.size := (Array.getElem?_eq_some_iff.1 hg).1
  obtain ⟨L, hL⟩ : ∃ L, cur.toList = L := ⟨_, rfl⟩
  rw [hL] at htk
  have hLl := Aside0.mk (show L.length = c * 2 by rw [← hL, Array.length_toList]; exact hcs)
  replace hg := Aside0.mk (show w.heap[g]? = some (.cells L.toArray 52 (0, 0)) by rw [hg, ← hL])
  replace htk := Aside0.mk (show L.take (l.length * 2) = rowE shareEnc l from htk)
  clear hL hcs hn hol
  have HX := Aside0.mk hx
  clear hx
  have hin : (i : Int) < (l.length : Int) := by omega
  have hi0 : i ≤ l.length := by omega
  have hne : ¬ ((i : Int) = (l.length : Int)) := by omega
  have hne2 : ¬ (i = l.length) := by omega
  have hne3 : ¬ (l.length = i) := by omega
  have hc1 : ¬ ((c : Int) < (l.length : Int) + 1) := by omega
  have hc2 : (l.length : Int) + 1 ≤ (c : Int) := by omega
  have hc3 : ¬ (c = i + 1) := by omega
  have hc4 : ¬ (c = i) := by omega
  have hc63 : c ≤ 9223372036854775807 := hmx
  have hwr : IntKind.i64.wrap ((i : Int) + 1) = (i : Int) + 1 := by rw [IntKind.wrap_i64]; omega
  have hb01 : (0 : Int) ≤ (i : Int) + 1 := by omega
  have htn1 : ((i : Int) + 1).toNat = i + 1 := by omega
  have hle1 : (i : Int) + 1 ≤ (l.length : Int) + 1 := by omega
  have hle2 : (i : Int) ≤ (l.length : Int) + 1 := by omega
  have hov : ∀ off lb cb, (callFunc 35 #[.slice (some ⟨g2, 0, none⟩) 1 1, .slice (some ⟨g, off, none⟩) lb cb]).run Try.prog w = .ok (.value (.bool false)) w := fun off lb cb => by
    rw [run_callFunc_extern Try.func35 (by kernel_rfl) (by kernel_rfl) (by kernel_rfl) (e := Extern.SlicesOverlaps.overlaps #[22, 22] #[4]) (by kernel_rfl),
      Lib.run_overlaps_apart w 22 4 52 Try.underlying22 2 (fun w => by kernel_rfl) ⟨g2, 0, none⟩ ⟨g, off, none⟩ 1 1 lb cb hgg _ _ _ _ (own_shape HX.out) (own_shape hg.out) (by rw [List.size_toArray, hLl.out]; omega) (own_frozen HX.out _) (own_frozen HX.out _)]
    rfl
  go_enter Try.func22, Try.ntmps22
  go_wp2_with (simp only [hov])
  clear hov
  have hsrc := Aside0.mk (show ∀ j v, (rowE shareEnc (l.drop i))[j]? = some v → w.drew.cell? ((⟨g, i * 2, none⟩ : Addr).add j) = some v from own_src (show w.drew.heap[g]? = _ from hg.out) (i * 2) ((l.length - i) * 2) _ (by rw [List.take_drop, show i * 2 + (l.length - i) * 2 = l.length * 2 by omega, htk.out, rowE_drop share_encl l i hi0]))
  have hdl := Aside0.mk (show (rowE shareEnc (l.drop i)).length = (l.length - i) * 2 by rw [rowE_len share_encl, List.length_drop])
  go_region_law (refine step_copy_sz 2 ?h1 (.tmp 73) (.tmp 76) 22 22 ?h2 52 ?h3 ?h4 g ((i + 1) * 2) (l.length - i) (c - (i + 1)) ⟨g, i * 2, none⟩ (l.length + 1 - i) (c - i) ?h5 ?h6 L 52 ?h7 (l.length - i) ?h8 (rowE shareEnc (l.drop i)) ?h9 ?h10 ?h11 ?h12 base w ?h13 ?h14 ?_; (case h1 => rfl); (case h2 => rfl); (case h3 => exact Try.underlying22); (case h4 => exact share_sz); (case h5 => go_simp; done); (case h6 => go_simp; done); (case h7 => exact hg.out); (case h8 => exact (Nat.min_eq_right (by omega)).symm); (case h9 => exact hdl.out); (case h10 => exact hsrc.out); (case h11 => rw [hdl.out, hLl.out]; omega); (case h12 => exact rowE_one share_enc1 _); (case h13 => exact (Below.refl _ _).drew); (case h14 => exact hbg); intro w4 hg4 hoth4 hb4; replace hg4 := Aside0.mk (show w4.heap[g]? = _ from hg4); replace hb4 := Aside0.mk hb4; replace hoth4 := Aside0.mk hoth4)
  go_wp2_with ((with_reducible refine gate_builtin (b := .copy) (xs := #[.tmp 80, .tmp 81]) rfl ?_); go_loud (refine wpList_copy_sz 2 rfl (.tmp 80) (.tmp 81) 22 22 rfl 52 Try.underlying22 share_sz g (i * 2) (l.length + 1 - i) (c - i) ⟨g2, 0, none⟩ 1 1 rfl rfl (splice L ((i + 1) * 2) (rowE shareEnc (l.drop i))) 52 hg4.out 1 (Nat.min_eq_left (by omega)).symm (shareEnc x) rfl (own_src ((hoth4.out g2 hgg).trans HX.out) 0 2 _ rfl) (by rw [length_splice _ _ _ (by rw [hdl.out, hLl.out]; omega), hLl.out]; show _ + 2 ≤ _; omega) (share_enc1 x) base w hb4.out hbg ?_); intro w5 hg5 hoth5 hb5; replace hg5 := Aside0.mk (show w5.heap[g]? = _ from hg5); replace hb5 := Aside0.mk hb5)
  go_ret
  refine ⟨_, rfl, cells_R share_encM share_encl (fun _ _ => trivial) ⟨by rw [rowE_len share_encl]; rfl, .inr ⟨g, c, _, ?_, hbg, hg5.out, ?_, hmx, ?_, ?_⟩⟩, hb5.out⟩
  · simp; omega
  · simp; omega
  · rw [List.size_toArray]
    have := (ins_len share_encl l x i hi0 L (by rw [hLl.out]; omega)).1
    rw [this]
    exact hLl.out
  · show (splice (splice L ((i + 1) * 2) (rowE shareEnc (l.drop i))) (i * 2) (shareEnc x)).take _ = _
    rw [show (l.take i ++ x :: l.drop i).length = l.length + 1 by simp; omega]
    refine ins_cells share_encl l x i hi0 L ?_ (by rw [hLl.out]; omega)
    rw [← rowE_take share_encl l i hi0, ← htk.out, List.take_take, Nat.min_eq_left (by omega)]
/-- An element put into a row of one's own. -/
theorem share_Insert_own (A : Option Addr) (c : Nat) (l : List S52) (i : Nat) (x : S52) (g2 : Nat) (w : World) (base : Nat) (hr : Kd.R k52 52 w base (fun _ => True) (.slice A l.length c) l) (hb : base ≤ w.heap.size) (hl : l.length ≤ 1000000) (hi : i ≤ l.length)
    (hx : w.heap[g2]? = some (.cells (shareEnc x).toArray 52 (0, 0))) (hgg : ∀ a, A = some a → g2 ≠ a.block) :
    Calls Try.prog 22 #[.slice A l.length c, .int .i64 (i : Int), .slice (some ⟨g2, 0, none⟩) 1 1] w fun e w' => ∃ v, e = .returned v ∧ Kd.R k52 52 w' base (fun _ => True) v (l.take i ++ x :: l.drop i) ∧ Below base w w' := by
  by_cases hq : i = l.length
  · subst hq
    rw [List.take_length, List.drop_length]
    have hR : Kd.R k52 52 w 0 (fun _ => True) (.slice (some ⟨g2, 0, none⟩) [x].length 1) [x] := cells_R share_encM share_encl (fun _ _ => trivial) ⟨rfl, .inr ⟨g2, 1, _, rfl, Nat.zero_le _, hx, Nat.le_refl _, by unfold maxLen; omega, rfl, rfl⟩⟩
    exact share_Insert_end A c l x g2 w base hr hb hl (Kd.R_reads' hR).2.2
  · have hlt : i < l.length := by omega
    obtain ⟨g, cap, e, hg1, hg2, _⟩ := Kd.R_form hr (by omega)
    injection e with e1 e2 e3
    subst e1 e3
    by_cases hc : c = l.length
    · exact share_Insert_grow g c l i x g2 w base hr hb hl hlt hc hx
    · have hc2 : l.length < c := by
        have := (Kd.R_reads' hr).2.1
        omega
      exact share_Insert_room g c l i x g2 w base hr hl hlt hc2 hx (hgg _ rfl)

/-! ### sat_Add: function 23 -/
def addT (s a : Int) : Int := clampT (clampT s + clampT a)
/-- The sum of a row. -/
def sumT (s : Int) (l : List Int) : Int := l.foldl addT s
def sat_Add.f (l0 : List Int) : Option (Int) := some (sumT 0 l0)
theorem sumT_take (s : Int) (l : List Int) (k : Nat) (h : k < l.length) : sumT s (l.take (k + 1)) = addT (sumT s (l.take k)) (l.getD k 0) := by
  unfold sumT
  rw [List.take_succ_eq_append_getElem h, List.foldl_append, List.getD_eq_getElem?_getD, List.getElem?_eq_getElem h]
  rfl
set_option maxHeartbeats 2000000 in
theorem sat_Add.calls (A0 : Option Addr) (c0 : Nat) (l0 : List Int) (r : Int) (w : World) (hr0 : Kd.C (Kd.int .i64) w A0 l0.length l0) (hc0 : l0.length ≤ c0) (h : sat_Add.f l0 = some r) :
    Calls Try.prog 23 #[.slice A0 l0.length c0] w fun e w' => e = .returned (.int .i64 r) ∧ Drawn0 w w' := by
  obtain rfl := Option.some.inj h
  have HR0 := Aside0.mk hr0
  have hm : l0.length ≤ 9223372036854775807 := hr0.2.1
  clear hr0 hc0 h
  go_enter Try.func23, Try.ntmps23
  go_wp2
  go_loopg [3, 8] l0.length (fun kq v3 v8 w' => ∃ (i : Nat), v3 = .int .i64 (sumT 0 (l0.take i)) ∧ v8 = .int .i64 i ∧ Aside0 (kq + i = l0.length) ∧ Drawn0 w w')
  case atStart => exact ⟨0, rfl, rfl, ⟨by simp⟩, Drawn0.refl _⟩
  case round =>
    obtain ⟨i, rfl, rfl, HK, ⟨m1, rfl⟩⟩ := hrel
    cases gk with
    | zero =>
      have e : i = l0.length := by have := HK.out; omega
      subst e
      rw [List.take_length]
      go_wp2
      go_ret
      exact ⟨rfl, by repeat (first | exact Drawn0.refl _ | apply Drawn0.step)⟩
    | succ k1 =>
      have hlt : i < l0.length := by have := HK.out; omega
      obtain ⟨ad, e1, hx⟩ := Kd.at_int HR0.out (i : Int) (by omega) (by omega)
      cases e1
      have E := Aside0.mk (sumT_take 0 l0 i hlt)
      have er : rd l0 (i : Int) = l0.getD i 0 := by simp [rd]
      rw [er] at hx
      clear er
      generalize hs : sumT 0 (l0.take i) = s at *
      generalize ha : l0.getD i 0 = b at *
      replace hs := Aside0.mk hs
      replace ha := Aside0.mk ha
      have q0 := clampT_lo s
      have q1 := clampT_hi s
      have q2 := clampT_lo b
      have q3 := clampT_hi b
      simp only [Int.toNat_natCast] at hx
      go_wp2_with (first | (go_at_call 31; refine (sat_Of.calls _ _ _ rfl).mono ?_; rintro e w' ⟨rfl, ⟨nd, rfl⟩⟩) | go_in)
      go_roundg k1
      case measure => omega
      case rel => exact ⟨i + 1, by rw [E.out]; rfl, by go_num, ⟨by have := HK.out; omega⟩, by repeat (first | exact Drawn0.refl _ | apply Drawn0.step)⟩

/-! ### share_Add: function 8 -/
set_option maxHeartbeats 1000000 in
theorem add_1.calls (x : S52) (w : World) : Calls Try.prog 25 #[.agg #[.string x.f0, .int .i64 x.f1]] w fun e w' => e = .returned (.bool (usedP x)) ∧ Below w.heap.size w w' := by
  have hu := Try.underlying52
  go_enter Try.func25, Try.ntmps25
  go_wp2
  go_ret
  exact ⟨rfl, (Below.refl _ w).alloc (Nat.le_refl _) _⟩
theorem keep_used2 (A0 : Option Addr) (c0 n : Nat) (l0 : List S52) (w : World) (hn : n = l0.length) (hr0 : Kd.C k52 w A0 l0.length l0) (hl0 : n ≤ 1000000) :
    Calls Try.prog 24 #[.slice A0 n c0, .func (Fn.func 25) #[] #[]] w fun e w' => ∃ v, e = .returned v ∧ Kd.V k52 52 w' w.heap.size (fun k => w.heap.size ≤ k) v (l0.filter usedP) ∧ Below w.heap.size w w' := by
  subst hn
  exact keep_calls A0 c0 l0 usedP 25 w hr0 hl0 (enters_of Try.func25 (by kernel_rfl) rfl) add_1.calls
/-- The sum of two uses. -/
def shAdd (a b : Int) : Int := sumT 0 [a, b]
theorem shAdd_rng (a b : Int) : 0 ≤ shAdd a b ∧ shAdd a b ≤ 1099511627776 := ⟨clampT_lo _, clampT_hi _⟩
theorem add2 (a b : Int) (w : World) : Calls Try.prog 23 #[.slice (some ⟨w.heap.size, 0, none⟩) 2 2] (w.alloc (.cells #[.int .i64 a, .int .i64 b] 2)) fun e w' => e = .returned (.int .i64 (shAdd a b)) ∧ Below w.heap.size w w' := by
  have hl : Kd.C (Kd.int .i64) (w.alloc (.cells #[.int .i64 a, .int .i64 b] 2)) (some ⟨w.heap.size, 0, none⟩) ([a, b] : List Int).length [a, b] := C_lits w [a, b] (by show 2 ≤ maxLen; decide)
  exact (sat_Add.calls _ 2 [a, b] _ _ hl (Nat.le_refl _) rfl).mono (fun e w' h => ⟨h.1, ((Below.refl _ w).alloc (Nat.le_refl _) _).trans ((drawn_below h.2).mono (by simp))⟩)
theorem insert_new (A : Option Addr) (c : Nat) (l : List S52) (i : Nat) (u : ByteArray) (n : Int) (w : World) (base : Nat) (hr : Kd.R k52 52 w base (fun _ => True) (.slice A l.length c) l) (hb : base ≤ w.heap.size) (hl : l.length ≤ 1000000) (hi : i ≤ l.length) :
    Calls Try.prog 22 #[.slice A l.length c, .int .i64 (i : Int), .slice (some ⟨w.heap.size, 0, none⟩) 1 1] (w.alloc (.cells #[.string u, .int .i64 n] 52)) fun e w' => ∃ v, e = .returned v ∧ Kd.R k52 52 w' base (fun _ => True) v (l.take i ++ ⟨u, n⟩ :: l.drop i) ∧ Below base w w' := by
  refine (share_Insert_own A c l i ⟨u, n⟩ w.heap.size _ base (Kd.R_below hr ((Below.refl _ w).alloc (Nat.le_refl _) _)) (by simp; omega) hl hi (World.alloc_heap_new w _) (fun a ha => ?_)).mono ?_
  · subst ha
    obtain ⟨inner, ho⟩ := Kd.R_own hr
    rcases ho.2 with ⟨e, _⟩ | ⟨g, cap, cur, e, _, hg, _⟩
    · cases e
    · simp only [Value.slice.injEq, Option.some.injEq] at e
      obtain ⟨rfl, _⟩ := e
      have := (Array.getElem?_eq_some_iff.1 hg).1
      show w.heap.size ≠ g
      omega
  · rintro e w' ⟨v, rfl, hv, hb2⟩
    exact ⟨v, rfl, hv, ((Below.refl _ w).alloc hb _).trans hb2⟩
/-- The row with the use added, at place i. -/
def addAt (l : List S52) (i : Nat) (n : Int) : List S52 := l.set i ⟨(l.getD i z52).f0, shAdd (l.getD i z52).f1 n⟩
def addR (l : List S52) (u : ByteArray) (n : Int) : List S52 × Int :=
  if quantP n = true then (if nameP u = true then (if okShares l = true then
    (if (placeT l u).2 = true then ((addAt l (placeI l u) n).filter usedP, 0)
     else if 0 < n ∧ 100 ≤ l.length then ([], 6)
     else ((addAt (l.take (placeI l u) ++ ⟨u, 0⟩ :: l.drop (placeI l u)) (placeI l u) n).filter usedP, 0))
    else ([], 240)) else ([], 2)) else ([], 2)
def share_Add.f (l : List S52) (u : ByteArray) (n : Int) : Option (List S52 × Int) := if l.length ≤ 900000 then some (addR l u n) else none
theorem halfT_bnd (l : List S52) (u : ByteArray) : ∀ d i j, i ≤ j → i ≤ halfT l u d i j ∧ halfT l u d i j ≤ j
  | 0, i, j, h => ⟨Nat.le_refl _, h⟩
  | d + 1, i, j, h => by
    unfold halfT
    by_cases hij : i < j
    · rw [if_pos hij]
      split
      · have := halfT_bnd l u d ((i + j) / 2 + 1) j (by omega)
        omega
      · have := halfT_bnd l u d i ((i + j) / 2) (by omega)
        omega
    · rw [if_neg hij]
      exact ⟨Nat.le_refl _, h⟩
theorem halfT_le (l : List S52) (u : ByteArray) : placeI l u ≤ l.length := (halfT_bnd l u l.length 0 l.length (Nat.zero_le _)).2
set_option maxHeartbeats 8000000 in
set_option maxRecDepth 100000 in
theorem share_Add.calls (A0 : Option Addr) (c0 : Nat) (l0 : List S52) (a1 : ByteArray) (a2 : Int) (r1 : List S52) (r2 : Int) (w : World) (hr0 : Kd.C k52 w A0 l0.length l0) (hc0 : l0.length ≤ c0) (h : share_Add.f l0 a1 a2 = some (r1, r2)) :
    Calls Try.prog 8 #[.slice A0 l0.length c0, .string a1, .int .i64 a2] w fun e w' => ∃ v0_ : Value, e = .returned (.tuple #[v0_, .int .i64 r2]) ∧ Kd.V k52 52 w' w.heap.size (fun k_ => w.heap.size ≤ k_) v0_ r1 ∧ Below w.heap.size w w' := by
  unfold share_Add.f at h
  by_cases hl : l0.length ≤ 900000
  case neg => rw [if_neg hl] at h; cases h
  rw [if_pos hl] at h
  replace h := Option.some.inj h
  have HR := Aside0.mk hr0
  have HC := Aside0.mk hc0
  clear hr0 hc0
  have HB := Aside0.mk (Below.refl w.heap.size w)
  have hck : share_Check.f l0 = some (if okShares l0 then 0 else 240) := by unfold share_Check.f; rw [if_pos (by omega)]
  have hpl : Aside0 (share_place.f l0 a1 = some (placeT l0 a1)) := ⟨by unfold share_place.f; rw [if_pos (by omega)]⟩
  have hq1 := Aside0.mk (quant1 a2 w)
  have hnm : Aside0 (unit_Name.f a1 = some (nameP a1)) := ⟨rfl⟩
  have hple := halfT_le l0 a1
  have hpt : (placeT l0 a1).2 = true → placeI l0 a1 < l0.length := fun h => by
    unfold placeT at h
    simp only [Bool.and_eq_true, decide_eq_true_eq] at h
    exact h.1
  have hp1 : (placeT l0 a1).1 = ((placeI l0 a1 : Nat) : Int) := rfl
  unfold addR at h
  cases hq : quantP a2 with
  | false =>
    rw [hq] at h hq1
    rw [if_neg (by simp)] at h
    obtain ⟨rfl, rfl⟩ := Prod.mk.inj h
    clear h hq hck hp1 hpt hple
    go_enter Try.func8, Try.ntmps8
    go_wp2_with (go_at_call 18; (with_reducible refine (hq1.out).mono ?_); rintro e w1 ⟨rfl, hb⟩; replace HB := Aside0.mk hb; clear hb)
    go_ret2
    exact ⟨_, rfl, Kd.V_nil _ _ _ _ _, HB.out⟩
  | true =>
  rw [hq] at h hq1
  rw [if_pos rfl] at h
  have ha2 : 0 ≤ a2 ∧ a2 ≤ 1099511627776 := by unfold quantP at hq; simpa only [decide_eq_true_eq] using hq
  clear hq
  cases hn : nameP a1 with
  | false =>
    rw [hn] at h hnm
    rw [if_neg (by simp)] at h
    obtain ⟨rfl, rfl⟩ := Prod.mk.inj h
    clear h hn hck hp1 hpt hple
    go_enter Try.func8, Try.ntmps8
    go_wp2_with (first
      | (go_at_call 18; (with_reducible refine (hq1.out).mono ?_); rintro e w1 ⟨rfl, hb⟩; replace HB := Aside0.mk hb; clear hb)
      | (go_at_call 19; (with_reducible refine (unit_Name.calls a1 false _ hnm.out).mono ?_); rintro e w2 ⟨rfl, hb⟩; replace HB := Aside0.mk (HB.out.trans (hb.mono HB.out.size)); clear hb))
    go_ret2
    exact ⟨_, rfl, Kd.V_nil _ _ _ _ _, HB.out⟩
  | true =>
  rw [hn] at h hnm
  rw [if_pos rfl] at h
  clear hn
  cases hk : okShares l0 with
  | false =>
    rw [hk] at h hck
    rw [if_neg (by simp)] at h
    obtain ⟨rfl, rfl⟩ := Prod.mk.inj h
    replace hck := Aside0.mk (show share_Check.f l0 = some 240 from hck)
    clear h hp1 hpt hple
    go_enter Try.func8, Try.ntmps8
    go_wp2_with (first
      | (go_at_call 18; (with_reducible refine (hq1.out).mono ?_); rintro e w1 ⟨rfl, hb⟩; replace HB := Aside0.mk hb; clear hb)
      | (go_at_call 19; (with_reducible refine (unit_Name.calls a1 true _ hnm.out).mono ?_); rintro e w2 ⟨rfl, hb⟩; replace HB := Aside0.mk (HB.out.trans (hb.mono HB.out.size)); clear hb)
      | (go_at_call 12; (with_reducible refine (share_Check.calls A0 c0 l0 240 _ (Kd.C_below HR.out HB.out) HC.out hck.out).mono ?_); rintro e w3 ⟨rfl, hb⟩; replace HB := Aside0.mk (HB.out.trans (hb.mono HB.out.size)); clear hb))
    go_ret2
    exact ⟨_, rfl, Kd.V_nil _ _ _ _ _, HB.out⟩
  | true =>
  rw [hk] at h hck
  rw [if_pos rfl] at h
  replace hck := Aside0.mk (show share_Check.f l0 = some 0 from hck)
  have hrng := Aside0.mk (okShares_rng l0 hk)
  have hl100 : l0.length ≤ 100 := by
    unfold okShares at hk
    simp only [Bool.and_eq_true, decide_eq_true_eq] at hk
    exact hk.2
  obtain ⟨P, hP⟩ : ∃ P, placeT l0 a1 = P := ⟨_, rfl⟩
  obtain ⟨p1, p2⟩ := P
  obtain ⟨m, hm⟩ : ∃ m, placeI l0 a1 = m := ⟨_, rfl⟩
  rw [hP] at hpl hpt hp1 h
  rw [hm] at hp1 hpt hple h
  replace hp1 : p1 = ((m : Nat) : Int) := hp1
  subst hp1
  clear hP hm hk
  cases p2 with
  | true =>
    rw [if_pos rfl] at h
    obtain ⟨h1, rfl⟩ := Prod.mk.inj h
    clear h
    have hlt : m < l0.length := hpt rfl
    have hlt' : (m : Int) < (l0.length : Int) := by omega
    clear hpt hple
    obtain ⟨x, hx⟩ : ∃ x, l0.getD m z52 = x := ⟨_, rfl⟩
    have hxr := hrng.out x (by rw [← hx, List.getD_eq_getElem?_getD, List.getElem?_eq_getElem hlt]; exact List.getElem_mem _)
    obtain ⟨hxr0, hxr1⟩ := hxr
    unfold addAt at h1
    rw [hx] at h1
    replace hx := Aside0.mk hx
    obtain ⟨y, hy⟩ : ∃ y, shAdd x.f1 a2 = y := ⟨_, rfl⟩
    have hyr : 0 ≤ y ∧ y ≤ 1099511627776 := by rw [← hy]; exact shAdd_rng _ _
    rw [hy] at h1
    replace h1 := Aside0.mk h1
    have hadd := Aside0.mk (show ∀ W : World, _ from fun W => hy ▸ add2 x.f1 a2 W)
    clear hy
    go_enter Try.func8, Try.ntmps8
    go_wp2_with (first
      | (go_at_call 18; (with_reducible refine (hq1.out).mono ?_); rintro e w1 ⟨rfl, hb⟩; replace HB := Aside0.mk hb; clear hb)
      | (go_at_call 19; (with_reducible refine (unit_Name.calls a1 true _ hnm.out).mono ?_); rintro e w2 ⟨rfl, hb⟩; replace HB := Aside0.mk (HB.out.trans (hb.mono HB.out.size)); clear hb)
      | (go_at_call 12; (with_reducible refine (share_Check.calls A0 c0 l0 0 _ (Kd.C_below HR.out HB.out) HC.out hck.out).mono ?_); rintro e w3 ⟨rfl, hb⟩; replace HB := Aside0.mk (HB.out.trans (hb.mono HB.out.size)); clear hb)
      | (go_at_call 20; (with_reducible refine (share_place.calls A0 c0 l0 a1 (m : Int) true _ (Kd.C_below HR.out HB.out) HC.out hpl.out).mono ?_); rintro e w4 ⟨rfl, hb⟩; replace HB := Aside0.mk (HB.out.trans (hb.mono HB.out.size)); clear hb)
      | (go_at_call 21; (with_reducible refine (share_Clone_own A0 c0 l0 _ (Kd.C_below HR.out HB.out) HC.out (by omega)).mono ?_); rintro e w5 ⟨v, rfl, ho, hb⟩; obtain ⟨g, c, rfl, hg1, hg2, _⟩ := Kd.R_form ho (by omega); have HO := Aside0.mk (Kd.R_lower ho HB.out.size); have hgw := Aside0.mk (Nat.le_trans HB.out.size hg1); replace HB := Aside0.mk (HB.out.trans (hb.mono HB.out.size)); obtain ⟨_, hx1, _⟩ := share_cells HO.out m hlt; rw [hx.out] at hx1; clear hb ho hg1 hg2)
      | (go_at_call 23; (with_reducible refine (hadd.out _).mono ?_); rintro e w6 ⟨rfl, hb⟩; have HO2 := Aside0.mk (Kd.R_below HO.out hb); replace HB := Aside0.mk (HB.out.trans (hb.mono HB.out.size)); have hc6 := (share_cells HO2.out m hlt).2.1; have hf : w6.frozen? ⟨g, m * 2 + 1, none⟩ = false := (share_cells HO2.out m hlt).2.2 1; have hput := Aside0.mk (share_put HO2.out m 1 hlt (by decide) (.int .i64 y) ⟨x.f0, y⟩ (by rw [hx.out]; rfl)); replace HB := Aside0.mk (HB.out.setCell (p := ⟨g, m * 2 + 1, none⟩) hgw.out (.int .i64 y)); clear hb HO HO2)
      | (go_at_call 24; (with_reducible refine (keep_used2 (some ⟨g, 0, none⟩) c l0.length _ _ (by rw [List.length_set]) (Kd.R_reads' hput.out).2.2 (by omega)).mono ?_); rintro e w7 ⟨v, rfl, hv, hb⟩; have HV := Aside0.mk (Kd.V_mono hv (fun k hk => Nat.le_trans HB.out.size hk)); replace HB := Aside0.mk (HB.out.trans (hb.mono HB.out.size)); clear hb hv))
    go_ret2
    exact ⟨_, rfl, by rw [← h1.out]; exact HV.out, HB.out⟩
  | false =>
    rw [if_neg (by simp)] at h
    clear hpt
    by_cases hful : 0 < a2 ∧ 100 ≤ l0.length
    · rw [if_pos hful] at h
      obtain ⟨rfl, rfl⟩ := Prod.mk.inj h
      obtain ⟨hf1, hf2⟩ := hful
      have hf2' : (100 : Int) ≤ (l0.length : Int) := by omega
      clear h
      go_enter Try.func8, Try.ntmps8
      go_wp2_with (first
        | (go_at_call 18; (with_reducible refine (hq1.out).mono ?_); rintro e w1 ⟨rfl, hb⟩; replace HB := Aside0.mk hb; clear hb)
        | (go_at_call 19; (with_reducible refine (unit_Name.calls a1 true _ hnm.out).mono ?_); rintro e w2 ⟨rfl, hb⟩; replace HB := Aside0.mk (HB.out.trans (hb.mono HB.out.size)); clear hb)
        | (go_at_call 12; (with_reducible refine (share_Check.calls A0 c0 l0 0 _ (Kd.C_below HR.out HB.out) HC.out hck.out).mono ?_); rintro e w3 ⟨rfl, hb⟩; replace HB := Aside0.mk (HB.out.trans (hb.mono HB.out.size)); clear hb)
        | (go_at_call 20; (with_reducible refine (share_place.calls A0 c0 l0 a1 (m : Int) false _ (Kd.C_below HR.out HB.out) HC.out hpl.out).mono ?_); rintro e w4 ⟨rfl, hb⟩; replace HB := Aside0.mk (HB.out.trans (hb.mono HB.out.size)); clear hb))
      go_ret2
      exact ⟨_, rfl, Kd.V_nil _ _ _ _ _, HB.out⟩
    rw [if_neg hful] at h
    obtain ⟨h1, rfl⟩ := Prod.mk.inj h
    clear h
    obtain ⟨X, hX⟩ : ∃ X, l0.take m ++ ⟨a1, 0⟩ :: l0.drop m = X := ⟨_, rfl⟩
    have hXl : X.length = l0.length + 1 := by rw [← hX]; simp; omega
    have hxm : X.getD m z52 = ⟨a1, 0⟩ := by
      rw [← hX, List.getD_eq_getElem?_getD, List.getElem?_append_right (by simp; omega)]
      rw [show m - (l0.take m).length = 0 by simp; omega]
      rfl
    have hlt : m < X.length := by omega
    rw [hX] at h1
    unfold addAt at h1
    rw [hxm] at h1
    obtain ⟨y, hy⟩ : ∃ y, shAdd 0 a2 = y := ⟨_, rfl⟩
    have hyr : 0 ≤ y ∧ y ≤ 1099511627776 := by rw [← hy]; exact shAdd_rng _ _
    replace h1 := Aside0.mk (show (X.set m ⟨a1, y⟩).filter usedP = r1 by rw [← hy]; exact h1)
    have hadd := Aside0.mk (show ∀ W : World, _ from fun W => hy ▸ add2 0 a2 W)
    have hins := Aside0.mk (show ∀ A c W, _ from fun A c W hr hb => hX ▸ insert_new A c l0 m a1 0 W w.heap.size hr hb (by omega) hple)
    clear hy hX
    have hlt' : (m : Int) < (X.length : Int) := by omega
    have hX' := Aside0.mk hXl
    replace hxm := Aside0.mk hxm
    have hlX : X.length ≤ 1000000 := by omega
    rcases (show ¬ 0 < a2 ∨ (0 < a2 ∧ ¬ (100 : Int) ≤ (l0.length : Int)) by omega) with hf1 | ⟨hf1, hf2⟩
    all_goals clear hful hXl
    all_goals go_enter Try.func8, Try.ntmps8
    all_goals go_wp2_with (first
      | (go_at_call 18; (with_reducible refine (hq1.out).mono ?_); rintro e w1 ⟨rfl, hb⟩; replace HB := Aside0.mk hb; clear hb)
      | (go_at_call 19; (with_reducible refine (unit_Name.calls a1 true _ hnm.out).mono ?_); rintro e w2 ⟨rfl, hb⟩; replace HB := Aside0.mk (HB.out.trans (hb.mono HB.out.size)); clear hb)
      | (go_at_call 12; (with_reducible refine (share_Check.calls A0 c0 l0 0 _ (Kd.C_below HR.out HB.out) HC.out hck.out).mono ?_); rintro e w3 ⟨rfl, hb⟩; replace HB := Aside0.mk (HB.out.trans (hb.mono HB.out.size)); clear hb)
      | (go_at_call 20; (with_reducible refine (share_place.calls A0 c0 l0 a1 (m : Int) false _ (Kd.C_below HR.out HB.out) HC.out hpl.out).mono ?_); rintro e w4 ⟨rfl, hb⟩; replace HB := Aside0.mk (HB.out.trans (hb.mono HB.out.size)); clear hb)
      | (go_at_call 21; (with_reducible refine (share_Clone_own A0 c0 l0 _ (Kd.C_below HR.out HB.out) HC.out (by omega)).mono ?_); rintro e w5 ⟨v, rfl, ho, hb⟩; obtain ⟨A, c, rfl⟩ := Kd.R_slice ho; have HO := Aside0.mk (Kd.R_lower ho HB.out.size); replace HB := Aside0.mk (HB.out.trans (hb.mono HB.out.size)); clear hb ho)
      | (go_at_call 22; (with_reducible refine (hins.out A c _ HO.out HB.out.size).mono ?_); rintro e w8 ⟨v, rfl, ho, hb⟩; obtain ⟨g, c', rfl, hg1, hg2, _⟩ := Kd.R_form ho (by omega); have HO3 := Aside0.mk ho; have hgw := Aside0.mk hg1; replace HB := Aside0.mk (HB.out.trans hb); obtain ⟨_, hx1, _⟩ := share_cells HO3.out m hlt; rw [hxm.out] at hx1; clear hb ho hg1 hg2 HO)
      | (go_at_call 23; (with_reducible refine (hadd.out _).mono ?_); rintro e w6 ⟨rfl, hb⟩; have HO2 := Aside0.mk (Kd.R_below HO3.out hb); replace HB := Aside0.mk (HB.out.trans (hb.mono HB.out.size)); have hc6 := (share_cells HO2.out m hlt).2.1; have hf : w6.frozen? ⟨g, m * 2 + 1, none⟩ = false := (share_cells HO2.out m hlt).2.2 1; have hput := Aside0.mk (share_put HO2.out m 1 hlt (by decide) (.int .i64 y) ⟨a1, y⟩ (by rw [hxm.out]; rfl)); replace HB := Aside0.mk (HB.out.setCell (p := ⟨g, m * 2 + 1, none⟩) hgw.out (.int .i64 y)); clear hb HO3 HO2)
      | (go_at_call 24; (with_reducible refine (keep_used2 (some ⟨g, 0, none⟩) c' X.length _ _ (by rw [List.length_set]) (Kd.R_reads' hput.out).2.2 hlX).mono ?_); rintro e w7 ⟨v, rfl, hv, hb⟩; have HV := Aside0.mk (Kd.V_mono hv (fun k hk => Nat.le_trans HB.out.size hk)); replace HB := Aside0.mk (HB.out.trans (hb.mono HB.out.size)); clear hb hv))
    all_goals go_ret2
    all_goals exact ⟨_, rfl, by rw [← h1.out]; exact HV.out, HB.out⟩

/-! ### share_Of: function 14 -/
def ofT (l : List S52) (u : ByteArray) : Int := if okShares l = true ∧ (placeT l u).2 = true then (l.getD (placeI l u) z52).f1 else 0
def share_Of.f (l : List S52) (u : ByteArray) : Option Int := if l.length ≤ 1000000 then some (ofT l u) else none
set_option maxHeartbeats 2000000 in
theorem share_Of.calls (A0 : Option Addr) (c0 : Nat) (l0 : List S52) (a1 : ByteArray) (r : Int) (w : World) (hr0 : Kd.C k52 w A0 l0.length l0) (hc0 : l0.length ≤ c0) (h : share_Of.f l0 a1 = some r) :
    Calls Try.prog 14 #[.slice A0 l0.length c0, .string a1] w fun e w' => e = .returned (.int .i64 r) ∧ Below w.heap.size w w' := by
  unfold share_Of.f at h
  by_cases hl : l0.length ≤ 1000000
  case neg => rw [if_neg hl] at h; cases h
  rw [if_pos hl] at h
  replace h := Option.some.inj h
  have HR := Aside0.mk hr0
  have HC := Aside0.mk hc0
  clear hr0 hc0
  have hpl : Aside0 (share_place.f l0 a1 = some (placeT l0 a1)) := ⟨by unfold share_place.f; rw [if_pos (by omega)]⟩
  have hpt : (placeT l0 a1).2 = true → placeI l0 a1 < l0.length := fun h => by
    unfold placeT at h
    simp only [Bool.and_eq_true, decide_eq_true_eq] at h
    exact h.1
  have hp1 : (placeT l0 a1).1 = ((placeI l0 a1 : Nat) : Int) := rfl
  have hck : Aside0 (share_Check.f l0 = some (if okShares l0 then 0 else 240)) := ⟨by unfold share_Check.f; rw [if_pos hl]⟩
  obtain ⟨P, hP⟩ : ∃ P, placeT l0 a1 = P := ⟨_, rfl⟩
  obtain ⟨p1, p2⟩ := P
  unfold ofT at h
  rw [hP] at hpl hpt hp1 h
  clear hP
  cases hk : okShares l0 with
  | false =>
    rw [hk] at hck h
    replace hck := Aside0.mk (show share_Check.f l0 = some 240 from hck.out)
    rw [if_neg (by simp)] at h
    subst h
    go_enter Try.func14, Try.ntmps14
    go_wp2_with (first
      | (go_at_call 20; (with_reducible refine (share_place.calls A0 c0 l0 a1 p1 p2 _ HR.out HC.out hpl.out).mono ?_); rintro e w1 ⟨rfl, hb⟩; have HB1 := Aside0.mk hb; clear hb)
      | (go_at_call 12; (with_reducible refine (share_Check.calls A0 c0 l0 240 _ (Kd.C_below HR.out HB1.out) HC.out hck.out).mono ?_); rintro e w2 ⟨rfl, hb⟩; have HB2 := Aside0.mk (HB1.out.trans (hb.mono HB1.out.size)); clear hb))
    go_ret
    exact ⟨rfl, HB2.out⟩
  | true =>
    rw [hk] at hck h
    replace hck := Aside0.mk (show share_Check.f l0 = some 0 from hck.out)
    cases p2 with
    | false =>
      rw [if_neg (by simp)] at h
      subst h
      go_enter Try.func14, Try.ntmps14
      go_wp2_with (first
        | (go_at_call 20; (with_reducible refine (share_place.calls A0 c0 l0 a1 p1 false _ HR.out HC.out hpl.out).mono ?_); rintro e w1 ⟨rfl, hb⟩; have HB1 := Aside0.mk hb; clear hb)
        | (go_at_call 12; (with_reducible refine (share_Check.calls A0 c0 l0 0 _ (Kd.C_below HR.out HB1.out) HC.out hck.out).mono ?_); rintro e w2 ⟨rfl, hb⟩; have HB2 := Aside0.mk (HB1.out.trans (hb.mono HB1.out.size)); clear hb))
      go_ret
      exact ⟨rfl, HB2.out⟩
    | true =>
      rw [if_pos ⟨rfl, rfl⟩] at h
      have hlt := hpt rfl
      obtain ⟨m, hm⟩ : ∃ m, placeI l0 a1 = m := ⟨_, rfl⟩
      rw [hm] at hlt hp1 h
      replace hp1 : p1 = ((m : Nat) : Int) := hp1
      subst hp1
      clear hm hpt
      have hm0 : (0 : Int) ≤ (m : Int) := Int.natCast_nonneg _
      have hm1 : (m : Int) < (l0.length : Int) := by omega
      have hcell : Aside0 (∀ W, Below w.heap.size w W → ∃ ad, A0 = some ad ∧ W.cell? ⟨(ad.add (m * 2)).block, (ad.add (m * 2)).off + 1, none⟩ = some (.int .i64 r)) := ⟨fun W hW => by
        obtain ⟨ad, eA, _, hy1⟩ := at_T52 (Kd.C_below HR.out hW) (m : Int) hm0 hm1
        have er : rd_T52 l0 (m : Int) = l0.getD m z52 := by simp [rd_T52]
        rw [er, Int.toNat_natCast, h] at hy1
        exact ⟨ad, eA, hy1⟩⟩
      obtain ⟨ad, eA, _⟩ := hcell.out w (Below.refl _ _)
      subst eA
      clear h
      go_enter Try.func14, Try.ntmps14
      go_wp2_with (first
        | (go_at_call 20; (with_reducible refine (share_place.calls (some ad) c0 l0 a1 (m : Int) true _ HR.out HC.out hpl.out).mono ?_); rintro e w1 ⟨rfl, hb⟩; have HB1 := Aside0.mk hb; clear hb)
        | (go_at_call 12; (with_reducible refine (share_Check.calls (some ad) c0 l0 0 _ (Kd.C_below HR.out HB1.out) HC.out hck.out).mono ?_); rintro e w2 ⟨rfl, hb⟩; have HB2 := Aside0.mk (HB1.out.trans (hb.mono HB1.out.size)); clear hb; obtain ⟨_, eA, hy⟩ := hcell.out _ HB2.out; cases eA))
      go_ret
      exact ⟨rfl, HB2.out⟩

end Go.Proofs.Ytjhpgfgpchgabaa.P
