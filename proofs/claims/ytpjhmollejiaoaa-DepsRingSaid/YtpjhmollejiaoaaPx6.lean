-- Written by this session's program gprint.py: functions of the program as plain functions, and that the machine does what they say. Not trusted: Lean checks it.
import Derived.Test.YtpjhmollejiaoaaPx0
import Derived.Test.YtpjhmollejiaoaaPx1
import Derived.Test.YtpjhmollejiaoaaPx2
import Derived.Test.YtpjhmollejiaoaaPx3
import Derived.Test.YtpjhmollejiaoaaPx5
namespace Go.Proofs.Ytpjhmollejiaoaa.P
open Go.RowKit Go.Proofs.YtpjhmollejiaoaaW.PrintWords Go.Proofs.YtpjhmollejiaoaaW.PrintLast Go.Proofs.YtpjhmollejiaoaaW.PrintMore
attribute [local go_sem] max2_int min2_int max_two min_two max_three min_three max_four min_four   -- for this text's walks alone
set_option linter.unusedVariables false
set_option linter.unusedSimpArgs false

/-! ### forebaylaw21_DepsRing: function 5 -/
/-- The map as it is filled from two rows. -/
def adjN (l0 : List Int) (l1 : List (List S28)) : Nat → Int → List S28
  | 0, _ => []
  | i + 1, j => if j = rd l0 (i : Int) then rd_L4 l1 (i : Int) else adjN l0 l1 i j
/-- No round up to one ends early. -/
def okN (l0 : List Int) (l1 : List (List S28)) : Nat → Bool
  | 0 => true
  | i + 1 => okN l0 l1 i && (!(l0.take i).any (fun x => x == rd l0 (i : Int)) && decide ((rd_L4 l1 (i : Int)).length ≤ 8))
/-- All lead on to greater numbers. -/
def upN (l0 : List Int) (l1 : List (List S28)) : Nat → Bool
  | 0 => true
  | i + 1 => upN l0 l1 i && (rd_L4 l1 (i : Int)).all (fun d => decide (rd l0 (i : Int) < d.f0))
theorem okN_mono (l0 : List Int) (l1 : List (List S28)) (n : Nat) : ∀ d, okN l0 l1 (n + d) = true → okN l0 l1 n = true := by
  intro d
  induction d with
  | zero => exact fun h => h
  | succ d ih => intro h; rw [Nat.add_succ, okN, Bool.and_eq_true] at h; exact ih h.1
/-- The numbers are numbers. -/
def wfDR (l0 : List Int) (l1 : List (List S28)) (a2 : Int) : Bool := l0.all (fun x => (Lit.int .i64 x).wf) && (l1.all (fun r => r.all (fun d => (Lit.int .i64 d.f0).wf)) && (Lit.int .i64 a2).wf)
noncomputable def forebaylaw21_DepsRing.f (k : Nat) (l0 : List Int) (l1 : List (List S28)) (a2 : Int) : Option Bool :=
  if wfDR l0 l1 a2 = true then
    (if 20 < l0.length ∨ l1.length ≠ l0.length ∨ okN l0 l1 l0.length = false then forebaylaw21_head.f k else
      (forebayref21_Ring.f k l0 l1 a2).bind fun t => if ringT (adjN l0 l1 l0.length) a2 = t then (if (upN l0 l1 l0.length && ringT (adjN l0 l1 l0.length) a2) = true then some false else forebaylaw21_head.f k) else some false)
  else none
theorem forebaylaw21_DepsRing.mono : ∀ a0 a1 a2 k, LeO (forebaylaw21_DepsRing.f k a0 a1 a2) (forebaylaw21_DepsRing.f (k + 1) a0 a1 a2) := by
  intro a0 a1 a2 k
  unfold forebaylaw21_DepsRing.f
  repeat' first
      | (with_reducible exact forebaylaw21_head.mono _)
      | (with_reducible exact forebayref21_Ring.mono _ _ _ _)
      | (with_reducible exact LeO.refl _)
      | (with_reducible exact LeO.none _)
      | (with_reducible refine LeO.ite ?_ ?_)
      | (with_reducible refine LeO.bind ?_ (fun _ => ?_))
      | exact LeO.none _
      | refine LeO.ite ?_ ?_
      | refine LeO.bind ?_ (fun _ => ?_)
/-- What stands within the law's loops: the map H with what was put into it. -/
structure DSt (w : World) (l0 : List Int) (l1 : List (List S28)) (H i : Nat) (W : World) : Prop where
  below : Below H w W
  map : ∃ f : Int → Value, MapI W Try.prog 2 (.slice none 0 0) H i f ∧ ∀ j : Int, (Lit.int .i64 j).wf = true → ∃ A c, f j = .slice A (adjN l0 l1 i j).length c ∧ Kd.C k28 w A (adjN l0 l1 i j).length (adjN l0 l1 i j)
theorem DSt.drewN {w W : World} {l0 : List Int} {l1 : List (List S28)} {H i : Nat} (h : DSt w l0 l1 H i W) (n : Nat) : DSt w l0 l1 H i (W.drewN n) := by
  obtain ⟨h1, f, h2, h3⟩ := h
  exact ⟨h1.trans (pw_below_drewN (Below.refl _ _) n), f, h2.kept rfl, h3⟩
theorem DSt.start {w : World} {H : Nat} (hH : w.heap.size = H) (l0 : List Int) (l1 : List (List S28)) : DSt w l0 l1 H 0 (w.alloc (.map #[] 0)) := by
  subst hH
  exact ⟨(Below.refl _ w).alloc (Nat.le_refl _) _, _, MapI.made w _ _ _, fun j _ => ⟨none, 0, rfl, Kd.F_now (Kd.F_nil _ _ (fun _ => True))⟩⟩
theorem DSt.is {w W : World} {H : Nat} (hH : w.heap.size = H) {l0 : List Int} {l1 : List (List S28)} {i : Nat} (h : DSt w l0 l1 H i W) : IsAfter W (.map (some H)) (adjN l0 l1 i) := by
  subst hH
  obtain ⟨h1, f, h2, h3⟩ := h
  exact ⟨f, .inr ⟨_, _, rfl, h2⟩, fun j hj => by obtain ⟨A, c, e, h4⟩ := h3 j hj; exact ⟨A, c, e, Kd.C_below h4 h1⟩⟩
theorem DSt.put {w W : World} {H : Nat} {l0 : List Int} {l1 : List (List S28)} {i : Nat} (h : DSt w l0 l1 H i W) (hi : i < maxLen) (hw : (Lit.int .i64 (rd l0 (i : Int))).wf = true) {A : Option Addr} {c : Nat} (hr : Kd.C k28 w A (rd_L4 l1 (i : Int)).length (rd_L4 l1 (i : Int))) :
    ∃ W', (Instr.mapUpdate 36 (.map (some H)) (.int .i64 (rd l0 (i : Int))) (.slice A (rd_L4 l1 (i : Int)).length c)).run Try.prog W = .ok () W' ∧ DSt w l0 l1 H (i + 1) W' := by
  obtain ⟨h1, f, h2, h3⟩ := h
  obtain ⟨W', r1, r2, r3⟩ := h2.update Try.underlying2 Try.underlying36 hi hw (.slice A (rd_L4 l1 (i : Int)).length c)
  refine ⟨W', r1, h1.trans ⟨r3.os, r3.tape, r3.output, r3.size, fun k hk => r3.block k (Nat.lt_trans hk h2.lt) (fun e => by injection e with e; omega)⟩, _, r2, fun j hj => ?_⟩
  by_cases e : j = rd l0 (i : Int)
  · refine ⟨A, c, ?_, ?_⟩
    · rw [if_pos e, adjN, if_pos e]
    · rw [adjN, if_pos e]; exact hr
  · obtain ⟨A', c', e1, e2⟩ := h3 j hj
    refine ⟨A', c', ?_, ?_⟩
    · rw [if_neg e, adjN, if_neg e]; exact e1
    · rw [adjN, if_neg e]; exact e2
theorem adjN_mem (l0 : List Int) (l1 : List (List S28)) (i : Nat) : ∀ j, ∀ y ∈ succT (adjN l0 l1 i) j, y ∈ l1.flatMap (fun r => r.map S28.f0) := by
  induction i with
  | zero => intro j y hy; simp [succT, adjN] at hy
  | succ i ih =>
    intro j y hy
    unfold succT at hy ih
    rw [adjN] at hy
    by_cases e : j = rd l0 (i : Int)
    · rw [if_pos e] at hy
      by_cases hi : i < l1.length
      · refine List.mem_flatMap.2 ⟨rd_L4 l1 (i : Int), ?_, hy⟩
        simp [rd_L4, hi]
      · have : rd_L4 l1 (i : Int) = [] := by simp [rd_L4, hi]
        rw [this] at hy
        cases hy
    · rw [if_neg e] at hy
      exact ih j y hy
theorem adjN_len (l0 : List Int) (l1 : List (List S28)) (i : Nat) : okN l0 l1 i = true → ∀ j, (adjN l0 l1 i j).length ≤ 8 := by
  induction i with
  | zero => intro _ j; simp [adjN]
  | succ i ih =>
    intro h j
    rw [okN, Bool.and_eq_true, Bool.and_eq_true] at h
    rw [adjN]
    by_cases e : j = rd l0 (i : Int)
    · rw [if_pos e]; exact of_decide_eq_true h.2.2
    · rw [if_neg e]; exact ih h.1 j
theorem adjN_lenU (l0 : List Int) (l1 : List (List S28)) (hL : l1.length = l0.length) (hA : l0.length ≤ 20) (h : okN l0 l1 l0.length = true) : (l1.flatMap (fun r => r.map S28.f0)).length ≤ 100000 := by
  have key : ∀ n, okN l0 l1 n = true → ((l1.take n).flatMap (fun r => r.map S28.f0)).length ≤ 8 * n := by
    intro n
    induction n with
    | zero => intro _; simp
    | succ n ih =>
      intro h1
      rw [okN, Bool.and_eq_true, Bool.and_eq_true] at h1
      have h2 := ih h1.1
      have h3 := of_decide_eq_true h1.2.2
      by_cases hn : n < l1.length
      · rw [List.take_succ_eq_append_getElem hn, List.flatMap_append, List.length_append]
        have e : rd_L4 l1 (n : Int) = l1[n] := by simp [rd_L4, hn]
        rw [e] at h3
        simp only [List.flatMap_cons, List.flatMap_nil, List.append_nil, List.length_map]
        omega
      · rw [List.take_of_length_le (by omega)] at h2 ⊢
        omega
  have := key l0.length h
  rw [← hL, List.take_length] at this
  omega
set_option maxHeartbeats 2000000 in
set_option maxRecDepth 100000 in
theorem forebaylaw21_DepsRing.calls (k : Nat) (A0 : Option Addr) (c0 : Nat) (l0 : List Int) (A1 : Option Addr) (c1 : Nat) (l1 : List (List S28)) (a2 : Int) (r : Bool) (w : World) (hr0 : Kd.C (Kd.int .i64) w A0 l0.length l0) (hc0 : l0.length ≤ c0) (hr1 : Kd.C (Kd.slice 28 k28) w A1 l1.length l1) (hc1 : l1.length ≤ c1) (h : forebaylaw21_DepsRing.f k l0 l1 a2 = some r) :
    Calls Try.prog 5 #[.slice A0 l0.length c0, .slice A1 l1.length c1, .int .i64 a2] w fun e w' => e = .returned (.bool r) ∧ Below w.heap.size w w' := by
  have HR0 := Aside0.mk hr0
  have HC0 := Aside0.mk hc0
  clear hr0 hc0
  have HR1 := Aside0.mk hr1
  have HC1 := Aside0.mk hc1
  clear hr1 hc1
  have HB := Aside0.mk (Below.refl w.heap.size w)
  unfold forebaylaw21_DepsRing.f at h
  by_cases hwf : wfDR l0 l1 a2 = true
  case neg => rw [if_neg hwf] at h; cases h
  rw [if_pos hwf] at h
  have hmm := @run_makeMap Try.prog
  by_cases hA : 20 < l0.length
  · rw [if_pos (.inl hA)] at h
    have cA : decide (20 < (l0.length : Int)) = true := decide_eq_true (by omega)
    have cA' : decide (20 < l0.length) = true := decide_eq_true hA
    replace h := Aside0.mk h
    clear hwf hA
    go_enter Try.func5, Try.ntmps5
    go_wp2_with (go_at_call 7; with_reducible refine (forebaylaw21_head.calls _ _ _ h.out).mono ?_; rintro e w1 ⟨rfl, hb⟩)
    go_ret
    exact ⟨rfl, hb⟩
  have cA : decide (20 < (l0.length : Int)) = false := decide_eq_false (by omega)
  have cA' : decide (20 < l0.length) = false := decide_eq_false hA
  by_cases hB : l1.length ≠ l0.length
  · rw [if_pos (.inr (.inl hB))] at h
    have cB : ((l1.length : Int) == (l0.length : Int)) = false := beq_eq_false_iff_ne.mpr (by omega)
    have cB' : ((l1.length : Int) != (l0.length : Int)) = true := bne_iff_ne.mpr (by omega)
    have cB2 : (l1.length == l0.length) = false := beq_eq_false_iff_ne.mpr hB
    replace h := Aside0.mk h
    clear hwf hA hB
    go_enter Try.func5, Try.ntmps5
    go_wp2_with (go_at_call 7; with_reducible refine (forebaylaw21_head.calls _ _ _ h.out).mono ?_; rintro e w1 ⟨rfl, hb⟩)
    go_ret
    exact ⟨rfl, hb⟩
  have hB' : l1.length = l0.length := by omega
  have cB : ((l1.length : Int) == (l0.length : Int)) = true := by rw [hB']; simp
  have cB' : ((l1.length : Int) != (l0.length : Int)) = false := by rw [hB']; simp
  have HL := Aside0.mk hB'
  have hA1 : l0.length ≤ 20 := by omega
  clear hB hB' hA
  replace h := Aside0.mk h
  replace hwf := Aside0.mk hwf
  obtain ⟨H, hH⟩ : ∃ H, w.heap.size = H := ⟨_, rfl⟩
  have HS0 := Aside0.mk (DSt.start hH l0 l1)
  go_enter Try.func5, Try.ntmps5
  go_wp2
  go_loopg [8, 9] l0.length (fun kq v8 v9 W => ∃ i : Nat, v9 = .int .i64 i ∧ v8 = .bool (upN l0 l1 i) ∧ Aside0 (kq + i = l0.length) ∧ Aside0 (okN l0 l1 i = true) ∧ Aside0 (DSt w l0 l1 H i W))
  case atStart => exact ⟨0, rfl, rfl, ⟨rfl⟩, ⟨rfl⟩, HS0⟩
  case round =>
    obtain ⟨i, rfl, rfl, HK, HO, HS⟩ := hrel
    cases gk with
    | zero =>
      obtain rfl : i = l0.length := by have := HK.out; omega
      have hqd : decide ((l0.length : Int) < (l0.length : Int)) = false := by simp
      have hqn : decide (l0.length < l0.length) = false := by simp
      have h' := h.out
      have hn : ¬ (20 < l0.length ∨ l1.length ≠ l0.length ∨ okN l0 l1 l0.length = false) := by
        rintro (h1 | h1 | h1)
        · omega
        · exact h1 HL.out
        · rw [HO.out] at h1; cases h1
      rw [if_neg hn] at h'
      obtain ⟨t, ht, h''⟩ := Option.bind_eq_some_iff.1 h'
      replace h'' := Aside0.mk h''
      replace ht := Aside0.mk ht
      clear h' hn
      have hu := hwf.out
      unfold wfDR at hu
      rw [Bool.and_eq_true, Bool.and_eq_true, List.all_eq_true, List.all_eq_true] at hu
      have hB1 := Aside0.mk (show Below w.heap.size w _ from by rw [hH]; exact HS.out.below)
      have call1 := Aside0.mk (deps_Ring.calls (adjN l0 l1 l0.length) (l1.flatMap (fun r => r.map S28.f0)) (.map (some H)) a2 _ (HS.out.is hH) hu.2.2 (adjN_mem l0 l1 l0.length) (by
        intro u hu'
        obtain ⟨r, hr, hur⟩ := List.mem_flatMap.1 hu'
        obtain ⟨d, hd, rfl⟩ := List.mem_map.1 hur
        exact List.all_eq_true.1 (hu.2.1 r hr) d hd) (adjN_lenU l0 l1 HL.out hA1 HO.out) (fun j => Nat.le_trans (adjN_len l0 l1 l0.length HO.out j) (by decide)) rfl)
      clear hu
      generalize hring : ringT (adjN l0 l1 l0.length) a2 = rg at *
      generalize hup : upN l0 l1 l0.length = up at *
      replace hring := Aside0.mk hring
      replace hup := Aside0.mk hup
      cases t <;> cases rg <;> cases up
      all_goals
        have h3 := h''.out
        simp at h3
        first
        | subst h3
        | replace h3 := Aside0.mk h3
        go_wp2_with (first | (go_at_call 10; with_reducible refine (call1.out).mono ?_; rintro e w1 ⟨rfl, hb1⟩; have HW1 := Aside0.mk (hB1.out.trans (hb1.mono hB1.out.size)); clear hb1) | (go_at_call 11; with_reducible refine (forebayref21_Ring.calls _ _ _ l0 _ _ l1 _ _ _ (Kd.C_below HR0.out HW1.out) HC0.out (Kd.C_below HR1.out HW1.out) HC1.out ht.out).mono ?_; rintro e w2 ⟨rfl, hb2⟩; have HW2 := Aside0.mk (HW1.out.trans (hb2.mono HW1.out.size)); clear hb2) | (go_at_call 7; with_reducible refine (forebaylaw21_head.calls _ _ _ h3.out).mono ?_; rintro e w3 ⟨rfl, hb3⟩; have HW3 := Aside0.mk (HW2.out.trans (hb3.mono HW2.out.size)); clear hb3))
        go_ret
        first
        | exact ⟨rfl, HW3.out⟩
        | exact ⟨rfl, HW2.out⟩
    | succ k1 =>
      have hlt : i < l0.length := by have := HK.out; omega
      have hlt0 : (0 : Int) ≤ (i : Int) := Int.natCast_nonneg _
      have hlt1 : (i : Int) < (l0.length : Int) := by omega
      have hlt2 : (i : Int) < (l1.length : Int) := by have := HL.out; omega
      have hltd : decide ((i : Int) < (l0.length : Int)) = true := decide_eq_true hlt1
      have hltn : decide (i < l0.length) = true := decide_eq_true hlt
      obtain ⟨ad, eA, hx⟩ := Kd.at_int HR0.out (i : Int) hlt0 hlt1
      obtain ⟨ad1, RA, rc, eA1, hy, hrc, hrow⟩ := at_L4 HR1.out (i : Int) hlt0 hlt2
      subst eA
      subst eA1
      rw [Int.toNat_natCast] at hx hy
      have HX := Aside0.mk hx
      have HY := Aside0.mk hy
      have HRow := Aside0.mk hrow
      have HRc := Aside0.mk hrc
      clear hx hy hrow hrc
      clear HS0
      go_wp2
      go_loopg [10] i (fun kq v10 W => ∃ m : Nat, v10 = .int .i64 m ∧ Aside0 (kq + m = i) ∧ Aside0 ((l0.take m).any (fun x => x == rd l0 (i : Int)) = false) ∧ Aside0 (DSt w l0 l1 H i W))
      case atStart => exact ⟨0, rfl, ⟨rfl⟩, ⟨rfl⟩, HS⟩
      case round =>
        clear HS
        obtain ⟨m, rfl, HKm, HN, HS⟩ := hrel
        have hHb := Aside0.mk (show Below w.heap.size w _ from by rw [hH]; exact HS.out.below)
        cases gk with
        | zero =>
          obtain rfl : m = i := by have := HKm.out; omega
          have hmd : decide ((m : Int) < (m : Int)) = false := by simp
          have hmn : decide (m < m) = false := by simp
          have hy' := (hHb.out.cell (World.block_lt_of_cell? w _ HY.out)).trans HY.out
          by_cases e : 8 < (rd_L4 l1 (m : Int)).length
          · have e1 : decide (8 < ((rd_L4 l1 (m : Int)).length : Int)) = true := decide_eq_true (by omega)
            have e2 : decide (8 < (rd_L4 l1 (m : Int)).length) = true := decide_eq_true e
            have hbad : okN l0 l1 l0.length = false := by
              cases hk : okN l0 l1 l0.length with
              | false => rfl
              | true =>
                exfalso
                have h1 : okN l0 l1 (m + 1) = true := okN_mono l0 l1 (m + 1) (l0.length - (m + 1)) (by rw [show m + 1 + (l0.length - (m + 1)) = l0.length by omega]; exact hk)
                rw [okN, Bool.and_eq_true, Bool.and_eq_true] at h1
                have h2 := of_decide_eq_true h1.2.2
                omega
            have h' := h.out
            rw [if_pos (.inr (.inr hbad))] at h'
            replace h' := Aside0.mk h'
            clear hbad
            clear e
            go_wp2_with (go_at_call 7; with_reducible refine (forebaylaw21_head.calls _ _ _ h'.out).mono ?_; rintro e w1 ⟨rfl, hb⟩)
            go_ret
            exact ⟨rfl, hHb.out.trans (hb.mono hHb.out.size)⟩
          · have e1 : decide (8 < ((rd_L4 l1 (m : Int)).length : Int)) = false := decide_eq_false (by omega)
            have e2 : decide (8 < (rd_L4 l1 (m : Int)).length) = false := decide_eq_false e
            have HO' : Aside0 (okN l0 l1 (m + 1) = true) := ⟨by rw [okN, HO.out, HN.out]; simpa using e⟩
            have HUp : Aside0 (upN l0 l1 (m + 1) = (upN l0 l1 m && (rd_L4 l1 (m : Int)).all (fun d => decide (rd l0 (m : Int) < d.f0)))) := ⟨by rw [upN]⟩
            have hwfm : Aside0 ((Lit.int .i64 (rd l0 (m : Int))).wf = true) := ⟨by
              have h1 := hwf.out
              unfold wfDR at h1
              rw [Bool.and_eq_true, List.all_eq_true] at h1
              exact h1.1 _ (by simp [rd, show m < l0.length from hlt])⟩
            have hput := Aside0.mk (fun (W : World) (hS : DSt w l0 l1 H m W) => hS.put (A := RA) (c := rc) (Nat.lt_of_lt_of_le (show m < 20 by omega) (by decide)) hwfm.out HRow.out)
            have hrl : (rd_L4 l1 (m : Int)).length ≤ 8 := by omega
            clear e HO HN
            generalize hup : upN l0 l1 m = up at *
            generalize hrow_ : rd_L4 l1 (m : Int) = row at *
            generalize hji : rd l0 (m : Int) = ji at *
            have HE := Aside0.mk hup
            have HE1 := Aside0.mk hrow_
            have HE2 := Aside0.mk hji
            clear hup hrow_ hji
            go_wp2
            go_loopg [8, 11] row.length (fun kq v8 v11 W => ∃ q : Nat, v11 = .int .i64 q ∧ v8 = .bool (up && (row.take q).all (fun d => decide (ji < d.f0))) ∧ Aside0 (kq + q = row.length) ∧ Aside0 (DSt w l0 l1 H m W))
            case atStart => exact ⟨0, rfl, by simp, ⟨rfl⟩, HS⟩
            case round =>
              clear hHb HS hy'
              obtain ⟨q, rfl, rfl, HKq, HS⟩ := hrel
              have hHb := Aside0.mk (show Below w.heap.size w _ from by rw [hH]; exact HS.out.below)
              have hy' := (hHb.out.cell (World.block_lt_of_cell? w _ HY.out)).trans HY.out
              have hx' := (hHb.out.cell (World.block_lt_of_cell? w _ HX.out)).trans HX.out
              cases gk with
              | zero =>
                obtain rfl : q = row.length := by have := HKq.out; omega
                have hqd : decide ((row.length : Int) < (row.length : Int)) = false := by simp
                have hqn : decide (row.length < row.length) = false := by simp
                have hfin : Aside0 ((up && (row.take row.length).all (fun d => decide (ji < d.f0))) = upN l0 l1 (m + 1)) := ⟨by rw [List.take_length, HUp.out]⟩
                go_upto_region 19 with (fail)
                go_still_tail 9, (by kernel_rfl)
                obtain ⟨W', hrW, hSW⟩ := hput.out wr.drew (HS.out.drewN 1)
                replace hSW := Aside0.mk hSW
                change wpList _ _ _ _ _ wr.drew
                go_wp2
                go_roundg k1
                case measure => omega
                case rel => exact ⟨m + 1, by go_num, by rw [HUp.out], ⟨by have := HK.out; omega⟩, HO', hSW⟩
              | succ k3 =>
                have hq : q < row.length := by have := HKq.out; omega
                have hqd : decide ((q : Int) < (row.length : Int)) = true := decide_eq_true (by omega)
                have hqn : decide (q < row.length) = true := decide_eq_true hq
                obtain ⟨ad2, eA2, hz0, hz1⟩ := at_T28 HRow.out (q : Int) (Int.natCast_nonneg _) (by omega)
                subst eA2
                rw [Int.toNat_natCast] at hz0 hz1
                have hz0' := (hHb.out.cell (World.block_lt_of_cell? w _ hz0)).trans hz0
                have htk : row.take (q + 1) = row.take q ++ [rd_T28 row (q : Int)] := by
                  rw [List.take_succ_eq_append_getElem hq]
                  congr 2
                  simp [rd_T28, hq]
                have hnx : Aside0 ((up && (row.take (q + 1)).all (fun d => decide (ji < d.f0))) = ((up && (row.take q).all (fun d => decide (ji < d.f0))) && decide (ji < (rd_T28 row (q : Int)).f0))) := ⟨by rw [htk, List.all_append]; simp [Bool.and_assoc]⟩
                clear htk hz1
                generalize hb0 : (up && (row.take q).all (fun d => decide (ji < d.f0))) = b0 at *
                have HE3 := Aside0.mk hb0
                clear hb0
                cases b0 with
                | false =>
                  go_wp2
                  go_quiet (fail)
                  go_wp2
                  go_roundg k3
                  case measure => omega
                  case rel => exact ⟨q + 1, by go_num, by rw [hnx.out]; simp, ⟨by have := HKq.out; omega⟩, ⟨HS.out.drewN _⟩⟩
                | true =>
                  generalize (rd_T28 row (q : Int)).f0 = dj at *
                  go_wp2
                  go_quiet (fail)
                  go_wp2
                  go_roundg k3
                  case measure => omega
                  case rel => exact ⟨q + 1, by go_num, by rw [hnx.out]; simp, ⟨by have := HKq.out; omega⟩, ⟨HS.out.drewN _⟩⟩
        | succ k2 =>
          have hm : m < i := by have := HKm.out; omega
          have hm1 : (m : Int) < (i : Int) := by omega
          have hmd : decide ((m : Int) < (i : Int)) = true := decide_eq_true hm1
          have hmn : decide (m < i) = true := decide_eq_true hm
          obtain ⟨adm, eAm, hxm⟩ := Kd.at_int HR0.out (m : Int) (Int.natCast_nonneg _) (by omega)
          obtain rfl : ad = adm := by injection eAm
          rw [Int.toNat_natCast] at hxm
          have hxm' := (hHb.out.cell (World.block_lt_of_cell? w _ hxm)).trans hxm
          have hx' := (hHb.out.cell (World.block_lt_of_cell? w _ HX.out)).trans HX.out
          have htk : l0.take (m + 1) = l0.take m ++ [rd l0 (m : Int)] := by
            rw [List.take_succ_eq_append_getElem (by omega)]
            congr 2
            simp [rd, show m < l0.length by omega]
          by_cases e : rd l0 (m : Int) = rd l0 (i : Int)
          · have hbad : okN l0 l1 l0.length = false := by
              cases hk : okN l0 l1 l0.length with
              | false => rfl
              | true =>
                exfalso
                have h1 : okN l0 l1 (i + 1) = true := okN_mono l0 l1 (i + 1) (l0.length - (i + 1)) (by rw [show i + 1 + (l0.length - (i + 1)) = l0.length by omega]; exact hk)
                rw [okN, Bool.and_eq_true, Bool.and_eq_true, Bool.not_eq_true'] at h1
                have h2 := h1.2.1
                rw [← Bool.not_eq_true, List.any_eq_true] at h2
                refine h2 ⟨rd l0 (m : Int), ?_, by rw [e]; simp⟩
                have h3 : l0.take i = l0.take (m + 1) ++ (l0.take i).drop (m + 1) := by
                  have := (List.take_append_drop (m + 1) (l0.take i)).symm
                  rwa [List.take_take, Nat.min_eq_left (by omega)] at this
                rw [h3, htk]
                simp
            have h' := h.out
            rw [if_pos (.inr (.inr hbad))] at h'
            replace h' := Aside0.mk h'
            have he : (rd l0 (m : Int) == rd l0 (i : Int)) = true := by simpa using e
            clear e htk hbad hxm
            generalize rd l0 (i : Int) = ji at *
            generalize rd l0 (m : Int) = jm at *
            go_wp2
            go_quiet (fail)
            go_wp2_with (go_at_call 7; with_reducible refine (forebaylaw21_head.calls _ _ _ h'.out).mono ?_; rintro e w1 ⟨rfl, hb⟩)
            go_ret
            exact ⟨rfl, (hHb.out.trans ((pw_below_drewN (Below.refl _ _) _).mono hHb.out.size)).trans (hb.mono hHb.out.size)⟩
          · have he : (rd l0 (m : Int) == rd l0 (i : Int)) = false := by simpa using e
            have hN2 := Aside0.mk (show (l0.take (m + 1)).any (fun x => x == rd l0 (i : Int)) = false from by rw [htk, List.any_append, HN.out]; simp [e])
            clear e htk
            generalize rd l0 (i : Int) = ji at *
            generalize rd l0 (m : Int) = jm at *
            go_wp2
            go_quiet (fail)
            go_wp2
            go_roundg k2
            case measure => omega
            case rel => exact ⟨m + 1, by go_num, ⟨by have := HKm.out; omega⟩, hN2, ⟨HS.out.drewN _⟩⟩

/-- THE ONE PURE STATEMENT of forebaylaw21_DepsRing: yours. -/
def forebaylaw21_DepsRing.Pure : Prop := ∀ (l0 : List Int) (l1 : List (List (S28))) (a2 : Int), (l0.length * 8 ≤ 140737488351232 ∧ l0.length ≤ maxLen ∧ ∀ x ∈ l0, (fun n : Int => (Lit.int .i64 n).wf = true) x) → (l1.length * 24 ≤ 140737488351232 ∧ l1.length ≤ maxLen ∧ ∀ x ∈ l1, (fun l : List (S28) => l.length * 16 ≤ 140737488351232 ∧ l.length ≤ maxLen ∧ ∀ x ∈ l, inv28 x) x) → (Lit.int .i64 a2).wf = true → ∃ k, forebaylaw21_DepsRing.f k l0 l1 a2 = some true
theorem forebaylaw21_DepsRing.walk (P : forebaylaw21_DepsRing.Pure) (A0 : Option Addr) (c0 : Nat) (l0 : List Int) (A1 : Option Addr) (c1 : Nat) (l1 : List (List (S28))) (a2 : Int) (w : World) (hr0 : Kd.C (Kd.int .i64) w A0 l0.length l0) (hc0 : l0.length ≤ c0) (hr1 : Kd.C (Kd.slice 28 k28) w A1 l1.length l1) (hc1 : l1.length ≤ c1) (y0 : (l0.length * 8 ≤ 140737488351232 ∧ l0.length ≤ maxLen ∧ ∀ x ∈ l0, (fun n : Int => (Lit.int .i64 n).wf = true) x)) (y1 : (l1.length * 24 ≤ 140737488351232 ∧ l1.length ≤ maxLen ∧ ∀ x ∈ l1, (fun l : List (S28) => l.length * 16 ≤ 140737488351232 ∧ l.length ≤ maxLen ∧ ∀ x ∈ l, inv28 x) x)) (y2 : (Lit.int .i64 a2).wf = true) :
    Calls Try.prog 5 #[.slice A0 l0.length c0, .slice A1 l1.length c1, .int .i64 a2] w fun e w' => e = .returned (.bool true) ∧ Below w.heap.size w w' := by
  obtain ⟨k, h⟩ := P l0 l1 a2 y0 y1 y2
  refine (forebaylaw21_DepsRing.calls k A0 c0 l0 A1 c1 l1 a2 true w hr0 hc0 hr1 hc1 h).mono ?_
  rintro e w' ⟨rfl, hd⟩
  exact ⟨rfl, hd⟩

end Go.Proofs.Ytpjhmollejiaoaa.P
