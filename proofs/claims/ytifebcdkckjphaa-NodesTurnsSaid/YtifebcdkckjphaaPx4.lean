-- Written by this session's program gprint.py: functions of the program as plain functions, and that the machine does what they say. Not trusted: Lean checks it.
import Derived.Test.YtifebcdkckjphaaPx0
import Derived.Test.YtifebcdkckjphaaPx2
import Derived.Test.YtifebcdkckjphaaPx3
namespace Go.Proofs.Ytifebcdkckjphaa.P
open Go.RowKit Go.Proofs.YtifebcdkckjphaaW.PrintWords Go.Proofs.YtifebcdkckjphaaW.PrintLast Go.Proofs.YtifebcdkckjphaaW.PrintMore
attribute [local go_sem] max2_int min2_int max_two min_two max_three min_three max_four min_four   -- for this text's walks alone
set_option linter.unusedVariables false
set_option linter.unusedSimpArgs false

/-! ### nodes_New: function 16 -/
def newR (n : Int) : List S35 × Int := if 1 ≤ n ∧ n ≤ 64 then (List.replicate n.toNat ⟨true, true, 0⟩, 0) else ([], 2)
def nodes_New.f (n : Int) : Option (List S35 × Int) := some (newR n)
theorem new_cells (w : World) : ∀ j v, (nodeC (⟨true, true, 0⟩ : S35))[j]? = some v → (w.alloc (.cells #[.bool true, .bool true, .int .i64 0] 35)).cell? ((⟨w.heap.size, 0, none⟩ : Addr).add j) = some v := by
  intro j v hj
  have hn := World.alloc_heap_new w (.cells #[.bool true, .bool true, .int .i64 0] 35)
  by_cases h0 : j = 0
  · subst h0
    have : ((⟨w.heap.size, 0, none⟩ : Addr).add 0) = ⟨w.heap.size, 0, none⟩ := by simp [Addr.add]
    rw [this]
    simp only [World.cell?, hn]
    simpa [nodeC] using hj
  · have : ((⟨w.heap.size, 0, none⟩ : Addr).add j) = ⟨w.heap.size, j, none⟩ := by simp [Addr.add, h0]
    rw [this]
    simp only [World.cell?, hn]
    simpa [nodeC] using hj
set_option maxHeartbeats 2000000 in
theorem nodes_New.calls (a0 : Int) (r1 : List S35) (r2 : Int) (w : World) (h : nodes_New.f a0 = some (r1, r2)) :
    Calls Try.prog 16 #[.int .i64 a0] w fun e w' => ∃ v0_ : Value, e = .returned (.tuple #[v0_, .int .i64 r2]) ∧ Kd.R k35 35 w' w.heap.size (fun _ => True) v0_ r1 ∧ Below w.heap.size w w' := by
  replace h := Option.some.inj h
  unfold newR at h
  by_cases h1 : 1 ≤ a0
  case neg =>
    rw [if_neg (fun e => h1 e.1)] at h
    obtain ⟨rfl, rfl⟩ := Prod.mk.inj h
    have h1' : a0 < 1 := by omega
    clear h
    go_enter Try.func16, Try.ntmps16
    go_wp2
    go_ret2
    exact ⟨_, rfl, Kd.R_nil _ _ _ _ _, Below.refl _ _⟩
  by_cases h2 : a0 ≤ 64
  case neg =>
    rw [if_neg (fun e => h2 e.2)] at h
    obtain ⟨rfl, rfl⟩ := Prod.mk.inj h
    have h1' : ¬ a0 < 1 := by omega
    have h2' : 64 < a0 := by omega
    clear h
    go_enter Try.func16, Try.ntmps16
    go_wp2
    go_ret2
    exact ⟨_, rfl, Kd.R_nil _ _ _ _ _, Below.refl _ _⟩
  rw [if_pos ⟨h1, h2⟩] at h
  obtain ⟨rfl, rfl⟩ := Prod.mk.inj h
  clear h
  obtain ⟨n, rfl⟩ := Int.eq_ofNat_of_zero_le (show 0 ≤ a0 by omega)
  have h1' : ¬ (n : Int) < 1 := by omega
  have h2' : ¬ 64 < (n : Int) := by omega
  have hc := Aside0.mk (new_cells w)
  rw [Int.toNat_natCast]
  go_enter Try.func16, Try.ntmps16
  go_wp2_with (go_at_call 37; (refine (nodes_Repeat_own ⟨true, true, 0⟩ n _ _ _ (by omega) (by omega) hc.out).mono ?_); rintro e w1 ⟨v, rfl, hrow, hb⟩; replace hrow := Aside0.mk (Kd.R_lower hrow (show w.heap.size ≤ _ by simp)); have hb1 := Aside0.mk (((Below.refl _ w).alloc (Nat.le_refl _) _).trans (hb.mono (show w.heap.size ≤ _ by simp))); clear hb)
  go_ret2
  exact ⟨_, rfl, hrow.out, hb1.out⟩

/-! ### forebayref20_Ints: function 9 -/
def forebayref20_Ints.l0 : Nat → List Int → List Int → Int → Option (Bool)
  | 0, _, _, _ => none
  | k + 1, x0, x1, x5 => if x5 < (x0.length : Int) then (if 0 ≤ x5 then (if x5 < (x1.length : Int) then (if (rd x0 x5) = (rd x1 x5) then (forebayref20_Ints.l0 k x0 x1 (wrap64 (x5 + 1))) else (some false)) else (none)) else (none)) else (some true)
def forebayref20_Ints.f (k : Nat) (l0 : List Int) (l1 : List Int) : Option (Bool) := if (l0.length : Int) = (l1.length : Int) then (forebayref20_Ints.l0 k l0 l1 0) else (some false)
theorem forebayref20_Ints.mono_l : ∀ k, (∀ y0 y1 y2, LeO (forebayref20_Ints.l0 k y0 y1 y2) (forebayref20_Ints.l0 (k + 1) y0 y1 y2))
  | 0 => fun _ _ _ r h => by simp [forebayref20_Ints.l0] at h
  | k + 1 => by
    have ih0 := forebayref20_Ints.mono_l k
    · intro y0 y1 y2
      unfold forebayref20_Ints.l0
      repeat' first
      | (with_reducible exact ih0 _ _ _)
      | (with_reducible exact LeO.refl _)
      | (with_reducible exact LeO.none _)
      | (with_reducible refine LeO.ite ?_ ?_)
      | (with_reducible refine LeO.bind ?_ (fun _ => ?_))
      | exact ih0 _ _ _
      | exact LeO.none _
      | refine LeO.ite ?_ ?_
      | refine LeO.bind ?_ (fun _ => ?_)
theorem forebayref20_Ints.mono : ∀ a0 a1 k, LeO (forebayref20_Ints.f k a0 a1) (forebayref20_Ints.f (k + 1) a0 a1) := by
  intro a0 a1 k
  have ih0 := forebayref20_Ints.mono_l k
  unfold forebayref20_Ints.f
  repeat' first
      | (with_reducible exact ih0 _ _ _)
      | (with_reducible exact LeO.refl _)
      | (with_reducible exact LeO.none _)
      | (with_reducible refine LeO.ite ?_ ?_)
      | (with_reducible refine LeO.bind ?_ (fun _ => ?_))
      | exact ih0 _ _ _
      | exact LeO.none _
      | refine LeO.ite ?_ ?_
      | refine LeO.bind ?_ (fun _ => ?_)
set_option maxHeartbeats 8000000 in
set_option maxRecDepth 100000 in
theorem forebayref20_Ints.calls (k : Nat) (A0 : Option Addr) (c0 : Nat) (l0 : List Int) (A1 : Option Addr) (c1 : Nat) (l1 : List Int) (r : Bool) (w : World) (hr0 : Kd.C (Kd.int .i64) w A0 l0.length l0) (hc0 : l0.length ≤ c0) (hr1 : Kd.C (Kd.int .i64) w A1 l1.length l1) (hc1 : l1.length ≤ c1) (h : forebayref20_Ints.f k l0 l1 = some r) :
    Calls Try.prog 9 #[.slice A0 l0.length c0, .slice A1 l1.length c1] w fun e w' => e = .returned (.bool r) ∧ Drawn0 w w' := by
  have HR0 := Aside0.mk hr0
  have HC0 := Aside0.mk hc0
  clear hr0 hc0
  have HR1 := Aside0.mk hr1
  have HC1 := Aside0.mk hc1
  clear hr1 hc1
  have H : (if (l0.length : Int) = (l1.length : Int) then (forebayref20_Ints.l0 k l0 l1 0) else (some false)) = some r := h
  clear h
  by_cases c3 : (l0.length : Int) = (l1.length : Int)
  · rw [if_pos c3] at H
    have c3b0 : ((l0.length : Int) == (l1.length : Int)) = true := beq_iff_eq.mpr c3
    have c3b1 : ((l0.length : Int) != (l1.length : Int)) = false := bne_eq_false_iff_eq.mpr c3
    have c3b2 : (l0.length == l1.length) = true := by first | simpa using c3 | (simp at c3 ⊢; omega)
    clear c3
    have H' := Aside0.mk H
    clear H
    go_enter Try.func9, Try.ntmps9
    go_wp2
    repeat (go_quiet (fail); try go_wp2)
    go_loopg [5] k (fun kq v5 w' => ∃ (x5_1 : Int), v5 = .int .i64 x5_1 ∧ Aside0 (forebayref20_Ints.l0 kq l0 l1 x5_1 = some r) ∧ Aside0 (kq ≤ k) ∧ Drawn0 w w')
    case atStart => exact ⟨(0), (by first | rfl | (simp; done) | (simp [*]; done) | (simp; exact isEmpty_bne _)), H', ⟨Nat.le_refl _⟩, by repeat (first | exact Drawn0.refl _ | apply Drawn0.step)⟩
    case round =>
      clear H'
      try clear c1
      try clear p2
      try clear c3
      try clear c3b0
      try clear c3b1
      try clear c3b2
      obtain ⟨x5_1, rfl, HA, HK1, ⟨m1, rfl⟩⟩ := hrel
      cases gk with
      | zero => exact absurd HA.out (by simp [forebayref20_Ints.l0])
      | succ k1 =>
        have H := HA.out
        clear HA
        simp only [forebayref20_Ints.l0] at H
        by_cases c4 : x5_1 < (l0.length : Int)
        · rw [if_pos c4] at H
          have c4b0 : decide (x5_1 < (l0.length : Int)) = true := decide_eq_true c4
          clear c4
          by_cases c5 : 0 ≤ x5_1
          · rw [if_pos c5] at H
            have c5b0 : decide (0 ≤ x5_1) = true := decide_eq_true c5
            clear c5
            by_cases c6 : x5_1 < (l1.length : Int)
            · rw [if_pos c6] at H
              have c6b0 : decide (x5_1 < (l1.length : Int)) = true := decide_eq_true c6
              clear c6
              by_cases c7 : (rd l0 x5_1) = (rd l1 x5_1)
              · rw [if_pos c7] at H
                have c7b0 : ((rd l0 x5_1) == (rd l1 x5_1)) = true := beq_iff_eq.mpr c7
                have c7b1 : ((rd l0 x5_1) != (rd l1 x5_1)) = false := bne_eq_false_iff_eq.mpr c7
                clear c7
                have H' := Aside0.mk H
                clear H
                have p108 : 0 ≤ (x5_1 : Int) := of_decide_eq_true (by first | (with_reducible assumption) | assumption)
                have q108 : x5_1 < (l0.length : Int) := of_decide_eq_true (by first | (with_reducible assumption) | assumption)
                obtain ⟨ad108, e108, hx108_0⟩ := Kd.at_int HR0.out x5_1 p108 q108
                cases e108
                replace p108 := eq_true p108
                replace q108 := eq_true q108
                have p109 : 0 ≤ (x5_1 : Int) := of_decide_eq_true (by first | (with_reducible assumption) | assumption)
                have q109 : x5_1 < (l1.length : Int) := of_decide_eq_true (by first | (with_reducible assumption) | assumption)
                obtain ⟨ad109, e109, hx109_0⟩ := Kd.at_int HR1.out x5_1 p109 q109
                cases e109
                replace p109 := eq_true p109
                replace q109 := eq_true q109
                go_wp2
                repeat (go_quiet (fail); try go_wp2)
                go_roundg k1
                case measure => have := HK1.out; omega
                case rel => exact ⟨(wrap64 (x5_1 + 1)), (by first | rfl | (simp; done) | (simp [*]; done) | (simp; exact isEmpty_bne _)), H', ⟨by have := HK1.out; omega⟩, by repeat (first | exact Drawn0.refl _ | apply Drawn0.step)⟩
              · rw [if_neg c7] at H
                have c7b0 : ((rd l0 x5_1) == (rd l1 x5_1)) = false := beq_eq_false_iff_ne.mpr c7
                have c7b1 : ((rd l0 x5_1) != (rd l1 x5_1)) = true := bne_iff_ne.mpr c7
                obtain rfl := Option.some.inj H
                have p108 : 0 ≤ (x5_1 : Int) := of_decide_eq_true (by first | (with_reducible assumption) | assumption)
                have q108 : x5_1 < (l0.length : Int) := of_decide_eq_true (by first | (with_reducible assumption) | assumption)
                obtain ⟨ad108, e108, hx108_0⟩ := Kd.at_int HR0.out x5_1 p108 q108
                cases e108
                replace p108 := eq_true p108
                replace q108 := eq_true q108
                have p109 : 0 ≤ (x5_1 : Int) := of_decide_eq_true (by first | (with_reducible assumption) | assumption)
                have q109 : x5_1 < (l1.length : Int) := of_decide_eq_true (by first | (with_reducible assumption) | assumption)
                obtain ⟨ad109, e109, hx109_0⟩ := Kd.at_int HR1.out x5_1 p109 q109
                cases e109
                replace p109 := eq_true p109
                replace q109 := eq_true q109
                go_wp2
                repeat (go_quiet (fail); try go_wp2)
                go_ret
                exact ⟨by first | rfl | (simp; done) | (simp [*]; done), by repeat (first | exact Drawn0.refl _ | apply Drawn0.step)⟩
            · rw [if_neg c6] at H
              exact absurd H (by simp)
          · rw [if_neg c5] at H
            exact absurd H (by simp)
        · rw [if_neg c4] at H
          have c4b0 : decide (x5_1 < (l0.length : Int)) = false := decide_eq_false c4
          clear c4
          obtain rfl := Option.some.inj H
          go_wp2
          repeat (go_quiet (fail); try go_wp2)
          go_ret
          exact ⟨by first | rfl | (simp; done) | (simp [*]; done), by repeat (first | exact Drawn0.refl _ | apply Drawn0.step)⟩
  · rw [if_neg c3] at H
    have c3b0 : ((l0.length : Int) == (l1.length : Int)) = false := beq_eq_false_iff_ne.mpr c3
    have c3b1 : ((l0.length : Int) != (l1.length : Int)) = true := bne_iff_ne.mpr c3
    have c3b2 : (l0.length == l1.length) = false := by first | simpa using c3 | (simp at c3 ⊢; omega)
    obtain rfl := Option.some.inj H
    go_enter Try.func9, Try.ntmps9
    go_wp2
    repeat (go_quiet (fail); try go_wp2)
    go_ret
    exact ⟨by first | rfl | (simp; done) | (simp [*]; done), by repeat (first | exact Drawn0.refl _ | apply Drawn0.step)⟩

/-! ### forebaylaw20_head: function 7 -/
def forebaylaw20_head.f : Option Bool := some true
theorem head_facts : ∃ (N L M C G : List S35) (B O Q : List Int), nodes_New.f 3 = some (N, 0) ∧ nodes_Give.f N 7 2 = some (L, B, 0) ∧ nodes_Fail.f L 0 = some (M, 7, 0) ∧ nodes_Clear.f M 7 = some (C, 0) ∧ nodes_Give.f C 8 2 = some (G, Q, 0) ∧ nodes_Up.f L 0 = some ([], 8) ∧ nodes_Fail.f L 3 = some ([], 0, 200) ∧ forebayref20_Ints.f 5 B [0, 1] = some true ∧ nodes_Free.f L = some 1 ∧ nodes_Of.f M 7 = some O ∧ forebayref20_Ints.f 5 O [1] = some true ∧ forebayref20_Ints.f 5 Q [1, 2] = some true :=
  ⟨[⟨true, true, 0⟩, ⟨true, true, 0⟩, ⟨true, true, 0⟩], [⟨true, true, 7⟩, ⟨true, true, 7⟩, ⟨true, true, 0⟩], [⟨false, true, 0⟩, ⟨true, true, 7⟩, ⟨true, true, 0⟩], [⟨false, true, 0⟩, ⟨true, true, 0⟩, ⟨true, true, 0⟩], [⟨false, true, 0⟩, ⟨true, true, 8⟩, ⟨true, true, 8⟩], [0, 1], [1], [1, 2], by kernel_rfl, by kernel_rfl, by kernel_rfl, by kernel_rfl, by kernel_rfl, by kernel_rfl, by kernel_rfl, by kernel_rfl, by kernel_rfl, by kernel_rfl, by kernel_rfl, by kernel_rfl⟩
theorem ints01 (A : Option Addr) (c : Nat) (B : List Int) (w : World) (hC : Kd.C (Kd.int .i64) w A B.length B) (hc : B.length ≤ c) (h : forebayref20_Ints.f 5 B [0, 1] = some true) :
    Calls Try.prog 9 #[.slice A B.length c, .slice (some ⟨w.heap.size, 0, none⟩) 2 2] (w.alloc (.cells #[.int .i64 0, .int .i64 1] 3)) fun e w' => e = .returned (.bool true) ∧ Below w.heap.size w w' := by
  have hl : Kd.C (Kd.int .i64) (w.alloc (.cells #[.int .i64 0, .int .i64 1] 3)) (some ⟨w.heap.size, 0, none⟩) ([0, 1] : List Int).length [0, 1] := C_lits w [0, 1] (by decide)
  exact (forebayref20_Ints.calls 5 A c B _ 2 [0, 1] true _ (Kd.C_alloc hC _) hc hl (Nat.le_refl _) h).mono (fun e w' h => ⟨h.1, ((Below.refl _ _).alloc (Nat.le_refl _) _).trans ((node_drawn h.2).mono (by simp))⟩)
theorem ints1 (A : Option Addr) (c : Nat) (B : List Int) (w : World) (hC : Kd.C (Kd.int .i64) w A B.length B) (hc : B.length ≤ c) (h : forebayref20_Ints.f 5 B [1] = some true) :
    Calls Try.prog 9 #[.slice A B.length c, .slice (some ⟨w.heap.size, 0, none⟩) 1 1] (w.alloc (.cells #[.int .i64 1] 3)) fun e w' => e = .returned (.bool true) ∧ Below w.heap.size w w' := by
  have hl : Kd.C (Kd.int .i64) (w.alloc (.cells #[.int .i64 1] 3)) (some ⟨w.heap.size, 0, none⟩) ([1] : List Int).length [1] := C_lits w [1] (by decide)
  exact (forebayref20_Ints.calls 5 A c B _ 1 [1] true _ (Kd.C_alloc hC _) hc hl (Nat.le_refl _) h).mono (fun e w' h => ⟨h.1, ((Below.refl _ _).alloc (Nat.le_refl _) _).trans ((node_drawn h.2).mono (by simp))⟩)
theorem ints12 (A : Option Addr) (c : Nat) (B : List Int) (w : World) (hC : Kd.C (Kd.int .i64) w A B.length B) (hc : B.length ≤ c) (h : forebayref20_Ints.f 5 B [1, 2] = some true) :
    Calls Try.prog 9 #[.slice A B.length c, .slice (some ⟨w.heap.size, 0, none⟩) 2 2] (w.alloc (.cells #[.int .i64 1, .int .i64 2] 3)) fun e w' => e = .returned (.bool true) ∧ Below w.heap.size w w' := by
  have hl : Kd.C (Kd.int .i64) (w.alloc (.cells #[.int .i64 1, .int .i64 2] 3)) (some ⟨w.heap.size, 0, none⟩) ([1, 2] : List Int).length [1, 2] := C_lits w [1, 2] (by decide)
  exact (forebayref20_Ints.calls 5 A c B _ 2 [1, 2] true _ (Kd.C_alloc hC _) hc hl (Nat.le_refl _) h).mono (fun e w' h => ⟨h.1, ((Below.refl _ _).alloc (Nat.le_refl _) _).trans ((node_drawn h.2).mono (by simp))⟩)
set_option maxHeartbeats 1000000 in
theorem forebaylaw20_head.calls (r : Bool) (w : World) (h : forebaylaw20_head.f = some r) : Calls Try.prog 7 #[] w fun e w' => e = .returned (.bool r) ∧ Below w.heap.size w w' := by
  obtain rfl := Option.some.inj h
  clear h
  obtain ⟨N, L, M, C, G, B, O, Q, h1, h2, h3, h4, h5, h6, h7, h8, h9, h10, h11, h12⟩ := head_facts
  replace h1 := Aside0.mk h1
  replace h2 := Aside0.mk h2
  replace h3 := Aside0.mk h3
  replace h4 := Aside0.mk h4
  replace h5 := Aside0.mk h5
  replace h6 := Aside0.mk h6
  replace h7 := Aside0.mk h7
  replace h8 := Aside0.mk h8
  replace h9 := Aside0.mk h9
  replace h10 := Aside0.mk h10
  replace h11 := Aside0.mk h11
  replace h12 := Aside0.mk h12
  have HB := Aside0.mk (Below.refl w.heap.size w)
  go_enter Try.func7, Try.ntmps7
  go_wp2_with (first
    | (go_at_call 16; (with_reducible refine (nodes_New.calls 3 N 0 _ h1.out).mono ?_); rintro e w1 ⟨vN, rfl, rN, hb⟩; obtain ⟨AN, cN, rfl⟩ := Kd.R_slice rN; have RN := Aside0.mk (Kd.R_lower rN HB.out.size); clear rN; replace HB := Aside0.mk (HB.out.trans (hb.mono HB.out.size)); clear hb)
    | (go_at_call 8; (with_reducible refine (nodes_Give.calls AN cN N 7 2 L B 0 _ (Kd.R_reads' RN.out).2.2 (Kd.R_reads' RN.out).2.1 h2.out).mono ?_); rintro e w1 ⟨vL, vB, rfl, rL, rB, hb⟩; obtain ⟨AL, cL, rfl⟩ := Kd.R_slice rL; obtain ⟨AB, cB, rfl⟩ := Kd.R_slice rB; replace RN := Aside0.mk (Kd.R_below RN.out hb); have RL := Aside0.mk (Kd.R_lower rL HB.out.size); clear rL; have RB := Aside0.mk (Kd.R_lower rB HB.out.size); clear rB; replace HB := Aside0.mk (HB.out.trans (hb.mono HB.out.size)); clear hb)
    | (go_at_call 15; (with_reducible refine (nodes_Fail.calls AL cL L 0 M 7 0 _ (Kd.R_reads' RL.out).2.2 (Kd.R_reads' RL.out).2.1 h3.out).mono ?_); rintro e w1 ⟨vM, rfl, rM, hb⟩; obtain ⟨AM, cM, rfl⟩ := Kd.R_slice rM; replace RN := Aside0.mk (Kd.R_below RN.out hb); replace RL := Aside0.mk (Kd.R_below RL.out hb); replace RB := Aside0.mk (Kd.R_below RB.out hb); have RM := Aside0.mk (Kd.R_lower rM HB.out.size); clear rM; replace HB := Aside0.mk (HB.out.trans (hb.mono HB.out.size)); clear hb)
    | (go_at_call 13; (with_reducible refine (nodes_Clear.calls AM cM M 7 C 0 _ (Kd.R_reads' RM.out).2.2 (Kd.R_reads' RM.out).2.1 h4.out).mono ?_); rintro e w1 ⟨vC, rfl, rC, hb⟩; obtain ⟨AC, cC, rfl⟩ := Kd.R_slice rC; replace RN := Aside0.mk (Kd.R_below RN.out hb); replace RL := Aside0.mk (Kd.R_below RL.out hb); replace RB := Aside0.mk (Kd.R_below RB.out hb); replace RM := Aside0.mk (Kd.R_below RM.out hb); have RC := Aside0.mk (Kd.R_lower rC HB.out.size); clear rC; replace HB := Aside0.mk (HB.out.trans (hb.mono HB.out.size)); clear hb)
    | (go_at_call 8; (with_reducible refine (nodes_Give.calls AC cC C 8 2 G Q 0 _ (Kd.R_reads' RC.out).2.2 (Kd.R_reads' RC.out).2.1 h5.out).mono ?_); rintro e w1 ⟨vG, vQ, rfl, rG, rQ, hb⟩; obtain ⟨AG, cG, rfl⟩ := Kd.R_slice rG; obtain ⟨AQ, cQ, rfl⟩ := Kd.R_slice rQ; replace RN := Aside0.mk (Kd.R_below RN.out hb); replace RL := Aside0.mk (Kd.R_below RL.out hb); replace RB := Aside0.mk (Kd.R_below RB.out hb); replace RM := Aside0.mk (Kd.R_below RM.out hb); replace RC := Aside0.mk (Kd.R_below RC.out hb); have RG := Aside0.mk (Kd.R_lower rG HB.out.size); clear rG; have RQ := Aside0.mk (Kd.R_lower rQ HB.out.size); clear rQ; replace HB := Aside0.mk (HB.out.trans (hb.mono HB.out.size)); clear hb)
    | (go_at_call 25; (with_reducible refine (nodes_Up.calls AL cL L 0 [] 8 _ (Kd.R_reads' RL.out).2.2 (Kd.R_reads' RL.out).2.1 h6.out).mono ?_); rintro e w1 ⟨vU, rfl, rU, hb⟩; obtain ⟨AU, cU, rfl⟩ := Kd.R_slice rU; replace RN := Aside0.mk (Kd.R_below RN.out hb); replace RL := Aside0.mk (Kd.R_below RL.out hb); replace RB := Aside0.mk (Kd.R_below RB.out hb); replace RM := Aside0.mk (Kd.R_below RM.out hb); replace RC := Aside0.mk (Kd.R_below RC.out hb); replace RG := Aside0.mk (Kd.R_below RG.out hb); replace RQ := Aside0.mk (Kd.R_below RQ.out hb); have RU := Aside0.mk (Kd.R_lower rU HB.out.size); clear rU; replace HB := Aside0.mk (HB.out.trans (hb.mono HB.out.size)); clear hb)
    | (go_at_call 15; (with_reducible refine (nodes_Fail.calls AL cL L 3 [] 0 200 _ (Kd.R_reads' RL.out).2.2 (Kd.R_reads' RL.out).2.1 h7.out).mono ?_); rintro e w1 ⟨vV, rfl, rV, hb⟩; obtain ⟨AV, cV, rfl⟩ := Kd.R_slice rV; replace RN := Aside0.mk (Kd.R_below RN.out hb); replace RL := Aside0.mk (Kd.R_below RL.out hb); replace RB := Aside0.mk (Kd.R_below RB.out hb); replace RM := Aside0.mk (Kd.R_below RM.out hb); replace RC := Aside0.mk (Kd.R_below RC.out hb); replace RG := Aside0.mk (Kd.R_below RG.out hb); replace RQ := Aside0.mk (Kd.R_below RQ.out hb); replace RU := Aside0.mk (Kd.R_below RU.out hb); have RV := Aside0.mk (Kd.R_lower rV HB.out.size); clear rV; replace HB := Aside0.mk (HB.out.trans (hb.mono HB.out.size)); clear hb)
    | (go_at_call 9; (with_reducible refine (ints01 AB cB B _ (Kd.R_reads' RB.out).2.2 (Kd.R_reads' RB.out).2.1 h8.out).mono ?_); rintro e w1 ⟨rfl, hb⟩; replace RN := Aside0.mk (Kd.R_below RN.out hb); replace RL := Aside0.mk (Kd.R_below RL.out hb); replace RB := Aside0.mk (Kd.R_below RB.out hb); replace RM := Aside0.mk (Kd.R_below RM.out hb); replace RC := Aside0.mk (Kd.R_below RC.out hb); replace RG := Aside0.mk (Kd.R_below RG.out hb); replace RQ := Aside0.mk (Kd.R_below RQ.out hb); replace RU := Aside0.mk (Kd.R_below RU.out hb); replace RV := Aside0.mk (Kd.R_below RV.out hb); replace HB := Aside0.mk (HB.out.trans (hb.mono HB.out.size)); clear hb)
    | (go_at_call 11; (with_reducible refine (nodes_Free.calls AL cL L 1 _ (Kd.R_reads' RL.out).2.2 (Kd.R_reads' RL.out).2.1 h9.out).mono ?_); rintro e w1 ⟨rfl, hb⟩; replace RN := Aside0.mk (Kd.R_below RN.out hb); replace RL := Aside0.mk (Kd.R_below RL.out hb); replace RB := Aside0.mk (Kd.R_below RB.out hb); replace RM := Aside0.mk (Kd.R_below RM.out hb); replace RC := Aside0.mk (Kd.R_below RC.out hb); replace RG := Aside0.mk (Kd.R_below RG.out hb); replace RQ := Aside0.mk (Kd.R_below RQ.out hb); replace RU := Aside0.mk (Kd.R_below RU.out hb); replace RV := Aside0.mk (Kd.R_below RV.out hb); replace HB := Aside0.mk (HB.out.trans (hb.mono HB.out.size)); clear hb)
    | (go_at_call 10; (with_reducible refine (nodes_Of.calls AM cM M 7 O _ (Kd.R_reads' RM.out).2.2 (Kd.R_reads' RM.out).2.1 h10.out).mono ?_); rintro e w1 ⟨vO, rfl, rO, hb⟩; obtain ⟨AO, cO, rfl⟩ := Kd.R_slice rO; replace RN := Aside0.mk (Kd.R_below RN.out hb); replace RL := Aside0.mk (Kd.R_below RL.out hb); replace RB := Aside0.mk (Kd.R_below RB.out hb); replace RM := Aside0.mk (Kd.R_below RM.out hb); replace RC := Aside0.mk (Kd.R_below RC.out hb); replace RG := Aside0.mk (Kd.R_below RG.out hb); replace RQ := Aside0.mk (Kd.R_below RQ.out hb); replace RU := Aside0.mk (Kd.R_below RU.out hb); replace RV := Aside0.mk (Kd.R_below RV.out hb); have RO := Aside0.mk (Kd.R_lower rO HB.out.size); clear rO; replace HB := Aside0.mk (HB.out.trans (hb.mono HB.out.size)); clear hb)
    | (go_at_call 9; (with_reducible refine (ints1 AO cO O _ (Kd.R_reads' RO.out).2.2 (Kd.R_reads' RO.out).2.1 h11.out).mono ?_); rintro e w1 ⟨rfl, hb⟩; replace RN := Aside0.mk (Kd.R_below RN.out hb); replace RL := Aside0.mk (Kd.R_below RL.out hb); replace RB := Aside0.mk (Kd.R_below RB.out hb); replace RM := Aside0.mk (Kd.R_below RM.out hb); replace RC := Aside0.mk (Kd.R_below RC.out hb); replace RG := Aside0.mk (Kd.R_below RG.out hb); replace RQ := Aside0.mk (Kd.R_below RQ.out hb); replace RU := Aside0.mk (Kd.R_below RU.out hb); replace RV := Aside0.mk (Kd.R_below RV.out hb); replace RO := Aside0.mk (Kd.R_below RO.out hb); replace HB := Aside0.mk (HB.out.trans (hb.mono HB.out.size)); clear hb)
    | (go_at_call 9; (with_reducible refine (ints12 AQ cQ Q _ (Kd.R_reads' RQ.out).2.2 (Kd.R_reads' RQ.out).2.1 h12.out).mono ?_); rintro e w1 ⟨rfl, hb⟩; replace RN := Aside0.mk (Kd.R_below RN.out hb); replace RL := Aside0.mk (Kd.R_below RL.out hb); replace RB := Aside0.mk (Kd.R_below RB.out hb); replace RM := Aside0.mk (Kd.R_below RM.out hb); replace RC := Aside0.mk (Kd.R_below RC.out hb); replace RG := Aside0.mk (Kd.R_below RG.out hb); replace RQ := Aside0.mk (Kd.R_below RQ.out hb); replace RU := Aside0.mk (Kd.R_below RU.out hb); replace RV := Aside0.mk (Kd.R_below RV.out hb); replace RO := Aside0.mk (Kd.R_below RO.out hb); replace HB := Aside0.mk (HB.out.trans (hb.mono HB.out.size)); clear hb))
  go_ret
  exact ⟨rfl, HB.out⟩

end Go.Proofs.Ytifebcdkckjphaa.P
