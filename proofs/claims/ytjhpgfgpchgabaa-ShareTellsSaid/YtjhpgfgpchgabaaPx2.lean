-- Written by this session's program gprint.py: functions of the program as plain functions, and that the machine does what they say. Not trusted: Lean checks it.
import Derived.Test.YtjhpgfgpchgabaaPx0
namespace Go.Proofs.Ytjhpgfgpchgabaa.P
open Go.RowKit Go.Proofs.YtjhpgfgpchgabaaW.PrintWords Go.Proofs.YtjhpgfgpchgabaaW.PrintLast Go.Proofs.YtjhpgfgpchgabaaW.PrintMore
attribute [local go_sem] max2_int min2_int max_two min_two max_three min_three max_four min_four   -- for this text's walks alone
set_option linter.unusedVariables false
set_option linter.unusedSimpArgs false

/-! ### forebaylaw24_great: function 6 -/
def forebaylaw24_great.f (l0 : List (S52)) (a1 : ByteArray) : Option (Bool) := if (l0.length : Int) > 120 then (some true) else (some (decide ((a1.size : Int) > 100)))
set_option maxHeartbeats 8000000 in
set_option maxRecDepth 100000 in
theorem forebaylaw24_great.calls (A0 : Option Addr) (c0 : Nat) (l0 : List (S52)) (a1 : ByteArray) (r : Bool) (w : World) (hr0 : Kd.C k52 w A0 l0.length l0) (hc0 : l0.length ≤ c0) (h : forebaylaw24_great.f l0 a1 = some r) :
    Calls Try.prog 6 #[.slice A0 l0.length c0, .string a1] w fun e w' => e = .returned (.bool r) ∧ Drawn0 w w' := by
  have HR0 := Aside0.mk hr0
  have HC0 := Aside0.mk hc0
  clear hr0 hc0
  have H : (if (l0.length : Int) > 120 then (some true) else (some (decide ((a1.size : Int) > 100)))) = some r := h
  clear h
  by_cases c3 : (l0.length : Int) > 120
  · rw [if_pos c3] at H
    have c3b0 : decide (120 < (l0.length : Int)) = true := decide_eq_true c3
    have c3b1 : decide (120 < l0.length) = true := decide_eq_true (by omega)
    clear c3
    obtain rfl := Option.some.inj H
    go_enter Try.func6, Try.ntmps6
    go_wp2
    go_ret
    exact ⟨by first | rfl | (simp; done) | (simp [*]; done), by repeat (first | exact Drawn0.refl _ | apply Drawn0.step)⟩
  · rw [if_neg c3] at H
    have c3b0 : decide (120 < (l0.length : Int)) = false := decide_eq_false c3
    have c3b1 : decide (120 < l0.length) = false := decide_eq_false (by omega)
    clear c3
    obtain rfl := Option.some.inj H
    go_enter Try.func6, Try.ntmps6
    go_wp2
    go_ret
    exact ⟨by first | rfl | (simp; done) | (simp [*]; done), by repeat (first | exact Drawn0.refl _ | apply Drawn0.step)⟩

/-! ### sat_Of: function 31 -/
/-- What a number is brought to. -/
def clampT (x : Int) : Int := if x < 0 then 0 else if x > 1099511627776 then 1099511627776 else x
theorem clampT_lo (x : Int) : 0 ≤ clampT x := by unfold clampT; split <;> (try split) <;> omega
theorem clampT_hi (x : Int) : clampT x ≤ 1099511627776 := by unfold clampT; split <;> (try split) <;> omega
def sat_Of.f (a0 : Int) : Option (Int) := some (clampT a0)
theorem sat_Of.calls (a0 : Int) (r : Int) (w : World) (h : sat_Of.f a0 = some r) :
    Calls Try.prog 31 #[.int .i64 a0] w fun e w' => e = .returned (.int .i64 r) ∧ Drawn0 w w' := by
  obtain rfl := Option.some.inj h
  by_cases h1 : a0 < 0
  · have e : clampT a0 = 0 := by unfold clampT; rw [if_pos h1]
    rw [e]
    clear e h
    have h1' : decide (a0 < 0) = true := decide_eq_true h1
    go_enter Try.func31, Try.ntmps31
    go_wp2
    go_ret
    exact ⟨by first | rfl | (unfold mx; simp [h1]), Drawn0.refl _⟩
  · by_cases h2 : a0 > 1099511627776
    · have e : clampT a0 = 1099511627776 := by unfold clampT; rw [if_neg h1, if_pos h2]
      rw [e]
      clear e h
      go_enter Try.func31, Try.ntmps31
      go_wp2
      go_ret
      exact ⟨by first | rfl | (simp; unfold mx mn; split <;> omega), Drawn0.refl _⟩
    · have e : clampT a0 = a0 := by unfold clampT; rw [if_neg h1, if_neg h2]
      rw [e]
      clear e h
      go_enter Try.func31, Try.ntmps31
      go_wp2
      go_ret
      exact ⟨by first | rfl | (simp; unfold mx mn; split <;> omega), Drawn0.refl _⟩

/-! ### share_quantity: function 18 -/
/-- Is a number a quantity? -/
def quantP (n : Int) : Bool := decide (0 ≤ n ∧ n ≤ 1099511627776)
theorem quantP_of (n : Int) : (n != clampT n) = !quantP n := by
  unfold quantP clampT
  by_cases h0 : n < 0
  · rw [if_pos h0, decide_eq_false (by omega)]; simp; omega
  · rw [if_neg h0]
    by_cases h1 : 1099511627776 < n
    · rw [if_pos h1, decide_eq_false (by omega)]; simp; omega
    · rw [if_neg h1, decide_eq_true (by omega)]; simp
def share_quantity.f (l : List Int) : Option Bool := some (l.all quantP)
set_option maxHeartbeats 1000000 in
theorem quantity_1.calls (n : Int) (w : World) : Calls Try.prog 30 #[.int .i64 n] w fun e w' => e = .returned (.bool (!quantP n)) ∧ Drawn0 w w' := by
  have hq := quantP_of n
  have hs : Aside0 (sat_Of.f n = some (clampT n)) := ⟨rfl⟩
  generalize clampT n = m at hq hs
  rw [← hq]
  clear hq
  go_enter Try.func30, Try.ntmps30
  go_wp2_with (go_at_call 31; (with_reducible refine (sat_Of.calls n m _ hs.out).mono ?_); rintro e w' ⟨rfl, hd⟩; replace hd := Aside0.mk hd)
  go_ret
  exact ⟨rfl, hd.out⟩
theorem drawn_trans {a b c : World} (h : Drawn0 a b) (k : Drawn0 b c) : Drawn0 a c := by
  obtain ⟨m, rfl⟩ := h
  obtain ⟨n, rfl⟩ := k
  exact ⟨m + n, World.drewN_drewN _ _ _⟩
theorem drawn_below {a b : World} (h : Drawn0 a b) : Below a.heap.size a b := by
  obtain ⟨m, rfl⟩ := h
  exact ⟨rfl, rfl, rfl, Nat.le_refl _, fun _ _ => rfl⟩
set_option maxHeartbeats 4000000 in
theorem index_q.calls (A0 : Option Addr) (c0 : Nat) (l0 : List Int) (w : World) (hr0 : Kd.C (Kd.int .i64) w A0 l0.length l0) :
    Calls Try.prog 41 #[.slice A0 l0.length c0, .func (Fn.func 30) #[] #[]] w fun e w' => (∃ n : Int, e = .returned (.int .i64 n) ∧ decide (0 ≤ n) = !l0.all quantP) ∧ Drawn0 w w' := by
  have HR0 := Aside0.mk hr0
  have hm : l0.length ≤ 9223372036854775807 := hr0.2.1
  clear hr0
  go_enter Try.func41, Try.ntmps41
  go_wp2
  go_loopg [8] l0.length (fun kq v8 w' => ∃ i : Nat, v8 = .int .i64 i ∧ Aside0 (kq + i = l0.length) ∧ Aside0 ((l0.take i).all quantP = true) ∧ Aside0 (Drawn0 w w'))
  case atStart => exact ⟨0, rfl, ⟨rfl⟩, ⟨rfl⟩, ⟨⟨0, rfl⟩⟩⟩
  case round =>
    obtain ⟨i, rfl, HK, HP, HB⟩ := hrel
    cases gk with
    | zero =>
      have e : i = l0.length := by have := HK.out; omega
      subst e
      go_wp2
      go_ret
      refine ⟨⟨-1, rfl, ?_⟩, HB.out⟩
      have := HP.out
      rw [List.take_length] at this
      rw [this]; rfl
    | succ k1 =>
      have hlt : i < l0.length := by have := HK.out; omega
      have hi0 : (0 : Int) ≤ (i : Int) := Int.natCast_nonneg _
      have hi1 : (i : Int) < (l0.length : Int) := by omega
      obtain ⟨ad, e1, hx⟩ := Kd.at_int (Kd.C_below HR0.out (drawn_below HB.out)) (i : Int) hi0 hi1
      cases e1
      have er : rd l0 (i : Int) = l0[i] := by simp [rd, hlt]
      rw [er, Int.toNat_natCast] at hx
      clear er
      have HT := Aside0.mk (List.take_succ_eq_append_getElem (l := l0) hlt)
      have HM := Aside0.mk (List.getElem_mem hlt)
      generalize l0[i] = x at *
      cases hb : quantP x with
      | false =>
        go_wp2_with (go_at_call 30; (with_reducible refine (quantity_1.calls x _).mono ?_); rintro e w' ⟨rfl, hd⟩; rw [hb]; replace hd := Aside0.mk hd)
        go_ret
        refine ⟨⟨i, rfl, ?_⟩, drawn_trans HB.out hd.out⟩
        have : l0.all quantP = false := by
          rw [List.all_eq_false]
          exact ⟨x, HM.out, by rw [hb]; decide⟩
        rw [this, decide_eq_true (by omega)]; rfl
      | true =>
        go_wp2_with (go_at_call 30; (with_reducible refine (quantity_1.calls x _).mono ?_); rintro e w' ⟨rfl, hd⟩; rw [hb]; replace hd := Aside0.mk hd)
        go_roundg k1
        case measure => omega
        case rel => exact ⟨i + 1, by go_num, ⟨by have := HK.out; omega⟩, ⟨by rw [HT.out, List.all_append, HP.out]; simp [hb]⟩, ⟨drawn_trans HB.out hd.out⟩⟩
set_option maxHeartbeats 1000000 in
theorem share_quantity.calls (A0 : Option Addr) (c0 : Nat) (l0 : List Int) (r : Bool) (w : World) (hr0 : Kd.C (Kd.int .i64) w A0 l0.length l0) (hc0 : l0.length ≤ c0) (h : share_quantity.f l0 = some r) :
    Calls Try.prog 18 #[.slice A0 l0.length c0] w fun e w' => e = .returned (.bool r) ∧ Drawn0 w w' := by
  obtain rfl := Option.some.inj h
  clear h
  have HR0 := Aside0.mk hr0
  clear hr0
  have hcon : Aside0 (∀ W : World, Drawn0 w W → Calls Try.prog 29 #[.slice A0 l0.length c0, .func (Fn.func 30) #[] #[]] W fun e w' => e = .returned (.bool (!l0.all quantP)) ∧ Drawn0 W w') := ⟨fun W hW => by
    go_enter Try.func29, Try.ntmps29
    go_wp2_with (go_at_call 41; (with_reducible refine (index_q.calls A0 c0 l0 _ (Kd.C_below HR0.out (drawn_below hW))).mono ?_); rintro e w' ⟨⟨n, rfl, hn⟩, hd⟩; replace hn := Aside0.mk hn; replace hd := Aside0.mk hd)
    go_ret
    exact ⟨by rw [← hn.out]; rfl, hd.out⟩⟩
  go_enter Try.func18, Try.ntmps18
  go_wp2_with (go_at_call 29; (with_reducible refine (hcon.out w ⟨0, rfl⟩).mono ?_); rintro e w' ⟨rfl, hd⟩; replace hd := Aside0.mk hd)
  go_ret
  exact ⟨rfl, hd.out⟩

/-! ### unit_Name: function 19 -/
/-- A rune that may stand anywhere in a name. -/
def letterB (c : Int) : Bool := decide (97 ≤ c ∧ c ≤ 122) || decide (65 ≤ c ∧ c ≤ 90) || decide (48 ≤ c ∧ c ≤ 57) || c == 95
def nameC (i : Nat) (c : Int) : Bool := letterB c || (i != 0 && (c == 45 || c == 46))
def byteT (s : ByteArray) (i : Nat) : Int := ((s.get! i).toNat : Int)
/-- Is a text a name? -/
def nameP (s : ByteArray) : Bool := (List.range s.size).all (fun i => nameC i (byteT s i)) && decide (1 ≤ s.size ∧ s.size ≤ 32)
def unit_Name.f (s : ByteArray) : Option Bool := some (nameP s)
theorem name_no {s : ByteArray} {i : Nat} (hi : i < s.size) (h : nameC i (byteT s i) = false) : nameP s = false := by
  unfold nameP
  have : (List.range s.size).all (fun i => nameC i (byteT s i)) = false := by
    rw [List.all_eq_false]
    exact ⟨i, List.mem_range.2 hi, by rw [h]; decide⟩
  rw [this]; rfl
theorem name_high (i : Nat) (c : Int) (h : 123 ≤ c) : nameC i c = false := by
  unfold nameC letterB
  rw [decide_eq_false (by omega), decide_eq_false (by omega), decide_eq_false (by omega)]
  have e1 : (c == 95) = false := by simp; omega
  have e2 : (c == 45) = false := by simp; omega
  have e3 : (c == 46) = false := by simp; omega
  rw [e1, e2, e3]; simp
set_option maxHeartbeats 8000000 in
theorem unit_Name.calls (a0 : ByteArray) (r : Bool) (w : World) (h : unit_Name.f a0 = some r) :
    Calls Try.prog 19 #[.string a0] w fun e w' => e = .returned (.bool r) ∧ Below w.heap.size w w' := by
  obtain rfl := Option.some.inj h
  clear h
  obtain ⟨H, hH⟩ : ∃ H, w.heap.size = H := ⟨_, rfl⟩
  go_enter Try.func19, Try.ntmps19
  go_wp2
  go_loopg [8] a0.size (fun kq v8 wr => ∃ pos : Nat, Aside0 (kq + pos = a0.size) ∧ Aside0 (wr.heap[H]? = some (.stringIter a0 pos)) ∧ Aside0 (∀ i, i < pos → nameC i (byteT a0 i) = true) ∧ Aside0 (Below H w wr))
  case atStart =>
    refine ⟨0, ⟨rfl⟩, ⟨?_⟩, ⟨fun i hi => absurd hi (Nat.not_lt_zero _)⟩, ⟨?_⟩⟩
    · first | (rw [← hH]; exact World.alloc_heap_new w _) | (subst hH; simp [World.iter, World.alloc])
    · first | (rw [← hH]; exact (Below.refl _ w).alloc (Nat.le_refl _) _) | (subst hH; exact ⟨rfl, rfl, rfl, by simp [World.iter, World.alloc], fun k hk => Below.heap_alloc w _ k hk⟩)
  case round =>
    obtain ⟨pos, HK, HI, HP, HB⟩ := hrel
    cases gk with
    | zero =>
      have e : pos = a0.size := by have := HK.out; omega
      subst e
      have hnx : ∀ ty, (Instr.next (.pointer (some ⟨H, 0, none⟩)) true ty).run Try.prog wr = .ok (.tuple #[.bool false]) wr := fun ty => Lib.run_next_end_at wr H a0 _ ty HI.out (by omega)
      have hall : (List.range a0.size).all (fun i => nameC i (byteT a0 i)) = true := List.all_eq_true.2 (fun i hi => HP.out i (List.mem_range.1 hi))
      have hn : nameP a0 = decide (1 ≤ a0.size ∧ a0.size ≤ 32) := by unfold nameP; rw [hall]; rfl
      replace HP := ()
      clear hall
      by_cases h1 : 1 ≤ a0.size
      case neg =>
        have hres := Aside0.mk (show nameP a0 = false by rw [hn, decide_eq_false (by omega)])
        have h1' : ¬ (1 : Int) ≤ (a0.size : Int) := by omega
        clear h1 hn
        go_wp2
        go_ret
        exact ⟨by rw [hres.out]; rfl, by first | exact HB.out | (rw [hH]; exact HB.out)⟩
      have h1' : (1 : Int) ≤ (a0.size : Int) := by omega
      by_cases h2 : a0.size ≤ 32
      · have hres := Aside0.mk (show nameP a0 = true by rw [hn, decide_eq_true ⟨h1, h2⟩])
        have h2' : (a0.size : Int) ≤ 32 := by omega
        clear h1 h2 hn
        go_wp2
        go_ret
        exact ⟨by rw [hres.out]; simp [h2'], by first | exact HB.out | (rw [hH]; exact HB.out)⟩
      · have hres := Aside0.mk (show nameP a0 = false by rw [hn, decide_eq_false (by omega)])
        have h2' : ¬ (a0.size : Int) ≤ 32 := by omega
        clear h1 h2 hn
        go_wp2
        go_ret
        exact ⟨by rw [hres.out]; simp [h2'], by first | exact HB.out | (rw [hH]; exact HB.out)⟩
    | succ k1 =>
      have hlt : pos < a0.size := by have := HK.out; omega
      have hby : byteT a0 pos = ((a0[pos]'hlt).toNat : Int) := by
        unfold byteT
        rw [show a0.get! pos = a0[pos]'hlt from get_at a0 pos hlt]
      by_cases ha : (a0[pos]'hlt).toNat < 128
      case neg =>
        have hnx : ∀ ty, (Instr.next (.pointer (some ⟨H, 0, none⟩)) true ty).run Try.prog wr = .ok (.tuple #[.bool true, .int .i64 pos, .int .i32 ((Utf8.decode a0 pos).1 : Int)]) (wr.iterAt H a0 (pos + (Utf8.decode a0 pos).2)) := fun ty => Lib.run_next_any_at wr H a0 pos ty HI.out hlt
        have hge := (decode_high a0 pos hlt (by omega)).1
        obtain ⟨c, hc⟩ : ∃ c : Int, ((Utf8.decode a0 pos).1 : Int) = c := ⟨_, rfl⟩
        have hc0 : 123 ≤ c := by omega
        rw [hc] at hnx
        have hno := name_no hlt (name_high pos _ (by rw [hby]; omega))
        replace hno := Aside0.mk hno
        have HB2 := Aside0.mk (Lib.below_iterAt HB.out (Nat.le_refl H) a0 (pos + (Utf8.decode a0 pos).2))
        generalize pos + (Utf8.decode a0 pos).2 = pos2 at hnx HB2
        clear hc hge hby ha

        have g97 : 97 ≤ c := by omega
        have l122 : ¬ c ≤ 122 := by omega
        have g65 : 65 ≤ c := by omega
        have l90 : ¬ c ≤ 90 := by omega
        have g48 : 48 ≤ c := by omega
        have l57 : ¬ c ≤ 57 := by omega
        have e95 : ¬ c = 95 := by omega
        have b95 : (c == 95) = false := by simpa using e95
        have n95 : (c != 95) = true := by simpa using e95
        have e45 : ¬ c = 45 := by omega
        have b45 : (c == 45) = false := by simpa using e45
        have n45 : (c != 45) = true := by simpa using e45
        have e46 : ¬ c = 46 := by omega
        have b46 : (c == 46) = false := by simpa using e46
        have n46 : (c != 46) = true := by simpa using e46
        by_cases hp0 : pos = 0
        · subst hp0
          go_wp2
          go_ret
          exact ⟨by rw [hno.out]; rfl, by first | exact HB2.out | (rw [hH]; exact HB2.out)⟩
        · have hpb : (pos == 0) = false := by simpa using hp0
          go_wp2
          go_ret
          exact ⟨by rw [hno.out]; rfl, by first | exact HB2.out | (rw [hH]; exact HB2.out)⟩

      have hnx : ∀ ty, (Instr.next (.pointer (some ⟨H, 0, none⟩)) true ty).run Try.prog wr = .ok (.tuple #[.bool true, .int .i64 pos, .int .i32 ((a0[pos]'hlt).toNat : Int)]) (wr.iterAt H a0 (pos + 1)) := fun ty => Lib.run_next_ascii_at wr H a0 pos ty HI.out hlt ha
      have HB2 := Aside0.mk (Lib.below_iterAt HB.out (Nat.le_refl H) a0 (pos + 1))
      have HI2 := Aside0.mk (Lib.iterAt_heap wr H a0 pos (pos + 1) HI.out)
      rw [← hby] at hnx
      obtain ⟨c, hc⟩ : ∃ c : Int, byteT a0 pos = c := ⟨_, rfl⟩
      rw [hc] at hnx
      replace hc := Aside0.mk hc
      clear hby ha

      rcases (show c ≤ 44 ∨ c = 45 ∨ c = 46 ∨ c = 47 ∨ (48 ≤ c ∧ c ≤ 57) ∨ (58 ≤ c ∧ c ≤ 64) ∨ (65 ≤ c ∧ c ≤ 90) ∨ (91 ≤ c ∧ c ≤ 94) ∨ c = 95 ∨ c = 96 ∨ (97 ≤ c ∧ c ≤ 122) ∨ 123 ≤ c by omega) with hcc | hcc | hcc | hcc | hcc | hcc | hcc | hcc | hcc | hcc | hcc | hcc
      · have hbad : Aside0 (nameC pos (byteT a0 pos) = false) := ⟨by
          rw [hc.out]
          unfold nameC letterB
          rw [decide_eq_false (by omega), decide_eq_false (by omega), decide_eq_false (by omega)]
          have e1 : (c == 95) = false := by simp; omega
          have e2 : (c == 45) = false := by simp; omega
          have e3 : (c == 46) = false := by simp; omega
          rw [e1, e2, e3]; simp⟩
        have g97 : ¬ 97 ≤ c := by omega
        have l122 : c ≤ 122 := by omega
        have g65 : ¬ 65 ≤ c := by omega
        have l90 : c ≤ 90 := by omega
        have g48 : ¬ 48 ≤ c := by omega
        have l57 : c ≤ 57 := by omega
        have e95 : ¬ c = 95 := by omega
        have b95 : (c == 95) = false := by simpa using e95
        have n95 : (c != 95) = true := by simpa using e95
        have e45 : ¬ c = 45 := by omega
        have b45 : (c == 45) = false := by simpa using e45
        have n45 : (c != 45) = true := by simpa using e45
        have e46 : ¬ c = 46 := by omega
        have b46 : (c == 46) = false := by simpa using e46
        have n46 : (c != 46) = true := by simpa using e46
        have hno := Aside0.mk (name_no hlt hbad.out)
        clear hbad
        by_cases hp0 : pos = 0
        · subst hp0
          simp only [Nat.zero_add] at hnx HB2
          go_wp2
          go_ret
          exact ⟨by rw [hno.out]; rfl, by first | exact HB2.out | (rw [hH]; exact HB2.out)⟩
        · have hpb : (pos == 0) = false := by simpa using hp0
          go_wp2
          go_ret
          exact ⟨by rw [hno.out]; rfl, by first | exact HB2.out | (rw [hH]; exact HB2.out)⟩
      · subst hcc
        by_cases hp0 : pos = 0
        · have hno := Aside0.mk (name_no hlt (show nameC pos (byteT a0 pos) = false by rw [hc.out, hp0]; rfl))
          subst hp0
          simp only [Nat.zero_add] at hnx HB2
          go_wp2
          go_ret
          exact ⟨by rw [hno.out]; rfl, by first | exact HB2.out | (rw [hH]; exact HB2.out)⟩
        · have hpz : (pos != 0) = true := by simpa using hp0
          have hok : Aside0 (nameC pos (byteT a0 pos) = true) := ⟨by rw [hc.out]; unfold nameC; rw [hpz]; rfl⟩
          clear hpz
          have hpb : (pos == 0) = false := by simpa using hp0
          go_wp2
          go_roundg k1
          case measure => omega
          case rel => exact ⟨pos + 1, ⟨by have := HK.out; omega⟩, HI2, ⟨fun i hi => by
            by_cases hip : i = pos
            · subst hip; exact hok.out
            · exact HP.out i (by omega)⟩, HB2⟩
      · subst hcc
        by_cases hp0 : pos = 0
        · have hno := Aside0.mk (name_no hlt (show nameC pos (byteT a0 pos) = false by rw [hc.out, hp0]; rfl))
          subst hp0
          simp only [Nat.zero_add] at hnx HB2
          go_wp2
          go_ret
          exact ⟨by rw [hno.out]; rfl, by first | exact HB2.out | (rw [hH]; exact HB2.out)⟩
        · have hpz : (pos != 0) = true := by simpa using hp0
          have hok : Aside0 (nameC pos (byteT a0 pos) = true) := ⟨by rw [hc.out]; unfold nameC; rw [hpz]; rfl⟩
          clear hpz
          have hpb : (pos == 0) = false := by simpa using hp0
          go_wp2
          go_roundg k1
          case measure => omega
          case rel => exact ⟨pos + 1, ⟨by have := HK.out; omega⟩, HI2, ⟨fun i hi => by
            by_cases hip : i = pos
            · subst hip; exact hok.out
            · exact HP.out i (by omega)⟩, HB2⟩
      · subst hcc
        have hbad : Aside0 (nameC pos (byteT a0 pos) = false) := ⟨by rw [hc.out]; unfold nameC; cases hq : (pos != 0) <;> rfl⟩
        have hno := Aside0.mk (name_no hlt hbad.out)
        clear hbad
        by_cases hp0 : pos = 0
        · subst hp0
          simp only [Nat.zero_add] at hnx HB2
          go_wp2
          go_ret
          exact ⟨by rw [hno.out]; rfl, by first | exact HB2.out | (rw [hH]; exact HB2.out)⟩
        · have hpb : (pos == 0) = false := by simpa using hp0
          go_wp2
          go_ret
          exact ⟨by rw [hno.out]; rfl, by first | exact HB2.out | (rw [hH]; exact HB2.out)⟩
      · have hok : Aside0 (nameC pos (byteT a0 pos) = true) := ⟨by rw [hc.out]; unfold nameC letterB; rw [decide_eq_true (show 48 ≤ c ∧ c ≤ 57 by omega)]; simp⟩
        have g97 : ¬ 97 ≤ c := by omega
        have l122 : c ≤ 122 := by omega
        have g65 : ¬ 65 ≤ c := by omega
        have l90 : c ≤ 90 := by omega
        have g48 : 48 ≤ c := by omega
        have l57 : c ≤ 57 := by omega
        have e95 : ¬ c = 95 := by omega
        have b95 : (c == 95) = false := by simpa using e95
        have n95 : (c != 95) = true := by simpa using e95
        have e45 : ¬ c = 45 := by omega
        have b45 : (c == 45) = false := by simpa using e45
        have n45 : (c != 45) = true := by simpa using e45
        have e46 : ¬ c = 46 := by omega
        have b46 : (c == 46) = false := by simpa using e46
        have n46 : (c != 46) = true := by simpa using e46
        go_wp2
        go_roundg k1
        case measure => omega
        case rel => exact ⟨pos + 1, ⟨by have := HK.out; omega⟩, HI2, ⟨fun i hi => by
          by_cases hip : i = pos
          · subst hip; exact hok.out
          · exact HP.out i (by omega)⟩, HB2⟩
      · have hbad : Aside0 (nameC pos (byteT a0 pos) = false) := ⟨by
          rw [hc.out]
          unfold nameC letterB
          rw [decide_eq_false (by omega), decide_eq_false (by omega), decide_eq_false (by omega)]
          have e1 : (c == 95) = false := by simp; omega
          have e2 : (c == 45) = false := by simp; omega
          have e3 : (c == 46) = false := by simp; omega
          rw [e1, e2, e3]; simp⟩
        have g97 : ¬ 97 ≤ c := by omega
        have l122 : c ≤ 122 := by omega
        have g65 : ¬ 65 ≤ c := by omega
        have l90 : c ≤ 90 := by omega
        have g48 : 48 ≤ c := by omega
        have l57 : ¬ c ≤ 57 := by omega
        have e95 : ¬ c = 95 := by omega
        have b95 : (c == 95) = false := by simpa using e95
        have n95 : (c != 95) = true := by simpa using e95
        have e45 : ¬ c = 45 := by omega
        have b45 : (c == 45) = false := by simpa using e45
        have n45 : (c != 45) = true := by simpa using e45
        have e46 : ¬ c = 46 := by omega
        have b46 : (c == 46) = false := by simpa using e46
        have n46 : (c != 46) = true := by simpa using e46
        have hno := Aside0.mk (name_no hlt hbad.out)
        clear hbad
        by_cases hp0 : pos = 0
        · subst hp0
          simp only [Nat.zero_add] at hnx HB2
          go_wp2
          go_ret
          exact ⟨by rw [hno.out]; rfl, by first | exact HB2.out | (rw [hH]; exact HB2.out)⟩
        · have hpb : (pos == 0) = false := by simpa using hp0
          go_wp2
          go_ret
          exact ⟨by rw [hno.out]; rfl, by first | exact HB2.out | (rw [hH]; exact HB2.out)⟩
      · have hok : Aside0 (nameC pos (byteT a0 pos) = true) := ⟨by rw [hc.out]; unfold nameC letterB; rw [decide_eq_true (show 65 ≤ c ∧ c ≤ 90 by omega)]; simp⟩
        have g97 : ¬ 97 ≤ c := by omega
        have l122 : c ≤ 122 := by omega
        have g65 : 65 ≤ c := by omega
        have l90 : c ≤ 90 := by omega
        have g48 : 48 ≤ c := by omega
        have l57 : ¬ c ≤ 57 := by omega
        have e95 : ¬ c = 95 := by omega
        have b95 : (c == 95) = false := by simpa using e95
        have n95 : (c != 95) = true := by simpa using e95
        have e45 : ¬ c = 45 := by omega
        have b45 : (c == 45) = false := by simpa using e45
        have n45 : (c != 45) = true := by simpa using e45
        have e46 : ¬ c = 46 := by omega
        have b46 : (c == 46) = false := by simpa using e46
        have n46 : (c != 46) = true := by simpa using e46
        go_wp2
        go_roundg k1
        case measure => omega
        case rel => exact ⟨pos + 1, ⟨by have := HK.out; omega⟩, HI2, ⟨fun i hi => by
          by_cases hip : i = pos
          · subst hip; exact hok.out
          · exact HP.out i (by omega)⟩, HB2⟩
      · have hbad : Aside0 (nameC pos (byteT a0 pos) = false) := ⟨by
          rw [hc.out]
          unfold nameC letterB
          rw [decide_eq_false (by omega), decide_eq_false (by omega), decide_eq_false (by omega)]
          have e1 : (c == 95) = false := by simp; omega
          have e2 : (c == 45) = false := by simp; omega
          have e3 : (c == 46) = false := by simp; omega
          rw [e1, e2, e3]; simp⟩
        have g97 : ¬ 97 ≤ c := by omega
        have l122 : c ≤ 122 := by omega
        have g65 : 65 ≤ c := by omega
        have l90 : ¬ c ≤ 90 := by omega
        have g48 : 48 ≤ c := by omega
        have l57 : ¬ c ≤ 57 := by omega
        have e95 : ¬ c = 95 := by omega
        have b95 : (c == 95) = false := by simpa using e95
        have n95 : (c != 95) = true := by simpa using e95
        have e45 : ¬ c = 45 := by omega
        have b45 : (c == 45) = false := by simpa using e45
        have n45 : (c != 45) = true := by simpa using e45
        have e46 : ¬ c = 46 := by omega
        have b46 : (c == 46) = false := by simpa using e46
        have n46 : (c != 46) = true := by simpa using e46
        have hno := Aside0.mk (name_no hlt hbad.out)
        clear hbad
        by_cases hp0 : pos = 0
        · subst hp0
          simp only [Nat.zero_add] at hnx HB2
          go_wp2
          go_ret
          exact ⟨by rw [hno.out]; rfl, by first | exact HB2.out | (rw [hH]; exact HB2.out)⟩
        · have hpb : (pos == 0) = false := by simpa using hp0
          go_wp2
          go_ret
          exact ⟨by rw [hno.out]; rfl, by first | exact HB2.out | (rw [hH]; exact HB2.out)⟩
      · subst hcc
        have hok : Aside0 (nameC pos (byteT a0 pos) = true) := ⟨by rw [hc.out]; unfold nameC letterB; rfl⟩
        go_wp2
        go_roundg k1
        case measure => omega
        case rel => exact ⟨pos + 1, ⟨by have := HK.out; omega⟩, HI2, ⟨fun i hi => by
          by_cases hip : i = pos
          · subst hip; exact hok.out
          · exact HP.out i (by omega)⟩, HB2⟩
      · subst hcc
        have hbad : Aside0 (nameC pos (byteT a0 pos) = false) := ⟨by rw [hc.out]; unfold nameC; cases hq : (pos != 0) <;> rfl⟩
        have hno := Aside0.mk (name_no hlt hbad.out)
        clear hbad
        by_cases hp0 : pos = 0
        · subst hp0
          simp only [Nat.zero_add] at hnx HB2
          go_wp2
          go_ret
          exact ⟨by rw [hno.out]; rfl, by first | exact HB2.out | (rw [hH]; exact HB2.out)⟩
        · have hpb : (pos == 0) = false := by simpa using hp0
          go_wp2
          go_ret
          exact ⟨by rw [hno.out]; rfl, by first | exact HB2.out | (rw [hH]; exact HB2.out)⟩
      · have hok : Aside0 (nameC pos (byteT a0 pos) = true) := ⟨by rw [hc.out]; unfold nameC letterB; rw [decide_eq_true (by omega)]; simp⟩
        have g97 : 97 ≤ c := by omega
        have l122 : c ≤ 122 := by omega
        have g65 : 65 ≤ c := by omega
        have l90 : ¬ c ≤ 90 := by omega
        have g48 : 48 ≤ c := by omega
        have l57 : ¬ c ≤ 57 := by omega
        have e95 : ¬ c = 95 := by omega
        have b95 : (c == 95) = false := by simpa using e95
        have n95 : (c != 95) = true := by simpa using e95
        have e45 : ¬ c = 45 := by omega
        have b45 : (c == 45) = false := by simpa using e45
        have n45 : (c != 45) = true := by simpa using e45
        have e46 : ¬ c = 46 := by omega
        have b46 : (c == 46) = false := by simpa using e46
        have n46 : (c != 46) = true := by simpa using e46
        go_wp2
        go_roundg k1
        case measure => omega
        case rel => exact ⟨pos + 1, ⟨by have := HK.out; omega⟩, HI2, ⟨fun i hi => by
          by_cases hip : i = pos
          · subst hip; exact hok.out
          · exact HP.out i (by omega)⟩, HB2⟩
      · have hbad : Aside0 (nameC pos (byteT a0 pos) = false) := ⟨by
          rw [hc.out]
          unfold nameC letterB
          rw [decide_eq_false (by omega), decide_eq_false (by omega), decide_eq_false (by omega)]
          have e1 : (c == 95) = false := by simp; omega
          have e2 : (c == 45) = false := by simp; omega
          have e3 : (c == 46) = false := by simp; omega
          rw [e1, e2, e3]; simp⟩
        have g97 : 97 ≤ c := by omega
        have l122 : ¬ c ≤ 122 := by omega
        have g65 : 65 ≤ c := by omega
        have l90 : ¬ c ≤ 90 := by omega
        have g48 : 48 ≤ c := by omega
        have l57 : ¬ c ≤ 57 := by omega
        have e95 : ¬ c = 95 := by omega
        have b95 : (c == 95) = false := by simpa using e95
        have n95 : (c != 95) = true := by simpa using e95
        have e45 : ¬ c = 45 := by omega
        have b45 : (c == 45) = false := by simpa using e45
        have n45 : (c != 45) = true := by simpa using e45
        have e46 : ¬ c = 46 := by omega
        have b46 : (c == 46) = false := by simpa using e46
        have n46 : (c != 46) = true := by simpa using e46
        have hno := Aside0.mk (name_no hlt hbad.out)
        clear hbad
        by_cases hp0 : pos = 0
        · subst hp0
          simp only [Nat.zero_add] at hnx HB2
          go_wp2
          go_ret
          exact ⟨by rw [hno.out]; rfl, by first | exact HB2.out | (rw [hH]; exact HB2.out)⟩
        · have hpb : (pos == 0) = false := by simpa using hp0
          go_wp2
          go_ret
          exact ⟨by rw [hno.out]; rfl, by first | exact HB2.out | (rw [hH]; exact HB2.out)⟩

/-! ### share_place: function 20 -/
/-- How two texts stand to each other. -/
def cmpT (a b : ByteArray) : Int := Go.Extern.BytealgCompare.cmp a b
theorem run_cmpstring (a b : ByteArray) (w : World) : (callFunc 44 #[.string a, .string b]).run Try.prog w = .ok (.value (.int .i64 (cmpT a b))) w := by
  rw [run_callFunc_extern (fn := Try.f44) (e := Extern.BytealgCompare.compare) (by kernel_rfl) (by kernel_rfl) (by kernel_rfl) (by kernel_rfl) (by kernel_rfl)]
  rfl
set_option maxHeartbeats 1000000 in
theorem cmpstring_calls (a b : ByteArray) (w : World) : Calls Try.prog 42 #[.string a, .string b] w fun e w' => e = .returned (.int .i64 (cmpT a b)) ∧ Drawn0 w w' := by
  have hcmp := fun w => run_cmpstring a b w
  generalize cmpT a b = c at *
  go_enter Try.func42, Try.ntmps42
  go_wp2
  go_ret
  exact ⟨rfl, Drawn0.refl _⟩
set_option maxHeartbeats 1000000 in
theorem compare_calls (a b : ByteArray) (w : World) : Calls Try.prog 34 #[.string a, .string b] w fun e w' => e = .returned (.int .i64 (cmpT a b)) ∧ Drawn0 w w' := by
  go_enter Try.func34, Try.ntmps34
  go_wp2_with (go_at_call 42; (with_reducible refine (cmpstring_calls a b _).mono ?_); rintro e w' ⟨rfl, hd⟩; replace hd := Aside0.mk hd)
  go_ret
  exact ⟨rfl, hd.out⟩
set_option maxHeartbeats 1000000 in
theorem place_1.calls (x : S52) (u : ByteArray) (w : World) : Calls Try.prog 33 #[.agg #[.string x.f0, .int .i64 x.f1], .string u] w fun e w' => e = .returned (.int .i64 (cmpT x.f0 u)) ∧ Below w.heap.size w w' := by
  have hu := Try.underlying52
  go_enter Try.func33, Try.ntmps33
  go_wp2_with (go_at_call 34; (with_reducible refine (compare_calls x.f0 u _).mono ?_); rintro e w' ⟨rfl, hd⟩; replace hd := Aside0.mk hd)
  go_ret
  exact ⟨rfl, ((Below.refl _ w).alloc (Nat.le_refl _) _).trans ((drawn_below hd.out).mono (by simp))⟩
/-- Where a user is, or should be: halves, again and again. -/
def halfT (l : List S52) (u : ByteArray) : Nat → Nat → Nat → Nat
  | 0, i, _ => i
  | d + 1, i, j => if i < j then (if cmpT (l.getD ((i + j) / 2) z52).f0 u < 0 then halfT l u d ((i + j) / 2 + 1) j else halfT l u d i ((i + j) / 2)) else i
def placeI (l : List S52) (u : ByteArray) : Nat := halfT l u l.length 0 l.length
def placeT (l : List S52) (u : ByteArray) : Int × Bool := ((placeI l u : Int), decide (placeI l u < l.length) && cmpT (l.getD (placeI l u) z52).f0 u == 0)
set_option maxHeartbeats 4000000 in
theorem search_calls (A0 : Option Addr) (c0 : Nat) (l0 : List S52) (u : ByteArray) (w : World) (hr0 : Kd.C k52 w A0 l0.length l0) (hm2 : l0.length ≤ 4611686018427387903) :
    Calls Try.prog 32 #[.slice A0 l0.length c0, .string u, .func (Fn.func 33) #[] #[]] w fun e w' => e = .returned (.tuple #[.int .i64 (placeT l0 u).1, .bool (placeT l0 u).2]) ∧ Below w.heap.size w w' := by
  have hu := Try.underlying52
  have HR0 := Aside0.mk hr0
  have hm : l0.length ≤ 9223372036854775807 := hr0.2.1
  clear hr0
  go_enter Try.func32, Try.ntmps32
  go_wp2
  go_loopg [9, 10] l0.length (fun kq v9 v10 wr => ∃ i j : Nat, v9 = .int .i64 i ∧ v10 = .int .i64 j ∧ Aside0 (i ≤ j ∧ j ≤ l0.length ∧ j ≤ kq + i) ∧ Aside0 (halfT l0 u kq i j = placeI l0 u) ∧ Aside0 (Below w.heap.size w wr))
  case atStart => exact ⟨0, l0.length, rfl, rfl, ⟨Nat.zero_le _, Nat.le_refl _, Nat.le_refl _⟩, ⟨rfl⟩, ⟨Below.refl _ _⟩⟩
  case round =>
    obtain ⟨i, j, rfl, rfl, HK, HP, HB⟩ := hrel
    obtain ⟨hij, hjl, hkq⟩ := HK.out
    by_cases hlt : i < j
    case neg =>
      have e : i = placeI l0 u := by
        have := HP.out
        cases gk with
        | zero => exact this
        | succ k => rw [halfT, if_neg hlt] at this; exact this
      have hlt' : ¬ (i : Int) < (j : Int) := by omega
      by_cases hil : i < l0.length
      · have hi0 : (0 : Int) ≤ (i : Int) := Int.natCast_nonneg _
        have hi1 : (i : Int) < (l0.length : Int) := by omega
        obtain ⟨ad, eA, hx0, hx1⟩ := at_T52 (Kd.C_below HR0.out HB.out) (i : Int) hi0 hi1
        cases eA
        have er : rd_T52 l0 (i : Int) = l0.getD i z52 := by simp [rd_T52]
        rw [er, Int.toNat_natCast] at hx0 hx1
        have hres : Aside0 (placeT l0 u = ((i : Int), cmpT (l0.getD i z52).f0 u == 0)) := ⟨by unfold placeT; rw [← e, decide_eq_true hil]; rfl⟩
        clear er e
        generalize l0.getD i z52 = x at *
        go_wp2_with (go_at_call 33; (with_reducible refine (place_1.calls x u _).mono ?_); rintro e w' ⟨rfl, hb⟩; replace hb := Aside0.mk hb)
        go_ret2
        exact ⟨by rw [hres.out]; rfl, HB.out.trans (hb.out.mono HB.out.size)⟩
      · have hi1 : ¬ (i : Int) < (l0.length : Int) := by omega
        have hres : Aside0 (placeT l0 u = ((i : Int), false)) := ⟨by unfold placeT; rw [← e, decide_eq_false hil]; rfl⟩
        clear e
        go_wp2
        go_ret2
        exact ⟨by rw [hres.out]; rfl, HB.out⟩
    cases gk with
    | zero => omega
    | succ k1 =>
      have hlt' : (i : Int) < (j : Int) := by omega
      obtain ⟨h, hh⟩ : ∃ h, (i + j) / 2 = h := ⟨_, rfl⟩
      have hh0 : (0 : Int) ≤ (h : Int) := Int.natCast_nonneg _
      have hh1 : (h : Int) < (l0.length : Int) := by omega
      obtain ⟨ad, eA, hx0, hx1⟩ := at_T52 (Kd.C_below HR0.out HB.out) (h : Int) hh0 hh1
      cases eA
      have er : rd_T52 l0 (h : Int) = l0.getD h z52 := by simp [rd_T52]
      rw [er, Int.toNat_natCast] at hx0 hx1
      have hP := HP.out
      rw [halfT, if_pos hlt, hh] at hP
      clear er
      generalize l0.getD h z52 = x at *
      have hcs : (cmpT x.f0 u < 0) ∨ ¬ (cmpT x.f0 u < 0) := Decidable.em _
      rcases hcs with hcs | hcs
      · rw [if_pos hcs] at hP
        replace hP := Aside0.mk hP
        go_wp2_with (go_at_call 33; (with_reducible refine (place_1.calls x u _).mono ?_); rintro e w' ⟨rfl, hb⟩; replace hb := Aside0.mk hb)
        go_roundg k1
        case measure => omega
        case rel => exact ⟨h + 1, j, by first | rfl | go_num, rfl, ⟨by omega, hjl, by omega⟩, hP, ⟨HB.out.trans (hb.out.mono HB.out.size)⟩⟩
      · rw [if_neg hcs] at hP
        replace hP := Aside0.mk hP
        go_wp2_with (go_at_call 33; (with_reducible refine (place_1.calls x u _).mono ?_); rintro e w' ⟨rfl, hb⟩; replace hb := Aside0.mk hb)
        go_roundg k1
        case measure => omega
        case rel => exact ⟨i, h, rfl, by first | rfl | go_num, ⟨by omega, by omega, by omega⟩, hP, ⟨HB.out.trans (hb.out.mono HB.out.size)⟩⟩
def share_place.f (l : List S52) (u : ByteArray) : Option (Int × Bool) := if l.length ≤ 4611686018427387903 then some (placeT l u) else none
set_option maxHeartbeats 1000000 in
theorem share_place.calls (A0 : Option Addr) (c0 : Nat) (l0 : List S52) (a1 : ByteArray) (r1 : Int) (r2 : Bool) (w : World) (hr0 : Kd.C k52 w A0 l0.length l0) (hc0 : l0.length ≤ c0) (h : share_place.f l0 a1 = some (r1, r2)) :
    Calls Try.prog 20 #[.slice A0 l0.length c0, .string a1] w fun e w' => e = .returned (.tuple #[.int .i64 r1, .bool r2]) ∧ Below w.heap.size w w' := by
  unfold share_place.f at h
  by_cases hl : l0.length ≤ 4611686018427387903
  case neg => rw [if_neg hl] at h; cases h
  rw [if_pos hl] at h
  have h := Option.some.inj h
  have HR0 := Aside0.mk hr0
  have e1 : (placeT l0 a1).1 = r1 := by rw [h]
  have e2 : (placeT l0 a1).2 = r2 := by rw [h]
  clear hr0
  have hs := Aside0.mk (search_calls A0 c0 l0 a1 w HR0.out hl)
  rw [e1, e2] at hs
  clear e1 e2 h
  go_enter Try.func20, Try.ntmps20
  go_wp2_with (go_at_call 32; (with_reducible refine hs.out.mono ?_); rintro e w' ⟨rfl, hb⟩; replace hb := Aside0.mk hb)
  go_ret2
  exact ⟨rfl, hb.out⟩

/-! ### api_Share_24: function 24 -/
theorem share_info : (Try.prog.info? 52).map (fun i => (i.zero, i.size, i.bytes)) = some (some (.agg #[(.string ⟨#[]⟩), (.int .i64 0)]), 2, 24) := by kernel_rfl
set_option maxHeartbeats 4000000 in
set_option maxRecDepth 100000 in
theorem keep_calls (A0 : Option Addr) (c0 : Nat) (l0 : List S52) (p : S52 → Bool) (f : Nat) (w : World) (hr0 : Kd.C k52 w A0 l0.length l0) (hl0 : l0.length ≤ 1000000)
    (hent : ∀ args w, (callFunc f args).run Try.prog w = .ok (.enter f args) w)
    (hso : ∀ (x : S52) (W : World), Calls Try.prog f #[.agg #[.string x.f0, .int .i64 x.f1]] W fun e W' => e = .returned (.bool (p x)) ∧ Below W.heap.size W W') :
    Calls Try.prog 24 #[.slice A0 l0.length c0, .func (.func f) #[] #[]] w fun e w' => ∃ v, e = .returned v ∧ Kd.V k52 52 w' w.heap.size (fun k => w.heap.size ≤ k) v (l0.filter p) ∧ Below w.heap.size w w' := by
  have hu := Try.underlying52
  have HR0 := Aside0.mk hr0
  clear hr0
  replace hso := Aside0.mk hso
  go_enter Try.func24, Try.ntmps24
  go_wp2
  go_loopg [5, 10] l0.length (fun kq v5 v10 wr => ∃ (i : Nat) (v : Value), v = v5 ∧ v10 = .int .i64 i ∧ Aside0 (kq + i = l0.length) ∧ Aside0 (Kd.R k52 52 wr w.heap.size (fun _ => True) v ((l0.take i).filter p)) ∧ Aside0 (Below w.heap.size w wr))
  case atStart => exact ⟨0, _, rfl, rfl, ⟨rfl⟩, ⟨by rw [List.take_zero]; exact Kd.R_nil _ _ _ _ _⟩, ⟨Below.refl _ _⟩⟩
  case round =>
    obtain ⟨i, v, rfl, rfl, HK, HO, HB⟩ := hrel
    cases gk with
    | zero =>
      have e : i = l0.length := by have := HK.out; omega
      subst e
      rw [List.take_length] at HO
      obtain ⟨A, c, rfl⟩ := Kd.R_slice HO.out
      have hnc := (Kd.R_reads' HO.out).2.1
      have hnm : ((l0.filter p).length : Int) ≤ (c : Int) := by omega
      have hn0 : (0 : Int) ≤ ((l0.filter p).length : Int) := Int.natCast_nonneg _
      have HV : Aside0 (Kd.V k52 52 wr w.heap.size (fun k => w.heap.size ≤ k) (.slice A (l0.filter p).length (l0.filter p).length) (l0.filter p)) := ⟨Kd.V_mk (Nat.le_refl _) (Kd.R_F (Kd.R_mono (Kd.R_bound HO.out) (fun _ hk => hk.2.1)))⟩
      generalize hq : l0.filter p = q at HV HO hnc hnm hn0
      go_wp2
      go_ret
      exact ⟨_, rfl, by rw [hq]; exact HV.out, HB.out⟩
    | succ k1 =>
      have hlt : i < l0.length := by have := HK.out; omega
      have hi0 : (0 : Int) ≤ (i : Int) := Int.natCast_nonneg _
      have hi1 : (i : Int) < (l0.length : Int) := by omega
      obtain ⟨ad, eA, hx0, hx1⟩ := at_T52 (Kd.C_below HR0.out HB.out) (i : Int) hi0 hi1
      cases eA
      have er : rd_T52 l0 (i : Int) = l0[i] := by simp [rd_T52, List.getD_eq_getElem?_getD, List.getElem?_eq_getElem hlt]
      rw [er, Int.toNat_natCast] at hx0 hx1
      have HT := Aside0.mk (List.take_succ_eq_append_getElem (l := l0) hlt)
      have hfl := Aside0.mk (Nat.le_trans (List.length_filter_le p (l0.take i)) (by rw [List.length_take]; omega : (l0.take i).length ≤ 1000000))
      clear er
      generalize l0[i] = x at *
      cases hp : p x with
      | false =>
        have hF : Aside0 ((l0.take (i + 1)).filter p = (l0.take i).filter p) := ⟨by rw [HT.out, List.filter_append, List.filter_cons, hp]; simp⟩
        clear HT
        go_wp2_with (refine (hso.out x _).mono ?_; rintro e w4 ⟨rfl, hb⟩; rw [hp]; have hb4 := Aside0.mk (((Below.refl wr.heap.size wr).alloc (Nat.le_refl _) _).trans (hb.mono (show wr.heap.size ≤ _ by simp))); clear hb)
        go_roundg k1
        case measure => omega
        case rel => exact ⟨i + 1, _, rfl, by go_num, ⟨by have := HK.out; omega⟩, ⟨by rw [hF.out]; exact Kd.R_below HO.out hb4.out⟩, ⟨HB.out.trans (hb4.out.mono HB.out.size)⟩⟩
      | true =>
        have hF : Aside0 ((l0.take (i + 1)).filter p = (l0.take i).filter p ++ [x]) := ⟨by rw [HT.out, List.filter_append, List.filter_cons, hp]; simp⟩
        clear HT
        have hbox := Aside0.mk (BoxN.new wr 52 [.string x.f0, .int .i64 x.f1])
        go_wp2_with (first
          | (refine (hso.out x _).mono ?_; rintro e w4 ⟨rfl, hb⟩; rw [hp]; have hb4 := Aside0.mk (((Below.refl wr.heap.size wr).alloc (Nat.le_refl _) _).trans (hb.mono (show wr.heap.size ≤ _ by simp))); have hbx := BoxN.below hbox.out hb hbox.out.lt; have q0 := hbx.cell 0 rfl; have q1 := hbx.cell 1 rfl; clear hb hbx; have HO4 := Aside0.mk (Kd.R_below HO.out hb4.out); have HB4 := Aside0.mk (HB.out.trans (hb4.out.mono HB.out.size)))
          | ((with_reducible refine gate_builtin (b := .append) (xs := #[.tmp 17, .tmp 19]) rfl ?_); at_builtin; refine Kd.R_append k52 (w0 := w) w.heap.size rfl (.tmp 17) (.tmp 19) 22 52 (.agg #[(.string ⟨#[]⟩), (.int .i64 0)]) 24 rfl Try.underlying22 share_info rfl (by decide) (by omega) v ((l0.take i).filter p) x [.string x.f0, .int .i64 x.f1] (fun _ => True) (fun _ => False) rfl rfl ?aP (fun _ hk => hk.elim) ?aF ?aO ?aB ?aS ?aL ?_; (case aP => exact k52_mkM _ _ _ x); (case aB => exact HB4.out); (case aF => exact fun _ _ => trivial); (case aO => exact HO4.out); (case aS => exact HB4.out.size); (case aL => have := hfl.out; omega); intro v6 w6 ho hb hg hat; have HB6 := Aside0.mk hb; have HO6 := Aside0.mk ho; clear ho hb hg hat))
        go_roundg k1
        case measure => omega
        case rel => exact ⟨i + 1, _, rfl, by go_num, ⟨by have := HK.out; omega⟩, ⟨by rw [hF.out]; exact HO6.out⟩, HB6⟩

/-! ### api_Share_21: function 21 -/
set_option maxHeartbeats 4000000 in
set_option maxRecDepth 100000 in
/-- A row of shares, copied to a row of one's own (or none). -/
theorem share_Clone_own (A0 : Option Addr) (c0 : Nat) (l0 : List S52) (w : World) (hr0 : Kd.C k52 w A0 l0.length l0) (hc0 : l0.length ≤ c0) (hl : l0.length ≤ 1000000) :
    Calls Try.prog 21 #[.slice A0 l0.length c0] w fun e w' => ∃ v, e = .returned v ∧ Kd.R k52 52 w' w.heap.size (fun _ => True) v l0 ∧ Below w.heap.size w w' := by
  cases A0 with
  | none =>
    have hz : l0 = [] := by
      cases l0 with
      | nil => rfl
      | cons x xs => obtain ⟨ad, e, _⟩ := hr0.2.2 (by simp); cases e
    subst hz
    have hnil : ∀ (w : World) (c : Nat), (binOp .eql 22 (.slice none 0 c) (.slice none 0 0)).run Try.prog w = .ok (.bool true) w := fun w c => by first | exact Lib.run_eql_slice_nil w _ _ _ _ _ Try.underlying22 | exact run_eql_slice_nil w _ _ _ _ _ Try.underlying22
    go_enter Try.func21, Try.ntmps21
    go_wp2
    go_ret
    exact ⟨_, rfl, Kd.R_nil _ _ _ _ _, Below.refl _ _⟩
  | some ad =>
    have hnil : ∀ (w : World) (c : Nat), (binOp .eql 22 (.slice (some ad) l0.length c) (.slice none 0 0)).run Try.prog w = .ok (.bool false) w := fun w c => by first | exact Lib.run_eql_slice_nil w _ _ _ _ _ Try.underlying22 | exact run_eql_slice_nil w _ _ _ _ _ Try.underlying22
    have HR := Aside0.mk hr0
    clear hr0
    have HB := Aside0.mk (Below.refl w.heap.size w)
    go_enter Try.func21, Try.ntmps21
    go_wp2_with (first
      | ((with_reducible refine gate_dst (N := 5) rfl ?_); refine Kd.R_lit k52 _ 52 ?hg (N := 5) ?hd (xs := ([] : List S52)) (inner := []) (ok := fun _ => True) (okp := fun _ => True) ?hr ?hp (fun _ hk => hk) trivial (Below.refl _ _) (Nat.le_refl _) (by simp) ?_; (case hd => rfl); (case hg => rfl); (case hr => first | (go_simp; done) | (go_simp; rfl)); (case hp => exact (Reps.none _ _)); intro v127 w3 ho4 hb hg_ hnew_; clear hg_ hnew_; have RL := Aside0.mk (Kd.R_lower ho4 HB.out.size); replace HB := Aside0.mk (HB.out.trans (hb.mono HB.out.size)); clear hb ho4)
      | ((with_reducible refine gate_builtin (b := .append) (xs := #[.tmp 5, .tmp 6]) rfl ?_); at_builtin; refine Kd.R_append_rows k52 (w0 := w) w.heap.size rfl (.tmp 5) (.tmp 6) 22 52 (.agg #[(.string ⟨#[]⟩), (.int .i64 0)]) 24 rfl Try.underlying22 share_info rfl (by decide) (by omega) v127 [] l0 _ _ _ (fun _ => True) (fun _ => False) rfl rfl ?aO ?aR (fun _ _ h => h) (fun _ h => h.elim) ?aF ?aB ?aS ?aL ?_; (case aR => exact (Kd.C_below HR.out HB.out)); (case aB => exact HB.out); (case aF => exact (fun _ _ => trivial)); (case aO => exact RL.out); (case aS => exact HB.out.size); (case aL => simp; omega); intro v130 w5 ho hb hg hat; replace HB := Aside0.mk hb; have HO := Aside0.mk (show Kd.R k52 52 w5 w.heap.size (fun _ => True) v130 l0 from ho); clear RL ho hb hg hat))
    go_ret
    exact ⟨_, rfl, HO.out, HB.out⟩

end Go.Proofs.Ytjhpgfgpchgabaa.P
