-- Written by this session's program gprint.py: functions of the program as plain functions, and that the machine does what they say. Not trusted: Lean checks it.
import Derived.Test.YtphmejgipjcppaaPx0
import Derived.Test.YtphmejgipjcppaaPx1
import Derived.Test.YtphmejgipjcppaaPx2
import Derived.Test.YtphmejgipjcppaaPx4
namespace Go.Proofs.Ytphmejgipjcppaa.P
open Go.RowKit Go.Proofs.YtphmejgipjcppaaW.PrintWords Go.Proofs.YtphmejgipjcppaaW.PrintLast Go.Proofs.YtphmejgipjcppaaW.PrintMore
attribute [local go_sem] max2_int min2_int max_two min_two max_three min_three max_four min_four   -- for this text's walks alone
set_option linter.unusedVariables false
set_option linter.unusedSimpArgs false

/-! ### forebaylaw01_PackReads: function 3 -/
/-- What the document's ReadNum tells. -/
def rdN (s : ByteArray) : Int × Int := match rdNum 0 (bytesOf s) 0 with | some (n, m) => (n, (m : Int)) | none => (0, 0)
/-- What the law's calls tell. -/
def ReadsOk (k : Nat) (s : ByteArray) : Prop := forebaylaw01_head.f k = some true ∧ (s.size ≤ 400 → ∀ j, j ≤ s.size → forebayref01_ReadNum.f k (s.extract j s.size) = some (rdN (s.extract j s.size)))
noncomputable def forebaylaw01_PackReads.f (k : Nat) (a0 : ByteArray) (a1 a2 : Int) : Option Bool := @ite _ (ReadsOk k a0 ∧ (0 ≤ a1 ∧ a1 ≤ 255) ∧ (0 ≤ a2 ∧ a2 ≤ 255)) (Classical.propDecidable _) (some true) none
theorem forebaylaw01_PackReads.mono : ∀ a0 a1 a2 k, LeO (forebaylaw01_PackReads.f k a0 a1 a2) (forebaylaw01_PackReads.f (k + 1) a0 a1 a2) := by
  intro a0 a1 a2 k r h
  unfold forebaylaw01_PackReads.f at h ⊢
  by_cases hk : ReadsOk k a0 ∧ (0 ≤ a1 ∧ a1 ≤ 255) ∧ (0 ≤ a2 ∧ a2 ≤ 255)
  · rw [@if_pos _ (Classical.propDecidable _) hk] at h
    rw [@if_pos _ (Classical.propDecidable _) ⟨⟨forebaylaw01_head.mono _ _ hk.1.1, fun hs j hj => forebayref01_ReadNum.mono _ _ _ (hk.1.2 hs j hj)⟩, hk.2⟩]
    exact h
  · rw [@if_neg _ (Classical.propDecidable _) hk] at h; cases h
theorem ext_ext (s : ByteArray) (j m : Nat) : (s.extract j s.size).extract m (s.extract j s.size).size = s.extract (j + m) s.size := by
  refine ba_ext ?_
  rw [ba_drop, ba_drop, ba_drop, List.drop_drop]
theorem ext_all (s : ByteArray) : s.extract 0 s.size = s := by
  refine ba_ext ?_
  rw [ba_drop, List.drop_zero]
theorem ext_size (s : ByteArray) (j : Nat) : (s.extract j s.size).size = s.size - j := by
  rw [← ba_size, ba_drop, List.length_drop, ba_size]
theorem ext_mid (s : ByteArray) (m n : Nat) (h : m + n ≤ s.size) : (s.extract m s.size).extract 0 n = s.extract m (m + n) := by
  refine ba_ext ?_
  rw [ba_take, ba_drop, ba_extract, List.take_drop]
theorem rdN_none {s : ByteArray} (h : rdNum 0 (bytesOf s) 0 = none) : rdN s = (0, 0) := by unfold rdN; rw [h]
theorem rdN_some {s : ByteArray} {n : Int} {m : Nat} (h : rdNum 0 (bytesOf s) 0 = some (n, m)) : rdN s = (n, (m : Int)) := by unfold rdN; rw [h]
/-- What stands at a round's head: how the reader is, of what is left. -/
structure RdSt (w : World) (s : ByteArray) (H j : Nat) (fine : Bool) (W : World) : Prop where
  jl : j ≤ s.size
  at_ : RdAt W H (if fine = true then s.extract j s.size else ⟨#[]⟩) fine
  below : Below H w W
theorem num_way {b : Nat} {s s' : ByteArray} {f f' : Bool} {n : Int} {w : World} (h : RdAt w b s f) (hs : s.size ≤ 400) (hv : numS s f = (n, s', f')) : Calls Try.prog 9 #[.pointer (some ⟨b, 0, none⟩)] w fun e w' => e = .returned (.int .u64 n) ∧ RdAt w' b s' f' ∧ Keeps (fun k => k ≠ b) w w' := by
  have := pack_RNum_calls b s f w h (by omega)
  rwa [hv] at this
theorem text_way {b : Nat} {s s' g : ByteArray} {f f' : Bool} {most : Int} {w : World} (h : RdAt w b s f) (hs : s.size ≤ 400) (hm : 0 ≤ most ∧ most ≤ 255) (hv : textS s f most = (g, s', f')) : Calls Try.prog 10 #[.pointer (some ⟨b, 0, none⟩), .int .i64 most] w fun e w' => e = .returned (.string g) ∧ RdAt w' b s' f' ∧ Keeps (fun k => k ≠ b) w w' := by
  have := pack_RText_calls b s f most w h (by omega) ⟨by omega, by omega⟩
  rwa [hv] at this
theorem textS_dead (most : Int) : textS ⟨#[]⟩ false most = (⟨#[]⟩, ⟨#[]⟩, false) := by
  unfold textS
  rw [show numS ⟨#[]⟩ false = (0, ⟨#[]⟩, false) from rfl, if_pos rfl]
theorem textS_none {s : ByteArray} (h : rdNum 0 (bytesOf s) 0 = none) (most : Int) : textS s true most = (⟨#[]⟩, ⟨#[]⟩, false) := by
  unfold textS
  rw [numS_none h, if_pos rfl]
theorem textS_bad {s : ByteArray} {n : Int} {m : Nat} {most : Int} (h : rdNum 0 (bytesOf s) 0 = some (n, m)) (hb : ((s.extract m s.size).size : Int) < n ∨ most < 0 ∨ most < n) : textS s true most = (⟨#[]⟩, ⟨#[]⟩, false) := by
  unfold textS
  rw [numS_some h, if_neg (by simp), if_pos hb]
theorem textS_good {s : ByteArray} {n m : Nat} {most : Int} (h : rdNum 0 (bytesOf s) 0 = some ((n : Int), m)) (h1 : m + n ≤ s.size) (hm : (n : Int) ≤ most) : textS s true most = (s.extract m (m + n), s.extract (m + n) s.size, true) := by
  unfold textS
  have hz := ext_size s m
  rw [numS_some h]
  dsimp only
  rw [if_neg (by simp), if_neg (by omega), Int.toNat_natCast, ext_mid s m n h1, ext_ext]
set_option maxHeartbeats 8000000 in
set_option maxRecDepth 100000 in
theorem forebaylaw01_PackReads.calls (k : Nat) (a0 : ByteArray) (a1 : Int) (a2 : Int) (r : Bool) (w : World) (h : forebaylaw01_PackReads.f k a0 a1 a2 = some r) :
    Calls Try.prog 3 #[.string a0, .int .u8 a1, .int .u8 a2] w fun e w' => e = .returned (.bool r) ∧ Below w.heap.size w w' := by
  unfold forebaylaw01_PackReads.f at h
  by_cases hk : ReadsOk k a0 ∧ (0 ≤ a1 ∧ a1 ≤ 255) ∧ (0 ≤ a2 ∧ a2 ≤ 255)
  case neg => rw [@if_neg _ (Classical.propDecidable _) hk] at h; cases h
  rw [@if_pos _ (Classical.propDecidable _) hk] at h
  obtain rfl := Option.some.inj h
  clear h
  obtain ⟨⟨hhd, hrn⟩, ⟨p0, p1⟩, ⟨g0, g1⟩⟩ := hk
  replace hhd := Aside0.mk hhd
  by_cases hs : 400 < a0.size
  · have q1 : decide (400 < (a0.size : Int)) = true := decide_eq_true (by omega)
    have q2 : decide (400 < a0.size) = true := decide_eq_true hs
    clear hrn hs
    go_enter Try.func3, Try.ntmps3
    go_wp2_with (go_at_call 6; with_reducible refine (forebaylaw01_head.calls _ _ _ hhd.out).mono ?_; rintro e w1 ⟨rfl, hb⟩)
    go_ret
    exact ⟨rfl, hb⟩
  have hs4 : a0.size ≤ 400 := by omega
  have q1 : decide (400 < (a0.size : Int)) = false := decide_eq_false (by omega)
  have q2 : decide (400 < a0.size) = false := decide_eq_false hs
  replace hrn := Aside0.mk (hrn hs4)
  clear hs
  obtain ⟨H, hH⟩ : ∃ H, w.heap.size = H := ⟨_, rfl⟩
  obtain ⟨N, hN, hN60⟩ : ∃ N : Nat, (wrap64 a2).tmod 60 = (N : Int) ∧ N < 60 := by
    have e : wrap64 a2 = a2 := by unfold wrap64; omega
    rw [e, Int.tmod_eq_emod_of_nonneg g0]
    exact ⟨(a2 % 60).toNat, by omega, by omega⟩
  clear g0 g1
  go_enter Try.func3, Try.ntmps3
  go_wp2_with (go_at_call 7; with_reducible refine (pack_Open_calls _ _).mono ?_; rintro e w1 ⟨rfl, hR1, hb1⟩; rw [hH] at hR1 hb1 ⊢; replace hR1 := Aside0.mk hR1; replace hb1 := Aside0.mk hb1)
  go_loopg [0, 8, 9] N (fun kq v0 v8 v9 W => ∃ (i j : Nat) (fine : Bool), v9 = .int .i64 i ∧ v8 = .bool fine ∧ v0 = .string (a0.extract j a0.size) ∧ Aside0 (kq + i = N) ∧ Aside0 (RdSt w a0 H j fine W))
  case atStart => exact ⟨0, 0, true, rfl, rfl, by rw [ext_all], ⟨rfl⟩, ⟨⟨Nat.zero_le _, by rw [if_pos rfl, ext_all]; exact hR1.out, hb1.out⟩⟩⟩
  case round =>
    clear hR1 hb1
    obtain ⟨i, j, fine, rfl, rfl, rfl, HK, HS⟩ := hrel
    cases gk with
    | zero =>
      obtain rfl : i = N := by have := HK.out; omega
      have q3 : decide ((i : Int) < (i : Int)) = false := by simp
      go_wp2_with (go_at_call 6; with_reducible refine (forebaylaw01_head.calls _ _ _ hhd.out).mono ?_; rintro e w2 ⟨rfl, hb⟩; replace hb := Aside0.mk hb)
      go_ret
      have hB := HS.out.below
      rw [← hH] at hB
      exact ⟨rfl, hB.trans (hb.out.mono hB.size)⟩
    | succ k1 =>
      have hlt : i < N := by have := HK.out; omega
      have q3 : decide ((i : Int) < (N : Int)) = true := decide_eq_true (by omega)
      have q3n : decide (i < N) = true := decide_eq_true hlt
      have hread := Aside0.mk (hrn.out j HS.out.jl)
      have hnx := Aside0.mk (fun m => ext_ext a0 j m)
      have hsz := ext_size a0 j
      have hsj : (a0.extract j a0.size).size ≤ 400 := by omega
      obtain ⟨hj, hat, hbl⟩ := HS.out
      replace hbl := Aside0.mk hbl
      replace hsz := Aside0.mk hsz
      clear HS
      generalize hsje : a0.extract j a0.size = sj at *
      replace hsje := Aside0.mk hsje
      cases fine with
      | false =>
        rw [if_neg (by simp)] at hat
        replace hat := Aside0.mk hat
        have hsa := Aside0.mk (show (⟨#[]⟩ : ByteArray).size ≤ 400 by decide)
        generalize hr : rdN sj = pr at *
        obtain ⟨n, m⟩ := pr
        clear hr
        by_cases hpar : i % 2 = 0
        · have hval := Aside0.mk (show numS ⟨#[]⟩ false = (0, ⟨#[]⟩, false) from rfl)
          have p2 : ((i : Int) % 2 == 0) = true := beq_iff_eq.mpr (by omega)
          have p2n : (i % 2 == 0) = true := beq_iff_eq.mpr hpar
          go_wp2_with (first | (go_at_call 8; with_reducible refine (forebayref01_ReadNum.calls _ _ _ _ _ hread.out).mono ?_; rintro e w2 ⟨rfl, hd⟩; obtain ⟨nd, rfl⟩ := hd) | (go_at_call 9; with_reducible refine (num_way (hat.out.drewN _) hsa.out hval.out).mono ?_; rintro e w3 ⟨rfl, hR3, hK3⟩; replace hR3 := Aside0.mk hR3; replace hK3 := Aside0.mk hK3) | (go_at_call 11; with_reducible refine (pack_Fine_calls _ _ _ _ hR3.out).mono ?_; rintro e w4 ⟨rfl, rfl⟩) | (go_at_call 12; with_reducible refine (pack_Over_calls _ _ _ _ hR3.out).mono ?_; rintro e w5 ⟨rfl, rfl⟩))
          go_roundg k1
          case measure => omega
          case rel =>
            have hB3 := Aside0.mk ((hbl.out.trans (pw_below_drewN (Below.refl H _) _)).trans (hK3.out.below (Nat.le_of_lt hat.out.lt) (fun k hk => by omega)))
            exact ⟨i + 1, j, false, by go_num, rfl, by rw [hsje.out], ⟨by have := HK.out; omega⟩, ⟨⟨hj, by rw [if_neg (by simp)]; exact hR3.out, hB3.out⟩⟩⟩
        · have hval := Aside0.mk (textS_dead a1)
          have p2 : ((i : Int) % 2 == 0) = false := beq_eq_false_iff_ne.mpr (by omega)
          have p2n : (i % 2 == 0) = false := beq_eq_false_iff_ne.mpr hpar
          go_wp2_with (first | (go_at_call 8; with_reducible refine (forebayref01_ReadNum.calls _ _ _ _ _ hread.out).mono ?_; rintro e w2 ⟨rfl, hd⟩; obtain ⟨nd, rfl⟩ := hd) | (go_at_call 10; with_reducible refine (text_way (hat.out.drewN _) hsa.out (And.intro p0 p1) hval.out).mono ?_; rintro e w3 ⟨rfl, hR3, hK3⟩; replace hR3 := Aside0.mk hR3; replace hK3 := Aside0.mk hK3) | (go_at_call 11; with_reducible refine (pack_Fine_calls _ _ _ _ hR3.out).mono ?_; rintro e w4 ⟨rfl, rfl⟩) | (go_at_call 12; with_reducible refine (pack_Over_calls _ _ _ _ hR3.out).mono ?_; rintro e w5 ⟨rfl, rfl⟩))
          go_roundg k1
          case measure => omega
          case rel =>
            have hB3 := Aside0.mk ((hbl.out.trans (pw_below_drewN (Below.refl H _) _)).trans (hK3.out.below (Nat.le_of_lt hat.out.lt) (fun k hk => by omega)))
            exact ⟨i + 1, j, false, by go_num, rfl, by rw [hsje.out], ⟨by have := HK.out; omega⟩, ⟨⟨hj, by rw [if_neg (by simp)]; exact hR3.out, hB3.out⟩⟩⟩
      | true =>
        rw [if_pos rfl] at hat
        replace hat := Aside0.mk hat
        have hsa := Aside0.mk hsj
        cases hrd : rdNum 0 (bytesOf sj) 0 with
        | none =>
          rw [rdN_none hrd] at hread
          by_cases hpar : i % 2 = 0
          · have hval := Aside0.mk (numS_none hrd)
            clear hrd
            have p2 : ((i : Int) % 2 == 0) = true := beq_iff_eq.mpr (by omega)
            have p2n : (i % 2 == 0) = true := beq_iff_eq.mpr hpar
            go_wp2_with (first | (go_at_call 8; with_reducible refine (forebayref01_ReadNum.calls _ _ _ _ _ hread.out).mono ?_; rintro e w2 ⟨rfl, hd⟩; obtain ⟨nd, rfl⟩ := hd) | (go_at_call 9; with_reducible refine (num_way (hat.out.drewN _) hsa.out hval.out).mono ?_; rintro e w3 ⟨rfl, hR3, hK3⟩; replace hR3 := Aside0.mk hR3; replace hK3 := Aside0.mk hK3) | (go_at_call 11; with_reducible refine (pack_Fine_calls _ _ _ _ hR3.out).mono ?_; rintro e w4 ⟨rfl, rfl⟩) | (go_at_call 12; with_reducible refine (pack_Over_calls _ _ _ _ hR3.out).mono ?_; rintro e w5 ⟨rfl, rfl⟩))
            go_roundg k1
            case measure => omega
            case rel =>
              have hB3 := Aside0.mk ((hbl.out.trans (pw_below_drewN (Below.refl H _) _)).trans (hK3.out.below (Nat.le_of_lt hat.out.lt) (fun k hk => by omega)))
              exact ⟨i + 1, j, false, by go_num, rfl, by rw [hsje.out], ⟨by have := HK.out; omega⟩, ⟨⟨hj, by rw [if_neg (by simp)]; exact hR3.out, hB3.out⟩⟩⟩
          · have hval := Aside0.mk (textS_none hrd a1)
            clear hrd
            have p2 : ((i : Int) % 2 == 0) = false := beq_eq_false_iff_ne.mpr (by omega)
            have p2n : (i % 2 == 0) = false := beq_eq_false_iff_ne.mpr hpar
            go_wp2_with (first | (go_at_call 8; with_reducible refine (forebayref01_ReadNum.calls _ _ _ _ _ hread.out).mono ?_; rintro e w2 ⟨rfl, hd⟩; obtain ⟨nd, rfl⟩ := hd) | (go_at_call 10; with_reducible refine (text_way (hat.out.drewN _) hsa.out (And.intro p0 p1) hval.out).mono ?_; rintro e w3 ⟨rfl, hR3, hK3⟩; replace hR3 := Aside0.mk hR3; replace hK3 := Aside0.mk hK3) | (go_at_call 11; with_reducible refine (pack_Fine_calls _ _ _ _ hR3.out).mono ?_; rintro e w4 ⟨rfl, rfl⟩) | (go_at_call 12; with_reducible refine (pack_Over_calls _ _ _ _ hR3.out).mono ?_; rintro e w5 ⟨rfl, rfl⟩))
            go_roundg k1
            case measure => omega
            case rel =>
              have hB3 := Aside0.mk ((hbl.out.trans (pw_below_drewN (Below.refl H _) _)).trans (hK3.out.below (Nat.le_of_lt hat.out.lt) (fun k hk => by omega)))
              exact ⟨i + 1, j, false, by go_num, rfl, by rw [hsje.out], ⟨by have := HK.out; omega⟩, ⟨⟨hj, by rw [if_neg (by simp)]; exact hR3.out, hB3.out⟩⟩⟩
        | some p =>
          obtain ⟨n, m⟩ := p
          rw [rdN_some hrd] at hread
          obtain ⟨x0, x1, x2, x3⟩ := rdNum_range _ 0 0 n m (bytesOf_range _) (by omega) (by omega) (by decide) hrd
          rw [bytesOf_length] at x3
          have hz0 : m ≤ a0.size - j := by have := hsz.out; omega
          have q5 : decide (0 < (m : Int)) = true := decide_eq_true (by omega)
          have q5n : decide (0 < m) = true := decide_eq_true x2
          by_cases hpar : i % 2 = 0
          · have hval := Aside0.mk (numS_some hrd)
            clear hrd
            have p2 : ((i : Int) % 2 == 0) = true := beq_iff_eq.mpr (by omega)
            have p2n : (i % 2 == 0) = true := beq_iff_eq.mpr hpar
            go_wp2_with (first | (go_at_call 8; with_reducible refine (forebayref01_ReadNum.calls _ _ _ _ _ hread.out).mono ?_; rintro e w2 ⟨rfl, hd⟩; obtain ⟨nd, rfl⟩ := hd) | (go_at_call 9; with_reducible refine (num_way (hat.out.drewN _) hsa.out hval.out).mono ?_; rintro e w3 ⟨rfl, hR3, hK3⟩; replace hR3 := Aside0.mk hR3; replace hK3 := Aside0.mk hK3) | (go_at_call 11; with_reducible refine (pack_Fine_calls _ _ _ _ hR3.out).mono ?_; rintro e w4 ⟨rfl, rfl⟩) | (go_at_call 12; with_reducible refine (pack_Over_calls _ _ _ _ hR3.out).mono ?_; rintro e w5 ⟨rfl, rfl⟩))
            go_roundg k1
            case measure => omega
            case rel =>
              have hB3 := Aside0.mk ((hbl.out.trans (pw_below_drewN (Below.refl H _) _)).trans (hK3.out.below (Nat.le_of_lt hat.out.lt) (fun k hk => by omega)))
              exact ⟨i + 1, j + m, true, by go_num, rfl, by rw [hnx.out], ⟨by have := HK.out; omega⟩, ⟨⟨by omega, by rw [if_pos rfl, ← hnx.out]; exact hR3.out, hB3.out⟩⟩⟩
          · obtain ⟨nn, rfl⟩ := Int.eq_ofNat_of_zero_le x0
            by_cases hg : (nn : Int) ≤ a1
            · by_cases hg2 : m + nn ≤ sj.size
              · have hval := Aside0.mk (textS_good hrd hg2 hg)
                clear hrd
                have q6 : decide ((nn : Int) ≤ a1) = true := decide_eq_true hg
                have hb7 : (0 : Int) ≤ (sj.size : Int) - (m : Int) ∧ (sj.size : Int) - (m : Int) ≤ 400 := by omega
                have q9 : decide ((nn : Int) ≤ (sj.size : Int) - (m : Int)) = true := decide_eq_true (by omega)
                have q12 : m + nn ≤ a0.size - j := by have := hsz.out; omega
                have q11 : (sj.extract m (m + nn)).size = nn := by rw [← ba_size, ba_extract, List.length_drop, List.length_take, ba_size]; omega
                have hn4 : nn ≤ 400 := by omega
                have hm4 : m ≤ 400 := by omega
                have hmn : (m : Int) + (nn : Int) ≤ (sj.size : Int) := by omega
                have hmn2 : (m : Int) ≤ (m : Int) + (nn : Int) := by omega
                have q14 : ((m : Int) + (nn : Int)).toNat = m + nn := by omega
                clear x1
                have p2 : ((i : Int) % 2 == 0) = false := beq_eq_false_iff_ne.mpr (by omega)
                have p2n : (i % 2 == 0) = false := beq_eq_false_iff_ne.mpr hpar
                go_wp2_with (first | (go_at_call 8; with_reducible refine (forebayref01_ReadNum.calls _ _ _ _ _ hread.out).mono ?_; rintro e w2 ⟨rfl, hd⟩; obtain ⟨nd, rfl⟩ := hd) | (go_at_call 10; with_reducible refine (text_way (hat.out.drewN _) hsa.out (And.intro p0 p1) hval.out).mono ?_; rintro e w3 ⟨rfl, hR3, hK3⟩; replace hR3 := Aside0.mk hR3; replace hK3 := Aside0.mk hK3) | (go_at_call 11; with_reducible refine (pack_Fine_calls _ _ _ _ hR3.out).mono ?_; rintro e w4 ⟨rfl, rfl⟩) | (go_at_call 12; with_reducible refine (pack_Over_calls _ _ _ _ hR3.out).mono ?_; rintro e w5 ⟨rfl, rfl⟩))
                go_roundg k1
                case measure => omega
                case rel =>
                  have hB3 := Aside0.mk ((hbl.out.trans (pw_below_drewN (Below.refl H _) _)).trans (hK3.out.below (Nat.le_of_lt hat.out.lt) (fun k hk => by omega)))
                  exact ⟨i + 1, j + (m + nn), true, by go_num, rfl, by rw [hnx.out], ⟨by have := HK.out; omega⟩, ⟨⟨by omega, by rw [if_pos rfl, ← hnx.out]; exact hR3.out, hB3.out⟩⟩⟩
              · have hval := Aside0.mk (textS_bad (most := a1) hrd (.inl (by rw [ext_size]; omega)))
                clear hrd
                have q6 : decide ((nn : Int) ≤ a1) = true := decide_eq_true hg
                have hb7 : (0 : Int) ≤ (sj.size : Int) - (m : Int) ∧ (sj.size : Int) - (m : Int) ≤ 400 := by omega
                have q9 : decide ((nn : Int) ≤ (sj.size : Int) - (m : Int)) = false := decide_eq_false (by omega)
                have hm4 : m ≤ 400 := by omega
                have hms : (m : Int) ≤ (sj.size : Int) := by omega
                clear x1
                have p2 : ((i : Int) % 2 == 0) = false := beq_eq_false_iff_ne.mpr (by omega)
                have p2n : (i % 2 == 0) = false := beq_eq_false_iff_ne.mpr hpar
                go_wp2_with (first | (go_at_call 8; with_reducible refine (forebayref01_ReadNum.calls _ _ _ _ _ hread.out).mono ?_; rintro e w2 ⟨rfl, hd⟩; obtain ⟨nd, rfl⟩ := hd) | (go_at_call 10; with_reducible refine (text_way (hat.out.drewN _) hsa.out (And.intro p0 p1) hval.out).mono ?_; rintro e w3 ⟨rfl, hR3, hK3⟩; replace hR3 := Aside0.mk hR3; replace hK3 := Aside0.mk hK3) | (go_at_call 11; with_reducible refine (pack_Fine_calls _ _ _ _ hR3.out).mono ?_; rintro e w4 ⟨rfl, rfl⟩) | (go_at_call 12; with_reducible refine (pack_Over_calls _ _ _ _ hR3.out).mono ?_; rintro e w5 ⟨rfl, rfl⟩))
                go_roundg k1
                case measure => omega
                case rel =>
                  have hB3 := Aside0.mk ((hbl.out.trans (pw_below_drewN (Below.refl H _) _)).trans (hK3.out.below (Nat.le_of_lt hat.out.lt) (fun k hk => by omega)))
                  exact ⟨i + 1, j, false, by go_num, rfl, by rw [hsje.out], ⟨by have := HK.out; omega⟩, ⟨⟨hj, by rw [if_neg (by simp)]; exact hR3.out, hB3.out⟩⟩⟩
            · have hval := Aside0.mk (textS_bad (most := a1) hrd (.inr (.inr (by omega))))
              clear hrd
              have q6 : decide ((nn : Int) ≤ a1) = false := decide_eq_false hg
              have p2 : ((i : Int) % 2 == 0) = false := beq_eq_false_iff_ne.mpr (by omega)
              have p2n : (i % 2 == 0) = false := beq_eq_false_iff_ne.mpr hpar
              go_wp2_with (first | (go_at_call 8; with_reducible refine (forebayref01_ReadNum.calls _ _ _ _ _ hread.out).mono ?_; rintro e w2 ⟨rfl, hd⟩; obtain ⟨nd, rfl⟩ := hd) | (go_at_call 10; with_reducible refine (text_way (hat.out.drewN _) hsa.out (And.intro p0 p1) hval.out).mono ?_; rintro e w3 ⟨rfl, hR3, hK3⟩; replace hR3 := Aside0.mk hR3; replace hK3 := Aside0.mk hK3) | (go_at_call 11; with_reducible refine (pack_Fine_calls _ _ _ _ hR3.out).mono ?_; rintro e w4 ⟨rfl, rfl⟩) | (go_at_call 12; with_reducible refine (pack_Over_calls _ _ _ _ hR3.out).mono ?_; rintro e w5 ⟨rfl, rfl⟩))
              go_roundg k1
              case measure => omega
              case rel =>
                have hB3 := Aside0.mk ((hbl.out.trans (pw_below_drewN (Below.refl H _) _)).trans (hK3.out.below (Nat.le_of_lt hat.out.lt) (fun k hk => by omega)))
                exact ⟨i + 1, j, false, by go_num, rfl, by rw [hsje.out], ⟨by have := HK.out; omega⟩, ⟨⟨hj, by rw [if_neg (by simp)]; exact hR3.out, hB3.out⟩⟩⟩

/-- THE ONE PURE STATEMENT of forebaylaw01_PackReads: yours. -/
def forebaylaw01_PackReads.Pure : Prop := ∀ (a0 : ByteArray) (a1 : Int) (a2 : Int), a0.size ≤ 140737488351232 → (Lit.int .u8 a1).wf = true → (Lit.int .u8 a2).wf = true → ∃ k, forebaylaw01_PackReads.f k a0 a1 a2 = some true
theorem forebaylaw01_PackReads.walk (P : forebaylaw01_PackReads.Pure) (a0 : ByteArray) (a1 : Int) (a2 : Int) (w : World) (w0 : a0.size ≤ 140737488351232) (w1 : (Lit.int .u8 a1).wf = true) (w2 : (Lit.int .u8 a2).wf = true) :
    Calls Try.prog 3 #[.string a0, .int .u8 a1, .int .u8 a2] w fun e w' => e = .returned (.bool true) ∧ Below w.heap.size w w' := by
  obtain ⟨k, h⟩ := P a0 a1 a2 w0 w1 w2
  refine (forebaylaw01_PackReads.calls k a0 a1 a2 true w h).mono ?_
  rintro e w' ⟨rfl, hd⟩
  exact ⟨rfl, hd⟩

/-! ### forebaylaw01_PackShort: function 4 -/
/-- What PackShort's calls tell where nothing is wrong; a is the lesser number. -/
structure ShortOk (k : Nat) (a b : Int) : Prop where
  a0 : 0 ≤ a
  a1 : a < 18446744073709551616
  b0 : 0 ≤ b
  b1 : b < 18446744073709551616
  l1 : (strOfNums (numT a)).size ≤ (strOfNums (numT b)).size
  l2 : (strOfNums (numT b)).size ≤ 10
  l3 : 0 < (strOfNums (numT a)).size
  ne : a ≠ b → ((strOfNums (numT b)).extract 0 (strOfNums (numT a)).size).toList ≠ (strOfNums (numT a)).toList
  i1 : ∃ x, pack_Int.f k [] [a % 64] = some [x]
  i2 : ∃ x, pack_Int.f k [] [-(a % 64)] = some [x]
  i3 : ∃ x, pack_Int.f k [] [-(a % 64) - 1] = some [x]
  hd : forebaylaw01_head.f k = some true
noncomputable def forebaylaw01_PackShort.f (k : Nat) (a0 a1 : Int) : Option Bool := @ite _ (ShortOk k (if a1 < a0 then a1 else a0) (if a1 < a0 then a0 else a1)) (Classical.propDecidable _) (some true) none
theorem forebaylaw01_PackShort.mono : ∀ a0 a1 k, LeO (forebaylaw01_PackShort.f k a0 a1) (forebaylaw01_PackShort.f (k + 1) a0 a1) := by
  intro a0 a1 k r h
  unfold forebaylaw01_PackShort.f at h ⊢
  by_cases hk : ShortOk k (if a1 < a0 then a1 else a0) (if a1 < a0 then a0 else a1)
  · rw [@if_pos _ (Classical.propDecidable _) hk] at h
    obtain ⟨x1, e1⟩ := hk.i1
    obtain ⟨x2, e2⟩ := hk.i2
    obtain ⟨x3, e3⟩ := hk.i3
    rw [@if_pos _ (Classical.propDecidable _) { hk with i1 := ⟨x1, pack_Int.mono _ _ _ _ e1⟩, i2 := ⟨x2, pack_Int.mono _ _ _ _ e2⟩, i3 := ⟨x3, pack_Int.mono _ _ _ _ e3⟩, hd := forebaylaw01_head.mono _ _ hk.hd }]
    exact h
  · rw [@if_neg _ (Classical.propDecidable _) hk] at h; cases h
theorem pack_Num_str (A : Option Addr) (x : Int) (W : World) (h : Kd.C (Kd.int .u64) W A 1 [x]) (hx : 0 ≤ x ∧ x < 18446744073709551616) :
    Calls Try.prog 13 #[.slice none 0 0, .slice A 1 1] W fun e w' => ∃ g : Nat, e = .returned (.slice (some ⟨g, 0, none⟩) (numT x).length (numT x).length) ∧ Kd.F (Kd.int .u8) w' (fun k => W.heap.size ≤ k) (some ⟨g, 0, none⟩) (numT x).length (numT x) ∧ Below W.heap.size W w' := by
  have := pack_Num1 none 0 0 [] A x W (Kd.F_now (Kd.F_nil _ _ (fun _ => True))) rfl h (by decide) hx
  rwa [List.nil_append] at this
theorem pack_Int_one (k : Nat) (A : Option Addr) (x y : Int) (W : World) (h : Kd.C (Kd.int .i64) W A 1 [x]) (hk : pack_Int.f k [] [x] = some [y]) :
    Calls Try.prog 14 #[.slice none 0 0, .slice A 1 1] W fun e w' => (∃ A' c', e = .returned (.slice A' 1 c')) ∧ Below W.heap.size W w' := by
  refine (pack_Int.calls k none 0 [] A 1 [x] _ W (Kd.F_now (Kd.F_nil _ _ (fun _ => True))) (Nat.le_refl _) h (Nat.le_refl _) hk).mono ?_
  rintro e w' ⟨v, rfl, hV, hb⟩
  obtain ⟨A', c', rfl, hc, hF⟩ := hV
  exact ⟨⟨A', c', rfl⟩, hb⟩
set_option maxHeartbeats 4000000 in
theorem short_lt (k : Nat) (a b : Int) (w : World) (hgt : ¬ b < a) (hk : ShortOk k a b) :
    Calls Try.prog 4 #[.int .u64 a, .int .u64 b] w fun e w' => e = .returned (.bool true) ∧ Below w.heap.size w w' := by
  have hd := decide_eq_false hgt
  obtain ⟨a0, a1, b0, b1, l1, l2, l3, ne, ⟨y1, i1⟩, ⟨y2, i2⟩, ⟨y3, i3⟩, hhd⟩ := hk
  replace i1 := Aside0.mk i1
  replace i2 := Aside0.mk i2
  replace i3 := Aside0.mk i3
  replace hhd := Aside0.mk hhd
  replace ne := Aside0.mk ne
  replace l1 := Aside0.mk l1
  replace l2 := Aside0.mk l2
  replace l3 := Aside0.mk l3
  have HA := Aside0.mk (And.intro a0 a1)
  have HBb := Aside0.mk (And.intro b0 b1)
  clear a1 b0 b1
  go_enter Try.func4, Try.ntmps4
  go_upto_region 3 with (fail)
  go_cut [5, 6] (fun v5 v6 wc => v5 = .string (strOfNums (numT a)) ∧ v6 = .string (strOfNums (numT b)) ∧ Aside0 (Below w.heap.size w wc))
  case first =>
    have g1 := Aside0.mk (show Below w.heap.size w (w.alloc (.cells #[.int .u64 a] 25)).drew from below_drew ((Below.refl _ _).alloc (Nat.le_refl _) _))
    have g2 := Aside0.mk (show Below w.heap.size w ((w.alloc (.cells #[.int .u64 a] 25)).alloc (.cells #[.int .u64 b] 25)).drew from below_drew (((Below.refl _ _).alloc (Nat.le_refl _) _).alloc (by simp) _))
    have g3 := Aside0.mk (show Below w.heap.size w ((w.alloc (.cells #[.int .u64 b] 25)).alloc (.cells #[.int .u64 a] 25)).drew from below_drew (((Below.refl _ _).alloc (Nat.le_refl _) _).alloc (by simp) _))
    have h1 := Aside0.mk (show Kd.C (Kd.int .u64) (w.alloc (.cells #[.int .u64 a] 25)).drew (some ⟨w.heap.size, 0, none⟩) 1 [a] from Kd.C_below (C_lit1 .u64 w a) (below_drew (Below.refl _ _)))
    have h2 := Aside0.mk (show Kd.C (Kd.int .u64) ((w.alloc (.cells #[.int .u64 a] 25)).alloc (.cells #[.int .u64 b] 25)).drew (some ⟨w.heap.size, 0, none⟩) 1 [a] from Kd.C_below (C_lit1 .u64 w a) (below_drew ((Below.refl _ _).alloc (Nat.le_refl _) _)))
    have h3b := Aside0.mk (show Kd.C (Kd.int .u64) ((w.alloc (.cells #[.int .u64 b] 25)).alloc (.cells #[.int .u64 a] 25)).drew (some ⟨w.heap.size, 0, none⟩) 1 [b] from Kd.C_below (C_lit1 .u64 w b) (below_drew ((Below.refl _ _).alloc (Nat.le_refl _) _)))
    have h2b := Aside0.mk (show Kd.C (Kd.int .u64) ((w.alloc (.cells #[.int .u64 a] 25)).alloc (.cells #[.int .u64 b] 25)).drew (some ⟨w.heap.size + 1, 0, none⟩) 1 [b] from Kd.C_below (by have := C_lit1 (e := 25) .u64 (w.alloc (.cells #[.int .u64 a] 25)) b; rwa [World.size_alloc] at this) (below_drew (Below.refl _ _)))
    have h3 := Aside0.mk (show Kd.C (Kd.int .u64) ((w.alloc (.cells #[.int .u64 b] 25)).alloc (.cells #[.int .u64 a] 25)).drew (some ⟨w.heap.size + 1, 0, none⟩) 1 [a] from Kd.C_below (by have := C_lit1 (e := 25) .u64 (w.alloc (.cells #[.int .u64 b] 25)) a; rwa [World.size_alloc] at this) (below_drew (Below.refl _ _)))
    go_region_with (first | (go_at_call 13; with_reducible refine (pack_Num_str _ a _ h1.out HA.out).mono ?_; rintro e w1 ⟨gA, rfl, hF, hb⟩; have hFn := Kd.F_now hF; have hcv := Kd.C_string (c := (numT a).length) Try.underlying31 Try.underlying5 Try.underlying9 hFn; have hAb := Kd.C_below hFn ((Below.refl _ _).alloc (Nat.le_refl _) (.cells #[.int .u64 b] 25)); have hcv1 := Kd.C_string (c := (numT a).length) Try.underlying31 Try.underlying5 Try.underlying9 hAb; have hrb := Aside0.mk (C_lit1 (e := 25) .u64 w1 b); have hBa := Aside0.mk (g1.out.trans (hb.mono g1.out.size)); have hBb := Aside0.mk (hBa.out.trans (((Below.refl _ _).alloc (Nat.le_refl _) (.cells #[.int .u64 b] 25)).mono hBa.out.size)); replace hAb := Aside0.mk hAb; clear hF hFn hb) | (go_at_call 13; with_reducible refine (pack_Num_str _ a _ h2.out HA.out).mono ?_; rintro e w1 ⟨gA, rfl, hF, hb⟩; have hFn := Kd.F_now hF; have hcv := Kd.C_string (c := (numT a).length) Try.underlying31 Try.underlying5 Try.underlying9 hFn; have hAb := Aside0.mk hFn; have hrb := Aside0.mk (Kd.C_below h2b.out hb); have hBb := Aside0.mk (g2.out.trans (hb.mono g2.out.size)); clear hF hFn hb) | (go_at_call 13; with_reducible refine (pack_Num_str _ a _ h3.out HA.out).mono ?_; rintro e w1 ⟨gA, rfl, hF, hb⟩; have hFn := Kd.F_now hF; have hcv := Kd.C_string (c := (numT a).length) Try.underlying31 Try.underlying5 Try.underlying9 hFn; have hAb := Aside0.mk hFn; have hrb := Aside0.mk (Kd.C_below h3b.out hb); have hBb := Aside0.mk (g3.out.trans (hb.mono g3.out.size)); clear hF hFn hb) | (go_at_call 13; with_reducible refine (pack_Num_str _ b _ hrb.out HBb.out).mono ?_; rintro e w2 ⟨gB, rfl, hF2, hb2⟩; have hFn2 := Kd.F_now hF2; have hcv2 := Kd.C_string (c := (numT b).length) Try.underlying31 Try.underlying5 Try.underlying9 hFn2; have hcv3 := Kd.C_string (c := (numT a).length) Try.underlying31 Try.underlying5 Try.underlying9 (Kd.C_below hAb.out hb2); have hBe := Aside0.mk (hBb.out.trans (hb2.mono hBb.out.size)); clear hF2 hFn2 hb2))
    all_goals go_wp2
    all_goals (go_meet; case rel => exact ⟨rfl, rfl, hBe⟩)
  case rest =>
    obtain ⟨rfl, rfl, HB⟩ := hcut
    have n1 := ne.out
    have m1 := l1.out
    have m2 := l2.out
    have m3 := l3.out
    clear l1 l2 l3 ne
    generalize strOfNums (numT a) = sa at *
    generalize strOfNums (numT b) = sb at *
    have q1 : decide ((sb.size : Int) < (sa.size : Int)) = false := decide_eq_false (by omega)
    have q1n : decide (sb.size < sa.size) = false := decide_eq_false (by omega)
    have q2 : decide (10 < (sb.size : Int)) = false := decide_eq_false (by omega)
    have q2n : decide (10 < sb.size) = false := decide_eq_false (by omega)
    have q3 : ((sa.size : Int) == 0) = false := beq_eq_false_iff_ne.mpr (by omega)
    have q3n : (sa.size == 0) = false := beq_eq_false_iff_ne.mpr (by omega)
    have r0 : 0 ≤ a % 64 := Int.emod_nonneg a (by omega)
    have r1 : a % 64 < 64 := Int.emod_lt_of_pos a (by omega)
    by_cases hab : a = b
    · have q4 : (a == b) = true := beq_iff_eq.mpr hab
      have q4' : (a != b) = false := bne_eq_false_iff_eq.mpr hab
      clear hab n1
      go_wp2_with (first | (go_at_call 14; with_reducible refine (pack_Int_one k _ _ y1 _ (C_lit1 _ _ _) i1.out).mono ?_; rintro e w3 ⟨⟨A3, c3, rfl⟩, hb3⟩; replace hb3 := Aside0.mk hb3) | (go_at_call 14; with_reducible refine (pack_Int_one k _ _ y2 _ (C_lit1 _ _ _) i2.out).mono ?_; rintro e w4 ⟨⟨A4, c4, rfl⟩, hb4⟩; replace hb4 := Aside0.mk hb4) | (go_at_call 14; with_reducible refine (pack_Int_one k _ _ y3 _ (C_lit1 _ _ _) i3.out).mono ?_; rintro e w5 ⟨⟨A5, c5, rfl⟩, hb5⟩; replace hb5 := Aside0.mk hb5) | (go_at_call 6; with_reducible refine (forebaylaw01_head.calls _ _ _ hhd.out).mono ?_; rintro e w6 ⟨rfl, hb6⟩; replace hb6 := Aside0.mk hb6))
      go_ret
      have k3 := HB.out.trans (((Below.refl wc.heap.size wc).alloc (Nat.le_refl _) (.cells #[.int .i64 (a % 64)] 2)).mono HB.out.size)
      have k4 := k3.trans (hb3.out.mono k3.size)
      have k5 := k4.trans (((Below.refl w3.heap.size w3).alloc (Nat.le_refl _) (.cells #[.int .i64 (-(a % 64))] 2)).mono k4.size)
      have k6 := k5.trans (hb4.out.mono k5.size)
      have k7 := k6.trans (((Below.refl w4.heap.size w4).alloc (Nat.le_refl _) (.cells #[.int .i64 (-(a % 64) - 1)] 2)).mono k6.size)
      have k8 := k7.trans (hb5.out.mono k7.size)
      exact ⟨rfl, k8.trans (hb6.out.mono k8.size)⟩
    · have q4 : (a == b) = false := beq_eq_false_iff_ne.mpr hab
      have q4' : (a != b) = true := bne_iff_ne.mpr hab
      have q5 : ((sb.extract 0 sa.size).toList == sa.toList) = false := beq_eq_false_iff_ne.mpr (n1 hab)
      clear hab n1
      go_wp2_with (first | (go_at_call 14; with_reducible refine (pack_Int_one k _ _ y1 _ (C_lit1 _ _ _) i1.out).mono ?_; rintro e w3 ⟨⟨A3, c3, rfl⟩, hb3⟩; replace hb3 := Aside0.mk hb3) | (go_at_call 14; with_reducible refine (pack_Int_one k _ _ y2 _ (C_lit1 _ _ _) i2.out).mono ?_; rintro e w4 ⟨⟨A4, c4, rfl⟩, hb4⟩; replace hb4 := Aside0.mk hb4) | (go_at_call 14; with_reducible refine (pack_Int_one k _ _ y3 _ (C_lit1 _ _ _) i3.out).mono ?_; rintro e w5 ⟨⟨A5, c5, rfl⟩, hb5⟩; replace hb5 := Aside0.mk hb5) | (go_at_call 6; with_reducible refine (forebaylaw01_head.calls _ _ _ hhd.out).mono ?_; rintro e w6 ⟨rfl, hb6⟩; replace hb6 := Aside0.mk hb6))
      go_ret
      have k3 := HB.out.trans (((Below.refl wc.heap.size wc).alloc (Nat.le_refl _) (.cells #[.int .i64 (a % 64)] 2)).mono HB.out.size)
      have k4 := k3.trans (hb3.out.mono k3.size)
      have k5 := k4.trans (((Below.refl w3.heap.size w3).alloc (Nat.le_refl _) (.cells #[.int .i64 (-(a % 64))] 2)).mono k4.size)
      have k6 := k5.trans (hb4.out.mono k5.size)
      have k7 := k6.trans (((Below.refl w4.heap.size w4).alloc (Nat.le_refl _) (.cells #[.int .i64 (-(a % 64) - 1)] 2)).mono k6.size)
      have k8 := k7.trans (hb5.out.mono k7.size)
      exact ⟨rfl, k8.trans (hb6.out.mono k8.size)⟩
set_option maxHeartbeats 4000000 in
theorem short_gt (k : Nat) (a b : Int) (w : World) (hgt : a < b) (hk : ShortOk k a b) :
    Calls Try.prog 4 #[.int .u64 b, .int .u64 a] w fun e w' => e = .returned (.bool true) ∧ Below w.heap.size w w' := by
  have hd := decide_eq_true hgt
  obtain ⟨a0, a1, b0, b1, l1, l2, l3, ne, ⟨y1, i1⟩, ⟨y2, i2⟩, ⟨y3, i3⟩, hhd⟩ := hk
  replace i1 := Aside0.mk i1
  replace i2 := Aside0.mk i2
  replace i3 := Aside0.mk i3
  replace hhd := Aside0.mk hhd
  replace ne := Aside0.mk ne
  replace l1 := Aside0.mk l1
  replace l2 := Aside0.mk l2
  replace l3 := Aside0.mk l3
  have HA := Aside0.mk (And.intro a0 a1)
  have HBb := Aside0.mk (And.intro b0 b1)
  clear a1 b0 b1
  go_enter Try.func4, Try.ntmps4
  go_upto_region 3 with (fail)
  go_cut [5, 6] (fun v5 v6 wc => v5 = .string (strOfNums (numT a)) ∧ v6 = .string (strOfNums (numT b)) ∧ Aside0 (Below w.heap.size w wc))
  case first =>
    have g1 := Aside0.mk (show Below w.heap.size w (w.alloc (.cells #[.int .u64 a] 25)).drew from below_drew ((Below.refl _ _).alloc (Nat.le_refl _) _))
    have g2 := Aside0.mk (show Below w.heap.size w ((w.alloc (.cells #[.int .u64 a] 25)).alloc (.cells #[.int .u64 b] 25)).drew from below_drew (((Below.refl _ _).alloc (Nat.le_refl _) _).alloc (by simp) _))
    have g3 := Aside0.mk (show Below w.heap.size w ((w.alloc (.cells #[.int .u64 b] 25)).alloc (.cells #[.int .u64 a] 25)).drew from below_drew (((Below.refl _ _).alloc (Nat.le_refl _) _).alloc (by simp) _))
    have h1 := Aside0.mk (show Kd.C (Kd.int .u64) (w.alloc (.cells #[.int .u64 a] 25)).drew (some ⟨w.heap.size, 0, none⟩) 1 [a] from Kd.C_below (C_lit1 .u64 w a) (below_drew (Below.refl _ _)))
    have h2 := Aside0.mk (show Kd.C (Kd.int .u64) ((w.alloc (.cells #[.int .u64 a] 25)).alloc (.cells #[.int .u64 b] 25)).drew (some ⟨w.heap.size, 0, none⟩) 1 [a] from Kd.C_below (C_lit1 .u64 w a) (below_drew ((Below.refl _ _).alloc (Nat.le_refl _) _)))
    have h3b := Aside0.mk (show Kd.C (Kd.int .u64) ((w.alloc (.cells #[.int .u64 b] 25)).alloc (.cells #[.int .u64 a] 25)).drew (some ⟨w.heap.size, 0, none⟩) 1 [b] from Kd.C_below (C_lit1 .u64 w b) (below_drew ((Below.refl _ _).alloc (Nat.le_refl _) _)))
    have h2b := Aside0.mk (show Kd.C (Kd.int .u64) ((w.alloc (.cells #[.int .u64 a] 25)).alloc (.cells #[.int .u64 b] 25)).drew (some ⟨w.heap.size + 1, 0, none⟩) 1 [b] from Kd.C_below (by have := C_lit1 (e := 25) .u64 (w.alloc (.cells #[.int .u64 a] 25)) b; rwa [World.size_alloc] at this) (below_drew (Below.refl _ _)))
    have h3 := Aside0.mk (show Kd.C (Kd.int .u64) ((w.alloc (.cells #[.int .u64 b] 25)).alloc (.cells #[.int .u64 a] 25)).drew (some ⟨w.heap.size + 1, 0, none⟩) 1 [a] from Kd.C_below (by have := C_lit1 (e := 25) .u64 (w.alloc (.cells #[.int .u64 b] 25)) a; rwa [World.size_alloc] at this) (below_drew (Below.refl _ _)))
    go_region_with (first | (go_at_call 13; with_reducible refine (pack_Num_str _ a _ h1.out HA.out).mono ?_; rintro e w1 ⟨gA, rfl, hF, hb⟩; have hFn := Kd.F_now hF; have hcv := Kd.C_string (c := (numT a).length) Try.underlying31 Try.underlying5 Try.underlying9 hFn; have hAb := Kd.C_below hFn ((Below.refl _ _).alloc (Nat.le_refl _) (.cells #[.int .u64 b] 25)); have hcv1 := Kd.C_string (c := (numT a).length) Try.underlying31 Try.underlying5 Try.underlying9 hAb; have hrb := Aside0.mk (C_lit1 (e := 25) .u64 w1 b); have hBa := Aside0.mk (g1.out.trans (hb.mono g1.out.size)); have hBb := Aside0.mk (hBa.out.trans (((Below.refl _ _).alloc (Nat.le_refl _) (.cells #[.int .u64 b] 25)).mono hBa.out.size)); replace hAb := Aside0.mk hAb; clear hF hFn hb) | (go_at_call 13; with_reducible refine (pack_Num_str _ a _ h2.out HA.out).mono ?_; rintro e w1 ⟨gA, rfl, hF, hb⟩; have hFn := Kd.F_now hF; have hcv := Kd.C_string (c := (numT a).length) Try.underlying31 Try.underlying5 Try.underlying9 hFn; have hAb := Aside0.mk hFn; have hrb := Aside0.mk (Kd.C_below h2b.out hb); have hBb := Aside0.mk (g2.out.trans (hb.mono g2.out.size)); clear hF hFn hb) | (go_at_call 13; with_reducible refine (pack_Num_str _ a _ h3.out HA.out).mono ?_; rintro e w1 ⟨gA, rfl, hF, hb⟩; have hFn := Kd.F_now hF; have hcv := Kd.C_string (c := (numT a).length) Try.underlying31 Try.underlying5 Try.underlying9 hFn; have hAb := Aside0.mk hFn; have hrb := Aside0.mk (Kd.C_below h3b.out hb); have hBb := Aside0.mk (g3.out.trans (hb.mono g3.out.size)); clear hF hFn hb) | (go_at_call 13; with_reducible refine (pack_Num_str _ b _ hrb.out HBb.out).mono ?_; rintro e w2 ⟨gB, rfl, hF2, hb2⟩; have hFn2 := Kd.F_now hF2; have hcv2 := Kd.C_string (c := (numT b).length) Try.underlying31 Try.underlying5 Try.underlying9 hFn2; have hcv3 := Kd.C_string (c := (numT a).length) Try.underlying31 Try.underlying5 Try.underlying9 (Kd.C_below hAb.out hb2); have hBe := Aside0.mk (hBb.out.trans (hb2.mono hBb.out.size)); clear hF2 hFn2 hb2))
    all_goals go_wp2
    all_goals (go_meet; case rel => exact ⟨rfl, rfl, hBe⟩)
  case rest =>
    obtain ⟨rfl, rfl, HB⟩ := hcut
    have n1 := ne.out
    have m1 := l1.out
    have m2 := l2.out
    have m3 := l3.out
    clear l1 l2 l3 ne
    generalize strOfNums (numT a) = sa at *
    generalize strOfNums (numT b) = sb at *
    have q1 : decide ((sb.size : Int) < (sa.size : Int)) = false := decide_eq_false (by omega)
    have q1n : decide (sb.size < sa.size) = false := decide_eq_false (by omega)
    have q2 : decide (10 < (sb.size : Int)) = false := decide_eq_false (by omega)
    have q2n : decide (10 < sb.size) = false := decide_eq_false (by omega)
    have q3 : ((sa.size : Int) == 0) = false := beq_eq_false_iff_ne.mpr (by omega)
    have q3n : (sa.size == 0) = false := beq_eq_false_iff_ne.mpr (by omega)
    have r0 : 0 ≤ a % 64 := Int.emod_nonneg a (by omega)
    have r1 : a % 64 < 64 := Int.emod_lt_of_pos a (by omega)
    by_cases hab : a = b
    · have q4 : (a == b) = true := beq_iff_eq.mpr hab
      have q4' : (a != b) = false := bne_eq_false_iff_eq.mpr hab
      clear hab n1
      go_wp2_with (first | (go_at_call 14; with_reducible refine (pack_Int_one k _ _ y1 _ (C_lit1 _ _ _) i1.out).mono ?_; rintro e w3 ⟨⟨A3, c3, rfl⟩, hb3⟩; replace hb3 := Aside0.mk hb3) | (go_at_call 14; with_reducible refine (pack_Int_one k _ _ y2 _ (C_lit1 _ _ _) i2.out).mono ?_; rintro e w4 ⟨⟨A4, c4, rfl⟩, hb4⟩; replace hb4 := Aside0.mk hb4) | (go_at_call 14; with_reducible refine (pack_Int_one k _ _ y3 _ (C_lit1 _ _ _) i3.out).mono ?_; rintro e w5 ⟨⟨A5, c5, rfl⟩, hb5⟩; replace hb5 := Aside0.mk hb5) | (go_at_call 6; with_reducible refine (forebaylaw01_head.calls _ _ _ hhd.out).mono ?_; rintro e w6 ⟨rfl, hb6⟩; replace hb6 := Aside0.mk hb6))
      go_ret
      have k3 := HB.out.trans (((Below.refl wc.heap.size wc).alloc (Nat.le_refl _) (.cells #[.int .i64 (a % 64)] 2)).mono HB.out.size)
      have k4 := k3.trans (hb3.out.mono k3.size)
      have k5 := k4.trans (((Below.refl w3.heap.size w3).alloc (Nat.le_refl _) (.cells #[.int .i64 (-(a % 64))] 2)).mono k4.size)
      have k6 := k5.trans (hb4.out.mono k5.size)
      have k7 := k6.trans (((Below.refl w4.heap.size w4).alloc (Nat.le_refl _) (.cells #[.int .i64 (-(a % 64) - 1)] 2)).mono k6.size)
      have k8 := k7.trans (hb5.out.mono k7.size)
      exact ⟨rfl, k8.trans (hb6.out.mono k8.size)⟩
    · have q4 : (a == b) = false := beq_eq_false_iff_ne.mpr hab
      have q4' : (a != b) = true := bne_iff_ne.mpr hab
      have q5 : ((sb.extract 0 sa.size).toList == sa.toList) = false := beq_eq_false_iff_ne.mpr (n1 hab)
      clear hab n1
      go_wp2_with (first | (go_at_call 14; with_reducible refine (pack_Int_one k _ _ y1 _ (C_lit1 _ _ _) i1.out).mono ?_; rintro e w3 ⟨⟨A3, c3, rfl⟩, hb3⟩; replace hb3 := Aside0.mk hb3) | (go_at_call 14; with_reducible refine (pack_Int_one k _ _ y2 _ (C_lit1 _ _ _) i2.out).mono ?_; rintro e w4 ⟨⟨A4, c4, rfl⟩, hb4⟩; replace hb4 := Aside0.mk hb4) | (go_at_call 14; with_reducible refine (pack_Int_one k _ _ y3 _ (C_lit1 _ _ _) i3.out).mono ?_; rintro e w5 ⟨⟨A5, c5, rfl⟩, hb5⟩; replace hb5 := Aside0.mk hb5) | (go_at_call 6; with_reducible refine (forebaylaw01_head.calls _ _ _ hhd.out).mono ?_; rintro e w6 ⟨rfl, hb6⟩; replace hb6 := Aside0.mk hb6))
      go_ret
      have k3 := HB.out.trans (((Below.refl wc.heap.size wc).alloc (Nat.le_refl _) (.cells #[.int .i64 (a % 64)] 2)).mono HB.out.size)
      have k4 := k3.trans (hb3.out.mono k3.size)
      have k5 := k4.trans (((Below.refl w3.heap.size w3).alloc (Nat.le_refl _) (.cells #[.int .i64 (-(a % 64))] 2)).mono k4.size)
      have k6 := k5.trans (hb4.out.mono k5.size)
      have k7 := k6.trans (((Below.refl w4.heap.size w4).alloc (Nat.le_refl _) (.cells #[.int .i64 (-(a % 64) - 1)] 2)).mono k6.size)
      have k8 := k7.trans (hb5.out.mono k7.size)
      exact ⟨rfl, k8.trans (hb6.out.mono k8.size)⟩
theorem forebaylaw01_PackShort.calls (k : Nat) (a0 : Int) (a1 : Int) (r : Bool) (w : World) (h : forebaylaw01_PackShort.f k a0 a1 = some r) :
    Calls Try.prog 4 #[.int .u64 a0, .int .u64 a1] w fun e w' => e = .returned (.bool r) ∧ Below w.heap.size w w' := by
  unfold forebaylaw01_PackShort.f at h
  by_cases hk : ShortOk k (if a1 < a0 then a1 else a0) (if a1 < a0 then a0 else a1)
  case neg => rw [@if_neg _ (Classical.propDecidable _) hk] at h; cases h
  rw [@if_pos _ (Classical.propDecidable _) hk] at h
  obtain rfl := Option.some.inj h
  by_cases hgt : a1 < a0
  · rw [if_pos hgt, if_pos hgt] at hk
    exact short_gt k a1 a0 w hgt hk
  · rw [if_neg hgt, if_neg hgt] at hk
    exact short_lt k a0 a1 w hgt hk

/-- THE ONE PURE STATEMENT of forebaylaw01_PackShort: yours. -/
def forebaylaw01_PackShort.Pure : Prop := ∀ (a0 : Int) (a1 : Int), (Lit.int .u64 a0).wf = true → (Lit.int .u64 a1).wf = true → ∃ k, forebaylaw01_PackShort.f k a0 a1 = some true
theorem forebaylaw01_PackShort.walk (P : forebaylaw01_PackShort.Pure) (a0 : Int) (a1 : Int) (w : World) (w0 : (Lit.int .u64 a0).wf = true) (w1 : (Lit.int .u64 a1).wf = true) :
    Calls Try.prog 4 #[.int .u64 a0, .int .u64 a1] w fun e w' => e = .returned (.bool true) ∧ Below w.heap.size w w' := by
  obtain ⟨k, h⟩ := P a0 a1 w0 w1
  refine (forebaylaw01_PackShort.calls k a0 a1 true w h).mono ?_
  rintro e w' ⟨rfl, hd⟩
  exact ⟨rfl, hd⟩

end Go.Proofs.Ytphmejgipjcppaa.P
