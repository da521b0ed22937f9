-- Written by this session's program gprint.py: functions of the program as plain functions, and that the machine does what they say. Not trusted: Lean checks it.
import Derived.Test.YtphmejgipjcppaaPx0
import Derived.Test.YtphmejgipjcppaaPx1
import Derived.Test.YtphmejgipjcppaaPx2
import Derived.Test.YtphmejgipjcppaaPx3
namespace Go.Proofs.Ytphmejgipjcppaa.P
open Go.RowKit Go.Proofs.YtphmejgipjcppaaW.PrintWords Go.Proofs.YtphmejgipjcppaaW.PrintLast Go.Proofs.YtphmejgipjcppaaW.PrintMore
attribute [local go_sem] max2_int min2_int max_two min_two max_three min_three max_four min_four   -- for this text's walks alone
set_option linter.unusedVariables false
set_option linter.unusedSimpArgs false

/-! ### forebaylaw01_PackRow: function 5 -/
/-- A folded number. -/
def foldR (n : Int) : Int := if 0 ≤ n then 2 * n else -2 * n - 1
/-- An item's bytes. -/
def itemB (x : S37) : List Int :=
  if x.f0 % 4 = 0 then numT x.f1 else if x.f0 % 4 = 1 then numT (foldR (wrap64 x.f1)) else if x.f0 % 4 = 2 then numT (x.f2.size : Int) ++ bytesOf x.f2 else numT (if x.f1 % 2 = 1 then 1 else 0)
def rowB (l : List S37) : List Int := l.flatMap itemB
/-- What a reader tells of an item that stands ahead of others. -/
def readOk (x : S37) (s s' : ByteArray) : Prop :=
  (x.f0 % 4 = 0 → numS s true = (x.f1, s', true)) ∧ (x.f0 % 4 = 1 → ∃ m, numS s true = (m, s', true) ∧ unfoldT m = wrap64 x.f1) ∧
  (x.f0 % 4 = 2 → textS s true (x.f2.size : Int) = (x.f2, s', true)) ∧ (x.f0 % 4 = 3 → flagS s true = (decide (x.f1 % 2 = 1), s', true))
/-- What the law's calls tell. -/
structure RowOk (k : Nat) (l : List S37) : Prop where
  hd : forebaylaw01_head.f k = some true
  inv : ∀ x ∈ l, 0 ≤ x.f0 ∧ x.f0 ≤ 255 ∧ 0 ≤ x.f1 ∧ x.f1 < 18446744073709551616
  add : l.length ≤ 40 → ∀ i (hi : i < l.length), (∀ j (hj : j < l.length), j ≤ i → l[j].f2.size ≤ 300) → forebaylaw01_add.f k (rowB (l.take i)) l[i].f0 l[i].f1 l[i].f2 = some (rowB (l.take (i + 1)), strOfNums (itemB l[i]))
  read : l.length ≤ 40 → (∀ x ∈ l, x.f2.size ≤ 300) → ∀ i (hi : i < l.length), readOk l[i] (strOfNums (rowB (l.drop i))) (strOfNums (rowB (l.drop (i + 1))))
  small : l.length ≤ 40 → ∀ i (hi : i ≤ l.length), (∀ j (hj : j < l.length), j < i → l[j].f2.size ≤ 300) → (rowB (l.take i)).length ≤ 20000
  rest : l.length ≤ 40 → (∀ x ∈ l, x.f2.size ≤ 300) → ∀ i, (strOfNums (rowB (l.drop i))).size ≤ 20000
noncomputable def forebaylaw01_PackRow.f (k : Nat) (l0 : List S37) : Option Bool := @ite _ (RowOk k l0) (Classical.propDecidable _) (some true) none
theorem forebaylaw01_PackRow.mono : ∀ a0 k, LeO (forebaylaw01_PackRow.f k a0) (forebaylaw01_PackRow.f (k + 1) a0) := by
  intro a0 k r h
  unfold forebaylaw01_PackRow.f at h ⊢
  by_cases hk : RowOk k a0
  · rw [@if_pos _ (Classical.propDecidable _) hk] at h
    rw [@if_pos _ (Classical.propDecidable _) { hk with hd := forebaylaw01_head.mono _ _ hk.hd, add := fun h1 i hi h2 => forebaylaw01_add.mono _ _ _ _ _ _ (hk.add h1 i hi h2) }]
    exact h
  · rw [@if_neg _ (Classical.propDecidable _) hk] at h; cases h
theorem strOfNums_app (a b : List Int) : strOfNums a ++ strOfNums b = strOfNums (a ++ b) := by
  refine ba_ext ?_
  rw [ba_append, strOfNums_list, strOfNums_list, strOfNums_list, List.map_append]
theorem rowB_snoc (l : List S37) (i : Nat) (hi : i < l.length) : rowB (l.take (i + 1)) = rowB (l.take i) ++ itemB l[i] := by
  rw [List.take_succ_eq_append_getElem hi]
  unfold rowB
  rw [List.flatMap_append]
  simp only [List.flatMap_cons, List.flatMap_nil, List.append_nil]
set_option maxHeartbeats 4000000 in
set_option maxRecDepth 100000 in
theorem forebaylaw01_PackRow.calls (k : Nat) (A0 : Option Addr) (c0 : Nat) (l0 : List S37) (r : Bool) (w : World) (hr0 : Kd.C k37 w A0 l0.length l0) (hc0 : l0.length ≤ c0) (h : forebaylaw01_PackRow.f k l0 = some r) :
    Calls Try.prog 5 #[.slice A0 l0.length c0] w fun e w' => e = .returned (.bool r) ∧ Below w.heap.size w w' := by
  unfold forebaylaw01_PackRow.f at h
  by_cases hk : RowOk k l0
  case neg => rw [@if_neg _ (Classical.propDecidable _) hk] at h; cases h
  rw [@if_pos _ (Classical.propDecidable _) hk] at h
  obtain rfl := Option.some.inj h
  clear h hc0
  have HR0 := Aside0.mk hr0
  clear hr0
  have hhd := Aside0.mk hk.hd
  replace hk := Aside0.mk hk
  by_cases hA : 40 < l0.length
  · have q1 : decide (40 < (l0.length : Int)) = true := decide_eq_true (by omega)
    have q2 : decide (40 < l0.length) = true := decide_eq_true hA
    clear hA
    go_enter Try.func5, Try.ntmps5
    go_wp2_with (go_at_call 6; with_reducible refine (forebaylaw01_head.calls _ _ _ hhd.out).mono ?_; rintro e w1 ⟨rfl, hb⟩)
    go_ret
    exact ⟨rfl, hb⟩
  have hl : l0.length ≤ 40 := by omega
  have q1 : decide (40 < (l0.length : Int)) = false := decide_eq_false (by omega)
  have q2 : decide (40 < l0.length) = false := decide_eq_false hA
  clear hA
  have hadd := Aside0.mk (hk.out.add hl)
  have hread := Aside0.mk (hk.out.read hl)
  have hsmall := Aside0.mk (hk.out.small hl)
  have hrest := Aside0.mk (hk.out.rest hl)
  have hinv := Aside0.mk hk.out.inv
  clear hk
  go_enter Try.func5, Try.ntmps5
  go_wp2
  go_loopg [3, 4, 5] l0.length (fun kq v3 v4 v5 W => ∃ (i : Nat) (A : Option Addr) (c : Nat), v5 = .int .i64 i ∧ v4 = .string (strOfNums (rowB (l0.take i))) ∧ v3 = .slice A (rowB (l0.take i)).length c ∧ Aside0 (kq + i = l0.length) ∧ Aside0 ((rowB (l0.take i)).length ≤ c) ∧ Aside0 (∀ j (hj : j < l0.length), j < i → l0[j].f2.size ≤ 300) ∧ Aside0 (Kd.F (Kd.int .u8) W (fun k => w.heap.size ≤ k) A (rowB (l0.take i)).length (rowB (l0.take i))) ∧ Aside0 (Below w.heap.size w W))
  case atStart => exact ⟨0, none, 0, rfl, rfl, by simp [rowB], ⟨rfl⟩, ⟨by simp [rowB]⟩, ⟨fun j _ h => by omega⟩, ⟨by simpa [rowB] using Kd.F_nil (Kd.int .u8) w _⟩, ⟨Below.refl _ _⟩⟩
  case round =>
    obtain ⟨i, A, c, rfl, rfl, rfl, HK, HC, HJ, HF, HB⟩ := hrel
    cases gk with
    | zero =>
      obtain rfl : i = l0.length := by have := HK.out; omega
      have q3 : decide ((l0.length : Int) < (l0.length : Int)) = false := by simp
      have q3n : decide (l0.length < l0.length) = false := by simp
      have hall : Aside0 (∀ x ∈ l0, x.f2.size ≤ 300) := ⟨fun x hx => by
        obtain ⟨j, hj, rfl⟩ := List.getElem_of_mem hx
        exact HJ.out j hj hj⟩
      replace hread := Aside0.mk (hread.out hall.out)
      replace hrest := Aside0.mk (hrest.out hall.out)
      rw [List.take_length] at HF HC
      rw [List.take_length]
      have hy0 := Aside0.mk (show rowB l0 = rowB (l0.drop 0) from by rw [List.drop_zero])
      generalize hy1 : rowB l0 = y1 at *
      replace hy1 := Aside0.mk hy1
      have hcv := Kd.C_string (c := c) Try.underlying31 Try.underlying5 Try.underlying9 (Kd.F_now HF.out)
      have hws := HB.out.size
      obtain ⟨H, hH⟩ : ∃ H, wr.heap.size = H := ⟨_, rfl⟩
      go_wp2_with (go_at_call 7; with_reducible refine (pack_Open_calls _ _).mono ?_; rintro e w1 ⟨rfl, hR1, hb1⟩; rw [hH] at hR1 hb1 ⊢; replace hR1 := Aside0.mk hR1; replace hb1 := Aside0.mk hb1)
      rw [hH] at hws
      go_loopg [10] l0.length (fun kq v10 W => ∃ i : Nat, v10 = .int .i64 i ∧ Aside0 (kq + i = l0.length) ∧ Aside0 (RdAt W H (strOfNums (rowB (l0.drop i))) true) ∧ Aside0 (Below w.heap.size w W))
      case atStart => exact ⟨0, rfl, ⟨rfl⟩, ⟨by rw [← hy0.out]; exact hR1.out⟩, ⟨HB.out.trans (hb1.out.mono hws)⟩⟩
      case round =>
        clear hR1 hb1 HB HF HC hcv
        obtain ⟨i, rfl, HK, HR, HB⟩ := hrel
        cases gk with
        | zero =>
          obtain rfl : i = l0.length := by have := HK.out; omega
          have HR2 := Aside0.mk (show RdAt _ H ⟨#[]⟩ true from by have := HR.out; rwa [List.drop_length] at this)
          go_wp2_with (first | (go_at_call 12; with_reducible refine (pack_Over_calls _ _ _ _ HR2.out).mono ?_; rintro e w5 ⟨rfl, rfl⟩) | (go_at_call 6; with_reducible refine (forebaylaw01_head.calls _ _ _ hhd.out).mono ?_; rintro e w6 ⟨rfl, hb6⟩; replace hb6 := Aside0.mk hb6))
          go_ret
          exact ⟨rfl, HB.out.trans (hb6.out.mono HB.out.size)⟩
        | succ k1 =>
          have hlt : i < l0.length := by have := HK.out; omega
          have q4 : decide ((i : Int) < (l0.length : Int)) = true := decide_eq_true (by omega)
          have q4n : decide (i < l0.length) = true := decide_eq_true hlt
          obtain ⟨ad, eA, hx0, hx1, hx2⟩ := at_T37 HR0.out (i : Int) (Int.natCast_nonneg _) (by omega)
          subst eA
          rw [Int.toNat_natCast] at hx0 hx1 hx2
          replace hx0 := (HB.out.cell (World.block_lt_of_cell? w _ hx0)).trans hx0
          replace hx1 := (HB.out.cell (World.block_lt_of_cell? w _ hx1)).trans hx1
          replace hx2 := (HB.out.cell (World.block_lt_of_cell? w _ hx2)).trans hx2
          have hrd : rd_T37 l0 (i : Int) = l0[i] := by simp [rd_T37, hlt]
          rw [hrd] at hx0 hx1 hx2
          clear hrd
          have hin := hinv.out l0[i] (List.getElem_mem hlt)
          have hro := Aside0.mk (hread.out i hlt)
          have hsz := Aside0.mk (hrest.out i)
          have hxs := hall.out l0[i] (List.getElem_mem hlt)
          generalize l0[i] = x at *
          generalize hs1 : strOfNums (rowB (l0.drop i)) = s1 at *
          generalize hs2 : strOfNums (rowB (l0.drop (i + 1))) = s2 at *
          replace hs2 := Aside0.mk hs2
          obtain ⟨f0, f1, f2⟩ := x
          dsimp only at hx0 hx1 hx2 hin hro hxs
          obtain ⟨i0, i1, i2, i3⟩ := hin
          obtain ⟨o0, o1, o2, o3⟩ := hro.out
          dsimp only at o0 o1 o2 o3
          clear hro hs1
          replace i3 := Aside0.mk i3
          replace o0 := Aside0.mk o0
          replace o1 := Aside0.mk o1
          replace o2 := Aside0.mk o2
          replace o3 := Aside0.mk o3
          have hBx := BoxN.new wr 37 [.int .u8 f0, .int .u64 f1, .string f2]
          have hR1 := Aside0.mk (HR.out.alloc (.cells #[.int .u8 f0, .int .u64 f1, .string f2] 37))
          have hB1 := Aside0.mk (HB.out.alloc HB.out.size (.cells #[.int .u8 f0, .int .u64 f1, .string f2] 37))
          have hHB : H < wr.heap.size := HR.out.lt
          go_upto_region 22 with (fail)
          clear hx0 hx1 hx2
          obtain ⟨B, hB⟩ : ∃ B, wr.heap.size = B := ⟨_, rfl⟩
          rw [hB] at hBx hHB
          have hBx' : BoxN (wr.alloc (Obj.cells #[Value.int IntKind.u8 f0, Value.int IntKind.u64 f1, Value.string f2] 37)) B 37 [.int .u8 f0, .int .u64 f1, .string f2] := hBx
          clear hBx
          simp only [hB]
          generalize (wr.alloc (Obj.cells #[Value.int IntKind.u8 f0, Value.int IntKind.u64 f1, Value.string f2] 37)) = W1 at *
          have c0 := hBx'.cell 0 rfl
          have c1 := hBx'.cell 1 rfl
          have c2 := hBx'.cell 2 rfl
          have hBd := Aside0.mk (show BoxN W1.drew B 37 [.int .u8 f0, .int .u64 f1, .string f2] from hBx')
          have hRd := Aside0.mk (show RdAt W1.drew H s1 true from hR1.out)
          clear hBx' hB
          go_upto_block 4 with (fail)
          go_cut [12] (fun v12 wc => v12 = .bool true ∧ Aside0 (RdAt wc H s2 true) ∧ Aside0 (Below w.heap.size w wc))
          case first =>
            by_cases e0 : f0 % 4 = 0
            · have p0 : (f0 % 4 == 0) = true := beq_iff_eq.mpr e0
              have hcN : Aside0 (∀ W, RdAt W H s1 true → Calls Try.prog 9 #[.pointer (some ⟨H, 0, none⟩)] W fun e w' => e = .returned (.int .u64 f1) ∧ RdAt w' H s2 true ∧ Keeps (fun k => k ≠ H) W w') := ⟨fun W h => by have := pack_RNum_calls H s1 true W h (by have := hsz.out; omega); rwa [o0.out e0] at this⟩
              clear e0
              go_wp2
              go_region_with (go_at_call 9; (with_reducible refine (hcN.out _ hRd.out).mono ?_); rintro e w3 ⟨rfl, hR3, hK3⟩; have hx3 := hK3.boxN hBd.out (by omega); have c30 := hx3.cell 0 rfl; have c31 := hx3.cell 1 rfl; have c32 := hx3.cell 2 rfl; replace hR3 := Aside0.mk hR3; replace hK3 := Aside0.mk hK3; clear hx3)
              all_goals go_wp2
              all_goals (go_meet; case rel => exact ⟨rfl, hR3, ⟨hB1.out.trans ((below_drew (Below.refl w.heap.size _)).trans (hK3.out.below (Nat.le_trans hws (Nat.le_of_lt hRd.out.lt)) (fun k hk => by omega)))⟩⟩)
            · by_cases e1 : f0 % 4 = 1
              · have p0 : (f0 % 4 == 0) = false := beq_eq_false_iff_ne.mpr e0
                have p1 : (f0 % 4 == 1) = true := beq_iff_eq.mpr e1
                obtain ⟨m, om, ou⟩ := o1.out e1
                have hcN : Aside0 (∀ W, RdAt W H s1 true → Calls Try.prog 16 #[.pointer (some ⟨H, 0, none⟩)] W fun e w' => e = .returned (.int .i64 (IntKind.i64.wrap f1)) ∧ RdAt w' H s2 true ∧ Keeps (fun k => k ≠ H) W w') := ⟨fun W h => by have := pack_RInt_calls H s1 true W h (by have := hsz.out; omega); rw [om] at this; dsimp only at this; rwa [ou, show wrap64 f1 = IntKind.i64.wrap f1 by simp only [i64_w]] at this⟩
                clear om ou
                clear e0 e1
                go_wp2
                go_region_with (go_at_call 16; (with_reducible refine (hcN.out _ hRd.out).mono ?_); rintro e w3 ⟨rfl, hR3, hK3⟩; have hx3 := hK3.boxN hBd.out (by omega); have c30 := hx3.cell 0 rfl; have c31 := hx3.cell 1 rfl; have c32 := hx3.cell 2 rfl; replace hR3 := Aside0.mk hR3; replace hK3 := Aside0.mk hK3; clear hx3)
                all_goals go_wp2
                all_goals (go_meet; case rel => exact ⟨rfl, hR3, ⟨hB1.out.trans ((below_drew (Below.refl w.heap.size _)).trans (hK3.out.below (Nat.le_trans hws (Nat.le_of_lt hRd.out.lt)) (fun k hk => by omega)))⟩⟩)
              · by_cases e2 : f0 % 4 = 2
                · have p0 : (f0 % 4 == 0) = false := beq_eq_false_iff_ne.mpr e0
                  have p1 : (f0 % 4 == 1) = false := beq_eq_false_iff_ne.mpr e1
                  have p2 : (f0 % 4 == 2) = true := beq_iff_eq.mpr e2
                  have hcN : Aside0 (∀ W, RdAt W H s1 true → Calls Try.prog 10 #[.pointer (some ⟨H, 0, none⟩), .int .i64 (f2.size : Int)] W fun e w' => e = .returned (.string f2) ∧ RdAt w' H s2 true ∧ Keeps (fun k => k ≠ H) W w') := ⟨fun W h => by have := pack_RText_calls H s1 true (f2.size : Int) W h (by have := hsz.out; omega) ⟨by omega, by omega⟩; rwa [o2.out e2] at this⟩
                  clear e0 e1 e2
                  go_wp2
                  go_region_with (go_at_call 10; (with_reducible refine (hcN.out _ hRd.out).mono ?_); rintro e w3 ⟨rfl, hR3, hK3⟩; have hx3 := hK3.boxN hBd.out (by omega); have c30 := hx3.cell 0 rfl; have c31 := hx3.cell 1 rfl; have c32 := hx3.cell 2 rfl; replace hR3 := Aside0.mk hR3; replace hK3 := Aside0.mk hK3; clear hx3)
                  all_goals go_wp2
                  all_goals (go_meet; case rel => exact ⟨rfl, hR3, ⟨hB1.out.trans ((below_drew (Below.refl w.heap.size _)).trans (hK3.out.below (Nat.le_trans hws (Nat.le_of_lt hRd.out.lt)) (fun k hk => by omega)))⟩⟩)
                · have p0 : (f0 % 4 == 0) = false := beq_eq_false_iff_ne.mpr e0
                  have p1 : (f0 % 4 == 1) = false := beq_eq_false_iff_ne.mpr e1
                  have p2 : (f0 % 4 == 2) = false := beq_eq_false_iff_ne.mpr e2
                  have e3 : f0 % 4 = 3 := by omega
                  have p3 : (f0 % 4 == 3) = true := beq_iff_eq.mpr e3
                  have hcN : Aside0 (∀ W, RdAt W H s1 true → Calls Try.prog 17 #[.pointer (some ⟨H, 0, none⟩)] W fun e w' => e = .returned (.bool (f1.tmod 2 == 1)) ∧ RdAt w' H s2 true ∧ Keeps (fun k => k ≠ H) W w') := ⟨fun W h => by have := pack_RFlag_calls H s1 true W h (by have := hsz.out; omega); rwa [o3.out e3, show decide (f1 % 2 = 1) = (f1.tmod 2 == 1) by rw [Int.tmod_eq_emod_of_nonneg i2]; rfl] at this⟩
                  clear e0 e1 e2 e3
                  go_wp2
                  go_region_with (go_at_call 17; (with_reducible refine (hcN.out _ hRd.out).mono ?_); rintro e w3 ⟨rfl, hR3, hK3⟩; have hx3 := hK3.boxN hBd.out (by omega); have c30 := hx3.cell 0 rfl; have c31 := hx3.cell 1 rfl; have c32 := hx3.cell 2 rfl; replace hR3 := Aside0.mk hR3; replace hK3 := Aside0.mk hK3; clear hx3)
                  all_goals go_wp2
                  all_goals (go_meet; case rel => exact ⟨rfl, hR3, ⟨hB1.out.trans ((below_drew (Below.refl w.heap.size _)).trans (hK3.out.below (Nat.le_trans hws (Nat.le_of_lt hRd.out.lt)) (fun k hk => by omega)))⟩⟩)
          case rest =>
            obtain ⟨rfl, HR2, HB2⟩ := hcut
            go_wp2_with (go_at_call 11; with_reducible refine (pack_Fine_calls _ _ _ _ HR2.out).mono ?_; rintro e w4 ⟨rfl, rfl⟩)
            go_roundg k1
            case measure => omega
            case rel => exact ⟨i + 1, by go_num, ⟨by have := HK.out; omega⟩, ⟨by rw [hs2.out]; exact HR2.out⟩, HB2⟩
    | succ k1 =>
      have hlt : i < l0.length := by have := HK.out; omega
      have q3 : decide ((i : Int) < (l0.length : Int)) = true := decide_eq_true (by omega)
      have q3n : decide (i < l0.length) = true := decide_eq_true hlt
      obtain ⟨ad, eA, hx0, hx1, hx2⟩ := at_T37 HR0.out (i : Int) (Int.natCast_nonneg _) (by omega)
      subst eA
      rw [Int.toNat_natCast] at hx0 hx1 hx2
      replace hx0 := (HB.out.cell (World.block_lt_of_cell? w _ hx0)).trans hx0
      replace hx1 := (HB.out.cell (World.block_lt_of_cell? w _ hx1)).trans hx1
      replace hx2 := (HB.out.cell (World.block_lt_of_cell? w _ hx2)).trans hx2
      have hrd : rd_T37 l0 (i : Int) = l0[i] := by simp [rd_T37, hlt]
      rw [hrd] at hx0 hx1 hx2
      clear hrd
      have HSz := Aside0.mk (hsmall.out i (by omega) HJ.out)
      by_cases hbig : 300 < l0[i].f2.size
      · have q4 : decide (300 < (l0[i].f2.size : Int)) = true := decide_eq_true (by omega)
        have q4n : decide (300 < l0[i].f2.size) = true := decide_eq_true hbig
        clear hbig
        generalize l0[i] = x at *
        go_wp2_with (go_at_call 6; with_reducible refine (forebaylaw01_head.calls _ _ _ hhd.out).mono ?_; rintro e w1 ⟨rfl, hb⟩; replace hb := Aside0.mk hb)
        go_ret
        exact ⟨rfl, HB.out.trans (hb.out.mono HB.out.size)⟩
      · have q4 : decide (300 < (l0[i].f2.size : Int)) = false := decide_eq_false (by omega)
        have q4n : decide (300 < l0[i].f2.size) = false := decide_eq_false hbig
        have HJ2 : Aside0 (∀ j (hj : j < l0.length), j < i + 1 → l0[j].f2.size ≤ 300) := ⟨fun j hj hji => by
          by_cases e : j = i
          · subst e; omega
          · exact HJ.out j hj (by omega)⟩
        have hadd1 := Aside0.mk (hadd.out i hlt (fun j hj h => HJ2.out j hj (by omega)))
        have HSz2 := Aside0.mk (hsmall.out (i + 1) (by omega) HJ2.out)
        have hsn := rowB_snoc l0 i hlt
        have hcat := Aside0.mk (show strOfNums (rowB (l0.take i)) ++ strOfNums (itemB l0[i]) = strOfNums (rowB (l0.take (i + 1))) from by rw [strOfNums_app, ← hsn])
        have hcs : (strOfNums (rowB (l0.take i))).size + (strOfNums (itemB l0[i])).size ≤ 20000 := by
          rw [strOfNums_len, strOfNums_len, ← List.length_append, ← hsn]
          exact HSz2.out
        clear hsn hbig
        generalize strOfNums (itemB l0[i]) = ib at *
        generalize l0[i] = x at *
        generalize hy1 : rowB (l0.take i) = y1 at *
        generalize hy2 : rowB (l0.take (i + 1)) = y2 at *
        replace hy1 := Aside0.mk hy1
        replace hy2 := Aside0.mk hy2
        have hcv := Kd.C_string (c := c) Try.underlying31 Try.underlying5 Try.underlying9 (Kd.F_now HF.out)
        have hcat1 := hcat.out
        have e2 : ((strOfNums y1).size + ib.size > 9223372036854775807) = False := eq_false (by omega)
        go_wp2_with (go_at_call 15; (with_reducible refine (forebaylaw01_add.calls k A c y1 x.f0 x.f1 x.f2 _ _ _ (Kd.F_now HF.out) HC.out hadd1.out).mono ?_); rintro e w2 ⟨v2, rfl, hV, hb2⟩; obtain ⟨A2, c2, rfl, hc2, hF2⟩ := hV; have hcv2 := Kd.C_string (c := c) Try.underlying31 Try.underlying5 Try.underlying9 (Kd.C_below (Kd.F_now HF.out) hb2); have hcv3 := Kd.C_string (c := c2) Try.underlying31 Try.underlying5 Try.underlying9 (Kd.F_now hF2); replace hF2 := Aside0.mk hF2; replace hb2 := Aside0.mk hb2; replace hc2 := Aside0.mk hc2)
        go_roundg k1
        case measure => omega
        case rel => exact ⟨i + 1, A2, c2, by go_num, by rw [hy2.out], by rw [hy2.out], ⟨by have := HK.out; omega⟩, ⟨by rw [hy2.out]; exact hc2.out⟩, HJ2, ⟨by rw [hy2.out]; exact Kd.F_mono hF2.out (fun k hk => Nat.le_trans HB.out.size hk)⟩, ⟨HB.out.trans (hb2.out.mono HB.out.size)⟩⟩
def inv37 (x : S37) : Prop := (fun n : Int => (Lit.int .u8 n).wf = true) x.f0 ∧ (fun n : Int => (Lit.int .u64 n).wf = true) x.f1 ∧ (fun s : ByteArray => s.size ≤ 140737488351232) x.f2
theorem opn37 : Opn Try.prog 37 k37 inv37 := opn_struct (fun x : S37 => (x.f0, x.f1, x.f2)) (fun p => (⟨p.1, p.2.1, p.2.2⟩ : S37)) (fun _ => rfl) Try.underlying37 (by kernel_rfl) (fl := [(5, 0), (25, 1), (9, 2)]) (by rfl) (opnL_cons (opn_int Try.underlying5 (by kernel_rfl)) rfl (opnL_cons (opn_int Try.underlying25 (by kernel_rfl)) rfl (opnL_one (opn_string Try.underlying9 (by kernel_rfl)))))

/-- THE ONE PURE STATEMENT of forebaylaw01_PackRow: yours. -/
def forebaylaw01_PackRow.Pure : Prop := ∀ (l0 : List (S37)), (l0.length * 32 ≤ 140737488351232 ∧ l0.length ≤ maxLen ∧ ∀ x ∈ l0, inv37 x) → ∃ k, forebaylaw01_PackRow.f k l0 = some true
theorem forebaylaw01_PackRow.walk (P : forebaylaw01_PackRow.Pure) (A0 : Option Addr) (c0 : Nat) (l0 : List (S37)) (w : World) (hr0 : Kd.C k37 w A0 l0.length l0) (hc0 : l0.length ≤ c0) (y0 : (l0.length * 32 ≤ 140737488351232 ∧ l0.length ≤ maxLen ∧ ∀ x ∈ l0, inv37 x)) :
    Calls Try.prog 5 #[.slice A0 l0.length c0] w fun e w' => e = .returned (.bool true) ∧ Below w.heap.size w w' := by
  obtain ⟨k, h⟩ := P l0 y0
  refine (forebaylaw01_PackRow.calls k A0 c0 l0 true w hr0 hc0 h).mono ?_
  rintro e w' ⟨rfl, hd⟩
  exact ⟨rfl, hd⟩

/-! ### forebayref01_ReadNum: function 8 -/
mutual
def forebayref01_ReadNum.j1 : Nat → ByteArray → Int → Option (Int × Int)
  | 0, _, _ => none
  | k + 1, x0, x4 => if x4 ≥ (x0.size : Int) then (forebayref01_ReadNum.j2 k x0 x4 true) else (if x4 > 9 then (forebayref01_ReadNum.j2 k x0 x4 true) else (if x4 > 0 then (if 0 ≤ x4 then (if x4 < (x0.size : Int) then (if (bt x0 x4) = 0 then (forebayref01_ReadNum.j2 k x0 x4 true) else (if x4 = 9 then (forebayref01_ReadNum.j2 k x0 x4 (decide ((bt x0 x4) > 1))) else (forebayref01_ReadNum.j2 k x0 x4 false))) else (none)) else (none)) else (if x4 = 9 then (if 0 ≤ x4 then (if x4 < (x0.size : Int) then (forebayref01_ReadNum.j2 k x0 x4 (decide ((bt x0 x4) > 1))) else (none)) else (none)) else (forebayref01_ReadNum.j2 k x0 x4 false))))
def forebayref01_ReadNum.j2 : Nat → ByteArray → Int → Bool → Option (Int × Int)
  | 0, _, _, _ => none
  | k + 1, x0, x4, x46 => if x46 = true then (some (0, 0)) else (forebayref01_ReadNum.l1 k x0 x4 0 x4)
def forebayref01_ReadNum.l1 : Nat → ByteArray → Int → Int → Int → Option (Int × Int)
  | 0, _, _, _, _ => none
  | k + 1, x0, x4, x5, x6 => if x6 ≥ 0 then (if 0 ≤ x6 then (if x6 < (x0.size : Int) then (forebayref01_ReadNum.l1 k x0 x4 (IntKind.u64.wrap ((IntKind.u64.wrap (x5 * 128)) + (Int.tmod (IntKind.u64.wrap (bt x0 x6)) 128))) (wrap64 (x6 - 1))) else (none)) else (none)) else (some (x5, wrap64 (x4 + 1)))
def forebayref01_ReadNum.l0 : Nat → ByteArray → Int → Option (Int × Int)
  | 0, _, _ => none
  | k + 1, x0, x4 => if x4 < (x0.size : Int) then (if 0 ≤ x4 then (if (bt x0 x4) ≥ 128 then (forebayref01_ReadNum.l0 k x0 (wrap64 (x4 + 1))) else (forebayref01_ReadNum.j1 k x0 x4)) else (none)) else (forebayref01_ReadNum.j1 k x0 x4)
end
def forebayref01_ReadNum.f (k : Nat) (a0 : ByteArray) : Option (Int × Int) := forebayref01_ReadNum.l0 k a0 0
theorem forebayref01_ReadNum.mono_l : ∀ k, (∀ y0 y1, LeO (forebayref01_ReadNum.j1 k y0 y1) (forebayref01_ReadNum.j1 (k + 1) y0 y1)) ∧ (∀ y0 y1 y2, LeO (forebayref01_ReadNum.j2 k y0 y1 y2) (forebayref01_ReadNum.j2 (k + 1) y0 y1 y2)) ∧ (∀ y0 y1 y2 y3, LeO (forebayref01_ReadNum.l1 k y0 y1 y2 y3) (forebayref01_ReadNum.l1 (k + 1) y0 y1 y2 y3)) ∧ (∀ y0 y1, LeO (forebayref01_ReadNum.l0 k y0 y1) (forebayref01_ReadNum.l0 (k + 1) y0 y1))
  | 0 => ⟨fun _ _ r h => by simp [forebayref01_ReadNum.j1] at h, fun _ _ _ r h => by simp [forebayref01_ReadNum.j2] at h, fun _ _ _ _ r h => by simp [forebayref01_ReadNum.l1] at h, fun _ _ r h => by simp [forebayref01_ReadNum.l0] at h⟩
  | k + 1 => by
    obtain ⟨ih0, ih1, ih2, ih3⟩ := forebayref01_ReadNum.mono_l k
    refine ⟨?_, ?_, ?_, ?_⟩
    · intro y0 y1
      unfold forebayref01_ReadNum.j1
      repeat' first
      | (with_reducible exact ih0 _ _)
      | (with_reducible exact ih1 _ _ _)
      | (with_reducible exact ih2 _ _ _ _)
      | (with_reducible exact ih3 _ _)
      | (with_reducible exact LeO.refl _)
      | (with_reducible exact LeO.none _)
      | (with_reducible refine LeO.ite ?_ ?_)
      | (with_reducible refine LeO.bind ?_ (fun _ => ?_))
      | exact ih0 _ _
      | exact ih1 _ _ _
      | exact ih2 _ _ _ _
      | exact ih3 _ _
      | exact LeO.none _
      | refine LeO.ite ?_ ?_
      | refine LeO.bind ?_ (fun _ => ?_)
    · intro y0 y1 y2
      unfold forebayref01_ReadNum.j2
      repeat' first
      | (with_reducible exact ih0 _ _)
      | (with_reducible exact ih1 _ _ _)
      | (with_reducible exact ih2 _ _ _ _)
      | (with_reducible exact ih3 _ _)
      | (with_reducible exact LeO.refl _)
      | (with_reducible exact LeO.none _)
      | (with_reducible refine LeO.ite ?_ ?_)
      | (with_reducible refine LeO.bind ?_ (fun _ => ?_))
      | exact ih0 _ _
      | exact ih1 _ _ _
      | exact ih2 _ _ _ _
      | exact ih3 _ _
      | exact LeO.none _
      | refine LeO.ite ?_ ?_
      | refine LeO.bind ?_ (fun _ => ?_)
    · intro y0 y1 y2 y3
      unfold forebayref01_ReadNum.l1
      repeat' first
      | (with_reducible exact ih0 _ _)
      | (with_reducible exact ih1 _ _ _)
      | (with_reducible exact ih2 _ _ _ _)
      | (with_reducible exact ih3 _ _)
      | (with_reducible exact LeO.refl _)
      | (with_reducible exact LeO.none _)
      | (with_reducible refine LeO.ite ?_ ?_)
      | (with_reducible refine LeO.bind ?_ (fun _ => ?_))
      | exact ih0 _ _
      | exact ih1 _ _ _
      | exact ih2 _ _ _ _
      | exact ih3 _ _
      | exact LeO.none _
      | refine LeO.ite ?_ ?_
      | refine LeO.bind ?_ (fun _ => ?_)
    · intro y0 y1
      unfold forebayref01_ReadNum.l0
      repeat' first
      | (with_reducible exact ih0 _ _)
      | (with_reducible exact ih1 _ _ _)
      | (with_reducible exact ih2 _ _ _ _)
      | (with_reducible exact ih3 _ _)
      | (with_reducible exact LeO.refl _)
      | (with_reducible exact LeO.none _)
      | (with_reducible refine LeO.ite ?_ ?_)
      | (with_reducible refine LeO.bind ?_ (fun _ => ?_))
      | exact ih0 _ _
      | exact ih1 _ _ _
      | exact ih2 _ _ _ _
      | exact ih3 _ _
      | exact LeO.none _
      | refine LeO.ite ?_ ?_
      | refine LeO.bind ?_ (fun _ => ?_)
theorem forebayref01_ReadNum.mono : ∀ a0 k, LeO (forebayref01_ReadNum.f k a0) (forebayref01_ReadNum.f (k + 1) a0) := by
  intro a0 k
  obtain ⟨ih0, ih1, ih2, ih3⟩ := forebayref01_ReadNum.mono_l k
  unfold forebayref01_ReadNum.f
  repeat' first
      | (with_reducible exact ih0 _ _)
      | (with_reducible exact ih1 _ _ _)
      | (with_reducible exact ih2 _ _ _ _)
      | (with_reducible exact ih3 _ _)
      | (with_reducible exact LeO.refl _)
      | (with_reducible exact LeO.none _)
      | (with_reducible refine LeO.ite ?_ ?_)
      | (with_reducible refine LeO.bind ?_ (fun _ => ?_))
      | exact ih0 _ _
      | exact ih1 _ _ _
      | exact ih2 _ _ _ _
      | exact ih3 _ _
      | exact LeO.none _
      | refine LeO.ite ?_ ?_
      | refine LeO.bind ?_ (fun _ => ?_)
set_option maxHeartbeats 8000000 in
set_option maxRecDepth 100000 in
theorem forebayref01_ReadNum.calls (k : Nat) (a0 : ByteArray) (r1 : Int) (r2 : Int) (w : World) (h : forebayref01_ReadNum.f k a0 = some (r1, r2)) :
    Calls Try.prog 8 #[.string a0] w fun e w' => e = .returned (.tuple #[.int .u64 r1, .int .i64 r2]) ∧ Drawn0 w w' := by
  have H : (forebayref01_ReadNum.l0 k a0 0) = some (r1, r2) := h
  clear h
  have HC2 := Aside0.mk H
  clear H
  go_enter Try.func8, Try.ntmps8
  go_upto_block 0 with (fail)
  go_cut [4] (fun v4 wc => ∃ (kq : Nat) (x4_1 : Int), v4 = .int .i64 x4_1 ∧ Aside0 (forebayref01_ReadNum.j1 kq a0 x4_1 = some (r1, r2)) ∧ Aside0 (kq ≤ k) ∧ Drawn0 w wc)
  case first =>
    have H := HC2.out
    clear HC2
    have H' := Aside0.mk H
    clear H
    go_wp2
    go_loopg [4] k (fun kq v4 w' => ∃ (x4_1 : Int), v4 = .int .i64 x4_1 ∧ Aside0 (forebayref01_ReadNum.l0 kq a0 x4_1 = some (r1, r2)) ∧ Aside0 (kq ≤ k) ∧ Drawn0 w w')
    case atStart => exact ⟨(0), (by first | rfl | (simp; done) | (simp [*]; done) | (simp; exact isEmpty_bne _)), H', ⟨Nat.le_refl _⟩, by repeat (first | exact Drawn0.refl _ | apply Drawn0.step)⟩
    case round =>
      clear H'
      try clear p2
      obtain ⟨x4_1, rfl, HA, HK1, ⟨m1, rfl⟩⟩ := hrel
      cases gk with
      | zero => exact absurd HA.out (by simp [forebayref01_ReadNum.l0])
      | succ k1 =>
        have H := HA.out
        clear HA
        simp only [forebayref01_ReadNum.l0] at H
        by_cases c3 : x4_1 < (a0.size : Int)
        · rw [if_pos c3] at H
          have c3b0 : decide (x4_1 < (a0.size : Int)) = true := decide_eq_true c3
          clear c3
          (first | rw [c3b0] | (simp only [i64_w, i32_w]; rw [c3b0]) | skip)
          by_cases c4 : 0 ≤ x4_1
          · rw [if_pos c4] at H
            have c4b0 : decide (0 ≤ x4_1) = true := decide_eq_true c4
            clear c4
            by_cases c6 : (bt a0 x4_1) ≥ 128
            · rw [if_pos c6] at H
              have c6b0 : decide (128 ≤ (bt a0 x4_1)) = true := decide_eq_true c6
              clear c6
              have H' := Aside0.mk H
              clear H
              have p5 : 0 ≤ (x4_1 : Int) := of_decide_eq_true (by first | (with_reducible assumption) | assumption)
              have q5 : x4_1 < (a0.size : Int) := of_decide_eq_true (by first | (with_reducible assumption) | assumption)
              have hx5 := bt_at a0 x4_1
              replace p5 := eq_true p5
              replace q5 := eq_true q5
              go_wp2
              go_roundg k1
              case measure => have := HK1.out; omega
              case rel => exact ⟨(wrap64 (x4_1 + 1)), (by first | rfl | (simp; done) | (simp [*]; done) | (simp; exact isEmpty_bne _)), H', ⟨by have := HK1.out; omega⟩, by repeat (first | exact Drawn0.refl _ | apply Drawn0.step)⟩
            · rw [if_neg c6] at H
              have c6b0 : decide (128 ≤ (bt a0 x4_1)) = false := decide_eq_false c6
              clear c6
              have H' := Aside0.mk H
              clear H
              have p5 : 0 ≤ (x4_1 : Int) := of_decide_eq_true (by first | (with_reducible assumption) | assumption)
              have q5 : x4_1 < (a0.size : Int) := of_decide_eq_true (by first | (with_reducible assumption) | assumption)
              have hx5 := bt_at a0 x4_1
              replace p5 := eq_true p5
              replace q5 := eq_true q5
              go_wp2
              go_meet
              case rel => exact ⟨_, (x4_1), (by first | rfl | (simp; done) | (simp [*]; done) | (simp; exact isEmpty_bne _)), H', ⟨by have := HK1.out; first | omega | exact Nat.le_refl _⟩, by repeat (first | exact Drawn0.refl _ | apply Drawn0.step)⟩
          · rw [if_neg c4] at H
            exact absurd H (by simp)
        · rw [if_neg c3] at H
          have c3b0 : decide (x4_1 < (a0.size : Int)) = false := decide_eq_false c3
          clear c3
          (first | rw [c3b0] | (simp only [i64_w, i32_w]; rw [c3b0]) | skip)
          have H' := Aside0.mk H
          clear H
          go_wp2
          go_meet
          case rel => exact ⟨_, (x4_1), (by first | rfl | (simp; done) | (simp [*]; done) | (simp; exact isEmpty_bne _)), H', ⟨by have := HK1.out; first | omega | exact Nat.le_refl _⟩, by repeat (first | exact Drawn0.refl _ | apply Drawn0.step)⟩
  case rest =>
    clear HC2
    try clear p2
    try clear c3
    try clear c3b0
    try clear c4
    try clear c4b0
    try clear p5
    try clear q5
    try clear hx5
    try clear c6
    try clear c6b0
    try clear p6
    try clear p2
    try clear p5
    try clear q5
    obtain ⟨kq, x4_1, rfl, HA, HJ1, ⟨mc1, rfl⟩⟩ := hcut
    cases kq with
    | zero => exact absurd HA.out (by simp [forebayref01_ReadNum.j1])
    | succ kj1 =>
      have H := HA.out
      clear HA
      simp only [forebayref01_ReadNum.j1] at H
      have HC7 := Aside0.mk H
      clear H
      go_upto_region 4 with (fail)
      go_cut [46] (fun v46 wc => ∃ (kq : Nat) (x46_6 : Bool), v46 = .bool x46_6 ∧ Aside0 (forebayref01_ReadNum.j2 kq a0 x4_1 x46_6 = some (r1, r2)) ∧ Aside0 (kq ≤ kj1) ∧ Drawn0 w wc)
      case first =>
        have H := HC7.out
        clear HC7
        by_cases c8 : x4_1 ≥ (a0.size : Int)
        · rw [if_pos c8] at H
          have c8b0 : decide ((a0.size : Int) ≤ x4_1) = true := decide_eq_true c8
          clear c8
          (first | rw [c8b0] | (simp only [i64_w, i32_w]; rw [c8b0]) | skip)
          have H' := Aside0.mk H
          clear H
          go_wp2
          go_meet
          case rel => exact ⟨_, (true), (by first | rfl | (simp; done) | (simp [*]; done) | (simp; exact isEmpty_bne _)), H', ⟨by have := HJ1.out; first | omega | exact Nat.le_refl _⟩, by repeat (first | exact Drawn0.refl _ | apply Drawn0.step)⟩
        · rw [if_neg c8] at H
          have c8b0 : decide ((a0.size : Int) ≤ x4_1) = false := decide_eq_false c8
          clear c8
          (first | rw [c8b0] | (simp only [i64_w, i32_w]; rw [c8b0]) | skip)
          by_cases c9 : x4_1 > 9
          · rw [if_pos c9] at H
            have c9b0 : decide (9 < x4_1) = true := decide_eq_true c9
            clear c9
            have H' := Aside0.mk H
            clear H
            go_wp2
            go_meet
            case rel => exact ⟨_, (true), (by first | rfl | (simp; done) | (simp [*]; done) | (simp; exact isEmpty_bne _)), H', ⟨by have := HJ1.out; first | omega | exact Nat.le_refl _⟩, by repeat (first | exact Drawn0.refl _ | apply Drawn0.step)⟩
          · rw [if_neg c9] at H
            have c9b0 : decide (9 < x4_1) = false := decide_eq_false c9
            clear c9
            by_cases c10 : x4_1 > 0
            · rw [if_pos c10] at H
              have c10b0 : decide (0 < x4_1) = true := decide_eq_true c10
              clear c10
              by_cases c11 : 0 ≤ x4_1
              · rw [if_pos c11] at H
                have c11b0 : decide (0 ≤ x4_1) = true := decide_eq_true c11
                clear c11
                by_cases c12 : x4_1 < (a0.size : Int)
                · rw [if_pos c12] at H
                  have c12b0 : decide (x4_1 < (a0.size : Int)) = true := decide_eq_true c12
                  clear c12
                  by_cases c14 : (bt a0 x4_1) = 0
                  · rw [if_pos c14] at H
                    have c14b0 : ((bt a0 x4_1) == 0) = true := beq_iff_eq.mpr c14
                    have c14b1 : ((bt a0 x4_1) != 0) = false := bne_eq_false_iff_eq.mpr c14
                    clear c14
                    have H' := Aside0.mk H
                    clear H
                    have p13 : 0 ≤ (x4_1 : Int) := of_decide_eq_true (by first | (with_reducible assumption) | assumption)
                    have q13 : x4_1 < (a0.size : Int) := of_decide_eq_true (by first | (with_reducible assumption) | assumption)
                    have hx13 := bt_at a0 x4_1
                    replace p13 := eq_true p13
                    replace q13 := eq_true q13
                    go_wp2
                    go_meet
                    case rel => exact ⟨_, (true), (by first | rfl | (simp; done) | (simp [*]; done) | (simp; exact isEmpty_bne _)), H', ⟨by have := HJ1.out; first | omega | exact Nat.le_refl _⟩, by repeat (first | exact Drawn0.refl _ | apply Drawn0.step)⟩
                  · rw [if_neg c14] at H
                    have c14b0 : ((bt a0 x4_1) == 0) = false := beq_eq_false_iff_ne.mpr c14
                    have c14b1 : ((bt a0 x4_1) != 0) = true := bne_iff_ne.mpr c14
                    by_cases c15 : x4_1 = 9
                    · rw [if_pos c15] at H
                      have c15b0 : (x4_1 == 9) = true := beq_iff_eq.mpr c15
                      have c15b1 : (x4_1 != 9) = false := bne_eq_false_iff_eq.mpr c15
                      clear c15
                      have H' := Aside0.mk H
                      clear H
                      have p13 : 0 ≤ (x4_1 : Int) := of_decide_eq_true (by first | (with_reducible assumption) | assumption)
                      have q13 : x4_1 < (a0.size : Int) := of_decide_eq_true (by first | (with_reducible assumption) | assumption)
                      have hx13 := bt_at a0 x4_1
                      replace p13 := eq_true p13
                      replace q13 := eq_true q13
                      have p16 : 0 ≤ (x4_1 : Int) := of_decide_eq_true (by first | (with_reducible assumption) | assumption)
                      have q16 : x4_1 < (a0.size : Int) := of_decide_eq_true (by first | (with_reducible assumption) | assumption)
                      have hx16 := bt_at a0 x4_1
                      replace p16 := eq_true p16
                      replace q16 := eq_true q16
                      go_wp2
                      go_meet
                      case rel => exact ⟨_, (decide ((bt a0 x4_1) > 1)), (by first | rfl | (simp; done) | (simp [*]; done) | (simp; exact isEmpty_bne _)), H', ⟨by have := HJ1.out; first | omega | exact Nat.le_refl _⟩, by repeat (first | exact Drawn0.refl _ | apply Drawn0.step)⟩
                    · rw [if_neg c15] at H
                      have c15b0 : (x4_1 == 9) = false := beq_eq_false_iff_ne.mpr c15
                      have c15b1 : (x4_1 != 9) = true := bne_iff_ne.mpr c15
                      have H' := Aside0.mk H
                      clear H
                      have p13 : 0 ≤ (x4_1 : Int) := of_decide_eq_true (by first | (with_reducible assumption) | assumption)
                      have q13 : x4_1 < (a0.size : Int) := of_decide_eq_true (by first | (with_reducible assumption) | assumption)
                      have hx13 := bt_at a0 x4_1
                      replace p13 := eq_true p13
                      replace q13 := eq_true q13
                      go_wp2
                      go_meet
                      case rel => exact ⟨_, (false), (by first | rfl | (simp; done) | (simp [*]; done) | (simp; exact isEmpty_bne _)), H', ⟨by have := HJ1.out; first | omega | exact Nat.le_refl _⟩, by repeat (first | exact Drawn0.refl _ | apply Drawn0.step)⟩
                · rw [if_neg c12] at H
                  exact absurd H (by simp)
              · rw [if_neg c11] at H
                exact absurd H (by simp)
            · rw [if_neg c10] at H
              have c10b0 : decide (0 < x4_1) = false := decide_eq_false c10
              clear c10
              by_cases c17 : x4_1 = 9
              · rw [if_pos c17] at H
                have c17b0 : (x4_1 == 9) = true := beq_iff_eq.mpr c17
                have c17b1 : (x4_1 != 9) = false := bne_eq_false_iff_eq.mpr c17
                clear c17
                by_cases c18 : 0 ≤ x4_1
                · rw [if_pos c18] at H
                  have c18b0 : decide (0 ≤ x4_1) = true := decide_eq_true c18
                  clear c18
                  by_cases c19 : x4_1 < (a0.size : Int)
                  · rw [if_pos c19] at H
                    have c19b0 : decide (x4_1 < (a0.size : Int)) = true := decide_eq_true c19
                    clear c19
                    have H' := Aside0.mk H
                    clear H
                    have p20 : 0 ≤ (x4_1 : Int) := of_decide_eq_true (by first | (with_reducible assumption) | assumption)
                    have q20 : x4_1 < (a0.size : Int) := of_decide_eq_true (by first | (with_reducible assumption) | assumption)
                    have hx20 := bt_at a0 x4_1
                    replace p20 := eq_true p20
                    replace q20 := eq_true q20
                    go_wp2
                    go_meet
                    case rel => exact ⟨_, (decide ((bt a0 x4_1) > 1)), (by first | rfl | (simp; done) | (simp [*]; done) | (simp; exact isEmpty_bne _)), H', ⟨by have := HJ1.out; first | omega | exact Nat.le_refl _⟩, by repeat (first | exact Drawn0.refl _ | apply Drawn0.step)⟩
                  · rw [if_neg c19] at H
                    exact absurd H (by simp)
                · rw [if_neg c18] at H
                  exact absurd H (by simp)
              · rw [if_neg c17] at H
                have c17b0 : (x4_1 == 9) = false := beq_eq_false_iff_ne.mpr c17
                have c17b1 : (x4_1 != 9) = true := bne_iff_ne.mpr c17
                have H' := Aside0.mk H
                clear H
                go_wp2
                go_meet
                case rel => exact ⟨_, (false), (by first | rfl | (simp; done) | (simp [*]; done) | (simp; exact isEmpty_bne _)), H', ⟨by have := HJ1.out; first | omega | exact Nat.le_refl _⟩, by repeat (first | exact Drawn0.refl _ | apply Drawn0.step)⟩
      case rest =>
        clear HC7
        try clear c1
        try clear p1
        try clear q1
        try clear hx1
        try clear p2
        try clear q2
        try clear hx2
        try clear c3
        try clear c3b0
        try clear c4
        try clear c4b0
        try clear p5
        try clear q5
        try clear hx5
        try clear c6
        try clear c6b0
        try clear p6
        try clear c8
        try clear c8b0
        try clear c9
        try clear c9b0
        try clear c10
        try clear c10b0
        try clear c11
        try clear c11b0
        try clear c12
        try clear c12b0
        try clear p13
        try clear q13
        try clear hx13
        try clear c14
        try clear c14b0
        try clear c14b1
        try clear c15
        try clear c15b0
        try clear c15b1
        try clear p16
        try clear q16
        try clear hx16
        try clear c17
        try clear c17b0
        try clear c17b1
        try clear c18
        try clear c18b0
        try clear c19
        try clear c19b0
        try clear p20
        try clear q20
        try clear hx20
        try clear p13
        try clear p16
        try clear p2
        try clear p20
        try clear p5
        try clear p6
        try clear q13
        try clear q16
        try clear q20
        try clear q5
        obtain ⟨kq, x46_6, rfl, HA, HJ6, ⟨mc6, rfl⟩⟩ := hcut
        cases kq with
        | zero => exact absurd HA.out (by simp [forebayref01_ReadNum.j2])
        | succ kj6 =>
          have H := HA.out
          clear HA
          simp only [forebayref01_ReadNum.j2] at H
          by_cases c21 : x46_6 = true
          · subst c21
            have H1 : (some (0, 0)) = some (r1, r2) := by rw [if_pos rfl] at H; exact H
            clear H
            have H := H1
            clear H1
            simp only [Option.some.injEq, Prod.mk.injEq] at H
            obtain ⟨rfl, rfl⟩ := H
            go_wp2
            go_ret2
            exact ⟨by first | rfl | (simp; done) | (simp [*]; done), by repeat (first | exact Drawn0.refl _ | apply Drawn0.step)⟩
          · replace c21 := Bool.eq_false_iff.mpr c21
            subst c21
            have H1 : (forebayref01_ReadNum.l1 kj6 a0 x4_1 0 x4_1) = some (r1, r2) := by rw [if_neg (show ¬ (false = true) by decide)] at H; exact H
            clear H
            have H := H1
            clear H1
            have H' := Aside0.mk H
            clear H
            go_wp2
            go_loopg [5, 6] kj6 (fun kq v5 v6 w' => ∃ (x5_3 : Int) (x6_3 : Int), v5 = .int .u64 x5_3 ∧ v6 = .int .i64 x6_3 ∧ Aside0 (forebayref01_ReadNum.l1 kq a0 x4_1 x5_3 x6_3 = some (r1, r2)) ∧ Aside0 (kq ≤ kj6) ∧ Drawn0 w w')
            case atStart => exact ⟨(0), (x4_1), (by first | rfl | (simp; done) | (simp [*]; done) | (simp; exact isEmpty_bne _)), (by first | rfl | (simp; done) | (simp [*]; done) | (simp; exact isEmpty_bne _)), H', ⟨Nat.le_refl _⟩, by repeat (first | exact Drawn0.refl _ | apply Drawn0.step)⟩
            case round =>
              clear H'
              try clear c1
              try clear p1
              try clear q1
              try clear hx1
              try clear c2
              try clear p2
              try clear q2
              try clear hx2
              try clear c3
              try clear c3b0
              try clear c4
              try clear c4b0
              try clear p5
              try clear q5
              try clear hx5
              try clear c6
              try clear c6b0
              try clear p6
              try clear c8
              try clear c8b0
              try clear c9
              try clear c9b0
              try clear c10
              try clear c10b0
              try clear c11
              try clear c11b0
              try clear c12
              try clear c12b0
              try clear p13
              try clear q13
              try clear hx13
              try clear c14
              try clear c14b0
              try clear c14b1
              try clear c15
              try clear c15b0
              try clear c15b1
              try clear p16
              try clear q16
              try clear hx16
              try clear c17
              try clear c17b0
              try clear c17b1
              try clear c18
              try clear c18b0
              try clear c19
              try clear c19b0
              try clear p20
              try clear q20
              try clear hx20
              try clear c21
              try clear p1
              try clear p13
              try clear p16
              try clear p2
              try clear p20
              try clear p5
              try clear p6
              try clear q1
              try clear q13
              try clear q16
              try clear q2
              try clear q20
              try clear q5
              obtain ⟨x5_3, x6_3, rfl, rfl, HA, HK3, ⟨m3, rfl⟩⟩ := hrel
              cases gk with
              | zero => exact absurd HA.out (by simp [forebayref01_ReadNum.l1])
              | succ k3 =>
                have H := HA.out
                clear HA
                simp only [forebayref01_ReadNum.l1] at H
                by_cases c22 : x6_3 ≥ 0
                · rw [if_pos c22] at H
                  have c22b0 : decide (0 ≤ x6_3) = true := decide_eq_true c22
                  clear c22
                  by_cases c23 : 0 ≤ x6_3
                  · rw [if_pos c23] at H
                    have c23b0 : decide (0 ≤ x6_3) = true := decide_eq_true c23
                    clear c23
                    by_cases c24 : x6_3 < (a0.size : Int)
                    · rw [if_pos c24] at H
                      have c24b0 : decide (x6_3 < (a0.size : Int)) = true := decide_eq_true c24
                      clear c24
                      have H' := Aside0.mk H
                      clear H
                      have p25 : 0 ≤ (x6_3 : Int) := of_decide_eq_true (by first | (with_reducible assumption) | assumption)
                      have q25 : x6_3 < (a0.size : Int) := of_decide_eq_true (by first | (with_reducible assumption) | assumption)
                      have hx25 := bt_at a0 x6_3
                      replace p25 := eq_true p25
                      replace q25 := eq_true q25
                      go_wp2
                      go_roundg k3
                      case measure => have := HJ1.out; have := HJ6.out; have := HK3.out; omega
                      case rel => exact ⟨(IntKind.u64.wrap ((IntKind.u64.wrap (x5_3 * 128)) + (Int.tmod (IntKind.u64.wrap (bt a0 x6_3)) 128))), (wrap64 (x6_3 - 1)), (by first | rfl | (simp; done) | (simp [*]; done) | (simp; exact isEmpty_bne _)), (by first | rfl | (simp; done) | (simp [*]; done) | (simp; exact isEmpty_bne _)), H', ⟨by have := HJ1.out; have := HJ6.out; have := HK3.out; omega⟩, by repeat (first | exact Drawn0.refl _ | apply Drawn0.step)⟩
                    · rw [if_neg c24] at H
                      exact absurd H (by simp)
                  · rw [if_neg c23] at H
                    exact absurd H (by simp)
                · rw [if_neg c22] at H
                  have c22b0 : decide (0 ≤ x6_3) = false := decide_eq_false c22
                  clear c22
                  simp only [Option.some.injEq, Prod.mk.injEq] at H
                  obtain ⟨rfl, rfl⟩ := H
                  go_wp2
                  go_ret2
                  exact ⟨by first | rfl | (simp; done) | (simp [*]; done), by repeat (first | exact Drawn0.refl _ | apply Drawn0.step)⟩

end Go.Proofs.Ytphmejgipjcppaa.P
