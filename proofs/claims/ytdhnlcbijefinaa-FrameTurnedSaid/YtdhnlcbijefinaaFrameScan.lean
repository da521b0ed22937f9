/- What the document's Scan comes to. -/
import Derived.Test.YtdhnlcbijefinaaFrameEv
namespace Go.Proofs.Ytdhnlcbijefinaa.Pure
open Go.RowKit Go.Proofs.Ytdhnlcbijefinaa.P Go.Proofs.YtdhnlcbijefinaaW.PrintWords Go.Proofs.YtdhnlcbijefinaaW.PrintLast
set_option linter.unusedVariables false
set_option linter.unusedSimpArgs false

theorem refscan_l (b : ByteArray) (hb : b.size ≤ 20000) (j : Nat) : ∀ (at_ : Nat) (acc : List ByteArray), at_ ≤ b.size → b.size - at_ < j → acc.length + (b.size - at_) ≤ 20000 →
    Ev (fun n => forebayref06_Scan.l0 n b acc (at_ : Int)) (acc ++ scanT (b.extract at_ b.size), (at_ : Int) + costs (scanT (b.extract at_ b.size))) := by
  induction j with
  | zero => intro _ _ _ h; exact absurd h (Nat.not_lt_zero _)
  | succ j ih =>
    intro at_ acc hat hj hacc
    have hcs := ex_sz b at_ b.size hat (Nat.le_refl _)
    refine Ev.succ ?_
    simp only [forebayref06_Scan.l0]
    have w0 : Aside0 (wrap64 ((b.size : Int) - (at_ : Int)) = ((b.size - at_ : Nat) : Int)) := ⟨by unfold wrap64; omega⟩
    have w1 : Aside0 (wrap64 ((at_ : Int) + 1) = ((at_ + 1 : Nat) : Int)) := ⟨by unfold wrap64; omega⟩
    have w2 : Aside0 (wrap64 ((at_ : Int) + 2) = ((at_ + 2 : Nat) : Int)) := ⟨by unfold wrap64; omega⟩
    have w3 : Aside0 (wrap64 ((at_ : Int) + 3) = ((at_ + 3 : Nat) : Int)) := ⟨by unfold wrap64; omega⟩
    rw [w0.out, w1.out, w2.out, w3.out]
    clear w0 w1 w2 w3
    refine Ev.ite (fun h20 => ?_) (fun h20 => ?_)
    rotate_left
    · have hn : frame1 (b.extract at_ b.size) = none := by
        refine frame1_not _ (by omega) (fun s _ e => ?_)
        have e1 := congrArg ByteArray.size e
        rw [frameT_size] at e1
        have e2 := extract_size_le (b.extract at_ b.size) (20 + s.size)
        omega
      rw [scanT_none _ hn]
      exact Ev.const (by simp [costs])
    · have hbt : ∀ j : Nat, j < 4 → bt b ((at_ + j : Nat) : Int) = bt (b.extract at_ b.size) (j : Int) := by
        intro j hj
        have h1 : at_ + j < b.data.toList.length := by rw [ba_size]; omega
        have hd := ba_drop b at_
        have h2 : j < (b.extract at_ b.size).data.toList.length := by rw [ba_size]; omega
        rw [bt_get _ _ h1, bt_get _ _ h2]
        simp only [hd, List.getElem_drop]
      have b0 := hbt 0 (by omega)
      have b1 := hbt 1 (by omega)
      have b2 := hbt 2 (by omega)
      have b3 := hbt 3 (by omega)
      rw [Nat.add_zero] at b0
      rw [b0, b1, b2, b3]
      clear b0 b1 b2 b3 hbt
      have hN : wrap64 (wrap64 (wrap64 (wrap64 (bt (b.extract at_ b.size) ((0 : Nat) : Int)) + wrap64 (256 * wrap64 (bt (b.extract at_ b.size) ((1 : Nat) : Int)))) + wrap64 (65536 * wrap64 (bt (b.extract at_ b.size) ((2 : Nat) : Int)))) + wrap64 (16777216 * wrap64 (bt (b.extract at_ b.size) ((3 : Nat) : Int)))) = numT (b.extract at_ b.size) := by
        have r0 := bt_range (b.extract at_ b.size) ((0 : Nat) : Int)
        have r1 := bt_range (b.extract at_ b.size) ((1 : Nat) : Int)
        have r2 := bt_range (b.extract at_ b.size) ((2 : Nat) : Int)
        have r3 := bt_range (b.extract at_ b.size) ((3 : Nat) : Int)
        show _ = bt (b.extract at_ b.size) ((0 : Nat) : Int) + 256 * bt (b.extract at_ b.size) ((1 : Nat) : Int) + 65536 * bt (b.extract at_ b.size) ((2 : Nat) : Int) + 16777216 * bt (b.extract at_ b.size) ((3 : Nat) : Int)
        generalize bt (b.extract at_ b.size) ((0 : Nat) : Int) = x0 at *
        generalize bt (b.extract at_ b.size) ((1 : Nat) : Int) = x1 at *
        generalize bt (b.extract at_ b.size) ((2 : Nat) : Int) = x2 at *
        generalize bt (b.extract at_ b.size) ((3 : Nat) : Int) = x3 at *
        rw [wrap64_id (x := x0) (by omega) (by omega), wrap64_id (x := x1) (by omega) (by omega), wrap64_id (x := x2) (by omega) (by omega), wrap64_id (x := x3) (by omega) (by omega),
          wrap64_id (x := 256 * x1) (by omega) (by omega), wrap64_id (x := 65536 * x2) (by omega) (by omega), wrap64_id (x := 16777216 * x3) (by omega) (by omega),
          wrap64_id (x := x0 + 256 * x1) (by omega) (by omega), wrap64_id (x := x0 + 256 * x1 + 65536 * x2) (by omega) (by omega), wrap64_id (x := x0 + 256 * x1 + 65536 * x2 + 16777216 * x3) (by omega) (by omega)]
      rw [hN]
      clear hN
      obtain ⟨n, hn⟩ := Int.eq_ofNat_of_zero_le (numT_nn (b.extract at_ b.size))
      have hsub : ∀ i m : Nat, at_ + m ≤ b.size → b.extract (at_ + i) (at_ + m) = (b.extract at_ b.size).extract i m := by
        intro i m hm
        refine ba_ext ?_
        rw [ba_extract, ba_extract, ba_drop, List.take_drop, List.drop_drop]
      -- what the document's loop does next is told by this
      have key : Ev (fun k => forebayref06_Scan.j1 k b acc (at_ : Int) (n : Int) (decide (262144 < n ∨ b.size - at_ < 20 + n))) (acc ++ scanT (b.extract at_ b.size), (at_ : Int) + costs (scanT (b.extract at_ b.size))) := by
        refine Ev.succ ?_
        simp only [forebayref06_Scan.j1]
        by_cases hbad : 262144 < n ∨ b.size - at_ < 20 + n
        · have hno : frame1 (b.extract at_ b.size) = none := by
            refine frame1_not _ (by omega) (fun s hs e => ?_)
            have e1 := congrArg ByteArray.size e
            rw [frameT_size] at e1
            have e3 : 20 + s.size ≤ (b.extract at_ b.size).size := by
              have := extract_size_le (b.extract at_ b.size) (20 + s.size)
              omega
            have e4 : numT (b.extract at_ b.size) = (s.size : Int) := by
              rw [← numT_leadB s.size (by omega)]
              refine numT_congr _ _ (by omega) (by rw [leadB_size]; omega) ?_
              rw [← ex_ex (b.extract at_ b.size) (20 + s.size) 4 (by omega), ← e]
              have := sealT_prefix (leadB (s.size : Int))
              rw [leadB_size] at this
              unfold frameT
              rw [ex_left _ _ _ (by rw [sealT_size, leadB_size]; omega), this]
              have := ex_all (leadB (s.size : Int))
              rw [leadB_size] at this
              exact this.symm
            omega
          rw [scanT_none _ hno]
          exact Ev.pos (decide_eq_true hbad) (Ev.const (by simp [costs]))
        · refine Ev.neg (by rw [decide_eq_false hbad]; decide) ?_
          have hn2 : n ≤ 262144 := by omega
          have hn3 : 20 + n ≤ b.size - at_ := by omega
          have v1 : Aside0 (wrap64 ((at_ : Int) + 12) = ((at_ + 12 : Nat) : Int)) := ⟨by unfold wrap64; omega⟩
          have v2 : Aside0 (wrap64 (((at_ + 12 : Nat) : Int) + (n : Int)) = ((at_ + (12 + n) : Nat) : Int)) := ⟨by unfold wrap64; omega⟩
          have v3 : Aside0 (wrap64 ((at_ : Int) + 20) = ((at_ + 20 : Nat) : Int)) := ⟨by unfold wrap64; omega⟩
          have v4 : Aside0 (wrap64 (((at_ + 20 : Nat) : Int) + (n : Int)) = ((at_ + (20 + n) : Nat) : Int)) := ⟨by unfold wrap64; omega⟩
          rw [v1.out, v2.out, v3.out, v4.out]
          clear v1 v2 v3 v4
          simp only [Int.toNat_natCast]
          have x1 := hsub 12 (12 + n) (by omega)
          have x2 := hsub 0 (20 + n) (by omega)
          rw [Nat.add_zero] at x2
          rw [x1, x2]
          clear x1 x2 hsub
          have xz : ((b.extract at_ b.size).extract 12 (12 + n)).size = n := by rw [ex_sz _ _ _ (by omega) (by omega)]; omega
          refine Ev.pos (by omega) (Ev.pos (by omega) (Ev.pos (by omega) (Ev.eq_bind (one_eq _ (by omega)) (Ev.pos (by omega) (Ev.pos (by omega) (Ev.pos (by omega) ?_))))))
          refine Ev.ite (fun he => ?_) (fun he => ?_)
          · have he2 := ba_inj.1 he
            have hb2 : b.extract at_ b.size = frameT ((b.extract at_ b.size).extract 12 (12 + n)) ++ (b.extract at_ b.size).extract (20 + n) (b.extract at_ b.size).size := by
              rw [he2, ex_split]
            have hrest : (b.extract at_ b.size).extract (20 + n) (b.extract at_ b.size).size = b.extract (at_ + (20 + n)) b.size := by
              refine ba_ext ?_
              rw [ba_drop, ba_drop, ba_drop, List.drop_drop]
            have hsc : scanT (b.extract at_ b.size) = (b.extract at_ b.size).extract 12 (12 + n) :: scanT (b.extract (at_ + (20 + n)) b.size) := by
              have h1 : frame1 (b.extract at_ b.size) = some ((b.extract at_ b.size).extract 12 (12 + n)) := by
                conv => lhs; rw [hb2]
                exact frame1_hit _ _ (by omega)
              rw [scanT_some _ _ (by omega) h1, xz, hrest]
            rw [hsc]
            refine Ev.pos (by omega) ?_
            have := ih (at_ + (20 + n)) (acc ++ [(b.extract at_ b.size).extract 12 (12 + n)]) (by omega) (by omega) (by rw [List.length_append, List.length_singleton]; omega)
            refine Ev.eq this ?_
            rw [List.append_assoc, List.singleton_append]
            show _ = (_, (at_ : Int) + (20 + (((b.extract at_ b.size).extract 12 (12 + n)).size : Int) + costs _))
            rw [xz]
            congr 1
            omega
          · have hno : frame1 (b.extract at_ b.size) = none := by
              refine frame1_not _ (by omega) (fun s hs e => ?_)
              have e1 := congrArg ByteArray.size e
              rw [frameT_size] at e1
              have e3 : 20 + s.size ≤ (b.extract at_ b.size).size := by
                have := extract_size_le (b.extract at_ b.size) (20 + s.size)
                omega
              have hb3 : b.extract at_ b.size = frameT s ++ (b.extract at_ b.size).extract (20 + s.size) (b.extract at_ b.size).size := by rw [e, ex_split]
              have h1 : frame1 (b.extract at_ b.size) = some s := by
                conv => lhs; rw [hb3]
                exact frame1_hit _ _ hs
              have e4 : numT (b.extract at_ b.size) = (s.size : Int) := by
                rw [← numT_leadB s.size (by omega)]
                refine numT_congr _ _ (by omega) (by rw [leadB_size]; omega) ?_
                rw [← ex_ex (b.extract at_ b.size) (20 + s.size) 4 (by omega), ← e]
                have := sealT_prefix (leadB (s.size : Int))
                rw [leadB_size] at this
                unfold frameT
                rw [ex_left _ _ _ (by rw [sealT_size, leadB_size]; omega), this]
                have := ex_all (leadB (s.size : Int))
                rw [leadB_size] at this
                exact this.symm
              have hsn : s.size = n := by omega
              subst hsn
              refine he (ba_inj.2 ?_)
              have e5 : (b.extract at_ b.size).extract 12 (12 + s.size) = s := by
                have := ex_exm (b.extract at_ b.size) 12 (20 + s.size) s.size (by omega)
                rw [← this]
                have e6 : (b.extract at_ b.size).extract 12 (20 + s.size) = sealT s := by
                  rw [hb3]
                  have l1 : (sealT (leadB (s.size : Int))).size = 12 := by rw [sealT_size, leadB_size]
                  have l2 : (sealT s).size = s.size + 8 := sealT_size s
                  unfold frameT
                  rw [ba_assoc, ex_right _ _ _ _ (by omega), l1, Nat.sub_self, ex_left _ _ _ (by omega), show 20 + s.size - 12 = (sealT s).size by omega, ex_all]
                rw [e6, sealT_prefix]
              rw [e5]
              exact e
            rw [scanT_none _ hno]
            exact Ev.const (by simp [costs])
      rw [hn]
      refine Ev.pos (by omega) (Ev.pos (by omega) (Ev.pos (by omega) (Ev.pos (by omega) (Ev.pos (by omega) (Ev.pos (by omega) (Ev.pos (by omega) (Ev.pos (by omega) (Ev.ite (fun hg => ?_) (fun hg => ?_)))))))))
      · have : decide (262144 < n ∨ b.size - at_ < 20 + n) = true := decide_eq_true (.inl (by omega))
        rw [this] at key
        exact key
      · have v5 : wrap64 (20 + (n : Int)) = ((20 + n : Nat) : Int) := by unfold wrap64; omega
        rw [v5]
        clear v5
        have : decide (((b.size - at_ : Nat) : Int) < ((20 + n : Nat) : Int)) = decide (262144 < n ∨ b.size - at_ < 20 + n) := by
          rw [decide_eq_decide]; omega
        rw [this]
        exact key
theorem refscan_ev (b : ByteArray) (hb : b.size ≤ 20000) : Ev (fun n => forebayref06_Scan.f n b) (scanT b, costs (scanT b)) := by
  have := refscan_l b hb (b.size + 1) 0 [] (by omega) (by omega) (by simp; omega)
  have e : b.extract 0 b.size = b := ex_all b
  rw [e] at this
  refine Ev.eq this ?_
  simp

end Go.Proofs.Ytdhnlcbijefinaa.Pure
