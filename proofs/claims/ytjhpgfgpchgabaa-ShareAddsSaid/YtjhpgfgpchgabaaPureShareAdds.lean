/- ShareAdds: what two add does not hang on the order; a user's use is the sum. -/
import Derived.Test.YtjhpgfgpchgabaaShareAdd
namespace Go.Proofs.Ytjhpgfgpchgabaa.Pure
open Go.RowKit Go.Proofs.Ytjhpgfgpchgabaa.P Go.Proofs.YtjhpgfgpchgabaaW.PrintWords Go.Proofs.YtjhpgfgpchgabaaW.PrintLast
set_option linter.unusedVariables false
set_option linter.unusedSimpArgs false

theorem mn_T (x : Int) : mn x 1099511627776 = mnT x := by unfold mn mnT; (repeat' split) <;> omega
/-- Both orders. -/
theorem two_adds {l : List Sh} (h : Good l) (hl : l.length ≤ 90) {a b : ByteArray} {m n : Int} (ha : nameP a = true) (hb : nameP b = true) (hm : quantP m = true) (hn : quantP n = true) :
    Good (addL (addL l a m) b n) ∧ addL (addL l a m) b n = addL (addL l b n) a m ∧
    useL (addL (addL l a m) b n) a = mnT (if a.toList = b.toList then useL l a + m + n else useL l a + m) ∧
    (¬ a.toList = b.toList → useL (addL (addL l a m) b n) b = mnT (useL l b + n)) := by
  have hm' : 0 ≤ m ∧ m ≤ 1099511627776 := by unfold quantP at hm; simpa using hm
  have hn' : 0 ≤ n ∧ n ≤ 1099511627776 := by unfold quantP at hn; simpa using hn
  have g1 := add_good h hm ha (by omega)
  have g2 := add_good h hn hb (by omega)
  have l1 := addL_len l a m
  have l2 := addL_len l b n
  have g3 := add_good g1 hn hb (by omega)
  have g4 := add_good g2 hm ha (by omega)
  have u1 := useL_addL (u := a) h.sorted h.fine hm'.1 hm'.2
  have u2 := useL_addL (u := b) h.sorted h.fine hn'.1 hn'.2
  have u3 := useL_addL (u := b) g1.sorted g1.fine hn'.1 hn'.2
  have u4 := useL_addL (u := a) g2.sorted g2.fine hm'.1 hm'.2
  have ra := useL_rng h.fine a
  have rb := useL_rng h.fine b
  have key : ∀ p q : Int, 0 ≤ p → 0 ≤ q → ∀ x : Int, 0 ≤ x → mnT (mnT (x + p) + q) = mnT (x + p + q) := by
    intro p q hp hq x hx
    unfold mnT
    (repeat' split) <;> omega
  refine ⟨g3, use_ext g3.sorted g4.sorted (fun x hx => (g3.fine x hx).2.1) (fun x hx => (g4.fine x hx).2.1) fun v => ?_, ?_, fun hne => ?_⟩
  · rw [u3, u4, u1, u2, u1, u2]
    by_cases hab : a.toList = b.toList
    · have : a = b := ba_inj.1 hab
      subst this
      rw [if_pos rfl, if_pos rfl]
      by_cases hv : a.toList = v.toList
      · rw [if_pos hv, if_pos hv, key m n hm'.1 hn'.1 _ ra.1, key n m hn'.1 hm'.1 _ ra.1, Int.add_right_comm]
      · rw [if_neg hv, if_neg hv, if_neg hv, if_neg hv]
    · have hba : ¬ b.toList = a.toList := fun e => hab e.symm
      by_cases hbv : b.toList = v.toList
      · have hav : ¬ a.toList = v.toList := fun e => hab (e.trans hbv.symm)
        simp only [eq_true hbv, eq_false hav, eq_false hab, eq_false hba, if_true, if_false]
      · by_cases hav : a.toList = v.toList
        · simp only [eq_false hbv, eq_true hav, eq_false hab, eq_false hba, if_true, if_false]
        · simp only [eq_false hbv, eq_false hav, eq_false hab, eq_false hba, if_true, if_false]
  · rw [u3]
    by_cases hab : a.toList = b.toList
    · have : a = b := ba_inj.1 hab
      subst this
      rw [if_pos rfl, if_pos rfl, u1, if_pos rfl, key m n hm'.1 hn'.1 _ ra.1]
    · rw [if_neg (fun e => hab e.symm), if_neg hab, u1, if_pos rfl]
  · rw [u3, if_pos rfl, u1, if_neg hne]
theorem adds_head (k : Nat) (l : List Sh) (a b : ByteArray) (m n : Int) : forebaylaw24_ShareAdds.j0 (k + 1) l a b m n true = some true := by
  rw [forebaylaw24_ShareAdds.j0, if_pos rfl, head_true]
  rfl
theorem add_f {l : List Sh} (hl : l.length ≤ 900000) (u : ByteArray) (n : Int) : share_Add.f l u n = some (addR l u n) := by unfold share_Add.f; rw [if_pos hl]
theorem of_f {l : List Sh} (hl : l.length ≤ 1000000) (u : ByteArray) : share_Of.f l u = some (ofT l u) := by unfold share_Of.f; rw [if_pos hl]
theorem addR_len (l : List Sh) (u : ByteArray) (n : Int) : (addR l u n).1.length ≤ l.length + 1 := by
  unfold addR
  have hf : ∀ m : List Sh, ∀ i, ((addAt m i n).filter usedP).length ≤ m.length := fun m i => by
    have := List.length_filter_le usedP (addAt m i n)
    unfold addAt at *
    rw [List.length_set] at this
    exact this
  split
  · split
    · split
      · split
        · have := hf l (placeI l u)
          show ((addAt l (placeI l u) n).filter usedP).length ≤ _
          omega
        · split
          · simp
          · have := hf (l.take (placeI l u) ++ ⟨u, 0⟩ :: l.drop (placeI l u)) (placeI l u)
            have h2 : (l.take (placeI l u) ++ (⟨u, 0⟩ : Sh) :: l.drop (placeI l u)).length = l.length + 1 := by
              have := halfT_le l u
              simp
              omega
            show ((addAt _ _ n).filter usedP).length ≤ _
            omega
      · simp
    · simp
  · simp
theorem adds_j0 {l : List Sh} (hl : l.length ≤ 90) (a b : ByteArray) (m n : Int) : Ev (fun k => forebaylaw24_ShareAdds.j0 k l a b m n false) true := by
  refine Ev.succ ?_
  simp only [forebaylaw24_ShareAdds.j0]
  refine Ev.neg (by simp) ?_
  have l1 := addR_len l a m
  have l2 := addR_len l b n
  refine Ev.eq_bind (add_f (by omega) a m) (Ev.eq_bind (add_f (by omega) b n) (Ev.eq_bind (add_f (by omega) b n) (Ev.eq_bind (add_f (by omega) a m) ?_)))
  have bad : ∀ x y, Ev (fun k => forebaylaw24_ShareAdds.j1 k l a b m n x y true) true := fun x y => by
    refine Ev.succ ?_
    simp only [forebaylaw24_ShareAdds.j1]
    exact Ev.pos trivial (Ev.const (by rw [head_true]; rfl))
  by_cases h1 : (addR l a m).2 = 0
  case neg => exact Ev.neg h1 (bad _ _)
  refine Ev.pos h1 ?_
  obtain ⟨g, hm, ha, e1⟩ := add_ok h1
  rw [e1]
  by_cases h2 : (addR (addL l a m) b n).2 = 0
  case neg => exact Ev.neg h2 (bad _ _)
  refine Ev.pos h2 ?_
  obtain ⟨g1, hn, hb, e2⟩ := add_ok h2
  by_cases h3 : (addR l b n).2 = 0
  case neg => exact Ev.neg h3 (bad _ _)
  refine Ev.pos h3 ?_
  obtain ⟨_, _, _, e3⟩ := add_ok h3
  rw [e2, e3]
  by_cases h4 : (addR (addL l b n) a m).2 = 0
  case neg =>
    rw [show ((addR (addL l b n) a m).2 != 0) = true by simpa using h4]
    exact bad _ _
  obtain ⟨_, _, _, e4⟩ := add_ok h4
  rw [e4]
  obtain ⟨gx, exy, ua, ub⟩ := two_adds g hl ha hb hm hn
  have hm' : 0 ≤ m ∧ m ≤ 1099511627776 := by unfold quantP at hm; simpa using hm
  have hn' : 0 ≤ n ∧ n ≤ 1099511627776 := by unfold quantP at hn; simpa using hn
  have ra := useL_rng g.fine a
  have rb := useL_rng g.fine b
  refine Ev.succ ?_
  simp only [forebaylaw24_ShareAdds.j1]
  refine Ev.neg (by simp) (Ev.eq_bind (of_f (by omega) a) ?_)
  rw [of_eq g, ← exy]
  have hxl := gx.len
  have fin : ∀ x, x = (if a.toList = b.toList then useL l a + m + n else useL l a + m) → Ev (fun k => forebaylaw24_ShareAdds.j2 k l a b n (addL (addL l a m) b n) (addL (addL l a m) b n) x) true := by
    intro x hx
    refine Ev.succ ?_
    simp only [forebaylaw24_ShareAdds.j2]
    refine Ev.bind (same_same _ (by omega)) (Ev.pos rfl (Ev.eq_bind (of_f (by omega) a) (Ev.pos (by rw [of_eq gx, ua, mn_T, hx]) ?_)))
    have hck : share_Check.f (addL (addL l a m) b n) = some 0 := by unfold share_Check.f; rw [if_pos (by omega), ok_true gx]; rfl
    have done : Ev (fun _ => (share_Check.f (addL (addL l a m) b n)).bind fun t => if t = 0 then (forebaylaw24_head.f).bind fun t2 => some t2 else some false) true := Ev.const (by rw [hck, head_true]; rfl)
    by_cases hab : a.toList = b.toList
    · exact Ev.pos hab done
    · refine Ev.neg hab (Ev.eq_bind (of_f (by omega) b) (Ev.eq_bind (of_f (by omega) b) (Ev.pos ?_ done)))
      rw [of_eq gx, of_eq g, ub hab, mn_T]
      congr 1
      unfold wrap64
      omega
  by_cases hab : a.toList = b.toList
  · refine Ev.pos hab (fin _ ?_)
    rw [if_pos hab]
    unfold wrap64
    omega
  · refine Ev.neg hab (fin _ ?_)
    rw [if_neg hab]
    unfold wrap64
    omega
theorem ShareAdds : forebaylaw24_ShareAdds.Pure := by
  intro l a b m n _
  refine Ev.rounds ?_
  unfold forebaylaw24_ShareAdds.f
  have bad : Ev (fun k => forebaylaw24_ShareAdds.j0 k l a b m n true) true := ⟨1, fun k hk => by obtain ⟨k, rfl⟩ : ∃ j, k = j + 1 := ⟨k - 1, by omega⟩; exact adds_head k l a b m n⟩
  unfold forebaylaw24_great.f
  by_cases h1 : (l.length : Int) > 120
  · rw [if_pos h1]
    exact Ev.some_bind (Ev.pos rfl bad)
  rw [if_neg h1]
  refine Ev.some_bind ?_
  by_cases h2 : (a.size : Int) > 100
  · exact Ev.pos (by simpa using h2) bad
  refine Ev.neg (by simpa using h2) ?_
  by_cases h3 : (b.size : Int) > 100
  · exact Ev.pos h3 bad
  refine Ev.neg h3 ?_
  by_cases h4 : (l.length : Int) > 90
  · rw [decide_eq_true h4]
    exact bad
  · rw [decide_eq_false h4]
    exact adds_j0 (by omega) a b m n
end Go.Proofs.Ytjhpgfgpchgabaa.Pure
