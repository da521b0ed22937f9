/- LanesEven: for all totals and wants, of up to 59 wants that are all the same the shares differ by at most 1, the first ones having more, and the share of a share, of what it is together, is itself. No condition. -/
import Derived.Test.YtikiopnebncfeaaLanes
namespace Go.Proofs.Ytikiopnebncfeaa.Pure
open Go.RowKit Go.Proofs.Ytikiopnebncfeaa.P Go.Proofs.YtikiopnebncfeaaW.PrintWords Go.Proofs.YtikiopnebncfeaaW.PrintLast
set_option linter.unusedVariables false
set_option linter.unusedSimpArgs false

theorem ints_l (a b : List Int) (hl : a.length = b.length) (h60 : a.length ≤ 1000) (he : a = b) (d : Nat) : ∀ i : Nat, i + d = a.length → Ev (fun k => forebayref17_Ints.l0 k a b i) true := by
  subst he
  induction d with
  | zero =>
    intro i hi
    refine Ev.succ ?_
    simp only [forebayref17_Ints.l0]
    exact Ev.neg (by omega) (Ev.const rfl)
  | succ d ih =>
    intro i hi
    refine Ev.succ ?_
    simp only [forebayref17_Ints.l0]
    rw [show wrap64 ((i : Int) + 1) = ((i + 1 : Nat) : Int) by unfold wrap64; omega]
    exact Ev.pos (by omega) (Ev.pos (by omega) (Ev.pos (by omega) (Ev.pos (by trivial) (ih _ (by omega)))))
theorem ints_self (a : List Int) (h : a.length ≤ 1000) : Ev (fun k => forebayref17_Ints.f k a a) true := by
  unfold forebayref17_Ints.f
  exact Ev.pos rfl (ints_l a a rfl h rfl a.length 0 (by omega))
theorem fill_l (t want : Int) (k : Nat) (hk : k < 60) (d : Nat) : ∀ (i : Nat) (l : List Int), i + d = k → l = List.replicate i want ++ List.replicate d 0 →
    Ev (fun n => (lanes_Split.f t (List.replicate k want)).bind fun bt166 => (if bt166.2 = 0 then (forebaylaw18_LanesEven.j1 n t k bt166.1 bt166.2 ((k : Int) == 0)) else (forebaylaw18_LanesEven.j1 n t k bt166.1 bt166.2 true))) true →
    Ev (fun n => forebaylaw18_LanesEven.l0 n t want k l i) true := by
  induction d with
  | zero =>
    intro i l hi hl hend
    obtain rfl : i = k := by omega
    rw [List.replicate_zero, List.append_nil] at hl
    subst hl
    refine Ev.succ ?_
    simp only [forebaylaw18_LanesEven.l0]
    exact Ev.neg (by omega) hend
  | succ d ih =>
    intro i l hi hl hend
    have hlen : l.length = k := by rw [hl]; simp; omega
    refine Ev.succ ?_
    simp only [forebaylaw18_LanesEven.l0]
    rw [show wrap64 ((i : Int) + 1) = ((i + 1 : Nat) : Int) by unfold wrap64; omega, Int.toNat_natCast]
    refine Ev.pos (by omega) (Ev.pos (by omega) (Ev.pos (by omega) (ih (i + 1) _ (by omega) ?_ hend)))
    subst hl
    rw [List.set_append_right _ _ (by simp), List.length_replicate, Nat.sub_self, List.replicate_succ, List.set_cons_zero, List.replicate_succ', List.append_assoc]
    rfl
theorem share_self {a : List Int} (hlen : a.length ≤ 1000) (hq : ∀ x ∈ a, 0 ≤ x ∧ x ≤ 1099511627776) (hs : a.sum ≤ 1099511627776) (hs0 : 0 ≤ a.sum) : splitT a.sum a = (a, 0) := by
  have hg : Good a.sum a := ⟨hlen, hs0, hs, hq⟩
  rw [split_good hg]
  have p := hgt_prop hg
  have htop : hgt a.sum a = 1099511627776 := by
    rcases p.2.2.2 with h | h
    · exact h
    · have := takesT_le_sum (h := hgt a.sum a + 1) a; omega
  rw [htop]
  congr 1
  have key : ∀ (l : List Int) (left : Int), (∀ x ∈ l, 0 ≤ x ∧ x ≤ 1099511627776) → outT 1099511627776 left l = l := by
    intro l
    induction l with
    | nil => intro _ _; rfl
    | cons b t ih =>
      intro left hl
      have hb := hl b List.mem_cons_self
      rw [outT_step, if_neg (by omega), ih _ (fun x hx => hl x (List.mem_cons_of_mem _ hx))]
      congr 1
      unfold mn; rw [if_neg (by omega)]
  exact key a _ hq
theorem even_l1 (t : Int) (k : Nat) (a : List Int) (hk : k < 60) (hal : a.length = k) (ht : t ≤ 1099511627776) (hq : ∀ x ∈ a, 0 ≤ x ∧ x ≤ 1099511627776) (hsum : a.sum ≤ t) (hmono : ∀ i, i + 1 < a.length → a.getD (i + 1) 0 ≤ a.getD i 0) (d : Nat) : ∀ (i : Nat), i + d = k →
    Ev (fun n => forebaylaw18_LanesEven.l1 n t k a (a.take i).sum i) true := by
  have hsnn : ∀ l : List Int, (∀ x ∈ l, 0 ≤ x ∧ x ≤ 1099511627776) → 0 ≤ l.sum ∧ l.sum ≤ 1099511627776 * l.length := by
    intro l
    induction l with
    | nil => intro _; simp
    | cons b r ih =>
      intro hl
      have hb := hl b List.mem_cons_self
      have := ih (fun x hx => hl x (List.mem_cons_of_mem _ hx))
      rw [List.sum_cons, List.length_cons]
      omega
  induction d with
  | zero =>
    intro i hi
    obtain rfl : i = k := by omega
    have hs := hsnn a hq
    refine Ev.succ ?_
    simp only [forebaylaw18_LanesEven.l1]
    rw [List.take_of_length_le (by omega)]
    refine Ev.neg (by omega) ?_
    have hm : mn a.sum 1099511627776 = a.sum := by unfold mn; rw [if_neg (by omega)]
    rw [hm]
    refine Ev.eq_bind (a := (a, 0)) (congrArg some (share_self (by omega) hq (by omega) hs.1)) (Ev.pos hsum (Ev.pos rfl (Ev.bind (ints_self a (by omega)) (Ev.pos rfl (Ev.bind head_ends (Ev.const rfl))))))
  | succ d ih =>
    intro i hi
    have hil : i < a.length := by omega
    have hx := hq (a.getD i 0) (by rw [List.getD_eq_getElem?_getD, List.getElem?_eq_getElem hil]; exact List.getElem_mem hil)
    have hs := hsnn (a.take i) (fun x hx => hq x (List.mem_of_mem_take hx))
    have hs2 : (a.take i).length ≤ 60 := by rw [List.length_take]; omega
    have hst : (a.take (i + 1)).sum = (a.take i).sum + a.getD i 0 := by
      rw [List.take_succ_eq_append_getElem hil, List.sum_append, List.getD_eq_getElem?_getD, List.getElem?_eq_getElem hil]
      simp
    have hr : rd a (i : Int) = a.getD i 0 := by simp [rd]
    refine Ev.succ ?_
    simp only [forebaylaw18_LanesEven.l1]
    rw [show wrap64 ((i : Int) + 1) = ((i + 1 : Nat) : Int) by unfold wrap64; omega, hr, show wrap64 ((a.take i).sum + a.getD i 0) = (a.take (i + 1)).sum by rw [hst]; unfold wrap64; omega]
    refine Ev.pos (by omega) (Ev.pos (by omega) (Ev.pos (by omega) (Ev.ite (fun h0 => ?_) (fun _ => ih _ (by omega)))))
    obtain ⟨j, rfl⟩ : ∃ j, i = j + 1 := ⟨i - 1, by omega⟩
    have hw : wrap64 (((j + 1 : Nat) : Int) - 1) = (j : Int) := by unfold wrap64; omega
    rw [hw]
    have hr2 : rd a (j : Int) = a.getD j 0 := by simp [rd]
    rw [hr2]
    exact Ev.pos (by omega) (Ev.pos (by omega) (Ev.neg (by have := hmono j (by omega); omega) (ih _ (by omega))))

theorem LanesEven : forebaylaw18_LanesEven.Pure := by
  intro t want n _ _ hn
  have hn' := wf_u8 hn
  refine Ev.rounds (g := fun k => forebaylaw18_LanesEven.f k t want n) ?_
  unfold forebaylaw18_LanesEven.f
  have hw : wrap64 (Int.tmod n 60) = n % 60 := by rw [Int.tmod_eq_emod_of_nonneg hn'.1]; unfold wrap64; omega
  obtain ⟨k, hk⟩ : ∃ k : Nat, n % 60 = k := ⟨(n % 60).toNat, by omega⟩
  rw [hw, hk, Int.toNat_natCast]
  have hk60 : k < 60 := by omega
  refine Ev.pos (by omega) (Ev.pos (by omega) (fill_l t want k hk60 k 0 _ (by omega) (by simp) ?_))
  refine Ev.eq_bind (a := splitT t (List.replicate k want)) rfl ?_
  rcases good_or t (List.replicate k want) with hg | ⟨hg, e⟩
  · rw [split_good hg]
    refine Ev.pos (by trivial) ?_
    show Ev (fun n => forebaylaw18_LanesEven.j1 n t k (share t (List.replicate k want)) 0 ((k : Int) == 0)) true
    have hlen : (share t (List.replicate k want)).length = k := by rw [share_len, List.length_replicate]
    refine Ev.succ ?_
    simp only [forebaylaw18_LanesEven.j1]
    refine Ev.ite (fun h0 => Ev.pos (by trivial) (Ev.pos ?_ (Ev.bind head_ends (Ev.const rfl)))) (fun h0 => ?_)
    · have : (k : Int) = 0 := by simpa using h0
      omega
    · have hk0 : 0 < k := by
        rcases Nat.eq_zero_or_pos k with h | h
        · subst h; simp at h0
        · exact h
      have p := hgt_prop hg
      have hgw : ∀ i, i < k → (List.replicate k want).getD i 0 = want := fun i hi => by rw [List.getD_eq_getElem?_getD, List.getElem?_replicate, if_pos hi]; rfl
      have hget : ∀ i, i < k → (share t (List.replicate k want)).getD i 0 = mn want (hgt t (List.replicate k want)) + if hgt t (List.replicate k want) < want ∧ (if hgt t (List.replicate k want) < want then (i : Int) else 0) < t - takesT (List.replicate k want) (hgt t (List.replicate k want)) then 1 else 0 := by
        intro i hi
        rw [share_get _ _ _ (by rw [List.length_replicate]; exact hi), hgw i hi, List.take_replicate, Nat.min_eq_left (by omega)]
        have hc : cntT (hgt t (List.replicate k want)) (List.replicate i want) = if hgt t (List.replicate k want) < want then (i : Int) else 0 := by
          generalize hgt t (List.replicate k want) = H
          clear hi
          induction i with
          | zero => simp [cntT]
          | succ i ih => rw [List.replicate_succ, cntT, ih]; split <;> omega
        rw [hc]
      have hmono : ∀ i j, i ≤ j → j < k → (share t (List.replicate k want)).getD j 0 ≤ (share t (List.replicate k want)).getD i 0 := by
        intro i j hij hj
        rw [hget i (by omega), hget j hj]
        split <;> split <;> (try split at *) <;> omega
      have hone : ∀ i j, i < k → j < k → (share t (List.replicate k want)).getD i 0 ≤ (share t (List.replicate k want)).getD j 0 + 1 := by
        intro i j hi hj
        rw [hget i hi, hget j hj]
        split <;> split <;> omega
      have hq : ∀ x ∈ share t (List.replicate k want), 0 ≤ x ∧ x ≤ 1099511627776 := by
        intro x hx
        obtain ⟨i, hi, rfl⟩ := List.getElem_of_mem hx
        have r := share_rng hg i (by rw [List.length_replicate]; omega)
        rw [hgw i (by omega)] at r
        have hwq := hg.2.2.2 want (List.mem_replicate.2 ⟨by omega, rfl⟩)
        rw [List.getD_eq_getElem?_getD, List.getElem?_eq_getElem hi] at r
        exact ⟨r.1, Int.le_trans r.2 hwq.2⟩
      have hsum : (share t (List.replicate k want)).sum ≤ t := by
        have := outT_sum (hgt t (List.replicate k want)) (List.replicate k want) (t - takesT (List.replicate k want) (hgt t (List.replicate k want))) (by omega)
        unfold share
        omega
      generalize share t (List.replicate k want) = a at *
      have q0 := hq (a.getD 0 0) (by rw [List.getD_eq_getElem?_getD, List.getElem?_eq_getElem (by omega)]; exact List.getElem_mem _)
      have q1 := hq (a.getD (k - 1) 0) (by rw [List.getD_eq_getElem?_getD, List.getElem?_eq_getElem (by omega)]; exact List.getElem_mem _)
      have hw1 : wrap64 ((k : Int) - 1) = ((k - 1 : Nat) : Int) := by unfold wrap64; omega
      have hr0 : rd a 0 = a.getD 0 0 := rfl
      have hr1 : rd a ((k - 1 : Nat) : Int) = a.getD (k - 1) 0 := by simp [rd]
      rw [hw1, hr0, hr1, show wrap64 (a.getD 0 0 - a.getD (k - 1) 0) = a.getD 0 0 - a.getD (k - 1) 0 by unfold wrap64; omega]
      have o1 := hone 0 (k - 1) (by omega) (by omega)
      have o2 := hmono 0 (k - 1) (by omega) (by omega)
      refine Ev.pos (by omega) (Ev.pos (by omega) (Ev.pos (by omega) (Ev.pos (by omega) (Ev.neg (by omega) ?_))))
      rw [decide_eq_false (show ¬ a.getD 0 0 < a.getD (k - 1) 0 by omega)]
      refine Ev.succ ?_
      simp only [forebaylaw18_LanesEven.j2]
      refine Ev.neg (by simp) ?_
      exact even_l1 t k a hk60 hlen hg.2.2.1 hq hsum (fun i hi => hmono i (i + 1) (by omega) (by omega)) k 0 (by omega)
  · rw [e]
    refine Ev.neg (by decide) (Ev.succ ?_)
    simp only [forebaylaw18_LanesEven.j1]
    exact Ev.pos (by trivial) (Ev.neg (by decide) (Ev.pos (by trivial) (Ev.pos (by trivial) (Ev.bind head_ends (Ev.const rfl)))))

end Go.Proofs.Ytikiopnebncfeaa.Pure
