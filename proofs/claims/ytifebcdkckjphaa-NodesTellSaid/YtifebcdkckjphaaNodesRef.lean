/- The document's answer for nodes: what each of its functions comes to. -/
import Derived.Test.YtifebcdkckjphaaPx9
import Derived.Test.YtifebcdkckjphaaEv
namespace Go.Proofs.Ytifebcdkckjphaa.Pure
open Go.RowKit Go.Proofs.Ytifebcdkckjphaa.P Go.Proofs.YtifebcdkckjphaaW.PrintWords Go.Proofs.YtifebcdkckjphaaW.PrintLast
set_option linter.unusedVariables false
set_option linter.unusedSimpArgs false

theorem wrap_succ (i : Nat) (h : i ≤ 1000000) : wrap64 ((i : Int) + 1) = ((i + 1 : Nat) : Int) := by unfold wrap64; omega
theorem rd_node (l : List S35) (i : Nat) : rd_T35 l (i : Int) = l.getD i z35 := by simp [rd_T35]
theorem ev_check (l : List S35) : Ev (fun k => forebayref20_Check.f k l) (if okNodes l then 0 else 2) := ⟨70, fun k hk => by
  obtain ⟨e, rfl⟩ : ∃ e, k = 70 + e := ⟨k - 70, by omega⟩
  exact refCheck_eq l e⟩
theorem ok_len {l : List S35} (h : okNodes l = true) : 1 ≤ l.length ∧ l.length ≤ 64 := by
  unfold okNodes at h
  simp only [Bool.and_eq_true, decide_eq_true_eq] at h
  exact h.1
theorem ints_l (l : List Int) (hl : l.length ≤ 1000) (d : Nat) : ∀ i : Nat, i + d = l.length → Ev (fun k => forebayref20_Ints.l0 k l l (i : Int)) true := by
  induction d with
  | zero =>
    intro i hi
    refine Ev.succ ?_
    simp only [forebayref20_Ints.l0]
    exact Ev.neg (by omega) (Ev.now _)
  | succ d ih =>
    intro i hi
    refine Ev.succ ?_
    simp only [forebayref20_Ints.l0]
    rw [wrap_succ i (by omega)]
    exact Ev.pos (by omega) (Ev.pos (by omega) (Ev.pos (by omega) (Ev.pos trivial (ih (i + 1) (by omega)))))
theorem ints_same (l : List Int) (hl : l.length ≤ 1000) : Ev (fun k => forebayref20_Ints.f k l l) true := by
  unfold forebayref20_Ints.f
  exact Ev.pos rfl (ints_l l hl l.length 0 (by omega))
theorem same_l (l : List S35) (hl : l.length ≤ 1000) (d : Nat) : ∀ i : Nat, i + d = l.length → Ev (fun k => forebayref20_Same.l0 k l l (i : Int)) true := by
  induction d with
  | zero =>
    intro i hi
    refine Ev.succ ?_
    simp only [forebayref20_Same.l0]
    exact Ev.neg (by omega) (Ev.now _)
  | succ d ih =>
    intro i hi
    refine Ev.succ ?_
    simp only [forebayref20_Same.l0]
    rw [wrap_succ i (by omega)]
    exact Ev.pos (by omega) (Ev.pos (by omega) (Ev.pos (by omega) (Ev.neg (by simp) (ih (i + 1) (by omega)))))
theorem same_same (l : List S35) (hl : l.length ≤ 1000) : Ev (fun k => forebayref20_Same.f k l l) true := by
  unfold forebayref20_Same.f
  exact Ev.pos rfl (same_l l hl l.length 0 (by omega))
theorem posU_len (p : S35 → Bool) (l : List S35) (i : Nat) : (posU p l i).length ≤ i := by
  unfold posU
  rw [List.length_map]
  exact Nat.le_trans (List.length_filter_le _ _) (by rw [List.length_range]; exact Nat.le_refl _)
theorem posU_lt {p : S35 → Bool} {l : List S35} {i : Nat} {x : Int} (h : x ∈ posU p l i) : ∃ j : Nat, x = (j : Int) ∧ j < i ∧ p (l.getD j z35) = true := by
  unfold posU at h
  obtain ⟨j, hj, rfl⟩ := List.mem_map.1 h
  obtain ⟨h1, h2⟩ := List.mem_filter.1 hj
  exact ⟨j, rfl, List.mem_range.1 h1, h2⟩
theorem posU_yes {p : S35 → Bool} {l : List S35} {i : Nat} (h : p (l.getD i z35) = true) : posU p l (i + 1) = posU p l i ++ [(i : Int)] := by rw [posU_succ, if_pos h]
theorem posU_no {p : S35 → Bool} {l : List S35} {i : Nat} (h : p (l.getD i z35) = false) : posU p l (i + 1) = posU p l i := by rw [posU_succ, h]; simp
theorem posT_yes {p : S35 → Bool} {l : List S35} (h : okNodes l = true) : posT p l = posU p l l.length := by unfold posT; rw [if_pos h]
theorem posT_no {p : S35 → Bool} {l : List S35} (h : okNodes l = false) : posT p l = [] := by unfold posT; rw [h]; rfl
theorem free_l (l : List S35) (hk : okNodes l = true) (d : Nat) : ∀ i : Nat, i + d = l.length → Ev (fun k => forebayref20_Free.l0 k l ((posU freeP l i).length : Int) (i : Int)) ((posU freeP l l.length).length : Int) := by
  have hl := ok_len hk
  have hck := ev_check l
  rw [if_pos hk] at hck
  induction d with
  | zero =>
    intro i hi
    obtain rfl : i = l.length := by omega
    refine Ev.succ ?_
    simp only [forebayref20_Free.l0]
    refine Ev.neg (by omega) (Ev.succ ?_)
    simp only [forebayref20_Free.j1]
    exact Ev.neg (by simp) (Ev.now _)
  | succ d ih =>
    intro i hi
    have h1 := posU_len freeP l i
    have h2 := ih (i + 1) (by omega)
    refine Ev.succ ?_
    simp only [forebayref20_Free.l0]
    refine Ev.pos (by omega) (Ev.bind hck (Ev.succ ?_))
    simp only [forebayref20_Free.j1]
    rw [rd_node, wrap_succ i (by omega), wrap_succ _ (by omega)]
    refine Ev.pos rfl (Ev.pos (by omega) (Ev.pos (by omega) ?_))
    cases hp : freeP (l.getD i z35) with
    | true =>
      rw [posU_yes hp, List.length_append, List.length_singleton] at h2
      generalize l.getD i z35 = x at *
      obtain ⟨a, b, c⟩ := x
      unfold freeP usableP at hp
      simp only [Bool.and_eq_true, beq_iff_eq] at hp
      exact Ev.pos hp.1.1 (Ev.pos hp.1.2 (Ev.pos hp.2 h2))
    | false =>
      rw [posU_no hp] at h2
      generalize l.getD i z35 = x at *
      obtain ⟨a, b, c⟩ := x
      refine Ev.ite (fun ha => Ev.ite (fun hb => Ev.ite (fun hc => ?_) (fun _ => h2)) (fun _ => h2)) (fun _ => h2)
      simp [freeP, usableP, ha, hb, hc] at hp
      simp_all
theorem usable_l (l : List S35) (hk : okNodes l = true) (d : Nat) : ∀ i : Nat, i + d = l.length → Ev (fun k => forebayref20_Usable.l0 k l ((posU usableP l i).length : Int) (i : Int)) ((posU usableP l l.length).length : Int) := by
  have hl := ok_len hk
  have hck := ev_check l
  rw [if_pos hk] at hck
  induction d with
  | zero =>
    intro i hi
    obtain rfl : i = l.length := by omega
    refine Ev.succ ?_
    simp only [forebayref20_Usable.l0]
    refine Ev.neg (by omega) (Ev.succ ?_)
    simp only [forebayref20_Usable.j1]
    exact Ev.neg (by simp) (Ev.now _)
  | succ d ih =>
    intro i hi
    have h1 := posU_len usableP l i
    have h2 := ih (i + 1) (by omega)
    refine Ev.succ ?_
    simp only [forebayref20_Usable.l0]
    refine Ev.pos (by omega) (Ev.bind hck (Ev.succ ?_))
    simp only [forebayref20_Usable.j1]
    rw [rd_node, wrap_succ i (by omega), wrap_succ _ (by omega)]
    refine Ev.pos rfl (Ev.pos (by omega) (Ev.pos (by omega) ?_))
    cases hp : usableP (l.getD i z35) with
    | true =>
      rw [posU_yes hp, List.length_append, List.length_singleton] at h2
      generalize l.getD i z35 = x at *
      obtain ⟨a, b, c⟩ := x
      unfold usableP at hp
      simp only [Bool.and_eq_true] at hp
      exact Ev.pos hp.1 (Ev.pos hp.2 h2)
    | false =>
      rw [posU_no hp] at h2
      generalize l.getD i z35 = x at *
      obtain ⟨a, b, c⟩ := x
      refine Ev.ite (fun ha => Ev.ite (fun hb => ?_) (fun _ => h2)) (fun _ => h2)
      simp_all [usableP]
theorem ref_free (l : List S35) : Ev (fun k => forebayref20_Free.f k l) ((posT freeP l).length : Int) := by
  unfold forebayref20_Free.f
  cases hk : okNodes l with
  | true => rw [posT_yes hk]; exact free_l l hk l.length 0 (by omega)
  | false =>
    rw [posT_no hk]
    have hck := ev_check l
    rw [hk] at hck
    refine Ev.succ ?_
    simp only [forebayref20_Free.l0]
    refine Ev.ite (fun _ => Ev.bind hck (Ev.succ ?_)) (fun _ => Ev.succ ?_)
    all_goals (simp only [forebayref20_Free.j1]; exact Ev.neg (by simp) (Ev.now _))
theorem ref_usable (l : List S35) : Ev (fun k => forebayref20_Usable.f k l) ((posT usableP l).length : Int) := by
  unfold forebayref20_Usable.f
  cases hk : okNodes l with
  | true => rw [posT_yes hk]; exact usable_l l hk l.length 0 (by omega)
  | false =>
    rw [posT_no hk]
    have hck := ev_check l
    rw [hk] at hck
    refine Ev.succ ?_
    simp only [forebayref20_Usable.l0]
    refine Ev.ite (fun _ => Ev.bind hck (Ev.succ ?_)) (fun _ => Ev.succ ?_)
    all_goals (simp only [forebayref20_Usable.j1]; exact Ev.neg (by simp) (Ev.now _))
theorem of_l (l : List S35) (n : Int) (hn : 0 < n) (hk : okNodes l = true) (d : Nat) : ∀ i : Nat, i + d = l.length → Ev (fun k => forebayref20_Of.l0 k l n (posU (ofP n) l i) (i : Int)) (posU (ofP n) l l.length) := by
  have hl := ok_len hk
  have hck := ev_check l
  rw [if_pos hk] at hck
  induction d with
  | zero =>
    intro i hi
    obtain rfl : i = l.length := by omega
    refine Ev.succ ?_
    simp only [forebayref20_Of.l0]
    refine Ev.neg (by omega) (Ev.succ ?_)
    simp only [forebayref20_Of.j1]
    exact Ev.neg (by simp) (Ev.now _)
  | succ d ih =>
    intro i hi
    have h1 := posU_len (ofP n) l i
    have h2 := ih (i + 1) (by omega)
    refine Ev.succ ?_
    simp only [forebayref20_Of.l0]
    refine Ev.pos (by omega) (Ev.bind hck (Ev.pos rfl (Ev.succ ?_)))
    simp only [forebayref20_Of.j1]
    rw [rd_node, wrap_succ i (by omega)]
    refine Ev.pos (decide_eq_true hn) (Ev.pos (by omega) (Ev.pos (by omega) ?_))
    cases hp : ofP n (l.getD i z35) with
    | true =>
      rw [posU_yes hp] at h2
      unfold ofP at hp
      simp only [Bool.and_eq_true, beq_iff_eq] at hp
      exact Ev.pos hp.2 (Ev.pos (by omega) h2)
    | false =>
      rw [posU_no hp] at h2
      refine Ev.neg (fun hc => ?_) h2
      unfold ofP at hp
      rw [decide_eq_true hn, hc] at hp
      simp at hp
theorem ref_of (l : List S35) (n : Int) : Ev (fun k => forebayref20_Of.f k l n) (posT (ofP n) l) := by
  unfold forebayref20_Of.f
  cases hk : okNodes l with
  | true =>
    rw [posT_yes hk]
    by_cases hn : 0 < n
    · exact of_l l n hn hk l.length 0 (by omega)
    · have hz : posU (ofP n) l l.length = [] := by
        unfold posU
        have : (List.range l.length).filter (fun j => ofP n (l.getD j z35)) = [] := by
          rw [List.filter_eq_nil_iff]
          intro j _
          unfold ofP
          rw [decide_eq_false hn]
          simp
        rw [this]; rfl
      rw [hz]
      have hck := ev_check l
      rw [if_pos hk] at hck
      have hl := ok_len hk
      refine Ev.succ ?_
      simp only [forebayref20_Of.l0]
      refine Ev.pos (by omega) (Ev.bind hck (Ev.pos rfl (Ev.succ ?_)))
      simp only [forebayref20_Of.j1]
      exact Ev.neg (by simpa using hn) (Ev.now _)
  | false =>
    rw [posT_no hk]
    have hck := ev_check l
    rw [hk] at hck
    refine Ev.succ ?_
    simp only [forebayref20_Of.l0]
    refine Ev.ite (fun _ => Ev.bind hck (Ev.neg (by simp) (Ev.succ ?_))) (fun _ => Ev.succ ?_)
    all_goals (simp only [forebayref20_Of.j1]; exact Ev.neg (by simp) (Ev.now _))
theorem take_pre {a b : List Int} {m : Nat} (h : a <+: b) (hm : a.length = m) : b.take m = a := by
  obtain ⟨t, rfl⟩ := h
  rw [← hm, List.take_left]
theorem give_l (l : List S35) (n : Int) (m : Nat) (hk : okNodes l = true) (hm : m ≤ (posU freeP l l.length).length) (d : Nat) : ∀ i : Nat, i + d = l.length → (posU freeP l i).length ≤ m →
    Ev (fun k => forebayref20_Give.l0 k l n (m : Int) (giveL l n (posU freeP l i)) (posU freeP l i) (i : Int)) (giveL l n ((posU freeP l l.length).take m), (posU freeP l l.length).take m, 0) := by
  have hl := ok_len hk
  induction d with
  | zero =>
    intro i hi him
    obtain rfl : i = l.length := by omega
    refine Ev.succ ?_
    simp only [forebayref20_Give.l0]
    refine Ev.neg (by omega) (Ev.succ ?_)
    simp only [forebayref20_Give.j2]
    rw [List.take_of_length_le him]
    exact Ev.neg (by simp) (Ev.now _)
  | succ d ih =>
    intro i hi him
    have h1 := posU_len freeP l i
    refine Ev.succ ?_
    simp only [forebayref20_Give.l0]
    refine Ev.pos (by omega) (Ev.succ ?_)
    simp only [forebayref20_Give.j2]
    by_cases hfull : (posU freeP l i).length = m
    · have hp : posU freeP l i <+: posU freeP l l.length := by
        have := posU_pre freeP l (l.length - i) i
        rwa [show i + (l.length - i) = l.length by omega] at this
      rw [take_pre hp hfull]
      exact Ev.neg (by simp; omega) (Ev.now _)
    rw [rd_node, rd_node, wrap_succ i (by omega), Int.toNat_natCast]
    refine Ev.pos (by simp; omega) (Ev.pos (by omega) (Ev.pos (by omega) ?_))
    cases hp : freeP (l.getD i z35) with
    | true =>
      have h2 := ih (i + 1) (by omega) (by rw [posU_yes hp, List.length_append, List.length_singleton]; omega)
      rw [posU_yes hp, giveL_snoc, Int.toNat_natCast] at h2
      generalize l.getD i z35 = x at *
      obtain ⟨a, b, c⟩ := x
      unfold freeP usableP at hp
      simp only [Bool.and_eq_true, beq_iff_eq] at hp
      exact Ev.pos hp.1.1 (Ev.pos hp.1.2 (Ev.pos hp.2 (Ev.pos (by rw [giveL_len]; omega) (Ev.pos (by omega) h2))))
    | false =>
      have h2 := ih (i + 1) (by omega) (by rw [posU_no hp]; exact him)
      rw [posU_no hp] at h2
      refine Ev.ite (fun ha => Ev.ite (fun hb => Ev.ite (fun hc => ?_) (fun _ => h2)) (fun _ => h2)) (fun _ => h2)
      have : freeP (l.getD i z35) = true := by unfold freeP usableP; rw [ha, hb, hc]; rfl
      rw [hp] at this
      cases this
theorem ref_give (l : List S35) (n many : Int) : Ev (fun k => forebayref20_Give.f k l n many) (giveR l n many) := by
  unfold forebayref20_Give.f
  have hbad : ∀ x : S35, Ev (fun k => forebayref20_Give.j0 k l n many true) ([], [], 2) := fun _ => by
    refine Ev.succ ?_
    simp only [forebayref20_Give.j0]
    exact Ev.pos trivial (Ev.now _)
  replace hbad := hbad z35
  have hck := ev_check l
  cases hk : okNodes l with
  | false =>
    rw [hk] at hck
    refine Ev.bind hck (Ev.neg (by simp) ?_)
    unfold giveR
    rw [if_neg (by rw [hk]; simp)]
    exact hbad
  | true =>
    rw [hk] at hck
    have hl := ok_len hk
    refine Ev.bind hck (Ev.pos (by simp) (Ev.eq_bind (refJob_eq n) ?_))
    by_cases hn : 1 ≤ n ∧ n ≤ 1073741824
    case neg =>
      unfold giveR
      rw [if_neg (fun e => hn e.2.1)]
      exact Ev.neg (by simpa using hn) hbad
    refine Ev.pos (decide_eq_true hn) ?_
    by_cases h1 : many < 1
    · unfold giveR
      rw [if_neg (fun e => by omega)]
      exact Ev.pos h1 hbad
    refine Ev.neg h1 ?_
    by_cases h2 : many > 64
    · unfold giveR
      rw [if_neg (fun e => by omega), decide_eq_true h2]
      exact hbad
    rw [decide_eq_false h2]
    unfold giveR
    rw [if_pos ⟨hk, hn, by omega, by omega⟩]
    refine Ev.succ ?_
    simp only [forebayref20_Give.j0]
    refine Ev.neg (by simp) (Ev.bind (ref_of l n) ?_)
    by_cases hof : 0 < (posT (ofP n) l).length
    · rw [if_pos hof]
      exact Ev.pos (by omega) (Ev.now _)
    rw [if_neg hof]
    refine Ev.neg (by omega) (Ev.bind (ref_free l) ?_)
    by_cases hfr : ((posT freeP l).length : Int) < many
    · rw [if_pos hfr]
      exact Ev.pos hfr (Ev.now _)
    rw [if_neg hfr]
    refine Ev.neg hfr (Ev.eq_bind (refOwn_eq l hl.2) ?_)
    obtain ⟨m, rfl⟩ := Int.eq_ofNat_of_zero_le (show 0 ≤ many by omega)
    rw [posT_yes hk, Int.toNat_natCast]
    rw [posT_yes hk] at hfr
    exact give_l l n m hk (by omega) l.length 0 (by omega) (Nat.zero_le _)
theorem clear_other (l : List S35) (n : Int) (i : Nat) : ∀ j, i ≤ j → (clearL l (posU (ofP n) l i)).getD j z35 = l.getD j z35 := by
  induction i with
  | zero => intro j _; rfl
  | succ i ih =>
    intro j hj
    cases hp : ofP n (l.getD i z35) with
    | false => rw [posU_no hp]; exact ih j (by omega)
    | true =>
      rw [posU_yes hp, clearL_snoc, Int.toNat_natCast, List.getD_eq_getElem?_getD, List.getElem?_set_ne (by omega), ← List.getD_eq_getElem?_getD]
      exact ih j (by omega)
theorem clear_l (l : List S35) (n : Int) (hn : 0 < n) (hl : l.length ≤ 64) (d : Nat) : ∀ i : Nat, i + d = l.length → Ev (fun k => forebayref20_Clear.l0 k n (clearL l (posU (ofP n) l i)) (i : Int)) (clearL l (posU (ofP n) l l.length), 0) := by
  induction d with
  | zero =>
    intro i hi
    obtain rfl : i = l.length := by omega
    refine Ev.succ ?_
    simp only [forebayref20_Clear.l0]
    rw [clearL_len]
    exact Ev.neg (by omega) (Ev.now _)
  | succ d ih =>
    intro i hi
    have h2 := ih (i + 1) (by omega)
    refine Ev.succ ?_
    simp only [forebayref20_Clear.l0]
    rw [clearL_len, rd_node, clear_other l n i i (Nat.le_refl _), wrap_succ i (by omega), Int.toNat_natCast]
    refine Ev.pos (by omega) (Ev.pos (by omega) ?_)
    cases hp : ofP n (l.getD i z35) with
    | true =>
      rw [posU_yes hp, clearL_snoc, Int.toNat_natCast, clear_other l n i i (Nat.le_refl _)] at h2
      unfold ofP at hp
      simp only [Bool.and_eq_true, beq_iff_eq] at hp
      exact Ev.pos hp.2 h2
    | false =>
      rw [posU_no hp] at h2
      refine Ev.neg (fun hc => ?_) h2
      unfold ofP at hp
      rw [decide_eq_true hn, hc] at hp
      simp at hp
theorem ref_clear (l : List S35) (n : Int) : Ev (fun k => forebayref20_Clear.f k l n) (clearR l n) := by
  unfold forebayref20_Clear.f
  have hbad : Ev (fun k => forebayref20_Clear.j0 k l n true) ([], 2) := by
    refine Ev.succ ?_
    simp only [forebayref20_Clear.j0]
    exact Ev.pos trivial (Ev.now _)
  have hck := ev_check l
  cases hk : okNodes l with
  | false =>
    rw [hk] at hck
    refine Ev.bind hck (Ev.neg (by simp) ?_)
    unfold clearR
    rw [if_neg (by rw [hk]; simp)]
    exact hbad
  | true =>
    rw [hk] at hck
    have hl := ok_len hk
    refine Ev.bind hck (Ev.pos (by simp) (Ev.eq_bind (refJob_eq n) ?_))
    by_cases hn : 1 ≤ n ∧ n ≤ 1073741824
    case neg =>
      unfold clearR
      rw [if_neg (fun e => hn e.2), decide_eq_false hn]
      exact hbad
    rw [decide_eq_true hn]
    unfold clearR
    rw [if_pos ⟨hk, hn⟩]
    refine Ev.succ ?_
    simp only [forebayref20_Clear.j0]
    refine Ev.neg (by simp) (Ev.bind (ref_of l n) ?_)
    by_cases hof : (posT (ofP n) l).length = 0
    · rw [if_pos hof]
      exact Ev.pos (by omega) (Ev.now _)
    rw [if_neg hof]
    refine Ev.neg (by omega) (Ev.eq_bind (refOwn_eq l hl.2) ?_)
    rw [posT_yes hk]
    exact clear_l l n (by omega) hl.2 l.length 0 (by omega)
theorem turn_fail (l : List S35) (i : Int) : refTurn l i 0 = failR l i := by
  unfold refTurn failR turnR
  by_cases hk : okNodes l = true
  · rw [if_pos hk, if_pos hk]
    by_cases hi : 0 ≤ i ∧ i < (l.length : Int)
    · rw [if_pos hi, if_pos hi]
      generalize l.getD i.toNat z35 = x
      obtain ⟨a, b, c⟩ := x
      cases a <;> cases b <;> rfl
    · rw [if_neg hi, if_neg hi]; rfl
  · rw [if_neg hk, if_neg hk]; rfl
theorem turn_up (l : List S35) (i : Int) : refTurn l i 1 = ((turnR (fun x => !x.f0) (fun x => ⟨true, x.f1, x.f2⟩) l i).1, 0, (turnR (fun x => !x.f0) (fun x => ⟨true, x.f1, x.f2⟩) l i).2) := by
  unfold refTurn turnR
  by_cases hk : okNodes l = true
  · rw [if_pos hk, if_pos hk]
    by_cases hi : 0 ≤ i ∧ i < (l.length : Int)
    · rw [if_pos hi, if_pos hi]
      generalize l.getD i.toNat z35 = x
      obtain ⟨a, b, c⟩ := x
      cases a <;> cases b <;> rfl
    · rw [if_neg hi, if_neg hi]
  · rw [if_neg hk, if_neg hk]
theorem turn_open (l : List S35) (i : Int) : refTurn l i 2 = ((turnR (fun x => x.f1 != true) (fun x => ⟨x.f0, true, x.f2⟩) l i).1, 0, (turnR (fun x => x.f1 != true) (fun x => ⟨x.f0, true, x.f2⟩) l i).2) := by
  unfold refTurn turnR
  by_cases hk : okNodes l = true
  · rw [if_pos hk, if_pos hk]
    by_cases hi : 0 ≤ i ∧ i < (l.length : Int)
    · rw [if_pos hi, if_pos hi]
      generalize l.getD i.toNat z35 = x
      obtain ⟨a, b, c⟩ := x
      cases a <;> cases b <;> rfl
    · rw [if_neg hi, if_neg hi]
  · rw [if_neg hk, if_neg hk]
theorem turn_shut (l : List S35) (i : Int) : refTurn l i 3 = ((turnR (fun x => x.f1 != false) (fun x => ⟨x.f0, false, x.f2⟩) l i).1, 0, (turnR (fun x => x.f1 != false) (fun x => ⟨x.f0, false, x.f2⟩) l i).2) := by
  unfold refTurn turnR
  by_cases hk : okNodes l = true
  · rw [if_pos hk, if_pos hk]
    by_cases hi : 0 ≤ i ∧ i < (l.length : Int)
    · rw [if_pos hi, if_pos hi]
      generalize l.getD i.toNat z35 = x
      obtain ⟨a, b, c⟩ := x
      cases a <;> cases b <;> rfl
    · rw [if_neg hi, if_neg hi]
  · rw [if_neg hk, if_neg hk]
end Go.Proofs.Ytifebcdkckjphaa.Pure
