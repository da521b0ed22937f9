/- StepsTell: New, Check, At, Least, Take, Give and Same tell what the document says, or the same error. -/
import Derived.Test.YtkhbbcnagdappaaStepsRefB
namespace Go.Proofs.Ytkhbbcnagdappaa.Pure
open Go.RowKit Go.Proofs.Ytkhbbcnagdappaa.P Go.Proofs.YtkhbbcnagdappaaW.PrintWords Go.Proofs.YtkhbbcnagdappaaW.PrintLast
set_option linter.unusedVariables false
set_option linter.unusedSimpArgs false

theorem ext_getD {x y : List Int} (hl : x.length = y.length) (h : ∀ j, j < x.length → x.getD j 0 = y.getD j 0) : x = y :=
  List.ext_getElem hl fun j h1 h2 => by
    have := h j h1
    simpa [List.getD_eq_getElem?_getD, List.getElem?_eq_getElem h1, List.getElem?_eq_getElem h2] using this
theorem eqg_l1 (a b n m : List Int) (hl : n.length = m.length) (hx : n.length ≤ 100000) (d : Nat) : ∀ i : Nat, i + d = n.length → (∀ j, j < i → n.getD j 0 = m.getD j 0) → Ev (fun k => forebayref04_Equal.l1 k (i : Int) a n b m) (decide (n = m)) := by
  induction d with
  | zero =>
    intro i hi hj
    refine Ev.succ ?_
    simp only [forebayref04_Equal.l1]
    exact Ev.neg (by omega) (Ev.const (by rw [decide_eq_true (ext_getD hl (fun j h => hj j (by omega)))]))
  | succ d ih =>
    intro i hi hj
    refine Ev.succ ?_
    simp only [forebayref04_Equal.l1]
    rw [rd_nat, rd_nat, wrap_succ i (by omega)]
    refine Ev.pos (by omega) (Ev.pos (by omega) (Ev.pos (by omega) (Ev.ite (fun he => ?_) (fun he => ?_))))
    · refine ih (i + 1) (by omega) (fun j h1 => ?_)
      by_cases h2 : j = i
      · subst h2; exact he
      · exact hj j (by omega)
    · exact Ev.const (by rw [decide_eq_false (fun e => he (by rw [e]))])
theorem eqg_l0 (a b n m : List Int) (hla : a.length = b.length) (hl : n.length = m.length) (ha : a.length ≤ 100000) (hx : n.length ≤ 100000) (d : Nat) : ∀ i : Nat, i + d = a.length → (∀ j, j < i → a.getD j 0 = b.getD j 0) → Ev (fun k => forebayref04_Equal.l0 k (i : Int) a n b m) (decide (a = b ∧ n = m)) := by
  induction d with
  | zero =>
    intro i hi hj
    have e : a = b := ext_getD hla (fun j h => hj j (by omega))
    refine Ev.succ ?_
    simp only [forebayref04_Equal.l0]
    refine Ev.neg (by omega) (Ev.eq (eqg_l1 a b n m hl hx n.length 0 (by omega) (fun j h => by omega)) ?_)
    exact decide_eq_decide.2 ⟨fun h => ⟨e, h⟩, fun h => h.2⟩
  | succ d ih =>
    intro i hi hj
    refine Ev.succ ?_
    simp only [forebayref04_Equal.l0]
    rw [rd_nat, rd_nat, wrap_succ i (by omega)]
    refine Ev.pos (by omega) (Ev.pos (by omega) (Ev.pos (by omega) (Ev.ite (fun he => ?_) (fun he => ?_))))
    · refine ih (i + 1) (by omega) (fun j h1 => ?_)
      by_cases h2 : j = i
      · subst h2; exact he
      · exact hj j (by omega)
    · exact Ev.const (by rw [decide_eq_false (fun e => he (by rw [e.1]))])
theorem eqg (a n b m : List Int) (ha : a.length ≤ 100000) (hx : n.length ≤ 100000) : Ev (fun k => forebayref04_Equal.f k a n b m) (decide (a = b ∧ n = m)) := by
  unfold forebayref04_Equal.f
  refine Ev.ite (fun h1 => ?_) (fun h1 => ?_)
  · refine Ev.succ ?_
    simp only [forebayref04_Equal.j0]
    by_cases h2 : n.length = m.length
    · exact Ev.neg (by rw [h2]; simp) (eqg_l0 a b n m (by omega) h2 ha hx a.length 0 (by omega) (fun j h => by omega))
    · refine Ev.pos (by simp; omega) (Ev.const ?_)
      rw [decide_eq_false (fun e => h2 (by rw [e.2]))]
  · refine Ev.succ ?_
    simp only [forebayref04_Equal.j0]
    refine Ev.pos (by trivial) (Ev.const ?_)
    rw [decide_eq_false (fun e => h1 (by rw [e.1]))]
theorem eqg_self (a n : List Int) (ha : a.length ≤ 100000) (hx : n.length ≤ 100000) : Ev (fun k => forebayref04_Equal.f k a n a n) true := Ev.eq (eqg a n a n ha hx) (decide_eq_true ⟨rfl, rfl⟩)
theorem check_two_l : ∀ (k : Nat) (l : List Int) (x y : Int) (a n : List Int) (e : Int), steps_Check.l0 k l x y a n = some e → e = 0 ∨ e = 2
  | 0, _, _, _, _, _, _, h => by simp [steps_Check.l0] at h
  | k + 1, l, x, y, a, n, e, h => by
    simp only [steps_Check.l0] at h
    repeat' split at h
    all_goals first
      | (cases h; done)
      | exact check_two_l k _ _ _ _ _ _ h
      | exact .inl (Option.some.inj h).symm
      | exact .inr (Option.some.inj h).symm
theorem check_two_j (k : Nat) (b : Bool) (a n : List Int) (e : Int) (h : steps_Check.j0 k b a n = some e) : e = 0 ∨ e = 2 := by
  cases k with
  | zero => simp [steps_Check.j0] at h
  | succ k =>
    simp only [steps_Check.j0] at h
    repeat' split at h
    all_goals first
      | (cases h; done)
      | exact check_two_l k _ _ _ _ _ _ h
      | exact .inl (Option.some.inj h).symm
      | exact .inr (Option.some.inj h).symm
theorem check_two {k : Nat} {a n : List Int} {e : Int} (h : steps_Check.f k a n = some e) : e = 0 ∨ e = 2 := by
  unfold steps_Check.f at h
  simp only [steps_quantity.f, Option.bind_some] at h
  repeat' split at h
  all_goals first
    | (cases h; done)
    | exact check_two_j _ _ _ _ _ h
def GoodAt (a n : List Int) (j : Nat) : Prop := (0 ≤ a.getD j 0 ∧ a.getD j 0 ≤ 1099511627776) ∧ (0 ≤ n.getD j 0 ∧ n.getD j 0 ≤ 1099511627776) ∧ (0 < j → a.getD (j - 1) 0 < a.getD j 0)
theorem rc_l (a n : List Int) (hlen : a.length = n.length) (ha : a.length ≤ 2000) (d : Nat) : ∀ i : Nat, i + d = a.length → ∃ e, Ev (fun k => forebayref04_Check.l0 k (i : Int) a n) e ∧ ((e = 0 ∧ ∀ j, i ≤ j → j < a.length → GoodAt a n j) ∨ (e = 2 ∧ ∃ j, i ≤ j ∧ j < a.length ∧ ¬ GoodAt a n j)) := by
  induction d with
  | zero =>
    intro i hi
    refine ⟨0, Ev.succ ?_, .inl ⟨rfl, fun j h1 h2 => by omega⟩⟩
    simp only [forebayref04_Check.l0]
    exact Ev.neg (by omega) (Ev.const rfl)
  | succ d ih =>
    intro i hi
    by_cases h1 : 0 ≤ a.getD i 0 ∧ a.getD i 0 ≤ 1099511627776
    case neg =>
      refine ⟨2, Ev.succ ?_, .inr ⟨rfl, i, Nat.le_refl _, by omega, fun h => h1 h.1⟩⟩
      simp only [forebayref04_Check.l0]
      rw [rd_nat]
      exact Ev.pos (by omega) (Ev.pos (by omega) (Ev.eq_bind (quant_no h1) (Ev.neg (by decide) (Ev.const rfl))))
    by_cases h2 : 0 ≤ n.getD i 0 ∧ n.getD i 0 ≤ 1099511627776
    case neg =>
      refine ⟨2, Ev.succ ?_, .inr ⟨rfl, i, Nat.le_refl _, by omega, fun h => h2 h.2.1⟩⟩
      simp only [forebayref04_Check.l0]
      rw [rd_nat, rd_nat]
      exact Ev.pos (by omega) (Ev.pos (by omega) (Ev.eq_bind (quant_ok h1) (Ev.pos (by trivial) (Ev.pos (by omega) (Ev.eq_bind (quant_no h2) (Ev.neg (by decide) (Ev.const rfl)))))))
    by_cases h3 : 0 < i → a.getD (i - 1) 0 < a.getD i 0
    case neg =>
      have h4 : 0 < i ∧ a.getD i 0 ≤ a.getD (i - 1) 0 := by
        by_cases h5 : 0 < i
        · exact ⟨h5, Classical.byContradiction fun h6 => h3 (fun _ => by omega)⟩
        · exact absurd (fun h => absurd h h5) h3
      have hw : wrap64 ((i : Int) - 1) = ((i - 1 : Nat) : Int) := by unfold wrap64; omega
      refine ⟨2, Ev.succ ?_, .inr ⟨rfl, i, Nat.le_refl _, by omega, fun h => h3 h.2.2⟩⟩
      simp only [forebayref04_Check.l0]
      rw [hw, rd_nat, rd_nat, rd_nat]
      exact Ev.pos (by omega) (Ev.pos (by omega) (Ev.eq_bind (quant_ok h1) (Ev.pos (by trivial) (Ev.pos (by omega) (Ev.eq_bind (quant_ok h2) (Ev.pos (by trivial) (Ev.pos (by omega) (Ev.pos (by omega) (Ev.pos (by omega) (Ev.pos h4.2 (Ev.const rfl)))))))))))
    obtain ⟨e, e1, e2⟩ := ih (i + 1) (by omega)
    refine ⟨e, Ev.succ ?_, ?_⟩
    · simp only [forebayref04_Check.l0]
      rw [rd_nat, rd_nat, wrap_succ i (by omega)]
      refine Ev.pos (by omega) (Ev.pos (by omega) (Ev.eq_bind (quant_ok h1) (Ev.pos (by trivial) (Ev.pos (by omega) (Ev.eq_bind (quant_ok h2) (Ev.pos (by trivial) ?_))))))
      by_cases h5 : 0 < i
      · have hw : wrap64 ((i : Int) - 1) = ((i - 1 : Nat) : Int) := by unfold wrap64; omega
        rw [hw, rd_nat]
        have := h3 h5
        exact Ev.pos (by omega) (Ev.pos (by omega) (Ev.pos (by omega) (Ev.neg (by omega) e1)))
      · exact Ev.neg (by omega) e1
    · rcases e2 with ⟨e2, e3⟩ | ⟨e2, j, e3, e4, e5⟩
      · refine .inl ⟨e2, fun j j1 j2 => ?_⟩
        by_cases h6 : j = i
        · subst h6; exact ⟨h1, h2, h3⟩
        · exact e3 j (by omega) j2
      · exact .inr ⟨e2, j, by omega, e4, e5⟩
theorem val_good {a n : List Int} (h : Val a n) (j : Nat) (hj : j < a.length) : GoodAt a n j := by
  refine ⟨h.qa _ (mem_getD hj), h.qn _ (mem_getD (by have := h.len; omega)), fun h0 => ?_⟩
  have := h.rise (j - 1) (by omega)
  rwa [show j - 1 + 1 = j by omega] at this
theorem good_val {a n : List Int} (hl : a.length = n.length) (hp : 1 ≤ a.length) (hz : a.getD 0 0 = 0) (hg : ∀ j, j < a.length → GoodAt a n j) : Val a n := by
  refine ⟨hl, hp, hz, fun x hx => ?_, fun x hx => ?_, fun j hj => ?_⟩
  · obtain ⟨j, hj, rfl⟩ := List.getElem_of_mem hx
    have := (hg j hj).1
    rwa [List.getD_eq_getElem?_getD, List.getElem?_eq_getElem hj] at this
  · obtain ⟨j, hj, rfl⟩ := List.getElem_of_mem hx
    have := (hg j (by omega)).2.1
    rwa [List.getD_eq_getElem?_getD, List.getElem?_eq_getElem hj] at this
  · exact (hg (j + 1) hj).2.2 (by omega)
theorem check_ref (a n : List Int) (ha : a.length ≤ 60) : ∃ ck, Ev (fun k => steps_Check.f k a n) ck ∧ Ev (fun k => forebayref04_Check.f k a n) ck ∧ ((ck = 0 ∧ Val a n) ∨ (ck = 2 ∧ ¬ Val a n)) := by
  have hr : ∃ e, Ev (fun k => forebayref04_Check.f k a n) e ∧ ((e = 0 ∧ Val a n) ∨ (e = 2 ∧ ¬ Val a n)) := by
    unfold forebayref04_Check.f
    have hj : ∀ b, b = true → Ev (fun k => forebayref04_Check.j0 k b a n) 2 := fun b hb => by
      refine Ev.succ ?_
      simp only [forebayref04_Check.j0]
      exact Ev.pos hb (Ev.const rfl)
    by_cases h1 : a.length = n.length
    case neg => exact ⟨2, Ev.neg (by omega) (hj true rfl), .inr ⟨rfl, fun h => h1 h.len⟩⟩
    by_cases h2 : a.length < 1
    · exact ⟨2, Ev.pos (by omega) (Ev.pos (by omega) (hj true rfl)), .inr ⟨rfl, fun h => by have := h.pos; omega⟩⟩
    by_cases h3 : a.getD 0 0 = 0
    case neg =>
      refine ⟨2, Ev.pos (by omega) (Ev.neg (by omega) (Ev.neg (by omega) (Ev.pos (by omega) (hj _ ?_)))), .inr ⟨rfl, fun h => h3 h.zero⟩⟩
      rw [show rd a 0 = a.getD 0 0 from rd_nat a 0]
      simpa using h3
    obtain ⟨e, e1, e2⟩ := rc_l a n h1 (by omega) a.length 0 (by omega)
    refine ⟨e, Ev.pos (by omega) (Ev.neg (by omega) (Ev.neg (by omega) (Ev.pos (by omega) (Ev.succ ?_)))), ?_⟩
    · simp only [forebayref04_Check.j0]
      rw [show rd a 0 = a.getD 0 0 from rd_nat a 0, h3]
      exact Ev.neg (by decide) e1
    · rcases e2 with ⟨e2, e3⟩ | ⟨e2, j, e3, e4, e5⟩
      · exact .inl ⟨e2, good_val h1 (by omega) h3 (fun j hj => e3 j (by omega) hj)⟩
      · exact .inr ⟨e2, fun h => e5 (val_good h j e4)⟩
  obtain ⟨e, e1, e2⟩ := hr
  refine ⟨e, ?_, e1, e2⟩
  rcases e2 with ⟨rfl, hv⟩ | ⟨rfl, hv⟩
  · exact check_ok hv (by omega)
  · obtain ⟨e', ⟨K, p⟩, h2⟩ := check_ev a n (by omega)
    rcases check_two (p K (Nat.le_refl _)) with rfl | rfl
    · exact absurd (h2 rfl) hv
    · exact ⟨K, p⟩
theorem resT_len (o : Option (List (Int × Int))) : (resT o).1.length ≤ 2000 ∧ (resT o).2.1.length ≤ 2000 := by
  cases o with
  | none => simp [resT]
  | some out =>
    unfold resT
    dsimp only
    split
    · simp
    · simp; omega
theorem take_two {a n : List Int} {e : Int} (h : Ev (fun k => steps_Check.f k a n) e) {x y z : Int} (hc : ¬ (e = 0 ∧ (badQ x || badQ y || badQ z) = false)) : Ev (fun k => steps_Take.f k a n x y z) ([], [], 2) ∧ Ev (fun k => steps_Give.f k a n x y z) ([], [], 2) := by
  unfold steps_Take.f steps_Give.f
  exact ⟨Ev.bind h (Ev.neg hc (Ev.const rfl)), Ev.bind h (Ev.neg hc (Ev.const rfl))⟩
theorem tell_of {k : Nat} {a n b c : List Int} {x y z : Int} (h : TellOk k a n b c x y z) : ∃ k, forebaylaw04_StepsTell.f k a n b c x y z = some true :=
  ⟨k, by unfold forebaylaw04_StepsTell.f; exact @if_pos _ (Classical.propDecidable _) h _ _ _⟩
theorem StepsTell : forebaylaw04_StepsTell.Pure := by
  intro a n b c x y z _ _ _
  obtain ⟨K1, p1⟩ := head_ends
  by_cases hl : a.length ≤ 60 ∧ n.length ≤ 60
  case neg =>
    refine tell_of (k := K1) ⟨p1 _ (by omega), .inl ?_⟩
    unfold forebayref04_Great.f
    by_cases h1 : (a.length : Int) > 60
    · rw [if_pos h1]
    · rw [if_neg h1, decide_eq_true (by omega)]
  have hG : forebayref04_Great.f a n = some false := by
    unfold forebayref04_Great.f
    rw [if_neg (by omega), decide_eq_false (by omega)]
  by_cases hl2 : b.length ≤ 60 ∧ c.length ≤ 60
  case neg =>
    refine tell_of (k := K1) ⟨p1 _ (by omega), .inr (.inl ⟨hG, ?_⟩)⟩
    unfold forebayref04_Great.f
    by_cases h1 : (b.length : Int) > 60
    · rw [if_pos h1]
    · rw [if_neg h1, decide_eq_true (by omega)]
  have hG2 : forebayref04_Great.f b c = some false := by
    unfold forebayref04_Great.f
    rw [if_neg (by omega), decide_eq_false (by omega)]
  obtain ⟨ck, hck0, ⟨K3, p3⟩, hck⟩ := check_ref a n (by omega)
  obtain ⟨K2, p2⟩ := id hck0
  have hN : steps_New.f z = some ([0], [clampT z]) := rfl
  have hM : forebayref04_New.f z = some ([0], [clampT z]) := by
    unfold forebayref04_New.f forebayref03_Of.f clampT
    by_cases h1 : z < 0
    · rw [if_pos h1, if_pos h1]; rfl
    · rw [if_neg h1, if_neg h1]
      by_cases h2 : z > 1099511627776
      · rw [if_pos h2, if_pos (by omega)]; rfl
      · rw [if_neg h2, if_neg (by omega)]; rfl
  obtain ⟨K4, p4⟩ := eqg_self [0] [clampT z] (by simp) (by simp)
  have gate : ∀ k, K2 + K3 + K4 ≤ k → TellGate k a n b c x y z ck [0] [clampT z] [0] [clampT z] := fun k hk => ⟨hG, hG2, p3 _ (by omega), p2 _ (by omega), hN, hM, p4 _ (by omega)⟩
  rcases hck with ⟨rfl, hv⟩ | ⟨rfl, hnv⟩
  case inr =>
    obtain ⟨⟨K5, p5⟩, ⟨K6, p6⟩⟩ := take_two (x := x) (y := y) (z := z) hck0 (fun h => by omega)
    obtain ⟨h7, _⟩ := take_two (x := 0) (y := 0) (z := 0) hck0 (fun h => by omega)
    have hAt : Ev (fun k => steps_At.f k a n x) 0 := by
      unfold steps_At.f
      exact Ev.bind hck0 (Ev.neg (fun h => by omega) (Ev.const rfl))
    have hLe : Ev (fun k => steps_Least.f k a n x y) 0 := by
      unfold steps_Least.f
      exact Ev.bind hck0 (Ev.neg (fun h => by omega) (Ev.const rfl))
    have hSa : Ev (fun k => steps_Same.f k a n a n) false := by
      unfold steps_Same.f
      exact Ev.bind h7 (Ev.bind h7 (Ev.neg (by decide) (Ev.const rfl)))
    obtain ⟨K7, p7⟩ := hAt
    obtain ⟨K8, p8⟩ := hLe
    obtain ⟨K9, p9⟩ := hSa
    exact tell_of (k := K1 + K2 + K3 + K4 + K5 + K6 + K7 + K8 + K9) ⟨p1 _ (by omega), .inr (.inr (.inl ⟨_, _, _, _, 2, gate _ (by omega), by decide, p5 _ (by omega), p6 _ (by omega), p7 _ (by omega), p8 _ (by omega), p9 _ (by omega)⟩))⟩
  by_cases hw : (0 ≤ x ∧ x ≤ 1099511627776) ∧ (0 ≤ y ∧ y ≤ 1099511627776) ∧ (0 ≤ z ∧ z ≤ 1099511627776)
  case neg =>
    obtain ⟨⟨K5, p5⟩, ⟨K6, p6⟩⟩ := take_two (x := x) (y := y) (z := z) hck0 (fun h => hw (by
      have h2 := h.2
      rw [Bool.or_eq_false_iff, Bool.or_eq_false_iff] at h2
      exact ⟨(badQ_iff x).1 h2.1.1, (badQ_iff y).1 h2.1.2, (badQ_iff z).1 h2.2⟩))
    exact tell_of (k := K1 + K2 + K3 + K4 + K5 + K6) ⟨p1 _ (by omega), .inr (.inr (.inr (.inl ⟨_, _, _, _, gate _ (by omega), p5 _ (by omega), p6 _ (by omega), by rw [fine_eq, decide_eq_false hw]⟩)))⟩
  have hF : forebaylaw04_fine.f x y z = some true := by rw [fine_eq, decide_eq_true hw]
  obtain ⟨w1, w2, w3⟩ := hw
  have hneg : wrap64 (-z) = -z := wrap64_id (by omega) (by omega)
  have ht := take_ev hv (by omega) w1 w2 w3
  have hg := give_ev hv (by omega) w1 w2 w3
  have htr := turn_ref hv (by omega) w1 w2 (z := -z) (by omega) (takeF z) (fun v v0 v1 => by
    unfold takeF
    dsimp only
    rw [wrap64_id (by omega) (by omega), decide_eq_true_eq]
    exact ⟨by omega, fun _ => by omega⟩)
  have hgr := turn_ref hv (by omega) w1 w2 (z := z) (by omega) (giveF z) (fun v v0 v1 => by
    unfold giveF
    dsimp only
    rw [wrap64_id (x := v + z) (by omega) (by omega), wrap64_id (x := 1099511627776 - z) (by omega) (by omega), decide_eq_true_eq]
    exact ⟨by omega, fun _ => rfl⟩)
  have e1 := resT_len (turnL x y (takeF z) (spansT a n))
  have e2 := resT_len (turnL x y (giveF z) (spansT a n))
  generalize resT (turnL x y (takeF z) (spansT a n)) = rT at ht htr e1
  generalize resT (turnL x y (giveF z) (spansT a n)) = rG at hg hgr e2
  obtain ⟨a1, a2, e⟩ := rT
  obtain ⟨b1, b2, f⟩ := rG
  obtain ⟨K5, p5⟩ := ht
  obtain ⟨K6, p6⟩ := hg
  obtain ⟨K7, p7⟩ := htr
  obtain ⟨K8, p8⟩ := hgr
  rw [← hneg] at p7
  obtain ⟨K9, p9⟩ := eqg_self a1 a2 (by have := e1.1; simp at this; omega) (by have := e1.2; simp at this; omega)
  obtain ⟨K10, p10⟩ := eqg_self b1 b2 (by have := e2.1; simp at this; omega) (by have := e2.2; simp at this; omega)
  obtain ⟨K11, p11⟩ := at_ev hv (by omega) hck0 x w1.1 w1.2
  obtain ⟨K12, p12⟩ := ref_at hv (by omega) x w1.1 w1.2
  obtain ⟨K13, p13⟩ := least_ev hv (by omega) hck0 x y w1.1 w1.2 w2.1 w2.2
  obtain ⟨K14, p14⟩ := least_ref hv (by omega) w1 w2
  have norm : ∀ {s u : List Int}, Val s u → s.length ≤ 60 → ∃ o1 o2, o1.length ≤ 2000 ∧ o2.length ≤ 2000 ∧ Ev (fun k => steps_Take.f k s u 0 0 0) (o1, o2, 0) ∧ Ev (fun k => forebayref04_Norm.f k s u) (o1, o2) := fun {s u} hsu hls => by
    obtain ⟨o, v, r, q1, _⟩ := norm_spec hsu (by omega)
    have q2 := take_ev hsu (by omega) (lo := 0) (hi := 0) (m := 0) (by omega) (by omega) (by omega)
    have q3 := turn_ref hsu (by omega) (x := 0) (y := 0) (z := 0) (by omega) (by omega) (by omega) (takeF 0) (fun v v0 v1 => by
      unfold takeF
      dsimp only
      rw [wrap64_id (by omega) (by omega), decide_eq_true_eq]
      exact ⟨by omega, fun _ => by omega⟩)
    have q4 := resT_len (turnL 0 0 (takeF 0) (spansT s u))
    have q5 := ev_uniq q2 q1
    rw [q5] at q3 q4
    refine ⟨o.map (·.1), o.map (·.2), q4.1, q4.2, q1, ?_⟩
    unfold forebayref04_Norm.f
    exact Ev.bind q3 (Ev.const rfl)
  obtain ⟨o1, o2, o3, o4, ⟨K15, p15⟩, ⟨K16, p16⟩⟩ := norm hv (by omega)
  obtain ⟨cu, hcu0, ⟨K17, p17⟩, hcu⟩ := check_ref b c (by omega)
  rcases hcu with ⟨rfl, hvu⟩ | ⟨rfl, hnvu⟩
  · obtain ⟨q1, q2, q3, q4, ⟨K18, p18⟩, ⟨K19, p19⟩⟩ := norm hvu (by omega)
    obtain ⟨K20, p20⟩ := eqg o1 o2 q1 q2 (by omega) (by omega)
    have hsame : Ev (fun k => steps_Same.f k a n b c) (decide (o1 = q1 ∧ o2 = q2)) := by
      unfold steps_Same.f
      refine Ev.bind ⟨K15, p15⟩ (Ev.bind ⟨K18, p18⟩ (Ev.pos (by trivial) (Ev.pos (by trivial) (Ev.bind (equal_ev _ _ (by dsimp only; omega)) ?_))))
      dsimp only
      by_cases h1 : o1 = q1
      · rw [decide_eq_true h1]
        refine Ev.pos (by trivial) (Ev.bind (equal_ev _ _ (by omega)) (Ev.const ?_))
        congr 1
        exact decide_eq_decide.2 ⟨fun h => ⟨h1, h⟩, fun h => h.2⟩
      · rw [decide_eq_false h1]
        refine Ev.neg (by decide) (Ev.const ?_)
        congr 1
        exact (decide_eq_false (fun h => h1 h.1)).symm
    obtain ⟨K21, p21⟩ := hsame
    exact tell_of (k := K1 + K2 + K3 + K4 + K5 + K6 + K7 + K8 + K9 + K10 + K11 + K12 + K13 + K14 + K16 + K17 + K19 + K20 + K21) ⟨p1 _ (by omega), .inr (.inr (.inr (.inr ⟨_, _, _, _, a1, a2, b1, b2, a1, a2, b1, b2, e, f, _, _, _, gate _ (by omega), p5 _ (by omega), p6 _ (by omega), hF, p7 _ (by omega), p8 _ (by omega), p9 _ (by omega), p10 _ (by omega), .inr ⟨p17 _ (by omega), o1, o2, q1, q2, p16 _ (by omega), p19 _ (by omega), p20 _ (by omega)⟩, p11 _ (by omega), p12 _ (by omega), p13 _ (by omega), p14 _ (by omega), p21 _ (by omega)⟩)))⟩
  · obtain ⟨⟨K18, p18⟩, _⟩ := take_two (x := 0) (y := 0) (z := 0) hcu0 (fun h => by omega)
    have hsame : Ev (fun k => steps_Same.f k a n b c) false := by
      unfold steps_Same.f
      exact Ev.bind ⟨K15, p15⟩ (Ev.bind ⟨K18, p18⟩ (Ev.pos (by trivial) (Ev.neg (by decide) (Ev.const rfl))))
    obtain ⟨K21, p21⟩ := hsame
    exact tell_of (k := K1 + K2 + K3 + K4 + K5 + K6 + K7 + K8 + K9 + K10 + K11 + K12 + K13 + K14 + K17 + K21) ⟨p1 _ (by omega), .inr (.inr (.inr (.inr ⟨_, _, _, _, a1, a2, b1, b2, a1, a2, b1, b2, e, f, _, _, _, gate _ (by omega), p5 _ (by omega), p6 _ (by omega), hF, p7 _ (by omega), p8 _ (by omega), p9 _ (by omega), p10 _ (by omega), .inl ⟨p17 _ (by omega), rfl⟩, p11 _ (by omega), p12 _ (by omega), p13 _ (by omega), p14 _ (by omega), p21 _ (by omega)⟩)))⟩
end Go.Proofs.Ytkhbbcnagdappaa.Pure
