/- LanesMore: for all totals and wants (of 1 to 60; else the known answers alone), with a greater total nobody has less, with a want taken away nobody else has, and each has at least the least of its want and its part. -/
import Derived.Test.YtikiopnebncfeaaLanes
namespace Go.Proofs.Ytikiopnebncfeaa.Pure
open Go.RowKit Go.Proofs.Ytikiopnebncfeaa.P Go.Proofs.YtikiopnebncfeaaW.PrintWords Go.Proofs.YtikiopnebncfeaaW.PrintLast
set_option linter.unusedVariables false
set_option linter.unusedSimpArgs false

theorem share_more {t t' : Int} {ws : List Int} (h : Good t ws) (h' : Good t' ws) (ht : t ≤ t') (i : Nat) (hi : i < ws.length) : (share t ws).getD i 0 ≤ (share t' ws).getD i 0 := by
  have p := hgt_prop h
  have hle := hgt_ge h' p.2.1 (show takesT ws (hgt t ws) ≤ t' by omega)
  rw [share_get _ _ _ hi, share_get _ _ _ hi]
  rcases Int.lt_or_le (hgt t ws) (hgt t' ws) with hlt | hge
  · unfold mn
    split <;> split <;> split <;> split <;> omega
  · have e : hgt t' ws = hgt t ws := by omega
    rw [e]
    by_cases hc : hgt t ws < ws.getD i 0 ∧ cntT (hgt t ws) (ws.take i) < t - takesT ws (hgt t ws)
    · rw [if_pos hc, if_pos ⟨hc.1, by have := hc.2; omega⟩]; omega
    · rw [if_neg hc]; split <;> omega
theorem takes_set (h : Int) (hh : 0 ≤ h) (ws : List Int) : ∀ k, (∀ x ∈ ws, 0 ≤ x ∧ x ≤ 1099511627776) → takesT (ws.set k 0) h ≤ takesT ws h := by
  induction ws with
  | nil => intro k _; simp
  | cons a t ih =>
    intro k hq
    have ha := hq a List.mem_cons_self
    cases k with
    | zero =>
      rw [List.set_cons_zero, takesT_cons, takesT_cons]
      have : mn 0 h ≤ mn a h := by unfold mn; split <;> split <;> omega
      omega
    | succ k =>
      rw [List.set_cons_succ, takesT_cons, takesT_cons]
      have := ih k (fun x hx => hq x (List.mem_cons_of_mem _ hx))
      omega
theorem cnt_set (h : Int) (hh : 0 ≤ h) (ws : List Int) : ∀ k, cntT h (ws.set k 0) ≤ cntT h ws := by
  induction ws with
  | nil => intro k; simp
  | cons a t ih =>
    intro k
    cases k with
    | zero => rw [List.set_cons_zero, cntT, cntT, if_neg (by omega)]; split <;> omega
    | succ k => rw [List.set_cons_succ, cntT, cntT]; have := ih k; omega
theorem share_less {t : Int} {ws : List Int} (h : Good t ws) (k : Nat) (h' : Good t (ws.set k 0)) (i : Nat) (hi : i < ws.length) (hik : i ≠ k) : (share t ws).getD i 0 ≤ (share t (ws.set k 0)).getD i 0 := by
  have p := hgt_prop h
  have ts := takes_set (hgt t ws) p.1 ws k h.2.2.2
  have hle := hgt_ge h' p.2.1 (show takesT (ws.set k 0) (hgt t ws) ≤ t by omega)
  have hg : (ws.set k 0).getD i 0 = ws.getD i 0 := by rw [List.getD_eq_getElem?_getD, List.getD_eq_getElem?_getD, List.getElem?_set_ne (Ne.symm hik)]
  rw [share_get _ _ _ hi, share_get _ _ _ (by rw [List.length_set]; exact hi), hg]
  rcases Int.lt_or_le (hgt t ws) (hgt t (ws.set k 0)) with hlt | hge
  · unfold mn
    split <;> split <;> split <;> split <;> omega
  · have e : hgt t (ws.set k 0) = hgt t ws := by omega
    rw [e]
    have cs : cntT (hgt t ws) ((ws.set k 0).take i) ≤ cntT (hgt t ws) (ws.take i) := by rw [List.take_set]; exact cnt_set _ p.1 _ _
    by_cases hc : hgt t ws < ws.getD i 0 ∧ cntT (hgt t ws) (ws.take i) < t - takesT ws (hgt t ws)
    · rw [if_pos hc, if_pos ⟨hc.1, by have := hc.2; omega⟩]; omega
    · rw [if_neg hc]; split <;> omega
theorem share_part {t : Int} {ws : List Int} (h : Good t ws) (i : Nat) (hi : i < ws.length) : mn (ws.getD i 0) (t / ws.length) ≤ (share t ws).getD i 0 := by
  have hn : (0 : Int) < ws.length := by omega
  have q0 : 0 ≤ t / ws.length := Int.ediv_nonneg h.2.1 (by omega)
  have q1 : t / ws.length ≤ t := Int.ediv_le_self _ h.2.1
  have q2 : t / ws.length * ws.length ≤ t := Int.ediv_mul_le _ (by omega)
  have tl := takesT_len (h := t / ws.length) ws q0
  have hle := hgt_ge h (q := t / ws.length) (by have := h.2.2.1; omega) (by omega)
  rw [share_get _ _ _ hi]
  unfold mn
  split <;> split <;> split <;> omega

theorem quot_id {t : Int} {n : Nat} (ht0 : 0 ≤ t) (ht1 : t ≤ 1099511627776) (hn : 0 < n) : wrap64 (Int.tdiv t (n : Int)) = t / (n : Int) := by
  have q0 : 0 ≤ t / (n : Int) := Int.ediv_nonneg ht0 (by omega)
  have q1 : t / (n : Int) ≤ t := Int.ediv_le_self _ ht0
  rw [Int.tdiv_eq_ediv_of_nonneg ht0]
  have q2 := Int.le_trans q1 ht1
  clear hn
  generalize t / (n : Int) = q at *
  have q3 : q ≤ 9223372036854775807 := Int.le_trans q2 (by decide)
  have q4 : -9223372036854775808 ≤ q := Int.le_trans (by decide) q0
  exact wrap64_id q4 q3

theorem more_l (t : Int) (ws a b c : List Int) (k : Nat) (ht0 : 0 ≤ t) (ht1 : t ≤ 1099511627776) (h60 : ws.length ≤ 60) (hn : 0 < ws.length) (e1 : a.length = ws.length) (e2 : b.length = ws.length) (e3 : c.length = ws.length)
    (M1 : ∀ i, i < ws.length → a.getD i 0 ≤ b.getD i 0) (M2 : ∀ i, i < ws.length → i ≠ k → a.getD i 0 ≤ c.getD i 0) (M3 : ∀ i, i < ws.length → mn (ws.getD i 0) (t / ws.length) ≤ a.getD i 0) (d : Nat) : ∀ i : Nat, i + d = ws.length →
    Ev (fun n => forebaylaw18_LanesMore.l0 n t ws a b k c i) true := by
  induction d with
  | zero =>
    intro i hi
    refine Ev.succ ?_
    simp only [forebaylaw18_LanesMore.l0]
    exact Ev.neg (by omega) (Ev.bind head_ends (Ev.const rfl))
  | succ d ih =>
    intro i hi
    have hil : i < ws.length := by omega
    have m1 := M1 i hil
    have m3 := M3 i hil
    have m2 := M2 i hil
    refine Ev.succ ?_
    simp only [forebaylaw18_LanesMore.l0]
    have hw : wrap64 ((i : Int) + 1) = ((i + 1 : Nat) : Int) := by unfold wrap64; omega
    have hq := quot_id ht0 ht1 hn
    have hr : ∀ l : List Int, rd l (i : Int) = l.getD i 0 := fun l => by simp [rd]
    rw [hw, hq]
    simp only [hr]
    have ih' := ih (i + 1) (by rw [Nat.add_right_comm, Nat.add_assoc]; exact hi)
    have l0 : (i : Int) < (ws.length : Int) := Int.ofNat_lt.2 hil
    have l1 : (i : Int) < (b.length : Int) := by rw [e2]; exact l0
    have l2 : (i : Int) < (a.length : Int) := by rw [e1]; exact l0
    have l3 : (i : Int) < (c.length : Int) := by rw [e3]; exact l0
    have n0 : ¬ (ws.length : Int) = 0 := by clear M1 M2 M3 m1 m2 m3; omega
    have g1 : ¬ b.getD i 0 < a.getD i 0 := Int.not_lt.2 m1
    have g3 : ¬ a.getD i 0 < mn (ws.getD i 0) (t / ws.length) := Int.not_lt.2 m3
    refine Ev.pos l0 (Ev.pos (Int.natCast_nonneg _) (Ev.pos l1 (Ev.pos l2 (Ev.neg g1 (Ev.ite (fun hk => Ev.neg n0 (Ev.neg g3 ih')) (fun hk => ?_))))))
    have g2 : ¬ c.getD i 0 < a.getD i 0 := Int.not_lt.2 (m2 (fun e => hk (by rw [e])))
    exact Ev.pos l3 (Ev.neg g2 (Ev.neg n0 (Ev.neg g3 ih')))
theorem good_set {t : Int} {ws : List Int} (h : Good t ws) (k : Nat) : Good t (ws.set k 0) := by
  refine ⟨by rw [List.length_set]; exact h.1, h.2.1, h.2.2.1, fun x hx => ?_⟩
  rcases List.mem_or_eq_of_mem_set hx with hx | rfl
  · exact h.2.2.2 x hx
  · omega

theorem more_j0 (t m : Int) (ws : List Int) (wh : Int) (hw : 0 ≤ wh ∧ wh ≤ 255) (b : Bool) (hb : b = false → ws.length ≤ 60 ∧ 0 < ws.length ∧ 0 ≤ t ∧ t ≤ 1099511627776 ∧ 0 ≤ m ∧ m ≤ 1099511627776 ∧ t + m ≤ 1099511627776) :
    Ev (fun n => forebaylaw18_LanesMore.j0 n t m ws wh b) true := by
  refine Ev.succ ?_
  simp only [forebaylaw18_LanesMore.j0]
  refine Ev.ite (fun _ => Ev.bind head_ends (Ev.const rfl)) (fun hbn => ?_)
  obtain ⟨b1, b2, b3, b4, b5, b6, b7⟩ := hb (by simpa using hbn)
  rw [show wrap64 (t + m) = t + m by unfold wrap64; omega]
  refine Ev.eq_bind (a := splitT t ws) rfl (Ev.eq_bind (a := splitT (t + m) ws) rfl ?_)
  rcases good_or t ws with hg | ⟨hg, e⟩
  · have hg' : Good (t + m) ws := ⟨hg.1, by omega, b7, hg.2.2.2⟩
    rw [split_good hg, split_good hg']
    refine Ev.pos rfl ?_
    show Ev (fun n => forebaylaw18_LanesMore.j1 n t ws wh (share t ws) 0 (share (t + m) ws) 0 false) true
    refine Ev.succ ?_
    simp only [forebaylaw18_LanesMore.j1]
    have hn : (0 : Int) < ws.length := by omega
    have hwm : wrap64 wh = wh := by unfold wrap64; omega
    have m0 := Int.emod_nonneg wh (show (ws.length : Int) ≠ 0 by omega)
    have m1 := Int.emod_lt_of_pos wh hn
    rw [hwm, Int.tmod_eq_emod_of_nonneg hw.1]
    obtain ⟨k, hk⟩ : ∃ k : Nat, wh % (ws.length : Int) = k := ⟨(wh % (ws.length : Int)).toNat, by omega⟩
    rw [hk]
    refine Ev.neg (by simp) (Ev.neg (by omega) (Ev.some_bind (Ev.pos (by simp; omega) (Ev.some_bind ?_))))
    refine Ev.pos (by omega) (Ev.pos (by simp; omega) ?_)
    rw [List.nil_append, Int.toNat_natCast]
    have hgs := good_set hg k
    refine Ev.eq_bind (a := splitT t (ws.set k 0)) rfl ?_
    rw [split_good hgs]
    have e1 := share_len t ws; have e2 := share_len (t + m) ws; have e3 := share_len t (ws.set k 0)
    rw [List.length_set] at e3
    refine Ev.pos rfl (Ev.pos (by rw [e1]) (Ev.pos (by rw [e2]) ?_))
    show Ev (fun n => forebaylaw18_LanesMore.j2 n t ws (share t ws) (share (t + m) ws) k (share t (ws.set k 0)) (((share t (ws.set k 0)).length : Int) != (ws.length : Int))) true
    rw [e3]
    refine Ev.succ ?_
    simp only [forebaylaw18_LanesMore.j2]
    refine Ev.neg (by simp) ?_
    exact more_l t ws _ _ _ k b3 b4 b1 b2 e1 e2 e3 (fun i hi => share_more hg hg' (by omega) i hi) (fun i hi hik => share_less hg k hgs i hi hik) (fun i hi => share_part hg i hi) ws.length 0 (Nat.zero_add _)
  · have hg' : ¬ Good (t + m) ws := fun h => hg ⟨h.1, b3, b4, h.2.2.2⟩
    rcases good_or (t + m) ws with h2 | ⟨_, e2⟩
    · exact absurd h2 hg'
    · rw [e, e2]
      refine Ev.neg (by decide) (Ev.succ ?_)
      simp only [forebaylaw18_LanesMore.j1]
      exact Ev.pos (by trivial) (Ev.pos (by trivial) (Ev.bind head_ends (Ev.const rfl)))

theorem quantity_eq (x : Int) : forebayref04_Quantity.f x = some (decide (0 ≤ x ∧ x ≤ 1099511627776)) := by
  unfold forebayref04_Quantity.f
  by_cases h : x ≥ 0
  · rw [if_pos h]; congr 1; exact decide_eq_decide.2 ⟨fun h1 => ⟨h, h1⟩, fun h1 => h1.2⟩
  · rw [if_neg h]; congr 1; exact (decide_eq_false (fun h1 => h h1.1)).symm
theorem LanesMore : forebaylaw18_LanesMore.Pure := by
  intro t m ws wh hinv
  have hw := wf_u8 hinv.2.2.2
  refine Ev.rounds (g := fun k => forebaylaw18_LanesMore.f k t m ws wh) ?_
  unfold forebaylaw18_LanesMore.f
  refine Ev.ite (fun _ => more_j0 t m ws wh hw true (fun h => by cases h)) (fun h1 => Ev.ite (fun _ => more_j0 t m ws wh hw true (fun h => by cases h)) (fun h2 => ?_))
  refine Ev.eq_bind (quantity_eq t) (Ev.ite (fun h3 => Ev.eq_bind (quantity_eq m) (Ev.ite (fun h4 => ?_) (fun _ => more_j0 t m ws wh hw true (fun h => by cases h)))) (fun _ => more_j0 t m ws wh hw true (fun h => by cases h)))
  have h3' := of_decide_eq_true h3
  have h4' := of_decide_eq_true h4
  refine more_j0 t m ws wh hw _ (fun h => ?_)
  have h5 := of_decide_eq_false h
  rw [show wrap64 (1099511627776 - m) = 1099511627776 - m by unfold wrap64; omega] at h5
  exact ⟨by omega, by omega, h3'.1, h3'.2, h4'.1, h4'.2, by omega⟩

end Go.Proofs.Ytikiopnebncfeaa.Pure
