/- fit: what Take and Give of a slot leave; Is. -/
import Derived.Test.YthbonmpkjkihgaaFit
namespace Go.Proofs.Ythbonmpkjkihgaa.Pure
open Go.RowKit Go.Proofs.Ythbonmpkjkihgaa.P Go.Proofs.YthbonmpkjkihgaaW.PrintWords Go.Proofs.YthbonmpkjkihgaaW.PrintLast
set_option linter.unusedVariables false
set_option linter.unusedSimpArgs false

theorem head_ends : Ev (fun k => forebaylaw10_head.f k) true := Ev.of forebaylaw10_head.mono (k := 30) (by decide +kernel)
theorem great_f (n0 n1 b0 b1 c0 c1 : List Int) (h1 : n0.length ≤ maxLen) (h2 : n1.length ≤ maxLen) (h3 : b0.length ≤ maxLen) (h4 : b1.length ≤ maxLen) (h5 : c0.length ≤ maxLen) (h6 : c1.length ≤ maxLen) (s1 : n0.length * 8 ≤ 140737488351232) (s2 : n1.length * 8 ≤ 140737488351232) (s3 : b0.length * 8 ≤ 140737488351232) (s4 : b1.length * 8 ≤ 140737488351232) (s5 : c0.length * 8 ≤ 140737488351232) (s6 : c1.length * 8 ≤ 140737488351232) :
    (forebayref10_Great.f n0 n1 b0 b1 c0 c1 = some true) ∨ (forebayref10_Great.f n0 n1 b0 b1 c0 c1 = some false ∧ n0.length ≤ 40 ∧ b0.length ≤ 40 ∧ c0.length ≤ 40) := by
  have e1 : wrap64 ((n0.length : Int) + (b0.length : Int)) = (n0.length : Int) + (b0.length : Int) := wrap64_id (by omega) (by omega)
  have e2 : wrap64 ((n0.length : Int) + (b0.length : Int) + (c0.length : Int)) = (n0.length : Int) + (b0.length : Int) + (c0.length : Int) := wrap64_id (by omega) (by omega)
  unfold forebayref10_Great.f
  rw [e1, e2]
  by_cases h : (n0.length : Int) + (b0.length : Int) + (c0.length : Int) > 40
  · exact .inl (if_pos h)
  · rw [if_neg h]
    cases hd : decide (wrap64 (wrap64 ((n1.length : Int) + (b1.length : Int)) + (c1.length : Int)) > 40) with
    | true => exact .inl rfl
    | false => exact .inr ⟨rfl, by omega, by omega, by omega⟩
theorem raw_len (lo hi : Int) (doF : Int → Int × Bool) : ∀ (l : List (Int × Int × Int)) (s : Int), Chain s l → (l.flatMap (pieces lo hi doF)).length ≤ l.length + (if s < lo then 1 else 0) + (if s < hi then 1 else 0)
  | [], s, _ => by simp
  | y :: l, s, h => by
    obtain ⟨h1, h2, h3⟩ := h
    have ih := raw_len lo hi doF l y.2.1 h3
    rw [List.flatMap_cons, List.length_append, List.length_cons]
    have hm1 : y.1 ≤ mx y.1 lo ∧ lo ≤ mx y.1 lo := mx_le.1 (Int.le_refl _)
    have hm2 : mx y.1 lo = y.1 ∨ mx y.1 lo = lo := by unfold mx; split <;> simp
    have hm3 : mn y.2.1 hi ≤ y.2.1 ∧ mn y.2.1 hi ≤ hi ∧ (mn y.2.1 hi = y.2.1 ∨ mn y.2.1 hi = hi) := by unfold mn; split <;> omega
    have hp : (pieces lo hi doF y).length + (if y.2.1 < lo then 1 else 0) + (if y.2.1 < hi then 1 else 0) ≤ 1 + (if s < lo then 1 else 0) + (if s < hi then 1 else 0) := by
      unfold pieces
      generalize mx y.1 lo = a at *
      generalize mn y.2.1 hi = b at *
      by_cases c1 : b ≤ a
      · rw [if_pos c1]
        show 1 + _ + _ ≤ _
        split <;> split <;> split <;> split <;> omega
      · rw [if_neg c1]
        simp only [List.length_append, List.length_cons, List.length_nil]
        by_cases c2 : y.1 < a <;> by_cases c3 : b < y.2.1 ∧ b ≤ 1099511627776 <;> simp only [c2, c3, if_true, if_false, List.length_cons, List.length_nil, and_self, true_and] <;> (split <;> split <;> split <;> split <;> first | omega | (simp; omega))
    omega
theorem out_len2 {a n : List Int} (h : Val a n) {lo hi : Int} {doF : Int → Int × Bool} {o : List (Int × Int)} (ht : turnL lo hi doF (spansT a n) = some o) : o.length ≤ a.length + 2 := by
  obtain ⟨h1, h2⟩ := turnL_pieces lo hi doF (spansT a n) []
  by_cases hb : ∃ x ∈ spansT a n, BadS lo hi doF x
  · have h3 := h1 hb
    have h4 : turnL lo hi doF (spansT a n) = none := h3
    rw [h4] at ht
    cases ht
  · have hout := h2 (fun x hx hx2 => hb ⟨x, hx, hx2⟩)
    obtain ⟨r1, _⟩ := raw_spec lo hi doF (spansT a n) 0 (spans_chain h) (by omega)
    rw [putS_ded _ _ rfl r1] at hout
    have h4 : turnL lo hi doF (spansT a n) = some (dedF ((spansT a n).flatMap (pieces lo hi doF))) := hout
    rw [h4] at ht
    obtain rfl := Option.some.inj ht
    obtain ⟨_, _, _, d4, _⟩ := dedF_spec _ _ rfl r1
    have h5 := raw_len lo hi doF (spansT a n) 0 (spans_chain h)
    rw [spansT_length] at h5
    have e1 : (if (0 : Int) < lo then 1 else 0) ≤ 1 := by split <;> omega
    have e2 : (if (0 : Int) < hi then 1 else 0) ≤ 1 := by split <;> omega
    omega
theorem resT_len {a n : List Int} (h : Val a n) {lo hi : Int} {doF : Int → Int × Bool} {b c : List Int} (e : (b, c, (0 : Int)) = resT (turnL lo hi doF (spansT a n))) : b.length ≤ a.length + 2 := by
  cases ht : turnL lo hi doF (spansT a n) with
  | none => rw [ht] at e; unfold resT at e; simp at e
  | some o =>
    rw [ht] at e
    have := out_len2 h ht
    unfold resT at e
    dsimp only at e
    split at e
    · simp at e
    · simp only [Prod.mk.injEq] at e
      rw [e.1, List.length_map]
      exact this
theorem take_spec2 {a n : List Int} (h : Val a n) (ha : a.length ≤ 100) {lo hi m : Int} (hx : Qy lo) (hy : Qy hi) (hz : Qy m) (hin : ∀ t, lo ≤ t → t < hi → m ≤ atT t (spansT a n)) :
    ∃ b c, Ev (fun k => steps_Take.f k a n lo hi m) (b, c, 0) ∧ Val b c ∧ b.length ≤ a.length + 2 ∧ ∀ t, 0 ≤ t → t ≤ 1099511627776 → atT t (spansT b c) = if lo ≤ t ∧ t < hi then atT t (spansT a n) - m else atT t (spansT a n) := by
  rcases take_spec h (by omega) hx hy hz with ⟨_, t, t1, t2, _, _, t3⟩ | ⟨b, c, h1, h2, _, _, h3⟩
  · have := hin t t1 t2; omega
  · exact ⟨b, c, h1, h2, resT_len h (ev_uniq h1 (take_ev h (by omega) hx hy hz)), h3⟩
theorem give_spec2 {a n : List Int} (h : Val a n) (ha : a.length ≤ 100) {lo hi m : Int} (hx : Qy lo) (hy : Qy hi) (hz : Qy m) (hin : ∀ t, lo ≤ t → t < hi → 0 ≤ t → t ≤ 1099511627776 → atT t (spansT a n) + m ≤ 1099511627776) :
    ∃ b c, Ev (fun k => steps_Give.f k a n lo hi m) (b, c, 0) ∧ Val b c ∧ b.length ≤ a.length + 2 ∧ ∀ t, 0 ≤ t → t ≤ 1099511627776 → atT t (spansT b c) = if lo ≤ t ∧ t < hi then atT t (spansT a n) + m else atT t (spansT a n) := by
  rcases give_spec h (by omega) hx hy hz with h0 | ⟨b, c, h1, h2, _, h3⟩
  · exfalso
    have hev := give_ev h (show a.length ≤ 2000 by omega) hx hy hz
    have e := ev_uniq h0 hev
    have hg : ∀ x ∈ spansT a n, ¬ BadS lo hi (giveF m) x := good_of h (fun t t1 t2 t3 t4 => by
      have h5 := hin t t1 t2 t3 t4
      have h6 := at_rng h t t3 t4
      unfold giveF
      dsimp only
      rw [wrap64_id (by omega) (by omega), decide_eq_true_eq]
      omega)
    obtain ⟨o, v, r, h1, _⟩ := (turn_spec h lo hi (giveF m)).2 hg
    have hl := out_len2 h h1
    rw [h1, resT_some (by omega)] at e
    simp at e
  · exact ⟨b, c, h1, h2, resT_len h (ev_uniq h1 (give_ev h (by omega) hx hy hz)), h3⟩
variable {n0 n1 b0 b1 c0 c1 : List Int} {i w o N B L : Int}
/-- Is, told. -/
theorem is_ev (M : May n0 n1 b0 b1 c0 c1 i w o N B L) (S C O : Int) : ∃ x : Bool, Ev (fun k => fit_Is.f k n0 n1 b0 b1 c0 c1 i w o N B L S C O) x ∧ (x = true ↔ (Qy S ∧ Qy C ∧ Qy O) ∧ SlotV n0 n1 b0 b1 c0 c1 i w o N B L S C O) := by
  obtain ⟨m, h1, h2⟩ := may_ev n0 n1 b0 b1 c0 c1 i w o N B L [S, C, O] M.ln M.lb M.lc (by simp)
  have qi := M.qi
  have qw := M.qw
  have qo := M.qo
  unfold fit_Is.f
  have hno : ∀ (h : ¬ ((Qy S ∧ Qy C ∧ Qy O) ∧ SlotV n0 n1 b0 b1 c0 c1 i w o N B L S C O)), (false = true ↔ (Qy S ∧ Qy C ∧ Qy O) ∧ SlotV n0 n1 b0 b1 c0 c1 i w o N B L S C O) := fun h => ⟨fun h3 => (by cases h3), fun h3 => absurd h3 h⟩
  have hj : Ev (fun k => fit_Is.j0 k true n0 n1 b0 b1 c0 c1 i w o N B L S C O) false := Ev.succ (by simp only [fit_Is.j0]; exact Ev.pos (by trivial) (Ev.const rfl))
  cases m with
  | false => exact ⟨false, Ev.bind h1 (Ev.neg (by decide) hj), hno (fun h => by
      have := h2.2 ⟨M, fun x hx => by
        simp only [List.mem_cons, List.not_mem_nil, or_false] at hx
        rcases hx with rfl | rfl | rfl
        · exact h.1.1
        · exact h.1.2.1
        · exact h.1.2.2⟩
      cases this)⟩
  | true =>
    have hq := (h2.1 rfl).2
    have qS : Qy S := hq S (by simp)
    have qC : Qy C := hq C (by simp)
    have qO : Qy O := hq O (by simp)
    have e1 : wrap64 (S + i) = S + i := wrap64_id (by omega) (by omega)
    have e2 : wrap64 (C + w) = C + w := wrap64_id (by omega) (by omega)
    rw [e1, e2]
    by_cases d1 : C < S + i
    · exact ⟨false, Ev.bind h1 (Ev.pos rfl (Ev.pos d1 hj)), hno (fun h => by have := h.2.fc; omega)⟩
    by_cases d2 : O < C + w
    · refine ⟨false, Ev.bind h1 (Ev.pos rfl (Ev.neg d1 ?_)), hno (fun h => by have := h.2.fo; omega)⟩
      rw [decide_eq_true d2]
      exact hj
    obtain ⟨x1, f1, g1⟩ := fits_ev M.vc M.lc qS M.qi M.qL.2
    obtain ⟨x2, f2, g2⟩ := fits_ev M.vn M.ln qC M.qw M.qN.2
    obtain ⟨x3, f3, g3⟩ := fits_ev M.vc M.lc qO M.qo M.qL.2
    have e3 : wrap64 (O + o) = O + o := wrap64_id (by omega) (by omega)
    have e4 : wrap64 (O + o - S) = O + o - S := wrap64_id (by omega) (by omega)
    have hw : ∀ x, Ev (fun k => fit_Is.j0 k false n0 n1 b0 b1 c0 c1 i w o N B L S C O) x → Ev (fun k => (fit_may.f k n0 n1 b0 b1 c0 c1 i w o N B L [S, C, O]).bind fun t143 => (if t143 = true then (if C < S + i then (fit_Is.j0 k true n0 n1 b0 b1 c0 c1 i w o N B L S C O) else (fit_Is.j0 k (decide (O < C + w)) n0 n1 b0 b1 c0 c1 i w o N B L S C O)) else (fit_Is.j0 k true n0 n1 b0 b1 c0 c1 i w o N B L S C O))) x := fun x hx => by
      refine Ev.bind h1 (Ev.pos rfl (Ev.neg d1 ?_))
      rw [decide_eq_false d2]
      exact hx
    suffices h : ∃ x : Bool, Ev (fun k => fit_Is.j0 k false n0 n1 b0 b1 c0 c1 i w o N B L S C O) x ∧ (x = true ↔ (Qy S ∧ Qy C ∧ Qy O) ∧ SlotV n0 n1 b0 b1 c0 c1 i w o N B L S C O) by
      obtain ⟨x, h3, h4⟩ := h
      exact ⟨x, hw x h3, h4⟩
    cases x1 with
    | false =>
      refine ⟨false, Ev.succ ?_, hno (fun h => by have := g1.2 h.2.fl1; cases this)⟩
      simp only [fit_Is.j0]
      exact Ev.neg (by decide) (Ev.bind f1 (Ev.neg (by decide) (Ev.const rfl)))
    | true =>
    cases x2 with
    | false =>
      refine ⟨false, Ev.succ ?_, hno (fun h => by have := g2.2 h.2.fn; cases this)⟩
      simp only [fit_Is.j0]
      exact Ev.neg (by decide) (Ev.bind f1 (Ev.pos rfl (Ev.bind f2 (Ev.neg (by decide) (Ev.const rfl)))))
    | true =>
    cases x3 with
    | false =>
      refine ⟨false, Ev.succ ?_, hno (fun h => by have := g3.2 h.2.fl2; cases this)⟩
      simp only [fit_Is.j0]
      exact Ev.neg (by decide) (Ev.bind f1 (Ev.pos rfl (Ev.bind f2 (Ev.pos rfl (Ev.bind f3 (Ev.neg (by decide) (Ev.const rfl)))))))
    | true =>
    have h3 := (g3.1 rfl).1
    obtain ⟨x4, f4, g4⟩ := fits_ev (long := O + o - S) M.vb M.lb qS ⟨by omega, by omega⟩ M.qB.2
    refine ⟨x4, Ev.succ ?_, ?_⟩
    · simp only [fit_Is.j0]
      rw [e3, e4]
      exact Ev.neg (by decide) (Ev.bind f1 (Ev.pos rfl (Ev.bind f2 (Ev.pos rfl (Ev.bind f3 (Ev.pos rfl (Ev.bind f4 (Ev.const rfl))))))))
    · rw [g4]
      exact ⟨fun h => ⟨⟨qS, qC, qO⟩, ⟨g1.1 rfl, by omega, g2.1 rfl, by omega, g3.1 rfl, h⟩⟩, fun h => h.2.fb⟩
end Go.Proofs.Ythbonmpkjkihgaa.Pure
