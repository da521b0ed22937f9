/- ShareFades: to fade twice, one behind the other, is to fade at once; nobody's use grows. -/
import Derived.Test.YtjhpgfgpchgabaaShareFade
namespace Go.Proofs.Ytjhpgfgpchgabaa.Pure
open Go.RowKit Go.Proofs.Ytjhpgfgpchgabaa.P Go.Proofs.YtjhpgfgpchgabaaW.PrintWords Go.Proofs.YtjhpgfgpchgabaaW.PrintLast
set_option linter.unusedVariables false
set_option linter.unusedSimpArgs false

theorem fade_f {l : List Sh} (hl : l.length ≤ 1000000) (a b c : Int) : share_Fade.f l a b c = some (fadeR l a b c) := by unfold share_Fade.f; rw [if_pos hl]
theorem of_f {l : List Sh} (hl : l.length ≤ 1000000) (u : ByteArray) : share_Of.f l u = some (ofT l u) := by unfold share_Of.f; rw [if_pos hl]
theorem check_f {l : List Sh} (hl : l.length ≤ 1000000) : share_Check.f l = some (if okShares l then 0 else 240) := by unfold share_Check.f; rw [if_pos hl]
theorem fades_j0 {l : List Sh} (g : Good l) {a b c d : Int} (hab : a ≤ b) (hbc : b ≤ c) (ha : quantP a = true) (hc : quantP c = true) (hd : quantP d = true) (u v : ByteArray) : Ev (fun k => forebaylaw24_ShareFades.j0 k l a b c d u v false) true := by
  have ha' : 0 ≤ a ∧ a ≤ 1099511627776 := by unfold quantP at ha; simpa using ha
  have hc' : 0 ≤ c ∧ c ≤ 1099511627776 := by unfold quantP at hc; simpa using hc
  have hb : quantP b = true := by unfold quantP; simp; omega
  have hl := g.len
  refine Ev.succ ?_
  simp only [forebaylaw24_ShareFades.j0]
  refine Ev.neg (by simp) (Ev.some_bind (Ev.pos (by simp; omega) ?_))
  have g1 := fade_good g (fadeN a b d)
  have g2 := fade_good g (fadeN a c d)
  have e1 := fadeR_eq g ha hb hd
  have e2 := fadeR_eq g1 hb hc hd
  have e3 := fadeR_eq g ha hc hd
  rw [fade_twice g ha'.1 hab hbc] at e2
  have hl1 := g1.len
  have q1 : share_Fade.f l a b d = some (fadeL (fadeN a b d) l, 0) := by rw [fade_f (by omega), e1]
  have q2 : share_Fade.f (fadeL (fadeN a b d) l) b c d = some (fadeL (fadeN a c d) l, 0) := by rw [fade_f (by omega), e2]
  have q3 : share_Fade.f l a c d = some (fadeL (fadeN a c d) l, 0) := by rw [fade_f (by omega), e3]
  refine Ev.eq_bind q1 (Ev.eq_bind q2 (Ev.eq_bind q3 ?_))
  have hl2 := g2.len
  refine Ev.pos rfl (Ev.pos rfl (Ev.pos rfl (Ev.bind (same_same (fadeL (fadeN a c d) l) (by omega)) (Ev.pos rfl (Ev.bind (same_same l (by omega)) (Ev.pos rfl (Ev.eq_bind (by rw [check_f (by show (fadeL (fadeN a c d) l).length ≤ _; omega), ok_true g2]) ?_)))))))
  refine Ev.succ ?_
  simp only [forebaylaw24_ShareFades.j1]
  have o1 : ∀ w, share_Of.f l w = some (useL l w) := fun w => by rw [of_f (by omega), of_eq g]
  have o2 : ∀ w, share_Of.f (fadeL (fadeN a c d) l) w = some (useL l w / 2 ^ fadeN a c d) := fun w => by rw [of_f (by omega), of_eq g2, useL_fade g.sorted (fine_pos g).1]
  refine Ev.neg (by simp) (Ev.eq_bind (o1 u) (Ev.eq_bind (o1 v) (Ev.eq_bind (o2 u) (Ev.eq_bind (o2 v) ?_))))
  have ru := useL_rng g.fine u
  have rv := useL_rng g.fine v
  have done : Ev (fun _ => (forebaylaw24_head.f).bind fun t => some t) true := Ev.const (by rw [head_true]; rfl)
  refine Ev.pos (div_le_self ru.1 _) (Ev.pos (div_le_self rv.1 _) (Ev.ite (fun _ => done) (fun h => Ev.pos ?_ done)))
  exact Int.ediv_le_ediv (pow_pos2 _) (by omega)
theorem quant_q (x : Int) : forebayref04_Quantity.f x = some (quantP x) := by
  unfold forebayref04_Quantity.f quantP
  by_cases h : x ≥ 0
  · rw [if_pos h]
    congr 1
    exact decide_eq_decide.2 ⟨fun h2 => ⟨h, h2⟩, fun h2 => h2.2⟩
  · rw [if_neg h, decide_eq_false (fun h2 => h h2.1)]
theorem ShareFades : forebaylaw24_ShareFades.Pure := by
  intro l a b c d u v _
  refine Ev.rounds ?_
  unfold forebaylaw24_ShareFades.f
  have bad : Ev (fun k => forebaylaw24_ShareFades.j0 k l a b c d u v true) true := ⟨1, fun k hk => by
    obtain ⟨k, rfl⟩ : ∃ j, k = j + 1 := ⟨k - 1, by omega⟩
    simp only [forebaylaw24_ShareFades.j0]
    rw [if_pos trivial, head_true]
    rfl⟩
  unfold forebaylaw24_great.f
  by_cases h1 : (l.length : Int) > 120
  · rw [if_pos h1]
    exact Ev.some_bind (Ev.pos rfl bad)
  rw [if_neg h1]
  refine Ev.some_bind ?_
  by_cases h2 : (u.size : Int) > 100
  · exact Ev.pos (by simpa using h2) bad
  refine Ev.neg (by simpa using h2) ?_
  by_cases h3 : (v.size : Int) > 100
  · exact Ev.pos h3 bad
  refine Ev.neg h3 (Ev.eq_bind (check_f (by omega)) ?_)
  by_cases hg : Good l
  case neg =>
    rw [ok_false hg]
    exact Ev.neg (by simp) bad
  rw [ok_true hg]
  refine Ev.pos rfl ?_
  by_cases h4 : a > b
  · exact Ev.pos h4 bad
  refine Ev.neg h4 ?_
  by_cases h5 : b > c
  · exact Ev.pos h5 bad
  refine Ev.neg h5 (Ev.eq_bind (quant_q a) ?_)
  by_cases ha : quantP a = true
  case neg => exact Ev.neg ha bad
  refine Ev.pos ha (Ev.eq_bind (quant_q c) ?_)
  by_cases hc : quantP c = true
  case neg => exact Ev.neg hc bad
  refine Ev.pos hc (Ev.eq_bind (quant_q d) ?_)
  cases hd : quantP d with
  | false => exact bad
  | true => exact fades_j0 hg (by omega) (by omega) ha hc hd u v
end Go.Proofs.Ytjhpgfgpchgabaa.Pure
