/- ShareTells: Check, Of, Add and Fade tell what the document says. -/
import Derived.Test.YtjhpgfgpchgabaaShareRef
namespace Go.Proofs.Ytjhpgfgpchgabaa.Pure
open Go.RowKit Go.Proofs.Ytjhpgfgpchgabaa.P Go.Proofs.YtjhpgfgpchgabaaW.PrintWords Go.Proofs.YtjhpgfgpchgabaaW.PrintLast
set_option linter.unusedVariables false
set_option linter.unusedSimpArgs false

theorem radd3 {a b : Int} (ha : 0 ≤ a ∧ a ≤ 1099511627776) (hb : 0 ≤ b ∧ b ≤ 1099511627776) : forebayref03_Add.f a b = some (mnT (a + b)) := by
  have c : ∀ x : Int, 0 ≤ x → x ≤ 1099511627776 → forebayref03_Of.f x = some x := fun x h0 h1 => by unfold forebayref03_Of.f; rw [if_neg (by omega), if_neg (by omega)]
  unfold forebayref03_Add.f
  rw [c a ha.1 ha.2, Option.bind_some, c b hb.1 hb.2, Option.bind_some, wrap64_id (by omega) (by omega)]
  unfold forebayref03_Of.f mnT
  rw [if_neg (by omega)]
  by_cases h : a + b > 1099511627776
  · rw [if_pos h, if_neg (by omega)]
    rfl
  · rw [if_neg h]
    by_cases h2 : a + b < 1099511627776
    · rw [if_pos h2]
      rfl
    · rw [if_neg h2]
      show some (a + b) = some 1099511627776
      congr 1
      omega
/-- The document's loop of Add, over what is left of the row. -/
def refL (u : ByteArray) (n : Int) : List Sh → Bool → List Sh
  | [], d => if d = true then [] else [⟨u, n⟩]
  | x :: l, d => if x.f0.toList = u.toList then ⟨x.f0, mnT (x.f1 + n)⟩ :: refL u n l true else if d = true then x :: refL u n l d else if ltT u x.f0 = true then ⟨u, n⟩ :: x :: refL u n l true else x :: refL u n l d
theorem refL_done {u : ByteArray} {n : Int} {l : List Sh} (h : ∀ x ∈ l, ¬ x.f0.toList = u.toList) : refL u n l true = l := by
  induction l with
  | nil => rfl
  | cons x l ih =>
    rw [refL, if_neg (h x List.mem_cons_self), if_pos rfl, ih fun y hy => h y (List.mem_cons_of_mem _ hy)]
theorem refL_add {u : ByteArray} {n : Int} {l : List Sh} (hs : Sorted l) : refL u n l (n == 0) = addL l u n := by
  induction l with
  | nil =>
    unfold refL addL
    by_cases h : n = 0
    · rw [if_pos (by simpa using h), if_pos h]
    · rw [if_neg (by simpa using h), if_neg h]
  | cons x l ih =>
    obtain ⟨s1, s2⟩ := List.pairwise_cons.1 hs
    rw [refL, addL]
    by_cases hx : x.f0.toList = u.toList
    · rw [if_pos hx, if_pos hx, refL_done]
      intro y hy e
      have := s1 y hy
      exact lt_ne this (hx.trans e.symm)
    · rw [if_neg hx, if_neg hx]
      by_cases hlt : ltT u x.f0 = true
      · have hno : ∀ y ∈ l, ¬ y.f0.toList = u.toList := fun y hy e => lt_ne (lt_tr hlt (s1 y hy)) e.symm
        rw [if_pos hlt, if_pos hlt, refL_done hno]
        by_cases h : n = 0
        · rw [if_pos (by simpa using h), if_pos h, show (n == 0) = true by simpa using h, refL_done hno]
        · rw [if_neg (by simpa using h), if_neg h]
      · rw [if_neg hlt, if_neg hlt, ih s2]
        split <;> rfl
theorem refL_len (u : ByteArray) (n : Int) (l : List Sh) : ∀ d, (refL u n l d).length ≤ l.length + 1 := by
  induction l with
  | nil => intro d; unfold refL; split <;> simp
  | cons x l ih =>
    intro d
    have hd : (refL u n l true).length ≤ l.length + 1 := ih true
    have hd2 := ih d
    rw [refL]
    split
    · simpa using hd
    · split
      · simpa using hd2
      · split
        · have : (refL u n l true).length ≤ l.length := by
            clear ih hd hd2
            induction l with
            | nil => simp [refL]
            | cons y l ih =>
              rw [refL]
              split
              · simpa using ih
              · rw [if_pos rfl]
                simpa using ih
          simp
          omega
        · simpa using hd2
def cutR (R : List Sh) : List Sh × Int := if (R.length : Int) > 100 then ([], 6) else (R, 0)
theorem radd_l {l : List Sh} (hl : l.length ≤ 100) (hf : ∀ x ∈ l, Fine x) (u : ByteArray) {n : Int} (hn : 0 ≤ n ∧ n ≤ 1099511627776) (d : Nat) : ∀ (i : Nat) (out : List Sh) (dn : Bool), i + d = l.length → out.length ≤ 2 * i → Ev (fun k => forebayref24_Add.l0 k l u n out dn (i : Int)) (cutR (out ++ refL u n (l.drop i) dn)) := by
  have cut : ∀ R : List Sh, Ev (fun _ => if (R.length : Int) > 100 then some (([] : List Sh), (6 : Int)) else some (R, 0)) (cutR R) := fun R => by
    unfold cutR
    refine Ev.ite (fun h => ?_) (fun h => ?_)
    · rw [if_pos h]; exact Ev.now _
    · rw [if_neg h]; exact Ev.now _
  induction d with
  | zero =>
    intro i out dn hi ho
    refine Ev.succ ?_
    simp only [forebayref24_Add.l0]
    rw [List.drop_eq_nil_of_le (by omega)]
    refine Ev.neg (by omega) ?_
    cases dn with
    | true =>
      refine Ev.pos rfl ?_
      rw [show out ++ refL u n [] true = out by simp [refL]]
      exact cut out
    | false =>
      refine Ev.neg (by simp) (Ev.pos (by omega) (Ev.some_bind ?_))
      rw [show refL u n [] false = [⟨u, n⟩] by simp [refL]]
      exact cut _
  | succ d ih =>
    intro i out dn hi ho
    have hil : i < l.length := by omega
    have hx := hf _ (List.getElem_mem hil)
    refine Ev.succ ?_
    simp only [forebayref24_Add.l0]
    rw [rd_eq, getD_mem hil, wsucc i (by omega), List.drop_eq_getElem_cons hil, refL]
    refine Ev.pos (by omega) (Ev.pos (by omega) ?_)
    have step : ∀ (y : Sh) (b : Bool), Ev (fun k => if out.length < 5864062014805 then forebayref24_Add.l0 k l u n (out ++ [y]) b ((i + 1 : Nat) : Int) else none) (cutR (out ++ (y :: refL u n (l.drop (i + 1)) b))) := fun y b => by
      have := ih (i + 1) (out ++ [y]) b (by omega) (by simp; omega)
      rw [List.append_assoc] at this
      exact Ev.pos (by omega) this
    by_cases h1 : l[i].f0.toList = u.toList
    · rw [if_pos h1]
      exact Ev.pos h1 (Ev.eq_bind (radd3 ⟨by have := hx.2.1; omega, hx.2.2⟩ hn) (step _ true))
    · rw [if_neg h1]
      refine Ev.neg h1 ?_
      cases dn with
      | true => exact Ev.pos rfl (step l[i] true)
      | false =>
        rw [if_neg (by simp)]
        refine Ev.neg (by simp) ?_
        by_cases h2 : ltT u l[i].f0 = true
        · rw [if_pos h2]
          refine Ev.pos h2 (Ev.pos (by omega) (Ev.some_bind (Ev.pos (by simp; omega) ?_)))
          have := ih (i + 1) (out ++ [⟨u, n⟩] ++ [l[i]]) true (by omega) (by simp; omega)
          rw [show out ++ [⟨u, n⟩] ++ [l[i]] ++ refL u n (l.drop (i + 1)) true = out ++ ⟨u, n⟩ :: l[i] :: refL u n (l.drop (i + 1)) true by simp] at this
          exact this
        · rw [if_neg h2]
          exact Ev.neg h2 (step l[i] false)
theorem addL_length {l : List Sh} {u : ByteArray} {n : Int} (hs : Sorted l) : (addL l u n).length = if hasU l u = true ∨ n = 0 then l.length else l.length + 1 := by
  induction l with
  | nil =>
    unfold addL hasU
    by_cases h : n = 0
    · simp [h]
    · simp [h]
  | cons x l ih =>
    obtain ⟨s1, s2⟩ := List.pairwise_cons.1 hs
    have hc : hasU (x :: l) u = ((x.f0.toList == u.toList) || hasU l u) := by unfold hasU; rw [List.any_cons]
    rw [addL]
    by_cases hx : x.f0.toList = u.toList
    · rw [if_pos hx, if_pos (.inl (by rw [hc, beq_iff_eq.2 hx]; rfl))]
      rfl
    · rw [if_neg hx]
      have hc2 : hasU (x :: l) u = hasU l u := by rw [hc, beq_eq_false_iff_ne.2 hx]; rfl
      rw [hc2]
      by_cases hlt : ltT u x.f0 = true
      · have hno : hasU l u = false := by
          unfold hasU
          rw [List.any_eq_false]
          intro y hy
          simpa using fun e : y.f0.toList = u.toList => lt_ne (lt_tr hlt (s1 y hy)) e.symm
        rw [if_pos hlt, hno]
        by_cases h : n = 0
        · rw [if_pos h, if_pos (.inr h)]
        · rw [if_neg h, if_neg (by simp [h])]
          rfl
      · rw [if_neg hlt, List.length_cons, ih s2, List.length_cons]
        split <;> rfl
theorem radd_f {l : List Sh} (hl : l.length ≤ 1000000) (hs : Short l) {u : ByteArray} (hu : u.size ≤ 140737488355328) (n : Int) : Ev (fun k => forebayref24_Add.f k l u n) (addR l u n) := by
  unfold forebayref24_Add.f
  have bad : Ev (fun k => forebayref24_Add.j0 k l u n true) ([], 2) := ⟨1, fun k hk => by
    obtain ⟨k, rfl⟩ : ∃ j, k = j + 1 := ⟨k - 1, by omega⟩
    simp only [forebayref24_Add.j0]
    rw [if_pos trivial]⟩
  refine Ev.eq_bind (quant_q n) ?_
  by_cases hq : quantP n = true
  case neg =>
    rw [show addR l u n = ([], 2) by unfold addR; rw [if_neg hq]]
    exact Ev.neg hq bad
  refine Ev.pos hq (Ev.bind (name_f u hu) ?_)
  cases hn : nameP u with
  | false =>
    rw [show addR l u n = ([], 2) by unfold addR; rw [if_pos hq, if_neg (by rw [hn]; simp)]]
    exact bad
  | true =>
    refine Ev.succ ?_
    simp only [forebayref24_Add.j0]
    refine Ev.neg (by simp) (Ev.bind (rcheck_f l hl hs) ?_)
    by_cases g : Good l
    case neg =>
      rw [show addR l u n = ([], 240) by unfold addR; rw [if_pos hq, if_pos hn, if_neg (by rw [ok_false g]; simp)], ok_false g]
      exact Ev.neg (by simp) (Ev.now _)
    rw [ok_true g]
    have hn' : 0 ≤ n ∧ n ≤ 1099511627776 := by unfold quantP at hq; simpa using hq
    refine Ev.pos rfl ?_
    have := radd_l g.len g.fine u hn' l.length 0 [] (n == 0) (by omega) (by simp)
    rw [List.nil_append, List.drop_zero, refL_add g.sorted] at this
    have e : addR l u n = cutR (addL l u n) := by
      unfold cutR
      have hlen := addL_length (u := u) (n := n) g.sorted
      have h100 := g.len
      rcases add_eq g hq hn with ⟨e, h1, h2, h3⟩ | ⟨e, h⟩
      · rw [e, if_pos]
        rw [hlen, if_neg (by rw [h1]; simp; omega)]
        omega
      · rw [e, if_neg]
        rw [hlen]
        split
        · omega
        · next hh =>
          rcases h with h | h
          · exact absurd (.inl h) hh
          · have : ¬ n = 0 := fun e => hh (.inr e)
            omega
    rw [e]
    exact this
-- Fade
theorem rfade_l1 {l : List Sh} (hl : l.length ≤ 1000000) {n : Nat} (hn : n ≤ 1099511627776) {r : List Sh × Int} (out : List Sh) (i : Nat) (name : ByteArray) (hi : i < l.length) (ho : out.length ≤ i)
    (d : Nat) : ∀ (x : Int) (j : Nat), 0 ≤ x → x < 2 ^ d → j ≤ n → d ≤ 62 →
      (0 < x / 2 ^ (n - j) → Ev (fun k => forebayref24_Fade.l0 k l (n : Int) (out ++ [⟨name, x / 2 ^ (n - j)⟩]) ((i + 1 : Nat) : Int)) r) →
      (¬ 0 < x / 2 ^ (n - j) → Ev (fun k => forebayref24_Fade.l0 k l (n : Int) out ((i + 1 : Nat) : Int)) r) →
      Ev (fun k => forebayref24_Fade.l1 k l (n : Int) out (i : Int) (j : Int) name x) r := by
  have zero : ∀ (x : Int) (j : Nat), x = 0 → (¬ 0 < x / 2 ^ (n - j) → Ev (fun k => forebayref24_Fade.l0 k l (n : Int) out ((i + 1 : Nat) : Int)) r) → Ev (fun k => forebayref24_Fade.l1 k l (n : Int) out (i : Int) (j : Int) name x) r := by
    intro x j hx h
    subst hx
    have h0 := h (by simp)
    refine Ev.succ ?_
    simp only [forebayref24_Fade.l1]
    rw [wsucc i (by omega)]
    refine Ev.ite (fun _ => Ev.neg (by omega) h0) (fun _ => Ev.neg (by omega) h0)
  induction d with
  | zero =>
    intro x j h0 h1 hj hd ha hb
    exact zero x j (by have : (2 : Int) ^ 0 = 1 := rfl; omega) hb
  | succ d ih =>
    intro x j h0 h1 hj hd ha hb
    by_cases hz : x = 0
    · exact zero x j hz hb
    refine Ev.succ ?_
    simp only [forebayref24_Fade.l1]
    rw [wsucc i (by omega), wsucc j (by omega)]
    have hp : (2 : Int) ^ (d + 1) = 2 ^ d * 2 := Int.pow_succ 2 d
    by_cases hjn : j < n
    · have ex : n - j = 1 + (n - (j + 1)) := by omega
      have hxl : x ≤ 4611686018427387904 * 2 := by
        have : (2 : Int) ^ (d + 1) ≤ 2 ^ 62 := two_pow_le (by omega)
        have e : (2 : Int) ^ 62 = 4611686018427387904 := by decide
        omega
      have et : wrap64 (Int.tdiv x 2) = x / 2 := by
        rw [Int.tdiv_eq_ediv_of_nonneg h0]
        unfold wrap64
        omega
      have ed : x / 2 / 2 ^ (n - (j + 1)) = x / 2 ^ (n - j) := by
        have := div_pow x 1 (n - (j + 1))
        rw [Int.pow_one] at this
        rw [this, ex]
      rw [et]
      refine Ev.pos (by omega) (Ev.pos (by omega) (ih (x / 2) (j + 1) (by omega) (by omega) (by omega) (by omega) (fun h => ?_) (fun h => ?_)))
      · rw [ed] at h ⊢
        exact ha h
      · rw [ed] at h
        exact hb h
    · have e0 : n - j = 0 := by omega
      rw [e0] at ha
      have := ha (by simp; omega)
      rw [show x / 2 ^ 0 = x by simp] at this
      exact Ev.neg (by omega) (Ev.pos (by omega) (Ev.pos (by omega) this))
theorem rfade_l {l : List Sh} (hl : l.length ≤ 1000000) (hf : ∀ x ∈ l, 0 ≤ x.f1 ∧ x.f1 ≤ 1099511627776) {n : Nat} (hn : n ≤ 1099511627776) (d : Nat) : ∀ (i : Nat) (out : List Sh), i + d = l.length → out.length ≤ i → Ev (fun k => forebayref24_Fade.l0 k l (n : Int) out (i : Int)) (out ++ fadeL n (l.drop i), 0) := by
  induction d with
  | zero =>
    intro i out hi ho
    refine Ev.succ ?_
    simp only [forebayref24_Fade.l0]
    rw [List.drop_eq_nil_of_le (by omega), show fadeL n [] = [] from rfl, List.append_nil]
    exact Ev.neg (by omega) (Ev.now _)
  | succ d ih =>
    intro i out hi ho
    have hil : i < l.length := by omega
    have hx := hf _ (List.getElem_mem hil)
    refine Ev.succ ?_
    simp only [forebayref24_Fade.l0]
    rw [rd_eq, getD_mem hil, List.drop_eq_getElem_cons hil, fadeL_cons]
    refine Ev.pos (by omega) (Ev.pos (by omega) ?_)
    have h41 : (2 : Int) ^ 41 = 2199023255552 := by decide
    refine rfade_l1 hl hn out i l[i].f0 hil ho 41 l[i].f1 0 hx.1 (by omega) (Nat.zero_le _) (by omega) (fun h => ?_) (fun h => ?_)
    · rw [Nat.sub_zero] at h ⊢
      rw [if_pos h]
      have := ih (i + 1) (out ++ [⟨l[i].f0, l[i].f1 / 2 ^ n⟩]) (by omega) (by simp; omega)
      rw [List.append_assoc] at this
      exact this
    · rw [Nat.sub_zero] at h
      rw [if_neg h]
      exact ih (i + 1) out (by omega) (by omega)
theorem rfade_f {l : List Sh} (hl : l.length ≤ 1000000) (hs : Short l) (a b c : Int) : Ev (fun k => forebayref24_Fade.f k l a b c) (fadeR l a b c) := by
  unfold forebayref24_Fade.f
  have bad : Ev (fun k => forebayref24_Fade.j0 k l a b c true) ([], 2) := ⟨1, fun k hk => by
    obtain ⟨k, rfl⟩ : ∃ j, k = j + 1 := ⟨k - 1, by omega⟩
    simp only [forebayref24_Fade.j0]
    rw [if_pos trivial]⟩
  refine Ev.eq_bind (quant_q a) ?_
  by_cases ha : quantP a = true
  case neg =>
    rw [show fadeR l a b c = ([], 2) by unfold fadeR; rw [if_neg (by simp [ha])]]
    exact Ev.neg ha bad
  refine Ev.pos ha (Ev.eq_bind (quant_q b) ?_)
  by_cases hb : quantP b = true
  case neg =>
    rw [show fadeR l a b c = ([], 2) by unfold fadeR; rw [if_neg (by simp [hb])]]
    exact Ev.neg hb bad
  refine Ev.pos hb (Ev.eq_bind (quant_q c) ?_)
  cases hc : quantP c with
  | false =>
    rw [show fadeR l a b c = ([], 2) by unfold fadeR; rw [if_neg (by simp [hc])]]
    exact bad
  | true =>
    have ha' : 0 ≤ a ∧ a ≤ 1099511627776 := by unfold quantP at ha; simpa using ha
    have hb' : 0 ≤ b ∧ b ≤ 1099511627776 := by unfold quantP at hb; simpa using hb
    refine Ev.succ ?_
    simp only [forebayref24_Fade.j0]
    refine Ev.neg (by simp) (Ev.bind (rcheck_f l hl hs) ?_)
    by_cases g : Good l
    case neg =>
      rw [show fadeR l a b c = ([], 240) by unfold fadeR; rw [if_pos (by simp [ha, hb, hc]), if_neg (by rw [ok_false g]; simp)], ok_false g]
      exact Ev.neg (by simp) (Ev.now _)
    rw [ok_true g, fadeR_eq g ha hb hc]
    refine Ev.pos rfl ?_
    obtain ⟨p0, p1, p2⟩ := fine_pos g
    have go : ∀ N : Nat, N ≤ 1099511627776 → (N = fadeN a b c ∨ (41 ≤ N ∧ 41 ≤ fadeN a b c)) → Ev (fun k => forebayref24_Fade.j2 k l (N : Int)) (fadeL (fadeN a b c) l, 0) := by
      intro N hN hor
      have e : fadeL N l = fadeL (fadeN a b c) l := by
        rcases hor with rfl | ⟨h1, h2⟩
        · rfl
        · rw [fade_big p2 h1, fade_big p2 h2]
      refine Ev.succ ?_
      simp only [forebayref24_Fade.j2]
      have := rfade_l hl p2 hN l.length 0 [] (by omega) (by simp)
      rw [List.nil_append, List.drop_zero, e] at this
      exact this
    have zero : fadeN a b c = 0 → Ev (fun k => forebayref24_Fade.j1 k l a b c 0 false) (fadeL (fadeN a b c) l, 0) := fun h => by
      refine Ev.succ ?_
      simp only [forebayref24_Fade.j1]
      exact Ev.neg (by simp) (go 0 (by omega) (.inl h.symm))
    refine Ev.ite (fun h1 => ?_) (fun h1 => zero (by unfold fadeN; rw [if_neg (fun e => h1 e.1)]))
    by_cases h2 : a < b
    case neg =>
      rw [decide_eq_false (show ¬ b > a from h2)]
      exact zero (by unfold fadeN; rw [if_neg (fun e => h2 e.2)])
    rw [decide_eq_true (show b > a from h2)]
    refine Ev.succ ?_
    simp only [forebayref24_Fade.j1]
    refine Ev.pos trivial (Ev.neg (by omega) ?_)
    have e1 : Int.tdiv b c = b / c := Int.tdiv_eq_ediv_of_nonneg hb'.1
    have e2 : Int.tdiv a c = a / c := Int.tdiv_eq_ediv_of_nonneg ha'.1
    have q0 : 0 ≤ a / c := Int.ediv_nonneg ha'.1 (by omega)
    have q1 : a / c ≤ b / c := Int.ediv_le_ediv h1 (by omega)
    have q2 : b / c ≤ b := Int.ediv_le_self _ hb'.1
    obtain ⟨N, hN⟩ := Int.eq_ofNat_of_zero_le (show 0 ≤ b / c - a / c by omega)
    have ew : wrap64 (wrap64 (Int.tdiv b c) - wrap64 (Int.tdiv a c)) = (N : Int) := by
      rw [e1, e2, wrap64_id (x := b / c) (by omega) (by omega), wrap64_id (x := a / c) (by omega) (by omega), wrap64_id (by omega) (by omega), hN]
    rw [ew]
    have eN : fadeN a b c = if b / c - a / c < 64 then (b / c - a / c).toNat else 64 := by unfold fadeN; rw [if_pos ⟨h1, h2⟩, e1, e2]
    refine go N (by omega) ?_
    by_cases h3 : b / c - a / c < 64
    · left
      rw [eN, if_pos h3, hN]
      rfl
    · right
      rw [eN, if_neg h3]
      omega
theorem addR_len (l : List Sh) (u : ByteArray) (n : Int) (hl : l.length ≤ 1000) : (addR l u n).1.length ≤ 1000000 := by
  unfold addR
  have hf : ∀ m : List Sh, ∀ i, ((addAt m i n).filter usedP).length ≤ m.length := fun m i => by
    have := List.length_filter_le usedP (addAt m i n)
    unfold addAt at *
    rw [List.length_set] at this
    exact this
  split
  · split
    · split
      · split
        · have := hf l (placeI l u)
          show ((addAt l (placeI l u) n).filter usedP).length ≤ _
          omega
        · split
          · simp
          · have := hf (l.take (placeI l u) ++ ⟨u, 0⟩ :: l.drop (placeI l u)) (placeI l u)
            have h2 : (l.take (placeI l u) ++ (⟨u, 0⟩ : Sh) :: l.drop (placeI l u)).length = l.length + 1 := by
              have := halfT_le l u
              simp
              omega
            show ((addAt _ _ n).filter usedP).length ≤ _
            omega
      · simp
    · simp
  · simp
theorem fadeR_len (l : List Sh) (a b c : Int) (hl : l.length ≤ 1000) : (fadeR l a b c).1.length ≤ 1000000 := by
  unfold fadeR
  split
  · split
    · have := List.length_filter_le usedP (halved (fadeN a b c) l)
      rw [halved_len] at this
      show ((halved (fadeN a b c) l).filter usedP).length ≤ _
      omega
    · simp
  · simp
theorem ShareTells : forebaylaw24_ShareTells.Pure := by
  intro l u n a b c hinv
  have hsh : Short l := fun x hx => by
    have h1 := hinv.1.2.2 x hx
    have h2 := h1.1
    exact Nat.le_trans h2 (by omega)
  suffices h : TellsOk l u n a b c by unfold forebaylaw24_ShareTells.f; exact if_pos h
  by_cases h1 : (l.length : Int) > 120
  · exact .great (by unfold forebaylaw24_great.f; rw [if_pos h1]) head_true
  by_cases h2 : (u.size : Int) > 100
  · exact .great (by unfold forebaylaw24_great.f; rw [if_neg h1, decide_eq_true h2]) head_true
  have hg : forebaylaw24_great.f l u = some false := by unfold forebaylaw24_great.f; rw [if_neg h1, decide_eq_false h2]
  have hl : l.length ≤ 120 := by omega
  obtain ⟨k1, r1⟩ := radd_f (show l.length ≤ 1000000 by omega) hsh (u := u) (by omega) n
  obtain ⟨k2, r2⟩ := rfade_f (show l.length ≤ 1000000 by omega) hsh a b c
  obtain ⟨k3, r3⟩ := rcheck_f l (by omega) hsh
  obtain ⟨k4, r4⟩ := rof_f l (by omega) hsh u
  obtain ⟨k5, r5⟩ := same_same (addR l u n).1 (addR_len l u n (by omega))
  obtain ⟨k6, r6⟩ := same_same (fadeR l a b c).1 (fadeR_len l a b c (by omega))
  exact .good (k1 + k2 + k3 + k4 + k5 + k6) (addR l u n).1 (fadeR l a b c).1 (addR l u n).2 (fadeR l a b c).2 _ _ hg (add_f (by omega) u n) (r1 _ (by omega)) (fade_f (by omega) a b c) (r2 _ (by omega)) (check_f (by omega)) (r3 _ (by omega)) (of_f (by omega) u) (r4 _ (by omega)) (r5 _ (by omega)) (r6 _ (by omega)) head_true
end Go.Proofs.Ytjhpgfgpchgabaa.Pure
