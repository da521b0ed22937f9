/- NodesTurns: a node that fails and is up again is free; one that is drained and opened is as it was. -/
import Derived.Test.YtifebcdkckjphaaNodesGive
import Derived.Test.YtifebcdkckjphaaPx5
namespace Go.Proofs.Ytifebcdkckjphaa.Pure
open Go.RowKit Go.Proofs.Ytifebcdkckjphaa.P Go.Proofs.YtifebcdkckjphaaW.PrintWords Go.Proofs.YtifebcdkckjphaaW.PrintLast
set_option linter.unusedVariables false
set_option linter.unusedSimpArgs false

theorem wrap_succ (i : Nat) (h : i ≤ 1000000) : wrap64 ((i : Int) + 1) = ((i + 1 : Nat) : Int) := by unfold wrap64; omega
theorem same_l (l : List S35) (hl : l.length ≤ 1000) (d : Nat) : ∀ i : Nat, i + d = l.length → Ev (fun k => forebayref20_Same.l0 k l l (i : Int)) true := by
  induction d with
  | zero =>
    intro i hi
    refine Ev.succ ?_
    simp only [forebayref20_Same.l0]
    exact Ev.neg (by omega) (Ev.now _)
  | succ d ih =>
    intro i hi
    refine Ev.succ ?_
    simp only [forebayref20_Same.l0]
    rw [wrap_succ i (by omega)]
    exact Ev.pos (by omega) (Ev.pos (by omega) (Ev.pos (by omega) (Ev.neg (by simp) (ih (i + 1) (by omega)))))
theorem same_same (l : List S35) (hl : l.length ≤ 1000) : Ev (fun k => forebayref20_Same.f k l l) true := by
  unfold forebayref20_Same.f
  exact Ev.pos rfl (same_l l hl l.length 0 (by omega))
theorem set_getD (l : List S35) (j i : Nat) (y : S35) (hi : i < l.length) : (l.set j y).getD i z35 = if i = j then y else l.getD i z35 := by
  by_cases h : i = j
  · subst h
    rw [if_pos rfl, List.getD_eq_getElem?_getD, List.getElem?_set_self hi]; rfl
  · rw [if_neg h, List.getD_eq_getElem?_getD, List.getElem?_set_ne (fun e => h e.symm), ← List.getD_eq_getElem?_getD]
theorem set_ok {l : List S35} (h : okNodes l = true) {j : Nat} (hj : j < l.length) {y : S35} (hy : badN y = false) : okNodes (l.set j y) = true := by
  have hl := ok_len h
  refine ok_of (by rw [List.length_set]; exact hl.1) (by rw [List.length_set]; exact hl.2) (fun i hi => ?_)
  rw [List.length_set] at hi
  rw [set_getD l j i y hi]
  split
  · exact hy
  · exact ok_all h hi
theorem count_one (p : S35 → Bool) (l : List S35) (j : Nat) (y : S35) (hj : j < l.length) (h1 : p (l.getD j z35) = true) (h2 : p y = false) :
    ∀ i, i ≤ l.length → (posU p (l.set j y) i).length + (if j < i then 1 else 0) = (posU p l i).length := by
  intro i
  induction i with
  | zero => intro _; unfold posU; simp
  | succ i ih =>
    intro hi
    have hi' : i < l.length := by omega
    have e := ih (by omega)
    have hg := set_getD l j i y hi'
    by_cases he : i = j
    · subst he
      rw [if_pos rfl] at hg
      rw [posU_no (by rw [hg]; exact h2), posU_yes h1, List.length_append, List.length_singleton, if_pos (by omega), ← e, if_neg (by omega)]
    · rw [if_neg he] at hg
      rw [posU_succ, posU_succ, hg, List.length_append, List.length_append]
      by_cases hji : j < i
      · rw [if_pos hji] at e
        rw [if_pos (show j < i + 1 by omega), ← e]; omega
      · rw [if_neg hji] at e
        rw [if_neg (show ¬ j < i + 1 by omega), ← e]; omega
theorem turnR_yes {dp : S35 → Bool} {ds : S35 → S35} {l : List S35} {j : Nat} {x : S35} (hk : okNodes l = true) (hj : j < l.length) (hx : l.getD j z35 = x) (hd : dp x = true) : turnR dp ds l (j : Int) = (l.set j (ds x), 0) := by
  unfold turnR
  rw [if_pos hk, if_pos ⟨Int.natCast_nonneg _, by omega⟩, Int.toNat_natCast, hx, if_pos hd]
theorem turnR_no {dp : S35 → Bool} {ds : S35 → S35} {l : List S35} {j : Nat} {x : S35} (hk : okNodes l = true) (hj : j < l.length) (hx : l.getD j z35 = x) (hd : dp x = false) : turnR dp ds l (j : Int) = ([], 8) := by
  unfold turnR
  rw [if_pos hk, if_pos ⟨Int.natCast_nonneg _, by omega⟩, Int.toNat_natCast, hx, hd]; rfl
theorem turns_good {l : List S35} {j : Nat} (hk : okNodes l = true) (hj : j < l.length) : ∃ a b p n k xa xb xc, TurnsGood l j a b p n k xa xb xc := by
  have hl := ok_len hk
  obtain ⟨xa, xb, xc, hx⟩ : ∃ xa xb xc, l.getD j z35 = ⟨xa, xb, xc⟩ := ⟨_, _, _, rfl⟩
  have hbad := ok_all hk hj
  rw [hx] at hbad
  obtain ⟨K, hK⟩ := same_same l (by omega)
  have hUl : nodes_Usable.f l = some ((posU usableP l l.length).length : Int) := by show some ((posT usableP l).length : Int) = _; rw [posT_yes hk]
  have hn : (posU usableP l l.length).length ≤ 64 := by have := posT_length usableP l; rw [posT_yes hk] at this; exact this
  have ha : okNodes (l.set j ⟨false, xb, 0⟩) = true := set_ok hk hj rfl
  have hb : okNodes (l.set j ⟨true, xb, 0⟩) = true := set_ok hk hj rfl
  have hp : okNodes (l.set j ⟨xa, !xb, xc⟩) = true := set_ok hk hj hbad
  have hset : ∀ y : S35, (l.set j y).getD j z35 = y := fun y => by rw [set_getD l j j y hj, if_pos rfl]
  have hself : l.set j ⟨xa, xb, xc⟩ = l := node_ext (by rw [List.length_set]) (fun i hi => by
    rw [set_getD l j i _ hi]
    by_cases he : i = j
    · rw [if_pos he, he, hx]
    · rw [if_neg he])
  refine ⟨l.set j ⟨false, xb, 0⟩, l.set j ⟨true, xb, 0⟩, l.set j ⟨xa, !xb, xc⟩, (posU usableP l l.length).length, K, xa, xb, xc, ?_⟩
  exact {
    h80 := by omega
    lt := hj
    x := hx
    chk := by show some (if okNodes l then 0 else 2) = _; rw [if_pos hk]
    use := hUl
    n80 := by omega
    fail := fun h => by
      subst h
      show some (failR l (j : Int)) = _
      unfold failR
      rw [turnR_yes hk hj hx rfl, Int.toNat_natCast, hx]; rfl
    up := fun h => by
      show some (turnR _ _ _ _) = _
      rw [turnR_yes ha (by rw [List.length_set]; exact hj) (hset _) rfl, List.set_set]
    blen := fun _ => by rw [List.length_set]
    bx := fun _ => hset _
    buse := fun h => by
      subst h
      show some ((posT usableP _).length : Int) = _
      rw [posT_yes hb, List.length_set, posU_congr l.length (q := usableP) (r := l) (fun i hi => ?_)]
      rw [set_getD l j i _ hi]
      by_cases he : i = j
      · rw [if_pos he, he, hx]; rfl
      · rw [if_neg he]
    ause := fun h h' => by
      subst h
      subst h'
      show some ((posT usableP _).length : Int) = _
      rw [posT_yes ha, List.length_set]
      have := count_one usableP l j ⟨false, true, 0⟩ hj (by rw [hx]; rfl) rfl l.length (Nat.le_refl _)
      rw [if_pos hj] at this
      rw [← this]
      congr 1
      omega
    o1 := by
      show some (turnR _ _ _ _) = _
      rw [turnR_yes hk hj hx (by cases xb <;> rfl)]
    o2 := by
      show some (turnR _ _ _ _) = _
      rw [turnR_yes hp (by rw [List.length_set]; exact hj) (hset _) (by cases xb <;> rfl), List.set_set, hself]
    o3 := by
      show some (turnR _ _ _ _) = _
      rw [turnR_no hk hj hx (by cases xb <;> rfl)]
    same := hK _ (Nat.le_refl _) }
theorem NodesTurns : forebaylaw20_NodesTurns.Pure := by
  intro l i _ _
  suffices h : TurnsOk l i by unfold forebaylaw20_NodesTurns.f; exact if_pos h
  by_cases h80 : 80 < l.length
  · exact .long h80
  have hc : nodes_Check.f l = some (if okNodes l then 0 else 2) := rfl
  by_cases hk : okNodes l = true
  case neg => rw [if_neg hk] at hc; exact .bad (by omega) hc
  rw [if_pos hk] at hc
  by_cases h0 : i < 0
  · exact .neg (by omega) hc h0
  by_cases h1 : (l.length : Int) ≤ i
  · exact .over (by omega) hc h1
  obtain ⟨j, rfl⟩ := Int.eq_ofNat_of_zero_le (show 0 ≤ i by omega)
  obtain ⟨a, b, p, n, k, xa, xb, xc, hg⟩ := turns_good hk (show j < l.length by omega)
  exact .good j a b p n k xa xb xc rfl hg
end Go.Proofs.Ytifebcdkckjphaa.Pure
