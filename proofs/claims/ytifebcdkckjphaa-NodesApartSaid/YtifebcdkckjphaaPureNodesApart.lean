/- NodesApart: what is given was free, has the job, and no other node does; a node that failed is given to nobody. -/
import Derived.Test.YtifebcdkckjphaaNodesGive
namespace Go.Proofs.Ytifebcdkckjphaa.Pure
open Go.RowKit Go.Proofs.Ytifebcdkckjphaa.P Go.Proofs.YtifebcdkckjphaaW.PrintWords Go.Proofs.YtifebcdkckjphaaW.PrintLast
set_option linter.unusedVariables false
set_option linter.unusedSimpArgs false

theorem wrap_succ (i : Nat) (h : i ≤ 1000000) : wrap64 ((i : Int) + 1) = ((i + 1 : Nat) : Int) := by unfold wrap64; omega
theorem ints_l (l : List Int) (hl : l.length ≤ 1000) (d : Nat) : ∀ i : Nat, i + d = l.length → Ev (fun k => forebayref20_Ints.l0 k l l (i : Int)) true := by
  induction d with
  | zero =>
    intro i hi
    refine Ev.succ ?_
    simp only [forebayref20_Ints.l0]
    exact Ev.neg (by omega) (Ev.now _)
  | succ d ih =>
    intro i hi
    refine Ev.succ ?_
    simp only [forebayref20_Ints.l0]
    rw [wrap_succ i (by omega)]
    exact Ev.pos (by omega) (Ev.pos (by omega) (Ev.pos (by omega) (Ev.pos trivial (ih (i + 1) (by omega)))))
theorem ints_same (l : List Int) (hl : l.length ≤ 1000) : Ev (fun k => forebayref20_Ints.f k l l) true := by
  unfold forebayref20_Ints.f
  exact Ev.pos rfl (ints_l l hl l.length 0 (by omega))
theorem same_l (l : List S35) (hl : l.length ≤ 1000) (d : Nat) : ∀ i : Nat, i + d = l.length → Ev (fun k => forebayref20_Same.l0 k l l (i : Int)) true := by
  induction d with
  | zero =>
    intro i hi
    refine Ev.succ ?_
    simp only [forebayref20_Same.l0]
    exact Ev.neg (by omega) (Ev.now _)
  | succ d ih =>
    intro i hi
    refine Ev.succ ?_
    simp only [forebayref20_Same.l0]
    rw [wrap_succ i (by omega)]
    exact Ev.pos (by omega) (Ev.pos (by omega) (Ev.pos (by omega) (Ev.neg (by simp) (ih (i + 1) (by omega)))))
theorem same_same (l : List S35) (hl : l.length ≤ 1000) : Ev (fun k => forebayref20_Same.f k l l) true := by
  unfold forebayref20_Same.f
  exact Ev.pos rfl (same_l l hl l.length 0 (by omega))
theorem rd_at (b : List Int) (q : Nat) (h : q < b.length) : rd b (q : Int) = b[q] := by simp [rd, h]
theorem apart_good {l : List S35} {n : Int} {m : Nat} (h : Gave l n m) (hm : 1 ≤ m) (which : Nat) (hg : nodes_Give.f l n (m : Int) = some (gA l n m, gB l m, 0)) :
    ∃ d j o F k, ApartGood l n (m : Int) which (gA l n m) (gB l m) d j o F k := by
  have hl := ok_len h.ok
  have hbl := gB_len h
  have hm64 : m ≤ 64 := by
    have := posT_length freeP l
    rw [posT_yes h.ok] at this
    have := h.room
    omega
  have hof := gA_of h
  have hak := gA_ok h
  have hmem : ∀ q, q < (gB l m).length → ∃ p : Nat, rd (gB l m) (q : Int) = (p : Int) ∧ p < l.length ∧ freeP (l.getD p z35) = true ∧ (p : Int) ∈ gB l m := fun q hq => by
    rw [rd_at _ _ hq]
    obtain ⟨p, h1, h2, h3⟩ := gB_pos _ (List.getElem_mem hq)
    exact ⟨p, h1, h2, h3, by rw [← h1]; exact List.getElem_mem hq⟩
  obtain ⟨j, hj, hjl, hjf, hjm⟩ := hmem (which % (gB l m).length) (Nat.mod_lt _ (by omega))
  obtain ⟨K1, hK1⟩ := ints_same (gB l m) (by omega)
  obtain ⟨K2, hK2⟩ := same_same l (by omega)
  have hA : (gA l n m).getD j z35 = ⟨(l.getD j z35).f0, (l.getD j z35).f1, n⟩ := by rw [gA_getD hjl, if_pos hjm]
  have hup : (l.getD j z35).f0 = true := by
    unfold freeP usableP at hjf
    simp only [Bool.and_eq_true] at hjf
    exact hjf.1.1
  have hdk := gD_ok h hjl
  have hdo := gD_of h hjl hjm
  refine ⟨gD l n m j, j, posU (ofP n) (gD l n m j) l.length, (posU freeP (gD l n m j) l.length).length, K1 + K2, ?_⟩
  have hF : (posU freeP (gD l n m j) l.length).length ≤ 64 := by
    have := posT_length freeP (gD l n m j)
    rw [posT_yes hdk, gD_len] at this
    exact this
  exact {
    give := hg
    alen := gA_len
    blen := by rw [hbl]
    bpos := by omega
    of1 := by show some (posT (ofP n) (gA l n m)) = _; rw [posT_yes hak, gA_len, hof]
    ints := hK1 _ (by omega)
    free := ⟨(posU freeP l l.length).length, by show some ((posT freeP l).length : Int) = _; rw [posT_yes h.ok], by have := posT_length freeP l; rw [posT_yes h.ok] at this; exact this, by rw [hbl]; exact h.room,
      by show some ((posT freeP (gA l n m)).length : Int) = _; rw [posT_yes hak, gA_len, gA_free h, hbl]⟩
    chk := by show some (if okNodes (gA l n m) then 0 else 2) = _; rw [if_pos hak]
    each := fun q hq => by
      obtain ⟨p, h1, h2, h3, _⟩ := hmem q hq
      unfold freeP usableP at h3
      simp only [Bool.and_eq_true, beq_iff_eq] at h3
      exact ⟨p, h1, h2, h3.1.1, h3.1.2, h3.2⟩
    clear := by
      show some (clearR (gA l n m) n) = _
      unfold clearR
      rw [if_pos ⟨hak, h.n1, h.n2⟩, posT_yes hak, gA_len, hof, if_neg (by omega), gA_clear h]
    same := hK2 _ (by omega)
    pick := hj
    fail := by
      show some (failR (gA l n m) (j : Int)) = _
      unfold failR turnR
      rw [if_pos hak, gA_len, if_pos ⟨Int.natCast_nonneg _, by omega⟩, Int.toNat_natCast, hA, hup]
      unfold gD
      rw [hA]
      rfl
    of2 := by show some (posT (ofP n) (gD l n m j)) = _; rw [posT_yes hdk, gD_len]
    olen := by rw [hbl]; exact hdo
    chk2 := by show some (if okNodes (gD l n m j) then 0 else 2) = _; rw [if_pos hdk]
    free2 := by show some ((posT freeP (gD l n m j)).length : Int) = _; rw [posT_yes hdk, gD_len]
    F64 := hF
    more := fun i h1 h2 => by
      refine ⟨(giveR (gD l n m j) 1073741824 (i : Int)).1, (giveR (gD l n m j) 1073741824 (i : Int)).2.1, (giveR (gD l n m j) 1073741824 (i : Int)).2.2, rfl, ?_⟩
      unfold giveR
      rw [if_pos ⟨hdk, by omega, by omega, by omega⟩]
      by_cases ho : 0 < (posT (ofP 1073741824) (gD l n m j)).length
      · rw [if_pos ho]; exact ⟨by simp, .inl rfl⟩
      · rw [if_neg ho, posT_yes hdk, gD_len, if_neg (by omega), Int.toNat_natCast]
        refine ⟨by rw [List.length_take]; omega, .inr ⟨show ¬ (0 : Int) = 8 from by decide, fun q hq => ?_⟩⟩
        rw [rd_at _ _ hq]
        exact gD_free hjl (List.mem_of_mem_take (List.getElem_mem hq)) }
theorem NodesApart : forebaylaw20_NodesApart.Pure := by
  intro l n m which hinv
  have hw : 0 ≤ which ∧ which ≤ 255 := wf_u8 hinv.2.2.2
  suffices h : ApartOk l n m which by unfold forebaylaw20_NodesApart.f; exact if_pos h
  by_cases h80 : 80 < l.length
  · exact .long h80
  have hg : nodes_Give.f l n m = some (giveR l n m) := rfl
  unfold giveR at hg
  by_cases hc : okNodes l = true ∧ (1 ≤ n ∧ n ≤ 1073741824) ∧ 1 ≤ m ∧ m ≤ 64
  case neg =>
    rw [if_neg hc] at hg
    exact .no 2 (by omega) (by decide) hg
  rw [if_pos hc] at hg
  by_cases ho : 0 < (posT (ofP n) l).length
  · rw [if_pos ho] at hg
    exact .no 8 (by omega) (by decide) hg
  rw [if_neg ho] at hg
  by_cases hf : ((posT freeP l).length : Int) < m
  · rw [if_pos hf] at hg
    exact .no 6 (by omega) (by decide) hg
  rw [if_neg hf] at hg
  obtain ⟨mm, rfl⟩ := Int.eq_ofNat_of_zero_le (show 0 ≤ m by omega)
  rw [posT_yes hc.1] at hg hf ho
  rw [Int.toNat_natCast] at hg
  have hG : Gave l n mm := ⟨hc.1, hc.2.1.1, hc.2.1.2, fun j hj => by
    cases hp : ofP n (l.getD j z35) with
    | false => rfl
    | true =>
      have := List.length_pos_of_mem (posU_mem hj hp)
      exact absurd this ho, by omega⟩
  obtain ⟨d, j, o, F, k, hgood⟩ := apart_good hG (by omega) which.toNat hg
  exact .good _ _ d j o F k (by omega) hw hgood
end Go.Proofs.Ytifebcdkckjphaa.Pure
