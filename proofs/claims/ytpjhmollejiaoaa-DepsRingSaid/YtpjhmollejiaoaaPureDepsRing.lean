/- DepsRing: for all jobs, each with what it waits for (of at most 20 jobs, none twice, of at most 8 to wait for; else the known answers alone), deps.Ring tells what the document says, and a job whose all lead on to greater numbers is in none. -/
import Derived.Test.YtpjhmollejiaoaaDeps
namespace Go.Proofs.Ytpjhmollejiaoaa.Pure
open Go.RowKit Go.Proofs.Ytpjhmollejiaoaa.P Go.Proofs.YtpjhmollejiaoaaW.PrintWords Go.Proofs.YtpjhmollejiaoaaW.PrintLast
set_option linter.unusedVariables false
set_option linter.unusedSimpArgs false

theorem okN_ne {l0 : List Int} {l1 : List (List S28)} {n : Nat} (hn : n ≤ l0.length) (h : okN l0 l1 n = true) {i i' : Nat} (h1 : i < i') (h2 : i' < n) : rd l0 (i : Int) ≠ rd l0 (i' : Int) := by
  have h3 : okN l0 l1 (i' + 1) = true := okN_mono l0 l1 (i' + 1) (n - (i' + 1)) (by rw [show i' + 1 + (n - (i' + 1)) = n by omega]; exact h)
  rw [okN, Bool.and_eq_true, Bool.and_eq_true, Bool.not_eq_true'] at h3
  have h4 := h3.2.1
  intro e
  rw [← Bool.not_eq_true, List.any_eq_true] at h4
  refine h4 ⟨rd l0 (i : Int), ?_, by rw [e]; simp⟩
  have e2 : rd l0 (i : Int) = l0[i] := by simp [rd, show i < l0.length by omega]
  rw [e2]
  exact List.mem_take_iff_getElem.2 ⟨i, by omega, rfl⟩
theorem adjN_none {l0 : List Int} {l1 : List (List S28)} {j : Int} : ∀ n, (∀ i : Nat, i < n → rd l0 (i : Int) ≠ j) → adjN l0 l1 n j = [] := by
  intro n
  induction n with
  | zero => intro _; rfl
  | succ n ih => intro h; rw [adjN, if_neg (fun e => h n (by omega) e.symm)]; exact ih (fun i hi => h i (by omega))
theorem adjN_at {l0 : List Int} {l1 : List (List S28)} : ∀ n, n ≤ l0.length → okN l0 l1 n = true → ∀ i, i < n → adjN l0 l1 n (rd l0 (i : Int)) = rd_L4 l1 (i : Int) := by
  intro n
  induction n with
  | zero => intro _ _ i hi; omega
  | succ n ih =>
    intro hn h i hi
    rw [adjN]
    by_cases e : i = n
    · subst e; rw [if_pos rfl]
    · rw [if_neg (okN_ne hn h (show i < n by omega) (by omega))]
      refine ih (by omega) ?_ i (by omega)
      rw [okN, Bool.and_eq_true] at h
      exact h.1
theorem up_leads {l0 : List Int} {l1 : List (List S28)} (n : Nat) (hu : upN l0 l1 n = true) : ∀ j, ∀ y ∈ succT (adjN l0 l1 n) j, j < y := by
  induction n with
  | zero => intro j y hy; simp [succT, adjN] at hy
  | succ n ih =>
    intro j y hy
    rw [upN, Bool.and_eq_true] at hu
    unfold succT at hy ih
    rw [adjN] at hy
    by_cases e : j = rd l0 (n : Int)
    · rw [if_pos e] at hy
      obtain ⟨d, hd, rfl⟩ := List.mem_map.1 hy
      have := of_decide_eq_true (List.all_eq_true.1 hu.2 d hd)
      omega
    · rw [if_neg e] at hy
      exact ih hu.1 j y hy
theorem up_none {l0 : List Int} {l1 : List (List S28)} {n : Nat} (hu : upN l0 l1 n = true) (job : Int) : ¬ Leads (adjN l0 l1 n) job job := by
  have key : ∀ a b, Leads (adjN l0 l1 n) a b → a < b := by
    intro a b h
    induction h with
    | one hb => exact up_leads n hu _ _ hb
    | more _ hc ih => exact Int.lt_trans ih (up_leads n hu _ _ hc)
  intro h
  have := key _ _ h
  omega
theorem inv_pop {adj : Int → List S28} {U : List Int} {job j : Int} {met fr new : List Int} (h : RInv adj U job met (j :: fr)) (hU : ∀ j, ∀ y ∈ succT adj j, y ∈ U) (h1 : ∀ y ∈ succT adj j, y ≠ job ∧ y ∈ met ++ new) (h2 : (met ++ new).Nodup) (h3 : ∀ x ∈ new, x ∈ succT adj j) : RInv adj U job (met ++ new) (fr ++ new) := by
  refine ⟨h2, fun x hx => ?_, fun x hx => ?_, fun x hx => ?_⟩
  · rcases List.mem_append.1 hx with hx | hx
    · exact h.sub x hx
    · have h4 := h3 x hx
      refine ⟨hU j x h4, (h1 x h4).1, ?_⟩
      rcases h.fr j List.mem_cons_self with e | hj
      · rw [e] at h4; exact .one h4
      · exact .more (h.sub j hj).2.2 h4
  · rcases List.mem_append.1 hx with hx | hx
    · rcases h.fr x (List.mem_cons_of_mem _ hx) with e | hj
      · exact .inl e
      · exact .inr (List.mem_append.2 (.inl hj))
    · exact .inr (List.mem_append.2 (.inr hx))
  · by_cases hn : x ∈ new
    · exact .inl (List.mem_append.2 (.inr hn))
    · have hx' : x = job ∨ x ∈ met := by
        rcases hx with e | hx
        · exact .inl e
        · rcases List.mem_append.1 hx with hx | hx
          · exact .inr hx
          · exact absurd hx hn
      rcases h.cl x hx' with h5 | h5
      · rcases List.mem_cons.1 h5 with e | h6
        · rw [e]; exact .inr h1
        · exact .inl (List.mem_append.2 (.inl h6))
      · exact .inr (fun y hy => ⟨(h5 y hy).1, List.mem_append.2 (.inl (h5 y hy).2)⟩)

section
variable (l0 : List Int) (l1 : List (List S28)) (job : Int)
theorem ring_l1_tail (hn : l0.length ≤ 1000) (reach fr : List Int) (j : Int) (r : Bool) (h : Ev (fun k => forebayref21_Ring.l0 k l0 l1 job reach fr) r) (d : Nat) : ∀ i : Nat, i + d = l0.length → (∀ i' : Nat, i ≤ i' → i' < l0.length → rd l0 (i' : Int) ≠ j) →
    Ev (fun k => forebayref21_Ring.l1 k l0 l1 job reach fr j i) r := by
  induction d with
  | zero =>
    intro i hi _
    refine Ev.succ ?_
    simp only [forebayref21_Ring.l1]
    exact Ev.neg (by omega) h
  | succ d ih =>
    intro i hi hne
    refine Ev.succ ?_
    simp only [forebayref21_Ring.l1]
    rw [show wrap64 ((i : Int) + 1) = ((i + 1 : Nat) : Int) by unfold wrap64; omega]
    exact Ev.pos (by omega) (Ev.pos (by omega) (Ev.neg (hne i (Nat.le_refl _) (by omega)) (ih (i + 1) (by omega) (fun i' h1 h2 => hne i' (by omega) h2))))
theorem ring_l1_head (hn : l0.length ≤ 1000) (reach fr : List Int) (j : Int) (r : Bool) (i : Nat) (hi : i ≤ l0.length) (h : Ev (fun k => forebayref21_Ring.l1 k l0 l1 job reach fr j i) r) (hne : ∀ i' : Nat, i' < i → rd l0 (i' : Int) ≠ j) (d : Nat) : ∀ p : Nat, p + d = i →
    Ev (fun k => forebayref21_Ring.l1 k l0 l1 job reach fr j p) r := by
  induction d with
  | zero => intro p hp; obtain rfl : p = i := by omega
            exact h
  | succ d ih =>
    intro p hp
    refine Ev.succ ?_
    simp only [forebayref21_Ring.l1]
    rw [show wrap64 ((p : Int) + 1) = ((p + 1 : Nat) : Int) by unfold wrap64; omega]
    exact Ev.pos (by omega) (Ev.pos (by omega) (Ev.neg (hne p (by omega)) (ih (p + 1) (by omega))))
theorem ring_l3 (reach fr : List Int) (hr : reach.length ≤ 200000) (hf : fr.length ≤ 200001) (j : Int) (i : Int) (q : Nat) (hq : q ≤ 1000) (n : Int) (r : Bool) (h1 : n ∈ reach → Ev (fun k => forebayref21_Ring.l2 k l0 l1 job reach fr j i ((q + 1 : Nat) : Int)) r)
    (h2 : n ∉ reach → Ev (fun k => forebayref21_Ring.l2 k l0 l1 job (reach ++ [n]) (fr ++ [n]) j i ((q + 1 : Nat) : Int)) r) (d : Nat) : ∀ (m : Nat) (b : Bool), m + d = reach.length → (b = true ↔ n ∈ reach.take m) →
    Ev (fun k => forebayref21_Ring.l3 k l0 l1 job reach fr j i q n b m) r := by
  induction d with
  | zero =>
    intro m b hm hb
    rw [List.take_of_length_le (by omega)] at hb
    refine Ev.succ ?_
    simp only [forebayref21_Ring.l3]
    rw [show wrap64 ((q : Int) + 1) = ((q + 1 : Nat) : Int) by unfold wrap64; omega]
    refine Ev.neg (by omega) ?_
    by_cases hb' : b = true
    · exact Ev.pos hb' (h1 (hb.1 hb'))
    · exact Ev.neg hb' (Ev.pos (by omega) (Ev.pos (by omega) (h2 (fun h => hb' (hb.2 h)))))
  | succ d ih =>
    intro m b hm hb
    have hlt : m < reach.length := by omega
    have e : rd reach (m : Int) = reach[m] := by simp [rd, hlt]
    have et : reach.take (m + 1) = reach.take m ++ [reach[m]] := List.take_succ_eq_append_getElem hlt
    refine Ev.succ ?_
    simp only [forebayref21_Ring.l3]
    rw [show wrap64 ((m : Int) + 1) = ((m + 1 : Nat) : Int) by unfold wrap64; omega]
    refine Ev.pos (by omega) (Ev.ite (fun c => ih (m + 1) true (by omega) ?_) (fun c => Ev.pos (by omega) (ih (m + 1) _ (by omega) ?_)))
    · rw [et]
      exact ⟨fun _ => List.mem_append.2 (.inl (hb.1 c)), fun _ => rfl⟩
    · rw [et, e, beq_iff_eq, List.mem_append, List.mem_singleton]
      exact ⟨fun h => .inr h.symm, fun h => h.elim (fun h => absurd (hb.2 h) c) (fun h => h.symm)⟩
theorem ring_l2 (adj : Int → List S28) (U : List Int) (hUl : U.length ≤ 100000) (hU : ∀ j, ∀ y ∈ succT adj j, y ∈ U) (hn : l0.length ≤ 1000) (hL : l1.length = l0.length) (i : Nat) (hi : i < l0.length) (j : Int) (hj : rd l0 (i : Int) = j) (ha : adj j = rd_L4 l1 (i : Int)) (hlen : (adj j).length ≤ 8)
    (hne : ∀ i' : Nat, i + 1 ≤ i' → i' < l0.length → rd l0 (i' : Int) ≠ j) (met fr : List Int) (hinv : RInv adj U job met (j :: fr)) (hfl : fr.length ≤ met.length)
    (hend : ∀ new, RInv adj U job (met ++ new) (fr ++ new) → Ev (fun k => forebayref21_Ring.l0 k l0 l1 job (met ++ new) (fr ++ new)) (ringT adj job)) (d : Nat) : ∀ (q : Nat) (new : List Int), q + d = (adj j).length →
      (∀ y ∈ ((adj j).take q).map S28.f0, y ≠ job ∧ y ∈ met ++ new) → (met ++ new).Nodup → (∀ x ∈ new, x ∈ succT adj j) →
      Ev (fun k => forebayref21_Ring.l2 k l0 l1 job (met ++ new) (fr ++ new) j i q) (ringT adj job) := by
  induction d with
  | zero =>
    intro q new hq hp hnd hnew
    rw [List.take_of_length_le (by omega)] at hp
    refine Ev.succ ?_
    simp only [forebayref21_Ring.l2]
    rw [show wrap64 ((i : Int) + 1) = ((i + 1 : Nat) : Int) by unfold wrap64; omega, ← ha]
    refine Ev.pos (by omega) (Ev.pos (by omega) (Ev.neg (by omega) ?_))
    exact ring_l1_tail l0 l1 job hn _ _ j _ (hend new (inv_pop hinv hU hp hnd hnew)) (l0.length - (i + 1)) (i + 1) (by omega) hne
  | succ d ih =>
    intro q new hq hp hnd hnew
    have hlt : q < (adj j).length := by omega
    have e : rd_T28 (adj j) (q : Int) = (adj j)[q] := by simp [rd_T28, hlt]
    have hy : (adj j)[q].f0 ∈ succT adj j := List.mem_map.2 ⟨_, List.getElem_mem hlt, rfl⟩
    have et : ((adj j).take (q + 1)).map S28.f0 = ((adj j).take q).map S28.f0 ++ [(adj j)[q].f0] := by rw [List.take_succ_eq_append_getElem hlt, List.map_append]; rfl
    refine Ev.succ ?_
    simp only [forebayref21_Ring.l2]
    rw [← ha, e]
    have hmU : (met ++ new).length ≤ U.length := nodup_len hnd (fun x hx => by
      rcases List.mem_append.1 hx with hx | hx
      · exact (hinv.sub x hx).1
      · exact hU j x (hnew x hx))
    have hlen2 : (met ++ new).length = met.length + new.length := List.length_append
    refine Ev.pos (by omega) (Ev.pos (by omega) (Ev.pos (by omega) (Ev.pos (by omega) ?_)))
    by_cases c : (adj j)[q].f0 = job
    · have ht : ringT adj job = true := by
        refine ringT_true ?_
        rw [c] at hy
        rcases hinv.fr j List.mem_cons_self with e1 | h1
        · rw [e1] at hy; exact .one hy
        · exact .more (hinv.sub j h1).2.2 hy
      rw [ht]
      exact Ev.pos c (Ev.const rfl)
    · refine Ev.neg c (ring_l3 l0 l1 job (met ++ new) (fr ++ new) (by omega) (by rw [List.length_append]; omega) j i q (by omega) _ _ (fun hin => ?_) (fun hin => ?_) (met ++ new).length 0 false (by omega) (by simp))
      · refine ih (q + 1) new (by omega) (fun y hy' => ?_) hnd hnew
        rw [et] at hy'
        rcases List.mem_append.1 hy' with h1 | h1
        · exact hp y h1
        · rw [List.mem_singleton.1 h1]; exact ⟨c, hin⟩
      · rw [List.append_assoc, List.append_assoc]
        refine ih (q + 1) (new ++ [(adj j)[q].f0]) (by omega) (fun y hy' => ?_) ?_ (fun x hx => ?_)
        · rw [et] at hy'
          rw [← List.append_assoc]
          rcases List.mem_append.1 hy' with h1 | h1
          · exact ⟨(hp y h1).1, List.mem_append.2 (.inl (hp y h1).2)⟩
          · rw [List.mem_singleton.1 h1]; exact ⟨c, List.mem_append.2 (.inr (List.mem_singleton.2 rfl))⟩
        · rw [← List.append_assoc]
          rw [List.nodup_append]
          exact ⟨hnd, by simp, fun a ha b hb e => by rw [List.mem_singleton.1 hb] at e; exact hin (e ▸ ha)⟩
        · rcases List.mem_append.1 hx with h1 | h1
          · exact hnew x h1
          · rw [List.mem_singleton.1 h1]; exact hy
theorem ring_l0 (U : List Int) (hUl : U.length ≤ 100000) (hU : ∀ j, ∀ y ∈ succT (adjN l0 l1 l0.length) j, y ∈ U) (hn : l0.length ≤ 20) (hL : l1.length = l0.length) (hok : okN l0 l1 l0.length = true) (M : Nat) : ∀ (met fr : List Int), 2 * (U.length - met.length) + fr.length ≤ M →
    fr.length ≤ met.length + 1 → RInv (adjN l0 l1 l0.length) U job met fr → Ev (fun k => forebayref21_Ring.l0 k l0 l1 job met fr) (ringT (adjN l0 l1 l0.length) job) := by
  induction M with
  | zero =>
    intro met fr hM hfl hinv
    obtain rfl : fr = [] := List.length_eq_zero_iff.1 (by omega)
    rw [ringT_false hinv.stop]
    refine Ev.succ ?_
    simp only [forebayref21_Ring.l0]
    exact Ev.neg (by simp) (Ev.const rfl)
  | succ M ih =>
    intro met fr hM hfl hinv
    cases fr with
    | nil =>
      rw [ringT_false hinv.stop]
      refine Ev.succ ?_
      simp only [forebayref21_Ring.l0]
      exact Ev.neg (by simp) (Ev.const rfl)
    | cons j fr =>
      rw [List.length_cons] at hM hfl
      refine Ev.succ ?_
      simp only [forebayref21_Ring.l0]
      have e : rd (j :: fr) 0 = j := rfl
      have e2 : (j :: fr).drop (1 : Int).toNat = fr := rfl
      rw [e, e2]
      have hl1 : ((j :: fr).length : Int) = (fr.length : Int) + 1 := by simp
      refine Ev.pos (by omega) (Ev.pos (by omega) (Ev.pos (by omega) ?_))
      have hmet : met.length ≤ U.length := nodup_len hinv.nod (fun x hx => (hinv.sub x hx).1)
      have hend : ∀ new, RInv (adjN l0 l1 l0.length) U job (met ++ new) (fr ++ new) → Ev (fun k => forebayref21_Ring.l0 k l0 l1 job (met ++ new) (fr ++ new)) (ringT (adjN l0 l1 l0.length) job) := by
        intro new hi
        have h1 : (met ++ new).length ≤ U.length := nodup_len hi.nod (fun x hx => (hi.sub x hx).1)
        refine ih _ _ ?_ ?_ hi
        · rw [List.length_append] at h1 ⊢; rw [List.length_append]; omega
        · rw [List.length_append, List.length_append]; omega
      by_cases hex : ∃ i : Nat, i < l0.length ∧ rd l0 (i : Int) = j
      · obtain ⟨i, hi, hj⟩ := hex
        have ha : adjN l0 l1 l0.length j = rd_L4 l1 (i : Int) := by rw [← hj]; exact adjN_at l0.length (Nat.le_refl _) hok i hi
        have h2 := ring_l2 l0 l1 job (adjN l0 l1 l0.length) U hUl hU (by omega) hL i hi j hj ha (adjN_len l0 l1 l0.length hok j)
          (fun i' h1 h2 e => okN_ne (Nat.le_refl _) hok (show i < i' by omega) h2 (hj.trans e.symm)) met fr hinv (by omega) hend (adjN l0 l1 l0.length j).length 0 [] (by omega) (by simp) (by simpa using hinv.nod) (by simp)
        rw [List.append_nil, List.append_nil] at h2
        refine ring_l1_head l0 l1 job (by omega) met fr j _ i (by omega) ?_ (fun i' h1 e => okN_ne (Nat.le_refl _) hok h1 hi (e.trans hj.symm)) i 0 (by omega)
        refine Ev.succ ?_
        simp only [forebayref21_Ring.l1]
        exact Ev.pos (by omega) (Ev.pos (by omega) (Ev.pos hj h2))
      · have hnone : ∀ i : Nat, i < l0.length → rd l0 (i : Int) ≠ j := fun i hi e => hex ⟨i, hi, e⟩
        have ha : adjN l0 l1 l0.length j = [] := adjN_none l0.length hnone
        have h3 := hend [] (inv_pop hinv hU (by unfold succT; rw [ha]; simp) (by simpa using hinv.nod) (by simp))
        rw [List.append_nil, List.append_nil] at h3
        exact ring_l1_tail l0 l1 job (by omega) met fr j _ h3 l0.length 0 (by omega) (fun i' _ h2 => hnone i' h2)
end
theorem refRing_ev (l0 : List Int) (l1 : List (List S28)) (job : Int) (hn : l0.length ≤ 20) (hL : l1.length = l0.length) (hok : okN l0 l1 l0.length = true) : Ev (fun k => forebayref21_Ring.f k l0 l1 job) (ringT (adjN l0 l1 l0.length) job) := by
  unfold forebayref21_Ring.f
  exact ring_l0 l0 l1 job _ (adjN_lenU l0 l1 hL hn hok) (adjN_mem l0 l1 l0.length) hn hL hok _ [] [job] (Nat.le_refl _) (by simp) RInv.start
theorem DepsRing : forebaylaw21_DepsRing.Pure := by
  intro l0 l1 job h0 h1 h2
  refine Ev.rounds (g := fun k => forebaylaw21_DepsRing.f k l0 l1 job) ?_
  unfold forebaylaw21_DepsRing.f
  refine Ev.pos ?_ (Ev.ite (fun _ => head_ev) (fun h => ?_))
  · unfold wfDR
    rw [Bool.and_eq_true, Bool.and_eq_true, List.all_eq_true, List.all_eq_true]
    exact ⟨fun x hx => h0.2.2 x hx, fun r hr => List.all_eq_true.2 (fun d hd => ((h1.2.2 r hr).2.2 d hd).1), h2⟩
  · have hn : l0.length ≤ 20 := Nat.le_of_not_lt (fun h' => h (.inl h'))
    have hL : l1.length = l0.length := Decidable.byContradiction (fun h' => h (.inr (.inl h')))
    have hok : okN l0 l1 l0.length = true := by
      cases e : okN l0 l1 l0.length with
      | true => rfl
      | false => exact absurd (.inr (.inr e)) h
    refine Ev.bind (refRing_ev l0 l1 job hn hL hok) (Ev.pos rfl (Ev.neg (fun hu => ?_) head_ev))
    rw [Bool.and_eq_true] at hu
    have := ringT_false (up_none hu.1 job)
    rw [this] at hu
    cases hu.2
end Go.Proofs.Ytpjhmollejiaoaa.Pure
