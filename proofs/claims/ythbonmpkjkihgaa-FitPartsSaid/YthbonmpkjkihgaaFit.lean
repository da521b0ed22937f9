/- fit: windows that fit, the first fit, the first slot. -/
import Derived.Test.YthbonmpkjkihgaaStepsEv
namespace Go.Proofs.Ythbonmpkjkihgaa.Pure
open Go.RowKit Go.Proofs.Ythbonmpkjkihgaa.P Go.Proofs.YthbonmpkjkihgaaW.PrintWords Go.Proofs.YthbonmpkjkihgaaW.PrintLast
set_option linter.unusedVariables false
set_option linter.unusedSimpArgs false

/-- A number that a quantity may be. -/
abbrev Qy (x : Int) : Prop := 0 ≤ x ∧ x ≤ 1099511627776
/-- A window fits. -/
def Fits (a n : List Int) (t long m : Int) : Prop := t ≤ 1099511627776 - long ∧ (long = 0 ∨ ∀ u, t ≤ u → u < t + long → m ≤ atT u (spansT a n))
theorem least_ev6 {a n : List Int} (hv : Val a n) (ha : a.length ≤ 600) {lo hi : Int} (h0 : Qy lo) (h1 : Qy hi) : Ev (fun k => steps_Least.f k a n lo hi) (leastT lo hi (spansT a n)) := by
  unfold steps_Least.f
  exact Ev.bind (check_ok hv (by omega)) (Ev.pos ⟨rfl, by rw [(badQ_iff lo).2 h0, (badQ_iff hi).2 h1]; rfl⟩ (Ev.pos ⟨hv.len.symm, by omega⟩ (Ev.const rfl)))
theorem fits_ev {a n : List Int} (hv : Val a n) (ha : a.length ≤ 600) {t long m : Int} (ht : Qy t) (hl : Qy long) (hm : m ≤ 1099511627776) : ∃ b : Bool, Ev (fun k => fit_fits.f k a n t long m) b ∧ (b = true ↔ Fits a n t long m) := by
  have e1 : wrap64 (1099511627776 - long) = 1099511627776 - long := wrap64_id (by omega) (by omega)
  have e2 : wrap64 (t + long) = t + long := wrap64_id (by omega) (by omega)
  unfold fit_fits.f Fits
  rw [e1, e2]
  by_cases h1 : t ≤ 1099511627776 - long
  case neg => exact ⟨false, Ev.neg h1 (Ev.const rfl), by simp [h1]⟩
  by_cases h2 : long = 0
  case pos => exact ⟨true, Ev.pos h1 (Ev.pos h2 (Ev.const rfl)), fun _ => ⟨h1, .inl h2⟩, fun _ => rfl⟩
  obtain ⟨s1, s2, s3⟩ := least_spec hv t (t + long) ht.1
  refine ⟨decide (leastT t (t + long) (spansT a n) ≥ m), Ev.pos h1 (Ev.neg h2 (Ev.bind (least_ev6 hv ha ht ⟨by omega, by omega⟩) (Ev.const rfl))), ?_⟩
  rw [decide_eq_true_eq]
  constructor
  · intro h
    exact ⟨h1, .inr (fun u u1 u2 => by have := s2 u u1 u2 (by omega); omega)⟩
  · rintro ⟨_, h | h⟩
    · exact absurd h h2
    · rcases s3 with s3 | ⟨u, u1, u2, u3, u4⟩
      · omega
      · have := h u u1 u2; omega
theorem fits_less {a n : List Int} {t long long' m : Int} (h : Fits a n t long m) (h0 : 0 ≤ long') (hl : long' ≤ long) : Fits a n t long' m := by
  obtain ⟨h1, h2⟩ := h
  refine ⟨by omega, ?_⟩
  rcases h2 with h2 | h2
  · exact .inl (by omega)
  · exact .inr (fun u u1 u2 => h2 u u1 (by omega))
/-- A window that begins earlier, while the number stays. -/
theorem fits_back {a n : List Int} {s t long m : Int} (h : Fits a n t long m) (hl : 0 ≤ long) (hs : s ≤ t) (hc : ∀ u, s ≤ u → u ≤ t → atT u (spansT a n) = atT t (spansT a n)) : Fits a n s long m := by
  obtain ⟨h1, h2⟩ := h
  refine ⟨by omega, ?_⟩
  rcases h2 with h2 | h2
  · exact .inl h2
  · by_cases h0 : long = 0
    · exact .inl h0
    · refine .inr (fun u u1 u2 => ?_)
      by_cases h3 : u ≤ t
      · rw [hc u u1 h3]
        exact h2 t (by omega) (by omega)
      · exact h2 u (by omega) (by omega)
theorem rise_lt {a n : List Int} (hv : Val a n) : ∀ (d i : Nat), i + d + 1 < a.length → a.getD i 0 < a.getD (i + d + 1) 0
  | 0, i, h => hv.rise i h
  | d + 1, i, h => by
    have h1 := rise_lt hv d i (by omega)
    have h2 := hv.rise (i + d + 1) (by omega)
    exact Int.lt_trans h1 h2
theorem rise_pair {a n : List Int} (hv : Val a n) : a.Pairwise (· < ·) := by
  rw [List.pairwise_iff_getElem]
  intro i j hi hj hij
  have h := rise_lt hv (j - i - 1) i (by omega)
  have e : i + (j - i - 1) + 1 = j := by omega
  rw [e] at h
  simpa [List.getD_eq_getElem?_getD, hi, hj] using h
theorem times_pair {a n : List Int} (hv : Val a n) (f : Int) : (timesT a f).Pairwise (· < ·) := by
  unfold timesT
  refine List.Pairwise.cons ?_ ((rise_pair hv).filter _)
  intro x hx
  simpa using (List.mem_filter.1 hx).2
theorem times_rng {a n : List Int} (hv : Val a n) {f : Int} (hf : Qy f) : ∀ t ∈ timesT a f, Qy t ∧ f ≤ t := by
  intro t ht
  unfold timesT at ht
  rcases List.mem_cons.1 ht with rfl | ht
  · exact ⟨hf, Int.le_refl _⟩
  · obtain ⟨h1, h2⟩ := List.mem_filter.1 ht
    have h3 : f < t := by simpa using h2
    exact ⟨hv.qa t h1, by omega⟩
/-- A time has one of the times ahead of it, from which on the number has stayed. -/
theorem back_time {a n : List Int} (hv : Val a n) {f t : Int} (h0 : 0 ≤ f) (h1 : f ≤ t) (h2 : t ≤ 1099511627776) : ∃ s ∈ timesT a f, s ≤ t ∧ f ≤ s ∧ ∀ u, s ≤ u → u ≤ t → atT u (spansT a n) = atT t (spansT a n) := by
  obtain ⟨x, hx, h3, h4⟩ := at_in (spans_chain hv) (show 0 ≤ t by omega) h2
  have hc : ∀ u, x.1 ≤ u → u ≤ t → atT u (spansT a n) = atT t (spansT a n) := fun u u1 u2 =>
    (at_of 0 (spans_chain hv) x hx u1 (by omega)).trans (at_of 0 (spans_chain hv) x hx h3 h4).symm
  by_cases h5 : f < x.1
  · refine ⟨x.1, ?_, h3, by omega, hc⟩
    unfold timesT
    refine List.mem_cons_of_mem _ (List.mem_filter.2 ⟨?_, by simpa using h5⟩)
    unfold spansT at hx
    obtain ⟨i, hi, rfl⟩ := List.mem_map.1 hx
    have hil := List.mem_range.1 hi
    show a.getD i 0 ∈ a
    rw [List.getD_eq_getElem?_getD, List.getElem?_eq_getElem hil]
    exact List.getElem_mem hil
  · exact ⟨f, by unfold timesT; exact List.mem_cons_self .., h1, Int.le_refl _, fun u u1 u2 => hc u (by omega) u2⟩
theorem firstF_ev {a n : List Int} (hv : Val a n) (ha : a.length ≤ 600) {long m : Int} (hl : Qy long) (hm : m ≤ 1099511627776) : ∀ ts : List Int, (∀ t ∈ ts, Qy t) → ts.Pairwise (· < ·) →
    ∃ r, Ev (fun k => firstF k a n long m ts) r ∧ ((r = -1 ∧ ∀ t ∈ ts, ¬ Fits a n t long m) ∨ (r ∈ ts ∧ Fits a n r long m ∧ ∀ t ∈ ts, Fits a n t long m → r ≤ t))
  | [], _, _ => ⟨-1, Ev.const rfl, .inl ⟨rfl, fun t ht => by cases ht⟩⟩
  | t :: ts, hq, hp => by
    obtain ⟨b, hb, hbf⟩ := fits_ev hv ha (hq t (List.mem_cons_self ..)) hl hm
    simp only [firstF]
    rw [List.pairwise_cons] at hp
    cases b with
    | true =>
      refine ⟨t, Ev.bind hb (Ev.pos rfl (Ev.const rfl)), .inr ⟨List.mem_cons_self .., hbf.1 rfl, fun u hu _ => ?_⟩⟩
      rcases List.mem_cons.1 hu with rfl | hu
      · exact Int.le_refl _
      · have := hp.1 u hu; omega
    | false =>
      have hn : ¬ Fits a n t long m := fun h => by have := hbf.2 h; cases this
      obtain ⟨r, hr, h⟩ := firstF_ev hv ha hl hm ts (fun u hu => hq u (List.mem_cons_of_mem _ hu)) hp.2
      refine ⟨r, Ev.bind hb (Ev.neg (by decide) hr), ?_⟩
      rcases h with ⟨h1, h2⟩ | ⟨h1, h2, h3⟩
      · refine .inl ⟨h1, fun u hu => ?_⟩
        rcases List.mem_cons.1 hu with rfl | hu
        · exact hn
        · exact h2 u hu
      · refine .inr ⟨List.mem_cons_of_mem _ h1, h2, fun u hu hf => ?_⟩
        rcases List.mem_cons.1 hu with rfl | hu
        · exact absurd hf hn
        · exact h3 u hu hf
/-- The first fit, of all times. -/
theorem first_ev {a n : List Int} (hv : Val a n) (ha : a.length ≤ 600) {f long m : Int} (hf : Qy f) (hl : Qy long) (hm : m ≤ 1099511627776) :
    ∃ r, Ev (fun k => fit_first.f k a n f long m) r ∧ ((r = -1 ∧ ∀ t, f ≤ t → ¬ Fits a n t long m) ∨ (f ≤ r ∧ Qy r ∧ Fits a n r long m ∧ ∀ t, f ≤ t → Fits a n t long m → r ≤ t)) := by
  obtain ⟨r, hr, h⟩ := firstF_ev hv ha hl hm (timesT a f) (fun t ht => (times_rng hv hf t ht).1) (times_pair hv f)
  refine ⟨r, ?_, ?_⟩
  · unfold fit_first.f
    exact Ev.pos (by omega) hr
  have key : ∀ t, f ≤ t → Fits a n t long m → ∃ s ∈ timesT a f, s ≤ t ∧ Fits a n s long m := fun t ht hft => by
    obtain ⟨s, s1, s2, s3, s4⟩ := back_time hv hf.1 ht (by have := hft.1; omega)
    exact ⟨s, s1, s2, fits_back hft hl.1 s2 s4⟩
  rcases h with ⟨h1, h2⟩ | ⟨h1, h2, h3⟩
  · refine .inl ⟨h1, fun t ht hft => ?_⟩
    obtain ⟨s, s1, s2, s3⟩ := key t ht hft
    exact h2 s s1 s3
  · have := times_rng hv hf r h1
    refine .inr ⟨this.2, this.1, h2, fun t ht hft => ?_⟩
    obtain ⟨s, s1, s2, s3⟩ := key t ht hft
    have := h3 s s1 s3
    omega
/-- A room and a shape that may be. -/
structure May (n0 n1 b0 b1 c0 c1 : List Int) (i w o N B L : Int) : Prop where
  vn : Val n0 n1
  vb : Val b0 b1
  vc : Val c0 c1
  ln : n0.length ≤ 600
  lb : b0.length ≤ 600
  lc : c0.length ≤ 600
  qi : Qy i
  qw : Qy w
  qo : Qy o
  qN : Qy N
  qB : Qy B
  qL : Qy L
/-- A slot. -/
structure SlotV (n0 n1 b0 b1 c0 c1 : List Int) (i w o N B L : Int) (S C O : Int) : Prop where
  fl1 : Fits c0 c1 S i L
  fc : S + i ≤ C
  fn : Fits n0 n1 C w N
  fo : C + w ≤ O
  fl2 : Fits c0 c1 O o L
  fb : Fits b0 b1 S (O + o - S) B
variable {n0 n1 b0 b1 c0 c1 : List Int} {i w o N B L : Int}
theorem SlotV.le (M : May n0 n1 b0 b1 c0 c1 i w o N B L) {S C O : Int} (h : SlotV n0 n1 b0 b1 c0 c1 i w o N B L S C O) : S ≤ C ∧ C ≤ O ∧ O + o ≤ 1099511627776 ∧ S + i ≤ 1099511627776 ∧ C + w ≤ 1099511627776 := by
  have h1 := h.fc
  have h2 := h.fo
  have h3 := h.fl2.1
  have := M.qi.1
  have := M.qw.1
  have := M.qo.1
  omega
theorem behind_ev (M : May n0 n1 b0 b1 c0 c1 i w o N B L) {s : Int} (hs : Qy s) :
    (∃ C O, Ev (fun k => fit_behind.f k n0 n1 b0 b1 c0 c1 i w o N B L s) (s, C, O, true) ∧ SlotV n0 n1 b0 b1 c0 c1 i w o N B L s C O ∧ ∀ s' C' O', s ≤ s' → SlotV n0 n1 b0 b1 c0 c1 i w o N B L s' C' O' → C ≤ C' ∧ O ≤ O') ∨
    (Ev (fun k => fit_behind.f k n0 n1 b0 b1 c0 c1 i w o N B L s) (0, 0, 0, false) ∧ ∀ C' O', ¬ SlotV n0 n1 b0 b1 c0 c1 i w o N B L s C' O') := by
  have qi := M.qi
  have qw := M.qw
  have qo := M.qo
  obtain ⟨x1, hx1, f1⟩ := fits_ev M.vc M.lc hs M.qi M.qL.2
  unfold fit_behind.f
  cases x1 with
  | false =>
    refine .inr ⟨Ev.bind hx1 (Ev.neg (by decide) (Ev.succ ?_)), fun C' O' h => by have := f1.2 h.fl1; cases this⟩
    simp only [fit_behind.j0]
    exact Ev.pos (by trivial) (Ev.const rfl)
  | true =>
    have g1 := f1.1 rfl
    have e1 : wrap64 (s + i) = s + i := wrap64_id (by omega) (by omega)
    have hsi : s + i ≤ 1099511627776 := by have := g1.1; omega
    obtain ⟨C, hC, hCf⟩ := first_ev (f := s + i) M.vn M.ln ⟨by omega, hsi⟩ M.qw M.qN.2
    rcases hCf with ⟨rfl, hCn⟩ | ⟨hC1, hC2, hC3, hC4⟩
    · refine .inr ⟨Ev.bind hx1 (Ev.pos rfl (Ev.succ ?_)), fun C' O' h => hCn C' h.fc h.fn⟩
      simp only [fit_behind.j0]
      rw [e1]
      refine Ev.neg (by simp; omega) (Ev.bind hC (Ev.pos (by decide) (Ev.succ ?_)))
      simp only [fit_behind.j1]
      exact Ev.pos (by trivial) (Ev.const rfl)
    · have hCw : C + w ≤ 1099511627776 := by have := hC3.1; omega
      have e2 : wrap64 (C + w) = C + w := wrap64_id (by omega) (by omega)
      obtain ⟨O, hO, hOf⟩ := first_ev (f := C + w) M.vc M.lc ⟨by omega, hCw⟩ M.qo M.qL.2
      rcases hOf with ⟨rfl, hOn⟩ | ⟨hO1, hO2, hO3, hO4⟩
      · refine .inr ⟨Ev.bind hx1 (Ev.pos rfl (Ev.succ ?_)), fun C' O' h => ?_⟩
        · simp only [fit_behind.j0]
          rw [e1]
          refine Ev.neg (by simp; omega) (Ev.bind hC (Ev.neg (by omega) (Ev.succ ?_)))
          simp only [fit_behind.j1]
          rw [e2]
          exact Ev.neg (by simp; omega) (Ev.bind hO (Ev.pos (by decide) (Ev.const rfl)))
        · have h1 := hC4 C' h.fc h.fn
          have h2 := h.fo
          exact hOn O' (by omega) h.fl2
      · have hOo : O + o ≤ 1099511627776 := by have := hO3.1; omega
        have e3 : wrap64 (O + o) = O + o := wrap64_id (by omega) (by omega)
        have e4 : wrap64 (O + o - s) = O + o - s := wrap64_id (by omega) (by omega)
        obtain ⟨x2, hx2, f2⟩ := fits_ev (long := O + o - s) M.vb M.lb hs ⟨by omega, by omega⟩ M.qB.2
        have hmin : ∀ s' C' O', s ≤ s' → SlotV n0 n1 b0 b1 c0 c1 i w o N B L s' C' O' → C ≤ C' ∧ O ≤ O' := fun s' C' O' h1 h => by
          have h2 := h.fc
          have h3 := hC4 C' (by omega) h.fn
          have h4 := h.fo
          exact ⟨h3, hO4 O' (by omega) h.fl2⟩
        have hwalk : ∀ x : Bool, Ev (fun k => fit_fits.f k b0 b1 s (O + o - s) B) x → Ev (fun k => (fit_fits.f k c0 c1 s i L).bind fun t126 => (if t126 = true then (fit_behind.j0 k s (decide ((wrap64 (s + i)) > 1099511627776)) n0 n1 b0 b1 c0 c1 i w o N B L) else (fit_behind.j0 k s true n0 n1 b0 b1 c0 c1 i w o N B L))) (if x = true then (s, C, O, true) else (0, 0, 0, false)) := fun x hx => by
          refine Ev.bind hx1 (Ev.pos rfl (Ev.succ ?_))
          simp only [fit_behind.j0]
          rw [e1]
          refine Ev.neg (by simp; omega) (Ev.bind hC (Ev.neg (by omega) (Ev.succ ?_)))
          simp only [fit_behind.j1]
          rw [e2]
          refine Ev.neg (by simp; omega) (Ev.bind hO (Ev.neg (by omega) ?_))
          rw [e3, e4]
          cases x with
          | true => exact Ev.bind hx (Ev.pos rfl (Ev.const rfl))
          | false => exact Ev.bind hx (Ev.neg (by decide) (Ev.const rfl))
        cases x2 with
        | true => exact .inl ⟨C, O, hwalk true hx2, ⟨g1, hC1, hC3, hO1, hO3, f2.1 rfl⟩, hmin⟩
        | false =>
          refine .inr ⟨hwalk false hx2, fun C' O' h => ?_⟩
          have h1 := hmin s C' O' (Int.le_refl _) h
          have h2 := f2.2 (fits_less h.fb (by omega) (by omega))
          cases h2
/-- What has been found among times that have been tried. -/
def GoodSt (n0 n1 b0 b1 c0 c1 : List Int) (i w o N B L : Int) (st : SlotSt) (seen : List Int) : Prop :=
  (st = (0, 0, 0, false, 1099511627777) ∧ ∀ s ∈ seen, ∀ C O, ¬ SlotV n0 n1 b0 b1 c0 c1 i w o N B L s C O) ∨
  (∃ S C O, st = (S, C, O, true, S) ∧ S ∈ seen ∧ SlotV n0 n1 b0 b1 c0 c1 i w o N B L S C O ∧ (∀ s' C' O', S ≤ s' → SlotV n0 n1 b0 b1 c0 c1 i w o N B L s' C' O' → C ≤ C' ∧ O ≤ O') ∧ ∀ s ∈ seen, ∀ C' O', SlotV n0 n1 b0 b1 c0 c1 i w o N B L s C' O' → S ≤ s)
theorem rowF_ev (M : May n0 n1 b0 b1 c0 c1 i w o N B L) : ∀ (ts : List Int) (st : SlotSt) (seen : List Int), (∀ t ∈ ts, Qy t) → ts.Pairwise (· < ·) → GoodSt n0 n1 b0 b1 c0 c1 i w o N B L st seen →
    ∃ st', Ev (fun k => rowF k n0 n1 b0 b1 c0 c1 i w o N B L ts st) st' ∧ GoodSt n0 n1 b0 b1 c0 c1 i w o N B L st' (seen ++ ts)
  | [], st, seen, _, _, hg => ⟨st, Ev.const rfl, by rwa [List.append_nil]⟩
  | t :: ts, st, seen, hq, hp, hg => by
    have hqt := hq t (List.mem_cons_self ..)
    rw [List.pairwise_cons] at hp
    simp only [rowF]
    by_cases h1 : st.2.2.2.2 ≤ t
    · refine ⟨st, Ev.pos h1 (Ev.const rfl), ?_⟩
      rcases hg with ⟨rfl, _⟩ | ⟨S, C, O, rfl, g1, g2, g3, g4⟩
      · exfalso; have : (1099511627777 : Int) ≤ t := h1; omega
      · have h1' : S ≤ t := h1
        refine .inr ⟨S, C, O, rfl, List.mem_append_left _ g1, g2, g3, fun s hs C' O' h => ?_⟩
        rcases List.mem_append.1 hs with hs | hs
        · exact g4 s hs C' O' h
        · rcases List.mem_cons.1 hs with rfl | hs
          · exact h1'
          · have := hp.1 s hs; omega
    · rcases behind_ev M hqt with ⟨C, O, hev, hv, hmin⟩ | ⟨hev, hno⟩
      · refine ⟨_, Ev.neg h1 (Ev.bind hev (Ev.pos rfl (Ev.const rfl))), .inr ⟨t, C, O, rfl, List.mem_append_right _ (List.mem_cons_self ..), hv, hmin, fun s hs C' O' h => ?_⟩⟩
        rcases List.mem_append.1 hs with hs | hs
        · rcases hg with ⟨rfl, g1⟩ | ⟨S, C, O, rfl, g1, g2, g3, g4⟩
          · exact absurd h (g1 s hs C' O')
          · have h2 := g4 s hs C' O' h
            have h3 : ¬ S ≤ t := h1
            omega
        · rcases List.mem_cons.1 hs with rfl | hs
          · exact Int.le_refl _
          · have := hp.1 s hs; omega
      · have hg' : GoodSt n0 n1 b0 b1 c0 c1 i w o N B L st (seen ++ [t]) := by
          rcases hg with ⟨rfl, g1⟩ | ⟨S, C, O, rfl, g1, g2, g3, g4⟩
          · refine .inl ⟨rfl, fun s hs => ?_⟩
            rcases List.mem_append.1 hs with hs | hs
            · exact g1 s hs
            · rw [List.mem_singleton] at hs; subst hs; exact hno
          · refine .inr ⟨S, C, O, rfl, List.mem_append_left _ g1, g2, g3, fun s hs C' O' h => ?_⟩
            rcases List.mem_append.1 hs with hs | hs
            · exact g4 s hs C' O' h
            · rw [List.mem_singleton] at hs; subst hs; exact absurd h (hno C' O')
        obtain ⟨st', h2, h3⟩ := rowF_ev M ts st (seen ++ [t]) (fun u hu => hq u (List.mem_cons_of_mem _ hu)) hp.2 hg'
        refine ⟨st', Ev.neg h1 (Ev.bind hev (Ev.neg (by decide) h2)), ?_⟩
        rwa [List.append_assoc] at h3
/-- The first slot is ahead of all. -/
theorem slotF_ev (M : May n0 n1 b0 b1 c0 c1 i w o N B L) {f : Int} (hf : Qy f) :
    (Ev (fun k => slotF k n0 n1 b0 b1 c0 c1 i w o N B L f) (0, 0, 0, 7) ∧ ∀ S C O, f ≤ S → ¬ SlotV n0 n1 b0 b1 c0 c1 i w o N B L S C O) ∨
    ∃ S C O, Ev (fun k => slotF k n0 n1 b0 b1 c0 c1 i w o N B L f) (S, C, O, 0) ∧ f ≤ S ∧ SlotV n0 n1 b0 b1 c0 c1 i w o N B L S C O ∧ ∀ S' C' O', f ≤ S' → SlotV n0 n1 b0 b1 c0 c1 i w o N B L S' C' O' → S ≤ S' ∧ C ≤ C' ∧ O ≤ O' := by
  have key : ∀ S C O, f ≤ S → SlotV n0 n1 b0 b1 c0 c1 i w o N B L S C O → ∃ s ∈ timesT c0 f ++ timesT b0 f, s ≤ S ∧ ∃ C' O', SlotV n0 n1 b0 b1 c0 c1 i w o N B L s C' O' := fun S C O hS h => by
    have hle := h.le M
    have q1 := M.qi.1
    have q2 := M.qw.1
    have q3 := M.qo.1
    have q4 := hf.1
    have h1 := h.fc
    have h2 := h.fo
    obtain ⟨s1, t1, t2, t3, t4⟩ := back_time M.vc hf.1 hS (by omega)
    obtain ⟨s2, u1, u2, u3, u4⟩ := back_time M.vb hf.1 hS (by omega)
    obtain ⟨s, hs, hsS, hfs, hc1, hc2⟩ : ∃ s ∈ timesT c0 f ++ timesT b0 f, s ≤ S ∧ f ≤ s ∧ (∀ u, s ≤ u → u ≤ S → atT u (spansT c0 c1) = atT S (spansT c0 c1)) ∧ (∀ u, s ≤ u → u ≤ S → atT u (spansT b0 b1) = atT S (spansT b0 b1)) := by
      by_cases h3 : s1 ≤ s2
      · exact ⟨s2, List.mem_append_right _ u1, u2, u3, fun u v1 v2 => t4 u (by omega) v2, u4⟩
      · exact ⟨s1, List.mem_append_left _ t1, t2, t3, t4, fun u v1 v2 => u4 u (by omega) v2⟩
    refine ⟨s, hs, hsS, ?_⟩
    by_cases h3 : S < O + o
    · refine ⟨C, O, ⟨fits_back h.fl1 q1 hsS hc1, by omega, h.fn, h.fo, h.fl2, ?_⟩⟩
      obtain ⟨h4, h5⟩ := h.fb
      refine ⟨by omega, .inr (fun u v1 v2 => ?_)⟩
      rcases h5 with h5 | h5
      · omega
      · by_cases h6 : u ≤ S
        · rw [hc2 u v1 h6]; exact h5 S (by omega) (by omega)
        · exact h5 u (by omega) (by omega)
    · exact ⟨s, s, ⟨⟨by omega, .inl (by omega)⟩, by omega, ⟨by omega, .inl (by omega)⟩, by omega, ⟨by omega, .inl (by omega)⟩, ⟨by omega, .inl (by omega)⟩⟩⟩
  obtain ⟨st1, hev1, hg1⟩ := rowF_ev M (timesT c0 f) (0, 0, 0, false, 1099511627777) [] (fun t ht => (times_rng M.vc hf t ht).1) (times_pair M.vc f) (.inl ⟨rfl, fun s hs => by cases hs⟩)
  obtain ⟨st2, hev2, hg2⟩ := rowF_ev M (timesT b0 f) st1 ([] ++ timesT c0 f) (fun t ht => (times_rng M.vb hf t ht).1) (times_pair M.vb f) hg1
  rw [List.nil_append] at hg2
  unfold slotF
  rcases hg2 with ⟨rfl, g1⟩ | ⟨S, C, O, rfl, g1, g2, g3, g4⟩
  · refine .inl ⟨Ev.bind hev1 (Ev.bind hev2 (Ev.neg (by decide) (Ev.const rfl))), fun S C O hS h => ?_⟩
    obtain ⟨s, hs, _, C', O', h'⟩ := key S C O hS h
    exact g1 s hs C' O' h'
  · refine .inr ⟨S, C, O, Ev.bind hev1 (Ev.bind hev2 (Ev.pos rfl (Ev.const rfl))), ?_, g2, fun S' C' O' hS h => ?_⟩
    · rcases List.mem_append.1 g1 with g1 | g1
      · exact (times_rng M.vc hf S g1).2
      · exact (times_rng M.vb hf S g1).2
    · obtain ⟨s, hs, hsS, C2, O2, h'⟩ := key S' C' O' hS h
      have h1 := g4 s hs C2 O2 h'
      have h2 := g3 S' C' O' (by omega) h
      exact ⟨by omega, h2.1, h2.2⟩
theorem quantity_l (l : List Int) (hl : l.length ≤ 1000) (d : Nat) : ∀ i : Nat, i + d = l.length → ∃ b : Bool, Ev (fun k => fit_quantity.l0 k l (l.length : Int) (i : Int)) b ∧ (b = true ↔ ∀ x ∈ l.drop i, Qy x) := by
  induction d with
  | zero =>
    intro i hi
    refine ⟨true, Ev.succ ?_, ?_⟩
    · simp only [fit_quantity.l0]
      exact Ev.neg (by omega) (Ev.const rfl)
    · rw [List.drop_eq_nil_of_le (by omega)]; simp
  | succ d ih =>
    intro i hi
    obtain ⟨b, hb, hbq⟩ := ih (i + 1) (by omega)
    have e1 : rd l (i : Int) = l.getD i 0 := rd_nat l i
    have hw : wrap64 ((i : Int) + 1) = ((i + 1 : Nat) : Int) := by unfold wrap64; omega
    have hil : i < l.length := by omega
    have hdrop : l.drop i = l.getD i 0 :: l.drop (i + 1) := by
      rw [List.drop_eq_getElem_cons hil]; congr 1; simp [List.getD_eq_getElem?_getD, hil]
    by_cases h : Qy (l.getD i 0)
    · refine ⟨b, Ev.succ ?_, ?_⟩
      · simp only [fit_quantity.l0]
        rw [e1, hw]
        refine Ev.pos (by omega) (Ev.pos (by omega) (Ev.pos (by omega) (Ev.eq_bind (a := l.getD i 0) ?_ (Ev.pos rfl hb))))
        have h2 := (badQ_iff (l.getD i 0)).2 h
        unfold badQ at h2
        rw [bne_eq_false_iff_eq] at h2
        unfold sat_Of.f
        rw [← h2]
      · rw [hbq, hdrop]; simp only [List.mem_cons, forall_eq_or_imp]; exact ⟨fun h3 => ⟨h, h3⟩, fun h3 => h3.2⟩
    · refine ⟨false, Ev.succ ?_, ?_⟩
      · simp only [fit_quantity.l0]
        rw [e1, hw]
        refine Ev.pos (by omega) (Ev.pos (by omega) (Ev.pos (by omega) (Ev.eq_bind (a := clampT (l.getD i 0)) rfl (Ev.neg ?_ (Ev.const rfl)))))
        intro h2
        apply h
        refine (badQ_iff _).1 ?_
        unfold badQ
        rw [bne_eq_false_iff_eq]
        exact h2
      · rw [hdrop]; simp only [List.mem_cons, forall_eq_or_imp]; exact ⟨fun h3 => (by cases h3), fun h3 => absurd h3.1 h⟩
theorem quantity_ev (l : List Int) (hl : l.length ≤ 1000) : ∃ b : Bool, Ev (fun k => fit_quantity.f k l) b ∧ (b = true ↔ ∀ x ∈ l, Qy x) := by
  obtain ⟨b, h1, h2⟩ := quantity_l l hl l.length 0 (by omega)
  rw [List.drop_zero] at h2
  exact ⟨b, h1, h2⟩
theorem check_iff (a n : List Int) (ha : a.length ≤ 2000) : ∃ e, Ev (fun k => steps_Check.f k a n) e ∧ (e = 0 ↔ Val a n) := by
  obtain ⟨e, he, hv⟩ := check_ev a n ha
  exact ⟨e, he, hv, fun h => ev_uniq he (check_ok h ha)⟩
/-- What may asks. -/
theorem may_ev (n0 n1 b0 b1 c0 c1 : List Int) (i w o N B L : Int) (l : List Int) (hn : n0.length ≤ 600) (hb : b0.length ≤ 600) (hc : c0.length ≤ 600) (hl : l.length ≤ 1000) :
    ∃ b : Bool, Ev (fun k => fit_may.f k n0 n1 b0 b1 c0 c1 i w o N B L l) b ∧ (b = true ↔ May n0 n1 b0 b1 c0 c1 i w o N B L ∧ ∀ x ∈ l, Qy x) := by
  obtain ⟨e1, h1, v1⟩ := check_iff n0 n1 (by omega)
  obtain ⟨e2, h2, v2⟩ := check_iff b0 b1 (by omega)
  obtain ⟨e3, h3, v3⟩ := check_iff c0 c1 (by omega)
  obtain ⟨x1, q1, r1⟩ := quantity_ev [i, w, o, N, B, L] (by simp)
  obtain ⟨x2, q2, r2⟩ := quantity_ev l hl
  unfold fit_may.f
  by_cases d1 : e1 = 0
  case neg => exact ⟨false, Ev.bind h1 (Ev.neg d1 (Ev.const rfl)), fun h => (by cases h), fun h => absurd (v1.2 h.1.vn) d1⟩
  by_cases d2 : e2 = 0
  case neg => exact ⟨false, Ev.bind h1 (Ev.pos d1 (Ev.bind h2 (Ev.neg d2 (Ev.const rfl)))), fun h => (by cases h), fun h => absurd (v2.2 h.1.vb) d2⟩
  by_cases d3 : e3 = 0
  case neg => exact ⟨false, Ev.bind h1 (Ev.pos d1 (Ev.bind h2 (Ev.pos d2 (Ev.bind h3 (Ev.neg d3 (Ev.const rfl)))))), fun h => (by cases h), fun h => absurd (v3.2 h.1.vc) d3⟩
  cases x1 with
  | false =>
    refine ⟨false, Ev.bind h1 (Ev.pos d1 (Ev.bind h2 (Ev.pos d2 (Ev.bind h3 (Ev.pos d3 (Ev.bind q1 (Ev.neg (by decide) (Ev.const rfl)))))))), fun h => (by cases h), fun h => ?_⟩
    have := r1.2 (fun x hx => by
      simp only [List.mem_cons, List.not_mem_nil, or_false] at hx
      have M := h.1
      rcases hx with rfl | rfl | rfl | rfl | rfl | rfl
      · exact M.qi
      · exact M.qw
      · exact M.qo
      · exact M.qN
      · exact M.qB
      · exact M.qL)
    cases this
  | true =>
    refine ⟨x2, Ev.bind h1 (Ev.pos d1 (Ev.bind h2 (Ev.pos d2 (Ev.bind h3 (Ev.pos d3 (Ev.bind q1 (Ev.pos rfl (Ev.bind q2 (Ev.const rfl))))))))), fun h => ⟨?_, r2.1 h⟩, fun h => r2.2 h.2⟩
    have hr := r1.1 rfl
    exact ⟨v1.1 d1, v2.1 d2, v3.1 d3, hn, hb, hc, hr i (by simp), hr w (by simp), hr o (by simp), hr N (by simp), hr B (by simp), hr L (by simp)⟩
/-- Slot, told. -/
theorem slot_ev (n0 n1 b0 b1 c0 c1 : List Int) (i w o N B L f : Int) (hn : n0.length ≤ 600) (hb : b0.length ≤ 600) (hc : c0.length ≤ 600) :
    (Ev (fun k => fit_Slot.f k n0 n1 b0 b1 c0 c1 i w o N B L f) (0, 0, 0, 2) ∧ ¬ (May n0 n1 b0 b1 c0 c1 i w o N B L ∧ Qy f)) ∨
    (May n0 n1 b0 b1 c0 c1 i w o N B L ∧ Qy f ∧
      ((Ev (fun k => fit_Slot.f k n0 n1 b0 b1 c0 c1 i w o N B L f) (0, 0, 0, 7) ∧ ∀ S C O, f ≤ S → ¬ SlotV n0 n1 b0 b1 c0 c1 i w o N B L S C O) ∨
       ∃ S C O, Ev (fun k => fit_Slot.f k n0 n1 b0 b1 c0 c1 i w o N B L f) (S, C, O, 0) ∧ f ≤ S ∧ SlotV n0 n1 b0 b1 c0 c1 i w o N B L S C O ∧ ∀ S' C' O', f ≤ S' → SlotV n0 n1 b0 b1 c0 c1 i w o N B L S' C' O' → S ≤ S' ∧ C ≤ C' ∧ O ≤ O')) := by
  obtain ⟨b, h1, h2⟩ := may_ev n0 n1 b0 b1 c0 c1 i w o N B L [f] hn hb hc (by simp)
  unfold fit_Slot.f
  cases b with
  | false => exact .inl ⟨Ev.bind h1 (Ev.neg (by decide) (Ev.const rfl)), fun h => by have := h2.2 ⟨h.1, fun x hx => by rw [List.mem_singleton] at hx; subst hx; exact h.2⟩; cases this⟩
  | true =>
    obtain ⟨M, hq⟩ := h2.1 rfl
    have hf : Qy f := hq f (by simp)
    refine .inr ⟨M, hf, ?_⟩
    rcases slotF_ev M hf with ⟨h3, h4⟩ | ⟨S, C, O, h3, h4⟩
    · exact .inl ⟨Ev.bind h1 (Ev.pos rfl (Ev.pos ⟨by omega, by omega⟩ h3)), h4⟩
    · exact .inr ⟨S, C, O, Ev.bind h1 (Ev.pos rfl (Ev.pos ⟨by omega, by omega⟩ h3)), h4⟩
/-- First, told. -/
theorem First_ev (a n : List Int) (f long m : Int) (ha : a.length ≤ 600) :
    (Ev (fun k => fit_First.f k a n f long m) (0, 2) ∧ ¬ (Val a n ∧ Qy f ∧ Qy long ∧ Qy m)) ∨
    ((Val a n ∧ Qy f ∧ Qy long ∧ Qy m) ∧ ((Ev (fun k => fit_First.f k a n f long m) (0, 7) ∧ ∀ t, f ≤ t → ¬ Fits a n t long m) ∨ ∃ r, Ev (fun k => fit_First.f k a n f long m) (r, 0) ∧ f ≤ r ∧ Qy r ∧ Fits a n r long m ∧ ∀ t, f ≤ t → Fits a n t long m → r ≤ t)) := by
  obtain ⟨e, h1, v1⟩ := check_iff a n (by omega)
  obtain ⟨x, q1, r1⟩ := quantity_ev [f, long, m] (by simp)
  unfold fit_First.f
  by_cases d1 : e = 0
  case neg =>
    refine .inl ⟨Ev.bind h1 (Ev.neg d1 (Ev.succ ?_)), fun h => d1 (v1.2 h.1)⟩
    simp only [fit_First.j0]
    exact Ev.pos (by trivial) (Ev.const rfl)
  cases x with
  | false =>
    refine .inl ⟨Ev.bind h1 (Ev.pos d1 (Ev.bind q1 (Ev.succ ?_))), fun h => ?_⟩
    · simp only [fit_First.j0]
      exact Ev.pos (by trivial) (Ev.const rfl)
    · have := r1.2 (fun x hx => by
        simp only [List.mem_cons, List.not_mem_nil, or_false] at hx
        rcases hx with rfl | rfl | rfl
        · exact h.2.1
        · exact h.2.2.1
        · exact h.2.2.2)
      cases this
  | true =>
    have hr := r1.1 rfl
    have hv := v1.1 d1
    have hf : Qy f := hr f (by simp)
    have hl : Qy long := hr long (by simp)
    have hm : Qy m := hr m (by simp)
    refine .inr ⟨⟨hv, hf, hl, hm⟩, ?_⟩
    obtain ⟨r, h2, h3⟩ := first_ev hv ha hf hl hm.2
    rcases h3 with ⟨rfl, h3⟩ | ⟨h3, h4, h5⟩
    · refine .inl ⟨Ev.bind h1 (Ev.pos d1 (Ev.bind q1 (Ev.succ ?_))), h3⟩
      simp only [fit_First.j0]
      exact Ev.neg (by decide) (Ev.bind h2 (Ev.pos (by decide) (Ev.const rfl)))
    · refine .inr ⟨r, Ev.bind h1 (Ev.pos d1 (Ev.bind q1 (Ev.succ ?_))), h3, h4, h5⟩
      simp only [fit_First.j0]
      exact Ev.neg (by decide) (Ev.bind h2 (Ev.neg (by omega) (Ev.const rfl)))
end Go.Proofs.Ythbonmpkjkihgaa.Pure
