-- Written by this session's program gprint.py: functions of the program as plain functions, and that the machine does what they say. Not trusted: Lean checks it.
import Derived.Test.YtifebcdkckjphaaPx0
import Derived.Test.YtifebcdkckjphaaPx1
import Derived.Test.YtifebcdkckjphaaPx2
namespace Go.Proofs.Ytifebcdkckjphaa.P
open Go.RowKit Go.Proofs.YtifebcdkckjphaaW.PrintWords Go.Proofs.YtifebcdkckjphaaW.PrintLast Go.Proofs.YtifebcdkckjphaaW.PrintMore
attribute [local go_sem] max2_int min2_int max_two min_two max_three min_three max_four min_four   -- for this text's walks alone
set_option linter.unusedVariables false
set_option linter.unusedSimpArgs false

attribute [local go_sem high] eqA35
/-! ### nodes_Give: function 8 -/
/-- A row of which the nodes of some places have a job. -/
def giveL (l : List S35) (n : Int) (ps : List Int) : List S35 := ps.foldl (fun l i => l.set i.toNat ⟨(l.getD i.toNat z35).f0, (l.getD i.toNat z35).f1, n⟩) l
theorem giveL_len (n : Int) (ps : List Int) : ∀ l : List S35, (giveL l n ps).length = l.length := by
  induction ps with
  | nil => intro l; rfl
  | cons p ps ih => intro l; exact (ih _).trans (by simp)
theorem giveL_snoc (l : List S35) (n : Int) (ps : List Int) (p : Int) : giveL l n (ps ++ [p]) = (giveL l n ps).set p.toNat ⟨((giveL l n ps).getD p.toNat z35).f0, ((giveL l n ps).getD p.toNat z35).f1, n⟩ := by simp [giveL, List.foldl_append]
/-- What Give tells. -/
def giveR (l : List S35) (n many : Int) : List S35 × List Int × Int :=
  if okNodes l = true ∧ (1 ≤ n ∧ n ≤ 1073741824) ∧ 1 ≤ many ∧ many ≤ 64 then
    (if 0 < (posT (ofP n) l).length then ([], [], 8)
     else if ((posT freeP l).length : Int) < many then ([], [], 6)
     else (giveL l n ((posT freeP l).take many.toNat), (posT freeP l).take many.toNat, 0)) else ([], [], 2)
def nodes_Give.f (l : List S35) (n many : Int) : Option (List S35 × List Int × Int) := some (giveR l n many)
/-- Give's two variables, as they lie. -/
structure GiveB (w : World) (n many : Int) (W : World) : Prop where
  below : Below w.heap.size w W
  b1 : Boxed W w.heap.size 2 (.int .i64 n)
  b2 : Boxed W (w.heap.size + 1) 3 (.int .i64 many)
theorem GiveB.step {w : World} {n many : Int} {W W' : World} (h : GiveB w n many W) (hb : Below W.heap.size W W') : GiveB w n many W' :=
  ⟨h.below.trans (hb.mono h.below.size), Boxed.below' h.b1 hb h.b1.lt, Boxed.below' h.b2 hb h.b2.lt⟩
theorem GiveB.drew {w : World} {n many : Int} {W : World} (h : GiveB w n many W) : GiveB w n many W.drew := ⟨h.below.trans ⟨rfl, rfl, rfl, Nat.le_refl _, fun _ _ => rfl⟩, h.b1, h.b2⟩
theorem GiveB.new {w : World} {n many : Int} : GiveB w n many ((w.alloc (.cells #[.int .i64 n] 2)).alloc (.cells #[.int .i64 many] 3)) := by
  refine ⟨((Below.refl _ w).alloc (Nat.le_refl _) _).alloc (by simp) _, (Boxed.new w _ _).alloc _, ?_⟩
  have := Boxed.new (w.alloc (.cells #[.int .i64 n] 2)) 3 (.int .i64 many)
  rwa [World.size_alloc] at this
theorem node_move {W W' : World} {base g n cap : Nat} {xs : List S35} (h : NodeRow W base g n cap xs) (hb : W'.heap[g]? = W.heap[g]?) : NodeRow W' base g n cap xs := by
  obtain ⟨_, inner, ho, hr⟩ := h
  refine ⟨fun _ _ => trivial, inner, own_move ho (fun k hk => ?_), hr.1, fun q p hq => ?_⟩
  · have : g = k := by simpa [Value.ownBlock] using hk
    rw [← this]; exact hb
  · rw [k35_openM (hr.2 q p hq)]
    exact k35_mkM _ _ _ _
theorem own_slice {W : World} {base n : Nat} {e : TypeId} {v : Value} {xs : List Value} (h : W.ownsRow base e 1 v n xs) : ∃ A c, v = .slice A n c := by
  rcases h.2 with ⟨e0, h0⟩ | ⟨g, cap, cur, e0, _⟩
  · have : n = 0 := h0
    subst this
    exact ⟨_, _, e0⟩
  · exact ⟨_, _, e0⟩
/-- What a round of Give finds. -/
structure GiveI (w : World) (S g cap : Nat) (l0 : List S35) (n many : Int) (pre : List Int) (W : World) : Prop where
  G : GiveB w n many W
  row : NodeRow W w.heap.size g l0.length cap (giveL l0 n pre)
  bo : Boxed W S 22 (.slice (some ⟨g, 0, none⟩) l0.length cap)
  bg : ∃ A c, Boxed W (S + 1) 26 (.slice A pre.length c) ∧ W.ownsRow (S + 6) 3 1 (.slice A pre.length c) pre.length (nums .i64 pre)
theorem GiveB.keep {w : World} {n many : Int} {W W' : World} {K : Nat → Prop} (h : GiveB w n many W) (hk : Keeps K W W') (hK : ∀ k, k ≤ w.heap.size + 1 → K k) : GiveB w n many W' :=
  ⟨h.below.trans (hk.below h.below.size (fun k hl => hK k (by omega))), hk.boxed h.b1 (hK _ (by omega)), hk.boxed h.b2 (hK _ (by omega))⟩
theorem GiveI.keep {w : World} {S g cap : Nat} {l0 : List S35} {n many : Int} {pre : List Int} {W W' : World} {K : Nat → Prop} (h : GiveI w S g cap l0 n many pre W) (hk : Keeps K W W') (hg : g < S) (hS : w.heap.size + 2 ≤ S) (hK : ∀ k, k ≠ S + 4 → k ≠ S + 5 → K k) : GiveI w S g cap l0 n many pre W' := by
  obtain ⟨A, c, h1, h2⟩ := h.bg
  exact ⟨h.G.keep hk (fun k hl => hK k (by omega) (by omega)), node_move h.row (hk.block g (Kd.R_lt h.row g (by simp [Value.ownBlock])) (hK g (by omega) (by omega))), hk.boxed h.bo (hK _ (by omega) (by omega)),
    A, c, hk.boxed h1 (hK _ (by omega) (by omega)), hk.row h2 (fun k hl => hK k (by omega) (by omega))⟩
attribute [local go_sem] Oper.semAt_some
set_option maxHeartbeats 8000000 in
theorem nodes_Give.calls (A0 : Option Addr) (c0 : Nat) (l0 : List S35) (a1 a2 : Int) (r1 : List S35) (r2 : List Int) (r3 : Int) (w : World) (hr0 : Kd.C k35 w A0 l0.length l0) (hc0 : l0.length ≤ c0) (h : nodes_Give.f l0 a1 a2 = some (r1, r2, r3)) :
    Calls Try.prog 8 #[.slice A0 l0.length c0, .int .i64 a1, .int .i64 a2] w fun e w' => ∃ v0_ v1_ : Value, e = .returned (.tuple #[v0_, v1_, .int .i64 r3]) ∧ Kd.R k35 35 w' w.heap.size (fun _ => True) v0_ r1 ∧ Kd.R (Kd.int .i64) 3 w' w.heap.size (fun _ => True) v1_ r2 ∧ Below w.heap.size w w' := by
  replace h := Option.some.inj h
  have HR := Aside0.mk hr0
  have HC := Aside0.mk hc0
  clear hr0 hc0
  have hG := Aside0.mk (GiveB.new (w := w) (n := a1) (many := a2))
  have c1 := hG.out.b1.cell
  have c2 := hG.out.b2.cell
  unfold giveR at h
  by_cases hok : okNodes l0 = true
  case neg =>
    rw [if_neg (fun e => hok e.1)] at h
    obtain ⟨rfl, h2⟩ := Prod.mk.inj h
    obtain ⟨rfl, rfl⟩ := Prod.mk.inj h2
    have HE := Aside0.mk (show nodes_Check.f l0 = some 2 by unfold nodes_Check.f; rw [if_neg hok])
    clear hok h h2
    go_enter Try.func8, Try.ntmps8
    go_wp2_with (first
      | (go_at_call 12; (refine (nodes_Check.calls _ _ l0 _ _ (Kd.C_below HR.out hG.out.below) HC.out HE.out).mono ?_); rintro e w1 ⟨rfl, hb1⟩; replace hG := Aside0.mk (hG.out.step hb1); have c1 := hG.out.b1.cell; have c2 := hG.out.b2.cell; clear hb1))
    go_ret3
    exact ⟨_, _, rfl, Kd.R_nil _ _ _ _ _, Kd.R_nil _ _ _ _ _, hG.out.below⟩
  have HE := Aside0.mk (show nodes_Check.f l0 = some 0 by unfold nodes_Check.f; rw [if_pos hok])
  have hlen : 1 ≤ l0.length ∧ l0.length ≤ 64 := by
    have h := hok
    unfold okNodes at h
    simp only [Bool.and_eq_true, decide_eq_true_eq] at h
    exact h.1
  by_cases hn : 1 ≤ a1 ∧ a1 ≤ 1073741824
  case neg =>
    rw [if_neg (fun e => hn e.2.1)] at h
    obtain ⟨rfl, h2⟩ := Prod.mk.inj h
    obtain ⟨rfl, rfl⟩ := Prod.mk.inj h2
    have HJ := Aside0.mk (show nodes_job.f a1 = some false by rw [job_eq, decide_eq_false hn])
    clear hok h hn h2
    go_enter Try.func8, Try.ntmps8
    go_wp2_with (first
      | (go_at_call 12; (refine (nodes_Check.calls _ _ l0 _ _ (Kd.C_below HR.out hG.out.below) HC.out HE.out).mono ?_); rintro e w1 ⟨rfl, hb1⟩; replace hG := Aside0.mk (hG.out.step hb1); have c1 := hG.out.b1.cell; have c2 := hG.out.b2.cell; clear hb1)
      | (go_at_call 27; (refine (nodes_job.calls _ _ _ HJ.out).mono ?_); rintro e w2 ⟨rfl, hd2⟩; replace hG := Aside0.mk (hG.out.step (node_drawn hd2)); have c3 := hG.out.b1.cell; have c4 := hG.out.b2.cell; clear hd2))
    go_ret3
    exact ⟨_, _, rfl, Kd.R_nil _ _ _ _ _, Kd.R_nil _ _ _ _ _, hG.out.below⟩
  have HJ := Aside0.mk (show nodes_job.f a1 = some true by rw [job_eq, decide_eq_true hn])
  by_cases hm1 : 1 ≤ a2
  case neg =>
    rw [if_neg (fun e => hm1 e.2.2.1)] at h
    obtain ⟨rfl, h2⟩ := Prod.mk.inj h
    obtain ⟨rfl, rfl⟩ := Prod.mk.inj h2
    have hm1' : a2 < 1 := by omega
    clear hok h hn h2 hm1
    go_enter Try.func8, Try.ntmps8
    go_wp2_with (first
      | (go_at_call 12; (refine (nodes_Check.calls _ _ l0 _ _ (Kd.C_below HR.out hG.out.below) HC.out HE.out).mono ?_); rintro e w1 ⟨rfl, hb1⟩; replace hG := Aside0.mk (hG.out.step hb1); have c1 := hG.out.b1.cell; have c2 := hG.out.b2.cell; clear hb1)
      | (go_at_call 27; (refine (nodes_job.calls _ _ _ HJ.out).mono ?_); rintro e w2 ⟨rfl, hd2⟩; replace hG := Aside0.mk (hG.out.step (node_drawn hd2)); have c3 := hG.out.b1.cell; have c4 := hG.out.b2.cell; clear hd2))
    go_ret3
    exact ⟨_, _, rfl, Kd.R_nil _ _ _ _ _, Kd.R_nil _ _ _ _ _, hG.out.below⟩
  have hm1' : ¬ a2 < 1 := by omega
  by_cases hm2 : a2 ≤ 64
  case neg =>
    rw [if_neg (fun e => hm2 e.2.2.2)] at h
    obtain ⟨rfl, h2⟩ := Prod.mk.inj h
    obtain ⟨rfl, rfl⟩ := Prod.mk.inj h2
    have hm2' : 64 < a2 := by omega
    clear hok h hn h2 hm1 hm2
    go_enter Try.func8, Try.ntmps8
    go_wp2_with (first
      | (go_at_call 12; (refine (nodes_Check.calls _ _ l0 _ _ (Kd.C_below HR.out hG.out.below) HC.out HE.out).mono ?_); rintro e w1 ⟨rfl, hb1⟩; replace hG := Aside0.mk (hG.out.step hb1); have c1 := hG.out.b1.cell; have c2 := hG.out.b2.cell; clear hb1)
      | (go_at_call 27; (refine (nodes_job.calls _ _ _ HJ.out).mono ?_); rintro e w2 ⟨rfl, hd2⟩; replace hG := Aside0.mk (hG.out.step (node_drawn hd2)); have c3 := hG.out.b1.cell; have c4 := hG.out.b2.cell; clear hd2))
    go_ret3
    exact ⟨_, _, rfl, Kd.R_nil _ _ _ _ _, Kd.R_nil _ _ _ _ _, hG.out.below⟩
  have hm2' : ¬ 64 < a2 := by omega
  rw [if_pos ⟨hok, hn, hm1, hm2⟩] at h
  clear hok hn
  have hof := Aside0.mk (show nodes_Of.f l0 a1 = some (posT (ofP a1) l0) from rfl)
  have hopl := posT_length (ofP a1) l0
  generalize posT (ofP a1) l0 = P at h hof hopl
  by_cases hP : 0 < P.length
  · rw [if_pos hP] at h
    obtain ⟨rfl, h2⟩ := Prod.mk.inj h
    obtain ⟨rfl, rfl⟩ := Prod.mk.inj h2
    have hP' : (0 : Int) < (P.length : Int) := by omega
    clear h h2 hP
    go_enter Try.func8, Try.ntmps8
    go_wp2_with (first
      | (go_at_call 12; (refine (nodes_Check.calls _ _ l0 _ _ (Kd.C_below HR.out hG.out.below) HC.out HE.out).mono ?_); rintro e w1 ⟨rfl, hb1⟩; replace hG := Aside0.mk (hG.out.step hb1); have c1 := hG.out.b1.cell; have c2 := hG.out.b2.cell; clear hb1)
      | (go_at_call 27; (refine (nodes_job.calls _ _ _ HJ.out).mono ?_); rintro e w2 ⟨rfl, hd2⟩; replace hG := Aside0.mk (hG.out.step (node_drawn hd2)); have c3 := hG.out.b1.cell; have c4 := hG.out.b2.cell; clear hd2)
      | (go_at_call 10; (refine (nodes_Of.calls _ _ l0 a1 _ _ (Kd.C_below HR.out hG.out.below) HC.out hof.out).mono ?_); rintro e w3 ⟨v0, rfl, hrow, hb3⟩; obtain ⟨Ao, co, rfl⟩ := Kd.R_slice hrow; replace hG := Aside0.mk (hG.out.step hb3); have c5 := hG.out.b1.cell; have c6 := hG.out.b2.cell; clear hrow hb3))
    go_ret3
    exact ⟨_, _, rfl, Kd.R_nil _ _ _ _ _, Kd.R_nil _ _ _ _ _, hG.out.below⟩
  rw [if_neg hP] at h
  obtain rfl : P = [] := List.eq_nil_of_length_eq_zero (by omega)
  clear hP hopl
  have hfr := Aside0.mk (show nodes_Free.f l0 = some ((posT freeP l0).length : Int) from rfl)
  by_cases hF : ((posT freeP l0).length : Int) < a2
  · rw [if_pos hF] at h
    obtain ⟨rfl, h2⟩ := Prod.mk.inj h
    obtain ⟨rfl, rfl⟩ := Prod.mk.inj h2
    clear h h2
    generalize ((posT freeP l0).length : Int) = F at hfr hF
    go_enter Try.func8, Try.ntmps8
    go_upto_region 5 with (first
      | (go_at_call 12; (refine (nodes_Check.calls _ _ l0 _ _ (Kd.C_below HR.out hG.out.below) HC.out HE.out).mono ?_); rintro e w1 ⟨rfl, hb1⟩; replace hG := Aside0.mk (hG.out.step hb1); have c1 := hG.out.b1.cell; have c2 := hG.out.b2.cell; clear hb1)
      | (go_at_call 27; (refine (nodes_job.calls _ _ _ HJ.out).mono ?_); rintro e w2 ⟨rfl, hd2⟩; replace hG := Aside0.mk (hG.out.step (node_drawn hd2)); have c3 := hG.out.b1.cell; have c4 := hG.out.b2.cell; clear hd2)
      | (go_at_call 10; (refine (nodes_Of.calls _ _ l0 a1 _ _ (Kd.C_below HR.out hG.out.below) HC.out hof.out).mono ?_); rintro e w3 ⟨v0, rfl, hrow, hb3⟩; obtain ⟨Ao, co, rfl⟩ := Kd.R_slice hrow; replace hG := Aside0.mk (hG.out.step hb3); have c5 := hG.out.b1.cell; have c6 := hG.out.b2.cell; clear hrow hb3))
    go_region_held3 (fun w' => w'.cell? ⟨w.heap.size + 1, 0, none⟩ = some (.int .i64 a2)) (first | assumption) (first | (go_at_call 11; (refine (nodes_Free.calls _ _ l0 _ _ (Kd.C_below HR.out hG.out.drew.below) HC.out hfr.out).mono ?_); rintro e w4 ⟨rfl, hb4⟩; replace hG := Aside0.mk (hG.out.drew.step hb4); have c7 := hG.out.b1.cell; have c8 := hG.out.b2.cell; clear hb4))
    go_wp2
    go_ret3
    exact ⟨_, _, rfl, Kd.R_nil _ _ _ _ _, Kd.R_nil _ _ _ _ _, hG.out.below⟩
  rw [if_neg hF] at h
  obtain ⟨rfl, h2⟩ := Prod.mk.inj h
  obtain ⟨rfl, rfl⟩ := Prod.mk.inj h2
  clear h h2
  have hlenF := Aside0.mk (posT_length freeP l0)
  have hrng := Aside0.mk (fun x => @posT_rng freeP l0 x)
  have hmf : ∀ (fn : Fn) (first cap : Array Value) (w : World), (Instr.makeFunc fn first cap).run Try.prog w = .ok (.func fn first cap) w := fun _ _ _ _ => rfl
  have hu := Try.underlying35
  refine (callsIn_wide (n := 9)).1 (callsIn_of_wp_marks Try.func8 rfl trivial ?_ rfl)
  simp only [Try.ntmps8, List.size_toArray, List.length_cons, List.length_nil, Nat.reduceAdd, Nat.reduceSub, Array.replicate_succ, Array.replicate_zero, List.push_toArray, List.append_toArray, List.nil_append, List.cons_append]
  gi_wp2_with (first
    | (refine ⟨trivial, ?_⟩; gi_at_call 12; (refine (callsIn_wide.2 (nodes_Check.calls _ _ l0 _ _ (Kd.C_below HR.out hG.out.below) HC.out HE.out)).mono ?_); rintro e w1 ⟨rfl, hb1⟩; replace hG := Aside0.mk (hG.out.step hb1); have c1 := hG.out.b1.cell; have c2 := hG.out.b2.cell; clear hb1)
    | (refine ⟨trivial, ?_⟩; gi_at_call 27; (refine (callsIn_wide.2 (nodes_job.calls _ _ _ HJ.out)).mono ?_); rintro e w2 ⟨rfl, hd2⟩; replace hG := Aside0.mk (hG.out.step (node_drawn hd2)); have c3 := hG.out.b1.cell; have c4 := hG.out.b2.cell; clear hd2)
    | (refine ⟨trivial, ?_⟩; gi_at_call 10; (refine (callsIn_wide.2 (nodes_Of.calls _ _ l0 a1 _ _ (Kd.C_below HR.out hG.out.below) HC.out hof.out)).mono ?_); rintro e w3 ⟨v0, rfl, hrow, hb3⟩; obtain ⟨Ao, co, rfl⟩ := Kd.R_slice hrow; replace hG := Aside0.mk (hG.out.step hb3); have c5 := hG.out.b1.cell; have c6 := hG.out.b2.cell; clear hrow hb3))
  refine wpIn_wide.2 ?_
  go_region_held3 (fun w' => w'.cell? ⟨w.heap.size + 1, 0, none⟩ = some (.int .i64 a2)) (first | assumption) (first | (go_at_call 11; (refine (nodes_Free.calls _ _ l0 _ _ (Kd.C_below HR.out hG.out.drew.below) HC.out hfr.out).mono ?_); rintro e w4 ⟨rfl, hb4⟩; replace hG := Aside0.mk (hG.out.drew.step hb4); have c7 := hG.out.b1.cell; have c8 := hG.out.b2.cell; clear hb4))
  gi_wp2_with (first
    | (refine ⟨trivial, ?_⟩; gi_at_call 28; (refine (callsIn_wide.2 (nodes_Clone_own _ _ l0 _ (Kd.C_below HR.out hG.out.below) HC.out hlen.1 hlen.2)).mono ?_); rintro e w5 ⟨g, cap, rfl, hrow, hb5⟩; have hgl := Aside0.mk (Kd.R_own hrow); have hgw := Aside0.mk (show w.heap.size + 2 ≤ g from Nat.le_trans hG.out.b2.lt (Kd.R_base hrow g (by simp [Value.ownBlock]))); replace hrow := Aside0.mk (Kd.R_lower hrow hG.out.below.size); replace hG := Aside0.mk (hG.out.step hb5); clear hb5; obtain ⟨S, hS⟩ : ∃ S, w5.heap.size = S := ⟨_, rfl⟩)
    | (refine ⟨trivial, ?_⟩; gi_at_call 29; refine (callsIn_wide.2 (nodes_places_calls _ _ rfl rfl _)).mono ?_; rintro e w3 ⟨rfl, rfl⟩; skip))
  have hS2 : w.heap.size + 2 ≤ S := by have := hG.out.b2.lt; omega
  have hgS : g < S := by obtain ⟨inner, ho⟩ := hgl.out; have := (ho.lt g (by simp [Value.ownBlock])).2; omega
  have hg2 : w.heap.size + 2 ≤ g := hgw.out
  have c9 : Below w5.heap.size w5 ((((w5.alloc (Obj.cells #[Value.slice (some { block := g, off := 0 }) l0.length cap] 22)).alloc (Obj.cells #[Value.slice none 0 0] 26)).alloc (Obj.cells #[Value.slice A0 l0.length c0] 22)).alloc (Obj.cells #[Value.func (Fn.func 30) #[] #[]] 58)) :=
    ((((Below.refl _ w5).alloc (Nat.le_refl _) _).alloc (by simp) _).alloc (by simp; omega) _).alloc (by simp; omega) _
  have d1 : Boxed ((((w5.alloc (Obj.cells #[Value.slice (some { block := g, off := 0 }) l0.length cap] 22)).alloc (Obj.cells #[Value.slice none 0 0] 26)).alloc (Obj.cells #[Value.slice A0 l0.length c0] 22)).alloc (Obj.cells #[Value.func (Fn.func 30) #[] #[]] 58)) S 22 (.slice (some ⟨g, 0, none⟩) l0.length cap) := by
    rw [← hS]; exact (((Boxed.new w5 _ _).alloc _).alloc _).alloc _
  have d2 : Boxed ((((w5.alloc (Obj.cells #[Value.slice (some { block := g, off := 0 }) l0.length cap] 22)).alloc (Obj.cells #[Value.slice none 0 0] 26)).alloc (Obj.cells #[Value.slice A0 l0.length c0] 22)).alloc (Obj.cells #[Value.func (Fn.func 30) #[] #[]] 58)) (S + 1) 26 (.slice none 0 0) := by
    have := ((Boxed.new (w5.alloc (Obj.cells #[Value.slice (some { block := g, off := 0 }) l0.length cap] 22)) 26 (.slice none 0 0)).alloc (Obj.cells #[Value.slice A0 l0.length c0] 22)).alloc (Obj.cells #[Value.func (Fn.func 30) #[] #[]] 58)
    rwa [World.size_alloc, hS] at this
  have d3 : BoxN ((((w5.alloc (Obj.cells #[Value.slice (some { block := g, off := 0 }) l0.length cap] 22)).alloc (Obj.cells #[Value.slice none 0 0] 26)).alloc (Obj.cells #[Value.slice A0 l0.length c0] 22)).alloc (Obj.cells #[Value.func (Fn.func 30) #[] #[]] 58)) (S + 1 + 1) 22 [.slice A0 l0.length c0] := by
    have := (BoxN.new ((w5.alloc (Obj.cells #[Value.slice (some { block := g, off := 0 }) l0.length cap] 22)).alloc (Obj.cells #[Value.slice none 0 0] 26)) 22 [.slice A0 l0.length c0]).alloc (Obj.cells #[Value.func (Fn.func 30) #[] #[]] 58)
    rwa [World.size_alloc, World.size_alloc, hS] at this
  have d4 : BoxN ((((w5.alloc (Obj.cells #[Value.slice (some { block := g, off := 0 }) l0.length cap] 22)).alloc (Obj.cells #[Value.slice none 0 0] 26)).alloc (Obj.cells #[Value.slice A0 l0.length c0] 22)).alloc (Obj.cells #[Value.func (Fn.func 30) #[] #[]] 58)) (S + 1 + 1 + 1) 58 [.func (.func 30) #[] #[]] := by
    have := BoxN.new (((w5.alloc (Obj.cells #[Value.slice (some { block := g, off := 0 }) l0.length cap] 22)).alloc (Obj.cells #[Value.slice none 0 0] 26)).alloc (Obj.cells #[Value.slice A0 l0.length c0] 22)) 58 [.func (.func 30) #[] #[]]
    rwa [World.size_alloc, World.size_alloc, World.size_alloc, hS] at this
  have d5 : ((((w5.alloc (Obj.cells #[Value.slice (some { block := g, off := 0 }) l0.length cap] 22)).alloc (Obj.cells #[Value.slice none 0 0] 26)).alloc (Obj.cells #[Value.slice A0 l0.length c0] 22)).alloc (Obj.cells #[Value.func (Fn.func 30) #[] #[]] 58)).heap.size = S + 4 := by simp [hS]
  generalize ((((w5.alloc (Obj.cells #[Value.slice (some { block := g, off := 0 }) l0.length cap] 22)).alloc (Obj.cells #[Value.slice none 0 0] 26)).alloc (Obj.cells #[Value.slice A0 l0.length c0] 22)).alloc (Obj.cells #[Value.func (Fn.func 30) #[] #[]] 58)) = Wr at *
  have hI0 : GiveI w S g cap l0 a1 a2 [] Wr := ⟨hG.out.step c9, node_move hrow.out (c9.block g (by omega)), d1, none, 0, d2, World.ownsRow_nil _ _ _ _⟩
  have hWb : Below w.heap.size w Wr := hI0.G.below
  clear c1 c2 c3 c4 c5 c6 c7 c8
  obtain ⟨i0, hi, hz0, hz1, hz2⟩ := info_parts (P := Try.prog) (e := 3) (z := .int .i64 0) (size := 1) (bytes := 8) (by kernel_rfl)
  replace hi := Aside0.mk hi
  replace hz0 := Aside0.mk hz0
  replace hz1 := Aside0.mk hz1
  replace hz2 := Aside0.mk hz2
  refine wpIn_range (n := 9) (w := Wr) rfl (by omega) (gf := 43) (lb := #[.pointer (some ⟨S + 1 + 1, 0, none⟩), .pointer (some ⟨S + 1 + 1 + 1, 0, none⟩)]) rfl trivial (enters_of Try.func43 (by kernel_rfl) rfl)
    (nodes_places_seq w A0 c0 l0 freeP 30 #[] (S + 1 + 1) (S + 1 + 1 + 1) (fun k => k < w.heap.size ∨ k = S + 2 ∨ k = S + 3) Wr HR.out HC.out hWb d3 d4 (fun k hk => .inl hk) (.inr (.inl rfl)) (.inr (.inr rfl)) (enters_of Try.func30 (by kernel_rfl) rfl) (fun x W hk => by simpa using nodes_free.calls x.f0 x.f1 x.f2 _ W (free_eq x))) (fun k hk => hk.elim) (fun k hk => by omega) (fun _ => rfl)
    (fun pre W => GiveI w S g cap l0 a1 a2 pre W ∧ (pre.length : Int) ≤ a2)
    (fun c s W => c = .exit 1 ∧ ∃ pre x, s = pre ++ [x] ∧ GiveI w S g cap l0 a1 a2 pre W ∧ (pre.length : Int) = a2)
    (by
      rintro s A B ⟨h1, h2⟩ hk
      exact ⟨h1.keep hk hgS hS2 (fun k h4 h5 => ⟨not_false, by omega, by omega⟩), h2⟩)
    (by
      rintro c s A B ⟨h1, pre, x, h2, h3, h4⟩ hk
      exact ⟨h1, pre, x, h2, h3.keep hk hgS hS2 (fun k h4 h5 => ⟨not_false, by omega, by omega⟩), h4⟩)
    ⟨hI0, by simp; omega⟩
    (fun pre x a' W => (GiveI w S g cap l0 a1 a2 pre W ∧ (pre.length : Int) ≤ a2) ∧ S + 6 ≤ W.heap.size ∧ 
      a' = { tmps := #[Value.slice A0 l0.length c0, Value.int IntKind.i64 a1, Value.int IntKind.i64 a2, undef,
          Value.pointer (some { block := w.heap.size, off := 0 }),
          Value.pointer (some { block := w.heap.size + 1, off := 0 }), Value.slice none 0 0, Value.slice none 0 0,
          Value.int IntKind.i64 0, Value.pointer (some { block := S, off := 0 }),
          Value.pointer (some { block := S + 1, off := 0 }), Value.int IntKind.i64 x,
          Value.bool (decide (a2 < 1) || decide (64 < a2)), Value.slice A0 l0.length c0, Value.int IntKind.i64 0,
          Value.bool false, Value.bool false, Value.int IntKind.i64 a1, Value.bool true, Value.bool false,
          Value.bool false, Value.bool false, Value.int IntKind.i64 a2, Value.bool (decide (a2 < 1)),
          Value.bool (decide (a2 < 1)), Value.bool (decide (a2 < 1)), Value.int IntKind.i64 a2,
          Value.bool (decide (64 < a2)), Value.bool (decide (a2 < 1) || decide (64 < a2)), Value.bool false,
          Value.slice A0 l0.length c0, Value.int IntKind.i64 a1, Value.slice Ao 0 co, Value.int IntKind.i64 0,
          Value.bool false, Value.bool (decide (↑(posT freeP l0).length < a2)), Value.slice A0 l0.length c0,
          Value.int IntKind.i64 ↑(posT freeP l0).length, Value.int IntKind.i64 a2,
          Value.bool (decide (↑(posT freeP l0).length < a2)), Value.slice A0 l0.length c0,
          Value.slice (some { block := g, off := 0 }) l0.length cap, Value.slice A0 l0.length c0,
          Value.func (Fn.func 43) #[] #[Value.pointer (some { block := S + 1 + 1, off := 0 }), Value.pointer (some { block := S + 1 + 1 + 1, off := 0 })],
          Value.int IntKind.i64 x, undef, undef, undef, undef, undef, undef, undef, undef, undef, undef, undef, undef, undef, undef, undef], defers := [] })
    (by
      rintro pre x a' A B ⟨⟨h1, h2⟩, h5, h6⟩ hk
      exact ⟨⟨h1.keep hk hgS hS2 (fun k h4 h5 => by omega), h2⟩, Nat.le_trans h5 hk.size, h6⟩)
    ?assign ?body ?done ?stop
  case assign =>
    rintro pre x W hi hpre hsz
    simp only [encPos]
    gi_wp2
    exact ⟨Keeps.refl _ W, hi, by omega, by first | rfl | trivial⟩
  case body =>
    rintro pre x a' W hpre hrec ⟨⟨hI, hpm⟩, hsz, rfl⟩
    obtain ⟨hx0, hx1⟩ := hrng.out x (hpre.subset (by simp))
    have hb2 := hI.G.b2.cell
    obtain ⟨A, c, hv, hrow1⟩ := hI.bg
    have hc1 := hv.cell
    by_cases hfull : (pre.length : Int) = a2
    · have HI := Aside0.mk hI
      clear hI
      gi_wp2
      exact ⟨Keeps.refl _ W, rfl, pre, x, rfl, HI.out, hfull⟩
    · obtain ⟨j, rfl⟩ := Int.eq_ofNat_of_zero_le hx0
      have hj : j < l0.length := by omega
      have hjL : j < (giveL l0 a1 pre).length := by rw [giveL_len]; exact hj
      have hb1 := hI.G.b1.cell
      have hbo := hI.bo.cell
      obtain ⟨k0, k1', k2, kf⟩ := node_cells hI.row j hjL
      have kf2 : W.frozen? ⟨g, j * 3 + 2, none⟩ = false := kf 2
      clear kf
      have hput := Aside0.mk (node_put hI.row j 2 hjL (by decide) (.int .i64 a1) ⟨((giveL l0 a1 pre).getD j z35).f0, ((giveL l0 a1 pre).getD j z35).f1, a1⟩ rfl)
      have hk1 : Keeps (fun k => k ≠ g) W (W.setCell ⟨g, j * 3 + 2, none⟩ (.int .i64 a1)) := (Keeps.refl _ W).setCell _ (fun h => h.2 rfl)
      have hv1 : Boxed (W.setCell ⟨g, j * 3 + 2, none⟩ (.int .i64 a1)) (S + 1) 26 (.slice A pre.length c) := hk1.boxed hv (by omega)
      have hr1 := hk1.row hrow1 (fun k hk => by omega)
      have hcv := hv1.cell
      have hfv := hv1.frozen
      have hpl : pre.length + 1 ≤ 64 := by
        have := (List.IsPrefix.length_le hpre)
        simp at this
        have := hlenF.out
        omega
      have hml : (64 : Nat) ≤ maxLen := by decide
      replace hpre := Aside0.mk hpre
      have HI := Aside0.mk hI
      replace hrow1 := Aside0.mk hrow1
      have HK1 := Aside0.mk hk1
      have hlv : (Builtin.len_ #[26] 3 #[.slice A pre.length c]).run Try.prog W = .ok (.int .i64 (pre.length : Int)) W := by first | rfl | simp [Builtin.len_, go_sem]
      clear hI hk1
      obtain ⟨v, hvv⟩ : ∃ v, Value.slice A pre.length c = v := ⟨_, rfl⟩
      rw [hvv] at hlv hv hrow1 hc1 hv1 hr1 hcv
      clear hvv
      have hnew := cell_one_new (W.setCell ⟨g, j * 3 + 2, none⟩ (.int .i64 a1)) (Value.int .i64 (j : Int)) 3
      rw [show (W.setCell ⟨g, j * 3 + 2, none⟩ (.int .i64 a1)).heap.size = W.heap.size by simp] at hnew
      gi_wp2_with (gi_at_builtin; refine wpListIn_append_own _ rfl _ _ 26 rfl (S + 6) 3 i0 (.int .i64 0) 1 8 Try.underlying26 hi.out hz0.out hz1.out hz2.out rfl (by decide) _ _ _ rfl (hr1.alloc _) ⟨W.heap.size, 0, none⟩ 1 1 [Value.int .i64 (j : Int)] rfl rfl hnew (by simp [Value.oneCell']) (by omega) (by omega) (by simp; omega) ?_; intro v' w1 hown' hgrow _; obtain ⟨g', cap', rfl⟩ := ownsRow_succ hown'; have hv2 : Boxed w1 (S + 1) 26 v := (hv1.alloc _).kept hgrow (not_own hr1 (by omega)); have hcw := hv2.cell; have hfw := hv2.frozen; skip)
      have hk2 : Keeps (fun k => k < S + 6 ∧ k ≠ S + 1 ∧ k ≠ g) W (w1.setCell ⟨S + 1, 0, none⟩ (Value.slice (some ⟨g', 0, none⟩) (pre.length + 1) cap')) :=
        ((((HK1.out.mono (fun k _ h => h.2.2)).alloc _).grown hgrow (fun k e h => by have := (hr1.lt k (show v.ownBlock = some k from e)).1; omega))).setCell _ (fun h => h.2.2.1 rfl)
      have hk3 : Keeps (fun k => k ≠ S + 1) w1 (w1.setCell ⟨S + 1, 0, none⟩ (Value.slice (some ⟨g', 0, none⟩) (pre.length + 1) cap')) := (Keeps.refl _ w1).setCell _ (fun h => h.2 rfl)
      have hr2 := hk3.row hown' (fun k hk => by omega)
      have hv3 := hv2.set (Value.slice (some ⟨g', 0, none⟩) (pre.length + 1) cap')
      have hg1 : w1.heap[g]? = (W.setCell ⟨g, j * 3 + 2, none⟩ (.int .i64 a1)).heap[g]? := (((Keeps.refl (fun k => k < S + 6) (W.setCell ⟨g, j * 3 + 2, none⟩ (.int .i64 a1))).alloc _).grown hgrow (fun k e h => by have := (hr1.lt k (show v.ownBlock = some k from e)).1; omega)).block g (Kd.R_lt hput.out g (by simp [Value.ownBlock])) (by omega)
      refine ⟨hk2.mono (fun k _ h => by omega), ⟨HI.out.G.keep hk2 (fun k hl => by omega), ?_, hk2.boxed HI.out.bo (by omega), ⟨some ⟨g', 0, none⟩, cap', ?_, ?_⟩⟩, ?_⟩
      · rw [giveL_snoc]
        exact node_move hput.out ((hk3.block g (Nat.lt_of_lt_of_le (Kd.R_lt hput.out g (by simp [Value.ownBlock])) (Nat.le_trans (by simp) hgrow.size)) (by omega)).trans hg1)
      · rw [List.length_append, List.length_singleton]
        exact hv3
      · rw [nums_append, List.length_append, List.length_singleton]
        exact hr2
      · rw [List.length_append, List.length_singleton]
        omega
  case done =>
    rintro xs W hsz rfl ⟨hI, hpm⟩ hW
    have hT : (posT freeP l0).take a2.toNat = posT freeP l0 := List.take_of_length_le (by omega)
    replace hT := Aside0.mk hT
    obtain ⟨A, c, hv, hrow1⟩ := hI.bg
    have hc1 := hv.cell
    have hbo := hI.bo.cell
    have HI := Aside0.mk hI
    clear hI
    gi_wp2
    refine wpIn_wide.2 ?_
    go_quiet (fail)
    gi_wp2
    refine ⟨by simp, .inl ⟨_, _, rfl, run_takeDeferred (show (W.drewN _).heap[Wr.heap.size]? = _ from hW), ?_⟩⟩
    refine ⟨.tuple #[.slice (some ⟨g, 0, none⟩) l0.length cap, .slice A (posT freeP l0).length c, .int .i64 0], by simp [results, Try.f8, go_sem], _, _, rfl, ?_⟩
    rw [hT.out]
    have hk : Keeps (fun k => k ≠ Wr.heap.size) W ((W.drewN nq).putObj Wr.heap.size (.deferred none)) := ((Keeps.refl (fun k => k ≠ Wr.heap.size) W).drewN nq).putObj _ (fun h => h.2 rfl)
    have hI2 := HI.out.keep hk hgS hS2 (fun k h4 h5 => by omega)
    obtain ⟨A', c', hv', hrow'⟩ := hI2.bg
    exact ⟨hI2.row, Kd.R_of_own (own_weaken (hk.row hrow1 (fun k hk => by omega)) (by omega)) (fun _ _ => trivial), hI2.G.below⟩
  case stop =>
    rintro c0' s W hsz hpre ⟨rfl, pre, x, rfl, hI, hpm⟩ hW
    have hT : (posT freeP l0).take a2.toNat = pre := by
      obtain ⟨t, ht⟩ := hpre
      rw [← ht, show a2.toNat = pre.length by omega, List.append_assoc, List.take_left]
    replace hT := Aside0.mk hT
    obtain ⟨A, c, hv, hrow1⟩ := hI.bg
    have hc1 := hv.cell
    have hbo := hI.bo.cell
    have HI := Aside0.mk hI
    clear hI
    gi_wp2
    refine wpIn_wide.2 ?_
    go_quiet (fail)
    gi_wp2
    refine ⟨by simp, .inl ⟨_, _, rfl, run_takeDeferred (show (W.drewN _).heap[Wr.heap.size]? = _ from hW), ?_⟩⟩
    refine ⟨.tuple #[.slice (some ⟨g, 0, none⟩) l0.length cap, .slice A pre.length c, .int .i64 0], by simp [results, Try.f8, go_sem], _, _, rfl, ?_⟩
    rw [hT.out]
    have hk : Keeps (fun k => k ≠ Wr.heap.size) W ((W.drewN nq).putObj Wr.heap.size (.deferred none)) := ((Keeps.refl (fun k => k ≠ Wr.heap.size) W).drewN nq).putObj _ (fun h => h.2 rfl)
    have hI2 := HI.out.keep hk hgS hS2 (fun k h4 h5 => by omega)
    obtain ⟨A', c', hv', hrow'⟩ := hI2.bg
    exact ⟨hI2.row, Kd.R_of_own (own_weaken (hk.row hrow1 (fun k hk => by omega)) (by omega)) (fun _ _ => trivial), hI2.G.below⟩

/-! ### nodes_Fail: function 15 -/
def failR (l : List S35) (i : Int) : List S35 × Int × Int :=
  ((turnR (fun x => x.f0) (fun x => ⟨false, x.f1, 0⟩) l i).1, if (turnR (fun x => x.f0) (fun x => ⟨false, x.f1, 0⟩) l i).2 = 0 then (l.getD i.toNat z35).f2 else 0, (turnR (fun x => x.f0) (fun x => ⟨false, x.f1, 0⟩) l i).2)
def nodes_Fail.f (l : List S35) (i : Int) : Option (List S35 × Int × Int) := some (failR l i)
set_option maxHeartbeats 2000000 in
theorem fail_1.calls (w0 : World) (dx : Nat) (hx : Boxed w0 dx 2 (.int .i64 0)) (W : World) (base g n cap : Nat) (xs : List S35) (j : Nat) (hB : Below w0.heap.size w0 W) (hg : w0.heap.size ≤ g) (hj : j < xs.length) (h : NodeRow W base g n cap xs) :
    Calls Try.prog 36 (#[.pointer (some ⟨g, j * 3, none⟩)] ++ #[.pointer (some ⟨dx, 0, none⟩)]) W fun e W' => e = .returned (.bool ((fun x : S35 => x.f0) (xs.getD j z35))) ∧ NodeRow W' base g n cap (xs.set j ((fun x : S35 => (⟨false, x.f1, 0⟩ : S35)) (xs.getD j z35))) ∧ Keeps (fun k => k ≠ g ∧ ¬ k = dx) W W' ∧ (fun (x : S35) (W' : World) => Boxed W' dx 2 (.int .i64 x.f2)) (xs.getD j z35) W' := by
  have hdx : dx < w0.heap.size := hx.lt
  have hxW : Boxed W dx 2 (.int .i64 0) := Boxed.below' hx hB hdx
  have hne : g ≠ dx := by omega
  have hne' : dx ≠ g := by omega
  obtain ⟨k0, k1, k2, kf⟩ := node_cells h j hj
  have kf0 : W.frozen? ⟨g, j * 3, none⟩ = false := kf 0
  have kf2 : W.frozen? ⟨g, j * 3 + 2, none⟩ = false := kf 2
  clear kf
  have hc := hxW.cell
  have hf := hxW.frozen
  obtain ⟨x, hxe⟩ : ∃ x, xs.getD j z35 = x := ⟨_, rfl⟩
  have h1 : NodeRow (((W.setCell ⟨dx, 0, none⟩ (.int .i64 x.f2)).setCell ⟨g, j * 3, none⟩ (.bool false)).setCell ⟨g, j * 3 + 2, none⟩ (.int .i64 0)) base g n cap (xs.set j ⟨false, x.f1, 0⟩) := by
    have e0 := Kd.R_set h hxW (by decide) 0 (.int .i64 x.f2)
    have e1 := node_put e0 j 0 hj (by decide) (.bool false) ⟨false, x.f1, x.f2⟩ (by rw [hxe]; rfl)
    have e2 := node_put e1 j 2 (by rw [List.length_set]; exact hj) (by decide) (.int .i64 0) ⟨false, x.f1, 0⟩ (by rw [List.getD_eq_getElem?_getD, List.getElem?_set_self hj]; rfl)
    rw [List.set_set] at e2
    exact e2
  have h2 : Keeps (fun k => k ≠ g ∧ ¬ k = dx) W (((W.setCell ⟨dx, 0, none⟩ (.int .i64 x.f2)).setCell ⟨g, j * 3, none⟩ (.bool false)).setCell ⟨g, j * 3 + 2, none⟩ (.int .i64 0)) :=
    (((Keeps.refl _ W).setCell _ (fun e => e.2.2 rfl)).setCell _ (fun e => e.2.1 rfl)).setCell _ (fun e => e.2.1 rfl)
  have h3 : Boxed (((W.setCell ⟨dx, 0, none⟩ (.int .i64 x.f2)).setCell ⟨g, j * 3, none⟩ (.bool false)).setCell ⟨g, j * 3 + 2, none⟩ (.int .i64 0)) dx 2 (.int .i64 x.f2) := by
    have e1 := hxW.set (.int .i64 x.f2)
    have e2 : Keeps (fun k => k ≠ g) (W.setCell ⟨dx, 0, none⟩ (.int .i64 x.f2)) (((W.setCell ⟨dx, 0, none⟩ (.int .i64 x.f2)).setCell ⟨g, j * 3, none⟩ (.bool false)).setCell ⟨g, j * 3 + 2, none⟩ (.int .i64 0)) :=
      ((Keeps.refl (fun k => k ≠ g) _).setCell (p := ⟨g, j * 3, none⟩) _ (fun e => e.2 rfl)).setCell (p := ⟨g, j * 3 + 2, none⟩) _ (fun e => e.2 rfl)
    exact e2.boxed e1 hne'
  rw [hxe] at k0 k1 k2 ⊢
  replace h1 := Aside0.mk h1
  replace h2 := Aside0.mk h2
  replace h3 := Aside0.mk h3
  clear h hB hx hxW hxe hj
  go_enter Try.func36, Try.ntmps36
  go_wp2
  go_ret
  exact ⟨rfl, h1.out, h2.out, h3.out⟩
theorem turnR_none {dp : S35 → Bool} {ds : S35 → S35} {l : List S35} {i : Int} (h : ¬ (turnR dp ds l i).2 = 0) : (turnR dp ds l i).1 = [] := by
  unfold turnR at h ⊢
  by_cases h1 : okNodes l = true
  · rw [if_pos h1] at h ⊢
    by_cases h2 : 0 ≤ i ∧ i < (l.length : Int)
    · rw [if_pos h2] at h ⊢
      by_cases h3 : dp (l.getD i.toNat z35) = true
      · rw [if_pos h3] at h; exact absurd rfl h
      · rw [if_neg h3]
    · rw [if_neg h2]
  · rw [if_neg h1]
set_option maxHeartbeats 4000000 in
theorem nodes_Fail.calls (A0 : Option Addr) (c0 : Nat) (l0 : List S35) (a1 : Int) (r1 : List S35) (r2 r3 : Int) (w : World) (hr0 : Kd.C k35 w A0 l0.length l0) (hc0 : l0.length ≤ c0) (h : nodes_Fail.f l0 a1 = some (r1, r2, r3)) :
    Calls Try.prog 15 #[.slice A0 l0.length c0, .int .i64 a1] w fun e w' => ∃ v0_ : Value, e = .returned (.tuple #[v0_, .int .i64 r2, .int .i64 r3]) ∧ Kd.R k35 35 w' w.heap.size (fun _ => True) v0_ r1 ∧ Below w.heap.size w w' := by
  have h := Option.some.inj h
  unfold failR at h
  injection h with h1 h
  injection h with h2 h3
  have hbw : Boxed (w.alloc (.cells #[.int .i64 0] 2)) w.heap.size 2 (.int .i64 0) := Boxed.new w _ _
  have hb0 : Below w.heap.size w (w.alloc (.cells #[.int .i64 0] 2)) := (Below.refl _ _).alloc (Nat.le_refl _) _
  have hturn := Aside0.mk (nodes_turn_own A0 c0 l0 a1 36 #[.pointer (some ⟨w.heap.size, 0, none⟩)] (fun x => x.f0) (fun x => ⟨false, x.f1, 0⟩) (fun k => k = w.heap.size) (fun x W' => Boxed W' w.heap.size 2 (.int .i64 x.f2)) (w.alloc (.cells #[.int .i64 0] 2))
    (Kd.C_below hr0 hb0) hc0 (enters_of Try.func36 (by kernel_rfl) rfl) (fun W base g n cap xs j hB hg hj h => fail_1.calls _ _ hbw W base g n cap xs j hB hg hj h))
  have hnone := Aside0.mk (@turnR_none (fun x => x.f0) (fun x => ⟨false, x.f1, 0⟩) l0 a1)
  generalize turnR (fun x => x.f0) (fun x => ⟨false, x.f1, 0⟩) l0 a1 = rt at h1 h2 h3 hturn hnone
  obtain ⟨rl, re⟩ := rt
  dsimp only at h1 h2 h3
  subst h1
  subst h3
  have hbb : ∀ {w' : World}, Keeps (fun k => k < (w.alloc (.cells #[.int .i64 0] 2)).heap.size ∧ ¬ k = w.heap.size) (w.alloc (.cells #[.int .i64 0] 2)) w' → Below w.heap.size w w' := fun {w'} hk =>
    hb0.trans (hk.below hb0.size (fun k hk => ⟨Nat.lt_of_lt_of_le hk hb0.size, by omega⟩))
  have hbs := hb0.size
  replace hbb := Aside0.mk @hbb
  clear hbw hb0 hr0
  by_cases he : re = 0
  · subst he
    rw [if_pos rfl] at h2
    subst h2
    have hmf : ∀ (fn : Fn) (first cap : Array Value) (w : World), (Instr.makeFunc fn first cap).run Try.prog w = .ok (.func fn first cap) w := fun _ _ _ _ => rfl
    go_enter Try.func15, Try.ntmps15
    go_upto_region 5 with (go_at_call 35; refine hturn.out.mono ?_; rintro e w1 ⟨v0, rfl, hrow, hk, hpost⟩; have hp := hpost rfl; have hc := hp.cell; replace hrow := Aside0.mk hrow; replace hk := Aside0.mk hk; clear hpost)
    go_quiet (fail)
    go_wp2
    go_ret3
    exact ⟨_, rfl, Kd.R_lower (Kd.R_drewN hrow.out _) hbs, hbb.out (hk.out.drewN _)⟩
  · rw [if_neg he] at h2
    subst h2
    have hl := hnone.out he
    subst hl
    have hmf : ∀ (fn : Fn) (first cap : Array Value) (w : World), (Instr.makeFunc fn first cap).run Try.prog w = .ok (.func fn first cap) w := fun _ _ _ _ => rfl
    go_enter Try.func15, Try.ntmps15
    go_wp2_with (go_at_call 35; refine hturn.out.mono ?_; rintro e w1 ⟨v0, rfl, hrow, hk, hpost⟩; replace hk := Aside0.mk hk; clear hpost hrow)
    go_ret3
    exact ⟨_, rfl, Kd.R_nil _ _ _ _ _, hbb.out hk.out⟩

/-! ### nodes_Up: function 25 -/
def nodes_Up.f (l : List S35) (i : Int) : Option (List S35 × Int) := some (turnR (fun x => !x.f0) (fun x => ⟨true, x.f1, x.f2⟩) l i)
set_option maxHeartbeats 2000000 in
theorem up_1.calls (W : World) (base g n cap : Nat) (xs : List S35) (j : Nat) (hj : j < xs.length) (h : NodeRow W base g n cap xs) :
    Calls Try.prog 41 (#[.pointer (some ⟨g, j * 3, none⟩)] ++ #[]) W fun e W' => e = .returned (.bool ((fun x : S35 => !x.f0) (xs.getD j z35))) ∧ NodeRow W' base g n cap (xs.set j ((fun x : S35 => (⟨true, x.f1, x.f2⟩ : S35)) (xs.getD j z35))) ∧ Keeps (fun k => k ≠ g ∧ ¬ False) W W' ∧ (fun (_ : S35) (_ : World) => True) (xs.getD j z35) W' := by
  obtain ⟨k0, k1, k2, kf⟩ := node_cells h j hj
  have kf0 : W.frozen? ⟨g, j * 3, none⟩ = false := kf 0
  clear kf
  obtain ⟨x, hxe⟩ : ∃ x, xs.getD j z35 = x := ⟨_, rfl⟩
  have h1 : NodeRow (W.setCell ⟨g, j * 3, none⟩ (.bool true)) base g n cap (xs.set j ⟨true, x.f1, x.f2⟩) := node_put h j 0 hj (by decide) (.bool true) ⟨true, x.f1, x.f2⟩ (by rw [hxe]; rfl)
  have h2 : Keeps (fun k => k ≠ g ∧ ¬ False) W (W.setCell ⟨g, j * 3, none⟩ (.bool true)) := (Keeps.refl _ W).setCell _ (fun e => e.2.1 rfl)
  rw [hxe] at k0 k1 k2 ⊢
  replace h1 := Aside0.mk h1
  replace h2 := Aside0.mk h2
  clear h hxe hj
  go_enter Try.func41, Try.ntmps41
  go_wp2
  go_ret
  exact ⟨rfl, h1.out, h2.out, trivial⟩
set_option maxHeartbeats 4000000 in
theorem nodes_Up.calls (A0 : Option Addr) (c0 : Nat) (l0 : List S35) (a1 : Int) (r1 : List S35) (r2 : Int) (w : World) (hr0 : Kd.C k35 w A0 l0.length l0) (hc0 : l0.length ≤ c0) (h : nodes_Up.f l0 a1 = some (r1, r2)) :
    Calls Try.prog 25 #[.slice A0 l0.length c0, .int .i64 a1] w fun e w' => ∃ v0_ : Value, e = .returned (.tuple #[v0_, .int .i64 r2]) ∧ Kd.R k35 35 w' w.heap.size (fun _ => True) v0_ r1 ∧ Below w.heap.size w w' := by
  have h := Option.some.inj h
  have hturn := Aside0.mk (nodes_turn_own A0 c0 l0 a1 41 #[] (fun x => !x.f0) (fun x => ⟨true, x.f1, x.f2⟩) (fun _ => False) (fun _ _ => True) w
    hr0 hc0 (enters_of Try.func41 (by kernel_rfl) rfl) (fun W base g n cap xs j hB hg hj h => up_1.calls W base g n cap xs j hj h))
  rw [h] at hturn
  clear h hr0
  go_enter Try.func25, Try.ntmps25
  go_wp2_with (go_at_call 35; refine hturn.out.mono ?_; rintro e w1 ⟨v0, rfl, hrow, hk, hpost⟩; replace hrow := Aside0.mk hrow; replace hk := Aside0.mk hk; clear hpost)
  go_ret2
  exact ⟨_, rfl, hrow.out, hk.out.below (Nat.le_refl _) (fun k hk => ⟨hk, not_false⟩)⟩

/-! ### nodes_Open: function 26 -/
def nodes_Open.f (l : List S35) (i : Int) (o : Bool) : Option (List S35 × Int) := some (turnR (fun x => x.f1 != o) (fun x => ⟨x.f0, o, x.f2⟩) l i)
set_option maxHeartbeats 2000000 in
theorem open_1.calls (o : Bool) (w0 : World) (dx : Nat) (hx : Boxed w0 dx 4 (.bool o)) (W : World) (base g n cap : Nat) (xs : List S35) (j : Nat) (hB : Below w0.heap.size w0 W) (hg : w0.heap.size ≤ g) (hj : j < xs.length) (h : NodeRow W base g n cap xs) :
    Calls Try.prog 42 (#[.pointer (some ⟨g, j * 3, none⟩)] ++ #[.pointer (some ⟨dx, 0, none⟩)]) W fun e W' => e = .returned (.bool ((fun x : S35 => x.f1 != o) (xs.getD j z35))) ∧ NodeRow W' base g n cap (xs.set j ((fun x : S35 => (⟨x.f0, o, x.f2⟩ : S35)) (xs.getD j z35))) ∧ Keeps (fun k => k ≠ g ∧ ¬ False) W W' ∧ (fun (_ : S35) (_ : World) => True) (xs.getD j z35) W' := by
  have hdx : dx < w0.heap.size := hx.lt
  have hxW : Boxed W dx 4 (.bool o) := Boxed.below' hx hB hdx
  have hne : g ≠ dx := by omega
  have hne' : dx ≠ g := by omega
  obtain ⟨k0, k1, k2, kf⟩ := node_cells h j hj
  have kf1 : W.frozen? ⟨g, j * 3 + 1, none⟩ = false := kf 1
  clear kf
  have hc := hxW.cell
  have hf := hxW.frozen
  obtain ⟨x, hxe⟩ : ∃ x, xs.getD j z35 = x := ⟨_, rfl⟩
  have h1 : NodeRow (W.setCell ⟨g, j * 3 + 1, none⟩ (.bool o)) base g n cap (xs.set j ⟨x.f0, o, x.f2⟩) := node_put h j 1 hj (by decide) (.bool o) ⟨x.f0, o, x.f2⟩ (by rw [hxe]; rfl)
  have h2 : Keeps (fun k => k ≠ g ∧ ¬ False) W (W.setCell ⟨g, j * 3 + 1, none⟩ (.bool o)) := (Keeps.refl _ W).setCell _ (fun e => e.2.1 rfl)
  rw [hxe] at k0 k1 k2 ⊢
  replace h1 := Aside0.mk h1
  replace h2 := Aside0.mk h2
  clear h hB hx hxW hxe hj
  go_enter Try.func42, Try.ntmps42
  go_wp2
  go_ret
  exact ⟨rfl, h1.out, h2.out, trivial⟩
set_option maxHeartbeats 4000000 in
theorem nodes_Open.calls (A0 : Option Addr) (c0 : Nat) (l0 : List S35) (a1 : Int) (a2 : Bool) (r1 : List S35) (r2 : Int) (w : World) (hr0 : Kd.C k35 w A0 l0.length l0) (hc0 : l0.length ≤ c0) (h : nodes_Open.f l0 a1 a2 = some (r1, r2)) :
    Calls Try.prog 26 #[.slice A0 l0.length c0, .int .i64 a1, .bool a2] w fun e w' => ∃ v0_ : Value, e = .returned (.tuple #[v0_, .int .i64 r2]) ∧ Kd.R k35 35 w' w.heap.size (fun _ => True) v0_ r1 ∧ Below w.heap.size w w' := by
  have h := Option.some.inj h
  have hbw : Boxed (w.alloc (.cells #[.bool a2] 4)) w.heap.size 4 (.bool a2) := Boxed.new w _ _
  have hb0 : Below w.heap.size w (w.alloc (.cells #[.bool a2] 4)) := (Below.refl _ _).alloc (Nat.le_refl _) _
  have hturn := Aside0.mk (nodes_turn_own A0 c0 l0 a1 42 #[.pointer (some ⟨w.heap.size, 0, none⟩)] (fun x => x.f1 != a2) (fun x => ⟨x.f0, a2, x.f2⟩) (fun _ => False) (fun _ _ => True) (w.alloc (.cells #[.bool a2] 4))
    (Kd.C_below hr0 hb0) hc0 (enters_of Try.func42 (by kernel_rfl) rfl) (fun W base g n cap xs j hB hg hj h => open_1.calls a2 _ _ hbw W base g n cap xs j hB hg hj h))
  rw [h] at hturn
  have hbb : ∀ {w' : World}, Keeps (fun k => k < (w.alloc (.cells #[.bool a2] 4)).heap.size ∧ ¬ False) (w.alloc (.cells #[.bool a2] 4)) w' → Below w.heap.size w w' := fun {w'} hk =>
    hb0.trans (hk.below hb0.size (fun k hk => ⟨Nat.lt_of_lt_of_le hk hb0.size, not_false⟩))
  have hbs := hb0.size
  replace hbb := Aside0.mk @hbb
  clear h hbw hb0 hr0
  have hmf : ∀ (fn : Fn) (first cap : Array Value) (w : World), (Instr.makeFunc fn first cap).run Try.prog w = .ok (.func fn first cap) w := fun _ _ _ _ => rfl
  go_enter Try.func26, Try.ntmps26
  go_wp2_with (go_at_call 35; refine hturn.out.mono ?_; rintro e w1 ⟨v0, rfl, hrow, hk, hpost⟩; replace hrow := Aside0.mk hrow; replace hk := Aside0.mk hk; clear hpost)
  go_ret2
  exact ⟨_, rfl, Kd.R_lower hrow.out hbs, hbb.out hk.out⟩

/-! ### forebayref20_Same: function 14 -/
def forebayref20_Same.l0 : Nat → List (S35) → List (S35) → Int → Option (Bool)
  | 0, _, _, _ => none
  | k + 1, x0, x1, x5 => if x5 < (x0.length : Int) then (if 0 ≤ x5 then (if x5 < (x1.length : Int) then (if (!(((rd_T35 x0 x5).f0) == ((rd_T35 x1 x5).f0)) || (!(((rd_T35 x0 x5).f1) == ((rd_T35 x1 x5).f1)) || (!(((rd_T35 x0 x5).f2) == ((rd_T35 x1 x5).f2))))) = true then (some false) else (forebayref20_Same.l0 k x0 x1 (wrap64 (x5 + 1)))) else (none)) else (none)) else (some true)
def forebayref20_Same.f (k : Nat) (l0 : List (S35)) (l1 : List (S35)) : Option (Bool) := if (l0.length : Int) = (l1.length : Int) then (forebayref20_Same.l0 k l0 l1 0) else (some false)
theorem forebayref20_Same.mono_l : ∀ k, (∀ y0 y1 y2, LeO (forebayref20_Same.l0 k y0 y1 y2) (forebayref20_Same.l0 (k + 1) y0 y1 y2))
  | 0 => fun _ _ _ r h => by simp [forebayref20_Same.l0] at h
  | k + 1 => by
    have ih0 := forebayref20_Same.mono_l k
    · intro y0 y1 y2
      unfold forebayref20_Same.l0
      repeat' first
      | (with_reducible exact ih0 _ _ _)
      | (with_reducible exact LeO.refl _)
      | (with_reducible exact LeO.none _)
      | (with_reducible refine LeO.ite ?_ ?_)
      | (with_reducible refine LeO.bind ?_ (fun _ => ?_))
      | exact ih0 _ _ _
      | exact LeO.none _
      | refine LeO.ite ?_ ?_
      | refine LeO.bind ?_ (fun _ => ?_)
theorem forebayref20_Same.mono : ∀ a0 a1 k, LeO (forebayref20_Same.f k a0 a1) (forebayref20_Same.f (k + 1) a0 a1) := by
  intro a0 a1 k
  have ih0 := forebayref20_Same.mono_l k
  unfold forebayref20_Same.f
  repeat' first
      | (with_reducible exact ih0 _ _ _)
      | (with_reducible exact LeO.refl _)
      | (with_reducible exact LeO.none _)
      | (with_reducible refine LeO.ite ?_ ?_)
      | (with_reducible refine LeO.bind ?_ (fun _ => ?_))
      | exact ih0 _ _ _
      | exact LeO.none _
      | refine LeO.ite ?_ ?_
      | refine LeO.bind ?_ (fun _ => ?_)
set_option maxHeartbeats 8000000 in
set_option maxRecDepth 100000 in
theorem forebayref20_Same.calls (k : Nat) (A0 : Option Addr) (c0 : Nat) (l0 : List (S35)) (A1 : Option Addr) (c1 : Nat) (l1 : List (S35)) (r : Bool) (w : World) (hr0 : Kd.C k35 w A0 l0.length l0) (hc0 : l0.length ≤ c0) (hr1 : Kd.C k35 w A1 l1.length l1) (hc1 : l1.length ≤ c1) (h : forebayref20_Same.f k l0 l1 = some r) :
    Calls Try.prog 14 #[.slice A0 l0.length c0, .slice A1 l1.length c1] w fun e w' => e = .returned (.bool r) ∧ Drawn0 w w' := by
  have hu35 := Try.underlying35
  have HR0 := Aside0.mk hr0
  have HC0 := Aside0.mk hc0
  clear hr0 hc0
  have HR1 := Aside0.mk hr1
  have HC1 := Aside0.mk hc1
  clear hr1 hc1
  have H : (if (l0.length : Int) = (l1.length : Int) then (forebayref20_Same.l0 k l0 l1 0) else (some false)) = some r := h
  clear h
  by_cases c3 : (l0.length : Int) = (l1.length : Int)
  · rw [if_pos c3] at H
    have c3b0 : ((l0.length : Int) == (l1.length : Int)) = true := beq_iff_eq.mpr c3
    have c3b1 : ((l0.length : Int) != (l1.length : Int)) = false := bne_eq_false_iff_eq.mpr c3
    have c3b2 : (l0.length == l1.length) = true := by first | simpa using c3 | (simp at c3 ⊢; omega)
    clear c3
    have H' := Aside0.mk H
    clear H
    go_enter Try.func14, Try.ntmps14
    go_wp2
    repeat (go_quiet (fail); try go_wp2)
    go_loopg [5] k (fun kq v5 w' => ∃ (x5_1 : Int), v5 = .int .i64 x5_1 ∧ Aside0 (forebayref20_Same.l0 kq l0 l1 x5_1 = some r) ∧ Aside0 (kq ≤ k) ∧ Drawn0 w w')
    case atStart => exact ⟨(0), (by first | rfl | (simp; done) | (simp [*]; done) | (simp; exact isEmpty_bne _)), H', ⟨Nat.le_refl _⟩, by repeat (first | exact Drawn0.refl _ | apply Drawn0.step)⟩
    case round =>
      clear H'
      try clear c1
      try clear p2
      try clear c3
      try clear c3b0
      try clear c3b1
      try clear c3b2
      obtain ⟨x5_1, rfl, HA, HK1, ⟨m1, rfl⟩⟩ := hrel
      cases gk with
      | zero => exact absurd HA.out (by simp [forebayref20_Same.l0])
      | succ k1 =>
        have H := HA.out
        clear HA
        simp only [forebayref20_Same.l0] at H
        by_cases c4 : x5_1 < (l0.length : Int)
        · rw [if_pos c4] at H
          have c4b0 : decide (x5_1 < (l0.length : Int)) = true := decide_eq_true c4
          clear c4
          by_cases c5 : 0 ≤ x5_1
          · rw [if_pos c5] at H
            have c5b0 : decide (0 ≤ x5_1) = true := decide_eq_true c5
            clear c5
            by_cases c6 : x5_1 < (l1.length : Int)
            · rw [if_pos c6] at H
              have c6b0 : decide (x5_1 < (l1.length : Int)) = true := decide_eq_true c6
              clear c6
              by_cases c7 : (!(((rd_T35 l0 x5_1).f0) == ((rd_T35 l1 x5_1).f0)) || (!(((rd_T35 l0 x5_1).f1) == ((rd_T35 l1 x5_1).f1)) || (!(((rd_T35 l0 x5_1).f2) == ((rd_T35 l1 x5_1).f2))))) = true
              · rw [if_pos c7] at H
                have c7b0 : (!(((rd_T35 l0 x5_1).f0) == ((rd_T35 l1 x5_1).f0)) || (!(((rd_T35 l0 x5_1).f1) == ((rd_T35 l1 x5_1).f1)) || (!(((rd_T35 l0 x5_1).f2) == ((rd_T35 l1 x5_1).f2))))) = true := c7
                clear c7
                obtain rfl := Option.some.inj H
                have p104 : 0 ≤ (x5_1 : Int) := of_decide_eq_true (by first | (with_reducible assumption) | assumption)
                have q104 : x5_1 < (l0.length : Int) := of_decide_eq_true (by first | (with_reducible assumption) | assumption)
                obtain ⟨ad104, e104, hx104_0, hx104_1, hx104_2⟩ := at_T35 HR0.out x5_1 p104 q104
                cases e104
                replace p104 := eq_true p104
                replace q104 := eq_true q104
                have p105 : 0 ≤ (x5_1 : Int) := of_decide_eq_true (by first | (with_reducible assumption) | assumption)
                have q105 : x5_1 < (l1.length : Int) := of_decide_eq_true (by first | (with_reducible assumption) | assumption)
                obtain ⟨ad105, e105, hx105_0, hx105_1, hx105_2⟩ := at_T35 HR1.out x5_1 p105 q105
                cases e105
                replace p105 := eq_true p105
                replace q105 := eq_true q105
                go_wp2
                repeat (go_quiet (fail); try go_wp2)
                go_ret
                exact ⟨by first | rfl | (simp; done) | (simp [*]; done), by repeat (first | exact Drawn0.refl _ | apply Drawn0.step)⟩
              · rw [if_neg c7] at H
                have c7b0 : (!(((rd_T35 l0 x5_1).f0) == ((rd_T35 l1 x5_1).f0)) || (!(((rd_T35 l0 x5_1).f1) == ((rd_T35 l1 x5_1).f1)) || (!(((rd_T35 l0 x5_1).f2) == ((rd_T35 l1 x5_1).f2))))) = false := by simpa using c7
                clear c7
                have H' := Aside0.mk H
                clear H
                have p104 : 0 ≤ (x5_1 : Int) := of_decide_eq_true (by first | (with_reducible assumption) | assumption)
                have q104 : x5_1 < (l0.length : Int) := of_decide_eq_true (by first | (with_reducible assumption) | assumption)
                obtain ⟨ad104, e104, hx104_0, hx104_1, hx104_2⟩ := at_T35 HR0.out x5_1 p104 q104
                cases e104
                replace p104 := eq_true p104
                replace q104 := eq_true q104
                have p105 : 0 ≤ (x5_1 : Int) := of_decide_eq_true (by first | (with_reducible assumption) | assumption)
                have q105 : x5_1 < (l1.length : Int) := of_decide_eq_true (by first | (with_reducible assumption) | assumption)
                obtain ⟨ad105, e105, hx105_0, hx105_1, hx105_2⟩ := at_T35 HR1.out x5_1 p105 q105
                cases e105
                replace p105 := eq_true p105
                replace q105 := eq_true q105
                go_wp2
                repeat (go_quiet (fail); try go_wp2)
                go_roundg k1
                case measure => have := HK1.out; omega
                case rel => exact ⟨(wrap64 (x5_1 + 1)), (by first | rfl | (simp; done) | (simp [*]; done) | (simp; exact isEmpty_bne _)), H', ⟨by have := HK1.out; omega⟩, by repeat (first | exact Drawn0.refl _ | apply Drawn0.step)⟩
            · rw [if_neg c6] at H
              exact absurd H (by simp)
          · rw [if_neg c5] at H
            exact absurd H (by simp)
        · rw [if_neg c4] at H
          have c4b0 : decide (x5_1 < (l0.length : Int)) = false := decide_eq_false c4
          clear c4
          obtain rfl := Option.some.inj H
          go_wp2
          repeat (go_quiet (fail); try go_wp2)
          go_ret
          exact ⟨by first | rfl | (simp; done) | (simp [*]; done), by repeat (first | exact Drawn0.refl _ | apply Drawn0.step)⟩
  · rw [if_neg c3] at H
    have c3b0 : ((l0.length : Int) == (l1.length : Int)) = false := beq_eq_false_iff_ne.mpr c3
    have c3b1 : ((l0.length : Int) != (l1.length : Int)) = true := bne_iff_ne.mpr c3
    have c3b2 : (l0.length == l1.length) = false := by first | simpa using c3 | (simp at c3 ⊢; omega)
    obtain rfl := Option.some.inj H
    go_enter Try.func14, Try.ntmps14
    go_wp2
    repeat (go_quiet (fail); try go_wp2)
    go_ret
    exact ⟨by first | rfl | (simp; done) | (simp [*]; done), by repeat (first | exact Drawn0.refl _ | apply Drawn0.step)⟩

/-! ### bits_Mul32: function 46 -/
def bits_Mul32.f (a0 : Int) (a1 : Int) : Option (Int × Int) := some (((IntKind.u64.wrap ((IntKind.u64.wrap (a0)) * (IntKind.u64.wrap (a1)))) / 4294967296) % 4294967296, (IntKind.u64.wrap ((IntKind.u64.wrap (a0)) * (IntKind.u64.wrap (a1)))) % 4294967296)
set_option maxHeartbeats 8000000 in
set_option maxRecDepth 100000 in
theorem bits_Mul32.calls (a0 : Int) (a1 : Int) (r1 : Int) (r2 : Int) (w : World) (h : bits_Mul32.f a0 a1 = some (r1, r2)) :
    Calls Try.prog 46 #[.int .u32 a0, .int .u32 a1] w fun e w' => e = .returned (.tuple #[.int .u32 r1, .int .u32 r2]) ∧ Drawn0 w w' := by
  have H : (some (((IntKind.u64.wrap ((IntKind.u64.wrap (a0)) * (IntKind.u64.wrap (a1)))) / 4294967296) % 4294967296, (IntKind.u64.wrap ((IntKind.u64.wrap (a0)) * (IntKind.u64.wrap (a1)))) % 4294967296)) = some (r1, r2) := h
  clear h
  simp only [Option.some.injEq, Prod.mk.injEq] at H
  obtain ⟨rfl, rfl⟩ := H
  go_enter Try.func46, Try.ntmps46
  go_wp2
  go_ret2
  exact ⟨by first | rfl | (simp; done) | (simp [*]; done), by repeat (first | exact Drawn0.refl _ | apply Drawn0.step)⟩

/-! ### bits_Mul64: function 47 -/
def bits_Mul64.f (a0 : Int) (a1 : Int) : Option (Int × Int) := some (IntKind.u64.wrap ((IntKind.u64.wrap ((IntKind.u64.wrap ((a0 / 4294967296) * (a1 / 4294967296))) + ((IntKind.u64.wrap ((IntKind.u64.wrap ((a0 / 4294967296) * (Go.bits .and .u64 a1 4294967295))) + ((IntKind.u64.wrap ((Go.bits .and .u64 a0 4294967295) * (Go.bits .and .u64 a1 4294967295))) / 4294967296))) / 4294967296))) + ((IntKind.u64.wrap ((Go.bits .and .u64 (IntKind.u64.wrap ((IntKind.u64.wrap ((a0 / 4294967296) * (Go.bits .and .u64 a1 4294967295))) + ((IntKind.u64.wrap ((Go.bits .and .u64 a0 4294967295) * (Go.bits .and .u64 a1 4294967295))) / 4294967296))) 4294967295) + (IntKind.u64.wrap ((Go.bits .and .u64 a0 4294967295) * (a1 / 4294967296))))) / 4294967296)), IntKind.u64.wrap (a0 * a1))
set_option maxHeartbeats 8000000 in
set_option maxRecDepth 100000 in
theorem bits_Mul64.calls (a0 : Int) (a1 : Int) (r1 : Int) (r2 : Int) (w : World) (h : bits_Mul64.f a0 a1 = some (r1, r2)) :
    Calls Try.prog 47 #[.int .u64 a0, .int .u64 a1] w fun e w' => e = .returned (.tuple #[.int .u64 r1, .int .u64 r2]) ∧ Drawn0 w w' := by
  have H : (some (IntKind.u64.wrap ((IntKind.u64.wrap ((IntKind.u64.wrap ((a0 / 4294967296) * (a1 / 4294967296))) + ((IntKind.u64.wrap ((IntKind.u64.wrap ((a0 / 4294967296) * (Go.bits .and .u64 a1 4294967295))) + ((IntKind.u64.wrap ((Go.bits .and .u64 a0 4294967295) * (Go.bits .and .u64 a1 4294967295))) / 4294967296))) / 4294967296))) + ((IntKind.u64.wrap ((Go.bits .and .u64 (IntKind.u64.wrap ((IntKind.u64.wrap ((a0 / 4294967296) * (Go.bits .and .u64 a1 4294967295))) + ((IntKind.u64.wrap ((Go.bits .and .u64 a0 4294967295) * (Go.bits .and .u64 a1 4294967295))) / 4294967296))) 4294967295) + (IntKind.u64.wrap ((Go.bits .and .u64 a0 4294967295) * (a1 / 4294967296))))) / 4294967296)), IntKind.u64.wrap (a0 * a1))) = some (r1, r2) := h
  clear h
  simp only [Option.some.injEq, Prod.mk.injEq] at H
  obtain ⟨rfl, rfl⟩ := H
  go_enter Try.func47, Try.ntmps47
  go_wp2
  go_ret2
  exact ⟨by first | rfl | (simp; done) | (simp [*]; done), by repeat (first | exact Drawn0.refl _ | apply Drawn0.step)⟩

/-! ### bits_Mul: function 45 -/
def bits_Mul.f (a0 : Int) (a1 : Int) : Option (Int × Int) := (bits_Mul64.f a0 a1).bind fun bt106 => (some (bt106.1, bt106.2))
set_option maxHeartbeats 8000000 in
set_option maxRecDepth 100000 in
theorem bits_Mul.calls (a0 : Int) (a1 : Int) (r1 : Int) (r2 : Int) (w : World) (h : bits_Mul.f a0 a1 = some (r1, r2)) :
    Calls Try.prog 45 #[.int .u64 a0, .int .u64 a1] w fun e w' => e = .returned (.tuple #[.int .u64 r1, .int .u64 r2]) ∧ Drawn0 w w' := by
  have H : ((bits_Mul64.f a0 a1).bind fun bt106 => (some (bt106.1, bt106.2))) = some (r1, r2) := h
  clear h
  replace H := Option.bind_eq_some_iff.mp H
  obtain ⟨⟨t106, t107⟩, A30, H⟩ := H
  replace H : (some (t106, t107)) = some (r1, r2) := H
  have A3 := Aside0.mk A30
  clear A30
  simp only [Option.some.injEq, Prod.mk.injEq] at H
  obtain ⟨rfl, rfl⟩ := H
  go_enter Try.func45, Try.ntmps45
  go_wp2_with (first | ((with_reducible refine gate_callee (f := 47) rfl ?_); refine goesL_ (some 25) rfl rfl Try.func47 (by kernel_rfl) rfl #[.int .u64 a0, .int .u64 a1] rfl (by (try simp only [List.map_toArray, List.map_cons, List.map_nil]); first | done | rfl | (simp only [List.length_drop, List.length_take]; rfl)) ?_; (with_reducible refine (bits_Mul64.calls a0 a1 t106 t107 _ A3.out).mono ?_); rintro e w' ⟨rfl, ⟨nd, rfl⟩⟩; refine ⟨_, rfl, ?_⟩))
  go_ret2
  exact ⟨by first | rfl | (simp; done) | (simp [*]; done), by repeat (first | exact Drawn0.refl _ | apply Drawn0.step)⟩

/-! ### api_Node_37: function 37 -/
theorem run_copy_node {P : Program} (w : World) (dT sT ty elem : TypeId) (g o dLen dCap : Nat) (a : Addr) (sLen sCap : Nat) (cur : Array Value) (t : TypeId) (cs : List Value)
    (hu : P.underlying dT = some (.slice elem)) (hs : (P.info? elem).map (·.size) = some 3)
    (hg : w.heap[g]? = some (.cells cur t (0, 0))) (hn : cs.length = Nat.min sLen dLen * 3)
    (hsrc : ∀ j v, cs[j]? = some v → w.cell? (a.add j) = some v) (hfit : o + cs.length ≤ cur.size) (h1 : ∀ v ∈ cs, v.oneCell' = true) :
    (Builtin.copy_ #[dT, sT] ty #[.slice (some ⟨g, o, none⟩) dLen dCap, .slice (some a) sLen sCap]).run P w =
      .ok (goInt (Nat.min sLen dLen)) (w.setRow g (cur.toList.take o ++ cs ++ cur.toList.drop (o + cs.length)).toArray) := by
  have hl := run_loadCells_list (P := P) w a cs hsrc
  have hst := run_storeCells_at P g o t cs 0 cur w hg (by simpa using hfit) h1
  cases hq : P.info? elem with
  | none => simp [hq] at hs
  | some i =>
    have hi : i.size = 3 := by simpa [hq] using hs
    simp [Builtin.copy_, run_underlying hu, Builtin.lenOf, Builtin.firstCells, sizeOf, typeInfo, hq, hi, ← hn, hl, hst]
theorem wpList_copy_node {P : Program} {w : World} {ops : Array Oper} {rest : List Oper} {o : Oper} {a : Act} {Q : Exit → Act → World → Prop} (hgd : o.guard = none) (d s : Operand) (dT sT : TypeId)
    (ho : o.op = .call { callee := .builtin .copy, args := #[d, s], argTypes := #[dT, sT] }) (elem : TypeId) (hu : P.underlying dT = some (.slice elem)) (hsz : (P.info? elem).map (·.size) = some 3)
    (g off : Nat) (dLen dCap : Nat) (ad : Addr) (sLen sCap : Nat) (hd : a.eval d = .slice (some ⟨g, off, none⟩) dLen dCap) (hs : a.eval s = .slice (some ad) sLen sCap)
    (cur : List Value) (t : TypeId) (hg : w.heap[g]? = some (.cells cur.toArray t (0, 0))) (N : Nat) (hN : N = Nat.min sLen dLen) (cs : List Value) (hn : cs.length = N * 3)
    (hsrc : ∀ j v, cs[j]? = some v → w.cell? (ad.add j) = some v)
    (hfit : off + cs.length ≤ cur.length) (h1 : ∀ v ∈ cs, v.oneCell' = true) (B : Nat) (w0 : World) (hb : Below B w0 w) (hBg : B ≤ g)
    (h : ∀ w', Hid (w'.heap[g]? = some (.cells (splice cur off cs).toArray t (0, 0))) → Below B w0 w' → wpList P ops Q rest (a.put o.dst (.int .i64 (N : Int))) w') :
    wpList P ops Q (o :: rest) a w := by
  refine wpList_plain hgd fun K hK => ?_
  have hrun := run_copy_node (P := P) w dT sT o.type elem g off dLen dCap ad sLen sCap cur.toArray t cs hu hsz hg (by rw [hn, hN]) hsrc (by simpa using hfit) h1
  rw [← hN] at hrun
  unfold Oper.wp execOp
  simp only [ho, resolve, invoke, builtin, Sem.run_bind, Sem.run_pure, Result.andThen_ok, List.map_toArray, List.map_cons, List.map_nil, hd, hs, hrun]
  exact hK _ _ (h _ (show _ = _ by simpa [splice] using setRow_heap w g _ _ t _ hg) (below_setRow hb hBg _))
theorem step_copy_node {P : Program} {ops : Array Oper} {o : Oper} {a : Act} {w : World} {K : Act → World → Prop} {Q : Exit → Act → World → Prop} {E : Prop} (hgd : o.guard = none) (d s : Operand) (dT sT : TypeId)
    (ho : o.op = .call { callee := .builtin .copy, args := #[d, s], argTypes := #[dT, sT] }) (elem : TypeId) (hu : P.underlying dT = some (.slice elem)) (hsz : (P.info? elem).map (·.size) = some 3)
    (g off : Nat) (dLen dCap : Nat) (ad : Addr) (sLen sCap : Nat) (hd : a.eval d = .slice (some ⟨g, off, none⟩) dLen dCap) (hs : a.eval s = .slice (some ad) sLen sCap)
    (cur : List Value) (t : TypeId) (hg : w.heap[g]? = some (.cells cur.toArray t (0, 0))) (N : Nat) (hN : N = Nat.min sLen dLen) (cs : List Value) (hn : cs.length = N * 3)
    (hsrc : ∀ j v, cs[j]? = some v → w.cell? (ad.add j) = some v)
    (hfit : off + cs.length ≤ cur.length) (h1 : ∀ v ∈ cs, v.oneCell' = true) (B : Nat) (w0 : World) (hb : Below B w0 w) (hBg : B ≤ g)
    (h : ∀ w', Hid (w'.heap[g]? = some (.cells (splice cur off cs).toArray t (0, 0))) → Below B w0 w' → K (a.put o.dst (.int .i64 (N : Int))) w') :
    if Region.wanted o (yielded ops a.tmps) = true then Oper.wp P o a w K Q else E := by
  rw [if_pos (by simp [Region.wanted, hgd])]
  have hrun := run_copy_node (P := P) w dT sT o.type elem g off dLen dCap ad sLen sCap cur.toArray t cs hu hsz hg (by rw [hn, hN]) hsrc (by simpa using hfit) h1
  rw [← hN] at hrun
  unfold Oper.wp execOp
  simp only [ho, resolve, invoke, builtin, Sem.run_bind, Sem.run_pure, Result.andThen_ok, List.map_toArray, List.map_cons, List.map_nil, hd, hs, hrun]
  exact (h _ (show _ = _ by simpa [splice] using setRow_heap w g _ _ t _ hg) (below_setRow hb hBg _))
theorem nodeC_one (x : S35) : ∀ v ∈ nodeC x, v.oneCell' = true := by
  intro v hv
  simp only [nodeC, List.mem_cons, List.not_mem_nil, or_false] at hv
  rcases hv with rfl | rfl | rfl <;> rfl
theorem mul_one_n (n : Nat) (h : n < 65) : bits_Mul.f 1 (n : Int) = some (0, (n : Int)) := (show ∀ n : Nat, n < 65 → bits_Mul.f 1 (n : Int) = some (0, (n : Int)) by decide) n h
/-- The first cells of a block are a node, again and again. -/
def NodeRep (x : S35) (n m : Nat) (L : List Value) : Prop := L.length = n * 3 ∧ ∀ i, i < m * 3 → L[i]? = (nodeC x)[i % 3]?
theorem NodeRep.first {x : S35} {n : Nat} {L : List Value} (h : L.length = n * 3) (hn : 1 ≤ n) : NodeRep x n 1 (splice L 0 (nodeC x)) := by
  refine ⟨by rw [length_splice _ _ _ (by rw [h]; show 0 + 3 ≤ _; omega), h], fun i hi => ?_⟩
  unfold splice
  rw [List.take_zero, List.nil_append, List.getElem?_append_left (by show i < 3; omega), Nat.mod_eq_of_lt (by omega)]
theorem NodeRep.more {x : S35} {n m c : Nat} {L : List Value} (h : NodeRep x n m L) (hc : c ≤ m) (hn : m + c ≤ n) : NodeRep x n (m + c) (splice L (m * 3) (L.take (c * 3))) := by
  have hl : (L.take (c * 3)).length = c * 3 := by rw [List.length_take, h.1]; omega
  refine ⟨by rw [length_splice _ _ _ (by rw [hl, h.1]; omega), h.1], fun i hi => ?_⟩
  unfold splice
  have ht : (L.take (m * 3)).length = m * 3 := by rw [List.length_take, h.1]; omega
  by_cases hm : i < m * 3
  · rw [List.getElem?_append_left (by rw [ht]; exact hm), List.getElem?_take, if_pos hm]
    exact h.2 i hm
  · rw [List.getElem?_append_right (by rw [ht]; omega), ht, List.getElem?_append_left (by rw [hl]; omega), List.getElem?_take, if_pos (by omega), h.2 _ (by omega)]
    congr 1
    omega
theorem NodeRep.one {x : S35} {n m : Nat} {L : List Value} (h : NodeRep x n m L) (i : Nat) (hi : i < m * 3) {v : Value} (hv : L[i]? = some v) : v.oneCell' = true := by
  rw [h.2 i hi] at hv
  have : i % 3 < 3 := Nat.mod_lt _ (by omega)
  generalize i % 3 = k at hv this
  match k, this with
  | 0, _ => cases hv; rfl
  | 1, _ => cases hv; rfl
  | 2, _ => cases hv; rfl
theorem NodeRep.row {x : S35} {n : Nat} {L : List Value} (h : NodeRep x n n L) {W : World} {base g : Nat} (hg : W.heap[g]? = some (.cells L.toArray 35 (0, 0))) (hb : base ≤ g) (hn : n ≤ 64) :
    Kd.R k35 35 W base (fun _ => True) (.slice (some ⟨g, 0, none⟩) n n) (List.replicate n x) := by
  have hr : W.ownsRow base 35 3 (.slice (some ⟨g, 0, none⟩) n n) n L := ⟨h.1, .inr ⟨g, n, _, rfl, hb, hg, Nat.le_refl _, Nat.le_trans hn (by decide), by simp [h.1], by simp; exact List.take_of_length_le (by rw [h.1]; exact Nat.le_refl _)⟩⟩
  refine ⟨fun _ _ => trivial, L, by rw [List.length_replicate]; exact hr, by rw [List.length_replicate]; exact h.1, fun q p hq => ?_⟩
  obtain ⟨hq1, rfl⟩ := List.getElem?_eq_some_iff.1 hq
  rw [List.length_replicate] at hq1
  rw [List.getElem_replicate]
  have e : (L.drop (q * 3)).take 3 = nodeC x := by
    apply List.ext_getElem?
    intro k
    rw [List.getElem?_take, List.getElem?_drop]
    by_cases hk : k < 3
    · rw [if_pos hk, h.2 _ (by omega)]
      congr 1
      omega
    · rw [if_neg hk, List.getElem?_eq_none (by show 3 ≤ k; omega)]
  show k35.M _ _ _ x ((L.drop (q * 3)).take 3)
  rw [e]
  exact k35_mkM _ _ _ _
set_option maxHeartbeats 4000000 in
theorem nodes_Repeat_own (x : S35) (n : Nat) (ad : Addr) (c : Nat) (w : World) (hn1 : 1 ≤ n) (hn2 : n ≤ 64) (hx : ∀ j v, (nodeC x)[j]? = some v → w.cell? (ad.add j) = some v) :
    Calls Try.prog 37 #[.slice (some ad) 1 c, .int .i64 (n : Int)] w fun e w' => ∃ v, e = .returned v ∧ Kd.R k35 35 w' w.heap.size (fun _ => True) v (List.replicate n x) ∧ Below w.heap.size w w' := by
  have hM := Aside0.mk (mul_one_n n (by omega))
  have g0 : ¬ (n : Int) < 0 := by omega
  have g1 : ¬ (9223372036854775807 : Int) < (n : Int) := by omega
  obtain ⟨i0, hi, hz0, hz1, hz2⟩ := info_parts (P := Try.prog) (e := 35) (z := .agg #[.bool false, .bool false, .int .i64 0]) (size := 3) (bytes := 16) (by kernel_rfl)
  have hmk : ∃ Z : List Value, Z.length = n * 3 ∧ ∀ W : World, (Instr.makeSlice 22 (.int .i64 (n : Int)) (.int .i64 (n : Int))).run Try.prog W = .ok (.slice (some ⟨W.heap.size, 0, none⟩) n n) (W.alloc (.cells Z.toArray 35)) := by
    refine ⟨(madeCells (Value.agg #[.bool false, .bool false, .int .i64 0]).cells (n * 3)).toList, by rw [Array.length_toList]; exact size_madeCells _ _, fun W => ?_⟩
    have := run_makeSlice (P := Try.prog) (w := W) 22 35 i0 _ Try.underlying22 hi hz0 .i64 .i64 (n : Int) (n : Int) (by omega) (Int.le_refl _) (by rw [hz1]; omega) (by rw [hz2]; omega) (by omega)
    rw [hz1] at this
    simpa using this
  obtain ⟨Z, hZl, hmk⟩ := hmk
  have hsrc := Aside0.mk (show ∀ W, Below w.heap.size w W → ∀ j v, (nodeC x)[j]? = some v → W.cell? (ad.add j) = some v from fun W hb j v hj => (hb.cell (World.block_lt_of_cell? _ _ (hx j v hj))).trans (hx j v hj))
  clear hx hi hz0 hz1 hz2
  go_enter Try.func37, Try.ntmps37
  go_wp2_with (first
    | (go_at_call 45; refine (bits_Mul.calls _ _ _ _ _ hM.out).mono ?_; rintro e w1 ⟨rfl, hd⟩; have hb1 := Aside0.mk (show Below w.heap.size w w1 by obtain ⟨m, rfl⟩ := hd; exact ⟨rfl, rfl, rfl, Nat.le_refl _, fun _ _ => rfl⟩); obtain ⟨G, hG⟩ : ∃ G, w1.heap.size = G := ⟨_, rfl⟩; have hnew := Aside0.mk (hG ▸ World.alloc_heap_new w1 (.cells Z.toArray 35)); clear hd)
    | ((with_reducible refine gate_builtin (b := .copy) (xs := #[.tmp 31, .tmp 32]) rfl ?_); go_loud (refine wpList_copy_node rfl (.tmp 31) (.tmp 32) 22 22 rfl 35 Try.underlying22 (by kernel_rfl) G 0 n n ad 1 c rfl rfl Z 35 hnew.out 1 (Nat.min_eq_left hn1).symm (nodeC x) rfl (hsrc.out _ (hb1.out.alloc hb1.out.size _)) (by rw [hZl]; show 0 + 3 ≤ _; omega) (nodeC_one x) w.heap.size w (hb1.out.alloc hb1.out.size _) (by rw [← hG]; exact hb1.out.size) ?_); intro w2 hg2 hb2; replace hb2 := Aside0.mk hb2; have hR0 := Aside0.mk (NodeRep.first (x := x) hZl hn1); replace hg2 := Aside0.mk (show w2.heap[G]? = _ from hg2); have hGw := Aside0.mk (show w.heap.size ≤ G by rw [← hG]; exact hb1.out.size)))
  go_loopg [8] (n - 1) (fun kq v8 W => ∃ (m : Nat) (L : List Value), v8 = .int .i64 m ∧ Aside0 (kq + m = n) ∧ Aside0 (1 ≤ m) ∧ Aside0 (NodeRep x n m L) ∧ Aside0 (W.heap[G]? = some (.cells L.toArray 35 (0, 0))) ∧ Aside0 (Below w.heap.size w W))
  case atStart => exact ⟨1, _, rfl, ⟨Nat.sub_add_cancel hn1⟩, ⟨Nat.le_refl _⟩, hR0, hg2, hb2⟩
  case round =>
    obtain ⟨m, L, rfl, HK, H1, HR, HG, HB⟩ := hrel
    cases gk with
    | zero =>
      have e : m = n := by have := HK.out; omega
      subst e
      go_wp2
      go_ret
      exact ⟨_, rfl, HR.out.row HG.out hGw.out hn2, HB.out⟩
    | succ k1 =>
      have hlt : m < n := by have := HK.out; omega
      have hlt' : (m : Int) < (n : Int) := by omega
      have hm1 : 1 ≤ m := H1.out
      have hmn : m ≤ n := by omega
      have hnm : (n = m) = False := eq_false (by omega)
      have hm0 : (m = 0) = False := eq_false (by omega)
      obtain ⟨q, hq⟩ : ∃ q, Nat.min m (n - m) = q := ⟨_, rfl⟩
      have hqm : q ≤ m := by rw [← hq]; exact Nat.min_le_left _ _
      have hqn : m + q ≤ n := by have := Nat.min_le_right m (n - m); rw [show min m (n - m) = q from hq] at this; omega
      have hq1 : 1 ≤ q := by rw [← hq]; exact Nat.le_min.2 ⟨hm1, by omega⟩
      have HL := Aside0.mk (HR.out.more hqm hqn)
      replace hq := Aside0.mk hq
      have hsum := Aside0.mk (show IntKind.i64.wrap ((m : Int) + (q : Int)) = ((m + q : Nat) : Int) by rw [IntWalk.i64_in _ (by omega)]; omega)
      have hG1 : wr.heap[G]? = some (.cells L.toArray 35 (0, 0)) := HG.out
      have hLq := Aside0.mk (show (L.take (q * 3)).length = q * 3 by rw [List.length_take, HR.out.1]; omega)
      have hsr := Aside0.mk (show ∀ j v, (L.take (q * 3))[j]? = some v → wr.drew.cell? ((⟨G, 0, none⟩ : Addr).add j) = some v from fun j v hj => by
        rw [List.getElem?_take] at hj
        split at hj
        · show wr.cell? _ = _
          by_cases h0 : j = 0
          · subst h0; simp [Addr.add, World.cell?, hG1, hj]
          · simp [Addr.add, World.cell?, hG1, hj, h0]
        · cases hj)
      have h1q := Aside0.mk (show ∀ v ∈ L.take (q * 3), v.oneCell' = true from fun v hv => by
        obtain ⟨j, hj⟩ := List.getElem?_of_mem hv
        rw [List.getElem?_take] at hj
        split at hj
        · exact HR.out.one j (by omega) hj
        · cases hj)
      go_wp2
      go_region_law (refine step_copy_node ?h1 (.tmp 41) (.tmp 44) 22 22 ?h2 35 ?h3 ?h4 G (m * 3) (n - m) (n - m) ⟨G, 0, none⟩ m n ?h5 ?h6 L 35 ?h7 q ?h8 (L.take (q * 3)) ?h9 ?h10 ?h11 ?h12 w.heap.size w ?h13 ?h14 ?_; (case h1 => rfl); (case h2 => rfl); (case h3 => exact Try.underlying22); (case h4 => kernel_rfl); (case h5 => go_simp; done); (case h6 => go_simp; done); (case h7 => exact hG1); (case h8 => exact hq.out.symm); (case h9 => exact hLq.out); (case h10 => exact hsr.out); (case h11 => rw [hLq.out, HR.out.1]; omega); (case h12 => exact h1q.out); (case h13 => exact HB.out.drew); (case h14 => exact hGw.out); intro w4 hg4 hb4; replace hg4 := Aside0.mk (show w4.heap[G]? = _ from hg4); replace hb4 := Aside0.mk hb4)
      rw [hsum.out]
      go_wp2
      go_roundg (k1 + 1 - q)
      case measure => omega
      case rel => exact ⟨m + q, _, by first | rfl | go_num, ⟨by have := HK.out; omega⟩, ⟨by omega⟩, HL, hg4, hb4⟩

end Go.Proofs.Ytifebcdkckjphaa.P
