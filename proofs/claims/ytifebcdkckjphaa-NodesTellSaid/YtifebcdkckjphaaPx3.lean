-- Written by this session's program gprint.py: functions of the program as plain functions, and that the machine does what they say. Not trusted: Lean checks it.
import Derived.Test.YtifebcdkckjphaaPx0
import Derived.Test.YtifebcdkckjphaaPx2
namespace Go.Proofs.Ytifebcdkckjphaa.P
open Go.RowKit Go.Proofs.YtifebcdkckjphaaW.PrintWords Go.Proofs.YtifebcdkckjphaaW.PrintLast Go.Proofs.YtifebcdkckjphaaW.PrintMore
attribute [local go_sem] max2_int min2_int max_two min_two max_three min_three max_four min_four   -- for this text's walks alone
set_option linter.unusedVariables false
set_option linter.unusedSimpArgs false

/-! ### nodes_Clear: function 13 -/
theorem job_eq (n : Int) : nodes_job.f n = some (decide (1 ≤ n ∧ n ≤ 1073741824)) := by
  unfold nodes_job.f
  by_cases h1 : 1 ≤ n <;> by_cases h2 : n ≤ 1073741824 <;> simp [h1, h2]
/-- A row with the nodes of some places without a job. -/
def clearL (l : List S35) (ps : List Int) : List S35 := ps.foldl (fun l i => l.set i.toNat ⟨(l.getD i.toNat z35).f0, (l.getD i.toNat z35).f1, 0⟩) l
theorem clearL_len (ps : List Int) : ∀ l : List S35, (clearL l ps).length = l.length := by
  induction ps with
  | nil => intro l; rfl
  | cons p ps ih => intro l; exact (ih _).trans (by simp)
theorem clearL_snoc (l : List S35) (ps : List Int) (p : Int) : clearL l (ps ++ [p]) = (clearL l ps).set p.toNat ⟨((clearL l ps).getD p.toNat z35).f0, ((clearL l ps).getD p.toNat z35).f1, 0⟩ := by simp [clearL, List.foldl_append]
theorem posT_rng {p : S35 → Bool} {l : List S35} {x : Int} (h : x ∈ posT p l) : 0 ≤ x ∧ x < (l.length : Int) := by
  unfold posT at h
  by_cases hk : okNodes l = true
  · rw [if_pos hk] at h
    unfold posU at h
    obtain ⟨j, hj, rfl⟩ := List.mem_map.1 h
    have := List.mem_range.1 (List.mem_filter.1 hj).1
    exact ⟨Int.natCast_nonneg _, by show (j : Int) < _; omega⟩
  · rw [if_neg hk] at h; simp at h
def clearR (l : List S35) (n : Int) : List S35 × Int :=
  if okNodes l = true ∧ 1 ≤ n ∧ n ≤ 1073741824 then (if (posT (ofP n) l).length = 0 then ([], 7) else (clearL l (posT (ofP n) l), 0)) else ([], 2)
def nodes_Clear.f (l : List S35) (n : Int) : Option (List S35 × Int) := some (clearR l n)
theorem node_drawn {w w' : World} (h : Drawn0 w w') : Below w.heap.size w w' := by
  obtain ⟨m, rfl⟩ := h
  exact ⟨rfl, rfl, rfl, Nat.le_refl _, fun _ _ => rfl⟩
set_option maxHeartbeats 8000000 in
theorem nodes_Clear.calls (A0 : Option Addr) (c0 : Nat) (l0 : List S35) (a1 : Int) (r1 : List S35) (r2 : Int) (w : World) (hr0 : Kd.C k35 w A0 l0.length l0) (hc0 : l0.length ≤ c0) (h : nodes_Clear.f l0 a1 = some (r1, r2)) :
    Calls Try.prog 13 #[.slice A0 l0.length c0, .int .i64 a1] w fun e w' => ∃ v0_ : Value, e = .returned (.tuple #[v0_, .int .i64 r2]) ∧ Kd.R k35 35 w' w.heap.size (fun _ => True) v0_ r1 ∧ Below w.heap.size w w' := by
  replace h := Option.some.inj h
  have HR := Aside0.mk hr0
  have HC := Aside0.mk hc0
  clear hr0 hc0
  unfold clearR at h
  by_cases hok : okNodes l0 = true
  case neg =>
    rw [if_neg (fun e => hok e.1)] at h
    obtain ⟨rfl, rfl⟩ := Prod.mk.inj h
    have HE := Aside0.mk (show nodes_Check.f l0 = some 2 by unfold nodes_Check.f; rw [if_neg hok])
    clear hok h
    go_enter Try.func13, Try.ntmps13
    go_wp2_with (go_at_call 12; refine (nodes_Check.calls _ _ l0 _ _ HR.out HC.out HE.out).mono ?_; rintro e w1 ⟨rfl, hb1⟩; replace hb1 := Aside0.mk hb1)
    go_ret2
    exact ⟨_, rfl, Kd.R_nil _ _ _ _ _, hb1.out⟩
  have HE := Aside0.mk (show nodes_Check.f l0 = some 0 by unfold nodes_Check.f; rw [if_pos hok])
  have hlen : 1 ≤ l0.length ∧ l0.length ≤ 64 := by
    have h := hok
    unfold okNodes at h
    simp only [Bool.and_eq_true, decide_eq_true_eq] at h
    exact h.1
  by_cases hn : 1 ≤ a1 ∧ a1 ≤ 1073741824
  case neg =>
    rw [if_neg (fun e => hn e.2)] at h
    obtain ⟨rfl, rfl⟩ := Prod.mk.inj h
    have HJ := Aside0.mk (show nodes_job.f a1 = some false by rw [job_eq, decide_eq_false hn])
    clear hok h hn
    go_enter Try.func13, Try.ntmps13
    go_wp2_with (first
      | (go_at_call 12; refine (nodes_Check.calls _ _ l0 _ _ HR.out HC.out HE.out).mono ?_; rintro e w1 ⟨rfl, hb1⟩; replace hb1 := Aside0.mk hb1)
      | (go_at_call 27; refine (nodes_job.calls _ _ _ HJ.out).mono ?_; rintro e w2 ⟨rfl, hd2⟩; have hb2 := Aside0.mk (node_drawn hd2); clear hd2))
    go_ret2
    exact ⟨_, rfl, Kd.R_nil _ _ _ _ _, hb1.out.trans (hb2.out.mono hb1.out.size)⟩
  have HJ := Aside0.mk (show nodes_job.f a1 = some true by rw [job_eq, decide_eq_true hn])
  rw [if_pos ⟨hok, hn⟩] at h
  clear hok hn
  have hof := Aside0.mk (show nodes_Of.f l0 a1 = some (posT (ofP a1) l0) from rfl)
  have hrng := Aside0.mk (fun x => @posT_rng (ofP a1) l0 x)
  have hpl := posT_length (ofP a1) l0
  generalize posT (ofP a1) l0 = P at h hof hrng hpl
  by_cases hP : P.length = 0
  · rw [if_pos hP] at h
    obtain ⟨rfl, rfl⟩ := Prod.mk.inj h
    obtain rfl := List.eq_nil_of_length_eq_zero hP
    clear h hP
    go_enter Try.func13, Try.ntmps13
    go_wp2_with (first
      | (go_at_call 12; refine (nodes_Check.calls _ _ l0 _ _ HR.out HC.out HE.out).mono ?_; rintro e w1 ⟨rfl, hb1⟩; replace hb1 := Aside0.mk hb1)
      | (go_at_call 27; refine (nodes_job.calls _ _ _ HJ.out).mono ?_; rintro e w2 ⟨rfl, hd2⟩; have hb2 := Aside0.mk (hb1.out.trans ((node_drawn hd2).mono hb1.out.size)); clear hd2)
      | (go_at_call 10; refine (nodes_Of.calls _ _ l0 a1 _ _ (Kd.C_below HR.out hb2.out) HC.out hof.out).mono ?_; rintro e w3 ⟨v0, rfl, hrow, hb3⟩; obtain ⟨Ao, co, rfl⟩ := Kd.R_slice hrow; have hb3' := Aside0.mk (hb2.out.trans (hb3.mono hb2.out.size)); clear hrow hb3))
    go_ret2
    exact ⟨_, rfl, Kd.R_nil _ _ _ _ _, hb3'.out⟩
  rw [if_neg hP] at h
  obtain ⟨rfl, rfl⟩ := Prod.mk.inj h
  clear h
  have hP' : ¬ (P.length : Int) = 0 := by omega
  clear hP
  go_enter Try.func13, Try.ntmps13
  go_upto_block 1 with (first
      | (go_at_call 12; refine (nodes_Check.calls _ _ l0 _ _ HR.out HC.out HE.out).mono ?_; rintro e w1 ⟨rfl, hb1⟩; replace hb1 := Aside0.mk hb1)
      | (go_at_call 27; refine (nodes_job.calls _ _ _ HJ.out).mono ?_; rintro e w2 ⟨rfl, hd2⟩; have hb2 := Aside0.mk (hb1.out.trans ((node_drawn hd2).mono hb1.out.size)); clear hd2)
      | (go_at_call 10; refine (nodes_Of.calls _ _ l0 a1 _ _ (Kd.C_below HR.out hb2.out) HC.out hof.out).mono ?_; rintro e w3 ⟨v0, rfl, hrow, hb3⟩; obtain ⟨Ao, co, rfl⟩ := Kd.R_slice hrow; have hb3' := Aside0.mk (hb2.out.trans (hb3.mono hb2.out.size)); clear hrow hb3 hb2)
      | (go_at_call 28; refine (nodes_Clone_own _ _ l0 _ (Kd.C_below HR.out hb3'.out) HC.out hlen.1 hlen.2).mono ?_; rintro e w4 ⟨g, cap, rfl, hrow, hb4⟩; have hgl := Aside0.mk (Kd.R_own hrow); have hb4' := Aside0.mk (hb3'.out.trans (hb4.mono hb3'.out.size)); have hgw := Aside0.mk (show w.heap.size ≤ g from Nat.le_trans hb3'.out.size (Kd.R_base hrow g (by simp [Value.ownBlock]))); replace hrow := Aside0.mk (Kd.R_lower hrow hb3'.out.size); clear hb4)
      | (go_at_call 10; refine (nodes_Of.calls _ _ l0 a1 _ _ (Kd.C_below HR.out hb4'.out) HC.out hof.out).mono ?_; rintro e w5 ⟨v0, rfl, hrowP, hb5⟩; obtain ⟨Ap, cp, rfl⟩ := Kd.R_slice hrowP; have hb5' := Aside0.mk (hb4'.out.trans (hb5.mono hb4'.out.size)); have hrow5 := Aside0.mk (Kd.R_below hrow.out hb5); have hg4 := Aside0.mk (show g < w4.heap.size by obtain ⟨inner, ho⟩ := hgl.out; exact (ho.lt g (by simp [Value.ownBlock])).2); replace hrowP := Aside0.mk hrowP; clear hb5))
  go_wp2
  go_loopg [30] P.length (fun kq v30 W => ∃ q : Nat, v30 = .int .i64 q ∧ Aside0 (kq + q = P.length) ∧ Aside0 (NodeRow W w.heap.size g l0.length cap (clearL l0 (P.take q))) ∧ Aside0 (Keeps (fun k => k ≠ g) w5 W))
  case atStart => exact ⟨0, rfl, ⟨rfl⟩, ⟨by rw [List.take_zero]; exact hrow5.out⟩, ⟨Keeps.refl _ _⟩⟩
  case round =>
    obtain ⟨q, rfl, HK, HN, HP⟩ := hrel
    cases gk with
    | zero =>
      have e : q = P.length := by have := HK.out; omega
      subst e
      go_wp2
      go_ret2
      refine ⟨_, rfl, by have := HN.out; rwa [List.take_length] at this, ?_⟩
      exact hb5'.out.trans (HP.out.below hb5'.out.size (fun k hk => by have := hgw.out; omega))
    | succ k1 =>
      have hlt : q < P.length := by have := HK.out; omega
      have hC := (Kd.R_reads' (Kd.R_step (Kd.R_bound hrowP.out) (fun k hk hl => HP.out.block k hl (by have := hk.2.1; have := hg4.out; omega)))).2.2
      obtain ⟨ad, e1, hx⟩ := Kd.at_int hC (q : Int) (by omega) (by omega)
      cases e1
      have er : rd P (q : Int) = P[q] := by simp [rd, hlt]
      rw [er] at hx
      clear er hC
      obtain ⟨x0, x1⟩ := hrng.out P[q] (List.getElem_mem hlt)
      have htk := Aside0.mk (List.take_succ_eq_append_getElem hlt)
      generalize P[q] = x at *
      obtain ⟨m, rfl⟩ := Int.eq_ofNat_of_zero_le x0
      simp only [Int.toNat_natCast] at hx
      have hm : m < (clearL l0 (P.take q)).length := by rw [clearL_len]; omega
      obtain ⟨k0, k1', k2, kf⟩ := node_cells HN.out m hm
      have kf2 : wr.frozen? ⟨g, m * 3 + 2, none⟩ = false := kf 2
      clear kf
      have hput := Aside0.mk (node_put HN.out m 2 hm (by decide) (.int .i64 0) ⟨((clearL l0 (P.take q)).getD m z35).f0, ((clearL l0 (P.take q)).getD m z35).f1, 0⟩ rfl)
      clear hm
      go_wp2
      go_roundg k1
      case measure => omega
      case rel =>
        refine ⟨q + 1, by go_num, ⟨by have := HK.out; omega⟩, ⟨?_⟩, ⟨HP.out.setCell _ (fun e => e.2 rfl)⟩⟩
        rw [htk.out, clearL_snoc]
        exact hput.out

/-! ### nodes_count: function 32 -/
attribute [local go_sem] Oper.semAt_some
set_option maxHeartbeats 4000000 in
theorem nodes_count_calls (A0 : Option Addr) (c0 : Nat) (l0 : List S35) (p : S35 → Bool) (f : Nat) (w : World) (hr0 : Kd.C k35 w A0 l0.length l0) (hc0 : l0.length ≤ c0)
    (hent : ∀ args w, (callFunc f args).run Try.prog w = .ok (.enter f args) w)
    (hso : ∀ (x : S35) (W : World), Calls Try.prog f #[.agg #[.bool x.f0, .bool x.f1, .int .i64 x.f2]] W fun e W' => e = .returned (.bool (p x)) ∧ Below W.heap.size W W') :
    Calls Try.prog 32 #[.slice A0 l0.length c0, .func (.func f) #[] #[]] w fun e w' => e = .returned (.int .i64 ((posT p l0).length : Int)) ∧ Below w.heap.size w w' := by
  have hlen : (posT p l0).length ≤ 64 := by
    unfold posT
    by_cases h : okNodes l0 = true
    · rw [if_pos h]
      unfold okNodes at h
      simp only [Bool.and_eq_true, decide_eq_true_eq] at h
      unfold posU
      rw [List.length_map]
      refine Nat.le_trans (List.length_filter_le _ _) ?_
      rw [List.length_range]
      omega
    · rw [if_neg h]; simp
  have HR := Aside0.mk hr0
  have HC := Aside0.mk hc0
  clear hr0 hc0
  replace hso := Aside0.mk hso
  replace hent := Aside0.mk hent
  replace hlen := Aside0.mk hlen
  obtain ⟨H, hH⟩ : ∃ H, w.heap.size = H := ⟨_, rfl⟩
  refine (callsIn_wide (n := 9)).1 (callsIn_of_wp_marks Try.func32 rfl trivial ?_ rfl)
  simp only [Try.ntmps32, List.size_toArray, List.length_cons, List.length_nil, Nat.reduceAdd, Nat.reduceSub, Array.replicate_succ, Array.replicate_zero, List.push_toArray, List.append_toArray, List.nil_append, List.cons_append]
  gi_wp2_with (refine ⟨trivial, ?_⟩; gi_at_call 29; refine (callsIn_wide.2 (nodes_places_calls _ _ rfl rfl _)).mono ?_; rintro e w3 ⟨rfl, rfl⟩; skip)
  have c1 : Boxed (((w.alloc (Obj.cells #[Value.int IntKind.i64 0] 3)).alloc (Obj.cells #[Value.slice A0 l0.length c0] 22)).alloc (Obj.cells #[Value.func (Fn.func f) #[] #[]] 58)) H 3 (.int .i64 0) := by
    rw [← hH]; exact ((Boxed.new w _ _).alloc _).alloc _
  have c2 : BoxN (((w.alloc (Obj.cells #[Value.int IntKind.i64 0] 3)).alloc (Obj.cells #[Value.slice A0 l0.length c0] 22)).alloc (Obj.cells #[Value.func (Fn.func f) #[] #[]] 58)) (H + 1) 22 [.slice A0 l0.length c0] := by
    have := (BoxN.new (w.alloc (Obj.cells #[Value.int IntKind.i64 0] 3)) 22 [.slice A0 l0.length c0]).alloc (Obj.cells #[Value.func (Fn.func f) #[] #[]] 58)
    rwa [World.size_alloc, hH] at this
  have c3 : BoxN (((w.alloc (Obj.cells #[Value.int IntKind.i64 0] 3)).alloc (Obj.cells #[Value.slice A0 l0.length c0] 22)).alloc (Obj.cells #[Value.func (Fn.func f) #[] #[]] 58)) (H + 1 + 1) 58 [.func (.func f) #[] #[]] := by
    have := BoxN.new ((w.alloc (Obj.cells #[Value.int IntKind.i64 0] 3)).alloc (Obj.cells #[Value.slice A0 l0.length c0] 22)) 58 [.func (.func f) #[] #[]]
    rwa [World.size_alloc, World.size_alloc, hH] at this
  have c4 : Below w.heap.size w (((w.alloc (Obj.cells #[Value.int IntKind.i64 0] 3)).alloc (Obj.cells #[Value.slice A0 l0.length c0] 22)).alloc (Obj.cells #[Value.func (Fn.func f) #[] #[]] 58)) := (((Below.refl _ w).alloc (Nat.le_refl _) _).alloc (by simp) _).alloc (by simp; omega) _
  have c5 : (((w.alloc (Obj.cells #[Value.int IntKind.i64 0] 3)).alloc (Obj.cells #[Value.slice A0 l0.length c0] 22)).alloc (Obj.cells #[Value.func (Fn.func f) #[] #[]] 58)).heap.size = H + 3 := by simp [hH]
  generalize (((w.alloc (Obj.cells #[Value.int IntKind.i64 0] 3)).alloc (Obj.cells #[Value.slice A0 l0.length c0] 22)).alloc (Obj.cells #[Value.func (Fn.func f) #[] #[]] 58)) = Wr at *
  refine wpIn_range (n := 9) (w := Wr) rfl (by omega) (gf := 43) (lb := #[.pointer (some ⟨H + 1, 0, none⟩), .pointer (some ⟨H + 1 + 1, 0, none⟩)]) rfl trivial (enters_of Try.func43 (by kernel_rfl) rfl)
    (nodes_places_seq w A0 c0 l0 p f #[] (H + 1) (H + 1 + 1) (fun k => k < H ∨ k = H + 1 ∨ k = H + 1 + 1) Wr HR.out HC.out c4 c2 c3 (fun k hk => by omega) (by omega) (by omega) hent.out (fun x W _ => by simpa using hso.out x W)) (fun k hk => hk.elim) (fun k hk => by omega) (fun _ => rfl)
    (fun pre W => Boxed W H 3 (.int .i64 (pre.length : Int)) ∧ Below H w W)
    (fun _ _ _ => False)
    (by
      rintro s A B ⟨h1, h3⟩ hk
      exact ⟨hk.boxed h1 ⟨not_false, by omega, by omega⟩, h3.trans (hk.below (by have := h3.size; omega) (fun k hk => ⟨not_false, by omega, by omega⟩))⟩)
    (fun _ _ _ _ h _ => h)
    ⟨c1, by rw [← hH]; exact c4⟩
    (fun pre x a' W => (Boxed W H 3 (.int .i64 (pre.length : Int)) ∧ Below H w W) ∧ 
      a' = { tmps := #[Value.slice A0 l0.length c0, Value.func (Fn.func f) #[] #[], undef, undef, Value.int IntKind.i64 0,
        Value.pointer (some { block := H, off := 0 }), Value.slice A0 l0.length c0, Value.func (Fn.func f) #[] #[],
        Value.func (Fn.func 43) #[] #[Value.pointer (some { block := H + 1, off := 0 }), Value.pointer (some { block := H + 1 + 1, off := 0 })],
        Value.int IntKind.i64 x, undef, undef, undef], defers := [] })
    (by
      rintro pre x a' A B ⟨⟨h1, h3⟩, h6⟩ hk
      exact ⟨⟨hk.boxed h1 (by omega), h3.trans (hk.below (by have := h3.size; omega) (fun k hk => by omega))⟩, h6⟩)
    ?assign ?body ?done (fun _ _ _ _ _ h _ => h.elim)
  case assign =>
    rintro pre x W hi hpre hsz
    simp only [encPos]
    gi_wp2
    exact ⟨Keeps.refl _ W, hi, by simp⟩
  case body =>
    rintro pre x a' W hpre hrec ⟨⟨h1, h3⟩, rfl⟩
    have hc1 := h1.cell
    have hf1 := h1.frozen
    have hpl : pre.length + 1 ≤ 64 := by
      have := (List.IsPrefix.length_le hpre)
      simp at this
      have := hlen.out
      omega
    gi_wp2
    have hk : Keeps (fun k => k ≠ H) W (W.setCell { block := H, off := 0 } (Value.int IntKind.i64 ((pre.length : Int) + 1))) := (Keeps.refl _ W).setCell _ (fun h => h.2 rfl)
    refine ⟨hk.mono (fun k _ h => by omega), ?_, h3.trans (hk.below (by have := h3.size; omega) (fun k hk => by omega))⟩
    have := h1.set (.int .i64 ((pre.length : Int) + 1))
    simpa using this
  case done =>
    intro xs W hsz hxs hI hW
    obtain ⟨h1, h3⟩ := hI
    have hc1 := h1.cell
    have hf1 := h1.frozen
    subst hxs
    gi_wp2
    refine ⟨by simp, .inl ⟨_, _, rfl, run_takeDeferred hW, ?_⟩⟩
    refine ⟨.int .i64 ((posT p l0).length : Int), by simp [results, Try.f32, go_sem], rfl, ?_⟩
    rw [hH]
    exact h3.trans (((Keeps.refl (fun k => k ≠ Wr.heap.size) W).putObj _ (fun h => h.2 rfl)).below (by have := h3.size; omega) (fun k hk => by omega))

/-! ### nodes_usable: function 38 -/
def nodes_usable.f (a0_0 : Bool) (a0_1 : Bool) (a0_2 : Int) : Option (Bool) := if a0_0 = true then (some a0_1) else (some false)
set_option maxHeartbeats 8000000 in
set_option maxRecDepth 100000 in
theorem nodes_usable.calls (a0_0 : Bool) (a0_1 : Bool) (a0_2 : Int) (r : Bool) (w : World) (h : nodes_usable.f a0_0 a0_1 a0_2 = some r) :
    Calls Try.prog 38 #[.agg #[.bool a0_0, .bool a0_1, .int .i64 a0_2]] w fun e w' => e = .returned (.bool r) ∧ Below w.heap.size w w' := by
  have hu35 := Try.underlying35
  have HB := Aside0.mk (Below.refl w.heap.size w)
  have H : (if a0_0 = true then (some a0_1) else (some false)) = some r := h
  clear h
  by_cases c2 : a0_0 = true
  · subst c2
    have H1 : (some a0_1) = some r := by rw [if_pos rfl] at H; exact H
    clear H
    have H := H1
    clear H1
    obtain rfl := Option.some.inj H
    go_enter Try.func38, Try.ntmps38
    go_wp2_with (first | ((with_reducible refine gate_dst (N := 1) rfl ?_); refine box_event ?hg (N := 1) ?hd (cs := #[.bool true, .bool a0_1, .int .i64 a0_2]) (t := 35) ?hr ?_; (case hd => rfl); (case hg => rfl); (case hr => first | (go_simp; done) | (go_simp; rfl)); intro gb103 hg w3 hbox hb; have n0_ := Aside0.mk (below_step (by repeat (first | (with_reducible first | exact HB.out | apply below_alloc | apply pw_below_drewN | apply below_drew1) | exact HB.out)) hb); have n1_ := Aside0.mk (hbox); have n2_ := Aside0.mk ((by rw [hg]; exact (below_size (by repeat (first | (with_reducible first | exact HB.out | apply below_alloc | apply pw_below_drewN | apply below_drew1) | exact HB.out))) : w.heap.size ≤ gb103)); have n3_ := Aside0.mk ((by rw [hg]; exact (below_size (by repeat (first | (with_reducible first | exact HB.out | apply below_alloc | apply pw_below_drewN | apply below_drew1) | exact HB.out))) : w.heap.size ≤ gb103)); clear HB; have HB := n0_; have BK103 := n1_; have GW103 := n2_; have GE103 := n3_; clear n0_ n1_ n2_ n3_; clear hb hbox hg; have hcz4_0 : w3.cell? ⟨gb103, 0, none⟩ = some (.bool true) := (blk_cell BK103.out 0).trans rfl; have hcz4_1 : w3.cell? ⟨gb103, 1, none⟩ = some (.bool a0_1) := (blk_cell BK103.out 1).trans rfl; have hcz4_2 : w3.cell? ⟨gb103, 2, none⟩ = some (.int .i64 a0_2) := (blk_cell BK103.out 2).trans rfl; have hfz4_0 := blk_frozen BK103.out 0; have hfz4_1 := blk_frozen BK103.out 1; have hfz4_2 := blk_frozen BK103.out 2))
    go_ret
    exact ⟨by first | rfl | (simp [errW_none, errW_some] <;> rfl) | (simp [*, errW_none, errW_some] <;> rfl), by repeat (first | (with_reducible first | exact HB.out | apply below_alloc | apply pw_below_drewN | apply below_drew1 | refine below_set ?_ GE103.out) | exact HB.out)⟩
  · replace c2 := Bool.eq_false_iff.mpr c2
    subst c2
    have H1 : (some false) = some r := by rw [if_neg (show ¬ (false = true) by decide)] at H; exact H
    clear H
    have H := H1
    clear H1
    obtain rfl := Option.some.inj H
    go_enter Try.func38, Try.ntmps38
    go_wp2_with (first | ((with_reducible refine gate_dst (N := 1) rfl ?_); refine box_event ?hg (N := 1) ?hd (cs := #[.bool false, .bool a0_1, .int .i64 a0_2]) (t := 35) ?hr ?_; (case hd => rfl); (case hg => rfl); (case hr => first | (go_simp; done) | (go_simp; rfl)); intro gb103 hg w5 hbox hb; have n0_ := Aside0.mk (below_step (by repeat (first | (with_reducible first | exact HB.out | apply below_alloc | apply pw_below_drewN | apply below_drew1) | exact HB.out)) hb); have n1_ := Aside0.mk (hbox); have n2_ := Aside0.mk ((by rw [hg]; exact (below_size (by repeat (first | (with_reducible first | exact HB.out | apply below_alloc | apply pw_below_drewN | apply below_drew1) | exact HB.out))) : w.heap.size ≤ gb103)); have n3_ := Aside0.mk ((by rw [hg]; exact (below_size (by repeat (first | (with_reducible first | exact HB.out | apply below_alloc | apply pw_below_drewN | apply below_drew1) | exact HB.out))) : w.heap.size ≤ gb103)); clear HB; have HB := n0_; have BK103 := n1_; have GW103 := n2_; have GE103 := n3_; clear n0_ n1_ n2_ n3_; clear hb hbox hg; have hcz6_0 : w5.cell? ⟨gb103, 0, none⟩ = some (.bool false) := (blk_cell BK103.out 0).trans rfl; have hcz6_1 : w5.cell? ⟨gb103, 1, none⟩ = some (.bool a0_1) := (blk_cell BK103.out 1).trans rfl; have hcz6_2 : w5.cell? ⟨gb103, 2, none⟩ = some (.int .i64 a0_2) := (blk_cell BK103.out 2).trans rfl; have hfz6_0 := blk_frozen BK103.out 0; have hfz6_1 := blk_frozen BK103.out 1; have hfz6_2 := blk_frozen BK103.out 2))
    go_ret
    exact ⟨by first | rfl | (simp [errW_none, errW_some] <;> rfl) | (simp [*, errW_none, errW_some] <;> rfl), by repeat (first | (with_reducible first | exact HB.out | apply below_alloc | apply pw_below_drewN | apply below_drew1 | refine below_set ?_ GE103.out) | exact HB.out)⟩

/-! ### nodes_free: function 30 -/
def nodes_free.f (a0_0 : Bool) (a0_1 : Bool) (a0_2 : Int) : Option (Bool) := (nodes_usable.f a0_0 a0_1 a0_2).bind fun t105 => (if t105 = true then (some (a0_2 == 0)) else (some false))
set_option maxHeartbeats 8000000 in
set_option maxRecDepth 100000 in
theorem nodes_free.calls (a0_0 : Bool) (a0_1 : Bool) (a0_2 : Int) (r : Bool) (w : World) (h : nodes_free.f a0_0 a0_1 a0_2 = some r) :
    Calls Try.prog 30 #[.agg #[.bool a0_0, .bool a0_1, .int .i64 a0_2]] w fun e w' => e = .returned (.bool r) ∧ Below w.heap.size w w' := by
  have hu35 := Try.underlying35
  have HB := Aside0.mk (Below.refl w.heap.size w)
  have H : ((nodes_usable.f a0_0 a0_1 a0_2).bind fun t105 => (if t105 = true then (some (a0_2 == 0)) else (some false))) = some r := h
  clear h
  replace H := Option.bind_eq_some_iff.mp H
  obtain ⟨t105, A20, H⟩ := H
  replace H : (if t105 = true then (some (a0_2 == 0)) else (some false)) = some r := H
  have A2 := Aside0.mk A20
  clear A20
  by_cases c3 : t105 = true
  · subst c3
    have H1 : (some (a0_2 == 0)) = some r := by rw [if_pos rfl] at H; exact H
    clear H
    have H := H1
    clear H1
    obtain rfl := Option.some.inj H
    go_enter Try.func30, Try.ntmps30
    go_wp2_with (first | ((with_reducible refine gate_dst (N := 1) rfl ?_); refine box_event ?hg (N := 1) ?hd (cs := #[.bool a0_0, .bool a0_1, .int .i64 a0_2]) (t := 35) ?hr ?_; (case hd => rfl); (case hg => rfl); (case hr => first | (go_simp; done) | (go_simp; rfl)); intro gb104 hg w4 hbox hb; have n0_ := Aside0.mk (below_step (by repeat (first | (with_reducible first | exact HB.out | apply below_alloc | apply pw_below_drewN | apply below_drew1) | exact HB.out)) hb); have n1_ := Aside0.mk (hbox); have n2_ := Aside0.mk ((by rw [hg]; exact (below_size (by repeat (first | (with_reducible first | exact HB.out | apply below_alloc | apply pw_below_drewN | apply below_drew1) | exact HB.out))) : w.heap.size ≤ gb104)); have n3_ := Aside0.mk ((by rw [hg]; exact (below_size (by repeat (first | (with_reducible first | exact HB.out | apply below_alloc | apply pw_below_drewN | apply below_drew1) | exact HB.out))) : w.heap.size ≤ gb104)); clear HB; have HB := n0_; have BK104 := n1_; have GW104 := n2_; have GE104 := n3_; clear n0_ n1_ n2_ n3_; clear hb hbox hg; have hcz5_0 : w4.cell? ⟨gb104, 0, none⟩ = some (.bool a0_0) := (blk_cell BK104.out 0).trans rfl; have hcz5_1 : w4.cell? ⟨gb104, 1, none⟩ = some (.bool a0_1) := (blk_cell BK104.out 1).trans rfl; have hcz5_2 : w4.cell? ⟨gb104, 2, none⟩ = some (.int .i64 a0_2) := (blk_cell BK104.out 2).trans rfl; have hfz5_0 := blk_frozen BK104.out 0; have hfz5_1 := blk_frozen BK104.out 1; have hfz5_2 := blk_frozen BK104.out 2) | ((with_reducible refine gate_callee (f := 38) rfl ?_); refine goesL_ (some 4) rfl rfl Try.func38 (by kernel_rfl) rfl #[.agg #[.bool a0_0, .bool a0_1, .int .i64 a0_2]] rfl (by (try simp only [List.map_toArray, List.map_cons, List.map_nil]); first | done | rfl | (simp only [List.length_drop, List.length_take]; rfl)) ?_; (with_reducible refine (nodes_usable.calls a0_0 a0_1 a0_2 true _ A2.out).mono ?_); rintro e w6 ⟨rfl, hb⟩; refine ⟨_, rfl, ?_⟩; have n0_ := Aside0.mk (blk_below (g := gb104) (o := .cells #[.bool a0_0, .bool a0_1, .int .i64 a0_2] 35 (0, 0)) (by (with_reducible repeat (first | refine blk_drewN ?_ _ | refine blk_drew ?_ | refine blk_alloc ?_ _)); exact BK104.out) hb); have n1_ := Aside0.mk (below_step (by repeat (first | (with_reducible first | exact HB.out | apply below_alloc | apply pw_below_drewN | apply below_drew1 | refine below_set ?_ GE104.out) | exact HB.out)) hb); clear BK104; clear HB; have BK104 := n0_; have HB := n1_; clear n0_ n1_; (try clear hb); (try clear hb2); (try clear hk); (try clear hi); have hcz7_0 : w6.cell? ⟨gb104, 0, none⟩ = some (.bool a0_0) := (blk_cell BK104.out 0).trans rfl; have hcz7_1 : w6.cell? ⟨gb104, 1, none⟩ = some (.bool a0_1) := (blk_cell BK104.out 1).trans rfl; have hcz7_2 : w6.cell? ⟨gb104, 2, none⟩ = some (.int .i64 a0_2) := (blk_cell BK104.out 2).trans rfl; have hfz7_0 := blk_frozen BK104.out 0; have hfz7_1 := blk_frozen BK104.out 1; have hfz7_2 := blk_frozen BK104.out 2))
    go_ret
    exact ⟨by first | rfl | (simp [errW_none, errW_some] <;> rfl) | (simp [*, errW_none, errW_some] <;> rfl), by repeat (first | (with_reducible first | exact HB.out | apply below_alloc | apply pw_below_drewN | apply below_drew1 | refine below_set ?_ GE104.out) | exact HB.out)⟩
  · replace c3 := Bool.eq_false_iff.mpr c3
    subst c3
    have H1 : (some false) = some r := by rw [if_neg (show ¬ (false = true) by decide)] at H; exact H
    clear H
    have H := H1
    clear H1
    obtain rfl := Option.some.inj H
    go_enter Try.func30, Try.ntmps30
    go_wp2_with (first | ((with_reducible refine gate_dst (N := 1) rfl ?_); refine box_event ?hg (N := 1) ?hd (cs := #[.bool a0_0, .bool a0_1, .int .i64 a0_2]) (t := 35) ?hr ?_; (case hd => rfl); (case hg => rfl); (case hr => first | (go_simp; done) | (go_simp; rfl)); intro gb104 hg w8 hbox hb; have n0_ := Aside0.mk (below_step (by repeat (first | (with_reducible first | exact HB.out | apply below_alloc | apply pw_below_drewN | apply below_drew1) | exact HB.out)) hb); have n1_ := Aside0.mk (hbox); have n2_ := Aside0.mk ((by rw [hg]; exact (below_size (by repeat (first | (with_reducible first | exact HB.out | apply below_alloc | apply pw_below_drewN | apply below_drew1) | exact HB.out))) : w.heap.size ≤ gb104)); have n3_ := Aside0.mk ((by rw [hg]; exact (below_size (by repeat (first | (with_reducible first | exact HB.out | apply below_alloc | apply pw_below_drewN | apply below_drew1) | exact HB.out))) : w.heap.size ≤ gb104)); clear HB; have HB := n0_; have BK104 := n1_; have GW104 := n2_; have GE104 := n3_; clear n0_ n1_ n2_ n3_; clear hb hbox hg; have hcz9_0 : w8.cell? ⟨gb104, 0, none⟩ = some (.bool a0_0) := (blk_cell BK104.out 0).trans rfl; have hcz9_1 : w8.cell? ⟨gb104, 1, none⟩ = some (.bool a0_1) := (blk_cell BK104.out 1).trans rfl; have hcz9_2 : w8.cell? ⟨gb104, 2, none⟩ = some (.int .i64 a0_2) := (blk_cell BK104.out 2).trans rfl; have hfz9_0 := blk_frozen BK104.out 0; have hfz9_1 := blk_frozen BK104.out 1; have hfz9_2 := blk_frozen BK104.out 2) | ((with_reducible refine gate_callee (f := 38) rfl ?_); refine goesL_ (some 4) rfl rfl Try.func38 (by kernel_rfl) rfl #[.agg #[.bool a0_0, .bool a0_1, .int .i64 a0_2]] rfl (by (try simp only [List.map_toArray, List.map_cons, List.map_nil]); first | done | rfl | (simp only [List.length_drop, List.length_take]; rfl)) ?_; (with_reducible refine (nodes_usable.calls a0_0 a0_1 a0_2 false _ A2.out).mono ?_); rintro e w10 ⟨rfl, hb⟩; refine ⟨_, rfl, ?_⟩; have n0_ := Aside0.mk (blk_below (g := gb104) (o := .cells #[.bool a0_0, .bool a0_1, .int .i64 a0_2] 35 (0, 0)) (by (with_reducible repeat (first | refine blk_drewN ?_ _ | refine blk_drew ?_ | refine blk_alloc ?_ _)); exact BK104.out) hb); have n1_ := Aside0.mk (below_step (by repeat (first | (with_reducible first | exact HB.out | apply below_alloc | apply pw_below_drewN | apply below_drew1 | refine below_set ?_ GE104.out) | exact HB.out)) hb); clear BK104; clear HB; have BK104 := n0_; have HB := n1_; clear n0_ n1_; (try clear hb); (try clear hb2); (try clear hk); (try clear hi)))
    go_ret
    exact ⟨by first | rfl | (simp [errW_none, errW_some] <;> rfl) | (simp [*, errW_none, errW_some] <;> rfl), by repeat (first | (with_reducible first | exact HB.out | apply below_alloc | apply pw_below_drewN | apply below_drew1 | refine below_set ?_ GE104.out) | exact HB.out)⟩

/-! ### nodes_Usable: function 17 -/
def usableP (x : S35) : Bool := x.f0 && x.f1
theorem usable_eq (x : S35) : nodes_usable.f x.f0 x.f1 x.f2 = some (usableP x) := by
  obtain ⟨a, b, c⟩ := x
  cases a <;> rfl
def nodes_Usable.f (l : List S35) : Option Int := some ((posT usableP l).length : Int)
set_option maxHeartbeats 2000000 in
theorem nodes_Usable.calls (A0 : Option Addr) (c0 : Nat) (l0 : List S35) (r : Int) (w : World) (hr0 : Kd.C k35 w A0 l0.length l0) (hc0 : l0.length ≤ c0) (h : nodes_Usable.f l0 = some r) :
    Calls Try.prog 17 #[.slice A0 l0.length c0] w fun e w' => e = .returned (.int .i64 r) ∧ Below w.heap.size w w' := by
  obtain rfl := Option.some.inj h
  clear h
  go_enter Try.func17, Try.ntmps17
  go_wp2_with (go_at_call 32; refine (nodes_count_calls _ _ l0 usableP 38 _ hr0 hc0 (enters_of Try.func38 (by kernel_rfl) rfl) (fun x W => nodes_usable.calls x.f0 x.f1 x.f2 _ W (usable_eq x))).mono ?_; rintro e w' ⟨rfl, hb⟩; replace hb := Aside0.mk hb)
  go_ret
  exact ⟨rfl, hb.out⟩

/-! ### nodes_Free: function 11 -/
def freeP (x : S35) : Bool := usableP x && x.f2 == 0
theorem free_eq (x : S35) : nodes_free.f x.f0 x.f1 x.f2 = some (freeP x) := by
  unfold nodes_free.f freeP
  rw [usable_eq, Option.bind_some]
  cases usableP x <;> rfl
def nodes_Free.f (l : List S35) : Option Int := some ((posT freeP l).length : Int)
set_option maxHeartbeats 2000000 in
theorem nodes_Free.calls (A0 : Option Addr) (c0 : Nat) (l0 : List S35) (r : Int) (w : World) (hr0 : Kd.C k35 w A0 l0.length l0) (hc0 : l0.length ≤ c0) (h : nodes_Free.f l0 = some r) :
    Calls Try.prog 11 #[.slice A0 l0.length c0] w fun e w' => e = .returned (.int .i64 r) ∧ Below w.heap.size w w' := by
  obtain rfl := Option.some.inj h
  clear h
  go_enter Try.func11, Try.ntmps11
  go_wp2_with (go_at_call 32; refine (nodes_count_calls _ _ l0 freeP 30 _ hr0 hc0 (enters_of Try.func30 (by kernel_rfl) rfl) (fun x W => nodes_free.calls x.f0 x.f1 x.f2 _ W (free_eq x))).mono ?_; rintro e w' ⟨rfl, hb⟩; replace hb := Aside0.mk hb)
  go_ret
  exact ⟨rfl, hb.out⟩

/-! ### nodes_Give: function 8 -/
/-- A row of which the nodes of some places have a job. -/
def giveL (l : List S35) (n : Int) (ps : List Int) : List S35 := ps.foldl (fun l i => l.set i.toNat ⟨(l.getD i.toNat z35).f0, (l.getD i.toNat z35).f1, n⟩) l
theorem giveL_len (n : Int) (ps : List Int) : ∀ l : List S35, (giveL l n ps).length = l.length := by
  induction ps with
  | nil => intro l; rfl
  | cons p ps ih => intro l; exact (ih _).trans (by simp)
theorem giveL_snoc (l : List S35) (n : Int) (ps : List Int) (p : Int) : giveL l n (ps ++ [p]) = (giveL l n ps).set p.toNat ⟨((giveL l n ps).getD p.toNat z35).f0, ((giveL l n ps).getD p.toNat z35).f1, n⟩ := by simp [giveL, List.foldl_append]
/-- What Give tells. -/
def giveR (l : List S35) (n many : Int) : List S35 × List Int × Int :=
  if okNodes l = true ∧ (1 ≤ n ∧ n ≤ 1073741824) ∧ 1 ≤ many ∧ many ≤ 64 then
    (if 0 < (posT (ofP n) l).length then ([], [], 8)
     else if ((posT freeP l).length : Int) < many then ([], [], 6)
     else (giveL l n ((posT freeP l).take many.toNat), (posT freeP l).take many.toNat, 0)) else ([], [], 2)
def nodes_Give.f (l : List S35) (n many : Int) : Option (List S35 × List Int × Int) := some (giveR l n many)
/-- Give's two variables, as they lie. -/
structure GiveB (w : World) (n many : Int) (W : World) : Prop where
  below : Below w.heap.size w W
  b1 : Boxed W w.heap.size 2 (.int .i64 n)
  b2 : Boxed W (w.heap.size + 1) 3 (.int .i64 many)
theorem GiveB.step {w : World} {n many : Int} {W W' : World} (h : GiveB w n many W) (hb : Below W.heap.size W W') : GiveB w n many W' :=
  ⟨h.below.trans (hb.mono h.below.size), Boxed.below' h.b1 hb h.b1.lt, Boxed.below' h.b2 hb h.b2.lt⟩
theorem GiveB.drew {w : World} {n many : Int} {W : World} (h : GiveB w n many W) : GiveB w n many W.drew := ⟨h.below.trans ⟨rfl, rfl, rfl, Nat.le_refl _, fun _ _ => rfl⟩, h.b1, h.b2⟩
theorem GiveB.new {w : World} {n many : Int} : GiveB w n many ((w.alloc (.cells #[.int .i64 n] 2)).alloc (.cells #[.int .i64 many] 3)) := by
  refine ⟨((Below.refl _ w).alloc (Nat.le_refl _) _).alloc (by simp) _, (Boxed.new w _ _).alloc _, ?_⟩
  have := Boxed.new (w.alloc (.cells #[.int .i64 n] 2)) 3 (.int .i64 many)
  rwa [World.size_alloc] at this
theorem node_move {W W' : World} {base g n cap : Nat} {xs : List S35} (h : NodeRow W base g n cap xs) (hb : W'.heap[g]? = W.heap[g]?) : NodeRow W' base g n cap xs := by
  obtain ⟨_, inner, ho, hr⟩ := h
  refine ⟨fun _ _ => trivial, inner, own_move ho (fun k hk => ?_), hr.1, fun q p hq => ?_⟩
  · have : g = k := by simpa [Value.ownBlock] using hk
    rw [← this]; exact hb
  · rw [k35_openM (hr.2 q p hq)]
    exact k35_mkM _ _ _ _
theorem own_slice {W : World} {base n : Nat} {e : TypeId} {v : Value} {xs : List Value} (h : W.ownsRow base e 1 v n xs) : ∃ A c, v = .slice A n c := by
  rcases h.2 with ⟨e0, h0⟩ | ⟨g, cap, cur, e0, _⟩
  · have : n = 0 := h0
    subst this
    exact ⟨_, _, e0⟩
  · exact ⟨_, _, e0⟩
/-- What a round of Give finds. -/
structure GiveI (w : World) (S g cap : Nat) (l0 : List S35) (n many : Int) (pre : List Int) (W : World) : Prop where
  G : GiveB w n many W
  row : NodeRow W w.heap.size g l0.length cap (giveL l0 n pre)
  bo : Boxed W S 22 (.slice (some ⟨g, 0, none⟩) l0.length cap)
  bg : ∃ A c, Boxed W (S + 1) 26 (.slice A pre.length c) ∧ W.ownsRow (S + 6) 3 1 (.slice A pre.length c) pre.length (nums .i64 pre)
theorem GiveB.keep {w : World} {n many : Int} {W W' : World} {K : Nat → Prop} (h : GiveB w n many W) (hk : Keeps K W W') (hK : ∀ k, k ≤ w.heap.size + 1 → K k) : GiveB w n many W' :=
  ⟨h.below.trans (hk.below h.below.size (fun k hl => hK k (by omega))), hk.boxed h.b1 (hK _ (by omega)), hk.boxed h.b2 (hK _ (by omega))⟩
theorem GiveI.keep {w : World} {S g cap : Nat} {l0 : List S35} {n many : Int} {pre : List Int} {W W' : World} {K : Nat → Prop} (h : GiveI w S g cap l0 n many pre W) (hk : Keeps K W W') (hg : g < S) (hS : w.heap.size + 2 ≤ S) (hK : ∀ k, k ≠ S + 4 → k ≠ S + 5 → K k) : GiveI w S g cap l0 n many pre W' := by
  obtain ⟨A, c, h1, h2⟩ := h.bg
  exact ⟨h.G.keep hk (fun k hl => hK k (by omega) (by omega)), node_move h.row (hk.block g (Kd.R_lt h.row g (by simp [Value.ownBlock])) (hK g (by omega) (by omega))), hk.boxed h.bo (hK _ (by omega) (by omega)),
    A, c, hk.boxed h1 (hK _ (by omega) (by omega)), hk.row h2 (fun k hl => hK k (by omega) (by omega))⟩
attribute [local go_sem] Oper.semAt_some
set_option maxHeartbeats 8000000 in
theorem nodes_Give.calls (A0 : Option Addr) (c0 : Nat) (l0 : List S35) (a1 a2 : Int) (r1 : List S35) (r2 : List Int) (r3 : Int) (w : World) (hr0 : Kd.C k35 w A0 l0.length l0) (hc0 : l0.length ≤ c0) (h : nodes_Give.f l0 a1 a2 = some (r1, r2, r3)) :
    Calls Try.prog 8 #[.slice A0 l0.length c0, .int .i64 a1, .int .i64 a2] w fun e w' => ∃ v0_ v1_ : Value, e = .returned (.tuple #[v0_, v1_, .int .i64 r3]) ∧ Kd.R k35 35 w' w.heap.size (fun _ => True) v0_ r1 ∧ Kd.R (Kd.int .i64) 3 w' w.heap.size (fun _ => True) v1_ r2 ∧ Below w.heap.size w w' := by
  replace h := Option.some.inj h
  have HR := Aside0.mk hr0
  have HC := Aside0.mk hc0
  clear hr0 hc0
  have hG := Aside0.mk (GiveB.new (w := w) (n := a1) (many := a2))
  have c1 := hG.out.b1.cell
  have c2 := hG.out.b2.cell
  unfold giveR at h
  by_cases hok : okNodes l0 = true
  case neg =>
    rw [if_neg (fun e => hok e.1)] at h
    obtain ⟨rfl, h2⟩ := Prod.mk.inj h
    obtain ⟨rfl, rfl⟩ := Prod.mk.inj h2
    have HE := Aside0.mk (show nodes_Check.f l0 = some 2 by unfold nodes_Check.f; rw [if_neg hok])
    clear hok h h2
    go_enter Try.func8, Try.ntmps8
    go_wp2_with (first
      | (go_at_call 12; (refine (nodes_Check.calls _ _ l0 _ _ (Kd.C_below HR.out hG.out.below) HC.out HE.out).mono ?_); rintro e w1 ⟨rfl, hb1⟩; replace hG := Aside0.mk (hG.out.step hb1); have c1 := hG.out.b1.cell; have c2 := hG.out.b2.cell; clear hb1))
    go_ret3
    exact ⟨_, _, rfl, Kd.R_nil _ _ _ _ _, Kd.R_nil _ _ _ _ _, hG.out.below⟩
  have HE := Aside0.mk (show nodes_Check.f l0 = some 0 by unfold nodes_Check.f; rw [if_pos hok])
  have hlen : 1 ≤ l0.length ∧ l0.length ≤ 64 := by
    have h := hok
    unfold okNodes at h
    simp only [Bool.and_eq_true, decide_eq_true_eq] at h
    exact h.1
  by_cases hn : 1 ≤ a1 ∧ a1 ≤ 1073741824
  case neg =>
    rw [if_neg (fun e => hn e.2.1)] at h
    obtain ⟨rfl, h2⟩ := Prod.mk.inj h
    obtain ⟨rfl, rfl⟩ := Prod.mk.inj h2
    have HJ := Aside0.mk (show nodes_job.f a1 = some false by rw [job_eq, decide_eq_false hn])
    clear hok h hn h2
    go_enter Try.func8, Try.ntmps8
    go_wp2_with (first
      | (go_at_call 12; (refine (nodes_Check.calls _ _ l0 _ _ (Kd.C_below HR.out hG.out.below) HC.out HE.out).mono ?_); rintro e w1 ⟨rfl, hb1⟩; replace hG := Aside0.mk (hG.out.step hb1); have c1 := hG.out.b1.cell; have c2 := hG.out.b2.cell; clear hb1)
      | (go_at_call 27; (refine (nodes_job.calls _ _ _ HJ.out).mono ?_); rintro e w2 ⟨rfl, hd2⟩; replace hG := Aside0.mk (hG.out.step (node_drawn hd2)); have c3 := hG.out.b1.cell; have c4 := hG.out.b2.cell; clear hd2))
    go_ret3
    exact ⟨_, _, rfl, Kd.R_nil _ _ _ _ _, Kd.R_nil _ _ _ _ _, hG.out.below⟩
  have HJ := Aside0.mk (show nodes_job.f a1 = some true by rw [job_eq, decide_eq_true hn])
  by_cases hm1 : 1 ≤ a2
  case neg =>
    rw [if_neg (fun e => hm1 e.2.2.1)] at h
    obtain ⟨rfl, h2⟩ := Prod.mk.inj h
    obtain ⟨rfl, rfl⟩ := Prod.mk.inj h2
    have hm1' : a2 < 1 := by omega
    clear hok h hn h2 hm1
    go_enter Try.func8, Try.ntmps8
    go_wp2_with (first
      | (go_at_call 12; (refine (nodes_Check.calls _ _ l0 _ _ (Kd.C_below HR.out hG.out.below) HC.out HE.out).mono ?_); rintro e w1 ⟨rfl, hb1⟩; replace hG := Aside0.mk (hG.out.step hb1); have c1 := hG.out.b1.cell; have c2 := hG.out.b2.cell; clear hb1)
      | (go_at_call 27; (refine (nodes_job.calls _ _ _ HJ.out).mono ?_); rintro e w2 ⟨rfl, hd2⟩; replace hG := Aside0.mk (hG.out.step (node_drawn hd2)); have c3 := hG.out.b1.cell; have c4 := hG.out.b2.cell; clear hd2))
    go_ret3
    exact ⟨_, _, rfl, Kd.R_nil _ _ _ _ _, Kd.R_nil _ _ _ _ _, hG.out.below⟩
  have hm1' : ¬ a2 < 1 := by omega
  by_cases hm2 : a2 ≤ 64
  case neg =>
    rw [if_neg (fun e => hm2 e.2.2.2)] at h
    obtain ⟨rfl, h2⟩ := Prod.mk.inj h
    obtain ⟨rfl, rfl⟩ := Prod.mk.inj h2
    have hm2' : 64 < a2 := by omega
    clear hok h hn h2 hm1 hm2
    go_enter Try.func8, Try.ntmps8
    go_wp2_with (first
      | (go_at_call 12; (refine (nodes_Check.calls _ _ l0 _ _ (Kd.C_below HR.out hG.out.below) HC.out HE.out).mono ?_); rintro e w1 ⟨rfl, hb1⟩; replace hG := Aside0.mk (hG.out.step hb1); have c1 := hG.out.b1.cell; have c2 := hG.out.b2.cell; clear hb1)
      | (go_at_call 27; (refine (nodes_job.calls _ _ _ HJ.out).mono ?_); rintro e w2 ⟨rfl, hd2⟩; replace hG := Aside0.mk (hG.out.step (node_drawn hd2)); have c3 := hG.out.b1.cell; have c4 := hG.out.b2.cell; clear hd2))
    go_ret3
    exact ⟨_, _, rfl, Kd.R_nil _ _ _ _ _, Kd.R_nil _ _ _ _ _, hG.out.below⟩
  have hm2' : ¬ 64 < a2 := by omega
  rw [if_pos ⟨hok, hn, hm1, hm2⟩] at h
  clear hok hn
  have hof := Aside0.mk (show nodes_Of.f l0 a1 = some (posT (ofP a1) l0) from rfl)
  have hopl := posT_length (ofP a1) l0
  generalize posT (ofP a1) l0 = P at h hof hopl
  by_cases hP : 0 < P.length
  · rw [if_pos hP] at h
    obtain ⟨rfl, h2⟩ := Prod.mk.inj h
    obtain ⟨rfl, rfl⟩ := Prod.mk.inj h2
    have hP' : (0 : Int) < (P.length : Int) := by omega
    clear h h2 hP
    go_enter Try.func8, Try.ntmps8
    go_wp2_with (first
      | (go_at_call 12; (refine (nodes_Check.calls _ _ l0 _ _ (Kd.C_below HR.out hG.out.below) HC.out HE.out).mono ?_); rintro e w1 ⟨rfl, hb1⟩; replace hG := Aside0.mk (hG.out.step hb1); have c1 := hG.out.b1.cell; have c2 := hG.out.b2.cell; clear hb1)
      | (go_at_call 27; (refine (nodes_job.calls _ _ _ HJ.out).mono ?_); rintro e w2 ⟨rfl, hd2⟩; replace hG := Aside0.mk (hG.out.step (node_drawn hd2)); have c3 := hG.out.b1.cell; have c4 := hG.out.b2.cell; clear hd2)
      | (go_at_call 10; (refine (nodes_Of.calls _ _ l0 a1 _ _ (Kd.C_below HR.out hG.out.below) HC.out hof.out).mono ?_); rintro e w3 ⟨v0, rfl, hrow, hb3⟩; obtain ⟨Ao, co, rfl⟩ := Kd.R_slice hrow; replace hG := Aside0.mk (hG.out.step hb3); have c5 := hG.out.b1.cell; have c6 := hG.out.b2.cell; clear hrow hb3))
    go_ret3
    exact ⟨_, _, rfl, Kd.R_nil _ _ _ _ _, Kd.R_nil _ _ _ _ _, hG.out.below⟩
  rw [if_neg hP] at h
  obtain rfl : P = [] := List.eq_nil_of_length_eq_zero (by omega)
  clear hP hopl
  have hfr := Aside0.mk (show nodes_Free.f l0 = some ((posT freeP l0).length : Int) from rfl)
  by_cases hF : ((posT freeP l0).length : Int) < a2
  · rw [if_pos hF] at h
    obtain ⟨rfl, h2⟩ := Prod.mk.inj h
    obtain ⟨rfl, rfl⟩ := Prod.mk.inj h2
    clear h h2
    generalize ((posT freeP l0).length : Int) = F at hfr hF
    go_enter Try.func8, Try.ntmps8
    go_upto_region 5 with (first
      | (go_at_call 12; (refine (nodes_Check.calls _ _ l0 _ _ (Kd.C_below HR.out hG.out.below) HC.out HE.out).mono ?_); rintro e w1 ⟨rfl, hb1⟩; replace hG := Aside0.mk (hG.out.step hb1); have c1 := hG.out.b1.cell; have c2 := hG.out.b2.cell; clear hb1)
      | (go_at_call 27; (refine (nodes_job.calls _ _ _ HJ.out).mono ?_); rintro e w2 ⟨rfl, hd2⟩; replace hG := Aside0.mk (hG.out.step (node_drawn hd2)); have c3 := hG.out.b1.cell; have c4 := hG.out.b2.cell; clear hd2)
      | (go_at_call 10; (refine (nodes_Of.calls _ _ l0 a1 _ _ (Kd.C_below HR.out hG.out.below) HC.out hof.out).mono ?_); rintro e w3 ⟨v0, rfl, hrow, hb3⟩; obtain ⟨Ao, co, rfl⟩ := Kd.R_slice hrow; replace hG := Aside0.mk (hG.out.step hb3); have c5 := hG.out.b1.cell; have c6 := hG.out.b2.cell; clear hrow hb3))
    go_region_held3 (fun w' => w'.cell? ⟨w.heap.size + 1, 0, none⟩ = some (.int .i64 a2)) (first | assumption) (first | (go_at_call 11; (refine (nodes_Free.calls _ _ l0 _ _ (Kd.C_below HR.out hG.out.drew.below) HC.out hfr.out).mono ?_); rintro e w4 ⟨rfl, hb4⟩; replace hG := Aside0.mk (hG.out.drew.step hb4); have c7 := hG.out.b1.cell; have c8 := hG.out.b2.cell; clear hb4))
    go_wp2
    go_ret3
    exact ⟨_, _, rfl, Kd.R_nil _ _ _ _ _, Kd.R_nil _ _ _ _ _, hG.out.below⟩
  rw [if_neg hF] at h
  obtain ⟨rfl, h2⟩ := Prod.mk.inj h
  obtain ⟨rfl, rfl⟩ := Prod.mk.inj h2
  clear h h2
  have hlenF := Aside0.mk (posT_length freeP l0)
  have hrng := Aside0.mk (fun x => @posT_rng freeP l0 x)
  have hmf : ∀ (fn : Fn) (first cap : Array Value) (w : World), (Instr.makeFunc fn first cap).run Try.prog w = .ok (.func fn first cap) w := fun _ _ _ _ => rfl
  have hu := Try.underlying35
  refine (callsIn_wide (n := 9)).1 (callsIn_of_wp_marks Try.func8 rfl trivial ?_ rfl)
  simp only [Try.ntmps8, List.size_toArray, List.length_cons, List.length_nil, Nat.reduceAdd, Nat.reduceSub, Array.replicate_succ, Array.replicate_zero, List.push_toArray, List.append_toArray, List.nil_append, List.cons_append]
  gi_wp2_with (first
    | (refine ⟨trivial, ?_⟩; gi_at_call 12; (refine (callsIn_wide.2 (nodes_Check.calls _ _ l0 _ _ (Kd.C_below HR.out hG.out.below) HC.out HE.out)).mono ?_); rintro e w1 ⟨rfl, hb1⟩; replace hG := Aside0.mk (hG.out.step hb1); have c1 := hG.out.b1.cell; have c2 := hG.out.b2.cell; clear hb1)
    | (refine ⟨trivial, ?_⟩; gi_at_call 27; (refine (callsIn_wide.2 (nodes_job.calls _ _ _ HJ.out)).mono ?_); rintro e w2 ⟨rfl, hd2⟩; replace hG := Aside0.mk (hG.out.step (node_drawn hd2)); have c3 := hG.out.b1.cell; have c4 := hG.out.b2.cell; clear hd2)
    | (refine ⟨trivial, ?_⟩; gi_at_call 10; (refine (callsIn_wide.2 (nodes_Of.calls _ _ l0 a1 _ _ (Kd.C_below HR.out hG.out.below) HC.out hof.out)).mono ?_); rintro e w3 ⟨v0, rfl, hrow, hb3⟩; obtain ⟨Ao, co, rfl⟩ := Kd.R_slice hrow; replace hG := Aside0.mk (hG.out.step hb3); have c5 := hG.out.b1.cell; have c6 := hG.out.b2.cell; clear hrow hb3))
  refine wpIn_wide.2 ?_
  go_region_held3 (fun w' => w'.cell? ⟨w.heap.size + 1, 0, none⟩ = some (.int .i64 a2)) (first | assumption) (first | (go_at_call 11; (refine (nodes_Free.calls _ _ l0 _ _ (Kd.C_below HR.out hG.out.drew.below) HC.out hfr.out).mono ?_); rintro e w4 ⟨rfl, hb4⟩; replace hG := Aside0.mk (hG.out.drew.step hb4); have c7 := hG.out.b1.cell; have c8 := hG.out.b2.cell; clear hb4))
  gi_wp2_with (first
    | (refine ⟨trivial, ?_⟩; gi_at_call 28; (refine (callsIn_wide.2 (nodes_Clone_own _ _ l0 _ (Kd.C_below HR.out hG.out.below) HC.out hlen.1 hlen.2)).mono ?_); rintro e w5 ⟨g, cap, rfl, hrow, hb5⟩; have hgl := Aside0.mk (Kd.R_own hrow); have hgw := Aside0.mk (show w.heap.size + 2 ≤ g from Nat.le_trans hG.out.b2.lt (Kd.R_base hrow g (by simp [Value.ownBlock]))); replace hrow := Aside0.mk (Kd.R_lower hrow hG.out.below.size); replace hG := Aside0.mk (hG.out.step hb5); clear hb5; obtain ⟨S, hS⟩ : ∃ S, w5.heap.size = S := ⟨_, rfl⟩)
    | (refine ⟨trivial, ?_⟩; gi_at_call 29; refine (callsIn_wide.2 (nodes_places_calls _ _ rfl rfl _)).mono ?_; rintro e w3 ⟨rfl, rfl⟩; skip))
  have hS2 : w.heap.size + 2 ≤ S := by have := hG.out.b2.lt; omega
  have hgS : g < S := by obtain ⟨inner, ho⟩ := hgl.out; have := (ho.lt g (by simp [Value.ownBlock])).2; omega
  have hg2 : w.heap.size + 2 ≤ g := hgw.out
  have c9 : Below w5.heap.size w5 ((((w5.alloc (Obj.cells #[Value.slice (some { block := g, off := 0 }) l0.length cap] 22)).alloc (Obj.cells #[Value.slice none 0 0] 26)).alloc (Obj.cells #[Value.slice A0 l0.length c0] 22)).alloc (Obj.cells #[Value.func (Fn.func 30) #[] #[]] 58)) :=
    ((((Below.refl _ w5).alloc (Nat.le_refl _) _).alloc (by simp) _).alloc (by simp; omega) _).alloc (by simp; omega) _
  have d1 : Boxed ((((w5.alloc (Obj.cells #[Value.slice (some { block := g, off := 0 }) l0.length cap] 22)).alloc (Obj.cells #[Value.slice none 0 0] 26)).alloc (Obj.cells #[Value.slice A0 l0.length c0] 22)).alloc (Obj.cells #[Value.func (Fn.func 30) #[] #[]] 58)) S 22 (.slice (some ⟨g, 0, none⟩) l0.length cap) := by
    rw [← hS]; exact (((Boxed.new w5 _ _).alloc _).alloc _).alloc _
  have d2 : Boxed ((((w5.alloc (Obj.cells #[Value.slice (some { block := g, off := 0 }) l0.length cap] 22)).alloc (Obj.cells #[Value.slice none 0 0] 26)).alloc (Obj.cells #[Value.slice A0 l0.length c0] 22)).alloc (Obj.cells #[Value.func (Fn.func 30) #[] #[]] 58)) (S + 1) 26 (.slice none 0 0) := by
    have := ((Boxed.new (w5.alloc (Obj.cells #[Value.slice (some { block := g, off := 0 }) l0.length cap] 22)) 26 (.slice none 0 0)).alloc (Obj.cells #[Value.slice A0 l0.length c0] 22)).alloc (Obj.cells #[Value.func (Fn.func 30) #[] #[]] 58)
    rwa [World.size_alloc, hS] at this
  have d3 : BoxN ((((w5.alloc (Obj.cells #[Value.slice (some { block := g, off := 0 }) l0.length cap] 22)).alloc (Obj.cells #[Value.slice none 0 0] 26)).alloc (Obj.cells #[Value.slice A0 l0.length c0] 22)).alloc (Obj.cells #[Value.func (Fn.func 30) #[] #[]] 58)) (S + 1 + 1) 22 [.slice A0 l0.length c0] := by
    have := (BoxN.new ((w5.alloc (Obj.cells #[Value.slice (some { block := g, off := 0 }) l0.length cap] 22)).alloc (Obj.cells #[Value.slice none 0 0] 26)) 22 [.slice A0 l0.length c0]).alloc (Obj.cells #[Value.func (Fn.func 30) #[] #[]] 58)
    rwa [World.size_alloc, World.size_alloc, hS] at this
  have d4 : BoxN ((((w5.alloc (Obj.cells #[Value.slice (some { block := g, off := 0 }) l0.length cap] 22)).alloc (Obj.cells #[Value.slice none 0 0] 26)).alloc (Obj.cells #[Value.slice A0 l0.length c0] 22)).alloc (Obj.cells #[Value.func (Fn.func 30) #[] #[]] 58)) (S + 1 + 1 + 1) 58 [.func (.func 30) #[] #[]] := by
    have := BoxN.new (((w5.alloc (Obj.cells #[Value.slice (some { block := g, off := 0 }) l0.length cap] 22)).alloc (Obj.cells #[Value.slice none 0 0] 26)).alloc (Obj.cells #[Value.slice A0 l0.length c0] 22)) 58 [.func (.func 30) #[] #[]]
    rwa [World.size_alloc, World.size_alloc, World.size_alloc, hS] at this
  have d5 : ((((w5.alloc (Obj.cells #[Value.slice (some { block := g, off := 0 }) l0.length cap] 22)).alloc (Obj.cells #[Value.slice none 0 0] 26)).alloc (Obj.cells #[Value.slice A0 l0.length c0] 22)).alloc (Obj.cells #[Value.func (Fn.func 30) #[] #[]] 58)).heap.size = S + 4 := by simp [hS]
  generalize ((((w5.alloc (Obj.cells #[Value.slice (some { block := g, off := 0 }) l0.length cap] 22)).alloc (Obj.cells #[Value.slice none 0 0] 26)).alloc (Obj.cells #[Value.slice A0 l0.length c0] 22)).alloc (Obj.cells #[Value.func (Fn.func 30) #[] #[]] 58)) = Wr at *
  have hI0 : GiveI w S g cap l0 a1 a2 [] Wr := ⟨hG.out.step c9, node_move hrow.out (c9.block g (by omega)), d1, none, 0, d2, World.ownsRow_nil _ _ _ _⟩
  have hWb : Below w.heap.size w Wr := hI0.G.below
  clear c1 c2 c3 c4 c5 c6 c7 c8
  obtain ⟨i0, hi, hz0, hz1, hz2⟩ := info_parts (P := Try.prog) (e := 3) (z := .int .i64 0) (size := 1) (bytes := 8) (by kernel_rfl)
  replace hi := Aside0.mk hi
  replace hz0 := Aside0.mk hz0
  replace hz1 := Aside0.mk hz1
  replace hz2 := Aside0.mk hz2
  refine wpIn_range (n := 9) (w := Wr) rfl (by omega) (gf := 43) (lb := #[.pointer (some ⟨S + 1 + 1, 0, none⟩), .pointer (some ⟨S + 1 + 1 + 1, 0, none⟩)]) rfl trivial (enters_of Try.func43 (by kernel_rfl) rfl)
    (nodes_places_seq w A0 c0 l0 freeP 30 #[] (S + 1 + 1) (S + 1 + 1 + 1) (fun k => k < w.heap.size ∨ k = S + 2 ∨ k = S + 3) Wr HR.out HC.out hWb d3 d4 (fun k hk => .inl hk) (.inr (.inl rfl)) (.inr (.inr rfl)) (enters_of Try.func30 (by kernel_rfl) rfl) (fun x W hk => by simpa using nodes_free.calls x.f0 x.f1 x.f2 _ W (free_eq x))) (fun k hk => hk.elim) (fun k hk => by omega) (fun _ => rfl)
    (fun pre W => GiveI w S g cap l0 a1 a2 pre W ∧ (pre.length : Int) ≤ a2)
    (fun c s W => c = .exit 1 ∧ ∃ pre x, s = pre ++ [x] ∧ GiveI w S g cap l0 a1 a2 pre W ∧ (pre.length : Int) = a2)
    (by
      rintro s A B ⟨h1, h2⟩ hk
      exact ⟨h1.keep hk hgS hS2 (fun k h4 h5 => ⟨not_false, by omega, by omega⟩), h2⟩)
    (by
      rintro c s A B ⟨h1, pre, x, h2, h3, h4⟩ hk
      exact ⟨h1, pre, x, h2, h3.keep hk hgS hS2 (fun k h4 h5 => ⟨not_false, by omega, by omega⟩), h4⟩)
    ⟨hI0, by simp; omega⟩
    (fun pre x a' W => (GiveI w S g cap l0 a1 a2 pre W ∧ (pre.length : Int) ≤ a2) ∧ S + 6 ≤ W.heap.size ∧ 
      a' = { tmps := #[Value.slice A0 l0.length c0, Value.int IntKind.i64 a1, Value.int IntKind.i64 a2, undef,
          Value.pointer (some { block := w.heap.size, off := 0 }),
          Value.pointer (some { block := w.heap.size + 1, off := 0 }), Value.slice none 0 0, Value.slice none 0 0,
          Value.int IntKind.i64 0, Value.pointer (some { block := S, off := 0 }),
          Value.pointer (some { block := S + 1, off := 0 }), Value.int IntKind.i64 x,
          Value.bool (decide (a2 < 1) || decide (64 < a2)), Value.slice A0 l0.length c0, Value.int IntKind.i64 0,
          Value.bool false, Value.bool false, Value.int IntKind.i64 a1, Value.bool true, Value.bool false,
          Value.bool false, Value.bool false, Value.int IntKind.i64 a2, Value.bool (decide (a2 < 1)),
          Value.bool (decide (a2 < 1)), Value.bool (decide (a2 < 1)), Value.int IntKind.i64 a2,
          Value.bool (decide (64 < a2)), Value.bool (decide (a2 < 1) || decide (64 < a2)), Value.bool false,
          Value.slice A0 l0.length c0, Value.int IntKind.i64 a1, Value.slice Ao 0 co, Value.int IntKind.i64 0,
          Value.bool false, Value.bool (decide (↑(posT freeP l0).length < a2)), Value.slice A0 l0.length c0,
          Value.int IntKind.i64 ↑(posT freeP l0).length, Value.int IntKind.i64 a2,
          Value.bool (decide (↑(posT freeP l0).length < a2)), Value.slice A0 l0.length c0,
          Value.slice (some { block := g, off := 0 }) l0.length cap, Value.slice A0 l0.length c0,
          Value.func (Fn.func 43) #[] #[Value.pointer (some { block := S + 1 + 1, off := 0 }), Value.pointer (some { block := S + 1 + 1 + 1, off := 0 })],
          Value.int IntKind.i64 x, undef, undef, undef, undef, undef, undef, undef, undef, undef, undef, undef, undef, undef, undef, undef], defers := [] })
    (by
      rintro pre x a' A B ⟨⟨h1, h2⟩, h5, h6⟩ hk
      exact ⟨⟨h1.keep hk hgS hS2 (fun k h4 h5 => by omega), h2⟩, Nat.le_trans h5 hk.size, h6⟩)
    ?assign ?body ?done ?stop
  case assign =>
    rintro pre x W hi hpre hsz
    simp only [encPos]
    gi_wp2
    exact ⟨Keeps.refl _ W, hi, by omega, by first | rfl | trivial⟩
  case body =>
    rintro pre x a' W hpre hrec ⟨⟨hI, hpm⟩, hsz, rfl⟩
    obtain ⟨hx0, hx1⟩ := hrng.out x (hpre.subset (by simp))
    have hb2 := hI.G.b2.cell
    obtain ⟨A, c, hv, hrow1⟩ := hI.bg
    have hc1 := hv.cell
    by_cases hfull : (pre.length : Int) = a2
    · have HI := Aside0.mk hI
      clear hI
      gi_wp2
      exact ⟨Keeps.refl _ W, rfl, pre, x, rfl, HI.out, hfull⟩
    · obtain ⟨j, rfl⟩ := Int.eq_ofNat_of_zero_le hx0
      have hj : j < l0.length := by omega
      have hjL : j < (giveL l0 a1 pre).length := by rw [giveL_len]; exact hj
      have hb1 := hI.G.b1.cell
      have hbo := hI.bo.cell
      obtain ⟨k0, k1', k2, kf⟩ := node_cells hI.row j hjL
      have kf2 : W.frozen? ⟨g, j * 3 + 2, none⟩ = false := kf 2
      clear kf
      have hput := Aside0.mk (node_put hI.row j 2 hjL (by decide) (.int .i64 a1) ⟨((giveL l0 a1 pre).getD j z35).f0, ((giveL l0 a1 pre).getD j z35).f1, a1⟩ rfl)
      have hk1 : Keeps (fun k => k ≠ g) W (W.setCell ⟨g, j * 3 + 2, none⟩ (.int .i64 a1)) := (Keeps.refl _ W).setCell _ (fun h => h.2 rfl)
      have hv1 : Boxed (W.setCell ⟨g, j * 3 + 2, none⟩ (.int .i64 a1)) (S + 1) 26 (.slice A pre.length c) := hk1.boxed hv (by omega)
      have hr1 := hk1.row hrow1 (fun k hk => by omega)
      have hcv := hv1.cell
      have hfv := hv1.frozen
      have hpl : pre.length + 1 ≤ 64 := by
        have := (List.IsPrefix.length_le hpre)
        simp at this
        have := hlenF.out
        omega
      have hml : (64 : Nat) ≤ maxLen := by decide
      replace hpre := Aside0.mk hpre
      have HI := Aside0.mk hI
      replace hrow1 := Aside0.mk hrow1
      have HK1 := Aside0.mk hk1
      have hlv : (Builtin.len_ #[26] 3 #[.slice A pre.length c]).run Try.prog W = .ok (.int .i64 (pre.length : Int)) W := by first | rfl | simp [Builtin.len_, go_sem]
      clear hI hk1
      obtain ⟨v, hvv⟩ : ∃ v, Value.slice A pre.length c = v := ⟨_, rfl⟩
      rw [hvv] at hlv hv hrow1 hc1 hv1 hr1 hcv
      clear hvv
      have hnew := cell_one_new (W.setCell ⟨g, j * 3 + 2, none⟩ (.int .i64 a1)) (Value.int .i64 (j : Int)) 3
      rw [show (W.setCell ⟨g, j * 3 + 2, none⟩ (.int .i64 a1)).heap.size = W.heap.size by simp] at hnew
      gi_wp2_with (gi_at_builtin; refine wpListIn_append_own _ rfl _ _ 26 rfl (S + 6) 3 i0 (.int .i64 0) 1 8 Try.underlying26 hi.out hz0.out hz1.out hz2.out rfl (by decide) _ _ _ rfl (hr1.alloc _) ⟨W.heap.size, 0, none⟩ 1 1 [Value.int .i64 (j : Int)] rfl rfl hnew (by simp [Value.oneCell']) (by omega) (by omega) (by simp; omega) ?_; intro v' w1 hown' hgrow _; obtain ⟨g', cap', rfl⟩ := ownsRow_succ hown'; have hv2 : Boxed w1 (S + 1) 26 v := (hv1.alloc _).kept hgrow (not_own hr1 (by omega)); have hcw := hv2.cell; have hfw := hv2.frozen; skip)
      have hk2 : Keeps (fun k => k < S + 6 ∧ k ≠ S + 1 ∧ k ≠ g) W (w1.setCell ⟨S + 1, 0, none⟩ (Value.slice (some ⟨g', 0, none⟩) (pre.length + 1) cap')) :=
        ((((HK1.out.mono (fun k _ h => h.2.2)).alloc _).grown hgrow (fun k e h => by have := (hr1.lt k (show v.ownBlock = some k from e)).1; omega))).setCell _ (fun h => h.2.2.1 rfl)
      have hk3 : Keeps (fun k => k ≠ S + 1) w1 (w1.setCell ⟨S + 1, 0, none⟩ (Value.slice (some ⟨g', 0, none⟩) (pre.length + 1) cap')) := (Keeps.refl _ w1).setCell _ (fun h => h.2 rfl)
      have hr2 := hk3.row hown' (fun k hk => by omega)
      have hv3 := hv2.set (Value.slice (some ⟨g', 0, none⟩) (pre.length + 1) cap')
      have hg1 : w1.heap[g]? = (W.setCell ⟨g, j * 3 + 2, none⟩ (.int .i64 a1)).heap[g]? := (((Keeps.refl (fun k => k < S + 6) (W.setCell ⟨g, j * 3 + 2, none⟩ (.int .i64 a1))).alloc _).grown hgrow (fun k e h => by have := (hr1.lt k (show v.ownBlock = some k from e)).1; omega)).block g (Kd.R_lt hput.out g (by simp [Value.ownBlock])) (by omega)
      refine ⟨hk2.mono (fun k _ h => by omega), ⟨HI.out.G.keep hk2 (fun k hl => by omega), ?_, hk2.boxed HI.out.bo (by omega), ⟨some ⟨g', 0, none⟩, cap', ?_, ?_⟩⟩, ?_⟩
      · rw [giveL_snoc]
        exact node_move hput.out ((hk3.block g (Nat.lt_of_lt_of_le (Kd.R_lt hput.out g (by simp [Value.ownBlock])) (Nat.le_trans (by simp) hgrow.size)) (by omega)).trans hg1)
      · rw [List.length_append, List.length_singleton]
        exact hv3
      · rw [nums_append, List.length_append, List.length_singleton]
        exact hr2
      · rw [List.length_append, List.length_singleton]
        omega
  case done =>
    rintro xs W hsz rfl ⟨hI, hpm⟩ hW
    have hT : (posT freeP l0).take a2.toNat = posT freeP l0 := List.take_of_length_le (by omega)
    replace hT := Aside0.mk hT
    obtain ⟨A, c, hv, hrow1⟩ := hI.bg
    have hc1 := hv.cell
    have hbo := hI.bo.cell
    have HI := Aside0.mk hI
    clear hI
    gi_wp2
    refine wpIn_wide.2 ?_
    go_quiet (fail)
    gi_wp2
    refine ⟨by simp, .inl ⟨_, _, rfl, run_takeDeferred (show (W.drewN _).heap[Wr.heap.size]? = _ from hW), ?_⟩⟩
    refine ⟨.tuple #[.slice (some ⟨g, 0, none⟩) l0.length cap, .slice A (posT freeP l0).length c, .int .i64 0], by simp [results, Try.f8, go_sem], _, _, rfl, ?_⟩
    rw [hT.out]
    have hk : Keeps (fun k => k ≠ Wr.heap.size) W ((W.drewN nq).putObj Wr.heap.size (.deferred none)) := ((Keeps.refl (fun k => k ≠ Wr.heap.size) W).drewN nq).putObj _ (fun h => h.2 rfl)
    have hI2 := HI.out.keep hk hgS hS2 (fun k h4 h5 => by omega)
    obtain ⟨A', c', hv', hrow'⟩ := hI2.bg
    exact ⟨hI2.row, Kd.R_of_own (own_weaken (hk.row hrow1 (fun k hk => by omega)) (by omega)) (fun _ _ => trivial), hI2.G.below⟩
  case stop =>
    rintro c0' s W hsz hpre ⟨rfl, pre, x, rfl, hI, hpm⟩ hW
    have hT : (posT freeP l0).take a2.toNat = pre := by
      obtain ⟨t, ht⟩ := hpre
      rw [← ht, show a2.toNat = pre.length by omega, List.append_assoc, List.take_left]
    replace hT := Aside0.mk hT
    obtain ⟨A, c, hv, hrow1⟩ := hI.bg
    have hc1 := hv.cell
    have hbo := hI.bo.cell
    have HI := Aside0.mk hI
    clear hI
    gi_wp2
    refine wpIn_wide.2 ?_
    go_quiet (fail)
    gi_wp2
    refine ⟨by simp, .inl ⟨_, _, rfl, run_takeDeferred (show (W.drewN _).heap[Wr.heap.size]? = _ from hW), ?_⟩⟩
    refine ⟨.tuple #[.slice (some ⟨g, 0, none⟩) l0.length cap, .slice A pre.length c, .int .i64 0], by simp [results, Try.f8, go_sem], _, _, rfl, ?_⟩
    rw [hT.out]
    have hk : Keeps (fun k => k ≠ Wr.heap.size) W ((W.drewN nq).putObj Wr.heap.size (.deferred none)) := ((Keeps.refl (fun k => k ≠ Wr.heap.size) W).drewN nq).putObj _ (fun h => h.2 rfl)
    have hI2 := HI.out.keep hk hgS hS2 (fun k h4 h5 => by omega)
    obtain ⟨A', c', hv', hrow'⟩ := hI2.bg
    exact ⟨hI2.row, Kd.R_of_own (own_weaken (hk.row hrow1 (fun k hk => by omega)) (by omega)) (fun _ _ => trivial), hI2.G.below⟩

/-! ### nodes_Fail: function 15 -/
def failR (l : List S35) (i : Int) : List S35 × Int × Int :=
  ((turnR (fun x => x.f0) (fun x => ⟨false, x.f1, 0⟩) l i).1, if (turnR (fun x => x.f0) (fun x => ⟨false, x.f1, 0⟩) l i).2 = 0 then (l.getD i.toNat z35).f2 else 0, (turnR (fun x => x.f0) (fun x => ⟨false, x.f1, 0⟩) l i).2)
def nodes_Fail.f (l : List S35) (i : Int) : Option (List S35 × Int × Int) := some (failR l i)
set_option maxHeartbeats 2000000 in
theorem fail_1.calls (w0 : World) (dx : Nat) (hx : Boxed w0 dx 2 (.int .i64 0)) (W : World) (base g n cap : Nat) (xs : List S35) (j : Nat) (hB : Below w0.heap.size w0 W) (hg : w0.heap.size ≤ g) (hj : j < xs.length) (h : NodeRow W base g n cap xs) :
    Calls Try.prog 36 (#[.pointer (some ⟨g, j * 3, none⟩)] ++ #[.pointer (some ⟨dx, 0, none⟩)]) W fun e W' => e = .returned (.bool ((fun x : S35 => x.f0) (xs.getD j z35))) ∧ NodeRow W' base g n cap (xs.set j ((fun x : S35 => (⟨false, x.f1, 0⟩ : S35)) (xs.getD j z35))) ∧ Keeps (fun k => k ≠ g ∧ ¬ k = dx) W W' ∧ (fun (x : S35) (W' : World) => Boxed W' dx 2 (.int .i64 x.f2)) (xs.getD j z35) W' := by
  have hdx : dx < w0.heap.size := hx.lt
  have hxW : Boxed W dx 2 (.int .i64 0) := Boxed.below' hx hB hdx
  have hne : g ≠ dx := by omega
  have hne' : dx ≠ g := by omega
  obtain ⟨k0, k1, k2, kf⟩ := node_cells h j hj
  have kf0 : W.frozen? ⟨g, j * 3, none⟩ = false := kf 0
  have kf2 : W.frozen? ⟨g, j * 3 + 2, none⟩ = false := kf 2
  clear kf
  have hc := hxW.cell
  have hf := hxW.frozen
  obtain ⟨x, hxe⟩ : ∃ x, xs.getD j z35 = x := ⟨_, rfl⟩
  have h1 : NodeRow (((W.setCell ⟨dx, 0, none⟩ (.int .i64 x.f2)).setCell ⟨g, j * 3, none⟩ (.bool false)).setCell ⟨g, j * 3 + 2, none⟩ (.int .i64 0)) base g n cap (xs.set j ⟨false, x.f1, 0⟩) := by
    have e0 := Kd.R_set h hxW (by decide) 0 (.int .i64 x.f2)
    have e1 := node_put e0 j 0 hj (by decide) (.bool false) ⟨false, x.f1, x.f2⟩ (by rw [hxe]; rfl)
    have e2 := node_put e1 j 2 (by rw [List.length_set]; exact hj) (by decide) (.int .i64 0) ⟨false, x.f1, 0⟩ (by rw [List.getD_eq_getElem?_getD, List.getElem?_set_self hj]; rfl)
    rw [List.set_set] at e2
    exact e2
  have h2 : Keeps (fun k => k ≠ g ∧ ¬ k = dx) W (((W.setCell ⟨dx, 0, none⟩ (.int .i64 x.f2)).setCell ⟨g, j * 3, none⟩ (.bool false)).setCell ⟨g, j * 3 + 2, none⟩ (.int .i64 0)) :=
    (((Keeps.refl _ W).setCell _ (fun e => e.2.2 rfl)).setCell _ (fun e => e.2.1 rfl)).setCell _ (fun e => e.2.1 rfl)
  have h3 : Boxed (((W.setCell ⟨dx, 0, none⟩ (.int .i64 x.f2)).setCell ⟨g, j * 3, none⟩ (.bool false)).setCell ⟨g, j * 3 + 2, none⟩ (.int .i64 0)) dx 2 (.int .i64 x.f2) := by
    have e1 := hxW.set (.int .i64 x.f2)
    have e2 : Keeps (fun k => k ≠ g) (W.setCell ⟨dx, 0, none⟩ (.int .i64 x.f2)) (((W.setCell ⟨dx, 0, none⟩ (.int .i64 x.f2)).setCell ⟨g, j * 3, none⟩ (.bool false)).setCell ⟨g, j * 3 + 2, none⟩ (.int .i64 0)) :=
      ((Keeps.refl (fun k => k ≠ g) _).setCell (p := ⟨g, j * 3, none⟩) _ (fun e => e.2 rfl)).setCell (p := ⟨g, j * 3 + 2, none⟩) _ (fun e => e.2 rfl)
    exact e2.boxed e1 hne'
  rw [hxe] at k0 k1 k2 ⊢
  replace h1 := Aside0.mk h1
  replace h2 := Aside0.mk h2
  replace h3 := Aside0.mk h3
  clear h hB hx hxW hxe hj
  go_enter Try.func36, Try.ntmps36
  go_wp2
  go_ret
  exact ⟨rfl, h1.out, h2.out, h3.out⟩
theorem turnR_none {dp : S35 → Bool} {ds : S35 → S35} {l : List S35} {i : Int} (h : ¬ (turnR dp ds l i).2 = 0) : (turnR dp ds l i).1 = [] := by
  unfold turnR at h ⊢
  by_cases h1 : okNodes l = true
  · rw [if_pos h1] at h ⊢
    by_cases h2 : 0 ≤ i ∧ i < (l.length : Int)
    · rw [if_pos h2] at h ⊢
      by_cases h3 : dp (l.getD i.toNat z35) = true
      · rw [if_pos h3] at h; exact absurd rfl h
      · rw [if_neg h3]
    · rw [if_neg h2]
  · rw [if_neg h1]
set_option maxHeartbeats 4000000 in
theorem nodes_Fail.calls (A0 : Option Addr) (c0 : Nat) (l0 : List S35) (a1 : Int) (r1 : List S35) (r2 r3 : Int) (w : World) (hr0 : Kd.C k35 w A0 l0.length l0) (hc0 : l0.length ≤ c0) (h : nodes_Fail.f l0 a1 = some (r1, r2, r3)) :
    Calls Try.prog 15 #[.slice A0 l0.length c0, .int .i64 a1] w fun e w' => ∃ v0_ : Value, e = .returned (.tuple #[v0_, .int .i64 r2, .int .i64 r3]) ∧ Kd.R k35 35 w' w.heap.size (fun _ => True) v0_ r1 ∧ Below w.heap.size w w' := by
  have h := Option.some.inj h
  unfold failR at h
  injection h with h1 h
  injection h with h2 h3
  have hbw : Boxed (w.alloc (.cells #[.int .i64 0] 2)) w.heap.size 2 (.int .i64 0) := Boxed.new w _ _
  have hb0 : Below w.heap.size w (w.alloc (.cells #[.int .i64 0] 2)) := (Below.refl _ _).alloc (Nat.le_refl _) _
  have hturn := Aside0.mk (nodes_turn_own A0 c0 l0 a1 36 #[.pointer (some ⟨w.heap.size, 0, none⟩)] (fun x => x.f0) (fun x => ⟨false, x.f1, 0⟩) (fun k => k = w.heap.size) (fun x W' => Boxed W' w.heap.size 2 (.int .i64 x.f2)) (w.alloc (.cells #[.int .i64 0] 2))
    (Kd.C_below hr0 hb0) hc0 (enters_of Try.func36 (by kernel_rfl) rfl) (fun W base g n cap xs j hB hg hj h => fail_1.calls _ _ hbw W base g n cap xs j hB hg hj h))
  have hnone := Aside0.mk (@turnR_none (fun x => x.f0) (fun x => ⟨false, x.f1, 0⟩) l0 a1)
  generalize turnR (fun x => x.f0) (fun x => ⟨false, x.f1, 0⟩) l0 a1 = rt at h1 h2 h3 hturn hnone
  obtain ⟨rl, re⟩ := rt
  dsimp only at h1 h2 h3
  subst h1
  subst h3
  have hbb : ∀ {w' : World}, Keeps (fun k => k < (w.alloc (.cells #[.int .i64 0] 2)).heap.size ∧ ¬ k = w.heap.size) (w.alloc (.cells #[.int .i64 0] 2)) w' → Below w.heap.size w w' := fun {w'} hk =>
    hb0.trans (hk.below hb0.size (fun k hk => ⟨Nat.lt_of_lt_of_le hk hb0.size, by omega⟩))
  have hbs := hb0.size
  replace hbb := Aside0.mk @hbb
  clear hbw hb0 hr0
  by_cases he : re = 0
  · subst he
    rw [if_pos rfl] at h2
    subst h2
    have hmf : ∀ (fn : Fn) (first cap : Array Value) (w : World), (Instr.makeFunc fn first cap).run Try.prog w = .ok (.func fn first cap) w := fun _ _ _ _ => rfl
    go_enter Try.func15, Try.ntmps15
    go_upto_region 5 with (go_at_call 35; refine hturn.out.mono ?_; rintro e w1 ⟨v0, rfl, hrow, hk, hpost⟩; have hp := hpost rfl; have hc := hp.cell; replace hrow := Aside0.mk hrow; replace hk := Aside0.mk hk; clear hpost)
    go_quiet (fail)
    go_wp2
    go_ret3
    exact ⟨_, rfl, Kd.R_lower (Kd.R_drewN hrow.out _) hbs, hbb.out (hk.out.drewN _)⟩
  · rw [if_neg he] at h2
    subst h2
    have hl := hnone.out he
    subst hl
    have hmf : ∀ (fn : Fn) (first cap : Array Value) (w : World), (Instr.makeFunc fn first cap).run Try.prog w = .ok (.func fn first cap) w := fun _ _ _ _ => rfl
    go_enter Try.func15, Try.ntmps15
    go_wp2_with (go_at_call 35; refine hturn.out.mono ?_; rintro e w1 ⟨v0, rfl, hrow, hk, hpost⟩; replace hk := Aside0.mk hk; clear hpost hrow)
    go_ret3
    exact ⟨_, rfl, Kd.R_nil _ _ _ _ _, hbb.out hk.out⟩

/-! ### nodes_Up: function 25 -/
def nodes_Up.f (l : List S35) (i : Int) : Option (List S35 × Int) := some (turnR (fun x => !x.f0) (fun x => ⟨true, x.f1, x.f2⟩) l i)
set_option maxHeartbeats 2000000 in
theorem up_1.calls (W : World) (base g n cap : Nat) (xs : List S35) (j : Nat) (hj : j < xs.length) (h : NodeRow W base g n cap xs) :
    Calls Try.prog 41 (#[.pointer (some ⟨g, j * 3, none⟩)] ++ #[]) W fun e W' => e = .returned (.bool ((fun x : S35 => !x.f0) (xs.getD j z35))) ∧ NodeRow W' base g n cap (xs.set j ((fun x : S35 => (⟨true, x.f1, x.f2⟩ : S35)) (xs.getD j z35))) ∧ Keeps (fun k => k ≠ g ∧ ¬ False) W W' ∧ (fun (_ : S35) (_ : World) => True) (xs.getD j z35) W' := by
  obtain ⟨k0, k1, k2, kf⟩ := node_cells h j hj
  have kf0 : W.frozen? ⟨g, j * 3, none⟩ = false := kf 0
  clear kf
  obtain ⟨x, hxe⟩ : ∃ x, xs.getD j z35 = x := ⟨_, rfl⟩
  have h1 : NodeRow (W.setCell ⟨g, j * 3, none⟩ (.bool true)) base g n cap (xs.set j ⟨true, x.f1, x.f2⟩) := node_put h j 0 hj (by decide) (.bool true) ⟨true, x.f1, x.f2⟩ (by rw [hxe]; rfl)
  have h2 : Keeps (fun k => k ≠ g ∧ ¬ False) W (W.setCell ⟨g, j * 3, none⟩ (.bool true)) := (Keeps.refl _ W).setCell _ (fun e => e.2.1 rfl)
  rw [hxe] at k0 k1 k2 ⊢
  replace h1 := Aside0.mk h1
  replace h2 := Aside0.mk h2
  clear h hxe hj
  go_enter Try.func41, Try.ntmps41
  go_wp2
  go_ret
  exact ⟨rfl, h1.out, h2.out, trivial⟩
set_option maxHeartbeats 4000000 in
theorem nodes_Up.calls (A0 : Option Addr) (c0 : Nat) (l0 : List S35) (a1 : Int) (r1 : List S35) (r2 : Int) (w : World) (hr0 : Kd.C k35 w A0 l0.length l0) (hc0 : l0.length ≤ c0) (h : nodes_Up.f l0 a1 = some (r1, r2)) :
    Calls Try.prog 25 #[.slice A0 l0.length c0, .int .i64 a1] w fun e w' => ∃ v0_ : Value, e = .returned (.tuple #[v0_, .int .i64 r2]) ∧ Kd.R k35 35 w' w.heap.size (fun _ => True) v0_ r1 ∧ Below w.heap.size w w' := by
  have h := Option.some.inj h
  have hturn := Aside0.mk (nodes_turn_own A0 c0 l0 a1 41 #[] (fun x => !x.f0) (fun x => ⟨true, x.f1, x.f2⟩) (fun _ => False) (fun _ _ => True) w
    hr0 hc0 (enters_of Try.func41 (by kernel_rfl) rfl) (fun W base g n cap xs j hB hg hj h => up_1.calls W base g n cap xs j hj h))
  rw [h] at hturn
  clear h hr0
  go_enter Try.func25, Try.ntmps25
  go_wp2_with (go_at_call 35; refine hturn.out.mono ?_; rintro e w1 ⟨v0, rfl, hrow, hk, hpost⟩; replace hrow := Aside0.mk hrow; replace hk := Aside0.mk hk; clear hpost)
  go_ret2
  exact ⟨_, rfl, hrow.out, hk.out.below (Nat.le_refl _) (fun k hk => ⟨hk, not_false⟩)⟩

end Go.Proofs.Ytifebcdkckjphaa.P
