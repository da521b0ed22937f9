-- Written by this session's program gprint.py: functions of the program as plain functions, and that the machine does what they say. Not trusted: Lean checks it.
import Derived.Test.YtifebcdkckjphaaPx0
namespace Go.Proofs.Ytifebcdkckjphaa.P
open Go.RowKit Go.Proofs.YtifebcdkckjphaaW.PrintWords Go.Proofs.YtifebcdkckjphaaW.PrintLast Go.Proofs.YtifebcdkckjphaaW.PrintMore
attribute [local go_sem] max2_int min2_int max_two min_two max_three min_three max_four min_four   -- for this text's walks alone
set_option linter.unusedVariables false
set_option linter.unusedSimpArgs false

/-! ### api_Node_33: function 33 -/
/-- Is it no node that may be? -/
def badN (x : S35) : Bool := decide (x.f2 < 0) || (decide (x.f2 > 1073741824) || (!x.f0 && x.f2 != 0))
/-- A node as a value. -/
def nodeV (x : S35) : Value := .agg #[.bool x.f0, .bool x.f1, .int .i64 x.f2]
set_option maxHeartbeats 1000000 in
theorem check_1.calls (x : S35) (w : World) : Calls Try.prog 34 #[.agg #[.bool x.f0, .bool x.f1, .int .i64 x.f2]] w fun e w' => e = .returned (.bool (badN x)) ∧ Below w.heap.size w w' := by
  have hu := Try.underlying35
  obtain ⟨a, b, c⟩ := x
  by_cases h1 : c < 0
  · have hb : badN ⟨a, b, c⟩ = true := by unfold badN; rw [decide_eq_true h1]; rfl
    rw [hb]
    go_enter Try.func34, Try.ntmps34
    go_wp2
    go_ret
    exact ⟨rfl, (Below.refl _ _).alloc (Nat.le_refl _) _⟩
  by_cases h2 : 1073741824 < c
  · have hb : badN ⟨a, b, c⟩ = true := by unfold badN; rw [decide_eq_false h1, decide_eq_true h2]; rfl
    rw [hb]
    go_enter Try.func34, Try.ntmps34
    go_wp2
    go_ret
    exact ⟨rfl, (Below.refl _ _).alloc (Nat.le_refl _) _⟩
  have hb : badN ⟨a, b, c⟩ = (!a && c != 0) := by unfold badN; rw [decide_eq_false h1, decide_eq_false h2]; rfl
  rw [hb]
  cases a with
  | true =>
    go_enter Try.func34, Try.ntmps34
    go_wp2
    go_ret
    exact ⟨rfl, (Below.refl _ _).alloc (Nat.le_refl _) _⟩
  | false =>
    go_enter Try.func34, Try.ntmps34
    go_wp2
    go_ret
    exact ⟨rfl, (Below.refl _ _).alloc (Nat.le_refl _) _⟩
set_option maxHeartbeats 4000000 in
theorem index_n.calls (A0 : Option Addr) (c0 : Nat) (l0 : List S35) (w : World) (hr0 : Kd.C k35 w A0 l0.length l0) :
    Calls Try.prog 44 #[.slice A0 l0.length c0, .func (Fn.func 34) #[] #[]] w fun e w' => (∃ n : Int, e = .returned (.int .i64 n) ∧ decide (0 ≤ n) = l0.any badN) ∧ Below w.heap.size w w' := by
  have hu := Try.underlying35
  have HR0 := Aside0.mk hr0
  have hm : l0.length ≤ 9223372036854775807 := hr0.2.1
  clear hr0
  go_enter Try.func44, Try.ntmps44
  go_wp2
  go_loopg [8] l0.length (fun kq v8 w' => ∃ i : Nat, v8 = .int .i64 i ∧ Aside0 (kq + i = l0.length) ∧ Aside0 ((l0.take i).any badN = false) ∧ Aside0 (Below w.heap.size w w'))
  case atStart => exact ⟨0, rfl, ⟨rfl⟩, ⟨rfl⟩, ⟨Below.refl _ _⟩⟩
  case round =>
    obtain ⟨i, rfl, HK, HP, HB⟩ := hrel
    cases gk with
    | zero =>
      have e : i = l0.length := by have := HK.out; omega
      subst e
      go_wp2
      go_ret
      refine ⟨⟨-1, rfl, ?_⟩, HB.out⟩
      have := HP.out
      rw [List.take_length] at this
      rw [this]; rfl
    | succ k1 =>
      have hlt : i < l0.length := by have := HK.out; omega
      obtain ⟨ad, e1, hx0, hx1, hx2⟩ := at_T35 (Kd.C_below HR0.out HB.out) (i : Int) (by omega) (by omega)
      cases e1
      have er : rd_T35 l0 (i : Int) = l0[i] := by simp [rd_T35, List.getD_eq_getElem?_getD, List.getElem?_eq_getElem hlt]
      rw [er] at hx0 hx1 hx2
      clear er
      have HT := Aside0.mk (List.take_succ_eq_append_getElem (l := l0) hlt)
      have HM := Aside0.mk (List.getElem_mem hlt)
      generalize l0[i] = x at *
      simp only [Int.toNat_natCast] at hx0 hx1 hx2
      cases hb : badN x with
      | true =>
        go_wp2_with (go_at_call 34; refine (check_1.calls x _).mono ?_; rintro e w' ⟨rfl, hb1⟩; rw [hb]; replace hb1 := Aside0.mk hb1)
        go_ret
        refine ⟨⟨i, rfl, ?_⟩, HB.out.trans (hb1.out.mono HB.out.size)⟩
        rw [decide_eq_true (by omega)]
        exact (List.any_eq_true.2 ⟨x, HM.out, hb⟩).symm
      | false =>
        go_wp2_with (go_at_call 34; refine (check_1.calls x _).mono ?_; rintro e w' ⟨rfl, hb1⟩; rw [hb]; replace hb1 := Aside0.mk hb1)
        go_roundg k1
        case measure => omega
        case rel => exact ⟨i + 1, by go_num, ⟨by have := HK.out; omega⟩, ⟨by rw [HT.out, List.any_append, HP.out]; simp [hb]⟩, ⟨HB.out.trans (hb1.out.mono HB.out.size)⟩⟩
set_option maxHeartbeats 1000000 in
/-- Is any of a row no node that may be? -/
theorem contains_n.calls (A0 : Option Addr) (c0 : Nat) (l0 : List S35) (w : World) (hr0 : Kd.C k35 w A0 l0.length l0) :
    Calls Try.prog 33 #[.slice A0 l0.length c0, .func (Fn.func 34) #[] #[]] w fun e w' => e = .returned (.bool (l0.any badN)) ∧ Below w.heap.size w w' := by
  go_enter Try.func33, Try.ntmps33
  go_wp2_with (go_at_call 44; (refine (index_n.calls _ _ l0 _ hr0).mono ?_); rintro e w' ⟨⟨n, rfl, hn⟩, hb⟩; replace hn := Aside0.mk hn; replace hb := Aside0.mk hb)
  go_ret
  exact ⟨by rw [← hn.out]; rfl, hb.out⟩

/-! ### nodes_Check: function 12 -/
/-- May a row of nodes be? -/
def okNodes (l : List S35) : Bool := decide (1 ≤ l.length ∧ l.length ≤ 64) && !l.any badN
def nodes_Check.f (l : List S35) : Option Int := some (if okNodes l then 0 else 2)
set_option maxHeartbeats 2000000 in
theorem nodes_Check.calls (A0 : Option Addr) (c0 : Nat) (l0 : List S35) (r : Int) (w : World) (hr0 : Kd.C k35 w A0 l0.length l0) (hc0 : l0.length ≤ c0) (h : nodes_Check.f l0 = some r) :
    Calls Try.prog 12 #[.slice A0 l0.length c0] w fun e w' => e = .returned (.int .i64 r) ∧ Below w.heap.size w w' := by
  obtain rfl := Option.some.inj h
  clear h
  by_cases h1 : l0.length < 1
  · have hk : okNodes l0 = false := by unfold okNodes; rw [decide_eq_false (by omega)]; rfl
    rw [hk]
    have h1' : (l0.length : Int) < 1 := by omega
    go_enter Try.func12, Try.ntmps12
    go_wp2
    go_ret
    exact ⟨rfl, Below.refl _ _⟩
  by_cases h2 : 64 < l0.length
  · have hk : okNodes l0 = false := by unfold okNodes; rw [decide_eq_false (by omega)]; rfl
    rw [hk]
    have h1' : ¬ (l0.length : Int) < 1 := by omega
    have h2' : (64 : Int) < (l0.length : Int) := by omega
    go_enter Try.func12, Try.ntmps12
    go_wp2
    go_ret
    exact ⟨rfl, Below.refl _ _⟩
  have hk : okNodes l0 = !l0.any badN := by unfold okNodes; rw [decide_eq_true (by omega)]; rfl
  rw [hk]
  have h1' : ¬ (l0.length : Int) < 1 := by omega
  have h2' : ¬ (64 : Int) < (l0.length : Int) := by omega
  clear h1 h2
  have HR := Aside0.mk hr0
  clear hr0
  cases hb : l0.any badN with
  | true =>
    go_enter Try.func12, Try.ntmps12
    go_wp2_with (go_at_call 33; (refine (contains_n.calls _ _ l0 _ HR.out).mono ?_); rintro e w' ⟨rfl, hw⟩; rw [hb]; replace hw := Aside0.mk hw)
    go_ret
    exact ⟨rfl, hw.out⟩
  | false =>
    go_enter Try.func12, Try.ntmps12
    go_wp2_with (go_at_call 33; (refine (contains_n.calls _ _ l0 _ HR.out).mono ?_); rintro e w' ⟨rfl, hw⟩; rw [hb]; replace hw := Aside0.mk hw)
    go_ret
    exact ⟨rfl, hw.out⟩

/-! ### api_Node_28: function 28 -/
set_option maxHeartbeats 4000000 in
set_option maxRecDepth 100000 in
/-- A row of nodes, copied to a row of one's own. -/
theorem nodes_Clone_own (A0 : Option Addr) (c0 : Nat) (l0 : List S35) (w : World) (hr0 : Kd.C k35 w A0 l0.length l0) (hc0 : l0.length ≤ c0) (hp : 1 ≤ l0.length) (hl : l0.length ≤ 64) :
    Calls Try.prog 28 #[.slice A0 l0.length c0] w fun e w' => ∃ g cap, e = .returned (.slice (some ⟨g, 0, none⟩) l0.length cap) ∧ Kd.R k35 35 w' w.heap.size (fun _ => True) (.slice (some ⟨g, 0, none⟩) l0.length cap) l0 ∧ Below w.heap.size w w' := by
  obtain ⟨ad, rfl, _⟩ := hr0.2.2 (by omega)
  have hnil : ∀ (w : World) (c : Nat), (binOp .eql 22 (.slice (some ad) l0.length c) (.slice none 0 0)).run Try.prog w = .ok (.bool false) w := fun w c => by first | exact Lib.run_eql_slice_nil w _ _ _ _ _ Try.underlying22 | exact run_eql_slice_nil w _ _ _ _ _ Try.underlying22
  have HR0 := Aside0.mk hr0
  have HC0 := Aside0.mk hc0
  clear hr0 hc0
  have HB := Aside0.mk (Below.refl w.heap.size w)
  go_enter Try.func28, Try.ntmps28
  go_wp2_with (first | ((with_reducible refine gate_dst (N := 5) rfl ?_); refine Kd.R_lit k35 _ 35 ?hg (N := 5) ?hd (xs := ([] : List S35)) (inner := []) (ok := fun _ => True) (okp := fun _ => True) ?hr ?hp (fun _ hk => hk) trivial (Below.refl _ _) (Nat.le_refl _) (by simp) ?_; (case hd => rfl); (case hg => rfl); (case hr => first | (go_simp; done) | (go_simp; rfl)); (case hp => exact (Reps.none _ _)); intro v127 w3 ho4 hb hg_ hnew_; clear hg_ hnew_; have n0_ := Aside0.mk (Kd.R_lower ho4 (below_size (by repeat (first | (with_reducible first | exact HB.out | apply below_alloc | apply pw_below_drewN | apply below_drew1) | exact HB.out)))); have n1_ := Aside0.mk (below_step (by repeat (first | (with_reducible first | exact HB.out | apply below_alloc | apply pw_below_drewN | apply below_drew1) | exact HB.out)) hb); clear HB; have HO128 := n0_; have HB := n1_; clear n0_ n1_; clear hb ho4) | ((with_reducible refine gate_builtin (b := .append) (xs := #[.tmp 5, .tmp 6]) rfl ?_); at_builtin; refine Kd.R_append_rows k35 (w0 := w) w.heap.size rfl (.tmp 5) (.tmp 6) 22 35 (.agg #[(.bool false), (.bool false), (.int .i64 0)]) 16 rfl Try.underlying22 info35 rfl (by decide) (by omega) v127 [] l0 _ _ _ (fun _ => True) (fun _ => False) rfl rfl ?aO ?aR (fun _ _ h => h) (fun _ h => h.elim) ?aF ?aB ?aS ?aL ?_; (case aR => repeat (first | exact (Kd.C_below HR0.out HB.out) | (with_reducible refine Kd.C_alloc ?_ _) | (with_reducible refine Kd.C_drewN ?_ _) | (with_reducible refine Kd.C_drew ?_))); (case aB => exact (by repeat (first | (with_reducible first | exact HB.out | apply below_alloc | apply pw_below_drewN | apply below_drew1) | exact HB.out))); (case aF => exact (fun _ _ => trivial)); (case aO => exact (by (with_reducible repeat (first | apply Kd.R_alloc | apply Kd.R_drewN | apply Kd.R_drew)); exact HO128.out)); (case aS => exact (below_size (by repeat (first | (with_reducible first | exact HB.out | apply below_alloc | apply pw_below_drewN | apply below_drew1) | exact HB.out)))); (case aL => simp; omega); intro v130 w5 ho hb hg hat; have n0_ := Aside0.mk (hb); have n1_ := Aside0.mk (ho); clear HB; clear HO128; have HB := n0_; have HO131 := n1_; clear n0_ n1_; clear ho hb hg hat))
  go_ret
  have ho : Kd.R k35 35 w5 w.heap.size (fun _ => True) v130 l0 := HO131.out
  obtain ⟨inner, hown⟩ := Kd.R_own ho
  obtain ⟨g, cap, rfl, _, _⟩ := hown.form (by omega)
  exact ⟨g, cap, rfl, ho, HB.out⟩

/-! ### nodes_turn: function 35 -/
theorem seg_other (l : List Value) (m a : Nat) (u : Value) (h : m < a ∨ a + 3 ≤ m) : ((l.set m u).drop a).take 3 = (l.drop a).take 3 := by
  apply List.ext_getElem?
  intro k
  rw [List.getElem?_take, List.getElem?_take, List.getElem?_drop, List.getElem?_drop]
  by_cases hk : k < 3
  · rw [if_pos hk, if_pos hk, List.getElem?_set_ne (by omega)]
  · rw [if_neg hk, if_neg hk]
theorem seg_same (l : List Value) (a j : Nat) (u : Value) (hj : j < 3) : ((l.set (a + j) u).drop a).take 3 = ((l.drop a).take 3).set j u := by
  apply List.ext_getElem?
  intro k
  rw [List.getElem?_take, List.getElem?_drop]
  by_cases hk : k < 3
  · rw [if_pos hk]
    by_cases hkj : k = j
    · subst hkj
      by_cases hl : a + k < l.length
      · rw [List.getElem?_set_self hl, List.getElem?_set_self (by simp; omega)]
      · rw [List.getElem?_eq_none (by simp; omega), List.getElem?_eq_none (by simp; omega)]
    · rw [List.getElem?_set_ne (by omega), List.getElem?_set_ne (by omega), List.getElem?_take, if_pos hk, List.getElem?_drop]
  · rw [if_neg hk, List.getElem?_eq_none (by simp; omega)]
def nodeC (x : S35) : List Value := [.bool x.f0, .bool x.f1, .int .i64 x.f2]
abbrev NodeRow (W : World) (base g n cap : Nat) (xs : List S35) : Prop := Kd.R k35 35 W base (fun _ => True) (.slice (some ⟨g, 0, none⟩) n cap) xs
theorem node_put {W : World} {base g n cap : Nat} {xs : List S35} (h : NodeRow W base g n cap xs) (i j : Nat) (hi : i < xs.length) (hj : j < 3) (u : Value) (x' : S35) (hx : nodeC x' = (nodeC (xs.getD i z35)).set j u) :
    NodeRow (W.setCell ⟨g, i * 3 + j, none⟩ u) base g n cap (xs.set i x') := by
  have hn : n = xs.length := (Kd.R_reads' h).1
  subst hn
  obtain ⟨_, inner, ho, hr⟩ := h
  have hst := (ho.stored (i * 3 + j) u).1
  refine ⟨fun _ _ => trivial, inner.set (i * 3 + j) u, by rw [List.length_set]; exact hst, by rw [List.length_set, List.length_set]; exact hr.1, fun q p hq => ?_⟩
  by_cases hqi : q = i
  · subst hqi
    rw [List.getElem?_set_self hi] at hq
    obtain rfl := Option.some.inj hq
    have hold := hr.2 q _ (List.getElem?_eq_getElem hi)
    have e1 := k35_openM hold
    show k35.M _ _ _ x' (((inner.set (q * 3 + j) u).drop (q * 3)).take 3)
    rw [seg_same _ _ _ _ hj]
    have e2 : (inner.drop (q * 3)).take 3 = nodeC (xs.getD q z35) := by
      rw [List.getD_eq_getElem?_getD, List.getElem?_eq_getElem hi]
      exact e1
    rw [e2, ← hx]
    exact k35_mkM _ _ _ _
  · rw [List.getElem?_set_ne (fun e => hqi e.symm)] at hq
    have hold := hr.2 q p hq
    have e1 := k35_openM hold
    show k35.M _ _ _ p (((inner.set (i * 3 + j) u).drop (q * 3)).take 3)
    rw [seg_other _ _ _ _ (by omega)]
    have e2 : (inner.drop (q * 3)).take 3 = [.bool p.f0, .bool p.f1, .int .i64 p.f2] := e1
    rw [e2]
    exact k35_mkM _ _ _ _
theorem node_cells {W : World} {base g n cap : Nat} {xs : List S35} (h : NodeRow W base g n cap xs) (i : Nat) (hi : i < xs.length) :
    W.cell? ⟨g, i * 3, none⟩ = some (.bool (xs.getD i z35).f0) ∧ W.cell? ⟨g, i * 3 + 1, none⟩ = some (.bool (xs.getD i z35).f1) ∧ W.cell? ⟨g, i * 3 + 2, none⟩ = some (.int .i64 (xs.getD i z35).f2) ∧ ∀ j, W.frozen? ⟨g, i * 3 + j, none⟩ = false := by
  have hn : n = xs.length := (Kd.R_reads' h).1
  obtain ⟨c, _, hM, hc, hf⟩ := Kd.R_elem h z35 (i : Int) (by omega) (by omega)
  rw [Int.toNat_natCast] at hM hc hf
  have e1 := k35_openM hM
  subst e1
  exact ⟨hc 0 _ rfl, hc 1 _ rfl, hc 2 _ rfl, hf⟩
/-- What turn tells: the row with one node turned, or none and what stands against it. -/
def turnR (dp : S35 → Bool) (ds : S35 → S35) (l : List S35) (i : Int) : List S35 × Int :=
  if okNodes l then (if 0 ≤ i ∧ i < (l.length : Int) then (if dp (l.getD i.toNat z35) then (l.set i.toNat (ds (l.getD i.toNat z35)), 0) else ([], 8)) else ([], 200)) else ([], 2)
set_option maxHeartbeats 4000000 in
theorem nodes_turn_own (A0 : Option Addr) (c0 : Nat) (l0 : List S35) (i : Int) (fd : Nat) (lb : Array Value) (dp : S35 → Bool) (ds : S35 → S35) (S : Nat → Prop) (Post : S35 → World → Prop) (w : World)
    (hr0 : Kd.C k35 w A0 l0.length l0) (hc0 : l0.length ≤ c0) (hent : ∀ args w, (callFunc fd args).run Try.prog w = .ok (.enter fd args) w)
    (hdo : ∀ (W : World) (base g n cap : Nat) (xs : List S35) (j : Nat), Below w.heap.size w W → w.heap.size ≤ g → j < xs.length → NodeRow W base g n cap xs →
      Calls Try.prog fd (#[.pointer (some ⟨g, j * 3, none⟩)] ++ lb) W fun e W' => e = .returned (.bool (dp (xs.getD j z35))) ∧ NodeRow W' base g n cap (xs.set j (ds (xs.getD j z35))) ∧ Keeps (fun k => k ≠ g ∧ ¬ S k) W W' ∧ Post (xs.getD j z35) W') :
    Calls Try.prog 35 #[.slice A0 l0.length c0, .int .i64 i, .func (.func fd) #[] lb] w fun e w' => ∃ v0 : Value, e = .returned (.tuple #[v0, .int .i64 (turnR dp ds l0 i).2]) ∧ Kd.R k35 35 w' w.heap.size (fun _ => True) v0 (turnR dp ds l0 i).1 ∧
      Keeps (fun k => k < w.heap.size ∧ ¬ S k) w w' ∧ ((turnR dp ds l0 i).2 = 0 → Post (l0.getD i.toNat z35) w') := by
  have HR := Aside0.mk hr0
  have HC := Aside0.mk hc0
  clear hr0 hc0
  replace hdo := Aside0.mk hdo
  by_cases hok : okNodes l0 = true
  case neg =>
    have hok' : okNodes l0 = false := by simpa using hok
    have HE := Aside0.mk (show nodes_Check.f l0 = some 2 by unfold nodes_Check.f; rw [hok']; rfl)
    have hT : turnR dp ds l0 i = ([], 2) := by unfold turnR; rw [hok']; rfl
    rw [hT]
    clear hok hok' hT
    go_enter Try.func35, Try.ntmps35
    go_wp2_with (go_at_call 12; refine (nodes_Check.calls _ _ l0 _ _ HR.out HC.out HE.out).mono ?_; rintro e w1 ⟨rfl, hb1⟩; replace hb1 := Aside0.mk hb1)
    go_ret2
    exact ⟨_, rfl, Kd.R_nil _ _ _ _ _, Keeps.of_below hb1.out (fun k hk _ => hk), fun h => absurd h (by decide)⟩
  have HE := Aside0.mk (show nodes_Check.f l0 = some 0 by unfold nodes_Check.f; rw [hok]; rfl)
  have hlen : 1 ≤ l0.length ∧ l0.length ≤ 64 := by
    have h := hok
    unfold okNodes at h
    simp only [Bool.and_eq_true, decide_eq_true_eq] at h
    exact h.1
  by_cases hi : 0 ≤ i ∧ i < (l0.length : Int)
  case neg =>
    have hT : turnR dp ds l0 i = ([], 200) := by unfold turnR; rw [if_pos hok, if_neg hi]
    rw [hT]
    clear hok hT
    by_cases h0 : i < 0
    · go_enter Try.func35, Try.ntmps35
      go_wp2_with (go_at_call 12; refine (nodes_Check.calls _ _ l0 _ _ HR.out HC.out HE.out).mono ?_; rintro e w1 ⟨rfl, hb1⟩; replace hb1 := Aside0.mk hb1)
      go_ret2
      exact ⟨_, rfl, Kd.R_nil _ _ _ _ _, Keeps.of_below hb1.out (fun k hk _ => hk), fun h => absurd h (by decide)⟩
    · have h1 : (l0.length : Int) ≤ i := by omega
      clear hi
      go_enter Try.func35, Try.ntmps35
      go_wp2_with (go_at_call 12; refine (nodes_Check.calls _ _ l0 _ _ HR.out HC.out HE.out).mono ?_; rintro e w1 ⟨rfl, hb1⟩; replace hb1 := Aside0.mk hb1)
      go_ret2
      exact ⟨_, rfl, Kd.R_nil _ _ _ _ _, Keeps.of_below hb1.out (fun k hk _ => hk), fun h => absurd h (by decide)⟩
  obtain ⟨hi0, hi1⟩ := hi
  obtain ⟨j, rfl⟩ := Int.eq_ofNat_of_zero_le hi0
  have hj : j < l0.length := by omega
  have h00 : ¬ (j : Int) < 0 := by omega
  have h01 : ¬ (l0.length : Int) ≤ (j : Int) := by omega
  cases hd : dp (l0.getD j z35) with
  | false =>
    have hT : turnR dp ds l0 (j : Int) = ([], 8) := by unfold turnR; rw [if_pos hok, if_pos ⟨hi0, hi1⟩, Int.toNat_natCast, hd]; rfl
    rw [hT, Int.toNat_natCast]
    clear hok hT
    go_enter Try.func35, Try.ntmps35
    go_wp2_with (first
      | (go_at_call 12; refine (nodes_Check.calls _ _ l0 _ _ HR.out HC.out HE.out).mono ?_; rintro e w1 ⟨rfl, hb1⟩; replace hb1 := Aside0.mk hb1)
      | (go_at_call 28; refine (nodes_Clone_own _ _ l0 _ (Kd.C_below HR.out hb1.out) HC.out hlen.1 hlen.2).mono ?_; rintro e w2 ⟨g, cap, rfl, hrow, hb2⟩; have hb12 := Aside0.mk (hb1.out.trans (hb2.mono hb1.out.size)); have hgw := Aside0.mk (show w.heap.size ≤ g from Nat.le_trans hb1.out.size (Kd.R_base hrow g (by simp [Value.ownBlock]))); replace hrow := Aside0.mk hrow; clear hb2)
      | (refine (hdo.out _ _ g _ cap l0 j hb12.out hgw.out hj hrow.out).mono ?_; rintro e w3 ⟨rfl, hrow3, hk3, hpost⟩; rw [hd]; replace hk3 := Aside0.mk hk3; replace hrow3 := Aside0.mk hrow3; replace hpost := Aside0.mk hpost))
    go_ret2
    exact ⟨_, rfl, Kd.R_nil _ _ _ _ _, (Keeps.of_below hb12.out (fun k hk h => h.1)).trans (hk3.out.mono (fun k hk h => ⟨by have := hgw.out; omega, h.2⟩)), fun h => absurd h (by decide)⟩
  | true =>
    have hT : turnR dp ds l0 (j : Int) = (l0.set j (ds (l0.getD j z35)), 0) := by unfold turnR; rw [if_pos hok, if_pos ⟨hi0, hi1⟩, Int.toNat_natCast, hd]; rfl
    rw [hT, Int.toNat_natCast]
    clear hok hT
    go_enter Try.func35, Try.ntmps35
    go_wp2_with (first
      | (go_at_call 12; refine (nodes_Check.calls _ _ l0 _ _ HR.out HC.out HE.out).mono ?_; rintro e w1 ⟨rfl, hb1⟩; replace hb1 := Aside0.mk hb1)
      | (go_at_call 28; refine (nodes_Clone_own _ _ l0 _ (Kd.C_below HR.out hb1.out) HC.out hlen.1 hlen.2).mono ?_; rintro e w2 ⟨g, cap, rfl, hrow, hb2⟩; have hb12 := Aside0.mk (hb1.out.trans (hb2.mono hb1.out.size)); have hgw := Aside0.mk (show w.heap.size ≤ g from Nat.le_trans hb1.out.size (Kd.R_base hrow g (by simp [Value.ownBlock]))); replace hrow := Aside0.mk hrow; replace hb2 := Aside0.mk hb2)
      | (refine (hdo.out _ _ g _ cap l0 j hb12.out hgw.out hj hrow.out).mono ?_; rintro e w3 ⟨rfl, hrow3, hk3, hpost⟩; rw [hd]; replace hk3 := Aside0.mk hk3; replace hrow3 := Aside0.mk hrow3; replace hpost := Aside0.mk hpost))
    go_ret2
    exact ⟨_, rfl, Kd.R_lower hrow3.out hb1.out.size, (Keeps.of_below hb12.out (fun k hk h => h.1)).trans (hk3.out.mono (fun k hk h => ⟨by have := hgw.out; omega, h.2⟩)), fun _ => hpost.out⟩

/-! ### bits_Mul32: function 46 -/
def bits_Mul32.f (a0 : Int) (a1 : Int) : Option (Int × Int) := some (((IntKind.u64.wrap ((IntKind.u64.wrap (a0)) * (IntKind.u64.wrap (a1)))) / 4294967296) % 4294967296, (IntKind.u64.wrap ((IntKind.u64.wrap (a0)) * (IntKind.u64.wrap (a1)))) % 4294967296)
set_option maxHeartbeats 8000000 in
set_option maxRecDepth 100000 in
theorem bits_Mul32.calls (a0 : Int) (a1 : Int) (r1 : Int) (r2 : Int) (w : World) (h : bits_Mul32.f a0 a1 = some (r1, r2)) :
    Calls Try.prog 46 #[.int .u32 a0, .int .u32 a1] w fun e w' => e = .returned (.tuple #[.int .u32 r1, .int .u32 r2]) ∧ Drawn0 w w' := by
  have H : (some (((IntKind.u64.wrap ((IntKind.u64.wrap (a0)) * (IntKind.u64.wrap (a1)))) / 4294967296) % 4294967296, (IntKind.u64.wrap ((IntKind.u64.wrap (a0)) * (IntKind.u64.wrap (a1)))) % 4294967296)) = some (r1, r2) := h
  clear h
  simp only [Option.some.injEq, Prod.mk.injEq] at H
  obtain ⟨rfl, rfl⟩ := H
  go_enter Try.func46, Try.ntmps46
  go_wp2
  go_ret2
  exact ⟨by first | rfl | (simp; done) | (simp [*]; done), by repeat (first | exact Drawn0.refl _ | apply Drawn0.step)⟩

/-! ### bits_Mul64: function 47 -/
def bits_Mul64.f (a0 : Int) (a1 : Int) : Option (Int × Int) := some (IntKind.u64.wrap ((IntKind.u64.wrap ((IntKind.u64.wrap ((a0 / 4294967296) * (a1 / 4294967296))) + ((IntKind.u64.wrap ((IntKind.u64.wrap ((a0 / 4294967296) * (Go.bits .and .u64 a1 4294967295))) + ((IntKind.u64.wrap ((Go.bits .and .u64 a0 4294967295) * (Go.bits .and .u64 a1 4294967295))) / 4294967296))) / 4294967296))) + ((IntKind.u64.wrap ((Go.bits .and .u64 (IntKind.u64.wrap ((IntKind.u64.wrap ((a0 / 4294967296) * (Go.bits .and .u64 a1 4294967295))) + ((IntKind.u64.wrap ((Go.bits .and .u64 a0 4294967295) * (Go.bits .and .u64 a1 4294967295))) / 4294967296))) 4294967295) + (IntKind.u64.wrap ((Go.bits .and .u64 a0 4294967295) * (a1 / 4294967296))))) / 4294967296)), IntKind.u64.wrap (a0 * a1))
set_option maxHeartbeats 8000000 in
set_option maxRecDepth 100000 in
theorem bits_Mul64.calls (a0 : Int) (a1 : Int) (r1 : Int) (r2 : Int) (w : World) (h : bits_Mul64.f a0 a1 = some (r1, r2)) :
    Calls Try.prog 47 #[.int .u64 a0, .int .u64 a1] w fun e w' => e = .returned (.tuple #[.int .u64 r1, .int .u64 r2]) ∧ Drawn0 w w' := by
  have H : (some (IntKind.u64.wrap ((IntKind.u64.wrap ((IntKind.u64.wrap ((a0 / 4294967296) * (a1 / 4294967296))) + ((IntKind.u64.wrap ((IntKind.u64.wrap ((a0 / 4294967296) * (Go.bits .and .u64 a1 4294967295))) + ((IntKind.u64.wrap ((Go.bits .and .u64 a0 4294967295) * (Go.bits .and .u64 a1 4294967295))) / 4294967296))) / 4294967296))) + ((IntKind.u64.wrap ((Go.bits .and .u64 (IntKind.u64.wrap ((IntKind.u64.wrap ((a0 / 4294967296) * (Go.bits .and .u64 a1 4294967295))) + ((IntKind.u64.wrap ((Go.bits .and .u64 a0 4294967295) * (Go.bits .and .u64 a1 4294967295))) / 4294967296))) 4294967295) + (IntKind.u64.wrap ((Go.bits .and .u64 a0 4294967295) * (a1 / 4294967296))))) / 4294967296)), IntKind.u64.wrap (a0 * a1))) = some (r1, r2) := h
  clear h
  simp only [Option.some.injEq, Prod.mk.injEq] at H
  obtain ⟨rfl, rfl⟩ := H
  go_enter Try.func47, Try.ntmps47
  go_wp2
  go_ret2
  exact ⟨by first | rfl | (simp; done) | (simp [*]; done), by repeat (first | exact Drawn0.refl _ | apply Drawn0.step)⟩

/-! ### bits_Mul: function 45 -/
def bits_Mul.f (a0 : Int) (a1 : Int) : Option (Int × Int) := (bits_Mul64.f a0 a1).bind fun bt101 => (some (bt101.1, bt101.2))
set_option maxHeartbeats 8000000 in
set_option maxRecDepth 100000 in
theorem bits_Mul.calls (a0 : Int) (a1 : Int) (r1 : Int) (r2 : Int) (w : World) (h : bits_Mul.f a0 a1 = some (r1, r2)) :
    Calls Try.prog 45 #[.int .u64 a0, .int .u64 a1] w fun e w' => e = .returned (.tuple #[.int .u64 r1, .int .u64 r2]) ∧ Drawn0 w w' := by
  have H : ((bits_Mul64.f a0 a1).bind fun bt101 => (some (bt101.1, bt101.2))) = some (r1, r2) := h
  clear h
  replace H := Option.bind_eq_some_iff.mp H
  obtain ⟨⟨t101, t102⟩, A30, H⟩ := H
  replace H : (some (t101, t102)) = some (r1, r2) := H
  have A3 := Aside0.mk A30
  clear A30
  simp only [Option.some.injEq, Prod.mk.injEq] at H
  obtain ⟨rfl, rfl⟩ := H
  go_enter Try.func45, Try.ntmps45
  go_wp2_with (first | ((with_reducible refine gate_callee (f := 47) rfl ?_); refine goesL_ (some 25) rfl rfl Try.func47 (by kernel_rfl) rfl #[.int .u64 a0, .int .u64 a1] rfl (by (try simp only [List.map_toArray, List.map_cons, List.map_nil]); first | done | rfl | (simp only [List.length_drop, List.length_take]; rfl)) ?_; (with_reducible refine (bits_Mul64.calls a0 a1 t101 t102 _ A3.out).mono ?_); rintro e w' ⟨rfl, ⟨nd, rfl⟩⟩; refine ⟨_, rfl, ?_⟩))
  go_ret2
  exact ⟨by first | rfl | (simp; done) | (simp [*]; done), by repeat (first | exact Drawn0.refl _ | apply Drawn0.step)⟩

/-! ### api_Node_37: function 37 -/
theorem run_copy_node {P : Program} (w : World) (dT sT ty elem : TypeId) (g o dLen dCap : Nat) (a : Addr) (sLen sCap : Nat) (cur : Array Value) (t : TypeId) (cs : List Value)
    (hu : P.underlying dT = some (.slice elem)) (hs : (P.info? elem).map (·.size) = some 3)
    (hg : w.heap[g]? = some (.cells cur t (0, 0))) (hn : cs.length = Nat.min sLen dLen * 3)
    (hsrc : ∀ j v, cs[j]? = some v → w.cell? (a.add j) = some v) (hfit : o + cs.length ≤ cur.size) (h1 : ∀ v ∈ cs, v.oneCell' = true) :
    (Builtin.copy_ #[dT, sT] ty #[.slice (some ⟨g, o, none⟩) dLen dCap, .slice (some a) sLen sCap]).run P w =
      .ok (goInt (Nat.min sLen dLen)) (w.setRow g (cur.toList.take o ++ cs ++ cur.toList.drop (o + cs.length)).toArray) := by
  have hl := run_loadCells_list (P := P) w a cs hsrc
  have hst := run_storeCells_at P g o t cs 0 cur w hg (by simpa using hfit) h1
  cases hq : P.info? elem with
  | none => simp [hq] at hs
  | some i =>
    have hi : i.size = 3 := by simpa [hq] using hs
    simp [Builtin.copy_, run_underlying hu, Builtin.lenOf, Builtin.firstCells, sizeOf, typeInfo, hq, hi, ← hn, hl, hst]
theorem wpList_copy_node {P : Program} {w : World} {ops : Array Oper} {rest : List Oper} {o : Oper} {a : Act} {Q : Exit → Act → World → Prop} (hgd : o.guard = none) (d s : Operand) (dT sT : TypeId)
    (ho : o.op = .call { callee := .builtin .copy, args := #[d, s], argTypes := #[dT, sT] }) (elem : TypeId) (hu : P.underlying dT = some (.slice elem)) (hsz : (P.info? elem).map (·.size) = some 3)
    (g off : Nat) (dLen dCap : Nat) (ad : Addr) (sLen sCap : Nat) (hd : a.eval d = .slice (some ⟨g, off, none⟩) dLen dCap) (hs : a.eval s = .slice (some ad) sLen sCap)
    (cur : List Value) (t : TypeId) (hg : w.heap[g]? = some (.cells cur.toArray t (0, 0))) (N : Nat) (hN : N = Nat.min sLen dLen) (cs : List Value) (hn : cs.length = N * 3)
    (hsrc : ∀ j v, cs[j]? = some v → w.cell? (ad.add j) = some v)
    (hfit : off + cs.length ≤ cur.length) (h1 : ∀ v ∈ cs, v.oneCell' = true) (B : Nat) (w0 : World) (hb : Below B w0 w) (hBg : B ≤ g)
    (h : ∀ w', Hid (w'.heap[g]? = some (.cells (splice cur off cs).toArray t (0, 0))) → Below B w0 w' → wpList P ops Q rest (a.put o.dst (.int .i64 (N : Int))) w') :
    wpList P ops Q (o :: rest) a w := by
  refine wpList_plain hgd fun K hK => ?_
  have hrun := run_copy_node (P := P) w dT sT o.type elem g off dLen dCap ad sLen sCap cur.toArray t cs hu hsz hg (by rw [hn, hN]) hsrc (by simpa using hfit) h1
  rw [← hN] at hrun
  unfold Oper.wp execOp
  simp only [ho, resolve, invoke, builtin, Sem.run_bind, Sem.run_pure, Result.andThen_ok, List.map_toArray, List.map_cons, List.map_nil, hd, hs, hrun]
  exact hK _ _ (h _ (show _ = _ by simpa [splice] using setRow_heap w g _ _ t _ hg) (below_setRow hb hBg _))
theorem step_copy_node {P : Program} {ops : Array Oper} {o : Oper} {a : Act} {w : World} {K : Act → World → Prop} {Q : Exit → Act → World → Prop} {E : Prop} (hgd : o.guard = none) (d s : Operand) (dT sT : TypeId)
    (ho : o.op = .call { callee := .builtin .copy, args := #[d, s], argTypes := #[dT, sT] }) (elem : TypeId) (hu : P.underlying dT = some (.slice elem)) (hsz : (P.info? elem).map (·.size) = some 3)
    (g off : Nat) (dLen dCap : Nat) (ad : Addr) (sLen sCap : Nat) (hd : a.eval d = .slice (some ⟨g, off, none⟩) dLen dCap) (hs : a.eval s = .slice (some ad) sLen sCap)
    (cur : List Value) (t : TypeId) (hg : w.heap[g]? = some (.cells cur.toArray t (0, 0))) (N : Nat) (hN : N = Nat.min sLen dLen) (cs : List Value) (hn : cs.length = N * 3)
    (hsrc : ∀ j v, cs[j]? = some v → w.cell? (ad.add j) = some v)
    (hfit : off + cs.length ≤ cur.length) (h1 : ∀ v ∈ cs, v.oneCell' = true) (B : Nat) (w0 : World) (hb : Below B w0 w) (hBg : B ≤ g)
    (h : ∀ w', Hid (w'.heap[g]? = some (.cells (splice cur off cs).toArray t (0, 0))) → Below B w0 w' → K (a.put o.dst (.int .i64 (N : Int))) w') :
    if Region.wanted o (yielded ops a.tmps) = true then Oper.wp P o a w K Q else E := by
  rw [if_pos (by simp [Region.wanted, hgd])]
  have hrun := run_copy_node (P := P) w dT sT o.type elem g off dLen dCap ad sLen sCap cur.toArray t cs hu hsz hg (by rw [hn, hN]) hsrc (by simpa using hfit) h1
  rw [← hN] at hrun
  unfold Oper.wp execOp
  simp only [ho, resolve, invoke, builtin, Sem.run_bind, Sem.run_pure, Result.andThen_ok, List.map_toArray, List.map_cons, List.map_nil, hd, hs, hrun]
  exact (h _ (show _ = _ by simpa [splice] using setRow_heap w g _ _ t _ hg) (below_setRow hb hBg _))
theorem nodeC_one (x : S35) : ∀ v ∈ nodeC x, v.oneCell' = true := by
  intro v hv
  simp only [nodeC, List.mem_cons, List.not_mem_nil, or_false] at hv
  rcases hv with rfl | rfl | rfl <;> rfl
theorem mul_one_n (n : Nat) (h : n < 65) : bits_Mul.f 1 (n : Int) = some (0, (n : Int)) := (show ∀ n : Nat, n < 65 → bits_Mul.f 1 (n : Int) = some (0, (n : Int)) by decide) n h
/-- The first cells of a block are a node, again and again. -/
def NodeRep (x : S35) (n m : Nat) (L : List Value) : Prop := L.length = n * 3 ∧ ∀ i, i < m * 3 → L[i]? = (nodeC x)[i % 3]?
theorem NodeRep.first {x : S35} {n : Nat} {L : List Value} (h : L.length = n * 3) (hn : 1 ≤ n) : NodeRep x n 1 (splice L 0 (nodeC x)) := by
  refine ⟨by rw [length_splice _ _ _ (by rw [h]; show 0 + 3 ≤ _; omega), h], fun i hi => ?_⟩
  unfold splice
  rw [List.take_zero, List.nil_append, List.getElem?_append_left (by show i < 3; omega), Nat.mod_eq_of_lt (by omega)]
theorem NodeRep.more {x : S35} {n m c : Nat} {L : List Value} (h : NodeRep x n m L) (hc : c ≤ m) (hn : m + c ≤ n) : NodeRep x n (m + c) (splice L (m * 3) (L.take (c * 3))) := by
  have hl : (L.take (c * 3)).length = c * 3 := by rw [List.length_take, h.1]; omega
  refine ⟨by rw [length_splice _ _ _ (by rw [hl, h.1]; omega), h.1], fun i hi => ?_⟩
  unfold splice
  have ht : (L.take (m * 3)).length = m * 3 := by rw [List.length_take, h.1]; omega
  by_cases hm : i < m * 3
  · rw [List.getElem?_append_left (by rw [ht]; exact hm), List.getElem?_take, if_pos hm]
    exact h.2 i hm
  · rw [List.getElem?_append_right (by rw [ht]; omega), ht, List.getElem?_append_left (by rw [hl]; omega), List.getElem?_take, if_pos (by omega), h.2 _ (by omega)]
    congr 1
    omega
theorem NodeRep.one {x : S35} {n m : Nat} {L : List Value} (h : NodeRep x n m L) (i : Nat) (hi : i < m * 3) {v : Value} (hv : L[i]? = some v) : v.oneCell' = true := by
  rw [h.2 i hi] at hv
  have : i % 3 < 3 := Nat.mod_lt _ (by omega)
  generalize i % 3 = k at hv this
  match k, this with
  | 0, _ => cases hv; rfl
  | 1, _ => cases hv; rfl
  | 2, _ => cases hv; rfl
theorem NodeRep.row {x : S35} {n : Nat} {L : List Value} (h : NodeRep x n n L) {W : World} {base g : Nat} (hg : W.heap[g]? = some (.cells L.toArray 35 (0, 0))) (hb : base ≤ g) (hn : n ≤ 64) :
    Kd.R k35 35 W base (fun _ => True) (.slice (some ⟨g, 0, none⟩) n n) (List.replicate n x) := by
  have hr : W.ownsRow base 35 3 (.slice (some ⟨g, 0, none⟩) n n) n L := ⟨h.1, .inr ⟨g, n, _, rfl, hb, hg, Nat.le_refl _, Nat.le_trans hn (by decide), by simp [h.1], by simp; exact List.take_of_length_le (by rw [h.1]; exact Nat.le_refl _)⟩⟩
  refine ⟨fun _ _ => trivial, L, by rw [List.length_replicate]; exact hr, by rw [List.length_replicate]; exact h.1, fun q p hq => ?_⟩
  obtain ⟨hq1, rfl⟩ := List.getElem?_eq_some_iff.1 hq
  rw [List.length_replicate] at hq1
  rw [List.getElem_replicate]
  have e : (L.drop (q * 3)).take 3 = nodeC x := by
    apply List.ext_getElem?
    intro k
    rw [List.getElem?_take, List.getElem?_drop]
    by_cases hk : k < 3
    · rw [if_pos hk, h.2 _ (by omega)]
      congr 1
      omega
    · rw [if_neg hk, List.getElem?_eq_none (by show 3 ≤ k; omega)]
  show k35.M _ _ _ x ((L.drop (q * 3)).take 3)
  rw [e]
  exact k35_mkM _ _ _ _
set_option maxHeartbeats 4000000 in
theorem nodes_Repeat_own (x : S35) (n : Nat) (ad : Addr) (c : Nat) (w : World) (hn1 : 1 ≤ n) (hn2 : n ≤ 64) (hx : ∀ j v, (nodeC x)[j]? = some v → w.cell? (ad.add j) = some v) :
    Calls Try.prog 37 #[.slice (some ad) 1 c, .int .i64 (n : Int)] w fun e w' => ∃ v, e = .returned v ∧ Kd.R k35 35 w' w.heap.size (fun _ => True) v (List.replicate n x) ∧ Below w.heap.size w w' := by
  have hM := Aside0.mk (mul_one_n n (by omega))
  have g0 : ¬ (n : Int) < 0 := by omega
  have g1 : ¬ (9223372036854775807 : Int) < (n : Int) := by omega
  obtain ⟨i0, hi, hz0, hz1, hz2⟩ := info_parts (P := Try.prog) (e := 35) (z := .agg #[.bool false, .bool false, .int .i64 0]) (size := 3) (bytes := 16) (by kernel_rfl)
  have hmk : ∃ Z : List Value, Z.length = n * 3 ∧ ∀ W : World, (Instr.makeSlice 22 (.int .i64 (n : Int)) (.int .i64 (n : Int))).run Try.prog W = .ok (.slice (some ⟨W.heap.size, 0, none⟩) n n) (W.alloc (.cells Z.toArray 35)) := by
    refine ⟨(madeCells (Value.agg #[.bool false, .bool false, .int .i64 0]).cells (n * 3)).toList, by rw [Array.length_toList]; exact size_madeCells _ _, fun W => ?_⟩
    have := run_makeSlice (P := Try.prog) (w := W) 22 35 i0 _ Try.underlying22 hi hz0 .i64 .i64 (n : Int) (n : Int) (by omega) (Int.le_refl _) (by rw [hz1]; omega) (by rw [hz2]; omega) (by omega)
    rw [hz1] at this
    simpa using this
  obtain ⟨Z, hZl, hmk⟩ := hmk
  have hsrc := Aside0.mk (show ∀ W, Below w.heap.size w W → ∀ j v, (nodeC x)[j]? = some v → W.cell? (ad.add j) = some v from fun W hb j v hj => (hb.cell (World.block_lt_of_cell? _ _ (hx j v hj))).trans (hx j v hj))
  clear hx hi hz0 hz1 hz2
  go_enter Try.func37, Try.ntmps37
  go_wp2_with (first
    | (go_at_call 45; refine (bits_Mul.calls _ _ _ _ _ hM.out).mono ?_; rintro e w1 ⟨rfl, hd⟩; have hb1 := Aside0.mk (show Below w.heap.size w w1 by obtain ⟨m, rfl⟩ := hd; exact ⟨rfl, rfl, rfl, Nat.le_refl _, fun _ _ => rfl⟩); obtain ⟨G, hG⟩ : ∃ G, w1.heap.size = G := ⟨_, rfl⟩; have hnew := Aside0.mk (hG ▸ World.alloc_heap_new w1 (.cells Z.toArray 35)); clear hd)
    | ((with_reducible refine gate_builtin (b := .copy) (xs := #[.tmp 31, .tmp 32]) rfl ?_); go_loud (refine wpList_copy_node rfl (.tmp 31) (.tmp 32) 22 22 rfl 35 Try.underlying22 (by kernel_rfl) G 0 n n ad 1 c rfl rfl Z 35 hnew.out 1 (Nat.min_eq_left hn1).symm (nodeC x) rfl (hsrc.out _ (hb1.out.alloc hb1.out.size _)) (by rw [hZl]; show 0 + 3 ≤ _; omega) (nodeC_one x) w.heap.size w (hb1.out.alloc hb1.out.size _) (by rw [← hG]; exact hb1.out.size) ?_); intro w2 hg2 hb2; replace hb2 := Aside0.mk hb2; have hR0 := Aside0.mk (NodeRep.first (x := x) hZl hn1); replace hg2 := Aside0.mk (show w2.heap[G]? = _ from hg2); have hGw := Aside0.mk (show w.heap.size ≤ G by rw [← hG]; exact hb1.out.size)))
  go_loopg [8] (n - 1) (fun kq v8 W => ∃ (m : Nat) (L : List Value), v8 = .int .i64 m ∧ Aside0 (kq + m = n) ∧ Aside0 (1 ≤ m) ∧ Aside0 (NodeRep x n m L) ∧ Aside0 (W.heap[G]? = some (.cells L.toArray 35 (0, 0))) ∧ Aside0 (Below w.heap.size w W))
  case atStart => exact ⟨1, _, rfl, ⟨Nat.sub_add_cancel hn1⟩, ⟨Nat.le_refl _⟩, hR0, hg2, hb2⟩
  case round =>
    obtain ⟨m, L, rfl, HK, H1, HR, HG, HB⟩ := hrel
    cases gk with
    | zero =>
      have e : m = n := by have := HK.out; omega
      subst e
      go_wp2
      go_ret
      exact ⟨_, rfl, HR.out.row HG.out hGw.out hn2, HB.out⟩
    | succ k1 =>
      have hlt : m < n := by have := HK.out; omega
      have hlt' : (m : Int) < (n : Int) := by omega
      have hm1 : 1 ≤ m := H1.out
      have hmn : m ≤ n := by omega
      have hnm : (n = m) = False := eq_false (by omega)
      have hm0 : (m = 0) = False := eq_false (by omega)
      obtain ⟨q, hq⟩ : ∃ q, Nat.min m (n - m) = q := ⟨_, rfl⟩
      have hqm : q ≤ m := by rw [← hq]; exact Nat.min_le_left _ _
      have hqn : m + q ≤ n := by have := Nat.min_le_right m (n - m); rw [show min m (n - m) = q from hq] at this; omega
      have hq1 : 1 ≤ q := by rw [← hq]; exact Nat.le_min.2 ⟨hm1, by omega⟩
      have HL := Aside0.mk (HR.out.more hqm hqn)
      replace hq := Aside0.mk hq
      have hsum := Aside0.mk (show IntKind.i64.wrap ((m : Int) + (q : Int)) = ((m + q : Nat) : Int) by rw [IntWalk.i64_in _ (by omega)]; omega)
      have hG1 : wr.heap[G]? = some (.cells L.toArray 35 (0, 0)) := HG.out
      have hLq := Aside0.mk (show (L.take (q * 3)).length = q * 3 by rw [List.length_take, HR.out.1]; omega)
      have hsr := Aside0.mk (show ∀ j v, (L.take (q * 3))[j]? = some v → wr.drew.cell? ((⟨G, 0, none⟩ : Addr).add j) = some v from fun j v hj => by
        rw [List.getElem?_take] at hj
        split at hj
        · show wr.cell? _ = _
          by_cases h0 : j = 0
          · subst h0; simp [Addr.add, World.cell?, hG1, hj]
          · simp [Addr.add, World.cell?, hG1, hj, h0]
        · cases hj)
      have h1q := Aside0.mk (show ∀ v ∈ L.take (q * 3), v.oneCell' = true from fun v hv => by
        obtain ⟨j, hj⟩ := List.getElem?_of_mem hv
        rw [List.getElem?_take] at hj
        split at hj
        · exact HR.out.one j (by omega) hj
        · cases hj)
      go_wp2
      go_region_law (refine step_copy_node ?h1 (.tmp 41) (.tmp 44) 22 22 ?h2 35 ?h3 ?h4 G (m * 3) (n - m) (n - m) ⟨G, 0, none⟩ m n ?h5 ?h6 L 35 ?h7 q ?h8 (L.take (q * 3)) ?h9 ?h10 ?h11 ?h12 w.heap.size w ?h13 ?h14 ?_; (case h1 => rfl); (case h2 => rfl); (case h3 => exact Try.underlying22); (case h4 => kernel_rfl); (case h5 => go_simp; done); (case h6 => go_simp; done); (case h7 => exact hG1); (case h8 => exact hq.out.symm); (case h9 => exact hLq.out); (case h10 => exact hsr.out); (case h11 => rw [hLq.out, HR.out.1]; omega); (case h12 => exact h1q.out); (case h13 => exact HB.out.drew); (case h14 => exact hGw.out); intro w4 hg4 hb4; replace hg4 := Aside0.mk (show w4.heap[G]? = _ from hg4); replace hb4 := Aside0.mk hb4)
      rw [hsum.out]
      go_wp2
      go_roundg (k1 + 1 - q)
      case measure => omega
      case rel => exact ⟨m + q, _, by first | rfl | go_num, ⟨by have := HK.out; omega⟩, ⟨by omega⟩, HL, hg4, hb4⟩

/-! ### nodes_New: function 16 -/
def newR (n : Int) : List S35 × Int := if 1 ≤ n ∧ n ≤ 64 then (List.replicate n.toNat ⟨true, true, 0⟩, 0) else ([], 2)
def nodes_New.f (n : Int) : Option (List S35 × Int) := some (newR n)
theorem new_cells (w : World) : ∀ j v, (nodeC (⟨true, true, 0⟩ : S35))[j]? = some v → (w.alloc (.cells #[.bool true, .bool true, .int .i64 0] 35)).cell? ((⟨w.heap.size, 0, none⟩ : Addr).add j) = some v := by
  intro j v hj
  have hn := World.alloc_heap_new w (.cells #[.bool true, .bool true, .int .i64 0] 35)
  by_cases h0 : j = 0
  · subst h0
    have : ((⟨w.heap.size, 0, none⟩ : Addr).add 0) = ⟨w.heap.size, 0, none⟩ := by simp [Addr.add]
    rw [this]
    simp only [World.cell?, hn]
    simpa [nodeC] using hj
  · have : ((⟨w.heap.size, 0, none⟩ : Addr).add j) = ⟨w.heap.size, j, none⟩ := by simp [Addr.add, h0]
    rw [this]
    simp only [World.cell?, hn]
    simpa [nodeC] using hj
set_option maxHeartbeats 2000000 in
theorem nodes_New.calls (a0 : Int) (r1 : List S35) (r2 : Int) (w : World) (h : nodes_New.f a0 = some (r1, r2)) :
    Calls Try.prog 16 #[.int .i64 a0] w fun e w' => ∃ v0_ : Value, e = .returned (.tuple #[v0_, .int .i64 r2]) ∧ Kd.R k35 35 w' w.heap.size (fun _ => True) v0_ r1 ∧ Below w.heap.size w w' := by
  replace h := Option.some.inj h
  unfold newR at h
  by_cases h1 : 1 ≤ a0
  case neg =>
    rw [if_neg (fun e => h1 e.1)] at h
    obtain ⟨rfl, rfl⟩ := Prod.mk.inj h
    have h1' : a0 < 1 := by omega
    clear h
    go_enter Try.func16, Try.ntmps16
    go_wp2
    go_ret2
    exact ⟨_, rfl, Kd.R_nil _ _ _ _ _, Below.refl _ _⟩
  by_cases h2 : a0 ≤ 64
  case neg =>
    rw [if_neg (fun e => h2 e.2)] at h
    obtain ⟨rfl, rfl⟩ := Prod.mk.inj h
    have h1' : ¬ a0 < 1 := by omega
    have h2' : 64 < a0 := by omega
    clear h
    go_enter Try.func16, Try.ntmps16
    go_wp2
    go_ret2
    exact ⟨_, rfl, Kd.R_nil _ _ _ _ _, Below.refl _ _⟩
  rw [if_pos ⟨h1, h2⟩] at h
  obtain ⟨rfl, rfl⟩ := Prod.mk.inj h
  clear h
  obtain ⟨n, rfl⟩ := Int.eq_ofNat_of_zero_le (show 0 ≤ a0 by omega)
  have h1' : ¬ (n : Int) < 1 := by omega
  have h2' : ¬ 64 < (n : Int) := by omega
  have hc := Aside0.mk (new_cells w)
  rw [Int.toNat_natCast]
  go_enter Try.func16, Try.ntmps16
  go_wp2_with (go_at_call 37; (refine (nodes_Repeat_own ⟨true, true, 0⟩ n _ _ _ (by omega) (by omega) hc.out).mono ?_); rintro e w1 ⟨v, rfl, hrow, hb⟩; replace hrow := Aside0.mk (Kd.R_lower hrow (show w.heap.size ≤ _ by simp)); have hb1 := Aside0.mk (((Below.refl _ w).alloc (Nat.le_refl _) _).trans (hb.mono (show w.heap.size ≤ _ by simp))); clear hb)
  go_ret2
  exact ⟨_, rfl, hrow.out, hb1.out⟩

/-! ### nodes_places: function 29 -/
/-- The first places of which something is so. -/
def posU (p : S35 → Bool) (l : List S35) (i : Nat) : List Int := ((List.range i).filter (fun j => p (l.getD j z35))).map Int.ofNat
def posT (p : S35 → Bool) (l : List S35) : List Int := if okNodes l then posU p l l.length else []
theorem posU_succ (p : S35 → Bool) (l : List S35) (i : Nat) : posU p l (i + 1) = posU p l i ++ (if p (l.getD i z35) then [(i : Int)] else []) := by
  unfold posU
  rw [List.range_succ, List.filter_append, List.map_append]
  congr 1
  by_cases h : p (l.getD i z35) = true
  · rw [if_pos h]
    simp only [List.filter, h]
    rfl
  · have h' : p (l.getD i z35) = false := by simpa using h
    rw [if_neg h]
    simp only [List.filter, h']
    rfl
theorem posU_pre (p : S35 → Bool) (l : List S35) : ∀ (d i : Nat), posU p l i <+: posU p l (i + d)
  | 0, i => List.prefix_refl _
  | d + 1, i => by
    rw [show i + (d + 1) = (i + d) + 1 by omega, posU_succ]
    exact (posU_pre p l d i).trans (List.prefix_append _ _)
def encPos (x : Int) : Array Value := #[.int .i64 x]
theorem nodes_places_calls (v0 v1 : Value) (h0 : v0.oneCell' = true) (h1 : v1.oneCell' = true) (w : World) : Calls Try.prog 29 #[v0, v1] w fun e w' => e = .returned (.func (.func 43) #[] #[.pointer (some ⟨w.heap.size, 0, none⟩), .pointer (some ⟨w.heap.size + 1, 0, none⟩)]) ∧ w' = (w.alloc (.cells #[v0] 22)).alloc (.cells #[v1] 58) := by
  have hmf : ∀ (fn : Fn) (first cap : Array Value) (w : World), (Instr.makeFunc fn first cap).run Try.prog w = .ok (.func fn first cap) w := fun _ _ _ _ => rfl
  go_enter Try.func29, Try.ntmps29
  go_wp2
  go_ret
  exact ⟨rfl, rfl⟩
set_option maxHeartbeats 4000000 in
theorem nodes_places_seq (w0 : World) (A : Option Addr) (c : Nat) (l0 : List S35) (p : S35 → Bool) (f : Nat) (lb : Array Value) (bx bf : Nat) (R : Nat → Prop) (w : World) (hA : Kd.C k35 w0 A l0.length l0) (hc : l0.length ≤ c)
    (hb0 : Below w0.heap.size w0 w) (hb : BoxN w bx 22 [.slice A l0.length c]) (hbf : BoxN w bf 58 [.func (.func f) #[] lb])
    (hR0 : ∀ k, k < w0.heap.size → R k) (hRx : R bx) (hRf : R bf)
    (hent : ∀ args w, (callFunc f args).run Try.prog w = .ok (.enter f args) w)
    (hso : ∀ (x : S35) (W : World), Keeps R w W → Calls Try.prog f (#[.agg #[.bool x.f0, .bool x.f1, .int .i64 x.f2]] ++ lb) W fun e W' => e = .returned (.bool (p x)) ∧ Below W.heap.size W W') :
    RSeq Fence.wide 8 Try.prog 43 #[.pointer (some ⟨bx, 0, none⟩), .pointer (some ⟨bf, 0, none⟩)] encPos R (fun _ => False)
      (fun pre => pre <+: posT p l0) (fun xs => xs = posT p l0) w := by
  intro l J Jx W hW hJ hJx hY h0
  have hu := Try.underlying35
  refine callsIn_of_wp Try.func43 rfl trivial ?_ rfl
  simp only [Try.ntmps43, List.size_toArray, List.length_cons, List.length_nil, Nat.reduceAdd, Nat.reduceSub, Array.replicate_succ, Array.replicate_zero, List.push_toArray, List.append_toArray, List.nil_append, List.cons_append]
  have HK0 := Aside0.mk (show Keeps R w W from Keeps.of_below hW (fun k hk _ => hk))
  replace hJ := Aside0.mk hJ
  replace hJx := Aside0.mk hJx
  replace hY := Aside0.mk hY
  replace h0 := Aside0.mk h0
  replace hb := Aside0.mk hb
  replace hbf := Aside0.mk hbf
  replace hb0 := Aside0.mk hb0
  replace hA := Aside0.mk hA
  replace hc := Aside0.mk hc
  replace hso := Aside0.mk hso
  replace hR0 := Aside0.mk hR0
  replace hRx := Aside0.mk hRx
  replace hRf := Aside0.mk hRf
  clear hW
  have hc0 := (HK0.out.boxN hb.out hRx.out).cell 0 rfl
  have hg0 := (HK0.out.boxN hbf.out hRf.out).cell 0 rfl
  by_cases hok : okNodes l0 = true
  case neg =>
    have hok' : okNodes l0 = false := by simpa using hok
    have HE := Aside0.mk (show nodes_Check.f l0 = some 2 by unfold nodes_Check.f; rw [hok']; rfl)
    have HT := Aside0.mk (show posT p l0 = [] by unfold posT; rw [hok']; rfl)
    clear hok hok'
    gi_wp2_with (refine ⟨trivial, ?_⟩; gi_at_call 12; refine (callsIn_wide.2 (nodes_Check.calls _ _ l0 _ _ (Kd.C_below hA.out (hb0.out.trans (HK0.out.below hb0.out.size hR0.out))) hc.out HE.out)).mono ?_; rintro e w1 ⟨rfl, hb1⟩; replace hb1 := Aside0.mk hb1)
    refine bodyPost_ret (results_none rfl _ _ _) rfl ?_
    exact ⟨⟨_, rfl⟩, .inl ⟨[], HT.out.symm, hJ.out _ _ _ h0.out (Keeps.of_below hb1.out (fun k hk _ => hk))⟩⟩
  have HE := Aside0.mk (show nodes_Check.f l0 = some 0 by unfold nodes_Check.f; rw [hok]; rfl)
  have HT := Aside0.mk (show posT p l0 = posU p l0 l0.length by unfold posT; rw [hok]; rfl)
  have hl64 : l0.length ≤ 64 := by
    unfold okNodes at hok
    simp only [Bool.and_eq_true, decide_eq_true_eq] at hok
    omega
  clear hok
  gi_wp2_with (refine ⟨trivial, ?_⟩; gi_at_call 12; refine (callsIn_wide.2 (nodes_Check.calls _ _ l0 _ _ (Kd.C_below hA.out (hb0.out.trans (HK0.out.below hb0.out.size hR0.out))) hc.out HE.out)).mono ?_; rintro e w1 ⟨rfl, hb1⟩; have hK1 := Aside0.mk (HK0.out.trans (Keeps.of_below hb1 (fun k hk _ => hk))); have hc1 := (hK1.out.boxN hb.out hRx.out).cell 0 rfl; have hJ1 := Aside0.mk (hJ.out _ _ _ h0.out (Keeps.of_below hb1 (fun k hk _ => hk))); clear hc0 hg0 hb1)
  clear h0 HE HK0
  gi_loopg [11] l0.length (fun kq v11 wr => ∃ i : Nat, v11 = .int .i64 i ∧ Aside0 (kq + i = l0.length) ∧ Aside0 (Keeps R w wr) ∧ Aside0 (J (posU p l0 i) wr))
  case atStart => exact ⟨0, rfl, ⟨rfl⟩, hK1, hJ1⟩
  case round =>
    clear hc1 hK1 hJ1
    obtain ⟨i, rfl, HK, HP, HJ⟩ := hrel
    have hg1 := (HP.out.boxN hbf.out hRf.out).cell 0 rfl
    cases gk with
    | zero =>
      have e : i = l0.length := by have := HK.out; omega
      subst e
      gi_wp2
      (try simp only [Exit.noGoto_normal])
      go_end0
      exact ⟨⟨_, rfl⟩, .inl ⟨_, HT.out.symm, HJ.out⟩⟩
    | succ k1 =>
      have hlt : i < l0.length := by have := HK.out; omega
      have hlt0 : (0 : Int) ≤ (i : Int) := Int.natCast_nonneg _
      have hlt1 : (i : Int) < (l0.length : Int) := by omega
      obtain ⟨ad, eA, hx0, hx1, hx2⟩ := at_T35 (Kd.C_below hA.out (hb0.out.trans (HP.out.below hb0.out.size hR0.out))) (i : Int) hlt0 hlt1
      subst eA
      have er : rd_T35 l0 (i : Int) = l0.getD i z35 := by simp [rd_T35]
      rw [er] at hx0 hx1 hx2
      rw [Int.toNat_natCast] at hx0 hx1 hx2
      have hsu := Aside0.mk (posU_succ p l0 i)
      have hpre := Aside0.mk (show posU p l0 (i + 1) <+: posT p l0 by
        rw [HT.out]
        have := posU_pre p l0 (l0.length - (i + 1)) (i + 1)
        rwa [show i + 1 + (l0.length - (i + 1)) = l0.length by omega] at this)
      clear er
      generalize l0.getD i z35 = x at *
      have hg2 := ((HP.out.boxN hbf.out hRf.out).alloc (.cells #[.bool x.f0, .bool x.f1, .int .i64 x.f2] 35)).cell 0 rfl
      cases hp : p x with
      | false =>
        replace hsu := Aside0.mk (show posU p l0 (i + 1) = posU p l0 i by have := hsu.out; rw [hp] at this; simpa using this)
        gi_wp2_with (refine ⟨trivial, ?_⟩; refine (callsIn_wide.2 (hso.out x _ (HP.out.alloc _))).mono ?_; rintro e w4 ⟨rfl, hb4⟩; rw [hp]; replace hb4 := Aside0.mk hb4)
        refine ⟨fun f hf => absurd hf (by simp), ?_⟩
        gi_wp2
        gi_roundg k1
        case measure => omega
        case rel =>
          exact ⟨i + 1, by go_num, ⟨by have := HK.out; omega⟩, ⟨(HP.out.alloc _).trans (Keeps.of_below hb4.out (fun k hk _ => hk))⟩, ⟨by rw [hsu.out]; exact hJ.out _ _ _ HJ.out (((Keeps.refl _ _).alloc _).trans (Keeps.of_below hb4.out (fun k hk _ => hk)))⟩⟩
      | true =>
        replace hsu := Aside0.mk (show posU p l0 (i + 1) = posU p l0 i ++ [(i : Int)] by have := hsu.out; rw [hp] at this; simpa using this)
        gi_wp2_with (refine ⟨trivial, ?_⟩; refine (callsIn_wide.2 (hso.out x _ (HP.out.alloc _))).mono ?_; rintro e w4 ⟨rfl, hb4⟩; rw [hp]; have HP4 := Aside0.mk ((HP.out.alloc _).trans (Keeps.of_below hb4 (fun k hk _ => hk))); have HJ4 := Aside0.mk (hJ.out _ _ _ HJ.out (((Keeps.refl _ _).alloc _).trans (Keeps.of_below hb4 (fun k hk _ => hk)))); obtain ⟨fn, tmps, assign, body, hy', hR⟩ := hY.out _ (i : Int) w4 HJ4.out (by rw [← hsu.out]; exact hpre.out); simp only [encPos] at hy'; clear hb4)
        refine hR.mono ?_
        rintro e W3 (⟨rfl, hJ3, hk3⟩ | ⟨rfl, hJx3⟩)
        · gi_wp2
          gi_roundg k1
          case measure => omega
          case rel =>
            exact ⟨i + 1, by go_num, ⟨by have := HK.out; omega⟩, ⟨HP4.out.trans hk3⟩, ⟨by rw [hsu.out]; exact hJ3⟩⟩
        · gi_wp2
          refine bodyPost_ret (results_none rfl _ _ _) rfl ?_
          exact ⟨⟨_, rfl⟩, .inr ⟨_, by rw [← hsu.out]; exact hpre.out, hJx3⟩⟩

/-! ### nodes_Of: function 10 -/
def ofP (n : Int) (x : S35) : Bool := decide (0 < n) && x.f2 == n
def nodes_Of.f (l : List S35) (n : Int) : Option (List Int) := some (posT (ofP n) l)
theorem posT_length (p : S35 → Bool) (l0 : List S35) : (posT p l0).length ≤ 64 := by
  unfold posT
  by_cases h : okNodes l0 = true
  · rw [if_pos h]
    unfold okNodes at h
    simp only [Bool.and_eq_true, decide_eq_true_eq] at h
    unfold posU
    rw [List.length_map]
    refine Nat.le_trans (List.length_filter_le _ _) ?_
    rw [List.length_range]
    omega
  · rw [if_neg h]; simp
set_option maxHeartbeats 2000000 in
theorem of_1.calls (n : Int) (x : S35) (dx : Nat) (W : World) (hb : Boxed W dx 2 (.int .i64 n)) :
    Calls Try.prog 31 #[.agg #[.bool x.f0, .bool x.f1, .int .i64 x.f2], .pointer (some ⟨dx, 0, none⟩)] W fun e W' => e = .returned (.bool (ofP n x)) ∧ Below W.heap.size W W' := by
  have hu := Try.underlying35
  obtain ⟨a, b, c⟩ := x
  have hc := hb.cell
  have hc2 := (hb.alloc (.cells #[.bool a, .bool b, .int .i64 c] 35)).cell
  by_cases h1 : 0 < n
  · have e1 : ofP n ⟨a, b, c⟩ = (c == n) := by unfold ofP; rw [decide_eq_true h1]; rfl
    rw [e1]
    go_enter Try.func31, Try.ntmps31
    go_wp2
    go_ret
    exact ⟨rfl, (Below.refl _ _).alloc (Nat.le_refl _) _⟩
  · have e1 : ofP n ⟨a, b, c⟩ = false := by unfold ofP; rw [decide_eq_false h1]; rfl
    rw [e1]
    go_enter Try.func31, Try.ntmps31
    go_wp2
    go_ret
    exact ⟨rfl, (Below.refl _ _).alloc (Nat.le_refl _) _⟩
attribute [local go_sem] Oper.semAt_some
set_option maxHeartbeats 4000000 in
theorem nodes_Of.calls (A0 : Option Addr) (c0 : Nat) (l0 : List S35) (a1 : Int) (r : List Int) (w : World) (hr0 : Kd.C k35 w A0 l0.length l0) (hc0 : l0.length ≤ c0) (h : nodes_Of.f l0 a1 = some r) :
    Calls Try.prog 10 #[.slice A0 l0.length c0, .int .i64 a1] w fun e w' => ∃ v0_ : Value, e = .returned (v0_) ∧ Kd.R (Kd.int .i64) 3 w' w.heap.size (fun _ => True) v0_ r ∧ Below w.heap.size w w' := by
  obtain rfl := Option.some.inj h
  clear h
  have hlen := Aside0.mk (posT_length (ofP a1) l0)
  have HR := Aside0.mk hr0
  have HC := Aside0.mk hc0
  clear hr0 hc0
  obtain ⟨H, hH⟩ : ∃ H, w.heap.size = H := ⟨_, rfl⟩
  have hmf : ∀ (fn : Fn) (first cap : Array Value) (w : World), (Instr.makeFunc fn first cap).run Try.prog w = .ok (.func fn first cap) w := fun _ _ _ _ => rfl
  refine (callsIn_wide (n := 9)).1 (callsIn_of_wp_marks Try.func10 rfl trivial ?_ rfl)
  simp only [Try.ntmps10, List.size_toArray, List.length_cons, List.length_nil, Nat.reduceAdd, Nat.reduceSub, Array.replicate_succ, Array.replicate_zero, List.push_toArray, List.append_toArray, List.nil_append, List.cons_append]
  gi_wp2_with (refine ⟨trivial, ?_⟩; gi_at_call 29; refine (callsIn_wide.2 (nodes_places_calls _ _ rfl rfl _)).mono ?_; rintro e w3 ⟨rfl, rfl⟩; skip)
  have c1 : Boxed ((((w.alloc (Obj.cells #[Value.int IntKind.i64 a1] 2)).alloc (Obj.cells #[Value.slice none 0 0] 26)).alloc (Obj.cells #[Value.slice A0 l0.length c0] 22)).alloc (Obj.cells #[Value.func (Fn.func 31) #[] #[Value.pointer (some { block := H, off := 0 })]] 58)) H 2 (.int .i64 a1) := by
    rw [← hH]; exact (((Boxed.new w _ _).alloc _).alloc _).alloc _
  have c2 : Boxed ((((w.alloc (Obj.cells #[Value.int IntKind.i64 a1] 2)).alloc (Obj.cells #[Value.slice none 0 0] 26)).alloc (Obj.cells #[Value.slice A0 l0.length c0] 22)).alloc (Obj.cells #[Value.func (Fn.func 31) #[] #[Value.pointer (some { block := H, off := 0 })]] 58)) (H + 1) 26 (.slice none 0 0) := by
    have := ((Boxed.new (w.alloc (Obj.cells #[Value.int IntKind.i64 a1] 2)) 26 (.slice none 0 0)).alloc (Obj.cells #[Value.slice A0 l0.length c0] 22)).alloc (Obj.cells #[Value.func (Fn.func 31) #[] #[Value.pointer (some { block := H, off := 0 })]] 58)
    rwa [World.size_alloc, hH] at this
  have c3 : BoxN ((((w.alloc (Obj.cells #[Value.int IntKind.i64 a1] 2)).alloc (Obj.cells #[Value.slice none 0 0] 26)).alloc (Obj.cells #[Value.slice A0 l0.length c0] 22)).alloc (Obj.cells #[Value.func (Fn.func 31) #[] #[Value.pointer (some { block := H, off := 0 })]] 58)) (H + 1 + 1) 22 [.slice A0 l0.length c0] := by
    have := (BoxN.new ((w.alloc (Obj.cells #[Value.int IntKind.i64 a1] 2)).alloc (Obj.cells #[Value.slice none 0 0] 26)) 22 [.slice A0 l0.length c0]).alloc (Obj.cells #[Value.func (Fn.func 31) #[] #[Value.pointer (some { block := H, off := 0 })]] 58)
    rwa [World.size_alloc, World.size_alloc, hH] at this
  have c4 : BoxN ((((w.alloc (Obj.cells #[Value.int IntKind.i64 a1] 2)).alloc (Obj.cells #[Value.slice none 0 0] 26)).alloc (Obj.cells #[Value.slice A0 l0.length c0] 22)).alloc (Obj.cells #[Value.func (Fn.func 31) #[] #[Value.pointer (some { block := H, off := 0 })]] 58)) (H + 1 + 1 + 1) 58 [.func (.func 31) #[] #[.pointer (some ⟨H, 0, none⟩)]] := by
    have := BoxN.new (((w.alloc (Obj.cells #[Value.int IntKind.i64 a1] 2)).alloc (Obj.cells #[Value.slice none 0 0] 26)).alloc (Obj.cells #[Value.slice A0 l0.length c0] 22)) 58 [.func (.func 31) #[] #[.pointer (some ⟨H, 0, none⟩)]]
    rwa [World.size_alloc, World.size_alloc, World.size_alloc, hH] at this
  have c5 : Below w.heap.size w ((((w.alloc (Obj.cells #[Value.int IntKind.i64 a1] 2)).alloc (Obj.cells #[Value.slice none 0 0] 26)).alloc (Obj.cells #[Value.slice A0 l0.length c0] 22)).alloc (Obj.cells #[Value.func (Fn.func 31) #[] #[Value.pointer (some { block := H, off := 0 })]] 58)) := ((((Below.refl _ w).alloc (Nat.le_refl _) _).alloc (by simp) _).alloc (by simp; omega) _).alloc (by simp; omega) _
  have c6 : ((((w.alloc (Obj.cells #[Value.int IntKind.i64 a1] 2)).alloc (Obj.cells #[Value.slice none 0 0] 26)).alloc (Obj.cells #[Value.slice A0 l0.length c0] 22)).alloc (Obj.cells #[Value.func (Fn.func 31) #[] #[Value.pointer (some { block := H, off := 0 })]] 58)).heap.size = H + 4 := by simp [hH]
  generalize ((((w.alloc (Obj.cells #[Value.int IntKind.i64 a1] 2)).alloc (Obj.cells #[Value.slice none 0 0] 26)).alloc (Obj.cells #[Value.slice A0 l0.length c0] 22)).alloc (Obj.cells #[Value.func (Fn.func 31) #[] #[Value.pointer (some { block := H, off := 0 })]] 58)) = Wr at *
  have hO : Wr.ownsRow (H + 6) 3 1 (.slice none 0 0) 0 (nums .i64 []) := World.ownsRow_nil _ _ _ _
  obtain ⟨i0, hi, hz0, hz1, hz2⟩ := info_parts (P := Try.prog) (e := 3) (z := .int .i64 0) (size := 1) (bytes := 8) (by kernel_rfl)
  replace hi := Aside0.mk hi
  replace hz0 := Aside0.mk hz0
  replace hz1 := Aside0.mk hz1
  replace hz2 := Aside0.mk hz2
  refine wpIn_range (n := 9) (w := Wr) rfl (by omega) (gf := 43) (lb := #[.pointer (some ⟨H + 1 + 1, 0, none⟩), .pointer (some ⟨H + 1 + 1 + 1, 0, none⟩)]) rfl trivial (enters_of Try.func43 (by kernel_rfl) rfl)
    (nodes_places_seq w A0 c0 l0 (ofP a1) 31 #[.pointer (some ⟨H, 0, none⟩)] (H + 1 + 1) (H + 1 + 1 + 1) (fun k => k < H + 4 ∧ k ≠ H + 1) Wr HR.out HC.out c5 c3 c4 (fun k hk => by omega) (by omega) (by omega) (enters_of Try.func31 (by kernel_rfl) rfl) (fun x W hk => of_1.calls a1 x H W (hk.boxed c1 (by omega)))) (fun k hk => hk.elim) (fun k hk => by omega) (fun _ => rfl)
    (fun pre W => ((∃ v, Boxed W (H + 1) 26 v ∧ W.ownsRow (H + 6) 3 1 v pre.length (nums .i64 pre)) ∧ Below H w W))
    (fun _ _ _ => False)
    (by
      rintro s A B ⟨⟨v, h1, h2⟩, h3⟩ hk
      exact ⟨⟨v, hk.boxed h1 ⟨not_false, by omega, by omega⟩, hk.row h2 (fun k hk => ⟨not_false, by omega, by omega⟩)⟩, h3.trans (hk.below (by have := h3.size; omega) (fun k hk => ⟨not_false, by omega, by omega⟩))⟩)
    (fun _ _ _ _ h _ => h)
    ⟨⟨_, c2, hO⟩, by rw [← hH]; exact c5⟩
    (fun pre x a' W => ((∃ v, Boxed W (H + 1) 26 v ∧ W.ownsRow (H + 6) 3 1 v pre.length (nums .i64 pre)) ∧ Below H w W) ∧ H + 6 ≤ W.heap.size ∧ 
      a' = { tmps := #[Value.slice A0 l0.length c0, Value.int IntKind.i64 a1, undef, Value.pointer (some { block := H, off := 0 }),
        Value.slice none 0 0, Value.pointer (some { block := H + 1, off := 0 }), Value.int IntKind.i64 x, Value.slice A0 l0.length c0,
        Value.func (Fn.func 31) #[] #[Value.pointer (some { block := H, off := 0 })],
        Value.func (Fn.func 43) #[] #[Value.pointer (some { block := H + 1 + 1, off := 0 }), Value.pointer (some { block := H + 1 + 1 + 1, off := 0 })],
        Value.int IntKind.i64 x, undef, undef, undef, undef, undef], defers := [] })
    (by
      rintro pre x a' A B ⟨⟨⟨v, h1, h2⟩, h3⟩, h5, h6⟩ hk
      exact ⟨⟨⟨v, hk.boxed h1 (by omega), hk.row h2 (fun k hk => by omega)⟩, h3.trans (hk.below (by have := h3.size; omega) (fun k hk => by omega))⟩, Nat.le_trans h5 hk.size, h6⟩)
    ?assign ?body ?done (fun _ _ _ _ _ h _ => h.elim)
  case assign =>
    rintro pre x W hi hpre hsz
    simp only [encPos]
    gi_wp2
    exact ⟨Keeps.refl _ W, hi, by omega, by first | rfl | trivial⟩
  case body =>
    rintro pre x a' W hpre hrec ⟨⟨⟨v, hv, hrow⟩, hB⟩, hsz, rfl⟩
    have hc := hv.cell
    have hfz := hv.frozen
    have hpl : pre.length + 1 ≤ 64 := by
      have := (List.IsPrefix.length_le hpre)
      simp at this
      have := hlen.out
      omega
    have hml : (64 : Nat) ≤ maxLen := by decide
    replace hpre := Aside0.mk hpre
    gi_wp2_with (gi_at_builtin; refine wpListIn_append_own _ rfl _ _ 26 rfl (H + 6) 3 i0 (.int .i64 0) 1 8 Try.underlying26 hi.out hz0.out hz1.out hz2.out rfl (by decide) _ _ _ rfl (hrow.alloc _) ⟨W.heap.size, 0, none⟩ 1 1 [Value.int .i64 x] rfl rfl (cell_one_new _ _ _) (by simp [Value.oneCell']) (by omega) (by omega) (by simp; omega) ?_; intro v' w1 hown' hgrow _; obtain ⟨g', cap', rfl⟩ := ownsRow_succ hown'; have hv1 : Boxed w1 (H + 1) 26 v := (hv.alloc _).kept hgrow (not_own hrow (by omega)); have hc1 := hv1.cell; have hf1 := hv1.frozen; skip)
    have hk2 : Keeps (fun k => k < H + 6 ∧ k ≠ H + 1) W (w1.setCell ⟨H + 1, 0, none⟩ (Value.slice (some ⟨g', 0, none⟩) (pre.length + 1) cap')) :=
      (((Keeps.refl _ W).alloc _).grown hgrow (fun k e h => by have := (hrow.lt k (show v.ownBlock = some k from e)).1; omega)).setCell _ (fun h => h.2.2 rfl)
    have hr2 := (Keeps.setCell (K := fun k => k ≠ H + 1) (Keeps.refl _ w1) (p := ⟨H + 1, 0, none⟩) (Value.slice (some ⟨g', 0, none⟩) (pre.length + 1) cap') (fun h => h.2 rfl)).row hown' (fun k hk => by omega)
    have hv2 := hv1.set (Value.slice (some ⟨g', 0, none⟩) (pre.length + 1) cap')
    refine ⟨hk2.mono (fun k _ h => by omega), ⟨_, hv2, ?_⟩, hB.trans (hk2.below (by have := hB.size; omega) (fun k hk => by omega))⟩
    rw [nums_append, List.length_append, List.length_singleton]
    exact hr2
  case done =>
    intro xs W hsz hxs hI hW
    obtain ⟨⟨v, h1, h2⟩, h3⟩ := hI
    have hc1 := h1.cell
    have hf1 := h1.frozen
    subst hxs
    gi_wp2
    refine ⟨by simp, .inl ⟨_, _, rfl, run_takeDeferred hW, ?_⟩⟩
    have hk : Keeps (fun k => k ≠ Wr.heap.size) W (W.putObj Wr.heap.size (.deferred none)) := (Keeps.refl (fun k => k ≠ Wr.heap.size) W).putObj _ (fun h => h.2 rfl)
    refine ⟨v, by simp [results, Try.f10, go_sem], v, rfl, ?_, ?_⟩
    · rw [hH]
      exact Kd.R_of_own (own_weaken (hk.row h2 (fun k hk => by omega)) (by omega)) (fun _ _ => trivial)
    · rw [hH]
      exact h3.trans (hk.below (by have := h3.size; omega) (fun k hk => by omega))

/-! ### nodes_job: function 27 -/
def nodes_job.f (a0 : Int) : Option (Bool) := if a0 ≥ 1 then (some (decide (a0 ≤ 1073741824))) else (some false)
set_option maxHeartbeats 8000000 in
set_option maxRecDepth 100000 in
theorem nodes_job.calls (a0 : Int) (r : Bool) (w : World) (h : nodes_job.f a0 = some r) :
    Calls Try.prog 27 #[.int .i64 a0] w fun e w' => e = .returned (.bool r) ∧ Drawn0 w w' := by
  have H : (if a0 ≥ 1 then (some (decide (a0 ≤ 1073741824))) else (some false)) = some r := h
  clear h
  by_cases c2 : a0 ≥ 1
  · rw [if_pos c2] at H
    have c2b0 : decide (1 ≤ a0) = true := decide_eq_true c2
    clear c2
    obtain rfl := Option.some.inj H
    go_enter Try.func27, Try.ntmps27
    go_wp2
    go_ret
    exact ⟨by first | rfl | (simp; done) | (simp [*]; done), by repeat (first | exact Drawn0.refl _ | apply Drawn0.step)⟩
  · rw [if_neg c2] at H
    have c2b0 : decide (1 ≤ a0) = false := decide_eq_false c2
    clear c2
    obtain rfl := Option.some.inj H
    go_enter Try.func27, Try.ntmps27
    go_wp2
    go_ret
    exact ⟨by first | rfl | (simp; done) | (simp [*]; done), by repeat (first | exact Drawn0.refl _ | apply Drawn0.step)⟩

end Go.Proofs.Ytifebcdkckjphaa.P
