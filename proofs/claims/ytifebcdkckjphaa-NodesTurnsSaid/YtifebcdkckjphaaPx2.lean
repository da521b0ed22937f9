-- Written by this session's program gprint.py: functions of the program as plain functions, and that the machine does what they say. Not trusted: Lean checks it.
import Derived.Test.YtifebcdkckjphaaPx0
namespace Go.Proofs.Ytifebcdkckjphaa.P
open Go.RowKit Go.Proofs.YtifebcdkckjphaaW.PrintWords Go.Proofs.YtifebcdkckjphaaW.PrintLast Go.Proofs.YtifebcdkckjphaaW.PrintMore
attribute [local go_sem] max2_int min2_int max_two min_two max_three min_three max_four min_four   -- for this text's walks alone
set_option linter.unusedVariables false
set_option linter.unusedSimpArgs false

/-! ### api_Node_28: function 28 -/
theorem node_info : (Try.prog.info? 35).map (fun i => (i.zero, i.size, i.bytes)) = some (some (.agg #[(.bool false), (.bool false), (.int .i64 0)]), 3, 16) := by kernel_rfl
set_option maxHeartbeats 4000000 in
set_option maxRecDepth 100000 in
/-- A row of nodes, copied to a row of one's own. -/
theorem nodes_Clone_own (A0 : Option Addr) (c0 : Nat) (l0 : List S35) (w : World) (hr0 : Kd.C k35 w A0 l0.length l0) (hc0 : l0.length ≤ c0) (hp : 1 ≤ l0.length) (hl : l0.length ≤ 64) :
    Calls Try.prog 28 #[.slice A0 l0.length c0] w fun e w' => ∃ g cap, e = .returned (.slice (some ⟨g, 0, none⟩) l0.length cap) ∧ Kd.R k35 35 w' w.heap.size (fun _ => True) (.slice (some ⟨g, 0, none⟩) l0.length cap) l0 ∧ Below w.heap.size w w' := by
  obtain ⟨ad, rfl, _⟩ := hr0.2.2 (by omega)
  have hnil : ∀ (w : World) (c : Nat), (binOp .eql 22 (.slice (some ad) l0.length c) (.slice none 0 0)).run Try.prog w = .ok (.bool false) w := fun w c => by first | exact Lib.run_eql_slice_nil w _ _ _ _ _ Try.underlying22 | exact run_eql_slice_nil w _ _ _ _ _ Try.underlying22
  have HR0 := Aside0.mk hr0
  have HC0 := Aside0.mk hc0
  clear hr0 hc0
  have HB := Aside0.mk (Below.refl w.heap.size w)
  go_enter Try.func28, Try.ntmps28
  go_wp2_with (first | ((with_reducible refine gate_dst (N := 5) rfl ?_); refine Kd.R_lit k35 _ 35 ?hg (N := 5) ?hd (xs := ([] : List S35)) (inner := []) (ok := fun _ => True) (okp := fun _ => True) ?hr ?hp (fun _ hk => hk) trivial (Below.refl _ _) (Nat.le_refl _) (by simp) ?_; (case hd => rfl); (case hg => rfl); (case hr => first | (go_simp; done) | (go_simp; rfl)); (case hp => exact (Reps.none _ _)); intro v127 w3 ho4 hb hg_ hnew_; clear hg_ hnew_; have n0_ := Aside0.mk (Kd.R_lower ho4 (below_size (by repeat (first | (with_reducible first | exact HB.out | apply below_alloc | apply pw_below_drewN | apply below_drew1) | exact HB.out)))); have n1_ := Aside0.mk (below_step (by repeat (first | (with_reducible first | exact HB.out | apply below_alloc | apply pw_below_drewN | apply below_drew1) | exact HB.out)) hb); clear HB; have HO128 := n0_; have HB := n1_; clear n0_ n1_; clear hb ho4) | ((with_reducible refine gate_builtin (b := .append) (xs := #[.tmp 5, .tmp 6]) rfl ?_); at_builtin; refine Kd.R_append_rows k35 (w0 := w) w.heap.size rfl (.tmp 5) (.tmp 6) 22 35 (.agg #[(.bool false), (.bool false), (.int .i64 0)]) 16 rfl Try.underlying22 node_info rfl (by decide) (by omega) v127 [] l0 _ _ _ (fun _ => True) (fun _ => False) rfl rfl ?aO ?aR (fun _ _ h => h) (fun _ h => h.elim) ?aF ?aB ?aS ?aL ?_; (case aR => repeat (first | exact (Kd.C_below HR0.out HB.out) | (with_reducible refine Kd.C_alloc ?_ _) | (with_reducible refine Kd.C_drewN ?_ _) | (with_reducible refine Kd.C_drew ?_))); (case aB => exact (by repeat (first | (with_reducible first | exact HB.out | apply below_alloc | apply pw_below_drewN | apply below_drew1) | exact HB.out))); (case aF => exact (fun _ _ => trivial)); (case aO => exact (by (with_reducible repeat (first | apply Kd.R_alloc | apply Kd.R_drewN | apply Kd.R_drew)); exact HO128.out)); (case aS => exact (below_size (by repeat (first | (with_reducible first | exact HB.out | apply below_alloc | apply pw_below_drewN | apply below_drew1) | exact HB.out)))); (case aL => simp; omega); intro v130 w5 ho hb hg hat; have n0_ := Aside0.mk (hb); have n1_ := Aside0.mk (ho); clear HB; clear HO128; have HB := n0_; have HO131 := n1_; clear n0_ n1_; clear ho hb hg hat))
  go_ret
  have ho : Kd.R k35 35 w5 w.heap.size (fun _ => True) v130 l0 := HO131.out
  obtain ⟨inner, hown⟩ := Kd.R_own ho
  obtain ⟨g, cap, rfl, _, _⟩ := hown.form (by omega)
  exact ⟨g, cap, rfl, ho, HB.out⟩

/-! ### api_Node_33: function 33 -/
/-- Is it no node that may be? -/
def badN (x : S35) : Bool := decide (x.f2 < 0) || (decide (x.f2 > 1073741824) || (!x.f0 && x.f2 != 0))
/-- A node as a value. -/
def nodeV (x : S35) : Value := .agg #[.bool x.f0, .bool x.f1, .int .i64 x.f2]
set_option maxHeartbeats 1000000 in
theorem check_1.calls (x : S35) (w : World) : Calls Try.prog 34 #[.agg #[.bool x.f0, .bool x.f1, .int .i64 x.f2]] w fun e w' => e = .returned (.bool (badN x)) ∧ Below w.heap.size w w' := by
  have hu := Try.underlying35
  obtain ⟨a, b, c⟩ := x
  by_cases h1 : c < 0
  · have hb : badN ⟨a, b, c⟩ = true := by unfold badN; rw [decide_eq_true h1]; rfl
    rw [hb]
    go_enter Try.func34, Try.ntmps34
    go_wp2
    go_ret
    exact ⟨rfl, (Below.refl _ _).alloc (Nat.le_refl _) _⟩
  by_cases h2 : 1073741824 < c
  · have hb : badN ⟨a, b, c⟩ = true := by unfold badN; rw [decide_eq_false h1, decide_eq_true h2]; rfl
    rw [hb]
    go_enter Try.func34, Try.ntmps34
    go_wp2
    go_ret
    exact ⟨rfl, (Below.refl _ _).alloc (Nat.le_refl _) _⟩
  have hb : badN ⟨a, b, c⟩ = (!a && c != 0) := by unfold badN; rw [decide_eq_false h1, decide_eq_false h2]; rfl
  rw [hb]
  cases a with
  | true =>
    go_enter Try.func34, Try.ntmps34
    go_wp2
    go_ret
    exact ⟨rfl, (Below.refl _ _).alloc (Nat.le_refl _) _⟩
  | false =>
    go_enter Try.func34, Try.ntmps34
    go_wp2
    go_ret
    exact ⟨rfl, (Below.refl _ _).alloc (Nat.le_refl _) _⟩
set_option maxHeartbeats 4000000 in
theorem index_n.calls (A0 : Option Addr) (c0 : Nat) (l0 : List S35) (w : World) (hr0 : Kd.C k35 w A0 l0.length l0) :
    Calls Try.prog 44 #[.slice A0 l0.length c0, .func (Fn.func 34) #[] #[]] w fun e w' => (∃ n : Int, e = .returned (.int .i64 n) ∧ decide (0 ≤ n) = l0.any badN) ∧ Below w.heap.size w w' := by
  have hu := Try.underlying35
  have HR0 := Aside0.mk hr0
  have hm : l0.length ≤ 9223372036854775807 := hr0.2.1
  clear hr0
  go_enter Try.func44, Try.ntmps44
  go_wp2
  go_loopg [8] l0.length (fun kq v8 w' => ∃ i : Nat, v8 = .int .i64 i ∧ Aside0 (kq + i = l0.length) ∧ Aside0 ((l0.take i).any badN = false) ∧ Aside0 (Below w.heap.size w w'))
  case atStart => exact ⟨0, rfl, ⟨rfl⟩, ⟨rfl⟩, ⟨Below.refl _ _⟩⟩
  case round =>
    obtain ⟨i, rfl, HK, HP, HB⟩ := hrel
    cases gk with
    | zero =>
      have e : i = l0.length := by have := HK.out; omega
      subst e
      go_wp2
      go_ret
      refine ⟨⟨-1, rfl, ?_⟩, HB.out⟩
      have := HP.out
      rw [List.take_length] at this
      rw [this]; rfl
    | succ k1 =>
      have hlt : i < l0.length := by have := HK.out; omega
      obtain ⟨ad, e1, hx0, hx1, hx2⟩ := at_T35 (Kd.C_below HR0.out HB.out) (i : Int) (by omega) (by omega)
      cases e1
      have er : rd_T35 l0 (i : Int) = l0[i] := by simp [rd_T35, List.getD_eq_getElem?_getD, List.getElem?_eq_getElem hlt]
      rw [er] at hx0 hx1 hx2
      clear er
      have HT := Aside0.mk (List.take_succ_eq_append_getElem (l := l0) hlt)
      have HM := Aside0.mk (List.getElem_mem hlt)
      generalize l0[i] = x at *
      simp only [Int.toNat_natCast] at hx0 hx1 hx2
      cases hb : badN x with
      | true =>
        go_wp2_with (go_at_call 34; refine (check_1.calls x _).mono ?_; rintro e w' ⟨rfl, hb1⟩; rw [hb]; replace hb1 := Aside0.mk hb1)
        go_ret
        refine ⟨⟨i, rfl, ?_⟩, HB.out.trans (hb1.out.mono HB.out.size)⟩
        rw [decide_eq_true (by omega)]
        exact (List.any_eq_true.2 ⟨x, HM.out, hb⟩).symm
      | false =>
        go_wp2_with (go_at_call 34; refine (check_1.calls x _).mono ?_; rintro e w' ⟨rfl, hb1⟩; rw [hb]; replace hb1 := Aside0.mk hb1)
        go_roundg k1
        case measure => omega
        case rel => exact ⟨i + 1, by go_num, ⟨by have := HK.out; omega⟩, ⟨by rw [HT.out, List.any_append, HP.out]; simp [hb]⟩, ⟨HB.out.trans (hb1.out.mono HB.out.size)⟩⟩
set_option maxHeartbeats 1000000 in
/-- Is any of a row no node that may be? -/
theorem contains_n.calls (A0 : Option Addr) (c0 : Nat) (l0 : List S35) (w : World) (hr0 : Kd.C k35 w A0 l0.length l0) :
    Calls Try.prog 33 #[.slice A0 l0.length c0, .func (Fn.func 34) #[] #[]] w fun e w' => e = .returned (.bool (l0.any badN)) ∧ Below w.heap.size w w' := by
  go_enter Try.func33, Try.ntmps33
  go_wp2_with (go_at_call 44; (refine (index_n.calls _ _ l0 _ hr0).mono ?_); rintro e w' ⟨⟨n, rfl, hn⟩, hb⟩; replace hn := Aside0.mk hn; replace hb := Aside0.mk hb)
  go_ret
  exact ⟨by rw [← hn.out]; rfl, hb.out⟩

/-! ### nodes_Check: function 12 -/
/-- May a row of nodes be? -/
def okNodes (l : List S35) : Bool := decide (1 ≤ l.length ∧ l.length ≤ 64) && !l.any badN
def nodes_Check.f (l : List S35) : Option Int := some (if okNodes l then 0 else 2)
set_option maxHeartbeats 2000000 in
theorem nodes_Check.calls (A0 : Option Addr) (c0 : Nat) (l0 : List S35) (r : Int) (w : World) (hr0 : Kd.C k35 w A0 l0.length l0) (hc0 : l0.length ≤ c0) (h : nodes_Check.f l0 = some r) :
    Calls Try.prog 12 #[.slice A0 l0.length c0] w fun e w' => e = .returned (.int .i64 r) ∧ Below w.heap.size w w' := by
  obtain rfl := Option.some.inj h
  clear h
  by_cases h1 : l0.length < 1
  · have hk : okNodes l0 = false := by unfold okNodes; rw [decide_eq_false (by omega)]; rfl
    rw [hk]
    have h1' : (l0.length : Int) < 1 := by omega
    go_enter Try.func12, Try.ntmps12
    go_wp2
    go_ret
    exact ⟨rfl, Below.refl _ _⟩
  by_cases h2 : 64 < l0.length
  · have hk : okNodes l0 = false := by unfold okNodes; rw [decide_eq_false (by omega)]; rfl
    rw [hk]
    have h1' : ¬ (l0.length : Int) < 1 := by omega
    have h2' : (64 : Int) < (l0.length : Int) := by omega
    go_enter Try.func12, Try.ntmps12
    go_wp2
    go_ret
    exact ⟨rfl, Below.refl _ _⟩
  have hk : okNodes l0 = !l0.any badN := by unfold okNodes; rw [decide_eq_true (by omega)]; rfl
  rw [hk]
  have h1' : ¬ (l0.length : Int) < 1 := by omega
  have h2' : ¬ (64 : Int) < (l0.length : Int) := by omega
  clear h1 h2
  have HR := Aside0.mk hr0
  clear hr0
  cases hb : l0.any badN with
  | true =>
    go_enter Try.func12, Try.ntmps12
    go_wp2_with (go_at_call 33; (refine (contains_n.calls _ _ l0 _ HR.out).mono ?_); rintro e w' ⟨rfl, hw⟩; rw [hb]; replace hw := Aside0.mk hw)
    go_ret
    exact ⟨rfl, hw.out⟩
  | false =>
    go_enter Try.func12, Try.ntmps12
    go_wp2_with (go_at_call 33; (refine (contains_n.calls _ _ l0 _ HR.out).mono ?_); rintro e w' ⟨rfl, hw⟩; rw [hb]; replace hw := Aside0.mk hw)
    go_ret
    exact ⟨rfl, hw.out⟩

/-! ### nodes_places: function 29 -/
/-- The first places of which something is so. -/
def posU (p : S35 → Bool) (l : List S35) (i : Nat) : List Int := ((List.range i).filter (fun j => p (l.getD j z35))).map Int.ofNat
def posT (p : S35 → Bool) (l : List S35) : List Int := if okNodes l then posU p l l.length else []
theorem posU_succ (p : S35 → Bool) (l : List S35) (i : Nat) : posU p l (i + 1) = posU p l i ++ (if p (l.getD i z35) then [(i : Int)] else []) := by
  unfold posU
  rw [List.range_succ, List.filter_append, List.map_append]
  congr 1
  by_cases h : p (l.getD i z35) = true
  · rw [if_pos h]
    simp only [List.filter, h]
    rfl
  · have h' : p (l.getD i z35) = false := by simpa using h
    rw [if_neg h]
    simp only [List.filter, h']
    rfl
theorem posU_pre (p : S35 → Bool) (l : List S35) : ∀ (d i : Nat), posU p l i <+: posU p l (i + d)
  | 0, i => List.prefix_refl _
  | d + 1, i => by
    rw [show i + (d + 1) = (i + d) + 1 by omega, posU_succ]
    exact (posU_pre p l d i).trans (List.prefix_append _ _)
def encPos (x : Int) : Array Value := #[.int .i64 x]
theorem nodes_places_calls (v0 v1 : Value) (h0 : v0.oneCell' = true) (h1 : v1.oneCell' = true) (w : World) : Calls Try.prog 29 #[v0, v1] w fun e w' => e = .returned (.func (.func 43) #[] #[.pointer (some ⟨w.heap.size, 0, none⟩), .pointer (some ⟨w.heap.size + 1, 0, none⟩)]) ∧ w' = (w.alloc (.cells #[v0] 22)).alloc (.cells #[v1] 58) := by
  have hmf : ∀ (fn : Fn) (first cap : Array Value) (w : World), (Instr.makeFunc fn first cap).run Try.prog w = .ok (.func fn first cap) w := fun _ _ _ _ => rfl
  go_enter Try.func29, Try.ntmps29
  go_wp2
  go_ret
  exact ⟨rfl, rfl⟩
set_option maxHeartbeats 4000000 in
theorem nodes_places_seq (w0 : World) (A : Option Addr) (c : Nat) (l0 : List S35) (p : S35 → Bool) (f : Nat) (lb : Array Value) (bx bf : Nat) (R : Nat → Prop) (w : World) (hA : Kd.C k35 w0 A l0.length l0) (hc : l0.length ≤ c)
    (hb0 : Below w0.heap.size w0 w) (hb : BoxN w bx 22 [.slice A l0.length c]) (hbf : BoxN w bf 58 [.func (.func f) #[] lb])
    (hR0 : ∀ k, k < w0.heap.size → R k) (hRx : R bx) (hRf : R bf)
    (hent : ∀ args w, (callFunc f args).run Try.prog w = .ok (.enter f args) w)
    (hso : ∀ (x : S35) (W : World), Keeps R w W → Calls Try.prog f (#[.agg #[.bool x.f0, .bool x.f1, .int .i64 x.f2]] ++ lb) W fun e W' => e = .returned (.bool (p x)) ∧ Below W.heap.size W W') :
    RSeq Fence.wide 8 Try.prog 43 #[.pointer (some ⟨bx, 0, none⟩), .pointer (some ⟨bf, 0, none⟩)] encPos R (fun _ => False)
      (fun pre => pre <+: posT p l0) (fun xs => xs = posT p l0) w := by
  intro l J Jx W hW hJ hJx hY h0
  have hu := Try.underlying35
  refine callsIn_of_wp Try.func43 rfl trivial ?_ rfl
  simp only [Try.ntmps43, List.size_toArray, List.length_cons, List.length_nil, Nat.reduceAdd, Nat.reduceSub, Array.replicate_succ, Array.replicate_zero, List.push_toArray, List.append_toArray, List.nil_append, List.cons_append]
  have HK0 := Aside0.mk (show Keeps R w W from Keeps.of_below hW (fun k hk _ => hk))
  replace hJ := Aside0.mk hJ
  replace hJx := Aside0.mk hJx
  replace hY := Aside0.mk hY
  replace h0 := Aside0.mk h0
  replace hb := Aside0.mk hb
  replace hbf := Aside0.mk hbf
  replace hb0 := Aside0.mk hb0
  replace hA := Aside0.mk hA
  replace hc := Aside0.mk hc
  replace hso := Aside0.mk hso
  replace hR0 := Aside0.mk hR0
  replace hRx := Aside0.mk hRx
  replace hRf := Aside0.mk hRf
  clear hW
  have hc0 := (HK0.out.boxN hb.out hRx.out).cell 0 rfl
  have hg0 := (HK0.out.boxN hbf.out hRf.out).cell 0 rfl
  by_cases hok : okNodes l0 = true
  case neg =>
    have hok' : okNodes l0 = false := by simpa using hok
    have HE := Aside0.mk (show nodes_Check.f l0 = some 2 by unfold nodes_Check.f; rw [hok']; rfl)
    have HT := Aside0.mk (show posT p l0 = [] by unfold posT; rw [hok']; rfl)
    clear hok hok'
    gi_wp2_with (refine ⟨trivial, ?_⟩; gi_at_call 12; refine (callsIn_wide.2 (nodes_Check.calls _ _ l0 _ _ (Kd.C_below hA.out (hb0.out.trans (HK0.out.below hb0.out.size hR0.out))) hc.out HE.out)).mono ?_; rintro e w1 ⟨rfl, hb1⟩; replace hb1 := Aside0.mk hb1)
    refine bodyPost_ret (results_none rfl _ _ _) rfl ?_
    exact ⟨⟨_, rfl⟩, .inl ⟨[], HT.out.symm, hJ.out _ _ _ h0.out (Keeps.of_below hb1.out (fun k hk _ => hk))⟩⟩
  have HE := Aside0.mk (show nodes_Check.f l0 = some 0 by unfold nodes_Check.f; rw [hok]; rfl)
  have HT := Aside0.mk (show posT p l0 = posU p l0 l0.length by unfold posT; rw [hok]; rfl)
  have hl64 : l0.length ≤ 64 := by
    unfold okNodes at hok
    simp only [Bool.and_eq_true, decide_eq_true_eq] at hok
    omega
  clear hok
  gi_wp2_with (refine ⟨trivial, ?_⟩; gi_at_call 12; refine (callsIn_wide.2 (nodes_Check.calls _ _ l0 _ _ (Kd.C_below hA.out (hb0.out.trans (HK0.out.below hb0.out.size hR0.out))) hc.out HE.out)).mono ?_; rintro e w1 ⟨rfl, hb1⟩; have hK1 := Aside0.mk (HK0.out.trans (Keeps.of_below hb1 (fun k hk _ => hk))); have hc1 := (hK1.out.boxN hb.out hRx.out).cell 0 rfl; have hJ1 := Aside0.mk (hJ.out _ _ _ h0.out (Keeps.of_below hb1 (fun k hk _ => hk))); clear hc0 hg0 hb1)
  clear h0 HE HK0
  gi_loopg [11] l0.length (fun kq v11 wr => ∃ i : Nat, v11 = .int .i64 i ∧ Aside0 (kq + i = l0.length) ∧ Aside0 (Keeps R w wr) ∧ Aside0 (J (posU p l0 i) wr))
  case atStart => exact ⟨0, rfl, ⟨rfl⟩, hK1, hJ1⟩
  case round =>
    clear hc1 hK1 hJ1
    obtain ⟨i, rfl, HK, HP, HJ⟩ := hrel
    have hg1 := (HP.out.boxN hbf.out hRf.out).cell 0 rfl
    cases gk with
    | zero =>
      have e : i = l0.length := by have := HK.out; omega
      subst e
      gi_wp2
      (try simp only [Exit.noGoto_normal])
      go_end0
      exact ⟨⟨_, rfl⟩, .inl ⟨_, HT.out.symm, HJ.out⟩⟩
    | succ k1 =>
      have hlt : i < l0.length := by have := HK.out; omega
      have hlt0 : (0 : Int) ≤ (i : Int) := Int.natCast_nonneg _
      have hlt1 : (i : Int) < (l0.length : Int) := by omega
      obtain ⟨ad, eA, hx0, hx1, hx2⟩ := at_T35 (Kd.C_below hA.out (hb0.out.trans (HP.out.below hb0.out.size hR0.out))) (i : Int) hlt0 hlt1
      subst eA
      have er : rd_T35 l0 (i : Int) = l0.getD i z35 := by simp [rd_T35]
      rw [er] at hx0 hx1 hx2
      rw [Int.toNat_natCast] at hx0 hx1 hx2
      have hsu := Aside0.mk (posU_succ p l0 i)
      have hpre := Aside0.mk (show posU p l0 (i + 1) <+: posT p l0 by
        rw [HT.out]
        have := posU_pre p l0 (l0.length - (i + 1)) (i + 1)
        rwa [show i + 1 + (l0.length - (i + 1)) = l0.length by omega] at this)
      clear er
      generalize l0.getD i z35 = x at *
      have hg2 := ((HP.out.boxN hbf.out hRf.out).alloc (.cells #[.bool x.f0, .bool x.f1, .int .i64 x.f2] 35)).cell 0 rfl
      cases hp : p x with
      | false =>
        replace hsu := Aside0.mk (show posU p l0 (i + 1) = posU p l0 i by have := hsu.out; rw [hp] at this; simpa using this)
        gi_wp2_with (refine ⟨trivial, ?_⟩; refine (callsIn_wide.2 (hso.out x _ (HP.out.alloc _))).mono ?_; rintro e w4 ⟨rfl, hb4⟩; rw [hp]; replace hb4 := Aside0.mk hb4)
        refine ⟨fun f hf => absurd hf (by simp), ?_⟩
        gi_wp2
        gi_roundg k1
        case measure => omega
        case rel =>
          exact ⟨i + 1, by go_num, ⟨by have := HK.out; omega⟩, ⟨(HP.out.alloc _).trans (Keeps.of_below hb4.out (fun k hk _ => hk))⟩, ⟨by rw [hsu.out]; exact hJ.out _ _ _ HJ.out (((Keeps.refl _ _).alloc _).trans (Keeps.of_below hb4.out (fun k hk _ => hk)))⟩⟩
      | true =>
        replace hsu := Aside0.mk (show posU p l0 (i + 1) = posU p l0 i ++ [(i : Int)] by have := hsu.out; rw [hp] at this; simpa using this)
        gi_wp2_with (refine ⟨trivial, ?_⟩; refine (callsIn_wide.2 (hso.out x _ (HP.out.alloc _))).mono ?_; rintro e w4 ⟨rfl, hb4⟩; rw [hp]; have HP4 := Aside0.mk ((HP.out.alloc _).trans (Keeps.of_below hb4 (fun k hk _ => hk))); have HJ4 := Aside0.mk (hJ.out _ _ _ HJ.out (((Keeps.refl _ _).alloc _).trans (Keeps.of_below hb4 (fun k hk _ => hk)))); obtain ⟨fn, tmps, assign, body, hy', hR⟩ := hY.out _ (i : Int) w4 HJ4.out (by rw [← hsu.out]; exact hpre.out); simp only [encPos] at hy'; clear hb4)
        refine hR.mono ?_
        rintro e W3 (⟨rfl, hJ3, hk3⟩ | ⟨rfl, hJx3⟩)
        · gi_wp2
          gi_roundg k1
          case measure => omega
          case rel =>
            exact ⟨i + 1, by go_num, ⟨by have := HK.out; omega⟩, ⟨HP4.out.trans hk3⟩, ⟨by rw [hsu.out]; exact hJ3⟩⟩
        · gi_wp2
          refine bodyPost_ret (results_none rfl _ _ _) rfl ?_
          exact ⟨⟨_, rfl⟩, .inr ⟨_, by rw [← hsu.out]; exact hpre.out, hJx3⟩⟩

/-! ### nodes_Of: function 10 -/
def ofP (n : Int) (x : S35) : Bool := decide (0 < n) && x.f2 == n
def nodes_Of.f (l : List S35) (n : Int) : Option (List Int) := some (posT (ofP n) l)
theorem posT_length (p : S35 → Bool) (l0 : List S35) : (posT p l0).length ≤ 64 := by
  unfold posT
  by_cases h : okNodes l0 = true
  · rw [if_pos h]
    unfold okNodes at h
    simp only [Bool.and_eq_true, decide_eq_true_eq] at h
    unfold posU
    rw [List.length_map]
    refine Nat.le_trans (List.length_filter_le _ _) ?_
    rw [List.length_range]
    omega
  · rw [if_neg h]; simp
set_option maxHeartbeats 2000000 in
theorem of_1.calls (n : Int) (x : S35) (dx : Nat) (W : World) (hb : Boxed W dx 2 (.int .i64 n)) :
    Calls Try.prog 31 #[.agg #[.bool x.f0, .bool x.f1, .int .i64 x.f2], .pointer (some ⟨dx, 0, none⟩)] W fun e W' => e = .returned (.bool (ofP n x)) ∧ Below W.heap.size W W' := by
  have hu := Try.underlying35
  obtain ⟨a, b, c⟩ := x
  have hc := hb.cell
  have hc2 := (hb.alloc (.cells #[.bool a, .bool b, .int .i64 c] 35)).cell
  by_cases h1 : 0 < n
  · have e1 : ofP n ⟨a, b, c⟩ = (c == n) := by unfold ofP; rw [decide_eq_true h1]; rfl
    rw [e1]
    go_enter Try.func31, Try.ntmps31
    go_wp2
    go_ret
    exact ⟨rfl, (Below.refl _ _).alloc (Nat.le_refl _) _⟩
  · have e1 : ofP n ⟨a, b, c⟩ = false := by unfold ofP; rw [decide_eq_false h1]; rfl
    rw [e1]
    go_enter Try.func31, Try.ntmps31
    go_wp2
    go_ret
    exact ⟨rfl, (Below.refl _ _).alloc (Nat.le_refl _) _⟩
attribute [local go_sem] Oper.semAt_some
set_option maxHeartbeats 4000000 in
theorem nodes_Of.calls (A0 : Option Addr) (c0 : Nat) (l0 : List S35) (a1 : Int) (r : List Int) (w : World) (hr0 : Kd.C k35 w A0 l0.length l0) (hc0 : l0.length ≤ c0) (h : nodes_Of.f l0 a1 = some r) :
    Calls Try.prog 10 #[.slice A0 l0.length c0, .int .i64 a1] w fun e w' => ∃ v0_ : Value, e = .returned (v0_) ∧ Kd.R (Kd.int .i64) 3 w' w.heap.size (fun _ => True) v0_ r ∧ Below w.heap.size w w' := by
  obtain rfl := Option.some.inj h
  clear h
  have hlen := Aside0.mk (posT_length (ofP a1) l0)
  have HR := Aside0.mk hr0
  have HC := Aside0.mk hc0
  clear hr0 hc0
  obtain ⟨H, hH⟩ : ∃ H, w.heap.size = H := ⟨_, rfl⟩
  have hmf : ∀ (fn : Fn) (first cap : Array Value) (w : World), (Instr.makeFunc fn first cap).run Try.prog w = .ok (.func fn first cap) w := fun _ _ _ _ => rfl
  refine (callsIn_wide (n := 9)).1 (callsIn_of_wp_marks Try.func10 rfl trivial ?_ rfl)
  simp only [Try.ntmps10, List.size_toArray, List.length_cons, List.length_nil, Nat.reduceAdd, Nat.reduceSub, Array.replicate_succ, Array.replicate_zero, List.push_toArray, List.append_toArray, List.nil_append, List.cons_append]
  gi_wp2_with (refine ⟨trivial, ?_⟩; gi_at_call 29; refine (callsIn_wide.2 (nodes_places_calls _ _ rfl rfl _)).mono ?_; rintro e w3 ⟨rfl, rfl⟩; skip)
  have c1 : Boxed ((((w.alloc (Obj.cells #[Value.int IntKind.i64 a1] 2)).alloc (Obj.cells #[Value.slice none 0 0] 26)).alloc (Obj.cells #[Value.slice A0 l0.length c0] 22)).alloc (Obj.cells #[Value.func (Fn.func 31) #[] #[Value.pointer (some { block := H, off := 0 })]] 58)) H 2 (.int .i64 a1) := by
    rw [← hH]; exact (((Boxed.new w _ _).alloc _).alloc _).alloc _
  have c2 : Boxed ((((w.alloc (Obj.cells #[Value.int IntKind.i64 a1] 2)).alloc (Obj.cells #[Value.slice none 0 0] 26)).alloc (Obj.cells #[Value.slice A0 l0.length c0] 22)).alloc (Obj.cells #[Value.func (Fn.func 31) #[] #[Value.pointer (some { block := H, off := 0 })]] 58)) (H + 1) 26 (.slice none 0 0) := by
    have := ((Boxed.new (w.alloc (Obj.cells #[Value.int IntKind.i64 a1] 2)) 26 (.slice none 0 0)).alloc (Obj.cells #[Value.slice A0 l0.length c0] 22)).alloc (Obj.cells #[Value.func (Fn.func 31) #[] #[Value.pointer (some { block := H, off := 0 })]] 58)
    rwa [World.size_alloc, hH] at this
  have c3 : BoxN ((((w.alloc (Obj.cells #[Value.int IntKind.i64 a1] 2)).alloc (Obj.cells #[Value.slice none 0 0] 26)).alloc (Obj.cells #[Value.slice A0 l0.length c0] 22)).alloc (Obj.cells #[Value.func (Fn.func 31) #[] #[Value.pointer (some { block := H, off := 0 })]] 58)) (H + 1 + 1) 22 [.slice A0 l0.length c0] := by
    have := (BoxN.new ((w.alloc (Obj.cells #[Value.int IntKind.i64 a1] 2)).alloc (Obj.cells #[Value.slice none 0 0] 26)) 22 [.slice A0 l0.length c0]).alloc (Obj.cells #[Value.func (Fn.func 31) #[] #[Value.pointer (some { block := H, off := 0 })]] 58)
    rwa [World.size_alloc, World.size_alloc, hH] at this
  have c4 : BoxN ((((w.alloc (Obj.cells #[Value.int IntKind.i64 a1] 2)).alloc (Obj.cells #[Value.slice none 0 0] 26)).alloc (Obj.cells #[Value.slice A0 l0.length c0] 22)).alloc (Obj.cells #[Value.func (Fn.func 31) #[] #[Value.pointer (some { block := H, off := 0 })]] 58)) (H + 1 + 1 + 1) 58 [.func (.func 31) #[] #[.pointer (some ⟨H, 0, none⟩)]] := by
    have := BoxN.new (((w.alloc (Obj.cells #[Value.int IntKind.i64 a1] 2)).alloc (Obj.cells #[Value.slice none 0 0] 26)).alloc (Obj.cells #[Value.slice A0 l0.length c0] 22)) 58 [.func (.func 31) #[] #[.pointer (some ⟨H, 0, none⟩)]]
    rwa [World.size_alloc, World.size_alloc, World.size_alloc, hH] at this
  have c5 : Below w.heap.size w ((((w.alloc (Obj.cells #[Value.int IntKind.i64 a1] 2)).alloc (Obj.cells #[Value.slice none 0 0] 26)).alloc (Obj.cells #[Value.slice A0 l0.length c0] 22)).alloc (Obj.cells #[Value.func (Fn.func 31) #[] #[Value.pointer (some { block := H, off := 0 })]] 58)) := ((((Below.refl _ w).alloc (Nat.le_refl _) _).alloc (by simp) _).alloc (by simp; omega) _).alloc (by simp; omega) _
  have c6 : ((((w.alloc (Obj.cells #[Value.int IntKind.i64 a1] 2)).alloc (Obj.cells #[Value.slice none 0 0] 26)).alloc (Obj.cells #[Value.slice A0 l0.length c0] 22)).alloc (Obj.cells #[Value.func (Fn.func 31) #[] #[Value.pointer (some { block := H, off := 0 })]] 58)).heap.size = H + 4 := by simp [hH]
  generalize ((((w.alloc (Obj.cells #[Value.int IntKind.i64 a1] 2)).alloc (Obj.cells #[Value.slice none 0 0] 26)).alloc (Obj.cells #[Value.slice A0 l0.length c0] 22)).alloc (Obj.cells #[Value.func (Fn.func 31) #[] #[Value.pointer (some { block := H, off := 0 })]] 58)) = Wr at *
  have hO : Wr.ownsRow (H + 6) 3 1 (.slice none 0 0) 0 (nums .i64 []) := World.ownsRow_nil _ _ _ _
  obtain ⟨i0, hi, hz0, hz1, hz2⟩ := info_parts (P := Try.prog) (e := 3) (z := .int .i64 0) (size := 1) (bytes := 8) (by kernel_rfl)
  replace hi := Aside0.mk hi
  replace hz0 := Aside0.mk hz0
  replace hz1 := Aside0.mk hz1
  replace hz2 := Aside0.mk hz2
  refine wpIn_range (n := 9) (w := Wr) rfl (by omega) (gf := 43) (lb := #[.pointer (some ⟨H + 1 + 1, 0, none⟩), .pointer (some ⟨H + 1 + 1 + 1, 0, none⟩)]) rfl trivial (enters_of Try.func43 (by kernel_rfl) rfl)
    (nodes_places_seq w A0 c0 l0 (ofP a1) 31 #[.pointer (some ⟨H, 0, none⟩)] (H + 1 + 1) (H + 1 + 1 + 1) (fun k => k < H + 4 ∧ k ≠ H + 1) Wr HR.out HC.out c5 c3 c4 (fun k hk => by omega) (by omega) (by omega) (enters_of Try.func31 (by kernel_rfl) rfl) (fun x W hk => of_1.calls a1 x H W (hk.boxed c1 (by omega)))) (fun k hk => hk.elim) (fun k hk => by omega) (fun _ => rfl)
    (fun pre W => ((∃ v, Boxed W (H + 1) 26 v ∧ W.ownsRow (H + 6) 3 1 v pre.length (nums .i64 pre)) ∧ Below H w W))
    (fun _ _ _ => False)
    (by
      rintro s A B ⟨⟨v, h1, h2⟩, h3⟩ hk
      exact ⟨⟨v, hk.boxed h1 ⟨not_false, by omega, by omega⟩, hk.row h2 (fun k hk => ⟨not_false, by omega, by omega⟩)⟩, h3.trans (hk.below (by have := h3.size; omega) (fun k hk => ⟨not_false, by omega, by omega⟩))⟩)
    (fun _ _ _ _ h _ => h)
    ⟨⟨_, c2, hO⟩, by rw [← hH]; exact c5⟩
    (fun pre x a' W => ((∃ v, Boxed W (H + 1) 26 v ∧ W.ownsRow (H + 6) 3 1 v pre.length (nums .i64 pre)) ∧ Below H w W) ∧ H + 6 ≤ W.heap.size ∧ 
      a' = { tmps := #[Value.slice A0 l0.length c0, Value.int IntKind.i64 a1, undef, Value.pointer (some { block := H, off := 0 }),
        Value.slice none 0 0, Value.pointer (some { block := H + 1, off := 0 }), Value.int IntKind.i64 x, Value.slice A0 l0.length c0,
        Value.func (Fn.func 31) #[] #[Value.pointer (some { block := H, off := 0 })],
        Value.func (Fn.func 43) #[] #[Value.pointer (some { block := H + 1 + 1, off := 0 }), Value.pointer (some { block := H + 1 + 1 + 1, off := 0 })],
        Value.int IntKind.i64 x, undef, undef, undef, undef, undef], defers := [] })
    (by
      rintro pre x a' A B ⟨⟨⟨v, h1, h2⟩, h3⟩, h5, h6⟩ hk
      exact ⟨⟨⟨v, hk.boxed h1 (by omega), hk.row h2 (fun k hk => by omega)⟩, h3.trans (hk.below (by have := h3.size; omega) (fun k hk => by omega))⟩, Nat.le_trans h5 hk.size, h6⟩)
    ?assign ?body ?done (fun _ _ _ _ _ h _ => h.elim)
  case assign =>
    rintro pre x W hi hpre hsz
    simp only [encPos]
    gi_wp2
    exact ⟨Keeps.refl _ W, hi, by omega, by first | rfl | trivial⟩
  case body =>
    rintro pre x a' W hpre hrec ⟨⟨⟨v, hv, hrow⟩, hB⟩, hsz, rfl⟩
    have hc := hv.cell
    have hfz := hv.frozen
    have hpl : pre.length + 1 ≤ 64 := by
      have := (List.IsPrefix.length_le hpre)
      simp at this
      have := hlen.out
      omega
    have hml : (64 : Nat) ≤ maxLen := by decide
    replace hpre := Aside0.mk hpre
    gi_wp2_with (gi_at_builtin; refine wpListIn_append_own _ rfl _ _ 26 rfl (H + 6) 3 i0 (.int .i64 0) 1 8 Try.underlying26 hi.out hz0.out hz1.out hz2.out rfl (by decide) _ _ _ rfl (hrow.alloc _) ⟨W.heap.size, 0, none⟩ 1 1 [Value.int .i64 x] rfl rfl (cell_one_new _ _ _) (by simp [Value.oneCell']) (by omega) (by omega) (by simp; omega) ?_; intro v' w1 hown' hgrow _; obtain ⟨g', cap', rfl⟩ := ownsRow_succ hown'; have hv1 : Boxed w1 (H + 1) 26 v := (hv.alloc _).kept hgrow (not_own hrow (by omega)); have hc1 := hv1.cell; have hf1 := hv1.frozen; skip)
    have hk2 : Keeps (fun k => k < H + 6 ∧ k ≠ H + 1) W (w1.setCell ⟨H + 1, 0, none⟩ (Value.slice (some ⟨g', 0, none⟩) (pre.length + 1) cap')) :=
      (((Keeps.refl _ W).alloc _).grown hgrow (fun k e h => by have := (hrow.lt k (show v.ownBlock = some k from e)).1; omega)).setCell _ (fun h => h.2.2 rfl)
    have hr2 := (Keeps.setCell (K := fun k => k ≠ H + 1) (Keeps.refl _ w1) (p := ⟨H + 1, 0, none⟩) (Value.slice (some ⟨g', 0, none⟩) (pre.length + 1) cap') (fun h => h.2 rfl)).row hown' (fun k hk => by omega)
    have hv2 := hv1.set (Value.slice (some ⟨g', 0, none⟩) (pre.length + 1) cap')
    refine ⟨hk2.mono (fun k _ h => by omega), ⟨_, hv2, ?_⟩, hB.trans (hk2.below (by have := hB.size; omega) (fun k hk => by omega))⟩
    rw [nums_append, List.length_append, List.length_singleton]
    exact hr2
  case done =>
    intro xs W hsz hxs hI hW
    obtain ⟨⟨v, h1, h2⟩, h3⟩ := hI
    have hc1 := h1.cell
    have hf1 := h1.frozen
    subst hxs
    gi_wp2
    refine ⟨by simp, .inl ⟨_, _, rfl, run_takeDeferred hW, ?_⟩⟩
    have hk : Keeps (fun k => k ≠ Wr.heap.size) W (W.putObj Wr.heap.size (.deferred none)) := (Keeps.refl (fun k => k ≠ Wr.heap.size) W).putObj _ (fun h => h.2 rfl)
    refine ⟨v, by simp [results, Try.f10, go_sem], v, rfl, ?_, ?_⟩
    · rw [hH]
      exact Kd.R_of_own (own_weaken (hk.row h2 (fun k hk => by omega)) (by omega)) (fun _ _ => trivial)
    · rw [hH]
      exact h3.trans (hk.below (by have := h3.size; omega) (fun k hk => by omega))

/-! ### nodes_turn: function 35 -/
theorem seg_other (l : List Value) (m a : Nat) (u : Value) (h : m < a ∨ a + 3 ≤ m) : ((l.set m u).drop a).take 3 = (l.drop a).take 3 := by
  apply List.ext_getElem?
  intro k
  rw [List.getElem?_take, List.getElem?_take, List.getElem?_drop, List.getElem?_drop]
  by_cases hk : k < 3
  · rw [if_pos hk, if_pos hk, List.getElem?_set_ne (by omega)]
  · rw [if_neg hk, if_neg hk]
theorem seg_same (l : List Value) (a j : Nat) (u : Value) (hj : j < 3) : ((l.set (a + j) u).drop a).take 3 = ((l.drop a).take 3).set j u := by
  apply List.ext_getElem?
  intro k
  rw [List.getElem?_take, List.getElem?_drop]
  by_cases hk : k < 3
  · rw [if_pos hk]
    by_cases hkj : k = j
    · subst hkj
      by_cases hl : a + k < l.length
      · rw [List.getElem?_set_self hl, List.getElem?_set_self (by simp; omega)]
      · rw [List.getElem?_eq_none (by simp; omega), List.getElem?_eq_none (by simp; omega)]
    · rw [List.getElem?_set_ne (by omega), List.getElem?_set_ne (by omega), List.getElem?_take, if_pos hk, List.getElem?_drop]
  · rw [if_neg hk, List.getElem?_eq_none (by simp; omega)]
def nodeC (x : S35) : List Value := [.bool x.f0, .bool x.f1, .int .i64 x.f2]
abbrev NodeRow (W : World) (base g n cap : Nat) (xs : List S35) : Prop := Kd.R k35 35 W base (fun _ => True) (.slice (some ⟨g, 0, none⟩) n cap) xs
theorem node_put {W : World} {base g n cap : Nat} {xs : List S35} (h : NodeRow W base g n cap xs) (i j : Nat) (hi : i < xs.length) (hj : j < 3) (u : Value) (x' : S35) (hx : nodeC x' = (nodeC (xs.getD i z35)).set j u) :
    NodeRow (W.setCell ⟨g, i * 3 + j, none⟩ u) base g n cap (xs.set i x') := by
  have hn : n = xs.length := (Kd.R_reads' h).1
  subst hn
  obtain ⟨_, inner, ho, hr⟩ := h
  have hst := (ho.stored (i * 3 + j) u).1
  refine ⟨fun _ _ => trivial, inner.set (i * 3 + j) u, by rw [List.length_set]; exact hst, by rw [List.length_set, List.length_set]; exact hr.1, fun q p hq => ?_⟩
  by_cases hqi : q = i
  · subst hqi
    rw [List.getElem?_set_self hi] at hq
    obtain rfl := Option.some.inj hq
    have hold := hr.2 q _ (List.getElem?_eq_getElem hi)
    have e1 := k35_openM hold
    show k35.M _ _ _ x' (((inner.set (q * 3 + j) u).drop (q * 3)).take 3)
    rw [seg_same _ _ _ _ hj]
    have e2 : (inner.drop (q * 3)).take 3 = nodeC (xs.getD q z35) := by
      rw [List.getD_eq_getElem?_getD, List.getElem?_eq_getElem hi]
      exact e1
    rw [e2, ← hx]
    exact k35_mkM _ _ _ _
  · rw [List.getElem?_set_ne (fun e => hqi e.symm)] at hq
    have hold := hr.2 q p hq
    have e1 := k35_openM hold
    show k35.M _ _ _ p (((inner.set (i * 3 + j) u).drop (q * 3)).take 3)
    rw [seg_other _ _ _ _ (by omega)]
    have e2 : (inner.drop (q * 3)).take 3 = [.bool p.f0, .bool p.f1, .int .i64 p.f2] := e1
    rw [e2]
    exact k35_mkM _ _ _ _
theorem node_cells {W : World} {base g n cap : Nat} {xs : List S35} (h : NodeRow W base g n cap xs) (i : Nat) (hi : i < xs.length) :
    W.cell? ⟨g, i * 3, none⟩ = some (.bool (xs.getD i z35).f0) ∧ W.cell? ⟨g, i * 3 + 1, none⟩ = some (.bool (xs.getD i z35).f1) ∧ W.cell? ⟨g, i * 3 + 2, none⟩ = some (.int .i64 (xs.getD i z35).f2) ∧ ∀ j, W.frozen? ⟨g, i * 3 + j, none⟩ = false := by
  have hn : n = xs.length := (Kd.R_reads' h).1
  obtain ⟨c, _, hM, hc, hf⟩ := Kd.R_elem h z35 (i : Int) (by omega) (by omega)
  rw [Int.toNat_natCast] at hM hc hf
  have e1 := k35_openM hM
  subst e1
  exact ⟨hc 0 _ rfl, hc 1 _ rfl, hc 2 _ rfl, hf⟩
/-- What turn tells: the row with one node turned, or none and what stands against it. -/
def turnR (dp : S35 → Bool) (ds : S35 → S35) (l : List S35) (i : Int) : List S35 × Int :=
  if okNodes l then (if 0 ≤ i ∧ i < (l.length : Int) then (if dp (l.getD i.toNat z35) then (l.set i.toNat (ds (l.getD i.toNat z35)), 0) else ([], 8)) else ([], 200)) else ([], 2)
set_option maxHeartbeats 4000000 in
theorem nodes_turn_own (A0 : Option Addr) (c0 : Nat) (l0 : List S35) (i : Int) (fd : Nat) (lb : Array Value) (dp : S35 → Bool) (ds : S35 → S35) (S : Nat → Prop) (Post : S35 → World → Prop) (w : World)
    (hr0 : Kd.C k35 w A0 l0.length l0) (hc0 : l0.length ≤ c0) (hent : ∀ args w, (callFunc fd args).run Try.prog w = .ok (.enter fd args) w)
    (hdo : ∀ (W : World) (base g n cap : Nat) (xs : List S35) (j : Nat), Below w.heap.size w W → w.heap.size ≤ g → j < xs.length → NodeRow W base g n cap xs →
      Calls Try.prog fd (#[.pointer (some ⟨g, j * 3, none⟩)] ++ lb) W fun e W' => e = .returned (.bool (dp (xs.getD j z35))) ∧ NodeRow W' base g n cap (xs.set j (ds (xs.getD j z35))) ∧ Keeps (fun k => k ≠ g ∧ ¬ S k) W W' ∧ Post (xs.getD j z35) W') :
    Calls Try.prog 35 #[.slice A0 l0.length c0, .int .i64 i, .func (.func fd) #[] lb] w fun e w' => ∃ v0 : Value, e = .returned (.tuple #[v0, .int .i64 (turnR dp ds l0 i).2]) ∧ Kd.R k35 35 w' w.heap.size (fun _ => True) v0 (turnR dp ds l0 i).1 ∧
      Keeps (fun k => k < w.heap.size ∧ ¬ S k) w w' ∧ ((turnR dp ds l0 i).2 = 0 → Post (l0.getD i.toNat z35) w') := by
  have HR := Aside0.mk hr0
  have HC := Aside0.mk hc0
  clear hr0 hc0
  replace hdo := Aside0.mk hdo
  by_cases hok : okNodes l0 = true
  case neg =>
    have hok' : okNodes l0 = false := by simpa using hok
    have HE := Aside0.mk (show nodes_Check.f l0 = some 2 by unfold nodes_Check.f; rw [hok']; rfl)
    have hT : turnR dp ds l0 i = ([], 2) := by unfold turnR; rw [hok']; rfl
    rw [hT]
    clear hok hok' hT
    go_enter Try.func35, Try.ntmps35
    go_wp2_with (go_at_call 12; refine (nodes_Check.calls _ _ l0 _ _ HR.out HC.out HE.out).mono ?_; rintro e w1 ⟨rfl, hb1⟩; replace hb1 := Aside0.mk hb1)
    go_ret2
    exact ⟨_, rfl, Kd.R_nil _ _ _ _ _, Keeps.of_below hb1.out (fun k hk _ => hk), fun h => absurd h (by decide)⟩
  have HE := Aside0.mk (show nodes_Check.f l0 = some 0 by unfold nodes_Check.f; rw [hok]; rfl)
  have hlen : 1 ≤ l0.length ∧ l0.length ≤ 64 := by
    have h := hok
    unfold okNodes at h
    simp only [Bool.and_eq_true, decide_eq_true_eq] at h
    exact h.1
  by_cases hi : 0 ≤ i ∧ i < (l0.length : Int)
  case neg =>
    have hT : turnR dp ds l0 i = ([], 200) := by unfold turnR; rw [if_pos hok, if_neg hi]
    rw [hT]
    clear hok hT
    by_cases h0 : i < 0
    · go_enter Try.func35, Try.ntmps35
      go_wp2_with (go_at_call 12; refine (nodes_Check.calls _ _ l0 _ _ HR.out HC.out HE.out).mono ?_; rintro e w1 ⟨rfl, hb1⟩; replace hb1 := Aside0.mk hb1)
      go_ret2
      exact ⟨_, rfl, Kd.R_nil _ _ _ _ _, Keeps.of_below hb1.out (fun k hk _ => hk), fun h => absurd h (by decide)⟩
    · have h1 : (l0.length : Int) ≤ i := by omega
      clear hi
      go_enter Try.func35, Try.ntmps35
      go_wp2_with (go_at_call 12; refine (nodes_Check.calls _ _ l0 _ _ HR.out HC.out HE.out).mono ?_; rintro e w1 ⟨rfl, hb1⟩; replace hb1 := Aside0.mk hb1)
      go_ret2
      exact ⟨_, rfl, Kd.R_nil _ _ _ _ _, Keeps.of_below hb1.out (fun k hk _ => hk), fun h => absurd h (by decide)⟩
  obtain ⟨hi0, hi1⟩ := hi
  obtain ⟨j, rfl⟩ := Int.eq_ofNat_of_zero_le hi0
  have hj : j < l0.length := by omega
  have h00 : ¬ (j : Int) < 0 := by omega
  have h01 : ¬ (l0.length : Int) ≤ (j : Int) := by omega
  cases hd : dp (l0.getD j z35) with
  | false =>
    have hT : turnR dp ds l0 (j : Int) = ([], 8) := by unfold turnR; rw [if_pos hok, if_pos ⟨hi0, hi1⟩, Int.toNat_natCast, hd]; rfl
    rw [hT, Int.toNat_natCast]
    clear hok hT
    go_enter Try.func35, Try.ntmps35
    go_wp2_with (first
      | (go_at_call 12; refine (nodes_Check.calls _ _ l0 _ _ HR.out HC.out HE.out).mono ?_; rintro e w1 ⟨rfl, hb1⟩; replace hb1 := Aside0.mk hb1)
      | (go_at_call 28; refine (nodes_Clone_own _ _ l0 _ (Kd.C_below HR.out hb1.out) HC.out hlen.1 hlen.2).mono ?_; rintro e w2 ⟨g, cap, rfl, hrow, hb2⟩; have hb12 := Aside0.mk (hb1.out.trans (hb2.mono hb1.out.size)); have hgw := Aside0.mk (show w.heap.size ≤ g from Nat.le_trans hb1.out.size (Kd.R_base hrow g (by simp [Value.ownBlock]))); replace hrow := Aside0.mk hrow; clear hb2)
      | (refine (hdo.out _ _ g _ cap l0 j hb12.out hgw.out hj hrow.out).mono ?_; rintro e w3 ⟨rfl, hrow3, hk3, hpost⟩; rw [hd]; replace hk3 := Aside0.mk hk3; replace hrow3 := Aside0.mk hrow3; replace hpost := Aside0.mk hpost))
    go_ret2
    exact ⟨_, rfl, Kd.R_nil _ _ _ _ _, (Keeps.of_below hb12.out (fun k hk h => h.1)).trans (hk3.out.mono (fun k hk h => ⟨by have := hgw.out; omega, h.2⟩)), fun h => absurd h (by decide)⟩
  | true =>
    have hT : turnR dp ds l0 (j : Int) = (l0.set j (ds (l0.getD j z35)), 0) := by unfold turnR; rw [if_pos hok, if_pos ⟨hi0, hi1⟩, Int.toNat_natCast, hd]; rfl
    rw [hT, Int.toNat_natCast]
    clear hok hT
    go_enter Try.func35, Try.ntmps35
    go_wp2_with (first
      | (go_at_call 12; refine (nodes_Check.calls _ _ l0 _ _ HR.out HC.out HE.out).mono ?_; rintro e w1 ⟨rfl, hb1⟩; replace hb1 := Aside0.mk hb1)
      | (go_at_call 28; refine (nodes_Clone_own _ _ l0 _ (Kd.C_below HR.out hb1.out) HC.out hlen.1 hlen.2).mono ?_; rintro e w2 ⟨g, cap, rfl, hrow, hb2⟩; have hb12 := Aside0.mk (hb1.out.trans (hb2.mono hb1.out.size)); have hgw := Aside0.mk (show w.heap.size ≤ g from Nat.le_trans hb1.out.size (Kd.R_base hrow g (by simp [Value.ownBlock]))); replace hrow := Aside0.mk hrow; replace hb2 := Aside0.mk hb2)
      | (refine (hdo.out _ _ g _ cap l0 j hb12.out hgw.out hj hrow.out).mono ?_; rintro e w3 ⟨rfl, hrow3, hk3, hpost⟩; rw [hd]; replace hk3 := Aside0.mk hk3; replace hrow3 := Aside0.mk hrow3; replace hpost := Aside0.mk hpost))
    go_ret2
    exact ⟨_, rfl, Kd.R_lower hrow3.out hb1.out.size, (Keeps.of_below hb12.out (fun k hk h => h.1)).trans (hk3.out.mono (fun k hk h => ⟨by have := hgw.out; omega, h.2⟩)), fun _ => hpost.out⟩

/-! ### nodes_job: function 27 -/
def nodes_job.f (a0 : Int) : Option (Bool) := if a0 ≥ 1 then (some (decide (a0 ≤ 1073741824))) else (some false)
set_option maxHeartbeats 8000000 in
set_option maxRecDepth 100000 in
theorem nodes_job.calls (a0 : Int) (r : Bool) (w : World) (h : nodes_job.f a0 = some r) :
    Calls Try.prog 27 #[.int .i64 a0] w fun e w' => e = .returned (.bool r) ∧ Drawn0 w w' := by
  have H : (if a0 ≥ 1 then (some (decide (a0 ≤ 1073741824))) else (some false)) = some r := h
  clear h
  by_cases c2 : a0 ≥ 1
  · rw [if_pos c2] at H
    have c2b0 : decide (1 ≤ a0) = true := decide_eq_true c2
    clear c2
    obtain rfl := Option.some.inj H
    go_enter Try.func27, Try.ntmps27
    go_wp2
    go_ret
    exact ⟨by first | rfl | (simp; done) | (simp [*]; done), by repeat (first | exact Drawn0.refl _ | apply Drawn0.step)⟩
  · rw [if_neg c2] at H
    have c2b0 : decide (1 ≤ a0) = false := decide_eq_false c2
    clear c2
    obtain rfl := Option.some.inj H
    go_enter Try.func27, Try.ntmps27
    go_wp2
    go_ret
    exact ⟨by first | rfl | (simp; done) | (simp [*]; done), by repeat (first | exact Drawn0.refl _ | apply Drawn0.step)⟩

/-! ### nodes_Clear: function 13 -/
theorem job_eq (n : Int) : nodes_job.f n = some (decide (1 ≤ n ∧ n ≤ 1073741824)) := by
  unfold nodes_job.f
  by_cases h1 : 1 ≤ n <;> by_cases h2 : n ≤ 1073741824 <;> simp [h1, h2]
/-- A row with the nodes of some places without a job. -/
def clearL (l : List S35) (ps : List Int) : List S35 := ps.foldl (fun l i => l.set i.toNat ⟨(l.getD i.toNat z35).f0, (l.getD i.toNat z35).f1, 0⟩) l
theorem clearL_len (ps : List Int) : ∀ l : List S35, (clearL l ps).length = l.length := by
  induction ps with
  | nil => intro l; rfl
  | cons p ps ih => intro l; exact (ih _).trans (by simp)
theorem clearL_snoc (l : List S35) (ps : List Int) (p : Int) : clearL l (ps ++ [p]) = (clearL l ps).set p.toNat ⟨((clearL l ps).getD p.toNat z35).f0, ((clearL l ps).getD p.toNat z35).f1, 0⟩ := by simp [clearL, List.foldl_append]
theorem posT_rng {p : S35 → Bool} {l : List S35} {x : Int} (h : x ∈ posT p l) : 0 ≤ x ∧ x < (l.length : Int) := by
  unfold posT at h
  by_cases hk : okNodes l = true
  · rw [if_pos hk] at h
    unfold posU at h
    obtain ⟨j, hj, rfl⟩ := List.mem_map.1 h
    have := List.mem_range.1 (List.mem_filter.1 hj).1
    exact ⟨Int.natCast_nonneg _, by show (j : Int) < _; omega⟩
  · rw [if_neg hk] at h; simp at h
def clearR (l : List S35) (n : Int) : List S35 × Int :=
  if okNodes l = true ∧ 1 ≤ n ∧ n ≤ 1073741824 then (if (posT (ofP n) l).length = 0 then ([], 7) else (clearL l (posT (ofP n) l), 0)) else ([], 2)
def nodes_Clear.f (l : List S35) (n : Int) : Option (List S35 × Int) := some (clearR l n)
theorem node_drawn {w w' : World} (h : Drawn0 w w') : Below w.heap.size w w' := by
  obtain ⟨m, rfl⟩ := h
  exact ⟨rfl, rfl, rfl, Nat.le_refl _, fun _ _ => rfl⟩
set_option maxHeartbeats 8000000 in
theorem nodes_Clear.calls (A0 : Option Addr) (c0 : Nat) (l0 : List S35) (a1 : Int) (r1 : List S35) (r2 : Int) (w : World) (hr0 : Kd.C k35 w A0 l0.length l0) (hc0 : l0.length ≤ c0) (h : nodes_Clear.f l0 a1 = some (r1, r2)) :
    Calls Try.prog 13 #[.slice A0 l0.length c0, .int .i64 a1] w fun e w' => ∃ v0_ : Value, e = .returned (.tuple #[v0_, .int .i64 r2]) ∧ Kd.R k35 35 w' w.heap.size (fun _ => True) v0_ r1 ∧ Below w.heap.size w w' := by
  replace h := Option.some.inj h
  have HR := Aside0.mk hr0
  have HC := Aside0.mk hc0
  clear hr0 hc0
  unfold clearR at h
  by_cases hok : okNodes l0 = true
  case neg =>
    rw [if_neg (fun e => hok e.1)] at h
    obtain ⟨rfl, rfl⟩ := Prod.mk.inj h
    have HE := Aside0.mk (show nodes_Check.f l0 = some 2 by unfold nodes_Check.f; rw [if_neg hok])
    clear hok h
    go_enter Try.func13, Try.ntmps13
    go_wp2_with (go_at_call 12; refine (nodes_Check.calls _ _ l0 _ _ HR.out HC.out HE.out).mono ?_; rintro e w1 ⟨rfl, hb1⟩; replace hb1 := Aside0.mk hb1)
    go_ret2
    exact ⟨_, rfl, Kd.R_nil _ _ _ _ _, hb1.out⟩
  have HE := Aside0.mk (show nodes_Check.f l0 = some 0 by unfold nodes_Check.f; rw [if_pos hok])
  have hlen : 1 ≤ l0.length ∧ l0.length ≤ 64 := by
    have h := hok
    unfold okNodes at h
    simp only [Bool.and_eq_true, decide_eq_true_eq] at h
    exact h.1
  by_cases hn : 1 ≤ a1 ∧ a1 ≤ 1073741824
  case neg =>
    rw [if_neg (fun e => hn e.2)] at h
    obtain ⟨rfl, rfl⟩ := Prod.mk.inj h
    have HJ := Aside0.mk (show nodes_job.f a1 = some false by rw [job_eq, decide_eq_false hn])
    clear hok h hn
    go_enter Try.func13, Try.ntmps13
    go_wp2_with (first
      | (go_at_call 12; refine (nodes_Check.calls _ _ l0 _ _ HR.out HC.out HE.out).mono ?_; rintro e w1 ⟨rfl, hb1⟩; replace hb1 := Aside0.mk hb1)
      | (go_at_call 27; refine (nodes_job.calls _ _ _ HJ.out).mono ?_; rintro e w2 ⟨rfl, hd2⟩; have hb2 := Aside0.mk (node_drawn hd2); clear hd2))
    go_ret2
    exact ⟨_, rfl, Kd.R_nil _ _ _ _ _, hb1.out.trans (hb2.out.mono hb1.out.size)⟩
  have HJ := Aside0.mk (show nodes_job.f a1 = some true by rw [job_eq, decide_eq_true hn])
  rw [if_pos ⟨hok, hn⟩] at h
  clear hok hn
  have hof := Aside0.mk (show nodes_Of.f l0 a1 = some (posT (ofP a1) l0) from rfl)
  have hrng := Aside0.mk (fun x => @posT_rng (ofP a1) l0 x)
  have hpl := posT_length (ofP a1) l0
  generalize posT (ofP a1) l0 = P at h hof hrng hpl
  by_cases hP : P.length = 0
  · rw [if_pos hP] at h
    obtain ⟨rfl, rfl⟩ := Prod.mk.inj h
    obtain rfl := List.eq_nil_of_length_eq_zero hP
    clear h hP
    go_enter Try.func13, Try.ntmps13
    go_wp2_with (first
      | (go_at_call 12; refine (nodes_Check.calls _ _ l0 _ _ HR.out HC.out HE.out).mono ?_; rintro e w1 ⟨rfl, hb1⟩; replace hb1 := Aside0.mk hb1)
      | (go_at_call 27; refine (nodes_job.calls _ _ _ HJ.out).mono ?_; rintro e w2 ⟨rfl, hd2⟩; have hb2 := Aside0.mk (hb1.out.trans ((node_drawn hd2).mono hb1.out.size)); clear hd2)
      | (go_at_call 10; refine (nodes_Of.calls _ _ l0 a1 _ _ (Kd.C_below HR.out hb2.out) HC.out hof.out).mono ?_; rintro e w3 ⟨v0, rfl, hrow, hb3⟩; obtain ⟨Ao, co, rfl⟩ := Kd.R_slice hrow; have hb3' := Aside0.mk (hb2.out.trans (hb3.mono hb2.out.size)); clear hrow hb3))
    go_ret2
    exact ⟨_, rfl, Kd.R_nil _ _ _ _ _, hb3'.out⟩
  rw [if_neg hP] at h
  obtain ⟨rfl, rfl⟩ := Prod.mk.inj h
  clear h
  have hP' : ¬ (P.length : Int) = 0 := by omega
  clear hP
  go_enter Try.func13, Try.ntmps13
  go_upto_block 1 with (first
      | (go_at_call 12; refine (nodes_Check.calls _ _ l0 _ _ HR.out HC.out HE.out).mono ?_; rintro e w1 ⟨rfl, hb1⟩; replace hb1 := Aside0.mk hb1)
      | (go_at_call 27; refine (nodes_job.calls _ _ _ HJ.out).mono ?_; rintro e w2 ⟨rfl, hd2⟩; have hb2 := Aside0.mk (hb1.out.trans ((node_drawn hd2).mono hb1.out.size)); clear hd2)
      | (go_at_call 10; refine (nodes_Of.calls _ _ l0 a1 _ _ (Kd.C_below HR.out hb2.out) HC.out hof.out).mono ?_; rintro e w3 ⟨v0, rfl, hrow, hb3⟩; obtain ⟨Ao, co, rfl⟩ := Kd.R_slice hrow; have hb3' := Aside0.mk (hb2.out.trans (hb3.mono hb2.out.size)); clear hrow hb3 hb2)
      | (go_at_call 28; refine (nodes_Clone_own _ _ l0 _ (Kd.C_below HR.out hb3'.out) HC.out hlen.1 hlen.2).mono ?_; rintro e w4 ⟨g, cap, rfl, hrow, hb4⟩; have hgl := Aside0.mk (Kd.R_own hrow); have hb4' := Aside0.mk (hb3'.out.trans (hb4.mono hb3'.out.size)); have hgw := Aside0.mk (show w.heap.size ≤ g from Nat.le_trans hb3'.out.size (Kd.R_base hrow g (by simp [Value.ownBlock]))); replace hrow := Aside0.mk (Kd.R_lower hrow hb3'.out.size); clear hb4)
      | (go_at_call 10; refine (nodes_Of.calls _ _ l0 a1 _ _ (Kd.C_below HR.out hb4'.out) HC.out hof.out).mono ?_; rintro e w5 ⟨v0, rfl, hrowP, hb5⟩; obtain ⟨Ap, cp, rfl⟩ := Kd.R_slice hrowP; have hb5' := Aside0.mk (hb4'.out.trans (hb5.mono hb4'.out.size)); have hrow5 := Aside0.mk (Kd.R_below hrow.out hb5); have hg4 := Aside0.mk (show g < w4.heap.size by obtain ⟨inner, ho⟩ := hgl.out; exact (ho.lt g (by simp [Value.ownBlock])).2); replace hrowP := Aside0.mk hrowP; clear hb5))
  go_wp2
  go_loopg [30] P.length (fun kq v30 W => ∃ q : Nat, v30 = .int .i64 q ∧ Aside0 (kq + q = P.length) ∧ Aside0 (NodeRow W w.heap.size g l0.length cap (clearL l0 (P.take q))) ∧ Aside0 (Keeps (fun k => k ≠ g) w5 W))
  case atStart => exact ⟨0, rfl, ⟨rfl⟩, ⟨by rw [List.take_zero]; exact hrow5.out⟩, ⟨Keeps.refl _ _⟩⟩
  case round =>
    obtain ⟨q, rfl, HK, HN, HP⟩ := hrel
    cases gk with
    | zero =>
      have e : q = P.length := by have := HK.out; omega
      subst e
      go_wp2
      go_ret2
      refine ⟨_, rfl, by have := HN.out; rwa [List.take_length] at this, ?_⟩
      exact hb5'.out.trans (HP.out.below hb5'.out.size (fun k hk => by have := hgw.out; omega))
    | succ k1 =>
      have hlt : q < P.length := by have := HK.out; omega
      have hC := (Kd.R_reads' (Kd.R_step (Kd.R_bound hrowP.out) (fun k hk hl => HP.out.block k hl (by have := hk.2.1; have := hg4.out; omega)))).2.2
      obtain ⟨ad, e1, hx⟩ := Kd.at_int hC (q : Int) (by omega) (by omega)
      cases e1
      have er : rd P (q : Int) = P[q] := by simp [rd, hlt]
      rw [er] at hx
      clear er hC
      obtain ⟨x0, x1⟩ := hrng.out P[q] (List.getElem_mem hlt)
      have htk := Aside0.mk (List.take_succ_eq_append_getElem hlt)
      generalize P[q] = x at *
      obtain ⟨m, rfl⟩ := Int.eq_ofNat_of_zero_le x0
      simp only [Int.toNat_natCast] at hx
      have hm : m < (clearL l0 (P.take q)).length := by rw [clearL_len]; omega
      obtain ⟨k0, k1', k2, kf⟩ := node_cells HN.out m hm
      have kf2 : wr.frozen? ⟨g, m * 3 + 2, none⟩ = false := kf 2
      clear kf
      have hput := Aside0.mk (node_put HN.out m 2 hm (by decide) (.int .i64 0) ⟨((clearL l0 (P.take q)).getD m z35).f0, ((clearL l0 (P.take q)).getD m z35).f1, 0⟩ rfl)
      clear hm
      go_wp2
      go_roundg k1
      case measure => omega
      case rel =>
        refine ⟨q + 1, by go_num, ⟨by have := HK.out; omega⟩, ⟨?_⟩, ⟨HP.out.setCell _ (fun e => e.2 rfl)⟩⟩
        rw [htk.out, clearL_snoc]
        exact hput.out

/-! ### nodes_count: function 32 -/
attribute [local go_sem] Oper.semAt_some
set_option maxHeartbeats 4000000 in
theorem nodes_count_calls (A0 : Option Addr) (c0 : Nat) (l0 : List S35) (p : S35 → Bool) (f : Nat) (w : World) (hr0 : Kd.C k35 w A0 l0.length l0) (hc0 : l0.length ≤ c0)
    (hent : ∀ args w, (callFunc f args).run Try.prog w = .ok (.enter f args) w)
    (hso : ∀ (x : S35) (W : World), Calls Try.prog f #[.agg #[.bool x.f0, .bool x.f1, .int .i64 x.f2]] W fun e W' => e = .returned (.bool (p x)) ∧ Below W.heap.size W W') :
    Calls Try.prog 32 #[.slice A0 l0.length c0, .func (.func f) #[] #[]] w fun e w' => e = .returned (.int .i64 ((posT p l0).length : Int)) ∧ Below w.heap.size w w' := by
  have hlen : (posT p l0).length ≤ 64 := by
    unfold posT
    by_cases h : okNodes l0 = true
    · rw [if_pos h]
      unfold okNodes at h
      simp only [Bool.and_eq_true, decide_eq_true_eq] at h
      unfold posU
      rw [List.length_map]
      refine Nat.le_trans (List.length_filter_le _ _) ?_
      rw [List.length_range]
      omega
    · rw [if_neg h]; simp
  have HR := Aside0.mk hr0
  have HC := Aside0.mk hc0
  clear hr0 hc0
  replace hso := Aside0.mk hso
  replace hent := Aside0.mk hent
  replace hlen := Aside0.mk hlen
  obtain ⟨H, hH⟩ : ∃ H, w.heap.size = H := ⟨_, rfl⟩
  refine (callsIn_wide (n := 9)).1 (callsIn_of_wp_marks Try.func32 rfl trivial ?_ rfl)
  simp only [Try.ntmps32, List.size_toArray, List.length_cons, List.length_nil, Nat.reduceAdd, Nat.reduceSub, Array.replicate_succ, Array.replicate_zero, List.push_toArray, List.append_toArray, List.nil_append, List.cons_append]
  gi_wp2_with (refine ⟨trivial, ?_⟩; gi_at_call 29; refine (callsIn_wide.2 (nodes_places_calls _ _ rfl rfl _)).mono ?_; rintro e w3 ⟨rfl, rfl⟩; skip)
  have c1 : Boxed (((w.alloc (Obj.cells #[Value.int IntKind.i64 0] 3)).alloc (Obj.cells #[Value.slice A0 l0.length c0] 22)).alloc (Obj.cells #[Value.func (Fn.func f) #[] #[]] 58)) H 3 (.int .i64 0) := by
    rw [← hH]; exact ((Boxed.new w _ _).alloc _).alloc _
  have c2 : BoxN (((w.alloc (Obj.cells #[Value.int IntKind.i64 0] 3)).alloc (Obj.cells #[Value.slice A0 l0.length c0] 22)).alloc (Obj.cells #[Value.func (Fn.func f) #[] #[]] 58)) (H + 1) 22 [.slice A0 l0.length c0] := by
    have := (BoxN.new (w.alloc (Obj.cells #[Value.int IntKind.i64 0] 3)) 22 [.slice A0 l0.length c0]).alloc (Obj.cells #[Value.func (Fn.func f) #[] #[]] 58)
    rwa [World.size_alloc, hH] at this
  have c3 : BoxN (((w.alloc (Obj.cells #[Value.int IntKind.i64 0] 3)).alloc (Obj.cells #[Value.slice A0 l0.length c0] 22)).alloc (Obj.cells #[Value.func (Fn.func f) #[] #[]] 58)) (H + 1 + 1) 58 [.func (.func f) #[] #[]] := by
    have := BoxN.new ((w.alloc (Obj.cells #[Value.int IntKind.i64 0] 3)).alloc (Obj.cells #[Value.slice A0 l0.length c0] 22)) 58 [.func (.func f) #[] #[]]
    rwa [World.size_alloc, World.size_alloc, hH] at this
  have c4 : Below w.heap.size w (((w.alloc (Obj.cells #[Value.int IntKind.i64 0] 3)).alloc (Obj.cells #[Value.slice A0 l0.length c0] 22)).alloc (Obj.cells #[Value.func (Fn.func f) #[] #[]] 58)) := (((Below.refl _ w).alloc (Nat.le_refl _) _).alloc (by simp) _).alloc (by simp; omega) _
  have c5 : (((w.alloc (Obj.cells #[Value.int IntKind.i64 0] 3)).alloc (Obj.cells #[Value.slice A0 l0.length c0] 22)).alloc (Obj.cells #[Value.func (Fn.func f) #[] #[]] 58)).heap.size = H + 3 := by simp [hH]
  generalize (((w.alloc (Obj.cells #[Value.int IntKind.i64 0] 3)).alloc (Obj.cells #[Value.slice A0 l0.length c0] 22)).alloc (Obj.cells #[Value.func (Fn.func f) #[] #[]] 58)) = Wr at *
  refine wpIn_range (n := 9) (w := Wr) rfl (by omega) (gf := 43) (lb := #[.pointer (some ⟨H + 1, 0, none⟩), .pointer (some ⟨H + 1 + 1, 0, none⟩)]) rfl trivial (enters_of Try.func43 (by kernel_rfl) rfl)
    (nodes_places_seq w A0 c0 l0 p f #[] (H + 1) (H + 1 + 1) (fun k => k < H ∨ k = H + 1 ∨ k = H + 1 + 1) Wr HR.out HC.out c4 c2 c3 (fun k hk => by omega) (by omega) (by omega) hent.out (fun x W _ => by simpa using hso.out x W)) (fun k hk => hk.elim) (fun k hk => by omega) (fun _ => rfl)
    (fun pre W => Boxed W H 3 (.int .i64 (pre.length : Int)) ∧ Below H w W)
    (fun _ _ _ => False)
    (by
      rintro s A B ⟨h1, h3⟩ hk
      exact ⟨hk.boxed h1 ⟨not_false, by omega, by omega⟩, h3.trans (hk.below (by have := h3.size; omega) (fun k hk => ⟨not_false, by omega, by omega⟩))⟩)
    (fun _ _ _ _ h _ => h)
    ⟨c1, by rw [← hH]; exact c4⟩
    (fun pre x a' W => (Boxed W H 3 (.int .i64 (pre.length : Int)) ∧ Below H w W) ∧ 
      a' = { tmps := #[Value.slice A0 l0.length c0, Value.func (Fn.func f) #[] #[], undef, undef, Value.int IntKind.i64 0,
        Value.pointer (some { block := H, off := 0 }), Value.slice A0 l0.length c0, Value.func (Fn.func f) #[] #[],
        Value.func (Fn.func 43) #[] #[Value.pointer (some { block := H + 1, off := 0 }), Value.pointer (some { block := H + 1 + 1, off := 0 })],
        Value.int IntKind.i64 x, undef, undef, undef], defers := [] })
    (by
      rintro pre x a' A B ⟨⟨h1, h3⟩, h6⟩ hk
      exact ⟨⟨hk.boxed h1 (by omega), h3.trans (hk.below (by have := h3.size; omega) (fun k hk => by omega))⟩, h6⟩)
    ?assign ?body ?done (fun _ _ _ _ _ h _ => h.elim)
  case assign =>
    rintro pre x W hi hpre hsz
    simp only [encPos]
    gi_wp2
    exact ⟨Keeps.refl _ W, hi, by simp⟩
  case body =>
    rintro pre x a' W hpre hrec ⟨⟨h1, h3⟩, rfl⟩
    have hc1 := h1.cell
    have hf1 := h1.frozen
    have hpl : pre.length + 1 ≤ 64 := by
      have := (List.IsPrefix.length_le hpre)
      simp at this
      have := hlen.out
      omega
    gi_wp2
    have hk : Keeps (fun k => k ≠ H) W (W.setCell { block := H, off := 0 } (Value.int IntKind.i64 ((pre.length : Int) + 1))) := (Keeps.refl _ W).setCell _ (fun h => h.2 rfl)
    refine ⟨hk.mono (fun k _ h => by omega), ?_, h3.trans (hk.below (by have := h3.size; omega) (fun k hk => by omega))⟩
    have := h1.set (.int .i64 ((pre.length : Int) + 1))
    simpa using this
  case done =>
    intro xs W hsz hxs hI hW
    obtain ⟨h1, h3⟩ := hI
    have hc1 := h1.cell
    have hf1 := h1.frozen
    subst hxs
    gi_wp2
    refine ⟨by simp, .inl ⟨_, _, rfl, run_takeDeferred hW, ?_⟩⟩
    refine ⟨.int .i64 ((posT p l0).length : Int), by simp [results, Try.f32, go_sem], rfl, ?_⟩
    rw [hH]
    exact h3.trans (((Keeps.refl (fun k => k ≠ Wr.heap.size) W).putObj _ (fun h => h.2 rfl)).below (by have := h3.size; omega) (fun k hk => by omega))

/-! ### nodes_usable: function 38 -/
def nodes_usable.f (a0_0 : Bool) (a0_1 : Bool) (a0_2 : Int) : Option (Bool) := if a0_0 = true then (some a0_1) else (some false)
set_option maxHeartbeats 8000000 in
set_option maxRecDepth 100000 in
theorem nodes_usable.calls (a0_0 : Bool) (a0_1 : Bool) (a0_2 : Int) (r : Bool) (w : World) (h : nodes_usable.f a0_0 a0_1 a0_2 = some r) :
    Calls Try.prog 38 #[.agg #[.bool a0_0, .bool a0_1, .int .i64 a0_2]] w fun e w' => e = .returned (.bool r) ∧ Below w.heap.size w w' := by
  have hu35 := Try.underlying35
  have HB := Aside0.mk (Below.refl w.heap.size w)
  have H : (if a0_0 = true then (some a0_1) else (some false)) = some r := h
  clear h
  by_cases c2 : a0_0 = true
  · subst c2
    have H1 : (some a0_1) = some r := by rw [if_pos rfl] at H; exact H
    clear H
    have H := H1
    clear H1
    obtain rfl := Option.some.inj H
    go_enter Try.func38, Try.ntmps38
    go_wp2_with (first | ((with_reducible refine gate_dst (N := 1) rfl ?_); refine box_event ?hg (N := 1) ?hd (cs := #[.bool true, .bool a0_1, .int .i64 a0_2]) (t := 35) ?hr ?_; (case hd => rfl); (case hg => rfl); (case hr => first | (go_simp; done) | (go_simp; rfl)); intro gb101 hg w3 hbox hb; have n0_ := Aside0.mk (below_step (by repeat (first | (with_reducible first | exact HB.out | apply below_alloc | apply pw_below_drewN | apply below_drew1) | exact HB.out)) hb); have n1_ := Aside0.mk (hbox); have n2_ := Aside0.mk ((by rw [hg]; exact (below_size (by repeat (first | (with_reducible first | exact HB.out | apply below_alloc | apply pw_below_drewN | apply below_drew1) | exact HB.out))) : w.heap.size ≤ gb101)); have n3_ := Aside0.mk ((by rw [hg]; exact (below_size (by repeat (first | (with_reducible first | exact HB.out | apply below_alloc | apply pw_below_drewN | apply below_drew1) | exact HB.out))) : w.heap.size ≤ gb101)); clear HB; have HB := n0_; have BK101 := n1_; have GW101 := n2_; have GE101 := n3_; clear n0_ n1_ n2_ n3_; clear hb hbox hg; have hcz4_0 : w3.cell? ⟨gb101, 0, none⟩ = some (.bool true) := (blk_cell BK101.out 0).trans rfl; have hcz4_1 : w3.cell? ⟨gb101, 1, none⟩ = some (.bool a0_1) := (blk_cell BK101.out 1).trans rfl; have hcz4_2 : w3.cell? ⟨gb101, 2, none⟩ = some (.int .i64 a0_2) := (blk_cell BK101.out 2).trans rfl; have hfz4_0 := blk_frozen BK101.out 0; have hfz4_1 := blk_frozen BK101.out 1; have hfz4_2 := blk_frozen BK101.out 2))
    go_ret
    exact ⟨by first | rfl | (simp [errW_none, errW_some] <;> rfl) | (simp [*, errW_none, errW_some] <;> rfl), by repeat (first | (with_reducible first | exact HB.out | apply below_alloc | apply pw_below_drewN | apply below_drew1 | refine below_set ?_ GE101.out) | exact HB.out)⟩
  · replace c2 := Bool.eq_false_iff.mpr c2
    subst c2
    have H1 : (some false) = some r := by rw [if_neg (show ¬ (false = true) by decide)] at H; exact H
    clear H
    have H := H1
    clear H1
    obtain rfl := Option.some.inj H
    go_enter Try.func38, Try.ntmps38
    go_wp2_with (first | ((with_reducible refine gate_dst (N := 1) rfl ?_); refine box_event ?hg (N := 1) ?hd (cs := #[.bool false, .bool a0_1, .int .i64 a0_2]) (t := 35) ?hr ?_; (case hd => rfl); (case hg => rfl); (case hr => first | (go_simp; done) | (go_simp; rfl)); intro gb101 hg w5 hbox hb; have n0_ := Aside0.mk (below_step (by repeat (first | (with_reducible first | exact HB.out | apply below_alloc | apply pw_below_drewN | apply below_drew1) | exact HB.out)) hb); have n1_ := Aside0.mk (hbox); have n2_ := Aside0.mk ((by rw [hg]; exact (below_size (by repeat (first | (with_reducible first | exact HB.out | apply below_alloc | apply pw_below_drewN | apply below_drew1) | exact HB.out))) : w.heap.size ≤ gb101)); have n3_ := Aside0.mk ((by rw [hg]; exact (below_size (by repeat (first | (with_reducible first | exact HB.out | apply below_alloc | apply pw_below_drewN | apply below_drew1) | exact HB.out))) : w.heap.size ≤ gb101)); clear HB; have HB := n0_; have BK101 := n1_; have GW101 := n2_; have GE101 := n3_; clear n0_ n1_ n2_ n3_; clear hb hbox hg; have hcz6_0 : w5.cell? ⟨gb101, 0, none⟩ = some (.bool false) := (blk_cell BK101.out 0).trans rfl; have hcz6_1 : w5.cell? ⟨gb101, 1, none⟩ = some (.bool a0_1) := (blk_cell BK101.out 1).trans rfl; have hcz6_2 : w5.cell? ⟨gb101, 2, none⟩ = some (.int .i64 a0_2) := (blk_cell BK101.out 2).trans rfl; have hfz6_0 := blk_frozen BK101.out 0; have hfz6_1 := blk_frozen BK101.out 1; have hfz6_2 := blk_frozen BK101.out 2))
    go_ret
    exact ⟨by first | rfl | (simp [errW_none, errW_some] <;> rfl) | (simp [*, errW_none, errW_some] <;> rfl), by repeat (first | (with_reducible first | exact HB.out | apply below_alloc | apply pw_below_drewN | apply below_drew1 | refine below_set ?_ GE101.out) | exact HB.out)⟩

/-! ### nodes_free: function 30 -/
def nodes_free.f (a0_0 : Bool) (a0_1 : Bool) (a0_2 : Int) : Option (Bool) := (nodes_usable.f a0_0 a0_1 a0_2).bind fun t103 => (if t103 = true then (some (a0_2 == 0)) else (some false))
set_option maxHeartbeats 8000000 in
set_option maxRecDepth 100000 in
theorem nodes_free.calls (a0_0 : Bool) (a0_1 : Bool) (a0_2 : Int) (r : Bool) (w : World) (h : nodes_free.f a0_0 a0_1 a0_2 = some r) :
    Calls Try.prog 30 #[.agg #[.bool a0_0, .bool a0_1, .int .i64 a0_2]] w fun e w' => e = .returned (.bool r) ∧ Below w.heap.size w w' := by
  have hu35 := Try.underlying35
  have HB := Aside0.mk (Below.refl w.heap.size w)
  have H : ((nodes_usable.f a0_0 a0_1 a0_2).bind fun t103 => (if t103 = true then (some (a0_2 == 0)) else (some false))) = some r := h
  clear h
  replace H := Option.bind_eq_some_iff.mp H
  obtain ⟨t103, A20, H⟩ := H
  replace H : (if t103 = true then (some (a0_2 == 0)) else (some false)) = some r := H
  have A2 := Aside0.mk A20
  clear A20
  by_cases c3 : t103 = true
  · subst c3
    have H1 : (some (a0_2 == 0)) = some r := by rw [if_pos rfl] at H; exact H
    clear H
    have H := H1
    clear H1
    obtain rfl := Option.some.inj H
    go_enter Try.func30, Try.ntmps30
    go_wp2_with (first | ((with_reducible refine gate_dst (N := 1) rfl ?_); refine box_event ?hg (N := 1) ?hd (cs := #[.bool a0_0, .bool a0_1, .int .i64 a0_2]) (t := 35) ?hr ?_; (case hd => rfl); (case hg => rfl); (case hr => first | (go_simp; done) | (go_simp; rfl)); intro gb102 hg w4 hbox hb; have n0_ := Aside0.mk (below_step (by repeat (first | (with_reducible first | exact HB.out | apply below_alloc | apply pw_below_drewN | apply below_drew1) | exact HB.out)) hb); have n1_ := Aside0.mk (hbox); have n2_ := Aside0.mk ((by rw [hg]; exact (below_size (by repeat (first | (with_reducible first | exact HB.out | apply below_alloc | apply pw_below_drewN | apply below_drew1) | exact HB.out))) : w.heap.size ≤ gb102)); have n3_ := Aside0.mk ((by rw [hg]; exact (below_size (by repeat (first | (with_reducible first | exact HB.out | apply below_alloc | apply pw_below_drewN | apply below_drew1) | exact HB.out))) : w.heap.size ≤ gb102)); clear HB; have HB := n0_; have BK102 := n1_; have GW102 := n2_; have GE102 := n3_; clear n0_ n1_ n2_ n3_; clear hb hbox hg; have hcz5_0 : w4.cell? ⟨gb102, 0, none⟩ = some (.bool a0_0) := (blk_cell BK102.out 0).trans rfl; have hcz5_1 : w4.cell? ⟨gb102, 1, none⟩ = some (.bool a0_1) := (blk_cell BK102.out 1).trans rfl; have hcz5_2 : w4.cell? ⟨gb102, 2, none⟩ = some (.int .i64 a0_2) := (blk_cell BK102.out 2).trans rfl; have hfz5_0 := blk_frozen BK102.out 0; have hfz5_1 := blk_frozen BK102.out 1; have hfz5_2 := blk_frozen BK102.out 2) | ((with_reducible refine gate_callee (f := 38) rfl ?_); refine goesL_ (some 4) rfl rfl Try.func38 (by kernel_rfl) rfl #[.agg #[.bool a0_0, .bool a0_1, .int .i64 a0_2]] rfl (by (try simp only [List.map_toArray, List.map_cons, List.map_nil]); first | done | rfl | (simp only [List.length_drop, List.length_take]; rfl)) ?_; (with_reducible refine (nodes_usable.calls a0_0 a0_1 a0_2 true _ A2.out).mono ?_); rintro e w6 ⟨rfl, hb⟩; refine ⟨_, rfl, ?_⟩; have n0_ := Aside0.mk (blk_below (g := gb102) (o := .cells #[.bool a0_0, .bool a0_1, .int .i64 a0_2] 35 (0, 0)) (by (with_reducible repeat (first | refine blk_drewN ?_ _ | refine blk_drew ?_ | refine blk_alloc ?_ _)); exact BK102.out) hb); have n1_ := Aside0.mk (below_step (by repeat (first | (with_reducible first | exact HB.out | apply below_alloc | apply pw_below_drewN | apply below_drew1 | refine below_set ?_ GE102.out) | exact HB.out)) hb); clear BK102; clear HB; have BK102 := n0_; have HB := n1_; clear n0_ n1_; (try clear hb); (try clear hb2); (try clear hk); (try clear hi); have hcz7_0 : w6.cell? ⟨gb102, 0, none⟩ = some (.bool a0_0) := (blk_cell BK102.out 0).trans rfl; have hcz7_1 : w6.cell? ⟨gb102, 1, none⟩ = some (.bool a0_1) := (blk_cell BK102.out 1).trans rfl; have hcz7_2 : w6.cell? ⟨gb102, 2, none⟩ = some (.int .i64 a0_2) := (blk_cell BK102.out 2).trans rfl; have hfz7_0 := blk_frozen BK102.out 0; have hfz7_1 := blk_frozen BK102.out 1; have hfz7_2 := blk_frozen BK102.out 2))
    go_ret
    exact ⟨by first | rfl | (simp [errW_none, errW_some] <;> rfl) | (simp [*, errW_none, errW_some] <;> rfl), by repeat (first | (with_reducible first | exact HB.out | apply below_alloc | apply pw_below_drewN | apply below_drew1 | refine below_set ?_ GE102.out) | exact HB.out)⟩
  · replace c3 := Bool.eq_false_iff.mpr c3
    subst c3
    have H1 : (some false) = some r := by rw [if_neg (show ¬ (false = true) by decide)] at H; exact H
    clear H
    have H := H1
    clear H1
    obtain rfl := Option.some.inj H
    go_enter Try.func30, Try.ntmps30
    go_wp2_with (first | ((with_reducible refine gate_dst (N := 1) rfl ?_); refine box_event ?hg (N := 1) ?hd (cs := #[.bool a0_0, .bool a0_1, .int .i64 a0_2]) (t := 35) ?hr ?_; (case hd => rfl); (case hg => rfl); (case hr => first | (go_simp; done) | (go_simp; rfl)); intro gb102 hg w8 hbox hb; have n0_ := Aside0.mk (below_step (by repeat (first | (with_reducible first | exact HB.out | apply below_alloc | apply pw_below_drewN | apply below_drew1) | exact HB.out)) hb); have n1_ := Aside0.mk (hbox); have n2_ := Aside0.mk ((by rw [hg]; exact (below_size (by repeat (first | (with_reducible first | exact HB.out | apply below_alloc | apply pw_below_drewN | apply below_drew1) | exact HB.out))) : w.heap.size ≤ gb102)); have n3_ := Aside0.mk ((by rw [hg]; exact (below_size (by repeat (first | (with_reducible first | exact HB.out | apply below_alloc | apply pw_below_drewN | apply below_drew1) | exact HB.out))) : w.heap.size ≤ gb102)); clear HB; have HB := n0_; have BK102 := n1_; have GW102 := n2_; have GE102 := n3_; clear n0_ n1_ n2_ n3_; clear hb hbox hg; have hcz9_0 : w8.cell? ⟨gb102, 0, none⟩ = some (.bool a0_0) := (blk_cell BK102.out 0).trans rfl; have hcz9_1 : w8.cell? ⟨gb102, 1, none⟩ = some (.bool a0_1) := (blk_cell BK102.out 1).trans rfl; have hcz9_2 : w8.cell? ⟨gb102, 2, none⟩ = some (.int .i64 a0_2) := (blk_cell BK102.out 2).trans rfl; have hfz9_0 := blk_frozen BK102.out 0; have hfz9_1 := blk_frozen BK102.out 1; have hfz9_2 := blk_frozen BK102.out 2) | ((with_reducible refine gate_callee (f := 38) rfl ?_); refine goesL_ (some 4) rfl rfl Try.func38 (by kernel_rfl) rfl #[.agg #[.bool a0_0, .bool a0_1, .int .i64 a0_2]] rfl (by (try simp only [List.map_toArray, List.map_cons, List.map_nil]); first | done | rfl | (simp only [List.length_drop, List.length_take]; rfl)) ?_; (with_reducible refine (nodes_usable.calls a0_0 a0_1 a0_2 false _ A2.out).mono ?_); rintro e w10 ⟨rfl, hb⟩; refine ⟨_, rfl, ?_⟩; have n0_ := Aside0.mk (blk_below (g := gb102) (o := .cells #[.bool a0_0, .bool a0_1, .int .i64 a0_2] 35 (0, 0)) (by (with_reducible repeat (first | refine blk_drewN ?_ _ | refine blk_drew ?_ | refine blk_alloc ?_ _)); exact BK102.out) hb); have n1_ := Aside0.mk (below_step (by repeat (first | (with_reducible first | exact HB.out | apply below_alloc | apply pw_below_drewN | apply below_drew1 | refine below_set ?_ GE102.out) | exact HB.out)) hb); clear BK102; clear HB; have BK102 := n0_; have HB := n1_; clear n0_ n1_; (try clear hb); (try clear hb2); (try clear hk); (try clear hi)))
    go_ret
    exact ⟨by first | rfl | (simp [errW_none, errW_some] <;> rfl) | (simp [*, errW_none, errW_some] <;> rfl), by repeat (first | (with_reducible first | exact HB.out | apply below_alloc | apply pw_below_drewN | apply below_drew1 | refine below_set ?_ GE102.out) | exact HB.out)⟩

/-! ### nodes_Usable: function 17 -/
def usableP (x : S35) : Bool := x.f0 && x.f1
theorem usable_eq (x : S35) : nodes_usable.f x.f0 x.f1 x.f2 = some (usableP x) := by
  obtain ⟨a, b, c⟩ := x
  cases a <;> rfl
def nodes_Usable.f (l : List S35) : Option Int := some ((posT usableP l).length : Int)
set_option maxHeartbeats 2000000 in
theorem nodes_Usable.calls (A0 : Option Addr) (c0 : Nat) (l0 : List S35) (r : Int) (w : World) (hr0 : Kd.C k35 w A0 l0.length l0) (hc0 : l0.length ≤ c0) (h : nodes_Usable.f l0 = some r) :
    Calls Try.prog 17 #[.slice A0 l0.length c0] w fun e w' => e = .returned (.int .i64 r) ∧ Below w.heap.size w w' := by
  obtain rfl := Option.some.inj h
  clear h
  go_enter Try.func17, Try.ntmps17
  go_wp2_with (go_at_call 32; refine (nodes_count_calls _ _ l0 usableP 38 _ hr0 hc0 (enters_of Try.func38 (by kernel_rfl) rfl) (fun x W => nodes_usable.calls x.f0 x.f1 x.f2 _ W (usable_eq x))).mono ?_; rintro e w' ⟨rfl, hb⟩; replace hb := Aside0.mk hb)
  go_ret
  exact ⟨rfl, hb.out⟩

/-! ### nodes_Free: function 11 -/
def freeP (x : S35) : Bool := usableP x && x.f2 == 0
theorem free_eq (x : S35) : nodes_free.f x.f0 x.f1 x.f2 = some (freeP x) := by
  unfold nodes_free.f freeP
  rw [usable_eq, Option.bind_some]
  cases usableP x <;> rfl
def nodes_Free.f (l : List S35) : Option Int := some ((posT freeP l).length : Int)
set_option maxHeartbeats 2000000 in
theorem nodes_Free.calls (A0 : Option Addr) (c0 : Nat) (l0 : List S35) (r : Int) (w : World) (hr0 : Kd.C k35 w A0 l0.length l0) (hc0 : l0.length ≤ c0) (h : nodes_Free.f l0 = some r) :
    Calls Try.prog 11 #[.slice A0 l0.length c0] w fun e w' => e = .returned (.int .i64 r) ∧ Below w.heap.size w w' := by
  obtain rfl := Option.some.inj h
  clear h
  go_enter Try.func11, Try.ntmps11
  go_wp2_with (go_at_call 32; refine (nodes_count_calls _ _ l0 freeP 30 _ hr0 hc0 (enters_of Try.func30 (by kernel_rfl) rfl) (fun x W => nodes_free.calls x.f0 x.f1 x.f2 _ W (free_eq x))).mono ?_; rintro e w' ⟨rfl, hb⟩; replace hb := Aside0.mk hb)
  go_ret
  exact ⟨rfl, hb.out⟩

end Go.Proofs.Ytifebcdkckjphaa.P
