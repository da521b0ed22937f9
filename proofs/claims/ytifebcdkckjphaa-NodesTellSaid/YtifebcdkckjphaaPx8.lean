-- Written by this session's program gprint.py: functions of the program as plain functions, and that the machine does what they say. Not trusted: Lean checks it.
import Derived.Test.YtifebcdkckjphaaPx0
import Derived.Test.YtifebcdkckjphaaPx2
namespace Go.Proofs.Ytifebcdkckjphaa.P
open Go.RowKit Go.Proofs.YtifebcdkckjphaaW.PrintWords Go.Proofs.YtifebcdkckjphaaW.PrintLast Go.Proofs.YtifebcdkckjphaaW.PrintMore
attribute [local go_sem] max2_int min2_int max_two min_two max_three min_three max_four min_four   -- for this text's walks alone
set_option linter.unusedVariables false
set_option linter.unusedSimpArgs false

/-! ### nodes_Open: function 26 -/
def nodes_Open.f (l : List S35) (i : Int) (o : Bool) : Option (List S35 × Int) := some (turnR (fun x => x.f1 != o) (fun x => ⟨x.f0, o, x.f2⟩) l i)
set_option maxHeartbeats 2000000 in
theorem open_1.calls (o : Bool) (w0 : World) (dx : Nat) (hx : Boxed w0 dx 4 (.bool o)) (W : World) (base g n cap : Nat) (xs : List S35) (j : Nat) (hB : Below w0.heap.size w0 W) (hg : w0.heap.size ≤ g) (hj : j < xs.length) (h : NodeRow W base g n cap xs) :
    Calls Try.prog 42 (#[.pointer (some ⟨g, j * 3, none⟩)] ++ #[.pointer (some ⟨dx, 0, none⟩)]) W fun e W' => e = .returned (.bool ((fun x : S35 => x.f1 != o) (xs.getD j z35))) ∧ NodeRow W' base g n cap (xs.set j ((fun x : S35 => (⟨x.f0, o, x.f2⟩ : S35)) (xs.getD j z35))) ∧ Keeps (fun k => k ≠ g ∧ ¬ False) W W' ∧ (fun (_ : S35) (_ : World) => True) (xs.getD j z35) W' := by
  have hdx : dx < w0.heap.size := hx.lt
  have hxW : Boxed W dx 4 (.bool o) := Boxed.below' hx hB hdx
  have hne : g ≠ dx := by omega
  have hne' : dx ≠ g := by omega
  obtain ⟨k0, k1, k2, kf⟩ := node_cells h j hj
  have kf1 : W.frozen? ⟨g, j * 3 + 1, none⟩ = false := kf 1
  clear kf
  have hc := hxW.cell
  have hf := hxW.frozen
  obtain ⟨x, hxe⟩ : ∃ x, xs.getD j z35 = x := ⟨_, rfl⟩
  have h1 : NodeRow (W.setCell ⟨g, j * 3 + 1, none⟩ (.bool o)) base g n cap (xs.set j ⟨x.f0, o, x.f2⟩) := node_put h j 1 hj (by decide) (.bool o) ⟨x.f0, o, x.f2⟩ (by rw [hxe]; rfl)
  have h2 : Keeps (fun k => k ≠ g ∧ ¬ False) W (W.setCell ⟨g, j * 3 + 1, none⟩ (.bool o)) := (Keeps.refl _ W).setCell _ (fun e => e.2.1 rfl)
  rw [hxe] at k0 k1 k2 ⊢
  replace h1 := Aside0.mk h1
  replace h2 := Aside0.mk h2
  clear h hB hx hxW hxe hj
  go_enter Try.func42, Try.ntmps42
  go_wp2
  go_ret
  exact ⟨rfl, h1.out, h2.out, trivial⟩
set_option maxHeartbeats 4000000 in
theorem nodes_Open.calls (A0 : Option Addr) (c0 : Nat) (l0 : List S35) (a1 : Int) (a2 : Bool) (r1 : List S35) (r2 : Int) (w : World) (hr0 : Kd.C k35 w A0 l0.length l0) (hc0 : l0.length ≤ c0) (h : nodes_Open.f l0 a1 a2 = some (r1, r2)) :
    Calls Try.prog 26 #[.slice A0 l0.length c0, .int .i64 a1, .bool a2] w fun e w' => ∃ v0_ : Value, e = .returned (.tuple #[v0_, .int .i64 r2]) ∧ Kd.R k35 35 w' w.heap.size (fun _ => True) v0_ r1 ∧ Below w.heap.size w w' := by
  have h := Option.some.inj h
  have hbw : Boxed (w.alloc (.cells #[.bool a2] 4)) w.heap.size 4 (.bool a2) := Boxed.new w _ _
  have hb0 : Below w.heap.size w (w.alloc (.cells #[.bool a2] 4)) := (Below.refl _ _).alloc (Nat.le_refl _) _
  have hturn := Aside0.mk (nodes_turn_own A0 c0 l0 a1 42 #[.pointer (some ⟨w.heap.size, 0, none⟩)] (fun x => x.f1 != a2) (fun x => ⟨x.f0, a2, x.f2⟩) (fun _ => False) (fun _ _ => True) (w.alloc (.cells #[.bool a2] 4))
    (Kd.C_below hr0 hb0) hc0 (enters_of Try.func42 (by kernel_rfl) rfl) (fun W base g n cap xs j hB hg hj h => open_1.calls a2 _ _ hbw W base g n cap xs j hB hg hj h))
  rw [h] at hturn
  have hbb : ∀ {w' : World}, Keeps (fun k => k < (w.alloc (.cells #[.bool a2] 4)).heap.size ∧ ¬ False) (w.alloc (.cells #[.bool a2] 4)) w' → Below w.heap.size w w' := fun {w'} hk =>
    hb0.trans (hk.below hb0.size (fun k hk => ⟨Nat.lt_of_lt_of_le hk hb0.size, not_false⟩))
  have hbs := hb0.size
  replace hbb := Aside0.mk @hbb
  clear h hbw hb0 hr0
  have hmf : ∀ (fn : Fn) (first cap : Array Value) (w : World), (Instr.makeFunc fn first cap).run Try.prog w = .ok (.func fn first cap) w := fun _ _ _ _ => rfl
  go_enter Try.func26, Try.ntmps26
  go_wp2_with (go_at_call 35; refine hturn.out.mono ?_; rintro e w1 ⟨v0, rfl, hrow, hk, hpost⟩; replace hrow := Aside0.mk hrow; replace hk := Aside0.mk hk; clear hpost)
  go_ret2
  exact ⟨_, rfl, Kd.R_lower hrow.out hbs, hbb.out hk.out⟩

end Go.Proofs.Ytifebcdkckjphaa.P
