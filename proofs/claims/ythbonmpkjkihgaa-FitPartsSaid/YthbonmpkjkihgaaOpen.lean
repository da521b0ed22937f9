/- Values that came in, opened kind by kind: what is read at a type is of that type's kind, within the form's reach. -/
import Derived.Deep.Slices
import Derived.SizedLaws
import Derived.ProofKit
import Derived.Test.YthbonmpkjkihgaaWWords
import Derived.Test.YthbonmpkjkihgaaWNEv
import Derived.Test.YthbonmpkjkihgaaWMore
namespace Go.Proofs.YthbonmpkjkihgaaW.PrintWords
open Go.RowKit Go.ChangeShapes Go.WideShapes Go.Deep
set_option linter.unusedVariables false
set_option linter.unusedSimpArgs false

/-- Whatever is read at type t is of kind d, and meets inv. -/
def Opn (P : Program) (t : TypeId) {α : Type} (d : Kd α) (inv : α → Prop) : Prop :=
  P.cellsOf t = d.sz ∧ ∀ {H : Type} (enc : TypeId × Value → H) (W : World) (base : Nat) (spare : Nat → Bool) (held : Bool) (fuel : Nat) (cs : List Value) (D : DataW H) (pl : List MemPlace),
    DataW.trod enc P W base spare held fuel t cs = some (D, pl) → (D.weights P t).all (· ≤ reachBytes) = true → ∃ x, d.K W x cs ∧ inv x
/-- The same of fields that lie behind one another from cell o on. -/
def OpnL (P : Program) (fl : List (TypeId × Nat)) (o : Nat) {α : Type} (d : Kd α) (inv : α → Prop) : Prop :=
  ∀ {H : Type} (enc : TypeId × Value → H) (W : World) (base : Nat) (spare : Nat → Bool) (held : Bool) (fuel : Nat) (cs : List Value) (Ds : List (DataW H × List MemPlace)), cs.length = o + d.sz →
    (fl.mapM fun f => DataW.trod enc P W base spare held fuel f.1 ((cs.drop f.2).take (P.cellsOf f.1))) = some Ds → (DataW.weightsEach P (fl.map (·.1)) (Ds.map (·.1))).all (· ≤ reachBytes) = true → ∃ x, d.K W x (cs.drop o) ∧ inv x
section
variable {P : Program} {t e : TypeId}
theorem opn_int {k : IntKind} (ht : P.underlying t = some (.int k)) (hc : P.cellsOf t = 1) : Opn P t (Kd.int k) (fun n => (Lit.int k n).wf = true) := by
  refine ⟨hc, fun {H} enc W base spare held fuel cs D pl h _ => ?_⟩
  obtain ⟨n, e0, _, wn⟩ := DataW.trod_int ht h
  exact ⟨n, e0, wn⟩
theorem opn_bool (ht : P.underlying t = some .bool) (hc : P.cellsOf t = 1) : Opn P t Kd.bool (fun _ => True) := by
  refine ⟨hc, fun {H} enc W base spare held fuel cs D pl h _ => ?_⟩
  cases fuel with
  | zero => simp [DataW.trod] at h
  | succ fuel =>
    unfold DataW.trod at h
    rw [ht] at h
    split at h <;> try (simp at h; done)
    · rename_i hb
      exact ⟨_, rfl, trivial⟩
    all_goals (rename_i hh; simp at hh)
theorem opn_string (ht : P.underlying t = some .string) (hc : P.cellsOf t = 1) : Opn P t Kd.string (fun s => s.size ≤ 140737488351232) := by
  refine ⟨hc, fun {H} enc W base spare held fuel cs D pl h hw => ?_⟩
  obtain ⟨s, e0, e1, _⟩ := DataW.trod_string ht h
  obtain ⟨rfl, rfl⟩ := Prod.mk.inj e1
  refine ⟨s, e0, ?_⟩
  simp only [DataW.weights, List.all_cons, List.all_nil, Bool.and_true, decide_eq_true_eq, Array.length_toList] at hw
  exact hw
theorem rows_of {α : Type} (n : Nat) (p : Nat → α → Prop) (h : ∀ i, i < n → ∃ x, p i x) : ∃ xs : List α, xs.length = n ∧ ∀ j x, xs[j]? = some x → p j x := by
  induction n with
  | zero => exact ⟨[], rfl, fun j x hj => by simp at hj⟩
  | succ n ih =>
    obtain ⟨xs, hl, hx⟩ := ih (fun i hi => h i (by omega))
    obtain ⟨y, hy⟩ := h n (by omega)
    refine ⟨xs ++ [y], by simp [hl], fun j x hj => ?_⟩
    rcases Nat.lt_or_ge j n with hjn | hjn
    · rw [List.getElem?_append_left (by omega)] at hj
      exact hx j x hj
    · have hj1 : j < (xs ++ [y]).length := (List.getElem?_eq_some_iff.1 hj).1
      have : j = n := by simp [hl] at hj1; omega
      subst this
      rw [List.getElem?_append_right (by omega), hl, Nat.sub_self] at hj
      simp at hj
      subst hj
      exact hy
theorem weightsAll_mem {H : Type} {P : Program} {e : TypeId} {ds : List (DataW H)} {d : DataW H} (hd : d ∈ ds) (h : (DataW.weightsAll P e ds).all (· ≤ reachBytes) = true) : (d.weights P e).all (· ≤ reachBytes) = true := by
  induction ds with
  | nil => cases hd
  | cons a r ih =>
    simp only [DataW.weightsAll, List.all_append, Bool.and_eq_true] at h
    rcases List.mem_cons.1 hd with rfl | hd
    · exact h.1
    · exact ih hd h.2
theorem opn_slice {α : Type} {d : Kd α} {inv : α → Prop} {B : Nat} (ht : P.underlying t = some (.slice e)) (hc : P.cellsOf t = 1) (hB : P.bytesOf e = B) (he : Opn P e d inv) : Opn P t (Kd.slice e d) (fun l => l.length * B ≤ 140737488351232 ∧ l.length ≤ maxLen ∧ ∀ x ∈ l, inv x) := by
  subst hB
  refine ⟨hc, fun {H} enc W base spare held fuel cs D pl h hw => ?_⟩
  rcases open_slice ht h with ⟨rfl, hx⟩ | ⟨a, len, cap, m, n, Df, Pl, rfl, hb, hl, hm, hme, hx, hel⟩
  · exact ⟨[], ⟨none, 0, rfl, Nat.le_refl _, Kd.C_nil d W⟩, by simp, by simp, by simp⟩
  · obtain ⟨rfl, rfl⟩ := Prod.mk.inj hx
    have hlm : len ≤ m := by rw [hme]; split <;> omega
    simp only [DataW.weights, ht, List.all_cons, List.all_append, Bool.and_eq_true, decide_eq_true_eq] at hw
    obtain ⟨hw0, hw1, _⟩ := hw
    obtain ⟨xs, hxl, hxs⟩ := rows_of len (fun i x => (∃ c, c.length = d.sz ∧ d.K W x c ∧ ∀ i' u, c[i']? = some u → W.cell? (a.add (i * d.sz + i')) = some u) ∧ inv x) (fun i hi => by
      obtain ⟨cs', hcs, htr⟩ := hel i (by omega)
      obtain ⟨x, hK, hi2⟩ := he.2 enc W base spare held n cs' _ _ htr (weightsAll_mem (List.mem_map.2 ⟨i, by simpa using hi, rfl⟩) hw1)
      obtain ⟨_, hcl, hcell⟩ := World.cells?_some hcs
      refine ⟨x, ⟨cs', d.K_len hK, hK, fun i' u hu => ?_⟩, hi2⟩
      have hlt : i' < cs'.length := (List.getElem?_eq_some_iff.1 hu).1
      have := hcell i' (by omega)
      rw [add_add, he.1] at this
      rw [this, hu])
    refine ⟨xs, ⟨some a, cap, by rw [hxl], by omega, rfl, ?_, fun hp => ⟨a, rfl, fun j p hj => ?_⟩⟩, ?_, ?_, ?_⟩
    · simp only [maxLen] at hm; omega
    · exact (hxs j p hj).1
    · rw [hxl]
      refine Nat.le_trans (Nat.mul_le_mul_right _ ?_) hw0
      simp
    · omega
    · intro x hx
      obtain ⟨j, hj, rfl⟩ := List.getElem_of_mem hx
      exact (hxs j _ (List.getElem?_eq_getElem hj)).2
theorem opnL_one {α : Type} {d : Kd α} {inv : α → Prop} {o : Nat} (h : Opn P t d inv) : OpnL P [(t, o)] o d inv := by
  intro H enc W base spare held fuel cs Ds hl hm hw
  simp only [List.mapM_cons, List.mapM_nil, bind, Option.bind_eq_some_iff, pure, Option.some.injEq] at hm
  obtain ⟨⟨D, pl⟩, h1, _, rfl, rfl⟩ := hm
  rw [h.1, List.take_of_length_le (by rw [List.length_drop]; omega)] at h1
  refine h.2 enc W base spare held fuel _ D pl h1 ?_
  simpa [DataW.weightsEach] using hw
theorem opnL_cons {α β : Type} {d : Kd α} {d' : Kd β} {inv : α → Prop} {inv' : β → Prop} {o o' : Nat} {fl : List (TypeId × Nat)} (h : Opn P t d inv) (ho : o' = o + d.sz) (h' : OpnL P fl o' d' inv') : OpnL P ((t, o) :: fl) o (Kd.pair d d') (fun x => inv x.1 ∧ inv' x.2) := by
  intro H enc W base spare held fuel cs Ds hl hm hw
  subst ho
  have hsz : (Kd.pair d d').sz = d.sz + d'.sz := rfl
  rw [hsz] at hl
  simp only [List.mapM_cons, bind, Option.bind_eq_some_iff, pure, Option.some.injEq] at hm
  obtain ⟨⟨D, pl⟩, h1, Ds', h2, rfl⟩ := hm
  simp only [List.map_cons, DataW.weightsEach, List.all_append, Bool.and_eq_true] at hw
  rw [h.1] at h1
  obtain ⟨x, hK, hi⟩ := h.2 enc W base spare held fuel _ D pl h1 hw.1
  obtain ⟨y, hK', hi'⟩ := h' enc W base spare held fuel cs Ds' (by omega) h2 hw.2
  refine ⟨(x, y), ⟨(cs.drop o).take d.sz, cs.drop (o + d.sz), ?_, hK, hK'⟩, hi, hi'⟩
  rw [← List.drop_drop, List.take_append_drop]
theorem opn_struct {α β : Type} {d : Kd α} {inv : α → Prop} {fs : Array Field} (f : β → α) (g : α → β) (hfg : ∀ x, f (g x) = x) (ht : P.underlying t = some (.struct fs)) (hc : P.cellsOf t = d.sz)
    {fl : List (TypeId × Nat)} (hfl : fs.toList.map (fun f => (f.type, f.offset)) = fl) (h : OpnL P fl 0 d inv) : Opn P t (Kd.iso d f) (fun x => inv (f x)) := by
  refine ⟨hc, fun {H} enc W base spare held fuel cs D pl htr hw => ?_⟩
  cases fuel with
  | zero => simp [DataW.trod] at htr
  | succ fuel =>
    unfold DataW.trod at htr
    rw [ht] at htr
    simp only at htr
    split at htr
    · rename_i hlen
      obtain ⟨Ds, hm, hD⟩ := Option.map_eq_some_iff.1 htr
      obtain ⟨rfl, rfl⟩ := Prod.mk.inj hD
      subst hfl
      simp only [DataW.weights, ht] at hw
      obtain ⟨x, hK, hi⟩ := h enc W base spare held fuel cs Ds (by rw [hlen, hc, Nat.zero_add]) (by rw [List.mapM_map]; exact hm) (by rw [List.map_map]; exact hw)
      refine ⟨g x, ?_, ?_⟩
      · show d.K W (f (g x)) cs
        rw [hfg]
        simpa using hK
      · show inv (f (g x))
        rw [hfg]
        exact hi
    · cases htr
/-- An argument: its cells. -/
theorem opn_arg {H : Type} {enc : TypeId × Value → H} {W : World} {base : Nat} {spare : Nat → Bool} {held : Bool} {v : Value} {D : DataW H} {p : List MemPlace} {α : Type} {d : Kd α} {inv : α → Prop} {ts : List TypeId} {ds : List (DataW H)} {j : Nat}
    (ho : Opn P t d inv) (h : DataW.Trod enc P W base spare held t v D p) (hsz : (DataW.weightsEach P ts ds).all (· ≤ reachBytes) = true) (htj : ts[j]? = some t) (hdj : ds[j]? = some D) : ∃ x, d.K W x v.cells.toList ∧ inv x := by
  obtain ⟨fuel, hf⟩ := h
  refine ho.2 enc W base spare held fuel _ D p hf ?_
  rw [List.all_eq_true]
  intro n hn
  exact List.all_eq_true.1 hsz n (DataW.weights_mem_each htj hdj n hn)
theorem cells_agg {P : Program} {W : World} {r : Reach} {b0 : Nat} {t : TypeId} {fs : Array Field} {v : Value} (hs : P.underlying t = some (.struct fs)) (hv : Value.okWide P W r b0 t v) {l : List Value} (h : v.cells.toList = l) : v = .agg l.toArray := by
  obtain ⟨cs, rfl, _⟩ := okWide_struct hs hv
  subst h
  simp [Value.cells]
theorem cells_slice {P : Program} {W : World} {r : Reach} {b0 : Nat} {t e : TypeId} {v : Value} (hs : P.underlying t = some (.slice e)) (hv : Value.okWide P W r b0 t v) {u : Value} (h : v.cells.toList = [u]) : v = u := by
  obtain ⟨a, l, c, rfl⟩ := okWide_slice hs hv
  simpa [Value.cells] using h
end
end Go.Proofs.YthbonmpkjkihgaaW.PrintWords
