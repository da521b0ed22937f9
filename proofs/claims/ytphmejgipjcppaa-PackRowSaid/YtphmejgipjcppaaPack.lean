/- Plain lemmas on packed numbers: what the packers tell, and that the numbers' bytes are told apart. -/
import Derived.Test.YtphmejgipjcppaaBytes
import Derived.Test.YtphmejgipjcppaaPx
namespace Go.Proofs.Ytphmejgipjcppaa.Pure
open Go.RowKit Go.Proofs.Ytphmejgipjcppaa.P Go.Proofs.YtphmejgipjcppaaW.PrintWords Go.Proofs.YtphmejgipjcppaaW.PrintLast
set_option linter.unusedVariables false
set_option linter.unusedSimpArgs false

theorem numT_range {n : Int} (h0 : 0 ≤ n) : ∀ x ∈ numT n, 0 ≤ x ∧ x ≤ 255 := numT_byte n.toNat n (Nat.le_refl _) h0
theorem numT_mono : ∀ (k : Nat) (a b : Int), a.toNat ≤ k → 0 ≤ a → a ≤ b → (numT a).length ≤ (numT b).length := by
  intro k
  induction k with
  | zero =>
    intro a b hk h0 hab
    rw [numT_last (by omega)]
    exact numT_pos b
  | succ k ih =>
    intro a b hk h0 hab
    by_cases h : 128 ≤ a
    · rw [numT_more h, numT_more (n := b) (by omega), List.length_cons, List.length_cons]
      have := ih (a / 128) (b / 128) (by omega) (by omega) (by omega)
      omega
    · rw [numT_last (by omega)]
      exact numT_pos b
/-- No number's bytes begin another one's. -/
theorem numT_prefix : ∀ (k : Nat) (a b : Int), a.toNat ≤ k → 0 ≤ a → 0 ≤ b → numT a <+: numT b → a = b := by
  intro k
  induction k with
  | zero =>
    intro a b hk h0 hb hp
    rw [numT_last (show a < 128 by omega)] at hp
    by_cases h2 : 128 ≤ b
    · rw [numT_more h2] at hp
      have := (List.cons_prefix_cons.1 hp).1
      omega
    · rw [numT_last (by omega)] at hp
      exact (List.cons_prefix_cons.1 hp).1
  | succ k ih =>
    intro a b hk h0 hb hp
    by_cases h1 : 128 ≤ a
    · rw [numT_more h1] at hp
      by_cases h2 : 128 ≤ b
      · rw [numT_more h2] at hp
        obtain ⟨e1, e2⟩ := List.cons_prefix_cons.1 hp
        have := ih (a / 128) (b / 128) (by omega) (by omega) (by omega) e2
        omega
      · rw [numT_last (n := b) (by omega)] at hp
        have := (List.cons_prefix_cons.1 hp).1
        omega
    · rw [numT_last (n := a) (by omega)] at hp
      by_cases h2 : 128 ≤ b
      · rw [numT_more h2] at hp
        have := (List.cons_prefix_cons.1 hp).1
        omega
      · rw [numT_last (n := b) (by omega)] at hp
        exact (List.cons_prefix_cons.1 hp).1
theorem bytes_inj : ∀ (l m : List Int), (∀ x ∈ l, 0 ≤ x ∧ x ≤ 255) → (∀ x ∈ m, 0 ≤ x ∧ x ≤ 255) → (l.map fun n => UInt8.ofNat n.toNat) = (m.map fun n => UInt8.ofNat n.toNat) → l = m := by
  intro l
  induction l with
  | nil => intro m _ _ h; cases m with
    | nil => rfl
    | cons a t => simp at h
  | cons a t ih =>
    intro m hl hm h
    cases m with
    | nil => simp at h
    | cons b u =>
      rw [List.map_cons, List.map_cons] at h
      injection h with h1 h2
      have ha := hl a List.mem_cons_self
      have hb := hm b List.mem_cons_self
      have e : (UInt8.ofNat a.toNat).toNat = (UInt8.ofNat b.toNat).toNat := by rw [h1]
      rw [UInt8.toNat_ofNat', UInt8.toNat_ofNat'] at e
      have : a = b := by omega
      rw [this, ih u (fun x hx => hl x (List.mem_cons_of_mem _ hx)) (fun x hx => hm x (List.mem_cons_of_mem _ hx)) h2]

/-- As which number a signed one is packed. -/
def foldT (n : Int) : Int := if 0 ≤ n then 2 * n else -2 * n - 1
theorem foldT_range {n : Int} (h0 : -9223372036854775808 ≤ n) (h1 : n ≤ 9223372036854775807) : 0 ≤ foldT n ∧ foldT n < 18446744073709551616 := by unfold foldT; split <;> omega
theorem unfold_fold (n : Int) : unfoldT (foldT n) = n := by
  unfold foldT unfoldT
  split <;> split <;> omega
theorem fold_eq {n : Int} (h0 : -9223372036854775808 ≤ n) (h1 : n ≤ 9223372036854775807) : pack_fold.f n = some (foldT n) := by
  have hw : ∀ x : Int, IntKind.u64.wrap x = x % 18446744073709551616 := fun x => by simp [IntKind.wrap, IntKind.bits, IntKind.signed]
  unfold pack_fold.f
  rw [hw, hw, hw]
  congr 1
  by_cases h : 0 ≤ n
  · rw [show n / 9223372036854775808 % 18446744073709551616 = 0 by omega, xor_zero64 .u64 (.inr rfl) _ (by omega) (.inr ⟨rfl, by omega⟩)]
    unfold foldT
    rw [if_pos h]
    omega
  · rw [show n / 9223372036854775808 % 18446744073709551616 = 18446744073709551615 by omega]
    show IntKind.u64.wrap (((BitVec.ofInt 64 _ ^^^ BitVec.ofInt 64 18446744073709551615).toNat : Nat) : Int) = _
    rw [xor_ones64 _ (by decide) _ (by omega) (by omega), hw]
    unfold foldT
    rw [if_neg h]
    omega
/-- Several signed numbers' bytes. -/
def intsT (l : List Int) : List Int := l.flatMap (fun n => numT (foldT n))
theorem intsT_len {l : List Int} (h : ∀ x ∈ l, -9223372036854775808 ≤ x ∧ x ≤ 9223372036854775807) : (intsT l).length ≤ 10 * l.length := by
  unfold intsT
  induction l with
  | nil => simp
  | cons a t ih =>
    rw [List.flatMap_cons, List.length_append, List.length_cons]
    have h3 := h a List.mem_cons_self
    have h1 := numT_ten (foldT_range h3.1 h3.2).2
    have h2 := ih (fun x hx => h x (List.mem_cons_of_mem _ hx))
    omega
theorem num_none (l : List Int) (hl : l.length ≤ 100000000) : pack_Num.f l [] = some l := by
  unfold pack_Num.f
  rw [if_pos ⟨hl, by simp, by simp⟩]
  simp [numsT]
theorem num_one (l : List Int) (x : Int) (hl : l.length ≤ 100000000) (hx : 0 ≤ x ∧ x < 18446744073709551616) : pack_Num.f l [x] = some (l ++ numT x) := by
  unfold pack_Num.f
  rw [if_pos ⟨hl, by simp, by simpa using hx⟩]
  simp [numsT]
theorem int_l (l1 : List Int) (hl1 : l1.length ≤ 1000) (hw : ∀ x ∈ l1, -9223372036854775808 ≤ x ∧ x ≤ 9223372036854775807) (d : Nat) : ∀ (i : Nat) (l0 : List Int), i + d = l1.length → l0.length + 10 * d ≤ 100000000 →
    Ev (fun k => pack_Int.l0 k l0 l1 (l1.length : Int) i) (l0 ++ intsT (l1.drop i)) := by
  induction d with
  | zero =>
    intro i l0 hi hl
    rw [List.drop_of_length_le (by omega)]
    refine Ev.succ ?_
    simp only [pack_Int.l0]
    exact Ev.neg (by omega) (Ev.const (by simp [intsT]))
  | succ d ih =>
    intro i l0 hi hl
    have hlt : i < l1.length := by omega
    have hx := hw l1[i] (List.getElem_mem hlt)
    have e : rd l1 (i : Int) = l1[i] := by simp [rd, hlt]
    refine Ev.succ ?_
    simp only [pack_Int.l0]
    rw [e, show wrap64 ((i : Int) + 1) = ((i + 1 : Nat) : Int) by unfold wrap64; omega, List.drop_eq_getElem_cons hlt]
    have hf := foldT_range hx.1 hx.2
    refine Ev.pos (by omega) (Ev.pos (by omega) (Ev.pos (by omega) (Ev.eq_bind (fold_eq hx.1 hx.2) (Ev.eq_bind (num_one l0 _ (by omega) hf) ?_))))
    have := ih (i + 1) (l0 ++ numT (foldT l1[i])) (by omega) (by rw [List.length_append]; have := numT_ten hf.2; omega)
    refine this.eq ?_
    unfold intsT
    rw [List.flatMap_cons, List.append_assoc]
theorem int_ev (l0 l1 : List Int) (hl1 : l1.length ≤ 1000) (hl0 : l0.length ≤ 1000000) (hw : ∀ x ∈ l1, -9223372036854775808 ≤ x ∧ x ≤ 9223372036854775807) : Ev (fun k => pack_Int.f k l0 l1) (l0 ++ intsT l1) := by
  unfold pack_Int.f
  refine Ev.eq_bind (num_none l0 (by omega)) ?_
  have := int_l l1 hl1 hw l1.length 0 l0 (by omega) (by omega)
  rwa [List.drop_zero] at this
theorem head_ev : Ev (fun k => forebaylaw01_head.f k) true := by
  obtain ⟨K, h⟩ := int_ev [] [-1, 1, -64, 64] (by decide) (by decide) (by decide)
  refine ⟨K, fun k hk => ?_⟩
  show (if headInt k then some true else none) = some true
  rw [if_pos]
  refine (h k hk).trans ?_
  have e1 : numT (foldT (-1)) = [1] := numT_last (by decide)
  have e2 : numT (foldT 1) = [2] := numT_last (by decide)
  have e3 : numT (foldT (-64)) = [127] := numT_last (by decide)
  have e4 : numT (foldT 64) = [128, 1] := by rw [numT_more (by decide), numT_last (by decide)]; rfl
  simp [intsT, e1, e2, e3, e4]
end Go.Proofs.Ytphmejgipjcppaa.Pure
