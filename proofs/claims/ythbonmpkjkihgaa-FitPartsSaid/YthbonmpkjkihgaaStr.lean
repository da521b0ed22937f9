/- The order of texts: less is a total order; the comparison's three answers. -/
import GoSem.Extern.BytealgCompare
import Derived.Laws.Strings
import Derived.Sort.Walk0
namespace Go.Proofs.YthbonmpkjkihgaaW.PrintWords
open Go

theorem less_irrefl : ∀ x : List UInt8, Op.bytesLess x x = false
  | [] => rfl
  | a :: x => by
    unfold Op.bytesLess
    rw [less_irrefl x]
    simp
theorem less_flip : ∀ x y : List UInt8, (Op.bytesLess x y || x == y) = !Op.bytesLess y x
  | [], [] => rfl
  | [], _ :: _ => rfl
  | _ :: _, [] => rfl
  | a :: x, b :: y => by
    have ih := less_flip x y
    unfold Op.bytesLess
    by_cases h : a = b
    · subst h
      simp only [UInt8.lt_irrefl, decide_false, Bool.false_or, beq_self_eq_true, Bool.true_and]
      rw [← ih]
      congr 1
      rw [Bool.eq_iff_iff]
      simp
    · have h' : ¬ b = a := fun e => h e.symm
      have e1 : (a == b) = false := by simpa using h
      have e2 : (b == a) = false := by simpa using h'
      have e3 : (a :: x == b :: y) = false := by simp [h]
      rw [e1, e2, e3]
      simp only [Bool.false_and, Bool.or_false]
      rcases UInt8.lt_or_lt_of_ne h with hl | hl
      · have : ¬ b < a := fun h2 => absurd (UInt8.lt_trans hl h2) (UInt8.lt_irrefl _)
        simp [hl, this]
      · have : ¬ a < b := fun h2 => absurd (UInt8.lt_trans hl h2) (UInt8.lt_irrefl _)
        simp [hl, this]
theorem less_eq_lt (x y : List UInt8) : Op.bytesLess x y = decide (x < y) := bytesLess_eq x y
theorem less_trans {x y z : List UInt8} (h : Op.bytesLess x y = true) (k : Op.bytesLess y z = true) : Op.bytesLess x z = true := by
  rw [less_eq_lt, decide_eq_true_eq] at *
  exact List.lt_trans h k
theorem less_asymm {x y : List UInt8} (h : Op.bytesLess x y = true) : Op.bytesLess y x = false := by
  have := less_flip x y
  rw [h] at this
  simpa using this.symm
theorem less_total {x y : List UInt8} (h : Op.bytesLess x y = false) (hne : x ≠ y) : Op.bytesLess y x = true := by
  have := less_flip x y
  rw [h] at this
  have e : (x == y) = false := by simpa using hne
  rw [e] at this
  simpa using this.symm
theorem str_leq_ (t : TypeId) (a b : ByteArray) : binOp .leq t (.string a) (.string b) = pure (.bool (Op.bytesLess a.toList b.toList || a.toList == b.toList)) := by simp [binOp, Op.stringOp]
theorem str_geq_ (t : TypeId) (a b : ByteArray) : binOp .geq t (.string a) (.string b) = pure (.bool !(Op.bytesLess a.toList b.toList)) := by simp [binOp, Op.stringOp]
theorem leq_no {a b : ByteArray} (h : Op.bytesLess b.toList a.toList = true) : ∀ t : TypeId, binOp .leq t (.string a) (.string b) = pure (.bool false) := fun t => by
  rw [str_leq_, less_flip, h]
  rfl
theorem leq_yes {a b : ByteArray} (h : Op.bytesLess b.toList a.toList = false) : ∀ t : TypeId, binOp .leq t (.string a) (.string b) = pure (.bool true) := fun t => by
  rw [str_leq_, less_flip, h]
  rfl
theorem geq_no {a b : ByteArray} (h : Op.bytesLess a.toList b.toList = true) : ∀ t : TypeId, binOp .geq t (.string a) (.string b) = pure (.bool false) := fun t => by
  rw [str_geq_, h]
  rfl
theorem geq_yes {a b : ByteArray} (h : Op.bytesLess a.toList b.toList = false) : ∀ t : TypeId, binOp .geq t (.string a) (.string b) = pure (.bool true) := fun t => by
  rw [str_geq_, h]
  rfl

theorem find_cmp : ∀ x y : List UInt8,
    (match (List.range (min x.length y.length)).find? (fun i => x.getD i 0 != y.getD i 0) with
      | some i => if x.getD i 0 < y.getD i 0 then (-1 : Int) else 1
      | none => if x.length < y.length then -1 else if x.length > y.length then 1 else 0) = if Op.bytesLess x y = true then -1 else if x = y then 0 else 1
  | [], [] => rfl
  | [], b :: y => by simp [Op.bytesLess]
  | a :: x, [] => by simp [Op.bytesLess]
  | a :: x, b :: y => by
    have ih := find_cmp x y
    have hm : min (a :: x).length (b :: y).length = min x.length y.length + 1 := by simp only [List.length_cons]; omega
    rw [hm, List.range_succ_eq_map, List.find?_cons]
    by_cases h : a = b
    · subst h
      have e0 : ((a :: x).getD 0 0 != (a :: y).getD 0 0) = false := by simp
      rw [e0]
      simp only
      rw [List.find?_map]
      have e1 : ((fun i => (a :: x).getD i 0 != (a :: y).getD i 0) ∘ Nat.succ) = fun i => x.getD i 0 != y.getD i 0 := by funext i; simp
      rw [e1]
      have e2 : Op.bytesLess (a :: x) (a :: y) = Op.bytesLess x y := by rw [Op.bytesLess]; simp
      rw [e2]
      have e3 : (a :: x = a :: y) = (x = y) := by simp
      simp only [e3]
      rw [← ih]
      cases (List.range (min x.length y.length)).find? (fun i => x.getD i 0 != y.getD i 0) with
      | none => simp
      | some i => simp
    · have e0 : ((a :: x).getD 0 0 != (b :: y).getD 0 0) = true := by simpa using h
      rw [e0]
      simp only [List.getD_cons_zero]
      have e1 : (a == b) = false := by simpa using h
      have e2 : Op.bytesLess (a :: x) (b :: y) = decide (a < b) := by rw [Op.bytesLess, e1]; simp
      rw [e2]
      have e3 : ¬ (a :: x = b :: y) := by simp [h]
      by_cases hl : a < b
      · simp [hl]
      · simp [hl, h]
theorem cmp_eq (a b : ByteArray) : Go.Extern.BytealgCompare.cmp a b = if Op.bytesLess a.toList b.toList = true then -1 else if a.toList = b.toList then 0 else 1 := by
  rw [← find_cmp]
  obtain ⟨⟨x⟩⟩ := a
  obtain ⟨⟨y⟩⟩ := b
  rw [ByteArray.toList_mk, ByteArray.toList_mk]
  have g : ∀ (l : List UInt8) (i : Nat), (ByteArray.mk ⟨l⟩)[i]! = l.getD i 0 := fun l i => by
    by_cases h : i < l.length
    · rw [getElem!_pos (ByteArray.mk ⟨l⟩) i h]
      rw [List.getD_eq_getElem?_getD, List.getElem?_eq_getElem h]
      rfl
    · rw [getElem!_neg (ByteArray.mk ⟨l⟩) i h]
      rw [List.getD_eq_getElem?_getD, List.getElem?_eq_none (by omega)]
      rfl
  unfold Go.Extern.BytealgCompare.cmp
  simp only [g]
  rfl
end Go.Proofs.YthbonmpkjkihgaaW.PrintWords
