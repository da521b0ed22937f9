/- PackRow: for all items (of at most 40, texts of at most 300 bytes; else the known answers alone), what is packed has the document's bytes, is read as it was, item by item, and then the reader is Over. -/
import Derived.Test.YtphmejgipjcppaaPack
namespace Go.Proofs.Ytphmejgipjcppaa.Pure
open Go.RowKit Go.Proofs.Ytphmejgipjcppaa.P Go.Proofs.YtphmejgipjcppaaW.PrintWords Go.Proofs.YtphmejgipjcppaaW.PrintLast
set_option linter.unusedVariables false
set_option linter.unusedSimpArgs false

theorem rd_round (f : Nat) : ∀ (n : Int) (k : Nat) (acc : Int) (rest : List Int), n.toNat ≤ f → 0 ≤ n → (0 < k → 0 < n) → n * 128 ^ k < 18446744073709551616 → k ≤ 9 → rdNum k (numT n ++ rest) acc = some (acc + n * 128 ^ k, k + (numT n).length) := by
  induction f with
  | zero =>
    intro n k acc rest hf h0 hk hb h9
    have e : n = 0 := by omega
    subst e
    rw [numT_last (by decide), List.singleton_append, rdNum, if_neg (by omega), if_neg (by decide), if_neg (fun h => by have := hk h.2; omega)]
    rfl
  | succ f ih =>
    intro n k acc rest hf h0 hk hb h9
    have hp : (0 : Int) < 128 ^ k := Int.pow_pos (by omega)
    have h9p : (128 : Int) ^ 9 = 9223372036854775808 := by decide
    by_cases h : 128 ≤ n
    · have hk8 : k ≠ 9 := by
        intro e
        rw [e, h9p] at hb
        omega
      have hpe : (128 : Int) ^ (k + 1) = 128 ^ k * 128 := Int.pow_succ ..
      have hsum : n % 128 * 128 ^ k + n / 128 * 128 ^ (k + 1) = n * 128 ^ k := by
        have e1 : n / 128 * 128 ^ (k + 1) = (128 * (n / 128)) * 128 ^ k := by rw [hpe, Int.mul_comm 128 (n / 128), Int.mul_assoc, Int.mul_comm 128 (128 ^ k)]
        rw [e1, ← Int.add_mul, Int.emod_add_mul_ediv]
      have hm0 : 0 ≤ n % 128 * 128 ^ k := Int.mul_nonneg (Int.emod_nonneg _ (by omega)) (Int.le_of_lt hp)
      rw [numT_more h, List.cons_append, rdNum, if_neg (fun h => hk8 h.1), if_pos (by omega), show (n % 128 + 128) % 128 = n % 128 by omega]
      rw [ih (n / 128) (k + 1) _ rest (by omega) (by omega) (fun _ => by omega) (by omega) (by omega), List.length_cons]
      congr 2
      · omega
      · omega
    · rw [numT_last (by omega), List.singleton_append, rdNum]
      rw [if_neg (fun h2 => by rw [h2.1, h9p] at hb; omega), if_neg h, if_neg (fun h2 => by have := hk h2.2; omega)]
      rfl
theorem bytes_str (l : List Int) (h : ∀ x ∈ l, 0 ≤ x ∧ x ≤ 255) : bytesOf (strOfNums l) = l := by
  unfold bytesOf
  rw [strOfNums_list, List.map_map]
  conv => rhs; rw [← List.map_id l]
  refine List.map_congr_left (fun x hx => ?_)
  have := h x hx
  show (((UInt8.ofNat x.toNat).toNat : Nat) : Int) = x
  rw [UInt8.toNat_ofNat']
  omega
theorem str_drop (l : List Int) (m : Nat) : (strOfNums l).extract m (strOfNums l).size = strOfNums (l.drop m) := by
  refine ba_ext ?_
  rw [ba_drop, strOfNums_list, strOfNums_list, List.map_drop]
theorem numS_round (n : Int) (rest : List Int) (h0 : 0 ≤ n) (h1 : n < 18446744073709551616) (hr : ∀ x ∈ rest, 0 ≤ x ∧ x ≤ 255) : numS (strOfNums (numT n ++ rest)) true = (n, strOfNums rest, true) := by
  have hb : ∀ x ∈ numT n ++ rest, 0 ≤ x ∧ x ≤ 255 := fun x hx => by
    rcases List.mem_append.1 hx with h | h
    · exact numT_range h0 x h
    · exact hr x h
  have e := rd_round n.toNat n 0 0 rest (Nat.le_refl _) h0 (fun h => absurd h (by omega)) (by omega) (by omega)
  rw [numS_some (n := n) (k := (numT n).length) (by rw [bytes_str _ hb, e]; congr 2 <;> omega), str_drop, List.drop_left]
theorem itemB_range (x : S37) (h : 0 ≤ x.f1) : ∀ y ∈ itemB x, 0 ≤ y ∧ y ≤ 255 := by
  unfold itemB
  split
  · exact numT_range h
  · split
    · exact numT_range (by unfold foldR; split <;> omega)
    · split
      · intro y hy
        rcases List.mem_append.1 hy with hy | hy
        · exact numT_range (by omega) y hy
        · exact bytesOf_range _ y hy
      · exact numT_range (by split <;> omega)
theorem rowB_range (l : List S37) (h : ∀ x ∈ l, 0 ≤ x.f1) : ∀ y ∈ rowB l, 0 ≤ y ∧ y ≤ 255 := by
  intro y hy
  obtain ⟨x, hx, hy⟩ := List.mem_flatMap.1 hy
  exact itemB_range x (h x hx) y hy
theorem wrap_range (n : Int) : -9223372036854775808 ≤ wrap64 n ∧ wrap64 n ≤ 9223372036854775807 := by unfold wrap64; omega
theorem foldR_eq (n : Int) : foldR n = foldT n := rfl
theorem itemB_len (x : S37) (h1 : x.f1 < 18446744073709551616) (h2 : x.f2.size ≤ 300) : (itemB x).length ≤ 310 := by
  unfold itemB
  split
  · have := numT_ten h1; omega
  · split
    · have hw := wrap_range x.f1
      have := numT_ten (foldT_range hw.1 hw.2).2
      rw [foldR_eq]; omega
    · split
      · rw [List.length_append, bytesOf_length]
        have := numT_ten (n := (x.f2.size : Int)) (by omega)
        omega
      · have := numT_ten (n := if x.f1 % 2 = 1 then 1 else 0) (by split <;> omega)
        omega
theorem rowB_len (l : List S37) (h : ∀ x ∈ l, x.f1 < 18446744073709551616 ∧ x.f2.size ≤ 300) : (rowB l).length ≤ 310 * l.length := by
  unfold rowB
  induction l with
  | nil => simp
  | cons a t ih =>
    rw [List.flatMap_cons, List.length_append, List.length_cons]
    have h1 := h a List.mem_cons_self
    have := itemB_len a h1.1 h1.2
    have := ih (fun x hx => h x (List.mem_cons_of_mem _ hx))
    omega
theorem read_ok (x : S37) (rest : List Int) (hi : 0 ≤ x.f0 ∧ x.f0 ≤ 255 ∧ 0 ≤ x.f1 ∧ x.f1 < 18446744073709551616) (hs : x.f2.size ≤ 300) (hr : ∀ y ∈ rest, 0 ≤ y ∧ y ≤ 255) : readOk x (strOfNums (itemB x ++ rest)) (strOfNums rest) := by
  have hw := wrap_range x.f1
  have hfr := foldT_range hw.1 hw.2
  refine ⟨fun e => ?_, fun e => ?_, fun e => ?_, fun e => ?_⟩
  · unfold itemB
    rw [if_pos e]
    exact numS_round _ rest hi.2.2.1 hi.2.2.2 hr
  · unfold itemB
    rw [if_neg (by omega), if_pos e]
    exact ⟨_, numS_round _ rest hfr.1 hfr.2 hr, unfold_fold _⟩
  · unfold itemB
    rw [if_neg (by omega), if_neg (by omega), if_pos e]
    have hr2 : ∀ y ∈ bytesOf x.f2 ++ rest, 0 ≤ y ∧ y ≤ 255 := fun y hy => by
      rcases List.mem_append.1 hy with h | h
      · exact bytesOf_range _ y h
      · exact hr y h
    have e1 := numS_round (x.f2.size : Int) (bytesOf x.f2 ++ rest) (by omega) (by omega) hr2
    unfold textS
    rw [List.append_assoc, e1]
    dsimp only
    have e2 : (strOfNums (bytesOf x.f2 ++ rest)).size = x.f2.size + rest.length := by rw [strOfNums_len, List.length_append, bytesOf_length]
    rw [if_neg (by simp), if_neg (by omega), Int.toNat_natCast]
    have e3 : (strOfNums (bytesOf x.f2 ++ rest)).extract 0 x.f2.size = x.f2 := by
      refine ba_ext ?_
      rw [ba_take, strOfNums_list, ← List.map_take, List.take_left' (bytesOf_length x.f2), ← strOfNums_list, strOfNums_bytesOf]
    have e4 : (strOfNums (bytesOf x.f2 ++ rest)).extract x.f2.size (strOfNums (bytesOf x.f2 ++ rest)).size = strOfNums rest := by
      rw [str_drop, List.drop_left' (bytesOf_length x.f2)]
    rw [e3, e4]
  · unfold itemB
    rw [if_neg (by omega), if_neg (by omega), if_neg (by omega)]
    unfold flagS
    rw [numS_round _ rest (by split <;> omega) (by split <;> omega) hr]
    dsimp only
    by_cases h : x.f1 % 2 = 1
    · rw [if_pos h, if_neg (by omega), decide_eq_true h]; rfl
    · rw [if_neg h, if_neg (by omega), decide_eq_false h]; rfl
theorem refNum_l (f : Nat) : ∀ (n : Int) (acc : ByteArray), n.toNat ≤ f → 0 ≤ n → n < 18446744073709551616 → acc.size + (numT n).length ≤ 1000000 → Ev (fun k => forebayref01_Num.l0 k n acc) (acc ++ strOfNums (numT n)) := by
  induction f with
  | zero =>
    intro n acc hf h0 h1 hs
    have e : n = 0 := by omega
    subst e
    rw [numT_last (by decide)]
    refine Ev.succ ?_
    simp only [forebayref01_Num.l0]
    refine Ev.neg (by decide) (Ev.some_bind (Ev.pos ?_ (Ev.const rfl)))
    rw [strOfNums_len]; simp; omega
  | succ f ih =>
    intro n acc hf h0 h1 hs
    refine Ev.succ ?_
    simp only [forebayref01_Num.l0]
    by_cases h : 128 ≤ n
    · rw [numT_more h] at hs ⊢
      rw [List.length_cons] at hs
      have e1 : IntKind.u64.wrap ((Int.tmod n 128) + 128) % 256 = n % 128 + 128 := by
        rw [Int.tmod_eq_emod_of_nonneg h0, u64_id (by omega) (by omega)]; omega
      have e2 : IntKind.u64.wrap (Int.tdiv n 128) = n / 128 := by
        rw [Int.tdiv_eq_ediv_of_nonneg h0, u64_id (by omega) (by omega)]
      rw [e1, e2]
      refine Ev.pos h (Ev.some_bind (Ev.pos ?_ ?_))
      · rw [strOfNums_len]; simp; omega
      · have e3 : (acc ++ strOfNums [n % 128 + 128]).size = acc.size + 1 := by rw [ByteArray.size_append, strOfNums_len]; rfl
        refine (ih (n / 128) _ (by omega) (by omega) (by omega) (by rw [e3]; omega)).eq ?_
        rw [ByteArray.append_assoc, strOfNums_app]
        rfl
    · rw [numT_last (by omega)]
      rw [show n % 256 = n by omega]
      refine Ev.neg (by omega) (Ev.some_bind (Ev.pos ?_ (Ev.const rfl)))
      rw [strOfNums_len]; simp; omega
theorem refNum_ev (n : Int) (h0 : 0 ≤ n) (h1 : n < 18446744073709551616) : Ev (fun k => forebayref01_Num.f k n) (strOfNums (numT n)) := by
  unfold forebayref01_Num.f
  have h10 := numT_ten h1
  refine (refNum_l n.toNat n ⟨#[]⟩ (Nat.le_refl _) h0 h1 (by show 0 + _ ≤ _; omega)).eq ?_
  exact ba_ext (by rw [ba_append]; rfl)
theorem refInt_ev (n : Int) (h0 : -9223372036854775808 ≤ n) (h1 : n ≤ 9223372036854775807) : Ev (fun k => forebayref01_Int.f k n) (strOfNums (numT (foldT n))) := by
  unfold forebayref01_Int.f
  have hf := foldT_range h0 h1
  refine Ev.ite (fun h => ?_) (fun h => ?_)
  · have e : IntKind.u64.wrap (2 * IntKind.u64.wrap n) = foldT n := by
      rw [u64_id (x := n) (by omega) (by omega), u64_id (by omega) (by omega)]; unfold foldT; rw [if_pos h]
    rw [e]
    exact Ev.bind (refNum_ev _ hf.1 hf.2) (Ev.const rfl)
  · have e0 : wrap64 (-(wrap64 (n + 1))) = -(n + 1) := by unfold wrap64; omega
    have e : IntKind.u64.wrap ((IntKind.u64.wrap (2 * IntKind.u64.wrap (wrap64 (-(wrap64 (n + 1)))))) + 1) = foldT n := by
      rw [e0, u64_id (x := -(n + 1)) (by omega) (by omega), u64_id (x := 2 * -(n + 1)) (by omega) (by omega), u64_id (by omega) (by omega)]
      unfold foldT; rw [if_neg h]; omega
    rw [e]
    exact Ev.bind (refNum_ev _ hf.1 hf.2) (Ev.const rfl)
theorem refText_ev (s : ByteArray) (hs : s.size ≤ 300) : Ev (fun k => forebayref01_Text.f k s) (strOfNums (numT (s.size : Int) ++ bytesOf s)) := by
  unfold forebayref01_Text.f
  have h10 := numT_ten (n := (s.size : Int)) (by omega)
  refine Ev.pos (by omega) (Ev.bind (refNum_ev _ (by omega) (by omega)) (Ev.pos (by rw [strOfNums_len]; omega) (Ev.const ?_)))
  rw [← strOfNums_app, strOfNums_bytesOf]
theorem flag_ev (l0 : List Int) (b : Bool) (hl : l0.length ≤ 1000000) : Ev (fun k => pack_Flag.f k l0 [b]) (l0 ++ numT (if b = true then 1 else 0)) := by
  unfold pack_Flag.f
  refine Ev.eq_bind (num_none l0 (by omega)) (Ev.succ ?_)
  simp only [pack_Flag.l0]
  refine Ev.pos (by simp) (Ev.pos (by decide) (Ev.pos (by simp) ?_))
  have e0 : rdOf false [b] 0 = b := rfl
  rw [e0]
  have fin : ∀ l : List Int, Ev (fun k => pack_Flag.l0 k l [b] ((([b] : List Bool).length : Nat) : Int) (wrap64 (0 + 1))) l := fun l => by
    rw [show wrap64 (0 + 1) = 1 by unfold wrap64; omega]
    refine Ev.succ ?_
    simp only [pack_Flag.l0]
    exact Ev.neg (by simp) (Ev.const rfl)
  cases b
  · exact Ev.neg (by simp) (Ev.eq_bind (num_one l0 0 (by omega) (by omega)) (fin _))
  · exact Ev.pos rfl (Ev.eq_bind (num_one l0 1 (by omega) (by omega)) (fin _))
theorem add_ev (b : List Int) (x : S37) (hb : b.length ≤ 20000) (hi : 0 ≤ x.f0 ∧ x.f0 ≤ 255 ∧ 0 ≤ x.f1 ∧ x.f1 < 18446744073709551616) (hs : x.f2.size ≤ 300) :
    Ev (fun k => forebaylaw01_add.f k b x.f0 x.f1 x.f2) (b ++ itemB x, strOfNums (itemB x)) := by
  obtain ⟨i0, i1, i2, i3⟩ := hi
  have hw := wrap_range x.f1
  unfold forebaylaw01_add.f itemB
  rw [Int.tmod_eq_emod_of_nonneg i0, Int.tmod_eq_emod_of_nonneg i2]
  by_cases e0 : x.f0 % 4 = 0
  · rw [if_pos e0]
    exact Ev.pos e0 (Ev.eq_bind (num_one b _ (by omega) ⟨i2, i3⟩) (Ev.bind (refNum_ev _ i2 i3) (Ev.const rfl)))
  · rw [if_neg e0]
    refine Ev.neg e0 ?_
    by_cases e1 : x.f0 % 4 = 1
    · rw [if_pos e1]
      refine Ev.pos e1 (Ev.bind (int_ev b [wrap64 x.f1] (by simp) (by omega) (fun y hy => by rw [List.mem_singleton.1 hy]; exact hw)) (Ev.bind (refInt_ev _ hw.1 hw.2) (Ev.const ?_)))
      rw [foldR_eq]
      simp [intsT]
    · rw [if_neg e1]
      refine Ev.neg e1 ?_
      by_cases e2 : x.f0 % 4 = 2
      · rw [if_pos e2]
        have et : pack_Text.f b [x.f2] = some (b ++ (numT (x.f2.size : Int) ++ bytesOf x.f2)) := by
          unfold pack_Text.f
          rw [if_pos ⟨by omega, by simp, by simp; omega⟩]
          simp [textsT]
        exact Ev.pos e2 (Ev.eq_bind et (Ev.bind (refText_ev _ hs) (Ev.const rfl)))
      · rw [if_neg e2]
        refine Ev.neg e2 (Ev.bind (flag_ev b _ (by omega)) ?_)
        by_cases h : x.f1 % 2 = 1
        · rw [show (x.f1 % 2 == 1) = true from beq_iff_eq.mpr h, if_pos h]
          unfold forebayref01_Flag.f
          refine Ev.const ?_
          rw [show numT (if true = true then 1 else 0) = [1] from numT_last (by decide), show numT 1 = [1] from numT_last (by decide)]
          rfl
        · rw [show (x.f1 % 2 == 1) = false from beq_eq_false_iff_ne.mpr h, if_neg h]
          unfold forebayref01_Flag.f
          refine Ev.const ?_
          rw [show numT (if false = true then 1 else 0) = [0] from numT_last (by decide), show numT 0 = [0] from numT_last (by decide)]
          rfl
theorem adds_ev (l : List S37) (hinv : ∀ x ∈ l, 0 ≤ x.f0 ∧ x.f0 ≤ 255 ∧ 0 ≤ x.f1 ∧ x.f1 < 18446744073709551616) (hl : l.length ≤ 40) (n : Nat) : ∃ K, ∀ k, K ≤ k → ∀ i (hi : i < l.length), i < n → (∀ j (hj : j < l.length), j ≤ i → l[j].f2.size ≤ 300) →
    forebaylaw01_add.f k (rowB (l.take i)) l[i].f0 l[i].f1 l[i].f2 = some (rowB (l.take (i + 1)), strOfNums (itemB l[i])) := by
  induction n with
  | zero => exact ⟨0, fun _ _ i _ h => by omega⟩
  | succ n ih =>
    obtain ⟨K1, h1⟩ := ih
    by_cases hn : n < l.length ∧ ∀ j (hj : j < l.length), j ≤ n → l[j].f2.size ≤ 300
    · obtain ⟨hn, hsz⟩ := hn
      have hb : (rowB (l.take n)).length ≤ 20000 := by
        have := rowB_len (l.take n) (fun x hx => by
          obtain ⟨j, hj, rfl⟩ := List.getElem_of_mem hx
          rw [List.getElem_take]
          rw [List.length_take] at hj
          exact ⟨(hinv _ (List.getElem_mem _)).2.2.2, hsz j (by omega) (by omega)⟩)
        rw [List.length_take] at this
        omega
      obtain ⟨K2, h2⟩ := add_ev (rowB (l.take n)) l[n] hb (hinv _ (List.getElem_mem hn)) (hsz n hn (Nat.le_refl _))
      refine ⟨K1 + K2, fun k hk i hi hin hj => ?_⟩
      by_cases e : i = n
      · subst e
        rw [rowB_snoc l i hi]
        exact h2 k (by omega)
      · exact h1 k (by omega) i hi (by omega) hj
    · refine ⟨K1, fun k hk i hi hin hj => ?_⟩
      by_cases e : i = n
      · subst e
        exact absurd ⟨hi, hj⟩ hn
      · exact h1 k hk i hi (by omega) hj
theorem PackRow : forebaylaw01_PackRow.Pure := by
  intro l hl
  have hinv : ∀ x ∈ l, 0 ≤ x.f0 ∧ x.f0 ≤ 255 ∧ 0 ≤ x.f1 ∧ x.f1 < 18446744073709551616 := fun x hx => by
    obtain ⟨h0, h1, _⟩ := hl.2.2 x hx
    have a := wf_u8 h0
    have b := wf_u64 h1
    exact ⟨a.1, a.2, b.1, by omega⟩
  obtain ⟨K1, h1⟩ := head_ev
  have hadd : ∃ K, ∀ k, K ≤ k → l.length ≤ 40 → ∀ i (hi : i < l.length), (∀ j (hj : j < l.length), j ≤ i → l[j].f2.size ≤ 300) → forebaylaw01_add.f k (rowB (l.take i)) l[i].f0 l[i].f1 l[i].f2 = some (rowB (l.take (i + 1)), strOfNums (itemB l[i])) := by
    by_cases h40 : l.length ≤ 40
    · obtain ⟨K, h⟩ := adds_ev l hinv h40 l.length
      exact ⟨K, fun k hk _ i hi hj => h k hk i hi hi hj⟩
    · exact ⟨0, fun k hk h => absurd h h40⟩
  obtain ⟨K2, h2⟩ := hadd
  suffices hok : RowOk (K1 + K2) l by
    refine ⟨K1 + K2, ?_⟩
    unfold forebaylaw01_PackRow.f
    rw [@if_pos _ (Classical.propDecidable _) hok]
  refine ⟨h1 _ (by omega), hinv, h2 _ (by omega), ?_, ?_, ?_⟩
  · intro h40 hsz i hi
    have e : rowB (l.drop i) = itemB l[i] ++ rowB (l.drop (i + 1)) := by
      rw [List.drop_eq_getElem_cons hi]
      unfold rowB
      rw [List.flatMap_cons]
    rw [e]
    exact read_ok l[i] _ (hinv _ (List.getElem_mem hi)) (hsz _ (List.getElem_mem hi)) (rowB_range _ (fun x hx => (hinv x (List.mem_of_mem_drop hx)).2.2.1))
  · intro h40 i hi hsz
    have := rowB_len (l.take i) (fun x hx => by
      obtain ⟨j, hj, rfl⟩ := List.getElem_of_mem hx
      rw [List.getElem_take]
      rw [List.length_take] at hj
      exact ⟨(hinv _ (List.getElem_mem _)).2.2.2, hsz j (by omega) (by omega)⟩)
    rw [List.length_take] at this
    omega
  · intro h40 hsz i
    rw [strOfNums_len]
    have := rowB_len (l.drop i) (fun x hx => ⟨(hinv x (List.mem_of_mem_drop hx)).2.2.2, hsz x (List.mem_of_mem_drop hx)⟩)
    rw [List.length_drop] at this
    omega
end Go.Proofs.Ytphmejgipjcppaa.Pure
