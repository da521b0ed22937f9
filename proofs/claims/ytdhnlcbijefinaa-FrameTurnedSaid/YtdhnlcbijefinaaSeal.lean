/- Plain lemmas on sums and seals. -/
import Derived.Test.YtdhnlcbijefinaaBytes
import Derived.Test.YtdhnlcbijefinaaPx
namespace Go.Proofs.Ytdhnlcbijefinaa.Pure
open Go.RowKit Go.Proofs.Ytdhnlcbijefinaa.P Go.Proofs.YtdhnlcbijefinaaW.PrintWords Go.Proofs.YtdhnlcbijefinaaW.PrintLast
set_option linter.unusedVariables false
set_option linter.unusedSimpArgs false

theorem crcBytes_append (r : BitVec 64) (a b : List UInt8) : crcBytes r (a ++ b) = crcBytes (crcBytes r a) b := by
  unfold crcBytes; rw [List.foldl_append]
theorem more_more (x : Int) (a b : ByteArray) : moreT (moreT x a) b = moreT x (a ++ b) := by
  unfold moreT
  rw [ofInt_uv, BitVec.not_not, ba_append, crcBytes_append]
/-- A sum's bytes, the lowest first. -/
def tail8 (n : Int) : List UInt8 := (List.range 8).map fun j => UInt8.ofNat (n / 256 ^ j % 256).toNat
theorem tail8_length (n : Int) : (tail8 n).length = 8 := by simp [tail8]
theorem sealT_list (s : ByteArray) : (sealT s).data.toList = s.data.toList ++ tail8 (moreT 0 s) := by
  unfold sealT
  rw [strOfNums_list]
  unfold sealNums tail8
  rw [List.map_append, List.map_map]
  congr 1
  have := strOfNums_bytesOf s
  rw [← strOfNums_list, this]
theorem sealT_size (s : ByteArray) : (sealT s).size = s.size + 8 := by
  rw [← ba_size, sealT_list, List.length_append, tail8_length, ba_size]
theorem sealT_prefix (s : ByteArray) : (sealT s).extract 0 s.size = s := by
  refine ba_ext ?_
  rw [ba_take, sealT_list, ← ba_size, List.take_left']
  rfl
/-- What Open tells. -/
def openT (s : ByteArray) : ByteArray × Bool := if 8 ≤ s.size ∧ sealT (s.extract 0 (s.size - 8)) = s then (s.extract 0 (s.size - 8), true) else ((⟨#[]⟩ : ByteArray), false)
theorem extract_size_le (s : ByteArray) (k : Nat) : (s.extract 0 k).size ≤ s.size := by rw [← ba_size, ← ba_size, ba_take, List.length_take]; omega
theorem seal_eq (s : ByteArray) (h : s.size ≤ 140737488355320) : seal_Seal.f s = some (sealT s) := by unfold seal_Seal.f; rw [if_pos h]
theorem refSeal_eq (s : ByteArray) (h : s.size ≤ 140737488355320) : forebayref02_Seal.f s = some (sealT s) := by unfold forebayref02_Seal.f; rw [if_pos h]
theorem sum_eq (s : ByteArray) (h : s.size ≤ 9223372036854775807) : seal_Sum.f s = some (moreT 0 s) := by unfold seal_Sum.f; rw [if_pos h]
theorem more_eq (x : Int) (s : ByteArray) (h : s.size ≤ 9223372036854775807) : seal_More.f x s = some (moreT x s) := by unfold seal_More.f; rw [if_pos h]
theorem refMore_eq (x : Int) (s : ByteArray) (h : s.size ≤ 9223372036854775807) : forebayref02_More.f x s = some (moreT x s) := by unfold forebayref02_More.f; rw [if_pos h]
theorem open_eq (s : ByteArray) (h : s.size ≤ 140737488355320) : seal_Open.f s = some (openT s) := by
  have hx := extract_size_le s (s.size - 8)
  unfold seal_Open.f openT
  by_cases h8 : 8 ≤ s.size
  · have hw : wrap64 ((s.size : Int) - 8) = ((s.size - 8 : Nat) : Int) := by unfold wrap64; omega
    rw [hw, if_neg (by omega), if_pos (by omega), if_pos (by omega), Int.toNat_natCast, seal_eq _ (by omega)]
    simp only [Option.bind_some, ba_inj]
    by_cases he : sealT (s.extract 0 (s.size - 8)) = s
    · rw [if_pos he, if_pos ⟨h8, he⟩]
    · rw [if_neg he, if_neg (fun hh => he hh.2)]
  · rw [if_pos (by unfold wrap64; omega), if_neg (fun hh => h8 hh.1)]
theorem open_seal (s : ByteArray) : openT (sealT s) = (s, true) := by
  have h := sealT_size s
  have e : (sealT s).size - 8 = s.size := by omega
  unfold openT
  rw [e, sealT_prefix, if_pos ⟨by omega, rfl⟩]

end Go.Proofs.Ytdhnlcbijefinaa.Pure
