-- Written by this session's program gprint.py: functions of the program as plain functions, and that the machine does what they say. Not trusted: Lean checks it.
import Derived.Test.YthbonmpkjkihgaaPx0
import Derived.Test.YthbonmpkjkihgaaPx2
import Derived.Test.YthbonmpkjkihgaaPx3
import Derived.Test.YthbonmpkjkihgaaPx5
namespace Go.Proofs.Ythbonmpkjkihgaa.P
open Go.RowKit Go.Proofs.YthbonmpkjkihgaaW.PrintWords Go.Proofs.YthbonmpkjkihgaaW.PrintLast Go.Proofs.YthbonmpkjkihgaaW.PrintMore
attribute [local go_sem] max2_int min2_int max_two min_two max_three min_three max_four min_four   -- for this text's walks alone
set_option linter.unusedVariables false
set_option linter.unusedSimpArgs false
def qf9b0 : Array Bool := #[false, false, false, false, false, false, false, false, false, false, false, false, false, false, false, false, false, false, false, false, false, false, false, false, false, false, false, false, false, false, false, false, false, false, false, false, false, false]
def qf9b1 : Array Bool := #[true, false, false, false, false, false, false, false, false, false, false, false, false, false, false, false, false, false, false, false, false, false, false, false, false, false, false, false, false, false, false, false, false, false, false, false, false, false]
def qf9b2 : Array Bool := #[true, false, true, false, false, false, false, false, false, false, false, false, false, false, false, false, false, false, false, false, false, false, false, false, false, false, false, false, false, false, false, false, false, false, false, false, false, false]
def qf9b3 : Array Bool := #[true, false, true, false, true, false, false, false, false, false, false, false, false, false, false, false, false, false, false, false, false, false, false, false, false, false, false, false, false, false, false, false, false, false, false, false, false, false]
def qf9b4 : Array Bool := #[true, false, true, false, true, false, false, true, false, false, false, false, false, false, false, false, false, false, false, false, false, false, false, false, false, false, false, false, false, false, false, false, false, false, false, false, false, false]
def qf9b5 : Array Bool := #[true, false, true, false, true, false, false, true, false, true, false, false, false, false, false, false, false, false, false, false, false, false, false, false, false, false, false, false, false, false, false, false, false, false, false, false, false, false]
def qf9b6 : Array Bool := #[true, false, true, false, true, false, false, true, false, true, false, true, false, false, false, false, false, false, false, false, false, false, false, false, false, false, false, false, false, false, false, false, false, false, false, false, false, false]
def qf9b7 : Array Bool := #[true, false, true, false, true, false, false, true, false, true, false, true, false, false, true, false, false, false, false, false, false, false, false, false, false, false, false, false, false, false, false, false, false, false, false, false, false, false]
def qf9b8 : Array Bool := #[true, false, true, false, true, false, false, true, false, true, false, true, false, false, true, false, true, false, false, false, false, false, false, false, false, false, false, false, false, false, false, false, false, false, false, false, false, false]
def qf9b9 : Array Bool := #[true, false, true, false, true, false, false, true, false, true, false, true, false, false, true, false, true, false, true, false, false, false, false, false, false, false, false, false, false, false, false, false, false, false, false, false, false, false]
def qf9b10 : Array Bool := #[true, false, true, false, true, false, false, true, false, true, false, true, false, false, true, false, true, false, true, false, false, true, false, false, false, false, false, false, false, false, false, false, false, false, false, false, false, false]
def qf9b11 : Array Bool := #[true, false, true, false, true, false, false, true, false, true, false, true, false, false, true, false, true, false, true, false, false, true, false, true, false, false, false, false, false, false, false, false, false, false, false, false, false, false]
def qf9b12 : Array Bool := #[true, false, true, false, true, false, false, true, false, true, false, true, false, false, true, false, true, false, true, false, false, true, false, true, false, true, false, false, false, false, false, false, false, false, false, false, false, false]
def qf9b13 : Array Bool := #[true, false, true, false, true, false, false, true, false, true, false, true, false, false, true, false, true, false, true, false, false, true, false, true, false, true, false, false, false, true, false, false, false, false, false, false, false, false]
def qf9b14 : Array Bool := #[true, false, true, false, true, false, false, true, false, true, false, true, false, false, true, false, true, false, true, false, false, true, false, true, false, true, false, false, false, true, false, false, true, false, false, false, false, false]
def qf9b15 : Array Bool := #[true, true, true, false, true, false, false, true, false, true, false, true, false, false, true, false, true, false, true, false, false, true, false, true, false, true, false, false, false, true, false, false, true, false, false, false, false, false]
def qf9b16 : Array Bool := #[true, true, true, true, true, false, false, true, false, true, false, true, false, false, true, false, true, false, true, false, false, true, false, true, false, true, false, false, false, true, false, false, true, false, false, false, false, false]
def qf9b17 : Array Bool := #[true, true, true, true, true, true, false, true, false, true, false, true, false, false, true, false, true, false, true, false, false, true, false, true, false, true, false, false, false, true, false, false, true, false, false, false, false, false]
def qf9b18 : Array Bool := #[true, true, true, true, true, true, false, true, true, true, false, true, false, false, true, false, true, false, true, false, false, true, false, true, false, true, false, false, false, true, false, false, true, false, false, false, false, false]
def qf9b19 : Array Bool := #[true, true, true, true, true, true, false, true, true, true, true, true, false, false, true, false, true, false, true, false, false, true, false, true, false, true, false, false, false, true, false, false, true, false, false, false, false, false]
def qf9b20 : Array Bool := #[true, true, true, true, true, true, false, true, true, true, true, true, true, false, true, false, true, false, true, false, false, true, false, true, false, true, false, false, false, true, false, false, true, false, false, false, false, false]
def qf9b21 : Array Bool := #[true, true, true, true, true, true, false, true, true, true, true, true, true, false, true, true, true, false, true, false, false, true, false, true, false, true, false, false, false, true, false, false, true, false, false, false, false, false]
def qf9b22 : Array Bool := #[true, true, true, true, true, true, false, true, true, true, true, true, true, false, true, true, true, true, true, false, false, true, false, true, false, true, false, false, false, true, false, false, true, false, false, false, false, false]
def qf9b23 : Array Bool := #[true, true, true, true, true, true, false, true, true, true, true, true, true, false, true, true, true, true, true, true, false, true, false, true, false, true, false, false, false, true, false, false, true, false, false, false, false, false]
def qf9b24 : Array Bool := #[true, true, true, true, true, true, false, true, true, true, true, true, true, false, true, true, true, true, true, true, false, true, true, true, false, true, false, false, false, true, false, false, true, false, false, false, false, false]
def qf9b25 : Array Bool := #[true, true, true, true, true, true, false, true, true, true, true, true, true, false, true, true, true, true, true, true, false, true, true, true, true, true, false, false, false, true, false, false, true, false, false, false, false, false]
def qf9b26 : Array Bool := #[true, true, true, true, true, true, false, true, true, true, true, true, true, false, true, true, true, true, true, true, false, true, true, true, true, true, true, false, false, true, false, false, true, false, false, false, false, false]
def qf9b27 : Array Bool := #[true, true, true, true, true, true, false, true, true, true, true, true, true, false, true, true, true, true, true, true, false, true, true, true, true, true, true, false, false, true, true, false, true, false, false, false, false, false]
def qf9b28 : Array Bool := #[true, true, true, true, true, true, false, true, true, true, true, true, true, false, true, true, true, true, true, true, false, true, true, true, true, true, true, false, false, true, true, false, true, true, false, false, false, false]
def qf9b29 : Array Bool := #[true, true, true, true, true, true, true, true, true, true, true, true, true, false, true, true, true, true, true, true, false, true, true, true, true, true, true, false, false, true, true, false, true, true, false, false, false, false]
def qf9b30 : Array Bool := #[true, true, true, true, true, true, true, true, true, true, true, true, true, true, true, true, true, true, true, true, false, true, true, true, true, true, true, false, false, true, true, false, true, true, false, false, false, false]
def qf9b31 : Array Bool := #[true, true, true, true, true, true, true, true, true, true, true, true, true, true, true, true, true, true, true, true, true, true, true, true, true, true, true, false, false, true, true, false, true, true, false, false, false, false]
def qf9b32 : Array Bool := #[true, true, true, true, true, true, true, true, true, true, true, true, true, true, true, true, true, true, true, true, true, true, true, true, true, true, true, true, false, true, true, false, true, true, false, false, false, false]
def qf9b33 : Array Bool := #[true, true, true, true, true, true, true, true, true, true, true, true, true, true, true, true, true, true, true, true, true, true, true, true, true, true, true, false, false, true, true, false, true, true, false, false, true, false]
def qf9b34 : Array Bool := #[true, true, true, true, true, true, true, true, true, true, true, true, true, true, true, true, true, true, true, true, true, true, true, true, true, true, true, true, true, true, true, false, true, true, false, false, false, false]
def qf9b35 : Array Bool := #[true, true, true, true, true, true, true, true, true, true, true, true, true, true, true, true, true, true, true, true, true, true, true, true, true, true, true, true, false, true, true, false, true, true, false, false, true, false]
def qf9b36 : Array Bool := #[true, true, true, true, true, true, true, true, true, true, true, true, true, true, true, true, true, true, true, true, true, true, true, true, true, true, true, true, true, true, true, true, true, true, false, false, false, false]
def qf9b37 : Array Bool := #[true, true, true, true, true, true, true, true, true, true, true, true, true, true, true, true, true, true, true, true, true, true, true, true, true, true, true, true, true, true, true, false, true, true, false, false, true, false]
def qf9b38 : Array Bool := #[true, true, true, true, true, true, true, true, true, true, true, true, true, true, true, true, true, true, true, true, true, true, true, true, true, true, true, true, true, true, true, true, true, true, true, false, false, false]
def qf9b39 : Array Bool := #[true, true, true, true, true, true, true, true, true, true, true, true, true, true, true, true, true, true, true, true, true, true, true, true, true, true, true, true, true, true, true, true, true, true, true, true, false, false]
def qf9b40 : Array Bool := #[true, true, true, true, true, true, true, true, true, true, true, true, true, true, true, true, true, true, true, true, true, true, true, true, true, true, true, true, true, true, true, true, true, true, true, true, true, false]
def qf9b41 : Array Bool := #[true, true, true, true, true, true, true, true, true, true, true, true, true, true, true, true, true, true, true, true, true, true, true, true, true, true, true, true, true, true, true, true, true, true, false, false, true, false]
def qf9b42 : Array Bool := #[true, true, true, true, true, true, true, true, true, true, true, true, true, true, true, true, true, true, true, true, true, true, true, true, true, true, true, true, true, true, true, true, true, true, true, false, true, false]
def qf9b43 : Array Bool := #[true, true, true, true, true, true, true, true, true, true, true, true, true, true, true, true, true, true, true, true, true, true, true, true, true, true, true, true, true, true, true, true, true, true, true, true, true, true]
def qf9b44 : Array Bool := #[false, false, false, false, false, false, false, false, false, false, false, false, false, false, false, false, false, false, false, false, false, false, false]
def qf9b45 : Array Bool := #[true, false, false, false, false, false, false, false, false, false, false, false, false, false, false, false, false, false, false, false, false, false, false]
def qf9b46 : Array Bool := #[true, true, false, false, false, false, false, false, false, false, false, false, false, false, false, false, false, false, false, false, false, false, false]
def qf9b47 : Array Bool := #[true, true, false, false, false, false, true, false, false, false, false, false, false, false, false, false, false, false, false, false, false, false, false]
def qf9b48 : Array Bool := #[true, true, false, false, false, false, true, false, true, false, false, false, false, false, false, false, false, false, false, false, false, false, false]
def qf9b49 : Array Bool := #[true, true, false, false, false, false, true, false, true, false, true, false, false, false, false, false, false, false, false, false, false, false, false]
def qf9b50 : Array Bool := #[true, true, false, false, false, false, true, false, true, false, true, false, false, false, true, false, false, false, false, false, false, false, false]
def qf9b51 : Array Bool := #[true, true, true, false, false, false, true, false, true, false, true, false, false, false, true, false, false, false, false, false, false, false, false]
def qf9b52 : Array Bool := #[true, true, true, false, false, false, true, true, true, false, true, false, false, false, true, false, false, false, false, false, false, false, false]
def qf9b53 : Array Bool := #[true, true, true, false, false, false, true, true, true, true, true, false, false, false, true, false, false, false, false, false, false, false, false]
def qf9b54 : Array Bool := #[true, true, true, false, false, false, true, true, true, true, true, true, false, false, true, false, false, false, false, false, false, false, false]
def qf9b55 : Array Bool := #[true, true, true, false, false, false, true, true, true, true, true, true, false, false, true, true, false, false, false, false, false, false, false]
def qf9b56 : Array Bool := #[true, true, true, true, false, false, true, true, true, true, true, true, false, false, true, true, false, false, false, false, false, false, false]
def qf9b57 : Array Bool := #[true, true, true, false, false, false, true, true, true, true, true, true, true, false, true, true, false, false, false, false, false, false, false]
def qf9b58 : Array Bool := #[true, true, true, false, false, false, true, true, true, true, true, true, false, false, true, true, false, false, false, false, true, false, false]
def qf9b59 : Array Bool := #[true, true, true, true, true, false, true, true, true, true, true, true, false, false, true, true, false, false, false, false, false, false, false]
def qf9b60 : Array Bool := #[true, true, true, true, true, true, true, true, true, true, true, true, false, false, true, true, false, false, false, false, false, false, false]
def qf9b61 : Array Bool := #[true, true, true, true, true, true, true, true, true, true, true, true, true, false, true, true, false, false, false, false, false, false, false]
def qf9b62 : Array Bool := #[true, true, true, true, true, true, true, true, true, true, true, true, false, false, true, true, false, false, false, false, true, false, false]
def qf9b63 : Array Bool := #[true, true, true, true, true, true, true, true, true, true, true, true, true, true, true, true, false, false, false, false, false, false, false]
def qf9b64 : Array Bool := #[true, true, true, true, true, true, true, true, true, true, true, true, true, false, true, true, false, false, false, false, true, false, false]
def qf9b65 : Array Bool := #[true, true, true, true, true, true, true, true, true, true, true, true, true, true, true, true, true, false, false, false, false, false, false]
def qf9b66 : Array Bool := #[true, true, true, true, true, true, true, true, true, true, true, true, true, true, true, true, false, false, false, false, true, false, false]
def qf9b67 : Array Bool := #[true, true, true, true, true, true, true, true, true, true, true, true, true, true, true, true, true, true, false, false, false, false, false]
def qf9b68 : Array Bool := #[true, true, true, true, true, true, true, true, true, true, true, true, true, true, true, true, true, true, true, false, false, false, false]
def qf9b69 : Array Bool := #[true, true, true, true, true, true, true, true, true, true, true, true, true, true, true, true, true, true, true, true, false, false, false]
def qf9b70 : Array Bool := #[true, true, true, true, true, true, true, true, true, true, true, true, true, true, true, true, true, true, true, true, true, false, false]
def qf9b71 : Array Bool := #[true, true, true, true, true, true, true, true, true, true, true, true, true, true, true, true, true, false, false, false, true, false, false]
def qf9b72 : Array Bool := #[true, true, true, true, true, true, true, true, true, true, true, true, true, true, true, true, true, true, false, false, true, false, false]
def qf9b73 : Array Bool := #[true, true, true, true, true, true, true, true, true, true, true, true, true, true, true, true, true, true, true, false, true, false, false]
def qf9b74 : Array Bool := #[true, true, true, true, false, false, true, true, true, true, true, true, true, false, true, true, false, false, false, false, false, false, false]
def qf9b75 : Array Bool := #[true, true, true, false, false, false, true, true, true, true, true, true, true, false, true, true, false, false, false, false, true, false, false]
def qf9b76 : Array Bool := #[true, true, true, true, true, false, true, true, true, true, true, true, true, false, true, true, false, false, false, false, false, false, false]
def qf9b77 : Array Bool := #[true, true, true, true, false, false, true, true, true, true, true, true, true, false, true, true, false, false, false, false, true, false, false]
def qf9b78 : Array Bool := #[true, true, true, true, true, false, true, true, true, true, true, true, true, false, true, true, false, false, false, false, true, false, false]
def qf9b79 : Array Bool := #[true, true, true, true, false, false, true, true, true, true, true, true, false, false, true, true, false, false, false, false, true, false, false]
def qf9b80 : Array Bool := #[true, true, true, true, true, false, true, true, true, true, true, true, false, false, true, true, false, false, false, false, true, false, false]
def qf9b81 : Array Bool := #[true, true, true, true, true, true, true, true, true, true, true, true, true, true, true, true, true, true, true, true, true, true, false]
def qf9b82 : Array Bool := #[true, true, true, true, true, true, true, true, true, true, true, true, true, true, true, true, true, true, true, true, true, true, true]
def qf9b83 : Array Bool := #[false, false, false, false, false, false]
def qf9b84 : Array Bool := #[true, false, false, false, false, false]
def qf9b85 : Array Bool := #[true, false, false, true, false, false]
def qf9b86 : Array Bool := #[true, true, false, true, false, false]
def qf9b87 : Array Bool := #[true, true, true, true, false, false]
def qf9b88 : Array Bool := #[true, true, true, true, true, false]
def qf9b89 : Array Bool := #[true, true, true, true, true, true]

/-! ### fit_each: function 27 -/
def fit_each.T3 : Bool × List (List Nat × List Nat) := (true, [([], []), ([0], [0]), ([], []), ([2], [2]), ([], []), ([4], [4]), ([1, 3, 5], [1, 3, 5]), ([], []), ([7], [7]), ([], []), ([9], [9]), ([], []), ([11], [11]), ([8, 10, 12], [8, 10, 12]), ([], []), ([14], [14]), ([], []), ([16], [16]), ([], []), ([18], [18]), ([15, 17, 19], [15, 17, 19]), ([], []), ([21], [21]), ([], []), ([23], [23]), ([], []), ([25], [25]), ([24, 26], [24, 26]), ([27], [27]), ([], []), ([29], [29]), ([28, 30, 28], [28, 30]), ([], []), ([32], [32]), ([22, 31, 33], [22, 31, 33]), ([6, 13, 20, 34], [6, 13, 20, 34]), ([], []), ([36, 35, 31, 0, 1, 2, 3, 4, 5, 6, 7, 8, 9, 10, 11, 12, 13, 14, 15, 16, 17, 18, 19, 20, 21, 22, 23, 24, 25, 26, 27, 28, 29, 30, 31, 32, 33, 34, 35, 36], [35, 36])])
def fit_each.B3 : List Nat := [0, 1, 0, 4, 0, 16, 63, 0, 128, 0, 512, 0, 2048, 8064, 0, 16384, 0, 65536, 0, 262144, 1032192, 0, 2097152, 0, 8388608, 0, 33554432, 125829120, 260046848, 0, 536870912, 2139095040, 0, 4294967296, 17177772032, 34359738367, 0, 137438953471]
theorem fit_each.tab3 : rtab .any (opsOf Try.f27 3) = fit_each.T3 := by kernel_rfl
theorem fit_each.bits3 : waitsOk fit_each.T3.2 fit_each.B3 = true := by kernel_rfl
def fit_each.T7 : Bool × List (List Nat × List Nat) := (true, [([], []), ([], []), ([1], [1]), ([2], [2]), ([3], [3]), ([4], [4]), ([], []), ([6], [6]), ([], []), ([8], [8]), ([], []), ([10], [10]), ([9, 11], [9, 11]), ([12, 3], [12]), ([], []), ([14], [14]), ([0, 5, 7, 13, 15, 13], [0, 5, 7, 13, 15]), ([16], [16]), ([17], [17]), ([17], [17]), ([], []), ([20, 18, 16, 0, 1, 2, 3, 4, 5, 6, 7, 8, 9, 10, 11, 12, 13, 14, 15, 16, 17, 18, 20], [18, 20]), ([19, 21, 0, 1, 2, 3, 4, 5, 6, 7, 8, 9, 10, 11, 12, 13, 14, 15, 16, 17, 18, 19, 20, 21], [19])])
def fit_each.B7 : List Nat := [0, 0, 2, 6, 14, 30, 0, 64, 0, 256, 0, 1024, 3840, 7950, 0, 16384, 65535, 131071, 262143, 262143, 0, 1572863, 4194303]
theorem fit_each.tab7 : rtab .any (opsOf Try.f27 7) = fit_each.T7 := by kernel_rfl
theorem fit_each.bits7 : waitsOk fit_each.T7.2 fit_each.B7 = true := by kernel_rfl
def fit_each.T10 : Bool × List (List Nat × List Nat) := (true, [([], []), ([0], [0]), ([1], [1]), ([], []), ([2, 0, 1, 2, 3], [2]), ([4, 3, 2, 0, 1, 2, 3], [3, 4])])
def fit_each.B10 : List Nat := [0, 1, 3, 0, 15, 31]
theorem fit_each.tab10 : rtab .any (opsOf Try.f27 10) = fit_each.T10 := by kernel_rfl
theorem fit_each.bits10 : waitsOk fit_each.T10.2 fit_each.B10 = true := by kernel_rfl
theorem put_list (l : List Value) (d : List Deferred) (N : Nat) (v : Value) : Act.put ⟨l.toArray, d⟩ (some N) v = ⟨(l.set N v).toArray, d⟩ := by simp [Act.put]
theorem each_drawn {a b : World} (h : Drawn0 a b) : Below a.heap.size a b := by
 obtain ⟨m, rfl⟩ := h
 exact ⟨rfl, rfl, rfl, Nat.le_refl _, fun _ _ => rfl⟩
theorem fit_lanes_call (b : Nat) (W : World) : Calls Try.prog 38 #[.pointer (some ⟨b, 0, none⟩)] W fun e w' => e = .returned (.pointer (some ⟨b, 2 * 2, none⟩)) ∧ w' = W := by
 go_enter Try.func38, Try.ntmps38
 go_wp2
 go_ret
 exact ⟨rfl, rfl⟩
theorem fit_nodes_call (b : Nat) (W : World) : Calls Try.prog 39 #[.pointer (some ⟨b, 0, none⟩)] W fun e w' => e = .returned (.pointer (some ⟨b, 2 * 0, none⟩)) ∧ w' = W := by
 go_enter Try.func39, Try.ntmps39
 go_wp2
 go_ret
 exact ⟨rfl, rfl⟩
theorem fit_bytes_call (b : Nat) (W : World) : Calls Try.prog 40 #[.pointer (some ⟨b, 0, none⟩)] W fun e w' => e = .returned (.pointer (some ⟨b, 2 * 1, none⟩)) ∧ w' = W := by
 go_enter Try.func40, Try.ntmps40
 go_wp2
 go_ret
 exact ⟨rfl, rfl⟩
/-- A room that is turned: its profiles, and whether a profile's rows are the call's own. -/
abbrev RoomR := List (List Int × List Int × Bool)
structure RoomS (w W : World) (b : Nat) (X : Nat → Prop) (vs : List Value) (R : RoomR) : Prop where
 box : BoxN W b 26 vs
 len : vs.length = 6
 rlen : R.length = 3
 row : ∀ j p, R[j]? = some p → ∃ v0 v1, vs[2 * j]? = some v0 ∧ vs[2 * j + 1]? = some v1 ∧ Kd.V (Kd.int .i64) 2 W 0 (fun k => k ≠ b ∧ ¬ X k ∧ (p.2.2 = true → w.heap.size ≤ k)) v0 p.1 ∧ Kd.V (Kd.int .i64) 2 W 0 (fun k => k ≠ b ∧ ¬ X k ∧ (p.2.2 = true → w.heap.size ≤ k)) v1 p.2.1
theorem RoomS.below {w W W' : World} {b : Nat} {X : Nat → Prop} {vs : List Value} {R : RoomR} (h : RoomS w W b X vs R) (hb : Below W.heap.size W W') : RoomS w W' b X vs R :=
 ⟨BoxN.below h.box hb h.box.lt, h.len, h.rlen, fun j p hj => by
  obtain ⟨v0, v1, h0, h1, h2, h3⟩ := h.row j p hj
  exact ⟨v0, v1, h0, h1, Kd.V_below h2 hb, Kd.V_below h3 hb⟩⟩
theorem RoomS.elder {w W : World} {b : Nat} {X : Nat → Prop} {vs : List Value} {R : RoomR} (h : RoomS w W b X vs R) (g : Nat) (hg : W.heap.size ≤ g) : RoomS w W b (fun k => X k ∨ k = g) vs R :=
 ⟨h.box, h.len, h.rlen, fun j p hj => by
  obtain ⟨v0, v1, h0, h1, h2, h3⟩ := h.row j p hj
  exact ⟨v0, v1, h0, h1, Kd.V_mono (Kd.V_elderB h2 g hg) (fun k hk => ⟨hk.1.1, fun e => e.elim hk.1.2.1 hk.2, hk.1.2.2⟩), Kd.V_mono (Kd.V_elderB h3 g hg) (fun k hk => ⟨hk.1.1, fun e => e.elim hk.1.2.1 hk.2, hk.1.2.2⟩)⟩⟩
theorem RoomS.far {w W : World} {b : Nat} {X : Nat → Prop} {vs : List Value} {R : RoomR} (h : RoomS w W b X vs R) {q : Addr} (hX : X q.block) (hq : b ≠ q.block) (u : Value) : RoomS w (W.setCell q u) b X vs R :=
 ⟨h.box.other hq u, h.len, h.rlen, fun j p hj => by
  obtain ⟨v0, v1, h0, h1, h2, h3⟩ := h.row j p hj
  exact ⟨v0, v1, h0, h1, Kd.V_far h2 (fun k hk e => hk.2.1 (e ▸ hX)) u, Kd.V_far h3 (fun k hk e => hk.2.1 (e ▸ hX)) u⟩⟩
theorem RoomS.weak {w W : World} {b : Nat} {X X' : Nat → Prop} {vs : List Value} {R : RoomR} (h : RoomS w W b X vs R) (hX : ∀ k, X' k → X k) : RoomS w W b X' vs R :=
 ⟨h.box, h.len, h.rlen, fun j p hj => by
  obtain ⟨v0, v1, h0, h1, h2, h3⟩ := h.row j p hj
  exact ⟨v0, v1, h0, h1, Kd.V_mono h2 (fun k hk => ⟨hk.1, fun e => hk.2.1 (hX k e), hk.2.2⟩), Kd.V_mono h3 (fun k hk => ⟨hk.1, fun e => hk.2.1 (hX k e), hk.2.2⟩)⟩⟩
theorem RoomS.set {w W : World} {b : Nat} {X : Nat → Prop} {vs : List Value} {R : RoomR} (h : RoomS w W b X vs R) (j : Nat) (hj : j < 3) (u0 u1 : Value) (r1 r2 : List Int)
  (h0 : Kd.V (Kd.int .i64) 2 W 0 (fun k => k ≠ b ∧ ¬ X k ∧ w.heap.size ≤ k) u0 r1) (h1 : Kd.V (Kd.int .i64) 2 W 0 (fun k => k ≠ b ∧ ¬ X k ∧ w.heap.size ≤ k) u1 r2) :
  RoomS w ((W.setCell ⟨b, 2 * j, none⟩ u0).setCell ⟨b, 2 * j + 1, none⟩ u1) b X ((vs.set (2 * j) u0).set (2 * j + 1) u1) (R.set j (r1, r2, true)) := by
 have hlen := h.len
 have hrl := h.rlen
 have far : ∀ (ok : Nat → Prop) (v : Value) (xs : List Int), (∀ k, ok k → k ≠ b) → Kd.V (Kd.int .i64) 2 W 0 ok v xs → Kd.V (Kd.int .i64) 2 ((W.setCell ⟨b, 2 * j, none⟩ u0).setCell ⟨b, 2 * j + 1, none⟩ u1) 0 ok v xs :=
  fun ok v xs hok hv => Kd.V_far (p := ⟨b, 2 * j + 1, none⟩) (Kd.V_far (p := ⟨b, 2 * j, none⟩) hv hok u0) hok u1
 refine ⟨(h.box.set _ _).set _ _, by simp [hlen], by simp [hrl], fun q p hq => ?_⟩
 by_cases e : q = j
 ·
  subst e
  rw [List.getElem?_set_self (by omega)] at hq
  obtain rfl := Option.some.inj hq
  refine ⟨u0, u1, ?_, ?_, far _ _ _ (fun k hk => hk.1) (Kd.V_mono h0 (fun k hk => ⟨hk.1, hk.2.1, fun _ => hk.2.2⟩)), far _ _ _ (fun k hk => hk.1) (Kd.V_mono h1 (fun k hk => ⟨hk.1, hk.2.1, fun _ => hk.2.2⟩))⟩
  ·
   rw [List.getElem?_set_ne (by omega), List.getElem?_set_self (by omega)]
  ·
   rw [List.getElem?_set_self (by simp; omega)]
 ·
  rw [List.getElem?_set_ne (fun e2 => e e2.symm)] at hq
  obtain ⟨v0, v1, g0, g1, g2, g3⟩ := h.row q p hq
  refine ⟨v0, v1, ?_, ?_, far _ _ _ (fun k hk => hk.1) g2, far _ _ _ (fun k hk => hk.1) g3⟩
  ·
   rw [List.getElem?_set_ne (by omega), List.getElem?_set_ne (by omega)]
   exact g0
  ·
   rw [List.getElem?_set_ne (by omega), List.getElem?_set_ne (by omega)]
   exact g1
/-- What Take or Give does with a profile. -/
abbrev DoF := List Int → List Int → Int → Int → Int → Option (List Int × List Int × Int)
/-- Windows: which profile, from, how long, how many. -/
def runW (D : DoF) : List (Nat × Int × Int × Int) → RoomR → Option (RoomR × Int)
 | [], R => some (R, 0)
 | (j, f, l, n) :: ws, R => (D (R.getD j ([], [], false)).1 (R.getD j ([], [], false)).2.1 f (sumT 0 [f, l]) n).bind fun r => if r.2.2 = 0 then runW D ws (R.set j (r.1, r.2.1, true)) else some (R, r.2.2)
theorem runW_fresh (D : DoF) : ∀ (ws : List (Nat × Int × Int × Int)) (R Rf : RoomR), runW D ws R = some (Rf, 0) → (∀ q ∈ ws, q.1 < R.length) → ∀ j, ((R.getD j ([], [], true)).2.2 = true ∨ ∃ q ∈ ws, q.1 = j) → (Rf.getD j ([], [], true)).2.2 = true := by
 intro ws
 induction ws with
 | nil =>
  intro R Rf h _ j hj
  simp only [runW, Option.some.injEq, Prod.mk.injEq] at h
  obtain ⟨rfl, _⟩ := h
  rcases hj with hj | ⟨q, hq, _⟩
  ·
   exact hj
  ·
   cases hq
 | cons x ws ih =>
  intro R Rf h hl j hj
  obtain ⟨j0, f, l, n⟩ := x
  unfold runW at h
  obtain ⟨⟨r1, r2, e3⟩, hD, h2⟩ := Option.bind_eq_some_iff.1 h
  by_cases he : e3 = 0
  case neg => rw [if_neg he] at h2; simp only [Option.some.injEq, Prod.mk.injEq] at h2; exact absurd h2.2 he
  rw [if_pos he] at h2
  have hj0 : j0 < R.length := hl _ (List.mem_cons_self ..)
  refine ih _ _ h2 (fun q hq => by rw [List.length_set]; exact hl q (List.mem_cons_of_mem _ hq)) j ?_
  by_cases e : j0 = j
  ·
   subst e
   exact .inl (by rw [List.getD_eq_getElem?_getD, List.getElem?_set_self hj0]; rfl)
  ·
   rcases hj with hj | ⟨q, hq, rfl⟩
   ·
    exact .inl (by rw [List.getD_eq_getElem?_getD, List.getElem?_set_ne e, ← List.getD_eq_getElem?_getD]; exact hj)
   ·
    rcases List.mem_cons.1 hq with rfl | hq
    ·
     exact absurd rfl e
    ·
     exact .inr ⟨q, hq, rfl⟩
/-- What each tells. -/
def EachPost (w : World) (R : RoomR) (ef : Int) (e : Ending) (w' : World) : Prop :=
 ∃ v0 v1 v2 v3 v4 v5 : Value, e = .returned (.tuple #[.agg #[v0, v1, v2, v3, v4, v5], .int .i64 ef]) ∧ Kd.V (Kd.int .i64) 2 w' w.heap.size (fun k => w.heap.size ≤ k) v0 (R.getD 0 ([], [], true)).1 ∧ Kd.V (Kd.int .i64) 2 w' w.heap.size (fun k => w.heap.size ≤ k) v1 (R.getD 0 ([], [], true)).2.1 ∧ Kd.V (Kd.int .i64) 2 w' w.heap.size (fun k => w.heap.size ≤ k) v2 (R.getD 1 ([], [], true)).1 ∧ Kd.V (Kd.int .i64) 2 w' w.heap.size (fun k => w.heap.size ≤ k) v3 (R.getD 1 ([], [], true)).2.1 ∧ Kd.V (Kd.int .i64) 2 w' w.heap.size (fun k => w.heap.size ≤ k) v4 (R.getD 2 ([], [], true)).1 ∧ Kd.V (Kd.int .i64) 2 w' w.heap.size (fun k => w.heap.size ≤ k) v5 (R.getD 2 ([], [], true)).2.1 ∧ Below w.heap.size w w'
theorem EachPost.nil (w w' : World) (ef : Int) (hb : Below w.heap.size w w') : EachPost w [] ef (.returned (.tuple #[.agg #[.slice none 0 0, .slice none 0 0, .slice none 0 0, .slice none 0 0, .slice none 0 0, .slice none 0 0], .int .i64 ef])) w' :=
 ⟨_, _, _, _, _, _, rfl, Kd.V_nil (Kd.int .i64) _ _ _ _, Kd.V_nil (Kd.int .i64) _ _ _ _, Kd.V_nil (Kd.int .i64) _ _ _ _, Kd.V_nil (Kd.int .i64) _ _ _ _, Kd.V_nil (Kd.int .i64) _ _ _ _, Kd.V_nil (Kd.int .i64) _ _ _ _, hb⟩
theorem EachPost.room {w W W' : World} {b g : Nat} {v0 v1 v2 v3 v4 v5 : Value} {R : RoomR} (h : RoomS w W b (fun k => k = g) [v0, v1, v2, v3, v4, v5] R) (hk : Keeps (fun k => k ≠ g) W W') (hfr : ∀ j, j < 3 → (R.getD j ([], [], true)).2.2 = true) (hb : Below w.heap.size w W') : EachPost w R 0 (.returned (.tuple #[.agg #[v0, v1, v2, v3, v4, v5], .int .i64 0])) W' := by
 have key : ∀ j, j < 3 → ∀ u0 u1, [v0, v1, v2, v3, v4, v5][2 * j]? = some u0 → [v0, v1, v2, v3, v4, v5][2 * j + 1]? = some u1 → Kd.V (Kd.int .i64) 2 W' w.heap.size (fun k => w.heap.size ≤ k) u0 (R.getD j ([], [], true)).1 ∧ Kd.V (Kd.int .i64) 2 W' w.heap.size (fun k => w.heap.size ≤ k) u1 (R.getD j ([], [], true)).2.1 := by
  intro j hj u0 u1 h0 h1
  have hjl : j < R.length := by rw [h.rlen]; exact hj
  obtain ⟨p, hp⟩ : ∃ p, R[j]? = some p := ⟨_, List.getElem?_eq_getElem hjl⟩
  have hg : R.getD j ([], [], true) = p := by rw [List.getD_eq_getElem?_getD, hp]; rfl
  obtain ⟨x0, x1, e0, e1, g0, g1⟩ := h.row j p hp
  rw [h0] at e0
  rw [h1] at e1
  cases e0
  cases e1
  have hf := hfr j hj
  rw [hg] at hf ⊢
  have mv : ∀ (v : Value) (xs : List Int), Kd.V (Kd.int .i64) 2 W 0 (fun k => k ≠ b ∧ ¬ k = g ∧ (p.2.2 = true → w.heap.size ≤ k)) v xs → Kd.V (Kd.int .i64) 2 W' w.heap.size (fun k => w.heap.size ≤ k) v xs := fun v xs hv =>
   Kd.V_mono (Kd.V_step hv (fun k hk' hlt => hk.block k hlt hk'.2.1)) (fun k hk => hk.2.2 hf)
  exact ⟨mv _ _ g0, mv _ _ g1⟩
 exact ⟨_, _, _, _, _, _, rfl, (key 0 (by omega) _ _ rfl rfl).1, (key 0 (by omega) _ _ rfl rfl).2, (key 1 (by omega) _ _ rfl rfl).1, (key 1 (by omega) _ _ rfl rfl).2, (key 2 (by omega) _ _ rfl rfl).1, (key 2 (by omega) _ _ rfl rfl).2, hb⟩
theorem may_three (k : Nat) (A0_0 : Option Addr) (c0_0 : Nat) (l0_0 : List Int) (A0_1 : Option Addr) (c0_1 : Nat) (l0_1 : List Int) (A0_2 : Option Addr) (c0_2 : Nat) (l0_2 : List Int) (A0_3 : Option Addr) (c0_3 : Nat) (l0_3 : List Int) (A0_4 : Option Addr) (c0_4 : Nat) (l0_4 : List Int) (A0_5 : Option Addr) (c0_5 : Nat) (l0_5 : List Int) (a1_0 : Int) (a1_1 : Int) (a1_2 : Int) (a1_3 : Int) (a1_4 : Int) (a1_5 : Int) (a2_0 : Int) (a2_1 : Int) (a2_2 : Int) (s : Nat) (r : Bool) (w : World) (hs : w.heap.size = s) (hr0_0 : Kd.C (Kd.int .i64) w A0_0 l0_0.length l0_0) (hc0_0 : l0_0.length ≤ c0_0) (hr0_1 : Kd.C (Kd.int .i64) w A0_1 l0_1.length l0_1) (hc0_1 : l0_1.length ≤ c0_1) (hr0_2 : Kd.C (Kd.int .i64) w A0_2 l0_2.length l0_2) (hc0_2 : l0_2.length ≤ c0_2) (hr0_3 : Kd.C (Kd.int .i64) w A0_3 l0_3.length l0_3) (hc0_3 : l0_3.length ≤ c0_3) (hr0_4 : Kd.C (Kd.int .i64) w A0_4 l0_4.length l0_4) (hc0_4 : l0_4.length ≤ c0_4) (hr0_5 : Kd.C (Kd.int .i64) w A0_5 l0_5.length l0_5) (hc0_5 : l0_5.length ≤ c0_5) (h : fit_may.f k l0_0 l0_1 l0_2 l0_3 l0_4 l0_5 a1_0 a1_1 a1_2 a1_3 a1_4 a1_5 [a2_0, a2_1, a2_2] = some r) :
  Calls Try.prog 17 #[.agg #[.slice A0_0 l0_0.length c0_0, .slice A0_1 l0_1.length c0_1, .slice A0_2 l0_2.length c0_2, .slice A0_3 l0_3.length c0_3, .slice A0_4 l0_4.length c0_4, .slice A0_5 l0_5.length c0_5], .agg #[.int .i64 a1_0, .int .i64 a1_1, .int .i64 a1_2, .int .i64 a1_3, .int .i64 a1_4, .int .i64 a1_5], .slice (some ⟨s, 0, none⟩) 3 3] (w.alloc (.cells #[.int .i64 a2_0, .int .i64 a2_1, .int .i64 a2_2] 2)) fun e w' => e = .returned (.bool r) ∧ Below w.heap.size w w' := by
 subst hs
 have hl : Kd.C (Kd.int .i64) (w.alloc (.cells #[.int .i64 a2_0, .int .i64 a2_1, .int .i64 a2_2] 2)) (some ⟨w.heap.size, 0, none⟩) ([a2_0, a2_1, a2_2] : List Int).length [a2_0, a2_1, a2_2] := C_lits w [a2_0, a2_1, a2_2] (by show 3 ≤ maxLen; decide)
 exact (fit_may.calls k A0_0 c0_0 l0_0 A0_1 c0_1 l0_1 A0_2 c0_2 l0_2 A0_3 c0_3 l0_3 A0_4 c0_4 l0_4 A0_5 c0_5 l0_5 a1_0 a1_1 a1_2 a1_3 a1_4 a1_5 (some ⟨w.heap.size, 0, none⟩) 3 [a2_0, a2_1, a2_2] r _ (Kd.C_alloc hr0_0 _) hc0_0 (Kd.C_alloc hr0_1 _) hc0_1 (Kd.C_alloc hr0_2 _) hc0_2 (Kd.C_alloc hr0_3 _) hc0_3 (Kd.C_alloc hr0_4 _) hc0_4 (Kd.C_alloc hr0_5 _) hc0_5 hl (Nat.le_refl _) h).mono (fun e w' h => ⟨h.1, ((Below.refl _ w).alloc (Nat.le_refl _) _).trans (h.2.mono (by simp))⟩)

set_option maxHeartbeats 32000000 in
set_option maxRecDepth 100000 in
theorem fit_each_calls (k : Nat) (A0_0 : Option Addr) (c0_0 : Nat) (l0_0 : List Int) (A0_1 : Option Addr) (c0_1 : Nat) (l0_1 : List Int) (A0_2 : Option Addr) (c0_2 : Nat) (l0_2 : List Int) (A0_3 : Option Addr) (c0_3 : Nat) (l0_3 : List Int) (A0_4 : Option Addr) (c0_4 : Nat) (l0_4 : List Int) (A0_5 : Option Addr) (c0_5 : Nat) (l0_5 : List Int) (a1_0 : Int) (a1_1 : Int) (a1_2 : Int) (a1_3 : Int) (a1_4 : Int) (a1_5 : Int) (a2_0 : Int) (a2_1 : Int) (a2_2 : Int) (dof : Nat) (D : DoF) (w : World) (hr0_0 : Kd.C (Kd.int .i64) w A0_0 l0_0.length l0_0) (hc0_0 : l0_0.length ≤ c0_0) (hr0_1 : Kd.C (Kd.int .i64) w A0_1 l0_1.length l0_1) (hc0_1 : l0_1.length ≤ c0_1) (hr0_2 : Kd.C (Kd.int .i64) w A0_2 l0_2.length l0_2) (hc0_2 : l0_2.length ≤ c0_2) (hr0_3 : Kd.C (Kd.int .i64) w A0_3 l0_3.length l0_3) (hc0_3 : l0_3.length ≤ c0_3) (hr0_4 : Kd.C (Kd.int .i64) w A0_4 l0_4.length l0_4) (hc0_4 : l0_4.length ≤ c0_4) (hr0_5 : Kd.C (Kd.int .i64) w A0_5 l0_5.length l0_5) (hc0_5 : l0_5.length ≤ c0_5) (hm : fit_may.f k l0_0 l0_1 l0_2 l0_3 l0_4 l0_5 a1_0 a1_1 a1_2 a1_3 a1_4 a1_5 [a2_0, a2_1, a2_2] = some true) (hent2 : ∀ args w, (callFunc dof args).run Try.prog w = .ok (.enter dof args) w) (hdo : ∀ (A : Option Addr) (c : Nat) (a : List Int) (B : Option Addr) (d : Nat) (n : List Int) (lo hi m : Int) (r1 r2 : List Int) (r3 : Int) (W : World), Kd.C (Kd.int .i64) W A a.length a → a.length ≤ c → Kd.C (Kd.int .i64) W B n.length n → n.length ≤ d → D a n lo hi m = some (r1, r2, r3) → Calls Try.prog dof #[.agg #[.slice A a.length c, .slice B n.length d], .int .i64 lo, .int .i64 hi, .int .i64 m] W fun e w' => ∃ v0 v1 : Value, e = .returned (.tuple #[.agg #[v0, v1], .int .i64 r3]) ∧ Kd.V (Kd.int .i64) 2 w' W.heap.size (fun k => W.heap.size ≤ k) v0 r1 ∧ Kd.V (Kd.int .i64) 2 w' W.heap.size (fun k => W.heap.size ≤ k) v1 r2 ∧ Below W.heap.size W w') (Rf : RoomR) (ef : Int) (dAdd dSub : Int) (hrun : runW D [(2, a2_0, a1_0, a1_5), (0, a2_1, a1_1, a1_3), (2, a2_2, a1_2, a1_5), (1, a2_0, dSub, a1_4)] [(l0_0, l0_1, false), (l0_2, l0_3, false), (l0_4, l0_5, false)] = some (Rf, ef)) (hAdd : sat_Add.f [a2_2, a1_2] = some dAdd) (hSub : sat_Sub.f dAdd a2_0 = some dSub) :
  Calls Try.prog 27 #[.agg #[.slice A0_0 l0_0.length c0_0, .slice A0_1 l0_1.length c0_1, .slice A0_2 l0_2.length c0_2, .slice A0_3 l0_3.length c0_3, .slice A0_4 l0_4.length c0_4, .slice A0_5 l0_5.length c0_5], .agg #[.int .i64 a1_0, .int .i64 a1_1, .int .i64 a1_2, .int .i64 a1_3, .int .i64 a1_4, .int .i64 a1_5], .agg #[.int .i64 a2_0, .int .i64 a2_1, .int .i64 a2_2], .func (Fn.func dof) #[] #[]] w fun e w' => EachPost w (if ef = 0 then Rf else []) ef e w' := by
 have hu24 := Try.underlying24
 have hu26 := Try.underlying26
 have hu28 := Try.underlying28
 have hu30 := Try.underlying30
 have hu80 := Try.underlying80
 have hu83 := Try.underlying83
 replace hm := Aside0.mk hm
 replace hAdd := Aside0.mk hAdd
 replace hSub := Aside0.mk hSub
 replace hrun := Aside0.mk hrun
 have hrun0 := hrun
 have HR0 := Aside0.mk hr0_0
 have HC0 := Aside0.mk hc0_0
 have HR1 := Aside0.mk hr0_1
 have HC1 := Aside0.mk hc0_1
 have HR2 := Aside0.mk hr0_2
 have HC2 := Aside0.mk hc0_2
 have HR3 := Aside0.mk hr0_3
 have HC3 := Aside0.mk hc0_3
 have HR4 := Aside0.mk hr0_4
 have HC4 := Aside0.mk hc0_4
 have HR5 := Aside0.mk hr0_5
 have HC5 := Aside0.mk hc0_5
 clear hr0_0 hc0_0 hr0_1 hc0_1 hr0_2 hc0_2 hr0_3 hc0_3 hr0_4 hc0_4 hr0_5 hc0_5
 obtain ⟨H, hH⟩ : ∃ H, w.heap.size = H := ⟨_, rfl⟩
 obtain ⟨W4, hW4⟩ : ∃ W4, List.foldl World.alloc w [.cells #[.slice A0_0 l0_0.length c0_0, .slice A0_1 l0_1.length c0_1, .slice A0_2 l0_2.length c0_2, .slice A0_3 l0_3.length c0_3, .slice A0_4 l0_4.length c0_4, .slice A0_5 l0_5.length c0_5] 26, .cells #[.int .i64 a1_0, .int .i64 a1_1, .int .i64 a1_2, .int .i64 a1_3, .int .i64 a1_4, .int .i64 a1_5] 28, .cells #[.int .i64 a2_0, .int .i64 a2_1, .int .i64 a2_2] 30, .cells #[.slice none 0 0, .slice none 0 0, .slice none 0 0, .slice none 0 0, .slice none 0 0, .slice none 0 0] 26] = W4 := ⟨_, rfl⟩
 have P0 : BoxN W4 H 26 [.slice A0_0 l0_0.length c0_0, .slice A0_1 l0_1.length c0_1, .slice A0_2 l0_2.length c0_2, .slice A0_3 l0_3.length c0_3, .slice A0_4 l0_4.length c0_4, .slice A0_5 l0_5.length c0_5] := by have := al_at hW4 0 _ rfl; rw [hH] at this; exact this
 have P1 : BoxN W4 (H + 1) 28 [.int .i64 a1_0, .int .i64 a1_1, .int .i64 a1_2, .int .i64 a1_3, .int .i64 a1_4, .int .i64 a1_5] := by have := al_at hW4 1 _ rfl; rw [hH] at this; exact this
 have P2 : BoxN W4 (H + 1 + 1) 30 [.int .i64 a2_0, .int .i64 a2_1, .int .i64 a2_2] := by have := al_at hW4 2 _ rfl; rw [hH] at this; exact this
 have P3 : BoxN W4 (H + 1 + 1 + 1) 26 [.slice none 0 0, .slice none 0 0, .slice none 0 0, .slice none 0 0, .slice none 0 0, .slice none 0 0] := by have := al_at hW4 3 _ rfl; rw [hH] at this; exact this
 have HB : Below w.heap.size w W4 := by rw [← hW4]; exact al_below _ w
 have b4 : W4.heap.size = H + 1 + 1 + 1 + 1 := by rw [← hW4, al_size, hH]; rfl
 simp only [List.foldl_cons, List.foldl_nil] at hW4
 go_enter Try.func27, Try.ntmps27
 go_upto_region 1 with fail
 (try rw [hW4])
 clear hW4
 have x0 := P0.cell 0 rfl
 have x1 := P0.cell 1 rfl
 have x2 := P0.cell 2 rfl
 have x3 := P0.cell 3 rfl
 have x4 := P0.cell 4 rfl
 have x5 := P0.cell 5 rfl
 have s0 := P1.cell 0 rfl
 have s1 := P1.cell 1 rfl
 have s2 := P1.cell 2 rfl
 have s3 := P1.cell 3 rfl
 have s4 := P1.cell 4 rfl
 have s5 := P1.cell 5 rfl
 have s6 := P2.cell 0 rfl
 have s7 := P2.cell 1 rfl
 have s8 := P2.cell 2 rfl
 replace P0 := Aside0.mk P0
 replace P1 := Aside0.mk P1
 replace P2 := Aside0.mk P2
 replace P3 := Aside0.mk P3
 replace HB := Aside0.mk HB
 go_upto_region 3 with (go_at_call 17; go_loud (with_reducible refine (may_three k A0_0 c0_0 l0_0 A0_1 c0_1 l0_1 A0_2 c0_2 l0_2 A0_3 c0_3 l0_3 A0_4 c0_4 l0_4 A0_5 c0_5 l0_5 a1_0 a1_1 a1_2 a1_3 a1_4 a1_5 a2_0 a2_1 a2_2 _ true _ b4 (Kd.C_below HR0.out HB.out) HC0.out (Kd.C_below HR1.out HB.out) HC1.out (Kd.C_below HR2.out HB.out) HC2.out (Kd.C_below HR3.out HB.out) HC3.out (Kd.C_below HR4.out HB.out) HC4.out (Kd.C_below HR5.out HB.out) HC5.out hm.out).mono ?_); rintro e w1 ⟨rfl, hb⟩; replace HB := Aside0.mk (HB.out.trans (hb.mono HB.out.size)); replace P0 := Aside0.mk (BoxN.below P0.out hb P0.out.lt); replace P1 := Aside0.mk (BoxN.below P1.out hb P1.out.lt); replace P2 := Aside0.mk (BoxN.below P2.out hb P2.out.lt); replace P3 := Aside0.mk (BoxN.below P3.out hb P3.out.lt); clear hb; (try clear s0 s1 s2 s3 s4 s5 s6 s7 s8); have s0 := P1.out.cell 0 rfl; have s1 := P1.out.cell 1 rfl; have s2 := P1.out.cell 2 rfl; have s3 := P1.out.cell 3 rfl; have s4 := P1.out.cell 4 rfl; have s5 := P1.out.cell 5 rfl; have s6 := P2.out.cell 0 rfl; have s7 := P2.out.cell 1 rfl; have s8 := P2.out.cell 2 rfl)
 clear x0 x1 x2 x3 x4 x5 b4 hm
 go_cut [10] (fun v10 wc => ∃ gx, v10 = .pointer (some ⟨gx, 0, none⟩) ∧ Aside0 (H + 1 + 1 + 1 < gx) ∧ Aside0 (BoxN wc gx 83 [.func (Fn.func 38) #[] #[], .int .i64 a2_0, .int .i64 a1_0, .int .i64 a1_5, .func (Fn.func 39) #[] #[], .int .i64 a2_1, .int .i64 a1_1, .int .i64 a1_3, .func (Fn.func 38) #[] #[], .int .i64 a2_2, .int .i64 a1_2, .int .i64 a1_5, .func (Fn.func 40) #[] #[], .int .i64 a2_0, .int .i64 dSub, .int .i64 a1_4]) ∧ Aside0 (BoxN wc (H) 26 [.slice A0_0 l0_0.length c0_0, .slice A0_1 l0_1.length c0_1, .slice A0_2 l0_2.length c0_2, .slice A0_3 l0_3.length c0_3, .slice A0_4 l0_4.length c0_4, .slice A0_5 l0_5.length c0_5]) ∧ Aside0 (BoxN wc (H + 1) 28 [.int .i64 a1_0, .int .i64 a1_1, .int .i64 a1_2, .int .i64 a1_3, .int .i64 a1_4, .int .i64 a1_5]) ∧ Aside0 (BoxN wc (H + 1 + 1) 30 [.int .i64 a2_0, .int .i64 a2_1, .int .i64 a2_2]) ∧ Aside0 (BoxN wc (H + 1 + 1 + 1) 26 [.slice none 0 0, .slice none 0 0, .slice none 0 0, .slice none 0 0, .slice none 0 0, .slice none 0 0]) ∧ Aside0 (Below w.heap.size w wc))
 case first =>
  refine start_ (n := 38) (S := fun w' => w'.cell? ⟨H + 1, 0, none⟩ = some (.int .i64 a1_0) ∧ w'.cell? ⟨H + 1, 1, none⟩ = some (.int .i64 a1_1) ∧ w'.cell? ⟨H + 1, 2, none⟩ = some (.int .i64 a1_2) ∧ w'.cell? ⟨H + 1, 3, none⟩ = some (.int .i64 a1_3) ∧ w'.cell? ⟨H + 1, 4, none⟩ = some (.int .i64 a1_4) ∧ w'.cell? ⟨H + 1, 5, none⟩ = some (.int .i64 a1_5) ∧ w'.cell? ⟨H + 1 + 1, 0, none⟩ = some (.int .i64 a2_0) ∧ w'.cell? ⟨H + 1 + 1, 1, none⟩ = some (.int .i64 a2_1) ∧ w'.cell? ⟨H + 1 + 1, 2, none⟩ = some (.int .i64 a2_2)) (ds := [37]) qf9b0 (by kernel_rfl) rfl rfl ⟨s0, s1, s2, s3, s4, s5, s6, s7, s8⟩ (fun hHeld => ?_); refine with_tabW fit_each.tab3 fit_each.bits3 (fun HT_ HW_ => ?_)
  have hb : Below w1.heap.size w1 w1.drew := below_drew (Below.refl _ _)
  replace HB := Aside0.mk (HB.out.trans (hb.mono HB.out.size))
  replace P0 := Aside0.mk (BoxN.below P0.out hb P0.out.lt)
  replace P1 := Aside0.mk (BoxN.below P1.out hb P1.out.lt)
  replace P2 := Aside0.mk (BoxN.below P2.out hb P2.out.lt)
  replace P3 := Aside0.mk (BoxN.below P3.out hb P3.out.lt)
  clear hb
  (try clear s0 s1 s2 s3 s4 s5 s6 s7 s8)
  have s0 := P1.out.cell 0 rfl
  have s1 := P1.out.cell 1 rfl
  have s2 := P1.out.cell 2 rfl
  have s3 := P1.out.cell 3 rfl
  have s4 := P1.out.cell 4 rfl
  have s5 := P1.out.cell 5 rfl
  have s6 := P2.out.cell 0 rfl
  have s7 := P2.out.cell 1 rfl
  have s8 := P2.out.cell 2 rfl
  generalize w1.drew = w2 at *
  refine (fun (tail3 : ∀ (gx : Nat) (Aq : Option Addr) (cq : Nat) (wn : World), Aside0 (H + 1 + 1 + 1 < gx) → Aside0 (BoxN wn gx 83 [.nilFunc, .int .i64 0, .int .i64 0, .int .i64 0, .nilFunc, .int .i64 0, .int .i64 0, .int .i64 0, .nilFunc, .int .i64 0, .int .i64 0, .int .i64 0, .nilFunc, .int .i64 0, .int .i64 0, .int .i64 0]) → Aside0 (BoxN wn (H) 26 [.slice A0_0 l0_0.length c0_0, .slice A0_1 l0_1.length c0_1, .slice A0_2 l0_2.length c0_2, .slice A0_3 l0_3.length c0_3, .slice A0_4 l0_4.length c0_4, .slice A0_5 l0_5.length c0_5]) → Aside0 (BoxN wn (H + 1) 28 [.int .i64 a1_0, .int .i64 a1_1, .int .i64 a1_2, .int .i64 a1_3, .int .i64 a1_4, .int .i64 a1_5]) → Aside0 (BoxN wn (H + 1 + 1) 30 [.int .i64 a2_0, .int .i64 a2_1, .int .i64 a2_2]) → Aside0 (BoxN wn (H + 1 + 1 + 1) 26 [.slice none 0 0, .slice none 0 0, .slice none 0 0, .slice none 0 0, .slice none 0 0, .slice none 0 0]) → Aside0 (Below w.heap.size w wn) → (?G3 : Nat → Option Addr → Nat → World → Prop) gx Aq cq wn) => ?main3) ?tl3
  case main3 =>
   refine pure_ (i := 0) (N := some 27) (v := ?_) (a' := ?_) qf9b1 rfl rfl (any_of HT_.out (by kernel_rfl)) (fun _ _ _ h => h) (Or.inl ⟨by rfl, ?_⟩) ?_ ?_
   rotate_left
   ·
    intro w'
    go_simp
    with_reducible rfl
   rotate_left
   ·
    refine (put_list _ _ _ _).trans ?_
    dsimp only [List.set_cons_zero, List.set_cons_succ]
    rfl
   refine pure_ (i := 2) (N := some 29) (v := ?_) (a' := ?_) qf9b2 rfl rfl (any_of HT_.out (by kernel_rfl)) (fun _ _ _ h => h) (Or.inl ⟨by rfl, ?_⟩) ?_ ?_
   rotate_left
   ·
    intro w'
    go_simp
    with_reducible rfl
   rotate_left
   ·
    refine (put_list _ _ _ _).trans ?_
    dsimp only [List.set_cons_zero, List.set_cons_succ]
    rfl
   refine pure_ (i := 4) (N := some 31) (v := ?_) (a' := ?_) qf9b3 rfl rfl (any_of HT_.out (by kernel_rfl)) (fun _ _ _ h => h) (Or.inl ⟨by rfl, ?_⟩) ?_ ?_
   rotate_left
   ·
    intro w'
    go_simp
    with_reducible rfl
   rotate_left
   ·
    refine (put_list _ _ _ _).trans ?_
    dsimp only [List.set_cons_zero, List.set_cons_succ]
    rfl
   refine pure_ (i := 7) (N := some 34) (v := ?_) (a' := ?_) qf9b4 rfl rfl (any_of HT_.out (by kernel_rfl)) (fun _ _ _ h => h) (Or.inl ⟨by rfl, ?_⟩) ?_ ?_
   rotate_left
   ·
    intro w'
    go_simp
    with_reducible rfl
   rotate_left
   ·
    refine (put_list _ _ _ _).trans ?_
    dsimp only [List.set_cons_zero, List.set_cons_succ]
    rfl
   refine pure_ (i := 9) (N := some 36) (v := ?_) (a' := ?_) qf9b5 rfl rfl (any_of HT_.out (by kernel_rfl)) (fun _ _ _ h => h) (Or.inl ⟨by rfl, ?_⟩) ?_ ?_
   rotate_left
   ·
    intro w'
    go_simp
    with_reducible rfl
   rotate_left
   ·
    refine (put_list _ _ _ _).trans ?_
    dsimp only [List.set_cons_zero, List.set_cons_succ]
    rfl
   refine pure_ (i := 11) (N := some 38) (v := ?_) (a' := ?_) qf9b6 rfl rfl (any_of HT_.out (by kernel_rfl)) (fun _ _ _ h => h) (Or.inl ⟨by rfl, ?_⟩) ?_ ?_
   rotate_left
   ·
    intro w'
    go_simp
    with_reducible rfl
   rotate_left
   ·
    refine (put_list _ _ _ _).trans ?_
    dsimp only [List.set_cons_zero, List.set_cons_succ]
    rfl
   refine pure_ (i := 14) (N := some 41) (v := ?_) (a' := ?_) qf9b7 rfl rfl (any_of HT_.out (by kernel_rfl)) (fun _ _ _ h => h) (Or.inl ⟨by rfl, ?_⟩) ?_ ?_
   rotate_left
   ·
    intro w'
    go_simp
    with_reducible rfl
   rotate_left
   ·
    refine (put_list _ _ _ _).trans ?_
    dsimp only [List.set_cons_zero, List.set_cons_succ]
    rfl
   refine pure_ (i := 16) (N := some 43) (v := ?_) (a' := ?_) qf9b8 rfl rfl (any_of HT_.out (by kernel_rfl)) (fun _ _ _ h => h) (Or.inl ⟨by rfl, ?_⟩) ?_ ?_
   rotate_left
   ·
    intro w'
    go_simp
    with_reducible rfl
   rotate_left
   ·
    refine (put_list _ _ _ _).trans ?_
    dsimp only [List.set_cons_zero, List.set_cons_succ]
    rfl
   refine pure_ (i := 18) (N := some 45) (v := ?_) (a' := ?_) qf9b9 rfl rfl (any_of HT_.out (by kernel_rfl)) (fun _ _ _ h => h) (Or.inl ⟨by rfl, ?_⟩) ?_ ?_
   rotate_left
   ·
    intro w'
    go_simp
    with_reducible rfl
   rotate_left
   ·
    refine (put_list _ _ _ _).trans ?_
    dsimp only [List.set_cons_zero, List.set_cons_succ]
    rfl
   refine pure_ (i := 21) (N := some 48) (v := ?_) (a' := ?_) qf9b10 rfl rfl (any_of HT_.out (by kernel_rfl)) (fun _ _ _ h => h) (Or.inl ⟨by rfl, ?_⟩) ?_ ?_
   rotate_left
   ·
    intro w'
    go_simp
    with_reducible rfl
   rotate_left
   ·
    refine (put_list _ _ _ _).trans ?_
    dsimp only [List.set_cons_zero, List.set_cons_succ]
    rfl
   refine pure_ (i := 23) (N := some 50) (v := ?_) (a' := ?_) qf9b11 rfl rfl (any_of HT_.out (by kernel_rfl)) (fun _ _ _ h => h) (Or.inl ⟨by rfl, ?_⟩) ?_ ?_
   rotate_left
   ·
    intro w'
    go_simp
    with_reducible rfl
   rotate_left
   ·
    refine (put_list _ _ _ _).trans ?_
    dsimp only [List.set_cons_zero, List.set_cons_succ]
    rfl
   refine pure_ (i := 25) (N := some 52) (v := ?_) (a' := ?_) qf9b12 rfl rfl (any_of HT_.out (by kernel_rfl)) (fun _ _ _ h => h) (Or.inl ⟨by rfl, ?_⟩) ?_ ?_
   rotate_left
   ·
    intro w'
    go_simp
    with_reducible rfl
   rotate_left
   ·
    refine (put_list _ _ _ _).trans ?_
    dsimp only [List.set_cons_zero, List.set_cons_succ]
    rfl
   refine pure_ (i := 29) (N := some 56) (v := ?_) (a' := ?_) qf9b13 rfl rfl (any_of HT_.out (by kernel_rfl)) (fun _ _ _ h => h) (Or.inl ⟨by rfl, ?_⟩) ?_ ?_
   rotate_left
   ·
    intro w'
    go_simp
    with_reducible rfl
   rotate_left
   ·
    refine (put_list _ _ _ _).trans ?_
    dsimp only [List.set_cons_zero, List.set_cons_succ]
    rfl
   refine pure_ (i := 32) (N := some 59) (v := ?_) (a' := ?_) qf9b14 rfl rfl (any_of HT_.out (by kernel_rfl)) (fun _ _ _ h => h) (Or.inl ⟨by rfl, ?_⟩) ?_ ?_
   rotate_left
   ·
    intro w'
    go_simp
    with_reducible rfl
   rotate_left
   ·
    refine (put_list _ _ _ _).trans ?_
    dsimp only [List.set_cons_zero, List.set_cons_succ]
    rfl
   refine take_ (i := 1) (N := some 28) (v := ?_) (a' := ?_) qf9b15 rfl rfl (take_ofW HT_.out HW_.out (by kernel_rfl)) (fun _ _ _ h => h) (Or.inl ⟨by rfl, ?_⟩) hHeld ?_ ?_
   rotate_left
   ·
    rintro w' ⟨s0, s1, s2, s3, s4, s5, s6, s7, s8⟩
    go_simp
    with_reducible rfl
   rotate_left
   ·
    refine (put_list _ _ _ _).trans ?_
    dsimp only [List.set_cons_zero, List.set_cons_succ]
    rfl
   refine take_ (i := 3) (N := some 30) (v := ?_) (a' := ?_) qf9b16 rfl rfl (take_ofW HT_.out HW_.out (by kernel_rfl)) (fun _ _ _ h => h) (Or.inl ⟨by rfl, ?_⟩) hHeld ?_ ?_
   rotate_left
   ·
    rintro w' ⟨s0, s1, s2, s3, s4, s5, s6, s7, s8⟩
    go_simp
    with_reducible rfl
   rotate_left
   ·
    refine (put_list _ _ _ _).trans ?_
    dsimp only [List.set_cons_zero, List.set_cons_succ]
    rfl
   refine take_ (i := 5) (N := some 32) (v := ?_) (a' := ?_) qf9b17 rfl rfl (take_ofW HT_.out HW_.out (by kernel_rfl)) (fun _ _ _ h => h) (Or.inl ⟨by rfl, ?_⟩) hHeld ?_ ?_
   rotate_left
   ·
    rintro w' ⟨s0, s1, s2, s3, s4, s5, s6, s7, s8⟩
    go_simp
    with_reducible rfl
   rotate_left
   ·
    refine (put_list _ _ _ _).trans ?_
    dsimp only [List.set_cons_zero, List.set_cons_succ]
    rfl
   refine take_ (i := 8) (N := some 35) (v := ?_) (a' := ?_) qf9b18 rfl rfl (take_ofW HT_.out HW_.out (by kernel_rfl)) (fun _ _ _ h => h) (Or.inl ⟨by rfl, ?_⟩) hHeld ?_ ?_
   rotate_left
   ·
    rintro w' ⟨s0, s1, s2, s3, s4, s5, s6, s7, s8⟩
    go_simp
    with_reducible rfl
   rotate_left
   ·
    refine (put_list _ _ _ _).trans ?_
    dsimp only [List.set_cons_zero, List.set_cons_succ]
    rfl
   refine take_ (i := 10) (N := some 37) (v := ?_) (a' := ?_) qf9b19 rfl rfl (take_ofW HT_.out HW_.out (by kernel_rfl)) (fun _ _ _ h => h) (Or.inl ⟨by rfl, ?_⟩) hHeld ?_ ?_
   rotate_left
   ·
    rintro w' ⟨s0, s1, s2, s3, s4, s5, s6, s7, s8⟩
    go_simp
    with_reducible rfl
   rotate_left
   ·
    refine (put_list _ _ _ _).trans ?_
    dsimp only [List.set_cons_zero, List.set_cons_succ]
    rfl
   refine take_ (i := 12) (N := some 39) (v := ?_) (a' := ?_) qf9b20 rfl rfl (take_ofW HT_.out HW_.out (by kernel_rfl)) (fun _ _ _ h => h) (Or.inl ⟨by rfl, ?_⟩) hHeld ?_ ?_
   rotate_left
   ·
    rintro w' ⟨s0, s1, s2, s3, s4, s5, s6, s7, s8⟩
    go_simp
    with_reducible rfl
   rotate_left
   ·
    refine (put_list _ _ _ _).trans ?_
    dsimp only [List.set_cons_zero, List.set_cons_succ]
    rfl
   refine take_ (i := 15) (N := some 42) (v := ?_) (a' := ?_) qf9b21 rfl rfl (take_ofW HT_.out HW_.out (by kernel_rfl)) (fun _ _ _ h => h) (Or.inl ⟨by rfl, ?_⟩) hHeld ?_ ?_
   rotate_left
   ·
    rintro w' ⟨s0, s1, s2, s3, s4, s5, s6, s7, s8⟩
    go_simp
    with_reducible rfl
   rotate_left
   ·
    refine (put_list _ _ _ _).trans ?_
    dsimp only [List.set_cons_zero, List.set_cons_succ]
    rfl
   refine take_ (i := 17) (N := some 44) (v := ?_) (a' := ?_) qf9b22 rfl rfl (take_ofW HT_.out HW_.out (by kernel_rfl)) (fun _ _ _ h => h) (Or.inl ⟨by rfl, ?_⟩) hHeld ?_ ?_
   rotate_left
   ·
    rintro w' ⟨s0, s1, s2, s3, s4, s5, s6, s7, s8⟩
    go_simp
    with_reducible rfl
   rotate_left
   ·
    refine (put_list _ _ _ _).trans ?_
    dsimp only [List.set_cons_zero, List.set_cons_succ]
    rfl
   refine take_ (i := 19) (N := some 46) (v := ?_) (a' := ?_) qf9b23 rfl rfl (take_ofW HT_.out HW_.out (by kernel_rfl)) (fun _ _ _ h => h) (Or.inl ⟨by rfl, ?_⟩) hHeld ?_ ?_
   rotate_left
   ·
    rintro w' ⟨s0, s1, s2, s3, s4, s5, s6, s7, s8⟩
    go_simp
    with_reducible rfl
   rotate_left
   ·
    refine (put_list _ _ _ _).trans ?_
    dsimp only [List.set_cons_zero, List.set_cons_succ]
    rfl
   refine take_ (i := 22) (N := some 49) (v := ?_) (a' := ?_) qf9b24 rfl rfl (take_ofW HT_.out HW_.out (by kernel_rfl)) (fun _ _ _ h => h) (Or.inl ⟨by rfl, ?_⟩) hHeld ?_ ?_
   rotate_left
   ·
    rintro w' ⟨s0, s1, s2, s3, s4, s5, s6, s7, s8⟩
    go_simp
    with_reducible rfl
   rotate_left
   ·
    refine (put_list _ _ _ _).trans ?_
    dsimp only [List.set_cons_zero, List.set_cons_succ]
    rfl
   refine take_ (i := 24) (N := some 51) (v := ?_) (a' := ?_) qf9b25 rfl rfl (take_ofW HT_.out HW_.out (by kernel_rfl)) (fun _ _ _ h => h) (Or.inl ⟨by rfl, ?_⟩) hHeld ?_ ?_
   rotate_left
   ·
    rintro w' ⟨s0, s1, s2, s3, s4, s5, s6, s7, s8⟩
    go_simp
    with_reducible rfl
   rotate_left
   ·
    refine (put_list _ _ _ _).trans ?_
    dsimp only [List.set_cons_zero, List.set_cons_succ]
    rfl
   refine take_ (i := 26) (N := some 53) (v := ?_) (a' := ?_) qf9b26 rfl rfl (take_ofW HT_.out HW_.out (by kernel_rfl)) (fun _ _ _ h => h) (Or.inl ⟨by rfl, ?_⟩) hHeld ?_ ?_
   rotate_left
   ·
    rintro w' ⟨s0, s1, s2, s3, s4, s5, s6, s7, s8⟩
    go_simp
    with_reducible rfl
   rotate_left
   ·
    refine (put_list _ _ _ _).trans ?_
    dsimp only [List.set_cons_zero, List.set_cons_succ]
    rfl
   refine take_ (i := 30) (N := some 57) (v := ?_) (a' := ?_) qf9b27 rfl rfl (take_ofW HT_.out HW_.out (by kernel_rfl)) (fun _ _ _ h => h) (Or.inl ⟨by rfl, ?_⟩) hHeld ?_ ?_
   rotate_left
   ·
    rintro w' ⟨s0, s1, s2, s3, s4, s5, s6, s7, s8⟩
    go_simp
    with_reducible rfl
   rotate_left
   ·
    refine (put_list _ _ _ _).trans ?_
    dsimp only [List.set_cons_zero, List.set_cons_succ]
    rfl
   refine take_ (i := 33) (N := some 60) (v := ?_) (a' := ?_) qf9b28 rfl rfl (take_ofW HT_.out HW_.out (by kernel_rfl)) (fun _ _ _ h => h) (Or.inl ⟨by rfl, ?_⟩) hHeld ?_ ?_
   rotate_left
   ·
    rintro w' ⟨s0, s1, s2, s3, s4, s5, s6, s7, s8⟩
    go_simp
    with_reducible rfl
   rotate_left
   ·
    refine (put_list _ _ _ _).trans ?_
    dsimp only [List.set_cons_zero, List.set_cons_succ]
    rfl
   refine pure_ (i := 6) (N := some 33) (v := ?_) (a' := ?_) qf9b29 rfl rfl (any_of HT_.out (by kernel_rfl)) (fun _ _ _ h => h) (Or.inl ⟨by rfl, ?_⟩) ?_ ?_
   rotate_left
   ·
    intro w'
    go_simp
    with_reducible rfl
   rotate_left
   ·
    refine (put_list _ _ _ _).trans ?_
    dsimp only [List.set_cons_zero, List.set_cons_succ]
    rfl
   refine pure_ (i := 13) (N := some 40) (v := ?_) (a' := ?_) qf9b30 rfl rfl (any_of HT_.out (by kernel_rfl)) (fun _ _ _ h => h) (Or.inl ⟨by rfl, ?_⟩) ?_ ?_
   rotate_left
   ·
    intro w'
    go_simp
    with_reducible rfl
   rotate_left
   ·
    refine (put_list _ _ _ _).trans ?_
    dsimp only [List.set_cons_zero, List.set_cons_succ]
    rfl
   refine pure_ (i := 20) (N := some 47) (v := ?_) (a' := ?_) qf9b31 rfl rfl (any_of HT_.out (by kernel_rfl)) (fun _ _ _ h => h) (Or.inl ⟨by rfl, ?_⟩) ?_ ?_
   rotate_left
   ·
    intro w'
    go_simp
    with_reducible rfl
   rotate_left
   ·
    refine (put_list _ _ _ _).trans ?_
    dsimp only [List.set_cons_zero, List.set_cons_succ]
    rfl
   refine two_ (i := 27) (j := 36) (Ni := some 54) (Nj := some 10) qf9b32 qf9b33 rfl rfl rfl rfl (two_of HT_.out (by kernel_rfl)) (by decide) (by decide) (fun K hK => ?_) (fun K hK => ?_)
   ·
    refine Kd.R_lit_step (Kd.int .i64) _ 2 ?hg (N := 54) ?hd (xs := ([a2_2, a1_2] : List Int)) (inner := [.int .i64 a2_2, .int .i64 a1_2]) (ok := fun _ => True) (okp := fun _ => True) ?hr ?hp (fun _ hk => hk) trivial (Below.refl _ _) (Nat.le_refl _) (by simp) ?_; (case hd => rfl); (case hg => rfl); (case hr => first | (go_simp; done) | (go_simp; rfl)); (case hp => exact ((Reps.none _ _ |>.snoc (show Kd.M (Kd.int .i64) _ _ _ a2_2 [.int .i64 a2_2] from rfl) rfl).snoc (show Kd.M (Kd.int .i64) _ _ _ a1_2 [.int .i64 a1_2] from rfl) rfl))
    intro vq wq hoq hb hg_ hnew_
    clear hg_ hnew_
    replace HB := Aside0.mk (HB.out.trans (hb.mono HB.out.size))
    replace P0 := Aside0.mk (BoxN.below P0.out hb P0.out.lt)
    replace P1 := Aside0.mk (BoxN.below P1.out hb P1.out.lt)
    replace P2 := Aside0.mk (BoxN.below P2.out hb P2.out.lt)
    replace P3 := Aside0.mk (BoxN.below P3.out hb P3.out.lt)
    clear hb
    (try clear s0 s1 s2 s3 s4 s5 s6 s7 s8)
    have s0 := P1.out.cell 0 rfl
    have s1 := P1.out.cell 1 rfl
    have s2 := P1.out.cell 2 rfl
    have s3 := P1.out.cell 3 rfl
    have s4 := P1.out.cell 4 rfl
    have s5 := P1.out.cell 5 rfl
    have s6 := P2.out.cell 0 rfl
    have s7 := P2.out.cell 1 rfl
    have s8 := P2.out.cell 2 rfl
    have HQ := Aside0.mk hoq
    clear hoq
    obtain ⟨Aq, cq, rfl⟩ := Kd.R_slice HQ.out
    refine hK.out _ _ ⟨s0, s1, s2, s3, s4, s5, s6, s7, s8⟩ (fun hHeld => ?_)
    clear hK K
    refine norm_ (a' := ?_) ?_ ?_
    rotate_left
    ·
     refine (put_list _ _ 54 _).trans ?_
     dsimp only [List.set_cons_zero, List.set_cons_succ]
     (try rfl)
    refine two_ (i := 28) (j := 36) (Ni := some 55) (Nj := some 10) qf9b34 qf9b35 rfl rfl rfl rfl (two_of HT_.out (by kernel_rfl)) (by decide) (by decide) (fun K hK => ?_) (fun K hK => ?_)
    ·
     refine goes_ Try.func42 (by kernel_rfl) rfl #[.slice Aq ([a2_2, a1_2] : List Int).length cq] (by rfl) rfl rfl (by (try simp only [List.map_toArray, List.map_cons, List.map_nil]); first | done | rfl) ?_
     (with_reducible refine (sat_Add.calls Aq cq [a2_2, a1_2] _ _ (Kd.R_reads' HQ.out).2.2 (Kd.R_reads' HQ.out).2.1 hAdd.out).mono ?_)
     rintro e wn ⟨rfl, hd⟩
     refine ⟨_, rfl, ?_⟩
     have hb := each_drawn hd
     clear hd
     replace HB := Aside0.mk (HB.out.trans (hb.mono HB.out.size))
     replace P0 := Aside0.mk (BoxN.below P0.out hb P0.out.lt)
     replace P1 := Aside0.mk (BoxN.below P1.out hb P1.out.lt)
     replace P2 := Aside0.mk (BoxN.below P2.out hb P2.out.lt)
     replace P3 := Aside0.mk (BoxN.below P3.out hb P3.out.lt)
     replace HQ := Aside0.mk (Kd.R_below HQ.out hb)
     clear hb
     (try clear s0 s1 s2 s3 s4 s5 s6 s7 s8)
     have s0 := P1.out.cell 0 rfl
     have s1 := P1.out.cell 1 rfl
     have s2 := P1.out.cell 2 rfl
     have s3 := P1.out.cell 3 rfl
     have s4 := P1.out.cell 4 rfl
     have s5 := P1.out.cell 5 rfl
     have s6 := P2.out.cell 0 rfl
     have s7 := P2.out.cell 1 rfl
     have s8 := P2.out.cell 2 rfl
     refine hK.out _ _ ⟨s0, s1, s2, s3, s4, s5, s6, s7, s8⟩ (fun hHeld => ?_)
     clear hK K
     refine norm_ (a' := ?_) ?_ ?_
     rotate_left
     ·
      refine (put_list _ _ 55 _).trans ?_
      dsimp only [List.set_cons_zero, List.set_cons_succ]
      (try rfl)
     refine two_ (i := 31) (j := 36) (Ni := some 58) (Nj := some 10) qf9b36 qf9b37 rfl rfl rfl rfl (two_of HT_.out (by kernel_rfl)) (by decide) (by decide) (fun K hK => ?_) (fun K hK => ?_)
     ·
      refine goes_ Try.func41 (by kernel_rfl) rfl #[.int .i64 dAdd, .int .i64 a2_0] (by rfl) rfl rfl (by (try simp only [List.map_toArray, List.map_cons, List.map_nil]); first | done | rfl) ?_
      (with_reducible refine (sat_Sub.calls dAdd a2_0 _ _ hSub.out).mono ?_)
      rintro e wn ⟨rfl, hd⟩
      refine ⟨_, rfl, ?_⟩
      have hb := each_drawn hd
      clear hd
      replace HB := Aside0.mk (HB.out.trans (hb.mono HB.out.size))
      replace P0 := Aside0.mk (BoxN.below P0.out hb P0.out.lt)
      replace P1 := Aside0.mk (BoxN.below P1.out hb P1.out.lt)
      replace P2 := Aside0.mk (BoxN.below P2.out hb P2.out.lt)
      replace P3 := Aside0.mk (BoxN.below P3.out hb P3.out.lt)
      replace HQ := Aside0.mk (Kd.R_below HQ.out hb)
      clear hb
      (try clear s0 s1 s2 s3 s4 s5 s6 s7 s8)
      have s0 := P1.out.cell 0 rfl
      have s1 := P1.out.cell 1 rfl
      have s2 := P1.out.cell 2 rfl
      have s3 := P1.out.cell 3 rfl
      have s4 := P1.out.cell 4 rfl
      have s5 := P1.out.cell 5 rfl
      have s6 := P2.out.cell 0 rfl
      have s7 := P2.out.cell 1 rfl
      have s8 := P2.out.cell 2 rfl
      refine hK.out _ _ ⟨s0, s1, s2, s3, s4, s5, s6, s7, s8⟩ (fun hHeld => ?_)
      clear hK K
      refine norm_ (a' := ?_) ?_ ?_
      rotate_left
      ·
       refine (put_list _ _ 58 _).trans ?_
       dsimp only [List.set_cons_zero, List.set_cons_succ]
       (try rfl)
      refine pure_ (i := 34) (N := some 61) (v := ?_) (a' := ?_) qf9b38 rfl rfl (any_of HT_.out (by kernel_rfl)) (fun _ _ _ h => h) (Or.inl ⟨by rfl, ?_⟩) ?_ ?_
      rotate_left
      ·
       intro w'
       go_simp
       with_reducible rfl
      rotate_left
      ·
       refine (put_list _ _ _ _).trans ?_
       dsimp only [List.set_cons_zero, List.set_cons_succ]
       rfl
      refine pure_ (i := 35) (N := some 62) (v := ?_) (a' := ?_) qf9b39 rfl rfl (any_of HT_.out (by kernel_rfl)) (fun _ _ _ h => h) (Or.inl ⟨by rfl, ?_⟩) ?_ ?_
      rotate_left
      ·
       intro w'
       go_simp
       with_reducible rfl
      rotate_left
      ·
       refine (put_list _ _ _ _).trans ?_
       dsimp only [List.set_cons_zero, List.set_cons_succ]
       rfl
      refine one_ (i := 36) (N := some 10) qf9b40 rfl rfl (one_of HT_.out (by kernel_rfl)) (by decide) (fun K hK => ?_)
      refine box_step ?hg (N := 10) ?hd (cs := #[.nilFunc, .int .i64 0, .int .i64 0, .int .i64 0, .nilFunc, .int .i64 0, .int .i64 0, .int .i64 0, .nilFunc, .int .i64 0, .int .i64 0, .int .i64 0, .nilFunc, .int .i64 0, .int .i64 0, .int .i64 0]) (t := 83) ?hr ?_; (case hd => rfl); (case hg => rfl); (case hr => first | (go_simp; done) | (go_simp; rfl))
      intro gx hgx wq hbx hb
      have hgH : H + 1 + 1 + 1 < gx := hgx ▸ P3.out.lt
      replace HB := Aside0.mk (HB.out.trans (hb.mono HB.out.size))
      replace P0 := Aside0.mk (BoxN.below P0.out hb P0.out.lt)
      replace P1 := Aside0.mk (BoxN.below P1.out hb P1.out.lt)
      replace P2 := Aside0.mk (BoxN.below P2.out hb P2.out.lt)
      replace P3 := Aside0.mk (BoxN.below P3.out hb P3.out.lt)
      replace HQ := Aside0.mk (Kd.R_below HQ.out hb)
      clear hb
      (try clear s0 s1 s2 s3 s4 s5 s6 s7 s8)
      have s0 := P1.out.cell 0 rfl
      have s1 := P1.out.cell 1 rfl
      have s2 := P1.out.cell 2 rfl
      have s3 := P1.out.cell 3 rfl
      have s4 := P1.out.cell 4 rfl
      have s5 := P1.out.cell 5 rfl
      have s6 := P2.out.cell 0 rfl
      have s7 := P2.out.cell 1 rfl
      have s8 := P2.out.cell 2 rfl
      have BX := Aside0.mk (show BoxN wq gx 83 _ from hbx)
      clear hbx hgx
      refine hK.out _ _ ⟨s0, s1, s2, s3, s4, s5, s6, s7, s8⟩ (fun hHeld => ?_)
      clear hK K
      refine norm_ (a' := ?_) ?_ ?_
      rotate_left
      ·
       refine (put_list _ _ 10 _).trans ?_
       dsimp only [List.set_cons_zero, List.set_cons_succ]
       (try rfl)
      exact tail3 gx Aq cq wq ⟨hgH⟩ BX P0 P1 P2 P3 HB
     ·
      refine box_step ?hg (N := 10) ?hd (cs := #[.nilFunc, .int .i64 0, .int .i64 0, .int .i64 0, .nilFunc, .int .i64 0, .int .i64 0, .int .i64 0, .nilFunc, .int .i64 0, .int .i64 0, .int .i64 0, .nilFunc, .int .i64 0, .int .i64 0, .int .i64 0]) (t := 83) ?hr ?_; (case hd => rfl); (case hg => rfl); (case hr => first | (go_simp; done) | (go_simp; rfl))
      intro gx hgx wq hbx hb
      have hgH : H + 1 + 1 + 1 < gx := hgx ▸ P3.out.lt
      replace HB := Aside0.mk (HB.out.trans (hb.mono HB.out.size))
      replace P0 := Aside0.mk (BoxN.below P0.out hb P0.out.lt)
      replace P1 := Aside0.mk (BoxN.below P1.out hb P1.out.lt)
      replace P2 := Aside0.mk (BoxN.below P2.out hb P2.out.lt)
      replace P3 := Aside0.mk (BoxN.below P3.out hb P3.out.lt)
      replace HQ := Aside0.mk (Kd.R_below HQ.out hb)
      clear hb
      (try clear s0 s1 s2 s3 s4 s5 s6 s7 s8)
      have s0 := P1.out.cell 0 rfl
      have s1 := P1.out.cell 1 rfl
      have s2 := P1.out.cell 2 rfl
      have s3 := P1.out.cell 3 rfl
      have s4 := P1.out.cell 4 rfl
      have s5 := P1.out.cell 5 rfl
      have s6 := P2.out.cell 0 rfl
      have s7 := P2.out.cell 1 rfl
      have s8 := P2.out.cell 2 rfl
      have BX := Aside0.mk (show BoxN wq gx 83 _ from hbx)
      clear hbx hgx
      refine hK.out _ _ ⟨s0, s1, s2, s3, s4, s5, s6, s7, s8⟩ (fun hHeld => ?_)
      clear hK K
      refine norm_ (a' := ?_) ?_ ?_
      rotate_left
      ·
       refine (put_list _ _ 10 _).trans ?_
       dsimp only [List.set_cons_zero, List.set_cons_succ]
       (try rfl)
      refine one_ (i := 31) (N := some 58) qf9b41 rfl rfl (one_of HT_.out (by kernel_rfl)) (by decide) (fun K hK => ?_)
      refine goes_ Try.func41 (by kernel_rfl) rfl #[.int .i64 dAdd, .int .i64 a2_0] (by rfl) rfl rfl (by (try simp only [List.map_toArray, List.map_cons, List.map_nil]); first | done | rfl) ?_
      (with_reducible refine (sat_Sub.calls dAdd a2_0 _ _ hSub.out).mono ?_)
      rintro e wn ⟨rfl, hd⟩
      refine ⟨_, rfl, ?_⟩
      have hb := each_drawn hd
      clear hd
      replace HB := Aside0.mk (HB.out.trans (hb.mono HB.out.size))
      replace P0 := Aside0.mk (BoxN.below P0.out hb P0.out.lt)
      replace P1 := Aside0.mk (BoxN.below P1.out hb P1.out.lt)
      replace P2 := Aside0.mk (BoxN.below P2.out hb P2.out.lt)
      replace P3 := Aside0.mk (BoxN.below P3.out hb P3.out.lt)
      replace HQ := Aside0.mk (Kd.R_below HQ.out hb)
      replace BX := Aside0.mk (BoxN.below BX.out hb BX.out.lt)
      clear hb
      (try clear s0 s1 s2 s3 s4 s5 s6 s7 s8)
      have s0 := P1.out.cell 0 rfl
      have s1 := P1.out.cell 1 rfl
      have s2 := P1.out.cell 2 rfl
      have s3 := P1.out.cell 3 rfl
      have s4 := P1.out.cell 4 rfl
      have s5 := P1.out.cell 5 rfl
      have s6 := P2.out.cell 0 rfl
      have s7 := P2.out.cell 1 rfl
      have s8 := P2.out.cell 2 rfl
      refine hK.out _ _ ⟨s0, s1, s2, s3, s4, s5, s6, s7, s8⟩ (fun hHeld => ?_)
      clear hK K
      refine norm_ (a' := ?_) ?_ ?_
      rotate_left
      ·
       refine (put_list _ _ 58 _).trans ?_
       dsimp only [List.set_cons_zero, List.set_cons_succ]
       (try rfl)
      refine pure_ (i := 34) (N := some 61) (v := ?_) (a' := ?_) qf9b42 rfl rfl (any_of HT_.out (by kernel_rfl)) (fun _ _ _ h => h) (Or.inl ⟨by rfl, ?_⟩) ?_ ?_
      rotate_left
      ·
       intro w'
       go_simp
       with_reducible rfl
      rotate_left
      ·
       refine (put_list _ _ _ _).trans ?_
       dsimp only [List.set_cons_zero, List.set_cons_succ]
       rfl
      refine pure_ (i := 35) (N := some 62) (v := ?_) (a' := ?_) qf9b40 rfl rfl (any_of HT_.out (by kernel_rfl)) (fun _ _ _ h => h) (Or.inl ⟨by rfl, ?_⟩) ?_ ?_
      rotate_left
      ·
       intro w'
       go_simp
       with_reducible rfl
      rotate_left
      ·
       refine (put_list _ _ _ _).trans ?_
       dsimp only [List.set_cons_zero, List.set_cons_succ]
       rfl
      exact tail3 gx Aq cq wn ⟨hgH⟩ BX P0 P1 P2 P3 HB
    ·
     refine box_step ?hg (N := 10) ?hd (cs := #[.nilFunc, .int .i64 0, .int .i64 0, .int .i64 0, .nilFunc, .int .i64 0, .int .i64 0, .int .i64 0, .nilFunc, .int .i64 0, .int .i64 0, .int .i64 0, .nilFunc, .int .i64 0, .int .i64 0, .int .i64 0]) (t := 83) ?hr ?_; (case hd => rfl); (case hg => rfl); (case hr => first | (go_simp; done) | (go_simp; rfl))
     intro gx hgx wq hbx hb
     have hgH : H + 1 + 1 + 1 < gx := hgx ▸ P3.out.lt
     replace HB := Aside0.mk (HB.out.trans (hb.mono HB.out.size))
     replace P0 := Aside0.mk (BoxN.below P0.out hb P0.out.lt)
     replace P1 := Aside0.mk (BoxN.below P1.out hb P1.out.lt)
     replace P2 := Aside0.mk (BoxN.below P2.out hb P2.out.lt)
     replace P3 := Aside0.mk (BoxN.below P3.out hb P3.out.lt)
     replace HQ := Aside0.mk (Kd.R_below HQ.out hb)
     clear hb
     (try clear s0 s1 s2 s3 s4 s5 s6 s7 s8)
     have s0 := P1.out.cell 0 rfl
     have s1 := P1.out.cell 1 rfl
     have s2 := P1.out.cell 2 rfl
     have s3 := P1.out.cell 3 rfl
     have s4 := P1.out.cell 4 rfl
     have s5 := P1.out.cell 5 rfl
     have s6 := P2.out.cell 0 rfl
     have s7 := P2.out.cell 1 rfl
     have s8 := P2.out.cell 2 rfl
     have BX := Aside0.mk (show BoxN wq gx 83 _ from hbx)
     clear hbx hgx
     refine hK.out _ _ ⟨s0, s1, s2, s3, s4, s5, s6, s7, s8⟩ (fun hHeld => ?_)
     clear hK K
     refine norm_ (a' := ?_) ?_ ?_
     rotate_left
     ·
      refine (put_list _ _ 10 _).trans ?_
      dsimp only [List.set_cons_zero, List.set_cons_succ]
      (try rfl)
     refine one_ (i := 28) (N := some 55) qf9b37 rfl rfl (one_of HT_.out (by kernel_rfl)) (by decide) (fun K hK => ?_)
     refine goes_ Try.func42 (by kernel_rfl) rfl #[.slice Aq ([a2_2, a1_2] : List Int).length cq] (by rfl) rfl rfl (by (try simp only [List.map_toArray, List.map_cons, List.map_nil]); first | done | rfl) ?_
     (with_reducible refine (sat_Add.calls Aq cq [a2_2, a1_2] _ _ (Kd.R_reads' HQ.out).2.2 (Kd.R_reads' HQ.out).2.1 hAdd.out).mono ?_)
     rintro e wn ⟨rfl, hd⟩
     refine ⟨_, rfl, ?_⟩
     have hb := each_drawn hd
     clear hd
     replace HB := Aside0.mk (HB.out.trans (hb.mono HB.out.size))
     replace P0 := Aside0.mk (BoxN.below P0.out hb P0.out.lt)
     replace P1 := Aside0.mk (BoxN.below P1.out hb P1.out.lt)
     replace P2 := Aside0.mk (BoxN.below P2.out hb P2.out.lt)
     replace P3 := Aside0.mk (BoxN.below P3.out hb P3.out.lt)
     replace HQ := Aside0.mk (Kd.R_below HQ.out hb)
     replace BX := Aside0.mk (BoxN.below BX.out hb BX.out.lt)
     clear hb
     (try clear s0 s1 s2 s3 s4 s5 s6 s7 s8)
     have s0 := P1.out.cell 0 rfl
     have s1 := P1.out.cell 1 rfl
     have s2 := P1.out.cell 2 rfl
     have s3 := P1.out.cell 3 rfl
     have s4 := P1.out.cell 4 rfl
     have s5 := P1.out.cell 5 rfl
     have s6 := P2.out.cell 0 rfl
     have s7 := P2.out.cell 1 rfl
     have s8 := P2.out.cell 2 rfl
     refine hK.out _ _ ⟨s0, s1, s2, s3, s4, s5, s6, s7, s8⟩ (fun hHeld => ?_)
     clear hK K
     refine norm_ (a' := ?_) ?_ ?_
     rotate_left
     ·
      refine (put_list _ _ 55 _).trans ?_
      dsimp only [List.set_cons_zero, List.set_cons_succ]
      (try rfl)
     refine one_ (i := 31) (N := some 58) qf9b41 rfl rfl (one_of HT_.out (by kernel_rfl)) (by decide) (fun K hK => ?_)
     refine goes_ Try.func41 (by kernel_rfl) rfl #[.int .i64 dAdd, .int .i64 a2_0] (by rfl) rfl rfl (by (try simp only [List.map_toArray, List.map_cons, List.map_nil]); first | done | rfl) ?_
     (with_reducible refine (sat_Sub.calls dAdd a2_0 _ _ hSub.out).mono ?_)
     rintro e wn ⟨rfl, hd⟩
     refine ⟨_, rfl, ?_⟩
     have hb := each_drawn hd
     clear hd
     replace HB := Aside0.mk (HB.out.trans (hb.mono HB.out.size))
     replace P0 := Aside0.mk (BoxN.below P0.out hb P0.out.lt)
     replace P1 := Aside0.mk (BoxN.below P1.out hb P1.out.lt)
     replace P2 := Aside0.mk (BoxN.below P2.out hb P2.out.lt)
     replace P3 := Aside0.mk (BoxN.below P3.out hb P3.out.lt)
     replace HQ := Aside0.mk (Kd.R_below HQ.out hb)
     replace BX := Aside0.mk (BoxN.below BX.out hb BX.out.lt)
     clear hb
     (try clear s0 s1 s2 s3 s4 s5 s6 s7 s8)
     have s0 := P1.out.cell 0 rfl
     have s1 := P1.out.cell 1 rfl
     have s2 := P1.out.cell 2 rfl
     have s3 := P1.out.cell 3 rfl
     have s4 := P1.out.cell 4 rfl
     have s5 := P1.out.cell 5 rfl
     have s6 := P2.out.cell 0 rfl
     have s7 := P2.out.cell 1 rfl
     have s8 := P2.out.cell 2 rfl
     refine hK.out _ _ ⟨s0, s1, s2, s3, s4, s5, s6, s7, s8⟩ (fun hHeld => ?_)
     clear hK K
     refine norm_ (a' := ?_) ?_ ?_
     rotate_left
     ·
      refine (put_list _ _ 58 _).trans ?_
      dsimp only [List.set_cons_zero, List.set_cons_succ]
      (try rfl)
     refine pure_ (i := 34) (N := some 61) (v := ?_) (a' := ?_) qf9b42 rfl rfl (any_of HT_.out (by kernel_rfl)) (fun _ _ _ h => h) (Or.inl ⟨by rfl, ?_⟩) ?_ ?_
     rotate_left
     ·
      intro w'
      go_simp
      with_reducible rfl
     rotate_left
     ·
      refine (put_list _ _ _ _).trans ?_
      dsimp only [List.set_cons_zero, List.set_cons_succ]
      rfl
     refine pure_ (i := 35) (N := some 62) (v := ?_) (a' := ?_) qf9b40 rfl rfl (any_of HT_.out (by kernel_rfl)) (fun _ _ _ h => h) (Or.inl ⟨by rfl, ?_⟩) ?_ ?_
     rotate_left
     ·
      intro w'
      go_simp
      with_reducible rfl
     rotate_left
     ·
      refine (put_list _ _ _ _).trans ?_
      dsimp only [List.set_cons_zero, List.set_cons_succ]
      rfl
     exact tail3 gx Aq cq wn ⟨hgH⟩ BX P0 P1 P2 P3 HB
   ·
    refine box_step ?hg (N := 10) ?hd (cs := #[.nilFunc, .int .i64 0, .int .i64 0, .int .i64 0, .nilFunc, .int .i64 0, .int .i64 0, .int .i64 0, .nilFunc, .int .i64 0, .int .i64 0, .int .i64 0, .nilFunc, .int .i64 0, .int .i64 0, .int .i64 0]) (t := 83) ?hr ?_; (case hd => rfl); (case hg => rfl); (case hr => first | (go_simp; done) | (go_simp; rfl))
    intro gx hgx wq hbx hb
    have hgH : H + 1 + 1 + 1 < gx := hgx ▸ P3.out.lt
    replace HB := Aside0.mk (HB.out.trans (hb.mono HB.out.size))
    replace P0 := Aside0.mk (BoxN.below P0.out hb P0.out.lt)
    replace P1 := Aside0.mk (BoxN.below P1.out hb P1.out.lt)
    replace P2 := Aside0.mk (BoxN.below P2.out hb P2.out.lt)
    replace P3 := Aside0.mk (BoxN.below P3.out hb P3.out.lt)
    clear hb
    (try clear s0 s1 s2 s3 s4 s5 s6 s7 s8)
    have s0 := P1.out.cell 0 rfl
    have s1 := P1.out.cell 1 rfl
    have s2 := P1.out.cell 2 rfl
    have s3 := P1.out.cell 3 rfl
    have s4 := P1.out.cell 4 rfl
    have s5 := P1.out.cell 5 rfl
    have s6 := P2.out.cell 0 rfl
    have s7 := P2.out.cell 1 rfl
    have s8 := P2.out.cell 2 rfl
    have BX := Aside0.mk (show BoxN wq gx 83 _ from hbx)
    clear hbx hgx
    refine hK.out _ _ ⟨s0, s1, s2, s3, s4, s5, s6, s7, s8⟩ (fun hHeld => ?_)
    clear hK K
    refine norm_ (a' := ?_) ?_ ?_
    rotate_left
    ·
     refine (put_list _ _ 10 _).trans ?_
     dsimp only [List.set_cons_zero, List.set_cons_succ]
     (try rfl)
    refine one_ (i := 27) (N := some 54) qf9b35 rfl rfl (one_of HT_.out (by kernel_rfl)) (by decide) (fun K hK => ?_)
    refine Kd.R_lit_step (Kd.int .i64) _ 2 ?hg (N := 54) ?hd (xs := ([a2_2, a1_2] : List Int)) (inner := [.int .i64 a2_2, .int .i64 a1_2]) (ok := fun _ => True) (okp := fun _ => True) ?hr ?hp (fun _ hk => hk) trivial (Below.refl _ _) (Nat.le_refl _) (by simp) ?_; (case hd => rfl); (case hg => rfl); (case hr => first | (go_simp; done) | (go_simp; rfl)); (case hp => exact ((Reps.none _ _ |>.snoc (show Kd.M (Kd.int .i64) _ _ _ a2_2 [.int .i64 a2_2] from rfl) rfl).snoc (show Kd.M (Kd.int .i64) _ _ _ a1_2 [.int .i64 a1_2] from rfl) rfl))
    intro vq wq hoq hb hg_ hnew_
    clear hg_ hnew_
    replace HB := Aside0.mk (HB.out.trans (hb.mono HB.out.size))
    replace P0 := Aside0.mk (BoxN.below P0.out hb P0.out.lt)
    replace P1 := Aside0.mk (BoxN.below P1.out hb P1.out.lt)
    replace P2 := Aside0.mk (BoxN.below P2.out hb P2.out.lt)
    replace P3 := Aside0.mk (BoxN.below P3.out hb P3.out.lt)
    replace BX := Aside0.mk (BoxN.below BX.out hb BX.out.lt)
    clear hb
    (try clear s0 s1 s2 s3 s4 s5 s6 s7 s8)
    have s0 := P1.out.cell 0 rfl
    have s1 := P1.out.cell 1 rfl
    have s2 := P1.out.cell 2 rfl
    have s3 := P1.out.cell 3 rfl
    have s4 := P1.out.cell 4 rfl
    have s5 := P1.out.cell 5 rfl
    have s6 := P2.out.cell 0 rfl
    have s7 := P2.out.cell 1 rfl
    have s8 := P2.out.cell 2 rfl
    have HQ := Aside0.mk hoq
    clear hoq
    obtain ⟨Aq, cq, rfl⟩ := Kd.R_slice HQ.out
    refine hK.out _ _ ⟨s0, s1, s2, s3, s4, s5, s6, s7, s8⟩ (fun hHeld => ?_)
    clear hK K
    refine norm_ (a' := ?_) ?_ ?_
    rotate_left
    ·
     refine (put_list _ _ 54 _).trans ?_
     dsimp only [List.set_cons_zero, List.set_cons_succ]
     (try rfl)
    refine one_ (i := 28) (N := some 55) qf9b37 rfl rfl (one_of HT_.out (by kernel_rfl)) (by decide) (fun K hK => ?_)
    refine goes_ Try.func42 (by kernel_rfl) rfl #[.slice Aq ([a2_2, a1_2] : List Int).length cq] (by rfl) rfl rfl (by (try simp only [List.map_toArray, List.map_cons, List.map_nil]); first | done | rfl) ?_
    (with_reducible refine (sat_Add.calls Aq cq [a2_2, a1_2] _ _ (Kd.R_reads' HQ.out).2.2 (Kd.R_reads' HQ.out).2.1 hAdd.out).mono ?_)
    rintro e wn ⟨rfl, hd⟩
    refine ⟨_, rfl, ?_⟩
    have hb := each_drawn hd
    clear hd
    replace HB := Aside0.mk (HB.out.trans (hb.mono HB.out.size))
    replace P0 := Aside0.mk (BoxN.below P0.out hb P0.out.lt)
    replace P1 := Aside0.mk (BoxN.below P1.out hb P1.out.lt)
    replace P2 := Aside0.mk (BoxN.below P2.out hb P2.out.lt)
    replace P3 := Aside0.mk (BoxN.below P3.out hb P3.out.lt)
    replace HQ := Aside0.mk (Kd.R_below HQ.out hb)
    replace BX := Aside0.mk (BoxN.below BX.out hb BX.out.lt)
    clear hb
    (try clear s0 s1 s2 s3 s4 s5 s6 s7 s8)
    have s0 := P1.out.cell 0 rfl
    have s1 := P1.out.cell 1 rfl
    have s2 := P1.out.cell 2 rfl
    have s3 := P1.out.cell 3 rfl
    have s4 := P1.out.cell 4 rfl
    have s5 := P1.out.cell 5 rfl
    have s6 := P2.out.cell 0 rfl
    have s7 := P2.out.cell 1 rfl
    have s8 := P2.out.cell 2 rfl
    refine hK.out _ _ ⟨s0, s1, s2, s3, s4, s5, s6, s7, s8⟩ (fun hHeld => ?_)
    clear hK K
    refine norm_ (a' := ?_) ?_ ?_
    rotate_left
    ·
     refine (put_list _ _ 55 _).trans ?_
     dsimp only [List.set_cons_zero, List.set_cons_succ]
     (try rfl)
    refine one_ (i := 31) (N := some 58) qf9b41 rfl rfl (one_of HT_.out (by kernel_rfl)) (by decide) (fun K hK => ?_)
    refine goes_ Try.func41 (by kernel_rfl) rfl #[.int .i64 dAdd, .int .i64 a2_0] (by rfl) rfl rfl (by (try simp only [List.map_toArray, List.map_cons, List.map_nil]); first | done | rfl) ?_
    (with_reducible refine (sat_Sub.calls dAdd a2_0 _ _ hSub.out).mono ?_)
    rintro e wn ⟨rfl, hd⟩
    refine ⟨_, rfl, ?_⟩
    have hb := each_drawn hd
    clear hd
    replace HB := Aside0.mk (HB.out.trans (hb.mono HB.out.size))
    replace P0 := Aside0.mk (BoxN.below P0.out hb P0.out.lt)
    replace P1 := Aside0.mk (BoxN.below P1.out hb P1.out.lt)
    replace P2 := Aside0.mk (BoxN.below P2.out hb P2.out.lt)
    replace P3 := Aside0.mk (BoxN.below P3.out hb P3.out.lt)
    replace HQ := Aside0.mk (Kd.R_below HQ.out hb)
    replace BX := Aside0.mk (BoxN.below BX.out hb BX.out.lt)
    clear hb
    (try clear s0 s1 s2 s3 s4 s5 s6 s7 s8)
    have s0 := P1.out.cell 0 rfl
    have s1 := P1.out.cell 1 rfl
    have s2 := P1.out.cell 2 rfl
    have s3 := P1.out.cell 3 rfl
    have s4 := P1.out.cell 4 rfl
    have s5 := P1.out.cell 5 rfl
    have s6 := P2.out.cell 0 rfl
    have s7 := P2.out.cell 1 rfl
    have s8 := P2.out.cell 2 rfl
    refine hK.out _ _ ⟨s0, s1, s2, s3, s4, s5, s6, s7, s8⟩ (fun hHeld => ?_)
    clear hK K
    refine norm_ (a' := ?_) ?_ ?_
    rotate_left
    ·
     refine (put_list _ _ 58 _).trans ?_
     dsimp only [List.set_cons_zero, List.set_cons_succ]
     (try rfl)
    refine pure_ (i := 34) (N := some 61) (v := ?_) (a' := ?_) qf9b42 rfl rfl (any_of HT_.out (by kernel_rfl)) (fun _ _ _ h => h) (Or.inl ⟨by rfl, ?_⟩) ?_ ?_
    rotate_left
    ·
     intro w'
     go_simp
     with_reducible rfl
    rotate_left
    ·
     refine (put_list _ _ _ _).trans ?_
     dsimp only [List.set_cons_zero, List.set_cons_succ]
     rfl
    refine pure_ (i := 35) (N := some 62) (v := ?_) (a' := ?_) qf9b40 rfl rfl (any_of HT_.out (by kernel_rfl)) (fun _ _ _ h => h) (Or.inl ⟨by rfl, ?_⟩) ?_ ?_
    rotate_left
    ·
     intro w'
     go_simp
     with_reducible rfl
    rotate_left
    ·
     refine (put_list _ _ _ _).trans ?_
     dsimp only [List.set_cons_zero, List.set_cons_succ]
     rfl
    exact tail3 gx Aq cq wn ⟨hgH⟩ BX P0 P1 P2 P3 HB
  case tl3 =>
   clear P0 P1 P2 P3 HB s0 s1 s2 s3 s4 s5 s6 s7 s8
   intro gx Aq cq wn hgH_ BX P0 P1 P2 P3 HB
   have hgH := hgH_.out
   clear hgH_
   refine last_ (i := 37) (N := none) qf9b43 rfl rfl (one_of HT_.out (by kernel_rfl)) (by decide) (fun K hK => ?_)
   have cx := BX.out.cell
   have fx := BX.out.frozen
   have cx0 := cx 0 rfl
   have cx1 := cx 1 rfl
   have cx2 := cx 2 rfl
   have cx3 := cx 3 rfl
   have cx4 := cx 4 rfl
   have cx5 := cx 5 rfl
   have cx6 := cx 6 rfl
   have cx7 := cx 7 rfl
   have cx8 := cx 8 rfl
   have cx9 := cx 9 rfl
   have cx10 := cx 10 rfl
   have cx11 := cx 11 rfl
   have cx12 := cx 12 rfl
   have cx13 := cx 13 rfl
   have cx14 := cx 14 rfl
   have cx15 := cx 15 rfl
   have fx0 := fx 0
   have fx1 := fx 1
   have fx2 := fx 2
   have fx3 := fx 3
   have fx4 := fx 4
   have fx5 := fx 5
   have fx6 := fx 6
   have fx7 := fx 7
   have fx8 := fx 8
   have fx9 := fx 9
   have fx10 := fx 10
   have fx11 := fx 11
   have fx12 := fx 12
   have fx13 := fx 13
   have fx14 := fx 14
   have fx15 := fx 15
   clear cx fx
   refine skip_ (w1 := ?_) (by rfl) rfl ?_ ?_
   rotate_left
   ·
    go_simp
    (try rfl)
   refine hK.out _ _ ?_
   clear hK K
   have hk : Keeps (fun k => k ≠ gx) wn ((((((((((((((((wn.setCell ⟨gx, 0, none⟩ (.func (Fn.func 38) #[] #[])).setCell ⟨gx, 1, none⟩ (.int .i64 a2_0)).setCell ⟨gx, 2, none⟩ (.int .i64 a1_0)).setCell ⟨gx, 3, none⟩ (.int .i64 a1_5)).setCell ⟨gx, 4, none⟩ (.func (Fn.func 39) #[] #[])).setCell ⟨gx, 5, none⟩ (.int .i64 a2_1)).setCell ⟨gx, 6, none⟩ (.int .i64 a1_1)).setCell ⟨gx, 7, none⟩ (.int .i64 a1_3)).setCell ⟨gx, 8, none⟩ (.func (Fn.func 38) #[] #[])).setCell ⟨gx, 9, none⟩ (.int .i64 a2_2)).setCell ⟨gx, 10, none⟩ (.int .i64 a1_2)).setCell ⟨gx, 11, none⟩ (.int .i64 a1_5)).setCell ⟨gx, 12, none⟩ (.func (Fn.func 40) #[] #[])).setCell ⟨gx, 13, none⟩ (.int .i64 a2_0)).setCell ⟨gx, 14, none⟩ (.int .i64 dSub)).setCell ⟨gx, 15, none⟩ (.int .i64 a1_4)) := Keeps.setCell (p := ⟨gx, 15, none⟩) (Keeps.setCell (p := ⟨gx, 14, none⟩) (Keeps.setCell (p := ⟨gx, 13, none⟩) (Keeps.setCell (p := ⟨gx, 12, none⟩) (Keeps.setCell (p := ⟨gx, 11, none⟩) (Keeps.setCell (p := ⟨gx, 10, none⟩) (Keeps.setCell (p := ⟨gx, 9, none⟩) (Keeps.setCell (p := ⟨gx, 8, none⟩) (Keeps.setCell (p := ⟨gx, 7, none⟩) (Keeps.setCell (p := ⟨gx, 6, none⟩) (Keeps.setCell (p := ⟨gx, 5, none⟩) (Keeps.setCell (p := ⟨gx, 4, none⟩) (Keeps.setCell (p := ⟨gx, 3, none⟩) (Keeps.setCell (p := ⟨gx, 2, none⟩) (Keeps.setCell (p := ⟨gx, 1, none⟩) (Keeps.setCell (p := ⟨gx, 0, none⟩) (Keeps.refl (fun k => k ≠ gx) wn) (.func (Fn.func 38) #[] #[]) (fun h => h.2 rfl)) (.int .i64 a2_0) (fun h => h.2 rfl)) (.int .i64 a1_0) (fun h => h.2 rfl)) (.int .i64 a1_5) (fun h => h.2 rfl)) (.func (Fn.func 39) #[] #[]) (fun h => h.2 rfl)) (.int .i64 a2_1) (fun h => h.2 rfl)) (.int .i64 a1_1) (fun h => h.2 rfl)) (.int .i64 a1_3) (fun h => h.2 rfl)) (.func (Fn.func 38) #[] #[]) (fun h => h.2 rfl)) (.int .i64 a2_2) (fun h => h.2 rfl)) (.int .i64 a1_2) (fun h => h.2 rfl)) (.int .i64 a1_5) (fun h => h.2 rfl)) (.func (Fn.func 40) #[] #[]) (fun h => h.2 rfl)) (.int .i64 a2_0) (fun h => h.2 rfl)) (.int .i64 dSub) (fun h => h.2 rfl)) (.int .i64 a1_4) (fun h => h.2 rfl)
   have hX : BoxN ((((((((((((((((wn.setCell ⟨gx, 0, none⟩ (.func (Fn.func 38) #[] #[])).setCell ⟨gx, 1, none⟩ (.int .i64 a2_0)).setCell ⟨gx, 2, none⟩ (.int .i64 a1_0)).setCell ⟨gx, 3, none⟩ (.int .i64 a1_5)).setCell ⟨gx, 4, none⟩ (.func (Fn.func 39) #[] #[])).setCell ⟨gx, 5, none⟩ (.int .i64 a2_1)).setCell ⟨gx, 6, none⟩ (.int .i64 a1_1)).setCell ⟨gx, 7, none⟩ (.int .i64 a1_3)).setCell ⟨gx, 8, none⟩ (.func (Fn.func 38) #[] #[])).setCell ⟨gx, 9, none⟩ (.int .i64 a2_2)).setCell ⟨gx, 10, none⟩ (.int .i64 a1_2)).setCell ⟨gx, 11, none⟩ (.int .i64 a1_5)).setCell ⟨gx, 12, none⟩ (.func (Fn.func 40) #[] #[])).setCell ⟨gx, 13, none⟩ (.int .i64 a2_0)).setCell ⟨gx, 14, none⟩ (.int .i64 dSub)).setCell ⟨gx, 15, none⟩ (.int .i64 a1_4)) gx 83 [.func (Fn.func 38) #[] #[], .int .i64 a2_0, .int .i64 a1_0, .int .i64 a1_5, .func (Fn.func 39) #[] #[], .int .i64 a2_1, .int .i64 a1_1, .int .i64 a1_3, .func (Fn.func 38) #[] #[], .int .i64 a2_2, .int .i64 a1_2, .int .i64 a1_5, .func (Fn.func 40) #[] #[], .int .i64 a2_0, .int .i64 dSub, .int .i64 a1_4] := ((((((((((((((((BX.out.set 0 (.func (Fn.func 38) #[] #[])).set 1 (.int .i64 a2_0)).set 2 (.int .i64 a1_0)).set 3 (.int .i64 a1_5)).set 4 (.func (Fn.func 39) #[] #[])).set 5 (.int .i64 a2_1)).set 6 (.int .i64 a1_1)).set 7 (.int .i64 a1_3)).set 8 (.func (Fn.func 38) #[] #[])).set 9 (.int .i64 a2_2)).set 10 (.int .i64 a1_2)).set 11 (.int .i64 a1_5)).set 12 (.func (Fn.func 40) #[] #[])).set 13 (.int .i64 a2_0)).set 14 (.int .i64 dSub)).set 15 (.int .i64 a1_4))
   generalize ((((((((((((((((wn.setCell ⟨gx, 0, none⟩ (.func (Fn.func 38) #[] #[])).setCell ⟨gx, 1, none⟩ (.int .i64 a2_0)).setCell ⟨gx, 2, none⟩ (.int .i64 a1_0)).setCell ⟨gx, 3, none⟩ (.int .i64 a1_5)).setCell ⟨gx, 4, none⟩ (.func (Fn.func 39) #[] #[])).setCell ⟨gx, 5, none⟩ (.int .i64 a2_1)).setCell ⟨gx, 6, none⟩ (.int .i64 a1_1)).setCell ⟨gx, 7, none⟩ (.int .i64 a1_3)).setCell ⟨gx, 8, none⟩ (.func (Fn.func 38) #[] #[])).setCell ⟨gx, 9, none⟩ (.int .i64 a2_2)).setCell ⟨gx, 10, none⟩ (.int .i64 a1_2)).setCell ⟨gx, 11, none⟩ (.int .i64 a1_5)).setCell ⟨gx, 12, none⟩ (.func (Fn.func 40) #[] #[])).setCell ⟨gx, 13, none⟩ (.int .i64 a2_0)).setCell ⟨gx, 14, none⟩ (.int .i64 dSub)).setCell ⟨gx, 15, none⟩ (.int .i64 a1_4)) = Wz at *
   replace BX := Aside0.mk hX
   replace P0 := Aside0.mk (hk.boxN P0.out (by omega))
   replace P1 := Aside0.mk (hk.boxN P1.out (by omega))
   replace P2 := Aside0.mk (hk.boxN P2.out (by omega))
   replace P3 := Aside0.mk (hk.boxN P3.out (by omega))
   replace HB := Aside0.mk (HB.out.trans (hk.below HB.out.size (fun k hk => by omega)))
   clear hk hX cx0 fx0 cx1 fx1 cx2 fx2 cx3 fx3 cx4 fx4 cx5 fx5 cx6 fx6 cx7 fx7 cx8 fx8 cx9 fx9 cx10 fx10 cx11 fx11 cx12 fx12 cx13 fx13 cx14 fx14 cx15 fx15
   refine done_ (done_of HT_.out (by kernel_rfl)) ?_
   go_wp2
   go_meet
   case rel => exact ⟨gx, by rfl, ⟨hgH⟩, BX, P0, P1, P2, P3, HB⟩
 case rest =>
  clear s0 s1 s2 s3 s4 s5 s6 s7 s8 P0 P1 P2 P3 HB hAdd hSub
  obtain ⟨gx, rfl, hgH, BX, P0, P1, P2, P3, HB⟩ := hcut
  have RS : RoomS w wc H (fun k => k = H + 1 + 1 + 1) [.slice A0_0 l0_0.length c0_0, .slice A0_1 l0_1.length c0_1, .slice A0_2 l0_2.length c0_2, .slice A0_3 l0_3.length c0_3, .slice A0_4 l0_4.length c0_4, .slice A0_5 l0_5.length c0_5] [(l0_0, l0_1, false), (l0_2, l0_3, false), (l0_4, l0_5, false)] := ⟨P0.out, rfl, rfl, fun j p hj => by
   match j, hj with
   | 0, hj => cases hj; exact ⟨_, _, rfl, rfl, (Kd.V_mono (Kd.V_lower (Kd.V_mk (base := w.heap.size) HC0.out (Kd.F_below (Kd.C_F (Kd.heap_int .i64) HR0.out) HB.out)) (Nat.zero_le _)) (fun k hk => ⟨by omega, by omega, fun h => by cases h⟩)), (Kd.V_mono (Kd.V_lower (Kd.V_mk (base := w.heap.size) HC1.out (Kd.F_below (Kd.C_F (Kd.heap_int .i64) HR1.out) HB.out)) (Nat.zero_le _)) (fun k hk => ⟨by omega, by omega, fun h => by cases h⟩))⟩
   | 1, hj => cases hj; exact ⟨_, _, rfl, rfl, (Kd.V_mono (Kd.V_lower (Kd.V_mk (base := w.heap.size) HC2.out (Kd.F_below (Kd.C_F (Kd.heap_int .i64) HR2.out) HB.out)) (Nat.zero_le _)) (fun k hk => ⟨by omega, by omega, fun h => by cases h⟩)), (Kd.V_mono (Kd.V_lower (Kd.V_mk (base := w.heap.size) HC3.out (Kd.F_below (Kd.C_F (Kd.heap_int .i64) HR3.out) HB.out)) (Nat.zero_le _)) (fun k hk => ⟨by omega, by omega, fun h => by cases h⟩))⟩
   | 2, hj => cases hj; exact ⟨_, _, rfl, rfl, (Kd.V_mono (Kd.V_lower (Kd.V_mk (base := w.heap.size) HC4.out (Kd.F_below (Kd.C_F (Kd.heap_int .i64) HR4.out) HB.out)) (Nat.zero_le _)) (fun k hk => ⟨by omega, by omega, fun h => by cases h⟩)), (Kd.V_mono (Kd.V_lower (Kd.V_mk (base := w.heap.size) HC5.out (Kd.F_below (Kd.C_F (Kd.heap_int .i64) HR5.out) HB.out)) (Nat.zero_le _)) (fun k hk => ⟨by omega, by omega, fun h => by cases h⟩))⟩⟩
  replace RS := Aside0.mk RS
  have cx := BX.out.cell
  have cx0 := cx 0 rfl
  have cx1 := cx 1 rfl
  have cx2 := cx 2 rfl
  have cx3 := cx 3 rfl
  have cx4 := cx 4 rfl
  have cx5 := cx 5 rfl
  have cx6 := cx 6 rfl
  have cx7 := cx 7 rfl
  have cx8 := cx 8 rfl
  have cx9 := cx 9 rfl
  have cx10 := cx 10 rfl
  have cx11 := cx 11 rfl
  have cx12 := cx 12 rfl
  have cx13 := cx 13 rfl
  have cx14 := cx 14 rfl
  have cx15 := cx 15 rfl
  clear cx P0 P1 P2
  have hix : ∀ i : Nat, i < 4 → ∃ (g j : Nat) (f l n : Int), (∀ W : World, (Instr.index 83 (.agg #[.func (Fn.func 38) #[] #[], .int .i64 a2_0, .int .i64 a1_0, .int .i64 a1_5, .func (Fn.func 39) #[] #[], .int .i64 a2_1, .int .i64 a1_1, .int .i64 a1_3, .func (Fn.func 38) #[] #[], .int .i64 a2_2, .int .i64 a1_2, .int .i64 a1_5, .func (Fn.func 40) #[] #[], .int .i64 a2_0, .int .i64 dSub, .int .i64 a1_4]) (.int .i64 (i : Int))).run Try.prog W = .ok (.agg #[.func (Fn.func g) #[] #[], .int .i64 f, .int .i64 l, .int .i64 n]) W) ∧ (∀ args w, (callFunc g args).run Try.prog w = .ok (.enter g args) w) ∧ (∀ b W, Calls Try.prog g #[.pointer (some ⟨b, 0, none⟩)] W fun e w' => e = .returned (.pointer (some ⟨b, 2 * j, none⟩)) ∧ w' = W) ∧ j < 3 ∧ ([(2, a2_0, a1_0, a1_5), (0, a2_1, a1_1, a1_3), (2, a2_2, a1_2, a1_5), (1, a2_0, dSub, a1_4)] : List (Nat × Int × Int × Int)).drop i = (j, f, l, n) :: ([(2, a2_0, a1_0, a1_5), (0, a2_1, a1_1, a1_3), (2, a2_2, a1_2, a1_5), (1, a2_0, dSub, a1_4)] : List (Nat × Int × Int × Int)).drop (i + 1) := by
   intro i hi
   match i, hi with
   | 0, _ => exact ⟨_, 2, _, _, _, fun W => by kernel_rfl, enters_of Try.func38 (by kernel_rfl) rfl, fit_lanes_call, by omega, rfl⟩
   | 1, _ => exact ⟨_, 0, _, _, _, fun W => by kernel_rfl, enters_of Try.func39 (by kernel_rfl) rfl, fit_nodes_call, by omega, rfl⟩
   | 2, _ => exact ⟨_, 2, _, _, _, fun W => by kernel_rfl, enters_of Try.func38 (by kernel_rfl) rfl, fit_lanes_call, by omega, rfl⟩
   | 3, _ => exact ⟨_, 1, _, _, _, fun W => by kernel_rfl, enters_of Try.func40 (by kernel_rfl) rfl, fit_bytes_call, by omega, rfl⟩
  replace hix := Aside0.mk hix
  go_wp2
  go_loopg [64] 4 (fun kq v64 wr => ∃ (i : Nat) (vs : List Value) (R : RoomR), v64 = .int .i64 i ∧ Aside0 (kq + i = 4) ∧ Aside0 (RoomS w wr H (fun k => k = H + 1 + 1 + 1) vs R) ∧ Aside0 (BoxN wr (H + 1 + 1 + 1) 26 [.slice none 0 0, .slice none 0 0, .slice none 0 0, .slice none 0 0, .slice none 0 0, .slice none 0 0]) ∧ Aside0 (Below w.heap.size w wr) ∧ Aside0 (runW D (([(2, a2_0, a1_0, a1_5), (0, a2_1, a1_1, a1_3), (2, a2_2, a1_2, a1_5), (1, a2_0, dSub, a1_4)] : List (Nat × Int × Int × Int)).drop i) R = some (Rf, ef)))
  case atStart => exact ⟨0, _, _, rfl, ⟨rfl⟩, RS, P3, HB, hrun⟩
  case round =>
   clear cx0 cx1 cx2 cx3 cx4 cx5 cx6 cx7 cx8 cx9 cx10 cx11 cx12 cx13 cx14 cx15 RS P3 HB hrun BX
   obtain ⟨i, vs, R, rfl, HK, RS, P3, HB, HW⟩ := hrel
   cases gk with
   | zero =>
    have e : i = 4 := by have := HK.out; omega
    subst e
    have hR : R = Rf ∧ (0 : Int) = ef := by have := HW.out; simpa [runW] using this
    obtain ⟨rfl, rfl⟩ := hR
    have hv := RS.out.len
    match vs, hv, RS with
    | [v0, v1, v2, v3, v4, v5], _, RS =>
    have hrl := RS.out.rlen
    obtain ⟨p0, hp0⟩ : ∃ p, R[0]? = some p := ⟨_, List.getElem?_eq_getElem (by rw [hrl]; decide)⟩
    obtain ⟨x0, x1, e0, e1, g0, g1⟩ := RS.out.row 0 p0 hp0
    cases e0
    cases e1
    obtain ⟨B0, d0, rfl⟩ := Kd.V_slice g0
    obtain ⟨B1, d1, rfl⟩ := Kd.V_slice g1
    obtain ⟨p1, hp1⟩ : ∃ p, R[1]? = some p := ⟨_, List.getElem?_eq_getElem (by rw [hrl]; decide)⟩
    obtain ⟨x2, x3, e2, e3, g2, g3⟩ := RS.out.row 1 p1 hp1
    cases e2
    cases e3
    obtain ⟨B2, d2, rfl⟩ := Kd.V_slice g2
    obtain ⟨B3, d3, rfl⟩ := Kd.V_slice g3
    obtain ⟨p2, hp2⟩ : ∃ p, R[2]? = some p := ⟨_, List.getElem?_eq_getElem (by rw [hrl]; decide)⟩
    obtain ⟨x4, x5, e4, e5, g4, g5⟩ := RS.out.row 2 p2 hp2
    cases e4
    cases e5
    obtain ⟨B4, d4, rfl⟩ := Kd.V_slice g4
    obtain ⟨B5, d5, rfl⟩ := Kd.V_slice g5
    have s0 := RS.out.box.cell 0 rfl
    have s1 := RS.out.box.cell 1 rfl
    have s2 := RS.out.box.cell 2 rfl
    have s3 := RS.out.box.cell 3 rfl
    have s4 := RS.out.box.cell 4 rfl
    have s5 := RS.out.box.cell 5 rfl
    have t0 := P3.out.cell 0 rfl
    have f0 := P3.out.frozen 0
    have t1 := P3.out.cell 1 rfl
    have f1 := P3.out.frozen 1
    have t2 := P3.out.cell 2 rfl
    have f2 := P3.out.frozen 2
    have t3 := P3.out.cell 3 rfl
    have f3 := P3.out.frozen 3
    have t4 := P3.out.cell 4 rfl
    have f4 := P3.out.frozen 4
    have t5 := P3.out.cell 5 rfl
    have f5 := P3.out.frozen 5
    clear hp0 hp1 hp2 g0 g1 g2 g3 g4 g5
    go_wp2
    have hb2 : BoxN ((((((wr.setCell ⟨H + 1 + 1 + 1, 0, none⟩ (.slice B0 p0.1.length d0)).setCell ⟨H + 1 + 1 + 1, 1, none⟩ (.slice B1 p0.2.1.length d1)).setCell ⟨H + 1 + 1 + 1, 2, none⟩ (.slice B2 p1.1.length d2)).setCell ⟨H + 1 + 1 + 1, 3, none⟩ (.slice B3 p1.2.1.length d3)).setCell ⟨H + 1 + 1 + 1, 4, none⟩ (.slice B4 p2.1.length d4)).setCell ⟨H + 1 + 1 + 1, 5, none⟩ (.slice B5 p2.2.1.length d5)) (H + 1 + 1 + 1) 26 [(.slice B0 p0.1.length d0), (.slice B1 p0.2.1.length d1), (.slice B2 p1.1.length d2), (.slice B3 p1.2.1.length d3), (.slice B4 p2.1.length d4), (.slice B5 p2.2.1.length d5)] := ((((((P3.out.set 0 (.slice B0 p0.1.length d0)).set 1 (.slice B1 p0.2.1.length d1)).set 2 (.slice B2 p1.1.length d2)).set 3 (.slice B3 p1.2.1.length d3)).set 4 (.slice B4 p2.1.length d4)).set 5 (.slice B5 p2.2.1.length d5))
    refine bodyPost_ret (results_ct rfl _ _ (H + 1 + 1 + 1) 26 #[(.slice B0 p0.1.length d0), (.slice B1 p0.2.1.length d1), (.slice B2 p1.1.length d2), (.slice B3 p1.2.1.length d3), (.slice B4 p2.1.length d4), (.slice B5 p2.2.1.length d5)] (0, 0) _ rfl hb2 Try.underlying26 rfl (by kernel_rfl)) rfl ?_
    have hk9 : Keeps (fun k => k ≠ H + 1 + 1 + 1) wr ((((((wr.setCell ⟨H + 1 + 1 + 1, 0, none⟩ (.slice B0 p0.1.length d0)).setCell ⟨H + 1 + 1 + 1, 1, none⟩ (.slice B1 p0.2.1.length d1)).setCell ⟨H + 1 + 1 + 1, 2, none⟩ (.slice B2 p1.1.length d2)).setCell ⟨H + 1 + 1 + 1, 3, none⟩ (.slice B3 p1.2.1.length d3)).setCell ⟨H + 1 + 1 + 1, 4, none⟩ (.slice B4 p2.1.length d4)).setCell ⟨H + 1 + 1 + 1, 5, none⟩ (.slice B5 p2.2.1.length d5)) := Keeps.setCell (p := ⟨H + 1 + 1 + 1, 5, none⟩) (Keeps.setCell (p := ⟨H + 1 + 1 + 1, 4, none⟩) (Keeps.setCell (p := ⟨H + 1 + 1 + 1, 3, none⟩) (Keeps.setCell (p := ⟨H + 1 + 1 + 1, 2, none⟩) (Keeps.setCell (p := ⟨H + 1 + 1 + 1, 1, none⟩) (Keeps.setCell (p := ⟨H + 1 + 1 + 1, 0, none⟩) (Keeps.refl (fun k => k ≠ H + 1 + 1 + 1) wr) (.slice B0 p0.1.length d0) (fun h => h.2 rfl)) (.slice B1 p0.2.1.length d1) (fun h => h.2 rfl)) (.slice B2 p1.1.length d2) (fun h => h.2 rfl)) (.slice B3 p1.2.1.length d3) (fun h => h.2 rfl)) (.slice B4 p2.1.length d4) (fun h => h.2 rfl)) (.slice B5 p2.2.1.length d5) (fun h => h.2 rfl)
    have hfr := runW_fresh D _ _ _ hrun0.out (fun q hq => by simp only [List.mem_cons, List.not_mem_nil, or_false] at hq; rcases hq with rfl | rfl | rfl | rfl <;> simp)
    exact EachPost.room RS.out hk9 (fun j hj => hfr j (.inr (by match j, hj with | 0, _ => exact ⟨_, List.mem_cons_of_mem _ (List.mem_cons_self ..), rfl⟩ | 1, _ => exact ⟨_, List.mem_cons_of_mem _ (List.mem_cons_of_mem _ (List.mem_cons_of_mem _ (List.mem_cons_self ..))), rfl⟩ | 2, _ => exact ⟨_, List.mem_cons_self .., rfl⟩))) (HB.out.trans (hk9.below (by have := HB.out.size; omega) (fun k hk => by omega)))
   | succ k1 =>
    have hlt : i < 4 := by have := HK.out; omega
    have hlt' : (i : Int) < 4 := by omega
    obtain ⟨g, j, f, l, n, hix1, hent, hg, hj3, hdr⟩ := hix.out i hlt
    replace hdr := Aside0.mk hdr
    replace hg := Aside0.mk hg
    have hjl : j < R.length := by rw [RS.out.rlen]; exact hj3
    obtain ⟨p, hp⟩ : ∃ p, R[j]? = some p := ⟨_, List.getElem?_eq_getElem hjl⟩
    obtain ⟨v0, v1, hv0, hv1, VP0, VP1⟩ := RS.out.row j p hp
    obtain ⟨A, c, rfl⟩ := Kd.V_slice VP0
    obtain ⟨B, d, rfl⟩ := Kd.V_slice VP1
    have hW1 := HW.out
    rw [hdr.out] at hW1
    unfold runW at hW1
    have hgd : R.getD j ([], [], false) = p := by rw [List.getD_eq_getElem?_getD, hp]; rfl
    rw [hgd] at hW1
    obtain ⟨⟨r1, r2, e3⟩, hD, hW2⟩ := Option.bind_eq_some_iff.1 hW1
    replace hD := Aside0.mk hD
    replace hW2 := Aside0.mk hW2
    clear hW1 HW hgd hjl hix
    obtain ⟨sm, hsm⟩ : ∃ sm, sumT 0 [f, l] = sm := ⟨_, rfl⟩
    have hsA := Aside0.mk (show sat_Add.f [f, l] = some sm from congrArg some hsm)
    rw [hsm] at hD
    clear hsm
    obtain ⟨T, hT⟩ : ∃ T, wr.heap.size = T := ⟨_, rfl⟩
    obtain ⟨Wt, hWt⟩ : ∃ Wt, wr.alloc (.cells #[.func (Fn.func g) #[] #[], .int .i64 f, .int .i64 l, .int .i64 n] 80) = Wt := ⟨_, rfl⟩
    have BT : BoxN Wt T 80 [.func (Fn.func g) #[] #[], .int .i64 f, .int .i64 l, .int .i64 n] := by rw [← hWt, ← hT]; exact BoxN.new wr _ _
    have hb : Below wr.heap.size wr Wt := by rw [← hWt]; exact (Below.refl _ _).alloc (Nat.le_refl _) _
    replace VP0 := Aside0.mk (Kd.V_below VP0 hb)
    replace VP1 := Aside0.mk (Kd.V_below VP1 hb)
    replace RS := Aside0.mk (RS.out.below hb)
    replace P3 := Aside0.mk (BoxN.below P3.out hb P3.out.lt)
    replace HB := Aside0.mk (HB.out.trans (hb.mono HB.out.size))
    replace BT := Aside0.mk BT
    clear hb
    go_upto_region 7 with fail
    clear hix1 hWt hT
    have s0 := BT.out.cell 0 rfl
    have s1 := BT.out.cell 1 rfl
    have s2 := BT.out.cell 2 rfl
    have s3 := BT.out.cell 3 rfl
    have s4 := RS.out.box.cell (2 * j) hv0
    have s5 := RS.out.box.cell (2 * j + 1) hv1
    go_cut [13, 14] (fun v13 v14 wc => ∃ (g9 : Nat) (Aa : Option Addr) (ca : Nat) (Ab : Option Addr) (cb : Nat), v13 = .pointer (some ⟨g9, 0, none⟩) ∧ v14 = .int .i64 e3 ∧ Aside0 (BoxN wc g9 24 [.slice Aa r1.length ca, .slice Ab r2.length cb]) ∧ Aside0 (Kd.V (Kd.int .i64) 2 wc 0 (fun k => k ≠ H ∧ k ≠ H + 1 + 1 + 1 ∧ w.heap.size ≤ k) (.slice Aa r1.length ca) r1) ∧ Aside0 (Kd.V (Kd.int .i64) 2 wc 0 (fun k => k ≠ H ∧ k ≠ H + 1 + 1 + 1 ∧ w.heap.size ≤ k) (.slice Ab r2.length cb) r2) ∧ Aside0 (RoomS w wc H (fun k => k = H + 1 + 1 + 1) vs R) ∧ Aside0 (BoxN wc (H + 1 + 1 + 1) 26 [.slice none 0 0, .slice none 0 0, .slice none 0 0, .slice none 0 0, .slice none 0 0, .slice none 0 0]) ∧ Aside0 (BoxN wc T 80 [.func (Fn.func g) #[] #[], .int .i64 f, .int .i64 l, .int .i64 n]) ∧ Aside0 (Below w.heap.size w wc))
    case first =>
     refine start_ (n := 23) (S := fun w' => w'.cell? ⟨T, 0, none⟩ = some (.func (Fn.func g) #[] #[]) ∧ w'.cell? ⟨T, 1, none⟩ = some (.int .i64 f) ∧ w'.cell? ⟨T, 2, none⟩ = some (.int .i64 l) ∧ w'.cell? ⟨T, 3, none⟩ = some (.int .i64 n) ∧ w'.cell? ⟨H, 2 * j, none⟩ = some (.slice A p.1.length c) ∧ w'.cell? ⟨H, 2 * j + 1, none⟩ = some (.slice B p.2.1.length d)) (ds := [21]) qf9b44 (by kernel_rfl) rfl rfl ⟨s0, s1, s2, s3, s4, s5⟩ (fun hHeld => ?_); refine with_tabW fit_each.tab7 fit_each.bits7 (fun HT_ HW_ => ?_)
     have hb : Below Wt.heap.size Wt Wt.drew := below_drew (Below.refl _ _)
     replace HB := Aside0.mk (HB.out.trans (hb.mono HB.out.size))
     replace VP0 := Aside0.mk (Kd.V_below VP0.out hb)
     replace VP1 := Aside0.mk (Kd.V_below VP1.out hb)
     replace RS := Aside0.mk (RS.out.below hb)
     replace P3 := Aside0.mk (BoxN.below P3.out hb P3.out.lt)
     replace BT := Aside0.mk (BoxN.below BT.out hb BT.out.lt)
     clear hb
     (try clear s0 s1 s2 s3 s4 s5)
     have s0 := BT.out.cell 0 rfl
     have s1 := BT.out.cell 1 rfl
     have s2 := BT.out.cell 2 rfl
     have s3 := BT.out.cell 3 rfl
     have s4 := RS.out.box.cell (2 * j) hv0
     have s5 := RS.out.box.cell (2 * j + 1) hv1
     generalize Wt.drew = w2 at *
     refine (fun (tail7 : ∀ (g9 : Nat) (Aq : Option Addr) (cq : Nat) (Aa : Option Addr) (ca : Nat) (Ab : Option Addr) (cb : Nat) (wn : World), Aside0 (T < g9) → Aside0 (H + 1 + 1 + 1 < g9) → Aside0 (RoomS w wn H (fun k => k = H + 1 + 1 + 1 ∨ k = g9) vs R) → Aside0 (Kd.V (Kd.int .i64) 2 wn 0 (fun k => (k ≠ H ∧ k ≠ H + 1 + 1 + 1 ∧ w.heap.size ≤ k) ∧ k ≠ g9) (.slice Aa r1.length ca) r1) → Aside0 (Kd.V (Kd.int .i64) 2 wn 0 (fun k => (k ≠ H ∧ k ≠ H + 1 + 1 + 1 ∧ w.heap.size ≤ k) ∧ k ≠ g9) (.slice Ab r2.length cb) r2) → Aside0 (BoxN wn (H + 1 + 1 + 1) 26 [.slice none 0 0, .slice none 0 0, .slice none 0 0, .slice none 0 0, .slice none 0 0, .slice none 0 0]) → Aside0 (BoxN wn T 80 [.func (Fn.func g) #[] #[], .int .i64 f, .int .i64 l, .int .i64 n]) → Aside0 (Below w.heap.size w wn) → Aside0 (BoxN wn g9 24 [.slice none 0 0, .slice none 0 0]) → (?G7 : Nat → Option Addr → Nat → Option Addr → Nat → Option Addr → Nat → World → Prop) g9 Aq cq Aa ca Ab cb wn) => ?main7) ?tl7
     case main7 =>
      refine pure_ (i := 0) (N := some 68) (v := ?_) (a' := ?_) qf9b45 rfl rfl (any_of HT_.out (by kernel_rfl)) (fun _ _ _ h => h) (Or.inl ⟨by rfl, ?_⟩) ?_ ?_
      rotate_left
      ·
       intro w'
       go_simp
       with_reducible rfl
      rotate_left
      ·
       refine (put_list _ _ _ _).trans ?_
       dsimp only [List.set_cons_zero, List.set_cons_succ]
       rfl
      refine pure_ (i := 1) (N := some 69) (v := ?_) (a' := ?_) qf9b46 rfl rfl (any_of HT_.out (by kernel_rfl)) (fun _ _ _ h => h) (Or.inl ⟨by rfl, ?_⟩) ?_ ?_
      rotate_left
      ·
       intro w'
       go_simp
       with_reducible rfl
      rotate_left
      ·
       refine (put_list _ _ _ _).trans ?_
       dsimp only [List.set_cons_zero, List.set_cons_succ]
       rfl
      refine pure_ (i := 6) (N := some 74) (v := ?_) (a' := ?_) qf9b47 rfl rfl (any_of HT_.out (by kernel_rfl)) (fun _ _ _ h => h) (Or.inl ⟨by rfl, ?_⟩) ?_ ?_
      rotate_left
      ·
       intro w'
       go_simp
       with_reducible rfl
      rotate_left
      ·
       refine (put_list _ _ _ _).trans ?_
       dsimp only [List.set_cons_zero, List.set_cons_succ]
       rfl
      refine pure_ (i := 8) (N := some 76) (v := ?_) (a' := ?_) qf9b48 rfl rfl (any_of HT_.out (by kernel_rfl)) (fun _ _ _ h => h) (Or.inl ⟨by rfl, ?_⟩) ?_ ?_
      rotate_left
      ·
       intro w'
       go_simp
       with_reducible rfl
      rotate_left
      ·
       refine (put_list _ _ _ _).trans ?_
       dsimp only [List.set_cons_zero, List.set_cons_succ]
       rfl
      refine pure_ (i := 10) (N := some 78) (v := ?_) (a' := ?_) qf9b49 rfl rfl (any_of HT_.out (by kernel_rfl)) (fun _ _ _ h => h) (Or.inl ⟨by rfl, ?_⟩) ?_ ?_
      rotate_left
      ·
       intro w'
       go_simp
       with_reducible rfl
      rotate_left
      ·
       refine (put_list _ _ _ _).trans ?_
       dsimp only [List.set_cons_zero, List.set_cons_succ]
       rfl
      refine pure_ (i := 14) (N := some 82) (v := ?_) (a' := ?_) qf9b50 rfl rfl (any_of HT_.out (by kernel_rfl)) (fun _ _ _ h => h) (Or.inl ⟨by rfl, ?_⟩) ?_ ?_
      rotate_left
      ·
       intro w'
       go_simp
       with_reducible rfl
      rotate_left
      ·
       refine (put_list _ _ _ _).trans ?_
       dsimp only [List.set_cons_zero, List.set_cons_succ]
       rfl
      refine take_ (i := 2) (N := some 70) (v := ?_) (a' := ?_) qf9b51 rfl rfl (take_ofW HT_.out HW_.out (by kernel_rfl)) (fun _ _ _ h => h) (Or.inl ⟨by rfl, ?_⟩) hHeld ?_ ?_
      rotate_left
      ·
       rintro w' ⟨s0, s1, s2, s3, s4, s5⟩
       go_simp
       with_reducible rfl
      rotate_left
      ·
       refine (put_list _ _ _ _).trans ?_
       dsimp only [List.set_cons_zero, List.set_cons_succ]
       rfl
      refine take_ (i := 7) (N := some 75) (v := ?_) (a' := ?_) qf9b52 rfl rfl (take_ofW HT_.out HW_.out (by kernel_rfl)) (fun _ _ _ h => h) (Or.inl ⟨by rfl, ?_⟩) hHeld ?_ ?_
      rotate_left
      ·
       rintro w' ⟨s0, s1, s2, s3, s4, s5⟩
       go_simp
       with_reducible rfl
      rotate_left
      ·
       refine (put_list _ _ _ _).trans ?_
       dsimp only [List.set_cons_zero, List.set_cons_succ]
       rfl
      refine take_ (i := 9) (N := some 77) (v := ?_) (a' := ?_) qf9b53 rfl rfl (take_ofW HT_.out HW_.out (by kernel_rfl)) (fun _ _ _ h => h) (Or.inl ⟨by rfl, ?_⟩) hHeld ?_ ?_
      rotate_left
      ·
       rintro w' ⟨s0, s1, s2, s3, s4, s5⟩
       go_simp
       with_reducible rfl
      rotate_left
      ·
       refine (put_list _ _ _ _).trans ?_
       dsimp only [List.set_cons_zero, List.set_cons_succ]
       rfl
      refine take_ (i := 11) (N := some 79) (v := ?_) (a' := ?_) qf9b54 rfl rfl (take_ofW HT_.out HW_.out (by kernel_rfl)) (fun _ _ _ h => h) (Or.inl ⟨by rfl, ?_⟩) hHeld ?_ ?_
      rotate_left
      ·
       rintro w' ⟨s0, s1, s2, s3, s4, s5⟩
       go_simp
       with_reducible rfl
      rotate_left
      ·
       refine (put_list _ _ _ _).trans ?_
       dsimp only [List.set_cons_zero, List.set_cons_succ]
       rfl
      refine take_ (i := 15) (N := some 83) (v := ?_) (a' := ?_) qf9b55 rfl rfl (take_ofW HT_.out HW_.out (by kernel_rfl)) (fun _ _ _ h => h) (Or.inl ⟨by rfl, ?_⟩) hHeld ?_ ?_
      rotate_left
      ·
       rintro w' ⟨s0, s1, s2, s3, s4, s5⟩
       go_simp
       with_reducible rfl
      rotate_left
      ·
       refine (put_list _ _ _ _).trans ?_
       dsimp only [List.set_cons_zero, List.set_cons_succ]
       rfl
      refine three_ (i := 3) (j := 12) (k := 20) (Ni := some 71) (Nj := some 80) (Nk := some 13) qf9b56 qf9b57 qf9b58 rfl rfl rfl rfl rfl rfl (three_of HT_.out (by kernel_rfl)) (by decide) (by decide) (by decide) (fun K hK => ?_) (fun K hK => ?_) (fun K hK => ?_)
      ·
       refine call_ g #[.pointer (some ⟨H, 0, none⟩)] (by rfl) rfl ?_ ?_
       ·
        unfold execOp
        simp [resolve, Deferred.ofValue, invoke, Act.eval, hent, hent2]
       (with_reducible refine (hg.out H _).mono ?_)
       rintro e wn ⟨rfl, rfl⟩
       refine ⟨_, rfl, ?_⟩
       refine hK.out _ _ ⟨s0, s1, s2, s3, s4, s5⟩ (fun hHeld => ?_)
       clear hK K
       refine norm_ (a' := ?_) ?_ ?_
       rotate_left
       ·
        refine (put_list _ _ 71 _).trans ?_
        dsimp only [List.set_cons_zero, List.set_cons_succ]
        (try rfl)
       refine pure_ (i := 4) (N := some 72) (v := ?_) (a' := ?_) qf9b59 rfl rfl (any_of HT_.out (by kernel_rfl)) (fun _ _ _ h => h) (Or.inl ⟨by rfl, ?_⟩) ?_ ?_
       rotate_left
       ·
        intro w'
        go_simp
        with_reducible rfl
       rotate_left
       ·
        refine (put_list _ _ _ _).trans ?_
        dsimp only [List.set_cons_zero, List.set_cons_succ]
        rfl
       refine take_ (i := 5) (N := some 73) (v := ?_) (a' := ?_) qf9b60 rfl rfl (take_ofW HT_.out HW_.out (by kernel_rfl)) (fun _ _ _ h => h) (Or.inl ⟨by rfl, ?_⟩) hHeld ?_ ?_
       rotate_left
       ·
        rintro w' ⟨s0, s1, s2, s3, s4, s5⟩
        go_simp
        with_reducible rfl
       rotate_left
       ·
        refine (put_list _ _ _ _).trans ?_
        dsimp only [List.set_cons_zero, List.set_cons_succ]
        rfl
       refine two_ (i := 12) (j := 20) (Ni := some 80) (Nj := some 13) qf9b61 qf9b62 rfl rfl rfl rfl (two_of HT_.out (by kernel_rfl)) (by decide) (by decide) (fun K hK => ?_) (fun K hK => ?_)
       ·
        refine Kd.R_lit_step (Kd.int .i64) _ 2 ?hg (N := 80) ?hd (xs := ([f, l] : List Int)) (inner := [.int .i64 f, .int .i64 l]) (ok := fun _ => True) (okp := fun _ => True) ?hr ?hp (fun _ hk => hk) trivial (Below.refl _ _) (Nat.le_refl _) (by simp) ?_; (case hd => rfl); (case hg => rfl); (case hr => first | (go_simp; done) | (go_simp; rfl)); (case hp => exact ((Reps.none _ _ |>.snoc (show Kd.M (Kd.int .i64) _ _ _ f [.int .i64 f] from rfl) rfl).snoc (show Kd.M (Kd.int .i64) _ _ _ l [.int .i64 l] from rfl) rfl))
        intro vq wq hoq hb hg_ hnew_
        clear hg_ hnew_
        replace HB := Aside0.mk (HB.out.trans (hb.mono HB.out.size))
        replace VP0 := Aside0.mk (Kd.V_below VP0.out hb)
        replace VP1 := Aside0.mk (Kd.V_below VP1.out hb)
        replace RS := Aside0.mk (RS.out.below hb)
        replace P3 := Aside0.mk (BoxN.below P3.out hb P3.out.lt)
        replace BT := Aside0.mk (BoxN.below BT.out hb BT.out.lt)
        clear hb
        (try clear s0 s1 s2 s3 s4 s5)
        have s0 := BT.out.cell 0 rfl
        have s1 := BT.out.cell 1 rfl
        have s2 := BT.out.cell 2 rfl
        have s3 := BT.out.cell 3 rfl
        have s4 := RS.out.box.cell (2 * j) hv0
        have s5 := RS.out.box.cell (2 * j + 1) hv1
        have HQ := Aside0.mk hoq
        clear hoq
        obtain ⟨Aq, cq, rfl⟩ := Kd.R_slice HQ.out
        refine hK.out _ _ ⟨s0, s1, s2, s3, s4, s5⟩ (fun hHeld => ?_)
        clear hK K
        refine norm_ (a' := ?_) ?_ ?_
        rotate_left
        ·
         refine (put_list _ _ 80 _).trans ?_
         dsimp only [List.set_cons_zero, List.set_cons_succ]
         (try rfl)
        refine two_ (i := 13) (j := 20) (Ni := some 81) (Nj := some 13) qf9b63 qf9b64 rfl rfl rfl rfl (two_of HT_.out (by kernel_rfl)) (by decide) (by decide) (fun K hK => ?_) (fun K hK => ?_)
        ·
         refine goes_ Try.func42 (by kernel_rfl) rfl #[.slice Aq ([f, l] : List Int).length cq] (by rfl) rfl rfl (by (try simp only [List.map_toArray, List.map_cons, List.map_nil]); first | done | rfl) ?_
         (with_reducible refine (sat_Add.calls Aq cq [f, l] _ _ (Kd.R_reads' HQ.out).2.2 (Kd.R_reads' HQ.out).2.1 hsA.out).mono ?_)
         rintro e wn ⟨rfl, hd⟩
         refine ⟨_, rfl, ?_⟩
         have hb := each_drawn hd
         clear hd
         replace HB := Aside0.mk (HB.out.trans (hb.mono HB.out.size))
         replace VP0 := Aside0.mk (Kd.V_below VP0.out hb)
         replace VP1 := Aside0.mk (Kd.V_below VP1.out hb)
         replace RS := Aside0.mk (RS.out.below hb)
         replace P3 := Aside0.mk (BoxN.below P3.out hb P3.out.lt)
         replace BT := Aside0.mk (BoxN.below BT.out hb BT.out.lt)
         replace HQ := Aside0.mk (Kd.R_below HQ.out hb)
         clear hb
         (try clear s0 s1 s2 s3 s4 s5)
         have s0 := BT.out.cell 0 rfl
         have s1 := BT.out.cell 1 rfl
         have s2 := BT.out.cell 2 rfl
         have s3 := BT.out.cell 3 rfl
         have s4 := RS.out.box.cell (2 * j) hv0
         have s5 := RS.out.box.cell (2 * j + 1) hv1
         refine hK.out _ _ ⟨s0, s1, s2, s3, s4, s5⟩ (fun hHeld => ?_)
         clear hK K
         refine norm_ (a' := ?_) ?_ ?_
         rotate_left
         ·
          refine (put_list _ _ 81 _).trans ?_
          dsimp only [List.set_cons_zero, List.set_cons_succ]
          (try rfl)
         refine two_ (i := 16) (j := 20) (Ni := some 84) (Nj := some 13) qf9b65 qf9b66 rfl rfl rfl rfl (two_of HT_.out (by kernel_rfl)) (by decide) (by decide) (fun K hK => ?_) (fun K hK => ?_)
         ·
          refine call_ dof #[.agg #[.slice A p.1.length c, .slice B p.2.1.length d], .int .i64 f, .int .i64 sm, .int .i64 n] (by rfl) rfl ?_ ?_
          ·
           unfold execOp
           simp [resolve, Deferred.ofValue, invoke, Act.eval, hent, hent2]
          (with_reducible refine (hdo A c p.1 B d p.2.1 f sm n r1 r2 e3 _ (Kd.V_reads' VP0.out).2.2 (Kd.V_reads' VP0.out).2.1 (Kd.V_reads' VP1.out).2.2 (Kd.V_reads' VP1.out).2.1 hD.out).mono ?_)
          rintro e wn ⟨va, vb, rfl, hva, hvb, hb⟩
          refine ⟨_, rfl, ?_⟩
          have VA := Aside0.mk (Kd.V_lower (Kd.V_mono (ok' := fun k => k ≠ H ∧ k ≠ H + 1 + 1 + 1 ∧ w.heap.size ≤ k) hva (fun k hk => ⟨by have := RS.out.box.lt; omega, by have := P3.out.lt; omega, Nat.le_trans HB.out.size hk⟩)) (Nat.zero_le _))
          have VB := Aside0.mk (Kd.V_lower (Kd.V_mono (ok' := fun k => k ≠ H ∧ k ≠ H + 1 + 1 + 1 ∧ w.heap.size ≤ k) hvb (fun k hk => ⟨by have := RS.out.box.lt; omega, by have := P3.out.lt; omega, Nat.le_trans HB.out.size hk⟩)) (Nat.zero_le _))
          clear hva hvb
          obtain ⟨Aa, ca, rfl⟩ := Kd.V_slice VA.out
          obtain ⟨Ab, cb, rfl⟩ := Kd.V_slice VB.out
          replace HB := Aside0.mk (HB.out.trans (hb.mono HB.out.size))
          replace VP0 := Aside0.mk (Kd.V_below VP0.out hb)
          replace VP1 := Aside0.mk (Kd.V_below VP1.out hb)
          replace RS := Aside0.mk (RS.out.below hb)
          replace P3 := Aside0.mk (BoxN.below P3.out hb P3.out.lt)
          replace BT := Aside0.mk (BoxN.below BT.out hb BT.out.lt)
          replace HQ := Aside0.mk (Kd.R_below HQ.out hb)
          clear hb
          (try clear s0 s1 s2 s3 s4 s5)
          have s0 := BT.out.cell 0 rfl
          have s1 := BT.out.cell 1 rfl
          have s2 := BT.out.cell 2 rfl
          have s3 := BT.out.cell 3 rfl
          have s4 := RS.out.box.cell (2 * j) hv0
          have s5 := RS.out.box.cell (2 * j + 1) hv1
          refine hK.out _ _ ⟨s0, s1, s2, s3, s4, s5⟩ (fun hHeld => ?_)
          clear hK K
          refine norm_ (a' := ?_) ?_ ?_
          rotate_left
          ·
           refine (put_list _ _ 84 _).trans ?_
           dsimp only [List.set_cons_zero, List.set_cons_succ]
           (try rfl)
          refine pure_ (i := 17) (N := some 67) (v := ?_) (a' := ?_) qf9b67 rfl rfl (any_of HT_.out (by kernel_rfl)) (fun _ _ _ h => h) (Or.inl ⟨by rfl, ?_⟩) ?_ ?_
          rotate_left
          ·
           intro w'
           go_simp
           with_reducible rfl
          rotate_left
          ·
           refine (put_list _ _ _ _).trans ?_
           dsimp only [List.set_cons_zero, List.set_cons_succ]
           rfl
          refine pure_ (i := 18) (N := some 85) (v := ?_) (a' := ?_) qf9b68 rfl rfl (any_of HT_.out (by kernel_rfl)) (fun _ _ _ h => h) (Or.inl ⟨by rfl, ?_⟩) ?_ ?_
          rotate_left
          ·
           intro w'
           go_simp
           with_reducible rfl
          rotate_left
          ·
           refine (put_list _ _ _ _).trans ?_
           dsimp only [List.set_cons_zero, List.set_cons_succ]
           rfl
          refine pure_ (i := 19) (N := some 86) (v := ?_) (a' := ?_) qf9b69 rfl rfl (any_of HT_.out (by kernel_rfl)) (fun _ _ _ h => h) (Or.inl ⟨by rfl, ?_⟩) ?_ ?_
          rotate_left
          ·
           intro w'
           go_simp
           with_reducible rfl
          rotate_left
          ·
           refine (put_list _ _ _ _).trans ?_
           dsimp only [List.set_cons_zero, List.set_cons_succ]
           rfl
          refine one_ (i := 20) (N := some 13) qf9b70 rfl rfl (one_of HT_.out (by kernel_rfl)) (by decide) (fun K hK => ?_)
          refine box_step ?hg (N := 13) ?hd (cs := #[.slice none 0 0, .slice none 0 0]) (t := 24) ?hr ?_; (case hd => rfl); (case hg => rfl); (case hr => first | (go_simp; done) | (go_simp; rfl))
          intro g9 hg9 wq hbx hb
          have h9T : T < g9 := hg9 ▸ BT.out.lt
          have h93 : H + 1 + 1 + 1 < g9 := hg9 ▸ P3.out.lt
          replace RS := Aside0.mk (RS.out.elder g9 (Nat.le_of_eq hg9.symm))
          replace VA := Aside0.mk (Kd.V_elderB VA.out g9 (Nat.le_of_eq hg9.symm))
          replace VB := Aside0.mk (Kd.V_elderB VB.out g9 (Nat.le_of_eq hg9.symm))
          replace HB := Aside0.mk (HB.out.trans (hb.mono HB.out.size))
          replace VP0 := Aside0.mk (Kd.V_below VP0.out hb)
          replace VP1 := Aside0.mk (Kd.V_below VP1.out hb)
          replace RS := Aside0.mk (RS.out.below hb)
          replace P3 := Aside0.mk (BoxN.below P3.out hb P3.out.lt)
          replace BT := Aside0.mk (BoxN.below BT.out hb BT.out.lt)
          replace HQ := Aside0.mk (Kd.R_below HQ.out hb)
          replace VA := Aside0.mk (Kd.V_below VA.out hb)
          replace VB := Aside0.mk (Kd.V_below VB.out hb)
          clear hb
          (try clear s0 s1 s2 s3 s4 s5)
          have s0 := BT.out.cell 0 rfl
          have s1 := BT.out.cell 1 rfl
          have s2 := BT.out.cell 2 rfl
          have s3 := BT.out.cell 3 rfl
          have s4 := RS.out.box.cell (2 * j) hv0
          have s5 := RS.out.box.cell (2 * j + 1) hv1
          have B9 := Aside0.mk (show BoxN wq g9 24 [.slice none 0 0, .slice none 0 0] from hbx)
          clear hbx hg9
          refine hK.out _ _ ⟨s0, s1, s2, s3, s4, s5⟩ (fun hHeld => ?_)
          clear hK K
          refine norm_ (a' := ?_) ?_ ?_
          rotate_left
          ·
           refine (put_list _ _ 13 _).trans ?_
           dsimp only [List.set_cons_zero, List.set_cons_succ]
           (try rfl)
          exact tail7 g9 Aq cq Aa ca Ab cb wq ⟨h9T⟩ ⟨h93⟩ RS VA VB P3 BT HB B9
         ·
          refine box_step ?hg (N := 13) ?hd (cs := #[.slice none 0 0, .slice none 0 0]) (t := 24) ?hr ?_; (case hd => rfl); (case hg => rfl); (case hr => first | (go_simp; done) | (go_simp; rfl))
          intro g9 hg9 wq hbx hb
          have h9T : T < g9 := hg9 ▸ BT.out.lt
          have h93 : H + 1 + 1 + 1 < g9 := hg9 ▸ P3.out.lt
          replace RS := Aside0.mk (RS.out.elder g9 (Nat.le_of_eq hg9.symm))
          replace HB := Aside0.mk (HB.out.trans (hb.mono HB.out.size))
          replace VP0 := Aside0.mk (Kd.V_below VP0.out hb)
          replace VP1 := Aside0.mk (Kd.V_below VP1.out hb)
          replace RS := Aside0.mk (RS.out.below hb)
          replace P3 := Aside0.mk (BoxN.below P3.out hb P3.out.lt)
          replace BT := Aside0.mk (BoxN.below BT.out hb BT.out.lt)
          replace HQ := Aside0.mk (Kd.R_below HQ.out hb)
          clear hb
          (try clear s0 s1 s2 s3 s4 s5)
          have s0 := BT.out.cell 0 rfl
          have s1 := BT.out.cell 1 rfl
          have s2 := BT.out.cell 2 rfl
          have s3 := BT.out.cell 3 rfl
          have s4 := RS.out.box.cell (2 * j) hv0
          have s5 := RS.out.box.cell (2 * j + 1) hv1
          have B9 := Aside0.mk (show BoxN wq g9 24 [.slice none 0 0, .slice none 0 0] from hbx)
          clear hbx hg9
          refine hK.out _ _ ⟨s0, s1, s2, s3, s4, s5⟩ (fun hHeld => ?_)
          clear hK K
          refine norm_ (a' := ?_) ?_ ?_
          rotate_left
          ·
           refine (put_list _ _ 13 _).trans ?_
           dsimp only [List.set_cons_zero, List.set_cons_succ]
           (try rfl)
          refine one_ (i := 16) (N := some 84) qf9b71 rfl rfl (one_of HT_.out (by kernel_rfl)) (by decide) (fun K hK => ?_)
          refine call_ dof #[.agg #[.slice A p.1.length c, .slice B p.2.1.length d], .int .i64 f, .int .i64 sm, .int .i64 n] (by rfl) rfl ?_ ?_
          ·
           unfold execOp
           simp [resolve, Deferred.ofValue, invoke, Act.eval, hent, hent2]
          (with_reducible refine (hdo A c p.1 B d p.2.1 f sm n r1 r2 e3 _ (Kd.V_reads' VP0.out).2.2 (Kd.V_reads' VP0.out).2.1 (Kd.V_reads' VP1.out).2.2 (Kd.V_reads' VP1.out).2.1 hD.out).mono ?_)
          rintro e wn ⟨va, vb, rfl, hva, hvb, hb⟩
          refine ⟨_, rfl, ?_⟩
          have VA := Aside0.mk (Kd.V_lower (Kd.V_mono (ok' := fun k => (k ≠ H ∧ k ≠ H + 1 + 1 + 1 ∧ w.heap.size ≤ k) ∧ k ≠ g9) hva (fun k hk => ⟨⟨by have := RS.out.box.lt; omega, by have := P3.out.lt; omega, Nat.le_trans HB.out.size hk⟩, by have := B9.out.lt; omega⟩)) (Nat.zero_le _))
          have VB := Aside0.mk (Kd.V_lower (Kd.V_mono (ok' := fun k => (k ≠ H ∧ k ≠ H + 1 + 1 + 1 ∧ w.heap.size ≤ k) ∧ k ≠ g9) hvb (fun k hk => ⟨⟨by have := RS.out.box.lt; omega, by have := P3.out.lt; omega, Nat.le_trans HB.out.size hk⟩, by have := B9.out.lt; omega⟩)) (Nat.zero_le _))
          clear hva hvb
          obtain ⟨Aa, ca, rfl⟩ := Kd.V_slice VA.out
          obtain ⟨Ab, cb, rfl⟩ := Kd.V_slice VB.out
          replace HB := Aside0.mk (HB.out.trans (hb.mono HB.out.size))
          replace VP0 := Aside0.mk (Kd.V_below VP0.out hb)
          replace VP1 := Aside0.mk (Kd.V_below VP1.out hb)
          replace RS := Aside0.mk (RS.out.below hb)
          replace P3 := Aside0.mk (BoxN.below P3.out hb P3.out.lt)
          replace BT := Aside0.mk (BoxN.below BT.out hb BT.out.lt)
          replace HQ := Aside0.mk (Kd.R_below HQ.out hb)
          replace B9 := Aside0.mk (BoxN.below B9.out hb B9.out.lt)
          clear hb
          (try clear s0 s1 s2 s3 s4 s5)
          have s0 := BT.out.cell 0 rfl
          have s1 := BT.out.cell 1 rfl
          have s2 := BT.out.cell 2 rfl
          have s3 := BT.out.cell 3 rfl
          have s4 := RS.out.box.cell (2 * j) hv0
          have s5 := RS.out.box.cell (2 * j + 1) hv1
          refine hK.out _ _ ⟨s0, s1, s2, s3, s4, s5⟩ (fun hHeld => ?_)
          clear hK K
          refine norm_ (a' := ?_) ?_ ?_
          rotate_left
          ·
           refine (put_list _ _ 84 _).trans ?_
           dsimp only [List.set_cons_zero, List.set_cons_succ]
           (try rfl)
          refine pure_ (i := 17) (N := some 67) (v := ?_) (a' := ?_) qf9b72 rfl rfl (any_of HT_.out (by kernel_rfl)) (fun _ _ _ h => h) (Or.inl ⟨by rfl, ?_⟩) ?_ ?_
          rotate_left
          ·
           intro w'
           go_simp
           with_reducible rfl
          rotate_left
          ·
           refine (put_list _ _ _ _).trans ?_
           dsimp only [List.set_cons_zero, List.set_cons_succ]
           rfl
          refine pure_ (i := 18) (N := some 85) (v := ?_) (a' := ?_) qf9b73 rfl rfl (any_of HT_.out (by kernel_rfl)) (fun _ _ _ h => h) (Or.inl ⟨by rfl, ?_⟩) ?_ ?_
          rotate_left
          ·
           intro w'
           go_simp
           with_reducible rfl
          rotate_left
          ·
           refine (put_list _ _ _ _).trans ?_
           dsimp only [List.set_cons_zero, List.set_cons_succ]
           rfl
          refine pure_ (i := 19) (N := some 86) (v := ?_) (a' := ?_) qf9b70 rfl rfl (any_of HT_.out (by kernel_rfl)) (fun _ _ _ h => h) (Or.inl ⟨by rfl, ?_⟩) ?_ ?_
          rotate_left
          ·
           intro w'
           go_simp
           with_reducible rfl
          rotate_left
          ·
           refine (put_list _ _ _ _).trans ?_
           dsimp only [List.set_cons_zero, List.set_cons_succ]
           rfl
          exact tail7 g9 Aq cq Aa ca Ab cb wn ⟨h9T⟩ ⟨h93⟩ RS VA VB P3 BT HB B9
        ·
         refine box_step ?hg (N := 13) ?hd (cs := #[.slice none 0 0, .slice none 0 0]) (t := 24) ?hr ?_; (case hd => rfl); (case hg => rfl); (case hr => first | (go_simp; done) | (go_simp; rfl))
         intro g9 hg9 wq hbx hb
         have h9T : T < g9 := hg9 ▸ BT.out.lt
         have h93 : H + 1 + 1 + 1 < g9 := hg9 ▸ P3.out.lt
         replace RS := Aside0.mk (RS.out.elder g9 (Nat.le_of_eq hg9.symm))
         replace HB := Aside0.mk (HB.out.trans (hb.mono HB.out.size))
         replace VP0 := Aside0.mk (Kd.V_below VP0.out hb)
         replace VP1 := Aside0.mk (Kd.V_below VP1.out hb)
         replace RS := Aside0.mk (RS.out.below hb)
         replace P3 := Aside0.mk (BoxN.below P3.out hb P3.out.lt)
         replace BT := Aside0.mk (BoxN.below BT.out hb BT.out.lt)
         replace HQ := Aside0.mk (Kd.R_below HQ.out hb)
         clear hb
         (try clear s0 s1 s2 s3 s4 s5)
         have s0 := BT.out.cell 0 rfl
         have s1 := BT.out.cell 1 rfl
         have s2 := BT.out.cell 2 rfl
         have s3 := BT.out.cell 3 rfl
         have s4 := RS.out.box.cell (2 * j) hv0
         have s5 := RS.out.box.cell (2 * j + 1) hv1
         have B9 := Aside0.mk (show BoxN wq g9 24 [.slice none 0 0, .slice none 0 0] from hbx)
         clear hbx hg9
         refine hK.out _ _ ⟨s0, s1, s2, s3, s4, s5⟩ (fun hHeld => ?_)
         clear hK K
         refine norm_ (a' := ?_) ?_ ?_
         rotate_left
         ·
          refine (put_list _ _ 13 _).trans ?_
          dsimp only [List.set_cons_zero, List.set_cons_succ]
          (try rfl)
         refine one_ (i := 13) (N := some 81) qf9b66 rfl rfl (one_of HT_.out (by kernel_rfl)) (by decide) (fun K hK => ?_)
         refine goes_ Try.func42 (by kernel_rfl) rfl #[.slice Aq ([f, l] : List Int).length cq] (by rfl) rfl rfl (by (try simp only [List.map_toArray, List.map_cons, List.map_nil]); first | done | rfl) ?_
         (with_reducible refine (sat_Add.calls Aq cq [f, l] _ _ (Kd.R_reads' HQ.out).2.2 (Kd.R_reads' HQ.out).2.1 hsA.out).mono ?_)
         rintro e wn ⟨rfl, hd⟩
         refine ⟨_, rfl, ?_⟩
         have hb := each_drawn hd
         clear hd
         replace HB := Aside0.mk (HB.out.trans (hb.mono HB.out.size))
         replace VP0 := Aside0.mk (Kd.V_below VP0.out hb)
         replace VP1 := Aside0.mk (Kd.V_below VP1.out hb)
         replace RS := Aside0.mk (RS.out.below hb)
         replace P3 := Aside0.mk (BoxN.below P3.out hb P3.out.lt)
         replace BT := Aside0.mk (BoxN.below BT.out hb BT.out.lt)
         replace HQ := Aside0.mk (Kd.R_below HQ.out hb)
         replace B9 := Aside0.mk (BoxN.below B9.out hb B9.out.lt)
         clear hb
         (try clear s0 s1 s2 s3 s4 s5)
         have s0 := BT.out.cell 0 rfl
         have s1 := BT.out.cell 1 rfl
         have s2 := BT.out.cell 2 rfl
         have s3 := BT.out.cell 3 rfl
         have s4 := RS.out.box.cell (2 * j) hv0
         have s5 := RS.out.box.cell (2 * j + 1) hv1
         refine hK.out _ _ ⟨s0, s1, s2, s3, s4, s5⟩ (fun hHeld => ?_)
         clear hK K
         refine norm_ (a' := ?_) ?_ ?_
         rotate_left
         ·
          refine (put_list _ _ 81 _).trans ?_
          dsimp only [List.set_cons_zero, List.set_cons_succ]
          (try rfl)
         refine one_ (i := 16) (N := some 84) qf9b71 rfl rfl (one_of HT_.out (by kernel_rfl)) (by decide) (fun K hK => ?_)
         refine call_ dof #[.agg #[.slice A p.1.length c, .slice B p.2.1.length d], .int .i64 f, .int .i64 sm, .int .i64 n] (by rfl) rfl ?_ ?_
         ·
          unfold execOp
          simp [resolve, Deferred.ofValue, invoke, Act.eval, hent, hent2]
         (with_reducible refine (hdo A c p.1 B d p.2.1 f sm n r1 r2 e3 _ (Kd.V_reads' VP0.out).2.2 (Kd.V_reads' VP0.out).2.1 (Kd.V_reads' VP1.out).2.2 (Kd.V_reads' VP1.out).2.1 hD.out).mono ?_)
         rintro e wn ⟨va, vb, rfl, hva, hvb, hb⟩
         refine ⟨_, rfl, ?_⟩
         have VA := Aside0.mk (Kd.V_lower (Kd.V_mono (ok' := fun k => (k ≠ H ∧ k ≠ H + 1 + 1 + 1 ∧ w.heap.size ≤ k) ∧ k ≠ g9) hva (fun k hk => ⟨⟨by have := RS.out.box.lt; omega, by have := P3.out.lt; omega, Nat.le_trans HB.out.size hk⟩, by have := B9.out.lt; omega⟩)) (Nat.zero_le _))
         have VB := Aside0.mk (Kd.V_lower (Kd.V_mono (ok' := fun k => (k ≠ H ∧ k ≠ H + 1 + 1 + 1 ∧ w.heap.size ≤ k) ∧ k ≠ g9) hvb (fun k hk => ⟨⟨by have := RS.out.box.lt; omega, by have := P3.out.lt; omega, Nat.le_trans HB.out.size hk⟩, by have := B9.out.lt; omega⟩)) (Nat.zero_le _))
         clear hva hvb
         obtain ⟨Aa, ca, rfl⟩ := Kd.V_slice VA.out
         obtain ⟨Ab, cb, rfl⟩ := Kd.V_slice VB.out
         replace HB := Aside0.mk (HB.out.trans (hb.mono HB.out.size))
         replace VP0 := Aside0.mk (Kd.V_below VP0.out hb)
         replace VP1 := Aside0.mk (Kd.V_below VP1.out hb)
         replace RS := Aside0.mk (RS.out.below hb)
         replace P3 := Aside0.mk (BoxN.below P3.out hb P3.out.lt)
         replace BT := Aside0.mk (BoxN.below BT.out hb BT.out.lt)
         replace HQ := Aside0.mk (Kd.R_below HQ.out hb)
         replace B9 := Aside0.mk (BoxN.below B9.out hb B9.out.lt)
         clear hb
         (try clear s0 s1 s2 s3 s4 s5)
         have s0 := BT.out.cell 0 rfl
         have s1 := BT.out.cell 1 rfl
         have s2 := BT.out.cell 2 rfl
         have s3 := BT.out.cell 3 rfl
         have s4 := RS.out.box.cell (2 * j) hv0
         have s5 := RS.out.box.cell (2 * j + 1) hv1
         refine hK.out _ _ ⟨s0, s1, s2, s3, s4, s5⟩ (fun hHeld => ?_)
         clear hK K
         refine norm_ (a' := ?_) ?_ ?_
         rotate_left
         ·
          refine (put_list _ _ 84 _).trans ?_
          dsimp only [List.set_cons_zero, List.set_cons_succ]
          (try rfl)
         refine pure_ (i := 17) (N := some 67) (v := ?_) (a' := ?_) qf9b72 rfl rfl (any_of HT_.out (by kernel_rfl)) (fun _ _ _ h => h) (Or.inl ⟨by rfl, ?_⟩) ?_ ?_
         rotate_left
         ·
          intro w'
          go_simp
          with_reducible rfl
         rotate_left
         ·
          refine (put_list _ _ _ _).trans ?_
          dsimp only [List.set_cons_zero, List.set_cons_succ]
          rfl
         refine pure_ (i := 18) (N := some 85) (v := ?_) (a' := ?_) qf9b73 rfl rfl (any_of HT_.out (by kernel_rfl)) (fun _ _ _ h => h) (Or.inl ⟨by rfl, ?_⟩) ?_ ?_
         rotate_left
         ·
          intro w'
          go_simp
          with_reducible rfl
         rotate_left
         ·
          refine (put_list _ _ _ _).trans ?_
          dsimp only [List.set_cons_zero, List.set_cons_succ]
          rfl
         refine pure_ (i := 19) (N := some 86) (v := ?_) (a' := ?_) qf9b70 rfl rfl (any_of HT_.out (by kernel_rfl)) (fun _ _ _ h => h) (Or.inl ⟨by rfl, ?_⟩) ?_ ?_
         rotate_left
         ·
          intro w'
          go_simp
          with_reducible rfl
         rotate_left
         ·
          refine (put_list _ _ _ _).trans ?_
          dsimp only [List.set_cons_zero, List.set_cons_succ]
          rfl
         exact tail7 g9 Aq cq Aa ca Ab cb wn ⟨h9T⟩ ⟨h93⟩ RS VA VB P3 BT HB B9
       ·
        refine box_step ?hg (N := 13) ?hd (cs := #[.slice none 0 0, .slice none 0 0]) (t := 24) ?hr ?_; (case hd => rfl); (case hg => rfl); (case hr => first | (go_simp; done) | (go_simp; rfl))
        intro g9 hg9 wq hbx hb
        have h9T : T < g9 := hg9 ▸ BT.out.lt
        have h93 : H + 1 + 1 + 1 < g9 := hg9 ▸ P3.out.lt
        replace RS := Aside0.mk (RS.out.elder g9 (Nat.le_of_eq hg9.symm))
        replace HB := Aside0.mk (HB.out.trans (hb.mono HB.out.size))
        replace VP0 := Aside0.mk (Kd.V_below VP0.out hb)
        replace VP1 := Aside0.mk (Kd.V_below VP1.out hb)
        replace RS := Aside0.mk (RS.out.below hb)
        replace P3 := Aside0.mk (BoxN.below P3.out hb P3.out.lt)
        replace BT := Aside0.mk (BoxN.below BT.out hb BT.out.lt)
        clear hb
        (try clear s0 s1 s2 s3 s4 s5)
        have s0 := BT.out.cell 0 rfl
        have s1 := BT.out.cell 1 rfl
        have s2 := BT.out.cell 2 rfl
        have s3 := BT.out.cell 3 rfl
        have s4 := RS.out.box.cell (2 * j) hv0
        have s5 := RS.out.box.cell (2 * j + 1) hv1
        have B9 := Aside0.mk (show BoxN wq g9 24 [.slice none 0 0, .slice none 0 0] from hbx)
        clear hbx hg9
        refine hK.out _ _ ⟨s0, s1, s2, s3, s4, s5⟩ (fun hHeld => ?_)
        clear hK K
        refine norm_ (a' := ?_) ?_ ?_
        rotate_left
        ·
         refine (put_list _ _ 13 _).trans ?_
         dsimp only [List.set_cons_zero, List.set_cons_succ]
         (try rfl)
        refine one_ (i := 12) (N := some 80) qf9b64 rfl rfl (one_of HT_.out (by kernel_rfl)) (by decide) (fun K hK => ?_)
        refine Kd.R_lit_step (Kd.int .i64) _ 2 ?hg (N := 80) ?hd (xs := ([f, l] : List Int)) (inner := [.int .i64 f, .int .i64 l]) (ok := fun _ => True) (okp := fun _ => True) ?hr ?hp (fun _ hk => hk) trivial (Below.refl _ _) (Nat.le_refl _) (by simp) ?_; (case hd => rfl); (case hg => rfl); (case hr => first | (go_simp; done) | (go_simp; rfl)); (case hp => exact ((Reps.none _ _ |>.snoc (show Kd.M (Kd.int .i64) _ _ _ f [.int .i64 f] from rfl) rfl).snoc (show Kd.M (Kd.int .i64) _ _ _ l [.int .i64 l] from rfl) rfl))
        intro vq wq hoq hb hg_ hnew_
        clear hg_ hnew_
        replace HB := Aside0.mk (HB.out.trans (hb.mono HB.out.size))
        replace VP0 := Aside0.mk (Kd.V_below VP0.out hb)
        replace VP1 := Aside0.mk (Kd.V_below VP1.out hb)
        replace RS := Aside0.mk (RS.out.below hb)
        replace P3 := Aside0.mk (BoxN.below P3.out hb P3.out.lt)
        replace BT := Aside0.mk (BoxN.below BT.out hb BT.out.lt)
        replace B9 := Aside0.mk (BoxN.below B9.out hb B9.out.lt)
        clear hb
        (try clear s0 s1 s2 s3 s4 s5)
        have s0 := BT.out.cell 0 rfl
        have s1 := BT.out.cell 1 rfl
        have s2 := BT.out.cell 2 rfl
        have s3 := BT.out.cell 3 rfl
        have s4 := RS.out.box.cell (2 * j) hv0
        have s5 := RS.out.box.cell (2 * j + 1) hv1
        have HQ := Aside0.mk hoq
        clear hoq
        obtain ⟨Aq, cq, rfl⟩ := Kd.R_slice HQ.out
        refine hK.out _ _ ⟨s0, s1, s2, s3, s4, s5⟩ (fun hHeld => ?_)
        clear hK K
        refine norm_ (a' := ?_) ?_ ?_
        rotate_left
        ·
         refine (put_list _ _ 80 _).trans ?_
         dsimp only [List.set_cons_zero, List.set_cons_succ]
         (try rfl)
        refine one_ (i := 13) (N := some 81) qf9b66 rfl rfl (one_of HT_.out (by kernel_rfl)) (by decide) (fun K hK => ?_)
        refine goes_ Try.func42 (by kernel_rfl) rfl #[.slice Aq ([f, l] : List Int).length cq] (by rfl) rfl rfl (by (try simp only [List.map_toArray, List.map_cons, List.map_nil]); first | done | rfl) ?_
        (with_reducible refine (sat_Add.calls Aq cq [f, l] _ _ (Kd.R_reads' HQ.out).2.2 (Kd.R_reads' HQ.out).2.1 hsA.out).mono ?_)
        rintro e wn ⟨rfl, hd⟩
        refine ⟨_, rfl, ?_⟩
        have hb := each_drawn hd
        clear hd
        replace HB := Aside0.mk (HB.out.trans (hb.mono HB.out.size))
        replace VP0 := Aside0.mk (Kd.V_below VP0.out hb)
        replace VP1 := Aside0.mk (Kd.V_below VP1.out hb)
        replace RS := Aside0.mk (RS.out.below hb)
        replace P3 := Aside0.mk (BoxN.below P3.out hb P3.out.lt)
        replace BT := Aside0.mk (BoxN.below BT.out hb BT.out.lt)
        replace HQ := Aside0.mk (Kd.R_below HQ.out hb)
        replace B9 := Aside0.mk (BoxN.below B9.out hb B9.out.lt)
        clear hb
        (try clear s0 s1 s2 s3 s4 s5)
        have s0 := BT.out.cell 0 rfl
        have s1 := BT.out.cell 1 rfl
        have s2 := BT.out.cell 2 rfl
        have s3 := BT.out.cell 3 rfl
        have s4 := RS.out.box.cell (2 * j) hv0
        have s5 := RS.out.box.cell (2 * j + 1) hv1
        refine hK.out _ _ ⟨s0, s1, s2, s3, s4, s5⟩ (fun hHeld => ?_)
        clear hK K
        refine norm_ (a' := ?_) ?_ ?_
        rotate_left
        ·
         refine (put_list _ _ 81 _).trans ?_
         dsimp only [List.set_cons_zero, List.set_cons_succ]
         (try rfl)
        refine one_ (i := 16) (N := some 84) qf9b71 rfl rfl (one_of HT_.out (by kernel_rfl)) (by decide) (fun K hK => ?_)
        refine call_ dof #[.agg #[.slice A p.1.length c, .slice B p.2.1.length d], .int .i64 f, .int .i64 sm, .int .i64 n] (by rfl) rfl ?_ ?_
        ·
         unfold execOp
         simp [resolve, Deferred.ofValue, invoke, Act.eval, hent, hent2]
        (with_reducible refine (hdo A c p.1 B d p.2.1 f sm n r1 r2 e3 _ (Kd.V_reads' VP0.out).2.2 (Kd.V_reads' VP0.out).2.1 (Kd.V_reads' VP1.out).2.2 (Kd.V_reads' VP1.out).2.1 hD.out).mono ?_)
        rintro e wn ⟨va, vb, rfl, hva, hvb, hb⟩
        refine ⟨_, rfl, ?_⟩
        have VA := Aside0.mk (Kd.V_lower (Kd.V_mono (ok' := fun k => (k ≠ H ∧ k ≠ H + 1 + 1 + 1 ∧ w.heap.size ≤ k) ∧ k ≠ g9) hva (fun k hk => ⟨⟨by have := RS.out.box.lt; omega, by have := P3.out.lt; omega, Nat.le_trans HB.out.size hk⟩, by have := B9.out.lt; omega⟩)) (Nat.zero_le _))
        have VB := Aside0.mk (Kd.V_lower (Kd.V_mono (ok' := fun k => (k ≠ H ∧ k ≠ H + 1 + 1 + 1 ∧ w.heap.size ≤ k) ∧ k ≠ g9) hvb (fun k hk => ⟨⟨by have := RS.out.box.lt; omega, by have := P3.out.lt; omega, Nat.le_trans HB.out.size hk⟩, by have := B9.out.lt; omega⟩)) (Nat.zero_le _))
        clear hva hvb
        obtain ⟨Aa, ca, rfl⟩ := Kd.V_slice VA.out
        obtain ⟨Ab, cb, rfl⟩ := Kd.V_slice VB.out
        replace HB := Aside0.mk (HB.out.trans (hb.mono HB.out.size))
        replace VP0 := Aside0.mk (Kd.V_below VP0.out hb)
        replace VP1 := Aside0.mk (Kd.V_below VP1.out hb)
        replace RS := Aside0.mk (RS.out.below hb)
        replace P3 := Aside0.mk (BoxN.below P3.out hb P3.out.lt)
        replace BT := Aside0.mk (BoxN.below BT.out hb BT.out.lt)
        replace HQ := Aside0.mk (Kd.R_below HQ.out hb)
        replace B9 := Aside0.mk (BoxN.below B9.out hb B9.out.lt)
        clear hb
        (try clear s0 s1 s2 s3 s4 s5)
        have s0 := BT.out.cell 0 rfl
        have s1 := BT.out.cell 1 rfl
        have s2 := BT.out.cell 2 rfl
        have s3 := BT.out.cell 3 rfl
        have s4 := RS.out.box.cell (2 * j) hv0
        have s5 := RS.out.box.cell (2 * j + 1) hv1
        refine hK.out _ _ ⟨s0, s1, s2, s3, s4, s5⟩ (fun hHeld => ?_)
        clear hK K
        refine norm_ (a' := ?_) ?_ ?_
        rotate_left
        ·
         refine (put_list _ _ 84 _).trans ?_
         dsimp only [List.set_cons_zero, List.set_cons_succ]
         (try rfl)
        refine pure_ (i := 17) (N := some 67) (v := ?_) (a' := ?_) qf9b72 rfl rfl (any_of HT_.out (by kernel_rfl)) (fun _ _ _ h => h) (Or.inl ⟨by rfl, ?_⟩) ?_ ?_
        rotate_left
        ·
         intro w'
         go_simp
         with_reducible rfl
        rotate_left
        ·
         refine (put_list _ _ _ _).trans ?_
         dsimp only [List.set_cons_zero, List.set_cons_succ]
         rfl
        refine pure_ (i := 18) (N := some 85) (v := ?_) (a' := ?_) qf9b73 rfl rfl (any_of HT_.out (by kernel_rfl)) (fun _ _ _ h => h) (Or.inl ⟨by rfl, ?_⟩) ?_ ?_
        rotate_left
        ·
         intro w'
         go_simp
         with_reducible rfl
        rotate_left
        ·
         refine (put_list _ _ _ _).trans ?_
         dsimp only [List.set_cons_zero, List.set_cons_succ]
         rfl
        refine pure_ (i := 19) (N := some 86) (v := ?_) (a' := ?_) qf9b70 rfl rfl (any_of HT_.out (by kernel_rfl)) (fun _ _ _ h => h) (Or.inl ⟨by rfl, ?_⟩) ?_ ?_
        rotate_left
        ·
         intro w'
         go_simp
         with_reducible rfl
        rotate_left
        ·
         refine (put_list _ _ _ _).trans ?_
         dsimp only [List.set_cons_zero, List.set_cons_succ]
         rfl
        exact tail7 g9 Aq cq Aa ca Ab cb wn ⟨h9T⟩ ⟨h93⟩ RS VA VB P3 BT HB B9
      ·
       refine Kd.R_lit_step (Kd.int .i64) _ 2 ?hg (N := 80) ?hd (xs := ([f, l] : List Int)) (inner := [.int .i64 f, .int .i64 l]) (ok := fun _ => True) (okp := fun _ => True) ?hr ?hp (fun _ hk => hk) trivial (Below.refl _ _) (Nat.le_refl _) (by simp) ?_; (case hd => rfl); (case hg => rfl); (case hr => first | (go_simp; done) | (go_simp; rfl)); (case hp => exact ((Reps.none _ _ |>.snoc (show Kd.M (Kd.int .i64) _ _ _ f [.int .i64 f] from rfl) rfl).snoc (show Kd.M (Kd.int .i64) _ _ _ l [.int .i64 l] from rfl) rfl))
       intro vq wq hoq hb hg_ hnew_
       clear hg_ hnew_
       replace HB := Aside0.mk (HB.out.trans (hb.mono HB.out.size))
       replace VP0 := Aside0.mk (Kd.V_below VP0.out hb)
       replace VP1 := Aside0.mk (Kd.V_below VP1.out hb)
       replace RS := Aside0.mk (RS.out.below hb)
       replace P3 := Aside0.mk (BoxN.below P3.out hb P3.out.lt)
       replace BT := Aside0.mk (BoxN.below BT.out hb BT.out.lt)
       clear hb
       (try clear s0 s1 s2 s3 s4 s5)
       have s0 := BT.out.cell 0 rfl
       have s1 := BT.out.cell 1 rfl
       have s2 := BT.out.cell 2 rfl
       have s3 := BT.out.cell 3 rfl
       have s4 := RS.out.box.cell (2 * j) hv0
       have s5 := RS.out.box.cell (2 * j + 1) hv1
       have HQ := Aside0.mk hoq
       clear hoq
       obtain ⟨Aq, cq, rfl⟩ := Kd.R_slice HQ.out
       refine hK.out _ _ ⟨s0, s1, s2, s3, s4, s5⟩ (fun hHeld => ?_)
       clear hK K
       refine norm_ (a' := ?_) ?_ ?_
       rotate_left
       ·
        refine (put_list _ _ 80 _).trans ?_
        dsimp only [List.set_cons_zero, List.set_cons_succ]
        (try rfl)
       refine two_ (i := 3) (j := 20) (Ni := some 71) (Nj := some 13) qf9b74 qf9b75 rfl rfl rfl rfl (two_of HT_.out (by kernel_rfl)) (by decide) (by decide) (fun K hK => ?_) (fun K hK => ?_)
       ·
        refine call_ g #[.pointer (some ⟨H, 0, none⟩)] (by rfl) rfl ?_ ?_
        ·
         unfold execOp
         simp [resolve, Deferred.ofValue, invoke, Act.eval, hent, hent2]
        (with_reducible refine (hg.out H _).mono ?_)
        rintro e wn ⟨rfl, rfl⟩
        refine ⟨_, rfl, ?_⟩
        refine hK.out _ _ ⟨s0, s1, s2, s3, s4, s5⟩ (fun hHeld => ?_)
        clear hK K
        refine norm_ (a' := ?_) ?_ ?_
        rotate_left
        ·
         refine (put_list _ _ 71 _).trans ?_
         dsimp only [List.set_cons_zero, List.set_cons_succ]
         (try rfl)
        refine pure_ (i := 4) (N := some 72) (v := ?_) (a' := ?_) qf9b76 rfl rfl (any_of HT_.out (by kernel_rfl)) (fun _ _ _ h => h) (Or.inl ⟨by rfl, ?_⟩) ?_ ?_
        rotate_left
        ·
         intro w'
         go_simp
         with_reducible rfl
        rotate_left
        ·
         refine (put_list _ _ _ _).trans ?_
         dsimp only [List.set_cons_zero, List.set_cons_succ]
         rfl
        refine take_ (i := 5) (N := some 73) (v := ?_) (a' := ?_) qf9b61 rfl rfl (take_ofW HT_.out HW_.out (by kernel_rfl)) (fun _ _ _ h => h) (Or.inl ⟨by rfl, ?_⟩) hHeld ?_ ?_
        rotate_left
        ·
         rintro w' ⟨s0, s1, s2, s3, s4, s5⟩
         go_simp
         with_reducible rfl
        rotate_left
        ·
         refine (put_list _ _ _ _).trans ?_
         dsimp only [List.set_cons_zero, List.set_cons_succ]
         rfl
        refine two_ (i := 13) (j := 20) (Ni := some 81) (Nj := some 13) qf9b63 qf9b64 rfl rfl rfl rfl (two_of HT_.out (by kernel_rfl)) (by decide) (by decide) (fun K hK => ?_) (fun K hK => ?_)
        ·
         refine goes_ Try.func42 (by kernel_rfl) rfl #[.slice Aq ([f, l] : List Int).length cq] (by rfl) rfl rfl (by (try simp only [List.map_toArray, List.map_cons, List.map_nil]); first | done | rfl) ?_
         (with_reducible refine (sat_Add.calls Aq cq [f, l] _ _ (Kd.R_reads' HQ.out).2.2 (Kd.R_reads' HQ.out).2.1 hsA.out).mono ?_)
         rintro e wn ⟨rfl, hd⟩
         refine ⟨_, rfl, ?_⟩
         have hb := each_drawn hd
         clear hd
         replace HB := Aside0.mk (HB.out.trans (hb.mono HB.out.size))
         replace VP0 := Aside0.mk (Kd.V_below VP0.out hb)
         replace VP1 := Aside0.mk (Kd.V_below VP1.out hb)
         replace RS := Aside0.mk (RS.out.below hb)
         replace P3 := Aside0.mk (BoxN.below P3.out hb P3.out.lt)
         replace BT := Aside0.mk (BoxN.below BT.out hb BT.out.lt)
         replace HQ := Aside0.mk (Kd.R_below HQ.out hb)
         clear hb
         (try clear s0 s1 s2 s3 s4 s5)
         have s0 := BT.out.cell 0 rfl
         have s1 := BT.out.cell 1 rfl
         have s2 := BT.out.cell 2 rfl
         have s3 := BT.out.cell 3 rfl
         have s4 := RS.out.box.cell (2 * j) hv0
         have s5 := RS.out.box.cell (2 * j + 1) hv1
         refine hK.out _ _ ⟨s0, s1, s2, s3, s4, s5⟩ (fun hHeld => ?_)
         clear hK K
         refine norm_ (a' := ?_) ?_ ?_
         rotate_left
         ·
          refine (put_list _ _ 81 _).trans ?_
          dsimp only [List.set_cons_zero, List.set_cons_succ]
          (try rfl)
         refine two_ (i := 16) (j := 20) (Ni := some 84) (Nj := some 13) qf9b65 qf9b66 rfl rfl rfl rfl (two_of HT_.out (by kernel_rfl)) (by decide) (by decide) (fun K hK => ?_) (fun K hK => ?_)
         ·
          refine call_ dof #[.agg #[.slice A p.1.length c, .slice B p.2.1.length d], .int .i64 f, .int .i64 sm, .int .i64 n] (by rfl) rfl ?_ ?_
          ·
           unfold execOp
           simp [resolve, Deferred.ofValue, invoke, Act.eval, hent, hent2]
          (with_reducible refine (hdo A c p.1 B d p.2.1 f sm n r1 r2 e3 _ (Kd.V_reads' VP0.out).2.2 (Kd.V_reads' VP0.out).2.1 (Kd.V_reads' VP1.out).2.2 (Kd.V_reads' VP1.out).2.1 hD.out).mono ?_)
          rintro e wn ⟨va, vb, rfl, hva, hvb, hb⟩
          refine ⟨_, rfl, ?_⟩
          have VA := Aside0.mk (Kd.V_lower (Kd.V_mono (ok' := fun k => k ≠ H ∧ k ≠ H + 1 + 1 + 1 ∧ w.heap.size ≤ k) hva (fun k hk => ⟨by have := RS.out.box.lt; omega, by have := P3.out.lt; omega, Nat.le_trans HB.out.size hk⟩)) (Nat.zero_le _))
          have VB := Aside0.mk (Kd.V_lower (Kd.V_mono (ok' := fun k => k ≠ H ∧ k ≠ H + 1 + 1 + 1 ∧ w.heap.size ≤ k) hvb (fun k hk => ⟨by have := RS.out.box.lt; omega, by have := P3.out.lt; omega, Nat.le_trans HB.out.size hk⟩)) (Nat.zero_le _))
          clear hva hvb
          obtain ⟨Aa, ca, rfl⟩ := Kd.V_slice VA.out
          obtain ⟨Ab, cb, rfl⟩ := Kd.V_slice VB.out
          replace HB := Aside0.mk (HB.out.trans (hb.mono HB.out.size))
          replace VP0 := Aside0.mk (Kd.V_below VP0.out hb)
          replace VP1 := Aside0.mk (Kd.V_below VP1.out hb)
          replace RS := Aside0.mk (RS.out.below hb)
          replace P3 := Aside0.mk (BoxN.below P3.out hb P3.out.lt)
          replace BT := Aside0.mk (BoxN.below BT.out hb BT.out.lt)
          replace HQ := Aside0.mk (Kd.R_below HQ.out hb)
          clear hb
          (try clear s0 s1 s2 s3 s4 s5)
          have s0 := BT.out.cell 0 rfl
          have s1 := BT.out.cell 1 rfl
          have s2 := BT.out.cell 2 rfl
          have s3 := BT.out.cell 3 rfl
          have s4 := RS.out.box.cell (2 * j) hv0
          have s5 := RS.out.box.cell (2 * j + 1) hv1
          refine hK.out _ _ ⟨s0, s1, s2, s3, s4, s5⟩ (fun hHeld => ?_)
          clear hK K
          refine norm_ (a' := ?_) ?_ ?_
          rotate_left
          ·
           refine (put_list _ _ 84 _).trans ?_
           dsimp only [List.set_cons_zero, List.set_cons_succ]
           (try rfl)
          refine pure_ (i := 17) (N := some 67) (v := ?_) (a' := ?_) qf9b67 rfl rfl (any_of HT_.out (by kernel_rfl)) (fun _ _ _ h => h) (Or.inl ⟨by rfl, ?_⟩) ?_ ?_
          rotate_left
          ·
           intro w'
           go_simp
           with_reducible rfl
          rotate_left
          ·
           refine (put_list _ _ _ _).trans ?_
           dsimp only [List.set_cons_zero, List.set_cons_succ]
           rfl
          refine pure_ (i := 18) (N := some 85) (v := ?_) (a' := ?_) qf9b68 rfl rfl (any_of HT_.out (by kernel_rfl)) (fun _ _ _ h => h) (Or.inl ⟨by rfl, ?_⟩) ?_ ?_
          rotate_left
          ·
           intro w'
           go_simp
           with_reducible rfl
          rotate_left
          ·
           refine (put_list _ _ _ _).trans ?_
           dsimp only [List.set_cons_zero, List.set_cons_succ]
           rfl
          refine pure_ (i := 19) (N := some 86) (v := ?_) (a' := ?_) qf9b69 rfl rfl (any_of HT_.out (by kernel_rfl)) (fun _ _ _ h => h) (Or.inl ⟨by rfl, ?_⟩) ?_ ?_
          rotate_left
          ·
           intro w'
           go_simp
           with_reducible rfl
          rotate_left
          ·
           refine (put_list _ _ _ _).trans ?_
           dsimp only [List.set_cons_zero, List.set_cons_succ]
           rfl
          refine one_ (i := 20) (N := some 13) qf9b70 rfl rfl (one_of HT_.out (by kernel_rfl)) (by decide) (fun K hK => ?_)
          refine box_step ?hg (N := 13) ?hd (cs := #[.slice none 0 0, .slice none 0 0]) (t := 24) ?hr ?_; (case hd => rfl); (case hg => rfl); (case hr => first | (go_simp; done) | (go_simp; rfl))
          intro g9 hg9 wq hbx hb
          have h9T : T < g9 := hg9 ▸ BT.out.lt
          have h93 : H + 1 + 1 + 1 < g9 := hg9 ▸ P3.out.lt
          replace RS := Aside0.mk (RS.out.elder g9 (Nat.le_of_eq hg9.symm))
          replace VA := Aside0.mk (Kd.V_elderB VA.out g9 (Nat.le_of_eq hg9.symm))
          replace VB := Aside0.mk (Kd.V_elderB VB.out g9 (Nat.le_of_eq hg9.symm))
          replace HB := Aside0.mk (HB.out.trans (hb.mono HB.out.size))
          replace VP0 := Aside0.mk (Kd.V_below VP0.out hb)
          replace VP1 := Aside0.mk (Kd.V_below VP1.out hb)
          replace RS := Aside0.mk (RS.out.below hb)
          replace P3 := Aside0.mk (BoxN.below P3.out hb P3.out.lt)
          replace BT := Aside0.mk (BoxN.below BT.out hb BT.out.lt)
          replace HQ := Aside0.mk (Kd.R_below HQ.out hb)
          replace VA := Aside0.mk (Kd.V_below VA.out hb)
          replace VB := Aside0.mk (Kd.V_below VB.out hb)
          clear hb
          (try clear s0 s1 s2 s3 s4 s5)
          have s0 := BT.out.cell 0 rfl
          have s1 := BT.out.cell 1 rfl
          have s2 := BT.out.cell 2 rfl
          have s3 := BT.out.cell 3 rfl
          have s4 := RS.out.box.cell (2 * j) hv0
          have s5 := RS.out.box.cell (2 * j + 1) hv1
          have B9 := Aside0.mk (show BoxN wq g9 24 [.slice none 0 0, .slice none 0 0] from hbx)
          clear hbx hg9
          refine hK.out _ _ ⟨s0, s1, s2, s3, s4, s5⟩ (fun hHeld => ?_)
          clear hK K
          refine norm_ (a' := ?_) ?_ ?_
          rotate_left
          ·
           refine (put_list _ _ 13 _).trans ?_
           dsimp only [List.set_cons_zero, List.set_cons_succ]
           (try rfl)
          exact tail7 g9 Aq cq Aa ca Ab cb wq ⟨h9T⟩ ⟨h93⟩ RS VA VB P3 BT HB B9
         ·
          refine box_step ?hg (N := 13) ?hd (cs := #[.slice none 0 0, .slice none 0 0]) (t := 24) ?hr ?_; (case hd => rfl); (case hg => rfl); (case hr => first | (go_simp; done) | (go_simp; rfl))
          intro g9 hg9 wq hbx hb
          have h9T : T < g9 := hg9 ▸ BT.out.lt
          have h93 : H + 1 + 1 + 1 < g9 := hg9 ▸ P3.out.lt
          replace RS := Aside0.mk (RS.out.elder g9 (Nat.le_of_eq hg9.symm))
          replace HB := Aside0.mk (HB.out.trans (hb.mono HB.out.size))
          replace VP0 := Aside0.mk (Kd.V_below VP0.out hb)
          replace VP1 := Aside0.mk (Kd.V_below VP1.out hb)
          replace RS := Aside0.mk (RS.out.below hb)
          replace P3 := Aside0.mk (BoxN.below P3.out hb P3.out.lt)
          replace BT := Aside0.mk (BoxN.below BT.out hb BT.out.lt)
          replace HQ := Aside0.mk (Kd.R_below HQ.out hb)
          clear hb
          (try clear s0 s1 s2 s3 s4 s5)
          have s0 := BT.out.cell 0 rfl
          have s1 := BT.out.cell 1 rfl
          have s2 := BT.out.cell 2 rfl
          have s3 := BT.out.cell 3 rfl
          have s4 := RS.out.box.cell (2 * j) hv0
          have s5 := RS.out.box.cell (2 * j + 1) hv1
          have B9 := Aside0.mk (show BoxN wq g9 24 [.slice none 0 0, .slice none 0 0] from hbx)
          clear hbx hg9
          refine hK.out _ _ ⟨s0, s1, s2, s3, s4, s5⟩ (fun hHeld => ?_)
          clear hK K
          refine norm_ (a' := ?_) ?_ ?_
          rotate_left
          ·
           refine (put_list _ _ 13 _).trans ?_
           dsimp only [List.set_cons_zero, List.set_cons_succ]
           (try rfl)
          refine one_ (i := 16) (N := some 84) qf9b71 rfl rfl (one_of HT_.out (by kernel_rfl)) (by decide) (fun K hK => ?_)
          refine call_ dof #[.agg #[.slice A p.1.length c, .slice B p.2.1.length d], .int .i64 f, .int .i64 sm, .int .i64 n] (by rfl) rfl ?_ ?_
          ·
           unfold execOp
           simp [resolve, Deferred.ofValue, invoke, Act.eval, hent, hent2]
          (with_reducible refine (hdo A c p.1 B d p.2.1 f sm n r1 r2 e3 _ (Kd.V_reads' VP0.out).2.2 (Kd.V_reads' VP0.out).2.1 (Kd.V_reads' VP1.out).2.2 (Kd.V_reads' VP1.out).2.1 hD.out).mono ?_)
          rintro e wn ⟨va, vb, rfl, hva, hvb, hb⟩
          refine ⟨_, rfl, ?_⟩
          have VA := Aside0.mk (Kd.V_lower (Kd.V_mono (ok' := fun k => (k ≠ H ∧ k ≠ H + 1 + 1 + 1 ∧ w.heap.size ≤ k) ∧ k ≠ g9) hva (fun k hk => ⟨⟨by have := RS.out.box.lt; omega, by have := P3.out.lt; omega, Nat.le_trans HB.out.size hk⟩, by have := B9.out.lt; omega⟩)) (Nat.zero_le _))
          have VB := Aside0.mk (Kd.V_lower (Kd.V_mono (ok' := fun k => (k ≠ H ∧ k ≠ H + 1 + 1 + 1 ∧ w.heap.size ≤ k) ∧ k ≠ g9) hvb (fun k hk => ⟨⟨by have := RS.out.box.lt; omega, by have := P3.out.lt; omega, Nat.le_trans HB.out.size hk⟩, by have := B9.out.lt; omega⟩)) (Nat.zero_le _))
          clear hva hvb
          obtain ⟨Aa, ca, rfl⟩ := Kd.V_slice VA.out
          obtain ⟨Ab, cb, rfl⟩ := Kd.V_slice VB.out
          replace HB := Aside0.mk (HB.out.trans (hb.mono HB.out.size))
          replace VP0 := Aside0.mk (Kd.V_below VP0.out hb)
          replace VP1 := Aside0.mk (Kd.V_below VP1.out hb)
          replace RS := Aside0.mk (RS.out.below hb)
          replace P3 := Aside0.mk (BoxN.below P3.out hb P3.out.lt)
          replace BT := Aside0.mk (BoxN.below BT.out hb BT.out.lt)
          replace HQ := Aside0.mk (Kd.R_below HQ.out hb)
          replace B9 := Aside0.mk (BoxN.below B9.out hb B9.out.lt)
          clear hb
          (try clear s0 s1 s2 s3 s4 s5)
          have s0 := BT.out.cell 0 rfl
          have s1 := BT.out.cell 1 rfl
          have s2 := BT.out.cell 2 rfl
          have s3 := BT.out.cell 3 rfl
          have s4 := RS.out.box.cell (2 * j) hv0
          have s5 := RS.out.box.cell (2 * j + 1) hv1
          refine hK.out _ _ ⟨s0, s1, s2, s3, s4, s5⟩ (fun hHeld => ?_)
          clear hK K
          refine norm_ (a' := ?_) ?_ ?_
          rotate_left
          ·
           refine (put_list _ _ 84 _).trans ?_
           dsimp only [List.set_cons_zero, List.set_cons_succ]
           (try rfl)
          refine pure_ (i := 17) (N := some 67) (v := ?_) (a' := ?_) qf9b72 rfl rfl (any_of HT_.out (by kernel_rfl)) (fun _ _ _ h => h) (Or.inl ⟨by rfl, ?_⟩) ?_ ?_
          rotate_left
          ·
           intro w'
           go_simp
           with_reducible rfl
          rotate_left
          ·
           refine (put_list _ _ _ _).trans ?_
           dsimp only [List.set_cons_zero, List.set_cons_succ]
           rfl
          refine pure_ (i := 18) (N := some 85) (v := ?_) (a' := ?_) qf9b73 rfl rfl (any_of HT_.out (by kernel_rfl)) (fun _ _ _ h => h) (Or.inl ⟨by rfl, ?_⟩) ?_ ?_
          rotate_left
          ·
           intro w'
           go_simp
           with_reducible rfl
          rotate_left
          ·
           refine (put_list _ _ _ _).trans ?_
           dsimp only [List.set_cons_zero, List.set_cons_succ]
           rfl
          refine pure_ (i := 19) (N := some 86) (v := ?_) (a' := ?_) qf9b70 rfl rfl (any_of HT_.out (by kernel_rfl)) (fun _ _ _ h => h) (Or.inl ⟨by rfl, ?_⟩) ?_ ?_
          rotate_left
          ·
           intro w'
           go_simp
           with_reducible rfl
          rotate_left
          ·
           refine (put_list _ _ _ _).trans ?_
           dsimp only [List.set_cons_zero, List.set_cons_succ]
           rfl
          exact tail7 g9 Aq cq Aa ca Ab cb wn ⟨h9T⟩ ⟨h93⟩ RS VA VB P3 BT HB B9
        ·
         refine box_step ?hg (N := 13) ?hd (cs := #[.slice none 0 0, .slice none 0 0]) (t := 24) ?hr ?_; (case hd => rfl); (case hg => rfl); (case hr => first | (go_simp; done) | (go_simp; rfl))
         intro g9 hg9 wq hbx hb
         have h9T : T < g9 := hg9 ▸ BT.out.lt
         have h93 : H + 1 + 1 + 1 < g9 := hg9 ▸ P3.out.lt
         replace RS := Aside0.mk (RS.out.elder g9 (Nat.le_of_eq hg9.symm))
         replace HB := Aside0.mk (HB.out.trans (hb.mono HB.out.size))
         replace VP0 := Aside0.mk (Kd.V_below VP0.out hb)
         replace VP1 := Aside0.mk (Kd.V_below VP1.out hb)
         replace RS := Aside0.mk (RS.out.below hb)
         replace P3 := Aside0.mk (BoxN.below P3.out hb P3.out.lt)
         replace BT := Aside0.mk (BoxN.below BT.out hb BT.out.lt)
         replace HQ := Aside0.mk (Kd.R_below HQ.out hb)
         clear hb
         (try clear s0 s1 s2 s3 s4 s5)
         have s0 := BT.out.cell 0 rfl
         have s1 := BT.out.cell 1 rfl
         have s2 := BT.out.cell 2 rfl
         have s3 := BT.out.cell 3 rfl
         have s4 := RS.out.box.cell (2 * j) hv0
         have s5 := RS.out.box.cell (2 * j + 1) hv1
         have B9 := Aside0.mk (show BoxN wq g9 24 [.slice none 0 0, .slice none 0 0] from hbx)
         clear hbx hg9
         refine hK.out _ _ ⟨s0, s1, s2, s3, s4, s5⟩ (fun hHeld => ?_)
         clear hK K
         refine norm_ (a' := ?_) ?_ ?_
         rotate_left
         ·
          refine (put_list _ _ 13 _).trans ?_
          dsimp only [List.set_cons_zero, List.set_cons_succ]
          (try rfl)
         refine one_ (i := 13) (N := some 81) qf9b66 rfl rfl (one_of HT_.out (by kernel_rfl)) (by decide) (fun K hK => ?_)
         refine goes_ Try.func42 (by kernel_rfl) rfl #[.slice Aq ([f, l] : List Int).length cq] (by rfl) rfl rfl (by (try simp only [List.map_toArray, List.map_cons, List.map_nil]); first | done | rfl) ?_
         (with_reducible refine (sat_Add.calls Aq cq [f, l] _ _ (Kd.R_reads' HQ.out).2.2 (Kd.R_reads' HQ.out).2.1 hsA.out).mono ?_)
         rintro e wn ⟨rfl, hd⟩
         refine ⟨_, rfl, ?_⟩
         have hb := each_drawn hd
         clear hd
         replace HB := Aside0.mk (HB.out.trans (hb.mono HB.out.size))
         replace VP0 := Aside0.mk (Kd.V_below VP0.out hb)
         replace VP1 := Aside0.mk (Kd.V_below VP1.out hb)
         replace RS := Aside0.mk (RS.out.below hb)
         replace P3 := Aside0.mk (BoxN.below P3.out hb P3.out.lt)
         replace BT := Aside0.mk (BoxN.below BT.out hb BT.out.lt)
         replace HQ := Aside0.mk (Kd.R_below HQ.out hb)
         replace B9 := Aside0.mk (BoxN.below B9.out hb B9.out.lt)
         clear hb
         (try clear s0 s1 s2 s3 s4 s5)
         have s0 := BT.out.cell 0 rfl
         have s1 := BT.out.cell 1 rfl
         have s2 := BT.out.cell 2 rfl
         have s3 := BT.out.cell 3 rfl
         have s4 := RS.out.box.cell (2 * j) hv0
         have s5 := RS.out.box.cell (2 * j + 1) hv1
         refine hK.out _ _ ⟨s0, s1, s2, s3, s4, s5⟩ (fun hHeld => ?_)
         clear hK K
         refine norm_ (a' := ?_) ?_ ?_
         rotate_left
         ·
          refine (put_list _ _ 81 _).trans ?_
          dsimp only [List.set_cons_zero, List.set_cons_succ]
          (try rfl)
         refine one_ (i := 16) (N := some 84) qf9b71 rfl rfl (one_of HT_.out (by kernel_rfl)) (by decide) (fun K hK => ?_)
         refine call_ dof #[.agg #[.slice A p.1.length c, .slice B p.2.1.length d], .int .i64 f, .int .i64 sm, .int .i64 n] (by rfl) rfl ?_ ?_
         ·
          unfold execOp
          simp [resolve, Deferred.ofValue, invoke, Act.eval, hent, hent2]
         (with_reducible refine (hdo A c p.1 B d p.2.1 f sm n r1 r2 e3 _ (Kd.V_reads' VP0.out).2.2 (Kd.V_reads' VP0.out).2.1 (Kd.V_reads' VP1.out).2.2 (Kd.V_reads' VP1.out).2.1 hD.out).mono ?_)
         rintro e wn ⟨va, vb, rfl, hva, hvb, hb⟩
         refine ⟨_, rfl, ?_⟩
         have VA := Aside0.mk (Kd.V_lower (Kd.V_mono (ok' := fun k => (k ≠ H ∧ k ≠ H + 1 + 1 + 1 ∧ w.heap.size ≤ k) ∧ k ≠ g9) hva (fun k hk => ⟨⟨by have := RS.out.box.lt; omega, by have := P3.out.lt; omega, Nat.le_trans HB.out.size hk⟩, by have := B9.out.lt; omega⟩)) (Nat.zero_le _))
         have VB := Aside0.mk (Kd.V_lower (Kd.V_mono (ok' := fun k => (k ≠ H ∧ k ≠ H + 1 + 1 + 1 ∧ w.heap.size ≤ k) ∧ k ≠ g9) hvb (fun k hk => ⟨⟨by have := RS.out.box.lt; omega, by have := P3.out.lt; omega, Nat.le_trans HB.out.size hk⟩, by have := B9.out.lt; omega⟩)) (Nat.zero_le _))
         clear hva hvb
         obtain ⟨Aa, ca, rfl⟩ := Kd.V_slice VA.out
         obtain ⟨Ab, cb, rfl⟩ := Kd.V_slice VB.out
         replace HB := Aside0.mk (HB.out.trans (hb.mono HB.out.size))
         replace VP0 := Aside0.mk (Kd.V_below VP0.out hb)
         replace VP1 := Aside0.mk (Kd.V_below VP1.out hb)
         replace RS := Aside0.mk (RS.out.below hb)
         replace P3 := Aside0.mk (BoxN.below P3.out hb P3.out.lt)
         replace BT := Aside0.mk (BoxN.below BT.out hb BT.out.lt)
         replace HQ := Aside0.mk (Kd.R_below HQ.out hb)
         replace B9 := Aside0.mk (BoxN.below B9.out hb B9.out.lt)
         clear hb
         (try clear s0 s1 s2 s3 s4 s5)
         have s0 := BT.out.cell 0 rfl
         have s1 := BT.out.cell 1 rfl
         have s2 := BT.out.cell 2 rfl
         have s3 := BT.out.cell 3 rfl
         have s4 := RS.out.box.cell (2 * j) hv0
         have s5 := RS.out.box.cell (2 * j + 1) hv1
         refine hK.out _ _ ⟨s0, s1, s2, s3, s4, s5⟩ (fun hHeld => ?_)
         clear hK K
         refine norm_ (a' := ?_) ?_ ?_
         rotate_left
         ·
          refine (put_list _ _ 84 _).trans ?_
          dsimp only [List.set_cons_zero, List.set_cons_succ]
          (try rfl)
         refine pure_ (i := 17) (N := some 67) (v := ?_) (a' := ?_) qf9b72 rfl rfl (any_of HT_.out (by kernel_rfl)) (fun _ _ _ h => h) (Or.inl ⟨by rfl, ?_⟩) ?_ ?_
         rotate_left
         ·
          intro w'
          go_simp
          with_reducible rfl
         rotate_left
         ·
          refine (put_list _ _ _ _).trans ?_
          dsimp only [List.set_cons_zero, List.set_cons_succ]
          rfl
         refine pure_ (i := 18) (N := some 85) (v := ?_) (a' := ?_) qf9b73 rfl rfl (any_of HT_.out (by kernel_rfl)) (fun _ _ _ h => h) (Or.inl ⟨by rfl, ?_⟩) ?_ ?_
         rotate_left
         ·
          intro w'
          go_simp
          with_reducible rfl
         rotate_left
         ·
          refine (put_list _ _ _ _).trans ?_
          dsimp only [List.set_cons_zero, List.set_cons_succ]
          rfl
         refine pure_ (i := 19) (N := some 86) (v := ?_) (a' := ?_) qf9b70 rfl rfl (any_of HT_.out (by kernel_rfl)) (fun _ _ _ h => h) (Or.inl ⟨by rfl, ?_⟩) ?_ ?_
         rotate_left
         ·
          intro w'
          go_simp
          with_reducible rfl
         rotate_left
         ·
          refine (put_list _ _ _ _).trans ?_
          dsimp only [List.set_cons_zero, List.set_cons_succ]
          rfl
         exact tail7 g9 Aq cq Aa ca Ab cb wn ⟨h9T⟩ ⟨h93⟩ RS VA VB P3 BT HB B9
       ·
        refine box_step ?hg (N := 13) ?hd (cs := #[.slice none 0 0, .slice none 0 0]) (t := 24) ?hr ?_; (case hd => rfl); (case hg => rfl); (case hr => first | (go_simp; done) | (go_simp; rfl))
        intro g9 hg9 wq hbx hb
        have h9T : T < g9 := hg9 ▸ BT.out.lt
        have h93 : H + 1 + 1 + 1 < g9 := hg9 ▸ P3.out.lt
        replace RS := Aside0.mk (RS.out.elder g9 (Nat.le_of_eq hg9.symm))
        replace HB := Aside0.mk (HB.out.trans (hb.mono HB.out.size))
        replace VP0 := Aside0.mk (Kd.V_below VP0.out hb)
        replace VP1 := Aside0.mk (Kd.V_below VP1.out hb)
        replace RS := Aside0.mk (RS.out.below hb)
        replace P3 := Aside0.mk (BoxN.below P3.out hb P3.out.lt)
        replace BT := Aside0.mk (BoxN.below BT.out hb BT.out.lt)
        replace HQ := Aside0.mk (Kd.R_below HQ.out hb)
        clear hb
        (try clear s0 s1 s2 s3 s4 s5)
        have s0 := BT.out.cell 0 rfl
        have s1 := BT.out.cell 1 rfl
        have s2 := BT.out.cell 2 rfl
        have s3 := BT.out.cell 3 rfl
        have s4 := RS.out.box.cell (2 * j) hv0
        have s5 := RS.out.box.cell (2 * j + 1) hv1
        have B9 := Aside0.mk (show BoxN wq g9 24 [.slice none 0 0, .slice none 0 0] from hbx)
        clear hbx hg9
        refine hK.out _ _ ⟨s0, s1, s2, s3, s4, s5⟩ (fun hHeld => ?_)
        clear hK K
        refine norm_ (a' := ?_) ?_ ?_
        rotate_left
        ·
         refine (put_list _ _ 13 _).trans ?_
         dsimp only [List.set_cons_zero, List.set_cons_succ]
         (try rfl)
        refine one_ (i := 3) (N := some 71) qf9b77 rfl rfl (one_of HT_.out (by kernel_rfl)) (by decide) (fun K hK => ?_)
        refine call_ g #[.pointer (some ⟨H, 0, none⟩)] (by rfl) rfl ?_ ?_
        ·
         unfold execOp
         simp [resolve, Deferred.ofValue, invoke, Act.eval, hent, hent2]
        (with_reducible refine (hg.out H _).mono ?_)
        rintro e wn ⟨rfl, rfl⟩
        refine ⟨_, rfl, ?_⟩
        refine hK.out _ _ ⟨s0, s1, s2, s3, s4, s5⟩ (fun hHeld => ?_)
        clear hK K
        refine norm_ (a' := ?_) ?_ ?_
        rotate_left
        ·
         refine (put_list _ _ 71 _).trans ?_
         dsimp only [List.set_cons_zero, List.set_cons_succ]
         (try rfl)
        refine pure_ (i := 4) (N := some 72) (v := ?_) (a' := ?_) qf9b78 rfl rfl (any_of HT_.out (by kernel_rfl)) (fun _ _ _ h => h) (Or.inl ⟨by rfl, ?_⟩) ?_ ?_
        rotate_left
        ·
         intro w'
         go_simp
         with_reducible rfl
        rotate_left
        ·
         refine (put_list _ _ _ _).trans ?_
         dsimp only [List.set_cons_zero, List.set_cons_succ]
         rfl
        refine take_ (i := 5) (N := some 73) (v := ?_) (a' := ?_) qf9b64 rfl rfl (take_ofW HT_.out HW_.out (by kernel_rfl)) (fun _ _ _ h => h) (Or.inl ⟨by rfl, ?_⟩) hHeld ?_ ?_
        rotate_left
        ·
         rintro w' ⟨s0, s1, s2, s3, s4, s5⟩
         go_simp
         with_reducible rfl
        rotate_left
        ·
         refine (put_list _ _ _ _).trans ?_
         dsimp only [List.set_cons_zero, List.set_cons_succ]
         rfl
        refine one_ (i := 13) (N := some 81) qf9b66 rfl rfl (one_of HT_.out (by kernel_rfl)) (by decide) (fun K hK => ?_)
        refine goes_ Try.func42 (by kernel_rfl) rfl #[.slice Aq ([f, l] : List Int).length cq] (by rfl) rfl rfl (by (try simp only [List.map_toArray, List.map_cons, List.map_nil]); first | done | rfl) ?_
        (with_reducible refine (sat_Add.calls Aq cq [f, l] _ _ (Kd.R_reads' HQ.out).2.2 (Kd.R_reads' HQ.out).2.1 hsA.out).mono ?_)
        rintro e wn ⟨rfl, hd⟩
        refine ⟨_, rfl, ?_⟩
        have hb := each_drawn hd
        clear hd
        replace HB := Aside0.mk (HB.out.trans (hb.mono HB.out.size))
        replace VP0 := Aside0.mk (Kd.V_below VP0.out hb)
        replace VP1 := Aside0.mk (Kd.V_below VP1.out hb)
        replace RS := Aside0.mk (RS.out.below hb)
        replace P3 := Aside0.mk (BoxN.below P3.out hb P3.out.lt)
        replace BT := Aside0.mk (BoxN.below BT.out hb BT.out.lt)
        replace HQ := Aside0.mk (Kd.R_below HQ.out hb)
        replace B9 := Aside0.mk (BoxN.below B9.out hb B9.out.lt)
        clear hb
        (try clear s0 s1 s2 s3 s4 s5)
        have s0 := BT.out.cell 0 rfl
        have s1 := BT.out.cell 1 rfl
        have s2 := BT.out.cell 2 rfl
        have s3 := BT.out.cell 3 rfl
        have s4 := RS.out.box.cell (2 * j) hv0
        have s5 := RS.out.box.cell (2 * j + 1) hv1
        refine hK.out _ _ ⟨s0, s1, s2, s3, s4, s5⟩ (fun hHeld => ?_)
        clear hK K
        refine norm_ (a' := ?_) ?_ ?_
        rotate_left
        ·
         refine (put_list _ _ 81 _).trans ?_
         dsimp only [List.set_cons_zero, List.set_cons_succ]
         (try rfl)
        refine one_ (i := 16) (N := some 84) qf9b71 rfl rfl (one_of HT_.out (by kernel_rfl)) (by decide) (fun K hK => ?_)
        refine call_ dof #[.agg #[.slice A p.1.length c, .slice B p.2.1.length d], .int .i64 f, .int .i64 sm, .int .i64 n] (by rfl) rfl ?_ ?_
        ·
         unfold execOp
         simp [resolve, Deferred.ofValue, invoke, Act.eval, hent, hent2]
        (with_reducible refine (hdo A c p.1 B d p.2.1 f sm n r1 r2 e3 _ (Kd.V_reads' VP0.out).2.2 (Kd.V_reads' VP0.out).2.1 (Kd.V_reads' VP1.out).2.2 (Kd.V_reads' VP1.out).2.1 hD.out).mono ?_)
        rintro e wn ⟨va, vb, rfl, hva, hvb, hb⟩
        refine ⟨_, rfl, ?_⟩
        have VA := Aside0.mk (Kd.V_lower (Kd.V_mono (ok' := fun k => (k ≠ H ∧ k ≠ H + 1 + 1 + 1 ∧ w.heap.size ≤ k) ∧ k ≠ g9) hva (fun k hk => ⟨⟨by have := RS.out.box.lt; omega, by have := P3.out.lt; omega, Nat.le_trans HB.out.size hk⟩, by have := B9.out.lt; omega⟩)) (Nat.zero_le _))
        have VB := Aside0.mk (Kd.V_lower (Kd.V_mono (ok' := fun k => (k ≠ H ∧ k ≠ H + 1 + 1 + 1 ∧ w.heap.size ≤ k) ∧ k ≠ g9) hvb (fun k hk => ⟨⟨by have := RS.out.box.lt; omega, by have := P3.out.lt; omega, Nat.le_trans HB.out.size hk⟩, by have := B9.out.lt; omega⟩)) (Nat.zero_le _))
        clear hva hvb
        obtain ⟨Aa, ca, rfl⟩ := Kd.V_slice VA.out
        obtain ⟨Ab, cb, rfl⟩ := Kd.V_slice VB.out
        replace HB := Aside0.mk (HB.out.trans (hb.mono HB.out.size))
        replace VP0 := Aside0.mk (Kd.V_below VP0.out hb)
        replace VP1 := Aside0.mk (Kd.V_below VP1.out hb)
        replace RS := Aside0.mk (RS.out.below hb)
        replace P3 := Aside0.mk (BoxN.below P3.out hb P3.out.lt)
        replace BT := Aside0.mk (BoxN.below BT.out hb BT.out.lt)
        replace HQ := Aside0.mk (Kd.R_below HQ.out hb)
        replace B9 := Aside0.mk (BoxN.below B9.out hb B9.out.lt)
        clear hb
        (try clear s0 s1 s2 s3 s4 s5)
        have s0 := BT.out.cell 0 rfl
        have s1 := BT.out.cell 1 rfl
        have s2 := BT.out.cell 2 rfl
        have s3 := BT.out.cell 3 rfl
        have s4 := RS.out.box.cell (2 * j) hv0
        have s5 := RS.out.box.cell (2 * j + 1) hv1
        refine hK.out _ _ ⟨s0, s1, s2, s3, s4, s5⟩ (fun hHeld => ?_)
        clear hK K
        refine norm_ (a' := ?_) ?_ ?_
        rotate_left
        ·
         refine (put_list _ _ 84 _).trans ?_
         dsimp only [List.set_cons_zero, List.set_cons_succ]
         (try rfl)
        refine pure_ (i := 17) (N := some 67) (v := ?_) (a' := ?_) qf9b72 rfl rfl (any_of HT_.out (by kernel_rfl)) (fun _ _ _ h => h) (Or.inl ⟨by rfl, ?_⟩) ?_ ?_
        rotate_left
        ·
         intro w'
         go_simp
         with_reducible rfl
        rotate_left
        ·
         refine (put_list _ _ _ _).trans ?_
         dsimp only [List.set_cons_zero, List.set_cons_succ]
         rfl
        refine pure_ (i := 18) (N := some 85) (v := ?_) (a' := ?_) qf9b73 rfl rfl (any_of HT_.out (by kernel_rfl)) (fun _ _ _ h => h) (Or.inl ⟨by rfl, ?_⟩) ?_ ?_
        rotate_left
        ·
         intro w'
         go_simp
         with_reducible rfl
        rotate_left
        ·
         refine (put_list _ _ _ _).trans ?_
         dsimp only [List.set_cons_zero, List.set_cons_succ]
         rfl
        refine pure_ (i := 19) (N := some 86) (v := ?_) (a' := ?_) qf9b70 rfl rfl (any_of HT_.out (by kernel_rfl)) (fun _ _ _ h => h) (Or.inl ⟨by rfl, ?_⟩) ?_ ?_
        rotate_left
        ·
         intro w'
         go_simp
         with_reducible rfl
        rotate_left
        ·
         refine (put_list _ _ _ _).trans ?_
         dsimp only [List.set_cons_zero, List.set_cons_succ]
         rfl
        exact tail7 g9 Aq cq Aa ca Ab cb wn ⟨h9T⟩ ⟨h93⟩ RS VA VB P3 BT HB B9
      ·
       refine box_step ?hg (N := 13) ?hd (cs := #[.slice none 0 0, .slice none 0 0]) (t := 24) ?hr ?_; (case hd => rfl); (case hg => rfl); (case hr => first | (go_simp; done) | (go_simp; rfl))
       intro g9 hg9 wq hbx hb
       have h9T : T < g9 := hg9 ▸ BT.out.lt
       have h93 : H + 1 + 1 + 1 < g9 := hg9 ▸ P3.out.lt
       replace RS := Aside0.mk (RS.out.elder g9 (Nat.le_of_eq hg9.symm))
       replace HB := Aside0.mk (HB.out.trans (hb.mono HB.out.size))
       replace VP0 := Aside0.mk (Kd.V_below VP0.out hb)
       replace VP1 := Aside0.mk (Kd.V_below VP1.out hb)
       replace RS := Aside0.mk (RS.out.below hb)
       replace P3 := Aside0.mk (BoxN.below P3.out hb P3.out.lt)
       replace BT := Aside0.mk (BoxN.below BT.out hb BT.out.lt)
       clear hb
       (try clear s0 s1 s2 s3 s4 s5)
       have s0 := BT.out.cell 0 rfl
       have s1 := BT.out.cell 1 rfl
       have s2 := BT.out.cell 2 rfl
       have s3 := BT.out.cell 3 rfl
       have s4 := RS.out.box.cell (2 * j) hv0
       have s5 := RS.out.box.cell (2 * j + 1) hv1
       have B9 := Aside0.mk (show BoxN wq g9 24 [.slice none 0 0, .slice none 0 0] from hbx)
       clear hbx hg9
       refine hK.out _ _ ⟨s0, s1, s2, s3, s4, s5⟩ (fun hHeld => ?_)
       clear hK K
       refine norm_ (a' := ?_) ?_ ?_
       rotate_left
       ·
        refine (put_list _ _ 13 _).trans ?_
        dsimp only [List.set_cons_zero, List.set_cons_succ]
        (try rfl)
       refine two_ (i := 3) (j := 12) (Ni := some 71) (Nj := some 80) qf9b79 qf9b75 rfl rfl rfl rfl (two_of HT_.out (by kernel_rfl)) (by decide) (by decide) (fun K hK => ?_) (fun K hK => ?_)
       ·
        refine call_ g #[.pointer (some ⟨H, 0, none⟩)] (by rfl) rfl ?_ ?_
        ·
         unfold execOp
         simp [resolve, Deferred.ofValue, invoke, Act.eval, hent, hent2]
        (with_reducible refine (hg.out H _).mono ?_)
        rintro e wn ⟨rfl, rfl⟩
        refine ⟨_, rfl, ?_⟩
        refine hK.out _ _ ⟨s0, s1, s2, s3, s4, s5⟩ (fun hHeld => ?_)
        clear hK K
        refine norm_ (a' := ?_) ?_ ?_
        rotate_left
        ·
         refine (put_list _ _ 71 _).trans ?_
         dsimp only [List.set_cons_zero, List.set_cons_succ]
         (try rfl)
        refine pure_ (i := 4) (N := some 72) (v := ?_) (a' := ?_) qf9b80 rfl rfl (any_of HT_.out (by kernel_rfl)) (fun _ _ _ h => h) (Or.inl ⟨by rfl, ?_⟩) ?_ ?_
        rotate_left
        ·
         intro w'
         go_simp
         with_reducible rfl
        rotate_left
        ·
         refine (put_list _ _ _ _).trans ?_
         dsimp only [List.set_cons_zero, List.set_cons_succ]
         rfl
        refine take_ (i := 5) (N := some 73) (v := ?_) (a' := ?_) qf9b62 rfl rfl (take_ofW HT_.out HW_.out (by kernel_rfl)) (fun _ _ _ h => h) (Or.inl ⟨by rfl, ?_⟩) hHeld ?_ ?_
        rotate_left
        ·
         rintro w' ⟨s0, s1, s2, s3, s4, s5⟩
         go_simp
         with_reducible rfl
        rotate_left
        ·
         refine (put_list _ _ _ _).trans ?_
         dsimp only [List.set_cons_zero, List.set_cons_succ]
         rfl
        refine one_ (i := 12) (N := some 80) qf9b64 rfl rfl (one_of HT_.out (by kernel_rfl)) (by decide) (fun K hK => ?_)
        refine Kd.R_lit_step (Kd.int .i64) _ 2 ?hg (N := 80) ?hd (xs := ([f, l] : List Int)) (inner := [.int .i64 f, .int .i64 l]) (ok := fun _ => True) (okp := fun _ => True) ?hr ?hp (fun _ hk => hk) trivial (Below.refl _ _) (Nat.le_refl _) (by simp) ?_; (case hd => rfl); (case hg => rfl); (case hr => first | (go_simp; done) | (go_simp; rfl)); (case hp => exact ((Reps.none _ _ |>.snoc (show Kd.M (Kd.int .i64) _ _ _ f [.int .i64 f] from rfl) rfl).snoc (show Kd.M (Kd.int .i64) _ _ _ l [.int .i64 l] from rfl) rfl))
        intro vq wq hoq hb hg_ hnew_
        clear hg_ hnew_
        replace HB := Aside0.mk (HB.out.trans (hb.mono HB.out.size))
        replace VP0 := Aside0.mk (Kd.V_below VP0.out hb)
        replace VP1 := Aside0.mk (Kd.V_below VP1.out hb)
        replace RS := Aside0.mk (RS.out.below hb)
        replace P3 := Aside0.mk (BoxN.below P3.out hb P3.out.lt)
        replace BT := Aside0.mk (BoxN.below BT.out hb BT.out.lt)
        replace B9 := Aside0.mk (BoxN.below B9.out hb B9.out.lt)
        clear hb
        (try clear s0 s1 s2 s3 s4 s5)
        have s0 := BT.out.cell 0 rfl
        have s1 := BT.out.cell 1 rfl
        have s2 := BT.out.cell 2 rfl
        have s3 := BT.out.cell 3 rfl
        have s4 := RS.out.box.cell (2 * j) hv0
        have s5 := RS.out.box.cell (2 * j + 1) hv1
        have HQ := Aside0.mk hoq
        clear hoq
        obtain ⟨Aq, cq, rfl⟩ := Kd.R_slice HQ.out
        refine hK.out _ _ ⟨s0, s1, s2, s3, s4, s5⟩ (fun hHeld => ?_)
        clear hK K
        refine norm_ (a' := ?_) ?_ ?_
        rotate_left
        ·
         refine (put_list _ _ 80 _).trans ?_
         dsimp only [List.set_cons_zero, List.set_cons_succ]
         (try rfl)
        refine one_ (i := 13) (N := some 81) qf9b66 rfl rfl (one_of HT_.out (by kernel_rfl)) (by decide) (fun K hK => ?_)
        refine goes_ Try.func42 (by kernel_rfl) rfl #[.slice Aq ([f, l] : List Int).length cq] (by rfl) rfl rfl (by (try simp only [List.map_toArray, List.map_cons, List.map_nil]); first | done | rfl) ?_
        (with_reducible refine (sat_Add.calls Aq cq [f, l] _ _ (Kd.R_reads' HQ.out).2.2 (Kd.R_reads' HQ.out).2.1 hsA.out).mono ?_)
        rintro e wn ⟨rfl, hd⟩
        refine ⟨_, rfl, ?_⟩
        have hb := each_drawn hd
        clear hd
        replace HB := Aside0.mk (HB.out.trans (hb.mono HB.out.size))
        replace VP0 := Aside0.mk (Kd.V_below VP0.out hb)
        replace VP1 := Aside0.mk (Kd.V_below VP1.out hb)
        replace RS := Aside0.mk (RS.out.below hb)
        replace P3 := Aside0.mk (BoxN.below P3.out hb P3.out.lt)
        replace BT := Aside0.mk (BoxN.below BT.out hb BT.out.lt)
        replace HQ := Aside0.mk (Kd.R_below HQ.out hb)
        replace B9 := Aside0.mk (BoxN.below B9.out hb B9.out.lt)
        clear hb
        (try clear s0 s1 s2 s3 s4 s5)
        have s0 := BT.out.cell 0 rfl
        have s1 := BT.out.cell 1 rfl
        have s2 := BT.out.cell 2 rfl
        have s3 := BT.out.cell 3 rfl
        have s4 := RS.out.box.cell (2 * j) hv0
        have s5 := RS.out.box.cell (2 * j + 1) hv1
        refine hK.out _ _ ⟨s0, s1, s2, s3, s4, s5⟩ (fun hHeld => ?_)
        clear hK K
        refine norm_ (a' := ?_) ?_ ?_
        rotate_left
        ·
         refine (put_list _ _ 81 _).trans ?_
         dsimp only [List.set_cons_zero, List.set_cons_succ]
         (try rfl)
        refine one_ (i := 16) (N := some 84) qf9b71 rfl rfl (one_of HT_.out (by kernel_rfl)) (by decide) (fun K hK => ?_)
        refine call_ dof #[.agg #[.slice A p.1.length c, .slice B p.2.1.length d], .int .i64 f, .int .i64 sm, .int .i64 n] (by rfl) rfl ?_ ?_
        ·
         unfold execOp
         simp [resolve, Deferred.ofValue, invoke, Act.eval, hent, hent2]
        (with_reducible refine (hdo A c p.1 B d p.2.1 f sm n r1 r2 e3 _ (Kd.V_reads' VP0.out).2.2 (Kd.V_reads' VP0.out).2.1 (Kd.V_reads' VP1.out).2.2 (Kd.V_reads' VP1.out).2.1 hD.out).mono ?_)
        rintro e wn ⟨va, vb, rfl, hva, hvb, hb⟩
        refine ⟨_, rfl, ?_⟩
        have VA := Aside0.mk (Kd.V_lower (Kd.V_mono (ok' := fun k => (k ≠ H ∧ k ≠ H + 1 + 1 + 1 ∧ w.heap.size ≤ k) ∧ k ≠ g9) hva (fun k hk => ⟨⟨by have := RS.out.box.lt; omega, by have := P3.out.lt; omega, Nat.le_trans HB.out.size hk⟩, by have := B9.out.lt; omega⟩)) (Nat.zero_le _))
        have VB := Aside0.mk (Kd.V_lower (Kd.V_mono (ok' := fun k => (k ≠ H ∧ k ≠ H + 1 + 1 + 1 ∧ w.heap.size ≤ k) ∧ k ≠ g9) hvb (fun k hk => ⟨⟨by have := RS.out.box.lt; omega, by have := P3.out.lt; omega, Nat.le_trans HB.out.size hk⟩, by have := B9.out.lt; omega⟩)) (Nat.zero_le _))
        clear hva hvb
        obtain ⟨Aa, ca, rfl⟩ := Kd.V_slice VA.out
        obtain ⟨Ab, cb, rfl⟩ := Kd.V_slice VB.out
        replace HB := Aside0.mk (HB.out.trans (hb.mono HB.out.size))
        replace VP0 := Aside0.mk (Kd.V_below VP0.out hb)
        replace VP1 := Aside0.mk (Kd.V_below VP1.out hb)
        replace RS := Aside0.mk (RS.out.below hb)
        replace P3 := Aside0.mk (BoxN.below P3.out hb P3.out.lt)
        replace BT := Aside0.mk (BoxN.below BT.out hb BT.out.lt)
        replace HQ := Aside0.mk (Kd.R_below HQ.out hb)
        replace B9 := Aside0.mk (BoxN.below B9.out hb B9.out.lt)
        clear hb
        (try clear s0 s1 s2 s3 s4 s5)
        have s0 := BT.out.cell 0 rfl
        have s1 := BT.out.cell 1 rfl
        have s2 := BT.out.cell 2 rfl
        have s3 := BT.out.cell 3 rfl
        have s4 := RS.out.box.cell (2 * j) hv0
        have s5 := RS.out.box.cell (2 * j + 1) hv1
        refine hK.out _ _ ⟨s0, s1, s2, s3, s4, s5⟩ (fun hHeld => ?_)
        clear hK K
        refine norm_ (a' := ?_) ?_ ?_
        rotate_left
        ·
         refine (put_list _ _ 84 _).trans ?_
         dsimp only [List.set_cons_zero, List.set_cons_succ]
         (try rfl)
        refine pure_ (i := 17) (N := some 67) (v := ?_) (a' := ?_) qf9b72 rfl rfl (any_of HT_.out (by kernel_rfl)) (fun _ _ _ h => h) (Or.inl ⟨by rfl, ?_⟩) ?_ ?_
        rotate_left
        ·
         intro w'
         go_simp
         with_reducible rfl
        rotate_left
        ·
         refine (put_list _ _ _ _).trans ?_
         dsimp only [List.set_cons_zero, List.set_cons_succ]
         rfl
        refine pure_ (i := 18) (N := some 85) (v := ?_) (a' := ?_) qf9b73 rfl rfl (any_of HT_.out (by kernel_rfl)) (fun _ _ _ h => h) (Or.inl ⟨by rfl, ?_⟩) ?_ ?_
        rotate_left
        ·
         intro w'
         go_simp
         with_reducible rfl
        rotate_left
        ·
         refine (put_list _ _ _ _).trans ?_
         dsimp only [List.set_cons_zero, List.set_cons_succ]
         rfl
        refine pure_ (i := 19) (N := some 86) (v := ?_) (a' := ?_) qf9b70 rfl rfl (any_of HT_.out (by kernel_rfl)) (fun _ _ _ h => h) (Or.inl ⟨by rfl, ?_⟩) ?_ ?_
        rotate_left
        ·
         intro w'
         go_simp
         with_reducible rfl
        rotate_left
        ·
         refine (put_list _ _ _ _).trans ?_
         dsimp only [List.set_cons_zero, List.set_cons_succ]
         rfl
        exact tail7 g9 Aq cq Aa ca Ab cb wn ⟨h9T⟩ ⟨h93⟩ RS VA VB P3 BT HB B9
       ·
        refine Kd.R_lit_step (Kd.int .i64) _ 2 ?hg (N := 80) ?hd (xs := ([f, l] : List Int)) (inner := [.int .i64 f, .int .i64 l]) (ok := fun _ => True) (okp := fun _ => True) ?hr ?hp (fun _ hk => hk) trivial (Below.refl _ _) (Nat.le_refl _) (by simp) ?_; (case hd => rfl); (case hg => rfl); (case hr => first | (go_simp; done) | (go_simp; rfl)); (case hp => exact ((Reps.none _ _ |>.snoc (show Kd.M (Kd.int .i64) _ _ _ f [.int .i64 f] from rfl) rfl).snoc (show Kd.M (Kd.int .i64) _ _ _ l [.int .i64 l] from rfl) rfl))
        intro vq wq hoq hb hg_ hnew_
        clear hg_ hnew_
        replace HB := Aside0.mk (HB.out.trans (hb.mono HB.out.size))
        replace VP0 := Aside0.mk (Kd.V_below VP0.out hb)
        replace VP1 := Aside0.mk (Kd.V_below VP1.out hb)
        replace RS := Aside0.mk (RS.out.below hb)
        replace P3 := Aside0.mk (BoxN.below P3.out hb P3.out.lt)
        replace BT := Aside0.mk (BoxN.below BT.out hb BT.out.lt)
        replace B9 := Aside0.mk (BoxN.below B9.out hb B9.out.lt)
        clear hb
        (try clear s0 s1 s2 s3 s4 s5)
        have s0 := BT.out.cell 0 rfl
        have s1 := BT.out.cell 1 rfl
        have s2 := BT.out.cell 2 rfl
        have s3 := BT.out.cell 3 rfl
        have s4 := RS.out.box.cell (2 * j) hv0
        have s5 := RS.out.box.cell (2 * j + 1) hv1
        have HQ := Aside0.mk hoq
        clear hoq
        obtain ⟨Aq, cq, rfl⟩ := Kd.R_slice HQ.out
        refine hK.out _ _ ⟨s0, s1, s2, s3, s4, s5⟩ (fun hHeld => ?_)
        clear hK K
        refine norm_ (a' := ?_) ?_ ?_
        rotate_left
        ·
         refine (put_list _ _ 80 _).trans ?_
         dsimp only [List.set_cons_zero, List.set_cons_succ]
         (try rfl)
        refine one_ (i := 3) (N := some 71) qf9b77 rfl rfl (one_of HT_.out (by kernel_rfl)) (by decide) (fun K hK => ?_)
        refine call_ g #[.pointer (some ⟨H, 0, none⟩)] (by rfl) rfl ?_ ?_
        ·
         unfold execOp
         simp [resolve, Deferred.ofValue, invoke, Act.eval, hent, hent2]
        (with_reducible refine (hg.out H _).mono ?_)
        rintro e wn ⟨rfl, rfl⟩
        refine ⟨_, rfl, ?_⟩
        refine hK.out _ _ ⟨s0, s1, s2, s3, s4, s5⟩ (fun hHeld => ?_)
        clear hK K
        refine norm_ (a' := ?_) ?_ ?_
        rotate_left
        ·
         refine (put_list _ _ 71 _).trans ?_
         dsimp only [List.set_cons_zero, List.set_cons_succ]
         (try rfl)
        refine pure_ (i := 4) (N := some 72) (v := ?_) (a' := ?_) qf9b78 rfl rfl (any_of HT_.out (by kernel_rfl)) (fun _ _ _ h => h) (Or.inl ⟨by rfl, ?_⟩) ?_ ?_
        rotate_left
        ·
         intro w'
         go_simp
         with_reducible rfl
        rotate_left
        ·
         refine (put_list _ _ _ _).trans ?_
         dsimp only [List.set_cons_zero, List.set_cons_succ]
         rfl
        refine take_ (i := 5) (N := some 73) (v := ?_) (a' := ?_) qf9b64 rfl rfl (take_ofW HT_.out HW_.out (by kernel_rfl)) (fun _ _ _ h => h) (Or.inl ⟨by rfl, ?_⟩) hHeld ?_ ?_
        rotate_left
        ·
         rintro w' ⟨s0, s1, s2, s3, s4, s5⟩
         go_simp
         with_reducible rfl
        rotate_left
        ·
         refine (put_list _ _ _ _).trans ?_
         dsimp only [List.set_cons_zero, List.set_cons_succ]
         rfl
        refine one_ (i := 13) (N := some 81) qf9b66 rfl rfl (one_of HT_.out (by kernel_rfl)) (by decide) (fun K hK => ?_)
        refine goes_ Try.func42 (by kernel_rfl) rfl #[.slice Aq ([f, l] : List Int).length cq] (by rfl) rfl rfl (by (try simp only [List.map_toArray, List.map_cons, List.map_nil]); first | done | rfl) ?_
        (with_reducible refine (sat_Add.calls Aq cq [f, l] _ _ (Kd.R_reads' HQ.out).2.2 (Kd.R_reads' HQ.out).2.1 hsA.out).mono ?_)
        rintro e wn ⟨rfl, hd⟩
        refine ⟨_, rfl, ?_⟩
        have hb := each_drawn hd
        clear hd
        replace HB := Aside0.mk (HB.out.trans (hb.mono HB.out.size))
        replace VP0 := Aside0.mk (Kd.V_below VP0.out hb)
        replace VP1 := Aside0.mk (Kd.V_below VP1.out hb)
        replace RS := Aside0.mk (RS.out.below hb)
        replace P3 := Aside0.mk (BoxN.below P3.out hb P3.out.lt)
        replace BT := Aside0.mk (BoxN.below BT.out hb BT.out.lt)
        replace HQ := Aside0.mk (Kd.R_below HQ.out hb)
        replace B9 := Aside0.mk (BoxN.below B9.out hb B9.out.lt)
        clear hb
        (try clear s0 s1 s2 s3 s4 s5)
        have s0 := BT.out.cell 0 rfl
        have s1 := BT.out.cell 1 rfl
        have s2 := BT.out.cell 2 rfl
        have s3 := BT.out.cell 3 rfl
        have s4 := RS.out.box.cell (2 * j) hv0
        have s5 := RS.out.box.cell (2 * j + 1) hv1
        refine hK.out _ _ ⟨s0, s1, s2, s3, s4, s5⟩ (fun hHeld => ?_)
        clear hK K
        refine norm_ (a' := ?_) ?_ ?_
        rotate_left
        ·
         refine (put_list _ _ 81 _).trans ?_
         dsimp only [List.set_cons_zero, List.set_cons_succ]
         (try rfl)
        refine one_ (i := 16) (N := some 84) qf9b71 rfl rfl (one_of HT_.out (by kernel_rfl)) (by decide) (fun K hK => ?_)
        refine call_ dof #[.agg #[.slice A p.1.length c, .slice B p.2.1.length d], .int .i64 f, .int .i64 sm, .int .i64 n] (by rfl) rfl ?_ ?_
        ·
         unfold execOp
         simp [resolve, Deferred.ofValue, invoke, Act.eval, hent, hent2]
        (with_reducible refine (hdo A c p.1 B d p.2.1 f sm n r1 r2 e3 _ (Kd.V_reads' VP0.out).2.2 (Kd.V_reads' VP0.out).2.1 (Kd.V_reads' VP1.out).2.2 (Kd.V_reads' VP1.out).2.1 hD.out).mono ?_)
        rintro e wn ⟨va, vb, rfl, hva, hvb, hb⟩
        refine ⟨_, rfl, ?_⟩
        have VA := Aside0.mk (Kd.V_lower (Kd.V_mono (ok' := fun k => (k ≠ H ∧ k ≠ H + 1 + 1 + 1 ∧ w.heap.size ≤ k) ∧ k ≠ g9) hva (fun k hk => ⟨⟨by have := RS.out.box.lt; omega, by have := P3.out.lt; omega, Nat.le_trans HB.out.size hk⟩, by have := B9.out.lt; omega⟩)) (Nat.zero_le _))
        have VB := Aside0.mk (Kd.V_lower (Kd.V_mono (ok' := fun k => (k ≠ H ∧ k ≠ H + 1 + 1 + 1 ∧ w.heap.size ≤ k) ∧ k ≠ g9) hvb (fun k hk => ⟨⟨by have := RS.out.box.lt; omega, by have := P3.out.lt; omega, Nat.le_trans HB.out.size hk⟩, by have := B9.out.lt; omega⟩)) (Nat.zero_le _))
        clear hva hvb
        obtain ⟨Aa, ca, rfl⟩ := Kd.V_slice VA.out
        obtain ⟨Ab, cb, rfl⟩ := Kd.V_slice VB.out
        replace HB := Aside0.mk (HB.out.trans (hb.mono HB.out.size))
        replace VP0 := Aside0.mk (Kd.V_below VP0.out hb)
        replace VP1 := Aside0.mk (Kd.V_below VP1.out hb)
        replace RS := Aside0.mk (RS.out.below hb)
        replace P3 := Aside0.mk (BoxN.below P3.out hb P3.out.lt)
        replace BT := Aside0.mk (BoxN.below BT.out hb BT.out.lt)
        replace HQ := Aside0.mk (Kd.R_below HQ.out hb)
        replace B9 := Aside0.mk (BoxN.below B9.out hb B9.out.lt)
        clear hb
        (try clear s0 s1 s2 s3 s4 s5)
        have s0 := BT.out.cell 0 rfl
        have s1 := BT.out.cell 1 rfl
        have s2 := BT.out.cell 2 rfl
        have s3 := BT.out.cell 3 rfl
        have s4 := RS.out.box.cell (2 * j) hv0
        have s5 := RS.out.box.cell (2 * j + 1) hv1
        refine hK.out _ _ ⟨s0, s1, s2, s3, s4, s5⟩ (fun hHeld => ?_)
        clear hK K
        refine norm_ (a' := ?_) ?_ ?_
        rotate_left
        ·
         refine (put_list _ _ 84 _).trans ?_
         dsimp only [List.set_cons_zero, List.set_cons_succ]
         (try rfl)
        refine pure_ (i := 17) (N := some 67) (v := ?_) (a' := ?_) qf9b72 rfl rfl (any_of HT_.out (by kernel_rfl)) (fun _ _ _ h => h) (Or.inl ⟨by rfl, ?_⟩) ?_ ?_
        rotate_left
        ·
         intro w'
         go_simp
         with_reducible rfl
        rotate_left
        ·
         refine (put_list _ _ _ _).trans ?_
         dsimp only [List.set_cons_zero, List.set_cons_succ]
         rfl
        refine pure_ (i := 18) (N := some 85) (v := ?_) (a' := ?_) qf9b73 rfl rfl (any_of HT_.out (by kernel_rfl)) (fun _ _ _ h => h) (Or.inl ⟨by rfl, ?_⟩) ?_ ?_
        rotate_left
        ·
         intro w'
         go_simp
         with_reducible rfl
        rotate_left
        ·
         refine (put_list _ _ _ _).trans ?_
         dsimp only [List.set_cons_zero, List.set_cons_succ]
         rfl
        refine pure_ (i := 19) (N := some 86) (v := ?_) (a' := ?_) qf9b70 rfl rfl (any_of HT_.out (by kernel_rfl)) (fun _ _ _ h => h) (Or.inl ⟨by rfl, ?_⟩) ?_ ?_
        rotate_left
        ·
         intro w'
         go_simp
         with_reducible rfl
        rotate_left
        ·
         refine (put_list _ _ _ _).trans ?_
         dsimp only [List.set_cons_zero, List.set_cons_succ]
         rfl
        exact tail7 g9 Aq cq Aa ca Ab cb wn ⟨h9T⟩ ⟨h93⟩ RS VA VB P3 BT HB B9
     case tl7 =>
      clear RS P3 BT HB VP0 VP1 s0 s1 s2 s3 s4 s5
      intro g9 Aq cq Aa ca Ab cb wn h9T_ h93_ RS VA VB P3 BT HB B9
      have h9T := h9T_.out
      have h93 := h93_.out
      clear h9T_ h93_
      refine last_ (i := 21) (N := none) qf9b81 rfl rfl (one_of HT_.out (by kernel_rfl)) (by decide) (fun K hK => ?_)
      have c90 := B9.out.cell 0 rfl
      have c91 := B9.out.cell 1 rfl
      have f90 := B9.out.frozen 0
      have f91 := B9.out.frozen 1
      refine skip_ (w1 := ?_) (by rfl) rfl ?_ ?_
      rotate_left
      ·
       go_simp
       (try rfl)
      refine hK.out _ _ ?_
      clear hK K
      have hk : Keeps (fun k => k ≠ g9) wn ((wn.setCell ⟨g9, 0, none⟩ (.slice Aa r1.length ca)).setCell ⟨g9, 1, none⟩ (.slice Ab r2.length cb)) := Keeps.setCell (p := ⟨g9, 1, none⟩) (Keeps.setCell (p := ⟨g9, 0, none⟩) (Keeps.refl (fun k => k ≠ g9) wn) _ (fun h => h.2 rfl)) _ (fun h => h.2 rfl)
      have hX : BoxN ((wn.setCell ⟨g9, 0, none⟩ (.slice Aa r1.length ca)).setCell ⟨g9, 1, none⟩ (.slice Ab r2.length cb)) g9 24 [.slice Aa r1.length ca, .slice Ab r2.length cb] := (B9.out.set 0 (.slice Aa r1.length ca)).set 1 (.slice Ab r2.length cb)
      have hRS : RoomS w ((wn.setCell ⟨g9, 0, none⟩ (.slice Aa r1.length ca)).setCell ⟨g9, 1, none⟩ (.slice Ab r2.length cb)) H (fun k => k = H + 1 + 1 + 1) vs R := ((RS.out.far (q := ⟨g9, 0, none⟩) (.inr rfl) (show H ≠ g9 by omega) (.slice Aa r1.length ca)).far (q := ⟨g9, 1, none⟩) (.inr rfl) (show H ≠ g9 by omega) (.slice Ab r2.length cb)).weak (fun k hk => .inl hk)
      have hVA : Kd.V (Kd.int .i64) 2 ((wn.setCell ⟨g9, 0, none⟩ (.slice Aa r1.length ca)).setCell ⟨g9, 1, none⟩ (.slice Ab r2.length cb)) 0 (fun k => k ≠ H ∧ k ≠ H + 1 + 1 + 1 ∧ w.heap.size ≤ k) (.slice Aa r1.length ca) r1 := (Kd.V_mono (Kd.V_far (p := ⟨g9, 1, none⟩) (Kd.V_far (p := ⟨g9, 0, none⟩) VA.out (fun k hk => hk.2) (.slice Aa r1.length ca)) (fun k hk => hk.2) (.slice Ab r2.length cb)) (fun k hk => hk.1))
      have hVB : Kd.V (Kd.int .i64) 2 ((wn.setCell ⟨g9, 0, none⟩ (.slice Aa r1.length ca)).setCell ⟨g9, 1, none⟩ (.slice Ab r2.length cb)) 0 (fun k => k ≠ H ∧ k ≠ H + 1 + 1 + 1 ∧ w.heap.size ≤ k) (.slice Ab r2.length cb) r2 := (Kd.V_mono (Kd.V_far (p := ⟨g9, 1, none⟩) (Kd.V_far (p := ⟨g9, 0, none⟩) VB.out (fun k hk => hk.2) (.slice Aa r1.length ca)) (fun k hk => hk.2) (.slice Ab r2.length cb)) (fun k hk => hk.1))
      have hP3 := hk.boxN P3.out (by omega)
      have hBT := hk.boxN BT.out (by omega)
      have hHB := HB.out.trans (hk.below HB.out.size (fun k hk => by have := HB.out.size; omega))
      generalize ((wn.setCell ⟨g9, 0, none⟩ (.slice Aa r1.length ca)).setCell ⟨g9, 1, none⟩ (.slice Ab r2.length cb)) = Wz at *
      clear hk RS VA VB B9 P3 BT HB c90 c91 f90 f91
      refine pure_ (i := 22) (N := some 14) (v := ?_) (a' := ?_) qf9b82 rfl rfl (any_of HT_.out (by kernel_rfl)) (fun _ _ _ h => h) (Or.inl ⟨by rfl, ?_⟩) ?_ ?_
      rotate_left
      ·
       intro w'
       go_simp
       with_reducible rfl
      rotate_left
      ·
       refine (put_list _ _ _ _).trans ?_
       dsimp only [List.set_cons_zero, List.set_cons_succ]
       rfl
      refine done_ (done_of HT_.out (by kernel_rfl)) ?_
      go_wp2
      go_meet
      case rel => exact ⟨g9, Aa, ca, Ab, cb, by rfl, by rfl, ⟨hX⟩, ⟨hVA⟩, ⟨hVB⟩, ⟨hRS⟩, ⟨hP3⟩, ⟨hBT⟩, ⟨hHB⟩⟩
    case rest =>
     clear s0 s1 s2 s3 s4 s5 VP0 VP1 RS P3 BT HB hD hsA
     obtain ⟨g9, Aa, ca, Ab, cb, rfl, rfl, B9, VA, VB, RS, P3, BT, HB⟩ := hcut
     have hW3 := hW2.out
     clear hW2
     by_cases he : e3 = 0
     case neg =>
      rw [if_neg he] at hW3
      simp only [Option.some.injEq, Prod.mk.injEq] at hW3
      obtain ⟨rfl, rfl⟩ := hW3
      have t0 := P3.out.cell 0 rfl
      have f0 := P3.out.frozen 0
      have t1 := P3.out.cell 1 rfl
      have f1 := P3.out.frozen 1
      have t2 := P3.out.cell 2 rfl
      have f2 := P3.out.frozen 2
      have t3 := P3.out.cell 3 rfl
      have f3 := P3.out.frozen 3
      have t4 := P3.out.cell 4 rfl
      have f4 := P3.out.frozen 4
      have t5 := P3.out.cell 5 rfl
      have f5 := P3.out.frozen 5
      go_wp2
      have hb2 : BoxN ((((((wc.setCell ⟨H + 1 + 1 + 1, 0, none⟩ (.slice none 0 0)).setCell ⟨H + 1 + 1 + 1, 1, none⟩ (.slice none 0 0)).setCell ⟨H + 1 + 1 + 1, 2, none⟩ (.slice none 0 0)).setCell ⟨H + 1 + 1 + 1, 3, none⟩ (.slice none 0 0)).setCell ⟨H + 1 + 1 + 1, 4, none⟩ (.slice none 0 0)).setCell ⟨H + 1 + 1 + 1, 5, none⟩ (.slice none 0 0)) (H + 1 + 1 + 1) 26 [.slice none 0 0, .slice none 0 0, .slice none 0 0, .slice none 0 0, .slice none 0 0, .slice none 0 0] := ((((((P3.out.set 0 (.slice none 0 0)).set 1 (.slice none 0 0)).set 2 (.slice none 0 0)).set 3 (.slice none 0 0)).set 4 (.slice none 0 0)).set 5 (.slice none 0 0))
      refine bodyPost_ret (results_ct rfl _ _ (H + 1 + 1 + 1) 26 #[.slice none 0 0, .slice none 0 0, .slice none 0 0, .slice none 0 0, .slice none 0 0, .slice none 0 0] (0, 0) _ rfl hb2 Try.underlying26 rfl (by kernel_rfl)) rfl ?_
      have hk9 : Keeps (fun k => k ≠ H + 1 + 1 + 1) wc ((((((wc.setCell ⟨H + 1 + 1 + 1, 0, none⟩ (.slice none 0 0)).setCell ⟨H + 1 + 1 + 1, 1, none⟩ (.slice none 0 0)).setCell ⟨H + 1 + 1 + 1, 2, none⟩ (.slice none 0 0)).setCell ⟨H + 1 + 1 + 1, 3, none⟩ (.slice none 0 0)).setCell ⟨H + 1 + 1 + 1, 4, none⟩ (.slice none 0 0)).setCell ⟨H + 1 + 1 + 1, 5, none⟩ (.slice none 0 0)) := Keeps.setCell (p := ⟨H + 1 + 1 + 1, 5, none⟩) (Keeps.setCell (p := ⟨H + 1 + 1 + 1, 4, none⟩) (Keeps.setCell (p := ⟨H + 1 + 1 + 1, 3, none⟩) (Keeps.setCell (p := ⟨H + 1 + 1 + 1, 2, none⟩) (Keeps.setCell (p := ⟨H + 1 + 1 + 1, 1, none⟩) (Keeps.setCell (p := ⟨H + 1 + 1 + 1, 0, none⟩) (Keeps.refl (fun k => k ≠ H + 1 + 1 + 1) wc) (.slice none 0 0) (fun h => h.2 rfl)) (.slice none 0 0) (fun h => h.2 rfl)) (.slice none 0 0) (fun h => h.2 rfl)) (.slice none 0 0) (fun h => h.2 rfl)) (.slice none 0 0) (fun h => h.2 rfl)) (.slice none 0 0) (fun h => h.2 rfl)
      exact EachPost.nil _ _ _ (HB.out.trans (hk9.below (by have := HB.out.size; omega) (fun k hk => by omega)))
     case pos =>
      rw [if_pos he] at hW3
      subst he
      replace hW3 := Aside0.mk hW3
      go_upto_region 10 with fail
      have s0 := BT.out.cell 0 rfl
      have s1 := B9.out.cell 0 rfl
      have s2 := B9.out.cell 1 rfl
      refine start_ (n := 6) (S := fun w' => w'.cell? ⟨T, 0, none⟩ = some (.func (Fn.func g) #[] #[]) ∧ w'.cell? ⟨g9, 0, none⟩ = some (.slice Aa r1.length ca) ∧ w'.cell? ⟨g9, 1, none⟩ = some (.slice Ab r2.length cb)) (ds := [5]) qf9b83 (by kernel_rfl) rfl rfl ⟨s0, s1, s2⟩ (fun hHeld => ?_); refine with_tabW fit_each.tab10 fit_each.bits10 (fun HT_ HW_ => ?_)
      have hb : Below wc.heap.size wc wc.drew := below_drew (Below.refl _ _)
      replace HB := Aside0.mk (HB.out.trans (hb.mono HB.out.size))
      replace VA := Aside0.mk (Kd.V_below VA.out hb)
      replace VB := Aside0.mk (Kd.V_below VB.out hb)
      replace RS := Aside0.mk (RS.out.below hb)
      replace P3 := Aside0.mk (BoxN.below P3.out hb P3.out.lt)
      replace BT := Aside0.mk (BoxN.below BT.out hb BT.out.lt)
      replace B9 := Aside0.mk (BoxN.below B9.out hb B9.out.lt)
      clear hb s0 s1 s2
      have s0 := BT.out.cell 0 rfl
      have s1 := B9.out.cell 0 rfl
      have s2 := B9.out.cell 1 rfl
      generalize wc.drew = wd at *
      refine pure_ (i := 0) (N := some 91) (v := ?_) (a' := ?_) qf9b84 rfl rfl (any_of HT_.out (by kernel_rfl)) (fun _ _ _ h => h) (Or.inl ⟨by rfl, ?_⟩) ?_ ?_
      rotate_left
      ·
       intro w'
       go_simp
       with_reducible rfl
      rotate_left
      ·
       refine (put_list _ _ _ _).trans ?_
       dsimp only [List.set_cons_zero, List.set_cons_succ]
       rfl
      refine take_ (i := 3) (N := some 94) (v := ?_) (a' := ?_) qf9b85 rfl rfl (take_ofW HT_.out HW_.out (by kernel_rfl)) (fun _ _ _ h => h) (Or.inl ⟨by rfl, ?_⟩) hHeld ?_ ?_
      rotate_left
      ·
       rintro w' ⟨s0, s1, s2⟩
       go_simp
       with_reducible rfl
      rotate_left
      ·
       refine (put_list _ _ _ _).trans ?_
       dsimp only [List.set_cons_zero, List.set_cons_succ]
       rfl
      refine take_ (i := 1) (N := some 92) (v := ?_) (a' := ?_) qf9b86 rfl rfl (take_ofW HT_.out HW_.out (by kernel_rfl)) (fun _ _ _ h => h) (Or.inl ⟨by rfl, ?_⟩) hHeld ?_ ?_
      rotate_left
      ·
       rintro w' ⟨s0, s1, s2⟩
       go_simp
       with_reducible rfl
      rotate_left
      ·
       refine (put_list _ _ _ _).trans ?_
       dsimp only [List.set_cons_zero, List.set_cons_succ]
       rfl
      refine one_ (i := 2) (N := some 93) qf9b87 rfl rfl (one_of HT_.out (by kernel_rfl)) (by decide) (fun K hK => ?_)
      refine call_ g #[.pointer (some ⟨H, 0, none⟩)] (by rfl) rfl ?_ ?_
      ·
       unfold execOp
       simp [resolve, Deferred.ofValue, invoke, Act.eval, hent, hent2]
      (with_reducible refine (hg.out H _).mono ?_)
      rintro e wn ⟨rfl, rfl⟩
      refine ⟨_, rfl, ?_⟩
      refine hK.out _ _ ⟨s0, s1, s2⟩ (fun hHeld => ?_)
      clear hK K
      refine norm_ (a' := ?_) ?_ ?_
      rotate_left
      ·
       refine (put_list _ _ 93 _).trans ?_
       dsimp only [List.set_cons_zero, List.set_cons_succ]
       (try rfl)
      refine pure_ (i := 4) (N := some 95) (v := ?_) (a' := ?_) qf9b88 rfl rfl (any_of HT_.out (by kernel_rfl)) (fun _ _ _ h => h) (Or.inl ⟨by rfl, ?_⟩) ?_ ?_
      rotate_left
      ·
       intro w'
       go_simp
       with_reducible rfl
      rotate_left
      ·
       refine (put_list _ _ _ _).trans ?_
       dsimp only [List.set_cons_zero, List.set_cons_succ]
       rfl
      refine last_ (i := 5) (N := none) qf9b89 rfl rfl (one_of HT_.out (by kernel_rfl)) (by decide) (fun K hK => ?_)
      have c0 := RS.out.box.cell (2 * j) hv0
      have c1 := RS.out.box.cell (2 * j + 1) hv1
      have f0 := RS.out.box.frozen (2 * j)
      have f1 := RS.out.box.frozen (2 * j + 1)
      refine skip_ (w1 := ?_) (by rfl) rfl ?_ ?_
      rotate_left
      ·
       go_simp
       (try rfl)
      refine hK.out _ _ ?_
      clear hK K
      have hRS : RoomS w ((wn.setCell ⟨H, 2 * j, none⟩ (.slice Aa r1.length ca)).setCell ⟨H, 2 * j + 1, none⟩ (.slice Ab r2.length cb)) H (fun k => k = H + 1 + 1 + 1) ((vs.set (2 * j) (.slice Aa r1.length ca)).set (2 * j + 1) (.slice Ab r2.length cb)) (R.set j (r1, r2, true)) := RS.out.set j hj3 _ _ r1 r2 VA.out VB.out
      have hk : Keeps (fun k => k ≠ H) wn ((wn.setCell ⟨H, 2 * j, none⟩ (.slice Aa r1.length ca)).setCell ⟨H, 2 * j + 1, none⟩ (.slice Ab r2.length cb)) := Keeps.setCell (p := ⟨H, 2 * j + 1, none⟩) (Keeps.setCell (p := ⟨H, 2 * j, none⟩) (Keeps.refl (fun k => k ≠ H) wn) _ (fun h => h.2 rfl)) _ (fun h => h.2 rfl)
      have hP3 := hk.boxN P3.out (by omega)
      have hHB := HB.out.trans (hk.below HB.out.size (fun k hk => by omega))
      generalize ((wn.setCell ⟨H, 2 * j, none⟩ (.slice Aa r1.length ca)).setCell ⟨H, 2 * j + 1, none⟩ (.slice Ab r2.length cb)) = Wz at *
      clear hk RS VA VB P3 BT B9 HB c0 c1 f0 f1 s0 s1 s2
      refine done_ (done_of HT_.out (by kernel_rfl)) ?_
      go_wp2
      go_roundg k1
      case measure => omega
      case rel => exact ⟨i + 1, _, _, by go_num, ⟨by have := HK.out; omega⟩, ⟨hRS⟩, ⟨hP3⟩, ⟨hHB⟩, hW3⟩
set_option maxHeartbeats 8000000 in
set_option maxRecDepth 100000 in
theorem fit_each_none (k : Nat) (A0_0 : Option Addr) (c0_0 : Nat) (l0_0 : List Int) (A0_1 : Option Addr) (c0_1 : Nat) (l0_1 : List Int) (A0_2 : Option Addr) (c0_2 : Nat) (l0_2 : List Int) (A0_3 : Option Addr) (c0_3 : Nat) (l0_3 : List Int) (A0_4 : Option Addr) (c0_4 : Nat) (l0_4 : List Int) (A0_5 : Option Addr) (c0_5 : Nat) (l0_5 : List Int) (a1_0 : Int) (a1_1 : Int) (a1_2 : Int) (a1_3 : Int) (a1_4 : Int) (a1_5 : Int) (a2_0 : Int) (a2_1 : Int) (a2_2 : Int) (dof : Nat) (w : World) (hr0_0 : Kd.C (Kd.int .i64) w A0_0 l0_0.length l0_0) (hc0_0 : l0_0.length ≤ c0_0) (hr0_1 : Kd.C (Kd.int .i64) w A0_1 l0_1.length l0_1) (hc0_1 : l0_1.length ≤ c0_1) (hr0_2 : Kd.C (Kd.int .i64) w A0_2 l0_2.length l0_2) (hc0_2 : l0_2.length ≤ c0_2) (hr0_3 : Kd.C (Kd.int .i64) w A0_3 l0_3.length l0_3) (hc0_3 : l0_3.length ≤ c0_3) (hr0_4 : Kd.C (Kd.int .i64) w A0_4 l0_4.length l0_4) (hc0_4 : l0_4.length ≤ c0_4) (hr0_5 : Kd.C (Kd.int .i64) w A0_5 l0_5.length l0_5) (hc0_5 : l0_5.length ≤ c0_5) (hm : fit_may.f k l0_0 l0_1 l0_2 l0_3 l0_4 l0_5 a1_0 a1_1 a1_2 a1_3 a1_4 a1_5 [a2_0, a2_1, a2_2] = some false) :
  Calls Try.prog 27 #[.agg #[.slice A0_0 l0_0.length c0_0, .slice A0_1 l0_1.length c0_1, .slice A0_2 l0_2.length c0_2, .slice A0_3 l0_3.length c0_3, .slice A0_4 l0_4.length c0_4, .slice A0_5 l0_5.length c0_5], .agg #[.int .i64 a1_0, .int .i64 a1_1, .int .i64 a1_2, .int .i64 a1_3, .int .i64 a1_4, .int .i64 a1_5], .agg #[.int .i64 a2_0, .int .i64 a2_1, .int .i64 a2_2], .func (Fn.func dof) #[] #[]] w fun e w' => EachPost w [] 2 e w' := by
 have hu24 := Try.underlying24
 have hu26 := Try.underlying26
 have hu28 := Try.underlying28
 have hu30 := Try.underlying30
 replace hm := Aside0.mk hm
 have HR0 := Aside0.mk hr0_0
 have HC0 := Aside0.mk hc0_0
 have HR1 := Aside0.mk hr0_1
 have HC1 := Aside0.mk hc0_1
 have HR2 := Aside0.mk hr0_2
 have HC2 := Aside0.mk hc0_2
 have HR3 := Aside0.mk hr0_3
 have HC3 := Aside0.mk hc0_3
 have HR4 := Aside0.mk hr0_4
 have HC4 := Aside0.mk hc0_4
 have HR5 := Aside0.mk hr0_5
 have HC5 := Aside0.mk hc0_5
 clear hr0_0 hc0_0 hr0_1 hc0_1 hr0_2 hc0_2 hr0_3 hc0_3 hr0_4 hc0_4 hr0_5 hc0_5
 obtain ⟨H, hH⟩ : ∃ H, w.heap.size = H := ⟨_, rfl⟩
 obtain ⟨W4, hW4⟩ : ∃ W4, List.foldl World.alloc w [.cells #[.slice A0_0 l0_0.length c0_0, .slice A0_1 l0_1.length c0_1, .slice A0_2 l0_2.length c0_2, .slice A0_3 l0_3.length c0_3, .slice A0_4 l0_4.length c0_4, .slice A0_5 l0_5.length c0_5] 26, .cells #[.int .i64 a1_0, .int .i64 a1_1, .int .i64 a1_2, .int .i64 a1_3, .int .i64 a1_4, .int .i64 a1_5] 28, .cells #[.int .i64 a2_0, .int .i64 a2_1, .int .i64 a2_2] 30, .cells #[.slice none 0 0, .slice none 0 0, .slice none 0 0, .slice none 0 0, .slice none 0 0, .slice none 0 0] 26] = W4 := ⟨_, rfl⟩
 have P0 : BoxN W4 H 26 [.slice A0_0 l0_0.length c0_0, .slice A0_1 l0_1.length c0_1, .slice A0_2 l0_2.length c0_2, .slice A0_3 l0_3.length c0_3, .slice A0_4 l0_4.length c0_4, .slice A0_5 l0_5.length c0_5] := by have := al_at hW4 0 _ rfl; rw [hH] at this; exact this
 have P1 : BoxN W4 (H + 1) 28 [.int .i64 a1_0, .int .i64 a1_1, .int .i64 a1_2, .int .i64 a1_3, .int .i64 a1_4, .int .i64 a1_5] := by have := al_at hW4 1 _ rfl; rw [hH] at this; exact this
 have P2 : BoxN W4 (H + 1 + 1) 30 [.int .i64 a2_0, .int .i64 a2_1, .int .i64 a2_2] := by have := al_at hW4 2 _ rfl; rw [hH] at this; exact this
 have P3 : BoxN W4 (H + 1 + 1 + 1) 26 [.slice none 0 0, .slice none 0 0, .slice none 0 0, .slice none 0 0, .slice none 0 0, .slice none 0 0] := by have := al_at hW4 3 _ rfl; rw [hH] at this; exact this
 have HB : Below w.heap.size w W4 := by rw [← hW4]; exact al_below _ w
 have b4 : W4.heap.size = H + 1 + 1 + 1 + 1 := by rw [← hW4, al_size, hH]; rfl
 simp only [List.foldl_cons, List.foldl_nil] at hW4
 go_enter Try.func27, Try.ntmps27
 go_upto_region 1 with fail
 (try rw [hW4])
 clear hW4
 have x0 := P0.cell 0 rfl
 have x1 := P0.cell 1 rfl
 have x2 := P0.cell 2 rfl
 have x3 := P0.cell 3 rfl
 have x4 := P0.cell 4 rfl
 have x5 := P0.cell 5 rfl
 have s0 := P1.cell 0 rfl
 have s1 := P1.cell 1 rfl
 have s2 := P1.cell 2 rfl
 have s3 := P1.cell 3 rfl
 have s4 := P1.cell 4 rfl
 have s5 := P1.cell 5 rfl
 have s6 := P2.cell 0 rfl
 have s7 := P2.cell 1 rfl
 have s8 := P2.cell 2 rfl
 replace P0 := Aside0.mk P0
 replace P1 := Aside0.mk P1
 replace P2 := Aside0.mk P2
 replace P3 := Aside0.mk P3
 replace HB := Aside0.mk HB
 go_wp2_with (go_at_call 17; go_loud (with_reducible refine (may_three k A0_0 c0_0 l0_0 A0_1 c0_1 l0_1 A0_2 c0_2 l0_2 A0_3 c0_3 l0_3 A0_4 c0_4 l0_4 A0_5 c0_5 l0_5 a1_0 a1_1 a1_2 a1_3 a1_4 a1_5 a2_0 a2_1 a2_2 _ false _ b4 (Kd.C_below HR0.out HB.out) HC0.out (Kd.C_below HR1.out HB.out) HC1.out (Kd.C_below HR2.out HB.out) HC2.out (Kd.C_below HR3.out HB.out) HC3.out (Kd.C_below HR4.out HB.out) HC4.out (Kd.C_below HR5.out HB.out) HC5.out hm.out).mono ?_); rintro e w1 ⟨rfl, hb⟩; replace HB := Aside0.mk (HB.out.trans (hb.mono HB.out.size)); replace P0 := Aside0.mk (BoxN.below P0.out hb P0.out.lt); replace P1 := Aside0.mk (BoxN.below P1.out hb P1.out.lt); replace P2 := Aside0.mk (BoxN.below P2.out hb P2.out.lt); replace P3 := Aside0.mk (BoxN.below P3.out hb P3.out.lt); clear hb; (try clear s0 s1 s2 s3 s4 s5 s6 s7 s8); have s0 := P1.out.cell 0 rfl; have s1 := P1.out.cell 1 rfl; have s2 := P1.out.cell 2 rfl; have s3 := P1.out.cell 3 rfl; have s4 := P1.out.cell 4 rfl; have s5 := P1.out.cell 5 rfl; have s6 := P2.out.cell 0 rfl; have s7 := P2.out.cell 1 rfl; have s8 := P2.out.cell 2 rfl; have t0 := P3.out.cell 0 rfl; have f0 := P3.out.frozen 0; have t1 := P3.out.cell 1 rfl; have f1 := P3.out.frozen 1; have t2 := P3.out.cell 2 rfl; have f2 := P3.out.frozen 2; have t3 := P3.out.cell 3 rfl; have f3 := P3.out.frozen 3; have t4 := P3.out.cell 4 rfl; have f4 := P3.out.frozen 4; have t5 := P3.out.cell 5 rfl; have f5 := P3.out.frozen 5)
 have hb2 : BoxN ((((((w1.setCell ⟨H + 1 + 1 + 1, 0, none⟩ (.slice none 0 0)).setCell ⟨H + 1 + 1 + 1, 1, none⟩ (.slice none 0 0)).setCell ⟨H + 1 + 1 + 1, 2, none⟩ (.slice none 0 0)).setCell ⟨H + 1 + 1 + 1, 3, none⟩ (.slice none 0 0)).setCell ⟨H + 1 + 1 + 1, 4, none⟩ (.slice none 0 0)).setCell ⟨H + 1 + 1 + 1, 5, none⟩ (.slice none 0 0)) (H + 1 + 1 + 1) 26 [.slice none 0 0, .slice none 0 0, .slice none 0 0, .slice none 0 0, .slice none 0 0, .slice none 0 0] := ((((((P3.out.set 0 (.slice none 0 0)).set 1 (.slice none 0 0)).set 2 (.slice none 0 0)).set 3 (.slice none 0 0)).set 4 (.slice none 0 0)).set 5 (.slice none 0 0))
 refine bodyPost_ret (results_ct rfl _ _ (H + 1 + 1 + 1) 26 #[.slice none 0 0, .slice none 0 0, .slice none 0 0, .slice none 0 0, .slice none 0 0, .slice none 0 0] (0, 0) _ rfl hb2 Try.underlying26 rfl (by kernel_rfl)) rfl ?_
 have hk9 : Keeps (fun k => k ≠ H + 1 + 1 + 1) w1 ((((((w1.setCell ⟨H + 1 + 1 + 1, 0, none⟩ (.slice none 0 0)).setCell ⟨H + 1 + 1 + 1, 1, none⟩ (.slice none 0 0)).setCell ⟨H + 1 + 1 + 1, 2, none⟩ (.slice none 0 0)).setCell ⟨H + 1 + 1 + 1, 3, none⟩ (.slice none 0 0)).setCell ⟨H + 1 + 1 + 1, 4, none⟩ (.slice none 0 0)).setCell ⟨H + 1 + 1 + 1, 5, none⟩ (.slice none 0 0)) := Keeps.setCell (p := ⟨H + 1 + 1 + 1, 5, none⟩) (Keeps.setCell (p := ⟨H + 1 + 1 + 1, 4, none⟩) (Keeps.setCell (p := ⟨H + 1 + 1 + 1, 3, none⟩) (Keeps.setCell (p := ⟨H + 1 + 1 + 1, 2, none⟩) (Keeps.setCell (p := ⟨H + 1 + 1 + 1, 1, none⟩) (Keeps.setCell (p := ⟨H + 1 + 1 + 1, 0, none⟩) (Keeps.refl (fun k => k ≠ H + 1 + 1 + 1) w1) (.slice none 0 0) (fun h => h.2 rfl)) (.slice none 0 0) (fun h => h.2 rfl)) (.slice none 0 0) (fun h => h.2 rfl)) (.slice none 0 0) (fun h => h.2 rfl)) (.slice none 0 0) (fun h => h.2 rfl)) (.slice none 0 0) (fun h => h.2 rfl)
 exact EachPost.nil _ _ _ (HB.out.trans (hk9.below (by have := HB.out.size; omega) (fun k hk => by omega)))

end Go.Proofs.Ythbonmpkjkihgaa.P
