/- The functions of the program that this seat reaches, each in a shallow form over ghost heaps, with the kernel's word that it is what its loaded code computes. Nothing here is a statement on the program. Written by a program of this session. -/
import Derived.Test.YtbiappodepnbmaaKG
import Derived.Test.YtbiappodepnbmaaProg
import Derived.KernelRfl
namespace Go.Proofs.Ytbiappodepnbmaa
open Go GW Go.Proofs
set_option linter.unusedVariables false
set_option maxRecDepth 100000

/-! ### (*pawl/mcas.whole).decide (81) -/
def S81 (a0 a1 a2 : Value) (h : GH) (K : Value → GH → Prop) : Prop :=
 bnd (ncV a0) fun v1 =>
 bnd (faV 0 v1) fun v2 =>
 bnd (faV 0 v2) fun v3 =>
 bnd (faV 0 v3) fun v4 =>
 bnd (ldV 1 false v4 h) fun v5 =>
 bnd (ncV a0) fun v6 =>
 bnd (faV 0 v6) fun v7 =>
 bnd (faV 0 v7) fun v8 =>
 bnd (faV 1 v8) fun v9 =>
 bnd (ldV 1 false v9 h) fun v10 =>
 bnd (ncV a0) fun v11 =>
 bnd (faV 0 v11) fun v12 =>
 bnd (faV 0 v12) fun v13 =>
 bnd (faV 1 v13) fun v14 =>
 bnd (ldV 1 false v14 h) fun v15 =>
 T Try.prog 86 [v5] h fun v16 h17 =>
 ldV 1 false v14 h17 = some v15 ∧
 ldV 1 false v9 h17 = some v10 ∧
 T Try.prog 87 [v10, (.int .i64 0)] h17 fun v18 h19 =>
 ldV 1 false v14 h19 = some v15 ∧
 T Try.prog 87 [v15, a2] h19 fun v20 h21 =>
 T Try.prog 83 [a1, v16, v18, v20] h21 fun v22 h23 =>
 bnd (ncV a0) fun v24 =>
 bnd (faV 7 v24) fun v25 =>
 bnd (stV 1 v25 (.int .i64 1) h23) fun h26 =>
 K (.tuple #[]) h26
def A81 : Ann := ⟨fun | 0 => ([0, 1, 2, 3, 4, 5, 6, 8, 9, 10, 11, 12, 13, 15, 16, 17, 18, 19, 20, 21, 7, 14, 22, 23], [0, 0, 2, 6, 14, 30, 62, 126, 0, 256, 768, 1792, 3840, 7936, 16382, 0, 32768, 98304, 229376, 491520, 1015808, 0, 4194302, 8388607]) | _ => ([], []), fun _ => []⟩
theorem S81_T {a0 a1 a2 : Value} {h : GH} {K : Value → GH → Prop} (g : S81 a0 a1 a2 h K) : T Try.prog 81 [a0, a1, a2] h K :=
  T_of_gwp (A := A81) Try.func81 (c := bodyOf Try.f81) (by kernel_rfl) (by kernel_rfl) (by kernel_rfl) (by kernel_rfl) (by kernel_rfl) (Eq.mp (by kernel_rfl) g)

/-! ### (*pawl/mcas.held).part (82) -/
def S82_j1 (x0 x1 x2 x3 x10 : Value) (h : GH) (K : Value → GH → Prop)  : Prop :=
 bnd (binV .mul (.int .i64 3) x2) fun v1 =>
 bnd (binV .add (.int .i64 2) v1) fun v2 =>
 bnd (binV .add v2 x3) fun v3 =>
 T Try.prog 85 [x0, x1, v3, x10] h fun v4 h5 =>
 bnd (exV v4 0) fun v6 =>
 bnd (exV v4 1) fun v7 =>
 K (.tuple #[v6, v7]) h5
def S82 (a0 a1 a2 a3 : Value) (h : GH) (K : Value → GH → Prop) : Prop :=
 bnd (eqI a3 (.int .i64 0)) fun b1 =>
 ifV (.bool b1) (
 S82_j1 a0 a1 a2 a3 (.int .i64 15) h K ) (
 S82_j1 a0 a1 a2 a3 (.int .i64 1099511627775) h K )
def A82 : Ann := ⟨fun _ => ([], []), fun _ => []⟩
theorem S82_T {a0 a1 a2 a3 : Value} {h : GH} {K : Value → GH → Prop} (g : S82 a0 a1 a2 a3 h K) : T Try.prog 82 [a0, a1, a2, a3] h K :=
  T_of_gwp (A := A82) Try.func82 (c := bodyOf Try.f82) (by kernel_rfl) (by kernel_rfl) (by kernel_rfl) (by kernel_rfl) (by kernel_rfl) (Eq.mp (by kernel_rfl) g)

/-! ### (*pawl/arena.Arena).Swap (83) -/
def S83 (a0 a1 a2 a3 : Value) (h : GH) (K : Value → GH → Prop) : Prop :=
 newV 3 (a2 : Value).cells.toList h fun v1 h2 =>
 newV 3 (a3 : Value).cells.toList h2 fun v3 h4 =>
 T Try.prog 24 [a0, (.int .i64 2), a1, (.func (.func 88) #[] #[v1, v3])] h4 fun v5 h6 =>
 bnd (exV v5 0) fun v7 =>
 bnd (exV v5 1) fun v8 =>
 K (.tuple #[v7, v8]) h6
def A83 : Ann := ⟨fun _ => ([], []), fun _ => []⟩
theorem S83_T {a0 a1 a2 a3 : Value} {h : GH} {K : Value → GH → Prop} (g : S83 a0 a1 a2 a3 h K) : T Try.prog 83 [a0, a1, a2, a3] h K :=
  T_of_gwp (A := A83) Try.func83 (c := bodyOf Try.f83) (by kernel_rfl) (by kernel_rfl) (by kernel_rfl) (by kernel_rfl) (by kernel_rfl) (Eq.mp (by kernel_rfl) g)

/-! ### pawl/word.Number (84) -/
def S84 (a0 : Value) (h : GH) (K : Value → GH → Prop) : Prop :=
 ivV Try.prog a0 "pawl/word.number" [] h fun v1 h2 =>
 K v1 h2
def A84 : Ann := ⟨fun _ => ([], []), fun _ => []⟩
theorem S84_T {a0 : Value} {h : GH} {K : Value → GH → Prop} (g : S84 a0 h K) : T Try.prog 84 [a0] h K :=
  T_of_gwp (A := A84) Try.func84 (c := bodyOf Try.f84) (by kernel_rfl) (by kernel_rfl) (by kernel_rfl) (by kernel_rfl) (by kernel_rfl) (Eq.mp (by kernel_rfl) g)

/-! ### (*pawl/mcas.held).load (85) -/
def S85 (a0 a1 a2 a3 : Value) (h : GH) (K : Value → GH → Prop) : Prop :=
 bnd (ncV a0) fun v1 =>
 bnd (faV 0 v1) fun v2 =>
 bnd (faV 0 v2) fun v3 =>
 bnd (ldV 1 false v3 h) fun v4 =>
 T Try.prog 86 [v4] h fun v5 h6 =>
 bnd (binV .add v5 a2) fun v7 =>
 T Try.prog 32 [a1, v7] h6 fun v8 h9 =>
 bnd (exV v8 0) fun v10 =>
 bnd (exV v8 1) fun v11 =>
 T Try.prog 33 [v10] h9 fun v12 h13 =>
 bnd (exV v12 0) fun v14 =>
 bnd (exV v12 1) fun v15 =>
 ifV v15 (
 bnd (binV .leq v14 a3) fun v16 =>
 K (.tuple #[v14, v16]) h13) (
 K (.tuple #[v14, (.bool false)]) h13)
def A85 : Ann := ⟨fun _ => ([], []), fun _ => []⟩
theorem S85_T {a0 a1 a2 a3 : Value} {h : GH} {K : Value → GH → Prop} (g : S85 a0 a1 a2 a3 h K) : T Try.prog 85 [a0, a1, a2, a3] h K :=
  T_of_gwp (A := A85) Try.func85 (c := bodyOf Try.f85) (by kernel_rfl) (by kernel_rfl) (by kernel_rfl) (by kernel_rfl) (by kernel_rfl) (Eq.mp (by kernel_rfl) g)

/-! ### pawl/desc.Base (86) -/
def S86 (a0 : Value) (h : GH) (K : Value → GH → Prop) : Prop :=
 bnd (binV .mul a0 (.int .i64 50)) fun v1 =>
 bnd (binV .add (.int .i64 34) v1) fun v2 =>
 K v2 h
def A86 : Ann := ⟨fun _ => ([], []), fun _ => []⟩
theorem S86_T {a0 : Value} {h : GH} {K : Value → GH → Prop} (g : S86 a0 h K) : T Try.prog 86 [a0] h K :=
  T_of_gwp (A := A86) Try.func86 (c := bodyOf Try.f86) (by kernel_rfl) (by kernel_rfl) (by kernel_rfl) (by kernel_rfl) (by kernel_rfl) (Eq.mp (by kernel_rfl) g)

/-! ### pawl/desc.State (87) -/
def S87 (a0 a1 : Value) (h : GH) (K : Value → GH → Prop) : Prop :=
 bnd (binV .mul a0 (.int .i64 4)) fun v1 =>
 bnd (binV .add v1 a1) fun v2 =>
 T Try.prog 38 [v2] h fun v3 h4 =>
 K v3 h4
def A87 : Ann := ⟨fun _ => ([], []), fun _ => []⟩
theorem S87_T {a0 a1 : Value} {h : GH} {K : Value → GH → Prop} (g : S87 a0 a1 h K) : T Try.prog 87 [a0, a1] h K :=
  T_of_gwp (A := A87) Try.func87 (c := bodyOf Try.f87) (by kernel_rfl) (by kernel_rfl) (by kernel_rfl) (by kernel_rfl) (by kernel_rfl) (Eq.mp (by kernel_rfl) g)

/-! ### (*pawl/arena.Arena).Swap$1 (88) -/
def S88 (a0 a1 a2 : Value) (h : GH) (K : Value → GH → Prop) : Prop :=
 bnd (ldV 1 false a1 h) fun v1 =>
 bnd (eqI a0 v1) fun b2 =>
 ifV (.bool b2) (
 bnd (ldV 1 false a2 h) fun v3 =>
 K v3 h) (
 K a0 h)
def A88 : Ann := ⟨fun _ => ([], []), fun _ => []⟩
theorem S88_T {a0 a1 a2 : Value} {h : GH} {K : Value → GH → Prop} (g : S88 a0 a1 a2 h K) : T Try.prog 88 [a0, a1, a2] h K :=
  T_of_gwp (A := A88) Try.func88 (c := bodyOf Try.f88) (by kernel_rfl) (by kernel_rfl) (by kernel_rfl) (by kernel_rfl) (by kernel_rfl) (Eq.mp (by kernel_rfl) g)

/-! ### (pawl/word.Entry).number (89) -/
def S89 (a0 : Value) (h : GH) (K : Value → GH → Prop) : Prop :=
 newV 114 (a0 : Value).cells.toList h fun v1 h2 =>
 bnd (faV 0 v1) fun v3 =>
 bnd (ldV 2 true v3 h2) fun v4 =>
 bnd (faV 2 v1) fun v5 =>
 bnd (ldV 1 false v5 h2) fun v6 =>
 bnd (faV 3 v1) fun v7 =>
 bnd (ldV 1 false v7 h2) fun v8 =>
 bnd (faV 4 v1) fun v9 =>
 bnd (ldV 1 false v9 h2) fun v10 =>
 T Try.prog 66 [v4] h2 fun v11 h12 =>
 ldV 1 false v9 h12 = some v10 ∧
 ldV 1 false v7 h12 = some v8 ∧
 ldV 1 false v5 h12 = some v6 ∧
 bnd (binV .mul v11 (.int .i64 16)) fun v13 =>
 bnd (binV .add v13 v6) fun v14 =>
 bnd (binV .mul v14 (.int .i64 4)) fun v15 =>
 bnd (binV .add v15 v8) fun v16 =>
 bnd (binV .mul v16 (.int .i64 1048576)) fun v17 =>
 bnd (binV .add v17 v10) fun v18 =>
 bnd (binV .mul v18 (.int .i64 4)) fun v19 =>
 bnd (binV .add v19 (.int .i64 1)) fun v20 =>
 K v20 h12
def A89 : Ann := ⟨fun | 1 => ([0, 1, 4, 5, 8, 9, 12, 13, 2, 3, 6, 7, 10, 11, 14, 15, 16, 17], [0, 1, 3, 7, 0, 16, 63, 127, 0, 256, 1023, 2047, 0, 4096, 16383, 32767, 65535, 131071]) | _ => ([], []), fun _ => []⟩
theorem S89_T {a0 : Value} {h : GH} {K : Value → GH → Prop} (g : S89 a0 h K) : T Try.prog 89 [a0] h K :=
  T_of_gwp (A := A89) Try.func89 (c := bodyOf Try.f89) (by kernel_rfl) (by kernel_rfl) (by kernel_rfl) (by kernel_rfl) (by kernel_rfl) (Eq.mp (by kernel_rfl) g)

/-! ### (pawl/word.Entry).plain (90) -/
def S90 (a0 : Value) (h : GH) (K : Value → GH → Prop) : Prop :=
 newV 114 (a0 : Value).cells.toList h fun v1 h2 =>
 newV 120 [(.int .i64 0), (.int .i64 0), (.int .i64 0), (.int .i64 0), (.int .i64 0), (.int .i64 0), (.int .i64 0)] h2 fun v3 h4 =>
 bnd (faV 0 v1) fun v5 =>
 bnd (faV 0 v5) fun v6 =>
 bnd (ldV 1 false v6 h4) fun v7 =>
 bnd (faV 0 v1) fun v8 =>
 bnd (faV 1 v8) fun v9 =>
 bnd (ldV 1 false v9 h4) fun v10 =>
 bnd (faV 2 v1) fun v11 =>
 bnd (ldV 1 false v11 h4) fun v12 =>
 bnd (faV 3 v1) fun v13 =>
 bnd (ldV 1 false v13 h4) fun v14 =>
 bnd (faV 4 v1) fun v15 =>
 bnd (ldV 1 false v15 h4) fun v16 =>
 bnd (fillV [(.int .i64 0), (.int .i64 0), (.int .i64 0), (.int .i64 0), (.int .i64 0), (.int .i64 0), (.int .i64 0)] [(0, 1, (.int .i64 1)), (2, 1, v7), (3, 1, v10), (4, 1, v12), (5, 1, v14), (6, 1, v16)]) fun c17 =>
 bnd (stV 7 v3 (.agg c17.toArray) h4) fun h18 =>
 bnd (ldV 7 true v3 h18) fun v19 =>
 K v19 h18
def A90 : Ann := ⟨fun _ => ([], []), fun _ => []⟩
theorem S90_T {a0 : Value} {h : GH} {K : Value → GH → Prop} (g : S90 a0 h K) : T Try.prog 90 [a0] h K :=
  T_of_gwp (A := A90) Try.func90 (c := bodyOf Try.f90) (by kernel_rfl) (by kernel_rfl) (by kernel_rfl) (by kernel_rfl) (by kernel_rfl) (Eq.mp (by kernel_rfl) g)

/-! ### (*pawl/mcas.entry).step (91) -/
def S91 (a0 a1 : Value) (h : GH) (K : Value → GH → Prop) : Prop :=
 bnd (ncV a0) fun v1 =>
 bnd (faV 11 v1) fun v2 =>
 bnd (ldV 1 false v2 h) fun v3 =>
 bnd (binV .add v3 (.int .i64 1)) fun v4 =>
 bnd (ncV a0) fun v5 =>
 bnd (faV 11 v5) fun v6 =>
 bnd (stV 1 v6 v4 h) fun h7 =>
 bnd (ncV a0) fun v8 =>
 bnd (faV 11 v8) fun v9 =>
 bnd (ldV 1 false v9 h7) fun v10 =>
 bnd (eqI v10 (.int .i64 1)) fun b11 =>
 ifV (.bool b11) (
 bnd (ncV a0) fun v12 =>
 bnd (faV 0 v12) fun v13 =>
 bnd (ncV a0) fun v14 =>
 bnd (faV 6 v14) fun v15 =>
 bnd (faV 2 v15) fun v16 =>
 bnd (ldV 1 false v16 h7) fun v17 =>
 T Try.prog 77 [v13, a1, v17] h7 fun v18 h19 =>
 K (.tuple #[.nilIface, (.bool false), v18]) h19) (
 bnd (eqI v10 (.int .i64 2)) fun b20 =>
 ifV (.bool b20) (
 bnd (ncV a0) fun v21 =>
 bnd (faV 0 v21) fun v22 =>
 bnd (ncV a0) fun v23 =>
 bnd (faV 6 v23) fun v24 =>
 bnd (faV 2 v24) fun v25 =>
 bnd (ldV 1 false v25 h7) fun v26 =>
 T Try.prog 78 [v22, a1, v26] h7 fun v27 h28 =>
 K (.tuple #[.nilIface, (.bool false), v27]) h28) (
 bnd (eqI v10 (.int .i64 3)) fun b29 =>
 ifV (.bool b29) (
 bnd (ncV a0) fun v30 =>
 bnd (faV 0 v30) fun v31 =>
 T Try.prog 79 [v31, a1] h7 fun v32 h33 =>
 K (.tuple #[.nilIface, (.bool false), v32]) h33) (
 bnd (ncV a0) fun v34 =>
 bnd (faV 0 v34) fun v35 =>
 bnd (ncV a0) fun v36 =>
 bnd (faV 6 v36) fun v37 =>
 bnd (ldV 5 true v37 h7) fun v38 =>
 T Try.prog 84 [(.iface 114 v38)] h7 fun v39 h40 =>
 T Try.prog 80 [v35, a1, v39] h40 fun v41 h42 =>
 K (.tuple #[.nilIface, (.bool true), (.bool true)]) h42)))
def A91 : Ann := ⟨fun | 4 => ([0, 1, 2, 3, 4, 5, 6, 7, 8, 9, 10, 11, 12], [0, 1, 3, 0, 0, 16, 48, 112, 240, 511, 1023, 2047, 4095]) | 6 => ([0, 1, 2, 3, 4, 5, 6, 7, 8, 9, 10, 11, 12], [0, 1, 3, 0, 0, 16, 48, 112, 240, 511, 1023, 2047, 4095]) | 9 => ([0, 1, 2, 3, 4, 5, 6, 7, 8, 9, 10], [0, 1, 3, 0, 0, 16, 48, 112, 240, 496, 1023]) | _ => ([], []), fun _ => []⟩
theorem S91_T {a0 a1 : Value} {h : GH} {K : Value → GH → Prop} (g : S91 a0 a1 h K) : T Try.prog 91 [a0, a1] h K :=
  T_of_gwp (A := A91) Try.func91 (c := bodyOf Try.f91) (by kernel_rfl) (by kernel_rfl) (by kernel_rfl) (by kernel_rfl) (by kernel_rfl) (Eq.mp (by kernel_rfl) g)
end Go.Proofs.Ytbiappodepnbmaa
