/- The functions of the program that this seat reaches, each in a shallow form over ghost heaps, with the kernel's word that it is what its loaded code computes. Nothing here is a statement on the program. Written by a program of this session. -/
import Derived.Test.YtcdbamkjlghckaaKG
import Derived.Test.YtcdbamkjlghckaaProg
import Derived.KernelRfl
namespace Go.Proofs.Ytcdbamkjlghckaa
open Go GW Go.Proofs
set_option linter.unusedVariables false
set_option maxRecDepth 100000

/-! ### (*pawl/mcas.whole).swapIn (70) -/
def S70_j1 (x0 x8 : Value) (h : GH) (K : Value → GH → Prop)  : Prop :=
 bnd (eqK .iface true x8 .nilIface) fun b1 =>
 ifV (.bool b1) (
 K (.tuple #[.nilIface, (.bool false)]) h) (
 bnd (taV 112 (.int .i64 0) true x8) fun v2 =>
 bnd (exV v2 1) fun v3 =>
 bnd (exV v2 0) fun v4 =>
 ifV v3 (
 bnd (ncV x0) fun v5 =>
 bnd (faV 7 v5) fun v6 =>
 bnd (stV 1 v6 (.int .i64 9) h) fun h7 =>
 K (.tuple #[.nilIface, (.bool true)]) h7) (
 bnd (taV 107 (.agg #[(.int .i64 0), (.int .i64 0), (.int .i64 0), (.int .i64 0), (.int .i64 0)]) true x8) fun v8 =>
 bnd (exV v8 1) fun v9 =>
 bnd (exV v8 0) fun v10 =>
 ifV v9 (
 bnd (ncV x0) fun v11 =>
 bnd (faV 6 v11) fun v12 =>
 bnd (ldV 1 false v12 h) fun v13 =>
 T Try.prog 24 [x8, v13] h fun v14 h15 =>
 K (.tuple #[v14, (.bool true)]) h15) (
 bnd (taV 81 (.agg #[(.int .i64 0), (.int .i64 0)]) true x8) fun v16 =>
 bnd (exV v16 1) fun v17 =>
 bnd (exV v16 0) fun v18 =>
 ifV v17 (
 bnd (ncV x0) fun v19 =>
 bnd (faV 6 v19) fun v20 =>
 bnd (ldV 1 false v20 h) fun v21 =>
 T Try.prog 24 [x8, v21] h fun v22 h23 =>
 bnd (ncV x0) fun v24 =>
 bnd (faV 11 v24) fun v25 =>
 bnd (stV 1 v25 v22 h23) fun h26 =>
 bnd (ncV x0) fun v27 =>
 bnd (faV 7 v27) fun v28 =>
 bnd (stV 1 v28 (.int .i64 14) h26) fun h29 =>
 K (.tuple #[.nilIface, (.bool true)]) h29) (
 K (.tuple #[.nilIface, (.bool true)]) h))))
def S70 (a0 a1 : Value) (h : GH) (K : Value → GH → Prop) : Prop :=
 bnd (ncV a0) fun v1 =>
 bnd (faV 0 v1) fun v2 =>
 bnd (faV 0 v2) fun v3 =>
 bnd (ldV 2 true v3 h) fun v4 =>
 bnd (ncV a0) fun v5 =>
 bnd (faV 8 v5) fun v6 =>
 bnd (ldV 1 false v6 h) fun v7 =>
 bnd (ncV a0) fun v8 =>
 bnd (faV 6 v8) fun v9 =>
 bnd (ldV 1 false v9 h) fun v10 =>
 bnd (ncV v10) fun v11 =>
 bnd (faV 0 v11) fun v12 =>
 bnd (ldV 1 false v12 h) fun v13 =>
 bnd (ncV a0) fun v14 =>
 bnd (faV 6 v14) fun v15 =>
 bnd (ldV 1 false v15 h) fun v16 =>
 T Try.prog 64 [v16] h fun v17 h18 =>
 ldV 1 false v12 h18 = some v13 ∧
 ldV 1 false v9 h18 = some v10 ∧
 ldV 1 false v6 h18 = some v7 ∧
 ldV 2 true v3 h18 = some v4 ∧
 bnd (fillV [(.int .i64 0), (.int .i64 0), (.int .i64 0), (.int .i64 0), (.int .i64 0)] [(0, 2, v4), (2, 1, v7), (3, 1, v13), (4, 1, v17)]) fun c19 =>
 T Try.prog 80 [(.iface 107 (.agg c19.toArray))] h18 fun v20 h21 =>
 bnd (ncV a0) fun v22 =>
 bnd (faV 10 v22) fun v23 =>
 bnd (stV 1 v23 v20 h21) fun h24 =>
 bnd (ncV a0) fun v25 =>
 bnd (faV 0 v25) fun v26 =>
 bnd (faV 2 v26) fun v27 =>
 bnd (ldV 1 false v27 h24) fun v28 =>
 bnd (ncV a0) fun v29 =>
 bnd (faV 0 v29) fun v30 =>
 bnd (faV 3 v30) fun v31 =>
 bnd (ldV 1 false v31 h24) fun v32 =>
 bnd (ncV a0) fun v33 =>
 bnd (faV 10 v33) fun v34 =>
 bnd (ldV 1 false v34 h24) fun v35 =>
 T Try.prog 79 [a1, v28, v32, v35] h24 fun v36 h37 =>
 bnd (exV v36 0) fun v38 =>
 bnd (exV v36 1) fun v39 =>
 bnd (ncV a0) fun v40 =>
 bnd (faV 0 v40) fun v41 =>
 bnd (faV 3 v41) fun v42 =>
 bnd (ldV 1 false v42 h37) fun v43 =>
 bnd (eqI v38 v43) fun b44 =>
 ifV (.bool b44) (
 bnd (ncV a0) fun v45 =>
 bnd (faV 7 v45) fun v46 =>
 bnd (stV 1 v46 (.int .i64 6) h37) fun h47 =>
 K (.tuple #[.nilIface, (.bool true)]) h47) (
 T Try.prog 25 [v38] h37 fun v48 h49 =>
 bnd (taV 81 (.agg #[(.int .i64 0), (.int .i64 0)]) true v48) fun v50 =>
 bnd (exV v50 0) fun v51 =>
 bnd (exV v50 1) fun v52 =>
 newV 81 [(.int .i64 0), (.int .i64 0)] h49 fun v53 h54 =>
 bnd (stV 2 v53 v51 h54) fun h55 =>
 ifV v52 (
 bnd (ldV 2 true v53 h55) fun v56 =>
 bnd (ncV a0) fun v57 =>
 bnd (faV 0 v57) fun v58 =>
 bnd (faV 0 v58) fun v59 =>
 bnd (ldV 2 true v59 h55) fun v60 =>
 bnd (eqP Try.prog 10000 81 v56 v60) fun b61 =>
 ifV (.bool b61) (
 T Try.prog 66 [a0, (.int .i64 3), (.int .i64 8)] h55 fun v62 h63 =>
 K (.tuple #[.nilIface, (.bool true)]) h63) (
 S70_j1 a0 v48 h55 K )) (
 S70_j1 a0 v48 h55 K ))
def A70 : Ann := ⟨fun | 1 => ([0, 1, 2, 3, 4, 5, 6, 7, 8, 9, 10, 11, 12, 13, 14, 15, 16, 17, 18, 19, 20, 21, 22, 23, 24, 25, 26, 27], [0, 0, 2, 6, 14, 30, 0, 64, 192, 448, 0, 1024, 3072, 7168, 15360, 31744, 64512, 0, 131072, 393216, 917504, 1966080, 4194302, 8388606, 16777214, 33554431, 67108863, 134217727]) | 2 => ([0, 1, 2, 3, 4, 5, 6, 7, 8, 9, 10, 11, 12, 13, 14, 15, 16, 17, 18, 19, 20], [0, 0, 2, 6, 14, 30, 0, 64, 192, 448, 960, 0, 2048, 6144, 14336, 32767, 65535, 131071, 131071, 262143, 1048575]) | 8 => ([0, 1, 2, 3, 4, 5, 6, 7, 8, 9], [0, 1, 3, 3, 11, 27, 59, 123, 255, 511]) | _ => ([], []), fun _ => []⟩
theorem S70_T {a0 a1 : Value} {h : GH} {K : Value → GH → Prop} (g : S70 a0 a1 h K) : T Try.prog 70 [a0, a1] h K :=
  T_of_gwp (A := A70) Try.func70 (c := bodyOf Try.f70) (by kernel_rfl) (by kernel_rfl) (by kernel_rfl) (by kernel_rfl) (by kernel_rfl) (Eq.mp (by kernel_rfl) g)

/-! ### (*pawl/mcas.whole).ask (71) -/
def S71 (a0 a1 : Value) (h : GH) (K : Value → GH → Prop) : Prop :=
 bnd (ncV a0) fun v1 =>
 bnd (faV 0 v1) fun v2 =>
 T Try.prog 75 [v2, a1] h fun v3 h4 =>
 bnd (ncV a0) fun v5 =>
 bnd (faV 7 v5) fun v6 =>
 bnd (ldV 1 false v6 h4) fun v7 =>
 bnd (eqI v7 (.int .i64 14)) fun b8 =>
 bnd (ncV a0) fun v9 =>
 bnd (faV 0 v9) fun v10 =>
 bnd (faV 4 v10) fun v11 =>
 bnd (ldV 1 false v11 h4) fun v12 =>
 bnd (unV .not v12) fun v13 =>
 ifV v13 (
 bnd (ncV a0) fun v14 =>
 bnd (faV 7 v14) fun v15 =>
 bnd (stV 1 v15 (.int .i64 10) h4) fun h16 =>
 K (.tuple #[.nilIface, (.bool false), v3]) h16) (
 ifV (.bool b8) (
 bnd (ncV a0) fun v17 =>
 bnd (faV 7 v17) fun v18 =>
 bnd (stV 1 v18 (.int .i64 5) h4) fun h19 =>
 bnd (ncV a0) fun v20 =>
 bnd (faV 11 v20) fun v21 =>
 bnd (ldV 1 false v21 h19) fun v22 =>
 K (.tuple #[v22, (.bool false), v3]) h19) (
 bnd (ncV a0) fun v23 =>
 bnd (faV 7 v23) fun v24 =>
 bnd (stV 1 v24 (.int .i64 2) h4) fun h25 =>
 K (.tuple #[.nilIface, (.bool false), v3]) h25))
def A71 : Ann := ⟨fun _ => ([], []), fun _ => []⟩
theorem S71_T {a0 a1 : Value} {h : GH} {K : Value → GH → Prop} (g : S71 a0 a1 h K) : T Try.prog 71 [a0, a1] h K :=
  T_of_gwp (A := A71) Try.func71 (c := bodyOf Try.f71) (by kernel_rfl) (by kernel_rfl) (by kernel_rfl) (by kernel_rfl) (by kernel_rfl) (Eq.mp (by kernel_rfl) g)

/-! ### (*pawl/mcas.whole).counted (72) -/
def S72 (a0 a1 : Value) (h : GH) (K : Value → GH → Prop) : Prop :=
 bnd (ncV a0) fun v1 =>
 bnd (faV 0 v1) fun v2 =>
 T Try.prog 81 [v2, a1, (.int .i64 1), (.int .i64 16)] h fun v3 h4 =>
 bnd (exV v3 0) fun v5 =>
 bnd (exV v3 1) fun v6 =>
 bnd (ncV a0) fun v7 =>
 bnd (faV 9 v7) fun v8 =>
 bnd (stV 1 v8 v5 h4) fun h9 =>
 bnd (ncV a0) fun v10 =>
 bnd (faV 8 v10) fun v11 =>
 bnd (stV 1 v11 (.int .i64 0) h9) fun h12 =>
 bnd (ncV a0) fun v13 =>
 bnd (faV 7 v13) fun v14 =>
 bnd (ldV 1 false v14 h12) fun v15 =>
 bnd (binV .add v15 (.int .i64 1)) fun v16 =>
 bnd (ncV a0) fun v17 =>
 bnd (faV 7 v17) fun v18 =>
 bnd (stV 1 v18 v16 h12) fun h19 =>
 bnd (eqI v5 (.int .i64 0)) fun b20 =>
 K (.tuple #[(.bool b20), v6]) h19
def A72 : Ann := ⟨fun _ => ([], []), fun _ => []⟩
theorem S72_T {a0 a1 : Value} {h : GH} {K : Value → GH → Prop} (g : S72 a0 a1 h K) : T Try.prog 72 [a0, a1] h K :=
  T_of_gwp (A := A72) Try.func72 (c := bodyOf Try.f72) (by kernel_rfl) (by kernel_rfl) (by kernel_rfl) (by kernel_rfl) (by kernel_rfl) (Eq.mp (by kernel_rfl) g)

/-! ### (*pawl/mcas.held).takeCell (73) -/
def S73 (a0 a1 a2 : Value) (h : GH) (K : Value → GH → Prop) : Prop :=
 T Try.prog 78 [a0, a1, a2, (.int .i64 0)] h fun v1 h2 =>
 bnd (exV v1 0) fun v3 =>
 bnd (exV v1 1) fun v4 =>
 bnd (ncV a0) fun v5 =>
 bnd (faV 2 v5) fun v6 =>
 bnd (stV 1 v6 v3 h2) fun h7 =>
 K v4 h7
def A73 : Ann := ⟨fun _ => ([], []), fun _ => []⟩
theorem S73_T {a0 a1 a2 : Value} {h : GH} {K : Value → GH → Prop} (g : S73 a0 a1 a2 h K) : T Try.prog 73 [a0, a1, a2] h K :=
  T_of_gwp (A := A73) Try.func73 (c := bodyOf Try.f73) (by kernel_rfl) (by kernel_rfl) (by kernel_rfl) (by kernel_rfl) (by kernel_rfl) (Eq.mp (by kernel_rfl) g)

/-! ### (*pawl/mcas.held).takeWas (74) -/
def S74 (a0 a1 a2 : Value) (h : GH) (K : Value → GH → Prop) : Prop :=
 T Try.prog 78 [a0, a1, a2, (.int .i64 1)] h fun v1 h2 =>
 bnd (exV v1 0) fun v3 =>
 bnd (exV v1 1) fun v4 =>
 ifV v4 (
 T Try.prog 42 [v3] h2 fun v5 h6 =>
 bnd (ncV a0) fun v7 =>
 bnd (faV 3 v7) fun v8 =>
 bnd (stV 1 v8 v5 h6) fun h9 =>
 K v4 h9) (
 K v4 h2)
def A74 : Ann := ⟨fun _ => ([], []), fun _ => []⟩
theorem S74_T {a0 a1 a2 : Value} {h : GH} {K : Value → GH → Prop} (g : S74 a0 a1 a2 h K) : T Try.prog 74 [a0, a1, a2] h K :=
  T_of_gwp (A := A74) Try.func74 (c := bodyOf Try.f74) (by kernel_rfl) (by kernel_rfl) (by kernel_rfl) (by kernel_rfl) (by kernel_rfl) (Eq.mp (by kernel_rfl) g)

/-! ### (*pawl/mcas.held).decision (75) -/
def S75 (a0 a1 : Value) (h : GH) (K : Value → GH → Prop) : Prop :=
 bnd (ncV a0) fun v1 =>
 bnd (faV 0 v1) fun v2 =>
 bnd (faV 0 v2) fun v3 =>
 bnd (ldV 1 false v3 h) fun v4 =>
 T Try.prog 82 [v4] h fun v5 h6 =>
 T Try.prog 15 [a1, v5] h6 fun v7 h8 =>
 bnd (exV v7 0) fun v9 =>
 bnd (exV v7 1) fun v10 =>
 T Try.prog 83 [v9] h8 fun v11 h12 =>
 bnd (exV v11 0) fun v13 =>
 bnd (exV v11 1) fun v14 =>
 bnd (ncV a0) fun v15 =>
 bnd (faV 0 v15) fun v16 =>
 bnd (faV 1 v16) fun v17 =>
 bnd (ldV 1 false v17 h12) fun v18 =>
 T Try.prog 84 [v18, (.int .i64 0)] h12 fun v19 h20 =>
 bnd (eqI v9 v19) fun b21 =>
 bnd (ncV a0) fun v22 =>
 bnd (faV 4 v22) fun v23 =>
 bnd (stV 1 v23 (.bool b21) h20) fun h24 =>
 bnd (ncV a0) fun v25 =>
 bnd (faV 0 v25) fun v26 =>
 bnd (faV 1 v26) fun v27 =>
 bnd (ldV 1 false v27 h24) fun v28 =>
 T Try.prog 84 [v28, (.int .i64 1)] h24 fun v29 h30 =>
 bnd (eqI v9 v29) fun b31 =>
 bnd (ncV a0) fun v32 =>
 bnd (faV 5 v32) fun v33 =>
 bnd (stV 1 v33 (.bool b31) h30) fun h34 =>
 K v14 h34
def A75 : Ann := ⟨fun _ => ([], []), fun _ => []⟩
theorem S75_T {a0 a1 : Value} {h : GH} {K : Value → GH → Prop} (g : S75 a0 a1 h K) : T Try.prog 75 [a0, a1] h K :=
  T_of_gwp (A := A75) Try.func75 (c := bodyOf Try.f75) (by kernel_rfl) (by kernel_rfl) (by kernel_rfl) (by kernel_rfl) (by kernel_rfl) (Eq.mp (by kernel_rfl) g)

/-! ### (*pawl/mcas.held).settle (76) -/
def S76_j1 (x0 x1 x2 x6 : Value) (h : GH) (K : Value → GH → Prop)  : Prop :=
 bnd (ncV x0) fun v1 =>
 bnd (faV 2 v1) fun v2 =>
 bnd (ldV 1 false v2 h) fun v3 =>
 T Try.prog 79 [x1, v3, x2, x6] h fun v4 h5 =>
 K (.tuple #[]) h5
def S76 (a0 a1 a2 : Value) (h : GH) (K : Value → GH → Prop) : Prop :=
 bnd (ncV a0) fun v1 =>
 bnd (faV 3 v1) fun v2 =>
 bnd (ldV 1 false v2 h) fun v3 =>
 bnd (ncV a0) fun v4 =>
 bnd (faV 4 v4) fun v5 =>
 bnd (ldV 1 false v5 h) fun v6 =>
 ifV v6 (
 bnd (ncV a0) fun v7 =>
 bnd (faV 0 v7) fun v8 =>
 bnd (ldV 2 true v8 h) fun v9 =>
 T Try.prog 80 [(.iface 81 v9)] h fun v10 h11 =>
 S76_j1 a0 a1 a2 v10 h11 K ) (
 S76_j1 a0 a1 a2 v3 h K )
def A76 : Ann := ⟨fun _ => ([], []), fun _ => []⟩
theorem S76_T {a0 a1 a2 : Value} {h : GH} {K : Value → GH → Prop} (g : S76 a0 a1 a2 h K) : T Try.prog 76 [a0, a1, a2] h K :=
  T_of_gwp (A := A76) Try.func76 (c := bodyOf Try.f76) (by kernel_rfl) (by kernel_rfl) (by kernel_rfl) (by kernel_rfl) (by kernel_rfl) (Eq.mp (by kernel_rfl) g)

/-! ### (*pawl/mcas.whole).decide (77) -/
def S77 (a0 a1 a2 : Value) (h : GH) (K : Value → GH → Prop) : Prop :=
 bnd (ncV a0) fun v1 =>
 bnd (faV 0 v1) fun v2 =>
 bnd (faV 0 v2) fun v3 =>
 bnd (faV 0 v3) fun v4 =>
 bnd (ldV 1 false v4 h) fun v5 =>
 bnd (ncV a0) fun v6 =>
 bnd (faV 0 v6) fun v7 =>
 bnd (faV 0 v7) fun v8 =>
 bnd (faV 1 v8) fun v9 =>
 bnd (ldV 1 false v9 h) fun v10 =>
 bnd (ncV a0) fun v11 =>
 bnd (faV 0 v11) fun v12 =>
 bnd (faV 0 v12) fun v13 =>
 bnd (faV 1 v13) fun v14 =>
 bnd (ldV 1 false v14 h) fun v15 =>
 T Try.prog 82 [v5] h fun v16 h17 =>
 ldV 1 false v14 h17 = some v15 ∧
 ldV 1 false v9 h17 = some v10 ∧
 T Try.prog 84 [v10, (.int .i64 0)] h17 fun v18 h19 =>
 ldV 1 false v14 h19 = some v15 ∧
 T Try.prog 84 [v15, a2] h19 fun v20 h21 =>
 T Try.prog 79 [a1, v16, v18, v20] h21 fun v22 h23 =>
 bnd (ncV a0) fun v24 =>
 bnd (faV 7 v24) fun v25 =>
 bnd (stV 1 v25 (.int .i64 1) h23) fun h26 =>
 K (.tuple #[]) h26
def A77 : Ann := ⟨fun | 0 => ([0, 1, 2, 3, 4, 5, 6, 8, 9, 10, 11, 12, 13, 15, 16, 17, 18, 19, 20, 21, 7, 14, 22, 23], [0, 0, 2, 6, 14, 30, 62, 126, 0, 256, 768, 1792, 3840, 7936, 16382, 0, 32768, 98304, 229376, 491520, 1015808, 0, 4194302, 8388607]) | _ => ([], []), fun _ => []⟩
theorem S77_T {a0 a1 a2 : Value} {h : GH} {K : Value → GH → Prop} (g : S77 a0 a1 a2 h K) : T Try.prog 77 [a0, a1, a2] h K :=
  T_of_gwp (A := A77) Try.func77 (c := bodyOf Try.f77) (by kernel_rfl) (by kernel_rfl) (by kernel_rfl) (by kernel_rfl) (by kernel_rfl) (Eq.mp (by kernel_rfl) g)

/-! ### (*pawl/mcas.held).part (78) -/
def S78_j1 (x0 x1 x2 x3 x10 : Value) (h : GH) (K : Value → GH → Prop)  : Prop :=
 bnd (binV .mul (.int .i64 3) x2) fun v1 =>
 bnd (binV .add (.int .i64 2) v1) fun v2 =>
 bnd (binV .add v2 x3) fun v3 =>
 T Try.prog 81 [x0, x1, v3, x10] h fun v4 h5 =>
 bnd (exV v4 0) fun v6 =>
 bnd (exV v4 1) fun v7 =>
 K (.tuple #[v6, v7]) h5
def S78 (a0 a1 a2 a3 : Value) (h : GH) (K : Value → GH → Prop) : Prop :=
 bnd (eqI a3 (.int .i64 0)) fun b1 =>
 ifV (.bool b1) (
 S78_j1 a0 a1 a2 a3 (.int .i64 15) h K ) (
 S78_j1 a0 a1 a2 a3 (.int .i64 1099511627775) h K )
def A78 : Ann := ⟨fun _ => ([], []), fun _ => []⟩
theorem S78_T {a0 a1 a2 a3 : Value} {h : GH} {K : Value → GH → Prop} (g : S78 a0 a1 a2 a3 h K) : T Try.prog 78 [a0, a1, a2, a3] h K :=
  T_of_gwp (A := A78) Try.func78 (c := bodyOf Try.f78) (by kernel_rfl) (by kernel_rfl) (by kernel_rfl) (by kernel_rfl) (by kernel_rfl) (Eq.mp (by kernel_rfl) g)

/-! ### (*pawl/arena.Arena).Swap (79) -/
def S79 (a0 a1 a2 a3 : Value) (h : GH) (K : Value → GH → Prop) : Prop :=
 newV 3 (a2 : Value).cells.toList h fun v1 h2 =>
 newV 3 (a3 : Value).cells.toList h2 fun v3 h4 =>
 T Try.prog 29 [a0, (.int .i64 2), a1, (.func (.func 85) #[] #[v1, v3])] h4 fun v5 h6 =>
 bnd (exV v5 0) fun v7 =>
 bnd (exV v5 1) fun v8 =>
 K (.tuple #[v7, v8]) h6
def A79 : Ann := ⟨fun _ => ([], []), fun _ => []⟩
theorem S79_T {a0 a1 a2 a3 : Value} {h : GH} {K : Value → GH → Prop} (g : S79 a0 a1 a2 a3 h K) : T Try.prog 79 [a0, a1, a2, a3] h K :=
  T_of_gwp (A := A79) Try.func79 (c := bodyOf Try.f79) (by kernel_rfl) (by kernel_rfl) (by kernel_rfl) (by kernel_rfl) (by kernel_rfl) (Eq.mp (by kernel_rfl) g)

/-! ### pawl/word.Number (80) -/
def S80 (a0 : Value) (h : GH) (K : Value → GH → Prop) : Prop :=
 ivV Try.prog a0 "pawl/word.number" [] h fun v1 h2 =>
 K v1 h2
def A80 : Ann := ⟨fun _ => ([], []), fun _ => []⟩
theorem S80_T {a0 : Value} {h : GH} {K : Value → GH → Prop} (g : S80 a0 h K) : T Try.prog 80 [a0] h K :=
  T_of_gwp (A := A80) Try.func80 (c := bodyOf Try.f80) (by kernel_rfl) (by kernel_rfl) (by kernel_rfl) (by kernel_rfl) (by kernel_rfl) (Eq.mp (by kernel_rfl) g)

/-! ### (*pawl/mcas.held).load (81) -/
def S81 (a0 a1 a2 a3 : Value) (h : GH) (K : Value → GH → Prop) : Prop :=
 bnd (ncV a0) fun v1 =>
 bnd (faV 0 v1) fun v2 =>
 bnd (faV 0 v2) fun v3 =>
 bnd (ldV 1 false v3 h) fun v4 =>
 T Try.prog 82 [v4] h fun v5 h6 =>
 bnd (binV .add v5 a2) fun v7 =>
 T Try.prog 15 [a1, v7] h6 fun v8 h9 =>
 bnd (exV v8 0) fun v10 =>
 bnd (exV v8 1) fun v11 =>
 T Try.prog 83 [v10] h9 fun v12 h13 =>
 bnd (exV v12 0) fun v14 =>
 bnd (exV v12 1) fun v15 =>
 ifV v15 (
 bnd (binV .leq v14 a3) fun v16 =>
 K (.tuple #[v14, v16]) h13) (
 K (.tuple #[v14, (.bool false)]) h13)
def A81 : Ann := ⟨fun _ => ([], []), fun _ => []⟩
theorem S81_T {a0 a1 a2 a3 : Value} {h : GH} {K : Value → GH → Prop} (g : S81 a0 a1 a2 a3 h K) : T Try.prog 81 [a0, a1, a2, a3] h K :=
  T_of_gwp (A := A81) Try.func81 (c := bodyOf Try.f81) (by kernel_rfl) (by kernel_rfl) (by kernel_rfl) (by kernel_rfl) (by kernel_rfl) (Eq.mp (by kernel_rfl) g)

/-! ### pawl/desc.Base (82) -/
def S82 (a0 : Value) (h : GH) (K : Value → GH → Prop) : Prop :=
 bnd (binV .mul a0 (.int .i64 50)) fun v1 =>
 bnd (binV .add (.int .i64 34) v1) fun v2 =>
 K v2 h
def A82 : Ann := ⟨fun _ => ([], []), fun _ => []⟩
theorem S82_T {a0 : Value} {h : GH} {K : Value → GH → Prop} (g : S82 a0 h K) : T Try.prog 82 [a0] h K :=
  T_of_gwp (A := A82) Try.func82 (c := bodyOf Try.f82) (by kernel_rfl) (by kernel_rfl) (by kernel_rfl) (by kernel_rfl) (by kernel_rfl) (Eq.mp (by kernel_rfl) g)

/-! ### pawl/word.Plain (83) -/
def S83 (a0 : Value) (h : GH) (K : Value → GH → Prop) : Prop :=
 T Try.prog 25 [a0] h fun v1 h2 =>
 bnd (taV 112 (.int .i64 0) true v1) fun v3 =>
 bnd (exV v3 0) fun v4 =>
 bnd (exV v3 1) fun v5 =>
 K (.tuple #[v4, v5]) h2
def A83 : Ann := ⟨fun _ => ([], []), fun _ => []⟩
theorem S83_T {a0 : Value} {h : GH} {K : Value → GH → Prop} (g : S83 a0 h K) : T Try.prog 83 [a0] h K :=
  T_of_gwp (A := A83) Try.func83 (c := bodyOf Try.f83) (by kernel_rfl) (by kernel_rfl) (by kernel_rfl) (by kernel_rfl) (by kernel_rfl) (Eq.mp (by kernel_rfl) g)

/-! ### pawl/desc.State (84) -/
def S84 (a0 a1 : Value) (h : GH) (K : Value → GH → Prop) : Prop :=
 bnd (binV .mul a0 (.int .i64 4)) fun v1 =>
 bnd (binV .add v1 a1) fun v2 =>
 T Try.prog 42 [v2] h fun v3 h4 =>
 K v3 h4
def A84 : Ann := ⟨fun _ => ([], []), fun _ => []⟩
theorem S84_T {a0 a1 : Value} {h : GH} {K : Value → GH → Prop} (g : S84 a0 a1 h K) : T Try.prog 84 [a0, a1] h K :=
  T_of_gwp (A := A84) Try.func84 (c := bodyOf Try.f84) (by kernel_rfl) (by kernel_rfl) (by kernel_rfl) (by kernel_rfl) (by kernel_rfl) (Eq.mp (by kernel_rfl) g)

/-! ### (*pawl/arena.Arena).Swap$1 (85) -/
def S85 (a0 a1 a2 : Value) (h : GH) (K : Value → GH → Prop) : Prop :=
 bnd (ldV 1 false a1 h) fun v1 =>
 bnd (eqI a0 v1) fun b2 =>
 ifV (.bool b2) (
 bnd (ldV 1 false a2 h) fun v3 =>
 K v3 h) (
 K a0 h)
def A85 : Ann := ⟨fun _ => ([], []), fun _ => []⟩
theorem S85_T {a0 a1 a2 : Value} {h : GH} {K : Value → GH → Prop} (g : S85 a0 a1 a2 h K) : T Try.prog 85 [a0, a1, a2] h K :=
  T_of_gwp (A := A85) Try.func85 (c := bodyOf Try.f85) (by kernel_rfl) (by kernel_rfl) (by kernel_rfl) (by kernel_rfl) (by kernel_rfl) (Eq.mp (by kernel_rfl) g)

/-! ### (pawl/word.Entry).number (86) -/
def S86 (a0 : Value) (h : GH) (K : Value → GH → Prop) : Prop :=
 newV 107 (a0 : Value).cells.toList h fun v1 h2 =>
 bnd (faV 0 v1) fun v3 =>
 bnd (ldV 2 true v3 h2) fun v4 =>
 bnd (faV 2 v1) fun v5 =>
 bnd (ldV 1 false v5 h2) fun v6 =>
 bnd (faV 3 v1) fun v7 =>
 bnd (ldV 1 false v7 h2) fun v8 =>
 bnd (faV 4 v1) fun v9 =>
 bnd (ldV 1 false v9 h2) fun v10 =>
 T Try.prog 62 [v4] h2 fun v11 h12 =>
 ldV 1 false v9 h12 = some v10 ∧
 ldV 1 false v7 h12 = some v8 ∧
 ldV 1 false v5 h12 = some v6 ∧
 bnd (binV .mul v11 (.int .i64 16)) fun v13 =>
 bnd (binV .add v13 v6) fun v14 =>
 bnd (binV .mul v14 (.int .i64 4)) fun v15 =>
 bnd (binV .add v15 v8) fun v16 =>
 bnd (binV .mul v16 (.int .i64 1048576)) fun v17 =>
 bnd (binV .add v17 v10) fun v18 =>
 bnd (binV .mul v18 (.int .i64 4)) fun v19 =>
 bnd (binV .add v19 (.int .i64 1)) fun v20 =>
 K v20 h12
def A86 : Ann := ⟨fun | 1 => ([0, 1, 4, 5, 8, 9, 12, 13, 2, 3, 6, 7, 10, 11, 14, 15, 16, 17], [0, 1, 3, 7, 0, 16, 63, 127, 0, 256, 1023, 2047, 0, 4096, 16383, 32767, 65535, 131071]) | _ => ([], []), fun _ => []⟩
theorem S86_T {a0 : Value} {h : GH} {K : Value → GH → Prop} (g : S86 a0 h K) : T Try.prog 86 [a0] h K :=
  T_of_gwp (A := A86) Try.func86 (c := bodyOf Try.f86) (by kernel_rfl) (by kernel_rfl) (by kernel_rfl) (by kernel_rfl) (by kernel_rfl) (Eq.mp (by kernel_rfl) g)

/-! ### (pawl/word.Entry).plain (87) -/
def S87 (a0 : Value) (h : GH) (K : Value → GH → Prop) : Prop :=
 newV 107 (a0 : Value).cells.toList h fun v1 h2 =>
 newV 115 [(.int .i64 0), (.int .i64 0), (.int .i64 0), (.int .i64 0), (.int .i64 0), (.int .i64 0), (.int .i64 0)] h2 fun v3 h4 =>
 bnd (faV 0 v1) fun v5 =>
 bnd (faV 0 v5) fun v6 =>
 bnd (ldV 1 false v6 h4) fun v7 =>
 bnd (faV 0 v1) fun v8 =>
 bnd (faV 1 v8) fun v9 =>
 bnd (ldV 1 false v9 h4) fun v10 =>
 bnd (faV 2 v1) fun v11 =>
 bnd (ldV 1 false v11 h4) fun v12 =>
 bnd (faV 3 v1) fun v13 =>
 bnd (ldV 1 false v13 h4) fun v14 =>
 bnd (faV 4 v1) fun v15 =>
 bnd (ldV 1 false v15 h4) fun v16 =>
 bnd (fillV [(.int .i64 0), (.int .i64 0), (.int .i64 0), (.int .i64 0), (.int .i64 0), (.int .i64 0), (.int .i64 0)] [(0, 1, (.int .i64 1)), (2, 1, v7), (3, 1, v10), (4, 1, v12), (5, 1, v14), (6, 1, v16)]) fun c17 =>
 bnd (stV 7 v3 (.agg c17.toArray) h4) fun h18 =>
 bnd (ldV 7 true v3 h18) fun v19 =>
 K v19 h18
def A87 : Ann := ⟨fun _ => ([], []), fun _ => []⟩
theorem S87_T {a0 : Value} {h : GH} {K : Value → GH → Prop} (g : S87 a0 h K) : T Try.prog 87 [a0] h K :=
  T_of_gwp (A := A87) Try.func87 (c := bodyOf Try.f87) (by kernel_rfl) (by kernel_rfl) (by kernel_rfl) (by kernel_rfl) (by kernel_rfl) (Eq.mp (by kernel_rfl) g)

/-! ### (*pawl/mcas.entry).step (88) -/
def S88 (a0 a1 : Value) (h : GH) (K : Value → GH → Prop) : Prop :=
 bnd (ncV a0) fun v1 =>
 bnd (faV 11 v1) fun v2 =>
 bnd (ldV 1 false v2 h) fun v3 =>
 bnd (binV .add v3 (.int .i64 1)) fun v4 =>
 bnd (ncV a0) fun v5 =>
 bnd (faV 11 v5) fun v6 =>
 bnd (stV 1 v6 v4 h) fun h7 =>
 bnd (ncV a0) fun v8 =>
 bnd (faV 11 v8) fun v9 =>
 bnd (ldV 1 false v9 h7) fun v10 =>
 bnd (eqI v10 (.int .i64 1)) fun b11 =>
 ifV (.bool b11) (
 bnd (ncV a0) fun v12 =>
 bnd (faV 0 v12) fun v13 =>
 bnd (ncV a0) fun v14 =>
 bnd (faV 6 v14) fun v15 =>
 bnd (faV 2 v15) fun v16 =>
 bnd (ldV 1 false v16 h7) fun v17 =>
 T Try.prog 73 [v13, a1, v17] h7 fun v18 h19 =>
 K (.tuple #[.nilIface, (.bool false), v18]) h19) (
 bnd (eqI v10 (.int .i64 2)) fun b20 =>
 ifV (.bool b20) (
 bnd (ncV a0) fun v21 =>
 bnd (faV 0 v21) fun v22 =>
 bnd (ncV a0) fun v23 =>
 bnd (faV 6 v23) fun v24 =>
 bnd (faV 2 v24) fun v25 =>
 bnd (ldV 1 false v25 h7) fun v26 =>
 T Try.prog 74 [v22, a1, v26] h7 fun v27 h28 =>
 K (.tuple #[.nilIface, (.bool false), v27]) h28) (
 bnd (eqI v10 (.int .i64 3)) fun b29 =>
 ifV (.bool b29) (
 bnd (ncV a0) fun v30 =>
 bnd (faV 0 v30) fun v31 =>
 T Try.prog 75 [v31, a1] h7 fun v32 h33 =>
 K (.tuple #[.nilIface, (.bool false), v32]) h33) (
 bnd (ncV a0) fun v34 =>
 bnd (faV 0 v34) fun v35 =>
 bnd (ncV a0) fun v36 =>
 bnd (faV 6 v36) fun v37 =>
 bnd (ldV 5 true v37 h7) fun v38 =>
 T Try.prog 80 [(.iface 107 v38)] h7 fun v39 h40 =>
 T Try.prog 76 [v35, a1, v39] h40 fun v41 h42 =>
 K (.tuple #[.nilIface, (.bool true), (.bool true)]) h42)))
def A88 : Ann := ⟨fun | 4 => ([0, 1, 2, 3, 4, 5, 6, 7, 8, 9, 10, 11, 12], [0, 1, 3, 0, 0, 16, 48, 112, 240, 511, 1023, 2047, 4095]) | 6 => ([0, 1, 2, 3, 4, 5, 6, 7, 8, 9, 10, 11, 12], [0, 1, 3, 0, 0, 16, 48, 112, 240, 511, 1023, 2047, 4095]) | 9 => ([0, 1, 2, 3, 4, 5, 6, 7, 8, 9, 10], [0, 1, 3, 0, 0, 16, 48, 112, 240, 496, 1023]) | _ => ([], []), fun _ => []⟩
theorem S88_T {a0 a1 : Value} {h : GH} {K : Value → GH → Prop} (g : S88 a0 a1 h K) : T Try.prog 88 [a0, a1] h K :=
  T_of_gwp (A := A88) Try.func88 (c := bodyOf Try.f88) (by kernel_rfl) (by kernel_rfl) (by kernel_rfl) (by kernel_rfl) (by kernel_rfl) (Eq.mp (by kernel_rfl) g)

/-! ### (pawl/word.Value).plain (89) -/
def S89 (a0 : Value) (h : GH) (K : Value → GH → Prop) : Prop :=
 newV 115 [(.int .i64 0), (.int .i64 0), (.int .i64 0), (.int .i64 0), (.int .i64 0), (.int .i64 0), (.int .i64 0)] h fun v1 h2 =>
 bnd (fillV [(.int .i64 0), (.int .i64 0), (.int .i64 0), (.int .i64 0), (.int .i64 0), (.int .i64 0), (.int .i64 0)] [(1, 1, a0)]) fun c3 =>
 bnd (stV 7 v1 (.agg c3.toArray) h2) fun h4 =>
 bnd (ldV 7 true v1 h4) fun v5 =>
 K v5 h4
def A89 : Ann := ⟨fun _ => ([], []), fun _ => []⟩
theorem S89_T {a0 : Value} {h : GH} {K : Value → GH → Prop} (g : S89 a0 h K) : T Try.prog 89 [a0] h K :=
  T_of_gwp (A := A89) Try.func89 (c := bodyOf Try.f89) (by kernel_rfl) (by kernel_rfl) (by kernel_rfl) (by kernel_rfl) (by kernel_rfl) (Eq.mp (by kernel_rfl) g)
end Go.Proofs.Ytcdbamkjlghckaa
