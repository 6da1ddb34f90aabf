/- The functions of the program that this seat reaches, each in a shallow form over ghost heaps, with the kernel's word that it is what its loaded code computes. Nothing here is a statement on the program. Written by a program of this session. -/
import Derived.Test.YtnhiagemjonglaaGreatKS1
import Derived.Test.YtnhiagemjonglaaGreatProg
import Derived.KernelRfl
namespace Go.Proofs.YtnhiagemjonglaaGreat
open Go GW Go.Proofs
set_option linter.unusedVariables false
set_option maxRecDepth 100000

/-! ### (*pawl/pawlref10.frame).help (96) -/
def S96_j3 (x0 x1 x7 x18 : Value) (h : GH) (K : Value → GH → Prop)  : Prop :=
 bnd (ncV x0) fun v1 =>
 bnd (faV 0 v1) fun v2 =>
 bnd (faV 3 v2) fun v3 =>
 bnd (ldV 1 false v3 h) fun v4 =>
 bnd (ncV x0) fun v5 =>
 bnd (faV 0 v5) fun v6 =>
 bnd (faV 3 v6) fun v7 =>
 bnd (ldV 1 false v7 h) fun v8 =>
 T Tryz.prog 80 [v4, (.int .i64 0)] h fun v9 h10 =>
 ldV 1 false v7 h10 = some v8 ∧
 T Tryz.prog 80 [v8, x18] h10 fun v11 h12 =>
 T Tryz.prog 135 [x1, x7, v9, v11] h12 fun v13 h14 =>
 bnd (ncV x0) fun v15 =>
 bnd (faV 8 v15) fun v16 =>
 bnd (stV 1 v16 (.int .i64 1) h14) fun h17 =>
 K (.tuple #[(.int .i64 0), (.bool true), (.bool false)]) h17

def S96_j4 (x0 x1 x7 : Value) (h : GH) (K : Value → GH → Prop)  : Prop :=
 T Tryz.prog 137 [x0, x1, x7] h fun v1 h2 =>
 bnd (exV v1 0) fun v3 =>
 bnd (exV v1 1) fun v4 =>
 K (.tuple #[(.int .i64 0), v3, v4]) h2

def S96_j2 (x0 x1 x7 x35 x106 : Value) (h : GH) (K : Value → GH → Prop)  : Prop :=
 ifV x106 (
 bnd (ncV x0) fun v1 =>
 bnd (faV 8 v1) fun v2 =>
 bnd (ldV 1 false v2 h) fun v3 =>
 bnd (eqI v3 (.int .i64 9)) fun b4 =>
 ifV (.bool b4) (
 S96_j3 x0 x1 x7 (.int .i64 2) h K ) (
 S96_j3 x0 x1 x7 (.int .i64 1) h K )) (
 bnd (eqI x35 (.int .i64 13)) fun b5 =>
 ifV (.bool b5) (
 bnd (ncV x0) fun v6 =>
 bnd (faV 11 v6) fun v7 =>
 bnd (ldV 1 false v7 h) fun v8 =>
 bnd (ncV x0) fun v9 =>
 bnd (faV 16 v9) fun v10 =>
 bnd (ldV 1 false v10 h) fun v11 =>
 T Tryz.prog 136 [x0] h fun v12 h13 =>
 ldV 1 false v10 h13 = some v11 ∧
 ldV 1 false v7 h13 = some v8 ∧
 T Tryz.prog 135 [x1, v8, v12, v11] h13 fun v14 h15 =>
 T Tryz.prog 134 [x0, (.int .i64 11), (.int .i64 0)] h15 fun v16 h17 =>
 bnd (ncV x0) fun v18 =>
 bnd (faV 8 v18) fun v19 =>
 bnd (ldV 1 false v19 h17) fun v20 =>
 bnd (eqI v20 (.int .i64 0)) fun b21 =>
 K (.tuple #[(.int .i64 0), (.bool true), (.bool b21)]) h17) (
 bnd (eqI x35 (.int .i64 14)) fun b22 =>
 ifV (.bool b22) (
 T Tryz.prog 128 [x1, x7] h fun v23 h24 =>
 bnd (exV v23 0) fun v25 =>
 bnd (exV v23 1) fun v26 =>
 T Tryz.prog 131 [x0, v25] h24 fun v27 h28 =>
 bnd (exV v27 0) fun v29 =>
 bnd (exV v27 1) fun v30 =>
 bnd (exV v27 2) fun v31 =>
 ifV v29 (
 bnd (ncV x0) fun v32 =>
 bnd (faV 8 v32) fun v33 =>
 bnd (stV 1 v33 (.int .i64 5) h28) fun h34 =>
 bnd (ncV x0) fun v35 =>
 bnd (faV 16 v35) fun v36 =>
 bnd (ldV 1 false v36 h34) fun v37 =>
 K (.tuple #[v37, v31, (.bool false)]) h34) (
 bnd (ncV x0) fun v38 =>
 bnd (faV 15 v38) fun v39 =>
 bnd (stV 1 v39 v30 h28) fun h40 =>
 bnd (ncV x0) fun v41 =>
 bnd (faV 8 v41) fun v42 =>
 bnd (stV 1 v42 (.int .i64 10) h40) fun h43 =>
 K (.tuple #[(.int .i64 0), v31, (.bool false)]) h43)) (
 S96_j4 x0 x1 x7 h K )))

def S96_j1 (x0 x1 x7 x35 x36 : Value) (h : GH) (K : Value → GH → Prop)  : Prop :=
 ifV x36 (
 T Tryz.prog 128 [x1, x7] h fun v1 h2 =>
 bnd (exV v1 0) fun v3 =>
 bnd (exV v1 1) fun v4 =>
 T Tryz.prog 131 [x0, v3] h2 fun v5 h6 =>
 bnd (exV v5 0) fun v7 =>
 bnd (exV v5 1) fun v8 =>
 bnd (exV v5 2) fun v9 =>
 bnd (ncV x0) fun v10 =>
 bnd (faV 15 v10) fun v11 =>
 bnd (stV 1 v11 v8 h6) fun h12 =>
 bnd (ncV x0) fun v13 =>
 bnd (faV 8 v13) fun v14 =>
 bnd (stV 1 v14 (.int .i64 10) h12) fun h15 =>
 ifV v7 (
 bnd (ncV x0) fun v16 =>
 bnd (faV 8 v16) fun v17 =>
 bnd (stV 1 v17 (.int .i64 2) h15) fun h18 =>
 K (.tuple #[(.int .i64 0), v9, (.bool false)]) h18) (
 K (.tuple #[(.int .i64 0), v9, (.bool false)]) h15)) (
 bnd (eqI x35 (.int .i64 5)) fun b19 =>
 ifV (.bool b19) (
 T Tryz.prog 133 [x0, x1] h fun v20 h21 =>
 bnd (exV v20 0) fun v22 =>
 bnd (exV v20 1) fun v23 =>
 bnd (exV v20 2) fun v24 =>
 K (.tuple #[v22, v23, v24]) h21) (
 bnd (eqI x35 (.int .i64 6)) fun b25 =>
 ifV (.bool b25) (
 T Tryz.prog 128 [x1, x7] h fun v26 h27 =>
 bnd (exV v26 0) fun v28 =>
 bnd (exV v26 1) fun v29 =>
 T Tryz.prog 131 [x0, v28] h27 fun v30 h31 =>
 bnd (exV v30 0) fun v32 =>
 bnd (exV v30 1) fun v33 =>
 bnd (exV v30 2) fun v34 =>
 bnd (ncV x0) fun v35 =>
 bnd (faV 14 v35) fun v36 =>
 bnd (stV 1 v36 v32 h31) fun h37 =>
 bnd (ncV x0) fun v38 =>
 bnd (faV 8 v38) fun v39 =>
 bnd (stV 1 v39 (.int .i64 7) h37) fun h40 =>
 K (.tuple #[(.int .i64 0), v34, (.bool false)]) h40) (
 bnd (eqI x35 (.int .i64 7)) fun b41 =>
 ifV (.bool b41) (
 bnd (ncV x0) fun v42 =>
 bnd (faV 13 v42) fun v43 =>
 bnd (ldV 1 false v43 h) fun v44 =>
 T Tryz.prog 132 [x0, x1, v44] h fun v45 h46 =>
 T Tryz.prog 134 [x0, (.int .i64 3), (.int .i64 8)] h46 fun v47 h48 =>
 K (.tuple #[(.int .i64 0), (.bool true), (.bool false)]) h48) (
 bnd (eqI x35 (.int .i64 8)) fun b49 =>
 ifV (.bool b49) (
 S96_j2 x0 x1 x7 x35 (.bool true) h K ) (
 bnd (eqI x35 (.int .i64 9)) fun b50 =>
 S96_j2 x0 x1 x7 x35 (.bool b50) h K )))))
def S96 (a0 a1 : Value) (h : GH) (K : Value → GH → Prop) : Prop :=
 bnd (ncV a0) fun v1 =>
 bnd (faV 0 v1) fun v2 =>
 bnd (faV 2 v2) fun v3 =>
 bnd (ldV 1 false v3 h) fun v4 =>
 T Tryz.prog 82 [v4] h fun v5 h6 =>
 bnd (ncV a0) fun v7 =>
 bnd (faV 8 v7) fun v8 =>
 bnd (ldV 1 false v8 h6) fun v9 =>
 bnd (eqI v9 (.int .i64 0)) fun b10 =>
 ifV (.bool b10) (
 S96_j1 a0 a1 v5 v9 (.bool true) h6 K ) (
 bnd (eqI v9 (.int .i64 1)) fun b11 =>
 S96_j1 a0 a1 v5 v9 (.bool b11) h6 K )
def A96 : Ann := ⟨fun | 29 => ([0, 1, 2, 3, 4, 5, 6, 8, 9, 10, 11, 12, 13, 7, 14, 15], [0, 0, 0, 4, 12, 28, 60, 124, 0, 256, 768, 1792, 3840, 0, 16380, 32767]) | 33 => ([0, 1, 2, 3, 4, 5, 7, 8, 9, 10, 6, 11], [0, 0, 2, 6, 14, 0, 32, 0, 128, 384, 896, 2047]) | 35 => ([0, 1, 2, 3, 4, 5, 6, 7], [0, 1, 3, 7, 15, 0, 32, 127]) | _ => ([], []), fun _ => []⟩
theorem S96_T {a0 a1 : Value} {h : GH} {K : Value → GH → Prop} (g : S96 a0 a1 h K) : T Tryz.prog 96 [a0, a1] h K :=
  T_of_gwp (A := A96) Tryz.func96 (c := bodyOf Tryz.f96) (by kernel_rfl) (by kernel_rfl) (by kernel_rfl) (by kernel_rfl) (by kernel_rfl) (Eq.mp (by kernel_rfl) g)

/-! ### pawl/cells.ValueMay (97) -/
def S97 (a0 : Value) (h : GH) (K : Value → GH → Prop) : Prop :=
 T Tryz.prog 36 [a0, (.int .i64 1099511627776)] h fun v1 h2 =>
 K v1 h2
def A97 : Ann := ⟨fun _ => ([], []), fun _ => []⟩
theorem S97_T {a0 : Value} {h : GH} {K : Value → GH → Prop} (g : S97 a0 h K) : T Tryz.prog 97 [a0] h K :=
  T_of_gwp (A := A97) Tryz.func97 (c := bodyOf Tryz.f97) (by kernel_rfl) (by kernel_rfl) (by kernel_rfl) (by kernel_rfl) (by kernel_rfl) (Eq.mp (by kernel_rfl) g)

/-! ### pawl/cells.OpMay (98) -/
def S98 (a0 : Value) (h : GH) (K : Value → GH → Prop) : Prop :=
 bnd (fillV [(.int .i64 0), (.int .i64 0), (.int .i64 0)] [(0, 1, (.int .i64 4)), (1, 1, (.int .i64 1)), (2, 1, (.int .i64 1048576))]) fun c1 =>
 bnd (fillV [(.int .i64 0), (.int .i64 0), (.int .i64 0)] [(0, 1, (.int .i64 4)), (1, 1, (.int .i64 1)), (2, 1, (.int .i64 1))]) fun c2 =>
 bnd (fillV [(.int .i64 0), (.int .i64 0), (.int .i64 0)] [(0, 1, (.int .i64 4)), (1, 1, (.int .i64 1)), (2, 1, (.int .i64 1048576))]) fun c3 =>
 bnd (fillV [(.int .i64 0), (.int .i64 0), (.int .i64 0)] [(0, 1, (.int .i64 4)), (1, 1, (.int .i64 1)), (2, 1, (.int .i64 1048576))]) fun c4 =>
 bnd (fillV [(.int .i64 0), (.int .i64 0), (.int .i64 0)] [(0, 1, (.int .i64 4)), (1, 1, (.int .i64 4)), (2, 1, (.int .i64 1048576))]) fun c5 =>
 bnd (fillV [(.int .i64 0), (.int .i64 0), (.int .i64 0)] [(0, 1, (.int .i64 1)), (1, 1, (.int .i64 1)), (2, 1, (.int .i64 1))]) fun c6 =>
 bnd (fillV [(.int .i64 0), (.int .i64 0), (.int .i64 0)] [(0, 1, (.int .i64 5)), (1, 1, (.int .i64 1)), (2, 1, (.int .i64 2))]) fun c7 =>
 bnd (fillV [(.int .i64 0), (.int .i64 0), (.int .i64 0)] [(0, 1, (.int .i64 5)), (1, 1, (.int .i64 1)), (2, 1, (.int .i64 1))]) fun c8 =>
 bnd (fillV [(.int .i64 0), (.int .i64 0), (.int .i64 0)] [(0, 1, (.int .i64 5)), (1, 1, (.int .i64 1)), (2, 1, (.int .i64 1))]) fun c9 =>
 bnd (fillV [(.int .i64 0), (.int .i64 0), (.int .i64 0)] [(0, 1, (.int .i64 1)), (1, 1, (.int .i64 1)), (2, 1, (.int .i64 1))]) fun c10 =>
 bnd (fillV [(.int .i64 0), (.int .i64 0), (.int .i64 0)] [(0, 1, (.int .i64 5)), (1, 1, (.int .i64 5)), (2, 1, (.int .i64 1))]) fun c11 =>
 bnd (fillV (List.replicate 33 (.int .i64 0)) [(0, 3, (.agg c1.toArray)), (3, 3, (.agg c2.toArray)), (6, 3, (.agg c3.toArray)), (9, 3, (.agg c4.toArray)), (12, 3, (.agg c5.toArray)), (15, 3, (.agg c6.toArray)), (18, 3, (.agg c7.toArray)), (21, 3, (.agg c8.toArray)), (24, 3, (.agg c9.toArray)), (27, 3, (.agg c10.toArray)), (30, 3, (.agg c11.toArray))]) fun c12 =>
 newV 233 (List.replicate 33 (.int .i64 0)) h fun v13 h14 =>
 bnd (stV 33 v13 (.agg c12.toArray) h14) fun h15 =>
 bnd (ncV a0) fun v16 =>
 bnd (faV 0 v16) fun v17 =>
 bnd (ldV 1 false v17 h15) fun v18 =>
 T Tryz.prog 36 [v18, (.int .i64 11)] h15 fun v19 h20 =>
 bnd (unV .not v19) fun v21 =>
 ifV v21 (
 K (.bool false) h20) (
 bnd (ncV a0) fun v22 =>
 bnd (faV 0 v22) fun v23 =>
 bnd (ldV 1 false v23 h20) fun v24 =>
 bnd (iaV 11 3 v13 v24) fun v25 =>
 bnd (ldV 3 true v25 h20) fun v26 =>
 newV 232 [(.int .i64 0), (.int .i64 0), (.int .i64 0)] h20 fun v27 h28 =>
 bnd (stV 3 v27 v26 h28) fun h29 =>
 bnd (ncV a0) fun v30 =>
 bnd (faV 1 v30) fun v31 =>
 bnd (ldV 1 false v31 h29) fun v32 =>
 bnd (faV 0 v27) fun v33 =>
 bnd (ldV 1 false v33 h29) fun v34 =>
 T Tryz.prog 36 [v32, v34] h29 fun v35 h36 =>
 ifV v35 (
 bnd (ncV a0) fun v37 =>
 bnd (faV 2 v37) fun v38 =>
 bnd (ldV 1 false v38 h36) fun v39 =>
 bnd (faV 1 v27) fun v40 =>
 bnd (ldV 1 false v40 h36) fun v41 =>
 T Tryz.prog 36 [v39, v41] h36 fun v42 h43 =>
 ifV v42 (
 bnd (ncV a0) fun v44 =>
 bnd (faV 3 v44) fun v45 =>
 bnd (ldV 1 false v45 h43) fun v46 =>
 bnd (faV 2 v27) fun v47 =>
 bnd (ldV 1 false v47 h43) fun v48 =>
 T Tryz.prog 36 [v46, v48] h43 fun v49 h50 =>
 K v49 h50) (
 K (.bool false) h43)) (
 K (.bool false) h36))
def A98 : Ann := ⟨fun | 5 => ([0, 1, 2, 3, 4, 5, 6, 7, 8, 9, 10, 11, 12, 13, 14, 15, 16, 17, 18, 19, 20, 21, 22, 23, 24, 25], [0, 1, 3, 7, 0, 16, 63, 127, 255, 511, 1023, 2047, 255, 4351, 16383, 32767, 65535, 131071, 262143, 524287, 1048575, 131071, 2228223, 8388607, 16777215, 33554431]) | _ => ([], []), fun _ => []⟩
theorem S98_T {a0 : Value} {h : GH} {K : Value → GH → Prop} (g : S98 a0 h K) : T Tryz.prog 98 [a0] h K :=
  T_of_gwp (A := A98) Tryz.func98 (c := bodyOf Tryz.f98) (by kernel_rfl) (by kernel_rfl) (by kernel_rfl) (by kernel_rfl) (by kernel_rfl) (Eq.mp (by kernel_rfl) g)

/-! ### pawl/skip.code (99) -/
def S99 (a0 : Value) (h : GH) (K : Value → GH → Prop) : Prop :=
 newV 64 [(.int .i64 0), (.int .i64 0)] h fun v1 h2 =>
 bnd (fillV [(.int .i64 0), (.int .i64 0)] [(0, 1, a0)]) fun c3 =>
 bnd (stV 2 v1 (.agg c3.toArray) h2) fun h4 =>
 bnd (ldV 2 true v1 h4) fun v5 =>
 K v5 h4
def A99 : Ann := ⟨fun _ => ([], []), fun _ => []⟩
theorem S99_T {a0 : Value} {h : GH} {K : Value → GH → Prop} (g : S99 a0 h K) : T Tryz.prog 99 [a0] h K :=
  T_of_gwp (A := A99) Tryz.func99 (c := bodyOf Tryz.f99) (by kernel_rfl) (by kernel_rfl) (by kernel_rfl) (by kernel_rfl) (by kernel_rfl) (Eq.mp (by kernel_rfl) g)

/-! ### (pawl/skip.list).next (100) -/
def S100 (a0 a1 a2 : Value) (h : GH) (K : Value → GH → Prop) : Prop :=
 newV 193 (a0 : Value).cells.toList h fun v1 h2 =>
 bnd (ldV 1 true v1 h2) fun v3 =>
 T Tryz.prog 138 [v3, a1, a2] h2 fun v4 h5 =>
 bnd (binV .sub v4 (.int .i64 1)) fun v6 =>
 bnd (binV .leq v6 a1) fun v7 =>
 ifV v7 (
 K (.int .i64 (-1)) h5) (
 bnd (binV .geq v6 (.int .i64 5)) fun v8 =>
 ifV v8 (
 K (.int .i64 (-1)) h5) (
 K v6 h5))
def A100 : Ann := ⟨fun _ => ([], []), fun _ => []⟩
theorem S100_T {a0 a1 a2 : Value} {h : GH} {K : Value → GH → Prop} (g : S100 a0 a1 a2 h K) : T Tryz.prog 100 [a0, a1, a2] h K :=
  T_of_gwp (A := A100) Tryz.func100 (c := bodyOf Tryz.f100) (by kernel_rfl) (by kernel_rfl) (by kernel_rfl) (by kernel_rfl) (by kernel_rfl) (Eq.mp (by kernel_rfl) g)

/-! ### pawl/skip.done (101) -/
def S101 (a0 : Value) (h : GH) (K : Value → GH → Prop) : Prop :=
 newV 64 [(.int .i64 0), (.int .i64 0)] h fun v1 h2 =>
 bnd (fillV [(.int .i64 0), (.int .i64 0)] [(0, 1, (.int .i64 0)), (1, 1, a0)]) fun c3 =>
 bnd (stV 2 v1 (.agg c3.toArray) h2) fun h4 =>
 bnd (ldV 2 true v1 h4) fun v5 =>
 K v5 h4
def A101 : Ann := ⟨fun _ => ([], []), fun _ => []⟩
theorem S101_T {a0 : Value} {h : GH} {K : Value → GH → Prop} (g : S101 a0 h K) : T Tryz.prog 101 [a0] h K :=
  T_of_gwp (A := A101) Tryz.func101 (c := bodyOf Tryz.f101) (by kernel_rfl) (by kernel_rfl) (by kernel_rfl) (by kernel_rfl) (by kernel_rfl) (Eq.mp (by kernel_rfl) g)

/-! ### (*pawl/cells.Walk).Ask (102) -/
def S102 (a0 a1 a2 : Value) (h : GH) (K : Value → GH → Prop) : Prop :=
 newV 64 (a2 : Value).cells.toList h fun v1 h2 =>
 newV 54 ([(.int .i64 0)] ++ List.replicate 16 (.bool false) ++ List.replicate 32 (.int .i64 0) ++ [(.slice none 0 0)]) h2 fun v3 h4 =>
 bnd (ncV a0) fun v5 =>
 bnd (faV 48 v5) fun v6 =>
 bnd (ldV 1 false v6 h4) fun v7 =>
 bnd (taV 234 (.int .i64 0) true v7) fun v8 =>
 bnd (exV v8 0) fun v9 =>
 bnd (exV v8 1) fun v10 =>
 ifV v10 (
 bnd (ncV a1) fun v11 =>
 bnd (ldV 48 true v11 h4) fun v12 =>
 bnd (fillV ([(.int .i64 0)] ++ List.replicate 16 (.bool false) ++ List.replicate 32 (.int .i64 0) ++ [(.slice none 0 0)]) [(0, 1, v9), (1, 48, v12)]) fun c13 =>
 bnd (stV 50 v3 (.agg c13.toArray) h4) fun h14 =>
 bnd (ldV 50 true v3 h14) fun v15 =>
 K v15 h14) (
 bnd (ncV a0) fun v16 =>
 bnd (faV 0 v16) fun v17 =>
 bnd (ldV 48 true v17 h4) fun v18 =>
 bnd (ldV 2 true v1 h4) fun v19 =>
 bsV 64 1 [(.int .i64 0), (.int .i64 0)] [(0, 2, v19)] h4 fun v20 h21 =>
 bnd (fillV ([(.int .i64 0)] ++ List.replicate 16 (.bool false) ++ List.replicate 32 (.int .i64 0) ++ [(.slice none 0 0)]) [(0, 1, (.int .i64 (-1))), (1, 48, v18), (49, 1, v20)]) fun c22 =>
 newV 54 ([(.int .i64 0)] ++ List.replicate 16 (.bool false) ++ List.replicate 32 (.int .i64 0) ++ [(.slice none 0 0)]) h21 fun v23 h24 =>
 bnd (stV 50 v23 (.agg c22.toArray) h24) fun h25 =>
 bnd (faV 0 v1) fun v26 =>
 bnd (ldV 1 false v26 h25) fun v27 =>
 bnd (eqI v27 (.int .i64 0)) fun b28 =>
 ifV (.bool (!b28)) (
 bnd (ncV a1) fun v29 =>
 bnd (ldV 48 true v29 h25) fun v30 =>
 bnd (faV 1 v23) fun v31 =>
 bnd (stV 48 v31 v30 h25) fun h32 =>
 bnd (ldV 50 true v23 h32) fun v33 =>
 bnd (stV 50 v3 v33 h32) fun h34 =>
 bnd (ldV 50 true v3 h34) fun v35 =>
 K v35 h34) (
 bnd (ldV 50 true v23 h25) fun v36 =>
 bnd (stV 50 v3 v36 h25) fun h37 =>
 bnd (ldV 50 true v3 h37) fun v38 =>
 K v38 h37))
def A102 : Ann := ⟨fun | 4 => ([0, 1, 2, 3, 4, 5, 6, 7, 8], [0, 1, 3, 7, 0, 16, 63, 0, 255]) | _ => ([], []), fun _ => []⟩
theorem S102_T {a0 a1 a2 : Value} {h : GH} {K : Value → GH → Prop} (g : S102 a0 a1 a2 h K) : T Tryz.prog 102 [a0, a1, a2] h K :=
  T_of_gwp (A := A102) Tryz.func102 (c := bodyOf Tryz.f102) (by kernel_rfl) (by kernel_rfl) (by kernel_rfl) (by kernel_rfl) (by kernel_rfl) (Eq.mp (by kernel_rfl) g)

/-! ### (*pawl/skip.place).insert (103) -/
def S103 (a0 a1 : Value) (h : GH) (K : Value → GH → Prop) : Prop :=
 newV 64 [(.int .i64 0), (.int .i64 0)] h fun v1 h2 =>
 bnd (ncV a0) fun v3 =>
 bnd (faV 3 v3) fun v4 =>
 bnd (ldV 1 false v4 h2) fun v5 =>
 bnd (ncV a1) fun v6 =>
 bnd (faV 1 v6) fun v7 =>
 bnd (ldV 1 false v7 h2) fun v8 =>
 bnd (eqI v5 v8) fun b9 =>
 ifV (.bool b9) (
 T Tryz.prog 99 [(.int .i64 1)] h2 fun v10 h11 =>
 bnd (stV 2 v1 v10 h11) fun h12 =>
 bnd (ldV 2 true v1 h12) fun v13 =>
 K v13 h12) (
 bnd (ncV a0) fun v14 =>
 bnd (faV 0 v14) fun v15 =>
 bnd (ldV 1 true v15 h2) fun v16 =>
 bnd (ncV a1) fun v17 =>
 bnd (faV 1 v17) fun v18 =>
 bnd (ldV 1 false v18 h2) fun v19 =>
 bnd (ncV a0) fun v20 =>
 bnd (faV 2 v20) fun v21 =>
 bnd (ldV 1 false v21 h2) fun v22 =>
 T Tryz.prog 139 [v16, v19, v22, (.int .i64 0)] h2 fun v23 h24 =>
 bnd (ncV a1) fun v25 =>
 bnd (faV 3 v25) fun v26 =>
 bnd (ldV 1 false v26 h24) fun v27 =>
 bnd (eqI v27 (.int .i64 1)) fun b28 =>
 ifV (.bool b28) (
 bnd (ncV a0) fun v29 =>
 bnd (faV 0 v29) fun v30 =>
 bnd (ldV 1 true v30 h24) fun v31 =>
 bnd (ncV a1) fun v32 =>
 bnd (faV 1 v32) fun v33 =>
 bnd (ldV 1 false v33 h24) fun v34 =>
 bnd (ncV a0) fun v35 =>
 bnd (faV 1 v35) fun v36 =>
 bnd (ldV 1 false v36 h24) fun v37 =>
 T Tryz.prog 139 [v31, v34, v37, (.int .i64 1)] h24 fun v38 h39 =>
 bnd (ncV a1) fun v40 =>
 bnd (faV 1 v40) fun v41 =>
 bnd (ldV 1 false v41 h39) fun v42 =>
 T Tryz.prog 101 [v42] h39 fun v43 h44 =>
 bnd (stV 2 v1 v43 h44) fun h45 =>
 bnd (ldV 2 true v1 h45) fun v46 =>
 K v46 h45) (
 bnd (ncV a1) fun v47 =>
 bnd (faV 1 v47) fun v48 =>
 bnd (ldV 1 false v48 h24) fun v49 =>
 T Tryz.prog 101 [v49] h24 fun v50 h51 =>
 bnd (stV 2 v1 v50 h51) fun h52 =>
 bnd (ldV 2 true v1 h52) fun v53 =>
 K v53 h52))
def A103 : Ann := ⟨fun | 1 => ([0, 1, 2, 3, 4, 5, 6, 7, 8], [0, 1, 3, 7, 0, 16, 48, 112, 255]) | 3 => ([0, 1, 2, 3, 4, 5, 6, 7, 8, 9, 10, 11, 12], [0, 1, 3, 7, 0, 16, 48, 112, 0, 256, 768, 1792, 4095]) | 5 => ([0, 1, 2, 3, 4, 5, 6, 7, 8, 9, 10, 11, 12], [0, 1, 3, 7, 0, 16, 48, 112, 0, 256, 768, 1792, 4095]) | _ => ([], []), fun _ => []⟩
theorem S103_T {a0 a1 : Value} {h : GH} {K : Value → GH → Prop} (g : S103 a0 a1 h K) : T Tryz.prog 103 [a0, a1] h K :=
  T_of_gwp (A := A103) Tryz.func103 (c := bodyOf Tryz.f103) (by kernel_rfl) (by kernel_rfl) (by kernel_rfl) (by kernel_rfl) (by kernel_rfl) (Eq.mp (by kernel_rfl) g)

/-! ### (*pawl/skip.place).erase (104) -/
def S104 (a0 a1 : Value) (h : GH) (K : Value → GH → Prop) : Prop :=
 newV 64 [(.int .i64 0), (.int .i64 0)] h fun v1 h2 =>
 bnd (ncV a0) fun v3 =>
 bnd (faV 3 v3) fun v4 =>
 bnd (ldV 1 false v4 h2) fun v5 =>
 bnd (ncV a1) fun v6 =>
 bnd (faV 1 v6) fun v7 =>
 bnd (ldV 1 false v7 h2) fun v8 =>
 bnd (eqI v5 v8) fun b9 =>
 ifV (.bool (!b9)) (
 T Tryz.prog 99 [(.int .i64 2)] h2 fun v10 h11 =>
 bnd (stV 2 v1 v10 h11) fun h12 =>
 bnd (ldV 2 true v1 h12) fun v13 =>
 K v13 h12) (
 bnd (ncV a0) fun v14 =>
 bnd (faV 0 v14) fun v15 =>
 bnd (ldV 1 true v15 h2) fun v16 =>
 bnd (ncV a1) fun v17 =>
 bnd (faV 1 v17) fun v18 =>
 bnd (ldV 1 false v18 h2) fun v19 =>
 bnd (ncV a0) fun v20 =>
 bnd (faV 2 v20) fun v21 =>
 bnd (ldV 1 false v21 h2) fun v22 =>
 T Tryz.prog 140 [v16, v19, v22, (.int .i64 0)] h2 fun v23 h24 =>
 bnd (ncV a0) fun v25 =>
 bnd (faV 0 v25) fun v26 =>
 bnd (ldV 1 true v26 h24) fun v27 =>
 bnd (ncV a0) fun v28 =>
 bnd (faV 1 v28) fun v29 =>
 bnd (ldV 1 false v29 h24) fun v30 =>
 bnd (ncV a1) fun v31 =>
 bnd (faV 1 v31) fun v32 =>
 bnd (ldV 1 false v32 h24) fun v33 =>
 T Tryz.prog 100 [v27, v30, (.int .i64 1)] h24 fun v34 h35 =>
 ldV 1 false v32 h35 = some v33 ∧
 bnd (eqI v34 v33) fun b36 =>
 ifV (.bool b36) (
 bnd (ncV a0) fun v37 =>
 bnd (faV 0 v37) fun v38 =>
 bnd (ldV 1 true v38 h35) fun v39 =>
 bnd (ncV a1) fun v40 =>
 bnd (faV 1 v40) fun v41 =>
 bnd (ldV 1 false v41 h35) fun v42 =>
 bnd (ncV a0) fun v43 =>
 bnd (faV 1 v43) fun v44 =>
 bnd (ldV 1 false v44 h35) fun v45 =>
 T Tryz.prog 140 [v39, v42, v45, (.int .i64 1)] h35 fun v46 h47 =>
 bnd (ncV a1) fun v48 =>
 bnd (faV 1 v48) fun v49 =>
 bnd (ldV 1 false v49 h47) fun v50 =>
 T Tryz.prog 101 [v50] h47 fun v51 h52 =>
 bnd (stV 2 v1 v51 h52) fun h53 =>
 bnd (ldV 2 true v1 h53) fun v54 =>
 K v54 h53) (
 bnd (ncV a1) fun v55 =>
 bnd (faV 1 v55) fun v56 =>
 bnd (ldV 1 false v56 h35) fun v57 =>
 T Tryz.prog 101 [v57] h35 fun v58 h59 =>
 bnd (stV 2 v1 v58 h59) fun h60 =>
 bnd (ldV 2 true v1 h60) fun v61 =>
 K v61 h60))
def A104 : Ann := ⟨fun | 1 => ([0, 1, 2, 3, 4, 5, 6, 7, 8], [0, 1, 3, 7, 0, 16, 48, 112, 255]) | 3 => ([0, 1, 2, 3, 4, 5, 6, 7, 8, 9, 10, 11, 12], [0, 1, 3, 7, 0, 16, 48, 112, 0, 256, 768, 1792, 4095]) | 4 => ([0, 1, 2, 3, 4, 5, 6, 7, 9, 10, 11, 12, 8, 13], [0, 1, 3, 7, 0, 16, 48, 112, 255, 0, 512, 1536, 3584, 8191]) | 5 => ([0, 1, 2, 3, 4, 5, 6, 7, 8, 9, 10, 11, 12], [0, 1, 3, 7, 0, 16, 48, 112, 0, 256, 768, 1792, 4095]) | _ => ([], []), fun _ => []⟩
theorem S104_T {a0 a1 : Value} {h : GH} {K : Value → GH → Prop} (g : S104 a0 a1 h K) : T Tryz.prog 104 [a0, a1] h K :=
  T_of_gwp (A := A104) Tryz.func104 (c := bodyOf Tryz.f104) (by kernel_rfl) (by kernel_rfl) (by kernel_rfl) (by kernel_rfl) (by kernel_rfl) (Eq.mp (by kernel_rfl) g)

/-! ### (*pawl/skip.place).found (105) -/
def S105 (a0 a1 : Value) (h : GH) (K : Value → GH → Prop) : Prop :=
 newV 64 [(.int .i64 0), (.int .i64 0)] h fun v1 h2 =>
 bnd (ncV a0) fun v3 =>
 bnd (faV 3 v3) fun v4 =>
 bnd (ldV 1 false v4 h2) fun v5 =>
 bnd (ncV a1) fun v6 =>
 bnd (faV 1 v6) fun v7 =>
 bnd (ldV 1 false v7 h2) fun v8 =>
 bnd (eqI v5 v8) fun b9 =>
 ifV (.bool b9) (
 T Tryz.prog 101 [(.int .i64 1)] h2 fun v10 h11 =>
 bnd (stV 2 v1 v10 h11) fun h12 =>
 bnd (ldV 2 true v1 h12) fun v13 =>
 K v13 h12) (
 T Tryz.prog 101 [(.int .i64 0)] h2 fun v14 h15 =>
 bnd (stV 2 v1 v14 h15) fun h16 =>
 bnd (ldV 2 true v1 h16) fun v17 =>
 K v17 h16)
def A105 : Ann := ⟨fun | 1 => ([0, 1, 2, 3, 4, 5, 6, 7, 8], [0, 1, 3, 7, 0, 16, 48, 112, 255]) | _ => ([], []), fun _ => []⟩
theorem S105_T {a0 a1 : Value} {h : GH} {K : Value → GH → Prop} (g : S105 a0 a1 h K) : T Tryz.prog 105 [a0, a1] h K :=
  T_of_gwp (A := A105) Tryz.func105 (c := bodyOf Tryz.f105) (by kernel_rfl) (by kernel_rfl) (by kernel_rfl) (by kernel_rfl) (by kernel_rfl) (Eq.mp (by kernel_rfl) g)

/-! ### (*pawl/skip.place).bits (106) -/
def S106_j1 (s6 : Nat → Value) (x0 x1 x4 x5 x6 : Value) (h : GH) (K : Value → GH → Prop) (again8 : (Nat → Value) → GH → Prop) : Prop :=
 bnd (binV .shl (.int .i64 1) x6) fun v1 =>
 bnd (binV .or x5 v1) fun v2 =>
 bnd (ncV x0) fun v3 =>
 bnd (faV 0 v3) fun v4 =>
 bnd (ldV 1 true v4 h) fun v5 =>
 T Tryz.prog 100 [v5, x6, (.int .i64 0)] h fun v6 h7 =>
 again8 (tup [x0, x1, x4, v2, v6]) h7
def S106 (a0 a1 : Value) (h : GH) (K : Value → GH → Prop) : Prop :=
 newV 64 [(.int .i64 0), (.int .i64 0)] h fun v1 h2 =>
 bnd (ncV a0) fun v3 =>
 bnd (faV 3 v3) fun v4 =>
 bnd (ldV 1 false v4 h2) fun v5 =>
 Lfp (fun (s6 : Nat → Value) h7 again8 =>
 bnd (eqI (s6 4) (.int .i64 (-1))) fun b9 =>
 ifV (.bool (!b9)) (
 bnd (ncV (s6 1)) fun v10 =>
 bnd (faV 2 v10) fun v11 =>
 bnd (ldV 1 false v11 h7) fun v12 =>
 bnd (binV .leq (s6 4) v12) fun v13 =>
 ifV v13 (
 S106_j1 s6 (s6 0) (s6 1) (s6 2) (s6 3) (s6 4) h7 K again8) (
 T Tryz.prog 101 [(s6 3)] h7 fun v14 h15 =>
 bnd (stV 2 (s6 2) v14 h15) fun h16 =>
 bnd (ldV 2 true (s6 2) h16) fun v17 =>
 K v17 h16)) (
 T Tryz.prog 101 [(s6 3)] h7 fun v18 h19 =>
 bnd (stV 2 (s6 2) v18 h19) fun h20 =>
 bnd (ldV 2 true (s6 2) h20) fun v21 =>
 K v21 h20)) (tup [a0, a1, v1, (.int .i64 0), v5]) h2
def A106 : Ann := ⟨fun _ => ([], []), fun | 0 => [0, 1, 4, 5, 6] | _ => []⟩
theorem S106_T {a0 a1 : Value} {h : GH} {K : Value → GH → Prop} (g : S106 a0 a1 h K) : T Tryz.prog 106 [a0, a1] h K :=
  T_of_gwp (A := A106) Tryz.func106 (c := bodyOf Tryz.f106) (by kernel_rfl) (by kernel_rfl) (by kernel_rfl) (by kernel_rfl) (by kernel_rfl) (Eq.mp (by kernel_rfl) g)

/-! ### (pawl/skip.list).find (107) -/
def S107 (a0 a1 : Value) (h : GH) (K : Value → GH → Prop) : Prop :=
 newV 193 (a0 : Value).cells.toList h fun v1 h2 =>
 bnd (ldV 1 true v1 h2) fun v3 =>
 bnd (fillV [(.pointer none), (.int .i64 0), (.int .i64 0), (.int .i64 0)] [(0, 1, v3)]) fun c4 =>
 newV 237 ((.agg c4.toArray) : Value).cells.toList h2 fun v5 h6 =>
 bnd (ldV 1 true v1 h6) fun v7 =>
 T Tryz.prog 141 [v7, a1, (.int .i64 (-1)), (.int .i64 1)] h6 fun v8 h9 =>
 bnd (ncV v5) fun v10 =>
 bnd (faV 1 v10) fun v11 =>
 bnd (stV 1 v11 v8 h9) fun h12 =>
 bnd (ldV 1 true v1 h12) fun v13 =>
 bnd (ncV v5) fun v14 =>
 bnd (faV 1 v14) fun v15 =>
 bnd (ldV 1 false v15 h12) fun v16 =>
 T Tryz.prog 141 [v13, a1, v16, (.int .i64 0)] h12 fun v17 h18 =>
 bnd (ncV v5) fun v19 =>
 bnd (faV 2 v19) fun v20 =>
 bnd (stV 1 v20 v17 h18) fun h21 =>
 bnd (ldV 1 true v1 h21) fun v22 =>
 bnd (ncV v5) fun v23 =>
 bnd (faV 2 v23) fun v24 =>
 bnd (ldV 1 false v24 h21) fun v25 =>
 T Tryz.prog 100 [v22, v25, (.int .i64 0)] h21 fun v26 h27 =>
 bnd (ncV v5) fun v28 =>
 bnd (faV 3 v28) fun v29 =>
 bnd (stV 1 v29 v26 h27) fun h30 =>
 K v5 h30
def A107 : Ann := ⟨fun | 3 => ([0, 1, 2, 3, 4, 5, 6, 7, 8, 9, 10], [0, 0, 0, 0, 8, 24, 56, 126, 255, 511, 1023]) | 4 => ([0, 1, 2, 3, 4, 5, 6, 7, 8, 9], [0, 0, 0, 4, 12, 28, 62, 127, 255, 511]) | _ => ([], []), fun _ => []⟩
theorem S107_T {a0 a1 : Value} {h : GH} {K : Value → GH → Prop} (g : S107 a0 a1 h K) : T Tryz.prog 107 [a0, a1] h K :=
  T_of_gwp (A := A107) Tryz.func107 (c := bodyOf Tryz.f107) (by kernel_rfl) (by kernel_rfl) (by kernel_rfl) (by kernel_rfl) (by kernel_rfl) (Eq.mp (by kernel_rfl) g)

/-! ### pawl/bank.open (108) -/
def S108 (a0 a1 : Value) (h : GH) (K : Value → GH → Prop) : Prop :=
 newV 64 [(.int .i64 0), (.int .i64 0)] h fun v1 h2 =>
 bnd (ncV a1) fun v3 =>
 bnd (faV 1 v3) fun v4 =>
 bnd (ldV 1 false v4 h2) fun v5 =>
 T Tryz.prog 142 [a0, v5] h2 fun v6 h7 =>
 bnd (ncV v6) fun v8 =>
 bnd (faV 2 v8) fun v9 =>
 bnd (ldV 1 false v9 h7) fun v10 =>
 ifV v10 (
 T Tryz.prog 143 [(.int .i64 1)] h7 fun v11 h12 =>
 bnd (stV 2 v1 v11 h12) fun h13 =>
 bnd (ldV 2 true v1 h13) fun v14 =>
 K v14 h13) (
 bnd (ncV a1) fun v15 =>
 bnd (faV 3 v15) fun v16 =>
 bnd (ldV 1 false v16 h7) fun v17 =>
 T Tryz.prog 144 [v6, v17] h7 fun v18 h19 =>
 bnd (stV 2 v1 v18 h19) fun h20 =>
 bnd (ldV 2 true v1 h20) fun v21 =>
 K v21 h20)
def A108 : Ann := ⟨fun _ => ([], []), fun _ => []⟩
theorem S108_T {a0 a1 : Value} {h : GH} {K : Value → GH → Prop} (g : S108 a0 a1 h K) : T Tryz.prog 108 [a0, a1] h K :=
  T_of_gwp (A := A108) Tryz.func108 (c := bodyOf Tryz.f108) (by kernel_rfl) (by kernel_rfl) (by kernel_rfl) (by kernel_rfl) (by kernel_rfl) (Eq.mp (by kernel_rfl) g)

/-! ### pawl/bank.closes (109) -/
def S109 (a0 a1 : Value) (h : GH) (K : Value → GH → Prop) : Prop :=
 newV 64 [(.int .i64 0), (.int .i64 0)] h fun v1 h2 =>
 bnd (ncV a1) fun v3 =>
 bnd (faV 1 v3) fun v4 =>
 bnd (ldV 1 false v4 h2) fun v5 =>
 T Tryz.prog 142 [a0, v5] h2 fun v6 h7 =>
 bnd (ncV v6) fun v8 =>
 bnd (faV 2 v8) fun v9 =>
 bnd (ldV 1 false v9 h7) fun v10 =>
 bnd (unV .not v10) fun v11 =>
 ifV v11 (
 T Tryz.prog 143 [(.int .i64 2)] h7 fun v12 h13 =>
 bnd (stV 2 v1 v12 h13) fun h14 =>
 bnd (ldV 2 true v1 h14) fun v15 =>
 K v15 h14) (
 bnd (ncV v6) fun v16 =>
 bnd (faV 1 v16) fun v17 =>
 bnd (ldV 1 false v17 h7) fun v18 =>
 T Tryz.prog 145 [a0, v18, (.int .i64 0)] h7 fun v19 h20 =>
 bnd (ncV v6) fun v21 =>
 bnd (faV 3 v21) fun v22 =>
 bnd (ldV 1 false v22 h20) fun v23 =>
 T Tryz.prog 146 [v23] h20 fun v24 h25 =>
 bnd (stV 2 v1 v24 h25) fun h26 =>
 bnd (ldV 2 true v1 h26) fun v27 =>
 K v27 h26)
def A109 : Ann := ⟨fun _ => ([], []), fun _ => []⟩
theorem S109_T {a0 a1 : Value} {h : GH} {K : Value → GH → Prop} (g : S109 a0 a1 h K) : T Tryz.prog 109 [a0, a1] h K :=
  T_of_gwp (A := A109) Tryz.func109 (c := bodyOf Tryz.f109) (by kernel_rfl) (by kernel_rfl) (by kernel_rfl) (by kernel_rfl) (by kernel_rfl) (Eq.mp (by kernel_rfl) g)

/-! ### pawl/bank.deposit (110) -/
def S110 (a0 a1 : Value) (h : GH) (K : Value → GH → Prop) : Prop :=
 newV 64 [(.int .i64 0), (.int .i64 0)] h fun v1 h2 =>
 bnd (ncV a1) fun v3 =>
 bnd (faV 1 v3) fun v4 =>
 bnd (ldV 1 false v4 h2) fun v5 =>
 T Tryz.prog 142 [a0, v5] h2 fun v6 h7 =>
 bnd (ncV v6) fun v8 =>
 bnd (faV 2 v8) fun v9 =>
 bnd (ldV 1 false v9 h7) fun v10 =>
 bnd (unV .not v10) fun v11 =>
 ifV v11 (
 T Tryz.prog 143 [(.int .i64 2)] h7 fun v12 h13 =>
 bnd (stV 2 v1 v12 h13) fun h14 =>
 bnd (ldV 2 true v1 h14) fun v15 =>
 K v15 h14) (
 bnd (ncV v6) fun v16 =>
 bnd (faV 3 v16) fun v17 =>
 bnd (ldV 1 false v17 h7) fun v18 =>
 bnd (ncV a1) fun v19 =>
 bnd (faV 3 v19) fun v20 =>
 bnd (ldV 1 false v20 h7) fun v21 =>
 bnd (binV .sub (.int .i64 1048575) v21) fun v22 =>
 bnd (binV .gtr v18 v22) fun v23 =>
 ifV v23 (
 T Tryz.prog 143 [(.int .i64 4)] h7 fun v24 h25 =>
 bnd (stV 2 v1 v24 h25) fun h26 =>
 bnd (ldV 2 true v1 h26) fun v27 =>
 K v27 h26) (
 bnd (ncV v6) fun v28 =>
 bnd (faV 3 v28) fun v29 =>
 bnd (ldV 1 false v29 h7) fun v30 =>
 bnd (ncV a1) fun v31 =>
 bnd (faV 3 v31) fun v32 =>
 bnd (ldV 1 false v32 h7) fun v33 =>
 bnd (binV .add v30 v33) fun v34 =>
 T Tryz.prog 144 [v6, v34] h7 fun v35 h36 =>
 bnd (stV 2 v1 v35 h36) fun h37 =>
 bnd (ldV 2 true v1 h37) fun v38 =>
 K v38 h37))
def A110 : Ann := ⟨fun | 4 => ([0, 1, 2, 3, 4, 5, 6, 7, 8, 9, 10], [0, 1, 3, 7, 0, 16, 48, 112, 240, 511, 1023]) | 6 => ([0, 1, 2, 3, 4, 5, 6, 7, 8, 9, 10, 11], [0, 0, 2, 6, 14, 0, 32, 96, 224, 510, 1023, 2047]) | _ => ([], []), fun _ => []⟩
theorem S110_T {a0 a1 : Value} {h : GH} {K : Value → GH → Prop} (g : S110 a0 a1 h K) : T Tryz.prog 110 [a0, a1] h K :=
  T_of_gwp (A := A110) Tryz.func110 (c := bodyOf Tryz.f110) (by kernel_rfl) (by kernel_rfl) (by kernel_rfl) (by kernel_rfl) (by kernel_rfl) (Eq.mp (by kernel_rfl) g)

/-! ### pawl/bank.withdraw (111) -/
def S111 (a0 a1 : Value) (h : GH) (K : Value → GH → Prop) : Prop :=
 newV 64 [(.int .i64 0), (.int .i64 0)] h fun v1 h2 =>
 bnd (ncV a1) fun v3 =>
 bnd (faV 1 v3) fun v4 =>
 bnd (ldV 1 false v4 h2) fun v5 =>
 T Tryz.prog 142 [a0, v5] h2 fun v6 h7 =>
 bnd (ncV v6) fun v8 =>
 bnd (faV 2 v8) fun v9 =>
 bnd (ldV 1 false v9 h7) fun v10 =>
 bnd (unV .not v10) fun v11 =>
 ifV v11 (
 T Tryz.prog 143 [(.int .i64 2)] h7 fun v12 h13 =>
 bnd (stV 2 v1 v12 h13) fun h14 =>
 bnd (ldV 2 true v1 h14) fun v15 =>
 K v15 h14) (
 bnd (ncV v6) fun v16 =>
 bnd (faV 3 v16) fun v17 =>
 bnd (ldV 1 false v17 h7) fun v18 =>
 bnd (ncV a1) fun v19 =>
 bnd (faV 3 v19) fun v20 =>
 bnd (ldV 1 false v20 h7) fun v21 =>
 bnd (binV .lss v18 v21) fun v22 =>
 ifV v22 (
 T Tryz.prog 143 [(.int .i64 3)] h7 fun v23 h24 =>
 bnd (stV 2 v1 v23 h24) fun h25 =>
 bnd (ldV 2 true v1 h25) fun v26 =>
 K v26 h25) (
 bnd (ncV v6) fun v27 =>
 bnd (faV 3 v27) fun v28 =>
 bnd (ldV 1 false v28 h7) fun v29 =>
 bnd (ncV a1) fun v30 =>
 bnd (faV 3 v30) fun v31 =>
 bnd (ldV 1 false v31 h7) fun v32 =>
 bnd (binV .sub v29 v32) fun v33 =>
 T Tryz.prog 144 [v6, v33] h7 fun v34 h35 =>
 bnd (stV 2 v1 v34 h35) fun h36 =>
 bnd (ldV 2 true v1 h36) fun v37 =>
 K v37 h36))
def A111 : Ann := ⟨fun | 4 => ([0, 1, 2, 3, 4, 5, 6, 7, 8, 9], [0, 1, 3, 7, 0, 16, 48, 112, 255, 511]) | 6 => ([0, 1, 2, 3, 4, 5, 6, 7, 8, 9, 10, 11], [0, 0, 2, 6, 14, 0, 32, 96, 224, 510, 1023, 2047]) | _ => ([], []), fun _ => []⟩
theorem S111_T {a0 a1 : Value} {h : GH} {K : Value → GH → Prop} (g : S111 a0 a1 h K) : T Tryz.prog 111 [a0, a1] h K :=
  T_of_gwp (A := A111) Tryz.func111 (c := bodyOf Tryz.f111) (by kernel_rfl) (by kernel_rfl) (by kernel_rfl) (by kernel_rfl) (by kernel_rfl) (Eq.mp (by kernel_rfl) g)

/-! ### pawl/bank.transfer (112) -/
def S112_j2 (x1 x4 x5 x6 : Value) (h : GH) (K : Value → GH → Prop)  : Prop :=
 bnd (ncV x6) fun v1 =>
 bnd (faV 3 v1) fun v2 =>
 bnd (ldV 1 false v2 h) fun v3 =>
 bnd (ncV x1) fun v4 =>
 bnd (faV 3 v4) fun v5 =>
 bnd (ldV 1 false v5 h) fun v6 =>
 bnd (binV .add v3 v6) fun v7 =>
 T Tryz.prog 144 [x6, v7] h fun v8 h9 =>
 bnd (ncV x5) fun v10 =>
 bnd (faV 3 v10) fun v11 =>
 bnd (ldV 1 false v11 h9) fun v12 =>
 bnd (ncV x1) fun v13 =>
 bnd (faV 3 v13) fun v14 =>
 bnd (ldV 1 false v14 h9) fun v15 =>
 bnd (binV .sub v12 v15) fun v16 =>
 T Tryz.prog 144 [x5, v16] h9 fun v17 h18 =>
 bnd (stV 2 x4 v17 h18) fun h19 =>
 bnd (ldV 2 true x4 h19) fun v20 =>
 K v20 h19

def S112_j1 (x1 x4 x5 x6 x19 : Value) (h : GH) (K : Value → GH → Prop)  : Prop :=
 ifV x19 (
 T Tryz.prog 143 [(.int .i64 2)] h fun v1 h2 =>
 bnd (stV 2 x4 v1 h2) fun h3 =>
 bnd (ldV 2 true x4 h3) fun v4 =>
 K v4 h3) (
 bnd (ncV x5) fun v5 =>
 bnd (faV 3 v5) fun v6 =>
 bnd (ldV 1 false v6 h) fun v7 =>
 bnd (ncV x1) fun v8 =>
 bnd (faV 3 v8) fun v9 =>
 bnd (ldV 1 false v9 h) fun v10 =>
 bnd (binV .lss v7 v10) fun v11 =>
 ifV v11 (
 T Tryz.prog 143 [(.int .i64 3)] h fun v12 h13 =>
 bnd (stV 2 x4 v12 h13) fun h14 =>
 bnd (ldV 2 true x4 h14) fun v15 =>
 K v15 h14) (
 bnd (ncV x1) fun v16 =>
 bnd (faV 1 v16) fun v17 =>
 bnd (ldV 1 false v17 h) fun v18 =>
 bnd (ncV x1) fun v19 =>
 bnd (faV 2 v19) fun v20 =>
 bnd (ldV 1 false v20 h) fun v21 =>
 bnd (eqI v18 v21) fun b22 =>
 ifV (.bool b22) (
 bnd (ncV x5) fun v23 =>
 bnd (faV 3 v23) fun v24 =>
 bnd (ldV 1 false v24 h) fun v25 =>
 T Tryz.prog 146 [v25] h fun v26 h27 =>
 bnd (stV 2 x4 v26 h27) fun h28 =>
 bnd (ldV 2 true x4 h28) fun v29 =>
 K v29 h28) (
 bnd (ncV x6) fun v30 =>
 bnd (faV 3 v30) fun v31 =>
 bnd (ldV 1 false v31 h) fun v32 =>
 bnd (ncV x1) fun v33 =>
 bnd (faV 3 v33) fun v34 =>
 bnd (ldV 1 false v34 h) fun v35 =>
 bnd (binV .sub (.int .i64 1048575) v35) fun v36 =>
 bnd (binV .gtr v32 v36) fun v37 =>
 ifV v37 (
 T Tryz.prog 143 [(.int .i64 4)] h fun v38 h39 =>
 bnd (stV 2 x4 v38 h39) fun h40 =>
 bnd (ldV 2 true x4 h40) fun v41 =>
 K v41 h40) (
 S112_j2 x1 x4 x5 x6 h K ))))
def S112 (a0 a1 : Value) (h : GH) (K : Value → GH → Prop) : Prop :=
 newV 64 [(.int .i64 0), (.int .i64 0)] h fun v1 h2 =>
 bnd (ncV a1) fun v3 =>
 bnd (faV 1 v3) fun v4 =>
 bnd (ldV 1 false v4 h2) fun v5 =>
 bnd (ncV a1) fun v6 =>
 bnd (faV 2 v6) fun v7 =>
 bnd (ldV 1 false v7 h2) fun v8 =>
 T Tryz.prog 142 [a0, v5] h2 fun v9 h10 =>
 ldV 1 false v7 h10 = some v8 ∧
 T Tryz.prog 142 [a0, v8] h10 fun v11 h12 =>
 bnd (ncV v9) fun v13 =>
 bnd (faV 2 v13) fun v14 =>
 bnd (ldV 1 false v14 h12) fun v15 =>
 bnd (unV .not v15) fun v16 =>
 ifV v16 (
 S112_j1 a1 v1 v9 v11 (.bool true) h12 K ) (
 bnd (ncV v11) fun v17 =>
 bnd (faV 2 v17) fun v18 =>
 bnd (ldV 1 false v18 h12) fun v19 =>
 bnd (unV .not v19) fun v20 =>
 S112_j1 a1 v1 v9 v11 v20 h12 K )
def A112 : Ann := ⟨fun | 1 => ([0, 1, 2, 3, 4, 6, 7, 8, 9, 10, 5, 11, 12, 13], [0, 0, 2, 6, 14, 31, 0, 0, 128, 384, 896, 2047, 4095, 8191]) | 4 => ([0, 1, 2, 3, 4, 5, 6, 7, 8, 9], [0, 1, 3, 7, 0, 16, 48, 112, 255, 511]) | 6 => ([0, 1, 2, 3, 4, 5, 6, 7, 8, 9], [0, 1, 3, 7, 0, 16, 48, 112, 255, 511]) | 8 => ([0, 1, 2, 3, 4, 5, 6, 7, 8, 9, 10], [0, 1, 3, 7, 0, 16, 48, 112, 240, 511, 1023]) | 10 => ([0, 1, 2, 3, 4, 5, 6, 7, 8, 9, 10], [0, 0, 2, 6, 14, 0, 32, 96, 224, 510, 1023]) | 11 => ([0, 1, 2, 3, 4, 5, 6, 7, 8, 9, 10, 11], [0, 0, 2, 6, 14, 0, 32, 96, 224, 510, 1023, 2047]) | _ => ([], []), fun _ => []⟩
theorem S112_T {a0 a1 : Value} {h : GH} {K : Value → GH → Prop} (g : S112 a0 a1 h K) : T Tryz.prog 112 [a0, a1] h K :=
  T_of_gwp (A := A112) Tryz.func112 (c := bodyOf Tryz.f112) (by kernel_rfl) (by kernel_rfl) (by kernel_rfl) (by kernel_rfl) (by kernel_rfl) (Eq.mp (by kernel_rfl) g)

/-! ### pawl/bank.sum (113) -/
def S113 (a0 a1 : Value) (h : GH) (K : Value → GH → Prop) : Prop :=
 newV 64 [(.int .i64 0), (.int .i64 0)] h fun v1 h2 =>
 Lfp (fun (s3 : Nat → Value) h4 again5 =>
 bnd (binV .lss (s3 3) (.int .i64 4)) fun v6 =>
 ifV v6 (
 T Tryz.prog 142 [(s3 0), (s3 3)] h4 fun v7 h8 =>
 bnd (ncV v7) fun v9 =>
 bnd (faV 2 v9) fun v10 =>
 bnd (ldV 1 false v10 h8) fun v11 =>
 ifV v11 (
 bnd (ncV v7) fun v12 =>
 bnd (faV 3 v12) fun v13 =>
 bnd (ldV 1 false v13 h8) fun v14 =>
 bnd (binV .add (s3 2) v14) fun v15 =>
 bnd (binV .add (s3 3) (.int .i64 1)) fun v16 =>
 again5 (tup [(s3 0), (s3 1), v15, v16]) h8) (
 bnd (binV .add (s3 3) (.int .i64 1)) fun v17 =>
 again5 (tup [(s3 0), (s3 1), (s3 2), v17]) h8)) (
 T Tryz.prog 146 [(s3 2)] h4 fun v18 h19 =>
 bnd (stV 2 (s3 1) v18 h19) fun h20 =>
 bnd (ldV 2 true (s3 1) h20) fun v21 =>
 K v21 h20)) (tup [a0, v1, (.int .i64 0), (.int .i64 0)]) h2
def A113 : Ann := ⟨fun _ => ([], []), fun | 0 => [0, 4, 5, 8] | _ => []⟩
theorem S113_T {a0 a1 : Value} {h : GH} {K : Value → GH → Prop} (g : S113 a0 a1 h K) : T Tryz.prog 113 [a0, a1] h K :=
  T_of_gwp (A := A113) Tryz.func113 (c := bodyOf Tryz.f113) (by kernel_rfl) (by kernel_rfl) (by kernel_rfl) (by kernel_rfl) (by kernel_rfl) (Eq.mp (by kernel_rfl) g)

/-! ### pawl/desc.may (114) -/
def S114 (a0 : Value) (h : GH) (K : Value → GH → Prop) : Prop :=
 bnd (lnV a0) fun v1 =>
 Lfp (fun (s2 : Nat → Value) h3 again4 =>
 bnd (binV .lss (s2 4) (s2 3)) fun v5 =>
 ifV v5 (
 bnd (isV 3 (s2 2) (s2 4)) fun v6 =>
 bnd (ldV 3 true v6 h3) fun v7 =>
 newV 158 [(.int .i64 0), (.int .i64 0), (.int .i64 0)] h3 fun v8 h9 =>
 bnd (stV 3 v8 v7 h9) fun h10 =>
 bnd (faV 0 v8) fun v11 =>
 bnd (ldV 1 false v11 h10) fun v12 =>
 bnd (binV .leq v12 (s2 1)) fun v13 =>
 ifV v13 (
 K (.bool false) h10) (
 bnd (faV 0 v8) fun v14 =>
 bnd (ldV 1 false v14 h10) fun v15 =>
 bnd (binV .geq v15 (.int .i64 16)) fun v16 =>
 ifV v16 (
 K (.bool false) h10) (
 bnd (faV 1 v8) fun v17 =>
 bnd (ldV 1 false v17 h10) fun v18 =>
 T Tryz.prog 97 [v18] h10 fun v19 h20 =>
 bnd (unV .not v19) fun v21 =>
 ifV v21 (
 K (.bool false) h20) (
 bnd (faV 2 v8) fun v22 =>
 bnd (ldV 1 false v22 h20) fun v23 =>
 T Tryz.prog 97 [v23] h20 fun v24 h25 =>
 bnd (unV .not v24) fun v26 =>
 ifV v26 (
 K (.bool false) h25) (
 bnd (faV 0 v8) fun v27 =>
 bnd (ldV 1 false v27 h25) fun v28 =>
 bnd (binV .add (s2 4) (.int .i64 1)) fun v29 =>
 again4 (tup [(s2 0), v28, (s2 2), (s2 3), v29]) h25))))) (
 bnd (lnV (s2 0)) fun v30 =>
 bnd (binV .leq v30 (.int .i64 16)) fun v31 =>
 K v31 h3)) (tup [a0, (.int .i64 (-1)), a0, v1, (.int .i64 0)]) h
def A114 : Ann := ⟨fun _ => ([], []), fun | 0 => [0, 3, 6, 7, 8] | _ => []⟩
theorem S114_T {a0 : Value} {h : GH} {K : Value → GH → Prop} (g : S114 a0 h K) : T Tryz.prog 114 [a0] h K :=
  T_of_gwp (A := A114) Tryz.func114 (c := bodyOf Tryz.f114) (by kernel_rfl) (by kernel_rfl) (by kernel_rfl) (by kernel_rfl) (by kernel_rfl) (Eq.mp (by kernel_rfl) g)

/-! ### pawl/desc.Base (115) -/
def S115 (a0 : Value) (h : GH) (K : Value → GH → Prop) : Prop :=
 bnd (binV .mul a0 (.int .i64 50)) fun v1 =>
 bnd (binV .add (.int .i64 34) v1) fun v2 =>
 K v2 h
def A115 : Ann := ⟨fun _ => ([], []), fun _ => []⟩
theorem S115_T {a0 : Value} {h : GH} {K : Value → GH → Prop} (g : S115 a0 h K) : T Tryz.prog 115 [a0] h K :=
  T_of_gwp (A := A115) Tryz.func115 (c := bodyOf Tryz.f115) (by kernel_rfl) (by kernel_rfl) (by kernel_rfl) (by kernel_rfl) (by kernel_rfl) (Eq.mp (by kernel_rfl) g)

/-! ### pawl/desc.State (116) -/
def S116 (a0 a1 : Value) (h : GH) (K : Value → GH → Prop) : Prop :=
 bnd (binV .mul a0 (.int .i64 4)) fun v1 =>
 bnd (binV .add v1 a1) fun v2 =>
 T Tryz.prog 117 [v2] h fun v3 h4 =>
 K v3 h4
def A116 : Ann := ⟨fun _ => ([], []), fun _ => []⟩
theorem S116_T {a0 a1 : Value} {h : GH} {K : Value → GH → Prop} (g : S116 a0 a1 h K) : T Tryz.prog 116 [a0, a1] h K :=
  T_of_gwp (A := A116) Tryz.func116 (c := bodyOf Tryz.f116) (by kernel_rfl) (by kernel_rfl) (by kernel_rfl) (by kernel_rfl) (by kernel_rfl) (Eq.mp (by kernel_rfl) g)

/-! ### pawl/word.Of (117) -/
def S117 (a0 : Value) (h : GH) (K : Value → GH → Prop) : Prop :=
 T Tryz.prog 147 [a0] h fun v1 h2 =>
 K v1 h2
def A117 : Ann := ⟨fun _ => ([], []), fun _ => []⟩
theorem S117_T {a0 : Value} {h : GH} {K : Value → GH → Prop} (g : S117 a0 h K) : T Tryz.prog 117 [a0] h K :=
  T_of_gwp (A := A117) Tryz.func117 (c := bodyOf Tryz.f117) (by kernel_rfl) (by kernel_rfl) (by kernel_rfl) (by kernel_rfl) (by kernel_rfl) (Eq.mp (by kernel_rfl) g)

/-! ### pawl/word.Read$1 (118) -/
def S118 (a0 : Value) (h : GH) (K : Value → GH → Prop) : Prop :=
 newV 97 [(.int .i64 0), (.int .i64 0)] h fun v1 h2 =>
 bnd (binV .rem a0 (.int .i64 16)) fun v3 =>
 bnd (binV .quo a0 (.int .i64 16)) fun v4 =>
 bnd (fillV [(.int .i64 0), (.int .i64 0)] [(0, 1, v3), (1, 1, v4)]) fun c5 =>
 bnd (stV 2 v1 (.agg c5.toArray) h2) fun h6 =>
 bnd (ldV 2 true v1 h6) fun v7 =>
 K v7 h6
def A118 : Ann := ⟨fun _ => ([], []), fun _ => []⟩
theorem S118_T {a0 : Value} {h : GH} {K : Value → GH → Prop} (g : S118 a0 h K) : T Tryz.prog 118 [a0] h K :=
  T_of_gwp (A := A118) Tryz.func118 (c := bodyOf Tryz.f118) (by kernel_rfl) (by kernel_rfl) (by kernel_rfl) (by kernel_rfl) (by kernel_rfl) (Eq.mp (by kernel_rfl) g)

/-! ### pawl/word.may (119) -/
def S119 (a0 : Value) (h : GH) (K : Value → GH → Prop) : Prop :=
 ivV Tryz.prog a0 "pawl/word.plain" [] h fun v1 h2 =>
 newV 132 [(.int .i64 0), (.int .i64 0), (.int .i64 0), (.int .i64 0), (.int .i64 0), (.int .i64 0), (.int .i64 0)] h2 fun v3 h4 =>
 bnd (stV 7 v3 v1 h4) fun h5 =>
 bnd (faV 1 v3) fun v6 =>
 bnd (ldV 1 false v6 h5) fun v7 =>
 T Tryz.prog 36 [v7, (.int .i64 1099511627776)] h5 fun v8 h9 =>
 ifV v8 (
 bnd (faV 2 v3) fun v10 =>
 bnd (ldV 1 false v10 h9) fun v11 =>
 T Tryz.prog 36 [v11, (.int .i64 12)] h9 fun v12 h13 =>
 ifV v12 (
 bnd (faV 3 v3) fun v14 =>
 bnd (ldV 1 false v14 h13) fun v15 =>
 T Tryz.prog 36 [v15, (.int .i64 65536)] h13 fun v16 h17 =>
 ifV v16 (
 bnd (faV 4 v3) fun v18 =>
 bnd (ldV 1 false v18 h17) fun v19 =>
 T Tryz.prog 36 [v19, (.int .i64 16)] h17 fun v20 h21 =>
 ifV v20 (
 bnd (faV 5 v3) fun v22 =>
 bnd (ldV 1 false v22 h21) fun v23 =>
 T Tryz.prog 36 [v23, (.int .i64 4)] h21 fun v24 h25 =>
 ifV v24 (
 bnd (faV 6 v3) fun v26 =>
 bnd (ldV 1 false v26 h25) fun v27 =>
 T Tryz.prog 36 [v27, (.int .i64 1048576)] h25 fun v28 h29 =>
 K v28 h29) (
 K (.bool false) h25)) (
 K (.bool false) h21)) (
 K (.bool false) h17)) (
 K (.bool false) h13)) (
 K (.bool false) h9)
def A119 : Ann := ⟨fun _ => ([], []), fun _ => []⟩
theorem S119_T {a0 : Value} {h : GH} {K : Value → GH → Prop} (g : S119 a0 h K) : T Tryz.prog 119 [a0] h K :=
  T_of_gwp (A := A119) Tryz.func119 (c := bodyOf Tryz.f119) (by kernel_rfl) (by kernel_rfl) (by kernel_rfl) (by kernel_rfl) (by kernel_rfl) (Eq.mp (by kernel_rfl) g)

/-! ### (*pawl/pawlref1.walk).get (120) -/
def S120 (a0 a1 : Value) (h : GH) (K : Value → GH → Prop) : Prop :=
 bnd (ncV a0) fun v1 =>
 bnd (faV 48 v1) fun v2 =>
 bnd (ldV 1 false v2 h) fun v3 =>
 bnd (binV .geq v3 (.int .i64 0)) fun v4 =>
 ifV v4 (
 K (.int .i64 0) h) (
 bnd (ncV a0) fun v5 =>
 bnd (faV 0 v5) fun v6 =>
 bnd (faV 0 v6) fun v7 =>
 bnd (iaV 16 1 v7 a1) fun v8 =>
 bnd (ldV 1 false v8 h) fun v9 =>
 bnd (unV .not v9) fun v10 =>
 ifV v10 (
 bnd (ncV a0) fun v11 =>
 bnd (faV 48 v11) fun v12 =>
 bnd (stV 1 v12 a1 h) fun h13 =>
 K (.int .i64 0) h13) (
 bnd (ncV a0) fun v14 =>
 bnd (faV 0 v14) fun v15 =>
 bnd (faV 32 v15) fun v16 =>
 bnd (iaV 16 1 v16 a1) fun v17 =>
 bnd (ldV 1 false v17 h) fun v18 =>
 K v18 h))
def A120 : Ann := ⟨fun _ => ([], []), fun _ => []⟩
theorem S120_T {a0 a1 : Value} {h : GH} {K : Value → GH → Prop} (g : S120 a0 a1 h K) : T Tryz.prog 120 [a0, a1] h K :=
  T_of_gwp (A := A120) Tryz.func120 (c := bodyOf Tryz.f120) (by kernel_rfl) (by kernel_rfl) (by kernel_rfl) (by kernel_rfl) (by kernel_rfl) (Eq.mp (by kernel_rfl) g)

/-! ### pawl/pawlref1.done (121) -/
def S121 (a0 : Value) (h : GH) (K : Value → GH → Prop) : Prop :=
 newV 64 [(.int .i64 0), (.int .i64 0)] h fun v1 h2 =>
 bnd (fillV [(.int .i64 0), (.int .i64 0)] [(0, 1, (.int .i64 0)), (1, 1, a0)]) fun c3 =>
 bnd (stV 2 v1 (.agg c3.toArray) h2) fun h4 =>
 bnd (ldV 2 true v1 h4) fun v5 =>
 K v5 h4
def A121 : Ann := ⟨fun _ => ([], []), fun _ => []⟩
theorem S121_T {a0 : Value} {h : GH} {K : Value → GH → Prop} (g : S121 a0 h K) : T Tryz.prog 121 [a0] h K :=
  T_of_gwp (A := A121) Tryz.func121 (c := bodyOf Tryz.f121) (by kernel_rfl) (by kernel_rfl) (by kernel_rfl) (by kernel_rfl) (by kernel_rfl) (Eq.mp (by kernel_rfl) g)

/-! ### pawl/pawlref1.code (122) -/
def S122 (a0 : Value) (h : GH) (K : Value → GH → Prop) : Prop :=
 newV 64 [(.int .i64 0), (.int .i64 0)] h fun v1 h2 =>
 bnd (fillV [(.int .i64 0), (.int .i64 0)] [(0, 1, a0)]) fun c3 =>
 bnd (stV 2 v1 (.agg c3.toArray) h2) fun h4 =>
 bnd (ldV 2 true v1 h4) fun v5 =>
 K v5 h4
def A122 : Ann := ⟨fun _ => ([], []), fun _ => []⟩
theorem S122_T {a0 : Value} {h : GH} {K : Value → GH → Prop} (g : S122 a0 h K) : T Tryz.prog 122 [a0] h K :=
  T_of_gwp (A := A122) Tryz.func122 (c := bodyOf Tryz.f122) (by kernel_rfl) (by kernel_rfl) (by kernel_rfl) (by kernel_rfl) (by kernel_rfl) (Eq.mp (by kernel_rfl) g)

/-! ### (*pawl/pawlref1.walk).set (123) -/
def S123 (a0 a1 a2 : Value) (h : GH) (K : Value → GH → Prop) : Prop :=
 bnd (ncV a0) fun v1 =>
 bnd (faV 48 v1) fun v2 =>
 bnd (ldV 1 false v2 h) fun v3 =>
 bnd (binV .lss v3 (.int .i64 0)) fun v4 =>
 ifV v4 (
 bnd (ncV a0) fun v5 =>
 bnd (faV 0 v5) fun v6 =>
 bnd (faV 32 v6) fun v7 =>
 bnd (iaV 16 1 v7 a1) fun v8 =>
 bnd (stV 1 v8 a2 h) fun h9 =>
 K (.tuple #[]) h9) (
 K (.tuple #[]) h)
def A123 : Ann := ⟨fun _ => ([], []), fun _ => []⟩
theorem S123_T {a0 a1 a2 : Value} {h : GH} {K : Value → GH → Prop} (g : S123 a0 a1 a2 h K) : T Tryz.prog 123 [a0, a1, a2] h K :=
  T_of_gwp (A := A123) Tryz.func123 (c := bodyOf Tryz.f123) (by kernel_rfl) (by kernel_rfl) (by kernel_rfl) (by kernel_rfl) (by kernel_rfl) (Eq.mp (by kernel_rfl) g)

/-! ### (*pawl/pawlref1.walk).next (124) -/
def S124 (a0 a1 a2 : Value) (h : GH) (K : Value → GH → Prop) : Prop :=
 T Tryz.prog 148 [a1, a2] h fun v1 h2 =>
 T Tryz.prog 120 [a0, v1] h2 fun v3 h4 =>
 bnd (binV .sub v3 (.int .i64 1)) fun v5 =>
 bnd (binV .leq v5 a1) fun v6 =>
 ifV v6 (
 K (.int .i64 (-1)) h4) (
 bnd (binV .geq v5 (.int .i64 5)) fun v7 =>
 ifV v7 (
 K (.int .i64 (-1)) h4) (
 K v5 h4))
def A124 : Ann := ⟨fun _ => ([], []), fun _ => []⟩
theorem S124_T {a0 a1 a2 : Value} {h : GH} {K : Value → GH → Prop} (g : S124 a0 a1 a2 h K) : T Tryz.prog 124 [a0, a1, a2] h K :=
  T_of_gwp (A := A124) Tryz.func124 (c := bodyOf Tryz.f124) (by kernel_rfl) (by kernel_rfl) (by kernel_rfl) (by kernel_rfl) (by kernel_rfl) (Eq.mp (by kernel_rfl) g)

/-! ### (*pawl/pawlref1.walk).before (125) -/
def S125 (a0 a1 a2 a3 : Value) (h : GH) (K : Value → GH → Prop) : Prop :=
 Lfp (fun (s1 : Nat → Value) h2 again3 =>
 T Tryz.prog 124 [(s1 0), (s1 1), (s1 3)] h2 fun v4 h5 =>
 bnd (binV .lss v4 (.int .i64 0)) fun v6 =>
 ifV v6 (
 K (s1 1) h5) (
 bnd (binV .geq v4 (s1 2)) fun v7 =>
 ifV v7 (
 K (s1 1) h5) (
 again3 (tup [(s1 0), v4, (s1 2), (s1 3)]) h5))) (tup [a0, a1, a2, a3]) h
def A125 : Ann := ⟨fun _ => ([], []), fun | 0 => [0, 1, 2, 3] | _ => []⟩
theorem S125_T {a0 a1 a2 a3 : Value} {h : GH} {K : Value → GH → Prop} (g : S125 a0 a1 a2 a3 h K) : T Tryz.prog 125 [a0, a1, a2, a3] h K :=
  T_of_gwp (A := A125) Tryz.func125 (c := bodyOf Tryz.f125) (by kernel_rfl) (by kernel_rfl) (by kernel_rfl) (by kernel_rfl) (by kernel_rfl) (Eq.mp (by kernel_rfl) g)

/-! ### (*pawl/pawlref1.walk).put (126) -/
def S126 (a0 a1 a2 a3 : Value) (h : GH) (K : Value → GH → Prop) : Prop :=
 T Tryz.prog 148 [a2, a3] h fun v1 h2 =>
 T Tryz.prog 120 [a0, v1] h2 fun v3 h4 =>
 T Tryz.prog 148 [a2, a3] h4 fun v5 h6 =>
 T Tryz.prog 148 [a1, a3] h6 fun v7 h8 =>
 T Tryz.prog 120 [a0, v7] h8 fun v9 h10 =>
 T Tryz.prog 123 [a0, v5, v9] h10 fun v11 h12 =>
 T Tryz.prog 148 [a1, a3] h12 fun v13 h14 =>
 bnd (binV .add a2 (.int .i64 1)) fun v15 =>
 T Tryz.prog 123 [a0, v13, v15] h14 fun v16 h17 =>
 K (.tuple #[]) h17
def A126 : Ann := ⟨fun _ => ([], []), fun _ => []⟩
theorem S126_T {a0 a1 a2 a3 : Value} {h : GH} {K : Value → GH → Prop} (g : S126 a0 a1 a2 a3 h K) : T Tryz.prog 126 [a0, a1, a2, a3] h K :=
  T_of_gwp (A := A126) Tryz.func126 (c := bodyOf Tryz.f126) (by kernel_rfl) (by kernel_rfl) (by kernel_rfl) (by kernel_rfl) (by kernel_rfl) (Eq.mp (by kernel_rfl) g)

/-! ### (*pawl/pawlref1.walk).drop (127) -/
def S127 (a0 a1 a2 a3 : Value) (h : GH) (K : Value → GH → Prop) : Prop :=
 T Tryz.prog 148 [a1, a3] h fun v1 h2 =>
 T Tryz.prog 148 [a2, a3] h2 fun v3 h4 =>
 T Tryz.prog 120 [a0, v3] h4 fun v5 h6 =>
 T Tryz.prog 123 [a0, v1, v5] h6 fun v7 h8 =>
 T Tryz.prog 148 [a2, a3] h8 fun v9 h10 =>
 T Tryz.prog 123 [a0, v9, (.int .i64 0)] h10 fun v11 h12 =>
 K (.tuple #[]) h12
def A127 : Ann := ⟨fun _ => ([], []), fun _ => []⟩
theorem S127_T {a0 a1 a2 a3 : Value} {h : GH} {K : Value → GH → Prop} (g : S127 a0 a1 a2 a3 h K) : T Tryz.prog 127 [a0, a1, a2, a3] h K :=
  T_of_gwp (A := A127) Tryz.func127 (c := bodyOf Tryz.f127) (by kernel_rfl) (by kernel_rfl) (by kernel_rfl) (by kernel_rfl) (by kernel_rfl) (Eq.mp (by kernel_rfl) g)

/-! ### (*pawl/pawlref1.Arena).Load (128) -/
def S128_j1 (x0 x1 : Value) (h : GH) (K : Value → GH → Prop)  : Prop :=
 bnd (ncV x0) fun v1 =>
 bnd (faV 0 v1) fun v2 =>
 bnd (iaV 634 1 v2 x1) fun v3 =>
 bnd (ldV 1 false v3 h) fun v4 =>
 T Tryz.prog 78 [x0, (.int .i64 0), x1, v4] h fun v5 h6 =>
 bnd (exV v5 0) fun v7 =>
 bnd (exV v5 1) fun v8 =>
 K (.tuple #[v7, v8]) h6
def S128 (a0 a1 : Value) (h : GH) (K : Value → GH → Prop) : Prop :=
 bnd (binV .lss a1 (.int .i64 0)) fun v1 =>
 ifV v1 (
 K (.tuple #[(.int .i64 0), (.int .i64 200)]) h) (
 bnd (binV .geq a1 (.int .i64 634)) fun v2 =>
 ifV v2 (
 K (.tuple #[(.int .i64 0), (.int .i64 200)]) h) (
 S128_j1 a0 a1 h K ))
def A128 : Ann := ⟨fun _ => ([], []), fun _ => []⟩
theorem S128_T {a0 a1 : Value} {h : GH} {K : Value → GH → Prop} (g : S128 a0 a1 h K) : T Tryz.prog 128 [a0, a1] h K :=
  T_of_gwp (A := A128) Tryz.func128 (c := bodyOf Tryz.f128) (by kernel_rfl) (by kernel_rfl) (by kernel_rfl) (by kernel_rfl) (by kernel_rfl) (Eq.mp (by kernel_rfl) g)

/-! ### pawl/pawlref1.refMay (129) -/
def S129 (a0 : Value) (h : GH) (K : Value → GH → Prop) : Prop :=
 newV 132 (a0 : Value).cells.toList h fun v1 h2 =>
 bnd (faV 2 v1) fun v3 =>
 bnd (ldV 1 false v3 h2) fun v4 =>
 bnd (binV .geq v4 (.int .i64 0)) fun v5 =>
 ifV v5 (
 bnd (faV 2 v1) fun v6 =>
 bnd (ldV 1 false v6 h2) fun v7 =>
 bnd (binV .lss v7 (.int .i64 12)) fun v8 =>
 ifV v8 (
 bnd (faV 3 v1) fun v9 =>
 bnd (ldV 1 false v9 h2) fun v10 =>
 bnd (binV .geq v10 (.int .i64 0)) fun v11 =>
 ifV v11 (
 bnd (faV 3 v1) fun v12 =>
 bnd (ldV 1 false v12 h2) fun v13 =>
 bnd (binV .leq v13 (.int .i64 65535)) fun v14 =>
 K v14 h2) (
 K (.bool false) h2)) (
 K (.bool false) h2)) (
 K (.bool false) h2)
def A129 : Ann := ⟨fun _ => ([], []), fun _ => []⟩
theorem S129_T {a0 : Value} {h : GH} {K : Value → GH → Prop} (g : S129 a0 h K) : T Tryz.prog 129 [a0] h K :=
  T_of_gwp (A := A129) Tryz.func129 (c := bodyOf Tryz.f129) (by kernel_rfl) (by kernel_rfl) (by kernel_rfl) (by kernel_rfl) (by kernel_rfl) (Eq.mp (by kernel_rfl) g)

/-! ### pawl/pawlref10.value (130) -/
def S130 (a0 a1 : Value) (h : GH) (K : Value → GH → Prop) : Prop :=
 T Tryz.prog 149 [a0] h fun v1 h2 =>
 bnd (exV v1 0) fun v3 =>
 bnd (exV v1 1) fun v4 =>
 ifV v4 (
 bnd (binV .leq v3 a1) fun v5 =>
 K (.tuple #[v3, v5]) h2) (
 K (.tuple #[v3, (.bool false)]) h2)
def A130 : Ann := ⟨fun _ => ([], []), fun _ => []⟩
theorem S130_T {a0 a1 : Value} {h : GH} {K : Value → GH → Prop} (g : S130 a0 a1 h K) : T Tryz.prog 130 [a0, a1] h K :=
  T_of_gwp (A := A130) Tryz.func130 (c := bodyOf Tryz.f130) (by kernel_rfl) (by kernel_rfl) (by kernel_rfl) (by kernel_rfl) (by kernel_rfl) (Eq.mp (by kernel_rfl) g)

/-! ### (*pawl/pawlref10.frame).state (131) -/
def S131 (a0 a1 : Value) (h : GH) (K : Value → GH → Prop) : Prop :=
 T Tryz.prog 149 [a1] h fun v1 h2 =>
 bnd (exV v1 0) fun v3 =>
 bnd (exV v1 1) fun v4 =>
 bnd (ncV a0) fun v5 =>
 bnd (faV 0 v5) fun v6 =>
 bnd (faV 3 v6) fun v7 =>
 bnd (ldV 1 false v7 h2) fun v8 =>
 bnd (binV .mul (.int .i64 4) v8) fun v9 =>
 bnd (binV .add v9 (.int .i64 0)) fun v10 =>
 bnd (eqI v3 v10) fun b11 =>
 bnd (ncV a0) fun v12 =>
 bnd (faV 0 v12) fun v13 =>
 bnd (faV 3 v13) fun v14 =>
 bnd (ldV 1 false v14 h2) fun v15 =>
 bnd (binV .mul (.int .i64 4) v15) fun v16 =>
 bnd (binV .add v16 (.int .i64 1)) fun v17 =>
 bnd (eqI v3 v17) fun b18 =>
 K (.tuple #[(.bool b11), (.bool b18), v4]) h2
def A131 : Ann := ⟨fun | 2 => ([0, 1, 2, 3, 4, 5, 6, 7, 8, 9, 10, 11, 12, 13, 14, 15, 16, 17, 18, 19, 20, 21], [0, 0, 2, 6, 14, 30, 62, 126, 255, 0, 0, 1024, 3072, 7168, 15360, 31744, 64512, 130560, 0, 511, 786431, 2097151]) | _ => ([], []), fun _ => []⟩
theorem S131_T {a0 a1 : Value} {h : GH} {K : Value → GH → Prop} (g : S131 a0 a1 h K) : T Tryz.prog 131 [a0, a1] h K :=
  T_of_gwp (A := A131) Tryz.func131 (c := bodyOf Tryz.f131) (by kernel_rfl) (by kernel_rfl) (by kernel_rfl) (by kernel_rfl) (by kernel_rfl) (Eq.mp (by kernel_rfl) g)

/-! ### (*pawl/pawlref10.frame).settle (132) -/
def S132_j1 (x0 x1 x2 x6 : Value) (h : GH) (K : Value → GH → Prop)  : Prop :=
 bnd (ncV x0) fun v1 =>
 bnd (faV 11 v1) fun v2 =>
 bnd (ldV 1 false v2 h) fun v3 =>
 T Tryz.prog 135 [x1, v3, x2, x6] h fun v4 h5 =>
 K (.tuple #[]) h5
def S132 (a0 a1 a2 : Value) (h : GH) (K : Value → GH → Prop) : Prop :=
 bnd (ncV a0) fun v1 =>
 bnd (faV 12 v1) fun v2 =>
 bnd (ldV 1 false v2 h) fun v3 =>
 bnd (ncV a0) fun v4 =>
 bnd (faV 14 v4) fun v5 =>
 bnd (ldV 1 false v5 h) fun v6 =>
 ifV v6 (
 T Tryz.prog 136 [a0] h fun v7 h8 =>
 S132_j1 a0 a1 a2 v7 h8 K ) (
 S132_j1 a0 a1 a2 v3 h K )
def A132 : Ann := ⟨fun _ => ([], []), fun _ => []⟩
theorem S132_T {a0 a1 a2 : Value} {h : GH} {K : Value → GH → Prop} (g : S132 a0 a1 a2 h K) : T Tryz.prog 132 [a0, a1, a2] h K :=
  T_of_gwp (A := A132) Tryz.func132 (c := bodyOf Tryz.f132) (by kernel_rfl) (by kernel_rfl) (by kernel_rfl) (by kernel_rfl) (by kernel_rfl) (Eq.mp (by kernel_rfl) g)

/-! ### (*pawl/pawlref10.frame).first (133) -/
def S133 (a0 a1 : Value) (h : GH) (K : Value → GH → Prop) : Prop :=
 bnd (ncV a0) fun v1 =>
 bnd (faV 11 v1) fun v2 =>
 bnd (ldV 1 false v2 h) fun v3 =>
 bnd (ncV a0) fun v4 =>
 bnd (faV 12 v4) fun v5 =>
 bnd (ldV 1 false v5 h) fun v6 =>
 bnd (ncV a0) fun v7 =>
 bnd (faV 13 v7) fun v8 =>
 bnd (ldV 1 false v8 h) fun v9 =>
 T Tryz.prog 135 [a1, v3, v6, v9] h fun v10 h11 =>
 bnd (exV v10 0) fun v12 =>
 bnd (exV v10 1) fun v13 =>
 T Tryz.prog 94 [v12] h11 fun v14 h15 =>
 bnd (exV v14 0) fun v16 =>
 bnd (exV v14 1) fun v17 =>
 newV 132 [(.int .i64 0), (.int .i64 0), (.int .i64 0), (.int .i64 0), (.int .i64 0), (.int .i64 0), (.int .i64 0)] h15 fun v18 h19 =>
 bnd (stV 7 v18 v16 h19) fun h20 =>
 bnd (ncV a0) fun v21 =>
 bnd (faV 12 v21) fun v22 =>
 bnd (ldV 1 false v22 h20) fun v23 =>
 bnd (eqI v12 v23) fun b24 =>
 ifV (.bool b24) (
 bnd (ncV a0) fun v25 =>
 bnd (faV 8 v25) fun v26 =>
 bnd (stV 1 v26 (.int .i64 6) h20) fun h27 =>
 K (.tuple #[(.int .i64 0), (.bool true), (.bool false)]) h27) (
 bnd (eqI v17 (.int .i64 0)) fun b28 =>
 ifV (.bool (!b28)) (
 K (.tuple #[(.int .i64 0), (.bool false), (.bool false)]) h20) (
 T Tryz.prog 136 [a0] h20 fun v29 h30 =>
 bnd (eqI v12 v29) fun b31 =>
 ifV (.bool b31) (
 T Tryz.prog 134 [a0, (.int .i64 3), (.int .i64 8)] h30 fun v32 h33 =>
 K (.tuple #[(.int .i64 0), (.bool true), (.bool false)]) h33) (
 bnd (faV 0 v18) fun v34 =>
 bnd (ldV 1 false v34 h30) fun v35 =>
 bnd (eqI v35 (.int .i64 0)) fun b36 =>
 ifV (.bool b36) (
 bnd (ncV a0) fun v37 =>
 bnd (faV 8 v37) fun v38 =>
 bnd (stV 1 v38 (.int .i64 9) h30) fun h39 =>
 K (.tuple #[(.int .i64 0), (.bool true), (.bool false)]) h39) (
 bnd (faV 0 v18) fun v40 =>
 bnd (ldV 1 false v40 h30) fun v41 =>
 bnd (eqI v41 (.int .i64 1)) fun b42 =>
 ifV (.bool b42) (
 K (.tuple #[v12, (.bool true), (.bool false)]) h30) (
 bnd (ncV a0) fun v43 =>
 bnd (faV 16 v43) fun v44 =>
 bnd (stV 1 v44 v12 h30) fun h45 =>
 bnd (ncV a0) fun v46 =>
 bnd (faV 8 v46) fun v47 =>
 bnd (stV 1 v47 (.int .i64 14) h45) fun h48 =>
 K (.tuple #[(.int .i64 0), (.bool true), (.bool false)]) h48)))))
def A133 : Ann := ⟨fun | 1 => ([0, 1, 2, 3, 4, 5, 6, 7, 8, 9, 10, 11, 12, 13, 14, 15, 16, 17, 18], [0, 0, 2, 6, 14, 0, 32, 96, 224, 0, 512, 1536, 3584, 8191, 16383, 32767, 32767, 65535, 262143]) | _ => ([], []), fun _ => []⟩
theorem S133_T {a0 a1 : Value} {h : GH} {K : Value → GH → Prop} (g : S133 a0 a1 h K) : T Tryz.prog 133 [a0, a1] h K :=
  T_of_gwp (A := A133) Tryz.func133 (c := bodyOf Tryz.f133) (by kernel_rfl) (by kernel_rfl) (by kernel_rfl) (by kernel_rfl) (by kernel_rfl) (Eq.mp (by kernel_rfl) g)

/-! ### (*pawl/pawlref10.frame).step (134) -/
def S134 (a0 a1 a2 : Value) (h : GH) (K : Value → GH → Prop) : Prop :=
 bnd (ncV a0) fun v1 =>
 bnd (faV 9 v1) fun v2 =>
 bnd (ldV 1 false v2 h) fun v3 =>
 bnd (binV .add v3 (.int .i64 1)) fun v4 =>
 bnd (ncV a0) fun v5 =>
 bnd (faV 9 v5) fun v6 =>
 bnd (stV 1 v6 v4 h) fun h7 =>
 bnd (ncV a0) fun v8 =>
 bnd (faV 8 v8) fun v9 =>
 bnd (stV 1 v9 a1 h7) fun h10 =>
 bnd (ncV a0) fun v11 =>
 bnd (faV 9 v11) fun v12 =>
 bnd (ldV 1 false v12 h10) fun v13 =>
 bnd (ncV a0) fun v14 =>
 bnd (faV 10 v14) fun v15 =>
 bnd (ldV 1 false v15 h10) fun v16 =>
 bnd (binV .geq v13 v16) fun v17 =>
 ifV v17 (
 bnd (ncV a0) fun v18 =>
 bnd (faV 8 v18) fun v19 =>
 bnd (stV 1 v19 a2 h10) fun h20 =>
 K (.tuple #[]) h20) (
 K (.tuple #[]) h10)
def A134 : Ann := ⟨fun | 2 => ([0, 1, 2, 3, 4, 5, 6, 7, 8], [0, 1, 3, 7, 0, 16, 48, 112, 255]) | _ => ([], []), fun _ => []⟩
theorem S134_T {a0 a1 a2 : Value} {h : GH} {K : Value → GH → Prop} (g : S134 a0 a1 a2 h K) : T Tryz.prog 134 [a0, a1, a2] h K :=
  T_of_gwp (A := A134) Tryz.func134 (c := bodyOf Tryz.f134) (by kernel_rfl) (by kernel_rfl) (by kernel_rfl) (by kernel_rfl) (by kernel_rfl) (Eq.mp (by kernel_rfl) g)

/-! ### (*pawl/pawlref1.Arena).Swap (135) -/
def S135_j2 (x0 x1 x3 : Value) (h : GH) (K : Value → GH → Prop)  : Prop :=
 T Tryz.prog 78 [x0, (.int .i64 2), x1, x3] h fun v1 h2 =>
 bnd (exV v1 0) fun v3 =>
 bnd (exV v1 1) fun v4 =>
 K (.tuple #[v3, v4]) h2

def S135_j1 (x0 x1 x2 x3 : Value) (h : GH) (K : Value → GH → Prop)  : Prop :=
 bnd (ncV x0) fun v1 =>
 bnd (faV 0 v1) fun v2 =>
 bnd (iaV 634 1 v2 x1) fun v3 =>
 bnd (ldV 1 false v3 h) fun v4 =>
 bnd (eqI v4 x2) fun b5 =>
 ifV (.bool (!b5)) (
 bnd (ncV x0) fun v6 =>
 bnd (faV 0 v6) fun v7 =>
 bnd (iaV 634 1 v7 x1) fun v8 =>
 bnd (ldV 1 false v8 h) fun v9 =>
 S135_j2 x0 x1 v9 h K ) (
 S135_j2 x0 x1 x3 h K )
def S135 (a0 a1 a2 a3 : Value) (h : GH) (K : Value → GH → Prop) : Prop :=
 bnd (binV .lss a1 (.int .i64 0)) fun v1 =>
 ifV v1 (
 K (.tuple #[(.int .i64 0), (.int .i64 200)]) h) (
 bnd (binV .geq a1 (.int .i64 634)) fun v2 =>
 ifV v2 (
 K (.tuple #[(.int .i64 0), (.int .i64 200)]) h) (
 S135_j1 a0 a1 a2 a3 h K ))
def A135 : Ann := ⟨fun _ => ([], []), fun _ => []⟩
theorem S135_T {a0 a1 a2 a3 : Value} {h : GH} {K : Value → GH → Prop} (g : S135 a0 a1 a2 a3 h K) : T Tryz.prog 135 [a0, a1, a2, a3] h K :=
  T_of_gwp (A := A135) Tryz.func135 (c := bodyOf Tryz.f135) (by kernel_rfl) (by kernel_rfl) (by kernel_rfl) (by kernel_rfl) (by kernel_rfl) (Eq.mp (by kernel_rfl) g)

/-! ### (*pawl/pawlref10.frame).mine (136) -/
def S136 (a0 : Value) (h : GH) (K : Value → GH → Prop) : Prop :=
 bnd (ncV a0) fun v1 =>
 bnd (faV 0 v1) fun v2 =>
 bnd (faV 2 v2) fun v3 =>
 bnd (ldV 1 false v3 h) fun v4 =>
 bnd (ncV a0) fun v5 =>
 bnd (faV 0 v5) fun v6 =>
 bnd (faV 3 v6) fun v7 =>
 bnd (ldV 1 false v7 h) fun v8 =>
 bnd (fillV [(.int .i64 0), (.int .i64 0), (.int .i64 0), (.int .i64 0), (.int .i64 0), (.int .i64 0), (.int .i64 0)] [(0, 1, (.int .i64 2)), (2, 1, v4), (3, 1, v8)]) fun c9 =>
 T Tryz.prog 63 [(.agg c9.toArray)] h fun v10 h11 =>
 bnd (exV v10 0) fun v12 =>
 bnd (exV v10 1) fun v13 =>
 K v12 h11
def A136 : Ann := ⟨fun | 1 => ([0, 1, 2, 3, 4, 5, 6, 7, 8, 9, 10, 11, 12, 13, 14, 15, 16], [0, 1, 3, 7, 15, 0, 32, 96, 224, 480, 1023, 2047, 4095, 8191, 8191, 16383, 65535]) | _ => ([], []), fun _ => []⟩
theorem S136_T {a0 : Value} {h : GH} {K : Value → GH → Prop} (g : S136 a0 h K) : T Tryz.prog 136 [a0] h K :=
  T_of_gwp (A := A136) Tryz.func136 (c := bodyOf Tryz.f136) (by kernel_rfl) (by kernel_rfl) (by kernel_rfl) (by kernel_rfl) (by kernel_rfl) (Eq.mp (by kernel_rfl) g)

/-! ### (*pawl/pawlref10.frame).load (137) -/
def S137_j2 (x0 x10 x11 : Value) (h : GH) (K : Value → GH → Prop)  : Prop :=
 bnd (eqI x10 (.int .i64 0)) fun b1 =>
 ifV (.bool b1) (
 bnd (ncV x0) fun v2 =>
 bnd (faV 8 v2) fun v3 =>
 bnd (ldV 1 false v3 h) fun v4 =>
 bnd (eqI v4 (.int .i64 11)) fun b5 =>
 K (.tuple #[x11, (.bool b5)]) h) (
 K (.tuple #[x11, (.bool false)]) h)

def S137_j5 (x0 x1 x20 : Value) (h : GH) (K : Value → GH → Prop)  : Prop :=
 T Tryz.prog 128 [x1, x20] h fun v1 h2 =>
 bnd (exV v1 0) fun v3 =>
 bnd (exV v1 1) fun v4 =>
 T Tryz.prog 130 [v3, (.int .i64 1099511627775)] h2 fun v5 h6 =>
 bnd (exV v5 0) fun v7 =>
 bnd (exV v5 1) fun v8 =>
 bnd (ncV x0) fun v9 =>
 bnd (faV 16 v9) fun v10 =>
 bnd (stV 1 v10 v3 h6) fun h11 =>
 bnd (ncV x0) fun v12 =>
 bnd (faV 8 v12) fun v13 =>
 bnd (stV 1 v13 (.int .i64 13) h11) fun h14 =>
 K (.tuple #[v8, (.bool false)]) h14

def S137_j4 (x0 x1 x2 : Value) (h : GH) (K : Value → GH → Prop)  : Prop :=
 bnd (binV .add x2 (.int .i64 3)) fun v1 =>
 bnd (ncV x0) fun v2 =>
 bnd (faV 9 v2) fun v3 =>
 bnd (ldV 1 false v3 h) fun v4 =>
 bnd (binV .mul (.int .i64 3) v4) fun v5 =>
 bnd (binV .add v1 v5) fun v6 =>
 bnd (ncV x0) fun v7 =>
 bnd (faV 15 v7) fun v8 =>
 bnd (ldV 1 false v8 h) fun v9 =>
 ifV v9 (
 bnd (binV .add v6 (.int .i64 1)) fun v10 =>
 S137_j5 x0 x1 v10 h K ) (
 S137_j5 x0 x1 v6 h K )

def S137_j3 (x0 x1 x2 x28 x80 : Value) (h : GH) (K : Value → GH → Prop)  : Prop :=
 ifV x80 (
 bnd (binV .add x2 (.int .i64 2)) fun v1 =>
 bnd (ncV x0) fun v2 =>
 bnd (faV 9 v2) fun v3 =>
 bnd (ldV 1 false v3 h) fun v4 =>
 bnd (binV .mul (.int .i64 3) v4) fun v5 =>
 bnd (binV .add v1 v5) fun v6 =>
 T Tryz.prog 128 [x1, v6] h fun v7 h8 =>
 bnd (exV v7 0) fun v9 =>
 bnd (exV v7 1) fun v10 =>
 T Tryz.prog 130 [v9, (.int .i64 15)] h8 fun v11 h12 =>
 bnd (exV v11 0) fun v13 =>
 bnd (exV v11 1) fun v14 =>
 bnd (ncV x0) fun v15 =>
 bnd (faV 11 v15) fun v16 =>
 bnd (stV 1 v16 v13 h12) fun h17 =>
 bnd (ncV x0) fun v18 =>
 bnd (faV 8 v18) fun v19 =>
 bnd (ldV 1 false v19 h17) fun v20 =>
 bnd (binV .add v20 (.int .i64 1)) fun v21 =>
 bnd (ncV x0) fun v22 =>
 bnd (faV 8 v22) fun v23 =>
 bnd (stV 1 v23 v21 h17) fun h24 =>
 K (.tuple #[v14, (.bool false)]) h24) (
 bnd (eqI x28 (.int .i64 4)) fun b25 =>
 ifV (.bool b25) (
 bnd (binV .add x2 (.int .i64 3)) fun v26 =>
 bnd (ncV x0) fun v27 =>
 bnd (faV 9 v27) fun v28 =>
 bnd (ldV 1 false v28 h) fun v29 =>
 bnd (binV .mul (.int .i64 3) v29) fun v30 =>
 bnd (binV .add v26 v30) fun v31 =>
 T Tryz.prog 128 [x1, v31] h fun v32 h33 =>
 bnd (exV v32 0) fun v34 =>
 bnd (exV v32 1) fun v35 =>
 T Tryz.prog 130 [v34, (.int .i64 1099511627775)] h33 fun v36 h37 =>
 bnd (exV v36 0) fun v38 =>
 bnd (exV v36 1) fun v39 =>
 bnd (ncV x0) fun v40 =>
 bnd (faV 12 v40) fun v41 =>
 bnd (stV 1 v41 v34 h37) fun h42 =>
 bnd (ncV x0) fun v43 =>
 bnd (faV 8 v43) fun v44 =>
 bnd (stV 1 v44 (.int .i64 5) h42) fun h45 =>
 K (.tuple #[v39, (.bool false)]) h45) (
 S137_j4 x0 x1 x2 h K ))

def S137_j1 (x0 x1 x2 x28 x29 : Value) (h : GH) (K : Value → GH → Prop)  : Prop :=
 ifV x29 (
 bnd (binV .add x2 (.int .i64 1)) fun v1 =>
 T Tryz.prog 128 [x1, v1] h fun v2 h3 =>
 bnd (exV v2 0) fun v4 =>
 bnd (exV v2 1) fun v5 =>
 T Tryz.prog 130 [v4, (.int .i64 16)] h3 fun v6 h7 =>
 bnd (exV v6 0) fun v8 =>
 bnd (exV v6 1) fun v9 =>
 bnd (ncV x0) fun v10 =>
 bnd (faV 10 v10) fun v11 =>
 bnd (stV 1 v11 v8 h7) fun h12 =>
 bnd (ncV x0) fun v13 =>
 bnd (faV 9 v13) fun v14 =>
 bnd (stV 1 v14 (.int .i64 0) h12) fun h15 =>
 bnd (ncV x0) fun v16 =>
 bnd (faV 8 v16) fun v17 =>
 bnd (ldV 1 false v17 h15) fun v18 =>
 bnd (binV .add v18 (.int .i64 1)) fun v19 =>
 bnd (ncV x0) fun v20 =>
 bnd (faV 8 v20) fun v21 =>
 bnd (stV 1 v21 v19 h15) fun h22 =>
 bnd (eqI v8 (.int .i64 0)) fun b23 =>
 ifV (.bool b23) (
 bnd (ncV x0) fun v24 =>
 bnd (faV 8 v24) fun v25 =>
 bnd (ldV 1 false v25 h22) fun v26 =>
 bnd (eqI v26 (.int .i64 3)) fun b27 =>
 ifV (.bool b27) (
 bnd (ncV x0) fun v28 =>
 bnd (faV 8 v28) fun v29 =>
 bnd (stV 1 v29 (.int .i64 8) h22) fun h30 =>
 S137_j2 x0 v8 v9 h30 K ) (
 S137_j2 x0 v8 v9 h22 K )) (
 S137_j2 x0 v8 v9 h22 K )) (
 bnd (eqI x28 (.int .i64 3)) fun b31 =>
 ifV (.bool b31) (
 S137_j3 x0 x1 x2 x28 (.bool true) h K ) (
 bnd (eqI x28 (.int .i64 11)) fun b32 =>
 S137_j3 x0 x1 x2 x28 (.bool b32) h K ))
def S137 (a0 a1 a2 : Value) (h : GH) (K : Value → GH → Prop) : Prop :=
 bnd (ncV a0) fun v1 =>
 bnd (faV 8 v1) fun v2 =>
 bnd (ldV 1 false v2 h) fun v3 =>
 bnd (eqI v3 (.int .i64 2)) fun b4 =>
 ifV (.bool b4) (
 S137_j1 a0 a1 a2 v3 (.bool true) h K ) (
 bnd (eqI v3 (.int .i64 10)) fun b5 =>
 S137_j1 a0 a1 a2 v3 (.bool b5) h K )
def A137 : Ann := ⟨fun | 11 => ([0, 1, 2, 3, 4, 5, 6, 7, 8, 9, 10, 11], [0, 0, 2, 6, 14, 30, 62, 126, 254, 510, 15, 2047]) | _ => ([], []), fun _ => []⟩
theorem S137_T {a0 a1 a2 : Value} {h : GH} {K : Value → GH → Prop} (g : S137 a0 a1 a2 h K) : T Tryz.prog 137 [a0, a1, a2] h K :=
  T_of_gwp (A := A137) Tryz.func137 (c := bodyOf Tryz.f137) (by kernel_rfl) (by kernel_rfl) (by kernel_rfl) (by kernel_rfl) (by kernel_rfl) (Eq.mp (by kernel_rfl) g)

/-! ### (pawl/skip.list).link (138) -/
def S138 (a0 a1 a2 : Value) (h : GH) (K : Value → GH → Prop) : Prop :=
 newV 193 (a0 : Value).cells.toList h fun v1 h2 =>
 bnd (faV 0 v1) fun v3 =>
 bnd (ldV 1 false v3 h2) fun v4 =>
 T Tryz.prog 151 [a1, a2] h2 fun v5 h6 =>
 ldV 1 false v3 h6 = some v4 ∧
 T Tryz.prog 150 [v4, v5] h6 fun v7 h8 =>
 K v7 h8
def A138 : Ann := ⟨fun | 1 => ([0, 1, 2, 3, 4, 5, 6], [0, 1, 0, 0, 12, 31, 63]) | _ => ([], []), fun _ => []⟩
theorem S138_T {a0 a1 a2 : Value} {h : GH} {K : Value → GH → Prop} (g : S138 a0 a1 a2 h K) : T Tryz.prog 138 [a0, a1, a2] h K :=
  T_of_gwp (A := A138) Tryz.func138 (c := bodyOf Tryz.f138) (by kernel_rfl) (by kernel_rfl) (by kernel_rfl) (by kernel_rfl) (by kernel_rfl) (Eq.mp (by kernel_rfl) g)

/-! ### (pawl/skip.list).put (139) -/
def S139 (a0 a1 a2 a3 : Value) (h : GH) (K : Value → GH → Prop) : Prop :=
 newV 193 (a0 : Value).cells.toList h fun v1 h2 =>
 bnd (ldV 1 true v1 h2) fun v3 =>
 T Tryz.prog 138 [v3, a1, a3] h2 fun v4 h5 =>
 bnd (ldV 1 true v1 h5) fun v6 =>
 bnd (ldV 1 true v1 h5) fun v7 =>
 T Tryz.prog 138 [v7, a2, a3] h5 fun v8 h9 =>
 ldV 1 true v1 h9 = some v6 ∧
 T Tryz.prog 152 [v6, a1, a3, v8] h9 fun v10 h11 =>
 bnd (ldV 1 true v1 h11) fun v12 =>
 bnd (binV .add a1 (.int .i64 1)) fun v13 =>
 T Tryz.prog 152 [v12, a2, a3, v13] h11 fun v14 h15 =>
 K (.tuple #[]) h15
def A139 : Ann := ⟨fun | 2 => ([0, 1, 2, 3, 4, 5, 6, 7], [0, 0, 0, 0, 0, 0, 56, 127]) | _ => ([], []), fun _ => []⟩
theorem S139_T {a0 a1 a2 a3 : Value} {h : GH} {K : Value → GH → Prop} (g : S139 a0 a1 a2 a3 h K) : T Tryz.prog 139 [a0, a1, a2, a3] h K :=
  T_of_gwp (A := A139) Tryz.func139 (c := bodyOf Tryz.f139) (by kernel_rfl) (by kernel_rfl) (by kernel_rfl) (by kernel_rfl) (by kernel_rfl) (Eq.mp (by kernel_rfl) g)

/-! ### (pawl/skip.list).drop (140) -/
def S140 (a0 a1 a2 a3 : Value) (h : GH) (K : Value → GH → Prop) : Prop :=
 newV 193 (a0 : Value).cells.toList h fun v1 h2 =>
 bnd (ldV 1 true v1 h2) fun v3 =>
 bnd (ldV 1 true v1 h2) fun v4 =>
 T Tryz.prog 138 [v4, a1, a3] h2 fun v5 h6 =>
 ldV 1 true v1 h6 = some v3 ∧
 T Tryz.prog 152 [v3, a2, a3, v5] h6 fun v7 h8 =>
 bnd (ldV 1 true v1 h8) fun v9 =>
 T Tryz.prog 152 [v9, a1, a3, (.int .i64 0)] h8 fun v10 h11 =>
 K (.tuple #[]) h11
def A140 : Ann := ⟨fun | 1 => ([0, 1, 2, 3, 4, 5, 6, 7], [0, 0, 0, 0, 0, 0, 56, 127]) | _ => ([], []), fun _ => []⟩
theorem S140_T {a0 a1 a2 a3 : Value} {h : GH} {K : Value → GH → Prop} (g : S140 a0 a1 a2 a3 h K) : T Tryz.prog 140 [a0, a1, a2, a3] h K :=
  T_of_gwp (A := A140) Tryz.func140 (c := bodyOf Tryz.f140) (by kernel_rfl) (by kernel_rfl) (by kernel_rfl) (by kernel_rfl) (by kernel_rfl) (Eq.mp (by kernel_rfl) g)

/-! ### (pawl/skip.list).before (141) -/
def S141 (a0 a1 a2 a3 : Value) (h : GH) (K : Value → GH → Prop) : Prop :=
 newV 193 (a0 : Value).cells.toList h fun v1 h2 =>
 bnd (ldV 1 true v1 h2) fun v3 =>
 T Tryz.prog 100 [v3, a2, a3] h2 fun v4 h5 =>
 Lfp (fun (s6 : Nat → Value) h7 again8 =>
 bnd (eqI (s6 4) (.int .i64 (-1))) fun b9 =>
 ifV (.bool (!b9)) (
 bnd (binV .lss (s6 4) (s6 0)) fun v10 =>
 ifV v10 (
 bnd (ldV 1 true (s6 3) h7) fun v11 =>
 T Tryz.prog 100 [v11, (s6 4), (s6 2)] h7 fun v12 h13 =>
 again8 (tup [(s6 0), (s6 4), (s6 2), (s6 3), v12]) h13) (
 K (s6 1) h7)) (
 K (s6 1) h7)) (tup [a1, a2, a3, v1, v4]) h5
def A141 : Ann := ⟨fun _ => ([], []), fun | 0 => [1, 2, 3, 4, 9] | _ => []⟩
theorem S141_T {a0 a1 a2 a3 : Value} {h : GH} {K : Value → GH → Prop} (g : S141 a0 a1 a2 a3 h K) : T Tryz.prog 141 [a0, a1, a2, a3] h K :=
  T_of_gwp (A := A141) Tryz.func141 (c := bodyOf Tryz.f141) (by kernel_rfl) (by kernel_rfl) (by kernel_rfl) (by kernel_rfl) (by kernel_rfl) (Eq.mp (by kernel_rfl) g)

/-! ### pawl/bank.at (142) -/
def S142 (a0 a1 : Value) (h : GH) (K : Value → GH → Prop) : Prop :=
 T Tryz.prog 150 [a0, a1] h fun v1 h2 =>
 bnd (binV .gtr v1 (.int .i64 0)) fun v3 =>
 bnd (binV .sub v1 (.int .i64 1)) fun v4 =>
 bnd (fillV [(.pointer none), (.int .i64 0), (.bool false), (.int .i64 0)] [(0, 1, a0), (1, 1, a1), (2, 1, v3), (3, 1, v4)]) fun c5 =>
 newV 241 ((.agg c5.toArray) : Value).cells.toList h2 fun v6 h7 =>
 K v6 h7
def A142 : Ann := ⟨fun _ => ([], []), fun _ => []⟩
theorem S142_T {a0 a1 : Value} {h : GH} {K : Value → GH → Prop} (g : S142 a0 a1 h K) : T Tryz.prog 142 [a0, a1] h K :=
  T_of_gwp (A := A142) Tryz.func142 (c := bodyOf Tryz.f142) (by kernel_rfl) (by kernel_rfl) (by kernel_rfl) (by kernel_rfl) (by kernel_rfl) (Eq.mp (by kernel_rfl) g)

/-! ### pawl/bank.code (143) -/
def S143 (a0 : Value) (h : GH) (K : Value → GH → Prop) : Prop :=
 newV 64 [(.int .i64 0), (.int .i64 0)] h fun v1 h2 =>
 bnd (fillV [(.int .i64 0), (.int .i64 0)] [(0, 1, a0)]) fun c3 =>
 bnd (stV 2 v1 (.agg c3.toArray) h2) fun h4 =>
 bnd (ldV 2 true v1 h4) fun v5 =>
 K v5 h4
def A143 : Ann := ⟨fun _ => ([], []), fun _ => []⟩
theorem S143_T {a0 : Value} {h : GH} {K : Value → GH → Prop} (g : S143 a0 h K) : T Tryz.prog 143 [a0] h K :=
  T_of_gwp (A := A143) Tryz.func143 (c := bodyOf Tryz.f143) (by kernel_rfl) (by kernel_rfl) (by kernel_rfl) (by kernel_rfl) (by kernel_rfl) (Eq.mp (by kernel_rfl) g)

/-! ### (*pawl/bank.account).has (144) -/
def S144 (a0 a1 : Value) (h : GH) (K : Value → GH → Prop) : Prop :=
 newV 64 [(.int .i64 0), (.int .i64 0)] h fun v1 h2 =>
 bnd (ncV a0) fun v3 =>
 bnd (faV 0 v3) fun v4 =>
 bnd (ldV 1 false v4 h2) fun v5 =>
 bnd (ncV a0) fun v6 =>
 bnd (faV 1 v6) fun v7 =>
 bnd (ldV 1 false v7 h2) fun v8 =>
 bnd (binV .add a1 (.int .i64 1)) fun v9 =>
 T Tryz.prog 145 [v5, v8, v9] h2 fun v10 h11 =>
 T Tryz.prog 146 [a1] h11 fun v12 h13 =>
 bnd (stV 2 v1 v12 h13) fun h14 =>
 bnd (ldV 2 true v1 h14) fun v15 =>
 K v15 h14
def A144 : Ann := ⟨fun | 1 => ([0, 1, 2, 3, 4, 5, 6, 7, 8, 9, 10], [0, 1, 3, 7, 0, 16, 48, 112, 0, 256, 1023]) | _ => ([], []), fun _ => []⟩
theorem S144_T {a0 a1 : Value} {h : GH} {K : Value → GH → Prop} (g : S144 a0 a1 h K) : T Tryz.prog 144 [a0, a1] h K :=
  T_of_gwp (A := A144) Tryz.func144 (c := bodyOf Tryz.f144) (by kernel_rfl) (by kernel_rfl) (by kernel_rfl) (by kernel_rfl) (by kernel_rfl) (Eq.mp (by kernel_rfl) g)

/-! ### (*pawl/cells.Walk).Set (145) -/
def S145 (a0 a1 a2 : Value) (h : GH) (K : Value → GH → Prop) : Prop :=
 bnd (ncV a0) fun v1 =>
 bnd (faV 48 v1) fun v2 =>
 bnd (ldV 1 false v2 h) fun v3 =>
 bnd (eqK .iface true v3 .nilIface) fun b4 =>
 ifV (.bool b4) (
 bnd (ncV a0) fun v5 =>
 bnd (faV 0 v5) fun v6 =>
 bnd (faV 32 v6) fun v7 =>
 bnd (iaV 16 1 v7 a1) fun v8 =>
 bnd (stV 1 v8 a2 h) fun h9 =>
 K (.tuple #[]) h9) (
 K (.tuple #[]) h)
def A145 : Ann := ⟨fun _ => ([], []), fun _ => []⟩
theorem S145_T {a0 a1 a2 : Value} {h : GH} {K : Value → GH → Prop} (g : S145 a0 a1 a2 h K) : T Tryz.prog 145 [a0, a1, a2] h K :=
  T_of_gwp (A := A145) Tryz.func145 (c := bodyOf Tryz.f145) (by kernel_rfl) (by kernel_rfl) (by kernel_rfl) (by kernel_rfl) (by kernel_rfl) (Eq.mp (by kernel_rfl) g)

/-! ### pawl/bank.done (146) -/
def S146 (a0 : Value) (h : GH) (K : Value → GH → Prop) : Prop :=
 newV 64 [(.int .i64 0), (.int .i64 0)] h fun v1 h2 =>
 bnd (fillV [(.int .i64 0), (.int .i64 0)] [(0, 1, (.int .i64 0)), (1, 1, a0)]) fun c3 =>
 bnd (stV 2 v1 (.agg c3.toArray) h2) fun h4 =>
 bnd (ldV 2 true v1 h4) fun v5 =>
 K v5 h4
def A146 : Ann := ⟨fun _ => ([], []), fun _ => []⟩
theorem S146_T {a0 : Value} {h : GH} {K : Value → GH → Prop} (g : S146 a0 h K) : T Tryz.prog 146 [a0] h K :=
  T_of_gwp (A := A146) Tryz.func146 (c := bodyOf Tryz.f146) (by kernel_rfl) (by kernel_rfl) (by kernel_rfl) (by kernel_rfl) (by kernel_rfl) (Eq.mp (by kernel_rfl) g)

/-! ### (pawl/word.Value).number (147) -/
def S147 (a0 : Value) (h : GH) (K : Value → GH → Prop) : Prop :=
 bnd (binV .mul a0 (.int .i64 4)) fun v1 =>
 bnd (binV .add v1 (.int .i64 0)) fun v2 =>
 K v2 h
def A147 : Ann := ⟨fun _ => ([], []), fun _ => []⟩
theorem S147_T {a0 : Value} {h : GH} {K : Value → GH → Prop} (g : S147 a0 h K) : T Tryz.prog 147 [a0] h K :=
  T_of_gwp (A := A147) Tryz.func147 (c := bodyOf Tryz.f147) (by kernel_rfl) (by kernel_rfl) (by kernel_rfl) (by kernel_rfl) (by kernel_rfl) (Eq.mp (by kernel_rfl) g)

/-! ### pawl/pawlref1.Link (148) -/
def S148 (a0 a1 : Value) (h : GH) (K : Value → GH → Prop) : Prop :=
 bnd (binV .lss a0 (.int .i64 0)) fun v1 =>
 ifV v1 (
 bnd (binV .add (.int .i64 4) a1) fun v2 =>
 K v2 h) (
 bnd (binV .mul (.int .i64 2) a0) fun v3 =>
 bnd (binV .add (.int .i64 6) v3) fun v4 =>
 bnd (binV .add v4 a1) fun v5 =>
 K v5 h)
def A148 : Ann := ⟨fun _ => ([], []), fun _ => []⟩
theorem S148_T {a0 a1 : Value} {h : GH} {K : Value → GH → Prop} (g : S148 a0 a1 h K) : T Tryz.prog 148 [a0, a1] h K :=
  T_of_gwp (A := A148) Tryz.func148 (c := bodyOf Tryz.f148) (by kernel_rfl) (by kernel_rfl) (by kernel_rfl) (by kernel_rfl) (by kernel_rfl) (Eq.mp (by kernel_rfl) g)

/-! ### pawl/pawlref1.IsValue (149) -/
def S149 (a0 : Value) (h : GH) (K : Value → GH → Prop) : Prop :=
 T Tryz.prog 94 [a0] h fun v1 h2 =>
 bnd (exV v1 0) fun v3 =>
 bnd (exV v1 1) fun v4 =>
 newV 132 [(.int .i64 0), (.int .i64 0), (.int .i64 0), (.int .i64 0), (.int .i64 0), (.int .i64 0), (.int .i64 0)] h2 fun v5 h6 =>
 bnd (stV 7 v5 v3 h6) fun h7 =>
 bnd (faV 1 v5) fun v8 =>
 bnd (ldV 1 false v8 h7) fun v9 =>
 bnd (eqI v4 (.int .i64 0)) fun b10 =>
 ifV (.bool b10) (
 bnd (faV 0 v5) fun v11 =>
 bnd (ldV 1 false v11 h7) fun v12 =>
 bnd (eqI v12 (.int .i64 0)) fun b13 =>
 K (.tuple #[v9, (.bool b13)]) h7) (
 K (.tuple #[v9, (.bool false)]) h7)
def A149 : Ann := ⟨fun | 2 => ([0, 1, 2, 3, 4, 5, 6, 7, 8, 9, 10], [0, 1, 0, 4, 12, 28, 60, 124, 252, 31, 1023]) | _ => ([], []), fun _ => []⟩
theorem S149_T {a0 : Value} {h : GH} {K : Value → GH → Prop} (g : S149 a0 h K) : T Tryz.prog 149 [a0] h K :=
  T_of_gwp (A := A149) Tryz.func149 (c := bodyOf Tryz.f149) (by kernel_rfl) (by kernel_rfl) (by kernel_rfl) (by kernel_rfl) (by kernel_rfl) (Eq.mp (by kernel_rfl) g)

/-! ### (*pawl/cells.Walk).Get (150) -/
def S150 (a0 a1 : Value) (h : GH) (K : Value → GH → Prop) : Prop :=
 bnd (ncV a0) fun v1 =>
 bnd (faV 48 v1) fun v2 =>
 bnd (ldV 1 false v2 h) fun v3 =>
 bnd (eqK .iface true v3 .nilIface) fun b4 =>
 ifV (.bool (!b4)) (
 K (.int .i64 0) h) (
 bnd (ncV a0) fun v5 =>
 bnd (faV 0 v5) fun v6 =>
 bnd (faV 0 v6) fun v7 =>
 bnd (iaV 16 1 v7 a1) fun v8 =>
 bnd (ldV 1 false v8 h) fun v9 =>
 bnd (unV .not v9) fun v10 =>
 ifV v10 (
 bnd (ncV a0) fun v11 =>
 bnd (faV 48 v11) fun v12 =>
 bnd (stV 1 v12 (.iface 234 a1) h) fun h13 =>
 K (.int .i64 0) h13) (
 bnd (ncV a0) fun v14 =>
 bnd (faV 0 v14) fun v15 =>
 bnd (faV 32 v15) fun v16 =>
 bnd (iaV 16 1 v16 a1) fun v17 =>
 bnd (ldV 1 false v17 h) fun v18 =>
 K v18 h))
def A150 : Ann := ⟨fun _ => ([], []), fun _ => []⟩
theorem S150_T {a0 a1 : Value} {h : GH} {K : Value → GH → Prop} (g : S150 a0 a1 h K) : T Tryz.prog 150 [a0, a1] h K :=
  T_of_gwp (A := A150) Tryz.func150 (c := bodyOf Tryz.f150) (by kernel_rfl) (by kernel_rfl) (by kernel_rfl) (by kernel_rfl) (by kernel_rfl) (Eq.mp (by kernel_rfl) g)

/-! ### pawl/cells.At (151) -/
def S151 (a0 a1 : Value) (h : GH) (K : Value → GH → Prop) : Prop :=
 bnd (binV .sub a0 (.int .i64 (-1))) fun v1 =>
 bnd (binV .mul (.int .i64 2) v1) fun v2 =>
 bnd (binV .add (.int .i64 4) v2) fun v3 =>
 bnd (binV .add v3 a1) fun v4 =>
 K v4 h
def A151 : Ann := ⟨fun _ => ([], []), fun _ => []⟩
theorem S151_T {a0 a1 : Value} {h : GH} {K : Value → GH → Prop} (g : S151 a0 a1 h K) : T Tryz.prog 151 [a0, a1] h K :=
  T_of_gwp (A := A151) Tryz.func151 (c := bodyOf Tryz.f151) (by kernel_rfl) (by kernel_rfl) (by kernel_rfl) (by kernel_rfl) (by kernel_rfl) (Eq.mp (by kernel_rfl) g)

/-! ### (pawl/skip.list).lead (152) -/
def S152 (a0 a1 a2 a3 : Value) (h : GH) (K : Value → GH → Prop) : Prop :=
 newV 193 (a0 : Value).cells.toList h fun v1 h2 =>
 bnd (faV 0 v1) fun v3 =>
 bnd (ldV 1 false v3 h2) fun v4 =>
 T Tryz.prog 151 [a1, a2] h2 fun v5 h6 =>
 ldV 1 false v3 h6 = some v4 ∧
 T Tryz.prog 145 [v4, v5, a3] h6 fun v7 h8 =>
 K (.tuple #[]) h8
def A152 : Ann := ⟨fun | 1 => ([0, 1, 2, 3, 5, 4, 6], [0, 1, 0, 0, 12, 0, 63]) | _ => ([], []), fun _ => []⟩
theorem S152_T {a0 a1 a2 a3 : Value} {h : GH} {K : Value → GH → Prop} (g : S152 a0 a1 a2 a3 h K) : T Tryz.prog 152 [a0, a1, a2, a3] h K :=
  T_of_gwp (A := A152) Tryz.func152 (c := bodyOf Tryz.f152) (by kernel_rfl) (by kernel_rfl) (by kernel_rfl) (by kernel_rfl) (by kernel_rfl) (Eq.mp (by kernel_rfl) g)

/-! ### (pawl/word.Mcas).life (170) -/
def S170 (a0 : Value) (h : GH) (K : Value → GH → Prop) : Prop :=
 newV 97 (a0 : Value).cells.toList h fun v1 h2 =>
 bnd (faV 1 v1) fun v3 =>
 bnd (ldV 1 false v3 h2) fun v4 =>
 bnd (binV .mul v4 (.int .i64 16)) fun v5 =>
 bnd (faV 0 v1) fun v6 =>
 bnd (ldV 1 false v6 h2) fun v7 =>
 bnd (binV .add v5 v7) fun v8 =>
 K v8 h2
def A170 : Ann := ⟨fun _ => ([], []), fun _ => []⟩
theorem S170_T {a0 : Value} {h : GH} {K : Value → GH → Prop} (g : S170 a0 h K) : T Tryz.prog 170 [a0] h K :=
  T_of_gwp (A := A170) Tryz.func170 (c := bodyOf Tryz.f170) (by kernel_rfl) (by kernel_rfl) (by kernel_rfl) (by kernel_rfl) (by kernel_rfl) (Eq.mp (by kernel_rfl) g)

/-! ### (pawl/word.Mcas).number (171) -/
def S171 (a0 : Value) (h : GH) (K : Value → GH → Prop) : Prop :=
 newV 97 (a0 : Value).cells.toList h fun v1 h2 =>
 bnd (ldV 2 true v1 h2) fun v3 =>
 T Tryz.prog 170 [v3] h2 fun v4 h5 =>
 bnd (binV .mul v4 (.int .i64 4)) fun v6 =>
 bnd (binV .add v6 (.int .i64 2)) fun v7 =>
 K v7 h5
def A171 : Ann := ⟨fun _ => ([], []), fun _ => []⟩
theorem S171_T {a0 : Value} {h : GH} {K : Value → GH → Prop} (g : S171 a0 h K) : T Tryz.prog 171 [a0] h K :=
  T_of_gwp (A := A171) Tryz.func171 (c := bodyOf Tryz.f171) (by kernel_rfl) (by kernel_rfl) (by kernel_rfl) (by kernel_rfl) (by kernel_rfl) (Eq.mp (by kernel_rfl) g)

/-! ### (pawl/word.Mcas).plain (172) -/
def S172 (a0 : Value) (h : GH) (K : Value → GH → Prop) : Prop :=
 newV 97 (a0 : Value).cells.toList h fun v1 h2 =>
 newV 132 [(.int .i64 0), (.int .i64 0), (.int .i64 0), (.int .i64 0), (.int .i64 0), (.int .i64 0), (.int .i64 0)] h2 fun v3 h4 =>
 bnd (faV 0 v1) fun v5 =>
 bnd (ldV 1 false v5 h4) fun v6 =>
 bnd (faV 1 v1) fun v7 =>
 bnd (ldV 1 false v7 h4) fun v8 =>
 bnd (fillV [(.int .i64 0), (.int .i64 0), (.int .i64 0), (.int .i64 0), (.int .i64 0), (.int .i64 0), (.int .i64 0)] [(0, 1, (.int .i64 2)), (2, 1, v6), (3, 1, v8)]) fun c9 =>
 bnd (stV 7 v3 (.agg c9.toArray) h4) fun h10 =>
 bnd (ldV 7 true v3 h10) fun v11 =>
 K v11 h10
def A172 : Ann := ⟨fun _ => ([], []), fun _ => []⟩
theorem S172_T {a0 : Value} {h : GH} {K : Value → GH → Prop} (g : S172 a0 h K) : T Tryz.prog 172 [a0] h K :=
  T_of_gwp (A := A172) Tryz.func172 (c := bodyOf Tryz.f172) (by kernel_rfl) (by kernel_rfl) (by kernel_rfl) (by kernel_rfl) (by kernel_rfl) (Eq.mp (by kernel_rfl) g)

/-! ### (*pawl/read.Read).Seq (173) -/
def S173 (a0 : Value) (h : GH) (K : Value → GH → Prop) : Prop :=
 bnd (eqK .ptr true a0 (.pointer none)) fun b1 =>
 ifV (.bool b1) (
 K (.int .i64 0) h) (
 bnd (ncV a0) fun v2 =>
 bnd (faV 1 v2) fun v3 =>
 bnd (ldV 1 false v3 h) fun v4 =>
 K v4 h)
def A173 : Ann := ⟨fun _ => ([], []), fun _ => []⟩
theorem S173_T {a0 : Value} {h : GH} {K : Value → GH → Prop} (g : S173 a0 h K) : T Tryz.prog 173 [a0] h K :=
  T_of_gwp (A := A173) Tryz.func173 (c := bodyOf Tryz.f173) (by kernel_rfl) (by kernel_rfl) (by kernel_rfl) (by kernel_rfl) (by kernel_rfl) (Eq.mp (by kernel_rfl) g)

/-! ### (*pawl/read.Read).Step (174) -/
def S174_j3 (x0 x1 x6 : Value) (h : GH) (K : Value → GH → Prop)  : Prop :=
 callV Tryz.prog x6 [x1] h fun v1 h2 =>
 bnd (eqI v1 (.int .i64 0)) fun b3 =>
 ifV (.bool (!b3)) (
 bnd (ncV x0) fun v4 =>
 bnd (faV 7 v4) fun v5 =>
 bnd (stV 1 v5 (.bool true) h2) fun h6 =>
 K (.tuple #[(.bool true), (.int .i64 1500)]) h6) (
 bnd (ncV x0) fun v7 =>
 bnd (faV 7 v7) fun v8 =>
 bnd (ldV 1 false v8 h2) fun v9 =>
 K (.tuple #[v9, (.int .i64 0)]) h2)

def S174_j2 (x0 x1 : Value) (h : GH) (K : Value → GH → Prop)  : Prop :=
 bnd (ncV x0) fun v1 =>
 bnd (faV 4 v1) fun v2 =>
 bnd (ldV 1 false v2 h) fun v3 =>
 bnd (eqK .ptr true v3 (.pointer none)) fun b4 =>
 ifV (.bool (!b4)) (
 S174_j3 x0 x1 (.func (.func 177) #[x0] #[]) h K ) (
 S174_j3 x0 x1 (.func (.func 176) #[x0] #[]) h K )

def S174_j1 (x0 x1 x8 : Value) (h : GH) (K : Value → GH → Prop)  : Prop :=
 ifV x8 (
 K (.tuple #[(.bool false), (.int .i64 1)]) h) (
 bnd (ncV x0) fun v1 =>
 bnd (faV 7 v1) fun v2 =>
 bnd (ldV 1 false v2 h) fun v3 =>
 ifV v3 (
 K (.tuple #[(.bool true), (.int .i64 0)]) h) (
 S174_j2 x0 x1 h K ))
def S174 (a0 a1 : Value) (h : GH) (K : Value → GH → Prop) : Prop :=
 bnd (eqK .ptr true a0 (.pointer none)) fun b1 =>
 ifV (.bool b1) (
 S174_j1 a0 a1 (.bool true) h K ) (
 bnd (eqK .ptr true a1 (.pointer none)) fun b2 =>
 S174_j1 a0 a1 (.bool b2) h K )
def A174 : Ann := ⟨fun _ => ([], []), fun _ => []⟩
theorem S174_T {a0 a1 : Value} {h : GH} {K : Value → GH → Prop} (g : S174 a0 a1 h K) : T Tryz.prog 174 [a0, a1] h K :=
  T_of_gwp (A := A174) Tryz.func174 (c := bodyOf Tryz.f174) (by kernel_rfl) (by kernel_rfl) (by kernel_rfl) (by kernel_rfl) (by kernel_rfl) (Eq.mp (by kernel_rfl) g)

/-! ### (*pawl/read.Read).Through (175) -/
def S175 (a0 : Value) (h : GH) (K : Value → GH → Prop) : Prop :=
 bnd (eqK .ptr true a0 (.pointer none)) fun b1 =>
 ifV (.bool b1) (
 K (.tuple #[(.int .i64 0), (.int .i64 0)]) h) (
 bnd (ncV a0) fun v2 =>
 bnd (faV 5 v2) fun v3 =>
 bnd (ldV 1 false v3 h) fun v4 =>
 bnd (ncV a0) fun v5 =>
 bnd (faV 6 v5) fun v6 =>
 bnd (ldV 1 false v6 h) fun v7 =>
 K (.tuple #[v4, v7]) h)
def A175 : Ann := ⟨fun | 3 => ([0, 1, 2, 3, 4, 5, 6, 7, 8, 9], [0, 1, 3, 7, 0, 16, 48, 112, 15, 511]) | _ => ([], []), fun _ => []⟩
theorem S175_T {a0 : Value} {h : GH} {K : Value → GH → Prop} (g : S175 a0 h K) : T Tryz.prog 175 [a0] h K :=
  T_of_gwp (A := A175) Tryz.func175 (c := bodyOf Tryz.f175) (by kernel_rfl) (by kernel_rfl) (by kernel_rfl) (by kernel_rfl) (by kernel_rfl) (Eq.mp (by kernel_rfl) g)

/-! ### (*pawl/read.Read).load (176) -/
def S176 (a0 a1 : Value) (h : GH) (K : Value → GH → Prop) : Prop :=
 bnd (ncV a0) fun v1 =>
 bnd (faV 2 v1) fun v2 =>
 bnd (ldV 1 false v2 h) fun v3 =>
 T Tryz.prog 24 [a1, v3] h fun v4 h5 =>
 bnd (exV v4 0) fun v6 =>
 bnd (exV v4 1) fun v7 =>
 bnd (ncV a0) fun v8 =>
 bnd (faV 5 v8) fun v9 =>
 bnd (stV 1 v9 (.int .i64 (-1)) h5) fun h10 =>
 bnd (ncV a0) fun v11 =>
 bnd (faV 6 v11) fun v12 =>
 bnd (stV 1 v12 (.int .i64 0) h10) fun h13 =>
 T Tryz.prog 178 [v6] h13 fun v14 h15 =>
 bnd (exV v14 0) fun v16 =>
 bnd (exV v14 1) fun v17 =>
 ifV v17 (
 bnd (ncV a0) fun v18 =>
 bnd (faV 3 v18) fun v19 =>
 bnd (stV 1 v19 v16 h15) fun h20 =>
 bnd (ncV a0) fun v21 =>
 bnd (faV 7 v21) fun v22 =>
 bnd (stV 1 v22 (.bool true) h20) fun h23 =>
 K (.int .i64 0) h23) (
 bnd (ncV a0) fun v24 =>
 bnd (faV 0 v24) fun v25 =>
 bnd (ldV 1 false v25 h15) fun v26 =>
 bnd (ncV a0) fun v27 =>
 bnd (faV 1 v27) fun v28 =>
 bnd (ldV 1 false v28 h15) fun v29 =>
 T Tryz.prog 48 [v26, v29, v6] h15 fun v30 h31 =>
 bnd (exV v30 0) fun v32 =>
 bnd (exV v30 1) fun v33 =>
 bnd (ncV a0) fun v34 =>
 bnd (faV 4 v34) fun v35 =>
 bnd (stV 1 v35 v32 h31) fun h36 =>
 K v33 h36)
def A176 : Ann := ⟨fun | 7 => ([0, 1, 2, 3, 4, 5, 6, 7, 8, 9, 10, 11, 12, 13, 14], [0, 1, 3, 7, 0, 16, 48, 112, 0, 511, 1023, 2047, 2047, 4095, 16383]) | _ => ([], []), fun _ => []⟩
theorem S176_T {a0 a1 : Value} {h : GH} {K : Value → GH → Prop} (g : S176 a0 a1 h K) : T Tryz.prog 176 [a0, a1] h K :=
  T_of_gwp (A := A176) Tryz.func176 (c := bodyOf Tryz.f176) (by kernel_rfl) (by kernel_rfl) (by kernel_rfl) (by kernel_rfl) (by kernel_rfl) (Eq.mp (by kernel_rfl) g)

/-! ### (*pawl/read.Read).helping (177) -/
def S177 (a0 a1 : Value) (h : GH) (K : Value → GH → Prop) : Prop :=
 bnd (ncV a0) fun v1 =>
 bnd (faV 4 v1) fun v2 =>
 bnd (ldV 1 false v2 h) fun v3 =>
 T Tryz.prog 179 [v3, a1] h fun v4 h5 =>
 bnd (exV v4 0) fun v6 =>
 bnd (exV v4 1) fun v7 =>
 bnd (ncV a0) fun v8 =>
 bnd (faV 4 v8) fun v9 =>
 bnd (ldV 1 false v9 h5) fun v10 =>
 T Tryz.prog 180 [v10] h5 fun v11 h12 =>
 bnd (exV v11 0) fun v13 =>
 bnd (exV v11 1) fun v14 =>
 bnd (ncV a0) fun v15 =>
 bnd (faV 5 v15) fun v16 =>
 bnd (stV 1 v16 v13 h12) fun h17 =>
 bnd (ncV a0) fun v18 =>
 bnd (faV 6 v18) fun v19 =>
 bnd (stV 1 v19 v14 h17) fun h20 =>
 bnd (ncV a0) fun v21 =>
 bnd (faV 4 v21) fun v22 =>
 bnd (ldV 1 false v22 h20) fun v23 =>
 T Tryz.prog 181 [v23] h20 fun v24 h25 =>
 bnd (ncV a0) fun v26 =>
 bnd (faV 1 v26) fun v27 =>
 bnd (stV 1 v27 v24 h25) fun h28 =>
 ifV v6 (
 bnd (ncV a0) fun v29 =>
 bnd (faV 4 v29) fun v30 =>
 bnd (stV 1 v30 (.pointer none) h28) fun h31 =>
 K v7 h31) (
 K v7 h28)
def A177 : Ann := ⟨fun _ => ([], []), fun _ => []⟩
theorem S177_T {a0 a1 : Value} {h : GH} {K : Value → GH → Prop} (g : S177 a0 a1 h K) : T Tryz.prog 177 [a0, a1] h K :=
  T_of_gwp (A := A177) Tryz.func177 (c := bodyOf Tryz.f177) (by kernel_rfl) (by kernel_rfl) (by kernel_rfl) (by kernel_rfl) (by kernel_rfl) (Eq.mp (by kernel_rfl) g)

/-! ### pawl/word.Plain (178) -/
def S178 (a0 : Value) (h : GH) (K : Value → GH → Prop) : Prop :=
 T Tryz.prog 86 [a0] h fun v1 h2 =>
 bnd (taV 218 (.int .i64 0) true v1) fun v3 =>
 bnd (exV v3 0) fun v4 =>
 bnd (exV v3 1) fun v5 =>
 K (.tuple #[v4, v5]) h2
def A178 : Ann := ⟨fun _ => ([], []), fun _ => []⟩
theorem S178_T {a0 : Value} {h : GH} {K : Value → GH → Prop} (g : S178 a0 h K) : T Tryz.prog 178 [a0] h K :=
  T_of_gwp (A := A178) Tryz.func178 (c := bodyOf Tryz.f178) (by kernel_rfl) (by kernel_rfl) (by kernel_rfl) (by kernel_rfl) (by kernel_rfl) (Eq.mp (by kernel_rfl) g)

/-! ### (*pawl/mcas.Help).Step (179) -/
def S179_j4 (x0 x6 x7 x10 : Value) (h : GH) (K : Value → GH → Prop)  : Prop :=
 ifV x10 (
 bnd (ncV x0) fun v1 =>
 bnd (faV 2 v1) fun v2 =>
 bnd (ldV 1 false v2 h) fun v3 =>
 bnd (slV 1 v3 none (some x6)) fun v4 =>
 bnd (eqI x6 (.int .i64 0)) fun b5 =>
 bnd (ncV x0) fun v6 =>
 bnd (faV 2 v6) fun v7 =>
 bnd (stV 1 v7 v4 h) fun h8 =>
 bnd (ncV x0) fun v9 =>
 bnd (faV 5 v9) fun v10 =>
 bnd (stV 1 v10 (.bool b5) h8) fun h11 =>
 bnd (taV 214 (.pointer none) true x7) fun v12 =>
 bnd (exV v12 0) fun v13 =>
 bnd (exV v12 1) fun v14 =>
 bnd (ncV x0) fun v15 =>
 bnd (faV 5 v15) fun v16 =>
 bnd (ldV 1 false v16 h11) fun v17 =>
 ifV v17 (
 ifV v14 (
 bnd (ncV v13) fun v18 =>
 bnd (faV 0 v18) fun v19 =>
 bnd (faV 5 v19) fun v20 =>
 bnd (ldV 1 false v20 h11) fun v21 =>
 bnd (ncV x0) fun v22 =>
 bnd (faV 4 v22) fun v23 =>
 bnd (stV 1 v23 v21 h11) fun h24 =>
 bnd (ncV x0) fun v25 =>
 bnd (faV 5 v25) fun v26 =>
 bnd (ldV 1 false v26 h24) fun v27 =>
 K (.tuple #[v27, (.int .i64 0)]) h24) (
 bnd (ncV x0) fun v28 =>
 bnd (faV 4 v28) fun v29 =>
 bnd (stV 1 v29 (.bool false) h11) fun h30 =>
 bnd (ncV x0) fun v31 =>
 bnd (faV 5 v31) fun v32 =>
 bnd (ldV 1 false v32 h30) fun v33 =>
 K (.tuple #[v33, (.int .i64 0)]) h30)) (
 bnd (ncV x0) fun v34 =>
 bnd (faV 4 v34) fun v35 =>
 bnd (stV 1 v35 (.bool false) h11) fun h36 =>
 bnd (ncV x0) fun v37 =>
 bnd (faV 5 v37) fun v38 =>
 bnd (ldV 1 false v38 h36) fun v39 =>
 K (.tuple #[v39, (.int .i64 0)]) h36)) (
 bnd (ncV x0) fun v40 =>
 bnd (faV 5 v40) fun v41 =>
 bnd (ldV 1 false v41 h) fun v42 =>
 K (.tuple #[v42, (.int .i64 0)]) h)

def S179_j3 (x0 x6 x7 x9 x10 : Value) (h : GH) (K : Value → GH → Prop)  : Prop :=
 bnd (eqK .iface true x9 .nilIface) fun b1 =>
 ifV (.bool (!b1)) (
 bnd (ncV x0) fun v2 =>
 bnd (faV 2 v2) fun v3 =>
 bnd (ldV 1 false v3 h) fun v4 =>
 bsV 166 1 [.nilIface] [(0, 1, x9)] h fun v5 h6 =>
 apV 166 1 16 v4 v5 h6 fun v7 h8 =>
 bnd (ncV x0) fun v9 =>
 bnd (faV 2 v9) fun v10 =>
 bnd (stV 1 v10 v7 h8) fun h11 =>
 S179_j4 x0 x6 x7 x10 h11 K ) (
 S179_j4 x0 x6 x7 x10 h K )

def S179_j2 (x0 x1 : Value) (h : GH) (K : Value → GH → Prop)  : Prop :=
 bnd (ncV x0) fun v1 =>
 bnd (faV 2 v1) fun v2 =>
 bnd (ldV 1 false v2 h) fun v3 =>
 bnd (lnV v3) fun v4 =>
 bnd (binV .sub v4 (.int .i64 1)) fun v5 =>
 bnd (ncV x0) fun v6 =>
 bnd (faV 2 v6) fun v7 =>
 bnd (ldV 1 false v7 h) fun v8 =>
 bnd (isV 1 v8 v5) fun v9 =>
 bnd (ldV 1 false v9 h) fun v10 =>
 ivV Tryz.prog v10 "pawl/mcas.through" [] h fun v11 h12 =>
 newV 97 [(.int .i64 0), (.int .i64 0)] h12 fun v13 h14 =>
 bnd (stV 2 v13 v11 h14) fun h15 =>
 bnd (ncV x0) fun v16 =>
 bnd (faV 3 v16) fun v17 =>
 bnd (stV 1 v17 v13 h15) fun h18 =>
 ivV Tryz.prog v10 "pawl/mcas.step" [x1] h18 fun v19 h20 =>
 bnd (exV v19 0) fun v21 =>
 bnd (exV v19 1) fun v22 =>
 bnd (exV v19 2) fun v23 =>
 bnd (unV .not v23) fun v24 =>
 ifV v24 (
 bnd (ncV x0) fun v25 =>
 bnd (faV 5 v25) fun v26 =>
 bnd (stV 1 v26 (.bool true) h20) fun h27 =>
 K (.tuple #[(.bool true), (.int .i64 1400)]) h27) (
 bnd (eqK .iface true v21 .nilIface) fun b28 =>
 ifV (.bool (!b28)) (
 bnd (ncV x0) fun v29 =>
 bnd (faV 2 v29) fun v30 =>
 bnd (ldV 1 false v30 h20) fun v31 =>
 bnd (lnV v31) fun v32 =>
 bnd (binV .geq v32 (.int .i64 18)) fun v33 =>
 ifV v33 (
 bnd (ncV x0) fun v34 =>
 bnd (faV 5 v34) fun v35 =>
 bnd (stV 1 v35 (.bool true) h20) fun h36 =>
 K (.tuple #[(.bool true), (.int .i64 1400)]) h36) (
 S179_j3 x0 v5 v10 v21 v22 h20 K )) (
 S179_j3 x0 v5 v10 v21 v22 h20 K ))

def S179_j1 (x0 x1 x14 : Value) (h : GH) (K : Value → GH → Prop)  : Prop :=
 ifV x14 (
 K (.tuple #[(.bool false), (.int .i64 1)]) h) (
 bnd (ncV x0) fun v1 =>
 bnd (faV 5 v1) fun v2 =>
 bnd (ldV 1 false v2 h) fun v3 =>
 ifV v3 (
 K (.tuple #[(.bool true), (.int .i64 0)]) h) (
 S179_j2 x0 x1 h K ))
def S179 (a0 a1 : Value) (h : GH) (K : Value → GH → Prop) : Prop :=
 bnd (eqK .ptr true a0 (.pointer none)) fun b1 =>
 ifV (.bool b1) (
 S179_j1 a0 a1 (.bool true) h K ) (
 bnd (eqK .ptr true a1 (.pointer none)) fun b2 =>
 S179_j1 a0 a1 (.bool b2) h K )
def A179 : Ann := ⟨fun _ => ([], []), fun _ => []⟩
theorem S179_T {a0 a1 : Value} {h : GH} {K : Value → GH → Prop} (g : S179 a0 a1 h K) : T Tryz.prog 179 [a0, a1] h K :=
  T_of_gwp (A := A179) Tryz.func179 (c := bodyOf Tryz.f179) (by kernel_rfl) (by kernel_rfl) (by kernel_rfl) (by kernel_rfl) (by kernel_rfl) (Eq.mp (by kernel_rfl) g)

/-! ### (*pawl/mcas.Help).Through (180) -/
def S180 (a0 : Value) (h : GH) (K : Value → GH → Prop) : Prop :=
 bnd (eqK .ptr true a0 (.pointer none)) fun b1 =>
 ifV (.bool b1) (
 K (.tuple #[(.int .i64 0), (.int .i64 0)]) h) (
 bnd (ncV a0) fun v2 =>
 bnd (faV 3 v2) fun v3 =>
 bnd (ldV 1 false v3 h) fun v4 =>
 bnd (eqK .ptr true v4 (.pointer none)) fun b5 =>
 ifV (.bool b5) (
 K (.tuple #[(.int .i64 (-1)), (.int .i64 0)]) h) (
 bnd (ncV a0) fun v6 =>
 bnd (faV 3 v6) fun v7 =>
 bnd (ldV 1 false v7 h) fun v8 =>
 bnd (ncV v8) fun v9 =>
 bnd (faV 0 v9) fun v10 =>
 bnd (ldV 1 false v10 h) fun v11 =>
 bnd (ncV a0) fun v12 =>
 bnd (faV 3 v12) fun v13 =>
 bnd (ldV 1 false v13 h) fun v14 =>
 bnd (ncV v14) fun v15 =>
 bnd (faV 1 v15) fun v16 =>
 bnd (ldV 1 false v16 h) fun v17 =>
 K (.tuple #[v11, v17]) h))
def A180 : Ann := ⟨fun | 5 => ([0, 1, 2, 3, 4, 5, 6, 7, 8, 9, 10, 11, 12, 13, 14, 15], [0, 1, 3, 7, 15, 31, 63, 0, 128, 384, 896, 1920, 3968, 8064, 127, 32767]) | _ => ([], []), fun _ => []⟩
theorem S180_T {a0 : Value} {h : GH} {K : Value → GH → Prop} (g : S180 a0 h K) : T Tryz.prog 180 [a0] h K :=
  T_of_gwp (A := A180) Tryz.func180 (c := bodyOf Tryz.f180) (by kernel_rfl) (by kernel_rfl) (by kernel_rfl) (by kernel_rfl) (by kernel_rfl) (Eq.mp (by kernel_rfl) g)

/-! ### (*pawl/mcas.Help).Seq (181) -/
def S181 (a0 : Value) (h : GH) (K : Value → GH → Prop) : Prop :=
 bnd (eqK .ptr true a0 (.pointer none)) fun b1 =>
 ifV (.bool b1) (
 K (.int .i64 0) h) (
 bnd (ncV a0) fun v2 =>
 bnd (faV 0 v2) fun v3 =>
 bnd (faV 1 v3) fun v4 =>
 bnd (ldV 1 false v4 h) fun v5 =>
 K v5 h)
def A181 : Ann := ⟨fun _ => ([], []), fun _ => []⟩
theorem S181_T {a0 : Value} {h : GH} {K : Value → GH → Prop} (g : S181 a0 h K) : T Tryz.prog 181 [a0] h K :=
  T_of_gwp (A := A181) Tryz.func181 (c := bodyOf Tryz.f181) (by kernel_rfl) (by kernel_rfl) (by kernel_rfl) (by kernel_rfl) (by kernel_rfl) (Eq.mp (by kernel_rfl) g)

/-! ### (*pawl/desc.Writer).Step (182) -/
def S182_j2 (x0 : Value) (h : GH) (K : Value → GH → Prop)  : Prop :=
 bnd (ncV x0) fun v1 =>
 bnd (faV 1 v1) fun v2 =>
 bnd (ldV 1 false v2 h) fun v3 =>
 bnd (lnV v3) fun v4 =>
 bnd (eqI v4 (.int .i64 0)) fun b5 =>
 K (.tuple #[(.bool b5), (.int .i64 0)]) h

def S182_j1 (x0 x1 : Value) (h : GH) (K : Value → GH → Prop)  : Prop :=
 bnd (ncV x0) fun v1 =>
 bnd (faV 1 v1) fun v2 =>
 bnd (ldV 1 false v2 h) fun v3 =>
 bnd (lnV v3) fun v4 =>
 bnd (binV .gtr v4 (.int .i64 0)) fun v5 =>
 ifV v5 (
 bnd (ncV x0) fun v6 =>
 bnd (faV 0 v6) fun v7 =>
 bnd (ldV 1 false v7 h) fun v8 =>
 bnd (ncV x0) fun v9 =>
 bnd (faV 1 v9) fun v10 =>
 bnd (ldV 1 false v10 h) fun v11 =>
 bnd (isV 1 v11 (.int .i64 0)) fun v12 =>
 bnd (ldV 1 false v12 h) fun v13 =>
 T Tryz.prog 14 [x1, v8, v13] h fun v14 h15 =>
 bnd (ncV x0) fun v16 =>
 bnd (faV 0 v16) fun v17 =>
 bnd (ldV 1 false v17 h15) fun v18 =>
 bnd (binV .add v18 (.int .i64 1)) fun v19 =>
 bnd (ncV x0) fun v20 =>
 bnd (faV 0 v20) fun v21 =>
 bnd (stV 1 v21 v19 h15) fun h22 =>
 bnd (ncV x0) fun v23 =>
 bnd (faV 1 v23) fun v24 =>
 bnd (ldV 1 false v24 h22) fun v25 =>
 bnd (slV 1 v25 (some (.int .i64 1)) none) fun v26 =>
 bnd (ncV x0) fun v27 =>
 bnd (faV 1 v27) fun v28 =>
 bnd (stV 1 v28 v26 h22) fun h29 =>
 S182_j2 x0 h29 K ) (
 S182_j2 x0 h K )
def S182 (a0 a1 : Value) (h : GH) (K : Value → GH → Prop) : Prop :=
 bnd (eqK .ptr true a0 (.pointer none)) fun b1 =>
 ifV (.bool b1) (
 K (.tuple #[(.bool false), (.int .i64 1)]) h) (
 bnd (eqK .ptr true a1 (.pointer none)) fun b2 =>
 ifV (.bool b2) (
 K (.tuple #[(.bool false), (.int .i64 1)]) h) (
 S182_j1 a0 a1 h K ))
def A182 : Ann := ⟨fun | 4 => ([0, 1, 2, 3, 4, 5, 6, 7, 8, 9, 10, 11], [0, 0, 2, 6, 14, 0, 32, 96, 224, 480, 992, 2047]) | _ => ([], []), fun _ => []⟩
theorem S182_T {a0 a1 : Value} {h : GH} {K : Value → GH → Prop} (g : S182 a0 a1 h K) : T Tryz.prog 182 [a0, a1] h K :=
  T_of_gwp (A := A182) Tryz.func182 (c := bodyOf Tryz.f182) (by kernel_rfl) (by kernel_rfl) (by kernel_rfl) (by kernel_rfl) (by kernel_rfl) (Eq.mp (by kernel_rfl) g)

/-! ### (*pawl/mcas.hand).next (183) -/
def S183 (a0 : Value) (h : GH) (K : Value → GH → Prop) : Prop :=
 bnd (ncV a0) fun v1 =>
 bnd (faV 1 v1) fun v2 =>
 bnd (ldV 1 false v2 h) fun v3 =>
 bnd (binV .add v3 (.int .i64 1)) fun v4 =>
 bnd (binV .rem v4 (.int .i64 1048576)) fun v5 =>
 bnd (ncV a0) fun v6 =>
 bnd (faV 1 v6) fun v7 =>
 bnd (stV 1 v7 v5 h) fun h8 =>
 K v3 h8
def A183 : Ann := ⟨fun _ => ([], []), fun _ => []⟩
theorem S183_T {a0 : Value} {h : GH} {K : Value → GH → Prop} (g : S183 a0 h K) : T Tryz.prog 183 [a0] h K :=
  T_of_gwp (A := A183) Tryz.func183 (c := bodyOf Tryz.f183) (by kernel_rfl) (by kernel_rfl) (by kernel_rfl) (by kernel_rfl) (by kernel_rfl) (Eq.mp (by kernel_rfl) g)

/-! ### (pawl/word.Entry).number (184) -/
def S184 (a0 : Value) (h : GH) (K : Value → GH → Prop) : Prop :=
 newV 208 (a0 : Value).cells.toList h fun v1 h2 =>
 bnd (faV 0 v1) fun v3 =>
 bnd (ldV 2 true v3 h2) fun v4 =>
 bnd (faV 2 v1) fun v5 =>
 bnd (ldV 1 false v5 h2) fun v6 =>
 bnd (faV 3 v1) fun v7 =>
 bnd (ldV 1 false v7 h2) fun v8 =>
 bnd (faV 4 v1) fun v9 =>
 bnd (ldV 1 false v9 h2) fun v10 =>
 T Tryz.prog 170 [v4] h2 fun v11 h12 =>
 ldV 1 false v9 h12 = some v10 ∧
 ldV 1 false v7 h12 = some v8 ∧
 ldV 1 false v5 h12 = some v6 ∧
 bnd (binV .mul v11 (.int .i64 16)) fun v13 =>
 bnd (binV .add v13 v6) fun v14 =>
 bnd (binV .mul v14 (.int .i64 4)) fun v15 =>
 bnd (binV .add v15 v8) fun v16 =>
 bnd (binV .mul v16 (.int .i64 1048576)) fun v17 =>
 bnd (binV .add v17 v10) fun v18 =>
 bnd (binV .mul v18 (.int .i64 4)) fun v19 =>
 bnd (binV .add v19 (.int .i64 1)) fun v20 =>
 K v20 h12
def A184 : Ann := ⟨fun | 1 => ([0, 1, 4, 5, 8, 9, 12, 13, 2, 3, 6, 7, 10, 11, 14, 15, 16, 17], [0, 1, 3, 7, 0, 16, 63, 127, 0, 256, 1023, 2047, 0, 4096, 16383, 32767, 65535, 131071]) | _ => ([], []), fun _ => []⟩
theorem S184_T {a0 : Value} {h : GH} {K : Value → GH → Prop} (g : S184 a0 h K) : T Tryz.prog 184 [a0] h K :=
  T_of_gwp (A := A184) Tryz.func184 (c := bodyOf Tryz.f184) (by kernel_rfl) (by kernel_rfl) (by kernel_rfl) (by kernel_rfl) (by kernel_rfl) (Eq.mp (by kernel_rfl) g)

/-! ### (pawl/word.Entry).plain (185) -/
def S185 (a0 : Value) (h : GH) (K : Value → GH → Prop) : Prop :=
 newV 208 (a0 : Value).cells.toList h fun v1 h2 =>
 newV 132 [(.int .i64 0), (.int .i64 0), (.int .i64 0), (.int .i64 0), (.int .i64 0), (.int .i64 0), (.int .i64 0)] h2 fun v3 h4 =>
 bnd (faV 0 v1) fun v5 =>
 bnd (faV 0 v5) fun v6 =>
 bnd (ldV 1 false v6 h4) fun v7 =>
 bnd (faV 0 v1) fun v8 =>
 bnd (faV 1 v8) fun v9 =>
 bnd (ldV 1 false v9 h4) fun v10 =>
 bnd (faV 2 v1) fun v11 =>
 bnd (ldV 1 false v11 h4) fun v12 =>
 bnd (faV 3 v1) fun v13 =>
 bnd (ldV 1 false v13 h4) fun v14 =>
 bnd (faV 4 v1) fun v15 =>
 bnd (ldV 1 false v15 h4) fun v16 =>
 bnd (fillV [(.int .i64 0), (.int .i64 0), (.int .i64 0), (.int .i64 0), (.int .i64 0), (.int .i64 0), (.int .i64 0)] [(0, 1, (.int .i64 1)), (2, 1, v7), (3, 1, v10), (4, 1, v12), (5, 1, v14), (6, 1, v16)]) fun c17 =>
 bnd (stV 7 v3 (.agg c17.toArray) h4) fun h18 =>
 bnd (ldV 7 true v3 h18) fun v19 =>
 K v19 h18
def A185 : Ann := ⟨fun _ => ([], []), fun _ => []⟩
theorem S185_T {a0 : Value} {h : GH} {K : Value → GH → Prop} (g : S185 a0 h K) : T Tryz.prog 185 [a0] h K :=
  T_of_gwp (A := A185) Tryz.func185 (c := bodyOf Tryz.f185) (by kernel_rfl) (by kernel_rfl) (by kernel_rfl) (by kernel_rfl) (by kernel_rfl) (Eq.mp (by kernel_rfl) g)

/-! ### (*pawl/mcas.entry).step (186) -/
def S186 (a0 a1 : Value) (h : GH) (K : Value → GH → Prop) : Prop :=
 bnd (ncV a0) fun v1 =>
 bnd (faV 11 v1) fun v2 =>
 bnd (ldV 1 false v2 h) fun v3 =>
 bnd (binV .add v3 (.int .i64 1)) fun v4 =>
 bnd (ncV a0) fun v5 =>
 bnd (faV 11 v5) fun v6 =>
 bnd (stV 1 v6 v4 h) fun h7 =>
 bnd (ncV a0) fun v8 =>
 bnd (faV 11 v8) fun v9 =>
 bnd (ldV 1 false v9 h7) fun v10 =>
 bnd (eqI v10 (.int .i64 1)) fun b11 =>
 ifV (.bool b11) (
 bnd (ncV a0) fun v12 =>
 bnd (faV 0 v12) fun v13 =>
 bnd (ncV a0) fun v14 =>
 bnd (faV 6 v14) fun v15 =>
 bnd (faV 2 v15) fun v16 =>
 bnd (ldV 1 false v16 h7) fun v17 =>
 T Tryz.prog 188 [v13, a1, v17] h7 fun v18 h19 =>
 K (.tuple #[.nilIface, (.bool false), v18]) h19) (
 bnd (eqI v10 (.int .i64 2)) fun b20 =>
 ifV (.bool b20) (
 bnd (ncV a0) fun v21 =>
 bnd (faV 0 v21) fun v22 =>
 bnd (ncV a0) fun v23 =>
 bnd (faV 6 v23) fun v24 =>
 bnd (faV 2 v24) fun v25 =>
 bnd (ldV 1 false v25 h7) fun v26 =>
 T Tryz.prog 189 [v22, a1, v26] h7 fun v27 h28 =>
 K (.tuple #[.nilIface, (.bool false), v27]) h28) (
 bnd (eqI v10 (.int .i64 3)) fun b29 =>
 ifV (.bool b29) (
 bnd (ncV a0) fun v30 =>
 bnd (faV 0 v30) fun v31 =>
 T Tryz.prog 190 [v31, a1] h7 fun v32 h33 =>
 K (.tuple #[.nilIface, (.bool false), v32]) h33) (
 bnd (ncV a0) fun v34 =>
 bnd (faV 0 v34) fun v35 =>
 bnd (ncV a0) fun v36 =>
 bnd (faV 6 v36) fun v37 =>
 bnd (ldV 5 true v37 h7) fun v38 =>
 T Tryz.prog 49 [(.iface 208 v38)] h7 fun v39 h40 =>
 T Tryz.prog 191 [v35, a1, v39] h40 fun v41 h42 =>
 K (.tuple #[.nilIface, (.bool true), (.bool true)]) h42)))
def A186 : Ann := ⟨fun | 4 => ([0, 1, 2, 3, 4, 5, 6, 7, 8, 9, 10, 11, 12], [0, 1, 3, 0, 0, 16, 48, 112, 240, 511, 1023, 2047, 4095]) | 6 => ([0, 1, 2, 3, 4, 5, 6, 7, 8, 9, 10, 11, 12], [0, 1, 3, 0, 0, 16, 48, 112, 240, 511, 1023, 2047, 4095]) | 9 => ([0, 1, 2, 3, 4, 5, 6, 7, 8, 9, 10], [0, 1, 3, 0, 0, 16, 48, 112, 240, 496, 1023]) | _ => ([], []), fun _ => []⟩
theorem S186_T {a0 a1 : Value} {h : GH} {K : Value → GH → Prop} (g : S186 a0 a1 h K) : T Tryz.prog 186 [a0, a1] h K :=
  T_of_gwp (A := A186) Tryz.func186 (c := bodyOf Tryz.f186) (by kernel_rfl) (by kernel_rfl) (by kernel_rfl) (by kernel_rfl) (by kernel_rfl) (Eq.mp (by kernel_rfl) g)

/-! ### (*pawl/mcas.held).through (187) -/
def S187 (a0 : Value) (h : GH) (K : Value → GH → Prop) : Prop :=
 newV 97 [(.int .i64 0), (.int .i64 0)] h fun v1 h2 =>
 bnd (ncV a0) fun v3 =>
 bnd (faV 0 v3) fun v4 =>
 bnd (ldV 2 true v4 h2) fun v5 =>
 bnd (stV 2 v1 v5 h2) fun h6 =>
 bnd (ldV 2 true v1 h6) fun v7 =>
 K v7 h6
def A187 : Ann := ⟨fun _ => ([], []), fun _ => []⟩
theorem S187_T {a0 : Value} {h : GH} {K : Value → GH → Prop} (g : S187 a0 h K) : T Tryz.prog 187 [a0] h K :=
  T_of_gwp (A := A187) Tryz.func187 (c := bodyOf Tryz.f187) (by kernel_rfl) (by kernel_rfl) (by kernel_rfl) (by kernel_rfl) (by kernel_rfl) (Eq.mp (by kernel_rfl) g)

/-! ### (*pawl/mcas.held).takeCell (188) -/
def S188 (a0 a1 a2 : Value) (h : GH) (K : Value → GH → Prop) : Prop :=
 T Tryz.prog 192 [a0, a1, a2, (.int .i64 0)] h fun v1 h2 =>
 bnd (exV v1 0) fun v3 =>
 bnd (exV v1 1) fun v4 =>
 bnd (ncV a0) fun v5 =>
 bnd (faV 2 v5) fun v6 =>
 bnd (stV 1 v6 v3 h2) fun h7 =>
 K v4 h7
def A188 : Ann := ⟨fun _ => ([], []), fun _ => []⟩
theorem S188_T {a0 a1 a2 : Value} {h : GH} {K : Value → GH → Prop} (g : S188 a0 a1 a2 h K) : T Tryz.prog 188 [a0, a1, a2] h K :=
  T_of_gwp (A := A188) Tryz.func188 (c := bodyOf Tryz.f188) (by kernel_rfl) (by kernel_rfl) (by kernel_rfl) (by kernel_rfl) (by kernel_rfl) (Eq.mp (by kernel_rfl) g)

/-! ### (*pawl/mcas.held).takeWas (189) -/
def S189 (a0 a1 a2 : Value) (h : GH) (K : Value → GH → Prop) : Prop :=
 T Tryz.prog 192 [a0, a1, a2, (.int .i64 1)] h fun v1 h2 =>
 bnd (exV v1 0) fun v3 =>
 bnd (exV v1 1) fun v4 =>
 ifV v4 (
 T Tryz.prog 117 [v3] h2 fun v5 h6 =>
 bnd (ncV a0) fun v7 =>
 bnd (faV 3 v7) fun v8 =>
 bnd (stV 1 v8 v5 h6) fun h9 =>
 K v4 h9) (
 K v4 h2)
def A189 : Ann := ⟨fun _ => ([], []), fun _ => []⟩
theorem S189_T {a0 a1 a2 : Value} {h : GH} {K : Value → GH → Prop} (g : S189 a0 a1 a2 h K) : T Tryz.prog 189 [a0, a1, a2] h K :=
  T_of_gwp (A := A189) Tryz.func189 (c := bodyOf Tryz.f189) (by kernel_rfl) (by kernel_rfl) (by kernel_rfl) (by kernel_rfl) (by kernel_rfl) (Eq.mp (by kernel_rfl) g)

/-! ### (*pawl/mcas.held).decision (190) -/
def S190 (a0 a1 : Value) (h : GH) (K : Value → GH → Prop) : Prop :=
 bnd (ncV a0) fun v1 =>
 bnd (faV 0 v1) fun v2 =>
 bnd (faV 0 v2) fun v3 =>
 bnd (ldV 1 false v3 h) fun v4 =>
 T Tryz.prog 115 [v4] h fun v5 h6 =>
 T Tryz.prog 24 [a1, v5] h6 fun v7 h8 =>
 bnd (exV v7 0) fun v9 =>
 bnd (exV v7 1) fun v10 =>
 T Tryz.prog 178 [v9] h8 fun v11 h12 =>
 bnd (exV v11 0) fun v13 =>
 bnd (exV v11 1) fun v14 =>
 bnd (ncV a0) fun v15 =>
 bnd (faV 0 v15) fun v16 =>
 bnd (faV 1 v16) fun v17 =>
 bnd (ldV 1 false v17 h12) fun v18 =>
 T Tryz.prog 116 [v18, (.int .i64 0)] h12 fun v19 h20 =>
 bnd (eqI v9 v19) fun b21 =>
 bnd (ncV a0) fun v22 =>
 bnd (faV 4 v22) fun v23 =>
 bnd (stV 1 v23 (.bool b21) h20) fun h24 =>
 bnd (ncV a0) fun v25 =>
 bnd (faV 0 v25) fun v26 =>
 bnd (faV 1 v26) fun v27 =>
 bnd (ldV 1 false v27 h24) fun v28 =>
 T Tryz.prog 116 [v28, (.int .i64 1)] h24 fun v29 h30 =>
 bnd (eqI v9 v29) fun b31 =>
 bnd (ncV a0) fun v32 =>
 bnd (faV 5 v32) fun v33 =>
 bnd (stV 1 v33 (.bool b31) h30) fun h34 =>
 K v14 h34
def A190 : Ann := ⟨fun _ => ([], []), fun _ => []⟩
theorem S190_T {a0 a1 : Value} {h : GH} {K : Value → GH → Prop} (g : S190 a0 a1 h K) : T Tryz.prog 190 [a0, a1] h K :=
  T_of_gwp (A := A190) Tryz.func190 (c := bodyOf Tryz.f190) (by kernel_rfl) (by kernel_rfl) (by kernel_rfl) (by kernel_rfl) (by kernel_rfl) (Eq.mp (by kernel_rfl) g)

/-! ### (*pawl/mcas.held).settle (191) -/
def S191_j1 (x0 x1 x2 x6 : Value) (h : GH) (K : Value → GH → Prop)  : Prop :=
 bnd (ncV x0) fun v1 =>
 bnd (faV 2 v1) fun v2 =>
 bnd (ldV 1 false v2 h) fun v3 =>
 T Tryz.prog 193 [x1, v3, x2, x6] h fun v4 h5 =>
 K (.tuple #[]) h5
def S191 (a0 a1 a2 : Value) (h : GH) (K : Value → GH → Prop) : Prop :=
 bnd (ncV a0) fun v1 =>
 bnd (faV 3 v1) fun v2 =>
 bnd (ldV 1 false v2 h) fun v3 =>
 bnd (ncV a0) fun v4 =>
 bnd (faV 4 v4) fun v5 =>
 bnd (ldV 1 false v5 h) fun v6 =>
 ifV v6 (
 bnd (ncV a0) fun v7 =>
 bnd (faV 0 v7) fun v8 =>
 bnd (ldV 2 true v8 h) fun v9 =>
 T Tryz.prog 49 [(.iface 97 v9)] h fun v10 h11 =>
 S191_j1 a0 a1 a2 v10 h11 K ) (
 S191_j1 a0 a1 a2 v3 h K )
def A191 : Ann := ⟨fun _ => ([], []), fun _ => []⟩
theorem S191_T {a0 a1 a2 : Value} {h : GH} {K : Value → GH → Prop} (g : S191 a0 a1 a2 h K) : T Tryz.prog 191 [a0, a1, a2] h K :=
  T_of_gwp (A := A191) Tryz.func191 (c := bodyOf Tryz.f191) (by kernel_rfl) (by kernel_rfl) (by kernel_rfl) (by kernel_rfl) (by kernel_rfl) (Eq.mp (by kernel_rfl) g)

/-! ### (*pawl/mcas.held).part (192) -/
def S192_j1 (x0 x1 x2 x3 x10 : Value) (h : GH) (K : Value → GH → Prop)  : Prop :=
 bnd (binV .mul (.int .i64 3) x2) fun v1 =>
 bnd (binV .add (.int .i64 2) v1) fun v2 =>
 bnd (binV .add v2 x3) fun v3 =>
 T Tryz.prog 194 [x0, x1, v3, x10] h fun v4 h5 =>
 bnd (exV v4 0) fun v6 =>
 bnd (exV v4 1) fun v7 =>
 K (.tuple #[v6, v7]) h5
def S192 (a0 a1 a2 a3 : Value) (h : GH) (K : Value → GH → Prop) : Prop :=
 bnd (eqI a3 (.int .i64 0)) fun b1 =>
 ifV (.bool b1) (
 S192_j1 a0 a1 a2 a3 (.int .i64 15) h K ) (
 S192_j1 a0 a1 a2 a3 (.int .i64 1099511627775) h K )
def A192 : Ann := ⟨fun _ => ([], []), fun _ => []⟩
theorem S192_T {a0 a1 a2 a3 : Value} {h : GH} {K : Value → GH → Prop} (g : S192 a0 a1 a2 a3 h K) : T Tryz.prog 192 [a0, a1, a2, a3] h K :=
  T_of_gwp (A := A192) Tryz.func192 (c := bodyOf Tryz.f192) (by kernel_rfl) (by kernel_rfl) (by kernel_rfl) (by kernel_rfl) (by kernel_rfl) (Eq.mp (by kernel_rfl) g)

/-! ### (*pawl/arena.Arena).Swap (193) -/
def S193 (a0 a1 a2 a3 : Value) (h : GH) (K : Value → GH → Prop) : Prop :=
 newV 3 (a2 : Value).cells.toList h fun v1 h2 =>
 newV 3 (a3 : Value).cells.toList h2 fun v3 h4 =>
 T Tryz.prog 45 [a0, (.int .i64 2), a1, (.func (.func 195) #[] #[v1, v3])] h4 fun v5 h6 =>
 bnd (exV v5 0) fun v7 =>
 bnd (exV v5 1) fun v8 =>
 K (.tuple #[v7, v8]) h6
def A193 : Ann := ⟨fun _ => ([], []), fun _ => []⟩
theorem S193_T {a0 a1 a2 a3 : Value} {h : GH} {K : Value → GH → Prop} (g : S193 a0 a1 a2 a3 h K) : T Tryz.prog 193 [a0, a1, a2, a3] h K :=
  T_of_gwp (A := A193) Tryz.func193 (c := bodyOf Tryz.f193) (by kernel_rfl) (by kernel_rfl) (by kernel_rfl) (by kernel_rfl) (by kernel_rfl) (Eq.mp (by kernel_rfl) g)

/-! ### (*pawl/mcas.held).load (194) -/
def S194 (a0 a1 a2 a3 : Value) (h : GH) (K : Value → GH → Prop) : Prop :=
 bnd (ncV a0) fun v1 =>
 bnd (faV 0 v1) fun v2 =>
 bnd (faV 0 v2) fun v3 =>
 bnd (ldV 1 false v3 h) fun v4 =>
 T Tryz.prog 115 [v4] h fun v5 h6 =>
 bnd (binV .add v5 a2) fun v7 =>
 T Tryz.prog 24 [a1, v7] h6 fun v8 h9 =>
 bnd (exV v8 0) fun v10 =>
 bnd (exV v8 1) fun v11 =>
 T Tryz.prog 178 [v10] h9 fun v12 h13 =>
 bnd (exV v12 0) fun v14 =>
 bnd (exV v12 1) fun v15 =>
 ifV v15 (
 bnd (binV .leq v14 a3) fun v16 =>
 K (.tuple #[v14, v16]) h13) (
 K (.tuple #[v14, (.bool false)]) h13)
def A194 : Ann := ⟨fun _ => ([], []), fun _ => []⟩
theorem S194_T {a0 a1 a2 a3 : Value} {h : GH} {K : Value → GH → Prop} (g : S194 a0 a1 a2 a3 h K) : T Tryz.prog 194 [a0, a1, a2, a3] h K :=
  T_of_gwp (A := A194) Tryz.func194 (c := bodyOf Tryz.f194) (by kernel_rfl) (by kernel_rfl) (by kernel_rfl) (by kernel_rfl) (by kernel_rfl) (Eq.mp (by kernel_rfl) g)

/-! ### (*pawl/arena.Arena).Swap$1 (195) -/
def S195 (a0 a1 a2 : Value) (h : GH) (K : Value → GH → Prop) : Prop :=
 bnd (ldV 1 false a1 h) fun v1 =>
 bnd (eqI a0 v1) fun b2 =>
 ifV (.bool b2) (
 bnd (ldV 1 false a2 h) fun v3 =>
 K v3 h) (
 K a0 h)
def A195 : Ann := ⟨fun _ => ([], []), fun _ => []⟩
theorem S195_T {a0 a1 a2 : Value} {h : GH} {K : Value → GH → Prop} (g : S195 a0 a1 a2 h K) : T Tryz.prog 195 [a0, a1, a2] h K :=
  T_of_gwp (A := A195) Tryz.func195 (c := bodyOf Tryz.f195) (by kernel_rfl) (by kernel_rfl) (by kernel_rfl) (by kernel_rfl) (by kernel_rfl) (Eq.mp (by kernel_rfl) g)

/-! ### (*pawl/mcas.whole).next (196) -/
def S196 (a0 a1 a2 : Value) (h : GH) (K : Value → GH → Prop) : Prop :=
 bnd (ncV a0) fun v1 =>
 bnd (faV 8 v1) fun v2 =>
 bnd (ldV 1 false v2 h) fun v3 =>
 bnd (binV .add v3 (.int .i64 1)) fun v4 =>
 bnd (ncV a0) fun v5 =>
 bnd (faV 8 v5) fun v6 =>
 bnd (stV 1 v6 v4 h) fun h7 =>
 bnd (ncV a0) fun v8 =>
 bnd (faV 7 v8) fun v9 =>
 bnd (stV 1 v9 a1 h7) fun h10 =>
 bnd (ncV a0) fun v11 =>
 bnd (faV 8 v11) fun v12 =>
 bnd (ldV 1 false v12 h10) fun v13 =>
 bnd (ncV a0) fun v14 =>
 bnd (faV 9 v14) fun v15 =>
 bnd (ldV 1 false v15 h10) fun v16 =>
 bnd (binV .geq v13 v16) fun v17 =>
 ifV v17 (
 bnd (ncV a0) fun v18 =>
 bnd (faV 7 v18) fun v19 =>
 bnd (stV 1 v19 a2 h10) fun h20 =>
 bnd (ncV a0) fun v21 =>
 bnd (faV 7 v21) fun v22 =>
 bnd (ldV 1 false v22 h20) fun v23 =>
 bnd (eqI v23 a2) fun b24 =>
 K (.bool b24) h20) (
 bnd (ncV a0) fun v25 =>
 bnd (faV 7 v25) fun v26 =>
 bnd (ldV 1 false v26 h10) fun v27 =>
 bnd (eqI v27 a2) fun b28 =>
 K (.bool b28) h10)
def A196 : Ann := ⟨fun | 3 => ([0, 1, 2, 3, 4, 5, 6, 7, 8], [0, 1, 3, 7, 0, 16, 48, 112, 255]) | _ => ([], []), fun _ => []⟩
theorem S196_T {a0 a1 a2 : Value} {h : GH} {K : Value → GH → Prop} (g : S196 a0 a1 a2 h K) : T Tryz.prog 196 [a0, a1, a2] h K :=
  T_of_gwp (A := A196) Tryz.func196 (c := bodyOf Tryz.f196) (by kernel_rfl) (by kernel_rfl) (by kernel_rfl) (by kernel_rfl) (by kernel_rfl) (Eq.mp (by kernel_rfl) g)

/-! ### (*pawl/mcas.whole).step (197) -/
def S197_j3 (x0 x1 x9 x37 x48 : Value) (h : GH) (K : Value → GH → Prop)  : Prop :=
 ifV x48 (
 T Tryz.prog 200 [x0, x1] h fun v1 h2 =>
 bnd (exV v1 0) fun v3 =>
 bnd (exV v1 1) fun v4 =>
 bnd (exV v1 2) fun v5 =>
 K (.tuple #[v3, v4, v5]) h2) (
 bnd (eqI x37 (.int .i64 2)) fun b6 =>
 ifV (.bool b6) (
 T Tryz.prog 201 [x0, x1] h fun v7 h8 =>
 bnd (exV v7 0) fun v9 =>
 bnd (exV v7 1) fun v10 =>
 ifV v9 (
 bnd (ncV x0) fun v11 =>
 bnd (faV 7 v11) fun v12 =>
 bnd (stV 1 v12 (.int .i64 8) h8) fun h13 =>
 K (.tuple #[.nilIface, (.bool false), v10]) h13) (
 K (.tuple #[.nilIface, (.bool false), v10]) h8)) (
 bnd (eqI x37 (.int .i64 3)) fun b14 =>
 ifV (.bool b14) (
 bnd (ncV x0) fun v15 =>
 bnd (faV 0 v15) fun v16 =>
 bnd (ncV x0) fun v17 =>
 bnd (faV 8 v17) fun v18 =>
 bnd (ldV 1 false v18 h) fun v19 =>
 T Tryz.prog 188 [v16, x1, v19] h fun v20 h21 =>
 bnd (ncV x0) fun v22 =>
 bnd (faV 7 v22) fun v23 =>
 bnd (stV 1 v23 (.int .i64 4) h21) fun h24 =>
 K (.tuple #[.nilIface, (.bool false), v20]) h24) (
 bnd (eqI x37 (.int .i64 4)) fun b25 =>
 ifV (.bool b25) (
 bnd (ncV x0) fun v26 =>
 bnd (faV 0 v26) fun v27 =>
 bnd (ncV x0) fun v28 =>
 bnd (faV 8 v28) fun v29 =>
 bnd (ldV 1 false v29 h) fun v30 =>
 T Tryz.prog 189 [v27, x1, v30] h fun v31 h32 =>
 bnd (ncV x0) fun v33 =>
 bnd (faV 7 v33) fun v34 =>
 bnd (stV 1 v34 (.int .i64 5) h32) fun h35 =>
 K (.tuple #[.nilIface, (.bool false), v31]) h35) (
 bnd (eqI x37 (.int .i64 6)) fun b36 =>
 ifV (.bool b36) (
 bnd (ncV x0) fun v37 =>
 bnd (faV 0 v37) fun v38 =>
 T Tryz.prog 190 [v38, x1] h fun v39 h40 =>
 bnd (ncV x0) fun v41 =>
 bnd (faV 7 v41) fun v42 =>
 bnd (stV 1 v42 (.int .i64 7) h40) fun h43 =>
 K (.tuple #[.nilIface, (.bool false), v39]) h43) (
 bnd (eqI x37 (.int .i64 7)) fun b44 =>
 ifV (.bool b44) (
 bnd (ncV x0) fun v45 =>
 bnd (faV 0 v45) fun v46 =>
 bnd (ncV x0) fun v47 =>
 bnd (faV 10 v47) fun v48 =>
 bnd (ldV 1 false v48 h) fun v49 =>
 T Tryz.prog 191 [v46, x1, v49] h fun v50 h51 =>
 T Tryz.prog 196 [x0, (.int .i64 3), (.int .i64 8)] h51 fun v52 h53 =>
 K (.tuple #[.nilIface, (.bool false), x9]) h53) (
 bnd (eqI x37 (.int .i64 8)) fun b54 =>
 ifV (.bool b54) (
 T Tryz.prog 202 [x0, x1, (.int .i64 1)] h fun v55 h56 =>
 K (.tuple #[.nilIface, (.bool false), x9]) h56) (
 bnd (eqI x37 (.int .i64 9)) fun b57 =>
 ifV (.bool b57) (
 T Tryz.prog 202 [x0, x1, (.int .i64 2)] h fun v58 h59 =>
 K (.tuple #[.nilIface, (.bool false), x9]) h59) (
 K (.tuple #[.nilIface, (.bool false), x9]) h))))))))

def S197_j2 (x0 x1 : Value) (h : GH) (K : Value → GH → Prop)  : Prop :=
 bnd (ncV x0) fun v1 =>
 bnd (faV 7 v1) fun v2 =>
 bnd (ldV 1 false v2 h) fun v3 =>
 bnd (eqI v3 (.int .i64 5)) fun b4 =>
 ifV (.bool b4) (
 T Tryz.prog 199 [x0, x1] h fun v5 h6 =>
 bnd (exV v5 0) fun v7 =>
 bnd (exV v5 1) fun v8 =>
 K (.tuple #[v7, (.bool false), v8]) h6) (
 bnd (eqI v3 (.int .i64 1)) fun b9 =>
 ifV (.bool b9) (
 S197_j3 x0 x1 (.bool true) v3 (.bool true) h K ) (
 bnd (eqI v3 (.int .i64 14)) fun b10 =>
 S197_j3 x0 x1 (.bool true) v3 (.bool b10) h K ))

def S197_j1 (x0 x1 x25 : Value) (h : GH) (K : Value → GH → Prop)  : Prop :=
 ifV x25 (
 T Tryz.prog 198 [x0, x1] h fun v1 h2 =>
 bnd (exV v1 0) fun v3 =>
 bnd (exV v1 1) fun v4 =>
 K (.tuple #[.nilIface, v3, v4]) h2) (
 S197_j2 x0 x1 h K )
def S197 (a0 a1 : Value) (h : GH) (K : Value → GH → Prop) : Prop :=
 bnd (ncV a0) fun v1 =>
 bnd (faV 7 v1) fun v2 =>
 bnd (ldV 1 false v2 h) fun v3 =>
 bnd (binV .geq v3 (.int .i64 10)) fun v4 =>
 ifV v4 (
 bnd (ncV a0) fun v5 =>
 bnd (faV 7 v5) fun v6 =>
 bnd (ldV 1 false v6 h) fun v7 =>
 bnd (binV .lss v7 (.int .i64 14)) fun v8 =>
 S197_j1 a0 a1 v8 h K ) (
 S197_j1 a0 a1 (.bool false) h K )
def A197 : Ann := ⟨fun | 18 => ([0, 1, 2, 3, 4, 5, 6, 7, 8, 9], [0, 1, 3, 0, 0, 16, 48, 112, 255, 511]) | 21 => ([0, 1, 2, 3, 4, 5, 6, 7, 8, 9], [0, 1, 3, 0, 0, 16, 48, 112, 255, 511]) | 27 => ([0, 1, 2, 3, 4, 5, 6, 7, 8], [0, 1, 3, 0, 0, 16, 48, 112, 255]) | _ => ([], []), fun _ => []⟩
theorem S197_T {a0 a1 : Value} {h : GH} {K : Value → GH → Prop} (g : S197 a0 a1 h K) : T Tryz.prog 197 [a0, a1] h K :=
  T_of_gwp (A := A197) Tryz.func197 (c := bodyOf Tryz.f197) (by kernel_rfl) (by kernel_rfl) (by kernel_rfl) (by kernel_rfl) (by kernel_rfl) (Eq.mp (by kernel_rfl) g)

/-! ### (*pawl/mcas.whole).release (198) -/
def S198_j1 (x0 x1 x6 : Value) (h : GH) (K : Value → GH → Prop)  : Prop :=
 bnd (ncV x0) fun v1 =>
 bnd (faV 0 v1) fun v2 =>
 bnd (ncV x0) fun v3 =>
 bnd (faV 8 v3) fun v4 =>
 bnd (ldV 1 false v4 h) fun v5 =>
 T Tryz.prog 192 [v2, x1, v5, x6] h fun v6 h7 =>
 bnd (exV v6 0) fun v8 =>
 bnd (exV v6 1) fun v9 =>
 bnd (ncV x0) fun v10 =>
 bnd (faV 12 v10) fun v11 =>
 bnd (stV 1 v11 v8 h7) fun h12 =>
 bnd (ncV x0) fun v13 =>
 bnd (faV 7 v13) fun v14 =>
 bnd (stV 1 v14 (.int .i64 13) h12) fun h15 =>
 K (.tuple #[(.bool false), v9]) h15
def S198 (a0 a1 : Value) (h : GH) (K : Value → GH → Prop) : Prop :=
 bnd (ncV a0) fun v1 =>
 bnd (faV 7 v1) fun v2 =>
 bnd (ldV 1 false v2 h) fun v3 =>
 bnd (eqI v3 (.int .i64 10)) fun b4 =>
 ifV (.bool b4) (
 T Tryz.prog 201 [a0, a1] h fun v5 h6 =>
 bnd (exV v5 0) fun v7 =>
 bnd (exV v5 1) fun v8 =>
 K (.tuple #[v7, v8]) h6) (
 bnd (eqI v3 (.int .i64 11)) fun b9 =>
 ifV (.bool b9) (
 bnd (ncV a0) fun v10 =>
 bnd (faV 7 v10) fun v11 =>
 bnd (stV 1 v11 (.int .i64 12) h) fun h12 =>
 bnd (ncV a0) fun v13 =>
 bnd (faV 0 v13) fun v14 =>
 bnd (ncV a0) fun v15 =>
 bnd (faV 8 v15) fun v16 =>
 bnd (ldV 1 false v16 h12) fun v17 =>
 T Tryz.prog 188 [v14, a1, v17] h12 fun v18 h19 =>
 K (.tuple #[(.bool false), v18]) h19) (
 bnd (eqI v3 (.int .i64 12)) fun b20 =>
 ifV (.bool b20) (
 bnd (ncV a0) fun v21 =>
 bnd (faV 0 v21) fun v22 =>
 bnd (faV 5 v22) fun v23 =>
 bnd (ldV 1 false v23 h) fun v24 =>
 ifV v24 (
 S198_j1 a0 a1 (.int .i64 2) h K ) (
 S198_j1 a0 a1 (.int .i64 1) h K )) (
 bnd (ncV a0) fun v25 =>
 bnd (faV 0 v25) fun v26 =>
 bnd (faV 2 v26) fun v27 =>
 bnd (ldV 1 false v27 h) fun v28 =>
 bnd (ncV a0) fun v29 =>
 bnd (faV 0 v29) fun v30 =>
 bnd (faV 0 v30) fun v31 =>
 bnd (ldV 2 true v31 h) fun v32 =>
 bnd (ncV a0) fun v33 =>
 bnd (faV 12 v33) fun v34 =>
 bnd (ldV 1 false v34 h) fun v35 =>
 T Tryz.prog 49 [(.iface 97 v32)] h fun v36 h37 =>
 ldV 1 false v34 h37 = some v35 ∧
 ldV 1 false v27 h37 = some v28 ∧
 T Tryz.prog 117 [v35] h37 fun v38 h39 =>
 ldV 1 false v27 h39 = some v28 ∧
 T Tryz.prog 193 [a1, v28, v36, v38] h39 fun v40 h41 =>
 T Tryz.prog 196 [a0, (.int .i64 11), (.int .i64 0)] h41 fun v42 h43 =>
 K (.tuple #[v42, (.bool true)]) h43)))
def A198 : Ann := ⟨fun | 6 => ([0, 1, 2, 3, 4, 5, 6, 7, 8, 9, 10], [0, 1, 3, 0, 0, 16, 48, 112, 255, 511, 1023]) | 11 => ([0, 1, 2, 3, 4, 5, 6, 7, 8, 9, 10, 11, 12, 13, 14, 15, 16, 17], [0, 0, 2, 6, 0, 0, 32, 96, 224, 0, 1022, 2046, 4094, 4094, 8191, 24575, 57343, 131071]) | 14 => ([0, 1, 2, 3, 4, 5, 6, 7, 8, 9, 10, 11, 13, 14, 15, 16, 12, 17, 18], [0, 0, 2, 6, 14, 30, 0, 64, 192, 448, 960, 1984, 4032, 0, 8192, 24576, 57344, 131008, 262143]) | _ => ([], []), fun _ => []⟩
theorem S198_T {a0 a1 : Value} {h : GH} {K : Value → GH → Prop} (g : S198 a0 a1 h K) : T Tryz.prog 198 [a0, a1] h K :=
  T_of_gwp (A := A198) Tryz.func198 (c := bodyOf Tryz.f198) (by kernel_rfl) (by kernel_rfl) (by kernel_rfl) (by kernel_rfl) (by kernel_rfl) (Eq.mp (by kernel_rfl) g)

/-! ### (*pawl/mcas.whole).swapIn (199) -/
def S199_j1 (x0 x8 : Value) (h : GH) (K : Value → GH → Prop)  : Prop :=
 bnd (eqK .iface true x8 .nilIface) fun b1 =>
 ifV (.bool b1) (
 K (.tuple #[.nilIface, (.bool false)]) h) (
 bnd (taV 218 (.int .i64 0) true x8) fun v2 =>
 bnd (exV v2 1) fun v3 =>
 bnd (exV v2 0) fun v4 =>
 ifV v3 (
 bnd (ncV x0) fun v5 =>
 bnd (faV 7 v5) fun v6 =>
 bnd (stV 1 v6 (.int .i64 9) h) fun h7 =>
 K (.tuple #[.nilIface, (.bool true)]) h7) (
 bnd (taV 208 (.agg #[(.int .i64 0), (.int .i64 0), (.int .i64 0), (.int .i64 0), (.int .i64 0)]) true x8) fun v8 =>
 bnd (exV v8 1) fun v9 =>
 bnd (exV v8 0) fun v10 =>
 ifV v9 (
 bnd (ncV x0) fun v11 =>
 bnd (faV 6 v11) fun v12 =>
 bnd (ldV 1 false v12 h) fun v13 =>
 T Tryz.prog 85 [x8, v13] h fun v14 h15 =>
 K (.tuple #[v14, (.bool true)]) h15) (
 bnd (taV 97 (.agg #[(.int .i64 0), (.int .i64 0)]) true x8) fun v16 =>
 bnd (exV v16 1) fun v17 =>
 bnd (exV v16 0) fun v18 =>
 ifV v17 (
 bnd (ncV x0) fun v19 =>
 bnd (faV 6 v19) fun v20 =>
 bnd (ldV 1 false v20 h) fun v21 =>
 T Tryz.prog 85 [x8, v21] h fun v22 h23 =>
 bnd (ncV x0) fun v24 =>
 bnd (faV 11 v24) fun v25 =>
 bnd (stV 1 v25 v22 h23) fun h26 =>
 bnd (ncV x0) fun v27 =>
 bnd (faV 7 v27) fun v28 =>
 bnd (stV 1 v28 (.int .i64 14) h26) fun h29 =>
 K (.tuple #[.nilIface, (.bool true)]) h29) (
 K (.tuple #[.nilIface, (.bool true)]) h))))
def S199 (a0 a1 : Value) (h : GH) (K : Value → GH → Prop) : Prop :=
 bnd (ncV a0) fun v1 =>
 bnd (faV 0 v1) fun v2 =>
 bnd (faV 0 v2) fun v3 =>
 bnd (ldV 2 true v3 h) fun v4 =>
 bnd (ncV a0) fun v5 =>
 bnd (faV 8 v5) fun v6 =>
 bnd (ldV 1 false v6 h) fun v7 =>
 bnd (ncV a0) fun v8 =>
 bnd (faV 6 v8) fun v9 =>
 bnd (ldV 1 false v9 h) fun v10 =>
 bnd (ncV v10) fun v11 =>
 bnd (faV 0 v11) fun v12 =>
 bnd (ldV 1 false v12 h) fun v13 =>
 bnd (ncV a0) fun v14 =>
 bnd (faV 6 v14) fun v15 =>
 bnd (ldV 1 false v15 h) fun v16 =>
 T Tryz.prog 183 [v16] h fun v17 h18 =>
 ldV 1 false v12 h18 = some v13 ∧
 ldV 1 false v9 h18 = some v10 ∧
 ldV 1 false v6 h18 = some v7 ∧
 ldV 2 true v3 h18 = some v4 ∧
 bnd (fillV [(.int .i64 0), (.int .i64 0), (.int .i64 0), (.int .i64 0), (.int .i64 0)] [(0, 2, v4), (2, 1, v7), (3, 1, v13), (4, 1, v17)]) fun c19 =>
 T Tryz.prog 49 [(.iface 208 (.agg c19.toArray))] h18 fun v20 h21 =>
 bnd (ncV a0) fun v22 =>
 bnd (faV 10 v22) fun v23 =>
 bnd (stV 1 v23 v20 h21) fun h24 =>
 bnd (ncV a0) fun v25 =>
 bnd (faV 0 v25) fun v26 =>
 bnd (faV 2 v26) fun v27 =>
 bnd (ldV 1 false v27 h24) fun v28 =>
 bnd (ncV a0) fun v29 =>
 bnd (faV 0 v29) fun v30 =>
 bnd (faV 3 v30) fun v31 =>
 bnd (ldV 1 false v31 h24) fun v32 =>
 bnd (ncV a0) fun v33 =>
 bnd (faV 10 v33) fun v34 =>
 bnd (ldV 1 false v34 h24) fun v35 =>
 T Tryz.prog 193 [a1, v28, v32, v35] h24 fun v36 h37 =>
 bnd (exV v36 0) fun v38 =>
 bnd (exV v36 1) fun v39 =>
 bnd (ncV a0) fun v40 =>
 bnd (faV 0 v40) fun v41 =>
 bnd (faV 3 v41) fun v42 =>
 bnd (ldV 1 false v42 h37) fun v43 =>
 bnd (eqI v38 v43) fun b44 =>
 ifV (.bool b44) (
 bnd (ncV a0) fun v45 =>
 bnd (faV 7 v45) fun v46 =>
 bnd (stV 1 v46 (.int .i64 6) h37) fun h47 =>
 K (.tuple #[.nilIface, (.bool true)]) h47) (
 T Tryz.prog 86 [v38] h37 fun v48 h49 =>
 bnd (taV 97 (.agg #[(.int .i64 0), (.int .i64 0)]) true v48) fun v50 =>
 bnd (exV v50 0) fun v51 =>
 bnd (exV v50 1) fun v52 =>
 newV 97 [(.int .i64 0), (.int .i64 0)] h49 fun v53 h54 =>
 bnd (stV 2 v53 v51 h54) fun h55 =>
 ifV v52 (
 bnd (ldV 2 true v53 h55) fun v56 =>
 bnd (ncV a0) fun v57 =>
 bnd (faV 0 v57) fun v58 =>
 bnd (faV 0 v58) fun v59 =>
 bnd (ldV 2 true v59 h55) fun v60 =>
 bnd (eqP Tryz.prog 10000 97 v56 v60) fun b61 =>
 ifV (.bool b61) (
 T Tryz.prog 196 [a0, (.int .i64 3), (.int .i64 8)] h55 fun v62 h63 =>
 K (.tuple #[.nilIface, (.bool true)]) h63) (
 S199_j1 a0 v48 h55 K )) (
 S199_j1 a0 v48 h55 K ))
def A199 : Ann := ⟨fun | 1 => ([0, 1, 2, 3, 4, 5, 6, 7, 8, 9, 10, 11, 12, 13, 14, 15, 16, 17, 18, 19, 20, 21, 22, 23, 24, 25, 26, 27], [0, 0, 2, 6, 14, 30, 0, 64, 192, 448, 0, 1024, 3072, 7168, 15360, 31744, 64512, 0, 131072, 393216, 917504, 1966080, 4194302, 8388606, 16777214, 33554431, 67108863, 134217727]) | 2 => ([0, 1, 2, 3, 4, 5, 6, 7, 8, 9, 10, 11, 12, 13, 14, 15, 16, 17, 18, 19, 20], [0, 0, 2, 6, 14, 30, 0, 64, 192, 448, 960, 0, 2048, 6144, 14336, 32767, 65535, 131071, 131071, 262143, 1048575]) | 8 => ([0, 1, 2, 3, 4, 5, 6, 7, 8, 9], [0, 1, 3, 3, 11, 27, 59, 123, 255, 511]) | _ => ([], []), fun _ => []⟩
theorem S199_T {a0 a1 : Value} {h : GH} {K : Value → GH → Prop} (g : S199 a0 a1 h K) : T Tryz.prog 199 [a0, a1] h K :=
  T_of_gwp (A := A199) Tryz.func199 (c := bodyOf Tryz.f199) (by kernel_rfl) (by kernel_rfl) (by kernel_rfl) (by kernel_rfl) (by kernel_rfl) (Eq.mp (by kernel_rfl) g)

/-! ### (*pawl/mcas.whole).ask (200) -/
def S200 (a0 a1 : Value) (h : GH) (K : Value → GH → Prop) : Prop :=
 bnd (ncV a0) fun v1 =>
 bnd (faV 0 v1) fun v2 =>
 T Tryz.prog 190 [v2, a1] h fun v3 h4 =>
 bnd (ncV a0) fun v5 =>
 bnd (faV 7 v5) fun v6 =>
 bnd (ldV 1 false v6 h4) fun v7 =>
 bnd (eqI v7 (.int .i64 14)) fun b8 =>
 bnd (ncV a0) fun v9 =>
 bnd (faV 0 v9) fun v10 =>
 bnd (faV 4 v10) fun v11 =>
 bnd (ldV 1 false v11 h4) fun v12 =>
 bnd (unV .not v12) fun v13 =>
 ifV v13 (
 bnd (ncV a0) fun v14 =>
 bnd (faV 7 v14) fun v15 =>
 bnd (stV 1 v15 (.int .i64 10) h4) fun h16 =>
 K (.tuple #[.nilIface, (.bool false), v3]) h16) (
 ifV (.bool b8) (
 bnd (ncV a0) fun v17 =>
 bnd (faV 7 v17) fun v18 =>
 bnd (stV 1 v18 (.int .i64 5) h4) fun h19 =>
 bnd (ncV a0) fun v20 =>
 bnd (faV 11 v20) fun v21 =>
 bnd (ldV 1 false v21 h19) fun v22 =>
 K (.tuple #[v22, (.bool false), v3]) h19) (
 bnd (ncV a0) fun v23 =>
 bnd (faV 7 v23) fun v24 =>
 bnd (stV 1 v24 (.int .i64 2) h4) fun h25 =>
 K (.tuple #[.nilIface, (.bool false), v3]) h25))
def A200 : Ann := ⟨fun _ => ([], []), fun _ => []⟩
theorem S200_T {a0 a1 : Value} {h : GH} {K : Value → GH → Prop} (g : S200 a0 a1 h K) : T Tryz.prog 200 [a0, a1] h K :=
  T_of_gwp (A := A200) Tryz.func200 (c := bodyOf Tryz.f200) (by kernel_rfl) (by kernel_rfl) (by kernel_rfl) (by kernel_rfl) (by kernel_rfl) (Eq.mp (by kernel_rfl) g)

/-! ### (*pawl/mcas.whole).counted (201) -/
def S201 (a0 a1 : Value) (h : GH) (K : Value → GH → Prop) : Prop :=
 bnd (ncV a0) fun v1 =>
 bnd (faV 0 v1) fun v2 =>
 T Tryz.prog 194 [v2, a1, (.int .i64 1), (.int .i64 16)] h fun v3 h4 =>
 bnd (exV v3 0) fun v5 =>
 bnd (exV v3 1) fun v6 =>
 bnd (ncV a0) fun v7 =>
 bnd (faV 9 v7) fun v8 =>
 bnd (stV 1 v8 v5 h4) fun h9 =>
 bnd (ncV a0) fun v10 =>
 bnd (faV 8 v10) fun v11 =>
 bnd (stV 1 v11 (.int .i64 0) h9) fun h12 =>
 bnd (ncV a0) fun v13 =>
 bnd (faV 7 v13) fun v14 =>
 bnd (ldV 1 false v14 h12) fun v15 =>
 bnd (binV .add v15 (.int .i64 1)) fun v16 =>
 bnd (ncV a0) fun v17 =>
 bnd (faV 7 v17) fun v18 =>
 bnd (stV 1 v18 v16 h12) fun h19 =>
 bnd (eqI v5 (.int .i64 0)) fun b20 =>
 K (.tuple #[(.bool b20), v6]) h19
def A201 : Ann := ⟨fun _ => ([], []), fun _ => []⟩
theorem S201_T {a0 a1 : Value} {h : GH} {K : Value → GH → Prop} (g : S201 a0 a1 h K) : T Tryz.prog 201 [a0, a1] h K :=
  T_of_gwp (A := A201) Tryz.func201 (c := bodyOf Tryz.f201) (by kernel_rfl) (by kernel_rfl) (by kernel_rfl) (by kernel_rfl) (by kernel_rfl) (Eq.mp (by kernel_rfl) g)

/-! ### (*pawl/mcas.whole).decide (202) -/
def S202 (a0 a1 a2 : Value) (h : GH) (K : Value → GH → Prop) : Prop :=
 bnd (ncV a0) fun v1 =>
 bnd (faV 0 v1) fun v2 =>
 bnd (faV 0 v2) fun v3 =>
 bnd (faV 0 v3) fun v4 =>
 bnd (ldV 1 false v4 h) fun v5 =>
 bnd (ncV a0) fun v6 =>
 bnd (faV 0 v6) fun v7 =>
 bnd (faV 0 v7) fun v8 =>
 bnd (faV 1 v8) fun v9 =>
 bnd (ldV 1 false v9 h) fun v10 =>
 bnd (ncV a0) fun v11 =>
 bnd (faV 0 v11) fun v12 =>
 bnd (faV 0 v12) fun v13 =>
 bnd (faV 1 v13) fun v14 =>
 bnd (ldV 1 false v14 h) fun v15 =>
 T Tryz.prog 115 [v5] h fun v16 h17 =>
 ldV 1 false v14 h17 = some v15 ∧
 ldV 1 false v9 h17 = some v10 ∧
 T Tryz.prog 116 [v10, (.int .i64 0)] h17 fun v18 h19 =>
 ldV 1 false v14 h19 = some v15 ∧
 T Tryz.prog 116 [v15, a2] h19 fun v20 h21 =>
 T Tryz.prog 193 [a1, v16, v18, v20] h21 fun v22 h23 =>
 bnd (ncV a0) fun v24 =>
 bnd (faV 7 v24) fun v25 =>
 bnd (stV 1 v25 (.int .i64 1) h23) fun h26 =>
 K (.tuple #[]) h26
def A202 : Ann := ⟨fun | 0 => ([0, 1, 2, 3, 4, 5, 6, 8, 9, 10, 11, 12, 13, 15, 16, 17, 18, 19, 20, 21, 7, 14, 22, 23], [0, 0, 2, 6, 14, 30, 62, 126, 0, 256, 768, 1792, 3840, 7936, 16382, 0, 32768, 98304, 229376, 491520, 1015808, 0, 4194302, 8388607]) | _ => ([], []), fun _ => []⟩
theorem S202_T {a0 a1 a2 : Value} {h : GH} {K : Value → GH → Prop} (g : S202 a0 a1 a2 h K) : T Tryz.prog 202 [a0, a1, a2] h K :=
  T_of_gwp (A := A202) Tryz.func202 (c := bodyOf Tryz.f202) (by kernel_rfl) (by kernel_rfl) (by kernel_rfl) (by kernel_rfl) (by kernel_rfl) (Eq.mp (by kernel_rfl) g)

/-! ### (pawl/word.Value).plain (203) -/
def S203 (a0 : Value) (h : GH) (K : Value → GH → Prop) : Prop :=
 newV 132 [(.int .i64 0), (.int .i64 0), (.int .i64 0), (.int .i64 0), (.int .i64 0), (.int .i64 0), (.int .i64 0)] h fun v1 h2 =>
 bnd (fillV [(.int .i64 0), (.int .i64 0), (.int .i64 0), (.int .i64 0), (.int .i64 0), (.int .i64 0), (.int .i64 0)] [(1, 1, a0)]) fun c3 =>
 bnd (stV 7 v1 (.agg c3.toArray) h2) fun h4 =>
 bnd (ldV 7 true v1 h4) fun v5 =>
 K v5 h4
def A203 : Ann := ⟨fun _ => ([], []), fun _ => []⟩
theorem S203_T {a0 : Value} {h : GH} {K : Value → GH → Prop} (g : S203 a0 h K) : T Tryz.prog 203 [a0] h K :=
  T_of_gwp (A := A203) Tryz.func203 (c := bodyOf Tryz.f203) (by kernel_rfl) (by kernel_rfl) (by kernel_rfl) (by kernel_rfl) (by kernel_rfl) (Eq.mp (by kernel_rfl) g)
end Go.Proofs.YtnhiagemjonglaaGreat
