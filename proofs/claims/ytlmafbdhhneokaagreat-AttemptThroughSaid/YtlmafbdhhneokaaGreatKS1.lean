/- The functions of the program that this seat reaches, each in a shallow form over ghost heaps, with the kernel's word that it is what its loaded code computes. Nothing here is a statement on the program. Written by a program of this session. -/
import Derived.Test.YtlmafbdhhneokaaGreatKG
import Derived.Test.YtlmafbdhhneokaaGreatProg
import Derived.KernelRfl
namespace Go.Proofs.YtlmafbdhhneokaaGreat
open Go GW Go.Proofs
set_option linter.unusedVariables false
set_option maxRecDepth 100000

/-! ### pawl/pawllaw17.AttemptTwo (3) -/
def S3_j1 (s4 : Nat → Value) (x0 x1 x2 x3 x9 x10 x11 x12 : Value) (h : GH) (K : Value → GH → Prop) (again6 : (Nat → Value) → GH → Prop) : Prop :=
 bsV 3 1 [(.int .i64 0)] [(0, 1, x12)] h fun v1 h2 =>
 apV 3 1 8 x10 v1 h2 fun v3 h4 =>
 bnd (binV .mul (.int .i64 4) x12) fun v5 =>
 bsV 3 1 [(.int .i64 0)] [(0, 1, v5)] h4 fun v6 h7 =>
 apV 3 1 8 x9 v6 h7 fun v8 h9 =>
 bnd (binV .add x11 (.int .i64 1)) fun v10 =>
 again6 (tup [x0, x1, x2, x3, v8, v3, v10]) h9

def S3_j4 (s4 : Nat → Value) (s1 : Nat → Value) (x1 x2 x3 x10 x13 x15 x17 x19 x21 : Value) (h : GH) (K : Value → GH → Prop) (again6 : (Nat → Value) → GH → Prop) (again3 : (Nat → Value) → GH → Prop) : Prop :=
 T Tryz.prog 9 [x21, x13] h fun v1 h2 =>
 bnd (exV v1 0) fun v3 =>
 bnd (exV v1 1) fun v4 =>
 T Tryz.prog 8 [v4] h2 fun v5 h6 =>
 bnd (eqI v5 (.int .i64 0)) fun b7 =>
 ifV (.bool (!b7)) (
 K (.bool false) h6) (
 bnd (binV .add x19 (.int .i64 1)) fun v8 =>
 again3 (tup [x1, x2, x3, x10, x13, x15, x17, v8]) h6)

def S3_j3 (s4 : Nat → Value) (s1 : Nat → Value) (x1 x2 x3 x10 x13 x15 x17 x19 x20 : Value) (h : GH) (K : Value → GH → Prop) (again6 : (Nat → Value) → GH → Prop) (again3 : (Nat → Value) → GH → Prop) : Prop :=
 bnd (eqI x20 (.int .i64 1)) fun b1 =>
 ifV (.bool b1) (
 S3_j4 s4 s1 x1 x2 x3 x10 x13 x15 x17 x19 x17 h K again6 again3) (
 S3_j4 s4 s1 x1 x2 x3 x10 x13 x15 x17 x19 x15 h K again6 again3)

def S3_j5 (s4 : Nat → Value) (s1 : Nat → Value) (x1 x2 x10 x15 x17 x24 : Value) (h : GH) (K : Value → GH → Prop) (again6 : (Nat → Value) → GH → Prop) (again3 : (Nat → Value) → GH → Prop) : Prop :=
 T Tryz.prog 11 [x15] h fun v1 h2 =>
 T Tryz.prog 13 [x15] h2 fun v3 h4 =>
 T Tryz.prog 11 [x17] h4 fun v5 h6 =>
 T Tryz.prog 13 [x17] h6 fun v7 h8 =>
 T Tryz.prog 12 [x10, x24, v1, x1, v3, v5, x2, v7] h8 fun v9 h10 =>
 T Tryz.prog 11 [x17] h10 fun v11 h12 =>
 T Tryz.prog 13 [x17] h12 fun v13 h14 =>
 T Tryz.prog 11 [x15] h14 fun v15 h16 =>
 T Tryz.prog 13 [x15] h16 fun v17 h18 =>
 T Tryz.prog 12 [x10, x24, v11, x2, v13, v15, x1, v17] h18 fun v19 h20 =>
 ifV v9 (
 K (.bool true) h20) (
 K v19 h20)

def S3_j2 (s4 : Nat → Value) (x1 x2 x3 x10 x13 x15 x17 : Value) (h : GH) (K : Value → GH → Prop) (again6 : (Nat → Value) → GH → Prop) : Prop :=
 Lfp (fun (s1 : Nat → Value) h2 again3 =>
 bnd (lnV (s1 2)) fun v4 =>
 bnd (binV .add v4 (.int .i64 800)) fun v5 =>
 bnd (binV .lss (s1 7) v5) fun v6 =>
 ifV v6 (
 bnd (binV .and (s1 7) (.int .i64 1)) fun v7 =>
 bnd (lnV (s1 2)) fun v8 =>
 bnd (binV .lss (s1 7) v8) fun v9 =>
 ifV v9 (
 bnd (isV 1 (s1 2) (s1 7)) fun v10 =>
 bnd (ldV 1 false v10 h2) fun v11 =>
 bnd (binV .and v11 (.int .i64 1)) fun v12 =>
 S3_j3 s4 s1 (s1 0) (s1 1) (s1 2) (s1 3) (s1 4) (s1 5) (s1 6) (s1 7) v12 h2 K again6 again3) (
 S3_j3 s4 s1 (s1 0) (s1 1) (s1 2) (s1 3) (s1 4) (s1 5) (s1 6) (s1 7) v7 h2 K again6 again3)) (
 T Tryz.prog 10 [(s1 4)] h2 fun v13 h14 =>
 bnd (lnV v13) fun v15 =>
 bnd (eqI v15 (.int .i64 634)) fun b16 =>
 ifV (.bool (!b16)) (
 K (.bool false) h14) (
 T Tryz.prog 11 [(s1 5)] h14 fun v17 h18 =>
 bnd (unV .not v17) fun v19 =>
 ifV v19 (
 T Tryz.prog 11 [(s1 6)] h18 fun v20 h21 =>
 bnd (unV .not v20) fun v22 =>
 ifV v22 (
 K (.bool false) h21) (
 S3_j5 s4 s1 (s1 0) (s1 1) (s1 3) (s1 5) (s1 6) v13 h21 K again6 again3)) (
 S3_j5 s4 s1 (s1 0) (s1 1) (s1 3) (s1 5) (s1 6) v13 h18 K again6 again3)))) (tup [x1, x2, x3, x10, x13, x15, x17, (.int .i64 0)]) h
def S3 (a0 a1 a2 a3 : Value) (h : GH) (K : Value → GH → Prop) : Prop :=
 T Tryz.prog 5 [] h fun v1 h2 =>
 bnd (unV .not v1) fun v3 =>
 ifV v3 (
 K (.bool false) h2) (
 Lfp (fun (s4 : Nat → Value) h5 again6 =>
 bnd (binV .lss (s4 6) (.int .i64 16)) fun v7 =>
 ifV v7 (
 bnd (lnV (s4 0)) fun v8 =>
 bnd (binV .lss (s4 6) v8) fun v9 =>
 ifV v9 (
 bnd (binV .lss (s4 6) (.int .i64 4)) fun v10 =>
 ifV v10 (
 bnd (isV 1 (s4 0) (s4 6)) fun v11 =>
 bnd (ldV 1 false v11 h5) fun v12 =>
 bnd (binV .and v12 (.int .i64 31)) fun v13 =>
 S3_j1 s4 (s4 0) (s4 1) (s4 2) (s4 3) (s4 4) (s4 5) (s4 6) v13 h5 K again6) (
 S3_j1 s4 (s4 0) (s4 1) (s4 2) (s4 3) (s4 4) (s4 5) (s4 6) (.int .i64 0) h5 K again6)) (
 S3_j1 s4 (s4 0) (s4 1) (s4 2) (s4 3) (s4 4) (s4 5) (s4 6) (.int .i64 0) h5 K again6)) (
 T Tryz.prog 6 [(s4 4), (.slice none 0 0)] h5 fun v14 h15 =>
 bnd (exV v14 0) fun v16 =>
 bnd (exV v14 1) fun v17 =>
 T Tryz.prog 7 [(.int .i64 0), (.int .i64 0), (.int .i64 5), (.int .i64 1), (s4 1)] h15 fun v18 h19 =>
 bnd (exV v18 0) fun v20 =>
 bnd (exV v18 1) fun v21 =>
 T Tryz.prog 7 [(.int .i64 1), (.int .i64 0), (.int .i64 6), (.int .i64 1), (s4 2)] h19 fun v22 h23 =>
 bnd (exV v22 0) fun v24 =>
 bnd (exV v22 1) fun v25 =>
 bnd (eqK .ptr true v16 (.pointer none)) fun b26 =>
 ifV (.bool b26) (
 bnd (eqK .ptr true v16 (.pointer none)) fun b27 =>
 K (.bool (!b27)) h23) (
 T Tryz.prog 8 [v21] h23 fun v28 h29 =>
 bnd (eqI v28 (.int .i64 0)) fun b30 =>
 ifV (.bool (!b30)) (
 bnd (eqK .ptr true v16 (.pointer none)) fun b31 =>
 K (.bool (!b31)) h29) (
 T Tryz.prog 8 [v25] h29 fun v32 h33 =>
 bnd (eqI v32 (.int .i64 0)) fun b34 =>
 ifV (.bool (!b34)) (
 bnd (eqK .ptr true v16 (.pointer none)) fun b35 =>
 K (.bool (!b35)) h33) (
 bnd (eqK .ptr true v20 (.pointer none)) fun b36 =>
 ifV (.bool b36) (
 bnd (eqK .ptr true v16 (.pointer none)) fun b37 =>
 K (.bool (!b37)) h33) (
 bnd (eqK .ptr true v24 (.pointer none)) fun b38 =>
 ifV (.bool b38) (
 bnd (eqK .ptr true v16 (.pointer none)) fun b39 =>
 K (.bool (!b39)) h33) (
 S3_j2 s4 (s4 1) (s4 2) (s4 3) (s4 5) v16 v20 v24 h33 K again6))))))) (tup [a0, a1, a2, a3, (.slice none 0 0), (.slice none 0 0), (.int .i64 0)]) h2)
def A3 : Ann := ⟨fun _ => ([], []), fun | 0 => [0, 1, 2, 3, 9, 10, 11] | 2 => [1, 2, 3, 10, 13, 15, 17, 19] | _ => []⟩
theorem S3_T {a0 a1 a2 a3 : Value} {h : GH} {K : Value → GH → Prop} (g : S3 a0 a1 a2 a3 h K) : T Tryz.prog 3 [a0, a1, a2, a3] h K :=
  T_of_gwp (A := A3) Tryz.func3 (c := bodyOf Tryz.f3) (by kernel_rfl) (by kernel_rfl) (by kernel_rfl) (by kernel_rfl) (by kernel_rfl) (Eq.mp (by kernel_rfl) g)

/-! ### pawl/pawllaw17.AttemptThrough (4) -/
def S4_j5 (s1 : Nat → Value) (x7 x9 x10 x11 x13 x14 x15 : Value) (h : GH) (K : Value → GH → Prop) (again3 : (Nat → Value) → GH → Prop) : Prop :=
 ifV x15 (
 ifV x13 (
 T Tryz.prog 11 [x11] h fun v1 h2 =>
 K v1 h2) (
 K (.bool false) h)) (
 bnd (binV .add x14 (.int .i64 1)) fun v3 =>
 again3 (tup [x7, x9, x10, x11, x13, v3]) h)

def S4_j4 (s1 : Nat → Value) (x7 x9 x10 x11 x13 x14 x15 x17 x18 x19 : Value) (h : GH) (K : Value → GH → Prop) (again3 : (Nat → Value) → GH → Prop) : Prop :=
 ifV x13 (
 bnd (eqI x17 x9) fun b1 =>
 ifV (.bool (!b1)) (
 K (.bool false) h) (
 bnd (eqI x18 x10) fun b2 =>
 ifV (.bool (!b2)) (
 K (.bool false) h) (
 bnd (unV .not x13) fun v3 =>
 ifV v3 (
 bnd (eqI x17 (.int .i64 (-1))) fun b4 =>
 ifV (.bool (!b4)) (
 K (.bool false) h) (
 bnd (eqI x18 (.int .i64 0)) fun b5 =>
 ifV (.bool (!b5)) (
 K (.bool false) h) (
 bnd (faV 1 x19) fun v6 =>
 bnd (ldV 1 false v6 h) fun v7 =>
 bnd (eqI v7 (.int .i64 0)) fun b8 =>
 ifV (.bool (!b8)) (
 K (.bool false) h) (
 bnd (faV 2 x19) fun v9 =>
 bnd (ldV 1 false v9 h) fun v10 =>
 bnd (binV .geq v10 (.int .i64 16)) fun v11 =>
 ifV v11 (
 K (.bool false) h) (
 S4_j5 s1 x7 x9 x10 x11 x13 x14 x15 h K again3))))) (
 S4_j5 s1 x7 x9 x10 x11 x13 x14 x15 h K again3)))) (
 bnd (unV .not x13) fun v12 =>
 ifV v12 (
 bnd (eqI x17 (.int .i64 (-1))) fun b13 =>
 ifV (.bool (!b13)) (
 K (.bool false) h) (
 bnd (eqI x18 (.int .i64 0)) fun b14 =>
 ifV (.bool (!b14)) (
 K (.bool false) h) (
 bnd (faV 1 x19) fun v15 =>
 bnd (ldV 1 false v15 h) fun v16 =>
 bnd (eqI v16 (.int .i64 0)) fun b17 =>
 ifV (.bool (!b17)) (
 K (.bool false) h) (
 bnd (faV 2 x19) fun v18 =>
 bnd (ldV 1 false v18 h) fun v19 =>
 bnd (binV .geq v19 (.int .i64 16)) fun v20 =>
 ifV v20 (
 K (.bool false) h) (
 S4_j5 s1 x7 x9 x10 x11 x13 x14 x15 h K again3))))) (
 S4_j5 s1 x7 x9 x10 x11 x13 x14 x15 h K again3))

def S4_j3 (s1 : Nat → Value) (x7 x9 x10 x11 x13 x14 x15 x17 x18 x19 : Value) (h : GH) (K : Value → GH → Prop) (again3 : (Nat → Value) → GH → Prop) : Prop :=
 bnd (faV 1 x19) fun v1 =>
 bnd (ldV 1 false v1 h) fun v2 =>
 bnd (eqI v2 (.int .i64 1)) fun b3 =>
 ifV (.bool b3) (
 S4_j4 s1 x7 x9 x10 x11 (.bool true) x14 x15 x17 x18 x19 h K again3) (
 S4_j4 s1 x7 x9 x10 x11 x13 x14 x15 x17 x18 x19 h K again3)

def S4_j2 (x7 x9 x10 x11 : Value) (h : GH) (K : Value → GH → Prop)  : Prop :=
 Lfp (fun (s1 : Nat → Value) h2 again3 =>
 bnd (binV .lss (s1 5) (.int .i64 400)) fun v4 =>
 ifV v4 (
 T Tryz.prog 9 [(s1 3), (s1 0)] h2 fun v5 h6 =>
 bnd (exV v5 0) fun v7 =>
 bnd (exV v5 1) fun v8 =>
 T Tryz.prog 14 [(s1 3)] h6 fun v9 h10 =>
 bnd (exV v9 0) fun v11 =>
 bnd (exV v9 1) fun v12 =>
 T Tryz.prog 15 [(s1 0)] h10 fun v13 h14 =>
 bnd (exV v13 0) fun v15 =>
 bnd (exV v13 1) fun v16 =>
 newV 45 [(.int .i64 0), (.int .i64 0), (.int .i64 0), (.int .i64 0), (.int .i64 0), (.int .i64 0), (.int .i64 0), (.int .i64 0)] h14 fun v17 h18 =>
 bnd (stV 8 v17 v15 h18) fun h19 =>
 T Tryz.prog 8 [v8] h19 fun v20 h21 =>
 bnd (eqI v20 (.int .i64 0)) fun b22 =>
 ifV (.bool (!b22)) (
 K (.bool false) h21) (
 bnd (unV .not v16) fun v23 =>
 ifV v23 (
 K (.bool false) h21) (
 S4_j3 s1 (s1 0) (s1 1) (s1 2) (s1 3) (s1 4) (s1 5) v7 v11 v12 v17 h21 K again3))) (
 K (.bool false) h2)) (tup [x7, x9, x10, x11, (.bool false), (.int .i64 0)]) h

def S4_j1 (x7 x9 x10 x11 x50 : Value) (h : GH) (K : Value → GH → Prop)  : Prop :=
 ifV x50 (
 bnd (eqK .ptr true x7 (.pointer none)) fun b1 =>
 ifV (.bool (!b1)) (
 bnd (eqK .ptr true x11 (.pointer none)) fun b2 =>
 K (.bool b2) h) (
 K (.bool false) h)) (
 S4_j2 x7 x9 x10 x11 h K )
def S4 (a0 a1 a2 : Value) (h : GH) (K : Value → GH → Prop) : Prop :=
 T Tryz.prog 5 [] h fun v1 h2 =>
 bnd (unV .not v1) fun v3 =>
 ifV v3 (
 K (.bool false) h2) (
 T Tryz.prog 6 [(.slice none 0 0), (.slice none 0 0)] h2 fun v4 h5 =>
 bnd (exV v4 0) fun v6 =>
 bnd (exV v4 1) fun v7 =>
 bnd (cvV .u64 a1) fun v8 =>
 bnd (binV .rem v8 (.int .u64 12)) fun v9 =>
 bnd (cvV .i64 v9) fun v10 =>
 bnd (binV .and a2 (.int .i64 65535)) fun v11 =>
 T Tryz.prog 7 [(.int .i64 1), (.int .i64 0), v10, v11, a0] h5 fun v12 h13 =>
 bnd (exV v12 0) fun v14 =>
 bnd (exV v12 1) fun v15 =>
 bnd (eqK .ptr true v6 (.pointer none)) fun b16 =>
 ifV (.bool b16) (
 S4_j1 v6 v10 v11 v14 (.bool true) h13 K ) (
 T Tryz.prog 8 [v15] h13 fun v17 h18 =>
 bnd (eqI v17 (.int .i64 0)) fun b19 =>
 ifV (.bool (!b19)) (
 S4_j1 v6 v10 v11 v14 (.bool true) h18 K ) (
 bnd (eqK .ptr true v14 (.pointer none)) fun b20 =>
 S4_j1 v6 v10 v11 v14 (.bool b20) h18 K )))
def A4 : Ann := ⟨fun _ => ([], []), fun | 0 => [7, 9, 10, 11, 13, 14] | _ => []⟩
theorem S4_T {a0 a1 a2 : Value} {h : GH} {K : Value → GH → Prop} (g : S4 a0 a1 a2 h K) : T Tryz.prog 4 [a0, a1, a2] h K :=
  T_of_gwp (A := A4) Tryz.func4 (c := bodyOf Tryz.f4) (by kernel_rfl) (by kernel_rfl) (by kernel_rfl) (by kernel_rfl) (by kernel_rfl) (Eq.mp (by kernel_rfl) g)

/-! ### pawl/pawllaw17.awake (5) -/
def S5_j2 (s1 : Nat → Value) (x1 x3 x4 x6 x8 x10 x11 : Value) (h : GH) (K : Value → GH → Prop) (again3 : (Nat → Value) → GH → Prop) : Prop :=
 T Tryz.prog 9 [x3, x1] h fun v1 h2 =>
 bnd (exV v1 0) fun v3 =>
 bnd (exV v1 1) fun v4 =>
 bnd (binV .add x10 (.int .i64 1)) fun v5 =>
 T Tryz.prog 8 [v4] h2 fun v6 h7 =>
 bnd (eqI v6 (.int .i64 0)) fun b8 =>
 ifV (.bool (!b8)) (
 K (.bool false) h7) (
 bnd (binV .add x11 (.int .i64 1)) fun v9 =>
 again3 (tup [x1, x3, x4, x6, x8, v3, v5, v9]) h7)

def S5_j3 (s1 : Nat → Value) (x1 x3 x4 x6 x8 x9 x10 : Value) (h : GH) (K : Value → GH → Prop) (again3 : (Nat → Value) → GH → Prop) : Prop :=
 T Tryz.prog 16 [x1, (.int .i64 0)] h fun v1 h2 =>
 bnd (exV v1 0) fun v3 =>
 bnd (exV v1 1) fun v4 =>
 T Tryz.prog 9 [x3, (.pointer none)] h2 fun v5 h6 =>
 bnd (exV v5 0) fun v7 =>
 bnd (exV v5 1) fun v8 =>
 T Tryz.prog 8 [x4] h6 fun v9 h10 =>
 bnd (eqI v9 (.int .i64 0)) fun b11 =>
 ifV (.bool b11) (
 T Tryz.prog 8 [x6] h10 fun v12 h13 =>
 bnd (eqI v12 (.int .i64 1700)) fun b14 =>
 ifV (.bool b14) (
 T Tryz.prog 8 [x8] h13 fun v15 h16 =>
 bnd (eqI v15 (.int .i64 1700)) fun b17 =>
 ifV (.bool b17) (
 ifV x9 (
 bnd (eqI x10 (.int .i64 19)) fun b18 =>
 ifV (.bool b18) (
 T Tryz.prog 11 [x3] h16 fun v19 h20 =>
 ifV v19 (
 T Tryz.prog 13 [x3] h20 fun v21 h22 =>
 bnd (fillV [(.int .i64 0), (.int .i64 0)] [(1, 1, (.int .i64 20))]) fun c23 =>
 bsV 55 1 [(.int .i64 0), (.int .i64 0)] [(0, 2, (.agg c23.toArray))] h22 fun v24 h25 =>
 T Tryz.prog 17 [v21, v24] h25 fun v26 h27 =>
 ifV v26 (
 bnd (eqI v3 (.int .i64 84)) fun b28 =>
 ifV (.bool b28) (
 T Tryz.prog 8 [v4] h27 fun v29 h30 =>
 bnd (eqI v29 (.int .i64 0)) fun b31 =>
 ifV (.bool b31) (
 T Tryz.prog 8 [v8] h30 fun v32 h33 =>
 bnd (eqI v32 (.int .i64 1)) fun b34 =>
 K (.bool b34) h33) (
 K (.bool false) h30)) (
 K (.bool false) h27)) (
 K (.bool false) h27)) (
 K (.bool false) h20)) (
 K (.bool false) h16)) (
 K (.bool false) h16)) (
 K (.bool false) h16)) (
 K (.bool false) h13)) (
 K (.bool false) h10)

def S5_j1 (x1 x3 x4 x6 x8 : Value) (h : GH) (K : Value → GH → Prop)  : Prop :=
 Lfp (fun (s1 : Nat → Value) h2 again3 =>
 bnd (binV .lss (s1 7) (.int .i64 60)) fun v4 =>
 ifV v4 (
 bnd (unV .not (s1 5)) fun v5 =>
 ifV v5 (
 S5_j2 s1 (s1 0) (s1 1) (s1 2) (s1 3) (s1 4) (s1 6) (s1 7) h2 K again3) (
 S5_j3 s1 (s1 0) (s1 1) (s1 2) (s1 3) (s1 4) (s1 5) (s1 6) h2 K again3)) (
 S5_j3 s1 (s1 0) (s1 1) (s1 2) (s1 3) (s1 4) (s1 5) (s1 6) h2 K again3)) (tup [x1, x3, x4, x6, x8, (.bool false), (.int .i64 0), (.int .i64 0)]) h
def S5 (h : GH) (K : Value → GH → Prop) : Prop :=
 bsV 3 1 [(.int .i64 0)] [(0, 1, (.int .i64 124))] h fun v1 h2 =>
 T Tryz.prog 6 [v1, (.slice none 0 0)] h2 fun v3 h4 =>
 bnd (exV v3 0) fun v5 =>
 bnd (exV v3 1) fun v6 =>
 bnd (fillV [(.int .i64 0), (.int .i64 0), (.int .i64 0), (.int .i64 0)] [(0, 1, (.int .i64 3)), (3, 1, (.int .i64 10))]) fun c7 =>
 bsV 50 1 [(.int .i64 0), (.int .i64 0), (.int .i64 0), (.int .i64 0)] [(0, 4, (.agg c7.toArray))] h4 fun v8 h9 =>
 T Tryz.prog 7 [(.int .i64 1), (.int .i64 0), (.int .i64 5), (.int .i64 9), v8] h9 fun v10 h11 =>
 bnd (exV v10 0) fun v12 =>
 bnd (exV v10 1) fun v13 =>
 bnd (fillV [(.int .i64 0), (.int .i64 0), (.int .i64 0), (.int .i64 0)] [(0, 1, (.int .i64 5))]) fun c14 =>
 bsV 50 1 [(.int .i64 0), (.int .i64 0), (.int .i64 0), (.int .i64 0)] [(0, 4, (.agg c14.toArray))] h11 fun v15 h16 =>
 T Tryz.prog 7 [(.int .i64 1), (.int .i64 0), (.int .i64 12), (.int .i64 9), v15] h16 fun v17 h18 =>
 bnd (exV v17 0) fun v19 =>
 bnd (exV v17 1) fun v20 =>
 T Tryz.prog 7 [(.int .i64 1), (.int .i64 0), (.int .i64 5), (.int .i64 9), (.slice none 0 0)] h18 fun v21 h22 =>
 bnd (exV v21 0) fun v23 =>
 bnd (exV v21 1) fun v24 =>
 bnd (eqK .ptr true v5 (.pointer none)) fun b25 =>
 ifV (.bool b25) (
 K (.bool false) h22) (
 bnd (eqK .ptr true v6 (.pointer none)) fun b26 =>
 ifV (.bool b26) (
 K (.bool false) h22) (
 bnd (eqK .ptr true v12 (.pointer none)) fun b27 =>
 ifV (.bool b27) (
 K (.bool false) h22) (
 S5_j1 v5 v12 v13 v20 v24 h22 K )))
def A5 : Ann := ⟨fun _ => ([], []), fun | 0 => [1, 3, 4, 6, 8, 9, 10, 11] | _ => []⟩
theorem S5_T {h : GH} {K : Value → GH → Prop} (g : S5 h K) : T Tryz.prog 5 [] h K :=
  T_of_gwp (A := A5) Tryz.func5 (c := bodyOf Tryz.f5) (by kernel_rfl) (by kernel_rfl) (by kernel_rfl) (by kernel_rfl) (by kernel_rfl) (Eq.mp (by kernel_rfl) g)

/-! ### pawl/pawllaw17.shelf (6) -/
def S6_j1 (s6 : Nat → Value) (x0 x1 x6 x7 x8 : Value) (h : GH) (K : Value → GH → Prop) (again8 : (Nat → Value) → GH → Prop) : Prop :=
 bnd (isV 1 x0 x8) fun v1 =>
 bnd (ldV 1 false v1 h) fun v2 =>
 T Tryz.prog 19 [x6, x8, v2] h fun v3 h4 =>
 bnd (isV 1 x0 x8) fun v5 =>
 bnd (ldV 1 false v5 h4) fun v6 =>
 T Tryz.prog 20 [x7, x8, v6] h4 fun v7 h8 =>
 bnd (binV .add x8 (.int .i64 1)) fun v9 =>
 again8 (tup [x0, x1, x6, x7, v9]) h8

def S6_j3 (s6 : Nat → Value) (s1 : Nat → Value) (x1 x6 x7 x9 : Value) (h : GH) (K : Value → GH → Prop) (again8 : (Nat → Value) → GH → Prop) (again3 : (Nat → Value) → GH → Prop) : Prop :=
 bnd (isV 1 x1 x9) fun v1 =>
 bnd (ldV 1 false v1 h) fun v2 =>
 T Tryz.prog 21 [x9, (.int .i64 1), v2] h fun v3 h4 =>
 bnd (exV v3 0) fun v5 =>
 bnd (exV v3 1) fun v6 =>
 bnd (eqI v6 (.int .i64 0)) fun b7 =>
 ifV (.bool (!b7)) (
 bnd (binV .add x9 (.int .i64 1)) fun v8 =>
 again3 (tup [x1, x6, x7, v8]) h4) (
 Lfp (fun (s9 : Nat → Value) h10 again11 =>
 bnd (unV .not (s9 5)) fun v12 =>
 ifV v12 (
 T Tryz.prog 22 [(s9 4), (s9 2)] h10 fun v13 h14 =>
 bnd (exV v13 0) fun v15 =>
 bnd (exV v13 1) fun v16 =>
 T Tryz.prog 23 [(s9 2)] h14 fun v17 h18 =>
 bnd (exV v17 0) fun v19 =>
 bnd (exV v17 1) fun v20 =>
 newV 45 [(.int .i64 0), (.int .i64 0), (.int .i64 0), (.int .i64 0), (.int .i64 0), (.int .i64 0), (.int .i64 0), (.int .i64 0)] h18 fun v21 h22 =>
 bnd (stV 8 v21 v19 h22) fun h23 =>
 bnd (faV 2 v21) fun v24 =>
 bnd (ldV 1 false v24 h23) fun v25 =>
 bnd (faV 4 v21) fun v26 =>
 bnd (ldV 1 false v26 h23) fun v27 =>
 T Tryz.prog 19 [(s9 1), v25, v27] h23 fun v28 h29 =>
 again11 (tup [(s9 0), (s9 1), (s9 2), (s9 3), (s9 4), v15]) h29) (
 bnd (binV .add (s9 3) (.int .i64 1)) fun v30 =>
 again3 (tup [(s9 0), (s9 1), (s9 2), v30]) h10)) (tup [x1, x6, x7, x9, v5, (.bool false)]) h4)

def S6_j2 (s6 : Nat → Value) (x1 x6 x7 : Value) (h : GH) (K : Value → GH → Prop) (again8 : (Nat → Value) → GH → Prop) : Prop :=
 Lfp (fun (s1 : Nat → Value) h2 again3 =>
 bnd (lnV (s1 0)) fun v4 =>
 bnd (binV .lss (s1 3) v4) fun v5 =>
 ifV v5 (
 bnd (binV .lss (s1 3) (.int .i64 4)) fun v6 =>
 ifV v6 (
 S6_j3 s6 s1 (s1 0) (s1 1) (s1 2) (s1 3) h2 K again8 again3) (
 K (.tuple #[(s1 1), (s1 2)]) h2)) (
 K (.tuple #[(s1 1), (s1 2)]) h2)) (tup [x1, x6, x7, (.int .i64 0)]) h
def S6 (a0 a1 : Value) (h : GH) (K : Value → GH → Prop) : Prop :=
 T Tryz.prog 18 [(.slice none 0 0), (.slice none 0 0)] h fun v1 h2 =>
 bnd (exV v1 0) fun v3 =>
 bnd (exV v1 1) fun v4 =>
 bnd (eqK .ptr true v3 (.pointer none)) fun b5 =>
 ifV (.bool b5) (
 K (.tuple #[(.pointer none), (.pointer none)]) h2) (
 Lfp (fun (s6 : Nat → Value) h7 again8 =>
 bnd (lnV (s6 0)) fun v9 =>
 bnd (binV .lss (s6 4) v9) fun v10 =>
 ifV v10 (
 bnd (binV .lss (s6 4) (.int .i64 16)) fun v11 =>
 ifV v11 (
 S6_j1 s6 (s6 0) (s6 1) (s6 2) (s6 3) (s6 4) h7 K again8) (
 S6_j2 s6 (s6 1) (s6 2) (s6 3) h7 K again8)) (
 S6_j2 s6 (s6 1) (s6 2) (s6 3) h7 K again8)) (tup [a0, a1, v3, v4, (.int .i64 0)]) h2)
def A6 : Ann := ⟨fun _ => ([], []), fun | 0 => [0, 1, 6, 7, 8] | 2 => [1, 6, 7, 9] | 4 => [1, 6, 7, 9, 10, 12] | _ => []⟩
theorem S6_T {a0 a1 : Value} {h : GH} {K : Value → GH → Prop} (g : S6 a0 a1 h K) : T Tryz.prog 6 [a0, a1] h K :=
  T_of_gwp (A := A6) Tryz.func6 (c := bodyOf Tryz.f6) (by kernel_rfl) (by kernel_rfl) (by kernel_rfl) (by kernel_rfl) (by kernel_rfl) (Eq.mp (by kernel_rfl) g)

/-! ### pawl/attempt.New (7) -/
def S7_j1 (x0 x1 x2 x3 x4 x12 : Value) (h : GH) (K : Value → GH → Prop)  : Prop :=
 bnd (fillV [(.int .i64 0), (.int .i64 0)] [(0, 1, x2), (1, 1, x3)]) fun c1 =>
 bnd (ldV 50 true x12 h) fun v2 =>
 T Tryz.prog 28 [x4] h fun v3 h4 =>
 ldV 50 true x12 h4 = some v2 ∧
 bnd (fillV ([(.int .i64 0), (.int .i64 0), (.int .i64 0), (.int .i64 0), (.slice none 0 0), (.int .i64 0)] ++ List.replicate 16 (.bool false) ++ List.replicate 32 (.int .i64 0) ++ [(.slice none 0 0), .nilIface, (.int .i64 0), (.int .i64 0), (.bool false), (.bool false), (.slice none 0 0)]) [(0, 1, x0), (1, 1, x1), (2, 2, (.agg c1.toArray)), (4, 1, v3), (5, 50, v2), (56, 1, (.int .i64 (-1)))]) fun c5 =>
 newV 82 ((.agg c5.toArray) : Value).cells.toList h4 fun v6 h7 =>
 T Tryz.prog 29 [v6] h7 fun v8 h9 =>
 bnd (ncV v6) fun v10 =>
 bnd (faV 55 v10) fun v11 =>
 bnd (stV 1 v11 v8 h9) fun h12 =>
 K (.tuple #[v6, (.int .i64 0)]) h12
def S7 (a0 a1 a2 a3 a4 : Value) (h : GH) (K : Value → GH → Prop) : Prop :=
 bnd (fillV (List.replicate 16 (.bool false) ++ List.replicate 32 (.int .i64 0)) []) fun c1 =>
 T Tryz.prog 24 [(.agg c1.toArray), a4] h fun v2 h3 =>
 bnd (exV v2 0) fun v4 =>
 bnd (exV v2 1) fun v5 =>
 newV 71 ([(.int .i64 0)] ++ List.replicate 16 (.bool false) ++ List.replicate 32 (.int .i64 0) ++ [(.slice none 0 0)]) h3 fun v6 h7 =>
 bnd (stV 50 v6 v4 h7) fun h8 =>
 T Tryz.prog 25 [a0] h8 fun v9 h10 =>
 bnd (unV .not v9) fun v11 =>
 ifV v11 (
 K (.tuple #[(.pointer none), (.int .i64 1700)]) h10) (
 T Tryz.prog 26 [a1, (.int .i64 1048576)] h10 fun v12 h13 =>
 bnd (unV .not v12) fun v14 =>
 ifV v14 (
 K (.tuple #[(.pointer none), (.int .i64 1700)]) h13) (
 T Tryz.prog 27 [a2, a3] h13 fun v15 h16 =>
 bnd (unV .not v15) fun v17 =>
 ifV v17 (
 K (.tuple #[(.pointer none), (.int .i64 1700)]) h16) (
 bnd (eqI v5 (.int .i64 0)) fun b18 =>
 ifV (.bool (!b18)) (
 K (.tuple #[(.pointer none), (.int .i64 1700)]) h16) (
 S7_j1 a0 a1 a2 a3 a4 v6 h16 K ))))
def A7 : Ann := ⟨fun | 4 => ([0, 1, 2, 3, 4, 5, 7, 6, 8, 9, 10], [0, 0, 0, 0, 12, 0, 32, 0, 255, 511, 1023]) | _ => ([], []), fun _ => []⟩
theorem S7_T {a0 a1 a2 a3 a4 : Value} {h : GH} {K : Value → GH → Prop} (g : S7 a0 a1 a2 a3 a4 h K) : T Tryz.prog 7 [a0, a1, a2, a3, a4] h K :=
  T_of_gwp (A := A7) Tryz.func7 (c := bodyOf Tryz.f7) (by kernel_rfl) (by kernel_rfl) (by kernel_rfl) (by kernel_rfl) (by kernel_rfl) (Eq.mp (by kernel_rfl) g)

/-! ### pawl/pawllaw0.Num (8) -/
def S8 (a0 : Value) (h : GH) (K : Value → GH → Prop) : Prop :=
 K a0 h
def A8 : Ann := ⟨fun _ => ([], []), fun _ => []⟩
theorem S8_T {a0 : Value} {h : GH} {K : Value → GH → Prop} (g : S8 a0 h K) : T Tryz.prog 8 [a0] h K :=
  T_of_gwp (A := A8) Tryz.func8 (c := bodyOf Tryz.f8) (by kernel_rfl) (by kernel_rfl) (by kernel_rfl) (by kernel_rfl) (by kernel_rfl) (Eq.mp (by kernel_rfl) g)

/-! ### (*pawl/attempt.Attempt).Step (9) -/
def S9_j3 (x0 x6 x7 : Value) (h : GH) (K : Value → GH → Prop)  : Prop :=
 bnd (eqI x7 (.int .i64 0)) fun b1 =>
 ifV (.bool (!b1)) (
 bnd (ncV x0) fun v2 =>
 bnd (faV 59 v2) fun v3 =>
 bnd (stV 1 v3 (.bool true) h) fun h4 =>
 K (.tuple #[(.bool true), (.int .i64 1700)]) h4) (
 bnd (unV .not x6) fun v5 =>
 ifV v5 (
 K (.tuple #[(.bool false), (.int .i64 0)]) h) (
 bnd (ncV x0) fun v6 =>
 bnd (faV 55 v6) fun v7 =>
 bnd (ldV 1 false v7 h) fun v8 =>
 bnd (taV 88 (.pointer none) true v8) fun v9 =>
 bnd (exV v9 1) fun v10 =>
 bnd (exV v9 0) fun v11 =>
 ifV v10 (
 T Tryz.prog 30 [x0, v11] h fun v12 h13 =>
 bnd (ncV x0) fun v14 =>
 bnd (faV 59 v14) fun v15 =>
 bnd (ldV 1 false v15 h13) fun v16 =>
 K (.tuple #[v16, (.int .i64 0)]) h13) (
 bnd (taV 90 (.pointer none) true v8) fun v17 =>
 bnd (exV v17 1) fun v18 =>
 bnd (exV v17 0) fun v19 =>
 ifV v18 (
 bnd (ncV x0) fun v20 =>
 bnd (faV 0 v20) fun v21 =>
 bnd (ldV 1 false v21 h) fun v22 =>
 bnd (ncV x0) fun v23 =>
 bnd (faV 1 v23) fun v24 =>
 bnd (ldV 1 false v24 h) fun v25 =>
 bnd (ncV x0) fun v26 =>
 bnd (faV 2 v26) fun v27 =>
 bnd (ldV 2 true v27 h) fun v28 =>
 T Tryz.prog 32 [(.iface 77 v28)] h fun v29 h30 =>
 ldV 1 false v24 h30 = some v25 ∧
 ldV 1 false v21 h30 = some v22 ∧
 T Tryz.prog 31 [v22, v25, v29] h30 fun v31 h32 =>
 bnd (exV v31 0) fun v33 =>
 bnd (exV v31 1) fun v34 =>
 bnd (ncV x0) fun v35 =>
 bnd (faV 55 v35) fun v36 =>
 bnd (stV 1 v36 (.iface 91 v33) h32) fun h37 =>
 bnd (ncV x0) fun v38 =>
 bnd (faV 59 v38) fun v39 =>
 bnd (ldV 1 false v39 h37) fun v40 =>
 K (.tuple #[v40, (.int .i64 0)]) h37) (
 bnd (taV 91 (.pointer none) true v8) fun v41 =>
 bnd (exV v41 1) fun v42 =>
 bnd (exV v41 0) fun v43 =>
 ifV v42 (
 T Tryz.prog 33 [v43] h fun v44 h45 =>
 bnd (ncV x0) fun v46 =>
 bnd (faV 58 v46) fun v47 =>
 bnd (stV 1 v47 v44 h45) fun h48 =>
 bnd (ncV x0) fun v49 =>
 bnd (faV 59 v49) fun v50 =>
 bnd (stV 1 v50 (.bool true) h48) fun h51 =>
 bnd (ncV x0) fun v52 =>
 bnd (faV 59 v52) fun v53 =>
 bnd (ldV 1 false v53 h51) fun v54 =>
 K (.tuple #[v54, (.int .i64 0)]) h51) (
 bnd (ncV x0) fun v55 =>
 bnd (faV 59 v55) fun v56 =>
 bnd (ldV 1 false v56 h) fun v57 =>
 K (.tuple #[v57, (.int .i64 0)]) h)))))

def S9_j2 (x0 x1 : Value) (h : GH) (K : Value → GH → Prop)  : Prop :=
 bnd (ncV x0) fun v1 =>
 bnd (faV 55 v1) fun v2 =>
 bnd (ldV 1 false v2 h) fun v3 =>
 ivV Tryz.prog v3 "Step" [x1] h fun v4 h5 =>
 bnd (exV v4 0) fun v6 =>
 bnd (exV v4 1) fun v7 =>
 bnd (ncV x0) fun v8 =>
 bnd (faV 2 v8) fun v9 =>
 bnd (faV 0 v9) fun v10 =>
 bnd (ldV 1 false v10 h5) fun v11 =>
 bnd (ncV x0) fun v12 =>
 bnd (faV 2 v12) fun v13 =>
 bnd (faV 1 v13) fun v14 =>
 bnd (ldV 1 false v14 h5) fun v15 =>
 bnd (ncV x0) fun v16 =>
 bnd (faV 56 v16) fun v17 =>
 bnd (stV 1 v17 v11 h5) fun h18 =>
 bnd (ncV x0) fun v19 =>
 bnd (faV 57 v19) fun v20 =>
 bnd (stV 1 v20 v15 h18) fun h21 =>
 bnd (ncV x0) fun v22 =>
 bnd (faV 55 v22) fun v23 =>
 bnd (ldV 1 false v23 h21) fun v24 =>
 bnd (tiV Tryz.prog #[("Seq", 87), ("Step", 35), ("Through", 43)] .nilIface true v24) fun v25 =>
 bnd (exV v25 0) fun v26 =>
 bnd (exV v25 1) fun v27 =>
 ifV v27 (
 ivV Tryz.prog v26 "Through" [] h21 fun v28 h29 =>
 bnd (exV v28 0) fun v30 =>
 bnd (exV v28 1) fun v31 =>
 bnd (ncV x0) fun v32 =>
 bnd (faV 56 v32) fun v33 =>
 bnd (stV 1 v33 v30 h29) fun h34 =>
 bnd (ncV x0) fun v35 =>
 bnd (faV 57 v35) fun v36 =>
 bnd (stV 1 v36 v31 h34) fun h37 =>
 ivV Tryz.prog v26 "Seq" [] h37 fun v38 h39 =>
 bnd (ncV x0) fun v40 =>
 bnd (faV 1 v40) fun v41 =>
 bnd (stV 1 v41 v38 h39) fun h42 =>
 S9_j3 x0 v6 v7 h42 K ) (
 S9_j3 x0 v6 v7 h21 K )

def S9_j1 (x0 x1 x15 : Value) (h : GH) (K : Value → GH → Prop)  : Prop :=
 ifV x15 (
 K (.tuple #[(.bool false), (.int .i64 1)]) h) (
 bnd (ncV x0) fun v1 =>
 bnd (faV 59 v1) fun v2 =>
 bnd (ldV 1 false v2 h) fun v3 =>
 ifV v3 (
 K (.tuple #[(.bool true), (.int .i64 0)]) h) (
 S9_j2 x0 x1 h K ))
def S9 (a0 a1 : Value) (h : GH) (K : Value → GH → Prop) : Prop :=
 bnd (eqK .ptr true a0 (.pointer none)) fun b1 =>
 ifV (.bool b1) (
 S9_j1 a0 a1 (.bool true) h K ) (
 bnd (eqK .ptr true a1 (.pointer none)) fun b2 =>
 S9_j1 a0 a1 (.bool b2) h K )
def A9 : Ann := ⟨fun | 6 => ([0, 1, 2, 3, 4, 5, 6, 7, 8, 9, 10, 11, 12, 13, 14, 15, 16, 17], [0, 0, 0, 4, 12, 28, 60, 0, 128, 384, 896, 1920, 4093, 8189, 16381, 32767, 65535, 131071]) | 22 => ([0, 1, 2, 3, 4, 5, 6, 7, 8, 9, 10, 11, 12, 13, 14, 15, 16, 17, 18, 19], [0, 1, 3, 7, 0, 16, 48, 112, 0, 256, 768, 1792, 3840, 7936, 16383, 32767, 65535, 65535, 131071, 524287]) | _ => ([], []), fun _ => []⟩
theorem S9_T {a0 a1 : Value} {h : GH} {K : Value → GH → Prop} (g : S9 a0 a1 h K) : T Tryz.prog 9 [a0, a1] h K :=
  T_of_gwp (A := A9) Tryz.func9 (c := bodyOf Tryz.f9) (by kernel_rfl) (by kernel_rfl) (by kernel_rfl) (by kernel_rfl) (by kernel_rfl) (Eq.mp (by kernel_rfl) g)

/-! ### (*pawl/arena.Arena).All (10) -/
def S10 (a0 : Value) (h : GH) (K : Value → GH → Prop) : Prop :=
 bnd (eqK .ptr true a0 (.pointer none)) fun b1 =>
 ifV (.bool b1) (
 K (.slice none 0 0) h) (
 bnd (ncV a0) fun v2 =>
 bnd (faV 0 v2) fun v3 =>
 bnd (saV 634 1 v3 none none) fun v4 =>
 T Tryz.prog 34 [v4] h fun v5 h6 =>
 K v5 h6)
def A10 : Ann := ⟨fun _ => ([], []), fun _ => []⟩
theorem S10_T {a0 : Value} {h : GH} {K : Value → GH → Prop} (g : S10 a0 h K) : T Tryz.prog 10 [a0] h K :=
  T_of_gwp (A := A10) Tryz.func10 (c := bodyOf Tryz.f10) (by kernel_rfl) (by kernel_rfl) (by kernel_rfl) (by kernel_rfl) (by kernel_rfl) (Eq.mp (by kernel_rfl) g)

/-! ### (*pawl/attempt.Attempt).Won (11) -/
def S11 (a0 : Value) (h : GH) (K : Value → GH → Prop) : Prop :=
 bnd (eqK .ptr true a0 (.pointer none)) fun b1 =>
 ifV (.bool (!b1)) (
 bnd (ncV a0) fun v2 =>
 bnd (faV 58 v2) fun v3 =>
 bnd (ldV 1 false v3 h) fun v4 =>
 K v4 h) (
 K (.bool false) h)
def A11 : Ann := ⟨fun _ => ([], []), fun _ => []⟩
theorem S11_T {a0 : Value} {h : GH} {K : Value → GH → Prop} (g : S11 a0 h K) : T Tryz.prog 11 [a0] h K :=
  T_of_gwp (A := A11) Tryz.func11 (c := bodyOf Tryz.f11) (by kernel_rfl) (by kernel_rfl) (by kernel_rfl) (by kernel_rfl) (by kernel_rfl) (Eq.mp (by kernel_rfl) g)

/-! ### pawl/pawllaw17.row (12) -/
def S12_j2 (x1 x17 x18 : Value) (h : GH) (K : Value → GH → Prop)  : Prop :=
 Lfp (fun (s1 : Nat → Value) h2 again3 =>
 bnd (binV .lss (s1 3) (.int .i64 16)) fun v4 =>
 ifV v4 (
 bnd (isV 1 (s1 0) (s1 3)) fun v5 =>
 bnd (ldV 1 false v5 h2) fun v6 =>
 bnd (faV 32 (s1 1)) fun v7 =>
 bnd (iaV 16 1 v7 (s1 3)) fun v8 =>
 bnd (ldV 1 false v8 h2) fun v9 =>
 bnd (binV .mul (.int .i64 4) v9) fun v10 =>
 bnd (eqI v6 v10) fun b11 =>
 ifV (.bool (!b11)) (
 K (.bool false) h2) (
 bnd (binV .add (s1 3) (.int .i64 1)) fun v12 =>
 again3 (tup [(s1 0), (s1 1), (s1 2), v12]) h2)) (
 bnd (eqI (s1 2) (.int .i64 0)) fun b13 =>
 K (.bool b13) h2)) (tup [x1, x17, x18, (.int .i64 0)]) h

def S12_j1 (x1 x5 x6 x7 x17 x18 : Value) (h : GH) (K : Value → GH → Prop)  : Prop :=
 ifV x5 (
 bnd (ldV 48 true x17 h) fun v1 =>
 T Tryz.prog 36 [v1, x6] h fun v2 h3 =>
 bnd (exV v2 0) fun v4 =>
 bnd (exV v2 1) fun v5 =>
 newV 71 ([(.int .i64 0)] ++ List.replicate 16 (.bool false) ++ List.replicate 32 (.int .i64 0) ++ [(.slice none 0 0)]) h3 fun v6 h7 =>
 bnd (stV 50 v6 v4 h7) fun h8 =>
 bnd (eqI v5 (.int .i64 0)) fun b9 =>
 ifV (.bool (!b9)) (
 K (.bool false) h8) (
 bnd (faV 49 v6) fun v10 =>
 bnd (ldV 1 false v10 h8) fun v11 =>
 T Tryz.prog 17 [v11, x7] h8 fun v12 h13 =>
 bnd (unV .not v12) fun v14 =>
 ifV v14 (
 K (.bool false) h13) (
 bnd (faV 1 v6) fun v15 =>
 bnd (ldV 48 true v15 h13) fun v16 =>
 bnd (stV 48 x17 v16 h13) fun h17 =>
 S12_j2 x1 x17 x18 h17 K ))) (
 S12_j2 x1 x17 x18 h K )
def S12 (a0 a1 a2 a3 a4 a5 a6 a7 : Value) (h : GH) (K : Value → GH → Prop) : Prop :=
 T Tryz.prog 35 [a0] h fun v1 h2 =>
 bnd (exV v1 0) fun v3 =>
 bnd (exV v1 1) fun v4 =>
 newV 69 (List.replicate 16 (.bool false) ++ List.replicate 32 (.int .i64 0)) h2 fun v5 h6 =>
 bnd (stV 48 v5 v3 h6) fun h7 =>
 ifV a2 (
 bnd (ldV 48 true v5 h7) fun v8 =>
 T Tryz.prog 36 [v8, a3] h7 fun v9 h10 =>
 bnd (exV v9 0) fun v11 =>
 bnd (exV v9 1) fun v12 =>
 newV 71 ([(.int .i64 0)] ++ List.replicate 16 (.bool false) ++ List.replicate 32 (.int .i64 0) ++ [(.slice none 0 0)]) h10 fun v13 h14 =>
 bnd (stV 50 v13 v11 h14) fun h15 =>
 bnd (eqI v12 (.int .i64 0)) fun b16 =>
 ifV (.bool (!b16)) (
 K (.bool false) h15) (
 bnd (faV 49 v13) fun v17 =>
 bnd (ldV 1 false v17 h15) fun v18 =>
 T Tryz.prog 17 [v18, a4] h15 fun v19 h20 =>
 bnd (unV .not v19) fun v21 =>
 ifV v21 (
 K (.bool false) h20) (
 bnd (faV 1 v13) fun v22 =>
 bnd (ldV 48 true v22 h20) fun v23 =>
 bnd (stV 48 v5 v23 h20) fun h24 =>
 S12_j1 a1 a5 a6 a7 v5 v4 h24 K ))) (
 S12_j1 a1 a5 a6 a7 v5 v4 h7 K )
def A12 : Ann := ⟨fun | 15 => ([0, 1, 2, 3, 4, 5, 6, 7, 8, 9], [0, 0, 3, 7, 0, 0, 48, 112, 240, 511]) | _ => ([], []), fun | 0 => [1, 17, 18, 23] | _ => []⟩
theorem S12_T {a0 a1 a2 a3 a4 a5 a6 a7 : Value} {h : GH} {K : Value → GH → Prop} (g : S12 a0 a1 a2 a3 a4 a5 a6 a7 h K) : T Tryz.prog 12 [a0, a1, a2, a3, a4, a5, a6, a7] h K :=
  T_of_gwp (A := A12) Tryz.func12 (c := bodyOf Tryz.f12) (by kernel_rfl) (by kernel_rfl) (by kernel_rfl) (by kernel_rfl) (by kernel_rfl) (Eq.mp (by kernel_rfl) g)

/-! ### (*pawl/attempt.Attempt).Answers (13) -/
def S13 (a0 : Value) (h : GH) (K : Value → GH → Prop) : Prop :=
 bnd (eqK .ptr true a0 (.pointer none)) fun b1 =>
 ifV (.bool b1) (
 K (.slice none 0 0) h) (
 bnd (ncV a0) fun v2 =>
 bnd (faV 60 v2) fun v3 =>
 bnd (ldV 1 false v3 h) fun v4 =>
 T Tryz.prog 37 [v4] h fun v5 h6 =>
 K v5 h6)
def A13 : Ann := ⟨fun _ => ([], []), fun _ => []⟩
theorem S13_T {a0 : Value} {h : GH} {K : Value → GH → Prop} (g : S13 a0 h K) : T Tryz.prog 13 [a0] h K :=
  T_of_gwp (A := A13) Tryz.func13 (c := bodyOf Tryz.f13) (by kernel_rfl) (by kernel_rfl) (by kernel_rfl) (by kernel_rfl) (by kernel_rfl) (Eq.mp (by kernel_rfl) g)

/-! ### (*pawl/attempt.Attempt).Through (14) -/
def S14 (a0 : Value) (h : GH) (K : Value → GH → Prop) : Prop :=
 bnd (eqK .ptr true a0 (.pointer none)) fun b1 =>
 ifV (.bool b1) (
 K (.tuple #[(.int .i64 0), (.int .i64 0)]) h) (
 bnd (ncV a0) fun v2 =>
 bnd (faV 56 v2) fun v3 =>
 bnd (ldV 1 false v3 h) fun v4 =>
 bnd (ncV a0) fun v5 =>
 bnd (faV 57 v5) fun v6 =>
 bnd (ldV 1 false v6 h) fun v7 =>
 K (.tuple #[v4, v7]) h)
def A14 : Ann := ⟨fun | 3 => ([0, 1, 2, 3, 4, 5, 6, 7, 8, 9], [0, 1, 3, 7, 0, 16, 48, 112, 15, 511]) | _ => ([], []), fun _ => []⟩
theorem S14_T {a0 : Value} {h : GH} {K : Value → GH → Prop} (g : S14 a0 h K) : T Tryz.prog 14 [a0] h K :=
  T_of_gwp (A := A14) Tryz.func14 (c := bodyOf Tryz.f14) (by kernel_rfl) (by kernel_rfl) (by kernel_rfl) (by kernel_rfl) (by kernel_rfl) (Eq.mp (by kernel_rfl) g)

/-! ### (*pawl/arena.Arena).Last (15) -/
def S15 (a0 : Value) (h : GH) (K : Value → GH → Prop) : Prop :=
 newV 45 [(.int .i64 0), (.int .i64 0), (.int .i64 0), (.int .i64 0), (.int .i64 0), (.int .i64 0), (.int .i64 0), (.int .i64 0)] h fun v1 h2 =>
 bnd (eqK .ptr true a0 (.pointer none)) fun b3 =>
 ifV (.bool b3) (
 bnd (fillV [(.int .i64 0), (.int .i64 0), (.int .i64 0), (.int .i64 0), (.int .i64 0), (.int .i64 0), (.int .i64 0), (.int .i64 0)] []) fun c4 =>
 bnd (stV 8 v1 (.agg c4.toArray) h2) fun h5 =>
 bnd (ldV 8 true v1 h5) fun v6 =>
 K (.tuple #[v6, (.bool false)]) h5) (
 bnd (ncV a0) fun v7 =>
 bnd (faV 634 v7) fun v8 =>
 bnd (ldV 8 true v8 h2) fun v9 =>
 bnd (ncV a0) fun v10 =>
 bnd (faV 642 v10) fun v11 =>
 bnd (ldV 1 false v11 h2) fun v12 =>
 bnd (stV 8 v1 v9 h2) fun h13 =>
 ldV 1 false v11 h13 = some v12 ∧
 bnd (ldV 8 true v1 h13) fun v14 =>
 K (.tuple #[v14, v12]) h13)
def A15 : Ann := ⟨fun | 3 => ([0, 1, 2, 3, 4, 5, 6, 7, 8, 9], [0, 1, 3, 7, 0, 16, 48, 112, 15, 511]) | _ => ([], []), fun _ => []⟩
theorem S15_T {a0 : Value} {h : GH} {K : Value → GH → Prop} (g : S15 a0 h K) : T Tryz.prog 15 [a0] h K :=
  T_of_gwp (A := A15) Tryz.func15 (c := bodyOf Tryz.f15) (by kernel_rfl) (by kernel_rfl) (by kernel_rfl) (by kernel_rfl) (by kernel_rfl) (Eq.mp (by kernel_rfl) g)

/-! ### (*pawl/arena.Arena).Load (16) -/
def S16 (a0 a1 : Value) (h : GH) (K : Value → GH → Prop) : Prop :=
 T Tryz.prog 38 [a0, (.int .i64 0), a1, (.func (.func 39) #[] #[])] h fun v1 h2 =>
 bnd (exV v1 0) fun v3 =>
 bnd (exV v1 1) fun v4 =>
 K (.tuple #[v3, v4]) h2
def A16 : Ann := ⟨fun _ => ([], []), fun _ => []⟩
theorem S16_T {a0 a1 : Value} {h : GH} {K : Value → GH → Prop} (g : S16 a0 a1 h K) : T Tryz.prog 16 [a0, a1] h K :=
  T_of_gwp (A := A16) Tryz.func16 (c := bodyOf Tryz.f16) (by kernel_rfl) (by kernel_rfl) (by kernel_rfl) (by kernel_rfl) (by kernel_rfl) (Eq.mp (by kernel_rfl) g)

/-! ### pawl/pawllaw0.SameAnswers (17) -/
def S17 (a0 a1 : Value) (h : GH) (K : Value → GH → Prop) : Prop :=
 bnd (lnV a0) fun v1 =>
 bnd (lnV a1) fun v2 =>
 bnd (eqI v1 v2) fun b3 =>
 ifV (.bool (!b3)) (
 K (.bool false) h) (
 Lfp (fun (s4 : Nat → Value) h5 again6 =>
 bnd (lnV (s4 0)) fun v7 =>
 bnd (binV .lss (s4 2) v7) fun v8 =>
 ifV v8 (
 bnd (isV 2 (s4 0) (s4 2)) fun v9 =>
 bnd (ldV 2 true v9 h5) fun v10 =>
 bnd (isV 2 (s4 1) (s4 2)) fun v11 =>
 bnd (ldV 2 true v11 h5) fun v12 =>
 bnd (eqP Tryz.prog 10000 55 v10 v12) fun b13 =>
 ifV (.bool (!b13)) (
 K (.bool false) h5) (
 bnd (binV .add (s4 2) (.int .i64 1)) fun v14 =>
 again6 (tup [(s4 0), (s4 1), v14]) h5)) (
 K (.bool true) h5)) (tup [a0, a1, (.int .i64 0)]) h)
def A17 : Ann := ⟨fun | 6 => ([0, 1, 2, 3, 4, 5, 6, 7, 8], [0, 0, 3, 7, 0, 0, 48, 112, 255]) | _ => ([], []), fun | 0 => [0, 1, 5] | _ => []⟩
theorem S17_T {a0 a1 : Value} {h : GH} {K : Value → GH → Prop} (g : S17 a0 a1 h K) : T Tryz.prog 17 [a0, a1] h K :=
  T_of_gwp (A := A17) Tryz.func17 (c := bodyOf Tryz.f17) (by kernel_rfl) (by kernel_rfl) (by kernel_rfl) (by kernel_rfl) (by kernel_rfl) (Eq.mp (by kernel_rfl) g)

/-! ### pawl/pawllaw17.pair (18) -/
def S18_j2 (s1 : Nat → Value) (x0 x1 x6 x7 x8 : Value) (h : GH) (K : Value → GH → Prop) (again3 : (Nat → Value) → GH → Prop) : Prop :=
 bnd (isV 1 x0 x8) fun v1 =>
 bnd (ldV 1 false v1 h) fun v2 =>
 bnd (cvV .u64 v2) fun v3 =>
 bnd (binV .rem v3 (.int .u64 634)) fun v4 =>
 bnd (cvV .i64 v4) fun v5 =>
 bnd (isV 1 x1 x8) fun v6 =>
 bnd (ldV 1 false v6 h) fun v7 =>
 T Tryz.prog 19 [x6, v5, v7] h fun v8 h9 =>
 bnd (isV 1 x1 x8) fun v10 =>
 bnd (ldV 1 false v10 h9) fun v11 =>
 T Tryz.prog 20 [x7, v5, v11] h9 fun v12 h13 =>
 bnd (binV .add x8 (.int .i64 1)) fun v14 =>
 again3 (tup [x0, x1, x6, x7, v14]) h13

def S18_j1 (x0 x1 x6 x7 : Value) (h : GH) (K : Value → GH → Prop)  : Prop :=
 Lfp (fun (s1 : Nat → Value) h2 again3 =>
 bnd (lnV (s1 0)) fun v4 =>
 bnd (binV .lss (s1 4) v4) fun v5 =>
 ifV v5 (
 bnd (lnV (s1 1)) fun v6 =>
 bnd (binV .lss (s1 4) v6) fun v7 =>
 ifV v7 (
 bnd (binV .lss (s1 4) (.int .i64 30)) fun v8 =>
 ifV v8 (
 S18_j2 s1 (s1 0) (s1 1) (s1 2) (s1 3) (s1 4) h2 K again3) (
 K (.tuple #[(s1 2), (s1 3)]) h2)) (
 K (.tuple #[(s1 2), (s1 3)]) h2)) (
 K (.tuple #[(s1 2), (s1 3)]) h2)) (tup [x0, x1, x6, x7, (.int .i64 0)]) h
def S18 (a0 a1 : Value) (h : GH) (K : Value → GH → Prop) : Prop :=
 T Tryz.prog 40 [] h fun v1 h2 =>
 T Tryz.prog 41 [] h2 fun v3 h4 =>
 bnd (eqK .ptr true v1 (.pointer none)) fun b5 =>
 ifV (.bool b5) (
 K (.tuple #[(.pointer none), (.pointer none)]) h4) (
 T Tryz.prog 10 [v1] h4 fun v6 h7 =>
 bnd (lnV v6) fun v8 =>
 bnd (eqI v8 (.int .i64 634)) fun b9 =>
 ifV (.bool (!b9)) (
 K (.tuple #[(.pointer none), (.pointer none)]) h7) (
 S18_j1 a0 a1 v1 v3 h7 K ))
def A18 : Ann := ⟨fun _ => ([], []), fun | 0 => [0, 1, 6, 7, 8] | _ => []⟩
theorem S18_T {a0 a1 : Value} {h : GH} {K : Value → GH → Prop} (g : S18 a0 a1 h K) : T Tryz.prog 18 [a0, a1] h K :=
  T_of_gwp (A := A18) Tryz.func18 (c := bodyOf Tryz.f18) (by kernel_rfl) (by kernel_rfl) (by kernel_rfl) (by kernel_rfl) (by kernel_rfl) (Eq.mp (by kernel_rfl) g)

/-! ### (*pawl/arena.Arena).Store (19) -/
def S19 (a0 a1 a2 : Value) (h : GH) (K : Value → GH → Prop) : Prop :=
 newV 3 (a2 : Value).cells.toList h fun v1 h2 =>
 T Tryz.prog 38 [a0, (.int .i64 1), a1, (.func (.func 42) #[] #[v1])] h2 fun v3 h4 =>
 bnd (exV v3 0) fun v5 =>
 bnd (exV v3 1) fun v6 =>
 K (.tuple #[v5, v6]) h4
def A19 : Ann := ⟨fun _ => ([], []), fun _ => []⟩
theorem S19_T {a0 a1 a2 : Value} {h : GH} {K : Value → GH → Prop} (g : S19 a0 a1 a2 h K) : T Tryz.prog 19 [a0, a1, a2] h K :=
  T_of_gwp (A := A19) Tryz.func19 (c := bodyOf Tryz.f19) (by kernel_rfl) (by kernel_rfl) (by kernel_rfl) (by kernel_rfl) (by kernel_rfl) (Eq.mp (by kernel_rfl) g)

/-! ### (*pawl/pawlref1.Arena).Store (20) -/
def S20 (a0 a1 a2 : Value) (h : GH) (K : Value → GH → Prop) : Prop :=
 T Tryz.prog 43 [a0, (.int .i64 1), a1, a2] h fun v1 h2 =>
 bnd (exV v1 0) fun v3 =>
 bnd (exV v1 1) fun v4 =>
 K (.tuple #[v3, v4]) h2
def A20 : Ann := ⟨fun _ => ([], []), fun _ => []⟩
theorem S20_T {a0 a1 a2 : Value} {h : GH} {K : Value → GH → Prop} (g : S20 a0 a1 a2 h K) : T Tryz.prog 20 [a0, a1, a2] h K :=
  T_of_gwp (A := A20) Tryz.func20 (c := bodyOf Tryz.f20) (by kernel_rfl) (by kernel_rfl) (by kernel_rfl) (by kernel_rfl) (by kernel_rfl) (Eq.mp (by kernel_rfl) g)

/-! ### pawl/pawlref10.NewWriter (21) -/
def S21_j1 (x0 x1 x2 : Value) (h : GH) (K : Value → GH → Prop)  : Prop :=
 T Tryz.prog 46 [x1, (.int .i64 0)] h fun v1 h2 =>
 bnd (lnV x2) fun v3 =>
 T Tryz.prog 47 [v3] h2 fun v4 h5 =>
 bsV 3 2 [(.int .i64 0), (.int .i64 0)] [(0, 1, v1), (1, 1, v4)] h5 fun v6 h7 =>
 bnd (fillV [(.int .i64 0), (.int .i64 0), (.slice none 0 0)] [(1, 1, x0), (2, 1, v6)]) fun c8 =>
 newV 112 ((.agg c8.toArray) : Value).cells.toList h7 fun v9 h10 =>
 Lfp (fun (s11 : Nat → Value) h12 again13 =>
 bnd (lnV (s11 0)) fun v14 =>
 bnd (binV .lss (s11 2) v14) fun v15 =>
 ifV v15 (
 bnd (ncV (s11 1)) fun v16 =>
 bnd (faV 2 v16) fun v17 =>
 bnd (ldV 1 false v17 h12) fun v18 =>
 bnd (isV 3 (s11 0) (s11 2)) fun v19 =>
 bnd (faV 0 v19) fun v20 =>
 bnd (ldV 1 false v20 h12) fun v21 =>
 bnd (isV 3 (s11 0) (s11 2)) fun v22 =>
 bnd (faV 1 v22) fun v23 =>
 bnd (ldV 1 false v23 h12) fun v24 =>
 bnd (isV 3 (s11 0) (s11 2)) fun v25 =>
 bnd (faV 2 v25) fun v26 =>
 bnd (ldV 1 false v26 h12) fun v27 =>
 T Tryz.prog 47 [v21] h12 fun v28 h29 =>
 ldV 1 false v26 h29 = some v27 ∧
 ldV 1 false v23 h29 = some v24 ∧
 ldV 1 false v17 h29 = some v18 ∧
 T Tryz.prog 47 [v24] h29 fun v30 h31 =>
 ldV 1 false v26 h31 = some v27 ∧
 ldV 1 false v17 h31 = some v18 ∧
 T Tryz.prog 47 [v27] h31 fun v32 h33 =>
 ldV 1 false v17 h33 = some v18 ∧
 bsV 3 3 [(.int .i64 0), (.int .i64 0), (.int .i64 0)] [(0, 1, v28), (1, 1, v30), (2, 1, v32)] h33 fun v34 h35 =>
 apV 3 1 8 v18 v34 h35 fun v36 h37 =>
 bnd (ncV (s11 1)) fun v38 =>
 bnd (faV 2 v38) fun v39 =>
 bnd (stV 1 v39 v36 h37) fun h40 =>
 bnd (binV .add (s11 2) (.int .i64 1)) fun v41 =>
 again13 (tup [(s11 0), (s11 1), v41]) h40) (
 K (.tuple #[(s11 1), (.int .i64 0)]) h12)) (tup [x2, v9, (.int .i64 0)]) h10
def S21 (a0 a1 a2 : Value) (h : GH) (K : Value → GH → Prop) : Prop :=
 T Tryz.prog 44 [a0, a1] h fun v1 h2 =>
 bnd (unV .not v1) fun v3 =>
 ifV v3 (
 K (.tuple #[(.pointer none), (.int .i64 1300)]) h2) (
 T Tryz.prog 45 [a2] h2 fun v4 h5 =>
 bnd (unV .not v4) fun v6 =>
 ifV v6 (
 K (.tuple #[(.pointer none), (.int .i64 1300)]) h5) (
 S21_j1 a0 a1 a2 h5 K ))
def A21 : Ann := ⟨fun | 7 => ([0, 1, 2, 3, 4, 5, 6, 7, 8, 9, 11, 12, 13, 14, 15, 17, 18, 19, 20, 21, 10, 16, 22, 23, 24, 25, 26, 27], [0, 0, 2, 6, 14, 0, 0, 96, 224, 480, 992, 0, 0, 6144, 14336, 30720, 65504, 0, 0, 393216, 917504, 1966080, 4194272, 8388576, 16777214, 33554431, 67108863, 134217727]) | _ => ([], []), fun | 0 => [2, 8, 9] | _ => []⟩
theorem S21_T {a0 a1 a2 : Value} {h : GH} {K : Value → GH → Prop} (g : S21 a0 a1 a2 h K) : T Tryz.prog 21 [a0, a1, a2] h K :=
  T_of_gwp (A := A21) Tryz.func21 (c := bodyOf Tryz.f21) (by kernel_rfl) (by kernel_rfl) (by kernel_rfl) (by kernel_rfl) (by kernel_rfl) (Eq.mp (by kernel_rfl) g)

/-! ### (*pawl/pawlref10.Writer).Step (22) -/
def S22_j1 (x0 : Value) (h : GH) (K : Value → GH → Prop)  : Prop :=
 bnd (ncV x0) fun v1 =>
 bnd (faV 0 v1) fun v2 =>
 bnd (ldV 1 false v2 h) fun v3 =>
 bnd (ncV x0) fun v4 =>
 bnd (faV 2 v4) fun v5 =>
 bnd (ldV 1 false v5 h) fun v6 =>
 bnd (lnV v6) fun v7 =>
 bnd (binV .geq v3 v7) fun v8 =>
 K (.tuple #[v8, (.int .i64 0)]) h
def S22 (a0 a1 : Value) (h : GH) (K : Value → GH → Prop) : Prop :=
 bnd (ncV a0) fun v1 =>
 bnd (faV 0 v1) fun v2 =>
 bnd (ldV 1 false v2 h) fun v3 =>
 bnd (ncV a0) fun v4 =>
 bnd (faV 2 v4) fun v5 =>
 bnd (ldV 1 false v5 h) fun v6 =>
 bnd (lnV v6) fun v7 =>
 bnd (binV .lss v3 v7) fun v8 =>
 ifV v8 (
 bnd (ncV a0) fun v9 =>
 bnd (faV 1 v9) fun v10 =>
 bnd (ldV 1 false v10 h) fun v11 =>
 bnd (ncV a0) fun v12 =>
 bnd (faV 0 v12) fun v13 =>
 bnd (ldV 1 false v13 h) fun v14 =>
 bnd (ncV a0) fun v15 =>
 bnd (faV 2 v15) fun v16 =>
 bnd (ldV 1 false v16 h) fun v17 =>
 bnd (ncV a0) fun v18 =>
 bnd (faV 0 v18) fun v19 =>
 bnd (ldV 1 false v19 h) fun v20 =>
 bnd (isV 1 v17 v20) fun v21 =>
 bnd (ldV 1 false v21 h) fun v22 =>
 T Tryz.prog 48 [v11] h fun v23 h24 =>
 ldV 1 false v21 h24 = some v22 ∧
 ldV 1 false v19 h24 = some v20 ∧
 ldV 1 false v16 h24 = some v17 ∧
 ldV 1 false v13 h24 = some v14 ∧
 bnd (binV .add v23 v14) fun v25 =>
 T Tryz.prog 20 [a1, v25, v22] h24 fun v26 h27 =>
 bnd (ncV a0) fun v28 =>
 bnd (faV 0 v28) fun v29 =>
 bnd (ldV 1 false v29 h27) fun v30 =>
 bnd (binV .add v30 (.int .i64 1)) fun v31 =>
 bnd (ncV a0) fun v32 =>
 bnd (faV 0 v32) fun v33 =>
 bnd (stV 1 v33 v31 h27) fun h34 =>
 S22_j1 a0 h34 K ) (
 S22_j1 a0 h K )
def A22 : Ann := ⟨fun | 1 => ([0, 1, 2, 3, 4, 5, 6, 7, 8, 9], [0, 1, 3, 7, 0, 16, 48, 112, 240, 511]) | 2 => ([0, 1, 2, 3, 4, 6, 7, 8, 9, 11, 12, 13, 14, 15, 16, 17, 18, 19, 20, 5, 10, 21], [0, 0, 2, 6, 14, 30, 0, 64, 192, 448, 1022, 0, 2048, 6144, 14336, 0, 32768, 98304, 229376, 522240, 1046528, 2097151]) | 4 => ([0, 1, 2, 3, 4, 5, 6, 7, 8, 9, 10, 11], [0, 1, 3, 7, 0, 16, 48, 112, 240, 511, 1023, 2047]) | _ => ([], []), fun _ => []⟩
theorem S22_T {a0 a1 : Value} {h : GH} {K : Value → GH → Prop} (g : S22 a0 a1 h K) : T Tryz.prog 22 [a0, a1] h K :=
  T_of_gwp (A := A22) Tryz.func22 (c := bodyOf Tryz.f22) (by kernel_rfl) (by kernel_rfl) (by kernel_rfl) (by kernel_rfl) (by kernel_rfl) (Eq.mp (by kernel_rfl) g)

/-! ### (*pawl/pawlref1.Arena).Last (23) -/
def S23 (a0 : Value) (h : GH) (K : Value → GH → Prop) : Prop :=
 newV 45 [(.int .i64 0), (.int .i64 0), (.int .i64 0), (.int .i64 0), (.int .i64 0), (.int .i64 0), (.int .i64 0), (.int .i64 0)] h fun v1 h2 =>
 bnd (ncV a0) fun v3 =>
 bnd (faV 634 v3) fun v4 =>
 bnd (ldV 8 true v4 h2) fun v5 =>
 bnd (ncV a0) fun v6 =>
 bnd (faV 642 v6) fun v7 =>
 bnd (ldV 1 false v7 h2) fun v8 =>
 bnd (stV 8 v1 v5 h2) fun h9 =>
 ldV 1 false v7 h9 = some v8 ∧
 bnd (ldV 8 true v1 h9) fun v10 =>
 K (.tuple #[v10, v8]) h9
def A23 : Ann := ⟨fun | 1 => ([0, 1, 2, 3, 4, 5, 6, 7, 8, 9], [0, 1, 3, 7, 0, 16, 48, 112, 15, 511]) | _ => ([], []), fun _ => []⟩
theorem S23_T {a0 : Value} {h : GH} {K : Value → GH → Prop} (g : S23 a0 h K) : T Tryz.prog 23 [a0] h K :=
  T_of_gwp (A := A23) Tryz.func23 (c := bodyOf Tryz.f23) (by kernel_rfl) (by kernel_rfl) (by kernel_rfl) (by kernel_rfl) (by kernel_rfl) (Eq.mp (by kernel_rfl) g)

/-! ### pawl/body.Do (24) -/
def S24_j2 (s6 : Nat → Value) (x2 x4 x6 x7 x9 x10 x22 x23 x24 : Value) (h : GH) (K : Value → GH → Prop) (again8 : (Nat → Value) → GH → Prop) : Prop :=
 bnd (ldV 48 true x6 h) fun v1 =>
 bnd (ldV 4 true x9 h) fun v2 =>
 callV Tryz.prog x10 [v1, v2] h fun v3 h4 =>
 bnd (exV v3 0) fun v5 =>
 bnd (exV v3 1) fun v6 =>
 newV 71 ([(.int .i64 0)] ++ List.replicate 16 (.bool false) ++ List.replicate 32 (.int .i64 0) ++ [(.slice none 0 0)]) h4 fun v7 h8 =>
 bnd (stV 50 v7 v5 h8) fun h9 =>
 bnd (faV 0 v7) fun v10 =>
 bnd (ldV 1 false v10 h9) fun v11 =>
 bnd (binV .geq v11 (.int .i64 0)) fun v12 =>
 ifV v12 (
 bnd (faV 0 v7) fun v13 =>
 bnd (ldV 1 false v13 h9) fun v14 =>
 bnd (ldV 48 true x2 h9) fun v15 =>
 bnd (fillV ([(.int .i64 0)] ++ List.replicate 16 (.bool false) ++ List.replicate 32 (.int .i64 0) ++ [(.slice none 0 0)]) [(0, 1, v14), (1, 48, v15)]) fun c16 =>
 bnd (stV 50 x4 (.agg c16.toArray) h9) fun h17 =>
 bnd (ldV 50 true x4 h17) fun v18 =>
 K (.tuple #[v18, (.int .i64 0)]) h17) (
 bnd (faV 49 v7) fun v19 =>
 bnd (ldV 1 false v19 h9) fun v20 =>
 apV 55 2 16 x7 v20 h9 fun v21 h22 =>
 bnd (lnV v21) fun v23 =>
 bnd (binV .sub v23 (.int .i64 1)) fun v24 =>
 bnd (isV 2 v21 v24) fun v25 =>
 bnd (faV 0 v25) fun v26 =>
 bnd (ldV 1 false v26 h22) fun v27 =>
 bnd (eqI v27 (.int .i64 0)) fun b28 =>
 ifV (.bool (!b28)) (
 bnd (ldV 48 true x2 h22) fun v29 =>
 bnd (fillV ([(.int .i64 0)] ++ List.replicate 16 (.bool false) ++ List.replicate 32 (.int .i64 0) ++ [(.slice none 0 0)]) [(0, 1, (.int .i64 (-1))), (1, 48, v29), (49, 1, v21)]) fun c30 =>
 bnd (stV 50 x4 (.agg c30.toArray) h22) fun h31 =>
 bnd (ldV 50 true x4 h31) fun v32 =>
 K (.tuple #[v32, (.int .i64 0)]) h31) (
 bnd (faV 1 v7) fun v33 =>
 bnd (ldV 48 true v33 h22) fun v34 =>
 bnd (stV 48 x6 v34 h22) fun h35 =>
 bnd (binV .add x24 (.int .i64 1)) fun v36 =>
 again8 (tup [x2, x4, x6, v21, x22, x23, v36]) h35))

def S24_j1 (x1 x2 x4 : Value) (h : GH) (K : Value → GH → Prop)  : Prop :=
 bnd (ldV 48 true x2 h) fun v1 =>
 newV 69 (List.replicate 16 (.bool false) ++ List.replicate 32 (.int .i64 0)) h fun v2 h3 =>
 bnd (stV 48 v2 v1 h3) fun h4 =>
 bnd (lnV x1) fun v5 =>
 Lfp (fun (s6 : Nat → Value) h7 again8 =>
 bnd (binV .lss (s6 6) (s6 5)) fun v9 =>
 ifV v9 (
 bnd (isV 4 (s6 4) (s6 6)) fun v10 =>
 bnd (ldV 4 true v10 h7) fun v11 =>
 newV 50 [(.int .i64 0), (.int .i64 0), (.int .i64 0), (.int .i64 0)] h7 fun v12 h13 =>
 bnd (stV 4 v12 v11 h13) fun h14 =>
 bnd (faV 0 v12) fun v15 =>
 bnd (ldV 1 false v15 h14) fun v16 =>
 T Tryz.prog 52 [v16] h14 fun v17 h18 =>
 ifV v17 (
 S24_j2 s6 (s6 0) (s6 1) (s6 2) (s6 3) v12 (.func (.func 53) #[] #[]) (s6 4) (s6 5) (s6 6) h18 K again8) (
 S24_j2 s6 (s6 0) (s6 1) (s6 2) (s6 3) v12 (.func (.func 51) #[] #[]) (s6 4) (s6 5) (s6 6) h18 K again8)) (
 bnd (ldV 48 true (s6 2) h7) fun v19 =>
 bnd (fillV ([(.int .i64 0)] ++ List.replicate 16 (.bool false) ++ List.replicate 32 (.int .i64 0) ++ [(.slice none 0 0)]) [(0, 1, (.int .i64 (-1))), (1, 48, v19), (49, 1, (s6 3))]) fun c20 =>
 bnd (stV 50 (s6 1) (.agg c20.toArray) h7) fun h21 =>
 bnd (ldV 50 true (s6 1) h21) fun v22 =>
 K (.tuple #[v22, (.int .i64 0)]) h21)) (tup [x2, x4, v2, (.slice none 0 0), x1, v5, (.int .i64 0)]) h4
def S24 (a0 a1 : Value) (h : GH) (K : Value → GH → Prop) : Prop :=
 newV 69 (a0 : Value).cells.toList h fun v1 h2 =>
 newV 71 ([(.int .i64 0)] ++ List.replicate 16 (.bool false) ++ List.replicate 32 (.int .i64 0) ++ [(.slice none 0 0)]) h2 fun v3 h4 =>
 T Tryz.prog 49 [v1] h4 fun v5 h6 =>
 bnd (unV .not v5) fun v7 =>
 ifV v7 (
 bnd (fillV ([(.int .i64 0)] ++ List.replicate 16 (.bool false) ++ List.replicate 32 (.int .i64 0) ++ [(.slice none 0 0)]) []) fun c8 =>
 bnd (stV 50 v3 (.agg c8.toArray) h6) fun h9 =>
 bnd (ldV 50 true v3 h9) fun v10 =>
 K (.tuple #[v10, (.int .i64 700)]) h9) (
 T Tryz.prog 50 [a1] h6 fun v11 h12 =>
 bnd (unV .not v11) fun v13 =>
 ifV v13 (
 bnd (fillV ([(.int .i64 0)] ++ List.replicate 16 (.bool false) ++ List.replicate 32 (.int .i64 0) ++ [(.slice none 0 0)]) []) fun c14 =>
 bnd (stV 50 v3 (.agg c14.toArray) h12) fun h15 =>
 bnd (ldV 50 true v3 h15) fun v16 =>
 K (.tuple #[v16, (.int .i64 700)]) h15) (
 S24_j1 a1 v1 v3 h12 K ))
def A24 : Ann := ⟨fun _ => ([], []), fun | 0 => [2, 4, 6, 7, 22, 23, 24] | _ => []⟩
theorem S24_T {a0 a1 : Value} {h : GH} {K : Value → GH → Prop} (g : S24 a0 a1 h K) : T Tryz.prog 24 [a0, a1] h K :=
  T_of_gwp (A := A24) Tryz.func24 (c := bodyOf Tryz.f24) (by kernel_rfl) (by kernel_rfl) (by kernel_rfl) (by kernel_rfl) (by kernel_rfl) (Eq.mp (by kernel_rfl) g)

/-! ### pawl/epoch.ThreadMay (25) -/
def S25 (a0 : Value) (h : GH) (K : Value → GH → Prop) : Prop :=
 T Tryz.prog 26 [a0, (.int .i64 4)] h fun v1 h2 =>
 K v1 h2
def A25 : Ann := ⟨fun _ => ([], []), fun _ => []⟩
theorem S25_T {a0 : Value} {h : GH} {K : Value → GH → Prop} (g : S25 a0 h K) : T Tryz.prog 25 [a0] h K :=
  T_of_gwp (A := A25) Tryz.func25 (c := bodyOf Tryz.f25) (by kernel_rfl) (by kernel_rfl) (by kernel_rfl) (by kernel_rfl) (by kernel_rfl) (Eq.mp (by kernel_rfl) g)

/-! ### pawl/word.Below (26) -/
def S26 (a0 a1 : Value) (h : GH) (K : Value → GH → Prop) : Prop :=
 bnd (binV .geq a0 (.int .i64 0)) fun v1 =>
 ifV v1 (
 bnd (binV .lss a0 a1) fun v2 =>
 K v2 h) (
 K (.bool false) h)
def A26 : Ann := ⟨fun _ => ([], []), fun _ => []⟩
theorem S26_T {a0 a1 : Value} {h : GH} {K : Value → GH → Prop} (g : S26 a0 a1 h K) : T Tryz.prog 26 [a0, a1] h K :=
  T_of_gwp (A := A26) Tryz.func26 (c := bodyOf Tryz.f26) (by kernel_rfl) (by kernel_rfl) (by kernel_rfl) (by kernel_rfl) (by kernel_rfl) (Eq.mp (by kernel_rfl) g)

/-! ### pawl/desc.LifeMay (27) -/
def S27 (a0 a1 : Value) (h : GH) (K : Value → GH → Prop) : Prop :=
 T Tryz.prog 26 [a0, (.int .i64 12)] h fun v1 h2 =>
 ifV v1 (
 T Tryz.prog 26 [a1, (.int .i64 65536)] h2 fun v3 h4 =>
 K v3 h4) (
 K (.bool false) h2)
def A27 : Ann := ⟨fun _ => ([], []), fun _ => []⟩
theorem S27_T {a0 a1 : Value} {h : GH} {K : Value → GH → Prop} (g : S27 a0 a1 h K) : T Tryz.prog 27 [a0, a1] h K :=
  T_of_gwp (A := A27) Tryz.func27 (c := bodyOf Tryz.f27) (by kernel_rfl) (by kernel_rfl) (by kernel_rfl) (by kernel_rfl) (by kernel_rfl) (Eq.mp (by kernel_rfl) g)

/-! ### slices.Clone[[]pawl/api.Op,pawl/api.Op] (28) -/
def S28 (a0 : Value) (h : GH) (K : Value → GH → Prop) : Prop :=
 bnd (eqK .slice true a0 (.slice none 0 0)) fun b1 =>
 ifV (.bool b1) (
 K (.slice none 0 0) h) (
 bsV 50 0 [] [] h fun v2 h3 =>
 apV 50 4 32 v2 a0 h3 fun v4 h5 =>
 K v4 h5)
def A28 : Ann := ⟨fun _ => ([], []), fun _ => []⟩
theorem S28_T {a0 : Value} {h : GH} {K : Value → GH → Prop} (g : S28 a0 h K) : T Tryz.prog 28 [a0] h K :=
  T_of_gwp (A := A28) Tryz.func28 (c := bodyOf Tryz.f28) (by kernel_rfl) (by kernel_rfl) (by kernel_rfl) (by kernel_rfl) (by kernel_rfl) (Eq.mp (by kernel_rfl) g)

/-! ### (*pawl/attempt.Attempt).asked (29) -/
def S29 (a0 : Value) (h : GH) (K : Value → GH → Prop) : Prop :=
 bnd (ncV a0) fun v1 =>
 bnd (faV 5 v1) fun v2 =>
 bnd (faV 0 v2) fun v3 =>
 bnd (ldV 1 false v3 h) fun v4 =>
 bnd (binV .geq v4 (.int .i64 0)) fun v5 =>
 ifV v5 (
 bnd (ncV a0) fun v6 =>
 bnd (faV 0 v6) fun v7 =>
 bnd (ldV 1 false v7 h) fun v8 =>
 bnd (ncV a0) fun v9 =>
 bnd (faV 1 v9) fun v10 =>
 bnd (ldV 1 false v10 h) fun v11 =>
 bnd (ncV a0) fun v12 =>
 bnd (faV 5 v12) fun v13 =>
 bnd (faV 0 v13) fun v14 =>
 bnd (ldV 1 false v14 h) fun v15 =>
 T Tryz.prog 54 [v8, v11, v15] h fun v16 h17 =>
 bnd (exV v16 0) fun v18 =>
 bnd (exV v16 1) fun v19 =>
 K (.iface 88 v18) h17) (
 bnd (ncV a0) fun v20 =>
 bnd (faV 5 v20) fun v21 =>
 bnd (faV 49 v21) fun v22 =>
 bnd (ldV 1 false v22 h) fun v23 =>
 bnd (ncV a0) fun v24 =>
 bnd (faV 60 v24) fun v25 =>
 bnd (stV 1 v25 v23 h) fun h26 =>
 bnd (ncV a0) fun v27 =>
 bnd (faV 2 v27) fun v28 =>
 bnd (faV 0 v28) fun v29 =>
 bnd (ldV 1 false v29 h26) fun v30 =>
 bnd (ncV a0) fun v31 =>
 bnd (faV 2 v31) fun v32 =>
 bnd (faV 1 v32) fun v33 =>
 bnd (ldV 1 false v33 h26) fun v34 =>
 bnd (ncV a0) fun v35 =>
 bnd (faV 5 v35) fun v36 =>
 bnd (faV 1 v36) fun v37 =>
 bnd (ldV 48 true v37 h26) fun v38 =>
 T Tryz.prog 56 [v38] h26 fun v39 h40 =>
 ldV 1 false v33 h40 = some v34 ∧
 ldV 1 false v29 h40 = some v30 ∧
 T Tryz.prog 55 [v30, v34, v39] h40 fun v41 h42 =>
 bnd (exV v41 0) fun v43 =>
 bnd (exV v41 1) fun v44 =>
 K (.iface 90 v43) h42)
def A29 : Ann := ⟨fun | 2 => ([0, 1, 2, 3, 4, 5, 6, 7, 8, 9, 10, 11, 12, 13, 14, 15, 16, 17, 18], [0, 1, 3, 7, 0, 16, 48, 112, 0, 256, 768, 1792, 3840, 8191, 16383, 32767, 32767, 65535, 262143]) | 5 => ([0, 1, 2, 3, 4, 5, 6, 7, 8, 9, 10, 11, 12, 13, 14, 15, 16, 17, 18, 19, 20, 21], [0, 1, 3, 7, 15, 0, 32, 96, 224, 480, 0, 1024, 3072, 7168, 15360, 31744, 65535, 131071, 262143, 262143, 524287, 2097151]) | _ => ([], []), fun _ => []⟩
theorem S29_T {a0 : Value} {h : GH} {K : Value → GH → Prop} (g : S29 a0 h K) : T Tryz.prog 29 [a0] h K :=
  T_of_gwp (A := A29) Tryz.func29 (c := bodyOf Tryz.f29) (by kernel_rfl) (by kernel_rfl) (by kernel_rfl) (by kernel_rfl) (by kernel_rfl) (Eq.mp (by kernel_rfl) g)

/-! ### (*pawl/attempt.Attempt).known (30) -/
def S30 (a0 a1 : Value) (h : GH) (K : Value → GH → Prop) : Prop :=
 bnd (ncV a0) fun v1 =>
 bnd (faV 5 v1) fun v2 =>
 bnd (faV 1 v2) fun v3 =>
 bnd (ldV 48 true v3 h) fun v4 =>
 newV 69 (List.replicate 16 (.bool false) ++ List.replicate 32 (.int .i64 0)) h fun v5 h6 =>
 bnd (stV 48 v5 v4 h6) fun h7 =>
 bnd (faV 0 v5) fun v8 =>
 bnd (faV 16 v5) fun v9 =>
 bnd (faV 32 v5) fun v10 =>
 T Tryz.prog 58 [a1] h7 fun v11 h12 =>
 bnd (iaV 16 1 v8 v11) fun v13 =>
 T Tryz.prog 58 [a1] h12 fun v14 h15 =>
 T Tryz.prog 58 [a1] h15 fun v16 h17 =>
 T Tryz.prog 57 [a1] h17 fun v18 h19 =>
 T Tryz.prog 57 [a1] h19 fun v20 h21 =>
 bnd (stV 1 v13 (.bool true) h21) fun h22 =>
 bnd (iaV 16 1 v9 v14) fun v23 =>
 bnd (stV 1 v23 v18 h22) fun h24 =>
 bnd (iaV 16 1 v10 v16) fun v25 =>
 bnd (stV 1 v25 v20 h24) fun h26 =>
 bnd (ldV 48 true v5 h26) fun v27 =>
 bnd (ncV a0) fun v28 =>
 bnd (faV 4 v28) fun v29 =>
 bnd (ldV 1 false v29 h26) fun v30 =>
 T Tryz.prog 24 [v27, v30] h26 fun v31 h32 =>
 bnd (exV v31 0) fun v33 =>
 bnd (exV v31 1) fun v34 =>
 bnd (ncV a0) fun v35 =>
 bnd (faV 5 v35) fun v36 =>
 bnd (stV 50 v36 v33 h32) fun h37 =>
 T Tryz.prog 29 [a0] h37 fun v38 h39 =>
 bnd (ncV a0) fun v40 =>
 bnd (faV 55 v40) fun v41 =>
 bnd (stV 1 v41 v38 h39) fun h42 =>
 K (.tuple #[]) h42
def A30 : Ann := ⟨fun | 1 => ([0, 2, 4, 6, 8, 10, 13, 16, 1, 11, 3, 5, 7, 9, 12, 14, 15, 17, 18], [0, 1, 0, 7, 0, 31, 0, 127, 0, 511, 0, 1027, 4095, 0, 16383, 32767, 0, 131071, 262143]) | 2 => ([0, 1, 2, 3, 4, 5, 6, 7, 8, 9, 10, 11, 12], [0, 0, 0, 4, 12, 28, 62, 126, 254, 254, 511, 1535, 3583]) | _ => ([], []), fun _ => []⟩
theorem S30_T {a0 a1 : Value} {h : GH} {K : Value → GH → Prop} (g : S30 a0 a1 h K) : T Tryz.prog 30 [a0, a1] h K :=
  T_of_gwp (A := A30) Tryz.func30 (c := bodyOf Tryz.f30) (by kernel_rfl) (by kernel_rfl) (by kernel_rfl) (by kernel_rfl) (by kernel_rfl) (Eq.mp (by kernel_rfl) g)

/-! ### pawl/mcas.New (31) -/
def S31_j1 (x8 x9 : Value) (h : GH) (K : Value → GH → Prop)  : Prop :=
 bsV 133 1 [.nilIface] [(0, 1, x9)] h fun v1 h2 =>
 bnd (ncV x8) fun v3 =>
 bnd (faV 2 v3) fun v4 =>
 bnd (stV 1 v4 v1 h2) fun h5 =>
 K (.tuple #[x8, (.int .i64 0)]) h5
def S31 (a0 a1 a2 : Value) (h : GH) (K : Value → GH → Prop) : Prop :=
 bnd (fillV [(.int .i64 0), (.int .i64 0)] [(0, 1, a0), (1, 1, a1)]) fun c1 =>
 bnd (fillV [(.int .i64 0), (.int .i64 0), (.slice none 0 0), (.pointer none), (.bool false), (.bool false)] [(0, 2, (.agg c1.toArray))]) fun c2 =>
 newV 131 ((.agg c2.toArray) : Value).cells.toList h fun v3 h4 =>
 bnd (ncV v3) fun v5 =>
 bnd (faV 0 v5) fun v6 =>
 T Tryz.prog 60 [a2] h4 fun v7 h8 =>
 T Tryz.prog 59 [v7, v6] h8 fun v9 h10 =>
 T Tryz.prog 25 [a0] h10 fun v11 h12 =>
 bnd (unV .not v11) fun v13 =>
 ifV v13 (
 K (.tuple #[(.pointer none), (.int .i64 1400)]) h12) (
 T Tryz.prog 26 [a1, (.int .i64 1048576)] h12 fun v14 h15 =>
 bnd (unV .not v14) fun v16 =>
 ifV v16 (
 K (.tuple #[(.pointer none), (.int .i64 1400)]) h15) (
 bnd (eqK .iface true v9 .nilIface) fun b17 =>
 ifV (.bool b17) (
 K (.tuple #[(.pointer none), (.int .i64 1400)]) h15) (
 S31_j1 v3 v9 h15 K )))
def A31 : Ann := ⟨fun | 2 => ([0, 2, 3, 4, 1, 5, 6], [0, 1, 0, 4, 12, 31, 63]) | _ => ([], []), fun _ => []⟩
theorem S31_T {a0 a1 a2 : Value} {h : GH} {K : Value → GH → Prop} (g : S31 a0 a1 a2 h K) : T Tryz.prog 31 [a0, a1, a2] h K :=
  T_of_gwp (A := A31) Tryz.func31 (c := bodyOf Tryz.f31) (by kernel_rfl) (by kernel_rfl) (by kernel_rfl) (by kernel_rfl) (by kernel_rfl) (Eq.mp (by kernel_rfl) g)

/-! ### pawl/word.Number (32) -/
def S32 (a0 : Value) (h : GH) (K : Value → GH → Prop) : Prop :=
 ivV Tryz.prog a0 "pawl/word.number" [] h fun v1 h2 =>
 K v1 h2
def A32 : Ann := ⟨fun _ => ([], []), fun _ => []⟩
theorem S32_T {a0 : Value} {h : GH} {K : Value → GH → Prop} (g : S32 a0 h K) : T Tryz.prog 32 [a0] h K :=
  T_of_gwp (A := A32) Tryz.func32 (c := bodyOf Tryz.f32) (by kernel_rfl) (by kernel_rfl) (by kernel_rfl) (by kernel_rfl) (by kernel_rfl) (Eq.mp (by kernel_rfl) g)

/-! ### (*pawl/mcas.Help).Won (33) -/
def S33 (a0 : Value) (h : GH) (K : Value → GH → Prop) : Prop :=
 bnd (eqK .ptr true a0 (.pointer none)) fun b1 =>
 ifV (.bool (!b1)) (
 bnd (ncV a0) fun v2 =>
 bnd (faV 4 v2) fun v3 =>
 bnd (ldV 1 false v3 h) fun v4 =>
 K v4 h) (
 K (.bool false) h)
def A33 : Ann := ⟨fun _ => ([], []), fun _ => []⟩
theorem S33_T {a0 : Value} {h : GH} {K : Value → GH → Prop} (g : S33 a0 h K) : T Tryz.prog 33 [a0] h K :=
  T_of_gwp (A := A33) Tryz.func33 (c := bodyOf Tryz.f33) (by kernel_rfl) (by kernel_rfl) (by kernel_rfl) (by kernel_rfl) (by kernel_rfl) (Eq.mp (by kernel_rfl) g)

/-! ### slices.Clone[[]int,int] (34) -/
def S34 (a0 : Value) (h : GH) (K : Value → GH → Prop) : Prop :=
 bnd (eqK .slice true a0 (.slice none 0 0)) fun b1 =>
 ifV (.bool b1) (
 K (.slice none 0 0) h) (
 bsV 3 0 [] [] h fun v2 h3 =>
 apV 3 1 8 v2 a0 h3 fun v4 h5 =>
 K v4 h5)
def A34 : Ann := ⟨fun _ => ([], []), fun _ => []⟩
theorem S34_T {a0 : Value} {h : GH} {K : Value → GH → Prop} (g : S34 a0 h K) : T Tryz.prog 34 [a0] h K :=
  T_of_gwp (A := A34) Tryz.func34 (c := bodyOf Tryz.f34) (by kernel_rfl) (by kernel_rfl) (by kernel_rfl) (by kernel_rfl) (by kernel_rfl) (Eq.mp (by kernel_rfl) g)

/-! ### pawl/pawlref1.Full (35) -/
def S35_j1 (s10 : Nat → Value) (x0 x2 x4 x5 : Value) (h : GH) (K : Value → GH → Prop) (again12 : (Nat → Value) → GH → Prop) : Prop :=
 bnd (faV 0 x4) fun v1 =>
 bnd (iaV 16 1 v1 x5) fun v2 =>
 bnd (stV 1 v2 (.bool true) h) fun h3 =>
 bnd (isV 1 x0 x5) fun v4 =>
 bnd (ldV 1 false v4 h3) fun v5 =>
 bnd (faV 16 x4) fun v6 =>
 bnd (iaV 16 1 v6 x5) fun v7 =>
 bnd (stV 1 v7 v5 h3) fun h8 =>
 bnd (isV 1 x0 x5) fun v9 =>
 bnd (ldV 1 false v9 h8) fun v10 =>
 bnd (faV 32 x4) fun v11 =>
 bnd (iaV 16 1 v11 x5) fun v12 =>
 bnd (stV 1 v12 v10 h8) fun h13 =>
 bnd (binV .add x5 (.int .i64 1)) fun v14 =>
 again12 (tup [x0, x2, x4, v14]) h13
def S35 (a0 : Value) (h : GH) (K : Value → GH → Prop) : Prop :=
 newV 69 (List.replicate 16 (.bool false) ++ List.replicate 32 (.int .i64 0)) h fun v1 h2 =>
 newV 69 (List.replicate 16 (.bool false) ++ List.replicate 32 (.int .i64 0)) h2 fun v3 h4 =>
 bnd (lnV a0) fun v5 =>
 bnd (eqI v5 (.int .i64 16)) fun b6 =>
 ifV (.bool (!b6)) (
 bnd (ldV 48 true v3 h4) fun v7 =>
 bnd (stV 48 v1 v7 h4) fun h8 =>
 bnd (ldV 48 true v1 h8) fun v9 =>
 K (.tuple #[v9, (.int .i64 400)]) h8) (
 Lfp (fun (s10 : Nat → Value) h11 again12 =>
 bnd (binV .lss (s10 3) (.int .i64 16)) fun v13 =>
 ifV v13 (
 bnd (isV 1 (s10 0) (s10 3)) fun v14 =>
 bnd (ldV 1 false v14 h11) fun v15 =>
 bnd (binV .lss v15 (.int .i64 0)) fun v16 =>
 ifV v16 (
 bnd (fillV (List.replicate 16 (.bool false) ++ List.replicate 32 (.int .i64 0)) []) fun c17 =>
 bnd (stV 48 (s10 1) (.agg c17.toArray) h11) fun h18 =>
 bnd (ldV 48 true (s10 1) h18) fun v19 =>
 K (.tuple #[v19, (.int .i64 400)]) h18) (
 bnd (isV 1 (s10 0) (s10 3)) fun v20 =>
 bnd (ldV 1 false v20 h11) fun v21 =>
 bnd (binV .gtr v21 (.int .i64 1099511627775)) fun v22 =>
 ifV v22 (
 bnd (fillV (List.replicate 16 (.bool false) ++ List.replicate 32 (.int .i64 0)) []) fun c23 =>
 bnd (stV 48 (s10 1) (.agg c23.toArray) h11) fun h24 =>
 bnd (ldV 48 true (s10 1) h24) fun v25 =>
 K (.tuple #[v25, (.int .i64 400)]) h24) (
 S35_j1 s10 (s10 0) (s10 1) (s10 2) (s10 3) h11 K again12))) (
 bnd (ldV 48 true (s10 2) h11) fun v26 =>
 bnd (stV 48 (s10 1) v26 h11) fun h27 =>
 bnd (ldV 48 true (s10 1) h27) fun v28 =>
 K (.tuple #[v28, (.int .i64 0)]) h27)) (tup [a0, v1, v3, (.int .i64 0)]) h4)
def A35 : Ann := ⟨fun _ => ([], []), fun | 0 => [0, 2, 4, 5] | _ => []⟩
theorem S35_T {a0 : Value} {h : GH} {K : Value → GH → Prop} (g : S35 a0 h K) : T Tryz.prog 35 [a0] h K :=
  T_of_gwp (A := A35) Tryz.func35 (c := bodyOf Tryz.f35) (by kernel_rfl) (by kernel_rfl) (by kernel_rfl) (by kernel_rfl) (by kernel_rfl) (Eq.mp (by kernel_rfl) g)

/-! ### pawl/pawlref1.Body (36) -/
def S36_j2 (s1 : Nat → Value) (x1 x2 x4 x7 : Value) (h : GH) (K : Value → GH → Prop) (again3 : (Nat → Value) → GH → Prop) : Prop :=
 bnd (isV 4 x1 x7) fun v1 =>
 bnd (ldV 4 true v1 h) fun v2 =>
 T Tryz.prog 62 [v2] h fun v3 h4 =>
 bnd (binV .add x7 (.int .i64 1)) fun v5 =>
 again3 (tup [x1, x2, x4, v3, v5]) h4

def S36_j3 (s1 : Nat → Value) (x1 x2 x4 x6 : Value) (h : GH) (K : Value → GH → Prop) (again3 : (Nat → Value) → GH → Prop) : Prop :=
 bnd (unV .not x6) fun v1 =>
 ifV v1 (
 bnd (fillV ([(.int .i64 0)] ++ List.replicate 16 (.bool false) ++ List.replicate 32 (.int .i64 0) ++ [(.slice none 0 0)]) []) fun c2 =>
 bnd (stV 50 x4 (.agg c2.toArray) h) fun h3 =>
 bnd (ldV 50 true x4 h3) fun v4 =>
 K (.tuple #[v4, (.int .i64 700)]) h3) (
 bnd (ldV 48 true x2 h) fun v5 =>
 newV 69 (List.replicate 16 (.bool false) ++ List.replicate 32 (.int .i64 0)) h fun v6 h7 =>
 bnd (stV 48 v6 v5 h7) fun h8 =>
 Lfp (fun (s9 : Nat → Value) h10 again11 =>
 bnd (lnV (s9 0)) fun v12 =>
 bnd (binV .lss (s9 5) v12) fun v13 =>
 ifV v13 (
 bnd (ldV 48 true (s9 3) h10) fun v14 =>
 bnd (isV 4 (s9 0) (s9 5)) fun v15 =>
 bnd (ldV 4 true v15 h10) fun v16 =>
 T Tryz.prog 63 [v14, v16] h10 fun v17 h18 =>
 newV 71 ([(.int .i64 0)] ++ List.replicate 16 (.bool false) ++ List.replicate 32 (.int .i64 0) ++ [(.slice none 0 0)]) h18 fun v19 h20 =>
 bnd (stV 50 v19 v17 h20) fun h21 =>
 bnd (faV 0 v19) fun v22 =>
 bnd (ldV 1 false v22 h21) fun v23 =>
 bnd (binV .geq v23 (.int .i64 0)) fun v24 =>
 ifV v24 (
 bnd (faV 0 v19) fun v25 =>
 bnd (ldV 1 false v25 h21) fun v26 =>
 bnd (ldV 48 true (s9 1) h21) fun v27 =>
 bnd (fillV ([(.int .i64 0)] ++ List.replicate 16 (.bool false) ++ List.replicate 32 (.int .i64 0) ++ [(.slice none 0 0)]) [(0, 1, v26), (1, 48, v27)]) fun c28 =>
 bnd (stV 50 (s9 2) (.agg c28.toArray) h21) fun h29 =>
 bnd (ldV 50 true (s9 2) h29) fun v30 =>
 K (.tuple #[v30, (.int .i64 0)]) h29) (
 bnd (faV 49 v19) fun v31 =>
 bnd (ldV 1 false v31 h21) fun v32 =>
 apV 55 2 16 (s9 4) v32 h21 fun v33 h34 =>
 bnd (faV 49 v19) fun v35 =>
 bnd (ldV 1 false v35 h34) fun v36 =>
 bnd (isV 2 v36 (.int .i64 0)) fun v37 =>
 bnd (faV 0 v37) fun v38 =>
 bnd (ldV 1 false v38 h34) fun v39 =>
 bnd (eqI v39 (.int .i64 0)) fun b40 =>
 ifV (.bool (!b40)) (
 bnd (ldV 48 true (s9 1) h34) fun v41 =>
 bnd (fillV ([(.int .i64 0)] ++ List.replicate 16 (.bool false) ++ List.replicate 32 (.int .i64 0) ++ [(.slice none 0 0)]) [(0, 1, (.int .i64 (-1))), (1, 48, v41), (49, 1, v33)]) fun c42 =>
 bnd (stV 50 (s9 2) (.agg c42.toArray) h34) fun h43 =>
 bnd (ldV 50 true (s9 2) h43) fun v44 =>
 K (.tuple #[v44, (.int .i64 0)]) h43) (
 bnd (faV 1 v19) fun v45 =>
 bnd (ldV 48 true v45 h34) fun v46 =>
 bnd (stV 48 (s9 3) v46 h34) fun h47 =>
 bnd (binV .add (s9 5) (.int .i64 1)) fun v48 =>
 again11 (tup [(s9 0), (s9 1), (s9 2), (s9 3), v33, v48]) h47))) (
 bnd (ldV 48 true (s9 3) h10) fun v49 =>
 bnd (fillV ([(.int .i64 0)] ++ List.replicate 16 (.bool false) ++ List.replicate 32 (.int .i64 0) ++ [(.slice none 0 0)]) [(0, 1, (.int .i64 (-1))), (1, 48, v49), (49, 1, (s9 4))]) fun c50 =>
 bnd (stV 50 (s9 2) (.agg c50.toArray) h10) fun h51 =>
 bnd (ldV 50 true (s9 2) h51) fun v52 =>
 K (.tuple #[v52, (.int .i64 0)]) h51)) (tup [x1, x2, x4, v6, (.slice none 0 0), (.int .i64 0)]) h8)

def S36_j1 (x1 x2 x4 x6 : Value) (h : GH) (K : Value → GH → Prop)  : Prop :=
 Lfp (fun (s1 : Nat → Value) h2 again3 =>
 bnd (lnV (s1 0)) fun v4 =>
 bnd (binV .lss (s1 4) v4) fun v5 =>
 ifV v5 (
 ifV (s1 3) (
 S36_j2 s1 (s1 0) (s1 1) (s1 2) (s1 4) h2 K again3) (
 S36_j3 s1 (s1 0) (s1 1) (s1 2) (s1 3) h2 K again3)) (
 S36_j3 s1 (s1 0) (s1 1) (s1 2) (s1 3) h2 K again3)) (tup [x1, x2, x4, x6, (.int .i64 0)]) h
def S36 (a0 a1 : Value) (h : GH) (K : Value → GH → Prop) : Prop :=
 newV 69 (a0 : Value).cells.toList h fun v1 h2 =>
 newV 71 ([(.int .i64 0)] ++ List.replicate 16 (.bool false) ++ List.replicate 32 (.int .i64 0) ++ [(.slice none 0 0)]) h2 fun v3 h4 =>
 bnd (ldV 48 true v1 h4) fun v5 =>
 T Tryz.prog 61 [v5] h4 fun v6 h7 =>
 ifV v6 (
 bnd (lnV a1) fun v8 =>
 bnd (binV .geq v8 (.int .i64 1)) fun v9 =>
 ifV v9 (
 bnd (lnV a1) fun v10 =>
 bnd (binV .leq v10 (.int .i64 2)) fun v11 =>
 S36_j1 a1 v1 v3 v11 h7 K ) (
 S36_j1 a1 v1 v3 (.bool false) h7 K )) (
 S36_j1 a1 v1 v3 (.bool false) h7 K )
def A36 : Ann := ⟨fun | 13 => ([0, 1, 2, 3, 4, 5, 6, 7], [0, 0, 0, 6, 14, 31, 0, 127]) | _ => ([], []), fun | 0 => [1, 2, 4, 6, 7] | 2 => [1, 2, 4, 8, 9, 10] | _ => []⟩
theorem S36_T {a0 a1 : Value} {h : GH} {K : Value → GH → Prop} (g : S36 a0 a1 h K) : T Tryz.prog 36 [a0, a1] h K :=
  T_of_gwp (A := A36) Tryz.func36 (c := bodyOf Tryz.f36) (by kernel_rfl) (by kernel_rfl) (by kernel_rfl) (by kernel_rfl) (by kernel_rfl) (Eq.mp (by kernel_rfl) g)

/-! ### slices.Clone[[]pawl/api.Answer,pawl/api.Answer] (37) -/
def S37 (a0 : Value) (h : GH) (K : Value → GH → Prop) : Prop :=
 bnd (eqK .slice true a0 (.slice none 0 0)) fun b1 =>
 ifV (.bool b1) (
 K (.slice none 0 0) h) (
 bsV 55 0 [] [] h fun v2 h3 =>
 apV 55 2 16 v2 a0 h3 fun v4 h5 =>
 K v4 h5)
def A37 : Ann := ⟨fun _ => ([], []), fun _ => []⟩
theorem S37_T {a0 : Value} {h : GH} {K : Value → GH → Prop} (g : S37 a0 h K) : T Tryz.prog 37 [a0] h K :=
  T_of_gwp (A := A37) Tryz.func37 (c := bodyOf Tryz.f37) (by kernel_rfl) (by kernel_rfl) (by kernel_rfl) (by kernel_rfl) (by kernel_rfl) (Eq.mp (by kernel_rfl) g)

/-! ### (*pawl/arena.Arena).touch (38) -/
def S38 (a0 a1 a2 a3 : Value) (h : GH) (K : Value → GH → Prop) : Prop :=
 bnd (eqK .ptr true a0 (.pointer none)) fun b1 =>
 ifV (.bool b1) (
 K (.tuple #[(.int .i64 0), (.int .i64 1)]) h) (
 T Tryz.prog 26 [a2, (.int .i64 634)] h fun v2 h3 =>
 bnd (unV .not v2) fun v4 =>
 ifV v4 (
 K (.tuple #[(.int .i64 0), (.int .i64 200)]) h3) (
 bnd (ncV a0) fun v5 =>
 bnd (faV 0 v5) fun v6 =>
 bnd (iaV 634 1 v6 a2) fun v7 =>
 bnd (ldV 1 false v7 h3) fun v8 =>
 bnd (ncV a0) fun v9 =>
 bnd (faV 0 v9) fun v10 =>
 callV Tryz.prog a3 [v8] h3 fun v11 h12 =>
 bnd (iaV 634 1 v10 a2) fun v13 =>
 bnd (stV 1 v13 v11 h12) fun h14 =>
 bnd (ncV a0) fun v15 =>
 bnd (faV 0 v15) fun v16 =>
 bnd (iaV 634 1 v16 a2) fun v17 =>
 bnd (ldV 1 false v17 h14) fun v18 =>
 bnd (fillV [(.int .i64 0), (.int .i64 0), (.int .i64 0), (.int .i64 0), (.int .i64 0), (.int .i64 0), (.int .i64 0), (.int .i64 0)] [(1, 1, a1), (2, 1, a2), (3, 1, v8), (4, 1, v18)]) fun c19 =>
 bnd (ncV a0) fun v20 =>
 bnd (faV 634 v20) fun v21 =>
 bnd (stV 8 v21 (.agg c19.toArray) h14) fun h22 =>
 bnd (ncV a0) fun v23 =>
 bnd (faV 642 v23) fun v24 =>
 bnd (stV 1 v24 (.bool true) h22) fun h25 =>
 K (.tuple #[v8, (.int .i64 0)]) h25))
def A38 : Ann := ⟨fun | 6 => ([0, 1, 2, 3, 5, 6, 4, 7, 8], [0, 0, 0, 0, 12, 1, 33, 127, 255]) | _ => ([], []), fun _ => []⟩
theorem S38_T {a0 a1 a2 a3 : Value} {h : GH} {K : Value → GH → Prop} (g : S38 a0 a1 a2 a3 h K) : T Tryz.prog 38 [a0, a1, a2, a3] h K :=
  T_of_gwp (A := A38) Tryz.func38 (c := bodyOf Tryz.f38) (by kernel_rfl) (by kernel_rfl) (by kernel_rfl) (by kernel_rfl) (by kernel_rfl) (Eq.mp (by kernel_rfl) g)

/-! ### (*pawl/arena.Arena).Load$1 (39) -/
def S39 (a0 : Value) (h : GH) (K : Value → GH → Prop) : Prop :=
 K a0 h
def A39 : Ann := ⟨fun _ => ([], []), fun _ => []⟩
theorem S39_T {a0 : Value} {h : GH} {K : Value → GH → Prop} (g : S39 a0 h K) : T Tryz.prog 39 [a0] h K :=
  T_of_gwp (A := A39) Tryz.func39 (c := bodyOf Tryz.f39) (by kernel_rfl) (by kernel_rfl) (by kernel_rfl) (by kernel_rfl) (by kernel_rfl) (Eq.mp (by kernel_rfl) g)

/-! ### pawl/arena.New (40) -/
def S40 (h : GH) (K : Value → GH → Prop) : Prop :=
 bnd (fillV (List.replicate 642 (.int .i64 0) ++ [(.bool false)]) []) fun c1 =>
 newV 98 ((.agg c1.toArray) : Value).cells.toList h fun v2 h3 =>
 bnd (ncV v2) fun v4 =>
 bnd (faV 0 v4) fun v5 =>
 T Tryz.prog 64 [(.int .i64 1)] h3 fun v6 h7 =>
 bnd (iaV 634 1 v5 (.int .i64 16)) fun v8 =>
 bnd (stV 1 v8 v6 h7) fun h9 =>
 Lfp (fun (s10 : Nat → Value) h11 again12 =>
 bnd (binV .lss (s10 1) (.int .i64 11)) fun v13 =>
 ifV v13 (
 bnd (binV .add (.int .i64 17) (s10 1)) fun v14 =>
 bnd (binV .add (s10 1) (.int .i64 2)) fun v15 =>
 bnd (ncV (s10 0)) fun v16 =>
 bnd (faV 0 v16) fun v17 =>
 T Tryz.prog 64 [v15] h11 fun v18 h19 =>
 bnd (iaV 634 1 v17 v14) fun v20 =>
 bnd (stV 1 v20 v18 h19) fun h21 =>
 bnd (binV .add (s10 1) (.int .i64 1)) fun v22 =>
 again12 (tup [(s10 0), v22]) h21) (
 K (s10 0) h11)) (tup [v2, (.int .i64 0)]) h9
def A40 : Ann := ⟨fun | 2 => ([0, 2, 3, 1, 4, 5], [0, 0, 1, 5, 15, 31]) | 6 => ([0, 1, 2, 3, 4, 6, 7, 5, 8, 9], [0, 0, 2, 0, 8, 24, 1, 65, 255, 511]) | _ => ([], []), fun | 0 => [1, 10] | _ => []⟩
theorem S40_T {h : GH} {K : Value → GH → Prop} (g : S40 h K) : T Tryz.prog 40 [] h K :=
  T_of_gwp (A := A40) Tryz.func40 (c := bodyOf Tryz.f40) (by kernel_rfl) (by kernel_rfl) (by kernel_rfl) (by kernel_rfl) (by kernel_rfl) (Eq.mp (by kernel_rfl) g)

/-! ### pawl/pawlref1.NewArena (41) -/
def S41 (h : GH) (K : Value → GH → Prop) : Prop :=
 bnd (fillV (List.replicate 642 (.int .i64 0) ++ [(.bool false)]) []) fun c1 =>
 newV 116 ((.agg c1.toArray) : Value).cells.toList h fun v2 h3 =>
 bnd (ncV v2) fun v4 =>
 bnd (faV 0 v4) fun v5 =>
 T Tryz.prog 47 [(.int .i64 1)] h3 fun v6 h7 =>
 bnd (iaV 634 1 v5 (.int .i64 16)) fun v8 =>
 bnd (stV 1 v8 v6 h7) fun h9 =>
 Lfp (fun (s10 : Nat → Value) h11 again12 =>
 bnd (binV .add (s10 1) (.int .i64 1)) fun v13 =>
 bnd (binV .lss v13 (.int .i64 12)) fun v14 =>
 ifV v14 (
 bnd (binV .add (.int .i64 17) (s10 1)) fun v15 =>
 bnd (binV .add (s10 1) (.int .i64 2)) fun v16 =>
 bnd (ncV (s10 0)) fun v17 =>
 bnd (faV 0 v17) fun v18 =>
 T Tryz.prog 47 [v16] h11 fun v19 h20 =>
 bnd (iaV 634 1 v18 v15) fun v21 =>
 bnd (stV 1 v21 v19 h20) fun h22 =>
 bnd (binV .add (s10 1) (.int .i64 1)) fun v23 =>
 again12 (tup [(s10 0), v23]) h22) (
 K (s10 0) h11)) (tup [v2, (.int .i64 0)]) h9
def A41 : Ann := ⟨fun | 2 => ([0, 2, 3, 1, 4, 5], [0, 0, 1, 5, 15, 31]) | 6 => ([0, 1, 2, 3, 4, 6, 7, 5, 8, 9], [0, 0, 2, 0, 8, 24, 1, 65, 255, 511]) | _ => ([], []), fun | 0 => [1, 2] | _ => []⟩
theorem S41_T {h : GH} {K : Value → GH → Prop} (g : S41 h K) : T Tryz.prog 41 [] h K :=
  T_of_gwp (A := A41) Tryz.func41 (c := bodyOf Tryz.f41) (by kernel_rfl) (by kernel_rfl) (by kernel_rfl) (by kernel_rfl) (by kernel_rfl) (Eq.mp (by kernel_rfl) g)

/-! ### (*pawl/arena.Arena).Store$1 (42) -/
def S42 (a0 a1 : Value) (h : GH) (K : Value → GH → Prop) : Prop :=
 bnd (ldV 1 false a1 h) fun v1 =>
 K v1 h
def A42 : Ann := ⟨fun _ => ([], []), fun _ => []⟩
theorem S42_T {a0 a1 : Value} {h : GH} {K : Value → GH → Prop} (g : S42 a0 a1 h K) : T Tryz.prog 42 [a0, a1] h K :=
  T_of_gwp (A := A42) Tryz.func42 (c := bodyOf Tryz.f42) (by kernel_rfl) (by kernel_rfl) (by kernel_rfl) (by kernel_rfl) (by kernel_rfl) (Eq.mp (by kernel_rfl) g)

/-! ### (*pawl/pawlref1.Arena).touch (43) -/
def S43_j1 (x0 x1 x2 x3 : Value) (h : GH) (K : Value → GH → Prop)  : Prop :=
 bnd (ncV x0) fun v1 =>
 bnd (faV 0 v1) fun v2 =>
 bnd (iaV 634 1 v2 x2) fun v3 =>
 bnd (ldV 1 false v3 h) fun v4 =>
 bnd (fillV [(.int .i64 0), (.int .i64 0), (.int .i64 0), (.int .i64 0), (.int .i64 0), (.int .i64 0), (.int .i64 0), (.int .i64 0)] [(1, 1, x1), (2, 1, x2), (3, 1, v4), (4, 1, x3)]) fun c5 =>
 bnd (ncV x0) fun v6 =>
 bnd (faV 634 v6) fun v7 =>
 bnd (stV 8 v7 (.agg c5.toArray) h) fun h8 =>
 bnd (ncV x0) fun v9 =>
 bnd (faV 642 v9) fun v10 =>
 bnd (stV 1 v10 (.bool true) h8) fun h11 =>
 bnd (ncV x0) fun v12 =>
 bnd (faV 0 v12) fun v13 =>
 bnd (iaV 634 1 v13 x2) fun v14 =>
 bnd (stV 1 v14 x3 h11) fun h15 =>
 K (.tuple #[v4, (.int .i64 0)]) h15
def S43 (a0 a1 a2 a3 : Value) (h : GH) (K : Value → GH → Prop) : Prop :=
 bnd (binV .lss a2 (.int .i64 0)) fun v1 =>
 ifV v1 (
 K (.tuple #[(.int .i64 0), (.int .i64 200)]) h) (
 bnd (binV .geq a2 (.int .i64 634)) fun v2 =>
 ifV v2 (
 K (.tuple #[(.int .i64 0), (.int .i64 200)]) h) (
 S43_j1 a0 a1 a2 a3 h K ))
def A43 : Ann := ⟨fun _ => ([], []), fun _ => []⟩
theorem S43_T {a0 a1 a2 a3 : Value} {h : GH} {K : Value → GH → Prop} (g : S43 a0 a1 a2 a3 h K) : T Tryz.prog 43 [a0, a1, a2, a3] h K :=
  T_of_gwp (A := A43) Tryz.func43 (c := bodyOf Tryz.f43) (by kernel_rfl) (by kernel_rfl) (by kernel_rfl) (by kernel_rfl) (by kernel_rfl) (Eq.mp (by kernel_rfl) g)

/-! ### pawl/pawlref10.lifeMay (44) -/
def S44 (a0 a1 : Value) (h : GH) (K : Value → GH → Prop) : Prop :=
 bnd (binV .geq a0 (.int .i64 0)) fun v1 =>
 ifV v1 (
 bnd (binV .lss a0 (.int .i64 12)) fun v2 =>
 ifV v2 (
 bnd (binV .geq a1 (.int .i64 0)) fun v3 =>
 ifV v3 (
 bnd (binV .leq a1 (.int .i64 65535)) fun v4 =>
 K v4 h) (
 K (.bool false) h)) (
 K (.bool false) h)) (
 K (.bool false) h)
def A44 : Ann := ⟨fun _ => ([], []), fun _ => []⟩
theorem S44_T {a0 a1 : Value} {h : GH} {K : Value → GH → Prop} (g : S44 a0 a1 h K) : T Tryz.prog 44 [a0, a1] h K :=
  T_of_gwp (A := A44) Tryz.func44 (c := bodyOf Tryz.f44) (by kernel_rfl) (by kernel_rfl) (by kernel_rfl) (by kernel_rfl) (by kernel_rfl) (Eq.mp (by kernel_rfl) g)

/-! ### pawl/pawlref10.swapsMay (45) -/
def S45 (a0 : Value) (h : GH) (K : Value → GH → Prop) : Prop :=
 bnd (lnV a0) fun v1 =>
 bnd (binV .gtr v1 (.int .i64 16)) fun v2 =>
 ifV v2 (
 K (.bool false) h) (
 Lfp (fun (s3 : Nat → Value) h4 again5 =>
 bnd (lnV (s3 0)) fun v6 =>
 bnd (binV .lss (s3 1) v6) fun v7 =>
 ifV v7 (
 bnd (isV 3 (s3 0) (s3 1)) fun v8 =>
 bnd (ldV 3 true v8 h4) fun v9 =>
 newV 114 [(.int .i64 0), (.int .i64 0), (.int .i64 0)] h4 fun v10 h11 =>
 bnd (stV 3 v10 v9 h11) fun h12 =>
 bnd (faV 0 v10) fun v13 =>
 bnd (ldV 1 false v13 h12) fun v14 =>
 bnd (binV .lss v14 (.int .i64 0)) fun v15 =>
 ifV v15 (
 K (.bool false) h12) (
 bnd (faV 0 v10) fun v16 =>
 bnd (ldV 1 false v16 h12) fun v17 =>
 bnd (binV .geq v17 (.int .i64 16)) fun v18 =>
 ifV v18 (
 K (.bool false) h12) (
 bnd (binV .gtr (s3 1) (.int .i64 0)) fun v19 =>
 ifV v19 (
 bnd (faV 0 v10) fun v20 =>
 bnd (ldV 1 false v20 h12) fun v21 =>
 bnd (binV .sub (s3 1) (.int .i64 1)) fun v22 =>
 bnd (isV 3 (s3 0) v22) fun v23 =>
 bnd (faV 0 v23) fun v24 =>
 bnd (ldV 1 false v24 h12) fun v25 =>
 bnd (binV .leq v21 v25) fun v26 =>
 ifV v26 (
 K (.bool false) h12) (
 bnd (faV 1 v10) fun v27 =>
 bnd (ldV 1 false v27 h12) fun v28 =>
 bnd (binV .lss v28 (.int .i64 0)) fun v29 =>
 ifV v29 (
 K (.bool false) h12) (
 bnd (faV 1 v10) fun v30 =>
 bnd (ldV 1 false v30 h12) fun v31 =>
 bnd (binV .gtr v31 (.int .i64 1099511627775)) fun v32 =>
 ifV v32 (
 K (.bool false) h12) (
 bnd (faV 2 v10) fun v33 =>
 bnd (ldV 1 false v33 h12) fun v34 =>
 bnd (binV .lss v34 (.int .i64 0)) fun v35 =>
 ifV v35 (
 K (.bool false) h12) (
 bnd (faV 2 v10) fun v36 =>
 bnd (ldV 1 false v36 h12) fun v37 =>
 bnd (binV .gtr v37 (.int .i64 1099511627775)) fun v38 =>
 ifV v38 (
 K (.bool false) h12) (
 bnd (binV .add (s3 1) (.int .i64 1)) fun v39 =>
 again5 (tup [(s3 0), v39]) h12)))))) (
 bnd (faV 1 v10) fun v40 =>
 bnd (ldV 1 false v40 h12) fun v41 =>
 bnd (binV .lss v41 (.int .i64 0)) fun v42 =>
 ifV v42 (
 K (.bool false) h12) (
 bnd (faV 1 v10) fun v43 =>
 bnd (ldV 1 false v43 h12) fun v44 =>
 bnd (binV .gtr v44 (.int .i64 1099511627775)) fun v45 =>
 ifV v45 (
 K (.bool false) h12) (
 bnd (faV 2 v10) fun v46 =>
 bnd (ldV 1 false v46 h12) fun v47 =>
 bnd (binV .lss v47 (.int .i64 0)) fun v48 =>
 ifV v48 (
 K (.bool false) h12) (
 bnd (faV 2 v10) fun v49 =>
 bnd (ldV 1 false v49 h12) fun v50 =>
 bnd (binV .gtr v50 (.int .i64 1099511627775)) fun v51 =>
 ifV v51 (
 K (.bool false) h12) (
 bnd (binV .add (s3 1) (.int .i64 1)) fun v52 =>
 again5 (tup [(s3 0), v52]) h12)))))))) (
 K (.bool true) h4)) (tup [a0, (.int .i64 0)]) h)
def A45 : Ann := ⟨fun | 7 => ([0, 1, 2, 3, 4, 5, 6, 7, 8, 9, 10, 11, 12, 13, 14, 15, 16, 17, 18, 19, 20, 21, 22, 23, 24, 25, 26, 27, 28, 29, 30, 31, 32, 33, 34, 35, 36, 37, 38, 39, 40, 41, 42], [0, 1, 3, 7, 15, 31, 63, 127, 255, 511, 1023, 2047, 4095, 8191, 4095, 4095, 36863, 118783, 249855, 511999, 1048575, 2097151, 4194303, 8388607, 16777215, 33554431, 67108863, 134217727, 268435455, 536870911, 1073741823, 2147483647, 4294967295, 8589934591, 17179869183, 34359738367, 68719476735, 137438953471, 274877906943, 549755813887, 1099511627775, 2199023255551, 4398046511103]) | _ => ([], []), fun | 0 => [0, 3] | _ => []⟩
theorem S45_T {a0 : Value} {h : GH} {K : Value → GH → Prop} (g : S45 a0 h K) : T Tryz.prog 45 [a0] h K :=
  T_of_gwp (A := A45) Tryz.func45 (c := bodyOf Tryz.f45) (by kernel_rfl) (by kernel_rfl) (by kernel_rfl) (by kernel_rfl) (by kernel_rfl) (Eq.mp (by kernel_rfl) g)

/-! ### pawl/pawlref10.StateWord (46) -/
def S46 (a0 a1 : Value) (h : GH) (K : Value → GH → Prop) : Prop :=
 bnd (binV .mul (.int .i64 4) a0) fun v1 =>
 bnd (binV .add v1 a1) fun v2 =>
 T Tryz.prog 47 [v2] h fun v3 h4 =>
 K v3 h4
def A46 : Ann := ⟨fun _ => ([], []), fun _ => []⟩
theorem S46_T {a0 a1 : Value} {h : GH} {K : Value → GH → Prop} (g : S46 a0 a1 h K) : T Tryz.prog 46 [a0, a1] h K :=
  T_of_gwp (A := A46) Tryz.func46 (c := bodyOf Tryz.f46) (by kernel_rfl) (by kernel_rfl) (by kernel_rfl) (by kernel_rfl) (by kernel_rfl) (Eq.mp (by kernel_rfl) g)

/-! ### pawl/pawlref1.Value (47) -/
def S47 (a0 : Value) (h : GH) (K : Value → GH → Prop) : Prop :=
 bnd (binV .mul (.int .i64 4) a0) fun v1 =>
 K v1 h
def A47 : Ann := ⟨fun _ => ([], []), fun _ => []⟩
theorem S47_T {a0 : Value} {h : GH} {K : Value → GH → Prop} (g : S47 a0 h K) : T Tryz.prog 47 [a0] h K :=
  T_of_gwp (A := A47) Tryz.func47 (c := bodyOf Tryz.f47) (by kernel_rfl) (by kernel_rfl) (by kernel_rfl) (by kernel_rfl) (by kernel_rfl) (Eq.mp (by kernel_rfl) g)

/-! ### pawl/pawlref10.Base (48) -/
def S48 (a0 : Value) (h : GH) (K : Value → GH → Prop) : Prop :=
 bnd (binV .mul (.int .i64 50) a0) fun v1 =>
 bnd (binV .add (.int .i64 34) v1) fun v2 =>
 K v2 h
def A48 : Ann := ⟨fun _ => ([], []), fun _ => []⟩
theorem S48_T {a0 : Value} {h : GH} {K : Value → GH → Prop} (g : S48 a0 h K) : T Tryz.prog 48 [a0] h K :=
  T_of_gwp (A := A48) Tryz.func48 (c := bodyOf Tryz.f48) (by kernel_rfl) (by kernel_rfl) (by kernel_rfl) (by kernel_rfl) (by kernel_rfl) (Eq.mp (by kernel_rfl) g)

/-! ### pawl/cells.ViewMay (49) -/
def S49 (a0 : Value) (h : GH) (K : Value → GH → Prop) : Prop :=
 Lfp (fun (s1 : Nat → Value) h2 again3 =>
 bnd (binV .lss (s1 1) (.int .i64 16)) fun v4 =>
 ifV v4 (
 bnd (ncV (s1 0)) fun v5 =>
 bnd (faV 16 v5) fun v6 =>
 bnd (iaV 16 1 v6 (s1 1)) fun v7 =>
 bnd (ldV 1 false v7 h2) fun v8 =>
 T Tryz.prog 65 [v8] h2 fun v9 h10 =>
 bnd (unV .not v9) fun v11 =>
 ifV v11 (
 K (.bool false) h10) (
 bnd (ncV (s1 0)) fun v12 =>
 bnd (faV 32 v12) fun v13 =>
 bnd (iaV 16 1 v13 (s1 1)) fun v14 =>
 bnd (ldV 1 false v14 h10) fun v15 =>
 T Tryz.prog 65 [v15] h10 fun v16 h17 =>
 bnd (unV .not v16) fun v18 =>
 ifV v18 (
 K (.bool false) h17) (
 bnd (binV .add (s1 1) (.int .i64 1)) fun v19 =>
 again3 (tup [(s1 0), v19]) h17))) (
 K (.bool true) h2)) (tup [a0, (.int .i64 0)]) h
def A49 : Ann := ⟨fun _ => ([], []), fun | 0 => [0, 4] | _ => []⟩
theorem S49_T {a0 : Value} {h : GH} {K : Value → GH → Prop} (g : S49 a0 h K) : T Tryz.prog 49 [a0] h K :=
  T_of_gwp (A := A49) Tryz.func49 (c := bodyOf Tryz.f49) (by kernel_rfl) (by kernel_rfl) (by kernel_rfl) (by kernel_rfl) (by kernel_rfl) (Eq.mp (by kernel_rfl) g)

/-! ### pawl/cells.OpsMay (50) -/
def S50 (a0 : Value) (h : GH) (K : Value → GH → Prop) : Prop :=
 bnd (lnV a0) fun v1 =>
 Lfp (fun (s2 : Nat → Value) h3 again4 =>
 bnd (binV .lss (s2 2) (s2 1)) fun v5 =>
 ifV v5 (
 bnd (isV 4 (s2 0) (s2 2)) fun v6 =>
 T Tryz.prog 66 [v6] h3 fun v7 h8 =>
 bnd (unV .not v7) fun v9 =>
 ifV v9 (
 K (.bool false) h8) (
 bnd (binV .add (s2 2) (.int .i64 1)) fun v10 =>
 again4 (tup [(s2 0), (s2 1), v10]) h8)) (
 bnd (lnV (s2 0)) fun v11 =>
 bnd (binV .geq v11 (.int .i64 1)) fun v12 =>
 ifV v12 (
 bnd (lnV (s2 0)) fun v13 =>
 bnd (binV .leq v13 (.int .i64 2)) fun v14 =>
 K v14 h3) (
 K (.bool false) h3))) (tup [a0, v1, (.int .i64 0)]) h
def A50 : Ann := ⟨fun _ => ([], []), fun | 0 => [0, 5, 6] | _ => []⟩
theorem S50_T {a0 : Value} {h : GH} {K : Value → GH → Prop} (g : S50 a0 h K) : T Tryz.prog 50 [a0] h K :=
  T_of_gwp (A := A50) Tryz.func50 (c := bodyOf Tryz.f50) (by kernel_rfl) (by kernel_rfl) (by kernel_rfl) (by kernel_rfl) (by kernel_rfl) (Eq.mp (by kernel_rfl) g)

/-! ### pawl/skip.Do (51) -/
def S51_j1 (x2 x3 x4 : Value) (h : GH) (K : Value → GH → Prop)  : Prop :=
 bnd (ldV 48 true x2 h) fun v1 =>
 bnd (fillV (List.replicate 16 (.bool false) ++ List.replicate 32 (.int .i64 0) ++ [.nilIface]) [(0, 48, v1)]) fun c2 =>
 newV 146 ((.agg c2.toArray) : Value).cells.toList h fun v3 h4 =>
 bnd (fillV [(.pointer none)] [(0, 1, v3)]) fun c5 =>
 newV 148 [(.pointer none)] h4 fun v6 h7 =>
 bnd (stV 1 v6 (.agg c5.toArray) h7) fun h8 =>
 bnd (faV 0 x3) fun v9 =>
 bnd (ldV 1 false v9 h8) fun v10 =>
 bnd (eqI v10 (.int .i64 9)) fun b11 =>
 ifV (.bool b11) (
 T Tryz.prog 67 [(.int .i64 2)] h8 fun v12 h13 =>
 newV 55 [(.int .i64 0), (.int .i64 0)] h13 fun v14 h15 =>
 bnd (stV 2 v14 v12 h15) fun h16 =>
 bnd (ldV 1 true v6 h16) fun v17 =>
 T Tryz.prog 68 [v17, (.int .i64 (-1)), (.int .i64 0)] h16 fun v18 h19 =>
 bnd (eqI v18 (.int .i64 (-1))) fun b20 =>
 ifV (.bool (!b20)) (
 T Tryz.prog 69 [v18] h19 fun v21 h22 =>
 bnd (stV 2 v14 v21 h22) fun h23 =>
 bnd (ldV 2 true v14 h23) fun v24 =>
 T Tryz.prog 70 [v3, x2, v24] h23 fun v25 h26 =>
 bnd (stV 50 x4 v25 h26) fun h27 =>
 bnd (ldV 50 true x4 h27) fun v28 =>
 K (.tuple #[v28, (.int .i64 0)]) h27) (
 bnd (ldV 2 true v14 h19) fun v29 =>
 T Tryz.prog 70 [v3, x2, v29] h19 fun v30 h31 =>
 bnd (stV 50 x4 v30 h31) fun h32 =>
 bnd (ldV 50 true x4 h32) fun v33 =>
 K (.tuple #[v33, (.int .i64 0)]) h32)) (
 nmpV h8 fun v34 h35 =>
 bnd (mupV .i64 v34 (.int .i64 6) (.func (.func 71) #[] #[]) h35) fun h36 =>
 bnd (mupV .i64 v34 (.int .i64 7) (.func (.func 72) #[] #[]) h36) fun h37 =>
 bnd (mupV .i64 v34 (.int .i64 8) (.func (.func 73) #[] #[]) h37) fun h38 =>
 bnd (mupV .i64 v34 (.int .i64 10) (.func (.func 74) #[] #[]) h38) fun h39 =>
 bnd (faV 0 x3) fun v40 =>
 bnd (ldV 1 false v40 h39) fun v41 =>
 bnd (mlkV .i64 v34 v41 h39) fun v42 =>
 bnd (ldV 1 true v6 h39) fun v43 =>
 bnd (faV 1 x3) fun v44 =>
 bnd (ldV 1 false v44 h39) fun v45 =>
 T Tryz.prog 75 [v43, v45] h39 fun v46 h47 =>
 mlkV .i64 v34 v41 h47 = some v42 ∧
 ldV 1 false v40 h47 = some v41 ∧
 callV Tryz.prog v42 [v46, x3] h47 fun v48 h49 =>
 newV 55 [(.int .i64 0), (.int .i64 0)] h49 fun v50 h51 =>
 bnd (stV 2 v50 v48 h51) fun h52 =>
 bnd (ldV 2 true v50 h52) fun v53 =>
 T Tryz.prog 70 [v3, x2, v53] h52 fun v54 h55 =>
 bnd (stV 50 x4 v54 h55) fun h56 =>
 bnd (ldV 50 true x4 h56) fun v57 =>
 K (.tuple #[v57, (.int .i64 0)]) h56)
def S51 (a0 a1 : Value) (h : GH) (K : Value → GH → Prop) : Prop :=
 newV 69 (a0 : Value).cells.toList h fun v1 h2 =>
 newV 50 (a1 : Value).cells.toList h2 fun v3 h4 =>
 newV 71 ([(.int .i64 0)] ++ List.replicate 16 (.bool false) ++ List.replicate 32 (.int .i64 0) ++ [(.slice none 0 0)]) h4 fun v5 h6 =>
 T Tryz.prog 49 [v1] h6 fun v7 h8 =>
 bnd (unV .not v7) fun v9 =>
 ifV v9 (
 bnd (fillV ([(.int .i64 0)] ++ List.replicate 16 (.bool false) ++ List.replicate 32 (.int .i64 0) ++ [(.slice none 0 0)]) []) fun c10 =>
 bnd (stV 50 v5 (.agg c10.toArray) h8) fun h11 =>
 bnd (ldV 50 true v5 h11) fun v12 =>
 K (.tuple #[v12, (.int .i64 600)]) h11) (
 T Tryz.prog 66 [v3] h8 fun v13 h14 =>
 bnd (unV .not v13) fun v15 =>
 ifV v15 (
 bnd (fillV ([(.int .i64 0)] ++ List.replicate 16 (.bool false) ++ List.replicate 32 (.int .i64 0) ++ [(.slice none 0 0)]) []) fun c16 =>
 bnd (stV 50 v5 (.agg c16.toArray) h14) fun h17 =>
 bnd (ldV 50 true v5 h17) fun v18 =>
 K (.tuple #[v18, (.int .i64 600)]) h17) (
 bnd (faV 0 v3) fun v19 =>
 bnd (ldV 1 false v19 h14) fun v20 =>
 T Tryz.prog 52 [v20] h14 fun v21 h22 =>
 ifV v21 (
 bnd (fillV ([(.int .i64 0)] ++ List.replicate 16 (.bool false) ++ List.replicate 32 (.int .i64 0) ++ [(.slice none 0 0)]) []) fun c23 =>
 bnd (stV 50 v5 (.agg c23.toArray) h22) fun h24 =>
 bnd (ldV 50 true v5 h24) fun v25 =>
 K (.tuple #[v25, (.int .i64 600)]) h24) (
 S51_j1 v1 v3 v5 h22 K )))
def A51 : Ann := ⟨fun | 12 => ([0, 1, 2, 3, 4, 5, 6, 7, 8, 9, 10], [0, 0, 2, 7, 0, 0, 32, 112, 255, 0, 1023]) | _ => ([], []), fun _ => []⟩
theorem S51_T {a0 a1 : Value} {h : GH} {K : Value → GH → Prop} (g : S51 a0 a1 h K) : T Tryz.prog 51 [a0, a1] h K :=
  T_of_gwp (A := A51) Tryz.func51 (c := bodyOf Tryz.f51) (by kernel_rfl) (by kernel_rfl) (by kernel_rfl) (by kernel_rfl) (by kernel_rfl) (Eq.mp (by kernel_rfl) g)

/-! ### pawl/cells.OfBank (52) -/
def S52 (a0 : Value) (h : GH) (K : Value → GH → Prop) : Prop :=
 bnd (binV .geq a0 (.int .i64 0)) fun v1 =>
 ifV v1 (
 bnd (binV .leq a0 (.int .i64 5)) fun v2 =>
 K v2 h) (
 K (.bool false) h)
def A52 : Ann := ⟨fun _ => ([], []), fun _ => []⟩
theorem S52_T {a0 : Value} {h : GH} {K : Value → GH → Prop} (g : S52 a0 h K) : T Tryz.prog 52 [a0] h K :=
  T_of_gwp (A := A52) Tryz.func52 (c := bodyOf Tryz.f52) (by kernel_rfl) (by kernel_rfl) (by kernel_rfl) (by kernel_rfl) (by kernel_rfl) (Eq.mp (by kernel_rfl) g)
end Go.Proofs.YtlmafbdhhneokaaGreat
