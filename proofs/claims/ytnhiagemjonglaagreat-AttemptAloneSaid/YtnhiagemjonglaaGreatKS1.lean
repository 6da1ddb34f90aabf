/- The functions of the program that this seat reaches, each in a shallow form over ghost heaps, with the kernel's word that it is what its loaded code computes. Nothing here is a statement on the program. Written by a program of this session. -/
import Derived.Test.YtnhiagemjonglaaGreatKG
import Derived.Test.YtnhiagemjonglaaGreatProg
import Derived.KernelRfl
namespace Go.Proofs.YtnhiagemjonglaaGreat
open Go GW Go.Proofs
set_option linter.unusedVariables false
set_option maxRecDepth 100000

/-! ### pawl/pawllaw17.AttemptForms (3) -/
def S3_j2 (x5 x12 x13 x15 : Value) (h : GH) (K : Value → GH → Prop)  : Prop :=
 T Tryz.prog 13 [x15] h fun v1 h2 =>
 bnd (exV v1 0) fun v3 =>
 bnd (exV v1 1) fun v4 =>
 bnd (binV .mul (.int .i64 4) x5) fun v5 =>
 bnd (binV .add v5 (.int .i64 3)) fun v6 =>
 T Tryz.prog 14 [x13, (.int .i64 2), v6] h2 fun v7 h8 =>
 T Tryz.prog 15 [x15, x13] h8 fun v9 h10 =>
 bnd (exV v9 0) fun v11 =>
 bnd (exV v9 1) fun v12 =>
 T Tryz.prog 15 [x15, x13] h10 fun v13 h14 =>
 bnd (exV v13 0) fun v15 =>
 bnd (exV v13 1) fun v16 =>
 T Tryz.prog 12 [x12] h14 fun v17 h18 =>
 bnd (eqI v17 (.int .i64 1700)) fun b19 =>
 ifV (.bool b19) (
 bnd (eqI v3 (.int .i64 (-1))) fun b20 =>
 ifV (.bool b20) (
 bnd (eqI v4 (.int .i64 0)) fun b21 =>
 ifV (.bool b21) (
 ifV v11 (
 T Tryz.prog 12 [v12] h18 fun v22 h23 =>
 bnd (eqI v22 (.int .i64 1700)) fun b24 =>
 ifV (.bool b24) (
 ifV v15 (
 T Tryz.prog 12 [v16] h23 fun v25 h26 =>
 bnd (eqI v25 (.int .i64 0)) fun b27 =>
 ifV (.bool b27) (
 T Tryz.prog 16 [x15] h26 fun v28 h29 =>
 bnd (unV .not v28) fun v30 =>
 ifV v30 (
 T Tryz.prog 17 [x15] h29 fun v31 h32 =>
 bnd (lnV v31) fun v33 =>
 bnd (eqI v33 (.int .i64 0)) fun b34 =>
 ifV (.bool b34) (
 T Tryz.prog 18 [x15] h32 fun v35 h36 =>
 bnd (eqI v35 (.int .i64 5)) fun b37 =>
 K (.bool b37) h36) (
 K (.bool false) h32)) (
 K (.bool false) h29)) (
 K (.bool false) h26)) (
 K (.bool false) h23)) (
 K (.bool false) h23)) (
 K (.bool false) h18)) (
 K (.bool false) h18)) (
 K (.bool false) h18)) (
 K (.bool false) h18)

def S3_j1 (x5 x6 x7 x8 x9 x10 : Value) (h : GH) (K : Value → GH → Prop)  : Prop :=
 bnd (ldV 4 true x10 h) fun v1 =>
 bsV 24 1 [(.int .i64 0), (.int .i64 0), (.int .i64 0), (.int .i64 0)] [(0, 4, v1)] h fun v2 h3 =>
 T Tryz.prog 10 [x6, x7, x8, x9, v2] h3 fun v4 h5 =>
 bnd (exV v4 0) fun v6 =>
 bnd (exV v4 1) fun v7 =>
 T Tryz.prog 11 [(.slice none 0 0), (.slice none 0 0)] h5 fun v8 h9 =>
 bnd (exV v8 0) fun v10 =>
 bnd (exV v8 1) fun v11 =>
 bnd (fillV [(.int .i64 0), (.int .i64 0), (.int .i64 0), (.int .i64 0)] [(0, 1, (.int .i64 1)), (1, 1, (.int .i64 2))]) fun c12 =>
 bsV 24 1 [(.int .i64 0), (.int .i64 0), (.int .i64 0), (.int .i64 0)] [(0, 4, (.agg c12.toArray))] h9 fun v13 h14 =>
 T Tryz.prog 10 [(.int .i64 1), (.int .i64 5), (.int .i64 3), (.int .i64 4), v13] h14 fun v15 h16 =>
 bnd (exV v15 0) fun v17 =>
 bnd (exV v15 1) fun v18 =>
 bnd (eqK .ptr true v10 (.pointer none)) fun b19 =>
 ifV (.bool b19) (
 K (.bool false) h16) (
 T Tryz.prog 12 [v18] h16 fun v20 h21 =>
 bnd (eqI v20 (.int .i64 0)) fun b22 =>
 ifV (.bool (!b22)) (
 K (.bool false) h21) (
 bnd (eqK .ptr true v17 (.pointer none)) fun b23 =>
 ifV (.bool b23) (
 K (.bool false) h21) (
 S3_j2 x5 v7 v10 v17 h21 K )))
def S3 (a0 a1 : Value) (h : GH) (K : Value → GH → Prop) : Prop :=
 T Tryz.prog 9 [] h fun v1 h2 =>
 bnd (unV .not v1) fun v3 =>
 ifV v3 (
 K (.bool false) h2) (
 bnd (binV .and a1 (.int .i64 1023)) fun v4 =>
 bnd (binV .add (.int .i64 1) v4) fun v5 =>
 bnd (fillV [(.int .i64 0), (.int .i64 0), (.int .i64 0), (.int .i64 0)] [(0, 1, (.int .i64 1)), (1, 1, (.int .i64 2))]) fun c6 =>
 newV 24 [(.int .i64 0), (.int .i64 0), (.int .i64 0), (.int .i64 0)] h2 fun v7 h8 =>
 bnd (stV 4 v7 (.agg c6.toArray) h8) fun h9 =>
 bnd (cvV .u64 a0) fun v10 =>
 bnd (binV .rem v10 (.int .u64 10)) fun v11 =>
 bnd (eqI v11 (.int .u64 0)) fun b12 =>
 ifV (.bool b12) (
 bnd (binV .add (.int .i64 3) v5) fun v13 =>
 S3_j1 v5 v13 (.int .i64 5) (.int .i64 3) (.int .i64 4) v7 h9 K ) (
 bnd (eqI v11 (.int .u64 1)) fun b14 =>
 ifV (.bool b14) (
 bnd (unV .neg v5) fun v15 =>
 S3_j1 v5 v15 (.int .i64 5) (.int .i64 3) (.int .i64 4) v7 h9 K ) (
 bnd (eqI v11 (.int .u64 2)) fun b16 =>
 ifV (.bool b16) (
 bnd (binV .add (.int .i64 1048575) v5) fun v17 =>
 S3_j1 v5 (.int .i64 1) v17 (.int .i64 3) (.int .i64 4) v7 h9 K ) (
 bnd (eqI v11 (.int .u64 3)) fun b18 =>
 ifV (.bool b18) (
 bnd (unV .neg v5) fun v19 =>
 S3_j1 v5 (.int .i64 1) v19 (.int .i64 3) (.int .i64 4) v7 h9 K ) (
 bnd (eqI v11 (.int .u64 4)) fun b20 =>
 ifV (.bool b20) (
 bnd (binV .add (.int .i64 11) v5) fun v21 =>
 S3_j1 v5 (.int .i64 1) (.int .i64 5) v21 (.int .i64 4) v7 h9 K ) (
 bnd (eqI v11 (.int .u64 5)) fun b22 =>
 ifV (.bool b22) (
 bnd (unV .neg v5) fun v23 =>
 S3_j1 v5 (.int .i64 1) (.int .i64 5) v23 (.int .i64 4) v7 h9 K ) (
 bnd (eqI v11 (.int .u64 6)) fun b24 =>
 ifV (.bool b24) (
 bnd (binV .add (.int .i64 65535) v5) fun v25 =>
 S3_j1 v5 (.int .i64 1) (.int .i64 5) (.int .i64 3) v25 v7 h9 K ) (
 bnd (eqI v11 (.int .u64 7)) fun b26 =>
 ifV (.bool b26) (
 bnd (unV .neg v5) fun v27 =>
 S3_j1 v5 (.int .i64 1) (.int .i64 5) (.int .i64 3) v27 v7 h9 K ) (
 bnd (eqI v11 (.int .u64 8)) fun b28 =>
 ifV (.bool b28) (
 bnd (binV .add (.int .i64 3) v5) fun v29 =>
 bnd (faV 1 v7) fun v30 =>
 bnd (stV 1 v30 v29 h9) fun h31 =>
 S3_j1 v5 (.int .i64 1) (.int .i64 5) (.int .i64 3) (.int .i64 4) v7 h31 K ) (
 bnd (faV 3 v7) fun v32 =>
 bnd (stV 1 v32 v5 h9) fun h33 =>
 S3_j1 v5 (.int .i64 1) (.int .i64 5) (.int .i64 3) (.int .i64 4) v7 h33 K ))))))))))
def A3 : Ann := ⟨fun _ => ([], []), fun _ => []⟩
theorem S3_T {a0 a1 : Value} {h : GH} {K : Value → GH → Prop} (g : S3 a0 a1 h K) : T Tryz.prog 3 [a0, a1] h K :=
  T_of_gwp (A := A3) Tryz.func3 (c := bodyOf Tryz.f3) (by kernel_rfl) (by kernel_rfl) (by kernel_rfl) (by kernel_rfl) (by kernel_rfl) (Eq.mp (by kernel_rfl) g)

/-! ### pawl/pawllaw17.AttemptAlone (4) -/
def S4_j1 (s4 : Nat → Value) (x0 x1 x2 x3 x9 x10 x11 x12 : Value) (h : GH) (K : Value → GH → Prop) (again6 : (Nat → Value) → GH → Prop) : Prop :=
 bsV 3 1 [(.int .i64 0)] [(0, 1, x12)] h fun v1 h2 =>
 apV 3 1 8 x10 v1 h2 fun v3 h4 =>
 bnd (binV .mul (.int .i64 4) x12) fun v5 =>
 bsV 3 1 [(.int .i64 0)] [(0, 1, v5)] h4 fun v6 h7 =>
 apV 3 1 8 x9 v6 h7 fun v8 h9 =>
 bnd (binV .add x11 (.int .i64 1)) fun v10 =>
 again6 (tup [x0, x1, x2, x3, v8, v3, v10]) h9

def S4_j3 (s4 : Nat → Value) (s3 : Nat → Value) (x13 x15 x19 x22 : Value) (h : GH) (K : Value → GH → Prop) (again6 : (Nat → Value) → GH → Prop) (again5 : (Nat → Value) → GH → Prop) : Prop :=
 T Tryz.prog 15 [x15, x13] h fun v1 h2 =>
 bnd (exV v1 0) fun v3 =>
 bnd (exV v1 1) fun v4 =>
 T Tryz.prog 12 [v4] h2 fun v5 h6 =>
 bnd (eqI v5 (.int .i64 0)) fun b7 =>
 ifV (.bool (!b7)) (
 K (.bool false) h6) (
 bnd (binV .add x22 (.int .i64 1)) fun v8 =>
 again5 (tup [x13, x15, x19, v3, v8]) h6)

def S4_j5 (s4 : Nat → Value) (s3 : Nat → Value) (x19 x25 : Value) (h : GH) (K : Value → GH → Prop) (again6 : (Nat → Value) → GH → Prop) (again5 : (Nat → Value) → GH → Prop) : Prop :=
 Lfp (fun (s1 : Nat → Value) h2 again3 =>
 bnd (binV .lss (s1 2) (.int .i64 16)) fun v4 =>
 ifV v4 (
 bnd (isV 1 (s1 1) (s1 2)) fun v5 =>
 bnd (ldV 1 false v5 h2) fun v6 =>
 bnd (faV 1 (s1 0)) fun v7 =>
 bnd (faV 32 v7) fun v8 =>
 bnd (iaV 16 1 v8 (s1 2)) fun v9 =>
 bnd (ldV 1 false v9 h2) fun v10 =>
 bnd (binV .mul (.int .i64 4) v10) fun v11 =>
 bnd (eqI v6 v11) fun b12 =>
 ifV (.bool (!b12)) (
 K (.bool false) h2) (
 bnd (binV .add (s1 2) (.int .i64 1)) fun v13 =>
 again3 (tup [(s1 0), (s1 1), v13]) h2)) (
 K (.bool true) h2)) (tup [x19, x25, (.int .i64 0)]) h

def S4_j4 (s4 : Nat → Value) (s3 : Nat → Value) (x13 x15 x19 x21 : Value) (h : GH) (K : Value → GH → Prop) (again6 : (Nat → Value) → GH → Prop) (again5 : (Nat → Value) → GH → Prop) : Prop :=
 T Tryz.prog 21 [x13] h fun v1 h2 =>
 bnd (unV .not x21) fun v3 =>
 ifV v3 (
 K (.bool false) h2) (
 T Tryz.prog 16 [x15] h2 fun v4 h5 =>
 bnd (unV .not v4) fun v6 =>
 ifV v6 (
 K (.bool false) h5) (
 bnd (faV 49 x19) fun v7 =>
 bnd (ldV 1 false v7 h5) fun v8 =>
 T Tryz.prog 17 [x15] h5 fun v9 h10 =>
 ldV 1 false v7 h10 = some v8 ∧
 T Tryz.prog 22 [v9, v8] h10 fun v11 h12 =>
 bnd (unV .not v11) fun v13 =>
 ifV v13 (
 K (.bool false) h12) (
 bnd (lnV v1) fun v14 =>
 bnd (eqI v14 (.int .i64 634)) fun b15 =>
 ifV (.bool (!b15)) (
 K (.bool false) h12) (
 S4_j5 s4 s3 x19 v1 h12 K again6 again5))))

def S4_j2 (s4 : Nat → Value) (x13 x15 x19 x20 : Value) (h : GH) (K : Value → GH → Prop) (again6 : (Nat → Value) → GH → Prop) : Prop :=
 bnd (eqI x20 (.int .i64 0)) fun b1 =>
 ifV (.bool (!b1)) (
 bnd (eqK .ptr true x15 (.pointer none)) fun b2 =>
 K (.bool b2) h) (
 Lfp (fun (s3 : Nat → Value) h4 again5 =>
 bnd (binV .lss (s3 4) (.int .i64 400)) fun v6 =>
 ifV v6 (
 bnd (unV .not (s3 3)) fun v7 =>
 ifV v7 (
 S4_j3 s4 s3 (s3 0) (s3 1) (s3 2) (s3 4) h4 K again6 again5) (
 S4_j4 s4 s3 (s3 0) (s3 1) (s3 2) (s3 3) h4 K again6 again5)) (
 S4_j4 s4 s3 (s3 0) (s3 1) (s3 2) (s3 3) h4 K again6 again5)) (tup [x13, x15, x19, (.bool false), (.int .i64 0)]) h)
def S4 (a0 a1 a2 a3 : Value) (h : GH) (K : Value → GH → Prop) : Prop :=
 T Tryz.prog 9 [] h fun v1 h2 =>
 bnd (unV .not v1) fun v3 =>
 ifV v3 (
 K (.bool false) h2) (
 Lfp (fun (s4 : Nat → Value) h5 again6 =>
 bnd (binV .lss (s4 6) (.int .i64 16)) fun v7 =>
 ifV v7 (
 bnd (lnV (s4 0)) fun v8 =>
 bnd (binV .lss (s4 6) v8) fun v9 =>
 ifV v9 (
 bnd (isV 1 (s4 0) (s4 6)) fun v10 =>
 bnd (ldV 1 false v10 h5) fun v11 =>
 bnd (binV .and v11 (.int .i64 7)) fun v12 =>
 S4_j1 s4 (s4 0) (s4 1) (s4 2) (s4 3) (s4 4) (s4 5) (s4 6) v12 h5 K again6) (
 S4_j1 s4 (s4 0) (s4 1) (s4 2) (s4 3) (s4 4) (s4 5) (s4 6) (.int .i64 0) h5 K again6)) (
 T Tryz.prog 11 [(s4 4), (.slice none 0 0)] h5 fun v13 h14 =>
 bnd (exV v13 0) fun v15 =>
 bnd (exV v13 1) fun v16 =>
 bnd (cvV .u64 (s4 2)) fun v17 =>
 bnd (binV .rem v17 (.int .u64 12)) fun v18 =>
 bnd (cvV .i64 v18) fun v19 =>
 bnd (binV .and (s4 3) (.int .i64 65535)) fun v20 =>
 T Tryz.prog 10 [(.int .i64 1), (.int .i64 0), v19, v20, (s4 1)] h14 fun v21 h22 =>
 bnd (exV v21 0) fun v23 =>
 bnd (exV v21 1) fun v24 =>
 T Tryz.prog 19 [(s4 5)] h22 fun v25 h26 =>
 bnd (exV v25 0) fun v27 =>
 bnd (exV v25 1) fun v28 =>
 newV 50 (List.replicate 16 (.bool false) ++ List.replicate 32 (.int .i64 0)) h26 fun v29 h30 =>
 bnd (stV 48 v29 v27 h30) fun h31 =>
 bnd (ldV 48 true v29 h31) fun v32 =>
 T Tryz.prog 20 [v32, (s4 1)] h31 fun v33 h34 =>
 bnd (exV v33 0) fun v35 =>
 bnd (exV v33 1) fun v36 =>
 newV 54 ([(.int .i64 0)] ++ List.replicate 16 (.bool false) ++ List.replicate 32 (.int .i64 0) ++ [(.slice none 0 0)]) h34 fun v37 h38 =>
 bnd (stV 50 v37 v35 h38) fun h39 =>
 bnd (eqK .ptr true v15 (.pointer none)) fun b40 =>
 ifV (.bool b40) (
 K (.bool false) h39) (
 bnd (eqI v28 (.int .i64 0)) fun b41 =>
 ifV (.bool (!b41)) (
 K (.bool false) h39) (
 T Tryz.prog 12 [v24] h39 fun v42 h43 =>
 bnd (eqI v42 (.int .i64 0)) fun b44 =>
 bnd (eqI v36 (.int .i64 0)) fun b45 =>
 bnd (eqK .bool false (.bool b44) (.bool b45)) fun b46 =>
 ifV (.bool (!b46)) (
 K (.bool false) h43) (
 S4_j2 s4 v15 v23 v37 v36 h43 K again6))))) (tup [a0, a1, a2, a3, (.slice none 0 0), (.slice none 0 0), (.int .i64 0)]) h2)
def A4 : Ann := ⟨fun | 29 => ([0, 1, 2, 3, 4, 5, 6, 7, 8, 10, 11, 9, 12, 13, 14, 15, 16, 17, 18, 19], [0, 1, 3, 7, 15, 31, 63, 127, 255, 511, 255, 1279, 4095, 8191, 16383, 32767, 65535, 131071, 262143, 524287]) | 34 => ([0, 1, 2, 3, 4, 5, 6, 7, 8, 9, 10], [0, 0, 3, 7, 0, 0, 32, 112, 240, 496, 1023]) | _ => ([], []), fun | 0 => [0, 1, 2, 3, 9, 10, 11] | 2 => [13, 15, 19, 21, 22] | 4 => [19, 25, 26] | _ => []⟩
theorem S4_T {a0 a1 a2 a3 : Value} {h : GH} {K : Value → GH → Prop} (g : S4 a0 a1 a2 a3 h K) : T Tryz.prog 4 [a0, a1, a2, a3] h K :=
  T_of_gwp (A := A4) Tryz.func4 (c := bodyOf Tryz.f4) (by kernel_rfl) (by kernel_rfl) (by kernel_rfl) (by kernel_rfl) (by kernel_rfl) (Eq.mp (by kernel_rfl) g)

/-! ### pawl/pawllaw17.AttemptTwo (5) -/
def S5_j1 (s4 : Nat → Value) (x0 x1 x2 x3 x9 x10 x11 x12 : Value) (h : GH) (K : Value → GH → Prop) (again6 : (Nat → Value) → GH → Prop) : Prop :=
 bsV 3 1 [(.int .i64 0)] [(0, 1, x12)] h fun v1 h2 =>
 apV 3 1 8 x10 v1 h2 fun v3 h4 =>
 bnd (binV .mul (.int .i64 4) x12) fun v5 =>
 bsV 3 1 [(.int .i64 0)] [(0, 1, v5)] h4 fun v6 h7 =>
 apV 3 1 8 x9 v6 h7 fun v8 h9 =>
 bnd (binV .add x11 (.int .i64 1)) fun v10 =>
 again6 (tup [x0, x1, x2, x3, v8, v3, v10]) h9

def S5_j4 (s4 : Nat → Value) (s1 : Nat → Value) (x1 x2 x3 x10 x13 x15 x17 x19 x21 : Value) (h : GH) (K : Value → GH → Prop) (again6 : (Nat → Value) → GH → Prop) (again3 : (Nat → Value) → GH → Prop) : Prop :=
 T Tryz.prog 15 [x21, x13] h fun v1 h2 =>
 bnd (exV v1 0) fun v3 =>
 bnd (exV v1 1) fun v4 =>
 T Tryz.prog 12 [v4] h2 fun v5 h6 =>
 bnd (eqI v5 (.int .i64 0)) fun b7 =>
 ifV (.bool (!b7)) (
 K (.bool false) h6) (
 bnd (binV .add x19 (.int .i64 1)) fun v8 =>
 again3 (tup [x1, x2, x3, x10, x13, x15, x17, v8]) h6)

def S5_j3 (s4 : Nat → Value) (s1 : Nat → Value) (x1 x2 x3 x10 x13 x15 x17 x19 x20 : Value) (h : GH) (K : Value → GH → Prop) (again6 : (Nat → Value) → GH → Prop) (again3 : (Nat → Value) → GH → Prop) : Prop :=
 bnd (eqI x20 (.int .i64 1)) fun b1 =>
 ifV (.bool b1) (
 S5_j4 s4 s1 x1 x2 x3 x10 x13 x15 x17 x19 x17 h K again6 again3) (
 S5_j4 s4 s1 x1 x2 x3 x10 x13 x15 x17 x19 x15 h K again6 again3)

def S5_j5 (s4 : Nat → Value) (s1 : Nat → Value) (x1 x2 x10 x15 x17 x24 : Value) (h : GH) (K : Value → GH → Prop) (again6 : (Nat → Value) → GH → Prop) (again3 : (Nat → Value) → GH → Prop) : Prop :=
 T Tryz.prog 16 [x15] h fun v1 h2 =>
 T Tryz.prog 17 [x15] h2 fun v3 h4 =>
 T Tryz.prog 16 [x17] h4 fun v5 h6 =>
 T Tryz.prog 17 [x17] h6 fun v7 h8 =>
 T Tryz.prog 23 [x10, x24, v1, x1, v3, v5, x2, v7] h8 fun v9 h10 =>
 T Tryz.prog 16 [x17] h10 fun v11 h12 =>
 T Tryz.prog 17 [x17] h12 fun v13 h14 =>
 T Tryz.prog 16 [x15] h14 fun v15 h16 =>
 T Tryz.prog 17 [x15] h16 fun v17 h18 =>
 T Tryz.prog 23 [x10, x24, v11, x2, v13, v15, x1, v17] h18 fun v19 h20 =>
 ifV v9 (
 K (.bool true) h20) (
 K v19 h20)

def S5_j2 (s4 : Nat → Value) (x1 x2 x3 x10 x13 x15 x17 : Value) (h : GH) (K : Value → GH → Prop) (again6 : (Nat → Value) → GH → Prop) : Prop :=
 Lfp (fun (s1 : Nat → Value) h2 again3 =>
 bnd (lnV (s1 2)) fun v4 =>
 bnd (binV .add v4 (.int .i64 800)) fun v5 =>
 bnd (binV .lss (s1 7) v5) fun v6 =>
 ifV v6 (
 bnd (binV .and (s1 7) (.int .i64 1)) fun v7 =>
 bnd (lnV (s1 2)) fun v8 =>
 bnd (binV .lss (s1 7) v8) fun v9 =>
 ifV v9 (
 bnd (isV 1 (s1 2) (s1 7)) fun v10 =>
 bnd (ldV 1 false v10 h2) fun v11 =>
 bnd (binV .and v11 (.int .i64 1)) fun v12 =>
 S5_j3 s4 s1 (s1 0) (s1 1) (s1 2) (s1 3) (s1 4) (s1 5) (s1 6) (s1 7) v12 h2 K again6 again3) (
 S5_j3 s4 s1 (s1 0) (s1 1) (s1 2) (s1 3) (s1 4) (s1 5) (s1 6) (s1 7) v7 h2 K again6 again3)) (
 T Tryz.prog 21 [(s1 4)] h2 fun v13 h14 =>
 bnd (lnV v13) fun v15 =>
 bnd (eqI v15 (.int .i64 634)) fun b16 =>
 ifV (.bool (!b16)) (
 K (.bool false) h14) (
 T Tryz.prog 16 [(s1 5)] h14 fun v17 h18 =>
 bnd (unV .not v17) fun v19 =>
 ifV v19 (
 T Tryz.prog 16 [(s1 6)] h18 fun v20 h21 =>
 bnd (unV .not v20) fun v22 =>
 ifV v22 (
 K (.bool false) h21) (
 S5_j5 s4 s1 (s1 0) (s1 1) (s1 3) (s1 5) (s1 6) v13 h21 K again6 again3)) (
 S5_j5 s4 s1 (s1 0) (s1 1) (s1 3) (s1 5) (s1 6) v13 h18 K again6 again3)))) (tup [x1, x2, x3, x10, x13, x15, x17, (.int .i64 0)]) h
def S5 (a0 a1 a2 a3 : Value) (h : GH) (K : Value → GH → Prop) : Prop :=
 T Tryz.prog 9 [] h fun v1 h2 =>
 bnd (unV .not v1) fun v3 =>
 ifV v3 (
 K (.bool false) h2) (
 Lfp (fun (s4 : Nat → Value) h5 again6 =>
 bnd (binV .lss (s4 6) (.int .i64 16)) fun v7 =>
 ifV v7 (
 bnd (lnV (s4 0)) fun v8 =>
 bnd (binV .lss (s4 6) v8) fun v9 =>
 ifV v9 (
 bnd (binV .lss (s4 6) (.int .i64 4)) fun v10 =>
 ifV v10 (
 bnd (isV 1 (s4 0) (s4 6)) fun v11 =>
 bnd (ldV 1 false v11 h5) fun v12 =>
 bnd (binV .and v12 (.int .i64 31)) fun v13 =>
 S5_j1 s4 (s4 0) (s4 1) (s4 2) (s4 3) (s4 4) (s4 5) (s4 6) v13 h5 K again6) (
 S5_j1 s4 (s4 0) (s4 1) (s4 2) (s4 3) (s4 4) (s4 5) (s4 6) (.int .i64 0) h5 K again6)) (
 S5_j1 s4 (s4 0) (s4 1) (s4 2) (s4 3) (s4 4) (s4 5) (s4 6) (.int .i64 0) h5 K again6)) (
 T Tryz.prog 11 [(s4 4), (.slice none 0 0)] h5 fun v14 h15 =>
 bnd (exV v14 0) fun v16 =>
 bnd (exV v14 1) fun v17 =>
 T Tryz.prog 10 [(.int .i64 0), (.int .i64 0), (.int .i64 5), (.int .i64 1), (s4 1)] h15 fun v18 h19 =>
 bnd (exV v18 0) fun v20 =>
 bnd (exV v18 1) fun v21 =>
 T Tryz.prog 10 [(.int .i64 1), (.int .i64 0), (.int .i64 6), (.int .i64 1), (s4 2)] h19 fun v22 h23 =>
 bnd (exV v22 0) fun v24 =>
 bnd (exV v22 1) fun v25 =>
 bnd (eqK .ptr true v16 (.pointer none)) fun b26 =>
 ifV (.bool b26) (
 bnd (eqK .ptr true v16 (.pointer none)) fun b27 =>
 K (.bool (!b27)) h23) (
 T Tryz.prog 12 [v21] h23 fun v28 h29 =>
 bnd (eqI v28 (.int .i64 0)) fun b30 =>
 ifV (.bool (!b30)) (
 bnd (eqK .ptr true v16 (.pointer none)) fun b31 =>
 K (.bool (!b31)) h29) (
 T Tryz.prog 12 [v25] h29 fun v32 h33 =>
 bnd (eqI v32 (.int .i64 0)) fun b34 =>
 ifV (.bool (!b34)) (
 bnd (eqK .ptr true v16 (.pointer none)) fun b35 =>
 K (.bool (!b35)) h33) (
 bnd (eqK .ptr true v20 (.pointer none)) fun b36 =>
 ifV (.bool b36) (
 bnd (eqK .ptr true v16 (.pointer none)) fun b37 =>
 K (.bool (!b37)) h33) (
 bnd (eqK .ptr true v24 (.pointer none)) fun b38 =>
 ifV (.bool b38) (
 bnd (eqK .ptr true v16 (.pointer none)) fun b39 =>
 K (.bool (!b39)) h33) (
 S5_j2 s4 (s4 1) (s4 2) (s4 3) (s4 5) v16 v20 v24 h33 K again6))))))) (tup [a0, a1, a2, a3, (.slice none 0 0), (.slice none 0 0), (.int .i64 0)]) h2)
def A5 : Ann := ⟨fun _ => ([], []), fun | 0 => [0, 1, 2, 3, 9, 10, 11] | 2 => [1, 2, 3, 10, 13, 15, 17, 19] | _ => []⟩
theorem S5_T {a0 a1 a2 a3 : Value} {h : GH} {K : Value → GH → Prop} (g : S5 a0 a1 a2 a3 h K) : T Tryz.prog 5 [a0, a1, a2, a3] h K :=
  T_of_gwp (A := A5) Tryz.func5 (c := bodyOf Tryz.f5) (by kernel_rfl) (by kernel_rfl) (by kernel_rfl) (by kernel_rfl) (by kernel_rfl) (Eq.mp (by kernel_rfl) g)

/-! ### pawl/pawllaw17.AttemptStale (6) -/
def S6_j3 (s4 : Nat → Value) (x9 x10 x11 x13 x15 x17 x19 : Value) (h : GH) (K : Value → GH → Prop) (again6 : (Nat → Value) → GH → Prop) : Prop :=
 T Tryz.prog 15 [x15, x13] h fun v1 h2 =>
 bnd (exV v1 0) fun v3 =>
 bnd (exV v1 1) fun v4 =>
 T Tryz.prog 12 [v4] h2 fun v5 h6 =>
 bnd (eqI v5 (.int .i64 0)) fun b7 =>
 ifV (.bool (!b7)) (
 K (.bool false) h6) (
 bnd (binV .add x19 (.int .i64 1)) fun v8 =>
 again6 (tup [x9, x10, x11, x13, x15, x17, v3, v8]) h6)

def S6_j2 (s4 : Nat → Value) (x9 x10 x11 x13 x15 x17 x19 : Value) (h : GH) (K : Value → GH → Prop) (again6 : (Nat → Value) → GH → Prop) : Prop :=
 bnd (eqI x19 x17) fun b1 =>
 ifV (.bool b1) (
 bnd (binV .add x10 (.int .i64 1)) fun v2 =>
 bnd (binV .mul (.int .i64 4) v2) fun v3 =>
 T Tryz.prog 14 [x13, (.int .i64 0), v3] h fun v4 h5 =>
 S6_j3 s4 x9 x10 x11 x13 x15 x17 x19 h5 K again6) (
 S6_j3 s4 x9 x10 x11 x13 x15 x17 x19 h K again6)

def S6_j4 (s4 : Nat → Value) (x9 x10 x11 x13 x15 x18 : Value) (h : GH) (K : Value → GH → Prop) (again6 : (Nat → Value) → GH → Prop) : Prop :=
 T Tryz.prog 24 [x13, (.int .i64 0)] h fun v1 h2 =>
 bnd (exV v1 0) fun v3 =>
 bnd (exV v1 1) fun v4 =>
 ifV x18 (
 T Tryz.prog 16 [x15] h2 fun v5 h6 =>
 bnd (unV .not v5) fun v7 =>
 ifV v7 (
 T Tryz.prog 17 [x15] h6 fun v8 h9 =>
 bnd (binV .sub x9 x11) fun v10 =>
 bnd (fillV [(.int .i64 0), (.int .i64 0)] [(1, 1, v10)]) fun c11 =>
 bsV 64 1 [(.int .i64 0), (.int .i64 0)] [(0, 2, (.agg c11.toArray))] h9 fun v12 h13 =>
 T Tryz.prog 22 [v8, v12] h13 fun v14 h15 =>
 ifV v14 (
 T Tryz.prog 12 [v4] h15 fun v16 h17 =>
 bnd (eqI v16 (.int .i64 0)) fun b18 =>
 ifV (.bool b18) (
 bnd (binV .add x10 (.int .i64 1)) fun v19 =>
 bnd (binV .mul (.int .i64 4) v19) fun v20 =>
 bnd (eqI v3 v20) fun b21 =>
 K (.bool b21) h17) (
 K (.bool false) h17)) (
 K (.bool false) h15)) (
 K (.bool false) h6)) (
 K (.bool false) h2)

def S6_j1 (x3 x9 x10 x11 x13 x15 : Value) (h : GH) (K : Value → GH → Prop)  : Prop :=
 bnd (binV .and x3 (.int .i64 1023)) fun v1 =>
 bnd (binV .rem v1 (.int .i64 9)) fun v2 =>
 bnd (binV .add (.int .i64 1) v2) fun v3 =>
 Lfp (fun (s4 : Nat → Value) h5 again6 =>
 bnd (binV .lss (s4 7) (.int .i64 60)) fun v7 =>
 ifV v7 (
 bnd (unV .not (s4 6)) fun v8 =>
 ifV v8 (
 S6_j2 s4 (s4 0) (s4 1) (s4 2) (s4 3) (s4 4) (s4 5) (s4 7) h5 K again6) (
 S6_j4 s4 (s4 0) (s4 1) (s4 2) (s4 3) (s4 4) (s4 6) h5 K again6)) (
 S6_j4 s4 (s4 0) (s4 1) (s4 2) (s4 3) (s4 4) (s4 6) h5 K again6)) (tup [x9, x10, x11, x13, x15, v3, (.bool false), (.int .i64 0)]) h
def S6 (a0 a1 a2 a3 : Value) (h : GH) (K : Value → GH → Prop) : Prop :=
 T Tryz.prog 9 [] h fun v1 h2 =>
 bnd (unV .not v1) fun v3 =>
 ifV v3 (
 K (.bool false) h2) (
 bnd (binV .and a0 (.int .i64 63)) fun v4 =>
 bnd (binV .add (.int .i64 100) v4) fun v5 =>
 bnd (binV .and a1 (.int .i64 63)) fun v6 =>
 bnd (binV .add (.int .i64 300) v6) fun v7 =>
 bnd (binV .and a2 (.int .i64 63)) fun v8 =>
 bnd (binV .add v5 (.int .i64 1)) fun v9 =>
 bnd (binV .mul (.int .i64 4) v9) fun v10 =>
 bsV 3 1 [(.int .i64 0)] [(0, 1, v10)] h2 fun v11 h12 =>
 T Tryz.prog 11 [v11, (.slice none 0 0)] h12 fun v13 h14 =>
 bnd (exV v13 0) fun v15 =>
 bnd (exV v13 1) fun v16 =>
 bnd (fillV [(.int .i64 0), (.int .i64 0), (.int .i64 0), (.int .i64 0)] [(0, 1, (.int .i64 3)), (3, 1, v8)]) fun c17 =>
 bsV 24 1 [(.int .i64 0), (.int .i64 0), (.int .i64 0), (.int .i64 0)] [(0, 4, (.agg c17.toArray))] h14 fun v18 h19 =>
 T Tryz.prog 10 [(.int .i64 1), (.int .i64 0), (.int .i64 3), (.int .i64 1), v18] h19 fun v20 h21 =>
 bnd (exV v20 0) fun v22 =>
 bnd (exV v20 1) fun v23 =>
 bnd (eqK .ptr true v15 (.pointer none)) fun b24 =>
 ifV (.bool b24) (
 K (.bool false) h21) (
 T Tryz.prog 12 [v23] h21 fun v25 h26 =>
 bnd (eqI v25 (.int .i64 0)) fun b27 =>
 ifV (.bool (!b27)) (
 K (.bool false) h26) (
 bnd (eqK .ptr true v22 (.pointer none)) fun b28 =>
 ifV (.bool b28) (
 K (.bool false) h26) (
 S6_j1 a3 v5 v7 v8 v15 v22 h26 K ))))
def A6 : Ann := ⟨fun _ => ([], []), fun | 0 => [9, 10, 11, 13, 15, 17, 18, 19] | _ => []⟩
theorem S6_T {a0 a1 a2 a3 : Value} {h : GH} {K : Value → GH → Prop} (g : S6 a0 a1 a2 a3 h K) : T Tryz.prog 6 [a0, a1, a2, a3] h K :=
  T_of_gwp (A := A6) Tryz.func6 (c := bodyOf Tryz.f6) (by kernel_rfl) (by kernel_rfl) (by kernel_rfl) (by kernel_rfl) (by kernel_rfl) (Eq.mp (by kernel_rfl) g)

/-! ### pawl/pawllaw17.Attempts (7) -/
def S7_j3 (s1 : Nat → Value) (x2 x3 x9 x10 x11 x12 x13 x14 x15 x17 x18 : Value) (h : GH) (K : Value → GH → Prop) (again3 : (Nat → Value) → GH → Prop) : Prop :=
 T Tryz.prog 28 [x14] h fun v1 h2 =>
 bnd (eqI x18 (.int .i64 0)) fun b3 =>
 ifV (.bool b3) (
 bsV 26 1 [(.pointer none)] [(0, 1, x15)] h2 fun v4 h5 =>
 apV 26 1 8 x11 v4 h5 fun v6 h7 =>
 bsV 73 1 [(.pointer none)] [(0, 1, x17)] h7 fun v8 h9 =>
 apV 73 1 8 x12 v8 h9 fun v10 h11 =>
 bnd (binV .add x13 (.int .i64 1)) fun v12 =>
 again3 (tup [x2, x3, x9, x10, v6, v10, v12]) h11) (
 bnd (binV .add x13 (.int .i64 1)) fun v13 =>
 again3 (tup [x2, x3, x9, x10, x11, x12, v13]) h2)

def S7_j2 (s1 : Nat → Value) (x2 x3 x9 x10 x11 x12 x13 : Value) (h : GH) (K : Value → GH → Prop) (again3 : (Nat → Value) → GH → Prop) : Prop :=
 bnd (isV 1 x2 x13) fun v1 =>
 bnd (faV 0 v1) fun v2 =>
 bnd (ldV 1 false v2 h) fun v3 =>
 T Tryz.prog 25 [v3] h fun v4 h5 =>
 bnd (binV .mul (.int .i64 7) x13) fun v6 =>
 bnd (binV .add (.int .i64 4) x13) fun v7 =>
 T Tryz.prog 10 [x13, v6, v7, x13, v4] h5 fun v8 h9 =>
 bnd (exV v8 0) fun v10 =>
 bnd (exV v8 1) fun v11 =>
 bnd (binV .mul (.int .i64 7) x13) fun v12 =>
 bnd (binV .add (.int .i64 4) x13) fun v13 =>
 bnd (isV 1 x2 x13) fun v14 =>
 bnd (faV 0 v14) fun v15 =>
 bnd (ldV 1 false v15 h9) fun v16 =>
 T Tryz.prog 26 [x13, v12, v13, x13, v16] h9 fun v17 h18 =>
 bnd (exV v17 0) fun v19 =>
 bnd (exV v17 1) fun v20 =>
 T Tryz.prog 12 [v11] h18 fun v21 h22 =>
 bnd (eqI v21 v20) fun b23 =>
 ifV (.bool (!b23)) (
 K (.bool false) h22) (
 bnd (eqI v20 (.int .i64 0)) fun b24 =>
 bnd (eqK .ptr true v10 (.pointer none)) fun b25 =>
 bnd (eqK .bool false (.bool b24) (.bool (!b25))) fun b26 =>
 ifV (.bool (!b26)) (
 K (.bool false) h22) (
 bnd (isV 1 x2 x13) fun v27 =>
 bnd (faV 0 v27) fun v28 =>
 bnd (ldV 1 false v28 h22) fun v29 =>
 T Tryz.prog 27 [v4, v29] h22 fun v30 h31 =>
 bnd (unV .not v30) fun v32 =>
 ifV v32 (
 K (.bool false) h31) (
 S7_j3 s1 x2 x3 x9 x10 x11 x12 x13 v4 v10 v19 v20 h31 K again3)))

def S7_j5 (s1 : Nat → Value) (s1 : Nat → Value) (x3 x9 x10 x11 x12 x19 : Value) (h : GH) (K : Value → GH → Prop) (again3 : (Nat → Value) → GH → Prop) (again3 : (Nat → Value) → GH → Prop) : Prop :=
 bnd (isV 1 x3 x19) fun v1 =>
 bnd (ldV 1 false v1 h) fun v2 =>
 bnd (binV .and v2 (.int .i64 1023)) fun v3 =>
 bnd (lnV x11) fun v4 =>
 bnd (binV .rem v3 v4) fun v5 =>
 bnd (isV 1 x11 v5) fun v6 =>
 bnd (ldV 1 false v6 h) fun v7 =>
 T Tryz.prog 15 [v7, x9] h fun v8 h9 =>
 bnd (exV v8 0) fun v10 =>
 bnd (exV v8 1) fun v11 =>
 bnd (isV 1 x12 v5) fun v12 =>
 bnd (ldV 1 false v12 h9) fun v13 =>
 T Tryz.prog 29 [v13, x10] h9 fun v14 h15 =>
 bnd (exV v14 0) fun v16 =>
 bnd (exV v14 1) fun v17 =>
 bnd (isV 1 x11 v5) fun v18 =>
 bnd (ldV 1 false v18 h15) fun v19 =>
 T Tryz.prog 13 [v19] h15 fun v20 h21 =>
 bnd (exV v20 0) fun v22 =>
 bnd (exV v20 1) fun v23 =>
 bnd (isV 1 x12 v5) fun v24 =>
 bnd (ldV 1 false v24 h21) fun v25 =>
 T Tryz.prog 30 [v25] h21 fun v26 h27 =>
 bnd (exV v26 0) fun v28 =>
 bnd (exV v26 1) fun v29 =>
 bnd (isV 1 x11 v5) fun v30 =>
 bnd (ldV 1 false v30 h27) fun v31 =>
 T Tryz.prog 17 [v31] h27 fun v32 h33 =>
 bnd (eqK .bool false v10 v16) fun b34 =>
 ifV (.bool (!b34)) (
 K (.bool false) h33) (
 T Tryz.prog 12 [v11] h33 fun v35 h36 =>
 bnd (eqI v35 v17) fun b37 =>
 ifV (.bool (!b37)) (
 K (.bool false) h36) (
 bnd (isV 1 x11 v5) fun v38 =>
 bnd (ldV 1 false v38 h36) fun v39 =>
 bnd (isV 1 x12 v5) fun v40 =>
 bnd (ldV 1 false v40 h36) fun v41 =>
 bnd (ncV v41) fun v42 =>
 bnd (faV 57 v42) fun v43 =>
 bnd (ldV 1 false v43 h36) fun v44 =>
 T Tryz.prog 16 [v39] h36 fun v45 h46 =>
 ldV 1 false v43 h46 = some v44 ∧
 ldV 1 false v40 h46 = some v41 ∧
 bnd (eqK .bool false v45 v44) fun b47 =>
 ifV (.bool (!b47)) (
 K (.bool false) h46) (
 bnd (isV 1 x11 v5) fun v48 =>
 bnd (ldV 1 false v48 h46) fun v49 =>
 bnd (isV 1 x12 v5) fun v50 =>
 bnd (ldV 1 false v50 h46) fun v51 =>
 bnd (ncV v51) fun v52 =>
 bnd (faV 1 v52) fun v53 =>
 bnd (ldV 1 false v53 h46) fun v54 =>
 T Tryz.prog 18 [v49] h46 fun v55 h56 =>
 ldV 1 false v53 h56 = some v54 ∧
 ldV 1 false v50 h56 = some v51 ∧
 bnd (eqI v55 v54) fun b57 =>
 ifV (.bool (!b57)) (
 K (.bool false) h56) (
 bnd (eqI v22 v28) fun b58 =>
 ifV (.bool (!b58)) (
 K (.bool false) h56) (
 bnd (eqI v23 v29) fun b59 =>
 ifV (.bool (!b59)) (
 K (.bool false) h56) (
 bnd (isV 1 x12 v5) fun v60 =>
 bnd (ldV 1 false v60 h56) fun v61 =>
 bnd (ncV v61) fun v62 =>
 bnd (faV 56 v62) fun v63 =>
 bnd (ldV 1 false v63 h56) fun v64 =>
 T Tryz.prog 22 [v32, v64] h56 fun v65 h66 =>
 bnd (unV .not v65) fun v67 =>
 ifV v67 (
 K (.bool false) h66) (
 T Tryz.prog 31 [v32] h66 fun v68 h69 =>
 bnd (binV .add x19 (.int .i64 1)) fun v70 =>
 again3 (tup [x3, x9, x10, x11, x12, v70]) h69)))))))

def S7_j4 (s1 : Nat → Value) (x3 x9 x10 x11 x12 : Value) (h : GH) (K : Value → GH → Prop) (again3 : (Nat → Value) → GH → Prop) : Prop :=
 Lfp (fun (s1 : Nat → Value) h2 again3 =>
 bnd (lnV (s1 0)) fun v4 =>
 bnd (binV .lss (s1 5) v4) fun v5 =>
 ifV v5 (
 bnd (binV .lss (s1 5) (.int .i64 300)) fun v6 =>
 ifV v6 (
 bnd (lnV (s1 3)) fun v7 =>
 bnd (binV .gtr v7 (.int .i64 0)) fun v8 =>
 ifV v8 (
 S7_j5 s1 s1 (s1 0) (s1 1) (s1 2) (s1 3) (s1 4) (s1 5) h2 K again3 again3) (
 T Tryz.prog 32 [(s1 1), (s1 2)] h2 fun v9 h10 =>
 ifV v9 (
 T Tryz.prog 9 [] h10 fun v11 h12 =>
 K v11 h12) (
 K (.bool false) h10))) (
 T Tryz.prog 32 [(s1 1), (s1 2)] h2 fun v13 h14 =>
 ifV v13 (
 T Tryz.prog 9 [] h14 fun v15 h16 =>
 K v15 h16) (
 K (.bool false) h14))) (
 T Tryz.prog 32 [(s1 1), (s1 2)] h2 fun v17 h18 =>
 ifV v17 (
 T Tryz.prog 9 [] h18 fun v19 h20 =>
 K v19 h20) (
 K (.bool false) h18))) (tup [x3, x9, x10, x11, x12, (.int .i64 0)]) h

def S7_j1 (x2 x3 x9 x10 : Value) (h : GH) (K : Value → GH → Prop)  : Prop :=
 Lfp (fun (s1 : Nat → Value) h2 again3 =>
 bnd (lnV (s1 0)) fun v4 =>
 bnd (binV .lss (s1 6) v4) fun v5 =>
 ifV v5 (
 bnd (binV .lss (s1 6) (.int .i64 4)) fun v6 =>
 ifV v6 (
 S7_j2 s1 (s1 0) (s1 1) (s1 2) (s1 3) (s1 4) (s1 5) (s1 6) h2 K again3) (
 S7_j4 s1 (s1 1) (s1 2) (s1 3) (s1 4) (s1 5) h2 K again3)) (
 S7_j4 s1 (s1 1) (s1 2) (s1 3) (s1 4) (s1 5) h2 K again3)) (tup [x2, x3, x9, x10, (.slice none 0 0), (.slice none 0 0), (.int .i64 0)]) h
def S7 (a0 a1 a2 a3 : Value) (h : GH) (K : Value → GH → Prop) : Prop :=
 T Tryz.prog 11 [a0, a1] h fun v1 h2 =>
 bnd (exV v1 0) fun v3 =>
 bnd (exV v1 1) fun v4 =>
 bnd (eqK .ptr true v3 (.pointer none)) fun b5 =>
 ifV (.bool b5) (
 K (.bool false) h2) (
 bnd (eqK .ptr true v4 (.pointer none)) fun b6 =>
 ifV (.bool b6) (
 K (.bool false) h2) (
 S7_j1 a2 a3 v3 v4 h2 K ))
def A7 : Ann := ⟨fun | 27 => ([0, 1, 2, 3, 4, 6, 5, 7, 8, 9, 10, 11, 12, 13, 15, 16, 17, 18, 19, 20, 21, 14, 22, 23, 24, 25, 26, 27, 28, 30, 31, 32, 33, 34, 35, 36, 29, 37, 38, 39, 40, 41, 42, 43, 44, 45, 46, 47, 48, 49, 50, 51, 52, 53, 54, 55, 56, 57, 58, 59, 60], [0, 0, 3, 7, 15, 31, 15, 127, 255, 511, 1023, 1023, 4095, 8191, 16383, 1023, 1023, 99327, 230399, 492543, 1016831, 2065407, 4194303, 8388607, 16777215, 33554431, 33554431, 134217727, 268435455, 536870911, 33554431, 33554431, 3254779903, 7549747199, 16139681791, 33319550975, 67679289343, 137438953471, 274877906943, 549755813887, 1099511627775, 1099511627775, 4398046511103, 8796093022207, 17592186044415, 35184372088831, 35184372088831, 140737488355327, 281474976710655, 562949953421311, 1125899906842623, 1125899906842623, 1125899906842623, 7881299347898367, 16888498602639359, 34902897112121343, 70931694131085311, 142989288169013247, 288230376151711743, 576460752303423487, 1152921504606846975]) | _ => ([], []), fun | 0 => [2, 3, 9, 10, 11, 12, 13] | 2 => [3, 9, 10, 11, 12, 19] | _ => []⟩
theorem S7_T {a0 a1 a2 a3 : Value} {h : GH} {K : Value → GH → Prop} (g : S7 a0 a1 a2 a3 h K) : T Tryz.prog 7 [a0, a1, a2, a3] h K :=
  T_of_gwp (A := A7) Tryz.func7 (c := bodyOf Tryz.f7) (by kernel_rfl) (by kernel_rfl) (by kernel_rfl) (by kernel_rfl) (by kernel_rfl) (Eq.mp (by kernel_rfl) g)

/-! ### pawl/pawllaw17.AttemptThrough (8) -/
def S8_j5 (s1 : Nat → Value) (x7 x9 x10 x11 x13 x14 x15 : Value) (h : GH) (K : Value → GH → Prop) (again3 : (Nat → Value) → GH → Prop) : Prop :=
 ifV x15 (
 ifV x13 (
 T Tryz.prog 16 [x11] h fun v1 h2 =>
 K v1 h2) (
 K (.bool false) h)) (
 bnd (binV .add x14 (.int .i64 1)) fun v3 =>
 again3 (tup [x7, x9, x10, x11, x13, v3]) h)

def S8_j4 (s1 : Nat → Value) (x7 x9 x10 x11 x13 x14 x15 x17 x18 x19 : Value) (h : GH) (K : Value → GH → Prop) (again3 : (Nat → Value) → GH → Prop) : Prop :=
 ifV x13 (
 bnd (eqI x17 x9) fun b1 =>
 ifV (.bool (!b1)) (
 K (.bool false) h) (
 bnd (eqI x18 x10) fun b2 =>
 ifV (.bool (!b2)) (
 K (.bool false) h) (
 bnd (unV .not x13) fun v3 =>
 ifV v3 (
 bnd (eqI x17 (.int .i64 (-1))) fun b4 =>
 ifV (.bool (!b4)) (
 K (.bool false) h) (
 bnd (eqI x18 (.int .i64 0)) fun b5 =>
 ifV (.bool (!b5)) (
 K (.bool false) h) (
 bnd (faV 1 x19) fun v6 =>
 bnd (ldV 1 false v6 h) fun v7 =>
 bnd (eqI v7 (.int .i64 0)) fun b8 =>
 ifV (.bool (!b8)) (
 K (.bool false) h) (
 bnd (faV 2 x19) fun v9 =>
 bnd (ldV 1 false v9 h) fun v10 =>
 bnd (binV .geq v10 (.int .i64 16)) fun v11 =>
 ifV v11 (
 K (.bool false) h) (
 S8_j5 s1 x7 x9 x10 x11 x13 x14 x15 h K again3))))) (
 S8_j5 s1 x7 x9 x10 x11 x13 x14 x15 h K again3)))) (
 bnd (unV .not x13) fun v12 =>
 ifV v12 (
 bnd (eqI x17 (.int .i64 (-1))) fun b13 =>
 ifV (.bool (!b13)) (
 K (.bool false) h) (
 bnd (eqI x18 (.int .i64 0)) fun b14 =>
 ifV (.bool (!b14)) (
 K (.bool false) h) (
 bnd (faV 1 x19) fun v15 =>
 bnd (ldV 1 false v15 h) fun v16 =>
 bnd (eqI v16 (.int .i64 0)) fun b17 =>
 ifV (.bool (!b17)) (
 K (.bool false) h) (
 bnd (faV 2 x19) fun v18 =>
 bnd (ldV 1 false v18 h) fun v19 =>
 bnd (binV .geq v19 (.int .i64 16)) fun v20 =>
 ifV v20 (
 K (.bool false) h) (
 S8_j5 s1 x7 x9 x10 x11 x13 x14 x15 h K again3))))) (
 S8_j5 s1 x7 x9 x10 x11 x13 x14 x15 h K again3))

def S8_j3 (s1 : Nat → Value) (x7 x9 x10 x11 x13 x14 x15 x17 x18 x19 : Value) (h : GH) (K : Value → GH → Prop) (again3 : (Nat → Value) → GH → Prop) : Prop :=
 bnd (faV 1 x19) fun v1 =>
 bnd (ldV 1 false v1 h) fun v2 =>
 bnd (eqI v2 (.int .i64 1)) fun b3 =>
 ifV (.bool b3) (
 S8_j4 s1 x7 x9 x10 x11 (.bool true) x14 x15 x17 x18 x19 h K again3) (
 S8_j4 s1 x7 x9 x10 x11 x13 x14 x15 x17 x18 x19 h K again3)

def S8_j2 (x7 x9 x10 x11 : Value) (h : GH) (K : Value → GH → Prop)  : Prop :=
 Lfp (fun (s1 : Nat → Value) h2 again3 =>
 bnd (binV .lss (s1 5) (.int .i64 400)) fun v4 =>
 ifV v4 (
 T Tryz.prog 15 [(s1 3), (s1 0)] h2 fun v5 h6 =>
 bnd (exV v5 0) fun v7 =>
 bnd (exV v5 1) fun v8 =>
 T Tryz.prog 13 [(s1 3)] h6 fun v9 h10 =>
 bnd (exV v9 0) fun v11 =>
 bnd (exV v9 1) fun v12 =>
 T Tryz.prog 33 [(s1 0)] h10 fun v13 h14 =>
 bnd (exV v13 0) fun v15 =>
 bnd (exV v13 1) fun v16 =>
 newV 89 [(.int .i64 0), (.int .i64 0), (.int .i64 0), (.int .i64 0), (.int .i64 0), (.int .i64 0), (.int .i64 0), (.int .i64 0)] h14 fun v17 h18 =>
 bnd (stV 8 v17 v15 h18) fun h19 =>
 T Tryz.prog 12 [v8] h19 fun v20 h21 =>
 bnd (eqI v20 (.int .i64 0)) fun b22 =>
 ifV (.bool (!b22)) (
 K (.bool false) h21) (
 bnd (unV .not v16) fun v23 =>
 ifV v23 (
 K (.bool false) h21) (
 S8_j3 s1 (s1 0) (s1 1) (s1 2) (s1 3) (s1 4) (s1 5) v7 v11 v12 v17 h21 K again3))) (
 K (.bool false) h2)) (tup [x7, x9, x10, x11, (.bool false), (.int .i64 0)]) h

def S8_j1 (x7 x9 x10 x11 x50 : Value) (h : GH) (K : Value → GH → Prop)  : Prop :=
 ifV x50 (
 bnd (eqK .ptr true x7 (.pointer none)) fun b1 =>
 ifV (.bool (!b1)) (
 bnd (eqK .ptr true x11 (.pointer none)) fun b2 =>
 K (.bool b2) h) (
 K (.bool false) h)) (
 S8_j2 x7 x9 x10 x11 h K )
def S8 (a0 a1 a2 : Value) (h : GH) (K : Value → GH → Prop) : Prop :=
 T Tryz.prog 9 [] h fun v1 h2 =>
 bnd (unV .not v1) fun v3 =>
 ifV v3 (
 K (.bool false) h2) (
 T Tryz.prog 11 [(.slice none 0 0), (.slice none 0 0)] h2 fun v4 h5 =>
 bnd (exV v4 0) fun v6 =>
 bnd (exV v4 1) fun v7 =>
 bnd (cvV .u64 a1) fun v8 =>
 bnd (binV .rem v8 (.int .u64 12)) fun v9 =>
 bnd (cvV .i64 v9) fun v10 =>
 bnd (binV .and a2 (.int .i64 65535)) fun v11 =>
 T Tryz.prog 10 [(.int .i64 1), (.int .i64 0), v10, v11, a0] h5 fun v12 h13 =>
 bnd (exV v12 0) fun v14 =>
 bnd (exV v12 1) fun v15 =>
 bnd (eqK .ptr true v6 (.pointer none)) fun b16 =>
 ifV (.bool b16) (
 S8_j1 v6 v10 v11 v14 (.bool true) h13 K ) (
 T Tryz.prog 12 [v15] h13 fun v17 h18 =>
 bnd (eqI v17 (.int .i64 0)) fun b19 =>
 ifV (.bool (!b19)) (
 S8_j1 v6 v10 v11 v14 (.bool true) h18 K ) (
 bnd (eqK .ptr true v14 (.pointer none)) fun b20 =>
 S8_j1 v6 v10 v11 v14 (.bool b20) h18 K )))
def A8 : Ann := ⟨fun _ => ([], []), fun | 0 => [7, 9, 10, 11, 13, 14] | _ => []⟩
theorem S8_T {a0 a1 a2 : Value} {h : GH} {K : Value → GH → Prop} (g : S8 a0 a1 a2 h K) : T Tryz.prog 8 [a0, a1, a2] h K :=
  T_of_gwp (A := A8) Tryz.func8 (c := bodyOf Tryz.f8) (by kernel_rfl) (by kernel_rfl) (by kernel_rfl) (by kernel_rfl) (by kernel_rfl) (Eq.mp (by kernel_rfl) g)

/-! ### pawl/pawllaw17.awake (9) -/
def S9_j2 (s1 : Nat → Value) (x1 x3 x4 x6 x8 x10 x11 : Value) (h : GH) (K : Value → GH → Prop) (again3 : (Nat → Value) → GH → Prop) : Prop :=
 T Tryz.prog 15 [x3, x1] h fun v1 h2 =>
 bnd (exV v1 0) fun v3 =>
 bnd (exV v1 1) fun v4 =>
 bnd (binV .add x10 (.int .i64 1)) fun v5 =>
 T Tryz.prog 12 [v4] h2 fun v6 h7 =>
 bnd (eqI v6 (.int .i64 0)) fun b8 =>
 ifV (.bool (!b8)) (
 K (.bool false) h7) (
 bnd (binV .add x11 (.int .i64 1)) fun v9 =>
 again3 (tup [x1, x3, x4, x6, x8, v3, v5, v9]) h7)

def S9_j3 (s1 : Nat → Value) (x1 x3 x4 x6 x8 x9 x10 : Value) (h : GH) (K : Value → GH → Prop) (again3 : (Nat → Value) → GH → Prop) : Prop :=
 T Tryz.prog 24 [x1, (.int .i64 0)] h fun v1 h2 =>
 bnd (exV v1 0) fun v3 =>
 bnd (exV v1 1) fun v4 =>
 T Tryz.prog 15 [x3, (.pointer none)] h2 fun v5 h6 =>
 bnd (exV v5 0) fun v7 =>
 bnd (exV v5 1) fun v8 =>
 T Tryz.prog 12 [x4] h6 fun v9 h10 =>
 bnd (eqI v9 (.int .i64 0)) fun b11 =>
 ifV (.bool b11) (
 T Tryz.prog 12 [x6] h10 fun v12 h13 =>
 bnd (eqI v12 (.int .i64 1700)) fun b14 =>
 ifV (.bool b14) (
 T Tryz.prog 12 [x8] h13 fun v15 h16 =>
 bnd (eqI v15 (.int .i64 1700)) fun b17 =>
 ifV (.bool b17) (
 ifV x9 (
 bnd (eqI x10 (.int .i64 19)) fun b18 =>
 ifV (.bool b18) (
 T Tryz.prog 16 [x3] h16 fun v19 h20 =>
 ifV v19 (
 T Tryz.prog 17 [x3] h20 fun v21 h22 =>
 bnd (fillV [(.int .i64 0), (.int .i64 0)] [(1, 1, (.int .i64 20))]) fun c23 =>
 bsV 64 1 [(.int .i64 0), (.int .i64 0)] [(0, 2, (.agg c23.toArray))] h22 fun v24 h25 =>
 T Tryz.prog 22 [v21, v24] h25 fun v26 h27 =>
 ifV v26 (
 bnd (eqI v3 (.int .i64 84)) fun b28 =>
 ifV (.bool b28) (
 T Tryz.prog 12 [v4] h27 fun v29 h30 =>
 bnd (eqI v29 (.int .i64 0)) fun b31 =>
 ifV (.bool b31) (
 T Tryz.prog 12 [v8] h30 fun v32 h33 =>
 bnd (eqI v32 (.int .i64 1)) fun b34 =>
 K (.bool b34) h33) (
 K (.bool false) h30)) (
 K (.bool false) h27)) (
 K (.bool false) h27)) (
 K (.bool false) h20)) (
 K (.bool false) h16)) (
 K (.bool false) h16)) (
 K (.bool false) h16)) (
 K (.bool false) h13)) (
 K (.bool false) h10)

def S9_j1 (x1 x3 x4 x6 x8 : Value) (h : GH) (K : Value → GH → Prop)  : Prop :=
 Lfp (fun (s1 : Nat → Value) h2 again3 =>
 bnd (binV .lss (s1 7) (.int .i64 60)) fun v4 =>
 ifV v4 (
 bnd (unV .not (s1 5)) fun v5 =>
 ifV v5 (
 S9_j2 s1 (s1 0) (s1 1) (s1 2) (s1 3) (s1 4) (s1 6) (s1 7) h2 K again3) (
 S9_j3 s1 (s1 0) (s1 1) (s1 2) (s1 3) (s1 4) (s1 5) (s1 6) h2 K again3)) (
 S9_j3 s1 (s1 0) (s1 1) (s1 2) (s1 3) (s1 4) (s1 5) (s1 6) h2 K again3)) (tup [x1, x3, x4, x6, x8, (.bool false), (.int .i64 0), (.int .i64 0)]) h
def S9 (h : GH) (K : Value → GH → Prop) : Prop :=
 bsV 3 1 [(.int .i64 0)] [(0, 1, (.int .i64 124))] h fun v1 h2 =>
 T Tryz.prog 11 [v1, (.slice none 0 0)] h2 fun v3 h4 =>
 bnd (exV v3 0) fun v5 =>
 bnd (exV v3 1) fun v6 =>
 bnd (fillV [(.int .i64 0), (.int .i64 0), (.int .i64 0), (.int .i64 0)] [(0, 1, (.int .i64 3)), (3, 1, (.int .i64 10))]) fun c7 =>
 bsV 24 1 [(.int .i64 0), (.int .i64 0), (.int .i64 0), (.int .i64 0)] [(0, 4, (.agg c7.toArray))] h4 fun v8 h9 =>
 T Tryz.prog 10 [(.int .i64 1), (.int .i64 0), (.int .i64 5), (.int .i64 9), v8] h9 fun v10 h11 =>
 bnd (exV v10 0) fun v12 =>
 bnd (exV v10 1) fun v13 =>
 bnd (fillV [(.int .i64 0), (.int .i64 0), (.int .i64 0), (.int .i64 0)] [(0, 1, (.int .i64 5))]) fun c14 =>
 bsV 24 1 [(.int .i64 0), (.int .i64 0), (.int .i64 0), (.int .i64 0)] [(0, 4, (.agg c14.toArray))] h11 fun v15 h16 =>
 T Tryz.prog 10 [(.int .i64 1), (.int .i64 0), (.int .i64 12), (.int .i64 9), v15] h16 fun v17 h18 =>
 bnd (exV v17 0) fun v19 =>
 bnd (exV v17 1) fun v20 =>
 T Tryz.prog 10 [(.int .i64 1), (.int .i64 0), (.int .i64 5), (.int .i64 9), (.slice none 0 0)] h18 fun v21 h22 =>
 bnd (exV v21 0) fun v23 =>
 bnd (exV v21 1) fun v24 =>
 bnd (eqK .ptr true v5 (.pointer none)) fun b25 =>
 ifV (.bool b25) (
 K (.bool false) h22) (
 bnd (eqK .ptr true v6 (.pointer none)) fun b26 =>
 ifV (.bool b26) (
 K (.bool false) h22) (
 bnd (eqK .ptr true v12 (.pointer none)) fun b27 =>
 ifV (.bool b27) (
 K (.bool false) h22) (
 S9_j1 v5 v12 v13 v20 v24 h22 K )))
def A9 : Ann := ⟨fun _ => ([], []), fun | 0 => [1, 3, 4, 6, 8, 9, 10, 11] | _ => []⟩
theorem S9_T {h : GH} {K : Value → GH → Prop} (g : S9 h K) : T Tryz.prog 9 [] h K :=
  T_of_gwp (A := A9) Tryz.func9 (c := bodyOf Tryz.f9) (by kernel_rfl) (by kernel_rfl) (by kernel_rfl) (by kernel_rfl) (by kernel_rfl) (Eq.mp (by kernel_rfl) g)

/-! ### pawl/attempt.New (10) -/
def S10_j1 (x0 x1 x2 x3 x4 x12 : Value) (h : GH) (K : Value → GH → Prop)  : Prop :=
 bnd (fillV [(.int .i64 0), (.int .i64 0)] [(0, 1, x2), (1, 1, x3)]) fun c1 =>
 bnd (ldV 50 true x12 h) fun v2 =>
 T Tryz.prog 38 [x4] h fun v3 h4 =>
 ldV 50 true x12 h4 = some v2 ∧
 bnd (fillV ([(.int .i64 0), (.int .i64 0), (.int .i64 0), (.int .i64 0), (.slice none 0 0), (.int .i64 0)] ++ List.replicate 16 (.bool false) ++ List.replicate 32 (.int .i64 0) ++ [(.slice none 0 0), .nilIface, (.int .i64 0), (.int .i64 0), (.bool false), (.bool false), (.slice none 0 0)]) [(0, 1, x0), (1, 1, x1), (2, 2, (.agg c1.toArray)), (4, 1, v3), (5, 50, v2), (56, 1, (.int .i64 (-1)))]) fun c5 =>
 newV 101 ((.agg c5.toArray) : Value).cells.toList h4 fun v6 h7 =>
 T Tryz.prog 39 [v6] h7 fun v8 h9 =>
 bnd (ncV v6) fun v10 =>
 bnd (faV 55 v10) fun v11 =>
 bnd (stV 1 v11 v8 h9) fun h12 =>
 K (.tuple #[v6, (.int .i64 0)]) h12
def S10 (a0 a1 a2 a3 a4 : Value) (h : GH) (K : Value → GH → Prop) : Prop :=
 bnd (fillV (List.replicate 16 (.bool false) ++ List.replicate 32 (.int .i64 0)) []) fun c1 =>
 T Tryz.prog 34 [(.agg c1.toArray), a4] h fun v2 h3 =>
 bnd (exV v2 0) fun v4 =>
 bnd (exV v2 1) fun v5 =>
 newV 54 ([(.int .i64 0)] ++ List.replicate 16 (.bool false) ++ List.replicate 32 (.int .i64 0) ++ [(.slice none 0 0)]) h3 fun v6 h7 =>
 bnd (stV 50 v6 v4 h7) fun h8 =>
 T Tryz.prog 35 [a0] h8 fun v9 h10 =>
 bnd (unV .not v9) fun v11 =>
 ifV v11 (
 K (.tuple #[(.pointer none), (.int .i64 1700)]) h10) (
 T Tryz.prog 36 [a1, (.int .i64 1048576)] h10 fun v12 h13 =>
 bnd (unV .not v12) fun v14 =>
 ifV v14 (
 K (.tuple #[(.pointer none), (.int .i64 1700)]) h13) (
 T Tryz.prog 37 [a2, a3] h13 fun v15 h16 =>
 bnd (unV .not v15) fun v17 =>
 ifV v17 (
 K (.tuple #[(.pointer none), (.int .i64 1700)]) h16) (
 bnd (eqI v5 (.int .i64 0)) fun b18 =>
 ifV (.bool (!b18)) (
 K (.tuple #[(.pointer none), (.int .i64 1700)]) h16) (
 S10_j1 a0 a1 a2 a3 a4 v6 h16 K ))))
def A10 : Ann := ⟨fun | 4 => ([0, 1, 2, 3, 4, 5, 7, 6, 8, 9, 10], [0, 0, 0, 0, 12, 0, 32, 0, 255, 511, 1023]) | _ => ([], []), fun _ => []⟩
theorem S10_T {a0 a1 a2 a3 a4 : Value} {h : GH} {K : Value → GH → Prop} (g : S10 a0 a1 a2 a3 a4 h K) : T Tryz.prog 10 [a0, a1, a2, a3, a4] h K :=
  T_of_gwp (A := A10) Tryz.func10 (c := bodyOf Tryz.f10) (by kernel_rfl) (by kernel_rfl) (by kernel_rfl) (by kernel_rfl) (by kernel_rfl) (Eq.mp (by kernel_rfl) g)

/-! ### pawl/pawllaw17.shelf (11) -/
def S11_j1 (s6 : Nat → Value) (x0 x1 x6 x7 x8 : Value) (h : GH) (K : Value → GH → Prop) (again8 : (Nat → Value) → GH → Prop) : Prop :=
 bnd (isV 1 x0 x8) fun v1 =>
 bnd (ldV 1 false v1 h) fun v2 =>
 T Tryz.prog 14 [x6, x8, v2] h fun v3 h4 =>
 bnd (isV 1 x0 x8) fun v5 =>
 bnd (ldV 1 false v5 h4) fun v6 =>
 T Tryz.prog 41 [x7, x8, v6] h4 fun v7 h8 =>
 bnd (binV .add x8 (.int .i64 1)) fun v9 =>
 again8 (tup [x0, x1, x6, x7, v9]) h8

def S11_j3 (s6 : Nat → Value) (s1 : Nat → Value) (x1 x6 x7 x9 : Value) (h : GH) (K : Value → GH → Prop) (again8 : (Nat → Value) → GH → Prop) (again3 : (Nat → Value) → GH → Prop) : Prop :=
 bnd (isV 1 x1 x9) fun v1 =>
 bnd (ldV 1 false v1 h) fun v2 =>
 T Tryz.prog 42 [x9, (.int .i64 1), v2] h fun v3 h4 =>
 bnd (exV v3 0) fun v5 =>
 bnd (exV v3 1) fun v6 =>
 bnd (eqI v6 (.int .i64 0)) fun b7 =>
 ifV (.bool (!b7)) (
 bnd (binV .add x9 (.int .i64 1)) fun v8 =>
 again3 (tup [x1, x6, x7, v8]) h4) (
 Lfp (fun (s9 : Nat → Value) h10 again11 =>
 bnd (unV .not (s9 5)) fun v12 =>
 ifV v12 (
 T Tryz.prog 43 [(s9 4), (s9 2)] h10 fun v13 h14 =>
 bnd (exV v13 0) fun v15 =>
 bnd (exV v13 1) fun v16 =>
 T Tryz.prog 44 [(s9 2)] h14 fun v17 h18 =>
 bnd (exV v17 0) fun v19 =>
 bnd (exV v17 1) fun v20 =>
 newV 89 [(.int .i64 0), (.int .i64 0), (.int .i64 0), (.int .i64 0), (.int .i64 0), (.int .i64 0), (.int .i64 0), (.int .i64 0)] h18 fun v21 h22 =>
 bnd (stV 8 v21 v19 h22) fun h23 =>
 bnd (faV 2 v21) fun v24 =>
 bnd (ldV 1 false v24 h23) fun v25 =>
 bnd (faV 4 v21) fun v26 =>
 bnd (ldV 1 false v26 h23) fun v27 =>
 T Tryz.prog 14 [(s9 1), v25, v27] h23 fun v28 h29 =>
 again11 (tup [(s9 0), (s9 1), (s9 2), (s9 3), (s9 4), v15]) h29) (
 bnd (binV .add (s9 3) (.int .i64 1)) fun v30 =>
 again3 (tup [(s9 0), (s9 1), (s9 2), v30]) h10)) (tup [x1, x6, x7, x9, v5, (.bool false)]) h4)

def S11_j2 (s6 : Nat → Value) (x1 x6 x7 : Value) (h : GH) (K : Value → GH → Prop) (again8 : (Nat → Value) → GH → Prop) : Prop :=
 Lfp (fun (s1 : Nat → Value) h2 again3 =>
 bnd (lnV (s1 0)) fun v4 =>
 bnd (binV .lss (s1 3) v4) fun v5 =>
 ifV v5 (
 bnd (binV .lss (s1 3) (.int .i64 4)) fun v6 =>
 ifV v6 (
 S11_j3 s6 s1 (s1 0) (s1 1) (s1 2) (s1 3) h2 K again8 again3) (
 K (.tuple #[(s1 1), (s1 2)]) h2)) (
 K (.tuple #[(s1 1), (s1 2)]) h2)) (tup [x1, x6, x7, (.int .i64 0)]) h
def S11 (a0 a1 : Value) (h : GH) (K : Value → GH → Prop) : Prop :=
 T Tryz.prog 40 [(.slice none 0 0), (.slice none 0 0)] h fun v1 h2 =>
 bnd (exV v1 0) fun v3 =>
 bnd (exV v1 1) fun v4 =>
 bnd (eqK .ptr true v3 (.pointer none)) fun b5 =>
 ifV (.bool b5) (
 K (.tuple #[(.pointer none), (.pointer none)]) h2) (
 Lfp (fun (s6 : Nat → Value) h7 again8 =>
 bnd (lnV (s6 0)) fun v9 =>
 bnd (binV .lss (s6 4) v9) fun v10 =>
 ifV v10 (
 bnd (binV .lss (s6 4) (.int .i64 16)) fun v11 =>
 ifV v11 (
 S11_j1 s6 (s6 0) (s6 1) (s6 2) (s6 3) (s6 4) h7 K again8) (
 S11_j2 s6 (s6 1) (s6 2) (s6 3) h7 K again8)) (
 S11_j2 s6 (s6 1) (s6 2) (s6 3) h7 K again8)) (tup [a0, a1, v3, v4, (.int .i64 0)]) h2)
def A11 : Ann := ⟨fun _ => ([], []), fun | 0 => [0, 1, 6, 7, 8] | 2 => [1, 6, 7, 9] | 4 => [1, 6, 7, 9, 10, 12] | _ => []⟩
theorem S11_T {a0 a1 : Value} {h : GH} {K : Value → GH → Prop} (g : S11 a0 a1 h K) : T Tryz.prog 11 [a0, a1] h K :=
  T_of_gwp (A := A11) Tryz.func11 (c := bodyOf Tryz.f11) (by kernel_rfl) (by kernel_rfl) (by kernel_rfl) (by kernel_rfl) (by kernel_rfl) (Eq.mp (by kernel_rfl) g)

/-! ### pawl/pawllaw0.Num (12) -/
def S12 (a0 : Value) (h : GH) (K : Value → GH → Prop) : Prop :=
 K a0 h
def A12 : Ann := ⟨fun _ => ([], []), fun _ => []⟩
theorem S12_T {a0 : Value} {h : GH} {K : Value → GH → Prop} (g : S12 a0 h K) : T Tryz.prog 12 [a0] h K :=
  T_of_gwp (A := A12) Tryz.func12 (c := bodyOf Tryz.f12) (by kernel_rfl) (by kernel_rfl) (by kernel_rfl) (by kernel_rfl) (by kernel_rfl) (Eq.mp (by kernel_rfl) g)

/-! ### (*pawl/attempt.Attempt).Through (13) -/
def S13 (a0 : Value) (h : GH) (K : Value → GH → Prop) : Prop :=
 bnd (eqK .ptr true a0 (.pointer none)) fun b1 =>
 ifV (.bool b1) (
 K (.tuple #[(.int .i64 0), (.int .i64 0)]) h) (
 bnd (ncV a0) fun v2 =>
 bnd (faV 56 v2) fun v3 =>
 bnd (ldV 1 false v3 h) fun v4 =>
 bnd (ncV a0) fun v5 =>
 bnd (faV 57 v5) fun v6 =>
 bnd (ldV 1 false v6 h) fun v7 =>
 K (.tuple #[v4, v7]) h)
def A13 : Ann := ⟨fun | 3 => ([0, 1, 2, 3, 4, 5, 6, 7, 8, 9], [0, 1, 3, 7, 0, 16, 48, 112, 15, 511]) | _ => ([], []), fun _ => []⟩
theorem S13_T {a0 : Value} {h : GH} {K : Value → GH → Prop} (g : S13 a0 h K) : T Tryz.prog 13 [a0] h K :=
  T_of_gwp (A := A13) Tryz.func13 (c := bodyOf Tryz.f13) (by kernel_rfl) (by kernel_rfl) (by kernel_rfl) (by kernel_rfl) (by kernel_rfl) (Eq.mp (by kernel_rfl) g)

/-! ### (*pawl/arena.Arena).Store (14) -/
def S14 (a0 a1 a2 : Value) (h : GH) (K : Value → GH → Prop) : Prop :=
 newV 3 (a2 : Value).cells.toList h fun v1 h2 =>
 T Tryz.prog 45 [a0, (.int .i64 1), a1, (.func (.func 46) #[] #[v1])] h2 fun v3 h4 =>
 bnd (exV v3 0) fun v5 =>
 bnd (exV v3 1) fun v6 =>
 K (.tuple #[v5, v6]) h4
def A14 : Ann := ⟨fun _ => ([], []), fun _ => []⟩
theorem S14_T {a0 a1 a2 : Value} {h : GH} {K : Value → GH → Prop} (g : S14 a0 a1 a2 h K) : T Tryz.prog 14 [a0, a1, a2] h K :=
  T_of_gwp (A := A14) Tryz.func14 (c := bodyOf Tryz.f14) (by kernel_rfl) (by kernel_rfl) (by kernel_rfl) (by kernel_rfl) (by kernel_rfl) (Eq.mp (by kernel_rfl) g)

/-! ### (*pawl/attempt.Attempt).Step (15) -/
def S15_j3 (x0 x6 x7 : Value) (h : GH) (K : Value → GH → Prop)  : Prop :=
 bnd (eqI x7 (.int .i64 0)) fun b1 =>
 ifV (.bool (!b1)) (
 bnd (ncV x0) fun v2 =>
 bnd (faV 59 v2) fun v3 =>
 bnd (stV 1 v3 (.bool true) h) fun h4 =>
 K (.tuple #[(.bool true), (.int .i64 1700)]) h4) (
 bnd (unV .not x6) fun v5 =>
 ifV v5 (
 K (.tuple #[(.bool false), (.int .i64 0)]) h) (
 bnd (ncV x0) fun v6 =>
 bnd (faV 55 v6) fun v7 =>
 bnd (ldV 1 false v7 h) fun v8 =>
 bnd (taV 113 (.pointer none) true v8) fun v9 =>
 bnd (exV v9 1) fun v10 =>
 bnd (exV v9 0) fun v11 =>
 ifV v10 (
 T Tryz.prog 47 [x0, v11] h fun v12 h13 =>
 bnd (ncV x0) fun v14 =>
 bnd (faV 59 v14) fun v15 =>
 bnd (ldV 1 false v15 h13) fun v16 =>
 K (.tuple #[v16, (.int .i64 0)]) h13) (
 bnd (taV 115 (.pointer none) true v8) fun v17 =>
 bnd (exV v17 1) fun v18 =>
 bnd (exV v17 0) fun v19 =>
 ifV v18 (
 bnd (ncV x0) fun v20 =>
 bnd (faV 0 v20) fun v21 =>
 bnd (ldV 1 false v21 h) fun v22 =>
 bnd (ncV x0) fun v23 =>
 bnd (faV 1 v23) fun v24 =>
 bnd (ldV 1 false v24 h) fun v25 =>
 bnd (ncV x0) fun v26 =>
 bnd (faV 2 v26) fun v27 =>
 bnd (ldV 2 true v27 h) fun v28 =>
 T Tryz.prog 49 [(.iface 97 v28)] h fun v29 h30 =>
 ldV 1 false v24 h30 = some v25 ∧
 ldV 1 false v21 h30 = some v22 ∧
 T Tryz.prog 48 [v22, v25, v29] h30 fun v31 h32 =>
 bnd (exV v31 0) fun v33 =>
 bnd (exV v31 1) fun v34 =>
 bnd (ncV x0) fun v35 =>
 bnd (faV 55 v35) fun v36 =>
 bnd (stV 1 v36 (.iface 116 v33) h32) fun h37 =>
 bnd (ncV x0) fun v38 =>
 bnd (faV 59 v38) fun v39 =>
 bnd (ldV 1 false v39 h37) fun v40 =>
 K (.tuple #[v40, (.int .i64 0)]) h37) (
 bnd (taV 116 (.pointer none) true v8) fun v41 =>
 bnd (exV v41 1) fun v42 =>
 bnd (exV v41 0) fun v43 =>
 ifV v42 (
 T Tryz.prog 50 [v43] h fun v44 h45 =>
 bnd (ncV x0) fun v46 =>
 bnd (faV 58 v46) fun v47 =>
 bnd (stV 1 v47 v44 h45) fun h48 =>
 bnd (ncV x0) fun v49 =>
 bnd (faV 59 v49) fun v50 =>
 bnd (stV 1 v50 (.bool true) h48) fun h51 =>
 bnd (ncV x0) fun v52 =>
 bnd (faV 59 v52) fun v53 =>
 bnd (ldV 1 false v53 h51) fun v54 =>
 K (.tuple #[v54, (.int .i64 0)]) h51) (
 bnd (ncV x0) fun v55 =>
 bnd (faV 59 v55) fun v56 =>
 bnd (ldV 1 false v56 h) fun v57 =>
 K (.tuple #[v57, (.int .i64 0)]) h)))))

def S15_j2 (x0 x1 : Value) (h : GH) (K : Value → GH → Prop)  : Prop :=
 bnd (ncV x0) fun v1 =>
 bnd (faV 55 v1) fun v2 =>
 bnd (ldV 1 false v2 h) fun v3 =>
 ivV Tryz.prog v3 "Step" [x1] h fun v4 h5 =>
 bnd (exV v4 0) fun v6 =>
 bnd (exV v4 1) fun v7 =>
 bnd (ncV x0) fun v8 =>
 bnd (faV 2 v8) fun v9 =>
 bnd (faV 0 v9) fun v10 =>
 bnd (ldV 1 false v10 h5) fun v11 =>
 bnd (ncV x0) fun v12 =>
 bnd (faV 2 v12) fun v13 =>
 bnd (faV 1 v13) fun v14 =>
 bnd (ldV 1 false v14 h5) fun v15 =>
 bnd (ncV x0) fun v16 =>
 bnd (faV 56 v16) fun v17 =>
 bnd (stV 1 v17 v11 h5) fun h18 =>
 bnd (ncV x0) fun v19 =>
 bnd (faV 57 v19) fun v20 =>
 bnd (stV 1 v20 v15 h18) fun h21 =>
 bnd (ncV x0) fun v22 =>
 bnd (faV 55 v22) fun v23 =>
 bnd (ldV 1 false v23 h21) fun v24 =>
 bnd (tiV Tryz.prog #[("Seq", 43), ("Step", 40), ("Through", 36)] .nilIface true v24) fun v25 =>
 bnd (exV v25 0) fun v26 =>
 bnd (exV v25 1) fun v27 =>
 ifV v27 (
 ivV Tryz.prog v26 "Through" [] h21 fun v28 h29 =>
 bnd (exV v28 0) fun v30 =>
 bnd (exV v28 1) fun v31 =>
 bnd (ncV x0) fun v32 =>
 bnd (faV 56 v32) fun v33 =>
 bnd (stV 1 v33 v30 h29) fun h34 =>
 bnd (ncV x0) fun v35 =>
 bnd (faV 57 v35) fun v36 =>
 bnd (stV 1 v36 v31 h34) fun h37 =>
 ivV Tryz.prog v26 "Seq" [] h37 fun v38 h39 =>
 bnd (ncV x0) fun v40 =>
 bnd (faV 1 v40) fun v41 =>
 bnd (stV 1 v41 v38 h39) fun h42 =>
 S15_j3 x0 v6 v7 h42 K ) (
 S15_j3 x0 v6 v7 h21 K )

def S15_j1 (x0 x1 x15 : Value) (h : GH) (K : Value → GH → Prop)  : Prop :=
 ifV x15 (
 K (.tuple #[(.bool false), (.int .i64 1)]) h) (
 bnd (ncV x0) fun v1 =>
 bnd (faV 59 v1) fun v2 =>
 bnd (ldV 1 false v2 h) fun v3 =>
 ifV v3 (
 K (.tuple #[(.bool true), (.int .i64 0)]) h) (
 S15_j2 x0 x1 h K ))
def S15 (a0 a1 : Value) (h : GH) (K : Value → GH → Prop) : Prop :=
 bnd (eqK .ptr true a0 (.pointer none)) fun b1 =>
 ifV (.bool b1) (
 S15_j1 a0 a1 (.bool true) h K ) (
 bnd (eqK .ptr true a1 (.pointer none)) fun b2 =>
 S15_j1 a0 a1 (.bool b2) h K )
def A15 : Ann := ⟨fun | 6 => ([0, 1, 2, 3, 4, 5, 6, 7, 8, 9, 10, 11, 12, 13, 14, 15, 16, 17], [0, 0, 0, 4, 12, 28, 60, 0, 128, 384, 896, 1920, 4093, 8189, 16381, 32767, 65535, 131071]) | 22 => ([0, 1, 2, 3, 4, 5, 6, 7, 8, 9, 10, 11, 12, 13, 14, 15, 16, 17, 18, 19], [0, 1, 3, 7, 0, 16, 48, 112, 0, 256, 768, 1792, 3840, 7936, 16383, 32767, 65535, 65535, 131071, 524287]) | _ => ([], []), fun _ => []⟩
theorem S15_T {a0 a1 : Value} {h : GH} {K : Value → GH → Prop} (g : S15 a0 a1 h K) : T Tryz.prog 15 [a0, a1] h K :=
  T_of_gwp (A := A15) Tryz.func15 (c := bodyOf Tryz.f15) (by kernel_rfl) (by kernel_rfl) (by kernel_rfl) (by kernel_rfl) (by kernel_rfl) (Eq.mp (by kernel_rfl) g)

/-! ### (*pawl/attempt.Attempt).Won (16) -/
def S16 (a0 : Value) (h : GH) (K : Value → GH → Prop) : Prop :=
 bnd (eqK .ptr true a0 (.pointer none)) fun b1 =>
 ifV (.bool (!b1)) (
 bnd (ncV a0) fun v2 =>
 bnd (faV 58 v2) fun v3 =>
 bnd (ldV 1 false v3 h) fun v4 =>
 K v4 h) (
 K (.bool false) h)
def A16 : Ann := ⟨fun _ => ([], []), fun _ => []⟩
theorem S16_T {a0 : Value} {h : GH} {K : Value → GH → Prop} (g : S16 a0 h K) : T Tryz.prog 16 [a0] h K :=
  T_of_gwp (A := A16) Tryz.func16 (c := bodyOf Tryz.f16) (by kernel_rfl) (by kernel_rfl) (by kernel_rfl) (by kernel_rfl) (by kernel_rfl) (Eq.mp (by kernel_rfl) g)

/-! ### (*pawl/attempt.Attempt).Answers (17) -/
def S17 (a0 : Value) (h : GH) (K : Value → GH → Prop) : Prop :=
 bnd (eqK .ptr true a0 (.pointer none)) fun b1 =>
 ifV (.bool b1) (
 K (.slice none 0 0) h) (
 bnd (ncV a0) fun v2 =>
 bnd (faV 60 v2) fun v3 =>
 bnd (ldV 1 false v3 h) fun v4 =>
 T Tryz.prog 51 [v4] h fun v5 h6 =>
 K v5 h6)
def A17 : Ann := ⟨fun _ => ([], []), fun _ => []⟩
theorem S17_T {a0 : Value} {h : GH} {K : Value → GH → Prop} (g : S17 a0 h K) : T Tryz.prog 17 [a0] h K :=
  T_of_gwp (A := A17) Tryz.func17 (c := bodyOf Tryz.f17) (by kernel_rfl) (by kernel_rfl) (by kernel_rfl) (by kernel_rfl) (by kernel_rfl) (Eq.mp (by kernel_rfl) g)

/-! ### (*pawl/attempt.Attempt).Seq (18) -/
def S18 (a0 : Value) (h : GH) (K : Value → GH → Prop) : Prop :=
 bnd (eqK .ptr true a0 (.pointer none)) fun b1 =>
 ifV (.bool b1) (
 K (.int .i64 0) h) (
 bnd (ncV a0) fun v2 =>
 bnd (faV 1 v2) fun v3 =>
 bnd (ldV 1 false v3 h) fun v4 =>
 K v4 h)
def A18 : Ann := ⟨fun _ => ([], []), fun _ => []⟩
theorem S18_T {a0 : Value} {h : GH} {K : Value → GH → Prop} (g : S18 a0 h K) : T Tryz.prog 18 [a0] h K :=
  T_of_gwp (A := A18) Tryz.func18 (c := bodyOf Tryz.f18) (by kernel_rfl) (by kernel_rfl) (by kernel_rfl) (by kernel_rfl) (by kernel_rfl) (Eq.mp (by kernel_rfl) g)

/-! ### pawl/pawlref1.Full (19) -/
def S19_j1 (s10 : Nat → Value) (x0 x2 x4 x5 : Value) (h : GH) (K : Value → GH → Prop) (again12 : (Nat → Value) → GH → Prop) : Prop :=
 bnd (faV 0 x4) fun v1 =>
 bnd (iaV 16 1 v1 x5) fun v2 =>
 bnd (stV 1 v2 (.bool true) h) fun h3 =>
 bnd (isV 1 x0 x5) fun v4 =>
 bnd (ldV 1 false v4 h3) fun v5 =>
 bnd (faV 16 x4) fun v6 =>
 bnd (iaV 16 1 v6 x5) fun v7 =>
 bnd (stV 1 v7 v5 h3) fun h8 =>
 bnd (isV 1 x0 x5) fun v9 =>
 bnd (ldV 1 false v9 h8) fun v10 =>
 bnd (faV 32 x4) fun v11 =>
 bnd (iaV 16 1 v11 x5) fun v12 =>
 bnd (stV 1 v12 v10 h8) fun h13 =>
 bnd (binV .add x5 (.int .i64 1)) fun v14 =>
 again12 (tup [x0, x2, x4, v14]) h13
def S19 (a0 : Value) (h : GH) (K : Value → GH → Prop) : Prop :=
 newV 50 (List.replicate 16 (.bool false) ++ List.replicate 32 (.int .i64 0)) h fun v1 h2 =>
 newV 50 (List.replicate 16 (.bool false) ++ List.replicate 32 (.int .i64 0)) h2 fun v3 h4 =>
 bnd (lnV a0) fun v5 =>
 bnd (eqI v5 (.int .i64 16)) fun b6 =>
 ifV (.bool (!b6)) (
 bnd (ldV 48 true v3 h4) fun v7 =>
 bnd (stV 48 v1 v7 h4) fun h8 =>
 bnd (ldV 48 true v1 h8) fun v9 =>
 K (.tuple #[v9, (.int .i64 400)]) h8) (
 Lfp (fun (s10 : Nat → Value) h11 again12 =>
 bnd (binV .lss (s10 3) (.int .i64 16)) fun v13 =>
 ifV v13 (
 bnd (isV 1 (s10 0) (s10 3)) fun v14 =>
 bnd (ldV 1 false v14 h11) fun v15 =>
 bnd (binV .lss v15 (.int .i64 0)) fun v16 =>
 ifV v16 (
 bnd (fillV (List.replicate 16 (.bool false) ++ List.replicate 32 (.int .i64 0)) []) fun c17 =>
 bnd (stV 48 (s10 1) (.agg c17.toArray) h11) fun h18 =>
 bnd (ldV 48 true (s10 1) h18) fun v19 =>
 K (.tuple #[v19, (.int .i64 400)]) h18) (
 bnd (isV 1 (s10 0) (s10 3)) fun v20 =>
 bnd (ldV 1 false v20 h11) fun v21 =>
 bnd (binV .gtr v21 (.int .i64 1099511627775)) fun v22 =>
 ifV v22 (
 bnd (fillV (List.replicate 16 (.bool false) ++ List.replicate 32 (.int .i64 0)) []) fun c23 =>
 bnd (stV 48 (s10 1) (.agg c23.toArray) h11) fun h24 =>
 bnd (ldV 48 true (s10 1) h24) fun v25 =>
 K (.tuple #[v25, (.int .i64 400)]) h24) (
 S19_j1 s10 (s10 0) (s10 1) (s10 2) (s10 3) h11 K again12))) (
 bnd (ldV 48 true (s10 2) h11) fun v26 =>
 bnd (stV 48 (s10 1) v26 h11) fun h27 =>
 bnd (ldV 48 true (s10 1) h27) fun v28 =>
 K (.tuple #[v28, (.int .i64 0)]) h27)) (tup [a0, v1, v3, (.int .i64 0)]) h4)
def A19 : Ann := ⟨fun _ => ([], []), fun | 0 => [0, 2, 4, 5] | _ => []⟩
theorem S19_T {a0 : Value} {h : GH} {K : Value → GH → Prop} (g : S19 a0 h K) : T Tryz.prog 19 [a0] h K :=
  T_of_gwp (A := A19) Tryz.func19 (c := bodyOf Tryz.f19) (by kernel_rfl) (by kernel_rfl) (by kernel_rfl) (by kernel_rfl) (by kernel_rfl) (Eq.mp (by kernel_rfl) g)

/-! ### pawl/pawlref1.Body (20) -/
def S20_j2 (s1 : Nat → Value) (x1 x2 x4 x7 : Value) (h : GH) (K : Value → GH → Prop) (again3 : (Nat → Value) → GH → Prop) : Prop :=
 bnd (isV 4 x1 x7) fun v1 =>
 bnd (ldV 4 true v1 h) fun v2 =>
 T Tryz.prog 53 [v2] h fun v3 h4 =>
 bnd (binV .add x7 (.int .i64 1)) fun v5 =>
 again3 (tup [x1, x2, x4, v3, v5]) h4

def S20_j3 (s1 : Nat → Value) (x1 x2 x4 x6 : Value) (h : GH) (K : Value → GH → Prop) (again3 : (Nat → Value) → GH → Prop) : Prop :=
 bnd (unV .not x6) fun v1 =>
 ifV v1 (
 bnd (fillV ([(.int .i64 0)] ++ List.replicate 16 (.bool false) ++ List.replicate 32 (.int .i64 0) ++ [(.slice none 0 0)]) []) fun c2 =>
 bnd (stV 50 x4 (.agg c2.toArray) h) fun h3 =>
 bnd (ldV 50 true x4 h3) fun v4 =>
 K (.tuple #[v4, (.int .i64 700)]) h3) (
 bnd (ldV 48 true x2 h) fun v5 =>
 newV 50 (List.replicate 16 (.bool false) ++ List.replicate 32 (.int .i64 0)) h fun v6 h7 =>
 bnd (stV 48 v6 v5 h7) fun h8 =>
 Lfp (fun (s9 : Nat → Value) h10 again11 =>
 bnd (lnV (s9 0)) fun v12 =>
 bnd (binV .lss (s9 5) v12) fun v13 =>
 ifV v13 (
 bnd (ldV 48 true (s9 3) h10) fun v14 =>
 bnd (isV 4 (s9 0) (s9 5)) fun v15 =>
 bnd (ldV 4 true v15 h10) fun v16 =>
 T Tryz.prog 54 [v14, v16] h10 fun v17 h18 =>
 newV 54 ([(.int .i64 0)] ++ List.replicate 16 (.bool false) ++ List.replicate 32 (.int .i64 0) ++ [(.slice none 0 0)]) h18 fun v19 h20 =>
 bnd (stV 50 v19 v17 h20) fun h21 =>
 bnd (faV 0 v19) fun v22 =>
 bnd (ldV 1 false v22 h21) fun v23 =>
 bnd (binV .geq v23 (.int .i64 0)) fun v24 =>
 ifV v24 (
 bnd (faV 0 v19) fun v25 =>
 bnd (ldV 1 false v25 h21) fun v26 =>
 bnd (ldV 48 true (s9 1) h21) fun v27 =>
 bnd (fillV ([(.int .i64 0)] ++ List.replicate 16 (.bool false) ++ List.replicate 32 (.int .i64 0) ++ [(.slice none 0 0)]) [(0, 1, v26), (1, 48, v27)]) fun c28 =>
 bnd (stV 50 (s9 2) (.agg c28.toArray) h21) fun h29 =>
 bnd (ldV 50 true (s9 2) h29) fun v30 =>
 K (.tuple #[v30, (.int .i64 0)]) h29) (
 bnd (faV 49 v19) fun v31 =>
 bnd (ldV 1 false v31 h21) fun v32 =>
 apV 64 2 16 (s9 4) v32 h21 fun v33 h34 =>
 bnd (faV 49 v19) fun v35 =>
 bnd (ldV 1 false v35 h34) fun v36 =>
 bnd (isV 2 v36 (.int .i64 0)) fun v37 =>
 bnd (faV 0 v37) fun v38 =>
 bnd (ldV 1 false v38 h34) fun v39 =>
 bnd (eqI v39 (.int .i64 0)) fun b40 =>
 ifV (.bool (!b40)) (
 bnd (ldV 48 true (s9 1) h34) fun v41 =>
 bnd (fillV ([(.int .i64 0)] ++ List.replicate 16 (.bool false) ++ List.replicate 32 (.int .i64 0) ++ [(.slice none 0 0)]) [(0, 1, (.int .i64 (-1))), (1, 48, v41), (49, 1, v33)]) fun c42 =>
 bnd (stV 50 (s9 2) (.agg c42.toArray) h34) fun h43 =>
 bnd (ldV 50 true (s9 2) h43) fun v44 =>
 K (.tuple #[v44, (.int .i64 0)]) h43) (
 bnd (faV 1 v19) fun v45 =>
 bnd (ldV 48 true v45 h34) fun v46 =>
 bnd (stV 48 (s9 3) v46 h34) fun h47 =>
 bnd (binV .add (s9 5) (.int .i64 1)) fun v48 =>
 again11 (tup [(s9 0), (s9 1), (s9 2), (s9 3), v33, v48]) h47))) (
 bnd (ldV 48 true (s9 3) h10) fun v49 =>
 bnd (fillV ([(.int .i64 0)] ++ List.replicate 16 (.bool false) ++ List.replicate 32 (.int .i64 0) ++ [(.slice none 0 0)]) [(0, 1, (.int .i64 (-1))), (1, 48, v49), (49, 1, (s9 4))]) fun c50 =>
 bnd (stV 50 (s9 2) (.agg c50.toArray) h10) fun h51 =>
 bnd (ldV 50 true (s9 2) h51) fun v52 =>
 K (.tuple #[v52, (.int .i64 0)]) h51)) (tup [x1, x2, x4, v6, (.slice none 0 0), (.int .i64 0)]) h8)

def S20_j1 (x1 x2 x4 x6 : Value) (h : GH) (K : Value → GH → Prop)  : Prop :=
 Lfp (fun (s1 : Nat → Value) h2 again3 =>
 bnd (lnV (s1 0)) fun v4 =>
 bnd (binV .lss (s1 4) v4) fun v5 =>
 ifV v5 (
 ifV (s1 3) (
 S20_j2 s1 (s1 0) (s1 1) (s1 2) (s1 4) h2 K again3) (
 S20_j3 s1 (s1 0) (s1 1) (s1 2) (s1 3) h2 K again3)) (
 S20_j3 s1 (s1 0) (s1 1) (s1 2) (s1 3) h2 K again3)) (tup [x1, x2, x4, x6, (.int .i64 0)]) h
def S20 (a0 a1 : Value) (h : GH) (K : Value → GH → Prop) : Prop :=
 newV 50 (a0 : Value).cells.toList h fun v1 h2 =>
 newV 54 ([(.int .i64 0)] ++ List.replicate 16 (.bool false) ++ List.replicate 32 (.int .i64 0) ++ [(.slice none 0 0)]) h2 fun v3 h4 =>
 bnd (ldV 48 true v1 h4) fun v5 =>
 T Tryz.prog 52 [v5] h4 fun v6 h7 =>
 ifV v6 (
 bnd (lnV a1) fun v8 =>
 bnd (binV .geq v8 (.int .i64 1)) fun v9 =>
 ifV v9 (
 bnd (lnV a1) fun v10 =>
 bnd (binV .leq v10 (.int .i64 2)) fun v11 =>
 S20_j1 a1 v1 v3 v11 h7 K ) (
 S20_j1 a1 v1 v3 (.bool false) h7 K )) (
 S20_j1 a1 v1 v3 (.bool false) h7 K )
def A20 : Ann := ⟨fun | 13 => ([0, 1, 2, 3, 4, 5, 6, 7], [0, 0, 0, 6, 14, 31, 0, 127]) | _ => ([], []), fun | 0 => [1, 2, 4, 6, 7] | 2 => [1, 2, 4, 8, 9, 10] | _ => []⟩
theorem S20_T {a0 a1 : Value} {h : GH} {K : Value → GH → Prop} (g : S20 a0 a1 h K) : T Tryz.prog 20 [a0, a1] h K :=
  T_of_gwp (A := A20) Tryz.func20 (c := bodyOf Tryz.f20) (by kernel_rfl) (by kernel_rfl) (by kernel_rfl) (by kernel_rfl) (by kernel_rfl) (Eq.mp (by kernel_rfl) g)

/-! ### (*pawl/arena.Arena).All (21) -/
def S21 (a0 : Value) (h : GH) (K : Value → GH → Prop) : Prop :=
 bnd (eqK .ptr true a0 (.pointer none)) fun b1 =>
 ifV (.bool b1) (
 K (.slice none 0 0) h) (
 bnd (ncV a0) fun v2 =>
 bnd (faV 0 v2) fun v3 =>
 bnd (saV 634 1 v3 none none) fun v4 =>
 T Tryz.prog 55 [v4] h fun v5 h6 =>
 K v5 h6)
def A21 : Ann := ⟨fun _ => ([], []), fun _ => []⟩
theorem S21_T {a0 : Value} {h : GH} {K : Value → GH → Prop} (g : S21 a0 h K) : T Tryz.prog 21 [a0] h K :=
  T_of_gwp (A := A21) Tryz.func21 (c := bodyOf Tryz.f21) (by kernel_rfl) (by kernel_rfl) (by kernel_rfl) (by kernel_rfl) (by kernel_rfl) (Eq.mp (by kernel_rfl) g)

/-! ### pawl/pawllaw0.SameAnswers (22) -/
def S22 (a0 a1 : Value) (h : GH) (K : Value → GH → Prop) : Prop :=
 bnd (lnV a0) fun v1 =>
 bnd (lnV a1) fun v2 =>
 bnd (eqI v1 v2) fun b3 =>
 ifV (.bool (!b3)) (
 K (.bool false) h) (
 Lfp (fun (s4 : Nat → Value) h5 again6 =>
 bnd (lnV (s4 0)) fun v7 =>
 bnd (binV .lss (s4 2) v7) fun v8 =>
 ifV v8 (
 bnd (isV 2 (s4 0) (s4 2)) fun v9 =>
 bnd (ldV 2 true v9 h5) fun v10 =>
 bnd (isV 2 (s4 1) (s4 2)) fun v11 =>
 bnd (ldV 2 true v11 h5) fun v12 =>
 bnd (eqP Tryz.prog 10000 64 v10 v12) fun b13 =>
 ifV (.bool (!b13)) (
 K (.bool false) h5) (
 bnd (binV .add (s4 2) (.int .i64 1)) fun v14 =>
 again6 (tup [(s4 0), (s4 1), v14]) h5)) (
 K (.bool true) h5)) (tup [a0, a1, (.int .i64 0)]) h)
def A22 : Ann := ⟨fun | 6 => ([0, 1, 2, 3, 4, 5, 6, 7, 8], [0, 0, 3, 7, 0, 0, 48, 112, 255]) | _ => ([], []), fun | 0 => [0, 1, 5] | _ => []⟩
theorem S22_T {a0 a1 : Value} {h : GH} {K : Value → GH → Prop} (g : S22 a0 a1 h K) : T Tryz.prog 22 [a0, a1] h K :=
  T_of_gwp (A := A22) Tryz.func22 (c := bodyOf Tryz.f22) (by kernel_rfl) (by kernel_rfl) (by kernel_rfl) (by kernel_rfl) (by kernel_rfl) (Eq.mp (by kernel_rfl) g)

/-! ### pawl/pawllaw17.row (23) -/
def S23_j2 (x1 x17 x18 : Value) (h : GH) (K : Value → GH → Prop)  : Prop :=
 Lfp (fun (s1 : Nat → Value) h2 again3 =>
 bnd (binV .lss (s1 3) (.int .i64 16)) fun v4 =>
 ifV v4 (
 bnd (isV 1 (s1 0) (s1 3)) fun v5 =>
 bnd (ldV 1 false v5 h2) fun v6 =>
 bnd (faV 32 (s1 1)) fun v7 =>
 bnd (iaV 16 1 v7 (s1 3)) fun v8 =>
 bnd (ldV 1 false v8 h2) fun v9 =>
 bnd (binV .mul (.int .i64 4) v9) fun v10 =>
 bnd (eqI v6 v10) fun b11 =>
 ifV (.bool (!b11)) (
 K (.bool false) h2) (
 bnd (binV .add (s1 3) (.int .i64 1)) fun v12 =>
 again3 (tup [(s1 0), (s1 1), (s1 2), v12]) h2)) (
 bnd (eqI (s1 2) (.int .i64 0)) fun b13 =>
 K (.bool b13) h2)) (tup [x1, x17, x18, (.int .i64 0)]) h

def S23_j1 (x1 x5 x6 x7 x17 x18 : Value) (h : GH) (K : Value → GH → Prop)  : Prop :=
 ifV x5 (
 bnd (ldV 48 true x17 h) fun v1 =>
 T Tryz.prog 20 [v1, x6] h fun v2 h3 =>
 bnd (exV v2 0) fun v4 =>
 bnd (exV v2 1) fun v5 =>
 newV 54 ([(.int .i64 0)] ++ List.replicate 16 (.bool false) ++ List.replicate 32 (.int .i64 0) ++ [(.slice none 0 0)]) h3 fun v6 h7 =>
 bnd (stV 50 v6 v4 h7) fun h8 =>
 bnd (eqI v5 (.int .i64 0)) fun b9 =>
 ifV (.bool (!b9)) (
 K (.bool false) h8) (
 bnd (faV 49 v6) fun v10 =>
 bnd (ldV 1 false v10 h8) fun v11 =>
 T Tryz.prog 22 [v11, x7] h8 fun v12 h13 =>
 bnd (unV .not v12) fun v14 =>
 ifV v14 (
 K (.bool false) h13) (
 bnd (faV 1 v6) fun v15 =>
 bnd (ldV 48 true v15 h13) fun v16 =>
 bnd (stV 48 x17 v16 h13) fun h17 =>
 S23_j2 x1 x17 x18 h17 K ))) (
 S23_j2 x1 x17 x18 h K )
def S23 (a0 a1 a2 a3 a4 a5 a6 a7 : Value) (h : GH) (K : Value → GH → Prop) : Prop :=
 T Tryz.prog 19 [a0] h fun v1 h2 =>
 bnd (exV v1 0) fun v3 =>
 bnd (exV v1 1) fun v4 =>
 newV 50 (List.replicate 16 (.bool false) ++ List.replicate 32 (.int .i64 0)) h2 fun v5 h6 =>
 bnd (stV 48 v5 v3 h6) fun h7 =>
 ifV a2 (
 bnd (ldV 48 true v5 h7) fun v8 =>
 T Tryz.prog 20 [v8, a3] h7 fun v9 h10 =>
 bnd (exV v9 0) fun v11 =>
 bnd (exV v9 1) fun v12 =>
 newV 54 ([(.int .i64 0)] ++ List.replicate 16 (.bool false) ++ List.replicate 32 (.int .i64 0) ++ [(.slice none 0 0)]) h10 fun v13 h14 =>
 bnd (stV 50 v13 v11 h14) fun h15 =>
 bnd (eqI v12 (.int .i64 0)) fun b16 =>
 ifV (.bool (!b16)) (
 K (.bool false) h15) (
 bnd (faV 49 v13) fun v17 =>
 bnd (ldV 1 false v17 h15) fun v18 =>
 T Tryz.prog 22 [v18, a4] h15 fun v19 h20 =>
 bnd (unV .not v19) fun v21 =>
 ifV v21 (
 K (.bool false) h20) (
 bnd (faV 1 v13) fun v22 =>
 bnd (ldV 48 true v22 h20) fun v23 =>
 bnd (stV 48 v5 v23 h20) fun h24 =>
 S23_j1 a1 a5 a6 a7 v5 v4 h24 K ))) (
 S23_j1 a1 a5 a6 a7 v5 v4 h7 K )
def A23 : Ann := ⟨fun | 15 => ([0, 1, 2, 3, 4, 5, 6, 7, 8, 9], [0, 0, 3, 7, 0, 0, 48, 112, 240, 511]) | _ => ([], []), fun | 0 => [1, 17, 18, 23] | _ => []⟩
theorem S23_T {a0 a1 a2 a3 a4 a5 a6 a7 : Value} {h : GH} {K : Value → GH → Prop} (g : S23 a0 a1 a2 a3 a4 a5 a6 a7 h K) : T Tryz.prog 23 [a0, a1, a2, a3, a4, a5, a6, a7] h K :=
  T_of_gwp (A := A23) Tryz.func23 (c := bodyOf Tryz.f23) (by kernel_rfl) (by kernel_rfl) (by kernel_rfl) (by kernel_rfl) (by kernel_rfl) (Eq.mp (by kernel_rfl) g)

/-! ### (*pawl/arena.Arena).Load (24) -/
def S24 (a0 a1 : Value) (h : GH) (K : Value → GH → Prop) : Prop :=
 T Tryz.prog 45 [a0, (.int .i64 0), a1, (.func (.func 56) #[] #[])] h fun v1 h2 =>
 bnd (exV v1 0) fun v3 =>
 bnd (exV v1 1) fun v4 =>
 K (.tuple #[v3, v4]) h2
def A24 : Ann := ⟨fun _ => ([], []), fun _ => []⟩
theorem S24_T {a0 a1 : Value} {h : GH} {K : Value → GH → Prop} (g : S24 a0 a1 h K) : T Tryz.prog 24 [a0, a1] h K :=
  T_of_gwp (A := A24) Tryz.func24 (c := bodyOf Tryz.f24) (by kernel_rfl) (by kernel_rfl) (by kernel_rfl) (by kernel_rfl) (by kernel_rfl) (Eq.mp (by kernel_rfl) g)

/-! ### pawl/pawllaw0.LendOps (25) -/
def S25 (a0 : Value) (h : GH) (K : Value → GH → Prop) : Prop :=
 T Tryz.prog 57 [a0] h fun v1 h2 =>
 bnd (fillV [(.int .i64 0), (.int .i64 0), (.int .i64 0), (.int .i64 0)] [(3, 1, (.int .i64 77777))]) fun c3 =>
 bnd (fillV [(.int .i64 0), (.int .i64 0), (.int .i64 0), (.int .i64 0)] [(3, 1, (.int .i64 77777))]) fun c4 =>
 bsV 24 2 [(.int .i64 0), (.int .i64 0), (.int .i64 0), (.int .i64 0), (.int .i64 0), (.int .i64 0), (.int .i64 0), (.int .i64 0)] [(0, 4, (.agg c3.toArray)), (4, 4, (.agg c4.toArray))] h2 fun v5 h6 =>
 apV 24 4 32 v1 v5 h6 fun v7 h8 =>
 bnd (lnV a0) fun v9 =>
 bnd (slV 4 v7 none (some v9)) fun v10 =>
 K v10 h8
def A25 : Ann := ⟨fun _ => ([], []), fun _ => []⟩
theorem S25_T {a0 : Value} {h : GH} {K : Value → GH → Prop} (g : S25 a0 h K) : T Tryz.prog 25 [a0] h K :=
  T_of_gwp (A := A25) Tryz.func25 (c := bodyOf Tryz.f25) (by kernel_rfl) (by kernel_rfl) (by kernel_rfl) (by kernel_rfl) (by kernel_rfl) (Eq.mp (by kernel_rfl) g)

/-! ### pawl/pawlref10.NewAttempt (26) -/
def S26_j1 (x0 x1 x2 x3 x4 x12 : Value) (h : GH) (K : Value → GH → Prop)  : Prop :=
 bsV 24 0 [] [] h fun v1 h2 =>
 apV 24 4 32 v1 x4 h2 fun v3 h4 =>
 bnd (fillV ([(.int .i64 0), (.int .i64 0), (.int .i64 0), (.int .i64 0), (.slice none 0 0)] ++ List.replicate 16 (.bool false) ++ List.replicate 32 (.int .i64 0) ++ [(.pointer none), (.pointer none), (.pointer none), (.slice none 0 0), (.bool false), (.bool false), (.int .i64 0), (.int .i64 0)]) [(0, 1, x0), (1, 1, x1), (2, 1, x2), (3, 1, x3), (4, 1, v3), (59, 1, (.int .i64 (-1)))]) fun c5 =>
 newV 84 ((.agg c5.toArray) : Value).cells.toList h4 fun v6 h7 =>
 bnd (faV 0 x12) fun v8 =>
 bnd (ldV 1 false v8 h7) fun v9 =>
 T Tryz.prog 60 [x0, x1, v9] h7 fun v10 h11 =>
 bnd (exV v10 0) fun v12 =>
 bnd (exV v10 1) fun v13 =>
 bnd (ncV v6) fun v14 =>
 bnd (faV 53 v14) fun v15 =>
 bnd (stV 1 v15 v12 h11) fun h16 =>
 K (.tuple #[v6, (.int .i64 0)]) h16
def S26 (a0 a1 a2 a3 a4 : Value) (h : GH) (K : Value → GH → Prop) : Prop :=
 bnd (fillV (List.replicate 16 (.bool false) ++ List.replicate 32 (.int .i64 0)) []) fun c1 =>
 T Tryz.prog 20 [(.agg c1.toArray), a4] h fun v2 h3 =>
 bnd (exV v2 0) fun v4 =>
 bnd (exV v2 1) fun v5 =>
 newV 54 ([(.int .i64 0)] ++ List.replicate 16 (.bool false) ++ List.replicate 32 (.int .i64 0) ++ [(.slice none 0 0)]) h3 fun v6 h7 =>
 bnd (stV 50 v6 v4 h7) fun h8 =>
 T Tryz.prog 58 [a0] h8 fun v9 h10 =>
 bnd (unV .not v9) fun v11 =>
 ifV v11 (
 K (.tuple #[(.pointer none), (.int .i64 1700)]) h10) (
 bnd (binV .lss a1 (.int .i64 0)) fun v12 =>
 ifV v12 (
 K (.tuple #[(.pointer none), (.int .i64 1700)]) h10) (
 bnd (binV .gtr a1 (.int .i64 1048575)) fun v13 =>
 ifV v13 (
 K (.tuple #[(.pointer none), (.int .i64 1700)]) h10) (
 T Tryz.prog 59 [a2, a3] h10 fun v14 h15 =>
 bnd (unV .not v14) fun v16 =>
 ifV v16 (
 K (.tuple #[(.pointer none), (.int .i64 1700)]) h15) (
 bnd (eqI v5 (.int .i64 0)) fun b17 =>
 ifV (.bool (!b17)) (
 K (.tuple #[(.pointer none), (.int .i64 1700)]) h15) (
 S26_j1 a0 a1 a2 a3 a4 v6 h15 K )))))
def A26 : Ann := ⟨fun _ => ([], []), fun _ => []⟩
theorem S26_T {a0 a1 a2 a3 a4 : Value} {h : GH} {K : Value → GH → Prop} (g : S26 a0 a1 a2 a3 a4 h K) : T Tryz.prog 26 [a0, a1, a2, a3, a4] h K :=
  T_of_gwp (A := A26) Tryz.func26 (c := bodyOf Tryz.f26) (by kernel_rfl) (by kernel_rfl) (by kernel_rfl) (by kernel_rfl) (by kernel_rfl) (Eq.mp (by kernel_rfl) g)

/-! ### pawl/pawllaw0.KeptOps (27) -/
def S27 (a0 a1 : Value) (h : GH) (K : Value → GH → Prop) : Prop :=
 bnd (lnV a0) fun v1 =>
 bnd (binV .add v1 (.int .i64 2)) fun v2 =>
 bnd (slV 4 a0 none (some v2)) fun v3 =>
 T Tryz.prog 61 [a0, a1] h fun v4 h5 =>
 ifV v4 (
 bnd (lnV a1) fun v6 =>
 bnd (isV 4 v3 v6) fun v7 =>
 bnd (ldV 4 true v7 h5) fun v8 =>
 bnd (fillV [(.int .i64 0), (.int .i64 0), (.int .i64 0), (.int .i64 0)] [(3, 1, (.int .i64 77777))]) fun c9 =>
 bnd (eqP Tryz.prog 10000 24 v8 (.agg c9.toArray)) fun b10 =>
 ifV (.bool b10) (
 bnd (lnV a1) fun v11 =>
 bnd (binV .add v11 (.int .i64 1)) fun v12 =>
 bnd (isV 4 v3 v12) fun v13 =>
 bnd (ldV 4 true v13 h5) fun v14 =>
 bnd (fillV [(.int .i64 0), (.int .i64 0), (.int .i64 0), (.int .i64 0)] [(3, 1, (.int .i64 77777))]) fun c15 =>
 bnd (eqP Tryz.prog 10000 24 v14 (.agg c15.toArray)) fun b16 =>
 K (.bool b16) h5) (
 K (.bool false) h5)) (
 K (.bool false) h5)
def A27 : Ann := ⟨fun _ => ([], []), fun _ => []⟩
theorem S27_T {a0 a1 : Value} {h : GH} {K : Value → GH → Prop} (g : S27 a0 a1 h K) : T Tryz.prog 27 [a0, a1] h K :=
  T_of_gwp (A := A27) Tryz.func27 (c := bodyOf Tryz.f27) (by kernel_rfl) (by kernel_rfl) (by kernel_rfl) (by kernel_rfl) (by kernel_rfl) (Eq.mp (by kernel_rfl) g)

/-! ### pawl/pawllaw0.SpoilOps (28) -/
def S28 (a0 : Value) (h : GH) (K : Value → GH → Prop) : Prop :=
 Lfp (fun (s1 : Nat → Value) h2 again3 =>
 bnd (lnV (s1 0)) fun v4 =>
 bnd (binV .lss (s1 1) v4) fun v5 =>
 ifV v5 (
 bnd (isV 4 (s1 0) (s1 1)) fun v6 =>
 bnd (faV 3 v6) fun v7 =>
 bnd (ldV 1 false v7 h2) fun v8 =>
 bnd (binV .xor v8 (.int .i64 90)) fun v9 =>
 bnd (isV 4 (s1 0) (s1 1)) fun v10 =>
 bnd (faV 3 v10) fun v11 =>
 bnd (stV 1 v11 v9 h2) fun h12 =>
 bnd (binV .add (s1 1) (.int .i64 1)) fun v13 =>
 again3 (tup [(s1 0), v13]) h12) (
 K (.tuple #[]) h2)) (tup [a0, (.int .i64 0)]) h
def A28 : Ann := ⟨fun _ => ([], []), fun | 0 => [0, 2] | _ => []⟩
theorem S28_T {a0 : Value} {h : GH} {K : Value → GH → Prop} (g : S28 a0 h K) : T Tryz.prog 28 [a0] h K :=
  T_of_gwp (A := A28) Tryz.func28 (c := bodyOf Tryz.f28) (by kernel_rfl) (by kernel_rfl) (by kernel_rfl) (by kernel_rfl) (by kernel_rfl) (Eq.mp (by kernel_rfl) g)

/-! ### (*pawl/pawlref10.Attempt).Step (29) -/
def S29 (a0 a1 : Value) (h : GH) (K : Value → GH → Prop) : Prop :=
 bnd (ncV a0) fun v1 =>
 bnd (faV 58 v1) fun v2 =>
 bnd (ldV 1 false v2 h) fun v3 =>
 ifV v3 (
 K (.tuple #[(.bool true), (.int .i64 0)]) h) (
 bnd (ncV a0) fun v4 =>
 bnd (faV 53 v4) fun v5 =>
 bnd (ldV 1 false v5 h) fun v6 =>
 bnd (eqK .ptr true v6 (.pointer none)) fun b7 =>
 ifV (.bool (!b7)) (
 T Tryz.prog 62 [a0, a1] h fun v8 h9 =>
 bnd (exV v8 0) fun v10 =>
 bnd (exV v8 1) fun v11 =>
 K (.tuple #[v10, v11]) h9) (
 bnd (ncV a0) fun v12 =>
 bnd (faV 54 v12) fun v13 =>
 bnd (ldV 1 false v13 h) fun v14 =>
 bnd (eqK .ptr true v14 (.pointer none)) fun b15 =>
 ifV (.bool (!b15)) (
 bnd (ncV a0) fun v16 =>
 bnd (faV 54 v16) fun v17 =>
 bnd (ldV 1 false v17 h) fun v18 =>
 T Tryz.prog 43 [v18, a1] h fun v19 h20 =>
 bnd (exV v19 0) fun v21 =>
 bnd (exV v19 1) fun v22 =>
 bnd (ncV a0) fun v23 =>
 bnd (faV 2 v23) fun v24 =>
 bnd (ldV 1 false v24 h20) fun v25 =>
 bnd (ncV a0) fun v26 =>
 bnd (faV 59 v26) fun v27 =>
 bnd (stV 1 v27 v25 h20) fun h28 =>
 bnd (ncV a0) fun v29 =>
 bnd (faV 3 v29) fun v30 =>
 bnd (ldV 1 false v30 h28) fun v31 =>
 bnd (ncV a0) fun v32 =>
 bnd (faV 60 v32) fun v33 =>
 bnd (stV 1 v33 v31 h28) fun h34 =>
 ifV v21 (
 bnd (ncV a0) fun v35 =>
 bnd (faV 2 v35) fun v36 =>
 bnd (ldV 1 false v36 h34) fun v37 =>
 bnd (ncV a0) fun v38 =>
 bnd (faV 3 v38) fun v39 =>
 bnd (ldV 1 false v39 h34) fun v40 =>
 bnd (fillV [(.int .i64 0), (.int .i64 0), (.int .i64 0), (.int .i64 0), (.int .i64 0), (.int .i64 0), (.int .i64 0)] [(0, 1, (.int .i64 2)), (2, 1, v37), (3, 1, v40)]) fun c41 =>
 T Tryz.prog 63 [(.agg c41.toArray)] h34 fun v42 h43 =>
 bnd (exV v42 0) fun v44 =>
 bnd (exV v42 1) fun v45 =>
 bnd (ncV a0) fun v46 =>
 bnd (faV 0 v46) fun v47 =>
 bnd (ldV 1 false v47 h43) fun v48 =>
 bnd (ncV a0) fun v49 =>
 bnd (faV 1 v49) fun v50 =>
 bnd (ldV 1 false v50 h43) fun v51 =>
 T Tryz.prog 64 [v48, v51, v44] h43 fun v52 h53 =>
 bnd (exV v52 0) fun v54 =>
 bnd (exV v52 1) fun v55 =>
 bnd (ncV a0) fun v56 =>
 bnd (faV 54 v56) fun v57 =>
 bnd (stV 1 v57 (.pointer none) h53) fun h58 =>
 bnd (ncV a0) fun v59 =>
 bnd (faV 55 v59) fun v60 =>
 bnd (stV 1 v60 v54 h58) fun h61 =>
 K (.tuple #[(.bool false), (.int .i64 0)]) h61) (
 K (.tuple #[(.bool false), (.int .i64 0)]) h34)) (
 bnd (ncV a0) fun v62 =>
 bnd (faV 55 v62) fun v63 =>
 bnd (ldV 1 false v63 h) fun v64 =>
 T Tryz.prog 65 [v64, a1] h fun v65 h66 =>
 bnd (exV v65 0) fun v67 =>
 bnd (exV v65 1) fun v68 =>
 bnd (ncV a0) fun v69 =>
 bnd (faV 55 v69) fun v70 =>
 bnd (ldV 1 false v70 h66) fun v71 =>
 T Tryz.prog 66 [v71] h66 fun v72 h73 =>
 bnd (exV v72 0) fun v74 =>
 bnd (exV v72 1) fun v75 =>
 bnd (ncV a0) fun v76 =>
 bnd (faV 59 v76) fun v77 =>
 bnd (stV 1 v77 v74 h73) fun h78 =>
 bnd (ncV a0) fun v79 =>
 bnd (faV 60 v79) fun v80 =>
 bnd (stV 1 v80 v75 h78) fun h81 =>
 bnd (ncV a0) fun v82 =>
 bnd (faV 55 v82) fun v83 =>
 bnd (ldV 1 false v83 h81) fun v84 =>
 bnd (ncV v84) fun v85 =>
 bnd (faV 1 v85) fun v86 =>
 bnd (ldV 1 false v86 h81) fun v87 =>
 bnd (ncV a0) fun v88 =>
 bnd (faV 1 v88) fun v89 =>
 bnd (stV 1 v89 v87 h81) fun h90 =>
 bnd (ncV a0) fun v91 =>
 bnd (faV 58 v91) fun v92 =>
 bnd (stV 1 v92 v67 h90) fun h93 =>
 bnd (eqI v68 (.int .i64 0)) fun b94 =>
 ifV (.bool (!b94)) (
 K (.tuple #[(.bool true), (.int .i64 1700)]) h93) (
 ifV v67 (
 bnd (ncV a0) fun v95 =>
 bnd (faV 55 v95) fun v96 =>
 bnd (ldV 1 false v96 h93) fun v97 =>
 bnd (ncV v97) fun v98 =>
 bnd (faV 3 v98) fun v99 =>
 bnd (ldV 1 false v99 h93) fun v100 =>
 bnd (ncV a0) fun v101 =>
 bnd (faV 57 v101) fun v102 =>
 bnd (stV 1 v102 v100 h93) fun h103 =>
 K (.tuple #[v67, (.int .i64 0)]) h103) (
 bnd (ncV a0) fun v104 =>
 bnd (faV 57 v104) fun v105 =>
 bnd (stV 1 v105 (.bool false) h93) fun h106 =>
 K (.tuple #[v67, (.int .i64 0)]) h106)))))
def A29 : Ann := ⟨fun | 10 => ([0, 1, 2, 3, 4, 5, 6, 7, 8, 9, 10, 11, 12, 13, 14], [0, 1, 3, 7, 0, 16, 48, 112, 255, 511, 1023, 2047, 2047, 4095, 16383]) | 11 => ([0, 1, 2, 3, 4, 5, 6, 7, 8, 9, 10, 11, 12, 13, 14], [0, 1, 3, 7, 0, 16, 48, 112, 0, 511, 1023, 2047, 2047, 4095, 16383]) | _ => ([], []), fun _ => []⟩
theorem S29_T {a0 a1 : Value} {h : GH} {K : Value → GH → Prop} (g : S29 a0 a1 h K) : T Tryz.prog 29 [a0, a1] h K :=
  T_of_gwp (A := A29) Tryz.func29 (c := bodyOf Tryz.f29) (by kernel_rfl) (by kernel_rfl) (by kernel_rfl) (by kernel_rfl) (by kernel_rfl) (Eq.mp (by kernel_rfl) g)

/-! ### (*pawl/pawlref10.Attempt).Through (30) -/
def S30 (a0 : Value) (h : GH) (K : Value → GH → Prop) : Prop :=
 bnd (ncV a0) fun v1 =>
 bnd (faV 59 v1) fun v2 =>
 bnd (ldV 1 false v2 h) fun v3 =>
 bnd (ncV a0) fun v4 =>
 bnd (faV 60 v4) fun v5 =>
 bnd (ldV 1 false v5 h) fun v6 =>
 K (.tuple #[v3, v6]) h
def A30 : Ann := ⟨fun | 1 => ([0, 1, 2, 3, 4, 5, 6, 7, 8, 9], [0, 1, 3, 7, 0, 16, 48, 112, 15, 511]) | _ => ([], []), fun _ => []⟩
theorem S30_T {a0 : Value} {h : GH} {K : Value → GH → Prop} (g : S30 a0 h K) : T Tryz.prog 30 [a0] h K :=
  T_of_gwp (A := A30) Tryz.func30 (c := bodyOf Tryz.f30) (by kernel_rfl) (by kernel_rfl) (by kernel_rfl) (by kernel_rfl) (by kernel_rfl) (Eq.mp (by kernel_rfl) g)

/-! ### pawl/pawllaw0.SpoilAnswers (31) -/
def S31 (a0 : Value) (h : GH) (K : Value → GH → Prop) : Prop :=
 Lfp (fun (s1 : Nat → Value) h2 again3 =>
 bnd (lnV (s1 0)) fun v4 =>
 bnd (binV .lss (s1 1) v4) fun v5 =>
 ifV v5 (
 bnd (isV 2 (s1 0) (s1 1)) fun v6 =>
 bnd (faV 1 v6) fun v7 =>
 bnd (ldV 1 false v7 h2) fun v8 =>
 bnd (binV .xor v8 (.int .i64 90)) fun v9 =>
 bnd (isV 2 (s1 0) (s1 1)) fun v10 =>
 bnd (faV 1 v10) fun v11 =>
 bnd (stV 1 v11 v9 h2) fun h12 =>
 bnd (binV .add (s1 1) (.int .i64 1)) fun v13 =>
 again3 (tup [(s1 0), v13]) h12) (
 K (.tuple #[]) h2)) (tup [a0, (.int .i64 0)]) h
def A31 : Ann := ⟨fun _ => ([], []), fun | 0 => [0, 2] | _ => []⟩
theorem S31_T {a0 : Value} {h : GH} {K : Value → GH → Prop} (g : S31 a0 h K) : T Tryz.prog 31 [a0] h K :=
  T_of_gwp (A := A31) Tryz.func31 (c := bodyOf Tryz.f31) (by kernel_rfl) (by kernel_rfl) (by kernel_rfl) (by kernel_rfl) (by kernel_rfl) (Eq.mp (by kernel_rfl) g)

/-! ### pawl/pawllaw17.same (32) -/
def S32 (a0 a1 : Value) (h : GH) (K : Value → GH → Prop) : Prop :=
 T Tryz.prog 33 [a0] h fun v1 h2 =>
 bnd (exV v1 0) fun v3 =>
 bnd (exV v1 1) fun v4 =>
 newV 89 [(.int .i64 0), (.int .i64 0), (.int .i64 0), (.int .i64 0), (.int .i64 0), (.int .i64 0), (.int .i64 0), (.int .i64 0)] h2 fun v5 h6 =>
 bnd (stV 8 v5 v3 h6) fun h7 =>
 T Tryz.prog 44 [a1] h7 fun v8 h9 =>
 bnd (exV v8 0) fun v10 =>
 bnd (exV v8 1) fun v11 =>
 newV 89 [(.int .i64 0), (.int .i64 0), (.int .i64 0), (.int .i64 0), (.int .i64 0), (.int .i64 0), (.int .i64 0), (.int .i64 0)] h9 fun v12 h13 =>
 bnd (stV 8 v12 v10 h13) fun h14 =>
 bnd (ldV 8 true v5 h14) fun v15 =>
 bnd (ldV 8 true v12 h14) fun v16 =>
 bnd (eqP Tryz.prog 10000 89 v15 v16) fun b17 =>
 ifV (.bool b17) (
 bnd (eqK .bool false v4 v11) fun b18 =>
 ifV (.bool b18) (
 bnd (ncV a1) fun v19 =>
 bnd (faV 0 v19) fun v20 =>
 bnd (saV 634 1 v20 none none) fun v21 =>
 T Tryz.prog 21 [a0] h14 fun v22 h23 =>
 T Tryz.prog 67 [v22, v21] h23 fun v24 h25 =>
 K v24 h25) (
 K (.bool false) h14)) (
 K (.bool false) h14)
def A32 : Ann := ⟨fun | 3 => ([0, 1, 2, 3, 4, 5, 6, 7, 8, 9, 11, 12, 13, 14, 10, 15, 16, 17], [0, 0, 3, 7, 15, 15, 63, 127, 255, 511, 1023, 511, 2559, 6655, 14847, 32767, 65535, 131071]) | _ => ([], []), fun _ => []⟩
theorem S32_T {a0 a1 : Value} {h : GH} {K : Value → GH → Prop} (g : S32 a0 a1 h K) : T Tryz.prog 32 [a0, a1] h K :=
  T_of_gwp (A := A32) Tryz.func32 (c := bodyOf Tryz.f32) (by kernel_rfl) (by kernel_rfl) (by kernel_rfl) (by kernel_rfl) (by kernel_rfl) (Eq.mp (by kernel_rfl) g)

/-! ### (*pawl/arena.Arena).Last (33) -/
def S33 (a0 : Value) (h : GH) (K : Value → GH → Prop) : Prop :=
 newV 89 [(.int .i64 0), (.int .i64 0), (.int .i64 0), (.int .i64 0), (.int .i64 0), (.int .i64 0), (.int .i64 0), (.int .i64 0)] h fun v1 h2 =>
 bnd (eqK .ptr true a0 (.pointer none)) fun b3 =>
 ifV (.bool b3) (
 bnd (fillV [(.int .i64 0), (.int .i64 0), (.int .i64 0), (.int .i64 0), (.int .i64 0), (.int .i64 0), (.int .i64 0), (.int .i64 0)] []) fun c4 =>
 bnd (stV 8 v1 (.agg c4.toArray) h2) fun h5 =>
 bnd (ldV 8 true v1 h5) fun v6 =>
 K (.tuple #[v6, (.bool false)]) h5) (
 bnd (ncV a0) fun v7 =>
 bnd (faV 634 v7) fun v8 =>
 bnd (ldV 8 true v8 h2) fun v9 =>
 bnd (ncV a0) fun v10 =>
 bnd (faV 642 v10) fun v11 =>
 bnd (ldV 1 false v11 h2) fun v12 =>
 bnd (stV 8 v1 v9 h2) fun h13 =>
 ldV 1 false v11 h13 = some v12 ∧
 bnd (ldV 8 true v1 h13) fun v14 =>
 K (.tuple #[v14, v12]) h13)
def A33 : Ann := ⟨fun | 3 => ([0, 1, 2, 3, 4, 5, 6, 7, 8, 9], [0, 1, 3, 7, 0, 16, 48, 112, 15, 511]) | _ => ([], []), fun _ => []⟩
theorem S33_T {a0 : Value} {h : GH} {K : Value → GH → Prop} (g : S33 a0 h K) : T Tryz.prog 33 [a0] h K :=
  T_of_gwp (A := A33) Tryz.func33 (c := bodyOf Tryz.f33) (by kernel_rfl) (by kernel_rfl) (by kernel_rfl) (by kernel_rfl) (by kernel_rfl) (Eq.mp (by kernel_rfl) g)

/-! ### pawl/body.Do (34) -/
def S34_j2 (s6 : Nat → Value) (x2 x4 x6 x7 x9 x10 x22 x23 x24 : Value) (h : GH) (K : Value → GH → Prop) (again8 : (Nat → Value) → GH → Prop) : Prop :=
 bnd (ldV 48 true x6 h) fun v1 =>
 bnd (ldV 4 true x9 h) fun v2 =>
 callV Tryz.prog x10 [v1, v2] h fun v3 h4 =>
 bnd (exV v3 0) fun v5 =>
 bnd (exV v3 1) fun v6 =>
 newV 54 ([(.int .i64 0)] ++ List.replicate 16 (.bool false) ++ List.replicate 32 (.int .i64 0) ++ [(.slice none 0 0)]) h4 fun v7 h8 =>
 bnd (stV 50 v7 v5 h8) fun h9 =>
 bnd (faV 0 v7) fun v10 =>
 bnd (ldV 1 false v10 h9) fun v11 =>
 bnd (binV .geq v11 (.int .i64 0)) fun v12 =>
 ifV v12 (
 bnd (faV 0 v7) fun v13 =>
 bnd (ldV 1 false v13 h9) fun v14 =>
 bnd (ldV 48 true x2 h9) fun v15 =>
 bnd (fillV ([(.int .i64 0)] ++ List.replicate 16 (.bool false) ++ List.replicate 32 (.int .i64 0) ++ [(.slice none 0 0)]) [(0, 1, v14), (1, 48, v15)]) fun c16 =>
 bnd (stV 50 x4 (.agg c16.toArray) h9) fun h17 =>
 bnd (ldV 50 true x4 h17) fun v18 =>
 K (.tuple #[v18, (.int .i64 0)]) h17) (
 bnd (faV 49 v7) fun v19 =>
 bnd (ldV 1 false v19 h9) fun v20 =>
 apV 64 2 16 x7 v20 h9 fun v21 h22 =>
 bnd (lnV v21) fun v23 =>
 bnd (binV .sub v23 (.int .i64 1)) fun v24 =>
 bnd (isV 2 v21 v24) fun v25 =>
 bnd (faV 0 v25) fun v26 =>
 bnd (ldV 1 false v26 h22) fun v27 =>
 bnd (eqI v27 (.int .i64 0)) fun b28 =>
 ifV (.bool (!b28)) (
 bnd (ldV 48 true x2 h22) fun v29 =>
 bnd (fillV ([(.int .i64 0)] ++ List.replicate 16 (.bool false) ++ List.replicate 32 (.int .i64 0) ++ [(.slice none 0 0)]) [(0, 1, (.int .i64 (-1))), (1, 48, v29), (49, 1, v21)]) fun c30 =>
 bnd (stV 50 x4 (.agg c30.toArray) h22) fun h31 =>
 bnd (ldV 50 true x4 h31) fun v32 =>
 K (.tuple #[v32, (.int .i64 0)]) h31) (
 bnd (faV 1 v7) fun v33 =>
 bnd (ldV 48 true v33 h22) fun v34 =>
 bnd (stV 48 x6 v34 h22) fun h35 =>
 bnd (binV .add x24 (.int .i64 1)) fun v36 =>
 again8 (tup [x2, x4, x6, v21, x22, x23, v36]) h35))

def S34_j1 (x1 x2 x4 : Value) (h : GH) (K : Value → GH → Prop)  : Prop :=
 bnd (ldV 48 true x2 h) fun v1 =>
 newV 50 (List.replicate 16 (.bool false) ++ List.replicate 32 (.int .i64 0)) h fun v2 h3 =>
 bnd (stV 48 v2 v1 h3) fun h4 =>
 bnd (lnV x1) fun v5 =>
 Lfp (fun (s6 : Nat → Value) h7 again8 =>
 bnd (binV .lss (s6 6) (s6 5)) fun v9 =>
 ifV v9 (
 bnd (isV 4 (s6 4) (s6 6)) fun v10 =>
 bnd (ldV 4 true v10 h7) fun v11 =>
 newV 24 [(.int .i64 0), (.int .i64 0), (.int .i64 0), (.int .i64 0)] h7 fun v12 h13 =>
 bnd (stV 4 v12 v11 h13) fun h14 =>
 bnd (faV 0 v12) fun v15 =>
 bnd (ldV 1 false v15 h14) fun v16 =>
 T Tryz.prog 71 [v16] h14 fun v17 h18 =>
 ifV v17 (
 S34_j2 s6 (s6 0) (s6 1) (s6 2) (s6 3) v12 (.func (.func 72) #[] #[]) (s6 4) (s6 5) (s6 6) h18 K again8) (
 S34_j2 s6 (s6 0) (s6 1) (s6 2) (s6 3) v12 (.func (.func 70) #[] #[]) (s6 4) (s6 5) (s6 6) h18 K again8)) (
 bnd (ldV 48 true (s6 2) h7) fun v19 =>
 bnd (fillV ([(.int .i64 0)] ++ List.replicate 16 (.bool false) ++ List.replicate 32 (.int .i64 0) ++ [(.slice none 0 0)]) [(0, 1, (.int .i64 (-1))), (1, 48, v19), (49, 1, (s6 3))]) fun c20 =>
 bnd (stV 50 (s6 1) (.agg c20.toArray) h7) fun h21 =>
 bnd (ldV 50 true (s6 1) h21) fun v22 =>
 K (.tuple #[v22, (.int .i64 0)]) h21)) (tup [x2, x4, v2, (.slice none 0 0), x1, v5, (.int .i64 0)]) h4
def S34 (a0 a1 : Value) (h : GH) (K : Value → GH → Prop) : Prop :=
 newV 50 (a0 : Value).cells.toList h fun v1 h2 =>
 newV 54 ([(.int .i64 0)] ++ List.replicate 16 (.bool false) ++ List.replicate 32 (.int .i64 0) ++ [(.slice none 0 0)]) h2 fun v3 h4 =>
 T Tryz.prog 68 [v1] h4 fun v5 h6 =>
 bnd (unV .not v5) fun v7 =>
 ifV v7 (
 bnd (fillV ([(.int .i64 0)] ++ List.replicate 16 (.bool false) ++ List.replicate 32 (.int .i64 0) ++ [(.slice none 0 0)]) []) fun c8 =>
 bnd (stV 50 v3 (.agg c8.toArray) h6) fun h9 =>
 bnd (ldV 50 true v3 h9) fun v10 =>
 K (.tuple #[v10, (.int .i64 700)]) h9) (
 T Tryz.prog 69 [a1] h6 fun v11 h12 =>
 bnd (unV .not v11) fun v13 =>
 ifV v13 (
 bnd (fillV ([(.int .i64 0)] ++ List.replicate 16 (.bool false) ++ List.replicate 32 (.int .i64 0) ++ [(.slice none 0 0)]) []) fun c14 =>
 bnd (stV 50 v3 (.agg c14.toArray) h12) fun h15 =>
 bnd (ldV 50 true v3 h15) fun v16 =>
 K (.tuple #[v16, (.int .i64 700)]) h15) (
 S34_j1 a1 v1 v3 h12 K ))
def A34 : Ann := ⟨fun _ => ([], []), fun | 0 => [2, 4, 6, 7, 22, 23, 24] | _ => []⟩
theorem S34_T {a0 a1 : Value} {h : GH} {K : Value → GH → Prop} (g : S34 a0 a1 h K) : T Tryz.prog 34 [a0, a1] h K :=
  T_of_gwp (A := A34) Tryz.func34 (c := bodyOf Tryz.f34) (by kernel_rfl) (by kernel_rfl) (by kernel_rfl) (by kernel_rfl) (by kernel_rfl) (Eq.mp (by kernel_rfl) g)

/-! ### pawl/epoch.ThreadMay (35) -/
def S35 (a0 : Value) (h : GH) (K : Value → GH → Prop) : Prop :=
 T Tryz.prog 36 [a0, (.int .i64 4)] h fun v1 h2 =>
 K v1 h2
def A35 : Ann := ⟨fun _ => ([], []), fun _ => []⟩
theorem S35_T {a0 : Value} {h : GH} {K : Value → GH → Prop} (g : S35 a0 h K) : T Tryz.prog 35 [a0] h K :=
  T_of_gwp (A := A35) Tryz.func35 (c := bodyOf Tryz.f35) (by kernel_rfl) (by kernel_rfl) (by kernel_rfl) (by kernel_rfl) (by kernel_rfl) (Eq.mp (by kernel_rfl) g)

/-! ### pawl/word.Below (36) -/
def S36 (a0 a1 : Value) (h : GH) (K : Value → GH → Prop) : Prop :=
 bnd (binV .geq a0 (.int .i64 0)) fun v1 =>
 ifV v1 (
 bnd (binV .lss a0 a1) fun v2 =>
 K v2 h) (
 K (.bool false) h)
def A36 : Ann := ⟨fun _ => ([], []), fun _ => []⟩
theorem S36_T {a0 a1 : Value} {h : GH} {K : Value → GH → Prop} (g : S36 a0 a1 h K) : T Tryz.prog 36 [a0, a1] h K :=
  T_of_gwp (A := A36) Tryz.func36 (c := bodyOf Tryz.f36) (by kernel_rfl) (by kernel_rfl) (by kernel_rfl) (by kernel_rfl) (by kernel_rfl) (Eq.mp (by kernel_rfl) g)

/-! ### pawl/desc.LifeMay (37) -/
def S37 (a0 a1 : Value) (h : GH) (K : Value → GH → Prop) : Prop :=
 T Tryz.prog 36 [a0, (.int .i64 12)] h fun v1 h2 =>
 ifV v1 (
 T Tryz.prog 36 [a1, (.int .i64 65536)] h2 fun v3 h4 =>
 K v3 h4) (
 K (.bool false) h2)
def A37 : Ann := ⟨fun _ => ([], []), fun _ => []⟩
theorem S37_T {a0 a1 : Value} {h : GH} {K : Value → GH → Prop} (g : S37 a0 a1 h K) : T Tryz.prog 37 [a0, a1] h K :=
  T_of_gwp (A := A37) Tryz.func37 (c := bodyOf Tryz.f37) (by kernel_rfl) (by kernel_rfl) (by kernel_rfl) (by kernel_rfl) (by kernel_rfl) (Eq.mp (by kernel_rfl) g)

/-! ### slices.Clone[[]pawl/api.Op,pawl/api.Op] (38) -/
def S38 (a0 : Value) (h : GH) (K : Value → GH → Prop) : Prop :=
 bnd (eqK .slice true a0 (.slice none 0 0)) fun b1 =>
 ifV (.bool b1) (
 K (.slice none 0 0) h) (
 bsV 24 0 [] [] h fun v2 h3 =>
 apV 24 4 32 v2 a0 h3 fun v4 h5 =>
 K v4 h5)
def A38 : Ann := ⟨fun _ => ([], []), fun _ => []⟩
theorem S38_T {a0 : Value} {h : GH} {K : Value → GH → Prop} (g : S38 a0 h K) : T Tryz.prog 38 [a0] h K :=
  T_of_gwp (A := A38) Tryz.func38 (c := bodyOf Tryz.f38) (by kernel_rfl) (by kernel_rfl) (by kernel_rfl) (by kernel_rfl) (by kernel_rfl) (Eq.mp (by kernel_rfl) g)

/-! ### (*pawl/attempt.Attempt).asked (39) -/
def S39 (a0 : Value) (h : GH) (K : Value → GH → Prop) : Prop :=
 bnd (ncV a0) fun v1 =>
 bnd (faV 5 v1) fun v2 =>
 bnd (faV 0 v2) fun v3 =>
 bnd (ldV 1 false v3 h) fun v4 =>
 bnd (binV .geq v4 (.int .i64 0)) fun v5 =>
 ifV v5 (
 bnd (ncV a0) fun v6 =>
 bnd (faV 0 v6) fun v7 =>
 bnd (ldV 1 false v7 h) fun v8 =>
 bnd (ncV a0) fun v9 =>
 bnd (faV 1 v9) fun v10 =>
 bnd (ldV 1 false v10 h) fun v11 =>
 bnd (ncV a0) fun v12 =>
 bnd (faV 5 v12) fun v13 =>
 bnd (faV 0 v13) fun v14 =>
 bnd (ldV 1 false v14 h) fun v15 =>
 T Tryz.prog 73 [v8, v11, v15] h fun v16 h17 =>
 bnd (exV v16 0) fun v18 =>
 bnd (exV v16 1) fun v19 =>
 K (.iface 113 v18) h17) (
 bnd (ncV a0) fun v20 =>
 bnd (faV 5 v20) fun v21 =>
 bnd (faV 49 v21) fun v22 =>
 bnd (ldV 1 false v22 h) fun v23 =>
 bnd (ncV a0) fun v24 =>
 bnd (faV 60 v24) fun v25 =>
 bnd (stV 1 v25 v23 h) fun h26 =>
 bnd (ncV a0) fun v27 =>
 bnd (faV 2 v27) fun v28 =>
 bnd (faV 0 v28) fun v29 =>
 bnd (ldV 1 false v29 h26) fun v30 =>
 bnd (ncV a0) fun v31 =>
 bnd (faV 2 v31) fun v32 =>
 bnd (faV 1 v32) fun v33 =>
 bnd (ldV 1 false v33 h26) fun v34 =>
 bnd (ncV a0) fun v35 =>
 bnd (faV 5 v35) fun v36 =>
 bnd (faV 1 v36) fun v37 =>
 bnd (ldV 48 true v37 h26) fun v38 =>
 T Tryz.prog 75 [v38] h26 fun v39 h40 =>
 ldV 1 false v33 h40 = some v34 ∧
 ldV 1 false v29 h40 = some v30 ∧
 T Tryz.prog 74 [v30, v34, v39] h40 fun v41 h42 =>
 bnd (exV v41 0) fun v43 =>
 bnd (exV v41 1) fun v44 =>
 K (.iface 115 v43) h42)
def A39 : Ann := ⟨fun | 2 => ([0, 1, 2, 3, 4, 5, 6, 7, 8, 9, 10, 11, 12, 13, 14, 15, 16, 17, 18], [0, 1, 3, 7, 0, 16, 48, 112, 0, 256, 768, 1792, 3840, 8191, 16383, 32767, 32767, 65535, 262143]) | 5 => ([0, 1, 2, 3, 4, 5, 6, 7, 8, 9, 10, 11, 12, 13, 14, 15, 16, 17, 18, 19, 20, 21], [0, 1, 3, 7, 15, 0, 32, 96, 224, 480, 0, 1024, 3072, 7168, 15360, 31744, 65535, 131071, 262143, 262143, 524287, 2097151]) | _ => ([], []), fun _ => []⟩
theorem S39_T {a0 : Value} {h : GH} {K : Value → GH → Prop} (g : S39 a0 h K) : T Tryz.prog 39 [a0] h K :=
  T_of_gwp (A := A39) Tryz.func39 (c := bodyOf Tryz.f39) (by kernel_rfl) (by kernel_rfl) (by kernel_rfl) (by kernel_rfl) (by kernel_rfl) (Eq.mp (by kernel_rfl) g)

/-! ### pawl/pawllaw17.pair (40) -/
def S40_j2 (s1 : Nat → Value) (x0 x1 x6 x7 x8 : Value) (h : GH) (K : Value → GH → Prop) (again3 : (Nat → Value) → GH → Prop) : Prop :=
 bnd (isV 1 x0 x8) fun v1 =>
 bnd (ldV 1 false v1 h) fun v2 =>
 bnd (cvV .u64 v2) fun v3 =>
 bnd (binV .rem v3 (.int .u64 634)) fun v4 =>
 bnd (cvV .i64 v4) fun v5 =>
 bnd (isV 1 x1 x8) fun v6 =>
 bnd (ldV 1 false v6 h) fun v7 =>
 T Tryz.prog 14 [x6, v5, v7] h fun v8 h9 =>
 bnd (isV 1 x1 x8) fun v10 =>
 bnd (ldV 1 false v10 h9) fun v11 =>
 T Tryz.prog 41 [x7, v5, v11] h9 fun v12 h13 =>
 bnd (binV .add x8 (.int .i64 1)) fun v14 =>
 again3 (tup [x0, x1, x6, x7, v14]) h13

def S40_j1 (x0 x1 x6 x7 : Value) (h : GH) (K : Value → GH → Prop)  : Prop :=
 Lfp (fun (s1 : Nat → Value) h2 again3 =>
 bnd (lnV (s1 0)) fun v4 =>
 bnd (binV .lss (s1 4) v4) fun v5 =>
 ifV v5 (
 bnd (lnV (s1 1)) fun v6 =>
 bnd (binV .lss (s1 4) v6) fun v7 =>
 ifV v7 (
 bnd (binV .lss (s1 4) (.int .i64 30)) fun v8 =>
 ifV v8 (
 S40_j2 s1 (s1 0) (s1 1) (s1 2) (s1 3) (s1 4) h2 K again3) (
 K (.tuple #[(s1 2), (s1 3)]) h2)) (
 K (.tuple #[(s1 2), (s1 3)]) h2)) (
 K (.tuple #[(s1 2), (s1 3)]) h2)) (tup [x0, x1, x6, x7, (.int .i64 0)]) h
def S40 (a0 a1 : Value) (h : GH) (K : Value → GH → Prop) : Prop :=
 T Tryz.prog 76 [] h fun v1 h2 =>
 T Tryz.prog 77 [] h2 fun v3 h4 =>
 bnd (eqK .ptr true v1 (.pointer none)) fun b5 =>
 ifV (.bool b5) (
 K (.tuple #[(.pointer none), (.pointer none)]) h4) (
 T Tryz.prog 21 [v1] h4 fun v6 h7 =>
 bnd (lnV v6) fun v8 =>
 bnd (eqI v8 (.int .i64 634)) fun b9 =>
 ifV (.bool (!b9)) (
 K (.tuple #[(.pointer none), (.pointer none)]) h7) (
 S40_j1 a0 a1 v1 v3 h7 K ))
def A40 : Ann := ⟨fun _ => ([], []), fun | 0 => [0, 1, 6, 7, 8] | _ => []⟩
theorem S40_T {a0 a1 : Value} {h : GH} {K : Value → GH → Prop} (g : S40 a0 a1 h K) : T Tryz.prog 40 [a0, a1] h K :=
  T_of_gwp (A := A40) Tryz.func40 (c := bodyOf Tryz.f40) (by kernel_rfl) (by kernel_rfl) (by kernel_rfl) (by kernel_rfl) (by kernel_rfl) (Eq.mp (by kernel_rfl) g)

/-! ### (*pawl/pawlref1.Arena).Store (41) -/
def S41 (a0 a1 a2 : Value) (h : GH) (K : Value → GH → Prop) : Prop :=
 T Tryz.prog 78 [a0, (.int .i64 1), a1, a2] h fun v1 h2 =>
 bnd (exV v1 0) fun v3 =>
 bnd (exV v1 1) fun v4 =>
 K (.tuple #[v3, v4]) h2
def A41 : Ann := ⟨fun _ => ([], []), fun _ => []⟩
theorem S41_T {a0 a1 a2 : Value} {h : GH} {K : Value → GH → Prop} (g : S41 a0 a1 a2 h K) : T Tryz.prog 41 [a0, a1, a2] h K :=
  T_of_gwp (A := A41) Tryz.func41 (c := bodyOf Tryz.f41) (by kernel_rfl) (by kernel_rfl) (by kernel_rfl) (by kernel_rfl) (by kernel_rfl) (Eq.mp (by kernel_rfl) g)

/-! ### pawl/pawlref10.NewWriter (42) -/
def S42_j1 (x0 x1 x2 : Value) (h : GH) (K : Value → GH → Prop)  : Prop :=
 T Tryz.prog 80 [x1, (.int .i64 0)] h fun v1 h2 =>
 bnd (lnV x2) fun v3 =>
 T Tryz.prog 81 [v3] h2 fun v4 h5 =>
 bsV 3 2 [(.int .i64 0), (.int .i64 0)] [(0, 1, v1), (1, 1, v4)] h5 fun v6 h7 =>
 bnd (fillV [(.int .i64 0), (.int .i64 0), (.slice none 0 0)] [(1, 1, x0), (2, 1, v6)]) fun c8 =>
 newV 156 ((.agg c8.toArray) : Value).cells.toList h7 fun v9 h10 =>
 Lfp (fun (s11 : Nat → Value) h12 again13 =>
 bnd (lnV (s11 0)) fun v14 =>
 bnd (binV .lss (s11 2) v14) fun v15 =>
 ifV v15 (
 bnd (ncV (s11 1)) fun v16 =>
 bnd (faV 2 v16) fun v17 =>
 bnd (ldV 1 false v17 h12) fun v18 =>
 bnd (isV 3 (s11 0) (s11 2)) fun v19 =>
 bnd (faV 0 v19) fun v20 =>
 bnd (ldV 1 false v20 h12) fun v21 =>
 bnd (isV 3 (s11 0) (s11 2)) fun v22 =>
 bnd (faV 1 v22) fun v23 =>
 bnd (ldV 1 false v23 h12) fun v24 =>
 bnd (isV 3 (s11 0) (s11 2)) fun v25 =>
 bnd (faV 2 v25) fun v26 =>
 bnd (ldV 1 false v26 h12) fun v27 =>
 T Tryz.prog 81 [v21] h12 fun v28 h29 =>
 ldV 1 false v26 h29 = some v27 ∧
 ldV 1 false v23 h29 = some v24 ∧
 ldV 1 false v17 h29 = some v18 ∧
 T Tryz.prog 81 [v24] h29 fun v30 h31 =>
 ldV 1 false v26 h31 = some v27 ∧
 ldV 1 false v17 h31 = some v18 ∧
 T Tryz.prog 81 [v27] h31 fun v32 h33 =>
 ldV 1 false v17 h33 = some v18 ∧
 bsV 3 3 [(.int .i64 0), (.int .i64 0), (.int .i64 0)] [(0, 1, v28), (1, 1, v30), (2, 1, v32)] h33 fun v34 h35 =>
 apV 3 1 8 v18 v34 h35 fun v36 h37 =>
 bnd (ncV (s11 1)) fun v38 =>
 bnd (faV 2 v38) fun v39 =>
 bnd (stV 1 v39 v36 h37) fun h40 =>
 bnd (binV .add (s11 2) (.int .i64 1)) fun v41 =>
 again13 (tup [(s11 0), (s11 1), v41]) h40) (
 K (.tuple #[(s11 1), (.int .i64 0)]) h12)) (tup [x2, v9, (.int .i64 0)]) h10
def S42 (a0 a1 a2 : Value) (h : GH) (K : Value → GH → Prop) : Prop :=
 T Tryz.prog 59 [a0, a1] h fun v1 h2 =>
 bnd (unV .not v1) fun v3 =>
 ifV v3 (
 K (.tuple #[(.pointer none), (.int .i64 1300)]) h2) (
 T Tryz.prog 79 [a2] h2 fun v4 h5 =>
 bnd (unV .not v4) fun v6 =>
 ifV v6 (
 K (.tuple #[(.pointer none), (.int .i64 1300)]) h5) (
 S42_j1 a0 a1 a2 h5 K ))
def A42 : Ann := ⟨fun | 7 => ([0, 1, 2, 3, 4, 5, 6, 7, 8, 9, 11, 12, 13, 14, 15, 17, 18, 19, 20, 21, 10, 16, 22, 23, 24, 25, 26, 27], [0, 0, 2, 6, 14, 0, 0, 96, 224, 480, 992, 0, 0, 6144, 14336, 30720, 65504, 0, 0, 393216, 917504, 1966080, 4194272, 8388576, 16777214, 33554431, 67108863, 134217727]) | _ => ([], []), fun | 0 => [2, 8, 9] | _ => []⟩
theorem S42_T {a0 a1 a2 : Value} {h : GH} {K : Value → GH → Prop} (g : S42 a0 a1 a2 h K) : T Tryz.prog 42 [a0, a1, a2] h K :=
  T_of_gwp (A := A42) Tryz.func42 (c := bodyOf Tryz.f42) (by kernel_rfl) (by kernel_rfl) (by kernel_rfl) (by kernel_rfl) (by kernel_rfl) (Eq.mp (by kernel_rfl) g)

/-! ### (*pawl/pawlref10.Writer).Step (43) -/
def S43_j1 (x0 : Value) (h : GH) (K : Value → GH → Prop)  : Prop :=
 bnd (ncV x0) fun v1 =>
 bnd (faV 0 v1) fun v2 =>
 bnd (ldV 1 false v2 h) fun v3 =>
 bnd (ncV x0) fun v4 =>
 bnd (faV 2 v4) fun v5 =>
 bnd (ldV 1 false v5 h) fun v6 =>
 bnd (lnV v6) fun v7 =>
 bnd (binV .geq v3 v7) fun v8 =>
 K (.tuple #[v8, (.int .i64 0)]) h
def S43 (a0 a1 : Value) (h : GH) (K : Value → GH → Prop) : Prop :=
 bnd (ncV a0) fun v1 =>
 bnd (faV 0 v1) fun v2 =>
 bnd (ldV 1 false v2 h) fun v3 =>
 bnd (ncV a0) fun v4 =>
 bnd (faV 2 v4) fun v5 =>
 bnd (ldV 1 false v5 h) fun v6 =>
 bnd (lnV v6) fun v7 =>
 bnd (binV .lss v3 v7) fun v8 =>
 ifV v8 (
 bnd (ncV a0) fun v9 =>
 bnd (faV 1 v9) fun v10 =>
 bnd (ldV 1 false v10 h) fun v11 =>
 bnd (ncV a0) fun v12 =>
 bnd (faV 0 v12) fun v13 =>
 bnd (ldV 1 false v13 h) fun v14 =>
 bnd (ncV a0) fun v15 =>
 bnd (faV 2 v15) fun v16 =>
 bnd (ldV 1 false v16 h) fun v17 =>
 bnd (ncV a0) fun v18 =>
 bnd (faV 0 v18) fun v19 =>
 bnd (ldV 1 false v19 h) fun v20 =>
 bnd (isV 1 v17 v20) fun v21 =>
 bnd (ldV 1 false v21 h) fun v22 =>
 T Tryz.prog 82 [v11] h fun v23 h24 =>
 ldV 1 false v21 h24 = some v22 ∧
 ldV 1 false v19 h24 = some v20 ∧
 ldV 1 false v16 h24 = some v17 ∧
 ldV 1 false v13 h24 = some v14 ∧
 bnd (binV .add v23 v14) fun v25 =>
 T Tryz.prog 41 [a1, v25, v22] h24 fun v26 h27 =>
 bnd (ncV a0) fun v28 =>
 bnd (faV 0 v28) fun v29 =>
 bnd (ldV 1 false v29 h27) fun v30 =>
 bnd (binV .add v30 (.int .i64 1)) fun v31 =>
 bnd (ncV a0) fun v32 =>
 bnd (faV 0 v32) fun v33 =>
 bnd (stV 1 v33 v31 h27) fun h34 =>
 S43_j1 a0 h34 K ) (
 S43_j1 a0 h K )
def A43 : Ann := ⟨fun | 1 => ([0, 1, 2, 3, 4, 5, 6, 7, 8, 9], [0, 1, 3, 7, 0, 16, 48, 112, 240, 511]) | 2 => ([0, 1, 2, 3, 4, 6, 7, 8, 9, 11, 12, 13, 14, 15, 16, 17, 18, 19, 20, 5, 10, 21], [0, 0, 2, 6, 14, 30, 0, 64, 192, 448, 1022, 0, 2048, 6144, 14336, 0, 32768, 98304, 229376, 522240, 1046528, 2097151]) | 4 => ([0, 1, 2, 3, 4, 5, 6, 7, 8, 9, 10, 11], [0, 1, 3, 7, 0, 16, 48, 112, 240, 511, 1023, 2047]) | _ => ([], []), fun _ => []⟩
theorem S43_T {a0 a1 : Value} {h : GH} {K : Value → GH → Prop} (g : S43 a0 a1 h K) : T Tryz.prog 43 [a0, a1] h K :=
  T_of_gwp (A := A43) Tryz.func43 (c := bodyOf Tryz.f43) (by kernel_rfl) (by kernel_rfl) (by kernel_rfl) (by kernel_rfl) (by kernel_rfl) (Eq.mp (by kernel_rfl) g)

/-! ### (*pawl/pawlref1.Arena).Last (44) -/
def S44 (a0 : Value) (h : GH) (K : Value → GH → Prop) : Prop :=
 newV 89 [(.int .i64 0), (.int .i64 0), (.int .i64 0), (.int .i64 0), (.int .i64 0), (.int .i64 0), (.int .i64 0), (.int .i64 0)] h fun v1 h2 =>
 bnd (ncV a0) fun v3 =>
 bnd (faV 634 v3) fun v4 =>
 bnd (ldV 8 true v4 h2) fun v5 =>
 bnd (ncV a0) fun v6 =>
 bnd (faV 642 v6) fun v7 =>
 bnd (ldV 1 false v7 h2) fun v8 =>
 bnd (stV 8 v1 v5 h2) fun h9 =>
 ldV 1 false v7 h9 = some v8 ∧
 bnd (ldV 8 true v1 h9) fun v10 =>
 K (.tuple #[v10, v8]) h9
def A44 : Ann := ⟨fun | 1 => ([0, 1, 2, 3, 4, 5, 6, 7, 8, 9], [0, 1, 3, 7, 0, 16, 48, 112, 15, 511]) | _ => ([], []), fun _ => []⟩
theorem S44_T {a0 : Value} {h : GH} {K : Value → GH → Prop} (g : S44 a0 h K) : T Tryz.prog 44 [a0] h K :=
  T_of_gwp (A := A44) Tryz.func44 (c := bodyOf Tryz.f44) (by kernel_rfl) (by kernel_rfl) (by kernel_rfl) (by kernel_rfl) (by kernel_rfl) (Eq.mp (by kernel_rfl) g)

/-! ### (*pawl/arena.Arena).touch (45) -/
def S45 (a0 a1 a2 a3 : Value) (h : GH) (K : Value → GH → Prop) : Prop :=
 bnd (eqK .ptr true a0 (.pointer none)) fun b1 =>
 ifV (.bool b1) (
 K (.tuple #[(.int .i64 0), (.int .i64 1)]) h) (
 T Tryz.prog 36 [a2, (.int .i64 634)] h fun v2 h3 =>
 bnd (unV .not v2) fun v4 =>
 ifV v4 (
 K (.tuple #[(.int .i64 0), (.int .i64 200)]) h3) (
 bnd (ncV a0) fun v5 =>
 bnd (faV 0 v5) fun v6 =>
 bnd (iaV 634 1 v6 a2) fun v7 =>
 bnd (ldV 1 false v7 h3) fun v8 =>
 bnd (ncV a0) fun v9 =>
 bnd (faV 0 v9) fun v10 =>
 callV Tryz.prog a3 [v8] h3 fun v11 h12 =>
 bnd (iaV 634 1 v10 a2) fun v13 =>
 bnd (stV 1 v13 v11 h12) fun h14 =>
 bnd (ncV a0) fun v15 =>
 bnd (faV 0 v15) fun v16 =>
 bnd (iaV 634 1 v16 a2) fun v17 =>
 bnd (ldV 1 false v17 h14) fun v18 =>
 bnd (fillV [(.int .i64 0), (.int .i64 0), (.int .i64 0), (.int .i64 0), (.int .i64 0), (.int .i64 0), (.int .i64 0), (.int .i64 0)] [(1, 1, a1), (2, 1, a2), (3, 1, v8), (4, 1, v18)]) fun c19 =>
 bnd (ncV a0) fun v20 =>
 bnd (faV 634 v20) fun v21 =>
 bnd (stV 8 v21 (.agg c19.toArray) h14) fun h22 =>
 bnd (ncV a0) fun v23 =>
 bnd (faV 642 v23) fun v24 =>
 bnd (stV 1 v24 (.bool true) h22) fun h25 =>
 K (.tuple #[v8, (.int .i64 0)]) h25))
def A45 : Ann := ⟨fun | 6 => ([0, 1, 2, 3, 5, 6, 4, 7, 8], [0, 0, 0, 0, 12, 1, 33, 127, 255]) | _ => ([], []), fun _ => []⟩
theorem S45_T {a0 a1 a2 a3 : Value} {h : GH} {K : Value → GH → Prop} (g : S45 a0 a1 a2 a3 h K) : T Tryz.prog 45 [a0, a1, a2, a3] h K :=
  T_of_gwp (A := A45) Tryz.func45 (c := bodyOf Tryz.f45) (by kernel_rfl) (by kernel_rfl) (by kernel_rfl) (by kernel_rfl) (by kernel_rfl) (Eq.mp (by kernel_rfl) g)

/-! ### (*pawl/arena.Arena).Store$1 (46) -/
def S46 (a0 a1 : Value) (h : GH) (K : Value → GH → Prop) : Prop :=
 bnd (ldV 1 false a1 h) fun v1 =>
 K v1 h
def A46 : Ann := ⟨fun _ => ([], []), fun _ => []⟩
theorem S46_T {a0 a1 : Value} {h : GH} {K : Value → GH → Prop} (g : S46 a0 a1 h K) : T Tryz.prog 46 [a0, a1] h K :=
  T_of_gwp (A := A46) Tryz.func46 (c := bodyOf Tryz.f46) (by kernel_rfl) (by kernel_rfl) (by kernel_rfl) (by kernel_rfl) (by kernel_rfl) (Eq.mp (by kernel_rfl) g)

/-! ### (*pawl/attempt.Attempt).known (47) -/
def S47 (a0 a1 : Value) (h : GH) (K : Value → GH → Prop) : Prop :=
 bnd (ncV a0) fun v1 =>
 bnd (faV 5 v1) fun v2 =>
 bnd (faV 1 v2) fun v3 =>
 bnd (ldV 48 true v3 h) fun v4 =>
 newV 50 (List.replicate 16 (.bool false) ++ List.replicate 32 (.int .i64 0)) h fun v5 h6 =>
 bnd (stV 48 v5 v4 h6) fun h7 =>
 bnd (faV 0 v5) fun v8 =>
 bnd (faV 16 v5) fun v9 =>
 bnd (faV 32 v5) fun v10 =>
 T Tryz.prog 84 [a1] h7 fun v11 h12 =>
 bnd (iaV 16 1 v8 v11) fun v13 =>
 T Tryz.prog 84 [a1] h12 fun v14 h15 =>
 T Tryz.prog 84 [a1] h15 fun v16 h17 =>
 T Tryz.prog 83 [a1] h17 fun v18 h19 =>
 T Tryz.prog 83 [a1] h19 fun v20 h21 =>
 bnd (stV 1 v13 (.bool true) h21) fun h22 =>
 bnd (iaV 16 1 v9 v14) fun v23 =>
 bnd (stV 1 v23 v18 h22) fun h24 =>
 bnd (iaV 16 1 v10 v16) fun v25 =>
 bnd (stV 1 v25 v20 h24) fun h26 =>
 bnd (ldV 48 true v5 h26) fun v27 =>
 bnd (ncV a0) fun v28 =>
 bnd (faV 4 v28) fun v29 =>
 bnd (ldV 1 false v29 h26) fun v30 =>
 T Tryz.prog 34 [v27, v30] h26 fun v31 h32 =>
 bnd (exV v31 0) fun v33 =>
 bnd (exV v31 1) fun v34 =>
 bnd (ncV a0) fun v35 =>
 bnd (faV 5 v35) fun v36 =>
 bnd (stV 50 v36 v33 h32) fun h37 =>
 T Tryz.prog 39 [a0] h37 fun v38 h39 =>
 bnd (ncV a0) fun v40 =>
 bnd (faV 55 v40) fun v41 =>
 bnd (stV 1 v41 v38 h39) fun h42 =>
 K (.tuple #[]) h42
def A47 : Ann := ⟨fun | 1 => ([0, 2, 4, 6, 8, 10, 13, 16, 1, 11, 3, 5, 7, 9, 12, 14, 15, 17, 18], [0, 1, 0, 7, 0, 31, 0, 127, 0, 511, 0, 1027, 4095, 0, 16383, 32767, 0, 131071, 262143]) | 2 => ([0, 1, 2, 3, 4, 5, 6, 7, 8, 9, 10, 11, 12], [0, 0, 0, 4, 12, 28, 62, 126, 254, 254, 511, 1535, 3583]) | _ => ([], []), fun _ => []⟩
theorem S47_T {a0 a1 : Value} {h : GH} {K : Value → GH → Prop} (g : S47 a0 a1 h K) : T Tryz.prog 47 [a0, a1] h K :=
  T_of_gwp (A := A47) Tryz.func47 (c := bodyOf Tryz.f47) (by kernel_rfl) (by kernel_rfl) (by kernel_rfl) (by kernel_rfl) (by kernel_rfl) (Eq.mp (by kernel_rfl) g)

/-! ### pawl/mcas.New (48) -/
def S48_j1 (x8 x9 : Value) (h : GH) (K : Value → GH → Prop)  : Prop :=
 bsV 166 1 [.nilIface] [(0, 1, x9)] h fun v1 h2 =>
 bnd (ncV x8) fun v3 =>
 bnd (faV 2 v3) fun v4 =>
 bnd (stV 1 v4 v1 h2) fun h5 =>
 K (.tuple #[x8, (.int .i64 0)]) h5
def S48 (a0 a1 a2 : Value) (h : GH) (K : Value → GH → Prop) : Prop :=
 bnd (fillV [(.int .i64 0), (.int .i64 0)] [(0, 1, a0), (1, 1, a1)]) fun c1 =>
 bnd (fillV [(.int .i64 0), (.int .i64 0), (.slice none 0 0), (.pointer none), (.bool false), (.bool false)] [(0, 2, (.agg c1.toArray))]) fun c2 =>
 newV 164 ((.agg c2.toArray) : Value).cells.toList h fun v3 h4 =>
 bnd (ncV v3) fun v5 =>
 bnd (faV 0 v5) fun v6 =>
 T Tryz.prog 86 [a2] h4 fun v7 h8 =>
 T Tryz.prog 85 [v7, v6] h8 fun v9 h10 =>
 T Tryz.prog 35 [a0] h10 fun v11 h12 =>
 bnd (unV .not v11) fun v13 =>
 ifV v13 (
 K (.tuple #[(.pointer none), (.int .i64 1400)]) h12) (
 T Tryz.prog 36 [a1, (.int .i64 1048576)] h12 fun v14 h15 =>
 bnd (unV .not v14) fun v16 =>
 ifV v16 (
 K (.tuple #[(.pointer none), (.int .i64 1400)]) h15) (
 bnd (eqK .iface true v9 .nilIface) fun b17 =>
 ifV (.bool b17) (
 K (.tuple #[(.pointer none), (.int .i64 1400)]) h15) (
 S48_j1 v3 v9 h15 K )))
def A48 : Ann := ⟨fun | 2 => ([0, 2, 3, 4, 1, 5, 6], [0, 1, 0, 4, 12, 31, 63]) | _ => ([], []), fun _ => []⟩
theorem S48_T {a0 a1 a2 : Value} {h : GH} {K : Value → GH → Prop} (g : S48 a0 a1 a2 h K) : T Tryz.prog 48 [a0, a1, a2] h K :=
  T_of_gwp (A := A48) Tryz.func48 (c := bodyOf Tryz.f48) (by kernel_rfl) (by kernel_rfl) (by kernel_rfl) (by kernel_rfl) (by kernel_rfl) (Eq.mp (by kernel_rfl) g)

/-! ### pawl/word.Number (49) -/
def S49 (a0 : Value) (h : GH) (K : Value → GH → Prop) : Prop :=
 ivV Tryz.prog a0 "pawl/word.number" [] h fun v1 h2 =>
 K v1 h2
def A49 : Ann := ⟨fun _ => ([], []), fun _ => []⟩
theorem S49_T {a0 : Value} {h : GH} {K : Value → GH → Prop} (g : S49 a0 h K) : T Tryz.prog 49 [a0] h K :=
  T_of_gwp (A := A49) Tryz.func49 (c := bodyOf Tryz.f49) (by kernel_rfl) (by kernel_rfl) (by kernel_rfl) (by kernel_rfl) (by kernel_rfl) (Eq.mp (by kernel_rfl) g)

/-! ### (*pawl/mcas.Help).Won (50) -/
def S50 (a0 : Value) (h : GH) (K : Value → GH → Prop) : Prop :=
 bnd (eqK .ptr true a0 (.pointer none)) fun b1 =>
 ifV (.bool (!b1)) (
 bnd (ncV a0) fun v2 =>
 bnd (faV 4 v2) fun v3 =>
 bnd (ldV 1 false v3 h) fun v4 =>
 K v4 h) (
 K (.bool false) h)
def A50 : Ann := ⟨fun _ => ([], []), fun _ => []⟩
theorem S50_T {a0 : Value} {h : GH} {K : Value → GH → Prop} (g : S50 a0 h K) : T Tryz.prog 50 [a0] h K :=
  T_of_gwp (A := A50) Tryz.func50 (c := bodyOf Tryz.f50) (by kernel_rfl) (by kernel_rfl) (by kernel_rfl) (by kernel_rfl) (by kernel_rfl) (Eq.mp (by kernel_rfl) g)

/-! ### slices.Clone[[]pawl/api.Answer,pawl/api.Answer] (51) -/
def S51 (a0 : Value) (h : GH) (K : Value → GH → Prop) : Prop :=
 bnd (eqK .slice true a0 (.slice none 0 0)) fun b1 =>
 ifV (.bool b1) (
 K (.slice none 0 0) h) (
 bsV 64 0 [] [] h fun v2 h3 =>
 apV 64 2 16 v2 a0 h3 fun v4 h5 =>
 K v4 h5)
def A51 : Ann := ⟨fun _ => ([], []), fun _ => []⟩
theorem S51_T {a0 : Value} {h : GH} {K : Value → GH → Prop} (g : S51 a0 h K) : T Tryz.prog 51 [a0] h K :=
  T_of_gwp (A := A51) Tryz.func51 (c := bodyOf Tryz.f51) (by kernel_rfl) (by kernel_rfl) (by kernel_rfl) (by kernel_rfl) (by kernel_rfl) (Eq.mp (by kernel_rfl) g)

/-! ### pawl/pawlref1.ViewMay (52) -/
def S52 (a0 : Value) (h : GH) (K : Value → GH → Prop) : Prop :=
 newV 50 (a0 : Value).cells.toList h fun v1 h2 =>
 Lfp (fun (s3 : Nat → Value) h4 again5 =>
 bnd (binV .lss (s3 1) (.int .i64 16)) fun v6 =>
 ifV v6 (
 bnd (faV 16 (s3 0)) fun v7 =>
 bnd (iaV 16 1 v7 (s3 1)) fun v8 =>
 bnd (ldV 1 false v8 h4) fun v9 =>
 bnd (binV .lss v9 (.int .i64 0)) fun v10 =>
 ifV v10 (
 K (.bool false) h4) (
 bnd (faV 16 (s3 0)) fun v11 =>
 bnd (iaV 16 1 v11 (s3 1)) fun v12 =>
 bnd (ldV 1 false v12 h4) fun v13 =>
 bnd (binV .gtr v13 (.int .i64 1099511627775)) fun v14 =>
 ifV v14 (
 K (.bool false) h4) (
 bnd (faV 32 (s3 0)) fun v15 =>
 bnd (iaV 16 1 v15 (s3 1)) fun v16 =>
 bnd (ldV 1 false v16 h4) fun v17 =>
 bnd (binV .lss v17 (.int .i64 0)) fun v18 =>
 ifV v18 (
 K (.bool false) h4) (
 bnd (faV 32 (s3 0)) fun v19 =>
 bnd (iaV 16 1 v19 (s3 1)) fun v20 =>
 bnd (ldV 1 false v20 h4) fun v21 =>
 bnd (binV .gtr v21 (.int .i64 1099511627775)) fun v22 =>
 ifV v22 (
 K (.bool false) h4) (
 bnd (binV .add (s3 1) (.int .i64 1)) fun v23 =>
 again5 (tup [(s3 0), v23]) h4))))) (
 K (.bool true) h4)) (tup [v1, (.int .i64 0)]) h2
def A52 : Ann := ⟨fun _ => ([], []), fun | 0 => [1, 3] | _ => []⟩
theorem S52_T {a0 : Value} {h : GH} {K : Value → GH → Prop} (g : S52 a0 h K) : T Tryz.prog 52 [a0] h K :=
  T_of_gwp (A := A52) Tryz.func52 (c := bodyOf Tryz.f52) (by kernel_rfl) (by kernel_rfl) (by kernel_rfl) (by kernel_rfl) (by kernel_rfl) (Eq.mp (by kernel_rfl) g)

/-! ### pawl/pawlref1.OpMay (53) -/
def S53_j5 (x1 x3 x5 x6 x29 x102 : Value) (h : GH) (K : Value → GH → Prop)  : Prop :=
 ifV x102 (
 ifV x5 (
 bnd (ldV 4 true x3 h) fun v1 =>
 bnd (ldV 4 true x1 h) fun v2 =>
 bnd (eqP Tryz.prog 10000 24 v1 v2) fun b3 =>
 K (.bool b3) h) (
 K (.bool false) h)) (
 bnd (eqI x29 (.int .i64 10)) fun b4 =>
 ifV (.bool b4) (
 bnd (faV 2 x1) fun v5 =>
 bnd (ldV 1 false v5 h) fun v6 =>
 bnd (faV 2 x3) fun v7 =>
 bnd (stV 1 v7 v6 h) fun h8 =>
 ifV x5 (
 bnd (faV 2 x1) fun v9 =>
 bnd (ldV 1 false v9 h8) fun v10 =>
 bnd (binV .geq v10 (.int .i64 0)) fun v11 =>
 ifV v11 (
 bnd (faV 2 x1) fun v12 =>
 bnd (ldV 1 false v12 h8) fun v13 =>
 bnd (binV .lss v13 (.int .i64 5)) fun v14 =>
 ifV v14 (
 bnd (ldV 4 true x3 h8) fun v15 =>
 bnd (ldV 4 true x1 h8) fun v16 =>
 bnd (eqP Tryz.prog 10000 24 v15 v16) fun b17 =>
 K (.bool b17) h8) (
 K (.bool false) h8)) (
 K (.bool false) h8)) (
 K (.bool false) h8)) (
 ifV x6 (
 bnd (ldV 4 true x3 h) fun v18 =>
 bnd (ldV 4 true x1 h) fun v19 =>
 bnd (eqP Tryz.prog 10000 24 v18 v19) fun b20 =>
 K (.bool b20) h) (
 K (.bool false) h)))

def S53_j4 (x1 x3 x5 x6 x29 x80 : Value) (h : GH) (K : Value → GH → Prop)  : Prop :=
 ifV x80 (
 bnd (faV 1 x1) fun v1 =>
 bnd (ldV 1 false v1 h) fun v2 =>
 bnd (eqI v2 (.int .i64 0)) fun b3 =>
 ifV (.bool b3) (
 bnd (ldV 4 true x3 h) fun v4 =>
 bnd (ldV 4 true x1 h) fun v5 =>
 bnd (eqP Tryz.prog 10000 24 v4 v5) fun b6 =>
 K (.bool b6) h) (
 K (.bool false) h)) (
 bnd (eqI x29 (.int .i64 6)) fun b7 =>
 ifV (.bool b7) (
 bnd (faV 3 x1) fun v8 =>
 bnd (ldV 1 false v8 h) fun v9 =>
 bnd (faV 3 x3) fun v10 =>
 bnd (stV 1 v10 v9 h) fun h11 =>
 ifV x5 (
 bnd (faV 3 x1) fun v12 =>
 bnd (ldV 1 false v12 h11) fun v13 =>
 bnd (eqI v13 (.int .i64 0)) fun b14 =>
 ifV (.bool b14) (
 bnd (ldV 4 true x3 h11) fun v15 =>
 bnd (ldV 4 true x1 h11) fun v16 =>
 bnd (eqP Tryz.prog 10000 24 v15 v16) fun b17 =>
 K (.bool b17) h11) (
 bnd (faV 3 x1) fun v18 =>
 bnd (ldV 1 false v18 h11) fun v19 =>
 bnd (eqI v19 (.int .i64 1)) fun b20 =>
 ifV (.bool b20) (
 bnd (ldV 4 true x3 h11) fun v21 =>
 bnd (ldV 4 true x1 h11) fun v22 =>
 bnd (eqP Tryz.prog 10000 24 v21 v22) fun b23 =>
 K (.bool b23) h11) (
 K (.bool false) h11))) (
 K (.bool false) h11)) (
 bnd (eqI x29 (.int .i64 7)) fun b24 =>
 ifV (.bool b24) (
 S53_j5 x1 x3 x5 x6 x29 (.bool true) h K ) (
 bnd (eqI x29 (.int .i64 8)) fun b25 =>
 S53_j5 x1 x3 x5 x6 x29 (.bool b25) h K )))

def S53_j3 (x1 x3 x4 x5 x6 x29 x30 : Value) (h : GH) (K : Value → GH → Prop)  : Prop :=
 ifV x30 (
 bnd (faV 3 x1) fun v1 =>
 bnd (ldV 1 false v1 h) fun v2 =>
 bnd (faV 3 x3) fun v3 =>
 bnd (stV 1 v3 v2 h) fun h4 =>
 ifV x4 (
 bnd (faV 3 x1) fun v5 =>
 bnd (ldV 1 false v5 h4) fun v6 =>
 bnd (binV .geq v6 (.int .i64 0)) fun v7 =>
 ifV v7 (
 bnd (faV 3 x1) fun v8 =>
 bnd (ldV 1 false v8 h4) fun v9 =>
 bnd (binV .leq v9 (.int .i64 1048575)) fun v10 =>
 ifV v10 (
 bnd (ldV 4 true x3 h4) fun v11 =>
 bnd (ldV 4 true x1 h4) fun v12 =>
 bnd (eqP Tryz.prog 10000 24 v11 v12) fun b13 =>
 K (.bool b13) h4) (
 K (.bool false) h4)) (
 K (.bool false) h4)) (
 K (.bool false) h4)) (
 bnd (eqI x29 (.int .i64 1)) fun b14 =>
 ifV (.bool b14) (
 ifV x4 (
 bnd (ldV 4 true x3 h) fun v15 =>
 bnd (ldV 4 true x1 h) fun v16 =>
 bnd (eqP Tryz.prog 10000 24 v15 v16) fun b17 =>
 K (.bool b17) h) (
 K (.bool false) h)) (
 bnd (eqI x29 (.int .i64 4)) fun b18 =>
 ifV (.bool b18) (
 bnd (faV 2 x1) fun v19 =>
 bnd (ldV 1 false v19 h) fun v20 =>
 bnd (faV 2 x3) fun v21 =>
 bnd (stV 1 v21 v20 h) fun h22 =>
 bnd (faV 3 x1) fun v23 =>
 bnd (ldV 1 false v23 h22) fun v24 =>
 bnd (faV 3 x3) fun v25 =>
 bnd (stV 1 v25 v24 h22) fun h26 =>
 ifV x4 (
 bnd (faV 2 x1) fun v27 =>
 bnd (ldV 1 false v27 h26) fun v28 =>
 bnd (binV .geq v28 (.int .i64 0)) fun v29 =>
 ifV v29 (
 bnd (faV 2 x1) fun v30 =>
 bnd (ldV 1 false v30 h26) fun v31 =>
 bnd (binV .lss v31 (.int .i64 4)) fun v32 =>
 ifV v32 (
 bnd (faV 3 x1) fun v33 =>
 bnd (ldV 1 false v33 h26) fun v34 =>
 bnd (binV .geq v34 (.int .i64 0)) fun v35 =>
 ifV v35 (
 bnd (faV 3 x1) fun v36 =>
 bnd (ldV 1 false v36 h26) fun v37 =>
 bnd (binV .leq v37 (.int .i64 1048575)) fun v38 =>
 ifV v38 (
 bnd (ldV 4 true x3 h26) fun v39 =>
 bnd (ldV 4 true x1 h26) fun v40 =>
 bnd (eqP Tryz.prog 10000 24 v39 v40) fun b41 =>
 K (.bool b41) h26) (
 K (.bool false) h26)) (
 K (.bool false) h26)) (
 K (.bool false) h26)) (
 K (.bool false) h26)) (
 K (.bool false) h26)) (
 bnd (eqI x29 (.int .i64 5)) fun b42 =>
 ifV (.bool b42) (
 S53_j4 x1 x3 x5 x6 x29 (.bool true) h K ) (
 bnd (eqI x29 (.int .i64 9)) fun b43 =>
 S53_j4 x1 x3 x5 x6 x29 (.bool b43) h K ))))

def S53_j2 (x1 x3 x4 x5 : Value) (h : GH) (K : Value → GH → Prop)  : Prop :=
 bnd (faV 0 x1) fun v1 =>
 bnd (ldV 1 false v1 h) fun v2 =>
 bnd (eqI v2 (.int .i64 0)) fun b3 =>
 ifV (.bool b3) (
 S53_j3 x1 x3 x4 x5 (.bool false) v2 (.bool true) h K ) (
 bnd (eqI v2 (.int .i64 2)) fun b4 =>
 ifV (.bool b4) (
 S53_j3 x1 x3 x4 x5 (.bool false) v2 (.bool true) h K ) (
 bnd (eqI v2 (.int .i64 3)) fun b5 =>
 S53_j3 x1 x3 x4 x5 (.bool false) v2 (.bool b5) h K ))

def S53_j1 (x1 x3 x4 : Value) (h : GH) (K : Value → GH → Prop)  : Prop :=
 bnd (faV 1 x1) fun v1 =>
 bnd (ldV 1 false v1 h) fun v2 =>
 bnd (binV .geq v2 (.int .i64 0)) fun v3 =>
 ifV v3 (
 bnd (faV 1 x1) fun v4 =>
 bnd (ldV 1 false v4 h) fun v5 =>
 bnd (binV .lss v5 (.int .i64 5)) fun v6 =>
 S53_j2 x1 x3 x4 v6 h K ) (
 S53_j2 x1 x3 x4 (.bool false) h K )
def S53 (a0 : Value) (h : GH) (K : Value → GH → Prop) : Prop :=
 newV 24 (a0 : Value).cells.toList h fun v1 h2 =>
 bnd (faV 0 v1) fun v3 =>
 bnd (ldV 1 false v3 h2) fun v4 =>
 bnd (faV 1 v1) fun v5 =>
 bnd (ldV 1 false v5 h2) fun v6 =>
 bnd (fillV [(.int .i64 0), (.int .i64 0), (.int .i64 0), (.int .i64 0)] [(0, 1, v4), (1, 1, v6)]) fun c7 =>
 newV 24 [(.int .i64 0), (.int .i64 0), (.int .i64 0), (.int .i64 0)] h2 fun v8 h9 =>
 bnd (stV 4 v8 (.agg c7.toArray) h9) fun h10 =>
 bnd (faV 1 v1) fun v11 =>
 bnd (ldV 1 false v11 h10) fun v12 =>
 bnd (binV .geq v12 (.int .i64 0)) fun v13 =>
 ifV v13 (
 bnd (faV 1 v1) fun v14 =>
 bnd (ldV 1 false v14 h10) fun v15 =>
 bnd (binV .lss v15 (.int .i64 4)) fun v16 =>
 S53_j1 v1 v8 v16 h10 K ) (
 S53_j1 v1 v8 (.bool false) h10 K )
def A53 : Ann := ⟨fun _ => ([], []), fun _ => []⟩
theorem S53_T {a0 : Value} {h : GH} {K : Value → GH → Prop} (g : S53 a0 h K) : T Tryz.prog 53 [a0] h K :=
  T_of_gwp (A := A53) Tryz.func53 (c := bodyOf Tryz.f53) (by kernel_rfl) (by kernel_rfl) (by kernel_rfl) (by kernel_rfl) (by kernel_rfl) (Eq.mp (by kernel_rfl) g)

/-! ### pawl/pawlref1.one (54) -/
def S54_j2 (x4 x5 x6 : Value) (h : GH) (K : Value → GH → Prop)  : Prop :=
 bnd (ncV x5) fun v1 =>
 bnd (faV 0 v1) fun v2 =>
 bnd (ldV 48 true v2 h) fun v3 =>
 bnd (ldV 2 true x6 h) fun v4 =>
 bsV 64 1 [(.int .i64 0), (.int .i64 0)] [(0, 2, v4)] h fun v5 h6 =>
 bnd (fillV ([(.int .i64 0)] ++ List.replicate 16 (.bool false) ++ List.replicate 32 (.int .i64 0) ++ [(.slice none 0 0)]) [(0, 1, (.int .i64 (-1))), (1, 48, v3), (49, 1, v5)]) fun c7 =>
 bnd (stV 50 x4 (.agg c7.toArray) h6) fun h8 =>
 bnd (ldV 50 true x4 h8) fun v9 =>
 K v9 h8

def S54_j1 (x2 x4 x5 x6 : Value) (h : GH) (K : Value → GH → Prop)  : Prop :=
 bnd (ncV x5) fun v1 =>
 bnd (faV 48 v1) fun v2 =>
 bnd (ldV 1 false v2 h) fun v3 =>
 bnd (binV .geq v3 (.int .i64 0)) fun v4 =>
 ifV v4 (
 bnd (ncV x5) fun v5 =>
 bnd (faV 48 v5) fun v6 =>
 bnd (ldV 1 false v6 h) fun v7 =>
 bnd (ldV 48 true x2 h) fun v8 =>
 bnd (fillV ([(.int .i64 0)] ++ List.replicate 16 (.bool false) ++ List.replicate 32 (.int .i64 0) ++ [(.slice none 0 0)]) [(0, 1, v7), (1, 48, v8)]) fun c9 =>
 bnd (stV 50 x4 (.agg c9.toArray) h) fun h10 =>
 bnd (ldV 50 true x4 h10) fun v11 =>
 K v11 h10) (
 bnd (faV 0 x6) fun v12 =>
 bnd (ldV 1 false v12 h) fun v13 =>
 bnd (eqI v13 (.int .i64 0)) fun b14 =>
 ifV (.bool (!b14)) (
 bnd (ldV 48 true x2 h) fun v15 =>
 bnd (ncV x5) fun v16 =>
 bnd (faV 0 v16) fun v17 =>
 bnd (stV 48 v17 v15 h) fun h18 =>
 S54_j2 x4 x5 x6 h18 K ) (
 S54_j2 x4 x5 x6 h K ))
def S54 (a0 a1 : Value) (h : GH) (K : Value → GH → Prop) : Prop :=
 newV 50 (a0 : Value).cells.toList h fun v1 h2 =>
 newV 24 (a1 : Value).cells.toList h2 fun v3 h4 =>
 newV 54 ([(.int .i64 0)] ++ List.replicate 16 (.bool false) ++ List.replicate 32 (.int .i64 0) ++ [(.slice none 0 0)]) h4 fun v5 h6 =>
 bnd (ldV 48 true v1 h6) fun v7 =>
 bnd (fillV (List.replicate 16 (.bool false) ++ List.replicate 33 (.int .i64 0)) [(0, 48, v7), (48, 1, (.int .i64 (-1)))]) fun c8 =>
 newV 174 ((.agg c8.toArray) : Value).cells.toList h6 fun v9 h10 =>
 newV 64 [(.int .i64 0), (.int .i64 0)] h10 fun v11 h12 =>
 bnd (ldV 4 true v3 h12) fun v13 =>
 T Tryz.prog 87 [v13] h12 fun v14 h15 =>
 ifV v14 (
 bnd (ldV 4 true v3 h15) fun v16 =>
 T Tryz.prog 88 [v9, v16] h15 fun v17 h18 =>
 bnd (stV 2 v11 v17 h18) fun h19 =>
 S54_j1 v1 v5 v9 v11 h19 K ) (
 bnd (ldV 4 true v3 h15) fun v20 =>
 T Tryz.prog 89 [v9, v20] h15 fun v21 h22 =>
 bnd (stV 2 v11 v21 h22) fun h23 =>
 S54_j1 v1 v5 v9 v11 h23 K )
def A54 : Ann := ⟨fun | 7 => ([0, 1, 2, 3, 4, 5, 6], [0, 1, 3, 7, 0, 31, 63]) | 10 => ([0, 1, 2, 3, 4, 5, 6, 7], [0, 1, 3, 7, 0, 16, 63, 127]) | _ => ([], []), fun _ => []⟩
theorem S54_T {a0 a1 : Value} {h : GH} {K : Value → GH → Prop} (g : S54 a0 a1 h K) : T Tryz.prog 54 [a0, a1] h K :=
  T_of_gwp (A := A54) Tryz.func54 (c := bodyOf Tryz.f54) (by kernel_rfl) (by kernel_rfl) (by kernel_rfl) (by kernel_rfl) (by kernel_rfl) (Eq.mp (by kernel_rfl) g)

/-! ### slices.Clone[[]int,int] (55) -/
def S55 (a0 : Value) (h : GH) (K : Value → GH → Prop) : Prop :=
 bnd (eqK .slice true a0 (.slice none 0 0)) fun b1 =>
 ifV (.bool b1) (
 K (.slice none 0 0) h) (
 bsV 3 0 [] [] h fun v2 h3 =>
 apV 3 1 8 v2 a0 h3 fun v4 h5 =>
 K v4 h5)
def A55 : Ann := ⟨fun _ => ([], []), fun _ => []⟩
theorem S55_T {a0 : Value} {h : GH} {K : Value → GH → Prop} (g : S55 a0 h K) : T Tryz.prog 55 [a0] h K :=
  T_of_gwp (A := A55) Tryz.func55 (c := bodyOf Tryz.f55) (by kernel_rfl) (by kernel_rfl) (by kernel_rfl) (by kernel_rfl) (by kernel_rfl) (Eq.mp (by kernel_rfl) g)

/-! ### (*pawl/arena.Arena).Load$1 (56) -/
def S56 (a0 : Value) (h : GH) (K : Value → GH → Prop) : Prop :=
 K a0 h
def A56 : Ann := ⟨fun _ => ([], []), fun _ => []⟩
theorem S56_T {a0 : Value} {h : GH} {K : Value → GH → Prop} (g : S56 a0 h K) : T Tryz.prog 56 [a0] h K :=
  T_of_gwp (A := A56) Tryz.func56 (c := bodyOf Tryz.f56) (by kernel_rfl) (by kernel_rfl) (by kernel_rfl) (by kernel_rfl) (by kernel_rfl) (Eq.mp (by kernel_rfl) g)

/-! ### pawl/pawllaw0.CopyOps (57) -/
def S57 (a0 : Value) (h : GH) (K : Value → GH → Prop) : Prop :=
 bsV 24 0 [] [] h fun v1 h2 =>
 apV 24 4 32 v1 a0 h2 fun v3 h4 =>
 K v3 h4
def A57 : Ann := ⟨fun _ => ([], []), fun _ => []⟩
theorem S57_T {a0 : Value} {h : GH} {K : Value → GH → Prop} (g : S57 a0 h K) : T Tryz.prog 57 [a0] h K :=
  T_of_gwp (A := A57) Tryz.func57 (c := bodyOf Tryz.f57) (by kernel_rfl) (by kernel_rfl) (by kernel_rfl) (by kernel_rfl) (by kernel_rfl) (Eq.mp (by kernel_rfl) g)

/-! ### pawl/pawlref10.threadMay (58) -/
def S58 (a0 : Value) (h : GH) (K : Value → GH → Prop) : Prop :=
 bnd (binV .geq a0 (.int .i64 0)) fun v1 =>
 ifV v1 (
 bnd (binV .lss a0 (.int .i64 4)) fun v2 =>
 K v2 h) (
 K (.bool false) h)
def A58 : Ann := ⟨fun _ => ([], []), fun _ => []⟩
theorem S58_T {a0 : Value} {h : GH} {K : Value → GH → Prop} (g : S58 a0 h K) : T Tryz.prog 58 [a0] h K :=
  T_of_gwp (A := A58) Tryz.func58 (c := bodyOf Tryz.f58) (by kernel_rfl) (by kernel_rfl) (by kernel_rfl) (by kernel_rfl) (by kernel_rfl) (Eq.mp (by kernel_rfl) g)

/-! ### pawl/pawlref10.lifeMay (59) -/
def S59 (a0 a1 : Value) (h : GH) (K : Value → GH → Prop) : Prop :=
 bnd (binV .geq a0 (.int .i64 0)) fun v1 =>
 ifV v1 (
 bnd (binV .lss a0 (.int .i64 12)) fun v2 =>
 ifV v2 (
 bnd (binV .geq a1 (.int .i64 0)) fun v3 =>
 ifV v3 (
 bnd (binV .leq a1 (.int .i64 65535)) fun v4 =>
 K v4 h) (
 K (.bool false) h)) (
 K (.bool false) h)) (
 K (.bool false) h)
def A59 : Ann := ⟨fun _ => ([], []), fun _ => []⟩
theorem S59_T {a0 a1 : Value} {h : GH} {K : Value → GH → Prop} (g : S59 a0 a1 h K) : T Tryz.prog 59 [a0, a1] h K :=
  T_of_gwp (A := A59) Tryz.func59 (c := bodyOf Tryz.f59) (by kernel_rfl) (by kernel_rfl) (by kernel_rfl) (by kernel_rfl) (by kernel_rfl) (Eq.mp (by kernel_rfl) g)

/-! ### pawl/pawlref10.NewRead (60) -/
def S60 (a0 a1 a2 : Value) (h : GH) (K : Value → GH → Prop) : Prop :=
 T Tryz.prog 58 [a0] h fun v1 h2 =>
 bnd (unV .not v1) fun v3 =>
 ifV v3 (
 K (.tuple #[(.pointer none), (.int .i64 1500)]) h2) (
 bnd (binV .lss a1 (.int .i64 0)) fun v4 =>
 ifV v4 (
 K (.tuple #[(.pointer none), (.int .i64 1500)]) h2) (
 bnd (binV .gtr a1 (.int .i64 1048575)) fun v5 =>
 ifV v5 (
 K (.tuple #[(.pointer none), (.int .i64 1500)]) h2) (
 bnd (binV .lss a2 (.int .i64 0)) fun v6 =>
 ifV v6 (
 K (.tuple #[(.pointer none), (.int .i64 1500)]) h2) (
 bnd (binV .geq a2 (.int .i64 16)) fun v7 =>
 ifV v7 (
 K (.tuple #[(.pointer none), (.int .i64 1500)]) h2) (
 bnd (fillV [(.int .i64 0), (.int .i64 0), (.int .i64 0), (.pointer none), (.int .i64 0), (.bool false), (.int .i64 0), (.int .i64 0)] [(0, 1, a0), (1, 1, a1), (2, 1, a2), (6, 1, (.int .i64 (-1)))]) fun c8 =>
 newV 177 ((.agg c8.toArray) : Value).cells.toList h2 fun v9 h10 =>
 K (.tuple #[v9, (.int .i64 0)]) h10)))))
def A60 : Ann := ⟨fun _ => ([], []), fun _ => []⟩
theorem S60_T {a0 a1 a2 : Value} {h : GH} {K : Value → GH → Prop} (g : S60 a0 a1 a2 h K) : T Tryz.prog 60 [a0, a1, a2] h K :=
  T_of_gwp (A := A60) Tryz.func60 (c := bodyOf Tryz.f60) (by kernel_rfl) (by kernel_rfl) (by kernel_rfl) (by kernel_rfl) (by kernel_rfl) (Eq.mp (by kernel_rfl) g)

/-! ### pawl/pawllaw0.SameOps (61) -/
def S61 (a0 a1 : Value) (h : GH) (K : Value → GH → Prop) : Prop :=
 bnd (lnV a0) fun v1 =>
 bnd (lnV a1) fun v2 =>
 bnd (eqI v1 v2) fun b3 =>
 ifV (.bool (!b3)) (
 K (.bool false) h) (
 Lfp (fun (s4 : Nat → Value) h5 again6 =>
 bnd (lnV (s4 0)) fun v7 =>
 bnd (binV .lss (s4 2) v7) fun v8 =>
 ifV v8 (
 bnd (isV 4 (s4 0) (s4 2)) fun v9 =>
 bnd (ldV 4 true v9 h5) fun v10 =>
 bnd (isV 4 (s4 1) (s4 2)) fun v11 =>
 bnd (ldV 4 true v11 h5) fun v12 =>
 bnd (eqP Tryz.prog 10000 24 v10 v12) fun b13 =>
 ifV (.bool (!b13)) (
 K (.bool false) h5) (
 bnd (binV .add (s4 2) (.int .i64 1)) fun v14 =>
 again6 (tup [(s4 0), (s4 1), v14]) h5)) (
 K (.bool true) h5)) (tup [a0, a1, (.int .i64 0)]) h)
def A61 : Ann := ⟨fun | 6 => ([0, 1, 2, 3, 4, 5, 6, 7, 8], [0, 0, 3, 7, 0, 0, 48, 112, 255]) | _ => ([], []), fun | 0 => [0, 1, 5] | _ => []⟩
theorem S61_T {a0 a1 : Value} {h : GH} {K : Value → GH → Prop} (g : S61 a0 a1 h K) : T Tryz.prog 61 [a0, a1] h K :=
  T_of_gwp (A := A61) Tryz.func61 (c := bodyOf Tryz.f61) (by kernel_rfl) (by kernel_rfl) (by kernel_rfl) (by kernel_rfl) (by kernel_rfl) (Eq.mp (by kernel_rfl) g)

/-! ### (*pawl/pawlref10.Attempt).reading (62) -/
def S62 (a0 a1 : Value) (h : GH) (K : Value → GH → Prop) : Prop :=
 bnd (ncV a0) fun v1 =>
 bnd (faV 53 v1) fun v2 =>
 bnd (ldV 1 false v2 h) fun v3 =>
 T Tryz.prog 90 [v3, a1] h fun v4 h5 =>
 bnd (exV v4 0) fun v6 =>
 bnd (exV v4 1) fun v7 =>
 bnd (ncV a0) fun v8 =>
 bnd (faV 53 v8) fun v9 =>
 bnd (ldV 1 false v9 h5) fun v10 =>
 T Tryz.prog 91 [v10] h5 fun v11 h12 =>
 bnd (exV v11 0) fun v13 =>
 bnd (exV v11 1) fun v14 =>
 bnd (ncV a0) fun v15 =>
 bnd (faV 59 v15) fun v16 =>
 bnd (stV 1 v16 v13 h12) fun h17 =>
 bnd (ncV a0) fun v18 =>
 bnd (faV 60 v18) fun v19 =>
 bnd (stV 1 v19 v14 h17) fun h20 =>
 bnd (ncV a0) fun v21 =>
 bnd (faV 53 v21) fun v22 =>
 bnd (ldV 1 false v22 h20) fun v23 =>
 bnd (ncV v23) fun v24 =>
 bnd (faV 1 v24) fun v25 =>
 bnd (ldV 1 false v25 h20) fun v26 =>
 bnd (ncV a0) fun v27 =>
 bnd (faV 1 v27) fun v28 =>
 bnd (stV 1 v28 v26 h20) fun h29 =>
 bnd (eqI v7 (.int .i64 0)) fun b30 =>
 ifV (.bool (!b30)) (
 bnd (ncV a0) fun v31 =>
 bnd (faV 58 v31) fun v32 =>
 bnd (stV 1 v32 (.bool true) h29) fun h33 =>
 K (.tuple #[(.bool true), (.int .i64 1700)]) h33) (
 bnd (unV .not v6) fun v34 =>
 ifV v34 (
 K (.tuple #[(.bool false), (.int .i64 0)]) h29) (
 bnd (ncV a0) fun v35 =>
 bnd (faV 5 v35) fun v36 =>
 bnd (ldV 48 true v36 h29) fun v37 =>
 newV 50 (List.replicate 16 (.bool false) ++ List.replicate 32 (.int .i64 0)) h29 fun v38 h39 =>
 bnd (stV 48 v38 v37 h39) fun h40 =>
 bnd (ncV a0) fun v41 =>
 bnd (faV 53 v41) fun v42 =>
 bnd (ldV 1 false v42 h40) fun v43 =>
 bnd (ncV v43) fun v44 =>
 bnd (faV 2 v44) fun v45 =>
 bnd (ldV 1 false v45 h40) fun v46 =>
 bnd (faV 0 v38) fun v47 =>
 bnd (iaV 16 1 v47 v46) fun v48 =>
 bnd (stV 1 v48 (.bool true) h40) fun h49 =>
 bnd (ncV a0) fun v50 =>
 bnd (faV 53 v50) fun v51 =>
 bnd (ldV 1 false v51 h49) fun v52 =>
 bnd (ncV v52) fun v53 =>
 bnd (faV 4 v53) fun v54 =>
 bnd (ldV 1 false v54 h49) fun v55 =>
 bnd (faV 16 v38) fun v56 =>
 bnd (iaV 16 1 v56 v46) fun v57 =>
 bnd (stV 1 v57 v55 h49) fun h58 =>
 bnd (ncV a0) fun v59 =>
 bnd (faV 53 v59) fun v60 =>
 bnd (ldV 1 false v60 h58) fun v61 =>
 bnd (ncV v61) fun v62 =>
 bnd (faV 4 v62) fun v63 =>
 bnd (ldV 1 false v63 h58) fun v64 =>
 bnd (faV 32 v38) fun v65 =>
 bnd (iaV 16 1 v65 v46) fun v66 =>
 bnd (stV 1 v66 v64 h58) fun h67 =>
 bnd (ldV 48 true v38 h67) fun v68 =>
 bnd (ncV a0) fun v69 =>
 bnd (faV 5 v69) fun v70 =>
 bnd (stV 48 v70 v68 h67) fun h71 =>
 bnd (ldV 48 true v38 h71) fun v72 =>
 bnd (ncV a0) fun v73 =>
 bnd (faV 4 v73) fun v74 =>
 bnd (ldV 1 false v74 h71) fun v75 =>
 T Tryz.prog 20 [v72, v75] h71 fun v76 h77 =>
 bnd (exV v76 0) fun v78 =>
 bnd (exV v76 1) fun v79 =>
 newV 54 ([(.int .i64 0)] ++ List.replicate 16 (.bool false) ++ List.replicate 32 (.int .i64 0) ++ [(.slice none 0 0)]) h77 fun v80 h81 =>
 bnd (stV 50 v80 v78 h81) fun h82 =>
 bnd (eqI v79 (.int .i64 0)) fun b83 =>
 ifV (.bool (!b83)) (
 bnd (ncV a0) fun v84 =>
 bnd (faV 58 v84) fun v85 =>
 bnd (stV 1 v85 (.bool true) h82) fun h86 =>
 K (.tuple #[(.bool true), (.int .i64 1700)]) h86) (
 bnd (faV 0 v80) fun v87 =>
 bnd (ldV 1 false v87 h82) fun v88 =>
 bnd (binV .geq v88 (.int .i64 0)) fun v89 =>
 ifV v89 (
 bnd (ncV a0) fun v90 =>
 bnd (faV 0 v90) fun v91 =>
 bnd (ldV 1 false v91 h82) fun v92 =>
 bnd (ncV a0) fun v93 =>
 bnd (faV 1 v93) fun v94 =>
 bnd (ldV 1 false v94 h82) fun v95 =>
 bnd (faV 0 v80) fun v96 =>
 bnd (ldV 1 false v96 h82) fun v97 =>
 T Tryz.prog 60 [v92, v95, v97] h82 fun v98 h99 =>
 bnd (exV v98 0) fun v100 =>
 bnd (exV v98 1) fun v101 =>
 bnd (ncV a0) fun v102 =>
 bnd (faV 53 v102) fun v103 =>
 bnd (stV 1 v103 v100 h99) fun h104 =>
 K (.tuple #[(.bool false), (.int .i64 0)]) h104) (
 bnd (ncV a0) fun v105 =>
 bnd (faV 53 v105) fun v106 =>
 bnd (stV 1 v106 (.pointer none) h82) fun h107 =>
 bnd (faV 49 v80) fun v108 =>
 bnd (ldV 1 false v108 h107) fun v109 =>
 bnd (ncV a0) fun v110 =>
 bnd (faV 56 v110) fun v111 =>
 bnd (stV 1 v111 v109 h107) fun h112 =>
 bnd (ncV a0) fun v113 =>
 bnd (faV 2 v113) fun v114 =>
 bnd (ldV 1 false v114 h112) fun v115 =>
 bnd (ncV a0) fun v116 =>
 bnd (faV 3 v116) fun v117 =>
 bnd (ldV 1 false v117 h112) fun v118 =>
 bnd (faV 1 v80) fun v119 =>
 bnd (ldV 48 true v119 h112) fun v120 =>
 T Tryz.prog 92 [v120] h112 fun v121 h122 =>
 ldV 1 false v117 h122 = some v118 ∧
 ldV 1 false v114 h122 = some v115 ∧
 T Tryz.prog 42 [v115, v118, v121] h122 fun v123 h124 =>
 bnd (exV v123 0) fun v125 =>
 bnd (exV v123 1) fun v126 =>
 bnd (ncV a0) fun v127 =>
 bnd (faV 54 v127) fun v128 =>
 bnd (stV 1 v128 v125 h124) fun h129 =>
 K (.tuple #[(.bool false), (.int .i64 0)]) h129))))
def A62 : Ann := ⟨fun | 17 => ([0, 1, 2, 3, 4, 5, 6, 7, 8, 9, 10, 11], [0, 0, 2, 6, 14, 31, 63, 127, 127, 0, 767, 2047]) | 22 => ([0, 1, 2, 3, 4, 5, 6, 7, 8, 9, 10, 11, 12, 13, 14, 15], [0, 1, 3, 7, 0, 16, 48, 112, 0, 256, 1023, 2047, 4095, 4095, 8191, 32767]) | 27 => ([0, 1, 2, 3, 4, 5, 6, 7, 8, 9, 10, 11, 12, 13, 14, 15, 16], [0, 1, 3, 7, 0, 16, 48, 112, 0, 256, 768, 2047, 4095, 8191, 8191, 16383, 65535]) | _ => ([], []), fun _ => []⟩
theorem S62_T {a0 a1 : Value} {h : GH} {K : Value → GH → Prop} (g : S62 a0 a1 h K) : T Tryz.prog 62 [a0, a1] h K :=
  T_of_gwp (A := A62) Tryz.func62 (c := bodyOf Tryz.f62) (by kernel_rfl) (by kernel_rfl) (by kernel_rfl) (by kernel_rfl) (by kernel_rfl) (Eq.mp (by kernel_rfl) g)

/-! ### pawl/pawlref1.PutWord (63) -/
def S63_j1 (x1 x4 : Value) (h : GH) (K : Value → GH → Prop)  : Prop :=
 bnd (faV 0 x1) fun v1 =>
 bnd (ldV 1 false v1 h) fun v2 =>
 bnd (eqI v2 (.int .i64 1)) fun b3 =>
 ifV (.bool b3) (
 bnd (binV .mul x4 (.int .i64 16)) fun v4 =>
 bnd (faV 4 x1) fun v5 =>
 bnd (ldV 1 false v5 h) fun v6 =>
 bnd (binV .add v4 v6) fun v7 =>
 bnd (binV .mul v7 (.int .i64 4)) fun v8 =>
 bnd (faV 5 x1) fun v9 =>
 bnd (ldV 1 false v9 h) fun v10 =>
 bnd (binV .add v8 v10) fun v11 =>
 bnd (binV .mul v11 (.int .i64 1048576)) fun v12 =>
 bnd (faV 6 x1) fun v13 =>
 bnd (ldV 1 false v13 h) fun v14 =>
 bnd (binV .add v12 v14) fun v15 =>
 bnd (binV .mul (.int .i64 4) v15) fun v16 =>
 bnd (faV 0 x1) fun v17 =>
 bnd (ldV 1 false v17 h) fun v18 =>
 bnd (binV .add v16 v18) fun v19 =>
 K (.tuple #[v19, (.int .i64 0)]) h) (
 bnd (binV .mul (.int .i64 4) x4) fun v20 =>
 bnd (faV 0 x1) fun v21 =>
 bnd (ldV 1 false v21 h) fun v22 =>
 bnd (binV .add v20 v22) fun v23 =>
 K (.tuple #[v23, (.int .i64 0)]) h)
def S63 (a0 : Value) (h : GH) (K : Value → GH → Prop) : Prop :=
 newV 132 (a0 : Value).cells.toList h fun v1 h2 =>
 bnd (ldV 7 true v1 h2) fun v3 =>
 T Tryz.prog 93 [v3] h2 fun v4 h5 =>
 bnd (unV .not v4) fun v6 =>
 ifV v6 (
 K (.tuple #[(.int .i64 0), (.int .i64 100)]) h5) (
 bnd (faV 1 v1) fun v7 =>
 bnd (ldV 1 false v7 h5) fun v8 =>
 bnd (faV 0 v1) fun v9 =>
 bnd (ldV 1 false v9 h5) fun v10 =>
 bnd (eqI v10 (.int .i64 0)) fun b11 =>
 ifV (.bool (!b11)) (
 bnd (faV 3 v1) fun v12 =>
 bnd (ldV 1 false v12 h5) fun v13 =>
 bnd (binV .mul v13 (.int .i64 16)) fun v14 =>
 bnd (faV 2 v1) fun v15 =>
 bnd (ldV 1 false v15 h5) fun v16 =>
 bnd (binV .add v14 v16) fun v17 =>
 S63_j1 v1 v17 h5 K ) (
 S63_j1 v1 v8 h5 K ))
def A63 : Ann := ⟨fun _ => ([], []), fun _ => []⟩
theorem S63_T {a0 : Value} {h : GH} {K : Value → GH → Prop} (g : S63 a0 h K) : T Tryz.prog 63 [a0] h K :=
  T_of_gwp (A := A63) Tryz.func63 (c := bodyOf Tryz.f63) (by kernel_rfl) (by kernel_rfl) (by kernel_rfl) (by kernel_rfl) (by kernel_rfl) (Eq.mp (by kernel_rfl) g)

/-! ### pawl/pawlref10.NewHelp (64) -/
def S64_j1 (x0 x1 x2 x8 : Value) (h : GH) (K : Value → GH → Prop)  : Prop :=
 bnd (ldV 7 true x8 h) fun v1 =>
 bnd (fillV (List.replicate 14 (.int .i64 0) ++ [(.bool false), (.bool false), (.int .i64 0)]) [(0, 7, v1), (7, 1, x2)]) fun c2 =>
 bsV 182 1 (List.replicate 14 (.int .i64 0) ++ [(.bool false), (.bool false), (.int .i64 0)]) [(0, 17, (.agg c2.toArray))] h fun v3 h4 =>
 bnd (fillV [(.int .i64 0), (.int .i64 0), (.slice none 0 0), (.bool false), (.int .i64 0), (.int .i64 0), (.bool false)] [(0, 1, x0), (1, 1, x1), (2, 1, v3), (4, 1, (.int .i64 (-1)))]) fun c5 =>
 newV 137 ((.agg c5.toArray) : Value).cells.toList h4 fun v6 h7 =>
 K (.tuple #[v6, (.int .i64 0)]) h7
def S64 (a0 a1 a2 : Value) (h : GH) (K : Value → GH → Prop) : Prop :=
 T Tryz.prog 94 [a2] h fun v1 h2 =>
 bnd (exV v1 0) fun v3 =>
 bnd (exV v1 1) fun v4 =>
 newV 132 [(.int .i64 0), (.int .i64 0), (.int .i64 0), (.int .i64 0), (.int .i64 0), (.int .i64 0), (.int .i64 0)] h2 fun v5 h6 =>
 bnd (stV 7 v5 v3 h6) fun h7 =>
 T Tryz.prog 58 [a0] h7 fun v8 h9 =>
 bnd (unV .not v8) fun v10 =>
 ifV v10 (
 K (.tuple #[(.pointer none), (.int .i64 1400)]) h9) (
 bnd (binV .lss a1 (.int .i64 0)) fun v11 =>
 ifV v11 (
 K (.tuple #[(.pointer none), (.int .i64 1400)]) h9) (
 bnd (binV .gtr a1 (.int .i64 1048575)) fun v12 =>
 ifV v12 (
 K (.tuple #[(.pointer none), (.int .i64 1400)]) h9) (
 bnd (eqI v4 (.int .i64 0)) fun b13 =>
 ifV (.bool (!b13)) (
 K (.tuple #[(.pointer none), (.int .i64 1400)]) h9) (
 bnd (faV 0 v5) fun v14 =>
 bnd (ldV 1 false v14 h9) fun v15 =>
 bnd (eqI v15 (.int .i64 0)) fun b16 =>
 ifV (.bool b16) (
 K (.tuple #[(.pointer none), (.int .i64 1400)]) h9) (
 S64_j1 a0 a1 a2 v5 h9 K )))))
def A64 : Ann := ⟨fun _ => ([], []), fun _ => []⟩
theorem S64_T {a0 a1 a2 : Value} {h : GH} {K : Value → GH → Prop} (g : S64 a0 a1 a2 h K) : T Tryz.prog 64 [a0, a1, a2] h K :=
  T_of_gwp (A := A64) Tryz.func64 (c := bodyOf Tryz.f64) (by kernel_rfl) (by kernel_rfl) (by kernel_rfl) (by kernel_rfl) (by kernel_rfl) (Eq.mp (by kernel_rfl) g)

/-! ### (*pawl/pawlref10.Help).Step (65) -/
def S65_j4 (x0 x6 : Value) (h : GH) (K : Value → GH → Prop)  : Prop :=
 bnd (ncV x0) fun v1 =>
 bnd (faV 2 v1) fun v2 =>
 bnd (ldV 1 false v2 h) fun v3 =>
 bnd (slV 17 v3 none (some x6)) fun v4 =>
 bnd (ncV x0) fun v5 =>
 bnd (faV 2 v5) fun v6 =>
 bnd (stV 1 v6 v4 h) fun h7 =>
 bnd (eqI x6 (.int .i64 0)) fun b8 =>
 bnd (ncV x0) fun v9 =>
 bnd (faV 6 v9) fun v10 =>
 bnd (stV 1 v10 (.bool b8) h7) fun h11 =>
 bnd (ncV x0) fun v12 =>
 bnd (faV 6 v12) fun v13 =>
 bnd (ldV 1 false v13 h11) fun v14 =>
 K (.tuple #[v14, (.int .i64 0)]) h11

def S65_j3 (x0 x6 x7 x9 : Value) (h : GH) (K : Value → GH → Prop)  : Prop :=
 ifV x9 (
 bnd (faV 15 x7) fun v1 =>
 bnd (ldV 1 false v1 h) fun v2 =>
 ifV v2 (
 bnd (eqI x6 (.int .i64 0)) fun b3 =>
 bnd (ncV x0) fun v4 =>
 bnd (faV 3 v4) fun v5 =>
 bnd (stV 1 v5 (.bool b3) h) fun h6 =>
 S65_j4 x0 x6 h6 K ) (
 bnd (ncV x0) fun v7 =>
 bnd (faV 3 v7) fun v8 =>
 bnd (stV 1 v8 (.bool false) h) fun h9 =>
 S65_j4 x0 x6 h9 K )) (
 bnd (ncV x0) fun v10 =>
 bnd (faV 6 v10) fun v11 =>
 bnd (ldV 1 false v11 h) fun v12 =>
 K (.tuple #[v12, (.int .i64 0)]) h)

def S65_j2 (x0 x6 x7 x9 x10 : Value) (h : GH) (K : Value → GH → Prop)  : Prop :=
 bnd (eqI x10 (.int .i64 0)) fun b1 =>
 ifV (.bool (!b1)) (
 T Tryz.prog 94 [x10] h fun v2 h3 =>
 bnd (exV v2 0) fun v4 =>
 bnd (exV v2 1) fun v5 =>
 newV 132 [(.int .i64 0), (.int .i64 0), (.int .i64 0), (.int .i64 0), (.int .i64 0), (.int .i64 0), (.int .i64 0)] h3 fun v6 h7 =>
 bnd (stV 7 v6 v4 h7) fun h8 =>
 bnd (ncV x0) fun v9 =>
 bnd (faV 2 v9) fun v10 =>
 bnd (ldV 1 false v10 h8) fun v11 =>
 bnd (ldV 7 true v6 h8) fun v12 =>
 bnd (fillV (List.replicate 14 (.int .i64 0) ++ [(.bool false), (.bool false), (.int .i64 0)]) [(0, 7, v12), (7, 1, x10)]) fun c13 =>
 bsV 182 1 (List.replicate 14 (.int .i64 0) ++ [(.bool false), (.bool false), (.int .i64 0)]) [(0, 17, (.agg c13.toArray))] h8 fun v14 h15 =>
 apV 182 17 128 v11 v14 h15 fun v16 h17 =>
 bnd (ncV x0) fun v18 =>
 bnd (faV 2 v18) fun v19 =>
 bnd (stV 1 v19 v16 h17) fun h20 =>
 S65_j3 x0 x6 x7 x9 h20 K ) (
 S65_j3 x0 x6 x7 x9 h K )

def S65_j1 (x0 x6 x7 x8 x9 x10 : Value) (h : GH) (K : Value → GH → Prop)  : Prop :=
 bnd (ncV x0) fun v1 =>
 bnd (faV 2 v1) fun v2 =>
 bnd (ldV 1 false v2 h) fun v3 =>
 bnd (ldV 17 true x7 h) fun v4 =>
 bnd (isV 17 v3 x6) fun v5 =>
 bnd (stV 17 v5 v4 h) fun h6 =>
 bnd (unV .not x8) fun v7 =>
 ifV v7 (
 bnd (ncV x0) fun v8 =>
 bnd (faV 6 v8) fun v9 =>
 bnd (stV 1 v9 (.bool true) h6) fun h10 =>
 K (.tuple #[(.bool true), (.int .i64 1400)]) h10) (
 bnd (eqI x10 (.int .i64 0)) fun b11 =>
 ifV (.bool (!b11)) (
 bnd (ncV x0) fun v12 =>
 bnd (faV 2 v12) fun v13 =>
 bnd (ldV 1 false v13 h6) fun v14 =>
 bnd (lnV v14) fun v15 =>
 bnd (binV .geq v15 (.int .i64 18)) fun v16 =>
 ifV v16 (
 bnd (ncV x0) fun v17 =>
 bnd (faV 6 v17) fun v18 =>
 bnd (stV 1 v18 (.bool true) h6) fun h19 =>
 K (.tuple #[(.bool true), (.int .i64 1400)]) h19) (
 S65_j2 x0 x6 x7 x9 x10 h6 K )) (
 S65_j2 x0 x6 x7 x9 x10 h6 K ))

def S65_j5 (x0 x1 x6 x7 : Value) (h : GH) (K : Value → GH → Prop)  : Prop :=
 T Tryz.prog 96 [x7, x1] h fun v1 h2 =>
 bnd (exV v1 0) fun v3 =>
 bnd (exV v1 1) fun v4 =>
 bnd (exV v1 2) fun v5 =>
 S65_j1 x0 x6 x7 v4 v5 v3 h2 K 
def S65 (a0 a1 : Value) (h : GH) (K : Value → GH → Prop) : Prop :=
 bnd (ncV a0) fun v1 =>
 bnd (faV 6 v1) fun v2 =>
 bnd (ldV 1 false v2 h) fun v3 =>
 ifV v3 (
 K (.tuple #[(.bool true), (.int .i64 0)]) h) (
 bnd (ncV a0) fun v4 =>
 bnd (faV 2 v4) fun v5 =>
 bnd (ldV 1 false v5 h) fun v6 =>
 bnd (lnV v6) fun v7 =>
 bnd (binV .sub v7 (.int .i64 1)) fun v8 =>
 bnd (ncV a0) fun v9 =>
 bnd (faV 2 v9) fun v10 =>
 bnd (ldV 1 false v10 h) fun v11 =>
 bnd (isV 17 v11 v8) fun v12 =>
 bnd (ldV 17 true v12 h) fun v13 =>
 newV 182 (List.replicate 14 (.int .i64 0) ++ [(.bool false), (.bool false), (.int .i64 0)]) h fun v14 h15 =>
 bnd (stV 17 v14 v13 h15) fun h16 =>
 bnd (faV 0 v14) fun v17 =>
 bnd (faV 2 v17) fun v18 =>
 bnd (ldV 1 false v18 h16) fun v19 =>
 bnd (ncV a0) fun v20 =>
 bnd (faV 4 v20) fun v21 =>
 bnd (stV 1 v21 v19 h16) fun h22 =>
 bnd (faV 0 v14) fun v23 =>
 bnd (faV 3 v23) fun v24 =>
 bnd (ldV 1 false v24 h22) fun v25 =>
 bnd (ncV a0) fun v26 =>
 bnd (faV 5 v26) fun v27 =>
 bnd (stV 1 v27 v25 h22) fun h28 =>
 bnd (faV 0 v14) fun v29 =>
 bnd (faV 0 v29) fun v30 =>
 bnd (ldV 1 false v30 h28) fun v31 =>
 bnd (eqI v31 (.int .i64 1)) fun b32 =>
 ifV (.bool b32) (
 T Tryz.prog 95 [v14, a1] h28 fun v33 h34 =>
 bnd (exV v33 0) fun v35 =>
 bnd (exV v33 1) fun v36 =>
 S65_j1 a0 v8 v14 v35 v36 (.int .i64 0) h34 K ) (
 bnd (faV 8 v14) fun v37 =>
 bnd (ldV 1 false v37 h28) fun v38 =>
 bnd (eqI v38 (.int .i64 5)) fun b39 =>
 ifV (.bool b39) (
 bnd (faV 0 v14) fun v40 =>
 bnd (faV 2 v40) fun v41 =>
 bnd (ldV 1 false v41 h28) fun v42 =>
 bnd (faV 0 v14) fun v43 =>
 bnd (faV 3 v43) fun v44 =>
 bnd (ldV 1 false v44 h28) fun v45 =>
 bnd (faV 9 v14) fun v46 =>
 bnd (ldV 1 false v46 h28) fun v47 =>
 bnd (ncV a0) fun v48 =>
 bnd (faV 0 v48) fun v49 =>
 bnd (ldV 1 false v49 h28) fun v50 =>
 bnd (ncV a0) fun v51 =>
 bnd (faV 1 v51) fun v52 =>
 bnd (ldV 1 false v52 h28) fun v53 =>
 bnd (fillV [(.int .i64 0), (.int .i64 0), (.int .i64 0), (.int .i64 0), (.int .i64 0), (.int .i64 0), (.int .i64 0)] [(0, 1, (.int .i64 1)), (2, 1, v42), (3, 1, v45), (4, 1, v47), (5, 1, v50), (6, 1, v53)]) fun c54 =>
 T Tryz.prog 63 [(.agg c54.toArray)] h28 fun v55 h56 =>
 bnd (exV v55 0) fun v57 =>
 bnd (exV v55 1) fun v58 =>
 bnd (faV 13 v14) fun v59 =>
 bnd (stV 1 v59 v57 h56) fun h60 =>
 bnd (ncV a0) fun v61 =>
 bnd (faV 1 v61) fun v62 =>
 bnd (ldV 1 false v62 h60) fun v63 =>
 bnd (binV .add v63 (.int .i64 1)) fun v64 =>
 bnd (binV .rem v64 (.int .i64 1048576)) fun v65 =>
 bnd (ncV a0) fun v66 =>
 bnd (faV 1 v66) fun v67 =>
 bnd (stV 1 v67 v65 h60) fun h68 =>
 S65_j5 a0 a1 v8 v14 h68 K ) (
 S65_j5 a0 a1 v8 v14 h28 K )))
def A65 : Ann := ⟨fun | 15 => ([0, 1, 2, 3, 4, 5, 6, 7, 8, 9, 10, 11, 12, 13, 14, 15, 16, 17, 18, 19, 20, 21, 22], [0, 1, 3, 0, 8, 24, 0, 64, 0, 256, 768, 1792, 0, 4096, 12288, 28672, 65535, 131071, 262143, 524287, 524287, 1048575, 4194303]) | 22 => ([0, 1, 2, 3, 4, 5, 6, 7], [0, 1, 3, 7, 0, 0, 63, 127]) | 28 => ([0, 1, 2, 3, 4, 5, 6, 7, 8, 9, 10, 11, 12], [0, 0, 2, 6, 14, 0, 0, 96, 224, 510, 1023, 2047, 4095]) | _ => ([], []), fun _ => []⟩
theorem S65_T {a0 a1 : Value} {h : GH} {K : Value → GH → Prop} (g : S65 a0 a1 h K) : T Tryz.prog 65 [a0, a1] h K :=
  T_of_gwp (A := A65) Tryz.func65 (c := bodyOf Tryz.f65) (by kernel_rfl) (by kernel_rfl) (by kernel_rfl) (by kernel_rfl) (by kernel_rfl) (Eq.mp (by kernel_rfl) g)

/-! ### (*pawl/pawlref10.Help).Through (66) -/
def S66 (a0 : Value) (h : GH) (K : Value → GH → Prop) : Prop :=
 bnd (ncV a0) fun v1 =>
 bnd (faV 4 v1) fun v2 =>
 bnd (ldV 1 false v2 h) fun v3 =>
 bnd (ncV a0) fun v4 =>
 bnd (faV 5 v4) fun v5 =>
 bnd (ldV 1 false v5 h) fun v6 =>
 K (.tuple #[v3, v6]) h
def A66 : Ann := ⟨fun | 1 => ([0, 1, 2, 3, 4, 5, 6, 7, 8, 9], [0, 1, 3, 7, 0, 16, 48, 112, 15, 511]) | _ => ([], []), fun _ => []⟩
theorem S66_T {a0 : Value} {h : GH} {K : Value → GH → Prop} (g : S66 a0 h K) : T Tryz.prog 66 [a0] h K :=
  T_of_gwp (A := A66) Tryz.func66 (c := bodyOf Tryz.f66) (by kernel_rfl) (by kernel_rfl) (by kernel_rfl) (by kernel_rfl) (by kernel_rfl) (Eq.mp (by kernel_rfl) g)

/-! ### pawl/pawllaw0.SameInts (67) -/
def S67 (a0 a1 : Value) (h : GH) (K : Value → GH → Prop) : Prop :=
 bnd (lnV a0) fun v1 =>
 bnd (lnV a1) fun v2 =>
 bnd (eqI v1 v2) fun b3 =>
 ifV (.bool (!b3)) (
 K (.bool false) h) (
 Lfp (fun (s4 : Nat → Value) h5 again6 =>
 bnd (lnV (s4 0)) fun v7 =>
 bnd (binV .lss (s4 2) v7) fun v8 =>
 ifV v8 (
 bnd (isV 1 (s4 0) (s4 2)) fun v9 =>
 bnd (ldV 1 false v9 h5) fun v10 =>
 bnd (isV 1 (s4 1) (s4 2)) fun v11 =>
 bnd (ldV 1 false v11 h5) fun v12 =>
 bnd (eqI v10 v12) fun b13 =>
 ifV (.bool (!b13)) (
 K (.bool false) h5) (
 bnd (binV .add (s4 2) (.int .i64 1)) fun v14 =>
 again6 (tup [(s4 0), (s4 1), v14]) h5)) (
 K (.bool true) h5)) (tup [a0, a1, (.int .i64 0)]) h)
def A67 : Ann := ⟨fun | 6 => ([0, 1, 2, 3, 4, 5, 6, 7, 8], [0, 0, 3, 7, 0, 0, 48, 112, 255]) | _ => ([], []), fun | 0 => [0, 1, 5] | _ => []⟩
theorem S67_T {a0 a1 : Value} {h : GH} {K : Value → GH → Prop} (g : S67 a0 a1 h K) : T Tryz.prog 67 [a0, a1] h K :=
  T_of_gwp (A := A67) Tryz.func67 (c := bodyOf Tryz.f67) (by kernel_rfl) (by kernel_rfl) (by kernel_rfl) (by kernel_rfl) (by kernel_rfl) (Eq.mp (by kernel_rfl) g)

/-! ### pawl/cells.ViewMay (68) -/
def S68 (a0 : Value) (h : GH) (K : Value → GH → Prop) : Prop :=
 Lfp (fun (s1 : Nat → Value) h2 again3 =>
 bnd (binV .lss (s1 1) (.int .i64 16)) fun v4 =>
 ifV v4 (
 bnd (ncV (s1 0)) fun v5 =>
 bnd (faV 16 v5) fun v6 =>
 bnd (iaV 16 1 v6 (s1 1)) fun v7 =>
 bnd (ldV 1 false v7 h2) fun v8 =>
 T Tryz.prog 97 [v8] h2 fun v9 h10 =>
 bnd (unV .not v9) fun v11 =>
 ifV v11 (
 K (.bool false) h10) (
 bnd (ncV (s1 0)) fun v12 =>
 bnd (faV 32 v12) fun v13 =>
 bnd (iaV 16 1 v13 (s1 1)) fun v14 =>
 bnd (ldV 1 false v14 h10) fun v15 =>
 T Tryz.prog 97 [v15] h10 fun v16 h17 =>
 bnd (unV .not v16) fun v18 =>
 ifV v18 (
 K (.bool false) h17) (
 bnd (binV .add (s1 1) (.int .i64 1)) fun v19 =>
 again3 (tup [(s1 0), v19]) h17))) (
 K (.bool true) h2)) (tup [a0, (.int .i64 0)]) h
def A68 : Ann := ⟨fun _ => ([], []), fun | 0 => [0, 4] | _ => []⟩
theorem S68_T {a0 : Value} {h : GH} {K : Value → GH → Prop} (g : S68 a0 h K) : T Tryz.prog 68 [a0] h K :=
  T_of_gwp (A := A68) Tryz.func68 (c := bodyOf Tryz.f68) (by kernel_rfl) (by kernel_rfl) (by kernel_rfl) (by kernel_rfl) (by kernel_rfl) (Eq.mp (by kernel_rfl) g)

/-! ### pawl/cells.OpsMay (69) -/
def S69 (a0 : Value) (h : GH) (K : Value → GH → Prop) : Prop :=
 bnd (lnV a0) fun v1 =>
 Lfp (fun (s2 : Nat → Value) h3 again4 =>
 bnd (binV .lss (s2 2) (s2 1)) fun v5 =>
 ifV v5 (
 bnd (isV 4 (s2 0) (s2 2)) fun v6 =>
 T Tryz.prog 98 [v6] h3 fun v7 h8 =>
 bnd (unV .not v7) fun v9 =>
 ifV v9 (
 K (.bool false) h8) (
 bnd (binV .add (s2 2) (.int .i64 1)) fun v10 =>
 again4 (tup [(s2 0), (s2 1), v10]) h8)) (
 bnd (lnV (s2 0)) fun v11 =>
 bnd (binV .geq v11 (.int .i64 1)) fun v12 =>
 ifV v12 (
 bnd (lnV (s2 0)) fun v13 =>
 bnd (binV .leq v13 (.int .i64 2)) fun v14 =>
 K v14 h3) (
 K (.bool false) h3))) (tup [a0, v1, (.int .i64 0)]) h
def A69 : Ann := ⟨fun _ => ([], []), fun | 0 => [0, 5, 6] | _ => []⟩
theorem S69_T {a0 : Value} {h : GH} {K : Value → GH → Prop} (g : S69 a0 h K) : T Tryz.prog 69 [a0] h K :=
  T_of_gwp (A := A69) Tryz.func69 (c := bodyOf Tryz.f69) (by kernel_rfl) (by kernel_rfl) (by kernel_rfl) (by kernel_rfl) (by kernel_rfl) (Eq.mp (by kernel_rfl) g)

/-! ### pawl/skip.Do (70) -/
def S70_j1 (x2 x3 x4 : Value) (h : GH) (K : Value → GH → Prop)  : Prop :=
 bnd (ldV 48 true x2 h) fun v1 =>
 bnd (fillV (List.replicate 16 (.bool false) ++ List.replicate 32 (.int .i64 0) ++ [.nilIface]) [(0, 48, v1)]) fun c2 =>
 newV 191 ((.agg c2.toArray) : Value).cells.toList h fun v3 h4 =>
 bnd (fillV [(.pointer none)] [(0, 1, v3)]) fun c5 =>
 newV 193 [(.pointer none)] h4 fun v6 h7 =>
 bnd (stV 1 v6 (.agg c5.toArray) h7) fun h8 =>
 bnd (faV 0 x3) fun v9 =>
 bnd (ldV 1 false v9 h8) fun v10 =>
 bnd (eqI v10 (.int .i64 9)) fun b11 =>
 ifV (.bool b11) (
 T Tryz.prog 99 [(.int .i64 2)] h8 fun v12 h13 =>
 newV 64 [(.int .i64 0), (.int .i64 0)] h13 fun v14 h15 =>
 bnd (stV 2 v14 v12 h15) fun h16 =>
 bnd (ldV 1 true v6 h16) fun v17 =>
 T Tryz.prog 100 [v17, (.int .i64 (-1)), (.int .i64 0)] h16 fun v18 h19 =>
 bnd (eqI v18 (.int .i64 (-1))) fun b20 =>
 ifV (.bool (!b20)) (
 T Tryz.prog 101 [v18] h19 fun v21 h22 =>
 bnd (stV 2 v14 v21 h22) fun h23 =>
 bnd (ldV 2 true v14 h23) fun v24 =>
 T Tryz.prog 102 [v3, x2, v24] h23 fun v25 h26 =>
 bnd (stV 50 x4 v25 h26) fun h27 =>
 bnd (ldV 50 true x4 h27) fun v28 =>
 K (.tuple #[v28, (.int .i64 0)]) h27) (
 bnd (ldV 2 true v14 h19) fun v29 =>
 T Tryz.prog 102 [v3, x2, v29] h19 fun v30 h31 =>
 bnd (stV 50 x4 v30 h31) fun h32 =>
 bnd (ldV 50 true x4 h32) fun v33 =>
 K (.tuple #[v33, (.int .i64 0)]) h32)) (
 nmpV h8 fun v34 h35 =>
 bnd (mupV .i64 v34 (.int .i64 6) (.func (.func 103) #[] #[]) h35) fun h36 =>
 bnd (mupV .i64 v34 (.int .i64 7) (.func (.func 104) #[] #[]) h36) fun h37 =>
 bnd (mupV .i64 v34 (.int .i64 8) (.func (.func 105) #[] #[]) h37) fun h38 =>
 bnd (mupV .i64 v34 (.int .i64 10) (.func (.func 106) #[] #[]) h38) fun h39 =>
 bnd (faV 0 x3) fun v40 =>
 bnd (ldV 1 false v40 h39) fun v41 =>
 bnd (mlkV .i64 v34 v41 h39) fun v42 =>
 bnd (ldV 1 true v6 h39) fun v43 =>
 bnd (faV 1 x3) fun v44 =>
 bnd (ldV 1 false v44 h39) fun v45 =>
 T Tryz.prog 107 [v43, v45] h39 fun v46 h47 =>
 mlkV .i64 v34 v41 h47 = some v42 ∧
 ldV 1 false v40 h47 = some v41 ∧
 callV Tryz.prog v42 [v46, x3] h47 fun v48 h49 =>
 newV 64 [(.int .i64 0), (.int .i64 0)] h49 fun v50 h51 =>
 bnd (stV 2 v50 v48 h51) fun h52 =>
 bnd (ldV 2 true v50 h52) fun v53 =>
 T Tryz.prog 102 [v3, x2, v53] h52 fun v54 h55 =>
 bnd (stV 50 x4 v54 h55) fun h56 =>
 bnd (ldV 50 true x4 h56) fun v57 =>
 K (.tuple #[v57, (.int .i64 0)]) h56)
def S70 (a0 a1 : Value) (h : GH) (K : Value → GH → Prop) : Prop :=
 newV 50 (a0 : Value).cells.toList h fun v1 h2 =>
 newV 24 (a1 : Value).cells.toList h2 fun v3 h4 =>
 newV 54 ([(.int .i64 0)] ++ List.replicate 16 (.bool false) ++ List.replicate 32 (.int .i64 0) ++ [(.slice none 0 0)]) h4 fun v5 h6 =>
 T Tryz.prog 68 [v1] h6 fun v7 h8 =>
 bnd (unV .not v7) fun v9 =>
 ifV v9 (
 bnd (fillV ([(.int .i64 0)] ++ List.replicate 16 (.bool false) ++ List.replicate 32 (.int .i64 0) ++ [(.slice none 0 0)]) []) fun c10 =>
 bnd (stV 50 v5 (.agg c10.toArray) h8) fun h11 =>
 bnd (ldV 50 true v5 h11) fun v12 =>
 K (.tuple #[v12, (.int .i64 600)]) h11) (
 T Tryz.prog 98 [v3] h8 fun v13 h14 =>
 bnd (unV .not v13) fun v15 =>
 ifV v15 (
 bnd (fillV ([(.int .i64 0)] ++ List.replicate 16 (.bool false) ++ List.replicate 32 (.int .i64 0) ++ [(.slice none 0 0)]) []) fun c16 =>
 bnd (stV 50 v5 (.agg c16.toArray) h14) fun h17 =>
 bnd (ldV 50 true v5 h17) fun v18 =>
 K (.tuple #[v18, (.int .i64 600)]) h17) (
 bnd (faV 0 v3) fun v19 =>
 bnd (ldV 1 false v19 h14) fun v20 =>
 T Tryz.prog 71 [v20] h14 fun v21 h22 =>
 ifV v21 (
 bnd (fillV ([(.int .i64 0)] ++ List.replicate 16 (.bool false) ++ List.replicate 32 (.int .i64 0) ++ [(.slice none 0 0)]) []) fun c23 =>
 bnd (stV 50 v5 (.agg c23.toArray) h22) fun h24 =>
 bnd (ldV 50 true v5 h24) fun v25 =>
 K (.tuple #[v25, (.int .i64 600)]) h24) (
 S70_j1 v1 v3 v5 h22 K )))
def A70 : Ann := ⟨fun | 12 => ([0, 1, 2, 3, 4, 5, 6, 7, 8, 9, 10], [0, 0, 2, 7, 0, 0, 32, 112, 255, 0, 1023]) | _ => ([], []), fun _ => []⟩
theorem S70_T {a0 a1 : Value} {h : GH} {K : Value → GH → Prop} (g : S70 a0 a1 h K) : T Tryz.prog 70 [a0, a1] h K :=
  T_of_gwp (A := A70) Tryz.func70 (c := bodyOf Tryz.f70) (by kernel_rfl) (by kernel_rfl) (by kernel_rfl) (by kernel_rfl) (by kernel_rfl) (Eq.mp (by kernel_rfl) g)

/-! ### pawl/cells.OfBank (71) -/
def S71 (a0 : Value) (h : GH) (K : Value → GH → Prop) : Prop :=
 bnd (binV .geq a0 (.int .i64 0)) fun v1 =>
 ifV v1 (
 bnd (binV .leq a0 (.int .i64 5)) fun v2 =>
 K v2 h) (
 K (.bool false) h)
def A71 : Ann := ⟨fun _ => ([], []), fun _ => []⟩
theorem S71_T {a0 : Value} {h : GH} {K : Value → GH → Prop} (g : S71 a0 h K) : T Tryz.prog 71 [a0] h K :=
  T_of_gwp (A := A71) Tryz.func71 (c := bodyOf Tryz.f71) (by kernel_rfl) (by kernel_rfl) (by kernel_rfl) (by kernel_rfl) (by kernel_rfl) (Eq.mp (by kernel_rfl) g)

/-! ### pawl/bank.Do (72) -/
def S72_j1 (x2 x3 x4 : Value) (h : GH) (K : Value → GH → Prop)  : Prop :=
 bnd (fillV [.nilFunc, .nilFunc, .nilFunc, .nilFunc, .nilFunc, .nilFunc] [(0, 1, (.func (.func 108) #[] #[])), (1, 1, (.func (.func 109) #[] #[])), (2, 1, (.func (.func 110) #[] #[])), (3, 1, (.func (.func 111) #[] #[])), (4, 1, (.func (.func 112) #[] #[])), (5, 1, (.func (.func 113) #[] #[]))]) fun c1 =>
 newV 202 [.nilFunc, .nilFunc, .nilFunc, .nilFunc, .nilFunc, .nilFunc] h fun v2 h3 =>
 bnd (stV 6 v2 (.agg c1.toArray) h3) fun h4 =>
 bnd (ldV 48 true x2 h4) fun v5 =>
 bnd (fillV (List.replicate 16 (.bool false) ++ List.replicate 32 (.int .i64 0) ++ [.nilIface]) [(0, 48, v5)]) fun c6 =>
 newV 191 ((.agg c6.toArray) : Value).cells.toList h4 fun v7 h8 =>
 bnd (faV 0 x3) fun v9 =>
 bnd (ldV 1 false v9 h8) fun v10 =>
 bnd (iaV 6 1 v2 v10) fun v11 =>
 bnd (ldV 1 false v11 h8) fun v12 =>
 callV Tryz.prog v12 [v7, x3] h8 fun v13 h14 =>
 newV 64 [(.int .i64 0), (.int .i64 0)] h14 fun v15 h16 =>
 bnd (stV 2 v15 v13 h16) fun h17 =>
 bnd (ldV 2 true v15 h17) fun v18 =>
 T Tryz.prog 102 [v7, x2, v18] h17 fun v19 h20 =>
 bnd (stV 50 x4 v19 h20) fun h21 =>
 bnd (ldV 50 true x4 h21) fun v22 =>
 K (.tuple #[v22, (.int .i64 0)]) h21
def S72 (a0 a1 : Value) (h : GH) (K : Value → GH → Prop) : Prop :=
 newV 50 (a0 : Value).cells.toList h fun v1 h2 =>
 newV 24 (a1 : Value).cells.toList h2 fun v3 h4 =>
 newV 54 ([(.int .i64 0)] ++ List.replicate 16 (.bool false) ++ List.replicate 32 (.int .i64 0) ++ [(.slice none 0 0)]) h4 fun v5 h6 =>
 T Tryz.prog 68 [v1] h6 fun v7 h8 =>
 bnd (unV .not v7) fun v9 =>
 ifV v9 (
 bnd (fillV ([(.int .i64 0)] ++ List.replicate 16 (.bool false) ++ List.replicate 32 (.int .i64 0) ++ [(.slice none 0 0)]) []) fun c10 =>
 bnd (stV 50 v5 (.agg c10.toArray) h8) fun h11 =>
 bnd (ldV 50 true v5 h11) fun v12 =>
 K (.tuple #[v12, (.int .i64 500)]) h11) (
 T Tryz.prog 98 [v3] h8 fun v13 h14 =>
 bnd (unV .not v13) fun v15 =>
 ifV v15 (
 bnd (fillV ([(.int .i64 0)] ++ List.replicate 16 (.bool false) ++ List.replicate 32 (.int .i64 0) ++ [(.slice none 0 0)]) []) fun c16 =>
 bnd (stV 50 v5 (.agg c16.toArray) h14) fun h17 =>
 bnd (ldV 50 true v5 h17) fun v18 =>
 K (.tuple #[v18, (.int .i64 500)]) h17) (
 bnd (faV 0 v3) fun v19 =>
 bnd (ldV 1 false v19 h14) fun v20 =>
 T Tryz.prog 71 [v20] h14 fun v21 h22 =>
 bnd (unV .not v21) fun v23 =>
 ifV v23 (
 bnd (fillV ([(.int .i64 0)] ++ List.replicate 16 (.bool false) ++ List.replicate 32 (.int .i64 0) ++ [(.slice none 0 0)]) []) fun c24 =>
 bnd (stV 50 v5 (.agg c24.toArray) h22) fun h25 =>
 bnd (ldV 50 true v5 h25) fun v26 =>
 K (.tuple #[v26, (.int .i64 500)]) h25) (
 S72_j1 v1 v3 v5 h22 K )))
def A72 : Ann := ⟨fun _ => ([], []), fun _ => []⟩
theorem S72_T {a0 a1 : Value} {h : GH} {K : Value → GH → Prop} (g : S72 a0 a1 h K) : T Tryz.prog 72 [a0, a1] h K :=
  T_of_gwp (A := A72) Tryz.func72 (c := bodyOf Tryz.f72) (by kernel_rfl) (by kernel_rfl) (by kernel_rfl) (by kernel_rfl) (by kernel_rfl) (Eq.mp (by kernel_rfl) g)

/-! ### pawl/read.New (73) -/
def S73 (a0 a1 a2 : Value) (h : GH) (K : Value → GH → Prop) : Prop :=
 T Tryz.prog 35 [a0] h fun v1 h2 =>
 bnd (unV .not v1) fun v3 =>
 ifV v3 (
 K (.tuple #[(.pointer none), (.int .i64 1500)]) h2) (
 T Tryz.prog 36 [a1, (.int .i64 1048576)] h2 fun v4 h5 =>
 bnd (unV .not v4) fun v6 =>
 ifV v6 (
 K (.tuple #[(.pointer none), (.int .i64 1500)]) h5) (
 T Tryz.prog 36 [a2, (.int .i64 16)] h5 fun v7 h8 =>
 bnd (unV .not v7) fun v9 =>
 ifV v9 (
 K (.tuple #[(.pointer none), (.int .i64 1500)]) h8) (
 bnd (fillV [(.int .i64 0), (.int .i64 0), (.int .i64 0), (.int .i64 0), (.pointer none), (.int .i64 0), (.int .i64 0), (.bool false)] [(0, 1, a0), (1, 1, a1), (2, 1, a2), (5, 1, (.int .i64 (-1)))]) fun c10 =>
 newV 204 ((.agg c10.toArray) : Value).cells.toList h8 fun v11 h12 =>
 K (.tuple #[v11, (.int .i64 0)]) h12)))
def A73 : Ann := ⟨fun _ => ([], []), fun _ => []⟩
theorem S73_T {a0 a1 a2 : Value} {h : GH} {K : Value → GH → Prop} (g : S73 a0 a1 a2 h K) : T Tryz.prog 73 [a0, a1, a2] h K :=
  T_of_gwp (A := A73) Tryz.func73 (c := bodyOf Tryz.f73) (by kernel_rfl) (by kernel_rfl) (by kernel_rfl) (by kernel_rfl) (by kernel_rfl) (Eq.mp (by kernel_rfl) g)

/-! ### pawl/desc.NewWriter (74) -/
def S74_j1 (x0 x1 x2 : Value) (h : GH) (K : Value → GH → Prop)  : Prop :=
 T Tryz.prog 115 [x0] h fun v1 h2 =>
 T Tryz.prog 116 [x1, (.int .i64 0)] h2 fun v3 h4 =>
 bnd (lnV x2) fun v5 =>
 T Tryz.prog 117 [v5] h4 fun v6 h7 =>
 bsV 3 2 [(.int .i64 0), (.int .i64 0)] [(0, 1, v3), (1, 1, v6)] h7 fun v8 h9 =>
 bnd (fillV [(.int .i64 0), (.slice none 0 0)] [(0, 1, v1), (1, 1, v8)]) fun c10 =>
 newV 206 ((.agg c10.toArray) : Value).cells.toList h9 fun v11 h12 =>
 bnd (lnV x2) fun v13 =>
 Lfp (fun (s14 : Nat → Value) h15 again16 =>
 bnd (binV .lss (s14 3) (s14 2)) fun v17 =>
 ifV v17 (
 bnd (isV 3 (s14 1) (s14 3)) fun v18 =>
 bnd (ldV 3 true v18 h15) fun v19 =>
 newV 158 [(.int .i64 0), (.int .i64 0), (.int .i64 0)] h15 fun v20 h21 =>
 bnd (stV 3 v20 v19 h21) fun h22 =>
 bnd (ncV (s14 0)) fun v23 =>
 bnd (faV 1 v23) fun v24 =>
 bnd (ldV 1 false v24 h22) fun v25 =>
 bnd (faV 0 v20) fun v26 =>
 bnd (ldV 1 false v26 h22) fun v27 =>
 bnd (faV 1 v20) fun v28 =>
 bnd (ldV 1 false v28 h22) fun v29 =>
 bnd (faV 2 v20) fun v30 =>
 bnd (ldV 1 false v30 h22) fun v31 =>
 T Tryz.prog 117 [v27] h22 fun v32 h33 =>
 ldV 1 false v30 h33 = some v31 ∧
 ldV 1 false v28 h33 = some v29 ∧
 ldV 1 false v24 h33 = some v25 ∧
 T Tryz.prog 117 [v29] h33 fun v34 h35 =>
 ldV 1 false v30 h35 = some v31 ∧
 ldV 1 false v24 h35 = some v25 ∧
 T Tryz.prog 117 [v31] h35 fun v36 h37 =>
 ldV 1 false v24 h37 = some v25 ∧
 bsV 3 3 [(.int .i64 0), (.int .i64 0), (.int .i64 0)] [(0, 1, v32), (1, 1, v34), (2, 1, v36)] h37 fun v38 h39 =>
 apV 3 1 8 v25 v38 h39 fun v40 h41 =>
 bnd (ncV (s14 0)) fun v42 =>
 bnd (faV 1 v42) fun v43 =>
 bnd (stV 1 v43 v40 h41) fun h44 =>
 bnd (binV .add (s14 3) (.int .i64 1)) fun v45 =>
 again16 (tup [(s14 0), (s14 1), (s14 2), v45]) h44) (
 K (.tuple #[(s14 0), (.int .i64 0)]) h15)) (tup [v11, x2, v13, (.int .i64 0)]) h12
def S74 (a0 a1 a2 : Value) (h : GH) (K : Value → GH → Prop) : Prop :=
 T Tryz.prog 37 [a0, a1] h fun v1 h2 =>
 bnd (unV .not v1) fun v3 =>
 ifV v3 (
 K (.tuple #[(.pointer none), (.int .i64 1300)]) h2) (
 T Tryz.prog 114 [a2] h2 fun v4 h5 =>
 bnd (unV .not v4) fun v6 =>
 ifV v6 (
 K (.tuple #[(.pointer none), (.int .i64 1300)]) h5) (
 S74_j1 a0 a1 a2 h5 K ))
def A74 : Ann := ⟨fun | 7 => ([0, 1, 2, 3, 4, 5, 6, 8, 9, 11, 12, 7, 10, 13, 14, 15, 16, 17, 18], [0, 0, 2, 6, 14, 0, 32, 96, 0, 256, 992, 0, 2048, 8160, 16352, 32766, 65535, 131071, 262143]) | _ => ([], []), fun | 0 => [8, 30, 31, 32] | _ => []⟩
theorem S74_T {a0 a1 a2 : Value} {h : GH} {K : Value → GH → Prop} (g : S74 a0 a1 a2 h K) : T Tryz.prog 74 [a0, a1, a2] h K :=
  T_of_gwp (A := A74) Tryz.func74 (c := bodyOf Tryz.f74) (by kernel_rfl) (by kernel_rfl) (by kernel_rfl) (by kernel_rfl) (by kernel_rfl) (Eq.mp (by kernel_rfl) g)

/-! ### pawl/desc.Rows (75) -/
def S75 (a0 : Value) (h : GH) (K : Value → GH → Prop) : Prop :=
 newV 50 (a0 : Value).cells.toList h fun v1 h2 =>
 bnd (faV 0 v1) fun v3 =>
 bnd (ldV 16 true v3 h2) fun v4 =>
 Lfp (fun (s5 : Nat → Value) h6 again7 =>
 bnd (binV .lss (s5 3) (.int .i64 16)) fun v8 =>
 ifV v8 (
 bnd (ixV 16 1 false (s5 2) (s5 3)) fun v9 =>
 ifV v9 (
 bnd (faV 16 (s5 0)) fun v10 =>
 bnd (iaV 16 1 v10 (s5 3)) fun v11 =>
 bnd (ldV 1 false v11 h6) fun v12 =>
 bnd (faV 32 (s5 0)) fun v13 =>
 bnd (iaV 16 1 v13 (s5 3)) fun v14 =>
 bnd (ldV 1 false v14 h6) fun v15 =>
 bnd (fillV [(.int .i64 0), (.int .i64 0), (.int .i64 0)] [(0, 1, (s5 3)), (1, 1, v12), (2, 1, v15)]) fun c16 =>
 bsV 158 1 [(.int .i64 0), (.int .i64 0), (.int .i64 0)] [(0, 3, (.agg c16.toArray))] h6 fun v17 h18 =>
 apV 158 3 24 (s5 1) v17 h18 fun v19 h20 =>
 bnd (binV .add (s5 3) (.int .i64 1)) fun v21 =>
 again7 (tup [(s5 0), v19, (s5 2), v21]) h20) (
 bnd (binV .add (s5 3) (.int .i64 1)) fun v22 =>
 again7 (tup [(s5 0), (s5 1), (s5 2), v22]) h6)) (
 K (s5 1) h6)) (tup [v1, (.slice none 0 0), v4, (.int .i64 0)]) h2
def A75 : Ann := ⟨fun | 6 => ([0, 1, 2, 3, 4, 5, 6, 7, 8, 9, 10, 11, 12, 13], [0, 0, 0, 0, 12, 28, 0, 0, 192, 448, 1022, 2046, 4095, 8191]) | _ => ([], []), fun | 0 => [1, 3, 7, 8] | _ => []⟩
theorem S75_T {a0 : Value} {h : GH} {K : Value → GH → Prop} (g : S75 a0 h K) : T Tryz.prog 75 [a0] h K :=
  T_of_gwp (A := A75) Tryz.func75 (c := bodyOf Tryz.f75) (by kernel_rfl) (by kernel_rfl) (by kernel_rfl) (by kernel_rfl) (by kernel_rfl) (Eq.mp (by kernel_rfl) g)

/-! ### pawl/arena.New (76) -/
def S76 (h : GH) (K : Value → GH → Prop) : Prop :=
 bnd (fillV (List.replicate 642 (.int .i64 0) ++ [(.bool false)]) []) fun c1 =>
 newV 127 ((.agg c1.toArray) : Value).cells.toList h fun v2 h3 =>
 bnd (ncV v2) fun v4 =>
 bnd (faV 0 v4) fun v5 =>
 T Tryz.prog 117 [(.int .i64 1)] h3 fun v6 h7 =>
 bnd (iaV 634 1 v5 (.int .i64 16)) fun v8 =>
 bnd (stV 1 v8 v6 h7) fun h9 =>
 Lfp (fun (s10 : Nat → Value) h11 again12 =>
 bnd (binV .lss (s10 1) (.int .i64 11)) fun v13 =>
 ifV v13 (
 bnd (binV .add (.int .i64 17) (s10 1)) fun v14 =>
 bnd (binV .add (s10 1) (.int .i64 2)) fun v15 =>
 bnd (ncV (s10 0)) fun v16 =>
 bnd (faV 0 v16) fun v17 =>
 T Tryz.prog 117 [v15] h11 fun v18 h19 =>
 bnd (iaV 634 1 v17 v14) fun v20 =>
 bnd (stV 1 v20 v18 h19) fun h21 =>
 bnd (binV .add (s10 1) (.int .i64 1)) fun v22 =>
 again12 (tup [(s10 0), v22]) h21) (
 K (s10 0) h11)) (tup [v2, (.int .i64 0)]) h9
def A76 : Ann := ⟨fun | 2 => ([0, 2, 3, 1, 4, 5], [0, 0, 1, 5, 15, 31]) | 6 => ([0, 1, 2, 3, 4, 6, 7, 5, 8, 9], [0, 0, 2, 0, 8, 24, 1, 65, 255, 511]) | _ => ([], []), fun | 0 => [1, 10] | _ => []⟩
theorem S76_T {h : GH} {K : Value → GH → Prop} (g : S76 h K) : T Tryz.prog 76 [] h K :=
  T_of_gwp (A := A76) Tryz.func76 (c := bodyOf Tryz.f76) (by kernel_rfl) (by kernel_rfl) (by kernel_rfl) (by kernel_rfl) (by kernel_rfl) (Eq.mp (by kernel_rfl) g)

/-! ### pawl/pawlref1.NewArena (77) -/
def S77 (h : GH) (K : Value → GH → Prop) : Prop :=
 bnd (fillV (List.replicate 642 (.int .i64 0) ++ [(.bool false)]) []) fun c1 =>
 newV 140 ((.agg c1.toArray) : Value).cells.toList h fun v2 h3 =>
 bnd (ncV v2) fun v4 =>
 bnd (faV 0 v4) fun v5 =>
 T Tryz.prog 81 [(.int .i64 1)] h3 fun v6 h7 =>
 bnd (iaV 634 1 v5 (.int .i64 16)) fun v8 =>
 bnd (stV 1 v8 v6 h7) fun h9 =>
 Lfp (fun (s10 : Nat → Value) h11 again12 =>
 bnd (binV .add (s10 1) (.int .i64 1)) fun v13 =>
 bnd (binV .lss v13 (.int .i64 12)) fun v14 =>
 ifV v14 (
 bnd (binV .add (.int .i64 17) (s10 1)) fun v15 =>
 bnd (binV .add (s10 1) (.int .i64 2)) fun v16 =>
 bnd (ncV (s10 0)) fun v17 =>
 bnd (faV 0 v17) fun v18 =>
 T Tryz.prog 81 [v16] h11 fun v19 h20 =>
 bnd (iaV 634 1 v18 v15) fun v21 =>
 bnd (stV 1 v21 v19 h20) fun h22 =>
 bnd (binV .add (s10 1) (.int .i64 1)) fun v23 =>
 again12 (tup [(s10 0), v23]) h22) (
 K (s10 0) h11)) (tup [v2, (.int .i64 0)]) h9
def A77 : Ann := ⟨fun | 2 => ([0, 2, 3, 1, 4, 5], [0, 0, 1, 5, 15, 31]) | 6 => ([0, 1, 2, 3, 4, 6, 7, 5, 8, 9], [0, 0, 2, 0, 8, 24, 1, 65, 255, 511]) | _ => ([], []), fun | 0 => [1, 2] | _ => []⟩
theorem S77_T {h : GH} {K : Value → GH → Prop} (g : S77 h K) : T Tryz.prog 77 [] h K :=
  T_of_gwp (A := A77) Tryz.func77 (c := bodyOf Tryz.f77) (by kernel_rfl) (by kernel_rfl) (by kernel_rfl) (by kernel_rfl) (by kernel_rfl) (Eq.mp (by kernel_rfl) g)

/-! ### (*pawl/pawlref1.Arena).touch (78) -/
def S78_j1 (x0 x1 x2 x3 : Value) (h : GH) (K : Value → GH → Prop)  : Prop :=
 bnd (ncV x0) fun v1 =>
 bnd (faV 0 v1) fun v2 =>
 bnd (iaV 634 1 v2 x2) fun v3 =>
 bnd (ldV 1 false v3 h) fun v4 =>
 bnd (fillV [(.int .i64 0), (.int .i64 0), (.int .i64 0), (.int .i64 0), (.int .i64 0), (.int .i64 0), (.int .i64 0), (.int .i64 0)] [(1, 1, x1), (2, 1, x2), (3, 1, v4), (4, 1, x3)]) fun c5 =>
 bnd (ncV x0) fun v6 =>
 bnd (faV 634 v6) fun v7 =>
 bnd (stV 8 v7 (.agg c5.toArray) h) fun h8 =>
 bnd (ncV x0) fun v9 =>
 bnd (faV 642 v9) fun v10 =>
 bnd (stV 1 v10 (.bool true) h8) fun h11 =>
 bnd (ncV x0) fun v12 =>
 bnd (faV 0 v12) fun v13 =>
 bnd (iaV 634 1 v13 x2) fun v14 =>
 bnd (stV 1 v14 x3 h11) fun h15 =>
 K (.tuple #[v4, (.int .i64 0)]) h15
def S78 (a0 a1 a2 a3 : Value) (h : GH) (K : Value → GH → Prop) : Prop :=
 bnd (binV .lss a2 (.int .i64 0)) fun v1 =>
 ifV v1 (
 K (.tuple #[(.int .i64 0), (.int .i64 200)]) h) (
 bnd (binV .geq a2 (.int .i64 634)) fun v2 =>
 ifV v2 (
 K (.tuple #[(.int .i64 0), (.int .i64 200)]) h) (
 S78_j1 a0 a1 a2 a3 h K ))
def A78 : Ann := ⟨fun _ => ([], []), fun _ => []⟩
theorem S78_T {a0 a1 a2 a3 : Value} {h : GH} {K : Value → GH → Prop} (g : S78 a0 a1 a2 a3 h K) : T Tryz.prog 78 [a0, a1, a2, a3] h K :=
  T_of_gwp (A := A78) Tryz.func78 (c := bodyOf Tryz.f78) (by kernel_rfl) (by kernel_rfl) (by kernel_rfl) (by kernel_rfl) (by kernel_rfl) (Eq.mp (by kernel_rfl) g)

/-! ### pawl/pawlref10.swapsMay (79) -/
def S79 (a0 : Value) (h : GH) (K : Value → GH → Prop) : Prop :=
 bnd (lnV a0) fun v1 =>
 bnd (binV .gtr v1 (.int .i64 16)) fun v2 =>
 ifV v2 (
 K (.bool false) h) (
 Lfp (fun (s3 : Nat → Value) h4 again5 =>
 bnd (lnV (s3 0)) fun v6 =>
 bnd (binV .lss (s3 1) v6) fun v7 =>
 ifV v7 (
 bnd (isV 3 (s3 0) (s3 1)) fun v8 =>
 bnd (ldV 3 true v8 h4) fun v9 =>
 newV 158 [(.int .i64 0), (.int .i64 0), (.int .i64 0)] h4 fun v10 h11 =>
 bnd (stV 3 v10 v9 h11) fun h12 =>
 bnd (faV 0 v10) fun v13 =>
 bnd (ldV 1 false v13 h12) fun v14 =>
 bnd (binV .lss v14 (.int .i64 0)) fun v15 =>
 ifV v15 (
 K (.bool false) h12) (
 bnd (faV 0 v10) fun v16 =>
 bnd (ldV 1 false v16 h12) fun v17 =>
 bnd (binV .geq v17 (.int .i64 16)) fun v18 =>
 ifV v18 (
 K (.bool false) h12) (
 bnd (binV .gtr (s3 1) (.int .i64 0)) fun v19 =>
 ifV v19 (
 bnd (faV 0 v10) fun v20 =>
 bnd (ldV 1 false v20 h12) fun v21 =>
 bnd (binV .sub (s3 1) (.int .i64 1)) fun v22 =>
 bnd (isV 3 (s3 0) v22) fun v23 =>
 bnd (faV 0 v23) fun v24 =>
 bnd (ldV 1 false v24 h12) fun v25 =>
 bnd (binV .leq v21 v25) fun v26 =>
 ifV v26 (
 K (.bool false) h12) (
 bnd (faV 1 v10) fun v27 =>
 bnd (ldV 1 false v27 h12) fun v28 =>
 bnd (binV .lss v28 (.int .i64 0)) fun v29 =>
 ifV v29 (
 K (.bool false) h12) (
 bnd (faV 1 v10) fun v30 =>
 bnd (ldV 1 false v30 h12) fun v31 =>
 bnd (binV .gtr v31 (.int .i64 1099511627775)) fun v32 =>
 ifV v32 (
 K (.bool false) h12) (
 bnd (faV 2 v10) fun v33 =>
 bnd (ldV 1 false v33 h12) fun v34 =>
 bnd (binV .lss v34 (.int .i64 0)) fun v35 =>
 ifV v35 (
 K (.bool false) h12) (
 bnd (faV 2 v10) fun v36 =>
 bnd (ldV 1 false v36 h12) fun v37 =>
 bnd (binV .gtr v37 (.int .i64 1099511627775)) fun v38 =>
 ifV v38 (
 K (.bool false) h12) (
 bnd (binV .add (s3 1) (.int .i64 1)) fun v39 =>
 again5 (tup [(s3 0), v39]) h12)))))) (
 bnd (faV 1 v10) fun v40 =>
 bnd (ldV 1 false v40 h12) fun v41 =>
 bnd (binV .lss v41 (.int .i64 0)) fun v42 =>
 ifV v42 (
 K (.bool false) h12) (
 bnd (faV 1 v10) fun v43 =>
 bnd (ldV 1 false v43 h12) fun v44 =>
 bnd (binV .gtr v44 (.int .i64 1099511627775)) fun v45 =>
 ifV v45 (
 K (.bool false) h12) (
 bnd (faV 2 v10) fun v46 =>
 bnd (ldV 1 false v46 h12) fun v47 =>
 bnd (binV .lss v47 (.int .i64 0)) fun v48 =>
 ifV v48 (
 K (.bool false) h12) (
 bnd (faV 2 v10) fun v49 =>
 bnd (ldV 1 false v49 h12) fun v50 =>
 bnd (binV .gtr v50 (.int .i64 1099511627775)) fun v51 =>
 ifV v51 (
 K (.bool false) h12) (
 bnd (binV .add (s3 1) (.int .i64 1)) fun v52 =>
 again5 (tup [(s3 0), v52]) h12)))))))) (
 K (.bool true) h4)) (tup [a0, (.int .i64 0)]) h)
def A79 : Ann := ⟨fun | 7 => ([0, 1, 2, 3, 4, 5, 6, 7, 8, 9, 10, 11, 12, 13, 14, 15, 16, 17, 18, 19, 20, 21, 22, 23, 24, 25, 26, 27, 28, 29, 30, 31, 32, 33, 34, 35, 36, 37, 38, 39, 40, 41, 42], [0, 1, 3, 7, 15, 31, 63, 127, 255, 511, 1023, 2047, 4095, 8191, 4095, 4095, 36863, 118783, 249855, 511999, 1048575, 2097151, 4194303, 8388607, 16777215, 33554431, 67108863, 134217727, 268435455, 536870911, 1073741823, 2147483647, 4294967295, 8589934591, 17179869183, 34359738367, 68719476735, 137438953471, 274877906943, 549755813887, 1099511627775, 2199023255551, 4398046511103]) | _ => ([], []), fun | 0 => [0, 3] | _ => []⟩
theorem S79_T {a0 : Value} {h : GH} {K : Value → GH → Prop} (g : S79 a0 h K) : T Tryz.prog 79 [a0] h K :=
  T_of_gwp (A := A79) Tryz.func79 (c := bodyOf Tryz.f79) (by kernel_rfl) (by kernel_rfl) (by kernel_rfl) (by kernel_rfl) (by kernel_rfl) (Eq.mp (by kernel_rfl) g)

/-! ### pawl/pawlref10.StateWord (80) -/
def S80 (a0 a1 : Value) (h : GH) (K : Value → GH → Prop) : Prop :=
 bnd (binV .mul (.int .i64 4) a0) fun v1 =>
 bnd (binV .add v1 a1) fun v2 =>
 T Tryz.prog 81 [v2] h fun v3 h4 =>
 K v3 h4
def A80 : Ann := ⟨fun _ => ([], []), fun _ => []⟩
theorem S80_T {a0 a1 : Value} {h : GH} {K : Value → GH → Prop} (g : S80 a0 a1 h K) : T Tryz.prog 80 [a0, a1] h K :=
  T_of_gwp (A := A80) Tryz.func80 (c := bodyOf Tryz.f80) (by kernel_rfl) (by kernel_rfl) (by kernel_rfl) (by kernel_rfl) (by kernel_rfl) (Eq.mp (by kernel_rfl) g)

/-! ### pawl/pawlref1.Value (81) -/
def S81 (a0 : Value) (h : GH) (K : Value → GH → Prop) : Prop :=
 bnd (binV .mul (.int .i64 4) a0) fun v1 =>
 K v1 h
def A81 : Ann := ⟨fun _ => ([], []), fun _ => []⟩
theorem S81_T {a0 : Value} {h : GH} {K : Value → GH → Prop} (g : S81 a0 h K) : T Tryz.prog 81 [a0] h K :=
  T_of_gwp (A := A81) Tryz.func81 (c := bodyOf Tryz.f81) (by kernel_rfl) (by kernel_rfl) (by kernel_rfl) (by kernel_rfl) (by kernel_rfl) (Eq.mp (by kernel_rfl) g)

/-! ### pawl/pawlref10.Base (82) -/
def S82 (a0 : Value) (h : GH) (K : Value → GH → Prop) : Prop :=
 bnd (binV .mul (.int .i64 50) a0) fun v1 =>
 bnd (binV .add (.int .i64 34) v1) fun v2 =>
 K v2 h
def A82 : Ann := ⟨fun _ => ([], []), fun _ => []⟩
theorem S82_T {a0 : Value} {h : GH} {K : Value → GH → Prop} (g : S82 a0 h K) : T Tryz.prog 82 [a0] h K :=
  T_of_gwp (A := A82) Tryz.func82 (c := bodyOf Tryz.f82) (by kernel_rfl) (by kernel_rfl) (by kernel_rfl) (by kernel_rfl) (by kernel_rfl) (Eq.mp (by kernel_rfl) g)

/-! ### (*pawl/read.Read).Value (83) -/
def S83 (a0 : Value) (h : GH) (K : Value → GH → Prop) : Prop :=
 bnd (eqK .ptr true a0 (.pointer none)) fun b1 =>
 ifV (.bool b1) (
 K (.int .i64 0) h) (
 bnd (ncV a0) fun v2 =>
 bnd (faV 3 v2) fun v3 =>
 bnd (ldV 1 false v3 h) fun v4 =>
 K v4 h)
def A83 : Ann := ⟨fun _ => ([], []), fun _ => []⟩
theorem S83_T {a0 : Value} {h : GH} {K : Value → GH → Prop} (g : S83 a0 h K) : T Tryz.prog 83 [a0] h K :=
  T_of_gwp (A := A83) Tryz.func83 (c := bodyOf Tryz.f83) (by kernel_rfl) (by kernel_rfl) (by kernel_rfl) (by kernel_rfl) (by kernel_rfl) (Eq.mp (by kernel_rfl) g)

/-! ### (*pawl/read.Read).Cell (84) -/
def S84 (a0 : Value) (h : GH) (K : Value → GH → Prop) : Prop :=
 bnd (ncV a0) fun v1 =>
 bnd (faV 2 v1) fun v2 =>
 bnd (ldV 1 false v2 h) fun v3 =>
 K v3 h
def A84 : Ann := ⟨fun _ => ([], []), fun _ => []⟩
theorem S84_T {a0 : Value} {h : GH} {K : Value → GH → Prop} (g : S84 a0 h K) : T Tryz.prog 84 [a0] h K :=
  T_of_gwp (A := A84) Tryz.func84 (c := bodyOf Tryz.f84) (by kernel_rfl) (by kernel_rfl) (by kernel_rfl) (by kernel_rfl) (by kernel_rfl) (Eq.mp (by kernel_rfl) g)

/-! ### pawl/mcas.framed (85) -/
def S85 (a0 a1 : Value) (h : GH) (K : Value → GH → Prop) : Prop :=
 bnd (taV 208 (.agg #[(.int .i64 0), (.int .i64 0), (.int .i64 0), (.int .i64 0), (.int .i64 0)]) true a0) fun v1 =>
 bnd (exV v1 1) fun v2 =>
 bnd (exV v1 0) fun v3 =>
 ifV v2 (
 newV 208 [(.int .i64 0), (.int .i64 0), (.int .i64 0), (.int .i64 0), (.int .i64 0)] h fun v4 h5 =>
 bnd (stV 5 v4 v3 h5) fun h6 =>
 bnd (faV 0 v4) fun v7 =>
 bnd (ldV 2 true v7 h6) fun v8 =>
 bnd (fillV [(.int .i64 0), (.int .i64 0), (.int .i64 0), (.int .i64 0), (.bool false), (.bool false)] [(0, 2, v8)]) fun c9 =>
 bnd (ldV 5 true v4 h6) fun v10 =>
 bnd (fillV [(.int .i64 0), (.int .i64 0), (.int .i64 0), (.int .i64 0), (.bool false), (.bool false), (.int .i64 0), (.int .i64 0), (.int .i64 0), (.int .i64 0), (.int .i64 0), (.int .i64 0)] [(0, 6, (.agg c9.toArray)), (6, 5, v10)]) fun c11 =>
 newV 213 ((.agg c11.toArray) : Value).cells.toList h6 fun v12 h13 =>
 K (.iface 209 v12) h13) (
 bnd (taV 97 (.agg #[(.int .i64 0), (.int .i64 0)]) true a0) fun v14 =>
 bnd (exV v14 1) fun v15 =>
 bnd (exV v14 0) fun v16 =>
 ifV v15 (
 newV 97 [(.int .i64 0), (.int .i64 0)] h fun v17 h18 =>
 bnd (stV 2 v17 v16 h18) fun h19 =>
 bnd (ldV 2 true v17 h19) fun v20 =>
 bnd (fillV [(.int .i64 0), (.int .i64 0), (.int .i64 0), (.int .i64 0), (.bool false), (.bool false)] [(0, 2, v20)]) fun c21 =>
 bnd (fillV [(.int .i64 0), (.int .i64 0), (.int .i64 0), (.int .i64 0), (.bool false), (.bool false), (.pointer none), (.int .i64 0), (.int .i64 0), (.int .i64 0), (.int .i64 0), .nilIface, (.int .i64 0)] [(0, 6, (.agg c21.toArray)), (6, 1, a1), (7, 1, (.int .i64 1))]) fun c22 =>
 newV 216 ((.agg c22.toArray) : Value).cells.toList h19 fun v23 h24 =>
 K (.iface 214 v23) h24) (
 K .nilIface h))
def A85 : Ann := ⟨fun _ => ([], []), fun _ => []⟩
theorem S85_T {a0 a1 : Value} {h : GH} {K : Value → GH → Prop} (g : S85 a0 a1 h K) : T Tryz.prog 85 [a0, a1] h K :=
  T_of_gwp (A := A85) Tryz.func85 (c := bodyOf Tryz.f85) (by kernel_rfl) (by kernel_rfl) (by kernel_rfl) (by kernel_rfl) (by kernel_rfl) (Eq.mp (by kernel_rfl) g)

/-! ### pawl/word.Read (86) -/
def S86_j1 (x5 : Value) (h : GH) (K : Value → GH → Prop)  : Prop :=
 bnd (eqK .iface true x5 .nilIface) fun b1 =>
 ifV (.bool b1) (
 K .nilIface h) (
 T Tryz.prog 119 [x5] h fun v2 h3 =>
 bnd (unV .not v2) fun v4 =>
 ifV v4 (
 K .nilIface h3) (
 K x5 h3))
def S86 (a0 : Value) (h : GH) (K : Value → GH → Prop) : Prop :=
 bnd (binV .lss a0 (.int .i64 0)) fun v1 =>
 ifV v1 (
 K .nilIface h) (
 bnd (binV .quo a0 (.int .i64 4)) fun v2 =>
 bnd (binV .rem a0 (.int .i64 4)) fun v3 =>
 bnd (eqI v3 (.int .i64 0)) fun b4 =>
 ifV (.bool b4) (
 S86_j1 (.iface 218 v2) h K ) (
 bnd (eqI v3 (.int .i64 2)) fun b5 =>
 ifV (.bool b5) (
 callV Tryz.prog (.func (.func 118) #[] #[]) [v2] h fun v6 h7 =>
 S86_j1 (.iface 97 v6) h7 K ) (
 bnd (eqI v3 (.int .i64 1)) fun b8 =>
 ifV (.bool b8) (
 bnd (binV .rem v2 (.int .i64 1048576)) fun v9 =>
 bnd (fillV [(.int .i64 0), (.int .i64 0), (.int .i64 0), (.int .i64 0), (.int .i64 0)] [(4, 1, v9)]) fun c10 =>
 newV 208 [(.int .i64 0), (.int .i64 0), (.int .i64 0), (.int .i64 0), (.int .i64 0)] h fun v11 h12 =>
 bnd (stV 5 v11 (.agg c10.toArray) h12) fun h13 =>
 bnd (binV .quo v2 (.int .i64 1048576)) fun v14 =>
 bnd (binV .rem v14 (.int .i64 4)) fun v15 =>
 bnd (binV .quo v14 (.int .i64 4)) fun v16 =>
 bnd (faV 3 v11) fun v17 =>
 bnd (stV 1 v17 v15 h13) fun h18 =>
 bnd (binV .rem v16 (.int .i64 16)) fun v19 =>
 bnd (binV .quo v16 (.int .i64 16)) fun v20 =>
 bnd (faV 2 v11) fun v21 =>
 bnd (stV 1 v21 v19 h18) fun h22 =>
 callV Tryz.prog (.func (.func 118) #[] #[]) [v20] h22 fun v23 h24 =>
 bnd (faV 0 v11) fun v25 =>
 bnd (stV 2 v25 v23 h24) fun h26 =>
 bnd (ldV 5 true v11 h26) fun v27 =>
 S86_j1 (.iface 208 v27) h26 K ) (
 S86_j1 .nilIface h K ))))
def A86 : Ann := ⟨fun _ => ([], []), fun _ => []⟩
theorem S86_T {a0 : Value} {h : GH} {K : Value → GH → Prop} (g : S86 a0 h K) : T Tryz.prog 86 [a0] h K :=
  T_of_gwp (A := A86) Tryz.func86 (c := bodyOf Tryz.f86) (by kernel_rfl) (by kernel_rfl) (by kernel_rfl) (by kernel_rfl) (by kernel_rfl) (Eq.mp (by kernel_rfl) g)

/-! ### pawl/pawlref1.ofBank (87) -/
def S87 (a0 : Value) (h : GH) (K : Value → GH → Prop) : Prop :=
 newV 24 (a0 : Value).cells.toList h fun v1 h2 =>
 bnd (faV 0 v1) fun v3 =>
 bnd (ldV 1 false v3 h2) fun v4 =>
 bnd (binV .leq v4 (.int .i64 5)) fun v5 =>
 K v5 h2
def A87 : Ann := ⟨fun _ => ([], []), fun _ => []⟩
theorem S87_T {a0 : Value} {h : GH} {K : Value → GH → Prop} (g : S87 a0 h K) : T Tryz.prog 87 [a0] h K :=
  T_of_gwp (A := A87) Tryz.func87 (c := bodyOf Tryz.f87) (by kernel_rfl) (by kernel_rfl) (by kernel_rfl) (by kernel_rfl) (by kernel_rfl) (Eq.mp (by kernel_rfl) g)

/-! ### (*pawl/pawlref1.walk).bank (88) -/
def S88_j2 (x0 x3 x4 x7 x8 : Value) (h : GH) (K : Value → GH → Prop)  : Prop :=
 bnd (binV .sub x7 (.int .i64 1)) fun v1 =>
 bnd (binV .sub x8 (.int .i64 1)) fun v2 =>
 bnd (faV 0 x3) fun v3 =>
 bnd (ldV 1 false v3 h) fun v4 =>
 bnd (eqI v4 (.int .i64 1)) fun b5 =>
 ifV (.bool b5) (
 bnd (faV 1 x3) fun v6 =>
 bnd (ldV 1 false v6 h) fun v7 =>
 T Tryz.prog 123 [x0, v7, (.int .i64 0)] h fun v8 h9 =>
 T Tryz.prog 121 [v1] h9 fun v10 h11 =>
 bnd (stV 2 x4 v10 h11) fun h12 =>
 bnd (ldV 2 true x4 h12) fun v13 =>
 K v13 h12) (
 bnd (eqI v4 (.int .i64 2)) fun b14 =>
 ifV (.bool b14) (
 bnd (faV 3 x3) fun v15 =>
 bnd (ldV 1 false v15 h) fun v16 =>
 bnd (binV .add v1 v16) fun v17 =>
 bnd (binV .gtr v17 (.int .i64 1048575)) fun v18 =>
 ifV v18 (
 T Tryz.prog 122 [(.int .i64 4)] h fun v19 h20 =>
 bnd (stV 2 x4 v19 h20) fun h21 =>
 bnd (ldV 2 true x4 h21) fun v22 =>
 K v22 h21) (
 bnd (faV 1 x3) fun v23 =>
 bnd (ldV 1 false v23 h) fun v24 =>
 bnd (faV 3 x3) fun v25 =>
 bnd (ldV 1 false v25 h) fun v26 =>
 bnd (binV .add v1 v26) fun v27 =>
 bnd (binV .add v27 (.int .i64 1)) fun v28 =>
 T Tryz.prog 123 [x0, v24, v28] h fun v29 h30 =>
 bnd (faV 3 x3) fun v31 =>
 bnd (ldV 1 false v31 h30) fun v32 =>
 bnd (binV .add v1 v32) fun v33 =>
 T Tryz.prog 121 [v33] h30 fun v34 h35 =>
 bnd (stV 2 x4 v34 h35) fun h36 =>
 bnd (ldV 2 true x4 h36) fun v37 =>
 K v37 h36)) (
 bnd (faV 3 x3) fun v38 =>
 bnd (ldV 1 false v38 h) fun v39 =>
 bnd (binV .lss v1 v39) fun v40 =>
 ifV v40 (
 T Tryz.prog 122 [(.int .i64 3)] h fun v41 h42 =>
 bnd (stV 2 x4 v41 h42) fun h43 =>
 bnd (ldV 2 true x4 h43) fun v44 =>
 K v44 h43) (
 bnd (faV 0 x3) fun v45 =>
 bnd (ldV 1 false v45 h) fun v46 =>
 bnd (eqI v46 (.int .i64 3)) fun b47 =>
 ifV (.bool b47) (
 bnd (faV 1 x3) fun v48 =>
 bnd (ldV 1 false v48 h) fun v49 =>
 bnd (faV 3 x3) fun v50 =>
 bnd (ldV 1 false v50 h) fun v51 =>
 bnd (binV .sub v1 v51) fun v52 =>
 bnd (binV .add v52 (.int .i64 1)) fun v53 =>
 T Tryz.prog 123 [x0, v49, v53] h fun v54 h55 =>
 bnd (faV 3 x3) fun v56 =>
 bnd (ldV 1 false v56 h55) fun v57 =>
 bnd (binV .sub v1 v57) fun v58 =>
 T Tryz.prog 121 [v58] h55 fun v59 h60 =>
 bnd (stV 2 x4 v59 h60) fun h61 =>
 bnd (ldV 2 true x4 h61) fun v62 =>
 K v62 h61) (
 bnd (faV 1 x3) fun v63 =>
 bnd (ldV 1 false v63 h) fun v64 =>
 bnd (faV 2 x3) fun v65 =>
 bnd (ldV 1 false v65 h) fun v66 =>
 bnd (eqI v64 v66) fun b67 =>
 ifV (.bool b67) (
 T Tryz.prog 121 [v1] h fun v68 h69 =>
 bnd (stV 2 x4 v68 h69) fun h70 =>
 bnd (ldV 2 true x4 h70) fun v71 =>
 K v71 h70) (
 bnd (faV 3 x3) fun v72 =>
 bnd (ldV 1 false v72 h) fun v73 =>
 bnd (binV .add v2 v73) fun v74 =>
 bnd (binV .gtr v74 (.int .i64 1048575)) fun v75 =>
 ifV v75 (
 T Tryz.prog 122 [(.int .i64 4)] h fun v76 h77 =>
 bnd (stV 2 x4 v76 h77) fun h78 =>
 bnd (ldV 2 true x4 h78) fun v79 =>
 K v79 h78) (
 bnd (faV 1 x3) fun v80 =>
 bnd (ldV 1 false v80 h) fun v81 =>
 bnd (faV 3 x3) fun v82 =>
 bnd (ldV 1 false v82 h) fun v83 =>
 bnd (binV .sub v1 v83) fun v84 =>
 bnd (binV .add v84 (.int .i64 1)) fun v85 =>
 T Tryz.prog 123 [x0, v81, v85] h fun v86 h87 =>
 bnd (faV 2 x3) fun v88 =>
 bnd (ldV 1 false v88 h87) fun v89 =>
 bnd (faV 3 x3) fun v90 =>
 bnd (ldV 1 false v90 h87) fun v91 =>
 bnd (binV .add v2 v91) fun v92 =>
 bnd (binV .add v92 (.int .i64 1)) fun v93 =>
 T Tryz.prog 123 [x0, v89, v93] h87 fun v94 h95 =>
 bnd (faV 3 x3) fun v96 =>
 bnd (ldV 1 false v96 h95) fun v97 =>
 bnd (binV .sub v1 v97) fun v98 =>
 T Tryz.prog 121 [v98] h95 fun v99 h100 =>
 bnd (stV 2 x4 v99 h100) fun h101 =>
 bnd (ldV 2 true x4 h101) fun v102 =>
 K v102 h101))))))

def S88_j1 (x0 x3 x4 x7 x8 : Value) (h : GH) (K : Value → GH → Prop)  : Prop :=
 bnd (eqI x7 (.int .i64 0)) fun b1 =>
 ifV (.bool b1) (
 T Tryz.prog 122 [(.int .i64 2)] h fun v2 h3 =>
 bnd (stV 2 x4 v2 h3) fun h4 =>
 bnd (ldV 2 true x4 h4) fun v5 =>
 K v5 h4) (
 bnd (eqI x8 (.int .i64 0)) fun b6 =>
 ifV (.bool b6) (
 T Tryz.prog 122 [(.int .i64 2)] h fun v7 h8 =>
 bnd (stV 2 x4 v7 h8) fun h9 =>
 bnd (ldV 2 true x4 h9) fun v10 =>
 K v10 h9) (
 S88_j2 x0 x3 x4 x7 x8 h K ))
def S88 (a0 a1 : Value) (h : GH) (K : Value → GH → Prop) : Prop :=
 newV 24 (a1 : Value).cells.toList h fun v1 h2 =>
 newV 64 [(.int .i64 0), (.int .i64 0)] h2 fun v3 h4 =>
 bnd (faV 0 v1) fun v5 =>
 bnd (ldV 1 false v5 h4) fun v6 =>
 bnd (eqI v6 (.int .i64 5)) fun b7 =>
 ifV (.bool b7) (
 Lfp (fun (s8 : Nat → Value) h9 again10 =>
 bnd (binV .lss (s8 3) (.int .i64 4)) fun v11 =>
 ifV v11 (
 T Tryz.prog 120 [(s8 0), (s8 3)] h9 fun v12 h13 =>
 bnd (binV .sub v12 (.int .i64 1)) fun v14 =>
 bnd (mmV true (.int .i64 0) [v14]) fun v15 =>
 bnd (binV .add (s8 2) v15) fun v16 =>
 bnd (binV .add (s8 3) (.int .i64 1)) fun v17 =>
 again10 (tup [(s8 0), (s8 1), v16, v17]) h13) (
 T Tryz.prog 121 [(s8 2)] h9 fun v18 h19 =>
 bnd (stV 2 (s8 1) v18 h19) fun h20 =>
 bnd (ldV 2 true (s8 1) h20) fun v21 =>
 K v21 h20)) (tup [a0, v3, (.int .i64 0), (.int .i64 0)]) h4) (
 bnd (faV 1 v1) fun v22 =>
 bnd (ldV 1 false v22 h4) fun v23 =>
 T Tryz.prog 120 [a0, v23] h4 fun v24 h25 =>
 bnd (faV 0 v1) fun v26 =>
 bnd (ldV 1 false v26 h25) fun v27 =>
 bnd (eqI v27 (.int .i64 0)) fun b28 =>
 ifV (.bool b28) (
 bnd (binV .gtr v24 (.int .i64 0)) fun v29 =>
 ifV v29 (
 T Tryz.prog 122 [(.int .i64 1)] h25 fun v30 h31 =>
 bnd (stV 2 v3 v30 h31) fun h32 =>
 bnd (ldV 2 true v3 h32) fun v33 =>
 K v33 h32) (
 bnd (faV 1 v1) fun v34 =>
 bnd (ldV 1 false v34 h25) fun v35 =>
 bnd (faV 3 v1) fun v36 =>
 bnd (ldV 1 false v36 h25) fun v37 =>
 bnd (binV .add (.int .i64 1) v37) fun v38 =>
 T Tryz.prog 123 [a0, v35, v38] h25 fun v39 h40 =>
 bnd (faV 3 v1) fun v41 =>
 bnd (ldV 1 false v41 h40) fun v42 =>
 T Tryz.prog 121 [v42] h40 fun v43 h44 =>
 bnd (stV 2 v3 v43 h44) fun h45 =>
 bnd (ldV 2 true v3 h45) fun v46 =>
 K v46 h45)) (
 bnd (faV 0 v1) fun v47 =>
 bnd (ldV 1 false v47 h25) fun v48 =>
 bnd (eqI v48 (.int .i64 4)) fun b49 =>
 ifV (.bool b49) (
 bnd (faV 2 v1) fun v50 =>
 bnd (ldV 1 false v50 h25) fun v51 =>
 T Tryz.prog 120 [a0, v51] h25 fun v52 h53 =>
 S88_j1 a0 v1 v3 v24 v52 h53 K ) (
 S88_j1 a0 v1 v3 v24 (.int .i64 1) h25 K )))
def A88 : Ann := ⟨fun _ => ([], []), fun | 0 => [0, 4, 5, 6] | _ => []⟩
theorem S88_T {a0 a1 : Value} {h : GH} {K : Value → GH → Prop} (g : S88 a0 a1 h K) : T Tryz.prog 88 [a0, a1] h K :=
  T_of_gwp (A := A88) Tryz.func88 (c := bodyOf Tryz.f88) (by kernel_rfl) (by kernel_rfl) (by kernel_rfl) (by kernel_rfl) (by kernel_rfl) (Eq.mp (by kernel_rfl) g)

/-! ### (*pawl/pawlref1.walk).skip (89) -/
def S89_j1 (s44 : Nat → Value) (x0 x3 x4 x8 x9 : Value) (h : GH) (K : Value → GH → Prop) (again46 : (Nat → Value) → GH → Prop) : Prop :=
 bnd (cvV .u64 x8) fun v1 =>
 bnd (binV .shl (.int .i64 1) v1) fun v2 =>
 bnd (binV .or x9 v2) fun v3 =>
 T Tryz.prog 124 [x0, x8, (.int .i64 0)] h fun v4 h5 =>
 again46 (tup [x0, x3, x4, v4, v3]) h5
def S89 (a0 a1 : Value) (h : GH) (K : Value → GH → Prop) : Prop :=
 newV 24 (a1 : Value).cells.toList h fun v1 h2 =>
 newV 64 [(.int .i64 0), (.int .i64 0)] h2 fun v3 h4 =>
 bnd (faV 0 v1) fun v5 =>
 bnd (ldV 1 false v5 h4) fun v6 =>
 bnd (eqI v6 (.int .i64 9)) fun b7 =>
 ifV (.bool b7) (
 T Tryz.prog 124 [a0, (.int .i64 (-1)), (.int .i64 0)] h4 fun v8 h9 =>
 bnd (binV .lss v8 (.int .i64 0)) fun v10 =>
 ifV v10 (
 T Tryz.prog 122 [(.int .i64 2)] h9 fun v11 h12 =>
 bnd (stV 2 v3 v11 h12) fun h13 =>
 bnd (ldV 2 true v3 h13) fun v14 =>
 K v14 h13) (
 T Tryz.prog 121 [v8] h9 fun v15 h16 =>
 bnd (stV 2 v3 v15 h16) fun h17 =>
 bnd (ldV 2 true v3 h17) fun v18 =>
 K v18 h17)) (
 bnd (faV 1 v1) fun v19 =>
 bnd (ldV 1 false v19 h4) fun v20 =>
 T Tryz.prog 125 [a0, (.int .i64 (-1)), v20, (.int .i64 1)] h4 fun v21 h22 =>
 bnd (faV 1 v1) fun v23 =>
 bnd (ldV 1 false v23 h22) fun v24 =>
 T Tryz.prog 125 [a0, v21, v24, (.int .i64 0)] h22 fun v25 h26 =>
 T Tryz.prog 124 [a0, v25, (.int .i64 0)] h26 fun v27 h28 =>
 bnd (faV 0 v1) fun v29 =>
 bnd (ldV 1 false v29 h28) fun v30 =>
 bnd (eqI v30 (.int .i64 8)) fun b31 =>
 ifV (.bool b31) (
 bnd (faV 1 v1) fun v32 =>
 bnd (ldV 1 false v32 h28) fun v33 =>
 bnd (eqI v27 v33) fun b34 =>
 ifV (.bool b34) (
 T Tryz.prog 121 [(.int .i64 1)] h28 fun v35 h36 =>
 bnd (stV 2 v3 v35 h36) fun h37 =>
 bnd (ldV 2 true v3 h37) fun v38 =>
 K v38 h37) (
 T Tryz.prog 121 [(.int .i64 0)] h28 fun v39 h40 =>
 bnd (stV 2 v3 v39 h40) fun h41 =>
 bnd (ldV 2 true v3 h41) fun v42 =>
 K v42 h41)) (
 bnd (eqI v30 (.int .i64 10)) fun b43 =>
 ifV (.bool b43) (
 Lfp (fun (s44 : Nat → Value) h45 again46 =>
 bnd (binV .geq (s44 3) (.int .i64 0)) fun v47 =>
 ifV v47 (
 bnd (faV 2 (s44 1)) fun v48 =>
 bnd (ldV 1 false v48 h45) fun v49 =>
 bnd (binV .leq (s44 3) v49) fun v50 =>
 ifV v50 (
 S89_j1 s44 (s44 0) (s44 1) (s44 2) (s44 3) (s44 4) h45 K again46) (
 T Tryz.prog 121 [(s44 4)] h45 fun v51 h52 =>
 bnd (stV 2 (s44 2) v51 h52) fun h53 =>
 bnd (ldV 2 true (s44 2) h53) fun v54 =>
 K v54 h53)) (
 T Tryz.prog 121 [(s44 4)] h45 fun v55 h56 =>
 bnd (stV 2 (s44 2) v55 h56) fun h57 =>
 bnd (ldV 2 true (s44 2) h57) fun v58 =>
 K v58 h57)) (tup [a0, v1, v3, v27, (.int .i64 0)]) h28) (
 bnd (eqI v30 (.int .i64 6)) fun b59 =>
 ifV (.bool b59) (
 bnd (faV 1 v1) fun v60 =>
 bnd (ldV 1 false v60 h28) fun v61 =>
 bnd (eqI v27 v61) fun b62 =>
 ifV (.bool b62) (
 T Tryz.prog 122 [(.int .i64 1)] h28 fun v63 h64 =>
 bnd (stV 2 v3 v63 h64) fun h65 =>
 bnd (ldV 2 true v3 h65) fun v66 =>
 K v66 h65) (
 bnd (faV 1 v1) fun v67 =>
 bnd (ldV 1 false v67 h28) fun v68 =>
 T Tryz.prog 126 [a0, v25, v68, (.int .i64 0)] h28 fun v69 h70 =>
 bnd (faV 3 v1) fun v71 =>
 bnd (ldV 1 false v71 h70) fun v72 =>
 bnd (eqI v72 (.int .i64 1)) fun b73 =>
 ifV (.bool b73) (
 bnd (faV 1 v1) fun v74 =>
 bnd (ldV 1 false v74 h70) fun v75 =>
 T Tryz.prog 126 [a0, v21, v75, (.int .i64 1)] h70 fun v76 h77 =>
 bnd (faV 1 v1) fun v78 =>
 bnd (ldV 1 false v78 h77) fun v79 =>
 T Tryz.prog 121 [v79] h77 fun v80 h81 =>
 bnd (stV 2 v3 v80 h81) fun h82 =>
 bnd (ldV 2 true v3 h82) fun v83 =>
 K v83 h82) (
 bnd (faV 1 v1) fun v84 =>
 bnd (ldV 1 false v84 h70) fun v85 =>
 T Tryz.prog 121 [v85] h70 fun v86 h87 =>
 bnd (stV 2 v3 v86 h87) fun h88 =>
 bnd (ldV 2 true v3 h88) fun v89 =>
 K v89 h88))) (
 bnd (faV 1 v1) fun v90 =>
 bnd (ldV 1 false v90 h28) fun v91 =>
 bnd (eqI v27 v91) fun b92 =>
 ifV (.bool (!b92)) (
 T Tryz.prog 122 [(.int .i64 2)] h28 fun v93 h94 =>
 bnd (stV 2 v3 v93 h94) fun h95 =>
 bnd (ldV 2 true v3 h95) fun v96 =>
 K v96 h95) (
 bnd (faV 1 v1) fun v97 =>
 bnd (ldV 1 false v97 h28) fun v98 =>
 T Tryz.prog 127 [a0, v25, v98, (.int .i64 0)] h28 fun v99 h100 =>
 bnd (faV 1 v1) fun v101 =>
 bnd (ldV 1 false v101 h100) fun v102 =>
 T Tryz.prog 124 [a0, v21, (.int .i64 1)] h100 fun v103 h104 =>
 ldV 1 false v101 h104 = some v102 ∧
 bnd (eqI v103 v102) fun b105 =>
 ifV (.bool b105) (
 bnd (faV 1 v1) fun v106 =>
 bnd (ldV 1 false v106 h104) fun v107 =>
 T Tryz.prog 127 [a0, v21, v107, (.int .i64 1)] h104 fun v108 h109 =>
 bnd (faV 1 v1) fun v110 =>
 bnd (ldV 1 false v110 h109) fun v111 =>
 T Tryz.prog 121 [v111] h109 fun v112 h113 =>
 bnd (stV 2 v3 v112 h113) fun h114 =>
 bnd (ldV 2 true v3 h114) fun v115 =>
 K v115 h114) (
 bnd (faV 1 v1) fun v116 =>
 bnd (ldV 1 false v116 h104) fun v117 =>
 T Tryz.prog 121 [v117] h104 fun v118 h119 =>
 bnd (stV 2 v3 v118 h119) fun h120 =>
 bnd (ldV 2 true v3 h120) fun v121 =>
 K v121 h120))))))
def A89 : Ann := ⟨fun | 30 => ([0, 1, 3, 4, 2, 5], [0, 0, 3, 0, 8, 31]) | _ => ([], []), fun | 1 => [0, 3, 4, 8, 9] | _ => []⟩
theorem S89_T {a0 a1 : Value} {h : GH} {K : Value → GH → Prop} (g : S89 a0 a1 h K) : T Tryz.prog 89 [a0, a1] h K :=
  T_of_gwp (A := A89) Tryz.func89 (c := bodyOf Tryz.f89) (by kernel_rfl) (by kernel_rfl) (by kernel_rfl) (by kernel_rfl) (by kernel_rfl) (Eq.mp (by kernel_rfl) g)

/-! ### (*pawl/pawlref10.Read).Step (90) -/
def S90_j1 (x0 x7 : Value) (h : GH) (K : Value → GH → Prop)  : Prop :=
 bnd (eqI x7 (.int .i64 0)) fun b1 =>
 ifV (.bool (!b1)) (
 bnd (ncV x0) fun v2 =>
 bnd (faV 5 v2) fun v3 =>
 bnd (stV 1 v3 (.bool true) h) fun h4 =>
 K (.tuple #[(.bool true), (.int .i64 1500)]) h4) (
 K (.tuple #[(.bool false), (.int .i64 0)]) h)
def S90 (a0 a1 : Value) (h : GH) (K : Value → GH → Prop) : Prop :=
 bnd (ncV a0) fun v1 =>
 bnd (faV 5 v1) fun v2 =>
 bnd (ldV 1 false v2 h) fun v3 =>
 ifV v3 (
 K (.tuple #[(.bool true), (.int .i64 0)]) h) (
 bnd (ncV a0) fun v4 =>
 bnd (faV 3 v4) fun v5 =>
 bnd (ldV 1 false v5 h) fun v6 =>
 bnd (eqK .ptr true v6 (.pointer none)) fun b7 =>
 ifV (.bool (!b7)) (
 bnd (ncV a0) fun v8 =>
 bnd (faV 3 v8) fun v9 =>
 bnd (ldV 1 false v9 h) fun v10 =>
 T Tryz.prog 65 [v10, a1] h fun v11 h12 =>
 bnd (exV v11 0) fun v13 =>
 bnd (exV v11 1) fun v14 =>
 bnd (ncV a0) fun v15 =>
 bnd (faV 3 v15) fun v16 =>
 bnd (ldV 1 false v16 h12) fun v17 =>
 T Tryz.prog 66 [v17] h12 fun v18 h19 =>
 bnd (exV v18 0) fun v20 =>
 bnd (exV v18 1) fun v21 =>
 bnd (ncV a0) fun v22 =>
 bnd (faV 6 v22) fun v23 =>
 bnd (stV 1 v23 v20 h19) fun h24 =>
 bnd (ncV a0) fun v25 =>
 bnd (faV 7 v25) fun v26 =>
 bnd (stV 1 v26 v21 h24) fun h27 =>
 bnd (ncV a0) fun v28 =>
 bnd (faV 3 v28) fun v29 =>
 bnd (ldV 1 false v29 h27) fun v30 =>
 bnd (ncV v30) fun v31 =>
 bnd (faV 1 v31) fun v32 =>
 bnd (ldV 1 false v32 h27) fun v33 =>
 bnd (ncV a0) fun v34 =>
 bnd (faV 1 v34) fun v35 =>
 bnd (stV 1 v35 v33 h27) fun h36 =>
 ifV v13 (
 bnd (ncV a0) fun v37 =>
 bnd (faV 3 v37) fun v38 =>
 bnd (stV 1 v38 (.pointer none) h36) fun h39 =>
 S90_j1 a0 v14 h39 K ) (
 S90_j1 a0 v14 h36 K )) (
 bnd (ncV a0) fun v40 =>
 bnd (faV 6 v40) fun v41 =>
 bnd (stV 1 v41 (.int .i64 (-1)) h) fun h42 =>
 bnd (ncV a0) fun v43 =>
 bnd (faV 7 v43) fun v44 =>
 bnd (stV 1 v44 (.int .i64 0) h42) fun h45 =>
 bnd (ncV a0) fun v46 =>
 bnd (faV 2 v46) fun v47 =>
 bnd (ldV 1 false v47 h45) fun v48 =>
 T Tryz.prog 128 [a1, v48] h45 fun v49 h50 =>
 bnd (exV v49 0) fun v51 =>
 bnd (exV v49 1) fun v52 =>
 T Tryz.prog 94 [v51] h50 fun v53 h54 =>
 bnd (exV v53 0) fun v55 =>
 bnd (exV v53 1) fun v56 =>
 newV 132 [(.int .i64 0), (.int .i64 0), (.int .i64 0), (.int .i64 0), (.int .i64 0), (.int .i64 0), (.int .i64 0)] h54 fun v57 h58 =>
 bnd (stV 7 v57 v55 h58) fun h59 =>
 bnd (eqI v56 (.int .i64 0)) fun b60 =>
 ifV (.bool (!b60)) (
 bnd (ncV a0) fun v61 =>
 bnd (faV 5 v61) fun v62 =>
 bnd (stV 1 v62 (.bool true) h59) fun h63 =>
 K (.tuple #[(.bool true), (.int .i64 1500)]) h63) (
 bnd (faV 0 v57) fun v64 =>
 bnd (ldV 1 false v64 h59) fun v65 =>
 bnd (eqI v65 (.int .i64 0)) fun b66 =>
 ifV (.bool b66) (
 bnd (faV 1 v57) fun v67 =>
 bnd (ldV 1 false v67 h59) fun v68 =>
 bnd (ncV a0) fun v69 =>
 bnd (faV 4 v69) fun v70 =>
 bnd (stV 1 v70 v68 h59) fun h71 =>
 bnd (ncV a0) fun v72 =>
 bnd (faV 5 v72) fun v73 =>
 bnd (stV 1 v73 (.bool true) h71) fun h74 =>
 K (.tuple #[(.bool true), (.int .i64 0)]) h74) (
 bnd (ncV a0) fun v75 =>
 bnd (faV 0 v75) fun v76 =>
 bnd (ldV 1 false v76 h59) fun v77 =>
 bnd (ncV a0) fun v78 =>
 bnd (faV 1 v78) fun v79 =>
 bnd (ldV 1 false v79 h59) fun v80 =>
 T Tryz.prog 64 [v77, v80, v51] h59 fun v81 h82 =>
 bnd (exV v81 0) fun v83 =>
 bnd (exV v81 1) fun v84 =>
 bnd (ncV a0) fun v85 =>
 bnd (faV 3 v85) fun v86 =>
 bnd (stV 1 v86 v83 h82) fun h87 =>
 K (.tuple #[(.bool false), (.int .i64 0)]) h87))))
def A90 : Ann := ⟨fun | 26 => ([0, 1, 2, 3, 4, 5, 6, 7, 8, 9, 10, 11, 12, 13, 14], [0, 1, 3, 7, 0, 16, 48, 112, 0, 511, 1023, 2047, 2047, 4095, 16383]) | _ => ([], []), fun _ => []⟩
theorem S90_T {a0 a1 : Value} {h : GH} {K : Value → GH → Prop} (g : S90 a0 a1 h K) : T Tryz.prog 90 [a0, a1] h K :=
  T_of_gwp (A := A90) Tryz.func90 (c := bodyOf Tryz.f90) (by kernel_rfl) (by kernel_rfl) (by kernel_rfl) (by kernel_rfl) (by kernel_rfl) (Eq.mp (by kernel_rfl) g)

/-! ### (*pawl/pawlref10.Read).Through (91) -/
def S91 (a0 : Value) (h : GH) (K : Value → GH → Prop) : Prop :=
 bnd (ncV a0) fun v1 =>
 bnd (faV 6 v1) fun v2 =>
 bnd (ldV 1 false v2 h) fun v3 =>
 bnd (ncV a0) fun v4 =>
 bnd (faV 7 v4) fun v5 =>
 bnd (ldV 1 false v5 h) fun v6 =>
 K (.tuple #[v3, v6]) h
def A91 : Ann := ⟨fun | 1 => ([0, 1, 2, 3, 4, 5, 6, 7, 8, 9], [0, 1, 3, 7, 0, 16, 48, 112, 15, 511]) | _ => ([], []), fun _ => []⟩
theorem S91_T {a0 : Value} {h : GH} {K : Value → GH → Prop} (g : S91 a0 h K) : T Tryz.prog 91 [a0] h K :=
  T_of_gwp (A := A91) Tryz.func91 (c := bodyOf Tryz.f91) (by kernel_rfl) (by kernel_rfl) (by kernel_rfl) (by kernel_rfl) (by kernel_rfl) (Eq.mp (by kernel_rfl) g)

/-! ### pawl/pawlref10.Rows (92) -/
def S92 (a0 : Value) (h : GH) (K : Value → GH → Prop) : Prop :=
 newV 50 (a0 : Value).cells.toList h fun v1 h2 =>
 Lfp (fun (s3 : Nat → Value) h4 again5 =>
 bnd (binV .lss (s3 2) (.int .i64 16)) fun v6 =>
 ifV v6 (
 bnd (faV 0 (s3 0)) fun v7 =>
 bnd (iaV 16 1 v7 (s3 2)) fun v8 =>
 bnd (ldV 1 false v8 h4) fun v9 =>
 ifV v9 (
 bnd (faV 16 (s3 0)) fun v10 =>
 bnd (iaV 16 1 v10 (s3 2)) fun v11 =>
 bnd (ldV 1 false v11 h4) fun v12 =>
 bnd (faV 32 (s3 0)) fun v13 =>
 bnd (iaV 16 1 v13 (s3 2)) fun v14 =>
 bnd (ldV 1 false v14 h4) fun v15 =>
 bnd (fillV [(.int .i64 0), (.int .i64 0), (.int .i64 0)] [(0, 1, (s3 2)), (1, 1, v12), (2, 1, v15)]) fun c16 =>
 bsV 158 1 [(.int .i64 0), (.int .i64 0), (.int .i64 0)] [(0, 3, (.agg c16.toArray))] h4 fun v17 h18 =>
 apV 158 3 24 (s3 1) v17 h18 fun v19 h20 =>
 bnd (binV .add (s3 2) (.int .i64 1)) fun v21 =>
 again5 (tup [(s3 0), v19, v21]) h20) (
 bnd (binV .add (s3 2) (.int .i64 1)) fun v22 =>
 again5 (tup [(s3 0), (s3 1), v22]) h4)) (
 K (s3 1) h4)) (tup [v1, (.slice none 0 0), (.int .i64 0)]) h2
def A92 : Ann := ⟨fun | 6 => ([0, 1, 2, 3, 4, 5, 6, 7, 8, 9, 10, 11, 12, 13], [0, 0, 0, 0, 12, 28, 0, 0, 192, 448, 1022, 2046, 4095, 8191]) | _ => ([], []), fun | 0 => [1, 3, 4] | _ => []⟩
theorem S92_T {a0 : Value} {h : GH} {K : Value → GH → Prop} (g : S92 a0 h K) : T Tryz.prog 92 [a0] h K :=
  T_of_gwp (A := A92) Tryz.func92 (c := bodyOf Tryz.f92) (by kernel_rfl) (by kernel_rfl) (by kernel_rfl) (by kernel_rfl) (by kernel_rfl) (Eq.mp (by kernel_rfl) g)

/-! ### pawl/pawlref1.WordMay (93) -/
def S93 (a0 : Value) (h : GH) (K : Value → GH → Prop) : Prop :=
 newV 132 (a0 : Value).cells.toList h fun v1 h2 =>
 bnd (faV 0 v1) fun v3 =>
 bnd (ldV 1 false v3 h2) fun v4 =>
 bnd (eqI v4 (.int .i64 0)) fun b5 =>
 ifV (.bool b5) (
 bnd (ldV 7 true v1 h2) fun v6 =>
 bnd (faV 1 v1) fun v7 =>
 bnd (ldV 1 false v7 h2) fun v8 =>
 bnd (fillV [(.int .i64 0), (.int .i64 0), (.int .i64 0), (.int .i64 0), (.int .i64 0), (.int .i64 0), (.int .i64 0)] [(1, 1, v8)]) fun c9 =>
 bnd (eqP Tryz.prog 10000 132 v6 (.agg c9.toArray)) fun b10 =>
 ifV (.bool b10) (
 bnd (faV 1 v1) fun v11 =>
 bnd (ldV 1 false v11 h2) fun v12 =>
 bnd (binV .geq v12 (.int .i64 0)) fun v13 =>
 ifV v13 (
 bnd (faV 1 v1) fun v14 =>
 bnd (ldV 1 false v14 h2) fun v15 =>
 bnd (binV .leq v15 (.int .i64 1099511627775)) fun v16 =>
 K v16 h2) (
 K (.bool false) h2)) (
 K (.bool false) h2)) (
 bnd (eqI v4 (.int .i64 1)) fun b17 =>
 ifV (.bool b17) (
 bnd (faV 1 v1) fun v18 =>
 bnd (ldV 1 false v18 h2) fun v19 =>
 bnd (eqI v19 (.int .i64 0)) fun b20 =>
 ifV (.bool b20) (
 bnd (ldV 7 true v1 h2) fun v21 =>
 T Tryz.prog 129 [v21] h2 fun v22 h23 =>
 ifV v22 (
 bnd (faV 4 v1) fun v24 =>
 bnd (ldV 1 false v24 h23) fun v25 =>
 bnd (binV .geq v25 (.int .i64 0)) fun v26 =>
 ifV v26 (
 bnd (faV 4 v1) fun v27 =>
 bnd (ldV 1 false v27 h23) fun v28 =>
 bnd (binV .lss v28 (.int .i64 16)) fun v29 =>
 ifV v29 (
 bnd (faV 5 v1) fun v30 =>
 bnd (ldV 1 false v30 h23) fun v31 =>
 bnd (binV .geq v31 (.int .i64 0)) fun v32 =>
 ifV v32 (
 bnd (faV 5 v1) fun v33 =>
 bnd (ldV 1 false v33 h23) fun v34 =>
 bnd (binV .lss v34 (.int .i64 4)) fun v35 =>
 ifV v35 (
 bnd (faV 6 v1) fun v36 =>
 bnd (ldV 1 false v36 h23) fun v37 =>
 bnd (binV .geq v37 (.int .i64 0)) fun v38 =>
 ifV v38 (
 bnd (faV 6 v1) fun v39 =>
 bnd (ldV 1 false v39 h23) fun v40 =>
 bnd (binV .leq v40 (.int .i64 1048575)) fun v41 =>
 K v41 h23) (
 K (.bool false) h23)) (
 K (.bool false) h23)) (
 K (.bool false) h23)) (
 K (.bool false) h23)) (
 K (.bool false) h23)) (
 K (.bool false) h23)) (
 K (.bool false) h2)) (
 bnd (eqI v4 (.int .i64 2)) fun b42 =>
 ifV (.bool b42) (
 bnd (ldV 7 true v1 h2) fun v43 =>
 bnd (faV 2 v1) fun v44 =>
 bnd (ldV 1 false v44 h2) fun v45 =>
 bnd (faV 3 v1) fun v46 =>
 bnd (ldV 1 false v46 h2) fun v47 =>
 bnd (fillV [(.int .i64 0), (.int .i64 0), (.int .i64 0), (.int .i64 0), (.int .i64 0), (.int .i64 0), (.int .i64 0)] [(0, 1, (.int .i64 2)), (2, 1, v45), (3, 1, v47)]) fun c48 =>
 bnd (eqP Tryz.prog 10000 132 v43 (.agg c48.toArray)) fun b49 =>
 ifV (.bool b49) (
 bnd (ldV 7 true v1 h2) fun v50 =>
 T Tryz.prog 129 [v50] h2 fun v51 h52 =>
 K v51 h52) (
 K (.bool false) h2)) (
 K (.bool false) h2)))
def A93 : Ann := ⟨fun _ => ([], []), fun _ => []⟩
theorem S93_T {a0 : Value} {h : GH} {K : Value → GH → Prop} (g : S93 a0 h K) : T Tryz.prog 93 [a0] h K :=
  T_of_gwp (A := A93) Tryz.func93 (c := bodyOf Tryz.f93) (by kernel_rfl) (by kernel_rfl) (by kernel_rfl) (by kernel_rfl) (by kernel_rfl) (Eq.mp (by kernel_rfl) g)

/-! ### pawl/pawlref1.GetWord (94) -/
def S94_j1 (x0 x2 x4 : Value) (h : GH) (K : Value → GH → Prop)  : Prop :=
 bnd (binV .lss x0 (.int .i64 0)) fun v1 =>
 ifV v1 (
 bnd (fillV [(.int .i64 0), (.int .i64 0), (.int .i64 0), (.int .i64 0), (.int .i64 0), (.int .i64 0), (.int .i64 0)] []) fun c2 =>
 bnd (stV 7 x2 (.agg c2.toArray) h) fun h3 =>
 bnd (ldV 7 true x2 h3) fun v4 =>
 K (.tuple #[v4, (.int .i64 100)]) h3) (
 bnd (ldV 7 true x4 h) fun v5 =>
 T Tryz.prog 93 [v5] h fun v6 h7 =>
 bnd (unV .not v6) fun v8 =>
 ifV v8 (
 bnd (fillV [(.int .i64 0), (.int .i64 0), (.int .i64 0), (.int .i64 0), (.int .i64 0), (.int .i64 0), (.int .i64 0)] []) fun c9 =>
 bnd (stV 7 x2 (.agg c9.toArray) h7) fun h10 =>
 bnd (ldV 7 true x2 h10) fun v11 =>
 K (.tuple #[v11, (.int .i64 100)]) h10) (
 bnd (ldV 7 true x4 h7) fun v12 =>
 bnd (stV 7 x2 v12 h7) fun h13 =>
 bnd (ldV 7 true x2 h13) fun v14 =>
 K (.tuple #[v14, (.int .i64 0)]) h13))
def S94 (a0 : Value) (h : GH) (K : Value → GH → Prop) : Prop :=
 newV 132 [(.int .i64 0), (.int .i64 0), (.int .i64 0), (.int .i64 0), (.int .i64 0), (.int .i64 0), (.int .i64 0)] h fun v1 h2 =>
 bnd (binV .and a0 (.int .i64 3)) fun v3 =>
 bnd (fillV [(.int .i64 0), (.int .i64 0), (.int .i64 0), (.int .i64 0), (.int .i64 0), (.int .i64 0), (.int .i64 0)] [(0, 1, v3)]) fun c4 =>
 newV 132 [(.int .i64 0), (.int .i64 0), (.int .i64 0), (.int .i64 0), (.int .i64 0), (.int .i64 0), (.int .i64 0)] h2 fun v5 h6 =>
 bnd (stV 7 v5 (.agg c4.toArray) h6) fun h7 =>
 bnd (binV .shr a0 (.int .u64 2)) fun v8 =>
 bnd (faV 0 v5) fun v9 =>
 bnd (ldV 1 false v9 h7) fun v10 =>
 bnd (eqI v10 (.int .i64 0)) fun b11 =>
 ifV (.bool b11) (
 bnd (faV 1 v5) fun v12 =>
 bnd (stV 1 v12 v8 h7) fun h13 =>
 S94_j1 a0 v1 v5 h13 K ) (
 bnd (eqI v10 (.int .i64 1)) fun b14 =>
 ifV (.bool b14) (
 bnd (binV .and v8 (.int .i64 1048575)) fun v15 =>
 bnd (faV 6 v5) fun v16 =>
 bnd (stV 1 v16 v15 h7) fun h17 =>
 bnd (binV .quo v8 (.int .i64 1048576)) fun v18 =>
 bnd (binV .rem v18 (.int .i64 4)) fun v19 =>
 bnd (faV 5 v5) fun v20 =>
 bnd (stV 1 v20 v19 h17) fun h21 =>
 bnd (binV .quo v18 (.int .i64 4)) fun v22 =>
 bnd (binV .rem v22 (.int .i64 16)) fun v23 =>
 bnd (faV 4 v5) fun v24 =>
 bnd (stV 1 v24 v23 h21) fun h25 =>
 bnd (binV .quo v22 (.int .i64 16)) fun v26 =>
 bnd (binV .rem v26 (.int .i64 16)) fun v27 =>
 bnd (faV 2 v5) fun v28 =>
 bnd (stV 1 v28 v27 h25) fun h29 =>
 bnd (binV .quo v26 (.int .i64 16)) fun v30 =>
 bnd (faV 3 v5) fun v31 =>
 bnd (stV 1 v31 v30 h29) fun h32 =>
 S94_j1 a0 v1 v5 h32 K ) (
 bnd (eqI v10 (.int .i64 2)) fun b33 =>
 ifV (.bool b33) (
 bnd (binV .rem v8 (.int .i64 16)) fun v34 =>
 bnd (faV 2 v5) fun v35 =>
 bnd (stV 1 v35 v34 h7) fun h36 =>
 bnd (binV .quo v8 (.int .i64 16)) fun v37 =>
 bnd (faV 3 v5) fun v38 =>
 bnd (stV 1 v38 v37 h36) fun h39 =>
 S94_j1 a0 v1 v5 h39 K ) (
 S94_j1 a0 v1 v5 h7 K )))
def A94 : Ann := ⟨fun _ => ([], []), fun _ => []⟩
theorem S94_T {a0 : Value} {h : GH} {K : Value → GH → Prop} (g : S94 a0 h K) : T Tryz.prog 94 [a0] h K :=
  T_of_gwp (A := A94) Tryz.func94 (c := bodyOf Tryz.f94) (by kernel_rfl) (by kernel_rfl) (by kernel_rfl) (by kernel_rfl) (by kernel_rfl) (Eq.mp (by kernel_rfl) g)

/-! ### (*pawl/pawlref10.frame).entry (95) -/
def S95_j1 (x0 x7 : Value) (h : GH) (K : Value → GH → Prop)  : Prop :=
 bnd (ncV x0) fun v1 =>
 bnd (faV 8 v1) fun v2 =>
 bnd (ldV 1 false v2 h) fun v3 =>
 bnd (binV .add v3 (.int .i64 1)) fun v4 =>
 bnd (ncV x0) fun v5 =>
 bnd (faV 8 v5) fun v6 =>
 bnd (stV 1 v6 v4 h) fun h7 =>
 K (.tuple #[x7, (.bool false)]) h7
def S95 (a0 a1 : Value) (h : GH) (K : Value → GH → Prop) : Prop :=
 bnd (ncV a0) fun v1 =>
 bnd (faV 0 v1) fun v2 =>
 bnd (faV 2 v2) fun v3 =>
 bnd (ldV 1 false v3 h) fun v4 =>
 T Tryz.prog 82 [v4] h fun v5 h6 =>
 bnd (ncV a0) fun v7 =>
 bnd (faV 8 v7) fun v8 =>
 bnd (ldV 1 false v8 h6) fun v9 =>
 bnd (eqI v9 (.int .i64 0)) fun b10 =>
 ifV (.bool b10) (
 bnd (binV .add v5 (.int .i64 2)) fun v11 =>
 bnd (ncV a0) fun v12 =>
 bnd (faV 0 v12) fun v13 =>
 bnd (faV 4 v13) fun v14 =>
 bnd (ldV 1 false v14 h6) fun v15 =>
 bnd (binV .mul (.int .i64 3) v15) fun v16 =>
 bnd (binV .add v11 v16) fun v17 =>
 T Tryz.prog 128 [a1, v17] h6 fun v18 h19 =>
 bnd (exV v18 0) fun v20 =>
 bnd (exV v18 1) fun v21 =>
 T Tryz.prog 130 [v20, (.int .i64 15)] h19 fun v22 h23 =>
 bnd (exV v22 0) fun v24 =>
 bnd (exV v22 1) fun v25 =>
 bnd (ncV a0) fun v26 =>
 bnd (faV 11 v26) fun v27 =>
 bnd (stV 1 v27 v24 h23) fun h28 =>
 S95_j1 a0 v25 h28 K ) (
 bnd (eqI v9 (.int .i64 1)) fun b29 =>
 ifV (.bool b29) (
 bnd (binV .add v5 (.int .i64 3)) fun v30 =>
 bnd (ncV a0) fun v31 =>
 bnd (faV 0 v31) fun v32 =>
 bnd (faV 4 v32) fun v33 =>
 bnd (ldV 1 false v33 h6) fun v34 =>
 bnd (binV .mul (.int .i64 3) v34) fun v35 =>
 bnd (binV .add v30 v35) fun v36 =>
 T Tryz.prog 128 [a1, v36] h6 fun v37 h38 =>
 bnd (exV v37 0) fun v39 =>
 bnd (exV v37 1) fun v40 =>
 T Tryz.prog 130 [v39, (.int .i64 1099511627775)] h38 fun v41 h42 =>
 bnd (exV v41 0) fun v43 =>
 bnd (exV v41 1) fun v44 =>
 bnd (ncV a0) fun v45 =>
 bnd (faV 12 v45) fun v46 =>
 bnd (stV 1 v46 v39 h42) fun h47 =>
 S95_j1 a0 v44 h47 K ) (
 bnd (eqI v9 (.int .i64 2)) fun b48 =>
 ifV (.bool b48) (
 T Tryz.prog 128 [a1, v5] h6 fun v49 h50 =>
 bnd (exV v49 0) fun v51 =>
 bnd (exV v49 1) fun v52 =>
 T Tryz.prog 131 [a0, v51] h50 fun v53 h54 =>
 bnd (exV v53 0) fun v55 =>
 bnd (exV v53 1) fun v56 =>
 bnd (exV v53 2) fun v57 =>
 bnd (ncV a0) fun v58 =>
 bnd (faV 14 v58) fun v59 =>
 bnd (stV 1 v59 v55 h54) fun h60 =>
 S95_j1 a0 v57 h60 K ) (
 bnd (ncV a0) fun v61 =>
 bnd (faV 7 v61) fun v62 =>
 bnd (ldV 1 false v62 h6) fun v63 =>
 T Tryz.prog 132 [a0, a1, v63] h6 fun v64 h65 =>
 K (.tuple #[(.bool true), (.bool true)]) h65)))
def A95 : Ann := ⟨fun _ => ([], []), fun _ => []⟩
theorem S95_T {a0 a1 : Value} {h : GH} {K : Value → GH → Prop} (g : S95 a0 a1 h K) : T Tryz.prog 95 [a0, a1] h K :=
  T_of_gwp (A := A95) Tryz.func95 (c := bodyOf Tryz.f95) (by kernel_rfl) (by kernel_rfl) (by kernel_rfl) (by kernel_rfl) (by kernel_rfl) (Eq.mp (by kernel_rfl) g)
end Go.Proofs.YtnhiagemjonglaaGreat
