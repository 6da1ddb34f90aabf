/- The functions of the program that this seat reaches, each in a shallow form over ghost heaps, with the kernel's word that it is what its loaded code computes. Nothing here is a statement on the program. Written by a program of this session. -/
import Derived.Test.YtfnphfegfmhokaaG14
import Derived.Test.YtfnphfegfmhokaaProg
import Derived.KernelRfl
namespace Go.Proofs.Ytfnphfegfmhokaa
open Go GW Go.Proofs
set_option linter.unusedVariables false
set_option maxRecDepth 100000

/-! ### pawl/pawllaw16.Pauses (3) -/
def S3 (a0 a1 : Value) (h : GH) (K : Value → GH → Prop) : Prop :=
 T Try.prog 14 [a0, a1] h fun v1 h2 =>
 bnd (exV v1 0) fun v3 =>
 bnd (exV v1 1) fun v4 =>
 T Try.prog 15 [a0, a1] h2 fun v5 h6 =>
 bnd (exV v5 0) fun v7 =>
 bnd (exV v5 1) fun v8 =>
 bnd (eqI v3 v7) fun b9 =>
 ifV (.bool b9) (
 T Try.prog 16 [v4] h6 fun v10 h11 =>
 bnd (eqI v10 v8) fun b12 =>
 ifV (.bool b12) (
 T Try.prog 17 [] h11 fun v13 h14 =>
 K v13 h14) (
 K (.bool false) h11)) (
 K (.bool false) h6)
def A3 : Ann := ⟨fun _ => ([], []), fun _ => []⟩
theorem S3_T {a0 a1 : Value} {h : GH} {K : Value → GH → Prop} (g : S3 a0 a1 h K) : T Try.prog 3 [a0, a1] h K :=
  T_of_gwp (A := A3) Try.func3 (c := bodyOf Try.f3) (by kernel_rfl) (by kernel_rfl) (by kernel_rfl) (by kernel_rfl) (by kernel_rfl) (Eq.mp (by kernel_rfl) g)

/-! ### pawl/pawllaw16.PauseRises (4) -/
def S4 (a0 a1 : Value) (h : GH) (K : Value → GH → Prop) : Prop :=
 T Try.prog 17 [] h fun v1 h2 =>
 bnd (unV .not v1) fun v3 =>
 ifV v3 (
 K (.bool false) h2) (
 bnd (cvV .u64 a0) fun v4 =>
 bnd (binV .rem v4 (.int .u64 16)) fun v5 =>
 bnd (cvV .i64 v5) fun v6 =>
 bnd (binV .add (.int .i64 1) v6) fun v7 =>
 bnd (cvV .u64 a1) fun v8 =>
 bnd (binV .rem v8 (.int .u64 16)) fun v9 =>
 bnd (cvV .i64 v9) fun v10 =>
 bnd (binV .add (.int .i64 1) v10) fun v11 =>
 bnd (mmV false v7 [v11]) fun v12 =>
 T Try.prog 14 [(.bool true), v12] h2 fun v13 h14 =>
 bnd (exV v13 0) fun v15 =>
 bnd (exV v13 1) fun v16 =>
 bnd (mmV true v7 [v11]) fun v17 =>
 T Try.prog 14 [(.bool true), v17] h14 fun v18 h19 =>
 bnd (exV v18 0) fun v20 =>
 bnd (exV v18 1) fun v21 =>
 T Try.prog 14 [(.bool false), v7] h19 fun v22 h23 =>
 bnd (exV v22 0) fun v24 =>
 bnd (exV v22 1) fun v25 =>
 bnd (binV .add (.int .i64 16) v7) fun v26 =>
 T Try.prog 14 [(.bool true), v26] h23 fun v27 h28 =>
 bnd (exV v27 0) fun v29 =>
 bnd (exV v27 1) fun v30 =>
 T Try.prog 16 [v16] h28 fun v31 h32 =>
 bnd (eqI v31 (.int .i64 0)) fun b33 =>
 ifV (.bool b33) (
 T Try.prog 16 [v21] h32 fun v34 h35 =>
 bnd (eqI v34 (.int .i64 0)) fun b36 =>
 ifV (.bool b36) (
 bnd (binV .geq v15 (.int .i64 1)) fun v37 =>
 ifV v37 (
 bnd (binV .leq v15 v20) fun v38 =>
 ifV v38 (
 bnd (binV .leq v20 (.int .i64 8)) fun v39 =>
 ifV v39 (
 bnd (eqI v24 (.int .i64 0)) fun b40 =>
 ifV (.bool b40) (
 T Try.prog 16 [v25] h35 fun v41 h42 =>
 bnd (eqI v41 (.int .i64 0)) fun b43 =>
 ifV (.bool b43) (
 T Try.prog 16 [v30] h42 fun v44 h45 =>
 bnd (eqI v44 (.int .i64 1600)) fun b46 =>
 K (.bool b46) h45) (
 K (.bool false) h42)) (
 K (.bool false) h35)) (
 K (.bool false) h35)) (
 K (.bool false) h35)) (
 K (.bool false) h35)) (
 K (.bool false) h35)) (
 K (.bool false) h32))
def A4 : Ann := ⟨fun _ => ([], []), fun _ => []⟩
theorem S4_T {a0 a1 : Value} {h : GH} {K : Value → GH → Prop} (g : S4 a0 a1 h K) : T Try.prog 4 [a0, a1] h K :=
  T_of_gwp (A := A4) Try.func4 (c := bodyOf Try.f4) (by kernel_rfl) (by kernel_rfl) (by kernel_rfl) (by kernel_rfl) (by kernel_rfl) (Eq.mp (by kernel_rfl) g)

/-! ### pawl/pawllaw16.PauseDoubles (5) -/
def S5_j1 (s4 : Nat → Value) (x0 x3 x4 x5 x6 x7 : Value) (h : GH) (K : Value → GH → Prop) (again6 : (Nat → Value) → GH → Prop) : Prop :=
 T Try.prog 16 [x6] h fun v1 h2 =>
 bnd (eqI v1 (.int .i64 0)) fun b3 =>
 ifV (.bool (!b3)) (
 K (.bool false) h2) (
 bnd (eqI x5 x7) fun b4 =>
 ifV (.bool (!b4)) (
 K (.bool false) h2) (
 bnd (binV .mul (.int .i64 2) x3) fun v5 =>
 bnd (mmV false v5 [(.int .i64 8)]) fun v6 =>
 bnd (binV .add x4 (.int .i64 1)) fun v7 =>
 again6 (tup [x0, v6, v7]) h2))
def S5 (a0 : Value) (h : GH) (K : Value → GH → Prop) : Prop :=
 T Try.prog 17 [] h fun v1 h2 =>
 bnd (unV .not v1) fun v3 =>
 ifV v3 (
 K (.bool false) h2) (
 Lfp (fun (s4 : Nat → Value) h5 again6 =>
 bnd (binV .leq (s4 2) (.int .i64 16)) fun v7 =>
 ifV v7 (
 T Try.prog 14 [(s4 0), (s4 2)] h5 fun v8 h9 =>
 bnd (exV v8 0) fun v10 =>
 bnd (exV v8 1) fun v11 =>
 bnd (unV .not (s4 0)) fun v12 =>
 ifV v12 (
 S5_j1 s4 (s4 0) (s4 1) (s4 2) v10 v11 (.int .i64 0) h9 K again6) (
 S5_j1 s4 (s4 0) (s4 1) (s4 2) v10 v11 (s4 1) h9 K again6)) (
 K (.bool true) h5)) (tup [a0, (.int .i64 1), (.int .i64 1)]) h2)
def A5 : Ann := ⟨fun _ => ([], []), fun | 0 => [0, 3, 4] | _ => []⟩
theorem S5_T {a0 : Value} {h : GH} {K : Value → GH → Prop} (g : S5 a0 h K) : T Try.prog 5 [a0] h K :=
  T_of_gwp (A := A5) Try.func5 (c := bodyOf Try.f5) (by kernel_rfl) (by kernel_rfl) (by kernel_rfl) (by kernel_rfl) (by kernel_rfl) (Eq.mp (by kernel_rfl) g)

/-! ### pawl/pawllaw21.Safes (6) -/
def S6 (a0 : Value) (h : GH) (K : Value → GH → Prop) : Prop :=
 T Try.prog 18 [a0] h fun v1 h2 =>
 T Try.prog 19 [v1] h2 fun v3 h4 =>
 bnd (exV v3 0) fun v5 =>
 bnd (exV v3 1) fun v6 =>
 T Try.prog 20 [a0] h4 fun v7 h8 =>
 bnd (exV v7 0) fun v9 =>
 bnd (exV v7 1) fun v10 =>
 bnd (eqI v5 v9) fun b11 =>
 ifV (.bool b11) (
 T Try.prog 16 [v6] h8 fun v12 h13 =>
 bnd (eqI v12 v10) fun b14 =>
 ifV (.bool b14) (
 T Try.prog 21 [v1, a0] h13 fun v15 h16 =>
 ifV v15 (
 T Try.prog 22 [] h16 fun v17 h18 =>
 K v17 h18) (
 K (.bool false) h16)) (
 K (.bool false) h13)) (
 K (.bool false) h8)
def A6 : Ann := ⟨fun _ => ([], []), fun _ => []⟩
theorem S6_T {a0 : Value} {h : GH} {K : Value → GH → Prop} (g : S6 a0 h K) : T Try.prog 6 [a0] h K :=
  T_of_gwp (A := A6) Try.func6 (c := bodyOf Try.f6) (by kernel_rfl) (by kernel_rfl) (by kernel_rfl) (by kernel_rfl) (by kernel_rfl) (Eq.mp (by kernel_rfl) g)

/-! ### pawl/pawllaw21.SafeParts (7) -/
def S7_j2 (x6 x7 x8 x10 : Value) (h : GH) (K : Value → GH → Prop)  : Prop :=
 T Try.prog 16 [x7] h fun v1 h2 =>
 bnd (eqI v1 (.int .i64 0)) fun b3 =>
 ifV (.bool b3) (
 bnd (binV .add x8 x10) fun v4 =>
 bnd (eqI x6 v4) fun b5 =>
 K (.bool b5) h2) (
 K (.bool false) h2)

def S7_j1 (x6 x7 x8 x10 x48 : Value) (h : GH) (K : Value → GH → Prop)  : Prop :=
 ifV x48 (
 T Try.prog 16 [x7] h fun v1 h2 =>
 bnd (eqI v1 (.int .i64 2100)) fun b3 =>
 ifV (.bool b3) (
 bnd (eqI x6 (.int .i64 0)) fun b4 =>
 K (.bool b4) h2) (
 K (.bool false) h2)) (
 S7_j2 x6 x7 x8 x10 h K )
def S7 (a0 a1 : Value) (h : GH) (K : Value → GH → Prop) : Prop :=
 T Try.prog 22 [] h fun v1 h2 =>
 bnd (unV .not v1) fun v3 =>
 ifV v3 (
 K (.bool false) h2) (
 bnd (cvV .u64 a1) fun v4 =>
 bnd (lnV a0) fun v5 =>
 bnd (binV .add v5 (.int .i64 1)) fun v6 =>
 bnd (cvV .u64 v6) fun v7 =>
 bnd (binV .rem v4 v7) fun v8 =>
 bnd (cvV .i64 v8) fun v9 =>
 T Try.prog 19 [a0] h2 fun v10 h11 =>
 bnd (exV v10 0) fun v12 =>
 bnd (exV v10 1) fun v13 =>
 bnd (slV 8 a0 none (some v9)) fun v14 =>
 T Try.prog 19 [v14] h11 fun v15 h16 =>
 bnd (exV v15 0) fun v17 =>
 bnd (exV v15 1) fun v18 =>
 bnd (slV 8 a0 (some v9) none) fun v19 =>
 T Try.prog 19 [v19] h16 fun v20 h21 =>
 bnd (exV v20 0) fun v22 =>
 bnd (exV v20 1) fun v23 =>
 T Try.prog 16 [v18] h21 fun v24 h25 =>
 bnd (eqI v24 (.int .i64 0)) fun b26 =>
 ifV (.bool (!b26)) (
 S7_j1 v12 v13 v17 v22 (.bool true) h25 K ) (
 T Try.prog 16 [v23] h25 fun v27 h28 =>
 bnd (eqI v27 (.int .i64 0)) fun b29 =>
 S7_j1 v12 v13 v17 v22 (.bool (!b29)) h28 K ))
def A7 : Ann := ⟨fun _ => ([], []), fun _ => []⟩
theorem S7_T {a0 a1 : Value} {h : GH} {K : Value → GH → Prop} (g : S7 a0 a1 h K) : T Try.prog 7 [a0, a1] h K :=
  T_of_gwp (A := A7) Try.func7 (c := bodyOf Try.f7) (by kernel_rfl) (by kernel_rfl) (by kernel_rfl) (by kernel_rfl) (by kernel_rfl) (Eq.mp (by kernel_rfl) g)

/-! ### pawl/pawllaw21.SafeForms (8) -/
def S8_j1 (x8 x9 x10 : Value) (h : GH) (K : Value → GH → Prop)  : Prop :=
 T Try.prog 19 [x8] h fun v1 h2 =>
 bnd (exV v1 0) fun v3 =>
 bnd (exV v1 1) fun v4 =>
 bnd (eqI x9 (.int .i64 2)) fun b5 =>
 ifV (.bool b5) (
 T Try.prog 16 [x10] h2 fun v6 h7 =>
 bnd (eqI v6 (.int .i64 0)) fun b8 =>
 ifV (.bool b8) (
 bnd (eqI v3 (.int .i64 0)) fun b9 =>
 ifV (.bool b9) (
 T Try.prog 16 [v4] h7 fun v10 h11 =>
 bnd (eqI v10 (.int .i64 2100)) fun b12 =>
 K (.bool b12) h11) (
 K (.bool false) h7)) (
 K (.bool false) h7)) (
 K (.bool false) h2)
def S8 (a0 a1 a2 : Value) (h : GH) (K : Value → GH → Prop) : Prop :=
 T Try.prog 22 [] h fun v1 h2 =>
 bnd (unV .not v1) fun v3 =>
 ifV v3 (
 K (.bool false) h2) (
 bnd (binV .and a1 (.int .i64 1023)) fun v4 =>
 bnd (binV .add (.int .i64 1) v4) fun v5 =>
 bnd (fillV [(.int .i64 0), (.int .i64 0), (.int .i64 0), (.int .i64 0), (.int .i64 0), (.int .i64 0), (.int .i64 0), (.int .i64 0)] [(2, 1, (.int .i64 3)), (5, 1, (.int .i64 (-1)))]) fun c6 =>
 bnd (fillV [(.int .i64 0), (.int .i64 0), (.int .i64 0), (.int .i64 0), (.int .i64 0), (.int .i64 0), (.int .i64 0), (.int .i64 0)] [(2, 1, (.int .i64 40)), (5, 1, (.int .i64 0)), (6, 1, (.int .i64 2)), (7, 1, (.int .i64 2))]) fun c7 =>
 bnd (fillV [(.int .i64 0), (.int .i64 0), (.int .i64 0), (.int .i64 0), (.int .i64 0), (.int .i64 0), (.int .i64 0), (.int .i64 0)] [(2, 1, (.int .i64 90)), (5, 1, (.int .i64 1)), (6, 1, (.int .i64 1)), (7, 1, (.int .i64 1))]) fun c8 =>
 bsV 41 3 (List.replicate 24 (.int .i64 0)) [(0, 8, (.agg c6.toArray)), (8, 8, (.agg c7.toArray)), (16, 8, (.agg c8.toArray))] h2 fun v9 h10 =>
 T Try.prog 19 [v9] h10 fun v11 h12 =>
 bnd (exV v11 0) fun v13 =>
 bnd (exV v11 1) fun v14 =>
 bnd (cvV .u64 a2) fun v15 =>
 bnd (binV .rem v15 (.int .u64 3)) fun v16 =>
 bnd (cvV .i64 v16) fun v17 =>
 bnd (cvV .u64 a0) fun v18 =>
 bnd (binV .rem v18 (.int .u64 6)) fun v19 =>
 bnd (eqI v19 (.int .u64 0)) fun b20 =>
 ifV (.bool b20) (
 bnd (binV .add (.int .i64 633) v5) fun v21 =>
 bnd (isV 8 v9 v17) fun v22 =>
 bnd (faV 2 v22) fun v23 =>
 bnd (stV 1 v23 v21 h12) fun h24 =>
 S8_j1 v9 v13 v14 h24 K ) (
 bnd (eqI v19 (.int .u64 1)) fun b25 =>
 ifV (.bool b25) (
 bnd (unV .neg v5) fun v26 =>
 bnd (isV 8 v9 v17) fun v27 =>
 bnd (faV 2 v27) fun v28 =>
 bnd (stV 1 v28 v26 h12) fun h29 =>
 S8_j1 v9 v13 v14 h29 K ) (
 bnd (eqI v19 (.int .u64 2)) fun b30 =>
 ifV (.bool b30) (
 bnd (binV .add (.int .i64 11) v5) fun v31 =>
 bnd (isV 8 v9 v17) fun v32 =>
 bnd (faV 5 v32) fun v33 =>
 bnd (stV 1 v33 v31 h12) fun h34 =>
 S8_j1 v9 v13 v14 h34 K ) (
 bnd (eqI v19 (.int .u64 3)) fun b35 =>
 ifV (.bool b35) (
 bnd (binV .sub (.int .i64 (-1)) v5) fun v36 =>
 bnd (isV 8 v9 v17) fun v37 =>
 bnd (faV 5 v37) fun v38 =>
 bnd (stV 1 v38 v36 h12) fun h39 =>
 S8_j1 v9 v13 v14 h39 K ) (
 bnd (eqI v19 (.int .u64 4)) fun b40 =>
 ifV (.bool b40) (
 bnd (binV .add (.int .i64 2) v5) fun v41 =>
 bnd (isV 8 v9 (.int .i64 1)) fun v42 =>
 bnd (faV 7 v42) fun v43 =>
 bnd (stV 1 v43 v41 h12) fun h44 =>
 S8_j1 v9 v13 v14 h44 K ) (
 bnd (binV .add (.int .i64 1) v5) fun v45 =>
 bnd (isV 8 v9 (.int .i64 2)) fun v46 =>
 bnd (faV 6 v46) fun v47 =>
 bnd (stV 1 v47 v45 h12) fun h48 =>
 S8_j1 v9 v13 v14 h48 K ))))))
def A8 : Ann := ⟨fun _ => ([], []), fun _ => []⟩
theorem S8_T {a0 a1 a2 : Value} {h : GH} {K : Value → GH → Prop} (g : S8 a0 a1 a2 h K) : T Try.prog 8 [a0, a1, a2] h K :=
  T_of_gwp (A := A8) Try.func8 (c := bodyOf Try.f8) (by kernel_rfl) (by kernel_rfl) (by kernel_rfl) (by kernel_rfl) (by kernel_rfl) (Eq.mp (by kernel_rfl) g)

/-! ### pawl/pawllaw12.Limbos (9) -/
def S9_j1 (x0 x7 x8 x12 x13 : Value) (h : GH) (K : Value → GH → Prop)  : Prop :=
 T Try.prog 30 [x8] h fun v1 h2 =>
 T Try.prog 31 [x12] h2 fun v3 h4 =>
 T Try.prog 30 [x13] h4 fun v5 h6 =>
 T Try.prog 32 [x7, x0] h6 fun v7 h8 =>
 ifV v7 (
 T Try.prog 33 [] h8 fun v9 h10 =>
 K v9 h10) (
 K (.bool false) h8)
def S9 (a0 a1 a2 : Value) (h : GH) (K : Value → GH → Prop) : Prop :=
 T Try.prog 23 [a0] h fun v1 h2 =>
 T Try.prog 24 [v1, a1, a2] h2 fun v3 h4 =>
 bnd (exV v3 0) fun v5 =>
 bnd (exV v3 1) fun v6 =>
 T Try.prog 25 [a0, a1, a2] h4 fun v7 h8 =>
 bnd (exV v7 0) fun v9 =>
 bnd (exV v7 1) fun v10 =>
 T Try.prog 26 [v1, a2] h8 fun v11 h12 =>
 bnd (exV v11 0) fun v13 =>
 bnd (exV v11 1) fun v14 =>
 bnd (exV v11 2) fun v15 =>
 T Try.prog 27 [a0, a2] h12 fun v16 h17 =>
 bnd (exV v16 0) fun v18 =>
 bnd (exV v16 1) fun v19 =>
 bnd (exV v16 2) fun v20 =>
 T Try.prog 28 [v5, v9] h17 fun v21 h22 =>
 bnd (unV .not v21) fun v23 =>
 ifV v23 (
 K (.bool false) h22) (
 T Try.prog 16 [v6] h22 fun v24 h25 =>
 bnd (eqI v24 v10) fun b26 =>
 ifV (.bool (!b26)) (
 K (.bool false) h25) (
 T Try.prog 29 [v13, v18] h25 fun v27 h28 =>
 bnd (unV .not v27) fun v29 =>
 ifV v29 (
 K (.bool false) h28) (
 T Try.prog 28 [v14, v19] h28 fun v30 h31 =>
 bnd (unV .not v30) fun v32 =>
 ifV v32 (
 K (.bool false) h31) (
 T Try.prog 16 [v15] h31 fun v33 h34 =>
 bnd (eqI v33 v20) fun b35 =>
 ifV (.bool (!b35)) (
 K (.bool false) h34) (
 S9_j1 a0 v1 v5 v13 v14 h34 K )))))
def A9 : Ann := ⟨fun _ => ([], []), fun _ => []⟩
theorem S9_T {a0 a1 a2 : Value} {h : GH} {K : Value → GH → Prop} (g : S9 a0 a1 a2 h K) : T Try.prog 9 [a0, a1, a2] h K :=
  T_of_gwp (A := A9) Try.func9 (c := bodyOf Try.f9) (by kernel_rfl) (by kernel_rfl) (by kernel_rfl) (by kernel_rfl) (by kernel_rfl) (Eq.mp (by kernel_rfl) g)

/-! ### pawl/pawllaw12.LimboWaits (10) -/
def S10_j3 (s6 : Nat → Value) (s13 : Nat → Value) (x0 x4 x6 x7 x11 x12 : Value) (h : GH) (K : Value → GH → Prop) (again8 : (Nat → Value) → GH → Prop) (again15 : (Nat → Value) → GH → Prop) : Prop :=
 Lfp (fun (s1 : Nat → Value) h2 again3 =>
 bnd (lnV (s1 4)) fun v4 =>
 bnd (binV .lss (s1 6) v4) fun v5 =>
 ifV v5 (
 bnd (isV 1 (s1 4) (s1 6)) fun v6 =>
 bnd (ldV 1 false v6 h2) fun v7 =>
 bnd (binV .lss v7 (.int .i64 0)) fun v8 =>
 ifV v8 (
 K (.bool false) h2) (
 bnd (isV 1 (s1 4) (s1 6)) fun v9 =>
 bnd (ldV 1 false v9 h2) fun v10 =>
 bnd (binV .geq v10 (.int .i64 12)) fun v11 =>
 ifV v11 (
 K (.bool false) h2) (
 bnd (isV 1 (s1 4) (s1 6)) fun v12 =>
 bnd (ldV 1 false v12 h2) fun v13 =>
 bnd (iaV 12 1 (s1 1) v13) fun v14 =>
 bnd (ldV 1 false v14 h2) fun v15 =>
 bnd (binV .lss v15 (.int .i64 0)) fun v16 =>
 ifV v16 (
 K (.bool false) h2) (
 bnd (isV 1 (s1 4) (s1 6)) fun v17 =>
 bnd (ldV 1 false v17 h2) fun v18 =>
 bnd (iaV 12 1 (s1 1) v18) fun v19 =>
 bnd (ldV 1 false v19 h2) fun v20 =>
 bnd (binV .sub (s1 2) v20) fun v21 =>
 bnd (binV .lss v21 (.int .i64 3)) fun v22 =>
 ifV v22 (
 K (.bool false) h2) (
 bnd (isV 1 (s1 4) (s1 6)) fun v23 =>
 bnd (ldV 1 false v23 h2) fun v24 =>
 bnd (iaV 12 1 (s1 1) v24) fun v25 =>
 bnd (stV 1 v25 (.int .i64 (-1)) h2) fun h26 =>
 bnd (binV .add (s1 6) (.int .i64 1)) fun v27 =>
 again3 (tup [(s1 0), (s1 1), (s1 2), (s1 3), (s1 4), (s1 5), v27]) h26))))) (
 Lfp (fun (s28 : Nat → Value) h29 again30 =>
 bnd (lnV (s28 4)) fun v31 =>
 bnd (binV .lss (s28 5) v31) fun v32 =>
 ifV v32 (
 bnd (isV 2 (s28 4) (s28 5)) fun v33 =>
 bnd (faV 1 v33) fun v34 =>
 bnd (ldV 1 false v34 h29) fun v35 =>
 bnd (binV .sub (s28 2) v35) fun v36 =>
 bnd (binV .geq v36 (.int .i64 3)) fun v37 =>
 ifV v37 (
 K (.bool false) h29) (
 bnd (binV .add (s28 5) (.int .i64 1)) fun v38 =>
 again30 (tup [(s28 0), (s28 1), (s28 2), (s28 3), (s28 4), v38]) h29)) (
 bnd (binV .add (s28 3) (.int .i64 1)) fun v39 =>
 again15 (tup [(s28 0), (s28 4), (s28 1), (s28 2), v39]) h29)) (tup [(s1 0), (s1 1), (s1 2), (s1 3), (s1 5), (.int .i64 0)]) h2)) (tup [x0, x4, x6, x7, x11, x12, (.int .i64 0)]) h

def S10_j2 (s6 : Nat → Value) (s13 : Nat → Value) (x0 x3 x4 x6 x7 : Value) (h : GH) (K : Value → GH → Prop) (again8 : (Nat → Value) → GH → Prop) (again15 : (Nat → Value) → GH → Prop) : Prop :=
 T Try.prog 26 [x3, x6] h fun v1 h2 =>
 bnd (exV v1 0) fun v3 =>
 bnd (exV v1 1) fun v4 =>
 bnd (exV v1 2) fun v5 =>
 T Try.prog 16 [v5] h2 fun v6 h7 =>
 bnd (eqI v6 (.int .i64 0)) fun b8 =>
 ifV (.bool (!b8)) (
 K (.bool false) h7) (
 bnd (lnV v3) fun v9 =>
 bnd (lnV v4) fun v10 =>
 bnd (binV .add v9 v10) fun v11 =>
 bnd (lnV x3) fun v12 =>
 bnd (eqI v11 v12) fun b13 =>
 ifV (.bool (!b13)) (
 K (.bool false) h7) (
 S10_j3 s6 s13 x0 x4 x6 x7 v3 v4 h7 K again8 again15))

def S10_j1 (s6 : Nat → Value) (s13 : Nat → Value) (x0 x3 x4 x6 x7 : Value) (h : GH) (K : Value → GH → Prop) (again8 : (Nat → Value) → GH → Prop) (again15 : (Nat → Value) → GH → Prop) : Prop :=
 bnd (isV 1 x0 x7) fun v1 =>
 bnd (ldV 1 false v1 h) fun v2 =>
 bnd (binV .and v2 (.int .i64 1023)) fun v3 =>
 bnd (binV .rem v3 (.int .i64 12)) fun v4 =>
 bnd (isV 1 x0 x7) fun v5 =>
 bnd (ldV 1 false v5 h) fun v6 =>
 bnd (binV .shr v6 (.int .u64 10)) fun v7 =>
 bnd (binV .and v7 (.int .i64 1)) fun v8 =>
 bnd (binV .add x6 v8) fun v9 =>
 bnd (iaV 12 1 x4 v4) fun v10 =>
 bnd (ldV 1 false v10 h) fun v11 =>
 bnd (binV .lss v11 (.int .i64 0)) fun v12 =>
 ifV v12 (
 T Try.prog 24 [x3, v4, v9] h fun v13 h14 =>
 bnd (exV v13 0) fun v15 =>
 bnd (exV v13 1) fun v16 =>
 T Try.prog 16 [v16] h14 fun v17 h18 =>
 bnd (eqI v17 (.int .i64 0)) fun b19 =>
 ifV (.bool (!b19)) (
 K (.bool false) h18) (
 bnd (iaV 12 1 x4 v4) fun v20 =>
 bnd (stV 1 v20 v9 h18) fun h21 =>
 S10_j2 s6 s13 x0 v15 x4 v9 x7 h21 K again8 again15)) (
 S10_j2 s6 s13 x0 x3 x4 v9 x7 h K again8 again15)
def S10 (a0 : Value) (h : GH) (K : Value → GH → Prop) : Prop :=
 T Try.prog 33 [] h fun v1 h2 =>
 bnd (unV .not v1) fun v3 =>
 ifV v3 (
 K (.bool false) h2) (
 newV 59 [(.int .i64 0), (.int .i64 0), (.int .i64 0), (.int .i64 0), (.int .i64 0), (.int .i64 0), (.int .i64 0), (.int .i64 0), (.int .i64 0), (.int .i64 0), (.int .i64 0), (.int .i64 0)] h2 fun v4 h5 =>
 Lfp (fun (s6 : Nat → Value) h7 again8 =>
 bnd (binV .lss (s6 3) (.int .i64 12)) fun v9 =>
 ifV v9 (
 bnd (iaV 12 1 (s6 2) (s6 3)) fun v10 =>
 bnd (stV 1 v10 (.int .i64 (-1)) h7) fun h11 =>
 bnd (binV .add (s6 3) (.int .i64 1)) fun v12 =>
 again8 (tup [(s6 0), (s6 1), (s6 2), v12]) h11) (
 Lfp (fun (s13 : Nat → Value) h14 again15 =>
 bnd (lnV (s13 0)) fun v16 =>
 bnd (binV .lss (s13 4) v16) fun v17 =>
 ifV v17 (
 bnd (binV .lss (s13 4) (.int .i64 60)) fun v18 =>
 ifV v18 (
 S10_j1 s6 s13 (s13 0) (s13 1) (s13 2) (s13 3) (s13 4) h14 K again8 again15) (
 K (.bool true) h14)) (
 K (.bool true) h14)) (tup [(s6 0), (s6 1), (s6 2), (.int .i64 0), (.int .i64 0)]) h7)) (tup [a0, (.slice none 0 0), v4, (.int .i64 0)]) h5)
def A10 : Ann := ⟨fun _ => ([], []), fun | 0 => [0, 3, 4, 5] | 2 => [0, 3, 4, 6, 7] | 4 => [0, 4, 6, 7, 11, 12, 14] | 6 => [0, 4, 6, 7, 12, 15] | _ => []⟩
theorem S10_T {a0 : Value} {h : GH} {K : Value → GH → Prop} (g : S10 a0 h K) : T Try.prog 10 [a0] h K :=
  T_of_gwp (A := A10) Try.func10 (c := bodyOf Try.f10) (by kernel_rfl) (by kernel_rfl) (by kernel_rfl) (by kernel_rfl) (by kernel_rfl) (Eq.mp (by kernel_rfl) g)

/-! ### pawl/pawllaw12.LimboForms (11) -/
def S11 (a0 a1 : Value) (h : GH) (K : Value → GH → Prop) : Prop :=
 T Try.prog 33 [] h fun v1 h2 =>
 bnd (unV .not v1) fun v3 =>
 ifV v3 (
 K (.bool false) h2) (
 bnd (binV .and a1 (.int .i64 1023)) fun v4 =>
 bnd (binV .add (.int .i64 1) v4) fun v5 =>
 bnd (fillV [(.int .i64 0), (.int .i64 0)] [(0, 1, (.int .i64 3)), (1, 1, (.int .i64 5))]) fun c6 =>
 bsV 61 1 [(.int .i64 0), (.int .i64 0)] [(0, 2, (.agg c6.toArray))] h2 fun v7 h8 =>
 bnd (binV .add (.int .i64 11) v5) fun v9 =>
 bnd (fillV [(.int .i64 0), (.int .i64 0)] [(0, 1, v9)]) fun c10 =>
 bnd (unV .neg v5) fun v11 =>
 bnd (fillV [(.int .i64 0), (.int .i64 0)] [(0, 1, v11)]) fun c12 =>
 bnd (unV .neg v5) fun v13 =>
 bnd (fillV [(.int .i64 0), (.int .i64 0)] [(1, 1, v13)]) fun c14 =>
 bnd (binV .add (.int .i64 1073741823) v5) fun v15 =>
 bnd (fillV [(.int .i64 0), (.int .i64 0)] [(1, 1, v15)]) fun c16 =>
 bsV 61 4 [(.int .i64 0), (.int .i64 0), (.int .i64 0), (.int .i64 0), (.int .i64 0), (.int .i64 0), (.int .i64 0), (.int .i64 0)] [(0, 2, (.agg c10.toArray)), (2, 2, (.agg c12.toArray)), (4, 2, (.agg c14.toArray)), (6, 2, (.agg c16.toArray))] h8 fun v17 h18 =>
 bnd (cvV .u64 a0) fun v19 =>
 bnd (binV .rem v19 (.int .u64 4)) fun v20 =>
 bnd (cvV .i64 v20) fun v21 =>
 bnd (isV 2 v17 v21) fun v22 =>
 bnd (ldV 2 true v22 h18) fun v23 =>
 newV 61 [(.int .i64 0), (.int .i64 0)] h18 fun v24 h25 =>
 bnd (stV 2 v24 v23 h25) fun h26 =>
 bnd (faV 0 v24) fun v27 =>
 bnd (ldV 1 false v27 h26) fun v28 =>
 bnd (faV 1 v24) fun v29 =>
 bnd (ldV 1 false v29 h26) fun v30 =>
 T Try.prog 24 [v7, v28, v30] h26 fun v31 h32 =>
 bnd (exV v31 0) fun v33 =>
 bnd (exV v31 1) fun v34 =>
 bnd (ldV 2 true v24 h32) fun v35 =>
 bsV 61 1 [(.int .i64 0), (.int .i64 0)] [(0, 2, v35)] h32 fun v36 h37 =>
 T Try.prog 24 [v36, (.int .i64 1), (.int .i64 1)] h37 fun v38 h39 =>
 bnd (exV v38 0) fun v40 =>
 bnd (exV v38 1) fun v41 =>
 bnd (isV 2 v7 (.int .i64 0)) fun v42 =>
 bnd (ldV 2 true v42 h39) fun v43 =>
 bnd (ldV 2 true v24 h39) fun v44 =>
 bsV 61 2 [(.int .i64 0), (.int .i64 0), (.int .i64 0), (.int .i64 0)] [(0, 2, v43), (2, 2, v44)] h39 fun v45 h46 =>
 T Try.prog 26 [v45, (.int .i64 9)] h46 fun v47 h48 =>
 bnd (exV v47 0) fun v49 =>
 bnd (exV v47 1) fun v50 =>
 bnd (exV v47 2) fun v51 =>
 bnd (unV .neg v5) fun v52 =>
 T Try.prog 26 [v7, v52] h48 fun v53 h54 =>
 bnd (exV v53 0) fun v55 =>
 bnd (exV v53 1) fun v56 =>
 bnd (exV v53 2) fun v57 =>
 bnd (binV .add (.int .i64 1073741823) v5) fun v58 =>
 T Try.prog 26 [v7, v58] h54 fun v59 h60 =>
 bnd (exV v59 0) fun v61 =>
 bnd (exV v59 1) fun v62 =>
 bnd (exV v59 2) fun v63 =>
 T Try.prog 16 [v34] h60 fun v64 h65 =>
 bnd (eqI v64 (.int .i64 1200)) fun b66 =>
 ifV (.bool b66) (
 T Try.prog 16 [v41] h65 fun v67 h68 =>
 bnd (eqI v67 (.int .i64 1200)) fun b69 =>
 ifV (.bool b69) (
 T Try.prog 16 [v51] h68 fun v70 h71 =>
 bnd (eqI v70 (.int .i64 1200)) fun b72 =>
 ifV (.bool b72) (
 T Try.prog 16 [v57] h71 fun v73 h74 =>
 bnd (eqI v73 (.int .i64 1200)) fun b75 =>
 ifV (.bool b75) (
 T Try.prog 16 [v63] h74 fun v76 h77 =>
 bnd (eqI v76 (.int .i64 1200)) fun b78 =>
 K (.bool b78) h77) (
 K (.bool false) h74)) (
 K (.bool false) h71)) (
 K (.bool false) h68)) (
 K (.bool false) h65))
def A11 : Ann := ⟨fun | 9 => ([0, 1, 2, 3, 4, 5, 6, 7, 8, 9, 10, 11, 12], [0, 1, 3, 0, 15, 31, 63, 127, 127, 127, 255, 1535, 4095]) | _ => ([], []), fun _ => []⟩
theorem S11_T {a0 a1 : Value} {h : GH} {K : Value → GH → Prop} (g : S11 a0 a1 h K) : T Try.prog 11 [a0, a1] h K :=
  T_of_gwp (A := A11) Try.func11 (c := bodyOf Try.f11) (by kernel_rfl) (by kernel_rfl) (by kernel_rfl) (by kernel_rfl) (by kernel_rfl) (Eq.mp (by kernel_rfl) g)

/-! ### pawl/pawllaw12.LimboRows (12) -/
def S12_j1 (s16 : Nat → Value) (x0 x1 x5 x6 x8 x9 x10 x51 : Value) (h : GH) (K : Value → GH → Prop) (again18 : (Nat → Value) → GH → Prop) : Prop :=
 ifV x51 (
 bnd (lnV x5) fun v1 =>
 bnd (binV .geq x8 v1) fun v2 =>
 ifV v2 (
 K (.bool false) h) (
 bnd (isV 1 x5 x8) fun v3 =>
 bnd (ldV 1 false v3 h) fun v4 =>
 bnd (isV 2 x0 x10) fun v5 =>
 bnd (faV 0 v5) fun v6 =>
 bnd (ldV 1 false v6 h) fun v7 =>
 bnd (eqI v4 v7) fun b8 =>
 ifV (.bool (!b8)) (
 K (.bool false) h) (
 bnd (binV .add x8 (.int .i64 1)) fun v9 =>
 bnd (binV .add x10 (.int .i64 1)) fun v10 =>
 again18 (tup [x0, x1, x5, x6, v9, x9, v10]) h))) (
 bnd (lnV x6) fun v11 =>
 bnd (binV .geq x9 v11) fun v12 =>
 ifV v12 (
 K (.bool false) h) (
 bnd (isV 2 x6 x9) fun v13 =>
 bnd (ldV 2 true v13 h) fun v14 =>
 bnd (isV 2 x0 x10) fun v15 =>
 bnd (ldV 2 true v15 h) fun v16 =>
 bnd (eqP Try.prog 10000 61 v14 v16) fun b17 =>
 ifV (.bool (!b17)) (
 K (.bool false) h) (
 bnd (binV .add x9 (.int .i64 1)) fun v18 =>
 bnd (binV .add x10 (.int .i64 1)) fun v19 =>
 again18 (tup [x0, x1, x5, x6, x8, v18, v19]) h)))
def S12 (a0 a1 : Value) (h : GH) (K : Value → GH → Prop) : Prop :=
 T Try.prog 33 [] h fun v1 h2 =>
 bnd (unV .not v1) fun v3 =>
 ifV v3 (
 K (.bool false) h2) (
 T Try.prog 26 [a0, a1] h2 fun v4 h5 =>
 bnd (exV v4 0) fun v6 =>
 bnd (exV v4 1) fun v7 =>
 bnd (exV v4 2) fun v8 =>
 T Try.prog 16 [v8] h5 fun v9 h10 =>
 bnd (eqI v9 (.int .i64 0)) fun b11 =>
 ifV (.bool (!b11)) (
 bnd (lnV v6) fun v12 =>
 bnd (lnV v7) fun v13 =>
 bnd (binV .add v12 v13) fun v14 =>
 bnd (eqI v14 (.int .i64 0)) fun b15 =>
 K (.bool b15) h10) (
 Lfp (fun (s16 : Nat → Value) h17 again18 =>
 bnd (lnV (s16 0)) fun v19 =>
 bnd (binV .lss (s16 6) v19) fun v20 =>
 ifV v20 (
 bnd (isV 2 (s16 0) (s16 6)) fun v21 =>
 bnd (faV 1 v21) fun v22 =>
 bnd (ldV 1 false v22 h17) fun v23 =>
 bnd (binV .geq (s16 1) v23) fun v24 =>
 ifV v24 (
 bnd (isV 2 (s16 0) (s16 6)) fun v25 =>
 bnd (faV 1 v25) fun v26 =>
 bnd (ldV 1 false v26 h17) fun v27 =>
 bnd (binV .sub (s16 1) v27) fun v28 =>
 bnd (binV .geq v28 (.int .i64 3)) fun v29 =>
 S12_j1 s16 (s16 0) (s16 1) (s16 2) (s16 3) (s16 4) (s16 5) (s16 6) v29 h17 K again18) (
 S12_j1 s16 (s16 0) (s16 1) (s16 2) (s16 3) (s16 4) (s16 5) (s16 6) (.bool false) h17 K again18)) (
 bnd (lnV (s16 2)) fun v30 =>
 bnd (eqI (s16 4) v30) fun b31 =>
 ifV (.bool b31) (
 bnd (lnV (s16 3)) fun v32 =>
 bnd (eqI (s16 5) v32) fun b33 =>
 K (.bool b33) h17) (
 K (.bool false) h17))) (tup [a0, a1, v6, v7, (.int .i64 0), (.int .i64 0), (.int .i64 0)]) h10))
def A12 : Ann := ⟨fun | 11 => ([0, 1, 2, 3, 4, 5, 6, 7, 8, 9, 10, 11, 12, 13, 14, 15], [0, 0, 2, 7, 15, 31, 31, 127, 255, 31, 31, 1567, 3615, 7711, 16383, 32767]) | 14 => ([0, 1, 2, 3, 4, 5, 6, 7, 8, 9, 10, 11, 12, 13, 14], [0, 0, 2, 7, 15, 31, 31, 127, 255, 31, 31, 1567, 3615, 8191, 16383]) | _ => ([], []), fun | 0 => [0, 1, 5, 6, 8, 9, 10] | _ => []⟩
theorem S12_T {a0 a1 : Value} {h : GH} {K : Value → GH → Prop} (g : S12 a0 a1 h K) : T Try.prog 12 [a0, a1] h K :=
  T_of_gwp (A := A12) Try.func12 (c := bodyOf Try.f12) (by kernel_rfl) (by kernel_rfl) (by kernel_rfl) (by kernel_rfl) (by kernel_rfl) (Eq.mp (by kernel_rfl) g)

/-! ### pawl/pawllaw12.LimboEmpties (13) -/
def S13_j1 (s5 : Nat → Value) (x0 x5 x6 x7 : Value) (h : GH) (K : Value → GH → Prop) (again7 : (Nat → Value) → GH → Prop) : Prop :=
 bnd (isV 1 x0 x7) fun v1 =>
 bnd (ldV 1 false v1 h) fun v2 =>
 bnd (binV .and v2 (.int .i64 1023)) fun v3 =>
 bnd (binV .rem v3 (.int .i64 12)) fun v4 =>
 bnd (binV .add x5 x7) fun v5 =>
 T Try.prog 24 [x6, v4, v5] h fun v6 h7 =>
 bnd (exV v6 0) fun v8 =>
 bnd (exV v6 1) fun v9 =>
 T Try.prog 16 [v9] h7 fun v10 h11 =>
 bnd (eqI v10 (.int .i64 0)) fun b12 =>
 ifV (.bool (!b12)) (
 K (.bool false) h11) (
 bnd (binV .add x7 (.int .i64 1)) fun v13 =>
 again7 (tup [x0, x5, v8, v13]) h11)

def S13_j3 (s5 : Nat → Value) (x6 x13 : Value) (h : GH) (K : Value → GH → Prop) (again7 : (Nat → Value) → GH → Prop) : Prop :=
 Lfp (fun (s1 : Nat → Value) h2 again3 =>
 bnd (lnV (s1 0)) fun v4 =>
 bnd (binV .lss (s1 2) v4) fun v5 =>
 ifV v5 (
 bnd (isV 1 (s1 1) (s1 2)) fun v6 =>
 bnd (ldV 1 false v6 h2) fun v7 =>
 bnd (isV 2 (s1 0) (s1 2)) fun v8 =>
 bnd (faV 0 v8) fun v9 =>
 bnd (ldV 1 false v9 h2) fun v10 =>
 bnd (eqI v7 v10) fun b11 =>
 ifV (.bool (!b11)) (
 K (.bool false) h2) (
 bnd (binV .add (s1 2) (.int .i64 1)) fun v12 =>
 again3 (tup [(s1 0), (s1 1), v12]) h2)) (
 K (.bool true) h2)) (tup [x6, x13, (.int .i64 0)]) h

def S13_j2 (s5 : Nat → Value) (x5 x6 : Value) (h : GH) (K : Value → GH → Prop) (again7 : (Nat → Value) → GH → Prop) : Prop :=
 bnd (binV .add x5 (.int .i64 3)) fun v1 =>
 bnd (binV .sub v1 (.int .i64 1)) fun v2 =>
 T Try.prog 26 [x6, v2] h fun v3 h4 =>
 bnd (exV v3 0) fun v5 =>
 bnd (exV v3 1) fun v6 =>
 bnd (exV v3 2) fun v7 =>
 bnd (binV .add x5 (.int .i64 3)) fun v8 =>
 bnd (lnV x6) fun v9 =>
 bnd (binV .add v8 v9) fun v10 =>
 T Try.prog 26 [x6, v10] h4 fun v11 h12 =>
 bnd (exV v11 0) fun v13 =>
 bnd (exV v11 1) fun v14 =>
 bnd (exV v11 2) fun v15 =>
 T Try.prog 16 [v7] h12 fun v16 h17 =>
 bnd (eqI v16 (.int .i64 0)) fun b18 =>
 ifV (.bool (!b18)) (
 K (.bool false) h17) (
 T Try.prog 16 [v15] h17 fun v19 h20 =>
 bnd (eqI v19 (.int .i64 0)) fun b21 =>
 ifV (.bool (!b21)) (
 K (.bool false) h20) (
 bnd (lnV v5) fun v22 =>
 bnd (eqI v22 (.int .i64 0)) fun b23 =>
 ifV (.bool (!b23)) (
 K (.bool false) h20) (
 T Try.prog 28 [v6, x6] h20 fun v24 h25 =>
 bnd (unV .not v24) fun v26 =>
 ifV v26 (
 K (.bool false) h25) (
 bnd (lnV v14) fun v27 =>
 bnd (eqI v27 (.int .i64 0)) fun b28 =>
 ifV (.bool (!b28)) (
 K (.bool false) h25) (
 bnd (lnV v13) fun v29 =>
 bnd (lnV x6) fun v30 =>
 bnd (eqI v29 v30) fun b31 =>
 ifV (.bool (!b31)) (
 K (.bool false) h25) (
 S13_j3 s5 x6 v13 h25 K again7))))))
def S13 (a0 a1 : Value) (h : GH) (K : Value → GH → Prop) : Prop :=
 T Try.prog 33 [] h fun v1 h2 =>
 bnd (unV .not v1) fun v3 =>
 ifV v3 (
 K (.bool false) h2) (
 bnd (binV .and a1 (.int .i64 65535)) fun v4 =>
 Lfp (fun (s5 : Nat → Value) h6 again7 =>
 bnd (lnV (s5 0)) fun v8 =>
 bnd (binV .lss (s5 3) v8) fun v9 =>
 ifV v9 (
 bnd (binV .lss (s5 3) (.int .i64 12)) fun v10 =>
 ifV v10 (
 S13_j1 s5 (s5 0) (s5 1) (s5 2) (s5 3) h6 K again7) (
 S13_j2 s5 (s5 1) (s5 2) h6 K again7)) (
 S13_j2 s5 (s5 1) (s5 2) h6 K again7)) (tup [a0, v4, (.slice none 0 0), (.int .i64 0)]) h2)
def A13 : Ann := ⟨fun | 19 => ([0, 1, 2, 3, 4, 5, 6, 7, 8, 9], [0, 0, 3, 7, 0, 0, 48, 112, 240, 511]) | _ => ([], []), fun | 0 => [0, 5, 6, 7] | 2 => [6, 13, 16] | _ => []⟩
theorem S13_T {a0 a1 : Value} {h : GH} {K : Value → GH → Prop} (g : S13 a0 a1 h K) : T Try.prog 13 [a0, a1] h K :=
  T_of_gwp (A := A13) Try.func13 (c := bodyOf Try.f13) (by kernel_rfl) (by kernel_rfl) (by kernel_rfl) (by kernel_rfl) (by kernel_rfl) (Eq.mp (by kernel_rfl) g)

/-! ### pawl/backoff.Pause (14) -/
def S14_j2 (x1 : Value) (h : GH) (K : Value → GH → Prop)  : Prop :=
 Lfp (fun (s1 : Nat → Value) h2 again3 =>
 bnd (binV .lss (s1 2) (s1 0)) fun v4 =>
 ifV v4 (
 bnd (binV .lss (s1 1) (.int .i64 8)) fun v5 =>
 ifV v5 (
 bnd (binV .mul (s1 1) (.int .i64 2)) fun v6 =>
 bnd (binV .add (s1 2) (.int .i64 1)) fun v7 =>
 again3 (tup [(s1 0), v6, v7]) h2) (
 bnd (mmV false (s1 1) [(.int .i64 8)]) fun v8 =>
 K (.tuple #[v8, (.int .i64 0)]) h2)) (
 bnd (mmV false (s1 1) [(.int .i64 8)]) fun v9 =>
 K (.tuple #[v9, (.int .i64 0)]) h2)) (tup [x1, (.int .i64 1), (.int .i64 1)]) h

def S14_j1 (x0 x1 x8 : Value) (h : GH) (K : Value → GH → Prop)  : Prop :=
 ifV x8 (
 K (.tuple #[(.int .i64 0), (.int .i64 1600)]) h) (
 bnd (unV .not x0) fun v1 =>
 ifV v1 (
 K (.tuple #[(.int .i64 0), (.int .i64 0)]) h) (
 bnd (eqI x1 (.int .i64 0)) fun b2 =>
 ifV (.bool b2) (
 K (.tuple #[(.int .i64 0), (.int .i64 0)]) h) (
 S14_j2 x1 h K )))
def S14 (a0 a1 : Value) (h : GH) (K : Value → GH → Prop) : Prop :=
 bnd (binV .lss a1 (.int .i64 0)) fun v1 =>
 ifV v1 (
 S14_j1 a0 a1 (.bool true) h K ) (
 bnd (binV .gtr a1 (.int .i64 16)) fun v2 =>
 S14_j1 a0 a1 v2 h K )
def A14 : Ann := ⟨fun _ => ([], []), fun | 1 => [1, 6, 7] | _ => []⟩
theorem S14_T {a0 a1 : Value} {h : GH} {K : Value → GH → Prop} (g : S14 a0 a1 h K) : T Try.prog 14 [a0, a1] h K :=
  T_of_gwp (A := A14) Try.func14 (c := bodyOf Try.f14) (by kernel_rfl) (by kernel_rfl) (by kernel_rfl) (by kernel_rfl) (by kernel_rfl) (Eq.mp (by kernel_rfl) g)

/-! ### pawl/pawlref10.Pause (15) -/
def S15_j1 (x0 x1 : Value) (h : GH) (K : Value → GH → Prop)  : Prop :=
 bnd (unV .not x0) fun v1 =>
 ifV v1 (
 K (.tuple #[(.int .i64 0), (.int .i64 0)]) h) (
 Lfp (fun (s2 : Nat → Value) h3 again4 =>
 bnd (binV .lss (s2 2) (s2 0)) fun v5 =>
 ifV v5 (
 bnd (binV .lss (s2 1) (.int .i64 8)) fun v6 =>
 ifV v6 (
 bnd (binV .mul (.int .i64 2) (s2 1)) fun v7 =>
 bnd (binV .add (s2 2) (.int .i64 1)) fun v8 =>
 again4 (tup [(s2 0), v7, v8]) h3) (
 bnd (eqI (s2 0) (.int .i64 0)) fun b9 =>
 ifV (.bool b9) (
 K (.tuple #[(.int .i64 0), (.int .i64 0)]) h3) (
 K (.tuple #[(s2 1), (.int .i64 0)]) h3))) (
 bnd (eqI (s2 0) (.int .i64 0)) fun b10 =>
 ifV (.bool b10) (
 K (.tuple #[(.int .i64 0), (.int .i64 0)]) h3) (
 K (.tuple #[(s2 1), (.int .i64 0)]) h3))) (tup [x1, (.int .i64 1), (.int .i64 1)]) h)
def S15 (a0 a1 : Value) (h : GH) (K : Value → GH → Prop) : Prop :=
 bnd (binV .lss a1 (.int .i64 0)) fun v1 =>
 ifV v1 (
 K (.tuple #[(.int .i64 0), (.int .i64 1600)]) h) (
 bnd (binV .gtr a1 (.int .i64 16)) fun v2 =>
 ifV v2 (
 K (.tuple #[(.int .i64 0), (.int .i64 1600)]) h) (
 S15_j1 a0 a1 h K ))
def A15 : Ann := ⟨fun _ => ([], []), fun | 0 => [1, 6, 7] | _ => []⟩
theorem S15_T {a0 a1 : Value} {h : GH} {K : Value → GH → Prop} (g : S15 a0 a1 h K) : T Try.prog 15 [a0, a1] h K :=
  T_of_gwp (A := A15) Try.func15 (c := bodyOf Try.f15) (by kernel_rfl) (by kernel_rfl) (by kernel_rfl) (by kernel_rfl) (by kernel_rfl) (Eq.mp (by kernel_rfl) g)

/-! ### pawl/pawllaw0.Num (16) -/
def S16 (a0 : Value) (h : GH) (K : Value → GH → Prop) : Prop :=
 K a0 h
def A16 : Ann := ⟨fun _ => ([], []), fun _ => []⟩
theorem S16_T {a0 : Value} {h : GH} {K : Value → GH → Prop} (g : S16 a0 h K) : T Try.prog 16 [a0] h K :=
  T_of_gwp (A := A16) Try.func16 (c := bodyOf Try.f16) (by kernel_rfl) (by kernel_rfl) (by kernel_rfl) (by kernel_rfl) (by kernel_rfl) (Eq.mp (by kernel_rfl) g)

/-! ### pawl/pawllaw16.awake (17) -/
def S17 (h : GH) (K : Value → GH → Prop) : Prop :=
 T Try.prog 14 [(.bool true), (.int .i64 3)] h fun v1 h2 =>
 bnd (exV v1 0) fun v3 =>
 bnd (exV v1 1) fun v4 =>
 T Try.prog 14 [(.bool true), (.int .i64 9)] h2 fun v5 h6 =>
 bnd (exV v5 0) fun v7 =>
 bnd (exV v5 1) fun v8 =>
 T Try.prog 14 [(.bool false), (.int .i64 3)] h6 fun v9 h10 =>
 bnd (exV v9 0) fun v11 =>
 bnd (exV v9 1) fun v12 =>
 T Try.prog 14 [(.bool true), (.int .i64 (-1))] h10 fun v13 h14 =>
 bnd (exV v13 0) fun v15 =>
 bnd (exV v13 1) fun v16 =>
 T Try.prog 14 [(.bool true), (.int .i64 0)] h14 fun v17 h18 =>
 bnd (exV v17 0) fun v19 =>
 bnd (exV v17 1) fun v20 =>
 bnd (eqI v3 (.int .i64 4)) fun b21 =>
 ifV (.bool b21) (
 T Try.prog 16 [v4] h18 fun v22 h23 =>
 bnd (eqI v22 (.int .i64 0)) fun b24 =>
 ifV (.bool b24) (
 bnd (eqI v7 (.int .i64 8)) fun b25 =>
 ifV (.bool b25) (
 T Try.prog 16 [v8] h23 fun v26 h27 =>
 bnd (eqI v26 (.int .i64 0)) fun b28 =>
 ifV (.bool b28) (
 bnd (eqI v11 (.int .i64 0)) fun b29 =>
 ifV (.bool b29) (
 T Try.prog 16 [v12] h27 fun v30 h31 =>
 bnd (eqI v30 (.int .i64 0)) fun b32 =>
 ifV (.bool b32) (
 T Try.prog 16 [v16] h31 fun v33 h34 =>
 bnd (eqI v33 (.int .i64 1600)) fun b35 =>
 ifV (.bool b35) (
 bnd (eqI v19 (.int .i64 0)) fun b36 =>
 ifV (.bool b36) (
 T Try.prog 16 [v20] h34 fun v37 h38 =>
 bnd (eqI v37 (.int .i64 0)) fun b39 =>
 K (.bool b39) h38) (
 K (.bool false) h34)) (
 K (.bool false) h34)) (
 K (.bool false) h31)) (
 K (.bool false) h27)) (
 K (.bool false) h27)) (
 K (.bool false) h23)) (
 K (.bool false) h23)) (
 K (.bool false) h18)
def A17 : Ann := ⟨fun _ => ([], []), fun _ => []⟩
theorem S17_T {h : GH} {K : Value → GH → Prop} (g : S17 h K) : T Try.prog 17 [] h K :=
  T_of_gwp (A := A17) Try.func17 (c := bodyOf Try.f17) (by kernel_rfl) (by kernel_rfl) (by kernel_rfl) (by kernel_rfl) (by kernel_rfl) (Eq.mp (by kernel_rfl) g)

/-! ### pawl/pawllaw0.LendTouchs (18) -/
def S18 (a0 : Value) (h : GH) (K : Value → GH → Prop) : Prop :=
 T Try.prog 34 [a0] h fun v1 h2 =>
 bnd (fillV [(.int .i64 0), (.int .i64 0), (.int .i64 0), (.int .i64 0), (.int .i64 0), (.int .i64 0), (.int .i64 0), (.int .i64 0)] [(2, 1, (.int .i64 77777))]) fun c3 =>
 bnd (fillV [(.int .i64 0), (.int .i64 0), (.int .i64 0), (.int .i64 0), (.int .i64 0), (.int .i64 0), (.int .i64 0), (.int .i64 0)] [(2, 1, (.int .i64 77777))]) fun c4 =>
 bsV 41 2 (List.replicate 16 (.int .i64 0)) [(0, 8, (.agg c3.toArray)), (8, 8, (.agg c4.toArray))] h2 fun v5 h6 =>
 apV 41 8 64 v1 v5 h6 fun v7 h8 =>
 bnd (lnV a0) fun v9 =>
 bnd (slV 8 v7 none (some v9)) fun v10 =>
 K v10 h8
def A18 : Ann := ⟨fun _ => ([], []), fun _ => []⟩
theorem S18_T {a0 : Value} {h : GH} {K : Value → GH → Prop} (g : S18 a0 h K) : T Try.prog 18 [a0] h K :=
  T_of_gwp (A := A18) Try.func18 (c := bodyOf Try.f18) (by kernel_rfl) (by kernel_rfl) (by kernel_rfl) (by kernel_rfl) (by kernel_rfl) (Eq.mp (by kernel_rfl) g)

/-! ### pawl/safe.Check (19) -/
def S19 (a0 : Value) (h : GH) (K : Value → GH → Prop) : Prop :=
 bnd (lnV a0) fun v1 =>
 Lfp (fun (s2 : Nat → Value) h3 again4 =>
 bnd (binV .lss (s2 3) (s2 2)) fun v5 =>
 ifV v5 (
 bnd (isV 8 (s2 1) (s2 3)) fun v6 =>
 bnd (ldV 8 true v6 h3) fun v7 =>
 newV 41 [(.int .i64 0), (.int .i64 0), (.int .i64 0), (.int .i64 0), (.int .i64 0), (.int .i64 0), (.int .i64 0), (.int .i64 0)] h3 fun v8 h9 =>
 bnd (stV 8 v8 v7 h9) fun h10 =>
 bnd (faV 5 v8) fun v11 =>
 bnd (ldV 1 false v11 h10) fun v12 =>
 bnd (eqI v12 (.int .i64 (-1))) fun b13 =>
 bnd (faV 2 v8) fun v14 =>
 bnd (ldV 1 false v14 h10) fun v15 =>
 T Try.prog 35 [v15, (.int .i64 634)] h10 fun v16 h17 =>
 bnd (unV .not v16) fun v18 =>
 ifV v18 (
 K (.tuple #[(.int .i64 0), (.int .i64 2100)]) h17) (
 ifV (.bool (!b13)) (
 bnd (faV 5 v8) fun v19 =>
 bnd (ldV 1 false v19 h17) fun v20 =>
 T Try.prog 35 [v20, (.int .i64 12)] h17 fun v21 h22 =>
 bnd (unV .not v21) fun v23 =>
 ifV v23 (
 K (.tuple #[(.int .i64 0), (.int .i64 2100)]) h22) (
 bnd (faV 6 v8) fun v24 =>
 bnd (ldV 1 false v24 h22) fun v25 =>
 bnd (faV 7 v8) fun v26 =>
 bnd (ldV 1 false v26 h22) fun v27 =>
 bnd (eqI v25 v27) fun b28 =>
 ifV (.bool (!b28)) (
 K (.tuple #[(.int .i64 0), (.int .i64 2100)]) h22) (
 ifV (.bool (!b13)) (
 bnd (binV .add (s2 0) (.int .i64 1)) fun v29 =>
 bnd (binV .add (s2 3) (.int .i64 1)) fun v30 =>
 again4 (tup [v29, (s2 1), (s2 2), v30]) h22) (
 bnd (binV .add (s2 3) (.int .i64 1)) fun v31 =>
 again4 (tup [(s2 0), (s2 1), (s2 2), v31]) h22)))) (
 ifV (.bool (!b13)) (
 bnd (binV .add (s2 0) (.int .i64 1)) fun v32 =>
 bnd (binV .add (s2 3) (.int .i64 1)) fun v33 =>
 again4 (tup [v32, (s2 1), (s2 2), v33]) h17) (
 bnd (binV .add (s2 3) (.int .i64 1)) fun v34 =>
 again4 (tup [(s2 0), (s2 1), (s2 2), v34]) h17)))) (
 K (.tuple #[(s2 0), (.int .i64 0)]) h3)) (tup [(.int .i64 0), a0, v1, (.int .i64 0)]) h
def A19 : Ann := ⟨fun _ => ([], []), fun | 0 => [4, 8, 9, 10] | _ => []⟩
theorem S19_T {a0 : Value} {h : GH} {K : Value → GH → Prop} (g : S19 a0 h K) : T Try.prog 19 [a0] h K :=
  T_of_gwp (A := A19) Try.func19 (c := bodyOf Try.f19) (by kernel_rfl) (by kernel_rfl) (by kernel_rfl) (by kernel_rfl) (by kernel_rfl) (Eq.mp (by kernel_rfl) g)

/-! ### pawl/pawlref20.Check (20) -/
def S20 (a0 : Value) (h : GH) (K : Value → GH → Prop) : Prop :=
 Lfp (fun (s1 : Nat → Value) h2 again3 =>
 bnd (lnV (s1 0)) fun v4 =>
 bnd (binV .lss (s1 2) v4) fun v5 =>
 ifV v5 (
 bnd (isV 8 (s1 0) (s1 2)) fun v6 =>
 bnd (ldV 8 true v6 h2) fun v7 =>
 newV 41 [(.int .i64 0), (.int .i64 0), (.int .i64 0), (.int .i64 0), (.int .i64 0), (.int .i64 0), (.int .i64 0), (.int .i64 0)] h2 fun v8 h9 =>
 bnd (stV 8 v8 v7 h9) fun h10 =>
 bnd (faV 2 v8) fun v11 =>
 bnd (ldV 1 false v11 h10) fun v12 =>
 bnd (binV .lss v12 (.int .i64 0)) fun v13 =>
 ifV v13 (
 K (.tuple #[(.int .i64 0), (.int .i64 2100)]) h10) (
 bnd (faV 2 v8) fun v14 =>
 bnd (ldV 1 false v14 h10) fun v15 =>
 bnd (binV .geq v15 (.int .i64 634)) fun v16 =>
 ifV v16 (
 K (.tuple #[(.int .i64 0), (.int .i64 2100)]) h10) (
 bnd (faV 5 v8) fun v17 =>
 bnd (ldV 1 false v17 h10) fun v18 =>
 bnd (binV .lss v18 (.int .i64 (-1))) fun v19 =>
 ifV v19 (
 K (.tuple #[(.int .i64 0), (.int .i64 2100)]) h10) (
 bnd (faV 5 v8) fun v20 =>
 bnd (ldV 1 false v20 h10) fun v21 =>
 bnd (binV .geq v21 (.int .i64 12)) fun v22 =>
 ifV v22 (
 K (.tuple #[(.int .i64 0), (.int .i64 2100)]) h10) (
 bnd (faV 5 v8) fun v23 =>
 bnd (ldV 1 false v23 h10) fun v24 =>
 bnd (binV .geq v24 (.int .i64 0)) fun v25 =>
 ifV v25 (
 bnd (faV 6 v8) fun v26 =>
 bnd (ldV 1 false v26 h10) fun v27 =>
 bnd (faV 7 v8) fun v28 =>
 bnd (ldV 1 false v28 h10) fun v29 =>
 bnd (eqI v27 v29) fun b30 =>
 ifV (.bool (!b30)) (
 K (.tuple #[(.int .i64 0), (.int .i64 2100)]) h10) (
 bnd (faV 5 v8) fun v31 =>
 bnd (ldV 1 false v31 h10) fun v32 =>
 bnd (binV .geq v32 (.int .i64 0)) fun v33 =>
 ifV v33 (
 bnd (binV .add (s1 1) (.int .i64 1)) fun v34 =>
 bnd (binV .add (s1 2) (.int .i64 1)) fun v35 =>
 again3 (tup [(s1 0), v34, v35]) h10) (
 bnd (binV .add (s1 2) (.int .i64 1)) fun v36 =>
 again3 (tup [(s1 0), (s1 1), v36]) h10))) (
 bnd (faV 5 v8) fun v37 =>
 bnd (ldV 1 false v37 h10) fun v38 =>
 bnd (binV .geq v38 (.int .i64 0)) fun v39 =>
 ifV v39 (
 bnd (binV .add (s1 1) (.int .i64 1)) fun v40 =>
 bnd (binV .add (s1 2) (.int .i64 1)) fun v41 =>
 again3 (tup [(s1 0), v40, v41]) h10) (
 bnd (binV .add (s1 2) (.int .i64 1)) fun v42 =>
 again3 (tup [(s1 0), (s1 1), v42]) h10))))))) (
 K (.tuple #[(s1 1), (.int .i64 0)]) h2)) (tup [a0, (.int .i64 0), (.int .i64 0)]) h
def A20 : Ann := ⟨fun _ => ([], []), fun | 0 => [0, 4, 5] | _ => []⟩
theorem S20_T {a0 : Value} {h : GH} {K : Value → GH → Prop} (g : S20 a0 h K) : T Try.prog 20 [a0] h K :=
  T_of_gwp (A := A20) Try.func20 (c := bodyOf Try.f20) (by kernel_rfl) (by kernel_rfl) (by kernel_rfl) (by kernel_rfl) (by kernel_rfl) (Eq.mp (by kernel_rfl) g)

/-! ### pawl/pawllaw0.KeptTouchs (21) -/
def S21 (a0 a1 : Value) (h : GH) (K : Value → GH → Prop) : Prop :=
 bnd (lnV a0) fun v1 =>
 bnd (binV .add v1 (.int .i64 2)) fun v2 =>
 bnd (slV 8 a0 none (some v2)) fun v3 =>
 T Try.prog 36 [a0, a1] h fun v4 h5 =>
 ifV v4 (
 bnd (lnV a1) fun v6 =>
 bnd (isV 8 v3 v6) fun v7 =>
 bnd (ldV 8 true v7 h5) fun v8 =>
 bnd (fillV [(.int .i64 0), (.int .i64 0), (.int .i64 0), (.int .i64 0), (.int .i64 0), (.int .i64 0), (.int .i64 0), (.int .i64 0)] [(2, 1, (.int .i64 77777))]) fun c9 =>
 bnd (eqP Try.prog 10000 41 v8 (.agg c9.toArray)) fun b10 =>
 ifV (.bool b10) (
 bnd (lnV a1) fun v11 =>
 bnd (binV .add v11 (.int .i64 1)) fun v12 =>
 bnd (isV 8 v3 v12) fun v13 =>
 bnd (ldV 8 true v13 h5) fun v14 =>
 bnd (fillV [(.int .i64 0), (.int .i64 0), (.int .i64 0), (.int .i64 0), (.int .i64 0), (.int .i64 0), (.int .i64 0), (.int .i64 0)] [(2, 1, (.int .i64 77777))]) fun c15 =>
 bnd (eqP Try.prog 10000 41 v14 (.agg c15.toArray)) fun b16 =>
 K (.bool b16) h5) (
 K (.bool false) h5)) (
 K (.bool false) h5)
def A21 : Ann := ⟨fun _ => ([], []), fun _ => []⟩
theorem S21_T {a0 a1 : Value} {h : GH} {K : Value → GH → Prop} (g : S21 a0 a1 h K) : T Try.prog 21 [a0, a1] h K :=
  T_of_gwp (A := A21) Try.func21 (c := bodyOf Try.f21) (by kernel_rfl) (by kernel_rfl) (by kernel_rfl) (by kernel_rfl) (by kernel_rfl) (Eq.mp (by kernel_rfl) g)

/-! ### pawl/pawllaw21.awake (22) -/
def S22 (h : GH) (K : Value → GH → Prop) : Prop :=
 bnd (fillV [(.int .i64 0), (.int .i64 0), (.int .i64 0), (.int .i64 0), (.int .i64 0), (.int .i64 0), (.int .i64 0), (.int .i64 0)] [(5, 1, (.int .i64 (-1)))]) fun c1 =>
 bnd (fillV [(.int .i64 0), (.int .i64 0), (.int .i64 0), (.int .i64 0), (.int .i64 0), (.int .i64 0), (.int .i64 0), (.int .i64 0)] [(2, 1, (.int .i64 34)), (6, 1, (.int .i64 2)), (7, 1, (.int .i64 2))]) fun c2 =>
 bnd (fillV [(.int .i64 0), (.int .i64 0), (.int .i64 0), (.int .i64 0), (.int .i64 0), (.int .i64 0), (.int .i64 0), (.int .i64 0)] [(2, 1, (.int .i64 633)), (5, 1, (.int .i64 3)), (6, 1, (.int .i64 1)), (7, 1, (.int .i64 1))]) fun c3 =>
 bsV 41 3 (List.replicate 24 (.int .i64 0)) [(0, 8, (.agg c1.toArray)), (8, 8, (.agg c2.toArray)), (16, 8, (.agg c3.toArray))] h fun v4 h5 =>
 T Try.prog 19 [v4] h5 fun v6 h7 =>
 bnd (exV v6 0) fun v8 =>
 bnd (exV v6 1) fun v9 =>
 bnd (isV 8 v4 (.int .i64 2)) fun v10 =>
 bnd (faV 7 v10) fun v11 =>
 bnd (stV 1 v11 (.int .i64 2) h7) fun h12 =>
 T Try.prog 19 [v4] h12 fun v13 h14 =>
 bnd (exV v13 0) fun v15 =>
 bnd (exV v13 1) fun v16 =>
 bnd (fillV [(.int .i64 0), (.int .i64 0), (.int .i64 0), (.int .i64 0), (.int .i64 0), (.int .i64 0), (.int .i64 0), (.int .i64 0)] [(2, 1, (.int .i64 634)), (5, 1, (.int .i64 (-1)))]) fun c17 =>
 bsV 41 1 [(.int .i64 0), (.int .i64 0), (.int .i64 0), (.int .i64 0), (.int .i64 0), (.int .i64 0), (.int .i64 0), (.int .i64 0)] [(0, 8, (.agg c17.toArray))] h14 fun v18 h19 =>
 T Try.prog 19 [v18] h19 fun v20 h21 =>
 bnd (exV v20 0) fun v22 =>
 bnd (exV v20 1) fun v23 =>
 bnd (eqI v8 (.int .i64 2)) fun b24 =>
 ifV (.bool b24) (
 T Try.prog 16 [v9] h21 fun v25 h26 =>
 bnd (eqI v25 (.int .i64 0)) fun b27 =>
 ifV (.bool b27) (
 T Try.prog 16 [v16] h26 fun v28 h29 =>
 bnd (eqI v28 (.int .i64 2100)) fun b30 =>
 ifV (.bool b30) (
 T Try.prog 16 [v23] h29 fun v31 h32 =>
 bnd (eqI v31 (.int .i64 2100)) fun b33 =>
 K (.bool b33) h32) (
 K (.bool false) h29)) (
 K (.bool false) h26)) (
 K (.bool false) h21)
def A22 : Ann := ⟨fun _ => ([], []), fun _ => []⟩
theorem S22_T {h : GH} {K : Value → GH → Prop} (g : S22 h K) : T Try.prog 22 [] h K :=
  T_of_gwp (A := A22) Try.func22 (c := bodyOf Try.f22) (by kernel_rfl) (by kernel_rfl) (by kernel_rfl) (by kernel_rfl) (by kernel_rfl) (Eq.mp (by kernel_rfl) g)

/-! ### pawl/pawllaw0.LendRetireds (23) -/
def S23 (a0 : Value) (h : GH) (K : Value → GH → Prop) : Prop :=
 T Try.prog 37 [a0] h fun v1 h2 =>
 bnd (fillV [(.int .i64 0), (.int .i64 0)] [(1, 1, (.int .i64 77777))]) fun c3 =>
 bnd (fillV [(.int .i64 0), (.int .i64 0)] [(1, 1, (.int .i64 77777))]) fun c4 =>
 bsV 61 2 [(.int .i64 0), (.int .i64 0), (.int .i64 0), (.int .i64 0)] [(0, 2, (.agg c3.toArray)), (2, 2, (.agg c4.toArray))] h2 fun v5 h6 =>
 apV 61 2 16 v1 v5 h6 fun v7 h8 =>
 bnd (lnV a0) fun v9 =>
 bnd (slV 2 v7 none (some v9)) fun v10 =>
 K v10 h8
def A23 : Ann := ⟨fun _ => ([], []), fun _ => []⟩
theorem S23_T {a0 : Value} {h : GH} {K : Value → GH → Prop} (g : S23 a0 h K) : T Try.prog 23 [a0] h K :=
  T_of_gwp (A := A23) Try.func23 (c := bodyOf Try.f23) (by kernel_rfl) (by kernel_rfl) (by kernel_rfl) (by kernel_rfl) (by kernel_rfl) (Eq.mp (by kernel_rfl) g)

/-! ### pawl/limbo.Add (24) -/
def S24 (a0 a1 a2 : Value) (h : GH) (K : Value → GH → Prop) : Prop :=
 bnd (fillV [(.int .i64 0), (.int .i64 0)] [(0, 1, a1), (1, 1, a2)]) fun c1 =>
 newV 61 [(.int .i64 0), (.int .i64 0)] h fun v2 h3 =>
 bnd (stV 2 v2 (.agg c1.toArray) h3) fun h4 =>
 T Try.prog 38 [a0, (.func (.func 39) #[] #[])] h4 fun v5 h6 =>
 ifV v5 (
 K (.tuple #[(.slice none 0 0), (.int .i64 1200)]) h6) (
 bnd (ldV 2 true v2 h6) fun v7 =>
 T Try.prog 39 [v7] h6 fun v8 h9 =>
 ifV v8 (
 K (.tuple #[(.slice none 0 0), (.int .i64 1200)]) h9) (
 bnd (ldV 2 true v2 h9) fun v10 =>
 T Try.prog 40 [a0] h9 fun v11 h12 =>
 ldV 2 true v2 h12 = some v10 ∧
 bsV 61 1 [(.int .i64 0), (.int .i64 0)] [(0, 2, v10)] h12 fun v13 h14 =>
 apV 61 2 16 v11 v13 h14 fun v15 h16 =>
 K (.tuple #[v15, (.int .i64 0)]) h16))
def A24 : Ann := ⟨fun | 4 => ([0, 2, 1, 3, 4, 5, 6], [0, 1, 0, 4, 15, 31, 63]) | _ => ([], []), fun _ => []⟩
theorem S24_T {a0 a1 a2 : Value} {h : GH} {K : Value → GH → Prop} (g : S24 a0 a1 a2 h K) : T Try.prog 24 [a0, a1, a2] h K :=
  T_of_gwp (A := A24) Try.func24 (c := bodyOf Try.f24) (by kernel_rfl) (by kernel_rfl) (by kernel_rfl) (by kernel_rfl) (by kernel_rfl) (Eq.mp (by kernel_rfl) g)

/-! ### pawl/pawlref10.AddLimbo (25) -/
def S25_j1 (x0 x8 : Value) (h : GH) (K : Value → GH → Prop)  : Prop :=
 bsV 61 0 [] [] h fun v1 h2 =>
 apV 61 2 16 v1 x0 h2 fun v3 h4 =>
 bnd (ldV 2 true x8 h4) fun v5 =>
 bsV 61 1 [(.int .i64 0), (.int .i64 0)] [(0, 2, v5)] h4 fun v6 h7 =>
 apV 61 2 16 v3 v6 h7 fun v8 h9 =>
 K (.tuple #[v8, (.int .i64 0)]) h9
def S25 (a0 a1 a2 : Value) (h : GH) (K : Value → GH → Prop) : Prop :=
 bnd (fillV [(.int .i64 0), (.int .i64 0)] [(0, 1, a1), (1, 1, a2)]) fun c1 =>
 newV 61 [(.int .i64 0), (.int .i64 0)] h fun v2 h3 =>
 bnd (stV 2 v2 (.agg c1.toArray) h3) fun h4 =>
 T Try.prog 41 [a0] h4 fun v5 h6 =>
 bnd (unV .not v5) fun v7 =>
 ifV v7 (
 K (.tuple #[(.slice none 0 0), (.int .i64 1200)]) h6) (
 bnd (ldV 2 true v2 h6) fun v8 =>
 bsV 61 1 [(.int .i64 0), (.int .i64 0)] [(0, 2, v8)] h6 fun v9 h10 =>
 T Try.prog 41 [v9] h10 fun v11 h12 =>
 bnd (unV .not v11) fun v13 =>
 ifV v13 (
 K (.tuple #[(.slice none 0 0), (.int .i64 1200)]) h12) (
 S25_j1 a0 v2 h12 K ))
def A25 : Ann := ⟨fun _ => ([], []), fun _ => []⟩
theorem S25_T {a0 a1 a2 : Value} {h : GH} {K : Value → GH → Prop} (g : S25 a0 a1 a2 h K) : T Try.prog 25 [a0, a1, a2] h K :=
  T_of_gwp (A := A25) Try.func25 (c := bodyOf Try.f25) (by kernel_rfl) (by kernel_rfl) (by kernel_rfl) (by kernel_rfl) (by kernel_rfl) (Eq.mp (by kernel_rfl) g)

/-! ### pawl/limbo.Take (26) -/
def S26_j1 (x0 x1 : Value) (h : GH) (K : Value → GH → Prop)  : Prop :=
 bnd (lnV x0) fun v1 =>
 Lfp (fun (s2 : Nat → Value) h3 again4 =>
 bnd (binV .lss (s2 5) (s2 4)) fun v5 =>
 ifV v5 (
 bnd (isV 2 (s2 3) (s2 5)) fun v6 =>
 bnd (ldV 2 true v6 h3) fun v7 =>
 newV 61 [(.int .i64 0), (.int .i64 0)] h3 fun v8 h9 =>
 bnd (stV 2 v8 v7 h9) fun h10 =>
 bnd (faV 1 v8) fun v11 =>
 bnd (ldV 1 false v11 h10) fun v12 =>
 bnd (binV .sub (s2 0) v12) fun v13 =>
 bnd (binV .geq v13 (.int .i64 3)) fun v14 =>
 ifV v14 (
 bnd (faV 0 v8) fun v15 =>
 bnd (ldV 1 false v15 h10) fun v16 =>
 bsV 3 1 [(.int .i64 0)] [(0, 1, v16)] h10 fun v17 h18 =>
 apV 3 1 8 (s2 1) v17 h18 fun v19 h20 =>
 bnd (binV .add (s2 5) (.int .i64 1)) fun v21 =>
 again4 (tup [(s2 0), v19, (s2 2), (s2 3), (s2 4), v21]) h20) (
 bnd (ldV 2 true v8 h10) fun v22 =>
 bsV 61 1 [(.int .i64 0), (.int .i64 0)] [(0, 2, v22)] h10 fun v23 h24 =>
 apV 61 2 16 (s2 2) v23 h24 fun v25 h26 =>
 bnd (binV .add (s2 5) (.int .i64 1)) fun v27 =>
 again4 (tup [(s2 0), (s2 1), v25, (s2 3), (s2 4), v27]) h26)) (
 K (.tuple #[(s2 1), (s2 2), (.int .i64 0)]) h3)) (tup [x1, (.slice none 0 0), (.slice none 0 0), x0, v1, (.int .i64 0)]) h
def S26 (a0 a1 : Value) (h : GH) (K : Value → GH → Prop) : Prop :=
 T Try.prog 38 [a0, (.func (.func 39) #[] #[])] h fun v1 h2 =>
 ifV v1 (
 K (.tuple #[(.slice none 0 0), (.slice none 0 0), (.int .i64 1200)]) h2) (
 T Try.prog 42 [a1] h2 fun v3 h4 =>
 bnd (unV .not v3) fun v5 =>
 ifV v5 (
 K (.tuple #[(.slice none 0 0), (.slice none 0 0), (.int .i64 1200)]) h4) (
 S26_j1 a0 a1 h4 K ))
def A26 : Ann := ⟨fun _ => ([], []), fun | 0 => [1, 7, 8, 18, 19, 20] | _ => []⟩
theorem S26_T {a0 a1 : Value} {h : GH} {K : Value → GH → Prop} (g : S26 a0 a1 h K) : T Try.prog 26 [a0, a1] h K :=
  T_of_gwp (A := A26) Try.func26 (c := bodyOf Try.f26) (by kernel_rfl) (by kernel_rfl) (by kernel_rfl) (by kernel_rfl) (by kernel_rfl) (Eq.mp (by kernel_rfl) g)

/-! ### pawl/pawlref10.TakeLimbo (27) -/
def S27_j1 (x0 x1 : Value) (h : GH) (K : Value → GH → Prop)  : Prop :=
 Lfp (fun (s1 : Nat → Value) h2 again3 =>
 bnd (lnV (s1 0)) fun v4 =>
 bnd (binV .lss (s1 4) v4) fun v5 =>
 ifV v5 (
 bnd (isV 2 (s1 0) (s1 4)) fun v6 =>
 bnd (faV 1 v6) fun v7 =>
 bnd (ldV 1 false v7 h2) fun v8 =>
 bnd (binV .sub (s1 1) v8) fun v9 =>
 bnd (binV .geq v9 (.int .i64 3)) fun v10 =>
 ifV v10 (
 bnd (isV 2 (s1 0) (s1 4)) fun v11 =>
 bnd (faV 0 v11) fun v12 =>
 bnd (ldV 1 false v12 h2) fun v13 =>
 bsV 3 1 [(.int .i64 0)] [(0, 1, v13)] h2 fun v14 h15 =>
 apV 3 1 8 (s1 2) v14 h15 fun v16 h17 =>
 bnd (binV .add (s1 4) (.int .i64 1)) fun v18 =>
 again3 (tup [(s1 0), (s1 1), v16, (s1 3), v18]) h17) (
 bnd (isV 2 (s1 0) (s1 4)) fun v19 =>
 bnd (ldV 2 true v19 h2) fun v20 =>
 bsV 61 1 [(.int .i64 0), (.int .i64 0)] [(0, 2, v20)] h2 fun v21 h22 =>
 apV 61 2 16 (s1 3) v21 h22 fun v23 h24 =>
 bnd (binV .add (s1 4) (.int .i64 1)) fun v25 =>
 again3 (tup [(s1 0), (s1 1), (s1 2), v23, v25]) h24)) (
 K (.tuple #[(s1 2), (s1 3), (.int .i64 0)]) h2)) (tup [x0, x1, (.slice none 0 0), (.slice none 0 0), (.int .i64 0)]) h
def S27 (a0 a1 : Value) (h : GH) (K : Value → GH → Prop) : Prop :=
 T Try.prog 41 [a0] h fun v1 h2 =>
 bnd (unV .not v1) fun v3 =>
 ifV v3 (
 K (.tuple #[(.slice none 0 0), (.slice none 0 0), (.int .i64 1200)]) h2) (
 bnd (binV .lss a1 (.int .i64 0)) fun v4 =>
 ifV v4 (
 K (.tuple #[(.slice none 0 0), (.slice none 0 0), (.int .i64 1200)]) h2) (
 bnd (binV .gtr a1 (.int .i64 1073741823)) fun v5 =>
 ifV v5 (
 K (.tuple #[(.slice none 0 0), (.slice none 0 0), (.int .i64 1200)]) h2) (
 S27_j1 a0 a1 h2 K )))
def A27 : Ann := ⟨fun _ => ([], []), fun | 0 => [0, 1, 7, 8, 9] | _ => []⟩
theorem S27_T {a0 a1 : Value} {h : GH} {K : Value → GH → Prop} (g : S27 a0 a1 h K) : T Try.prog 27 [a0, a1] h K :=
  T_of_gwp (A := A27) Try.func27 (c := bodyOf Try.f27) (by kernel_rfl) (by kernel_rfl) (by kernel_rfl) (by kernel_rfl) (by kernel_rfl) (Eq.mp (by kernel_rfl) g)

/-! ### pawl/pawllaw0.SameRetireds (28) -/
def S28 (a0 a1 : Value) (h : GH) (K : Value → GH → Prop) : Prop :=
 bnd (lnV a0) fun v1 =>
 bnd (lnV a1) fun v2 =>
 bnd (eqI v1 v2) fun b3 =>
 ifV (.bool (!b3)) (
 K (.bool false) h) (
 Lfp (fun (s4 : Nat → Value) h5 again6 =>
 bnd (lnV (s4 0)) fun v7 =>
 bnd (binV .lss (s4 2) v7) fun v8 =>
 ifV v8 (
 bnd (isV 2 (s4 0) (s4 2)) fun v9 =>
 bnd (ldV 2 true v9 h5) fun v10 =>
 bnd (isV 2 (s4 1) (s4 2)) fun v11 =>
 bnd (ldV 2 true v11 h5) fun v12 =>
 bnd (eqP Try.prog 10000 61 v10 v12) fun b13 =>
 ifV (.bool (!b13)) (
 K (.bool false) h5) (
 bnd (binV .add (s4 2) (.int .i64 1)) fun v14 =>
 again6 (tup [(s4 0), (s4 1), v14]) h5)) (
 K (.bool true) h5)) (tup [a0, a1, (.int .i64 0)]) h)
def A28 : Ann := ⟨fun | 6 => ([0, 1, 2, 3, 4, 5, 6, 7, 8], [0, 0, 3, 7, 0, 0, 48, 112, 255]) | _ => ([], []), fun | 0 => [0, 1, 5] | _ => []⟩
theorem S28_T {a0 a1 : Value} {h : GH} {K : Value → GH → Prop} (g : S28 a0 a1 h K) : T Try.prog 28 [a0, a1] h K :=
  T_of_gwp (A := A28) Try.func28 (c := bodyOf Try.f28) (by kernel_rfl) (by kernel_rfl) (by kernel_rfl) (by kernel_rfl) (by kernel_rfl) (Eq.mp (by kernel_rfl) g)

/-! ### pawl/pawllaw0.SameInts (29) -/
def S29 (a0 a1 : Value) (h : GH) (K : Value → GH → Prop) : Prop :=
 bnd (lnV a0) fun v1 =>
 bnd (lnV a1) fun v2 =>
 bnd (eqI v1 v2) fun b3 =>
 ifV (.bool (!b3)) (
 K (.bool false) h) (
 Lfp (fun (s4 : Nat → Value) h5 again6 =>
 bnd (lnV (s4 0)) fun v7 =>
 bnd (binV .lss (s4 2) v7) fun v8 =>
 ifV v8 (
 bnd (isV 1 (s4 0) (s4 2)) fun v9 =>
 bnd (ldV 1 false v9 h5) fun v10 =>
 bnd (isV 1 (s4 1) (s4 2)) fun v11 =>
 bnd (ldV 1 false v11 h5) fun v12 =>
 bnd (eqI v10 v12) fun b13 =>
 ifV (.bool (!b13)) (
 K (.bool false) h5) (
 bnd (binV .add (s4 2) (.int .i64 1)) fun v14 =>
 again6 (tup [(s4 0), (s4 1), v14]) h5)) (
 K (.bool true) h5)) (tup [a0, a1, (.int .i64 0)]) h)
def A29 : Ann := ⟨fun | 6 => ([0, 1, 2, 3, 4, 5, 6, 7, 8], [0, 0, 3, 7, 0, 0, 48, 112, 255]) | _ => ([], []), fun | 0 => [0, 1, 5] | _ => []⟩
theorem S29_T {a0 a1 : Value} {h : GH} {K : Value → GH → Prop} (g : S29 a0 a1 h K) : T Try.prog 29 [a0, a1] h K :=
  T_of_gwp (A := A29) Try.func29 (c := bodyOf Try.f29) (by kernel_rfl) (by kernel_rfl) (by kernel_rfl) (by kernel_rfl) (by kernel_rfl) (Eq.mp (by kernel_rfl) g)

/-! ### pawl/pawllaw0.SpoilRetireds (30) -/
def S30 (a0 : Value) (h : GH) (K : Value → GH → Prop) : Prop :=
 Lfp (fun (s1 : Nat → Value) h2 again3 =>
 bnd (lnV (s1 0)) fun v4 =>
 bnd (binV .lss (s1 1) v4) fun v5 =>
 ifV v5 (
 bnd (isV 2 (s1 0) (s1 1)) fun v6 =>
 bnd (faV 1 v6) fun v7 =>
 bnd (ldV 1 false v7 h2) fun v8 =>
 bnd (binV .xor v8 (.int .i64 90)) fun v9 =>
 bnd (isV 2 (s1 0) (s1 1)) fun v10 =>
 bnd (faV 1 v10) fun v11 =>
 bnd (stV 1 v11 v9 h2) fun h12 =>
 bnd (binV .add (s1 1) (.int .i64 1)) fun v13 =>
 again3 (tup [(s1 0), v13]) h12) (
 K (.tuple #[]) h2)) (tup [a0, (.int .i64 0)]) h
def A30 : Ann := ⟨fun _ => ([], []), fun | 0 => [0, 2] | _ => []⟩
theorem S30_T {a0 : Value} {h : GH} {K : Value → GH → Prop} (g : S30 a0 h K) : T Try.prog 30 [a0] h K :=
  T_of_gwp (A := A30) Try.func30 (c := bodyOf Try.f30) (by kernel_rfl) (by kernel_rfl) (by kernel_rfl) (by kernel_rfl) (by kernel_rfl) (Eq.mp (by kernel_rfl) g)

/-! ### pawl/pawllaw0.SpoilInts (31) -/
def S31 (a0 : Value) (h : GH) (K : Value → GH → Prop) : Prop :=
 Lfp (fun (s1 : Nat → Value) h2 again3 =>
 bnd (lnV (s1 0)) fun v4 =>
 bnd (binV .lss (s1 1) v4) fun v5 =>
 ifV v5 (
 bnd (isV 1 (s1 0) (s1 1)) fun v6 =>
 bnd (ldV 1 false v6 h2) fun v7 =>
 bnd (binV .sub (.int .i64 (-9)) v7) fun v8 =>
 bnd (isV 1 (s1 0) (s1 1)) fun v9 =>
 bnd (stV 1 v9 v8 h2) fun h10 =>
 bnd (binV .add (s1 1) (.int .i64 1)) fun v11 =>
 again3 (tup [(s1 0), v11]) h10) (
 K (.tuple #[]) h2)) (tup [a0, (.int .i64 0)]) h
def A31 : Ann := ⟨fun _ => ([], []), fun | 0 => [0, 2] | _ => []⟩
theorem S31_T {a0 : Value} {h : GH} {K : Value → GH → Prop} (g : S31 a0 h K) : T Try.prog 31 [a0] h K :=
  T_of_gwp (A := A31) Try.func31 (c := bodyOf Try.f31) (by kernel_rfl) (by kernel_rfl) (by kernel_rfl) (by kernel_rfl) (by kernel_rfl) (Eq.mp (by kernel_rfl) g)

/-! ### pawl/pawllaw0.KeptRetireds (32) -/
def S32 (a0 a1 : Value) (h : GH) (K : Value → GH → Prop) : Prop :=
 bnd (lnV a0) fun v1 =>
 bnd (binV .add v1 (.int .i64 2)) fun v2 =>
 bnd (slV 2 a0 none (some v2)) fun v3 =>
 T Try.prog 28 [a0, a1] h fun v4 h5 =>
 ifV v4 (
 bnd (lnV a1) fun v6 =>
 bnd (isV 2 v3 v6) fun v7 =>
 bnd (ldV 2 true v7 h5) fun v8 =>
 bnd (fillV [(.int .i64 0), (.int .i64 0)] [(1, 1, (.int .i64 77777))]) fun c9 =>
 bnd (eqP Try.prog 10000 61 v8 (.agg c9.toArray)) fun b10 =>
 ifV (.bool b10) (
 bnd (lnV a1) fun v11 =>
 bnd (binV .add v11 (.int .i64 1)) fun v12 =>
 bnd (isV 2 v3 v12) fun v13 =>
 bnd (ldV 2 true v13 h5) fun v14 =>
 bnd (fillV [(.int .i64 0), (.int .i64 0)] [(1, 1, (.int .i64 77777))]) fun c15 =>
 bnd (eqP Try.prog 10000 61 v14 (.agg c15.toArray)) fun b16 =>
 K (.bool b16) h5) (
 K (.bool false) h5)) (
 K (.bool false) h5)
def A32 : Ann := ⟨fun _ => ([], []), fun _ => []⟩
theorem S32_T {a0 a1 : Value} {h : GH} {K : Value → GH → Prop} (g : S32 a0 a1 h K) : T Try.prog 32 [a0, a1] h K :=
  T_of_gwp (A := A32) Try.func32 (c := bodyOf Try.f32) (by kernel_rfl) (by kernel_rfl) (by kernel_rfl) (by kernel_rfl) (by kernel_rfl) (Eq.mp (by kernel_rfl) g)

/-! ### pawl/pawllaw12.awake (33) -/
def S33 (h : GH) (K : Value → GH → Prop) : Prop :=
 T Try.prog 24 [(.slice none 0 0), (.int .i64 3), (.int .i64 7)] h fun v1 h2 =>
 bnd (exV v1 0) fun v3 =>
 bnd (exV v1 1) fun v4 =>
 T Try.prog 24 [v3, (.int .i64 4), (.int .i64 9)] h2 fun v5 h6 =>
 bnd (exV v5 0) fun v7 =>
 bnd (exV v5 1) fun v8 =>
 T Try.prog 26 [v7, (.int .i64 10)] h6 fun v9 h10 =>
 bnd (exV v9 0) fun v11 =>
 bnd (exV v9 1) fun v12 =>
 bnd (exV v9 2) fun v13 =>
 T Try.prog 26 [v7, (.int .i64 (-1))] h10 fun v14 h15 =>
 bnd (exV v14 0) fun v16 =>
 bnd (exV v14 1) fun v17 =>
 bnd (exV v14 2) fun v18 =>
 T Try.prog 24 [v7, (.int .i64 12), (.int .i64 0)] h15 fun v19 h20 =>
 bnd (exV v19 0) fun v21 =>
 bnd (exV v19 1) fun v22 =>
 T Try.prog 16 [v4] h20 fun v23 h24 =>
 bnd (eqI v23 (.int .i64 0)) fun b25 =>
 ifV (.bool b25) (
 T Try.prog 16 [v8] h24 fun v26 h27 =>
 bnd (eqI v26 (.int .i64 0)) fun b28 =>
 ifV (.bool b28) (
 bsV 3 1 [(.int .i64 0)] [(0, 1, (.int .i64 3))] h27 fun v29 h30 =>
 T Try.prog 29 [v11, v29] h30 fun v31 h32 =>
 ifV v31 (
 bnd (fillV [(.int .i64 0), (.int .i64 0)] [(0, 1, (.int .i64 4)), (1, 1, (.int .i64 9))]) fun c33 =>
 bsV 61 1 [(.int .i64 0), (.int .i64 0)] [(0, 2, (.agg c33.toArray))] h32 fun v34 h35 =>
 T Try.prog 28 [v12, v34] h35 fun v36 h37 =>
 ifV v36 (
 T Try.prog 16 [v13] h37 fun v38 h39 =>
 bnd (eqI v38 (.int .i64 0)) fun b40 =>
 ifV (.bool b40) (
 T Try.prog 16 [v18] h39 fun v41 h42 =>
 bnd (eqI v41 (.int .i64 1200)) fun b43 =>
 ifV (.bool b43) (
 T Try.prog 16 [v22] h42 fun v44 h45 =>
 bnd (eqI v44 (.int .i64 1200)) fun b46 =>
 K (.bool b46) h45) (
 K (.bool false) h42)) (
 K (.bool false) h39)) (
 K (.bool false) h37)) (
 K (.bool false) h32)) (
 K (.bool false) h27)) (
 K (.bool false) h24)
def A33 : Ann := ⟨fun _ => ([], []), fun _ => []⟩
theorem S33_T {h : GH} {K : Value → GH → Prop} (g : S33 h K) : T Try.prog 33 [] h K :=
  T_of_gwp (A := A33) Try.func33 (c := bodyOf Try.f33) (by kernel_rfl) (by kernel_rfl) (by kernel_rfl) (by kernel_rfl) (by kernel_rfl) (Eq.mp (by kernel_rfl) g)

/-! ### pawl/pawllaw0.CopyTouchs (34) -/
def S34 (a0 : Value) (h : GH) (K : Value → GH → Prop) : Prop :=
 bsV 41 0 [] [] h fun v1 h2 =>
 apV 41 8 64 v1 a0 h2 fun v3 h4 =>
 K v3 h4
def A34 : Ann := ⟨fun _ => ([], []), fun _ => []⟩
theorem S34_T {a0 : Value} {h : GH} {K : Value → GH → Prop} (g : S34 a0 h K) : T Try.prog 34 [a0] h K :=
  T_of_gwp (A := A34) Try.func34 (c := bodyOf Try.f34) (by kernel_rfl) (by kernel_rfl) (by kernel_rfl) (by kernel_rfl) (by kernel_rfl) (Eq.mp (by kernel_rfl) g)

/-! ### pawl/word.Below (35) -/
def S35 (a0 a1 : Value) (h : GH) (K : Value → GH → Prop) : Prop :=
 bnd (binV .geq a0 (.int .i64 0)) fun v1 =>
 ifV v1 (
 bnd (binV .lss a0 a1) fun v2 =>
 K v2 h) (
 K (.bool false) h)
def A35 : Ann := ⟨fun _ => ([], []), fun _ => []⟩
theorem S35_T {a0 a1 : Value} {h : GH} {K : Value → GH → Prop} (g : S35 a0 a1 h K) : T Try.prog 35 [a0, a1] h K :=
  T_of_gwp (A := A35) Try.func35 (c := bodyOf Try.f35) (by kernel_rfl) (by kernel_rfl) (by kernel_rfl) (by kernel_rfl) (by kernel_rfl) (Eq.mp (by kernel_rfl) g)

/-! ### pawl/pawllaw0.SameTouchs (36) -/
def S36 (a0 a1 : Value) (h : GH) (K : Value → GH → Prop) : Prop :=
 bnd (lnV a0) fun v1 =>
 bnd (lnV a1) fun v2 =>
 bnd (eqI v1 v2) fun b3 =>
 ifV (.bool (!b3)) (
 K (.bool false) h) (
 Lfp (fun (s4 : Nat → Value) h5 again6 =>
 bnd (lnV (s4 0)) fun v7 =>
 bnd (binV .lss (s4 2) v7) fun v8 =>
 ifV v8 (
 bnd (isV 8 (s4 0) (s4 2)) fun v9 =>
 bnd (ldV 8 true v9 h5) fun v10 =>
 bnd (isV 8 (s4 1) (s4 2)) fun v11 =>
 bnd (ldV 8 true v11 h5) fun v12 =>
 bnd (eqP Try.prog 10000 41 v10 v12) fun b13 =>
 ifV (.bool (!b13)) (
 K (.bool false) h5) (
 bnd (binV .add (s4 2) (.int .i64 1)) fun v14 =>
 again6 (tup [(s4 0), (s4 1), v14]) h5)) (
 K (.bool true) h5)) (tup [a0, a1, (.int .i64 0)]) h)
def A36 : Ann := ⟨fun | 6 => ([0, 1, 2, 3, 4, 5, 6, 7, 8], [0, 0, 3, 7, 0, 0, 48, 112, 255]) | _ => ([], []), fun | 0 => [0, 1, 5] | _ => []⟩
theorem S36_T {a0 a1 : Value} {h : GH} {K : Value → GH → Prop} (g : S36 a0 a1 h K) : T Try.prog 36 [a0, a1] h K :=
  T_of_gwp (A := A36) Try.func36 (c := bodyOf Try.f36) (by kernel_rfl) (by kernel_rfl) (by kernel_rfl) (by kernel_rfl) (by kernel_rfl) (Eq.mp (by kernel_rfl) g)

/-! ### pawl/pawllaw0.CopyRetireds (37) -/
def S37 (a0 : Value) (h : GH) (K : Value → GH → Prop) : Prop :=
 bsV 61 0 [] [] h fun v1 h2 =>
 apV 61 2 16 v1 a0 h2 fun v3 h4 =>
 K v3 h4
def A37 : Ann := ⟨fun _ => ([], []), fun _ => []⟩
theorem S37_T {a0 : Value} {h : GH} {K : Value → GH → Prop} (g : S37 a0 h K) : T Try.prog 37 [a0] h K :=
  T_of_gwp (A := A37) Try.func37 (c := bodyOf Try.f37) (by kernel_rfl) (by kernel_rfl) (by kernel_rfl) (by kernel_rfl) (by kernel_rfl) (Eq.mp (by kernel_rfl) g)

/-! ### slices.ContainsFunc[[]pawl/api.Retired,pawl/api.Retired] (38) -/
def S38 (a0 a1 : Value) (h : GH) (K : Value → GH → Prop) : Prop :=
 T Try.prog 43 [a0, a1] h fun v1 h2 =>
 bnd (binV .geq v1 (.int .i64 0)) fun v3 =>
 K v3 h2
def A38 : Ann := ⟨fun _ => ([], []), fun _ => []⟩
theorem S38_T {a0 a1 : Value} {h : GH} {K : Value → GH → Prop} (g : S38 a0 a1 h K) : T Try.prog 38 [a0, a1] h K :=
  T_of_gwp (A := A38) Try.func38 (c := bodyOf Try.f38) (by kernel_rfl) (by kernel_rfl) (by kernel_rfl) (by kernel_rfl) (by kernel_rfl) (Eq.mp (by kernel_rfl) g)

/-! ### pawl/limbo.not (39) -/
def S39 (a0 : Value) (h : GH) (K : Value → GH → Prop) : Prop :=
 newV 61 (a0 : Value).cells.toList h fun v1 h2 =>
 bnd (faV 0 v1) fun v3 =>
 bnd (ldV 1 false v3 h2) fun v4 =>
 T Try.prog 35 [v4, (.int .i64 12)] h2 fun v5 h6 =>
 bnd (unV .not v5) fun v7 =>
 ifV v7 (
 K (.bool true) h6) (
 bnd (faV 1 v1) fun v8 =>
 bnd (ldV 1 false v8 h6) fun v9 =>
 T Try.prog 42 [v9] h6 fun v10 h11 =>
 bnd (unV .not v10) fun v12 =>
 K v12 h11)
def A39 : Ann := ⟨fun _ => ([], []), fun _ => []⟩
theorem S39_T {a0 : Value} {h : GH} {K : Value → GH → Prop} (g : S39 a0 h K) : T Try.prog 39 [a0] h K :=
  T_of_gwp (A := A39) Try.func39 (c := bodyOf Try.f39) (by kernel_rfl) (by kernel_rfl) (by kernel_rfl) (by kernel_rfl) (by kernel_rfl) (Eq.mp (by kernel_rfl) g)

/-! ### slices.Clone[[]pawl/api.Retired,pawl/api.Retired] (40) -/
def S40 (a0 : Value) (h : GH) (K : Value → GH → Prop) : Prop :=
 bnd (eqK .slice true a0 (.slice none 0 0)) fun b1 =>
 ifV (.bool b1) (
 K (.slice none 0 0) h) (
 bsV 61 0 [] [] h fun v2 h3 =>
 apV 61 2 16 v2 a0 h3 fun v4 h5 =>
 K v4 h5)
def A40 : Ann := ⟨fun _ => ([], []), fun _ => []⟩
theorem S40_T {a0 : Value} {h : GH} {K : Value → GH → Prop} (g : S40 a0 h K) : T Try.prog 40 [a0] h K :=
  T_of_gwp (A := A40) Try.func40 (c := bodyOf Try.f40) (by kernel_rfl) (by kernel_rfl) (by kernel_rfl) (by kernel_rfl) (by kernel_rfl) (Eq.mp (by kernel_rfl) g)

/-! ### pawl/pawlref10.limboMay (41) -/
def S41 (a0 : Value) (h : GH) (K : Value → GH → Prop) : Prop :=
 Lfp (fun (s1 : Nat → Value) h2 again3 =>
 bnd (lnV (s1 0)) fun v4 =>
 bnd (binV .lss (s1 1) v4) fun v5 =>
 ifV v5 (
 bnd (isV 2 (s1 0) (s1 1)) fun v6 =>
 bnd (faV 0 v6) fun v7 =>
 bnd (ldV 1 false v7 h2) fun v8 =>
 bnd (binV .lss v8 (.int .i64 0)) fun v9 =>
 ifV v9 (
 K (.bool false) h2) (
 bnd (isV 2 (s1 0) (s1 1)) fun v10 =>
 bnd (faV 0 v10) fun v11 =>
 bnd (ldV 1 false v11 h2) fun v12 =>
 bnd (binV .geq v12 (.int .i64 12)) fun v13 =>
 ifV v13 (
 K (.bool false) h2) (
 bnd (isV 2 (s1 0) (s1 1)) fun v14 =>
 bnd (faV 1 v14) fun v15 =>
 bnd (ldV 1 false v15 h2) fun v16 =>
 bnd (binV .lss v16 (.int .i64 0)) fun v17 =>
 ifV v17 (
 K (.bool false) h2) (
 bnd (isV 2 (s1 0) (s1 1)) fun v18 =>
 bnd (faV 1 v18) fun v19 =>
 bnd (ldV 1 false v19 h2) fun v20 =>
 bnd (binV .gtr v20 (.int .i64 1073741823)) fun v21 =>
 ifV v21 (
 K (.bool false) h2) (
 bnd (binV .add (s1 1) (.int .i64 1)) fun v22 =>
 again3 (tup [(s1 0), v22]) h2))))) (
 K (.bool true) h2)) (tup [a0, (.int .i64 0)]) h
def A41 : Ann := ⟨fun _ => ([], []), fun | 0 => [0, 3] | _ => []⟩
theorem S41_T {a0 : Value} {h : GH} {K : Value → GH → Prop} (g : S41 a0 h K) : T Try.prog 41 [a0] h K :=
  T_of_gwp (A := A41) Try.func41 (c := bodyOf Try.f41) (by kernel_rfl) (by kernel_rfl) (by kernel_rfl) (by kernel_rfl) (by kernel_rfl) (Eq.mp (by kernel_rfl) g)

/-! ### pawl/limbo.epochMay (42) -/
def S42 (a0 : Value) (h : GH) (K : Value → GH → Prop) : Prop :=
 T Try.prog 35 [a0, (.int .i64 1073741824)] h fun v1 h2 =>
 K v1 h2
def A42 : Ann := ⟨fun _ => ([], []), fun _ => []⟩
theorem S42_T {a0 : Value} {h : GH} {K : Value → GH → Prop} (g : S42 a0 h K) : T Try.prog 42 [a0] h K :=
  T_of_gwp (A := A42) Try.func42 (c := bodyOf Try.f42) (by kernel_rfl) (by kernel_rfl) (by kernel_rfl) (by kernel_rfl) (by kernel_rfl) (Eq.mp (by kernel_rfl) g)

/-! ### slices.IndexFunc[[]pawl/api.Retired,pawl/api.Retired] (43) -/
def S43 (a0 a1 : Value) (h : GH) (K : Value → GH → Prop) : Prop :=
 bnd (lnV a0) fun v1 =>
 Lfp (fun (s2 : Nat → Value) h3 again4 =>
 bnd (binV .lss (s2 3) (s2 2)) fun v5 =>
 ifV v5 (
 bnd (isV 2 (s2 0) (s2 3)) fun v6 =>
 bnd (ldV 2 true v6 h3) fun v7 =>
 callV Try.prog (s2 1) [v7] h3 fun v8 h9 =>
 ifV v8 (
 K (s2 3) h9) (
 bnd (binV .add (s2 3) (.int .i64 1)) fun v10 =>
 again4 (tup [(s2 0), (s2 1), (s2 2), v10]) h9)) (
 K (.int .i64 (-1)) h3)) (tup [a0, a1, v1, (.int .i64 0)]) h
def A43 : Ann := ⟨fun _ => ([], []), fun | 0 => [0, 1, 7, 8] | _ => []⟩
theorem S43_T {a0 a1 : Value} {h : GH} {K : Value → GH → Prop} (g : S43 a0 a1 h K) : T Try.prog 43 [a0, a1] h K :=
  T_of_gwp (A := A43) Try.func43 (c := bodyOf Try.f43) (by kernel_rfl) (by kernel_rfl) (by kernel_rfl) (by kernel_rfl) (by kernel_rfl) (Eq.mp (by kernel_rfl) g)
end Go.Proofs.Ytfnphfegfmhokaa
