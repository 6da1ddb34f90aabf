/- The functions of the program that this seat reaches, each in a shallow form over ghost heaps, with the kernel's word that it is what its loaded code computes. Nothing here is a statement on the program. Written by a program of this session. -/
import Derived.Test.YtkcgphbgbibhfaaG14
import Derived.Test.YtkcgphbgbibhfaaProg
import Derived.KernelRfl
namespace Go.Proofs.Ytkcgphbgbibhfaa
open Go GW Go.Proofs
set_option linter.unusedVariables false
set_option maxRecDepth 100000

/-! ### pawl/pawllaw25.Tallies (3) -/
def S3_j1 (x6 x8 : Value) (h : GH) (K : Value → GH → Prop)  : Prop :=
 Lfp (fun (s1 : Nat → Value) h2 again3 =>
 bnd (lnV (s1 0)) fun v4 =>
 bnd (binV .lss (s1 2) v4) fun v5 =>
 ifV v5 (
 bnd (isV 3 (s1 0) (s1 2)) fun v6 =>
 bnd (ldV 3 true v6 h2) fun v7 =>
 bnd (isV 3 (s1 1) (s1 2)) fun v8 =>
 bnd (ldV 3 true v8 h2) fun v9 =>
 bnd (eqP Try.prog 10000 35 v7 v9) fun b10 =>
 ifV (.bool (!b10)) (
 K (.bool false) h2) (
 bnd (binV .add (s1 2) (.int .i64 1)) fun v11 =>
 again3 (tup [(s1 0), (s1 1), v11]) h2)) (
 T Try.prog 11 [] h2 fun v12 h13 =>
 K v12 h13)) (tup [x6, x8, (.int .i64 0)]) h
def S3 (a0 a1 : Value) (h : GH) (K : Value → GH → Prop) : Prop :=
 newV 24 (a0 : Value).cells.toList h fun v1 h2 =>
 T Try.prog 6 [a1] h2 fun v3 h4 =>
 bnd (ldV 3 true v1 h4) fun v5 =>
 T Try.prog 7 [v5, v3] h4 fun v6 h7 =>
 bnd (exV v6 0) fun v8 =>
 bnd (exV v6 1) fun v9 =>
 bnd (ldV 3 true v1 h7) fun v10 =>
 T Try.prog 8 [v10, a1] h7 fun v11 h12 =>
 bnd (exV v11 0) fun v13 =>
 bnd (exV v11 1) fun v14 =>
 bnd (lnV v8) fun v15 =>
 bnd (lnV v13) fun v16 =>
 bnd (eqI v15 v16) fun b17 =>
 ifV (.bool (!b17)) (
 K (.bool false) h12) (
 T Try.prog 9 [v9] h12 fun v18 h19 =>
 bnd (eqI v18 v14) fun b20 =>
 ifV (.bool (!b20)) (
 K (.bool false) h19) (
 T Try.prog 10 [v3, a1] h19 fun v21 h22 =>
 bnd (unV .not v21) fun v23 =>
 ifV v23 (
 K (.bool false) h22) (
 S3_j1 v8 v13 h22 K )))
def A3 : Ann := ⟨fun | 9 => ([0, 1, 2, 3, 4, 5, 6, 7, 8], [0, 0, 3, 7, 0, 0, 48, 112, 255]) | _ => ([], []), fun | 0 => [6, 8, 10] | _ => []⟩
theorem S3_T {a0 a1 : Value} {h : GH} {K : Value → GH → Prop} (g : S3 a0 a1 h K) : T Try.prog 3 [a0, a1] h K :=
  T_of_gwp (A := A3) Try.func3 (c := bodyOf Try.f3) (by kernel_rfl) (by kernel_rfl) (by kernel_rfl) (by kernel_rfl) (by kernel_rfl) (Eq.mp (by kernel_rfl) g)

/-! ### pawl/pawllaw25.TallySums (4) -/
def S4 (a0 a1 : Value) (h : GH) (K : Value → GH → Prop) : Prop :=
 newV 24 (a0 : Value).cells.toList h fun v1 h2 =>
 T Try.prog 11 [] h2 fun v3 h4 =>
 bnd (unV .not v3) fun v5 =>
 ifV v5 (
 K (.bool false) h4) (
 bnd (ldV 3 true v1 h4) fun v6 =>
 T Try.prog 7 [v6, a1] h4 fun v7 h8 =>
 bnd (exV v7 0) fun v9 =>
 bnd (exV v7 1) fun v10 =>
 T Try.prog 9 [v10] h8 fun v11 h12 =>
 bnd (eqI v11 (.int .i64 0)) fun b13 =>
 ifV (.bool (!b13)) (
 bnd (lnV v9) fun v14 =>
 bnd (eqI v14 (.int .i64 0)) fun b15 =>
 K (.bool b15) h12) (
 Lfp (fun (s16 : Nat → Value) h17 again18 =>
 bnd (lnV (s16 2)) fun v19 =>
 bnd (binV .lss (s16 5) v19) fun v20 =>
 ifV v20 (
 bnd (isV 3 (s16 2) (s16 5)) fun v21 =>
 bnd (iaV 3 1 v21 (.int .i64 0)) fun v22 =>
 bnd (ldV 1 false v22 h17) fun v23 =>
 bnd (binV .add (s16 3) v23) fun v24 =>
 bnd (isV 3 (s16 2) (s16 5)) fun v25 =>
 bnd (iaV 3 1 v25 (.int .i64 1)) fun v26 =>
 bnd (ldV 1 false v26 h17) fun v27 =>
 bnd (binV .add v24 v27) fun v28 =>
 bnd (isV 3 (s16 2) (s16 5)) fun v29 =>
 bnd (iaV 3 1 v29 (.int .i64 2)) fun v30 =>
 bnd (ldV 1 false v30 h17) fun v31 =>
 bnd (binV .add v28 v31) fun v32 =>
 bnd (binV .add (s16 5) (.int .i64 1)) fun v33 =>
 again18 (tup [(s16 0), (s16 1), (s16 2), v32, (s16 4), v33]) h17) (
 Lfp (fun (s34 : Nat → Value) h35 again36 =>
 bnd (lnV (s34 0)) fun v37 =>
 bnd (binV .lss (s34 5) v37) fun v38 =>
 ifV v38 (
 bnd (isV 8 (s34 0) (s34 5)) fun v39 =>
 bnd (faV 4 v39) fun v40 =>
 bnd (ldV 1 false v40 h35) fun v41 =>
 bnd (binV .geq v41 (.int .i64 0)) fun v42 =>
 ifV v42 (
 bnd (binV .add (s34 4) (.int .i64 1)) fun v43 =>
 bnd (binV .add (s34 5) (.int .i64 1)) fun v44 =>
 again36 (tup [(s34 0), (s34 1), (s34 2), (s34 3), v43, v44]) h35) (
 bnd (binV .add (s34 5) (.int .i64 1)) fun v45 =>
 again36 (tup [(s34 0), (s34 1), (s34 2), (s34 3), (s34 4), v45]) h35)) (
 bnd (eqI (s34 3) (s34 4)) fun b46 =>
 ifV (.bool b46) (
 bnd (lnV (s34 2)) fun v47 =>
 bnd (faV 0 (s34 1)) fun v48 =>
 bnd (ldV 1 false v48 h35) fun v49 =>
 bnd (lnV v49) fun v50 =>
 bnd (eqI v47 v50) fun b51 =>
 K (.bool b51) h35) (
 K (.bool false) h35))) (tup [(s16 0), (s16 1), (s16 2), (s16 3), (s16 4), (.int .i64 0)]) h17)) (tup [a1, v1, v9, (.int .i64 0), (.int .i64 0), (.int .i64 0)]) h12))
def A4 : Ann := ⟨fun | 10 => ([0, 1, 2, 3, 4, 5, 6, 7, 8, 9, 10, 11, 12, 13, 14, 15, 16, 17, 18, 19], [0, 0, 0, 6, 14, 30, 63, 0, 0, 384, 896, 1920, 4095, 0, 0, 24576, 57344, 122880, 262143, 524287]) | _ => ([], []), fun | 0 => [1, 2, 5, 7, 8, 9] | 2 => [1, 2, 5, 7, 8, 10] | _ => []⟩
theorem S4_T {a0 a1 : Value} {h : GH} {K : Value → GH → Prop} (g : S4 a0 a1 h K) : T Try.prog 4 [a0, a1] h K :=
  T_of_gwp (A := A4) Try.func4 (c := bodyOf Try.f4) (by kernel_rfl) (by kernel_rfl) (by kernel_rfl) (by kernel_rfl) (by kernel_rfl) (Eq.mp (by kernel_rfl) g)

/-! ### pawl/pawllaw25.TallyForms (5) -/
def S5_j1 (x6 x7 x8 x9 : Value) (h : GH) (K : Value → GH → Prop)  : Prop :=
 bnd (ldV 3 true x6 h) fun v1 =>
 bnd (ldV 8 true x7 h) fun v2 =>
 bsV 40 1 [(.int .i64 0), (.int .i64 0), (.int .i64 0), (.int .i64 0), (.int .i64 0), (.int .i64 0), (.int .i64 0), (.slice none 0 0)] [(0, 8, v2)] h fun v3 h4 =>
 T Try.prog 7 [v1, v3] h4 fun v5 h6 =>
 bnd (exV v5 0) fun v7 =>
 bnd (exV v5 1) fun v8 =>
 T Try.prog 9 [x9] h6 fun v9 h10 =>
 bnd (eqI v9 (.int .i64 0)) fun b11 =>
 ifV (.bool b11) (
 bnd (lnV x8) fun v12 =>
 bnd (eqI v12 (.int .i64 2)) fun b13 =>
 ifV (.bool b13) (
 bnd (isV 3 x8 (.int .i64 1)) fun v14 =>
 bnd (ldV 3 true v14 h10) fun v15 =>
 bnd (fillV [(.int .i64 0), (.int .i64 0), (.int .i64 0)] [(0, 1, (.int .i64 2))]) fun c16 =>
 bnd (eqP Try.prog 10000 35 v15 (.agg c16.toArray)) fun b17 =>
 ifV (.bool b17) (
 bnd (lnV v7) fun v18 =>
 bnd (eqI v18 (.int .i64 0)) fun b19 =>
 ifV (.bool b19) (
 T Try.prog 9 [v8] h10 fun v20 h21 =>
 bnd (eqI v20 (.int .i64 2500)) fun b22 =>
 K (.bool b22) h21) (
 K (.bool false) h10)) (
 K (.bool false) h10)) (
 K (.bool false) h10)) (
 K (.bool false) h10)
def S5 (a0 a1 : Value) (h : GH) (K : Value → GH → Prop) : Prop :=
 T Try.prog 11 [] h fun v1 h2 =>
 bnd (unV .not v1) fun v3 =>
 ifV v3 (
 K (.bool false) h2) (
 bnd (binV .and a1 (.int .i64 1023)) fun v4 =>
 bnd (binV .add (.int .i64 1) v4) fun v5 =>
 bsV 45 2 [(.slice none 0 0), (.slice none 0 0)] [(0, 1, (.slice none 0 0)), (1, 1, (.slice none 0 0))] h2 fun v6 h7 =>
 bnd (fillV [(.slice none 0 0), (.int .i64 0), (.bool false)] [(0, 1, v6), (1, 1, (.int .i64 1))]) fun c8 =>
 newV 24 [(.slice none 0 0), (.int .i64 0), (.bool false)] h7 fun v9 h10 =>
 bnd (stV 3 v9 (.agg c8.toArray) h10) fun h11 =>
 bnd (fillV [(.int .i64 0), (.int .i64 0), (.int .i64 0), (.int .i64 0), (.int .i64 0), (.int .i64 0), (.int .i64 0), (.slice none 0 0)] [(0, 1, (.int .i64 1)), (4, 1, (.int .i64 3))]) fun c12 =>
 newV 40 [(.int .i64 0), (.int .i64 0), (.int .i64 0), (.int .i64 0), (.int .i64 0), (.int .i64 0), (.int .i64 0), (.slice none 0 0)] h11 fun v13 h14 =>
 bnd (stV 8 v13 (.agg c12.toArray) h14) fun h15 =>
 bnd (ldV 3 true v9 h15) fun v16 =>
 bnd (ldV 8 true v13 h15) fun v17 =>
 bnd (ldV 8 true v13 h15) fun v18 =>
 bsV 40 2 [(.int .i64 0), (.int .i64 0), (.int .i64 0), (.int .i64 0), (.int .i64 0), (.int .i64 0), (.int .i64 0), (.slice none 0 0), (.int .i64 0), (.int .i64 0), (.int .i64 0), (.int .i64 0), (.int .i64 0), (.int .i64 0), (.int .i64 0), (.slice none 0 0)] [(0, 8, v17), (8, 8, v18)] h15 fun v19 h20 =>
 T Try.prog 7 [v16, v19] h20 fun v21 h22 =>
 bnd (exV v21 0) fun v23 =>
 bnd (exV v21 1) fun v24 =>
 bnd (cvV .u64 a0) fun v25 =>
 bnd (binV .rem v25 (.int .u64 6)) fun v26 =>
 bnd (eqI v26 (.int .u64 0)) fun b27 =>
 ifV (.bool b27) (
 bnd (binV .add (.int .i64 1) v5) fun v28 =>
 bnd (faV 0 v13) fun v29 =>
 bnd (stV 1 v29 v28 h22) fun h30 =>
 S5_j1 v9 v13 v23 v24 h30 K ) (
 bnd (eqI v26 (.int .u64 1)) fun b31 =>
 ifV (.bool b31) (
 bnd (unV .neg v5) fun v32 =>
 bnd (faV 0 v13) fun v33 =>
 bnd (stV 1 v33 v32 h22) fun h34 =>
 S5_j1 v9 v13 v23 v24 h34 K ) (
 bnd (eqI v26 (.int .u64 2)) fun b35 =>
 ifV (.bool b35) (
 bnd (binV .add (.int .i64 2) v5) fun v36 =>
 bnd (faV 5 v13) fun v37 =>
 bnd (stV 1 v37 v36 h22) fun h38 =>
 S5_j1 v9 v13 v23 v24 h38 K ) (
 bnd (eqI v26 (.int .u64 3)) fun b39 =>
 ifV (.bool b39) (
 bnd (unV .neg v5) fun v40 =>
 bnd (faV 5 v13) fun v41 =>
 bnd (stV 1 v41 v40 h22) fun h42 =>
 S5_j1 v9 v13 v23 v24 h42 K ) (
 bnd (eqI v26 (.int .u64 4)) fun b43 =>
 ifV (.bool b43) (
 bnd (binV .sub (.int .i64 1) v5) fun v44 =>
 bnd (faV 1 v9) fun v45 =>
 bnd (stV 1 v45 v44 h22) fun h46 =>
 S5_j1 v9 v13 v23 v24 h46 K ) (
 bnd (faV 0 v9) fun v47 =>
 bnd (stV 1 v47 (.slice none 0 0) h22) fun h48 =>
 S5_j1 v9 v13 v23 v24 h48 K ))))))
def A5 : Ann := ⟨fun _ => ([], []), fun _ => []⟩
theorem S5_T {a0 a1 : Value} {h : GH} {K : Value → GH → Prop} (g : S5 a0 a1 h K) : T Try.prog 5 [a0, a1] h K :=
  T_of_gwp (A := A5) Try.func5 (c := bodyOf Try.f5) (by kernel_rfl) (by kernel_rfl) (by kernel_rfl) (by kernel_rfl) (by kernel_rfl) (Eq.mp (by kernel_rfl) g)

/-! ### pawl/pawllaw0.CopyEvents (6) -/
def S6 (a0 : Value) (h : GH) (K : Value → GH → Prop) : Prop :=
 Lfp (fun (s1 : Nat → Value) h2 again3 =>
 bnd (lnV (s1 0)) fun v4 =>
 bnd (binV .lss (s1 2) v4) fun v5 =>
 ifV v5 (
 bnd (isV 8 (s1 0) (s1 2)) fun v6 =>
 bnd (ldV 8 true v6 h2) fun v7 =>
 newV 40 [(.int .i64 0), (.int .i64 0), (.int .i64 0), (.int .i64 0), (.int .i64 0), (.int .i64 0), (.int .i64 0), (.slice none 0 0)] h2 fun v8 h9 =>
 bnd (stV 8 v8 v7 h9) fun h10 =>
 bsV 57 0 [] [] h10 fun v11 h12 =>
 bnd (faV 7 v8) fun v13 =>
 bnd (ldV 1 false v13 h12) fun v14 =>
 apV 57 2 16 v11 v14 h12 fun v15 h16 =>
 bnd (faV 7 v8) fun v17 =>
 bnd (stV 1 v17 v15 h16) fun h18 =>
 bnd (ldV 8 true v8 h18) fun v19 =>
 bsV 40 1 [(.int .i64 0), (.int .i64 0), (.int .i64 0), (.int .i64 0), (.int .i64 0), (.int .i64 0), (.int .i64 0), (.slice none 0 0)] [(0, 8, v19)] h18 fun v20 h21 =>
 apV 40 8 80 (s1 1) v20 h21 fun v22 h23 =>
 bnd (binV .add (s1 2) (.int .i64 1)) fun v24 =>
 again3 (tup [(s1 0), v22, v24]) h23) (
 K (s1 1) h2)) (tup [a0, (.slice none 0 0), (.int .i64 0)]) h
def A6 : Ann := ⟨fun _ => ([], []), fun | 0 => [0, 3, 4] | _ => []⟩
theorem S6_T {a0 : Value} {h : GH} {K : Value → GH → Prop} (g : S6 a0 h K) : T Try.prog 6 [a0] h K :=
  T_of_gwp (A := A6) Try.func6 (c := bodyOf Try.f6) (by kernel_rfl) (by kernel_rfl) (by kernel_rfl) (by kernel_rfl) (by kernel_rfl) (Eq.mp (by kernel_rfl) g)

/-! ### pawl/tally.Count (7) -/
def S7_j1 (s13 : Nat → Value) (x6 x8 x16 x17 x18 : Value) (h : GH) (K : Value → GH → Prop) (again15 : (Nat → Value) → GH → Prop) : Prop :=
 bnd (faV 4 x8) fun v1 =>
 bnd (ldV 1 false v1 h) fun v2 =>
 bnd (binV .geq v2 (.int .i64 0)) fun v3 =>
 ifV v3 (
 bnd (faV 0 x8) fun v4 =>
 bnd (ldV 1 false v4 h) fun v5 =>
 bnd (faV 5 x8) fun v6 =>
 bnd (ldV 1 false v6 h) fun v7 =>
 bnd (isV 3 x6 v5) fun v8 =>
 bnd (iaV 3 1 v8 v7) fun v9 =>
 bnd (ldV 1 false v9 h) fun v10 =>
 bnd (binV .add v10 (.int .i64 1)) fun v11 =>
 bnd (isV 3 x6 v5) fun v12 =>
 bnd (iaV 3 1 v12 v7) fun v13 =>
 bnd (stV 1 v13 v11 h) fun h14 =>
 bnd (binV .add x18 (.int .i64 1)) fun v15 =>
 again15 (tup [x6, x16, x17, v15]) h14) (
 bnd (binV .add x18 (.int .i64 1)) fun v16 =>
 again15 (tup [x6, x16, x17, v16]) h)
def S7 (a0 a1 : Value) (h : GH) (K : Value → GH → Prop) : Prop :=
 newV 24 (a0 : Value).cells.toList h fun v1 h2 =>
 bnd (ldV 3 true v1 h2) fun v3 =>
 T Try.prog 12 [v3] h2 fun v4 h5 =>
 bnd (unV .not v4) fun v6 =>
 ifV v6 (
 K (.tuple #[(.slice none 0 0), (.int .i64 2500)]) h5) (
 bnd (faV 0 v1) fun v7 =>
 bnd (ldV 1 false v7 h5) fun v8 =>
 bnd (lnV v8) fun v9 =>
 mkV 35 24 [(.int .i64 0), (.int .i64 0), (.int .i64 0)] v9 v9 h5 fun v10 h11 =>
 bnd (lnV a1) fun v12 =>
 Lfp (fun (s13 : Nat → Value) h14 again15 =>
 bnd (binV .lss (s13 3) (s13 2)) fun v16 =>
 ifV v16 (
 bnd (isV 8 (s13 1) (s13 3)) fun v17 =>
 bnd (ldV 8 true v17 h14) fun v18 =>
 newV 40 [(.int .i64 0), (.int .i64 0), (.int .i64 0), (.int .i64 0), (.int .i64 0), (.int .i64 0), (.int .i64 0), (.slice none 0 0)] h14 fun v19 h20 =>
 bnd (stV 8 v19 v18 h20) fun h21 =>
 bnd (faV 0 v19) fun v22 =>
 bnd (ldV 1 false v22 h21) fun v23 =>
 bnd (lnV (s13 0)) fun v24 =>
 T Try.prog 13 [v23, v24] h21 fun v25 h26 =>
 bnd (unV .not v25) fun v27 =>
 ifV v27 (
 K (.tuple #[(.slice none 0 0), (.int .i64 2500)]) h26) (
 bnd (faV 5 v19) fun v28 =>
 bnd (ldV 1 false v28 h26) fun v29 =>
 T Try.prog 13 [v29, (.int .i64 3)] h26 fun v30 h31 =>
 bnd (unV .not v30) fun v32 =>
 ifV v32 (
 K (.tuple #[(.slice none 0 0), (.int .i64 2500)]) h31) (
 S7_j1 s13 (s13 0) v19 (s13 1) (s13 2) (s13 3) h31 K again15))) (
 K (.tuple #[(s13 0), (.int .i64 0)]) h14)) (tup [v10, a1, v12, (.int .i64 0)]) h11)
def A7 : Ann := ⟨fun | 10 => ([0, 1, 2, 3, 4, 5, 6, 7, 8, 9, 10, 11], [0, 0, 2, 0, 8, 7, 63, 127, 255, 7, 1023, 2047]) | _ => ([], []), fun | 0 => [6, 16, 17, 18] | _ => []⟩
theorem S7_T {a0 a1 : Value} {h : GH} {K : Value → GH → Prop} (g : S7 a0 a1 h K) : T Try.prog 7 [a0, a1] h K :=
  T_of_gwp (A := A7) Try.func7 (c := bodyOf Try.f7) (by kernel_rfl) (by kernel_rfl) (by kernel_rfl) (by kernel_rfl) (by kernel_rfl) (Eq.mp (by kernel_rfl) g)

/-! ### pawl/pawlref20.Count (8) -/
def S8_j1 (s12 : Nat → Value) (x1 x6 x7 x8 : Value) (h : GH) (K : Value → GH → Prop) (again14 : (Nat → Value) → GH → Prop) : Prop :=
 bnd (faV 4 x8) fun v1 =>
 bnd (ldV 1 false v1 h) fun v2 =>
 bnd (binV .geq v2 (.int .i64 0)) fun v3 =>
 ifV v3 (
 bnd (faV 0 x8) fun v4 =>
 bnd (ldV 1 false v4 h) fun v5 =>
 bnd (isV 3 x6 v5) fun v6 =>
 bnd (ldV 3 true v6 h) fun v7 =>
 newV 35 [(.int .i64 0), (.int .i64 0), (.int .i64 0)] h fun v8 h9 =>
 bnd (stV 3 v8 v7 h9) fun h10 =>
 bnd (faV 5 x8) fun v11 =>
 bnd (ldV 1 false v11 h10) fun v12 =>
 bnd (faV 5 x8) fun v13 =>
 bnd (ldV 1 false v13 h10) fun v14 =>
 bnd (iaV 3 1 v8 v14) fun v15 =>
 bnd (ldV 1 false v15 h10) fun v16 =>
 bnd (binV .add v16 (.int .i64 1)) fun v17 =>
 bnd (iaV 3 1 v8 v12) fun v18 =>
 bnd (stV 1 v18 v17 h10) fun h19 =>
 bnd (faV 0 x8) fun v20 =>
 bnd (ldV 1 false v20 h19) fun v21 =>
 bnd (ldV 3 true v8 h19) fun v22 =>
 bnd (isV 3 x6 v21) fun v23 =>
 bnd (stV 3 v23 v22 h19) fun h24 =>
 bnd (binV .add x7 (.int .i64 1)) fun v25 =>
 again14 (tup [x1, x6, v25]) h24) (
 bnd (binV .add x7 (.int .i64 1)) fun v26 =>
 again14 (tup [x1, x6, v26]) h)
def S8 (a0 a1 : Value) (h : GH) (K : Value → GH → Prop) : Prop :=
 newV 24 (a0 : Value).cells.toList h fun v1 h2 =>
 bnd (ldV 3 true v1 h2) fun v3 =>
 T Try.prog 14 [v3] h2 fun v4 h5 =>
 bnd (unV .not v4) fun v6 =>
 ifV v6 (
 K (.tuple #[(.slice none 0 0), (.int .i64 2500)]) h5) (
 bnd (faV 0 v1) fun v7 =>
 bnd (ldV 1 false v7 h5) fun v8 =>
 bnd (lnV v8) fun v9 =>
 mkV 35 24 [(.int .i64 0), (.int .i64 0), (.int .i64 0)] v9 v9 h5 fun v10 h11 =>
 Lfp (fun (s12 : Nat → Value) h13 again14 =>
 bnd (lnV (s12 0)) fun v15 =>
 bnd (binV .lss (s12 2) v15) fun v16 =>
 ifV v16 (
 bnd (isV 8 (s12 0) (s12 2)) fun v17 =>
 bnd (ldV 8 true v17 h13) fun v18 =>
 newV 40 [(.int .i64 0), (.int .i64 0), (.int .i64 0), (.int .i64 0), (.int .i64 0), (.int .i64 0), (.int .i64 0), (.slice none 0 0)] h13 fun v19 h20 =>
 bnd (stV 8 v19 v18 h20) fun h21 =>
 bnd (faV 0 v19) fun v22 =>
 bnd (ldV 1 false v22 h21) fun v23 =>
 bnd (binV .lss v23 (.int .i64 0)) fun v24 =>
 ifV v24 (
 K (.tuple #[(.slice none 0 0), (.int .i64 2500)]) h21) (
 bnd (faV 0 v19) fun v25 =>
 bnd (ldV 1 false v25 h21) fun v26 =>
 bnd (lnV (s12 1)) fun v27 =>
 bnd (binV .geq v26 v27) fun v28 =>
 ifV v28 (
 K (.tuple #[(.slice none 0 0), (.int .i64 2500)]) h21) (
 bnd (faV 5 v19) fun v29 =>
 bnd (ldV 1 false v29 h21) fun v30 =>
 bnd (binV .lss v30 (.int .i64 0)) fun v31 =>
 ifV v31 (
 K (.tuple #[(.slice none 0 0), (.int .i64 2500)]) h21) (
 bnd (faV 5 v19) fun v32 =>
 bnd (ldV 1 false v32 h21) fun v33 =>
 bnd (binV .gtr v33 (.int .i64 2)) fun v34 =>
 ifV v34 (
 K (.tuple #[(.slice none 0 0), (.int .i64 2500)]) h21) (
 S8_j1 s12 (s12 0) (s12 1) (s12 2) v19 h21 K again14))))) (
 K (.tuple #[(s12 1), (.int .i64 0)]) h13)) (tup [a1, v10, (.int .i64 0)]) h11)
def A8 : Ann := ⟨fun | 12 => ([0, 1, 2, 3, 4, 5, 6, 7, 8], [0, 1, 0, 4, 12, 28, 60, 127, 255]) | _ => ([], []), fun | 0 => [1, 6, 7] | _ => []⟩
theorem S8_T {a0 a1 : Value} {h : GH} {K : Value → GH → Prop} (g : S8 a0 a1 h K) : T Try.prog 8 [a0, a1] h K :=
  T_of_gwp (A := A8) Try.func8 (c := bodyOf Try.f8) (by kernel_rfl) (by kernel_rfl) (by kernel_rfl) (by kernel_rfl) (by kernel_rfl) (Eq.mp (by kernel_rfl) g)

/-! ### pawl/pawllaw0.Num (9) -/
def S9 (a0 : Value) (h : GH) (K : Value → GH → Prop) : Prop :=
 K a0 h
def A9 : Ann := ⟨fun _ => ([], []), fun _ => []⟩
theorem S9_T {a0 : Value} {h : GH} {K : Value → GH → Prop} (g : S9 a0 h K) : T Try.prog 9 [a0] h K :=
  T_of_gwp (A := A9) Try.func9 (c := bodyOf Try.f9) (by kernel_rfl) (by kernel_rfl) (by kernel_rfl) (by kernel_rfl) (by kernel_rfl) (Eq.mp (by kernel_rfl) g)

/-! ### pawl/pawllaw0.SameEvents (10) -/
def S10 (a0 a1 : Value) (h : GH) (K : Value → GH → Prop) : Prop :=
 bnd (lnV a0) fun v1 =>
 bnd (lnV a1) fun v2 =>
 bnd (eqI v1 v2) fun b3 =>
 ifV (.bool (!b3)) (
 K (.bool false) h) (
 Lfp (fun (s4 : Nat → Value) h5 again6 =>
 bnd (lnV (s4 0)) fun v7 =>
 bnd (binV .lss (s4 2) v7) fun v8 =>
 ifV v8 (
 bnd (isV 8 (s4 0) (s4 2)) fun v9 =>
 bnd (ldV 8 true v9 h5) fun v10 =>
 bnd (isV 8 (s4 1) (s4 2)) fun v11 =>
 bnd (ldV 8 true v11 h5) fun v12 =>
 T Try.prog 15 [v10, v12] h5 fun v13 h14 =>
 bnd (unV .not v13) fun v15 =>
 ifV v15 (
 K (.bool false) h14) (
 bnd (binV .add (s4 2) (.int .i64 1)) fun v16 =>
 again6 (tup [(s4 0), (s4 1), v16]) h14)) (
 K (.bool true) h5)) (tup [a0, a1, (.int .i64 0)]) h)
def A10 : Ann := ⟨fun | 6 => ([0, 1, 2, 3, 4, 5, 6, 7, 8, 9], [0, 0, 3, 7, 0, 0, 48, 112, 255, 511]) | _ => ([], []), fun | 0 => [0, 1, 5] | _ => []⟩
theorem S10_T {a0 a1 : Value} {h : GH} {K : Value → GH → Prop} (g : S10 a0 a1 h K) : T Try.prog 10 [a0, a1] h K :=
  T_of_gwp (A := A10) Try.func10 (c := bodyOf Try.f10) (by kernel_rfl) (by kernel_rfl) (by kernel_rfl) (by kernel_rfl) (by kernel_rfl) (Eq.mp (by kernel_rfl) g)

/-! ### pawl/pawllaw25.awake (11) -/
def S11 (h : GH) (K : Value → GH → Prop) : Prop :=
 bsV 45 2 [(.slice none 0 0), (.slice none 0 0)] [(0, 1, (.slice none 0 0)), (1, 1, (.slice none 0 0))] h fun v1 h2 =>
 bnd (fillV [(.slice none 0 0), (.int .i64 0), (.bool false)] [(0, 1, v1), (1, 1, (.int .i64 1))]) fun c3 =>
 newV 24 [(.slice none 0 0), (.int .i64 0), (.bool false)] h2 fun v4 h5 =>
 bnd (stV 3 v4 (.agg c3.toArray) h5) fun h6 =>
 bnd (fillV [(.int .i64 0), (.int .i64 0), (.int .i64 0), (.int .i64 0), (.int .i64 0), (.int .i64 0), (.int .i64 0), (.slice none 0 0)] [(0, 1, (.int .i64 1)), (4, 1, (.int .i64 3))]) fun c7 =>
 bnd (fillV [(.int .i64 0), (.int .i64 0), (.int .i64 0), (.int .i64 0), (.int .i64 0), (.int .i64 0), (.int .i64 0), (.slice none 0 0)] [(0, 1, (.int .i64 1)), (5, 1, (.int .i64 2)), (4, 1, (.int .i64 4))]) fun c8 =>
 bnd (fillV [(.int .i64 0), (.int .i64 0), (.int .i64 0), (.int .i64 0), (.int .i64 0), (.int .i64 0), (.int .i64 0), (.slice none 0 0)] [(4, 1, (.int .i64 (-1)))]) fun c9 =>
 bnd (fillV [(.int .i64 0), (.int .i64 0), (.int .i64 0), (.int .i64 0), (.int .i64 0), (.int .i64 0), (.int .i64 0), (.slice none 0 0)] [(0, 1, (.int .i64 1)), (5, 1, (.int .i64 1)), (4, 1, (.int .i64 0))]) fun c10 =>
 bsV 40 4 [(.int .i64 0), (.int .i64 0), (.int .i64 0), (.int .i64 0), (.int .i64 0), (.int .i64 0), (.int .i64 0), (.slice none 0 0), (.int .i64 0), (.int .i64 0), (.int .i64 0), (.int .i64 0), (.int .i64 0), (.int .i64 0), (.int .i64 0), (.slice none 0 0), (.int .i64 0), (.int .i64 0), (.int .i64 0), (.int .i64 0), (.int .i64 0), (.int .i64 0), (.int .i64 0), (.slice none 0 0), (.int .i64 0), (.int .i64 0), (.int .i64 0), (.int .i64 0), (.int .i64 0), (.int .i64 0), (.int .i64 0), (.slice none 0 0)] [(0, 8, (.agg c7.toArray)), (8, 8, (.agg c8.toArray)), (16, 8, (.agg c9.toArray)), (24, 8, (.agg c10.toArray))] h6 fun v11 h12 =>
 bnd (ldV 3 true v4 h12) fun v13 =>
 T Try.prog 7 [v13, v11] h12 fun v14 h15 =>
 bnd (exV v14 0) fun v16 =>
 bnd (exV v14 1) fun v17 =>
 bnd (ldV 3 true v4 h15) fun v18 =>
 bnd (fillV [(.int .i64 0), (.int .i64 0), (.int .i64 0), (.int .i64 0), (.int .i64 0), (.int .i64 0), (.int .i64 0), (.slice none 0 0)] [(0, 1, (.int .i64 2))]) fun c19 =>
 bsV 40 1 [(.int .i64 0), (.int .i64 0), (.int .i64 0), (.int .i64 0), (.int .i64 0), (.int .i64 0), (.int .i64 0), (.slice none 0 0)] [(0, 8, (.agg c19.toArray))] h15 fun v20 h21 =>
 T Try.prog 7 [v18, v20] h21 fun v22 h23 =>
 bnd (exV v22 0) fun v24 =>
 bnd (exV v22 1) fun v25 =>
 bnd (fillV [(.slice none 0 0), (.int .i64 0), (.bool false)] []) fun c26 =>
 T Try.prog 7 [(.agg c26.toArray), (.slice none 0 0)] h23 fun v27 h28 =>
 bnd (exV v27 0) fun v29 =>
 bnd (exV v27 1) fun v30 =>
 bnd (lnV v16) fun v31 =>
 bnd (eqI v31 (.int .i64 2)) fun b32 =>
 ifV (.bool b32) (
 bnd (isV 3 v16 (.int .i64 0)) fun v33 =>
 bnd (ldV 3 true v33 h28) fun v34 =>
 bnd (fillV [(.int .i64 0), (.int .i64 0), (.int .i64 0)] []) fun c35 =>
 bnd (eqP Try.prog 10000 35 v34 (.agg c35.toArray)) fun b36 =>
 ifV (.bool b36) (
 bnd (isV 3 v16 (.int .i64 1)) fun v37 =>
 bnd (ldV 3 true v37 h28) fun v38 =>
 bnd (fillV [(.int .i64 0), (.int .i64 0), (.int .i64 0)] [(0, 1, (.int .i64 1)), (1, 1, (.int .i64 1)), (2, 1, (.int .i64 1))]) fun c39 =>
 bnd (eqP Try.prog 10000 35 v38 (.agg c39.toArray)) fun b40 =>
 ifV (.bool b40) (
 T Try.prog 9 [v17] h28 fun v41 h42 =>
 bnd (eqI v41 (.int .i64 0)) fun b43 =>
 ifV (.bool b43) (
 T Try.prog 9 [v25] h42 fun v44 h45 =>
 bnd (eqI v44 (.int .i64 2500)) fun b46 =>
 ifV (.bool b46) (
 T Try.prog 9 [v30] h45 fun v47 h48 =>
 bnd (eqI v47 (.int .i64 2500)) fun b49 =>
 K (.bool b49) h48) (
 K (.bool false) h45)) (
 K (.bool false) h42)) (
 K (.bool false) h28)) (
 K (.bool false) h28)) (
 K (.bool false) h28)
def A11 : Ann := ⟨fun _ => ([], []), fun _ => []⟩
theorem S11_T {h : GH} {K : Value → GH → Prop} (g : S11 h K) : T Try.prog 11 [] h K :=
  T_of_gwp (A := A11) Try.func11 (c := bodyOf Try.f11) (by kernel_rfl) (by kernel_rfl) (by kernel_rfl) (by kernel_rfl) (by kernel_rfl) (Eq.mp (by kernel_rfl) g)

/-! ### pawl/script.May (12) -/
def S12_j1 (x1 : Value) (h : GH) (K : Value → GH → Prop)  : Prop :=
 bnd (faV 0 x1) fun v1 =>
 bnd (ldV 1 false v1 h) fun v2 =>
 bnd (lnV v2) fun v3 =>
 Lfp (fun (s4 : Nat → Value) h5 again6 =>
 bnd (binV .lss (s4 2) (s4 1)) fun v7 =>
 ifV v7 (
 bnd (isV 1 (s4 0) (s4 2)) fun v8 =>
 bnd (ldV 1 false v8 h5) fun v9 =>
 bnd (lnV v9) fun v10 =>
 bnd (binV .gtr v10 (.int .i64 8)) fun v11 =>
 ifV v11 (
 K (.bool false) h5) (
 bnd (lnV v9) fun v12 =>
 Lfp (fun (s13 : Nat → Value) h14 again15 =>
 bnd (binV .lss (s13 5) (s13 4)) fun v16 =>
 ifV v16 (
 bnd (isV 1 (s13 3) (s13 5)) fun v17 =>
 bnd (ldV 1 true v17 h14) fun v18 =>
 newV 48 [(.slice none 0 0)] h14 fun v19 h20 =>
 bnd (stV 1 v19 v18 h20) fun h21 =>
 bnd (faV 0 v19) fun v22 =>
 bnd (ldV 1 false v22 h21) fun v23 =>
 T Try.prog 16 [v23] h21 fun v24 h25 =>
 bnd (unV .not v24) fun v26 =>
 ifV v26 (
 K (.bool false) h25) (
 bnd (binV .add (s13 5) (.int .i64 1)) fun v27 =>
 again15 (tup [(s13 0), (s13 1), (s13 2), (s13 3), (s13 4), v27]) h25)) (
 bnd (binV .add (s13 2) (.int .i64 1)) fun v28 =>
 again6 (tup [(s13 0), (s13 1), v28]) h14)) (tup [(s4 0), (s4 1), (s4 2), v9, v12, (.int .i64 0)]) h5)) (
 K (.bool true) h5)) (tup [v2, v3, (.int .i64 0)]) h
def S12 (a0 : Value) (h : GH) (K : Value → GH → Prop) : Prop :=
 newV 24 (a0 : Value).cells.toList h fun v1 h2 =>
 bnd (faV 0 v1) fun v3 =>
 bnd (ldV 1 false v3 h2) fun v4 =>
 bnd (lnV v4) fun v5 =>
 bnd (binV .lss v5 (.int .i64 1)) fun v6 =>
 ifV v6 (
 K (.bool false) h2) (
 bnd (faV 0 v1) fun v7 =>
 bnd (ldV 1 false v7 h2) fun v8 =>
 bnd (lnV v8) fun v9 =>
 bnd (binV .gtr v9 (.int .i64 4)) fun v10 =>
 ifV v10 (
 K (.bool false) h2) (
 bnd (faV 1 v1) fun v11 =>
 bnd (ldV 1 false v11 h2) fun v12 =>
 bnd (binV .lss v12 (.int .i64 1)) fun v13 =>
 ifV v13 (
 K (.bool false) h2) (
 bnd (faV 1 v1) fun v14 =>
 bnd (ldV 1 false v14 h2) fun v15 =>
 bnd (binV .gtr v15 (.int .i64 16)) fun v16 =>
 ifV v16 (
 K (.bool false) h2) (
 S12_j1 v1 h2 K ))))
def A12 : Ann := ⟨fun _ => ([], []), fun | 0 => [28, 29, 30] | 2 => [28, 29, 30, 37, 38, 39] | _ => []⟩
theorem S12_T {a0 : Value} {h : GH} {K : Value → GH → Prop} (g : S12 a0 h K) : T Try.prog 12 [a0] h K :=
  T_of_gwp (A := A12) Try.func12 (c := bodyOf Try.f12) (by kernel_rfl) (by kernel_rfl) (by kernel_rfl) (by kernel_rfl) (by kernel_rfl) (Eq.mp (by kernel_rfl) g)

/-! ### pawl/word.Below (13) -/
def S13 (a0 a1 : Value) (h : GH) (K : Value → GH → Prop) : Prop :=
 bnd (binV .geq a0 (.int .i64 0)) fun v1 =>
 ifV v1 (
 bnd (binV .lss a0 a1) fun v2 =>
 K v2 h) (
 K (.bool false) h)
def A13 : Ann := ⟨fun _ => ([], []), fun _ => []⟩
theorem S13_T {a0 a1 : Value} {h : GH} {K : Value → GH → Prop} (g : S13 a0 a1 h K) : T Try.prog 13 [a0, a1] h K :=
  T_of_gwp (A := A13) Try.func13 (c := bodyOf Try.f13) (by kernel_rfl) (by kernel_rfl) (by kernel_rfl) (by kernel_rfl) (by kernel_rfl) (Eq.mp (by kernel_rfl) g)

/-! ### pawl/pawlref1.PlanMay (14) -/
def S14_j2 (s1 : Nat → Value) (s14 : Nat → Value) (x1 x3 x4 x5 : Value) (h : GH) (K : Value → GH → Prop) (again3 : (Nat → Value) → GH → Prop) (again16 : (Nat → Value) → GH → Prop) : Prop :=
 Lfp (fun (s1 : Nat → Value) h2 again3 =>
 bnd (lnV (s1 3)) fun v4 =>
 bnd (binV .lss (s1 4) v4) fun v5 =>
 ifV v5 (
 bnd (isV 4 (s1 3) (s1 4)) fun v6 =>
 bnd (ldV 4 true v6 h2) fun v7 =>
 T Try.prog 17 [v7] h2 fun v8 h9 =>
 bnd (unV .not v8) fun v10 =>
 ifV v10 (
 K (.bool false) h9) (
 bnd (binV .add (s1 4) (.int .i64 1)) fun v11 =>
 again3 (tup [(s1 0), (s1 1), (s1 2), (s1 3), v11]) h9)) (
 bnd (binV .add (s1 2) (.int .i64 1)) fun v12 =>
 again16 (tup [(s1 0), (s1 1), v12]) h2)) (tup [x1, x3, x4, x5, (.int .i64 0)]) h

def S14_j1 (x1 : Value) (h : GH) (K : Value → GH → Prop)  : Prop :=
 Lfp (fun (s1 : Nat → Value) h2 again3 =>
 bnd (faV 0 (s1 0)) fun v4 =>
 bnd (ldV 1 false v4 h2) fun v5 =>
 bnd (lnV v5) fun v6 =>
 bnd (binV .lss (s1 1) v6) fun v7 =>
 ifV v7 (
 bnd (faV 0 (s1 0)) fun v8 =>
 bnd (ldV 1 false v8 h2) fun v9 =>
 bnd (isV 1 v9 (s1 1)) fun v10 =>
 bnd (ldV 1 false v10 h2) fun v11 =>
 bnd (lnV v11) fun v12 =>
 bnd (binV .gtr v12 (.int .i64 8)) fun v13 =>
 ifV v13 (
 K (.bool false) h2) (
 Lfp (fun (s14 : Nat → Value) h15 again16 =>
 bnd (faV 0 (s14 0)) fun v17 =>
 bnd (ldV 1 false v17 h15) fun v18 =>
 bnd (isV 1 v18 (s14 1)) fun v19 =>
 bnd (ldV 1 false v19 h15) fun v20 =>
 bnd (lnV v20) fun v21 =>
 bnd (binV .lss (s14 2) v21) fun v22 =>
 ifV v22 (
 bnd (faV 0 (s14 0)) fun v23 =>
 bnd (ldV 1 false v23 h15) fun v24 =>
 bnd (isV 1 v24 (s14 1)) fun v25 =>
 bnd (ldV 1 false v25 h15) fun v26 =>
 bnd (isV 1 v26 (s14 2)) fun v27 =>
 bnd (faV 0 v27) fun v28 =>
 bnd (ldV 1 false v28 h15) fun v29 =>
 bnd (lnV v29) fun v30 =>
 bnd (binV .lss v30 (.int .i64 1)) fun v31 =>
 ifV v31 (
 K (.bool false) h15) (
 bnd (lnV v29) fun v32 =>
 bnd (binV .gtr v32 (.int .i64 2)) fun v33 =>
 ifV v33 (
 K (.bool false) h15) (
 S14_j2 s1 s14 (s14 0) (s14 1) (s14 2) v29 h15 K again3 again16))) (
 bnd (binV .add (s14 1) (.int .i64 1)) fun v34 =>
 again3 (tup [(s14 0), v34]) h15)) (tup [(s1 0), (s1 1), (.int .i64 0)]) h2)) (
 K (.bool true) h2)) (tup [x1, (.int .i64 0)]) h
def S14 (a0 : Value) (h : GH) (K : Value → GH → Prop) : Prop :=
 newV 24 (a0 : Value).cells.toList h fun v1 h2 =>
 bnd (faV 0 v1) fun v3 =>
 bnd (ldV 1 false v3 h2) fun v4 =>
 bnd (lnV v4) fun v5 =>
 bnd (binV .lss v5 (.int .i64 1)) fun v6 =>
 ifV v6 (
 K (.bool false) h2) (
 bnd (faV 0 v1) fun v7 =>
 bnd (ldV 1 false v7 h2) fun v8 =>
 bnd (lnV v8) fun v9 =>
 bnd (binV .gtr v9 (.int .i64 4)) fun v10 =>
 ifV v10 (
 K (.bool false) h2) (
 bnd (faV 1 v1) fun v11 =>
 bnd (ldV 1 false v11 h2) fun v12 =>
 bnd (binV .lss v12 (.int .i64 1)) fun v13 =>
 ifV v13 (
 K (.bool false) h2) (
 bnd (faV 1 v1) fun v14 =>
 bnd (ldV 1 false v14 h2) fun v15 =>
 bnd (binV .gtr v15 (.int .i64 16)) fun v16 =>
 ifV v16 (
 K (.bool false) h2) (
 S14_j1 v1 h2 K ))))
def A14 : Ann := ⟨fun _ => ([], []), fun | 0 => [1, 3] | 2 => [1, 3, 4] | 4 => [1, 3, 4, 5, 6] | _ => []⟩
theorem S14_T {a0 : Value} {h : GH} {K : Value → GH → Prop} (g : S14 a0 h K) : T Try.prog 14 [a0] h K :=
  T_of_gwp (A := A14) Try.func14 (c := bodyOf Try.f14) (by kernel_rfl) (by kernel_rfl) (by kernel_rfl) (by kernel_rfl) (by kernel_rfl) (Eq.mp (by kernel_rfl) g)

/-! ### pawl/pawllaw0.SameEvent (15) -/
def S15 (a0 a1 : Value) (h : GH) (K : Value → GH → Prop) : Prop :=
 newV 40 (a0 : Value).cells.toList h fun v1 h2 =>
 newV 40 (a1 : Value).cells.toList h2 fun v3 h4 =>
 bnd (faV 0 v1) fun v5 =>
 bnd (ldV 1 false v5 h4) fun v6 =>
 bnd (faV 0 v3) fun v7 =>
 bnd (ldV 1 false v7 h4) fun v8 =>
 bnd (eqI v6 v8) fun b9 =>
 ifV (.bool b9) (
 bnd (faV 1 v1) fun v10 =>
 bnd (ldV 1 false v10 h4) fun v11 =>
 bnd (faV 1 v3) fun v12 =>
 bnd (ldV 1 false v12 h4) fun v13 =>
 bnd (eqI v11 v13) fun b14 =>
 ifV (.bool b14) (
 bnd (faV 2 v1) fun v15 =>
 bnd (ldV 1 false v15 h4) fun v16 =>
 bnd (faV 2 v3) fun v17 =>
 bnd (ldV 1 false v17 h4) fun v18 =>
 bnd (eqI v16 v18) fun b19 =>
 ifV (.bool b19) (
 bnd (faV 3 v1) fun v20 =>
 bnd (ldV 1 false v20 h4) fun v21 =>
 bnd (faV 3 v3) fun v22 =>
 bnd (ldV 1 false v22 h4) fun v23 =>
 bnd (eqI v21 v23) fun b24 =>
 ifV (.bool b24) (
 bnd (faV 4 v1) fun v25 =>
 bnd (ldV 1 false v25 h4) fun v26 =>
 bnd (faV 4 v3) fun v27 =>
 bnd (ldV 1 false v27 h4) fun v28 =>
 bnd (eqI v26 v28) fun b29 =>
 ifV (.bool b29) (
 bnd (faV 5 v1) fun v30 =>
 bnd (ldV 1 false v30 h4) fun v31 =>
 bnd (faV 5 v3) fun v32 =>
 bnd (ldV 1 false v32 h4) fun v33 =>
 bnd (eqI v31 v33) fun b34 =>
 ifV (.bool b34) (
 bnd (faV 6 v1) fun v35 =>
 bnd (ldV 1 false v35 h4) fun v36 =>
 bnd (faV 6 v3) fun v37 =>
 bnd (ldV 1 false v37 h4) fun v38 =>
 bnd (eqI v36 v38) fun b39 =>
 ifV (.bool b39) (
 bnd (faV 7 v1) fun v40 =>
 bnd (ldV 1 false v40 h4) fun v41 =>
 bnd (faV 7 v3) fun v42 =>
 bnd (ldV 1 false v42 h4) fun v43 =>
 T Try.prog 18 [v41, v43] h4 fun v44 h45 =>
 K v44 h45) (
 K (.bool false) h4)) (
 K (.bool false) h4)) (
 K (.bool false) h4)) (
 K (.bool false) h4)) (
 K (.bool false) h4)) (
 K (.bool false) h4)) (
 K (.bool false) h4)
def A15 : Ann := ⟨fun _ => ([], []), fun _ => []⟩
theorem S15_T {a0 a1 : Value} {h : GH} {K : Value → GH → Prop} (g : S15 a0 a1 h K) : T Try.prog 15 [a0, a1] h K :=
  T_of_gwp (A := A15) Try.func15 (c := bodyOf Try.f15) (by kernel_rfl) (by kernel_rfl) (by kernel_rfl) (by kernel_rfl) (by kernel_rfl) (Eq.mp (by kernel_rfl) g)

/-! ### pawl/cells.OpsMay (16) -/
def S16 (a0 : Value) (h : GH) (K : Value → GH → Prop) : Prop :=
 bnd (lnV a0) fun v1 =>
 Lfp (fun (s2 : Nat → Value) h3 again4 =>
 bnd (binV .lss (s2 2) (s2 1)) fun v5 =>
 ifV v5 (
 bnd (isV 4 (s2 0) (s2 2)) fun v6 =>
 T Try.prog 19 [v6] h3 fun v7 h8 =>
 bnd (unV .not v7) fun v9 =>
 ifV v9 (
 K (.bool false) h8) (
 bnd (binV .add (s2 2) (.int .i64 1)) fun v10 =>
 again4 (tup [(s2 0), (s2 1), v10]) h8)) (
 bnd (lnV (s2 0)) fun v11 =>
 bnd (binV .geq v11 (.int .i64 1)) fun v12 =>
 ifV v12 (
 bnd (lnV (s2 0)) fun v13 =>
 bnd (binV .leq v13 (.int .i64 2)) fun v14 =>
 K v14 h3) (
 K (.bool false) h3))) (tup [a0, v1, (.int .i64 0)]) h
def A16 : Ann := ⟨fun _ => ([], []), fun | 0 => [0, 5, 6] | _ => []⟩
theorem S16_T {a0 : Value} {h : GH} {K : Value → GH → Prop} (g : S16 a0 h K) : T Try.prog 16 [a0] h K :=
  T_of_gwp (A := A16) Try.func16 (c := bodyOf Try.f16) (by kernel_rfl) (by kernel_rfl) (by kernel_rfl) (by kernel_rfl) (by kernel_rfl) (Eq.mp (by kernel_rfl) g)

/-! ### pawl/pawlref1.OpMay (17) -/
def S17_j5 (x1 x3 x5 x6 x29 x102 : Value) (h : GH) (K : Value → GH → Prop)  : Prop :=
 ifV x102 (
 ifV x5 (
 bnd (ldV 4 true x3 h) fun v1 =>
 bnd (ldV 4 true x1 h) fun v2 =>
 bnd (eqP Try.prog 10000 52 v1 v2) fun b3 =>
 K (.bool b3) h) (
 K (.bool false) h)) (
 bnd (eqI x29 (.int .i64 10)) fun b4 =>
 ifV (.bool b4) (
 bnd (faV 2 x1) fun v5 =>
 bnd (ldV 1 false v5 h) fun v6 =>
 bnd (faV 2 x3) fun v7 =>
 bnd (stV 1 v7 v6 h) fun h8 =>
 ifV x5 (
 bnd (faV 2 x1) fun v9 =>
 bnd (ldV 1 false v9 h8) fun v10 =>
 bnd (binV .geq v10 (.int .i64 0)) fun v11 =>
 ifV v11 (
 bnd (faV 2 x1) fun v12 =>
 bnd (ldV 1 false v12 h8) fun v13 =>
 bnd (binV .lss v13 (.int .i64 5)) fun v14 =>
 ifV v14 (
 bnd (ldV 4 true x3 h8) fun v15 =>
 bnd (ldV 4 true x1 h8) fun v16 =>
 bnd (eqP Try.prog 10000 52 v15 v16) fun b17 =>
 K (.bool b17) h8) (
 K (.bool false) h8)) (
 K (.bool false) h8)) (
 K (.bool false) h8)) (
 ifV x6 (
 bnd (ldV 4 true x3 h) fun v18 =>
 bnd (ldV 4 true x1 h) fun v19 =>
 bnd (eqP Try.prog 10000 52 v18 v19) fun b20 =>
 K (.bool b20) h) (
 K (.bool false) h)))

def S17_j4 (x1 x3 x5 x6 x29 x80 : Value) (h : GH) (K : Value → GH → Prop)  : Prop :=
 ifV x80 (
 bnd (faV 1 x1) fun v1 =>
 bnd (ldV 1 false v1 h) fun v2 =>
 bnd (eqI v2 (.int .i64 0)) fun b3 =>
 ifV (.bool b3) (
 bnd (ldV 4 true x3 h) fun v4 =>
 bnd (ldV 4 true x1 h) fun v5 =>
 bnd (eqP Try.prog 10000 52 v4 v5) fun b6 =>
 K (.bool b6) h) (
 K (.bool false) h)) (
 bnd (eqI x29 (.int .i64 6)) fun b7 =>
 ifV (.bool b7) (
 bnd (faV 3 x1) fun v8 =>
 bnd (ldV 1 false v8 h) fun v9 =>
 bnd (faV 3 x3) fun v10 =>
 bnd (stV 1 v10 v9 h) fun h11 =>
 ifV x5 (
 bnd (faV 3 x1) fun v12 =>
 bnd (ldV 1 false v12 h11) fun v13 =>
 bnd (eqI v13 (.int .i64 0)) fun b14 =>
 ifV (.bool b14) (
 bnd (ldV 4 true x3 h11) fun v15 =>
 bnd (ldV 4 true x1 h11) fun v16 =>
 bnd (eqP Try.prog 10000 52 v15 v16) fun b17 =>
 K (.bool b17) h11) (
 bnd (faV 3 x1) fun v18 =>
 bnd (ldV 1 false v18 h11) fun v19 =>
 bnd (eqI v19 (.int .i64 1)) fun b20 =>
 ifV (.bool b20) (
 bnd (ldV 4 true x3 h11) fun v21 =>
 bnd (ldV 4 true x1 h11) fun v22 =>
 bnd (eqP Try.prog 10000 52 v21 v22) fun b23 =>
 K (.bool b23) h11) (
 K (.bool false) h11))) (
 K (.bool false) h11)) (
 bnd (eqI x29 (.int .i64 7)) fun b24 =>
 ifV (.bool b24) (
 S17_j5 x1 x3 x5 x6 x29 (.bool true) h K ) (
 bnd (eqI x29 (.int .i64 8)) fun b25 =>
 S17_j5 x1 x3 x5 x6 x29 (.bool b25) h K )))

def S17_j3 (x1 x3 x4 x5 x6 x29 x30 : Value) (h : GH) (K : Value → GH → Prop)  : Prop :=
 ifV x30 (
 bnd (faV 3 x1) fun v1 =>
 bnd (ldV 1 false v1 h) fun v2 =>
 bnd (faV 3 x3) fun v3 =>
 bnd (stV 1 v3 v2 h) fun h4 =>
 ifV x4 (
 bnd (faV 3 x1) fun v5 =>
 bnd (ldV 1 false v5 h4) fun v6 =>
 bnd (binV .geq v6 (.int .i64 0)) fun v7 =>
 ifV v7 (
 bnd (faV 3 x1) fun v8 =>
 bnd (ldV 1 false v8 h4) fun v9 =>
 bnd (binV .leq v9 (.int .i64 1048575)) fun v10 =>
 ifV v10 (
 bnd (ldV 4 true x3 h4) fun v11 =>
 bnd (ldV 4 true x1 h4) fun v12 =>
 bnd (eqP Try.prog 10000 52 v11 v12) fun b13 =>
 K (.bool b13) h4) (
 K (.bool false) h4)) (
 K (.bool false) h4)) (
 K (.bool false) h4)) (
 bnd (eqI x29 (.int .i64 1)) fun b14 =>
 ifV (.bool b14) (
 ifV x4 (
 bnd (ldV 4 true x3 h) fun v15 =>
 bnd (ldV 4 true x1 h) fun v16 =>
 bnd (eqP Try.prog 10000 52 v15 v16) fun b17 =>
 K (.bool b17) h) (
 K (.bool false) h)) (
 bnd (eqI x29 (.int .i64 4)) fun b18 =>
 ifV (.bool b18) (
 bnd (faV 2 x1) fun v19 =>
 bnd (ldV 1 false v19 h) fun v20 =>
 bnd (faV 2 x3) fun v21 =>
 bnd (stV 1 v21 v20 h) fun h22 =>
 bnd (faV 3 x1) fun v23 =>
 bnd (ldV 1 false v23 h22) fun v24 =>
 bnd (faV 3 x3) fun v25 =>
 bnd (stV 1 v25 v24 h22) fun h26 =>
 ifV x4 (
 bnd (faV 2 x1) fun v27 =>
 bnd (ldV 1 false v27 h26) fun v28 =>
 bnd (binV .geq v28 (.int .i64 0)) fun v29 =>
 ifV v29 (
 bnd (faV 2 x1) fun v30 =>
 bnd (ldV 1 false v30 h26) fun v31 =>
 bnd (binV .lss v31 (.int .i64 4)) fun v32 =>
 ifV v32 (
 bnd (faV 3 x1) fun v33 =>
 bnd (ldV 1 false v33 h26) fun v34 =>
 bnd (binV .geq v34 (.int .i64 0)) fun v35 =>
 ifV v35 (
 bnd (faV 3 x1) fun v36 =>
 bnd (ldV 1 false v36 h26) fun v37 =>
 bnd (binV .leq v37 (.int .i64 1048575)) fun v38 =>
 ifV v38 (
 bnd (ldV 4 true x3 h26) fun v39 =>
 bnd (ldV 4 true x1 h26) fun v40 =>
 bnd (eqP Try.prog 10000 52 v39 v40) fun b41 =>
 K (.bool b41) h26) (
 K (.bool false) h26)) (
 K (.bool false) h26)) (
 K (.bool false) h26)) (
 K (.bool false) h26)) (
 K (.bool false) h26)) (
 bnd (eqI x29 (.int .i64 5)) fun b42 =>
 ifV (.bool b42) (
 S17_j4 x1 x3 x5 x6 x29 (.bool true) h K ) (
 bnd (eqI x29 (.int .i64 9)) fun b43 =>
 S17_j4 x1 x3 x5 x6 x29 (.bool b43) h K ))))

def S17_j2 (x1 x3 x4 x5 : Value) (h : GH) (K : Value → GH → Prop)  : Prop :=
 bnd (faV 0 x1) fun v1 =>
 bnd (ldV 1 false v1 h) fun v2 =>
 bnd (eqI v2 (.int .i64 0)) fun b3 =>
 ifV (.bool b3) (
 S17_j3 x1 x3 x4 x5 (.bool false) v2 (.bool true) h K ) (
 bnd (eqI v2 (.int .i64 2)) fun b4 =>
 ifV (.bool b4) (
 S17_j3 x1 x3 x4 x5 (.bool false) v2 (.bool true) h K ) (
 bnd (eqI v2 (.int .i64 3)) fun b5 =>
 S17_j3 x1 x3 x4 x5 (.bool false) v2 (.bool b5) h K ))

def S17_j1 (x1 x3 x4 : Value) (h : GH) (K : Value → GH → Prop)  : Prop :=
 bnd (faV 1 x1) fun v1 =>
 bnd (ldV 1 false v1 h) fun v2 =>
 bnd (binV .geq v2 (.int .i64 0)) fun v3 =>
 ifV v3 (
 bnd (faV 1 x1) fun v4 =>
 bnd (ldV 1 false v4 h) fun v5 =>
 bnd (binV .lss v5 (.int .i64 5)) fun v6 =>
 S17_j2 x1 x3 x4 v6 h K ) (
 S17_j2 x1 x3 x4 (.bool false) h K )
def S17 (a0 : Value) (h : GH) (K : Value → GH → Prop) : Prop :=
 newV 52 (a0 : Value).cells.toList h fun v1 h2 =>
 bnd (faV 0 v1) fun v3 =>
 bnd (ldV 1 false v3 h2) fun v4 =>
 bnd (faV 1 v1) fun v5 =>
 bnd (ldV 1 false v5 h2) fun v6 =>
 bnd (fillV [(.int .i64 0), (.int .i64 0), (.int .i64 0), (.int .i64 0)] [(0, 1, v4), (1, 1, v6)]) fun c7 =>
 newV 52 [(.int .i64 0), (.int .i64 0), (.int .i64 0), (.int .i64 0)] h2 fun v8 h9 =>
 bnd (stV 4 v8 (.agg c7.toArray) h9) fun h10 =>
 bnd (faV 1 v1) fun v11 =>
 bnd (ldV 1 false v11 h10) fun v12 =>
 bnd (binV .geq v12 (.int .i64 0)) fun v13 =>
 ifV v13 (
 bnd (faV 1 v1) fun v14 =>
 bnd (ldV 1 false v14 h10) fun v15 =>
 bnd (binV .lss v15 (.int .i64 4)) fun v16 =>
 S17_j1 v1 v8 v16 h10 K ) (
 S17_j1 v1 v8 (.bool false) h10 K )
def A17 : Ann := ⟨fun _ => ([], []), fun _ => []⟩
theorem S17_T {a0 : Value} {h : GH} {K : Value → GH → Prop} (g : S17 a0 h K) : T Try.prog 17 [a0] h K :=
  T_of_gwp (A := A17) Try.func17 (c := bodyOf Try.f17) (by kernel_rfl) (by kernel_rfl) (by kernel_rfl) (by kernel_rfl) (by kernel_rfl) (Eq.mp (by kernel_rfl) g)

/-! ### pawl/pawllaw0.SameAnswers (18) -/
def S18 (a0 a1 : Value) (h : GH) (K : Value → GH → Prop) : Prop :=
 bnd (lnV a0) fun v1 =>
 bnd (lnV a1) fun v2 =>
 bnd (eqI v1 v2) fun b3 =>
 ifV (.bool (!b3)) (
 K (.bool false) h) (
 Lfp (fun (s4 : Nat → Value) h5 again6 =>
 bnd (lnV (s4 0)) fun v7 =>
 bnd (binV .lss (s4 2) v7) fun v8 =>
 ifV v8 (
 bnd (isV 2 (s4 0) (s4 2)) fun v9 =>
 bnd (ldV 2 true v9 h5) fun v10 =>
 bnd (isV 2 (s4 1) (s4 2)) fun v11 =>
 bnd (ldV 2 true v11 h5) fun v12 =>
 bnd (eqP Try.prog 10000 57 v10 v12) fun b13 =>
 ifV (.bool (!b13)) (
 K (.bool false) h5) (
 bnd (binV .add (s4 2) (.int .i64 1)) fun v14 =>
 again6 (tup [(s4 0), (s4 1), v14]) h5)) (
 K (.bool true) h5)) (tup [a0, a1, (.int .i64 0)]) h)
def A18 : Ann := ⟨fun | 6 => ([0, 1, 2, 3, 4, 5, 6, 7, 8], [0, 0, 3, 7, 0, 0, 48, 112, 255]) | _ => ([], []), fun | 0 => [0, 1, 5] | _ => []⟩
theorem S18_T {a0 a1 : Value} {h : GH} {K : Value → GH → Prop} (g : S18 a0 a1 h K) : T Try.prog 18 [a0, a1] h K :=
  T_of_gwp (A := A18) Try.func18 (c := bodyOf Try.f18) (by kernel_rfl) (by kernel_rfl) (by kernel_rfl) (by kernel_rfl) (by kernel_rfl) (Eq.mp (by kernel_rfl) g)

/-! ### pawl/cells.OpMay (19) -/
def S19 (a0 : Value) (h : GH) (K : Value → GH → Prop) : Prop :=
 bnd (fillV [(.int .i64 0), (.int .i64 0), (.int .i64 0)] [(0, 1, (.int .i64 4)), (1, 1, (.int .i64 1)), (2, 1, (.int .i64 1048576))]) fun c1 =>
 bnd (fillV [(.int .i64 0), (.int .i64 0), (.int .i64 0)] [(0, 1, (.int .i64 4)), (1, 1, (.int .i64 1)), (2, 1, (.int .i64 1))]) fun c2 =>
 bnd (fillV [(.int .i64 0), (.int .i64 0), (.int .i64 0)] [(0, 1, (.int .i64 4)), (1, 1, (.int .i64 1)), (2, 1, (.int .i64 1048576))]) fun c3 =>
 bnd (fillV [(.int .i64 0), (.int .i64 0), (.int .i64 0)] [(0, 1, (.int .i64 4)), (1, 1, (.int .i64 1)), (2, 1, (.int .i64 1048576))]) fun c4 =>
 bnd (fillV [(.int .i64 0), (.int .i64 0), (.int .i64 0)] [(0, 1, (.int .i64 4)), (1, 1, (.int .i64 4)), (2, 1, (.int .i64 1048576))]) fun c5 =>
 bnd (fillV [(.int .i64 0), (.int .i64 0), (.int .i64 0)] [(0, 1, (.int .i64 1)), (1, 1, (.int .i64 1)), (2, 1, (.int .i64 1))]) fun c6 =>
 bnd (fillV [(.int .i64 0), (.int .i64 0), (.int .i64 0)] [(0, 1, (.int .i64 5)), (1, 1, (.int .i64 1)), (2, 1, (.int .i64 2))]) fun c7 =>
 bnd (fillV [(.int .i64 0), (.int .i64 0), (.int .i64 0)] [(0, 1, (.int .i64 5)), (1, 1, (.int .i64 1)), (2, 1, (.int .i64 1))]) fun c8 =>
 bnd (fillV [(.int .i64 0), (.int .i64 0), (.int .i64 0)] [(0, 1, (.int .i64 5)), (1, 1, (.int .i64 1)), (2, 1, (.int .i64 1))]) fun c9 =>
 bnd (fillV [(.int .i64 0), (.int .i64 0), (.int .i64 0)] [(0, 1, (.int .i64 1)), (1, 1, (.int .i64 1)), (2, 1, (.int .i64 1))]) fun c10 =>
 bnd (fillV [(.int .i64 0), (.int .i64 0), (.int .i64 0)] [(0, 1, (.int .i64 5)), (1, 1, (.int .i64 5)), (2, 1, (.int .i64 1))]) fun c11 =>
 bnd (fillV (List.replicate 33 (.int .i64 0)) [(0, 3, (.agg c1.toArray)), (3, 3, (.agg c2.toArray)), (6, 3, (.agg c3.toArray)), (9, 3, (.agg c4.toArray)), (12, 3, (.agg c5.toArray)), (15, 3, (.agg c6.toArray)), (18, 3, (.agg c7.toArray)), (21, 3, (.agg c8.toArray)), (24, 3, (.agg c9.toArray)), (27, 3, (.agg c10.toArray)), (30, 3, (.agg c11.toArray))]) fun c12 =>
 newV 60 (List.replicate 33 (.int .i64 0)) h fun v13 h14 =>
 bnd (stV 33 v13 (.agg c12.toArray) h14) fun h15 =>
 bnd (ncV a0) fun v16 =>
 bnd (faV 0 v16) fun v17 =>
 bnd (ldV 1 false v17 h15) fun v18 =>
 T Try.prog 13 [v18, (.int .i64 11)] h15 fun v19 h20 =>
 bnd (unV .not v19) fun v21 =>
 ifV v21 (
 K (.bool false) h20) (
 bnd (ncV a0) fun v22 =>
 bnd (faV 0 v22) fun v23 =>
 bnd (ldV 1 false v23 h20) fun v24 =>
 bnd (iaV 11 3 v13 v24) fun v25 =>
 bnd (ldV 3 true v25 h20) fun v26 =>
 newV 59 [(.int .i64 0), (.int .i64 0), (.int .i64 0)] h20 fun v27 h28 =>
 bnd (stV 3 v27 v26 h28) fun h29 =>
 bnd (ncV a0) fun v30 =>
 bnd (faV 1 v30) fun v31 =>
 bnd (ldV 1 false v31 h29) fun v32 =>
 bnd (faV 0 v27) fun v33 =>
 bnd (ldV 1 false v33 h29) fun v34 =>
 T Try.prog 13 [v32, v34] h29 fun v35 h36 =>
 ifV v35 (
 bnd (ncV a0) fun v37 =>
 bnd (faV 2 v37) fun v38 =>
 bnd (ldV 1 false v38 h36) fun v39 =>
 bnd (faV 1 v27) fun v40 =>
 bnd (ldV 1 false v40 h36) fun v41 =>
 T Try.prog 13 [v39, v41] h36 fun v42 h43 =>
 ifV v42 (
 bnd (ncV a0) fun v44 =>
 bnd (faV 3 v44) fun v45 =>
 bnd (ldV 1 false v45 h43) fun v46 =>
 bnd (faV 2 v27) fun v47 =>
 bnd (ldV 1 false v47 h43) fun v48 =>
 T Try.prog 13 [v46, v48] h43 fun v49 h50 =>
 K v49 h50) (
 K (.bool false) h43)) (
 K (.bool false) h36))
def A19 : Ann := ⟨fun | 5 => ([0, 1, 2, 3, 4, 5, 6, 7, 8, 9, 10, 11, 12, 13, 14, 15, 16, 17, 18, 19, 20, 21, 22, 23, 24, 25], [0, 1, 3, 7, 0, 16, 63, 127, 255, 511, 1023, 2047, 255, 4351, 16383, 32767, 65535, 131071, 262143, 524287, 1048575, 131071, 2228223, 8388607, 16777215, 33554431]) | _ => ([], []), fun _ => []⟩
theorem S19_T {a0 : Value} {h : GH} {K : Value → GH → Prop} (g : S19 a0 h K) : T Try.prog 19 [a0] h K :=
  T_of_gwp (A := A19) Try.func19 (c := bodyOf Try.f19) (by kernel_rfl) (by kernel_rfl) (by kernel_rfl) (by kernel_rfl) (by kernel_rfl) (Eq.mp (by kernel_rfl) g)
end Go.Proofs.Ytkcgphbgbibhfaa
