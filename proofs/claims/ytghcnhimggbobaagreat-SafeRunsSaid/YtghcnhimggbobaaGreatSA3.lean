/- Several texts in one; nothing here is a statement on the program. -/
import Derived.Test.YtghcnhimggbobaaGreatSA2
import Derived.Test.YtghcnhimggbobaaGreatProg
import Derived.KernelRfl
set_option linter.unusedVariables false
set_option linter.unusedSimpArgs false
namespace Go.Proofs.YtghcnhimggbobaaGreat
open Go GW Go.Proofs
set_option maxRecDepth 100000
def S3_j2 (s1 : Nat → Value) (x1 x5 x7 : Value) (h : GH) (K : Value → GH → Prop) (again3 : (Nat → Value) → GH → Prop) : Prop :=
 bnd (isV 1 x1 x7) fun v1 =>
 bnd (ldV 1 false v1 h) fun v2 =>
 T Tryz.prog 7 [x5, v2] h fun v3 h4 =>
 bnd (binV .add x7 (.int .i64 1)) fun v5 =>
 again3 (tup [x1, x5, v5]) h4
def S3_j4 (s1 : Nat → Value) (s7 : Nat → Value) (x8 x9 x10 x11 x12 x13 : Value) (h : GH) (K : Value → GH → Prop) (again3 : (Nat → Value) → GH → Prop) (again9 : (Nat → Value) → GH → Prop) : Prop :=
 bnd (isV 8 x8 x13) fun v1 =>
 bnd (faV 2 v1) fun v2 =>
 bnd (ldV 1 false v2 h) fun v3 =>
 bnd (binV .geq v3 (.int .i64 34)) fun v4 =>
 ifV v4 (
 bnd (binV .add x12 (.int .i64 1)) fun v5 =>
 bnd (isV 8 x8 x13) fun v6 =>
 bnd (faV 5 v6) fun v7 =>
 bnd (ldV 1 false v7 h) fun v8 =>
 bnd (isV 8 x8 x13) fun v9 =>
 bnd (faV 2 v9) fun v10 =>
 bnd (ldV 1 false v10 h) fun v11 =>
 bnd (binV .sub v11 (.int .i64 34)) fun v12 =>
 bnd (binV .quo v12 (.int .i64 50)) fun v13 =>
 bnd (eqI v8 v13) fun b14 =>
 ifV (.bool (!b14)) (
 K (.bool false) h) (
 bnd (binV .add x13 (.int .i64 1)) fun v15 =>
 again9 (tup [x8, x9, x10, x11, v5, v15]) h)) (
 bnd (binV .add x13 (.int .i64 1)) fun v16 =>
 again9 (tup [x8, x9, x10, x11, x12, v16]) h)
def S3_j3 (s1 : Nat → Value) (x5 : Value) (h : GH) (K : Value → GH → Prop) (again3 : (Nat → Value) → GH → Prop) : Prop :=
 T Tryz.prog 8 [x5] h fun v1 h2 =>
 T Tryz.prog 9 [v1] h2 fun v3 h4 =>
 bnd (exV v3 0) fun v5 =>
 bnd (exV v3 1) fun v6 =>
 Lfp (fun (s7 : Nat → Value) h8 again9 =>
 bnd (lnV (s7 0)) fun v10 =>
 bnd (binV .lss (s7 5) v10) fun v11 =>
 ifV v11 (
 bnd (isV 8 (s7 0) (s7 5)) fun v12 =>
 bnd (faV 5 v12) fun v13 =>
 bnd (ldV 1 false v13 h8) fun v14 =>
 bnd (binV .geq v14 (.int .i64 0)) fun v15 =>
 ifV v15 (
 bnd (binV .add (s7 3) (.int .i64 1)) fun v16 =>
 S3_j4 s1 s7 (s7 0) (s7 1) (s7 2) v16 (s7 4) (s7 5) h8 K again3 again9) (
 S3_j4 s1 s7 (s7 0) (s7 1) (s7 2) (s7 3) (s7 4) (s7 5) h8 K again3 again9)) (
 T Tryz.prog 6 [(s7 2)] h8 fun v17 h18 =>
 bnd (eqI v17 (.int .i64 0)) fun b19 =>
 ifV (.bool b19) (
 bnd (eqI (s7 1) (s7 3)) fun b20 =>
 ifV (.bool b20) (
 bnd (binV .leq (s7 4) (s7 3)) fun v21 =>
 K v21 h18) (
 K (.bool false) h18)) (
 K (.bool false) h18))) (tup [v1, v5, v6, (.int .i64 0), (.int .i64 0), (.int .i64 0)]) h4
def S3_j1 (x1 x5 : Value) (h : GH) (K : Value → GH → Prop)  : Prop :=
 Lfp (fun (s1 : Nat → Value) h2 again3 =>
 bnd (lnV (s1 0)) fun v4 =>
 bnd (binV .lss (s1 2) v4) fun v5 =>
 ifV v5 (
 bnd (binV .lss (s1 2) (.int .i64 300)) fun v6 =>
 ifV v6 (
 S3_j2 s1 (s1 0) (s1 1) (s1 2) h2 K again3) (
 S3_j3 s1 (s1 1) h2 K again3)) (
 S3_j3 s1 (s1 1) h2 K again3)) (tup [x1, x5, (.int .i64 0)]) h
def S3 (a0 a1 : Value) (h : GH) (K : Value → GH → Prop) : Prop :=
 newV 24 (a0 : Value).cells.toList h fun v1 h2 =>
 T Tryz.prog 4 [] h2 fun v3 h4 =>
 bnd (unV .not v3) fun v5 =>
 ifV v5 (
 K (.bool false) h4) (
 bnd (ldV 3 true v1 h4) fun v6 =>
 T Tryz.prog 5 [v6] h4 fun v7 h8 =>
 bnd (exV v7 0) fun v9 =>
 bnd (exV v7 1) fun v10 =>
 T Tryz.prog 6 [v10] h8 fun v11 h12 =>
 bnd (eqI v11 (.int .i64 0)) fun b13 =>
 ifV (.bool (!b13)) (
 bnd (eqK .ptr true v9 (.pointer none)) fun b14 =>
 K (.bool b14) h12) (
 bnd (eqK .ptr true v9 (.pointer none)) fun b15 =>
 ifV (.bool b15) (
 bnd (eqK .ptr true v9 (.pointer none)) fun b16 =>
 K (.bool b16) h12) (
 S3_j1 a1 v9 h12 K )))
def A3 : Ann := ⟨fun | 20 => ([0, 1, 2, 3, 4, 5, 6, 7, 8, 9, 10, 11, 12], [0, 0, 3, 7, 15, 0, 0, 96, 224, 480, 992, 2016, 4095]) | _ => ([], []), fun | 0 => [1, 5, 7] | 2 => [8, 9, 10, 11, 12, 13] | _ => []⟩
theorem S3_T {a0 a1 : Value} {h : GH} {K : Value → GH → Prop} (g : S3 a0 a1 h K) : T Tryz.prog 3 [a0, a1] h K :=
  T_of_gwp (A := A3) Tryz.func3 (c := bodyOf Tryz.f3) (by kernel_rfl) (by kernel_rfl) (by kernel_rfl) (by kernel_rfl) (by kernel_rfl) (Eq.mp (by kernel_rfl) g)
def S4 (h : GH) (K : Value → GH → Prop) : Prop :=
 bnd (fillV [(.int .i64 0), (.int .i64 0), (.int .i64 0), (.int .i64 0), (.int .i64 0), (.int .i64 0), (.int .i64 0), (.int .i64 0)] [(5, 1, (.int .i64 (-1)))]) fun c1 =>
 bnd (fillV [(.int .i64 0), (.int .i64 0), (.int .i64 0), (.int .i64 0), (.int .i64 0), (.int .i64 0), (.int .i64 0), (.int .i64 0)] [(2, 1, (.int .i64 34)), (6, 1, (.int .i64 2)), (7, 1, (.int .i64 2))]) fun c2 =>
 bnd (fillV [(.int .i64 0), (.int .i64 0), (.int .i64 0), (.int .i64 0), (.int .i64 0), (.int .i64 0), (.int .i64 0), (.int .i64 0)] [(2, 1, (.int .i64 633)), (5, 1, (.int .i64 3)), (6, 1, (.int .i64 1)), (7, 1, (.int .i64 1))]) fun c3 =>
 bsV 39 3 (List.replicate 24 (.int .i64 0)) [(0, 8, (.agg c1.toArray)), (8, 8, (.agg c2.toArray)), (16, 8, (.agg c3.toArray))] h fun v4 h5 =>
 T Tryz.prog 9 [v4] h5 fun v6 h7 =>
 bnd (exV v6 0) fun v8 =>
 bnd (exV v6 1) fun v9 =>
 bnd (isV 8 v4 (.int .i64 2)) fun v10 =>
 bnd (faV 7 v10) fun v11 =>
 bnd (stV 1 v11 (.int .i64 2) h7) fun h12 =>
 T Tryz.prog 9 [v4] h12 fun v13 h14 =>
 bnd (exV v13 0) fun v15 =>
 bnd (exV v13 1) fun v16 =>
 bnd (fillV [(.int .i64 0), (.int .i64 0), (.int .i64 0), (.int .i64 0), (.int .i64 0), (.int .i64 0), (.int .i64 0), (.int .i64 0)] [(2, 1, (.int .i64 634)), (5, 1, (.int .i64 (-1)))]) fun c17 =>
 bsV 39 1 [(.int .i64 0), (.int .i64 0), (.int .i64 0), (.int .i64 0), (.int .i64 0), (.int .i64 0), (.int .i64 0), (.int .i64 0)] [(0, 8, (.agg c17.toArray))] h14 fun v18 h19 =>
 T Tryz.prog 9 [v18] h19 fun v20 h21 =>
 bnd (exV v20 0) fun v22 =>
 bnd (exV v20 1) fun v23 =>
 bnd (eqI v8 (.int .i64 2)) fun b24 =>
 ifV (.bool b24) (
 T Tryz.prog 6 [v9] h21 fun v25 h26 =>
 bnd (eqI v25 (.int .i64 0)) fun b27 =>
 ifV (.bool b27) (
 T Tryz.prog 6 [v16] h26 fun v28 h29 =>
 bnd (eqI v28 (.int .i64 2100)) fun b30 =>
 ifV (.bool b30) (
 T Tryz.prog 6 [v23] h29 fun v31 h32 =>
 bnd (eqI v31 (.int .i64 2100)) fun b33 =>
 K (.bool b33) h32) (
 K (.bool false) h29)) (
 K (.bool false) h26)) (
 K (.bool false) h21)
def A4 : Ann := ⟨fun _ => ([], []), fun _ => []⟩
theorem S4_T {h : GH} {K : Value → GH → Prop} (g : S4 h K) : T Tryz.prog 4 [] h K :=
  T_of_gwp (A := A4) Tryz.func4 (c := bodyOf Tryz.f4) (by kernel_rfl) (by kernel_rfl) (by kernel_rfl) (by kernel_rfl) (by kernel_rfl) (Eq.mp (by kernel_rfl) g)
def S5 (a0 : Value) (h : GH) (K : Value → GH → Prop) : Prop :=
 newV 24 (a0 : Value).cells.toList h fun v1 h2 =>
 bnd (ldV 3 true v1 h2) fun v3 =>
 T Tryz.prog 10 [v3] h2 fun v4 h5 =>
 bnd (unV .not v4) fun v6 =>
 ifV v6 (
 K (.tuple #[(.pointer none), (.int .i64 1900)]) h5) (
 T Tryz.prog 11 [] h5 fun v7 h8 =>
 bnd (fillV ([(.pointer none), (.slice none 0 0)] ++ List.replicate 13 (.int .i64 0) ++ [(.slice none 0 0)]) [(0, 1, v7)]) fun c9 =>
 newV 47 ((.agg c9.toArray) : Value).cells.toList h8 fun v10 h11 =>
 bnd (faV 0 v1) fun v12 =>
 bnd (ldV 1 false v12 h11) fun v13 =>
 bnd (lnV v13) fun v14 =>
 Lfp (fun (s15 : Nat → Value) h16 again17 =>
 bnd (binV .lss (s15 4) (s15 3)) fun v18 =>
 ifV v18 (
 bnd (isV 1 (s15 2) (s15 4)) fun v19 =>
 bnd (ldV 1 false v19 h16) fun v20 =>
 bnd (faV 0 (s15 0)) fun v21 =>
 bnd (ldV 1 false v21 h16) fun v22 =>
 bnd (lnV v22) fun v23 =>
 bnd (faV 1 (s15 0)) fun v24 =>
 bnd (ldV 1 false v24 h16) fun v25 =>
 bnd (faV 2 (s15 0)) fun v26 =>
 bnd (ldV 1 false v26 h16) fun v27 =>
 T Tryz.prog 12 [(s15 4), v23, v25, v27, v20] h16 fun v28 h29 =>
 bnd (exV v28 0) fun v30 =>
 bnd (exV v28 1) fun v31 =>
 bnd (ncV (s15 1)) fun v32 =>
 bnd (faV 1 v32) fun v33 =>
 bnd (ldV 1 false v33 h29) fun v34 =>
 bsV 49 1 [(.pointer none)] [(0, 1, v30)] h29 fun v35 h36 =>
 apV 49 1 8 v34 v35 h36 fun v37 h38 =>
 bnd (ncV (s15 1)) fun v39 =>
 bnd (faV 1 v39) fun v40 =>
 bnd (stV 1 v40 v37 h38) fun h41 =>
 bnd (binV .add (s15 4) (.int .i64 1)) fun v42 =>
 again17 (tup [(s15 0), (s15 1), (s15 2), (s15 3), v42]) h41) (
 K (.tuple #[(s15 1), (.int .i64 0)]) h16)) (tup [v1, v10, v13, v14, (.int .i64 0)]) h11)
def A5 : Ann := ⟨fun _ => ([], []), fun | 0 => [1, 4, 16, 17, 18] | _ => []⟩
theorem S5_T {a0 : Value} {h : GH} {K : Value → GH → Prop} (g : S5 a0 h K) : T Tryz.prog 5 [a0] h K :=
  T_of_gwp (A := A5) Tryz.func5 (c := bodyOf Tryz.f5) (by kernel_rfl) (by kernel_rfl) (by kernel_rfl) (by kernel_rfl) (by kernel_rfl) (Eq.mp (by kernel_rfl) g)
def S6 (a0 : Value) (h : GH) (K : Value → GH → Prop) : Prop :=
 K a0 h
def A6 : Ann := ⟨fun _ => ([], []), fun _ => []⟩
theorem S6_T {a0 : Value} {h : GH} {K : Value → GH → Prop} (g : S6 a0 h K) : T Tryz.prog 6 [a0] h K :=
  T_of_gwp (A := A6) Tryz.func6 (c := bodyOf Tryz.f6) (by kernel_rfl) (by kernel_rfl) (by kernel_rfl) (by kernel_rfl) (by kernel_rfl) (Eq.mp (by kernel_rfl) g)
def S7_j2 (x0 x6 x7 : Value) (h : GH) (K : Value → GH → Prop)  : Prop :=
 bnd (ncV x0) fun v1 =>
 bnd (faV 14 v1) fun v2 =>
 bnd (ldV 1 false v2 h) fun v3 =>
 bnd (binV .add v3 (.int .i64 1)) fun v4 =>
 bnd (ncV x0) fun v5 =>
 bnd (faV 14 v5) fun v6 =>
 bnd (stV 1 v6 v4 h) fun h7 =>
 bnd (eqI x7 (.int .i64 0)) fun b8 =>
 ifV (.bool (!b8)) (
 K (.tuple #[x6, (.int .i64 1900)]) h7) (
 K (.tuple #[x6, (.int .i64 0)]) h7)
def S7_j1 (x0 x1 : Value) (h : GH) (K : Value → GH → Prop)  : Prop :=
 bnd (ncV x0) fun v1 =>
 bnd (faV 1 v1) fun v2 =>
 bnd (ldV 1 false v2 h) fun v3 =>
 bnd (isV 1 v3 x1) fun v4 =>
 bnd (ldV 1 false v4 h) fun v5 =>
 bnd (ncV x0) fun v6 =>
 bnd (faV 0 v6) fun v7 =>
 bnd (ldV 1 false v7 h) fun v8 =>
 bnd (ncV x0) fun v9 =>
 bnd (faV 2 v9) fun v10 =>
 bnd (ncV x0) fun v11 =>
 bnd (faV 14 v11) fun v12 =>
 bnd (ldV 1 false v12 h) fun v13 =>
 T Tryz.prog 14 [v5, v8, v10, v13] h fun v14 h15 =>
 bnd (exV v14 0) fun v16 =>
 bnd (exV v14 1) fun v17 =>
 ifV v16 (
 T Tryz.prog 15 [x0, x1] h15 fun v18 h19 =>
 S7_j2 x0 v16 v17 h19 K ) (
 S7_j2 x0 v16 v17 h15 K )
def S7 (a0 a1 : Value) (h : GH) (K : Value → GH → Prop) : Prop :=
 bnd (eqK .ptr true a0 (.pointer none)) fun b1 =>
 ifV (.bool b1) (
 K (.tuple #[(.bool false), (.int .i64 1)]) h) (
 bnd (ncV a0) fun v2 =>
 bnd (faV 1 v2) fun v3 =>
 bnd (ldV 1 false v3 h) fun v4 =>
 bnd (lnV v4) fun v5 =>
 T Tryz.prog 13 [a1, v5] h fun v6 h7 =>
 bnd (unV .not v6) fun v8 =>
 ifV v8 (
 K (.tuple #[(.bool false), (.int .i64 1900)]) h7) (
 bnd (ncV a0) fun v9 =>
 bnd (faV 14 v9) fun v10 =>
 bnd (ldV 1 false v10 h7) fun v11 =>
 bnd (binV .geq v11 (.int .i64 65536)) fun v12 =>
 ifV v12 (
 K (.tuple #[(.bool false), (.int .i64 1900)]) h7) (
 S7_j1 a0 a1 h7 K )))
def A7 : Ann := ⟨fun | 5 => ([0, 1, 2, 3, 4, 5, 6, 7, 8, 9, 10, 11, 12, 13, 14, 15, 16, 17, 18, 19, 20, 21, 22, 23], [0, 1, 3, 7, 0, 31, 63, 0, 128, 384, 896, 0, 2048, 6144, 0, 16384, 49152, 114688, 262143, 524287, 1048575, 1048575, 2097151, 8388607]) | _ => ([], []), fun _ => []⟩
theorem S7_T {a0 a1 : Value} {h : GH} {K : Value → GH → Prop} (g : S7 a0 a1 h K) : T Tryz.prog 7 [a0, a1] h K :=
  T_of_gwp (A := A7) Tryz.func7 (c := bodyOf Tryz.f7) (by kernel_rfl) (by kernel_rfl) (by kernel_rfl) (by kernel_rfl) (by kernel_rfl) (Eq.mp (by kernel_rfl) g)
def S8 (a0 : Value) (h : GH) (K : Value → GH → Prop) : Prop :=
 bnd (eqK .ptr true a0 (.pointer none)) fun b1 =>
 ifV (.bool b1) (
 K (.slice none 0 0) h) (
 bnd (ncV a0) fun v2 =>
 bnd (faV 15 v2) fun v3 =>
 bnd (ldV 1 false v3 h) fun v4 =>
 T Tryz.prog 16 [v4] h fun v5 h6 =>
 K v5 h6)
def A8 : Ann := ⟨fun _ => ([], []), fun _ => []⟩
theorem S8_T {a0 : Value} {h : GH} {K : Value → GH → Prop} (g : S8 a0 h K) : T Tryz.prog 8 [a0] h K :=
  T_of_gwp (A := A8) Tryz.func8 (c := bodyOf Tryz.f8) (by kernel_rfl) (by kernel_rfl) (by kernel_rfl) (by kernel_rfl) (by kernel_rfl) (Eq.mp (by kernel_rfl) g)
def S9 (a0 : Value) (h : GH) (K : Value → GH → Prop) : Prop :=
 bnd (lnV a0) fun v1 =>
 Lfp (fun (s2 : Nat → Value) h3 again4 =>
 bnd (binV .lss (s2 3) (s2 2)) fun v5 =>
 ifV v5 (
 bnd (isV 8 (s2 1) (s2 3)) fun v6 =>
 bnd (ldV 8 true v6 h3) fun v7 =>
 newV 39 [(.int .i64 0), (.int .i64 0), (.int .i64 0), (.int .i64 0), (.int .i64 0), (.int .i64 0), (.int .i64 0), (.int .i64 0)] h3 fun v8 h9 =>
 bnd (stV 8 v8 v7 h9) fun h10 =>
 bnd (faV 5 v8) fun v11 =>
 bnd (ldV 1 false v11 h10) fun v12 =>
 bnd (eqI v12 (.int .i64 (-1))) fun b13 =>
 bnd (faV 2 v8) fun v14 =>
 bnd (ldV 1 false v14 h10) fun v15 =>
 T Tryz.prog 13 [v15, (.int .i64 634)] h10 fun v16 h17 =>
 bnd (unV .not v16) fun v18 =>
 ifV v18 (
 K (.tuple #[(.int .i64 0), (.int .i64 2100)]) h17) (
 ifV (.bool (!b13)) (
 bnd (faV 5 v8) fun v19 =>
 bnd (ldV 1 false v19 h17) fun v20 =>
 T Tryz.prog 13 [v20, (.int .i64 12)] h17 fun v21 h22 =>
 bnd (unV .not v21) fun v23 =>
 ifV v23 (
 K (.tuple #[(.int .i64 0), (.int .i64 2100)]) h22) (
 bnd (faV 6 v8) fun v24 =>
 bnd (ldV 1 false v24 h22) fun v25 =>
 bnd (faV 7 v8) fun v26 =>
 bnd (ldV 1 false v26 h22) fun v27 =>
 bnd (eqI v25 v27) fun b28 =>
 ifV (.bool (!b28)) (
 K (.tuple #[(.int .i64 0), (.int .i64 2100)]) h22) (
 ifV (.bool (!b13)) (
 bnd (binV .add (s2 0) (.int .i64 1)) fun v29 =>
 bnd (binV .add (s2 3) (.int .i64 1)) fun v30 =>
 again4 (tup [v29, (s2 1), (s2 2), v30]) h22) (
 bnd (binV .add (s2 3) (.int .i64 1)) fun v31 =>
 again4 (tup [(s2 0), (s2 1), (s2 2), v31]) h22)))) (
 ifV (.bool (!b13)) (
 bnd (binV .add (s2 0) (.int .i64 1)) fun v32 =>
 bnd (binV .add (s2 3) (.int .i64 1)) fun v33 =>
 again4 (tup [v32, (s2 1), (s2 2), v33]) h17) (
 bnd (binV .add (s2 3) (.int .i64 1)) fun v34 =>
 again4 (tup [(s2 0), (s2 1), (s2 2), v34]) h17)))) (
 K (.tuple #[(s2 0), (.int .i64 0)]) h3)) (tup [(.int .i64 0), a0, v1, (.int .i64 0)]) h
def A9 : Ann := ⟨fun _ => ([], []), fun | 0 => [4, 8, 9, 10] | _ => []⟩
theorem S9_T {a0 : Value} {h : GH} {K : Value → GH → Prop} (g : S9 a0 h K) : T Tryz.prog 9 [a0] h K :=
  T_of_gwp (A := A9) Tryz.func9 (c := bodyOf Tryz.f9) (by kernel_rfl) (by kernel_rfl) (by kernel_rfl) (by kernel_rfl) (by kernel_rfl) (Eq.mp (by kernel_rfl) g)
def S10_j1 (x1 : Value) (h : GH) (K : Value → GH → Prop)  : Prop :=
 bnd (faV 0 x1) fun v1 =>
 bnd (ldV 1 false v1 h) fun v2 =>
 bnd (lnV v2) fun v3 =>
 Lfp (fun (s4 : Nat → Value) h5 again6 =>
 bnd (binV .lss (s4 2) (s4 1)) fun v7 =>
 ifV v7 (
 bnd (isV 1 (s4 0) (s4 2)) fun v8 =>
 bnd (ldV 1 false v8 h5) fun v9 =>
 bnd (lnV v9) fun v10 =>
 bnd (binV .gtr v10 (.int .i64 8)) fun v11 =>
 ifV v11 (
 K (.bool false) h5) (
 bnd (lnV v9) fun v12 =>
 Lfp (fun (s13 : Nat → Value) h14 again15 =>
 bnd (binV .lss (s13 5) (s13 4)) fun v16 =>
 ifV v16 (
 bnd (isV 1 (s13 3) (s13 5)) fun v17 =>
 bnd (ldV 1 true v17 h14) fun v18 =>
 newV 59 [(.slice none 0 0)] h14 fun v19 h20 =>
 bnd (stV 1 v19 v18 h20) fun h21 =>
 bnd (faV 0 v19) fun v22 =>
 bnd (ldV 1 false v22 h21) fun v23 =>
 T Tryz.prog 17 [v23] h21 fun v24 h25 =>
 bnd (unV .not v24) fun v26 =>
 ifV v26 (
 K (.bool false) h25) (
 bnd (binV .add (s13 5) (.int .i64 1)) fun v27 =>
 again15 (tup [(s13 0), (s13 1), (s13 2), (s13 3), (s13 4), v27]) h25)) (
 bnd (binV .add (s13 2) (.int .i64 1)) fun v28 =>
 again6 (tup [(s13 0), (s13 1), v28]) h14)) (tup [(s4 0), (s4 1), (s4 2), v9, v12, (.int .i64 0)]) h5)) (
 K (.bool true) h5)) (tup [v2, v3, (.int .i64 0)]) h
def S10 (a0 : Value) (h : GH) (K : Value → GH → Prop) : Prop :=
 newV 24 (a0 : Value).cells.toList h fun v1 h2 =>
 bnd (faV 0 v1) fun v3 =>
 bnd (ldV 1 false v3 h2) fun v4 =>
 bnd (lnV v4) fun v5 =>
 bnd (binV .lss v5 (.int .i64 1)) fun v6 =>
 ifV v6 (
 K (.bool false) h2) (
 bnd (faV 0 v1) fun v7 =>
 bnd (ldV 1 false v7 h2) fun v8 =>
 bnd (lnV v8) fun v9 =>
 bnd (binV .gtr v9 (.int .i64 4)) fun v10 =>
 ifV v10 (
 K (.bool false) h2) (
 bnd (faV 1 v1) fun v11 =>
 bnd (ldV 1 false v11 h2) fun v12 =>
 bnd (binV .lss v12 (.int .i64 1)) fun v13 =>
 ifV v13 (
 K (.bool false) h2) (
 bnd (faV 1 v1) fun v14 =>
 bnd (ldV 1 false v14 h2) fun v15 =>
 bnd (binV .gtr v15 (.int .i64 16)) fun v16 =>
 ifV v16 (
 K (.bool false) h2) (
 S10_j1 v1 h2 K ))))
def A10 : Ann := ⟨fun _ => ([], []), fun | 0 => [28, 29, 30] | 2 => [28, 29, 30, 37, 38, 39] | _ => []⟩
theorem S10_T {a0 : Value} {h : GH} {K : Value → GH → Prop} (g : S10 a0 h K) : T Tryz.prog 10 [a0] h K :=
  T_of_gwp (A := A10) Tryz.func10 (c := bodyOf Tryz.f10) (by kernel_rfl) (by kernel_rfl) (by kernel_rfl) (by kernel_rfl) (by kernel_rfl) (Eq.mp (by kernel_rfl) g)
def S11 (h : GH) (K : Value → GH → Prop) : Prop :=
 bnd (fillV (List.replicate 642 (.int .i64 0) ++ [(.bool false)]) []) fun c1 =>
 newV 63 ((.agg c1.toArray) : Value).cells.toList h fun v2 h3 =>
 bnd (ncV v2) fun v4 =>
 bnd (faV 0 v4) fun v5 =>
 T Tryz.prog 18 [(.int .i64 1)] h3 fun v6 h7 =>
 bnd (iaV 634 1 v5 (.int .i64 16)) fun v8 =>
 bnd (stV 1 v8 v6 h7) fun h9 =>
 Lfp (fun (s10 : Nat → Value) h11 again12 =>
 bnd (binV .lss (s10 1) (.int .i64 11)) fun v13 =>
 ifV v13 (
 bnd (binV .add (.int .i64 17) (s10 1)) fun v14 =>
 bnd (binV .add (s10 1) (.int .i64 2)) fun v15 =>
 bnd (ncV (s10 0)) fun v16 =>
 bnd (faV 0 v16) fun v17 =>
 T Tryz.prog 18 [v15] h11 fun v18 h19 =>
 bnd (iaV 634 1 v17 v14) fun v20 =>
 bnd (stV 1 v20 v18 h19) fun h21 =>
 bnd (binV .add (s10 1) (.int .i64 1)) fun v22 =>
 again12 (tup [(s10 0), v22]) h21) (
 K (s10 0) h11)) (tup [v2, (.int .i64 0)]) h9
def A11 : Ann := ⟨fun | 2 => ([0, 2, 3, 1, 4, 5], [0, 0, 1, 5, 15, 31]) | 6 => ([0, 1, 2, 3, 4, 6, 7, 5, 8, 9], [0, 0, 2, 0, 8, 24, 1, 65, 255, 511]) | _ => ([], []), fun | 0 => [1, 10] | _ => []⟩
theorem S11_T {h : GH} {K : Value → GH → Prop} (g : S11 h K) : T Tryz.prog 11 [] h K :=
  T_of_gwp (A := A11) Tryz.func11 (c := bodyOf Tryz.f11) (by kernel_rfl) (by kernel_rfl) (by kernel_rfl) (by kernel_rfl) (by kernel_rfl) (Eq.mp (by kernel_rfl) g)
def S12_j1 (x0 x1 x2 x3 x4 : Value) (h : GH) (K : Value → GH → Prop)  : Prop :=
 bnd (fillV [(.int .i64 0), (.int .i64 0), (.int .i64 0), (.bool false), (.slice none 0 0), (.slice none 0 0), .nilFunc, (.bool false), (.int .i64 0), (.int .i64 0), (.int .i64 0), (.slice none 0 0), (.slice none 0 0), (.slice none 0 0), (.int .i64 0), (.pointer none), (.pointer none), (.pointer none), (.pointer none), (.pointer none), (.int .i64 0), (.int .i64 0), (.int .i64 0)] [(0, 1, x0), (1, 1, x1), (2, 1, x2), (3, 1, x3), (14, 1, (.int .i64 (-1)))]) fun c1 =>
 newV 77 ((.agg c1.toArray) : Value).cells.toList h fun v2 h3 =>
 bnd (lnV x4) fun v4 =>
 Lfp (fun (s5 : Nat → Value) h6 again7 =>
 bnd (binV .lss (s5 3) (s5 2)) fun v8 =>
 ifV v8 (
 bnd (isV 1 (s5 1) (s5 3)) fun v9 =>
 bnd (ldV 1 true v9 h6) fun v10 =>
 newV 59 [(.slice none 0 0)] h6 fun v11 h12 =>
 bnd (stV 1 v11 v10 h12) fun h13 =>
 bnd (ncV (s5 0)) fun v14 =>
 bnd (faV 4 v14) fun v15 =>
 bnd (ldV 1 false v15 h13) fun v16 =>
 bnd (faV 0 v11) fun v17 =>
 bnd (ldV 1 false v17 h13) fun v18 =>
 T Tryz.prog 19 [v18] h13 fun v19 h20 =>
 ldV 1 false v15 h20 = some v16 ∧
 bnd (fillV [(.slice none 0 0)] [(0, 1, v19)]) fun c21 =>
 bsV 59 1 [(.slice none 0 0)] [(0, 1, (.agg c21.toArray))] h20 fun v22 h23 =>
 apV 59 1 24 v16 v22 h23 fun v24 h25 =>
 bnd (ncV (s5 0)) fun v26 =>
 bnd (faV 4 v26) fun v27 =>
 bnd (stV 1 v27 v24 h25) fun h28 =>
 bnd (binV .add (s5 3) (.int .i64 1)) fun v29 =>
 again7 (tup [(s5 0), (s5 1), (s5 2), v29]) h28) (
 bnd (ncV (s5 0)) fun v30 =>
 bnd (faV 21 v30) fun v31 =>
 bnd (faV 0 v31) fun v32 =>
 bnd (stV 1 v32 (.int .i64 (-1)) h6) fun h33 =>
 K (.tuple #[(s5 0), (.int .i64 0)]) h33)) (tup [v2, x4, v4, (.int .i64 0)]) h3
def S12 (a0 a1 a2 a3 a4 : Value) (h : GH) (K : Value → GH → Prop) : Prop :=
 bnd (binV .lss a1 (.int .i64 1)) fun v1 =>
 ifV v1 (
 K (.tuple #[(.pointer none), (.int .i64 1800)]) h) (
 bnd (binV .gtr a1 (.int .i64 4)) fun v2 =>
 ifV v2 (
 K (.tuple #[(.pointer none), (.int .i64 1800)]) h) (
 T Tryz.prog 13 [a0, a1] h fun v3 h4 =>
 bnd (unV .not v3) fun v5 =>
 ifV v5 (
 K (.tuple #[(.pointer none), (.int .i64 1800)]) h4) (
 bsV 48 1 [(.slice none 0 0)] [(0, 1, a4)] h4 fun v6 h7 =>
 bnd (fillV [(.slice none 0 0), (.int .i64 0), (.bool false)] [(0, 1, v6), (1, 1, a2)]) fun c8 =>
 T Tryz.prog 10 [(.agg c8.toArray)] h7 fun v9 h10 =>
 bnd (unV .not v9) fun v11 =>
 ifV v11 (
 K (.tuple #[(.pointer none), (.int .i64 1800)]) h10) (
 S12_j1 a0 a1 a2 a3 a4 h10 K ))))
def A12 : Ann := ⟨fun | 7 => ([0, 1, 2, 3, 4, 5, 6, 7, 8, 9, 10, 11, 12, 13], [0, 0, 2, 6, 14, 0, 32, 96, 224, 480, 1022, 2047, 4095, 8191]) | _ => ([], []), fun | 0 => [12, 41, 42, 43] | _ => []⟩
theorem S12_T {a0 a1 a2 a3 a4 : Value} {h : GH} {K : Value → GH → Prop} (g : S12 a0 a1 a2 a3 a4 h K) : T Tryz.prog 12 [a0, a1, a2, a3, a4] h K :=
  T_of_gwp (A := A12) Tryz.func12 (c := bodyOf Tryz.f12) (by kernel_rfl) (by kernel_rfl) (by kernel_rfl) (by kernel_rfl) (by kernel_rfl) (Eq.mp (by kernel_rfl) g)
def S13 (a0 a1 : Value) (h : GH) (K : Value → GH → Prop) : Prop :=
 bnd (binV .geq a0 (.int .i64 0)) fun v1 =>
 ifV v1 (
 bnd (binV .lss a0 a1) fun v2 =>
 K v2 h) (
 K (.bool false) h)
def A13 : Ann := ⟨fun _ => ([], []), fun _ => []⟩
theorem S13_T {a0 a1 : Value} {h : GH} {K : Value → GH → Prop} (g : S13 a0 a1 h K) : T Tryz.prog 13 [a0, a1] h K :=
  T_of_gwp (A := A13) Tryz.func13 (c := bodyOf Tryz.f13) (by kernel_rfl) (by kernel_rfl) (by kernel_rfl) (by kernel_rfl) (by kernel_rfl) (Eq.mp (by kernel_rfl) g)
def S14_j3 (x0 x1 x2 x3 : Value) (h : GH) (K : Value → GH → Prop)  : Prop :=
 bnd (ncV x0) fun v1 =>
 bnd (faV 6 v1) fun v2 =>
 bnd (ldV 1 false v2 h) fun v3 =>
 bnd (fillV [(.pointer none), (.pointer none), (.pointer none), (.int .i64 0)] [(0, 1, x0), (1, 1, x1), (2, 1, x2), (3, 1, x3)]) fun c4 =>
 newV 84 ((.agg c4.toArray) : Value).cells.toList h fun v5 h6 =>
 callV Tryz.prog v3 [v5] h6 fun v7 h8 =>
 bnd (eqI v7 (.int .i64 0)) fun b9 =>
 ifV (.bool (!b9)) (
 bnd (ncV x0) fun v10 =>
 bnd (faV 7 v10) fun v11 =>
 bnd (stV 1 v11 (.bool true) h8) fun h12 =>
 K (.tuple #[(.bool true), (.int .i64 1800)]) h12) (
 K (.tuple #[(.bool true), (.int .i64 0)]) h8)
def S14_j2 (x0 x1 x2 x3 : Value) (h : GH) (K : Value → GH → Prop)  : Prop :=
 bnd (fillV [(.int .i64 0), (.int .i64 0)] [(0, 1, (.int .i64 (-1)))]) fun c1 =>
 bnd (ncV x0) fun v2 =>
 bnd (faV 21 v2) fun v3 =>
 bnd (stV 2 v3 (.agg c1.toArray) h) fun h4 =>
 bnd (ncV x0) fun v5 =>
 bnd (faV 6 v5) fun v6 =>
 bnd (ldV 1 false v6 h4) fun v7 =>
 bnd (eqK .func true v7 .nilFunc) fun b8 =>
 ifV (.bool b8) (
 T Tryz.prog 20 [x0, x3] h4 fun v9 h10 =>
 bnd (unV .not v9) fun v11 =>
 ifV v11 (
 K (.tuple #[(.bool false), (.int .i64 0)]) h10) (
 S14_j3 x0 x1 x2 x3 h10 K )) (
 S14_j3 x0 x1 x2 x3 h4 K )
def S14_j1 (x0 x1 x2 x3 x11 : Value) (h : GH) (K : Value → GH → Prop)  : Prop :=
 ifV x11 (
 K (.tuple #[(.bool false), (.int .i64 1)]) h) (
 bnd (ncV x0) fun v1 =>
 bnd (faV 7 v1) fun v2 =>
 bnd (ldV 1 false v2 h) fun v3 =>
 ifV v3 (
 K (.tuple #[(.bool false), (.int .i64 1800)]) h) (
 S14_j2 x0 x1 x2 x3 h K ))
def S14 (a0 a1 a2 a3 : Value) (h : GH) (K : Value → GH → Prop) : Prop :=
 bnd (eqK .ptr true a0 (.pointer none)) fun b1 =>
 ifV (.bool b1) (
 S14_j1 a0 a1 a2 a3 (.bool true) h K ) (
 bnd (eqK .ptr true a1 (.pointer none)) fun b2 =>
 ifV (.bool b2) (
 S14_j1 a0 a1 a2 a3 (.bool true) h K ) (
 bnd (eqK .ptr true a2 (.pointer none)) fun b3 =>
 S14_j1 a0 a1 a2 a3 (.bool b3) h K ))
def A14 : Ann := ⟨fun _ => ([], []), fun _ => []⟩
theorem S14_T {a0 a1 a2 a3 : Value} {h : GH} {K : Value → GH → Prop} (g : S14 a0 a1 a2 a3 h K) : T Tryz.prog 14 [a0, a1, a2, a3] h K :=
  T_of_gwp (A := A14) Tryz.func14 (c := bodyOf Tryz.f14) (by kernel_rfl) (by kernel_rfl) (by kernel_rfl) (by kernel_rfl) (by kernel_rfl) (Eq.mp (by kernel_rfl) g)
def S15_j1 (x0 x4 : Value) (h : GH) (K : Value → GH → Prop)  : Prop :=
 bnd (ncV x0) fun v1 =>
 bnd (faV 15 v1) fun v2 =>
 bnd (ldV 1 false v2 h) fun v3 =>
 bnd (ldV 8 true x4 h) fun v4 =>
 bsV 39 1 [(.int .i64 0), (.int .i64 0), (.int .i64 0), (.int .i64 0), (.int .i64 0), (.int .i64 0), (.int .i64 0), (.int .i64 0)] [(0, 8, v4)] h fun v5 h6 =>
 apV 39 8 64 v3 v5 h6 fun v7 h8 =>
 bnd (ncV x0) fun v9 =>
 bnd (faV 15 v9) fun v10 =>
 bnd (stV 1 v10 v7 h8) fun h11 =>
 T Tryz.prog 23 [x4] h11 fun v12 h13 =>
 bnd (exV v12 0) fun v14 =>
 bnd (exV v12 1) fun v15 =>
 ifV v15 (
 bnd (ncV x0) fun v16 =>
 bnd (faV 1 v16) fun v17 =>
 bnd (ldV 1 false v17 h13) fun v18 =>
 bnd (lnV v18) fun v19 =>
 Lfp (fun (s20 : Nat → Value) h21 again22 =>
 bnd (binV .lss (s20 4) (s20 3)) fun v23 =>
 ifV v23 (
 bnd (isV 1 (s20 2) (s20 4)) fun v24 =>
 bnd (ldV 1 false v24 h21) fun v25 =>
 bnd (ncV (s20 0)) fun v26 =>
 bnd (faV 14 v26) fun v27 =>
 bnd (ldV 1 false v27 h21) fun v28 =>
 T Tryz.prog 24 [v25, (s20 1), v28] h21 fun v29 h30 =>
 bnd (binV .add (s20 4) (.int .i64 1)) fun v31 =>
 again22 (tup [(s20 0), (s20 1), (s20 2), (s20 3), v31]) h30) (
 K (.tuple #[]) h21)) (tup [x0, v14, v18, v19, (.int .i64 0)]) h13) (
 K (.tuple #[]) h13)
def S15 (a0 a1 : Value) (h : GH) (K : Value → GH → Prop) : Prop :=
 bnd (ncV a0) fun v1 =>
 bnd (faV 0 v1) fun v2 =>
 bnd (ldV 1 false v2 h) fun v3 =>
 T Tryz.prog 21 [v3] h fun v4 h5 =>
 bnd (exV v4 0) fun v6 =>
 bnd (exV v4 1) fun v7 =>
 newV 39 [(.int .i64 0), (.int .i64 0), (.int .i64 0), (.int .i64 0), (.int .i64 0), (.int .i64 0), (.int .i64 0), (.int .i64 0)] h5 fun v8 h9 =>
 bnd (stV 8 v8 v6 h9) fun h10 =>
 bnd (faV 0 v8) fun v11 =>
 bnd (stV 1 v11 a1 h10) fun h12 =>
 bnd (ncV a0) fun v13 =>
 bnd (faV 1 v13) fun v14 =>
 bnd (ldV 1 false v14 h12) fun v15 =>
 bnd (isV 1 v15 a1) fun v16 =>
 bnd (ldV 1 false v16 h12) fun v17 =>
 T Tryz.prog 22 [v17] h12 fun v18 h19 =>
 bnd (exV v18 0) fun v20 =>
 bnd (exV v18 1) fun v21 =>
 bnd (faV 5 v8) fun v22 =>
 bnd (stV 1 v22 v20 h19) fun h23 =>
 bnd (faV 6 v8) fun v24 =>
 bnd (stV 1 v24 v21 h23) fun h25 =>
 bnd (faV 5 v8) fun v26 =>
 bnd (ldV 1 false v26 h25) fun v27 =>
 bnd (binV .geq v27 (.int .i64 0)) fun v28 =>
 ifV v28 (
 bnd (faV 5 v8) fun v29 =>
 bnd (ldV 1 false v29 h25) fun v30 =>
 bnd (ncV a0) fun v31 =>
 bnd (faV 2 v31) fun v32 =>
 bnd (iaV 12 1 v32 v30) fun v33 =>
 bnd (ldV 1 false v33 h25) fun v34 =>
 bnd (faV 7 v8) fun v35 =>
 bnd (stV 1 v35 v34 h25) fun h36 =>
 S15_j1 a0 v8 h36 K ) (
 S15_j1 a0 v8 h25 K )
def A15 : Ann := ⟨fun | 4 => ([0, 1, 2, 3, 4, 5, 6, 7, 8], [0, 0, 2, 1, 9, 31, 63, 127, 255]) | 5 => ([0, 1, 2, 3, 4, 5, 6, 7, 8, 9, 10], [0, 0, 2, 6, 14, 0, 32, 126, 255, 511, 1023]) | _ => ([], []), fun | 0 => [0, 6, 62, 63, 64] | _ => []⟩
theorem S15_T {a0 a1 : Value} {h : GH} {K : Value → GH → Prop} (g : S15 a0 a1 h K) : T Tryz.prog 15 [a0, a1] h K :=
  T_of_gwp (A := A15) Tryz.func15 (c := bodyOf Tryz.f15) (by kernel_rfl) (by kernel_rfl) (by kernel_rfl) (by kernel_rfl) (by kernel_rfl) (Eq.mp (by kernel_rfl) g)
def S16 (a0 : Value) (h : GH) (K : Value → GH → Prop) : Prop :=
 bnd (eqK .slice true a0 (.slice none 0 0)) fun b1 =>
 ifV (.bool b1) (
 K (.slice none 0 0) h) (
 bsV 39 0 [] [] h fun v2 h3 =>
 apV 39 8 64 v2 a0 h3 fun v4 h5 =>
 K v4 h5)
def A16 : Ann := ⟨fun _ => ([], []), fun _ => []⟩
theorem S16_T {a0 : Value} {h : GH} {K : Value → GH → Prop} (g : S16 a0 h K) : T Tryz.prog 16 [a0] h K :=
  T_of_gwp (A := A16) Tryz.func16 (c := bodyOf Tryz.f16) (by kernel_rfl) (by kernel_rfl) (by kernel_rfl) (by kernel_rfl) (by kernel_rfl) (Eq.mp (by kernel_rfl) g)
def S17 (a0 : Value) (h : GH) (K : Value → GH → Prop) : Prop :=
 bnd (lnV a0) fun v1 =>
 Lfp (fun (s2 : Nat → Value) h3 again4 =>
 bnd (binV .lss (s2 2) (s2 1)) fun v5 =>
 ifV v5 (
 bnd (isV 4 (s2 0) (s2 2)) fun v6 =>
 T Tryz.prog 25 [v6] h3 fun v7 h8 =>
 bnd (unV .not v7) fun v9 =>
 ifV v9 (
 K (.bool false) h8) (
 bnd (binV .add (s2 2) (.int .i64 1)) fun v10 =>
 again4 (tup [(s2 0), (s2 1), v10]) h8)) (
 bnd (lnV (s2 0)) fun v11 =>
 bnd (binV .geq v11 (.int .i64 1)) fun v12 =>
 ifV v12 (
 bnd (lnV (s2 0)) fun v13 =>
 bnd (binV .leq v13 (.int .i64 2)) fun v14 =>
 K v14 h3) (
 K (.bool false) h3))) (tup [a0, v1, (.int .i64 0)]) h
def A17 : Ann := ⟨fun _ => ([], []), fun | 0 => [0, 5, 6] | _ => []⟩
theorem S17_T {a0 : Value} {h : GH} {K : Value → GH → Prop} (g : S17 a0 h K) : T Tryz.prog 17 [a0] h K :=
  T_of_gwp (A := A17) Tryz.func17 (c := bodyOf Tryz.f17) (by kernel_rfl) (by kernel_rfl) (by kernel_rfl) (by kernel_rfl) (by kernel_rfl) (Eq.mp (by kernel_rfl) g)
def S18 (a0 : Value) (h : GH) (K : Value → GH → Prop) : Prop :=
 T Tryz.prog 26 [a0] h fun v1 h2 =>
 K v1 h2
def A18 : Ann := ⟨fun _ => ([], []), fun _ => []⟩
theorem S18_T {a0 : Value} {h : GH} {K : Value → GH → Prop} (g : S18 a0 h K) : T Tryz.prog 18 [a0] h K :=
  T_of_gwp (A := A18) Tryz.func18 (c := bodyOf Tryz.f18) (by kernel_rfl) (by kernel_rfl) (by kernel_rfl) (by kernel_rfl) (by kernel_rfl) (Eq.mp (by kernel_rfl) g)
def S19 (a0 : Value) (h : GH) (K : Value → GH → Prop) : Prop :=
 bnd (eqK .slice true a0 (.slice none 0 0)) fun b1 =>
 ifV (.bool b1) (
 K (.slice none 0 0) h) (
 bsV 80 0 [] [] h fun v2 h3 =>
 apV 80 4 32 v2 a0 h3 fun v4 h5 =>
 K v4 h5)
def A19 : Ann := ⟨fun _ => ([], []), fun _ => []⟩
theorem S19_T {a0 : Value} {h : GH} {K : Value → GH → Prop} (g : S19 a0 h K) : T Tryz.prog 19 [a0] h K :=
  T_of_gwp (A := A19) Tryz.func19 (c := bodyOf Tryz.f19) (by kernel_rfl) (by kernel_rfl) (by kernel_rfl) (by kernel_rfl) (by kernel_rfl) (Eq.mp (by kernel_rfl) g)
def S20_j1 (x0 : Value) (h : GH) (K : Value → GH → Prop)  : Prop :=
 bnd (ncV x0) fun v1 =>
 bnd (faV 0 v1) fun v2 =>
 bnd (ldV 1 false v2 h) fun v3 =>
 T Tryz.prog 28 [v3] h fun v4 h5 =>
 bnd (exV v4 0) fun v6 =>
 bnd (exV v4 1) fun v7 =>
 bnd (ncV x0) fun v8 =>
 bnd (faV 15 v8) fun v9 =>
 bnd (stV 1 v9 v6 h5) fun h10 =>
 bnd (ncV x0) fun v11 =>
 bnd (faV 20 v11) fun v12 =>
 bnd (stV 1 v12 (.int .i64 2) h10) fun h13 =>
 bnd (ncV x0) fun v14 =>
 bnd (faV 6 v14) fun v15 =>
 bnd (stV 1 v15 (.func (.func 29) #[] #[]) h13) fun h16 =>
 K (.bool true) h16
def S20 (a0 a1 : Value) (h : GH) (K : Value → GH → Prop) : Prop :=
 T Tryz.prog 27 [a0] h fun v1 h2 =>
 ifV v1 (
 K (.bool false) h2) (
 bnd (ncV a0) fun v3 =>
 bnd (faV 9 v3) fun v4 =>
 bnd (ldV 1 false v4 h2) fun v5 =>
 bnd (binV .gtr v5 (.int .i64 0)) fun v6 =>
 ifV v6 (
 bnd (ncV a0) fun v7 =>
 bnd (faV 9 v7) fun v8 =>
 bnd (ldV 1 false v8 h2) fun v9 =>
 bnd (binV .sub v9 (.int .i64 1)) fun v10 =>
 bnd (ncV a0) fun v11 =>
 bnd (faV 9 v11) fun v12 =>
 bnd (stV 1 v12 v10 h2) fun h13 =>
 K (.bool false) h13) (
 bnd (ncV a0) fun v14 =>
 bnd (faV 8 v14) fun v15 =>
 bnd (ldV 1 false v15 h2) fun v16 =>
 bnd (eqI v16 (.int .i64 0)) fun b17 =>
 ifV (.bool b17) (
 bnd (ncV a0) fun v18 =>
 bnd (faV 5 v18) fun v19 =>
 bnd (ldV 1 false v19 h2) fun v20 =>
 bnd (ncV a0) fun v21 =>
 bnd (faV 0 v21) fun v22 =>
 bnd (ldV 1 false v22 h2) fun v23 =>
 bnd (ncV a0) fun v24 =>
 bnd (faV 5 v24) fun v25 =>
 bnd (ldV 1 false v25 h2) fun v26 =>
 bnd (lnV v26) fun v27 =>
 bnd (fillV [(.int .i64 0), (.int .i64 0), (.int .i64 0), (.int .i64 0), (.int .i64 0), (.int .i64 0), (.int .i64 0), (.slice none 0 0)] [(0, 1, v23), (1, 1, v27), (2, 1, a1), (3, 1, (.int .i64 (-1))), (4, 1, (.int .i64 (-1)))]) fun c28 =>
 bsV 99 1 [(.int .i64 0), (.int .i64 0), (.int .i64 0), (.int .i64 0), (.int .i64 0), (.int .i64 0), (.int .i64 0), (.slice none 0 0)] [(0, 8, (.agg c28.toArray))] h2 fun v29 h30 =>
 apV 99 8 80 v20 v29 h30 fun v31 h32 =>
 bnd (ncV a0) fun v33 =>
 bnd (faV 5 v33) fun v34 =>
 bnd (stV 1 v34 v31 h32) fun h35 =>
 S20_j1 a0 h35 K ) (
 S20_j1 a0 h2 K )))
def A20 : Ann := ⟨fun | 7 => ([0, 1, 2, 3, 4, 5, 6, 7, 8, 9, 10, 11, 12, 13, 14, 15, 16, 17, 18, 19, 20], [0, 0, 2, 6, 14, 0, 32, 96, 224, 0, 512, 1536, 3584, 7680, 0, 32736, 65504, 131070, 262143, 524287, 1048575]) | _ => ([], []), fun _ => []⟩
theorem S20_T {a0 a1 : Value} {h : GH} {K : Value → GH → Prop} (g : S20 a0 a1 h K) : T Tryz.prog 20 [a0, a1] h K :=
  T_of_gwp (A := A20) Tryz.func20 (c := bodyOf Tryz.f20) (by kernel_rfl) (by kernel_rfl) (by kernel_rfl) (by kernel_rfl) (by kernel_rfl) (Eq.mp (by kernel_rfl) g)
def S21 (a0 : Value) (h : GH) (K : Value → GH → Prop) : Prop :=
 newV 39 [(.int .i64 0), (.int .i64 0), (.int .i64 0), (.int .i64 0), (.int .i64 0), (.int .i64 0), (.int .i64 0), (.int .i64 0)] h fun v1 h2 =>
 bnd (eqK .ptr true a0 (.pointer none)) fun b3 =>
 ifV (.bool b3) (
 bnd (fillV [(.int .i64 0), (.int .i64 0), (.int .i64 0), (.int .i64 0), (.int .i64 0), (.int .i64 0), (.int .i64 0), (.int .i64 0)] []) fun c4 =>
 bnd (stV 8 v1 (.agg c4.toArray) h2) fun h5 =>
 bnd (ldV 8 true v1 h5) fun v6 =>
 K (.tuple #[v6, (.bool false)]) h5) (
 bnd (ncV a0) fun v7 =>
 bnd (faV 634 v7) fun v8 =>
 bnd (ldV 8 true v8 h2) fun v9 =>
 bnd (ncV a0) fun v10 =>
 bnd (faV 642 v10) fun v11 =>
 bnd (ldV 1 false v11 h2) fun v12 =>
 bnd (stV 8 v1 v9 h2) fun h13 =>
 ldV 1 false v11 h13 = some v12 ∧
 bnd (ldV 8 true v1 h13) fun v14 =>
 K (.tuple #[v14, v12]) h13)
def A21 : Ann := ⟨fun | 3 => ([0, 1, 2, 3, 4, 5, 6, 7, 8, 9], [0, 1, 3, 7, 0, 16, 48, 112, 15, 511]) | _ => ([], []), fun _ => []⟩
theorem S21_T {a0 : Value} {h : GH} {K : Value → GH → Prop} (g : S21 a0 h K) : T Tryz.prog 21 [a0] h K :=
  T_of_gwp (A := A21) Tryz.func21 (c := bodyOf Tryz.f21) (by kernel_rfl) (by kernel_rfl) (by kernel_rfl) (by kernel_rfl) (by kernel_rfl) (Eq.mp (by kernel_rfl) g)
def S22 (a0 : Value) (h : GH) (K : Value → GH → Prop) : Prop :=
 bnd (eqK .ptr true a0 (.pointer none)) fun b1 =>
 ifV (.bool b1) (
 K (.tuple #[(.int .i64 0), (.int .i64 0)]) h) (
 bnd (ncV a0) fun v2 =>
 bnd (faV 21 v2) fun v3 =>
 bnd (faV 0 v3) fun v4 =>
 bnd (ldV 1 false v4 h) fun v5 =>
 bnd (ncV a0) fun v6 =>
 bnd (faV 21 v6) fun v7 =>
 bnd (faV 1 v7) fun v8 =>
 bnd (ldV 1 false v8 h) fun v9 =>
 K (.tuple #[v5, v9]) h)
def A22 : Ann := ⟨fun | 3 => ([0, 1, 2, 3, 4, 5, 6, 7, 8, 9, 10, 11], [0, 1, 3, 7, 15, 0, 32, 96, 224, 480, 31, 2047]) | _ => ([], []), fun _ => []⟩
theorem S22_T {a0 : Value} {h : GH} {K : Value → GH → Prop} (g : S22 a0 h K) : T Tryz.prog 22 [a0] h K :=
  T_of_gwp (A := A22) Tryz.func22 (c := bodyOf Tryz.f22) (by kernel_rfl) (by kernel_rfl) (by kernel_rfl) (by kernel_rfl) (by kernel_rfl) (Eq.mp (by kernel_rfl) g)
def S23_j1 (x0 x4 x5 : Value) (h : GH) (K : Value → GH → Prop)  : Prop :=
 bnd (ncV x0) fun v1 =>
 bnd (faV 4 v1) fun v2 =>
 bnd (ldV 1 false v2 h) fun v3 =>
 bnd (binV .quo x5 (.int .i64 4)) fun v4 =>
 T Tryz.prog 32 [v4, (.int .i64 1)] h fun v5 h6 =>
 ldV 1 false v2 h6 = some v3 ∧
 bnd (eqI v3 v5) fun b7 =>
 K (.tuple #[x4, (.bool b7)]) h6
def S23 (a0 : Value) (h : GH) (K : Value → GH → Prop) : Prop :=
 bnd (ncV a0) fun v1 =>
 bnd (faV 2 v1) fun v2 =>
 bnd (ldV 1 false v2 h) fun v3 =>
 bnd (binV .sub v3 (.int .i64 34)) fun v4 =>
 bnd (binV .quo v4 (.int .i64 50)) fun v5 =>
 bnd (ncV a0) fun v6 =>
 bnd (faV 4 v6) fun v7 =>
 bnd (ldV 1 false v7 h) fun v8 =>
 T Tryz.prog 30 [v8] h fun v9 h10 =>
 bnd (exV v9 0) fun v11 =>
 bnd (exV v9 1) fun v12 =>
 bnd (ncV a0) fun v13 =>
 bnd (faV 1 v13) fun v14 =>
 bnd (ldV 1 false v14 h10) fun v15 =>
 bnd (eqI v15 (.int .i64 2)) fun b16 =>
 ifV (.bool (!b16)) (
 K (.tuple #[(.int .i64 0), (.bool false)]) h10) (
 bnd (ncV a0) fun v17 =>
 bnd (faV 3 v17) fun v18 =>
 bnd (ldV 1 false v18 h10) fun v19 =>
 bnd (ncV a0) fun v20 =>
 bnd (faV 4 v20) fun v21 =>
 bnd (ldV 1 false v21 h10) fun v22 =>
 bnd (eqI v19 v22) fun b23 =>
 ifV (.bool b23) (
 K (.tuple #[(.int .i64 0), (.bool false)]) h10) (
 bnd (ncV a0) fun v24 =>
 bnd (faV 2 v24) fun v25 =>
 bnd (ldV 1 false v25 h10) fun v26 =>
 bnd (binV .lss v26 (.int .i64 34)) fun v27 =>
 ifV v27 (
 K (.tuple #[(.int .i64 0), (.bool false)]) h10) (
 bnd (ncV a0) fun v28 =>
 bnd (faV 2 v28) fun v29 =>
 bnd (ldV 1 false v29 h10) fun v30 =>
 T Tryz.prog 31 [v5] h10 fun v31 h32 =>
 ldV 1 false v29 h32 = some v30 ∧
 bnd (eqI v30 v31) fun b33 =>
 ifV (.bool (!b33)) (
 K (.tuple #[(.int .i64 0), (.bool false)]) h32) (
 bnd (unV .not v12) fun v34 =>
 ifV v34 (
 K (.tuple #[(.int .i64 0), (.bool false)]) h32) (
 S23_j1 a0 v5 v11 h32 K )))))
def A23 : Ann := ⟨fun | 3 => ([0, 1, 2, 3, 4, 5, 6, 7, 8, 9, 10, 11, 12, 13, 14, 15, 16, 17, 18, 19, 20, 21, 22, 23, 24, 25, 26, 27, 28, 29, 30, 31, 32, 33, 34, 35], [0, 1, 3, 7, 15, 31, 63, 127, 255, 511, 63, 1087, 3135, 7231, 16383, 32767, 65535, 131071, 262143, 524287, 1048575, 2097151, 4194303, 8388607, 16777215, 33554431, 67108863, 134217727, 16777215, 285212671, 1073741823, 2147483647, 4294967295, 8589934591, 17179869183, 34359738367]) | 5 => ([0, 1, 2, 3, 4, 5, 6, 7, 8, 9, 10], [0, 0, 2, 6, 14, 0, 32, 96, 254, 225, 1023]) | _ => ([], []), fun _ => []⟩
theorem S23_T {a0 : Value} {h : GH} {K : Value → GH → Prop} (g : S23 a0 h K) : T Tryz.prog 23 [a0] h K :=
  T_of_gwp (A := A23) Tryz.func23 (c := bodyOf Tryz.f23) (by kernel_rfl) (by kernel_rfl) (by kernel_rfl) (by kernel_rfl) (by kernel_rfl) (Eq.mp (by kernel_rfl) g)
def S24 (a0 a1 a2 : Value) (h : GH) (K : Value → GH → Prop) : Prop :=
 bnd (ncV a0) fun v1 =>
 bnd (faV 14 v1) fun v2 =>
 bnd (ldV 1 false v2 h) fun v3 =>
 bnd (eqI v3 a1) fun b4 =>
 ifV (.bool b4) (
 bnd (ncV a0) fun v5 =>
 bnd (faV 5 v5) fun v6 =>
 bnd (ldV 1 false v6 h) fun v7 =>
 bnd (lnV v7) fun v8 =>
 bnd (binV .gtr v8 (.int .i64 0)) fun v9 =>
 ifV v9 (
 T Tryz.prog 33 [a0] h fun v10 h11 =>
 bnd (ncV v10) fun v12 =>
 bnd (faV 3 v12) fun v13 =>
 bnd (stV 1 v13 a2 h11) fun h14 =>
 K (.tuple #[]) h14) (
 K (.tuple #[]) h)) (
 K (.tuple #[]) h)
def A24 : Ann := ⟨fun _ => ([], []), fun _ => []⟩
theorem S24_T {a0 a1 a2 : Value} {h : GH} {K : Value → GH → Prop} (g : S24 a0 a1 a2 h K) : T Tryz.prog 24 [a0, a1, a2] h K :=
  T_of_gwp (A := A24) Tryz.func24 (c := bodyOf Tryz.f24) (by kernel_rfl) (by kernel_rfl) (by kernel_rfl) (by kernel_rfl) (by kernel_rfl) (Eq.mp (by kernel_rfl) g)
def S25 (a0 : Value) (h : GH) (K : Value → GH → Prop) : Prop :=
 bnd (fillV [(.int .i64 0), (.int .i64 0), (.int .i64 0)] [(0, 1, (.int .i64 4)), (1, 1, (.int .i64 1)), (2, 1, (.int .i64 1048576))]) fun c1 =>
 bnd (fillV [(.int .i64 0), (.int .i64 0), (.int .i64 0)] [(0, 1, (.int .i64 4)), (1, 1, (.int .i64 1)), (2, 1, (.int .i64 1))]) fun c2 =>
 bnd (fillV [(.int .i64 0), (.int .i64 0), (.int .i64 0)] [(0, 1, (.int .i64 4)), (1, 1, (.int .i64 1)), (2, 1, (.int .i64 1048576))]) fun c3 =>
 bnd (fillV [(.int .i64 0), (.int .i64 0), (.int .i64 0)] [(0, 1, (.int .i64 4)), (1, 1, (.int .i64 1)), (2, 1, (.int .i64 1048576))]) fun c4 =>
 bnd (fillV [(.int .i64 0), (.int .i64 0), (.int .i64 0)] [(0, 1, (.int .i64 4)), (1, 1, (.int .i64 4)), (2, 1, (.int .i64 1048576))]) fun c5 =>
 bnd (fillV [(.int .i64 0), (.int .i64 0), (.int .i64 0)] [(0, 1, (.int .i64 1)), (1, 1, (.int .i64 1)), (2, 1, (.int .i64 1))]) fun c6 =>
 bnd (fillV [(.int .i64 0), (.int .i64 0), (.int .i64 0)] [(0, 1, (.int .i64 5)), (1, 1, (.int .i64 1)), (2, 1, (.int .i64 2))]) fun c7 =>
 bnd (fillV [(.int .i64 0), (.int .i64 0), (.int .i64 0)] [(0, 1, (.int .i64 5)), (1, 1, (.int .i64 1)), (2, 1, (.int .i64 1))]) fun c8 =>
 bnd (fillV [(.int .i64 0), (.int .i64 0), (.int .i64 0)] [(0, 1, (.int .i64 5)), (1, 1, (.int .i64 1)), (2, 1, (.int .i64 1))]) fun c9 =>
 bnd (fillV [(.int .i64 0), (.int .i64 0), (.int .i64 0)] [(0, 1, (.int .i64 1)), (1, 1, (.int .i64 1)), (2, 1, (.int .i64 1))]) fun c10 =>
 bnd (fillV [(.int .i64 0), (.int .i64 0), (.int .i64 0)] [(0, 1, (.int .i64 5)), (1, 1, (.int .i64 5)), (2, 1, (.int .i64 1))]) fun c11 =>
 bnd (fillV (List.replicate 33 (.int .i64 0)) [(0, 3, (.agg c1.toArray)), (3, 3, (.agg c2.toArray)), (6, 3, (.agg c3.toArray)), (9, 3, (.agg c4.toArray)), (12, 3, (.agg c5.toArray)), (15, 3, (.agg c6.toArray)), (18, 3, (.agg c7.toArray)), (21, 3, (.agg c8.toArray)), (24, 3, (.agg c9.toArray)), (27, 3, (.agg c10.toArray)), (30, 3, (.agg c11.toArray))]) fun c12 =>
 newV 108 (List.replicate 33 (.int .i64 0)) h fun v13 h14 =>
 bnd (stV 33 v13 (.agg c12.toArray) h14) fun h15 =>
 bnd (ncV a0) fun v16 =>
 bnd (faV 0 v16) fun v17 =>
 bnd (ldV 1 false v17 h15) fun v18 =>
 T Tryz.prog 13 [v18, (.int .i64 11)] h15 fun v19 h20 =>
 bnd (unV .not v19) fun v21 =>
 ifV v21 (
 K (.bool false) h20) (
 bnd (ncV a0) fun v22 =>
 bnd (faV 0 v22) fun v23 =>
 bnd (ldV 1 false v23 h20) fun v24 =>
 bnd (iaV 11 3 v13 v24) fun v25 =>
 bnd (ldV 3 true v25 h20) fun v26 =>
 newV 107 [(.int .i64 0), (.int .i64 0), (.int .i64 0)] h20 fun v27 h28 =>
 bnd (stV 3 v27 v26 h28) fun h29 =>
 bnd (ncV a0) fun v30 =>
 bnd (faV 1 v30) fun v31 =>
 bnd (ldV 1 false v31 h29) fun v32 =>
 bnd (faV 0 v27) fun v33 =>
 bnd (ldV 1 false v33 h29) fun v34 =>
 T Tryz.prog 13 [v32, v34] h29 fun v35 h36 =>
 ifV v35 (
 bnd (ncV a0) fun v37 =>
 bnd (faV 2 v37) fun v38 =>
 bnd (ldV 1 false v38 h36) fun v39 =>
 bnd (faV 1 v27) fun v40 =>
 bnd (ldV 1 false v40 h36) fun v41 =>
 T Tryz.prog 13 [v39, v41] h36 fun v42 h43 =>
 ifV v42 (
 bnd (ncV a0) fun v44 =>
 bnd (faV 3 v44) fun v45 =>
 bnd (ldV 1 false v45 h43) fun v46 =>
 bnd (faV 2 v27) fun v47 =>
 bnd (ldV 1 false v47 h43) fun v48 =>
 T Tryz.prog 13 [v46, v48] h43 fun v49 h50 =>
 K v49 h50) (
 K (.bool false) h43)) (
 K (.bool false) h36))
def A25 : Ann := ⟨fun | 5 => ([0, 1, 2, 3, 4, 5, 6, 7, 8, 9, 10, 11, 12, 13, 14, 15, 16, 17, 18, 19, 20, 21, 22, 23, 24, 25], [0, 1, 3, 7, 0, 16, 63, 127, 255, 511, 1023, 2047, 255, 4351, 16383, 32767, 65535, 131071, 262143, 524287, 1048575, 131071, 2228223, 8388607, 16777215, 33554431]) | _ => ([], []), fun _ => []⟩
theorem S25_T {a0 : Value} {h : GH} {K : Value → GH → Prop} (g : S25 a0 h K) : T Tryz.prog 25 [a0] h K :=
  T_of_gwp (A := A25) Tryz.func25 (c := bodyOf Tryz.f25) (by kernel_rfl) (by kernel_rfl) (by kernel_rfl) (by kernel_rfl) (by kernel_rfl) (Eq.mp (by kernel_rfl) g)
def S26 (a0 : Value) (h : GH) (K : Value → GH → Prop) : Prop :=
 bnd (binV .mul a0 (.int .i64 4)) fun v1 =>
 bnd (binV .add v1 (.int .i64 0)) fun v2 =>
 K v2 h
def A26 : Ann := ⟨fun _ => ([], []), fun _ => []⟩
theorem S26_T {a0 : Value} {h : GH} {K : Value → GH → Prop} (g : S26 a0 h K) : T Tryz.prog 26 [a0] h K :=
  T_of_gwp (A := A26) Tryz.func26 (c := bodyOf Tryz.f26) (by kernel_rfl) (by kernel_rfl) (by kernel_rfl) (by kernel_rfl) (by kernel_rfl) (Eq.mp (by kernel_rfl) g)
def S27 (a0 : Value) (h : GH) (K : Value → GH → Prop) : Prop :=
 bnd (eqK .ptr true a0 (.pointer none)) fun b1 =>
 ifV (.bool b1) (
 K (.bool false) h) (
 bnd (ncV a0) fun v2 =>
 bnd (faV 5 v2) fun v3 =>
 bnd (ldV 1 false v3 h) fun v4 =>
 bnd (lnV v4) fun v5 =>
 bnd (ncV a0) fun v6 =>
 bnd (faV 4 v6) fun v7 =>
 bnd (ldV 1 false v7 h) fun v8 =>
 bnd (lnV v8) fun v9 =>
 bnd (eqI v5 v9) fun b10 =>
 ifV (.bool b10) (
 bnd (eqI v5 (.int .i64 0)) fun b11 =>
 ifV (.bool b11) (
 K (.bool true) h) (
 bnd (ncV a0) fun v12 =>
 bnd (faV 5 v12) fun v13 =>
 bnd (ldV 1 false v13 h) fun v14 =>
 bnd (binV .sub v5 (.int .i64 1)) fun v15 =>
 bnd (isV 8 v14 v15) fun v16 =>
 bnd (faV 4 v16) fun v17 =>
 bnd (ldV 1 false v17 h) fun v18 =>
 bnd (binV .geq v18 (.int .i64 0)) fun v19 =>
 K v19 h)) (
 K (.bool false) h))
def A27 : Ann := ⟨fun _ => ([], []), fun _ => []⟩
theorem S27_T {a0 : Value} {h : GH} {K : Value → GH → Prop} (g : S27 a0 h K) : T Tryz.prog 27 [a0] h K :=
  T_of_gwp (A := A27) Tryz.func27 (c := bodyOf Tryz.f27) (by kernel_rfl) (by kernel_rfl) (by kernel_rfl) (by kernel_rfl) (by kernel_rfl) (Eq.mp (by kernel_rfl) g)
def S28 (a0 : Value) (h : GH) (K : Value → GH → Prop) : Prop :=
 T Tryz.prog 34 [a0] h fun v1 h2 =>
 bnd (unV .not v1) fun v3 =>
 ifV v3 (
 K (.tuple #[(.pointer none), (.int .i64 1100)]) h2) (
 bnd (fillV [(.int .i64 0), (.int .i64 0), (.bool false), (.bool false), (.bool false)] [(0, 1, a0)]) fun c4 =>
 newV 110 ((.agg c4.toArray) : Value).cells.toList h2 fun v5 h6 =>
 K (.tuple #[v5, (.int .i64 0)]) h6)
def A28 : Ann := ⟨fun _ => ([], []), fun _ => []⟩
theorem S28_T {a0 : Value} {h : GH} {K : Value → GH → Prop} (g : S28 a0 h K) : T Tryz.prog 28 [a0] h K :=
  T_of_gwp (A := A28) Tryz.func28 (c := bodyOf Tryz.f28) (by kernel_rfl) (by kernel_rfl) (by kernel_rfl) (by kernel_rfl) (by kernel_rfl) (Eq.mp (by kernel_rfl) g)
def S29_j1 (x3 x5 x26 : Value) (h : GH) (K : Value → GH → Prop)  : Prop :=
 ifV x26 (
 bnd (ncV x3) fun v1 =>
 bnd (faV 12 v1) fun v2 =>
 bnd (ldV 1 false v2 h) fun v3 =>
 bnd (ncV x3) fun v4 =>
 bnd (faV 15 v4) fun v5 =>
 bnd (ldV 1 false v5 h) fun v6 =>
 T Tryz.prog 37 [v6] h fun v7 h8 =>
 ldV 1 false v2 h8 = some v3 ∧
 T Tryz.prog 36 [v3, v7] h8 fun v9 h10 =>
 bnd (exV v9 0) fun v11 =>
 bnd (exV v9 1) fun v12 =>
 bnd (exV v9 2) fun v13 =>
 bnd (ncV x3) fun v14 =>
 bnd (faV 13 v14) fun v15 =>
 bnd (stV 1 v15 v11 h10) fun h16 =>
 bnd (ncV x3) fun v17 =>
 bnd (faV 12 v17) fun v18 =>
 bnd (stV 1 v18 v12 h16) fun h19 =>
 bnd (ncV x3) fun v20 =>
 bnd (faV 6 v20) fun v21 =>
 bnd (stV 1 v21 (.func (.func 38) #[] #[]) h19) fun h22 =>
 K v13 h22) (
 K x5 h)
def S29 (a0 : Value) (h : GH) (K : Value → GH → Prop) : Prop :=
 bnd (ncV a0) fun v1 =>
 bnd (faV 0 v1) fun v2 =>
 bnd (ldV 1 false v2 h) fun v3 =>
 bnd (ncV v3) fun v4 =>
 bnd (faV 15 v4) fun v5 =>
 bnd (ldV 1 false v5 h) fun v6 =>
 bnd (ncV a0) fun v7 =>
 bnd (faV 1 v7) fun v8 =>
 bnd (ldV 1 false v8 h) fun v9 =>
 T Tryz.prog 35 [v6, v9] h fun v10 h11 =>
 bnd (exV v10 0) fun v12 =>
 bnd (exV v10 1) fun v13 =>
 ifV v12 (
 bnd (eqI v13 (.int .i64 0)) fun b14 =>
 S29_j1 v3 v13 (.bool b14) h11 K ) (
 S29_j1 v3 v13 (.bool false) h11 K )
def A29 : Ann := ⟨fun | 2 => ([0, 1, 2, 3, 4, 5, 6, 7, 8, 9, 10, 11, 12, 13], [0, 1, 3, 7, 0, 16, 48, 112, 255, 511, 1023, 1023, 2047, 8191]) | 4 => ([0, 1, 2, 3, 4, 5, 6, 7, 8, 9, 10, 11, 12, 13, 14, 15, 16, 17, 18, 19, 20, 21, 22], [0, 0, 0, 4, 12, 28, 0, 64, 192, 448, 960, 2044, 4092, 8188, 8188, 8188, 16381, 81917, 212989, 491519, 1015807, 2064383, 4194303]) | _ => ([], []), fun _ => []⟩
theorem S29_T {a0 : Value} {h : GH} {K : Value → GH → Prop} (g : S29 a0 h K) : T Tryz.prog 29 [a0] h K :=
  T_of_gwp (A := A29) Tryz.func29 (c := bodyOf Tryz.f29) (by kernel_rfl) (by kernel_rfl) (by kernel_rfl) (by kernel_rfl) (by kernel_rfl) (Eq.mp (by kernel_rfl) g)
def S30 (a0 : Value) (h : GH) (K : Value → GH → Prop) : Prop :=
 T Tryz.prog 39 [a0] h fun v1 h2 =>
 bnd (taV 95 (.int .i64 0) true v1) fun v3 =>
 bnd (exV v3 0) fun v4 =>
 bnd (exV v3 1) fun v5 =>
 K (.tuple #[v4, v5]) h2
def A30 : Ann := ⟨fun _ => ([], []), fun _ => []⟩
theorem S30_T {a0 : Value} {h : GH} {K : Value → GH → Prop} (g : S30 a0 h K) : T Tryz.prog 30 [a0] h K :=
  T_of_gwp (A := A30) Tryz.func30 (c := bodyOf Tryz.f30) (by kernel_rfl) (by kernel_rfl) (by kernel_rfl) (by kernel_rfl) (by kernel_rfl) (Eq.mp (by kernel_rfl) g)
def S31 (a0 : Value) (h : GH) (K : Value → GH → Prop) : Prop :=
 bnd (binV .mul a0 (.int .i64 50)) fun v1 =>
 bnd (binV .add (.int .i64 34) v1) fun v2 =>
 K v2 h
def A31 : Ann := ⟨fun _ => ([], []), fun _ => []⟩
theorem S31_T {a0 : Value} {h : GH} {K : Value → GH → Prop} (g : S31 a0 h K) : T Tryz.prog 31 [a0] h K :=
  T_of_gwp (A := A31) Tryz.func31 (c := bodyOf Tryz.f31) (by kernel_rfl) (by kernel_rfl) (by kernel_rfl) (by kernel_rfl) (by kernel_rfl) (Eq.mp (by kernel_rfl) g)
def S32 (a0 a1 : Value) (h : GH) (K : Value → GH → Prop) : Prop :=
 bnd (binV .mul a0 (.int .i64 4)) fun v1 =>
 bnd (binV .add v1 a1) fun v2 =>
 T Tryz.prog 18 [v2] h fun v3 h4 =>
 K v3 h4
def A32 : Ann := ⟨fun _ => ([], []), fun _ => []⟩
theorem S32_T {a0 a1 : Value} {h : GH} {K : Value → GH → Prop} (g : S32 a0 a1 h K) : T Tryz.prog 32 [a0, a1] h K :=
  T_of_gwp (A := A32) Tryz.func32 (c := bodyOf Tryz.f32) (by kernel_rfl) (by kernel_rfl) (by kernel_rfl) (by kernel_rfl) (by kernel_rfl) (Eq.mp (by kernel_rfl) g)
def S33 (a0 : Value) (h : GH) (K : Value → GH → Prop) : Prop :=
 bnd (ncV a0) fun v1 =>
 bnd (faV 5 v1) fun v2 =>
 bnd (ldV 1 false v2 h) fun v3 =>
 bnd (ncV a0) fun v4 =>
 bnd (faV 5 v4) fun v5 =>
 bnd (ldV 1 false v5 h) fun v6 =>
 bnd (lnV v6) fun v7 =>
 bnd (binV .sub v7 (.int .i64 1)) fun v8 =>
 bnd (isV 8 v3 v8) fun v9 =>
 K v9 h
def A33 : Ann := ⟨fun | 1 => ([0, 1, 2, 3, 4, 5, 6, 7, 8, 9, 10, 11], [0, 1, 3, 7, 0, 16, 48, 112, 240, 496, 1023, 2047]) | _ => ([], []), fun _ => []⟩
theorem S33_T {a0 : Value} {h : GH} {K : Value → GH → Prop} (g : S33 a0 h K) : T Tryz.prog 33 [a0] h K :=
  T_of_gwp (A := A33) Tryz.func33 (c := bodyOf Tryz.f33) (by kernel_rfl) (by kernel_rfl) (by kernel_rfl) (by kernel_rfl) (by kernel_rfl) (Eq.mp (by kernel_rfl) g)
def S34 (a0 : Value) (h : GH) (K : Value → GH → Prop) : Prop :=
 T Tryz.prog 13 [a0, (.int .i64 4)] h fun v1 h2 =>
 K v1 h2
def A34 : Ann := ⟨fun _ => ([], []), fun _ => []⟩
theorem S34_T {a0 : Value} {h : GH} {K : Value → GH → Prop} (g : S34 a0 h K) : T Tryz.prog 34 [a0] h K :=
  T_of_gwp (A := A34) Tryz.func34 (c := bodyOf Tryz.f34) (by kernel_rfl) (by kernel_rfl) (by kernel_rfl) (by kernel_rfl) (by kernel_rfl) (Eq.mp (by kernel_rfl) g)
def S35_j4 (x0 x6 : Value) (h : GH) (K : Value → GH → Prop)  : Prop :=
 bnd (ncV x0) fun v1 =>
 bnd (faV 1 v1) fun v2 =>
 bnd (stV 1 v2 x6 h) fun h3 =>
 bnd (ncV x0) fun v4 =>
 bnd (faV 3 v4) fun v5 =>
 bnd (stV 1 v5 (.bool true) h3) fun h6 =>
 bnd (ncV x0) fun v7 =>
 bnd (faV 2 v7) fun v8 =>
 bnd (stV 1 v8 (.bool false) h6) fun h9 =>
 bnd (ncV x0) fun v10 =>
 bnd (faV 4 v10) fun v11 =>
 bnd (ldV 1 false v11 h9) fun v12 =>
 K (.tuple #[v12, (.int .i64 0)]) h9
def S35_j3 (x0 x1 : Value) (h : GH) (K : Value → GH → Prop)  : Prop :=
 T Tryz.prog 41 [x1] h fun v1 h2 =>
 bnd (exV v1 0) fun v3 =>
 bnd (exV v1 1) fun v4 =>
 bnd (unV .not v4) fun v5 =>
 ifV v5 (
 bnd (ncV x0) fun v6 =>
 bnd (faV 4 v6) fun v7 =>
 bnd (stV 1 v7 (.bool true) h2) fun h8 =>
 K (.tuple #[(.bool true), (.int .i64 1100)]) h8) (
 bnd (ncV x0) fun v9 =>
 bnd (faV 2 v9) fun v10 =>
 bnd (ldV 1 false v10 h2) fun v11 =>
 ifV v11 (
 bnd (ncV x0) fun v12 =>
 bnd (faV 1 v12) fun v13 =>
 bnd (ldV 1 false v13 h2) fun v14 =>
 bnd (eqI v3 v14) fun b15 =>
 bnd (ncV x0) fun v16 =>
 bnd (faV 4 v16) fun v17 =>
 bnd (stV 1 v17 (.bool b15) h2) fun h18 =>
 S35_j4 x0 v3 h18 K ) (
 bnd (ncV x0) fun v19 =>
 bnd (faV 4 v19) fun v20 =>
 bnd (stV 1 v20 (.bool false) h2) fun h21 =>
 S35_j4 x0 v3 h21 K ))
def S35_j2 (x0 x1 x20 : Value) (h : GH) (K : Value → GH → Prop)  : Prop :=
 ifV x20 (
 bnd (ncV x0) fun v1 =>
 bnd (faV 0 v1) fun v2 =>
 bnd (ldV 1 false v2 h) fun v3 =>
 bnd (ncV x0) fun v4 =>
 bnd (faV 1 v4) fun v5 =>
 bnd (ldV 1 false v5 h) fun v6 =>
 bnd (binV .add v6 (.int .i64 1)) fun v7 =>
 T Tryz.prog 40 [x1, v3, v7] h fun v8 h9 =>
 bnd (ncV x0) fun v10 =>
 bnd (faV 2 v10) fun v11 =>
 bnd (stV 1 v11 (.bool true) h9) fun h12 =>
 K (.tuple #[(.bool false), (.int .i64 0)]) h12) (
 S35_j3 x0 x1 h K )
def S35_j1 (x0 x1 x8 : Value) (h : GH) (K : Value → GH → Prop)  : Prop :=
 ifV x8 (
 K (.tuple #[(.bool false), (.int .i64 1)]) h) (
 bnd (ncV x0) fun v1 =>
 bnd (faV 4 v1) fun v2 =>
 bnd (ldV 1 false v2 h) fun v3 =>
 ifV v3 (
 K (.tuple #[(.bool true), (.int .i64 0)]) h) (
 bnd (ncV x0) fun v4 =>
 bnd (faV 3 v4) fun v5 =>
 bnd (ldV 1 false v5 h) fun v6 =>
 ifV v6 (
 bnd (ncV x0) fun v7 =>
 bnd (faV 2 v7) fun v8 =>
 bnd (ldV 1 false v8 h) fun v9 =>
 bnd (unV .not v9) fun v10 =>
 S35_j2 x0 x1 v10 h K ) (
 S35_j2 x0 x1 (.bool false) h K )))
def S35 (a0 a1 : Value) (h : GH) (K : Value → GH → Prop) : Prop :=
 bnd (eqK .ptr true a0 (.pointer none)) fun b1 =>
 ifV (.bool b1) (
 S35_j1 a0 a1 (.bool true) h K ) (
 bnd (eqK .ptr true a1 (.pointer none)) fun b2 =>
 S35_j1 a0 a1 (.bool b2) h K )
def A35 : Ann := ⟨fun | 6 => ([0, 1, 2, 3, 4, 5, 6, 7, 8, 9, 10], [0, 0, 2, 6, 14, 0, 32, 96, 224, 480, 1023]) | _ => ([], []), fun _ => []⟩
theorem S35_T {a0 a1 : Value} {h : GH} {K : Value → GH → Prop} (g : S35 a0 a1 h K) : T Tryz.prog 35 [a0, a1] h K :=
  T_of_gwp (A := A35) Tryz.func35 (c := bodyOf Tryz.f35) (by kernel_rfl) (by kernel_rfl) (by kernel_rfl) (by kernel_rfl) (by kernel_rfl) (Eq.mp (by kernel_rfl) g)
def S36_j1 (x0 x1 : Value) (h : GH) (K : Value → GH → Prop)  : Prop :=
 bnd (lnV x0) fun v1 =>
 Lfp (fun (s2 : Nat → Value) h3 again4 =>
 bnd (binV .lss (s2 5) (s2 4)) fun v5 =>
 ifV v5 (
 bnd (isV 2 (s2 3) (s2 5)) fun v6 =>
 bnd (ldV 2 true v6 h3) fun v7 =>
 newV 122 [(.int .i64 0), (.int .i64 0)] h3 fun v8 h9 =>
 bnd (stV 2 v8 v7 h9) fun h10 =>
 bnd (faV 1 v8) fun v11 =>
 bnd (ldV 1 false v11 h10) fun v12 =>
 bnd (binV .sub (s2 0) v12) fun v13 =>
 bnd (binV .geq v13 (.int .i64 3)) fun v14 =>
 ifV v14 (
 bnd (faV 0 v8) fun v15 =>
 bnd (ldV 1 false v15 h10) fun v16 =>
 bsV 3 1 [(.int .i64 0)] [(0, 1, v16)] h10 fun v17 h18 =>
 apV 3 1 8 (s2 1) v17 h18 fun v19 h20 =>
 bnd (binV .add (s2 5) (.int .i64 1)) fun v21 =>
 again4 (tup [(s2 0), v19, (s2 2), (s2 3), (s2 4), v21]) h20) (
 bnd (ldV 2 true v8 h10) fun v22 =>
 bsV 122 1 [(.int .i64 0), (.int .i64 0)] [(0, 2, v22)] h10 fun v23 h24 =>
 apV 122 2 16 (s2 2) v23 h24 fun v25 h26 =>
 bnd (binV .add (s2 5) (.int .i64 1)) fun v27 =>
 again4 (tup [(s2 0), (s2 1), v25, (s2 3), (s2 4), v27]) h26)) (
 K (.tuple #[(s2 1), (s2 2), (.int .i64 0)]) h3)) (tup [x1, (.slice none 0 0), (.slice none 0 0), x0, v1, (.int .i64 0)]) h
def S36 (a0 a1 : Value) (h : GH) (K : Value → GH → Prop) : Prop :=
 T Tryz.prog 42 [a0, (.func (.func 43) #[] #[])] h fun v1 h2 =>
 ifV v1 (
 K (.tuple #[(.slice none 0 0), (.slice none 0 0), (.int .i64 1200)]) h2) (
 T Tryz.prog 44 [a1] h2 fun v3 h4 =>
 bnd (unV .not v3) fun v5 =>
 ifV v5 (
 K (.tuple #[(.slice none 0 0), (.slice none 0 0), (.int .i64 1200)]) h4) (
 S36_j1 a0 a1 h4 K ))
def A36 : Ann := ⟨fun _ => ([], []), fun | 0 => [1, 7, 8, 18, 19, 20] | _ => []⟩
theorem S36_T {a0 a1 : Value} {h : GH} {K : Value → GH → Prop} (g : S36 a0 a1 h K) : T Tryz.prog 36 [a0, a1] h K :=
  T_of_gwp (A := A36) Tryz.func36 (c := bodyOf Tryz.f36) (by kernel_rfl) (by kernel_rfl) (by kernel_rfl) (by kernel_rfl) (by kernel_rfl) (Eq.mp (by kernel_rfl) g)
def S37 (a0 : Value) (h : GH) (K : Value → GH → Prop) : Prop :=
 bnd (eqK .ptr true a0 (.pointer none)) fun b1 =>
 ifV (.bool b1) (
 K (.int .i64 0) h) (
 bnd (ncV a0) fun v2 =>
 bnd (faV 1 v2) fun v3 =>
 bnd (ldV 1 false v3 h) fun v4 =>
 K v4 h)
def A37 : Ann := ⟨fun _ => ([], []), fun _ => []⟩
theorem S37_T {a0 : Value} {h : GH} {K : Value → GH → Prop} (g : S37 a0 h K) : T Tryz.prog 37 [a0] h K :=
  T_of_gwp (A := A37) Tryz.func37 (c := bodyOf Tryz.f37) (by kernel_rfl) (by kernel_rfl) (by kernel_rfl) (by kernel_rfl) (by kernel_rfl) (Eq.mp (by kernel_rfl) g)
def S38_j1 (s4 : Nat → Value) (x0 x3 : Value) (h : GH) (K : Value → GH → Prop) (again6 : (Nat → Value) → GH → Prop) : Prop :=
 bnd (ncV x3) fun v1 =>
 bnd (faV 11 v1) fun v2 =>
 bnd (ldV 1 false v2 h) fun v3 =>
 bnd (ncV x3) fun v4 =>
 bnd (faV 13 v4) fun v5 =>
 bnd (ldV 1 false v5 h) fun v6 =>
 bnd (isV 1 v6 (.int .i64 0)) fun v7 =>
 bnd (ldV 1 false v7 h) fun v8 =>
 bnd (ncV x3) fun v9 =>
 bnd (faV 13 v9) fun v10 =>
 bnd (ldV 1 false v10 h) fun v11 =>
 bnd (slV 1 v11 (some (.int .i64 1)) none) fun v12 =>
 bsV 3 1 [(.int .i64 0)] [(0, 1, v8)] h fun v13 h14 =>
 apV 3 1 8 v3 v13 h14 fun v15 h16 =>
 ldV 1 false v10 h16 = some v11 ∧
 bnd (ncV x3) fun v17 =>
 bnd (faV 11 v17) fun v18 =>
 bnd (stV 1 v18 v15 h16) fun h19 =>
 bnd (ncV x3) fun v20 =>
 bnd (faV 13 v20) fun v21 =>
 bnd (stV 1 v21 v12 h19) fun h22 =>
 again6 (tup [x0, x3]) h22
def S38_j4 (s4 : Nat → Value) (x3 x5 x96 : Value) (h : GH) (K : Value → GH → Prop) (again6 : (Nat → Value) → GH → Prop) : Prop :=
 ifV x96 (
 bnd (ncV x3) fun v1 =>
 bnd (faV 13 v1) fun v2 =>
 bnd (ldV 1 false v2 h) fun v3 =>
 bnd (slV 1 v3 (some (.int .i64 1)) none) fun v4 =>
 bnd (ncV x3) fun v5 =>
 bnd (faV 16 v5) fun v6 =>
 bnd (stV 1 v6 (.pointer none) h) fun h7 =>
 bnd (ncV x3) fun v8 =>
 bnd (faV 13 v8) fun v9 =>
 bnd (stV 1 v9 v4 h7) fun h10 =>
 K x5 h10) (
 K x5 h)
def S38_j3 (s4 : Nat → Value) (x0 x3 : Value) (h : GH) (K : Value → GH → Prop) (again6 : (Nat → Value) → GH → Prop) : Prop :=
 bnd (ncV x3) fun v1 =>
 bnd (faV 16 v1) fun v2 =>
 bnd (ldV 1 false v2 h) fun v3 =>
 bnd (ncV x0) fun v4 =>
 bnd (faV 1 v4) fun v5 =>
 bnd (ldV 1 false v5 h) fun v6 =>
 T Tryz.prog 47 [v3, v6] h fun v7 h8 =>
 bnd (exV v7 0) fun v9 =>
 bnd (exV v7 1) fun v10 =>
 ifV v9 (
 bnd (eqI v10 (.int .i64 0)) fun b11 =>
 S38_j4 s4 x3 v10 (.bool b11) h8 K again6) (
 S38_j4 s4 x3 v10 (.bool false) h8 K again6)
def S38_j2 (s4 : Nat → Value) (x0 x3 : Value) (h : GH) (K : Value → GH → Prop) (again6 : (Nat → Value) → GH → Prop) : Prop :=
 bnd (ncV x3) fun v1 =>
 bnd (faV 13 v1) fun v2 =>
 bnd (ldV 1 false v2 h) fun v3 =>
 bnd (lnV v3) fun v4 =>
 bnd (eqI v4 (.int .i64 0)) fun b5 =>
 ifV (.bool b5) (
 T Tryz.prog 45 [x0] h fun v6 h7 =>
 K v6 h7) (
 bnd (ncV x3) fun v8 =>
 bnd (faV 16 v8) fun v9 =>
 bnd (ldV 1 false v9 h) fun v10 =>
 bnd (eqK .ptr true v10 (.pointer none)) fun b11 =>
 ifV (.bool b11) (
 bnd (ncV x3) fun v12 =>
 bnd (faV 13 v12) fun v13 =>
 bnd (ldV 1 false v13 h) fun v14 =>
 bnd (isV 1 v14 (.int .i64 0)) fun v15 =>
 bnd (ldV 1 false v15 h) fun v16 =>
 T Tryz.prog 46 [v16] h fun v17 h18 =>
 bnd (exV v17 0) fun v19 =>
 bnd (exV v17 1) fun v20 =>
 bnd (ncV x3) fun v21 =>
 bnd (faV 16 v21) fun v22 =>
 bnd (stV 1 v22 v19 h18) fun h23 =>
 S38_j3 s4 x0 x3 h23 K again6) (
 S38_j3 s4 x0 x3 h K again6))
def S38 (a0 : Value) (h : GH) (K : Value → GH → Prop) : Prop :=
 bnd (ncV a0) fun v1 =>
 bnd (faV 0 v1) fun v2 =>
 bnd (ldV 1 false v2 h) fun v3 =>
 Lfp (fun (s4 : Nat → Value) h5 again6 =>
 bnd (ncV (s4 1)) fun v7 =>
 bnd (faV 16 v7) fun v8 =>
 bnd (ldV 1 false v8 h5) fun v9 =>
 bnd (eqK .ptr true v9 (.pointer none)) fun b10 =>
 ifV (.bool b10) (
 bnd (ncV (s4 1)) fun v11 =>
 bnd (faV 13 v11) fun v12 =>
 bnd (ldV 1 false v12 h5) fun v13 =>
 bnd (lnV v13) fun v14 =>
 bnd (binV .gtr v14 (.int .i64 0)) fun v15 =>
 ifV v15 (
 bnd (ncV (s4 1)) fun v16 =>
 bnd (faV 11 v16) fun v17 =>
 bnd (ldV 1 false v17 h5) fun v18 =>
 bnd (lnV v18) fun v19 =>
 bnd (binV .lss v19 (.int .i64 2)) fun v20 =>
 ifV v20 (
 S38_j1 s4 (s4 0) (s4 1) h5 K again6) (
 S38_j2 s4 (s4 0) (s4 1) h5 K again6)) (
 S38_j2 s4 (s4 0) (s4 1) h5 K again6)) (
 S38_j2 s4 (s4 0) (s4 1) h5 K again6)) (tup [a0, v3]) h
def A38 : Ann := ⟨fun | 3 => ([0, 1, 2, 3, 4, 5, 6, 7, 8, 9, 10, 11, 14, 15, 16, 17, 18, 12, 13, 19, 20, 21, 22, 23, 24], [0, 0, 0, 4, 12, 28, 0, 64, 192, 448, 960, 1984, 4032, 8188, 0, 16384, 49152, 114688, 245760, 262141, 786429, 1835005, 4194303, 8388607, 16777215]) | 8 => ([0, 1, 2, 3, 4, 5, 6, 7, 8, 9, 10, 11, 12, 13], [0, 1, 3, 7, 0, 16, 48, 112, 255, 511, 1023, 1023, 2047, 8191]) | 10 => ([0, 1, 2, 3, 4, 5, 6, 7, 8, 9, 10, 11, 12], [0, 0, 0, 4, 12, 28, 60, 61, 189, 445, 1023, 2047, 4095]) | _ => ([], []), fun | 0 => [0, 3] | _ => []⟩
theorem S38_T {a0 : Value} {h : GH} {K : Value → GH → Prop} (g : S38 a0 h K) : T Tryz.prog 38 [a0] h K :=
  T_of_gwp (A := A38) Tryz.func38 (c := bodyOf Tryz.f38) (by kernel_rfl) (by kernel_rfl) (by kernel_rfl) (by kernel_rfl) (by kernel_rfl) (Eq.mp (by kernel_rfl) g)
def S39_j1 (x5 : Value) (h : GH) (K : Value → GH → Prop)  : Prop :=
 bnd (eqK .iface true x5 .nilIface) fun b1 =>
 ifV (.bool b1) (
 K .nilIface h) (
 T Tryz.prog 49 [x5] h fun v2 h3 =>
 bnd (unV .not v2) fun v4 =>
 ifV v4 (
 K .nilIface h3) (
 K x5 h3))
def S39 (a0 : Value) (h : GH) (K : Value → GH → Prop) : Prop :=
 bnd (binV .lss a0 (.int .i64 0)) fun v1 =>
 ifV v1 (
 K .nilIface h) (
 bnd (binV .quo a0 (.int .i64 4)) fun v2 =>
 bnd (binV .rem a0 (.int .i64 4)) fun v3 =>
 bnd (eqI v3 (.int .i64 0)) fun b4 =>
 ifV (.bool b4) (
 S39_j1 (.iface 95 v2) h K ) (
 bnd (eqI v3 (.int .i64 2)) fun b5 =>
 ifV (.bool b5) (
 callV Tryz.prog (.func (.func 48) #[] #[]) [v2] h fun v6 h7 =>
 S39_j1 (.iface 75 v6) h7 K ) (
 bnd (eqI v3 (.int .i64 1)) fun b8 =>
 ifV (.bool b8) (
 bnd (binV .rem v2 (.int .i64 1048576)) fun v9 =>
 bnd (fillV [(.int .i64 0), (.int .i64 0), (.int .i64 0), (.int .i64 0), (.int .i64 0)] [(4, 1, v9)]) fun c10 =>
 newV 128 [(.int .i64 0), (.int .i64 0), (.int .i64 0), (.int .i64 0), (.int .i64 0)] h fun v11 h12 =>
 bnd (stV 5 v11 (.agg c10.toArray) h12) fun h13 =>
 bnd (binV .quo v2 (.int .i64 1048576)) fun v14 =>
 bnd (binV .rem v14 (.int .i64 4)) fun v15 =>
 bnd (binV .quo v14 (.int .i64 4)) fun v16 =>
 bnd (faV 3 v11) fun v17 =>
 bnd (stV 1 v17 v15 h13) fun h18 =>
 bnd (binV .rem v16 (.int .i64 16)) fun v19 =>
 bnd (binV .quo v16 (.int .i64 16)) fun v20 =>
 bnd (faV 2 v11) fun v21 =>
 bnd (stV 1 v21 v19 h18) fun h22 =>
 callV Tryz.prog (.func (.func 48) #[] #[]) [v20] h22 fun v23 h24 =>
 bnd (faV 0 v11) fun v25 =>
 bnd (stV 2 v25 v23 h24) fun h26 =>
 bnd (ldV 5 true v11 h26) fun v27 =>
 S39_j1 (.iface 128 v27) h26 K ) (
 S39_j1 .nilIface h K ))))
def A39 : Ann := ⟨fun _ => ([], []), fun _ => []⟩
theorem S39_T {a0 : Value} {h : GH} {K : Value → GH → Prop} (g : S39 a0 h K) : T Tryz.prog 39 [a0] h K :=
  T_of_gwp (A := A39) Tryz.func39 (c := bodyOf Tryz.f39) (by kernel_rfl) (by kernel_rfl) (by kernel_rfl) (by kernel_rfl) (by kernel_rfl) (Eq.mp (by kernel_rfl) g)
def S40 (a0 a1 a2 : Value) (h : GH) (K : Value → GH → Prop) : Prop :=
 bnd (binV .add (.int .i64 30) a1) fun v1 =>
 T Tryz.prog 18 [a2] h fun v2 h3 =>
 T Tryz.prog 50 [a0, v1, v2] h3 fun v4 h5 =>
 K (.tuple #[]) h5
def A40 : Ann := ⟨fun _ => ([], []), fun _ => []⟩
theorem S40_T {a0 a1 a2 : Value} {h : GH} {K : Value → GH → Prop} (g : S40 a0 a1 a2 h K) : T Tryz.prog 40 [a0, a1, a2] h K :=
  T_of_gwp (A := A40) Tryz.func40 (c := bodyOf Tryz.f40) (by kernel_rfl) (by kernel_rfl) (by kernel_rfl) (by kernel_rfl) (by kernel_rfl) (Eq.mp (by kernel_rfl) g)
def S41 (a0 : Value) (h : GH) (K : Value → GH → Prop) : Prop :=
 T Tryz.prog 51 [a0, (.int .i64 29)] h fun v1 h2 =>
 bnd (exV v1 0) fun v3 =>
 bnd (exV v1 1) fun v4 =>
 T Tryz.prog 52 [v3] h2 fun v5 h6 =>
 bnd (exV v5 0) fun v7 =>
 bnd (exV v5 1) fun v8 =>
 K (.tuple #[v7, v8]) h6
def A41 : Ann := ⟨fun _ => ([], []), fun _ => []⟩
theorem S41_T {a0 : Value} {h : GH} {K : Value → GH → Prop} (g : S41 a0 h K) : T Tryz.prog 41 [a0] h K :=
  T_of_gwp (A := A41) Tryz.func41 (c := bodyOf Tryz.f41) (by kernel_rfl) (by kernel_rfl) (by kernel_rfl) (by kernel_rfl) (by kernel_rfl) (Eq.mp (by kernel_rfl) g)
def S42 (a0 a1 : Value) (h : GH) (K : Value → GH → Prop) : Prop :=
 T Tryz.prog 53 [a0, a1] h fun v1 h2 =>
 bnd (binV .geq v1 (.int .i64 0)) fun v3 =>
 K v3 h2
def A42 : Ann := ⟨fun _ => ([], []), fun _ => []⟩
theorem S42_T {a0 a1 : Value} {h : GH} {K : Value → GH → Prop} (g : S42 a0 a1 h K) : T Tryz.prog 42 [a0, a1] h K :=
  T_of_gwp (A := A42) Tryz.func42 (c := bodyOf Tryz.f42) (by kernel_rfl) (by kernel_rfl) (by kernel_rfl) (by kernel_rfl) (by kernel_rfl) (Eq.mp (by kernel_rfl) g)
def S43 (a0 : Value) (h : GH) (K : Value → GH → Prop) : Prop :=
 newV 122 (a0 : Value).cells.toList h fun v1 h2 =>
 bnd (faV 0 v1) fun v3 =>
 bnd (ldV 1 false v3 h2) fun v4 =>
 T Tryz.prog 13 [v4, (.int .i64 12)] h2 fun v5 h6 =>
 bnd (unV .not v5) fun v7 =>
 ifV v7 (
 K (.bool true) h6) (
 bnd (faV 1 v1) fun v8 =>
 bnd (ldV 1 false v8 h6) fun v9 =>
 T Tryz.prog 44 [v9] h6 fun v10 h11 =>
 bnd (unV .not v10) fun v12 =>
 K v12 h11)
def A43 : Ann := ⟨fun _ => ([], []), fun _ => []⟩
theorem S43_T {a0 : Value} {h : GH} {K : Value → GH → Prop} (g : S43 a0 h K) : T Tryz.prog 43 [a0] h K :=
  T_of_gwp (A := A43) Tryz.func43 (c := bodyOf Tryz.f43) (by kernel_rfl) (by kernel_rfl) (by kernel_rfl) (by kernel_rfl) (by kernel_rfl) (Eq.mp (by kernel_rfl) g)
def S44 (a0 : Value) (h : GH) (K : Value → GH → Prop) : Prop :=
 T Tryz.prog 13 [a0, (.int .i64 1073741824)] h fun v1 h2 =>
 K v1 h2
def A44 : Ann := ⟨fun _ => ([], []), fun _ => []⟩
theorem S44_T {a0 : Value} {h : GH} {K : Value → GH → Prop} (g : S44 a0 h K) : T Tryz.prog 44 [a0] h K :=
  T_of_gwp (A := A44) Tryz.func44 (c := bodyOf Tryz.f44) (by kernel_rfl) (by kernel_rfl) (by kernel_rfl) (by kernel_rfl) (by kernel_rfl) (Eq.mp (by kernel_rfl) g)
def S45_j4 (x0 x3 : Value) (h : GH) (K : Value → GH → Prop)  : Prop :=
 bnd (ncV x3) fun v1 =>
 bnd (faV 17 v1) fun v2 =>
 bnd (ldV 1 false v2 h) fun v3 =>
 T Tryz.prog 58 [v3] h fun v4 h5 =>
 bnd (ncV x3) fun v6 =>
 bnd (faV 17 v6) fun v7 =>
 bnd (stV 1 v7 (.pointer none) h5) fun h8 =>
 bnd (eqI v4 (.int .i64 (-1))) fun b9 =>
 ifV (.bool b9) (
 bnd (ncV x3) fun v10 =>
 bnd (faV 20 v10) fun v11 =>
 bnd (stV 1 v11 (.int .i64 1) h8) fun h12 =>
 bnd (ncV x3) fun v13 =>
 bnd (faV 6 v13) fun v14 =>
 bnd (stV 1 v14 (.func (.func 59) #[] #[]) h12) fun h15 =>
 K (.int .i64 0) h15) (
 T Tryz.prog 54 [x0, v4] h8 fun v16 h17 =>
 K (.int .i64 0) h17)
def S45_j3 (x0 x3 : Value) (h : GH) (K : Value → GH → Prop)  : Prop :=
 bnd (ncV x3) fun v1 =>
 bnd (faV 6 v1) fun v2 =>
 bnd (stV 1 v2 (.func (.func 45) #[] #[]) h) fun h3 =>
 bnd (ncV x3) fun v4 =>
 bnd (faV 17 v4) fun v5 =>
 bnd (ldV 1 false v5 h3) fun v6 =>
 bnd (ncV x0) fun v7 =>
 bnd (faV 1 v7) fun v8 =>
 bnd (ldV 1 false v8 h3) fun v9 =>
 T Tryz.prog 57 [v6, v9] h3 fun v10 h11 =>
 bnd (exV v10 0) fun v12 =>
 bnd (exV v10 1) fun v13 =>
 bnd (unV .not v12) fun v14 =>
 ifV v14 (
 K v13 h11) (
 bnd (eqI v13 (.int .i64 0)) fun b15 =>
 ifV (.bool (!b15)) (
 K v13 h11) (
 S45_j4 x0 x3 h11 K ))
def S45_j2 (x0 x3 : Value) (h : GH) (K : Value → GH → Prop)  : Prop :=
 bnd (ncV x3) fun v1 =>
 bnd (faV 17 v1) fun v2 =>
 bnd (ldV 1 false v2 h) fun v3 =>
 bnd (eqK .ptr true v3 (.pointer none)) fun b4 =>
 ifV (.bool b4) (
 T Tryz.prog 56 [] h fun v5 h6 =>
 bnd (ncV x3) fun v7 =>
 bnd (faV 17 v7) fun v8 =>
 bnd (stV 1 v8 v5 h6) fun h9 =>
 S45_j3 x0 x3 h9 K ) (
 S45_j3 x0 x3 h K )
def S45_j1 (x0 x3 x4 x27 : Value) (h : GH) (K : Value → GH → Prop)  : Prop :=
 ifV x27 (
 bnd (ncV x3) fun v1 =>
 bnd (faV 11 v1) fun v2 =>
 bnd (ldV 1 false v2 h) fun v3 =>
 bnd (isV 1 v3 x4) fun v4 =>
 bnd (ldV 1 false v4 h) fun v5 =>
 bnd (ncV x3) fun v6 =>
 bnd (faV 11 v6) fun v7 =>
 bnd (ldV 1 false v7 h) fun v8 =>
 bnd (slV 1 v8 none (some x4)) fun v9 =>
 bnd (ncV x3) fun v10 =>
 bnd (faV 11 v10) fun v11 =>
 bnd (stV 1 v11 v9 h) fun h12 =>
 T Tryz.prog 54 [x0, v5] h12 fun v13 h14 =>
 T Tryz.prog 55 [x0] h14 fun v15 h16 =>
 K v15 h16) (
 S45_j2 x0 x3 h K )
def S45 (a0 : Value) (h : GH) (K : Value → GH → Prop) : Prop :=
 bnd (ncV a0) fun v1 =>
 bnd (faV 0 v1) fun v2 =>
 bnd (ldV 1 false v2 h) fun v3 =>
 bnd (ncV v3) fun v4 =>
 bnd (faV 11 v4) fun v5 =>
 bnd (ldV 1 false v5 h) fun v6 =>
 bnd (lnV v6) fun v7 =>
 bnd (binV .sub v7 (.int .i64 1)) fun v8 =>
 bnd (ncV v3) fun v9 =>
 bnd (faV 17 v9) fun v10 =>
 bnd (ldV 1 false v10 h) fun v11 =>
 bnd (eqK .ptr true v11 (.pointer none)) fun b12 =>
 ifV (.bool b12) (
 bnd (binV .geq v8 (.int .i64 0)) fun v13 =>
 S45_j1 a0 v3 v8 v13 h K ) (
 S45_j1 a0 v3 v8 (.bool false) h K )
def A45 : Ann := ⟨fun | 11 => ([0, 1, 2, 3, 4, 5, 6, 7, 8, 9, 10, 11, 12, 13], [0, 1, 3, 7, 0, 16, 48, 112, 255, 511, 1023, 1023, 2047, 8191]) | _ => ([], []), fun _ => []⟩
theorem S45_T {a0 : Value} {h : GH} {K : Value → GH → Prop} (g : S45 a0 h K) : T Tryz.prog 45 [a0] h K :=
  T_of_gwp (A := A45) Tryz.func45 (c := bodyOf Tryz.f45) (by kernel_rfl) (by kernel_rfl) (by kernel_rfl) (by kernel_rfl) (by kernel_rfl) (Eq.mp (by kernel_rfl) g)
def S46 (a0 : Value) (h : GH) (K : Value → GH → Prop) : Prop :=
 T Tryz.prog 13 [a0, (.int .i64 12)] h fun v1 h2 =>
 bnd (unV .not v1) fun v3 =>
 ifV v3 (
 K (.tuple #[(.pointer none), (.int .i64 1000)]) h2) (
 bnd (fillV [(.int .i64 0), (.int .i64 0), (.int .i64 0), (.int .i64 0), (.bool false), (.int .i64 0)] [(5, 1, a0)]) fun c4 =>
 newV 139 ((.agg c4.toArray) : Value).cells.toList h2 fun v5 h6 =>
 K (.tuple #[v5, (.int .i64 0)]) h6)
def A46 : Ann := ⟨fun _ => ([], []), fun _ => []⟩
theorem S46_T {a0 : Value} {h : GH} {K : Value → GH → Prop} (g : S46 a0 h K) : T Tryz.prog 46 [a0] h K :=
  T_of_gwp (A := A46) Tryz.func46 (c := bodyOf Tryz.f46) (by kernel_rfl) (by kernel_rfl) (by kernel_rfl) (by kernel_rfl) (by kernel_rfl) (Eq.mp (by kernel_rfl) g)
def S47 (a0 a1 : Value) (h : GH) (K : Value → GH → Prop) : Prop :=
 newV 70 (a0 : Value).cells.toList h fun v1 h2 =>
 newV 42 (a1 : Value).cells.toList h2 fun v3 h4 =>
 bnd (ldV 1 false v1 h4) fun v5 =>
 bnd (eqK .ptr true v5 (.pointer none)) fun b6 =>
 ifV (.bool b6) (
 K (.tuple #[(.bool false), (.int .i64 1)]) h4) (
 bnd (ldV 1 false v1 h4) fun v7 =>
 bnd (ncV v7) fun v8 =>
 bnd (faV 0 v8) fun v9 =>
 bnd (ldV 1 false v3 h4) fun v10 =>
 T Tryz.prog 60 [v9, v10, (.func (.func 61) #[] #[v1, v3])] h4 fun v11 h12 =>
 bnd (exV v11 0) fun v13 =>
 bnd (exV v11 1) fun v14 =>
 K (.tuple #[v13, v14]) h12)
def A47 : Ann := ⟨fun | 3 => ([0, 1, 2, 3, 4, 5, 6, 7, 8, 9], [0, 1, 3, 0, 0, 31, 63, 63, 255, 511]) | _ => ([], []), fun _ => []⟩
theorem S47_T {a0 a1 : Value} {h : GH} {K : Value → GH → Prop} (g : S47 a0 a1 h K) : T Tryz.prog 47 [a0, a1] h K :=
  T_of_gwp (A := A47) Tryz.func47 (c := bodyOf Tryz.f47) (by kernel_rfl) (by kernel_rfl) (by kernel_rfl) (by kernel_rfl) (by kernel_rfl) (Eq.mp (by kernel_rfl) g)
def S48 (a0 : Value) (h : GH) (K : Value → GH → Prop) : Prop :=
 newV 75 [(.int .i64 0), (.int .i64 0)] h fun v1 h2 =>
 bnd (binV .rem a0 (.int .i64 16)) fun v3 =>
 bnd (binV .quo a0 (.int .i64 16)) fun v4 =>
 bnd (fillV [(.int .i64 0), (.int .i64 0)] [(0, 1, v3), (1, 1, v4)]) fun c5 =>
 bnd (stV 2 v1 (.agg c5.toArray) h2) fun h6 =>
 bnd (ldV 2 true v1 h6) fun v7 =>
 K v7 h6
def A48 : Ann := ⟨fun _ => ([], []), fun _ => []⟩
theorem S48_T {a0 : Value} {h : GH} {K : Value → GH → Prop} (g : S48 a0 h K) : T Tryz.prog 48 [a0] h K :=
  T_of_gwp (A := A48) Tryz.func48 (c := bodyOf Tryz.f48) (by kernel_rfl) (by kernel_rfl) (by kernel_rfl) (by kernel_rfl) (by kernel_rfl) (Eq.mp (by kernel_rfl) g)
def S49 (a0 : Value) (h : GH) (K : Value → GH → Prop) : Prop :=
 ivV Tryz.prog a0 "pawl/word.plain" [] h fun v1 h2 =>
 newV 145 [(.int .i64 0), (.int .i64 0), (.int .i64 0), (.int .i64 0), (.int .i64 0), (.int .i64 0), (.int .i64 0)] h2 fun v3 h4 =>
 bnd (stV 7 v3 v1 h4) fun h5 =>
 bnd (faV 1 v3) fun v6 =>
 bnd (ldV 1 false v6 h5) fun v7 =>
 T Tryz.prog 13 [v7, (.int .i64 1099511627776)] h5 fun v8 h9 =>
 ifV v8 (
 bnd (faV 2 v3) fun v10 =>
 bnd (ldV 1 false v10 h9) fun v11 =>
 T Tryz.prog 13 [v11, (.int .i64 12)] h9 fun v12 h13 =>
 ifV v12 (
 bnd (faV 3 v3) fun v14 =>
 bnd (ldV 1 false v14 h13) fun v15 =>
 T Tryz.prog 13 [v15, (.int .i64 65536)] h13 fun v16 h17 =>
 ifV v16 (
 bnd (faV 4 v3) fun v18 =>
 bnd (ldV 1 false v18 h17) fun v19 =>
 T Tryz.prog 13 [v19, (.int .i64 16)] h17 fun v20 h21 =>
 ifV v20 (
 bnd (faV 5 v3) fun v22 =>
 bnd (ldV 1 false v22 h21) fun v23 =>
 T Tryz.prog 13 [v23, (.int .i64 4)] h21 fun v24 h25 =>
 ifV v24 (
 bnd (faV 6 v3) fun v26 =>
 bnd (ldV 1 false v26 h25) fun v27 =>
 T Tryz.prog 13 [v27, (.int .i64 1048576)] h25 fun v28 h29 =>
 K v28 h29) (
 K (.bool false) h25)) (
 K (.bool false) h21)) (
 K (.bool false) h17)) (
 K (.bool false) h13)) (
 K (.bool false) h9)
def A49 : Ann := ⟨fun _ => ([], []), fun _ => []⟩
theorem S49_T {a0 : Value} {h : GH} {K : Value → GH → Prop} (g : S49 a0 h K) : T Tryz.prog 49 [a0] h K :=
  T_of_gwp (A := A49) Tryz.func49 (c := bodyOf Tryz.f49) (by kernel_rfl) (by kernel_rfl) (by kernel_rfl) (by kernel_rfl) (by kernel_rfl) (Eq.mp (by kernel_rfl) g)
def S50 (a0 a1 a2 : Value) (h : GH) (K : Value → GH → Prop) : Prop :=
 newV 3 (a2 : Value).cells.toList h fun v1 h2 =>
 T Tryz.prog 64 [a0, (.int .i64 1), a1, (.func (.func 65) #[] #[v1])] h2 fun v3 h4 =>
 bnd (exV v3 0) fun v5 =>
 bnd (exV v3 1) fun v6 =>
 K (.tuple #[v5, v6]) h4
def A50 : Ann := ⟨fun _ => ([], []), fun _ => []⟩
theorem S50_T {a0 a1 a2 : Value} {h : GH} {K : Value → GH → Prop} (g : S50 a0 a1 a2 h K) : T Tryz.prog 50 [a0, a1, a2] h K :=
  T_of_gwp (A := A50) Tryz.func50 (c := bodyOf Tryz.f50) (by kernel_rfl) (by kernel_rfl) (by kernel_rfl) (by kernel_rfl) (by kernel_rfl) (Eq.mp (by kernel_rfl) g)
def S51 (a0 a1 : Value) (h : GH) (K : Value → GH → Prop) : Prop :=
 T Tryz.prog 64 [a0, (.int .i64 0), a1, (.func (.func 66) #[] #[])] h fun v1 h2 =>
 bnd (exV v1 0) fun v3 =>
 bnd (exV v1 1) fun v4 =>
 K (.tuple #[v3, v4]) h2
def A51 : Ann := ⟨fun _ => ([], []), fun _ => []⟩
theorem S51_T {a0 a1 : Value} {h : GH} {K : Value → GH → Prop} (g : S51 a0 a1 h K) : T Tryz.prog 51 [a0, a1] h K :=
  T_of_gwp (A := A51) Tryz.func51 (c := bodyOf Tryz.f51) (by kernel_rfl) (by kernel_rfl) (by kernel_rfl) (by kernel_rfl) (by kernel_rfl) (Eq.mp (by kernel_rfl) g)
def S52 (a0 : Value) (h : GH) (K : Value → GH → Prop) : Prop :=
 T Tryz.prog 30 [a0] h fun v1 h2 =>
 bnd (exV v1 0) fun v3 =>
 bnd (exV v1 1) fun v4 =>
 ifV v4 (
 bnd (binV .lss v3 (.int .i64 1073741823)) fun v5 =>
 K (.tuple #[v3, v5]) h2) (
 K (.tuple #[v3, (.bool false)]) h2)
def A52 : Ann := ⟨fun _ => ([], []), fun _ => []⟩
theorem S52_T {a0 : Value} {h : GH} {K : Value → GH → Prop} (g : S52 a0 h K) : T Tryz.prog 52 [a0] h K :=
  T_of_gwp (A := A52) Tryz.func52 (c := bodyOf Tryz.f52) (by kernel_rfl) (by kernel_rfl) (by kernel_rfl) (by kernel_rfl) (by kernel_rfl) (Eq.mp (by kernel_rfl) g)
def S53 (a0 a1 : Value) (h : GH) (K : Value → GH → Prop) : Prop :=
 bnd (lnV a0) fun v1 =>
 Lfp (fun (s2 : Nat → Value) h3 again4 =>
 bnd (binV .lss (s2 3) (s2 2)) fun v5 =>
 ifV v5 (
 bnd (isV 2 (s2 0) (s2 3)) fun v6 =>
 bnd (ldV 2 true v6 h3) fun v7 =>
 callV Tryz.prog (s2 1) [v7] h3 fun v8 h9 =>
 ifV v8 (
 K (s2 3) h9) (
 bnd (binV .add (s2 3) (.int .i64 1)) fun v10 =>
 again4 (tup [(s2 0), (s2 1), (s2 2), v10]) h9)) (
 K (.int .i64 (-1)) h3)) (tup [a0, a1, v1, (.int .i64 0)]) h
def A53 : Ann := ⟨fun _ => ([], []), fun | 0 => [0, 1, 7, 8] | _ => []⟩
theorem S53_T {a0 a1 : Value} {h : GH} {K : Value → GH → Prop} (g : S53 a0 a1 h K) : T Tryz.prog 53 [a0, a1] h K :=
  T_of_gwp (A := A53) Tryz.func53 (c := bodyOf Tryz.f53) (by kernel_rfl) (by kernel_rfl) (by kernel_rfl) (by kernel_rfl) (by kernel_rfl) (Eq.mp (by kernel_rfl) g)
def S54 (a0 a1 : Value) (h : GH) (K : Value → GH → Prop) : Prop :=
 bnd (ncV a0) fun v1 =>
 bnd (faV 0 v1) fun v2 =>
 bnd (ldV 1 false v2 h) fun v3 =>
 bnd (ncV a0) fun v4 =>
 bnd (faV 2 v4) fun v5 =>
 bnd (ldV 1 false v5 h) fun v6 =>
 bnd (ncV v6) fun v7 =>
 bnd (iaV 12 1 v7 a1) fun v8 =>
 bnd (ldV 1 false v8 h) fun v9 =>
 bnd (binV .add v9 (.int .i64 1)) fun v10 =>
 bnd (ncV v6) fun v11 =>
 bnd (iaV 12 1 v11 a1) fun v12 =>
 bnd (stV 1 v12 v10 h) fun h13 =>
 bnd (ncV v3) fun v14 =>
 bnd (faV 14 v14) fun v15 =>
 bnd (stV 1 v15 a1 h13) fun h16 =>
 bnd (ncV v3) fun v17 =>
 bnd (faV 0 v17) fun v18 =>
 bnd (ldV 1 false v18 h16) fun v19 =>
 bnd (ncV v3) fun v20 =>
 bnd (faV 10 v20) fun v21 =>
 bnd (ldV 1 false v21 h16) fun v22 =>
 bnd (ncV a0) fun v23 =>
 bnd (faV 2 v23) fun v24 =>
 bnd (ldV 1 false v24 h16) fun v25 =>
 bnd (ncV v25) fun v26 =>
 bnd (iaV 12 1 v26 a1) fun v27 =>
 bnd (ldV 1 false v27 h16) fun v28 =>
 bnd (ncV v3) fun v29 =>
 bnd (faV 4 v29) fun v30 =>
 bnd (ldV 1 false v30 h16) fun v31 =>
 T Tryz.prog 33 [v3] h16 fun v32 h33 =>
 ldV 1 false v30 h33 = some v31 ∧
 ldV 1 false v27 h33 = some v28 ∧
 ldV 1 false v24 h33 = some v25 ∧
 ldV 1 false v21 h33 = some v22 ∧
 ldV 1 false v18 h33 = some v19 ∧
 bnd (ncV v32) fun v34 =>
 bnd (faV 1 v34) fun v35 =>
 bnd (ldV 1 false v35 h33) fun v36 =>
 bnd (isV 1 v31 v36) fun v37 =>
 bnd (faV 0 v37) fun v38 =>
 bnd (ldV 1 false v38 h33) fun v39 =>
 T Tryz.prog 67 [v19, v22, a1, v28, v39] h33 fun v40 h41 =>
 bnd (exV v40 0) fun v42 =>
 bnd (exV v40 1) fun v43 =>
 bnd (ncV v3) fun v44 =>
 bnd (faV 18 v44) fun v45 =>
 bnd (stV 1 v45 v42 h41) fun h46 =>
 bnd (ncV v3) fun v47 =>
 bnd (faV 6 v47) fun v48 =>
 bnd (stV 1 v48 (.func (.func 55) #[] #[]) h46) fun h49 =>
 K (.tuple #[]) h49
def A54 : Ann := ⟨fun | 1 => ([0, 1, 2, 3, 4, 5, 6, 7, 8, 9, 10, 11], [0, 1, 3, 7, 0, 15, 63, 127, 255, 15, 1023, 2047]) | 3 => ([0, 1, 2, 3, 4, 5, 6, 7, 8, 9, 10, 11, 12, 13, 14, 15, 16, 17, 18, 19, 20, 21, 22, 23, 24, 25, 26, 27, 28, 29, 30, 31, 32, 33, 34, 35, 36], [0, 0, 2, 6, 14, 0, 32, 96, 224, 0, 0, 1024, 3072, 7168, 0, 15360, 64512, 130048, 0, 262144, 786432, 1835008, 0, 4194304, 12582912, 29360128, 62914560, 133955584, 268173312, 536608768, 1073741822, 2147483646, 4294967294, 4294967294, 8589934591, 25769803775, 60129542143]) | _ => ([], []), fun _ => []⟩
theorem S54_T {a0 a1 : Value} {h : GH} {K : Value → GH → Prop} (g : S54 a0 a1 h K) : T Tryz.prog 54 [a0, a1] h K :=
  T_of_gwp (A := A54) Tryz.func54 (c := bodyOf Tryz.f54) (by kernel_rfl) (by kernel_rfl) (by kernel_rfl) (by kernel_rfl) (by kernel_rfl) (Eq.mp (by kernel_rfl) g)
def S55 (a0 : Value) (h : GH) (K : Value → GH → Prop) : Prop :=
 bnd (ncV a0) fun v1 =>
 bnd (faV 0 v1) fun v2 =>
 bnd (ldV 1 false v2 h) fun v3 =>
 bnd (ncV v3) fun v4 =>
 bnd (faV 18 v4) fun v5 =>
 bnd (ldV 1 false v5 h) fun v6 =>
 bnd (eqK .ptr true v6 (.pointer none)) fun b7 =>
 ifV (.bool b7) (
 K (.int .i64 1800) h) (
 bnd (ncV v3) fun v8 =>
 bnd (faV 18 v8) fun v9 =>
 bnd (ldV 1 false v9 h) fun v10 =>
 bnd (ncV a0) fun v11 =>
 bnd (faV 1 v11) fun v12 =>
 bnd (ldV 1 false v12 h) fun v13 =>
 T Tryz.prog 68 [v10, v13] h fun v14 h15 =>
 bnd (exV v14 0) fun v16 =>
 bnd (exV v14 1) fun v17 =>
 bnd (ncV v3) fun v18 =>
 bnd (faV 18 v18) fun v19 =>
 bnd (ldV 1 false v19 h15) fun v20 =>
 T Tryz.prog 69 [v20] h15 fun v21 h22 =>
 bnd (exV v21 0) fun v23 =>
 bnd (exV v21 1) fun v24 =>
 bnd (ncV v3) fun v25 =>
 bnd (faV 21 v25) fun v26 =>
 bnd (faV 0 v26) fun v27 =>
 bnd (stV 1 v27 v23 h22) fun h28 =>
 bnd (ncV v3) fun v29 =>
 bnd (faV 21 v29) fun v30 =>
 bnd (faV 1 v30) fun v31 =>
 bnd (stV 1 v31 v24 h28) fun h32 =>
 bnd (ncV v3) fun v33 =>
 bnd (faV 18 v33) fun v34 =>
 bnd (ldV 1 false v34 h32) fun v35 =>
 T Tryz.prog 70 [v35] h32 fun v36 h37 =>
 bnd (ncV v3) fun v38 =>
 bnd (faV 10 v38) fun v39 =>
 bnd (stV 1 v39 v36 h37) fun h40 =>
 ifV v16 (
 bnd (ncV v3) fun v41 =>
 bnd (faV 6 v41) fun v42 =>
 bnd (stV 1 v42 (.func (.func 71) #[] #[]) h40) fun h43 =>
 K v17 h43) (
 K v17 h40))
def A55 : Ann := ⟨fun | 4 => ([0, 1, 2, 3, 4, 5, 6, 7, 8, 9, 10, 11, 12, 13], [0, 1, 3, 7, 0, 16, 48, 112, 255, 511, 1023, 1023, 2047, 8191]) | _ => ([], []), fun _ => []⟩
theorem S55_T {a0 : Value} {h : GH} {K : Value → GH → Prop} (g : S55 a0 h K) : T Tryz.prog 55 [a0] h K :=
  T_of_gwp (A := A55) Tryz.func55 (c := bodyOf Tryz.f55) (by kernel_rfl) (by kernel_rfl) (by kernel_rfl) (by kernel_rfl) (by kernel_rfl) (Eq.mp (by kernel_rfl) g)
def S56 (h : GH) (K : Value → GH → Prop) : Prop :=
 bnd (fillV [(.int .i64 0), (.int .i64 0), (.int .i64 0), (.int .i64 0), (.bool false), (.int .i64 0), (.int .i64 0)] [(6, 1, (.int .i64 (-1)))]) fun c1 =>
 newV 151 ((.agg c1.toArray) : Value).cells.toList h fun v2 h3 =>
 K v2 h3
def A56 : Ann := ⟨fun _ => ([], []), fun _ => []⟩
theorem S56_T {h : GH} {K : Value → GH → Prop} (g : S56 h K) : T Tryz.prog 56 [] h K :=
  T_of_gwp (A := A56) Tryz.func56 (c := bodyOf Tryz.f56) (by kernel_rfl) (by kernel_rfl) (by kernel_rfl) (by kernel_rfl) (by kernel_rfl) (Eq.mp (by kernel_rfl) g)
def S57 (a0 a1 : Value) (h : GH) (K : Value → GH → Prop) : Prop :=
 newV 71 (a0 : Value).cells.toList h fun v1 h2 =>
 newV 42 (a1 : Value).cells.toList h2 fun v3 h4 =>
 bnd (ldV 1 false v1 h4) fun v5 =>
 bnd (eqK .ptr true v5 (.pointer none)) fun b6 =>
 ifV (.bool b6) (
 K (.tuple #[(.bool false), (.int .i64 1)]) h4) (
 bnd (ldV 1 false v1 h4) fun v7 =>
 bnd (ncV v7) fun v8 =>
 bnd (faV 0 v8) fun v9 =>
 bnd (ldV 1 false v3 h4) fun v10 =>
 T Tryz.prog 60 [v9, v10, (.func (.func 72) #[] #[v1, v3])] h4 fun v11 h12 =>
 bnd (exV v11 0) fun v13 =>
 bnd (exV v11 1) fun v14 =>
 K (.tuple #[v13, v14]) h12)
def A57 : Ann := ⟨fun | 3 => ([0, 1, 2, 3, 4, 5, 6, 7, 8, 9], [0, 1, 3, 0, 0, 31, 63, 63, 255, 511]) | _ => ([], []), fun _ => []⟩
theorem S57_T {a0 a1 : Value} {h : GH} {K : Value → GH → Prop} (g : S57 a0 a1 h K) : T Tryz.prog 57 [a0, a1] h K :=
  T_of_gwp (A := A57) Tryz.func57 (c := bodyOf Tryz.f57) (by kernel_rfl) (by kernel_rfl) (by kernel_rfl) (by kernel_rfl) (by kernel_rfl) (Eq.mp (by kernel_rfl) g)
def S58 (a0 : Value) (h : GH) (K : Value → GH → Prop) : Prop :=
 bnd (eqK .ptr true a0 (.pointer none)) fun b1 =>
 ifV (.bool b1) (
 K (.int .i64 0) h) (
 bnd (ncV a0) fun v2 =>
 bnd (faV 6 v2) fun v3 =>
 bnd (ldV 1 false v3 h) fun v4 =>
 K v4 h)
def A58 : Ann := ⟨fun _ => ([], []), fun _ => []⟩
theorem S58_T {a0 : Value} {h : GH} {K : Value → GH → Prop} (g : S58 a0 h K) : T Tryz.prog 58 [a0] h K :=
  T_of_gwp (A := A58) Tryz.func58 (c := bodyOf Tryz.f58) (by kernel_rfl) (by kernel_rfl) (by kernel_rfl) (by kernel_rfl) (by kernel_rfl) (Eq.mp (by kernel_rfl) g)
def S59 (a0 : Value) (h : GH) (K : Value → GH → Prop) : Prop :=
 bnd (ncV a0) fun v1 =>
 bnd (faV 0 v1) fun v2 =>
 bnd (ldV 1 false v2 h) fun v3 =>
 bnd (ncV v3) fun v4 =>
 bnd (faV 1 v4) fun v5 =>
 bnd (ldV 1 false v5 h) fun v6 =>
 T Tryz.prog 74 [v6] h fun v7 h8 =>
 bnd (exV v7 0) fun v9 =>
 bnd (exV v7 1) fun v10 =>
 bnd (ncV v3) fun v11 =>
 bnd (faV 19 v11) fun v12 =>
 bnd (stV 1 v12 v9 h8) fun h13 =>
 bnd (ncV v3) fun v14 =>
 bnd (faV 6 v14) fun v15 =>
 bnd (stV 1 v15 (.func (.func 75) #[] #[]) h13) fun h16 =>
 bnd (ncV a0) fun v17 =>
 bnd (faV 1 v17) fun v18 =>
 bnd (ldV 1 false v18 h16) fun v19 =>
 bnd (ncV v3) fun v20 =>
 bnd (faV 0 v20) fun v21 =>
 bnd (ldV 1 false v21 h16) fun v22 =>
 T Tryz.prog 76 [v19, v22] h16 fun v23 h24 =>
 K v23 h24
def A59 : Ann := ⟨fun | 4 => ([0, 1, 2, 3, 4, 5, 6, 7, 8, 9], [0, 1, 3, 7, 0, 16, 48, 112, 255, 511]) | _ => ([], []), fun _ => []⟩
theorem S59_T {a0 : Value} {h : GH} {K : Value → GH → Prop} (g : S59 a0 h K) : T Tryz.prog 59 [a0] h K :=
  T_of_gwp (A := A59) Tryz.func59 (c := bodyOf Tryz.f59) (by kernel_rfl) (by kernel_rfl) (by kernel_rfl) (by kernel_rfl) (by kernel_rfl) (Eq.mp (by kernel_rfl) g)
def S60 (a0 a1 a2 : Value) (h : GH) (K : Value → GH → Prop) : Prop :=
 bnd (eqK .ptr true a1 (.pointer none)) fun b1 =>
 ifV (.bool b1) (
 K (.tuple #[(.bool false), (.int .i64 1)]) h) (
 bnd (ncV a0) fun v2 =>
 bnd (faV 4 v2) fun v3 =>
 bnd (ldV 1 false v3 h) fun v4 =>
 ifV v4 (
 K (.tuple #[(.bool true), (.int .i64 0)]) h) (
 callV Tryz.prog a2 [] h fun v5 h6 =>
 bnd (ncV a0) fun v7 =>
 bnd (faV 4 v7) fun v8 =>
 bnd (ldV 1 false v8 h6) fun v9 =>
 ifV v9 (
 bnd (ncV a0) fun v10 =>
 bnd (faV 4 v10) fun v11 =>
 bnd (stV 1 v11 (.bool true) h6) fun h12 =>
 bnd (ncV a0) fun v13 =>
 bnd (faV 4 v13) fun v14 =>
 bnd (ldV 1 false v14 h12) fun v15 =>
 K (.tuple #[v15, v5]) h12) (
 bnd (eqI v5 (.int .i64 0)) fun b16 =>
 bnd (ncV a0) fun v17 =>
 bnd (faV 4 v17) fun v18 =>
 bnd (stV 1 v18 (.bool (!b16)) h6) fun h19 =>
 bnd (ncV a0) fun v20 =>
 bnd (faV 4 v20) fun v21 =>
 bnd (ldV 1 false v21 h19) fun v22 =>
 K (.tuple #[v22, v5]) h19)))
def A60 : Ann := ⟨fun _ => ([], []), fun _ => []⟩
theorem S60_T {a0 a1 a2 : Value} {h : GH} {K : Value → GH → Prop} (g : S60 a0 a1 a2 h K) : T Tryz.prog 60 [a0, a1, a2] h K :=
  T_of_gwp (A := A60) Tryz.func60 (c := bodyOf Tryz.f60) (by kernel_rfl) (by kernel_rfl) (by kernel_rfl) (by kernel_rfl) (by kernel_rfl) (Eq.mp (by kernel_rfl) g)
def S61 (a0 a1 : Value) (h : GH) (K : Value → GH → Prop) : Prop :=
 bnd (ldV 1 false a0 h) fun v1 =>
 bnd (ncV v1) fun v2 =>
 bnd (faV 0 v2) fun v3 =>
 bnd (faV 0 v3) fun v4 =>
 bnd (ldV 1 false v4 h) fun v5 =>
 bnd (eqI v5 (.int .i64 0)) fun b6 =>
 ifV (.bool b6) (
 bnd (ldV 1 false a0 h) fun v7 =>
 bnd (ncV v7) fun v8 =>
 bnd (faV 0 v8) fun v9 =>
 bnd (ldV 1 false a1 h) fun v10 =>
 T Tryz.prog 62 [v9, v10] h fun v11 h12 =>
 bnd (unV .not v11) fun v13 =>
 ifV v13 (
 K (.int .i64 1000) h12) (
 K (.int .i64 0) h12)) (
 bnd (eqI v5 (.int .i64 1)) fun b14 =>
 ifV (.bool b14) (
 bnd (ldV 1 false a1 h) fun v15 =>
 bnd (ldV 1 false a0 h) fun v16 =>
 bnd (ncV v16) fun v17 =>
 bnd (faV 5 v17) fun v18 =>
 bnd (ldV 1 false v18 h) fun v19 =>
 bnd (binV .add (.int .i64 17) v19) fun v20 =>
 bnd (ldV 1 false a0 h) fun v21 =>
 bnd (ncV v21) fun v22 =>
 bnd (faV 0 v22) fun v23 =>
 bnd (faV 2 v23) fun v24 =>
 bnd (faV 1 v24) fun v25 =>
 bnd (ldV 1 false v25 h) fun v26 =>
 T Tryz.prog 18 [v26] h fun v27 h28 =>
 ldV 1 false v18 h28 = some v19 ∧
 ldV 1 false a0 h28 = some v16 ∧
 ldV 1 false a1 h28 = some v15 ∧
 T Tryz.prog 50 [v15, v20, v27] h28 fun v29 h30 =>
 bnd (ldV 1 false a0 h30) fun v31 =>
 bnd (ncV v31) fun v32 =>
 bnd (faV 0 v32) fun v33 =>
 bnd (faV 0 v33) fun v34 =>
 bnd (stV 1 v34 (.int .i64 2) h30) fun h35 =>
 K (.int .i64 0) h35) (
 bnd (ldV 1 false a0 h) fun v36 =>
 bnd (ldV 1 false a0 h) fun v37 =>
 bnd (ncV v37) fun v38 =>
 bnd (faV 0 v38) fun v39 =>
 bnd (ldV 1 false a1 h) fun v40 =>
 bnd (ldV 1 false a0 h) fun v41 =>
 bnd (ncV v41) fun v42 =>
 bnd (faV 5 v42) fun v43 =>
 bnd (ldV 1 false v43 h) fun v44 =>
 bnd (binV .add v44 (.int .i64 1)) fun v45 =>
 T Tryz.prog 63 [v39, v40, v45] h fun v46 h47 =>
 ldV 1 false a0 h47 = some v36 ∧
 bnd (ncV v36) fun v48 =>
 bnd (faV 0 v48) fun v49 =>
 bnd (faV 4 v49) fun v50 =>
 bnd (stV 1 v50 v46 h47) fun h51 =>
 K (.int .i64 0) h51))
def A61 : Ann := ⟨fun | 2 => ([0, 1, 2, 3, 4, 5, 6, 7, 8, 9, 10, 11, 12, 13, 14], [0, 0, 2, 6, 0, 0, 32, 96, 224, 480, 1022, 2047, 4095, 8191, 16383]) | 4 => ([0, 1, 2, 3, 4, 5], [0, 1, 3, 0, 15, 31]) | 7 => ([0, 1, 2, 3, 4, 5, 6, 7, 8, 9, 10, 11, 12, 13], [0, 0, 2, 6, 14, 30, 0, 64, 192, 448, 960, 1984, 4032, 8191]) | _ => ([], []), fun _ => []⟩
theorem S61_T {a0 a1 : Value} {h : GH} {K : Value → GH → Prop} (g : S61 a0 a1 h K) : T Tryz.prog 61 [a0, a1] h K :=
  T_of_gwp (A := A61) Tryz.func61 (c := bodyOf Tryz.f61) (by kernel_rfl) (by kernel_rfl) (by kernel_rfl) (by kernel_rfl) (by kernel_rfl) (Eq.mp (by kernel_rfl) g)
def S62 (a0 a1 : Value) (h : GH) (K : Value → GH → Prop) : Prop :=
 T Tryz.prog 51 [a1, (.int .i64 16)] h fun v1 h2 =>
 bnd (exV v1 0) fun v3 =>
 bnd (exV v1 1) fun v4 =>
 bnd (ncV a0) fun v5 =>
 bnd (faV 1 v5) fun v6 =>
 bnd (stV 1 v6 v3 h2) fun h7 =>
 bnd (ncV a0) fun v8 =>
 bnd (faV 1 v8) fun v9 =>
 bnd (ldV 1 false v9 h7) fun v10 =>
 T Tryz.prog 77 [v10] h7 fun v11 h12 =>
 bnd (exV v11 0) fun v13 =>
 bnd (exV v11 1) fun v14 =>
 newV 135 [(.int .i64 0), (.int .i64 0)] h12 fun v15 h16 =>
 bnd (stV 2 v15 v13 h16) fun h17 =>
 bnd (ldV 2 true v15 h17) fun v18 =>
 bnd (ncV a0) fun v19 =>
 bnd (faV 2 v19) fun v20 =>
 bnd (stV 2 v20 v18 h17) fun h21 =>
 bnd (ncV a0) fun v22 =>
 bnd (faV 0 v22) fun v23 =>
 bnd (stV 1 v23 (.int .i64 1) h21) fun h24 =>
 K v14 h24
def A62 : Ann := ⟨fun _ => ([], []), fun _ => []⟩
theorem S62_T {a0 a1 : Value} {h : GH} {K : Value → GH → Prop} (g : S62 a0 a1 h K) : T Tryz.prog 62 [a0, a1] h K :=
  T_of_gwp (A := A62) Tryz.func62 (c := bodyOf Tryz.f62) (by kernel_rfl) (by kernel_rfl) (by kernel_rfl) (by kernel_rfl) (by kernel_rfl) (Eq.mp (by kernel_rfl) g)
def S63 (a0 a1 a2 : Value) (h : GH) (K : Value → GH → Prop) : Prop :=
 bnd (ncV a0) fun v1 =>
 bnd (faV 1 v1) fun v2 =>
 bnd (ldV 1 false v2 h) fun v3 =>
 bnd (ncV a0) fun v4 =>
 bnd (faV 2 v4) fun v5 =>
 bnd (ldV 2 true v5 h) fun v6 =>
 T Tryz.prog 79 [v6, a2] h fun v7 h8 =>
 ldV 1 false v2 h8 = some v3 ∧
 T Tryz.prog 78 [a1, (.int .i64 16), v3, v7] h8 fun v9 h10 =>
 bnd (exV v9 0) fun v11 =>
 bnd (exV v9 1) fun v12 =>
 bnd (ncV a0) fun v13 =>
 bnd (faV 0 v13) fun v14 =>
 bnd (stV 1 v14 (.int .i64 0) h10) fun h15 =>
 bnd (ncV a0) fun v16 =>
 bnd (faV 1 v16) fun v17 =>
 bnd (ldV 1 false v17 h15) fun v18 =>
 bnd (eqI v11 v18) fun b19 =>
 K (.bool b19) h15
def A63 : Ann := ⟨fun | 1 => ([0, 1, 2, 3, 4, 5, 6, 7, 8, 9, 10, 11, 12, 13, 14, 15, 16], [0, 0, 2, 6, 14, 0, 32, 96, 224, 0, 992, 2047, 4095, 8191, 8191, 16383, 65535]) | _ => ([], []), fun _ => []⟩
theorem S63_T {a0 a1 a2 : Value} {h : GH} {K : Value → GH → Prop} (g : S63 a0 a1 a2 h K) : T Tryz.prog 63 [a0, a1, a2] h K :=
  T_of_gwp (A := A63) Tryz.func63 (c := bodyOf Tryz.f63) (by kernel_rfl) (by kernel_rfl) (by kernel_rfl) (by kernel_rfl) (by kernel_rfl) (Eq.mp (by kernel_rfl) g)
end Go.Proofs.YtghcnhimggbobaaGreat
