/- Several texts in one; nothing here is a statement on the program. -/
import Derived.Test.YtcpfkkppfgolaaaGreatDoorTTR2
import Derived.Test.YtcpfkkppfgolaaaGreatDoorProg
import Derived.KernelRfl
set_option linter.unusedVariables false
set_option linter.unusedSimpArgs false
namespace Go.Proofs.YtcpfkkppfgolaaaGreatDoor
open Go GW Go.Proofs
set_option maxRecDepth 100000
def S3_j3 (x1 x2 x5 x6 x7 : Value) (h : GH) (K : Value → GH → Prop)  : Prop :=
 Lfp (fun (s1 : Nat → Value) h2 again3 =>
 bnd (lnV (s1 0)) fun v4 =>
 bnd (binV .lss (s1 5) v4) fun v5 =>
 ifV v5 (
 bnd (isV 1 (s1 0) (s1 5)) fun v6 =>
 bnd (ldV 1 false v6 h2) fun v7 =>
 T Tryz.prog 9 [(s1 2), v7] h2 fun v8 h9 =>
 bnd (binV .add (s1 5) (.int .i64 1)) fun v10 =>
 again3 (tup [(s1 0), (s1 1), (s1 2), (s1 3), (s1 4), v10]) h9) (
 Lfp (fun (s11 : Nat → Value) h12 again13 =>
 bnd (lnV (s11 4)) fun v14 =>
 bnd (binV .lss (s11 5) v14) fun v15 =>
 ifV v15 (
 bnd (isV 1 (s11 4) (s11 5)) fun v16 =>
 bnd (ldV 1 false v16 h12) fun v17 =>
 T Tryz.prog 9 [(s11 3), v17] h12 fun v18 h19 =>
 bnd (binV .add (s11 5) (.int .i64 1)) fun v20 =>
 again13 (tup [(s11 0), (s11 1), (s11 2), (s11 3), (s11 4), v20]) h19) (
 Lfp (fun (s21 : Nat → Value) h22 again23 =>
 bnd (faV 0 (s21 1)) fun v24 =>
 bnd (ldV 1 false v24 h22) fun v25 =>
 bnd (lnV v25) fun v26 =>
 bnd (binV .lss (s21 5) v26) fun v27 =>
 ifV v27 (
 T Tryz.prog 10 [(s21 2), (s21 5)] h22 fun v28 h29 =>
 T Tryz.prog 10 [(s21 3), (s21 5)] h29 fun v30 h31 =>
 bnd (eqI v28 v30) fun b32 =>
 ifV (.bool (!b32)) (
 K (.bool false) h31) (
 bnd (binV .add (s21 5) (.int .i64 1)) fun v33 =>
 again23 (tup [(s21 0), (s21 1), (s21 2), (s21 3), (s21 4), v33]) h31)) (
 bnd (lnV (s21 4)) fun v34 =>
 bnd (lnV (s21 0)) fun v35 =>
 bnd (binV .leq v34 v35) fun v36 =>
 ifV v36 (
 T Tryz.prog 12 [(s21 2)] h22 fun v37 h38 =>
 T Tryz.prog 12 [(s21 3)] h38 fun v39 h40 =>
 T Tryz.prog 11 [v37, v39] h40 fun v41 h42 =>
 ifV v41 (
 T Tryz.prog 13 [(s21 2)] h42 fun v43 h44 =>
 T Tryz.prog 13 [(s21 3)] h44 fun v45 h46 =>
 bnd (eqK .bool false v43 v45) fun b47 =>
 K (.bool b47) h46) (
 K (.bool false) h42)) (
 K (.bool false) h22))) (tup [(s11 0), (s11 1), (s11 2), (s11 3), (s11 4), (.int .i64 0)]) h12)) (tup [(s1 0), (s1 1), (s1 2), (s1 3), (s1 4), (.int .i64 0)]) h2)) (tup [x1, x2, x5, x6, x7, (.int .i64 0)]) h
def S3_j2 (x1 x2 x5 x6 x7 x39 : Value) (h : GH) (K : Value → GH → Prop)  : Prop :=
 ifV x39 (
 bnd (eqK .ptr true x5 (.pointer none)) fun b1 =>
 ifV (.bool b1) (
 bnd (eqK .ptr true x6 (.pointer none)) fun b2 =>
 ifV (.bool b2) (
 bnd (ldV 3 true x2 h) fun v3 =>
 T Tryz.prog 8 [v3] h fun v4 h5 =>
 bnd (unV .not v4) fun v6 =>
 K v6 h5) (
 K (.bool false) h)) (
 K (.bool false) h)) (
 S3_j3 x1 x2 x5 x6 x7 h K )
def S3_j1 (x1 x2 : Value) (h : GH) (K : Value → GH → Prop)  : Prop :=
 bnd (ldV 3 true x2 h) fun v1 =>
 bnd (ldV 3 true x2 h) fun v2 =>
 T Tryz.prog 5 [v1] h fun v3 h4 =>
 ldV 3 true x2 h4 = some v2 ∧
 T Tryz.prog 5 [v2] h4 fun v5 h6 =>
 bnd (ldV 3 true x2 h6) fun v7 =>
 T Tryz.prog 6 [v7, x1] h6 fun v8 h9 =>
 bnd (exV v8 0) fun v10 =>
 bnd (exV v8 1) fun v11 =>
 bnd (eqK .ptr true v3 (.pointer none)) fun b12 =>
 ifV (.bool b12) (
 S3_j2 x1 x2 v3 v5 v10 (.bool true) h9 K ) (
 bnd (eqK .ptr true v5 (.pointer none)) fun b13 =>
 ifV (.bool b13) (
 S3_j2 x1 x2 v3 v5 v10 (.bool true) h9 K ) (
 T Tryz.prog 7 [v11] h9 fun v14 h15 =>
 bnd (eqI v14 (.int .i64 0)) fun b16 =>
 S3_j2 x1 x2 v3 v5 v10 (.bool (!b16)) h15 K ))
def S3 (a0 a1 : Value) (h : GH) (K : Value → GH → Prop) : Prop :=
 newV 24 (a0 : Value).cells.toList h fun v1 h2 =>
 T Tryz.prog 4 [] h2 fun v3 h4 =>
 bnd (unV .not v3) fun v5 =>
 ifV v5 (
 K (.bool false) h4) (
 bnd (lnV a1) fun v6 =>
 bnd (binV .gtr v6 (.int .i64 300)) fun v7 =>
 ifV v7 (
 bnd (slV 1 a1 none (some (.int .i64 300))) fun v8 =>
 S3_j1 v8 v1 h4 K ) (
 S3_j1 a1 v1 h4 K ))
def A3 : Ann := ⟨fun | 5 => ([0, 2, 1, 3, 4, 5], [0, 1, 0, 7, 15, 31]) | _ => ([], []), fun | 0 => [1, 2, 5, 6, 7, 9] | 2 => [1, 2, 5, 6, 7, 10] | 4 => [1, 2, 5, 6, 7, 11] | _ => []⟩
theorem S3_T {a0 a1 : Value} {h : GH} {K : Value → GH → Prop} (g : S3 a0 a1 h K) : T Tryz.prog 3 [a0, a1] h K :=
  T_of_gwp (A := A3) Tryz.func3 (c := bodyOf Tryz.f3) (by kernel_rfl) (by kernel_rfl) (by kernel_rfl) (by kernel_rfl) (by kernel_rfl) (Eq.mp (by kernel_rfl) g)
def S4_j1 (x1 x3 : Value) (h : GH) (K : Value → GH → Prop)  : Prop :=
 T Tryz.prog 15 [x3] h fun v1 h2 =>
 bnd (exV v1 0) fun v3 =>
 bnd (exV v1 1) fun v4 =>
 newV 43 [(.int .i64 0), (.int .i64 0), (.int .i64 0), (.int .i64 0)] h2 fun v5 h6 =>
 bnd (stV 4 v5 v3 h6) fun h7 =>
 bnd (ldV 3 true x1 h7) fun v8 =>
 T Tryz.prog 17 [x3] h7 fun v9 h10 =>
 ldV 3 true x1 h10 = some v8 ∧
 T Tryz.prog 16 [v8, v9] h10 fun v11 h12 =>
 bnd (exV v11 0) fun v13 =>
 bnd (exV v11 1) fun v14 =>
 newV 49 [(.int .i64 0), (.int .i64 0), (.int .i64 0), (.int .i64 0), (.bool false), (.bool false), (.bool false), (.bool false), (.bool false)] h12 fun v15 h16 =>
 bnd (stV 9 v15 v13 h16) fun h17 =>
 T Tryz.prog 19 [x3] h17 fun v18 h19 =>
 T Tryz.prog 18 [v18] h19 fun v20 h21 =>
 bnd (exV v20 0) fun v22 =>
 bnd (exV v20 1) fun v23 =>
 T Tryz.prog 12 [x3] h21 fun v24 h25 =>
 T Tryz.prog 12 [x3] h25 fun v26 h27 =>
 bnd (lnV v26) fun v28 =>
 bnd (mmV false v28 [(.int .i64 16)]) fun v29 =>
 bnd (slV 1 v24 none (some v29)) fun v30 =>
 T Tryz.prog 20 [v30] h27 fun v31 h32 =>
 bnd (exV v31 0) fun v33 =>
 bnd (exV v31 1) fun v34 =>
 newV 49 [(.int .i64 0), (.int .i64 0), (.int .i64 0), (.int .i64 0), (.bool false), (.bool false), (.bool false), (.bool false), (.bool false)] h32 fun v35 h36 =>
 bnd (stV 9 v35 v33 h36) fun h37 =>
 T Tryz.prog 21 [(.int .i64 2)] h37 fun v38 h39 =>
 bnd (exV v38 0) fun v40 =>
 bnd (exV v38 1) fun v41 =>
 bnd (faV 0 v5) fun v42 =>
 bnd (ldV 1 false v42 h39) fun v43 =>
 bnd (eqI v43 (.int .i64 12)) fun b44 =>
 ifV (.bool b44) (
 T Tryz.prog 7 [v4] h39 fun v45 h46 =>
 bnd (eqI v45 (.int .i64 0)) fun b47 =>
 ifV (.bool b47) (
 bnd (faV 0 v15) fun v48 =>
 bnd (iaV 4 1 v48 (.int .i64 0)) fun v49 =>
 bnd (ldV 1 false v49 h46) fun v50 =>
 bnd (eqI v50 (.int .i64 (-1))) fun b51 =>
 ifV (.bool b51) (
 T Tryz.prog 7 [v14] h46 fun v52 h53 =>
 bnd (eqI v52 (.int .i64 0)) fun b54 =>
 ifV (.bool b54) (
 bnd (eqI v22 (.int .i64 0)) fun b55 =>
 ifV (.bool b55) (
 T Tryz.prog 7 [v23] h53 fun v56 h57 =>
 bnd (eqI v56 (.int .i64 0)) fun b58 =>
 ifV (.bool b58) (
 bnd (ldV 9 true v35 h57) fun v59 =>
 bnd (ldV 9 true v15 h57) fun v60 =>
 bnd (eqP Tryz.prog 10000 49 v59 v60) fun b61 =>
 ifV (.bool b61) (
 T Tryz.prog 7 [v34] h57 fun v62 h63 =>
 bnd (eqI v62 (.int .i64 0)) fun b64 =>
 ifV (.bool b64) (
 bnd (eqI v40 (.int .i64 2048)) fun b65 =>
 ifV (.bool b65) (
 T Tryz.prog 7 [v41] h63 fun v66 h67 =>
 bnd (eqI v66 (.int .i64 0)) fun b68 =>
 K (.bool b68) h67) (
 K (.bool false) h63)) (
 K (.bool false) h63)) (
 K (.bool false) h57)) (
 K (.bool false) h57)) (
 K (.bool false) h53)) (
 K (.bool false) h53)) (
 K (.bool false) h46)) (
 K (.bool false) h46)) (
 K (.bool false) h39)
def S4 (h : GH) (K : Value → GH → Prop) : Prop :=
 T Tryz.prog 14 [(.string ⟨#[97, 51, 124, 111, 48, 44, 53, 48, 59, 116, 48, 44, 49, 44, 50, 48, 43, 115, 124, 105, 50, 44, 49]⟩)] h fun v1 h2 =>
 bnd (exV v1 0) fun v3 =>
 bnd (exV v1 1) fun v4 =>
 newV 24 [(.slice none 0 0), (.int .i64 0), (.bool false)] h2 fun v5 h6 =>
 bnd (stV 3 v5 v3 h6) fun h7 =>
 bnd (ldV 3 true v5 h7) fun v8 =>
 T Tryz.prog 5 [v8] h7 fun v9 h10 =>
 T Tryz.prog 7 [v4] h10 fun v11 h12 =>
 bnd (eqI v11 (.int .i64 0)) fun b13 =>
 ifV (.bool (!b13)) (
 K (.bool false) h12) (
 bnd (eqK .ptr true v9 (.pointer none)) fun b14 =>
 ifV (.bool b14) (
 K (.bool false) h12) (
 S4_j1 v5 v9 h12 K ))
def A4 : Ann := ⟨fun | 6 => ([0, 1, 2, 3, 4, 5, 6, 7, 8, 9], [0, 0, 2, 7, 15, 31, 31, 0, 191, 511]) | _ => ([], []), fun _ => []⟩
theorem S4_T {h : GH} {K : Value → GH → Prop} (g : S4 h K) : T Tryz.prog 4 [] h K :=
  T_of_gwp (A := A4) Tryz.func4 (c := bodyOf Tryz.f4) (by kernel_rfl) (by kernel_rfl) (by kernel_rfl) (by kernel_rfl) (by kernel_rfl) (Eq.mp (by kernel_rfl) g)
def S5 (a0 : Value) (h : GH) (K : Value → GH → Prop) : Prop :=
 newV 24 (a0 : Value).cells.toList h fun v1 h2 =>
 bnd (ldV 3 true v1 h2) fun v3 =>
 T Tryz.prog 22 [v3] h2 fun v4 h5 =>
 bnd (exV v4 0) fun v6 =>
 bnd (exV v4 1) fun v7 =>
 T Tryz.prog 7 [v7] h5 fun v8 h9 =>
 bnd (eqI v8 (.int .i64 0)) fun b10 =>
 ifV (.bool (!b10)) (
 K (.pointer none) h9) (
 K v6 h9)
def A5 : Ann := ⟨fun _ => ([], []), fun _ => []⟩
theorem S5_T {a0 : Value} {h : GH} {K : Value → GH → Prop} (g : S5 a0 h K) : T Tryz.prog 5 [a0] h K :=
  T_of_gwp (A := A5) Tryz.func5 (c := bodyOf Tryz.f5) (by kernel_rfl) (by kernel_rfl) (by kernel_rfl) (by kernel_rfl) (by kernel_rfl) (Eq.mp (by kernel_rfl) g)
def S6_j2 (s2 : Nat → Value) (x2 x6 x8 x10 x23 x24 x25 x42 : Value) (h : GH) (K : Value → GH → Prop) (again4 : (Nat → Value) → GH → Prop) : Prop :=
 ifV x42 (
 T Tryz.prog 9 [x6, x10] h fun v1 h2 =>
 bsV 3 1 [(.int .i64 0)] [(0, 1, x10)] h2 fun v3 h4 =>
 apV 3 1 8 x8 v3 h4 fun v5 h6 =>
 bnd (binV .add x25 (.int .i64 1)) fun v7 =>
 again4 (tup [x2, x6, v5, x23, x24, v7]) h6) (
 bnd (binV .add x25 (.int .i64 1)) fun v8 =>
 again4 (tup [x2, x6, x8, x23, x24, v8]) h)
def S6_j1 (x1 x2 x6 : Value) (h : GH) (K : Value → GH → Prop)  : Prop :=
 bnd (lnV x1) fun v1 =>
 Lfp (fun (s2 : Nat → Value) h3 again4 =>
 bnd (binV .lss (s2 5) (s2 4)) fun v5 =>
 ifV v5 (
 bnd (isV 1 (s2 3) (s2 5)) fun v6 =>
 bnd (ldV 1 false v6 h3) fun v7 =>
 bnd (faV 0 (s2 0)) fun v8 =>
 bnd (ldV 1 false v8 h3) fun v9 =>
 bnd (lnV v9) fun v10 =>
 T Tryz.prog 23 [v7, v10] h3 fun v11 h12 =>
 ifV v11 (
 T Tryz.prog 24 [(s2 1)] h12 fun v13 h14 =>
 bnd (isV 1 v13 v7) fun v15 =>
 bnd (ldV 1 false v15 h14) fun v16 =>
 T Tryz.prog 25 [v16] h14 fun v17 h18 =>
 bnd (unV .not v17) fun v19 =>
 S6_j2 s2 (s2 0) (s2 1) (s2 2) v7 (s2 3) (s2 4) (s2 5) v19 h18 K again4) (
 S6_j2 s2 (s2 0) (s2 1) (s2 2) v7 (s2 3) (s2 4) (s2 5) (.bool false) h12 K again4)) (
 K (.tuple #[(s2 2), (.int .i64 0)]) h3)) (tup [x2, x6, (.slice none 0 0), x1, v1, (.int .i64 0)]) h
def S6 (a0 a1 : Value) (h : GH) (K : Value → GH → Prop) : Prop :=
 newV 24 (a0 : Value).cells.toList h fun v1 h2 =>
 bnd (ldV 3 true v1 h2) fun v3 =>
 T Tryz.prog 22 [v3] h2 fun v4 h5 =>
 bnd (exV v4 0) fun v6 =>
 bnd (exV v4 1) fun v7 =>
 bnd (eqI v7 (.int .i64 0)) fun b8 =>
 ifV (.bool (!b8)) (
 K (.tuple #[(.slice none 0 0), (.int .i64 2400)]) h5) (
 bnd (lnV a1) fun v9 =>
 bnd (binV .gtr v9 (.int .i64 65536)) fun v10 =>
 ifV v10 (
 K (.tuple #[(.slice none 0 0), (.int .i64 2400)]) h5) (
 S6_j1 a1 v1 v6 h5 K ))
def A6 : Ann := ⟨fun _ => ([], []), fun | 0 => [2, 6, 8, 23, 24, 25] | _ => []⟩
theorem S6_T {a0 a1 : Value} {h : GH} {K : Value → GH → Prop} (g : S6 a0 a1 h K) : T Tryz.prog 6 [a0, a1] h K :=
  T_of_gwp (A := A6) Tryz.func6 (c := bodyOf Tryz.f6) (by kernel_rfl) (by kernel_rfl) (by kernel_rfl) (by kernel_rfl) (by kernel_rfl) (Eq.mp (by kernel_rfl) g)
def S7 (a0 : Value) (h : GH) (K : Value → GH → Prop) : Prop :=
 K a0 h
def A7 : Ann := ⟨fun _ => ([], []), fun _ => []⟩
theorem S7_T {a0 : Value} {h : GH} {K : Value → GH → Prop} (g : S7 a0 h K) : T Tryz.prog 7 [a0] h K :=
  T_of_gwp (A := A7) Tryz.func7 (c := bodyOf Tryz.f7) (by kernel_rfl) (by kernel_rfl) (by kernel_rfl) (by kernel_rfl) (by kernel_rfl) (Eq.mp (by kernel_rfl) g)
def S8_j1 (x1 : Value) (h : GH) (K : Value → GH → Prop)  : Prop :=
 bnd (faV 0 x1) fun v1 =>
 bnd (ldV 1 false v1 h) fun v2 =>
 bnd (lnV v2) fun v3 =>
 Lfp (fun (s4 : Nat → Value) h5 again6 =>
 bnd (binV .lss (s4 2) (s4 1)) fun v7 =>
 ifV v7 (
 bnd (isV 1 (s4 0) (s4 2)) fun v8 =>
 bnd (ldV 1 false v8 h5) fun v9 =>
 bnd (lnV v9) fun v10 =>
 bnd (binV .gtr v10 (.int .i64 8)) fun v11 =>
 ifV v11 (
 K (.bool false) h5) (
 bnd (lnV v9) fun v12 =>
 Lfp (fun (s13 : Nat → Value) h14 again15 =>
 bnd (binV .lss (s13 5) (s13 4)) fun v16 =>
 ifV v16 (
 bnd (isV 1 (s13 3) (s13 5)) fun v17 =>
 bnd (ldV 1 true v17 h14) fun v18 =>
 newV 69 [(.slice none 0 0)] h14 fun v19 h20 =>
 bnd (stV 1 v19 v18 h20) fun h21 =>
 bnd (faV 0 v19) fun v22 =>
 bnd (ldV 1 false v22 h21) fun v23 =>
 T Tryz.prog 26 [v23] h21 fun v24 h25 =>
 bnd (unV .not v24) fun v26 =>
 ifV v26 (
 K (.bool false) h25) (
 bnd (binV .add (s13 5) (.int .i64 1)) fun v27 =>
 again15 (tup [(s13 0), (s13 1), (s13 2), (s13 3), (s13 4), v27]) h25)) (
 bnd (binV .add (s13 2) (.int .i64 1)) fun v28 =>
 again6 (tup [(s13 0), (s13 1), v28]) h14)) (tup [(s4 0), (s4 1), (s4 2), v9, v12, (.int .i64 0)]) h5)) (
 K (.bool true) h5)) (tup [v2, v3, (.int .i64 0)]) h
def S8 (a0 : Value) (h : GH) (K : Value → GH → Prop) : Prop :=
 newV 24 (a0 : Value).cells.toList h fun v1 h2 =>
 bnd (faV 0 v1) fun v3 =>
 bnd (ldV 1 false v3 h2) fun v4 =>
 bnd (lnV v4) fun v5 =>
 bnd (binV .lss v5 (.int .i64 1)) fun v6 =>
 ifV v6 (
 K (.bool false) h2) (
 bnd (faV 0 v1) fun v7 =>
 bnd (ldV 1 false v7 h2) fun v8 =>
 bnd (lnV v8) fun v9 =>
 bnd (binV .gtr v9 (.int .i64 4)) fun v10 =>
 ifV v10 (
 K (.bool false) h2) (
 bnd (faV 1 v1) fun v11 =>
 bnd (ldV 1 false v11 h2) fun v12 =>
 bnd (binV .lss v12 (.int .i64 1)) fun v13 =>
 ifV v13 (
 K (.bool false) h2) (
 bnd (faV 1 v1) fun v14 =>
 bnd (ldV 1 false v14 h2) fun v15 =>
 bnd (binV .gtr v15 (.int .i64 16)) fun v16 =>
 ifV v16 (
 K (.bool false) h2) (
 S8_j1 v1 h2 K ))))
def A8 : Ann := ⟨fun _ => ([], []), fun | 0 => [28, 29, 30] | 2 => [28, 29, 30, 37, 38, 39] | _ => []⟩
theorem S8_T {a0 : Value} {h : GH} {K : Value → GH → Prop} (g : S8 a0 h K) : T Tryz.prog 8 [a0] h K :=
  T_of_gwp (A := A8) Tryz.func8 (c := bodyOf Tryz.f8) (by kernel_rfl) (by kernel_rfl) (by kernel_rfl) (by kernel_rfl) (by kernel_rfl) (Eq.mp (by kernel_rfl) g)
def S9_j2 (x0 x6 x7 : Value) (h : GH) (K : Value → GH → Prop)  : Prop :=
 bnd (ncV x0) fun v1 =>
 bnd (faV 14 v1) fun v2 =>
 bnd (ldV 1 false v2 h) fun v3 =>
 bnd (binV .add v3 (.int .i64 1)) fun v4 =>
 bnd (ncV x0) fun v5 =>
 bnd (faV 14 v5) fun v6 =>
 bnd (stV 1 v6 v4 h) fun h7 =>
 bnd (eqI x7 (.int .i64 0)) fun b8 =>
 ifV (.bool (!b8)) (
 K (.tuple #[x6, (.int .i64 1900)]) h7) (
 K (.tuple #[x6, (.int .i64 0)]) h7)
def S9_j1 (x0 x1 : Value) (h : GH) (K : Value → GH → Prop)  : Prop :=
 bnd (ncV x0) fun v1 =>
 bnd (faV 1 v1) fun v2 =>
 bnd (ldV 1 false v2 h) fun v3 =>
 bnd (isV 1 v3 x1) fun v4 =>
 bnd (ldV 1 false v4 h) fun v5 =>
 bnd (ncV x0) fun v6 =>
 bnd (faV 0 v6) fun v7 =>
 bnd (ldV 1 false v7 h) fun v8 =>
 bnd (ncV x0) fun v9 =>
 bnd (faV 2 v9) fun v10 =>
 bnd (ncV x0) fun v11 =>
 bnd (faV 14 v11) fun v12 =>
 bnd (ldV 1 false v12 h) fun v13 =>
 T Tryz.prog 27 [v5, v8, v10, v13] h fun v14 h15 =>
 bnd (exV v14 0) fun v16 =>
 bnd (exV v14 1) fun v17 =>
 ifV v16 (
 T Tryz.prog 28 [x0, x1] h15 fun v18 h19 =>
 S9_j2 x0 v16 v17 h19 K ) (
 S9_j2 x0 v16 v17 h15 K )
def S9 (a0 a1 : Value) (h : GH) (K : Value → GH → Prop) : Prop :=
 bnd (eqK .ptr true a0 (.pointer none)) fun b1 =>
 ifV (.bool b1) (
 K (.tuple #[(.bool false), (.int .i64 1)]) h) (
 bnd (ncV a0) fun v2 =>
 bnd (faV 1 v2) fun v3 =>
 bnd (ldV 1 false v3 h) fun v4 =>
 bnd (lnV v4) fun v5 =>
 T Tryz.prog 23 [a1, v5] h fun v6 h7 =>
 bnd (unV .not v6) fun v8 =>
 ifV v8 (
 K (.tuple #[(.bool false), (.int .i64 1900)]) h7) (
 bnd (ncV a0) fun v9 =>
 bnd (faV 14 v9) fun v10 =>
 bnd (ldV 1 false v10 h7) fun v11 =>
 bnd (binV .geq v11 (.int .i64 65536)) fun v12 =>
 ifV v12 (
 K (.tuple #[(.bool false), (.int .i64 1900)]) h7) (
 S9_j1 a0 a1 h7 K )))
def A9 : Ann := ⟨fun | 5 => ([0, 1, 2, 3, 4, 5, 6, 7, 8, 9, 10, 11, 12, 13, 14, 15, 16, 17, 18, 19, 20, 21, 22, 23], [0, 1, 3, 7, 0, 31, 63, 0, 128, 384, 896, 0, 2048, 6144, 0, 16384, 49152, 114688, 262143, 524287, 1048575, 1048575, 2097151, 8388607]) | _ => ([], []), fun _ => []⟩
theorem S9_T {a0 a1 : Value} {h : GH} {K : Value → GH → Prop} (g : S9 a0 a1 h K) : T Tryz.prog 9 [a0, a1] h K :=
  T_of_gwp (A := A9) Tryz.func9 (c := bodyOf Tryz.f9) (by kernel_rfl) (by kernel_rfl) (by kernel_rfl) (by kernel_rfl) (by kernel_rfl) (Eq.mp (by kernel_rfl) g)
def S10 (a0 a1 : Value) (h : GH) (K : Value → GH → Prop) : Prop :=
 T Tryz.prog 17 [a0] h fun v1 h2 =>
 Lfp (fun (s3 : Nat → Value) h4 again5 =>
 bnd (lnV (s3 1)) fun v6 =>
 bnd (binV .lss (s3 3) v6) fun v7 =>
 ifV v7 (
 bnd (isV 8 (s3 1) (s3 3)) fun v8 =>
 bnd (faV 0 v8) fun v9 =>
 bnd (ldV 1 false v9 h4) fun v10 =>
 bnd (eqI v10 (s3 0)) fun b11 =>
 ifV (.bool b11) (
 bnd (isV 8 (s3 1) (s3 3)) fun v12 =>
 bnd (faV 4 v12) fun v13 =>
 bnd (ldV 1 false v13 h4) fun v14 =>
 bnd (binV .geq v14 (.int .i64 0)) fun v15 =>
 ifV v15 (
 bnd (binV .add (s3 2) (.int .i64 1)) fun v16 =>
 bnd (binV .add (s3 3) (.int .i64 1)) fun v17 =>
 again5 (tup [(s3 0), (s3 1), v16, v17]) h4) (
 bnd (binV .add (s3 3) (.int .i64 1)) fun v18 =>
 again5 (tup [(s3 0), (s3 1), (s3 2), v18]) h4)) (
 bnd (binV .add (s3 3) (.int .i64 1)) fun v19 =>
 again5 (tup [(s3 0), (s3 1), (s3 2), v19]) h4)) (
 K (s3 2) h4)) (tup [a1, v1, (.int .i64 0), (.int .i64 0)]) h2
def A10 : Ann := ⟨fun _ => ([], []), fun | 0 => [1, 5, 6, 7] | _ => []⟩
theorem S10_T {a0 a1 : Value} {h : GH} {K : Value → GH → Prop} (g : S10 a0 a1 h K) : T Tryz.prog 10 [a0, a1] h K :=
  T_of_gwp (A := A10) Tryz.func10 (c := bodyOf Tryz.f10) (by kernel_rfl) (by kernel_rfl) (by kernel_rfl) (by kernel_rfl) (by kernel_rfl) (Eq.mp (by kernel_rfl) g)
def S11 (a0 a1 : Value) (h : GH) (K : Value → GH → Prop) : Prop :=
 bnd (lnV a0) fun v1 =>
 bnd (lnV a1) fun v2 =>
 bnd (eqI v1 v2) fun b3 =>
 ifV (.bool (!b3)) (
 K (.bool false) h) (
 Lfp (fun (s4 : Nat → Value) h5 again6 =>
 bnd (lnV (s4 0)) fun v7 =>
 bnd (binV .lss (s4 2) v7) fun v8 =>
 ifV v8 (
 bnd (isV 1 (s4 0) (s4 2)) fun v9 =>
 bnd (ldV 1 false v9 h5) fun v10 =>
 bnd (isV 1 (s4 1) (s4 2)) fun v11 =>
 bnd (ldV 1 false v11 h5) fun v12 =>
 bnd (eqI v10 v12) fun b13 =>
 ifV (.bool (!b13)) (
 K (.bool false) h5) (
 bnd (binV .add (s4 2) (.int .i64 1)) fun v14 =>
 again6 (tup [(s4 0), (s4 1), v14]) h5)) (
 K (.bool true) h5)) (tup [a0, a1, (.int .i64 0)]) h)
def A11 : Ann := ⟨fun | 6 => ([0, 1, 2, 3, 4, 5, 6, 7, 8], [0, 0, 3, 7, 0, 0, 48, 112, 255]) | _ => ([], []), fun | 0 => [0, 1, 5] | _ => []⟩
theorem S11_T {a0 a1 : Value} {h : GH} {K : Value → GH → Prop} (g : S11 a0 a1 h K) : T Tryz.prog 11 [a0, a1] h K :=
  T_of_gwp (A := A11) Tryz.func11 (c := bodyOf Tryz.f11) (by kernel_rfl) (by kernel_rfl) (by kernel_rfl) (by kernel_rfl) (by kernel_rfl) (Eq.mp (by kernel_rfl) g)
def S12 (a0 : Value) (h : GH) (K : Value → GH → Prop) : Prop :=
 bnd (eqK .ptr true a0 (.pointer none)) fun b1 =>
 ifV (.bool b1) (
 K (.slice none 0 0) h) (
 bnd (ncV a0) fun v2 =>
 bnd (faV 0 v2) fun v3 =>
 bnd (ldV 1 false v3 h) fun v4 =>
 T Tryz.prog 29 [v4] h fun v5 h6 =>
 K v5 h6)
def A12 : Ann := ⟨fun _ => ([], []), fun _ => []⟩
theorem S12_T {a0 : Value} {h : GH} {K : Value → GH → Prop} (g : S12 a0 h K) : T Tryz.prog 12 [a0] h K :=
  T_of_gwp (A := A12) Tryz.func12 (c := bodyOf Tryz.f12) (by kernel_rfl) (by kernel_rfl) (by kernel_rfl) (by kernel_rfl) (by kernel_rfl) (Eq.mp (by kernel_rfl) g)
def S13 (a0 : Value) (h : GH) (K : Value → GH → Prop) : Prop :=
 bnd (eqK .ptr true a0 (.pointer none)) fun b1 =>
 ifV (.bool (!b1)) (
 bnd (ncV a0) fun v2 =>
 bnd (faV 1 v2) fun v3 =>
 bnd (ldV 1 false v3 h) fun v4 =>
 T Tryz.prog 30 [v4, (.func (.func 31) #[] #[])] h fun v5 h6 =>
 bnd (unV .not v5) fun v7 =>
 K v7 h6) (
 K (.bool false) h)
def A13 : Ann := ⟨fun _ => ([], []), fun _ => []⟩
theorem S13_T {a0 : Value} {h : GH} {K : Value → GH → Prop} (g : S13 a0 h K) : T Tryz.prog 13 [a0] h K :=
  T_of_gwp (A := A13) Tryz.func13 (c := bodyOf Tryz.f13) (by kernel_rfl) (by kernel_rfl) (by kernel_rfl) (by kernel_rfl) (by kernel_rfl) (Eq.mp (by kernel_rfl) g)
def S14_j2 (s10 : Nat → Value) (x0 x2 x4 : Value) (h : GH) (K : Value → GH → Prop) (again12 : (Nat → Value) → GH → Prop) : Prop :=
 bnd (ncV x4) fun v1 =>
 bnd (faV 0 v1) fun v2 =>
 bnd (ldV 3 true v2 h) fun v3 =>
 T Tryz.prog 34 [v3] h fun v4 h5 =>
 bnd (exV v4 0) fun v6 =>
 bnd (exV v4 1) fun v7 =>
 bnd (ncV x4) fun v8 =>
 bnd (faV 6 v8) fun v9 =>
 bnd (ldV 1 false v9 h5) fun v10 =>
 ifV v10 (
 bnd (fillV [(.slice none 0 0), (.int .i64 0), (.bool false)] []) fun c11 =>
 bnd (stV 3 x2 (.agg c11.toArray) h5) fun h12 =>
 bnd (ldV 3 true x2 h12) fun v13 =>
 K (.tuple #[v13, (.int .i64 300)]) h12) (
 bnd (eqI v7 (.int .i64 0)) fun b14 =>
 ifV (.bool (!b14)) (
 bnd (fillV [(.slice none 0 0), (.int .i64 0), (.bool false)] []) fun c15 =>
 bnd (stV 3 x2 (.agg c15.toArray) h5) fun h16 =>
 bnd (ldV 3 true x2 h16) fun v17 =>
 K (.tuple #[v17, (.int .i64 300)]) h16) (
 bnd (eqS v6 x0) fun b18 =>
 ifV (.bool (!b18)) (
 bnd (fillV [(.slice none 0 0), (.int .i64 0), (.bool false)] []) fun c19 =>
 bnd (stV 3 x2 (.agg c19.toArray) h5) fun h20 =>
 bnd (ldV 3 true x2 h20) fun v21 =>
 K (.tuple #[v21, (.int .i64 300)]) h20) (
 bnd (ncV x4) fun v22 =>
 bnd (faV 0 v22) fun v23 =>
 bnd (ldV 3 true v23 h5) fun v24 =>
 bnd (stV 3 x2 v24 h5) fun h25 =>
 bnd (ldV 3 true x2 h25) fun v26 =>
 K (.tuple #[v26, (.int .i64 0)]) h25)))
def S14_j1 (s10 : Nat → Value) (x0 x2 x4 x5 : Value) (h : GH) (K : Value → GH → Prop) (again12 : (Nat → Value) → GH → Prop) : Prop :=
 bnd (ncV x4) fun v1 =>
 bnd (faV 6 v1) fun v2 =>
 bnd (ldV 1 false v2 h) fun v3 =>
 bnd (unV .not v3) fun v4 =>
 ifV v4 (
 bnd (eqI x5 (.int .i32 124)) fun b5 =>
 ifV (.bool (!b5)) (
 T Tryz.prog 33 [x4] h fun v6 h7 =>
 S14_j2 s10 x0 x2 x4 h7 K again12) (
 S14_j2 s10 x0 x2 x4 h K again12)) (
 S14_j2 s10 x0 x2 x4 h K again12)
def S14 (a0 : Value) (h : GH) (K : Value → GH → Prop) : Prop :=
 newV 24 [(.slice none 0 0), (.int .i64 0), (.bool false)] h fun v1 h2 =>
 bnd (lsV a0) fun v3 =>
 bnd (binV .gtr v3 (.int .i64 4096)) fun v4 =>
 bnd (fillV [(.slice none 0 0), (.int .i64 0), (.bool false), (.pointer none), (.slice none 0 0), (.int .i64 0), (.bool false)] [(6, 1, v4)]) fun c5 =>
 newV 86 ((.agg c5.toArray) : Value).cells.toList h2 fun v6 h7 =>
 rgV a0 h7 fun v8 h9 =>
 Lfp (fun (s10 : Nat → Value) h11 again12 =>
 bnd (nxV (s10 4) h11) fun r13 =>
 bnd (exV r13.1 0) fun v14 =>
 ifV v14 (
 bnd (exV r13.1 1) fun v15 =>
 bnd (exV r13.1 2) fun v16 =>
 bnd (ncV (s10 2)) fun v17 =>
 bnd (faV 6 v17) fun v18 =>
 bnd (ldV 1 false v18 r13.2) fun v19 =>
 ifV v19 (
 S14_j1 s10 (s10 0) (s10 1) (s10 2) (s10 3) r13.2 K again12) (
 bnd (eqI v15 (.int .i64 0)) fun b20 =>
 ifV (.bool b20) (
 bnd (eqI v16 (.int .i32 112)) fun b21 =>
 bsV 3 1 [(.int .i64 0)] [(0, 1, (.int .i64 0))] r13.2 fun v22 h23 =>
 bnd (ncV (s10 2)) fun v24 =>
 bnd (faV 0 v24) fun v25 =>
 bnd (faV 2 v25) fun v26 =>
 bnd (stV 1 v26 (.bool b21) h23) fun h27 =>
 bnd (ncV (s10 2)) fun v28 =>
 bnd (faV 4 v28) fun v29 =>
 bnd (stV 1 v29 v22 h27) fun h30 =>
 again12 (tup [(s10 0), (s10 1), (s10 2), v16, (s10 4)]) h30) (
 T Tryz.prog 32 [(s10 2), (s10 3), v16] r13.2 fun v31 h32 =>
 again12 (tup [(s10 0), (s10 1), (s10 2), v16, (s10 4)]) h32))) (
 S14_j1 s10 (s10 0) (s10 1) (s10 2) (s10 3) r13.2 K again12)) (tup [a0, v1, v6, (.int .i32 0), v8]) h9
def A14 : Ann := ⟨fun _ => ([], []), fun | 0 => [0, 2, 4, 5, 16] | _ => []⟩
theorem S14_T {a0 : Value} {h : GH} {K : Value → GH → Prop} (g : S14 a0 h K) : T Tryz.prog 14 [a0] h K :=
  T_of_gwp (A := A14) Tryz.func14 (c := bodyOf Tryz.f14) (by kernel_rfl) (by kernel_rfl) (by kernel_rfl) (by kernel_rfl) (by kernel_rfl) (Eq.mp (by kernel_rfl) g)
def S15 (a0 : Value) (h : GH) (K : Value → GH → Prop) : Prop :=
 newV 43 [(.int .i64 0), (.int .i64 0), (.int .i64 0), (.int .i64 0)] h fun v1 h2 =>
 bnd (eqK .ptr true a0 (.pointer none)) fun b3 =>
 ifV (.bool b3) (
 bnd (fillV [(.int .i64 0), (.int .i64 0), (.int .i64 0), (.int .i64 0)] []) fun c4 =>
 bnd (stV 4 v1 (.agg c4.toArray) h2) fun h5 =>
 bnd (ldV 4 true v1 h5) fun v6 =>
 K (.tuple #[v6, (.int .i64 1)]) h5) (
 T Tryz.prog 36 [a0] h2 fun v7 h8 =>
 T Tryz.prog 35 [v7] h8 fun v9 h10 =>
 bnd (exV v9 0) fun v11 =>
 bnd (exV v9 1) fun v12 =>
 bnd (eqI v12 (.int .i64 0)) fun b13 =>
 ifV (.bool (!b13)) (
 bnd (fillV [(.int .i64 0), (.int .i64 0), (.int .i64 0), (.int .i64 0)] []) fun c14 =>
 bnd (stV 4 v1 (.agg c14.toArray) h10) fun h15 =>
 bnd (ldV 4 true v1 h15) fun v16 =>
 K (.tuple #[v16, (.int .i64 2200)]) h15) (
 bnd (lnV v11) fun v17 =>
 bnd (fillV [(.int .i64 0), (.int .i64 0), (.int .i64 0), (.int .i64 0)] [(0, 1, v17)]) fun c18 =>
 newV 43 [(.int .i64 0), (.int .i64 0), (.int .i64 0), (.int .i64 0)] h10 fun v19 h20 =>
 bnd (stV 4 v19 (.agg c18.toArray) h20) fun h21 =>
 T Tryz.prog 24 [a0] h21 fun v22 h23 =>
 bnd (lnV v22) fun v24 =>
 Lfp (fun (s25 : Nat → Value) h26 again27 =>
 bnd (binV .lss (s25 4) (s25 3)) fun v28 =>
 ifV v28 (
 bnd (isV 1 (s25 2) (s25 4)) fun v29 =>
 bnd (ldV 1 false v29 h26) fun v30 =>
 T Tryz.prog 37 [v30] h26 fun v31 h32 =>
 newV 43 [(.int .i64 0), (.int .i64 0), (.int .i64 0), (.int .i64 0)] h32 fun v33 h34 =>
 bnd (stV 4 v33 v31 h34) fun h35 =>
 bnd (faV 1 (s25 1)) fun v36 =>
 bnd (ldV 1 false v36 h35) fun v37 =>
 bnd (faV 1 v33) fun v38 =>
 bnd (ldV 1 false v38 h35) fun v39 =>
 bnd (binV .add v37 v39) fun v40 =>
 bnd (faV 1 (s25 1)) fun v41 =>
 bnd (stV 1 v41 v40 h35) fun h42 =>
 bnd (faV 2 (s25 1)) fun v43 =>
 bnd (ldV 1 false v43 h42) fun v44 =>
 bnd (faV 2 v33) fun v45 =>
 bnd (ldV 1 false v45 h42) fun v46 =>
 bnd (binV .add v44 v46) fun v47 =>
 bnd (faV 2 (s25 1)) fun v48 =>
 bnd (stV 1 v48 v47 h42) fun h49 =>
 bnd (faV 3 (s25 1)) fun v50 =>
 bnd (ldV 1 false v50 h49) fun v51 =>
 bnd (faV 3 v33) fun v52 =>
 bnd (ldV 1 false v52 h49) fun v53 =>
 bnd (binV .add v51 v53) fun v54 =>
 bnd (faV 3 (s25 1)) fun v55 =>
 bnd (stV 1 v55 v54 h49) fun h56 =>
 bnd (binV .add (s25 4) (.int .i64 1)) fun v57 =>
 again27 (tup [(s25 0), (s25 1), (s25 2), (s25 3), v57]) h56) (
 bnd (ldV 4 true (s25 1) h26) fun v58 =>
 bnd (stV 4 (s25 0) v58 h26) fun h59 =>
 bnd (ldV 4 true (s25 0) h59) fun v60 =>
 K (.tuple #[v60, (.int .i64 0)]) h59)) (tup [v1, v19, v22, v24, (.int .i64 0)]) h23))
def A15 : Ann := ⟨fun _ => ([], []), fun | 0 => [2, 6, 26, 27, 28] | _ => []⟩
theorem S15_T {a0 : Value} {h : GH} {K : Value → GH → Prop} (g : S15 a0 h K) : T Tryz.prog 15 [a0] h K :=
  T_of_gwp (A := A15) Tryz.func15 (c := bodyOf Tryz.f15) (by kernel_rfl) (by kernel_rfl) (by kernel_rfl) (by kernel_rfl) (by kernel_rfl) (Eq.mp (by kernel_rfl) g)
def S16_j1 (x2 x4 x6 : Value) (h : GH) (K : Value → GH → Prop)  : Prop :=
 T Tryz.prog 39 [] h fun v1 h2 =>
 newV 49 [(.int .i64 0), (.int .i64 0), (.int .i64 0), (.int .i64 0), (.bool false), (.bool false), (.bool false), (.bool false), (.bool false)] h2 fun v3 h4 =>
 bnd (stV 9 v3 v1 h4) fun h5 =>
 bnd (lnV x6) fun v6 =>
 Lfp (fun (s7 : Nat → Value) h8 again9 =>
 bnd (binV .lss (s7 5) (s7 4)) fun v10 =>
 ifV v10 (
 bnd (ldV 9 true (s7 3) h8) fun v11 =>
 bnd (isV 8 (s7 2) (s7 5)) fun v12 =>
 T Tryz.prog 41 [(s7 0), v12] h8 fun v13 h14 =>
 ldV 9 true (s7 3) h14 = some v11 ∧
 T Tryz.prog 40 [v11, v13] h14 fun v15 h16 =>
 bnd (exV v15 0) fun v17 =>
 bnd (exV v15 1) fun v18 =>
 bnd (exV v15 2) fun v19 =>
 newV 49 [(.int .i64 0), (.int .i64 0), (.int .i64 0), (.int .i64 0), (.bool false), (.bool false), (.bool false), (.bool false), (.bool false)] h16 fun v20 h21 =>
 bnd (stV 9 v20 v17 h21) fun h22 =>
 bnd (eqI v19 (.int .i64 0)) fun b23 =>
 ifV (.bool (!b23)) (
 bnd (fillV [(.int .i64 0), (.int .i64 0), (.int .i64 0), (.int .i64 0), (.bool false), (.bool false), (.bool false), (.bool false), (.bool false)] []) fun c24 =>
 bnd (stV 9 (s7 1) (.agg c24.toArray) h22) fun h25 =>
 bnd (ldV 9 true (s7 1) h25) fun v26 =>
 K (.tuple #[v26, (.int .i64 2000)]) h25) (
 bnd (isV 8 (s7 2) (s7 5)) fun v27 =>
 bnd (faV 4 v27) fun v28 =>
 bnd (ldV 1 false v28 h22) fun v29 =>
 bnd (binV .geq v29 (.int .i64 0)) fun v30 =>
 ifV v30 (
 bnd (isV 8 (s7 2) (s7 5)) fun v31 =>
 bnd (faV 7 v31) fun v32 =>
 bnd (ldV 1 false v32 h22) fun v33 =>
 T Tryz.prog 42 [v18, v33] h22 fun v34 h35 =>
 bnd (unV .not v34) fun v36 =>
 ifV v36 (
 bnd (fillV [(.int .i64 0), (.int .i64 0), (.int .i64 0), (.int .i64 0), (.bool false), (.bool false), (.bool false), (.bool false), (.bool false)] []) fun c37 =>
 bnd (stV 9 (s7 1) (.agg c37.toArray) h35) fun h38 =>
 bnd (ldV 9 true (s7 1) h38) fun v39 =>
 K (.tuple #[v39, (.int .i64 2000)]) h38) (
 bnd (ldV 9 true v20 h35) fun v40 =>
 bnd (stV 9 (s7 3) v40 h35) fun h41 =>
 bnd (binV .add (s7 5) (.int .i64 1)) fun v42 =>
 again9 (tup [(s7 0), (s7 1), (s7 2), (s7 3), (s7 4), v42]) h41)) (
 bnd (ldV 9 true v20 h22) fun v43 =>
 bnd (stV 9 (s7 3) v43 h22) fun h44 =>
 bnd (binV .add (s7 5) (.int .i64 1)) fun v45 =>
 again9 (tup [(s7 0), (s7 1), (s7 2), (s7 3), (s7 4), v45]) h44))) (
 bnd (ldV 9 true (s7 3) h8) fun v46 =>
 bnd (stV 9 (s7 1) v46 h8) fun h47 =>
 bnd (ldV 9 true (s7 1) h47) fun v48 =>
 K (.tuple #[v48, (.int .i64 0)]) h47)) (tup [x2, x4, x6, v3, v6, (.int .i64 0)]) h5
def S16 (a0 a1 : Value) (h : GH) (K : Value → GH → Prop) : Prop :=
 newV 24 (a0 : Value).cells.toList h fun v1 h2 =>
 newV 49 [(.int .i64 0), (.int .i64 0), (.int .i64 0), (.int .i64 0), (.bool false), (.bool false), (.bool false), (.bool false), (.bool false)] h2 fun v3 h4 =>
 T Tryz.prog 38 [a1] h4 fun v5 h6 =>
 bnd (exV v5 0) fun v7 =>
 bnd (exV v5 1) fun v8 =>
 bnd (eqI v8 (.int .i64 0)) fun b9 =>
 ifV (.bool (!b9)) (
 bnd (fillV [(.int .i64 0), (.int .i64 0), (.int .i64 0), (.int .i64 0), (.bool false), (.bool false), (.bool false), (.bool false), (.bool false)] []) fun c10 =>
 bnd (stV 9 v3 (.agg c10.toArray) h6) fun h11 =>
 bnd (ldV 9 true v3 h11) fun v12 =>
 K (.tuple #[v12, (.int .i64 2000)]) h11) (
 bnd (ldV 3 true v1 h6) fun v13 =>
 T Tryz.prog 8 [v13] h6 fun v14 h15 =>
 bnd (unV .not v14) fun v16 =>
 ifV v16 (
 bnd (fillV [(.int .i64 0), (.int .i64 0), (.int .i64 0), (.int .i64 0), (.bool false), (.bool false), (.bool false), (.bool false), (.bool false)] []) fun c17 =>
 bnd (stV 9 v3 (.agg c17.toArray) h15) fun h18 =>
 bnd (ldV 9 true v3 h18) fun v19 =>
 K (.tuple #[v19, (.int .i64 2000)]) h18) (
 S16_j1 v1 v3 v7 h15 K ))
def A16 : Ann := ⟨fun | 8 => ([0, 1, 2, 3, 4, 5, 6, 7, 8, 9, 10, 11, 12, 13], [0, 0, 0, 6, 14, 31, 63, 127, 127, 127, 0, 1279, 3583, 8191]) | _ => ([], []), fun | 0 => [2, 4, 6, 8, 28, 29] | _ => []⟩
theorem S16_T {a0 a1 : Value} {h : GH} {K : Value → GH → Prop} (g : S16 a0 a1 h K) : T Tryz.prog 16 [a0, a1] h K :=
  T_of_gwp (A := A16) Tryz.func16 (c := bodyOf Tryz.f16) (by kernel_rfl) (by kernel_rfl) (by kernel_rfl) (by kernel_rfl) (by kernel_rfl) (Eq.mp (by kernel_rfl) g)
def S17 (a0 : Value) (h : GH) (K : Value → GH → Prop) : Prop :=
 bnd (eqK .ptr true a0 (.pointer none)) fun b1 =>
 ifV (.bool b1) (
 K (.slice none 0 0) h) (
 bnd (ncV a0) fun v2 =>
 bnd (faV 1 v2) fun v3 =>
 bnd (ldV 1 false v3 h) fun v4 =>
 bnd (lnV v4) fun v5 =>
 Lfp (fun (s6 : Nat → Value) h7 again8 =>
 bnd (binV .lss (s6 3) (s6 2)) fun v9 =>
 ifV v9 (
 bnd (isV 1 (s6 1) (s6 3)) fun v10 =>
 bnd (ldV 1 false v10 h7) fun v11 =>
 T Tryz.prog 43 [v11] h7 fun v12 h13 =>
 apV 80 8 80 (s6 0) v12 h13 fun v14 h15 =>
 bnd (binV .add (s6 3) (.int .i64 1)) fun v16 =>
 again8 (tup [v14, (s6 1), (s6 2), v16]) h15) (
 K (s6 0) h7)) (tup [(.slice none 0 0), v4, v5, (.int .i64 0)]) h)
def A17 : Ann := ⟨fun _ => ([], []), fun | 0 => [3, 11, 12, 13] | _ => []⟩
theorem S17_T {a0 : Value} {h : GH} {K : Value → GH → Prop} (g : S17 a0 h K) : T Tryz.prog 17 [a0] h K :=
  T_of_gwp (A := A17) Tryz.func17 (c := bodyOf Tryz.f17) (by kernel_rfl) (by kernel_rfl) (by kernel_rfl) (by kernel_rfl) (by kernel_rfl) (Eq.mp (by kernel_rfl) g)
def S18 (a0 : Value) (h : GH) (K : Value → GH → Prop) : Prop :=
 bnd (lnV a0) fun v1 =>
 Lfp (fun (s2 : Nat → Value) h3 again4 =>
 bnd (binV .lss (s2 3) (s2 2)) fun v5 =>
 ifV v5 (
 bnd (isV 8 (s2 1) (s2 3)) fun v6 =>
 bnd (ldV 8 true v6 h3) fun v7 =>
 newV 105 [(.int .i64 0), (.int .i64 0), (.int .i64 0), (.int .i64 0), (.int .i64 0), (.int .i64 0), (.int .i64 0), (.int .i64 0)] h3 fun v8 h9 =>
 bnd (stV 8 v8 v7 h9) fun h10 =>
 bnd (faV 5 v8) fun v11 =>
 bnd (ldV 1 false v11 h10) fun v12 =>
 bnd (eqI v12 (.int .i64 (-1))) fun b13 =>
 bnd (faV 2 v8) fun v14 =>
 bnd (ldV 1 false v14 h10) fun v15 =>
 T Tryz.prog 23 [v15, (.int .i64 634)] h10 fun v16 h17 =>
 bnd (unV .not v16) fun v18 =>
 ifV v18 (
 K (.tuple #[(.int .i64 0), (.int .i64 2100)]) h17) (
 ifV (.bool (!b13)) (
 bnd (faV 5 v8) fun v19 =>
 bnd (ldV 1 false v19 h17) fun v20 =>
 T Tryz.prog 23 [v20, (.int .i64 12)] h17 fun v21 h22 =>
 bnd (unV .not v21) fun v23 =>
 ifV v23 (
 K (.tuple #[(.int .i64 0), (.int .i64 2100)]) h22) (
 bnd (faV 6 v8) fun v24 =>
 bnd (ldV 1 false v24 h22) fun v25 =>
 bnd (faV 7 v8) fun v26 =>
 bnd (ldV 1 false v26 h22) fun v27 =>
 bnd (eqI v25 v27) fun b28 =>
 ifV (.bool (!b28)) (
 K (.tuple #[(.int .i64 0), (.int .i64 2100)]) h22) (
 ifV (.bool (!b13)) (
 bnd (binV .add (s2 0) (.int .i64 1)) fun v29 =>
 bnd (binV .add (s2 3) (.int .i64 1)) fun v30 =>
 again4 (tup [v29, (s2 1), (s2 2), v30]) h22) (
 bnd (binV .add (s2 3) (.int .i64 1)) fun v31 =>
 again4 (tup [(s2 0), (s2 1), (s2 2), v31]) h22)))) (
 ifV (.bool (!b13)) (
 bnd (binV .add (s2 0) (.int .i64 1)) fun v32 =>
 bnd (binV .add (s2 3) (.int .i64 1)) fun v33 =>
 again4 (tup [v32, (s2 1), (s2 2), v33]) h17) (
 bnd (binV .add (s2 3) (.int .i64 1)) fun v34 =>
 again4 (tup [(s2 0), (s2 1), (s2 2), v34]) h17)))) (
 K (.tuple #[(s2 0), (.int .i64 0)]) h3)) (tup [(.int .i64 0), a0, v1, (.int .i64 0)]) h
def A18 : Ann := ⟨fun _ => ([], []), fun | 0 => [4, 8, 9, 10] | _ => []⟩
theorem S18_T {a0 : Value} {h : GH} {K : Value → GH → Prop} (g : S18 a0 h K) : T Tryz.prog 18 [a0] h K :=
  T_of_gwp (A := A18) Tryz.func18 (c := bodyOf Tryz.f18) (by kernel_rfl) (by kernel_rfl) (by kernel_rfl) (by kernel_rfl) (by kernel_rfl) (Eq.mp (by kernel_rfl) g)
def S19 (a0 : Value) (h : GH) (K : Value → GH → Prop) : Prop :=
 bnd (eqK .ptr true a0 (.pointer none)) fun b1 =>
 ifV (.bool b1) (
 K (.slice none 0 0) h) (
 bnd (ncV a0) fun v2 =>
 bnd (faV 15 v2) fun v3 =>
 bnd (ldV 1 false v3 h) fun v4 =>
 T Tryz.prog 44 [v4] h fun v5 h6 =>
 K v5 h6)
def A19 : Ann := ⟨fun _ => ([], []), fun _ => []⟩
theorem S19_T {a0 : Value} {h : GH} {K : Value → GH → Prop} (g : S19 a0 h K) : T Tryz.prog 19 [a0] h K :=
  T_of_gwp (A := A19) Tryz.func19 (c := bodyOf Tryz.f19) (by kernel_rfl) (by kernel_rfl) (by kernel_rfl) (by kernel_rfl) (by kernel_rfl) (Eq.mp (by kernel_rfl) g)
def S20_j1 (s13 : Nat → Value) (x2 x4 x6 x7 x8 : Value) (h : GH) (K : Value → GH → Prop) (again15 : (Nat → Value) → GH → Prop) : Prop :=
 bnd (lnV x6) fun v1 =>
 Lfp (fun (s2 : Nat → Value) h3 again4 =>
 bnd (binV .lss (s2 6) (s2 5)) fun v5 =>
 ifV v5 (
 bnd (isV 1 (s2 4) (s2 6)) fun v6 =>
 bnd (ldV 1 false v6 h3) fun v7 =>
 ifV (s2 3) (
 bnd (binV .lss (s2 6) (.int .i64 4)) fun v8 =>
 ifV v8 (
 bnd (binV .add (s2 6) (.int .i64 1)) fun v9 =>
 again4 (tup [(s2 0), (s2 1), (s2 2), (.bool true), (s2 4), (s2 5), v9]) h3) (
 bnd (eqI v7 (.int .i64 0)) fun b10 =>
 bnd (binV .add (s2 6) (.int .i64 1)) fun v11 =>
 again4 (tup [(s2 0), (s2 1), (s2 2), (.bool b10), (s2 4), (s2 5), v11]) h3)) (
 bnd (binV .add (s2 6) (.int .i64 1)) fun v12 =>
 again4 (tup [(s2 0), (s2 1), (s2 2), (.bool false), (s2 4), (s2 5), v12]) h3)) (
 bnd (ldV 5 true (s2 2) h3) fun v13 =>
 Lfp (fun (s14 : Nat → Value) h15 again16 =>
 bnd (binV .lss (s14 4) (.int .i64 5)) fun v17 =>
 ifV v17 (
 bnd (ixV 5 1 false (s14 3) (s14 4)) fun v18 =>
 ifV (s14 2) (
 bnd (unV .not v18) fun v19 =>
 ifV v19 (
 bnd (binV .add (s14 4) (.int .i64 1)) fun v20 =>
 again16 (tup [(s14 0), (s14 1), (.bool true), (s14 3), v20]) h15) (
 bnd (faV 4 (s14 1)) fun v21 =>
 bnd (iaV 5 1 v21 (s14 4)) fun v22 =>
 bnd (ldV 1 false v22 h15) fun v23 =>
 bnd (binV .add (s14 4) (.int .i64 1)) fun v24 =>
 again16 (tup [(s14 0), (s14 1), v23, (s14 3), v24]) h15)) (
 bnd (binV .add (s14 4) (.int .i64 1)) fun v25 =>
 again16 (tup [(s14 0), (s14 1), (.bool false), (s14 3), v25]) h15)) (
 bnd (unV .not (s14 2)) fun v26 =>
 ifV v26 (
 bnd (fillV [(.int .i64 0), (.int .i64 0), (.int .i64 0), (.int .i64 0), (.bool false), (.bool false), (.bool false), (.bool false), (.bool false)] []) fun c27 =>
 bnd (stV 9 (s14 0) (.agg c27.toArray) h15) fun h28 =>
 bnd (ldV 9 true (s14 0) h28) fun v29 =>
 K (.tuple #[v29, (.int .i64 900)]) h28) (
 bnd (ldV 9 true (s14 1) h15) fun v30 =>
 bnd (stV 9 (s14 0) v30 h15) fun h31 =>
 bnd (ldV 9 true (s14 0) h31) fun v32 =>
 K (.tuple #[v32, (.int .i64 0)]) h31))) (tup [(s2 0), (s2 1), (s2 3), v13, (.int .i64 0)]) h3)) (tup [x2, x4, x7, x8, x6, v1, (.int .i64 0)]) h
def S20 (a0 : Value) (h : GH) (K : Value → GH → Prop) : Prop :=
 newV 49 [(.int .i64 0), (.int .i64 0), (.int .i64 0), (.int .i64 0), (.bool false), (.bool false), (.bool false), (.bool false), (.bool false)] h fun v1 h2 =>
 bnd (lnV a0) fun v3 =>
 bnd (eqI v3 (.int .i64 16)) fun b4 =>
 ifV (.bool (!b4)) (
 bnd (fillV [(.int .i64 0), (.int .i64 0), (.int .i64 0), (.int .i64 0), (.bool false), (.bool false), (.bool false), (.bool false), (.bool false)] []) fun c5 =>
 bnd (stV 9 v1 (.agg c5.toArray) h2) fun h6 =>
 bnd (ldV 9 true v1 h6) fun v7 =>
 K (.tuple #[v7, (.int .i64 900)]) h6) (
 T Tryz.prog 39 [] h2 fun v8 h9 =>
 newV 49 [(.int .i64 0), (.int .i64 0), (.int .i64 0), (.int .i64 0), (.bool false), (.bool false), (.bool false), (.bool false), (.bool false)] h9 fun v10 h11 =>
 bnd (stV 9 v10 v8 h11) fun h12 =>
 Lfp (fun (s13 : Nat → Value) h14 again15 =>
 bnd (binV .lss (s13 3) (.int .i64 4)) fun v16 =>
 ifV v16 (
 bnd (isV 1 (s13 0) (s13 3)) fun v17 =>
 bnd (ldV 1 false v17 h14) fun v18 =>
 bnd (binV .sub v18 (.int .i64 1)) fun v19 =>
 bnd (faV 0 (s13 2)) fun v20 =>
 bnd (iaV 4 1 v20 (s13 3)) fun v21 =>
 bnd (stV 1 v21 v19 h14) fun h22 =>
 bnd (binV .add (s13 3) (.int .i64 1)) fun v23 =>
 again15 (tup [(s13 0), (s13 1), (s13 2), v23]) h22) (
 bsV 3 0 [] [] h14 fun v24 h25 =>
 apV 3 1 8 v24 (s13 0) h25 fun v26 h27 =>
 newV 47 [(.bool false), (.bool false), (.bool false), (.bool false), (.bool false)] h27 fun v28 h29 =>
 T Tryz.prog 45 [v26, (.int .i64 0), (.func (.func 46) #[] #[(s13 2)])] h29 fun v30 h31 =>
 ifV v30 (
 T Tryz.prog 45 [v26, (.int .i64 1), (.func (.func 47) #[] #[v28])] h31 fun v32 h33 =>
 ifV v32 (
 T Tryz.prog 48 [(s13 2)] h33 fun v34 h35 =>
 S20_j1 s13 (s13 1) (s13 2) v26 v28 v34 h35 K again15) (
 S20_j1 s13 (s13 1) (s13 2) v26 v28 (.bool false) h33 K again15)) (
 S20_j1 s13 (s13 1) (s13 2) v26 v28 (.bool false) h31 K again15))) (tup [a0, v1, v10, (.int .i64 0)]) h12)
def A20 : Ann := ⟨fun _ => ([], []), fun | 0 => [0, 2, 4, 18] | 2 => [2, 4, 7, 8, 44, 45, 46] | 4 => [2, 4, 8, 61, 62] | _ => []⟩
theorem S20_T {a0 : Value} {h : GH} {K : Value → GH → Prop} (g : S20 a0 h K) : T Tryz.prog 20 [a0] h K :=
  T_of_gwp (A := A20) Tryz.func20 (c := bodyOf Tryz.f20) (by kernel_rfl) (by kernel_rfl) (by kernel_rfl) (by kernel_rfl) (by kernel_rfl) (Eq.mp (by kernel_rfl) g)
def S21 (a0 : Value) (h : GH) (K : Value → GH → Prop) : Prop :=
 bnd (binV .lss a0 (.int .i64 1)) fun v1 =>
 ifV v1 (
 K (.tuple #[(.int .i64 0), (.int .i64 2300)]) h) (
 bnd (binV .gtr a0 (.int .i64 4)) fun v2 =>
 ifV v2 (
 K (.tuple #[(.int .i64 0), (.int .i64 2300)]) h) (
 bnd (binV .mul (.int .i64 1024) a0) fun v3 =>
 K (.tuple #[v3, (.int .i64 0)]) h))
def A21 : Ann := ⟨fun _ => ([], []), fun _ => []⟩
theorem S21_T {a0 : Value} {h : GH} {K : Value → GH → Prop} (g : S21 a0 h K) : T Tryz.prog 21 [a0] h K :=
  T_of_gwp (A := A21) Tryz.func21 (c := bodyOf Tryz.f21) (by kernel_rfl) (by kernel_rfl) (by kernel_rfl) (by kernel_rfl) (by kernel_rfl) (Eq.mp (by kernel_rfl) g)
def S22 (a0 : Value) (h : GH) (K : Value → GH → Prop) : Prop :=
 newV 24 (a0 : Value).cells.toList h fun v1 h2 =>
 bnd (ldV 3 true v1 h2) fun v3 =>
 T Tryz.prog 8 [v3] h2 fun v4 h5 =>
 bnd (unV .not v4) fun v6 =>
 ifV v6 (
 K (.tuple #[(.pointer none), (.int .i64 1900)]) h5) (
 T Tryz.prog 49 [] h5 fun v7 h8 =>
 bnd (fillV ([(.pointer none), (.slice none 0 0)] ++ List.replicate 13 (.int .i64 0) ++ [(.slice none 0 0)]) [(0, 1, v7)]) fun c9 =>
 newV 74 ((.agg c9.toArray) : Value).cells.toList h8 fun v10 h11 =>
 bnd (faV 0 v1) fun v12 =>
 bnd (ldV 1 false v12 h11) fun v13 =>
 bnd (lnV v13) fun v14 =>
 Lfp (fun (s15 : Nat → Value) h16 again17 =>
 bnd (binV .lss (s15 4) (s15 3)) fun v18 =>
 ifV v18 (
 bnd (isV 1 (s15 2) (s15 4)) fun v19 =>
 bnd (ldV 1 false v19 h16) fun v20 =>
 bnd (faV 0 (s15 0)) fun v21 =>
 bnd (ldV 1 false v21 h16) fun v22 =>
 bnd (lnV v22) fun v23 =>
 bnd (faV 1 (s15 0)) fun v24 =>
 bnd (ldV 1 false v24 h16) fun v25 =>
 bnd (faV 2 (s15 0)) fun v26 =>
 bnd (ldV 1 false v26 h16) fun v27 =>
 T Tryz.prog 50 [(s15 4), v23, v25, v27, v20] h16 fun v28 h29 =>
 bnd (exV v28 0) fun v30 =>
 bnd (exV v28 1) fun v31 =>
 bnd (ncV (s15 1)) fun v32 =>
 bnd (faV 1 v32) fun v33 =>
 bnd (ldV 1 false v33 h29) fun v34 =>
 bsV 63 1 [(.pointer none)] [(0, 1, v30)] h29 fun v35 h36 =>
 apV 63 1 8 v34 v35 h36 fun v37 h38 =>
 bnd (ncV (s15 1)) fun v39 =>
 bnd (faV 1 v39) fun v40 =>
 bnd (stV 1 v40 v37 h38) fun h41 =>
 bnd (binV .add (s15 4) (.int .i64 1)) fun v42 =>
 again17 (tup [(s15 0), (s15 1), (s15 2), (s15 3), v42]) h41) (
 K (.tuple #[(s15 1), (.int .i64 0)]) h16)) (tup [v1, v10, v13, v14, (.int .i64 0)]) h11)
def A22 : Ann := ⟨fun _ => ([], []), fun | 0 => [1, 4, 16, 17, 18] | _ => []⟩
theorem S22_T {a0 : Value} {h : GH} {K : Value → GH → Prop} (g : S22 a0 h K) : T Tryz.prog 22 [a0] h K :=
  T_of_gwp (A := A22) Tryz.func22 (c := bodyOf Tryz.f22) (by kernel_rfl) (by kernel_rfl) (by kernel_rfl) (by kernel_rfl) (by kernel_rfl) (Eq.mp (by kernel_rfl) g)
def S23 (a0 a1 : Value) (h : GH) (K : Value → GH → Prop) : Prop :=
 bnd (binV .geq a0 (.int .i64 0)) fun v1 =>
 ifV v1 (
 bnd (binV .lss a0 a1) fun v2 =>
 K v2 h) (
 K (.bool false) h)
def A23 : Ann := ⟨fun _ => ([], []), fun _ => []⟩
theorem S23_T {a0 a1 : Value} {h : GH} {K : Value → GH → Prop} (g : S23 a0 a1 h K) : T Tryz.prog 23 [a0, a1] h K :=
  T_of_gwp (A := A23) Tryz.func23 (c := bodyOf Tryz.f23) (by kernel_rfl) (by kernel_rfl) (by kernel_rfl) (by kernel_rfl) (by kernel_rfl) (Eq.mp (by kernel_rfl) g)
def S24 (a0 : Value) (h : GH) (K : Value → GH → Prop) : Prop :=
 bnd (ncV a0) fun v1 =>
 bnd (faV 1 v1) fun v2 =>
 bnd (ldV 1 false v2 h) fun v3 =>
 K v3 h
def A24 : Ann := ⟨fun _ => ([], []), fun _ => []⟩
theorem S24_T {a0 : Value} {h : GH} {K : Value → GH → Prop} (g : S24 a0 h K) : T Tryz.prog 24 [a0] h K :=
  T_of_gwp (A := A24) Tryz.func24 (c := bodyOf Tryz.f24) (by kernel_rfl) (by kernel_rfl) (by kernel_rfl) (by kernel_rfl) (by kernel_rfl) (Eq.mp (by kernel_rfl) g)
def S25 (a0 : Value) (h : GH) (K : Value → GH → Prop) : Prop :=
 bnd (eqK .ptr true a0 (.pointer none)) fun b1 =>
 ifV (.bool b1) (
 K (.bool false) h) (
 bnd (ncV a0) fun v2 =>
 bnd (faV 5 v2) fun v3 =>
 bnd (ldV 1 false v3 h) fun v4 =>
 bnd (lnV v4) fun v5 =>
 bnd (ncV a0) fun v6 =>
 bnd (faV 4 v6) fun v7 =>
 bnd (ldV 1 false v7 h) fun v8 =>
 bnd (lnV v8) fun v9 =>
 bnd (eqI v5 v9) fun b10 =>
 ifV (.bool b10) (
 bnd (eqI v5 (.int .i64 0)) fun b11 =>
 ifV (.bool b11) (
 K (.bool true) h) (
 bnd (ncV a0) fun v12 =>
 bnd (faV 5 v12) fun v13 =>
 bnd (ldV 1 false v13 h) fun v14 =>
 bnd (binV .sub v5 (.int .i64 1)) fun v15 =>
 bnd (isV 8 v14 v15) fun v16 =>
 bnd (faV 4 v16) fun v17 =>
 bnd (ldV 1 false v17 h) fun v18 =>
 bnd (binV .geq v18 (.int .i64 0)) fun v19 =>
 K v19 h)) (
 K (.bool false) h))
def A25 : Ann := ⟨fun _ => ([], []), fun _ => []⟩
theorem S25_T {a0 : Value} {h : GH} {K : Value → GH → Prop} (g : S25 a0 h K) : T Tryz.prog 25 [a0] h K :=
  T_of_gwp (A := A25) Tryz.func25 (c := bodyOf Tryz.f25) (by kernel_rfl) (by kernel_rfl) (by kernel_rfl) (by kernel_rfl) (by kernel_rfl) (Eq.mp (by kernel_rfl) g)
def S26 (a0 : Value) (h : GH) (K : Value → GH → Prop) : Prop :=
 bnd (lnV a0) fun v1 =>
 Lfp (fun (s2 : Nat → Value) h3 again4 =>
 bnd (binV .lss (s2 2) (s2 1)) fun v5 =>
 ifV v5 (
 bnd (isV 4 (s2 0) (s2 2)) fun v6 =>
 T Tryz.prog 51 [v6] h3 fun v7 h8 =>
 bnd (unV .not v7) fun v9 =>
 ifV v9 (
 K (.bool false) h8) (
 bnd (binV .add (s2 2) (.int .i64 1)) fun v10 =>
 again4 (tup [(s2 0), (s2 1), v10]) h8)) (
 bnd (lnV (s2 0)) fun v11 =>
 bnd (binV .geq v11 (.int .i64 1)) fun v12 =>
 ifV v12 (
 bnd (lnV (s2 0)) fun v13 =>
 bnd (binV .leq v13 (.int .i64 2)) fun v14 =>
 K v14 h3) (
 K (.bool false) h3))) (tup [a0, v1, (.int .i64 0)]) h
def A26 : Ann := ⟨fun _ => ([], []), fun | 0 => [0, 5, 6] | _ => []⟩
theorem S26_T {a0 : Value} {h : GH} {K : Value → GH → Prop} (g : S26 a0 h K) : T Tryz.prog 26 [a0] h K :=
  T_of_gwp (A := A26) Tryz.func26 (c := bodyOf Tryz.f26) (by kernel_rfl) (by kernel_rfl) (by kernel_rfl) (by kernel_rfl) (by kernel_rfl) (Eq.mp (by kernel_rfl) g)
def S27_j3 (x0 x1 x2 x3 : Value) (h : GH) (K : Value → GH → Prop)  : Prop :=
 bnd (ncV x0) fun v1 =>
 bnd (faV 6 v1) fun v2 =>
 bnd (ldV 1 false v2 h) fun v3 =>
 bnd (fillV [(.pointer none), (.pointer none), (.pointer none), (.int .i64 0)] [(0, 1, x0), (1, 1, x1), (2, 1, x2), (3, 1, x3)]) fun c4 =>
 newV 130 ((.agg c4.toArray) : Value).cells.toList h fun v5 h6 =>
 callV Tryz.prog v3 [v5] h6 fun v7 h8 =>
 bnd (eqI v7 (.int .i64 0)) fun b9 =>
 ifV (.bool (!b9)) (
 bnd (ncV x0) fun v10 =>
 bnd (faV 7 v10) fun v11 =>
 bnd (stV 1 v11 (.bool true) h8) fun h12 =>
 K (.tuple #[(.bool true), (.int .i64 1800)]) h12) (
 K (.tuple #[(.bool true), (.int .i64 0)]) h8)
def S27_j2 (x0 x1 x2 x3 : Value) (h : GH) (K : Value → GH → Prop)  : Prop :=
 bnd (fillV [(.int .i64 0), (.int .i64 0)] [(0, 1, (.int .i64 (-1)))]) fun c1 =>
 bnd (ncV x0) fun v2 =>
 bnd (faV 21 v2) fun v3 =>
 bnd (stV 2 v3 (.agg c1.toArray) h) fun h4 =>
 bnd (ncV x0) fun v5 =>
 bnd (faV 6 v5) fun v6 =>
 bnd (ldV 1 false v6 h4) fun v7 =>
 bnd (eqK .func true v7 .nilFunc) fun b8 =>
 ifV (.bool b8) (
 T Tryz.prog 52 [x0, x3] h4 fun v9 h10 =>
 bnd (unV .not v9) fun v11 =>
 ifV v11 (
 K (.tuple #[(.bool false), (.int .i64 0)]) h10) (
 S27_j3 x0 x1 x2 x3 h10 K )) (
 S27_j3 x0 x1 x2 x3 h4 K )
def S27_j1 (x0 x1 x2 x3 x11 : Value) (h : GH) (K : Value → GH → Prop)  : Prop :=
 ifV x11 (
 K (.tuple #[(.bool false), (.int .i64 1)]) h) (
 bnd (ncV x0) fun v1 =>
 bnd (faV 7 v1) fun v2 =>
 bnd (ldV 1 false v2 h) fun v3 =>
 ifV v3 (
 K (.tuple #[(.bool false), (.int .i64 1800)]) h) (
 S27_j2 x0 x1 x2 x3 h K ))
def S27 (a0 a1 a2 a3 : Value) (h : GH) (K : Value → GH → Prop) : Prop :=
 bnd (eqK .ptr true a0 (.pointer none)) fun b1 =>
 ifV (.bool b1) (
 S27_j1 a0 a1 a2 a3 (.bool true) h K ) (
 bnd (eqK .ptr true a1 (.pointer none)) fun b2 =>
 ifV (.bool b2) (
 S27_j1 a0 a1 a2 a3 (.bool true) h K ) (
 bnd (eqK .ptr true a2 (.pointer none)) fun b3 =>
 S27_j1 a0 a1 a2 a3 (.bool b3) h K ))
def A27 : Ann := ⟨fun _ => ([], []), fun _ => []⟩
theorem S27_T {a0 a1 a2 a3 : Value} {h : GH} {K : Value → GH → Prop} (g : S27 a0 a1 a2 a3 h K) : T Tryz.prog 27 [a0, a1, a2, a3] h K :=
  T_of_gwp (A := A27) Tryz.func27 (c := bodyOf Tryz.f27) (by kernel_rfl) (by kernel_rfl) (by kernel_rfl) (by kernel_rfl) (by kernel_rfl) (Eq.mp (by kernel_rfl) g)
def S28_j1 (x0 x4 : Value) (h : GH) (K : Value → GH → Prop)  : Prop :=
 bnd (ncV x0) fun v1 =>
 bnd (faV 15 v1) fun v2 =>
 bnd (ldV 1 false v2 h) fun v3 =>
 bnd (ldV 8 true x4 h) fun v4 =>
 bsV 105 1 [(.int .i64 0), (.int .i64 0), (.int .i64 0), (.int .i64 0), (.int .i64 0), (.int .i64 0), (.int .i64 0), (.int .i64 0)] [(0, 8, v4)] h fun v5 h6 =>
 apV 105 8 64 v3 v5 h6 fun v7 h8 =>
 bnd (ncV x0) fun v9 =>
 bnd (faV 15 v9) fun v10 =>
 bnd (stV 1 v10 v7 h8) fun h11 =>
 T Tryz.prog 55 [x4] h11 fun v12 h13 =>
 bnd (exV v12 0) fun v14 =>
 bnd (exV v12 1) fun v15 =>
 ifV v15 (
 bnd (ncV x0) fun v16 =>
 bnd (faV 1 v16) fun v17 =>
 bnd (ldV 1 false v17 h13) fun v18 =>
 bnd (lnV v18) fun v19 =>
 Lfp (fun (s20 : Nat → Value) h21 again22 =>
 bnd (binV .lss (s20 4) (s20 3)) fun v23 =>
 ifV v23 (
 bnd (isV 1 (s20 2) (s20 4)) fun v24 =>
 bnd (ldV 1 false v24 h21) fun v25 =>
 bnd (ncV (s20 0)) fun v26 =>
 bnd (faV 14 v26) fun v27 =>
 bnd (ldV 1 false v27 h21) fun v28 =>
 T Tryz.prog 56 [v25, (s20 1), v28] h21 fun v29 h30 =>
 bnd (binV .add (s20 4) (.int .i64 1)) fun v31 =>
 again22 (tup [(s20 0), (s20 1), (s20 2), (s20 3), v31]) h30) (
 K (.tuple #[]) h21)) (tup [x0, v14, v18, v19, (.int .i64 0)]) h13) (
 K (.tuple #[]) h13)
def S28 (a0 a1 : Value) (h : GH) (K : Value → GH → Prop) : Prop :=
 bnd (ncV a0) fun v1 =>
 bnd (faV 0 v1) fun v2 =>
 bnd (ldV 1 false v2 h) fun v3 =>
 T Tryz.prog 53 [v3] h fun v4 h5 =>
 bnd (exV v4 0) fun v6 =>
 bnd (exV v4 1) fun v7 =>
 newV 105 [(.int .i64 0), (.int .i64 0), (.int .i64 0), (.int .i64 0), (.int .i64 0), (.int .i64 0), (.int .i64 0), (.int .i64 0)] h5 fun v8 h9 =>
 bnd (stV 8 v8 v6 h9) fun h10 =>
 bnd (faV 0 v8) fun v11 =>
 bnd (stV 1 v11 a1 h10) fun h12 =>
 bnd (ncV a0) fun v13 =>
 bnd (faV 1 v13) fun v14 =>
 bnd (ldV 1 false v14 h12) fun v15 =>
 bnd (isV 1 v15 a1) fun v16 =>
 bnd (ldV 1 false v16 h12) fun v17 =>
 T Tryz.prog 54 [v17] h12 fun v18 h19 =>
 bnd (exV v18 0) fun v20 =>
 bnd (exV v18 1) fun v21 =>
 bnd (faV 5 v8) fun v22 =>
 bnd (stV 1 v22 v20 h19) fun h23 =>
 bnd (faV 6 v8) fun v24 =>
 bnd (stV 1 v24 v21 h23) fun h25 =>
 bnd (faV 5 v8) fun v26 =>
 bnd (ldV 1 false v26 h25) fun v27 =>
 bnd (binV .geq v27 (.int .i64 0)) fun v28 =>
 ifV v28 (
 bnd (faV 5 v8) fun v29 =>
 bnd (ldV 1 false v29 h25) fun v30 =>
 bnd (ncV a0) fun v31 =>
 bnd (faV 2 v31) fun v32 =>
 bnd (iaV 12 1 v32 v30) fun v33 =>
 bnd (ldV 1 false v33 h25) fun v34 =>
 bnd (faV 7 v8) fun v35 =>
 bnd (stV 1 v35 v34 h25) fun h36 =>
 S28_j1 a0 v8 h36 K ) (
 S28_j1 a0 v8 h25 K )
def A28 : Ann := ⟨fun | 4 => ([0, 1, 2, 3, 4, 5, 6, 7, 8], [0, 0, 2, 1, 9, 31, 63, 127, 255]) | 5 => ([0, 1, 2, 3, 4, 5, 6, 7, 8, 9, 10], [0, 0, 2, 6, 14, 0, 32, 126, 255, 511, 1023]) | _ => ([], []), fun | 0 => [0, 6, 62, 63, 64] | _ => []⟩
theorem S28_T {a0 a1 : Value} {h : GH} {K : Value → GH → Prop} (g : S28 a0 a1 h K) : T Tryz.prog 28 [a0, a1] h K :=
  T_of_gwp (A := A28) Tryz.func28 (c := bodyOf Tryz.f28) (by kernel_rfl) (by kernel_rfl) (by kernel_rfl) (by kernel_rfl) (by kernel_rfl) (Eq.mp (by kernel_rfl) g)
def S29 (a0 : Value) (h : GH) (K : Value → GH → Prop) : Prop :=
 bnd (eqK .ptr true a0 (.pointer none)) fun b1 =>
 ifV (.bool b1) (
 K (.slice none 0 0) h) (
 bnd (ncV a0) fun v2 =>
 bnd (faV 0 v2) fun v3 =>
 bnd (saV 634 1 v3 none none) fun v4 =>
 T Tryz.prog 57 [v4] h fun v5 h6 =>
 K v5 h6)
def A29 : Ann := ⟨fun _ => ([], []), fun _ => []⟩
theorem S29_T {a0 : Value} {h : GH} {K : Value → GH → Prop} (g : S29 a0 h K) : T Tryz.prog 29 [a0] h K :=
  T_of_gwp (A := A29) Tryz.func29 (c := bodyOf Tryz.f29) (by kernel_rfl) (by kernel_rfl) (by kernel_rfl) (by kernel_rfl) (by kernel_rfl) (Eq.mp (by kernel_rfl) g)
def S30 (a0 a1 : Value) (h : GH) (K : Value → GH → Prop) : Prop :=
 T Tryz.prog 58 [a0, a1] h fun v1 h2 =>
 bnd (binV .geq v1 (.int .i64 0)) fun v3 =>
 K v3 h2
def A30 : Ann := ⟨fun _ => ([], []), fun _ => []⟩
theorem S30_T {a0 a1 : Value} {h : GH} {K : Value → GH → Prop} (g : S30 a0 a1 h K) : T Tryz.prog 30 [a0, a1] h K :=
  T_of_gwp (A := A30) Tryz.func30 (c := bodyOf Tryz.f30) (by kernel_rfl) (by kernel_rfl) (by kernel_rfl) (by kernel_rfl) (by kernel_rfl) (Eq.mp (by kernel_rfl) g)
def S31 (a0 : Value) (h : GH) (K : Value → GH → Prop) : Prop :=
 T Tryz.prog 25 [a0] h fun v1 h2 =>
 bnd (unV .not v1) fun v3 =>
 K v3 h2
def A31 : Ann := ⟨fun _ => ([], []), fun _ => []⟩
theorem S31_T {a0 : Value} {h : GH} {K : Value → GH → Prop} (g : S31 a0 h K) : T Tryz.prog 31 [a0] h K :=
  T_of_gwp (A := A31) Tryz.func31 (c := bodyOf Tryz.f31) (by kernel_rfl) (by kernel_rfl) (by kernel_rfl) (by kernel_rfl) (by kernel_rfl) (Eq.mp (by kernel_rfl) g)
def S32_j3 (x0 x2 : Value) (h : GH) (K : Value → GH → Prop)  : Prop :=
 bnd (eqI x2 (.int .i32 124)) fun b1 =>
 ifV (.bool b1) (
 bnd (ncV x0) fun v2 =>
 bnd (faV 0 v2) fun v3 =>
 bnd (faV 0 v3) fun v4 =>
 bnd (ldV 1 false v4 h) fun v5 =>
 bsV 66 1 [(.slice none 0 0)] [(0, 1, (.slice none 0 0))] h fun v6 h7 =>
 apV 66 1 24 v5 v6 h7 fun v8 h9 =>
 bnd (ncV x0) fun v10 =>
 bnd (faV 0 v10) fun v11 =>
 bnd (faV 0 v11) fun v12 =>
 bnd (stV 1 v12 v8 h9) fun h13 =>
 K (.tuple #[]) h13) (
 K (.tuple #[]) h)
def S32_j4 (x0 x1 x6 x70 : Value) (h : GH) (K : Value → GH → Prop)  : Prop :=
 ifV x70 (
 bnd (ncV x0) fun v1 =>
 bnd (faV 6 v1) fun v2 =>
 bnd (stV 1 v2 (.bool true) h) fun h3 =>
 K (.tuple #[]) h3) (
 bnd (eqI x1 (.int .i32 43)) fun b4 =>
 T Tryz.prog 61 [x0, x6, (.bool (!b4))] h fun v5 h6 =>
 K (.tuple #[]) h6)
def S32_j2 (x0 x1 x2 x6 x42 : Value) (h : GH) (K : Value → GH → Prop)  : Prop :=
 ifV x42 (
 bnd (eqI x1 (.int .i32 124)) fun b1 =>
 ifV (.bool (!b1)) (
 T Tryz.prog 33 [x0] h fun v2 h3 =>
 S32_j3 x0 x2 h3 K ) (
 S32_j3 x0 x2 h K )) (
 bnd (binV .gtr x2 (.int .i32 122)) fun v4 =>
 ifV v4 (
 S32_j4 x0 x1 x6 (.bool true) h K ) (
 bnd (binV .lss x6 (.int .i64 0)) fun v5 =>
 ifV v5 (
 S32_j4 x0 x1 x6 (.bool true) h K ) (
 bnd (eqI x1 (.int .i32 124)) fun b6 =>
 ifV (.bool (!b6)) (
 bnd (eqI x1 (.int .i32 59)) fun b7 =>
 ifV (.bool (!b7)) (
 bnd (eqI x1 (.int .i32 43)) fun b8 =>
 S32_j4 x0 x1 x6 (.bool (!b8)) h K ) (
 S32_j4 x0 x1 x6 (.bool false) h K )) (
 S32_j4 x0 x1 x6 (.bool false) h K ))))
def S32_j1 (x0 x1 x2 x6 x15 : Value) (h : GH) (K : Value → GH → Prop)  : Prop :=
 ifV x15 (
 bnd (binV .sub x2 (.int .i32 48)) fun v1 =>
 bnd (cvV .i64 v1) fun v2 =>
 T Tryz.prog 60 [x0, v2] h fun v3 h4 =>
 K (.tuple #[]) h4) (
 bnd (eqI x2 (.int .i32 44)) fun b5 =>
 ifV (.bool b5) (
 bnd (ncV x0) fun v6 =>
 bnd (faV 4 v6) fun v7 =>
 bnd (ldV 1 false v7 h) fun v8 =>
 bsV 3 1 [(.int .i64 0)] [(0, 1, (.int .i64 0))] h fun v9 h10 =>
 apV 3 1 8 v8 v9 h10 fun v11 h12 =>
 bnd (ncV x0) fun v13 =>
 bnd (faV 4 v13) fun v14 =>
 bnd (stV 1 v14 v11 h12) fun h15 =>
 bnd (ncV x0) fun v16 =>
 bnd (faV 5 v16) fun v17 =>
 bnd (stV 1 v17 (.int .i64 0) h15) fun h18 =>
 K (.tuple #[]) h18) (
 bnd (eqI x2 (.int .i32 124)) fun b19 =>
 ifV (.bool b19) (
 S32_j2 x0 x1 x2 x6 (.bool true) h K ) (
 bnd (eqI x2 (.int .i32 59)) fun b20 =>
 ifV (.bool b20) (
 S32_j2 x0 x1 x2 x6 (.bool true) h K ) (
 bnd (eqI x2 (.int .i32 43)) fun b21 =>
 S32_j2 x0 x1 x2 x6 (.bool b21) h K ))))
def S32 (a0 a1 a2 : Value) (h : GH) (K : Value → GH → Prop) : Prop :=
 bnd (cvV .u8 a2) fun v1 =>
 T Tryz.prog 59 [(.string ⟨#[111, 99, 100, 119, 116, 115, 105, 101, 102, 109, 114]⟩), v1] h fun v2 h3 =>
 bnd (binV .geq a2 (.int .i32 48)) fun v4 =>
 ifV v4 (
 bnd (binV .leq a2 (.int .i32 57)) fun v5 =>
 S32_j1 a0 a1 a2 v2 v5 h3 K ) (
 S32_j1 a0 a1 a2 v2 (.bool false) h3 K )
def A32 : Ann := ⟨fun _ => ([], []), fun _ => []⟩
theorem S32_T {a0 a1 a2 : Value} {h : GH} {K : Value → GH → Prop} (g : S32 a0 a1 a2 h K) : T Tryz.prog 32 [a0, a1, a2] h K :=
  T_of_gwp (A := A32) Tryz.func32 (c := bodyOf Tryz.f32) (by kernel_rfl) (by kernel_rfl) (by kernel_rfl) (by kernel_rfl) (by kernel_rfl) (Eq.mp (by kernel_rfl) g)
def S33_j1 (x0 x2 : Value) (h : GH) (K : Value → GH → Prop)  : Prop :=
 bnd (lnV x2) fun v1 =>
 bnd (ncV x0) fun v2 =>
 bnd (faV 4 v2) fun v3 =>
 bnd (ldV 1 false v3 h) fun v4 =>
 bnd (lnV v4) fun v5 =>
 bnd (eqI v1 v5) fun b6 =>
 ifV (.bool (!b6)) (
 bnd (ncV x0) fun v7 =>
 bnd (faV 6 v7) fun v8 =>
 bnd (stV 1 v8 (.bool true) h) fun h9 =>
 K (.tuple #[]) h9) (
 bnd (ncV x0) fun v10 =>
 bnd (faV 4 v10) fun v11 =>
 bnd (ldV 1 false v11 h) fun v12 =>
 bnd (lnV v12) fun v13 =>
 Lfp (fun (s14 : Nat → Value) h15 again16 =>
 bnd (binV .lss (s14 4) (s14 3)) fun v17 =>
 ifV v17 (
 bnd (isV 1 (s14 2) (s14 4)) fun v18 =>
 bnd (ldV 1 false v18 h15) fun v19 =>
 bnd (isV 1 (s14 1) (s14 4)) fun v20 =>
 bnd (ldV 1 false v20 h15) fun v21 =>
 bnd (ncV v21) fun v22 =>
 bnd (stV 1 v22 v19 h15) fun h23 =>
 bnd (binV .add (s14 4) (.int .i64 1)) fun v24 =>
 again16 (tup [(s14 0), (s14 1), (s14 2), (s14 3), v24]) h23) (
 bnd (ncV (s14 0)) fun v25 =>
 bnd (faV 4 v25) fun v26 =>
 bnd (stV 1 v26 (.slice none 0 0) h15) fun h27 =>
 bnd (ncV (s14 0)) fun v28 =>
 bnd (faV 3 v28) fun v29 =>
 bnd (stV 1 v29 (.pointer none) h27) fun h30 =>
 bnd (ncV (s14 0)) fun v31 =>
 bnd (faV 5 v31) fun v32 =>
 bnd (stV 1 v32 (.int .i64 0) h30) fun h33 =>
 K (.tuple #[]) h33)) (tup [x0, x2, v12, v13, (.int .i64 0)]) h)
def S33 (a0 : Value) (h : GH) (K : Value → GH → Prop) : Prop :=
 bnd (ncV a0) fun v1 =>
 bnd (faV 0 v1) fun v2 =>
 bnd (faV 1 v2) fun v3 =>
 bsV 146 1 [(.pointer none)] [(0, 1, v3)] h fun v4 h5 =>
 bnd (ncV a0) fun v6 =>
 bnd (faV 3 v6) fun v7 =>
 bnd (ldV 1 false v7 h5) fun v8 =>
 bnd (eqK .ptr true v8 (.pointer none)) fun b9 =>
 ifV (.bool (!b9)) (
 bnd (ncV a0) fun v10 =>
 bnd (faV 3 v10) fun v11 =>
 bnd (ldV 1 false v11 h5) fun v12 =>
 T Tryz.prog 62 [v12] h5 fun v13 h14 =>
 S33_j1 a0 v13 h14 K ) (
 S33_j1 a0 v4 h5 K )
def A33 : Ann := ⟨fun _ => ([], []), fun | 0 => [0, 2, 34, 35, 36] | _ => []⟩
theorem S33_T {a0 : Value} {h : GH} {K : Value → GH → Prop} (g : S33 a0 h K) : T Tryz.prog 33 [a0] h K :=
  T_of_gwp (A := A33) Tryz.func33 (c := bodyOf Tryz.f33) (by kernel_rfl) (by kernel_rfl) (by kernel_rfl) (by kernel_rfl) (by kernel_rfl) (Eq.mp (by kernel_rfl) g)
def S34_j2 (s10 : Nat → Value) (s19 : Nat → Value) (x4 x8 x23 x24 x25 x30 x31 x32 : Value) (h : GH) (K : Value → GH → Prop) (again12 : (Nat → Value) → GH → Prop) (again21 : (Nat → Value) → GH → Prop) : Prop :=
 bnd (faV 0 x8) fun v1 =>
 bnd (ldV 1 false v1 h) fun v2 =>
 bnd (lnV v2) fun v3 =>
 Lfp (fun (s4 : Nat → Value) h5 again6 =>
 bnd (binV .lss (s4 9) (s4 8)) fun v7 =>
 ifV v7 (
 bnd (isV 4 (s4 7) (s4 9)) fun v8 =>
 bnd (ldV 4 true v8 h5) fun v9 =>
 newV 126 [(.int .i64 0), (.int .i64 0), (.int .i64 0), (.int .i64 0)] h5 fun v10 h11 =>
 bnd (stV 4 v10 v9 h11) fun h12 =>
 bnd (binV .gtr (s4 9) (.int .i64 0)) fun v13 =>
 ifV v13 (
 T Tryz.prog 63 [(s4 0), (.int .i32 43)] h12 fun v14 h15 =>
 bnd (ldV 4 true v10 h15) fun v16 =>
 T Tryz.prog 66 [(s4 0), v16] h15 fun v17 h18 =>
 bnd (binV .add (s4 9) (.int .i64 1)) fun v19 =>
 again6 (tup [(s4 0), (s4 1), (s4 2), (s4 3), (s4 4), (s4 5), (s4 6), (s4 7), (s4 8), v19]) h18) (
 bnd (ldV 4 true v10 h12) fun v20 =>
 T Tryz.prog 66 [(s4 0), v20] h12 fun v21 h22 =>
 bnd (binV .add (s4 9) (.int .i64 1)) fun v23 =>
 again6 (tup [(s4 0), (s4 1), (s4 2), (s4 3), (s4 4), (s4 5), (s4 6), (s4 7), (s4 8), v23]) h22)) (
 bnd (binV .add (s4 6) (.int .i64 1)) fun v24 =>
 again21 (tup [(s4 0), (s4 1), (s4 2), (s4 3), (s4 4), (s4 5), v24]) h5)) (tup [x4, x23, x24, x25, x30, x31, x32, v2, v3, (.int .i64 0)]) h
def S34_j1 (x1 x4 : Value) (h : GH) (K : Value → GH → Prop)  : Prop :=
 bnd (faV 1 x1) fun v1 =>
 bnd (ldV 1 false v1 h) fun v2 =>
 T Tryz.prog 65 [v2] h fun v3 h4 =>
 T Tryz.prog 64 [x4, v3] h4 fun v5 h6 =>
 bnd (faV 0 x1) fun v7 =>
 bnd (ldV 1 false v7 h6) fun v8 =>
 bnd (lnV v8) fun v9 =>
 Lfp (fun (s10 : Nat → Value) h11 again12 =>
 bnd (binV .lss (s10 3) (s10 2)) fun v13 =>
 ifV v13 (
 bnd (isV 1 (s10 1) (s10 3)) fun v14 =>
 bnd (ldV 1 false v14 h11) fun v15 =>
 T Tryz.prog 63 [(s10 0), (.int .i32 124)] h11 fun v16 h17 =>
 bnd (lnV v15) fun v18 =>
 Lfp (fun (s19 : Nat → Value) h20 again21 =>
 bnd (binV .lss (s19 6) (s19 5)) fun v22 =>
 ifV v22 (
 bnd (isV 1 (s19 4) (s19 6)) fun v23 =>
 bnd (ldV 1 true v23 h20) fun v24 =>
 newV 69 [(.slice none 0 0)] h20 fun v25 h26 =>
 bnd (stV 1 v25 v24 h26) fun h27 =>
 bnd (binV .gtr (s19 6) (.int .i64 0)) fun v28 =>
 ifV v28 (
 T Tryz.prog 63 [(s19 0), (.int .i32 59)] h27 fun v29 h30 =>
 S34_j2 s10 s19 (s19 0) v25 (s19 1) (s19 2) (s19 3) (s19 4) (s19 5) (s19 6) h30 K again12 again21) (
 S34_j2 s10 s19 (s19 0) v25 (s19 1) (s19 2) (s19 3) (s19 4) (s19 5) (s19 6) h27 K again12 again21)) (
 bnd (binV .add (s19 3) (.int .i64 1)) fun v31 =>
 again12 (tup [(s19 0), (s19 1), (s19 2), v31]) h20)) (tup [(s10 0), (s10 1), (s10 2), (s10 3), v15, v18, (.int .i64 0)]) h17) (
 T Tryz.prog 67 [(s10 0)] h11 fun v32 h33 =>
 K (.tuple #[v32, (.int .i64 0)]) h33)) (tup [x4, v8, v9, (.int .i64 0)]) h6
def S34 (a0 : Value) (h : GH) (K : Value → GH → Prop) : Prop :=
 newV 24 (a0 : Value).cells.toList h fun v1 h2 =>
 bnd (ldV 3 true v1 h2) fun v3 =>
 T Tryz.prog 8 [v3] h2 fun v4 h5 =>
 bnd (unV .not v4) fun v6 =>
 ifV v6 (
 K (.tuple #[(.string ⟨#[]⟩), (.int .i64 300)]) h5) (
 newV 152 [(.pointer none), (.slice none 0 0)] h5 fun v7 h8 =>
 bnd (faV 2 v1) fun v9 =>
 bnd (ldV 1 false v9 h8) fun v10 =>
 ifV v10 (
 T Tryz.prog 63 [v7, (.int .i32 112)] h8 fun v11 h12 =>
 S34_j1 v1 v7 h12 K ) (
 T Tryz.prog 63 [v7, (.int .i32 97)] h8 fun v13 h14 =>
 S34_j1 v1 v7 h14 K ))
def A34 : Ann := ⟨fun _ => ([], []), fun | 0 => [4, 23, 24, 25] | 2 => [4, 23, 24, 25, 30, 31, 32] | 4 => [4, 23, 24, 25, 30, 31, 32, 41, 42, 43] | _ => []⟩
theorem S34_T {a0 : Value} {h : GH} {K : Value → GH → Prop} (g : S34 a0 h K) : T Tryz.prog 34 [a0] h K :=
  T_of_gwp (A := A34) Tryz.func34 (c := bodyOf Tryz.f34) (by kernel_rfl) (by kernel_rfl) (by kernel_rfl) (by kernel_rfl) (by kernel_rfl) (Eq.mp (by kernel_rfl) g)
def S35_j1 (s15 : Nat → Value) (x4 x7 x8 : Value) (h : GH) (K : Value → GH → Prop) (again17 : (Nat → Value) → GH → Prop) : Prop :=
 bnd (lnV x7) fun v1 =>
 bnd (eqI v1 (.int .i64 12)) fun b2 =>
 ifV (.bool b2) (
 K (.tuple #[(.slice none 0 0), (.int .i64 1000)]) h) (
 bnd (binV .sub x8 (.int .i64 1)) fun v3 =>
 bsV 3 1 [(.int .i64 0)] [(0, 1, v3)] h fun v4 h5 =>
 apV 3 1 8 x7 v4 h5 fun v6 h7 =>
 bnd (binV .add (.int .i64 17) x8) fun v8 =>
 bnd (binV .sub v8 (.int .i64 1)) fun v9 =>
 bnd (isV 1 x4 v9) fun v10 =>
 bnd (ldV 1 false v10 h7) fun v11 =>
 T Tryz.prog 69 [v11] h7 fun v12 h13 =>
 bnd (exV v12 0) fun v14 =>
 bnd (exV v12 1) fun v15 =>
 again17 (tup [x4, v15, v6, v14]) h13)
def S35_j2 (s15 : Nat → Value) (x6 x7 : Value) (h : GH) (K : Value → GH → Prop) (again17 : (Nat → Value) → GH → Prop) : Prop :=
 bnd (unV .not x6) fun v1 =>
 ifV v1 (
 K (.tuple #[(.slice none 0 0), (.int .i64 1000)]) h) (
 K (.tuple #[x7, (.int .i64 0)]) h)
def S35 (a0 : Value) (h : GH) (K : Value → GH → Prop) : Prop :=
 bnd (eqK .ptr true a0 (.pointer none)) fun b1 =>
 ifV (.bool b1) (
 K (.tuple #[(.slice none 0 0), (.int .i64 1)]) h) (
 T Tryz.prog 29 [a0] h fun v2 h3 =>
 bnd (isV 1 v2 (.int .i64 16)) fun v4 =>
 bnd (ldV 1 false v4 h3) fun v5 =>
 T Tryz.prog 68 [v5] h3 fun v6 h7 =>
 bnd (exV v6 0) fun v8 =>
 bnd (exV v6 1) fun v9 =>
 newV 162 [(.int .i64 0), (.int .i64 0)] h7 fun v10 h11 =>
 bnd (stV 2 v10 v8 h11) fun h12 =>
 bnd (faV 1 v10) fun v13 =>
 bnd (ldV 1 false v13 h12) fun v14 =>
 Lfp (fun (s15 : Nat → Value) h16 again17 =>
 ifV (s15 1) (
 bnd (binV .gtr (s15 3) (.int .i64 0)) fun v18 =>
 ifV v18 (
 S35_j1 s15 (s15 0) (s15 2) (s15 3) h16 K again17) (
 S35_j2 s15 (s15 1) (s15 2) h16 K again17)) (
 S35_j2 s15 (s15 1) (s15 2) h16 K again17)) (tup [v2, v9, (.slice none 0 0), v14]) h12)
def A35 : Ann := ⟨fun _ => ([], []), fun | 0 => [4, 6, 7, 8] | _ => []⟩
theorem S35_T {a0 : Value} {h : GH} {K : Value → GH → Prop} (g : S35 a0 h K) : T Tryz.prog 35 [a0] h K :=
  T_of_gwp (A := A35) Tryz.func35 (c := bodyOf Tryz.f35) (by kernel_rfl) (by kernel_rfl) (by kernel_rfl) (by kernel_rfl) (by kernel_rfl) (Eq.mp (by kernel_rfl) g)
def S36 (a0 : Value) (h : GH) (K : Value → GH → Prop) : Prop :=
 bnd (ncV a0) fun v1 =>
 bnd (faV 0 v1) fun v2 =>
 bnd (ldV 1 false v2 h) fun v3 =>
 K v3 h
def A36 : Ann := ⟨fun _ => ([], []), fun _ => []⟩
theorem S36_T {a0 : Value} {h : GH} {K : Value → GH → Prop} (g : S36 a0 h K) : T Tryz.prog 36 [a0] h K :=
  T_of_gwp (A := A36) Tryz.func36 (c := bodyOf Tryz.f36) (by kernel_rfl) (by kernel_rfl) (by kernel_rfl) (by kernel_rfl) (by kernel_rfl) (Eq.mp (by kernel_rfl) g)
def S37 (a0 : Value) (h : GH) (K : Value → GH → Prop) : Prop :=
 newV 43 [(.int .i64 0), (.int .i64 0), (.int .i64 0), (.int .i64 0)] h fun v1 h2 =>
 bnd (eqK .ptr true a0 (.pointer none)) fun b3 =>
 ifV (.bool b3) (
 bnd (fillV [(.int .i64 0), (.int .i64 0), (.int .i64 0), (.int .i64 0)] []) fun c4 =>
 bnd (stV 4 v1 (.agg c4.toArray) h2) fun h5 =>
 bnd (ldV 4 true v1 h5) fun v6 =>
 K v6 h5) (
 bnd (ncV a0) fun v7 =>
 bnd (faV 11 v7) fun v8 =>
 bnd (ldV 1 false v8 h2) fun v9 =>
 bnd (lnV v9) fun v10 =>
 bnd (ncV a0) fun v11 =>
 bnd (faV 12 v11) fun v12 =>
 bnd (ldV 1 false v12 h2) fun v13 =>
 bnd (lnV v13) fun v14 =>
 bnd (ncV a0) fun v15 =>
 bnd (faV 13 v15) fun v16 =>
 bnd (ldV 1 false v16 h2) fun v17 =>
 bnd (lnV v17) fun v18 =>
 bnd (fillV [(.int .i64 0), (.int .i64 0), (.int .i64 0), (.int .i64 0)] [(1, 1, v10), (2, 1, v14), (3, 1, v18)]) fun c19 =>
 newV 43 [(.int .i64 0), (.int .i64 0), (.int .i64 0), (.int .i64 0)] h2 fun v20 h21 =>
 bnd (stV 4 v20 (.agg c19.toArray) h21) fun h22 =>
 bnd (ncV a0) fun v23 =>
 bnd (faV 14 v23) fun v24 =>
 bnd (ldV 1 false v24 h22) fun v25 =>
 bnd (eqI v25 (.int .i64 (-1))) fun b26 =>
 ifV (.bool (!b26)) (
 bnd (faV 3 v20) fun v27 =>
 bnd (ldV 1 false v27 h22) fun v28 =>
 bnd (binV .add v28 (.int .i64 1)) fun v29 =>
 bnd (faV 3 v20) fun v30 =>
 bnd (stV 1 v30 v29 h22) fun h31 =>
 bnd (ldV 4 true v20 h31) fun v32 =>
 bnd (stV 4 v1 v32 h31) fun h33 =>
 bnd (ldV 4 true v1 h33) fun v34 =>
 K v34 h33) (
 bnd (ldV 4 true v20 h22) fun v35 =>
 bnd (stV 4 v1 v35 h22) fun h36 =>
 bnd (ldV 4 true v1 h36) fun v37 =>
 K v37 h36))
def A37 : Ann := ⟨fun | 3 => ([0, 1, 2, 3, 4, 5, 6, 7, 8, 9, 10, 11, 12, 13, 14, 15, 16, 17], [0, 1, 3, 7, 15, 0, 32, 96, 224, 480, 0, 1024, 3072, 7168, 15360, 32767, 0, 131071]) | _ => ([], []), fun _ => []⟩
theorem S37_T {a0 : Value} {h : GH} {K : Value → GH → Prop} (g : S37 a0 h K) : T Tryz.prog 37 [a0] h K :=
  T_of_gwp (A := A37) Tryz.func37 (c := bodyOf Tryz.f37) (by kernel_rfl) (by kernel_rfl) (by kernel_rfl) (by kernel_rfl) (by kernel_rfl) (Eq.mp (by kernel_rfl) g)
def S38 (a0 : Value) (h : GH) (K : Value → GH → Prop) : Prop :=
 bnd (lnV a0) fun v1 =>
 Lfp (fun (s2 : Nat → Value) h3 again4 =>
 bnd (binV .lss (s2 3) (s2 2)) fun v5 =>
 ifV v5 (
 bnd (isV 8 (s2 0) (s2 3)) fun v6 =>
 bnd (ldV 8 true v6 h3) fun v7 =>
 newV 80 [(.int .i64 0), (.int .i64 0), (.int .i64 0), (.int .i64 0), (.int .i64 0), (.int .i64 0), (.int .i64 0), (.slice none 0 0)] h3 fun v8 h9 =>
 bnd (stV 8 v8 v7 h9) fun h10 =>
 T Tryz.prog 70 [v8] h10 fun v11 h12 =>
 ifV v11 (
 K (.tuple #[(.slice none 0 0), (.int .i64 2000)]) h12) (
 bnd (faV 3 v8) fun v13 =>
 bnd (ldV 1 false v13 h12) fun v14 =>
 bnd (binV .lss v14 (.int .i64 0)) fun v15 =>
 ifV v15 (
 bnd (binV .add (s2 3) (.int .i64 1)) fun v16 =>
 again4 (tup [(s2 0), (s2 1), (s2 2), v16]) h12) (
 bnd (faV 3 v8) fun v17 =>
 bnd (ldV 1 false v17 h12) fun v18 =>
 T Tryz.prog 71 [(s2 1), v18, (.func (.func 72) #[] #[])] h12 fun v19 h20 =>
 bnd (exV v19 0) fun v21 =>
 bnd (exV v19 1) fun v22 =>
 ifV v22 (
 K (.tuple #[(.slice none 0 0), (.int .i64 2000)]) h20) (
 bnd (faV 7 v8) fun v23 =>
 bnd (ldV 1 false v23 h20) fun v24 =>
 T Tryz.prog 74 [v24] h20 fun v25 h26 =>
 bnd (faV 7 v8) fun v27 =>
 bnd (stV 1 v27 v25 h26) fun h28 =>
 bnd (ldV 8 true v8 h28) fun v29 =>
 bsV 80 1 [(.int .i64 0), (.int .i64 0), (.int .i64 0), (.int .i64 0), (.int .i64 0), (.int .i64 0), (.int .i64 0), (.slice none 0 0)] [(0, 8, v29)] h28 fun v30 h31 =>
 T Tryz.prog 75 [(s2 1), v21, v30] h31 fun v32 h33 =>
 bnd (binV .add (s2 3) (.int .i64 1)) fun v34 =>
 again4 (tup [(s2 0), v32, (s2 2), v34]) h33)))) (
 K (.tuple #[(s2 1), (.int .i64 0)]) h3)) (tup [a0, (.slice none 0 0), v1, (.int .i64 0)]) h
def A38 : Ann := ⟨fun _ => ([], []), fun | 0 => [0, 4, 10, 11] | _ => []⟩
theorem S38_T {a0 : Value} {h : GH} {K : Value → GH → Prop} (g : S38 a0 h K) : T Tryz.prog 38 [a0] h K :=
  T_of_gwp (A := A38) Tryz.func38 (c := bodyOf Tryz.f38) (by kernel_rfl) (by kernel_rfl) (by kernel_rfl) (by kernel_rfl) (by kernel_rfl) (Eq.mp (by kernel_rfl) g)
def S39 (h : GH) (K : Value → GH → Prop) : Prop :=
 newV 49 [(.int .i64 0), (.int .i64 0), (.int .i64 0), (.int .i64 0), (.bool false), (.bool false), (.bool false), (.bool false), (.bool false)] h fun v1 h2 =>
 newV 49 [(.int .i64 0), (.int .i64 0), (.int .i64 0), (.int .i64 0), (.bool false), (.bool false), (.bool false), (.bool false), (.bool false)] h2 fun v3 h4 =>
 Lfp (fun (s5 : Nat → Value) h6 again7 =>
 bnd (binV .lss (s5 2) (.int .i64 4)) fun v8 =>
 ifV v8 (
 bnd (faV 0 (s5 1)) fun v9 =>
 bnd (iaV 4 1 v9 (s5 2)) fun v10 =>
 bnd (stV 1 v10 (.int .i64 (-1)) h6) fun h11 =>
 bnd (binV .add (s5 2) (.int .i64 1)) fun v12 =>
 again7 (tup [(s5 0), (s5 1), v12]) h11) (
 bnd (ldV 9 true (s5 1) h6) fun v13 =>
 bnd (stV 9 (s5 0) v13 h6) fun h14 =>
 bnd (ldV 9 true (s5 0) h14) fun v15 =>
 K v15 h14)) (tup [v1, v3, (.int .i64 0)]) h4
def A39 : Ann := ⟨fun _ => ([], []), fun | 0 => [0, 1, 3] | _ => []⟩
theorem S39_T {h : GH} {K : Value → GH → Prop} (g : S39 h K) : T Tryz.prog 39 [] h K :=
  T_of_gwp (A := A39) Tryz.func39 (c := bodyOf Tryz.f39) (by kernel_rfl) (by kernel_rfl) (by kernel_rfl) (by kernel_rfl) (by kernel_rfl) (Eq.mp (by kernel_rfl) g)
def S43 (a0 : Value) (h : GH) (K : Value → GH → Prop) : Prop :=
 bnd (eqK .ptr true a0 (.pointer none)) fun b1 =>
 ifV (.bool b1) (
 K (.slice none 0 0) h) (
 bnd (ncV a0) fun v2 =>
 bnd (faV 5 v2) fun v3 =>
 bnd (ldV 1 false v3 h) fun v4 =>
 T Tryz.prog 79 [v4] h fun v5 h6 =>
 bnd (lnV v5) fun v7 =>
 Lfp (fun (s8 : Nat → Value) h9 again10 =>
 bnd (binV .lss (s8 2) (s8 1)) fun v11 =>
 ifV v11 (
 bnd (isV 8 (s8 0) (s8 2)) fun v12 =>
 bnd (faV 7 v12) fun v13 =>
 bnd (ldV 1 false v13 h9) fun v14 =>
 T Tryz.prog 74 [v14] h9 fun v15 h16 =>
 bnd (isV 8 (s8 0) (s8 2)) fun v17 =>
 bnd (faV 7 v17) fun v18 =>
 bnd (stV 1 v18 v15 h16) fun h19 =>
 bnd (binV .add (s8 2) (.int .i64 1)) fun v20 =>
 again10 (tup [(s8 0), (s8 1), v20]) h19) (
 K (s8 0) h9)) (tup [v5, v7, (.int .i64 0)]) h6)
def A43 : Ann := ⟨fun _ => ([], []), fun | 0 => [3, 13, 14] | _ => []⟩
theorem S43_T {a0 : Value} {h : GH} {K : Value → GH → Prop} (g : S43 a0 h K) : T Tryz.prog 43 [a0] h K :=
  T_of_gwp (A := A43) Tryz.func43 (c := bodyOf Tryz.f43) (by kernel_rfl) (by kernel_rfl) (by kernel_rfl) (by kernel_rfl) (by kernel_rfl) (Eq.mp (by kernel_rfl) g)
def S44 (a0 : Value) (h : GH) (K : Value → GH → Prop) : Prop :=
 bnd (eqK .slice true a0 (.slice none 0 0)) fun b1 =>
 ifV (.bool b1) (
 K (.slice none 0 0) h) (
 bsV 105 0 [] [] h fun v2 h3 =>
 apV 105 8 64 v2 a0 h3 fun v4 h5 =>
 K v4 h5)
def A44 : Ann := ⟨fun _ => ([], []), fun _ => []⟩
theorem S44_T {a0 : Value} {h : GH} {K : Value → GH → Prop} (g : S44 a0 h K) : T Tryz.prog 44 [a0] h K :=
  T_of_gwp (A := A44) Tryz.func44 (c := bodyOf Tryz.f44) (by kernel_rfl) (by kernel_rfl) (by kernel_rfl) (by kernel_rfl) (by kernel_rfl) (Eq.mp (by kernel_rfl) g)
def S45 (a0 a1 a2 : Value) (h : GH) (K : Value → GH → Prop) : Prop :=
 Lfp (fun (s1 : Nat → Value) h2 again3 =>
 T Tryz.prog 80 [(s1 3), (s1 1)] h2 fun v4 h5 =>
 bnd (isV 1 (s1 0) v4) fun v6 =>
 bnd (ldV 1 false v6 h5) fun v7 =>
 bnd (binV .sub v7 (.int .i64 1)) fun v8 =>
 bnd (isV 1 (s1 0) v4) fun v9 =>
 bnd (stV 1 v9 (.int .i64 0) h5) fun h10 =>
 bnd (eqI v8 (.int .i64 (-1))) fun b11 =>
 ifV (.bool b11) (
 K (.bool true) h10) (
 bnd (binV .leq v8 (s1 3)) fun v12 =>
 ifV v12 (
 K (.bool false) h10) (
 bnd (binV .geq v8 (.int .i64 5)) fun v13 =>
 ifV v13 (
 K (.bool false) h10) (
 callV Tryz.prog (s1 2) [v8] h10 fun v14 h15 =>
 again3 (tup [(s1 0), (s1 1), (s1 2), v8]) h15)))) (tup [a0, a1, a2, (.int .i64 (-1))]) h
def A45 : Ann := ⟨fun _ => ([], []), fun | 0 => [0, 1, 2, 7] | _ => []⟩
theorem S45_T {a0 a1 a2 : Value} {h : GH} {K : Value → GH → Prop} (g : S45 a0 a1 a2 h K) : T Tryz.prog 45 [a0, a1, a2] h K :=
  T_of_gwp (A := A45) Tryz.func45 (c := bodyOf Tryz.f45) (by kernel_rfl) (by kernel_rfl) (by kernel_rfl) (by kernel_rfl) (by kernel_rfl) (Eq.mp (by kernel_rfl) g)
def S48 (a0 : Value) (h : GH) (K : Value → GH → Prop) : Prop :=
 bnd (ncV a0) fun v1 =>
 bnd (faV 0 v1) fun v2 =>
 bnd (ldV 4 true v2 h) fun v3 =>
 Lfp (fun (s4 : Nat → Value) h5 again6 =>
 bnd (binV .lss (s4 1) (.int .i64 4)) fun v7 =>
 ifV v7 (
 bnd (ixV 4 1 false (s4 0) (s4 1)) fun v8 =>
 bnd (binV .lss v8 (.int .i64 (-1))) fun v9 =>
 ifV v9 (
 K (.bool false) h5) (
 bnd (binV .gtr v8 (.int .i64 1048575)) fun v10 =>
 ifV v10 (
 K (.bool false) h5) (
 bnd (binV .add (s4 1) (.int .i64 1)) fun v11 =>
 again6 (tup [(s4 0), v11]) h5))) (
 K (.bool true) h5)) (tup [v3, (.int .i64 0)]) h
def A48 : Ann := ⟨fun _ => ([], []), fun | 0 => [8, 9] | _ => []⟩
theorem S48_T {a0 : Value} {h : GH} {K : Value → GH → Prop} (g : S48 a0 h K) : T Tryz.prog 48 [a0] h K :=
  T_of_gwp (A := A48) Tryz.func48 (c := bodyOf Tryz.f48) (by kernel_rfl) (by kernel_rfl) (by kernel_rfl) (by kernel_rfl) (by kernel_rfl) (Eq.mp (by kernel_rfl) g)
def S49 (h : GH) (K : Value → GH → Prop) : Prop :=
 bnd (fillV (List.replicate 642 (.int .i64 0) ++ [(.bool false)]) []) fun c1 =>
 newV 142 ((.agg c1.toArray) : Value).cells.toList h fun v2 h3 =>
 bnd (ncV v2) fun v4 =>
 bnd (faV 0 v4) fun v5 =>
 T Tryz.prog 81 [(.int .i64 1)] h3 fun v6 h7 =>
 bnd (iaV 634 1 v5 (.int .i64 16)) fun v8 =>
 bnd (stV 1 v8 v6 h7) fun h9 =>
 Lfp (fun (s10 : Nat → Value) h11 again12 =>
 bnd (binV .lss (s10 1) (.int .i64 11)) fun v13 =>
 ifV v13 (
 bnd (binV .add (.int .i64 17) (s10 1)) fun v14 =>
 bnd (binV .add (s10 1) (.int .i64 2)) fun v15 =>
 bnd (ncV (s10 0)) fun v16 =>
 bnd (faV 0 v16) fun v17 =>
 T Tryz.prog 81 [v15] h11 fun v18 h19 =>
 bnd (iaV 634 1 v17 v14) fun v20 =>
 bnd (stV 1 v20 v18 h19) fun h21 =>
 bnd (binV .add (s10 1) (.int .i64 1)) fun v22 =>
 again12 (tup [(s10 0), v22]) h21) (
 K (s10 0) h11)) (tup [v2, (.int .i64 0)]) h9
def A49 : Ann := ⟨fun | 2 => ([0, 2, 3, 1, 4, 5], [0, 0, 1, 5, 15, 31]) | 6 => ([0, 1, 2, 3, 4, 6, 7, 5, 8, 9], [0, 0, 2, 0, 8, 24, 1, 65, 255, 511]) | _ => ([], []), fun | 0 => [1, 10] | _ => []⟩
theorem S49_T {h : GH} {K : Value → GH → Prop} (g : S49 h K) : T Tryz.prog 49 [] h K :=
  T_of_gwp (A := A49) Tryz.func49 (c := bodyOf Tryz.f49) (by kernel_rfl) (by kernel_rfl) (by kernel_rfl) (by kernel_rfl) (by kernel_rfl) (Eq.mp (by kernel_rfl) g)
def S50_j1 (x0 x1 x2 x3 x4 : Value) (h : GH) (K : Value → GH → Prop)  : Prop :=
 bnd (fillV [(.int .i64 0), (.int .i64 0), (.int .i64 0), (.bool false), (.slice none 0 0), (.slice none 0 0), .nilFunc, (.bool false), (.int .i64 0), (.int .i64 0), (.int .i64 0), (.slice none 0 0), (.slice none 0 0), (.slice none 0 0), (.int .i64 0), (.pointer none), (.pointer none), (.pointer none), (.pointer none), (.pointer none), (.int .i64 0), (.int .i64 0), (.int .i64 0)] [(0, 1, x0), (1, 1, x1), (2, 1, x2), (3, 1, x3), (14, 1, (.int .i64 (-1)))]) fun c1 =>
 newV 123 ((.agg c1.toArray) : Value).cells.toList h fun v2 h3 =>
 bnd (lnV x4) fun v4 =>
 Lfp (fun (s5 : Nat → Value) h6 again7 =>
 bnd (binV .lss (s5 3) (s5 2)) fun v8 =>
 ifV v8 (
 bnd (isV 1 (s5 1) (s5 3)) fun v9 =>
 bnd (ldV 1 true v9 h6) fun v10 =>
 newV 69 [(.slice none 0 0)] h6 fun v11 h12 =>
 bnd (stV 1 v11 v10 h12) fun h13 =>
 bnd (ncV (s5 0)) fun v14 =>
 bnd (faV 4 v14) fun v15 =>
 bnd (ldV 1 false v15 h13) fun v16 =>
 bnd (faV 0 v11) fun v17 =>
 bnd (ldV 1 false v17 h13) fun v18 =>
 T Tryz.prog 82 [v18] h13 fun v19 h20 =>
 ldV 1 false v15 h20 = some v16 ∧
 bnd (fillV [(.slice none 0 0)] [(0, 1, v19)]) fun c21 =>
 bsV 69 1 [(.slice none 0 0)] [(0, 1, (.agg c21.toArray))] h20 fun v22 h23 =>
 apV 69 1 24 v16 v22 h23 fun v24 h25 =>
 bnd (ncV (s5 0)) fun v26 =>
 bnd (faV 4 v26) fun v27 =>
 bnd (stV 1 v27 v24 h25) fun h28 =>
 bnd (binV .add (s5 3) (.int .i64 1)) fun v29 =>
 again7 (tup [(s5 0), (s5 1), (s5 2), v29]) h28) (
 bnd (ncV (s5 0)) fun v30 =>
 bnd (faV 21 v30) fun v31 =>
 bnd (faV 0 v31) fun v32 =>
 bnd (stV 1 v32 (.int .i64 (-1)) h6) fun h33 =>
 K (.tuple #[(s5 0), (.int .i64 0)]) h33)) (tup [v2, x4, v4, (.int .i64 0)]) h3
def S50 (a0 a1 a2 a3 a4 : Value) (h : GH) (K : Value → GH → Prop) : Prop :=
 bnd (binV .lss a1 (.int .i64 1)) fun v1 =>
 ifV v1 (
 K (.tuple #[(.pointer none), (.int .i64 1800)]) h) (
 bnd (binV .gtr a1 (.int .i64 4)) fun v2 =>
 ifV v2 (
 K (.tuple #[(.pointer none), (.int .i64 1800)]) h) (
 T Tryz.prog 23 [a0, a1] h fun v3 h4 =>
 bnd (unV .not v3) fun v5 =>
 ifV v5 (
 K (.tuple #[(.pointer none), (.int .i64 1800)]) h4) (
 bsV 66 1 [(.slice none 0 0)] [(0, 1, a4)] h4 fun v6 h7 =>
 bnd (fillV [(.slice none 0 0), (.int .i64 0), (.bool false)] [(0, 1, v6), (1, 1, a2)]) fun c8 =>
 T Tryz.prog 8 [(.agg c8.toArray)] h7 fun v9 h10 =>
 bnd (unV .not v9) fun v11 =>
 ifV v11 (
 K (.tuple #[(.pointer none), (.int .i64 1800)]) h10) (
 S50_j1 a0 a1 a2 a3 a4 h10 K ))))
def A50 : Ann := ⟨fun | 7 => ([0, 1, 2, 3, 4, 5, 6, 7, 8, 9, 10, 11, 12, 13], [0, 0, 2, 6, 14, 0, 32, 96, 224, 480, 1022, 2047, 4095, 8191]) | _ => ([], []), fun | 0 => [12, 41, 42, 43] | _ => []⟩
theorem S50_T {a0 a1 a2 a3 a4 : Value} {h : GH} {K : Value → GH → Prop} (g : S50 a0 a1 a2 a3 a4 h K) : T Tryz.prog 50 [a0, a1, a2, a3, a4] h K :=
  T_of_gwp (A := A50) Tryz.func50 (c := bodyOf Tryz.f50) (by kernel_rfl) (by kernel_rfl) (by kernel_rfl) (by kernel_rfl) (by kernel_rfl) (Eq.mp (by kernel_rfl) g)
def S51 (a0 : Value) (h : GH) (K : Value → GH → Prop) : Prop :=
 bnd (fillV [(.int .i64 0), (.int .i64 0), (.int .i64 0)] [(0, 1, (.int .i64 4)), (1, 1, (.int .i64 1)), (2, 1, (.int .i64 1048576))]) fun c1 =>
 bnd (fillV [(.int .i64 0), (.int .i64 0), (.int .i64 0)] [(0, 1, (.int .i64 4)), (1, 1, (.int .i64 1)), (2, 1, (.int .i64 1))]) fun c2 =>
 bnd (fillV [(.int .i64 0), (.int .i64 0), (.int .i64 0)] [(0, 1, (.int .i64 4)), (1, 1, (.int .i64 1)), (2, 1, (.int .i64 1048576))]) fun c3 =>
 bnd (fillV [(.int .i64 0), (.int .i64 0), (.int .i64 0)] [(0, 1, (.int .i64 4)), (1, 1, (.int .i64 1)), (2, 1, (.int .i64 1048576))]) fun c4 =>
 bnd (fillV [(.int .i64 0), (.int .i64 0), (.int .i64 0)] [(0, 1, (.int .i64 4)), (1, 1, (.int .i64 4)), (2, 1, (.int .i64 1048576))]) fun c5 =>
 bnd (fillV [(.int .i64 0), (.int .i64 0), (.int .i64 0)] [(0, 1, (.int .i64 1)), (1, 1, (.int .i64 1)), (2, 1, (.int .i64 1))]) fun c6 =>
 bnd (fillV [(.int .i64 0), (.int .i64 0), (.int .i64 0)] [(0, 1, (.int .i64 5)), (1, 1, (.int .i64 1)), (2, 1, (.int .i64 2))]) fun c7 =>
 bnd (fillV [(.int .i64 0), (.int .i64 0), (.int .i64 0)] [(0, 1, (.int .i64 5)), (1, 1, (.int .i64 1)), (2, 1, (.int .i64 1))]) fun c8 =>
 bnd (fillV [(.int .i64 0), (.int .i64 0), (.int .i64 0)] [(0, 1, (.int .i64 5)), (1, 1, (.int .i64 1)), (2, 1, (.int .i64 1))]) fun c9 =>
 bnd (fillV [(.int .i64 0), (.int .i64 0), (.int .i64 0)] [(0, 1, (.int .i64 1)), (1, 1, (.int .i64 1)), (2, 1, (.int .i64 1))]) fun c10 =>
 bnd (fillV [(.int .i64 0), (.int .i64 0), (.int .i64 0)] [(0, 1, (.int .i64 5)), (1, 1, (.int .i64 5)), (2, 1, (.int .i64 1))]) fun c11 =>
 bnd (fillV (List.replicate 33 (.int .i64 0)) [(0, 3, (.agg c1.toArray)), (3, 3, (.agg c2.toArray)), (6, 3, (.agg c3.toArray)), (9, 3, (.agg c4.toArray)), (12, 3, (.agg c5.toArray)), (15, 3, (.agg c6.toArray)), (18, 3, (.agg c7.toArray)), (21, 3, (.agg c8.toArray)), (24, 3, (.agg c9.toArray)), (27, 3, (.agg c10.toArray)), (30, 3, (.agg c11.toArray))]) fun c12 =>
 newV 178 (List.replicate 33 (.int .i64 0)) h fun v13 h14 =>
 bnd (stV 33 v13 (.agg c12.toArray) h14) fun h15 =>
 bnd (ncV a0) fun v16 =>
 bnd (faV 0 v16) fun v17 =>
 bnd (ldV 1 false v17 h15) fun v18 =>
 T Tryz.prog 23 [v18, (.int .i64 11)] h15 fun v19 h20 =>
 bnd (unV .not v19) fun v21 =>
 ifV v21 (
 K (.bool false) h20) (
 bnd (ncV a0) fun v22 =>
 bnd (faV 0 v22) fun v23 =>
 bnd (ldV 1 false v23 h20) fun v24 =>
 bnd (iaV 11 3 v13 v24) fun v25 =>
 bnd (ldV 3 true v25 h20) fun v26 =>
 newV 177 [(.int .i64 0), (.int .i64 0), (.int .i64 0)] h20 fun v27 h28 =>
 bnd (stV 3 v27 v26 h28) fun h29 =>
 bnd (ncV a0) fun v30 =>
 bnd (faV 1 v30) fun v31 =>
 bnd (ldV 1 false v31 h29) fun v32 =>
 bnd (faV 0 v27) fun v33 =>
 bnd (ldV 1 false v33 h29) fun v34 =>
 T Tryz.prog 23 [v32, v34] h29 fun v35 h36 =>
 ifV v35 (
 bnd (ncV a0) fun v37 =>
 bnd (faV 2 v37) fun v38 =>
 bnd (ldV 1 false v38 h36) fun v39 =>
 bnd (faV 1 v27) fun v40 =>
 bnd (ldV 1 false v40 h36) fun v41 =>
 T Tryz.prog 23 [v39, v41] h36 fun v42 h43 =>
 ifV v42 (
 bnd (ncV a0) fun v44 =>
 bnd (faV 3 v44) fun v45 =>
 bnd (ldV 1 false v45 h43) fun v46 =>
 bnd (faV 2 v27) fun v47 =>
 bnd (ldV 1 false v47 h43) fun v48 =>
 T Tryz.prog 23 [v46, v48] h43 fun v49 h50 =>
 K v49 h50) (
 K (.bool false) h43)) (
 K (.bool false) h36))
def A51 : Ann := ⟨fun | 5 => ([0, 1, 2, 3, 4, 5, 6, 7, 8, 9, 10, 11, 12, 13, 14, 15, 16, 17, 18, 19, 20, 21, 22, 23, 24, 25], [0, 1, 3, 7, 0, 16, 63, 127, 255, 511, 1023, 2047, 255, 4351, 16383, 32767, 65535, 131071, 262143, 524287, 1048575, 131071, 2228223, 8388607, 16777215, 33554431]) | _ => ([], []), fun _ => []⟩
theorem S51_T {a0 : Value} {h : GH} {K : Value → GH → Prop} (g : S51 a0 h K) : T Tryz.prog 51 [a0] h K :=
  T_of_gwp (A := A51) Tryz.func51 (c := bodyOf Tryz.f51) (by kernel_rfl) (by kernel_rfl) (by kernel_rfl) (by kernel_rfl) (by kernel_rfl) (Eq.mp (by kernel_rfl) g)
def S52_j1 (x0 : Value) (h : GH) (K : Value → GH → Prop)  : Prop :=
 bnd (ncV x0) fun v1 =>
 bnd (faV 0 v1) fun v2 =>
 bnd (ldV 1 false v2 h) fun v3 =>
 T Tryz.prog 83 [v3] h fun v4 h5 =>
 bnd (exV v4 0) fun v6 =>
 bnd (exV v4 1) fun v7 =>
 bnd (ncV x0) fun v8 =>
 bnd (faV 15 v8) fun v9 =>
 bnd (stV 1 v9 v6 h5) fun h10 =>
 bnd (ncV x0) fun v11 =>
 bnd (faV 20 v11) fun v12 =>
 bnd (stV 1 v12 (.int .i64 2) h10) fun h13 =>
 bnd (ncV x0) fun v14 =>
 bnd (faV 6 v14) fun v15 =>
 bnd (stV 1 v15 (.func (.func 84) #[] #[]) h13) fun h16 =>
 K (.bool true) h16
def S52 (a0 a1 : Value) (h : GH) (K : Value → GH → Prop) : Prop :=
 T Tryz.prog 25 [a0] h fun v1 h2 =>
 ifV v1 (
 K (.bool false) h2) (
 bnd (ncV a0) fun v3 =>
 bnd (faV 9 v3) fun v4 =>
 bnd (ldV 1 false v4 h2) fun v5 =>
 bnd (binV .gtr v5 (.int .i64 0)) fun v6 =>
 ifV v6 (
 bnd (ncV a0) fun v7 =>
 bnd (faV 9 v7) fun v8 =>
 bnd (ldV 1 false v8 h2) fun v9 =>
 bnd (binV .sub v9 (.int .i64 1)) fun v10 =>
 bnd (ncV a0) fun v11 =>
 bnd (faV 9 v11) fun v12 =>
 bnd (stV 1 v12 v10 h2) fun h13 =>
 K (.bool false) h13) (
 bnd (ncV a0) fun v14 =>
 bnd (faV 8 v14) fun v15 =>
 bnd (ldV 1 false v15 h2) fun v16 =>
 bnd (eqI v16 (.int .i64 0)) fun b17 =>
 ifV (.bool b17) (
 bnd (ncV a0) fun v18 =>
 bnd (faV 5 v18) fun v19 =>
 bnd (ldV 1 false v19 h2) fun v20 =>
 bnd (ncV a0) fun v21 =>
 bnd (faV 0 v21) fun v22 =>
 bnd (ldV 1 false v22 h2) fun v23 =>
 bnd (ncV a0) fun v24 =>
 bnd (faV 5 v24) fun v25 =>
 bnd (ldV 1 false v25 h2) fun v26 =>
 bnd (lnV v26) fun v27 =>
 bnd (fillV [(.int .i64 0), (.int .i64 0), (.int .i64 0), (.int .i64 0), (.int .i64 0), (.int .i64 0), (.int .i64 0), (.slice none 0 0)] [(0, 1, v23), (1, 1, v27), (2, 1, a1), (3, 1, (.int .i64 (-1))), (4, 1, (.int .i64 (-1)))]) fun c28 =>
 bsV 80 1 [(.int .i64 0), (.int .i64 0), (.int .i64 0), (.int .i64 0), (.int .i64 0), (.int .i64 0), (.int .i64 0), (.slice none 0 0)] [(0, 8, (.agg c28.toArray))] h2 fun v29 h30 =>
 apV 80 8 80 v20 v29 h30 fun v31 h32 =>
 bnd (ncV a0) fun v33 =>
 bnd (faV 5 v33) fun v34 =>
 bnd (stV 1 v34 v31 h32) fun h35 =>
 S52_j1 a0 h35 K ) (
 S52_j1 a0 h2 K )))
def A52 : Ann := ⟨fun | 7 => ([0, 1, 2, 3, 4, 5, 6, 7, 8, 9, 10, 11, 12, 13, 14, 15, 16, 17, 18, 19, 20], [0, 0, 2, 6, 14, 0, 32, 96, 224, 0, 512, 1536, 3584, 7680, 0, 32736, 65504, 131070, 262143, 524287, 1048575]) | _ => ([], []), fun _ => []⟩
theorem S52_T {a0 a1 : Value} {h : GH} {K : Value → GH → Prop} (g : S52 a0 a1 h K) : T Tryz.prog 52 [a0, a1] h K :=
  T_of_gwp (A := A52) Tryz.func52 (c := bodyOf Tryz.f52) (by kernel_rfl) (by kernel_rfl) (by kernel_rfl) (by kernel_rfl) (by kernel_rfl) (Eq.mp (by kernel_rfl) g)
def S53 (a0 : Value) (h : GH) (K : Value → GH → Prop) : Prop :=
 newV 105 [(.int .i64 0), (.int .i64 0), (.int .i64 0), (.int .i64 0), (.int .i64 0), (.int .i64 0), (.int .i64 0), (.int .i64 0)] h fun v1 h2 =>
 bnd (eqK .ptr true a0 (.pointer none)) fun b3 =>
 ifV (.bool b3) (
 bnd (fillV [(.int .i64 0), (.int .i64 0), (.int .i64 0), (.int .i64 0), (.int .i64 0), (.int .i64 0), (.int .i64 0), (.int .i64 0)] []) fun c4 =>
 bnd (stV 8 v1 (.agg c4.toArray) h2) fun h5 =>
 bnd (ldV 8 true v1 h5) fun v6 =>
 K (.tuple #[v6, (.bool false)]) h5) (
 bnd (ncV a0) fun v7 =>
 bnd (faV 634 v7) fun v8 =>
 bnd (ldV 8 true v8 h2) fun v9 =>
 bnd (ncV a0) fun v10 =>
 bnd (faV 642 v10) fun v11 =>
 bnd (ldV 1 false v11 h2) fun v12 =>
 bnd (stV 8 v1 v9 h2) fun h13 =>
 ldV 1 false v11 h13 = some v12 ∧
 bnd (ldV 8 true v1 h13) fun v14 =>
 K (.tuple #[v14, v12]) h13)
def A53 : Ann := ⟨fun | 3 => ([0, 1, 2, 3, 4, 5, 6, 7, 8, 9], [0, 1, 3, 7, 0, 16, 48, 112, 15, 511]) | _ => ([], []), fun _ => []⟩
theorem S53_T {a0 : Value} {h : GH} {K : Value → GH → Prop} (g : S53 a0 h K) : T Tryz.prog 53 [a0] h K :=
  T_of_gwp (A := A53) Tryz.func53 (c := bodyOf Tryz.f53) (by kernel_rfl) (by kernel_rfl) (by kernel_rfl) (by kernel_rfl) (by kernel_rfl) (Eq.mp (by kernel_rfl) g)
def S54 (a0 : Value) (h : GH) (K : Value → GH → Prop) : Prop :=
 bnd (eqK .ptr true a0 (.pointer none)) fun b1 =>
 ifV (.bool b1) (
 K (.tuple #[(.int .i64 0), (.int .i64 0)]) h) (
 bnd (ncV a0) fun v2 =>
 bnd (faV 21 v2) fun v3 =>
 bnd (faV 0 v3) fun v4 =>
 bnd (ldV 1 false v4 h) fun v5 =>
 bnd (ncV a0) fun v6 =>
 bnd (faV 21 v6) fun v7 =>
 bnd (faV 1 v7) fun v8 =>
 bnd (ldV 1 false v8 h) fun v9 =>
 K (.tuple #[v5, v9]) h)
def A54 : Ann := ⟨fun | 3 => ([0, 1, 2, 3, 4, 5, 6, 7, 8, 9, 10, 11], [0, 1, 3, 7, 15, 0, 32, 96, 224, 480, 31, 2047]) | _ => ([], []), fun _ => []⟩
theorem S54_T {a0 : Value} {h : GH} {K : Value → GH → Prop} (g : S54 a0 h K) : T Tryz.prog 54 [a0] h K :=
  T_of_gwp (A := A54) Tryz.func54 (c := bodyOf Tryz.f54) (by kernel_rfl) (by kernel_rfl) (by kernel_rfl) (by kernel_rfl) (by kernel_rfl) (Eq.mp (by kernel_rfl) g)
def S55_j1 (x0 x4 x5 : Value) (h : GH) (K : Value → GH → Prop)  : Prop :=
 bnd (ncV x0) fun v1 =>
 bnd (faV 4 v1) fun v2 =>
 bnd (ldV 1 false v2 h) fun v3 =>
 bnd (binV .quo x5 (.int .i64 4)) fun v4 =>
 T Tryz.prog 87 [v4, (.int .i64 1)] h fun v5 h6 =>
 ldV 1 false v2 h6 = some v3 ∧
 bnd (eqI v3 v5) fun b7 =>
 K (.tuple #[x4, (.bool b7)]) h6
def S55 (a0 : Value) (h : GH) (K : Value → GH → Prop) : Prop :=
 bnd (ncV a0) fun v1 =>
 bnd (faV 2 v1) fun v2 =>
 bnd (ldV 1 false v2 h) fun v3 =>
 bnd (binV .sub v3 (.int .i64 34)) fun v4 =>
 bnd (binV .quo v4 (.int .i64 50)) fun v5 =>
 bnd (ncV a0) fun v6 =>
 bnd (faV 4 v6) fun v7 =>
 bnd (ldV 1 false v7 h) fun v8 =>
 T Tryz.prog 85 [v8] h fun v9 h10 =>
 bnd (exV v9 0) fun v11 =>
 bnd (exV v9 1) fun v12 =>
 bnd (ncV a0) fun v13 =>
 bnd (faV 1 v13) fun v14 =>
 bnd (ldV 1 false v14 h10) fun v15 =>
 bnd (eqI v15 (.int .i64 2)) fun b16 =>
 ifV (.bool (!b16)) (
 K (.tuple #[(.int .i64 0), (.bool false)]) h10) (
 bnd (ncV a0) fun v17 =>
 bnd (faV 3 v17) fun v18 =>
 bnd (ldV 1 false v18 h10) fun v19 =>
 bnd (ncV a0) fun v20 =>
 bnd (faV 4 v20) fun v21 =>
 bnd (ldV 1 false v21 h10) fun v22 =>
 bnd (eqI v19 v22) fun b23 =>
 ifV (.bool b23) (
 K (.tuple #[(.int .i64 0), (.bool false)]) h10) (
 bnd (ncV a0) fun v24 =>
 bnd (faV 2 v24) fun v25 =>
 bnd (ldV 1 false v25 h10) fun v26 =>
 bnd (binV .lss v26 (.int .i64 34)) fun v27 =>
 ifV v27 (
 K (.tuple #[(.int .i64 0), (.bool false)]) h10) (
 bnd (ncV a0) fun v28 =>
 bnd (faV 2 v28) fun v29 =>
 bnd (ldV 1 false v29 h10) fun v30 =>
 T Tryz.prog 86 [v5] h10 fun v31 h32 =>
 ldV 1 false v29 h32 = some v30 ∧
 bnd (eqI v30 v31) fun b33 =>
 ifV (.bool (!b33)) (
 K (.tuple #[(.int .i64 0), (.bool false)]) h32) (
 bnd (unV .not v12) fun v34 =>
 ifV v34 (
 K (.tuple #[(.int .i64 0), (.bool false)]) h32) (
 S55_j1 a0 v5 v11 h32 K )))))
def A55 : Ann := ⟨fun | 3 => ([0, 1, 2, 3, 4, 5, 6, 7, 8, 9, 10, 11, 12, 13, 14, 15, 16, 17, 18, 19, 20, 21, 22, 23, 24, 25, 26, 27, 28, 29, 30, 31, 32, 33, 34, 35], [0, 1, 3, 7, 15, 31, 63, 127, 255, 511, 63, 1087, 3135, 7231, 16383, 32767, 65535, 131071, 262143, 524287, 1048575, 2097151, 4194303, 8388607, 16777215, 33554431, 67108863, 134217727, 16777215, 285212671, 1073741823, 2147483647, 4294967295, 8589934591, 17179869183, 34359738367]) | 5 => ([0, 1, 2, 3, 4, 5, 6, 7, 8, 9, 10], [0, 0, 2, 6, 14, 0, 32, 96, 254, 225, 1023]) | _ => ([], []), fun _ => []⟩
theorem S55_T {a0 : Value} {h : GH} {K : Value → GH → Prop} (g : S55 a0 h K) : T Tryz.prog 55 [a0] h K :=
  T_of_gwp (A := A55) Tryz.func55 (c := bodyOf Tryz.f55) (by kernel_rfl) (by kernel_rfl) (by kernel_rfl) (by kernel_rfl) (by kernel_rfl) (Eq.mp (by kernel_rfl) g)
def S56 (a0 a1 a2 : Value) (h : GH) (K : Value → GH → Prop) : Prop :=
 bnd (ncV a0) fun v1 =>
 bnd (faV 14 v1) fun v2 =>
 bnd (ldV 1 false v2 h) fun v3 =>
 bnd (eqI v3 a1) fun b4 =>
 ifV (.bool b4) (
 bnd (ncV a0) fun v5 =>
 bnd (faV 5 v5) fun v6 =>
 bnd (ldV 1 false v6 h) fun v7 =>
 bnd (lnV v7) fun v8 =>
 bnd (binV .gtr v8 (.int .i64 0)) fun v9 =>
 ifV v9 (
 T Tryz.prog 88 [a0] h fun v10 h11 =>
 bnd (ncV v10) fun v12 =>
 bnd (faV 3 v12) fun v13 =>
 bnd (stV 1 v13 a2 h11) fun h14 =>
 K (.tuple #[]) h14) (
 K (.tuple #[]) h)) (
 K (.tuple #[]) h)
def A56 : Ann := ⟨fun _ => ([], []), fun _ => []⟩
theorem S56_T {a0 a1 a2 : Value} {h : GH} {K : Value → GH → Prop} (g : S56 a0 a1 a2 h K) : T Tryz.prog 56 [a0, a1, a2] h K :=
  T_of_gwp (A := A56) Tryz.func56 (c := bodyOf Tryz.f56) (by kernel_rfl) (by kernel_rfl) (by kernel_rfl) (by kernel_rfl) (by kernel_rfl) (Eq.mp (by kernel_rfl) g)
def S57 (a0 : Value) (h : GH) (K : Value → GH → Prop) : Prop :=
 bnd (eqK .slice true a0 (.slice none 0 0)) fun b1 =>
 ifV (.bool b1) (
 K (.slice none 0 0) h) (
 bsV 3 0 [] [] h fun v2 h3 =>
 apV 3 1 8 v2 a0 h3 fun v4 h5 =>
 K v4 h5)
def A57 : Ann := ⟨fun _ => ([], []), fun _ => []⟩
theorem S57_T {a0 : Value} {h : GH} {K : Value → GH → Prop} (g : S57 a0 h K) : T Tryz.prog 57 [a0] h K :=
  T_of_gwp (A := A57) Tryz.func57 (c := bodyOf Tryz.f57) (by kernel_rfl) (by kernel_rfl) (by kernel_rfl) (by kernel_rfl) (by kernel_rfl) (Eq.mp (by kernel_rfl) g)
def S58 (a0 a1 : Value) (h : GH) (K : Value → GH → Prop) : Prop :=
 bnd (lnV a0) fun v1 =>
 Lfp (fun (s2 : Nat → Value) h3 again4 =>
 bnd (binV .lss (s2 3) (s2 2)) fun v5 =>
 ifV v5 (
 bnd (isV 1 (s2 0) (s2 3)) fun v6 =>
 bnd (ldV 1 false v6 h3) fun v7 =>
 callV Tryz.prog (s2 1) [v7] h3 fun v8 h9 =>
 ifV v8 (
 K (s2 3) h9) (
 bnd (binV .add (s2 3) (.int .i64 1)) fun v10 =>
 again4 (tup [(s2 0), (s2 1), (s2 2), v10]) h9)) (
 K (.int .i64 (-1)) h3)) (tup [a0, a1, v1, (.int .i64 0)]) h
def A58 : Ann := ⟨fun _ => ([], []), fun | 0 => [0, 1, 7, 8] | _ => []⟩
theorem S58_T {a0 a1 : Value} {h : GH} {K : Value → GH → Prop} (g : S58 a0 a1 h K) : T Tryz.prog 58 [a0, a1] h K :=
  T_of_gwp (A := A58) Tryz.func58 (c := bodyOf Tryz.f58) (by kernel_rfl) (by kernel_rfl) (by kernel_rfl) (by kernel_rfl) (by kernel_rfl) (Eq.mp (by kernel_rfl) g)
def S59 (a0 a1 : Value) (h : GH) (K : Value → GH → Prop) : Prop :=
 T Tryz.prog 89 [a0, a1] h fun v1 h2 =>
 K v1 h2
def A59 : Ann := ⟨fun _ => ([], []), fun _ => []⟩
theorem S59_T {a0 a1 : Value} {h : GH} {K : Value → GH → Prop} (g : S59 a0 a1 h K) : T Tryz.prog 59 [a0, a1] h K :=
  T_of_gwp (A := A59) Tryz.func59 (c := bodyOf Tryz.f59) (by kernel_rfl) (by kernel_rfl) (by kernel_rfl) (by kernel_rfl) (by kernel_rfl) (Eq.mp (by kernel_rfl) g)
def S60_j1 (x0 x1 x4 : Value) (h : GH) (K : Value → GH → Prop)  : Prop :=
 bnd (ncV x0) fun v1 =>
 bnd (faV 4 v1) fun v2 =>
 bnd (ldV 1 false v2 h) fun v3 =>
 bnd (ncV x0) fun v4 =>
 bnd (faV 4 v4) fun v5 =>
 bnd (ldV 1 false v5 h) fun v6 =>
 bnd (isV 1 v6 x4) fun v7 =>
 bnd (ldV 1 false v7 h) fun v8 =>
 bnd (binV .mul (.int .i64 10) v8) fun v9 =>
 bnd (binV .add v9 x1) fun v10 =>
 bnd (isV 1 v3 x4) fun v11 =>
 bnd (stV 1 v11 v10 h) fun h12 =>
 bnd (ncV x0) fun v13 =>
 bnd (faV 5 v13) fun v14 =>
 bnd (ldV 1 false v14 h12) fun v15 =>
 bnd (binV .add v15 (.int .i64 1)) fun v16 =>
 bnd (ncV x0) fun v17 =>
 bnd (faV 5 v17) fun v18 =>
 bnd (stV 1 v18 v16 h12) fun h19 =>
 K (.tuple #[]) h19
def S60 (a0 a1 : Value) (h : GH) (K : Value → GH → Prop) : Prop :=
 bnd (ncV a0) fun v1 =>
 bnd (faV 4 v1) fun v2 =>
 bnd (ldV 1 false v2 h) fun v3 =>
 bnd (lnV v3) fun v4 =>
 bnd (binV .sub v4 (.int .i64 1)) fun v5 =>
 bnd (binV .lss v5 (.int .i64 0)) fun v6 =>
 ifV v6 (
 bnd (ncV a0) fun v7 =>
 bnd (faV 6 v7) fun v8 =>
 bnd (stV 1 v8 (.bool true) h) fun h9 =>
 K (.tuple #[]) h9) (
 bnd (ncV a0) fun v10 =>
 bnd (faV 5 v10) fun v11 =>
 bnd (ldV 1 false v11 h) fun v12 =>
 bnd (binV .geq v12 (.int .i64 8)) fun v13 =>
 ifV v13 (
 bnd (ncV a0) fun v14 =>
 bnd (faV 6 v14) fun v15 =>
 bnd (stV 1 v15 (.bool true) h) fun h16 =>
 K (.tuple #[]) h16) (
 S60_j1 a0 a1 v5 h K ))
def A60 : Ann := ⟨fun | 3 => ([0, 1, 2, 3, 4, 5, 6, 7, 8, 9, 10, 11, 12, 13, 14, 15, 16], [0, 1, 3, 7, 0, 0, 32, 96, 224, 0, 992, 2016, 4064, 0, 16352, 32767, 65535]) | _ => ([], []), fun _ => []⟩
theorem S60_T {a0 a1 : Value} {h : GH} {K : Value → GH → Prop} (g : S60 a0 a1 h K) : T Tryz.prog 60 [a0, a1] h K :=
  T_of_gwp (A := A60) Tryz.func60 (c := bodyOf Tryz.f60) (by kernel_rfl) (by kernel_rfl) (by kernel_rfl) (by kernel_rfl) (by kernel_rfl) (Eq.mp (by kernel_rfl) g)
def S61_j2 (x0 x1 x7 : Value) (h : GH) (K : Value → GH → Prop)  : Prop :=
 bnd (ncV x7) fun v1 =>
 bnd (ldV 1 false v1 h) fun v2 =>
 bnd (ncV x7) fun v3 =>
 bnd (ldV 1 false v3 h) fun v4 =>
 bnd (lnV v4) fun v5 =>
 bnd (binV .sub v5 (.int .i64 1)) fun v6 =>
 bnd (isV 1 v2 v6) fun v7 =>
 bnd (ncV v7) fun v8 =>
 bnd (faV 0 v8) fun v9 =>
 bnd (ldV 1 false v9 h) fun v10 =>
 bnd (fillV [(.int .i64 0), (.int .i64 0), (.int .i64 0), (.int .i64 0)] [(0, 1, x1)]) fun c11 =>
 bsV 126 1 [(.int .i64 0), (.int .i64 0), (.int .i64 0), (.int .i64 0)] [(0, 4, (.agg c11.toArray))] h fun v12 h13 =>
 apV 126 4 32 v10 v12 h13 fun v14 h15 =>
 bnd (ncV v7) fun v16 =>
 bnd (faV 0 v16) fun v17 =>
 bnd (stV 1 v17 v14 h15) fun h18 =>
 bnd (ncV v7) fun v19 =>
 bnd (faV 0 v19) fun v20 =>
 bnd (ldV 1 false v20 h18) fun v21 =>
 bnd (ncV v7) fun v22 =>
 bnd (faV 0 v22) fun v23 =>
 bnd (ldV 1 false v23 h18) fun v24 =>
 bnd (lnV v24) fun v25 =>
 bnd (binV .sub v25 (.int .i64 1)) fun v26 =>
 bnd (isV 4 v21 v26) fun v27 =>
 bnd (ncV x0) fun v28 =>
 bnd (faV 3 v28) fun v29 =>
 bnd (stV 1 v29 v27 h18) fun h30 =>
 bnd (ncV x0) fun v31 =>
 bnd (faV 3 v31) fun v32 =>
 bnd (ldV 1 false v32 h30) fun v33 =>
 T Tryz.prog 62 [v33] h30 fun v34 h35 =>
 bnd (lnV v34) fun v36 =>
 bnd (binV .gtr v36 (.int .i64 0)) fun v37 =>
 ifV v37 (
 bsV 3 1 [(.int .i64 0)] [(0, 1, (.int .i64 0))] h35 fun v38 h39 =>
 bnd (ncV x0) fun v40 =>
 bnd (faV 4 v40) fun v41 =>
 bnd (stV 1 v41 v38 h39) fun h42 =>
 K (.tuple #[]) h42) (
 K (.tuple #[]) h35)
def S61_j1 (x0 x1 x2 x6 : Value) (h : GH) (K : Value → GH → Prop)  : Prop :=
 bnd (ncV x0) fun v1 =>
 bnd (faV 0 v1) fun v2 =>
 bnd (faV 0 v2) fun v3 =>
 bnd (ldV 1 false v3 h) fun v4 =>
 bnd (isV 1 v4 x6) fun v5 =>
 ifV x2 (
 bnd (ncV v5) fun v6 =>
 bnd (ldV 1 false v6 h) fun v7 =>
 bnd (fillV [(.slice none 0 0)] []) fun c8 =>
 bsV 69 1 [(.slice none 0 0)] [(0, 1, (.agg c8.toArray))] h fun v9 h10 =>
 apV 69 1 24 v7 v9 h10 fun v11 h12 =>
 bnd (ncV v5) fun v13 =>
 bnd (stV 1 v13 v11 h12) fun h14 =>
 S61_j2 x0 x1 v5 h14 K ) (
 S61_j2 x0 x1 v5 h K )
def S61 (a0 a1 a2 : Value) (h : GH) (K : Value → GH → Prop) : Prop :=
 bnd (ncV a0) fun v1 =>
 bnd (faV 0 v1) fun v2 =>
 bnd (faV 0 v2) fun v3 =>
 bnd (ldV 1 false v3 h) fun v4 =>
 bnd (lnV v4) fun v5 =>
 bnd (binV .sub v5 (.int .i64 1)) fun v6 =>
 bnd (binV .lss v6 (.int .i64 0)) fun v7 =>
 ifV v7 (
 bnd (ncV a0) fun v8 =>
 bnd (faV 6 v8) fun v9 =>
 bnd (stV 1 v9 (.bool true) h) fun h10 =>
 K (.tuple #[]) h10) (
 bnd (unV .not a2) fun v11 =>
 ifV v11 (
 bnd (ncV a0) fun v12 =>
 bnd (faV 0 v12) fun v13 =>
 bnd (faV 0 v13) fun v14 =>
 bnd (ldV 1 false v14 h) fun v15 =>
 bnd (isV 1 v15 v6) fun v16 =>
 bnd (ldV 1 false v16 h) fun v17 =>
 bnd (lnV v17) fun v18 =>
 bnd (eqI v18 (.int .i64 0)) fun b19 =>
 ifV (.bool b19) (
 bnd (ncV a0) fun v20 =>
 bnd (faV 6 v20) fun v21 =>
 bnd (stV 1 v21 (.bool true) h) fun h22 =>
 K (.tuple #[]) h22) (
 S61_j1 a0 a1 a2 v6 h K )) (
 S61_j1 a0 a1 a2 v6 h K ))
def A61 : Ann := ⟨fun | 6 => ([0, 1, 2, 3, 4, 5, 6, 7, 8, 9], [0, 1, 3, 0, 8, 24, 56, 120, 255, 511]) | 8 => ([0, 1, 2, 3, 4, 5, 6, 7, 8, 9, 10, 11, 12, 13, 14], [0, 0, 2, 6, 14, 0, 32, 96, 224, 480, 992, 2046, 4095, 8191, 16383]) | _ => ([], []), fun _ => []⟩
theorem S61_T {a0 a1 a2 : Value} {h : GH} {K : Value → GH → Prop} (g : S61 a0 a1 a2 h K) : T Tryz.prog 61 [a0, a1, a2] h K :=
  T_of_gwp (A := A61) Tryz.func61 (c := bodyOf Tryz.f61) (by kernel_rfl) (by kernel_rfl) (by kernel_rfl) (by kernel_rfl) (by kernel_rfl) (Eq.mp (by kernel_rfl) g)
def S62_j2 (x0 x6 x19 : Value) (h : GH) (K : Value → GH → Prop)  : Prop :=
 ifV x19 (
 bnd (ncV x0) fun v1 =>
 bnd (faV 1 v1) fun v2 =>
 bsV 146 1 [(.pointer none)] [(0, 1, v2)] h fun v3 h4 =>
 K v3 h4) (
 bnd (eqI x6 (.int .i64 4)) fun b5 =>
 ifV (.bool b5) (
 bnd (ncV x0) fun v6 =>
 bnd (faV 1 v6) fun v7 =>
 bnd (ncV x0) fun v8 =>
 bnd (faV 2 v8) fun v9 =>
 bnd (ncV x0) fun v10 =>
 bnd (faV 3 v10) fun v11 =>
 bsV 146 3 [(.pointer none), (.pointer none), (.pointer none)] [(0, 1, v7), (1, 1, v9), (2, 1, v11)] h fun v12 h13 =>
 K v12 h13) (
 bnd (eqI x6 (.int .i64 10)) fun b14 =>
 ifV (.bool b14) (
 bnd (ncV x0) fun v15 =>
 bnd (faV 1 v15) fun v16 =>
 bnd (ncV x0) fun v17 =>
 bnd (faV 2 v17) fun v18 =>
 bsV 146 2 [(.pointer none), (.pointer none)] [(0, 1, v16), (1, 1, v18)] h fun v19 h20 =>
 K v19 h20) (
 K (.slice none 0 0) h)))
def S62_j1 (x0 x6 x7 : Value) (h : GH) (K : Value → GH → Prop)  : Prop :=
 ifV x7 (
 bnd (ncV x0) fun v1 =>
 bnd (faV 1 v1) fun v2 =>
 bnd (ncV x0) fun v3 =>
 bnd (faV 3 v3) fun v4 =>
 bsV 146 2 [(.pointer none), (.pointer none)] [(0, 1, v2), (1, 1, v4)] h fun v5 h6 =>
 K v5 h6) (
 bnd (eqI x6 (.int .i64 1)) fun b7 =>
 ifV (.bool b7) (
 S62_j2 x0 x6 (.bool true) h K ) (
 bnd (eqI x6 (.int .i64 7)) fun b8 =>
 ifV (.bool b8) (
 S62_j2 x0 x6 (.bool true) h K ) (
 bnd (eqI x6 (.int .i64 8)) fun b9 =>
 S62_j2 x0 x6 (.bool b9) h K )))
def S62 (a0 : Value) (h : GH) (K : Value → GH → Prop) : Prop :=
 bnd (ncV a0) fun v1 =>
 bnd (faV 0 v1) fun v2 =>
 bnd (ldV 1 false v2 h) fun v3 =>
 bnd (eqI v3 (.int .i64 0)) fun b4 =>
 ifV (.bool b4) (
 S62_j1 a0 v3 (.bool true) h K ) (
 bnd (eqI v3 (.int .i64 2)) fun b5 =>
 ifV (.bool b5) (
 S62_j1 a0 v3 (.bool true) h K ) (
 bnd (eqI v3 (.int .i64 3)) fun b6 =>
 ifV (.bool b6) (
 S62_j1 a0 v3 (.bool true) h K ) (
 bnd (eqI v3 (.int .i64 6)) fun b7 =>
 S62_j1 a0 v3 (.bool b7) h K )))
def A62 : Ann := ⟨fun | 6 => ([0, 1, 2, 3, 4, 5, 6, 7], [0, 1, 3, 0, 8, 24, 63, 127]) | 12 => ([0, 1, 2, 3, 4, 5, 6, 7, 8, 9, 10], [0, 1, 3, 0, 8, 24, 0, 64, 192, 511, 1023]) | 14 => ([0, 1, 2, 3, 4, 5, 6, 7], [0, 1, 3, 0, 8, 24, 63, 127]) | _ => ([], []), fun _ => []⟩
theorem S62_T {a0 : Value} {h : GH} {K : Value → GH → Prop} (g : S62 a0 h K) : T Tryz.prog 62 [a0] h K :=
  T_of_gwp (A := A62) Tryz.func62 (c := bodyOf Tryz.f62) (by kernel_rfl) (by kernel_rfl) (by kernel_rfl) (by kernel_rfl) (by kernel_rfl) (Eq.mp (by kernel_rfl) g)
def S63 (a0 a1 : Value) (h : GH) (K : Value → GH → Prop) : Prop :=
 T Tryz.prog 90 [a0] h fun v1 h2 =>
 bnd (ncV a0) fun v3 =>
 bnd (faV 1 v3) fun v4 =>
 bnd (ldV 1 false v4 h2) fun v5 =>
 bnd (lnV v5) fun v6 =>
 bnd (ncV a0) fun v7 =>
 bnd (faV 1 v7) fun v8 =>
 bnd (ldV 1 false v8 h2) fun v9 =>
 T Tryz.prog 91 [v9, a1] h2 fun v10 h11 =>
 bnd (ncV a0) fun v12 =>
 bnd (faV 1 v12) fun v13 =>
 bnd (stV 1 v13 v10 h11) fun h14 =>
 bnd (ncV a0) fun v15 =>
 bnd (faV 1 v15) fun v16 =>
 bnd (ldV 1 false v16 h14) fun v17 =>
 bnd (lnV v17) fun v18 =>
 bnd (binV .sub v18 v6) fun v19 =>
 K (.tuple #[v19, .nilIface]) h14
def A63 : Ann := ⟨fun _ => ([], []), fun _ => []⟩
theorem S63_T {a0 a1 : Value} {h : GH} {K : Value → GH → Prop} (g : S63 a0 a1 h K) : T Tryz.prog 63 [a0, a1] h K :=
  T_of_gwp (A := A63) Tryz.func63 (c := bodyOf Tryz.f63) (by kernel_rfl) (by kernel_rfl) (by kernel_rfl) (by kernel_rfl) (by kernel_rfl) (Eq.mp (by kernel_rfl) g)
def S64 (a0 a1 : Value) (h : GH) (K : Value → GH → Prop) : Prop :=
 T Tryz.prog 90 [a0] h fun v1 h2 =>
 bnd (ncV a0) fun v3 =>
 bnd (faV 1 v3) fun v4 =>
 bnd (ldV 1 false v4 h2) fun v5 =>
 apS 5 1 v5 a1 h2 fun v6 h7 =>
 bnd (ncV a0) fun v8 =>
 bnd (faV 1 v8) fun v9 =>
 bnd (stV 1 v9 v6 h7) fun h10 =>
 bnd (lsV a1) fun v11 =>
 K (.tuple #[v11, .nilIface]) h10
def A64 : Ann := ⟨fun _ => ([], []), fun _ => []⟩
theorem S64_T {a0 a1 : Value} {h : GH} {K : Value → GH → Prop} (g : S64 a0 a1 h K) : T Tryz.prog 64 [a0, a1] h K :=
  T_of_gwp (A := A64) Tryz.func64 (c := bodyOf Tryz.f64) (by kernel_rfl) (by kernel_rfl) (by kernel_rfl) (by kernel_rfl) (by kernel_rfl) (Eq.mp (by kernel_rfl) g)
def S65 (a0 : Value) (h : GH) (K : Value → GH → Prop) : Prop :=
 T Tryz.prog 92 [a0] h fun v1 h2 =>
 K v1 h2
def A65 : Ann := ⟨fun _ => ([], []), fun _ => []⟩
theorem S65_T {a0 : Value} {h : GH} {K : Value → GH → Prop} (g : S65 a0 h K) : T Tryz.prog 65 [a0] h K :=
  T_of_gwp (A := A65) Tryz.func65 (c := bodyOf Tryz.f65) (by kernel_rfl) (by kernel_rfl) (by kernel_rfl) (by kernel_rfl) (by kernel_rfl) (Eq.mp (by kernel_rfl) g)
def S66 (a0 a1 : Value) (h : GH) (K : Value → GH → Prop) : Prop :=
 newV 126 (a1 : Value).cells.toList h fun v1 h2 =>
 bnd (faV 0 v1) fun v3 =>
 bnd (ldV 1 false v3 h2) fun v4 =>
 bnd (xsV (.string ⟨#[111, 99, 100, 119, 116, 115, 105, 101, 102, 109, 114]⟩) v4) fun v5 =>
 T Tryz.prog 93 [a0, v5] h2 fun v6 h7 =>
 T Tryz.prog 62 [v1] h7 fun v8 h9 =>
 bnd (lnV v8) fun v10 =>
 Lfp (fun (s11 : Nat → Value) h12 again13 =>
 bnd (binV .lss (s11 3) (s11 2)) fun v14 =>
 ifV v14 (
 bnd (isV 1 (s11 1) (s11 3)) fun v15 =>
 bnd (ldV 1 false v15 h12) fun v16 =>
 bnd (binV .gtr (s11 3) (.int .i64 0)) fun v17 =>
 ifV v17 (
 T Tryz.prog 63 [(s11 0), (.int .i32 44)] h12 fun v18 h19 =>
 bnd (ncV v16) fun v20 =>
 bnd (ldV 1 false v20 h19) fun v21 =>
 T Tryz.prog 65 [v21] h19 fun v22 h23 =>
 T Tryz.prog 64 [(s11 0), v22] h23 fun v24 h25 =>
 bnd (binV .add (s11 3) (.int .i64 1)) fun v26 =>
 again13 (tup [(s11 0), (s11 1), (s11 2), v26]) h25) (
 bnd (ncV v16) fun v27 =>
 bnd (ldV 1 false v27 h12) fun v28 =>
 T Tryz.prog 65 [v28] h12 fun v29 h30 =>
 T Tryz.prog 64 [(s11 0), v29] h30 fun v31 h32 =>
 bnd (binV .add (s11 3) (.int .i64 1)) fun v33 =>
 again13 (tup [(s11 0), (s11 1), (s11 2), v33]) h32)) (
 K (.tuple #[]) h12)) (tup [a0, v8, v10, (.int .i64 0)]) h9
def A66 : Ann := ⟨fun _ => ([], []), fun | 0 => [0, 11, 12, 13] | _ => []⟩
theorem S66_T {a0 a1 : Value} {h : GH} {K : Value → GH → Prop} (g : S66 a0 a1 h K) : T Tryz.prog 66 [a0, a1] h K :=
  T_of_gwp (A := A66) Tryz.func66 (c := bodyOf Tryz.f66) (by kernel_rfl) (by kernel_rfl) (by kernel_rfl) (by kernel_rfl) (by kernel_rfl) (Eq.mp (by kernel_rfl) g)
def S67 (a0 : Value) (h : GH) (K : Value → GH → Prop) : Prop :=
 bnd (ncV a0) fun v1 =>
 bnd (faV 1 v1) fun v2 =>
 bnd (ldV 1 false v2 h) fun v3 =>
 bnd (ncV a0) fun v4 =>
 bnd (faV 1 v4) fun v5 =>
 bnd (ldV 1 false v5 h) fun v6 =>
 bnd (lnV v6) fun v7 =>
 bnd (usdV v3) fun v8 =>
 ldV 1 false v5 h = some v6 ∧
 bnd (usV Tryz.prog 186 v8 v7 h) fun r9 =>
 K r9.1 r9.2
def A67 : Ann := ⟨fun | 1 => ([0, 1, 2, 3, 5, 6, 7, 8, 9, 4, 10, 11], [0, 1, 3, 7, 15, 0, 32, 96, 224, 480, 1023, 2047]) | _ => ([], []), fun _ => []⟩
theorem S67_T {a0 : Value} {h : GH} {K : Value → GH → Prop} (g : S67 a0 h K) : T Tryz.prog 67 [a0] h K :=
  T_of_gwp (A := A67) Tryz.func67 (c := bodyOf Tryz.f67) (by kernel_rfl) (by kernel_rfl) (by kernel_rfl) (by kernel_rfl) (by kernel_rfl) (Eq.mp (by kernel_rfl) g)
def S68 (a0 : Value) (h : GH) (K : Value → GH → Prop) : Prop :=
 newV 162 [(.int .i64 0), (.int .i64 0)] h fun v1 h2 =>
 T Tryz.prog 85 [a0] h2 fun v3 h4 =>
 bnd (exV v3 0) fun v5 =>
 bnd (exV v3 1) fun v6 =>
 bnd (binV .quo v5 (.int .i64 16)) fun v7 =>
 bnd (binV .rem v5 (.int .i64 16)) fun v8 =>
 bnd (fillV [(.int .i64 0), (.int .i64 0)] [(0, 1, v7), (1, 1, v8)]) fun c9 =>
 newV 162 [(.int .i64 0), (.int .i64 0)] h4 fun v10 h11 =>
 bnd (stV 2 v10 (.agg c9.toArray) h11) fun h12 =>
 bnd (ldV 2 true v10 h12) fun v13 =>
 ifV v6 (
 bnd (faV 1 v10) fun v14 =>
 bnd (ldV 1 false v14 h12) fun v15 =>
 bnd (binV .leq v15 (.int .i64 12)) fun v16 =>
 ifV v16 (
 bnd (faV 0 v10) fun v17 =>
 bnd (ldV 1 false v17 h12) fun v18 =>
 bnd (binV .leq v18 (.int .i64 1073741823)) fun v19 =>
 bnd (stV 2 v1 v13 h12) fun h20 =>
 ldV 1 false v17 h20 = some v18 ∧
 bnd (ldV 2 true v1 h20) fun v21 =>
 K (.tuple #[v21, v19]) h20) (
 bnd (stV 2 v1 v13 h12) fun h22 =>
 bnd (ldV 2 true v1 h22) fun v23 =>
 K (.tuple #[v23, (.bool false)]) h22)) (
 bnd (stV 2 v1 v13 h12) fun h24 =>
 bnd (ldV 2 true v1 h24) fun v25 =>
 K (.tuple #[v25, (.bool false)]) h24)
def A68 : Ann := ⟨fun | 3 => ([0, 1, 2, 3, 4, 5, 6, 7, 8, 9, 10, 11, 12, 13], [0, 0, 2, 6, 14, 30, 62, 126, 254, 510, 1022, 2046, 255, 8191]) | _ => ([], []), fun _ => []⟩
theorem S68_T {a0 : Value} {h : GH} {K : Value → GH → Prop} (g : S68 a0 h K) : T Tryz.prog 68 [a0] h K :=
  T_of_gwp (A := A68) Tryz.func68 (c := bodyOf Tryz.f68) (by kernel_rfl) (by kernel_rfl) (by kernel_rfl) (by kernel_rfl) (by kernel_rfl) (Eq.mp (by kernel_rfl) g)
def S69 (a0 : Value) (h : GH) (K : Value → GH → Prop) : Prop :=
 T Tryz.prog 85 [a0] h fun v1 h2 =>
 bnd (exV v1 0) fun v3 =>
 bnd (exV v1 1) fun v4 =>
 ifV v4 (
 bnd (binV .leq v3 (.int .i64 12)) fun v5 =>
 K (.tuple #[v3, v5]) h2) (
 K (.tuple #[v3, (.bool false)]) h2)
def A69 : Ann := ⟨fun _ => ([], []), fun _ => []⟩
theorem S69_T {a0 : Value} {h : GH} {K : Value → GH → Prop} (g : S69 a0 h K) : T Tryz.prog 69 [a0] h K :=
  T_of_gwp (A := A69) Tryz.func69 (c := bodyOf Tryz.f69) (by kernel_rfl) (by kernel_rfl) (by kernel_rfl) (by kernel_rfl) (by kernel_rfl) (Eq.mp (by kernel_rfl) g)
def S74 (a0 : Value) (h : GH) (K : Value → GH → Prop) : Prop :=
 bnd (eqK .slice true a0 (.slice none 0 0)) fun b1 =>
 ifV (.bool b1) (
 K (.slice none 0 0) h) (
 bsV 103 0 [] [] h fun v2 h3 =>
 apV 103 2 16 v2 a0 h3 fun v4 h5 =>
 K v4 h5)
def A74 : Ann := ⟨fun _ => ([], []), fun _ => []⟩
theorem S74_T {a0 : Value} {h : GH} {K : Value → GH → Prop} (g : S74 a0 h K) : T Tryz.prog 74 [a0] h K :=
  T_of_gwp (A := A74) Tryz.func74 (c := bodyOf Tryz.f74) (by kernel_rfl) (by kernel_rfl) (by kernel_rfl) (by kernel_rfl) (by kernel_rfl) (Eq.mp (by kernel_rfl) g)
def S77 (a0 : Value) (h : GH) (K : Value → GH → Prop) : Prop :=
 bnd (binV .geq a0 (.int .i64 0)) fun v1 =>
 ifV v1 (
 bnd (binV .leq a0 (.int .i64 5)) fun v2 =>
 K v2 h) (
 K (.bool false) h)
def A77 : Ann := ⟨fun _ => ([], []), fun _ => []⟩
theorem S77_T {a0 : Value} {h : GH} {K : Value → GH → Prop} (g : S77 a0 h K) : T Tryz.prog 77 [a0] h K :=
  T_of_gwp (A := A77) Tryz.func77 (c := bodyOf Tryz.f77) (by kernel_rfl) (by kernel_rfl) (by kernel_rfl) (by kernel_rfl) (by kernel_rfl) (Eq.mp (by kernel_rfl) g)
def S79 (a0 : Value) (h : GH) (K : Value → GH → Prop) : Prop :=
 bnd (eqK .slice true a0 (.slice none 0 0)) fun b1 =>
 ifV (.bool b1) (
 K (.slice none 0 0) h) (
 bsV 80 0 [] [] h fun v2 h3 =>
 apV 80 8 80 v2 a0 h3 fun v4 h5 =>
 K v4 h5)
def A79 : Ann := ⟨fun _ => ([], []), fun _ => []⟩
theorem S79_T {a0 : Value} {h : GH} {K : Value → GH → Prop} (g : S79 a0 h K) : T Tryz.prog 79 [a0] h K :=
  T_of_gwp (A := A79) Tryz.func79 (c := bodyOf Tryz.f79) (by kernel_rfl) (by kernel_rfl) (by kernel_rfl) (by kernel_rfl) (by kernel_rfl) (Eq.mp (by kernel_rfl) g)
def S80 (a0 a1 : Value) (h : GH) (K : Value → GH → Prop) : Prop :=
 bnd (binV .sub a0 (.int .i64 (-1))) fun v1 =>
 bnd (binV .mul (.int .i64 2) v1) fun v2 =>
 bnd (binV .add (.int .i64 4) v2) fun v3 =>
 bnd (binV .add v3 a1) fun v4 =>
 K v4 h
def A80 : Ann := ⟨fun _ => ([], []), fun _ => []⟩
theorem S80_T {a0 a1 : Value} {h : GH} {K : Value → GH → Prop} (g : S80 a0 a1 h K) : T Tryz.prog 80 [a0, a1] h K :=
  T_of_gwp (A := A80) Tryz.func80 (c := bodyOf Tryz.f80) (by kernel_rfl) (by kernel_rfl) (by kernel_rfl) (by kernel_rfl) (by kernel_rfl) (Eq.mp (by kernel_rfl) g)
def S81 (a0 : Value) (h : GH) (K : Value → GH → Prop) : Prop :=
 T Tryz.prog 100 [a0] h fun v1 h2 =>
 K v1 h2
def A81 : Ann := ⟨fun _ => ([], []), fun _ => []⟩
theorem S81_T {a0 : Value} {h : GH} {K : Value → GH → Prop} (g : S81 a0 h K) : T Tryz.prog 81 [a0] h K :=
  T_of_gwp (A := A81) Tryz.func81 (c := bodyOf Tryz.f81) (by kernel_rfl) (by kernel_rfl) (by kernel_rfl) (by kernel_rfl) (by kernel_rfl) (Eq.mp (by kernel_rfl) g)
def S82 (a0 : Value) (h : GH) (K : Value → GH → Prop) : Prop :=
 bnd (eqK .slice true a0 (.slice none 0 0)) fun b1 =>
 ifV (.bool b1) (
 K (.slice none 0 0) h) (
 bsV 126 0 [] [] h fun v2 h3 =>
 apV 126 4 32 v2 a0 h3 fun v4 h5 =>
 K v4 h5)
def A82 : Ann := ⟨fun _ => ([], []), fun _ => []⟩
theorem S82_T {a0 : Value} {h : GH} {K : Value → GH → Prop} (g : S82 a0 h K) : T Tryz.prog 82 [a0] h K :=
  T_of_gwp (A := A82) Tryz.func82 (c := bodyOf Tryz.f82) (by kernel_rfl) (by kernel_rfl) (by kernel_rfl) (by kernel_rfl) (by kernel_rfl) (Eq.mp (by kernel_rfl) g)
def S83 (a0 : Value) (h : GH) (K : Value → GH → Prop) : Prop :=
 T Tryz.prog 101 [a0] h fun v1 h2 =>
 bnd (unV .not v1) fun v3 =>
 ifV v3 (
 K (.tuple #[(.pointer none), (.int .i64 1100)]) h2) (
 bnd (fillV [(.int .i64 0), (.int .i64 0), (.bool false), (.bool false), (.bool false)] [(0, 1, a0)]) fun c4 =>
 newV 195 ((.agg c4.toArray) : Value).cells.toList h2 fun v5 h6 =>
 K (.tuple #[v5, (.int .i64 0)]) h6)
def A83 : Ann := ⟨fun _ => ([], []), fun _ => []⟩
theorem S83_T {a0 : Value} {h : GH} {K : Value → GH → Prop} (g : S83 a0 h K) : T Tryz.prog 83 [a0] h K :=
  T_of_gwp (A := A83) Tryz.func83 (c := bodyOf Tryz.f83) (by kernel_rfl) (by kernel_rfl) (by kernel_rfl) (by kernel_rfl) (by kernel_rfl) (Eq.mp (by kernel_rfl) g)
def S84_j1 (x3 x5 x26 : Value) (h : GH) (K : Value → GH → Prop)  : Prop :=
 ifV x26 (
 bnd (ncV x3) fun v1 =>
 bnd (faV 12 v1) fun v2 =>
 bnd (ldV 1 false v2 h) fun v3 =>
 bnd (ncV x3) fun v4 =>
 bnd (faV 15 v4) fun v5 =>
 bnd (ldV 1 false v5 h) fun v6 =>
 T Tryz.prog 104 [v6] h fun v7 h8 =>
 ldV 1 false v2 h8 = some v3 ∧
 T Tryz.prog 103 [v3, v7] h8 fun v9 h10 =>
 bnd (exV v9 0) fun v11 =>
 bnd (exV v9 1) fun v12 =>
 bnd (exV v9 2) fun v13 =>
 bnd (ncV x3) fun v14 =>
 bnd (faV 13 v14) fun v15 =>
 bnd (stV 1 v15 v11 h10) fun h16 =>
 bnd (ncV x3) fun v17 =>
 bnd (faV 12 v17) fun v18 =>
 bnd (stV 1 v18 v12 h16) fun h19 =>
 bnd (ncV x3) fun v20 =>
 bnd (faV 6 v20) fun v21 =>
 bnd (stV 1 v21 (.func (.func 105) #[] #[]) h19) fun h22 =>
 K v13 h22) (
 K x5 h)
def S84 (a0 : Value) (h : GH) (K : Value → GH → Prop) : Prop :=
 bnd (ncV a0) fun v1 =>
 bnd (faV 0 v1) fun v2 =>
 bnd (ldV 1 false v2 h) fun v3 =>
 bnd (ncV v3) fun v4 =>
 bnd (faV 15 v4) fun v5 =>
 bnd (ldV 1 false v5 h) fun v6 =>
 bnd (ncV a0) fun v7 =>
 bnd (faV 1 v7) fun v8 =>
 bnd (ldV 1 false v8 h) fun v9 =>
 T Tryz.prog 102 [v6, v9] h fun v10 h11 =>
 bnd (exV v10 0) fun v12 =>
 bnd (exV v10 1) fun v13 =>
 ifV v12 (
 bnd (eqI v13 (.int .i64 0)) fun b14 =>
 S84_j1 v3 v13 (.bool b14) h11 K ) (
 S84_j1 v3 v13 (.bool false) h11 K )
def A84 : Ann := ⟨fun | 2 => ([0, 1, 2, 3, 4, 5, 6, 7, 8, 9, 10, 11, 12, 13], [0, 1, 3, 7, 0, 16, 48, 112, 255, 511, 1023, 1023, 2047, 8191]) | 4 => ([0, 1, 2, 3, 4, 5, 6, 7, 8, 9, 10, 11, 12, 13, 14, 15, 16, 17, 18, 19, 20, 21, 22], [0, 0, 0, 4, 12, 28, 0, 64, 192, 448, 960, 2044, 4092, 8188, 8188, 8188, 16381, 81917, 212989, 491519, 1015807, 2064383, 4194303]) | _ => ([], []), fun _ => []⟩
theorem S84_T {a0 : Value} {h : GH} {K : Value → GH → Prop} (g : S84 a0 h K) : T Tryz.prog 84 [a0] h K :=
  T_of_gwp (A := A84) Tryz.func84 (c := bodyOf Tryz.f84) (by kernel_rfl) (by kernel_rfl) (by kernel_rfl) (by kernel_rfl) (by kernel_rfl) (Eq.mp (by kernel_rfl) g)
def S85 (a0 : Value) (h : GH) (K : Value → GH → Prop) : Prop :=
 T Tryz.prog 106 [a0] h fun v1 h2 =>
 bnd (taV 192 (.int .i64 0) true v1) fun v3 =>
 bnd (exV v3 0) fun v4 =>
 bnd (exV v3 1) fun v5 =>
 K (.tuple #[v4, v5]) h2
def A85 : Ann := ⟨fun _ => ([], []), fun _ => []⟩
theorem S85_T {a0 : Value} {h : GH} {K : Value → GH → Prop} (g : S85 a0 h K) : T Tryz.prog 85 [a0] h K :=
  T_of_gwp (A := A85) Tryz.func85 (c := bodyOf Tryz.f85) (by kernel_rfl) (by kernel_rfl) (by kernel_rfl) (by kernel_rfl) (by kernel_rfl) (Eq.mp (by kernel_rfl) g)
def S86 (a0 : Value) (h : GH) (K : Value → GH → Prop) : Prop :=
 bnd (binV .mul a0 (.int .i64 50)) fun v1 =>
 bnd (binV .add (.int .i64 34) v1) fun v2 =>
 K v2 h
def A86 : Ann := ⟨fun _ => ([], []), fun _ => []⟩
theorem S86_T {a0 : Value} {h : GH} {K : Value → GH → Prop} (g : S86 a0 h K) : T Tryz.prog 86 [a0] h K :=
  T_of_gwp (A := A86) Tryz.func86 (c := bodyOf Tryz.f86) (by kernel_rfl) (by kernel_rfl) (by kernel_rfl) (by kernel_rfl) (by kernel_rfl) (Eq.mp (by kernel_rfl) g)
def S87 (a0 a1 : Value) (h : GH) (K : Value → GH → Prop) : Prop :=
 bnd (binV .mul a0 (.int .i64 4)) fun v1 =>
 bnd (binV .add v1 a1) fun v2 =>
 T Tryz.prog 81 [v2] h fun v3 h4 =>
 K v3 h4
def A87 : Ann := ⟨fun _ => ([], []), fun _ => []⟩
theorem S87_T {a0 a1 : Value} {h : GH} {K : Value → GH → Prop} (g : S87 a0 a1 h K) : T Tryz.prog 87 [a0, a1] h K :=
  T_of_gwp (A := A87) Tryz.func87 (c := bodyOf Tryz.f87) (by kernel_rfl) (by kernel_rfl) (by kernel_rfl) (by kernel_rfl) (by kernel_rfl) (Eq.mp (by kernel_rfl) g)
def S88 (a0 : Value) (h : GH) (K : Value → GH → Prop) : Prop :=
 bnd (ncV a0) fun v1 =>
 bnd (faV 5 v1) fun v2 =>
 bnd (ldV 1 false v2 h) fun v3 =>
 bnd (ncV a0) fun v4 =>
 bnd (faV 5 v4) fun v5 =>
 bnd (ldV 1 false v5 h) fun v6 =>
 bnd (lnV v6) fun v7 =>
 bnd (binV .sub v7 (.int .i64 1)) fun v8 =>
 bnd (isV 8 v3 v8) fun v9 =>
 K v9 h
def A88 : Ann := ⟨fun | 1 => ([0, 1, 2, 3, 4, 5, 6, 7, 8, 9, 10, 11], [0, 1, 3, 7, 0, 16, 48, 112, 240, 496, 1023, 2047]) | _ => ([], []), fun _ => []⟩
theorem S88_T {a0 : Value} {h : GH} {K : Value → GH → Prop} (g : S88 a0 h K) : T Tryz.prog 88 [a0] h K :=
  T_of_gwp (A := A88) Tryz.func88 (c := bodyOf Tryz.f88) (by kernel_rfl) (by kernel_rfl) (by kernel_rfl) (by kernel_rfl) (by kernel_rfl) (Eq.mp (by kernel_rfl) g)
def S89 (a0 a1 : Value) (h : GH) (K : Value → GH → Prop) : Prop :=
 xcV Tryz.prog 107 [a0, a1] h fun v1 h2 =>
 K v1 h2
def A89 : Ann := ⟨fun _ => ([], []), fun _ => []⟩
theorem S89_T {a0 a1 : Value} {h : GH} {K : Value → GH → Prop} (g : S89 a0 a1 h K) : T Tryz.prog 89 [a0, a1] h K :=
  T_of_gwp (A := A89) Tryz.func89 (c := bodyOf Tryz.f89) (by kernel_rfl) (by kernel_rfl) (by kernel_rfl) (by kernel_rfl) (by kernel_rfl) (Eq.mp (by kernel_rfl) g)
def S90 (a0 : Value) (h : GH) (K : Value → GH → Prop) : Prop :=
 bnd (ncV a0) fun v1 =>
 bnd (faV 0 v1) fun v2 =>
 bnd (ldV 1 false v2 h) fun v3 =>
 bnd (eqK .ptr true v3 (.pointer none)) fun b4 =>
 ifV (.bool b4) (
 bnd (cuV 2 a0 h) fun v5 =>
 xcV Tryz.prog 108 [v5] h fun v6 h7 =>
 bnd (ucV Tryz.prog 152 v6 h7) fun v8 =>
 bnd (ncV a0) fun v9 =>
 bnd (faV 0 v9) fun v10 =>
 bnd (stV 1 v10 v8 h7) fun h11 =>
 K (.tuple #[]) h11) (
 bnd (ncV a0) fun v12 =>
 bnd (faV 0 v12) fun v13 =>
 bnd (ldV 1 false v13 h) fun v14 =>
 bnd (eqA 2 v14 a0) fun b15 =>
 ifV (.bool (!b15)) (
 False) (
 K (.tuple #[]) h))
def A90 : Ann := ⟨fun _ => ([], []), fun _ => []⟩
theorem S90_T {a0 : Value} {h : GH} {K : Value → GH → Prop} (g : S90 a0 h K) : T Tryz.prog 90 [a0] h K :=
  T_of_gwp (A := A90) Tryz.func90 (c := bodyOf Tryz.f90) (by kernel_rfl) (by kernel_rfl) (by kernel_rfl) (by kernel_rfl) (by kernel_rfl) (Eq.mp (by kernel_rfl) g)
def S91 (a0 a1 : Value) (h : GH) (K : Value → GH → Prop) : Prop :=
 bnd (cvV .u32 a1) fun v1 =>
 bnd (binV .leq v1 (.int .u32 127)) fun v2 =>
 ifV v2 (
 bnd (cvV .u8 a1) fun v3 =>
 bsV 5 1 [(.int .u8 0)] [(0, 1, v3)] h fun v4 h5 =>
 apV 5 1 1 a0 v4 h5 fun v6 h7 =>
 K v6 h7) (
 T Tryz.prog 109 [a0, a1] h fun v8 h9 =>
 K v8 h9)
def A91 : Ann := ⟨fun _ => ([], []), fun _ => []⟩
theorem S91_T {a0 a1 : Value} {h : GH} {K : Value → GH → Prop} (g : S91 a0 a1 h K) : T Tryz.prog 91 [a0, a1] h K :=
  T_of_gwp (A := A91) Tryz.func91 (c := bodyOf Tryz.f91) (by kernel_rfl) (by kernel_rfl) (by kernel_rfl) (by kernel_rfl) (by kernel_rfl) (Eq.mp (by kernel_rfl) g)
def S92 (a0 : Value) (h : GH) (K : Value → GH → Prop) : Prop :=
 T Tryz.prog 110 [a0, (.int .i64 10)] h fun v1 h2 =>
 K v1 h2
def A92 : Ann := ⟨fun _ => ([], []), fun _ => []⟩
theorem S92_T {a0 : Value} {h : GH} {K : Value → GH → Prop} (g : S92 a0 h K) : T Tryz.prog 92 [a0] h K :=
  T_of_gwp (A := A92) Tryz.func92 (c := bodyOf Tryz.f92) (by kernel_rfl) (by kernel_rfl) (by kernel_rfl) (by kernel_rfl) (by kernel_rfl) (Eq.mp (by kernel_rfl) g)
def S93 (a0 a1 : Value) (h : GH) (K : Value → GH → Prop) : Prop :=
 T Tryz.prog 90 [a0] h fun v1 h2 =>
 bnd (ncV a0) fun v3 =>
 bnd (faV 1 v3) fun v4 =>
 bnd (ldV 1 false v4 h2) fun v5 =>
 bsV 5 1 [(.int .u8 0)] [(0, 1, a1)] h2 fun v6 h7 =>
 apV 5 1 1 v5 v6 h7 fun v8 h9 =>
 bnd (ncV a0) fun v10 =>
 bnd (faV 1 v10) fun v11 =>
 bnd (stV 1 v11 v8 h9) fun h12 =>
 K .nilIface h12
def A93 : Ann := ⟨fun _ => ([], []), fun _ => []⟩
theorem S93_T {a0 a1 : Value} {h : GH} {K : Value → GH → Prop} (g : S93 a0 a1 h K) : T Tryz.prog 93 [a0, a1] h K :=
  T_of_gwp (A := A93) Tryz.func93 (c := bodyOf Tryz.f93) (by kernel_rfl) (by kernel_rfl) (by kernel_rfl) (by kernel_rfl) (by kernel_rfl) (Eq.mp (by kernel_rfl) g)
def S100 (a0 : Value) (h : GH) (K : Value → GH → Prop) : Prop :=
 bnd (binV .mul a0 (.int .i64 4)) fun v1 =>
 bnd (binV .add v1 (.int .i64 0)) fun v2 =>
 K v2 h
def A100 : Ann := ⟨fun _ => ([], []), fun _ => []⟩
theorem S100_T {a0 : Value} {h : GH} {K : Value → GH → Prop} (g : S100 a0 h K) : T Tryz.prog 100 [a0] h K :=
  T_of_gwp (A := A100) Tryz.func100 (c := bodyOf Tryz.f100) (by kernel_rfl) (by kernel_rfl) (by kernel_rfl) (by kernel_rfl) (by kernel_rfl) (Eq.mp (by kernel_rfl) g)
def S101 (a0 : Value) (h : GH) (K : Value → GH → Prop) : Prop :=
 T Tryz.prog 23 [a0, (.int .i64 4)] h fun v1 h2 =>
 K v1 h2
def A101 : Ann := ⟨fun _ => ([], []), fun _ => []⟩
theorem S101_T {a0 : Value} {h : GH} {K : Value → GH → Prop} (g : S101 a0 h K) : T Tryz.prog 101 [a0] h K :=
  T_of_gwp (A := A101) Tryz.func101 (c := bodyOf Tryz.f101) (by kernel_rfl) (by kernel_rfl) (by kernel_rfl) (by kernel_rfl) (by kernel_rfl) (Eq.mp (by kernel_rfl) g)
def S102_j4 (x0 x6 : Value) (h : GH) (K : Value → GH → Prop)  : Prop :=
 bnd (ncV x0) fun v1 =>
 bnd (faV 1 v1) fun v2 =>
 bnd (stV 1 v2 x6 h) fun h3 =>
 bnd (ncV x0) fun v4 =>
 bnd (faV 3 v4) fun v5 =>
 bnd (stV 1 v5 (.bool true) h3) fun h6 =>
 bnd (ncV x0) fun v7 =>
 bnd (faV 2 v7) fun v8 =>
 bnd (stV 1 v8 (.bool false) h6) fun h9 =>
 bnd (ncV x0) fun v10 =>
 bnd (faV 4 v10) fun v11 =>
 bnd (ldV 1 false v11 h9) fun v12 =>
 K (.tuple #[v12, (.int .i64 0)]) h9
def S102_j3 (x0 x1 : Value) (h : GH) (K : Value → GH → Prop)  : Prop :=
 T Tryz.prog 113 [x1] h fun v1 h2 =>
 bnd (exV v1 0) fun v3 =>
 bnd (exV v1 1) fun v4 =>
 bnd (unV .not v4) fun v5 =>
 ifV v5 (
 bnd (ncV x0) fun v6 =>
 bnd (faV 4 v6) fun v7 =>
 bnd (stV 1 v7 (.bool true) h2) fun h8 =>
 K (.tuple #[(.bool true), (.int .i64 1100)]) h8) (
 bnd (ncV x0) fun v9 =>
 bnd (faV 2 v9) fun v10 =>
 bnd (ldV 1 false v10 h2) fun v11 =>
 ifV v11 (
 bnd (ncV x0) fun v12 =>
 bnd (faV 1 v12) fun v13 =>
 bnd (ldV 1 false v13 h2) fun v14 =>
 bnd (eqI v3 v14) fun b15 =>
 bnd (ncV x0) fun v16 =>
 bnd (faV 4 v16) fun v17 =>
 bnd (stV 1 v17 (.bool b15) h2) fun h18 =>
 S102_j4 x0 v3 h18 K ) (
 bnd (ncV x0) fun v19 =>
 bnd (faV 4 v19) fun v20 =>
 bnd (stV 1 v20 (.bool false) h2) fun h21 =>
 S102_j4 x0 v3 h21 K ))
def S102_j2 (x0 x1 x20 : Value) (h : GH) (K : Value → GH → Prop)  : Prop :=
 ifV x20 (
 bnd (ncV x0) fun v1 =>
 bnd (faV 0 v1) fun v2 =>
 bnd (ldV 1 false v2 h) fun v3 =>
 bnd (ncV x0) fun v4 =>
 bnd (faV 1 v4) fun v5 =>
 bnd (ldV 1 false v5 h) fun v6 =>
 bnd (binV .add v6 (.int .i64 1)) fun v7 =>
 T Tryz.prog 112 [x1, v3, v7] h fun v8 h9 =>
 bnd (ncV x0) fun v10 =>
 bnd (faV 2 v10) fun v11 =>
 bnd (stV 1 v11 (.bool true) h9) fun h12 =>
 K (.tuple #[(.bool false), (.int .i64 0)]) h12) (
 S102_j3 x0 x1 h K )
def S102_j1 (x0 x1 x8 : Value) (h : GH) (K : Value → GH → Prop)  : Prop :=
 ifV x8 (
 K (.tuple #[(.bool false), (.int .i64 1)]) h) (
 bnd (ncV x0) fun v1 =>
 bnd (faV 4 v1) fun v2 =>
 bnd (ldV 1 false v2 h) fun v3 =>
 ifV v3 (
 K (.tuple #[(.bool true), (.int .i64 0)]) h) (
 bnd (ncV x0) fun v4 =>
 bnd (faV 3 v4) fun v5 =>
 bnd (ldV 1 false v5 h) fun v6 =>
 ifV v6 (
 bnd (ncV x0) fun v7 =>
 bnd (faV 2 v7) fun v8 =>
 bnd (ldV 1 false v8 h) fun v9 =>
 bnd (unV .not v9) fun v10 =>
 S102_j2 x0 x1 v10 h K ) (
 S102_j2 x0 x1 (.bool false) h K )))
def S102 (a0 a1 : Value) (h : GH) (K : Value → GH → Prop) : Prop :=
 bnd (eqK .ptr true a0 (.pointer none)) fun b1 =>
 ifV (.bool b1) (
 S102_j1 a0 a1 (.bool true) h K ) (
 bnd (eqK .ptr true a1 (.pointer none)) fun b2 =>
 S102_j1 a0 a1 (.bool b2) h K )
def A102 : Ann := ⟨fun | 6 => ([0, 1, 2, 3, 4, 5, 6, 7, 8, 9, 10], [0, 0, 2, 6, 14, 0, 32, 96, 224, 480, 1023]) | _ => ([], []), fun _ => []⟩
theorem S102_T {a0 a1 : Value} {h : GH} {K : Value → GH → Prop} (g : S102 a0 a1 h K) : T Tryz.prog 102 [a0, a1] h K :=
  T_of_gwp (A := A102) Tryz.func102 (c := bodyOf Tryz.f102) (by kernel_rfl) (by kernel_rfl) (by kernel_rfl) (by kernel_rfl) (by kernel_rfl) (Eq.mp (by kernel_rfl) g)
def S103_j1 (x0 x1 : Value) (h : GH) (K : Value → GH → Prop)  : Prop :=
 bnd (lnV x0) fun v1 =>
 Lfp (fun (s2 : Nat → Value) h3 again4 =>
 bnd (binV .lss (s2 5) (s2 4)) fun v5 =>
 ifV v5 (
 bnd (isV 2 (s2 3) (s2 5)) fun v6 =>
 bnd (ldV 2 true v6 h3) fun v7 =>
 newV 211 [(.int .i64 0), (.int .i64 0)] h3 fun v8 h9 =>
 bnd (stV 2 v8 v7 h9) fun h10 =>
 bnd (faV 1 v8) fun v11 =>
 bnd (ldV 1 false v11 h10) fun v12 =>
 bnd (binV .sub (s2 0) v12) fun v13 =>
 bnd (binV .geq v13 (.int .i64 3)) fun v14 =>
 ifV v14 (
 bnd (faV 0 v8) fun v15 =>
 bnd (ldV 1 false v15 h10) fun v16 =>
 bsV 3 1 [(.int .i64 0)] [(0, 1, v16)] h10 fun v17 h18 =>
 apV 3 1 8 (s2 1) v17 h18 fun v19 h20 =>
 bnd (binV .add (s2 5) (.int .i64 1)) fun v21 =>
 again4 (tup [(s2 0), v19, (s2 2), (s2 3), (s2 4), v21]) h20) (
 bnd (ldV 2 true v8 h10) fun v22 =>
 bsV 211 1 [(.int .i64 0), (.int .i64 0)] [(0, 2, v22)] h10 fun v23 h24 =>
 apV 211 2 16 (s2 2) v23 h24 fun v25 h26 =>
 bnd (binV .add (s2 5) (.int .i64 1)) fun v27 =>
 again4 (tup [(s2 0), (s2 1), v25, (s2 3), (s2 4), v27]) h26)) (
 K (.tuple #[(s2 1), (s2 2), (.int .i64 0)]) h3)) (tup [x1, (.slice none 0 0), (.slice none 0 0), x0, v1, (.int .i64 0)]) h
def S103 (a0 a1 : Value) (h : GH) (K : Value → GH → Prop) : Prop :=
 T Tryz.prog 114 [a0, (.func (.func 115) #[] #[])] h fun v1 h2 =>
 ifV v1 (
 K (.tuple #[(.slice none 0 0), (.slice none 0 0), (.int .i64 1200)]) h2) (
 T Tryz.prog 116 [a1] h2 fun v3 h4 =>
 bnd (unV .not v3) fun v5 =>
 ifV v5 (
 K (.tuple #[(.slice none 0 0), (.slice none 0 0), (.int .i64 1200)]) h4) (
 S103_j1 a0 a1 h4 K ))
def A103 : Ann := ⟨fun _ => ([], []), fun | 0 => [1, 7, 8, 18, 19, 20] | _ => []⟩
theorem S103_T {a0 a1 : Value} {h : GH} {K : Value → GH → Prop} (g : S103 a0 a1 h K) : T Tryz.prog 103 [a0, a1] h K :=
  T_of_gwp (A := A103) Tryz.func103 (c := bodyOf Tryz.f103) (by kernel_rfl) (by kernel_rfl) (by kernel_rfl) (by kernel_rfl) (by kernel_rfl) (Eq.mp (by kernel_rfl) g)
def S104 (a0 : Value) (h : GH) (K : Value → GH → Prop) : Prop :=
 bnd (eqK .ptr true a0 (.pointer none)) fun b1 =>
 ifV (.bool b1) (
 K (.int .i64 0) h) (
 bnd (ncV a0) fun v2 =>
 bnd (faV 1 v2) fun v3 =>
 bnd (ldV 1 false v3 h) fun v4 =>
 K v4 h)
def A104 : Ann := ⟨fun _ => ([], []), fun _ => []⟩
theorem S104_T {a0 : Value} {h : GH} {K : Value → GH → Prop} (g : S104 a0 h K) : T Tryz.prog 104 [a0] h K :=
  T_of_gwp (A := A104) Tryz.func104 (c := bodyOf Tryz.f104) (by kernel_rfl) (by kernel_rfl) (by kernel_rfl) (by kernel_rfl) (by kernel_rfl) (Eq.mp (by kernel_rfl) g)
def S105_j1 (s4 : Nat → Value) (x0 x3 : Value) (h : GH) (K : Value → GH → Prop) (again6 : (Nat → Value) → GH → Prop) : Prop :=
 bnd (ncV x3) fun v1 =>
 bnd (faV 11 v1) fun v2 =>
 bnd (ldV 1 false v2 h) fun v3 =>
 bnd (ncV x3) fun v4 =>
 bnd (faV 13 v4) fun v5 =>
 bnd (ldV 1 false v5 h) fun v6 =>
 bnd (isV 1 v6 (.int .i64 0)) fun v7 =>
 bnd (ldV 1 false v7 h) fun v8 =>
 bnd (ncV x3) fun v9 =>
 bnd (faV 13 v9) fun v10 =>
 bnd (ldV 1 false v10 h) fun v11 =>
 bnd (slV 1 v11 (some (.int .i64 1)) none) fun v12 =>
 bsV 3 1 [(.int .i64 0)] [(0, 1, v8)] h fun v13 h14 =>
 apV 3 1 8 v3 v13 h14 fun v15 h16 =>
 ldV 1 false v10 h16 = some v11 ∧
 bnd (ncV x3) fun v17 =>
 bnd (faV 11 v17) fun v18 =>
 bnd (stV 1 v18 v15 h16) fun h19 =>
 bnd (ncV x3) fun v20 =>
 bnd (faV 13 v20) fun v21 =>
 bnd (stV 1 v21 v12 h19) fun h22 =>
 again6 (tup [x0, x3]) h22
def S105_j4 (s4 : Nat → Value) (x3 x5 x96 : Value) (h : GH) (K : Value → GH → Prop) (again6 : (Nat → Value) → GH → Prop) : Prop :=
 ifV x96 (
 bnd (ncV x3) fun v1 =>
 bnd (faV 13 v1) fun v2 =>
 bnd (ldV 1 false v2 h) fun v3 =>
 bnd (slV 1 v3 (some (.int .i64 1)) none) fun v4 =>
 bnd (ncV x3) fun v5 =>
 bnd (faV 16 v5) fun v6 =>
 bnd (stV 1 v6 (.pointer none) h) fun h7 =>
 bnd (ncV x3) fun v8 =>
 bnd (faV 13 v8) fun v9 =>
 bnd (stV 1 v9 v4 h7) fun h10 =>
 K x5 h10) (
 K x5 h)
def S105_j3 (s4 : Nat → Value) (x0 x3 : Value) (h : GH) (K : Value → GH → Prop) (again6 : (Nat → Value) → GH → Prop) : Prop :=
 bnd (ncV x3) fun v1 =>
 bnd (faV 16 v1) fun v2 =>
 bnd (ldV 1 false v2 h) fun v3 =>
 bnd (ncV x0) fun v4 =>
 bnd (faV 1 v4) fun v5 =>
 bnd (ldV 1 false v5 h) fun v6 =>
 T Tryz.prog 119 [v3, v6] h fun v7 h8 =>
 bnd (exV v7 0) fun v9 =>
 bnd (exV v7 1) fun v10 =>
 ifV v9 (
 bnd (eqI v10 (.int .i64 0)) fun b11 =>
 S105_j4 s4 x3 v10 (.bool b11) h8 K again6) (
 S105_j4 s4 x3 v10 (.bool false) h8 K again6)
def S105_j2 (s4 : Nat → Value) (x0 x3 : Value) (h : GH) (K : Value → GH → Prop) (again6 : (Nat → Value) → GH → Prop) : Prop :=
 bnd (ncV x3) fun v1 =>
 bnd (faV 13 v1) fun v2 =>
 bnd (ldV 1 false v2 h) fun v3 =>
 bnd (lnV v3) fun v4 =>
 bnd (eqI v4 (.int .i64 0)) fun b5 =>
 ifV (.bool b5) (
 T Tryz.prog 117 [x0] h fun v6 h7 =>
 K v6 h7) (
 bnd (ncV x3) fun v8 =>
 bnd (faV 16 v8) fun v9 =>
 bnd (ldV 1 false v9 h) fun v10 =>
 bnd (eqK .ptr true v10 (.pointer none)) fun b11 =>
 ifV (.bool b11) (
 bnd (ncV x3) fun v12 =>
 bnd (faV 13 v12) fun v13 =>
 bnd (ldV 1 false v13 h) fun v14 =>
 bnd (isV 1 v14 (.int .i64 0)) fun v15 =>
 bnd (ldV 1 false v15 h) fun v16 =>
 T Tryz.prog 118 [v16] h fun v17 h18 =>
 bnd (exV v17 0) fun v19 =>
 bnd (exV v17 1) fun v20 =>
 bnd (ncV x3) fun v21 =>
 bnd (faV 16 v21) fun v22 =>
 bnd (stV 1 v22 v19 h18) fun h23 =>
 S105_j3 s4 x0 x3 h23 K again6) (
 S105_j3 s4 x0 x3 h K again6))
def S105 (a0 : Value) (h : GH) (K : Value → GH → Prop) : Prop :=
 bnd (ncV a0) fun v1 =>
 bnd (faV 0 v1) fun v2 =>
 bnd (ldV 1 false v2 h) fun v3 =>
 Lfp (fun (s4 : Nat → Value) h5 again6 =>
 bnd (ncV (s4 1)) fun v7 =>
 bnd (faV 16 v7) fun v8 =>
 bnd (ldV 1 false v8 h5) fun v9 =>
 bnd (eqK .ptr true v9 (.pointer none)) fun b10 =>
 ifV (.bool b10) (
 bnd (ncV (s4 1)) fun v11 =>
 bnd (faV 13 v11) fun v12 =>
 bnd (ldV 1 false v12 h5) fun v13 =>
 bnd (lnV v13) fun v14 =>
 bnd (binV .gtr v14 (.int .i64 0)) fun v15 =>
 ifV v15 (
 bnd (ncV (s4 1)) fun v16 =>
 bnd (faV 11 v16) fun v17 =>
 bnd (ldV 1 false v17 h5) fun v18 =>
 bnd (lnV v18) fun v19 =>
 bnd (binV .lss v19 (.int .i64 2)) fun v20 =>
 ifV v20 (
 S105_j1 s4 (s4 0) (s4 1) h5 K again6) (
 S105_j2 s4 (s4 0) (s4 1) h5 K again6)) (
 S105_j2 s4 (s4 0) (s4 1) h5 K again6)) (
 S105_j2 s4 (s4 0) (s4 1) h5 K again6)) (tup [a0, v3]) h
def A105 : Ann := ⟨fun | 3 => ([0, 1, 2, 3, 4, 5, 6, 7, 8, 9, 10, 11, 14, 15, 16, 17, 18, 12, 13, 19, 20, 21, 22, 23, 24], [0, 0, 0, 4, 12, 28, 0, 64, 192, 448, 960, 1984, 4032, 8188, 0, 16384, 49152, 114688, 245760, 262141, 786429, 1835005, 4194303, 8388607, 16777215]) | 8 => ([0, 1, 2, 3, 4, 5, 6, 7, 8, 9, 10, 11, 12, 13], [0, 1, 3, 7, 0, 16, 48, 112, 255, 511, 1023, 1023, 2047, 8191]) | 10 => ([0, 1, 2, 3, 4, 5, 6, 7, 8, 9, 10, 11, 12], [0, 0, 0, 4, 12, 28, 60, 61, 189, 445, 1023, 2047, 4095]) | _ => ([], []), fun | 0 => [0, 3] | _ => []⟩
theorem S105_T {a0 : Value} {h : GH} {K : Value → GH → Prop} (g : S105 a0 h K) : T Tryz.prog 105 [a0] h K :=
  T_of_gwp (A := A105) Tryz.func105 (c := bodyOf Tryz.f105) (by kernel_rfl) (by kernel_rfl) (by kernel_rfl) (by kernel_rfl) (by kernel_rfl) (Eq.mp (by kernel_rfl) g)
def S106_j1 (x5 : Value) (h : GH) (K : Value → GH → Prop)  : Prop :=
 bnd (eqK .iface true x5 .nilIface) fun b1 =>
 ifV (.bool b1) (
 K .nilIface h) (
 T Tryz.prog 121 [x5] h fun v2 h3 =>
 bnd (unV .not v2) fun v4 =>
 ifV v4 (
 K .nilIface h3) (
 K x5 h3))
def S106 (a0 : Value) (h : GH) (K : Value → GH → Prop) : Prop :=
 bnd (binV .lss a0 (.int .i64 0)) fun v1 =>
 ifV v1 (
 K .nilIface h) (
 bnd (binV .quo a0 (.int .i64 4)) fun v2 =>
 bnd (binV .rem a0 (.int .i64 4)) fun v3 =>
 bnd (eqI v3 (.int .i64 0)) fun b4 =>
 ifV (.bool b4) (
 S106_j1 (.iface 192 v2) h K ) (
 bnd (eqI v3 (.int .i64 2)) fun b5 =>
 ifV (.bool b5) (
 callV Tryz.prog (.func (.func 120) #[] #[]) [v2] h fun v6 h7 =>
 S106_j1 (.iface 121 v6) h7 K ) (
 bnd (eqI v3 (.int .i64 1)) fun b8 =>
 ifV (.bool b8) (
 bnd (binV .rem v2 (.int .i64 1048576)) fun v9 =>
 bnd (fillV [(.int .i64 0), (.int .i64 0), (.int .i64 0), (.int .i64 0), (.int .i64 0)] [(4, 1, v9)]) fun c10 =>
 newV 217 [(.int .i64 0), (.int .i64 0), (.int .i64 0), (.int .i64 0), (.int .i64 0)] h fun v11 h12 =>
 bnd (stV 5 v11 (.agg c10.toArray) h12) fun h13 =>
 bnd (binV .quo v2 (.int .i64 1048576)) fun v14 =>
 bnd (binV .rem v14 (.int .i64 4)) fun v15 =>
 bnd (binV .quo v14 (.int .i64 4)) fun v16 =>
 bnd (faV 3 v11) fun v17 =>
 bnd (stV 1 v17 v15 h13) fun h18 =>
 bnd (binV .rem v16 (.int .i64 16)) fun v19 =>
 bnd (binV .quo v16 (.int .i64 16)) fun v20 =>
 bnd (faV 2 v11) fun v21 =>
 bnd (stV 1 v21 v19 h18) fun h22 =>
 callV Tryz.prog (.func (.func 120) #[] #[]) [v20] h22 fun v23 h24 =>
 bnd (faV 0 v11) fun v25 =>
 bnd (stV 2 v25 v23 h24) fun h26 =>
 bnd (ldV 5 true v11 h26) fun v27 =>
 S106_j1 (.iface 217 v27) h26 K ) (
 S106_j1 .nilIface h K ))))
def A106 : Ann := ⟨fun _ => ([], []), fun _ => []⟩
theorem S106_T {a0 : Value} {h : GH} {K : Value → GH → Prop} (g : S106 a0 h K) : T Tryz.prog 106 [a0] h K :=
  T_of_gwp (A := A106) Tryz.func106 (c := bodyOf Tryz.f106) (by kernel_rfl) (by kernel_rfl) (by kernel_rfl) (by kernel_rfl) (by kernel_rfl) (Eq.mp (by kernel_rfl) g)
def S110_j2 (x0 x5 x6 : Value) (h : GH) (K : Value → GH → Prop)  : Prop :=
 T Tryz.prog 123 [x6] h fun v1 h2 =>
 bnd (binV .add (.int .i64 1) v1) fun v3 =>
 bnd (saV 24 1 x5 (some (.int .i64 1)) (some v3)) fun v4 =>
 T Tryz.prog 124 [v4, x6] h2 fun v5 h6 =>
 bnd (binV .lss x0 (.int .i64 0)) fun v7 =>
 ifV v7 (
 bnd (iaV 24 1 x5 (.int .i64 0)) fun v8 =>
 bnd (stV 1 v8 (.int .u8 45) h6) fun h9 =>
 bnd (binV .add (.int .i64 1) v1) fun v10 =>
 bnd (saV 24 1 x5 none (some v10)) fun v11 =>
 False) (
 bnd (binV .add (.int .i64 1) v1) fun v12 =>
 bnd (saV 24 1 x5 (some (.int .i64 1)) (some v12)) fun v13 =>
 False)
def S110_j1 (x0 : Value) (h : GH) (K : Value → GH → Prop)  : Prop :=
 newV 219 (List.replicate 24 (.int .u8 0)) h fun v1 h2 =>
 bnd (cvV .u64 x0) fun v3 =>
 bnd (binV .lss x0 (.int .i64 0)) fun v4 =>
 ifV v4 (
 bnd (unV .neg v3) fun v5 =>
 S110_j2 x0 v1 v5 h2 K ) (
 S110_j2 x0 v1 v3 h2 K )
def S110 (a0 a1 : Value) (h : GH) (K : Value → GH → Prop) : Prop :=
 bnd (eqI a1 (.int .i64 10)) fun b1 =>
 ifV (.bool b1) (
 bnd (binV .leq (.int .i64 0) a0) fun v2 =>
 ifV v2 (
 bnd (binV .lss a0 (.int .i64 100)) fun v3 =>
 ifV v3 (
 T Tryz.prog 122 [a0] h fun v4 h5 =>
 K v4 h5) (
 S110_j1 a0 h K )) (
 S110_j1 a0 h K )) (
 bnd (cvV .u64 a0) fun v6 =>
 bnd (binV .lss a0 (.int .i64 0)) fun v7 =>
 T Tryz.prog 125 [(.slice none 0 0), v6, a1, v7, (.bool false)] h fun v8 h9 =>
 bnd (exV v8 0) fun v10 =>
 bnd (exV v8 1) fun v11 =>
 K v11 h9)
def A110 : Ann := ⟨fun _ => ([], []), fun _ => []⟩
theorem S110_T {a0 a1 : Value} {h : GH} {K : Value → GH → Prop} (g : S110 a0 a1 h K) : T Tryz.prog 110 [a0, a1] h K :=
  T_of_gwp (A := A110) Tryz.func110 (c := bodyOf Tryz.f110) (by kernel_rfl) (by kernel_rfl) (by kernel_rfl) (by kernel_rfl) (by kernel_rfl) (Eq.mp (by kernel_rfl) g)
def S112 (a0 a1 a2 : Value) (h : GH) (K : Value → GH → Prop) : Prop :=
 bnd (binV .add (.int .i64 30) a1) fun v1 =>
 T Tryz.prog 81 [a2] h fun v2 h3 =>
 T Tryz.prog 127 [a0, v1, v2] h3 fun v4 h5 =>
 K (.tuple #[]) h5
def A112 : Ann := ⟨fun _ => ([], []), fun _ => []⟩
theorem S112_T {a0 a1 a2 : Value} {h : GH} {K : Value → GH → Prop} (g : S112 a0 a1 a2 h K) : T Tryz.prog 112 [a0, a1, a2] h K :=
  T_of_gwp (A := A112) Tryz.func112 (c := bodyOf Tryz.f112) (by kernel_rfl) (by kernel_rfl) (by kernel_rfl) (by kernel_rfl) (by kernel_rfl) (Eq.mp (by kernel_rfl) g)
def S113 (a0 : Value) (h : GH) (K : Value → GH → Prop) : Prop :=
 T Tryz.prog 128 [a0, (.int .i64 29)] h fun v1 h2 =>
 bnd (exV v1 0) fun v3 =>
 bnd (exV v1 1) fun v4 =>
 T Tryz.prog 129 [v3] h2 fun v5 h6 =>
 bnd (exV v5 0) fun v7 =>
 bnd (exV v5 1) fun v8 =>
 K (.tuple #[v7, v8]) h6
def A113 : Ann := ⟨fun _ => ([], []), fun _ => []⟩
theorem S113_T {a0 : Value} {h : GH} {K : Value → GH → Prop} (g : S113 a0 h K) : T Tryz.prog 113 [a0] h K :=
  T_of_gwp (A := A113) Tryz.func113 (c := bodyOf Tryz.f113) (by kernel_rfl) (by kernel_rfl) (by kernel_rfl) (by kernel_rfl) (by kernel_rfl) (Eq.mp (by kernel_rfl) g)
def S114 (a0 a1 : Value) (h : GH) (K : Value → GH → Prop) : Prop :=
 T Tryz.prog 130 [a0, a1] h fun v1 h2 =>
 bnd (binV .geq v1 (.int .i64 0)) fun v3 =>
 K v3 h2
def A114 : Ann := ⟨fun _ => ([], []), fun _ => []⟩
theorem S114_T {a0 a1 : Value} {h : GH} {K : Value → GH → Prop} (g : S114 a0 a1 h K) : T Tryz.prog 114 [a0, a1] h K :=
  T_of_gwp (A := A114) Tryz.func114 (c := bodyOf Tryz.f114) (by kernel_rfl) (by kernel_rfl) (by kernel_rfl) (by kernel_rfl) (by kernel_rfl) (Eq.mp (by kernel_rfl) g)
def S115 (a0 : Value) (h : GH) (K : Value → GH → Prop) : Prop :=
 newV 211 (a0 : Value).cells.toList h fun v1 h2 =>
 bnd (faV 0 v1) fun v3 =>
 bnd (ldV 1 false v3 h2) fun v4 =>
 T Tryz.prog 23 [v4, (.int .i64 12)] h2 fun v5 h6 =>
 bnd (unV .not v5) fun v7 =>
 ifV v7 (
 K (.bool true) h6) (
 bnd (faV 1 v1) fun v8 =>
 bnd (ldV 1 false v8 h6) fun v9 =>
 T Tryz.prog 116 [v9] h6 fun v10 h11 =>
 bnd (unV .not v10) fun v12 =>
 K v12 h11)
def A115 : Ann := ⟨fun _ => ([], []), fun _ => []⟩
theorem S115_T {a0 : Value} {h : GH} {K : Value → GH → Prop} (g : S115 a0 h K) : T Tryz.prog 115 [a0] h K :=
  T_of_gwp (A := A115) Tryz.func115 (c := bodyOf Tryz.f115) (by kernel_rfl) (by kernel_rfl) (by kernel_rfl) (by kernel_rfl) (by kernel_rfl) (Eq.mp (by kernel_rfl) g)
def S116 (a0 : Value) (h : GH) (K : Value → GH → Prop) : Prop :=
 T Tryz.prog 23 [a0, (.int .i64 1073741824)] h fun v1 h2 =>
 K v1 h2
def A116 : Ann := ⟨fun _ => ([], []), fun _ => []⟩
theorem S116_T {a0 : Value} {h : GH} {K : Value → GH → Prop} (g : S116 a0 h K) : T Tryz.prog 116 [a0] h K :=
  T_of_gwp (A := A116) Tryz.func116 (c := bodyOf Tryz.f116) (by kernel_rfl) (by kernel_rfl) (by kernel_rfl) (by kernel_rfl) (by kernel_rfl) (Eq.mp (by kernel_rfl) g)
def S117_j4 (x0 x3 : Value) (h : GH) (K : Value → GH → Prop)  : Prop :=
 bnd (ncV x3) fun v1 =>
 bnd (faV 17 v1) fun v2 =>
 bnd (ldV 1 false v2 h) fun v3 =>
 T Tryz.prog 135 [v3] h fun v4 h5 =>
 bnd (ncV x3) fun v6 =>
 bnd (faV 17 v6) fun v7 =>
 bnd (stV 1 v7 (.pointer none) h5) fun h8 =>
 bnd (eqI v4 (.int .i64 (-1))) fun b9 =>
 ifV (.bool b9) (
 bnd (ncV x3) fun v10 =>
 bnd (faV 20 v10) fun v11 =>
 bnd (stV 1 v11 (.int .i64 1) h8) fun h12 =>
 bnd (ncV x3) fun v13 =>
 bnd (faV 6 v13) fun v14 =>
 bnd (stV 1 v14 (.func (.func 136) #[] #[]) h12) fun h15 =>
 K (.int .i64 0) h15) (
 T Tryz.prog 131 [x0, v4] h8 fun v16 h17 =>
 K (.int .i64 0) h17)
def S117_j3 (x0 x3 : Value) (h : GH) (K : Value → GH → Prop)  : Prop :=
 bnd (ncV x3) fun v1 =>
 bnd (faV 6 v1) fun v2 =>
 bnd (stV 1 v2 (.func (.func 117) #[] #[]) h) fun h3 =>
 bnd (ncV x3) fun v4 =>
 bnd (faV 17 v4) fun v5 =>
 bnd (ldV 1 false v5 h3) fun v6 =>
 bnd (ncV x0) fun v7 =>
 bnd (faV 1 v7) fun v8 =>
 bnd (ldV 1 false v8 h3) fun v9 =>
 T Tryz.prog 134 [v6, v9] h3 fun v10 h11 =>
 bnd (exV v10 0) fun v12 =>
 bnd (exV v10 1) fun v13 =>
 bnd (unV .not v12) fun v14 =>
 ifV v14 (
 K v13 h11) (
 bnd (eqI v13 (.int .i64 0)) fun b15 =>
 ifV (.bool (!b15)) (
 K v13 h11) (
 S117_j4 x0 x3 h11 K ))
def S117_j2 (x0 x3 : Value) (h : GH) (K : Value → GH → Prop)  : Prop :=
 bnd (ncV x3) fun v1 =>
 bnd (faV 17 v1) fun v2 =>
 bnd (ldV 1 false v2 h) fun v3 =>
 bnd (eqK .ptr true v3 (.pointer none)) fun b4 =>
 ifV (.bool b4) (
 T Tryz.prog 133 [] h fun v5 h6 =>
 bnd (ncV x3) fun v7 =>
 bnd (faV 17 v7) fun v8 =>
 bnd (stV 1 v8 v5 h6) fun h9 =>
 S117_j3 x0 x3 h9 K ) (
 S117_j3 x0 x3 h K )
def S117_j1 (x0 x3 x4 x27 : Value) (h : GH) (K : Value → GH → Prop)  : Prop :=
 ifV x27 (
 bnd (ncV x3) fun v1 =>
 bnd (faV 11 v1) fun v2 =>
 bnd (ldV 1 false v2 h) fun v3 =>
 bnd (isV 1 v3 x4) fun v4 =>
 bnd (ldV 1 false v4 h) fun v5 =>
 bnd (ncV x3) fun v6 =>
 bnd (faV 11 v6) fun v7 =>
 bnd (ldV 1 false v7 h) fun v8 =>
 bnd (slV 1 v8 none (some x4)) fun v9 =>
 bnd (ncV x3) fun v10 =>
 bnd (faV 11 v10) fun v11 =>
 bnd (stV 1 v11 v9 h) fun h12 =>
 T Tryz.prog 131 [x0, v5] h12 fun v13 h14 =>
 T Tryz.prog 132 [x0] h14 fun v15 h16 =>
 K v15 h16) (
 S117_j2 x0 x3 h K )
def S117 (a0 : Value) (h : GH) (K : Value → GH → Prop) : Prop :=
 bnd (ncV a0) fun v1 =>
 bnd (faV 0 v1) fun v2 =>
 bnd (ldV 1 false v2 h) fun v3 =>
 bnd (ncV v3) fun v4 =>
 bnd (faV 11 v4) fun v5 =>
 bnd (ldV 1 false v5 h) fun v6 =>
 bnd (lnV v6) fun v7 =>
 bnd (binV .sub v7 (.int .i64 1)) fun v8 =>
 bnd (ncV v3) fun v9 =>
 bnd (faV 17 v9) fun v10 =>
 bnd (ldV 1 false v10 h) fun v11 =>
 bnd (eqK .ptr true v11 (.pointer none)) fun b12 =>
 ifV (.bool b12) (
 bnd (binV .geq v8 (.int .i64 0)) fun v13 =>
 S117_j1 a0 v3 v8 v13 h K ) (
 S117_j1 a0 v3 v8 (.bool false) h K )
def A117 : Ann := ⟨fun | 11 => ([0, 1, 2, 3, 4, 5, 6, 7, 8, 9, 10, 11, 12, 13], [0, 1, 3, 7, 0, 16, 48, 112, 255, 511, 1023, 1023, 2047, 8191]) | _ => ([], []), fun _ => []⟩
theorem S117_T {a0 : Value} {h : GH} {K : Value → GH → Prop} (g : S117 a0 h K) : T Tryz.prog 117 [a0] h K :=
  T_of_gwp (A := A117) Tryz.func117 (c := bodyOf Tryz.f117) (by kernel_rfl) (by kernel_rfl) (by kernel_rfl) (by kernel_rfl) (by kernel_rfl) (Eq.mp (by kernel_rfl) g)
def S118 (a0 : Value) (h : GH) (K : Value → GH → Prop) : Prop :=
 T Tryz.prog 23 [a0, (.int .i64 12)] h fun v1 h2 =>
 bnd (unV .not v1) fun v3 =>
 ifV v3 (
 K (.tuple #[(.pointer none), (.int .i64 1000)]) h2) (
 bnd (fillV [(.int .i64 0), (.int .i64 0), (.int .i64 0), (.int .i64 0), (.bool false), (.int .i64 0)] [(5, 1, a0)]) fun c4 =>
 newV 232 ((.agg c4.toArray) : Value).cells.toList h2 fun v5 h6 =>
 K (.tuple #[v5, (.int .i64 0)]) h6)
def A118 : Ann := ⟨fun _ => ([], []), fun _ => []⟩
theorem S118_T {a0 : Value} {h : GH} {K : Value → GH → Prop} (g : S118 a0 h K) : T Tryz.prog 118 [a0] h K :=
  T_of_gwp (A := A118) Tryz.func118 (c := bodyOf Tryz.f118) (by kernel_rfl) (by kernel_rfl) (by kernel_rfl) (by kernel_rfl) (by kernel_rfl) (Eq.mp (by kernel_rfl) g)
def S119 (a0 a1 : Value) (h : GH) (K : Value → GH → Prop) : Prop :=
 newV 116 (a0 : Value).cells.toList h fun v1 h2 =>
 newV 71 (a1 : Value).cells.toList h2 fun v3 h4 =>
 bnd (ldV 1 false v1 h4) fun v5 =>
 bnd (eqK .ptr true v5 (.pointer none)) fun b6 =>
 ifV (.bool b6) (
 K (.tuple #[(.bool false), (.int .i64 1)]) h4) (
 bnd (ldV 1 false v1 h4) fun v7 =>
 bnd (ncV v7) fun v8 =>
 bnd (faV 0 v8) fun v9 =>
 bnd (ldV 1 false v3 h4) fun v10 =>
 T Tryz.prog 137 [v9, v10, (.func (.func 138) #[] #[v1, v3])] h4 fun v11 h12 =>
 bnd (exV v11 0) fun v13 =>
 bnd (exV v11 1) fun v14 =>
 K (.tuple #[v13, v14]) h12)
def A119 : Ann := ⟨fun | 3 => ([0, 1, 2, 3, 4, 5, 6, 7, 8, 9], [0, 1, 3, 0, 0, 31, 63, 63, 255, 511]) | _ => ([], []), fun _ => []⟩
theorem S119_T {a0 a1 : Value} {h : GH} {K : Value → GH → Prop} (g : S119 a0 a1 h K) : T Tryz.prog 119 [a0, a1] h K :=
  T_of_gwp (A := A119) Tryz.func119 (c := bodyOf Tryz.f119) (by kernel_rfl) (by kernel_rfl) (by kernel_rfl) (by kernel_rfl) (by kernel_rfl) (Eq.mp (by kernel_rfl) g)
end Go.Proofs.YtcpfkkppfgolaaaGreatDoor
