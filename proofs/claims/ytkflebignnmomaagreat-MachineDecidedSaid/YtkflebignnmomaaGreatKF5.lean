/- Several texts in one; nothing here is a statement on the program. -/
import Derived.Test.YtkflebignnmomaaGreatKF2
import Derived.Test.YtkflebignnmomaaGreatProg
import Derived.KernelRfl
set_option linter.unusedVariables false
set_option linter.unusedSimpArgs false
namespace Go.Proofs.YtkflebignnmomaaGreat
open Go GW Go.Proofs
set_option maxRecDepth 100000
def S123 (a0 a1 : Value) (h : GH) (K : Value → GH → Prop) : Prop :=
 newV 220 (a0 : Value).cells.toList h fun v1 h2 =>
 bnd (ldV 1 true v1 h2) fun v3 =>
 bnd (fillV [(.pointer none), (.int .i64 0), (.int .i64 0), (.int .i64 0)] [(0, 1, v3)]) fun c4 =>
 newV 248 ((.agg c4.toArray) : Value).cells.toList h2 fun v5 h6 =>
 bnd (ldV 1 true v1 h6) fun v7 =>
 T Tryz.prog 134 [v7, a1, (.int .i64 (-1)), (.int .i64 1)] h6 fun v8 h9 =>
 bnd (ncV v5) fun v10 =>
 bnd (faV 1 v10) fun v11 =>
 bnd (stV 1 v11 v8 h9) fun h12 =>
 bnd (ldV 1 true v1 h12) fun v13 =>
 bnd (ncV v5) fun v14 =>
 bnd (faV 1 v14) fun v15 =>
 bnd (ldV 1 false v15 h12) fun v16 =>
 T Tryz.prog 134 [v13, a1, v16, (.int .i64 0)] h12 fun v17 h18 =>
 bnd (ncV v5) fun v19 =>
 bnd (faV 2 v19) fun v20 =>
 bnd (stV 1 v20 v17 h18) fun h21 =>
 bnd (ldV 1 true v1 h21) fun v22 =>
 bnd (ncV v5) fun v23 =>
 bnd (faV 2 v23) fun v24 =>
 bnd (ldV 1 false v24 h21) fun v25 =>
 T Tryz.prog 116 [v22, v25, (.int .i64 0)] h21 fun v26 h27 =>
 bnd (ncV v5) fun v28 =>
 bnd (faV 3 v28) fun v29 =>
 bnd (stV 1 v29 v26 h27) fun h30 =>
 K v5 h30
def A123 : Ann := ⟨fun | 3 => ([0, 1, 2, 3, 4, 5, 6, 7, 8, 9, 10], [0, 0, 0, 0, 8, 24, 56, 126, 255, 511, 1023]) | 4 => ([0, 1, 2, 3, 4, 5, 6, 7, 8, 9], [0, 0, 0, 4, 12, 28, 62, 127, 255, 511]) | _ => ([], []), fun _ => []⟩
theorem S123_T {a0 a1 : Value} {h : GH} {K : Value → GH → Prop} (g : S123 a0 a1 h K) : T Tryz.prog 123 [a0, a1] h K :=
  T_of_gwp (A := A123) Tryz.func123 (c := bodyOf Tryz.f123) (by kernel_rfl) (by kernel_rfl) (by kernel_rfl) (by kernel_rfl) (by kernel_rfl) (Eq.mp (by kernel_rfl) g)
def S124 (a0 a1 : Value) (h : GH) (K : Value → GH → Prop) : Prop :=
 newV 54 [(.int .i64 0), (.int .i64 0)] h fun v1 h2 =>
 bnd (ncV a1) fun v3 =>
 bnd (faV 1 v3) fun v4 =>
 bnd (ldV 1 false v4 h2) fun v5 =>
 T Tryz.prog 135 [a0, v5] h2 fun v6 h7 =>
 bnd (ncV v6) fun v8 =>
 bnd (faV 2 v8) fun v9 =>
 bnd (ldV 1 false v9 h7) fun v10 =>
 ifV v10 (
 T Tryz.prog 136 [(.int .i64 1)] h7 fun v11 h12 =>
 bnd (stV 2 v1 v11 h12) fun h13 =>
 bnd (ldV 2 true v1 h13) fun v14 =>
 K v14 h13) (
 bnd (ncV a1) fun v15 =>
 bnd (faV 3 v15) fun v16 =>
 bnd (ldV 1 false v16 h7) fun v17 =>
 T Tryz.prog 137 [v6, v17] h7 fun v18 h19 =>
 bnd (stV 2 v1 v18 h19) fun h20 =>
 bnd (ldV 2 true v1 h20) fun v21 =>
 K v21 h20)
def A124 : Ann := ⟨fun _ => ([], []), fun _ => []⟩
theorem S124_T {a0 a1 : Value} {h : GH} {K : Value → GH → Prop} (g : S124 a0 a1 h K) : T Tryz.prog 124 [a0, a1] h K :=
  T_of_gwp (A := A124) Tryz.func124 (c := bodyOf Tryz.f124) (by kernel_rfl) (by kernel_rfl) (by kernel_rfl) (by kernel_rfl) (by kernel_rfl) (Eq.mp (by kernel_rfl) g)
def S125 (a0 a1 : Value) (h : GH) (K : Value → GH → Prop) : Prop :=
 newV 54 [(.int .i64 0), (.int .i64 0)] h fun v1 h2 =>
 bnd (ncV a1) fun v3 =>
 bnd (faV 1 v3) fun v4 =>
 bnd (ldV 1 false v4 h2) fun v5 =>
 T Tryz.prog 135 [a0, v5] h2 fun v6 h7 =>
 bnd (ncV v6) fun v8 =>
 bnd (faV 2 v8) fun v9 =>
 bnd (ldV 1 false v9 h7) fun v10 =>
 bnd (unV .not v10) fun v11 =>
 ifV v11 (
 T Tryz.prog 136 [(.int .i64 2)] h7 fun v12 h13 =>
 bnd (stV 2 v1 v12 h13) fun h14 =>
 bnd (ldV 2 true v1 h14) fun v15 =>
 K v15 h14) (
 bnd (ncV v6) fun v16 =>
 bnd (faV 1 v16) fun v17 =>
 bnd (ldV 1 false v17 h7) fun v18 =>
 T Tryz.prog 138 [a0, v18, (.int .i64 0)] h7 fun v19 h20 =>
 bnd (ncV v6) fun v21 =>
 bnd (faV 3 v21) fun v22 =>
 bnd (ldV 1 false v22 h20) fun v23 =>
 T Tryz.prog 139 [v23] h20 fun v24 h25 =>
 bnd (stV 2 v1 v24 h25) fun h26 =>
 bnd (ldV 2 true v1 h26) fun v27 =>
 K v27 h26)
def A125 : Ann := ⟨fun _ => ([], []), fun _ => []⟩
theorem S125_T {a0 a1 : Value} {h : GH} {K : Value → GH → Prop} (g : S125 a0 a1 h K) : T Tryz.prog 125 [a0, a1] h K :=
  T_of_gwp (A := A125) Tryz.func125 (c := bodyOf Tryz.f125) (by kernel_rfl) (by kernel_rfl) (by kernel_rfl) (by kernel_rfl) (by kernel_rfl) (Eq.mp (by kernel_rfl) g)
def S126 (a0 a1 : Value) (h : GH) (K : Value → GH → Prop) : Prop :=
 newV 54 [(.int .i64 0), (.int .i64 0)] h fun v1 h2 =>
 bnd (ncV a1) fun v3 =>
 bnd (faV 1 v3) fun v4 =>
 bnd (ldV 1 false v4 h2) fun v5 =>
 T Tryz.prog 135 [a0, v5] h2 fun v6 h7 =>
 bnd (ncV v6) fun v8 =>
 bnd (faV 2 v8) fun v9 =>
 bnd (ldV 1 false v9 h7) fun v10 =>
 bnd (unV .not v10) fun v11 =>
 ifV v11 (
 T Tryz.prog 136 [(.int .i64 2)] h7 fun v12 h13 =>
 bnd (stV 2 v1 v12 h13) fun h14 =>
 bnd (ldV 2 true v1 h14) fun v15 =>
 K v15 h14) (
 bnd (ncV v6) fun v16 =>
 bnd (faV 3 v16) fun v17 =>
 bnd (ldV 1 false v17 h7) fun v18 =>
 bnd (ncV a1) fun v19 =>
 bnd (faV 3 v19) fun v20 =>
 bnd (ldV 1 false v20 h7) fun v21 =>
 bnd (binV .sub (.int .i64 1048575) v21) fun v22 =>
 bnd (binV .gtr v18 v22) fun v23 =>
 ifV v23 (
 T Tryz.prog 136 [(.int .i64 4)] h7 fun v24 h25 =>
 bnd (stV 2 v1 v24 h25) fun h26 =>
 bnd (ldV 2 true v1 h26) fun v27 =>
 K v27 h26) (
 bnd (ncV v6) fun v28 =>
 bnd (faV 3 v28) fun v29 =>
 bnd (ldV 1 false v29 h7) fun v30 =>
 bnd (ncV a1) fun v31 =>
 bnd (faV 3 v31) fun v32 =>
 bnd (ldV 1 false v32 h7) fun v33 =>
 bnd (binV .add v30 v33) fun v34 =>
 T Tryz.prog 137 [v6, v34] h7 fun v35 h36 =>
 bnd (stV 2 v1 v35 h36) fun h37 =>
 bnd (ldV 2 true v1 h37) fun v38 =>
 K v38 h37))
def A126 : Ann := ⟨fun | 4 => ([0, 1, 2, 3, 4, 5, 6, 7, 8, 9, 10], [0, 1, 3, 7, 0, 16, 48, 112, 240, 511, 1023]) | 6 => ([0, 1, 2, 3, 4, 5, 6, 7, 8, 9, 10, 11], [0, 0, 2, 6, 14, 0, 32, 96, 224, 510, 1023, 2047]) | _ => ([], []), fun _ => []⟩
theorem S126_T {a0 a1 : Value} {h : GH} {K : Value → GH → Prop} (g : S126 a0 a1 h K) : T Tryz.prog 126 [a0, a1] h K :=
  T_of_gwp (A := A126) Tryz.func126 (c := bodyOf Tryz.f126) (by kernel_rfl) (by kernel_rfl) (by kernel_rfl) (by kernel_rfl) (by kernel_rfl) (Eq.mp (by kernel_rfl) g)
def S127 (a0 a1 : Value) (h : GH) (K : Value → GH → Prop) : Prop :=
 newV 54 [(.int .i64 0), (.int .i64 0)] h fun v1 h2 =>
 bnd (ncV a1) fun v3 =>
 bnd (faV 1 v3) fun v4 =>
 bnd (ldV 1 false v4 h2) fun v5 =>
 T Tryz.prog 135 [a0, v5] h2 fun v6 h7 =>
 bnd (ncV v6) fun v8 =>
 bnd (faV 2 v8) fun v9 =>
 bnd (ldV 1 false v9 h7) fun v10 =>
 bnd (unV .not v10) fun v11 =>
 ifV v11 (
 T Tryz.prog 136 [(.int .i64 2)] h7 fun v12 h13 =>
 bnd (stV 2 v1 v12 h13) fun h14 =>
 bnd (ldV 2 true v1 h14) fun v15 =>
 K v15 h14) (
 bnd (ncV v6) fun v16 =>
 bnd (faV 3 v16) fun v17 =>
 bnd (ldV 1 false v17 h7) fun v18 =>
 bnd (ncV a1) fun v19 =>
 bnd (faV 3 v19) fun v20 =>
 bnd (ldV 1 false v20 h7) fun v21 =>
 bnd (binV .lss v18 v21) fun v22 =>
 ifV v22 (
 T Tryz.prog 136 [(.int .i64 3)] h7 fun v23 h24 =>
 bnd (stV 2 v1 v23 h24) fun h25 =>
 bnd (ldV 2 true v1 h25) fun v26 =>
 K v26 h25) (
 bnd (ncV v6) fun v27 =>
 bnd (faV 3 v27) fun v28 =>
 bnd (ldV 1 false v28 h7) fun v29 =>
 bnd (ncV a1) fun v30 =>
 bnd (faV 3 v30) fun v31 =>
 bnd (ldV 1 false v31 h7) fun v32 =>
 bnd (binV .sub v29 v32) fun v33 =>
 T Tryz.prog 137 [v6, v33] h7 fun v34 h35 =>
 bnd (stV 2 v1 v34 h35) fun h36 =>
 bnd (ldV 2 true v1 h36) fun v37 =>
 K v37 h36))
def A127 : Ann := ⟨fun | 4 => ([0, 1, 2, 3, 4, 5, 6, 7, 8, 9], [0, 1, 3, 7, 0, 16, 48, 112, 255, 511]) | 6 => ([0, 1, 2, 3, 4, 5, 6, 7, 8, 9, 10, 11], [0, 0, 2, 6, 14, 0, 32, 96, 224, 510, 1023, 2047]) | _ => ([], []), fun _ => []⟩
theorem S127_T {a0 a1 : Value} {h : GH} {K : Value → GH → Prop} (g : S127 a0 a1 h K) : T Tryz.prog 127 [a0, a1] h K :=
  T_of_gwp (A := A127) Tryz.func127 (c := bodyOf Tryz.f127) (by kernel_rfl) (by kernel_rfl) (by kernel_rfl) (by kernel_rfl) (by kernel_rfl) (Eq.mp (by kernel_rfl) g)
def S128_j2 (x1 x4 x5 x6 : Value) (h : GH) (K : Value → GH → Prop)  : Prop :=
 bnd (ncV x6) fun v1 =>
 bnd (faV 3 v1) fun v2 =>
 bnd (ldV 1 false v2 h) fun v3 =>
 bnd (ncV x1) fun v4 =>
 bnd (faV 3 v4) fun v5 =>
 bnd (ldV 1 false v5 h) fun v6 =>
 bnd (binV .add v3 v6) fun v7 =>
 T Tryz.prog 137 [x6, v7] h fun v8 h9 =>
 bnd (ncV x5) fun v10 =>
 bnd (faV 3 v10) fun v11 =>
 bnd (ldV 1 false v11 h9) fun v12 =>
 bnd (ncV x1) fun v13 =>
 bnd (faV 3 v13) fun v14 =>
 bnd (ldV 1 false v14 h9) fun v15 =>
 bnd (binV .sub v12 v15) fun v16 =>
 T Tryz.prog 137 [x5, v16] h9 fun v17 h18 =>
 bnd (stV 2 x4 v17 h18) fun h19 =>
 bnd (ldV 2 true x4 h19) fun v20 =>
 K v20 h19
def S128_j1 (x1 x4 x5 x6 x19 : Value) (h : GH) (K : Value → GH → Prop)  : Prop :=
 ifV x19 (
 T Tryz.prog 136 [(.int .i64 2)] h fun v1 h2 =>
 bnd (stV 2 x4 v1 h2) fun h3 =>
 bnd (ldV 2 true x4 h3) fun v4 =>
 K v4 h3) (
 bnd (ncV x5) fun v5 =>
 bnd (faV 3 v5) fun v6 =>
 bnd (ldV 1 false v6 h) fun v7 =>
 bnd (ncV x1) fun v8 =>
 bnd (faV 3 v8) fun v9 =>
 bnd (ldV 1 false v9 h) fun v10 =>
 bnd (binV .lss v7 v10) fun v11 =>
 ifV v11 (
 T Tryz.prog 136 [(.int .i64 3)] h fun v12 h13 =>
 bnd (stV 2 x4 v12 h13) fun h14 =>
 bnd (ldV 2 true x4 h14) fun v15 =>
 K v15 h14) (
 bnd (ncV x1) fun v16 =>
 bnd (faV 1 v16) fun v17 =>
 bnd (ldV 1 false v17 h) fun v18 =>
 bnd (ncV x1) fun v19 =>
 bnd (faV 2 v19) fun v20 =>
 bnd (ldV 1 false v20 h) fun v21 =>
 bnd (eqI v18 v21) fun b22 =>
 ifV (.bool b22) (
 bnd (ncV x5) fun v23 =>
 bnd (faV 3 v23) fun v24 =>
 bnd (ldV 1 false v24 h) fun v25 =>
 T Tryz.prog 139 [v25] h fun v26 h27 =>
 bnd (stV 2 x4 v26 h27) fun h28 =>
 bnd (ldV 2 true x4 h28) fun v29 =>
 K v29 h28) (
 bnd (ncV x6) fun v30 =>
 bnd (faV 3 v30) fun v31 =>
 bnd (ldV 1 false v31 h) fun v32 =>
 bnd (ncV x1) fun v33 =>
 bnd (faV 3 v33) fun v34 =>
 bnd (ldV 1 false v34 h) fun v35 =>
 bnd (binV .sub (.int .i64 1048575) v35) fun v36 =>
 bnd (binV .gtr v32 v36) fun v37 =>
 ifV v37 (
 T Tryz.prog 136 [(.int .i64 4)] h fun v38 h39 =>
 bnd (stV 2 x4 v38 h39) fun h40 =>
 bnd (ldV 2 true x4 h40) fun v41 =>
 K v41 h40) (
 S128_j2 x1 x4 x5 x6 h K ))))
def S128 (a0 a1 : Value) (h : GH) (K : Value → GH → Prop) : Prop :=
 newV 54 [(.int .i64 0), (.int .i64 0)] h fun v1 h2 =>
 bnd (ncV a1) fun v3 =>
 bnd (faV 1 v3) fun v4 =>
 bnd (ldV 1 false v4 h2) fun v5 =>
 bnd (ncV a1) fun v6 =>
 bnd (faV 2 v6) fun v7 =>
 bnd (ldV 1 false v7 h2) fun v8 =>
 T Tryz.prog 135 [a0, v5] h2 fun v9 h10 =>
 ldV 1 false v7 h10 = some v8 ∧
 T Tryz.prog 135 [a0, v8] h10 fun v11 h12 =>
 bnd (ncV v9) fun v13 =>
 bnd (faV 2 v13) fun v14 =>
 bnd (ldV 1 false v14 h12) fun v15 =>
 bnd (unV .not v15) fun v16 =>
 ifV v16 (
 S128_j1 a1 v1 v9 v11 (.bool true) h12 K ) (
 bnd (ncV v11) fun v17 =>
 bnd (faV 2 v17) fun v18 =>
 bnd (ldV 1 false v18 h12) fun v19 =>
 bnd (unV .not v19) fun v20 =>
 S128_j1 a1 v1 v9 v11 v20 h12 K )
def A128 : Ann := ⟨fun | 1 => ([0, 1, 2, 3, 4, 6, 7, 8, 9, 10, 5, 11, 12, 13], [0, 0, 2, 6, 14, 31, 0, 0, 128, 384, 896, 2047, 4095, 8191]) | 4 => ([0, 1, 2, 3, 4, 5, 6, 7, 8, 9], [0, 1, 3, 7, 0, 16, 48, 112, 255, 511]) | 6 => ([0, 1, 2, 3, 4, 5, 6, 7, 8, 9], [0, 1, 3, 7, 0, 16, 48, 112, 255, 511]) | 8 => ([0, 1, 2, 3, 4, 5, 6, 7, 8, 9, 10], [0, 1, 3, 7, 0, 16, 48, 112, 240, 511, 1023]) | 10 => ([0, 1, 2, 3, 4, 5, 6, 7, 8, 9, 10], [0, 0, 2, 6, 14, 0, 32, 96, 224, 510, 1023]) | 11 => ([0, 1, 2, 3, 4, 5, 6, 7, 8, 9, 10, 11], [0, 0, 2, 6, 14, 0, 32, 96, 224, 510, 1023, 2047]) | _ => ([], []), fun _ => []⟩
theorem S128_T {a0 a1 : Value} {h : GH} {K : Value → GH → Prop} (g : S128 a0 a1 h K) : T Tryz.prog 128 [a0, a1] h K :=
  T_of_gwp (A := A128) Tryz.func128 (c := bodyOf Tryz.f128) (by kernel_rfl) (by kernel_rfl) (by kernel_rfl) (by kernel_rfl) (by kernel_rfl) (Eq.mp (by kernel_rfl) g)
def S129 (a0 a1 : Value) (h : GH) (K : Value → GH → Prop) : Prop :=
 newV 54 [(.int .i64 0), (.int .i64 0)] h fun v1 h2 =>
 Lfp (fun (s3 : Nat → Value) h4 again5 =>
 bnd (binV .lss (s3 3) (.int .i64 4)) fun v6 =>
 ifV v6 (
 T Tryz.prog 135 [(s3 0), (s3 3)] h4 fun v7 h8 =>
 bnd (ncV v7) fun v9 =>
 bnd (faV 2 v9) fun v10 =>
 bnd (ldV 1 false v10 h8) fun v11 =>
 ifV v11 (
 bnd (ncV v7) fun v12 =>
 bnd (faV 3 v12) fun v13 =>
 bnd (ldV 1 false v13 h8) fun v14 =>
 bnd (binV .add (s3 2) v14) fun v15 =>
 bnd (binV .add (s3 3) (.int .i64 1)) fun v16 =>
 again5 (tup [(s3 0), (s3 1), v15, v16]) h8) (
 bnd (binV .add (s3 3) (.int .i64 1)) fun v17 =>
 again5 (tup [(s3 0), (s3 1), (s3 2), v17]) h8)) (
 T Tryz.prog 139 [(s3 2)] h4 fun v18 h19 =>
 bnd (stV 2 (s3 1) v18 h19) fun h20 =>
 bnd (ldV 2 true (s3 1) h20) fun v21 =>
 K v21 h20)) (tup [a0, v1, (.int .i64 0), (.int .i64 0)]) h2
def A129 : Ann := ⟨fun _ => ([], []), fun | 0 => [0, 4, 5, 8] | _ => []⟩
theorem S129_T {a0 a1 : Value} {h : GH} {K : Value → GH → Prop} (g : S129 a0 a1 h K) : T Tryz.prog 129 [a0, a1] h K :=
  T_of_gwp (A := A129) Tryz.func129 (c := bodyOf Tryz.f129) (by kernel_rfl) (by kernel_rfl) (by kernel_rfl) (by kernel_rfl) (by kernel_rfl) (Eq.mp (by kernel_rfl) g)
def S130 (a0 : Value) (h : GH) (K : Value → GH → Prop) : Prop :=
 bnd (lnV a0) fun v1 =>
 Lfp (fun (s2 : Nat → Value) h3 again4 =>
 bnd (binV .lss (s2 4) (s2 3)) fun v5 =>
 ifV v5 (
 bnd (isV 3 (s2 2) (s2 4)) fun v6 =>
 bnd (ldV 3 true v6 h3) fun v7 =>
 newV 236 [(.int .i64 0), (.int .i64 0), (.int .i64 0)] h3 fun v8 h9 =>
 bnd (stV 3 v8 v7 h9) fun h10 =>
 bnd (faV 0 v8) fun v11 =>
 bnd (ldV 1 false v11 h10) fun v12 =>
 bnd (binV .leq v12 (s2 1)) fun v13 =>
 ifV v13 (
 K (.bool false) h10) (
 bnd (faV 0 v8) fun v14 =>
 bnd (ldV 1 false v14 h10) fun v15 =>
 bnd (binV .geq v15 (.int .i64 16)) fun v16 =>
 ifV v16 (
 K (.bool false) h10) (
 bnd (faV 1 v8) fun v17 =>
 bnd (ldV 1 false v17 h10) fun v18 =>
 T Tryz.prog 114 [v18] h10 fun v19 h20 =>
 bnd (unV .not v19) fun v21 =>
 ifV v21 (
 K (.bool false) h20) (
 bnd (faV 2 v8) fun v22 =>
 bnd (ldV 1 false v22 h20) fun v23 =>
 T Tryz.prog 114 [v23] h20 fun v24 h25 =>
 bnd (unV .not v24) fun v26 =>
 ifV v26 (
 K (.bool false) h25) (
 bnd (faV 0 v8) fun v27 =>
 bnd (ldV 1 false v27 h25) fun v28 =>
 bnd (binV .add (s2 4) (.int .i64 1)) fun v29 =>
 again4 (tup [(s2 0), v28, (s2 2), (s2 3), v29]) h25))))) (
 bnd (lnV (s2 0)) fun v30 =>
 bnd (binV .leq v30 (.int .i64 16)) fun v31 =>
 K v31 h3)) (tup [a0, (.int .i64 (-1)), a0, v1, (.int .i64 0)]) h
def A130 : Ann := ⟨fun _ => ([], []), fun | 0 => [0, 3, 6, 7, 8] | _ => []⟩
theorem S130_T {a0 : Value} {h : GH} {K : Value → GH → Prop} (g : S130 a0 h K) : T Tryz.prog 130 [a0] h K :=
  T_of_gwp (A := A130) Tryz.func130 (c := bodyOf Tryz.f130) (by kernel_rfl) (by kernel_rfl) (by kernel_rfl) (by kernel_rfl) (by kernel_rfl) (Eq.mp (by kernel_rfl) g)
def S131 (a0 a1 a2 : Value) (h : GH) (K : Value → GH → Prop) : Prop :=
 newV 220 (a0 : Value).cells.toList h fun v1 h2 =>
 bnd (faV 0 v1) fun v3 =>
 bnd (ldV 1 false v3 h2) fun v4 =>
 T Tryz.prog 141 [a1, a2] h2 fun v5 h6 =>
 ldV 1 false v3 h6 = some v4 ∧
 T Tryz.prog 140 [v4, v5] h6 fun v7 h8 =>
 K v7 h8
def A131 : Ann := ⟨fun | 1 => ([0, 1, 2, 3, 4, 5, 6], [0, 1, 0, 0, 12, 31, 63]) | _ => ([], []), fun _ => []⟩
theorem S131_T {a0 a1 a2 : Value} {h : GH} {K : Value → GH → Prop} (g : S131 a0 a1 a2 h K) : T Tryz.prog 131 [a0, a1, a2] h K :=
  T_of_gwp (A := A131) Tryz.func131 (c := bodyOf Tryz.f131) (by kernel_rfl) (by kernel_rfl) (by kernel_rfl) (by kernel_rfl) (by kernel_rfl) (Eq.mp (by kernel_rfl) g)
def S132 (a0 a1 a2 a3 : Value) (h : GH) (K : Value → GH → Prop) : Prop :=
 newV 220 (a0 : Value).cells.toList h fun v1 h2 =>
 bnd (ldV 1 true v1 h2) fun v3 =>
 T Tryz.prog 131 [v3, a1, a3] h2 fun v4 h5 =>
 bnd (ldV 1 true v1 h5) fun v6 =>
 bnd (ldV 1 true v1 h5) fun v7 =>
 T Tryz.prog 131 [v7, a2, a3] h5 fun v8 h9 =>
 ldV 1 true v1 h9 = some v6 ∧
 T Tryz.prog 142 [v6, a1, a3, v8] h9 fun v10 h11 =>
 bnd (ldV 1 true v1 h11) fun v12 =>
 bnd (binV .add a1 (.int .i64 1)) fun v13 =>
 T Tryz.prog 142 [v12, a2, a3, v13] h11 fun v14 h15 =>
 K (.tuple #[]) h15
def A132 : Ann := ⟨fun | 2 => ([0, 1, 2, 3, 4, 5, 6, 7], [0, 0, 0, 0, 0, 0, 56, 127]) | _ => ([], []), fun _ => []⟩
theorem S132_T {a0 a1 a2 a3 : Value} {h : GH} {K : Value → GH → Prop} (g : S132 a0 a1 a2 a3 h K) : T Tryz.prog 132 [a0, a1, a2, a3] h K :=
  T_of_gwp (A := A132) Tryz.func132 (c := bodyOf Tryz.f132) (by kernel_rfl) (by kernel_rfl) (by kernel_rfl) (by kernel_rfl) (by kernel_rfl) (Eq.mp (by kernel_rfl) g)
def S133 (a0 a1 a2 a3 : Value) (h : GH) (K : Value → GH → Prop) : Prop :=
 newV 220 (a0 : Value).cells.toList h fun v1 h2 =>
 bnd (ldV 1 true v1 h2) fun v3 =>
 bnd (ldV 1 true v1 h2) fun v4 =>
 T Tryz.prog 131 [v4, a1, a3] h2 fun v5 h6 =>
 ldV 1 true v1 h6 = some v3 ∧
 T Tryz.prog 142 [v3, a2, a3, v5] h6 fun v7 h8 =>
 bnd (ldV 1 true v1 h8) fun v9 =>
 T Tryz.prog 142 [v9, a1, a3, (.int .i64 0)] h8 fun v10 h11 =>
 K (.tuple #[]) h11
def A133 : Ann := ⟨fun | 1 => ([0, 1, 2, 3, 4, 5, 6, 7], [0, 0, 0, 0, 0, 0, 56, 127]) | _ => ([], []), fun _ => []⟩
theorem S133_T {a0 a1 a2 a3 : Value} {h : GH} {K : Value → GH → Prop} (g : S133 a0 a1 a2 a3 h K) : T Tryz.prog 133 [a0, a1, a2, a3] h K :=
  T_of_gwp (A := A133) Tryz.func133 (c := bodyOf Tryz.f133) (by kernel_rfl) (by kernel_rfl) (by kernel_rfl) (by kernel_rfl) (by kernel_rfl) (Eq.mp (by kernel_rfl) g)
def S134 (a0 a1 a2 a3 : Value) (h : GH) (K : Value → GH → Prop) : Prop :=
 newV 220 (a0 : Value).cells.toList h fun v1 h2 =>
 bnd (ldV 1 true v1 h2) fun v3 =>
 T Tryz.prog 116 [v3, a2, a3] h2 fun v4 h5 =>
 Lfp (fun (s6 : Nat → Value) h7 again8 =>
 bnd (eqI (s6 4) (.int .i64 (-1))) fun b9 =>
 ifV (.bool (!b9)) (
 bnd (binV .lss (s6 4) (s6 0)) fun v10 =>
 ifV v10 (
 bnd (ldV 1 true (s6 3) h7) fun v11 =>
 T Tryz.prog 116 [v11, (s6 4), (s6 2)] h7 fun v12 h13 =>
 again8 (tup [(s6 0), (s6 4), (s6 2), (s6 3), v12]) h13) (
 K (s6 1) h7)) (
 K (s6 1) h7)) (tup [a1, a2, a3, v1, v4]) h5
def A134 : Ann := ⟨fun _ => ([], []), fun | 0 => [1, 2, 3, 4, 9] | _ => []⟩
theorem S134_T {a0 a1 a2 a3 : Value} {h : GH} {K : Value → GH → Prop} (g : S134 a0 a1 a2 a3 h K) : T Tryz.prog 134 [a0, a1, a2, a3] h K :=
  T_of_gwp (A := A134) Tryz.func134 (c := bodyOf Tryz.f134) (by kernel_rfl) (by kernel_rfl) (by kernel_rfl) (by kernel_rfl) (by kernel_rfl) (Eq.mp (by kernel_rfl) g)
def S135 (a0 a1 : Value) (h : GH) (K : Value → GH → Prop) : Prop :=
 T Tryz.prog 140 [a0, a1] h fun v1 h2 =>
 bnd (binV .gtr v1 (.int .i64 0)) fun v3 =>
 bnd (binV .sub v1 (.int .i64 1)) fun v4 =>
 bnd (fillV [(.pointer none), (.int .i64 0), (.bool false), (.int .i64 0)] [(0, 1, a0), (1, 1, a1), (2, 1, v3), (3, 1, v4)]) fun c5 =>
 newV 254 ((.agg c5.toArray) : Value).cells.toList h2 fun v6 h7 =>
 K v6 h7
def A135 : Ann := ⟨fun _ => ([], []), fun _ => []⟩
theorem S135_T {a0 a1 : Value} {h : GH} {K : Value → GH → Prop} (g : S135 a0 a1 h K) : T Tryz.prog 135 [a0, a1] h K :=
  T_of_gwp (A := A135) Tryz.func135 (c := bodyOf Tryz.f135) (by kernel_rfl) (by kernel_rfl) (by kernel_rfl) (by kernel_rfl) (by kernel_rfl) (Eq.mp (by kernel_rfl) g)
def S136 (a0 : Value) (h : GH) (K : Value → GH → Prop) : Prop :=
 newV 54 [(.int .i64 0), (.int .i64 0)] h fun v1 h2 =>
 bnd (fillV [(.int .i64 0), (.int .i64 0)] [(0, 1, a0)]) fun c3 =>
 bnd (stV 2 v1 (.agg c3.toArray) h2) fun h4 =>
 bnd (ldV 2 true v1 h4) fun v5 =>
 K v5 h4
def A136 : Ann := ⟨fun _ => ([], []), fun _ => []⟩
theorem S136_T {a0 : Value} {h : GH} {K : Value → GH → Prop} (g : S136 a0 h K) : T Tryz.prog 136 [a0] h K :=
  T_of_gwp (A := A136) Tryz.func136 (c := bodyOf Tryz.f136) (by kernel_rfl) (by kernel_rfl) (by kernel_rfl) (by kernel_rfl) (by kernel_rfl) (Eq.mp (by kernel_rfl) g)
def S137 (a0 a1 : Value) (h : GH) (K : Value → GH → Prop) : Prop :=
 newV 54 [(.int .i64 0), (.int .i64 0)] h fun v1 h2 =>
 bnd (ncV a0) fun v3 =>
 bnd (faV 0 v3) fun v4 =>
 bnd (ldV 1 false v4 h2) fun v5 =>
 bnd (ncV a0) fun v6 =>
 bnd (faV 1 v6) fun v7 =>
 bnd (ldV 1 false v7 h2) fun v8 =>
 bnd (binV .add a1 (.int .i64 1)) fun v9 =>
 T Tryz.prog 138 [v5, v8, v9] h2 fun v10 h11 =>
 T Tryz.prog 139 [a1] h11 fun v12 h13 =>
 bnd (stV 2 v1 v12 h13) fun h14 =>
 bnd (ldV 2 true v1 h14) fun v15 =>
 K v15 h14
def A137 : Ann := ⟨fun | 1 => ([0, 1, 2, 3, 4, 5, 6, 7, 8, 9, 10], [0, 1, 3, 7, 0, 16, 48, 112, 0, 256, 1023]) | _ => ([], []), fun _ => []⟩
theorem S137_T {a0 a1 : Value} {h : GH} {K : Value → GH → Prop} (g : S137 a0 a1 h K) : T Tryz.prog 137 [a0, a1] h K :=
  T_of_gwp (A := A137) Tryz.func137 (c := bodyOf Tryz.f137) (by kernel_rfl) (by kernel_rfl) (by kernel_rfl) (by kernel_rfl) (by kernel_rfl) (Eq.mp (by kernel_rfl) g)
def S138 (a0 a1 a2 : Value) (h : GH) (K : Value → GH → Prop) : Prop :=
 bnd (ncV a0) fun v1 =>
 bnd (faV 48 v1) fun v2 =>
 bnd (ldV 1 false v2 h) fun v3 =>
 bnd (eqK .iface true v3 .nilIface) fun b4 =>
 ifV (.bool b4) (
 bnd (ncV a0) fun v5 =>
 bnd (faV 0 v5) fun v6 =>
 bnd (faV 32 v6) fun v7 =>
 bnd (iaV 16 1 v7 a1) fun v8 =>
 bnd (stV 1 v8 a2 h) fun h9 =>
 K (.tuple #[]) h9) (
 K (.tuple #[]) h)
def A138 : Ann := ⟨fun _ => ([], []), fun _ => []⟩
theorem S138_T {a0 a1 a2 : Value} {h : GH} {K : Value → GH → Prop} (g : S138 a0 a1 a2 h K) : T Tryz.prog 138 [a0, a1, a2] h K :=
  T_of_gwp (A := A138) Tryz.func138 (c := bodyOf Tryz.f138) (by kernel_rfl) (by kernel_rfl) (by kernel_rfl) (by kernel_rfl) (by kernel_rfl) (Eq.mp (by kernel_rfl) g)
def S139 (a0 : Value) (h : GH) (K : Value → GH → Prop) : Prop :=
 newV 54 [(.int .i64 0), (.int .i64 0)] h fun v1 h2 =>
 bnd (fillV [(.int .i64 0), (.int .i64 0)] [(0, 1, (.int .i64 0)), (1, 1, a0)]) fun c3 =>
 bnd (stV 2 v1 (.agg c3.toArray) h2) fun h4 =>
 bnd (ldV 2 true v1 h4) fun v5 =>
 K v5 h4
def A139 : Ann := ⟨fun _ => ([], []), fun _ => []⟩
theorem S139_T {a0 : Value} {h : GH} {K : Value → GH → Prop} (g : S139 a0 h K) : T Tryz.prog 139 [a0] h K :=
  T_of_gwp (A := A139) Tryz.func139 (c := bodyOf Tryz.f139) (by kernel_rfl) (by kernel_rfl) (by kernel_rfl) (by kernel_rfl) (by kernel_rfl) (Eq.mp (by kernel_rfl) g)
def S140 (a0 a1 : Value) (h : GH) (K : Value → GH → Prop) : Prop :=
 bnd (ncV a0) fun v1 =>
 bnd (faV 48 v1) fun v2 =>
 bnd (ldV 1 false v2 h) fun v3 =>
 bnd (eqK .iface true v3 .nilIface) fun b4 =>
 ifV (.bool (!b4)) (
 K (.int .i64 0) h) (
 bnd (ncV a0) fun v5 =>
 bnd (faV 0 v5) fun v6 =>
 bnd (faV 0 v6) fun v7 =>
 bnd (iaV 16 1 v7 a1) fun v8 =>
 bnd (ldV 1 false v8 h) fun v9 =>
 bnd (unV .not v9) fun v10 =>
 ifV v10 (
 bnd (ncV a0) fun v11 =>
 bnd (faV 48 v11) fun v12 =>
 bnd (stV 1 v12 (.iface 245 a1) h) fun h13 =>
 K (.int .i64 0) h13) (
 bnd (ncV a0) fun v14 =>
 bnd (faV 0 v14) fun v15 =>
 bnd (faV 32 v15) fun v16 =>
 bnd (iaV 16 1 v16 a1) fun v17 =>
 bnd (ldV 1 false v17 h) fun v18 =>
 K v18 h))
def A140 : Ann := ⟨fun _ => ([], []), fun _ => []⟩
theorem S140_T {a0 a1 : Value} {h : GH} {K : Value → GH → Prop} (g : S140 a0 a1 h K) : T Tryz.prog 140 [a0, a1] h K :=
  T_of_gwp (A := A140) Tryz.func140 (c := bodyOf Tryz.f140) (by kernel_rfl) (by kernel_rfl) (by kernel_rfl) (by kernel_rfl) (by kernel_rfl) (Eq.mp (by kernel_rfl) g)
def S141 (a0 a1 : Value) (h : GH) (K : Value → GH → Prop) : Prop :=
 bnd (binV .sub a0 (.int .i64 (-1))) fun v1 =>
 bnd (binV .mul (.int .i64 2) v1) fun v2 =>
 bnd (binV .add (.int .i64 4) v2) fun v3 =>
 bnd (binV .add v3 a1) fun v4 =>
 K v4 h
def A141 : Ann := ⟨fun _ => ([], []), fun _ => []⟩
theorem S141_T {a0 a1 : Value} {h : GH} {K : Value → GH → Prop} (g : S141 a0 a1 h K) : T Tryz.prog 141 [a0, a1] h K :=
  T_of_gwp (A := A141) Tryz.func141 (c := bodyOf Tryz.f141) (by kernel_rfl) (by kernel_rfl) (by kernel_rfl) (by kernel_rfl) (by kernel_rfl) (Eq.mp (by kernel_rfl) g)
def S142 (a0 a1 a2 a3 : Value) (h : GH) (K : Value → GH → Prop) : Prop :=
 newV 220 (a0 : Value).cells.toList h fun v1 h2 =>
 bnd (faV 0 v1) fun v3 =>
 bnd (ldV 1 false v3 h2) fun v4 =>
 T Tryz.prog 141 [a1, a2] h2 fun v5 h6 =>
 ldV 1 false v3 h6 = some v4 ∧
 T Tryz.prog 138 [v4, v5, a3] h6 fun v7 h8 =>
 K (.tuple #[]) h8
def A142 : Ann := ⟨fun | 1 => ([0, 1, 2, 3, 5, 4, 6], [0, 1, 0, 0, 12, 0, 63]) | _ => ([], []), fun _ => []⟩
theorem S142_T {a0 a1 a2 a3 : Value} {h : GH} {K : Value → GH → Prop} (g : S142 a0 a1 a2 a3 h K) : T Tryz.prog 142 [a0, a1, a2, a3] h K :=
  T_of_gwp (A := A142) Tryz.func142 (c := bodyOf Tryz.f142) (by kernel_rfl) (by kernel_rfl) (by kernel_rfl) (by kernel_rfl) (by kernel_rfl) (Eq.mp (by kernel_rfl) g)
def S161 (a0 : Value) (h : GH) (K : Value → GH → Prop) : Prop :=
 newV 86 (a0 : Value).cells.toList h fun v1 h2 =>
 bnd (faV 1 v1) fun v3 =>
 bnd (ldV 1 false v3 h2) fun v4 =>
 bnd (binV .mul v4 (.int .i64 16)) fun v5 =>
 bnd (faV 0 v1) fun v6 =>
 bnd (ldV 1 false v6 h2) fun v7 =>
 bnd (binV .add v5 v7) fun v8 =>
 K v8 h2
def A161 : Ann := ⟨fun _ => ([], []), fun _ => []⟩
theorem S161_T {a0 : Value} {h : GH} {K : Value → GH → Prop} (g : S161 a0 h K) : T Tryz.prog 161 [a0] h K :=
  T_of_gwp (A := A161) Tryz.func161 (c := bodyOf Tryz.f161) (by kernel_rfl) (by kernel_rfl) (by kernel_rfl) (by kernel_rfl) (by kernel_rfl) (Eq.mp (by kernel_rfl) g)
def S162 (a0 : Value) (h : GH) (K : Value → GH → Prop) : Prop :=
 newV 86 (a0 : Value).cells.toList h fun v1 h2 =>
 bnd (ldV 2 true v1 h2) fun v3 =>
 T Tryz.prog 161 [v3] h2 fun v4 h5 =>
 bnd (binV .mul v4 (.int .i64 4)) fun v6 =>
 bnd (binV .add v6 (.int .i64 2)) fun v7 =>
 K v7 h5
def A162 : Ann := ⟨fun _ => ([], []), fun _ => []⟩
theorem S162_T {a0 : Value} {h : GH} {K : Value → GH → Prop} (g : S162 a0 h K) : T Tryz.prog 162 [a0] h K :=
  T_of_gwp (A := A162) Tryz.func162 (c := bodyOf Tryz.f162) (by kernel_rfl) (by kernel_rfl) (by kernel_rfl) (by kernel_rfl) (by kernel_rfl) (Eq.mp (by kernel_rfl) g)
def S163 (a0 : Value) (h : GH) (K : Value → GH → Prop) : Prop :=
 newV 86 (a0 : Value).cells.toList h fun v1 h2 =>
 newV 156 [(.int .i64 0), (.int .i64 0), (.int .i64 0), (.int .i64 0), (.int .i64 0), (.int .i64 0), (.int .i64 0)] h2 fun v3 h4 =>
 bnd (faV 0 v1) fun v5 =>
 bnd (ldV 1 false v5 h4) fun v6 =>
 bnd (faV 1 v1) fun v7 =>
 bnd (ldV 1 false v7 h4) fun v8 =>
 bnd (fillV [(.int .i64 0), (.int .i64 0), (.int .i64 0), (.int .i64 0), (.int .i64 0), (.int .i64 0), (.int .i64 0)] [(0, 1, (.int .i64 2)), (2, 1, v6), (3, 1, v8)]) fun c9 =>
 bnd (stV 7 v3 (.agg c9.toArray) h4) fun h10 =>
 bnd (ldV 7 true v3 h10) fun v11 =>
 K v11 h10
def A163 : Ann := ⟨fun _ => ([], []), fun _ => []⟩
theorem S163_T {a0 : Value} {h : GH} {K : Value → GH → Prop} (g : S163 a0 h K) : T Tryz.prog 163 [a0] h K :=
  T_of_gwp (A := A163) Tryz.func163 (c := bodyOf Tryz.f163) (by kernel_rfl) (by kernel_rfl) (by kernel_rfl) (by kernel_rfl) (by kernel_rfl) (Eq.mp (by kernel_rfl) g)
def S164 (a0 : Value) (h : GH) (K : Value → GH → Prop) : Prop :=
 newV 156 [(.int .i64 0), (.int .i64 0), (.int .i64 0), (.int .i64 0), (.int .i64 0), (.int .i64 0), (.int .i64 0)] h fun v1 h2 =>
 bnd (fillV [(.int .i64 0), (.int .i64 0), (.int .i64 0), (.int .i64 0), (.int .i64 0), (.int .i64 0), (.int .i64 0)] [(1, 1, a0)]) fun c3 =>
 bnd (stV 7 v1 (.agg c3.toArray) h2) fun h4 =>
 bnd (ldV 7 true v1 h4) fun v5 =>
 K v5 h4
def A164 : Ann := ⟨fun _ => ([], []), fun _ => []⟩
theorem S164_T {a0 : Value} {h : GH} {K : Value → GH → Prop} (g : S164 a0 h K) : T Tryz.prog 164 [a0] h K :=
  T_of_gwp (A := A164) Tryz.func164 (c := bodyOf Tryz.f164) (by kernel_rfl) (by kernel_rfl) (by kernel_rfl) (by kernel_rfl) (by kernel_rfl) (Eq.mp (by kernel_rfl) g)
def S165 (a0 : Value) (h : GH) (K : Value → GH → Prop) : Prop :=
 newV 138 (a0 : Value).cells.toList h fun v1 h2 =>
 bnd (faV 0 v1) fun v3 =>
 bnd (ldV 2 true v3 h2) fun v4 =>
 bnd (faV 2 v1) fun v5 =>
 bnd (ldV 1 false v5 h2) fun v6 =>
 bnd (faV 3 v1) fun v7 =>
 bnd (ldV 1 false v7 h2) fun v8 =>
 bnd (faV 4 v1) fun v9 =>
 bnd (ldV 1 false v9 h2) fun v10 =>
 T Tryz.prog 161 [v4] h2 fun v11 h12 =>
 ldV 1 false v9 h12 = some v10 ∧
 ldV 1 false v7 h12 = some v8 ∧
 ldV 1 false v5 h12 = some v6 ∧
 bnd (binV .mul v11 (.int .i64 16)) fun v13 =>
 bnd (binV .add v13 v6) fun v14 =>
 bnd (binV .mul v14 (.int .i64 4)) fun v15 =>
 bnd (binV .add v15 v8) fun v16 =>
 bnd (binV .mul v16 (.int .i64 1048576)) fun v17 =>
 bnd (binV .add v17 v10) fun v18 =>
 bnd (binV .mul v18 (.int .i64 4)) fun v19 =>
 bnd (binV .add v19 (.int .i64 1)) fun v20 =>
 K v20 h12
def A165 : Ann := ⟨fun | 1 => ([0, 1, 4, 5, 8, 9, 12, 13, 2, 3, 6, 7, 10, 11, 14, 15, 16, 17], [0, 1, 3, 7, 0, 16, 63, 127, 0, 256, 1023, 2047, 0, 4096, 16383, 32767, 65535, 131071]) | _ => ([], []), fun _ => []⟩
theorem S165_T {a0 : Value} {h : GH} {K : Value → GH → Prop} (g : S165 a0 h K) : T Tryz.prog 165 [a0] h K :=
  T_of_gwp (A := A165) Tryz.func165 (c := bodyOf Tryz.f165) (by kernel_rfl) (by kernel_rfl) (by kernel_rfl) (by kernel_rfl) (by kernel_rfl) (Eq.mp (by kernel_rfl) g)
def S166 (a0 : Value) (h : GH) (K : Value → GH → Prop) : Prop :=
 newV 138 (a0 : Value).cells.toList h fun v1 h2 =>
 newV 156 [(.int .i64 0), (.int .i64 0), (.int .i64 0), (.int .i64 0), (.int .i64 0), (.int .i64 0), (.int .i64 0)] h2 fun v3 h4 =>
 bnd (faV 0 v1) fun v5 =>
 bnd (faV 0 v5) fun v6 =>
 bnd (ldV 1 false v6 h4) fun v7 =>
 bnd (faV 0 v1) fun v8 =>
 bnd (faV 1 v8) fun v9 =>
 bnd (ldV 1 false v9 h4) fun v10 =>
 bnd (faV 2 v1) fun v11 =>
 bnd (ldV 1 false v11 h4) fun v12 =>
 bnd (faV 3 v1) fun v13 =>
 bnd (ldV 1 false v13 h4) fun v14 =>
 bnd (faV 4 v1) fun v15 =>
 bnd (ldV 1 false v15 h4) fun v16 =>
 bnd (fillV [(.int .i64 0), (.int .i64 0), (.int .i64 0), (.int .i64 0), (.int .i64 0), (.int .i64 0), (.int .i64 0)] [(0, 1, (.int .i64 1)), (2, 1, v7), (3, 1, v10), (4, 1, v12), (5, 1, v14), (6, 1, v16)]) fun c17 =>
 bnd (stV 7 v3 (.agg c17.toArray) h4) fun h18 =>
 bnd (ldV 7 true v3 h18) fun v19 =>
 K v19 h18
def A166 : Ann := ⟨fun _ => ([], []), fun _ => []⟩
theorem S166_T {a0 : Value} {h : GH} {K : Value → GH → Prop} (g : S166 a0 h K) : T Tryz.prog 166 [a0] h K :=
  T_of_gwp (A := A166) Tryz.func166 (c := bodyOf Tryz.f166) (by kernel_rfl) (by kernel_rfl) (by kernel_rfl) (by kernel_rfl) (by kernel_rfl) (Eq.mp (by kernel_rfl) g)
def S167 (a0 : Value) (h : GH) (K : Value → GH → Prop) : Prop :=
 bnd (eqK .ptr true a0 (.pointer none)) fun b1 =>
 ifV (.bool b1) (
 K (.int .i64 0) h) (
 bnd (ncV a0) fun v2 =>
 bnd (faV 1 v2) fun v3 =>
 bnd (ldV 1 false v3 h) fun v4 =>
 K v4 h)
def A167 : Ann := ⟨fun _ => ([], []), fun _ => []⟩
theorem S167_T {a0 : Value} {h : GH} {K : Value → GH → Prop} (g : S167 a0 h K) : T Tryz.prog 167 [a0] h K :=
  T_of_gwp (A := A167) Tryz.func167 (c := bodyOf Tryz.f167) (by kernel_rfl) (by kernel_rfl) (by kernel_rfl) (by kernel_rfl) (by kernel_rfl) (Eq.mp (by kernel_rfl) g)
def S168_j3 (x0 x1 x6 : Value) (h : GH) (K : Value → GH → Prop)  : Prop :=
 callV Tryz.prog x6 [x1] h fun v1 h2 =>
 bnd (eqI v1 (.int .i64 0)) fun b3 =>
 ifV (.bool (!b3)) (
 bnd (ncV x0) fun v4 =>
 bnd (faV 7 v4) fun v5 =>
 bnd (stV 1 v5 (.bool true) h2) fun h6 =>
 K (.tuple #[(.bool true), (.int .i64 1500)]) h6) (
 bnd (ncV x0) fun v7 =>
 bnd (faV 7 v7) fun v8 =>
 bnd (ldV 1 false v8 h2) fun v9 =>
 K (.tuple #[v9, (.int .i64 0)]) h2)
def S168_j2 (x0 x1 : Value) (h : GH) (K : Value → GH → Prop)  : Prop :=
 bnd (ncV x0) fun v1 =>
 bnd (faV 4 v1) fun v2 =>
 bnd (ldV 1 false v2 h) fun v3 =>
 bnd (eqK .ptr true v3 (.pointer none)) fun b4 =>
 ifV (.bool (!b4)) (
 S168_j3 x0 x1 (.func (.func 171) #[x0] #[]) h K ) (
 S168_j3 x0 x1 (.func (.func 170) #[x0] #[]) h K )
def S168_j1 (x0 x1 x8 : Value) (h : GH) (K : Value → GH → Prop)  : Prop :=
 ifV x8 (
 K (.tuple #[(.bool false), (.int .i64 1)]) h) (
 bnd (ncV x0) fun v1 =>
 bnd (faV 7 v1) fun v2 =>
 bnd (ldV 1 false v2 h) fun v3 =>
 ifV v3 (
 K (.tuple #[(.bool true), (.int .i64 0)]) h) (
 S168_j2 x0 x1 h K ))
def S168 (a0 a1 : Value) (h : GH) (K : Value → GH → Prop) : Prop :=
 bnd (eqK .ptr true a0 (.pointer none)) fun b1 =>
 ifV (.bool b1) (
 S168_j1 a0 a1 (.bool true) h K ) (
 bnd (eqK .ptr true a1 (.pointer none)) fun b2 =>
 S168_j1 a0 a1 (.bool b2) h K )
def A168 : Ann := ⟨fun _ => ([], []), fun _ => []⟩
theorem S168_T {a0 a1 : Value} {h : GH} {K : Value → GH → Prop} (g : S168 a0 a1 h K) : T Tryz.prog 168 [a0, a1] h K :=
  T_of_gwp (A := A168) Tryz.func168 (c := bodyOf Tryz.f168) (by kernel_rfl) (by kernel_rfl) (by kernel_rfl) (by kernel_rfl) (by kernel_rfl) (Eq.mp (by kernel_rfl) g)
def S169 (a0 : Value) (h : GH) (K : Value → GH → Prop) : Prop :=
 bnd (eqK .ptr true a0 (.pointer none)) fun b1 =>
 ifV (.bool b1) (
 K (.tuple #[(.int .i64 0), (.int .i64 0)]) h) (
 bnd (ncV a0) fun v2 =>
 bnd (faV 5 v2) fun v3 =>
 bnd (ldV 1 false v3 h) fun v4 =>
 bnd (ncV a0) fun v5 =>
 bnd (faV 6 v5) fun v6 =>
 bnd (ldV 1 false v6 h) fun v7 =>
 K (.tuple #[v4, v7]) h)
def A169 : Ann := ⟨fun | 3 => ([0, 1, 2, 3, 4, 5, 6, 7, 8, 9], [0, 1, 3, 7, 0, 16, 48, 112, 15, 511]) | _ => ([], []), fun _ => []⟩
theorem S169_T {a0 : Value} {h : GH} {K : Value → GH → Prop} (g : S169 a0 h K) : T Tryz.prog 169 [a0] h K :=
  T_of_gwp (A := A169) Tryz.func169 (c := bodyOf Tryz.f169) (by kernel_rfl) (by kernel_rfl) (by kernel_rfl) (by kernel_rfl) (by kernel_rfl) (Eq.mp (by kernel_rfl) g)
def S170 (a0 a1 : Value) (h : GH) (K : Value → GH → Prop) : Prop :=
 bnd (ncV a0) fun v1 =>
 bnd (faV 2 v1) fun v2 =>
 bnd (ldV 1 false v2 h) fun v3 =>
 T Tryz.prog 62 [a1, v3] h fun v4 h5 =>
 bnd (exV v4 0) fun v6 =>
 bnd (exV v4 1) fun v7 =>
 bnd (ncV a0) fun v8 =>
 bnd (faV 5 v8) fun v9 =>
 bnd (stV 1 v9 (.int .i64 (-1)) h5) fun h10 =>
 bnd (ncV a0) fun v11 =>
 bnd (faV 6 v11) fun v12 =>
 bnd (stV 1 v12 (.int .i64 0) h10) fun h13 =>
 T Tryz.prog 41 [v6] h13 fun v14 h15 =>
 bnd (exV v14 0) fun v16 =>
 bnd (exV v14 1) fun v17 =>
 ifV v17 (
 bnd (ncV a0) fun v18 =>
 bnd (faV 3 v18) fun v19 =>
 bnd (stV 1 v19 v16 h15) fun h20 =>
 bnd (ncV a0) fun v21 =>
 bnd (faV 7 v21) fun v22 =>
 bnd (stV 1 v22 (.bool true) h20) fun h23 =>
 K (.int .i64 0) h23) (
 bnd (ncV a0) fun v24 =>
 bnd (faV 0 v24) fun v25 =>
 bnd (ldV 1 false v25 h15) fun v26 =>
 bnd (ncV a0) fun v27 =>
 bnd (faV 1 v27) fun v28 =>
 bnd (ldV 1 false v28 h15) fun v29 =>
 T Tryz.prog 95 [v26, v29, v6] h15 fun v30 h31 =>
 bnd (exV v30 0) fun v32 =>
 bnd (exV v30 1) fun v33 =>
 bnd (ncV a0) fun v34 =>
 bnd (faV 4 v34) fun v35 =>
 bnd (stV 1 v35 v32 h31) fun h36 =>
 K v33 h36)
def A170 : Ann := ⟨fun | 7 => ([0, 1, 2, 3, 4, 5, 6, 7, 8, 9, 10, 11, 12, 13, 14], [0, 1, 3, 7, 0, 16, 48, 112, 0, 511, 1023, 2047, 2047, 4095, 16383]) | _ => ([], []), fun _ => []⟩
theorem S170_T {a0 a1 : Value} {h : GH} {K : Value → GH → Prop} (g : S170 a0 a1 h K) : T Tryz.prog 170 [a0, a1] h K :=
  T_of_gwp (A := A170) Tryz.func170 (c := bodyOf Tryz.f170) (by kernel_rfl) (by kernel_rfl) (by kernel_rfl) (by kernel_rfl) (by kernel_rfl) (Eq.mp (by kernel_rfl) g)
def S171 (a0 a1 : Value) (h : GH) (K : Value → GH → Prop) : Prop :=
 bnd (ncV a0) fun v1 =>
 bnd (faV 4 v1) fun v2 =>
 bnd (ldV 1 false v2 h) fun v3 =>
 T Tryz.prog 172 [v3, a1] h fun v4 h5 =>
 bnd (exV v4 0) fun v6 =>
 bnd (exV v4 1) fun v7 =>
 bnd (ncV a0) fun v8 =>
 bnd (faV 4 v8) fun v9 =>
 bnd (ldV 1 false v9 h5) fun v10 =>
 T Tryz.prog 173 [v10] h5 fun v11 h12 =>
 bnd (exV v11 0) fun v13 =>
 bnd (exV v11 1) fun v14 =>
 bnd (ncV a0) fun v15 =>
 bnd (faV 5 v15) fun v16 =>
 bnd (stV 1 v16 v13 h12) fun h17 =>
 bnd (ncV a0) fun v18 =>
 bnd (faV 6 v18) fun v19 =>
 bnd (stV 1 v19 v14 h17) fun h20 =>
 bnd (ncV a0) fun v21 =>
 bnd (faV 4 v21) fun v22 =>
 bnd (ldV 1 false v22 h20) fun v23 =>
 T Tryz.prog 174 [v23] h20 fun v24 h25 =>
 bnd (ncV a0) fun v26 =>
 bnd (faV 1 v26) fun v27 =>
 bnd (stV 1 v27 v24 h25) fun h28 =>
 ifV v6 (
 bnd (ncV a0) fun v29 =>
 bnd (faV 4 v29) fun v30 =>
 bnd (stV 1 v30 (.pointer none) h28) fun h31 =>
 K v7 h31) (
 K v7 h28)
def A171 : Ann := ⟨fun _ => ([], []), fun _ => []⟩
theorem S171_T {a0 a1 : Value} {h : GH} {K : Value → GH → Prop} (g : S171 a0 a1 h K) : T Tryz.prog 171 [a0, a1] h K :=
  T_of_gwp (A := A171) Tryz.func171 (c := bodyOf Tryz.f171) (by kernel_rfl) (by kernel_rfl) (by kernel_rfl) (by kernel_rfl) (by kernel_rfl) (Eq.mp (by kernel_rfl) g)
def S172_j4 (x0 x6 x7 x10 : Value) (h : GH) (K : Value → GH → Prop)  : Prop :=
 ifV x10 (
 bnd (ncV x0) fun v1 =>
 bnd (faV 2 v1) fun v2 =>
 bnd (ldV 1 false v2 h) fun v3 =>
 bnd (slV 1 v3 none (some x6)) fun v4 =>
 bnd (eqI x6 (.int .i64 0)) fun b5 =>
 bnd (ncV x0) fun v6 =>
 bnd (faV 2 v6) fun v7 =>
 bnd (stV 1 v7 v4 h) fun h8 =>
 bnd (ncV x0) fun v9 =>
 bnd (faV 5 v9) fun v10 =>
 bnd (stV 1 v10 (.bool b5) h8) fun h11 =>
 bnd (taV 242 (.pointer none) true x7) fun v12 =>
 bnd (exV v12 0) fun v13 =>
 bnd (exV v12 1) fun v14 =>
 bnd (ncV x0) fun v15 =>
 bnd (faV 5 v15) fun v16 =>
 bnd (ldV 1 false v16 h11) fun v17 =>
 ifV v17 (
 ifV v14 (
 bnd (ncV v13) fun v18 =>
 bnd (faV 0 v18) fun v19 =>
 bnd (faV 5 v19) fun v20 =>
 bnd (ldV 1 false v20 h11) fun v21 =>
 bnd (ncV x0) fun v22 =>
 bnd (faV 4 v22) fun v23 =>
 bnd (stV 1 v23 v21 h11) fun h24 =>
 bnd (ncV x0) fun v25 =>
 bnd (faV 5 v25) fun v26 =>
 bnd (ldV 1 false v26 h24) fun v27 =>
 K (.tuple #[v27, (.int .i64 0)]) h24) (
 bnd (ncV x0) fun v28 =>
 bnd (faV 4 v28) fun v29 =>
 bnd (stV 1 v29 (.bool false) h11) fun h30 =>
 bnd (ncV x0) fun v31 =>
 bnd (faV 5 v31) fun v32 =>
 bnd (ldV 1 false v32 h30) fun v33 =>
 K (.tuple #[v33, (.int .i64 0)]) h30)) (
 bnd (ncV x0) fun v34 =>
 bnd (faV 4 v34) fun v35 =>
 bnd (stV 1 v35 (.bool false) h11) fun h36 =>
 bnd (ncV x0) fun v37 =>
 bnd (faV 5 v37) fun v38 =>
 bnd (ldV 1 false v38 h36) fun v39 =>
 K (.tuple #[v39, (.int .i64 0)]) h36)) (
 bnd (ncV x0) fun v40 =>
 bnd (faV 5 v40) fun v41 =>
 bnd (ldV 1 false v41 h) fun v42 =>
 K (.tuple #[v42, (.int .i64 0)]) h)
def S172_j3 (x0 x6 x7 x9 x10 : Value) (h : GH) (K : Value → GH → Prop)  : Prop :=
 bnd (eqK .iface true x9 .nilIface) fun b1 =>
 ifV (.bool (!b1)) (
 bnd (ncV x0) fun v2 =>
 bnd (faV 2 v2) fun v3 =>
 bnd (ldV 1 false v3 h) fun v4 =>
 bsV 211 1 [.nilIface] [(0, 1, x9)] h fun v5 h6 =>
 apV 211 1 16 v4 v5 h6 fun v7 h8 =>
 bnd (ncV x0) fun v9 =>
 bnd (faV 2 v9) fun v10 =>
 bnd (stV 1 v10 v7 h8) fun h11 =>
 S172_j4 x0 x6 x7 x10 h11 K ) (
 S172_j4 x0 x6 x7 x10 h K )
def S172_j2 (x0 x1 : Value) (h : GH) (K : Value → GH → Prop)  : Prop :=
 bnd (ncV x0) fun v1 =>
 bnd (faV 2 v1) fun v2 =>
 bnd (ldV 1 false v2 h) fun v3 =>
 bnd (lnV v3) fun v4 =>
 bnd (binV .sub v4 (.int .i64 1)) fun v5 =>
 bnd (ncV x0) fun v6 =>
 bnd (faV 2 v6) fun v7 =>
 bnd (ldV 1 false v7 h) fun v8 =>
 bnd (isV 1 v8 v5) fun v9 =>
 bnd (ldV 1 false v9 h) fun v10 =>
 ivV Tryz.prog v10 "pawl/mcas.through" [] h fun v11 h12 =>
 newV 86 [(.int .i64 0), (.int .i64 0)] h12 fun v13 h14 =>
 bnd (stV 2 v13 v11 h14) fun h15 =>
 bnd (ncV x0) fun v16 =>
 bnd (faV 3 v16) fun v17 =>
 bnd (stV 1 v17 v13 h15) fun h18 =>
 ivV Tryz.prog v10 "pawl/mcas.step" [x1] h18 fun v19 h20 =>
 bnd (exV v19 0) fun v21 =>
 bnd (exV v19 1) fun v22 =>
 bnd (exV v19 2) fun v23 =>
 bnd (unV .not v23) fun v24 =>
 ifV v24 (
 bnd (ncV x0) fun v25 =>
 bnd (faV 5 v25) fun v26 =>
 bnd (stV 1 v26 (.bool true) h20) fun h27 =>
 K (.tuple #[(.bool true), (.int .i64 1400)]) h27) (
 bnd (eqK .iface true v21 .nilIface) fun b28 =>
 ifV (.bool (!b28)) (
 bnd (ncV x0) fun v29 =>
 bnd (faV 2 v29) fun v30 =>
 bnd (ldV 1 false v30 h20) fun v31 =>
 bnd (lnV v31) fun v32 =>
 bnd (binV .geq v32 (.int .i64 18)) fun v33 =>
 ifV v33 (
 bnd (ncV x0) fun v34 =>
 bnd (faV 5 v34) fun v35 =>
 bnd (stV 1 v35 (.bool true) h20) fun h36 =>
 K (.tuple #[(.bool true), (.int .i64 1400)]) h36) (
 S172_j3 x0 v5 v10 v21 v22 h20 K )) (
 S172_j3 x0 v5 v10 v21 v22 h20 K ))
def S172_j1 (x0 x1 x14 : Value) (h : GH) (K : Value → GH → Prop)  : Prop :=
 ifV x14 (
 K (.tuple #[(.bool false), (.int .i64 1)]) h) (
 bnd (ncV x0) fun v1 =>
 bnd (faV 5 v1) fun v2 =>
 bnd (ldV 1 false v2 h) fun v3 =>
 ifV v3 (
 K (.tuple #[(.bool true), (.int .i64 0)]) h) (
 S172_j2 x0 x1 h K ))
def S172 (a0 a1 : Value) (h : GH) (K : Value → GH → Prop) : Prop :=
 bnd (eqK .ptr true a0 (.pointer none)) fun b1 =>
 ifV (.bool b1) (
 S172_j1 a0 a1 (.bool true) h K ) (
 bnd (eqK .ptr true a1 (.pointer none)) fun b2 =>
 S172_j1 a0 a1 (.bool b2) h K )
def A172 : Ann := ⟨fun _ => ([], []), fun _ => []⟩
theorem S172_T {a0 a1 : Value} {h : GH} {K : Value → GH → Prop} (g : S172 a0 a1 h K) : T Tryz.prog 172 [a0, a1] h K :=
  T_of_gwp (A := A172) Tryz.func172 (c := bodyOf Tryz.f172) (by kernel_rfl) (by kernel_rfl) (by kernel_rfl) (by kernel_rfl) (by kernel_rfl) (Eq.mp (by kernel_rfl) g)
def S173 (a0 : Value) (h : GH) (K : Value → GH → Prop) : Prop :=
 bnd (eqK .ptr true a0 (.pointer none)) fun b1 =>
 ifV (.bool b1) (
 K (.tuple #[(.int .i64 0), (.int .i64 0)]) h) (
 bnd (ncV a0) fun v2 =>
 bnd (faV 3 v2) fun v3 =>
 bnd (ldV 1 false v3 h) fun v4 =>
 bnd (eqK .ptr true v4 (.pointer none)) fun b5 =>
 ifV (.bool b5) (
 K (.tuple #[(.int .i64 (-1)), (.int .i64 0)]) h) (
 bnd (ncV a0) fun v6 =>
 bnd (faV 3 v6) fun v7 =>
 bnd (ldV 1 false v7 h) fun v8 =>
 bnd (ncV v8) fun v9 =>
 bnd (faV 0 v9) fun v10 =>
 bnd (ldV 1 false v10 h) fun v11 =>
 bnd (ncV a0) fun v12 =>
 bnd (faV 3 v12) fun v13 =>
 bnd (ldV 1 false v13 h) fun v14 =>
 bnd (ncV v14) fun v15 =>
 bnd (faV 1 v15) fun v16 =>
 bnd (ldV 1 false v16 h) fun v17 =>
 K (.tuple #[v11, v17]) h))
def A173 : Ann := ⟨fun | 5 => ([0, 1, 2, 3, 4, 5, 6, 7, 8, 9, 10, 11, 12, 13, 14, 15], [0, 1, 3, 7, 15, 31, 63, 0, 128, 384, 896, 1920, 3968, 8064, 127, 32767]) | _ => ([], []), fun _ => []⟩
theorem S173_T {a0 : Value} {h : GH} {K : Value → GH → Prop} (g : S173 a0 h K) : T Tryz.prog 173 [a0] h K :=
  T_of_gwp (A := A173) Tryz.func173 (c := bodyOf Tryz.f173) (by kernel_rfl) (by kernel_rfl) (by kernel_rfl) (by kernel_rfl) (by kernel_rfl) (Eq.mp (by kernel_rfl) g)
def S174 (a0 : Value) (h : GH) (K : Value → GH → Prop) : Prop :=
 bnd (eqK .ptr true a0 (.pointer none)) fun b1 =>
 ifV (.bool b1) (
 K (.int .i64 0) h) (
 bnd (ncV a0) fun v2 =>
 bnd (faV 0 v2) fun v3 =>
 bnd (faV 1 v3) fun v4 =>
 bnd (ldV 1 false v4 h) fun v5 =>
 K v5 h)
def A174 : Ann := ⟨fun _ => ([], []), fun _ => []⟩
theorem S174_T {a0 : Value} {h : GH} {K : Value → GH → Prop} (g : S174 a0 h K) : T Tryz.prog 174 [a0] h K :=
  T_of_gwp (A := A174) Tryz.func174 (c := bodyOf Tryz.f174) (by kernel_rfl) (by kernel_rfl) (by kernel_rfl) (by kernel_rfl) (by kernel_rfl) (Eq.mp (by kernel_rfl) g)
def S175_j2 (x0 : Value) (h : GH) (K : Value → GH → Prop)  : Prop :=
 bnd (ncV x0) fun v1 =>
 bnd (faV 1 v1) fun v2 =>
 bnd (ldV 1 false v2 h) fun v3 =>
 bnd (lnV v3) fun v4 =>
 bnd (eqI v4 (.int .i64 0)) fun b5 =>
 K (.tuple #[(.bool b5), (.int .i64 0)]) h
def S175_j1 (x0 x1 : Value) (h : GH) (K : Value → GH → Prop)  : Prop :=
 bnd (ncV x0) fun v1 =>
 bnd (faV 1 v1) fun v2 =>
 bnd (ldV 1 false v2 h) fun v3 =>
 bnd (lnV v3) fun v4 =>
 bnd (binV .gtr v4 (.int .i64 0)) fun v5 =>
 ifV v5 (
 bnd (ncV x0) fun v6 =>
 bnd (faV 0 v6) fun v7 =>
 bnd (ldV 1 false v7 h) fun v8 =>
 bnd (ncV x0) fun v9 =>
 bnd (faV 1 v9) fun v10 =>
 bnd (ldV 1 false v10 h) fun v11 =>
 bnd (isV 1 v11 (.int .i64 0)) fun v12 =>
 bnd (ldV 1 false v12 h) fun v13 =>
 T Tryz.prog 61 [x1, v8, v13] h fun v14 h15 =>
 bnd (ncV x0) fun v16 =>
 bnd (faV 0 v16) fun v17 =>
 bnd (ldV 1 false v17 h15) fun v18 =>
 bnd (binV .add v18 (.int .i64 1)) fun v19 =>
 bnd (ncV x0) fun v20 =>
 bnd (faV 0 v20) fun v21 =>
 bnd (stV 1 v21 v19 h15) fun h22 =>
 bnd (ncV x0) fun v23 =>
 bnd (faV 1 v23) fun v24 =>
 bnd (ldV 1 false v24 h22) fun v25 =>
 bnd (slV 1 v25 (some (.int .i64 1)) none) fun v26 =>
 bnd (ncV x0) fun v27 =>
 bnd (faV 1 v27) fun v28 =>
 bnd (stV 1 v28 v26 h22) fun h29 =>
 S175_j2 x0 h29 K ) (
 S175_j2 x0 h K )
def S175 (a0 a1 : Value) (h : GH) (K : Value → GH → Prop) : Prop :=
 bnd (eqK .ptr true a0 (.pointer none)) fun b1 =>
 ifV (.bool b1) (
 K (.tuple #[(.bool false), (.int .i64 1)]) h) (
 bnd (eqK .ptr true a1 (.pointer none)) fun b2 =>
 ifV (.bool b2) (
 K (.tuple #[(.bool false), (.int .i64 1)]) h) (
 S175_j1 a0 a1 h K ))
def A175 : Ann := ⟨fun | 4 => ([0, 1, 2, 3, 4, 5, 6, 7, 8, 9, 10, 11], [0, 0, 2, 6, 14, 0, 32, 96, 224, 480, 992, 2047]) | _ => ([], []), fun _ => []⟩
theorem S175_T {a0 a1 : Value} {h : GH} {K : Value → GH → Prop} (g : S175 a0 a1 h K) : T Tryz.prog 175 [a0, a1] h K :=
  T_of_gwp (A := A175) Tryz.func175 (c := bodyOf Tryz.f175) (by kernel_rfl) (by kernel_rfl) (by kernel_rfl) (by kernel_rfl) (by kernel_rfl) (Eq.mp (by kernel_rfl) g)
def S176 (a0 : Value) (h : GH) (K : Value → GH → Prop) : Prop :=
 bnd (ncV a0) fun v1 =>
 bnd (faV 1 v1) fun v2 =>
 bnd (ldV 1 false v2 h) fun v3 =>
 bnd (binV .add v3 (.int .i64 1)) fun v4 =>
 bnd (binV .rem v4 (.int .i64 1048576)) fun v5 =>
 bnd (ncV a0) fun v6 =>
 bnd (faV 1 v6) fun v7 =>
 bnd (stV 1 v7 v5 h) fun h8 =>
 K v3 h8
def A176 : Ann := ⟨fun _ => ([], []), fun _ => []⟩
theorem S176_T {a0 : Value} {h : GH} {K : Value → GH → Prop} (g : S176 a0 h K) : T Tryz.prog 176 [a0] h K :=
  T_of_gwp (A := A176) Tryz.func176 (c := bodyOf Tryz.f176) (by kernel_rfl) (by kernel_rfl) (by kernel_rfl) (by kernel_rfl) (by kernel_rfl) (Eq.mp (by kernel_rfl) g)
def S177 (a0 a1 : Value) (h : GH) (K : Value → GH → Prop) : Prop :=
 bnd (ncV a0) fun v1 =>
 bnd (faV 11 v1) fun v2 =>
 bnd (ldV 1 false v2 h) fun v3 =>
 bnd (binV .add v3 (.int .i64 1)) fun v4 =>
 bnd (ncV a0) fun v5 =>
 bnd (faV 11 v5) fun v6 =>
 bnd (stV 1 v6 v4 h) fun h7 =>
 bnd (ncV a0) fun v8 =>
 bnd (faV 11 v8) fun v9 =>
 bnd (ldV 1 false v9 h7) fun v10 =>
 bnd (eqI v10 (.int .i64 1)) fun b11 =>
 ifV (.bool b11) (
 bnd (ncV a0) fun v12 =>
 bnd (faV 0 v12) fun v13 =>
 bnd (ncV a0) fun v14 =>
 bnd (faV 6 v14) fun v15 =>
 bnd (faV 2 v15) fun v16 =>
 bnd (ldV 1 false v16 h7) fun v17 =>
 T Tryz.prog 179 [v13, a1, v17] h7 fun v18 h19 =>
 K (.tuple #[.nilIface, (.bool false), v18]) h19) (
 bnd (eqI v10 (.int .i64 2)) fun b20 =>
 ifV (.bool b20) (
 bnd (ncV a0) fun v21 =>
 bnd (faV 0 v21) fun v22 =>
 bnd (ncV a0) fun v23 =>
 bnd (faV 6 v23) fun v24 =>
 bnd (faV 2 v24) fun v25 =>
 bnd (ldV 1 false v25 h7) fun v26 =>
 T Tryz.prog 180 [v22, a1, v26] h7 fun v27 h28 =>
 K (.tuple #[.nilIface, (.bool false), v27]) h28) (
 bnd (eqI v10 (.int .i64 3)) fun b29 =>
 ifV (.bool b29) (
 bnd (ncV a0) fun v30 =>
 bnd (faV 0 v30) fun v31 =>
 T Tryz.prog 181 [v31, a1] h7 fun v32 h33 =>
 K (.tuple #[.nilIface, (.bool false), v32]) h33) (
 bnd (ncV a0) fun v34 =>
 bnd (faV 0 v34) fun v35 =>
 bnd (ncV a0) fun v36 =>
 bnd (faV 6 v36) fun v37 =>
 bnd (ldV 5 true v37 h7) fun v38 =>
 T Tryz.prog 96 [(.iface 138 v38)] h7 fun v39 h40 =>
 T Tryz.prog 182 [v35, a1, v39] h40 fun v41 h42 =>
 K (.tuple #[.nilIface, (.bool true), (.bool true)]) h42)))
def A177 : Ann := ⟨fun | 4 => ([0, 1, 2, 3, 4, 5, 6, 7, 8, 9, 10, 11, 12], [0, 1, 3, 0, 0, 16, 48, 112, 240, 511, 1023, 2047, 4095]) | 6 => ([0, 1, 2, 3, 4, 5, 6, 7, 8, 9, 10, 11, 12], [0, 1, 3, 0, 0, 16, 48, 112, 240, 511, 1023, 2047, 4095]) | 9 => ([0, 1, 2, 3, 4, 5, 6, 7, 8, 9, 10], [0, 1, 3, 0, 0, 16, 48, 112, 240, 496, 1023]) | _ => ([], []), fun _ => []⟩
theorem S177_T {a0 a1 : Value} {h : GH} {K : Value → GH → Prop} (g : S177 a0 a1 h K) : T Tryz.prog 177 [a0, a1] h K :=
  T_of_gwp (A := A177) Tryz.func177 (c := bodyOf Tryz.f177) (by kernel_rfl) (by kernel_rfl) (by kernel_rfl) (by kernel_rfl) (by kernel_rfl) (Eq.mp (by kernel_rfl) g)
def S178 (a0 : Value) (h : GH) (K : Value → GH → Prop) : Prop :=
 newV 86 [(.int .i64 0), (.int .i64 0)] h fun v1 h2 =>
 bnd (ncV a0) fun v3 =>
 bnd (faV 0 v3) fun v4 =>
 bnd (ldV 2 true v4 h2) fun v5 =>
 bnd (stV 2 v1 v5 h2) fun h6 =>
 bnd (ldV 2 true v1 h6) fun v7 =>
 K v7 h6
def A178 : Ann := ⟨fun _ => ([], []), fun _ => []⟩
theorem S178_T {a0 : Value} {h : GH} {K : Value → GH → Prop} (g : S178 a0 h K) : T Tryz.prog 178 [a0] h K :=
  T_of_gwp (A := A178) Tryz.func178 (c := bodyOf Tryz.f178) (by kernel_rfl) (by kernel_rfl) (by kernel_rfl) (by kernel_rfl) (by kernel_rfl) (Eq.mp (by kernel_rfl) g)
def S179 (a0 a1 a2 : Value) (h : GH) (K : Value → GH → Prop) : Prop :=
 T Tryz.prog 183 [a0, a1, a2, (.int .i64 0)] h fun v1 h2 =>
 bnd (exV v1 0) fun v3 =>
 bnd (exV v1 1) fun v4 =>
 bnd (ncV a0) fun v5 =>
 bnd (faV 2 v5) fun v6 =>
 bnd (stV 1 v6 v3 h2) fun h7 =>
 K v4 h7
def A179 : Ann := ⟨fun _ => ([], []), fun _ => []⟩
theorem S179_T {a0 a1 a2 : Value} {h : GH} {K : Value → GH → Prop} (g : S179 a0 a1 a2 h K) : T Tryz.prog 179 [a0, a1, a2] h K :=
  T_of_gwp (A := A179) Tryz.func179 (c := bodyOf Tryz.f179) (by kernel_rfl) (by kernel_rfl) (by kernel_rfl) (by kernel_rfl) (by kernel_rfl) (Eq.mp (by kernel_rfl) g)
def S180 (a0 a1 a2 : Value) (h : GH) (K : Value → GH → Prop) : Prop :=
 T Tryz.prog 183 [a0, a1, a2, (.int .i64 1)] h fun v1 h2 =>
 bnd (exV v1 0) fun v3 =>
 bnd (exV v1 1) fun v4 =>
 ifV v4 (
 T Tryz.prog 26 [v3] h2 fun v5 h6 =>
 bnd (ncV a0) fun v7 =>
 bnd (faV 3 v7) fun v8 =>
 bnd (stV 1 v8 v5 h6) fun h9 =>
 K v4 h9) (
 K v4 h2)
def A180 : Ann := ⟨fun _ => ([], []), fun _ => []⟩
theorem S180_T {a0 a1 a2 : Value} {h : GH} {K : Value → GH → Prop} (g : S180 a0 a1 a2 h K) : T Tryz.prog 180 [a0, a1, a2] h K :=
  T_of_gwp (A := A180) Tryz.func180 (c := bodyOf Tryz.f180) (by kernel_rfl) (by kernel_rfl) (by kernel_rfl) (by kernel_rfl) (by kernel_rfl) (Eq.mp (by kernel_rfl) g)
def S181 (a0 a1 : Value) (h : GH) (K : Value → GH → Prop) : Prop :=
 bnd (ncV a0) fun v1 =>
 bnd (faV 0 v1) fun v2 =>
 bnd (faV 0 v2) fun v3 =>
 bnd (ldV 1 false v3 h) fun v4 =>
 T Tryz.prog 42 [v4] h fun v5 h6 =>
 T Tryz.prog 62 [a1, v5] h6 fun v7 h8 =>
 bnd (exV v7 0) fun v9 =>
 bnd (exV v7 1) fun v10 =>
 T Tryz.prog 41 [v9] h8 fun v11 h12 =>
 bnd (exV v11 0) fun v13 =>
 bnd (exV v11 1) fun v14 =>
 bnd (ncV a0) fun v15 =>
 bnd (faV 0 v15) fun v16 =>
 bnd (faV 1 v16) fun v17 =>
 bnd (ldV 1 false v17 h12) fun v18 =>
 T Tryz.prog 43 [v18, (.int .i64 0)] h12 fun v19 h20 =>
 bnd (eqI v9 v19) fun b21 =>
 bnd (ncV a0) fun v22 =>
 bnd (faV 4 v22) fun v23 =>
 bnd (stV 1 v23 (.bool b21) h20) fun h24 =>
 bnd (ncV a0) fun v25 =>
 bnd (faV 0 v25) fun v26 =>
 bnd (faV 1 v26) fun v27 =>
 bnd (ldV 1 false v27 h24) fun v28 =>
 T Tryz.prog 43 [v28, (.int .i64 1)] h24 fun v29 h30 =>
 bnd (eqI v9 v29) fun b31 =>
 bnd (ncV a0) fun v32 =>
 bnd (faV 5 v32) fun v33 =>
 bnd (stV 1 v33 (.bool b31) h30) fun h34 =>
 K v14 h34
def A181 : Ann := ⟨fun _ => ([], []), fun _ => []⟩
theorem S181_T {a0 a1 : Value} {h : GH} {K : Value → GH → Prop} (g : S181 a0 a1 h K) : T Tryz.prog 181 [a0, a1] h K :=
  T_of_gwp (A := A181) Tryz.func181 (c := bodyOf Tryz.f181) (by kernel_rfl) (by kernel_rfl) (by kernel_rfl) (by kernel_rfl) (by kernel_rfl) (Eq.mp (by kernel_rfl) g)
def S182_j1 (x0 x1 x2 x6 : Value) (h : GH) (K : Value → GH → Prop)  : Prop :=
 bnd (ncV x0) fun v1 =>
 bnd (faV 2 v1) fun v2 =>
 bnd (ldV 1 false v2 h) fun v3 =>
 T Tryz.prog 89 [x1, v3, x2, x6] h fun v4 h5 =>
 K (.tuple #[]) h5
def S182 (a0 a1 a2 : Value) (h : GH) (K : Value → GH → Prop) : Prop :=
 bnd (ncV a0) fun v1 =>
 bnd (faV 3 v1) fun v2 =>
 bnd (ldV 1 false v2 h) fun v3 =>
 bnd (ncV a0) fun v4 =>
 bnd (faV 4 v4) fun v5 =>
 bnd (ldV 1 false v5 h) fun v6 =>
 ifV v6 (
 bnd (ncV a0) fun v7 =>
 bnd (faV 0 v7) fun v8 =>
 bnd (ldV 2 true v8 h) fun v9 =>
 T Tryz.prog 96 [(.iface 86 v9)] h fun v10 h11 =>
 S182_j1 a0 a1 a2 v10 h11 K ) (
 S182_j1 a0 a1 a2 v3 h K )
def A182 : Ann := ⟨fun _ => ([], []), fun _ => []⟩
theorem S182_T {a0 a1 a2 : Value} {h : GH} {K : Value → GH → Prop} (g : S182 a0 a1 a2 h K) : T Tryz.prog 182 [a0, a1, a2] h K :=
  T_of_gwp (A := A182) Tryz.func182 (c := bodyOf Tryz.f182) (by kernel_rfl) (by kernel_rfl) (by kernel_rfl) (by kernel_rfl) (by kernel_rfl) (Eq.mp (by kernel_rfl) g)
def S183_j1 (x0 x1 x2 x3 x10 : Value) (h : GH) (K : Value → GH → Prop)  : Prop :=
 bnd (binV .mul (.int .i64 3) x2) fun v1 =>
 bnd (binV .add (.int .i64 2) v1) fun v2 =>
 bnd (binV .add v2 x3) fun v3 =>
 T Tryz.prog 184 [x0, x1, v3, x10] h fun v4 h5 =>
 bnd (exV v4 0) fun v6 =>
 bnd (exV v4 1) fun v7 =>
 K (.tuple #[v6, v7]) h5
def S183 (a0 a1 a2 a3 : Value) (h : GH) (K : Value → GH → Prop) : Prop :=
 bnd (eqI a3 (.int .i64 0)) fun b1 =>
 ifV (.bool b1) (
 S183_j1 a0 a1 a2 a3 (.int .i64 15) h K ) (
 S183_j1 a0 a1 a2 a3 (.int .i64 1099511627775) h K )
def A183 : Ann := ⟨fun _ => ([], []), fun _ => []⟩
theorem S183_T {a0 a1 a2 a3 : Value} {h : GH} {K : Value → GH → Prop} (g : S183 a0 a1 a2 a3 h K) : T Tryz.prog 183 [a0, a1, a2, a3] h K :=
  T_of_gwp (A := A183) Tryz.func183 (c := bodyOf Tryz.f183) (by kernel_rfl) (by kernel_rfl) (by kernel_rfl) (by kernel_rfl) (by kernel_rfl) (Eq.mp (by kernel_rfl) g)
def S184 (a0 a1 a2 a3 : Value) (h : GH) (K : Value → GH → Prop) : Prop :=
 bnd (ncV a0) fun v1 =>
 bnd (faV 0 v1) fun v2 =>
 bnd (faV 0 v2) fun v3 =>
 bnd (ldV 1 false v3 h) fun v4 =>
 T Tryz.prog 42 [v4] h fun v5 h6 =>
 bnd (binV .add v5 a2) fun v7 =>
 T Tryz.prog 62 [a1, v7] h6 fun v8 h9 =>
 bnd (exV v8 0) fun v10 =>
 bnd (exV v8 1) fun v11 =>
 T Tryz.prog 41 [v10] h9 fun v12 h13 =>
 bnd (exV v12 0) fun v14 =>
 bnd (exV v12 1) fun v15 =>
 ifV v15 (
 bnd (binV .leq v14 a3) fun v16 =>
 K (.tuple #[v14, v16]) h13) (
 K (.tuple #[v14, (.bool false)]) h13)
def A184 : Ann := ⟨fun _ => ([], []), fun _ => []⟩
theorem S184_T {a0 a1 a2 a3 : Value} {h : GH} {K : Value → GH → Prop} (g : S184 a0 a1 a2 a3 h K) : T Tryz.prog 184 [a0, a1, a2, a3] h K :=
  T_of_gwp (A := A184) Tryz.func184 (c := bodyOf Tryz.f184) (by kernel_rfl) (by kernel_rfl) (by kernel_rfl) (by kernel_rfl) (by kernel_rfl) (Eq.mp (by kernel_rfl) g)
def S185 (a0 a1 a2 : Value) (h : GH) (K : Value → GH → Prop) : Prop :=
 bnd (ncV a0) fun v1 =>
 bnd (faV 8 v1) fun v2 =>
 bnd (ldV 1 false v2 h) fun v3 =>
 bnd (binV .add v3 (.int .i64 1)) fun v4 =>
 bnd (ncV a0) fun v5 =>
 bnd (faV 8 v5) fun v6 =>
 bnd (stV 1 v6 v4 h) fun h7 =>
 bnd (ncV a0) fun v8 =>
 bnd (faV 7 v8) fun v9 =>
 bnd (stV 1 v9 a1 h7) fun h10 =>
 bnd (ncV a0) fun v11 =>
 bnd (faV 8 v11) fun v12 =>
 bnd (ldV 1 false v12 h10) fun v13 =>
 bnd (ncV a0) fun v14 =>
 bnd (faV 9 v14) fun v15 =>
 bnd (ldV 1 false v15 h10) fun v16 =>
 bnd (binV .geq v13 v16) fun v17 =>
 ifV v17 (
 bnd (ncV a0) fun v18 =>
 bnd (faV 7 v18) fun v19 =>
 bnd (stV 1 v19 a2 h10) fun h20 =>
 bnd (ncV a0) fun v21 =>
 bnd (faV 7 v21) fun v22 =>
 bnd (ldV 1 false v22 h20) fun v23 =>
 bnd (eqI v23 a2) fun b24 =>
 K (.bool b24) h20) (
 bnd (ncV a0) fun v25 =>
 bnd (faV 7 v25) fun v26 =>
 bnd (ldV 1 false v26 h10) fun v27 =>
 bnd (eqI v27 a2) fun b28 =>
 K (.bool b28) h10)
def A185 : Ann := ⟨fun | 3 => ([0, 1, 2, 3, 4, 5, 6, 7, 8], [0, 1, 3, 7, 0, 16, 48, 112, 255]) | _ => ([], []), fun _ => []⟩
theorem S185_T {a0 a1 a2 : Value} {h : GH} {K : Value → GH → Prop} (g : S185 a0 a1 a2 h K) : T Tryz.prog 185 [a0, a1, a2] h K :=
  T_of_gwp (A := A185) Tryz.func185 (c := bodyOf Tryz.f185) (by kernel_rfl) (by kernel_rfl) (by kernel_rfl) (by kernel_rfl) (by kernel_rfl) (Eq.mp (by kernel_rfl) g)
def S186_j3 (x0 x1 x9 x37 x48 : Value) (h : GH) (K : Value → GH → Prop)  : Prop :=
 ifV x48 (
 T Tryz.prog 189 [x0, x1] h fun v1 h2 =>
 bnd (exV v1 0) fun v3 =>
 bnd (exV v1 1) fun v4 =>
 bnd (exV v1 2) fun v5 =>
 K (.tuple #[v3, v4, v5]) h2) (
 bnd (eqI x37 (.int .i64 2)) fun b6 =>
 ifV (.bool b6) (
 T Tryz.prog 190 [x0, x1] h fun v7 h8 =>
 bnd (exV v7 0) fun v9 =>
 bnd (exV v7 1) fun v10 =>
 ifV v9 (
 bnd (ncV x0) fun v11 =>
 bnd (faV 7 v11) fun v12 =>
 bnd (stV 1 v12 (.int .i64 8) h8) fun h13 =>
 K (.tuple #[.nilIface, (.bool false), v10]) h13) (
 K (.tuple #[.nilIface, (.bool false), v10]) h8)) (
 bnd (eqI x37 (.int .i64 3)) fun b14 =>
 ifV (.bool b14) (
 bnd (ncV x0) fun v15 =>
 bnd (faV 0 v15) fun v16 =>
 bnd (ncV x0) fun v17 =>
 bnd (faV 8 v17) fun v18 =>
 bnd (ldV 1 false v18 h) fun v19 =>
 T Tryz.prog 179 [v16, x1, v19] h fun v20 h21 =>
 bnd (ncV x0) fun v22 =>
 bnd (faV 7 v22) fun v23 =>
 bnd (stV 1 v23 (.int .i64 4) h21) fun h24 =>
 K (.tuple #[.nilIface, (.bool false), v20]) h24) (
 bnd (eqI x37 (.int .i64 4)) fun b25 =>
 ifV (.bool b25) (
 bnd (ncV x0) fun v26 =>
 bnd (faV 0 v26) fun v27 =>
 bnd (ncV x0) fun v28 =>
 bnd (faV 8 v28) fun v29 =>
 bnd (ldV 1 false v29 h) fun v30 =>
 T Tryz.prog 180 [v27, x1, v30] h fun v31 h32 =>
 bnd (ncV x0) fun v33 =>
 bnd (faV 7 v33) fun v34 =>
 bnd (stV 1 v34 (.int .i64 5) h32) fun h35 =>
 K (.tuple #[.nilIface, (.bool false), v31]) h35) (
 bnd (eqI x37 (.int .i64 6)) fun b36 =>
 ifV (.bool b36) (
 bnd (ncV x0) fun v37 =>
 bnd (faV 0 v37) fun v38 =>
 T Tryz.prog 181 [v38, x1] h fun v39 h40 =>
 bnd (ncV x0) fun v41 =>
 bnd (faV 7 v41) fun v42 =>
 bnd (stV 1 v42 (.int .i64 7) h40) fun h43 =>
 K (.tuple #[.nilIface, (.bool false), v39]) h43) (
 bnd (eqI x37 (.int .i64 7)) fun b44 =>
 ifV (.bool b44) (
 bnd (ncV x0) fun v45 =>
 bnd (faV 0 v45) fun v46 =>
 bnd (ncV x0) fun v47 =>
 bnd (faV 10 v47) fun v48 =>
 bnd (ldV 1 false v48 h) fun v49 =>
 T Tryz.prog 182 [v46, x1, v49] h fun v50 h51 =>
 T Tryz.prog 185 [x0, (.int .i64 3), (.int .i64 8)] h51 fun v52 h53 =>
 K (.tuple #[.nilIface, (.bool false), x9]) h53) (
 bnd (eqI x37 (.int .i64 8)) fun b54 =>
 ifV (.bool b54) (
 T Tryz.prog 191 [x0, x1, (.int .i64 1)] h fun v55 h56 =>
 K (.tuple #[.nilIface, (.bool false), x9]) h56) (
 bnd (eqI x37 (.int .i64 9)) fun b57 =>
 ifV (.bool b57) (
 T Tryz.prog 191 [x0, x1, (.int .i64 2)] h fun v58 h59 =>
 K (.tuple #[.nilIface, (.bool false), x9]) h59) (
 K (.tuple #[.nilIface, (.bool false), x9]) h))))))))
def S186_j2 (x0 x1 : Value) (h : GH) (K : Value → GH → Prop)  : Prop :=
 bnd (ncV x0) fun v1 =>
 bnd (faV 7 v1) fun v2 =>
 bnd (ldV 1 false v2 h) fun v3 =>
 bnd (eqI v3 (.int .i64 5)) fun b4 =>
 ifV (.bool b4) (
 T Tryz.prog 188 [x0, x1] h fun v5 h6 =>
 bnd (exV v5 0) fun v7 =>
 bnd (exV v5 1) fun v8 =>
 K (.tuple #[v7, (.bool false), v8]) h6) (
 bnd (eqI v3 (.int .i64 1)) fun b9 =>
 ifV (.bool b9) (
 S186_j3 x0 x1 (.bool true) v3 (.bool true) h K ) (
 bnd (eqI v3 (.int .i64 14)) fun b10 =>
 S186_j3 x0 x1 (.bool true) v3 (.bool b10) h K ))
def S186_j1 (x0 x1 x25 : Value) (h : GH) (K : Value → GH → Prop)  : Prop :=
 ifV x25 (
 T Tryz.prog 187 [x0, x1] h fun v1 h2 =>
 bnd (exV v1 0) fun v3 =>
 bnd (exV v1 1) fun v4 =>
 K (.tuple #[.nilIface, v3, v4]) h2) (
 S186_j2 x0 x1 h K )
def S186 (a0 a1 : Value) (h : GH) (K : Value → GH → Prop) : Prop :=
 bnd (ncV a0) fun v1 =>
 bnd (faV 7 v1) fun v2 =>
 bnd (ldV 1 false v2 h) fun v3 =>
 bnd (binV .geq v3 (.int .i64 10)) fun v4 =>
 ifV v4 (
 bnd (ncV a0) fun v5 =>
 bnd (faV 7 v5) fun v6 =>
 bnd (ldV 1 false v6 h) fun v7 =>
 bnd (binV .lss v7 (.int .i64 14)) fun v8 =>
 S186_j1 a0 a1 v8 h K ) (
 S186_j1 a0 a1 (.bool false) h K )
def A186 : Ann := ⟨fun | 18 => ([0, 1, 2, 3, 4, 5, 6, 7, 8, 9], [0, 1, 3, 0, 0, 16, 48, 112, 255, 511]) | 21 => ([0, 1, 2, 3, 4, 5, 6, 7, 8, 9], [0, 1, 3, 0, 0, 16, 48, 112, 255, 511]) | 27 => ([0, 1, 2, 3, 4, 5, 6, 7, 8], [0, 1, 3, 0, 0, 16, 48, 112, 255]) | _ => ([], []), fun _ => []⟩
theorem S186_T {a0 a1 : Value} {h : GH} {K : Value → GH → Prop} (g : S186 a0 a1 h K) : T Tryz.prog 186 [a0, a1] h K :=
  T_of_gwp (A := A186) Tryz.func186 (c := bodyOf Tryz.f186) (by kernel_rfl) (by kernel_rfl) (by kernel_rfl) (by kernel_rfl) (by kernel_rfl) (Eq.mp (by kernel_rfl) g)
def S187_j1 (x0 x1 x6 : Value) (h : GH) (K : Value → GH → Prop)  : Prop :=
 bnd (ncV x0) fun v1 =>
 bnd (faV 0 v1) fun v2 =>
 bnd (ncV x0) fun v3 =>
 bnd (faV 8 v3) fun v4 =>
 bnd (ldV 1 false v4 h) fun v5 =>
 T Tryz.prog 183 [v2, x1, v5, x6] h fun v6 h7 =>
 bnd (exV v6 0) fun v8 =>
 bnd (exV v6 1) fun v9 =>
 bnd (ncV x0) fun v10 =>
 bnd (faV 12 v10) fun v11 =>
 bnd (stV 1 v11 v8 h7) fun h12 =>
 bnd (ncV x0) fun v13 =>
 bnd (faV 7 v13) fun v14 =>
 bnd (stV 1 v14 (.int .i64 13) h12) fun h15 =>
 K (.tuple #[(.bool false), v9]) h15
def S187 (a0 a1 : Value) (h : GH) (K : Value → GH → Prop) : Prop :=
 bnd (ncV a0) fun v1 =>
 bnd (faV 7 v1) fun v2 =>
 bnd (ldV 1 false v2 h) fun v3 =>
 bnd (eqI v3 (.int .i64 10)) fun b4 =>
 ifV (.bool b4) (
 T Tryz.prog 190 [a0, a1] h fun v5 h6 =>
 bnd (exV v5 0) fun v7 =>
 bnd (exV v5 1) fun v8 =>
 K (.tuple #[v7, v8]) h6) (
 bnd (eqI v3 (.int .i64 11)) fun b9 =>
 ifV (.bool b9) (
 bnd (ncV a0) fun v10 =>
 bnd (faV 7 v10) fun v11 =>
 bnd (stV 1 v11 (.int .i64 12) h) fun h12 =>
 bnd (ncV a0) fun v13 =>
 bnd (faV 0 v13) fun v14 =>
 bnd (ncV a0) fun v15 =>
 bnd (faV 8 v15) fun v16 =>
 bnd (ldV 1 false v16 h12) fun v17 =>
 T Tryz.prog 179 [v14, a1, v17] h12 fun v18 h19 =>
 K (.tuple #[(.bool false), v18]) h19) (
 bnd (eqI v3 (.int .i64 12)) fun b20 =>
 ifV (.bool b20) (
 bnd (ncV a0) fun v21 =>
 bnd (faV 0 v21) fun v22 =>
 bnd (faV 5 v22) fun v23 =>
 bnd (ldV 1 false v23 h) fun v24 =>
 ifV v24 (
 S187_j1 a0 a1 (.int .i64 2) h K ) (
 S187_j1 a0 a1 (.int .i64 1) h K )) (
 bnd (ncV a0) fun v25 =>
 bnd (faV 0 v25) fun v26 =>
 bnd (faV 2 v26) fun v27 =>
 bnd (ldV 1 false v27 h) fun v28 =>
 bnd (ncV a0) fun v29 =>
 bnd (faV 0 v29) fun v30 =>
 bnd (faV 0 v30) fun v31 =>
 bnd (ldV 2 true v31 h) fun v32 =>
 bnd (ncV a0) fun v33 =>
 bnd (faV 12 v33) fun v34 =>
 bnd (ldV 1 false v34 h) fun v35 =>
 T Tryz.prog 96 [(.iface 86 v32)] h fun v36 h37 =>
 ldV 1 false v34 h37 = some v35 ∧
 ldV 1 false v27 h37 = some v28 ∧
 T Tryz.prog 26 [v35] h37 fun v38 h39 =>
 ldV 1 false v27 h39 = some v28 ∧
 T Tryz.prog 89 [a1, v28, v36, v38] h39 fun v40 h41 =>
 T Tryz.prog 185 [a0, (.int .i64 11), (.int .i64 0)] h41 fun v42 h43 =>
 K (.tuple #[v42, (.bool true)]) h43)))
def A187 : Ann := ⟨fun | 6 => ([0, 1, 2, 3, 4, 5, 6, 7, 8, 9, 10], [0, 1, 3, 0, 0, 16, 48, 112, 255, 511, 1023]) | 11 => ([0, 1, 2, 3, 4, 5, 6, 7, 8, 9, 10, 11, 12, 13, 14, 15, 16, 17], [0, 0, 2, 6, 0, 0, 32, 96, 224, 0, 1022, 2046, 4094, 4094, 8191, 24575, 57343, 131071]) | 14 => ([0, 1, 2, 3, 4, 5, 6, 7, 8, 9, 10, 11, 13, 14, 15, 16, 12, 17, 18], [0, 0, 2, 6, 14, 30, 0, 64, 192, 448, 960, 1984, 4032, 0, 8192, 24576, 57344, 131008, 262143]) | _ => ([], []), fun _ => []⟩
theorem S187_T {a0 a1 : Value} {h : GH} {K : Value → GH → Prop} (g : S187 a0 a1 h K) : T Tryz.prog 187 [a0, a1] h K :=
  T_of_gwp (A := A187) Tryz.func187 (c := bodyOf Tryz.f187) (by kernel_rfl) (by kernel_rfl) (by kernel_rfl) (by kernel_rfl) (by kernel_rfl) (Eq.mp (by kernel_rfl) g)
def S188_j1 (x0 x8 : Value) (h : GH) (K : Value → GH → Prop)  : Prop :=
 bnd (eqK .iface true x8 .nilIface) fun b1 =>
 ifV (.bool b1) (
 K (.tuple #[.nilIface, (.bool false)]) h) (
 bnd (taV 108 (.int .i64 0) true x8) fun v2 =>
 bnd (exV v2 1) fun v3 =>
 bnd (exV v2 0) fun v4 =>
 ifV v3 (
 bnd (ncV x0) fun v5 =>
 bnd (faV 7 v5) fun v6 =>
 bnd (stV 1 v6 (.int .i64 9) h) fun h7 =>
 K (.tuple #[.nilIface, (.bool true)]) h7) (
 bnd (taV 138 (.agg #[(.int .i64 0), (.int .i64 0), (.int .i64 0), (.int .i64 0), (.int .i64 0)]) true x8) fun v8 =>
 bnd (exV v8 1) fun v9 =>
 bnd (exV v8 0) fun v10 =>
 ifV v9 (
 bnd (ncV x0) fun v11 =>
 bnd (faV 6 v11) fun v12 =>
 bnd (ldV 1 false v12 h) fun v13 =>
 T Tryz.prog 111 [x8, v13] h fun v14 h15 =>
 K (.tuple #[v14, (.bool true)]) h15) (
 bnd (taV 86 (.agg #[(.int .i64 0), (.int .i64 0)]) true x8) fun v16 =>
 bnd (exV v16 1) fun v17 =>
 bnd (exV v16 0) fun v18 =>
 ifV v17 (
 bnd (ncV x0) fun v19 =>
 bnd (faV 6 v19) fun v20 =>
 bnd (ldV 1 false v20 h) fun v21 =>
 T Tryz.prog 111 [x8, v21] h fun v22 h23 =>
 bnd (ncV x0) fun v24 =>
 bnd (faV 11 v24) fun v25 =>
 bnd (stV 1 v25 v22 h23) fun h26 =>
 bnd (ncV x0) fun v27 =>
 bnd (faV 7 v27) fun v28 =>
 bnd (stV 1 v28 (.int .i64 14) h26) fun h29 =>
 K (.tuple #[.nilIface, (.bool true)]) h29) (
 K (.tuple #[.nilIface, (.bool true)]) h))))
def S188 (a0 a1 : Value) (h : GH) (K : Value → GH → Prop) : Prop :=
 bnd (ncV a0) fun v1 =>
 bnd (faV 0 v1) fun v2 =>
 bnd (faV 0 v2) fun v3 =>
 bnd (ldV 2 true v3 h) fun v4 =>
 bnd (ncV a0) fun v5 =>
 bnd (faV 8 v5) fun v6 =>
 bnd (ldV 1 false v6 h) fun v7 =>
 bnd (ncV a0) fun v8 =>
 bnd (faV 6 v8) fun v9 =>
 bnd (ldV 1 false v9 h) fun v10 =>
 bnd (ncV v10) fun v11 =>
 bnd (faV 0 v11) fun v12 =>
 bnd (ldV 1 false v12 h) fun v13 =>
 bnd (ncV a0) fun v14 =>
 bnd (faV 6 v14) fun v15 =>
 bnd (ldV 1 false v15 h) fun v16 =>
 T Tryz.prog 176 [v16] h fun v17 h18 =>
 ldV 1 false v12 h18 = some v13 ∧
 ldV 1 false v9 h18 = some v10 ∧
 ldV 1 false v6 h18 = some v7 ∧
 ldV 2 true v3 h18 = some v4 ∧
 bnd (fillV [(.int .i64 0), (.int .i64 0), (.int .i64 0), (.int .i64 0), (.int .i64 0)] [(0, 2, v4), (2, 1, v7), (3, 1, v13), (4, 1, v17)]) fun c19 =>
 T Tryz.prog 96 [(.iface 138 (.agg c19.toArray))] h18 fun v20 h21 =>
 bnd (ncV a0) fun v22 =>
 bnd (faV 10 v22) fun v23 =>
 bnd (stV 1 v23 v20 h21) fun h24 =>
 bnd (ncV a0) fun v25 =>
 bnd (faV 0 v25) fun v26 =>
 bnd (faV 2 v26) fun v27 =>
 bnd (ldV 1 false v27 h24) fun v28 =>
 bnd (ncV a0) fun v29 =>
 bnd (faV 0 v29) fun v30 =>
 bnd (faV 3 v30) fun v31 =>
 bnd (ldV 1 false v31 h24) fun v32 =>
 bnd (ncV a0) fun v33 =>
 bnd (faV 10 v33) fun v34 =>
 bnd (ldV 1 false v34 h24) fun v35 =>
 T Tryz.prog 89 [a1, v28, v32, v35] h24 fun v36 h37 =>
 bnd (exV v36 0) fun v38 =>
 bnd (exV v36 1) fun v39 =>
 bnd (ncV a0) fun v40 =>
 bnd (faV 0 v40) fun v41 =>
 bnd (faV 3 v41) fun v42 =>
 bnd (ldV 1 false v42 h37) fun v43 =>
 bnd (eqI v38 v43) fun b44 =>
 ifV (.bool b44) (
 bnd (ncV a0) fun v45 =>
 bnd (faV 7 v45) fun v46 =>
 bnd (stV 1 v46 (.int .i64 6) h37) fun h47 =>
 K (.tuple #[.nilIface, (.bool true)]) h47) (
 T Tryz.prog 50 [v38] h37 fun v48 h49 =>
 bnd (taV 86 (.agg #[(.int .i64 0), (.int .i64 0)]) true v48) fun v50 =>
 bnd (exV v50 0) fun v51 =>
 bnd (exV v50 1) fun v52 =>
 newV 86 [(.int .i64 0), (.int .i64 0)] h49 fun v53 h54 =>
 bnd (stV 2 v53 v51 h54) fun h55 =>
 ifV v52 (
 bnd (ldV 2 true v53 h55) fun v56 =>
 bnd (ncV a0) fun v57 =>
 bnd (faV 0 v57) fun v58 =>
 bnd (faV 0 v58) fun v59 =>
 bnd (ldV 2 true v59 h55) fun v60 =>
 bnd (eqP Tryz.prog 10000 86 v56 v60) fun b61 =>
 ifV (.bool b61) (
 T Tryz.prog 185 [a0, (.int .i64 3), (.int .i64 8)] h55 fun v62 h63 =>
 K (.tuple #[.nilIface, (.bool true)]) h63) (
 S188_j1 a0 v48 h55 K )) (
 S188_j1 a0 v48 h55 K ))
def A188 : Ann := ⟨fun | 1 => ([0, 1, 2, 3, 4, 5, 6, 7, 8, 9, 10, 11, 12, 13, 14, 15, 16, 17, 18, 19, 20, 21, 22, 23, 24, 25, 26, 27], [0, 0, 2, 6, 14, 30, 0, 64, 192, 448, 0, 1024, 3072, 7168, 15360, 31744, 64512, 0, 131072, 393216, 917504, 1966080, 4194302, 8388606, 16777214, 33554431, 67108863, 134217727]) | 2 => ([0, 1, 2, 3, 4, 5, 6, 7, 8, 9, 10, 11, 12, 13, 14, 15, 16, 17, 18, 19, 20], [0, 0, 2, 6, 14, 30, 0, 64, 192, 448, 960, 0, 2048, 6144, 14336, 32767, 65535, 131071, 131071, 262143, 1048575]) | 8 => ([0, 1, 2, 3, 4, 5, 6, 7, 8, 9], [0, 1, 3, 3, 11, 27, 59, 123, 255, 511]) | _ => ([], []), fun _ => []⟩
theorem S188_T {a0 a1 : Value} {h : GH} {K : Value → GH → Prop} (g : S188 a0 a1 h K) : T Tryz.prog 188 [a0, a1] h K :=
  T_of_gwp (A := A188) Tryz.func188 (c := bodyOf Tryz.f188) (by kernel_rfl) (by kernel_rfl) (by kernel_rfl) (by kernel_rfl) (by kernel_rfl) (Eq.mp (by kernel_rfl) g)
def S189 (a0 a1 : Value) (h : GH) (K : Value → GH → Prop) : Prop :=
 bnd (ncV a0) fun v1 =>
 bnd (faV 0 v1) fun v2 =>
 T Tryz.prog 181 [v2, a1] h fun v3 h4 =>
 bnd (ncV a0) fun v5 =>
 bnd (faV 7 v5) fun v6 =>
 bnd (ldV 1 false v6 h4) fun v7 =>
 bnd (eqI v7 (.int .i64 14)) fun b8 =>
 bnd (ncV a0) fun v9 =>
 bnd (faV 0 v9) fun v10 =>
 bnd (faV 4 v10) fun v11 =>
 bnd (ldV 1 false v11 h4) fun v12 =>
 bnd (unV .not v12) fun v13 =>
 ifV v13 (
 bnd (ncV a0) fun v14 =>
 bnd (faV 7 v14) fun v15 =>
 bnd (stV 1 v15 (.int .i64 10) h4) fun h16 =>
 K (.tuple #[.nilIface, (.bool false), v3]) h16) (
 ifV (.bool b8) (
 bnd (ncV a0) fun v17 =>
 bnd (faV 7 v17) fun v18 =>
 bnd (stV 1 v18 (.int .i64 5) h4) fun h19 =>
 bnd (ncV a0) fun v20 =>
 bnd (faV 11 v20) fun v21 =>
 bnd (ldV 1 false v21 h19) fun v22 =>
 K (.tuple #[v22, (.bool false), v3]) h19) (
 bnd (ncV a0) fun v23 =>
 bnd (faV 7 v23) fun v24 =>
 bnd (stV 1 v24 (.int .i64 2) h4) fun h25 =>
 K (.tuple #[.nilIface, (.bool false), v3]) h25))
def A189 : Ann := ⟨fun _ => ([], []), fun _ => []⟩
theorem S189_T {a0 a1 : Value} {h : GH} {K : Value → GH → Prop} (g : S189 a0 a1 h K) : T Tryz.prog 189 [a0, a1] h K :=
  T_of_gwp (A := A189) Tryz.func189 (c := bodyOf Tryz.f189) (by kernel_rfl) (by kernel_rfl) (by kernel_rfl) (by kernel_rfl) (by kernel_rfl) (Eq.mp (by kernel_rfl) g)
def S190 (a0 a1 : Value) (h : GH) (K : Value → GH → Prop) : Prop :=
 bnd (ncV a0) fun v1 =>
 bnd (faV 0 v1) fun v2 =>
 T Tryz.prog 184 [v2, a1, (.int .i64 1), (.int .i64 16)] h fun v3 h4 =>
 bnd (exV v3 0) fun v5 =>
 bnd (exV v3 1) fun v6 =>
 bnd (ncV a0) fun v7 =>
 bnd (faV 9 v7) fun v8 =>
 bnd (stV 1 v8 v5 h4) fun h9 =>
 bnd (ncV a0) fun v10 =>
 bnd (faV 8 v10) fun v11 =>
 bnd (stV 1 v11 (.int .i64 0) h9) fun h12 =>
 bnd (ncV a0) fun v13 =>
 bnd (faV 7 v13) fun v14 =>
 bnd (ldV 1 false v14 h12) fun v15 =>
 bnd (binV .add v15 (.int .i64 1)) fun v16 =>
 bnd (ncV a0) fun v17 =>
 bnd (faV 7 v17) fun v18 =>
 bnd (stV 1 v18 v16 h12) fun h19 =>
 bnd (eqI v5 (.int .i64 0)) fun b20 =>
 K (.tuple #[(.bool b20), v6]) h19
def A190 : Ann := ⟨fun _ => ([], []), fun _ => []⟩
theorem S190_T {a0 a1 : Value} {h : GH} {K : Value → GH → Prop} (g : S190 a0 a1 h K) : T Tryz.prog 190 [a0, a1] h K :=
  T_of_gwp (A := A190) Tryz.func190 (c := bodyOf Tryz.f190) (by kernel_rfl) (by kernel_rfl) (by kernel_rfl) (by kernel_rfl) (by kernel_rfl) (Eq.mp (by kernel_rfl) g)
def S191 (a0 a1 a2 : Value) (h : GH) (K : Value → GH → Prop) : Prop :=
 bnd (ncV a0) fun v1 =>
 bnd (faV 0 v1) fun v2 =>
 bnd (faV 0 v2) fun v3 =>
 bnd (faV 0 v3) fun v4 =>
 bnd (ldV 1 false v4 h) fun v5 =>
 bnd (ncV a0) fun v6 =>
 bnd (faV 0 v6) fun v7 =>
 bnd (faV 0 v7) fun v8 =>
 bnd (faV 1 v8) fun v9 =>
 bnd (ldV 1 false v9 h) fun v10 =>
 bnd (ncV a0) fun v11 =>
 bnd (faV 0 v11) fun v12 =>
 bnd (faV 0 v12) fun v13 =>
 bnd (faV 1 v13) fun v14 =>
 bnd (ldV 1 false v14 h) fun v15 =>
 T Tryz.prog 42 [v5] h fun v16 h17 =>
 ldV 1 false v14 h17 = some v15 ∧
 ldV 1 false v9 h17 = some v10 ∧
 T Tryz.prog 43 [v10, (.int .i64 0)] h17 fun v18 h19 =>
 ldV 1 false v14 h19 = some v15 ∧
 T Tryz.prog 43 [v15, a2] h19 fun v20 h21 =>
 T Tryz.prog 89 [a1, v16, v18, v20] h21 fun v22 h23 =>
 bnd (ncV a0) fun v24 =>
 bnd (faV 7 v24) fun v25 =>
 bnd (stV 1 v25 (.int .i64 1) h23) fun h26 =>
 K (.tuple #[]) h26
def A191 : Ann := ⟨fun | 0 => ([0, 1, 2, 3, 4, 5, 6, 8, 9, 10, 11, 12, 13, 15, 16, 17, 18, 19, 20, 21, 7, 14, 22, 23], [0, 0, 2, 6, 14, 30, 62, 126, 0, 256, 768, 1792, 3840, 7936, 16382, 0, 32768, 98304, 229376, 491520, 1015808, 0, 4194302, 8388607]) | _ => ([], []), fun _ => []⟩
theorem S191_T {a0 a1 a2 : Value} {h : GH} {K : Value → GH → Prop} (g : S191 a0 a1 a2 h K) : T Tryz.prog 191 [a0, a1, a2] h K :=
  T_of_gwp (A := A191) Tryz.func191 (c := bodyOf Tryz.f191) (by kernel_rfl) (by kernel_rfl) (by kernel_rfl) (by kernel_rfl) (by kernel_rfl) (Eq.mp (by kernel_rfl) g)
end Go.Proofs.YtkflebignnmomaaGreat
