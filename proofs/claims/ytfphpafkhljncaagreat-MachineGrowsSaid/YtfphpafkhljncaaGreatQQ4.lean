/- Several texts in one; nothing here is a statement on the program. -/
import Derived.Test.YtfphpafkhljncaaGreatQQ2
import Derived.Test.YtfphpafkhljncaaGreatProg
import Derived.KernelRfl
set_option linter.unusedVariables false
set_option linter.unusedSimpArgs false
namespace Go.Proofs.YtfphpafkhljncaaGreat
open Go GW Go.Proofs
set_option maxRecDepth 100000
def A215 : Ann := ⟨fun | 1 => ([0, 1, 2, 3, 4, 5, 6, 7, 8, 9], [0, 1, 3, 7, 0, 16, 48, 112, 15, 511]) | _ => ([], []), fun _ => []⟩
def A216 : Ann := ⟨fun | 7 => ([0, 1, 2, 3, 4, 5, 6, 7, 8, 9, 11, 12, 13, 14, 15, 17, 18, 19, 20, 21, 10, 16, 22, 23, 24, 25, 26, 27], [0, 0, 2, 6, 14, 0, 0, 96, 224, 480, 992, 0, 0, 6144, 14336, 30720, 65504, 0, 0, 393216, 917504, 1966080, 4194272, 8388576, 16777214, 33554431, 67108863, 134217727]) | _ => ([], []), fun | 0 => [2, 8, 9] | _ => []⟩
def A217 : Ann := ⟨fun | 6 => ([0, 1, 2, 3, 4, 5, 6, 7, 8, 9, 10, 11, 12, 13], [0, 0, 0, 0, 12, 28, 0, 0, 192, 448, 1022, 2046, 4095, 8191]) | _ => ([], []), fun | 0 => [1, 3, 4] | _ => []⟩
def S220_j2 (s6 : Nat → Value) (x2 x4 x6 x7 x9 x10 x22 x23 x24 : Value) (h : GH) (K : Value → GH → Prop) (again8 : (Nat → Value) → GH → Prop) : Prop :=
 bnd (ldV 48 true x6 h) fun v1 =>
 bnd (ldV 4 true x9 h) fun v2 =>
 callV Tryz.prog x10 [v1, v2] h fun v3 h4 =>
 bnd (exV v3 0) fun v5 =>
 bnd (exV v3 1) fun v6 =>
 newV 298 ([(.int .i64 0)] ++ List.replicate 16 (.bool false) ++ List.replicate 32 (.int .i64 0) ++ [(.slice none 0 0)]) h4 fun v7 h8 =>
 bnd (stV 50 v7 v5 h8) fun h9 =>
 bnd (faV 0 v7) fun v10 =>
 bnd (ldV 1 false v10 h9) fun v11 =>
 bnd (binV .geq v11 (.int .i64 0)) fun v12 =>
 ifV v12 (
 bnd (faV 0 v7) fun v13 =>
 bnd (ldV 1 false v13 h9) fun v14 =>
 bnd (ldV 48 true x2 h9) fun v15 =>
 bnd (fillV ([(.int .i64 0)] ++ List.replicate 16 (.bool false) ++ List.replicate 32 (.int .i64 0) ++ [(.slice none 0 0)]) [(0, 1, v14), (1, 48, v15)]) fun c16 =>
 bnd (stV 50 x4 (.agg c16.toArray) h9) fun h17 =>
 bnd (ldV 50 true x4 h17) fun v18 =>
 K (.tuple #[v18, (.int .i64 0)]) h17) (
 bnd (faV 49 v7) fun v19 =>
 bnd (ldV 1 false v19 h9) fun v20 =>
 apV 122 2 16 x7 v20 h9 fun v21 h22 =>
 bnd (lnV v21) fun v23 =>
 bnd (binV .sub v23 (.int .i64 1)) fun v24 =>
 bnd (isV 2 v21 v24) fun v25 =>
 bnd (faV 0 v25) fun v26 =>
 bnd (ldV 1 false v26 h22) fun v27 =>
 bnd (eqI v27 (.int .i64 0)) fun b28 =>
 ifV (.bool (!b28)) (
 bnd (ldV 48 true x2 h22) fun v29 =>
 bnd (fillV ([(.int .i64 0)] ++ List.replicate 16 (.bool false) ++ List.replicate 32 (.int .i64 0) ++ [(.slice none 0 0)]) [(0, 1, (.int .i64 (-1))), (1, 48, v29), (49, 1, v21)]) fun c30 =>
 bnd (stV 50 x4 (.agg c30.toArray) h22) fun h31 =>
 bnd (ldV 50 true x4 h31) fun v32 =>
 K (.tuple #[v32, (.int .i64 0)]) h31) (
 bnd (faV 1 v7) fun v33 =>
 bnd (ldV 48 true v33 h22) fun v34 =>
 bnd (stV 48 x6 v34 h22) fun h35 =>
 bnd (binV .add x24 (.int .i64 1)) fun v36 =>
 again8 (tup [x2, x4, x6, v21, x22, x23, v36]) h35))
def S220_j1 (x1 x2 x4 : Value) (h : GH) (K : Value → GH → Prop)  : Prop :=
 bnd (ldV 48 true x2 h) fun v1 =>
 newV 255 (List.replicate 16 (.bool false) ++ List.replicate 32 (.int .i64 0)) h fun v2 h3 =>
 bnd (stV 48 v2 v1 h3) fun h4 =>
 bnd (lnV x1) fun v5 =>
 Lfp (fun (s6 : Nat → Value) h7 again8 =>
 bnd (binV .lss (s6 6) (s6 5)) fun v9 =>
 ifV v9 (
 bnd (isV 4 (s6 4) (s6 6)) fun v10 =>
 bnd (ldV 4 true v10 h7) fun v11 =>
 newV 24 [(.int .i64 0), (.int .i64 0), (.int .i64 0), (.int .i64 0)] h7 fun v12 h13 =>
 bnd (stV 4 v12 v11 h13) fun h14 =>
 bnd (faV 0 v12) fun v15 =>
 bnd (ldV 1 false v15 h14) fun v16 =>
 T Tryz.prog 110 [v16] h14 fun v17 h18 =>
 ifV v17 (
 S220_j2 s6 (s6 0) (s6 1) (s6 2) (s6 3) v12 (.func (.func 244) #[] #[]) (s6 4) (s6 5) (s6 6) h18 K again8) (
 S220_j2 s6 (s6 0) (s6 1) (s6 2) (s6 3) v12 (.func (.func 243) #[] #[]) (s6 4) (s6 5) (s6 6) h18 K again8)) (
 bnd (ldV 48 true (s6 2) h7) fun v19 =>
 bnd (fillV ([(.int .i64 0)] ++ List.replicate 16 (.bool false) ++ List.replicate 32 (.int .i64 0) ++ [(.slice none 0 0)]) [(0, 1, (.int .i64 (-1))), (1, 48, v19), (49, 1, (s6 3))]) fun c20 =>
 bnd (stV 50 (s6 1) (.agg c20.toArray) h7) fun h21 =>
 bnd (ldV 50 true (s6 1) h21) fun v22 =>
 K (.tuple #[v22, (.int .i64 0)]) h21)) (tup [x2, x4, v2, (.slice none 0 0), x1, v5, (.int .i64 0)]) h4
def S220 (a0 a1 : Value) (h : GH) (K : Value → GH → Prop) : Prop :=
 newV 255 (a0 : Value).cells.toList h fun v1 h2 =>
 newV 298 ([(.int .i64 0)] ++ List.replicate 16 (.bool false) ++ List.replicate 32 (.int .i64 0) ++ [(.slice none 0 0)]) h2 fun v3 h4 =>
 T Tryz.prog 242 [v1] h4 fun v5 h6 =>
 bnd (unV .not v5) fun v7 =>
 ifV v7 (
 bnd (fillV ([(.int .i64 0)] ++ List.replicate 16 (.bool false) ++ List.replicate 32 (.int .i64 0) ++ [(.slice none 0 0)]) []) fun c8 =>
 bnd (stV 50 v3 (.agg c8.toArray) h6) fun h9 =>
 bnd (ldV 50 true v3 h9) fun v10 =>
 K (.tuple #[v10, (.int .i64 700)]) h9) (
 T Tryz.prog 108 [a1] h6 fun v11 h12 =>
 bnd (unV .not v11) fun v13 =>
 ifV v13 (
 bnd (fillV ([(.int .i64 0)] ++ List.replicate 16 (.bool false) ++ List.replicate 32 (.int .i64 0) ++ [(.slice none 0 0)]) []) fun c14 =>
 bnd (stV 50 v3 (.agg c14.toArray) h12) fun h15 =>
 bnd (ldV 50 true v3 h15) fun v16 =>
 K (.tuple #[v16, (.int .i64 700)]) h15) (
 S220_j1 a1 v1 v3 h12 K ))
def A220 : Ann := ⟨fun _ => ([], []), fun | 0 => [2, 4, 6, 7, 22, 23, 24] | _ => []⟩
theorem S220_T {a0 a1 : Value} {h : GH} {K : Value → GH → Prop} (g : S220 a0 a1 h K) : T Tryz.prog 220 [a0, a1] h K :=
  T_of_gwp (A := A220) Tryz.func220 (c := bodyOf Tryz.f220) (by kernel_rfl) (by kernel_rfl) (by kernel_rfl) (by kernel_rfl) (by kernel_rfl) (Eq.mp (by kernel_rfl) g)
def S221 (a0 a1 : Value) (h : GH) (K : Value → GH → Prop) : Prop :=
 T Tryz.prog 75 [a0, (.int .i64 12)] h fun v1 h2 =>
 ifV v1 (
 T Tryz.prog 75 [a1, (.int .i64 65536)] h2 fun v3 h4 =>
 K v3 h4) (
 K (.bool false) h2)
def A221 : Ann := ⟨fun _ => ([], []), fun _ => []⟩
theorem S221_T {a0 a1 : Value} {h : GH} {K : Value → GH → Prop} (g : S221 a0 a1 h K) : T Tryz.prog 221 [a0, a1] h K :=
  T_of_gwp (A := A221) Tryz.func221 (c := bodyOf Tryz.f221) (by kernel_rfl) (by kernel_rfl) (by kernel_rfl) (by kernel_rfl) (by kernel_rfl) (Eq.mp (by kernel_rfl) g)
def S222 (a0 : Value) (h : GH) (K : Value → GH → Prop) : Prop :=
 bnd (ncV a0) fun v1 =>
 bnd (faV 5 v1) fun v2 =>
 bnd (faV 0 v2) fun v3 =>
 bnd (ldV 1 false v3 h) fun v4 =>
 bnd (binV .geq v4 (.int .i64 0)) fun v5 =>
 ifV v5 (
 bnd (ncV a0) fun v6 =>
 bnd (faV 0 v6) fun v7 =>
 bnd (ldV 1 false v7 h) fun v8 =>
 bnd (ncV a0) fun v9 =>
 bnd (faV 1 v9) fun v10 =>
 bnd (ldV 1 false v10 h) fun v11 =>
 bnd (ncV a0) fun v12 =>
 bnd (faV 5 v12) fun v13 =>
 bnd (faV 0 v13) fun v14 =>
 bnd (ldV 1 false v14 h) fun v15 =>
 T Tryz.prog 245 [v8, v11, v15] h fun v16 h17 =>
 bnd (exV v16 0) fun v18 =>
 bnd (exV v16 1) fun v19 =>
 K (.iface 327 v18) h17) (
 bnd (ncV a0) fun v20 =>
 bnd (faV 5 v20) fun v21 =>
 bnd (faV 49 v21) fun v22 =>
 bnd (ldV 1 false v22 h) fun v23 =>
 bnd (ncV a0) fun v24 =>
 bnd (faV 60 v24) fun v25 =>
 bnd (stV 1 v25 v23 h) fun h26 =>
 bnd (ncV a0) fun v27 =>
 bnd (faV 2 v27) fun v28 =>
 bnd (faV 0 v28) fun v29 =>
 bnd (ldV 1 false v29 h26) fun v30 =>
 bnd (ncV a0) fun v31 =>
 bnd (faV 2 v31) fun v32 =>
 bnd (faV 1 v32) fun v33 =>
 bnd (ldV 1 false v33 h26) fun v34 =>
 bnd (ncV a0) fun v35 =>
 bnd (faV 5 v35) fun v36 =>
 bnd (faV 1 v36) fun v37 =>
 bnd (ldV 48 true v37 h26) fun v38 =>
 T Tryz.prog 247 [v38] h26 fun v39 h40 =>
 ldV 1 false v33 h40 = some v34 ∧
 ldV 1 false v29 h40 = some v30 ∧
 T Tryz.prog 246 [v30, v34, v39] h40 fun v41 h42 =>
 bnd (exV v41 0) fun v43 =>
 bnd (exV v41 1) fun v44 =>
 K (.iface 329 v43) h42)
def A222 : Ann := ⟨fun | 2 => ([0, 1, 2, 3, 4, 5, 6, 7, 8, 9, 10, 11, 12, 13, 14, 15, 16, 17, 18], [0, 1, 3, 7, 0, 16, 48, 112, 0, 256, 768, 1792, 3840, 8191, 16383, 32767, 32767, 65535, 262143]) | 5 => ([0, 1, 2, 3, 4, 5, 6, 7, 8, 9, 10, 11, 12, 13, 14, 15, 16, 17, 18, 19, 20, 21], [0, 1, 3, 7, 15, 0, 32, 96, 224, 480, 0, 1024, 3072, 7168, 15360, 31744, 65535, 131071, 262143, 262143, 524287, 2097151]) | _ => ([], []), fun _ => []⟩
theorem S222_T {a0 : Value} {h : GH} {K : Value → GH → Prop} (g : S222 a0 h K) : T Tryz.prog 222 [a0] h K :=
  T_of_gwp (A := A222) Tryz.func222 (c := bodyOf Tryz.f222) (by kernel_rfl) (by kernel_rfl) (by kernel_rfl) (by kernel_rfl) (by kernel_rfl) (Eq.mp (by kernel_rfl) g)
def S223 (a0 a1 : Value) (h : GH) (K : Value → GH → Prop) : Prop :=
 bnd (ncV a0) fun v1 =>
 bnd (faV 5 v1) fun v2 =>
 bnd (faV 1 v2) fun v3 =>
 bnd (ldV 48 true v3 h) fun v4 =>
 newV 255 (List.replicate 16 (.bool false) ++ List.replicate 32 (.int .i64 0)) h fun v5 h6 =>
 bnd (stV 48 v5 v4 h6) fun h7 =>
 bnd (faV 0 v5) fun v8 =>
 bnd (faV 16 v5) fun v9 =>
 bnd (faV 32 v5) fun v10 =>
 T Tryz.prog 249 [a1] h7 fun v11 h12 =>
 bnd (iaV 16 1 v8 v11) fun v13 =>
 T Tryz.prog 249 [a1] h12 fun v14 h15 =>
 T Tryz.prog 249 [a1] h15 fun v16 h17 =>
 T Tryz.prog 248 [a1] h17 fun v18 h19 =>
 T Tryz.prog 248 [a1] h19 fun v20 h21 =>
 bnd (stV 1 v13 (.bool true) h21) fun h22 =>
 bnd (iaV 16 1 v9 v14) fun v23 =>
 bnd (stV 1 v23 v18 h22) fun h24 =>
 bnd (iaV 16 1 v10 v16) fun v25 =>
 bnd (stV 1 v25 v20 h24) fun h26 =>
 bnd (ldV 48 true v5 h26) fun v27 =>
 bnd (ncV a0) fun v28 =>
 bnd (faV 4 v28) fun v29 =>
 bnd (ldV 1 false v29 h26) fun v30 =>
 T Tryz.prog 220 [v27, v30] h26 fun v31 h32 =>
 bnd (exV v31 0) fun v33 =>
 bnd (exV v31 1) fun v34 =>
 bnd (ncV a0) fun v35 =>
 bnd (faV 5 v35) fun v36 =>
 bnd (stV 50 v36 v33 h32) fun h37 =>
 T Tryz.prog 222 [a0] h37 fun v38 h39 =>
 bnd (ncV a0) fun v40 =>
 bnd (faV 55 v40) fun v41 =>
 bnd (stV 1 v41 v38 h39) fun h42 =>
 K (.tuple #[]) h42
def A223 : Ann := ⟨fun | 1 => ([0, 2, 4, 6, 8, 10, 13, 16, 1, 11, 3, 5, 7, 9, 12, 14, 15, 17, 18], [0, 1, 0, 7, 0, 31, 0, 127, 0, 511, 0, 1027, 4095, 0, 16383, 32767, 0, 131071, 262143]) | 2 => ([0, 1, 2, 3, 4, 5, 6, 7, 8, 9, 10, 11, 12], [0, 0, 0, 4, 12, 28, 62, 126, 254, 254, 511, 1535, 3583]) | _ => ([], []), fun _ => []⟩
theorem S223_T {a0 a1 : Value} {h : GH} {K : Value → GH → Prop} (g : S223 a0 a1 h K) : T Tryz.prog 223 [a0, a1] h K :=
  T_of_gwp (A := A223) Tryz.func223 (c := bodyOf Tryz.f223) (by kernel_rfl) (by kernel_rfl) (by kernel_rfl) (by kernel_rfl) (by kernel_rfl) (Eq.mp (by kernel_rfl) g)
def S224_j1 (x8 x9 : Value) (h : GH) (K : Value → GH → Prop)  : Prop :=
 bsV 361 1 [.nilIface] [(0, 1, x9)] h fun v1 h2 =>
 bnd (ncV x8) fun v3 =>
 bnd (faV 2 v3) fun v4 =>
 bnd (stV 1 v4 v1 h2) fun h5 =>
 K (.tuple #[x8, (.int .i64 0)]) h5
def S224 (a0 a1 a2 : Value) (h : GH) (K : Value → GH → Prop) : Prop :=
 bnd (fillV [(.int .i64 0), (.int .i64 0)] [(0, 1, a0), (1, 1, a1)]) fun c1 =>
 bnd (fillV [(.int .i64 0), (.int .i64 0), (.slice none 0 0), (.pointer none), (.bool false), (.bool false)] [(0, 2, (.agg c1.toArray))]) fun c2 =>
 newV 359 ((.agg c2.toArray) : Value).cells.toList h fun v3 h4 =>
 bnd (ncV v3) fun v5 =>
 bnd (faV 0 v5) fun v6 =>
 T Tryz.prog 163 [a2] h4 fun v7 h8 =>
 T Tryz.prog 250 [v7, v6] h8 fun v9 h10 =>
 T Tryz.prog 131 [a0] h10 fun v11 h12 =>
 bnd (unV .not v11) fun v13 =>
 ifV v13 (
 K (.tuple #[(.pointer none), (.int .i64 1400)]) h12) (
 T Tryz.prog 75 [a1, (.int .i64 1048576)] h12 fun v14 h15 =>
 bnd (unV .not v14) fun v16 =>
 ifV v16 (
 K (.tuple #[(.pointer none), (.int .i64 1400)]) h15) (
 bnd (eqK .iface true v9 .nilIface) fun b17 =>
 ifV (.bool b17) (
 K (.tuple #[(.pointer none), (.int .i64 1400)]) h15) (
 S224_j1 v3 v9 h15 K )))
def A224 : Ann := ⟨fun | 2 => ([0, 2, 3, 4, 1, 5, 6], [0, 1, 0, 4, 12, 31, 63]) | _ => ([], []), fun _ => []⟩
theorem S224_T {a0 a1 a2 : Value} {h : GH} {K : Value → GH → Prop} (g : S224 a0 a1 a2 h K) : T Tryz.prog 224 [a0, a1, a2] h K :=
  T_of_gwp (A := A224) Tryz.func224 (c := bodyOf Tryz.f224) (by kernel_rfl) (by kernel_rfl) (by kernel_rfl) (by kernel_rfl) (by kernel_rfl) (Eq.mp (by kernel_rfl) g)
def S225 (a0 : Value) (h : GH) (K : Value → GH → Prop) : Prop :=
 ivV Tryz.prog a0 "pawl/word.number" [] h fun v1 h2 =>
 K v1 h2
def A225 : Ann := ⟨fun _ => ([], []), fun _ => []⟩
theorem S225_T {a0 : Value} {h : GH} {K : Value → GH → Prop} (g : S225 a0 h K) : T Tryz.prog 225 [a0] h K :=
  T_of_gwp (A := A225) Tryz.func225 (c := bodyOf Tryz.f225) (by kernel_rfl) (by kernel_rfl) (by kernel_rfl) (by kernel_rfl) (by kernel_rfl) (Eq.mp (by kernel_rfl) g)
def S226 (a0 : Value) (h : GH) (K : Value → GH → Prop) : Prop :=
 bnd (eqK .ptr true a0 (.pointer none)) fun b1 =>
 ifV (.bool (!b1)) (
 bnd (ncV a0) fun v2 =>
 bnd (faV 4 v2) fun v3 =>
 bnd (ldV 1 false v3 h) fun v4 =>
 K v4 h) (
 K (.bool false) h)
def A226 : Ann := ⟨fun _ => ([], []), fun _ => []⟩
theorem S226_T {a0 : Value} {h : GH} {K : Value → GH → Prop} (g : S226 a0 h K) : T Tryz.prog 226 [a0] h K :=
  T_of_gwp (A := A226) Tryz.func226 (c := bodyOf Tryz.f226) (by kernel_rfl) (by kernel_rfl) (by kernel_rfl) (by kernel_rfl) (by kernel_rfl) (Eq.mp (by kernel_rfl) g)
def S227 (a0 : Value) (h : GH) (K : Value → GH → Prop) : Prop :=
 bnd (eqK .ptr true a0 (.pointer none)) fun b1 =>
 ifV (.bool (!b1)) (
 bnd (ncV a0) fun v2 =>
 bnd (faV 58 v2) fun v3 =>
 bnd (ldV 1 false v3 h) fun v4 =>
 K v4 h) (
 K (.bool false) h)
def A227 : Ann := ⟨fun _ => ([], []), fun _ => []⟩
theorem S227_T {a0 : Value} {h : GH} {K : Value → GH → Prop} (g : S227 a0 h K) : T Tryz.prog 227 [a0] h K :=
  T_of_gwp (A := A227) Tryz.func227 (c := bodyOf Tryz.f227) (by kernel_rfl) (by kernel_rfl) (by kernel_rfl) (by kernel_rfl) (by kernel_rfl) (Eq.mp (by kernel_rfl) g)
def S228_j3 (x0 x6 : Value) (h : GH) (K : Value → GH → Prop)  : Prop :=
 bnd (ncV x0) fun v1 =>
 bnd (faV 1 v1) fun v2 =>
 bnd (ldV 1 false v2 h) fun v3 =>
 bnd (binV .add v3 (.int .i64 1)) fun v4 =>
 bnd (ncV x0) fun v5 =>
 bnd (faV 1 v5) fun v6 =>
 bnd (stV 1 v6 v4 h) fun h7 =>
 bnd (unV .not x6) fun v8 =>
 ifV v8 (
 bnd (ncV x0) fun v9 =>
 bnd (faV 4 v9) fun v10 =>
 bnd (stV 1 v10 (.bool true) h7) fun h11 =>
 K (.tuple #[(.bool true), (.int .i64 1100)]) h11) (
 bnd (ncV x0) fun v12 =>
 bnd (faV 4 v12) fun v13 =>
 bnd (ldV 1 false v13 h7) fun v14 =>
 K (.tuple #[v14, (.int .i64 0)]) h7)
def S228_j2 (x0 x1 : Value) (h : GH) (K : Value → GH → Prop)  : Prop :=
 bnd (ncV x0) fun v1 =>
 bnd (faV 1 v1) fun v2 =>
 bnd (ldV 1 false v2 h) fun v3 =>
 bnd (binV .lss v3 (.int .i64 0)) fun v4 =>
 ifV v4 (
 T Tryz.prog 156 [x1] h fun v5 h6 =>
 bnd (exV v5 0) fun v7 =>
 bnd (exV v5 1) fun v8 =>
 bnd (ncV x0) fun v9 =>
 bnd (faV 2 v9) fun v10 =>
 bnd (stV 1 v10 v7 h6) fun h11 =>
 S228_j3 x0 v8 h11 K ) (
 bnd (ncV x0) fun v12 =>
 bnd (faV 1 v12) fun v13 =>
 bnd (ldV 1 false v13 h) fun v14 =>
 bnd (ncV x0) fun v15 =>
 bnd (faV 0 v15) fun v16 =>
 bnd (ldV 1 false v16 h) fun v17 =>
 bnd (binV .lss v14 v17) fun v18 =>
 ifV v18 (
 bnd (ncV x0) fun v19 =>
 bnd (faV 1 v19) fun v20 =>
 bnd (ldV 1 false v20 h) fun v21 =>
 bnd (binV .add (.int .i64 30) v21) fun v22 =>
 T Tryz.prog 39 [x1, v22] h fun v23 h24 =>
 bnd (exV v23 0) fun v25 =>
 bnd (exV v23 1) fun v26 =>
 T Tryz.prog 136 [v25] h24 fun v27 h28 =>
 bnd (exV v27 0) fun v29 =>
 bnd (exV v27 1) fun v30 =>
 bnd (eqI v29 (.int .i64 0)) fun b31 =>
 ifV (.bool (!b31)) (
 bnd (ncV x0) fun v32 =>
 bnd (faV 2 v32) fun v33 =>
 bnd (ldV 1 false v33 h28) fun v34 =>
 bnd (binV .add v34 (.int .i64 1)) fun v35 =>
 bnd (eqI v29 v35) fun b36 =>
 bnd (ncV x0) fun v37 =>
 bnd (faV 4 v37) fun v38 =>
 bnd (stV 1 v38 (.bool (!b36)) h28) fun h39 =>
 S228_j3 x0 v30 h39 K ) (
 bnd (ncV x0) fun v40 =>
 bnd (faV 4 v40) fun v41 =>
 bnd (stV 1 v41 (.bool false) h28) fun h42 =>
 S228_j3 x0 v30 h42 K )) (
 bnd (ncV x0) fun v43 =>
 bnd (faV 2 v43) fun v44 =>
 bnd (ldV 1 false v44 h) fun v45 =>
 T Tryz.prog 78 [v45] h fun v46 h47 =>
 bnd (ncV x0) fun v48 =>
 bnd (faV 2 v48) fun v49 =>
 bnd (ldV 1 false v49 h47) fun v50 =>
 bnd (binV .add v50 (.int .i64 1)) fun v51 =>
 T Tryz.prog 78 [v51] h47 fun v52 h53 =>
 T Tryz.prog 209 [x1, (.int .i64 29), v46, v52] h53 fun v54 h55 =>
 bnd (exV v54 0) fun v56 =>
 bnd (exV v54 1) fun v57 =>
 bnd (eqI v56 v46) fun b58 =>
 bnd (ncV x0) fun v59 =>
 bnd (faV 3 v59) fun v60 =>
 bnd (stV 1 v60 (.bool b58) h55) fun h61 =>
 bnd (ncV x0) fun v62 =>
 bnd (faV 4 v62) fun v63 =>
 bnd (stV 1 v63 (.bool true) h61) fun h64 =>
 S228_j3 x0 (.bool true) h64 K ))
def S228_j1 (x0 x1 x14 : Value) (h : GH) (K : Value → GH → Prop)  : Prop :=
 ifV x14 (
 K (.tuple #[(.bool false), (.int .i64 1)]) h) (
 bnd (ncV x0) fun v1 =>
 bnd (faV 4 v1) fun v2 =>
 bnd (ldV 1 false v2 h) fun v3 =>
 ifV v3 (
 K (.tuple #[(.bool true), (.int .i64 0)]) h) (
 S228_j2 x0 x1 h K ))
def S228 (a0 a1 : Value) (h : GH) (K : Value → GH → Prop) : Prop :=
 bnd (eqK .ptr true a0 (.pointer none)) fun b1 =>
 ifV (.bool b1) (
 S228_j1 a0 a1 (.bool true) h K ) (
 bnd (eqK .ptr true a1 (.pointer none)) fun b2 =>
 S228_j1 a0 a1 (.bool b2) h K )
def A228 : Ann := ⟨fun | 11 => ([0, 1, 2, 3, 4, 5, 6, 7, 8, 9], [0, 1, 3, 7, 0, 16, 48, 112, 255, 511]) | _ => ([], []), fun _ => []⟩
theorem S228_T {a0 a1 : Value} {h : GH} {K : Value → GH → Prop} (g : S228 a0 a1 h K) : T Tryz.prog 228 [a0, a1] h K :=
  T_of_gwp (A := A228) Tryz.func228 (c := bodyOf Tryz.f228) (by kernel_rfl) (by kernel_rfl) (by kernel_rfl) (by kernel_rfl) (by kernel_rfl) (Eq.mp (by kernel_rfl) g)
def S229_j3 (x0 x1 x4 : Value) (h : GH) (K : Value → GH → Prop)  : Prop :=
 bnd (ncV x0) fun v1 =>
 bnd (faV 20 v1) fun v2 =>
 bnd (ldV 1 false v2 h) fun v3 =>
 bnd (ncV x4) fun v4 =>
 bnd (faV 5 v4) fun v5 =>
 bnd (stV 1 v5 v3 h) fun h6 =>
 bnd (ncV x4) fun v7 =>
 bnd (faV 4 v7) fun v8 =>
 bnd (stV 1 v8 x1 h6) fun h9 =>
 bnd (ncV x0) fun v10 =>
 bnd (faV 8 v10) fun v11 =>
 bnd (stV 1 v11 (.int .i64 0) h9) fun h12 =>
 K (.tuple #[]) h12
def S229_j2 (x0 x1 x4 : Value) (h : GH) (K : Value → GH → Prop)  : Prop :=
 bnd (ncV x0) fun v1 =>
 bnd (faV 20 v1) fun v2 =>
 bnd (ldV 1 false v2 h) fun v3 =>
 bnd (eqI v3 (.int .i64 0)) fun b4 =>
 ifV (.bool b4) (
 bnd (ncV x0) fun v5 =>
 bnd (faV 18 v5) fun v6 =>
 bnd (ldV 1 false v6 h) fun v7 =>
 T Tryz.prog 252 [v7] h fun v8 h9 =>
 bnd (ncV x4) fun v10 =>
 bnd (faV 7 v10) fun v11 =>
 bnd (stV 1 v11 v8 h9) fun h12 =>
 S229_j3 x0 x1 x4 h12 K ) (
 S229_j3 x0 x1 x4 h K )
def S229_j1 (x0 x1 x4 x39 : Value) (h : GH) (K : Value → GH → Prop)  : Prop :=
 ifV x39 (
 bnd (ncV x0) fun v1 =>
 bnd (faV 3 v1) fun v2 =>
 bnd (ldV 1 false v2 h) fun v3 =>
 bnd (ncV x0) fun v4 =>
 bnd (faV 8 v4) fun v5 =>
 bnd (ldV 1 false v5 h) fun v6 =>
 T Tryz.prog 251 [v3, v6] h fun v7 h8 =>
 bnd (exV v7 0) fun v9 =>
 bnd (exV v7 1) fun v10 =>
 bnd (ncV x0) fun v11 =>
 bnd (faV 9 v11) fun v12 =>
 bnd (stV 1 v12 v9 h8) fun h13 =>
 K (.tuple #[]) h13) (
 S229_j2 x0 x1 x4 h K )
def S229 (a0 a1 : Value) (h : GH) (K : Value → GH → Prop) : Prop :=
 bnd (ncV a0) fun v1 =>
 bnd (faV 6 v1) fun v2 =>
 bnd (stV 1 v2 .nilFunc h) fun h3 =>
 bnd (ncV a0) fun v4 =>
 bnd (faV 8 v4) fun v5 =>
 bnd (ldV 1 false v5 h3) fun v6 =>
 bnd (binV .add v6 (.int .i64 1)) fun v7 =>
 bnd (ncV a0) fun v8 =>
 bnd (faV 8 v8) fun v9 =>
 bnd (stV 1 v9 v7 h3) fun h10 =>
 T Tryz.prog 139 [a0] h10 fun v11 h12 =>
 bnd (ncV a0) fun v13 =>
 bnd (faV 8 v13) fun v14 =>
 bnd (ldV 1 false v14 h12) fun v15 =>
 bnd (ncV v11) fun v16 =>
 bnd (faV 6 v16) fun v17 =>
 bnd (stV 1 v17 v15 h12) fun h18 =>
 bnd (ncV a0) fun v19 =>
 bnd (faV 20 v19) fun v20 =>
 bnd (ldV 1 false v20 h18) fun v21 =>
 bnd (eqI v21 (.int .i64 2)) fun b22 =>
 ifV (.bool b22) (
 bnd (ncV a0) fun v23 =>
 bnd (faV 8 v23) fun v24 =>
 bnd (ldV 1 false v24 h18) fun v25 =>
 bnd (ncV a0) fun v26 =>
 bnd (faV 2 v26) fun v27 =>
 bnd (ldV 1 false v27 h18) fun v28 =>
 bnd (binV .lss v25 v28) fun v29 =>
 S229_j1 a0 a1 v11 v29 h18 K ) (
 S229_j1 a0 a1 v11 (.bool false) h18 K )
def A229 : Ann := ⟨fun | 4 => ([0, 1, 2, 3, 4, 5, 6, 7, 8, 9, 10, 11, 12, 13, 14, 15], [0, 1, 3, 7, 15, 31, 63, 127, 255, 511, 63, 1087, 3135, 7231, 16383, 32767]) | 5 => ([0, 1, 2, 3, 4, 5, 6, 7, 8, 9, 10, 11, 12, 13, 14, 15], [0, 0, 2, 6, 14, 0, 32, 96, 224, 510, 1022, 2046, 2046, 4095, 12287, 28671]) | _ => ([], []), fun _ => []⟩
theorem S229_T {a0 a1 : Value} {h : GH} {K : Value → GH → Prop} (g : S229 a0 a1 h K) : T Tryz.prog 229 [a0, a1] h K :=
  T_of_gwp (A := A229) Tryz.func229 (c := bodyOf Tryz.f229) (by kernel_rfl) (by kernel_rfl) (by kernel_rfl) (by kernel_rfl) (by kernel_rfl) (Eq.mp (by kernel_rfl) g)
def S230 (a0 a1 a2 : Value) (h : GH) (K : Value → GH → Prop) : Prop :=
 bnd (ldV 1 false a1 h) fun v1 =>
 bnd (eqI a0 v1) fun b2 =>
 ifV (.bool b2) (
 bnd (ldV 1 false a2 h) fun v3 =>
 K v3 h) (
 K a0 h)
def A230 : Ann := ⟨fun _ => ([], []), fun _ => []⟩
theorem S230_T {a0 a1 a2 : Value} {h : GH} {K : Value → GH → Prop} (g : S230 a0 a1 a2 h K) : T Tryz.prog 230 [a0, a1, a2] h K :=
  T_of_gwp (A := A230) Tryz.func230 (c := bodyOf Tryz.f230) (by kernel_rfl) (by kernel_rfl) (by kernel_rfl) (by kernel_rfl) (by kernel_rfl) (Eq.mp (by kernel_rfl) g)
def S242 (a0 : Value) (h : GH) (K : Value → GH → Prop) : Prop :=
 Lfp (fun (s1 : Nat → Value) h2 again3 =>
 bnd (binV .lss (s1 1) (.int .i64 16)) fun v4 =>
 ifV v4 (
 bnd (ncV (s1 0)) fun v5 =>
 bnd (faV 16 v5) fun v6 =>
 bnd (iaV 16 1 v6 (s1 1)) fun v7 =>
 bnd (ldV 1 false v7 h2) fun v8 =>
 T Tryz.prog 256 [v8] h2 fun v9 h10 =>
 bnd (unV .not v9) fun v11 =>
 ifV v11 (
 K (.bool false) h10) (
 bnd (ncV (s1 0)) fun v12 =>
 bnd (faV 32 v12) fun v13 =>
 bnd (iaV 16 1 v13 (s1 1)) fun v14 =>
 bnd (ldV 1 false v14 h10) fun v15 =>
 T Tryz.prog 256 [v15] h10 fun v16 h17 =>
 bnd (unV .not v16) fun v18 =>
 ifV v18 (
 K (.bool false) h17) (
 bnd (binV .add (s1 1) (.int .i64 1)) fun v19 =>
 again3 (tup [(s1 0), v19]) h17))) (
 K (.bool true) h2)) (tup [a0, (.int .i64 0)]) h
def A242 : Ann := ⟨fun _ => ([], []), fun | 0 => [0, 4] | _ => []⟩
theorem S242_T {a0 : Value} {h : GH} {K : Value → GH → Prop} (g : S242 a0 h K) : T Tryz.prog 242 [a0] h K :=
  T_of_gwp (A := A242) Tryz.func242 (c := bodyOf Tryz.f242) (by kernel_rfl) (by kernel_rfl) (by kernel_rfl) (by kernel_rfl) (by kernel_rfl) (Eq.mp (by kernel_rfl) g)
def S243_j1 (x2 x3 x4 : Value) (h : GH) (K : Value → GH → Prop)  : Prop :=
 bnd (ldV 48 true x2 h) fun v1 =>
 bnd (fillV (List.replicate 16 (.bool false) ++ List.replicate 32 (.int .i64 0) ++ [.nilIface]) [(0, 48, v1)]) fun c2 =>
 newV 372 ((.agg c2.toArray) : Value).cells.toList h fun v3 h4 =>
 bnd (fillV [(.pointer none)] [(0, 1, v3)]) fun c5 =>
 newV 374 [(.pointer none)] h4 fun v6 h7 =>
 bnd (stV 1 v6 (.agg c5.toArray) h7) fun h8 =>
 bnd (faV 0 x3) fun v9 =>
 bnd (ldV 1 false v9 h8) fun v10 =>
 bnd (eqI v10 (.int .i64 9)) fun b11 =>
 ifV (.bool b11) (
 T Tryz.prog 257 [(.int .i64 2)] h8 fun v12 h13 =>
 newV 122 [(.int .i64 0), (.int .i64 0)] h13 fun v14 h15 =>
 bnd (stV 2 v14 v12 h15) fun h16 =>
 bnd (ldV 1 true v6 h16) fun v17 =>
 T Tryz.prog 258 [v17, (.int .i64 (-1)), (.int .i64 0)] h16 fun v18 h19 =>
 bnd (eqI v18 (.int .i64 (-1))) fun b20 =>
 ifV (.bool (!b20)) (
 T Tryz.prog 259 [v18] h19 fun v21 h22 =>
 bnd (stV 2 v14 v21 h22) fun h23 =>
 bnd (ldV 2 true v14 h23) fun v24 =>
 T Tryz.prog 260 [v3, x2, v24] h23 fun v25 h26 =>
 bnd (stV 50 x4 v25 h26) fun h27 =>
 bnd (ldV 50 true x4 h27) fun v28 =>
 K (.tuple #[v28, (.int .i64 0)]) h27) (
 bnd (ldV 2 true v14 h19) fun v29 =>
 T Tryz.prog 260 [v3, x2, v29] h19 fun v30 h31 =>
 bnd (stV 50 x4 v30 h31) fun h32 =>
 bnd (ldV 50 true x4 h32) fun v33 =>
 K (.tuple #[v33, (.int .i64 0)]) h32)) (
 nmpV h8 fun v34 h35 =>
 bnd (mupV .i64 v34 (.int .i64 6) (.func (.func 261) #[] #[]) h35) fun h36 =>
 bnd (mupV .i64 v34 (.int .i64 7) (.func (.func 262) #[] #[]) h36) fun h37 =>
 bnd (mupV .i64 v34 (.int .i64 8) (.func (.func 263) #[] #[]) h37) fun h38 =>
 bnd (mupV .i64 v34 (.int .i64 10) (.func (.func 264) #[] #[]) h38) fun h39 =>
 bnd (faV 0 x3) fun v40 =>
 bnd (ldV 1 false v40 h39) fun v41 =>
 bnd (mlkV .i64 v34 v41 h39) fun v42 =>
 bnd (ldV 1 true v6 h39) fun v43 =>
 bnd (faV 1 x3) fun v44 =>
 bnd (ldV 1 false v44 h39) fun v45 =>
 T Tryz.prog 265 [v43, v45] h39 fun v46 h47 =>
 mlkV .i64 v34 v41 h47 = some v42 ∧
 ldV 1 false v40 h47 = some v41 ∧
 callV Tryz.prog v42 [v46, x3] h47 fun v48 h49 =>
 newV 122 [(.int .i64 0), (.int .i64 0)] h49 fun v50 h51 =>
 bnd (stV 2 v50 v48 h51) fun h52 =>
 bnd (ldV 2 true v50 h52) fun v53 =>
 T Tryz.prog 260 [v3, x2, v53] h52 fun v54 h55 =>
 bnd (stV 50 x4 v54 h55) fun h56 =>
 bnd (ldV 50 true x4 h56) fun v57 =>
 K (.tuple #[v57, (.int .i64 0)]) h56)
def S243 (a0 a1 : Value) (h : GH) (K : Value → GH → Prop) : Prop :=
 newV 255 (a0 : Value).cells.toList h fun v1 h2 =>
 newV 24 (a1 : Value).cells.toList h2 fun v3 h4 =>
 newV 298 ([(.int .i64 0)] ++ List.replicate 16 (.bool false) ++ List.replicate 32 (.int .i64 0) ++ [(.slice none 0 0)]) h4 fun v5 h6 =>
 T Tryz.prog 242 [v1] h6 fun v7 h8 =>
 bnd (unV .not v7) fun v9 =>
 ifV v9 (
 bnd (fillV ([(.int .i64 0)] ++ List.replicate 16 (.bool false) ++ List.replicate 32 (.int .i64 0) ++ [(.slice none 0 0)]) []) fun c10 =>
 bnd (stV 50 v5 (.agg c10.toArray) h8) fun h11 =>
 bnd (ldV 50 true v5 h11) fun v12 =>
 K (.tuple #[v12, (.int .i64 600)]) h11) (
 T Tryz.prog 127 [v3] h8 fun v13 h14 =>
 bnd (unV .not v13) fun v15 =>
 ifV v15 (
 bnd (fillV ([(.int .i64 0)] ++ List.replicate 16 (.bool false) ++ List.replicate 32 (.int .i64 0) ++ [(.slice none 0 0)]) []) fun c16 =>
 bnd (stV 50 v5 (.agg c16.toArray) h14) fun h17 =>
 bnd (ldV 50 true v5 h17) fun v18 =>
 K (.tuple #[v18, (.int .i64 600)]) h17) (
 bnd (faV 0 v3) fun v19 =>
 bnd (ldV 1 false v19 h14) fun v20 =>
 T Tryz.prog 110 [v20] h14 fun v21 h22 =>
 ifV v21 (
 bnd (fillV ([(.int .i64 0)] ++ List.replicate 16 (.bool false) ++ List.replicate 32 (.int .i64 0) ++ [(.slice none 0 0)]) []) fun c23 =>
 bnd (stV 50 v5 (.agg c23.toArray) h22) fun h24 =>
 bnd (ldV 50 true v5 h24) fun v25 =>
 K (.tuple #[v25, (.int .i64 600)]) h24) (
 S243_j1 v1 v3 v5 h22 K )))
def A243 : Ann := ⟨fun | 12 => ([0, 1, 2, 3, 4, 5, 6, 7, 8, 9, 10], [0, 0, 2, 7, 0, 0, 32, 112, 255, 0, 1023]) | _ => ([], []), fun _ => []⟩
theorem S243_T {a0 a1 : Value} {h : GH} {K : Value → GH → Prop} (g : S243 a0 a1 h K) : T Tryz.prog 243 [a0, a1] h K :=
  T_of_gwp (A := A243) Tryz.func243 (c := bodyOf Tryz.f243) (by kernel_rfl) (by kernel_rfl) (by kernel_rfl) (by kernel_rfl) (by kernel_rfl) (Eq.mp (by kernel_rfl) g)
def S244_j1 (x2 x3 x4 : Value) (h : GH) (K : Value → GH → Prop)  : Prop :=
 bnd (fillV [.nilFunc, .nilFunc, .nilFunc, .nilFunc, .nilFunc, .nilFunc] [(0, 1, (.func (.func 266) #[] #[])), (1, 1, (.func (.func 267) #[] #[])), (2, 1, (.func (.func 268) #[] #[])), (3, 1, (.func (.func 269) #[] #[])), (4, 1, (.func (.func 270) #[] #[])), (5, 1, (.func (.func 271) #[] #[]))]) fun c1 =>
 newV 382 [.nilFunc, .nilFunc, .nilFunc, .nilFunc, .nilFunc, .nilFunc] h fun v2 h3 =>
 bnd (stV 6 v2 (.agg c1.toArray) h3) fun h4 =>
 bnd (ldV 48 true x2 h4) fun v5 =>
 bnd (fillV (List.replicate 16 (.bool false) ++ List.replicate 32 (.int .i64 0) ++ [.nilIface]) [(0, 48, v5)]) fun c6 =>
 newV 372 ((.agg c6.toArray) : Value).cells.toList h4 fun v7 h8 =>
 bnd (faV 0 x3) fun v9 =>
 bnd (ldV 1 false v9 h8) fun v10 =>
 bnd (iaV 6 1 v2 v10) fun v11 =>
 bnd (ldV 1 false v11 h8) fun v12 =>
 callV Tryz.prog v12 [v7, x3] h8 fun v13 h14 =>
 newV 122 [(.int .i64 0), (.int .i64 0)] h14 fun v15 h16 =>
 bnd (stV 2 v15 v13 h16) fun h17 =>
 bnd (ldV 2 true v15 h17) fun v18 =>
 T Tryz.prog 260 [v7, x2, v18] h17 fun v19 h20 =>
 bnd (stV 50 x4 v19 h20) fun h21 =>
 bnd (ldV 50 true x4 h21) fun v22 =>
 K (.tuple #[v22, (.int .i64 0)]) h21
def S244 (a0 a1 : Value) (h : GH) (K : Value → GH → Prop) : Prop :=
 newV 255 (a0 : Value).cells.toList h fun v1 h2 =>
 newV 24 (a1 : Value).cells.toList h2 fun v3 h4 =>
 newV 298 ([(.int .i64 0)] ++ List.replicate 16 (.bool false) ++ List.replicate 32 (.int .i64 0) ++ [(.slice none 0 0)]) h4 fun v5 h6 =>
 T Tryz.prog 242 [v1] h6 fun v7 h8 =>
 bnd (unV .not v7) fun v9 =>
 ifV v9 (
 bnd (fillV ([(.int .i64 0)] ++ List.replicate 16 (.bool false) ++ List.replicate 32 (.int .i64 0) ++ [(.slice none 0 0)]) []) fun c10 =>
 bnd (stV 50 v5 (.agg c10.toArray) h8) fun h11 =>
 bnd (ldV 50 true v5 h11) fun v12 =>
 K (.tuple #[v12, (.int .i64 500)]) h11) (
 T Tryz.prog 127 [v3] h8 fun v13 h14 =>
 bnd (unV .not v13) fun v15 =>
 ifV v15 (
 bnd (fillV ([(.int .i64 0)] ++ List.replicate 16 (.bool false) ++ List.replicate 32 (.int .i64 0) ++ [(.slice none 0 0)]) []) fun c16 =>
 bnd (stV 50 v5 (.agg c16.toArray) h14) fun h17 =>
 bnd (ldV 50 true v5 h17) fun v18 =>
 K (.tuple #[v18, (.int .i64 500)]) h17) (
 bnd (faV 0 v3) fun v19 =>
 bnd (ldV 1 false v19 h14) fun v20 =>
 T Tryz.prog 110 [v20] h14 fun v21 h22 =>
 bnd (unV .not v21) fun v23 =>
 ifV v23 (
 bnd (fillV ([(.int .i64 0)] ++ List.replicate 16 (.bool false) ++ List.replicate 32 (.int .i64 0) ++ [(.slice none 0 0)]) []) fun c24 =>
 bnd (stV 50 v5 (.agg c24.toArray) h22) fun h25 =>
 bnd (ldV 50 true v5 h25) fun v26 =>
 K (.tuple #[v26, (.int .i64 500)]) h25) (
 S244_j1 v1 v3 v5 h22 K )))
def A244 : Ann := ⟨fun _ => ([], []), fun _ => []⟩
theorem S244_T {a0 a1 : Value} {h : GH} {K : Value → GH → Prop} (g : S244 a0 a1 h K) : T Tryz.prog 244 [a0, a1] h K :=
  T_of_gwp (A := A244) Tryz.func244 (c := bodyOf Tryz.f244) (by kernel_rfl) (by kernel_rfl) (by kernel_rfl) (by kernel_rfl) (by kernel_rfl) (Eq.mp (by kernel_rfl) g)
def S245 (a0 a1 a2 : Value) (h : GH) (K : Value → GH → Prop) : Prop :=
 T Tryz.prog 131 [a0] h fun v1 h2 =>
 bnd (unV .not v1) fun v3 =>
 ifV v3 (
 K (.tuple #[(.pointer none), (.int .i64 1500)]) h2) (
 T Tryz.prog 75 [a1, (.int .i64 1048576)] h2 fun v4 h5 =>
 bnd (unV .not v4) fun v6 =>
 ifV v6 (
 K (.tuple #[(.pointer none), (.int .i64 1500)]) h5) (
 T Tryz.prog 75 [a2, (.int .i64 16)] h5 fun v7 h8 =>
 bnd (unV .not v7) fun v9 =>
 ifV v9 (
 K (.tuple #[(.pointer none), (.int .i64 1500)]) h8) (
 bnd (fillV [(.int .i64 0), (.int .i64 0), (.int .i64 0), (.int .i64 0), (.pointer none), (.int .i64 0), (.int .i64 0), (.bool false)] [(0, 1, a0), (1, 1, a1), (2, 1, a2), (5, 1, (.int .i64 (-1)))]) fun c10 =>
 newV 384 ((.agg c10.toArray) : Value).cells.toList h8 fun v11 h12 =>
 K (.tuple #[v11, (.int .i64 0)]) h12)))
def A245 : Ann := ⟨fun _ => ([], []), fun _ => []⟩
theorem S245_T {a0 a1 a2 : Value} {h : GH} {K : Value → GH → Prop} (g : S245 a0 a1 a2 h K) : T Tryz.prog 245 [a0, a1, a2] h K :=
  T_of_gwp (A := A245) Tryz.func245 (c := bodyOf Tryz.f245) (by kernel_rfl) (by kernel_rfl) (by kernel_rfl) (by kernel_rfl) (by kernel_rfl) (Eq.mp (by kernel_rfl) g)
def S246_j1 (x0 x1 x2 : Value) (h : GH) (K : Value → GH → Prop)  : Prop :=
 T Tryz.prog 137 [x0] h fun v1 h2 =>
 T Tryz.prog 138 [x1, (.int .i64 0)] h2 fun v3 h4 =>
 bnd (lnV x2) fun v5 =>
 T Tryz.prog 78 [v5] h4 fun v6 h7 =>
 bsV 3 2 [(.int .i64 0), (.int .i64 0)] [(0, 1, v3), (1, 1, v6)] h7 fun v8 h9 =>
 bnd (fillV [(.int .i64 0), (.slice none 0 0)] [(0, 1, v1), (1, 1, v8)]) fun c10 =>
 newV 386 ((.agg c10.toArray) : Value).cells.toList h9 fun v11 h12 =>
 bnd (lnV x2) fun v13 =>
 Lfp (fun (s14 : Nat → Value) h15 again16 =>
 bnd (binV .lss (s14 3) (s14 2)) fun v17 =>
 ifV v17 (
 bnd (isV 3 (s14 1) (s14 3)) fun v18 =>
 bnd (ldV 3 true v18 h15) fun v19 =>
 newV 340 [(.int .i64 0), (.int .i64 0), (.int .i64 0)] h15 fun v20 h21 =>
 bnd (stV 3 v20 v19 h21) fun h22 =>
 bnd (ncV (s14 0)) fun v23 =>
 bnd (faV 1 v23) fun v24 =>
 bnd (ldV 1 false v24 h22) fun v25 =>
 bnd (faV 0 v20) fun v26 =>
 bnd (ldV 1 false v26 h22) fun v27 =>
 bnd (faV 1 v20) fun v28 =>
 bnd (ldV 1 false v28 h22) fun v29 =>
 bnd (faV 2 v20) fun v30 =>
 bnd (ldV 1 false v30 h22) fun v31 =>
 T Tryz.prog 78 [v27] h22 fun v32 h33 =>
 ldV 1 false v30 h33 = some v31 ∧
 ldV 1 false v28 h33 = some v29 ∧
 ldV 1 false v24 h33 = some v25 ∧
 T Tryz.prog 78 [v29] h33 fun v34 h35 =>
 ldV 1 false v30 h35 = some v31 ∧
 ldV 1 false v24 h35 = some v25 ∧
 T Tryz.prog 78 [v31] h35 fun v36 h37 =>
 ldV 1 false v24 h37 = some v25 ∧
 bsV 3 3 [(.int .i64 0), (.int .i64 0), (.int .i64 0)] [(0, 1, v32), (1, 1, v34), (2, 1, v36)] h37 fun v38 h39 =>
 apV 3 1 8 v25 v38 h39 fun v40 h41 =>
 bnd (ncV (s14 0)) fun v42 =>
 bnd (faV 1 v42) fun v43 =>
 bnd (stV 1 v43 v40 h41) fun h44 =>
 bnd (binV .add (s14 3) (.int .i64 1)) fun v45 =>
 again16 (tup [(s14 0), (s14 1), (s14 2), v45]) h44) (
 K (.tuple #[(s14 0), (.int .i64 0)]) h15)) (tup [v11, x2, v13, (.int .i64 0)]) h12
def S246 (a0 a1 a2 : Value) (h : GH) (K : Value → GH → Prop) : Prop :=
 T Tryz.prog 221 [a0, a1] h fun v1 h2 =>
 bnd (unV .not v1) fun v3 =>
 ifV v3 (
 K (.tuple #[(.pointer none), (.int .i64 1300)]) h2) (
 T Tryz.prog 272 [a2] h2 fun v4 h5 =>
 bnd (unV .not v4) fun v6 =>
 ifV v6 (
 K (.tuple #[(.pointer none), (.int .i64 1300)]) h5) (
 S246_j1 a0 a1 a2 h5 K ))
def A246 : Ann := ⟨fun | 7 => ([0, 1, 2, 3, 4, 5, 6, 8, 9, 11, 12, 7, 10, 13, 14, 15, 16, 17, 18], [0, 0, 2, 6, 14, 0, 32, 96, 0, 256, 992, 0, 2048, 8160, 16352, 32766, 65535, 131071, 262143]) | _ => ([], []), fun | 0 => [8, 30, 31, 32] | _ => []⟩
theorem S246_T {a0 a1 a2 : Value} {h : GH} {K : Value → GH → Prop} (g : S246 a0 a1 a2 h K) : T Tryz.prog 246 [a0, a1, a2] h K :=
  T_of_gwp (A := A246) Tryz.func246 (c := bodyOf Tryz.f246) (by kernel_rfl) (by kernel_rfl) (by kernel_rfl) (by kernel_rfl) (by kernel_rfl) (Eq.mp (by kernel_rfl) g)
def S247 (a0 : Value) (h : GH) (K : Value → GH → Prop) : Prop :=
 newV 255 (a0 : Value).cells.toList h fun v1 h2 =>
 bnd (faV 0 v1) fun v3 =>
 bnd (ldV 16 true v3 h2) fun v4 =>
 Lfp (fun (s5 : Nat → Value) h6 again7 =>
 bnd (binV .lss (s5 3) (.int .i64 16)) fun v8 =>
 ifV v8 (
 bnd (ixV 16 1 false (s5 2) (s5 3)) fun v9 =>
 ifV v9 (
 bnd (faV 16 (s5 0)) fun v10 =>
 bnd (iaV 16 1 v10 (s5 3)) fun v11 =>
 bnd (ldV 1 false v11 h6) fun v12 =>
 bnd (faV 32 (s5 0)) fun v13 =>
 bnd (iaV 16 1 v13 (s5 3)) fun v14 =>
 bnd (ldV 1 false v14 h6) fun v15 =>
 bnd (fillV [(.int .i64 0), (.int .i64 0), (.int .i64 0)] [(0, 1, (s5 3)), (1, 1, v12), (2, 1, v15)]) fun c16 =>
 bsV 340 1 [(.int .i64 0), (.int .i64 0), (.int .i64 0)] [(0, 3, (.agg c16.toArray))] h6 fun v17 h18 =>
 apV 340 3 24 (s5 1) v17 h18 fun v19 h20 =>
 bnd (binV .add (s5 3) (.int .i64 1)) fun v21 =>
 again7 (tup [(s5 0), v19, (s5 2), v21]) h20) (
 bnd (binV .add (s5 3) (.int .i64 1)) fun v22 =>
 again7 (tup [(s5 0), (s5 1), (s5 2), v22]) h6)) (
 K (s5 1) h6)) (tup [v1, (.slice none 0 0), v4, (.int .i64 0)]) h2
def A247 : Ann := ⟨fun | 6 => ([0, 1, 2, 3, 4, 5, 6, 7, 8, 9, 10, 11, 12, 13], [0, 0, 0, 0, 12, 28, 0, 0, 192, 448, 1022, 2046, 4095, 8191]) | _ => ([], []), fun | 0 => [1, 3, 7, 8] | _ => []⟩
theorem S247_T {a0 : Value} {h : GH} {K : Value → GH → Prop} (g : S247 a0 h K) : T Tryz.prog 247 [a0] h K :=
  T_of_gwp (A := A247) Tryz.func247 (c := bodyOf Tryz.f247) (by kernel_rfl) (by kernel_rfl) (by kernel_rfl) (by kernel_rfl) (by kernel_rfl) (Eq.mp (by kernel_rfl) g)
def S248 (a0 : Value) (h : GH) (K : Value → GH → Prop) : Prop :=
 bnd (eqK .ptr true a0 (.pointer none)) fun b1 =>
 ifV (.bool b1) (
 K (.int .i64 0) h) (
 bnd (ncV a0) fun v2 =>
 bnd (faV 3 v2) fun v3 =>
 bnd (ldV 1 false v3 h) fun v4 =>
 K v4 h)
def A248 : Ann := ⟨fun _ => ([], []), fun _ => []⟩
theorem S248_T {a0 : Value} {h : GH} {K : Value → GH → Prop} (g : S248 a0 h K) : T Tryz.prog 248 [a0] h K :=
  T_of_gwp (A := A248) Tryz.func248 (c := bodyOf Tryz.f248) (by kernel_rfl) (by kernel_rfl) (by kernel_rfl) (by kernel_rfl) (by kernel_rfl) (Eq.mp (by kernel_rfl) g)
def S249 (a0 : Value) (h : GH) (K : Value → GH → Prop) : Prop :=
 bnd (ncV a0) fun v1 =>
 bnd (faV 2 v1) fun v2 =>
 bnd (ldV 1 false v2 h) fun v3 =>
 K v3 h
def A249 : Ann := ⟨fun _ => ([], []), fun _ => []⟩
theorem S249_T {a0 : Value} {h : GH} {K : Value → GH → Prop} (g : S249 a0 h K) : T Tryz.prog 249 [a0] h K :=
  T_of_gwp (A := A249) Tryz.func249 (c := bodyOf Tryz.f249) (by kernel_rfl) (by kernel_rfl) (by kernel_rfl) (by kernel_rfl) (by kernel_rfl) (Eq.mp (by kernel_rfl) g)
def S250 (a0 a1 : Value) (h : GH) (K : Value → GH → Prop) : Prop :=
 bnd (taV 277 (.agg #[(.int .i64 0), (.int .i64 0), (.int .i64 0), (.int .i64 0), (.int .i64 0)]) true a0) fun v1 =>
 bnd (exV v1 1) fun v2 =>
 bnd (exV v1 0) fun v3 =>
 ifV v2 (
 newV 277 [(.int .i64 0), (.int .i64 0), (.int .i64 0), (.int .i64 0), (.int .i64 0)] h fun v4 h5 =>
 bnd (stV 5 v4 v3 h5) fun h6 =>
 bnd (faV 0 v4) fun v7 =>
 bnd (ldV 2 true v7 h6) fun v8 =>
 bnd (fillV [(.int .i64 0), (.int .i64 0), (.int .i64 0), (.int .i64 0), (.bool false), (.bool false)] [(0, 2, v8)]) fun c9 =>
 bnd (ldV 5 true v4 h6) fun v10 =>
 bnd (fillV [(.int .i64 0), (.int .i64 0), (.int .i64 0), (.int .i64 0), (.bool false), (.bool false), (.int .i64 0), (.int .i64 0), (.int .i64 0), (.int .i64 0), (.int .i64 0), (.int .i64 0)] [(0, 6, (.agg c9.toArray)), (6, 5, v10)]) fun c11 =>
 newV 391 ((.agg c11.toArray) : Value).cells.toList h6 fun v12 h13 =>
 K (.iface 387 v12) h13) (
 bnd (taV 133 (.agg #[(.int .i64 0), (.int .i64 0)]) true a0) fun v14 =>
 bnd (exV v14 1) fun v15 =>
 bnd (exV v14 0) fun v16 =>
 ifV v15 (
 newV 133 [(.int .i64 0), (.int .i64 0)] h fun v17 h18 =>
 bnd (stV 2 v17 v16 h18) fun h19 =>
 bnd (ldV 2 true v17 h19) fun v20 =>
 bnd (fillV [(.int .i64 0), (.int .i64 0), (.int .i64 0), (.int .i64 0), (.bool false), (.bool false)] [(0, 2, v20)]) fun c21 =>
 bnd (fillV [(.int .i64 0), (.int .i64 0), (.int .i64 0), (.int .i64 0), (.bool false), (.bool false), (.pointer none), (.int .i64 0), (.int .i64 0), (.int .i64 0), (.int .i64 0), .nilIface, (.int .i64 0)] [(0, 6, (.agg c21.toArray)), (6, 1, a1), (7, 1, (.int .i64 1))]) fun c22 =>
 newV 394 ((.agg c22.toArray) : Value).cells.toList h19 fun v23 h24 =>
 K (.iface 392 v23) h24) (
 K .nilIface h))
def A250 : Ann := ⟨fun _ => ([], []), fun _ => []⟩
theorem S250_T {a0 a1 : Value} {h : GH} {K : Value → GH → Prop} (g : S250 a0 a1 h K) : T Tryz.prog 250 [a0, a1] h K :=
  T_of_gwp (A := A250) Tryz.func250 (c := bodyOf Tryz.f250) (by kernel_rfl) (by kernel_rfl) (by kernel_rfl) (by kernel_rfl) (by kernel_rfl) (Eq.mp (by kernel_rfl) g)
def S251_j2 (x1 : Value) (h : GH) (K : Value → GH → Prop)  : Prop :=
 Lfp (fun (s1 : Nat → Value) h2 again3 =>
 bnd (binV .lss (s1 2) (s1 0)) fun v4 =>
 ifV v4 (
 bnd (binV .lss (s1 1) (.int .i64 8)) fun v5 =>
 ifV v5 (
 bnd (binV .mul (s1 1) (.int .i64 2)) fun v6 =>
 bnd (binV .add (s1 2) (.int .i64 1)) fun v7 =>
 again3 (tup [(s1 0), v6, v7]) h2) (
 bnd (mmV false (s1 1) [(.int .i64 8)]) fun v8 =>
 K (.tuple #[v8, (.int .i64 0)]) h2)) (
 bnd (mmV false (s1 1) [(.int .i64 8)]) fun v9 =>
 K (.tuple #[v9, (.int .i64 0)]) h2)) (tup [x1, (.int .i64 1), (.int .i64 1)]) h
def S251_j1 (x0 x1 x8 : Value) (h : GH) (K : Value → GH → Prop)  : Prop :=
 ifV x8 (
 K (.tuple #[(.int .i64 0), (.int .i64 1600)]) h) (
 bnd (unV .not x0) fun v1 =>
 ifV v1 (
 K (.tuple #[(.int .i64 0), (.int .i64 0)]) h) (
 bnd (eqI x1 (.int .i64 0)) fun b2 =>
 ifV (.bool b2) (
 K (.tuple #[(.int .i64 0), (.int .i64 0)]) h) (
 S251_j2 x1 h K )))
def S251 (a0 a1 : Value) (h : GH) (K : Value → GH → Prop) : Prop :=
 bnd (binV .lss a1 (.int .i64 0)) fun v1 =>
 ifV v1 (
 S251_j1 a0 a1 (.bool true) h K ) (
 bnd (binV .gtr a1 (.int .i64 16)) fun v2 =>
 S251_j1 a0 a1 v2 h K )
def A251 : Ann := ⟨fun _ => ([], []), fun | 1 => [1, 6, 7] | _ => []⟩
theorem S251_T {a0 a1 : Value} {h : GH} {K : Value → GH → Prop} (g : S251 a0 a1 h K) : T Tryz.prog 251 [a0, a1] h K :=
  T_of_gwp (A := A251) Tryz.func251 (c := bodyOf Tryz.f251) (by kernel_rfl) (by kernel_rfl) (by kernel_rfl) (by kernel_rfl) (by kernel_rfl) (Eq.mp (by kernel_rfl) g)
def S252 (a0 : Value) (h : GH) (K : Value → GH → Prop) : Prop :=
 bnd (eqK .ptr true a0 (.pointer none)) fun b1 =>
 ifV (.bool b1) (
 K (.slice none 0 0) h) (
 bnd (ncV a0) fun v2 =>
 bnd (faV 60 v2) fun v3 =>
 bnd (ldV 1 false v3 h) fun v4 =>
 T Tryz.prog 81 [v4] h fun v5 h6 =>
 K v5 h6)
def A252 : Ann := ⟨fun _ => ([], []), fun _ => []⟩
theorem S252_T {a0 : Value} {h : GH} {K : Value → GH → Prop} (g : S252 a0 h K) : T Tryz.prog 252 [a0] h K :=
  T_of_gwp (A := A252) Tryz.func252 (c := bodyOf Tryz.f252) (by kernel_rfl) (by kernel_rfl) (by kernel_rfl) (by kernel_rfl) (by kernel_rfl) (Eq.mp (by kernel_rfl) g)
def A255 : Ann := ⟨fun | 30 => ([0, 1, 3, 4, 2, 5], [0, 0, 3, 0, 8, 31]) | _ => ([], []), fun | 1 => [0, 3, 4, 8, 9] | _ => []⟩
def S256 (a0 : Value) (h : GH) (K : Value → GH → Prop) : Prop :=
 T Tryz.prog 75 [a0, (.int .i64 1099511627776)] h fun v1 h2 =>
 K v1 h2
def A256 : Ann := ⟨fun _ => ([], []), fun _ => []⟩
theorem S256_T {a0 : Value} {h : GH} {K : Value → GH → Prop} (g : S256 a0 h K) : T Tryz.prog 256 [a0] h K :=
  T_of_gwp (A := A256) Tryz.func256 (c := bodyOf Tryz.f256) (by kernel_rfl) (by kernel_rfl) (by kernel_rfl) (by kernel_rfl) (by kernel_rfl) (Eq.mp (by kernel_rfl) g)
def S257 (a0 : Value) (h : GH) (K : Value → GH → Prop) : Prop :=
 newV 122 [(.int .i64 0), (.int .i64 0)] h fun v1 h2 =>
 bnd (fillV [(.int .i64 0), (.int .i64 0)] [(0, 1, a0)]) fun c3 =>
 bnd (stV 2 v1 (.agg c3.toArray) h2) fun h4 =>
 bnd (ldV 2 true v1 h4) fun v5 =>
 K v5 h4
def A257 : Ann := ⟨fun _ => ([], []), fun _ => []⟩
theorem S257_T {a0 : Value} {h : GH} {K : Value → GH → Prop} (g : S257 a0 h K) : T Tryz.prog 257 [a0] h K :=
  T_of_gwp (A := A257) Tryz.func257 (c := bodyOf Tryz.f257) (by kernel_rfl) (by kernel_rfl) (by kernel_rfl) (by kernel_rfl) (by kernel_rfl) (Eq.mp (by kernel_rfl) g)
def S258 (a0 a1 a2 : Value) (h : GH) (K : Value → GH → Prop) : Prop :=
 newV 374 (a0 : Value).cells.toList h fun v1 h2 =>
 bnd (ldV 1 true v1 h2) fun v3 =>
 T Tryz.prog 281 [v3, a1, a2] h2 fun v4 h5 =>
 bnd (binV .sub v4 (.int .i64 1)) fun v6 =>
 bnd (binV .leq v6 a1) fun v7 =>
 ifV v7 (
 K (.int .i64 (-1)) h5) (
 bnd (binV .geq v6 (.int .i64 5)) fun v8 =>
 ifV v8 (
 K (.int .i64 (-1)) h5) (
 K v6 h5))
def A258 : Ann := ⟨fun _ => ([], []), fun _ => []⟩
theorem S258_T {a0 a1 a2 : Value} {h : GH} {K : Value → GH → Prop} (g : S258 a0 a1 a2 h K) : T Tryz.prog 258 [a0, a1, a2] h K :=
  T_of_gwp (A := A258) Tryz.func258 (c := bodyOf Tryz.f258) (by kernel_rfl) (by kernel_rfl) (by kernel_rfl) (by kernel_rfl) (by kernel_rfl) (Eq.mp (by kernel_rfl) g)
def S259 (a0 : Value) (h : GH) (K : Value → GH → Prop) : Prop :=
 newV 122 [(.int .i64 0), (.int .i64 0)] h fun v1 h2 =>
 bnd (fillV [(.int .i64 0), (.int .i64 0)] [(0, 1, (.int .i64 0)), (1, 1, a0)]) fun c3 =>
 bnd (stV 2 v1 (.agg c3.toArray) h2) fun h4 =>
 bnd (ldV 2 true v1 h4) fun v5 =>
 K v5 h4
def A259 : Ann := ⟨fun _ => ([], []), fun _ => []⟩
theorem S259_T {a0 : Value} {h : GH} {K : Value → GH → Prop} (g : S259 a0 h K) : T Tryz.prog 259 [a0] h K :=
  T_of_gwp (A := A259) Tryz.func259 (c := bodyOf Tryz.f259) (by kernel_rfl) (by kernel_rfl) (by kernel_rfl) (by kernel_rfl) (by kernel_rfl) (Eq.mp (by kernel_rfl) g)
def S260 (a0 a1 a2 : Value) (h : GH) (K : Value → GH → Prop) : Prop :=
 newV 122 (a2 : Value).cells.toList h fun v1 h2 =>
 newV 298 ([(.int .i64 0)] ++ List.replicate 16 (.bool false) ++ List.replicate 32 (.int .i64 0) ++ [(.slice none 0 0)]) h2 fun v3 h4 =>
 bnd (ncV a0) fun v5 =>
 bnd (faV 48 v5) fun v6 =>
 bnd (ldV 1 false v6 h4) fun v7 =>
 bnd (taV 397 (.int .i64 0) true v7) fun v8 =>
 bnd (exV v8 0) fun v9 =>
 bnd (exV v8 1) fun v10 =>
 ifV v10 (
 bnd (ncV a1) fun v11 =>
 bnd (ldV 48 true v11 h4) fun v12 =>
 bnd (fillV ([(.int .i64 0)] ++ List.replicate 16 (.bool false) ++ List.replicate 32 (.int .i64 0) ++ [(.slice none 0 0)]) [(0, 1, v9), (1, 48, v12)]) fun c13 =>
 bnd (stV 50 v3 (.agg c13.toArray) h4) fun h14 =>
 bnd (ldV 50 true v3 h14) fun v15 =>
 K v15 h14) (
 bnd (ncV a0) fun v16 =>
 bnd (faV 0 v16) fun v17 =>
 bnd (ldV 48 true v17 h4) fun v18 =>
 bnd (ldV 2 true v1 h4) fun v19 =>
 bsV 122 1 [(.int .i64 0), (.int .i64 0)] [(0, 2, v19)] h4 fun v20 h21 =>
 bnd (fillV ([(.int .i64 0)] ++ List.replicate 16 (.bool false) ++ List.replicate 32 (.int .i64 0) ++ [(.slice none 0 0)]) [(0, 1, (.int .i64 (-1))), (1, 48, v18), (49, 1, v20)]) fun c22 =>
 newV 298 ([(.int .i64 0)] ++ List.replicate 16 (.bool false) ++ List.replicate 32 (.int .i64 0) ++ [(.slice none 0 0)]) h21 fun v23 h24 =>
 bnd (stV 50 v23 (.agg c22.toArray) h24) fun h25 =>
 bnd (faV 0 v1) fun v26 =>
 bnd (ldV 1 false v26 h25) fun v27 =>
 bnd (eqI v27 (.int .i64 0)) fun b28 =>
 ifV (.bool (!b28)) (
 bnd (ncV a1) fun v29 =>
 bnd (ldV 48 true v29 h25) fun v30 =>
 bnd (faV 1 v23) fun v31 =>
 bnd (stV 48 v31 v30 h25) fun h32 =>
 bnd (ldV 50 true v23 h32) fun v33 =>
 bnd (stV 50 v3 v33 h32) fun h34 =>
 bnd (ldV 50 true v3 h34) fun v35 =>
 K v35 h34) (
 bnd (ldV 50 true v23 h25) fun v36 =>
 bnd (stV 50 v3 v36 h25) fun h37 =>
 bnd (ldV 50 true v3 h37) fun v38 =>
 K v38 h37))
def A260 : Ann := ⟨fun | 4 => ([0, 1, 2, 3, 4, 5, 6, 7, 8], [0, 1, 3, 7, 0, 16, 63, 0, 255]) | _ => ([], []), fun _ => []⟩
theorem S260_T {a0 a1 a2 : Value} {h : GH} {K : Value → GH → Prop} (g : S260 a0 a1 a2 h K) : T Tryz.prog 260 [a0, a1, a2] h K :=
  T_of_gwp (A := A260) Tryz.func260 (c := bodyOf Tryz.f260) (by kernel_rfl) (by kernel_rfl) (by kernel_rfl) (by kernel_rfl) (by kernel_rfl) (Eq.mp (by kernel_rfl) g)
def S261 (a0 a1 : Value) (h : GH) (K : Value → GH → Prop) : Prop :=
 newV 122 [(.int .i64 0), (.int .i64 0)] h fun v1 h2 =>
 bnd (ncV a0) fun v3 =>
 bnd (faV 3 v3) fun v4 =>
 bnd (ldV 1 false v4 h2) fun v5 =>
 bnd (ncV a1) fun v6 =>
 bnd (faV 1 v6) fun v7 =>
 bnd (ldV 1 false v7 h2) fun v8 =>
 bnd (eqI v5 v8) fun b9 =>
 ifV (.bool b9) (
 T Tryz.prog 257 [(.int .i64 1)] h2 fun v10 h11 =>
 bnd (stV 2 v1 v10 h11) fun h12 =>
 bnd (ldV 2 true v1 h12) fun v13 =>
 K v13 h12) (
 bnd (ncV a0) fun v14 =>
 bnd (faV 0 v14) fun v15 =>
 bnd (ldV 1 true v15 h2) fun v16 =>
 bnd (ncV a1) fun v17 =>
 bnd (faV 1 v17) fun v18 =>
 bnd (ldV 1 false v18 h2) fun v19 =>
 bnd (ncV a0) fun v20 =>
 bnd (faV 2 v20) fun v21 =>
 bnd (ldV 1 false v21 h2) fun v22 =>
 T Tryz.prog 282 [v16, v19, v22, (.int .i64 0)] h2 fun v23 h24 =>
 bnd (ncV a1) fun v25 =>
 bnd (faV 3 v25) fun v26 =>
 bnd (ldV 1 false v26 h24) fun v27 =>
 bnd (eqI v27 (.int .i64 1)) fun b28 =>
 ifV (.bool b28) (
 bnd (ncV a0) fun v29 =>
 bnd (faV 0 v29) fun v30 =>
 bnd (ldV 1 true v30 h24) fun v31 =>
 bnd (ncV a1) fun v32 =>
 bnd (faV 1 v32) fun v33 =>
 bnd (ldV 1 false v33 h24) fun v34 =>
 bnd (ncV a0) fun v35 =>
 bnd (faV 1 v35) fun v36 =>
 bnd (ldV 1 false v36 h24) fun v37 =>
 T Tryz.prog 282 [v31, v34, v37, (.int .i64 1)] h24 fun v38 h39 =>
 bnd (ncV a1) fun v40 =>
 bnd (faV 1 v40) fun v41 =>
 bnd (ldV 1 false v41 h39) fun v42 =>
 T Tryz.prog 259 [v42] h39 fun v43 h44 =>
 bnd (stV 2 v1 v43 h44) fun h45 =>
 bnd (ldV 2 true v1 h45) fun v46 =>
 K v46 h45) (
 bnd (ncV a1) fun v47 =>
 bnd (faV 1 v47) fun v48 =>
 bnd (ldV 1 false v48 h24) fun v49 =>
 T Tryz.prog 259 [v49] h24 fun v50 h51 =>
 bnd (stV 2 v1 v50 h51) fun h52 =>
 bnd (ldV 2 true v1 h52) fun v53 =>
 K v53 h52))
def A261 : Ann := ⟨fun | 1 => ([0, 1, 2, 3, 4, 5, 6, 7, 8], [0, 1, 3, 7, 0, 16, 48, 112, 255]) | 3 => ([0, 1, 2, 3, 4, 5, 6, 7, 8, 9, 10, 11, 12], [0, 1, 3, 7, 0, 16, 48, 112, 0, 256, 768, 1792, 4095]) | 5 => ([0, 1, 2, 3, 4, 5, 6, 7, 8, 9, 10, 11, 12], [0, 1, 3, 7, 0, 16, 48, 112, 0, 256, 768, 1792, 4095]) | _ => ([], []), fun _ => []⟩
theorem S261_T {a0 a1 : Value} {h : GH} {K : Value → GH → Prop} (g : S261 a0 a1 h K) : T Tryz.prog 261 [a0, a1] h K :=
  T_of_gwp (A := A261) Tryz.func261 (c := bodyOf Tryz.f261) (by kernel_rfl) (by kernel_rfl) (by kernel_rfl) (by kernel_rfl) (by kernel_rfl) (Eq.mp (by kernel_rfl) g)
def S262 (a0 a1 : Value) (h : GH) (K : Value → GH → Prop) : Prop :=
 newV 122 [(.int .i64 0), (.int .i64 0)] h fun v1 h2 =>
 bnd (ncV a0) fun v3 =>
 bnd (faV 3 v3) fun v4 =>
 bnd (ldV 1 false v4 h2) fun v5 =>
 bnd (ncV a1) fun v6 =>
 bnd (faV 1 v6) fun v7 =>
 bnd (ldV 1 false v7 h2) fun v8 =>
 bnd (eqI v5 v8) fun b9 =>
 ifV (.bool (!b9)) (
 T Tryz.prog 257 [(.int .i64 2)] h2 fun v10 h11 =>
 bnd (stV 2 v1 v10 h11) fun h12 =>
 bnd (ldV 2 true v1 h12) fun v13 =>
 K v13 h12) (
 bnd (ncV a0) fun v14 =>
 bnd (faV 0 v14) fun v15 =>
 bnd (ldV 1 true v15 h2) fun v16 =>
 bnd (ncV a1) fun v17 =>
 bnd (faV 1 v17) fun v18 =>
 bnd (ldV 1 false v18 h2) fun v19 =>
 bnd (ncV a0) fun v20 =>
 bnd (faV 2 v20) fun v21 =>
 bnd (ldV 1 false v21 h2) fun v22 =>
 T Tryz.prog 283 [v16, v19, v22, (.int .i64 0)] h2 fun v23 h24 =>
 bnd (ncV a0) fun v25 =>
 bnd (faV 0 v25) fun v26 =>
 bnd (ldV 1 true v26 h24) fun v27 =>
 bnd (ncV a0) fun v28 =>
 bnd (faV 1 v28) fun v29 =>
 bnd (ldV 1 false v29 h24) fun v30 =>
 bnd (ncV a1) fun v31 =>
 bnd (faV 1 v31) fun v32 =>
 bnd (ldV 1 false v32 h24) fun v33 =>
 T Tryz.prog 258 [v27, v30, (.int .i64 1)] h24 fun v34 h35 =>
 ldV 1 false v32 h35 = some v33 ∧
 bnd (eqI v34 v33) fun b36 =>
 ifV (.bool b36) (
 bnd (ncV a0) fun v37 =>
 bnd (faV 0 v37) fun v38 =>
 bnd (ldV 1 true v38 h35) fun v39 =>
 bnd (ncV a1) fun v40 =>
 bnd (faV 1 v40) fun v41 =>
 bnd (ldV 1 false v41 h35) fun v42 =>
 bnd (ncV a0) fun v43 =>
 bnd (faV 1 v43) fun v44 =>
 bnd (ldV 1 false v44 h35) fun v45 =>
 T Tryz.prog 283 [v39, v42, v45, (.int .i64 1)] h35 fun v46 h47 =>
 bnd (ncV a1) fun v48 =>
 bnd (faV 1 v48) fun v49 =>
 bnd (ldV 1 false v49 h47) fun v50 =>
 T Tryz.prog 259 [v50] h47 fun v51 h52 =>
 bnd (stV 2 v1 v51 h52) fun h53 =>
 bnd (ldV 2 true v1 h53) fun v54 =>
 K v54 h53) (
 bnd (ncV a1) fun v55 =>
 bnd (faV 1 v55) fun v56 =>
 bnd (ldV 1 false v56 h35) fun v57 =>
 T Tryz.prog 259 [v57] h35 fun v58 h59 =>
 bnd (stV 2 v1 v58 h59) fun h60 =>
 bnd (ldV 2 true v1 h60) fun v61 =>
 K v61 h60))
def A262 : Ann := ⟨fun | 1 => ([0, 1, 2, 3, 4, 5, 6, 7, 8], [0, 1, 3, 7, 0, 16, 48, 112, 255]) | 3 => ([0, 1, 2, 3, 4, 5, 6, 7, 8, 9, 10, 11, 12], [0, 1, 3, 7, 0, 16, 48, 112, 0, 256, 768, 1792, 4095]) | 4 => ([0, 1, 2, 3, 4, 5, 6, 7, 9, 10, 11, 12, 8, 13], [0, 1, 3, 7, 0, 16, 48, 112, 255, 0, 512, 1536, 3584, 8191]) | 5 => ([0, 1, 2, 3, 4, 5, 6, 7, 8, 9, 10, 11, 12], [0, 1, 3, 7, 0, 16, 48, 112, 0, 256, 768, 1792, 4095]) | _ => ([], []), fun _ => []⟩
theorem S262_T {a0 a1 : Value} {h : GH} {K : Value → GH → Prop} (g : S262 a0 a1 h K) : T Tryz.prog 262 [a0, a1] h K :=
  T_of_gwp (A := A262) Tryz.func262 (c := bodyOf Tryz.f262) (by kernel_rfl) (by kernel_rfl) (by kernel_rfl) (by kernel_rfl) (by kernel_rfl) (Eq.mp (by kernel_rfl) g)
def S263 (a0 a1 : Value) (h : GH) (K : Value → GH → Prop) : Prop :=
 newV 122 [(.int .i64 0), (.int .i64 0)] h fun v1 h2 =>
 bnd (ncV a0) fun v3 =>
 bnd (faV 3 v3) fun v4 =>
 bnd (ldV 1 false v4 h2) fun v5 =>
 bnd (ncV a1) fun v6 =>
 bnd (faV 1 v6) fun v7 =>
 bnd (ldV 1 false v7 h2) fun v8 =>
 bnd (eqI v5 v8) fun b9 =>
 ifV (.bool b9) (
 T Tryz.prog 259 [(.int .i64 1)] h2 fun v10 h11 =>
 bnd (stV 2 v1 v10 h11) fun h12 =>
 bnd (ldV 2 true v1 h12) fun v13 =>
 K v13 h12) (
 T Tryz.prog 259 [(.int .i64 0)] h2 fun v14 h15 =>
 bnd (stV 2 v1 v14 h15) fun h16 =>
 bnd (ldV 2 true v1 h16) fun v17 =>
 K v17 h16)
def A263 : Ann := ⟨fun | 1 => ([0, 1, 2, 3, 4, 5, 6, 7, 8], [0, 1, 3, 7, 0, 16, 48, 112, 255]) | _ => ([], []), fun _ => []⟩
theorem S263_T {a0 a1 : Value} {h : GH} {K : Value → GH → Prop} (g : S263 a0 a1 h K) : T Tryz.prog 263 [a0, a1] h K :=
  T_of_gwp (A := A263) Tryz.func263 (c := bodyOf Tryz.f263) (by kernel_rfl) (by kernel_rfl) (by kernel_rfl) (by kernel_rfl) (by kernel_rfl) (Eq.mp (by kernel_rfl) g)
def S264_j1 (s6 : Nat → Value) (x0 x1 x4 x5 x6 : Value) (h : GH) (K : Value → GH → Prop) (again8 : (Nat → Value) → GH → Prop) : Prop :=
 bnd (binV .shl (.int .i64 1) x6) fun v1 =>
 bnd (binV .or x5 v1) fun v2 =>
 bnd (ncV x0) fun v3 =>
 bnd (faV 0 v3) fun v4 =>
 bnd (ldV 1 true v4 h) fun v5 =>
 T Tryz.prog 258 [v5, x6, (.int .i64 0)] h fun v6 h7 =>
 again8 (tup [x0, x1, x4, v2, v6]) h7
def S264 (a0 a1 : Value) (h : GH) (K : Value → GH → Prop) : Prop :=
 newV 122 [(.int .i64 0), (.int .i64 0)] h fun v1 h2 =>
 bnd (ncV a0) fun v3 =>
 bnd (faV 3 v3) fun v4 =>
 bnd (ldV 1 false v4 h2) fun v5 =>
 Lfp (fun (s6 : Nat → Value) h7 again8 =>
 bnd (eqI (s6 4) (.int .i64 (-1))) fun b9 =>
 ifV (.bool (!b9)) (
 bnd (ncV (s6 1)) fun v10 =>
 bnd (faV 2 v10) fun v11 =>
 bnd (ldV 1 false v11 h7) fun v12 =>
 bnd (binV .leq (s6 4) v12) fun v13 =>
 ifV v13 (
 S264_j1 s6 (s6 0) (s6 1) (s6 2) (s6 3) (s6 4) h7 K again8) (
 T Tryz.prog 259 [(s6 3)] h7 fun v14 h15 =>
 bnd (stV 2 (s6 2) v14 h15) fun h16 =>
 bnd (ldV 2 true (s6 2) h16) fun v17 =>
 K v17 h16)) (
 T Tryz.prog 259 [(s6 3)] h7 fun v18 h19 =>
 bnd (stV 2 (s6 2) v18 h19) fun h20 =>
 bnd (ldV 2 true (s6 2) h20) fun v21 =>
 K v21 h20)) (tup [a0, a1, v1, (.int .i64 0), v5]) h2
def A264 : Ann := ⟨fun _ => ([], []), fun | 0 => [0, 1, 4, 5, 6] | _ => []⟩
theorem S264_T {a0 a1 : Value} {h : GH} {K : Value → GH → Prop} (g : S264 a0 a1 h K) : T Tryz.prog 264 [a0, a1] h K :=
  T_of_gwp (A := A264) Tryz.func264 (c := bodyOf Tryz.f264) (by kernel_rfl) (by kernel_rfl) (by kernel_rfl) (by kernel_rfl) (by kernel_rfl) (Eq.mp (by kernel_rfl) g)
def S265 (a0 a1 : Value) (h : GH) (K : Value → GH → Prop) : Prop :=
 newV 374 (a0 : Value).cells.toList h fun v1 h2 =>
 bnd (ldV 1 true v1 h2) fun v3 =>
 bnd (fillV [(.pointer none), (.int .i64 0), (.int .i64 0), (.int .i64 0)] [(0, 1, v3)]) fun c4 =>
 newV 400 ((.agg c4.toArray) : Value).cells.toList h2 fun v5 h6 =>
 bnd (ldV 1 true v1 h6) fun v7 =>
 T Tryz.prog 284 [v7, a1, (.int .i64 (-1)), (.int .i64 1)] h6 fun v8 h9 =>
 bnd (ncV v5) fun v10 =>
 bnd (faV 1 v10) fun v11 =>
 bnd (stV 1 v11 v8 h9) fun h12 =>
 bnd (ldV 1 true v1 h12) fun v13 =>
 bnd (ncV v5) fun v14 =>
 bnd (faV 1 v14) fun v15 =>
 bnd (ldV 1 false v15 h12) fun v16 =>
 T Tryz.prog 284 [v13, a1, v16, (.int .i64 0)] h12 fun v17 h18 =>
 bnd (ncV v5) fun v19 =>
 bnd (faV 2 v19) fun v20 =>
 bnd (stV 1 v20 v17 h18) fun h21 =>
 bnd (ldV 1 true v1 h21) fun v22 =>
 bnd (ncV v5) fun v23 =>
 bnd (faV 2 v23) fun v24 =>
 bnd (ldV 1 false v24 h21) fun v25 =>
 T Tryz.prog 258 [v22, v25, (.int .i64 0)] h21 fun v26 h27 =>
 bnd (ncV v5) fun v28 =>
 bnd (faV 3 v28) fun v29 =>
 bnd (stV 1 v29 v26 h27) fun h30 =>
 K v5 h30
def A265 : Ann := ⟨fun | 3 => ([0, 1, 2, 3, 4, 5, 6, 7, 8, 9, 10], [0, 0, 0, 0, 8, 24, 56, 126, 255, 511, 1023]) | 4 => ([0, 1, 2, 3, 4, 5, 6, 7, 8, 9], [0, 0, 0, 4, 12, 28, 62, 127, 255, 511]) | _ => ([], []), fun _ => []⟩
theorem S265_T {a0 a1 : Value} {h : GH} {K : Value → GH → Prop} (g : S265 a0 a1 h K) : T Tryz.prog 265 [a0, a1] h K :=
  T_of_gwp (A := A265) Tryz.func265 (c := bodyOf Tryz.f265) (by kernel_rfl) (by kernel_rfl) (by kernel_rfl) (by kernel_rfl) (by kernel_rfl) (Eq.mp (by kernel_rfl) g)
def S266 (a0 a1 : Value) (h : GH) (K : Value → GH → Prop) : Prop :=
 newV 122 [(.int .i64 0), (.int .i64 0)] h fun v1 h2 =>
 bnd (ncV a1) fun v3 =>
 bnd (faV 1 v3) fun v4 =>
 bnd (ldV 1 false v4 h2) fun v5 =>
 T Tryz.prog 285 [a0, v5] h2 fun v6 h7 =>
 bnd (ncV v6) fun v8 =>
 bnd (faV 2 v8) fun v9 =>
 bnd (ldV 1 false v9 h7) fun v10 =>
 ifV v10 (
 T Tryz.prog 286 [(.int .i64 1)] h7 fun v11 h12 =>
 bnd (stV 2 v1 v11 h12) fun h13 =>
 bnd (ldV 2 true v1 h13) fun v14 =>
 K v14 h13) (
 bnd (ncV a1) fun v15 =>
 bnd (faV 3 v15) fun v16 =>
 bnd (ldV 1 false v16 h7) fun v17 =>
 T Tryz.prog 287 [v6, v17] h7 fun v18 h19 =>
 bnd (stV 2 v1 v18 h19) fun h20 =>
 bnd (ldV 2 true v1 h20) fun v21 =>
 K v21 h20)
def A266 : Ann := ⟨fun _ => ([], []), fun _ => []⟩
theorem S266_T {a0 a1 : Value} {h : GH} {K : Value → GH → Prop} (g : S266 a0 a1 h K) : T Tryz.prog 266 [a0, a1] h K :=
  T_of_gwp (A := A266) Tryz.func266 (c := bodyOf Tryz.f266) (by kernel_rfl) (by kernel_rfl) (by kernel_rfl) (by kernel_rfl) (by kernel_rfl) (Eq.mp (by kernel_rfl) g)
def S267 (a0 a1 : Value) (h : GH) (K : Value → GH → Prop) : Prop :=
 newV 122 [(.int .i64 0), (.int .i64 0)] h fun v1 h2 =>
 bnd (ncV a1) fun v3 =>
 bnd (faV 1 v3) fun v4 =>
 bnd (ldV 1 false v4 h2) fun v5 =>
 T Tryz.prog 285 [a0, v5] h2 fun v6 h7 =>
 bnd (ncV v6) fun v8 =>
 bnd (faV 2 v8) fun v9 =>
 bnd (ldV 1 false v9 h7) fun v10 =>
 bnd (unV .not v10) fun v11 =>
 ifV v11 (
 T Tryz.prog 286 [(.int .i64 2)] h7 fun v12 h13 =>
 bnd (stV 2 v1 v12 h13) fun h14 =>
 bnd (ldV 2 true v1 h14) fun v15 =>
 K v15 h14) (
 bnd (ncV v6) fun v16 =>
 bnd (faV 1 v16) fun v17 =>
 bnd (ldV 1 false v17 h7) fun v18 =>
 T Tryz.prog 288 [a0, v18, (.int .i64 0)] h7 fun v19 h20 =>
 bnd (ncV v6) fun v21 =>
 bnd (faV 3 v21) fun v22 =>
 bnd (ldV 1 false v22 h20) fun v23 =>
 T Tryz.prog 289 [v23] h20 fun v24 h25 =>
 bnd (stV 2 v1 v24 h25) fun h26 =>
 bnd (ldV 2 true v1 h26) fun v27 =>
 K v27 h26)
def A267 : Ann := ⟨fun _ => ([], []), fun _ => []⟩
theorem S267_T {a0 a1 : Value} {h : GH} {K : Value → GH → Prop} (g : S267 a0 a1 h K) : T Tryz.prog 267 [a0, a1] h K :=
  T_of_gwp (A := A267) Tryz.func267 (c := bodyOf Tryz.f267) (by kernel_rfl) (by kernel_rfl) (by kernel_rfl) (by kernel_rfl) (by kernel_rfl) (Eq.mp (by kernel_rfl) g)
def S268 (a0 a1 : Value) (h : GH) (K : Value → GH → Prop) : Prop :=
 newV 122 [(.int .i64 0), (.int .i64 0)] h fun v1 h2 =>
 bnd (ncV a1) fun v3 =>
 bnd (faV 1 v3) fun v4 =>
 bnd (ldV 1 false v4 h2) fun v5 =>
 T Tryz.prog 285 [a0, v5] h2 fun v6 h7 =>
 bnd (ncV v6) fun v8 =>
 bnd (faV 2 v8) fun v9 =>
 bnd (ldV 1 false v9 h7) fun v10 =>
 bnd (unV .not v10) fun v11 =>
 ifV v11 (
 T Tryz.prog 286 [(.int .i64 2)] h7 fun v12 h13 =>
 bnd (stV 2 v1 v12 h13) fun h14 =>
 bnd (ldV 2 true v1 h14) fun v15 =>
 K v15 h14) (
 bnd (ncV v6) fun v16 =>
 bnd (faV 3 v16) fun v17 =>
 bnd (ldV 1 false v17 h7) fun v18 =>
 bnd (ncV a1) fun v19 =>
 bnd (faV 3 v19) fun v20 =>
 bnd (ldV 1 false v20 h7) fun v21 =>
 bnd (binV .sub (.int .i64 1048575) v21) fun v22 =>
 bnd (binV .gtr v18 v22) fun v23 =>
 ifV v23 (
 T Tryz.prog 286 [(.int .i64 4)] h7 fun v24 h25 =>
 bnd (stV 2 v1 v24 h25) fun h26 =>
 bnd (ldV 2 true v1 h26) fun v27 =>
 K v27 h26) (
 bnd (ncV v6) fun v28 =>
 bnd (faV 3 v28) fun v29 =>
 bnd (ldV 1 false v29 h7) fun v30 =>
 bnd (ncV a1) fun v31 =>
 bnd (faV 3 v31) fun v32 =>
 bnd (ldV 1 false v32 h7) fun v33 =>
 bnd (binV .add v30 v33) fun v34 =>
 T Tryz.prog 287 [v6, v34] h7 fun v35 h36 =>
 bnd (stV 2 v1 v35 h36) fun h37 =>
 bnd (ldV 2 true v1 h37) fun v38 =>
 K v38 h37))
def A268 : Ann := ⟨fun | 4 => ([0, 1, 2, 3, 4, 5, 6, 7, 8, 9, 10], [0, 1, 3, 7, 0, 16, 48, 112, 240, 511, 1023]) | 6 => ([0, 1, 2, 3, 4, 5, 6, 7, 8, 9, 10, 11], [0, 0, 2, 6, 14, 0, 32, 96, 224, 510, 1023, 2047]) | _ => ([], []), fun _ => []⟩
theorem S268_T {a0 a1 : Value} {h : GH} {K : Value → GH → Prop} (g : S268 a0 a1 h K) : T Tryz.prog 268 [a0, a1] h K :=
  T_of_gwp (A := A268) Tryz.func268 (c := bodyOf Tryz.f268) (by kernel_rfl) (by kernel_rfl) (by kernel_rfl) (by kernel_rfl) (by kernel_rfl) (Eq.mp (by kernel_rfl) g)
def S269 (a0 a1 : Value) (h : GH) (K : Value → GH → Prop) : Prop :=
 newV 122 [(.int .i64 0), (.int .i64 0)] h fun v1 h2 =>
 bnd (ncV a1) fun v3 =>
 bnd (faV 1 v3) fun v4 =>
 bnd (ldV 1 false v4 h2) fun v5 =>
 T Tryz.prog 285 [a0, v5] h2 fun v6 h7 =>
 bnd (ncV v6) fun v8 =>
 bnd (faV 2 v8) fun v9 =>
 bnd (ldV 1 false v9 h7) fun v10 =>
 bnd (unV .not v10) fun v11 =>
 ifV v11 (
 T Tryz.prog 286 [(.int .i64 2)] h7 fun v12 h13 =>
 bnd (stV 2 v1 v12 h13) fun h14 =>
 bnd (ldV 2 true v1 h14) fun v15 =>
 K v15 h14) (
 bnd (ncV v6) fun v16 =>
 bnd (faV 3 v16) fun v17 =>
 bnd (ldV 1 false v17 h7) fun v18 =>
 bnd (ncV a1) fun v19 =>
 bnd (faV 3 v19) fun v20 =>
 bnd (ldV 1 false v20 h7) fun v21 =>
 bnd (binV .lss v18 v21) fun v22 =>
 ifV v22 (
 T Tryz.prog 286 [(.int .i64 3)] h7 fun v23 h24 =>
 bnd (stV 2 v1 v23 h24) fun h25 =>
 bnd (ldV 2 true v1 h25) fun v26 =>
 K v26 h25) (
 bnd (ncV v6) fun v27 =>
 bnd (faV 3 v27) fun v28 =>
 bnd (ldV 1 false v28 h7) fun v29 =>
 bnd (ncV a1) fun v30 =>
 bnd (faV 3 v30) fun v31 =>
 bnd (ldV 1 false v31 h7) fun v32 =>
 bnd (binV .sub v29 v32) fun v33 =>
 T Tryz.prog 287 [v6, v33] h7 fun v34 h35 =>
 bnd (stV 2 v1 v34 h35) fun h36 =>
 bnd (ldV 2 true v1 h36) fun v37 =>
 K v37 h36))
def A269 : Ann := ⟨fun | 4 => ([0, 1, 2, 3, 4, 5, 6, 7, 8, 9], [0, 1, 3, 7, 0, 16, 48, 112, 255, 511]) | 6 => ([0, 1, 2, 3, 4, 5, 6, 7, 8, 9, 10, 11], [0, 0, 2, 6, 14, 0, 32, 96, 224, 510, 1023, 2047]) | _ => ([], []), fun _ => []⟩
theorem S269_T {a0 a1 : Value} {h : GH} {K : Value → GH → Prop} (g : S269 a0 a1 h K) : T Tryz.prog 269 [a0, a1] h K :=
  T_of_gwp (A := A269) Tryz.func269 (c := bodyOf Tryz.f269) (by kernel_rfl) (by kernel_rfl) (by kernel_rfl) (by kernel_rfl) (by kernel_rfl) (Eq.mp (by kernel_rfl) g)
def S270_j2 (x1 x4 x5 x6 : Value) (h : GH) (K : Value → GH → Prop)  : Prop :=
 bnd (ncV x6) fun v1 =>
 bnd (faV 3 v1) fun v2 =>
 bnd (ldV 1 false v2 h) fun v3 =>
 bnd (ncV x1) fun v4 =>
 bnd (faV 3 v4) fun v5 =>
 bnd (ldV 1 false v5 h) fun v6 =>
 bnd (binV .add v3 v6) fun v7 =>
 T Tryz.prog 287 [x6, v7] h fun v8 h9 =>
 bnd (ncV x5) fun v10 =>
 bnd (faV 3 v10) fun v11 =>
 bnd (ldV 1 false v11 h9) fun v12 =>
 bnd (ncV x1) fun v13 =>
 bnd (faV 3 v13) fun v14 =>
 bnd (ldV 1 false v14 h9) fun v15 =>
 bnd (binV .sub v12 v15) fun v16 =>
 T Tryz.prog 287 [x5, v16] h9 fun v17 h18 =>
 bnd (stV 2 x4 v17 h18) fun h19 =>
 bnd (ldV 2 true x4 h19) fun v20 =>
 K v20 h19
def S270_j1 (x1 x4 x5 x6 x19 : Value) (h : GH) (K : Value → GH → Prop)  : Prop :=
 ifV x19 (
 T Tryz.prog 286 [(.int .i64 2)] h fun v1 h2 =>
 bnd (stV 2 x4 v1 h2) fun h3 =>
 bnd (ldV 2 true x4 h3) fun v4 =>
 K v4 h3) (
 bnd (ncV x5) fun v5 =>
 bnd (faV 3 v5) fun v6 =>
 bnd (ldV 1 false v6 h) fun v7 =>
 bnd (ncV x1) fun v8 =>
 bnd (faV 3 v8) fun v9 =>
 bnd (ldV 1 false v9 h) fun v10 =>
 bnd (binV .lss v7 v10) fun v11 =>
 ifV v11 (
 T Tryz.prog 286 [(.int .i64 3)] h fun v12 h13 =>
 bnd (stV 2 x4 v12 h13) fun h14 =>
 bnd (ldV 2 true x4 h14) fun v15 =>
 K v15 h14) (
 bnd (ncV x1) fun v16 =>
 bnd (faV 1 v16) fun v17 =>
 bnd (ldV 1 false v17 h) fun v18 =>
 bnd (ncV x1) fun v19 =>
 bnd (faV 2 v19) fun v20 =>
 bnd (ldV 1 false v20 h) fun v21 =>
 bnd (eqI v18 v21) fun b22 =>
 ifV (.bool b22) (
 bnd (ncV x5) fun v23 =>
 bnd (faV 3 v23) fun v24 =>
 bnd (ldV 1 false v24 h) fun v25 =>
 T Tryz.prog 289 [v25] h fun v26 h27 =>
 bnd (stV 2 x4 v26 h27) fun h28 =>
 bnd (ldV 2 true x4 h28) fun v29 =>
 K v29 h28) (
 bnd (ncV x6) fun v30 =>
 bnd (faV 3 v30) fun v31 =>
 bnd (ldV 1 false v31 h) fun v32 =>
 bnd (ncV x1) fun v33 =>
 bnd (faV 3 v33) fun v34 =>
 bnd (ldV 1 false v34 h) fun v35 =>
 bnd (binV .sub (.int .i64 1048575) v35) fun v36 =>
 bnd (binV .gtr v32 v36) fun v37 =>
 ifV v37 (
 T Tryz.prog 286 [(.int .i64 4)] h fun v38 h39 =>
 bnd (stV 2 x4 v38 h39) fun h40 =>
 bnd (ldV 2 true x4 h40) fun v41 =>
 K v41 h40) (
 S270_j2 x1 x4 x5 x6 h K ))))
def S270 (a0 a1 : Value) (h : GH) (K : Value → GH → Prop) : Prop :=
 newV 122 [(.int .i64 0), (.int .i64 0)] h fun v1 h2 =>
 bnd (ncV a1) fun v3 =>
 bnd (faV 1 v3) fun v4 =>
 bnd (ldV 1 false v4 h2) fun v5 =>
 bnd (ncV a1) fun v6 =>
 bnd (faV 2 v6) fun v7 =>
 bnd (ldV 1 false v7 h2) fun v8 =>
 T Tryz.prog 285 [a0, v5] h2 fun v9 h10 =>
 ldV 1 false v7 h10 = some v8 ∧
 T Tryz.prog 285 [a0, v8] h10 fun v11 h12 =>
 bnd (ncV v9) fun v13 =>
 bnd (faV 2 v13) fun v14 =>
 bnd (ldV 1 false v14 h12) fun v15 =>
 bnd (unV .not v15) fun v16 =>
 ifV v16 (
 S270_j1 a1 v1 v9 v11 (.bool true) h12 K ) (
 bnd (ncV v11) fun v17 =>
 bnd (faV 2 v17) fun v18 =>
 bnd (ldV 1 false v18 h12) fun v19 =>
 bnd (unV .not v19) fun v20 =>
 S270_j1 a1 v1 v9 v11 v20 h12 K )
def A270 : Ann := ⟨fun | 1 => ([0, 1, 2, 3, 4, 6, 7, 8, 9, 10, 5, 11, 12, 13], [0, 0, 2, 6, 14, 31, 0, 0, 128, 384, 896, 2047, 4095, 8191]) | 4 => ([0, 1, 2, 3, 4, 5, 6, 7, 8, 9], [0, 1, 3, 7, 0, 16, 48, 112, 255, 511]) | 6 => ([0, 1, 2, 3, 4, 5, 6, 7, 8, 9], [0, 1, 3, 7, 0, 16, 48, 112, 255, 511]) | 8 => ([0, 1, 2, 3, 4, 5, 6, 7, 8, 9, 10], [0, 1, 3, 7, 0, 16, 48, 112, 240, 511, 1023]) | 10 => ([0, 1, 2, 3, 4, 5, 6, 7, 8, 9, 10], [0, 0, 2, 6, 14, 0, 32, 96, 224, 510, 1023]) | 11 => ([0, 1, 2, 3, 4, 5, 6, 7, 8, 9, 10, 11], [0, 0, 2, 6, 14, 0, 32, 96, 224, 510, 1023, 2047]) | _ => ([], []), fun _ => []⟩
theorem S270_T {a0 a1 : Value} {h : GH} {K : Value → GH → Prop} (g : S270 a0 a1 h K) : T Tryz.prog 270 [a0, a1] h K :=
  T_of_gwp (A := A270) Tryz.func270 (c := bodyOf Tryz.f270) (by kernel_rfl) (by kernel_rfl) (by kernel_rfl) (by kernel_rfl) (by kernel_rfl) (Eq.mp (by kernel_rfl) g)
def S271 (a0 a1 : Value) (h : GH) (K : Value → GH → Prop) : Prop :=
 newV 122 [(.int .i64 0), (.int .i64 0)] h fun v1 h2 =>
 Lfp (fun (s3 : Nat → Value) h4 again5 =>
 bnd (binV .lss (s3 3) (.int .i64 4)) fun v6 =>
 ifV v6 (
 T Tryz.prog 285 [(s3 0), (s3 3)] h4 fun v7 h8 =>
 bnd (ncV v7) fun v9 =>
 bnd (faV 2 v9) fun v10 =>
 bnd (ldV 1 false v10 h8) fun v11 =>
 ifV v11 (
 bnd (ncV v7) fun v12 =>
 bnd (faV 3 v12) fun v13 =>
 bnd (ldV 1 false v13 h8) fun v14 =>
 bnd (binV .add (s3 2) v14) fun v15 =>
 bnd (binV .add (s3 3) (.int .i64 1)) fun v16 =>
 again5 (tup [(s3 0), (s3 1), v15, v16]) h8) (
 bnd (binV .add (s3 3) (.int .i64 1)) fun v17 =>
 again5 (tup [(s3 0), (s3 1), (s3 2), v17]) h8)) (
 T Tryz.prog 289 [(s3 2)] h4 fun v18 h19 =>
 bnd (stV 2 (s3 1) v18 h19) fun h20 =>
 bnd (ldV 2 true (s3 1) h20) fun v21 =>
 K v21 h20)) (tup [a0, v1, (.int .i64 0), (.int .i64 0)]) h2
def A271 : Ann := ⟨fun _ => ([], []), fun | 0 => [0, 4, 5, 8] | _ => []⟩
theorem S271_T {a0 a1 : Value} {h : GH} {K : Value → GH → Prop} (g : S271 a0 a1 h K) : T Tryz.prog 271 [a0, a1] h K :=
  T_of_gwp (A := A271) Tryz.func271 (c := bodyOf Tryz.f271) (by kernel_rfl) (by kernel_rfl) (by kernel_rfl) (by kernel_rfl) (by kernel_rfl) (Eq.mp (by kernel_rfl) g)
def S272 (a0 : Value) (h : GH) (K : Value → GH → Prop) : Prop :=
 bnd (lnV a0) fun v1 =>
 Lfp (fun (s2 : Nat → Value) h3 again4 =>
 bnd (binV .lss (s2 4) (s2 3)) fun v5 =>
 ifV v5 (
 bnd (isV 3 (s2 2) (s2 4)) fun v6 =>
 bnd (ldV 3 true v6 h3) fun v7 =>
 newV 340 [(.int .i64 0), (.int .i64 0), (.int .i64 0)] h3 fun v8 h9 =>
 bnd (stV 3 v8 v7 h9) fun h10 =>
 bnd (faV 0 v8) fun v11 =>
 bnd (ldV 1 false v11 h10) fun v12 =>
 bnd (binV .leq v12 (s2 1)) fun v13 =>
 ifV v13 (
 K (.bool false) h10) (
 bnd (faV 0 v8) fun v14 =>
 bnd (ldV 1 false v14 h10) fun v15 =>
 bnd (binV .geq v15 (.int .i64 16)) fun v16 =>
 ifV v16 (
 K (.bool false) h10) (
 bnd (faV 1 v8) fun v17 =>
 bnd (ldV 1 false v17 h10) fun v18 =>
 T Tryz.prog 256 [v18] h10 fun v19 h20 =>
 bnd (unV .not v19) fun v21 =>
 ifV v21 (
 K (.bool false) h20) (
 bnd (faV 2 v8) fun v22 =>
 bnd (ldV 1 false v22 h20) fun v23 =>
 T Tryz.prog 256 [v23] h20 fun v24 h25 =>
 bnd (unV .not v24) fun v26 =>
 ifV v26 (
 K (.bool false) h25) (
 bnd (faV 0 v8) fun v27 =>
 bnd (ldV 1 false v27 h25) fun v28 =>
 bnd (binV .add (s2 4) (.int .i64 1)) fun v29 =>
 again4 (tup [(s2 0), v28, (s2 2), (s2 3), v29]) h25))))) (
 bnd (lnV (s2 0)) fun v30 =>
 bnd (binV .leq v30 (.int .i64 16)) fun v31 =>
 K v31 h3)) (tup [a0, (.int .i64 (-1)), a0, v1, (.int .i64 0)]) h
def A272 : Ann := ⟨fun _ => ([], []), fun | 0 => [0, 3, 6, 7, 8] | _ => []⟩
theorem S272_T {a0 : Value} {h : GH} {K : Value → GH → Prop} (g : S272 a0 h K) : T Tryz.prog 272 [a0] h K :=
  T_of_gwp (A := A272) Tryz.func272 (c := bodyOf Tryz.f272) (by kernel_rfl) (by kernel_rfl) (by kernel_rfl) (by kernel_rfl) (by kernel_rfl) (Eq.mp (by kernel_rfl) g)
def S281 (a0 a1 a2 : Value) (h : GH) (K : Value → GH → Prop) : Prop :=
 newV 374 (a0 : Value).cells.toList h fun v1 h2 =>
 bnd (faV 0 v1) fun v3 =>
 bnd (ldV 1 false v3 h2) fun v4 =>
 T Tryz.prog 292 [a1, a2] h2 fun v5 h6 =>
 ldV 1 false v3 h6 = some v4 ∧
 T Tryz.prog 291 [v4, v5] h6 fun v7 h8 =>
 K v7 h8
def A281 : Ann := ⟨fun | 1 => ([0, 1, 2, 3, 4, 5, 6], [0, 1, 0, 0, 12, 31, 63]) | _ => ([], []), fun _ => []⟩
theorem S281_T {a0 a1 a2 : Value} {h : GH} {K : Value → GH → Prop} (g : S281 a0 a1 a2 h K) : T Tryz.prog 281 [a0, a1, a2] h K :=
  T_of_gwp (A := A281) Tryz.func281 (c := bodyOf Tryz.f281) (by kernel_rfl) (by kernel_rfl) (by kernel_rfl) (by kernel_rfl) (by kernel_rfl) (Eq.mp (by kernel_rfl) g)
def S282 (a0 a1 a2 a3 : Value) (h : GH) (K : Value → GH → Prop) : Prop :=
 newV 374 (a0 : Value).cells.toList h fun v1 h2 =>
 bnd (ldV 1 true v1 h2) fun v3 =>
 T Tryz.prog 281 [v3, a1, a3] h2 fun v4 h5 =>
 bnd (ldV 1 true v1 h5) fun v6 =>
 bnd (ldV 1 true v1 h5) fun v7 =>
 T Tryz.prog 281 [v7, a2, a3] h5 fun v8 h9 =>
 ldV 1 true v1 h9 = some v6 ∧
 T Tryz.prog 293 [v6, a1, a3, v8] h9 fun v10 h11 =>
 bnd (ldV 1 true v1 h11) fun v12 =>
 bnd (binV .add a1 (.int .i64 1)) fun v13 =>
 T Tryz.prog 293 [v12, a2, a3, v13] h11 fun v14 h15 =>
 K (.tuple #[]) h15
def A282 : Ann := ⟨fun | 2 => ([0, 1, 2, 3, 4, 5, 6, 7], [0, 0, 0, 0, 0, 0, 56, 127]) | _ => ([], []), fun _ => []⟩
theorem S282_T {a0 a1 a2 a3 : Value} {h : GH} {K : Value → GH → Prop} (g : S282 a0 a1 a2 a3 h K) : T Tryz.prog 282 [a0, a1, a2, a3] h K :=
  T_of_gwp (A := A282) Tryz.func282 (c := bodyOf Tryz.f282) (by kernel_rfl) (by kernel_rfl) (by kernel_rfl) (by kernel_rfl) (by kernel_rfl) (Eq.mp (by kernel_rfl) g)
def S283 (a0 a1 a2 a3 : Value) (h : GH) (K : Value → GH → Prop) : Prop :=
 newV 374 (a0 : Value).cells.toList h fun v1 h2 =>
 bnd (ldV 1 true v1 h2) fun v3 =>
 bnd (ldV 1 true v1 h2) fun v4 =>
 T Tryz.prog 281 [v4, a1, a3] h2 fun v5 h6 =>
 ldV 1 true v1 h6 = some v3 ∧
 T Tryz.prog 293 [v3, a2, a3, v5] h6 fun v7 h8 =>
 bnd (ldV 1 true v1 h8) fun v9 =>
 T Tryz.prog 293 [v9, a1, a3, (.int .i64 0)] h8 fun v10 h11 =>
 K (.tuple #[]) h11
def A283 : Ann := ⟨fun | 1 => ([0, 1, 2, 3, 4, 5, 6, 7], [0, 0, 0, 0, 0, 0, 56, 127]) | _ => ([], []), fun _ => []⟩
theorem S283_T {a0 a1 a2 a3 : Value} {h : GH} {K : Value → GH → Prop} (g : S283 a0 a1 a2 a3 h K) : T Tryz.prog 283 [a0, a1, a2, a3] h K :=
  T_of_gwp (A := A283) Tryz.func283 (c := bodyOf Tryz.f283) (by kernel_rfl) (by kernel_rfl) (by kernel_rfl) (by kernel_rfl) (by kernel_rfl) (Eq.mp (by kernel_rfl) g)
def S284 (a0 a1 a2 a3 : Value) (h : GH) (K : Value → GH → Prop) : Prop :=
 newV 374 (a0 : Value).cells.toList h fun v1 h2 =>
 bnd (ldV 1 true v1 h2) fun v3 =>
 T Tryz.prog 258 [v3, a2, a3] h2 fun v4 h5 =>
 Lfp (fun (s6 : Nat → Value) h7 again8 =>
 bnd (eqI (s6 4) (.int .i64 (-1))) fun b9 =>
 ifV (.bool (!b9)) (
 bnd (binV .lss (s6 4) (s6 0)) fun v10 =>
 ifV v10 (
 bnd (ldV 1 true (s6 3) h7) fun v11 =>
 T Tryz.prog 258 [v11, (s6 4), (s6 2)] h7 fun v12 h13 =>
 again8 (tup [(s6 0), (s6 4), (s6 2), (s6 3), v12]) h13) (
 K (s6 1) h7)) (
 K (s6 1) h7)) (tup [a1, a2, a3, v1, v4]) h5
def A284 : Ann := ⟨fun _ => ([], []), fun | 0 => [1, 2, 3, 4, 9] | _ => []⟩
theorem S284_T {a0 a1 a2 a3 : Value} {h : GH} {K : Value → GH → Prop} (g : S284 a0 a1 a2 a3 h K) : T Tryz.prog 284 [a0, a1, a2, a3] h K :=
  T_of_gwp (A := A284) Tryz.func284 (c := bodyOf Tryz.f284) (by kernel_rfl) (by kernel_rfl) (by kernel_rfl) (by kernel_rfl) (by kernel_rfl) (Eq.mp (by kernel_rfl) g)
def S285 (a0 a1 : Value) (h : GH) (K : Value → GH → Prop) : Prop :=
 T Tryz.prog 291 [a0, a1] h fun v1 h2 =>
 bnd (binV .gtr v1 (.int .i64 0)) fun v3 =>
 bnd (binV .sub v1 (.int .i64 1)) fun v4 =>
 bnd (fillV [(.pointer none), (.int .i64 0), (.bool false), (.int .i64 0)] [(0, 1, a0), (1, 1, a1), (2, 1, v3), (3, 1, v4)]) fun c5 =>
 newV 404 ((.agg c5.toArray) : Value).cells.toList h2 fun v6 h7 =>
 K v6 h7
def A285 : Ann := ⟨fun _ => ([], []), fun _ => []⟩
theorem S285_T {a0 a1 : Value} {h : GH} {K : Value → GH → Prop} (g : S285 a0 a1 h K) : T Tryz.prog 285 [a0, a1] h K :=
  T_of_gwp (A := A285) Tryz.func285 (c := bodyOf Tryz.f285) (by kernel_rfl) (by kernel_rfl) (by kernel_rfl) (by kernel_rfl) (by kernel_rfl) (Eq.mp (by kernel_rfl) g)
def S286 (a0 : Value) (h : GH) (K : Value → GH → Prop) : Prop :=
 newV 122 [(.int .i64 0), (.int .i64 0)] h fun v1 h2 =>
 bnd (fillV [(.int .i64 0), (.int .i64 0)] [(0, 1, a0)]) fun c3 =>
 bnd (stV 2 v1 (.agg c3.toArray) h2) fun h4 =>
 bnd (ldV 2 true v1 h4) fun v5 =>
 K v5 h4
def A286 : Ann := ⟨fun _ => ([], []), fun _ => []⟩
theorem S286_T {a0 : Value} {h : GH} {K : Value → GH → Prop} (g : S286 a0 h K) : T Tryz.prog 286 [a0] h K :=
  T_of_gwp (A := A286) Tryz.func286 (c := bodyOf Tryz.f286) (by kernel_rfl) (by kernel_rfl) (by kernel_rfl) (by kernel_rfl) (by kernel_rfl) (Eq.mp (by kernel_rfl) g)
def S287 (a0 a1 : Value) (h : GH) (K : Value → GH → Prop) : Prop :=
 newV 122 [(.int .i64 0), (.int .i64 0)] h fun v1 h2 =>
 bnd (ncV a0) fun v3 =>
 bnd (faV 0 v3) fun v4 =>
 bnd (ldV 1 false v4 h2) fun v5 =>
 bnd (ncV a0) fun v6 =>
 bnd (faV 1 v6) fun v7 =>
 bnd (ldV 1 false v7 h2) fun v8 =>
 bnd (binV .add a1 (.int .i64 1)) fun v9 =>
 T Tryz.prog 288 [v5, v8, v9] h2 fun v10 h11 =>
 T Tryz.prog 289 [a1] h11 fun v12 h13 =>
 bnd (stV 2 v1 v12 h13) fun h14 =>
 bnd (ldV 2 true v1 h14) fun v15 =>
 K v15 h14
def A287 : Ann := ⟨fun | 1 => ([0, 1, 2, 3, 4, 5, 6, 7, 8, 9, 10], [0, 1, 3, 7, 0, 16, 48, 112, 0, 256, 1023]) | _ => ([], []), fun _ => []⟩
theorem S287_T {a0 a1 : Value} {h : GH} {K : Value → GH → Prop} (g : S287 a0 a1 h K) : T Tryz.prog 287 [a0, a1] h K :=
  T_of_gwp (A := A287) Tryz.func287 (c := bodyOf Tryz.f287) (by kernel_rfl) (by kernel_rfl) (by kernel_rfl) (by kernel_rfl) (by kernel_rfl) (Eq.mp (by kernel_rfl) g)
def S288 (a0 a1 a2 : Value) (h : GH) (K : Value → GH → Prop) : Prop :=
 bnd (ncV a0) fun v1 =>
 bnd (faV 48 v1) fun v2 =>
 bnd (ldV 1 false v2 h) fun v3 =>
 bnd (eqK .iface true v3 .nilIface) fun b4 =>
 ifV (.bool b4) (
 bnd (ncV a0) fun v5 =>
 bnd (faV 0 v5) fun v6 =>
 bnd (faV 32 v6) fun v7 =>
 bnd (iaV 16 1 v7 a1) fun v8 =>
 bnd (stV 1 v8 a2 h) fun h9 =>
 K (.tuple #[]) h9) (
 K (.tuple #[]) h)
def A288 : Ann := ⟨fun _ => ([], []), fun _ => []⟩
theorem S288_T {a0 a1 a2 : Value} {h : GH} {K : Value → GH → Prop} (g : S288 a0 a1 a2 h K) : T Tryz.prog 288 [a0, a1, a2] h K :=
  T_of_gwp (A := A288) Tryz.func288 (c := bodyOf Tryz.f288) (by kernel_rfl) (by kernel_rfl) (by kernel_rfl) (by kernel_rfl) (by kernel_rfl) (Eq.mp (by kernel_rfl) g)
def S289 (a0 : Value) (h : GH) (K : Value → GH → Prop) : Prop :=
 newV 122 [(.int .i64 0), (.int .i64 0)] h fun v1 h2 =>
 bnd (fillV [(.int .i64 0), (.int .i64 0)] [(0, 1, (.int .i64 0)), (1, 1, a0)]) fun c3 =>
 bnd (stV 2 v1 (.agg c3.toArray) h2) fun h4 =>
 bnd (ldV 2 true v1 h4) fun v5 =>
 K v5 h4
def A289 : Ann := ⟨fun _ => ([], []), fun _ => []⟩
theorem S289_T {a0 : Value} {h : GH} {K : Value → GH → Prop} (g : S289 a0 h K) : T Tryz.prog 289 [a0] h K :=
  T_of_gwp (A := A289) Tryz.func289 (c := bodyOf Tryz.f289) (by kernel_rfl) (by kernel_rfl) (by kernel_rfl) (by kernel_rfl) (by kernel_rfl) (Eq.mp (by kernel_rfl) g)
def S291 (a0 a1 : Value) (h : GH) (K : Value → GH → Prop) : Prop :=
 bnd (ncV a0) fun v1 =>
 bnd (faV 48 v1) fun v2 =>
 bnd (ldV 1 false v2 h) fun v3 =>
 bnd (eqK .iface true v3 .nilIface) fun b4 =>
 ifV (.bool (!b4)) (
 K (.int .i64 0) h) (
 bnd (ncV a0) fun v5 =>
 bnd (faV 0 v5) fun v6 =>
 bnd (faV 0 v6) fun v7 =>
 bnd (iaV 16 1 v7 a1) fun v8 =>
 bnd (ldV 1 false v8 h) fun v9 =>
 bnd (unV .not v9) fun v10 =>
 ifV v10 (
 bnd (ncV a0) fun v11 =>
 bnd (faV 48 v11) fun v12 =>
 bnd (stV 1 v12 (.iface 397 a1) h) fun h13 =>
 K (.int .i64 0) h13) (
 bnd (ncV a0) fun v14 =>
 bnd (faV 0 v14) fun v15 =>
 bnd (faV 32 v15) fun v16 =>
 bnd (iaV 16 1 v16 a1) fun v17 =>
 bnd (ldV 1 false v17 h) fun v18 =>
 K v18 h))
def A291 : Ann := ⟨fun _ => ([], []), fun _ => []⟩
theorem S291_T {a0 a1 : Value} {h : GH} {K : Value → GH → Prop} (g : S291 a0 a1 h K) : T Tryz.prog 291 [a0, a1] h K :=
  T_of_gwp (A := A291) Tryz.func291 (c := bodyOf Tryz.f291) (by kernel_rfl) (by kernel_rfl) (by kernel_rfl) (by kernel_rfl) (by kernel_rfl) (Eq.mp (by kernel_rfl) g)
def S292 (a0 a1 : Value) (h : GH) (K : Value → GH → Prop) : Prop :=
 bnd (binV .sub a0 (.int .i64 (-1))) fun v1 =>
 bnd (binV .mul (.int .i64 2) v1) fun v2 =>
 bnd (binV .add (.int .i64 4) v2) fun v3 =>
 bnd (binV .add v3 a1) fun v4 =>
 K v4 h
def A292 : Ann := ⟨fun _ => ([], []), fun _ => []⟩
theorem S292_T {a0 a1 : Value} {h : GH} {K : Value → GH → Prop} (g : S292 a0 a1 h K) : T Tryz.prog 292 [a0, a1] h K :=
  T_of_gwp (A := A292) Tryz.func292 (c := bodyOf Tryz.f292) (by kernel_rfl) (by kernel_rfl) (by kernel_rfl) (by kernel_rfl) (by kernel_rfl) (Eq.mp (by kernel_rfl) g)
def S293 (a0 a1 a2 a3 : Value) (h : GH) (K : Value → GH → Prop) : Prop :=
 newV 374 (a0 : Value).cells.toList h fun v1 h2 =>
 bnd (faV 0 v1) fun v3 =>
 bnd (ldV 1 false v3 h2) fun v4 =>
 T Tryz.prog 292 [a1, a2] h2 fun v5 h6 =>
 ldV 1 false v3 h6 = some v4 ∧
 T Tryz.prog 288 [v4, v5, a3] h6 fun v7 h8 =>
 K (.tuple #[]) h8
def A293 : Ann := ⟨fun | 1 => ([0, 1, 2, 3, 5, 4, 6], [0, 1, 0, 0, 12, 0, 63]) | _ => ([], []), fun _ => []⟩
theorem S293_T {a0 a1 a2 a3 : Value} {h : GH} {K : Value → GH → Prop} (g : S293 a0 a1 a2 a3 h K) : T Tryz.prog 293 [a0, a1, a2, a3] h K :=
  T_of_gwp (A := A293) Tryz.func293 (c := bodyOf Tryz.f293) (by kernel_rfl) (by kernel_rfl) (by kernel_rfl) (by kernel_rfl) (by kernel_rfl) (Eq.mp (by kernel_rfl) g)
def S312 (a0 : Value) (h : GH) (K : Value → GH → Prop) : Prop :=
 newV 133 (a0 : Value).cells.toList h fun v1 h2 =>
 bnd (faV 1 v1) fun v3 =>
 bnd (ldV 1 false v3 h2) fun v4 =>
 bnd (binV .mul v4 (.int .i64 16)) fun v5 =>
 bnd (faV 0 v1) fun v6 =>
 bnd (ldV 1 false v6 h2) fun v7 =>
 bnd (binV .add v5 v7) fun v8 =>
 K v8 h2
def A312 : Ann := ⟨fun _ => ([], []), fun _ => []⟩
theorem S312_T {a0 : Value} {h : GH} {K : Value → GH → Prop} (g : S312 a0 h K) : T Tryz.prog 312 [a0] h K :=
  T_of_gwp (A := A312) Tryz.func312 (c := bodyOf Tryz.f312) (by kernel_rfl) (by kernel_rfl) (by kernel_rfl) (by kernel_rfl) (by kernel_rfl) (Eq.mp (by kernel_rfl) g)
def S313 (a0 : Value) (h : GH) (K : Value → GH → Prop) : Prop :=
 newV 133 (a0 : Value).cells.toList h fun v1 h2 =>
 bnd (ldV 2 true v1 h2) fun v3 =>
 T Tryz.prog 312 [v3] h2 fun v4 h5 =>
 bnd (binV .mul v4 (.int .i64 4)) fun v6 =>
 bnd (binV .add v6 (.int .i64 2)) fun v7 =>
 K v7 h5
def A313 : Ann := ⟨fun _ => ([], []), fun _ => []⟩
theorem S313_T {a0 : Value} {h : GH} {K : Value → GH → Prop} (g : S313 a0 h K) : T Tryz.prog 313 [a0] h K :=
  T_of_gwp (A := A313) Tryz.func313 (c := bodyOf Tryz.f313) (by kernel_rfl) (by kernel_rfl) (by kernel_rfl) (by kernel_rfl) (by kernel_rfl) (Eq.mp (by kernel_rfl) g)
def S314 (a0 : Value) (h : GH) (K : Value → GH → Prop) : Prop :=
 newV 133 (a0 : Value).cells.toList h fun v1 h2 =>
 newV 225 [(.int .i64 0), (.int .i64 0), (.int .i64 0), (.int .i64 0), (.int .i64 0), (.int .i64 0), (.int .i64 0)] h2 fun v3 h4 =>
 bnd (faV 0 v1) fun v5 =>
 bnd (ldV 1 false v5 h4) fun v6 =>
 bnd (faV 1 v1) fun v7 =>
 bnd (ldV 1 false v7 h4) fun v8 =>
 bnd (fillV [(.int .i64 0), (.int .i64 0), (.int .i64 0), (.int .i64 0), (.int .i64 0), (.int .i64 0), (.int .i64 0)] [(0, 1, (.int .i64 2)), (2, 1, v6), (3, 1, v8)]) fun c9 =>
 bnd (stV 7 v3 (.agg c9.toArray) h4) fun h10 =>
 bnd (ldV 7 true v3 h10) fun v11 =>
 K v11 h10
def A314 : Ann := ⟨fun _ => ([], []), fun _ => []⟩
theorem S314_T {a0 : Value} {h : GH} {K : Value → GH → Prop} (g : S314 a0 h K) : T Tryz.prog 314 [a0] h K :=
  T_of_gwp (A := A314) Tryz.func314 (c := bodyOf Tryz.f314) (by kernel_rfl) (by kernel_rfl) (by kernel_rfl) (by kernel_rfl) (by kernel_rfl) (Eq.mp (by kernel_rfl) g)
def S315 (a0 : Value) (h : GH) (K : Value → GH → Prop) : Prop :=
 newV 225 [(.int .i64 0), (.int .i64 0), (.int .i64 0), (.int .i64 0), (.int .i64 0), (.int .i64 0), (.int .i64 0)] h fun v1 h2 =>
 bnd (fillV [(.int .i64 0), (.int .i64 0), (.int .i64 0), (.int .i64 0), (.int .i64 0), (.int .i64 0), (.int .i64 0)] [(1, 1, a0)]) fun c3 =>
 bnd (stV 7 v1 (.agg c3.toArray) h2) fun h4 =>
 bnd (ldV 7 true v1 h4) fun v5 =>
 K v5 h4
def A315 : Ann := ⟨fun _ => ([], []), fun _ => []⟩
theorem S315_T {a0 : Value} {h : GH} {K : Value → GH → Prop} (g : S315 a0 h K) : T Tryz.prog 315 [a0] h K :=
  T_of_gwp (A := A315) Tryz.func315 (c := bodyOf Tryz.f315) (by kernel_rfl) (by kernel_rfl) (by kernel_rfl) (by kernel_rfl) (by kernel_rfl) (Eq.mp (by kernel_rfl) g)
def S316 (a0 : Value) (h : GH) (K : Value → GH → Prop) : Prop :=
 newV 277 (a0 : Value).cells.toList h fun v1 h2 =>
 bnd (faV 0 v1) fun v3 =>
 bnd (ldV 2 true v3 h2) fun v4 =>
 bnd (faV 2 v1) fun v5 =>
 bnd (ldV 1 false v5 h2) fun v6 =>
 bnd (faV 3 v1) fun v7 =>
 bnd (ldV 1 false v7 h2) fun v8 =>
 bnd (faV 4 v1) fun v9 =>
 bnd (ldV 1 false v9 h2) fun v10 =>
 T Tryz.prog 312 [v4] h2 fun v11 h12 =>
 ldV 1 false v9 h12 = some v10 ∧
 ldV 1 false v7 h12 = some v8 ∧
 ldV 1 false v5 h12 = some v6 ∧
 bnd (binV .mul v11 (.int .i64 16)) fun v13 =>
 bnd (binV .add v13 v6) fun v14 =>
 bnd (binV .mul v14 (.int .i64 4)) fun v15 =>
 bnd (binV .add v15 v8) fun v16 =>
 bnd (binV .mul v16 (.int .i64 1048576)) fun v17 =>
 bnd (binV .add v17 v10) fun v18 =>
 bnd (binV .mul v18 (.int .i64 4)) fun v19 =>
 bnd (binV .add v19 (.int .i64 1)) fun v20 =>
 K v20 h12
def A316 : Ann := ⟨fun | 1 => ([0, 1, 4, 5, 8, 9, 12, 13, 2, 3, 6, 7, 10, 11, 14, 15, 16, 17], [0, 1, 3, 7, 0, 16, 63, 127, 0, 256, 1023, 2047, 0, 4096, 16383, 32767, 65535, 131071]) | _ => ([], []), fun _ => []⟩
theorem S316_T {a0 : Value} {h : GH} {K : Value → GH → Prop} (g : S316 a0 h K) : T Tryz.prog 316 [a0] h K :=
  T_of_gwp (A := A316) Tryz.func316 (c := bodyOf Tryz.f316) (by kernel_rfl) (by kernel_rfl) (by kernel_rfl) (by kernel_rfl) (by kernel_rfl) (Eq.mp (by kernel_rfl) g)
def S317 (a0 : Value) (h : GH) (K : Value → GH → Prop) : Prop :=
 newV 277 (a0 : Value).cells.toList h fun v1 h2 =>
 newV 225 [(.int .i64 0), (.int .i64 0), (.int .i64 0), (.int .i64 0), (.int .i64 0), (.int .i64 0), (.int .i64 0)] h2 fun v3 h4 =>
 bnd (faV 0 v1) fun v5 =>
 bnd (faV 0 v5) fun v6 =>
 bnd (ldV 1 false v6 h4) fun v7 =>
 bnd (faV 0 v1) fun v8 =>
 bnd (faV 1 v8) fun v9 =>
 bnd (ldV 1 false v9 h4) fun v10 =>
 bnd (faV 2 v1) fun v11 =>
 bnd (ldV 1 false v11 h4) fun v12 =>
 bnd (faV 3 v1) fun v13 =>
 bnd (ldV 1 false v13 h4) fun v14 =>
 bnd (faV 4 v1) fun v15 =>
 bnd (ldV 1 false v15 h4) fun v16 =>
 bnd (fillV [(.int .i64 0), (.int .i64 0), (.int .i64 0), (.int .i64 0), (.int .i64 0), (.int .i64 0), (.int .i64 0)] [(0, 1, (.int .i64 1)), (2, 1, v7), (3, 1, v10), (4, 1, v12), (5, 1, v14), (6, 1, v16)]) fun c17 =>
 bnd (stV 7 v3 (.agg c17.toArray) h4) fun h18 =>
 bnd (ldV 7 true v3 h18) fun v19 =>
 K v19 h18
def A317 : Ann := ⟨fun _ => ([], []), fun _ => []⟩
theorem S317_T {a0 : Value} {h : GH} {K : Value → GH → Prop} (g : S317 a0 h K) : T Tryz.prog 317 [a0] h K :=
  T_of_gwp (A := A317) Tryz.func317 (c := bodyOf Tryz.f317) (by kernel_rfl) (by kernel_rfl) (by kernel_rfl) (by kernel_rfl) (by kernel_rfl) (Eq.mp (by kernel_rfl) g)
def S318 (a0 : Value) (h : GH) (K : Value → GH → Prop) : Prop :=
 bnd (eqK .ptr true a0 (.pointer none)) fun b1 =>
 ifV (.bool b1) (
 K (.int .i64 0) h) (
 bnd (ncV a0) fun v2 =>
 bnd (faV 1 v2) fun v3 =>
 bnd (ldV 1 false v3 h) fun v4 =>
 K v4 h)
def A318 : Ann := ⟨fun _ => ([], []), fun _ => []⟩
theorem S318_T {a0 : Value} {h : GH} {K : Value → GH → Prop} (g : S318 a0 h K) : T Tryz.prog 318 [a0] h K :=
  T_of_gwp (A := A318) Tryz.func318 (c := bodyOf Tryz.f318) (by kernel_rfl) (by kernel_rfl) (by kernel_rfl) (by kernel_rfl) (by kernel_rfl) (Eq.mp (by kernel_rfl) g)
def S319_j3 (x0 x1 x6 : Value) (h : GH) (K : Value → GH → Prop)  : Prop :=
 callV Tryz.prog x6 [x1] h fun v1 h2 =>
 bnd (eqI v1 (.int .i64 0)) fun b3 =>
 ifV (.bool (!b3)) (
 bnd (ncV x0) fun v4 =>
 bnd (faV 7 v4) fun v5 =>
 bnd (stV 1 v5 (.bool true) h2) fun h6 =>
 K (.tuple #[(.bool true), (.int .i64 1500)]) h6) (
 bnd (ncV x0) fun v7 =>
 bnd (faV 7 v7) fun v8 =>
 bnd (ldV 1 false v8 h2) fun v9 =>
 K (.tuple #[v9, (.int .i64 0)]) h2)
def S319_j2 (x0 x1 : Value) (h : GH) (K : Value → GH → Prop)  : Prop :=
 bnd (ncV x0) fun v1 =>
 bnd (faV 4 v1) fun v2 =>
 bnd (ldV 1 false v2 h) fun v3 =>
 bnd (eqK .ptr true v3 (.pointer none)) fun b4 =>
 ifV (.bool (!b4)) (
 S319_j3 x0 x1 (.func (.func 322) #[x0] #[]) h K ) (
 S319_j3 x0 x1 (.func (.func 321) #[x0] #[]) h K )
def S319_j1 (x0 x1 x8 : Value) (h : GH) (K : Value → GH → Prop)  : Prop :=
 ifV x8 (
 K (.tuple #[(.bool false), (.int .i64 1)]) h) (
 bnd (ncV x0) fun v1 =>
 bnd (faV 7 v1) fun v2 =>
 bnd (ldV 1 false v2 h) fun v3 =>
 ifV v3 (
 K (.tuple #[(.bool true), (.int .i64 0)]) h) (
 S319_j2 x0 x1 h K ))
def S319 (a0 a1 : Value) (h : GH) (K : Value → GH → Prop) : Prop :=
 bnd (eqK .ptr true a0 (.pointer none)) fun b1 =>
 ifV (.bool b1) (
 S319_j1 a0 a1 (.bool true) h K ) (
 bnd (eqK .ptr true a1 (.pointer none)) fun b2 =>
 S319_j1 a0 a1 (.bool b2) h K )
def A319 : Ann := ⟨fun _ => ([], []), fun _ => []⟩
theorem S319_T {a0 a1 : Value} {h : GH} {K : Value → GH → Prop} (g : S319 a0 a1 h K) : T Tryz.prog 319 [a0, a1] h K :=
  T_of_gwp (A := A319) Tryz.func319 (c := bodyOf Tryz.f319) (by kernel_rfl) (by kernel_rfl) (by kernel_rfl) (by kernel_rfl) (by kernel_rfl) (Eq.mp (by kernel_rfl) g)
def S320 (a0 : Value) (h : GH) (K : Value → GH → Prop) : Prop :=
 bnd (eqK .ptr true a0 (.pointer none)) fun b1 =>
 ifV (.bool b1) (
 K (.tuple #[(.int .i64 0), (.int .i64 0)]) h) (
 bnd (ncV a0) fun v2 =>
 bnd (faV 5 v2) fun v3 =>
 bnd (ldV 1 false v3 h) fun v4 =>
 bnd (ncV a0) fun v5 =>
 bnd (faV 6 v5) fun v6 =>
 bnd (ldV 1 false v6 h) fun v7 =>
 K (.tuple #[v4, v7]) h)
def A320 : Ann := ⟨fun | 3 => ([0, 1, 2, 3, 4, 5, 6, 7, 8, 9], [0, 1, 3, 7, 0, 16, 48, 112, 15, 511]) | _ => ([], []), fun _ => []⟩
theorem S320_T {a0 : Value} {h : GH} {K : Value → GH → Prop} (g : S320 a0 h K) : T Tryz.prog 320 [a0] h K :=
  T_of_gwp (A := A320) Tryz.func320 (c := bodyOf Tryz.f320) (by kernel_rfl) (by kernel_rfl) (by kernel_rfl) (by kernel_rfl) (by kernel_rfl) (Eq.mp (by kernel_rfl) g)
def S321 (a0 a1 : Value) (h : GH) (K : Value → GH → Prop) : Prop :=
 bnd (ncV a0) fun v1 =>
 bnd (faV 2 v1) fun v2 =>
 bnd (ldV 1 false v2 h) fun v3 =>
 T Tryz.prog 39 [a1, v3] h fun v4 h5 =>
 bnd (exV v4 0) fun v6 =>
 bnd (exV v4 1) fun v7 =>
 bnd (ncV a0) fun v8 =>
 bnd (faV 5 v8) fun v9 =>
 bnd (stV 1 v9 (.int .i64 (-1)) h5) fun h10 =>
 bnd (ncV a0) fun v11 =>
 bnd (faV 6 v11) fun v12 =>
 bnd (stV 1 v12 (.int .i64 0) h10) fun h13 =>
 T Tryz.prog 136 [v6] h13 fun v14 h15 =>
 bnd (exV v14 0) fun v16 =>
 bnd (exV v14 1) fun v17 =>
 ifV v17 (
 bnd (ncV a0) fun v18 =>
 bnd (faV 3 v18) fun v19 =>
 bnd (stV 1 v19 v16 h15) fun h20 =>
 bnd (ncV a0) fun v21 =>
 bnd (faV 7 v21) fun v22 =>
 bnd (stV 1 v22 (.bool true) h20) fun h23 =>
 K (.int .i64 0) h23) (
 bnd (ncV a0) fun v24 =>
 bnd (faV 0 v24) fun v25 =>
 bnd (ldV 1 false v25 h15) fun v26 =>
 bnd (ncV a0) fun v27 =>
 bnd (faV 1 v27) fun v28 =>
 bnd (ldV 1 false v28 h15) fun v29 =>
 T Tryz.prog 224 [v26, v29, v6] h15 fun v30 h31 =>
 bnd (exV v30 0) fun v32 =>
 bnd (exV v30 1) fun v33 =>
 bnd (ncV a0) fun v34 =>
 bnd (faV 4 v34) fun v35 =>
 bnd (stV 1 v35 v32 h31) fun h36 =>
 K v33 h36)
def A321 : Ann := ⟨fun | 7 => ([0, 1, 2, 3, 4, 5, 6, 7, 8, 9, 10, 11, 12, 13, 14], [0, 1, 3, 7, 0, 16, 48, 112, 0, 511, 1023, 2047, 2047, 4095, 16383]) | _ => ([], []), fun _ => []⟩
theorem S321_T {a0 a1 : Value} {h : GH} {K : Value → GH → Prop} (g : S321 a0 a1 h K) : T Tryz.prog 321 [a0, a1] h K :=
  T_of_gwp (A := A321) Tryz.func321 (c := bodyOf Tryz.f321) (by kernel_rfl) (by kernel_rfl) (by kernel_rfl) (by kernel_rfl) (by kernel_rfl) (Eq.mp (by kernel_rfl) g)
def S322 (a0 a1 : Value) (h : GH) (K : Value → GH → Prop) : Prop :=
 bnd (ncV a0) fun v1 =>
 bnd (faV 4 v1) fun v2 =>
 bnd (ldV 1 false v2 h) fun v3 =>
 T Tryz.prog 323 [v3, a1] h fun v4 h5 =>
 bnd (exV v4 0) fun v6 =>
 bnd (exV v4 1) fun v7 =>
 bnd (ncV a0) fun v8 =>
 bnd (faV 4 v8) fun v9 =>
 bnd (ldV 1 false v9 h5) fun v10 =>
 T Tryz.prog 324 [v10] h5 fun v11 h12 =>
 bnd (exV v11 0) fun v13 =>
 bnd (exV v11 1) fun v14 =>
 bnd (ncV a0) fun v15 =>
 bnd (faV 5 v15) fun v16 =>
 bnd (stV 1 v16 v13 h12) fun h17 =>
 bnd (ncV a0) fun v18 =>
 bnd (faV 6 v18) fun v19 =>
 bnd (stV 1 v19 v14 h17) fun h20 =>
 bnd (ncV a0) fun v21 =>
 bnd (faV 4 v21) fun v22 =>
 bnd (ldV 1 false v22 h20) fun v23 =>
 T Tryz.prog 325 [v23] h20 fun v24 h25 =>
 bnd (ncV a0) fun v26 =>
 bnd (faV 1 v26) fun v27 =>
 bnd (stV 1 v27 v24 h25) fun h28 =>
 ifV v6 (
 bnd (ncV a0) fun v29 =>
 bnd (faV 4 v29) fun v30 =>
 bnd (stV 1 v30 (.pointer none) h28) fun h31 =>
 K v7 h31) (
 K v7 h28)
def A322 : Ann := ⟨fun _ => ([], []), fun _ => []⟩
theorem S322_T {a0 a1 : Value} {h : GH} {K : Value → GH → Prop} (g : S322 a0 a1 h K) : T Tryz.prog 322 [a0, a1] h K :=
  T_of_gwp (A := A322) Tryz.func322 (c := bodyOf Tryz.f322) (by kernel_rfl) (by kernel_rfl) (by kernel_rfl) (by kernel_rfl) (by kernel_rfl) (Eq.mp (by kernel_rfl) g)
def S323_j4 (x0 x6 x7 x10 : Value) (h : GH) (K : Value → GH → Prop)  : Prop :=
 ifV x10 (
 bnd (ncV x0) fun v1 =>
 bnd (faV 2 v1) fun v2 =>
 bnd (ldV 1 false v2 h) fun v3 =>
 bnd (slV 1 v3 none (some x6)) fun v4 =>
 bnd (eqI x6 (.int .i64 0)) fun b5 =>
 bnd (ncV x0) fun v6 =>
 bnd (faV 2 v6) fun v7 =>
 bnd (stV 1 v7 v4 h) fun h8 =>
 bnd (ncV x0) fun v9 =>
 bnd (faV 5 v9) fun v10 =>
 bnd (stV 1 v10 (.bool b5) h8) fun h11 =>
 bnd (taV 392 (.pointer none) true x7) fun v12 =>
 bnd (exV v12 0) fun v13 =>
 bnd (exV v12 1) fun v14 =>
 bnd (ncV x0) fun v15 =>
 bnd (faV 5 v15) fun v16 =>
 bnd (ldV 1 false v16 h11) fun v17 =>
 ifV v17 (
 ifV v14 (
 bnd (ncV v13) fun v18 =>
 bnd (faV 0 v18) fun v19 =>
 bnd (faV 5 v19) fun v20 =>
 bnd (ldV 1 false v20 h11) fun v21 =>
 bnd (ncV x0) fun v22 =>
 bnd (faV 4 v22) fun v23 =>
 bnd (stV 1 v23 v21 h11) fun h24 =>
 bnd (ncV x0) fun v25 =>
 bnd (faV 5 v25) fun v26 =>
 bnd (ldV 1 false v26 h24) fun v27 =>
 K (.tuple #[v27, (.int .i64 0)]) h24) (
 bnd (ncV x0) fun v28 =>
 bnd (faV 4 v28) fun v29 =>
 bnd (stV 1 v29 (.bool false) h11) fun h30 =>
 bnd (ncV x0) fun v31 =>
 bnd (faV 5 v31) fun v32 =>
 bnd (ldV 1 false v32 h30) fun v33 =>
 K (.tuple #[v33, (.int .i64 0)]) h30)) (
 bnd (ncV x0) fun v34 =>
 bnd (faV 4 v34) fun v35 =>
 bnd (stV 1 v35 (.bool false) h11) fun h36 =>
 bnd (ncV x0) fun v37 =>
 bnd (faV 5 v37) fun v38 =>
 bnd (ldV 1 false v38 h36) fun v39 =>
 K (.tuple #[v39, (.int .i64 0)]) h36)) (
 bnd (ncV x0) fun v40 =>
 bnd (faV 5 v40) fun v41 =>
 bnd (ldV 1 false v41 h) fun v42 =>
 K (.tuple #[v42, (.int .i64 0)]) h)
def S323_j3 (x0 x6 x7 x9 x10 : Value) (h : GH) (K : Value → GH → Prop)  : Prop :=
 bnd (eqK .iface true x9 .nilIface) fun b1 =>
 ifV (.bool (!b1)) (
 bnd (ncV x0) fun v2 =>
 bnd (faV 2 v2) fun v3 =>
 bnd (ldV 1 false v3 h) fun v4 =>
 bsV 361 1 [.nilIface] [(0, 1, x9)] h fun v5 h6 =>
 apV 361 1 16 v4 v5 h6 fun v7 h8 =>
 bnd (ncV x0) fun v9 =>
 bnd (faV 2 v9) fun v10 =>
 bnd (stV 1 v10 v7 h8) fun h11 =>
 S323_j4 x0 x6 x7 x10 h11 K ) (
 S323_j4 x0 x6 x7 x10 h K )
def S323_j2 (x0 x1 : Value) (h : GH) (K : Value → GH → Prop)  : Prop :=
 bnd (ncV x0) fun v1 =>
 bnd (faV 2 v1) fun v2 =>
 bnd (ldV 1 false v2 h) fun v3 =>
 bnd (lnV v3) fun v4 =>
 bnd (binV .sub v4 (.int .i64 1)) fun v5 =>
 bnd (ncV x0) fun v6 =>
 bnd (faV 2 v6) fun v7 =>
 bnd (ldV 1 false v7 h) fun v8 =>
 bnd (isV 1 v8 v5) fun v9 =>
 bnd (ldV 1 false v9 h) fun v10 =>
 ivV Tryz.prog v10 "pawl/mcas.through" [] h fun v11 h12 =>
 newV 133 [(.int .i64 0), (.int .i64 0)] h12 fun v13 h14 =>
 bnd (stV 2 v13 v11 h14) fun h15 =>
 bnd (ncV x0) fun v16 =>
 bnd (faV 3 v16) fun v17 =>
 bnd (stV 1 v17 v13 h15) fun h18 =>
 ivV Tryz.prog v10 "pawl/mcas.step" [x1] h18 fun v19 h20 =>
 bnd (exV v19 0) fun v21 =>
 bnd (exV v19 1) fun v22 =>
 bnd (exV v19 2) fun v23 =>
 bnd (unV .not v23) fun v24 =>
 ifV v24 (
 bnd (ncV x0) fun v25 =>
 bnd (faV 5 v25) fun v26 =>
 bnd (stV 1 v26 (.bool true) h20) fun h27 =>
 K (.tuple #[(.bool true), (.int .i64 1400)]) h27) (
 bnd (eqK .iface true v21 .nilIface) fun b28 =>
 ifV (.bool (!b28)) (
 bnd (ncV x0) fun v29 =>
 bnd (faV 2 v29) fun v30 =>
 bnd (ldV 1 false v30 h20) fun v31 =>
 bnd (lnV v31) fun v32 =>
 bnd (binV .geq v32 (.int .i64 18)) fun v33 =>
 ifV v33 (
 bnd (ncV x0) fun v34 =>
 bnd (faV 5 v34) fun v35 =>
 bnd (stV 1 v35 (.bool true) h20) fun h36 =>
 K (.tuple #[(.bool true), (.int .i64 1400)]) h36) (
 S323_j3 x0 v5 v10 v21 v22 h20 K )) (
 S323_j3 x0 v5 v10 v21 v22 h20 K ))
def S323_j1 (x0 x1 x14 : Value) (h : GH) (K : Value → GH → Prop)  : Prop :=
 ifV x14 (
 K (.tuple #[(.bool false), (.int .i64 1)]) h) (
 bnd (ncV x0) fun v1 =>
 bnd (faV 5 v1) fun v2 =>
 bnd (ldV 1 false v2 h) fun v3 =>
 ifV v3 (
 K (.tuple #[(.bool true), (.int .i64 0)]) h) (
 S323_j2 x0 x1 h K ))
def S323 (a0 a1 : Value) (h : GH) (K : Value → GH → Prop) : Prop :=
 bnd (eqK .ptr true a0 (.pointer none)) fun b1 =>
 ifV (.bool b1) (
 S323_j1 a0 a1 (.bool true) h K ) (
 bnd (eqK .ptr true a1 (.pointer none)) fun b2 =>
 S323_j1 a0 a1 (.bool b2) h K )
def A323 : Ann := ⟨fun _ => ([], []), fun _ => []⟩
theorem S323_T {a0 a1 : Value} {h : GH} {K : Value → GH → Prop} (g : S323 a0 a1 h K) : T Tryz.prog 323 [a0, a1] h K :=
  T_of_gwp (A := A323) Tryz.func323 (c := bodyOf Tryz.f323) (by kernel_rfl) (by kernel_rfl) (by kernel_rfl) (by kernel_rfl) (by kernel_rfl) (Eq.mp (by kernel_rfl) g)
def S324 (a0 : Value) (h : GH) (K : Value → GH → Prop) : Prop :=
 bnd (eqK .ptr true a0 (.pointer none)) fun b1 =>
 ifV (.bool b1) (
 K (.tuple #[(.int .i64 0), (.int .i64 0)]) h) (
 bnd (ncV a0) fun v2 =>
 bnd (faV 3 v2) fun v3 =>
 bnd (ldV 1 false v3 h) fun v4 =>
 bnd (eqK .ptr true v4 (.pointer none)) fun b5 =>
 ifV (.bool b5) (
 K (.tuple #[(.int .i64 (-1)), (.int .i64 0)]) h) (
 bnd (ncV a0) fun v6 =>
 bnd (faV 3 v6) fun v7 =>
 bnd (ldV 1 false v7 h) fun v8 =>
 bnd (ncV v8) fun v9 =>
 bnd (faV 0 v9) fun v10 =>
 bnd (ldV 1 false v10 h) fun v11 =>
 bnd (ncV a0) fun v12 =>
 bnd (faV 3 v12) fun v13 =>
 bnd (ldV 1 false v13 h) fun v14 =>
 bnd (ncV v14) fun v15 =>
 bnd (faV 1 v15) fun v16 =>
 bnd (ldV 1 false v16 h) fun v17 =>
 K (.tuple #[v11, v17]) h))
def A324 : Ann := ⟨fun | 5 => ([0, 1, 2, 3, 4, 5, 6, 7, 8, 9, 10, 11, 12, 13, 14, 15], [0, 1, 3, 7, 15, 31, 63, 0, 128, 384, 896, 1920, 3968, 8064, 127, 32767]) | _ => ([], []), fun _ => []⟩
theorem S324_T {a0 : Value} {h : GH} {K : Value → GH → Prop} (g : S324 a0 h K) : T Tryz.prog 324 [a0] h K :=
  T_of_gwp (A := A324) Tryz.func324 (c := bodyOf Tryz.f324) (by kernel_rfl) (by kernel_rfl) (by kernel_rfl) (by kernel_rfl) (by kernel_rfl) (Eq.mp (by kernel_rfl) g)
def S325 (a0 : Value) (h : GH) (K : Value → GH → Prop) : Prop :=
 bnd (eqK .ptr true a0 (.pointer none)) fun b1 =>
 ifV (.bool b1) (
 K (.int .i64 0) h) (
 bnd (ncV a0) fun v2 =>
 bnd (faV 0 v2) fun v3 =>
 bnd (faV 1 v3) fun v4 =>
 bnd (ldV 1 false v4 h) fun v5 =>
 K v5 h)
def A325 : Ann := ⟨fun _ => ([], []), fun _ => []⟩
theorem S325_T {a0 : Value} {h : GH} {K : Value → GH → Prop} (g : S325 a0 h K) : T Tryz.prog 325 [a0] h K :=
  T_of_gwp (A := A325) Tryz.func325 (c := bodyOf Tryz.f325) (by kernel_rfl) (by kernel_rfl) (by kernel_rfl) (by kernel_rfl) (by kernel_rfl) (Eq.mp (by kernel_rfl) g)
def S326_j2 (x0 : Value) (h : GH) (K : Value → GH → Prop)  : Prop :=
 bnd (ncV x0) fun v1 =>
 bnd (faV 1 v1) fun v2 =>
 bnd (ldV 1 false v2 h) fun v3 =>
 bnd (lnV v3) fun v4 =>
 bnd (eqI v4 (.int .i64 0)) fun b5 =>
 K (.tuple #[(.bool b5), (.int .i64 0)]) h
def S326_j1 (x0 x1 : Value) (h : GH) (K : Value → GH → Prop)  : Prop :=
 bnd (ncV x0) fun v1 =>
 bnd (faV 1 v1) fun v2 =>
 bnd (ldV 1 false v2 h) fun v3 =>
 bnd (lnV v3) fun v4 =>
 bnd (binV .gtr v4 (.int .i64 0)) fun v5 =>
 ifV v5 (
 bnd (ncV x0) fun v6 =>
 bnd (faV 0 v6) fun v7 =>
 bnd (ldV 1 false v7 h) fun v8 =>
 bnd (ncV x0) fun v9 =>
 bnd (faV 1 v9) fun v10 =>
 bnd (ldV 1 false v10 h) fun v11 =>
 bnd (isV 1 v11 (.int .i64 0)) fun v12 =>
 bnd (ldV 1 false v12 h) fun v13 =>
 T Tryz.prog 35 [x1, v8, v13] h fun v14 h15 =>
 bnd (ncV x0) fun v16 =>
 bnd (faV 0 v16) fun v17 =>
 bnd (ldV 1 false v17 h15) fun v18 =>
 bnd (binV .add v18 (.int .i64 1)) fun v19 =>
 bnd (ncV x0) fun v20 =>
 bnd (faV 0 v20) fun v21 =>
 bnd (stV 1 v21 v19 h15) fun h22 =>
 bnd (ncV x0) fun v23 =>
 bnd (faV 1 v23) fun v24 =>
 bnd (ldV 1 false v24 h22) fun v25 =>
 bnd (slV 1 v25 (some (.int .i64 1)) none) fun v26 =>
 bnd (ncV x0) fun v27 =>
 bnd (faV 1 v27) fun v28 =>
 bnd (stV 1 v28 v26 h22) fun h29 =>
 S326_j2 x0 h29 K ) (
 S326_j2 x0 h K )
def S326 (a0 a1 : Value) (h : GH) (K : Value → GH → Prop) : Prop :=
 bnd (eqK .ptr true a0 (.pointer none)) fun b1 =>
 ifV (.bool b1) (
 K (.tuple #[(.bool false), (.int .i64 1)]) h) (
 bnd (eqK .ptr true a1 (.pointer none)) fun b2 =>
 ifV (.bool b2) (
 K (.tuple #[(.bool false), (.int .i64 1)]) h) (
 S326_j1 a0 a1 h K ))
def A326 : Ann := ⟨fun | 4 => ([0, 1, 2, 3, 4, 5, 6, 7, 8, 9, 10, 11], [0, 0, 2, 6, 14, 0, 32, 96, 224, 480, 992, 2047]) | _ => ([], []), fun _ => []⟩
theorem S326_T {a0 a1 : Value} {h : GH} {K : Value → GH → Prop} (g : S326 a0 a1 h K) : T Tryz.prog 326 [a0, a1] h K :=
  T_of_gwp (A := A326) Tryz.func326 (c := bodyOf Tryz.f326) (by kernel_rfl) (by kernel_rfl) (by kernel_rfl) (by kernel_rfl) (by kernel_rfl) (Eq.mp (by kernel_rfl) g)
def S327 (a0 : Value) (h : GH) (K : Value → GH → Prop) : Prop :=
 bnd (ncV a0) fun v1 =>
 bnd (faV 1 v1) fun v2 =>
 bnd (ldV 1 false v2 h) fun v3 =>
 bnd (binV .add v3 (.int .i64 1)) fun v4 =>
 bnd (binV .rem v4 (.int .i64 1048576)) fun v5 =>
 bnd (ncV a0) fun v6 =>
 bnd (faV 1 v6) fun v7 =>
 bnd (stV 1 v7 v5 h) fun h8 =>
 K v3 h8
def A327 : Ann := ⟨fun _ => ([], []), fun _ => []⟩
theorem S327_T {a0 : Value} {h : GH} {K : Value → GH → Prop} (g : S327 a0 h K) : T Tryz.prog 327 [a0] h K :=
  T_of_gwp (A := A327) Tryz.func327 (c := bodyOf Tryz.f327) (by kernel_rfl) (by kernel_rfl) (by kernel_rfl) (by kernel_rfl) (by kernel_rfl) (Eq.mp (by kernel_rfl) g)
def S328 (a0 a1 : Value) (h : GH) (K : Value → GH → Prop) : Prop :=
 bnd (ncV a0) fun v1 =>
 bnd (faV 11 v1) fun v2 =>
 bnd (ldV 1 false v2 h) fun v3 =>
 bnd (binV .add v3 (.int .i64 1)) fun v4 =>
 bnd (ncV a0) fun v5 =>
 bnd (faV 11 v5) fun v6 =>
 bnd (stV 1 v6 v4 h) fun h7 =>
 bnd (ncV a0) fun v8 =>
 bnd (faV 11 v8) fun v9 =>
 bnd (ldV 1 false v9 h7) fun v10 =>
 bnd (eqI v10 (.int .i64 1)) fun b11 =>
 ifV (.bool b11) (
 bnd (ncV a0) fun v12 =>
 bnd (faV 0 v12) fun v13 =>
 bnd (ncV a0) fun v14 =>
 bnd (faV 6 v14) fun v15 =>
 bnd (faV 2 v15) fun v16 =>
 bnd (ldV 1 false v16 h7) fun v17 =>
 T Tryz.prog 330 [v13, a1, v17] h7 fun v18 h19 =>
 K (.tuple #[.nilIface, (.bool false), v18]) h19) (
 bnd (eqI v10 (.int .i64 2)) fun b20 =>
 ifV (.bool b20) (
 bnd (ncV a0) fun v21 =>
 bnd (faV 0 v21) fun v22 =>
 bnd (ncV a0) fun v23 =>
 bnd (faV 6 v23) fun v24 =>
 bnd (faV 2 v24) fun v25 =>
 bnd (ldV 1 false v25 h7) fun v26 =>
 T Tryz.prog 331 [v22, a1, v26] h7 fun v27 h28 =>
 K (.tuple #[.nilIface, (.bool false), v27]) h28) (
 bnd (eqI v10 (.int .i64 3)) fun b29 =>
 ifV (.bool b29) (
 bnd (ncV a0) fun v30 =>
 bnd (faV 0 v30) fun v31 =>
 T Tryz.prog 332 [v31, a1] h7 fun v32 h33 =>
 K (.tuple #[.nilIface, (.bool false), v32]) h33) (
 bnd (ncV a0) fun v34 =>
 bnd (faV 0 v34) fun v35 =>
 bnd (ncV a0) fun v36 =>
 bnd (faV 6 v36) fun v37 =>
 bnd (ldV 5 true v37 h7) fun v38 =>
 T Tryz.prog 225 [(.iface 277 v38)] h7 fun v39 h40 =>
 T Tryz.prog 333 [v35, a1, v39] h40 fun v41 h42 =>
 K (.tuple #[.nilIface, (.bool true), (.bool true)]) h42)))
def A328 : Ann := ⟨fun | 4 => ([0, 1, 2, 3, 4, 5, 6, 7, 8, 9, 10, 11, 12], [0, 1, 3, 0, 0, 16, 48, 112, 240, 511, 1023, 2047, 4095]) | 6 => ([0, 1, 2, 3, 4, 5, 6, 7, 8, 9, 10, 11, 12], [0, 1, 3, 0, 0, 16, 48, 112, 240, 511, 1023, 2047, 4095]) | 9 => ([0, 1, 2, 3, 4, 5, 6, 7, 8, 9, 10], [0, 1, 3, 0, 0, 16, 48, 112, 240, 496, 1023]) | _ => ([], []), fun _ => []⟩
theorem S328_T {a0 a1 : Value} {h : GH} {K : Value → GH → Prop} (g : S328 a0 a1 h K) : T Tryz.prog 328 [a0, a1] h K :=
  T_of_gwp (A := A328) Tryz.func328 (c := bodyOf Tryz.f328) (by kernel_rfl) (by kernel_rfl) (by kernel_rfl) (by kernel_rfl) (by kernel_rfl) (Eq.mp (by kernel_rfl) g)
def S329 (a0 : Value) (h : GH) (K : Value → GH → Prop) : Prop :=
 newV 133 [(.int .i64 0), (.int .i64 0)] h fun v1 h2 =>
 bnd (ncV a0) fun v3 =>
 bnd (faV 0 v3) fun v4 =>
 bnd (ldV 2 true v4 h2) fun v5 =>
 bnd (stV 2 v1 v5 h2) fun h6 =>
 bnd (ldV 2 true v1 h6) fun v7 =>
 K v7 h6
def A329 : Ann := ⟨fun _ => ([], []), fun _ => []⟩
theorem S329_T {a0 : Value} {h : GH} {K : Value → GH → Prop} (g : S329 a0 h K) : T Tryz.prog 329 [a0] h K :=
  T_of_gwp (A := A329) Tryz.func329 (c := bodyOf Tryz.f329) (by kernel_rfl) (by kernel_rfl) (by kernel_rfl) (by kernel_rfl) (by kernel_rfl) (Eq.mp (by kernel_rfl) g)
def S330 (a0 a1 a2 : Value) (h : GH) (K : Value → GH → Prop) : Prop :=
 T Tryz.prog 334 [a0, a1, a2, (.int .i64 0)] h fun v1 h2 =>
 bnd (exV v1 0) fun v3 =>
 bnd (exV v1 1) fun v4 =>
 bnd (ncV a0) fun v5 =>
 bnd (faV 2 v5) fun v6 =>
 bnd (stV 1 v6 v3 h2) fun h7 =>
 K v4 h7
def A330 : Ann := ⟨fun _ => ([], []), fun _ => []⟩
theorem S330_T {a0 a1 a2 : Value} {h : GH} {K : Value → GH → Prop} (g : S330 a0 a1 a2 h K) : T Tryz.prog 330 [a0, a1, a2] h K :=
  T_of_gwp (A := A330) Tryz.func330 (c := bodyOf Tryz.f330) (by kernel_rfl) (by kernel_rfl) (by kernel_rfl) (by kernel_rfl) (by kernel_rfl) (Eq.mp (by kernel_rfl) g)
def S331 (a0 a1 a2 : Value) (h : GH) (K : Value → GH → Prop) : Prop :=
 T Tryz.prog 334 [a0, a1, a2, (.int .i64 1)] h fun v1 h2 =>
 bnd (exV v1 0) fun v3 =>
 bnd (exV v1 1) fun v4 =>
 ifV v4 (
 T Tryz.prog 78 [v3] h2 fun v5 h6 =>
 bnd (ncV a0) fun v7 =>
 bnd (faV 3 v7) fun v8 =>
 bnd (stV 1 v8 v5 h6) fun h9 =>
 K v4 h9) (
 K v4 h2)
def A331 : Ann := ⟨fun _ => ([], []), fun _ => []⟩
theorem S331_T {a0 a1 a2 : Value} {h : GH} {K : Value → GH → Prop} (g : S331 a0 a1 a2 h K) : T Tryz.prog 331 [a0, a1, a2] h K :=
  T_of_gwp (A := A331) Tryz.func331 (c := bodyOf Tryz.f331) (by kernel_rfl) (by kernel_rfl) (by kernel_rfl) (by kernel_rfl) (by kernel_rfl) (Eq.mp (by kernel_rfl) g)
def S332 (a0 a1 : Value) (h : GH) (K : Value → GH → Prop) : Prop :=
 bnd (ncV a0) fun v1 =>
 bnd (faV 0 v1) fun v2 =>
 bnd (faV 0 v2) fun v3 =>
 bnd (ldV 1 false v3 h) fun v4 =>
 T Tryz.prog 137 [v4] h fun v5 h6 =>
 T Tryz.prog 39 [a1, v5] h6 fun v7 h8 =>
 bnd (exV v7 0) fun v9 =>
 bnd (exV v7 1) fun v10 =>
 T Tryz.prog 136 [v9] h8 fun v11 h12 =>
 bnd (exV v11 0) fun v13 =>
 bnd (exV v11 1) fun v14 =>
 bnd (ncV a0) fun v15 =>
 bnd (faV 0 v15) fun v16 =>
 bnd (faV 1 v16) fun v17 =>
 bnd (ldV 1 false v17 h12) fun v18 =>
 T Tryz.prog 138 [v18, (.int .i64 0)] h12 fun v19 h20 =>
 bnd (eqI v9 v19) fun b21 =>
 bnd (ncV a0) fun v22 =>
 bnd (faV 4 v22) fun v23 =>
 bnd (stV 1 v23 (.bool b21) h20) fun h24 =>
 bnd (ncV a0) fun v25 =>
 bnd (faV 0 v25) fun v26 =>
 bnd (faV 1 v26) fun v27 =>
 bnd (ldV 1 false v27 h24) fun v28 =>
 T Tryz.prog 138 [v28, (.int .i64 1)] h24 fun v29 h30 =>
 bnd (eqI v9 v29) fun b31 =>
 bnd (ncV a0) fun v32 =>
 bnd (faV 5 v32) fun v33 =>
 bnd (stV 1 v33 (.bool b31) h30) fun h34 =>
 K v14 h34
def A332 : Ann := ⟨fun _ => ([], []), fun _ => []⟩
theorem S332_T {a0 a1 : Value} {h : GH} {K : Value → GH → Prop} (g : S332 a0 a1 h K) : T Tryz.prog 332 [a0, a1] h K :=
  T_of_gwp (A := A332) Tryz.func332 (c := bodyOf Tryz.f332) (by kernel_rfl) (by kernel_rfl) (by kernel_rfl) (by kernel_rfl) (by kernel_rfl) (Eq.mp (by kernel_rfl) g)
def S333_j1 (x0 x1 x2 x6 : Value) (h : GH) (K : Value → GH → Prop)  : Prop :=
 bnd (ncV x0) fun v1 =>
 bnd (faV 2 v1) fun v2 =>
 bnd (ldV 1 false v2 h) fun v3 =>
 T Tryz.prog 209 [x1, v3, x2, x6] h fun v4 h5 =>
 K (.tuple #[]) h5
def S333 (a0 a1 a2 : Value) (h : GH) (K : Value → GH → Prop) : Prop :=
 bnd (ncV a0) fun v1 =>
 bnd (faV 3 v1) fun v2 =>
 bnd (ldV 1 false v2 h) fun v3 =>
 bnd (ncV a0) fun v4 =>
 bnd (faV 4 v4) fun v5 =>
 bnd (ldV 1 false v5 h) fun v6 =>
 ifV v6 (
 bnd (ncV a0) fun v7 =>
 bnd (faV 0 v7) fun v8 =>
 bnd (ldV 2 true v8 h) fun v9 =>
 T Tryz.prog 225 [(.iface 133 v9)] h fun v10 h11 =>
 S333_j1 a0 a1 a2 v10 h11 K ) (
 S333_j1 a0 a1 a2 v3 h K )
def A333 : Ann := ⟨fun _ => ([], []), fun _ => []⟩
theorem S333_T {a0 a1 a2 : Value} {h : GH} {K : Value → GH → Prop} (g : S333 a0 a1 a2 h K) : T Tryz.prog 333 [a0, a1, a2] h K :=
  T_of_gwp (A := A333) Tryz.func333 (c := bodyOf Tryz.f333) (by kernel_rfl) (by kernel_rfl) (by kernel_rfl) (by kernel_rfl) (by kernel_rfl) (Eq.mp (by kernel_rfl) g)
def S334_j1 (x0 x1 x2 x3 x10 : Value) (h : GH) (K : Value → GH → Prop)  : Prop :=
 bnd (binV .mul (.int .i64 3) x2) fun v1 =>
 bnd (binV .add (.int .i64 2) v1) fun v2 =>
 bnd (binV .add v2 x3) fun v3 =>
 T Tryz.prog 335 [x0, x1, v3, x10] h fun v4 h5 =>
 bnd (exV v4 0) fun v6 =>
 bnd (exV v4 1) fun v7 =>
 K (.tuple #[v6, v7]) h5
def S334 (a0 a1 a2 a3 : Value) (h : GH) (K : Value → GH → Prop) : Prop :=
 bnd (eqI a3 (.int .i64 0)) fun b1 =>
 ifV (.bool b1) (
 S334_j1 a0 a1 a2 a3 (.int .i64 15) h K ) (
 S334_j1 a0 a1 a2 a3 (.int .i64 1099511627775) h K )
def A334 : Ann := ⟨fun _ => ([], []), fun _ => []⟩
theorem S334_T {a0 a1 a2 a3 : Value} {h : GH} {K : Value → GH → Prop} (g : S334 a0 a1 a2 a3 h K) : T Tryz.prog 334 [a0, a1, a2, a3] h K :=
  T_of_gwp (A := A334) Tryz.func334 (c := bodyOf Tryz.f334) (by kernel_rfl) (by kernel_rfl) (by kernel_rfl) (by kernel_rfl) (by kernel_rfl) (Eq.mp (by kernel_rfl) g)
def S335 (a0 a1 a2 a3 : Value) (h : GH) (K : Value → GH → Prop) : Prop :=
 bnd (ncV a0) fun v1 =>
 bnd (faV 0 v1) fun v2 =>
 bnd (faV 0 v2) fun v3 =>
 bnd (ldV 1 false v3 h) fun v4 =>
 T Tryz.prog 137 [v4] h fun v5 h6 =>
 bnd (binV .add v5 a2) fun v7 =>
 T Tryz.prog 39 [a1, v7] h6 fun v8 h9 =>
 bnd (exV v8 0) fun v10 =>
 bnd (exV v8 1) fun v11 =>
 T Tryz.prog 136 [v10] h9 fun v12 h13 =>
 bnd (exV v12 0) fun v14 =>
 bnd (exV v12 1) fun v15 =>
 ifV v15 (
 bnd (binV .leq v14 a3) fun v16 =>
 K (.tuple #[v14, v16]) h13) (
 K (.tuple #[v14, (.bool false)]) h13)
def A335 : Ann := ⟨fun _ => ([], []), fun _ => []⟩
theorem S335_T {a0 a1 a2 a3 : Value} {h : GH} {K : Value → GH → Prop} (g : S335 a0 a1 a2 a3 h K) : T Tryz.prog 335 [a0, a1, a2, a3] h K :=
  T_of_gwp (A := A335) Tryz.func335 (c := bodyOf Tryz.f335) (by kernel_rfl) (by kernel_rfl) (by kernel_rfl) (by kernel_rfl) (by kernel_rfl) (Eq.mp (by kernel_rfl) g)
def S336 (a0 a1 a2 : Value) (h : GH) (K : Value → GH → Prop) : Prop :=
 bnd (ncV a0) fun v1 =>
 bnd (faV 8 v1) fun v2 =>
 bnd (ldV 1 false v2 h) fun v3 =>
 bnd (binV .add v3 (.int .i64 1)) fun v4 =>
 bnd (ncV a0) fun v5 =>
 bnd (faV 8 v5) fun v6 =>
 bnd (stV 1 v6 v4 h) fun h7 =>
 bnd (ncV a0) fun v8 =>
 bnd (faV 7 v8) fun v9 =>
 bnd (stV 1 v9 a1 h7) fun h10 =>
 bnd (ncV a0) fun v11 =>
 bnd (faV 8 v11) fun v12 =>
 bnd (ldV 1 false v12 h10) fun v13 =>
 bnd (ncV a0) fun v14 =>
 bnd (faV 9 v14) fun v15 =>
 bnd (ldV 1 false v15 h10) fun v16 =>
 bnd (binV .geq v13 v16) fun v17 =>
 ifV v17 (
 bnd (ncV a0) fun v18 =>
 bnd (faV 7 v18) fun v19 =>
 bnd (stV 1 v19 a2 h10) fun h20 =>
 bnd (ncV a0) fun v21 =>
 bnd (faV 7 v21) fun v22 =>
 bnd (ldV 1 false v22 h20) fun v23 =>
 bnd (eqI v23 a2) fun b24 =>
 K (.bool b24) h20) (
 bnd (ncV a0) fun v25 =>
 bnd (faV 7 v25) fun v26 =>
 bnd (ldV 1 false v26 h10) fun v27 =>
 bnd (eqI v27 a2) fun b28 =>
 K (.bool b28) h10)
def A336 : Ann := ⟨fun | 3 => ([0, 1, 2, 3, 4, 5, 6, 7, 8], [0, 1, 3, 7, 0, 16, 48, 112, 255]) | _ => ([], []), fun _ => []⟩
theorem S336_T {a0 a1 a2 : Value} {h : GH} {K : Value → GH → Prop} (g : S336 a0 a1 a2 h K) : T Tryz.prog 336 [a0, a1, a2] h K :=
  T_of_gwp (A := A336) Tryz.func336 (c := bodyOf Tryz.f336) (by kernel_rfl) (by kernel_rfl) (by kernel_rfl) (by kernel_rfl) (by kernel_rfl) (Eq.mp (by kernel_rfl) g)
def S337_j3 (x0 x1 x9 x37 x48 : Value) (h : GH) (K : Value → GH → Prop)  : Prop :=
 ifV x48 (
 T Tryz.prog 340 [x0, x1] h fun v1 h2 =>
 bnd (exV v1 0) fun v3 =>
 bnd (exV v1 1) fun v4 =>
 bnd (exV v1 2) fun v5 =>
 K (.tuple #[v3, v4, v5]) h2) (
 bnd (eqI x37 (.int .i64 2)) fun b6 =>
 ifV (.bool b6) (
 T Tryz.prog 341 [x0, x1] h fun v7 h8 =>
 bnd (exV v7 0) fun v9 =>
 bnd (exV v7 1) fun v10 =>
 ifV v9 (
 bnd (ncV x0) fun v11 =>
 bnd (faV 7 v11) fun v12 =>
 bnd (stV 1 v12 (.int .i64 8) h8) fun h13 =>
 K (.tuple #[.nilIface, (.bool false), v10]) h13) (
 K (.tuple #[.nilIface, (.bool false), v10]) h8)) (
 bnd (eqI x37 (.int .i64 3)) fun b14 =>
 ifV (.bool b14) (
 bnd (ncV x0) fun v15 =>
 bnd (faV 0 v15) fun v16 =>
 bnd (ncV x0) fun v17 =>
 bnd (faV 8 v17) fun v18 =>
 bnd (ldV 1 false v18 h) fun v19 =>
 T Tryz.prog 330 [v16, x1, v19] h fun v20 h21 =>
 bnd (ncV x0) fun v22 =>
 bnd (faV 7 v22) fun v23 =>
 bnd (stV 1 v23 (.int .i64 4) h21) fun h24 =>
 K (.tuple #[.nilIface, (.bool false), v20]) h24) (
 bnd (eqI x37 (.int .i64 4)) fun b25 =>
 ifV (.bool b25) (
 bnd (ncV x0) fun v26 =>
 bnd (faV 0 v26) fun v27 =>
 bnd (ncV x0) fun v28 =>
 bnd (faV 8 v28) fun v29 =>
 bnd (ldV 1 false v29 h) fun v30 =>
 T Tryz.prog 331 [v27, x1, v30] h fun v31 h32 =>
 bnd (ncV x0) fun v33 =>
 bnd (faV 7 v33) fun v34 =>
 bnd (stV 1 v34 (.int .i64 5) h32) fun h35 =>
 K (.tuple #[.nilIface, (.bool false), v31]) h35) (
 bnd (eqI x37 (.int .i64 6)) fun b36 =>
 ifV (.bool b36) (
 bnd (ncV x0) fun v37 =>
 bnd (faV 0 v37) fun v38 =>
 T Tryz.prog 332 [v38, x1] h fun v39 h40 =>
 bnd (ncV x0) fun v41 =>
 bnd (faV 7 v41) fun v42 =>
 bnd (stV 1 v42 (.int .i64 7) h40) fun h43 =>
 K (.tuple #[.nilIface, (.bool false), v39]) h43) (
 bnd (eqI x37 (.int .i64 7)) fun b44 =>
 ifV (.bool b44) (
 bnd (ncV x0) fun v45 =>
 bnd (faV 0 v45) fun v46 =>
 bnd (ncV x0) fun v47 =>
 bnd (faV 10 v47) fun v48 =>
 bnd (ldV 1 false v48 h) fun v49 =>
 T Tryz.prog 333 [v46, x1, v49] h fun v50 h51 =>
 T Tryz.prog 336 [x0, (.int .i64 3), (.int .i64 8)] h51 fun v52 h53 =>
 K (.tuple #[.nilIface, (.bool false), x9]) h53) (
 bnd (eqI x37 (.int .i64 8)) fun b54 =>
 ifV (.bool b54) (
 T Tryz.prog 342 [x0, x1, (.int .i64 1)] h fun v55 h56 =>
 K (.tuple #[.nilIface, (.bool false), x9]) h56) (
 bnd (eqI x37 (.int .i64 9)) fun b57 =>
 ifV (.bool b57) (
 T Tryz.prog 342 [x0, x1, (.int .i64 2)] h fun v58 h59 =>
 K (.tuple #[.nilIface, (.bool false), x9]) h59) (
 K (.tuple #[.nilIface, (.bool false), x9]) h))))))))
def S337_j2 (x0 x1 : Value) (h : GH) (K : Value → GH → Prop)  : Prop :=
 bnd (ncV x0) fun v1 =>
 bnd (faV 7 v1) fun v2 =>
 bnd (ldV 1 false v2 h) fun v3 =>
 bnd (eqI v3 (.int .i64 5)) fun b4 =>
 ifV (.bool b4) (
 T Tryz.prog 339 [x0, x1] h fun v5 h6 =>
 bnd (exV v5 0) fun v7 =>
 bnd (exV v5 1) fun v8 =>
 K (.tuple #[v7, (.bool false), v8]) h6) (
 bnd (eqI v3 (.int .i64 1)) fun b9 =>
 ifV (.bool b9) (
 S337_j3 x0 x1 (.bool true) v3 (.bool true) h K ) (
 bnd (eqI v3 (.int .i64 14)) fun b10 =>
 S337_j3 x0 x1 (.bool true) v3 (.bool b10) h K ))
def S337_j1 (x0 x1 x25 : Value) (h : GH) (K : Value → GH → Prop)  : Prop :=
 ifV x25 (
 T Tryz.prog 338 [x0, x1] h fun v1 h2 =>
 bnd (exV v1 0) fun v3 =>
 bnd (exV v1 1) fun v4 =>
 K (.tuple #[.nilIface, v3, v4]) h2) (
 S337_j2 x0 x1 h K )
def S337 (a0 a1 : Value) (h : GH) (K : Value → GH → Prop) : Prop :=
 bnd (ncV a0) fun v1 =>
 bnd (faV 7 v1) fun v2 =>
 bnd (ldV 1 false v2 h) fun v3 =>
 bnd (binV .geq v3 (.int .i64 10)) fun v4 =>
 ifV v4 (
 bnd (ncV a0) fun v5 =>
 bnd (faV 7 v5) fun v6 =>
 bnd (ldV 1 false v6 h) fun v7 =>
 bnd (binV .lss v7 (.int .i64 14)) fun v8 =>
 S337_j1 a0 a1 v8 h K ) (
 S337_j1 a0 a1 (.bool false) h K )
def A337 : Ann := ⟨fun | 18 => ([0, 1, 2, 3, 4, 5, 6, 7, 8, 9], [0, 1, 3, 0, 0, 16, 48, 112, 255, 511]) | 21 => ([0, 1, 2, 3, 4, 5, 6, 7, 8, 9], [0, 1, 3, 0, 0, 16, 48, 112, 255, 511]) | 27 => ([0, 1, 2, 3, 4, 5, 6, 7, 8], [0, 1, 3, 0, 0, 16, 48, 112, 255]) | _ => ([], []), fun _ => []⟩
theorem S337_T {a0 a1 : Value} {h : GH} {K : Value → GH → Prop} (g : S337 a0 a1 h K) : T Tryz.prog 337 [a0, a1] h K :=
  T_of_gwp (A := A337) Tryz.func337 (c := bodyOf Tryz.f337) (by kernel_rfl) (by kernel_rfl) (by kernel_rfl) (by kernel_rfl) (by kernel_rfl) (Eq.mp (by kernel_rfl) g)
def S338_j1 (x0 x1 x6 : Value) (h : GH) (K : Value → GH → Prop)  : Prop :=
 bnd (ncV x0) fun v1 =>
 bnd (faV 0 v1) fun v2 =>
 bnd (ncV x0) fun v3 =>
 bnd (faV 8 v3) fun v4 =>
 bnd (ldV 1 false v4 h) fun v5 =>
 T Tryz.prog 334 [v2, x1, v5, x6] h fun v6 h7 =>
 bnd (exV v6 0) fun v8 =>
 bnd (exV v6 1) fun v9 =>
 bnd (ncV x0) fun v10 =>
 bnd (faV 12 v10) fun v11 =>
 bnd (stV 1 v11 v8 h7) fun h12 =>
 bnd (ncV x0) fun v13 =>
 bnd (faV 7 v13) fun v14 =>
 bnd (stV 1 v14 (.int .i64 13) h12) fun h15 =>
 K (.tuple #[(.bool false), v9]) h15
def S338 (a0 a1 : Value) (h : GH) (K : Value → GH → Prop) : Prop :=
 bnd (ncV a0) fun v1 =>
 bnd (faV 7 v1) fun v2 =>
 bnd (ldV 1 false v2 h) fun v3 =>
 bnd (eqI v3 (.int .i64 10)) fun b4 =>
 ifV (.bool b4) (
 T Tryz.prog 341 [a0, a1] h fun v5 h6 =>
 bnd (exV v5 0) fun v7 =>
 bnd (exV v5 1) fun v8 =>
 K (.tuple #[v7, v8]) h6) (
 bnd (eqI v3 (.int .i64 11)) fun b9 =>
 ifV (.bool b9) (
 bnd (ncV a0) fun v10 =>
 bnd (faV 7 v10) fun v11 =>
 bnd (stV 1 v11 (.int .i64 12) h) fun h12 =>
 bnd (ncV a0) fun v13 =>
 bnd (faV 0 v13) fun v14 =>
 bnd (ncV a0) fun v15 =>
 bnd (faV 8 v15) fun v16 =>
 bnd (ldV 1 false v16 h12) fun v17 =>
 T Tryz.prog 330 [v14, a1, v17] h12 fun v18 h19 =>
 K (.tuple #[(.bool false), v18]) h19) (
 bnd (eqI v3 (.int .i64 12)) fun b20 =>
 ifV (.bool b20) (
 bnd (ncV a0) fun v21 =>
 bnd (faV 0 v21) fun v22 =>
 bnd (faV 5 v22) fun v23 =>
 bnd (ldV 1 false v23 h) fun v24 =>
 ifV v24 (
 S338_j1 a0 a1 (.int .i64 2) h K ) (
 S338_j1 a0 a1 (.int .i64 1) h K )) (
 bnd (ncV a0) fun v25 =>
 bnd (faV 0 v25) fun v26 =>
 bnd (faV 2 v26) fun v27 =>
 bnd (ldV 1 false v27 h) fun v28 =>
 bnd (ncV a0) fun v29 =>
 bnd (faV 0 v29) fun v30 =>
 bnd (faV 0 v30) fun v31 =>
 bnd (ldV 2 true v31 h) fun v32 =>
 bnd (ncV a0) fun v33 =>
 bnd (faV 12 v33) fun v34 =>
 bnd (ldV 1 false v34 h) fun v35 =>
 T Tryz.prog 225 [(.iface 133 v32)] h fun v36 h37 =>
 ldV 1 false v34 h37 = some v35 ∧
 ldV 1 false v27 h37 = some v28 ∧
 T Tryz.prog 78 [v35] h37 fun v38 h39 =>
 ldV 1 false v27 h39 = some v28 ∧
 T Tryz.prog 209 [a1, v28, v36, v38] h39 fun v40 h41 =>
 T Tryz.prog 336 [a0, (.int .i64 11), (.int .i64 0)] h41 fun v42 h43 =>
 K (.tuple #[v42, (.bool true)]) h43)))
def A338 : Ann := ⟨fun | 6 => ([0, 1, 2, 3, 4, 5, 6, 7, 8, 9, 10], [0, 1, 3, 0, 0, 16, 48, 112, 255, 511, 1023]) | 11 => ([0, 1, 2, 3, 4, 5, 6, 7, 8, 9, 10, 11, 12, 13, 14, 15, 16, 17], [0, 0, 2, 6, 0, 0, 32, 96, 224, 0, 1022, 2046, 4094, 4094, 8191, 24575, 57343, 131071]) | 14 => ([0, 1, 2, 3, 4, 5, 6, 7, 8, 9, 10, 11, 13, 14, 15, 16, 12, 17, 18], [0, 0, 2, 6, 14, 30, 0, 64, 192, 448, 960, 1984, 4032, 0, 8192, 24576, 57344, 131008, 262143]) | _ => ([], []), fun _ => []⟩
theorem S338_T {a0 a1 : Value} {h : GH} {K : Value → GH → Prop} (g : S338 a0 a1 h K) : T Tryz.prog 338 [a0, a1] h K :=
  T_of_gwp (A := A338) Tryz.func338 (c := bodyOf Tryz.f338) (by kernel_rfl) (by kernel_rfl) (by kernel_rfl) (by kernel_rfl) (by kernel_rfl) (Eq.mp (by kernel_rfl) g)
def S339_j1 (x0 x8 : Value) (h : GH) (K : Value → GH → Prop)  : Prop :=
 bnd (eqK .iface true x8 .nilIface) fun b1 =>
 ifV (.bool b1) (
 K (.tuple #[.nilIface, (.bool false)]) h) (
 bnd (taV 178 (.int .i64 0) true x8) fun v2 =>
 bnd (exV v2 1) fun v3 =>
 bnd (exV v2 0) fun v4 =>
 ifV v3 (
 bnd (ncV x0) fun v5 =>
 bnd (faV 7 v5) fun v6 =>
 bnd (stV 1 v6 (.int .i64 9) h) fun h7 =>
 K (.tuple #[.nilIface, (.bool true)]) h7) (
 bnd (taV 277 (.agg #[(.int .i64 0), (.int .i64 0), (.int .i64 0), (.int .i64 0), (.int .i64 0)]) true x8) fun v8 =>
 bnd (exV v8 1) fun v9 =>
 bnd (exV v8 0) fun v10 =>
 ifV v9 (
 bnd (ncV x0) fun v11 =>
 bnd (faV 6 v11) fun v12 =>
 bnd (ldV 1 false v12 h) fun v13 =>
 T Tryz.prog 250 [x8, v13] h fun v14 h15 =>
 K (.tuple #[v14, (.bool true)]) h15) (
 bnd (taV 133 (.agg #[(.int .i64 0), (.int .i64 0)]) true x8) fun v16 =>
 bnd (exV v16 1) fun v17 =>
 bnd (exV v16 0) fun v18 =>
 ifV v17 (
 bnd (ncV x0) fun v19 =>
 bnd (faV 6 v19) fun v20 =>
 bnd (ldV 1 false v20 h) fun v21 =>
 T Tryz.prog 250 [x8, v21] h fun v22 h23 =>
 bnd (ncV x0) fun v24 =>
 bnd (faV 11 v24) fun v25 =>
 bnd (stV 1 v25 v22 h23) fun h26 =>
 bnd (ncV x0) fun v27 =>
 bnd (faV 7 v27) fun v28 =>
 bnd (stV 1 v28 (.int .i64 14) h26) fun h29 =>
 K (.tuple #[.nilIface, (.bool true)]) h29) (
 K (.tuple #[.nilIface, (.bool true)]) h))))
def S339 (a0 a1 : Value) (h : GH) (K : Value → GH → Prop) : Prop :=
 bnd (ncV a0) fun v1 =>
 bnd (faV 0 v1) fun v2 =>
 bnd (faV 0 v2) fun v3 =>
 bnd (ldV 2 true v3 h) fun v4 =>
 bnd (ncV a0) fun v5 =>
 bnd (faV 8 v5) fun v6 =>
 bnd (ldV 1 false v6 h) fun v7 =>
 bnd (ncV a0) fun v8 =>
 bnd (faV 6 v8) fun v9 =>
 bnd (ldV 1 false v9 h) fun v10 =>
 bnd (ncV v10) fun v11 =>
 bnd (faV 0 v11) fun v12 =>
 bnd (ldV 1 false v12 h) fun v13 =>
 bnd (ncV a0) fun v14 =>
 bnd (faV 6 v14) fun v15 =>
 bnd (ldV 1 false v15 h) fun v16 =>
 T Tryz.prog 327 [v16] h fun v17 h18 =>
 ldV 1 false v12 h18 = some v13 ∧
 ldV 1 false v9 h18 = some v10 ∧
 ldV 1 false v6 h18 = some v7 ∧
 ldV 2 true v3 h18 = some v4 ∧
 bnd (fillV [(.int .i64 0), (.int .i64 0), (.int .i64 0), (.int .i64 0), (.int .i64 0)] [(0, 2, v4), (2, 1, v7), (3, 1, v13), (4, 1, v17)]) fun c19 =>
 T Tryz.prog 225 [(.iface 277 (.agg c19.toArray))] h18 fun v20 h21 =>
 bnd (ncV a0) fun v22 =>
 bnd (faV 10 v22) fun v23 =>
 bnd (stV 1 v23 v20 h21) fun h24 =>
 bnd (ncV a0) fun v25 =>
 bnd (faV 0 v25) fun v26 =>
 bnd (faV 2 v26) fun v27 =>
 bnd (ldV 1 false v27 h24) fun v28 =>
 bnd (ncV a0) fun v29 =>
 bnd (faV 0 v29) fun v30 =>
 bnd (faV 3 v30) fun v31 =>
 bnd (ldV 1 false v31 h24) fun v32 =>
 bnd (ncV a0) fun v33 =>
 bnd (faV 10 v33) fun v34 =>
 bnd (ldV 1 false v34 h24) fun v35 =>
 T Tryz.prog 209 [a1, v28, v32, v35] h24 fun v36 h37 =>
 bnd (exV v36 0) fun v38 =>
 bnd (exV v36 1) fun v39 =>
 bnd (ncV a0) fun v40 =>
 bnd (faV 0 v40) fun v41 =>
 bnd (faV 3 v41) fun v42 =>
 bnd (ldV 1 false v42 h37) fun v43 =>
 bnd (eqI v38 v43) fun b44 =>
 ifV (.bool b44) (
 bnd (ncV a0) fun v45 =>
 bnd (faV 7 v45) fun v46 =>
 bnd (stV 1 v46 (.int .i64 6) h37) fun h47 =>
 K (.tuple #[.nilIface, (.bool true)]) h47) (
 T Tryz.prog 163 [v38] h37 fun v48 h49 =>
 bnd (taV 133 (.agg #[(.int .i64 0), (.int .i64 0)]) true v48) fun v50 =>
 bnd (exV v50 0) fun v51 =>
 bnd (exV v50 1) fun v52 =>
 newV 133 [(.int .i64 0), (.int .i64 0)] h49 fun v53 h54 =>
 bnd (stV 2 v53 v51 h54) fun h55 =>
 ifV v52 (
 bnd (ldV 2 true v53 h55) fun v56 =>
 bnd (ncV a0) fun v57 =>
 bnd (faV 0 v57) fun v58 =>
 bnd (faV 0 v58) fun v59 =>
 bnd (ldV 2 true v59 h55) fun v60 =>
 bnd (eqP Tryz.prog 10000 133 v56 v60) fun b61 =>
 ifV (.bool b61) (
 T Tryz.prog 336 [a0, (.int .i64 3), (.int .i64 8)] h55 fun v62 h63 =>
 K (.tuple #[.nilIface, (.bool true)]) h63) (
 S339_j1 a0 v48 h55 K )) (
 S339_j1 a0 v48 h55 K ))
def A339 : Ann := ⟨fun | 1 => ([0, 1, 2, 3, 4, 5, 6, 7, 8, 9, 10, 11, 12, 13, 14, 15, 16, 17, 18, 19, 20, 21, 22, 23, 24, 25, 26, 27], [0, 0, 2, 6, 14, 30, 0, 64, 192, 448, 0, 1024, 3072, 7168, 15360, 31744, 64512, 0, 131072, 393216, 917504, 1966080, 4194302, 8388606, 16777214, 33554431, 67108863, 134217727]) | 2 => ([0, 1, 2, 3, 4, 5, 6, 7, 8, 9, 10, 11, 12, 13, 14, 15, 16, 17, 18, 19, 20], [0, 0, 2, 6, 14, 30, 0, 64, 192, 448, 960, 0, 2048, 6144, 14336, 32767, 65535, 131071, 131071, 262143, 1048575]) | 8 => ([0, 1, 2, 3, 4, 5, 6, 7, 8, 9], [0, 1, 3, 3, 11, 27, 59, 123, 255, 511]) | _ => ([], []), fun _ => []⟩
theorem S339_T {a0 a1 : Value} {h : GH} {K : Value → GH → Prop} (g : S339 a0 a1 h K) : T Tryz.prog 339 [a0, a1] h K :=
  T_of_gwp (A := A339) Tryz.func339 (c := bodyOf Tryz.f339) (by kernel_rfl) (by kernel_rfl) (by kernel_rfl) (by kernel_rfl) (by kernel_rfl) (Eq.mp (by kernel_rfl) g)
def S340 (a0 a1 : Value) (h : GH) (K : Value → GH → Prop) : Prop :=
 bnd (ncV a0) fun v1 =>
 bnd (faV 0 v1) fun v2 =>
 T Tryz.prog 332 [v2, a1] h fun v3 h4 =>
 bnd (ncV a0) fun v5 =>
 bnd (faV 7 v5) fun v6 =>
 bnd (ldV 1 false v6 h4) fun v7 =>
 bnd (eqI v7 (.int .i64 14)) fun b8 =>
 bnd (ncV a0) fun v9 =>
 bnd (faV 0 v9) fun v10 =>
 bnd (faV 4 v10) fun v11 =>
 bnd (ldV 1 false v11 h4) fun v12 =>
 bnd (unV .not v12) fun v13 =>
 ifV v13 (
 bnd (ncV a0) fun v14 =>
 bnd (faV 7 v14) fun v15 =>
 bnd (stV 1 v15 (.int .i64 10) h4) fun h16 =>
 K (.tuple #[.nilIface, (.bool false), v3]) h16) (
 ifV (.bool b8) (
 bnd (ncV a0) fun v17 =>
 bnd (faV 7 v17) fun v18 =>
 bnd (stV 1 v18 (.int .i64 5) h4) fun h19 =>
 bnd (ncV a0) fun v20 =>
 bnd (faV 11 v20) fun v21 =>
 bnd (ldV 1 false v21 h19) fun v22 =>
 K (.tuple #[v22, (.bool false), v3]) h19) (
 bnd (ncV a0) fun v23 =>
 bnd (faV 7 v23) fun v24 =>
 bnd (stV 1 v24 (.int .i64 2) h4) fun h25 =>
 K (.tuple #[.nilIface, (.bool false), v3]) h25))
def A340 : Ann := ⟨fun _ => ([], []), fun _ => []⟩
theorem S340_T {a0 a1 : Value} {h : GH} {K : Value → GH → Prop} (g : S340 a0 a1 h K) : T Tryz.prog 340 [a0, a1] h K :=
  T_of_gwp (A := A340) Tryz.func340 (c := bodyOf Tryz.f340) (by kernel_rfl) (by kernel_rfl) (by kernel_rfl) (by kernel_rfl) (by kernel_rfl) (Eq.mp (by kernel_rfl) g)
def S341 (a0 a1 : Value) (h : GH) (K : Value → GH → Prop) : Prop :=
 bnd (ncV a0) fun v1 =>
 bnd (faV 0 v1) fun v2 =>
 T Tryz.prog 335 [v2, a1, (.int .i64 1), (.int .i64 16)] h fun v3 h4 =>
 bnd (exV v3 0) fun v5 =>
 bnd (exV v3 1) fun v6 =>
 bnd (ncV a0) fun v7 =>
 bnd (faV 9 v7) fun v8 =>
 bnd (stV 1 v8 v5 h4) fun h9 =>
 bnd (ncV a0) fun v10 =>
 bnd (faV 8 v10) fun v11 =>
 bnd (stV 1 v11 (.int .i64 0) h9) fun h12 =>
 bnd (ncV a0) fun v13 =>
 bnd (faV 7 v13) fun v14 =>
 bnd (ldV 1 false v14 h12) fun v15 =>
 bnd (binV .add v15 (.int .i64 1)) fun v16 =>
 bnd (ncV a0) fun v17 =>
 bnd (faV 7 v17) fun v18 =>
 bnd (stV 1 v18 v16 h12) fun h19 =>
 bnd (eqI v5 (.int .i64 0)) fun b20 =>
 K (.tuple #[(.bool b20), v6]) h19
def A341 : Ann := ⟨fun _ => ([], []), fun _ => []⟩
theorem S341_T {a0 a1 : Value} {h : GH} {K : Value → GH → Prop} (g : S341 a0 a1 h K) : T Tryz.prog 341 [a0, a1] h K :=
  T_of_gwp (A := A341) Tryz.func341 (c := bodyOf Tryz.f341) (by kernel_rfl) (by kernel_rfl) (by kernel_rfl) (by kernel_rfl) (by kernel_rfl) (Eq.mp (by kernel_rfl) g)
def S342 (a0 a1 a2 : Value) (h : GH) (K : Value → GH → Prop) : Prop :=
 bnd (ncV a0) fun v1 =>
 bnd (faV 0 v1) fun v2 =>
 bnd (faV 0 v2) fun v3 =>
 bnd (faV 0 v3) fun v4 =>
 bnd (ldV 1 false v4 h) fun v5 =>
 bnd (ncV a0) fun v6 =>
 bnd (faV 0 v6) fun v7 =>
 bnd (faV 0 v7) fun v8 =>
 bnd (faV 1 v8) fun v9 =>
 bnd (ldV 1 false v9 h) fun v10 =>
 bnd (ncV a0) fun v11 =>
 bnd (faV 0 v11) fun v12 =>
 bnd (faV 0 v12) fun v13 =>
 bnd (faV 1 v13) fun v14 =>
 bnd (ldV 1 false v14 h) fun v15 =>
 T Tryz.prog 137 [v5] h fun v16 h17 =>
 ldV 1 false v14 h17 = some v15 ∧
 ldV 1 false v9 h17 = some v10 ∧
 T Tryz.prog 138 [v10, (.int .i64 0)] h17 fun v18 h19 =>
 ldV 1 false v14 h19 = some v15 ∧
 T Tryz.prog 138 [v15, a2] h19 fun v20 h21 =>
 T Tryz.prog 209 [a1, v16, v18, v20] h21 fun v22 h23 =>
 bnd (ncV a0) fun v24 =>
 bnd (faV 7 v24) fun v25 =>
 bnd (stV 1 v25 (.int .i64 1) h23) fun h26 =>
 K (.tuple #[]) h26
def A342 : Ann := ⟨fun | 0 => ([0, 1, 2, 3, 4, 5, 6, 8, 9, 10, 11, 12, 13, 15, 16, 17, 18, 19, 20, 21, 7, 14, 22, 23], [0, 0, 2, 6, 14, 30, 62, 126, 0, 256, 768, 1792, 3840, 7936, 16382, 0, 32768, 98304, 229376, 491520, 1015808, 0, 4194302, 8388607]) | _ => ([], []), fun _ => []⟩
theorem S342_T {a0 a1 a2 : Value} {h : GH} {K : Value → GH → Prop} (g : S342 a0 a1 a2 h K) : T Tryz.prog 342 [a0, a1, a2] h K :=
  T_of_gwp (A := A342) Tryz.func342 (c := bodyOf Tryz.f342) (by kernel_rfl) (by kernel_rfl) (by kernel_rfl) (by kernel_rfl) (by kernel_rfl) (Eq.mp (by kernel_rfl) g)
def S16_j4 (s1 : Nat → Value) (x1 x5 x7 x8 x9 x12 : Value) (h : GH) (K : Value → GH → Prop) (again3 : (Nat → Value) → GH → Prop) : Prop :=
 Lfp (fun (s4 : Nat → Value) h5 again6 =>
 bnd (lnV (s4 2)) fun v7 =>
 bnd (binV .lss (s4 6) v7) fun v8 =>
 ifV v8 (
 bnd (isV 8 (s4 2) (s4 6)) fun v9 =>
 bnd (faV 4 v9) fun v10 =>
 bnd (ldV 1 false v10 h5) fun v11 =>
 bnd (binV .lss v11 (.int .i64 0)) fun v12 =>
 ifV v12 (
 bnd (binV .add (s4 6) (.int .i64 1)) fun v13 =>
 again6 (tup [(s4 0), (s4 1), (s4 2), (s4 3), (s4 4), (s4 5), v13]) h5) (
 Lfp (fun (s14 : Nat → Value) h15 again16 =>
 bnd (lnV (s14 5)) fun v17 =>
 bnd (binV .lss (s14 8) v17) fun v18 =>
 ifV v18 (
 ifV (s14 7) (
 bnd (binV .add (s14 8) (.int .i64 1)) fun v19 =>
 again16 (tup [(s14 0), (s14 1), (s14 2), (s14 3), (s14 4), (s14 5), (s14 6), (.bool true), v19]) h15) (
 bnd (isV 8 (s14 2) (s14 6)) fun v20 =>
 bnd (ldV 8 true v20 h15) fun v21 =>
 bnd (isV 8 (s14 5) (s14 8)) fun v22 =>
 bnd (ldV 8 true v22 h15) fun v23 =>
 T Tryz.prog 68 [v21, v23] h15 fun v24 h25 =>
 bnd (binV .add (s14 8) (.int .i64 1)) fun v26 =>
 again16 (tup [(s14 0), (s14 1), (s14 2), (s14 3), (s14 4), (s14 5), (s14 6), v24, v26]) h25)) (
 bnd (unV .not (s14 7)) fun v27 =>
 ifV v27 (
 K (.bool false) h15) (
 bnd (binV .add (s14 6) (.int .i64 1)) fun v28 =>
 again6 (tup [(s14 0), (s14 1), (s14 2), (s14 3), (s14 4), (s14 5), v28]) h15))) (tup [(s4 0), (s4 1), (s4 2), (s4 3), (s4 4), (s4 5), (s4 6), (.bool false), (.int .i64 0)]) h5)) (
 bnd (binV .add (s4 4) (.int .i64 1)) fun v29 =>
 again3 (tup [(s4 0), (s4 1), (s4 5), (s4 3), v29]) h5)) (tup [x1, x5, x7, x8, x9, x12, (.int .i64 0)]) h
def S16_j3 (s1 : Nat → Value) (x1 x5 x7 x8 x9 x12 x13 : Value) (h : GH) (K : Value → GH → Prop) (again3 : (Nat → Value) → GH → Prop) : Prop :=
 bnd (lnV x13) fun v1 =>
 bnd (eqI v1 x8) fun b2 =>
 ifV (.bool (!b2)) (
 K (.bool false) h) (
 bnd (lnV x12) fun v3 =>
 bnd (lnV x7) fun v4 =>
 bnd (binV .lss v3 v4) fun v5 =>
 ifV v5 (
 K (.bool false) h) (
 bnd (lnV x12) fun v6 =>
 bnd (lnV x7) fun v7 =>
 bnd (binV .add v7 (.int .i64 1)) fun v8 =>
 bnd (binV .gtr v6 v8) fun v9 =>
 ifV v9 (
 K (.bool false) h) (
 S16_j4 s1 x1 x5 x7 x8 x9 x12 h K again3)))
def S16_j2 (s1 : Nat → Value) (x1 x5 x7 x8 x9 : Value) (h : GH) (K : Value → GH → Prop) (again3 : (Nat → Value) → GH → Prop) : Prop :=
 bnd (isV 1 x1 x9) fun v1 =>
 bnd (ldV 1 false v1 h) fun v2 =>
 T Tryz.prog 48 [x5, v2] h fun v3 h4 =>
 bnd (exV v3 0) fun v5 =>
 bnd (exV v3 1) fun v6 =>
 T Tryz.prog 53 [x5] h4 fun v7 h8 =>
 T Tryz.prog 49 [x5] h8 fun v9 h10 =>
 ifV v5 (
 bnd (binV .add x8 (.int .i64 1)) fun v11 =>
 S16_j3 s1 x1 x5 x7 v11 x9 v7 v9 h10 K again3) (
 S16_j3 s1 x1 x5 x7 x8 x9 v7 v9 h10 K again3)
def S16_j1 (x1 x5 : Value) (h : GH) (K : Value → GH → Prop)  : Prop :=
 Lfp (fun (s1 : Nat → Value) h2 again3 =>
 bnd (lnV (s1 0)) fun v4 =>
 bnd (binV .lss (s1 4) v4) fun v5 =>
 ifV v5 (
 bnd (binV .lss (s1 4) (.int .i64 200)) fun v6 =>
 ifV v6 (
 S16_j2 s1 (s1 0) (s1 1) (s1 2) (s1 3) (s1 4) h2 K again3) (
 K (.bool true) h2)) (
 K (.bool true) h2)) (tup [x1, x5, (.slice none 0 0), (.int .i64 0), (.int .i64 0)]) h
def S16 (a0 a1 : Value) (h : GH) (K : Value → GH → Prop) : Prop :=
 newV 67 (a0 : Value).cells.toList h fun v1 h2 =>
 T Tryz.prog 56 [] h2 fun v3 h4 =>
 bnd (unV .not v3) fun v5 =>
 ifV v5 (
 K (.bool false) h4) (
 bnd (ldV 3 true v1 h4) fun v6 =>
 T Tryz.prog 47 [v6] h4 fun v7 h8 =>
 bnd (exV v7 0) fun v9 =>
 bnd (exV v7 1) fun v10 =>
 T Tryz.prog 30 [v10] h8 fun v11 h12 =>
 bnd (eqI v11 (.int .i64 0)) fun b13 =>
 ifV (.bool (!b13)) (
 bnd (eqK .ptr true v9 (.pointer none)) fun b14 =>
 K (.bool b14) h12) (
 bnd (eqK .ptr true v9 (.pointer none)) fun b15 =>
 ifV (.bool b15) (
 bnd (eqK .ptr true v9 (.pointer none)) fun b16 =>
 K (.bool b16) h12) (
 S16_j1 a1 v9 h12 K )))
def A16 : Ann := ⟨fun | 25 => ([0, 1, 2, 3, 4, 5, 6, 7, 8, 9, 10, 11, 12], [0, 1, 3, 3, 15, 31, 3, 3, 195, 451, 1023, 2047, 4095]) | _ => ([], []), fun | 0 => [1, 5, 7, 8, 9] | 2 => [1, 5, 7, 8, 9, 12, 14] | 4 => [1, 5, 7, 8, 9, 12, 14, 15, 16] | _ => []⟩
theorem S16_T {a0 a1 : Value} {h : GH} {K : Value → GH → Prop} (g : S16 a0 a1 h K) : T Tryz.prog 16 [a0, a1] h K :=
  T_of_gwp (A := A16) Tryz.func16 (c := bodyOf Tryz.f16) (by kernel_rfl) (by kernel_rfl) (by kernel_rfl) (by kernel_rfl) (by kernel_rfl) (Eq.mp (by kernel_rfl) g)
end Go.Proofs.YtfphpafkhljncaaGreat
