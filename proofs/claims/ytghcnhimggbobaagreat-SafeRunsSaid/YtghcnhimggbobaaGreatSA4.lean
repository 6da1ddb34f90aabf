/- Several texts in one; nothing here is a statement on the program. -/
import Derived.Test.YtghcnhimggbobaaGreatSA2
import Derived.Test.YtghcnhimggbobaaGreatProg
import Derived.KernelRfl
set_option linter.unusedVariables false
set_option linter.unusedSimpArgs false
namespace Go.Proofs.YtghcnhimggbobaaGreat
open Go GW Go.Proofs
set_option maxRecDepth 100000
def S64 (a0 a1 a2 a3 : Value) (h : GH) (K : Value → GH → Prop) : Prop :=
 bnd (eqK .ptr true a0 (.pointer none)) fun b1 =>
 ifV (.bool b1) (
 K (.tuple #[(.int .i64 0), (.int .i64 1)]) h) (
 T Tryz.prog 13 [a2, (.int .i64 634)] h fun v2 h3 =>
 bnd (unV .not v2) fun v4 =>
 ifV v4 (
 K (.tuple #[(.int .i64 0), (.int .i64 200)]) h3) (
 bnd (ncV a0) fun v5 =>
 bnd (faV 0 v5) fun v6 =>
 bnd (iaV 634 1 v6 a2) fun v7 =>
 bnd (ldV 1 false v7 h3) fun v8 =>
 bnd (ncV a0) fun v9 =>
 bnd (faV 0 v9) fun v10 =>
 callV Tryz.prog a3 [v8] h3 fun v11 h12 =>
 bnd (iaV 634 1 v10 a2) fun v13 =>
 bnd (stV 1 v13 v11 h12) fun h14 =>
 bnd (ncV a0) fun v15 =>
 bnd (faV 0 v15) fun v16 =>
 bnd (iaV 634 1 v16 a2) fun v17 =>
 bnd (ldV 1 false v17 h14) fun v18 =>
 bnd (fillV [(.int .i64 0), (.int .i64 0), (.int .i64 0), (.int .i64 0), (.int .i64 0), (.int .i64 0), (.int .i64 0), (.int .i64 0)] [(1, 1, a1), (2, 1, a2), (3, 1, v8), (4, 1, v18)]) fun c19 =>
 bnd (ncV a0) fun v20 =>
 bnd (faV 634 v20) fun v21 =>
 bnd (stV 8 v21 (.agg c19.toArray) h14) fun h22 =>
 bnd (ncV a0) fun v23 =>
 bnd (faV 642 v23) fun v24 =>
 bnd (stV 1 v24 (.bool true) h22) fun h25 =>
 K (.tuple #[v8, (.int .i64 0)]) h25))
def A64 : Ann := ⟨fun | 6 => ([0, 1, 2, 3, 5, 6, 4, 7, 8], [0, 0, 0, 0, 12, 1, 33, 127, 255]) | _ => ([], []), fun _ => []⟩
theorem S64_T {a0 a1 a2 a3 : Value} {h : GH} {K : Value → GH → Prop} (g : S64 a0 a1 a2 a3 h K) : T Tryz.prog 64 [a0, a1, a2, a3] h K :=
  T_of_gwp (A := A64) Tryz.func64 (c := bodyOf Tryz.f64) (by kernel_rfl) (by kernel_rfl) (by kernel_rfl) (by kernel_rfl) (by kernel_rfl) (Eq.mp (by kernel_rfl) g)
def S65 (a0 a1 : Value) (h : GH) (K : Value → GH → Prop) : Prop :=
 bnd (ldV 1 false a1 h) fun v1 =>
 K v1 h
def A65 : Ann := ⟨fun _ => ([], []), fun _ => []⟩
theorem S65_T {a0 a1 : Value} {h : GH} {K : Value → GH → Prop} (g : S65 a0 a1 h K) : T Tryz.prog 65 [a0, a1] h K :=
  T_of_gwp (A := A65) Tryz.func65 (c := bodyOf Tryz.f65) (by kernel_rfl) (by kernel_rfl) (by kernel_rfl) (by kernel_rfl) (by kernel_rfl) (Eq.mp (by kernel_rfl) g)
def S66 (a0 : Value) (h : GH) (K : Value → GH → Prop) : Prop :=
 K a0 h
def A66 : Ann := ⟨fun _ => ([], []), fun _ => []⟩
theorem S66_T {a0 : Value} {h : GH} {K : Value → GH → Prop} (g : S66 a0 h K) : T Tryz.prog 66 [a0] h K :=
  T_of_gwp (A := A66) Tryz.func66 (c := bodyOf Tryz.f66) (by kernel_rfl) (by kernel_rfl) (by kernel_rfl) (by kernel_rfl) (by kernel_rfl) (Eq.mp (by kernel_rfl) g)
def S67_j1 (x0 x1 x2 x3 x4 x12 : Value) (h : GH) (K : Value → GH → Prop)  : Prop :=
 bnd (fillV [(.int .i64 0), (.int .i64 0)] [(0, 1, x2), (1, 1, x3)]) fun c1 =>
 bnd (ldV 50 true x12 h) fun v2 =>
 T Tryz.prog 19 [x4] h fun v3 h4 =>
 ldV 50 true x12 h4 = some v2 ∧
 bnd (fillV ([(.int .i64 0), (.int .i64 0), (.int .i64 0), (.int .i64 0), (.slice none 0 0), (.int .i64 0)] ++ List.replicate 16 (.bool false) ++ List.replicate 32 (.int .i64 0) ++ [(.slice none 0 0), .nilIface, (.int .i64 0), (.int .i64 0), (.bool false), (.bool false), (.slice none 0 0)]) [(0, 1, x0), (1, 1, x1), (2, 2, (.agg c1.toArray)), (4, 1, v3), (5, 50, v2), (56, 1, (.int .i64 (-1)))]) fun c5 =>
 newV 170 ((.agg c5.toArray) : Value).cells.toList h4 fun v6 h7 =>
 T Tryz.prog 82 [v6] h7 fun v8 h9 =>
 bnd (ncV v6) fun v10 =>
 bnd (faV 55 v10) fun v11 =>
 bnd (stV 1 v11 v8 h9) fun h12 =>
 K (.tuple #[v6, (.int .i64 0)]) h12
def S67 (a0 a1 a2 a3 a4 : Value) (h : GH) (K : Value → GH → Prop) : Prop :=
 bnd (fillV (List.replicate 16 (.bool false) ++ List.replicate 32 (.int .i64 0)) []) fun c1 =>
 T Tryz.prog 80 [(.agg c1.toArray), a4] h fun v2 h3 =>
 bnd (exV v2 0) fun v4 =>
 bnd (exV v2 1) fun v5 =>
 newV 164 ([(.int .i64 0)] ++ List.replicate 16 (.bool false) ++ List.replicate 32 (.int .i64 0) ++ [(.slice none 0 0)]) h3 fun v6 h7 =>
 bnd (stV 50 v6 v4 h7) fun h8 =>
 T Tryz.prog 34 [a0] h8 fun v9 h10 =>
 bnd (unV .not v9) fun v11 =>
 ifV v11 (
 K (.tuple #[(.pointer none), (.int .i64 1700)]) h10) (
 T Tryz.prog 13 [a1, (.int .i64 1048576)] h10 fun v12 h13 =>
 bnd (unV .not v12) fun v14 =>
 ifV v14 (
 K (.tuple #[(.pointer none), (.int .i64 1700)]) h13) (
 T Tryz.prog 81 [a2, a3] h13 fun v15 h16 =>
 bnd (unV .not v15) fun v17 =>
 ifV v17 (
 K (.tuple #[(.pointer none), (.int .i64 1700)]) h16) (
 bnd (eqI v5 (.int .i64 0)) fun b18 =>
 ifV (.bool (!b18)) (
 K (.tuple #[(.pointer none), (.int .i64 1700)]) h16) (
 S67_j1 a0 a1 a2 a3 a4 v6 h16 K ))))
def A67 : Ann := ⟨fun | 4 => ([0, 1, 2, 3, 4, 5, 7, 6, 8, 9, 10], [0, 0, 0, 0, 12, 0, 32, 0, 255, 511, 1023]) | _ => ([], []), fun _ => []⟩
theorem S67_T {a0 a1 a2 a3 a4 : Value} {h : GH} {K : Value → GH → Prop} (g : S67 a0 a1 a2 a3 a4 h K) : T Tryz.prog 67 [a0, a1, a2, a3, a4] h K :=
  T_of_gwp (A := A67) Tryz.func67 (c := bodyOf Tryz.f67) (by kernel_rfl) (by kernel_rfl) (by kernel_rfl) (by kernel_rfl) (by kernel_rfl) (Eq.mp (by kernel_rfl) g)
def S68_j3 (x0 x6 x7 : Value) (h : GH) (K : Value → GH → Prop)  : Prop :=
 bnd (eqI x7 (.int .i64 0)) fun b1 =>
 ifV (.bool (!b1)) (
 bnd (ncV x0) fun v2 =>
 bnd (faV 59 v2) fun v3 =>
 bnd (stV 1 v3 (.bool true) h) fun h4 =>
 K (.tuple #[(.bool true), (.int .i64 1700)]) h4) (
 bnd (unV .not x6) fun v5 =>
 ifV v5 (
 K (.tuple #[(.bool false), (.int .i64 0)]) h) (
 bnd (ncV x0) fun v6 =>
 bnd (faV 55 v6) fun v7 =>
 bnd (ldV 1 false v7 h) fun v8 =>
 bnd (taV 175 (.pointer none) true v8) fun v9 =>
 bnd (exV v9 1) fun v10 =>
 bnd (exV v9 0) fun v11 =>
 ifV v10 (
 T Tryz.prog 83 [x0, v11] h fun v12 h13 =>
 bnd (ncV x0) fun v14 =>
 bnd (faV 59 v14) fun v15 =>
 bnd (ldV 1 false v15 h13) fun v16 =>
 K (.tuple #[v16, (.int .i64 0)]) h13) (
 bnd (taV 177 (.pointer none) true v8) fun v17 =>
 bnd (exV v17 1) fun v18 =>
 bnd (exV v17 0) fun v19 =>
 ifV v18 (
 bnd (ncV x0) fun v20 =>
 bnd (faV 0 v20) fun v21 =>
 bnd (ldV 1 false v21 h) fun v22 =>
 bnd (ncV x0) fun v23 =>
 bnd (faV 1 v23) fun v24 =>
 bnd (ldV 1 false v24 h) fun v25 =>
 bnd (ncV x0) fun v26 =>
 bnd (faV 2 v26) fun v27 =>
 bnd (ldV 2 true v27 h) fun v28 =>
 T Tryz.prog 85 [(.iface 75 v28)] h fun v29 h30 =>
 ldV 1 false v24 h30 = some v25 ∧
 ldV 1 false v21 h30 = some v22 ∧
 T Tryz.prog 84 [v22, v25, v29] h30 fun v31 h32 =>
 bnd (exV v31 0) fun v33 =>
 bnd (exV v31 1) fun v34 =>
 bnd (ncV x0) fun v35 =>
 bnd (faV 55 v35) fun v36 =>
 bnd (stV 1 v36 (.iface 178 v33) h32) fun h37 =>
 bnd (ncV x0) fun v38 =>
 bnd (faV 59 v38) fun v39 =>
 bnd (ldV 1 false v39 h37) fun v40 =>
 K (.tuple #[v40, (.int .i64 0)]) h37) (
 bnd (taV 178 (.pointer none) true v8) fun v41 =>
 bnd (exV v41 1) fun v42 =>
 bnd (exV v41 0) fun v43 =>
 ifV v42 (
 T Tryz.prog 86 [v43] h fun v44 h45 =>
 bnd (ncV x0) fun v46 =>
 bnd (faV 58 v46) fun v47 =>
 bnd (stV 1 v47 v44 h45) fun h48 =>
 bnd (ncV x0) fun v49 =>
 bnd (faV 59 v49) fun v50 =>
 bnd (stV 1 v50 (.bool true) h48) fun h51 =>
 bnd (ncV x0) fun v52 =>
 bnd (faV 59 v52) fun v53 =>
 bnd (ldV 1 false v53 h51) fun v54 =>
 K (.tuple #[v54, (.int .i64 0)]) h51) (
 bnd (ncV x0) fun v55 =>
 bnd (faV 59 v55) fun v56 =>
 bnd (ldV 1 false v56 h) fun v57 =>
 K (.tuple #[v57, (.int .i64 0)]) h)))))
def S68_j2 (x0 x1 : Value) (h : GH) (K : Value → GH → Prop)  : Prop :=
 bnd (ncV x0) fun v1 =>
 bnd (faV 55 v1) fun v2 =>
 bnd (ldV 1 false v2 h) fun v3 =>
 ivV Tryz.prog v3 "Step" [x1] h fun v4 h5 =>
 bnd (exV v4 0) fun v6 =>
 bnd (exV v4 1) fun v7 =>
 bnd (ncV x0) fun v8 =>
 bnd (faV 2 v8) fun v9 =>
 bnd (faV 0 v9) fun v10 =>
 bnd (ldV 1 false v10 h5) fun v11 =>
 bnd (ncV x0) fun v12 =>
 bnd (faV 2 v12) fun v13 =>
 bnd (faV 1 v13) fun v14 =>
 bnd (ldV 1 false v14 h5) fun v15 =>
 bnd (ncV x0) fun v16 =>
 bnd (faV 56 v16) fun v17 =>
 bnd (stV 1 v17 v11 h5) fun h18 =>
 bnd (ncV x0) fun v19 =>
 bnd (faV 57 v19) fun v20 =>
 bnd (stV 1 v20 v15 h18) fun h21 =>
 bnd (ncV x0) fun v22 =>
 bnd (faV 55 v22) fun v23 =>
 bnd (ldV 1 false v23 h21) fun v24 =>
 bnd (tiV Tryz.prog #[("Seq", 96), ("Step", 111), ("Through", 88)] .nilIface true v24) fun v25 =>
 bnd (exV v25 0) fun v26 =>
 bnd (exV v25 1) fun v27 =>
 ifV v27 (
 ivV Tryz.prog v26 "Through" [] h21 fun v28 h29 =>
 bnd (exV v28 0) fun v30 =>
 bnd (exV v28 1) fun v31 =>
 bnd (ncV x0) fun v32 =>
 bnd (faV 56 v32) fun v33 =>
 bnd (stV 1 v33 v30 h29) fun h34 =>
 bnd (ncV x0) fun v35 =>
 bnd (faV 57 v35) fun v36 =>
 bnd (stV 1 v36 v31 h34) fun h37 =>
 ivV Tryz.prog v26 "Seq" [] h37 fun v38 h39 =>
 bnd (ncV x0) fun v40 =>
 bnd (faV 1 v40) fun v41 =>
 bnd (stV 1 v41 v38 h39) fun h42 =>
 S68_j3 x0 v6 v7 h42 K ) (
 S68_j3 x0 v6 v7 h21 K )
def S68_j1 (x0 x1 x15 : Value) (h : GH) (K : Value → GH → Prop)  : Prop :=
 ifV x15 (
 K (.tuple #[(.bool false), (.int .i64 1)]) h) (
 bnd (ncV x0) fun v1 =>
 bnd (faV 59 v1) fun v2 =>
 bnd (ldV 1 false v2 h) fun v3 =>
 ifV v3 (
 K (.tuple #[(.bool true), (.int .i64 0)]) h) (
 S68_j2 x0 x1 h K ))
def S68 (a0 a1 : Value) (h : GH) (K : Value → GH → Prop) : Prop :=
 bnd (eqK .ptr true a0 (.pointer none)) fun b1 =>
 ifV (.bool b1) (
 S68_j1 a0 a1 (.bool true) h K ) (
 bnd (eqK .ptr true a1 (.pointer none)) fun b2 =>
 S68_j1 a0 a1 (.bool b2) h K )
def A68 : Ann := ⟨fun | 6 => ([0, 1, 2, 3, 4, 5, 6, 7, 8, 9, 10, 11, 12, 13, 14, 15, 16, 17], [0, 0, 0, 4, 12, 28, 60, 0, 128, 384, 896, 1920, 4093, 8189, 16381, 32767, 65535, 131071]) | 22 => ([0, 1, 2, 3, 4, 5, 6, 7, 8, 9, 10, 11, 12, 13, 14, 15, 16, 17, 18, 19], [0, 1, 3, 7, 0, 16, 48, 112, 0, 256, 768, 1792, 3840, 7936, 16383, 32767, 65535, 65535, 131071, 524287]) | _ => ([], []), fun _ => []⟩
theorem S68_T {a0 a1 : Value} {h : GH} {K : Value → GH → Prop} (g : S68 a0 a1 h K) : T Tryz.prog 68 [a0, a1] h K :=
  T_of_gwp (A := A68) Tryz.func68 (c := bodyOf Tryz.f68) (by kernel_rfl) (by kernel_rfl) (by kernel_rfl) (by kernel_rfl) (by kernel_rfl) (Eq.mp (by kernel_rfl) g)
def S69 (a0 : Value) (h : GH) (K : Value → GH → Prop) : Prop :=
 bnd (eqK .ptr true a0 (.pointer none)) fun b1 =>
 ifV (.bool b1) (
 K (.tuple #[(.int .i64 0), (.int .i64 0)]) h) (
 bnd (ncV a0) fun v2 =>
 bnd (faV 56 v2) fun v3 =>
 bnd (ldV 1 false v3 h) fun v4 =>
 bnd (ncV a0) fun v5 =>
 bnd (faV 57 v5) fun v6 =>
 bnd (ldV 1 false v6 h) fun v7 =>
 K (.tuple #[v4, v7]) h)
def A69 : Ann := ⟨fun | 3 => ([0, 1, 2, 3, 4, 5, 6, 7, 8, 9], [0, 1, 3, 7, 0, 16, 48, 112, 15, 511]) | _ => ([], []), fun _ => []⟩
theorem S69_T {a0 : Value} {h : GH} {K : Value → GH → Prop} (g : S69 a0 h K) : T Tryz.prog 69 [a0] h K :=
  T_of_gwp (A := A69) Tryz.func69 (c := bodyOf Tryz.f69) (by kernel_rfl) (by kernel_rfl) (by kernel_rfl) (by kernel_rfl) (by kernel_rfl) (Eq.mp (by kernel_rfl) g)
def S70 (a0 : Value) (h : GH) (K : Value → GH → Prop) : Prop :=
 bnd (eqK .ptr true a0 (.pointer none)) fun b1 =>
 ifV (.bool b1) (
 K (.int .i64 0) h) (
 bnd (ncV a0) fun v2 =>
 bnd (faV 1 v2) fun v3 =>
 bnd (ldV 1 false v3 h) fun v4 =>
 K v4 h)
def A70 : Ann := ⟨fun _ => ([], []), fun _ => []⟩
theorem S70_T {a0 : Value} {h : GH} {K : Value → GH → Prop} (g : S70 a0 h K) : T Tryz.prog 70 [a0] h K :=
  T_of_gwp (A := A70) Tryz.func70 (c := bodyOf Tryz.f70) (by kernel_rfl) (by kernel_rfl) (by kernel_rfl) (by kernel_rfl) (by kernel_rfl) (Eq.mp (by kernel_rfl) g)
def S71 (a0 : Value) (h : GH) (K : Value → GH → Prop) : Prop :=
 bnd (ncV a0) fun v1 =>
 bnd (faV 0 v1) fun v2 =>
 bnd (ldV 1 false v2 h) fun v3 =>
 bnd (ncV a0) fun v4 =>
 bnd (faV 1 v4) fun v5 =>
 bnd (ldV 1 false v5 h) fun v6 =>
 T Tryz.prog 51 [v6, (.int .i64 29)] h fun v7 h8 =>
 bnd (exV v7 0) fun v9 =>
 bnd (exV v7 1) fun v10 =>
 T Tryz.prog 52 [v9] h8 fun v11 h12 =>
 bnd (exV v11 0) fun v13 =>
 bnd (exV v11 1) fun v14 =>
 bnd (unV .not v14) fun v15 =>
 ifV v15 (
 K (.int .i64 1800) h12) (
 bnd (ncV v3) fun v16 =>
 bnd (faV 12 v16) fun v17 =>
 bnd (ldV 1 false v17 h12) fun v18 =>
 bnd (ncV v3) fun v19 =>
 bnd (faV 14 v19) fun v20 =>
 bnd (ldV 1 false v20 h12) fun v21 =>
 bnd (fillV [(.int .i64 0), (.int .i64 0)] [(0, 1, v21), (1, 1, v13)]) fun c22 =>
 bsV 122 1 [(.int .i64 0), (.int .i64 0)] [(0, 2, (.agg c22.toArray))] h12 fun v23 h24 =>
 apV 122 2 16 v18 v23 h24 fun v25 h26 =>
 bnd (ncV v3) fun v27 =>
 bnd (faV 12 v27) fun v28 =>
 bnd (stV 1 v28 v25 h26) fun h29 =>
 bnd (ncV v3) fun v30 =>
 bnd (faV 14 v30) fun v31 =>
 bnd (stV 1 v31 (.int .i64 (-1)) h29) fun h32 =>
 bnd (ncV v3) fun v33 =>
 bnd (faV 6 v33) fun v34 =>
 bnd (stV 1 v34 (.func (.func 59) #[] #[]) h32) fun h35 =>
 bnd (ncV v3) fun v36 =>
 bnd (faV 18 v36) fun v37 =>
 bnd (ldV 1 false v37 h35) fun v38 =>
 T Tryz.prog 87 [v38] h35 fun v39 h40 =>
 ifV v39 (
 bnd (ncV v3) fun v41 =>
 bnd (faV 20 v41) fun v42 =>
 bnd (stV 1 v42 (.int .i64 0) h40) fun h43 =>
 K (.int .i64 0) h43) (
 K (.int .i64 0) h40))
def A71 : Ann := ⟨fun | 6 => ([0, 1, 2, 3, 4, 5, 6, 7, 8, 9, 10, 11, 12, 13, 14, 15], [0, 0, 2, 6, 14, 0, 32, 96, 224, 0, 992, 2016, 4094, 8191, 16383, 32767]) | _ => ([], []), fun _ => []⟩
theorem S71_T {a0 : Value} {h : GH} {K : Value → GH → Prop} (g : S71 a0 h K) : T Tryz.prog 71 [a0] h K :=
  T_of_gwp (A := A71) Tryz.func71 (c := bodyOf Tryz.f71) (by kernel_rfl) (by kernel_rfl) (by kernel_rfl) (by kernel_rfl) (by kernel_rfl) (Eq.mp (by kernel_rfl) g)
def S72 (a0 a1 : Value) (h : GH) (K : Value → GH → Prop) : Prop :=
 bnd (ldV 1 false a0 h) fun v1 =>
 bnd (ncV v1) fun v2 =>
 bnd (faV 0 v2) fun v3 =>
 bnd (faV 0 v3) fun v4 =>
 bnd (ldV 1 false v4 h) fun v5 =>
 bnd (eqI v5 (.int .i64 0)) fun b6 =>
 ifV (.bool b6) (
 bnd (ldV 1 false a0 h) fun v7 =>
 bnd (ncV v7) fun v8 =>
 bnd (faV 0 v8) fun v9 =>
 bnd (ldV 1 false a1 h) fun v10 =>
 T Tryz.prog 62 [v9, v10] h fun v11 h12 =>
 bnd (ldV 1 false a0 h12) fun v13 =>
 bnd (ldV 1 false a0 h12) fun v14 =>
 bnd (ncV v14) fun v15 =>
 bnd (faV 0 v15) fun v16 =>
 bnd (faV 2 v16) fun v17 =>
 bnd (faV 1 v17) fun v18 =>
 bnd (ldV 1 false v18 h12) fun v19 =>
 bnd (eqI v19 (.int .i64 0)) fun b20 =>
 bnd (ncV v13) fun v21 =>
 bnd (faV 0 v21) fun v22 =>
 bnd (faV 4 v22) fun v23 =>
 bnd (stV 1 v23 (.bool b20) h12) fun h24 =>
 bnd (unV .not v11) fun v25 =>
 ifV v25 (
 K (.int .i64 1000) h24) (
 K (.int .i64 0) h24)) (
 bnd (eqI v5 (.int .i64 1)) fun b26 =>
 ifV (.bool b26) (
 bnd (ldV 1 false a1 h) fun v27 =>
 bnd (ldV 1 false a0 h) fun v28 =>
 bnd (ncV v28) fun v29 =>
 bnd (faV 0 v29) fun v30 =>
 bnd (faV 2 v30) fun v31 =>
 bnd (faV 1 v31) fun v32 =>
 bnd (ldV 1 false v32 h) fun v33 =>
 bnd (binV .add (.int .i64 17) v33) fun v34 =>
 bnd (binV .sub v34 (.int .i64 1)) fun v35 =>
 T Tryz.prog 51 [v27, v35] h fun v36 h37 =>
 bnd (exV v36 0) fun v38 =>
 bnd (exV v36 1) fun v39 =>
 bnd (ldV 1 false a0 h37) fun v40 =>
 T Tryz.prog 73 [v38] h37 fun v41 h42 =>
 ldV 1 false a0 h42 = some v40 ∧
 bnd (exV v41 0) fun v43 =>
 bnd (exV v41 1) fun v44 =>
 bnd (ncV v40) fun v45 =>
 bnd (faV 5 v45) fun v46 =>
 bnd (stV 1 v46 v43 h42) fun h47 =>
 bnd (ldV 1 false a0 h47) fun v48 =>
 bnd (ncV v48) fun v49 =>
 bnd (faV 0 v49) fun v50 =>
 bnd (faV 0 v50) fun v51 =>
 bnd (stV 1 v51 (.int .i64 2) h47) fun h52 =>
 bnd (unV .not v44) fun v53 =>
 ifV v53 (
 K (.int .i64 1000) h52) (
 K (.int .i64 0) h52)) (
 bnd (ldV 1 false a0 h) fun v54 =>
 bnd (ncV v54) fun v55 =>
 bnd (faV 0 v55) fun v56 =>
 bnd (ldV 1 false a1 h) fun v57 =>
 bnd (ldV 1 false a0 h) fun v58 =>
 bnd (ncV v58) fun v59 =>
 bnd (faV 5 v59) fun v60 =>
 bnd (ldV 1 false v60 h) fun v61 =>
 T Tryz.prog 63 [v56, v57, v61] h fun v62 h63 =>
 ifV v62 (
 bnd (ldV 1 false a0 h63) fun v64 =>
 bnd (ldV 1 false a0 h63) fun v65 =>
 bnd (ldV 1 false a0 h63) fun v66 =>
 bnd (ncV v66) fun v67 =>
 bnd (faV 0 v67) fun v68 =>
 bnd (faV 2 v68) fun v69 =>
 bnd (faV 1 v69) fun v70 =>
 bnd (ldV 1 false v70 h63) fun v71 =>
 bnd (binV .sub v71 (.int .i64 1)) fun v72 =>
 bnd (ncV v64) fun v73 =>
 bnd (faV 6 v73) fun v74 =>
 bnd (stV 1 v74 v72 h63) fun h75 =>
 ldV 1 false a0 h75 = some v65 ∧
 bnd (ncV v65) fun v76 =>
 bnd (faV 0 v76) fun v77 =>
 bnd (faV 4 v77) fun v78 =>
 bnd (stV 1 v78 (.bool true) h75) fun h79 =>
 bnd (unV .not (.bool true)) fun v80 =>
 ifV v80 (
 K (.int .i64 1000) h79) (
 K (.int .i64 0) h79)) (
 bnd (unV .not (.bool true)) fun v81 =>
 ifV v81 (
 K (.int .i64 1000) h63) (
 K (.int .i64 0) h63))))
def A72 : Ann := ⟨fun | 3 => ([0, 1, 2, 3, 4, 5, 6, 7, 8], [0, 1, 3, 0, 0, 16, 48, 112, 255]) | 4 => ([0, 1, 2, 3, 4, 5, 6, 7, 8, 9, 10, 11, 12, 13, 14, 15], [0, 0, 0, 4, 12, 28, 60, 124, 252, 509, 1021, 2045, 4095, 8191, 16383, 32767]) | 6 => ([0, 1, 2, 3, 4, 5], [0, 1, 3, 0, 15, 31]) | 7 => ([0, 1, 2, 3, 4, 5, 6, 7, 8, 9, 10, 11], [0, 0, 2, 6, 14, 30, 62, 126, 255, 511, 1023, 2047]) | 9 => ([0, 1, 2, 3, 4, 5, 6, 7, 8, 9, 10, 11, 12, 13, 14], [0, 0, 2, 6, 14, 30, 62, 126, 254, 511, 1023, 2047, 2047, 4095, 16383]) | 10 => ([0, 1, 2, 3, 4, 5, 6, 7, 8, 9], [0, 0, 2, 6, 14, 14, 31, 95, 223, 511]) | _ => ([], []), fun _ => []⟩
theorem S72_T {a0 a1 : Value} {h : GH} {K : Value → GH → Prop} (g : S72 a0 a1 h K) : T Tryz.prog 72 [a0, a1] h K :=
  T_of_gwp (A := A72) Tryz.func72 (c := bodyOf Tryz.f72) (by kernel_rfl) (by kernel_rfl) (by kernel_rfl) (by kernel_rfl) (by kernel_rfl) (Eq.mp (by kernel_rfl) g)
def S73 (a0 : Value) (h : GH) (K : Value → GH → Prop) : Prop :=
 T Tryz.prog 30 [a0] h fun v1 h2 =>
 bnd (exV v1 0) fun v3 =>
 bnd (exV v1 1) fun v4 =>
 ifV v4 (
 bnd (binV .leq v3 (.int .i64 12)) fun v5 =>
 K (.tuple #[v3, v5]) h2) (
 K (.tuple #[v3, (.bool false)]) h2)
def A73 : Ann := ⟨fun _ => ([], []), fun _ => []⟩
theorem S73_T {a0 : Value} {h : GH} {K : Value → GH → Prop} (g : S73 a0 h K) : T Tryz.prog 73 [a0] h K :=
  T_of_gwp (A := A73) Tryz.func73 (c := bodyOf Tryz.f73) (by kernel_rfl) (by kernel_rfl) (by kernel_rfl) (by kernel_rfl) (by kernel_rfl) (Eq.mp (by kernel_rfl) g)
def S74 (a0 : Value) (h : GH) (K : Value → GH → Prop) : Prop :=
 bnd (binV .lss a0 (.int .i64 1)) fun v1 =>
 ifV v1 (
 K (.tuple #[(.pointer none), (.int .i64 1100)]) h) (
 bnd (binV .gtr a0 (.int .i64 4)) fun v2 =>
 ifV v2 (
 K (.tuple #[(.pointer none), (.int .i64 1100)]) h) (
 bnd (fillV [(.int .i64 0), (.int .i64 0), (.int .i64 0), (.bool false), (.bool false)] [(0, 1, a0), (1, 1, (.int .i64 (-1)))]) fun c3 =>
 newV 183 ((.agg c3.toArray) : Value).cells.toList h fun v4 h5 =>
 K (.tuple #[v4, (.int .i64 0)]) h5))
def A74 : Ann := ⟨fun _ => ([], []), fun _ => []⟩
theorem S74_T {a0 : Value} {h : GH} {K : Value → GH → Prop} (g : S74 a0 h K) : T Tryz.prog 74 [a0] h K :=
  T_of_gwp (A := A74) Tryz.func74 (c := bodyOf Tryz.f74) (by kernel_rfl) (by kernel_rfl) (by kernel_rfl) (by kernel_rfl) (by kernel_rfl) (Eq.mp (by kernel_rfl) g)
def S75_j1 (x0 x4 x24 : Value) (h : GH) (K : Value → GH → Prop)  : Prop :=
 ifV x24 (
 bnd (ncV x0) fun v1 =>
 bnd (faV 0 v1) fun v2 =>
 bnd (ldV 1 false v2 h) fun v3 =>
 bnd (ncV x0) fun v4 =>
 bnd (faV 3 v4) fun v5 =>
 bnd (ldV 1 false v5 h) fun v6 =>
 T Tryz.prog 89 [v3, v6] h fun v7 h8 =>
 K x4 h8) (
 K x4 h)
def S75 (a0 : Value) (h : GH) (K : Value → GH → Prop) : Prop :=
 bnd (ncV a0) fun v1 =>
 bnd (faV 0 v1) fun v2 =>
 bnd (ldV 1 false v2 h) fun v3 =>
 bnd (ncV v3) fun v4 =>
 bnd (faV 19 v4) fun v5 =>
 bnd (ldV 1 false v5 h) fun v6 =>
 bnd (ncV a0) fun v7 =>
 bnd (faV 1 v7) fun v8 =>
 bnd (ldV 1 false v8 h) fun v9 =>
 T Tryz.prog 88 [v6, v9] h fun v10 h11 =>
 bnd (exV v10 0) fun v12 =>
 bnd (exV v10 1) fun v13 =>
 ifV v12 (
 bnd (eqI v13 (.int .i64 0)) fun b14 =>
 S75_j1 a0 v13 (.bool b14) h11 K ) (
 S75_j1 a0 v13 (.bool false) h11 K )
def A75 : Ann := ⟨fun | 1 => ([0, 1, 2, 3, 4, 5, 6, 7, 8, 9, 10, 11, 12, 13, 14, 15, 16], [0, 1, 3, 7, 15, 31, 63, 0, 128, 384, 896, 2047, 4095, 8191, 8191, 16383, 65535]) | 3 => ([0, 1, 2, 3, 4, 5, 6, 7, 8], [0, 1, 3, 7, 0, 16, 48, 112, 255]) | _ => ([], []), fun _ => []⟩
theorem S75_T {a0 : Value} {h : GH} {K : Value → GH → Prop} (g : S75 a0 h K) : T Tryz.prog 75 [a0] h K :=
  T_of_gwp (A := A75) Tryz.func75 (c := bodyOf Tryz.f75) (by kernel_rfl) (by kernel_rfl) (by kernel_rfl) (by kernel_rfl) (by kernel_rfl) (Eq.mp (by kernel_rfl) g)
def S76 (a0 a1 : Value) (h : GH) (K : Value → GH → Prop) : Prop :=
 bnd (eqK .ptr true a0 (.pointer none)) fun b1 =>
 ifV (.bool b1) (
 K (.int .i64 1) h) (
 T Tryz.prog 34 [a1] h fun v2 h3 =>
 bnd (unV .not v2) fun v4 =>
 ifV v4 (
 K (.int .i64 1100) h3) (
 T Tryz.prog 40 [a0, a1, (.int .i64 0)] h3 fun v5 h6 =>
 K (.int .i64 0) h6))
def A76 : Ann := ⟨fun _ => ([], []), fun _ => []⟩
theorem S76_T {a0 a1 : Value} {h : GH} {K : Value → GH → Prop} (g : S76 a0 a1 h K) : T Tryz.prog 76 [a0, a1] h K :=
  T_of_gwp (A := A76) Tryz.func76 (c := bodyOf Tryz.f76) (by kernel_rfl) (by kernel_rfl) (by kernel_rfl) (by kernel_rfl) (by kernel_rfl) (Eq.mp (by kernel_rfl) g)
def S77 (a0 : Value) (h : GH) (K : Value → GH → Prop) : Prop :=
 newV 135 [(.int .i64 0), (.int .i64 0)] h fun v1 h2 =>
 T Tryz.prog 30 [a0] h2 fun v3 h4 =>
 bnd (exV v3 0) fun v5 =>
 bnd (exV v3 1) fun v6 =>
 bnd (binV .quo v5 (.int .i64 16)) fun v7 =>
 bnd (binV .rem v5 (.int .i64 16)) fun v8 =>
 bnd (fillV [(.int .i64 0), (.int .i64 0)] [(0, 1, v7), (1, 1, v8)]) fun c9 =>
 newV 135 [(.int .i64 0), (.int .i64 0)] h4 fun v10 h11 =>
 bnd (stV 2 v10 (.agg c9.toArray) h11) fun h12 =>
 bnd (ldV 2 true v10 h12) fun v13 =>
 ifV v6 (
 bnd (faV 1 v10) fun v14 =>
 bnd (ldV 1 false v14 h12) fun v15 =>
 bnd (binV .leq v15 (.int .i64 12)) fun v16 =>
 ifV v16 (
 bnd (faV 0 v10) fun v17 =>
 bnd (ldV 1 false v17 h12) fun v18 =>
 bnd (binV .leq v18 (.int .i64 1073741823)) fun v19 =>
 bnd (stV 2 v1 v13 h12) fun h20 =>
 ldV 1 false v17 h20 = some v18 ∧
 bnd (ldV 2 true v1 h20) fun v21 =>
 K (.tuple #[v21, v19]) h20) (
 bnd (stV 2 v1 v13 h12) fun h22 =>
 bnd (ldV 2 true v1 h22) fun v23 =>
 K (.tuple #[v23, (.bool false)]) h22)) (
 bnd (stV 2 v1 v13 h12) fun h24 =>
 bnd (ldV 2 true v1 h24) fun v25 =>
 K (.tuple #[v25, (.bool false)]) h24)
def A77 : Ann := ⟨fun | 3 => ([0, 1, 2, 3, 4, 5, 6, 7, 8, 9, 10, 11, 12, 13], [0, 0, 2, 6, 14, 30, 62, 126, 254, 510, 1022, 2046, 255, 8191]) | _ => ([], []), fun _ => []⟩
theorem S77_T {a0 : Value} {h : GH} {K : Value → GH → Prop} (g : S77 a0 h K) : T Tryz.prog 77 [a0] h K :=
  T_of_gwp (A := A77) Tryz.func77 (c := bodyOf Tryz.f77) (by kernel_rfl) (by kernel_rfl) (by kernel_rfl) (by kernel_rfl) (by kernel_rfl) (Eq.mp (by kernel_rfl) g)
def S78 (a0 a1 a2 a3 : Value) (h : GH) (K : Value → GH → Prop) : Prop :=
 newV 3 (a2 : Value).cells.toList h fun v1 h2 =>
 newV 3 (a3 : Value).cells.toList h2 fun v3 h4 =>
 T Tryz.prog 64 [a0, (.int .i64 2), a1, (.func (.func 90) #[] #[v1, v3])] h4 fun v5 h6 =>
 bnd (exV v5 0) fun v7 =>
 bnd (exV v5 1) fun v8 =>
 K (.tuple #[v7, v8]) h6
def A78 : Ann := ⟨fun _ => ([], []), fun _ => []⟩
theorem S78_T {a0 a1 a2 a3 : Value} {h : GH} {K : Value → GH → Prop} (g : S78 a0 a1 a2 a3 h K) : T Tryz.prog 78 [a0, a1, a2, a3] h K :=
  T_of_gwp (A := A78) Tryz.func78 (c := bodyOf Tryz.f78) (by kernel_rfl) (by kernel_rfl) (by kernel_rfl) (by kernel_rfl) (by kernel_rfl) (Eq.mp (by kernel_rfl) g)
def S79 (a0 a1 : Value) (h : GH) (K : Value → GH → Prop) : Prop :=
 newV 135 (a0 : Value).cells.toList h fun v1 h2 =>
 bnd (faV 0 v1) fun v3 =>
 bnd (ldV 1 false v3 h2) fun v4 =>
 bnd (binV .add v4 (.int .i64 1)) fun v5 =>
 bnd (binV .rem v5 (.int .i64 1073741824)) fun v6 =>
 bnd (binV .mul v6 (.int .i64 16)) fun v7 =>
 bnd (binV .add v7 a1) fun v8 =>
 T Tryz.prog 18 [v8] h2 fun v9 h10 =>
 K v9 h10
def A79 : Ann := ⟨fun _ => ([], []), fun _ => []⟩
theorem S79_T {a0 a1 : Value} {h : GH} {K : Value → GH → Prop} (g : S79 a0 a1 h K) : T Tryz.prog 79 [a0, a1] h K :=
  T_of_gwp (A := A79) Tryz.func79 (c := bodyOf Tryz.f79) (by kernel_rfl) (by kernel_rfl) (by kernel_rfl) (by kernel_rfl) (by kernel_rfl) (Eq.mp (by kernel_rfl) g)
def S80_j2 (s6 : Nat → Value) (x2 x4 x6 x7 x9 x10 x22 x23 x24 : Value) (h : GH) (K : Value → GH → Prop) (again8 : (Nat → Value) → GH → Prop) : Prop :=
 bnd (ldV 48 true x6 h) fun v1 =>
 bnd (ldV 4 true x9 h) fun v2 =>
 callV Tryz.prog x10 [v1, v2] h fun v3 h4 =>
 bnd (exV v3 0) fun v5 =>
 bnd (exV v3 1) fun v6 =>
 newV 164 ([(.int .i64 0)] ++ List.replicate 16 (.bool false) ++ List.replicate 32 (.int .i64 0) ++ [(.slice none 0 0)]) h4 fun v7 h8 =>
 bnd (stV 50 v7 v5 h8) fun h9 =>
 bnd (faV 0 v7) fun v10 =>
 bnd (ldV 1 false v10 h9) fun v11 =>
 bnd (binV .geq v11 (.int .i64 0)) fun v12 =>
 ifV v12 (
 bnd (faV 0 v7) fun v13 =>
 bnd (ldV 1 false v13 h9) fun v14 =>
 bnd (ldV 48 true x2 h9) fun v15 =>
 bnd (fillV ([(.int .i64 0)] ++ List.replicate 16 (.bool false) ++ List.replicate 32 (.int .i64 0) ++ [(.slice none 0 0)]) [(0, 1, v14), (1, 48, v15)]) fun c16 =>
 bnd (stV 50 x4 (.agg c16.toArray) h9) fun h17 =>
 bnd (ldV 50 true x4 h17) fun v18 =>
 K (.tuple #[v18, (.int .i64 0)]) h17) (
 bnd (faV 49 v7) fun v19 =>
 bnd (ldV 1 false v19 h9) fun v20 =>
 apV 188 2 16 x7 v20 h9 fun v21 h22 =>
 bnd (lnV v21) fun v23 =>
 bnd (binV .sub v23 (.int .i64 1)) fun v24 =>
 bnd (isV 2 v21 v24) fun v25 =>
 bnd (faV 0 v25) fun v26 =>
 bnd (ldV 1 false v26 h22) fun v27 =>
 bnd (eqI v27 (.int .i64 0)) fun b28 =>
 ifV (.bool (!b28)) (
 bnd (ldV 48 true x2 h22) fun v29 =>
 bnd (fillV ([(.int .i64 0)] ++ List.replicate 16 (.bool false) ++ List.replicate 32 (.int .i64 0) ++ [(.slice none 0 0)]) [(0, 1, (.int .i64 (-1))), (1, 48, v29), (49, 1, v21)]) fun c30 =>
 bnd (stV 50 x4 (.agg c30.toArray) h22) fun h31 =>
 bnd (ldV 50 true x4 h31) fun v32 =>
 K (.tuple #[v32, (.int .i64 0)]) h31) (
 bnd (faV 1 v7) fun v33 =>
 bnd (ldV 48 true v33 h22) fun v34 =>
 bnd (stV 48 x6 v34 h22) fun h35 =>
 bnd (binV .add x24 (.int .i64 1)) fun v36 =>
 again8 (tup [x2, x4, x6, v21, x22, x23, v36]) h35))
def S80_j1 (x1 x2 x4 : Value) (h : GH) (K : Value → GH → Prop)  : Prop :=
 bnd (ldV 48 true x2 h) fun v1 =>
 newV 162 (List.replicate 16 (.bool false) ++ List.replicate 32 (.int .i64 0)) h fun v2 h3 =>
 bnd (stV 48 v2 v1 h3) fun h4 =>
 bnd (lnV x1) fun v5 =>
 Lfp (fun (s6 : Nat → Value) h7 again8 =>
 bnd (binV .lss (s6 6) (s6 5)) fun v9 =>
 ifV v9 (
 bnd (isV 4 (s6 4) (s6 6)) fun v10 =>
 bnd (ldV 4 true v10 h7) fun v11 =>
 newV 80 [(.int .i64 0), (.int .i64 0), (.int .i64 0), (.int .i64 0)] h7 fun v12 h13 =>
 bnd (stV 4 v12 v11 h13) fun h14 =>
 bnd (faV 0 v12) fun v15 =>
 bnd (ldV 1 false v15 h14) fun v16 =>
 T Tryz.prog 93 [v16] h14 fun v17 h18 =>
 ifV v17 (
 S80_j2 s6 (s6 0) (s6 1) (s6 2) (s6 3) v12 (.func (.func 94) #[] #[]) (s6 4) (s6 5) (s6 6) h18 K again8) (
 S80_j2 s6 (s6 0) (s6 1) (s6 2) (s6 3) v12 (.func (.func 92) #[] #[]) (s6 4) (s6 5) (s6 6) h18 K again8)) (
 bnd (ldV 48 true (s6 2) h7) fun v19 =>
 bnd (fillV ([(.int .i64 0)] ++ List.replicate 16 (.bool false) ++ List.replicate 32 (.int .i64 0) ++ [(.slice none 0 0)]) [(0, 1, (.int .i64 (-1))), (1, 48, v19), (49, 1, (s6 3))]) fun c20 =>
 bnd (stV 50 (s6 1) (.agg c20.toArray) h7) fun h21 =>
 bnd (ldV 50 true (s6 1) h21) fun v22 =>
 K (.tuple #[v22, (.int .i64 0)]) h21)) (tup [x2, x4, v2, (.slice none 0 0), x1, v5, (.int .i64 0)]) h4
def S80 (a0 a1 : Value) (h : GH) (K : Value → GH → Prop) : Prop :=
 newV 162 (a0 : Value).cells.toList h fun v1 h2 =>
 newV 164 ([(.int .i64 0)] ++ List.replicate 16 (.bool false) ++ List.replicate 32 (.int .i64 0) ++ [(.slice none 0 0)]) h2 fun v3 h4 =>
 T Tryz.prog 91 [v1] h4 fun v5 h6 =>
 bnd (unV .not v5) fun v7 =>
 ifV v7 (
 bnd (fillV ([(.int .i64 0)] ++ List.replicate 16 (.bool false) ++ List.replicate 32 (.int .i64 0) ++ [(.slice none 0 0)]) []) fun c8 =>
 bnd (stV 50 v3 (.agg c8.toArray) h6) fun h9 =>
 bnd (ldV 50 true v3 h9) fun v10 =>
 K (.tuple #[v10, (.int .i64 700)]) h9) (
 T Tryz.prog 17 [a1] h6 fun v11 h12 =>
 bnd (unV .not v11) fun v13 =>
 ifV v13 (
 bnd (fillV ([(.int .i64 0)] ++ List.replicate 16 (.bool false) ++ List.replicate 32 (.int .i64 0) ++ [(.slice none 0 0)]) []) fun c14 =>
 bnd (stV 50 v3 (.agg c14.toArray) h12) fun h15 =>
 bnd (ldV 50 true v3 h15) fun v16 =>
 K (.tuple #[v16, (.int .i64 700)]) h15) (
 S80_j1 a1 v1 v3 h12 K ))
def A80 : Ann := ⟨fun _ => ([], []), fun | 0 => [2, 4, 6, 7, 22, 23, 24] | _ => []⟩
theorem S80_T {a0 a1 : Value} {h : GH} {K : Value → GH → Prop} (g : S80 a0 a1 h K) : T Tryz.prog 80 [a0, a1] h K :=
  T_of_gwp (A := A80) Tryz.func80 (c := bodyOf Tryz.f80) (by kernel_rfl) (by kernel_rfl) (by kernel_rfl) (by kernel_rfl) (by kernel_rfl) (Eq.mp (by kernel_rfl) g)
def S81 (a0 a1 : Value) (h : GH) (K : Value → GH → Prop) : Prop :=
 T Tryz.prog 13 [a0, (.int .i64 12)] h fun v1 h2 =>
 ifV v1 (
 T Tryz.prog 13 [a1, (.int .i64 65536)] h2 fun v3 h4 =>
 K v3 h4) (
 K (.bool false) h2)
def A81 : Ann := ⟨fun _ => ([], []), fun _ => []⟩
theorem S81_T {a0 a1 : Value} {h : GH} {K : Value → GH → Prop} (g : S81 a0 a1 h K) : T Tryz.prog 81 [a0, a1] h K :=
  T_of_gwp (A := A81) Tryz.func81 (c := bodyOf Tryz.f81) (by kernel_rfl) (by kernel_rfl) (by kernel_rfl) (by kernel_rfl) (by kernel_rfl) (Eq.mp (by kernel_rfl) g)
def S82 (a0 : Value) (h : GH) (K : Value → GH → Prop) : Prop :=
 bnd (ncV a0) fun v1 =>
 bnd (faV 5 v1) fun v2 =>
 bnd (faV 0 v2) fun v3 =>
 bnd (ldV 1 false v3 h) fun v4 =>
 bnd (binV .geq v4 (.int .i64 0)) fun v5 =>
 ifV v5 (
 bnd (ncV a0) fun v6 =>
 bnd (faV 0 v6) fun v7 =>
 bnd (ldV 1 false v7 h) fun v8 =>
 bnd (ncV a0) fun v9 =>
 bnd (faV 1 v9) fun v10 =>
 bnd (ldV 1 false v10 h) fun v11 =>
 bnd (ncV a0) fun v12 =>
 bnd (faV 5 v12) fun v13 =>
 bnd (faV 0 v13) fun v14 =>
 bnd (ldV 1 false v14 h) fun v15 =>
 T Tryz.prog 95 [v8, v11, v15] h fun v16 h17 =>
 bnd (exV v16 0) fun v18 =>
 bnd (exV v16 1) fun v19 =>
 K (.iface 175 v18) h17) (
 bnd (ncV a0) fun v20 =>
 bnd (faV 5 v20) fun v21 =>
 bnd (faV 49 v21) fun v22 =>
 bnd (ldV 1 false v22 h) fun v23 =>
 bnd (ncV a0) fun v24 =>
 bnd (faV 60 v24) fun v25 =>
 bnd (stV 1 v25 v23 h) fun h26 =>
 bnd (ncV a0) fun v27 =>
 bnd (faV 2 v27) fun v28 =>
 bnd (faV 0 v28) fun v29 =>
 bnd (ldV 1 false v29 h26) fun v30 =>
 bnd (ncV a0) fun v31 =>
 bnd (faV 2 v31) fun v32 =>
 bnd (faV 1 v32) fun v33 =>
 bnd (ldV 1 false v33 h26) fun v34 =>
 bnd (ncV a0) fun v35 =>
 bnd (faV 5 v35) fun v36 =>
 bnd (faV 1 v36) fun v37 =>
 bnd (ldV 48 true v37 h26) fun v38 =>
 T Tryz.prog 97 [v38] h26 fun v39 h40 =>
 ldV 1 false v33 h40 = some v34 ∧
 ldV 1 false v29 h40 = some v30 ∧
 T Tryz.prog 96 [v30, v34, v39] h40 fun v41 h42 =>
 bnd (exV v41 0) fun v43 =>
 bnd (exV v41 1) fun v44 =>
 K (.iface 177 v43) h42)
def A82 : Ann := ⟨fun | 2 => ([0, 1, 2, 3, 4, 5, 6, 7, 8, 9, 10, 11, 12, 13, 14, 15, 16, 17, 18], [0, 1, 3, 7, 0, 16, 48, 112, 0, 256, 768, 1792, 3840, 8191, 16383, 32767, 32767, 65535, 262143]) | 5 => ([0, 1, 2, 3, 4, 5, 6, 7, 8, 9, 10, 11, 12, 13, 14, 15, 16, 17, 18, 19, 20, 21], [0, 1, 3, 7, 15, 0, 32, 96, 224, 480, 0, 1024, 3072, 7168, 15360, 31744, 65535, 131071, 262143, 262143, 524287, 2097151]) | _ => ([], []), fun _ => []⟩
theorem S82_T {a0 : Value} {h : GH} {K : Value → GH → Prop} (g : S82 a0 h K) : T Tryz.prog 82 [a0] h K :=
  T_of_gwp (A := A82) Tryz.func82 (c := bodyOf Tryz.f82) (by kernel_rfl) (by kernel_rfl) (by kernel_rfl) (by kernel_rfl) (by kernel_rfl) (Eq.mp (by kernel_rfl) g)
def S83 (a0 a1 : Value) (h : GH) (K : Value → GH → Prop) : Prop :=
 bnd (ncV a0) fun v1 =>
 bnd (faV 5 v1) fun v2 =>
 bnd (faV 1 v2) fun v3 =>
 bnd (ldV 48 true v3 h) fun v4 =>
 newV 162 (List.replicate 16 (.bool false) ++ List.replicate 32 (.int .i64 0)) h fun v5 h6 =>
 bnd (stV 48 v5 v4 h6) fun h7 =>
 bnd (faV 0 v5) fun v8 =>
 bnd (faV 16 v5) fun v9 =>
 bnd (faV 32 v5) fun v10 =>
 T Tryz.prog 99 [a1] h7 fun v11 h12 =>
 bnd (iaV 16 1 v8 v11) fun v13 =>
 T Tryz.prog 99 [a1] h12 fun v14 h15 =>
 T Tryz.prog 99 [a1] h15 fun v16 h17 =>
 T Tryz.prog 98 [a1] h17 fun v18 h19 =>
 T Tryz.prog 98 [a1] h19 fun v20 h21 =>
 bnd (stV 1 v13 (.bool true) h21) fun h22 =>
 bnd (iaV 16 1 v9 v14) fun v23 =>
 bnd (stV 1 v23 v18 h22) fun h24 =>
 bnd (iaV 16 1 v10 v16) fun v25 =>
 bnd (stV 1 v25 v20 h24) fun h26 =>
 bnd (ldV 48 true v5 h26) fun v27 =>
 bnd (ncV a0) fun v28 =>
 bnd (faV 4 v28) fun v29 =>
 bnd (ldV 1 false v29 h26) fun v30 =>
 T Tryz.prog 80 [v27, v30] h26 fun v31 h32 =>
 bnd (exV v31 0) fun v33 =>
 bnd (exV v31 1) fun v34 =>
 bnd (ncV a0) fun v35 =>
 bnd (faV 5 v35) fun v36 =>
 bnd (stV 50 v36 v33 h32) fun h37 =>
 T Tryz.prog 82 [a0] h37 fun v38 h39 =>
 bnd (ncV a0) fun v40 =>
 bnd (faV 55 v40) fun v41 =>
 bnd (stV 1 v41 v38 h39) fun h42 =>
 K (.tuple #[]) h42
def A83 : Ann := ⟨fun | 1 => ([0, 2, 4, 6, 8, 10, 13, 16, 1, 11, 3, 5, 7, 9, 12, 14, 15, 17, 18], [0, 1, 0, 7, 0, 31, 0, 127, 0, 511, 0, 1027, 4095, 0, 16383, 32767, 0, 131071, 262143]) | 2 => ([0, 1, 2, 3, 4, 5, 6, 7, 8, 9, 10, 11, 12], [0, 0, 0, 4, 12, 28, 62, 126, 254, 254, 511, 1535, 3583]) | _ => ([], []), fun _ => []⟩
theorem S83_T {a0 a1 : Value} {h : GH} {K : Value → GH → Prop} (g : S83 a0 a1 h K) : T Tryz.prog 83 [a0, a1] h K :=
  T_of_gwp (A := A83) Tryz.func83 (c := bodyOf Tryz.f83) (by kernel_rfl) (by kernel_rfl) (by kernel_rfl) (by kernel_rfl) (by kernel_rfl) (Eq.mp (by kernel_rfl) g)
def S84_j1 (x8 x9 : Value) (h : GH) (K : Value → GH → Prop)  : Prop :=
 bsV 202 1 [.nilIface] [(0, 1, x9)] h fun v1 h2 =>
 bnd (ncV x8) fun v3 =>
 bnd (faV 2 v3) fun v4 =>
 bnd (stV 1 v4 v1 h2) fun h5 =>
 K (.tuple #[x8, (.int .i64 0)]) h5
def S84 (a0 a1 a2 : Value) (h : GH) (K : Value → GH → Prop) : Prop :=
 bnd (fillV [(.int .i64 0), (.int .i64 0)] [(0, 1, a0), (1, 1, a1)]) fun c1 =>
 bnd (fillV [(.int .i64 0), (.int .i64 0), (.slice none 0 0), (.pointer none), (.bool false), (.bool false)] [(0, 2, (.agg c1.toArray))]) fun c2 =>
 newV 200 ((.agg c2.toArray) : Value).cells.toList h fun v3 h4 =>
 bnd (ncV v3) fun v5 =>
 bnd (faV 0 v5) fun v6 =>
 T Tryz.prog 39 [a2] h4 fun v7 h8 =>
 T Tryz.prog 100 [v7, v6] h8 fun v9 h10 =>
 T Tryz.prog 34 [a0] h10 fun v11 h12 =>
 bnd (unV .not v11) fun v13 =>
 ifV v13 (
 K (.tuple #[(.pointer none), (.int .i64 1400)]) h12) (
 T Tryz.prog 13 [a1, (.int .i64 1048576)] h12 fun v14 h15 =>
 bnd (unV .not v14) fun v16 =>
 ifV v16 (
 K (.tuple #[(.pointer none), (.int .i64 1400)]) h15) (
 bnd (eqK .iface true v9 .nilIface) fun b17 =>
 ifV (.bool b17) (
 K (.tuple #[(.pointer none), (.int .i64 1400)]) h15) (
 S84_j1 v3 v9 h15 K )))
def A84 : Ann := ⟨fun | 2 => ([0, 2, 3, 4, 1, 5, 6], [0, 1, 0, 4, 12, 31, 63]) | _ => ([], []), fun _ => []⟩
theorem S84_T {a0 a1 a2 : Value} {h : GH} {K : Value → GH → Prop} (g : S84 a0 a1 a2 h K) : T Tryz.prog 84 [a0, a1, a2] h K :=
  T_of_gwp (A := A84) Tryz.func84 (c := bodyOf Tryz.f84) (by kernel_rfl) (by kernel_rfl) (by kernel_rfl) (by kernel_rfl) (by kernel_rfl) (Eq.mp (by kernel_rfl) g)
def S85 (a0 : Value) (h : GH) (K : Value → GH → Prop) : Prop :=
 ivV Tryz.prog a0 "pawl/word.number" [] h fun v1 h2 =>
 K v1 h2
def A85 : Ann := ⟨fun _ => ([], []), fun _ => []⟩
theorem S85_T {a0 : Value} {h : GH} {K : Value → GH → Prop} (g : S85 a0 h K) : T Tryz.prog 85 [a0] h K :=
  T_of_gwp (A := A85) Tryz.func85 (c := bodyOf Tryz.f85) (by kernel_rfl) (by kernel_rfl) (by kernel_rfl) (by kernel_rfl) (by kernel_rfl) (Eq.mp (by kernel_rfl) g)
def S86 (a0 : Value) (h : GH) (K : Value → GH → Prop) : Prop :=
 bnd (eqK .ptr true a0 (.pointer none)) fun b1 =>
 ifV (.bool (!b1)) (
 bnd (ncV a0) fun v2 =>
 bnd (faV 4 v2) fun v3 =>
 bnd (ldV 1 false v3 h) fun v4 =>
 K v4 h) (
 K (.bool false) h)
def A86 : Ann := ⟨fun _ => ([], []), fun _ => []⟩
theorem S86_T {a0 : Value} {h : GH} {K : Value → GH → Prop} (g : S86 a0 h K) : T Tryz.prog 86 [a0] h K :=
  T_of_gwp (A := A86) Tryz.func86 (c := bodyOf Tryz.f86) (by kernel_rfl) (by kernel_rfl) (by kernel_rfl) (by kernel_rfl) (by kernel_rfl) (Eq.mp (by kernel_rfl) g)
def S87 (a0 : Value) (h : GH) (K : Value → GH → Prop) : Prop :=
 bnd (eqK .ptr true a0 (.pointer none)) fun b1 =>
 ifV (.bool (!b1)) (
 bnd (ncV a0) fun v2 =>
 bnd (faV 58 v2) fun v3 =>
 bnd (ldV 1 false v3 h) fun v4 =>
 K v4 h) (
 K (.bool false) h)
def A87 : Ann := ⟨fun _ => ([], []), fun _ => []⟩
theorem S87_T {a0 : Value} {h : GH} {K : Value → GH → Prop} (g : S87 a0 h K) : T Tryz.prog 87 [a0] h K :=
  T_of_gwp (A := A87) Tryz.func87 (c := bodyOf Tryz.f87) (by kernel_rfl) (by kernel_rfl) (by kernel_rfl) (by kernel_rfl) (by kernel_rfl) (Eq.mp (by kernel_rfl) g)
def S88_j3 (x0 x6 : Value) (h : GH) (K : Value → GH → Prop)  : Prop :=
 bnd (ncV x0) fun v1 =>
 bnd (faV 1 v1) fun v2 =>
 bnd (ldV 1 false v2 h) fun v3 =>
 bnd (binV .add v3 (.int .i64 1)) fun v4 =>
 bnd (ncV x0) fun v5 =>
 bnd (faV 1 v5) fun v6 =>
 bnd (stV 1 v6 v4 h) fun h7 =>
 bnd (unV .not x6) fun v8 =>
 ifV v8 (
 bnd (ncV x0) fun v9 =>
 bnd (faV 4 v9) fun v10 =>
 bnd (stV 1 v10 (.bool true) h7) fun h11 =>
 K (.tuple #[(.bool true), (.int .i64 1100)]) h11) (
 bnd (ncV x0) fun v12 =>
 bnd (faV 4 v12) fun v13 =>
 bnd (ldV 1 false v13 h7) fun v14 =>
 K (.tuple #[v14, (.int .i64 0)]) h7)
def S88_j2 (x0 x1 : Value) (h : GH) (K : Value → GH → Prop)  : Prop :=
 bnd (ncV x0) fun v1 =>
 bnd (faV 1 v1) fun v2 =>
 bnd (ldV 1 false v2 h) fun v3 =>
 bnd (binV .lss v3 (.int .i64 0)) fun v4 =>
 ifV v4 (
 T Tryz.prog 41 [x1] h fun v5 h6 =>
 bnd (exV v5 0) fun v7 =>
 bnd (exV v5 1) fun v8 =>
 bnd (ncV x0) fun v9 =>
 bnd (faV 2 v9) fun v10 =>
 bnd (stV 1 v10 v7 h6) fun h11 =>
 S88_j3 x0 v8 h11 K ) (
 bnd (ncV x0) fun v12 =>
 bnd (faV 1 v12) fun v13 =>
 bnd (ldV 1 false v13 h) fun v14 =>
 bnd (ncV x0) fun v15 =>
 bnd (faV 0 v15) fun v16 =>
 bnd (ldV 1 false v16 h) fun v17 =>
 bnd (binV .lss v14 v17) fun v18 =>
 ifV v18 (
 bnd (ncV x0) fun v19 =>
 bnd (faV 1 v19) fun v20 =>
 bnd (ldV 1 false v20 h) fun v21 =>
 bnd (binV .add (.int .i64 30) v21) fun v22 =>
 T Tryz.prog 51 [x1, v22] h fun v23 h24 =>
 bnd (exV v23 0) fun v25 =>
 bnd (exV v23 1) fun v26 =>
 T Tryz.prog 30 [v25] h24 fun v27 h28 =>
 bnd (exV v27 0) fun v29 =>
 bnd (exV v27 1) fun v30 =>
 bnd (eqI v29 (.int .i64 0)) fun b31 =>
 ifV (.bool (!b31)) (
 bnd (ncV x0) fun v32 =>
 bnd (faV 2 v32) fun v33 =>
 bnd (ldV 1 false v33 h28) fun v34 =>
 bnd (binV .add v34 (.int .i64 1)) fun v35 =>
 bnd (eqI v29 v35) fun b36 =>
 bnd (ncV x0) fun v37 =>
 bnd (faV 4 v37) fun v38 =>
 bnd (stV 1 v38 (.bool (!b36)) h28) fun h39 =>
 S88_j3 x0 v30 h39 K ) (
 bnd (ncV x0) fun v40 =>
 bnd (faV 4 v40) fun v41 =>
 bnd (stV 1 v41 (.bool false) h28) fun h42 =>
 S88_j3 x0 v30 h42 K )) (
 bnd (ncV x0) fun v43 =>
 bnd (faV 2 v43) fun v44 =>
 bnd (ldV 1 false v44 h) fun v45 =>
 T Tryz.prog 18 [v45] h fun v46 h47 =>
 bnd (ncV x0) fun v48 =>
 bnd (faV 2 v48) fun v49 =>
 bnd (ldV 1 false v49 h47) fun v50 =>
 bnd (binV .add v50 (.int .i64 1)) fun v51 =>
 T Tryz.prog 18 [v51] h47 fun v52 h53 =>
 T Tryz.prog 78 [x1, (.int .i64 29), v46, v52] h53 fun v54 h55 =>
 bnd (exV v54 0) fun v56 =>
 bnd (exV v54 1) fun v57 =>
 bnd (eqI v56 v46) fun b58 =>
 bnd (ncV x0) fun v59 =>
 bnd (faV 3 v59) fun v60 =>
 bnd (stV 1 v60 (.bool b58) h55) fun h61 =>
 bnd (ncV x0) fun v62 =>
 bnd (faV 4 v62) fun v63 =>
 bnd (stV 1 v63 (.bool true) h61) fun h64 =>
 S88_j3 x0 (.bool true) h64 K ))
def S88_j1 (x0 x1 x14 : Value) (h : GH) (K : Value → GH → Prop)  : Prop :=
 ifV x14 (
 K (.tuple #[(.bool false), (.int .i64 1)]) h) (
 bnd (ncV x0) fun v1 =>
 bnd (faV 4 v1) fun v2 =>
 bnd (ldV 1 false v2 h) fun v3 =>
 ifV v3 (
 K (.tuple #[(.bool true), (.int .i64 0)]) h) (
 S88_j2 x0 x1 h K ))
def S88 (a0 a1 : Value) (h : GH) (K : Value → GH → Prop) : Prop :=
 bnd (eqK .ptr true a0 (.pointer none)) fun b1 =>
 ifV (.bool b1) (
 S88_j1 a0 a1 (.bool true) h K ) (
 bnd (eqK .ptr true a1 (.pointer none)) fun b2 =>
 S88_j1 a0 a1 (.bool b2) h K )
def A88 : Ann := ⟨fun | 11 => ([0, 1, 2, 3, 4, 5, 6, 7, 8, 9], [0, 1, 3, 7, 0, 16, 48, 112, 255, 511]) | _ => ([], []), fun _ => []⟩
theorem S88_T {a0 a1 : Value} {h : GH} {K : Value → GH → Prop} (g : S88 a0 a1 h K) : T Tryz.prog 88 [a0, a1] h K :=
  T_of_gwp (A := A88) Tryz.func88 (c := bodyOf Tryz.f88) (by kernel_rfl) (by kernel_rfl) (by kernel_rfl) (by kernel_rfl) (by kernel_rfl) (Eq.mp (by kernel_rfl) g)
def S89_j3 (x0 x1 x4 : Value) (h : GH) (K : Value → GH → Prop)  : Prop :=
 bnd (ncV x0) fun v1 =>
 bnd (faV 20 v1) fun v2 =>
 bnd (ldV 1 false v2 h) fun v3 =>
 bnd (ncV x4) fun v4 =>
 bnd (faV 5 v4) fun v5 =>
 bnd (stV 1 v5 v3 h) fun h6 =>
 bnd (ncV x4) fun v7 =>
 bnd (faV 4 v7) fun v8 =>
 bnd (stV 1 v8 x1 h6) fun h9 =>
 bnd (ncV x0) fun v10 =>
 bnd (faV 8 v10) fun v11 =>
 bnd (stV 1 v11 (.int .i64 0) h9) fun h12 =>
 K (.tuple #[]) h12
def S89_j2 (x0 x1 x4 : Value) (h : GH) (K : Value → GH → Prop)  : Prop :=
 bnd (ncV x0) fun v1 =>
 bnd (faV 20 v1) fun v2 =>
 bnd (ldV 1 false v2 h) fun v3 =>
 bnd (eqI v3 (.int .i64 0)) fun b4 =>
 ifV (.bool b4) (
 bnd (ncV x0) fun v5 =>
 bnd (faV 18 v5) fun v6 =>
 bnd (ldV 1 false v6 h) fun v7 =>
 T Tryz.prog 102 [v7] h fun v8 h9 =>
 bnd (ncV x4) fun v10 =>
 bnd (faV 7 v10) fun v11 =>
 bnd (stV 1 v11 v8 h9) fun h12 =>
 S89_j3 x0 x1 x4 h12 K ) (
 S89_j3 x0 x1 x4 h K )
def S89_j1 (x0 x1 x4 x39 : Value) (h : GH) (K : Value → GH → Prop)  : Prop :=
 ifV x39 (
 bnd (ncV x0) fun v1 =>
 bnd (faV 3 v1) fun v2 =>
 bnd (ldV 1 false v2 h) fun v3 =>
 bnd (ncV x0) fun v4 =>
 bnd (faV 8 v4) fun v5 =>
 bnd (ldV 1 false v5 h) fun v6 =>
 T Tryz.prog 101 [v3, v6] h fun v7 h8 =>
 bnd (exV v7 0) fun v9 =>
 bnd (exV v7 1) fun v10 =>
 bnd (ncV x0) fun v11 =>
 bnd (faV 9 v11) fun v12 =>
 bnd (stV 1 v12 v9 h8) fun h13 =>
 K (.tuple #[]) h13) (
 S89_j2 x0 x1 x4 h K )
def S89 (a0 a1 : Value) (h : GH) (K : Value → GH → Prop) : Prop :=
 bnd (ncV a0) fun v1 =>
 bnd (faV 6 v1) fun v2 =>
 bnd (stV 1 v2 .nilFunc h) fun h3 =>
 bnd (ncV a0) fun v4 =>
 bnd (faV 8 v4) fun v5 =>
 bnd (ldV 1 false v5 h3) fun v6 =>
 bnd (binV .add v6 (.int .i64 1)) fun v7 =>
 bnd (ncV a0) fun v8 =>
 bnd (faV 8 v8) fun v9 =>
 bnd (stV 1 v9 v7 h3) fun h10 =>
 T Tryz.prog 33 [a0] h10 fun v11 h12 =>
 bnd (ncV a0) fun v13 =>
 bnd (faV 8 v13) fun v14 =>
 bnd (ldV 1 false v14 h12) fun v15 =>
 bnd (ncV v11) fun v16 =>
 bnd (faV 6 v16) fun v17 =>
 bnd (stV 1 v17 v15 h12) fun h18 =>
 bnd (ncV a0) fun v19 =>
 bnd (faV 20 v19) fun v20 =>
 bnd (ldV 1 false v20 h18) fun v21 =>
 bnd (eqI v21 (.int .i64 2)) fun b22 =>
 ifV (.bool b22) (
 bnd (ncV a0) fun v23 =>
 bnd (faV 8 v23) fun v24 =>
 bnd (ldV 1 false v24 h18) fun v25 =>
 bnd (ncV a0) fun v26 =>
 bnd (faV 2 v26) fun v27 =>
 bnd (ldV 1 false v27 h18) fun v28 =>
 bnd (binV .lss v25 v28) fun v29 =>
 S89_j1 a0 a1 v11 v29 h18 K ) (
 S89_j1 a0 a1 v11 (.bool false) h18 K )
def A89 : Ann := ⟨fun | 4 => ([0, 1, 2, 3, 4, 5, 6, 7, 8, 9, 10, 11, 12, 13, 14, 15], [0, 1, 3, 7, 15, 31, 63, 127, 255, 511, 63, 1087, 3135, 7231, 16383, 32767]) | 5 => ([0, 1, 2, 3, 4, 5, 6, 7, 8, 9, 10, 11, 12, 13, 14, 15], [0, 0, 2, 6, 14, 0, 32, 96, 224, 510, 1022, 2046, 2046, 4095, 12287, 28671]) | _ => ([], []), fun _ => []⟩
theorem S89_T {a0 a1 : Value} {h : GH} {K : Value → GH → Prop} (g : S89 a0 a1 h K) : T Tryz.prog 89 [a0, a1] h K :=
  T_of_gwp (A := A89) Tryz.func89 (c := bodyOf Tryz.f89) (by kernel_rfl) (by kernel_rfl) (by kernel_rfl) (by kernel_rfl) (by kernel_rfl) (Eq.mp (by kernel_rfl) g)
def S90 (a0 a1 a2 : Value) (h : GH) (K : Value → GH → Prop) : Prop :=
 bnd (ldV 1 false a1 h) fun v1 =>
 bnd (eqI a0 v1) fun b2 =>
 ifV (.bool b2) (
 bnd (ldV 1 false a2 h) fun v3 =>
 K v3 h) (
 K a0 h)
def A90 : Ann := ⟨fun _ => ([], []), fun _ => []⟩
theorem S90_T {a0 a1 a2 : Value} {h : GH} {K : Value → GH → Prop} (g : S90 a0 a1 a2 h K) : T Tryz.prog 90 [a0, a1, a2] h K :=
  T_of_gwp (A := A90) Tryz.func90 (c := bodyOf Tryz.f90) (by kernel_rfl) (by kernel_rfl) (by kernel_rfl) (by kernel_rfl) (by kernel_rfl) (Eq.mp (by kernel_rfl) g)
def S91 (a0 : Value) (h : GH) (K : Value → GH → Prop) : Prop :=
 Lfp (fun (s1 : Nat → Value) h2 again3 =>
 bnd (binV .lss (s1 1) (.int .i64 16)) fun v4 =>
 ifV v4 (
 bnd (ncV (s1 0)) fun v5 =>
 bnd (faV 16 v5) fun v6 =>
 bnd (iaV 16 1 v6 (s1 1)) fun v7 =>
 bnd (ldV 1 false v7 h2) fun v8 =>
 T Tryz.prog 103 [v8] h2 fun v9 h10 =>
 bnd (unV .not v9) fun v11 =>
 ifV v11 (
 K (.bool false) h10) (
 bnd (ncV (s1 0)) fun v12 =>
 bnd (faV 32 v12) fun v13 =>
 bnd (iaV 16 1 v13 (s1 1)) fun v14 =>
 bnd (ldV 1 false v14 h10) fun v15 =>
 T Tryz.prog 103 [v15] h10 fun v16 h17 =>
 bnd (unV .not v16) fun v18 =>
 ifV v18 (
 K (.bool false) h17) (
 bnd (binV .add (s1 1) (.int .i64 1)) fun v19 =>
 again3 (tup [(s1 0), v19]) h17))) (
 K (.bool true) h2)) (tup [a0, (.int .i64 0)]) h
def A91 : Ann := ⟨fun _ => ([], []), fun | 0 => [0, 4] | _ => []⟩
theorem S91_T {a0 : Value} {h : GH} {K : Value → GH → Prop} (g : S91 a0 h K) : T Tryz.prog 91 [a0] h K :=
  T_of_gwp (A := A91) Tryz.func91 (c := bodyOf Tryz.f91) (by kernel_rfl) (by kernel_rfl) (by kernel_rfl) (by kernel_rfl) (by kernel_rfl) (Eq.mp (by kernel_rfl) g)
def S92_j1 (x2 x3 x4 : Value) (h : GH) (K : Value → GH → Prop)  : Prop :=
 bnd (ldV 48 true x2 h) fun v1 =>
 bnd (fillV (List.replicate 16 (.bool false) ++ List.replicate 32 (.int .i64 0) ++ [.nilIface]) [(0, 48, v1)]) fun c2 =>
 newV 209 ((.agg c2.toArray) : Value).cells.toList h fun v3 h4 =>
 bnd (fillV [(.pointer none)] [(0, 1, v3)]) fun c5 =>
 newV 211 [(.pointer none)] h4 fun v6 h7 =>
 bnd (stV 1 v6 (.agg c5.toArray) h7) fun h8 =>
 bnd (faV 0 x3) fun v9 =>
 bnd (ldV 1 false v9 h8) fun v10 =>
 bnd (eqI v10 (.int .i64 9)) fun b11 =>
 ifV (.bool b11) (
 T Tryz.prog 104 [(.int .i64 2)] h8 fun v12 h13 =>
 newV 188 [(.int .i64 0), (.int .i64 0)] h13 fun v14 h15 =>
 bnd (stV 2 v14 v12 h15) fun h16 =>
 bnd (ldV 1 true v6 h16) fun v17 =>
 T Tryz.prog 105 [v17, (.int .i64 (-1)), (.int .i64 0)] h16 fun v18 h19 =>
 bnd (eqI v18 (.int .i64 (-1))) fun b20 =>
 ifV (.bool (!b20)) (
 T Tryz.prog 106 [v18] h19 fun v21 h22 =>
 bnd (stV 2 v14 v21 h22) fun h23 =>
 bnd (ldV 2 true v14 h23) fun v24 =>
 T Tryz.prog 107 [v3, x2, v24] h23 fun v25 h26 =>
 bnd (stV 50 x4 v25 h26) fun h27 =>
 bnd (ldV 50 true x4 h27) fun v28 =>
 K (.tuple #[v28, (.int .i64 0)]) h27) (
 bnd (ldV 2 true v14 h19) fun v29 =>
 T Tryz.prog 107 [v3, x2, v29] h19 fun v30 h31 =>
 bnd (stV 50 x4 v30 h31) fun h32 =>
 bnd (ldV 50 true x4 h32) fun v33 =>
 K (.tuple #[v33, (.int .i64 0)]) h32)) (
 nmpV h8 fun v34 h35 =>
 bnd (mupV .i64 v34 (.int .i64 6) (.func (.func 108) #[] #[]) h35) fun h36 =>
 bnd (mupV .i64 v34 (.int .i64 7) (.func (.func 109) #[] #[]) h36) fun h37 =>
 bnd (mupV .i64 v34 (.int .i64 8) (.func (.func 110) #[] #[]) h37) fun h38 =>
 bnd (mupV .i64 v34 (.int .i64 10) (.func (.func 111) #[] #[]) h38) fun h39 =>
 bnd (faV 0 x3) fun v40 =>
 bnd (ldV 1 false v40 h39) fun v41 =>
 bnd (mlkV .i64 v34 v41 h39) fun v42 =>
 bnd (ldV 1 true v6 h39) fun v43 =>
 bnd (faV 1 x3) fun v44 =>
 bnd (ldV 1 false v44 h39) fun v45 =>
 T Tryz.prog 112 [v43, v45] h39 fun v46 h47 =>
 mlkV .i64 v34 v41 h47 = some v42 ∧
 ldV 1 false v40 h47 = some v41 ∧
 callV Tryz.prog v42 [v46, x3] h47 fun v48 h49 =>
 newV 188 [(.int .i64 0), (.int .i64 0)] h49 fun v50 h51 =>
 bnd (stV 2 v50 v48 h51) fun h52 =>
 bnd (ldV 2 true v50 h52) fun v53 =>
 T Tryz.prog 107 [v3, x2, v53] h52 fun v54 h55 =>
 bnd (stV 50 x4 v54 h55) fun h56 =>
 bnd (ldV 50 true x4 h56) fun v57 =>
 K (.tuple #[v57, (.int .i64 0)]) h56)
def S92 (a0 a1 : Value) (h : GH) (K : Value → GH → Prop) : Prop :=
 newV 162 (a0 : Value).cells.toList h fun v1 h2 =>
 newV 80 (a1 : Value).cells.toList h2 fun v3 h4 =>
 newV 164 ([(.int .i64 0)] ++ List.replicate 16 (.bool false) ++ List.replicate 32 (.int .i64 0) ++ [(.slice none 0 0)]) h4 fun v5 h6 =>
 T Tryz.prog 91 [v1] h6 fun v7 h8 =>
 bnd (unV .not v7) fun v9 =>
 ifV v9 (
 bnd (fillV ([(.int .i64 0)] ++ List.replicate 16 (.bool false) ++ List.replicate 32 (.int .i64 0) ++ [(.slice none 0 0)]) []) fun c10 =>
 bnd (stV 50 v5 (.agg c10.toArray) h8) fun h11 =>
 bnd (ldV 50 true v5 h11) fun v12 =>
 K (.tuple #[v12, (.int .i64 600)]) h11) (
 T Tryz.prog 25 [v3] h8 fun v13 h14 =>
 bnd (unV .not v13) fun v15 =>
 ifV v15 (
 bnd (fillV ([(.int .i64 0)] ++ List.replicate 16 (.bool false) ++ List.replicate 32 (.int .i64 0) ++ [(.slice none 0 0)]) []) fun c16 =>
 bnd (stV 50 v5 (.agg c16.toArray) h14) fun h17 =>
 bnd (ldV 50 true v5 h17) fun v18 =>
 K (.tuple #[v18, (.int .i64 600)]) h17) (
 bnd (faV 0 v3) fun v19 =>
 bnd (ldV 1 false v19 h14) fun v20 =>
 T Tryz.prog 93 [v20] h14 fun v21 h22 =>
 ifV v21 (
 bnd (fillV ([(.int .i64 0)] ++ List.replicate 16 (.bool false) ++ List.replicate 32 (.int .i64 0) ++ [(.slice none 0 0)]) []) fun c23 =>
 bnd (stV 50 v5 (.agg c23.toArray) h22) fun h24 =>
 bnd (ldV 50 true v5 h24) fun v25 =>
 K (.tuple #[v25, (.int .i64 600)]) h24) (
 S92_j1 v1 v3 v5 h22 K )))
def A92 : Ann := ⟨fun | 12 => ([0, 1, 2, 3, 4, 5, 6, 7, 8, 9, 10], [0, 0, 2, 7, 0, 0, 32, 112, 255, 0, 1023]) | _ => ([], []), fun _ => []⟩
theorem S92_T {a0 a1 : Value} {h : GH} {K : Value → GH → Prop} (g : S92 a0 a1 h K) : T Tryz.prog 92 [a0, a1] h K :=
  T_of_gwp (A := A92) Tryz.func92 (c := bodyOf Tryz.f92) (by kernel_rfl) (by kernel_rfl) (by kernel_rfl) (by kernel_rfl) (by kernel_rfl) (Eq.mp (by kernel_rfl) g)
def S93 (a0 : Value) (h : GH) (K : Value → GH → Prop) : Prop :=
 bnd (binV .geq a0 (.int .i64 0)) fun v1 =>
 ifV v1 (
 bnd (binV .leq a0 (.int .i64 5)) fun v2 =>
 K v2 h) (
 K (.bool false) h)
def A93 : Ann := ⟨fun _ => ([], []), fun _ => []⟩
theorem S93_T {a0 : Value} {h : GH} {K : Value → GH → Prop} (g : S93 a0 h K) : T Tryz.prog 93 [a0] h K :=
  T_of_gwp (A := A93) Tryz.func93 (c := bodyOf Tryz.f93) (by kernel_rfl) (by kernel_rfl) (by kernel_rfl) (by kernel_rfl) (by kernel_rfl) (Eq.mp (by kernel_rfl) g)
def S94_j1 (x2 x3 x4 : Value) (h : GH) (K : Value → GH → Prop)  : Prop :=
 bnd (fillV [.nilFunc, .nilFunc, .nilFunc, .nilFunc, .nilFunc, .nilFunc] [(0, 1, (.func (.func 113) #[] #[])), (1, 1, (.func (.func 114) #[] #[])), (2, 1, (.func (.func 115) #[] #[])), (3, 1, (.func (.func 116) #[] #[])), (4, 1, (.func (.func 117) #[] #[])), (5, 1, (.func (.func 118) #[] #[]))]) fun c1 =>
 newV 220 [.nilFunc, .nilFunc, .nilFunc, .nilFunc, .nilFunc, .nilFunc] h fun v2 h3 =>
 bnd (stV 6 v2 (.agg c1.toArray) h3) fun h4 =>
 bnd (ldV 48 true x2 h4) fun v5 =>
 bnd (fillV (List.replicate 16 (.bool false) ++ List.replicate 32 (.int .i64 0) ++ [.nilIface]) [(0, 48, v5)]) fun c6 =>
 newV 209 ((.agg c6.toArray) : Value).cells.toList h4 fun v7 h8 =>
 bnd (faV 0 x3) fun v9 =>
 bnd (ldV 1 false v9 h8) fun v10 =>
 bnd (iaV 6 1 v2 v10) fun v11 =>
 bnd (ldV 1 false v11 h8) fun v12 =>
 callV Tryz.prog v12 [v7, x3] h8 fun v13 h14 =>
 newV 188 [(.int .i64 0), (.int .i64 0)] h14 fun v15 h16 =>
 bnd (stV 2 v15 v13 h16) fun h17 =>
 bnd (ldV 2 true v15 h17) fun v18 =>
 T Tryz.prog 107 [v7, x2, v18] h17 fun v19 h20 =>
 bnd (stV 50 x4 v19 h20) fun h21 =>
 bnd (ldV 50 true x4 h21) fun v22 =>
 K (.tuple #[v22, (.int .i64 0)]) h21
def S94 (a0 a1 : Value) (h : GH) (K : Value → GH → Prop) : Prop :=
 newV 162 (a0 : Value).cells.toList h fun v1 h2 =>
 newV 80 (a1 : Value).cells.toList h2 fun v3 h4 =>
 newV 164 ([(.int .i64 0)] ++ List.replicate 16 (.bool false) ++ List.replicate 32 (.int .i64 0) ++ [(.slice none 0 0)]) h4 fun v5 h6 =>
 T Tryz.prog 91 [v1] h6 fun v7 h8 =>
 bnd (unV .not v7) fun v9 =>
 ifV v9 (
 bnd (fillV ([(.int .i64 0)] ++ List.replicate 16 (.bool false) ++ List.replicate 32 (.int .i64 0) ++ [(.slice none 0 0)]) []) fun c10 =>
 bnd (stV 50 v5 (.agg c10.toArray) h8) fun h11 =>
 bnd (ldV 50 true v5 h11) fun v12 =>
 K (.tuple #[v12, (.int .i64 500)]) h11) (
 T Tryz.prog 25 [v3] h8 fun v13 h14 =>
 bnd (unV .not v13) fun v15 =>
 ifV v15 (
 bnd (fillV ([(.int .i64 0)] ++ List.replicate 16 (.bool false) ++ List.replicate 32 (.int .i64 0) ++ [(.slice none 0 0)]) []) fun c16 =>
 bnd (stV 50 v5 (.agg c16.toArray) h14) fun h17 =>
 bnd (ldV 50 true v5 h17) fun v18 =>
 K (.tuple #[v18, (.int .i64 500)]) h17) (
 bnd (faV 0 v3) fun v19 =>
 bnd (ldV 1 false v19 h14) fun v20 =>
 T Tryz.prog 93 [v20] h14 fun v21 h22 =>
 bnd (unV .not v21) fun v23 =>
 ifV v23 (
 bnd (fillV ([(.int .i64 0)] ++ List.replicate 16 (.bool false) ++ List.replicate 32 (.int .i64 0) ++ [(.slice none 0 0)]) []) fun c24 =>
 bnd (stV 50 v5 (.agg c24.toArray) h22) fun h25 =>
 bnd (ldV 50 true v5 h25) fun v26 =>
 K (.tuple #[v26, (.int .i64 500)]) h25) (
 S94_j1 v1 v3 v5 h22 K )))
def A94 : Ann := ⟨fun _ => ([], []), fun _ => []⟩
theorem S94_T {a0 a1 : Value} {h : GH} {K : Value → GH → Prop} (g : S94 a0 a1 h K) : T Tryz.prog 94 [a0, a1] h K :=
  T_of_gwp (A := A94) Tryz.func94 (c := bodyOf Tryz.f94) (by kernel_rfl) (by kernel_rfl) (by kernel_rfl) (by kernel_rfl) (by kernel_rfl) (Eq.mp (by kernel_rfl) g)
def S95 (a0 a1 a2 : Value) (h : GH) (K : Value → GH → Prop) : Prop :=
 T Tryz.prog 34 [a0] h fun v1 h2 =>
 bnd (unV .not v1) fun v3 =>
 ifV v3 (
 K (.tuple #[(.pointer none), (.int .i64 1500)]) h2) (
 T Tryz.prog 13 [a1, (.int .i64 1048576)] h2 fun v4 h5 =>
 bnd (unV .not v4) fun v6 =>
 ifV v6 (
 K (.tuple #[(.pointer none), (.int .i64 1500)]) h5) (
 T Tryz.prog 13 [a2, (.int .i64 16)] h5 fun v7 h8 =>
 bnd (unV .not v7) fun v9 =>
 ifV v9 (
 K (.tuple #[(.pointer none), (.int .i64 1500)]) h8) (
 bnd (fillV [(.int .i64 0), (.int .i64 0), (.int .i64 0), (.int .i64 0), (.pointer none), (.int .i64 0), (.int .i64 0), (.bool false)] [(0, 1, a0), (1, 1, a1), (2, 1, a2), (5, 1, (.int .i64 (-1)))]) fun c10 =>
 newV 222 ((.agg c10.toArray) : Value).cells.toList h8 fun v11 h12 =>
 K (.tuple #[v11, (.int .i64 0)]) h12)))
def A95 : Ann := ⟨fun _ => ([], []), fun _ => []⟩
theorem S95_T {a0 a1 a2 : Value} {h : GH} {K : Value → GH → Prop} (g : S95 a0 a1 a2 h K) : T Tryz.prog 95 [a0, a1, a2] h K :=
  T_of_gwp (A := A95) Tryz.func95 (c := bodyOf Tryz.f95) (by kernel_rfl) (by kernel_rfl) (by kernel_rfl) (by kernel_rfl) (by kernel_rfl) (Eq.mp (by kernel_rfl) g)
def S96_j1 (x0 x1 x2 : Value) (h : GH) (K : Value → GH → Prop)  : Prop :=
 T Tryz.prog 31 [x0] h fun v1 h2 =>
 T Tryz.prog 32 [x1, (.int .i64 0)] h2 fun v3 h4 =>
 bnd (lnV x2) fun v5 =>
 T Tryz.prog 18 [v5] h4 fun v6 h7 =>
 bsV 3 2 [(.int .i64 0), (.int .i64 0)] [(0, 1, v3), (1, 1, v6)] h7 fun v8 h9 =>
 bnd (fillV [(.int .i64 0), (.slice none 0 0)] [(0, 1, v1), (1, 1, v8)]) fun c10 =>
 newV 225 ((.agg c10.toArray) : Value).cells.toList h9 fun v11 h12 =>
 bnd (lnV x2) fun v13 =>
 Lfp (fun (s14 : Nat → Value) h15 again16 =>
 bnd (binV .lss (s14 3) (s14 2)) fun v17 =>
 ifV v17 (
 bnd (isV 3 (s14 1) (s14 3)) fun v18 =>
 bnd (ldV 3 true v18 h15) fun v19 =>
 newV 227 [(.int .i64 0), (.int .i64 0), (.int .i64 0)] h15 fun v20 h21 =>
 bnd (stV 3 v20 v19 h21) fun h22 =>
 bnd (ncV (s14 0)) fun v23 =>
 bnd (faV 1 v23) fun v24 =>
 bnd (ldV 1 false v24 h22) fun v25 =>
 bnd (faV 0 v20) fun v26 =>
 bnd (ldV 1 false v26 h22) fun v27 =>
 bnd (faV 1 v20) fun v28 =>
 bnd (ldV 1 false v28 h22) fun v29 =>
 bnd (faV 2 v20) fun v30 =>
 bnd (ldV 1 false v30 h22) fun v31 =>
 T Tryz.prog 18 [v27] h22 fun v32 h33 =>
 ldV 1 false v30 h33 = some v31 ∧
 ldV 1 false v28 h33 = some v29 ∧
 ldV 1 false v24 h33 = some v25 ∧
 T Tryz.prog 18 [v29] h33 fun v34 h35 =>
 ldV 1 false v30 h35 = some v31 ∧
 ldV 1 false v24 h35 = some v25 ∧
 T Tryz.prog 18 [v31] h35 fun v36 h37 =>
 ldV 1 false v24 h37 = some v25 ∧
 bsV 3 3 [(.int .i64 0), (.int .i64 0), (.int .i64 0)] [(0, 1, v32), (1, 1, v34), (2, 1, v36)] h37 fun v38 h39 =>
 apV 3 1 8 v25 v38 h39 fun v40 h41 =>
 bnd (ncV (s14 0)) fun v42 =>
 bnd (faV 1 v42) fun v43 =>
 bnd (stV 1 v43 v40 h41) fun h44 =>
 bnd (binV .add (s14 3) (.int .i64 1)) fun v45 =>
 again16 (tup [(s14 0), (s14 1), (s14 2), v45]) h44) (
 K (.tuple #[(s14 0), (.int .i64 0)]) h15)) (tup [v11, x2, v13, (.int .i64 0)]) h12
def S96 (a0 a1 a2 : Value) (h : GH) (K : Value → GH → Prop) : Prop :=
 T Tryz.prog 81 [a0, a1] h fun v1 h2 =>
 bnd (unV .not v1) fun v3 =>
 ifV v3 (
 K (.tuple #[(.pointer none), (.int .i64 1300)]) h2) (
 T Tryz.prog 119 [a2] h2 fun v4 h5 =>
 bnd (unV .not v4) fun v6 =>
 ifV v6 (
 K (.tuple #[(.pointer none), (.int .i64 1300)]) h5) (
 S96_j1 a0 a1 a2 h5 K ))
def A96 : Ann := ⟨fun | 7 => ([0, 1, 2, 3, 4, 5, 6, 8, 9, 11, 12, 7, 10, 13, 14, 15, 16, 17, 18], [0, 0, 2, 6, 14, 0, 32, 96, 0, 256, 992, 0, 2048, 8160, 16352, 32766, 65535, 131071, 262143]) | _ => ([], []), fun | 0 => [8, 30, 31, 32] | _ => []⟩
theorem S96_T {a0 a1 a2 : Value} {h : GH} {K : Value → GH → Prop} (g : S96 a0 a1 a2 h K) : T Tryz.prog 96 [a0, a1, a2] h K :=
  T_of_gwp (A := A96) Tryz.func96 (c := bodyOf Tryz.f96) (by kernel_rfl) (by kernel_rfl) (by kernel_rfl) (by kernel_rfl) (by kernel_rfl) (Eq.mp (by kernel_rfl) g)
def S97 (a0 : Value) (h : GH) (K : Value → GH → Prop) : Prop :=
 newV 162 (a0 : Value).cells.toList h fun v1 h2 =>
 bnd (faV 0 v1) fun v3 =>
 bnd (ldV 16 true v3 h2) fun v4 =>
 Lfp (fun (s5 : Nat → Value) h6 again7 =>
 bnd (binV .lss (s5 3) (.int .i64 16)) fun v8 =>
 ifV v8 (
 bnd (ixV 16 1 false (s5 2) (s5 3)) fun v9 =>
 ifV v9 (
 bnd (faV 16 (s5 0)) fun v10 =>
 bnd (iaV 16 1 v10 (s5 3)) fun v11 =>
 bnd (ldV 1 false v11 h6) fun v12 =>
 bnd (faV 32 (s5 0)) fun v13 =>
 bnd (iaV 16 1 v13 (s5 3)) fun v14 =>
 bnd (ldV 1 false v14 h6) fun v15 =>
 bnd (fillV [(.int .i64 0), (.int .i64 0), (.int .i64 0)] [(0, 1, (s5 3)), (1, 1, v12), (2, 1, v15)]) fun c16 =>
 bsV 227 1 [(.int .i64 0), (.int .i64 0), (.int .i64 0)] [(0, 3, (.agg c16.toArray))] h6 fun v17 h18 =>
 apV 227 3 24 (s5 1) v17 h18 fun v19 h20 =>
 bnd (binV .add (s5 3) (.int .i64 1)) fun v21 =>
 again7 (tup [(s5 0), v19, (s5 2), v21]) h20) (
 bnd (binV .add (s5 3) (.int .i64 1)) fun v22 =>
 again7 (tup [(s5 0), (s5 1), (s5 2), v22]) h6)) (
 K (s5 1) h6)) (tup [v1, (.slice none 0 0), v4, (.int .i64 0)]) h2
def A97 : Ann := ⟨fun | 6 => ([0, 1, 2, 3, 4, 5, 6, 7, 8, 9, 10, 11, 12, 13], [0, 0, 0, 0, 12, 28, 0, 0, 192, 448, 1022, 2046, 4095, 8191]) | _ => ([], []), fun | 0 => [1, 3, 7, 8] | _ => []⟩
theorem S97_T {a0 : Value} {h : GH} {K : Value → GH → Prop} (g : S97 a0 h K) : T Tryz.prog 97 [a0] h K :=
  T_of_gwp (A := A97) Tryz.func97 (c := bodyOf Tryz.f97) (by kernel_rfl) (by kernel_rfl) (by kernel_rfl) (by kernel_rfl) (by kernel_rfl) (Eq.mp (by kernel_rfl) g)
def S98 (a0 : Value) (h : GH) (K : Value → GH → Prop) : Prop :=
 bnd (eqK .ptr true a0 (.pointer none)) fun b1 =>
 ifV (.bool b1) (
 K (.int .i64 0) h) (
 bnd (ncV a0) fun v2 =>
 bnd (faV 3 v2) fun v3 =>
 bnd (ldV 1 false v3 h) fun v4 =>
 K v4 h)
def A98 : Ann := ⟨fun _ => ([], []), fun _ => []⟩
theorem S98_T {a0 : Value} {h : GH} {K : Value → GH → Prop} (g : S98 a0 h K) : T Tryz.prog 98 [a0] h K :=
  T_of_gwp (A := A98) Tryz.func98 (c := bodyOf Tryz.f98) (by kernel_rfl) (by kernel_rfl) (by kernel_rfl) (by kernel_rfl) (by kernel_rfl) (Eq.mp (by kernel_rfl) g)
def S99 (a0 : Value) (h : GH) (K : Value → GH → Prop) : Prop :=
 bnd (ncV a0) fun v1 =>
 bnd (faV 2 v1) fun v2 =>
 bnd (ldV 1 false v2 h) fun v3 =>
 K v3 h
def A99 : Ann := ⟨fun _ => ([], []), fun _ => []⟩
theorem S99_T {a0 : Value} {h : GH} {K : Value → GH → Prop} (g : S99 a0 h K) : T Tryz.prog 99 [a0] h K :=
  T_of_gwp (A := A99) Tryz.func99 (c := bodyOf Tryz.f99) (by kernel_rfl) (by kernel_rfl) (by kernel_rfl) (by kernel_rfl) (by kernel_rfl) (Eq.mp (by kernel_rfl) g)
def S100 (a0 a1 : Value) (h : GH) (K : Value → GH → Prop) : Prop :=
 bnd (taV 128 (.agg #[(.int .i64 0), (.int .i64 0), (.int .i64 0), (.int .i64 0), (.int .i64 0)]) true a0) fun v1 =>
 bnd (exV v1 1) fun v2 =>
 bnd (exV v1 0) fun v3 =>
 ifV v2 (
 newV 128 [(.int .i64 0), (.int .i64 0), (.int .i64 0), (.int .i64 0), (.int .i64 0)] h fun v4 h5 =>
 bnd (stV 5 v4 v3 h5) fun h6 =>
 bnd (faV 0 v4) fun v7 =>
 bnd (ldV 2 true v7 h6) fun v8 =>
 bnd (fillV [(.int .i64 0), (.int .i64 0), (.int .i64 0), (.int .i64 0), (.bool false), (.bool false)] [(0, 2, v8)]) fun c9 =>
 bnd (ldV 5 true v4 h6) fun v10 =>
 bnd (fillV [(.int .i64 0), (.int .i64 0), (.int .i64 0), (.int .i64 0), (.bool false), (.bool false), (.int .i64 0), (.int .i64 0), (.int .i64 0), (.int .i64 0), (.int .i64 0), (.int .i64 0)] [(0, 6, (.agg c9.toArray)), (6, 5, v10)]) fun c11 =>
 newV 232 ((.agg c11.toArray) : Value).cells.toList h6 fun v12 h13 =>
 K (.iface 228 v12) h13) (
 bnd (taV 75 (.agg #[(.int .i64 0), (.int .i64 0)]) true a0) fun v14 =>
 bnd (exV v14 1) fun v15 =>
 bnd (exV v14 0) fun v16 =>
 ifV v15 (
 newV 75 [(.int .i64 0), (.int .i64 0)] h fun v17 h18 =>
 bnd (stV 2 v17 v16 h18) fun h19 =>
 bnd (ldV 2 true v17 h19) fun v20 =>
 bnd (fillV [(.int .i64 0), (.int .i64 0), (.int .i64 0), (.int .i64 0), (.bool false), (.bool false)] [(0, 2, v20)]) fun c21 =>
 bnd (fillV [(.int .i64 0), (.int .i64 0), (.int .i64 0), (.int .i64 0), (.bool false), (.bool false), (.pointer none), (.int .i64 0), (.int .i64 0), (.int .i64 0), (.int .i64 0), .nilIface, (.int .i64 0)] [(0, 6, (.agg c21.toArray)), (6, 1, a1), (7, 1, (.int .i64 1))]) fun c22 =>
 newV 235 ((.agg c22.toArray) : Value).cells.toList h19 fun v23 h24 =>
 K (.iface 233 v23) h24) (
 K .nilIface h))
def A100 : Ann := ⟨fun _ => ([], []), fun _ => []⟩
theorem S100_T {a0 a1 : Value} {h : GH} {K : Value → GH → Prop} (g : S100 a0 a1 h K) : T Tryz.prog 100 [a0, a1] h K :=
  T_of_gwp (A := A100) Tryz.func100 (c := bodyOf Tryz.f100) (by kernel_rfl) (by kernel_rfl) (by kernel_rfl) (by kernel_rfl) (by kernel_rfl) (Eq.mp (by kernel_rfl) g)
def S101_j2 (x1 : Value) (h : GH) (K : Value → GH → Prop)  : Prop :=
 Lfp (fun (s1 : Nat → Value) h2 again3 =>
 bnd (binV .lss (s1 2) (s1 0)) fun v4 =>
 ifV v4 (
 bnd (binV .lss (s1 1) (.int .i64 8)) fun v5 =>
 ifV v5 (
 bnd (binV .mul (s1 1) (.int .i64 2)) fun v6 =>
 bnd (binV .add (s1 2) (.int .i64 1)) fun v7 =>
 again3 (tup [(s1 0), v6, v7]) h2) (
 bnd (mmV false (s1 1) [(.int .i64 8)]) fun v8 =>
 K (.tuple #[v8, (.int .i64 0)]) h2)) (
 bnd (mmV false (s1 1) [(.int .i64 8)]) fun v9 =>
 K (.tuple #[v9, (.int .i64 0)]) h2)) (tup [x1, (.int .i64 1), (.int .i64 1)]) h
def S101_j1 (x0 x1 x8 : Value) (h : GH) (K : Value → GH → Prop)  : Prop :=
 ifV x8 (
 K (.tuple #[(.int .i64 0), (.int .i64 1600)]) h) (
 bnd (unV .not x0) fun v1 =>
 ifV v1 (
 K (.tuple #[(.int .i64 0), (.int .i64 0)]) h) (
 bnd (eqI x1 (.int .i64 0)) fun b2 =>
 ifV (.bool b2) (
 K (.tuple #[(.int .i64 0), (.int .i64 0)]) h) (
 S101_j2 x1 h K )))
def S101 (a0 a1 : Value) (h : GH) (K : Value → GH → Prop) : Prop :=
 bnd (binV .lss a1 (.int .i64 0)) fun v1 =>
 ifV v1 (
 S101_j1 a0 a1 (.bool true) h K ) (
 bnd (binV .gtr a1 (.int .i64 16)) fun v2 =>
 S101_j1 a0 a1 v2 h K )
def A101 : Ann := ⟨fun _ => ([], []), fun | 1 => [1, 6, 7] | _ => []⟩
theorem S101_T {a0 a1 : Value} {h : GH} {K : Value → GH → Prop} (g : S101 a0 a1 h K) : T Tryz.prog 101 [a0, a1] h K :=
  T_of_gwp (A := A101) Tryz.func101 (c := bodyOf Tryz.f101) (by kernel_rfl) (by kernel_rfl) (by kernel_rfl) (by kernel_rfl) (by kernel_rfl) (Eq.mp (by kernel_rfl) g)
def S102 (a0 : Value) (h : GH) (K : Value → GH → Prop) : Prop :=
 bnd (eqK .ptr true a0 (.pointer none)) fun b1 =>
 ifV (.bool b1) (
 K (.slice none 0 0) h) (
 bnd (ncV a0) fun v2 =>
 bnd (faV 60 v2) fun v3 =>
 bnd (ldV 1 false v3 h) fun v4 =>
 T Tryz.prog 120 [v4] h fun v5 h6 =>
 K v5 h6)
def A102 : Ann := ⟨fun _ => ([], []), fun _ => []⟩
theorem S102_T {a0 : Value} {h : GH} {K : Value → GH → Prop} (g : S102 a0 h K) : T Tryz.prog 102 [a0] h K :=
  T_of_gwp (A := A102) Tryz.func102 (c := bodyOf Tryz.f102) (by kernel_rfl) (by kernel_rfl) (by kernel_rfl) (by kernel_rfl) (by kernel_rfl) (Eq.mp (by kernel_rfl) g)
def S103 (a0 : Value) (h : GH) (K : Value → GH → Prop) : Prop :=
 T Tryz.prog 13 [a0, (.int .i64 1099511627776)] h fun v1 h2 =>
 K v1 h2
def A103 : Ann := ⟨fun _ => ([], []), fun _ => []⟩
theorem S103_T {a0 : Value} {h : GH} {K : Value → GH → Prop} (g : S103 a0 h K) : T Tryz.prog 103 [a0] h K :=
  T_of_gwp (A := A103) Tryz.func103 (c := bodyOf Tryz.f103) (by kernel_rfl) (by kernel_rfl) (by kernel_rfl) (by kernel_rfl) (by kernel_rfl) (Eq.mp (by kernel_rfl) g)
def S104 (a0 : Value) (h : GH) (K : Value → GH → Prop) : Prop :=
 newV 188 [(.int .i64 0), (.int .i64 0)] h fun v1 h2 =>
 bnd (fillV [(.int .i64 0), (.int .i64 0)] [(0, 1, a0)]) fun c3 =>
 bnd (stV 2 v1 (.agg c3.toArray) h2) fun h4 =>
 bnd (ldV 2 true v1 h4) fun v5 =>
 K v5 h4
def A104 : Ann := ⟨fun _ => ([], []), fun _ => []⟩
theorem S104_T {a0 : Value} {h : GH} {K : Value → GH → Prop} (g : S104 a0 h K) : T Tryz.prog 104 [a0] h K :=
  T_of_gwp (A := A104) Tryz.func104 (c := bodyOf Tryz.f104) (by kernel_rfl) (by kernel_rfl) (by kernel_rfl) (by kernel_rfl) (by kernel_rfl) (Eq.mp (by kernel_rfl) g)
def S105 (a0 a1 a2 : Value) (h : GH) (K : Value → GH → Prop) : Prop :=
 newV 211 (a0 : Value).cells.toList h fun v1 h2 =>
 bnd (ldV 1 true v1 h2) fun v3 =>
 T Tryz.prog 121 [v3, a1, a2] h2 fun v4 h5 =>
 bnd (binV .sub v4 (.int .i64 1)) fun v6 =>
 bnd (binV .leq v6 a1) fun v7 =>
 ifV v7 (
 K (.int .i64 (-1)) h5) (
 bnd (binV .geq v6 (.int .i64 5)) fun v8 =>
 ifV v8 (
 K (.int .i64 (-1)) h5) (
 K v6 h5))
def A105 : Ann := ⟨fun _ => ([], []), fun _ => []⟩
theorem S105_T {a0 a1 a2 : Value} {h : GH} {K : Value → GH → Prop} (g : S105 a0 a1 a2 h K) : T Tryz.prog 105 [a0, a1, a2] h K :=
  T_of_gwp (A := A105) Tryz.func105 (c := bodyOf Tryz.f105) (by kernel_rfl) (by kernel_rfl) (by kernel_rfl) (by kernel_rfl) (by kernel_rfl) (Eq.mp (by kernel_rfl) g)
def S106 (a0 : Value) (h : GH) (K : Value → GH → Prop) : Prop :=
 newV 188 [(.int .i64 0), (.int .i64 0)] h fun v1 h2 =>
 bnd (fillV [(.int .i64 0), (.int .i64 0)] [(0, 1, (.int .i64 0)), (1, 1, a0)]) fun c3 =>
 bnd (stV 2 v1 (.agg c3.toArray) h2) fun h4 =>
 bnd (ldV 2 true v1 h4) fun v5 =>
 K v5 h4
def A106 : Ann := ⟨fun _ => ([], []), fun _ => []⟩
theorem S106_T {a0 : Value} {h : GH} {K : Value → GH → Prop} (g : S106 a0 h K) : T Tryz.prog 106 [a0] h K :=
  T_of_gwp (A := A106) Tryz.func106 (c := bodyOf Tryz.f106) (by kernel_rfl) (by kernel_rfl) (by kernel_rfl) (by kernel_rfl) (by kernel_rfl) (Eq.mp (by kernel_rfl) g)
def S107 (a0 a1 a2 : Value) (h : GH) (K : Value → GH → Prop) : Prop :=
 newV 188 (a2 : Value).cells.toList h fun v1 h2 =>
 newV 164 ([(.int .i64 0)] ++ List.replicate 16 (.bool false) ++ List.replicate 32 (.int .i64 0) ++ [(.slice none 0 0)]) h2 fun v3 h4 =>
 bnd (ncV a0) fun v5 =>
 bnd (faV 48 v5) fun v6 =>
 bnd (ldV 1 false v6 h4) fun v7 =>
 bnd (taV 237 (.int .i64 0) true v7) fun v8 =>
 bnd (exV v8 0) fun v9 =>
 bnd (exV v8 1) fun v10 =>
 ifV v10 (
 bnd (ncV a1) fun v11 =>
 bnd (ldV 48 true v11 h4) fun v12 =>
 bnd (fillV ([(.int .i64 0)] ++ List.replicate 16 (.bool false) ++ List.replicate 32 (.int .i64 0) ++ [(.slice none 0 0)]) [(0, 1, v9), (1, 48, v12)]) fun c13 =>
 bnd (stV 50 v3 (.agg c13.toArray) h4) fun h14 =>
 bnd (ldV 50 true v3 h14) fun v15 =>
 K v15 h14) (
 bnd (ncV a0) fun v16 =>
 bnd (faV 0 v16) fun v17 =>
 bnd (ldV 48 true v17 h4) fun v18 =>
 bnd (ldV 2 true v1 h4) fun v19 =>
 bsV 188 1 [(.int .i64 0), (.int .i64 0)] [(0, 2, v19)] h4 fun v20 h21 =>
 bnd (fillV ([(.int .i64 0)] ++ List.replicate 16 (.bool false) ++ List.replicate 32 (.int .i64 0) ++ [(.slice none 0 0)]) [(0, 1, (.int .i64 (-1))), (1, 48, v18), (49, 1, v20)]) fun c22 =>
 newV 164 ([(.int .i64 0)] ++ List.replicate 16 (.bool false) ++ List.replicate 32 (.int .i64 0) ++ [(.slice none 0 0)]) h21 fun v23 h24 =>
 bnd (stV 50 v23 (.agg c22.toArray) h24) fun h25 =>
 bnd (faV 0 v1) fun v26 =>
 bnd (ldV 1 false v26 h25) fun v27 =>
 bnd (eqI v27 (.int .i64 0)) fun b28 =>
 ifV (.bool (!b28)) (
 bnd (ncV a1) fun v29 =>
 bnd (ldV 48 true v29 h25) fun v30 =>
 bnd (faV 1 v23) fun v31 =>
 bnd (stV 48 v31 v30 h25) fun h32 =>
 bnd (ldV 50 true v23 h32) fun v33 =>
 bnd (stV 50 v3 v33 h32) fun h34 =>
 bnd (ldV 50 true v3 h34) fun v35 =>
 K v35 h34) (
 bnd (ldV 50 true v23 h25) fun v36 =>
 bnd (stV 50 v3 v36 h25) fun h37 =>
 bnd (ldV 50 true v3 h37) fun v38 =>
 K v38 h37))
def A107 : Ann := ⟨fun | 4 => ([0, 1, 2, 3, 4, 5, 6, 7, 8], [0, 1, 3, 7, 0, 16, 63, 0, 255]) | _ => ([], []), fun _ => []⟩
theorem S107_T {a0 a1 a2 : Value} {h : GH} {K : Value → GH → Prop} (g : S107 a0 a1 a2 h K) : T Tryz.prog 107 [a0, a1, a2] h K :=
  T_of_gwp (A := A107) Tryz.func107 (c := bodyOf Tryz.f107) (by kernel_rfl) (by kernel_rfl) (by kernel_rfl) (by kernel_rfl) (by kernel_rfl) (Eq.mp (by kernel_rfl) g)
def S108 (a0 a1 : Value) (h : GH) (K : Value → GH → Prop) : Prop :=
 newV 188 [(.int .i64 0), (.int .i64 0)] h fun v1 h2 =>
 bnd (ncV a0) fun v3 =>
 bnd (faV 3 v3) fun v4 =>
 bnd (ldV 1 false v4 h2) fun v5 =>
 bnd (ncV a1) fun v6 =>
 bnd (faV 1 v6) fun v7 =>
 bnd (ldV 1 false v7 h2) fun v8 =>
 bnd (eqI v5 v8) fun b9 =>
 ifV (.bool b9) (
 T Tryz.prog 104 [(.int .i64 1)] h2 fun v10 h11 =>
 bnd (stV 2 v1 v10 h11) fun h12 =>
 bnd (ldV 2 true v1 h12) fun v13 =>
 K v13 h12) (
 bnd (ncV a0) fun v14 =>
 bnd (faV 0 v14) fun v15 =>
 bnd (ldV 1 true v15 h2) fun v16 =>
 bnd (ncV a1) fun v17 =>
 bnd (faV 1 v17) fun v18 =>
 bnd (ldV 1 false v18 h2) fun v19 =>
 bnd (ncV a0) fun v20 =>
 bnd (faV 2 v20) fun v21 =>
 bnd (ldV 1 false v21 h2) fun v22 =>
 T Tryz.prog 122 [v16, v19, v22, (.int .i64 0)] h2 fun v23 h24 =>
 bnd (ncV a1) fun v25 =>
 bnd (faV 3 v25) fun v26 =>
 bnd (ldV 1 false v26 h24) fun v27 =>
 bnd (eqI v27 (.int .i64 1)) fun b28 =>
 ifV (.bool b28) (
 bnd (ncV a0) fun v29 =>
 bnd (faV 0 v29) fun v30 =>
 bnd (ldV 1 true v30 h24) fun v31 =>
 bnd (ncV a1) fun v32 =>
 bnd (faV 1 v32) fun v33 =>
 bnd (ldV 1 false v33 h24) fun v34 =>
 bnd (ncV a0) fun v35 =>
 bnd (faV 1 v35) fun v36 =>
 bnd (ldV 1 false v36 h24) fun v37 =>
 T Tryz.prog 122 [v31, v34, v37, (.int .i64 1)] h24 fun v38 h39 =>
 bnd (ncV a1) fun v40 =>
 bnd (faV 1 v40) fun v41 =>
 bnd (ldV 1 false v41 h39) fun v42 =>
 T Tryz.prog 106 [v42] h39 fun v43 h44 =>
 bnd (stV 2 v1 v43 h44) fun h45 =>
 bnd (ldV 2 true v1 h45) fun v46 =>
 K v46 h45) (
 bnd (ncV a1) fun v47 =>
 bnd (faV 1 v47) fun v48 =>
 bnd (ldV 1 false v48 h24) fun v49 =>
 T Tryz.prog 106 [v49] h24 fun v50 h51 =>
 bnd (stV 2 v1 v50 h51) fun h52 =>
 bnd (ldV 2 true v1 h52) fun v53 =>
 K v53 h52))
def A108 : Ann := ⟨fun | 1 => ([0, 1, 2, 3, 4, 5, 6, 7, 8], [0, 1, 3, 7, 0, 16, 48, 112, 255]) | 3 => ([0, 1, 2, 3, 4, 5, 6, 7, 8, 9, 10, 11, 12], [0, 1, 3, 7, 0, 16, 48, 112, 0, 256, 768, 1792, 4095]) | 5 => ([0, 1, 2, 3, 4, 5, 6, 7, 8, 9, 10, 11, 12], [0, 1, 3, 7, 0, 16, 48, 112, 0, 256, 768, 1792, 4095]) | _ => ([], []), fun _ => []⟩
theorem S108_T {a0 a1 : Value} {h : GH} {K : Value → GH → Prop} (g : S108 a0 a1 h K) : T Tryz.prog 108 [a0, a1] h K :=
  T_of_gwp (A := A108) Tryz.func108 (c := bodyOf Tryz.f108) (by kernel_rfl) (by kernel_rfl) (by kernel_rfl) (by kernel_rfl) (by kernel_rfl) (Eq.mp (by kernel_rfl) g)
def S109 (a0 a1 : Value) (h : GH) (K : Value → GH → Prop) : Prop :=
 newV 188 [(.int .i64 0), (.int .i64 0)] h fun v1 h2 =>
 bnd (ncV a0) fun v3 =>
 bnd (faV 3 v3) fun v4 =>
 bnd (ldV 1 false v4 h2) fun v5 =>
 bnd (ncV a1) fun v6 =>
 bnd (faV 1 v6) fun v7 =>
 bnd (ldV 1 false v7 h2) fun v8 =>
 bnd (eqI v5 v8) fun b9 =>
 ifV (.bool (!b9)) (
 T Tryz.prog 104 [(.int .i64 2)] h2 fun v10 h11 =>
 bnd (stV 2 v1 v10 h11) fun h12 =>
 bnd (ldV 2 true v1 h12) fun v13 =>
 K v13 h12) (
 bnd (ncV a0) fun v14 =>
 bnd (faV 0 v14) fun v15 =>
 bnd (ldV 1 true v15 h2) fun v16 =>
 bnd (ncV a1) fun v17 =>
 bnd (faV 1 v17) fun v18 =>
 bnd (ldV 1 false v18 h2) fun v19 =>
 bnd (ncV a0) fun v20 =>
 bnd (faV 2 v20) fun v21 =>
 bnd (ldV 1 false v21 h2) fun v22 =>
 T Tryz.prog 123 [v16, v19, v22, (.int .i64 0)] h2 fun v23 h24 =>
 bnd (ncV a0) fun v25 =>
 bnd (faV 0 v25) fun v26 =>
 bnd (ldV 1 true v26 h24) fun v27 =>
 bnd (ncV a0) fun v28 =>
 bnd (faV 1 v28) fun v29 =>
 bnd (ldV 1 false v29 h24) fun v30 =>
 bnd (ncV a1) fun v31 =>
 bnd (faV 1 v31) fun v32 =>
 bnd (ldV 1 false v32 h24) fun v33 =>
 T Tryz.prog 105 [v27, v30, (.int .i64 1)] h24 fun v34 h35 =>
 ldV 1 false v32 h35 = some v33 ∧
 bnd (eqI v34 v33) fun b36 =>
 ifV (.bool b36) (
 bnd (ncV a0) fun v37 =>
 bnd (faV 0 v37) fun v38 =>
 bnd (ldV 1 true v38 h35) fun v39 =>
 bnd (ncV a1) fun v40 =>
 bnd (faV 1 v40) fun v41 =>
 bnd (ldV 1 false v41 h35) fun v42 =>
 bnd (ncV a0) fun v43 =>
 bnd (faV 1 v43) fun v44 =>
 bnd (ldV 1 false v44 h35) fun v45 =>
 T Tryz.prog 123 [v39, v42, v45, (.int .i64 1)] h35 fun v46 h47 =>
 bnd (ncV a1) fun v48 =>
 bnd (faV 1 v48) fun v49 =>
 bnd (ldV 1 false v49 h47) fun v50 =>
 T Tryz.prog 106 [v50] h47 fun v51 h52 =>
 bnd (stV 2 v1 v51 h52) fun h53 =>
 bnd (ldV 2 true v1 h53) fun v54 =>
 K v54 h53) (
 bnd (ncV a1) fun v55 =>
 bnd (faV 1 v55) fun v56 =>
 bnd (ldV 1 false v56 h35) fun v57 =>
 T Tryz.prog 106 [v57] h35 fun v58 h59 =>
 bnd (stV 2 v1 v58 h59) fun h60 =>
 bnd (ldV 2 true v1 h60) fun v61 =>
 K v61 h60))
def A109 : Ann := ⟨fun | 1 => ([0, 1, 2, 3, 4, 5, 6, 7, 8], [0, 1, 3, 7, 0, 16, 48, 112, 255]) | 3 => ([0, 1, 2, 3, 4, 5, 6, 7, 8, 9, 10, 11, 12], [0, 1, 3, 7, 0, 16, 48, 112, 0, 256, 768, 1792, 4095]) | 4 => ([0, 1, 2, 3, 4, 5, 6, 7, 9, 10, 11, 12, 8, 13], [0, 1, 3, 7, 0, 16, 48, 112, 255, 0, 512, 1536, 3584, 8191]) | 5 => ([0, 1, 2, 3, 4, 5, 6, 7, 8, 9, 10, 11, 12], [0, 1, 3, 7, 0, 16, 48, 112, 0, 256, 768, 1792, 4095]) | _ => ([], []), fun _ => []⟩
theorem S109_T {a0 a1 : Value} {h : GH} {K : Value → GH → Prop} (g : S109 a0 a1 h K) : T Tryz.prog 109 [a0, a1] h K :=
  T_of_gwp (A := A109) Tryz.func109 (c := bodyOf Tryz.f109) (by kernel_rfl) (by kernel_rfl) (by kernel_rfl) (by kernel_rfl) (by kernel_rfl) (Eq.mp (by kernel_rfl) g)
def S110 (a0 a1 : Value) (h : GH) (K : Value → GH → Prop) : Prop :=
 newV 188 [(.int .i64 0), (.int .i64 0)] h fun v1 h2 =>
 bnd (ncV a0) fun v3 =>
 bnd (faV 3 v3) fun v4 =>
 bnd (ldV 1 false v4 h2) fun v5 =>
 bnd (ncV a1) fun v6 =>
 bnd (faV 1 v6) fun v7 =>
 bnd (ldV 1 false v7 h2) fun v8 =>
 bnd (eqI v5 v8) fun b9 =>
 ifV (.bool b9) (
 T Tryz.prog 106 [(.int .i64 1)] h2 fun v10 h11 =>
 bnd (stV 2 v1 v10 h11) fun h12 =>
 bnd (ldV 2 true v1 h12) fun v13 =>
 K v13 h12) (
 T Tryz.prog 106 [(.int .i64 0)] h2 fun v14 h15 =>
 bnd (stV 2 v1 v14 h15) fun h16 =>
 bnd (ldV 2 true v1 h16) fun v17 =>
 K v17 h16)
def A110 : Ann := ⟨fun | 1 => ([0, 1, 2, 3, 4, 5, 6, 7, 8], [0, 1, 3, 7, 0, 16, 48, 112, 255]) | _ => ([], []), fun _ => []⟩
theorem S110_T {a0 a1 : Value} {h : GH} {K : Value → GH → Prop} (g : S110 a0 a1 h K) : T Tryz.prog 110 [a0, a1] h K :=
  T_of_gwp (A := A110) Tryz.func110 (c := bodyOf Tryz.f110) (by kernel_rfl) (by kernel_rfl) (by kernel_rfl) (by kernel_rfl) (by kernel_rfl) (Eq.mp (by kernel_rfl) g)
def S111_j1 (s6 : Nat → Value) (x0 x1 x4 x5 x6 : Value) (h : GH) (K : Value → GH → Prop) (again8 : (Nat → Value) → GH → Prop) : Prop :=
 bnd (binV .shl (.int .i64 1) x6) fun v1 =>
 bnd (binV .or x5 v1) fun v2 =>
 bnd (ncV x0) fun v3 =>
 bnd (faV 0 v3) fun v4 =>
 bnd (ldV 1 true v4 h) fun v5 =>
 T Tryz.prog 105 [v5, x6, (.int .i64 0)] h fun v6 h7 =>
 again8 (tup [x0, x1, x4, v2, v6]) h7
def S111 (a0 a1 : Value) (h : GH) (K : Value → GH → Prop) : Prop :=
 newV 188 [(.int .i64 0), (.int .i64 0)] h fun v1 h2 =>
 bnd (ncV a0) fun v3 =>
 bnd (faV 3 v3) fun v4 =>
 bnd (ldV 1 false v4 h2) fun v5 =>
 Lfp (fun (s6 : Nat → Value) h7 again8 =>
 bnd (eqI (s6 4) (.int .i64 (-1))) fun b9 =>
 ifV (.bool (!b9)) (
 bnd (ncV (s6 1)) fun v10 =>
 bnd (faV 2 v10) fun v11 =>
 bnd (ldV 1 false v11 h7) fun v12 =>
 bnd (binV .leq (s6 4) v12) fun v13 =>
 ifV v13 (
 S111_j1 s6 (s6 0) (s6 1) (s6 2) (s6 3) (s6 4) h7 K again8) (
 T Tryz.prog 106 [(s6 3)] h7 fun v14 h15 =>
 bnd (stV 2 (s6 2) v14 h15) fun h16 =>
 bnd (ldV 2 true (s6 2) h16) fun v17 =>
 K v17 h16)) (
 T Tryz.prog 106 [(s6 3)] h7 fun v18 h19 =>
 bnd (stV 2 (s6 2) v18 h19) fun h20 =>
 bnd (ldV 2 true (s6 2) h20) fun v21 =>
 K v21 h20)) (tup [a0, a1, v1, (.int .i64 0), v5]) h2
def A111 : Ann := ⟨fun _ => ([], []), fun | 0 => [0, 1, 4, 5, 6] | _ => []⟩
theorem S111_T {a0 a1 : Value} {h : GH} {K : Value → GH → Prop} (g : S111 a0 a1 h K) : T Tryz.prog 111 [a0, a1] h K :=
  T_of_gwp (A := A111) Tryz.func111 (c := bodyOf Tryz.f111) (by kernel_rfl) (by kernel_rfl) (by kernel_rfl) (by kernel_rfl) (by kernel_rfl) (Eq.mp (by kernel_rfl) g)
def S112 (a0 a1 : Value) (h : GH) (K : Value → GH → Prop) : Prop :=
 newV 211 (a0 : Value).cells.toList h fun v1 h2 =>
 bnd (ldV 1 true v1 h2) fun v3 =>
 bnd (fillV [(.pointer none), (.int .i64 0), (.int .i64 0), (.int .i64 0)] [(0, 1, v3)]) fun c4 =>
 newV 240 ((.agg c4.toArray) : Value).cells.toList h2 fun v5 h6 =>
 bnd (ldV 1 true v1 h6) fun v7 =>
 T Tryz.prog 124 [v7, a1, (.int .i64 (-1)), (.int .i64 1)] h6 fun v8 h9 =>
 bnd (ncV v5) fun v10 =>
 bnd (faV 1 v10) fun v11 =>
 bnd (stV 1 v11 v8 h9) fun h12 =>
 bnd (ldV 1 true v1 h12) fun v13 =>
 bnd (ncV v5) fun v14 =>
 bnd (faV 1 v14) fun v15 =>
 bnd (ldV 1 false v15 h12) fun v16 =>
 T Tryz.prog 124 [v13, a1, v16, (.int .i64 0)] h12 fun v17 h18 =>
 bnd (ncV v5) fun v19 =>
 bnd (faV 2 v19) fun v20 =>
 bnd (stV 1 v20 v17 h18) fun h21 =>
 bnd (ldV 1 true v1 h21) fun v22 =>
 bnd (ncV v5) fun v23 =>
 bnd (faV 2 v23) fun v24 =>
 bnd (ldV 1 false v24 h21) fun v25 =>
 T Tryz.prog 105 [v22, v25, (.int .i64 0)] h21 fun v26 h27 =>
 bnd (ncV v5) fun v28 =>
 bnd (faV 3 v28) fun v29 =>
 bnd (stV 1 v29 v26 h27) fun h30 =>
 K v5 h30
def A112 : Ann := ⟨fun | 3 => ([0, 1, 2, 3, 4, 5, 6, 7, 8, 9, 10], [0, 0, 0, 0, 8, 24, 56, 126, 255, 511, 1023]) | 4 => ([0, 1, 2, 3, 4, 5, 6, 7, 8, 9], [0, 0, 0, 4, 12, 28, 62, 127, 255, 511]) | _ => ([], []), fun _ => []⟩
theorem S112_T {a0 a1 : Value} {h : GH} {K : Value → GH → Prop} (g : S112 a0 a1 h K) : T Tryz.prog 112 [a0, a1] h K :=
  T_of_gwp (A := A112) Tryz.func112 (c := bodyOf Tryz.f112) (by kernel_rfl) (by kernel_rfl) (by kernel_rfl) (by kernel_rfl) (by kernel_rfl) (Eq.mp (by kernel_rfl) g)
def S113 (a0 a1 : Value) (h : GH) (K : Value → GH → Prop) : Prop :=
 newV 188 [(.int .i64 0), (.int .i64 0)] h fun v1 h2 =>
 bnd (ncV a1) fun v3 =>
 bnd (faV 1 v3) fun v4 =>
 bnd (ldV 1 false v4 h2) fun v5 =>
 T Tryz.prog 125 [a0, v5] h2 fun v6 h7 =>
 bnd (ncV v6) fun v8 =>
 bnd (faV 2 v8) fun v9 =>
 bnd (ldV 1 false v9 h7) fun v10 =>
 ifV v10 (
 T Tryz.prog 126 [(.int .i64 1)] h7 fun v11 h12 =>
 bnd (stV 2 v1 v11 h12) fun h13 =>
 bnd (ldV 2 true v1 h13) fun v14 =>
 K v14 h13) (
 bnd (ncV a1) fun v15 =>
 bnd (faV 3 v15) fun v16 =>
 bnd (ldV 1 false v16 h7) fun v17 =>
 T Tryz.prog 127 [v6, v17] h7 fun v18 h19 =>
 bnd (stV 2 v1 v18 h19) fun h20 =>
 bnd (ldV 2 true v1 h20) fun v21 =>
 K v21 h20)
def A113 : Ann := ⟨fun _ => ([], []), fun _ => []⟩
theorem S113_T {a0 a1 : Value} {h : GH} {K : Value → GH → Prop} (g : S113 a0 a1 h K) : T Tryz.prog 113 [a0, a1] h K :=
  T_of_gwp (A := A113) Tryz.func113 (c := bodyOf Tryz.f113) (by kernel_rfl) (by kernel_rfl) (by kernel_rfl) (by kernel_rfl) (by kernel_rfl) (Eq.mp (by kernel_rfl) g)
def S114 (a0 a1 : Value) (h : GH) (K : Value → GH → Prop) : Prop :=
 newV 188 [(.int .i64 0), (.int .i64 0)] h fun v1 h2 =>
 bnd (ncV a1) fun v3 =>
 bnd (faV 1 v3) fun v4 =>
 bnd (ldV 1 false v4 h2) fun v5 =>
 T Tryz.prog 125 [a0, v5] h2 fun v6 h7 =>
 bnd (ncV v6) fun v8 =>
 bnd (faV 2 v8) fun v9 =>
 bnd (ldV 1 false v9 h7) fun v10 =>
 bnd (unV .not v10) fun v11 =>
 ifV v11 (
 T Tryz.prog 126 [(.int .i64 2)] h7 fun v12 h13 =>
 bnd (stV 2 v1 v12 h13) fun h14 =>
 bnd (ldV 2 true v1 h14) fun v15 =>
 K v15 h14) (
 bnd (ncV v6) fun v16 =>
 bnd (faV 1 v16) fun v17 =>
 bnd (ldV 1 false v17 h7) fun v18 =>
 T Tryz.prog 128 [a0, v18, (.int .i64 0)] h7 fun v19 h20 =>
 bnd (ncV v6) fun v21 =>
 bnd (faV 3 v21) fun v22 =>
 bnd (ldV 1 false v22 h20) fun v23 =>
 T Tryz.prog 129 [v23] h20 fun v24 h25 =>
 bnd (stV 2 v1 v24 h25) fun h26 =>
 bnd (ldV 2 true v1 h26) fun v27 =>
 K v27 h26)
def A114 : Ann := ⟨fun _ => ([], []), fun _ => []⟩
theorem S114_T {a0 a1 : Value} {h : GH} {K : Value → GH → Prop} (g : S114 a0 a1 h K) : T Tryz.prog 114 [a0, a1] h K :=
  T_of_gwp (A := A114) Tryz.func114 (c := bodyOf Tryz.f114) (by kernel_rfl) (by kernel_rfl) (by kernel_rfl) (by kernel_rfl) (by kernel_rfl) (Eq.mp (by kernel_rfl) g)
def S115 (a0 a1 : Value) (h : GH) (K : Value → GH → Prop) : Prop :=
 newV 188 [(.int .i64 0), (.int .i64 0)] h fun v1 h2 =>
 bnd (ncV a1) fun v3 =>
 bnd (faV 1 v3) fun v4 =>
 bnd (ldV 1 false v4 h2) fun v5 =>
 T Tryz.prog 125 [a0, v5] h2 fun v6 h7 =>
 bnd (ncV v6) fun v8 =>
 bnd (faV 2 v8) fun v9 =>
 bnd (ldV 1 false v9 h7) fun v10 =>
 bnd (unV .not v10) fun v11 =>
 ifV v11 (
 T Tryz.prog 126 [(.int .i64 2)] h7 fun v12 h13 =>
 bnd (stV 2 v1 v12 h13) fun h14 =>
 bnd (ldV 2 true v1 h14) fun v15 =>
 K v15 h14) (
 bnd (ncV v6) fun v16 =>
 bnd (faV 3 v16) fun v17 =>
 bnd (ldV 1 false v17 h7) fun v18 =>
 bnd (ncV a1) fun v19 =>
 bnd (faV 3 v19) fun v20 =>
 bnd (ldV 1 false v20 h7) fun v21 =>
 bnd (binV .sub (.int .i64 1048575) v21) fun v22 =>
 bnd (binV .gtr v18 v22) fun v23 =>
 ifV v23 (
 T Tryz.prog 126 [(.int .i64 4)] h7 fun v24 h25 =>
 bnd (stV 2 v1 v24 h25) fun h26 =>
 bnd (ldV 2 true v1 h26) fun v27 =>
 K v27 h26) (
 bnd (ncV v6) fun v28 =>
 bnd (faV 3 v28) fun v29 =>
 bnd (ldV 1 false v29 h7) fun v30 =>
 bnd (ncV a1) fun v31 =>
 bnd (faV 3 v31) fun v32 =>
 bnd (ldV 1 false v32 h7) fun v33 =>
 bnd (binV .add v30 v33) fun v34 =>
 T Tryz.prog 127 [v6, v34] h7 fun v35 h36 =>
 bnd (stV 2 v1 v35 h36) fun h37 =>
 bnd (ldV 2 true v1 h37) fun v38 =>
 K v38 h37))
def A115 : Ann := ⟨fun | 4 => ([0, 1, 2, 3, 4, 5, 6, 7, 8, 9, 10], [0, 1, 3, 7, 0, 16, 48, 112, 240, 511, 1023]) | 6 => ([0, 1, 2, 3, 4, 5, 6, 7, 8, 9, 10, 11], [0, 0, 2, 6, 14, 0, 32, 96, 224, 510, 1023, 2047]) | _ => ([], []), fun _ => []⟩
theorem S115_T {a0 a1 : Value} {h : GH} {K : Value → GH → Prop} (g : S115 a0 a1 h K) : T Tryz.prog 115 [a0, a1] h K :=
  T_of_gwp (A := A115) Tryz.func115 (c := bodyOf Tryz.f115) (by kernel_rfl) (by kernel_rfl) (by kernel_rfl) (by kernel_rfl) (by kernel_rfl) (Eq.mp (by kernel_rfl) g)
def S116 (a0 a1 : Value) (h : GH) (K : Value → GH → Prop) : Prop :=
 newV 188 [(.int .i64 0), (.int .i64 0)] h fun v1 h2 =>
 bnd (ncV a1) fun v3 =>
 bnd (faV 1 v3) fun v4 =>
 bnd (ldV 1 false v4 h2) fun v5 =>
 T Tryz.prog 125 [a0, v5] h2 fun v6 h7 =>
 bnd (ncV v6) fun v8 =>
 bnd (faV 2 v8) fun v9 =>
 bnd (ldV 1 false v9 h7) fun v10 =>
 bnd (unV .not v10) fun v11 =>
 ifV v11 (
 T Tryz.prog 126 [(.int .i64 2)] h7 fun v12 h13 =>
 bnd (stV 2 v1 v12 h13) fun h14 =>
 bnd (ldV 2 true v1 h14) fun v15 =>
 K v15 h14) (
 bnd (ncV v6) fun v16 =>
 bnd (faV 3 v16) fun v17 =>
 bnd (ldV 1 false v17 h7) fun v18 =>
 bnd (ncV a1) fun v19 =>
 bnd (faV 3 v19) fun v20 =>
 bnd (ldV 1 false v20 h7) fun v21 =>
 bnd (binV .lss v18 v21) fun v22 =>
 ifV v22 (
 T Tryz.prog 126 [(.int .i64 3)] h7 fun v23 h24 =>
 bnd (stV 2 v1 v23 h24) fun h25 =>
 bnd (ldV 2 true v1 h25) fun v26 =>
 K v26 h25) (
 bnd (ncV v6) fun v27 =>
 bnd (faV 3 v27) fun v28 =>
 bnd (ldV 1 false v28 h7) fun v29 =>
 bnd (ncV a1) fun v30 =>
 bnd (faV 3 v30) fun v31 =>
 bnd (ldV 1 false v31 h7) fun v32 =>
 bnd (binV .sub v29 v32) fun v33 =>
 T Tryz.prog 127 [v6, v33] h7 fun v34 h35 =>
 bnd (stV 2 v1 v34 h35) fun h36 =>
 bnd (ldV 2 true v1 h36) fun v37 =>
 K v37 h36))
def A116 : Ann := ⟨fun | 4 => ([0, 1, 2, 3, 4, 5, 6, 7, 8, 9], [0, 1, 3, 7, 0, 16, 48, 112, 255, 511]) | 6 => ([0, 1, 2, 3, 4, 5, 6, 7, 8, 9, 10, 11], [0, 0, 2, 6, 14, 0, 32, 96, 224, 510, 1023, 2047]) | _ => ([], []), fun _ => []⟩
theorem S116_T {a0 a1 : Value} {h : GH} {K : Value → GH → Prop} (g : S116 a0 a1 h K) : T Tryz.prog 116 [a0, a1] h K :=
  T_of_gwp (A := A116) Tryz.func116 (c := bodyOf Tryz.f116) (by kernel_rfl) (by kernel_rfl) (by kernel_rfl) (by kernel_rfl) (by kernel_rfl) (Eq.mp (by kernel_rfl) g)
def S117_j2 (x1 x4 x5 x6 : Value) (h : GH) (K : Value → GH → Prop)  : Prop :=
 bnd (ncV x6) fun v1 =>
 bnd (faV 3 v1) fun v2 =>
 bnd (ldV 1 false v2 h) fun v3 =>
 bnd (ncV x1) fun v4 =>
 bnd (faV 3 v4) fun v5 =>
 bnd (ldV 1 false v5 h) fun v6 =>
 bnd (binV .add v3 v6) fun v7 =>
 T Tryz.prog 127 [x6, v7] h fun v8 h9 =>
 bnd (ncV x5) fun v10 =>
 bnd (faV 3 v10) fun v11 =>
 bnd (ldV 1 false v11 h9) fun v12 =>
 bnd (ncV x1) fun v13 =>
 bnd (faV 3 v13) fun v14 =>
 bnd (ldV 1 false v14 h9) fun v15 =>
 bnd (binV .sub v12 v15) fun v16 =>
 T Tryz.prog 127 [x5, v16] h9 fun v17 h18 =>
 bnd (stV 2 x4 v17 h18) fun h19 =>
 bnd (ldV 2 true x4 h19) fun v20 =>
 K v20 h19
def S117_j1 (x1 x4 x5 x6 x19 : Value) (h : GH) (K : Value → GH → Prop)  : Prop :=
 ifV x19 (
 T Tryz.prog 126 [(.int .i64 2)] h fun v1 h2 =>
 bnd (stV 2 x4 v1 h2) fun h3 =>
 bnd (ldV 2 true x4 h3) fun v4 =>
 K v4 h3) (
 bnd (ncV x5) fun v5 =>
 bnd (faV 3 v5) fun v6 =>
 bnd (ldV 1 false v6 h) fun v7 =>
 bnd (ncV x1) fun v8 =>
 bnd (faV 3 v8) fun v9 =>
 bnd (ldV 1 false v9 h) fun v10 =>
 bnd (binV .lss v7 v10) fun v11 =>
 ifV v11 (
 T Tryz.prog 126 [(.int .i64 3)] h fun v12 h13 =>
 bnd (stV 2 x4 v12 h13) fun h14 =>
 bnd (ldV 2 true x4 h14) fun v15 =>
 K v15 h14) (
 bnd (ncV x1) fun v16 =>
 bnd (faV 1 v16) fun v17 =>
 bnd (ldV 1 false v17 h) fun v18 =>
 bnd (ncV x1) fun v19 =>
 bnd (faV 2 v19) fun v20 =>
 bnd (ldV 1 false v20 h) fun v21 =>
 bnd (eqI v18 v21) fun b22 =>
 ifV (.bool b22) (
 bnd (ncV x5) fun v23 =>
 bnd (faV 3 v23) fun v24 =>
 bnd (ldV 1 false v24 h) fun v25 =>
 T Tryz.prog 129 [v25] h fun v26 h27 =>
 bnd (stV 2 x4 v26 h27) fun h28 =>
 bnd (ldV 2 true x4 h28) fun v29 =>
 K v29 h28) (
 bnd (ncV x6) fun v30 =>
 bnd (faV 3 v30) fun v31 =>
 bnd (ldV 1 false v31 h) fun v32 =>
 bnd (ncV x1) fun v33 =>
 bnd (faV 3 v33) fun v34 =>
 bnd (ldV 1 false v34 h) fun v35 =>
 bnd (binV .sub (.int .i64 1048575) v35) fun v36 =>
 bnd (binV .gtr v32 v36) fun v37 =>
 ifV v37 (
 T Tryz.prog 126 [(.int .i64 4)] h fun v38 h39 =>
 bnd (stV 2 x4 v38 h39) fun h40 =>
 bnd (ldV 2 true x4 h40) fun v41 =>
 K v41 h40) (
 S117_j2 x1 x4 x5 x6 h K ))))
def S117 (a0 a1 : Value) (h : GH) (K : Value → GH → Prop) : Prop :=
 newV 188 [(.int .i64 0), (.int .i64 0)] h fun v1 h2 =>
 bnd (ncV a1) fun v3 =>
 bnd (faV 1 v3) fun v4 =>
 bnd (ldV 1 false v4 h2) fun v5 =>
 bnd (ncV a1) fun v6 =>
 bnd (faV 2 v6) fun v7 =>
 bnd (ldV 1 false v7 h2) fun v8 =>
 T Tryz.prog 125 [a0, v5] h2 fun v9 h10 =>
 ldV 1 false v7 h10 = some v8 ∧
 T Tryz.prog 125 [a0, v8] h10 fun v11 h12 =>
 bnd (ncV v9) fun v13 =>
 bnd (faV 2 v13) fun v14 =>
 bnd (ldV 1 false v14 h12) fun v15 =>
 bnd (unV .not v15) fun v16 =>
 ifV v16 (
 S117_j1 a1 v1 v9 v11 (.bool true) h12 K ) (
 bnd (ncV v11) fun v17 =>
 bnd (faV 2 v17) fun v18 =>
 bnd (ldV 1 false v18 h12) fun v19 =>
 bnd (unV .not v19) fun v20 =>
 S117_j1 a1 v1 v9 v11 v20 h12 K )
def A117 : Ann := ⟨fun | 1 => ([0, 1, 2, 3, 4, 6, 7, 8, 9, 10, 5, 11, 12, 13], [0, 0, 2, 6, 14, 31, 0, 0, 128, 384, 896, 2047, 4095, 8191]) | 4 => ([0, 1, 2, 3, 4, 5, 6, 7, 8, 9], [0, 1, 3, 7, 0, 16, 48, 112, 255, 511]) | 6 => ([0, 1, 2, 3, 4, 5, 6, 7, 8, 9], [0, 1, 3, 7, 0, 16, 48, 112, 255, 511]) | 8 => ([0, 1, 2, 3, 4, 5, 6, 7, 8, 9, 10], [0, 1, 3, 7, 0, 16, 48, 112, 240, 511, 1023]) | 10 => ([0, 1, 2, 3, 4, 5, 6, 7, 8, 9, 10], [0, 0, 2, 6, 14, 0, 32, 96, 224, 510, 1023]) | 11 => ([0, 1, 2, 3, 4, 5, 6, 7, 8, 9, 10, 11], [0, 0, 2, 6, 14, 0, 32, 96, 224, 510, 1023, 2047]) | _ => ([], []), fun _ => []⟩
theorem S117_T {a0 a1 : Value} {h : GH} {K : Value → GH → Prop} (g : S117 a0 a1 h K) : T Tryz.prog 117 [a0, a1] h K :=
  T_of_gwp (A := A117) Tryz.func117 (c := bodyOf Tryz.f117) (by kernel_rfl) (by kernel_rfl) (by kernel_rfl) (by kernel_rfl) (by kernel_rfl) (Eq.mp (by kernel_rfl) g)
def S118 (a0 a1 : Value) (h : GH) (K : Value → GH → Prop) : Prop :=
 newV 188 [(.int .i64 0), (.int .i64 0)] h fun v1 h2 =>
 Lfp (fun (s3 : Nat → Value) h4 again5 =>
 bnd (binV .lss (s3 3) (.int .i64 4)) fun v6 =>
 ifV v6 (
 T Tryz.prog 125 [(s3 0), (s3 3)] h4 fun v7 h8 =>
 bnd (ncV v7) fun v9 =>
 bnd (faV 2 v9) fun v10 =>
 bnd (ldV 1 false v10 h8) fun v11 =>
 ifV v11 (
 bnd (ncV v7) fun v12 =>
 bnd (faV 3 v12) fun v13 =>
 bnd (ldV 1 false v13 h8) fun v14 =>
 bnd (binV .add (s3 2) v14) fun v15 =>
 bnd (binV .add (s3 3) (.int .i64 1)) fun v16 =>
 again5 (tup [(s3 0), (s3 1), v15, v16]) h8) (
 bnd (binV .add (s3 3) (.int .i64 1)) fun v17 =>
 again5 (tup [(s3 0), (s3 1), (s3 2), v17]) h8)) (
 T Tryz.prog 129 [(s3 2)] h4 fun v18 h19 =>
 bnd (stV 2 (s3 1) v18 h19) fun h20 =>
 bnd (ldV 2 true (s3 1) h20) fun v21 =>
 K v21 h20)) (tup [a0, v1, (.int .i64 0), (.int .i64 0)]) h2
def A118 : Ann := ⟨fun _ => ([], []), fun | 0 => [0, 4, 5, 8] | _ => []⟩
theorem S118_T {a0 a1 : Value} {h : GH} {K : Value → GH → Prop} (g : S118 a0 a1 h K) : T Tryz.prog 118 [a0, a1] h K :=
  T_of_gwp (A := A118) Tryz.func118 (c := bodyOf Tryz.f118) (by kernel_rfl) (by kernel_rfl) (by kernel_rfl) (by kernel_rfl) (by kernel_rfl) (Eq.mp (by kernel_rfl) g)
def S119 (a0 : Value) (h : GH) (K : Value → GH → Prop) : Prop :=
 bnd (lnV a0) fun v1 =>
 Lfp (fun (s2 : Nat → Value) h3 again4 =>
 bnd (binV .lss (s2 4) (s2 3)) fun v5 =>
 ifV v5 (
 bnd (isV 3 (s2 2) (s2 4)) fun v6 =>
 bnd (ldV 3 true v6 h3) fun v7 =>
 newV 227 [(.int .i64 0), (.int .i64 0), (.int .i64 0)] h3 fun v8 h9 =>
 bnd (stV 3 v8 v7 h9) fun h10 =>
 bnd (faV 0 v8) fun v11 =>
 bnd (ldV 1 false v11 h10) fun v12 =>
 bnd (binV .leq v12 (s2 1)) fun v13 =>
 ifV v13 (
 K (.bool false) h10) (
 bnd (faV 0 v8) fun v14 =>
 bnd (ldV 1 false v14 h10) fun v15 =>
 bnd (binV .geq v15 (.int .i64 16)) fun v16 =>
 ifV v16 (
 K (.bool false) h10) (
 bnd (faV 1 v8) fun v17 =>
 bnd (ldV 1 false v17 h10) fun v18 =>
 T Tryz.prog 103 [v18] h10 fun v19 h20 =>
 bnd (unV .not v19) fun v21 =>
 ifV v21 (
 K (.bool false) h20) (
 bnd (faV 2 v8) fun v22 =>
 bnd (ldV 1 false v22 h20) fun v23 =>
 T Tryz.prog 103 [v23] h20 fun v24 h25 =>
 bnd (unV .not v24) fun v26 =>
 ifV v26 (
 K (.bool false) h25) (
 bnd (faV 0 v8) fun v27 =>
 bnd (ldV 1 false v27 h25) fun v28 =>
 bnd (binV .add (s2 4) (.int .i64 1)) fun v29 =>
 again4 (tup [(s2 0), v28, (s2 2), (s2 3), v29]) h25))))) (
 bnd (lnV (s2 0)) fun v30 =>
 bnd (binV .leq v30 (.int .i64 16)) fun v31 =>
 K v31 h3)) (tup [a0, (.int .i64 (-1)), a0, v1, (.int .i64 0)]) h
def A119 : Ann := ⟨fun _ => ([], []), fun | 0 => [0, 3, 6, 7, 8] | _ => []⟩
theorem S119_T {a0 : Value} {h : GH} {K : Value → GH → Prop} (g : S119 a0 h K) : T Tryz.prog 119 [a0] h K :=
  T_of_gwp (A := A119) Tryz.func119 (c := bodyOf Tryz.f119) (by kernel_rfl) (by kernel_rfl) (by kernel_rfl) (by kernel_rfl) (by kernel_rfl) (Eq.mp (by kernel_rfl) g)
def S120 (a0 : Value) (h : GH) (K : Value → GH → Prop) : Prop :=
 bnd (eqK .slice true a0 (.slice none 0 0)) fun b1 =>
 ifV (.bool b1) (
 K (.slice none 0 0) h) (
 bsV 188 0 [] [] h fun v2 h3 =>
 apV 188 2 16 v2 a0 h3 fun v4 h5 =>
 K v4 h5)
def A120 : Ann := ⟨fun _ => ([], []), fun _ => []⟩
theorem S120_T {a0 : Value} {h : GH} {K : Value → GH → Prop} (g : S120 a0 h K) : T Tryz.prog 120 [a0] h K :=
  T_of_gwp (A := A120) Tryz.func120 (c := bodyOf Tryz.f120) (by kernel_rfl) (by kernel_rfl) (by kernel_rfl) (by kernel_rfl) (by kernel_rfl) (Eq.mp (by kernel_rfl) g)
def S121 (a0 a1 a2 : Value) (h : GH) (K : Value → GH → Prop) : Prop :=
 newV 211 (a0 : Value).cells.toList h fun v1 h2 =>
 bnd (faV 0 v1) fun v3 =>
 bnd (ldV 1 false v3 h2) fun v4 =>
 T Tryz.prog 131 [a1, a2] h2 fun v5 h6 =>
 ldV 1 false v3 h6 = some v4 ∧
 T Tryz.prog 130 [v4, v5] h6 fun v7 h8 =>
 K v7 h8
def A121 : Ann := ⟨fun | 1 => ([0, 1, 2, 3, 4, 5, 6], [0, 1, 0, 0, 12, 31, 63]) | _ => ([], []), fun _ => []⟩
theorem S121_T {a0 a1 a2 : Value} {h : GH} {K : Value → GH → Prop} (g : S121 a0 a1 a2 h K) : T Tryz.prog 121 [a0, a1, a2] h K :=
  T_of_gwp (A := A121) Tryz.func121 (c := bodyOf Tryz.f121) (by kernel_rfl) (by kernel_rfl) (by kernel_rfl) (by kernel_rfl) (by kernel_rfl) (Eq.mp (by kernel_rfl) g)
def S122 (a0 a1 a2 a3 : Value) (h : GH) (K : Value → GH → Prop) : Prop :=
 newV 211 (a0 : Value).cells.toList h fun v1 h2 =>
 bnd (ldV 1 true v1 h2) fun v3 =>
 T Tryz.prog 121 [v3, a1, a3] h2 fun v4 h5 =>
 bnd (ldV 1 true v1 h5) fun v6 =>
 bnd (ldV 1 true v1 h5) fun v7 =>
 T Tryz.prog 121 [v7, a2, a3] h5 fun v8 h9 =>
 ldV 1 true v1 h9 = some v6 ∧
 T Tryz.prog 132 [v6, a1, a3, v8] h9 fun v10 h11 =>
 bnd (ldV 1 true v1 h11) fun v12 =>
 bnd (binV .add a1 (.int .i64 1)) fun v13 =>
 T Tryz.prog 132 [v12, a2, a3, v13] h11 fun v14 h15 =>
 K (.tuple #[]) h15
def A122 : Ann := ⟨fun | 2 => ([0, 1, 2, 3, 4, 5, 6, 7], [0, 0, 0, 0, 0, 0, 56, 127]) | _ => ([], []), fun _ => []⟩
theorem S122_T {a0 a1 a2 a3 : Value} {h : GH} {K : Value → GH → Prop} (g : S122 a0 a1 a2 a3 h K) : T Tryz.prog 122 [a0, a1, a2, a3] h K :=
  T_of_gwp (A := A122) Tryz.func122 (c := bodyOf Tryz.f122) (by kernel_rfl) (by kernel_rfl) (by kernel_rfl) (by kernel_rfl) (by kernel_rfl) (Eq.mp (by kernel_rfl) g)
def S123 (a0 a1 a2 a3 : Value) (h : GH) (K : Value → GH → Prop) : Prop :=
 newV 211 (a0 : Value).cells.toList h fun v1 h2 =>
 bnd (ldV 1 true v1 h2) fun v3 =>
 bnd (ldV 1 true v1 h2) fun v4 =>
 T Tryz.prog 121 [v4, a1, a3] h2 fun v5 h6 =>
 ldV 1 true v1 h6 = some v3 ∧
 T Tryz.prog 132 [v3, a2, a3, v5] h6 fun v7 h8 =>
 bnd (ldV 1 true v1 h8) fun v9 =>
 T Tryz.prog 132 [v9, a1, a3, (.int .i64 0)] h8 fun v10 h11 =>
 K (.tuple #[]) h11
def A123 : Ann := ⟨fun | 1 => ([0, 1, 2, 3, 4, 5, 6, 7], [0, 0, 0, 0, 0, 0, 56, 127]) | _ => ([], []), fun _ => []⟩
theorem S123_T {a0 a1 a2 a3 : Value} {h : GH} {K : Value → GH → Prop} (g : S123 a0 a1 a2 a3 h K) : T Tryz.prog 123 [a0, a1, a2, a3] h K :=
  T_of_gwp (A := A123) Tryz.func123 (c := bodyOf Tryz.f123) (by kernel_rfl) (by kernel_rfl) (by kernel_rfl) (by kernel_rfl) (by kernel_rfl) (Eq.mp (by kernel_rfl) g)
def S124 (a0 a1 a2 a3 : Value) (h : GH) (K : Value → GH → Prop) : Prop :=
 newV 211 (a0 : Value).cells.toList h fun v1 h2 =>
 bnd (ldV 1 true v1 h2) fun v3 =>
 T Tryz.prog 105 [v3, a2, a3] h2 fun v4 h5 =>
 Lfp (fun (s6 : Nat → Value) h7 again8 =>
 bnd (eqI (s6 4) (.int .i64 (-1))) fun b9 =>
 ifV (.bool (!b9)) (
 bnd (binV .lss (s6 4) (s6 0)) fun v10 =>
 ifV v10 (
 bnd (ldV 1 true (s6 3) h7) fun v11 =>
 T Tryz.prog 105 [v11, (s6 4), (s6 2)] h7 fun v12 h13 =>
 again8 (tup [(s6 0), (s6 4), (s6 2), (s6 3), v12]) h13) (
 K (s6 1) h7)) (
 K (s6 1) h7)) (tup [a1, a2, a3, v1, v4]) h5
def A124 : Ann := ⟨fun _ => ([], []), fun | 0 => [1, 2, 3, 4, 9] | _ => []⟩
theorem S124_T {a0 a1 a2 a3 : Value} {h : GH} {K : Value → GH → Prop} (g : S124 a0 a1 a2 a3 h K) : T Tryz.prog 124 [a0, a1, a2, a3] h K :=
  T_of_gwp (A := A124) Tryz.func124 (c := bodyOf Tryz.f124) (by kernel_rfl) (by kernel_rfl) (by kernel_rfl) (by kernel_rfl) (by kernel_rfl) (Eq.mp (by kernel_rfl) g)
def S125 (a0 a1 : Value) (h : GH) (K : Value → GH → Prop) : Prop :=
 T Tryz.prog 130 [a0, a1] h fun v1 h2 =>
 bnd (binV .gtr v1 (.int .i64 0)) fun v3 =>
 bnd (binV .sub v1 (.int .i64 1)) fun v4 =>
 bnd (fillV [(.pointer none), (.int .i64 0), (.bool false), (.int .i64 0)] [(0, 1, a0), (1, 1, a1), (2, 1, v3), (3, 1, v4)]) fun c5 =>
 newV 246 ((.agg c5.toArray) : Value).cells.toList h2 fun v6 h7 =>
 K v6 h7
def A125 : Ann := ⟨fun _ => ([], []), fun _ => []⟩
theorem S125_T {a0 a1 : Value} {h : GH} {K : Value → GH → Prop} (g : S125 a0 a1 h K) : T Tryz.prog 125 [a0, a1] h K :=
  T_of_gwp (A := A125) Tryz.func125 (c := bodyOf Tryz.f125) (by kernel_rfl) (by kernel_rfl) (by kernel_rfl) (by kernel_rfl) (by kernel_rfl) (Eq.mp (by kernel_rfl) g)
def S126 (a0 : Value) (h : GH) (K : Value → GH → Prop) : Prop :=
 newV 188 [(.int .i64 0), (.int .i64 0)] h fun v1 h2 =>
 bnd (fillV [(.int .i64 0), (.int .i64 0)] [(0, 1, a0)]) fun c3 =>
 bnd (stV 2 v1 (.agg c3.toArray) h2) fun h4 =>
 bnd (ldV 2 true v1 h4) fun v5 =>
 K v5 h4
def A126 : Ann := ⟨fun _ => ([], []), fun _ => []⟩
theorem S126_T {a0 : Value} {h : GH} {K : Value → GH → Prop} (g : S126 a0 h K) : T Tryz.prog 126 [a0] h K :=
  T_of_gwp (A := A126) Tryz.func126 (c := bodyOf Tryz.f126) (by kernel_rfl) (by kernel_rfl) (by kernel_rfl) (by kernel_rfl) (by kernel_rfl) (Eq.mp (by kernel_rfl) g)
def S127 (a0 a1 : Value) (h : GH) (K : Value → GH → Prop) : Prop :=
 newV 188 [(.int .i64 0), (.int .i64 0)] h fun v1 h2 =>
 bnd (ncV a0) fun v3 =>
 bnd (faV 0 v3) fun v4 =>
 bnd (ldV 1 false v4 h2) fun v5 =>
 bnd (ncV a0) fun v6 =>
 bnd (faV 1 v6) fun v7 =>
 bnd (ldV 1 false v7 h2) fun v8 =>
 bnd (binV .add a1 (.int .i64 1)) fun v9 =>
 T Tryz.prog 128 [v5, v8, v9] h2 fun v10 h11 =>
 T Tryz.prog 129 [a1] h11 fun v12 h13 =>
 bnd (stV 2 v1 v12 h13) fun h14 =>
 bnd (ldV 2 true v1 h14) fun v15 =>
 K v15 h14
def A127 : Ann := ⟨fun | 1 => ([0, 1, 2, 3, 4, 5, 6, 7, 8, 9, 10], [0, 1, 3, 7, 0, 16, 48, 112, 0, 256, 1023]) | _ => ([], []), fun _ => []⟩
theorem S127_T {a0 a1 : Value} {h : GH} {K : Value → GH → Prop} (g : S127 a0 a1 h K) : T Tryz.prog 127 [a0, a1] h K :=
  T_of_gwp (A := A127) Tryz.func127 (c := bodyOf Tryz.f127) (by kernel_rfl) (by kernel_rfl) (by kernel_rfl) (by kernel_rfl) (by kernel_rfl) (Eq.mp (by kernel_rfl) g)
def S128 (a0 a1 a2 : Value) (h : GH) (K : Value → GH → Prop) : Prop :=
 bnd (ncV a0) fun v1 =>
 bnd (faV 48 v1) fun v2 =>
 bnd (ldV 1 false v2 h) fun v3 =>
 bnd (eqK .iface true v3 .nilIface) fun b4 =>
 ifV (.bool b4) (
 bnd (ncV a0) fun v5 =>
 bnd (faV 0 v5) fun v6 =>
 bnd (faV 32 v6) fun v7 =>
 bnd (iaV 16 1 v7 a1) fun v8 =>
 bnd (stV 1 v8 a2 h) fun h9 =>
 K (.tuple #[]) h9) (
 K (.tuple #[]) h)
def A128 : Ann := ⟨fun _ => ([], []), fun _ => []⟩
theorem S128_T {a0 a1 a2 : Value} {h : GH} {K : Value → GH → Prop} (g : S128 a0 a1 a2 h K) : T Tryz.prog 128 [a0, a1, a2] h K :=
  T_of_gwp (A := A128) Tryz.func128 (c := bodyOf Tryz.f128) (by kernel_rfl) (by kernel_rfl) (by kernel_rfl) (by kernel_rfl) (by kernel_rfl) (Eq.mp (by kernel_rfl) g)
def S129 (a0 : Value) (h : GH) (K : Value → GH → Prop) : Prop :=
 newV 188 [(.int .i64 0), (.int .i64 0)] h fun v1 h2 =>
 bnd (fillV [(.int .i64 0), (.int .i64 0)] [(0, 1, (.int .i64 0)), (1, 1, a0)]) fun c3 =>
 bnd (stV 2 v1 (.agg c3.toArray) h2) fun h4 =>
 bnd (ldV 2 true v1 h4) fun v5 =>
 K v5 h4
def A129 : Ann := ⟨fun _ => ([], []), fun _ => []⟩
theorem S129_T {a0 : Value} {h : GH} {K : Value → GH → Prop} (g : S129 a0 h K) : T Tryz.prog 129 [a0] h K :=
  T_of_gwp (A := A129) Tryz.func129 (c := bodyOf Tryz.f129) (by kernel_rfl) (by kernel_rfl) (by kernel_rfl) (by kernel_rfl) (by kernel_rfl) (Eq.mp (by kernel_rfl) g)
def S130 (a0 a1 : Value) (h : GH) (K : Value → GH → Prop) : Prop :=
 bnd (ncV a0) fun v1 =>
 bnd (faV 48 v1) fun v2 =>
 bnd (ldV 1 false v2 h) fun v3 =>
 bnd (eqK .iface true v3 .nilIface) fun b4 =>
 ifV (.bool (!b4)) (
 K (.int .i64 0) h) (
 bnd (ncV a0) fun v5 =>
 bnd (faV 0 v5) fun v6 =>
 bnd (faV 0 v6) fun v7 =>
 bnd (iaV 16 1 v7 a1) fun v8 =>
 bnd (ldV 1 false v8 h) fun v9 =>
 bnd (unV .not v9) fun v10 =>
 ifV v10 (
 bnd (ncV a0) fun v11 =>
 bnd (faV 48 v11) fun v12 =>
 bnd (stV 1 v12 (.iface 237 a1) h) fun h13 =>
 K (.int .i64 0) h13) (
 bnd (ncV a0) fun v14 =>
 bnd (faV 0 v14) fun v15 =>
 bnd (faV 32 v15) fun v16 =>
 bnd (iaV 16 1 v16 a1) fun v17 =>
 bnd (ldV 1 false v17 h) fun v18 =>
 K v18 h))
def A130 : Ann := ⟨fun _ => ([], []), fun _ => []⟩
theorem S130_T {a0 a1 : Value} {h : GH} {K : Value → GH → Prop} (g : S130 a0 a1 h K) : T Tryz.prog 130 [a0, a1] h K :=
  T_of_gwp (A := A130) Tryz.func130 (c := bodyOf Tryz.f130) (by kernel_rfl) (by kernel_rfl) (by kernel_rfl) (by kernel_rfl) (by kernel_rfl) (Eq.mp (by kernel_rfl) g)
def S131 (a0 a1 : Value) (h : GH) (K : Value → GH → Prop) : Prop :=
 bnd (binV .sub a0 (.int .i64 (-1))) fun v1 =>
 bnd (binV .mul (.int .i64 2) v1) fun v2 =>
 bnd (binV .add (.int .i64 4) v2) fun v3 =>
 bnd (binV .add v3 a1) fun v4 =>
 K v4 h
def A131 : Ann := ⟨fun _ => ([], []), fun _ => []⟩
theorem S131_T {a0 a1 : Value} {h : GH} {K : Value → GH → Prop} (g : S131 a0 a1 h K) : T Tryz.prog 131 [a0, a1] h K :=
  T_of_gwp (A := A131) Tryz.func131 (c := bodyOf Tryz.f131) (by kernel_rfl) (by kernel_rfl) (by kernel_rfl) (by kernel_rfl) (by kernel_rfl) (Eq.mp (by kernel_rfl) g)
def S132 (a0 a1 a2 a3 : Value) (h : GH) (K : Value → GH → Prop) : Prop :=
 newV 211 (a0 : Value).cells.toList h fun v1 h2 =>
 bnd (faV 0 v1) fun v3 =>
 bnd (ldV 1 false v3 h2) fun v4 =>
 T Tryz.prog 131 [a1, a2] h2 fun v5 h6 =>
 ldV 1 false v3 h6 = some v4 ∧
 T Tryz.prog 128 [v4, v5, a3] h6 fun v7 h8 =>
 K (.tuple #[]) h8
def A132 : Ann := ⟨fun | 1 => ([0, 1, 2, 3, 5, 4, 6], [0, 1, 0, 0, 12, 0, 63]) | _ => ([], []), fun _ => []⟩
theorem S132_T {a0 a1 a2 a3 : Value} {h : GH} {K : Value → GH → Prop} (g : S132 a0 a1 a2 a3 h K) : T Tryz.prog 132 [a0, a1, a2, a3] h K :=
  T_of_gwp (A := A132) Tryz.func132 (c := bodyOf Tryz.f132) (by kernel_rfl) (by kernel_rfl) (by kernel_rfl) (by kernel_rfl) (by kernel_rfl) (Eq.mp (by kernel_rfl) g)
def S152 (a0 : Value) (h : GH) (K : Value → GH → Prop) : Prop :=
 newV 75 (a0 : Value).cells.toList h fun v1 h2 =>
 bnd (faV 1 v1) fun v3 =>
 bnd (ldV 1 false v3 h2) fun v4 =>
 bnd (binV .mul v4 (.int .i64 16)) fun v5 =>
 bnd (faV 0 v1) fun v6 =>
 bnd (ldV 1 false v6 h2) fun v7 =>
 bnd (binV .add v5 v7) fun v8 =>
 K v8 h2
def A152 : Ann := ⟨fun _ => ([], []), fun _ => []⟩
theorem S152_T {a0 : Value} {h : GH} {K : Value → GH → Prop} (g : S152 a0 h K) : T Tryz.prog 152 [a0] h K :=
  T_of_gwp (A := A152) Tryz.func152 (c := bodyOf Tryz.f152) (by kernel_rfl) (by kernel_rfl) (by kernel_rfl) (by kernel_rfl) (by kernel_rfl) (Eq.mp (by kernel_rfl) g)
def S153 (a0 : Value) (h : GH) (K : Value → GH → Prop) : Prop :=
 newV 75 (a0 : Value).cells.toList h fun v1 h2 =>
 bnd (ldV 2 true v1 h2) fun v3 =>
 T Tryz.prog 152 [v3] h2 fun v4 h5 =>
 bnd (binV .mul v4 (.int .i64 4)) fun v6 =>
 bnd (binV .add v6 (.int .i64 2)) fun v7 =>
 K v7 h5
def A153 : Ann := ⟨fun _ => ([], []), fun _ => []⟩
theorem S153_T {a0 : Value} {h : GH} {K : Value → GH → Prop} (g : S153 a0 h K) : T Tryz.prog 153 [a0] h K :=
  T_of_gwp (A := A153) Tryz.func153 (c := bodyOf Tryz.f153) (by kernel_rfl) (by kernel_rfl) (by kernel_rfl) (by kernel_rfl) (by kernel_rfl) (Eq.mp (by kernel_rfl) g)
def S154 (a0 : Value) (h : GH) (K : Value → GH → Prop) : Prop :=
 newV 75 (a0 : Value).cells.toList h fun v1 h2 =>
 newV 145 [(.int .i64 0), (.int .i64 0), (.int .i64 0), (.int .i64 0), (.int .i64 0), (.int .i64 0), (.int .i64 0)] h2 fun v3 h4 =>
 bnd (faV 0 v1) fun v5 =>
 bnd (ldV 1 false v5 h4) fun v6 =>
 bnd (faV 1 v1) fun v7 =>
 bnd (ldV 1 false v7 h4) fun v8 =>
 bnd (fillV [(.int .i64 0), (.int .i64 0), (.int .i64 0), (.int .i64 0), (.int .i64 0), (.int .i64 0), (.int .i64 0)] [(0, 1, (.int .i64 2)), (2, 1, v6), (3, 1, v8)]) fun c9 =>
 bnd (stV 7 v3 (.agg c9.toArray) h4) fun h10 =>
 bnd (ldV 7 true v3 h10) fun v11 =>
 K v11 h10
def A154 : Ann := ⟨fun _ => ([], []), fun _ => []⟩
theorem S154_T {a0 : Value} {h : GH} {K : Value → GH → Prop} (g : S154 a0 h K) : T Tryz.prog 154 [a0] h K :=
  T_of_gwp (A := A154) Tryz.func154 (c := bodyOf Tryz.f154) (by kernel_rfl) (by kernel_rfl) (by kernel_rfl) (by kernel_rfl) (by kernel_rfl) (Eq.mp (by kernel_rfl) g)
def S155 (a0 : Value) (h : GH) (K : Value → GH → Prop) : Prop :=
 newV 145 [(.int .i64 0), (.int .i64 0), (.int .i64 0), (.int .i64 0), (.int .i64 0), (.int .i64 0), (.int .i64 0)] h fun v1 h2 =>
 bnd (fillV [(.int .i64 0), (.int .i64 0), (.int .i64 0), (.int .i64 0), (.int .i64 0), (.int .i64 0), (.int .i64 0)] [(1, 1, a0)]) fun c3 =>
 bnd (stV 7 v1 (.agg c3.toArray) h2) fun h4 =>
 bnd (ldV 7 true v1 h4) fun v5 =>
 K v5 h4
def A155 : Ann := ⟨fun _ => ([], []), fun _ => []⟩
theorem S155_T {a0 : Value} {h : GH} {K : Value → GH → Prop} (g : S155 a0 h K) : T Tryz.prog 155 [a0] h K :=
  T_of_gwp (A := A155) Tryz.func155 (c := bodyOf Tryz.f155) (by kernel_rfl) (by kernel_rfl) (by kernel_rfl) (by kernel_rfl) (by kernel_rfl) (Eq.mp (by kernel_rfl) g)
def S156 (a0 : Value) (h : GH) (K : Value → GH → Prop) : Prop :=
 newV 128 (a0 : Value).cells.toList h fun v1 h2 =>
 bnd (faV 0 v1) fun v3 =>
 bnd (ldV 2 true v3 h2) fun v4 =>
 bnd (faV 2 v1) fun v5 =>
 bnd (ldV 1 false v5 h2) fun v6 =>
 bnd (faV 3 v1) fun v7 =>
 bnd (ldV 1 false v7 h2) fun v8 =>
 bnd (faV 4 v1) fun v9 =>
 bnd (ldV 1 false v9 h2) fun v10 =>
 T Tryz.prog 152 [v4] h2 fun v11 h12 =>
 ldV 1 false v9 h12 = some v10 ∧
 ldV 1 false v7 h12 = some v8 ∧
 ldV 1 false v5 h12 = some v6 ∧
 bnd (binV .mul v11 (.int .i64 16)) fun v13 =>
 bnd (binV .add v13 v6) fun v14 =>
 bnd (binV .mul v14 (.int .i64 4)) fun v15 =>
 bnd (binV .add v15 v8) fun v16 =>
 bnd (binV .mul v16 (.int .i64 1048576)) fun v17 =>
 bnd (binV .add v17 v10) fun v18 =>
 bnd (binV .mul v18 (.int .i64 4)) fun v19 =>
 bnd (binV .add v19 (.int .i64 1)) fun v20 =>
 K v20 h12
def A156 : Ann := ⟨fun | 1 => ([0, 1, 4, 5, 8, 9, 12, 13, 2, 3, 6, 7, 10, 11, 14, 15, 16, 17], [0, 1, 3, 7, 0, 16, 63, 127, 0, 256, 1023, 2047, 0, 4096, 16383, 32767, 65535, 131071]) | _ => ([], []), fun _ => []⟩
theorem S156_T {a0 : Value} {h : GH} {K : Value → GH → Prop} (g : S156 a0 h K) : T Tryz.prog 156 [a0] h K :=
  T_of_gwp (A := A156) Tryz.func156 (c := bodyOf Tryz.f156) (by kernel_rfl) (by kernel_rfl) (by kernel_rfl) (by kernel_rfl) (by kernel_rfl) (Eq.mp (by kernel_rfl) g)
def S157 (a0 : Value) (h : GH) (K : Value → GH → Prop) : Prop :=
 newV 128 (a0 : Value).cells.toList h fun v1 h2 =>
 newV 145 [(.int .i64 0), (.int .i64 0), (.int .i64 0), (.int .i64 0), (.int .i64 0), (.int .i64 0), (.int .i64 0)] h2 fun v3 h4 =>
 bnd (faV 0 v1) fun v5 =>
 bnd (faV 0 v5) fun v6 =>
 bnd (ldV 1 false v6 h4) fun v7 =>
 bnd (faV 0 v1) fun v8 =>
 bnd (faV 1 v8) fun v9 =>
 bnd (ldV 1 false v9 h4) fun v10 =>
 bnd (faV 2 v1) fun v11 =>
 bnd (ldV 1 false v11 h4) fun v12 =>
 bnd (faV 3 v1) fun v13 =>
 bnd (ldV 1 false v13 h4) fun v14 =>
 bnd (faV 4 v1) fun v15 =>
 bnd (ldV 1 false v15 h4) fun v16 =>
 bnd (fillV [(.int .i64 0), (.int .i64 0), (.int .i64 0), (.int .i64 0), (.int .i64 0), (.int .i64 0), (.int .i64 0)] [(0, 1, (.int .i64 1)), (2, 1, v7), (3, 1, v10), (4, 1, v12), (5, 1, v14), (6, 1, v16)]) fun c17 =>
 bnd (stV 7 v3 (.agg c17.toArray) h4) fun h18 =>
 bnd (ldV 7 true v3 h18) fun v19 =>
 K v19 h18
def A157 : Ann := ⟨fun _ => ([], []), fun _ => []⟩
theorem S157_T {a0 : Value} {h : GH} {K : Value → GH → Prop} (g : S157 a0 h K) : T Tryz.prog 157 [a0] h K :=
  T_of_gwp (A := A157) Tryz.func157 (c := bodyOf Tryz.f157) (by kernel_rfl) (by kernel_rfl) (by kernel_rfl) (by kernel_rfl) (by kernel_rfl) (Eq.mp (by kernel_rfl) g)
def S158 (a0 : Value) (h : GH) (K : Value → GH → Prop) : Prop :=
 bnd (eqK .ptr true a0 (.pointer none)) fun b1 =>
 ifV (.bool b1) (
 K (.int .i64 0) h) (
 bnd (ncV a0) fun v2 =>
 bnd (faV 1 v2) fun v3 =>
 bnd (ldV 1 false v3 h) fun v4 =>
 K v4 h)
def A158 : Ann := ⟨fun _ => ([], []), fun _ => []⟩
theorem S158_T {a0 : Value} {h : GH} {K : Value → GH → Prop} (g : S158 a0 h K) : T Tryz.prog 158 [a0] h K :=
  T_of_gwp (A := A158) Tryz.func158 (c := bodyOf Tryz.f158) (by kernel_rfl) (by kernel_rfl) (by kernel_rfl) (by kernel_rfl) (by kernel_rfl) (Eq.mp (by kernel_rfl) g)
def S159_j3 (x0 x1 x6 : Value) (h : GH) (K : Value → GH → Prop)  : Prop :=
 callV Tryz.prog x6 [x1] h fun v1 h2 =>
 bnd (eqI v1 (.int .i64 0)) fun b3 =>
 ifV (.bool (!b3)) (
 bnd (ncV x0) fun v4 =>
 bnd (faV 7 v4) fun v5 =>
 bnd (stV 1 v5 (.bool true) h2) fun h6 =>
 K (.tuple #[(.bool true), (.int .i64 1500)]) h6) (
 bnd (ncV x0) fun v7 =>
 bnd (faV 7 v7) fun v8 =>
 bnd (ldV 1 false v8 h2) fun v9 =>
 K (.tuple #[v9, (.int .i64 0)]) h2)
def S159_j2 (x0 x1 : Value) (h : GH) (K : Value → GH → Prop)  : Prop :=
 bnd (ncV x0) fun v1 =>
 bnd (faV 4 v1) fun v2 =>
 bnd (ldV 1 false v2 h) fun v3 =>
 bnd (eqK .ptr true v3 (.pointer none)) fun b4 =>
 ifV (.bool (!b4)) (
 S159_j3 x0 x1 (.func (.func 162) #[x0] #[]) h K ) (
 S159_j3 x0 x1 (.func (.func 161) #[x0] #[]) h K )
def S159_j1 (x0 x1 x8 : Value) (h : GH) (K : Value → GH → Prop)  : Prop :=
 ifV x8 (
 K (.tuple #[(.bool false), (.int .i64 1)]) h) (
 bnd (ncV x0) fun v1 =>
 bnd (faV 7 v1) fun v2 =>
 bnd (ldV 1 false v2 h) fun v3 =>
 ifV v3 (
 K (.tuple #[(.bool true), (.int .i64 0)]) h) (
 S159_j2 x0 x1 h K ))
def S159 (a0 a1 : Value) (h : GH) (K : Value → GH → Prop) : Prop :=
 bnd (eqK .ptr true a0 (.pointer none)) fun b1 =>
 ifV (.bool b1) (
 S159_j1 a0 a1 (.bool true) h K ) (
 bnd (eqK .ptr true a1 (.pointer none)) fun b2 =>
 S159_j1 a0 a1 (.bool b2) h K )
def A159 : Ann := ⟨fun _ => ([], []), fun _ => []⟩
theorem S159_T {a0 a1 : Value} {h : GH} {K : Value → GH → Prop} (g : S159 a0 a1 h K) : T Tryz.prog 159 [a0, a1] h K :=
  T_of_gwp (A := A159) Tryz.func159 (c := bodyOf Tryz.f159) (by kernel_rfl) (by kernel_rfl) (by kernel_rfl) (by kernel_rfl) (by kernel_rfl) (Eq.mp (by kernel_rfl) g)
def S160 (a0 : Value) (h : GH) (K : Value → GH → Prop) : Prop :=
 bnd (eqK .ptr true a0 (.pointer none)) fun b1 =>
 ifV (.bool b1) (
 K (.tuple #[(.int .i64 0), (.int .i64 0)]) h) (
 bnd (ncV a0) fun v2 =>
 bnd (faV 5 v2) fun v3 =>
 bnd (ldV 1 false v3 h) fun v4 =>
 bnd (ncV a0) fun v5 =>
 bnd (faV 6 v5) fun v6 =>
 bnd (ldV 1 false v6 h) fun v7 =>
 K (.tuple #[v4, v7]) h)
def A160 : Ann := ⟨fun | 3 => ([0, 1, 2, 3, 4, 5, 6, 7, 8, 9], [0, 1, 3, 7, 0, 16, 48, 112, 15, 511]) | _ => ([], []), fun _ => []⟩
theorem S160_T {a0 : Value} {h : GH} {K : Value → GH → Prop} (g : S160 a0 h K) : T Tryz.prog 160 [a0] h K :=
  T_of_gwp (A := A160) Tryz.func160 (c := bodyOf Tryz.f160) (by kernel_rfl) (by kernel_rfl) (by kernel_rfl) (by kernel_rfl) (by kernel_rfl) (Eq.mp (by kernel_rfl) g)
def S161 (a0 a1 : Value) (h : GH) (K : Value → GH → Prop) : Prop :=
 bnd (ncV a0) fun v1 =>
 bnd (faV 2 v1) fun v2 =>
 bnd (ldV 1 false v2 h) fun v3 =>
 T Tryz.prog 51 [a1, v3] h fun v4 h5 =>
 bnd (exV v4 0) fun v6 =>
 bnd (exV v4 1) fun v7 =>
 bnd (ncV a0) fun v8 =>
 bnd (faV 5 v8) fun v9 =>
 bnd (stV 1 v9 (.int .i64 (-1)) h5) fun h10 =>
 bnd (ncV a0) fun v11 =>
 bnd (faV 6 v11) fun v12 =>
 bnd (stV 1 v12 (.int .i64 0) h10) fun h13 =>
 T Tryz.prog 30 [v6] h13 fun v14 h15 =>
 bnd (exV v14 0) fun v16 =>
 bnd (exV v14 1) fun v17 =>
 ifV v17 (
 bnd (ncV a0) fun v18 =>
 bnd (faV 3 v18) fun v19 =>
 bnd (stV 1 v19 v16 h15) fun h20 =>
 bnd (ncV a0) fun v21 =>
 bnd (faV 7 v21) fun v22 =>
 bnd (stV 1 v22 (.bool true) h20) fun h23 =>
 K (.int .i64 0) h23) (
 bnd (ncV a0) fun v24 =>
 bnd (faV 0 v24) fun v25 =>
 bnd (ldV 1 false v25 h15) fun v26 =>
 bnd (ncV a0) fun v27 =>
 bnd (faV 1 v27) fun v28 =>
 bnd (ldV 1 false v28 h15) fun v29 =>
 T Tryz.prog 84 [v26, v29, v6] h15 fun v30 h31 =>
 bnd (exV v30 0) fun v32 =>
 bnd (exV v30 1) fun v33 =>
 bnd (ncV a0) fun v34 =>
 bnd (faV 4 v34) fun v35 =>
 bnd (stV 1 v35 v32 h31) fun h36 =>
 K v33 h36)
def A161 : Ann := ⟨fun | 7 => ([0, 1, 2, 3, 4, 5, 6, 7, 8, 9, 10, 11, 12, 13, 14], [0, 1, 3, 7, 0, 16, 48, 112, 0, 511, 1023, 2047, 2047, 4095, 16383]) | _ => ([], []), fun _ => []⟩
theorem S161_T {a0 a1 : Value} {h : GH} {K : Value → GH → Prop} (g : S161 a0 a1 h K) : T Tryz.prog 161 [a0, a1] h K :=
  T_of_gwp (A := A161) Tryz.func161 (c := bodyOf Tryz.f161) (by kernel_rfl) (by kernel_rfl) (by kernel_rfl) (by kernel_rfl) (by kernel_rfl) (Eq.mp (by kernel_rfl) g)
def S162 (a0 a1 : Value) (h : GH) (K : Value → GH → Prop) : Prop :=
 bnd (ncV a0) fun v1 =>
 bnd (faV 4 v1) fun v2 =>
 bnd (ldV 1 false v2 h) fun v3 =>
 T Tryz.prog 163 [v3, a1] h fun v4 h5 =>
 bnd (exV v4 0) fun v6 =>
 bnd (exV v4 1) fun v7 =>
 bnd (ncV a0) fun v8 =>
 bnd (faV 4 v8) fun v9 =>
 bnd (ldV 1 false v9 h5) fun v10 =>
 T Tryz.prog 164 [v10] h5 fun v11 h12 =>
 bnd (exV v11 0) fun v13 =>
 bnd (exV v11 1) fun v14 =>
 bnd (ncV a0) fun v15 =>
 bnd (faV 5 v15) fun v16 =>
 bnd (stV 1 v16 v13 h12) fun h17 =>
 bnd (ncV a0) fun v18 =>
 bnd (faV 6 v18) fun v19 =>
 bnd (stV 1 v19 v14 h17) fun h20 =>
 bnd (ncV a0) fun v21 =>
 bnd (faV 4 v21) fun v22 =>
 bnd (ldV 1 false v22 h20) fun v23 =>
 T Tryz.prog 165 [v23] h20 fun v24 h25 =>
 bnd (ncV a0) fun v26 =>
 bnd (faV 1 v26) fun v27 =>
 bnd (stV 1 v27 v24 h25) fun h28 =>
 ifV v6 (
 bnd (ncV a0) fun v29 =>
 bnd (faV 4 v29) fun v30 =>
 bnd (stV 1 v30 (.pointer none) h28) fun h31 =>
 K v7 h31) (
 K v7 h28)
def A162 : Ann := ⟨fun _ => ([], []), fun _ => []⟩
theorem S162_T {a0 a1 : Value} {h : GH} {K : Value → GH → Prop} (g : S162 a0 a1 h K) : T Tryz.prog 162 [a0, a1] h K :=
  T_of_gwp (A := A162) Tryz.func162 (c := bodyOf Tryz.f162) (by kernel_rfl) (by kernel_rfl) (by kernel_rfl) (by kernel_rfl) (by kernel_rfl) (Eq.mp (by kernel_rfl) g)
def S163_j4 (x0 x6 x7 x10 : Value) (h : GH) (K : Value → GH → Prop)  : Prop :=
 ifV x10 (
 bnd (ncV x0) fun v1 =>
 bnd (faV 2 v1) fun v2 =>
 bnd (ldV 1 false v2 h) fun v3 =>
 bnd (slV 1 v3 none (some x6)) fun v4 =>
 bnd (eqI x6 (.int .i64 0)) fun b5 =>
 bnd (ncV x0) fun v6 =>
 bnd (faV 2 v6) fun v7 =>
 bnd (stV 1 v7 v4 h) fun h8 =>
 bnd (ncV x0) fun v9 =>
 bnd (faV 5 v9) fun v10 =>
 bnd (stV 1 v10 (.bool b5) h8) fun h11 =>
 bnd (taV 233 (.pointer none) true x7) fun v12 =>
 bnd (exV v12 0) fun v13 =>
 bnd (exV v12 1) fun v14 =>
 bnd (ncV x0) fun v15 =>
 bnd (faV 5 v15) fun v16 =>
 bnd (ldV 1 false v16 h11) fun v17 =>
 ifV v17 (
 ifV v14 (
 bnd (ncV v13) fun v18 =>
 bnd (faV 0 v18) fun v19 =>
 bnd (faV 5 v19) fun v20 =>
 bnd (ldV 1 false v20 h11) fun v21 =>
 bnd (ncV x0) fun v22 =>
 bnd (faV 4 v22) fun v23 =>
 bnd (stV 1 v23 v21 h11) fun h24 =>
 bnd (ncV x0) fun v25 =>
 bnd (faV 5 v25) fun v26 =>
 bnd (ldV 1 false v26 h24) fun v27 =>
 K (.tuple #[v27, (.int .i64 0)]) h24) (
 bnd (ncV x0) fun v28 =>
 bnd (faV 4 v28) fun v29 =>
 bnd (stV 1 v29 (.bool false) h11) fun h30 =>
 bnd (ncV x0) fun v31 =>
 bnd (faV 5 v31) fun v32 =>
 bnd (ldV 1 false v32 h30) fun v33 =>
 K (.tuple #[v33, (.int .i64 0)]) h30)) (
 bnd (ncV x0) fun v34 =>
 bnd (faV 4 v34) fun v35 =>
 bnd (stV 1 v35 (.bool false) h11) fun h36 =>
 bnd (ncV x0) fun v37 =>
 bnd (faV 5 v37) fun v38 =>
 bnd (ldV 1 false v38 h36) fun v39 =>
 K (.tuple #[v39, (.int .i64 0)]) h36)) (
 bnd (ncV x0) fun v40 =>
 bnd (faV 5 v40) fun v41 =>
 bnd (ldV 1 false v41 h) fun v42 =>
 K (.tuple #[v42, (.int .i64 0)]) h)
def S163_j3 (x0 x6 x7 x9 x10 : Value) (h : GH) (K : Value → GH → Prop)  : Prop :=
 bnd (eqK .iface true x9 .nilIface) fun b1 =>
 ifV (.bool (!b1)) (
 bnd (ncV x0) fun v2 =>
 bnd (faV 2 v2) fun v3 =>
 bnd (ldV 1 false v3 h) fun v4 =>
 bsV 202 1 [.nilIface] [(0, 1, x9)] h fun v5 h6 =>
 apV 202 1 16 v4 v5 h6 fun v7 h8 =>
 bnd (ncV x0) fun v9 =>
 bnd (faV 2 v9) fun v10 =>
 bnd (stV 1 v10 v7 h8) fun h11 =>
 S163_j4 x0 x6 x7 x10 h11 K ) (
 S163_j4 x0 x6 x7 x10 h K )
def S163_j2 (x0 x1 : Value) (h : GH) (K : Value → GH → Prop)  : Prop :=
 bnd (ncV x0) fun v1 =>
 bnd (faV 2 v1) fun v2 =>
 bnd (ldV 1 false v2 h) fun v3 =>
 bnd (lnV v3) fun v4 =>
 bnd (binV .sub v4 (.int .i64 1)) fun v5 =>
 bnd (ncV x0) fun v6 =>
 bnd (faV 2 v6) fun v7 =>
 bnd (ldV 1 false v7 h) fun v8 =>
 bnd (isV 1 v8 v5) fun v9 =>
 bnd (ldV 1 false v9 h) fun v10 =>
 ivV Tryz.prog v10 "pawl/mcas.through" [] h fun v11 h12 =>
 newV 75 [(.int .i64 0), (.int .i64 0)] h12 fun v13 h14 =>
 bnd (stV 2 v13 v11 h14) fun h15 =>
 bnd (ncV x0) fun v16 =>
 bnd (faV 3 v16) fun v17 =>
 bnd (stV 1 v17 v13 h15) fun h18 =>
 ivV Tryz.prog v10 "pawl/mcas.step" [x1] h18 fun v19 h20 =>
 bnd (exV v19 0) fun v21 =>
 bnd (exV v19 1) fun v22 =>
 bnd (exV v19 2) fun v23 =>
 bnd (unV .not v23) fun v24 =>
 ifV v24 (
 bnd (ncV x0) fun v25 =>
 bnd (faV 5 v25) fun v26 =>
 bnd (stV 1 v26 (.bool true) h20) fun h27 =>
 K (.tuple #[(.bool true), (.int .i64 1400)]) h27) (
 bnd (eqK .iface true v21 .nilIface) fun b28 =>
 ifV (.bool (!b28)) (
 bnd (ncV x0) fun v29 =>
 bnd (faV 2 v29) fun v30 =>
 bnd (ldV 1 false v30 h20) fun v31 =>
 bnd (lnV v31) fun v32 =>
 bnd (binV .geq v32 (.int .i64 18)) fun v33 =>
 ifV v33 (
 bnd (ncV x0) fun v34 =>
 bnd (faV 5 v34) fun v35 =>
 bnd (stV 1 v35 (.bool true) h20) fun h36 =>
 K (.tuple #[(.bool true), (.int .i64 1400)]) h36) (
 S163_j3 x0 v5 v10 v21 v22 h20 K )) (
 S163_j3 x0 v5 v10 v21 v22 h20 K ))
def S163_j1 (x0 x1 x14 : Value) (h : GH) (K : Value → GH → Prop)  : Prop :=
 ifV x14 (
 K (.tuple #[(.bool false), (.int .i64 1)]) h) (
 bnd (ncV x0) fun v1 =>
 bnd (faV 5 v1) fun v2 =>
 bnd (ldV 1 false v2 h) fun v3 =>
 ifV v3 (
 K (.tuple #[(.bool true), (.int .i64 0)]) h) (
 S163_j2 x0 x1 h K ))
def S163 (a0 a1 : Value) (h : GH) (K : Value → GH → Prop) : Prop :=
 bnd (eqK .ptr true a0 (.pointer none)) fun b1 =>
 ifV (.bool b1) (
 S163_j1 a0 a1 (.bool true) h K ) (
 bnd (eqK .ptr true a1 (.pointer none)) fun b2 =>
 S163_j1 a0 a1 (.bool b2) h K )
def A163 : Ann := ⟨fun _ => ([], []), fun _ => []⟩
theorem S163_T {a0 a1 : Value} {h : GH} {K : Value → GH → Prop} (g : S163 a0 a1 h K) : T Tryz.prog 163 [a0, a1] h K :=
  T_of_gwp (A := A163) Tryz.func163 (c := bodyOf Tryz.f163) (by kernel_rfl) (by kernel_rfl) (by kernel_rfl) (by kernel_rfl) (by kernel_rfl) (Eq.mp (by kernel_rfl) g)
def S164 (a0 : Value) (h : GH) (K : Value → GH → Prop) : Prop :=
 bnd (eqK .ptr true a0 (.pointer none)) fun b1 =>
 ifV (.bool b1) (
 K (.tuple #[(.int .i64 0), (.int .i64 0)]) h) (
 bnd (ncV a0) fun v2 =>
 bnd (faV 3 v2) fun v3 =>
 bnd (ldV 1 false v3 h) fun v4 =>
 bnd (eqK .ptr true v4 (.pointer none)) fun b5 =>
 ifV (.bool b5) (
 K (.tuple #[(.int .i64 (-1)), (.int .i64 0)]) h) (
 bnd (ncV a0) fun v6 =>
 bnd (faV 3 v6) fun v7 =>
 bnd (ldV 1 false v7 h) fun v8 =>
 bnd (ncV v8) fun v9 =>
 bnd (faV 0 v9) fun v10 =>
 bnd (ldV 1 false v10 h) fun v11 =>
 bnd (ncV a0) fun v12 =>
 bnd (faV 3 v12) fun v13 =>
 bnd (ldV 1 false v13 h) fun v14 =>
 bnd (ncV v14) fun v15 =>
 bnd (faV 1 v15) fun v16 =>
 bnd (ldV 1 false v16 h) fun v17 =>
 K (.tuple #[v11, v17]) h))
def A164 : Ann := ⟨fun | 5 => ([0, 1, 2, 3, 4, 5, 6, 7, 8, 9, 10, 11, 12, 13, 14, 15], [0, 1, 3, 7, 15, 31, 63, 0, 128, 384, 896, 1920, 3968, 8064, 127, 32767]) | _ => ([], []), fun _ => []⟩
theorem S164_T {a0 : Value} {h : GH} {K : Value → GH → Prop} (g : S164 a0 h K) : T Tryz.prog 164 [a0] h K :=
  T_of_gwp (A := A164) Tryz.func164 (c := bodyOf Tryz.f164) (by kernel_rfl) (by kernel_rfl) (by kernel_rfl) (by kernel_rfl) (by kernel_rfl) (Eq.mp (by kernel_rfl) g)
def S165 (a0 : Value) (h : GH) (K : Value → GH → Prop) : Prop :=
 bnd (eqK .ptr true a0 (.pointer none)) fun b1 =>
 ifV (.bool b1) (
 K (.int .i64 0) h) (
 bnd (ncV a0) fun v2 =>
 bnd (faV 0 v2) fun v3 =>
 bnd (faV 1 v3) fun v4 =>
 bnd (ldV 1 false v4 h) fun v5 =>
 K v5 h)
def A165 : Ann := ⟨fun _ => ([], []), fun _ => []⟩
theorem S165_T {a0 : Value} {h : GH} {K : Value → GH → Prop} (g : S165 a0 h K) : T Tryz.prog 165 [a0] h K :=
  T_of_gwp (A := A165) Tryz.func165 (c := bodyOf Tryz.f165) (by kernel_rfl) (by kernel_rfl) (by kernel_rfl) (by kernel_rfl) (by kernel_rfl) (Eq.mp (by kernel_rfl) g)
def S166_j2 (x0 : Value) (h : GH) (K : Value → GH → Prop)  : Prop :=
 bnd (ncV x0) fun v1 =>
 bnd (faV 1 v1) fun v2 =>
 bnd (ldV 1 false v2 h) fun v3 =>
 bnd (lnV v3) fun v4 =>
 bnd (eqI v4 (.int .i64 0)) fun b5 =>
 K (.tuple #[(.bool b5), (.int .i64 0)]) h
def S166_j1 (x0 x1 : Value) (h : GH) (K : Value → GH → Prop)  : Prop :=
 bnd (ncV x0) fun v1 =>
 bnd (faV 1 v1) fun v2 =>
 bnd (ldV 1 false v2 h) fun v3 =>
 bnd (lnV v3) fun v4 =>
 bnd (binV .gtr v4 (.int .i64 0)) fun v5 =>
 ifV v5 (
 bnd (ncV x0) fun v6 =>
 bnd (faV 0 v6) fun v7 =>
 bnd (ldV 1 false v7 h) fun v8 =>
 bnd (ncV x0) fun v9 =>
 bnd (faV 1 v9) fun v10 =>
 bnd (ldV 1 false v10 h) fun v11 =>
 bnd (isV 1 v11 (.int .i64 0)) fun v12 =>
 bnd (ldV 1 false v12 h) fun v13 =>
 T Tryz.prog 50 [x1, v8, v13] h fun v14 h15 =>
 bnd (ncV x0) fun v16 =>
 bnd (faV 0 v16) fun v17 =>
 bnd (ldV 1 false v17 h15) fun v18 =>
 bnd (binV .add v18 (.int .i64 1)) fun v19 =>
 bnd (ncV x0) fun v20 =>
 bnd (faV 0 v20) fun v21 =>
 bnd (stV 1 v21 v19 h15) fun h22 =>
 bnd (ncV x0) fun v23 =>
 bnd (faV 1 v23) fun v24 =>
 bnd (ldV 1 false v24 h22) fun v25 =>
 bnd (slV 1 v25 (some (.int .i64 1)) none) fun v26 =>
 bnd (ncV x0) fun v27 =>
 bnd (faV 1 v27) fun v28 =>
 bnd (stV 1 v28 v26 h22) fun h29 =>
 S166_j2 x0 h29 K ) (
 S166_j2 x0 h K )
def S166 (a0 a1 : Value) (h : GH) (K : Value → GH → Prop) : Prop :=
 bnd (eqK .ptr true a0 (.pointer none)) fun b1 =>
 ifV (.bool b1) (
 K (.tuple #[(.bool false), (.int .i64 1)]) h) (
 bnd (eqK .ptr true a1 (.pointer none)) fun b2 =>
 ifV (.bool b2) (
 K (.tuple #[(.bool false), (.int .i64 1)]) h) (
 S166_j1 a0 a1 h K ))
def A166 : Ann := ⟨fun | 4 => ([0, 1, 2, 3, 4, 5, 6, 7, 8, 9, 10, 11], [0, 0, 2, 6, 14, 0, 32, 96, 224, 480, 992, 2047]) | _ => ([], []), fun _ => []⟩
theorem S166_T {a0 a1 : Value} {h : GH} {K : Value → GH → Prop} (g : S166 a0 a1 h K) : T Tryz.prog 166 [a0, a1] h K :=
  T_of_gwp (A := A166) Tryz.func166 (c := bodyOf Tryz.f166) (by kernel_rfl) (by kernel_rfl) (by kernel_rfl) (by kernel_rfl) (by kernel_rfl) (Eq.mp (by kernel_rfl) g)
def S167 (a0 : Value) (h : GH) (K : Value → GH → Prop) : Prop :=
 bnd (ncV a0) fun v1 =>
 bnd (faV 1 v1) fun v2 =>
 bnd (ldV 1 false v2 h) fun v3 =>
 bnd (binV .add v3 (.int .i64 1)) fun v4 =>
 bnd (binV .rem v4 (.int .i64 1048576)) fun v5 =>
 bnd (ncV a0) fun v6 =>
 bnd (faV 1 v6) fun v7 =>
 bnd (stV 1 v7 v5 h) fun h8 =>
 K v3 h8
def A167 : Ann := ⟨fun _ => ([], []), fun _ => []⟩
theorem S167_T {a0 : Value} {h : GH} {K : Value → GH → Prop} (g : S167 a0 h K) : T Tryz.prog 167 [a0] h K :=
  T_of_gwp (A := A167) Tryz.func167 (c := bodyOf Tryz.f167) (by kernel_rfl) (by kernel_rfl) (by kernel_rfl) (by kernel_rfl) (by kernel_rfl) (Eq.mp (by kernel_rfl) g)
def S168 (a0 a1 : Value) (h : GH) (K : Value → GH → Prop) : Prop :=
 bnd (ncV a0) fun v1 =>
 bnd (faV 11 v1) fun v2 =>
 bnd (ldV 1 false v2 h) fun v3 =>
 bnd (binV .add v3 (.int .i64 1)) fun v4 =>
 bnd (ncV a0) fun v5 =>
 bnd (faV 11 v5) fun v6 =>
 bnd (stV 1 v6 v4 h) fun h7 =>
 bnd (ncV a0) fun v8 =>
 bnd (faV 11 v8) fun v9 =>
 bnd (ldV 1 false v9 h7) fun v10 =>
 bnd (eqI v10 (.int .i64 1)) fun b11 =>
 ifV (.bool b11) (
 bnd (ncV a0) fun v12 =>
 bnd (faV 0 v12) fun v13 =>
 bnd (ncV a0) fun v14 =>
 bnd (faV 6 v14) fun v15 =>
 bnd (faV 2 v15) fun v16 =>
 bnd (ldV 1 false v16 h7) fun v17 =>
 T Tryz.prog 170 [v13, a1, v17] h7 fun v18 h19 =>
 K (.tuple #[.nilIface, (.bool false), v18]) h19) (
 bnd (eqI v10 (.int .i64 2)) fun b20 =>
 ifV (.bool b20) (
 bnd (ncV a0) fun v21 =>
 bnd (faV 0 v21) fun v22 =>
 bnd (ncV a0) fun v23 =>
 bnd (faV 6 v23) fun v24 =>
 bnd (faV 2 v24) fun v25 =>
 bnd (ldV 1 false v25 h7) fun v26 =>
 T Tryz.prog 171 [v22, a1, v26] h7 fun v27 h28 =>
 K (.tuple #[.nilIface, (.bool false), v27]) h28) (
 bnd (eqI v10 (.int .i64 3)) fun b29 =>
 ifV (.bool b29) (
 bnd (ncV a0) fun v30 =>
 bnd (faV 0 v30) fun v31 =>
 T Tryz.prog 172 [v31, a1] h7 fun v32 h33 =>
 K (.tuple #[.nilIface, (.bool false), v32]) h33) (
 bnd (ncV a0) fun v34 =>
 bnd (faV 0 v34) fun v35 =>
 bnd (ncV a0) fun v36 =>
 bnd (faV 6 v36) fun v37 =>
 bnd (ldV 5 true v37 h7) fun v38 =>
 T Tryz.prog 85 [(.iface 128 v38)] h7 fun v39 h40 =>
 T Tryz.prog 173 [v35, a1, v39] h40 fun v41 h42 =>
 K (.tuple #[.nilIface, (.bool true), (.bool true)]) h42)))
def A168 : Ann := ⟨fun | 4 => ([0, 1, 2, 3, 4, 5, 6, 7, 8, 9, 10, 11, 12], [0, 1, 3, 0, 0, 16, 48, 112, 240, 511, 1023, 2047, 4095]) | 6 => ([0, 1, 2, 3, 4, 5, 6, 7, 8, 9, 10, 11, 12], [0, 1, 3, 0, 0, 16, 48, 112, 240, 511, 1023, 2047, 4095]) | 9 => ([0, 1, 2, 3, 4, 5, 6, 7, 8, 9, 10], [0, 1, 3, 0, 0, 16, 48, 112, 240, 496, 1023]) | _ => ([], []), fun _ => []⟩
theorem S168_T {a0 a1 : Value} {h : GH} {K : Value → GH → Prop} (g : S168 a0 a1 h K) : T Tryz.prog 168 [a0, a1] h K :=
  T_of_gwp (A := A168) Tryz.func168 (c := bodyOf Tryz.f168) (by kernel_rfl) (by kernel_rfl) (by kernel_rfl) (by kernel_rfl) (by kernel_rfl) (Eq.mp (by kernel_rfl) g)
def S169 (a0 : Value) (h : GH) (K : Value → GH → Prop) : Prop :=
 newV 75 [(.int .i64 0), (.int .i64 0)] h fun v1 h2 =>
 bnd (ncV a0) fun v3 =>
 bnd (faV 0 v3) fun v4 =>
 bnd (ldV 2 true v4 h2) fun v5 =>
 bnd (stV 2 v1 v5 h2) fun h6 =>
 bnd (ldV 2 true v1 h6) fun v7 =>
 K v7 h6
def A169 : Ann := ⟨fun _ => ([], []), fun _ => []⟩
theorem S169_T {a0 : Value} {h : GH} {K : Value → GH → Prop} (g : S169 a0 h K) : T Tryz.prog 169 [a0] h K :=
  T_of_gwp (A := A169) Tryz.func169 (c := bodyOf Tryz.f169) (by kernel_rfl) (by kernel_rfl) (by kernel_rfl) (by kernel_rfl) (by kernel_rfl) (Eq.mp (by kernel_rfl) g)
def S170 (a0 a1 a2 : Value) (h : GH) (K : Value → GH → Prop) : Prop :=
 T Tryz.prog 174 [a0, a1, a2, (.int .i64 0)] h fun v1 h2 =>
 bnd (exV v1 0) fun v3 =>
 bnd (exV v1 1) fun v4 =>
 bnd (ncV a0) fun v5 =>
 bnd (faV 2 v5) fun v6 =>
 bnd (stV 1 v6 v3 h2) fun h7 =>
 K v4 h7
def A170 : Ann := ⟨fun _ => ([], []), fun _ => []⟩
theorem S170_T {a0 a1 a2 : Value} {h : GH} {K : Value → GH → Prop} (g : S170 a0 a1 a2 h K) : T Tryz.prog 170 [a0, a1, a2] h K :=
  T_of_gwp (A := A170) Tryz.func170 (c := bodyOf Tryz.f170) (by kernel_rfl) (by kernel_rfl) (by kernel_rfl) (by kernel_rfl) (by kernel_rfl) (Eq.mp (by kernel_rfl) g)
def S171 (a0 a1 a2 : Value) (h : GH) (K : Value → GH → Prop) : Prop :=
 T Tryz.prog 174 [a0, a1, a2, (.int .i64 1)] h fun v1 h2 =>
 bnd (exV v1 0) fun v3 =>
 bnd (exV v1 1) fun v4 =>
 ifV v4 (
 T Tryz.prog 18 [v3] h2 fun v5 h6 =>
 bnd (ncV a0) fun v7 =>
 bnd (faV 3 v7) fun v8 =>
 bnd (stV 1 v8 v5 h6) fun h9 =>
 K v4 h9) (
 K v4 h2)
def A171 : Ann := ⟨fun _ => ([], []), fun _ => []⟩
theorem S171_T {a0 a1 a2 : Value} {h : GH} {K : Value → GH → Prop} (g : S171 a0 a1 a2 h K) : T Tryz.prog 171 [a0, a1, a2] h K :=
  T_of_gwp (A := A171) Tryz.func171 (c := bodyOf Tryz.f171) (by kernel_rfl) (by kernel_rfl) (by kernel_rfl) (by kernel_rfl) (by kernel_rfl) (Eq.mp (by kernel_rfl) g)
def S172 (a0 a1 : Value) (h : GH) (K : Value → GH → Prop) : Prop :=
 bnd (ncV a0) fun v1 =>
 bnd (faV 0 v1) fun v2 =>
 bnd (faV 0 v2) fun v3 =>
 bnd (ldV 1 false v3 h) fun v4 =>
 T Tryz.prog 31 [v4] h fun v5 h6 =>
 T Tryz.prog 51 [a1, v5] h6 fun v7 h8 =>
 bnd (exV v7 0) fun v9 =>
 bnd (exV v7 1) fun v10 =>
 T Tryz.prog 30 [v9] h8 fun v11 h12 =>
 bnd (exV v11 0) fun v13 =>
 bnd (exV v11 1) fun v14 =>
 bnd (ncV a0) fun v15 =>
 bnd (faV 0 v15) fun v16 =>
 bnd (faV 1 v16) fun v17 =>
 bnd (ldV 1 false v17 h12) fun v18 =>
 T Tryz.prog 32 [v18, (.int .i64 0)] h12 fun v19 h20 =>
 bnd (eqI v9 v19) fun b21 =>
 bnd (ncV a0) fun v22 =>
 bnd (faV 4 v22) fun v23 =>
 bnd (stV 1 v23 (.bool b21) h20) fun h24 =>
 bnd (ncV a0) fun v25 =>
 bnd (faV 0 v25) fun v26 =>
 bnd (faV 1 v26) fun v27 =>
 bnd (ldV 1 false v27 h24) fun v28 =>
 T Tryz.prog 32 [v28, (.int .i64 1)] h24 fun v29 h30 =>
 bnd (eqI v9 v29) fun b31 =>
 bnd (ncV a0) fun v32 =>
 bnd (faV 5 v32) fun v33 =>
 bnd (stV 1 v33 (.bool b31) h30) fun h34 =>
 K v14 h34
def A172 : Ann := ⟨fun _ => ([], []), fun _ => []⟩
theorem S172_T {a0 a1 : Value} {h : GH} {K : Value → GH → Prop} (g : S172 a0 a1 h K) : T Tryz.prog 172 [a0, a1] h K :=
  T_of_gwp (A := A172) Tryz.func172 (c := bodyOf Tryz.f172) (by kernel_rfl) (by kernel_rfl) (by kernel_rfl) (by kernel_rfl) (by kernel_rfl) (Eq.mp (by kernel_rfl) g)
def S173_j1 (x0 x1 x2 x6 : Value) (h : GH) (K : Value → GH → Prop)  : Prop :=
 bnd (ncV x0) fun v1 =>
 bnd (faV 2 v1) fun v2 =>
 bnd (ldV 1 false v2 h) fun v3 =>
 T Tryz.prog 78 [x1, v3, x2, x6] h fun v4 h5 =>
 K (.tuple #[]) h5
def S173 (a0 a1 a2 : Value) (h : GH) (K : Value → GH → Prop) : Prop :=
 bnd (ncV a0) fun v1 =>
 bnd (faV 3 v1) fun v2 =>
 bnd (ldV 1 false v2 h) fun v3 =>
 bnd (ncV a0) fun v4 =>
 bnd (faV 4 v4) fun v5 =>
 bnd (ldV 1 false v5 h) fun v6 =>
 ifV v6 (
 bnd (ncV a0) fun v7 =>
 bnd (faV 0 v7) fun v8 =>
 bnd (ldV 2 true v8 h) fun v9 =>
 T Tryz.prog 85 [(.iface 75 v9)] h fun v10 h11 =>
 S173_j1 a0 a1 a2 v10 h11 K ) (
 S173_j1 a0 a1 a2 v3 h K )
def A173 : Ann := ⟨fun _ => ([], []), fun _ => []⟩
theorem S173_T {a0 a1 a2 : Value} {h : GH} {K : Value → GH → Prop} (g : S173 a0 a1 a2 h K) : T Tryz.prog 173 [a0, a1, a2] h K :=
  T_of_gwp (A := A173) Tryz.func173 (c := bodyOf Tryz.f173) (by kernel_rfl) (by kernel_rfl) (by kernel_rfl) (by kernel_rfl) (by kernel_rfl) (Eq.mp (by kernel_rfl) g)
def S174_j1 (x0 x1 x2 x3 x10 : Value) (h : GH) (K : Value → GH → Prop)  : Prop :=
 bnd (binV .mul (.int .i64 3) x2) fun v1 =>
 bnd (binV .add (.int .i64 2) v1) fun v2 =>
 bnd (binV .add v2 x3) fun v3 =>
 T Tryz.prog 175 [x0, x1, v3, x10] h fun v4 h5 =>
 bnd (exV v4 0) fun v6 =>
 bnd (exV v4 1) fun v7 =>
 K (.tuple #[v6, v7]) h5
def S174 (a0 a1 a2 a3 : Value) (h : GH) (K : Value → GH → Prop) : Prop :=
 bnd (eqI a3 (.int .i64 0)) fun b1 =>
 ifV (.bool b1) (
 S174_j1 a0 a1 a2 a3 (.int .i64 15) h K ) (
 S174_j1 a0 a1 a2 a3 (.int .i64 1099511627775) h K )
def A174 : Ann := ⟨fun _ => ([], []), fun _ => []⟩
theorem S174_T {a0 a1 a2 a3 : Value} {h : GH} {K : Value → GH → Prop} (g : S174 a0 a1 a2 a3 h K) : T Tryz.prog 174 [a0, a1, a2, a3] h K :=
  T_of_gwp (A := A174) Tryz.func174 (c := bodyOf Tryz.f174) (by kernel_rfl) (by kernel_rfl) (by kernel_rfl) (by kernel_rfl) (by kernel_rfl) (Eq.mp (by kernel_rfl) g)
def S175 (a0 a1 a2 a3 : Value) (h : GH) (K : Value → GH → Prop) : Prop :=
 bnd (ncV a0) fun v1 =>
 bnd (faV 0 v1) fun v2 =>
 bnd (faV 0 v2) fun v3 =>
 bnd (ldV 1 false v3 h) fun v4 =>
 T Tryz.prog 31 [v4] h fun v5 h6 =>
 bnd (binV .add v5 a2) fun v7 =>
 T Tryz.prog 51 [a1, v7] h6 fun v8 h9 =>
 bnd (exV v8 0) fun v10 =>
 bnd (exV v8 1) fun v11 =>
 T Tryz.prog 30 [v10] h9 fun v12 h13 =>
 bnd (exV v12 0) fun v14 =>
 bnd (exV v12 1) fun v15 =>
 ifV v15 (
 bnd (binV .leq v14 a3) fun v16 =>
 K (.tuple #[v14, v16]) h13) (
 K (.tuple #[v14, (.bool false)]) h13)
def A175 : Ann := ⟨fun _ => ([], []), fun _ => []⟩
theorem S175_T {a0 a1 a2 a3 : Value} {h : GH} {K : Value → GH → Prop} (g : S175 a0 a1 a2 a3 h K) : T Tryz.prog 175 [a0, a1, a2, a3] h K :=
  T_of_gwp (A := A175) Tryz.func175 (c := bodyOf Tryz.f175) (by kernel_rfl) (by kernel_rfl) (by kernel_rfl) (by kernel_rfl) (by kernel_rfl) (Eq.mp (by kernel_rfl) g)
def S176 (a0 a1 a2 : Value) (h : GH) (K : Value → GH → Prop) : Prop :=
 bnd (ncV a0) fun v1 =>
 bnd (faV 8 v1) fun v2 =>
 bnd (ldV 1 false v2 h) fun v3 =>
 bnd (binV .add v3 (.int .i64 1)) fun v4 =>
 bnd (ncV a0) fun v5 =>
 bnd (faV 8 v5) fun v6 =>
 bnd (stV 1 v6 v4 h) fun h7 =>
 bnd (ncV a0) fun v8 =>
 bnd (faV 7 v8) fun v9 =>
 bnd (stV 1 v9 a1 h7) fun h10 =>
 bnd (ncV a0) fun v11 =>
 bnd (faV 8 v11) fun v12 =>
 bnd (ldV 1 false v12 h10) fun v13 =>
 bnd (ncV a0) fun v14 =>
 bnd (faV 9 v14) fun v15 =>
 bnd (ldV 1 false v15 h10) fun v16 =>
 bnd (binV .geq v13 v16) fun v17 =>
 ifV v17 (
 bnd (ncV a0) fun v18 =>
 bnd (faV 7 v18) fun v19 =>
 bnd (stV 1 v19 a2 h10) fun h20 =>
 bnd (ncV a0) fun v21 =>
 bnd (faV 7 v21) fun v22 =>
 bnd (ldV 1 false v22 h20) fun v23 =>
 bnd (eqI v23 a2) fun b24 =>
 K (.bool b24) h20) (
 bnd (ncV a0) fun v25 =>
 bnd (faV 7 v25) fun v26 =>
 bnd (ldV 1 false v26 h10) fun v27 =>
 bnd (eqI v27 a2) fun b28 =>
 K (.bool b28) h10)
def A176 : Ann := ⟨fun | 3 => ([0, 1, 2, 3, 4, 5, 6, 7, 8], [0, 1, 3, 7, 0, 16, 48, 112, 255]) | _ => ([], []), fun _ => []⟩
theorem S176_T {a0 a1 a2 : Value} {h : GH} {K : Value → GH → Prop} (g : S176 a0 a1 a2 h K) : T Tryz.prog 176 [a0, a1, a2] h K :=
  T_of_gwp (A := A176) Tryz.func176 (c := bodyOf Tryz.f176) (by kernel_rfl) (by kernel_rfl) (by kernel_rfl) (by kernel_rfl) (by kernel_rfl) (Eq.mp (by kernel_rfl) g)
def S177_j3 (x0 x1 x9 x37 x48 : Value) (h : GH) (K : Value → GH → Prop)  : Prop :=
 ifV x48 (
 T Tryz.prog 180 [x0, x1] h fun v1 h2 =>
 bnd (exV v1 0) fun v3 =>
 bnd (exV v1 1) fun v4 =>
 bnd (exV v1 2) fun v5 =>
 K (.tuple #[v3, v4, v5]) h2) (
 bnd (eqI x37 (.int .i64 2)) fun b6 =>
 ifV (.bool b6) (
 T Tryz.prog 181 [x0, x1] h fun v7 h8 =>
 bnd (exV v7 0) fun v9 =>
 bnd (exV v7 1) fun v10 =>
 ifV v9 (
 bnd (ncV x0) fun v11 =>
 bnd (faV 7 v11) fun v12 =>
 bnd (stV 1 v12 (.int .i64 8) h8) fun h13 =>
 K (.tuple #[.nilIface, (.bool false), v10]) h13) (
 K (.tuple #[.nilIface, (.bool false), v10]) h8)) (
 bnd (eqI x37 (.int .i64 3)) fun b14 =>
 ifV (.bool b14) (
 bnd (ncV x0) fun v15 =>
 bnd (faV 0 v15) fun v16 =>
 bnd (ncV x0) fun v17 =>
 bnd (faV 8 v17) fun v18 =>
 bnd (ldV 1 false v18 h) fun v19 =>
 T Tryz.prog 170 [v16, x1, v19] h fun v20 h21 =>
 bnd (ncV x0) fun v22 =>
 bnd (faV 7 v22) fun v23 =>
 bnd (stV 1 v23 (.int .i64 4) h21) fun h24 =>
 K (.tuple #[.nilIface, (.bool false), v20]) h24) (
 bnd (eqI x37 (.int .i64 4)) fun b25 =>
 ifV (.bool b25) (
 bnd (ncV x0) fun v26 =>
 bnd (faV 0 v26) fun v27 =>
 bnd (ncV x0) fun v28 =>
 bnd (faV 8 v28) fun v29 =>
 bnd (ldV 1 false v29 h) fun v30 =>
 T Tryz.prog 171 [v27, x1, v30] h fun v31 h32 =>
 bnd (ncV x0) fun v33 =>
 bnd (faV 7 v33) fun v34 =>
 bnd (stV 1 v34 (.int .i64 5) h32) fun h35 =>
 K (.tuple #[.nilIface, (.bool false), v31]) h35) (
 bnd (eqI x37 (.int .i64 6)) fun b36 =>
 ifV (.bool b36) (
 bnd (ncV x0) fun v37 =>
 bnd (faV 0 v37) fun v38 =>
 T Tryz.prog 172 [v38, x1] h fun v39 h40 =>
 bnd (ncV x0) fun v41 =>
 bnd (faV 7 v41) fun v42 =>
 bnd (stV 1 v42 (.int .i64 7) h40) fun h43 =>
 K (.tuple #[.nilIface, (.bool false), v39]) h43) (
 bnd (eqI x37 (.int .i64 7)) fun b44 =>
 ifV (.bool b44) (
 bnd (ncV x0) fun v45 =>
 bnd (faV 0 v45) fun v46 =>
 bnd (ncV x0) fun v47 =>
 bnd (faV 10 v47) fun v48 =>
 bnd (ldV 1 false v48 h) fun v49 =>
 T Tryz.prog 173 [v46, x1, v49] h fun v50 h51 =>
 T Tryz.prog 176 [x0, (.int .i64 3), (.int .i64 8)] h51 fun v52 h53 =>
 K (.tuple #[.nilIface, (.bool false), x9]) h53) (
 bnd (eqI x37 (.int .i64 8)) fun b54 =>
 ifV (.bool b54) (
 T Tryz.prog 182 [x0, x1, (.int .i64 1)] h fun v55 h56 =>
 K (.tuple #[.nilIface, (.bool false), x9]) h56) (
 bnd (eqI x37 (.int .i64 9)) fun b57 =>
 ifV (.bool b57) (
 T Tryz.prog 182 [x0, x1, (.int .i64 2)] h fun v58 h59 =>
 K (.tuple #[.nilIface, (.bool false), x9]) h59) (
 K (.tuple #[.nilIface, (.bool false), x9]) h))))))))
def S177_j2 (x0 x1 : Value) (h : GH) (K : Value → GH → Prop)  : Prop :=
 bnd (ncV x0) fun v1 =>
 bnd (faV 7 v1) fun v2 =>
 bnd (ldV 1 false v2 h) fun v3 =>
 bnd (eqI v3 (.int .i64 5)) fun b4 =>
 ifV (.bool b4) (
 T Tryz.prog 179 [x0, x1] h fun v5 h6 =>
 bnd (exV v5 0) fun v7 =>
 bnd (exV v5 1) fun v8 =>
 K (.tuple #[v7, (.bool false), v8]) h6) (
 bnd (eqI v3 (.int .i64 1)) fun b9 =>
 ifV (.bool b9) (
 S177_j3 x0 x1 (.bool true) v3 (.bool true) h K ) (
 bnd (eqI v3 (.int .i64 14)) fun b10 =>
 S177_j3 x0 x1 (.bool true) v3 (.bool b10) h K ))
def S177_j1 (x0 x1 x25 : Value) (h : GH) (K : Value → GH → Prop)  : Prop :=
 ifV x25 (
 T Tryz.prog 178 [x0, x1] h fun v1 h2 =>
 bnd (exV v1 0) fun v3 =>
 bnd (exV v1 1) fun v4 =>
 K (.tuple #[.nilIface, v3, v4]) h2) (
 S177_j2 x0 x1 h K )
def S177 (a0 a1 : Value) (h : GH) (K : Value → GH → Prop) : Prop :=
 bnd (ncV a0) fun v1 =>
 bnd (faV 7 v1) fun v2 =>
 bnd (ldV 1 false v2 h) fun v3 =>
 bnd (binV .geq v3 (.int .i64 10)) fun v4 =>
 ifV v4 (
 bnd (ncV a0) fun v5 =>
 bnd (faV 7 v5) fun v6 =>
 bnd (ldV 1 false v6 h) fun v7 =>
 bnd (binV .lss v7 (.int .i64 14)) fun v8 =>
 S177_j1 a0 a1 v8 h K ) (
 S177_j1 a0 a1 (.bool false) h K )
def A177 : Ann := ⟨fun | 18 => ([0, 1, 2, 3, 4, 5, 6, 7, 8, 9], [0, 1, 3, 0, 0, 16, 48, 112, 255, 511]) | 21 => ([0, 1, 2, 3, 4, 5, 6, 7, 8, 9], [0, 1, 3, 0, 0, 16, 48, 112, 255, 511]) | 27 => ([0, 1, 2, 3, 4, 5, 6, 7, 8], [0, 1, 3, 0, 0, 16, 48, 112, 255]) | _ => ([], []), fun _ => []⟩
theorem S177_T {a0 a1 : Value} {h : GH} {K : Value → GH → Prop} (g : S177 a0 a1 h K) : T Tryz.prog 177 [a0, a1] h K :=
  T_of_gwp (A := A177) Tryz.func177 (c := bodyOf Tryz.f177) (by kernel_rfl) (by kernel_rfl) (by kernel_rfl) (by kernel_rfl) (by kernel_rfl) (Eq.mp (by kernel_rfl) g)
def S178_j1 (x0 x1 x6 : Value) (h : GH) (K : Value → GH → Prop)  : Prop :=
 bnd (ncV x0) fun v1 =>
 bnd (faV 0 v1) fun v2 =>
 bnd (ncV x0) fun v3 =>
 bnd (faV 8 v3) fun v4 =>
 bnd (ldV 1 false v4 h) fun v5 =>
 T Tryz.prog 174 [v2, x1, v5, x6] h fun v6 h7 =>
 bnd (exV v6 0) fun v8 =>
 bnd (exV v6 1) fun v9 =>
 bnd (ncV x0) fun v10 =>
 bnd (faV 12 v10) fun v11 =>
 bnd (stV 1 v11 v8 h7) fun h12 =>
 bnd (ncV x0) fun v13 =>
 bnd (faV 7 v13) fun v14 =>
 bnd (stV 1 v14 (.int .i64 13) h12) fun h15 =>
 K (.tuple #[(.bool false), v9]) h15
def S178 (a0 a1 : Value) (h : GH) (K : Value → GH → Prop) : Prop :=
 bnd (ncV a0) fun v1 =>
 bnd (faV 7 v1) fun v2 =>
 bnd (ldV 1 false v2 h) fun v3 =>
 bnd (eqI v3 (.int .i64 10)) fun b4 =>
 ifV (.bool b4) (
 T Tryz.prog 181 [a0, a1] h fun v5 h6 =>
 bnd (exV v5 0) fun v7 =>
 bnd (exV v5 1) fun v8 =>
 K (.tuple #[v7, v8]) h6) (
 bnd (eqI v3 (.int .i64 11)) fun b9 =>
 ifV (.bool b9) (
 bnd (ncV a0) fun v10 =>
 bnd (faV 7 v10) fun v11 =>
 bnd (stV 1 v11 (.int .i64 12) h) fun h12 =>
 bnd (ncV a0) fun v13 =>
 bnd (faV 0 v13) fun v14 =>
 bnd (ncV a0) fun v15 =>
 bnd (faV 8 v15) fun v16 =>
 bnd (ldV 1 false v16 h12) fun v17 =>
 T Tryz.prog 170 [v14, a1, v17] h12 fun v18 h19 =>
 K (.tuple #[(.bool false), v18]) h19) (
 bnd (eqI v3 (.int .i64 12)) fun b20 =>
 ifV (.bool b20) (
 bnd (ncV a0) fun v21 =>
 bnd (faV 0 v21) fun v22 =>
 bnd (faV 5 v22) fun v23 =>
 bnd (ldV 1 false v23 h) fun v24 =>
 ifV v24 (
 S178_j1 a0 a1 (.int .i64 2) h K ) (
 S178_j1 a0 a1 (.int .i64 1) h K )) (
 bnd (ncV a0) fun v25 =>
 bnd (faV 0 v25) fun v26 =>
 bnd (faV 2 v26) fun v27 =>
 bnd (ldV 1 false v27 h) fun v28 =>
 bnd (ncV a0) fun v29 =>
 bnd (faV 0 v29) fun v30 =>
 bnd (faV 0 v30) fun v31 =>
 bnd (ldV 2 true v31 h) fun v32 =>
 bnd (ncV a0) fun v33 =>
 bnd (faV 12 v33) fun v34 =>
 bnd (ldV 1 false v34 h) fun v35 =>
 T Tryz.prog 85 [(.iface 75 v32)] h fun v36 h37 =>
 ldV 1 false v34 h37 = some v35 ∧
 ldV 1 false v27 h37 = some v28 ∧
 T Tryz.prog 18 [v35] h37 fun v38 h39 =>
 ldV 1 false v27 h39 = some v28 ∧
 T Tryz.prog 78 [a1, v28, v36, v38] h39 fun v40 h41 =>
 T Tryz.prog 176 [a0, (.int .i64 11), (.int .i64 0)] h41 fun v42 h43 =>
 K (.tuple #[v42, (.bool true)]) h43)))
def A178 : Ann := ⟨fun | 6 => ([0, 1, 2, 3, 4, 5, 6, 7, 8, 9, 10], [0, 1, 3, 0, 0, 16, 48, 112, 255, 511, 1023]) | 11 => ([0, 1, 2, 3, 4, 5, 6, 7, 8, 9, 10, 11, 12, 13, 14, 15, 16, 17], [0, 0, 2, 6, 0, 0, 32, 96, 224, 0, 1022, 2046, 4094, 4094, 8191, 24575, 57343, 131071]) | 14 => ([0, 1, 2, 3, 4, 5, 6, 7, 8, 9, 10, 11, 13, 14, 15, 16, 12, 17, 18], [0, 0, 2, 6, 14, 30, 0, 64, 192, 448, 960, 1984, 4032, 0, 8192, 24576, 57344, 131008, 262143]) | _ => ([], []), fun _ => []⟩
theorem S178_T {a0 a1 : Value} {h : GH} {K : Value → GH → Prop} (g : S178 a0 a1 h K) : T Tryz.prog 178 [a0, a1] h K :=
  T_of_gwp (A := A178) Tryz.func178 (c := bodyOf Tryz.f178) (by kernel_rfl) (by kernel_rfl) (by kernel_rfl) (by kernel_rfl) (by kernel_rfl) (Eq.mp (by kernel_rfl) g)
def S179_j1 (x0 x8 : Value) (h : GH) (K : Value → GH → Prop)  : Prop :=
 bnd (eqK .iface true x8 .nilIface) fun b1 =>
 ifV (.bool b1) (
 K (.tuple #[.nilIface, (.bool false)]) h) (
 bnd (taV 95 (.int .i64 0) true x8) fun v2 =>
 bnd (exV v2 1) fun v3 =>
 bnd (exV v2 0) fun v4 =>
 ifV v3 (
 bnd (ncV x0) fun v5 =>
 bnd (faV 7 v5) fun v6 =>
 bnd (stV 1 v6 (.int .i64 9) h) fun h7 =>
 K (.tuple #[.nilIface, (.bool true)]) h7) (
 bnd (taV 128 (.agg #[(.int .i64 0), (.int .i64 0), (.int .i64 0), (.int .i64 0), (.int .i64 0)]) true x8) fun v8 =>
 bnd (exV v8 1) fun v9 =>
 bnd (exV v8 0) fun v10 =>
 ifV v9 (
 bnd (ncV x0) fun v11 =>
 bnd (faV 6 v11) fun v12 =>
 bnd (ldV 1 false v12 h) fun v13 =>
 T Tryz.prog 100 [x8, v13] h fun v14 h15 =>
 K (.tuple #[v14, (.bool true)]) h15) (
 bnd (taV 75 (.agg #[(.int .i64 0), (.int .i64 0)]) true x8) fun v16 =>
 bnd (exV v16 1) fun v17 =>
 bnd (exV v16 0) fun v18 =>
 ifV v17 (
 bnd (ncV x0) fun v19 =>
 bnd (faV 6 v19) fun v20 =>
 bnd (ldV 1 false v20 h) fun v21 =>
 T Tryz.prog 100 [x8, v21] h fun v22 h23 =>
 bnd (ncV x0) fun v24 =>
 bnd (faV 11 v24) fun v25 =>
 bnd (stV 1 v25 v22 h23) fun h26 =>
 bnd (ncV x0) fun v27 =>
 bnd (faV 7 v27) fun v28 =>
 bnd (stV 1 v28 (.int .i64 14) h26) fun h29 =>
 K (.tuple #[.nilIface, (.bool true)]) h29) (
 K (.tuple #[.nilIface, (.bool true)]) h))))
def S179 (a0 a1 : Value) (h : GH) (K : Value → GH → Prop) : Prop :=
 bnd (ncV a0) fun v1 =>
 bnd (faV 0 v1) fun v2 =>
 bnd (faV 0 v2) fun v3 =>
 bnd (ldV 2 true v3 h) fun v4 =>
 bnd (ncV a0) fun v5 =>
 bnd (faV 8 v5) fun v6 =>
 bnd (ldV 1 false v6 h) fun v7 =>
 bnd (ncV a0) fun v8 =>
 bnd (faV 6 v8) fun v9 =>
 bnd (ldV 1 false v9 h) fun v10 =>
 bnd (ncV v10) fun v11 =>
 bnd (faV 0 v11) fun v12 =>
 bnd (ldV 1 false v12 h) fun v13 =>
 bnd (ncV a0) fun v14 =>
 bnd (faV 6 v14) fun v15 =>
 bnd (ldV 1 false v15 h) fun v16 =>
 T Tryz.prog 167 [v16] h fun v17 h18 =>
 ldV 1 false v12 h18 = some v13 ∧
 ldV 1 false v9 h18 = some v10 ∧
 ldV 1 false v6 h18 = some v7 ∧
 ldV 2 true v3 h18 = some v4 ∧
 bnd (fillV [(.int .i64 0), (.int .i64 0), (.int .i64 0), (.int .i64 0), (.int .i64 0)] [(0, 2, v4), (2, 1, v7), (3, 1, v13), (4, 1, v17)]) fun c19 =>
 T Tryz.prog 85 [(.iface 128 (.agg c19.toArray))] h18 fun v20 h21 =>
 bnd (ncV a0) fun v22 =>
 bnd (faV 10 v22) fun v23 =>
 bnd (stV 1 v23 v20 h21) fun h24 =>
 bnd (ncV a0) fun v25 =>
 bnd (faV 0 v25) fun v26 =>
 bnd (faV 2 v26) fun v27 =>
 bnd (ldV 1 false v27 h24) fun v28 =>
 bnd (ncV a0) fun v29 =>
 bnd (faV 0 v29) fun v30 =>
 bnd (faV 3 v30) fun v31 =>
 bnd (ldV 1 false v31 h24) fun v32 =>
 bnd (ncV a0) fun v33 =>
 bnd (faV 10 v33) fun v34 =>
 bnd (ldV 1 false v34 h24) fun v35 =>
 T Tryz.prog 78 [a1, v28, v32, v35] h24 fun v36 h37 =>
 bnd (exV v36 0) fun v38 =>
 bnd (exV v36 1) fun v39 =>
 bnd (ncV a0) fun v40 =>
 bnd (faV 0 v40) fun v41 =>
 bnd (faV 3 v41) fun v42 =>
 bnd (ldV 1 false v42 h37) fun v43 =>
 bnd (eqI v38 v43) fun b44 =>
 ifV (.bool b44) (
 bnd (ncV a0) fun v45 =>
 bnd (faV 7 v45) fun v46 =>
 bnd (stV 1 v46 (.int .i64 6) h37) fun h47 =>
 K (.tuple #[.nilIface, (.bool true)]) h47) (
 T Tryz.prog 39 [v38] h37 fun v48 h49 =>
 bnd (taV 75 (.agg #[(.int .i64 0), (.int .i64 0)]) true v48) fun v50 =>
 bnd (exV v50 0) fun v51 =>
 bnd (exV v50 1) fun v52 =>
 newV 75 [(.int .i64 0), (.int .i64 0)] h49 fun v53 h54 =>
 bnd (stV 2 v53 v51 h54) fun h55 =>
 ifV v52 (
 bnd (ldV 2 true v53 h55) fun v56 =>
 bnd (ncV a0) fun v57 =>
 bnd (faV 0 v57) fun v58 =>
 bnd (faV 0 v58) fun v59 =>
 bnd (ldV 2 true v59 h55) fun v60 =>
 bnd (eqP Tryz.prog 10000 75 v56 v60) fun b61 =>
 ifV (.bool b61) (
 T Tryz.prog 176 [a0, (.int .i64 3), (.int .i64 8)] h55 fun v62 h63 =>
 K (.tuple #[.nilIface, (.bool true)]) h63) (
 S179_j1 a0 v48 h55 K )) (
 S179_j1 a0 v48 h55 K ))
def A179 : Ann := ⟨fun | 1 => ([0, 1, 2, 3, 4, 5, 6, 7, 8, 9, 10, 11, 12, 13, 14, 15, 16, 17, 18, 19, 20, 21, 22, 23, 24, 25, 26, 27], [0, 0, 2, 6, 14, 30, 0, 64, 192, 448, 0, 1024, 3072, 7168, 15360, 31744, 64512, 0, 131072, 393216, 917504, 1966080, 4194302, 8388606, 16777214, 33554431, 67108863, 134217727]) | 2 => ([0, 1, 2, 3, 4, 5, 6, 7, 8, 9, 10, 11, 12, 13, 14, 15, 16, 17, 18, 19, 20], [0, 0, 2, 6, 14, 30, 0, 64, 192, 448, 960, 0, 2048, 6144, 14336, 32767, 65535, 131071, 131071, 262143, 1048575]) | 8 => ([0, 1, 2, 3, 4, 5, 6, 7, 8, 9], [0, 1, 3, 3, 11, 27, 59, 123, 255, 511]) | _ => ([], []), fun _ => []⟩
theorem S179_T {a0 a1 : Value} {h : GH} {K : Value → GH → Prop} (g : S179 a0 a1 h K) : T Tryz.prog 179 [a0, a1] h K :=
  T_of_gwp (A := A179) Tryz.func179 (c := bodyOf Tryz.f179) (by kernel_rfl) (by kernel_rfl) (by kernel_rfl) (by kernel_rfl) (by kernel_rfl) (Eq.mp (by kernel_rfl) g)
def S180 (a0 a1 : Value) (h : GH) (K : Value → GH → Prop) : Prop :=
 bnd (ncV a0) fun v1 =>
 bnd (faV 0 v1) fun v2 =>
 T Tryz.prog 172 [v2, a1] h fun v3 h4 =>
 bnd (ncV a0) fun v5 =>
 bnd (faV 7 v5) fun v6 =>
 bnd (ldV 1 false v6 h4) fun v7 =>
 bnd (eqI v7 (.int .i64 14)) fun b8 =>
 bnd (ncV a0) fun v9 =>
 bnd (faV 0 v9) fun v10 =>
 bnd (faV 4 v10) fun v11 =>
 bnd (ldV 1 false v11 h4) fun v12 =>
 bnd (unV .not v12) fun v13 =>
 ifV v13 (
 bnd (ncV a0) fun v14 =>
 bnd (faV 7 v14) fun v15 =>
 bnd (stV 1 v15 (.int .i64 10) h4) fun h16 =>
 K (.tuple #[.nilIface, (.bool false), v3]) h16) (
 ifV (.bool b8) (
 bnd (ncV a0) fun v17 =>
 bnd (faV 7 v17) fun v18 =>
 bnd (stV 1 v18 (.int .i64 5) h4) fun h19 =>
 bnd (ncV a0) fun v20 =>
 bnd (faV 11 v20) fun v21 =>
 bnd (ldV 1 false v21 h19) fun v22 =>
 K (.tuple #[v22, (.bool false), v3]) h19) (
 bnd (ncV a0) fun v23 =>
 bnd (faV 7 v23) fun v24 =>
 bnd (stV 1 v24 (.int .i64 2) h4) fun h25 =>
 K (.tuple #[.nilIface, (.bool false), v3]) h25))
def A180 : Ann := ⟨fun _ => ([], []), fun _ => []⟩
theorem S180_T {a0 a1 : Value} {h : GH} {K : Value → GH → Prop} (g : S180 a0 a1 h K) : T Tryz.prog 180 [a0, a1] h K :=
  T_of_gwp (A := A180) Tryz.func180 (c := bodyOf Tryz.f180) (by kernel_rfl) (by kernel_rfl) (by kernel_rfl) (by kernel_rfl) (by kernel_rfl) (Eq.mp (by kernel_rfl) g)
def S181 (a0 a1 : Value) (h : GH) (K : Value → GH → Prop) : Prop :=
 bnd (ncV a0) fun v1 =>
 bnd (faV 0 v1) fun v2 =>
 T Tryz.prog 175 [v2, a1, (.int .i64 1), (.int .i64 16)] h fun v3 h4 =>
 bnd (exV v3 0) fun v5 =>
 bnd (exV v3 1) fun v6 =>
 bnd (ncV a0) fun v7 =>
 bnd (faV 9 v7) fun v8 =>
 bnd (stV 1 v8 v5 h4) fun h9 =>
 bnd (ncV a0) fun v10 =>
 bnd (faV 8 v10) fun v11 =>
 bnd (stV 1 v11 (.int .i64 0) h9) fun h12 =>
 bnd (ncV a0) fun v13 =>
 bnd (faV 7 v13) fun v14 =>
 bnd (ldV 1 false v14 h12) fun v15 =>
 bnd (binV .add v15 (.int .i64 1)) fun v16 =>
 bnd (ncV a0) fun v17 =>
 bnd (faV 7 v17) fun v18 =>
 bnd (stV 1 v18 v16 h12) fun h19 =>
 bnd (eqI v5 (.int .i64 0)) fun b20 =>
 K (.tuple #[(.bool b20), v6]) h19
def A181 : Ann := ⟨fun _ => ([], []), fun _ => []⟩
theorem S181_T {a0 a1 : Value} {h : GH} {K : Value → GH → Prop} (g : S181 a0 a1 h K) : T Tryz.prog 181 [a0, a1] h K :=
  T_of_gwp (A := A181) Tryz.func181 (c := bodyOf Tryz.f181) (by kernel_rfl) (by kernel_rfl) (by kernel_rfl) (by kernel_rfl) (by kernel_rfl) (Eq.mp (by kernel_rfl) g)
def S182 (a0 a1 a2 : Value) (h : GH) (K : Value → GH → Prop) : Prop :=
 bnd (ncV a0) fun v1 =>
 bnd (faV 0 v1) fun v2 =>
 bnd (faV 0 v2) fun v3 =>
 bnd (faV 0 v3) fun v4 =>
 bnd (ldV 1 false v4 h) fun v5 =>
 bnd (ncV a0) fun v6 =>
 bnd (faV 0 v6) fun v7 =>
 bnd (faV 0 v7) fun v8 =>
 bnd (faV 1 v8) fun v9 =>
 bnd (ldV 1 false v9 h) fun v10 =>
 bnd (ncV a0) fun v11 =>
 bnd (faV 0 v11) fun v12 =>
 bnd (faV 0 v12) fun v13 =>
 bnd (faV 1 v13) fun v14 =>
 bnd (ldV 1 false v14 h) fun v15 =>
 T Tryz.prog 31 [v5] h fun v16 h17 =>
 ldV 1 false v14 h17 = some v15 ∧
 ldV 1 false v9 h17 = some v10 ∧
 T Tryz.prog 32 [v10, (.int .i64 0)] h17 fun v18 h19 =>
 ldV 1 false v14 h19 = some v15 ∧
 T Tryz.prog 32 [v15, a2] h19 fun v20 h21 =>
 T Tryz.prog 78 [a1, v16, v18, v20] h21 fun v22 h23 =>
 bnd (ncV a0) fun v24 =>
 bnd (faV 7 v24) fun v25 =>
 bnd (stV 1 v25 (.int .i64 1) h23) fun h26 =>
 K (.tuple #[]) h26
def A182 : Ann := ⟨fun | 0 => ([0, 1, 2, 3, 4, 5, 6, 8, 9, 10, 11, 12, 13, 15, 16, 17, 18, 19, 20, 21, 7, 14, 22, 23], [0, 0, 2, 6, 14, 30, 62, 126, 0, 256, 768, 1792, 3840, 7936, 16382, 0, 32768, 98304, 229376, 491520, 1015808, 0, 4194302, 8388607]) | _ => ([], []), fun _ => []⟩
theorem S182_T {a0 a1 a2 : Value} {h : GH} {K : Value → GH → Prop} (g : S182 a0 a1 a2 h K) : T Tryz.prog 182 [a0, a1, a2] h K :=
  T_of_gwp (A := A182) Tryz.func182 (c := bodyOf Tryz.f182) (by kernel_rfl) (by kernel_rfl) (by kernel_rfl) (by kernel_rfl) (by kernel_rfl) (Eq.mp (by kernel_rfl) g)
end Go.Proofs.YtghcnhimggbobaaGreat
