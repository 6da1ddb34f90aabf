/- The functions of the program that this seat reaches, each in a shallow form over ghost heaps, with the kernel's word that it is what its loaded code computes. Nothing here is a statement on the program. Written by a program of this session. -/
import Derived.Test.YtlmafbdhhneokaaGreatKG
import Derived.Test.YtlmafbdhhneokaaGreatProg
import Derived.KernelRfl
namespace Go.Proofs.YtlmafbdhhneokaaGreat
open Go GW Go.Proofs
set_option linter.unusedVariables false
set_option maxRecDepth 100000

/-! ### pawl/bank.Do (53) -/
def S53_j1 (x2 x3 x4 : Value) (h : GH) (K : Value → GH → Prop)  : Prop :=
 bnd (fillV [.nilFunc, .nilFunc, .nilFunc, .nilFunc, .nilFunc, .nilFunc] [(0, 1, (.func (.func 76) #[] #[])), (1, 1, (.func (.func 77) #[] #[])), (2, 1, (.func (.func 78) #[] #[])), (3, 1, (.func (.func 79) #[] #[])), (4, 1, (.func (.func 80) #[] #[])), (5, 1, (.func (.func 81) #[] #[]))]) fun c1 =>
 newV 157 [.nilFunc, .nilFunc, .nilFunc, .nilFunc, .nilFunc, .nilFunc] h fun v2 h3 =>
 bnd (stV 6 v2 (.agg c1.toArray) h3) fun h4 =>
 bnd (ldV 48 true x2 h4) fun v5 =>
 bnd (fillV (List.replicate 16 (.bool false) ++ List.replicate 32 (.int .i64 0) ++ [.nilIface]) [(0, 48, v5)]) fun c6 =>
 newV 146 ((.agg c6.toArray) : Value).cells.toList h4 fun v7 h8 =>
 bnd (faV 0 x3) fun v9 =>
 bnd (ldV 1 false v9 h8) fun v10 =>
 bnd (iaV 6 1 v2 v10) fun v11 =>
 bnd (ldV 1 false v11 h8) fun v12 =>
 callV Tryz.prog v12 [v7, x3] h8 fun v13 h14 =>
 newV 55 [(.int .i64 0), (.int .i64 0)] h14 fun v15 h16 =>
 bnd (stV 2 v15 v13 h16) fun h17 =>
 bnd (ldV 2 true v15 h17) fun v18 =>
 T Tryz.prog 70 [v7, x2, v18] h17 fun v19 h20 =>
 bnd (stV 50 x4 v19 h20) fun h21 =>
 bnd (ldV 50 true x4 h21) fun v22 =>
 K (.tuple #[v22, (.int .i64 0)]) h21
def S53 (a0 a1 : Value) (h : GH) (K : Value → GH → Prop) : Prop :=
 newV 69 (a0 : Value).cells.toList h fun v1 h2 =>
 newV 50 (a1 : Value).cells.toList h2 fun v3 h4 =>
 newV 71 ([(.int .i64 0)] ++ List.replicate 16 (.bool false) ++ List.replicate 32 (.int .i64 0) ++ [(.slice none 0 0)]) h4 fun v5 h6 =>
 T Tryz.prog 49 [v1] h6 fun v7 h8 =>
 bnd (unV .not v7) fun v9 =>
 ifV v9 (
 bnd (fillV ([(.int .i64 0)] ++ List.replicate 16 (.bool false) ++ List.replicate 32 (.int .i64 0) ++ [(.slice none 0 0)]) []) fun c10 =>
 bnd (stV 50 v5 (.agg c10.toArray) h8) fun h11 =>
 bnd (ldV 50 true v5 h11) fun v12 =>
 K (.tuple #[v12, (.int .i64 500)]) h11) (
 T Tryz.prog 66 [v3] h8 fun v13 h14 =>
 bnd (unV .not v13) fun v15 =>
 ifV v15 (
 bnd (fillV ([(.int .i64 0)] ++ List.replicate 16 (.bool false) ++ List.replicate 32 (.int .i64 0) ++ [(.slice none 0 0)]) []) fun c16 =>
 bnd (stV 50 v5 (.agg c16.toArray) h14) fun h17 =>
 bnd (ldV 50 true v5 h17) fun v18 =>
 K (.tuple #[v18, (.int .i64 500)]) h17) (
 bnd (faV 0 v3) fun v19 =>
 bnd (ldV 1 false v19 h14) fun v20 =>
 T Tryz.prog 52 [v20] h14 fun v21 h22 =>
 bnd (unV .not v21) fun v23 =>
 ifV v23 (
 bnd (fillV ([(.int .i64 0)] ++ List.replicate 16 (.bool false) ++ List.replicate 32 (.int .i64 0) ++ [(.slice none 0 0)]) []) fun c24 =>
 bnd (stV 50 v5 (.agg c24.toArray) h22) fun h25 =>
 bnd (ldV 50 true v5 h25) fun v26 =>
 K (.tuple #[v26, (.int .i64 500)]) h25) (
 S53_j1 v1 v3 v5 h22 K )))
def A53 : Ann := ⟨fun _ => ([], []), fun _ => []⟩
theorem S53_T {a0 a1 : Value} {h : GH} {K : Value → GH → Prop} (g : S53 a0 a1 h K) : T Tryz.prog 53 [a0, a1] h K :=
  T_of_gwp (A := A53) Tryz.func53 (c := bodyOf Tryz.f53) (by kernel_rfl) (by kernel_rfl) (by kernel_rfl) (by kernel_rfl) (by kernel_rfl) (Eq.mp (by kernel_rfl) g)

/-! ### pawl/read.New (54) -/
def S54 (a0 a1 a2 : Value) (h : GH) (K : Value → GH → Prop) : Prop :=
 T Tryz.prog 25 [a0] h fun v1 h2 =>
 bnd (unV .not v1) fun v3 =>
 ifV v3 (
 K (.tuple #[(.pointer none), (.int .i64 1500)]) h2) (
 T Tryz.prog 26 [a1, (.int .i64 1048576)] h2 fun v4 h5 =>
 bnd (unV .not v4) fun v6 =>
 ifV v6 (
 K (.tuple #[(.pointer none), (.int .i64 1500)]) h5) (
 T Tryz.prog 26 [a2, (.int .i64 16)] h5 fun v7 h8 =>
 bnd (unV .not v7) fun v9 =>
 ifV v9 (
 K (.tuple #[(.pointer none), (.int .i64 1500)]) h8) (
 bnd (fillV [(.int .i64 0), (.int .i64 0), (.int .i64 0), (.int .i64 0), (.pointer none), (.int .i64 0), (.int .i64 0), (.bool false)] [(0, 1, a0), (1, 1, a1), (2, 1, a2), (5, 1, (.int .i64 (-1)))]) fun c10 =>
 newV 159 ((.agg c10.toArray) : Value).cells.toList h8 fun v11 h12 =>
 K (.tuple #[v11, (.int .i64 0)]) h12)))
def A54 : Ann := ⟨fun _ => ([], []), fun _ => []⟩
theorem S54_T {a0 a1 a2 : Value} {h : GH} {K : Value → GH → Prop} (g : S54 a0 a1 a2 h K) : T Tryz.prog 54 [a0, a1, a2] h K :=
  T_of_gwp (A := A54) Tryz.func54 (c := bodyOf Tryz.f54) (by kernel_rfl) (by kernel_rfl) (by kernel_rfl) (by kernel_rfl) (by kernel_rfl) (Eq.mp (by kernel_rfl) g)

/-! ### pawl/desc.NewWriter (55) -/
def S55_j1 (x0 x1 x2 : Value) (h : GH) (K : Value → GH → Prop)  : Prop :=
 T Tryz.prog 83 [x0] h fun v1 h2 =>
 T Tryz.prog 84 [x1, (.int .i64 0)] h2 fun v3 h4 =>
 bnd (lnV x2) fun v5 =>
 T Tryz.prog 64 [v5] h4 fun v6 h7 =>
 bsV 3 2 [(.int .i64 0), (.int .i64 0)] [(0, 1, v3), (1, 1, v6)] h7 fun v8 h9 =>
 bnd (fillV [(.int .i64 0), (.slice none 0 0)] [(0, 1, v1), (1, 1, v8)]) fun c10 =>
 newV 161 ((.agg c10.toArray) : Value).cells.toList h9 fun v11 h12 =>
 bnd (lnV x2) fun v13 =>
 Lfp (fun (s14 : Nat → Value) h15 again16 =>
 bnd (binV .lss (s14 3) (s14 2)) fun v17 =>
 ifV v17 (
 bnd (isV 3 (s14 1) (s14 3)) fun v18 =>
 bnd (ldV 3 true v18 h15) fun v19 =>
 newV 114 [(.int .i64 0), (.int .i64 0), (.int .i64 0)] h15 fun v20 h21 =>
 bnd (stV 3 v20 v19 h21) fun h22 =>
 bnd (ncV (s14 0)) fun v23 =>
 bnd (faV 1 v23) fun v24 =>
 bnd (ldV 1 false v24 h22) fun v25 =>
 bnd (faV 0 v20) fun v26 =>
 bnd (ldV 1 false v26 h22) fun v27 =>
 bnd (faV 1 v20) fun v28 =>
 bnd (ldV 1 false v28 h22) fun v29 =>
 bnd (faV 2 v20) fun v30 =>
 bnd (ldV 1 false v30 h22) fun v31 =>
 T Tryz.prog 64 [v27] h22 fun v32 h33 =>
 ldV 1 false v30 h33 = some v31 ∧
 ldV 1 false v28 h33 = some v29 ∧
 ldV 1 false v24 h33 = some v25 ∧
 T Tryz.prog 64 [v29] h33 fun v34 h35 =>
 ldV 1 false v30 h35 = some v31 ∧
 ldV 1 false v24 h35 = some v25 ∧
 T Tryz.prog 64 [v31] h35 fun v36 h37 =>
 ldV 1 false v24 h37 = some v25 ∧
 bsV 3 3 [(.int .i64 0), (.int .i64 0), (.int .i64 0)] [(0, 1, v32), (1, 1, v34), (2, 1, v36)] h37 fun v38 h39 =>
 apV 3 1 8 v25 v38 h39 fun v40 h41 =>
 bnd (ncV (s14 0)) fun v42 =>
 bnd (faV 1 v42) fun v43 =>
 bnd (stV 1 v43 v40 h41) fun h44 =>
 bnd (binV .add (s14 3) (.int .i64 1)) fun v45 =>
 again16 (tup [(s14 0), (s14 1), (s14 2), v45]) h44) (
 K (.tuple #[(s14 0), (.int .i64 0)]) h15)) (tup [v11, x2, v13, (.int .i64 0)]) h12
def S55 (a0 a1 a2 : Value) (h : GH) (K : Value → GH → Prop) : Prop :=
 T Tryz.prog 27 [a0, a1] h fun v1 h2 =>
 bnd (unV .not v1) fun v3 =>
 ifV v3 (
 K (.tuple #[(.pointer none), (.int .i64 1300)]) h2) (
 T Tryz.prog 82 [a2] h2 fun v4 h5 =>
 bnd (unV .not v4) fun v6 =>
 ifV v6 (
 K (.tuple #[(.pointer none), (.int .i64 1300)]) h5) (
 S55_j1 a0 a1 a2 h5 K ))
def A55 : Ann := ⟨fun | 7 => ([0, 1, 2, 3, 4, 5, 6, 8, 9, 11, 12, 7, 10, 13, 14, 15, 16, 17, 18], [0, 0, 2, 6, 14, 0, 32, 96, 0, 256, 992, 0, 2048, 8160, 16352, 32766, 65535, 131071, 262143]) | _ => ([], []), fun | 0 => [8, 30, 31, 32] | _ => []⟩
theorem S55_T {a0 a1 a2 : Value} {h : GH} {K : Value → GH → Prop} (g : S55 a0 a1 a2 h K) : T Tryz.prog 55 [a0, a1, a2] h K :=
  T_of_gwp (A := A55) Tryz.func55 (c := bodyOf Tryz.f55) (by kernel_rfl) (by kernel_rfl) (by kernel_rfl) (by kernel_rfl) (by kernel_rfl) (Eq.mp (by kernel_rfl) g)

/-! ### pawl/desc.Rows (56) -/
def S56 (a0 : Value) (h : GH) (K : Value → GH → Prop) : Prop :=
 newV 69 (a0 : Value).cells.toList h fun v1 h2 =>
 bnd (faV 0 v1) fun v3 =>
 bnd (ldV 16 true v3 h2) fun v4 =>
 Lfp (fun (s5 : Nat → Value) h6 again7 =>
 bnd (binV .lss (s5 3) (.int .i64 16)) fun v8 =>
 ifV v8 (
 bnd (ixV 16 1 false (s5 2) (s5 3)) fun v9 =>
 ifV v9 (
 bnd (faV 16 (s5 0)) fun v10 =>
 bnd (iaV 16 1 v10 (s5 3)) fun v11 =>
 bnd (ldV 1 false v11 h6) fun v12 =>
 bnd (faV 32 (s5 0)) fun v13 =>
 bnd (iaV 16 1 v13 (s5 3)) fun v14 =>
 bnd (ldV 1 false v14 h6) fun v15 =>
 bnd (fillV [(.int .i64 0), (.int .i64 0), (.int .i64 0)] [(0, 1, (s5 3)), (1, 1, v12), (2, 1, v15)]) fun c16 =>
 bsV 114 1 [(.int .i64 0), (.int .i64 0), (.int .i64 0)] [(0, 3, (.agg c16.toArray))] h6 fun v17 h18 =>
 apV 114 3 24 (s5 1) v17 h18 fun v19 h20 =>
 bnd (binV .add (s5 3) (.int .i64 1)) fun v21 =>
 again7 (tup [(s5 0), v19, (s5 2), v21]) h20) (
 bnd (binV .add (s5 3) (.int .i64 1)) fun v22 =>
 again7 (tup [(s5 0), (s5 1), (s5 2), v22]) h6)) (
 K (s5 1) h6)) (tup [v1, (.slice none 0 0), v4, (.int .i64 0)]) h2
def A56 : Ann := ⟨fun | 6 => ([0, 1, 2, 3, 4, 5, 6, 7, 8, 9, 10, 11, 12, 13], [0, 0, 0, 0, 12, 28, 0, 0, 192, 448, 1022, 2046, 4095, 8191]) | _ => ([], []), fun | 0 => [1, 3, 7, 8] | _ => []⟩
theorem S56_T {a0 : Value} {h : GH} {K : Value → GH → Prop} (g : S56 a0 h K) : T Tryz.prog 56 [a0] h K :=
  T_of_gwp (A := A56) Tryz.func56 (c := bodyOf Tryz.f56) (by kernel_rfl) (by kernel_rfl) (by kernel_rfl) (by kernel_rfl) (by kernel_rfl) (Eq.mp (by kernel_rfl) g)

/-! ### (*pawl/read.Read).Value (57) -/
def S57 (a0 : Value) (h : GH) (K : Value → GH → Prop) : Prop :=
 bnd (eqK .ptr true a0 (.pointer none)) fun b1 =>
 ifV (.bool b1) (
 K (.int .i64 0) h) (
 bnd (ncV a0) fun v2 =>
 bnd (faV 3 v2) fun v3 =>
 bnd (ldV 1 false v3 h) fun v4 =>
 K v4 h)
def A57 : Ann := ⟨fun _ => ([], []), fun _ => []⟩
theorem S57_T {a0 : Value} {h : GH} {K : Value → GH → Prop} (g : S57 a0 h K) : T Tryz.prog 57 [a0] h K :=
  T_of_gwp (A := A57) Tryz.func57 (c := bodyOf Tryz.f57) (by kernel_rfl) (by kernel_rfl) (by kernel_rfl) (by kernel_rfl) (by kernel_rfl) (Eq.mp (by kernel_rfl) g)

/-! ### (*pawl/read.Read).Cell (58) -/
def S58 (a0 : Value) (h : GH) (K : Value → GH → Prop) : Prop :=
 bnd (ncV a0) fun v1 =>
 bnd (faV 2 v1) fun v2 =>
 bnd (ldV 1 false v2 h) fun v3 =>
 K v3 h
def A58 : Ann := ⟨fun _ => ([], []), fun _ => []⟩
theorem S58_T {a0 : Value} {h : GH} {K : Value → GH → Prop} (g : S58 a0 h K) : T Tryz.prog 58 [a0] h K :=
  T_of_gwp (A := A58) Tryz.func58 (c := bodyOf Tryz.f58) (by kernel_rfl) (by kernel_rfl) (by kernel_rfl) (by kernel_rfl) (by kernel_rfl) (Eq.mp (by kernel_rfl) g)

/-! ### pawl/mcas.framed (59) -/
def S59 (a0 a1 : Value) (h : GH) (K : Value → GH → Prop) : Prop :=
 bnd (taV 163 (.agg #[(.int .i64 0), (.int .i64 0), (.int .i64 0), (.int .i64 0), (.int .i64 0)]) true a0) fun v1 =>
 bnd (exV v1 1) fun v2 =>
 bnd (exV v1 0) fun v3 =>
 ifV v2 (
 newV 163 [(.int .i64 0), (.int .i64 0), (.int .i64 0), (.int .i64 0), (.int .i64 0)] h fun v4 h5 =>
 bnd (stV 5 v4 v3 h5) fun h6 =>
 bnd (faV 0 v4) fun v7 =>
 bnd (ldV 2 true v7 h6) fun v8 =>
 bnd (fillV [(.int .i64 0), (.int .i64 0), (.int .i64 0), (.int .i64 0), (.bool false), (.bool false)] [(0, 2, v8)]) fun c9 =>
 bnd (ldV 5 true v4 h6) fun v10 =>
 bnd (fillV [(.int .i64 0), (.int .i64 0), (.int .i64 0), (.int .i64 0), (.bool false), (.bool false), (.int .i64 0), (.int .i64 0), (.int .i64 0), (.int .i64 0), (.int .i64 0), (.int .i64 0)] [(0, 6, (.agg c9.toArray)), (6, 5, v10)]) fun c11 =>
 newV 168 ((.agg c11.toArray) : Value).cells.toList h6 fun v12 h13 =>
 K (.iface 164 v12) h13) (
 bnd (taV 77 (.agg #[(.int .i64 0), (.int .i64 0)]) true a0) fun v14 =>
 bnd (exV v14 1) fun v15 =>
 bnd (exV v14 0) fun v16 =>
 ifV v15 (
 newV 77 [(.int .i64 0), (.int .i64 0)] h fun v17 h18 =>
 bnd (stV 2 v17 v16 h18) fun h19 =>
 bnd (ldV 2 true v17 h19) fun v20 =>
 bnd (fillV [(.int .i64 0), (.int .i64 0), (.int .i64 0), (.int .i64 0), (.bool false), (.bool false)] [(0, 2, v20)]) fun c21 =>
 bnd (fillV [(.int .i64 0), (.int .i64 0), (.int .i64 0), (.int .i64 0), (.bool false), (.bool false), (.pointer none), (.int .i64 0), (.int .i64 0), (.int .i64 0), (.int .i64 0), .nilIface, (.int .i64 0)] [(0, 6, (.agg c21.toArray)), (6, 1, a1), (7, 1, (.int .i64 1))]) fun c22 =>
 newV 171 ((.agg c22.toArray) : Value).cells.toList h19 fun v23 h24 =>
 K (.iface 169 v23) h24) (
 K .nilIface h))
def A59 : Ann := ⟨fun _ => ([], []), fun _ => []⟩
theorem S59_T {a0 a1 : Value} {h : GH} {K : Value → GH → Prop} (g : S59 a0 a1 h K) : T Tryz.prog 59 [a0, a1] h K :=
  T_of_gwp (A := A59) Tryz.func59 (c := bodyOf Tryz.f59) (by kernel_rfl) (by kernel_rfl) (by kernel_rfl) (by kernel_rfl) (by kernel_rfl) (Eq.mp (by kernel_rfl) g)

/-! ### pawl/word.Read (60) -/
def S60_j1 (x5 : Value) (h : GH) (K : Value → GH → Prop)  : Prop :=
 bnd (eqK .iface true x5 .nilIface) fun b1 =>
 ifV (.bool b1) (
 K .nilIface h) (
 T Tryz.prog 86 [x5] h fun v2 h3 =>
 bnd (unV .not v2) fun v4 =>
 ifV v4 (
 K .nilIface h3) (
 K x5 h3))
def S60 (a0 : Value) (h : GH) (K : Value → GH → Prop) : Prop :=
 bnd (binV .lss a0 (.int .i64 0)) fun v1 =>
 ifV v1 (
 K .nilIface h) (
 bnd (binV .quo a0 (.int .i64 4)) fun v2 =>
 bnd (binV .rem a0 (.int .i64 4)) fun v3 =>
 bnd (eqI v3 (.int .i64 0)) fun b4 =>
 ifV (.bool b4) (
 S60_j1 (.iface 173 v2) h K ) (
 bnd (eqI v3 (.int .i64 2)) fun b5 =>
 ifV (.bool b5) (
 callV Tryz.prog (.func (.func 85) #[] #[]) [v2] h fun v6 h7 =>
 S60_j1 (.iface 77 v6) h7 K ) (
 bnd (eqI v3 (.int .i64 1)) fun b8 =>
 ifV (.bool b8) (
 bnd (binV .rem v2 (.int .i64 1048576)) fun v9 =>
 bnd (fillV [(.int .i64 0), (.int .i64 0), (.int .i64 0), (.int .i64 0), (.int .i64 0)] [(4, 1, v9)]) fun c10 =>
 newV 163 [(.int .i64 0), (.int .i64 0), (.int .i64 0), (.int .i64 0), (.int .i64 0)] h fun v11 h12 =>
 bnd (stV 5 v11 (.agg c10.toArray) h12) fun h13 =>
 bnd (binV .quo v2 (.int .i64 1048576)) fun v14 =>
 bnd (binV .rem v14 (.int .i64 4)) fun v15 =>
 bnd (binV .quo v14 (.int .i64 4)) fun v16 =>
 bnd (faV 3 v11) fun v17 =>
 bnd (stV 1 v17 v15 h13) fun h18 =>
 bnd (binV .rem v16 (.int .i64 16)) fun v19 =>
 bnd (binV .quo v16 (.int .i64 16)) fun v20 =>
 bnd (faV 2 v11) fun v21 =>
 bnd (stV 1 v21 v19 h18) fun h22 =>
 callV Tryz.prog (.func (.func 85) #[] #[]) [v20] h22 fun v23 h24 =>
 bnd (faV 0 v11) fun v25 =>
 bnd (stV 2 v25 v23 h24) fun h26 =>
 bnd (ldV 5 true v11 h26) fun v27 =>
 S60_j1 (.iface 163 v27) h26 K ) (
 S60_j1 .nilIface h K ))))
def A60 : Ann := ⟨fun _ => ([], []), fun _ => []⟩
theorem S60_T {a0 : Value} {h : GH} {K : Value → GH → Prop} (g : S60 a0 h K) : T Tryz.prog 60 [a0] h K :=
  T_of_gwp (A := A60) Tryz.func60 (c := bodyOf Tryz.f60) (by kernel_rfl) (by kernel_rfl) (by kernel_rfl) (by kernel_rfl) (by kernel_rfl) (Eq.mp (by kernel_rfl) g)

/-! ### pawl/pawlref1.ViewMay (61) -/
def S61 (a0 : Value) (h : GH) (K : Value → GH → Prop) : Prop :=
 newV 69 (a0 : Value).cells.toList h fun v1 h2 =>
 Lfp (fun (s3 : Nat → Value) h4 again5 =>
 bnd (binV .lss (s3 1) (.int .i64 16)) fun v6 =>
 ifV v6 (
 bnd (faV 16 (s3 0)) fun v7 =>
 bnd (iaV 16 1 v7 (s3 1)) fun v8 =>
 bnd (ldV 1 false v8 h4) fun v9 =>
 bnd (binV .lss v9 (.int .i64 0)) fun v10 =>
 ifV v10 (
 K (.bool false) h4) (
 bnd (faV 16 (s3 0)) fun v11 =>
 bnd (iaV 16 1 v11 (s3 1)) fun v12 =>
 bnd (ldV 1 false v12 h4) fun v13 =>
 bnd (binV .gtr v13 (.int .i64 1099511627775)) fun v14 =>
 ifV v14 (
 K (.bool false) h4) (
 bnd (faV 32 (s3 0)) fun v15 =>
 bnd (iaV 16 1 v15 (s3 1)) fun v16 =>
 bnd (ldV 1 false v16 h4) fun v17 =>
 bnd (binV .lss v17 (.int .i64 0)) fun v18 =>
 ifV v18 (
 K (.bool false) h4) (
 bnd (faV 32 (s3 0)) fun v19 =>
 bnd (iaV 16 1 v19 (s3 1)) fun v20 =>
 bnd (ldV 1 false v20 h4) fun v21 =>
 bnd (binV .gtr v21 (.int .i64 1099511627775)) fun v22 =>
 ifV v22 (
 K (.bool false) h4) (
 bnd (binV .add (s3 1) (.int .i64 1)) fun v23 =>
 again5 (tup [(s3 0), v23]) h4))))) (
 K (.bool true) h4)) (tup [v1, (.int .i64 0)]) h2
def A61 : Ann := ⟨fun _ => ([], []), fun | 0 => [1, 3] | _ => []⟩
theorem S61_T {a0 : Value} {h : GH} {K : Value → GH → Prop} (g : S61 a0 h K) : T Tryz.prog 61 [a0] h K :=
  T_of_gwp (A := A61) Tryz.func61 (c := bodyOf Tryz.f61) (by kernel_rfl) (by kernel_rfl) (by kernel_rfl) (by kernel_rfl) (by kernel_rfl) (Eq.mp (by kernel_rfl) g)

/-! ### pawl/pawlref1.OpMay (62) -/
def S62_j5 (x1 x3 x5 x6 x29 x102 : Value) (h : GH) (K : Value → GH → Prop)  : Prop :=
 ifV x102 (
 ifV x5 (
 bnd (ldV 4 true x3 h) fun v1 =>
 bnd (ldV 4 true x1 h) fun v2 =>
 bnd (eqP Tryz.prog 10000 50 v1 v2) fun b3 =>
 K (.bool b3) h) (
 K (.bool false) h)) (
 bnd (eqI x29 (.int .i64 10)) fun b4 =>
 ifV (.bool b4) (
 bnd (faV 2 x1) fun v5 =>
 bnd (ldV 1 false v5 h) fun v6 =>
 bnd (faV 2 x3) fun v7 =>
 bnd (stV 1 v7 v6 h) fun h8 =>
 ifV x5 (
 bnd (faV 2 x1) fun v9 =>
 bnd (ldV 1 false v9 h8) fun v10 =>
 bnd (binV .geq v10 (.int .i64 0)) fun v11 =>
 ifV v11 (
 bnd (faV 2 x1) fun v12 =>
 bnd (ldV 1 false v12 h8) fun v13 =>
 bnd (binV .lss v13 (.int .i64 5)) fun v14 =>
 ifV v14 (
 bnd (ldV 4 true x3 h8) fun v15 =>
 bnd (ldV 4 true x1 h8) fun v16 =>
 bnd (eqP Tryz.prog 10000 50 v15 v16) fun b17 =>
 K (.bool b17) h8) (
 K (.bool false) h8)) (
 K (.bool false) h8)) (
 K (.bool false) h8)) (
 ifV x6 (
 bnd (ldV 4 true x3 h) fun v18 =>
 bnd (ldV 4 true x1 h) fun v19 =>
 bnd (eqP Tryz.prog 10000 50 v18 v19) fun b20 =>
 K (.bool b20) h) (
 K (.bool false) h)))

def S62_j4 (x1 x3 x5 x6 x29 x80 : Value) (h : GH) (K : Value → GH → Prop)  : Prop :=
 ifV x80 (
 bnd (faV 1 x1) fun v1 =>
 bnd (ldV 1 false v1 h) fun v2 =>
 bnd (eqI v2 (.int .i64 0)) fun b3 =>
 ifV (.bool b3) (
 bnd (ldV 4 true x3 h) fun v4 =>
 bnd (ldV 4 true x1 h) fun v5 =>
 bnd (eqP Tryz.prog 10000 50 v4 v5) fun b6 =>
 K (.bool b6) h) (
 K (.bool false) h)) (
 bnd (eqI x29 (.int .i64 6)) fun b7 =>
 ifV (.bool b7) (
 bnd (faV 3 x1) fun v8 =>
 bnd (ldV 1 false v8 h) fun v9 =>
 bnd (faV 3 x3) fun v10 =>
 bnd (stV 1 v10 v9 h) fun h11 =>
 ifV x5 (
 bnd (faV 3 x1) fun v12 =>
 bnd (ldV 1 false v12 h11) fun v13 =>
 bnd (eqI v13 (.int .i64 0)) fun b14 =>
 ifV (.bool b14) (
 bnd (ldV 4 true x3 h11) fun v15 =>
 bnd (ldV 4 true x1 h11) fun v16 =>
 bnd (eqP Tryz.prog 10000 50 v15 v16) fun b17 =>
 K (.bool b17) h11) (
 bnd (faV 3 x1) fun v18 =>
 bnd (ldV 1 false v18 h11) fun v19 =>
 bnd (eqI v19 (.int .i64 1)) fun b20 =>
 ifV (.bool b20) (
 bnd (ldV 4 true x3 h11) fun v21 =>
 bnd (ldV 4 true x1 h11) fun v22 =>
 bnd (eqP Tryz.prog 10000 50 v21 v22) fun b23 =>
 K (.bool b23) h11) (
 K (.bool false) h11))) (
 K (.bool false) h11)) (
 bnd (eqI x29 (.int .i64 7)) fun b24 =>
 ifV (.bool b24) (
 S62_j5 x1 x3 x5 x6 x29 (.bool true) h K ) (
 bnd (eqI x29 (.int .i64 8)) fun b25 =>
 S62_j5 x1 x3 x5 x6 x29 (.bool b25) h K )))

def S62_j3 (x1 x3 x4 x5 x6 x29 x30 : Value) (h : GH) (K : Value → GH → Prop)  : Prop :=
 ifV x30 (
 bnd (faV 3 x1) fun v1 =>
 bnd (ldV 1 false v1 h) fun v2 =>
 bnd (faV 3 x3) fun v3 =>
 bnd (stV 1 v3 v2 h) fun h4 =>
 ifV x4 (
 bnd (faV 3 x1) fun v5 =>
 bnd (ldV 1 false v5 h4) fun v6 =>
 bnd (binV .geq v6 (.int .i64 0)) fun v7 =>
 ifV v7 (
 bnd (faV 3 x1) fun v8 =>
 bnd (ldV 1 false v8 h4) fun v9 =>
 bnd (binV .leq v9 (.int .i64 1048575)) fun v10 =>
 ifV v10 (
 bnd (ldV 4 true x3 h4) fun v11 =>
 bnd (ldV 4 true x1 h4) fun v12 =>
 bnd (eqP Tryz.prog 10000 50 v11 v12) fun b13 =>
 K (.bool b13) h4) (
 K (.bool false) h4)) (
 K (.bool false) h4)) (
 K (.bool false) h4)) (
 bnd (eqI x29 (.int .i64 1)) fun b14 =>
 ifV (.bool b14) (
 ifV x4 (
 bnd (ldV 4 true x3 h) fun v15 =>
 bnd (ldV 4 true x1 h) fun v16 =>
 bnd (eqP Tryz.prog 10000 50 v15 v16) fun b17 =>
 K (.bool b17) h) (
 K (.bool false) h)) (
 bnd (eqI x29 (.int .i64 4)) fun b18 =>
 ifV (.bool b18) (
 bnd (faV 2 x1) fun v19 =>
 bnd (ldV 1 false v19 h) fun v20 =>
 bnd (faV 2 x3) fun v21 =>
 bnd (stV 1 v21 v20 h) fun h22 =>
 bnd (faV 3 x1) fun v23 =>
 bnd (ldV 1 false v23 h22) fun v24 =>
 bnd (faV 3 x3) fun v25 =>
 bnd (stV 1 v25 v24 h22) fun h26 =>
 ifV x4 (
 bnd (faV 2 x1) fun v27 =>
 bnd (ldV 1 false v27 h26) fun v28 =>
 bnd (binV .geq v28 (.int .i64 0)) fun v29 =>
 ifV v29 (
 bnd (faV 2 x1) fun v30 =>
 bnd (ldV 1 false v30 h26) fun v31 =>
 bnd (binV .lss v31 (.int .i64 4)) fun v32 =>
 ifV v32 (
 bnd (faV 3 x1) fun v33 =>
 bnd (ldV 1 false v33 h26) fun v34 =>
 bnd (binV .geq v34 (.int .i64 0)) fun v35 =>
 ifV v35 (
 bnd (faV 3 x1) fun v36 =>
 bnd (ldV 1 false v36 h26) fun v37 =>
 bnd (binV .leq v37 (.int .i64 1048575)) fun v38 =>
 ifV v38 (
 bnd (ldV 4 true x3 h26) fun v39 =>
 bnd (ldV 4 true x1 h26) fun v40 =>
 bnd (eqP Tryz.prog 10000 50 v39 v40) fun b41 =>
 K (.bool b41) h26) (
 K (.bool false) h26)) (
 K (.bool false) h26)) (
 K (.bool false) h26)) (
 K (.bool false) h26)) (
 K (.bool false) h26)) (
 bnd (eqI x29 (.int .i64 5)) fun b42 =>
 ifV (.bool b42) (
 S62_j4 x1 x3 x5 x6 x29 (.bool true) h K ) (
 bnd (eqI x29 (.int .i64 9)) fun b43 =>
 S62_j4 x1 x3 x5 x6 x29 (.bool b43) h K ))))

def S62_j2 (x1 x3 x4 x5 : Value) (h : GH) (K : Value → GH → Prop)  : Prop :=
 bnd (faV 0 x1) fun v1 =>
 bnd (ldV 1 false v1 h) fun v2 =>
 bnd (eqI v2 (.int .i64 0)) fun b3 =>
 ifV (.bool b3) (
 S62_j3 x1 x3 x4 x5 (.bool false) v2 (.bool true) h K ) (
 bnd (eqI v2 (.int .i64 2)) fun b4 =>
 ifV (.bool b4) (
 S62_j3 x1 x3 x4 x5 (.bool false) v2 (.bool true) h K ) (
 bnd (eqI v2 (.int .i64 3)) fun b5 =>
 S62_j3 x1 x3 x4 x5 (.bool false) v2 (.bool b5) h K ))

def S62_j1 (x1 x3 x4 : Value) (h : GH) (K : Value → GH → Prop)  : Prop :=
 bnd (faV 1 x1) fun v1 =>
 bnd (ldV 1 false v1 h) fun v2 =>
 bnd (binV .geq v2 (.int .i64 0)) fun v3 =>
 ifV v3 (
 bnd (faV 1 x1) fun v4 =>
 bnd (ldV 1 false v4 h) fun v5 =>
 bnd (binV .lss v5 (.int .i64 5)) fun v6 =>
 S62_j2 x1 x3 x4 v6 h K ) (
 S62_j2 x1 x3 x4 (.bool false) h K )
def S62 (a0 : Value) (h : GH) (K : Value → GH → Prop) : Prop :=
 newV 50 (a0 : Value).cells.toList h fun v1 h2 =>
 bnd (faV 0 v1) fun v3 =>
 bnd (ldV 1 false v3 h2) fun v4 =>
 bnd (faV 1 v1) fun v5 =>
 bnd (ldV 1 false v5 h2) fun v6 =>
 bnd (fillV [(.int .i64 0), (.int .i64 0), (.int .i64 0), (.int .i64 0)] [(0, 1, v4), (1, 1, v6)]) fun c7 =>
 newV 50 [(.int .i64 0), (.int .i64 0), (.int .i64 0), (.int .i64 0)] h2 fun v8 h9 =>
 bnd (stV 4 v8 (.agg c7.toArray) h9) fun h10 =>
 bnd (faV 1 v1) fun v11 =>
 bnd (ldV 1 false v11 h10) fun v12 =>
 bnd (binV .geq v12 (.int .i64 0)) fun v13 =>
 ifV v13 (
 bnd (faV 1 v1) fun v14 =>
 bnd (ldV 1 false v14 h10) fun v15 =>
 bnd (binV .lss v15 (.int .i64 4)) fun v16 =>
 S62_j1 v1 v8 v16 h10 K ) (
 S62_j1 v1 v8 (.bool false) h10 K )
def A62 : Ann := ⟨fun _ => ([], []), fun _ => []⟩
theorem S62_T {a0 : Value} {h : GH} {K : Value → GH → Prop} (g : S62 a0 h K) : T Tryz.prog 62 [a0] h K :=
  T_of_gwp (A := A62) Tryz.func62 (c := bodyOf Tryz.f62) (by kernel_rfl) (by kernel_rfl) (by kernel_rfl) (by kernel_rfl) (by kernel_rfl) (Eq.mp (by kernel_rfl) g)

/-! ### pawl/pawlref1.one (63) -/
def S63_j2 (x4 x5 x6 : Value) (h : GH) (K : Value → GH → Prop)  : Prop :=
 bnd (ncV x5) fun v1 =>
 bnd (faV 0 v1) fun v2 =>
 bnd (ldV 48 true v2 h) fun v3 =>
 bnd (ldV 2 true x6 h) fun v4 =>
 bsV 55 1 [(.int .i64 0), (.int .i64 0)] [(0, 2, v4)] h fun v5 h6 =>
 bnd (fillV ([(.int .i64 0)] ++ List.replicate 16 (.bool false) ++ List.replicate 32 (.int .i64 0) ++ [(.slice none 0 0)]) [(0, 1, (.int .i64 (-1))), (1, 48, v3), (49, 1, v5)]) fun c7 =>
 bnd (stV 50 x4 (.agg c7.toArray) h6) fun h8 =>
 bnd (ldV 50 true x4 h8) fun v9 =>
 K v9 h8

def S63_j1 (x2 x4 x5 x6 : Value) (h : GH) (K : Value → GH → Prop)  : Prop :=
 bnd (ncV x5) fun v1 =>
 bnd (faV 48 v1) fun v2 =>
 bnd (ldV 1 false v2 h) fun v3 =>
 bnd (binV .geq v3 (.int .i64 0)) fun v4 =>
 ifV v4 (
 bnd (ncV x5) fun v5 =>
 bnd (faV 48 v5) fun v6 =>
 bnd (ldV 1 false v6 h) fun v7 =>
 bnd (ldV 48 true x2 h) fun v8 =>
 bnd (fillV ([(.int .i64 0)] ++ List.replicate 16 (.bool false) ++ List.replicate 32 (.int .i64 0) ++ [(.slice none 0 0)]) [(0, 1, v7), (1, 48, v8)]) fun c9 =>
 bnd (stV 50 x4 (.agg c9.toArray) h) fun h10 =>
 bnd (ldV 50 true x4 h10) fun v11 =>
 K v11 h10) (
 bnd (faV 0 x6) fun v12 =>
 bnd (ldV 1 false v12 h) fun v13 =>
 bnd (eqI v13 (.int .i64 0)) fun b14 =>
 ifV (.bool (!b14)) (
 bnd (ldV 48 true x2 h) fun v15 =>
 bnd (ncV x5) fun v16 =>
 bnd (faV 0 v16) fun v17 =>
 bnd (stV 48 v17 v15 h) fun h18 =>
 S63_j2 x4 x5 x6 h18 K ) (
 S63_j2 x4 x5 x6 h K ))
def S63 (a0 a1 : Value) (h : GH) (K : Value → GH → Prop) : Prop :=
 newV 69 (a0 : Value).cells.toList h fun v1 h2 =>
 newV 50 (a1 : Value).cells.toList h2 fun v3 h4 =>
 newV 71 ([(.int .i64 0)] ++ List.replicate 16 (.bool false) ++ List.replicate 32 (.int .i64 0) ++ [(.slice none 0 0)]) h4 fun v5 h6 =>
 bnd (ldV 48 true v1 h6) fun v7 =>
 bnd (fillV (List.replicate 16 (.bool false) ++ List.replicate 33 (.int .i64 0)) [(0, 48, v7), (48, 1, (.int .i64 (-1)))]) fun c8 =>
 newV 177 ((.agg c8.toArray) : Value).cells.toList h6 fun v9 h10 =>
 newV 55 [(.int .i64 0), (.int .i64 0)] h10 fun v11 h12 =>
 bnd (ldV 4 true v3 h12) fun v13 =>
 T Tryz.prog 87 [v13] h12 fun v14 h15 =>
 ifV v14 (
 bnd (ldV 4 true v3 h15) fun v16 =>
 T Tryz.prog 88 [v9, v16] h15 fun v17 h18 =>
 bnd (stV 2 v11 v17 h18) fun h19 =>
 S63_j1 v1 v5 v9 v11 h19 K ) (
 bnd (ldV 4 true v3 h15) fun v20 =>
 T Tryz.prog 89 [v9, v20] h15 fun v21 h22 =>
 bnd (stV 2 v11 v21 h22) fun h23 =>
 S63_j1 v1 v5 v9 v11 h23 K )
def A63 : Ann := ⟨fun | 7 => ([0, 1, 2, 3, 4, 5, 6], [0, 1, 3, 7, 0, 31, 63]) | 10 => ([0, 1, 2, 3, 4, 5, 6, 7], [0, 1, 3, 7, 0, 16, 63, 127]) | _ => ([], []), fun _ => []⟩
theorem S63_T {a0 a1 : Value} {h : GH} {K : Value → GH → Prop} (g : S63 a0 a1 h K) : T Tryz.prog 63 [a0, a1] h K :=
  T_of_gwp (A := A63) Tryz.func63 (c := bodyOf Tryz.f63) (by kernel_rfl) (by kernel_rfl) (by kernel_rfl) (by kernel_rfl) (by kernel_rfl) (Eq.mp (by kernel_rfl) g)

/-! ### pawl/word.Of (64) -/
def S64 (a0 : Value) (h : GH) (K : Value → GH → Prop) : Prop :=
 T Tryz.prog 90 [a0] h fun v1 h2 =>
 K v1 h2
def A64 : Ann := ⟨fun _ => ([], []), fun _ => []⟩
theorem S64_T {a0 : Value} {h : GH} {K : Value → GH → Prop} (g : S64 a0 h K) : T Tryz.prog 64 [a0] h K :=
  T_of_gwp (A := A64) Tryz.func64 (c := bodyOf Tryz.f64) (by kernel_rfl) (by kernel_rfl) (by kernel_rfl) (by kernel_rfl) (by kernel_rfl) (Eq.mp (by kernel_rfl) g)

/-! ### pawl/cells.ValueMay (65) -/
def S65 (a0 : Value) (h : GH) (K : Value → GH → Prop) : Prop :=
 T Tryz.prog 26 [a0, (.int .i64 1099511627776)] h fun v1 h2 =>
 K v1 h2
def A65 : Ann := ⟨fun _ => ([], []), fun _ => []⟩
theorem S65_T {a0 : Value} {h : GH} {K : Value → GH → Prop} (g : S65 a0 h K) : T Tryz.prog 65 [a0] h K :=
  T_of_gwp (A := A65) Tryz.func65 (c := bodyOf Tryz.f65) (by kernel_rfl) (by kernel_rfl) (by kernel_rfl) (by kernel_rfl) (by kernel_rfl) (Eq.mp (by kernel_rfl) g)

/-! ### pawl/cells.OpMay (66) -/
def S66 (a0 : Value) (h : GH) (K : Value → GH → Prop) : Prop :=
 bnd (fillV [(.int .i64 0), (.int .i64 0), (.int .i64 0)] [(0, 1, (.int .i64 4)), (1, 1, (.int .i64 1)), (2, 1, (.int .i64 1048576))]) fun c1 =>
 bnd (fillV [(.int .i64 0), (.int .i64 0), (.int .i64 0)] [(0, 1, (.int .i64 4)), (1, 1, (.int .i64 1)), (2, 1, (.int .i64 1))]) fun c2 =>
 bnd (fillV [(.int .i64 0), (.int .i64 0), (.int .i64 0)] [(0, 1, (.int .i64 4)), (1, 1, (.int .i64 1)), (2, 1, (.int .i64 1048576))]) fun c3 =>
 bnd (fillV [(.int .i64 0), (.int .i64 0), (.int .i64 0)] [(0, 1, (.int .i64 4)), (1, 1, (.int .i64 1)), (2, 1, (.int .i64 1048576))]) fun c4 =>
 bnd (fillV [(.int .i64 0), (.int .i64 0), (.int .i64 0)] [(0, 1, (.int .i64 4)), (1, 1, (.int .i64 4)), (2, 1, (.int .i64 1048576))]) fun c5 =>
 bnd (fillV [(.int .i64 0), (.int .i64 0), (.int .i64 0)] [(0, 1, (.int .i64 1)), (1, 1, (.int .i64 1)), (2, 1, (.int .i64 1))]) fun c6 =>
 bnd (fillV [(.int .i64 0), (.int .i64 0), (.int .i64 0)] [(0, 1, (.int .i64 5)), (1, 1, (.int .i64 1)), (2, 1, (.int .i64 2))]) fun c7 =>
 bnd (fillV [(.int .i64 0), (.int .i64 0), (.int .i64 0)] [(0, 1, (.int .i64 5)), (1, 1, (.int .i64 1)), (2, 1, (.int .i64 1))]) fun c8 =>
 bnd (fillV [(.int .i64 0), (.int .i64 0), (.int .i64 0)] [(0, 1, (.int .i64 5)), (1, 1, (.int .i64 1)), (2, 1, (.int .i64 1))]) fun c9 =>
 bnd (fillV [(.int .i64 0), (.int .i64 0), (.int .i64 0)] [(0, 1, (.int .i64 1)), (1, 1, (.int .i64 1)), (2, 1, (.int .i64 1))]) fun c10 =>
 bnd (fillV [(.int .i64 0), (.int .i64 0), (.int .i64 0)] [(0, 1, (.int .i64 5)), (1, 1, (.int .i64 5)), (2, 1, (.int .i64 1))]) fun c11 =>
 bnd (fillV (List.replicate 33 (.int .i64 0)) [(0, 3, (.agg c1.toArray)), (3, 3, (.agg c2.toArray)), (6, 3, (.agg c3.toArray)), (9, 3, (.agg c4.toArray)), (12, 3, (.agg c5.toArray)), (15, 3, (.agg c6.toArray)), (18, 3, (.agg c7.toArray)), (21, 3, (.agg c8.toArray)), (24, 3, (.agg c9.toArray)), (27, 3, (.agg c10.toArray)), (30, 3, (.agg c11.toArray))]) fun c12 =>
 newV 181 (List.replicate 33 (.int .i64 0)) h fun v13 h14 =>
 bnd (stV 33 v13 (.agg c12.toArray) h14) fun h15 =>
 bnd (ncV a0) fun v16 =>
 bnd (faV 0 v16) fun v17 =>
 bnd (ldV 1 false v17 h15) fun v18 =>
 T Tryz.prog 26 [v18, (.int .i64 11)] h15 fun v19 h20 =>
 bnd (unV .not v19) fun v21 =>
 ifV v21 (
 K (.bool false) h20) (
 bnd (ncV a0) fun v22 =>
 bnd (faV 0 v22) fun v23 =>
 bnd (ldV 1 false v23 h20) fun v24 =>
 bnd (iaV 11 3 v13 v24) fun v25 =>
 bnd (ldV 3 true v25 h20) fun v26 =>
 newV 180 [(.int .i64 0), (.int .i64 0), (.int .i64 0)] h20 fun v27 h28 =>
 bnd (stV 3 v27 v26 h28) fun h29 =>
 bnd (ncV a0) fun v30 =>
 bnd (faV 1 v30) fun v31 =>
 bnd (ldV 1 false v31 h29) fun v32 =>
 bnd (faV 0 v27) fun v33 =>
 bnd (ldV 1 false v33 h29) fun v34 =>
 T Tryz.prog 26 [v32, v34] h29 fun v35 h36 =>
 ifV v35 (
 bnd (ncV a0) fun v37 =>
 bnd (faV 2 v37) fun v38 =>
 bnd (ldV 1 false v38 h36) fun v39 =>
 bnd (faV 1 v27) fun v40 =>
 bnd (ldV 1 false v40 h36) fun v41 =>
 T Tryz.prog 26 [v39, v41] h36 fun v42 h43 =>
 ifV v42 (
 bnd (ncV a0) fun v44 =>
 bnd (faV 3 v44) fun v45 =>
 bnd (ldV 1 false v45 h43) fun v46 =>
 bnd (faV 2 v27) fun v47 =>
 bnd (ldV 1 false v47 h43) fun v48 =>
 T Tryz.prog 26 [v46, v48] h43 fun v49 h50 =>
 K v49 h50) (
 K (.bool false) h43)) (
 K (.bool false) h36))
def A66 : Ann := ⟨fun | 5 => ([0, 1, 2, 3, 4, 5, 6, 7, 8, 9, 10, 11, 12, 13, 14, 15, 16, 17, 18, 19, 20, 21, 22, 23, 24, 25], [0, 1, 3, 7, 0, 16, 63, 127, 255, 511, 1023, 2047, 255, 4351, 16383, 32767, 65535, 131071, 262143, 524287, 1048575, 131071, 2228223, 8388607, 16777215, 33554431]) | _ => ([], []), fun _ => []⟩
theorem S66_T {a0 : Value} {h : GH} {K : Value → GH → Prop} (g : S66 a0 h K) : T Tryz.prog 66 [a0] h K :=
  T_of_gwp (A := A66) Tryz.func66 (c := bodyOf Tryz.f66) (by kernel_rfl) (by kernel_rfl) (by kernel_rfl) (by kernel_rfl) (by kernel_rfl) (Eq.mp (by kernel_rfl) g)

/-! ### pawl/skip.code (67) -/
def S67 (a0 : Value) (h : GH) (K : Value → GH → Prop) : Prop :=
 newV 55 [(.int .i64 0), (.int .i64 0)] h fun v1 h2 =>
 bnd (fillV [(.int .i64 0), (.int .i64 0)] [(0, 1, a0)]) fun c3 =>
 bnd (stV 2 v1 (.agg c3.toArray) h2) fun h4 =>
 bnd (ldV 2 true v1 h4) fun v5 =>
 K v5 h4
def A67 : Ann := ⟨fun _ => ([], []), fun _ => []⟩
theorem S67_T {a0 : Value} {h : GH} {K : Value → GH → Prop} (g : S67 a0 h K) : T Tryz.prog 67 [a0] h K :=
  T_of_gwp (A := A67) Tryz.func67 (c := bodyOf Tryz.f67) (by kernel_rfl) (by kernel_rfl) (by kernel_rfl) (by kernel_rfl) (by kernel_rfl) (Eq.mp (by kernel_rfl) g)

/-! ### (pawl/skip.list).next (68) -/
def S68 (a0 a1 a2 : Value) (h : GH) (K : Value → GH → Prop) : Prop :=
 newV 148 (a0 : Value).cells.toList h fun v1 h2 =>
 bnd (ldV 1 true v1 h2) fun v3 =>
 T Tryz.prog 91 [v3, a1, a2] h2 fun v4 h5 =>
 bnd (binV .sub v4 (.int .i64 1)) fun v6 =>
 bnd (binV .leq v6 a1) fun v7 =>
 ifV v7 (
 K (.int .i64 (-1)) h5) (
 bnd (binV .geq v6 (.int .i64 5)) fun v8 =>
 ifV v8 (
 K (.int .i64 (-1)) h5) (
 K v6 h5))
def A68 : Ann := ⟨fun _ => ([], []), fun _ => []⟩
theorem S68_T {a0 a1 a2 : Value} {h : GH} {K : Value → GH → Prop} (g : S68 a0 a1 a2 h K) : T Tryz.prog 68 [a0, a1, a2] h K :=
  T_of_gwp (A := A68) Tryz.func68 (c := bodyOf Tryz.f68) (by kernel_rfl) (by kernel_rfl) (by kernel_rfl) (by kernel_rfl) (by kernel_rfl) (Eq.mp (by kernel_rfl) g)

/-! ### pawl/skip.done (69) -/
def S69 (a0 : Value) (h : GH) (K : Value → GH → Prop) : Prop :=
 newV 55 [(.int .i64 0), (.int .i64 0)] h fun v1 h2 =>
 bnd (fillV [(.int .i64 0), (.int .i64 0)] [(0, 1, (.int .i64 0)), (1, 1, a0)]) fun c3 =>
 bnd (stV 2 v1 (.agg c3.toArray) h2) fun h4 =>
 bnd (ldV 2 true v1 h4) fun v5 =>
 K v5 h4
def A69 : Ann := ⟨fun _ => ([], []), fun _ => []⟩
theorem S69_T {a0 : Value} {h : GH} {K : Value → GH → Prop} (g : S69 a0 h K) : T Tryz.prog 69 [a0] h K :=
  T_of_gwp (A := A69) Tryz.func69 (c := bodyOf Tryz.f69) (by kernel_rfl) (by kernel_rfl) (by kernel_rfl) (by kernel_rfl) (by kernel_rfl) (Eq.mp (by kernel_rfl) g)

/-! ### (*pawl/cells.Walk).Ask (70) -/
def S70 (a0 a1 a2 : Value) (h : GH) (K : Value → GH → Prop) : Prop :=
 newV 55 (a2 : Value).cells.toList h fun v1 h2 =>
 newV 71 ([(.int .i64 0)] ++ List.replicate 16 (.bool false) ++ List.replicate 32 (.int .i64 0) ++ [(.slice none 0 0)]) h2 fun v3 h4 =>
 bnd (ncV a0) fun v5 =>
 bnd (faV 48 v5) fun v6 =>
 bnd (ldV 1 false v6 h4) fun v7 =>
 bnd (taV 182 (.int .i64 0) true v7) fun v8 =>
 bnd (exV v8 0) fun v9 =>
 bnd (exV v8 1) fun v10 =>
 ifV v10 (
 bnd (ncV a1) fun v11 =>
 bnd (ldV 48 true v11 h4) fun v12 =>
 bnd (fillV ([(.int .i64 0)] ++ List.replicate 16 (.bool false) ++ List.replicate 32 (.int .i64 0) ++ [(.slice none 0 0)]) [(0, 1, v9), (1, 48, v12)]) fun c13 =>
 bnd (stV 50 v3 (.agg c13.toArray) h4) fun h14 =>
 bnd (ldV 50 true v3 h14) fun v15 =>
 K v15 h14) (
 bnd (ncV a0) fun v16 =>
 bnd (faV 0 v16) fun v17 =>
 bnd (ldV 48 true v17 h4) fun v18 =>
 bnd (ldV 2 true v1 h4) fun v19 =>
 bsV 55 1 [(.int .i64 0), (.int .i64 0)] [(0, 2, v19)] h4 fun v20 h21 =>
 bnd (fillV ([(.int .i64 0)] ++ List.replicate 16 (.bool false) ++ List.replicate 32 (.int .i64 0) ++ [(.slice none 0 0)]) [(0, 1, (.int .i64 (-1))), (1, 48, v18), (49, 1, v20)]) fun c22 =>
 newV 71 ([(.int .i64 0)] ++ List.replicate 16 (.bool false) ++ List.replicate 32 (.int .i64 0) ++ [(.slice none 0 0)]) h21 fun v23 h24 =>
 bnd (stV 50 v23 (.agg c22.toArray) h24) fun h25 =>
 bnd (faV 0 v1) fun v26 =>
 bnd (ldV 1 false v26 h25) fun v27 =>
 bnd (eqI v27 (.int .i64 0)) fun b28 =>
 ifV (.bool (!b28)) (
 bnd (ncV a1) fun v29 =>
 bnd (ldV 48 true v29 h25) fun v30 =>
 bnd (faV 1 v23) fun v31 =>
 bnd (stV 48 v31 v30 h25) fun h32 =>
 bnd (ldV 50 true v23 h32) fun v33 =>
 bnd (stV 50 v3 v33 h32) fun h34 =>
 bnd (ldV 50 true v3 h34) fun v35 =>
 K v35 h34) (
 bnd (ldV 50 true v23 h25) fun v36 =>
 bnd (stV 50 v3 v36 h25) fun h37 =>
 bnd (ldV 50 true v3 h37) fun v38 =>
 K v38 h37))
def A70 : Ann := ⟨fun | 4 => ([0, 1, 2, 3, 4, 5, 6, 7, 8], [0, 1, 3, 7, 0, 16, 63, 0, 255]) | _ => ([], []), fun _ => []⟩
theorem S70_T {a0 a1 a2 : Value} {h : GH} {K : Value → GH → Prop} (g : S70 a0 a1 a2 h K) : T Tryz.prog 70 [a0, a1, a2] h K :=
  T_of_gwp (A := A70) Tryz.func70 (c := bodyOf Tryz.f70) (by kernel_rfl) (by kernel_rfl) (by kernel_rfl) (by kernel_rfl) (by kernel_rfl) (Eq.mp (by kernel_rfl) g)

/-! ### (*pawl/skip.place).insert (71) -/
def S71 (a0 a1 : Value) (h : GH) (K : Value → GH → Prop) : Prop :=
 newV 55 [(.int .i64 0), (.int .i64 0)] h fun v1 h2 =>
 bnd (ncV a0) fun v3 =>
 bnd (faV 3 v3) fun v4 =>
 bnd (ldV 1 false v4 h2) fun v5 =>
 bnd (ncV a1) fun v6 =>
 bnd (faV 1 v6) fun v7 =>
 bnd (ldV 1 false v7 h2) fun v8 =>
 bnd (eqI v5 v8) fun b9 =>
 ifV (.bool b9) (
 T Tryz.prog 67 [(.int .i64 1)] h2 fun v10 h11 =>
 bnd (stV 2 v1 v10 h11) fun h12 =>
 bnd (ldV 2 true v1 h12) fun v13 =>
 K v13 h12) (
 bnd (ncV a0) fun v14 =>
 bnd (faV 0 v14) fun v15 =>
 bnd (ldV 1 true v15 h2) fun v16 =>
 bnd (ncV a1) fun v17 =>
 bnd (faV 1 v17) fun v18 =>
 bnd (ldV 1 false v18 h2) fun v19 =>
 bnd (ncV a0) fun v20 =>
 bnd (faV 2 v20) fun v21 =>
 bnd (ldV 1 false v21 h2) fun v22 =>
 T Tryz.prog 92 [v16, v19, v22, (.int .i64 0)] h2 fun v23 h24 =>
 bnd (ncV a1) fun v25 =>
 bnd (faV 3 v25) fun v26 =>
 bnd (ldV 1 false v26 h24) fun v27 =>
 bnd (eqI v27 (.int .i64 1)) fun b28 =>
 ifV (.bool b28) (
 bnd (ncV a0) fun v29 =>
 bnd (faV 0 v29) fun v30 =>
 bnd (ldV 1 true v30 h24) fun v31 =>
 bnd (ncV a1) fun v32 =>
 bnd (faV 1 v32) fun v33 =>
 bnd (ldV 1 false v33 h24) fun v34 =>
 bnd (ncV a0) fun v35 =>
 bnd (faV 1 v35) fun v36 =>
 bnd (ldV 1 false v36 h24) fun v37 =>
 T Tryz.prog 92 [v31, v34, v37, (.int .i64 1)] h24 fun v38 h39 =>
 bnd (ncV a1) fun v40 =>
 bnd (faV 1 v40) fun v41 =>
 bnd (ldV 1 false v41 h39) fun v42 =>
 T Tryz.prog 69 [v42] h39 fun v43 h44 =>
 bnd (stV 2 v1 v43 h44) fun h45 =>
 bnd (ldV 2 true v1 h45) fun v46 =>
 K v46 h45) (
 bnd (ncV a1) fun v47 =>
 bnd (faV 1 v47) fun v48 =>
 bnd (ldV 1 false v48 h24) fun v49 =>
 T Tryz.prog 69 [v49] h24 fun v50 h51 =>
 bnd (stV 2 v1 v50 h51) fun h52 =>
 bnd (ldV 2 true v1 h52) fun v53 =>
 K v53 h52))
def A71 : Ann := ⟨fun | 1 => ([0, 1, 2, 3, 4, 5, 6, 7, 8], [0, 1, 3, 7, 0, 16, 48, 112, 255]) | 3 => ([0, 1, 2, 3, 4, 5, 6, 7, 8, 9, 10, 11, 12], [0, 1, 3, 7, 0, 16, 48, 112, 0, 256, 768, 1792, 4095]) | 5 => ([0, 1, 2, 3, 4, 5, 6, 7, 8, 9, 10, 11, 12], [0, 1, 3, 7, 0, 16, 48, 112, 0, 256, 768, 1792, 4095]) | _ => ([], []), fun _ => []⟩
theorem S71_T {a0 a1 : Value} {h : GH} {K : Value → GH → Prop} (g : S71 a0 a1 h K) : T Tryz.prog 71 [a0, a1] h K :=
  T_of_gwp (A := A71) Tryz.func71 (c := bodyOf Tryz.f71) (by kernel_rfl) (by kernel_rfl) (by kernel_rfl) (by kernel_rfl) (by kernel_rfl) (Eq.mp (by kernel_rfl) g)

/-! ### (*pawl/skip.place).erase (72) -/
def S72 (a0 a1 : Value) (h : GH) (K : Value → GH → Prop) : Prop :=
 newV 55 [(.int .i64 0), (.int .i64 0)] h fun v1 h2 =>
 bnd (ncV a0) fun v3 =>
 bnd (faV 3 v3) fun v4 =>
 bnd (ldV 1 false v4 h2) fun v5 =>
 bnd (ncV a1) fun v6 =>
 bnd (faV 1 v6) fun v7 =>
 bnd (ldV 1 false v7 h2) fun v8 =>
 bnd (eqI v5 v8) fun b9 =>
 ifV (.bool (!b9)) (
 T Tryz.prog 67 [(.int .i64 2)] h2 fun v10 h11 =>
 bnd (stV 2 v1 v10 h11) fun h12 =>
 bnd (ldV 2 true v1 h12) fun v13 =>
 K v13 h12) (
 bnd (ncV a0) fun v14 =>
 bnd (faV 0 v14) fun v15 =>
 bnd (ldV 1 true v15 h2) fun v16 =>
 bnd (ncV a1) fun v17 =>
 bnd (faV 1 v17) fun v18 =>
 bnd (ldV 1 false v18 h2) fun v19 =>
 bnd (ncV a0) fun v20 =>
 bnd (faV 2 v20) fun v21 =>
 bnd (ldV 1 false v21 h2) fun v22 =>
 T Tryz.prog 93 [v16, v19, v22, (.int .i64 0)] h2 fun v23 h24 =>
 bnd (ncV a0) fun v25 =>
 bnd (faV 0 v25) fun v26 =>
 bnd (ldV 1 true v26 h24) fun v27 =>
 bnd (ncV a0) fun v28 =>
 bnd (faV 1 v28) fun v29 =>
 bnd (ldV 1 false v29 h24) fun v30 =>
 bnd (ncV a1) fun v31 =>
 bnd (faV 1 v31) fun v32 =>
 bnd (ldV 1 false v32 h24) fun v33 =>
 T Tryz.prog 68 [v27, v30, (.int .i64 1)] h24 fun v34 h35 =>
 ldV 1 false v32 h35 = some v33 ∧
 bnd (eqI v34 v33) fun b36 =>
 ifV (.bool b36) (
 bnd (ncV a0) fun v37 =>
 bnd (faV 0 v37) fun v38 =>
 bnd (ldV 1 true v38 h35) fun v39 =>
 bnd (ncV a1) fun v40 =>
 bnd (faV 1 v40) fun v41 =>
 bnd (ldV 1 false v41 h35) fun v42 =>
 bnd (ncV a0) fun v43 =>
 bnd (faV 1 v43) fun v44 =>
 bnd (ldV 1 false v44 h35) fun v45 =>
 T Tryz.prog 93 [v39, v42, v45, (.int .i64 1)] h35 fun v46 h47 =>
 bnd (ncV a1) fun v48 =>
 bnd (faV 1 v48) fun v49 =>
 bnd (ldV 1 false v49 h47) fun v50 =>
 T Tryz.prog 69 [v50] h47 fun v51 h52 =>
 bnd (stV 2 v1 v51 h52) fun h53 =>
 bnd (ldV 2 true v1 h53) fun v54 =>
 K v54 h53) (
 bnd (ncV a1) fun v55 =>
 bnd (faV 1 v55) fun v56 =>
 bnd (ldV 1 false v56 h35) fun v57 =>
 T Tryz.prog 69 [v57] h35 fun v58 h59 =>
 bnd (stV 2 v1 v58 h59) fun h60 =>
 bnd (ldV 2 true v1 h60) fun v61 =>
 K v61 h60))
def A72 : Ann := ⟨fun | 1 => ([0, 1, 2, 3, 4, 5, 6, 7, 8], [0, 1, 3, 7, 0, 16, 48, 112, 255]) | 3 => ([0, 1, 2, 3, 4, 5, 6, 7, 8, 9, 10, 11, 12], [0, 1, 3, 7, 0, 16, 48, 112, 0, 256, 768, 1792, 4095]) | 4 => ([0, 1, 2, 3, 4, 5, 6, 7, 9, 10, 11, 12, 8, 13], [0, 1, 3, 7, 0, 16, 48, 112, 255, 0, 512, 1536, 3584, 8191]) | 5 => ([0, 1, 2, 3, 4, 5, 6, 7, 8, 9, 10, 11, 12], [0, 1, 3, 7, 0, 16, 48, 112, 0, 256, 768, 1792, 4095]) | _ => ([], []), fun _ => []⟩
theorem S72_T {a0 a1 : Value} {h : GH} {K : Value → GH → Prop} (g : S72 a0 a1 h K) : T Tryz.prog 72 [a0, a1] h K :=
  T_of_gwp (A := A72) Tryz.func72 (c := bodyOf Tryz.f72) (by kernel_rfl) (by kernel_rfl) (by kernel_rfl) (by kernel_rfl) (by kernel_rfl) (Eq.mp (by kernel_rfl) g)

/-! ### (*pawl/skip.place).found (73) -/
def S73 (a0 a1 : Value) (h : GH) (K : Value → GH → Prop) : Prop :=
 newV 55 [(.int .i64 0), (.int .i64 0)] h fun v1 h2 =>
 bnd (ncV a0) fun v3 =>
 bnd (faV 3 v3) fun v4 =>
 bnd (ldV 1 false v4 h2) fun v5 =>
 bnd (ncV a1) fun v6 =>
 bnd (faV 1 v6) fun v7 =>
 bnd (ldV 1 false v7 h2) fun v8 =>
 bnd (eqI v5 v8) fun b9 =>
 ifV (.bool b9) (
 T Tryz.prog 69 [(.int .i64 1)] h2 fun v10 h11 =>
 bnd (stV 2 v1 v10 h11) fun h12 =>
 bnd (ldV 2 true v1 h12) fun v13 =>
 K v13 h12) (
 T Tryz.prog 69 [(.int .i64 0)] h2 fun v14 h15 =>
 bnd (stV 2 v1 v14 h15) fun h16 =>
 bnd (ldV 2 true v1 h16) fun v17 =>
 K v17 h16)
def A73 : Ann := ⟨fun | 1 => ([0, 1, 2, 3, 4, 5, 6, 7, 8], [0, 1, 3, 7, 0, 16, 48, 112, 255]) | _ => ([], []), fun _ => []⟩
theorem S73_T {a0 a1 : Value} {h : GH} {K : Value → GH → Prop} (g : S73 a0 a1 h K) : T Tryz.prog 73 [a0, a1] h K :=
  T_of_gwp (A := A73) Tryz.func73 (c := bodyOf Tryz.f73) (by kernel_rfl) (by kernel_rfl) (by kernel_rfl) (by kernel_rfl) (by kernel_rfl) (Eq.mp (by kernel_rfl) g)

/-! ### (*pawl/skip.place).bits (74) -/
def S74_j1 (s6 : Nat → Value) (x0 x1 x4 x5 x6 : Value) (h : GH) (K : Value → GH → Prop) (again8 : (Nat → Value) → GH → Prop) : Prop :=
 bnd (binV .shl (.int .i64 1) x6) fun v1 =>
 bnd (binV .or x5 v1) fun v2 =>
 bnd (ncV x0) fun v3 =>
 bnd (faV 0 v3) fun v4 =>
 bnd (ldV 1 true v4 h) fun v5 =>
 T Tryz.prog 68 [v5, x6, (.int .i64 0)] h fun v6 h7 =>
 again8 (tup [x0, x1, x4, v2, v6]) h7
def S74 (a0 a1 : Value) (h : GH) (K : Value → GH → Prop) : Prop :=
 newV 55 [(.int .i64 0), (.int .i64 0)] h fun v1 h2 =>
 bnd (ncV a0) fun v3 =>
 bnd (faV 3 v3) fun v4 =>
 bnd (ldV 1 false v4 h2) fun v5 =>
 Lfp (fun (s6 : Nat → Value) h7 again8 =>
 bnd (eqI (s6 4) (.int .i64 (-1))) fun b9 =>
 ifV (.bool (!b9)) (
 bnd (ncV (s6 1)) fun v10 =>
 bnd (faV 2 v10) fun v11 =>
 bnd (ldV 1 false v11 h7) fun v12 =>
 bnd (binV .leq (s6 4) v12) fun v13 =>
 ifV v13 (
 S74_j1 s6 (s6 0) (s6 1) (s6 2) (s6 3) (s6 4) h7 K again8) (
 T Tryz.prog 69 [(s6 3)] h7 fun v14 h15 =>
 bnd (stV 2 (s6 2) v14 h15) fun h16 =>
 bnd (ldV 2 true (s6 2) h16) fun v17 =>
 K v17 h16)) (
 T Tryz.prog 69 [(s6 3)] h7 fun v18 h19 =>
 bnd (stV 2 (s6 2) v18 h19) fun h20 =>
 bnd (ldV 2 true (s6 2) h20) fun v21 =>
 K v21 h20)) (tup [a0, a1, v1, (.int .i64 0), v5]) h2
def A74 : Ann := ⟨fun _ => ([], []), fun | 0 => [0, 1, 4, 5, 6] | _ => []⟩
theorem S74_T {a0 a1 : Value} {h : GH} {K : Value → GH → Prop} (g : S74 a0 a1 h K) : T Tryz.prog 74 [a0, a1] h K :=
  T_of_gwp (A := A74) Tryz.func74 (c := bodyOf Tryz.f74) (by kernel_rfl) (by kernel_rfl) (by kernel_rfl) (by kernel_rfl) (by kernel_rfl) (Eq.mp (by kernel_rfl) g)

/-! ### (pawl/skip.list).find (75) -/
def S75 (a0 a1 : Value) (h : GH) (K : Value → GH → Prop) : Prop :=
 newV 148 (a0 : Value).cells.toList h fun v1 h2 =>
 bnd (ldV 1 true v1 h2) fun v3 =>
 bnd (fillV [(.pointer none), (.int .i64 0), (.int .i64 0), (.int .i64 0)] [(0, 1, v3)]) fun c4 =>
 newV 185 ((.agg c4.toArray) : Value).cells.toList h2 fun v5 h6 =>
 bnd (ldV 1 true v1 h6) fun v7 =>
 T Tryz.prog 94 [v7, a1, (.int .i64 (-1)), (.int .i64 1)] h6 fun v8 h9 =>
 bnd (ncV v5) fun v10 =>
 bnd (faV 1 v10) fun v11 =>
 bnd (stV 1 v11 v8 h9) fun h12 =>
 bnd (ldV 1 true v1 h12) fun v13 =>
 bnd (ncV v5) fun v14 =>
 bnd (faV 1 v14) fun v15 =>
 bnd (ldV 1 false v15 h12) fun v16 =>
 T Tryz.prog 94 [v13, a1, v16, (.int .i64 0)] h12 fun v17 h18 =>
 bnd (ncV v5) fun v19 =>
 bnd (faV 2 v19) fun v20 =>
 bnd (stV 1 v20 v17 h18) fun h21 =>
 bnd (ldV 1 true v1 h21) fun v22 =>
 bnd (ncV v5) fun v23 =>
 bnd (faV 2 v23) fun v24 =>
 bnd (ldV 1 false v24 h21) fun v25 =>
 T Tryz.prog 68 [v22, v25, (.int .i64 0)] h21 fun v26 h27 =>
 bnd (ncV v5) fun v28 =>
 bnd (faV 3 v28) fun v29 =>
 bnd (stV 1 v29 v26 h27) fun h30 =>
 K v5 h30
def A75 : Ann := ⟨fun | 3 => ([0, 1, 2, 3, 4, 5, 6, 7, 8, 9, 10], [0, 0, 0, 0, 8, 24, 56, 126, 255, 511, 1023]) | 4 => ([0, 1, 2, 3, 4, 5, 6, 7, 8, 9], [0, 0, 0, 4, 12, 28, 62, 127, 255, 511]) | _ => ([], []), fun _ => []⟩
theorem S75_T {a0 a1 : Value} {h : GH} {K : Value → GH → Prop} (g : S75 a0 a1 h K) : T Tryz.prog 75 [a0, a1] h K :=
  T_of_gwp (A := A75) Tryz.func75 (c := bodyOf Tryz.f75) (by kernel_rfl) (by kernel_rfl) (by kernel_rfl) (by kernel_rfl) (by kernel_rfl) (Eq.mp (by kernel_rfl) g)

/-! ### pawl/bank.open (76) -/
def S76 (a0 a1 : Value) (h : GH) (K : Value → GH → Prop) : Prop :=
 newV 55 [(.int .i64 0), (.int .i64 0)] h fun v1 h2 =>
 bnd (ncV a1) fun v3 =>
 bnd (faV 1 v3) fun v4 =>
 bnd (ldV 1 false v4 h2) fun v5 =>
 T Tryz.prog 95 [a0, v5] h2 fun v6 h7 =>
 bnd (ncV v6) fun v8 =>
 bnd (faV 2 v8) fun v9 =>
 bnd (ldV 1 false v9 h7) fun v10 =>
 ifV v10 (
 T Tryz.prog 96 [(.int .i64 1)] h7 fun v11 h12 =>
 bnd (stV 2 v1 v11 h12) fun h13 =>
 bnd (ldV 2 true v1 h13) fun v14 =>
 K v14 h13) (
 bnd (ncV a1) fun v15 =>
 bnd (faV 3 v15) fun v16 =>
 bnd (ldV 1 false v16 h7) fun v17 =>
 T Tryz.prog 97 [v6, v17] h7 fun v18 h19 =>
 bnd (stV 2 v1 v18 h19) fun h20 =>
 bnd (ldV 2 true v1 h20) fun v21 =>
 K v21 h20)
def A76 : Ann := ⟨fun _ => ([], []), fun _ => []⟩
theorem S76_T {a0 a1 : Value} {h : GH} {K : Value → GH → Prop} (g : S76 a0 a1 h K) : T Tryz.prog 76 [a0, a1] h K :=
  T_of_gwp (A := A76) Tryz.func76 (c := bodyOf Tryz.f76) (by kernel_rfl) (by kernel_rfl) (by kernel_rfl) (by kernel_rfl) (by kernel_rfl) (Eq.mp (by kernel_rfl) g)

/-! ### pawl/bank.closes (77) -/
def S77 (a0 a1 : Value) (h : GH) (K : Value → GH → Prop) : Prop :=
 newV 55 [(.int .i64 0), (.int .i64 0)] h fun v1 h2 =>
 bnd (ncV a1) fun v3 =>
 bnd (faV 1 v3) fun v4 =>
 bnd (ldV 1 false v4 h2) fun v5 =>
 T Tryz.prog 95 [a0, v5] h2 fun v6 h7 =>
 bnd (ncV v6) fun v8 =>
 bnd (faV 2 v8) fun v9 =>
 bnd (ldV 1 false v9 h7) fun v10 =>
 bnd (unV .not v10) fun v11 =>
 ifV v11 (
 T Tryz.prog 96 [(.int .i64 2)] h7 fun v12 h13 =>
 bnd (stV 2 v1 v12 h13) fun h14 =>
 bnd (ldV 2 true v1 h14) fun v15 =>
 K v15 h14) (
 bnd (ncV v6) fun v16 =>
 bnd (faV 1 v16) fun v17 =>
 bnd (ldV 1 false v17 h7) fun v18 =>
 T Tryz.prog 98 [a0, v18, (.int .i64 0)] h7 fun v19 h20 =>
 bnd (ncV v6) fun v21 =>
 bnd (faV 3 v21) fun v22 =>
 bnd (ldV 1 false v22 h20) fun v23 =>
 T Tryz.prog 99 [v23] h20 fun v24 h25 =>
 bnd (stV 2 v1 v24 h25) fun h26 =>
 bnd (ldV 2 true v1 h26) fun v27 =>
 K v27 h26)
def A77 : Ann := ⟨fun _ => ([], []), fun _ => []⟩
theorem S77_T {a0 a1 : Value} {h : GH} {K : Value → GH → Prop} (g : S77 a0 a1 h K) : T Tryz.prog 77 [a0, a1] h K :=
  T_of_gwp (A := A77) Tryz.func77 (c := bodyOf Tryz.f77) (by kernel_rfl) (by kernel_rfl) (by kernel_rfl) (by kernel_rfl) (by kernel_rfl) (Eq.mp (by kernel_rfl) g)

/-! ### pawl/bank.deposit (78) -/
def S78 (a0 a1 : Value) (h : GH) (K : Value → GH → Prop) : Prop :=
 newV 55 [(.int .i64 0), (.int .i64 0)] h fun v1 h2 =>
 bnd (ncV a1) fun v3 =>
 bnd (faV 1 v3) fun v4 =>
 bnd (ldV 1 false v4 h2) fun v5 =>
 T Tryz.prog 95 [a0, v5] h2 fun v6 h7 =>
 bnd (ncV v6) fun v8 =>
 bnd (faV 2 v8) fun v9 =>
 bnd (ldV 1 false v9 h7) fun v10 =>
 bnd (unV .not v10) fun v11 =>
 ifV v11 (
 T Tryz.prog 96 [(.int .i64 2)] h7 fun v12 h13 =>
 bnd (stV 2 v1 v12 h13) fun h14 =>
 bnd (ldV 2 true v1 h14) fun v15 =>
 K v15 h14) (
 bnd (ncV v6) fun v16 =>
 bnd (faV 3 v16) fun v17 =>
 bnd (ldV 1 false v17 h7) fun v18 =>
 bnd (ncV a1) fun v19 =>
 bnd (faV 3 v19) fun v20 =>
 bnd (ldV 1 false v20 h7) fun v21 =>
 bnd (binV .sub (.int .i64 1048575) v21) fun v22 =>
 bnd (binV .gtr v18 v22) fun v23 =>
 ifV v23 (
 T Tryz.prog 96 [(.int .i64 4)] h7 fun v24 h25 =>
 bnd (stV 2 v1 v24 h25) fun h26 =>
 bnd (ldV 2 true v1 h26) fun v27 =>
 K v27 h26) (
 bnd (ncV v6) fun v28 =>
 bnd (faV 3 v28) fun v29 =>
 bnd (ldV 1 false v29 h7) fun v30 =>
 bnd (ncV a1) fun v31 =>
 bnd (faV 3 v31) fun v32 =>
 bnd (ldV 1 false v32 h7) fun v33 =>
 bnd (binV .add v30 v33) fun v34 =>
 T Tryz.prog 97 [v6, v34] h7 fun v35 h36 =>
 bnd (stV 2 v1 v35 h36) fun h37 =>
 bnd (ldV 2 true v1 h37) fun v38 =>
 K v38 h37))
def A78 : Ann := ⟨fun | 4 => ([0, 1, 2, 3, 4, 5, 6, 7, 8, 9, 10], [0, 1, 3, 7, 0, 16, 48, 112, 240, 511, 1023]) | 6 => ([0, 1, 2, 3, 4, 5, 6, 7, 8, 9, 10, 11], [0, 0, 2, 6, 14, 0, 32, 96, 224, 510, 1023, 2047]) | _ => ([], []), fun _ => []⟩
theorem S78_T {a0 a1 : Value} {h : GH} {K : Value → GH → Prop} (g : S78 a0 a1 h K) : T Tryz.prog 78 [a0, a1] h K :=
  T_of_gwp (A := A78) Tryz.func78 (c := bodyOf Tryz.f78) (by kernel_rfl) (by kernel_rfl) (by kernel_rfl) (by kernel_rfl) (by kernel_rfl) (Eq.mp (by kernel_rfl) g)

/-! ### pawl/bank.withdraw (79) -/
def S79 (a0 a1 : Value) (h : GH) (K : Value → GH → Prop) : Prop :=
 newV 55 [(.int .i64 0), (.int .i64 0)] h fun v1 h2 =>
 bnd (ncV a1) fun v3 =>
 bnd (faV 1 v3) fun v4 =>
 bnd (ldV 1 false v4 h2) fun v5 =>
 T Tryz.prog 95 [a0, v5] h2 fun v6 h7 =>
 bnd (ncV v6) fun v8 =>
 bnd (faV 2 v8) fun v9 =>
 bnd (ldV 1 false v9 h7) fun v10 =>
 bnd (unV .not v10) fun v11 =>
 ifV v11 (
 T Tryz.prog 96 [(.int .i64 2)] h7 fun v12 h13 =>
 bnd (stV 2 v1 v12 h13) fun h14 =>
 bnd (ldV 2 true v1 h14) fun v15 =>
 K v15 h14) (
 bnd (ncV v6) fun v16 =>
 bnd (faV 3 v16) fun v17 =>
 bnd (ldV 1 false v17 h7) fun v18 =>
 bnd (ncV a1) fun v19 =>
 bnd (faV 3 v19) fun v20 =>
 bnd (ldV 1 false v20 h7) fun v21 =>
 bnd (binV .lss v18 v21) fun v22 =>
 ifV v22 (
 T Tryz.prog 96 [(.int .i64 3)] h7 fun v23 h24 =>
 bnd (stV 2 v1 v23 h24) fun h25 =>
 bnd (ldV 2 true v1 h25) fun v26 =>
 K v26 h25) (
 bnd (ncV v6) fun v27 =>
 bnd (faV 3 v27) fun v28 =>
 bnd (ldV 1 false v28 h7) fun v29 =>
 bnd (ncV a1) fun v30 =>
 bnd (faV 3 v30) fun v31 =>
 bnd (ldV 1 false v31 h7) fun v32 =>
 bnd (binV .sub v29 v32) fun v33 =>
 T Tryz.prog 97 [v6, v33] h7 fun v34 h35 =>
 bnd (stV 2 v1 v34 h35) fun h36 =>
 bnd (ldV 2 true v1 h36) fun v37 =>
 K v37 h36))
def A79 : Ann := ⟨fun | 4 => ([0, 1, 2, 3, 4, 5, 6, 7, 8, 9], [0, 1, 3, 7, 0, 16, 48, 112, 255, 511]) | 6 => ([0, 1, 2, 3, 4, 5, 6, 7, 8, 9, 10, 11], [0, 0, 2, 6, 14, 0, 32, 96, 224, 510, 1023, 2047]) | _ => ([], []), fun _ => []⟩
theorem S79_T {a0 a1 : Value} {h : GH} {K : Value → GH → Prop} (g : S79 a0 a1 h K) : T Tryz.prog 79 [a0, a1] h K :=
  T_of_gwp (A := A79) Tryz.func79 (c := bodyOf Tryz.f79) (by kernel_rfl) (by kernel_rfl) (by kernel_rfl) (by kernel_rfl) (by kernel_rfl) (Eq.mp (by kernel_rfl) g)

/-! ### pawl/bank.transfer (80) -/
def S80_j2 (x1 x4 x5 x6 : Value) (h : GH) (K : Value → GH → Prop)  : Prop :=
 bnd (ncV x6) fun v1 =>
 bnd (faV 3 v1) fun v2 =>
 bnd (ldV 1 false v2 h) fun v3 =>
 bnd (ncV x1) fun v4 =>
 bnd (faV 3 v4) fun v5 =>
 bnd (ldV 1 false v5 h) fun v6 =>
 bnd (binV .add v3 v6) fun v7 =>
 T Tryz.prog 97 [x6, v7] h fun v8 h9 =>
 bnd (ncV x5) fun v10 =>
 bnd (faV 3 v10) fun v11 =>
 bnd (ldV 1 false v11 h9) fun v12 =>
 bnd (ncV x1) fun v13 =>
 bnd (faV 3 v13) fun v14 =>
 bnd (ldV 1 false v14 h9) fun v15 =>
 bnd (binV .sub v12 v15) fun v16 =>
 T Tryz.prog 97 [x5, v16] h9 fun v17 h18 =>
 bnd (stV 2 x4 v17 h18) fun h19 =>
 bnd (ldV 2 true x4 h19) fun v20 =>
 K v20 h19

def S80_j1 (x1 x4 x5 x6 x19 : Value) (h : GH) (K : Value → GH → Prop)  : Prop :=
 ifV x19 (
 T Tryz.prog 96 [(.int .i64 2)] h fun v1 h2 =>
 bnd (stV 2 x4 v1 h2) fun h3 =>
 bnd (ldV 2 true x4 h3) fun v4 =>
 K v4 h3) (
 bnd (ncV x5) fun v5 =>
 bnd (faV 3 v5) fun v6 =>
 bnd (ldV 1 false v6 h) fun v7 =>
 bnd (ncV x1) fun v8 =>
 bnd (faV 3 v8) fun v9 =>
 bnd (ldV 1 false v9 h) fun v10 =>
 bnd (binV .lss v7 v10) fun v11 =>
 ifV v11 (
 T Tryz.prog 96 [(.int .i64 3)] h fun v12 h13 =>
 bnd (stV 2 x4 v12 h13) fun h14 =>
 bnd (ldV 2 true x4 h14) fun v15 =>
 K v15 h14) (
 bnd (ncV x1) fun v16 =>
 bnd (faV 1 v16) fun v17 =>
 bnd (ldV 1 false v17 h) fun v18 =>
 bnd (ncV x1) fun v19 =>
 bnd (faV 2 v19) fun v20 =>
 bnd (ldV 1 false v20 h) fun v21 =>
 bnd (eqI v18 v21) fun b22 =>
 ifV (.bool b22) (
 bnd (ncV x5) fun v23 =>
 bnd (faV 3 v23) fun v24 =>
 bnd (ldV 1 false v24 h) fun v25 =>
 T Tryz.prog 99 [v25] h fun v26 h27 =>
 bnd (stV 2 x4 v26 h27) fun h28 =>
 bnd (ldV 2 true x4 h28) fun v29 =>
 K v29 h28) (
 bnd (ncV x6) fun v30 =>
 bnd (faV 3 v30) fun v31 =>
 bnd (ldV 1 false v31 h) fun v32 =>
 bnd (ncV x1) fun v33 =>
 bnd (faV 3 v33) fun v34 =>
 bnd (ldV 1 false v34 h) fun v35 =>
 bnd (binV .sub (.int .i64 1048575) v35) fun v36 =>
 bnd (binV .gtr v32 v36) fun v37 =>
 ifV v37 (
 T Tryz.prog 96 [(.int .i64 4)] h fun v38 h39 =>
 bnd (stV 2 x4 v38 h39) fun h40 =>
 bnd (ldV 2 true x4 h40) fun v41 =>
 K v41 h40) (
 S80_j2 x1 x4 x5 x6 h K ))))
def S80 (a0 a1 : Value) (h : GH) (K : Value → GH → Prop) : Prop :=
 newV 55 [(.int .i64 0), (.int .i64 0)] h fun v1 h2 =>
 bnd (ncV a1) fun v3 =>
 bnd (faV 1 v3) fun v4 =>
 bnd (ldV 1 false v4 h2) fun v5 =>
 bnd (ncV a1) fun v6 =>
 bnd (faV 2 v6) fun v7 =>
 bnd (ldV 1 false v7 h2) fun v8 =>
 T Tryz.prog 95 [a0, v5] h2 fun v9 h10 =>
 ldV 1 false v7 h10 = some v8 ∧
 T Tryz.prog 95 [a0, v8] h10 fun v11 h12 =>
 bnd (ncV v9) fun v13 =>
 bnd (faV 2 v13) fun v14 =>
 bnd (ldV 1 false v14 h12) fun v15 =>
 bnd (unV .not v15) fun v16 =>
 ifV v16 (
 S80_j1 a1 v1 v9 v11 (.bool true) h12 K ) (
 bnd (ncV v11) fun v17 =>
 bnd (faV 2 v17) fun v18 =>
 bnd (ldV 1 false v18 h12) fun v19 =>
 bnd (unV .not v19) fun v20 =>
 S80_j1 a1 v1 v9 v11 v20 h12 K )
def A80 : Ann := ⟨fun | 1 => ([0, 1, 2, 3, 4, 6, 7, 8, 9, 10, 5, 11, 12, 13], [0, 0, 2, 6, 14, 31, 0, 0, 128, 384, 896, 2047, 4095, 8191]) | 4 => ([0, 1, 2, 3, 4, 5, 6, 7, 8, 9], [0, 1, 3, 7, 0, 16, 48, 112, 255, 511]) | 6 => ([0, 1, 2, 3, 4, 5, 6, 7, 8, 9], [0, 1, 3, 7, 0, 16, 48, 112, 255, 511]) | 8 => ([0, 1, 2, 3, 4, 5, 6, 7, 8, 9, 10], [0, 1, 3, 7, 0, 16, 48, 112, 240, 511, 1023]) | 10 => ([0, 1, 2, 3, 4, 5, 6, 7, 8, 9, 10], [0, 0, 2, 6, 14, 0, 32, 96, 224, 510, 1023]) | 11 => ([0, 1, 2, 3, 4, 5, 6, 7, 8, 9, 10, 11], [0, 0, 2, 6, 14, 0, 32, 96, 224, 510, 1023, 2047]) | _ => ([], []), fun _ => []⟩
theorem S80_T {a0 a1 : Value} {h : GH} {K : Value → GH → Prop} (g : S80 a0 a1 h K) : T Tryz.prog 80 [a0, a1] h K :=
  T_of_gwp (A := A80) Tryz.func80 (c := bodyOf Tryz.f80) (by kernel_rfl) (by kernel_rfl) (by kernel_rfl) (by kernel_rfl) (by kernel_rfl) (Eq.mp (by kernel_rfl) g)

/-! ### pawl/bank.sum (81) -/
def S81 (a0 a1 : Value) (h : GH) (K : Value → GH → Prop) : Prop :=
 newV 55 [(.int .i64 0), (.int .i64 0)] h fun v1 h2 =>
 Lfp (fun (s3 : Nat → Value) h4 again5 =>
 bnd (binV .lss (s3 3) (.int .i64 4)) fun v6 =>
 ifV v6 (
 T Tryz.prog 95 [(s3 0), (s3 3)] h4 fun v7 h8 =>
 bnd (ncV v7) fun v9 =>
 bnd (faV 2 v9) fun v10 =>
 bnd (ldV 1 false v10 h8) fun v11 =>
 ifV v11 (
 bnd (ncV v7) fun v12 =>
 bnd (faV 3 v12) fun v13 =>
 bnd (ldV 1 false v13 h8) fun v14 =>
 bnd (binV .add (s3 2) v14) fun v15 =>
 bnd (binV .add (s3 3) (.int .i64 1)) fun v16 =>
 again5 (tup [(s3 0), (s3 1), v15, v16]) h8) (
 bnd (binV .add (s3 3) (.int .i64 1)) fun v17 =>
 again5 (tup [(s3 0), (s3 1), (s3 2), v17]) h8)) (
 T Tryz.prog 99 [(s3 2)] h4 fun v18 h19 =>
 bnd (stV 2 (s3 1) v18 h19) fun h20 =>
 bnd (ldV 2 true (s3 1) h20) fun v21 =>
 K v21 h20)) (tup [a0, v1, (.int .i64 0), (.int .i64 0)]) h2
def A81 : Ann := ⟨fun _ => ([], []), fun | 0 => [0, 4, 5, 8] | _ => []⟩
theorem S81_T {a0 a1 : Value} {h : GH} {K : Value → GH → Prop} (g : S81 a0 a1 h K) : T Tryz.prog 81 [a0, a1] h K :=
  T_of_gwp (A := A81) Tryz.func81 (c := bodyOf Tryz.f81) (by kernel_rfl) (by kernel_rfl) (by kernel_rfl) (by kernel_rfl) (by kernel_rfl) (Eq.mp (by kernel_rfl) g)

/-! ### pawl/desc.may (82) -/
def S82 (a0 : Value) (h : GH) (K : Value → GH → Prop) : Prop :=
 bnd (lnV a0) fun v1 =>
 Lfp (fun (s2 : Nat → Value) h3 again4 =>
 bnd (binV .lss (s2 4) (s2 3)) fun v5 =>
 ifV v5 (
 bnd (isV 3 (s2 2) (s2 4)) fun v6 =>
 bnd (ldV 3 true v6 h3) fun v7 =>
 newV 114 [(.int .i64 0), (.int .i64 0), (.int .i64 0)] h3 fun v8 h9 =>
 bnd (stV 3 v8 v7 h9) fun h10 =>
 bnd (faV 0 v8) fun v11 =>
 bnd (ldV 1 false v11 h10) fun v12 =>
 bnd (binV .leq v12 (s2 1)) fun v13 =>
 ifV v13 (
 K (.bool false) h10) (
 bnd (faV 0 v8) fun v14 =>
 bnd (ldV 1 false v14 h10) fun v15 =>
 bnd (binV .geq v15 (.int .i64 16)) fun v16 =>
 ifV v16 (
 K (.bool false) h10) (
 bnd (faV 1 v8) fun v17 =>
 bnd (ldV 1 false v17 h10) fun v18 =>
 T Tryz.prog 65 [v18] h10 fun v19 h20 =>
 bnd (unV .not v19) fun v21 =>
 ifV v21 (
 K (.bool false) h20) (
 bnd (faV 2 v8) fun v22 =>
 bnd (ldV 1 false v22 h20) fun v23 =>
 T Tryz.prog 65 [v23] h20 fun v24 h25 =>
 bnd (unV .not v24) fun v26 =>
 ifV v26 (
 K (.bool false) h25) (
 bnd (faV 0 v8) fun v27 =>
 bnd (ldV 1 false v27 h25) fun v28 =>
 bnd (binV .add (s2 4) (.int .i64 1)) fun v29 =>
 again4 (tup [(s2 0), v28, (s2 2), (s2 3), v29]) h25))))) (
 bnd (lnV (s2 0)) fun v30 =>
 bnd (binV .leq v30 (.int .i64 16)) fun v31 =>
 K v31 h3)) (tup [a0, (.int .i64 (-1)), a0, v1, (.int .i64 0)]) h
def A82 : Ann := ⟨fun _ => ([], []), fun | 0 => [0, 3, 6, 7, 8] | _ => []⟩
theorem S82_T {a0 : Value} {h : GH} {K : Value → GH → Prop} (g : S82 a0 h K) : T Tryz.prog 82 [a0] h K :=
  T_of_gwp (A := A82) Tryz.func82 (c := bodyOf Tryz.f82) (by kernel_rfl) (by kernel_rfl) (by kernel_rfl) (by kernel_rfl) (by kernel_rfl) (Eq.mp (by kernel_rfl) g)

/-! ### pawl/desc.Base (83) -/
def S83 (a0 : Value) (h : GH) (K : Value → GH → Prop) : Prop :=
 bnd (binV .mul a0 (.int .i64 50)) fun v1 =>
 bnd (binV .add (.int .i64 34) v1) fun v2 =>
 K v2 h
def A83 : Ann := ⟨fun _ => ([], []), fun _ => []⟩
theorem S83_T {a0 : Value} {h : GH} {K : Value → GH → Prop} (g : S83 a0 h K) : T Tryz.prog 83 [a0] h K :=
  T_of_gwp (A := A83) Tryz.func83 (c := bodyOf Tryz.f83) (by kernel_rfl) (by kernel_rfl) (by kernel_rfl) (by kernel_rfl) (by kernel_rfl) (Eq.mp (by kernel_rfl) g)

/-! ### pawl/desc.State (84) -/
def S84 (a0 a1 : Value) (h : GH) (K : Value → GH → Prop) : Prop :=
 bnd (binV .mul a0 (.int .i64 4)) fun v1 =>
 bnd (binV .add v1 a1) fun v2 =>
 T Tryz.prog 64 [v2] h fun v3 h4 =>
 K v3 h4
def A84 : Ann := ⟨fun _ => ([], []), fun _ => []⟩
theorem S84_T {a0 a1 : Value} {h : GH} {K : Value → GH → Prop} (g : S84 a0 a1 h K) : T Tryz.prog 84 [a0, a1] h K :=
  T_of_gwp (A := A84) Tryz.func84 (c := bodyOf Tryz.f84) (by kernel_rfl) (by kernel_rfl) (by kernel_rfl) (by kernel_rfl) (by kernel_rfl) (Eq.mp (by kernel_rfl) g)

/-! ### pawl/word.Read$1 (85) -/
def S85 (a0 : Value) (h : GH) (K : Value → GH → Prop) : Prop :=
 newV 77 [(.int .i64 0), (.int .i64 0)] h fun v1 h2 =>
 bnd (binV .rem a0 (.int .i64 16)) fun v3 =>
 bnd (binV .quo a0 (.int .i64 16)) fun v4 =>
 bnd (fillV [(.int .i64 0), (.int .i64 0)] [(0, 1, v3), (1, 1, v4)]) fun c5 =>
 bnd (stV 2 v1 (.agg c5.toArray) h2) fun h6 =>
 bnd (ldV 2 true v1 h6) fun v7 =>
 K v7 h6
def A85 : Ann := ⟨fun _ => ([], []), fun _ => []⟩
theorem S85_T {a0 : Value} {h : GH} {K : Value → GH → Prop} (g : S85 a0 h K) : T Tryz.prog 85 [a0] h K :=
  T_of_gwp (A := A85) Tryz.func85 (c := bodyOf Tryz.f85) (by kernel_rfl) (by kernel_rfl) (by kernel_rfl) (by kernel_rfl) (by kernel_rfl) (Eq.mp (by kernel_rfl) g)

/-! ### pawl/word.may (86) -/
def S86 (a0 : Value) (h : GH) (K : Value → GH → Prop) : Prop :=
 ivV Tryz.prog a0 "pawl/word.plain" [] h fun v1 h2 =>
 newV 194 [(.int .i64 0), (.int .i64 0), (.int .i64 0), (.int .i64 0), (.int .i64 0), (.int .i64 0), (.int .i64 0)] h2 fun v3 h4 =>
 bnd (stV 7 v3 v1 h4) fun h5 =>
 bnd (faV 1 v3) fun v6 =>
 bnd (ldV 1 false v6 h5) fun v7 =>
 T Tryz.prog 26 [v7, (.int .i64 1099511627776)] h5 fun v8 h9 =>
 ifV v8 (
 bnd (faV 2 v3) fun v10 =>
 bnd (ldV 1 false v10 h9) fun v11 =>
 T Tryz.prog 26 [v11, (.int .i64 12)] h9 fun v12 h13 =>
 ifV v12 (
 bnd (faV 3 v3) fun v14 =>
 bnd (ldV 1 false v14 h13) fun v15 =>
 T Tryz.prog 26 [v15, (.int .i64 65536)] h13 fun v16 h17 =>
 ifV v16 (
 bnd (faV 4 v3) fun v18 =>
 bnd (ldV 1 false v18 h17) fun v19 =>
 T Tryz.prog 26 [v19, (.int .i64 16)] h17 fun v20 h21 =>
 ifV v20 (
 bnd (faV 5 v3) fun v22 =>
 bnd (ldV 1 false v22 h21) fun v23 =>
 T Tryz.prog 26 [v23, (.int .i64 4)] h21 fun v24 h25 =>
 ifV v24 (
 bnd (faV 6 v3) fun v26 =>
 bnd (ldV 1 false v26 h25) fun v27 =>
 T Tryz.prog 26 [v27, (.int .i64 1048576)] h25 fun v28 h29 =>
 K v28 h29) (
 K (.bool false) h25)) (
 K (.bool false) h21)) (
 K (.bool false) h17)) (
 K (.bool false) h13)) (
 K (.bool false) h9)
def A86 : Ann := ⟨fun _ => ([], []), fun _ => []⟩
theorem S86_T {a0 : Value} {h : GH} {K : Value → GH → Prop} (g : S86 a0 h K) : T Tryz.prog 86 [a0] h K :=
  T_of_gwp (A := A86) Tryz.func86 (c := bodyOf Tryz.f86) (by kernel_rfl) (by kernel_rfl) (by kernel_rfl) (by kernel_rfl) (by kernel_rfl) (Eq.mp (by kernel_rfl) g)

/-! ### pawl/pawlref1.ofBank (87) -/
def S87 (a0 : Value) (h : GH) (K : Value → GH → Prop) : Prop :=
 newV 50 (a0 : Value).cells.toList h fun v1 h2 =>
 bnd (faV 0 v1) fun v3 =>
 bnd (ldV 1 false v3 h2) fun v4 =>
 bnd (binV .leq v4 (.int .i64 5)) fun v5 =>
 K v5 h2
def A87 : Ann := ⟨fun _ => ([], []), fun _ => []⟩
theorem S87_T {a0 : Value} {h : GH} {K : Value → GH → Prop} (g : S87 a0 h K) : T Tryz.prog 87 [a0] h K :=
  T_of_gwp (A := A87) Tryz.func87 (c := bodyOf Tryz.f87) (by kernel_rfl) (by kernel_rfl) (by kernel_rfl) (by kernel_rfl) (by kernel_rfl) (Eq.mp (by kernel_rfl) g)

/-! ### (*pawl/pawlref1.walk).bank (88) -/
def S88_j2 (x0 x3 x4 x7 x8 : Value) (h : GH) (K : Value → GH → Prop)  : Prop :=
 bnd (binV .sub x7 (.int .i64 1)) fun v1 =>
 bnd (binV .sub x8 (.int .i64 1)) fun v2 =>
 bnd (faV 0 x3) fun v3 =>
 bnd (ldV 1 false v3 h) fun v4 =>
 bnd (eqI v4 (.int .i64 1)) fun b5 =>
 ifV (.bool b5) (
 bnd (faV 1 x3) fun v6 =>
 bnd (ldV 1 false v6 h) fun v7 =>
 T Tryz.prog 103 [x0, v7, (.int .i64 0)] h fun v8 h9 =>
 T Tryz.prog 101 [v1] h9 fun v10 h11 =>
 bnd (stV 2 x4 v10 h11) fun h12 =>
 bnd (ldV 2 true x4 h12) fun v13 =>
 K v13 h12) (
 bnd (eqI v4 (.int .i64 2)) fun b14 =>
 ifV (.bool b14) (
 bnd (faV 3 x3) fun v15 =>
 bnd (ldV 1 false v15 h) fun v16 =>
 bnd (binV .add v1 v16) fun v17 =>
 bnd (binV .gtr v17 (.int .i64 1048575)) fun v18 =>
 ifV v18 (
 T Tryz.prog 102 [(.int .i64 4)] h fun v19 h20 =>
 bnd (stV 2 x4 v19 h20) fun h21 =>
 bnd (ldV 2 true x4 h21) fun v22 =>
 K v22 h21) (
 bnd (faV 1 x3) fun v23 =>
 bnd (ldV 1 false v23 h) fun v24 =>
 bnd (faV 3 x3) fun v25 =>
 bnd (ldV 1 false v25 h) fun v26 =>
 bnd (binV .add v1 v26) fun v27 =>
 bnd (binV .add v27 (.int .i64 1)) fun v28 =>
 T Tryz.prog 103 [x0, v24, v28] h fun v29 h30 =>
 bnd (faV 3 x3) fun v31 =>
 bnd (ldV 1 false v31 h30) fun v32 =>
 bnd (binV .add v1 v32) fun v33 =>
 T Tryz.prog 101 [v33] h30 fun v34 h35 =>
 bnd (stV 2 x4 v34 h35) fun h36 =>
 bnd (ldV 2 true x4 h36) fun v37 =>
 K v37 h36)) (
 bnd (faV 3 x3) fun v38 =>
 bnd (ldV 1 false v38 h) fun v39 =>
 bnd (binV .lss v1 v39) fun v40 =>
 ifV v40 (
 T Tryz.prog 102 [(.int .i64 3)] h fun v41 h42 =>
 bnd (stV 2 x4 v41 h42) fun h43 =>
 bnd (ldV 2 true x4 h43) fun v44 =>
 K v44 h43) (
 bnd (faV 0 x3) fun v45 =>
 bnd (ldV 1 false v45 h) fun v46 =>
 bnd (eqI v46 (.int .i64 3)) fun b47 =>
 ifV (.bool b47) (
 bnd (faV 1 x3) fun v48 =>
 bnd (ldV 1 false v48 h) fun v49 =>
 bnd (faV 3 x3) fun v50 =>
 bnd (ldV 1 false v50 h) fun v51 =>
 bnd (binV .sub v1 v51) fun v52 =>
 bnd (binV .add v52 (.int .i64 1)) fun v53 =>
 T Tryz.prog 103 [x0, v49, v53] h fun v54 h55 =>
 bnd (faV 3 x3) fun v56 =>
 bnd (ldV 1 false v56 h55) fun v57 =>
 bnd (binV .sub v1 v57) fun v58 =>
 T Tryz.prog 101 [v58] h55 fun v59 h60 =>
 bnd (stV 2 x4 v59 h60) fun h61 =>
 bnd (ldV 2 true x4 h61) fun v62 =>
 K v62 h61) (
 bnd (faV 1 x3) fun v63 =>
 bnd (ldV 1 false v63 h) fun v64 =>
 bnd (faV 2 x3) fun v65 =>
 bnd (ldV 1 false v65 h) fun v66 =>
 bnd (eqI v64 v66) fun b67 =>
 ifV (.bool b67) (
 T Tryz.prog 101 [v1] h fun v68 h69 =>
 bnd (stV 2 x4 v68 h69) fun h70 =>
 bnd (ldV 2 true x4 h70) fun v71 =>
 K v71 h70) (
 bnd (faV 3 x3) fun v72 =>
 bnd (ldV 1 false v72 h) fun v73 =>
 bnd (binV .add v2 v73) fun v74 =>
 bnd (binV .gtr v74 (.int .i64 1048575)) fun v75 =>
 ifV v75 (
 T Tryz.prog 102 [(.int .i64 4)] h fun v76 h77 =>
 bnd (stV 2 x4 v76 h77) fun h78 =>
 bnd (ldV 2 true x4 h78) fun v79 =>
 K v79 h78) (
 bnd (faV 1 x3) fun v80 =>
 bnd (ldV 1 false v80 h) fun v81 =>
 bnd (faV 3 x3) fun v82 =>
 bnd (ldV 1 false v82 h) fun v83 =>
 bnd (binV .sub v1 v83) fun v84 =>
 bnd (binV .add v84 (.int .i64 1)) fun v85 =>
 T Tryz.prog 103 [x0, v81, v85] h fun v86 h87 =>
 bnd (faV 2 x3) fun v88 =>
 bnd (ldV 1 false v88 h87) fun v89 =>
 bnd (faV 3 x3) fun v90 =>
 bnd (ldV 1 false v90 h87) fun v91 =>
 bnd (binV .add v2 v91) fun v92 =>
 bnd (binV .add v92 (.int .i64 1)) fun v93 =>
 T Tryz.prog 103 [x0, v89, v93] h87 fun v94 h95 =>
 bnd (faV 3 x3) fun v96 =>
 bnd (ldV 1 false v96 h95) fun v97 =>
 bnd (binV .sub v1 v97) fun v98 =>
 T Tryz.prog 101 [v98] h95 fun v99 h100 =>
 bnd (stV 2 x4 v99 h100) fun h101 =>
 bnd (ldV 2 true x4 h101) fun v102 =>
 K v102 h101))))))

def S88_j1 (x0 x3 x4 x7 x8 : Value) (h : GH) (K : Value → GH → Prop)  : Prop :=
 bnd (eqI x7 (.int .i64 0)) fun b1 =>
 ifV (.bool b1) (
 T Tryz.prog 102 [(.int .i64 2)] h fun v2 h3 =>
 bnd (stV 2 x4 v2 h3) fun h4 =>
 bnd (ldV 2 true x4 h4) fun v5 =>
 K v5 h4) (
 bnd (eqI x8 (.int .i64 0)) fun b6 =>
 ifV (.bool b6) (
 T Tryz.prog 102 [(.int .i64 2)] h fun v7 h8 =>
 bnd (stV 2 x4 v7 h8) fun h9 =>
 bnd (ldV 2 true x4 h9) fun v10 =>
 K v10 h9) (
 S88_j2 x0 x3 x4 x7 x8 h K ))
def S88 (a0 a1 : Value) (h : GH) (K : Value → GH → Prop) : Prop :=
 newV 50 (a1 : Value).cells.toList h fun v1 h2 =>
 newV 55 [(.int .i64 0), (.int .i64 0)] h2 fun v3 h4 =>
 bnd (faV 0 v1) fun v5 =>
 bnd (ldV 1 false v5 h4) fun v6 =>
 bnd (eqI v6 (.int .i64 5)) fun b7 =>
 ifV (.bool b7) (
 Lfp (fun (s8 : Nat → Value) h9 again10 =>
 bnd (binV .lss (s8 3) (.int .i64 4)) fun v11 =>
 ifV v11 (
 T Tryz.prog 100 [(s8 0), (s8 3)] h9 fun v12 h13 =>
 bnd (binV .sub v12 (.int .i64 1)) fun v14 =>
 bnd (mmV true (.int .i64 0) [v14]) fun v15 =>
 bnd (binV .add (s8 2) v15) fun v16 =>
 bnd (binV .add (s8 3) (.int .i64 1)) fun v17 =>
 again10 (tup [(s8 0), (s8 1), v16, v17]) h13) (
 T Tryz.prog 101 [(s8 2)] h9 fun v18 h19 =>
 bnd (stV 2 (s8 1) v18 h19) fun h20 =>
 bnd (ldV 2 true (s8 1) h20) fun v21 =>
 K v21 h20)) (tup [a0, v3, (.int .i64 0), (.int .i64 0)]) h4) (
 bnd (faV 1 v1) fun v22 =>
 bnd (ldV 1 false v22 h4) fun v23 =>
 T Tryz.prog 100 [a0, v23] h4 fun v24 h25 =>
 bnd (faV 0 v1) fun v26 =>
 bnd (ldV 1 false v26 h25) fun v27 =>
 bnd (eqI v27 (.int .i64 0)) fun b28 =>
 ifV (.bool b28) (
 bnd (binV .gtr v24 (.int .i64 0)) fun v29 =>
 ifV v29 (
 T Tryz.prog 102 [(.int .i64 1)] h25 fun v30 h31 =>
 bnd (stV 2 v3 v30 h31) fun h32 =>
 bnd (ldV 2 true v3 h32) fun v33 =>
 K v33 h32) (
 bnd (faV 1 v1) fun v34 =>
 bnd (ldV 1 false v34 h25) fun v35 =>
 bnd (faV 3 v1) fun v36 =>
 bnd (ldV 1 false v36 h25) fun v37 =>
 bnd (binV .add (.int .i64 1) v37) fun v38 =>
 T Tryz.prog 103 [a0, v35, v38] h25 fun v39 h40 =>
 bnd (faV 3 v1) fun v41 =>
 bnd (ldV 1 false v41 h40) fun v42 =>
 T Tryz.prog 101 [v42] h40 fun v43 h44 =>
 bnd (stV 2 v3 v43 h44) fun h45 =>
 bnd (ldV 2 true v3 h45) fun v46 =>
 K v46 h45)) (
 bnd (faV 0 v1) fun v47 =>
 bnd (ldV 1 false v47 h25) fun v48 =>
 bnd (eqI v48 (.int .i64 4)) fun b49 =>
 ifV (.bool b49) (
 bnd (faV 2 v1) fun v50 =>
 bnd (ldV 1 false v50 h25) fun v51 =>
 T Tryz.prog 100 [a0, v51] h25 fun v52 h53 =>
 S88_j1 a0 v1 v3 v24 v52 h53 K ) (
 S88_j1 a0 v1 v3 v24 (.int .i64 1) h25 K )))
def A88 : Ann := ⟨fun _ => ([], []), fun | 0 => [0, 4, 5, 6] | _ => []⟩
theorem S88_T {a0 a1 : Value} {h : GH} {K : Value → GH → Prop} (g : S88 a0 a1 h K) : T Tryz.prog 88 [a0, a1] h K :=
  T_of_gwp (A := A88) Tryz.func88 (c := bodyOf Tryz.f88) (by kernel_rfl) (by kernel_rfl) (by kernel_rfl) (by kernel_rfl) (by kernel_rfl) (Eq.mp (by kernel_rfl) g)

/-! ### (*pawl/pawlref1.walk).skip (89) -/
def S89_j1 (s44 : Nat → Value) (x0 x3 x4 x8 x9 : Value) (h : GH) (K : Value → GH → Prop) (again46 : (Nat → Value) → GH → Prop) : Prop :=
 bnd (cvV .u64 x8) fun v1 =>
 bnd (binV .shl (.int .i64 1) v1) fun v2 =>
 bnd (binV .or x9 v2) fun v3 =>
 T Tryz.prog 104 [x0, x8, (.int .i64 0)] h fun v4 h5 =>
 again46 (tup [x0, x3, x4, v4, v3]) h5
def S89 (a0 a1 : Value) (h : GH) (K : Value → GH → Prop) : Prop :=
 newV 50 (a1 : Value).cells.toList h fun v1 h2 =>
 newV 55 [(.int .i64 0), (.int .i64 0)] h2 fun v3 h4 =>
 bnd (faV 0 v1) fun v5 =>
 bnd (ldV 1 false v5 h4) fun v6 =>
 bnd (eqI v6 (.int .i64 9)) fun b7 =>
 ifV (.bool b7) (
 T Tryz.prog 104 [a0, (.int .i64 (-1)), (.int .i64 0)] h4 fun v8 h9 =>
 bnd (binV .lss v8 (.int .i64 0)) fun v10 =>
 ifV v10 (
 T Tryz.prog 102 [(.int .i64 2)] h9 fun v11 h12 =>
 bnd (stV 2 v3 v11 h12) fun h13 =>
 bnd (ldV 2 true v3 h13) fun v14 =>
 K v14 h13) (
 T Tryz.prog 101 [v8] h9 fun v15 h16 =>
 bnd (stV 2 v3 v15 h16) fun h17 =>
 bnd (ldV 2 true v3 h17) fun v18 =>
 K v18 h17)) (
 bnd (faV 1 v1) fun v19 =>
 bnd (ldV 1 false v19 h4) fun v20 =>
 T Tryz.prog 105 [a0, (.int .i64 (-1)), v20, (.int .i64 1)] h4 fun v21 h22 =>
 bnd (faV 1 v1) fun v23 =>
 bnd (ldV 1 false v23 h22) fun v24 =>
 T Tryz.prog 105 [a0, v21, v24, (.int .i64 0)] h22 fun v25 h26 =>
 T Tryz.prog 104 [a0, v25, (.int .i64 0)] h26 fun v27 h28 =>
 bnd (faV 0 v1) fun v29 =>
 bnd (ldV 1 false v29 h28) fun v30 =>
 bnd (eqI v30 (.int .i64 8)) fun b31 =>
 ifV (.bool b31) (
 bnd (faV 1 v1) fun v32 =>
 bnd (ldV 1 false v32 h28) fun v33 =>
 bnd (eqI v27 v33) fun b34 =>
 ifV (.bool b34) (
 T Tryz.prog 101 [(.int .i64 1)] h28 fun v35 h36 =>
 bnd (stV 2 v3 v35 h36) fun h37 =>
 bnd (ldV 2 true v3 h37) fun v38 =>
 K v38 h37) (
 T Tryz.prog 101 [(.int .i64 0)] h28 fun v39 h40 =>
 bnd (stV 2 v3 v39 h40) fun h41 =>
 bnd (ldV 2 true v3 h41) fun v42 =>
 K v42 h41)) (
 bnd (eqI v30 (.int .i64 10)) fun b43 =>
 ifV (.bool b43) (
 Lfp (fun (s44 : Nat → Value) h45 again46 =>
 bnd (binV .geq (s44 3) (.int .i64 0)) fun v47 =>
 ifV v47 (
 bnd (faV 2 (s44 1)) fun v48 =>
 bnd (ldV 1 false v48 h45) fun v49 =>
 bnd (binV .leq (s44 3) v49) fun v50 =>
 ifV v50 (
 S89_j1 s44 (s44 0) (s44 1) (s44 2) (s44 3) (s44 4) h45 K again46) (
 T Tryz.prog 101 [(s44 4)] h45 fun v51 h52 =>
 bnd (stV 2 (s44 2) v51 h52) fun h53 =>
 bnd (ldV 2 true (s44 2) h53) fun v54 =>
 K v54 h53)) (
 T Tryz.prog 101 [(s44 4)] h45 fun v55 h56 =>
 bnd (stV 2 (s44 2) v55 h56) fun h57 =>
 bnd (ldV 2 true (s44 2) h57) fun v58 =>
 K v58 h57)) (tup [a0, v1, v3, v27, (.int .i64 0)]) h28) (
 bnd (eqI v30 (.int .i64 6)) fun b59 =>
 ifV (.bool b59) (
 bnd (faV 1 v1) fun v60 =>
 bnd (ldV 1 false v60 h28) fun v61 =>
 bnd (eqI v27 v61) fun b62 =>
 ifV (.bool b62) (
 T Tryz.prog 102 [(.int .i64 1)] h28 fun v63 h64 =>
 bnd (stV 2 v3 v63 h64) fun h65 =>
 bnd (ldV 2 true v3 h65) fun v66 =>
 K v66 h65) (
 bnd (faV 1 v1) fun v67 =>
 bnd (ldV 1 false v67 h28) fun v68 =>
 T Tryz.prog 106 [a0, v25, v68, (.int .i64 0)] h28 fun v69 h70 =>
 bnd (faV 3 v1) fun v71 =>
 bnd (ldV 1 false v71 h70) fun v72 =>
 bnd (eqI v72 (.int .i64 1)) fun b73 =>
 ifV (.bool b73) (
 bnd (faV 1 v1) fun v74 =>
 bnd (ldV 1 false v74 h70) fun v75 =>
 T Tryz.prog 106 [a0, v21, v75, (.int .i64 1)] h70 fun v76 h77 =>
 bnd (faV 1 v1) fun v78 =>
 bnd (ldV 1 false v78 h77) fun v79 =>
 T Tryz.prog 101 [v79] h77 fun v80 h81 =>
 bnd (stV 2 v3 v80 h81) fun h82 =>
 bnd (ldV 2 true v3 h82) fun v83 =>
 K v83 h82) (
 bnd (faV 1 v1) fun v84 =>
 bnd (ldV 1 false v84 h70) fun v85 =>
 T Tryz.prog 101 [v85] h70 fun v86 h87 =>
 bnd (stV 2 v3 v86 h87) fun h88 =>
 bnd (ldV 2 true v3 h88) fun v89 =>
 K v89 h88))) (
 bnd (faV 1 v1) fun v90 =>
 bnd (ldV 1 false v90 h28) fun v91 =>
 bnd (eqI v27 v91) fun b92 =>
 ifV (.bool (!b92)) (
 T Tryz.prog 102 [(.int .i64 2)] h28 fun v93 h94 =>
 bnd (stV 2 v3 v93 h94) fun h95 =>
 bnd (ldV 2 true v3 h95) fun v96 =>
 K v96 h95) (
 bnd (faV 1 v1) fun v97 =>
 bnd (ldV 1 false v97 h28) fun v98 =>
 T Tryz.prog 107 [a0, v25, v98, (.int .i64 0)] h28 fun v99 h100 =>
 bnd (faV 1 v1) fun v101 =>
 bnd (ldV 1 false v101 h100) fun v102 =>
 T Tryz.prog 104 [a0, v21, (.int .i64 1)] h100 fun v103 h104 =>
 ldV 1 false v101 h104 = some v102 ∧
 bnd (eqI v103 v102) fun b105 =>
 ifV (.bool b105) (
 bnd (faV 1 v1) fun v106 =>
 bnd (ldV 1 false v106 h104) fun v107 =>
 T Tryz.prog 107 [a0, v21, v107, (.int .i64 1)] h104 fun v108 h109 =>
 bnd (faV 1 v1) fun v110 =>
 bnd (ldV 1 false v110 h109) fun v111 =>
 T Tryz.prog 101 [v111] h109 fun v112 h113 =>
 bnd (stV 2 v3 v112 h113) fun h114 =>
 bnd (ldV 2 true v3 h114) fun v115 =>
 K v115 h114) (
 bnd (faV 1 v1) fun v116 =>
 bnd (ldV 1 false v116 h104) fun v117 =>
 T Tryz.prog 101 [v117] h104 fun v118 h119 =>
 bnd (stV 2 v3 v118 h119) fun h120 =>
 bnd (ldV 2 true v3 h120) fun v121 =>
 K v121 h120))))))
def A89 : Ann := ⟨fun | 30 => ([0, 1, 3, 4, 2, 5], [0, 0, 3, 0, 8, 31]) | _ => ([], []), fun | 1 => [0, 3, 4, 8, 9] | _ => []⟩
theorem S89_T {a0 a1 : Value} {h : GH} {K : Value → GH → Prop} (g : S89 a0 a1 h K) : T Tryz.prog 89 [a0, a1] h K :=
  T_of_gwp (A := A89) Tryz.func89 (c := bodyOf Tryz.f89) (by kernel_rfl) (by kernel_rfl) (by kernel_rfl) (by kernel_rfl) (by kernel_rfl) (Eq.mp (by kernel_rfl) g)

/-! ### (pawl/word.Value).number (90) -/
def S90 (a0 : Value) (h : GH) (K : Value → GH → Prop) : Prop :=
 bnd (binV .mul a0 (.int .i64 4)) fun v1 =>
 bnd (binV .add v1 (.int .i64 0)) fun v2 =>
 K v2 h
def A90 : Ann := ⟨fun _ => ([], []), fun _ => []⟩
theorem S90_T {a0 : Value} {h : GH} {K : Value → GH → Prop} (g : S90 a0 h K) : T Tryz.prog 90 [a0] h K :=
  T_of_gwp (A := A90) Tryz.func90 (c := bodyOf Tryz.f90) (by kernel_rfl) (by kernel_rfl) (by kernel_rfl) (by kernel_rfl) (by kernel_rfl) (Eq.mp (by kernel_rfl) g)

/-! ### (pawl/skip.list).link (91) -/
def S91 (a0 a1 a2 : Value) (h : GH) (K : Value → GH → Prop) : Prop :=
 newV 148 (a0 : Value).cells.toList h fun v1 h2 =>
 bnd (faV 0 v1) fun v3 =>
 bnd (ldV 1 false v3 h2) fun v4 =>
 T Tryz.prog 109 [a1, a2] h2 fun v5 h6 =>
 ldV 1 false v3 h6 = some v4 ∧
 T Tryz.prog 108 [v4, v5] h6 fun v7 h8 =>
 K v7 h8
def A91 : Ann := ⟨fun | 1 => ([0, 1, 2, 3, 4, 5, 6], [0, 1, 0, 0, 12, 31, 63]) | _ => ([], []), fun _ => []⟩
theorem S91_T {a0 a1 a2 : Value} {h : GH} {K : Value → GH → Prop} (g : S91 a0 a1 a2 h K) : T Tryz.prog 91 [a0, a1, a2] h K :=
  T_of_gwp (A := A91) Tryz.func91 (c := bodyOf Tryz.f91) (by kernel_rfl) (by kernel_rfl) (by kernel_rfl) (by kernel_rfl) (by kernel_rfl) (Eq.mp (by kernel_rfl) g)

/-! ### (pawl/skip.list).put (92) -/
def S92 (a0 a1 a2 a3 : Value) (h : GH) (K : Value → GH → Prop) : Prop :=
 newV 148 (a0 : Value).cells.toList h fun v1 h2 =>
 bnd (ldV 1 true v1 h2) fun v3 =>
 T Tryz.prog 91 [v3, a1, a3] h2 fun v4 h5 =>
 bnd (ldV 1 true v1 h5) fun v6 =>
 bnd (ldV 1 true v1 h5) fun v7 =>
 T Tryz.prog 91 [v7, a2, a3] h5 fun v8 h9 =>
 ldV 1 true v1 h9 = some v6 ∧
 T Tryz.prog 110 [v6, a1, a3, v8] h9 fun v10 h11 =>
 bnd (ldV 1 true v1 h11) fun v12 =>
 bnd (binV .add a1 (.int .i64 1)) fun v13 =>
 T Tryz.prog 110 [v12, a2, a3, v13] h11 fun v14 h15 =>
 K (.tuple #[]) h15
def A92 : Ann := ⟨fun | 2 => ([0, 1, 2, 3, 4, 5, 6, 7], [0, 0, 0, 0, 0, 0, 56, 127]) | _ => ([], []), fun _ => []⟩
theorem S92_T {a0 a1 a2 a3 : Value} {h : GH} {K : Value → GH → Prop} (g : S92 a0 a1 a2 a3 h K) : T Tryz.prog 92 [a0, a1, a2, a3] h K :=
  T_of_gwp (A := A92) Tryz.func92 (c := bodyOf Tryz.f92) (by kernel_rfl) (by kernel_rfl) (by kernel_rfl) (by kernel_rfl) (by kernel_rfl) (Eq.mp (by kernel_rfl) g)

/-! ### (pawl/skip.list).drop (93) -/
def S93 (a0 a1 a2 a3 : Value) (h : GH) (K : Value → GH → Prop) : Prop :=
 newV 148 (a0 : Value).cells.toList h fun v1 h2 =>
 bnd (ldV 1 true v1 h2) fun v3 =>
 bnd (ldV 1 true v1 h2) fun v4 =>
 T Tryz.prog 91 [v4, a1, a3] h2 fun v5 h6 =>
 ldV 1 true v1 h6 = some v3 ∧
 T Tryz.prog 110 [v3, a2, a3, v5] h6 fun v7 h8 =>
 bnd (ldV 1 true v1 h8) fun v9 =>
 T Tryz.prog 110 [v9, a1, a3, (.int .i64 0)] h8 fun v10 h11 =>
 K (.tuple #[]) h11
def A93 : Ann := ⟨fun | 1 => ([0, 1, 2, 3, 4, 5, 6, 7], [0, 0, 0, 0, 0, 0, 56, 127]) | _ => ([], []), fun _ => []⟩
theorem S93_T {a0 a1 a2 a3 : Value} {h : GH} {K : Value → GH → Prop} (g : S93 a0 a1 a2 a3 h K) : T Tryz.prog 93 [a0, a1, a2, a3] h K :=
  T_of_gwp (A := A93) Tryz.func93 (c := bodyOf Tryz.f93) (by kernel_rfl) (by kernel_rfl) (by kernel_rfl) (by kernel_rfl) (by kernel_rfl) (Eq.mp (by kernel_rfl) g)

/-! ### (pawl/skip.list).before (94) -/
def S94 (a0 a1 a2 a3 : Value) (h : GH) (K : Value → GH → Prop) : Prop :=
 newV 148 (a0 : Value).cells.toList h fun v1 h2 =>
 bnd (ldV 1 true v1 h2) fun v3 =>
 T Tryz.prog 68 [v3, a2, a3] h2 fun v4 h5 =>
 Lfp (fun (s6 : Nat → Value) h7 again8 =>
 bnd (eqI (s6 4) (.int .i64 (-1))) fun b9 =>
 ifV (.bool (!b9)) (
 bnd (binV .lss (s6 4) (s6 0)) fun v10 =>
 ifV v10 (
 bnd (ldV 1 true (s6 3) h7) fun v11 =>
 T Tryz.prog 68 [v11, (s6 4), (s6 2)] h7 fun v12 h13 =>
 again8 (tup [(s6 0), (s6 4), (s6 2), (s6 3), v12]) h13) (
 K (s6 1) h7)) (
 K (s6 1) h7)) (tup [a1, a2, a3, v1, v4]) h5
def A94 : Ann := ⟨fun _ => ([], []), fun | 0 => [1, 2, 3, 4, 9] | _ => []⟩
theorem S94_T {a0 a1 a2 a3 : Value} {h : GH} {K : Value → GH → Prop} (g : S94 a0 a1 a2 a3 h K) : T Tryz.prog 94 [a0, a1, a2, a3] h K :=
  T_of_gwp (A := A94) Tryz.func94 (c := bodyOf Tryz.f94) (by kernel_rfl) (by kernel_rfl) (by kernel_rfl) (by kernel_rfl) (by kernel_rfl) (Eq.mp (by kernel_rfl) g)

/-! ### pawl/bank.at (95) -/
def S95 (a0 a1 : Value) (h : GH) (K : Value → GH → Prop) : Prop :=
 T Tryz.prog 108 [a0, a1] h fun v1 h2 =>
 bnd (binV .gtr v1 (.int .i64 0)) fun v3 =>
 bnd (binV .sub v1 (.int .i64 1)) fun v4 =>
 bnd (fillV [(.pointer none), (.int .i64 0), (.bool false), (.int .i64 0)] [(0, 1, a0), (1, 1, a1), (2, 1, v3), (3, 1, v4)]) fun c5 =>
 newV 191 ((.agg c5.toArray) : Value).cells.toList h2 fun v6 h7 =>
 K v6 h7
def A95 : Ann := ⟨fun _ => ([], []), fun _ => []⟩
theorem S95_T {a0 a1 : Value} {h : GH} {K : Value → GH → Prop} (g : S95 a0 a1 h K) : T Tryz.prog 95 [a0, a1] h K :=
  T_of_gwp (A := A95) Tryz.func95 (c := bodyOf Tryz.f95) (by kernel_rfl) (by kernel_rfl) (by kernel_rfl) (by kernel_rfl) (by kernel_rfl) (Eq.mp (by kernel_rfl) g)

/-! ### pawl/bank.code (96) -/
def S96 (a0 : Value) (h : GH) (K : Value → GH → Prop) : Prop :=
 newV 55 [(.int .i64 0), (.int .i64 0)] h fun v1 h2 =>
 bnd (fillV [(.int .i64 0), (.int .i64 0)] [(0, 1, a0)]) fun c3 =>
 bnd (stV 2 v1 (.agg c3.toArray) h2) fun h4 =>
 bnd (ldV 2 true v1 h4) fun v5 =>
 K v5 h4
def A96 : Ann := ⟨fun _ => ([], []), fun _ => []⟩
theorem S96_T {a0 : Value} {h : GH} {K : Value → GH → Prop} (g : S96 a0 h K) : T Tryz.prog 96 [a0] h K :=
  T_of_gwp (A := A96) Tryz.func96 (c := bodyOf Tryz.f96) (by kernel_rfl) (by kernel_rfl) (by kernel_rfl) (by kernel_rfl) (by kernel_rfl) (Eq.mp (by kernel_rfl) g)

/-! ### (*pawl/bank.account).has (97) -/
def S97 (a0 a1 : Value) (h : GH) (K : Value → GH → Prop) : Prop :=
 newV 55 [(.int .i64 0), (.int .i64 0)] h fun v1 h2 =>
 bnd (ncV a0) fun v3 =>
 bnd (faV 0 v3) fun v4 =>
 bnd (ldV 1 false v4 h2) fun v5 =>
 bnd (ncV a0) fun v6 =>
 bnd (faV 1 v6) fun v7 =>
 bnd (ldV 1 false v7 h2) fun v8 =>
 bnd (binV .add a1 (.int .i64 1)) fun v9 =>
 T Tryz.prog 98 [v5, v8, v9] h2 fun v10 h11 =>
 T Tryz.prog 99 [a1] h11 fun v12 h13 =>
 bnd (stV 2 v1 v12 h13) fun h14 =>
 bnd (ldV 2 true v1 h14) fun v15 =>
 K v15 h14
def A97 : Ann := ⟨fun | 1 => ([0, 1, 2, 3, 4, 5, 6, 7, 8, 9, 10], [0, 1, 3, 7, 0, 16, 48, 112, 0, 256, 1023]) | _ => ([], []), fun _ => []⟩
theorem S97_T {a0 a1 : Value} {h : GH} {K : Value → GH → Prop} (g : S97 a0 a1 h K) : T Tryz.prog 97 [a0, a1] h K :=
  T_of_gwp (A := A97) Tryz.func97 (c := bodyOf Tryz.f97) (by kernel_rfl) (by kernel_rfl) (by kernel_rfl) (by kernel_rfl) (by kernel_rfl) (Eq.mp (by kernel_rfl) g)

/-! ### (*pawl/cells.Walk).Set (98) -/
def S98 (a0 a1 a2 : Value) (h : GH) (K : Value → GH → Prop) : Prop :=
 bnd (ncV a0) fun v1 =>
 bnd (faV 48 v1) fun v2 =>
 bnd (ldV 1 false v2 h) fun v3 =>
 bnd (eqK .iface true v3 .nilIface) fun b4 =>
 ifV (.bool b4) (
 bnd (ncV a0) fun v5 =>
 bnd (faV 0 v5) fun v6 =>
 bnd (faV 32 v6) fun v7 =>
 bnd (iaV 16 1 v7 a1) fun v8 =>
 bnd (stV 1 v8 a2 h) fun h9 =>
 K (.tuple #[]) h9) (
 K (.tuple #[]) h)
def A98 : Ann := ⟨fun _ => ([], []), fun _ => []⟩
theorem S98_T {a0 a1 a2 : Value} {h : GH} {K : Value → GH → Prop} (g : S98 a0 a1 a2 h K) : T Tryz.prog 98 [a0, a1, a2] h K :=
  T_of_gwp (A := A98) Tryz.func98 (c := bodyOf Tryz.f98) (by kernel_rfl) (by kernel_rfl) (by kernel_rfl) (by kernel_rfl) (by kernel_rfl) (Eq.mp (by kernel_rfl) g)

/-! ### pawl/bank.done (99) -/
def S99 (a0 : Value) (h : GH) (K : Value → GH → Prop) : Prop :=
 newV 55 [(.int .i64 0), (.int .i64 0)] h fun v1 h2 =>
 bnd (fillV [(.int .i64 0), (.int .i64 0)] [(0, 1, (.int .i64 0)), (1, 1, a0)]) fun c3 =>
 bnd (stV 2 v1 (.agg c3.toArray) h2) fun h4 =>
 bnd (ldV 2 true v1 h4) fun v5 =>
 K v5 h4
def A99 : Ann := ⟨fun _ => ([], []), fun _ => []⟩
theorem S99_T {a0 : Value} {h : GH} {K : Value → GH → Prop} (g : S99 a0 h K) : T Tryz.prog 99 [a0] h K :=
  T_of_gwp (A := A99) Tryz.func99 (c := bodyOf Tryz.f99) (by kernel_rfl) (by kernel_rfl) (by kernel_rfl) (by kernel_rfl) (by kernel_rfl) (Eq.mp (by kernel_rfl) g)

/-! ### (*pawl/pawlref1.walk).get (100) -/
def S100 (a0 a1 : Value) (h : GH) (K : Value → GH → Prop) : Prop :=
 bnd (ncV a0) fun v1 =>
 bnd (faV 48 v1) fun v2 =>
 bnd (ldV 1 false v2 h) fun v3 =>
 bnd (binV .geq v3 (.int .i64 0)) fun v4 =>
 ifV v4 (
 K (.int .i64 0) h) (
 bnd (ncV a0) fun v5 =>
 bnd (faV 0 v5) fun v6 =>
 bnd (faV 0 v6) fun v7 =>
 bnd (iaV 16 1 v7 a1) fun v8 =>
 bnd (ldV 1 false v8 h) fun v9 =>
 bnd (unV .not v9) fun v10 =>
 ifV v10 (
 bnd (ncV a0) fun v11 =>
 bnd (faV 48 v11) fun v12 =>
 bnd (stV 1 v12 a1 h) fun h13 =>
 K (.int .i64 0) h13) (
 bnd (ncV a0) fun v14 =>
 bnd (faV 0 v14) fun v15 =>
 bnd (faV 32 v15) fun v16 =>
 bnd (iaV 16 1 v16 a1) fun v17 =>
 bnd (ldV 1 false v17 h) fun v18 =>
 K v18 h))
def A100 : Ann := ⟨fun _ => ([], []), fun _ => []⟩
theorem S100_T {a0 a1 : Value} {h : GH} {K : Value → GH → Prop} (g : S100 a0 a1 h K) : T Tryz.prog 100 [a0, a1] h K :=
  T_of_gwp (A := A100) Tryz.func100 (c := bodyOf Tryz.f100) (by kernel_rfl) (by kernel_rfl) (by kernel_rfl) (by kernel_rfl) (by kernel_rfl) (Eq.mp (by kernel_rfl) g)

/-! ### pawl/pawlref1.done (101) -/
def S101 (a0 : Value) (h : GH) (K : Value → GH → Prop) : Prop :=
 newV 55 [(.int .i64 0), (.int .i64 0)] h fun v1 h2 =>
 bnd (fillV [(.int .i64 0), (.int .i64 0)] [(0, 1, (.int .i64 0)), (1, 1, a0)]) fun c3 =>
 bnd (stV 2 v1 (.agg c3.toArray) h2) fun h4 =>
 bnd (ldV 2 true v1 h4) fun v5 =>
 K v5 h4
def A101 : Ann := ⟨fun _ => ([], []), fun _ => []⟩
theorem S101_T {a0 : Value} {h : GH} {K : Value → GH → Prop} (g : S101 a0 h K) : T Tryz.prog 101 [a0] h K :=
  T_of_gwp (A := A101) Tryz.func101 (c := bodyOf Tryz.f101) (by kernel_rfl) (by kernel_rfl) (by kernel_rfl) (by kernel_rfl) (by kernel_rfl) (Eq.mp (by kernel_rfl) g)

/-! ### pawl/pawlref1.code (102) -/
def S102 (a0 : Value) (h : GH) (K : Value → GH → Prop) : Prop :=
 newV 55 [(.int .i64 0), (.int .i64 0)] h fun v1 h2 =>
 bnd (fillV [(.int .i64 0), (.int .i64 0)] [(0, 1, a0)]) fun c3 =>
 bnd (stV 2 v1 (.agg c3.toArray) h2) fun h4 =>
 bnd (ldV 2 true v1 h4) fun v5 =>
 K v5 h4
def A102 : Ann := ⟨fun _ => ([], []), fun _ => []⟩
theorem S102_T {a0 : Value} {h : GH} {K : Value → GH → Prop} (g : S102 a0 h K) : T Tryz.prog 102 [a0] h K :=
  T_of_gwp (A := A102) Tryz.func102 (c := bodyOf Tryz.f102) (by kernel_rfl) (by kernel_rfl) (by kernel_rfl) (by kernel_rfl) (by kernel_rfl) (Eq.mp (by kernel_rfl) g)

/-! ### (*pawl/pawlref1.walk).set (103) -/
def S103 (a0 a1 a2 : Value) (h : GH) (K : Value → GH → Prop) : Prop :=
 bnd (ncV a0) fun v1 =>
 bnd (faV 48 v1) fun v2 =>
 bnd (ldV 1 false v2 h) fun v3 =>
 bnd (binV .lss v3 (.int .i64 0)) fun v4 =>
 ifV v4 (
 bnd (ncV a0) fun v5 =>
 bnd (faV 0 v5) fun v6 =>
 bnd (faV 32 v6) fun v7 =>
 bnd (iaV 16 1 v7 a1) fun v8 =>
 bnd (stV 1 v8 a2 h) fun h9 =>
 K (.tuple #[]) h9) (
 K (.tuple #[]) h)
def A103 : Ann := ⟨fun _ => ([], []), fun _ => []⟩
theorem S103_T {a0 a1 a2 : Value} {h : GH} {K : Value → GH → Prop} (g : S103 a0 a1 a2 h K) : T Tryz.prog 103 [a0, a1, a2] h K :=
  T_of_gwp (A := A103) Tryz.func103 (c := bodyOf Tryz.f103) (by kernel_rfl) (by kernel_rfl) (by kernel_rfl) (by kernel_rfl) (by kernel_rfl) (Eq.mp (by kernel_rfl) g)

/-! ### (*pawl/pawlref1.walk).next (104) -/
def S104 (a0 a1 a2 : Value) (h : GH) (K : Value → GH → Prop) : Prop :=
 T Tryz.prog 111 [a1, a2] h fun v1 h2 =>
 T Tryz.prog 100 [a0, v1] h2 fun v3 h4 =>
 bnd (binV .sub v3 (.int .i64 1)) fun v5 =>
 bnd (binV .leq v5 a1) fun v6 =>
 ifV v6 (
 K (.int .i64 (-1)) h4) (
 bnd (binV .geq v5 (.int .i64 5)) fun v7 =>
 ifV v7 (
 K (.int .i64 (-1)) h4) (
 K v5 h4))
def A104 : Ann := ⟨fun _ => ([], []), fun _ => []⟩
theorem S104_T {a0 a1 a2 : Value} {h : GH} {K : Value → GH → Prop} (g : S104 a0 a1 a2 h K) : T Tryz.prog 104 [a0, a1, a2] h K :=
  T_of_gwp (A := A104) Tryz.func104 (c := bodyOf Tryz.f104) (by kernel_rfl) (by kernel_rfl) (by kernel_rfl) (by kernel_rfl) (by kernel_rfl) (Eq.mp (by kernel_rfl) g)

/-! ### (*pawl/pawlref1.walk).before (105) -/
def S105 (a0 a1 a2 a3 : Value) (h : GH) (K : Value → GH → Prop) : Prop :=
 Lfp (fun (s1 : Nat → Value) h2 again3 =>
 T Tryz.prog 104 [(s1 0), (s1 1), (s1 3)] h2 fun v4 h5 =>
 bnd (binV .lss v4 (.int .i64 0)) fun v6 =>
 ifV v6 (
 K (s1 1) h5) (
 bnd (binV .geq v4 (s1 2)) fun v7 =>
 ifV v7 (
 K (s1 1) h5) (
 again3 (tup [(s1 0), v4, (s1 2), (s1 3)]) h5))) (tup [a0, a1, a2, a3]) h
def A105 : Ann := ⟨fun _ => ([], []), fun | 0 => [0, 1, 2, 3] | _ => []⟩
theorem S105_T {a0 a1 a2 a3 : Value} {h : GH} {K : Value → GH → Prop} (g : S105 a0 a1 a2 a3 h K) : T Tryz.prog 105 [a0, a1, a2, a3] h K :=
  T_of_gwp (A := A105) Tryz.func105 (c := bodyOf Tryz.f105) (by kernel_rfl) (by kernel_rfl) (by kernel_rfl) (by kernel_rfl) (by kernel_rfl) (Eq.mp (by kernel_rfl) g)

/-! ### (*pawl/pawlref1.walk).put (106) -/
def S106 (a0 a1 a2 a3 : Value) (h : GH) (K : Value → GH → Prop) : Prop :=
 T Tryz.prog 111 [a2, a3] h fun v1 h2 =>
 T Tryz.prog 100 [a0, v1] h2 fun v3 h4 =>
 T Tryz.prog 111 [a2, a3] h4 fun v5 h6 =>
 T Tryz.prog 111 [a1, a3] h6 fun v7 h8 =>
 T Tryz.prog 100 [a0, v7] h8 fun v9 h10 =>
 T Tryz.prog 103 [a0, v5, v9] h10 fun v11 h12 =>
 T Tryz.prog 111 [a1, a3] h12 fun v13 h14 =>
 bnd (binV .add a2 (.int .i64 1)) fun v15 =>
 T Tryz.prog 103 [a0, v13, v15] h14 fun v16 h17 =>
 K (.tuple #[]) h17
def A106 : Ann := ⟨fun _ => ([], []), fun _ => []⟩
theorem S106_T {a0 a1 a2 a3 : Value} {h : GH} {K : Value → GH → Prop} (g : S106 a0 a1 a2 a3 h K) : T Tryz.prog 106 [a0, a1, a2, a3] h K :=
  T_of_gwp (A := A106) Tryz.func106 (c := bodyOf Tryz.f106) (by kernel_rfl) (by kernel_rfl) (by kernel_rfl) (by kernel_rfl) (by kernel_rfl) (Eq.mp (by kernel_rfl) g)

/-! ### (*pawl/pawlref1.walk).drop (107) -/
def S107 (a0 a1 a2 a3 : Value) (h : GH) (K : Value → GH → Prop) : Prop :=
 T Tryz.prog 111 [a1, a3] h fun v1 h2 =>
 T Tryz.prog 111 [a2, a3] h2 fun v3 h4 =>
 T Tryz.prog 100 [a0, v3] h4 fun v5 h6 =>
 T Tryz.prog 103 [a0, v1, v5] h6 fun v7 h8 =>
 T Tryz.prog 111 [a2, a3] h8 fun v9 h10 =>
 T Tryz.prog 103 [a0, v9, (.int .i64 0)] h10 fun v11 h12 =>
 K (.tuple #[]) h12
def A107 : Ann := ⟨fun _ => ([], []), fun _ => []⟩
theorem S107_T {a0 a1 a2 a3 : Value} {h : GH} {K : Value → GH → Prop} (g : S107 a0 a1 a2 a3 h K) : T Tryz.prog 107 [a0, a1, a2, a3] h K :=
  T_of_gwp (A := A107) Tryz.func107 (c := bodyOf Tryz.f107) (by kernel_rfl) (by kernel_rfl) (by kernel_rfl) (by kernel_rfl) (by kernel_rfl) (Eq.mp (by kernel_rfl) g)

/-! ### (*pawl/cells.Walk).Get (108) -/
def S108 (a0 a1 : Value) (h : GH) (K : Value → GH → Prop) : Prop :=
 bnd (ncV a0) fun v1 =>
 bnd (faV 48 v1) fun v2 =>
 bnd (ldV 1 false v2 h) fun v3 =>
 bnd (eqK .iface true v3 .nilIface) fun b4 =>
 ifV (.bool (!b4)) (
 K (.int .i64 0) h) (
 bnd (ncV a0) fun v5 =>
 bnd (faV 0 v5) fun v6 =>
 bnd (faV 0 v6) fun v7 =>
 bnd (iaV 16 1 v7 a1) fun v8 =>
 bnd (ldV 1 false v8 h) fun v9 =>
 bnd (unV .not v9) fun v10 =>
 ifV v10 (
 bnd (ncV a0) fun v11 =>
 bnd (faV 48 v11) fun v12 =>
 bnd (stV 1 v12 (.iface 182 a1) h) fun h13 =>
 K (.int .i64 0) h13) (
 bnd (ncV a0) fun v14 =>
 bnd (faV 0 v14) fun v15 =>
 bnd (faV 32 v15) fun v16 =>
 bnd (iaV 16 1 v16 a1) fun v17 =>
 bnd (ldV 1 false v17 h) fun v18 =>
 K v18 h))
def A108 : Ann := ⟨fun _ => ([], []), fun _ => []⟩
theorem S108_T {a0 a1 : Value} {h : GH} {K : Value → GH → Prop} (g : S108 a0 a1 h K) : T Tryz.prog 108 [a0, a1] h K :=
  T_of_gwp (A := A108) Tryz.func108 (c := bodyOf Tryz.f108) (by kernel_rfl) (by kernel_rfl) (by kernel_rfl) (by kernel_rfl) (by kernel_rfl) (Eq.mp (by kernel_rfl) g)

/-! ### pawl/cells.At (109) -/
def S109 (a0 a1 : Value) (h : GH) (K : Value → GH → Prop) : Prop :=
 bnd (binV .sub a0 (.int .i64 (-1))) fun v1 =>
 bnd (binV .mul (.int .i64 2) v1) fun v2 =>
 bnd (binV .add (.int .i64 4) v2) fun v3 =>
 bnd (binV .add v3 a1) fun v4 =>
 K v4 h
def A109 : Ann := ⟨fun _ => ([], []), fun _ => []⟩
theorem S109_T {a0 a1 : Value} {h : GH} {K : Value → GH → Prop} (g : S109 a0 a1 h K) : T Tryz.prog 109 [a0, a1] h K :=
  T_of_gwp (A := A109) Tryz.func109 (c := bodyOf Tryz.f109) (by kernel_rfl) (by kernel_rfl) (by kernel_rfl) (by kernel_rfl) (by kernel_rfl) (Eq.mp (by kernel_rfl) g)

/-! ### (pawl/skip.list).lead (110) -/
def S110 (a0 a1 a2 a3 : Value) (h : GH) (K : Value → GH → Prop) : Prop :=
 newV 148 (a0 : Value).cells.toList h fun v1 h2 =>
 bnd (faV 0 v1) fun v3 =>
 bnd (ldV 1 false v3 h2) fun v4 =>
 T Tryz.prog 109 [a1, a2] h2 fun v5 h6 =>
 ldV 1 false v3 h6 = some v4 ∧
 T Tryz.prog 98 [v4, v5, a3] h6 fun v7 h8 =>
 K (.tuple #[]) h8
def A110 : Ann := ⟨fun | 1 => ([0, 1, 2, 3, 5, 4, 6], [0, 1, 0, 0, 12, 0, 63]) | _ => ([], []), fun _ => []⟩
theorem S110_T {a0 a1 a2 a3 : Value} {h : GH} {K : Value → GH → Prop} (g : S110 a0 a1 a2 a3 h K) : T Tryz.prog 110 [a0, a1, a2, a3] h K :=
  T_of_gwp (A := A110) Tryz.func110 (c := bodyOf Tryz.f110) (by kernel_rfl) (by kernel_rfl) (by kernel_rfl) (by kernel_rfl) (by kernel_rfl) (Eq.mp (by kernel_rfl) g)

/-! ### pawl/pawlref1.Link (111) -/
def S111 (a0 a1 : Value) (h : GH) (K : Value → GH → Prop) : Prop :=
 bnd (binV .lss a0 (.int .i64 0)) fun v1 =>
 ifV v1 (
 bnd (binV .add (.int .i64 4) a1) fun v2 =>
 K v2 h) (
 bnd (binV .mul (.int .i64 2) a0) fun v3 =>
 bnd (binV .add (.int .i64 6) v3) fun v4 =>
 bnd (binV .add v4 a1) fun v5 =>
 K v5 h)
def A111 : Ann := ⟨fun _ => ([], []), fun _ => []⟩
theorem S111_T {a0 a1 : Value} {h : GH} {K : Value → GH → Prop} (g : S111 a0 a1 h K) : T Tryz.prog 111 [a0, a1] h K :=
  T_of_gwp (A := A111) Tryz.func111 (c := bodyOf Tryz.f111) (by kernel_rfl) (by kernel_rfl) (by kernel_rfl) (by kernel_rfl) (by kernel_rfl) (Eq.mp (by kernel_rfl) g)
end Go.Proofs.YtlmafbdhhneokaaGreat
