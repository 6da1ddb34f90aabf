/- Several texts in one; nothing here is a statement on the program. -/
import Derived.Test.YtfphpafkhljncaaGreatQA2
import Derived.Test.YtfphpafkhljncaaGreatProg
import Derived.KernelRfl
namespace Go.Proofs.YtfphpafkhljncaaGreat
open Go GW Go.Proofs
set_option linter.unusedVariables false
set_option maxRecDepth 100000

def S178 (a0 : Value) (h : GH) (K : Value → GH → Prop) : Prop :=
 T Tryz.prog 136 [a0] h fun v1 h2 =>
 bnd (exV v1 0) fun v3 =>
 bnd (exV v1 1) fun v4 =>
 ifV v4 (
 bnd (binV .lss v3 (.int .i64 1073741823)) fun v5 =>
 K (.tuple #[v3, v5]) h2) (
 K (.tuple #[v3, (.bool false)]) h2)
def A178 : Ann := ⟨fun _ => ([], []), fun _ => []⟩
theorem S178_T {a0 : Value} {h : GH} {K : Value → GH → Prop} (g : S178 a0 h K) : T Tryz.prog 178 [a0] h K :=
  T_of_gwp (A := A178) Tryz.func178 (c := bodyOf Tryz.f178) (by kernel_rfl) (by kernel_rfl) (by kernel_rfl) (by kernel_rfl) (by kernel_rfl) (Eq.mp (by kernel_rfl) g)

def S179 (a0 a1 : Value) (h : GH) (K : Value → GH → Prop) : Prop :=
 bnd (lnV a0) fun v1 =>
 Lfp (fun (s2 : Nat → Value) h3 again4 =>
 bnd (binV .lss (s2 3) (s2 2)) fun v5 =>
 ifV v5 (
 bnd (isV 2 (s2 0) (s2 3)) fun v6 =>
 bnd (ldV 2 true v6 h3) fun v7 =>
 callV Tryz.prog (s2 1) [v7] h3 fun v8 h9 =>
 ifV v8 (
 K (s2 3) h9) (
 bnd (binV .add (s2 3) (.int .i64 1)) fun v10 =>
 again4 (tup [(s2 0), (s2 1), (s2 2), v10]) h9)) (
 K (.int .i64 (-1)) h3)) (tup [a0, a1, v1, (.int .i64 0)]) h
def A179 : Ann := ⟨fun _ => ([], []), fun | 0 => [0, 1, 7, 8] | _ => []⟩
theorem S179_T {a0 a1 : Value} {h : GH} {K : Value → GH → Prop} (g : S179 a0 a1 h K) : T Tryz.prog 179 [a0, a1] h K :=
  T_of_gwp (A := A179) Tryz.func179 (c := bodyOf Tryz.f179) (by kernel_rfl) (by kernel_rfl) (by kernel_rfl) (by kernel_rfl) (by kernel_rfl) (Eq.mp (by kernel_rfl) g)

def S180 (a0 a1 : Value) (h : GH) (K : Value → GH → Prop) : Prop :=
 bnd (ncV a0) fun v1 =>
 bnd (faV 0 v1) fun v2 =>
 bnd (ldV 1 false v2 h) fun v3 =>
 bnd (ncV a0) fun v4 =>
 bnd (faV 2 v4) fun v5 =>
 bnd (ldV 1 false v5 h) fun v6 =>
 bnd (ncV v6) fun v7 =>
 bnd (iaV 12 1 v7 a1) fun v8 =>
 bnd (ldV 1 false v8 h) fun v9 =>
 bnd (binV .add v9 (.int .i64 1)) fun v10 =>
 bnd (ncV v6) fun v11 =>
 bnd (iaV 12 1 v11 a1) fun v12 =>
 bnd (stV 1 v12 v10 h) fun h13 =>
 bnd (ncV v3) fun v14 =>
 bnd (faV 14 v14) fun v15 =>
 bnd (stV 1 v15 a1 h13) fun h16 =>
 bnd (ncV v3) fun v17 =>
 bnd (faV 0 v17) fun v18 =>
 bnd (ldV 1 false v18 h16) fun v19 =>
 bnd (ncV v3) fun v20 =>
 bnd (faV 10 v20) fun v21 =>
 bnd (ldV 1 false v21 h16) fun v22 =>
 bnd (ncV a0) fun v23 =>
 bnd (faV 2 v23) fun v24 =>
 bnd (ldV 1 false v24 h16) fun v25 =>
 bnd (ncV v25) fun v26 =>
 bnd (iaV 12 1 v26 a1) fun v27 =>
 bnd (ldV 1 false v27 h16) fun v28 =>
 bnd (ncV v3) fun v29 =>
 bnd (faV 4 v29) fun v30 =>
 bnd (ldV 1 false v30 h16) fun v31 =>
 T Tryz.prog 139 [v3] h16 fun v32 h33 =>
 ldV 1 false v30 h33 = some v31 ∧
 ldV 1 false v27 h33 = some v28 ∧
 ldV 1 false v24 h33 = some v25 ∧
 ldV 1 false v21 h33 = some v22 ∧
 ldV 1 false v18 h33 = some v19 ∧
 bnd (ncV v32) fun v34 =>
 bnd (faV 1 v34) fun v35 =>
 bnd (ldV 1 false v35 h33) fun v36 =>
 bnd (isV 1 v31 v36) fun v37 =>
 bnd (faV 0 v37) fun v38 =>
 bnd (ldV 1 false v38 h33) fun v39 =>
 T Tryz.prog 200 [v19, v22, a1, v28, v39] h33 fun v40 h41 =>
 bnd (exV v40 0) fun v42 =>
 bnd (exV v40 1) fun v43 =>
 bnd (ncV v3) fun v44 =>
 bnd (faV 18 v44) fun v45 =>
 bnd (stV 1 v45 v42 h41) fun h46 =>
 bnd (ncV v3) fun v47 =>
 bnd (faV 6 v47) fun v48 =>
 bnd (stV 1 v48 (.func (.func 181) #[] #[]) h46) fun h49 =>
 K (.tuple #[]) h49
def A180 : Ann := ⟨fun | 1 => ([0, 1, 2, 3, 4, 5, 6, 7, 8, 9, 10, 11], [0, 1, 3, 7, 0, 15, 63, 127, 255, 15, 1023, 2047]) | 3 => ([0, 1, 2, 3, 4, 5, 6, 7, 8, 9, 10, 11, 12, 13, 14, 15, 16, 17, 18, 19, 20, 21, 22, 23, 24, 25, 26, 27, 28, 29, 30, 31, 32, 33, 34, 35, 36], [0, 0, 2, 6, 14, 0, 32, 96, 224, 0, 0, 1024, 3072, 7168, 0, 15360, 64512, 130048, 0, 262144, 786432, 1835008, 0, 4194304, 12582912, 29360128, 62914560, 133955584, 268173312, 536608768, 1073741822, 2147483646, 4294967294, 4294967294, 8589934591, 25769803775, 60129542143]) | _ => ([], []), fun _ => []⟩
theorem S180_T {a0 a1 : Value} {h : GH} {K : Value → GH → Prop} (g : S180 a0 a1 h K) : T Tryz.prog 180 [a0, a1] h K :=
  T_of_gwp (A := A180) Tryz.func180 (c := bodyOf Tryz.f180) (by kernel_rfl) (by kernel_rfl) (by kernel_rfl) (by kernel_rfl) (by kernel_rfl) (Eq.mp (by kernel_rfl) g)

def S181 (a0 : Value) (h : GH) (K : Value → GH → Prop) : Prop :=
 bnd (ncV a0) fun v1 =>
 bnd (faV 0 v1) fun v2 =>
 bnd (ldV 1 false v2 h) fun v3 =>
 bnd (ncV v3) fun v4 =>
 bnd (faV 18 v4) fun v5 =>
 bnd (ldV 1 false v5 h) fun v6 =>
 bnd (eqK .ptr true v6 (.pointer none)) fun b7 =>
 ifV (.bool b7) (
 K (.int .i64 1800) h) (
 bnd (ncV v3) fun v8 =>
 bnd (faV 18 v8) fun v9 =>
 bnd (ldV 1 false v9 h) fun v10 =>
 bnd (ncV a0) fun v11 =>
 bnd (faV 1 v11) fun v12 =>
 bnd (ldV 1 false v12 h) fun v13 =>
 T Tryz.prog 201 [v10, v13] h fun v14 h15 =>
 bnd (exV v14 0) fun v16 =>
 bnd (exV v14 1) fun v17 =>
 bnd (ncV v3) fun v18 =>
 bnd (faV 18 v18) fun v19 =>
 bnd (ldV 1 false v19 h15) fun v20 =>
 T Tryz.prog 202 [v20] h15 fun v21 h22 =>
 bnd (exV v21 0) fun v23 =>
 bnd (exV v21 1) fun v24 =>
 bnd (ncV v3) fun v25 =>
 bnd (faV 21 v25) fun v26 =>
 bnd (faV 0 v26) fun v27 =>
 bnd (stV 1 v27 v23 h22) fun h28 =>
 bnd (ncV v3) fun v29 =>
 bnd (faV 21 v29) fun v30 =>
 bnd (faV 1 v30) fun v31 =>
 bnd (stV 1 v31 v24 h28) fun h32 =>
 bnd (ncV v3) fun v33 =>
 bnd (faV 18 v33) fun v34 =>
 bnd (ldV 1 false v34 h32) fun v35 =>
 T Tryz.prog 203 [v35] h32 fun v36 h37 =>
 bnd (ncV v3) fun v38 =>
 bnd (faV 10 v38) fun v39 =>
 bnd (stV 1 v39 v36 h37) fun h40 =>
 ifV v16 (
 bnd (ncV v3) fun v41 =>
 bnd (faV 6 v41) fun v42 =>
 bnd (stV 1 v42 (.func (.func 204) #[] #[]) h40) fun h43 =>
 K v17 h43) (
 K v17 h40))
def A181 : Ann := ⟨fun | 4 => ([0, 1, 2, 3, 4, 5, 6, 7, 8, 9, 10, 11, 12, 13], [0, 1, 3, 7, 0, 16, 48, 112, 255, 511, 1023, 1023, 2047, 8191]) | _ => ([], []), fun _ => []⟩
theorem S181_T {a0 : Value} {h : GH} {K : Value → GH → Prop} (g : S181 a0 h K) : T Tryz.prog 181 [a0] h K :=
  T_of_gwp (A := A181) Tryz.func181 (c := bodyOf Tryz.f181) (by kernel_rfl) (by kernel_rfl) (by kernel_rfl) (by kernel_rfl) (by kernel_rfl) (Eq.mp (by kernel_rfl) g)

def S182 (h : GH) (K : Value → GH → Prop) : Prop :=
 bnd (fillV [(.int .i64 0), (.int .i64 0), (.int .i64 0), (.int .i64 0), (.bool false), (.int .i64 0), (.int .i64 0)] [(6, 1, (.int .i64 (-1)))]) fun c1 =>
 newV 290 ((.agg c1.toArray) : Value).cells.toList h fun v2 h3 =>
 K v2 h3
def A182 : Ann := ⟨fun _ => ([], []), fun _ => []⟩
theorem S182_T {h : GH} {K : Value → GH → Prop} (g : S182 h K) : T Tryz.prog 182 [] h K :=
  T_of_gwp (A := A182) Tryz.func182 (c := bodyOf Tryz.f182) (by kernel_rfl) (by kernel_rfl) (by kernel_rfl) (by kernel_rfl) (by kernel_rfl) (Eq.mp (by kernel_rfl) g)

def S183 (a0 a1 : Value) (h : GH) (K : Value → GH → Prop) : Prop :=
 newV 129 (a0 : Value).cells.toList h fun v1 h2 =>
 newV 34 (a1 : Value).cells.toList h2 fun v3 h4 =>
 bnd (ldV 1 false v1 h4) fun v5 =>
 bnd (eqK .ptr true v5 (.pointer none)) fun b6 =>
 ifV (.bool b6) (
 K (.tuple #[(.bool false), (.int .i64 1)]) h4) (
 bnd (ldV 1 false v1 h4) fun v7 =>
 bnd (ncV v7) fun v8 =>
 bnd (faV 0 v8) fun v9 =>
 bnd (ldV 1 false v3 h4) fun v10 =>
 T Tryz.prog 186 [v9, v10, (.func (.func 205) #[] #[v1, v3])] h4 fun v11 h12 =>
 bnd (exV v11 0) fun v13 =>
 bnd (exV v11 1) fun v14 =>
 K (.tuple #[v13, v14]) h12)
def A183 : Ann := ⟨fun | 3 => ([0, 1, 2, 3, 4, 5, 6, 7, 8, 9], [0, 1, 3, 0, 0, 31, 63, 63, 255, 511]) | _ => ([], []), fun _ => []⟩
theorem S183_T {a0 a1 : Value} {h : GH} {K : Value → GH → Prop} (g : S183 a0 a1 h K) : T Tryz.prog 183 [a0, a1] h K :=
  T_of_gwp (A := A183) Tryz.func183 (c := bodyOf Tryz.f183) (by kernel_rfl) (by kernel_rfl) (by kernel_rfl) (by kernel_rfl) (by kernel_rfl) (Eq.mp (by kernel_rfl) g)

def S184 (a0 : Value) (h : GH) (K : Value → GH → Prop) : Prop :=
 bnd (eqK .ptr true a0 (.pointer none)) fun b1 =>
 ifV (.bool b1) (
 K (.int .i64 0) h) (
 bnd (ncV a0) fun v2 =>
 bnd (faV 6 v2) fun v3 =>
 bnd (ldV 1 false v3 h) fun v4 =>
 K v4 h)
def A184 : Ann := ⟨fun _ => ([], []), fun _ => []⟩
theorem S184_T {a0 : Value} {h : GH} {K : Value → GH → Prop} (g : S184 a0 h K) : T Tryz.prog 184 [a0] h K :=
  T_of_gwp (A := A184) Tryz.func184 (c := bodyOf Tryz.f184) (by kernel_rfl) (by kernel_rfl) (by kernel_rfl) (by kernel_rfl) (by kernel_rfl) (Eq.mp (by kernel_rfl) g)

def S185 (a0 : Value) (h : GH) (K : Value → GH → Prop) : Prop :=
 bnd (ncV a0) fun v1 =>
 bnd (faV 0 v1) fun v2 =>
 bnd (ldV 1 false v2 h) fun v3 =>
 bnd (ncV v3) fun v4 =>
 bnd (faV 1 v4) fun v5 =>
 bnd (ldV 1 false v5 h) fun v6 =>
 T Tryz.prog 206 [v6] h fun v7 h8 =>
 bnd (exV v7 0) fun v9 =>
 bnd (exV v7 1) fun v10 =>
 bnd (ncV v3) fun v11 =>
 bnd (faV 19 v11) fun v12 =>
 bnd (stV 1 v12 v9 h8) fun h13 =>
 bnd (ncV v3) fun v14 =>
 bnd (faV 6 v14) fun v15 =>
 bnd (stV 1 v15 (.func (.func 207) #[] #[]) h13) fun h16 =>
 bnd (ncV a0) fun v17 =>
 bnd (faV 1 v17) fun v18 =>
 bnd (ldV 1 false v18 h16) fun v19 =>
 bnd (ncV v3) fun v20 =>
 bnd (faV 0 v20) fun v21 =>
 bnd (ldV 1 false v21 h16) fun v22 =>
 T Tryz.prog 208 [v19, v22] h16 fun v23 h24 =>
 K v23 h24
def A185 : Ann := ⟨fun | 4 => ([0, 1, 2, 3, 4, 5, 6, 7, 8, 9], [0, 1, 3, 7, 0, 16, 48, 112, 255, 511]) | _ => ([], []), fun _ => []⟩
theorem S185_T {a0 : Value} {h : GH} {K : Value → GH → Prop} (g : S185 a0 h K) : T Tryz.prog 185 [a0] h K :=
  T_of_gwp (A := A185) Tryz.func185 (c := bodyOf Tryz.f185) (by kernel_rfl) (by kernel_rfl) (by kernel_rfl) (by kernel_rfl) (by kernel_rfl) (Eq.mp (by kernel_rfl) g)

def S186 (a0 a1 a2 : Value) (h : GH) (K : Value → GH → Prop) : Prop :=
 bnd (eqK .ptr true a1 (.pointer none)) fun b1 =>
 ifV (.bool b1) (
 K (.tuple #[(.bool false), (.int .i64 1)]) h) (
 bnd (ncV a0) fun v2 =>
 bnd (faV 4 v2) fun v3 =>
 bnd (ldV 1 false v3 h) fun v4 =>
 ifV v4 (
 K (.tuple #[(.bool true), (.int .i64 0)]) h) (
 callV Tryz.prog a2 [] h fun v5 h6 =>
 bnd (ncV a0) fun v7 =>
 bnd (faV 4 v7) fun v8 =>
 bnd (ldV 1 false v8 h6) fun v9 =>
 ifV v9 (
 bnd (ncV a0) fun v10 =>
 bnd (faV 4 v10) fun v11 =>
 bnd (stV 1 v11 (.bool true) h6) fun h12 =>
 bnd (ncV a0) fun v13 =>
 bnd (faV 4 v13) fun v14 =>
 bnd (ldV 1 false v14 h12) fun v15 =>
 K (.tuple #[v15, v5]) h12) (
 bnd (eqI v5 (.int .i64 0)) fun b16 =>
 bnd (ncV a0) fun v17 =>
 bnd (faV 4 v17) fun v18 =>
 bnd (stV 1 v18 (.bool (!b16)) h6) fun h19 =>
 bnd (ncV a0) fun v20 =>
 bnd (faV 4 v20) fun v21 =>
 bnd (ldV 1 false v21 h19) fun v22 =>
 K (.tuple #[v22, v5]) h19)))
def A186 : Ann := ⟨fun _ => ([], []), fun _ => []⟩
theorem S186_T {a0 a1 a2 : Value} {h : GH} {K : Value → GH → Prop} (g : S186 a0 a1 a2 h K) : T Tryz.prog 186 [a0, a1, a2] h K :=
  T_of_gwp (A := A186) Tryz.func186 (c := bodyOf Tryz.f186) (by kernel_rfl) (by kernel_rfl) (by kernel_rfl) (by kernel_rfl) (by kernel_rfl) (Eq.mp (by kernel_rfl) g)

def S187 (a0 a1 : Value) (h : GH) (K : Value → GH → Prop) : Prop :=
 bnd (ldV 1 false a0 h) fun v1 =>
 bnd (ncV v1) fun v2 =>
 bnd (faV 0 v2) fun v3 =>
 bnd (faV 0 v3) fun v4 =>
 bnd (ldV 1 false v4 h) fun v5 =>
 bnd (eqI v5 (.int .i64 0)) fun b6 =>
 ifV (.bool b6) (
 bnd (ldV 1 false a0 h) fun v7 =>
 bnd (ncV v7) fun v8 =>
 bnd (faV 0 v8) fun v9 =>
 bnd (ldV 1 false a1 h) fun v10 =>
 T Tryz.prog 188 [v9, v10] h fun v11 h12 =>
 bnd (unV .not v11) fun v13 =>
 ifV v13 (
 K (.int .i64 1000) h12) (
 K (.int .i64 0) h12)) (
 bnd (eqI v5 (.int .i64 1)) fun b14 =>
 ifV (.bool b14) (
 bnd (ldV 1 false a1 h) fun v15 =>
 bnd (ldV 1 false a0 h) fun v16 =>
 bnd (ncV v16) fun v17 =>
 bnd (faV 5 v17) fun v18 =>
 bnd (ldV 1 false v18 h) fun v19 =>
 bnd (binV .add (.int .i64 17) v19) fun v20 =>
 bnd (ldV 1 false a0 h) fun v21 =>
 bnd (ncV v21) fun v22 =>
 bnd (faV 0 v22) fun v23 =>
 bnd (faV 2 v23) fun v24 =>
 bnd (faV 1 v24) fun v25 =>
 bnd (ldV 1 false v25 h) fun v26 =>
 T Tryz.prog 78 [v26] h fun v27 h28 =>
 ldV 1 false v18 h28 = some v19 ∧
 ldV 1 false a0 h28 = some v16 ∧
 ldV 1 false a1 h28 = some v15 ∧
 T Tryz.prog 35 [v15, v20, v27] h28 fun v29 h30 =>
 bnd (ldV 1 false a0 h30) fun v31 =>
 bnd (ncV v31) fun v32 =>
 bnd (faV 0 v32) fun v33 =>
 bnd (faV 0 v33) fun v34 =>
 bnd (stV 1 v34 (.int .i64 2) h30) fun h35 =>
 K (.int .i64 0) h35) (
 bnd (ldV 1 false a0 h) fun v36 =>
 bnd (ldV 1 false a0 h) fun v37 =>
 bnd (ncV v37) fun v38 =>
 bnd (faV 0 v38) fun v39 =>
 bnd (ldV 1 false a1 h) fun v40 =>
 bnd (ldV 1 false a0 h) fun v41 =>
 bnd (ncV v41) fun v42 =>
 bnd (faV 5 v42) fun v43 =>
 bnd (ldV 1 false v43 h) fun v44 =>
 bnd (binV .add v44 (.int .i64 1)) fun v45 =>
 T Tryz.prog 189 [v39, v40, v45] h fun v46 h47 =>
 ldV 1 false a0 h47 = some v36 ∧
 bnd (ncV v36) fun v48 =>
 bnd (faV 0 v48) fun v49 =>
 bnd (faV 4 v49) fun v50 =>
 bnd (stV 1 v50 v46 h47) fun h51 =>
 K (.int .i64 0) h51))
def A187 : Ann := ⟨fun | 2 => ([0, 1, 2, 3, 4, 5, 6, 7, 8, 9, 10, 11, 12, 13, 14], [0, 0, 2, 6, 0, 0, 32, 96, 224, 480, 1022, 2047, 4095, 8191, 16383]) | 4 => ([0, 1, 2, 3, 4, 5], [0, 1, 3, 0, 15, 31]) | 7 => ([0, 1, 2, 3, 4, 5, 6, 7, 8, 9, 10, 11, 12, 13], [0, 0, 2, 6, 14, 30, 0, 64, 192, 448, 960, 1984, 4032, 8191]) | _ => ([], []), fun _ => []⟩
theorem S187_T {a0 a1 : Value} {h : GH} {K : Value → GH → Prop} (g : S187 a0 a1 h K) : T Tryz.prog 187 [a0, a1] h K :=
  T_of_gwp (A := A187) Tryz.func187 (c := bodyOf Tryz.f187) (by kernel_rfl) (by kernel_rfl) (by kernel_rfl) (by kernel_rfl) (by kernel_rfl) (Eq.mp (by kernel_rfl) g)

def S188 (a0 a1 : Value) (h : GH) (K : Value → GH → Prop) : Prop :=
 T Tryz.prog 39 [a1, (.int .i64 16)] h fun v1 h2 =>
 bnd (exV v1 0) fun v3 =>
 bnd (exV v1 1) fun v4 =>
 bnd (ncV a0) fun v5 =>
 bnd (faV 1 v5) fun v6 =>
 bnd (stV 1 v6 v3 h2) fun h7 =>
 bnd (ncV a0) fun v8 =>
 bnd (faV 1 v8) fun v9 =>
 bnd (ldV 1 false v9 h7) fun v10 =>
 T Tryz.prog 123 [v10] h7 fun v11 h12 =>
 bnd (exV v11 0) fun v13 =>
 bnd (exV v11 1) fun v14 =>
 newV 190 [(.int .i64 0), (.int .i64 0)] h12 fun v15 h16 =>
 bnd (stV 2 v15 v13 h16) fun h17 =>
 bnd (ldV 2 true v15 h17) fun v18 =>
 bnd (ncV a0) fun v19 =>
 bnd (faV 2 v19) fun v20 =>
 bnd (stV 2 v20 v18 h17) fun h21 =>
 bnd (ncV a0) fun v22 =>
 bnd (faV 0 v22) fun v23 =>
 bnd (stV 1 v23 (.int .i64 1) h21) fun h24 =>
 K v14 h24
def A188 : Ann := ⟨fun _ => ([], []), fun _ => []⟩
theorem S188_T {a0 a1 : Value} {h : GH} {K : Value → GH → Prop} (g : S188 a0 a1 h K) : T Tryz.prog 188 [a0, a1] h K :=
  T_of_gwp (A := A188) Tryz.func188 (c := bodyOf Tryz.f188) (by kernel_rfl) (by kernel_rfl) (by kernel_rfl) (by kernel_rfl) (by kernel_rfl) (Eq.mp (by kernel_rfl) g)

def S189 (a0 a1 a2 : Value) (h : GH) (K : Value → GH → Prop) : Prop :=
 bnd (ncV a0) fun v1 =>
 bnd (faV 1 v1) fun v2 =>
 bnd (ldV 1 false v2 h) fun v3 =>
 bnd (ncV a0) fun v4 =>
 bnd (faV 2 v4) fun v5 =>
 bnd (ldV 2 true v5 h) fun v6 =>
 T Tryz.prog 210 [v6, a2] h fun v7 h8 =>
 ldV 1 false v2 h8 = some v3 ∧
 T Tryz.prog 209 [a1, (.int .i64 16), v3, v7] h8 fun v9 h10 =>
 bnd (exV v9 0) fun v11 =>
 bnd (exV v9 1) fun v12 =>
 bnd (ncV a0) fun v13 =>
 bnd (faV 0 v13) fun v14 =>
 bnd (stV 1 v14 (.int .i64 0) h10) fun h15 =>
 bnd (ncV a0) fun v16 =>
 bnd (faV 1 v16) fun v17 =>
 bnd (ldV 1 false v17 h15) fun v18 =>
 bnd (eqI v11 v18) fun b19 =>
 K (.bool b19) h15
def A189 : Ann := ⟨fun | 1 => ([0, 1, 2, 3, 4, 5, 6, 7, 8, 9, 10, 11, 12, 13, 14, 15, 16], [0, 0, 2, 6, 14, 0, 32, 96, 224, 0, 992, 2047, 4095, 8191, 8191, 16383, 65535]) | _ => ([], []), fun _ => []⟩
theorem S189_T {a0 a1 a2 : Value} {h : GH} {K : Value → GH → Prop} (g : S189 a0 a1 a2 h K) : T Tryz.prog 189 [a0, a1, a2] h K :=
  T_of_gwp (A := A189) Tryz.func189 (c := bodyOf Tryz.f189) (by kernel_rfl) (by kernel_rfl) (by kernel_rfl) (by kernel_rfl) (by kernel_rfl) (Eq.mp (by kernel_rfl) g)

def S190 (a0 : Value) (h : GH) (K : Value → GH → Prop) : Prop :=
 newV 133 [(.int .i64 0), (.int .i64 0)] h fun v1 h2 =>
 bnd (binV .rem a0 (.int .i64 16)) fun v3 =>
 bnd (binV .quo a0 (.int .i64 16)) fun v4 =>
 bnd (fillV [(.int .i64 0), (.int .i64 0)] [(0, 1, v3), (1, 1, v4)]) fun c5 =>
 bnd (stV 2 v1 (.agg c5.toArray) h2) fun h6 =>
 bnd (ldV 2 true v1 h6) fun v7 =>
 K v7 h6
def A190 : Ann := ⟨fun _ => ([], []), fun _ => []⟩
theorem S190_T {a0 : Value} {h : GH} {K : Value → GH → Prop} (g : S190 a0 h K) : T Tryz.prog 190 [a0] h K :=
  T_of_gwp (A := A190) Tryz.func190 (c := bodyOf Tryz.f190) (by kernel_rfl) (by kernel_rfl) (by kernel_rfl) (by kernel_rfl) (by kernel_rfl) (Eq.mp (by kernel_rfl) g)

def S191 (a0 : Value) (h : GH) (K : Value → GH → Prop) : Prop :=
 ivV Tryz.prog a0 "pawl/word.plain" [] h fun v1 h2 =>
 newV 225 [(.int .i64 0), (.int .i64 0), (.int .i64 0), (.int .i64 0), (.int .i64 0), (.int .i64 0), (.int .i64 0)] h2 fun v3 h4 =>
 bnd (stV 7 v3 v1 h4) fun h5 =>
 bnd (faV 1 v3) fun v6 =>
 bnd (ldV 1 false v6 h5) fun v7 =>
 T Tryz.prog 75 [v7, (.int .i64 1099511627776)] h5 fun v8 h9 =>
 ifV v8 (
 bnd (faV 2 v3) fun v10 =>
 bnd (ldV 1 false v10 h9) fun v11 =>
 T Tryz.prog 75 [v11, (.int .i64 12)] h9 fun v12 h13 =>
 ifV v12 (
 bnd (faV 3 v3) fun v14 =>
 bnd (ldV 1 false v14 h13) fun v15 =>
 T Tryz.prog 75 [v15, (.int .i64 65536)] h13 fun v16 h17 =>
 ifV v16 (
 bnd (faV 4 v3) fun v18 =>
 bnd (ldV 1 false v18 h17) fun v19 =>
 T Tryz.prog 75 [v19, (.int .i64 16)] h17 fun v20 h21 =>
 ifV v20 (
 bnd (faV 5 v3) fun v22 =>
 bnd (ldV 1 false v22 h21) fun v23 =>
 T Tryz.prog 75 [v23, (.int .i64 4)] h21 fun v24 h25 =>
 ifV v24 (
 bnd (faV 6 v3) fun v26 =>
 bnd (ldV 1 false v26 h25) fun v27 =>
 T Tryz.prog 75 [v27, (.int .i64 1048576)] h25 fun v28 h29 =>
 K v28 h29) (
 K (.bool false) h25)) (
 K (.bool false) h21)) (
 K (.bool false) h17)) (
 K (.bool false) h13)) (
 K (.bool false) h9)
def A191 : Ann := ⟨fun _ => ([], []), fun _ => []⟩
theorem S191_T {a0 : Value} {h : GH} {K : Value → GH → Prop} (g : S191 a0 h K) : T Tryz.prog 191 [a0] h K :=
  T_of_gwp (A := A191) Tryz.func191 (c := bodyOf Tryz.f191) (by kernel_rfl) (by kernel_rfl) (by kernel_rfl) (by kernel_rfl) (by kernel_rfl) (Eq.mp (by kernel_rfl) g)

def S200_j1 (x0 x1 x2 x3 x4 x12 : Value) (h : GH) (K : Value → GH → Prop)  : Prop :=
 bnd (fillV [(.int .i64 0), (.int .i64 0)] [(0, 1, x2), (1, 1, x3)]) fun c1 =>
 bnd (ldV 50 true x12 h) fun v2 =>
 T Tryz.prog 77 [x4] h fun v3 h4 =>
 ldV 50 true x12 h4 = some v2 ∧
 bnd (fillV ([(.int .i64 0), (.int .i64 0), (.int .i64 0), (.int .i64 0), (.slice none 0 0), (.int .i64 0)] ++ List.replicate 16 (.bool false) ++ List.replicate 32 (.int .i64 0) ++ [(.slice none 0 0), .nilIface, (.int .i64 0), (.int .i64 0), (.bool false), (.bool false), (.slice none 0 0)]) [(0, 1, x0), (1, 1, x1), (2, 2, (.agg c1.toArray)), (4, 1, v3), (5, 50, v2), (56, 1, (.int .i64 (-1)))]) fun c5 =>
 newV 322 ((.agg c5.toArray) : Value).cells.toList h4 fun v6 h7 =>
 T Tryz.prog 222 [v6] h7 fun v8 h9 =>
 bnd (ncV v6) fun v10 =>
 bnd (faV 55 v10) fun v11 =>
 bnd (stV 1 v11 v8 h9) fun h12 =>
 K (.tuple #[v6, (.int .i64 0)]) h12
def S200 (a0 a1 a2 a3 a4 : Value) (h : GH) (K : Value → GH → Prop) : Prop :=
 bnd (fillV (List.replicate 16 (.bool false) ++ List.replicate 32 (.int .i64 0)) []) fun c1 =>
 T Tryz.prog 220 [(.agg c1.toArray), a4] h fun v2 h3 =>
 bnd (exV v2 0) fun v4 =>
 bnd (exV v2 1) fun v5 =>
 newV 298 ([(.int .i64 0)] ++ List.replicate 16 (.bool false) ++ List.replicate 32 (.int .i64 0) ++ [(.slice none 0 0)]) h3 fun v6 h7 =>
 bnd (stV 50 v6 v4 h7) fun h8 =>
 T Tryz.prog 131 [a0] h8 fun v9 h10 =>
 bnd (unV .not v9) fun v11 =>
 ifV v11 (
 K (.tuple #[(.pointer none), (.int .i64 1700)]) h10) (
 T Tryz.prog 75 [a1, (.int .i64 1048576)] h10 fun v12 h13 =>
 bnd (unV .not v12) fun v14 =>
 ifV v14 (
 K (.tuple #[(.pointer none), (.int .i64 1700)]) h13) (
 T Tryz.prog 221 [a2, a3] h13 fun v15 h16 =>
 bnd (unV .not v15) fun v17 =>
 ifV v17 (
 K (.tuple #[(.pointer none), (.int .i64 1700)]) h16) (
 bnd (eqI v5 (.int .i64 0)) fun b18 =>
 ifV (.bool (!b18)) (
 K (.tuple #[(.pointer none), (.int .i64 1700)]) h16) (
 S200_j1 a0 a1 a2 a3 a4 v6 h16 K ))))
def A200 : Ann := ⟨fun | 4 => ([0, 1, 2, 3, 4, 5, 7, 6, 8, 9, 10], [0, 0, 0, 0, 12, 0, 32, 0, 255, 511, 1023]) | _ => ([], []), fun _ => []⟩
theorem S200_T {a0 a1 a2 a3 a4 : Value} {h : GH} {K : Value → GH → Prop} (g : S200 a0 a1 a2 a3 a4 h K) : T Tryz.prog 200 [a0, a1, a2, a3, a4] h K :=
  T_of_gwp (A := A200) Tryz.func200 (c := bodyOf Tryz.f200) (by kernel_rfl) (by kernel_rfl) (by kernel_rfl) (by kernel_rfl) (by kernel_rfl) (Eq.mp (by kernel_rfl) g)

def S201_j3 (x0 x6 x7 : Value) (h : GH) (K : Value → GH → Prop)  : Prop :=
 bnd (eqI x7 (.int .i64 0)) fun b1 =>
 ifV (.bool (!b1)) (
 bnd (ncV x0) fun v2 =>
 bnd (faV 59 v2) fun v3 =>
 bnd (stV 1 v3 (.bool true) h) fun h4 =>
 K (.tuple #[(.bool true), (.int .i64 1700)]) h4) (
 bnd (unV .not x6) fun v5 =>
 ifV v5 (
 K (.tuple #[(.bool false), (.int .i64 0)]) h) (
 bnd (ncV x0) fun v6 =>
 bnd (faV 55 v6) fun v7 =>
 bnd (ldV 1 false v7 h) fun v8 =>
 bnd (taV 327 (.pointer none) true v8) fun v9 =>
 bnd (exV v9 1) fun v10 =>
 bnd (exV v9 0) fun v11 =>
 ifV v10 (
 T Tryz.prog 223 [x0, v11] h fun v12 h13 =>
 bnd (ncV x0) fun v14 =>
 bnd (faV 59 v14) fun v15 =>
 bnd (ldV 1 false v15 h13) fun v16 =>
 K (.tuple #[v16, (.int .i64 0)]) h13) (
 bnd (taV 329 (.pointer none) true v8) fun v17 =>
 bnd (exV v17 1) fun v18 =>
 bnd (exV v17 0) fun v19 =>
 ifV v18 (
 bnd (ncV x0) fun v20 =>
 bnd (faV 0 v20) fun v21 =>
 bnd (ldV 1 false v21 h) fun v22 =>
 bnd (ncV x0) fun v23 =>
 bnd (faV 1 v23) fun v24 =>
 bnd (ldV 1 false v24 h) fun v25 =>
 bnd (ncV x0) fun v26 =>
 bnd (faV 2 v26) fun v27 =>
 bnd (ldV 2 true v27 h) fun v28 =>
 T Tryz.prog 225 [(.iface 133 v28)] h fun v29 h30 =>
 ldV 1 false v24 h30 = some v25 ∧
 ldV 1 false v21 h30 = some v22 ∧
 T Tryz.prog 224 [v22, v25, v29] h30 fun v31 h32 =>
 bnd (exV v31 0) fun v33 =>
 bnd (exV v31 1) fun v34 =>
 bnd (ncV x0) fun v35 =>
 bnd (faV 55 v35) fun v36 =>
 bnd (stV 1 v36 (.iface 330 v33) h32) fun h37 =>
 bnd (ncV x0) fun v38 =>
 bnd (faV 59 v38) fun v39 =>
 bnd (ldV 1 false v39 h37) fun v40 =>
 K (.tuple #[v40, (.int .i64 0)]) h37) (
 bnd (taV 330 (.pointer none) true v8) fun v41 =>
 bnd (exV v41 1) fun v42 =>
 bnd (exV v41 0) fun v43 =>
 ifV v42 (
 T Tryz.prog 226 [v43] h fun v44 h45 =>
 bnd (ncV x0) fun v46 =>
 bnd (faV 58 v46) fun v47 =>
 bnd (stV 1 v47 v44 h45) fun h48 =>
 bnd (ncV x0) fun v49 =>
 bnd (faV 59 v49) fun v50 =>
 bnd (stV 1 v50 (.bool true) h48) fun h51 =>
 bnd (ncV x0) fun v52 =>
 bnd (faV 59 v52) fun v53 =>
 bnd (ldV 1 false v53 h51) fun v54 =>
 K (.tuple #[v54, (.int .i64 0)]) h51) (
 bnd (ncV x0) fun v55 =>
 bnd (faV 59 v55) fun v56 =>
 bnd (ldV 1 false v56 h) fun v57 =>
 K (.tuple #[v57, (.int .i64 0)]) h)))))

def S201_j2 (x0 x1 : Value) (h : GH) (K : Value → GH → Prop)  : Prop :=
 bnd (ncV x0) fun v1 =>
 bnd (faV 55 v1) fun v2 =>
 bnd (ldV 1 false v2 h) fun v3 =>
 ivV Tryz.prog v3 "Step" [x1] h fun v4 h5 =>
 bnd (exV v4 0) fun v6 =>
 bnd (exV v4 1) fun v7 =>
 bnd (ncV x0) fun v8 =>
 bnd (faV 2 v8) fun v9 =>
 bnd (faV 0 v9) fun v10 =>
 bnd (ldV 1 false v10 h5) fun v11 =>
 bnd (ncV x0) fun v12 =>
 bnd (faV 2 v12) fun v13 =>
 bnd (faV 1 v13) fun v14 =>
 bnd (ldV 1 false v14 h5) fun v15 =>
 bnd (ncV x0) fun v16 =>
 bnd (faV 56 v16) fun v17 =>
 bnd (stV 1 v17 v11 h5) fun h18 =>
 bnd (ncV x0) fun v19 =>
 bnd (faV 57 v19) fun v20 =>
 bnd (stV 1 v20 v15 h18) fun h21 =>
 bnd (ncV x0) fun v22 =>
 bnd (faV 55 v22) fun v23 =>
 bnd (ldV 1 false v23 h21) fun v24 =>
 bnd (tiV Tryz.prog #[("Seq", 179), ("Step", 202), ("Through", 48)] .nilIface true v24) fun v25 =>
 bnd (exV v25 0) fun v26 =>
 bnd (exV v25 1) fun v27 =>
 ifV v27 (
 ivV Tryz.prog v26 "Through" [] h21 fun v28 h29 =>
 bnd (exV v28 0) fun v30 =>
 bnd (exV v28 1) fun v31 =>
 bnd (ncV x0) fun v32 =>
 bnd (faV 56 v32) fun v33 =>
 bnd (stV 1 v33 v30 h29) fun h34 =>
 bnd (ncV x0) fun v35 =>
 bnd (faV 57 v35) fun v36 =>
 bnd (stV 1 v36 v31 h34) fun h37 =>
 ivV Tryz.prog v26 "Seq" [] h37 fun v38 h39 =>
 bnd (ncV x0) fun v40 =>
 bnd (faV 1 v40) fun v41 =>
 bnd (stV 1 v41 v38 h39) fun h42 =>
 S201_j3 x0 v6 v7 h42 K ) (
 S201_j3 x0 v6 v7 h21 K )

def S201_j1 (x0 x1 x15 : Value) (h : GH) (K : Value → GH → Prop)  : Prop :=
 ifV x15 (
 K (.tuple #[(.bool false), (.int .i64 1)]) h) (
 bnd (ncV x0) fun v1 =>
 bnd (faV 59 v1) fun v2 =>
 bnd (ldV 1 false v2 h) fun v3 =>
 ifV v3 (
 K (.tuple #[(.bool true), (.int .i64 0)]) h) (
 S201_j2 x0 x1 h K ))
def S201 (a0 a1 : Value) (h : GH) (K : Value → GH → Prop) : Prop :=
 bnd (eqK .ptr true a0 (.pointer none)) fun b1 =>
 ifV (.bool b1) (
 S201_j1 a0 a1 (.bool true) h K ) (
 bnd (eqK .ptr true a1 (.pointer none)) fun b2 =>
 S201_j1 a0 a1 (.bool b2) h K )
def A201 : Ann := ⟨fun | 6 => ([0, 1, 2, 3, 4, 5, 6, 7, 8, 9, 10, 11, 12, 13, 14, 15, 16, 17], [0, 0, 0, 4, 12, 28, 60, 0, 128, 384, 896, 1920, 4093, 8189, 16381, 32767, 65535, 131071]) | 22 => ([0, 1, 2, 3, 4, 5, 6, 7, 8, 9, 10, 11, 12, 13, 14, 15, 16, 17, 18, 19], [0, 1, 3, 7, 0, 16, 48, 112, 0, 256, 768, 1792, 3840, 7936, 16383, 32767, 65535, 65535, 131071, 524287]) | _ => ([], []), fun _ => []⟩
theorem S201_T {a0 a1 : Value} {h : GH} {K : Value → GH → Prop} (g : S201 a0 a1 h K) : T Tryz.prog 201 [a0, a1] h K :=
  T_of_gwp (A := A201) Tryz.func201 (c := bodyOf Tryz.f201) (by kernel_rfl) (by kernel_rfl) (by kernel_rfl) (by kernel_rfl) (by kernel_rfl) (Eq.mp (by kernel_rfl) g)

def S202 (a0 : Value) (h : GH) (K : Value → GH → Prop) : Prop :=
 bnd (eqK .ptr true a0 (.pointer none)) fun b1 =>
 ifV (.bool b1) (
 K (.tuple #[(.int .i64 0), (.int .i64 0)]) h) (
 bnd (ncV a0) fun v2 =>
 bnd (faV 56 v2) fun v3 =>
 bnd (ldV 1 false v3 h) fun v4 =>
 bnd (ncV a0) fun v5 =>
 bnd (faV 57 v5) fun v6 =>
 bnd (ldV 1 false v6 h) fun v7 =>
 K (.tuple #[v4, v7]) h)
def A202 : Ann := ⟨fun | 3 => ([0, 1, 2, 3, 4, 5, 6, 7, 8, 9], [0, 1, 3, 7, 0, 16, 48, 112, 15, 511]) | _ => ([], []), fun _ => []⟩
theorem S202_T {a0 : Value} {h : GH} {K : Value → GH → Prop} (g : S202 a0 h K) : T Tryz.prog 202 [a0] h K :=
  T_of_gwp (A := A202) Tryz.func202 (c := bodyOf Tryz.f202) (by kernel_rfl) (by kernel_rfl) (by kernel_rfl) (by kernel_rfl) (by kernel_rfl) (Eq.mp (by kernel_rfl) g)

def S203 (a0 : Value) (h : GH) (K : Value → GH → Prop) : Prop :=
 bnd (eqK .ptr true a0 (.pointer none)) fun b1 =>
 ifV (.bool b1) (
 K (.int .i64 0) h) (
 bnd (ncV a0) fun v2 =>
 bnd (faV 1 v2) fun v3 =>
 bnd (ldV 1 false v3 h) fun v4 =>
 K v4 h)
def A203 : Ann := ⟨fun _ => ([], []), fun _ => []⟩
theorem S203_T {a0 : Value} {h : GH} {K : Value → GH → Prop} (g : S203 a0 h K) : T Tryz.prog 203 [a0] h K :=
  T_of_gwp (A := A203) Tryz.func203 (c := bodyOf Tryz.f203) (by kernel_rfl) (by kernel_rfl) (by kernel_rfl) (by kernel_rfl) (by kernel_rfl) (Eq.mp (by kernel_rfl) g)

def S204 (a0 : Value) (h : GH) (K : Value → GH → Prop) : Prop :=
 bnd (ncV a0) fun v1 =>
 bnd (faV 0 v1) fun v2 =>
 bnd (ldV 1 false v2 h) fun v3 =>
 bnd (ncV a0) fun v4 =>
 bnd (faV 1 v4) fun v5 =>
 bnd (ldV 1 false v5 h) fun v6 =>
 T Tryz.prog 39 [v6, (.int .i64 29)] h fun v7 h8 =>
 bnd (exV v7 0) fun v9 =>
 bnd (exV v7 1) fun v10 =>
 T Tryz.prog 178 [v9] h8 fun v11 h12 =>
 bnd (exV v11 0) fun v13 =>
 bnd (exV v11 1) fun v14 =>
 bnd (unV .not v14) fun v15 =>
 ifV v15 (
 K (.int .i64 1800) h12) (
 bnd (ncV v3) fun v16 =>
 bnd (faV 12 v16) fun v17 =>
 bnd (ldV 1 false v17 h12) fun v18 =>
 bnd (ncV v3) fun v19 =>
 bnd (faV 14 v19) fun v20 =>
 bnd (ldV 1 false v20 h12) fun v21 =>
 bnd (fillV [(.int .i64 0), (.int .i64 0)] [(0, 1, v21), (1, 1, v13)]) fun c22 =>
 bsV 220 1 [(.int .i64 0), (.int .i64 0)] [(0, 2, (.agg c22.toArray))] h12 fun v23 h24 =>
 apV 220 2 16 v18 v23 h24 fun v25 h26 =>
 bnd (ncV v3) fun v27 =>
 bnd (faV 12 v27) fun v28 =>
 bnd (stV 1 v28 v25 h26) fun h29 =>
 bnd (ncV v3) fun v30 =>
 bnd (faV 14 v30) fun v31 =>
 bnd (stV 1 v31 (.int .i64 (-1)) h29) fun h32 =>
 bnd (ncV v3) fun v33 =>
 bnd (faV 6 v33) fun v34 =>
 bnd (stV 1 v34 (.func (.func 185) #[] #[]) h32) fun h35 =>
 bnd (ncV v3) fun v36 =>
 bnd (faV 18 v36) fun v37 =>
 bnd (ldV 1 false v37 h35) fun v38 =>
 T Tryz.prog 227 [v38] h35 fun v39 h40 =>
 ifV v39 (
 bnd (ncV v3) fun v41 =>
 bnd (faV 20 v41) fun v42 =>
 bnd (stV 1 v42 (.int .i64 0) h40) fun h43 =>
 K (.int .i64 0) h43) (
 K (.int .i64 0) h40))
def A204 : Ann := ⟨fun | 6 => ([0, 1, 2, 3, 4, 5, 6, 7, 8, 9, 10, 11, 12, 13, 14, 15], [0, 0, 2, 6, 14, 0, 32, 96, 224, 0, 992, 2016, 4094, 8191, 16383, 32767]) | _ => ([], []), fun _ => []⟩
theorem S204_T {a0 : Value} {h : GH} {K : Value → GH → Prop} (g : S204 a0 h K) : T Tryz.prog 204 [a0] h K :=
  T_of_gwp (A := A204) Tryz.func204 (c := bodyOf Tryz.f204) (by kernel_rfl) (by kernel_rfl) (by kernel_rfl) (by kernel_rfl) (by kernel_rfl) (Eq.mp (by kernel_rfl) g)

def S205 (a0 a1 : Value) (h : GH) (K : Value → GH → Prop) : Prop :=
 bnd (ldV 1 false a0 h) fun v1 =>
 bnd (ncV v1) fun v2 =>
 bnd (faV 0 v2) fun v3 =>
 bnd (faV 0 v3) fun v4 =>
 bnd (ldV 1 false v4 h) fun v5 =>
 bnd (eqI v5 (.int .i64 0)) fun b6 =>
 ifV (.bool b6) (
 bnd (ldV 1 false a0 h) fun v7 =>
 bnd (ncV v7) fun v8 =>
 bnd (faV 0 v8) fun v9 =>
 bnd (ldV 1 false a1 h) fun v10 =>
 T Tryz.prog 188 [v9, v10] h fun v11 h12 =>
 bnd (ldV 1 false a0 h12) fun v13 =>
 bnd (ldV 1 false a0 h12) fun v14 =>
 bnd (ncV v14) fun v15 =>
 bnd (faV 0 v15) fun v16 =>
 bnd (faV 2 v16) fun v17 =>
 bnd (faV 1 v17) fun v18 =>
 bnd (ldV 1 false v18 h12) fun v19 =>
 bnd (eqI v19 (.int .i64 0)) fun b20 =>
 bnd (ncV v13) fun v21 =>
 bnd (faV 0 v21) fun v22 =>
 bnd (faV 4 v22) fun v23 =>
 bnd (stV 1 v23 (.bool b20) h12) fun h24 =>
 bnd (unV .not v11) fun v25 =>
 ifV v25 (
 K (.int .i64 1000) h24) (
 K (.int .i64 0) h24)) (
 bnd (eqI v5 (.int .i64 1)) fun b26 =>
 ifV (.bool b26) (
 bnd (ldV 1 false a1 h) fun v27 =>
 bnd (ldV 1 false a0 h) fun v28 =>
 bnd (ncV v28) fun v29 =>
 bnd (faV 0 v29) fun v30 =>
 bnd (faV 2 v30) fun v31 =>
 bnd (faV 1 v31) fun v32 =>
 bnd (ldV 1 false v32 h) fun v33 =>
 bnd (binV .add (.int .i64 17) v33) fun v34 =>
 bnd (binV .sub v34 (.int .i64 1)) fun v35 =>
 T Tryz.prog 39 [v27, v35] h fun v36 h37 =>
 bnd (exV v36 0) fun v38 =>
 bnd (exV v36 1) fun v39 =>
 bnd (ldV 1 false a0 h37) fun v40 =>
 T Tryz.prog 124 [v38] h37 fun v41 h42 =>
 ldV 1 false a0 h42 = some v40 ∧
 bnd (exV v41 0) fun v43 =>
 bnd (exV v41 1) fun v44 =>
 bnd (ncV v40) fun v45 =>
 bnd (faV 5 v45) fun v46 =>
 bnd (stV 1 v46 v43 h42) fun h47 =>
 bnd (ldV 1 false a0 h47) fun v48 =>
 bnd (ncV v48) fun v49 =>
 bnd (faV 0 v49) fun v50 =>
 bnd (faV 0 v50) fun v51 =>
 bnd (stV 1 v51 (.int .i64 2) h47) fun h52 =>
 bnd (unV .not v44) fun v53 =>
 ifV v53 (
 K (.int .i64 1000) h52) (
 K (.int .i64 0) h52)) (
 bnd (ldV 1 false a0 h) fun v54 =>
 bnd (ncV v54) fun v55 =>
 bnd (faV 0 v55) fun v56 =>
 bnd (ldV 1 false a1 h) fun v57 =>
 bnd (ldV 1 false a0 h) fun v58 =>
 bnd (ncV v58) fun v59 =>
 bnd (faV 5 v59) fun v60 =>
 bnd (ldV 1 false v60 h) fun v61 =>
 T Tryz.prog 189 [v56, v57, v61] h fun v62 h63 =>
 ifV v62 (
 bnd (ldV 1 false a0 h63) fun v64 =>
 bnd (ldV 1 false a0 h63) fun v65 =>
 bnd (ldV 1 false a0 h63) fun v66 =>
 bnd (ncV v66) fun v67 =>
 bnd (faV 0 v67) fun v68 =>
 bnd (faV 2 v68) fun v69 =>
 bnd (faV 1 v69) fun v70 =>
 bnd (ldV 1 false v70 h63) fun v71 =>
 bnd (binV .sub v71 (.int .i64 1)) fun v72 =>
 bnd (ncV v64) fun v73 =>
 bnd (faV 6 v73) fun v74 =>
 bnd (stV 1 v74 v72 h63) fun h75 =>
 ldV 1 false a0 h75 = some v65 ∧
 bnd (ncV v65) fun v76 =>
 bnd (faV 0 v76) fun v77 =>
 bnd (faV 4 v77) fun v78 =>
 bnd (stV 1 v78 (.bool true) h75) fun h79 =>
 bnd (unV .not (.bool true)) fun v80 =>
 ifV v80 (
 K (.int .i64 1000) h79) (
 K (.int .i64 0) h79)) (
 bnd (unV .not (.bool true)) fun v81 =>
 ifV v81 (
 K (.int .i64 1000) h63) (
 K (.int .i64 0) h63))))
def A205 : Ann := ⟨fun | 3 => ([0, 1, 2, 3, 4, 5, 6, 7, 8], [0, 1, 3, 0, 0, 16, 48, 112, 255]) | 4 => ([0, 1, 2, 3, 4, 5, 6, 7, 8, 9, 10, 11, 12, 13, 14, 15], [0, 0, 0, 4, 12, 28, 60, 124, 252, 509, 1021, 2045, 4095, 8191, 16383, 32767]) | 6 => ([0, 1, 2, 3, 4, 5], [0, 1, 3, 0, 15, 31]) | 7 => ([0, 1, 2, 3, 4, 5, 6, 7, 8, 9, 10, 11], [0, 0, 2, 6, 14, 30, 62, 126, 255, 511, 1023, 2047]) | 9 => ([0, 1, 2, 3, 4, 5, 6, 7, 8, 9, 10, 11, 12, 13, 14], [0, 0, 2, 6, 14, 30, 62, 126, 254, 511, 1023, 2047, 2047, 4095, 16383]) | 10 => ([0, 1, 2, 3, 4, 5, 6, 7, 8, 9], [0, 0, 2, 6, 14, 14, 31, 95, 223, 511]) | _ => ([], []), fun _ => []⟩
theorem S205_T {a0 a1 : Value} {h : GH} {K : Value → GH → Prop} (g : S205 a0 a1 h K) : T Tryz.prog 205 [a0, a1] h K :=
  T_of_gwp (A := A205) Tryz.func205 (c := bodyOf Tryz.f205) (by kernel_rfl) (by kernel_rfl) (by kernel_rfl) (by kernel_rfl) (by kernel_rfl) (Eq.mp (by kernel_rfl) g)

def S206 (a0 : Value) (h : GH) (K : Value → GH → Prop) : Prop :=
 bnd (binV .lss a0 (.int .i64 1)) fun v1 =>
 ifV v1 (
 K (.tuple #[(.pointer none), (.int .i64 1100)]) h) (
 bnd (binV .gtr a0 (.int .i64 4)) fun v2 =>
 ifV v2 (
 K (.tuple #[(.pointer none), (.int .i64 1100)]) h) (
 bnd (fillV [(.int .i64 0), (.int .i64 0), (.int .i64 0), (.bool false), (.bool false)] [(0, 1, a0), (1, 1, (.int .i64 (-1)))]) fun c3 =>
 newV 335 ((.agg c3.toArray) : Value).cells.toList h fun v4 h5 =>
 K (.tuple #[v4, (.int .i64 0)]) h5))
def A206 : Ann := ⟨fun _ => ([], []), fun _ => []⟩
theorem S206_T {a0 : Value} {h : GH} {K : Value → GH → Prop} (g : S206 a0 h K) : T Tryz.prog 206 [a0] h K :=
  T_of_gwp (A := A206) Tryz.func206 (c := bodyOf Tryz.f206) (by kernel_rfl) (by kernel_rfl) (by kernel_rfl) (by kernel_rfl) (by kernel_rfl) (Eq.mp (by kernel_rfl) g)

def S207_j1 (x0 x4 x24 : Value) (h : GH) (K : Value → GH → Prop)  : Prop :=
 ifV x24 (
 bnd (ncV x0) fun v1 =>
 bnd (faV 0 v1) fun v2 =>
 bnd (ldV 1 false v2 h) fun v3 =>
 bnd (ncV x0) fun v4 =>
 bnd (faV 3 v4) fun v5 =>
 bnd (ldV 1 false v5 h) fun v6 =>
 T Tryz.prog 229 [v3, v6] h fun v7 h8 =>
 K x4 h8) (
 K x4 h)
def S207 (a0 : Value) (h : GH) (K : Value → GH → Prop) : Prop :=
 bnd (ncV a0) fun v1 =>
 bnd (faV 0 v1) fun v2 =>
 bnd (ldV 1 false v2 h) fun v3 =>
 bnd (ncV v3) fun v4 =>
 bnd (faV 19 v4) fun v5 =>
 bnd (ldV 1 false v5 h) fun v6 =>
 bnd (ncV a0) fun v7 =>
 bnd (faV 1 v7) fun v8 =>
 bnd (ldV 1 false v8 h) fun v9 =>
 T Tryz.prog 228 [v6, v9] h fun v10 h11 =>
 bnd (exV v10 0) fun v12 =>
 bnd (exV v10 1) fun v13 =>
 ifV v12 (
 bnd (eqI v13 (.int .i64 0)) fun b14 =>
 S207_j1 a0 v13 (.bool b14) h11 K ) (
 S207_j1 a0 v13 (.bool false) h11 K )
def A207 : Ann := ⟨fun | 1 => ([0, 1, 2, 3, 4, 5, 6, 7, 8, 9, 10, 11, 12, 13, 14, 15, 16], [0, 1, 3, 7, 15, 31, 63, 0, 128, 384, 896, 2047, 4095, 8191, 8191, 16383, 65535]) | 3 => ([0, 1, 2, 3, 4, 5, 6, 7, 8], [0, 1, 3, 7, 0, 16, 48, 112, 255]) | _ => ([], []), fun _ => []⟩
theorem S207_T {a0 : Value} {h : GH} {K : Value → GH → Prop} (g : S207 a0 h K) : T Tryz.prog 207 [a0] h K :=
  T_of_gwp (A := A207) Tryz.func207 (c := bodyOf Tryz.f207) (by kernel_rfl) (by kernel_rfl) (by kernel_rfl) (by kernel_rfl) (by kernel_rfl) (Eq.mp (by kernel_rfl) g)

def S208 (a0 a1 : Value) (h : GH) (K : Value → GH → Prop) : Prop :=
 bnd (eqK .ptr true a0 (.pointer none)) fun b1 =>
 ifV (.bool b1) (
 K (.int .i64 1) h) (
 T Tryz.prog 131 [a1] h fun v2 h3 =>
 bnd (unV .not v2) fun v4 =>
 ifV v4 (
 K (.int .i64 1100) h3) (
 T Tryz.prog 155 [a0, a1, (.int .i64 0)] h3 fun v5 h6 =>
 K (.int .i64 0) h6))
def A208 : Ann := ⟨fun _ => ([], []), fun _ => []⟩
theorem S208_T {a0 a1 : Value} {h : GH} {K : Value → GH → Prop} (g : S208 a0 a1 h K) : T Tryz.prog 208 [a0, a1] h K :=
  T_of_gwp (A := A208) Tryz.func208 (c := bodyOf Tryz.f208) (by kernel_rfl) (by kernel_rfl) (by kernel_rfl) (by kernel_rfl) (by kernel_rfl) (Eq.mp (by kernel_rfl) g)

def S209 (a0 a1 a2 a3 : Value) (h : GH) (K : Value → GH → Prop) : Prop :=
 newV 3 (a2 : Value).cells.toList h fun v1 h2 =>
 newV 3 (a3 : Value).cells.toList h2 fun v3 h4 =>
 T Tryz.prog 82 [a0, (.int .i64 2), a1, (.func (.func 230) #[] #[v1, v3])] h4 fun v5 h6 =>
 bnd (exV v5 0) fun v7 =>
 bnd (exV v5 1) fun v8 =>
 K (.tuple #[v7, v8]) h6
def A209 : Ann := ⟨fun _ => ([], []), fun _ => []⟩
theorem S209_T {a0 a1 a2 a3 : Value} {h : GH} {K : Value → GH → Prop} (g : S209 a0 a1 a2 a3 h K) : T Tryz.prog 209 [a0, a1, a2, a3] h K :=
  T_of_gwp (A := A209) Tryz.func209 (c := bodyOf Tryz.f209) (by kernel_rfl) (by kernel_rfl) (by kernel_rfl) (by kernel_rfl) (by kernel_rfl) (Eq.mp (by kernel_rfl) g)

def S210 (a0 a1 : Value) (h : GH) (K : Value → GH → Prop) : Prop :=
 newV 190 (a0 : Value).cells.toList h fun v1 h2 =>
 bnd (faV 0 v1) fun v3 =>
 bnd (ldV 1 false v3 h2) fun v4 =>
 bnd (binV .add v4 (.int .i64 1)) fun v5 =>
 bnd (binV .rem v5 (.int .i64 1073741824)) fun v6 =>
 bnd (binV .mul v6 (.int .i64 16)) fun v7 =>
 bnd (binV .add v7 a1) fun v8 =>
 T Tryz.prog 78 [v8] h2 fun v9 h10 =>
 K v9 h10
def A210 : Ann := ⟨fun _ => ([], []), fun _ => []⟩
theorem S210_T {a0 a1 : Value} {h : GH} {K : Value → GH → Prop} (g : S210 a0 a1 h K) : T Tryz.prog 210 [a0, a1] h K :=
  T_of_gwp (A := A210) Tryz.func210 (c := bodyOf Tryz.f210) (by kernel_rfl) (by kernel_rfl) (by kernel_rfl) (by kernel_rfl) (by kernel_rfl) (Eq.mp (by kernel_rfl) g)

end Go.Proofs.YtfphpafkhljncaaGreat
namespace Go.Proofs.YtfphpafkhljncaaGreat
open Go GW Go.Proofs
set_option linter.unusedVariables false
set_option maxRecDepth 100000

def S220_j2 (s6 : Nat → Value) (x2 x4 x6 x7 x9 x10 x22 x23 x24 : Value) (h : GH) (K : Value → GH → Prop) (again8 : (Nat → Value) → GH → Prop) : Prop :=
 bnd (ldV 48 true x6 h) fun v1 =>
 bnd (ldV 4 true x9 h) fun v2 =>
 callV Tryz.prog x10 [v1, v2] h fun v3 h4 =>
 bnd (exV v3 0) fun v5 =>
 bnd (exV v3 1) fun v6 =>
 newV 298 ([(.int .i64 0)] ++ List.replicate 16 (.bool false) ++ List.replicate 32 (.int .i64 0) ++ [(.slice none 0 0)]) h4 fun v7 h8 =>
 bnd (stV 50 v7 v5 h8) fun h9 =>
 bnd (faV 0 v7) fun v10 =>
 bnd (ldV 1 false v10 h9) fun v11 =>
 bnd (binV .geq v11 (.int .i64 0)) fun v12 =>
 ifV v12 (
 bnd (faV 0 v7) fun v13 =>
 bnd (ldV 1 false v13 h9) fun v14 =>
 bnd (ldV 48 true x2 h9) fun v15 =>
 bnd (fillV ([(.int .i64 0)] ++ List.replicate 16 (.bool false) ++ List.replicate 32 (.int .i64 0) ++ [(.slice none 0 0)]) [(0, 1, v14), (1, 48, v15)]) fun c16 =>
 bnd (stV 50 x4 (.agg c16.toArray) h9) fun h17 =>
 bnd (ldV 50 true x4 h17) fun v18 =>
 K (.tuple #[v18, (.int .i64 0)]) h17) (
 bnd (faV 49 v7) fun v19 =>
 bnd (ldV 1 false v19 h9) fun v20 =>
 apV 122 2 16 x7 v20 h9 fun v21 h22 =>
 bnd (lnV v21) fun v23 =>
 bnd (binV .sub v23 (.int .i64 1)) fun v24 =>
 bnd (isV 2 v21 v24) fun v25 =>
 bnd (faV 0 v25) fun v26 =>
 bnd (ldV 1 false v26 h22) fun v27 =>
 bnd (eqI v27 (.int .i64 0)) fun b28 =>
 ifV (.bool (!b28)) (
 bnd (ldV 48 true x2 h22) fun v29 =>
 bnd (fillV ([(.int .i64 0)] ++ List.replicate 16 (.bool false) ++ List.replicate 32 (.int .i64 0) ++ [(.slice none 0 0)]) [(0, 1, (.int .i64 (-1))), (1, 48, v29), (49, 1, v21)]) fun c30 =>
 bnd (stV 50 x4 (.agg c30.toArray) h22) fun h31 =>
 bnd (ldV 50 true x4 h31) fun v32 =>
 K (.tuple #[v32, (.int .i64 0)]) h31) (
 bnd (faV 1 v7) fun v33 =>
 bnd (ldV 48 true v33 h22) fun v34 =>
 bnd (stV 48 x6 v34 h22) fun h35 =>
 bnd (binV .add x24 (.int .i64 1)) fun v36 =>
 again8 (tup [x2, x4, x6, v21, x22, x23, v36]) h35))

def S220_j1 (x1 x2 x4 : Value) (h : GH) (K : Value → GH → Prop)  : Prop :=
 bnd (ldV 48 true x2 h) fun v1 =>
 newV 255 (List.replicate 16 (.bool false) ++ List.replicate 32 (.int .i64 0)) h fun v2 h3 =>
 bnd (stV 48 v2 v1 h3) fun h4 =>
 bnd (lnV x1) fun v5 =>
 Lfp (fun (s6 : Nat → Value) h7 again8 =>
 bnd (binV .lss (s6 6) (s6 5)) fun v9 =>
 ifV v9 (
 bnd (isV 4 (s6 4) (s6 6)) fun v10 =>
 bnd (ldV 4 true v10 h7) fun v11 =>
 newV 24 [(.int .i64 0), (.int .i64 0), (.int .i64 0), (.int .i64 0)] h7 fun v12 h13 =>
 bnd (stV 4 v12 v11 h13) fun h14 =>
 bnd (faV 0 v12) fun v15 =>
 bnd (ldV 1 false v15 h14) fun v16 =>
 T Tryz.prog 110 [v16] h14 fun v17 h18 =>
 ifV v17 (
 S220_j2 s6 (s6 0) (s6 1) (s6 2) (s6 3) v12 (.func (.func 244) #[] #[]) (s6 4) (s6 5) (s6 6) h18 K again8) (
 S220_j2 s6 (s6 0) (s6 1) (s6 2) (s6 3) v12 (.func (.func 243) #[] #[]) (s6 4) (s6 5) (s6 6) h18 K again8)) (
 bnd (ldV 48 true (s6 2) h7) fun v19 =>
 bnd (fillV ([(.int .i64 0)] ++ List.replicate 16 (.bool false) ++ List.replicate 32 (.int .i64 0) ++ [(.slice none 0 0)]) [(0, 1, (.int .i64 (-1))), (1, 48, v19), (49, 1, (s6 3))]) fun c20 =>
 bnd (stV 50 (s6 1) (.agg c20.toArray) h7) fun h21 =>
 bnd (ldV 50 true (s6 1) h21) fun v22 =>
 K (.tuple #[v22, (.int .i64 0)]) h21)) (tup [x2, x4, v2, (.slice none 0 0), x1, v5, (.int .i64 0)]) h4
def S220 (a0 a1 : Value) (h : GH) (K : Value → GH → Prop) : Prop :=
 newV 255 (a0 : Value).cells.toList h fun v1 h2 =>
 newV 298 ([(.int .i64 0)] ++ List.replicate 16 (.bool false) ++ List.replicate 32 (.int .i64 0) ++ [(.slice none 0 0)]) h2 fun v3 h4 =>
 T Tryz.prog 242 [v1] h4 fun v5 h6 =>
 bnd (unV .not v5) fun v7 =>
 ifV v7 (
 bnd (fillV ([(.int .i64 0)] ++ List.replicate 16 (.bool false) ++ List.replicate 32 (.int .i64 0) ++ [(.slice none 0 0)]) []) fun c8 =>
 bnd (stV 50 v3 (.agg c8.toArray) h6) fun h9 =>
 bnd (ldV 50 true v3 h9) fun v10 =>
 K (.tuple #[v10, (.int .i64 700)]) h9) (
 T Tryz.prog 108 [a1] h6 fun v11 h12 =>
 bnd (unV .not v11) fun v13 =>
 ifV v13 (
 bnd (fillV ([(.int .i64 0)] ++ List.replicate 16 (.bool false) ++ List.replicate 32 (.int .i64 0) ++ [(.slice none 0 0)]) []) fun c14 =>
 bnd (stV 50 v3 (.agg c14.toArray) h12) fun h15 =>
 bnd (ldV 50 true v3 h15) fun v16 =>
 K (.tuple #[v16, (.int .i64 700)]) h15) (
 S220_j1 a1 v1 v3 h12 K ))
def A220 : Ann := ⟨fun _ => ([], []), fun | 0 => [2, 4, 6, 7, 22, 23, 24] | _ => []⟩
theorem S220_T {a0 a1 : Value} {h : GH} {K : Value → GH → Prop} (g : S220 a0 a1 h K) : T Tryz.prog 220 [a0, a1] h K :=
  T_of_gwp (A := A220) Tryz.func220 (c := bodyOf Tryz.f220) (by kernel_rfl) (by kernel_rfl) (by kernel_rfl) (by kernel_rfl) (by kernel_rfl) (Eq.mp (by kernel_rfl) g)

def S221 (a0 a1 : Value) (h : GH) (K : Value → GH → Prop) : Prop :=
 T Tryz.prog 75 [a0, (.int .i64 12)] h fun v1 h2 =>
 ifV v1 (
 T Tryz.prog 75 [a1, (.int .i64 65536)] h2 fun v3 h4 =>
 K v3 h4) (
 K (.bool false) h2)
def A221 : Ann := ⟨fun _ => ([], []), fun _ => []⟩
theorem S221_T {a0 a1 : Value} {h : GH} {K : Value → GH → Prop} (g : S221 a0 a1 h K) : T Tryz.prog 221 [a0, a1] h K :=
  T_of_gwp (A := A221) Tryz.func221 (c := bodyOf Tryz.f221) (by kernel_rfl) (by kernel_rfl) (by kernel_rfl) (by kernel_rfl) (by kernel_rfl) (Eq.mp (by kernel_rfl) g)

def S222 (a0 : Value) (h : GH) (K : Value → GH → Prop) : Prop :=
 bnd (ncV a0) fun v1 =>
 bnd (faV 5 v1) fun v2 =>
 bnd (faV 0 v2) fun v3 =>
 bnd (ldV 1 false v3 h) fun v4 =>
 bnd (binV .geq v4 (.int .i64 0)) fun v5 =>
 ifV v5 (
 bnd (ncV a0) fun v6 =>
 bnd (faV 0 v6) fun v7 =>
 bnd (ldV 1 false v7 h) fun v8 =>
 bnd (ncV a0) fun v9 =>
 bnd (faV 1 v9) fun v10 =>
 bnd (ldV 1 false v10 h) fun v11 =>
 bnd (ncV a0) fun v12 =>
 bnd (faV 5 v12) fun v13 =>
 bnd (faV 0 v13) fun v14 =>
 bnd (ldV 1 false v14 h) fun v15 =>
 T Tryz.prog 245 [v8, v11, v15] h fun v16 h17 =>
 bnd (exV v16 0) fun v18 =>
 bnd (exV v16 1) fun v19 =>
 K (.iface 327 v18) h17) (
 bnd (ncV a0) fun v20 =>
 bnd (faV 5 v20) fun v21 =>
 bnd (faV 49 v21) fun v22 =>
 bnd (ldV 1 false v22 h) fun v23 =>
 bnd (ncV a0) fun v24 =>
 bnd (faV 60 v24) fun v25 =>
 bnd (stV 1 v25 v23 h) fun h26 =>
 bnd (ncV a0) fun v27 =>
 bnd (faV 2 v27) fun v28 =>
 bnd (faV 0 v28) fun v29 =>
 bnd (ldV 1 false v29 h26) fun v30 =>
 bnd (ncV a0) fun v31 =>
 bnd (faV 2 v31) fun v32 =>
 bnd (faV 1 v32) fun v33 =>
 bnd (ldV 1 false v33 h26) fun v34 =>
 bnd (ncV a0) fun v35 =>
 bnd (faV 5 v35) fun v36 =>
 bnd (faV 1 v36) fun v37 =>
 bnd (ldV 48 true v37 h26) fun v38 =>
 T Tryz.prog 247 [v38] h26 fun v39 h40 =>
 ldV 1 false v33 h40 = some v34 ∧
 ldV 1 false v29 h40 = some v30 ∧
 T Tryz.prog 246 [v30, v34, v39] h40 fun v41 h42 =>
 bnd (exV v41 0) fun v43 =>
 bnd (exV v41 1) fun v44 =>
 K (.iface 329 v43) h42)
def A222 : Ann := ⟨fun | 2 => ([0, 1, 2, 3, 4, 5, 6, 7, 8, 9, 10, 11, 12, 13, 14, 15, 16, 17, 18], [0, 1, 3, 7, 0, 16, 48, 112, 0, 256, 768, 1792, 3840, 8191, 16383, 32767, 32767, 65535, 262143]) | 5 => ([0, 1, 2, 3, 4, 5, 6, 7, 8, 9, 10, 11, 12, 13, 14, 15, 16, 17, 18, 19, 20, 21], [0, 1, 3, 7, 15, 0, 32, 96, 224, 480, 0, 1024, 3072, 7168, 15360, 31744, 65535, 131071, 262143, 262143, 524287, 2097151]) | _ => ([], []), fun _ => []⟩
theorem S222_T {a0 : Value} {h : GH} {K : Value → GH → Prop} (g : S222 a0 h K) : T Tryz.prog 222 [a0] h K :=
  T_of_gwp (A := A222) Tryz.func222 (c := bodyOf Tryz.f222) (by kernel_rfl) (by kernel_rfl) (by kernel_rfl) (by kernel_rfl) (by kernel_rfl) (Eq.mp (by kernel_rfl) g)

def S223 (a0 a1 : Value) (h : GH) (K : Value → GH → Prop) : Prop :=
 bnd (ncV a0) fun v1 =>
 bnd (faV 5 v1) fun v2 =>
 bnd (faV 1 v2) fun v3 =>
 bnd (ldV 48 true v3 h) fun v4 =>
 newV 255 (List.replicate 16 (.bool false) ++ List.replicate 32 (.int .i64 0)) h fun v5 h6 =>
 bnd (stV 48 v5 v4 h6) fun h7 =>
 bnd (faV 0 v5) fun v8 =>
 bnd (faV 16 v5) fun v9 =>
 bnd (faV 32 v5) fun v10 =>
 T Tryz.prog 249 [a1] h7 fun v11 h12 =>
 bnd (iaV 16 1 v8 v11) fun v13 =>
 T Tryz.prog 249 [a1] h12 fun v14 h15 =>
 T Tryz.prog 249 [a1] h15 fun v16 h17 =>
 T Tryz.prog 248 [a1] h17 fun v18 h19 =>
 T Tryz.prog 248 [a1] h19 fun v20 h21 =>
 bnd (stV 1 v13 (.bool true) h21) fun h22 =>
 bnd (iaV 16 1 v9 v14) fun v23 =>
 bnd (stV 1 v23 v18 h22) fun h24 =>
 bnd (iaV 16 1 v10 v16) fun v25 =>
 bnd (stV 1 v25 v20 h24) fun h26 =>
 bnd (ldV 48 true v5 h26) fun v27 =>
 bnd (ncV a0) fun v28 =>
 bnd (faV 4 v28) fun v29 =>
 bnd (ldV 1 false v29 h26) fun v30 =>
 T Tryz.prog 220 [v27, v30] h26 fun v31 h32 =>
 bnd (exV v31 0) fun v33 =>
 bnd (exV v31 1) fun v34 =>
 bnd (ncV a0) fun v35 =>
 bnd (faV 5 v35) fun v36 =>
 bnd (stV 50 v36 v33 h32) fun h37 =>
 T Tryz.prog 222 [a0] h37 fun v38 h39 =>
 bnd (ncV a0) fun v40 =>
 bnd (faV 55 v40) fun v41 =>
 bnd (stV 1 v41 v38 h39) fun h42 =>
 K (.tuple #[]) h42
def A223 : Ann := ⟨fun | 1 => ([0, 2, 4, 6, 8, 10, 13, 16, 1, 11, 3, 5, 7, 9, 12, 14, 15, 17, 18], [0, 1, 0, 7, 0, 31, 0, 127, 0, 511, 0, 1027, 4095, 0, 16383, 32767, 0, 131071, 262143]) | 2 => ([0, 1, 2, 3, 4, 5, 6, 7, 8, 9, 10, 11, 12], [0, 0, 0, 4, 12, 28, 62, 126, 254, 254, 511, 1535, 3583]) | _ => ([], []), fun _ => []⟩
theorem S223_T {a0 a1 : Value} {h : GH} {K : Value → GH → Prop} (g : S223 a0 a1 h K) : T Tryz.prog 223 [a0, a1] h K :=
  T_of_gwp (A := A223) Tryz.func223 (c := bodyOf Tryz.f223) (by kernel_rfl) (by kernel_rfl) (by kernel_rfl) (by kernel_rfl) (by kernel_rfl) (Eq.mp (by kernel_rfl) g)

def S224_j1 (x8 x9 : Value) (h : GH) (K : Value → GH → Prop)  : Prop :=
 bsV 361 1 [.nilIface] [(0, 1, x9)] h fun v1 h2 =>
 bnd (ncV x8) fun v3 =>
 bnd (faV 2 v3) fun v4 =>
 bnd (stV 1 v4 v1 h2) fun h5 =>
 K (.tuple #[x8, (.int .i64 0)]) h5
def S224 (a0 a1 a2 : Value) (h : GH) (K : Value → GH → Prop) : Prop :=
 bnd (fillV [(.int .i64 0), (.int .i64 0)] [(0, 1, a0), (1, 1, a1)]) fun c1 =>
 bnd (fillV [(.int .i64 0), (.int .i64 0), (.slice none 0 0), (.pointer none), (.bool false), (.bool false)] [(0, 2, (.agg c1.toArray))]) fun c2 =>
 newV 359 ((.agg c2.toArray) : Value).cells.toList h fun v3 h4 =>
 bnd (ncV v3) fun v5 =>
 bnd (faV 0 v5) fun v6 =>
 T Tryz.prog 163 [a2] h4 fun v7 h8 =>
 T Tryz.prog 250 [v7, v6] h8 fun v9 h10 =>
 T Tryz.prog 131 [a0] h10 fun v11 h12 =>
 bnd (unV .not v11) fun v13 =>
 ifV v13 (
 K (.tuple #[(.pointer none), (.int .i64 1400)]) h12) (
 T Tryz.prog 75 [a1, (.int .i64 1048576)] h12 fun v14 h15 =>
 bnd (unV .not v14) fun v16 =>
 ifV v16 (
 K (.tuple #[(.pointer none), (.int .i64 1400)]) h15) (
 bnd (eqK .iface true v9 .nilIface) fun b17 =>
 ifV (.bool b17) (
 K (.tuple #[(.pointer none), (.int .i64 1400)]) h15) (
 S224_j1 v3 v9 h15 K )))
def A224 : Ann := ⟨fun | 2 => ([0, 2, 3, 4, 1, 5, 6], [0, 1, 0, 4, 12, 31, 63]) | _ => ([], []), fun _ => []⟩
theorem S224_T {a0 a1 a2 : Value} {h : GH} {K : Value → GH → Prop} (g : S224 a0 a1 a2 h K) : T Tryz.prog 224 [a0, a1, a2] h K :=
  T_of_gwp (A := A224) Tryz.func224 (c := bodyOf Tryz.f224) (by kernel_rfl) (by kernel_rfl) (by kernel_rfl) (by kernel_rfl) (by kernel_rfl) (Eq.mp (by kernel_rfl) g)

def S225 (a0 : Value) (h : GH) (K : Value → GH → Prop) : Prop :=
 ivV Tryz.prog a0 "pawl/word.number" [] h fun v1 h2 =>
 K v1 h2
def A225 : Ann := ⟨fun _ => ([], []), fun _ => []⟩
theorem S225_T {a0 : Value} {h : GH} {K : Value → GH → Prop} (g : S225 a0 h K) : T Tryz.prog 225 [a0] h K :=
  T_of_gwp (A := A225) Tryz.func225 (c := bodyOf Tryz.f225) (by kernel_rfl) (by kernel_rfl) (by kernel_rfl) (by kernel_rfl) (by kernel_rfl) (Eq.mp (by kernel_rfl) g)

def S226 (a0 : Value) (h : GH) (K : Value → GH → Prop) : Prop :=
 bnd (eqK .ptr true a0 (.pointer none)) fun b1 =>
 ifV (.bool (!b1)) (
 bnd (ncV a0) fun v2 =>
 bnd (faV 4 v2) fun v3 =>
 bnd (ldV 1 false v3 h) fun v4 =>
 K v4 h) (
 K (.bool false) h)
def A226 : Ann := ⟨fun _ => ([], []), fun _ => []⟩
theorem S226_T {a0 : Value} {h : GH} {K : Value → GH → Prop} (g : S226 a0 h K) : T Tryz.prog 226 [a0] h K :=
  T_of_gwp (A := A226) Tryz.func226 (c := bodyOf Tryz.f226) (by kernel_rfl) (by kernel_rfl) (by kernel_rfl) (by kernel_rfl) (by kernel_rfl) (Eq.mp (by kernel_rfl) g)

def S227 (a0 : Value) (h : GH) (K : Value → GH → Prop) : Prop :=
 bnd (eqK .ptr true a0 (.pointer none)) fun b1 =>
 ifV (.bool (!b1)) (
 bnd (ncV a0) fun v2 =>
 bnd (faV 58 v2) fun v3 =>
 bnd (ldV 1 false v3 h) fun v4 =>
 K v4 h) (
 K (.bool false) h)
def A227 : Ann := ⟨fun _ => ([], []), fun _ => []⟩
theorem S227_T {a0 : Value} {h : GH} {K : Value → GH → Prop} (g : S227 a0 h K) : T Tryz.prog 227 [a0] h K :=
  T_of_gwp (A := A227) Tryz.func227 (c := bodyOf Tryz.f227) (by kernel_rfl) (by kernel_rfl) (by kernel_rfl) (by kernel_rfl) (by kernel_rfl) (Eq.mp (by kernel_rfl) g)

def S228_j3 (x0 x6 : Value) (h : GH) (K : Value → GH → Prop)  : Prop :=
 bnd (ncV x0) fun v1 =>
 bnd (faV 1 v1) fun v2 =>
 bnd (ldV 1 false v2 h) fun v3 =>
 bnd (binV .add v3 (.int .i64 1)) fun v4 =>
 bnd (ncV x0) fun v5 =>
 bnd (faV 1 v5) fun v6 =>
 bnd (stV 1 v6 v4 h) fun h7 =>
 bnd (unV .not x6) fun v8 =>
 ifV v8 (
 bnd (ncV x0) fun v9 =>
 bnd (faV 4 v9) fun v10 =>
 bnd (stV 1 v10 (.bool true) h7) fun h11 =>
 K (.tuple #[(.bool true), (.int .i64 1100)]) h11) (
 bnd (ncV x0) fun v12 =>
 bnd (faV 4 v12) fun v13 =>
 bnd (ldV 1 false v13 h7) fun v14 =>
 K (.tuple #[v14, (.int .i64 0)]) h7)

def S228_j2 (x0 x1 : Value) (h : GH) (K : Value → GH → Prop)  : Prop :=
 bnd (ncV x0) fun v1 =>
 bnd (faV 1 v1) fun v2 =>
 bnd (ldV 1 false v2 h) fun v3 =>
 bnd (binV .lss v3 (.int .i64 0)) fun v4 =>
 ifV v4 (
 T Tryz.prog 156 [x1] h fun v5 h6 =>
 bnd (exV v5 0) fun v7 =>
 bnd (exV v5 1) fun v8 =>
 bnd (ncV x0) fun v9 =>
 bnd (faV 2 v9) fun v10 =>
 bnd (stV 1 v10 v7 h6) fun h11 =>
 S228_j3 x0 v8 h11 K ) (
 bnd (ncV x0) fun v12 =>
 bnd (faV 1 v12) fun v13 =>
 bnd (ldV 1 false v13 h) fun v14 =>
 bnd (ncV x0) fun v15 =>
 bnd (faV 0 v15) fun v16 =>
 bnd (ldV 1 false v16 h) fun v17 =>
 bnd (binV .lss v14 v17) fun v18 =>
 ifV v18 (
 bnd (ncV x0) fun v19 =>
 bnd (faV 1 v19) fun v20 =>
 bnd (ldV 1 false v20 h) fun v21 =>
 bnd (binV .add (.int .i64 30) v21) fun v22 =>
 T Tryz.prog 39 [x1, v22] h fun v23 h24 =>
 bnd (exV v23 0) fun v25 =>
 bnd (exV v23 1) fun v26 =>
 T Tryz.prog 136 [v25] h24 fun v27 h28 =>
 bnd (exV v27 0) fun v29 =>
 bnd (exV v27 1) fun v30 =>
 bnd (eqI v29 (.int .i64 0)) fun b31 =>
 ifV (.bool (!b31)) (
 bnd (ncV x0) fun v32 =>
 bnd (faV 2 v32) fun v33 =>
 bnd (ldV 1 false v33 h28) fun v34 =>
 bnd (binV .add v34 (.int .i64 1)) fun v35 =>
 bnd (eqI v29 v35) fun b36 =>
 bnd (ncV x0) fun v37 =>
 bnd (faV 4 v37) fun v38 =>
 bnd (stV 1 v38 (.bool (!b36)) h28) fun h39 =>
 S228_j3 x0 v30 h39 K ) (
 bnd (ncV x0) fun v40 =>
 bnd (faV 4 v40) fun v41 =>
 bnd (stV 1 v41 (.bool false) h28) fun h42 =>
 S228_j3 x0 v30 h42 K )) (
 bnd (ncV x0) fun v43 =>
 bnd (faV 2 v43) fun v44 =>
 bnd (ldV 1 false v44 h) fun v45 =>
 T Tryz.prog 78 [v45] h fun v46 h47 =>
 bnd (ncV x0) fun v48 =>
 bnd (faV 2 v48) fun v49 =>
 bnd (ldV 1 false v49 h47) fun v50 =>
 bnd (binV .add v50 (.int .i64 1)) fun v51 =>
 T Tryz.prog 78 [v51] h47 fun v52 h53 =>
 T Tryz.prog 209 [x1, (.int .i64 29), v46, v52] h53 fun v54 h55 =>
 bnd (exV v54 0) fun v56 =>
 bnd (exV v54 1) fun v57 =>
 bnd (eqI v56 v46) fun b58 =>
 bnd (ncV x0) fun v59 =>
 bnd (faV 3 v59) fun v60 =>
 bnd (stV 1 v60 (.bool b58) h55) fun h61 =>
 bnd (ncV x0) fun v62 =>
 bnd (faV 4 v62) fun v63 =>
 bnd (stV 1 v63 (.bool true) h61) fun h64 =>
 S228_j3 x0 (.bool true) h64 K ))

def S228_j1 (x0 x1 x14 : Value) (h : GH) (K : Value → GH → Prop)  : Prop :=
 ifV x14 (
 K (.tuple #[(.bool false), (.int .i64 1)]) h) (
 bnd (ncV x0) fun v1 =>
 bnd (faV 4 v1) fun v2 =>
 bnd (ldV 1 false v2 h) fun v3 =>
 ifV v3 (
 K (.tuple #[(.bool true), (.int .i64 0)]) h) (
 S228_j2 x0 x1 h K ))
def S228 (a0 a1 : Value) (h : GH) (K : Value → GH → Prop) : Prop :=
 bnd (eqK .ptr true a0 (.pointer none)) fun b1 =>
 ifV (.bool b1) (
 S228_j1 a0 a1 (.bool true) h K ) (
 bnd (eqK .ptr true a1 (.pointer none)) fun b2 =>
 S228_j1 a0 a1 (.bool b2) h K )
def A228 : Ann := ⟨fun | 11 => ([0, 1, 2, 3, 4, 5, 6, 7, 8, 9], [0, 1, 3, 7, 0, 16, 48, 112, 255, 511]) | _ => ([], []), fun _ => []⟩
theorem S228_T {a0 a1 : Value} {h : GH} {K : Value → GH → Prop} (g : S228 a0 a1 h K) : T Tryz.prog 228 [a0, a1] h K :=
  T_of_gwp (A := A228) Tryz.func228 (c := bodyOf Tryz.f228) (by kernel_rfl) (by kernel_rfl) (by kernel_rfl) (by kernel_rfl) (by kernel_rfl) (Eq.mp (by kernel_rfl) g)

def S229_j3 (x0 x1 x4 : Value) (h : GH) (K : Value → GH → Prop)  : Prop :=
 bnd (ncV x0) fun v1 =>
 bnd (faV 20 v1) fun v2 =>
 bnd (ldV 1 false v2 h) fun v3 =>
 bnd (ncV x4) fun v4 =>
 bnd (faV 5 v4) fun v5 =>
 bnd (stV 1 v5 v3 h) fun h6 =>
 bnd (ncV x4) fun v7 =>
 bnd (faV 4 v7) fun v8 =>
 bnd (stV 1 v8 x1 h6) fun h9 =>
 bnd (ncV x0) fun v10 =>
 bnd (faV 8 v10) fun v11 =>
 bnd (stV 1 v11 (.int .i64 0) h9) fun h12 =>
 K (.tuple #[]) h12

def S229_j2 (x0 x1 x4 : Value) (h : GH) (K : Value → GH → Prop)  : Prop :=
 bnd (ncV x0) fun v1 =>
 bnd (faV 20 v1) fun v2 =>
 bnd (ldV 1 false v2 h) fun v3 =>
 bnd (eqI v3 (.int .i64 0)) fun b4 =>
 ifV (.bool b4) (
 bnd (ncV x0) fun v5 =>
 bnd (faV 18 v5) fun v6 =>
 bnd (ldV 1 false v6 h) fun v7 =>
 T Tryz.prog 252 [v7] h fun v8 h9 =>
 bnd (ncV x4) fun v10 =>
 bnd (faV 7 v10) fun v11 =>
 bnd (stV 1 v11 v8 h9) fun h12 =>
 S229_j3 x0 x1 x4 h12 K ) (
 S229_j3 x0 x1 x4 h K )

def S229_j1 (x0 x1 x4 x39 : Value) (h : GH) (K : Value → GH → Prop)  : Prop :=
 ifV x39 (
 bnd (ncV x0) fun v1 =>
 bnd (faV 3 v1) fun v2 =>
 bnd (ldV 1 false v2 h) fun v3 =>
 bnd (ncV x0) fun v4 =>
 bnd (faV 8 v4) fun v5 =>
 bnd (ldV 1 false v5 h) fun v6 =>
 T Tryz.prog 251 [v3, v6] h fun v7 h8 =>
 bnd (exV v7 0) fun v9 =>
 bnd (exV v7 1) fun v10 =>
 bnd (ncV x0) fun v11 =>
 bnd (faV 9 v11) fun v12 =>
 bnd (stV 1 v12 v9 h8) fun h13 =>
 K (.tuple #[]) h13) (
 S229_j2 x0 x1 x4 h K )
def S229 (a0 a1 : Value) (h : GH) (K : Value → GH → Prop) : Prop :=
 bnd (ncV a0) fun v1 =>
 bnd (faV 6 v1) fun v2 =>
 bnd (stV 1 v2 .nilFunc h) fun h3 =>
 bnd (ncV a0) fun v4 =>
 bnd (faV 8 v4) fun v5 =>
 bnd (ldV 1 false v5 h3) fun v6 =>
 bnd (binV .add v6 (.int .i64 1)) fun v7 =>
 bnd (ncV a0) fun v8 =>
 bnd (faV 8 v8) fun v9 =>
 bnd (stV 1 v9 v7 h3) fun h10 =>
 T Tryz.prog 139 [a0] h10 fun v11 h12 =>
 bnd (ncV a0) fun v13 =>
 bnd (faV 8 v13) fun v14 =>
 bnd (ldV 1 false v14 h12) fun v15 =>
 bnd (ncV v11) fun v16 =>
 bnd (faV 6 v16) fun v17 =>
 bnd (stV 1 v17 v15 h12) fun h18 =>
 bnd (ncV a0) fun v19 =>
 bnd (faV 20 v19) fun v20 =>
 bnd (ldV 1 false v20 h18) fun v21 =>
 bnd (eqI v21 (.int .i64 2)) fun b22 =>
 ifV (.bool b22) (
 bnd (ncV a0) fun v23 =>
 bnd (faV 8 v23) fun v24 =>
 bnd (ldV 1 false v24 h18) fun v25 =>
 bnd (ncV a0) fun v26 =>
 bnd (faV 2 v26) fun v27 =>
 bnd (ldV 1 false v27 h18) fun v28 =>
 bnd (binV .lss v25 v28) fun v29 =>
 S229_j1 a0 a1 v11 v29 h18 K ) (
 S229_j1 a0 a1 v11 (.bool false) h18 K )
def A229 : Ann := ⟨fun | 4 => ([0, 1, 2, 3, 4, 5, 6, 7, 8, 9, 10, 11, 12, 13, 14, 15], [0, 1, 3, 7, 15, 31, 63, 127, 255, 511, 63, 1087, 3135, 7231, 16383, 32767]) | 5 => ([0, 1, 2, 3, 4, 5, 6, 7, 8, 9, 10, 11, 12, 13, 14, 15], [0, 0, 2, 6, 14, 0, 32, 96, 224, 510, 1022, 2046, 2046, 4095, 12287, 28671]) | _ => ([], []), fun _ => []⟩
theorem S229_T {a0 a1 : Value} {h : GH} {K : Value → GH → Prop} (g : S229 a0 a1 h K) : T Tryz.prog 229 [a0, a1] h K :=
  T_of_gwp (A := A229) Tryz.func229 (c := bodyOf Tryz.f229) (by kernel_rfl) (by kernel_rfl) (by kernel_rfl) (by kernel_rfl) (by kernel_rfl) (Eq.mp (by kernel_rfl) g)

def S230 (a0 a1 a2 : Value) (h : GH) (K : Value → GH → Prop) : Prop :=
 bnd (ldV 1 false a1 h) fun v1 =>
 bnd (eqI a0 v1) fun b2 =>
 ifV (.bool b2) (
 bnd (ldV 1 false a2 h) fun v3 =>
 K v3 h) (
 K a0 h)
def A230 : Ann := ⟨fun _ => ([], []), fun _ => []⟩
theorem S230_T {a0 a1 a2 : Value} {h : GH} {K : Value → GH → Prop} (g : S230 a0 a1 a2 h K) : T Tryz.prog 230 [a0, a1, a2] h K :=
  T_of_gwp (A := A230) Tryz.func230 (c := bodyOf Tryz.f230) (by kernel_rfl) (by kernel_rfl) (by kernel_rfl) (by kernel_rfl) (by kernel_rfl) (Eq.mp (by kernel_rfl) g)

def S242 (a0 : Value) (h : GH) (K : Value → GH → Prop) : Prop :=
 Lfp (fun (s1 : Nat → Value) h2 again3 =>
 bnd (binV .lss (s1 1) (.int .i64 16)) fun v4 =>
 ifV v4 (
 bnd (ncV (s1 0)) fun v5 =>
 bnd (faV 16 v5) fun v6 =>
 bnd (iaV 16 1 v6 (s1 1)) fun v7 =>
 bnd (ldV 1 false v7 h2) fun v8 =>
 T Tryz.prog 256 [v8] h2 fun v9 h10 =>
 bnd (unV .not v9) fun v11 =>
 ifV v11 (
 K (.bool false) h10) (
 bnd (ncV (s1 0)) fun v12 =>
 bnd (faV 32 v12) fun v13 =>
 bnd (iaV 16 1 v13 (s1 1)) fun v14 =>
 bnd (ldV 1 false v14 h10) fun v15 =>
 T Tryz.prog 256 [v15] h10 fun v16 h17 =>
 bnd (unV .not v16) fun v18 =>
 ifV v18 (
 K (.bool false) h17) (
 bnd (binV .add (s1 1) (.int .i64 1)) fun v19 =>
 again3 (tup [(s1 0), v19]) h17))) (
 K (.bool true) h2)) (tup [a0, (.int .i64 0)]) h
def A242 : Ann := ⟨fun _ => ([], []), fun | 0 => [0, 4] | _ => []⟩
theorem S242_T {a0 : Value} {h : GH} {K : Value → GH → Prop} (g : S242 a0 h K) : T Tryz.prog 242 [a0] h K :=
  T_of_gwp (A := A242) Tryz.func242 (c := bodyOf Tryz.f242) (by kernel_rfl) (by kernel_rfl) (by kernel_rfl) (by kernel_rfl) (by kernel_rfl) (Eq.mp (by kernel_rfl) g)

def S243_j1 (x2 x3 x4 : Value) (h : GH) (K : Value → GH → Prop)  : Prop :=
 bnd (ldV 48 true x2 h) fun v1 =>
 bnd (fillV (List.replicate 16 (.bool false) ++ List.replicate 32 (.int .i64 0) ++ [.nilIface]) [(0, 48, v1)]) fun c2 =>
 newV 372 ((.agg c2.toArray) : Value).cells.toList h fun v3 h4 =>
 bnd (fillV [(.pointer none)] [(0, 1, v3)]) fun c5 =>
 newV 374 [(.pointer none)] h4 fun v6 h7 =>
 bnd (stV 1 v6 (.agg c5.toArray) h7) fun h8 =>
 bnd (faV 0 x3) fun v9 =>
 bnd (ldV 1 false v9 h8) fun v10 =>
 bnd (eqI v10 (.int .i64 9)) fun b11 =>
 ifV (.bool b11) (
 T Tryz.prog 257 [(.int .i64 2)] h8 fun v12 h13 =>
 newV 122 [(.int .i64 0), (.int .i64 0)] h13 fun v14 h15 =>
 bnd (stV 2 v14 v12 h15) fun h16 =>
 bnd (ldV 1 true v6 h16) fun v17 =>
 T Tryz.prog 258 [v17, (.int .i64 (-1)), (.int .i64 0)] h16 fun v18 h19 =>
 bnd (eqI v18 (.int .i64 (-1))) fun b20 =>
 ifV (.bool (!b20)) (
 T Tryz.prog 259 [v18] h19 fun v21 h22 =>
 bnd (stV 2 v14 v21 h22) fun h23 =>
 bnd (ldV 2 true v14 h23) fun v24 =>
 T Tryz.prog 260 [v3, x2, v24] h23 fun v25 h26 =>
 bnd (stV 50 x4 v25 h26) fun h27 =>
 bnd (ldV 50 true x4 h27) fun v28 =>
 K (.tuple #[v28, (.int .i64 0)]) h27) (
 bnd (ldV 2 true v14 h19) fun v29 =>
 T Tryz.prog 260 [v3, x2, v29] h19 fun v30 h31 =>
 bnd (stV 50 x4 v30 h31) fun h32 =>
 bnd (ldV 50 true x4 h32) fun v33 =>
 K (.tuple #[v33, (.int .i64 0)]) h32)) (
 nmpV h8 fun v34 h35 =>
 bnd (mupV .i64 v34 (.int .i64 6) (.func (.func 261) #[] #[]) h35) fun h36 =>
 bnd (mupV .i64 v34 (.int .i64 7) (.func (.func 262) #[] #[]) h36) fun h37 =>
 bnd (mupV .i64 v34 (.int .i64 8) (.func (.func 263) #[] #[]) h37) fun h38 =>
 bnd (mupV .i64 v34 (.int .i64 10) (.func (.func 264) #[] #[]) h38) fun h39 =>
 bnd (faV 0 x3) fun v40 =>
 bnd (ldV 1 false v40 h39) fun v41 =>
 bnd (mlkV .i64 v34 v41 h39) fun v42 =>
 bnd (ldV 1 true v6 h39) fun v43 =>
 bnd (faV 1 x3) fun v44 =>
 bnd (ldV 1 false v44 h39) fun v45 =>
 T Tryz.prog 265 [v43, v45] h39 fun v46 h47 =>
 mlkV .i64 v34 v41 h47 = some v42 ∧
 ldV 1 false v40 h47 = some v41 ∧
 callV Tryz.prog v42 [v46, x3] h47 fun v48 h49 =>
 newV 122 [(.int .i64 0), (.int .i64 0)] h49 fun v50 h51 =>
 bnd (stV 2 v50 v48 h51) fun h52 =>
 bnd (ldV 2 true v50 h52) fun v53 =>
 T Tryz.prog 260 [v3, x2, v53] h52 fun v54 h55 =>
 bnd (stV 50 x4 v54 h55) fun h56 =>
 bnd (ldV 50 true x4 h56) fun v57 =>
 K (.tuple #[v57, (.int .i64 0)]) h56)
def S243 (a0 a1 : Value) (h : GH) (K : Value → GH → Prop) : Prop :=
 newV 255 (a0 : Value).cells.toList h fun v1 h2 =>
 newV 24 (a1 : Value).cells.toList h2 fun v3 h4 =>
 newV 298 ([(.int .i64 0)] ++ List.replicate 16 (.bool false) ++ List.replicate 32 (.int .i64 0) ++ [(.slice none 0 0)]) h4 fun v5 h6 =>
 T Tryz.prog 242 [v1] h6 fun v7 h8 =>
 bnd (unV .not v7) fun v9 =>
 ifV v9 (
 bnd (fillV ([(.int .i64 0)] ++ List.replicate 16 (.bool false) ++ List.replicate 32 (.int .i64 0) ++ [(.slice none 0 0)]) []) fun c10 =>
 bnd (stV 50 v5 (.agg c10.toArray) h8) fun h11 =>
 bnd (ldV 50 true v5 h11) fun v12 =>
 K (.tuple #[v12, (.int .i64 600)]) h11) (
 T Tryz.prog 127 [v3] h8 fun v13 h14 =>
 bnd (unV .not v13) fun v15 =>
 ifV v15 (
 bnd (fillV ([(.int .i64 0)] ++ List.replicate 16 (.bool false) ++ List.replicate 32 (.int .i64 0) ++ [(.slice none 0 0)]) []) fun c16 =>
 bnd (stV 50 v5 (.agg c16.toArray) h14) fun h17 =>
 bnd (ldV 50 true v5 h17) fun v18 =>
 K (.tuple #[v18, (.int .i64 600)]) h17) (
 bnd (faV 0 v3) fun v19 =>
 bnd (ldV 1 false v19 h14) fun v20 =>
 T Tryz.prog 110 [v20] h14 fun v21 h22 =>
 ifV v21 (
 bnd (fillV ([(.int .i64 0)] ++ List.replicate 16 (.bool false) ++ List.replicate 32 (.int .i64 0) ++ [(.slice none 0 0)]) []) fun c23 =>
 bnd (stV 50 v5 (.agg c23.toArray) h22) fun h24 =>
 bnd (ldV 50 true v5 h24) fun v25 =>
 K (.tuple #[v25, (.int .i64 600)]) h24) (
 S243_j1 v1 v3 v5 h22 K )))
def A243 : Ann := ⟨fun | 12 => ([0, 1, 2, 3, 4, 5, 6, 7, 8, 9, 10], [0, 0, 2, 7, 0, 0, 32, 112, 255, 0, 1023]) | _ => ([], []), fun _ => []⟩
theorem S243_T {a0 a1 : Value} {h : GH} {K : Value → GH → Prop} (g : S243 a0 a1 h K) : T Tryz.prog 243 [a0, a1] h K :=
  T_of_gwp (A := A243) Tryz.func243 (c := bodyOf Tryz.f243) (by kernel_rfl) (by kernel_rfl) (by kernel_rfl) (by kernel_rfl) (by kernel_rfl) (Eq.mp (by kernel_rfl) g)

def S244_j1 (x2 x3 x4 : Value) (h : GH) (K : Value → GH → Prop)  : Prop :=
 bnd (fillV [.nilFunc, .nilFunc, .nilFunc, .nilFunc, .nilFunc, .nilFunc] [(0, 1, (.func (.func 266) #[] #[])), (1, 1, (.func (.func 267) #[] #[])), (2, 1, (.func (.func 268) #[] #[])), (3, 1, (.func (.func 269) #[] #[])), (4, 1, (.func (.func 270) #[] #[])), (5, 1, (.func (.func 271) #[] #[]))]) fun c1 =>
 newV 382 [.nilFunc, .nilFunc, .nilFunc, .nilFunc, .nilFunc, .nilFunc] h fun v2 h3 =>
 bnd (stV 6 v2 (.agg c1.toArray) h3) fun h4 =>
 bnd (ldV 48 true x2 h4) fun v5 =>
 bnd (fillV (List.replicate 16 (.bool false) ++ List.replicate 32 (.int .i64 0) ++ [.nilIface]) [(0, 48, v5)]) fun c6 =>
 newV 372 ((.agg c6.toArray) : Value).cells.toList h4 fun v7 h8 =>
 bnd (faV 0 x3) fun v9 =>
 bnd (ldV 1 false v9 h8) fun v10 =>
 bnd (iaV 6 1 v2 v10) fun v11 =>
 bnd (ldV 1 false v11 h8) fun v12 =>
 callV Tryz.prog v12 [v7, x3] h8 fun v13 h14 =>
 newV 122 [(.int .i64 0), (.int .i64 0)] h14 fun v15 h16 =>
 bnd (stV 2 v15 v13 h16) fun h17 =>
 bnd (ldV 2 true v15 h17) fun v18 =>
 T Tryz.prog 260 [v7, x2, v18] h17 fun v19 h20 =>
 bnd (stV 50 x4 v19 h20) fun h21 =>
 bnd (ldV 50 true x4 h21) fun v22 =>
 K (.tuple #[v22, (.int .i64 0)]) h21
def S244 (a0 a1 : Value) (h : GH) (K : Value → GH → Prop) : Prop :=
 newV 255 (a0 : Value).cells.toList h fun v1 h2 =>
 newV 24 (a1 : Value).cells.toList h2 fun v3 h4 =>
 newV 298 ([(.int .i64 0)] ++ List.replicate 16 (.bool false) ++ List.replicate 32 (.int .i64 0) ++ [(.slice none 0 0)]) h4 fun v5 h6 =>
 T Tryz.prog 242 [v1] h6 fun v7 h8 =>
 bnd (unV .not v7) fun v9 =>
 ifV v9 (
 bnd (fillV ([(.int .i64 0)] ++ List.replicate 16 (.bool false) ++ List.replicate 32 (.int .i64 0) ++ [(.slice none 0 0)]) []) fun c10 =>
 bnd (stV 50 v5 (.agg c10.toArray) h8) fun h11 =>
 bnd (ldV 50 true v5 h11) fun v12 =>
 K (.tuple #[v12, (.int .i64 500)]) h11) (
 T Tryz.prog 127 [v3] h8 fun v13 h14 =>
 bnd (unV .not v13) fun v15 =>
 ifV v15 (
 bnd (fillV ([(.int .i64 0)] ++ List.replicate 16 (.bool false) ++ List.replicate 32 (.int .i64 0) ++ [(.slice none 0 0)]) []) fun c16 =>
 bnd (stV 50 v5 (.agg c16.toArray) h14) fun h17 =>
 bnd (ldV 50 true v5 h17) fun v18 =>
 K (.tuple #[v18, (.int .i64 500)]) h17) (
 bnd (faV 0 v3) fun v19 =>
 bnd (ldV 1 false v19 h14) fun v20 =>
 T Tryz.prog 110 [v20] h14 fun v21 h22 =>
 bnd (unV .not v21) fun v23 =>
 ifV v23 (
 bnd (fillV ([(.int .i64 0)] ++ List.replicate 16 (.bool false) ++ List.replicate 32 (.int .i64 0) ++ [(.slice none 0 0)]) []) fun c24 =>
 bnd (stV 50 v5 (.agg c24.toArray) h22) fun h25 =>
 bnd (ldV 50 true v5 h25) fun v26 =>
 K (.tuple #[v26, (.int .i64 500)]) h25) (
 S244_j1 v1 v3 v5 h22 K )))
def A244 : Ann := ⟨fun _ => ([], []), fun _ => []⟩
theorem S244_T {a0 a1 : Value} {h : GH} {K : Value → GH → Prop} (g : S244 a0 a1 h K) : T Tryz.prog 244 [a0, a1] h K :=
  T_of_gwp (A := A244) Tryz.func244 (c := bodyOf Tryz.f244) (by kernel_rfl) (by kernel_rfl) (by kernel_rfl) (by kernel_rfl) (by kernel_rfl) (Eq.mp (by kernel_rfl) g)

def S245 (a0 a1 a2 : Value) (h : GH) (K : Value → GH → Prop) : Prop :=
 T Tryz.prog 131 [a0] h fun v1 h2 =>
 bnd (unV .not v1) fun v3 =>
 ifV v3 (
 K (.tuple #[(.pointer none), (.int .i64 1500)]) h2) (
 T Tryz.prog 75 [a1, (.int .i64 1048576)] h2 fun v4 h5 =>
 bnd (unV .not v4) fun v6 =>
 ifV v6 (
 K (.tuple #[(.pointer none), (.int .i64 1500)]) h5) (
 T Tryz.prog 75 [a2, (.int .i64 16)] h5 fun v7 h8 =>
 bnd (unV .not v7) fun v9 =>
 ifV v9 (
 K (.tuple #[(.pointer none), (.int .i64 1500)]) h8) (
 bnd (fillV [(.int .i64 0), (.int .i64 0), (.int .i64 0), (.int .i64 0), (.pointer none), (.int .i64 0), (.int .i64 0), (.bool false)] [(0, 1, a0), (1, 1, a1), (2, 1, a2), (5, 1, (.int .i64 (-1)))]) fun c10 =>
 newV 384 ((.agg c10.toArray) : Value).cells.toList h8 fun v11 h12 =>
 K (.tuple #[v11, (.int .i64 0)]) h12)))
def A245 : Ann := ⟨fun _ => ([], []), fun _ => []⟩
theorem S245_T {a0 a1 a2 : Value} {h : GH} {K : Value → GH → Prop} (g : S245 a0 a1 a2 h K) : T Tryz.prog 245 [a0, a1, a2] h K :=
  T_of_gwp (A := A245) Tryz.func245 (c := bodyOf Tryz.f245) (by kernel_rfl) (by kernel_rfl) (by kernel_rfl) (by kernel_rfl) (by kernel_rfl) (Eq.mp (by kernel_rfl) g)

def S246_j1 (x0 x1 x2 : Value) (h : GH) (K : Value → GH → Prop)  : Prop :=
 T Tryz.prog 137 [x0] h fun v1 h2 =>
 T Tryz.prog 138 [x1, (.int .i64 0)] h2 fun v3 h4 =>
 bnd (lnV x2) fun v5 =>
 T Tryz.prog 78 [v5] h4 fun v6 h7 =>
 bsV 3 2 [(.int .i64 0), (.int .i64 0)] [(0, 1, v3), (1, 1, v6)] h7 fun v8 h9 =>
 bnd (fillV [(.int .i64 0), (.slice none 0 0)] [(0, 1, v1), (1, 1, v8)]) fun c10 =>
 newV 386 ((.agg c10.toArray) : Value).cells.toList h9 fun v11 h12 =>
 bnd (lnV x2) fun v13 =>
 Lfp (fun (s14 : Nat → Value) h15 again16 =>
 bnd (binV .lss (s14 3) (s14 2)) fun v17 =>
 ifV v17 (
 bnd (isV 3 (s14 1) (s14 3)) fun v18 =>
 bnd (ldV 3 true v18 h15) fun v19 =>
 newV 340 [(.int .i64 0), (.int .i64 0), (.int .i64 0)] h15 fun v20 h21 =>
 bnd (stV 3 v20 v19 h21) fun h22 =>
 bnd (ncV (s14 0)) fun v23 =>
 bnd (faV 1 v23) fun v24 =>
 bnd (ldV 1 false v24 h22) fun v25 =>
 bnd (faV 0 v20) fun v26 =>
 bnd (ldV 1 false v26 h22) fun v27 =>
 bnd (faV 1 v20) fun v28 =>
 bnd (ldV 1 false v28 h22) fun v29 =>
 bnd (faV 2 v20) fun v30 =>
 bnd (ldV 1 false v30 h22) fun v31 =>
 T Tryz.prog 78 [v27] h22 fun v32 h33 =>
 ldV 1 false v30 h33 = some v31 ∧
 ldV 1 false v28 h33 = some v29 ∧
 ldV 1 false v24 h33 = some v25 ∧
 T Tryz.prog 78 [v29] h33 fun v34 h35 =>
 ldV 1 false v30 h35 = some v31 ∧
 ldV 1 false v24 h35 = some v25 ∧
 T Tryz.prog 78 [v31] h35 fun v36 h37 =>
 ldV 1 false v24 h37 = some v25 ∧
 bsV 3 3 [(.int .i64 0), (.int .i64 0), (.int .i64 0)] [(0, 1, v32), (1, 1, v34), (2, 1, v36)] h37 fun v38 h39 =>
 apV 3 1 8 v25 v38 h39 fun v40 h41 =>
 bnd (ncV (s14 0)) fun v42 =>
 bnd (faV 1 v42) fun v43 =>
 bnd (stV 1 v43 v40 h41) fun h44 =>
 bnd (binV .add (s14 3) (.int .i64 1)) fun v45 =>
 again16 (tup [(s14 0), (s14 1), (s14 2), v45]) h44) (
 K (.tuple #[(s14 0), (.int .i64 0)]) h15)) (tup [v11, x2, v13, (.int .i64 0)]) h12
def S246 (a0 a1 a2 : Value) (h : GH) (K : Value → GH → Prop) : Prop :=
 T Tryz.prog 221 [a0, a1] h fun v1 h2 =>
 bnd (unV .not v1) fun v3 =>
 ifV v3 (
 K (.tuple #[(.pointer none), (.int .i64 1300)]) h2) (
 T Tryz.prog 272 [a2] h2 fun v4 h5 =>
 bnd (unV .not v4) fun v6 =>
 ifV v6 (
 K (.tuple #[(.pointer none), (.int .i64 1300)]) h5) (
 S246_j1 a0 a1 a2 h5 K ))
def A246 : Ann := ⟨fun | 7 => ([0, 1, 2, 3, 4, 5, 6, 8, 9, 11, 12, 7, 10, 13, 14, 15, 16, 17, 18], [0, 0, 2, 6, 14, 0, 32, 96, 0, 256, 992, 0, 2048, 8160, 16352, 32766, 65535, 131071, 262143]) | _ => ([], []), fun | 0 => [8, 30, 31, 32] | _ => []⟩
theorem S246_T {a0 a1 a2 : Value} {h : GH} {K : Value → GH → Prop} (g : S246 a0 a1 a2 h K) : T Tryz.prog 246 [a0, a1, a2] h K :=
  T_of_gwp (A := A246) Tryz.func246 (c := bodyOf Tryz.f246) (by kernel_rfl) (by kernel_rfl) (by kernel_rfl) (by kernel_rfl) (by kernel_rfl) (Eq.mp (by kernel_rfl) g)

def S247 (a0 : Value) (h : GH) (K : Value → GH → Prop) : Prop :=
 newV 255 (a0 : Value).cells.toList h fun v1 h2 =>
 bnd (faV 0 v1) fun v3 =>
 bnd (ldV 16 true v3 h2) fun v4 =>
 Lfp (fun (s5 : Nat → Value) h6 again7 =>
 bnd (binV .lss (s5 3) (.int .i64 16)) fun v8 =>
 ifV v8 (
 bnd (ixV 16 1 false (s5 2) (s5 3)) fun v9 =>
 ifV v9 (
 bnd (faV 16 (s5 0)) fun v10 =>
 bnd (iaV 16 1 v10 (s5 3)) fun v11 =>
 bnd (ldV 1 false v11 h6) fun v12 =>
 bnd (faV 32 (s5 0)) fun v13 =>
 bnd (iaV 16 1 v13 (s5 3)) fun v14 =>
 bnd (ldV 1 false v14 h6) fun v15 =>
 bnd (fillV [(.int .i64 0), (.int .i64 0), (.int .i64 0)] [(0, 1, (s5 3)), (1, 1, v12), (2, 1, v15)]) fun c16 =>
 bsV 340 1 [(.int .i64 0), (.int .i64 0), (.int .i64 0)] [(0, 3, (.agg c16.toArray))] h6 fun v17 h18 =>
 apV 340 3 24 (s5 1) v17 h18 fun v19 h20 =>
 bnd (binV .add (s5 3) (.int .i64 1)) fun v21 =>
 again7 (tup [(s5 0), v19, (s5 2), v21]) h20) (
 bnd (binV .add (s5 3) (.int .i64 1)) fun v22 =>
 again7 (tup [(s5 0), (s5 1), (s5 2), v22]) h6)) (
 K (s5 1) h6)) (tup [v1, (.slice none 0 0), v4, (.int .i64 0)]) h2
def A247 : Ann := ⟨fun | 6 => ([0, 1, 2, 3, 4, 5, 6, 7, 8, 9, 10, 11, 12, 13], [0, 0, 0, 0, 12, 28, 0, 0, 192, 448, 1022, 2046, 4095, 8191]) | _ => ([], []), fun | 0 => [1, 3, 7, 8] | _ => []⟩
theorem S247_T {a0 : Value} {h : GH} {K : Value → GH → Prop} (g : S247 a0 h K) : T Tryz.prog 247 [a0] h K :=
  T_of_gwp (A := A247) Tryz.func247 (c := bodyOf Tryz.f247) (by kernel_rfl) (by kernel_rfl) (by kernel_rfl) (by kernel_rfl) (by kernel_rfl) (Eq.mp (by kernel_rfl) g)

def S248 (a0 : Value) (h : GH) (K : Value → GH → Prop) : Prop :=
 bnd (eqK .ptr true a0 (.pointer none)) fun b1 =>
 ifV (.bool b1) (
 K (.int .i64 0) h) (
 bnd (ncV a0) fun v2 =>
 bnd (faV 3 v2) fun v3 =>
 bnd (ldV 1 false v3 h) fun v4 =>
 K v4 h)
def A248 : Ann := ⟨fun _ => ([], []), fun _ => []⟩
theorem S248_T {a0 : Value} {h : GH} {K : Value → GH → Prop} (g : S248 a0 h K) : T Tryz.prog 248 [a0] h K :=
  T_of_gwp (A := A248) Tryz.func248 (c := bodyOf Tryz.f248) (by kernel_rfl) (by kernel_rfl) (by kernel_rfl) (by kernel_rfl) (by kernel_rfl) (Eq.mp (by kernel_rfl) g)

def S249 (a0 : Value) (h : GH) (K : Value → GH → Prop) : Prop :=
 bnd (ncV a0) fun v1 =>
 bnd (faV 2 v1) fun v2 =>
 bnd (ldV 1 false v2 h) fun v3 =>
 K v3 h
def A249 : Ann := ⟨fun _ => ([], []), fun _ => []⟩
theorem S249_T {a0 : Value} {h : GH} {K : Value → GH → Prop} (g : S249 a0 h K) : T Tryz.prog 249 [a0] h K :=
  T_of_gwp (A := A249) Tryz.func249 (c := bodyOf Tryz.f249) (by kernel_rfl) (by kernel_rfl) (by kernel_rfl) (by kernel_rfl) (by kernel_rfl) (Eq.mp (by kernel_rfl) g)

def S250 (a0 a1 : Value) (h : GH) (K : Value → GH → Prop) : Prop :=
 bnd (taV 277 (.agg #[(.int .i64 0), (.int .i64 0), (.int .i64 0), (.int .i64 0), (.int .i64 0)]) true a0) fun v1 =>
 bnd (exV v1 1) fun v2 =>
 bnd (exV v1 0) fun v3 =>
 ifV v2 (
 newV 277 [(.int .i64 0), (.int .i64 0), (.int .i64 0), (.int .i64 0), (.int .i64 0)] h fun v4 h5 =>
 bnd (stV 5 v4 v3 h5) fun h6 =>
 bnd (faV 0 v4) fun v7 =>
 bnd (ldV 2 true v7 h6) fun v8 =>
 bnd (fillV [(.int .i64 0), (.int .i64 0), (.int .i64 0), (.int .i64 0), (.bool false), (.bool false)] [(0, 2, v8)]) fun c9 =>
 bnd (ldV 5 true v4 h6) fun v10 =>
 bnd (fillV [(.int .i64 0), (.int .i64 0), (.int .i64 0), (.int .i64 0), (.bool false), (.bool false), (.int .i64 0), (.int .i64 0), (.int .i64 0), (.int .i64 0), (.int .i64 0), (.int .i64 0)] [(0, 6, (.agg c9.toArray)), (6, 5, v10)]) fun c11 =>
 newV 391 ((.agg c11.toArray) : Value).cells.toList h6 fun v12 h13 =>
 K (.iface 387 v12) h13) (
 bnd (taV 133 (.agg #[(.int .i64 0), (.int .i64 0)]) true a0) fun v14 =>
 bnd (exV v14 1) fun v15 =>
 bnd (exV v14 0) fun v16 =>
 ifV v15 (
 newV 133 [(.int .i64 0), (.int .i64 0)] h fun v17 h18 =>
 bnd (stV 2 v17 v16 h18) fun h19 =>
 bnd (ldV 2 true v17 h19) fun v20 =>
 bnd (fillV [(.int .i64 0), (.int .i64 0), (.int .i64 0), (.int .i64 0), (.bool false), (.bool false)] [(0, 2, v20)]) fun c21 =>
 bnd (fillV [(.int .i64 0), (.int .i64 0), (.int .i64 0), (.int .i64 0), (.bool false), (.bool false), (.pointer none), (.int .i64 0), (.int .i64 0), (.int .i64 0), (.int .i64 0), .nilIface, (.int .i64 0)] [(0, 6, (.agg c21.toArray)), (6, 1, a1), (7, 1, (.int .i64 1))]) fun c22 =>
 newV 394 ((.agg c22.toArray) : Value).cells.toList h19 fun v23 h24 =>
 K (.iface 392 v23) h24) (
 K .nilIface h))
def A250 : Ann := ⟨fun _ => ([], []), fun _ => []⟩
theorem S250_T {a0 a1 : Value} {h : GH} {K : Value → GH → Prop} (g : S250 a0 a1 h K) : T Tryz.prog 250 [a0, a1] h K :=
  T_of_gwp (A := A250) Tryz.func250 (c := bodyOf Tryz.f250) (by kernel_rfl) (by kernel_rfl) (by kernel_rfl) (by kernel_rfl) (by kernel_rfl) (Eq.mp (by kernel_rfl) g)

def S251_j2 (x1 : Value) (h : GH) (K : Value → GH → Prop)  : Prop :=
 Lfp (fun (s1 : Nat → Value) h2 again3 =>
 bnd (binV .lss (s1 2) (s1 0)) fun v4 =>
 ifV v4 (
 bnd (binV .lss (s1 1) (.int .i64 8)) fun v5 =>
 ifV v5 (
 bnd (binV .mul (s1 1) (.int .i64 2)) fun v6 =>
 bnd (binV .add (s1 2) (.int .i64 1)) fun v7 =>
 again3 (tup [(s1 0), v6, v7]) h2) (
 bnd (mmV false (s1 1) [(.int .i64 8)]) fun v8 =>
 K (.tuple #[v8, (.int .i64 0)]) h2)) (
 bnd (mmV false (s1 1) [(.int .i64 8)]) fun v9 =>
 K (.tuple #[v9, (.int .i64 0)]) h2)) (tup [x1, (.int .i64 1), (.int .i64 1)]) h

def S251_j1 (x0 x1 x8 : Value) (h : GH) (K : Value → GH → Prop)  : Prop :=
 ifV x8 (
 K (.tuple #[(.int .i64 0), (.int .i64 1600)]) h) (
 bnd (unV .not x0) fun v1 =>
 ifV v1 (
 K (.tuple #[(.int .i64 0), (.int .i64 0)]) h) (
 bnd (eqI x1 (.int .i64 0)) fun b2 =>
 ifV (.bool b2) (
 K (.tuple #[(.int .i64 0), (.int .i64 0)]) h) (
 S251_j2 x1 h K )))
def S251 (a0 a1 : Value) (h : GH) (K : Value → GH → Prop) : Prop :=
 bnd (binV .lss a1 (.int .i64 0)) fun v1 =>
 ifV v1 (
 S251_j1 a0 a1 (.bool true) h K ) (
 bnd (binV .gtr a1 (.int .i64 16)) fun v2 =>
 S251_j1 a0 a1 v2 h K )
def A251 : Ann := ⟨fun _ => ([], []), fun | 1 => [1, 6, 7] | _ => []⟩
theorem S251_T {a0 a1 : Value} {h : GH} {K : Value → GH → Prop} (g : S251 a0 a1 h K) : T Tryz.prog 251 [a0, a1] h K :=
  T_of_gwp (A := A251) Tryz.func251 (c := bodyOf Tryz.f251) (by kernel_rfl) (by kernel_rfl) (by kernel_rfl) (by kernel_rfl) (by kernel_rfl) (Eq.mp (by kernel_rfl) g)

def S252 (a0 : Value) (h : GH) (K : Value → GH → Prop) : Prop :=
 bnd (eqK .ptr true a0 (.pointer none)) fun b1 =>
 ifV (.bool b1) (
 K (.slice none 0 0) h) (
 bnd (ncV a0) fun v2 =>
 bnd (faV 60 v2) fun v3 =>
 bnd (ldV 1 false v3 h) fun v4 =>
 T Tryz.prog 81 [v4] h fun v5 h6 =>
 K v5 h6)
def A252 : Ann := ⟨fun _ => ([], []), fun _ => []⟩
theorem S252_T {a0 : Value} {h : GH} {K : Value → GH → Prop} (g : S252 a0 h K) : T Tryz.prog 252 [a0] h K :=
  T_of_gwp (A := A252) Tryz.func252 (c := bodyOf Tryz.f252) (by kernel_rfl) (by kernel_rfl) (by kernel_rfl) (by kernel_rfl) (by kernel_rfl) (Eq.mp (by kernel_rfl) g)

end Go.Proofs.YtfphpafkhljncaaGreat
