/- Several texts in one; nothing here is a statement on the program. -/
import Derived.Test.YtcpfkkppfgolaaaGreatDoorTTR2
import Derived.Test.YtcpfkkppfgolaaaGreatDoorProg
import Derived.KernelRfl
set_option linter.unusedVariables false
set_option linter.unusedSimpArgs false
namespace Go.Proofs.YtcpfkkppfgolaaaGreatDoor
open Go GW Go.Proofs
set_option maxRecDepth 100000
def S120 (a0 : Value) (h : GH) (K : Value → GH → Prop) : Prop :=
 newV 121 [(.int .i64 0), (.int .i64 0)] h fun v1 h2 =>
 bnd (binV .rem a0 (.int .i64 16)) fun v3 =>
 bnd (binV .quo a0 (.int .i64 16)) fun v4 =>
 bnd (fillV [(.int .i64 0), (.int .i64 0)] [(0, 1, v3), (1, 1, v4)]) fun c5 =>
 bnd (stV 2 v1 (.agg c5.toArray) h2) fun h6 =>
 bnd (ldV 2 true v1 h6) fun v7 =>
 K v7 h6
def A120 : Ann := ⟨fun _ => ([], []), fun _ => []⟩
theorem S120_T {a0 : Value} {h : GH} {K : Value → GH → Prop} (g : S120 a0 h K) : T Tryz.prog 120 [a0] h K :=
  T_of_gwp (A := A120) Tryz.func120 (c := bodyOf Tryz.f120) (by kernel_rfl) (by kernel_rfl) (by kernel_rfl) (by kernel_rfl) (by kernel_rfl) (Eq.mp (by kernel_rfl) g)
def S121 (a0 : Value) (h : GH) (K : Value → GH → Prop) : Prop :=
 ivV Tryz.prog a0 "pawl/word.plain" [] h fun v1 h2 =>
 newV 238 [(.int .i64 0), (.int .i64 0), (.int .i64 0), (.int .i64 0), (.int .i64 0), (.int .i64 0), (.int .i64 0)] h2 fun v3 h4 =>
 bnd (stV 7 v3 v1 h4) fun h5 =>
 bnd (faV 1 v3) fun v6 =>
 bnd (ldV 1 false v6 h5) fun v7 =>
 T Tryz.prog 23 [v7, (.int .i64 1099511627776)] h5 fun v8 h9 =>
 ifV v8 (
 bnd (faV 2 v3) fun v10 =>
 bnd (ldV 1 false v10 h9) fun v11 =>
 T Tryz.prog 23 [v11, (.int .i64 12)] h9 fun v12 h13 =>
 ifV v12 (
 bnd (faV 3 v3) fun v14 =>
 bnd (ldV 1 false v14 h13) fun v15 =>
 T Tryz.prog 23 [v15, (.int .i64 65536)] h13 fun v16 h17 =>
 ifV v16 (
 bnd (faV 4 v3) fun v18 =>
 bnd (ldV 1 false v18 h17) fun v19 =>
 T Tryz.prog 23 [v19, (.int .i64 16)] h17 fun v20 h21 =>
 ifV v20 (
 bnd (faV 5 v3) fun v22 =>
 bnd (ldV 1 false v22 h21) fun v23 =>
 T Tryz.prog 23 [v23, (.int .i64 4)] h21 fun v24 h25 =>
 ifV v24 (
 bnd (faV 6 v3) fun v26 =>
 bnd (ldV 1 false v26 h25) fun v27 =>
 T Tryz.prog 23 [v27, (.int .i64 1048576)] h25 fun v28 h29 =>
 K v28 h29) (
 K (.bool false) h25)) (
 K (.bool false) h21)) (
 K (.bool false) h17)) (
 K (.bool false) h13)) (
 K (.bool false) h9)
def A121 : Ann := ⟨fun _ => ([], []), fun _ => []⟩
theorem S121_T {a0 : Value} {h : GH} {K : Value → GH → Prop} (g : S121 a0 h K) : T Tryz.prog 121 [a0] h K :=
  T_of_gwp (A := A121) Tryz.func121 (c := bodyOf Tryz.f121) (by kernel_rfl) (by kernel_rfl) (by kernel_rfl) (by kernel_rfl) (by kernel_rfl) (Eq.mp (by kernel_rfl) g)
def S122 (a0 : Value) (h : GH) (K : Value → GH → Prop) : Prop :=
 bnd (binV .lss a0 (.int .i64 10)) fun v1 =>
 ifV v1 (
 bnd (binV .add a0 (.int .i64 1)) fun v2 =>
 bnd (ssV (.string ⟨#[48, 49, 50, 51, 52, 53, 54, 55, 56, 57, 97, 98, 99, 100, 101, 102, 103, 104, 105, 106, 107, 108, 109, 110, 111, 112, 113, 114, 115, 116, 117, 118, 119, 120, 121, 122]⟩) (some a0) (some v2)) fun v3 =>
 K v3 h) (
 bnd (binV .mul a0 (.int .i64 2)) fun v4 =>
 bnd (binV .mul a0 (.int .i64 2)) fun v5 =>
 bnd (binV .add v5 (.int .i64 2)) fun v6 =>
 bnd (ssV (.string ⟨#[48, 48, 48, 49, 48, 50, 48, 51, 48, 52, 48, 53, 48, 54, 48, 55, 48, 56, 48, 57, 49, 48, 49, 49, 49, 50, 49, 51, 49, 52, 49, 53, 49, 54, 49, 55, 49, 56, 49, 57, 50, 48, 50, 49, 50, 50, 50, 51, 50, 52, 50, 53, 50, 54, 50, 55, 50, 56, 50, 57, 51, 48, 51, 49, 51, 50, 51, 51, 51, 52, 51, 53, 51, 54, 51, 55, 51, 56, 51, 57, 52, 48, 52, 49, 52, 50, 52, 51, 52, 52, 52, 53, 52, 54, 52, 55, 52, 56, 52, 57, 53, 48, 53, 49, 53, 50, 53, 51, 53, 52, 53, 53, 53, 54, 53, 55, 53, 56, 53, 57, 54, 48, 54, 49, 54, 50, 54, 51, 54, 52, 54, 53, 54, 54, 54, 55, 54, 56, 54, 57, 55, 48, 55, 49, 55, 50, 55, 51, 55, 52, 55, 53, 55, 54, 55, 55, 55, 56, 55, 57, 56, 48, 56, 49, 56, 50, 56, 51, 56, 52, 56, 53, 56, 54, 56, 55, 56, 56, 56, 57, 57, 48, 57, 49, 57, 50, 57, 51, 57, 52, 57, 53, 57, 54, 57, 55, 57, 56, 57, 57]⟩) (some v4) (some v6)) fun v7 =>
 K v7 h)
def A122 : Ann := ⟨fun _ => ([], []), fun _ => []⟩
theorem S122_T {a0 : Value} {h : GH} {K : Value → GH → Prop} (g : S122 a0 h K) : T Tryz.prog 122 [a0] h K :=
  T_of_gwp (A := A122) Tryz.func122 (c := bodyOf Tryz.f122) (by kernel_rfl) (by kernel_rfl) (by kernel_rfl) (by kernel_rfl) (by kernel_rfl) (Eq.mp (by kernel_rfl) g)
def A126 : Ann := ⟨fun | 3 => ([0, 1, 2, 3, 4, 5, 6, 7, 8, 9, 10, 11, 12, 13, 14, 15], [0, 0, 0, 0, 0, 0, 48, 112, 0, 0, 768, 1792, 4083, 8179, 16383, 32767]) | _ => ([], []), fun | 0 => [0, 2, 3] | _ => []⟩
def S127 (a0 a1 a2 : Value) (h : GH) (K : Value → GH → Prop) : Prop :=
 newV 3 (a2 : Value).cells.toList h fun v1 h2 =>
 T Tryz.prog 146 [a0, (.int .i64 1), a1, (.func (.func 147) #[] #[v1])] h2 fun v3 h4 =>
 bnd (exV v3 0) fun v5 =>
 bnd (exV v3 1) fun v6 =>
 K (.tuple #[v5, v6]) h4
def A127 : Ann := ⟨fun _ => ([], []), fun _ => []⟩
theorem S127_T {a0 a1 a2 : Value} {h : GH} {K : Value → GH → Prop} (g : S127 a0 a1 a2 h K) : T Tryz.prog 127 [a0, a1, a2] h K :=
  T_of_gwp (A := A127) Tryz.func127 (c := bodyOf Tryz.f127) (by kernel_rfl) (by kernel_rfl) (by kernel_rfl) (by kernel_rfl) (by kernel_rfl) (Eq.mp (by kernel_rfl) g)
def S128 (a0 a1 : Value) (h : GH) (K : Value → GH → Prop) : Prop :=
 T Tryz.prog 146 [a0, (.int .i64 0), a1, (.func (.func 148) #[] #[])] h fun v1 h2 =>
 bnd (exV v1 0) fun v3 =>
 bnd (exV v1 1) fun v4 =>
 K (.tuple #[v3, v4]) h2
def A128 : Ann := ⟨fun _ => ([], []), fun _ => []⟩
theorem S128_T {a0 a1 : Value} {h : GH} {K : Value → GH → Prop} (g : S128 a0 a1 h K) : T Tryz.prog 128 [a0, a1] h K :=
  T_of_gwp (A := A128) Tryz.func128 (c := bodyOf Tryz.f128) (by kernel_rfl) (by kernel_rfl) (by kernel_rfl) (by kernel_rfl) (by kernel_rfl) (Eq.mp (by kernel_rfl) g)
def S129 (a0 : Value) (h : GH) (K : Value → GH → Prop) : Prop :=
 T Tryz.prog 85 [a0] h fun v1 h2 =>
 bnd (exV v1 0) fun v3 =>
 bnd (exV v1 1) fun v4 =>
 ifV v4 (
 bnd (binV .lss v3 (.int .i64 1073741823)) fun v5 =>
 K (.tuple #[v3, v5]) h2) (
 K (.tuple #[v3, (.bool false)]) h2)
def A129 : Ann := ⟨fun _ => ([], []), fun _ => []⟩
theorem S129_T {a0 : Value} {h : GH} {K : Value → GH → Prop} (g : S129 a0 h K) : T Tryz.prog 129 [a0] h K :=
  T_of_gwp (A := A129) Tryz.func129 (c := bodyOf Tryz.f129) (by kernel_rfl) (by kernel_rfl) (by kernel_rfl) (by kernel_rfl) (by kernel_rfl) (Eq.mp (by kernel_rfl) g)
def S130 (a0 a1 : Value) (h : GH) (K : Value → GH → Prop) : Prop :=
 bnd (lnV a0) fun v1 =>
 Lfp (fun (s2 : Nat → Value) h3 again4 =>
 bnd (binV .lss (s2 3) (s2 2)) fun v5 =>
 ifV v5 (
 bnd (isV 2 (s2 0) (s2 3)) fun v6 =>
 bnd (ldV 2 true v6 h3) fun v7 =>
 callV Tryz.prog (s2 1) [v7] h3 fun v8 h9 =>
 ifV v8 (
 K (s2 3) h9) (
 bnd (binV .add (s2 3) (.int .i64 1)) fun v10 =>
 again4 (tup [(s2 0), (s2 1), (s2 2), v10]) h9)) (
 K (.int .i64 (-1)) h3)) (tup [a0, a1, v1, (.int .i64 0)]) h
def A130 : Ann := ⟨fun _ => ([], []), fun | 0 => [0, 1, 7, 8] | _ => []⟩
theorem S130_T {a0 a1 : Value} {h : GH} {K : Value → GH → Prop} (g : S130 a0 a1 h K) : T Tryz.prog 130 [a0, a1] h K :=
  T_of_gwp (A := A130) Tryz.func130 (c := bodyOf Tryz.f130) (by kernel_rfl) (by kernel_rfl) (by kernel_rfl) (by kernel_rfl) (by kernel_rfl) (Eq.mp (by kernel_rfl) g)
def S131 (a0 a1 : Value) (h : GH) (K : Value → GH → Prop) : Prop :=
 bnd (ncV a0) fun v1 =>
 bnd (faV 0 v1) fun v2 =>
 bnd (ldV 1 false v2 h) fun v3 =>
 bnd (ncV a0) fun v4 =>
 bnd (faV 2 v4) fun v5 =>
 bnd (ldV 1 false v5 h) fun v6 =>
 bnd (ncV v6) fun v7 =>
 bnd (iaV 12 1 v7 a1) fun v8 =>
 bnd (ldV 1 false v8 h) fun v9 =>
 bnd (binV .add v9 (.int .i64 1)) fun v10 =>
 bnd (ncV v6) fun v11 =>
 bnd (iaV 12 1 v11 a1) fun v12 =>
 bnd (stV 1 v12 v10 h) fun h13 =>
 bnd (ncV v3) fun v14 =>
 bnd (faV 14 v14) fun v15 =>
 bnd (stV 1 v15 a1 h13) fun h16 =>
 bnd (ncV v3) fun v17 =>
 bnd (faV 0 v17) fun v18 =>
 bnd (ldV 1 false v18 h16) fun v19 =>
 bnd (ncV v3) fun v20 =>
 bnd (faV 10 v20) fun v21 =>
 bnd (ldV 1 false v21 h16) fun v22 =>
 bnd (ncV a0) fun v23 =>
 bnd (faV 2 v23) fun v24 =>
 bnd (ldV 1 false v24 h16) fun v25 =>
 bnd (ncV v25) fun v26 =>
 bnd (iaV 12 1 v26 a1) fun v27 =>
 bnd (ldV 1 false v27 h16) fun v28 =>
 bnd (ncV v3) fun v29 =>
 bnd (faV 4 v29) fun v30 =>
 bnd (ldV 1 false v30 h16) fun v31 =>
 T Tryz.prog 88 [v3] h16 fun v32 h33 =>
 ldV 1 false v30 h33 = some v31 ∧
 ldV 1 false v27 h33 = some v28 ∧
 ldV 1 false v24 h33 = some v25 ∧
 ldV 1 false v21 h33 = some v22 ∧
 ldV 1 false v18 h33 = some v19 ∧
 bnd (ncV v32) fun v34 =>
 bnd (faV 1 v34) fun v35 =>
 bnd (ldV 1 false v35 h33) fun v36 =>
 bnd (isV 1 v31 v36) fun v37 =>
 bnd (faV 0 v37) fun v38 =>
 bnd (ldV 1 false v38 h33) fun v39 =>
 T Tryz.prog 149 [v19, v22, a1, v28, v39] h33 fun v40 h41 =>
 bnd (exV v40 0) fun v42 =>
 bnd (exV v40 1) fun v43 =>
 bnd (ncV v3) fun v44 =>
 bnd (faV 18 v44) fun v45 =>
 bnd (stV 1 v45 v42 h41) fun h46 =>
 bnd (ncV v3) fun v47 =>
 bnd (faV 6 v47) fun v48 =>
 bnd (stV 1 v48 (.func (.func 132) #[] #[]) h46) fun h49 =>
 K (.tuple #[]) h49
def A131 : Ann := ⟨fun | 1 => ([0, 1, 2, 3, 4, 5, 6, 7, 8, 9, 10, 11], [0, 1, 3, 7, 0, 15, 63, 127, 255, 15, 1023, 2047]) | 3 => ([0, 1, 2, 3, 4, 5, 6, 7, 8, 9, 10, 11, 12, 13, 14, 15, 16, 17, 18, 19, 20, 21, 22, 23, 24, 25, 26, 27, 28, 29, 30, 31, 32, 33, 34, 35, 36], [0, 0, 2, 6, 14, 0, 32, 96, 224, 0, 0, 1024, 3072, 7168, 0, 15360, 64512, 130048, 0, 262144, 786432, 1835008, 0, 4194304, 12582912, 29360128, 62914560, 133955584, 268173312, 536608768, 1073741822, 2147483646, 4294967294, 4294967294, 8589934591, 25769803775, 60129542143]) | _ => ([], []), fun _ => []⟩
theorem S131_T {a0 a1 : Value} {h : GH} {K : Value → GH → Prop} (g : S131 a0 a1 h K) : T Tryz.prog 131 [a0, a1] h K :=
  T_of_gwp (A := A131) Tryz.func131 (c := bodyOf Tryz.f131) (by kernel_rfl) (by kernel_rfl) (by kernel_rfl) (by kernel_rfl) (by kernel_rfl) (Eq.mp (by kernel_rfl) g)
def S132 (a0 : Value) (h : GH) (K : Value → GH → Prop) : Prop :=
 bnd (ncV a0) fun v1 =>
 bnd (faV 0 v1) fun v2 =>
 bnd (ldV 1 false v2 h) fun v3 =>
 bnd (ncV v3) fun v4 =>
 bnd (faV 18 v4) fun v5 =>
 bnd (ldV 1 false v5 h) fun v6 =>
 bnd (eqK .ptr true v6 (.pointer none)) fun b7 =>
 ifV (.bool b7) (
 K (.int .i64 1800) h) (
 bnd (ncV v3) fun v8 =>
 bnd (faV 18 v8) fun v9 =>
 bnd (ldV 1 false v9 h) fun v10 =>
 bnd (ncV a0) fun v11 =>
 bnd (faV 1 v11) fun v12 =>
 bnd (ldV 1 false v12 h) fun v13 =>
 T Tryz.prog 150 [v10, v13] h fun v14 h15 =>
 bnd (exV v14 0) fun v16 =>
 bnd (exV v14 1) fun v17 =>
 bnd (ncV v3) fun v18 =>
 bnd (faV 18 v18) fun v19 =>
 bnd (ldV 1 false v19 h15) fun v20 =>
 T Tryz.prog 151 [v20] h15 fun v21 h22 =>
 bnd (exV v21 0) fun v23 =>
 bnd (exV v21 1) fun v24 =>
 bnd (ncV v3) fun v25 =>
 bnd (faV 21 v25) fun v26 =>
 bnd (faV 0 v26) fun v27 =>
 bnd (stV 1 v27 v23 h22) fun h28 =>
 bnd (ncV v3) fun v29 =>
 bnd (faV 21 v29) fun v30 =>
 bnd (faV 1 v30) fun v31 =>
 bnd (stV 1 v31 v24 h28) fun h32 =>
 bnd (ncV v3) fun v33 =>
 bnd (faV 18 v33) fun v34 =>
 bnd (ldV 1 false v34 h32) fun v35 =>
 T Tryz.prog 152 [v35] h32 fun v36 h37 =>
 bnd (ncV v3) fun v38 =>
 bnd (faV 10 v38) fun v39 =>
 bnd (stV 1 v39 v36 h37) fun h40 =>
 ifV v16 (
 bnd (ncV v3) fun v41 =>
 bnd (faV 6 v41) fun v42 =>
 bnd (stV 1 v42 (.func (.func 153) #[] #[]) h40) fun h43 =>
 K v17 h43) (
 K v17 h40))
def A132 : Ann := ⟨fun | 4 => ([0, 1, 2, 3, 4, 5, 6, 7, 8, 9, 10, 11, 12, 13], [0, 1, 3, 7, 0, 16, 48, 112, 255, 511, 1023, 1023, 2047, 8191]) | _ => ([], []), fun _ => []⟩
theorem S132_T {a0 : Value} {h : GH} {K : Value → GH → Prop} (g : S132 a0 h K) : T Tryz.prog 132 [a0] h K :=
  T_of_gwp (A := A132) Tryz.func132 (c := bodyOf Tryz.f132) (by kernel_rfl) (by kernel_rfl) (by kernel_rfl) (by kernel_rfl) (by kernel_rfl) (Eq.mp (by kernel_rfl) g)
def S133 (h : GH) (K : Value → GH → Prop) : Prop :=
 bnd (fillV [(.int .i64 0), (.int .i64 0), (.int .i64 0), (.int .i64 0), (.bool false), (.int .i64 0), (.int .i64 0)] [(6, 1, (.int .i64 (-1)))]) fun c1 =>
 newV 248 ((.agg c1.toArray) : Value).cells.toList h fun v2 h3 =>
 K v2 h3
def A133 : Ann := ⟨fun _ => ([], []), fun _ => []⟩
theorem S133_T {h : GH} {K : Value → GH → Prop} (g : S133 h K) : T Tryz.prog 133 [] h K :=
  T_of_gwp (A := A133) Tryz.func133 (c := bodyOf Tryz.f133) (by kernel_rfl) (by kernel_rfl) (by kernel_rfl) (by kernel_rfl) (by kernel_rfl) (Eq.mp (by kernel_rfl) g)
def S134 (a0 a1 : Value) (h : GH) (K : Value → GH → Prop) : Prop :=
 newV 117 (a0 : Value).cells.toList h fun v1 h2 =>
 newV 71 (a1 : Value).cells.toList h2 fun v3 h4 =>
 bnd (ldV 1 false v1 h4) fun v5 =>
 bnd (eqK .ptr true v5 (.pointer none)) fun b6 =>
 ifV (.bool b6) (
 K (.tuple #[(.bool false), (.int .i64 1)]) h4) (
 bnd (ldV 1 false v1 h4) fun v7 =>
 bnd (ncV v7) fun v8 =>
 bnd (faV 0 v8) fun v9 =>
 bnd (ldV 1 false v3 h4) fun v10 =>
 T Tryz.prog 137 [v9, v10, (.func (.func 154) #[] #[v1, v3])] h4 fun v11 h12 =>
 bnd (exV v11 0) fun v13 =>
 bnd (exV v11 1) fun v14 =>
 K (.tuple #[v13, v14]) h12)
def A134 : Ann := ⟨fun | 3 => ([0, 1, 2, 3, 4, 5, 6, 7, 8, 9], [0, 1, 3, 0, 0, 31, 63, 63, 255, 511]) | _ => ([], []), fun _ => []⟩
theorem S134_T {a0 a1 : Value} {h : GH} {K : Value → GH → Prop} (g : S134 a0 a1 h K) : T Tryz.prog 134 [a0, a1] h K :=
  T_of_gwp (A := A134) Tryz.func134 (c := bodyOf Tryz.f134) (by kernel_rfl) (by kernel_rfl) (by kernel_rfl) (by kernel_rfl) (by kernel_rfl) (Eq.mp (by kernel_rfl) g)
def S135 (a0 : Value) (h : GH) (K : Value → GH → Prop) : Prop :=
 bnd (eqK .ptr true a0 (.pointer none)) fun b1 =>
 ifV (.bool b1) (
 K (.int .i64 0) h) (
 bnd (ncV a0) fun v2 =>
 bnd (faV 6 v2) fun v3 =>
 bnd (ldV 1 false v3 h) fun v4 =>
 K v4 h)
def A135 : Ann := ⟨fun _ => ([], []), fun _ => []⟩
theorem S135_T {a0 : Value} {h : GH} {K : Value → GH → Prop} (g : S135 a0 h K) : T Tryz.prog 135 [a0] h K :=
  T_of_gwp (A := A135) Tryz.func135 (c := bodyOf Tryz.f135) (by kernel_rfl) (by kernel_rfl) (by kernel_rfl) (by kernel_rfl) (by kernel_rfl) (Eq.mp (by kernel_rfl) g)
def S136 (a0 : Value) (h : GH) (K : Value → GH → Prop) : Prop :=
 bnd (ncV a0) fun v1 =>
 bnd (faV 0 v1) fun v2 =>
 bnd (ldV 1 false v2 h) fun v3 =>
 bnd (ncV v3) fun v4 =>
 bnd (faV 1 v4) fun v5 =>
 bnd (ldV 1 false v5 h) fun v6 =>
 T Tryz.prog 155 [v6] h fun v7 h8 =>
 bnd (exV v7 0) fun v9 =>
 bnd (exV v7 1) fun v10 =>
 bnd (ncV v3) fun v11 =>
 bnd (faV 19 v11) fun v12 =>
 bnd (stV 1 v12 v9 h8) fun h13 =>
 bnd (ncV v3) fun v14 =>
 bnd (faV 6 v14) fun v15 =>
 bnd (stV 1 v15 (.func (.func 156) #[] #[]) h13) fun h16 =>
 bnd (ncV a0) fun v17 =>
 bnd (faV 1 v17) fun v18 =>
 bnd (ldV 1 false v18 h16) fun v19 =>
 bnd (ncV v3) fun v20 =>
 bnd (faV 0 v20) fun v21 =>
 bnd (ldV 1 false v21 h16) fun v22 =>
 T Tryz.prog 157 [v19, v22] h16 fun v23 h24 =>
 K v23 h24
def A136 : Ann := ⟨fun | 4 => ([0, 1, 2, 3, 4, 5, 6, 7, 8, 9], [0, 1, 3, 7, 0, 16, 48, 112, 255, 511]) | _ => ([], []), fun _ => []⟩
theorem S136_T {a0 : Value} {h : GH} {K : Value → GH → Prop} (g : S136 a0 h K) : T Tryz.prog 136 [a0] h K :=
  T_of_gwp (A := A136) Tryz.func136 (c := bodyOf Tryz.f136) (by kernel_rfl) (by kernel_rfl) (by kernel_rfl) (by kernel_rfl) (by kernel_rfl) (Eq.mp (by kernel_rfl) g)
def S137 (a0 a1 a2 : Value) (h : GH) (K : Value → GH → Prop) : Prop :=
 bnd (eqK .ptr true a1 (.pointer none)) fun b1 =>
 ifV (.bool b1) (
 K (.tuple #[(.bool false), (.int .i64 1)]) h) (
 bnd (ncV a0) fun v2 =>
 bnd (faV 4 v2) fun v3 =>
 bnd (ldV 1 false v3 h) fun v4 =>
 ifV v4 (
 K (.tuple #[(.bool true), (.int .i64 0)]) h) (
 callV Tryz.prog a2 [] h fun v5 h6 =>
 bnd (ncV a0) fun v7 =>
 bnd (faV 4 v7) fun v8 =>
 bnd (ldV 1 false v8 h6) fun v9 =>
 ifV v9 (
 bnd (ncV a0) fun v10 =>
 bnd (faV 4 v10) fun v11 =>
 bnd (stV 1 v11 (.bool true) h6) fun h12 =>
 bnd (ncV a0) fun v13 =>
 bnd (faV 4 v13) fun v14 =>
 bnd (ldV 1 false v14 h12) fun v15 =>
 K (.tuple #[v15, v5]) h12) (
 bnd (eqI v5 (.int .i64 0)) fun b16 =>
 bnd (ncV a0) fun v17 =>
 bnd (faV 4 v17) fun v18 =>
 bnd (stV 1 v18 (.bool (!b16)) h6) fun h19 =>
 bnd (ncV a0) fun v20 =>
 bnd (faV 4 v20) fun v21 =>
 bnd (ldV 1 false v21 h19) fun v22 =>
 K (.tuple #[v22, v5]) h19)))
def A137 : Ann := ⟨fun _ => ([], []), fun _ => []⟩
theorem S137_T {a0 a1 a2 : Value} {h : GH} {K : Value → GH → Prop} (g : S137 a0 a1 a2 h K) : T Tryz.prog 137 [a0, a1, a2] h K :=
  T_of_gwp (A := A137) Tryz.func137 (c := bodyOf Tryz.f137) (by kernel_rfl) (by kernel_rfl) (by kernel_rfl) (by kernel_rfl) (by kernel_rfl) (Eq.mp (by kernel_rfl) g)
def S138 (a0 a1 : Value) (h : GH) (K : Value → GH → Prop) : Prop :=
 bnd (ldV 1 false a0 h) fun v1 =>
 bnd (ncV v1) fun v2 =>
 bnd (faV 0 v2) fun v3 =>
 bnd (faV 0 v3) fun v4 =>
 bnd (ldV 1 false v4 h) fun v5 =>
 bnd (eqI v5 (.int .i64 0)) fun b6 =>
 ifV (.bool b6) (
 bnd (ldV 1 false a0 h) fun v7 =>
 bnd (ncV v7) fun v8 =>
 bnd (faV 0 v8) fun v9 =>
 bnd (ldV 1 false a1 h) fun v10 =>
 T Tryz.prog 139 [v9, v10] h fun v11 h12 =>
 bnd (unV .not v11) fun v13 =>
 ifV v13 (
 K (.int .i64 1000) h12) (
 K (.int .i64 0) h12)) (
 bnd (eqI v5 (.int .i64 1)) fun b14 =>
 ifV (.bool b14) (
 bnd (ldV 1 false a1 h) fun v15 =>
 bnd (ldV 1 false a0 h) fun v16 =>
 bnd (ncV v16) fun v17 =>
 bnd (faV 5 v17) fun v18 =>
 bnd (ldV 1 false v18 h) fun v19 =>
 bnd (binV .add (.int .i64 17) v19) fun v20 =>
 bnd (ldV 1 false a0 h) fun v21 =>
 bnd (ncV v21) fun v22 =>
 bnd (faV 0 v22) fun v23 =>
 bnd (faV 2 v23) fun v24 =>
 bnd (faV 1 v24) fun v25 =>
 bnd (ldV 1 false v25 h) fun v26 =>
 T Tryz.prog 81 [v26] h fun v27 h28 =>
 ldV 1 false v18 h28 = some v19 ∧
 ldV 1 false a0 h28 = some v16 ∧
 ldV 1 false a1 h28 = some v15 ∧
 T Tryz.prog 127 [v15, v20, v27] h28 fun v29 h30 =>
 bnd (ldV 1 false a0 h30) fun v31 =>
 bnd (ncV v31) fun v32 =>
 bnd (faV 0 v32) fun v33 =>
 bnd (faV 0 v33) fun v34 =>
 bnd (stV 1 v34 (.int .i64 2) h30) fun h35 =>
 K (.int .i64 0) h35) (
 bnd (ldV 1 false a0 h) fun v36 =>
 bnd (ldV 1 false a0 h) fun v37 =>
 bnd (ncV v37) fun v38 =>
 bnd (faV 0 v38) fun v39 =>
 bnd (ldV 1 false a1 h) fun v40 =>
 bnd (ldV 1 false a0 h) fun v41 =>
 bnd (ncV v41) fun v42 =>
 bnd (faV 5 v42) fun v43 =>
 bnd (ldV 1 false v43 h) fun v44 =>
 bnd (binV .add v44 (.int .i64 1)) fun v45 =>
 T Tryz.prog 140 [v39, v40, v45] h fun v46 h47 =>
 ldV 1 false a0 h47 = some v36 ∧
 bnd (ncV v36) fun v48 =>
 bnd (faV 0 v48) fun v49 =>
 bnd (faV 4 v49) fun v50 =>
 bnd (stV 1 v50 v46 h47) fun h51 =>
 K (.int .i64 0) h51))
def A138 : Ann := ⟨fun | 2 => ([0, 1, 2, 3, 4, 5, 6, 7, 8, 9, 10, 11, 12, 13, 14], [0, 0, 2, 6, 0, 0, 32, 96, 224, 480, 1022, 2047, 4095, 8191, 16383]) | 4 => ([0, 1, 2, 3, 4, 5], [0, 1, 3, 0, 15, 31]) | 7 => ([0, 1, 2, 3, 4, 5, 6, 7, 8, 9, 10, 11, 12, 13], [0, 0, 2, 6, 14, 30, 0, 64, 192, 448, 960, 1984, 4032, 8191]) | _ => ([], []), fun _ => []⟩
theorem S138_T {a0 a1 : Value} {h : GH} {K : Value → GH → Prop} (g : S138 a0 a1 h K) : T Tryz.prog 138 [a0, a1] h K :=
  T_of_gwp (A := A138) Tryz.func138 (c := bodyOf Tryz.f138) (by kernel_rfl) (by kernel_rfl) (by kernel_rfl) (by kernel_rfl) (by kernel_rfl) (Eq.mp (by kernel_rfl) g)
def S139 (a0 a1 : Value) (h : GH) (K : Value → GH → Prop) : Prop :=
 T Tryz.prog 128 [a1, (.int .i64 16)] h fun v1 h2 =>
 bnd (exV v1 0) fun v3 =>
 bnd (exV v1 1) fun v4 =>
 bnd (ncV a0) fun v5 =>
 bnd (faV 1 v5) fun v6 =>
 bnd (stV 1 v6 v3 h2) fun h7 =>
 bnd (ncV a0) fun v8 =>
 bnd (faV 1 v8) fun v9 =>
 bnd (ldV 1 false v9 h7) fun v10 =>
 T Tryz.prog 68 [v10] h7 fun v11 h12 =>
 bnd (exV v11 0) fun v13 =>
 bnd (exV v11 1) fun v14 =>
 newV 162 [(.int .i64 0), (.int .i64 0)] h12 fun v15 h16 =>
 bnd (stV 2 v15 v13 h16) fun h17 =>
 bnd (ldV 2 true v15 h17) fun v18 =>
 bnd (ncV a0) fun v19 =>
 bnd (faV 2 v19) fun v20 =>
 bnd (stV 2 v20 v18 h17) fun h21 =>
 bnd (ncV a0) fun v22 =>
 bnd (faV 0 v22) fun v23 =>
 bnd (stV 1 v23 (.int .i64 1) h21) fun h24 =>
 K v14 h24
def A139 : Ann := ⟨fun _ => ([], []), fun _ => []⟩
theorem S139_T {a0 a1 : Value} {h : GH} {K : Value → GH → Prop} (g : S139 a0 a1 h K) : T Tryz.prog 139 [a0, a1] h K :=
  T_of_gwp (A := A139) Tryz.func139 (c := bodyOf Tryz.f139) (by kernel_rfl) (by kernel_rfl) (by kernel_rfl) (by kernel_rfl) (by kernel_rfl) (Eq.mp (by kernel_rfl) g)
def S140 (a0 a1 a2 : Value) (h : GH) (K : Value → GH → Prop) : Prop :=
 bnd (ncV a0) fun v1 =>
 bnd (faV 1 v1) fun v2 =>
 bnd (ldV 1 false v2 h) fun v3 =>
 bnd (ncV a0) fun v4 =>
 bnd (faV 2 v4) fun v5 =>
 bnd (ldV 2 true v5 h) fun v6 =>
 T Tryz.prog 159 [v6, a2] h fun v7 h8 =>
 ldV 1 false v2 h8 = some v3 ∧
 T Tryz.prog 158 [a1, (.int .i64 16), v3, v7] h8 fun v9 h10 =>
 bnd (exV v9 0) fun v11 =>
 bnd (exV v9 1) fun v12 =>
 bnd (ncV a0) fun v13 =>
 bnd (faV 0 v13) fun v14 =>
 bnd (stV 1 v14 (.int .i64 0) h10) fun h15 =>
 bnd (ncV a0) fun v16 =>
 bnd (faV 1 v16) fun v17 =>
 bnd (ldV 1 false v17 h15) fun v18 =>
 bnd (eqI v11 v18) fun b19 =>
 K (.bool b19) h15
def A140 : Ann := ⟨fun | 1 => ([0, 1, 2, 3, 4, 5, 6, 7, 8, 9, 10, 11, 12, 13, 14, 15, 16], [0, 0, 2, 6, 14, 0, 32, 96, 224, 0, 992, 2047, 4095, 8191, 8191, 16383, 65535]) | _ => ([], []), fun _ => []⟩
theorem S140_T {a0 a1 a2 : Value} {h : GH} {K : Value → GH → Prop} (g : S140 a0 a1 a2 h K) : T Tryz.prog 140 [a0, a1, a2] h K :=
  T_of_gwp (A := A140) Tryz.func140 (c := bodyOf Tryz.f140) (by kernel_rfl) (by kernel_rfl) (by kernel_rfl) (by kernel_rfl) (by kernel_rfl) (Eq.mp (by kernel_rfl) g)
def S146 (a0 a1 a2 a3 : Value) (h : GH) (K : Value → GH → Prop) : Prop :=
 bnd (eqK .ptr true a0 (.pointer none)) fun b1 =>
 ifV (.bool b1) (
 K (.tuple #[(.int .i64 0), (.int .i64 1)]) h) (
 T Tryz.prog 23 [a2, (.int .i64 634)] h fun v2 h3 =>
 bnd (unV .not v2) fun v4 =>
 ifV v4 (
 K (.tuple #[(.int .i64 0), (.int .i64 200)]) h3) (
 bnd (ncV a0) fun v5 =>
 bnd (faV 0 v5) fun v6 =>
 bnd (iaV 634 1 v6 a2) fun v7 =>
 bnd (ldV 1 false v7 h3) fun v8 =>
 bnd (ncV a0) fun v9 =>
 bnd (faV 0 v9) fun v10 =>
 callV Tryz.prog a3 [v8] h3 fun v11 h12 =>
 bnd (iaV 634 1 v10 a2) fun v13 =>
 bnd (stV 1 v13 v11 h12) fun h14 =>
 bnd (ncV a0) fun v15 =>
 bnd (faV 0 v15) fun v16 =>
 bnd (iaV 634 1 v16 a2) fun v17 =>
 bnd (ldV 1 false v17 h14) fun v18 =>
 bnd (fillV [(.int .i64 0), (.int .i64 0), (.int .i64 0), (.int .i64 0), (.int .i64 0), (.int .i64 0), (.int .i64 0), (.int .i64 0)] [(1, 1, a1), (2, 1, a2), (3, 1, v8), (4, 1, v18)]) fun c19 =>
 bnd (ncV a0) fun v20 =>
 bnd (faV 634 v20) fun v21 =>
 bnd (stV 8 v21 (.agg c19.toArray) h14) fun h22 =>
 bnd (ncV a0) fun v23 =>
 bnd (faV 642 v23) fun v24 =>
 bnd (stV 1 v24 (.bool true) h22) fun h25 =>
 K (.tuple #[v8, (.int .i64 0)]) h25))
def A146 : Ann := ⟨fun | 6 => ([0, 1, 2, 3, 5, 6, 4, 7, 8], [0, 0, 0, 0, 12, 1, 33, 127, 255]) | _ => ([], []), fun _ => []⟩
theorem S146_T {a0 a1 a2 a3 : Value} {h : GH} {K : Value → GH → Prop} (g : S146 a0 a1 a2 a3 h K) : T Tryz.prog 146 [a0, a1, a2, a3] h K :=
  T_of_gwp (A := A146) Tryz.func146 (c := bodyOf Tryz.f146) (by kernel_rfl) (by kernel_rfl) (by kernel_rfl) (by kernel_rfl) (by kernel_rfl) (Eq.mp (by kernel_rfl) g)
def S147 (a0 a1 : Value) (h : GH) (K : Value → GH → Prop) : Prop :=
 bnd (ldV 1 false a1 h) fun v1 =>
 K v1 h
def A147 : Ann := ⟨fun _ => ([], []), fun _ => []⟩
theorem S147_T {a0 a1 : Value} {h : GH} {K : Value → GH → Prop} (g : S147 a0 a1 h K) : T Tryz.prog 147 [a0, a1] h K :=
  T_of_gwp (A := A147) Tryz.func147 (c := bodyOf Tryz.f147) (by kernel_rfl) (by kernel_rfl) (by kernel_rfl) (by kernel_rfl) (by kernel_rfl) (Eq.mp (by kernel_rfl) g)
def S148 (a0 : Value) (h : GH) (K : Value → GH → Prop) : Prop :=
 K a0 h
def A148 : Ann := ⟨fun _ => ([], []), fun _ => []⟩
theorem S148_T {a0 : Value} {h : GH} {K : Value → GH → Prop} (g : S148 a0 h K) : T Tryz.prog 148 [a0] h K :=
  T_of_gwp (A := A148) Tryz.func148 (c := bodyOf Tryz.f148) (by kernel_rfl) (by kernel_rfl) (by kernel_rfl) (by kernel_rfl) (by kernel_rfl) (Eq.mp (by kernel_rfl) g)
def S149_j1 (x0 x1 x2 x3 x4 x12 : Value) (h : GH) (K : Value → GH → Prop)  : Prop :=
 bnd (fillV [(.int .i64 0), (.int .i64 0)] [(0, 1, x2), (1, 1, x3)]) fun c1 =>
 bnd (ldV 50 true x12 h) fun v2 =>
 T Tryz.prog 82 [x4] h fun v3 h4 =>
 ldV 50 true x12 h4 = some v2 ∧
 bnd (fillV ([(.int .i64 0), (.int .i64 0), (.int .i64 0), (.int .i64 0), (.slice none 0 0), (.int .i64 0)] ++ List.replicate 16 (.bool false) ++ List.replicate 32 (.int .i64 0) ++ [(.slice none 0 0), .nilIface, (.int .i64 0), (.int .i64 0), (.bool false), (.bool false), (.slice none 0 0)]) [(0, 1, x0), (1, 1, x1), (2, 2, (.agg c1.toArray)), (4, 1, v3), (5, 50, v2), (56, 1, (.int .i64 (-1)))]) fun c5 =>
 newV 266 ((.agg c5.toArray) : Value).cells.toList h4 fun v6 h7 =>
 T Tryz.prog 164 [v6] h7 fun v8 h9 =>
 bnd (ncV v6) fun v10 =>
 bnd (faV 55 v10) fun v11 =>
 bnd (stV 1 v11 v8 h9) fun h12 =>
 K (.tuple #[v6, (.int .i64 0)]) h12
def S149 (a0 a1 a2 a3 a4 : Value) (h : GH) (K : Value → GH → Prop) : Prop :=
 bnd (fillV (List.replicate 16 (.bool false) ++ List.replicate 32 (.int .i64 0)) []) fun c1 =>
 T Tryz.prog 162 [(.agg c1.toArray), a4] h fun v2 h3 =>
 bnd (exV v2 0) fun v4 =>
 bnd (exV v2 1) fun v5 =>
 newV 260 ([(.int .i64 0)] ++ List.replicate 16 (.bool false) ++ List.replicate 32 (.int .i64 0) ++ [(.slice none 0 0)]) h3 fun v6 h7 =>
 bnd (stV 50 v6 v4 h7) fun h8 =>
 T Tryz.prog 101 [a0] h8 fun v9 h10 =>
 bnd (unV .not v9) fun v11 =>
 ifV v11 (
 K (.tuple #[(.pointer none), (.int .i64 1700)]) h10) (
 T Tryz.prog 23 [a1, (.int .i64 1048576)] h10 fun v12 h13 =>
 bnd (unV .not v12) fun v14 =>
 ifV v14 (
 K (.tuple #[(.pointer none), (.int .i64 1700)]) h13) (
 T Tryz.prog 163 [a2, a3] h13 fun v15 h16 =>
 bnd (unV .not v15) fun v17 =>
 ifV v17 (
 K (.tuple #[(.pointer none), (.int .i64 1700)]) h16) (
 bnd (eqI v5 (.int .i64 0)) fun b18 =>
 ifV (.bool (!b18)) (
 K (.tuple #[(.pointer none), (.int .i64 1700)]) h16) (
 S149_j1 a0 a1 a2 a3 a4 v6 h16 K ))))
def A149 : Ann := ⟨fun | 4 => ([0, 1, 2, 3, 4, 5, 7, 6, 8, 9, 10], [0, 0, 0, 0, 12, 0, 32, 0, 255, 511, 1023]) | _ => ([], []), fun _ => []⟩
theorem S149_T {a0 a1 a2 a3 a4 : Value} {h : GH} {K : Value → GH → Prop} (g : S149 a0 a1 a2 a3 a4 h K) : T Tryz.prog 149 [a0, a1, a2, a3, a4] h K :=
  T_of_gwp (A := A149) Tryz.func149 (c := bodyOf Tryz.f149) (by kernel_rfl) (by kernel_rfl) (by kernel_rfl) (by kernel_rfl) (by kernel_rfl) (Eq.mp (by kernel_rfl) g)
def S150_j3 (x0 x6 x7 : Value) (h : GH) (K : Value → GH → Prop)  : Prop :=
 bnd (eqI x7 (.int .i64 0)) fun b1 =>
 ifV (.bool (!b1)) (
 bnd (ncV x0) fun v2 =>
 bnd (faV 59 v2) fun v3 =>
 bnd (stV 1 v3 (.bool true) h) fun h4 =>
 K (.tuple #[(.bool true), (.int .i64 1700)]) h4) (
 bnd (unV .not x6) fun v5 =>
 ifV v5 (
 K (.tuple #[(.bool false), (.int .i64 0)]) h) (
 bnd (ncV x0) fun v6 =>
 bnd (faV 55 v6) fun v7 =>
 bnd (ldV 1 false v7 h) fun v8 =>
 bnd (taV 271 (.pointer none) true v8) fun v9 =>
 bnd (exV v9 1) fun v10 =>
 bnd (exV v9 0) fun v11 =>
 ifV v10 (
 T Tryz.prog 165 [x0, v11] h fun v12 h13 =>
 bnd (ncV x0) fun v14 =>
 bnd (faV 59 v14) fun v15 =>
 bnd (ldV 1 false v15 h13) fun v16 =>
 K (.tuple #[v16, (.int .i64 0)]) h13) (
 bnd (taV 273 (.pointer none) true v8) fun v17 =>
 bnd (exV v17 1) fun v18 =>
 bnd (exV v17 0) fun v19 =>
 ifV v18 (
 bnd (ncV x0) fun v20 =>
 bnd (faV 0 v20) fun v21 =>
 bnd (ldV 1 false v21 h) fun v22 =>
 bnd (ncV x0) fun v23 =>
 bnd (faV 1 v23) fun v24 =>
 bnd (ldV 1 false v24 h) fun v25 =>
 bnd (ncV x0) fun v26 =>
 bnd (faV 2 v26) fun v27 =>
 bnd (ldV 2 true v27 h) fun v28 =>
 T Tryz.prog 167 [(.iface 121 v28)] h fun v29 h30 =>
 ldV 1 false v24 h30 = some v25 ∧
 ldV 1 false v21 h30 = some v22 ∧
 T Tryz.prog 166 [v22, v25, v29] h30 fun v31 h32 =>
 bnd (exV v31 0) fun v33 =>
 bnd (exV v31 1) fun v34 =>
 bnd (ncV x0) fun v35 =>
 bnd (faV 55 v35) fun v36 =>
 bnd (stV 1 v36 (.iface 274 v33) h32) fun h37 =>
 bnd (ncV x0) fun v38 =>
 bnd (faV 59 v38) fun v39 =>
 bnd (ldV 1 false v39 h37) fun v40 =>
 K (.tuple #[v40, (.int .i64 0)]) h37) (
 bnd (taV 274 (.pointer none) true v8) fun v41 =>
 bnd (exV v41 1) fun v42 =>
 bnd (exV v41 0) fun v43 =>
 ifV v42 (
 T Tryz.prog 168 [v43] h fun v44 h45 =>
 bnd (ncV x0) fun v46 =>
 bnd (faV 58 v46) fun v47 =>
 bnd (stV 1 v47 v44 h45) fun h48 =>
 bnd (ncV x0) fun v49 =>
 bnd (faV 59 v49) fun v50 =>
 bnd (stV 1 v50 (.bool true) h48) fun h51 =>
 bnd (ncV x0) fun v52 =>
 bnd (faV 59 v52) fun v53 =>
 bnd (ldV 1 false v53 h51) fun v54 =>
 K (.tuple #[v54, (.int .i64 0)]) h51) (
 bnd (ncV x0) fun v55 =>
 bnd (faV 59 v55) fun v56 =>
 bnd (ldV 1 false v56 h) fun v57 =>
 K (.tuple #[v57, (.int .i64 0)]) h)))))
def S150_j2 (x0 x1 : Value) (h : GH) (K : Value → GH → Prop)  : Prop :=
 bnd (ncV x0) fun v1 =>
 bnd (faV 55 v1) fun v2 =>
 bnd (ldV 1 false v2 h) fun v3 =>
 ivV Tryz.prog v3 "Step" [x1] h fun v4 h5 =>
 bnd (exV v4 0) fun v6 =>
 bnd (exV v4 1) fun v7 =>
 bnd (ncV x0) fun v8 =>
 bnd (faV 2 v8) fun v9 =>
 bnd (faV 0 v9) fun v10 =>
 bnd (ldV 1 false v10 h5) fun v11 =>
 bnd (ncV x0) fun v12 =>
 bnd (faV 2 v12) fun v13 =>
 bnd (faV 1 v13) fun v14 =>
 bnd (ldV 1 false v14 h5) fun v15 =>
 bnd (ncV x0) fun v16 =>
 bnd (faV 56 v16) fun v17 =>
 bnd (stV 1 v17 v11 h5) fun h18 =>
 bnd (ncV x0) fun v19 =>
 bnd (faV 57 v19) fun v20 =>
 bnd (stV 1 v20 v15 h18) fun h21 =>
 bnd (ncV x0) fun v22 =>
 bnd (faV 55 v22) fun v23 =>
 bnd (ldV 1 false v23 h21) fun v24 =>
 bnd (tiV Tryz.prog #[("Seq", 193), ("Step", 196), ("Through", 134)] .nilIface true v24) fun v25 =>
 bnd (exV v25 0) fun v26 =>
 bnd (exV v25 1) fun v27 =>
 ifV v27 (
 ivV Tryz.prog v26 "Through" [] h21 fun v28 h29 =>
 bnd (exV v28 0) fun v30 =>
 bnd (exV v28 1) fun v31 =>
 bnd (ncV x0) fun v32 =>
 bnd (faV 56 v32) fun v33 =>
 bnd (stV 1 v33 v30 h29) fun h34 =>
 bnd (ncV x0) fun v35 =>
 bnd (faV 57 v35) fun v36 =>
 bnd (stV 1 v36 v31 h34) fun h37 =>
 ivV Tryz.prog v26 "Seq" [] h37 fun v38 h39 =>
 bnd (ncV x0) fun v40 =>
 bnd (faV 1 v40) fun v41 =>
 bnd (stV 1 v41 v38 h39) fun h42 =>
 S150_j3 x0 v6 v7 h42 K ) (
 S150_j3 x0 v6 v7 h21 K )
def S150_j1 (x0 x1 x15 : Value) (h : GH) (K : Value → GH → Prop)  : Prop :=
 ifV x15 (
 K (.tuple #[(.bool false), (.int .i64 1)]) h) (
 bnd (ncV x0) fun v1 =>
 bnd (faV 59 v1) fun v2 =>
 bnd (ldV 1 false v2 h) fun v3 =>
 ifV v3 (
 K (.tuple #[(.bool true), (.int .i64 0)]) h) (
 S150_j2 x0 x1 h K ))
def S150 (a0 a1 : Value) (h : GH) (K : Value → GH → Prop) : Prop :=
 bnd (eqK .ptr true a0 (.pointer none)) fun b1 =>
 ifV (.bool b1) (
 S150_j1 a0 a1 (.bool true) h K ) (
 bnd (eqK .ptr true a1 (.pointer none)) fun b2 =>
 S150_j1 a0 a1 (.bool b2) h K )
def A150 : Ann := ⟨fun | 6 => ([0, 1, 2, 3, 4, 5, 6, 7, 8, 9, 10, 11, 12, 13, 14, 15, 16, 17], [0, 0, 0, 4, 12, 28, 60, 0, 128, 384, 896, 1920, 4093, 8189, 16381, 32767, 65535, 131071]) | 22 => ([0, 1, 2, 3, 4, 5, 6, 7, 8, 9, 10, 11, 12, 13, 14, 15, 16, 17, 18, 19], [0, 1, 3, 7, 0, 16, 48, 112, 0, 256, 768, 1792, 3840, 7936, 16383, 32767, 65535, 65535, 131071, 524287]) | _ => ([], []), fun _ => []⟩
theorem S150_T {a0 a1 : Value} {h : GH} {K : Value → GH → Prop} (g : S150 a0 a1 h K) : T Tryz.prog 150 [a0, a1] h K :=
  T_of_gwp (A := A150) Tryz.func150 (c := bodyOf Tryz.f150) (by kernel_rfl) (by kernel_rfl) (by kernel_rfl) (by kernel_rfl) (by kernel_rfl) (Eq.mp (by kernel_rfl) g)
def S151 (a0 : Value) (h : GH) (K : Value → GH → Prop) : Prop :=
 bnd (eqK .ptr true a0 (.pointer none)) fun b1 =>
 ifV (.bool b1) (
 K (.tuple #[(.int .i64 0), (.int .i64 0)]) h) (
 bnd (ncV a0) fun v2 =>
 bnd (faV 56 v2) fun v3 =>
 bnd (ldV 1 false v3 h) fun v4 =>
 bnd (ncV a0) fun v5 =>
 bnd (faV 57 v5) fun v6 =>
 bnd (ldV 1 false v6 h) fun v7 =>
 K (.tuple #[v4, v7]) h)
def A151 : Ann := ⟨fun | 3 => ([0, 1, 2, 3, 4, 5, 6, 7, 8, 9], [0, 1, 3, 7, 0, 16, 48, 112, 15, 511]) | _ => ([], []), fun _ => []⟩
theorem S151_T {a0 : Value} {h : GH} {K : Value → GH → Prop} (g : S151 a0 h K) : T Tryz.prog 151 [a0] h K :=
  T_of_gwp (A := A151) Tryz.func151 (c := bodyOf Tryz.f151) (by kernel_rfl) (by kernel_rfl) (by kernel_rfl) (by kernel_rfl) (by kernel_rfl) (Eq.mp (by kernel_rfl) g)
def S152 (a0 : Value) (h : GH) (K : Value → GH → Prop) : Prop :=
 bnd (eqK .ptr true a0 (.pointer none)) fun b1 =>
 ifV (.bool b1) (
 K (.int .i64 0) h) (
 bnd (ncV a0) fun v2 =>
 bnd (faV 1 v2) fun v3 =>
 bnd (ldV 1 false v3 h) fun v4 =>
 K v4 h)
def A152 : Ann := ⟨fun _ => ([], []), fun _ => []⟩
theorem S152_T {a0 : Value} {h : GH} {K : Value → GH → Prop} (g : S152 a0 h K) : T Tryz.prog 152 [a0] h K :=
  T_of_gwp (A := A152) Tryz.func152 (c := bodyOf Tryz.f152) (by kernel_rfl) (by kernel_rfl) (by kernel_rfl) (by kernel_rfl) (by kernel_rfl) (Eq.mp (by kernel_rfl) g)
def S153 (a0 : Value) (h : GH) (K : Value → GH → Prop) : Prop :=
 bnd (ncV a0) fun v1 =>
 bnd (faV 0 v1) fun v2 =>
 bnd (ldV 1 false v2 h) fun v3 =>
 bnd (ncV a0) fun v4 =>
 bnd (faV 1 v4) fun v5 =>
 bnd (ldV 1 false v5 h) fun v6 =>
 T Tryz.prog 128 [v6, (.int .i64 29)] h fun v7 h8 =>
 bnd (exV v7 0) fun v9 =>
 bnd (exV v7 1) fun v10 =>
 T Tryz.prog 129 [v9] h8 fun v11 h12 =>
 bnd (exV v11 0) fun v13 =>
 bnd (exV v11 1) fun v14 =>
 bnd (unV .not v14) fun v15 =>
 ifV v15 (
 K (.int .i64 1800) h12) (
 bnd (ncV v3) fun v16 =>
 bnd (faV 12 v16) fun v17 =>
 bnd (ldV 1 false v17 h12) fun v18 =>
 bnd (ncV v3) fun v19 =>
 bnd (faV 14 v19) fun v20 =>
 bnd (ldV 1 false v20 h12) fun v21 =>
 bnd (fillV [(.int .i64 0), (.int .i64 0)] [(0, 1, v21), (1, 1, v13)]) fun c22 =>
 bsV 211 1 [(.int .i64 0), (.int .i64 0)] [(0, 2, (.agg c22.toArray))] h12 fun v23 h24 =>
 apV 211 2 16 v18 v23 h24 fun v25 h26 =>
 bnd (ncV v3) fun v27 =>
 bnd (faV 12 v27) fun v28 =>
 bnd (stV 1 v28 v25 h26) fun h29 =>
 bnd (ncV v3) fun v30 =>
 bnd (faV 14 v30) fun v31 =>
 bnd (stV 1 v31 (.int .i64 (-1)) h29) fun h32 =>
 bnd (ncV v3) fun v33 =>
 bnd (faV 6 v33) fun v34 =>
 bnd (stV 1 v34 (.func (.func 136) #[] #[]) h32) fun h35 =>
 bnd (ncV v3) fun v36 =>
 bnd (faV 18 v36) fun v37 =>
 bnd (ldV 1 false v37 h35) fun v38 =>
 T Tryz.prog 169 [v38] h35 fun v39 h40 =>
 ifV v39 (
 bnd (ncV v3) fun v41 =>
 bnd (faV 20 v41) fun v42 =>
 bnd (stV 1 v42 (.int .i64 0) h40) fun h43 =>
 K (.int .i64 0) h43) (
 K (.int .i64 0) h40))
def A153 : Ann := ⟨fun | 6 => ([0, 1, 2, 3, 4, 5, 6, 7, 8, 9, 10, 11, 12, 13, 14, 15], [0, 0, 2, 6, 14, 0, 32, 96, 224, 0, 992, 2016, 4094, 8191, 16383, 32767]) | _ => ([], []), fun _ => []⟩
theorem S153_T {a0 : Value} {h : GH} {K : Value → GH → Prop} (g : S153 a0 h K) : T Tryz.prog 153 [a0] h K :=
  T_of_gwp (A := A153) Tryz.func153 (c := bodyOf Tryz.f153) (by kernel_rfl) (by kernel_rfl) (by kernel_rfl) (by kernel_rfl) (by kernel_rfl) (Eq.mp (by kernel_rfl) g)
def S154 (a0 a1 : Value) (h : GH) (K : Value → GH → Prop) : Prop :=
 bnd (ldV 1 false a0 h) fun v1 =>
 bnd (ncV v1) fun v2 =>
 bnd (faV 0 v2) fun v3 =>
 bnd (faV 0 v3) fun v4 =>
 bnd (ldV 1 false v4 h) fun v5 =>
 bnd (eqI v5 (.int .i64 0)) fun b6 =>
 ifV (.bool b6) (
 bnd (ldV 1 false a0 h) fun v7 =>
 bnd (ncV v7) fun v8 =>
 bnd (faV 0 v8) fun v9 =>
 bnd (ldV 1 false a1 h) fun v10 =>
 T Tryz.prog 139 [v9, v10] h fun v11 h12 =>
 bnd (ldV 1 false a0 h12) fun v13 =>
 bnd (ldV 1 false a0 h12) fun v14 =>
 bnd (ncV v14) fun v15 =>
 bnd (faV 0 v15) fun v16 =>
 bnd (faV 2 v16) fun v17 =>
 bnd (faV 1 v17) fun v18 =>
 bnd (ldV 1 false v18 h12) fun v19 =>
 bnd (eqI v19 (.int .i64 0)) fun b20 =>
 bnd (ncV v13) fun v21 =>
 bnd (faV 0 v21) fun v22 =>
 bnd (faV 4 v22) fun v23 =>
 bnd (stV 1 v23 (.bool b20) h12) fun h24 =>
 bnd (unV .not v11) fun v25 =>
 ifV v25 (
 K (.int .i64 1000) h24) (
 K (.int .i64 0) h24)) (
 bnd (eqI v5 (.int .i64 1)) fun b26 =>
 ifV (.bool b26) (
 bnd (ldV 1 false a1 h) fun v27 =>
 bnd (ldV 1 false a0 h) fun v28 =>
 bnd (ncV v28) fun v29 =>
 bnd (faV 0 v29) fun v30 =>
 bnd (faV 2 v30) fun v31 =>
 bnd (faV 1 v31) fun v32 =>
 bnd (ldV 1 false v32 h) fun v33 =>
 bnd (binV .add (.int .i64 17) v33) fun v34 =>
 bnd (binV .sub v34 (.int .i64 1)) fun v35 =>
 T Tryz.prog 128 [v27, v35] h fun v36 h37 =>
 bnd (exV v36 0) fun v38 =>
 bnd (exV v36 1) fun v39 =>
 bnd (ldV 1 false a0 h37) fun v40 =>
 T Tryz.prog 69 [v38] h37 fun v41 h42 =>
 ldV 1 false a0 h42 = some v40 ∧
 bnd (exV v41 0) fun v43 =>
 bnd (exV v41 1) fun v44 =>
 bnd (ncV v40) fun v45 =>
 bnd (faV 5 v45) fun v46 =>
 bnd (stV 1 v46 v43 h42) fun h47 =>
 bnd (ldV 1 false a0 h47) fun v48 =>
 bnd (ncV v48) fun v49 =>
 bnd (faV 0 v49) fun v50 =>
 bnd (faV 0 v50) fun v51 =>
 bnd (stV 1 v51 (.int .i64 2) h47) fun h52 =>
 bnd (unV .not v44) fun v53 =>
 ifV v53 (
 K (.int .i64 1000) h52) (
 K (.int .i64 0) h52)) (
 bnd (ldV 1 false a0 h) fun v54 =>
 bnd (ncV v54) fun v55 =>
 bnd (faV 0 v55) fun v56 =>
 bnd (ldV 1 false a1 h) fun v57 =>
 bnd (ldV 1 false a0 h) fun v58 =>
 bnd (ncV v58) fun v59 =>
 bnd (faV 5 v59) fun v60 =>
 bnd (ldV 1 false v60 h) fun v61 =>
 T Tryz.prog 140 [v56, v57, v61] h fun v62 h63 =>
 ifV v62 (
 bnd (ldV 1 false a0 h63) fun v64 =>
 bnd (ldV 1 false a0 h63) fun v65 =>
 bnd (ldV 1 false a0 h63) fun v66 =>
 bnd (ncV v66) fun v67 =>
 bnd (faV 0 v67) fun v68 =>
 bnd (faV 2 v68) fun v69 =>
 bnd (faV 1 v69) fun v70 =>
 bnd (ldV 1 false v70 h63) fun v71 =>
 bnd (binV .sub v71 (.int .i64 1)) fun v72 =>
 bnd (ncV v64) fun v73 =>
 bnd (faV 6 v73) fun v74 =>
 bnd (stV 1 v74 v72 h63) fun h75 =>
 ldV 1 false a0 h75 = some v65 ∧
 bnd (ncV v65) fun v76 =>
 bnd (faV 0 v76) fun v77 =>
 bnd (faV 4 v77) fun v78 =>
 bnd (stV 1 v78 (.bool true) h75) fun h79 =>
 bnd (unV .not (.bool true)) fun v80 =>
 ifV v80 (
 K (.int .i64 1000) h79) (
 K (.int .i64 0) h79)) (
 bnd (unV .not (.bool true)) fun v81 =>
 ifV v81 (
 K (.int .i64 1000) h63) (
 K (.int .i64 0) h63))))
def A154 : Ann := ⟨fun | 3 => ([0, 1, 2, 3, 4, 5, 6, 7, 8], [0, 1, 3, 0, 0, 16, 48, 112, 255]) | 4 => ([0, 1, 2, 3, 4, 5, 6, 7, 8, 9, 10, 11, 12, 13, 14, 15], [0, 0, 0, 4, 12, 28, 60, 124, 252, 509, 1021, 2045, 4095, 8191, 16383, 32767]) | 6 => ([0, 1, 2, 3, 4, 5], [0, 1, 3, 0, 15, 31]) | 7 => ([0, 1, 2, 3, 4, 5, 6, 7, 8, 9, 10, 11], [0, 0, 2, 6, 14, 30, 62, 126, 255, 511, 1023, 2047]) | 9 => ([0, 1, 2, 3, 4, 5, 6, 7, 8, 9, 10, 11, 12, 13, 14], [0, 0, 2, 6, 14, 30, 62, 126, 254, 511, 1023, 2047, 2047, 4095, 16383]) | 10 => ([0, 1, 2, 3, 4, 5, 6, 7, 8, 9], [0, 0, 2, 6, 14, 14, 31, 95, 223, 511]) | _ => ([], []), fun _ => []⟩
theorem S154_T {a0 a1 : Value} {h : GH} {K : Value → GH → Prop} (g : S154 a0 a1 h K) : T Tryz.prog 154 [a0, a1] h K :=
  T_of_gwp (A := A154) Tryz.func154 (c := bodyOf Tryz.f154) (by kernel_rfl) (by kernel_rfl) (by kernel_rfl) (by kernel_rfl) (by kernel_rfl) (Eq.mp (by kernel_rfl) g)
def S155 (a0 : Value) (h : GH) (K : Value → GH → Prop) : Prop :=
 bnd (binV .lss a0 (.int .i64 1)) fun v1 =>
 ifV v1 (
 K (.tuple #[(.pointer none), (.int .i64 1100)]) h) (
 bnd (binV .gtr a0 (.int .i64 4)) fun v2 =>
 ifV v2 (
 K (.tuple #[(.pointer none), (.int .i64 1100)]) h) (
 bnd (fillV [(.int .i64 0), (.int .i64 0), (.int .i64 0), (.bool false), (.bool false)] [(0, 1, a0), (1, 1, (.int .i64 (-1)))]) fun c3 =>
 newV 279 ((.agg c3.toArray) : Value).cells.toList h fun v4 h5 =>
 K (.tuple #[v4, (.int .i64 0)]) h5))
def A155 : Ann := ⟨fun _ => ([], []), fun _ => []⟩
theorem S155_T {a0 : Value} {h : GH} {K : Value → GH → Prop} (g : S155 a0 h K) : T Tryz.prog 155 [a0] h K :=
  T_of_gwp (A := A155) Tryz.func155 (c := bodyOf Tryz.f155) (by kernel_rfl) (by kernel_rfl) (by kernel_rfl) (by kernel_rfl) (by kernel_rfl) (Eq.mp (by kernel_rfl) g)
def S156_j1 (x0 x4 x24 : Value) (h : GH) (K : Value → GH → Prop)  : Prop :=
 ifV x24 (
 bnd (ncV x0) fun v1 =>
 bnd (faV 0 v1) fun v2 =>
 bnd (ldV 1 false v2 h) fun v3 =>
 bnd (ncV x0) fun v4 =>
 bnd (faV 3 v4) fun v5 =>
 bnd (ldV 1 false v5 h) fun v6 =>
 T Tryz.prog 171 [v3, v6] h fun v7 h8 =>
 K x4 h8) (
 K x4 h)
def S156 (a0 : Value) (h : GH) (K : Value → GH → Prop) : Prop :=
 bnd (ncV a0) fun v1 =>
 bnd (faV 0 v1) fun v2 =>
 bnd (ldV 1 false v2 h) fun v3 =>
 bnd (ncV v3) fun v4 =>
 bnd (faV 19 v4) fun v5 =>
 bnd (ldV 1 false v5 h) fun v6 =>
 bnd (ncV a0) fun v7 =>
 bnd (faV 1 v7) fun v8 =>
 bnd (ldV 1 false v8 h) fun v9 =>
 T Tryz.prog 170 [v6, v9] h fun v10 h11 =>
 bnd (exV v10 0) fun v12 =>
 bnd (exV v10 1) fun v13 =>
 ifV v12 (
 bnd (eqI v13 (.int .i64 0)) fun b14 =>
 S156_j1 a0 v13 (.bool b14) h11 K ) (
 S156_j1 a0 v13 (.bool false) h11 K )
def A156 : Ann := ⟨fun | 1 => ([0, 1, 2, 3, 4, 5, 6, 7, 8, 9, 10, 11, 12, 13, 14, 15, 16], [0, 1, 3, 7, 15, 31, 63, 0, 128, 384, 896, 2047, 4095, 8191, 8191, 16383, 65535]) | 3 => ([0, 1, 2, 3, 4, 5, 6, 7, 8], [0, 1, 3, 7, 0, 16, 48, 112, 255]) | _ => ([], []), fun _ => []⟩
theorem S156_T {a0 : Value} {h : GH} {K : Value → GH → Prop} (g : S156 a0 h K) : T Tryz.prog 156 [a0] h K :=
  T_of_gwp (A := A156) Tryz.func156 (c := bodyOf Tryz.f156) (by kernel_rfl) (by kernel_rfl) (by kernel_rfl) (by kernel_rfl) (by kernel_rfl) (Eq.mp (by kernel_rfl) g)
def S157 (a0 a1 : Value) (h : GH) (K : Value → GH → Prop) : Prop :=
 bnd (eqK .ptr true a0 (.pointer none)) fun b1 =>
 ifV (.bool b1) (
 K (.int .i64 1) h) (
 T Tryz.prog 101 [a1] h fun v2 h3 =>
 bnd (unV .not v2) fun v4 =>
 ifV v4 (
 K (.int .i64 1100) h3) (
 T Tryz.prog 112 [a0, a1, (.int .i64 0)] h3 fun v5 h6 =>
 K (.int .i64 0) h6))
def A157 : Ann := ⟨fun _ => ([], []), fun _ => []⟩
theorem S157_T {a0 a1 : Value} {h : GH} {K : Value → GH → Prop} (g : S157 a0 a1 h K) : T Tryz.prog 157 [a0, a1] h K :=
  T_of_gwp (A := A157) Tryz.func157 (c := bodyOf Tryz.f157) (by kernel_rfl) (by kernel_rfl) (by kernel_rfl) (by kernel_rfl) (by kernel_rfl) (Eq.mp (by kernel_rfl) g)
def S158 (a0 a1 a2 a3 : Value) (h : GH) (K : Value → GH → Prop) : Prop :=
 newV 3 (a2 : Value).cells.toList h fun v1 h2 =>
 newV 3 (a3 : Value).cells.toList h2 fun v3 h4 =>
 T Tryz.prog 146 [a0, (.int .i64 2), a1, (.func (.func 172) #[] #[v1, v3])] h4 fun v5 h6 =>
 bnd (exV v5 0) fun v7 =>
 bnd (exV v5 1) fun v8 =>
 K (.tuple #[v7, v8]) h6
def A158 : Ann := ⟨fun _ => ([], []), fun _ => []⟩
theorem S158_T {a0 a1 a2 a3 : Value} {h : GH} {K : Value → GH → Prop} (g : S158 a0 a1 a2 a3 h K) : T Tryz.prog 158 [a0, a1, a2, a3] h K :=
  T_of_gwp (A := A158) Tryz.func158 (c := bodyOf Tryz.f158) (by kernel_rfl) (by kernel_rfl) (by kernel_rfl) (by kernel_rfl) (by kernel_rfl) (Eq.mp (by kernel_rfl) g)
def S159 (a0 a1 : Value) (h : GH) (K : Value → GH → Prop) : Prop :=
 newV 162 (a0 : Value).cells.toList h fun v1 h2 =>
 bnd (faV 0 v1) fun v3 =>
 bnd (ldV 1 false v3 h2) fun v4 =>
 bnd (binV .add v4 (.int .i64 1)) fun v5 =>
 bnd (binV .rem v5 (.int .i64 1073741824)) fun v6 =>
 bnd (binV .mul v6 (.int .i64 16)) fun v7 =>
 bnd (binV .add v7 a1) fun v8 =>
 T Tryz.prog 81 [v8] h2 fun v9 h10 =>
 K v9 h10
def A159 : Ann := ⟨fun _ => ([], []), fun _ => []⟩
theorem S159_T {a0 a1 : Value} {h : GH} {K : Value → GH → Prop} (g : S159 a0 a1 h K) : T Tryz.prog 159 [a0, a1] h K :=
  T_of_gwp (A := A159) Tryz.func159 (c := bodyOf Tryz.f159) (by kernel_rfl) (by kernel_rfl) (by kernel_rfl) (by kernel_rfl) (by kernel_rfl) (Eq.mp (by kernel_rfl) g)
def S162_j2 (s6 : Nat → Value) (x2 x4 x6 x7 x9 x10 x22 x23 x24 : Value) (h : GH) (K : Value → GH → Prop) (again8 : (Nat → Value) → GH → Prop) : Prop :=
 bnd (ldV 48 true x6 h) fun v1 =>
 bnd (ldV 4 true x9 h) fun v2 =>
 callV Tryz.prog x10 [v1, v2] h fun v3 h4 =>
 bnd (exV v3 0) fun v5 =>
 bnd (exV v3 1) fun v6 =>
 newV 260 ([(.int .i64 0)] ++ List.replicate 16 (.bool false) ++ List.replicate 32 (.int .i64 0) ++ [(.slice none 0 0)]) h4 fun v7 h8 =>
 bnd (stV 50 v7 v5 h8) fun h9 =>
 bnd (faV 0 v7) fun v10 =>
 bnd (ldV 1 false v10 h9) fun v11 =>
 bnd (binV .geq v11 (.int .i64 0)) fun v12 =>
 ifV v12 (
 bnd (faV 0 v7) fun v13 =>
 bnd (ldV 1 false v13 h9) fun v14 =>
 bnd (ldV 48 true x2 h9) fun v15 =>
 bnd (fillV ([(.int .i64 0)] ++ List.replicate 16 (.bool false) ++ List.replicate 32 (.int .i64 0) ++ [(.slice none 0 0)]) [(0, 1, v14), (1, 48, v15)]) fun c16 =>
 bnd (stV 50 x4 (.agg c16.toArray) h9) fun h17 =>
 bnd (ldV 50 true x4 h17) fun v18 =>
 K (.tuple #[v18, (.int .i64 0)]) h17) (
 bnd (faV 49 v7) fun v19 =>
 bnd (ldV 1 false v19 h9) fun v20 =>
 apV 103 2 16 x7 v20 h9 fun v21 h22 =>
 bnd (lnV v21) fun v23 =>
 bnd (binV .sub v23 (.int .i64 1)) fun v24 =>
 bnd (isV 2 v21 v24) fun v25 =>
 bnd (faV 0 v25) fun v26 =>
 bnd (ldV 1 false v26 h22) fun v27 =>
 bnd (eqI v27 (.int .i64 0)) fun b28 =>
 ifV (.bool (!b28)) (
 bnd (ldV 48 true x2 h22) fun v29 =>
 bnd (fillV ([(.int .i64 0)] ++ List.replicate 16 (.bool false) ++ List.replicate 32 (.int .i64 0) ++ [(.slice none 0 0)]) [(0, 1, (.int .i64 (-1))), (1, 48, v29), (49, 1, v21)]) fun c30 =>
 bnd (stV 50 x4 (.agg c30.toArray) h22) fun h31 =>
 bnd (ldV 50 true x4 h31) fun v32 =>
 K (.tuple #[v32, (.int .i64 0)]) h31) (
 bnd (faV 1 v7) fun v33 =>
 bnd (ldV 48 true v33 h22) fun v34 =>
 bnd (stV 48 x6 v34 h22) fun h35 =>
 bnd (binV .add x24 (.int .i64 1)) fun v36 =>
 again8 (tup [x2, x4, x6, v21, x22, x23, v36]) h35))
def S162_j1 (x1 x2 x4 : Value) (h : GH) (K : Value → GH → Prop)  : Prop :=
 bnd (ldV 48 true x2 h) fun v1 =>
 newV 258 (List.replicate 16 (.bool false) ++ List.replicate 32 (.int .i64 0)) h fun v2 h3 =>
 bnd (stV 48 v2 v1 h3) fun h4 =>
 bnd (lnV x1) fun v5 =>
 Lfp (fun (s6 : Nat → Value) h7 again8 =>
 bnd (binV .lss (s6 6) (s6 5)) fun v9 =>
 ifV v9 (
 bnd (isV 4 (s6 4) (s6 6)) fun v10 =>
 bnd (ldV 4 true v10 h7) fun v11 =>
 newV 126 [(.int .i64 0), (.int .i64 0), (.int .i64 0), (.int .i64 0)] h7 fun v12 h13 =>
 bnd (stV 4 v12 v11 h13) fun h14 =>
 bnd (faV 0 v12) fun v15 =>
 bnd (ldV 1 false v15 h14) fun v16 =>
 T Tryz.prog 77 [v16] h14 fun v17 h18 =>
 ifV v17 (
 S162_j2 s6 (s6 0) (s6 1) (s6 2) (s6 3) v12 (.func (.func 175) #[] #[]) (s6 4) (s6 5) (s6 6) h18 K again8) (
 S162_j2 s6 (s6 0) (s6 1) (s6 2) (s6 3) v12 (.func (.func 174) #[] #[]) (s6 4) (s6 5) (s6 6) h18 K again8)) (
 bnd (ldV 48 true (s6 2) h7) fun v19 =>
 bnd (fillV ([(.int .i64 0)] ++ List.replicate 16 (.bool false) ++ List.replicate 32 (.int .i64 0) ++ [(.slice none 0 0)]) [(0, 1, (.int .i64 (-1))), (1, 48, v19), (49, 1, (s6 3))]) fun c20 =>
 bnd (stV 50 (s6 1) (.agg c20.toArray) h7) fun h21 =>
 bnd (ldV 50 true (s6 1) h21) fun v22 =>
 K (.tuple #[v22, (.int .i64 0)]) h21)) (tup [x2, x4, v2, (.slice none 0 0), x1, v5, (.int .i64 0)]) h4
def S162 (a0 a1 : Value) (h : GH) (K : Value → GH → Prop) : Prop :=
 newV 258 (a0 : Value).cells.toList h fun v1 h2 =>
 newV 260 ([(.int .i64 0)] ++ List.replicate 16 (.bool false) ++ List.replicate 32 (.int .i64 0) ++ [(.slice none 0 0)]) h2 fun v3 h4 =>
 T Tryz.prog 173 [v1] h4 fun v5 h6 =>
 bnd (unV .not v5) fun v7 =>
 ifV v7 (
 bnd (fillV ([(.int .i64 0)] ++ List.replicate 16 (.bool false) ++ List.replicate 32 (.int .i64 0) ++ [(.slice none 0 0)]) []) fun c8 =>
 bnd (stV 50 v3 (.agg c8.toArray) h6) fun h9 =>
 bnd (ldV 50 true v3 h9) fun v10 =>
 K (.tuple #[v10, (.int .i64 700)]) h9) (
 T Tryz.prog 26 [a1] h6 fun v11 h12 =>
 bnd (unV .not v11) fun v13 =>
 ifV v13 (
 bnd (fillV ([(.int .i64 0)] ++ List.replicate 16 (.bool false) ++ List.replicate 32 (.int .i64 0) ++ [(.slice none 0 0)]) []) fun c14 =>
 bnd (stV 50 v3 (.agg c14.toArray) h12) fun h15 =>
 bnd (ldV 50 true v3 h15) fun v16 =>
 K (.tuple #[v16, (.int .i64 700)]) h15) (
 S162_j1 a1 v1 v3 h12 K ))
def A162 : Ann := ⟨fun _ => ([], []), fun | 0 => [2, 4, 6, 7, 22, 23, 24] | _ => []⟩
theorem S162_T {a0 a1 : Value} {h : GH} {K : Value → GH → Prop} (g : S162 a0 a1 h K) : T Tryz.prog 162 [a0, a1] h K :=
  T_of_gwp (A := A162) Tryz.func162 (c := bodyOf Tryz.f162) (by kernel_rfl) (by kernel_rfl) (by kernel_rfl) (by kernel_rfl) (by kernel_rfl) (Eq.mp (by kernel_rfl) g)
def S163 (a0 a1 : Value) (h : GH) (K : Value → GH → Prop) : Prop :=
 T Tryz.prog 23 [a0, (.int .i64 12)] h fun v1 h2 =>
 ifV v1 (
 T Tryz.prog 23 [a1, (.int .i64 65536)] h2 fun v3 h4 =>
 K v3 h4) (
 K (.bool false) h2)
def A163 : Ann := ⟨fun _ => ([], []), fun _ => []⟩
theorem S163_T {a0 a1 : Value} {h : GH} {K : Value → GH → Prop} (g : S163 a0 a1 h K) : T Tryz.prog 163 [a0, a1] h K :=
  T_of_gwp (A := A163) Tryz.func163 (c := bodyOf Tryz.f163) (by kernel_rfl) (by kernel_rfl) (by kernel_rfl) (by kernel_rfl) (by kernel_rfl) (Eq.mp (by kernel_rfl) g)
def S164 (a0 : Value) (h : GH) (K : Value → GH → Prop) : Prop :=
 bnd (ncV a0) fun v1 =>
 bnd (faV 5 v1) fun v2 =>
 bnd (faV 0 v2) fun v3 =>
 bnd (ldV 1 false v3 h) fun v4 =>
 bnd (binV .geq v4 (.int .i64 0)) fun v5 =>
 ifV v5 (
 bnd (ncV a0) fun v6 =>
 bnd (faV 0 v6) fun v7 =>
 bnd (ldV 1 false v7 h) fun v8 =>
 bnd (ncV a0) fun v9 =>
 bnd (faV 1 v9) fun v10 =>
 bnd (ldV 1 false v10 h) fun v11 =>
 bnd (ncV a0) fun v12 =>
 bnd (faV 5 v12) fun v13 =>
 bnd (faV 0 v13) fun v14 =>
 bnd (ldV 1 false v14 h) fun v15 =>
 T Tryz.prog 176 [v8, v11, v15] h fun v16 h17 =>
 bnd (exV v16 0) fun v18 =>
 bnd (exV v16 1) fun v19 =>
 K (.iface 271 v18) h17) (
 bnd (ncV a0) fun v20 =>
 bnd (faV 5 v20) fun v21 =>
 bnd (faV 49 v21) fun v22 =>
 bnd (ldV 1 false v22 h) fun v23 =>
 bnd (ncV a0) fun v24 =>
 bnd (faV 60 v24) fun v25 =>
 bnd (stV 1 v25 v23 h) fun h26 =>
 bnd (ncV a0) fun v27 =>
 bnd (faV 2 v27) fun v28 =>
 bnd (faV 0 v28) fun v29 =>
 bnd (ldV 1 false v29 h26) fun v30 =>
 bnd (ncV a0) fun v31 =>
 bnd (faV 2 v31) fun v32 =>
 bnd (faV 1 v32) fun v33 =>
 bnd (ldV 1 false v33 h26) fun v34 =>
 bnd (ncV a0) fun v35 =>
 bnd (faV 5 v35) fun v36 =>
 bnd (faV 1 v36) fun v37 =>
 bnd (ldV 48 true v37 h26) fun v38 =>
 T Tryz.prog 178 [v38] h26 fun v39 h40 =>
 ldV 1 false v33 h40 = some v34 ∧
 ldV 1 false v29 h40 = some v30 ∧
 T Tryz.prog 177 [v30, v34, v39] h40 fun v41 h42 =>
 bnd (exV v41 0) fun v43 =>
 bnd (exV v41 1) fun v44 =>
 K (.iface 273 v43) h42)
def A164 : Ann := ⟨fun | 2 => ([0, 1, 2, 3, 4, 5, 6, 7, 8, 9, 10, 11, 12, 13, 14, 15, 16, 17, 18], [0, 1, 3, 7, 0, 16, 48, 112, 0, 256, 768, 1792, 3840, 8191, 16383, 32767, 32767, 65535, 262143]) | 5 => ([0, 1, 2, 3, 4, 5, 6, 7, 8, 9, 10, 11, 12, 13, 14, 15, 16, 17, 18, 19, 20, 21], [0, 1, 3, 7, 15, 0, 32, 96, 224, 480, 0, 1024, 3072, 7168, 15360, 31744, 65535, 131071, 262143, 262143, 524287, 2097151]) | _ => ([], []), fun _ => []⟩
theorem S164_T {a0 : Value} {h : GH} {K : Value → GH → Prop} (g : S164 a0 h K) : T Tryz.prog 164 [a0] h K :=
  T_of_gwp (A := A164) Tryz.func164 (c := bodyOf Tryz.f164) (by kernel_rfl) (by kernel_rfl) (by kernel_rfl) (by kernel_rfl) (by kernel_rfl) (Eq.mp (by kernel_rfl) g)
def S165 (a0 a1 : Value) (h : GH) (K : Value → GH → Prop) : Prop :=
 bnd (ncV a0) fun v1 =>
 bnd (faV 5 v1) fun v2 =>
 bnd (faV 1 v2) fun v3 =>
 bnd (ldV 48 true v3 h) fun v4 =>
 newV 258 (List.replicate 16 (.bool false) ++ List.replicate 32 (.int .i64 0)) h fun v5 h6 =>
 bnd (stV 48 v5 v4 h6) fun h7 =>
 bnd (faV 0 v5) fun v8 =>
 bnd (faV 16 v5) fun v9 =>
 bnd (faV 32 v5) fun v10 =>
 T Tryz.prog 180 [a1] h7 fun v11 h12 =>
 bnd (iaV 16 1 v8 v11) fun v13 =>
 T Tryz.prog 180 [a1] h12 fun v14 h15 =>
 T Tryz.prog 180 [a1] h15 fun v16 h17 =>
 T Tryz.prog 179 [a1] h17 fun v18 h19 =>
 T Tryz.prog 179 [a1] h19 fun v20 h21 =>
 bnd (stV 1 v13 (.bool true) h21) fun h22 =>
 bnd (iaV 16 1 v9 v14) fun v23 =>
 bnd (stV 1 v23 v18 h22) fun h24 =>
 bnd (iaV 16 1 v10 v16) fun v25 =>
 bnd (stV 1 v25 v20 h24) fun h26 =>
 bnd (ldV 48 true v5 h26) fun v27 =>
 bnd (ncV a0) fun v28 =>
 bnd (faV 4 v28) fun v29 =>
 bnd (ldV 1 false v29 h26) fun v30 =>
 T Tryz.prog 162 [v27, v30] h26 fun v31 h32 =>
 bnd (exV v31 0) fun v33 =>
 bnd (exV v31 1) fun v34 =>
 bnd (ncV a0) fun v35 =>
 bnd (faV 5 v35) fun v36 =>
 bnd (stV 50 v36 v33 h32) fun h37 =>
 T Tryz.prog 164 [a0] h37 fun v38 h39 =>
 bnd (ncV a0) fun v40 =>
 bnd (faV 55 v40) fun v41 =>
 bnd (stV 1 v41 v38 h39) fun h42 =>
 K (.tuple #[]) h42
def A165 : Ann := ⟨fun | 1 => ([0, 2, 4, 6, 8, 10, 13, 16, 1, 11, 3, 5, 7, 9, 12, 14, 15, 17, 18], [0, 1, 0, 7, 0, 31, 0, 127, 0, 511, 0, 1027, 4095, 0, 16383, 32767, 0, 131071, 262143]) | 2 => ([0, 1, 2, 3, 4, 5, 6, 7, 8, 9, 10, 11, 12], [0, 0, 0, 4, 12, 28, 62, 126, 254, 254, 511, 1535, 3583]) | _ => ([], []), fun _ => []⟩
theorem S165_T {a0 a1 : Value} {h : GH} {K : Value → GH → Prop} (g : S165 a0 a1 h K) : T Tryz.prog 165 [a0, a1] h K :=
  T_of_gwp (A := A165) Tryz.func165 (c := bodyOf Tryz.f165) (by kernel_rfl) (by kernel_rfl) (by kernel_rfl) (by kernel_rfl) (by kernel_rfl) (Eq.mp (by kernel_rfl) g)
def S166_j1 (x8 x9 : Value) (h : GH) (K : Value → GH → Prop)  : Prop :=
 bsV 298 1 [.nilIface] [(0, 1, x9)] h fun v1 h2 =>
 bnd (ncV x8) fun v3 =>
 bnd (faV 2 v3) fun v4 =>
 bnd (stV 1 v4 v1 h2) fun h5 =>
 K (.tuple #[x8, (.int .i64 0)]) h5
def S166 (a0 a1 a2 : Value) (h : GH) (K : Value → GH → Prop) : Prop :=
 bnd (fillV [(.int .i64 0), (.int .i64 0)] [(0, 1, a0), (1, 1, a1)]) fun c1 =>
 bnd (fillV [(.int .i64 0), (.int .i64 0), (.slice none 0 0), (.pointer none), (.bool false), (.bool false)] [(0, 2, (.agg c1.toArray))]) fun c2 =>
 newV 296 ((.agg c2.toArray) : Value).cells.toList h fun v3 h4 =>
 bnd (ncV v3) fun v5 =>
 bnd (faV 0 v5) fun v6 =>
 T Tryz.prog 106 [a2] h4 fun v7 h8 =>
 T Tryz.prog 181 [v7, v6] h8 fun v9 h10 =>
 T Tryz.prog 101 [a0] h10 fun v11 h12 =>
 bnd (unV .not v11) fun v13 =>
 ifV v13 (
 K (.tuple #[(.pointer none), (.int .i64 1400)]) h12) (
 T Tryz.prog 23 [a1, (.int .i64 1048576)] h12 fun v14 h15 =>
 bnd (unV .not v14) fun v16 =>
 ifV v16 (
 K (.tuple #[(.pointer none), (.int .i64 1400)]) h15) (
 bnd (eqK .iface true v9 .nilIface) fun b17 =>
 ifV (.bool b17) (
 K (.tuple #[(.pointer none), (.int .i64 1400)]) h15) (
 S166_j1 v3 v9 h15 K )))
def A166 : Ann := ⟨fun | 2 => ([0, 2, 3, 4, 1, 5, 6], [0, 1, 0, 4, 12, 31, 63]) | _ => ([], []), fun _ => []⟩
theorem S166_T {a0 a1 a2 : Value} {h : GH} {K : Value → GH → Prop} (g : S166 a0 a1 a2 h K) : T Tryz.prog 166 [a0, a1, a2] h K :=
  T_of_gwp (A := A166) Tryz.func166 (c := bodyOf Tryz.f166) (by kernel_rfl) (by kernel_rfl) (by kernel_rfl) (by kernel_rfl) (by kernel_rfl) (Eq.mp (by kernel_rfl) g)
def S167 (a0 : Value) (h : GH) (K : Value → GH → Prop) : Prop :=
 ivV Tryz.prog a0 "pawl/word.number" [] h fun v1 h2 =>
 K v1 h2
def A167 : Ann := ⟨fun _ => ([], []), fun _ => []⟩
theorem S167_T {a0 : Value} {h : GH} {K : Value → GH → Prop} (g : S167 a0 h K) : T Tryz.prog 167 [a0] h K :=
  T_of_gwp (A := A167) Tryz.func167 (c := bodyOf Tryz.f167) (by kernel_rfl) (by kernel_rfl) (by kernel_rfl) (by kernel_rfl) (by kernel_rfl) (Eq.mp (by kernel_rfl) g)
def S168 (a0 : Value) (h : GH) (K : Value → GH → Prop) : Prop :=
 bnd (eqK .ptr true a0 (.pointer none)) fun b1 =>
 ifV (.bool (!b1)) (
 bnd (ncV a0) fun v2 =>
 bnd (faV 4 v2) fun v3 =>
 bnd (ldV 1 false v3 h) fun v4 =>
 K v4 h) (
 K (.bool false) h)
def A168 : Ann := ⟨fun _ => ([], []), fun _ => []⟩
theorem S168_T {a0 : Value} {h : GH} {K : Value → GH → Prop} (g : S168 a0 h K) : T Tryz.prog 168 [a0] h K :=
  T_of_gwp (A := A168) Tryz.func168 (c := bodyOf Tryz.f168) (by kernel_rfl) (by kernel_rfl) (by kernel_rfl) (by kernel_rfl) (by kernel_rfl) (Eq.mp (by kernel_rfl) g)
def S169 (a0 : Value) (h : GH) (K : Value → GH → Prop) : Prop :=
 bnd (eqK .ptr true a0 (.pointer none)) fun b1 =>
 ifV (.bool (!b1)) (
 bnd (ncV a0) fun v2 =>
 bnd (faV 58 v2) fun v3 =>
 bnd (ldV 1 false v3 h) fun v4 =>
 K v4 h) (
 K (.bool false) h)
def A169 : Ann := ⟨fun _ => ([], []), fun _ => []⟩
theorem S169_T {a0 : Value} {h : GH} {K : Value → GH → Prop} (g : S169 a0 h K) : T Tryz.prog 169 [a0] h K :=
  T_of_gwp (A := A169) Tryz.func169 (c := bodyOf Tryz.f169) (by kernel_rfl) (by kernel_rfl) (by kernel_rfl) (by kernel_rfl) (by kernel_rfl) (Eq.mp (by kernel_rfl) g)
def S170_j3 (x0 x6 : Value) (h : GH) (K : Value → GH → Prop)  : Prop :=
 bnd (ncV x0) fun v1 =>
 bnd (faV 1 v1) fun v2 =>
 bnd (ldV 1 false v2 h) fun v3 =>
 bnd (binV .add v3 (.int .i64 1)) fun v4 =>
 bnd (ncV x0) fun v5 =>
 bnd (faV 1 v5) fun v6 =>
 bnd (stV 1 v6 v4 h) fun h7 =>
 bnd (unV .not x6) fun v8 =>
 ifV v8 (
 bnd (ncV x0) fun v9 =>
 bnd (faV 4 v9) fun v10 =>
 bnd (stV 1 v10 (.bool true) h7) fun h11 =>
 K (.tuple #[(.bool true), (.int .i64 1100)]) h11) (
 bnd (ncV x0) fun v12 =>
 bnd (faV 4 v12) fun v13 =>
 bnd (ldV 1 false v13 h7) fun v14 =>
 K (.tuple #[v14, (.int .i64 0)]) h7)
def S170_j2 (x0 x1 : Value) (h : GH) (K : Value → GH → Prop)  : Prop :=
 bnd (ncV x0) fun v1 =>
 bnd (faV 1 v1) fun v2 =>
 bnd (ldV 1 false v2 h) fun v3 =>
 bnd (binV .lss v3 (.int .i64 0)) fun v4 =>
 ifV v4 (
 T Tryz.prog 113 [x1] h fun v5 h6 =>
 bnd (exV v5 0) fun v7 =>
 bnd (exV v5 1) fun v8 =>
 bnd (ncV x0) fun v9 =>
 bnd (faV 2 v9) fun v10 =>
 bnd (stV 1 v10 v7 h6) fun h11 =>
 S170_j3 x0 v8 h11 K ) (
 bnd (ncV x0) fun v12 =>
 bnd (faV 1 v12) fun v13 =>
 bnd (ldV 1 false v13 h) fun v14 =>
 bnd (ncV x0) fun v15 =>
 bnd (faV 0 v15) fun v16 =>
 bnd (ldV 1 false v16 h) fun v17 =>
 bnd (binV .lss v14 v17) fun v18 =>
 ifV v18 (
 bnd (ncV x0) fun v19 =>
 bnd (faV 1 v19) fun v20 =>
 bnd (ldV 1 false v20 h) fun v21 =>
 bnd (binV .add (.int .i64 30) v21) fun v22 =>
 T Tryz.prog 128 [x1, v22] h fun v23 h24 =>
 bnd (exV v23 0) fun v25 =>
 bnd (exV v23 1) fun v26 =>
 T Tryz.prog 85 [v25] h24 fun v27 h28 =>
 bnd (exV v27 0) fun v29 =>
 bnd (exV v27 1) fun v30 =>
 bnd (eqI v29 (.int .i64 0)) fun b31 =>
 ifV (.bool (!b31)) (
 bnd (ncV x0) fun v32 =>
 bnd (faV 2 v32) fun v33 =>
 bnd (ldV 1 false v33 h28) fun v34 =>
 bnd (binV .add v34 (.int .i64 1)) fun v35 =>
 bnd (eqI v29 v35) fun b36 =>
 bnd (ncV x0) fun v37 =>
 bnd (faV 4 v37) fun v38 =>
 bnd (stV 1 v38 (.bool (!b36)) h28) fun h39 =>
 S170_j3 x0 v30 h39 K ) (
 bnd (ncV x0) fun v40 =>
 bnd (faV 4 v40) fun v41 =>
 bnd (stV 1 v41 (.bool false) h28) fun h42 =>
 S170_j3 x0 v30 h42 K )) (
 bnd (ncV x0) fun v43 =>
 bnd (faV 2 v43) fun v44 =>
 bnd (ldV 1 false v44 h) fun v45 =>
 T Tryz.prog 81 [v45] h fun v46 h47 =>
 bnd (ncV x0) fun v48 =>
 bnd (faV 2 v48) fun v49 =>
 bnd (ldV 1 false v49 h47) fun v50 =>
 bnd (binV .add v50 (.int .i64 1)) fun v51 =>
 T Tryz.prog 81 [v51] h47 fun v52 h53 =>
 T Tryz.prog 158 [x1, (.int .i64 29), v46, v52] h53 fun v54 h55 =>
 bnd (exV v54 0) fun v56 =>
 bnd (exV v54 1) fun v57 =>
 bnd (eqI v56 v46) fun b58 =>
 bnd (ncV x0) fun v59 =>
 bnd (faV 3 v59) fun v60 =>
 bnd (stV 1 v60 (.bool b58) h55) fun h61 =>
 bnd (ncV x0) fun v62 =>
 bnd (faV 4 v62) fun v63 =>
 bnd (stV 1 v63 (.bool true) h61) fun h64 =>
 S170_j3 x0 (.bool true) h64 K ))
def S170_j1 (x0 x1 x14 : Value) (h : GH) (K : Value → GH → Prop)  : Prop :=
 ifV x14 (
 K (.tuple #[(.bool false), (.int .i64 1)]) h) (
 bnd (ncV x0) fun v1 =>
 bnd (faV 4 v1) fun v2 =>
 bnd (ldV 1 false v2 h) fun v3 =>
 ifV v3 (
 K (.tuple #[(.bool true), (.int .i64 0)]) h) (
 S170_j2 x0 x1 h K ))
def S170 (a0 a1 : Value) (h : GH) (K : Value → GH → Prop) : Prop :=
 bnd (eqK .ptr true a0 (.pointer none)) fun b1 =>
 ifV (.bool b1) (
 S170_j1 a0 a1 (.bool true) h K ) (
 bnd (eqK .ptr true a1 (.pointer none)) fun b2 =>
 S170_j1 a0 a1 (.bool b2) h K )
def A170 : Ann := ⟨fun | 11 => ([0, 1, 2, 3, 4, 5, 6, 7, 8, 9], [0, 1, 3, 7, 0, 16, 48, 112, 255, 511]) | _ => ([], []), fun _ => []⟩
theorem S170_T {a0 a1 : Value} {h : GH} {K : Value → GH → Prop} (g : S170 a0 a1 h K) : T Tryz.prog 170 [a0, a1] h K :=
  T_of_gwp (A := A170) Tryz.func170 (c := bodyOf Tryz.f170) (by kernel_rfl) (by kernel_rfl) (by kernel_rfl) (by kernel_rfl) (by kernel_rfl) (Eq.mp (by kernel_rfl) g)
def S171_j3 (x0 x1 x4 : Value) (h : GH) (K : Value → GH → Prop)  : Prop :=
 bnd (ncV x0) fun v1 =>
 bnd (faV 20 v1) fun v2 =>
 bnd (ldV 1 false v2 h) fun v3 =>
 bnd (ncV x4) fun v4 =>
 bnd (faV 5 v4) fun v5 =>
 bnd (stV 1 v5 v3 h) fun h6 =>
 bnd (ncV x4) fun v7 =>
 bnd (faV 4 v7) fun v8 =>
 bnd (stV 1 v8 x1 h6) fun h9 =>
 bnd (ncV x0) fun v10 =>
 bnd (faV 8 v10) fun v11 =>
 bnd (stV 1 v11 (.int .i64 0) h9) fun h12 =>
 K (.tuple #[]) h12
def S171_j2 (x0 x1 x4 : Value) (h : GH) (K : Value → GH → Prop)  : Prop :=
 bnd (ncV x0) fun v1 =>
 bnd (faV 20 v1) fun v2 =>
 bnd (ldV 1 false v2 h) fun v3 =>
 bnd (eqI v3 (.int .i64 0)) fun b4 =>
 ifV (.bool b4) (
 bnd (ncV x0) fun v5 =>
 bnd (faV 18 v5) fun v6 =>
 bnd (ldV 1 false v6 h) fun v7 =>
 T Tryz.prog 183 [v7] h fun v8 h9 =>
 bnd (ncV x4) fun v10 =>
 bnd (faV 7 v10) fun v11 =>
 bnd (stV 1 v11 v8 h9) fun h12 =>
 S171_j3 x0 x1 x4 h12 K ) (
 S171_j3 x0 x1 x4 h K )
def S171_j1 (x0 x1 x4 x39 : Value) (h : GH) (K : Value → GH → Prop)  : Prop :=
 ifV x39 (
 bnd (ncV x0) fun v1 =>
 bnd (faV 3 v1) fun v2 =>
 bnd (ldV 1 false v2 h) fun v3 =>
 bnd (ncV x0) fun v4 =>
 bnd (faV 8 v4) fun v5 =>
 bnd (ldV 1 false v5 h) fun v6 =>
 T Tryz.prog 182 [v3, v6] h fun v7 h8 =>
 bnd (exV v7 0) fun v9 =>
 bnd (exV v7 1) fun v10 =>
 bnd (ncV x0) fun v11 =>
 bnd (faV 9 v11) fun v12 =>
 bnd (stV 1 v12 v9 h8) fun h13 =>
 K (.tuple #[]) h13) (
 S171_j2 x0 x1 x4 h K )
def S171 (a0 a1 : Value) (h : GH) (K : Value → GH → Prop) : Prop :=
 bnd (ncV a0) fun v1 =>
 bnd (faV 6 v1) fun v2 =>
 bnd (stV 1 v2 .nilFunc h) fun h3 =>
 bnd (ncV a0) fun v4 =>
 bnd (faV 8 v4) fun v5 =>
 bnd (ldV 1 false v5 h3) fun v6 =>
 bnd (binV .add v6 (.int .i64 1)) fun v7 =>
 bnd (ncV a0) fun v8 =>
 bnd (faV 8 v8) fun v9 =>
 bnd (stV 1 v9 v7 h3) fun h10 =>
 T Tryz.prog 88 [a0] h10 fun v11 h12 =>
 bnd (ncV a0) fun v13 =>
 bnd (faV 8 v13) fun v14 =>
 bnd (ldV 1 false v14 h12) fun v15 =>
 bnd (ncV v11) fun v16 =>
 bnd (faV 6 v16) fun v17 =>
 bnd (stV 1 v17 v15 h12) fun h18 =>
 bnd (ncV a0) fun v19 =>
 bnd (faV 20 v19) fun v20 =>
 bnd (ldV 1 false v20 h18) fun v21 =>
 bnd (eqI v21 (.int .i64 2)) fun b22 =>
 ifV (.bool b22) (
 bnd (ncV a0) fun v23 =>
 bnd (faV 8 v23) fun v24 =>
 bnd (ldV 1 false v24 h18) fun v25 =>
 bnd (ncV a0) fun v26 =>
 bnd (faV 2 v26) fun v27 =>
 bnd (ldV 1 false v27 h18) fun v28 =>
 bnd (binV .lss v25 v28) fun v29 =>
 S171_j1 a0 a1 v11 v29 h18 K ) (
 S171_j1 a0 a1 v11 (.bool false) h18 K )
def A171 : Ann := ⟨fun | 4 => ([0, 1, 2, 3, 4, 5, 6, 7, 8, 9, 10, 11, 12, 13, 14, 15], [0, 1, 3, 7, 15, 31, 63, 127, 255, 511, 63, 1087, 3135, 7231, 16383, 32767]) | 5 => ([0, 1, 2, 3, 4, 5, 6, 7, 8, 9, 10, 11, 12, 13, 14, 15], [0, 0, 2, 6, 14, 0, 32, 96, 224, 510, 1022, 2046, 2046, 4095, 12287, 28671]) | _ => ([], []), fun _ => []⟩
theorem S171_T {a0 a1 : Value} {h : GH} {K : Value → GH → Prop} (g : S171 a0 a1 h K) : T Tryz.prog 171 [a0, a1] h K :=
  T_of_gwp (A := A171) Tryz.func171 (c := bodyOf Tryz.f171) (by kernel_rfl) (by kernel_rfl) (by kernel_rfl) (by kernel_rfl) (by kernel_rfl) (Eq.mp (by kernel_rfl) g)
def S172 (a0 a1 a2 : Value) (h : GH) (K : Value → GH → Prop) : Prop :=
 bnd (ldV 1 false a1 h) fun v1 =>
 bnd (eqI a0 v1) fun b2 =>
 ifV (.bool b2) (
 bnd (ldV 1 false a2 h) fun v3 =>
 K v3 h) (
 K a0 h)
def A172 : Ann := ⟨fun _ => ([], []), fun _ => []⟩
theorem S172_T {a0 a1 a2 : Value} {h : GH} {K : Value → GH → Prop} (g : S172 a0 a1 a2 h K) : T Tryz.prog 172 [a0, a1, a2] h K :=
  T_of_gwp (A := A172) Tryz.func172 (c := bodyOf Tryz.f172) (by kernel_rfl) (by kernel_rfl) (by kernel_rfl) (by kernel_rfl) (by kernel_rfl) (Eq.mp (by kernel_rfl) g)
def S173 (a0 : Value) (h : GH) (K : Value → GH → Prop) : Prop :=
 Lfp (fun (s1 : Nat → Value) h2 again3 =>
 bnd (binV .lss (s1 1) (.int .i64 16)) fun v4 =>
 ifV v4 (
 bnd (ncV (s1 0)) fun v5 =>
 bnd (faV 16 v5) fun v6 =>
 bnd (iaV 16 1 v6 (s1 1)) fun v7 =>
 bnd (ldV 1 false v7 h2) fun v8 =>
 T Tryz.prog 184 [v8] h2 fun v9 h10 =>
 bnd (unV .not v9) fun v11 =>
 ifV v11 (
 K (.bool false) h10) (
 bnd (ncV (s1 0)) fun v12 =>
 bnd (faV 32 v12) fun v13 =>
 bnd (iaV 16 1 v13 (s1 1)) fun v14 =>
 bnd (ldV 1 false v14 h10) fun v15 =>
 T Tryz.prog 184 [v15] h10 fun v16 h17 =>
 bnd (unV .not v16) fun v18 =>
 ifV v18 (
 K (.bool false) h17) (
 bnd (binV .add (s1 1) (.int .i64 1)) fun v19 =>
 again3 (tup [(s1 0), v19]) h17))) (
 K (.bool true) h2)) (tup [a0, (.int .i64 0)]) h
def A173 : Ann := ⟨fun _ => ([], []), fun | 0 => [0, 4] | _ => []⟩
theorem S173_T {a0 : Value} {h : GH} {K : Value → GH → Prop} (g : S173 a0 h K) : T Tryz.prog 173 [a0] h K :=
  T_of_gwp (A := A173) Tryz.func173 (c := bodyOf Tryz.f173) (by kernel_rfl) (by kernel_rfl) (by kernel_rfl) (by kernel_rfl) (by kernel_rfl) (Eq.mp (by kernel_rfl) g)
def S174_j1 (x2 x3 x4 : Value) (h : GH) (K : Value → GH → Prop)  : Prop :=
 bnd (ldV 48 true x2 h) fun v1 =>
 bnd (fillV (List.replicate 16 (.bool false) ++ List.replicate 32 (.int .i64 0) ++ [.nilIface]) [(0, 48, v1)]) fun c2 =>
 newV 305 ((.agg c2.toArray) : Value).cells.toList h fun v3 h4 =>
 bnd (fillV [(.pointer none)] [(0, 1, v3)]) fun c5 =>
 newV 307 [(.pointer none)] h4 fun v6 h7 =>
 bnd (stV 1 v6 (.agg c5.toArray) h7) fun h8 =>
 bnd (faV 0 x3) fun v9 =>
 bnd (ldV 1 false v9 h8) fun v10 =>
 bnd (eqI v10 (.int .i64 9)) fun b11 =>
 ifV (.bool b11) (
 T Tryz.prog 185 [(.int .i64 2)] h8 fun v12 h13 =>
 newV 103 [(.int .i64 0), (.int .i64 0)] h13 fun v14 h15 =>
 bnd (stV 2 v14 v12 h15) fun h16 =>
 bnd (ldV 1 true v6 h16) fun v17 =>
 T Tryz.prog 186 [v17, (.int .i64 (-1)), (.int .i64 0)] h16 fun v18 h19 =>
 bnd (eqI v18 (.int .i64 (-1))) fun b20 =>
 ifV (.bool (!b20)) (
 T Tryz.prog 187 [v18] h19 fun v21 h22 =>
 bnd (stV 2 v14 v21 h22) fun h23 =>
 bnd (ldV 2 true v14 h23) fun v24 =>
 T Tryz.prog 188 [v3, x2, v24] h23 fun v25 h26 =>
 bnd (stV 50 x4 v25 h26) fun h27 =>
 bnd (ldV 50 true x4 h27) fun v28 =>
 K (.tuple #[v28, (.int .i64 0)]) h27) (
 bnd (ldV 2 true v14 h19) fun v29 =>
 T Tryz.prog 188 [v3, x2, v29] h19 fun v30 h31 =>
 bnd (stV 50 x4 v30 h31) fun h32 =>
 bnd (ldV 50 true x4 h32) fun v33 =>
 K (.tuple #[v33, (.int .i64 0)]) h32)) (
 nmpV h8 fun v34 h35 =>
 bnd (mupV .i64 v34 (.int .i64 6) (.func (.func 189) #[] #[]) h35) fun h36 =>
 bnd (mupV .i64 v34 (.int .i64 7) (.func (.func 190) #[] #[]) h36) fun h37 =>
 bnd (mupV .i64 v34 (.int .i64 8) (.func (.func 191) #[] #[]) h37) fun h38 =>
 bnd (mupV .i64 v34 (.int .i64 10) (.func (.func 192) #[] #[]) h38) fun h39 =>
 bnd (faV 0 x3) fun v40 =>
 bnd (ldV 1 false v40 h39) fun v41 =>
 bnd (mlkV .i64 v34 v41 h39) fun v42 =>
 bnd (ldV 1 true v6 h39) fun v43 =>
 bnd (faV 1 x3) fun v44 =>
 bnd (ldV 1 false v44 h39) fun v45 =>
 T Tryz.prog 193 [v43, v45] h39 fun v46 h47 =>
 mlkV .i64 v34 v41 h47 = some v42 ∧
 ldV 1 false v40 h47 = some v41 ∧
 callV Tryz.prog v42 [v46, x3] h47 fun v48 h49 =>
 newV 103 [(.int .i64 0), (.int .i64 0)] h49 fun v50 h51 =>
 bnd (stV 2 v50 v48 h51) fun h52 =>
 bnd (ldV 2 true v50 h52) fun v53 =>
 T Tryz.prog 188 [v3, x2, v53] h52 fun v54 h55 =>
 bnd (stV 50 x4 v54 h55) fun h56 =>
 bnd (ldV 50 true x4 h56) fun v57 =>
 K (.tuple #[v57, (.int .i64 0)]) h56)
def S174 (a0 a1 : Value) (h : GH) (K : Value → GH → Prop) : Prop :=
 newV 258 (a0 : Value).cells.toList h fun v1 h2 =>
 newV 126 (a1 : Value).cells.toList h2 fun v3 h4 =>
 newV 260 ([(.int .i64 0)] ++ List.replicate 16 (.bool false) ++ List.replicate 32 (.int .i64 0) ++ [(.slice none 0 0)]) h4 fun v5 h6 =>
 T Tryz.prog 173 [v1] h6 fun v7 h8 =>
 bnd (unV .not v7) fun v9 =>
 ifV v9 (
 bnd (fillV ([(.int .i64 0)] ++ List.replicate 16 (.bool false) ++ List.replicate 32 (.int .i64 0) ++ [(.slice none 0 0)]) []) fun c10 =>
 bnd (stV 50 v5 (.agg c10.toArray) h8) fun h11 =>
 bnd (ldV 50 true v5 h11) fun v12 =>
 K (.tuple #[v12, (.int .i64 600)]) h11) (
 T Tryz.prog 51 [v3] h8 fun v13 h14 =>
 bnd (unV .not v13) fun v15 =>
 ifV v15 (
 bnd (fillV ([(.int .i64 0)] ++ List.replicate 16 (.bool false) ++ List.replicate 32 (.int .i64 0) ++ [(.slice none 0 0)]) []) fun c16 =>
 bnd (stV 50 v5 (.agg c16.toArray) h14) fun h17 =>
 bnd (ldV 50 true v5 h17) fun v18 =>
 K (.tuple #[v18, (.int .i64 600)]) h17) (
 bnd (faV 0 v3) fun v19 =>
 bnd (ldV 1 false v19 h14) fun v20 =>
 T Tryz.prog 77 [v20] h14 fun v21 h22 =>
 ifV v21 (
 bnd (fillV ([(.int .i64 0)] ++ List.replicate 16 (.bool false) ++ List.replicate 32 (.int .i64 0) ++ [(.slice none 0 0)]) []) fun c23 =>
 bnd (stV 50 v5 (.agg c23.toArray) h22) fun h24 =>
 bnd (ldV 50 true v5 h24) fun v25 =>
 K (.tuple #[v25, (.int .i64 600)]) h24) (
 S174_j1 v1 v3 v5 h22 K )))
def A174 : Ann := ⟨fun | 12 => ([0, 1, 2, 3, 4, 5, 6, 7, 8, 9, 10], [0, 0, 2, 7, 0, 0, 32, 112, 255, 0, 1023]) | _ => ([], []), fun _ => []⟩
theorem S174_T {a0 a1 : Value} {h : GH} {K : Value → GH → Prop} (g : S174 a0 a1 h K) : T Tryz.prog 174 [a0, a1] h K :=
  T_of_gwp (A := A174) Tryz.func174 (c := bodyOf Tryz.f174) (by kernel_rfl) (by kernel_rfl) (by kernel_rfl) (by kernel_rfl) (by kernel_rfl) (Eq.mp (by kernel_rfl) g)
def S175_j1 (x2 x3 x4 : Value) (h : GH) (K : Value → GH → Prop)  : Prop :=
 bnd (fillV [.nilFunc, .nilFunc, .nilFunc, .nilFunc, .nilFunc, .nilFunc] [(0, 1, (.func (.func 194) #[] #[])), (1, 1, (.func (.func 195) #[] #[])), (2, 1, (.func (.func 196) #[] #[])), (3, 1, (.func (.func 197) #[] #[])), (4, 1, (.func (.func 198) #[] #[])), (5, 1, (.func (.func 199) #[] #[]))]) fun c1 =>
 newV 315 [.nilFunc, .nilFunc, .nilFunc, .nilFunc, .nilFunc, .nilFunc] h fun v2 h3 =>
 bnd (stV 6 v2 (.agg c1.toArray) h3) fun h4 =>
 bnd (ldV 48 true x2 h4) fun v5 =>
 bnd (fillV (List.replicate 16 (.bool false) ++ List.replicate 32 (.int .i64 0) ++ [.nilIface]) [(0, 48, v5)]) fun c6 =>
 newV 305 ((.agg c6.toArray) : Value).cells.toList h4 fun v7 h8 =>
 bnd (faV 0 x3) fun v9 =>
 bnd (ldV 1 false v9 h8) fun v10 =>
 bnd (iaV 6 1 v2 v10) fun v11 =>
 bnd (ldV 1 false v11 h8) fun v12 =>
 callV Tryz.prog v12 [v7, x3] h8 fun v13 h14 =>
 newV 103 [(.int .i64 0), (.int .i64 0)] h14 fun v15 h16 =>
 bnd (stV 2 v15 v13 h16) fun h17 =>
 bnd (ldV 2 true v15 h17) fun v18 =>
 T Tryz.prog 188 [v7, x2, v18] h17 fun v19 h20 =>
 bnd (stV 50 x4 v19 h20) fun h21 =>
 bnd (ldV 50 true x4 h21) fun v22 =>
 K (.tuple #[v22, (.int .i64 0)]) h21
def S175 (a0 a1 : Value) (h : GH) (K : Value → GH → Prop) : Prop :=
 newV 258 (a0 : Value).cells.toList h fun v1 h2 =>
 newV 126 (a1 : Value).cells.toList h2 fun v3 h4 =>
 newV 260 ([(.int .i64 0)] ++ List.replicate 16 (.bool false) ++ List.replicate 32 (.int .i64 0) ++ [(.slice none 0 0)]) h4 fun v5 h6 =>
 T Tryz.prog 173 [v1] h6 fun v7 h8 =>
 bnd (unV .not v7) fun v9 =>
 ifV v9 (
 bnd (fillV ([(.int .i64 0)] ++ List.replicate 16 (.bool false) ++ List.replicate 32 (.int .i64 0) ++ [(.slice none 0 0)]) []) fun c10 =>
 bnd (stV 50 v5 (.agg c10.toArray) h8) fun h11 =>
 bnd (ldV 50 true v5 h11) fun v12 =>
 K (.tuple #[v12, (.int .i64 500)]) h11) (
 T Tryz.prog 51 [v3] h8 fun v13 h14 =>
 bnd (unV .not v13) fun v15 =>
 ifV v15 (
 bnd (fillV ([(.int .i64 0)] ++ List.replicate 16 (.bool false) ++ List.replicate 32 (.int .i64 0) ++ [(.slice none 0 0)]) []) fun c16 =>
 bnd (stV 50 v5 (.agg c16.toArray) h14) fun h17 =>
 bnd (ldV 50 true v5 h17) fun v18 =>
 K (.tuple #[v18, (.int .i64 500)]) h17) (
 bnd (faV 0 v3) fun v19 =>
 bnd (ldV 1 false v19 h14) fun v20 =>
 T Tryz.prog 77 [v20] h14 fun v21 h22 =>
 bnd (unV .not v21) fun v23 =>
 ifV v23 (
 bnd (fillV ([(.int .i64 0)] ++ List.replicate 16 (.bool false) ++ List.replicate 32 (.int .i64 0) ++ [(.slice none 0 0)]) []) fun c24 =>
 bnd (stV 50 v5 (.agg c24.toArray) h22) fun h25 =>
 bnd (ldV 50 true v5 h25) fun v26 =>
 K (.tuple #[v26, (.int .i64 500)]) h25) (
 S175_j1 v1 v3 v5 h22 K )))
def A175 : Ann := ⟨fun _ => ([], []), fun _ => []⟩
theorem S175_T {a0 a1 : Value} {h : GH} {K : Value → GH → Prop} (g : S175 a0 a1 h K) : T Tryz.prog 175 [a0, a1] h K :=
  T_of_gwp (A := A175) Tryz.func175 (c := bodyOf Tryz.f175) (by kernel_rfl) (by kernel_rfl) (by kernel_rfl) (by kernel_rfl) (by kernel_rfl) (Eq.mp (by kernel_rfl) g)
def S176 (a0 a1 a2 : Value) (h : GH) (K : Value → GH → Prop) : Prop :=
 T Tryz.prog 101 [a0] h fun v1 h2 =>
 bnd (unV .not v1) fun v3 =>
 ifV v3 (
 K (.tuple #[(.pointer none), (.int .i64 1500)]) h2) (
 T Tryz.prog 23 [a1, (.int .i64 1048576)] h2 fun v4 h5 =>
 bnd (unV .not v4) fun v6 =>
 ifV v6 (
 K (.tuple #[(.pointer none), (.int .i64 1500)]) h5) (
 T Tryz.prog 23 [a2, (.int .i64 16)] h5 fun v7 h8 =>
 bnd (unV .not v7) fun v9 =>
 ifV v9 (
 K (.tuple #[(.pointer none), (.int .i64 1500)]) h8) (
 bnd (fillV [(.int .i64 0), (.int .i64 0), (.int .i64 0), (.int .i64 0), (.pointer none), (.int .i64 0), (.int .i64 0), (.bool false)] [(0, 1, a0), (1, 1, a1), (2, 1, a2), (5, 1, (.int .i64 (-1)))]) fun c10 =>
 newV 317 ((.agg c10.toArray) : Value).cells.toList h8 fun v11 h12 =>
 K (.tuple #[v11, (.int .i64 0)]) h12)))
def A176 : Ann := ⟨fun _ => ([], []), fun _ => []⟩
theorem S176_T {a0 a1 a2 : Value} {h : GH} {K : Value → GH → Prop} (g : S176 a0 a1 a2 h K) : T Tryz.prog 176 [a0, a1, a2] h K :=
  T_of_gwp (A := A176) Tryz.func176 (c := bodyOf Tryz.f176) (by kernel_rfl) (by kernel_rfl) (by kernel_rfl) (by kernel_rfl) (by kernel_rfl) (Eq.mp (by kernel_rfl) g)
def S177_j1 (x0 x1 x2 : Value) (h : GH) (K : Value → GH → Prop)  : Prop :=
 T Tryz.prog 86 [x0] h fun v1 h2 =>
 T Tryz.prog 87 [x1, (.int .i64 0)] h2 fun v3 h4 =>
 bnd (lnV x2) fun v5 =>
 T Tryz.prog 81 [v5] h4 fun v6 h7 =>
 bsV 3 2 [(.int .i64 0), (.int .i64 0)] [(0, 1, v3), (1, 1, v6)] h7 fun v8 h9 =>
 bnd (fillV [(.int .i64 0), (.slice none 0 0)] [(0, 1, v1), (1, 1, v8)]) fun c10 =>
 newV 320 ((.agg c10.toArray) : Value).cells.toList h9 fun v11 h12 =>
 bnd (lnV x2) fun v13 =>
 Lfp (fun (s14 : Nat → Value) h15 again16 =>
 bnd (binV .lss (s14 3) (s14 2)) fun v17 =>
 ifV v17 (
 bnd (isV 3 (s14 1) (s14 3)) fun v18 =>
 bnd (ldV 3 true v18 h15) fun v19 =>
 newV 322 [(.int .i64 0), (.int .i64 0), (.int .i64 0)] h15 fun v20 h21 =>
 bnd (stV 3 v20 v19 h21) fun h22 =>
 bnd (ncV (s14 0)) fun v23 =>
 bnd (faV 1 v23) fun v24 =>
 bnd (ldV 1 false v24 h22) fun v25 =>
 bnd (faV 0 v20) fun v26 =>
 bnd (ldV 1 false v26 h22) fun v27 =>
 bnd (faV 1 v20) fun v28 =>
 bnd (ldV 1 false v28 h22) fun v29 =>
 bnd (faV 2 v20) fun v30 =>
 bnd (ldV 1 false v30 h22) fun v31 =>
 T Tryz.prog 81 [v27] h22 fun v32 h33 =>
 ldV 1 false v30 h33 = some v31 ∧
 ldV 1 false v28 h33 = some v29 ∧
 ldV 1 false v24 h33 = some v25 ∧
 T Tryz.prog 81 [v29] h33 fun v34 h35 =>
 ldV 1 false v30 h35 = some v31 ∧
 ldV 1 false v24 h35 = some v25 ∧
 T Tryz.prog 81 [v31] h35 fun v36 h37 =>
 ldV 1 false v24 h37 = some v25 ∧
 bsV 3 3 [(.int .i64 0), (.int .i64 0), (.int .i64 0)] [(0, 1, v32), (1, 1, v34), (2, 1, v36)] h37 fun v38 h39 =>
 apV 3 1 8 v25 v38 h39 fun v40 h41 =>
 bnd (ncV (s14 0)) fun v42 =>
 bnd (faV 1 v42) fun v43 =>
 bnd (stV 1 v43 v40 h41) fun h44 =>
 bnd (binV .add (s14 3) (.int .i64 1)) fun v45 =>
 again16 (tup [(s14 0), (s14 1), (s14 2), v45]) h44) (
 K (.tuple #[(s14 0), (.int .i64 0)]) h15)) (tup [v11, x2, v13, (.int .i64 0)]) h12
def S177 (a0 a1 a2 : Value) (h : GH) (K : Value → GH → Prop) : Prop :=
 T Tryz.prog 163 [a0, a1] h fun v1 h2 =>
 bnd (unV .not v1) fun v3 =>
 ifV v3 (
 K (.tuple #[(.pointer none), (.int .i64 1300)]) h2) (
 T Tryz.prog 200 [a2] h2 fun v4 h5 =>
 bnd (unV .not v4) fun v6 =>
 ifV v6 (
 K (.tuple #[(.pointer none), (.int .i64 1300)]) h5) (
 S177_j1 a0 a1 a2 h5 K ))
def A177 : Ann := ⟨fun | 7 => ([0, 1, 2, 3, 4, 5, 6, 8, 9, 11, 12, 7, 10, 13, 14, 15, 16, 17, 18], [0, 0, 2, 6, 14, 0, 32, 96, 0, 256, 992, 0, 2048, 8160, 16352, 32766, 65535, 131071, 262143]) | _ => ([], []), fun | 0 => [8, 30, 31, 32] | _ => []⟩
theorem S177_T {a0 a1 a2 : Value} {h : GH} {K : Value → GH → Prop} (g : S177 a0 a1 a2 h K) : T Tryz.prog 177 [a0, a1, a2] h K :=
  T_of_gwp (A := A177) Tryz.func177 (c := bodyOf Tryz.f177) (by kernel_rfl) (by kernel_rfl) (by kernel_rfl) (by kernel_rfl) (by kernel_rfl) (Eq.mp (by kernel_rfl) g)
def S178 (a0 : Value) (h : GH) (K : Value → GH → Prop) : Prop :=
 newV 258 (a0 : Value).cells.toList h fun v1 h2 =>
 bnd (faV 0 v1) fun v3 =>
 bnd (ldV 16 true v3 h2) fun v4 =>
 Lfp (fun (s5 : Nat → Value) h6 again7 =>
 bnd (binV .lss (s5 3) (.int .i64 16)) fun v8 =>
 ifV v8 (
 bnd (ixV 16 1 false (s5 2) (s5 3)) fun v9 =>
 ifV v9 (
 bnd (faV 16 (s5 0)) fun v10 =>
 bnd (iaV 16 1 v10 (s5 3)) fun v11 =>
 bnd (ldV 1 false v11 h6) fun v12 =>
 bnd (faV 32 (s5 0)) fun v13 =>
 bnd (iaV 16 1 v13 (s5 3)) fun v14 =>
 bnd (ldV 1 false v14 h6) fun v15 =>
 bnd (fillV [(.int .i64 0), (.int .i64 0), (.int .i64 0)] [(0, 1, (s5 3)), (1, 1, v12), (2, 1, v15)]) fun c16 =>
 bsV 322 1 [(.int .i64 0), (.int .i64 0), (.int .i64 0)] [(0, 3, (.agg c16.toArray))] h6 fun v17 h18 =>
 apV 322 3 24 (s5 1) v17 h18 fun v19 h20 =>
 bnd (binV .add (s5 3) (.int .i64 1)) fun v21 =>
 again7 (tup [(s5 0), v19, (s5 2), v21]) h20) (
 bnd (binV .add (s5 3) (.int .i64 1)) fun v22 =>
 again7 (tup [(s5 0), (s5 1), (s5 2), v22]) h6)) (
 K (s5 1) h6)) (tup [v1, (.slice none 0 0), v4, (.int .i64 0)]) h2
def A178 : Ann := ⟨fun | 6 => ([0, 1, 2, 3, 4, 5, 6, 7, 8, 9, 10, 11, 12, 13], [0, 0, 0, 0, 12, 28, 0, 0, 192, 448, 1022, 2046, 4095, 8191]) | _ => ([], []), fun | 0 => [1, 3, 7, 8] | _ => []⟩
theorem S178_T {a0 : Value} {h : GH} {K : Value → GH → Prop} (g : S178 a0 h K) : T Tryz.prog 178 [a0] h K :=
  T_of_gwp (A := A178) Tryz.func178 (c := bodyOf Tryz.f178) (by kernel_rfl) (by kernel_rfl) (by kernel_rfl) (by kernel_rfl) (by kernel_rfl) (Eq.mp (by kernel_rfl) g)
def S179 (a0 : Value) (h : GH) (K : Value → GH → Prop) : Prop :=
 bnd (eqK .ptr true a0 (.pointer none)) fun b1 =>
 ifV (.bool b1) (
 K (.int .i64 0) h) (
 bnd (ncV a0) fun v2 =>
 bnd (faV 3 v2) fun v3 =>
 bnd (ldV 1 false v3 h) fun v4 =>
 K v4 h)
def A179 : Ann := ⟨fun _ => ([], []), fun _ => []⟩
theorem S179_T {a0 : Value} {h : GH} {K : Value → GH → Prop} (g : S179 a0 h K) : T Tryz.prog 179 [a0] h K :=
  T_of_gwp (A := A179) Tryz.func179 (c := bodyOf Tryz.f179) (by kernel_rfl) (by kernel_rfl) (by kernel_rfl) (by kernel_rfl) (by kernel_rfl) (Eq.mp (by kernel_rfl) g)
def S180 (a0 : Value) (h : GH) (K : Value → GH → Prop) : Prop :=
 bnd (ncV a0) fun v1 =>
 bnd (faV 2 v1) fun v2 =>
 bnd (ldV 1 false v2 h) fun v3 =>
 K v3 h
def A180 : Ann := ⟨fun _ => ([], []), fun _ => []⟩
theorem S180_T {a0 : Value} {h : GH} {K : Value → GH → Prop} (g : S180 a0 h K) : T Tryz.prog 180 [a0] h K :=
  T_of_gwp (A := A180) Tryz.func180 (c := bodyOf Tryz.f180) (by kernel_rfl) (by kernel_rfl) (by kernel_rfl) (by kernel_rfl) (by kernel_rfl) (Eq.mp (by kernel_rfl) g)
def S181 (a0 a1 : Value) (h : GH) (K : Value → GH → Prop) : Prop :=
 bnd (taV 217 (.agg #[(.int .i64 0), (.int .i64 0), (.int .i64 0), (.int .i64 0), (.int .i64 0)]) true a0) fun v1 =>
 bnd (exV v1 1) fun v2 =>
 bnd (exV v1 0) fun v3 =>
 ifV v2 (
 newV 217 [(.int .i64 0), (.int .i64 0), (.int .i64 0), (.int .i64 0), (.int .i64 0)] h fun v4 h5 =>
 bnd (stV 5 v4 v3 h5) fun h6 =>
 bnd (faV 0 v4) fun v7 =>
 bnd (ldV 2 true v7 h6) fun v8 =>
 bnd (fillV [(.int .i64 0), (.int .i64 0), (.int .i64 0), (.int .i64 0), (.bool false), (.bool false)] [(0, 2, v8)]) fun c9 =>
 bnd (ldV 5 true v4 h6) fun v10 =>
 bnd (fillV [(.int .i64 0), (.int .i64 0), (.int .i64 0), (.int .i64 0), (.bool false), (.bool false), (.int .i64 0), (.int .i64 0), (.int .i64 0), (.int .i64 0), (.int .i64 0), (.int .i64 0)] [(0, 6, (.agg c9.toArray)), (6, 5, v10)]) fun c11 =>
 newV 327 ((.agg c11.toArray) : Value).cells.toList h6 fun v12 h13 =>
 K (.iface 323 v12) h13) (
 bnd (taV 121 (.agg #[(.int .i64 0), (.int .i64 0)]) true a0) fun v14 =>
 bnd (exV v14 1) fun v15 =>
 bnd (exV v14 0) fun v16 =>
 ifV v15 (
 newV 121 [(.int .i64 0), (.int .i64 0)] h fun v17 h18 =>
 bnd (stV 2 v17 v16 h18) fun h19 =>
 bnd (ldV 2 true v17 h19) fun v20 =>
 bnd (fillV [(.int .i64 0), (.int .i64 0), (.int .i64 0), (.int .i64 0), (.bool false), (.bool false)] [(0, 2, v20)]) fun c21 =>
 bnd (fillV [(.int .i64 0), (.int .i64 0), (.int .i64 0), (.int .i64 0), (.bool false), (.bool false), (.pointer none), (.int .i64 0), (.int .i64 0), (.int .i64 0), (.int .i64 0), .nilIface, (.int .i64 0)] [(0, 6, (.agg c21.toArray)), (6, 1, a1), (7, 1, (.int .i64 1))]) fun c22 =>
 newV 330 ((.agg c22.toArray) : Value).cells.toList h19 fun v23 h24 =>
 K (.iface 328 v23) h24) (
 K .nilIface h))
def A181 : Ann := ⟨fun _ => ([], []), fun _ => []⟩
theorem S181_T {a0 a1 : Value} {h : GH} {K : Value → GH → Prop} (g : S181 a0 a1 h K) : T Tryz.prog 181 [a0, a1] h K :=
  T_of_gwp (A := A181) Tryz.func181 (c := bodyOf Tryz.f181) (by kernel_rfl) (by kernel_rfl) (by kernel_rfl) (by kernel_rfl) (by kernel_rfl) (Eq.mp (by kernel_rfl) g)
def S182_j2 (x1 : Value) (h : GH) (K : Value → GH → Prop)  : Prop :=
 Lfp (fun (s1 : Nat → Value) h2 again3 =>
 bnd (binV .lss (s1 2) (s1 0)) fun v4 =>
 ifV v4 (
 bnd (binV .lss (s1 1) (.int .i64 8)) fun v5 =>
 ifV v5 (
 bnd (binV .mul (s1 1) (.int .i64 2)) fun v6 =>
 bnd (binV .add (s1 2) (.int .i64 1)) fun v7 =>
 again3 (tup [(s1 0), v6, v7]) h2) (
 bnd (mmV false (s1 1) [(.int .i64 8)]) fun v8 =>
 K (.tuple #[v8, (.int .i64 0)]) h2)) (
 bnd (mmV false (s1 1) [(.int .i64 8)]) fun v9 =>
 K (.tuple #[v9, (.int .i64 0)]) h2)) (tup [x1, (.int .i64 1), (.int .i64 1)]) h
def S182_j1 (x0 x1 x8 : Value) (h : GH) (K : Value → GH → Prop)  : Prop :=
 ifV x8 (
 K (.tuple #[(.int .i64 0), (.int .i64 1600)]) h) (
 bnd (unV .not x0) fun v1 =>
 ifV v1 (
 K (.tuple #[(.int .i64 0), (.int .i64 0)]) h) (
 bnd (eqI x1 (.int .i64 0)) fun b2 =>
 ifV (.bool b2) (
 K (.tuple #[(.int .i64 0), (.int .i64 0)]) h) (
 S182_j2 x1 h K )))
def S182 (a0 a1 : Value) (h : GH) (K : Value → GH → Prop) : Prop :=
 bnd (binV .lss a1 (.int .i64 0)) fun v1 =>
 ifV v1 (
 S182_j1 a0 a1 (.bool true) h K ) (
 bnd (binV .gtr a1 (.int .i64 16)) fun v2 =>
 S182_j1 a0 a1 v2 h K )
def A182 : Ann := ⟨fun _ => ([], []), fun | 1 => [1, 6, 7] | _ => []⟩
theorem S182_T {a0 a1 : Value} {h : GH} {K : Value → GH → Prop} (g : S182 a0 a1 h K) : T Tryz.prog 182 [a0, a1] h K :=
  T_of_gwp (A := A182) Tryz.func182 (c := bodyOf Tryz.f182) (by kernel_rfl) (by kernel_rfl) (by kernel_rfl) (by kernel_rfl) (by kernel_rfl) (Eq.mp (by kernel_rfl) g)
def S183 (a0 : Value) (h : GH) (K : Value → GH → Prop) : Prop :=
 bnd (eqK .ptr true a0 (.pointer none)) fun b1 =>
 ifV (.bool b1) (
 K (.slice none 0 0) h) (
 bnd (ncV a0) fun v2 =>
 bnd (faV 60 v2) fun v3 =>
 bnd (ldV 1 false v3 h) fun v4 =>
 T Tryz.prog 74 [v4] h fun v5 h6 =>
 K v5 h6)
def A183 : Ann := ⟨fun _ => ([], []), fun _ => []⟩
theorem S183_T {a0 : Value} {h : GH} {K : Value → GH → Prop} (g : S183 a0 h K) : T Tryz.prog 183 [a0] h K :=
  T_of_gwp (A := A183) Tryz.func183 (c := bodyOf Tryz.f183) (by kernel_rfl) (by kernel_rfl) (by kernel_rfl) (by kernel_rfl) (by kernel_rfl) (Eq.mp (by kernel_rfl) g)
end Go.Proofs.YtcpfkkppfgolaaaGreatDoor
