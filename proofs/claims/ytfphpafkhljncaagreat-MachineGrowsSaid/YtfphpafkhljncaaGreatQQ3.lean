/- Several texts in one; nothing here is a statement on the program. -/
import Derived.Test.YtfphpafkhljncaaGreatQQ2
import Derived.Test.YtfphpafkhljncaaGreatProg
import Derived.KernelRfl
set_option linter.unusedVariables false
set_option linter.unusedSimpArgs false
namespace Go.Proofs.YtfphpafkhljncaaGreat
open Go GW Go.Proofs
set_option maxRecDepth 100000
def A22 : Ann := ⟨fun _ => ([], []), fun | 0 => [0, 3, 5] | _ => []⟩
def S27_j1 (x0 x1 x2 x3 x4 : Value) (h : GH) (K : Value → GH → Prop)  : Prop :=
 bnd (fillV [(.int .i64 0), (.int .i64 0), (.int .i64 0), (.bool false), (.slice none 0 0), (.slice none 0 0), .nilFunc, (.bool false), (.int .i64 0), (.int .i64 0), (.int .i64 0), (.slice none 0 0), (.slice none 0 0), (.slice none 0 0), (.int .i64 0), (.pointer none), (.pointer none), (.pointer none), (.pointer none), (.pointer none), (.int .i64 0), (.int .i64 0), (.int .i64 0)] [(0, 1, x0), (1, 1, x1), (2, 1, x2), (3, 1, x3), (14, 1, (.int .i64 (-1)))]) fun c1 =>
 newV 135 ((.agg c1.toArray) : Value).cells.toList h fun v2 h3 =>
 bnd (lnV x4) fun v4 =>
 Lfp (fun (s5 : Nat → Value) h6 again7 =>
 bnd (binV .lss (s5 3) (s5 2)) fun v8 =>
 ifV v8 (
 bnd (isV 1 (s5 1) (s5 3)) fun v9 =>
 bnd (ldV 1 true v9 h6) fun v10 =>
 newV 27 [(.slice none 0 0)] h6 fun v11 h12 =>
 bnd (stV 1 v11 v10 h12) fun h13 =>
 bnd (ncV (s5 0)) fun v14 =>
 bnd (faV 4 v14) fun v15 =>
 bnd (ldV 1 false v15 h13) fun v16 =>
 bnd (faV 0 v11) fun v17 =>
 bnd (ldV 1 false v17 h13) fun v18 =>
 T Tryz.prog 77 [v18] h13 fun v19 h20 =>
 ldV 1 false v15 h20 = some v16 ∧
 bnd (fillV [(.slice none 0 0)] [(0, 1, v19)]) fun c21 =>
 bsV 27 1 [(.slice none 0 0)] [(0, 1, (.agg c21.toArray))] h20 fun v22 h23 =>
 apV 27 1 24 v16 v22 h23 fun v24 h25 =>
 bnd (ncV (s5 0)) fun v26 =>
 bnd (faV 4 v26) fun v27 =>
 bnd (stV 1 v27 v24 h25) fun h28 =>
 bnd (binV .add (s5 3) (.int .i64 1)) fun v29 =>
 again7 (tup [(s5 0), (s5 1), (s5 2), v29]) h28) (
 bnd (ncV (s5 0)) fun v30 =>
 bnd (faV 21 v30) fun v31 =>
 bnd (faV 0 v31) fun v32 =>
 bnd (stV 1 v32 (.int .i64 (-1)) h6) fun h33 =>
 K (.tuple #[(s5 0), (.int .i64 0)]) h33)) (tup [v2, x4, v4, (.int .i64 0)]) h3
def S27 (a0 a1 a2 a3 a4 : Value) (h : GH) (K : Value → GH → Prop) : Prop :=
 bnd (binV .lss a1 (.int .i64 1)) fun v1 =>
 ifV v1 (
 K (.tuple #[(.pointer none), (.int .i64 1800)]) h) (
 bnd (binV .gtr a1 (.int .i64 4)) fun v2 =>
 ifV v2 (
 K (.tuple #[(.pointer none), (.int .i64 1800)]) h) (
 T Tryz.prog 75 [a0, a1] h fun v3 h4 =>
 bnd (unV .not v3) fun v5 =>
 ifV v5 (
 K (.tuple #[(.pointer none), (.int .i64 1800)]) h4) (
 bsV 28 1 [(.slice none 0 0)] [(0, 1, a4)] h4 fun v6 h7 =>
 bnd (fillV [(.slice none 0 0), (.int .i64 0), (.bool false)] [(0, 1, v6), (1, 1, a2)]) fun c8 =>
 T Tryz.prog 76 [(.agg c8.toArray)] h7 fun v9 h10 =>
 bnd (unV .not v9) fun v11 =>
 ifV v11 (
 K (.tuple #[(.pointer none), (.int .i64 1800)]) h10) (
 S27_j1 a0 a1 a2 a3 a4 h10 K ))))
def A27 : Ann := ⟨fun | 7 => ([0, 1, 2, 3, 4, 5, 6, 7, 8, 9, 10, 11, 12, 13], [0, 0, 2, 6, 14, 0, 32, 96, 224, 480, 1022, 2047, 4095, 8191]) | _ => ([], []), fun | 0 => [12, 41, 42, 43] | _ => []⟩
theorem S27_T {a0 a1 a2 a3 a4 : Value} {h : GH} {K : Value → GH → Prop} (g : S27 a0 a1 a2 a3 a4 h K) : T Tryz.prog 27 [a0, a1, a2, a3, a4] h K :=
  T_of_gwp (A := A27) Tryz.func27 (c := bodyOf Tryz.f27) (by kernel_rfl) (by kernel_rfl) (by kernel_rfl) (by kernel_rfl) (by kernel_rfl) (Eq.mp (by kernel_rfl) g)
def S28 (h : GH) (K : Value → GH → Prop) : Prop :=
 bnd (fillV (List.replicate 642 (.int .i64 0) ++ [(.bool false)]) []) fun c1 =>
 newV 138 ((.agg c1.toArray) : Value).cells.toList h fun v2 h3 =>
 bnd (ncV v2) fun v4 =>
 bnd (faV 0 v4) fun v5 =>
 T Tryz.prog 78 [(.int .i64 1)] h3 fun v6 h7 =>
 bnd (iaV 634 1 v5 (.int .i64 16)) fun v8 =>
 bnd (stV 1 v8 v6 h7) fun h9 =>
 Lfp (fun (s10 : Nat → Value) h11 again12 =>
 bnd (binV .lss (s10 1) (.int .i64 11)) fun v13 =>
 ifV v13 (
 bnd (binV .add (.int .i64 17) (s10 1)) fun v14 =>
 bnd (binV .add (s10 1) (.int .i64 2)) fun v15 =>
 bnd (ncV (s10 0)) fun v16 =>
 bnd (faV 0 v16) fun v17 =>
 T Tryz.prog 78 [v15] h11 fun v18 h19 =>
 bnd (iaV 634 1 v17 v14) fun v20 =>
 bnd (stV 1 v20 v18 h19) fun h21 =>
 bnd (binV .add (s10 1) (.int .i64 1)) fun v22 =>
 again12 (tup [(s10 0), v22]) h21) (
 K (s10 0) h11)) (tup [v2, (.int .i64 0)]) h9
def A28 : Ann := ⟨fun | 2 => ([0, 2, 3, 1, 4, 5], [0, 0, 1, 5, 15, 31]) | 6 => ([0, 1, 2, 3, 4, 6, 7, 5, 8, 9], [0, 0, 2, 0, 8, 24, 1, 65, 255, 511]) | _ => ([], []), fun | 0 => [1, 10] | _ => []⟩
theorem S28_T {h : GH} {K : Value → GH → Prop} (g : S28 h K) : T Tryz.prog 28 [] h K :=
  T_of_gwp (A := A28) Tryz.func28 (c := bodyOf Tryz.f28) (by kernel_rfl) (by kernel_rfl) (by kernel_rfl) (by kernel_rfl) (by kernel_rfl) (Eq.mp (by kernel_rfl) g)
def S29_j3 (x0 x1 x2 x3 : Value) (h : GH) (K : Value → GH → Prop)  : Prop :=
 bnd (ncV x0) fun v1 =>
 bnd (faV 6 v1) fun v2 =>
 bnd (ldV 1 false v2 h) fun v3 =>
 bnd (fillV [(.pointer none), (.pointer none), (.pointer none), (.int .i64 0)] [(0, 1, x0), (1, 1, x1), (2, 1, x2), (3, 1, x3)]) fun c4 =>
 newV 143 ((.agg c4.toArray) : Value).cells.toList h fun v5 h6 =>
 callV Tryz.prog v3 [v5] h6 fun v7 h8 =>
 bnd (eqI v7 (.int .i64 0)) fun b9 =>
 ifV (.bool (!b9)) (
 bnd (ncV x0) fun v10 =>
 bnd (faV 7 v10) fun v11 =>
 bnd (stV 1 v11 (.bool true) h8) fun h12 =>
 K (.tuple #[(.bool true), (.int .i64 1800)]) h12) (
 K (.tuple #[(.bool true), (.int .i64 0)]) h8)
def S29_j2 (x0 x1 x2 x3 : Value) (h : GH) (K : Value → GH → Prop)  : Prop :=
 bnd (fillV [(.int .i64 0), (.int .i64 0)] [(0, 1, (.int .i64 (-1)))]) fun c1 =>
 bnd (ncV x0) fun v2 =>
 bnd (faV 21 v2) fun v3 =>
 bnd (stV 2 v3 (.agg c1.toArray) h) fun h4 =>
 bnd (ncV x0) fun v5 =>
 bnd (faV 6 v5) fun v6 =>
 bnd (ldV 1 false v6 h4) fun v7 =>
 bnd (eqK .func true v7 .nilFunc) fun b8 =>
 ifV (.bool b8) (
 T Tryz.prog 79 [x0, x3] h4 fun v9 h10 =>
 bnd (unV .not v9) fun v11 =>
 ifV v11 (
 K (.tuple #[(.bool false), (.int .i64 0)]) h10) (
 S29_j3 x0 x1 x2 x3 h10 K )) (
 S29_j3 x0 x1 x2 x3 h4 K )
def S29_j1 (x0 x1 x2 x3 x11 : Value) (h : GH) (K : Value → GH → Prop)  : Prop :=
 ifV x11 (
 K (.tuple #[(.bool false), (.int .i64 1)]) h) (
 bnd (ncV x0) fun v1 =>
 bnd (faV 7 v1) fun v2 =>
 bnd (ldV 1 false v2 h) fun v3 =>
 ifV v3 (
 K (.tuple #[(.bool false), (.int .i64 1800)]) h) (
 S29_j2 x0 x1 x2 x3 h K ))
def S29 (a0 a1 a2 a3 : Value) (h : GH) (K : Value → GH → Prop) : Prop :=
 bnd (eqK .ptr true a0 (.pointer none)) fun b1 =>
 ifV (.bool b1) (
 S29_j1 a0 a1 a2 a3 (.bool true) h K ) (
 bnd (eqK .ptr true a1 (.pointer none)) fun b2 =>
 ifV (.bool b2) (
 S29_j1 a0 a1 a2 a3 (.bool true) h K ) (
 bnd (eqK .ptr true a2 (.pointer none)) fun b3 =>
 S29_j1 a0 a1 a2 a3 (.bool b3) h K ))
def A29 : Ann := ⟨fun _ => ([], []), fun _ => []⟩
theorem S29_T {a0 a1 a2 a3 : Value} {h : GH} {K : Value → GH → Prop} (g : S29 a0 a1 a2 a3 h K) : T Tryz.prog 29 [a0, a1, a2, a3] h K :=
  T_of_gwp (A := A29) Tryz.func29 (c := bodyOf Tryz.f29) (by kernel_rfl) (by kernel_rfl) (by kernel_rfl) (by kernel_rfl) (by kernel_rfl) (Eq.mp (by kernel_rfl) g)
def S30 (a0 : Value) (h : GH) (K : Value → GH → Prop) : Prop :=
 K a0 h
def A30 : Ann := ⟨fun _ => ([], []), fun _ => []⟩
theorem S30_T {a0 : Value} {h : GH} {K : Value → GH → Prop} (g : S30 a0 h K) : T Tryz.prog 30 [a0] h K :=
  T_of_gwp (A := A30) Tryz.func30 (c := bodyOf Tryz.f30) (by kernel_rfl) (by kernel_rfl) (by kernel_rfl) (by kernel_rfl) (by kernel_rfl) (Eq.mp (by kernel_rfl) g)
def S31 (a0 : Value) (h : GH) (K : Value → GH → Prop) : Prop :=
 bnd (eqK .ptr true a0 (.pointer none)) fun b1 =>
 ifV (.bool b1) (
 K (.slice none 0 0) h) (
 bnd (ncV a0) fun v2 =>
 bnd (faV 5 v2) fun v3 =>
 bnd (ldV 1 false v3 h) fun v4 =>
 T Tryz.prog 80 [v4] h fun v5 h6 =>
 bnd (lnV v5) fun v7 =>
 Lfp (fun (s8 : Nat → Value) h9 again10 =>
 bnd (binV .lss (s8 2) (s8 1)) fun v11 =>
 ifV v11 (
 bnd (isV 8 (s8 0) (s8 2)) fun v12 =>
 bnd (faV 7 v12) fun v13 =>
 bnd (ldV 1 false v13 h9) fun v14 =>
 T Tryz.prog 81 [v14] h9 fun v15 h16 =>
 bnd (isV 8 (s8 0) (s8 2)) fun v17 =>
 bnd (faV 7 v17) fun v18 =>
 bnd (stV 1 v18 v15 h16) fun h19 =>
 bnd (binV .add (s8 2) (.int .i64 1)) fun v20 =>
 again10 (tup [(s8 0), (s8 1), v20]) h19) (
 K (s8 0) h9)) (tup [v5, v7, (.int .i64 0)]) h6)
def A31 : Ann := ⟨fun _ => ([], []), fun | 0 => [3, 13, 14] | _ => []⟩
theorem S31_T {a0 : Value} {h : GH} {K : Value → GH → Prop} (g : S31 a0 h K) : T Tryz.prog 31 [a0] h K :=
  T_of_gwp (A := A31) Tryz.func31 (c := bodyOf Tryz.f31) (by kernel_rfl) (by kernel_rfl) (by kernel_rfl) (by kernel_rfl) (by kernel_rfl) (Eq.mp (by kernel_rfl) g)
def A32 : Ann := ⟨fun | 3 => ([0, 1, 2, 3, 4, 5, 6, 7, 8, 9, 10, 11, 12, 13, 14, 15, 16, 17], [0, 1, 3, 7, 15, 0, 32, 96, 224, 480, 0, 1024, 3072, 7168, 15360, 32767, 0, 131071]) | _ => ([], []), fun _ => []⟩
def S33 (a0 : Value) (h : GH) (K : Value → GH → Prop) : Prop :=
 bnd (eqK .ptr true a0 (.pointer none)) fun b1 =>
 ifV (.bool b1) (
 K (.bool false) h) (
 bnd (ncV a0) fun v2 =>
 bnd (faV 5 v2) fun v3 =>
 bnd (ldV 1 false v3 h) fun v4 =>
 bnd (lnV v4) fun v5 =>
 bnd (ncV a0) fun v6 =>
 bnd (faV 4 v6) fun v7 =>
 bnd (ldV 1 false v7 h) fun v8 =>
 bnd (lnV v8) fun v9 =>
 bnd (eqI v5 v9) fun b10 =>
 ifV (.bool b10) (
 bnd (eqI v5 (.int .i64 0)) fun b11 =>
 ifV (.bool b11) (
 K (.bool true) h) (
 bnd (ncV a0) fun v12 =>
 bnd (faV 5 v12) fun v13 =>
 bnd (ldV 1 false v13 h) fun v14 =>
 bnd (binV .sub v5 (.int .i64 1)) fun v15 =>
 bnd (isV 8 v14 v15) fun v16 =>
 bnd (faV 4 v16) fun v17 =>
 bnd (ldV 1 false v17 h) fun v18 =>
 bnd (binV .geq v18 (.int .i64 0)) fun v19 =>
 K v19 h)) (
 K (.bool false) h))
def A33 : Ann := ⟨fun _ => ([], []), fun _ => []⟩
theorem S33_T {a0 : Value} {h : GH} {K : Value → GH → Prop} (g : S33 a0 h K) : T Tryz.prog 33 [a0] h K :=
  T_of_gwp (A := A33) Tryz.func33 (c := bodyOf Tryz.f33) (by kernel_rfl) (by kernel_rfl) (by kernel_rfl) (by kernel_rfl) (by kernel_rfl) (Eq.mp (by kernel_rfl) g)
def S34 (a0 : Value) (h : GH) (K : Value → GH → Prop) : Prop :=
 bnd (eqK .ptr true a0 (.pointer none)) fun b1 =>
 ifV (.bool b1) (
 K (.tuple #[(.int .i64 0), (.int .i64 0)]) h) (
 bnd (ncV a0) fun v2 =>
 bnd (faV 21 v2) fun v3 =>
 bnd (faV 0 v3) fun v4 =>
 bnd (ldV 1 false v4 h) fun v5 =>
 bnd (ncV a0) fun v6 =>
 bnd (faV 21 v6) fun v7 =>
 bnd (faV 1 v7) fun v8 =>
 bnd (ldV 1 false v8 h) fun v9 =>
 K (.tuple #[v5, v9]) h)
def A34 : Ann := ⟨fun | 3 => ([0, 1, 2, 3, 4, 5, 6, 7, 8, 9, 10, 11], [0, 1, 3, 7, 15, 0, 32, 96, 224, 480, 31, 2047]) | _ => ([], []), fun _ => []⟩
theorem S34_T {a0 : Value} {h : GH} {K : Value → GH → Prop} (g : S34 a0 h K) : T Tryz.prog 34 [a0] h K :=
  T_of_gwp (A := A34) Tryz.func34 (c := bodyOf Tryz.f34) (by kernel_rfl) (by kernel_rfl) (by kernel_rfl) (by kernel_rfl) (by kernel_rfl) (Eq.mp (by kernel_rfl) g)
def S35 (a0 a1 a2 : Value) (h : GH) (K : Value → GH → Prop) : Prop :=
 newV 3 (a2 : Value).cells.toList h fun v1 h2 =>
 T Tryz.prog 82 [a0, (.int .i64 1), a1, (.func (.func 83) #[] #[v1])] h2 fun v3 h4 =>
 bnd (exV v3 0) fun v5 =>
 bnd (exV v3 1) fun v6 =>
 K (.tuple #[v5, v6]) h4
def A35 : Ann := ⟨fun _ => ([], []), fun _ => []⟩
theorem S35_T {a0 a1 a2 : Value} {h : GH} {K : Value → GH → Prop} (g : S35 a0 a1 a2 h K) : T Tryz.prog 35 [a0, a1, a2] h K :=
  T_of_gwp (A := A35) Tryz.func35 (c := bodyOf Tryz.f35) (by kernel_rfl) (by kernel_rfl) (by kernel_rfl) (by kernel_rfl) (by kernel_rfl) (Eq.mp (by kernel_rfl) g)
def S36 (a0 : Value) (h : GH) (K : Value → GH → Prop) : Prop :=
 bnd (eqK .ptr true a0 (.pointer none)) fun b1 =>
 ifV (.bool b1) (
 K (.slice none 0 0) h) (
 bnd (ncV a0) fun v2 =>
 bnd (faV 0 v2) fun v3 =>
 bnd (saV 634 1 v3 none none) fun v4 =>
 T Tryz.prog 84 [v4] h fun v5 h6 =>
 K v5 h6)
def A36 : Ann := ⟨fun _ => ([], []), fun _ => []⟩
theorem S36_T {a0 : Value} {h : GH} {K : Value → GH → Prop} (g : S36 a0 h K) : T Tryz.prog 36 [a0] h K :=
  T_of_gwp (A := A36) Tryz.func36 (c := bodyOf Tryz.f36) (by kernel_rfl) (by kernel_rfl) (by kernel_rfl) (by kernel_rfl) (by kernel_rfl) (Eq.mp (by kernel_rfl) g)
def S38 (a0 : Value) (h : GH) (K : Value → GH → Prop) : Prop :=
 newV 60 [(.int .i64 0), (.int .i64 0), (.int .i64 0), (.int .i64 0), (.int .i64 0), (.int .i64 0), (.int .i64 0), (.int .i64 0)] h fun v1 h2 =>
 bnd (eqK .ptr true a0 (.pointer none)) fun b3 =>
 ifV (.bool b3) (
 bnd (fillV [(.int .i64 0), (.int .i64 0), (.int .i64 0), (.int .i64 0), (.int .i64 0), (.int .i64 0), (.int .i64 0), (.int .i64 0)] []) fun c4 =>
 bnd (stV 8 v1 (.agg c4.toArray) h2) fun h5 =>
 bnd (ldV 8 true v1 h5) fun v6 =>
 K (.tuple #[v6, (.bool false)]) h5) (
 bnd (ncV a0) fun v7 =>
 bnd (faV 634 v7) fun v8 =>
 bnd (ldV 8 true v8 h2) fun v9 =>
 bnd (ncV a0) fun v10 =>
 bnd (faV 642 v10) fun v11 =>
 bnd (ldV 1 false v11 h2) fun v12 =>
 bnd (stV 8 v1 v9 h2) fun h13 =>
 ldV 1 false v11 h13 = some v12 ∧
 bnd (ldV 8 true v1 h13) fun v14 =>
 K (.tuple #[v14, v12]) h13)
def A38 : Ann := ⟨fun | 3 => ([0, 1, 2, 3, 4, 5, 6, 7, 8, 9], [0, 1, 3, 7, 0, 16, 48, 112, 15, 511]) | _ => ([], []), fun _ => []⟩
theorem S38_T {a0 : Value} {h : GH} {K : Value → GH → Prop} (g : S38 a0 h K) : T Tryz.prog 38 [a0] h K :=
  T_of_gwp (A := A38) Tryz.func38 (c := bodyOf Tryz.f38) (by kernel_rfl) (by kernel_rfl) (by kernel_rfl) (by kernel_rfl) (by kernel_rfl) (Eq.mp (by kernel_rfl) g)
def S39 (a0 a1 : Value) (h : GH) (K : Value → GH → Prop) : Prop :=
 T Tryz.prog 82 [a0, (.int .i64 0), a1, (.func (.func 85) #[] #[])] h fun v1 h2 =>
 bnd (exV v1 0) fun v3 =>
 bnd (exV v1 1) fun v4 =>
 K (.tuple #[v3, v4]) h2
def A39 : Ann := ⟨fun _ => ([], []), fun _ => []⟩
theorem S39_T {a0 a1 : Value} {h : GH} {K : Value → GH → Prop} (g : S39 a0 a1 h K) : T Tryz.prog 39 [a0, a1] h K :=
  T_of_gwp (A := A39) Tryz.func39 (c := bodyOf Tryz.f39) (by kernel_rfl) (by kernel_rfl) (by kernel_rfl) (by kernel_rfl) (by kernel_rfl) (Eq.mp (by kernel_rfl) g)
def S47 (a0 : Value) (h : GH) (K : Value → GH → Prop) : Prop :=
 newV 67 (a0 : Value).cells.toList h fun v1 h2 =>
 bnd (ldV 3 true v1 h2) fun v3 =>
 T Tryz.prog 76 [v3] h2 fun v4 h5 =>
 bnd (unV .not v4) fun v6 =>
 ifV v6 (
 K (.tuple #[(.pointer none), (.int .i64 1900)]) h5) (
 T Tryz.prog 28 [] h5 fun v7 h8 =>
 bnd (fillV ([(.pointer none), (.slice none 0 0)] ++ List.replicate 13 (.int .i64 0) ++ [(.slice none 0 0)]) [(0, 1, v7)]) fun c9 =>
 newV 151 ((.agg c9.toArray) : Value).cells.toList h8 fun v10 h11 =>
 bnd (faV 0 v1) fun v12 =>
 bnd (ldV 1 false v12 h11) fun v13 =>
 bnd (lnV v13) fun v14 =>
 Lfp (fun (s15 : Nat → Value) h16 again17 =>
 bnd (binV .lss (s15 4) (s15 3)) fun v18 =>
 ifV v18 (
 bnd (isV 1 (s15 2) (s15 4)) fun v19 =>
 bnd (ldV 1 false v19 h16) fun v20 =>
 bnd (faV 0 (s15 0)) fun v21 =>
 bnd (ldV 1 false v21 h16) fun v22 =>
 bnd (lnV v22) fun v23 =>
 bnd (faV 1 (s15 0)) fun v24 =>
 bnd (ldV 1 false v24 h16) fun v25 =>
 bnd (faV 2 (s15 0)) fun v26 =>
 bnd (ldV 1 false v26 h16) fun v27 =>
 T Tryz.prog 27 [(s15 4), v23, v25, v27, v20] h16 fun v28 h29 =>
 bnd (exV v28 0) fun v30 =>
 bnd (exV v28 1) fun v31 =>
 bnd (ncV (s15 1)) fun v32 =>
 bnd (faV 1 v32) fun v33 =>
 bnd (ldV 1 false v33 h29) fun v34 =>
 bsV 30 1 [(.pointer none)] [(0, 1, v30)] h29 fun v35 h36 =>
 apV 30 1 8 v34 v35 h36 fun v37 h38 =>
 bnd (ncV (s15 1)) fun v39 =>
 bnd (faV 1 v39) fun v40 =>
 bnd (stV 1 v40 v37 h38) fun h41 =>
 bnd (binV .add (s15 4) (.int .i64 1)) fun v42 =>
 again17 (tup [(s15 0), (s15 1), (s15 2), (s15 3), v42]) h41) (
 K (.tuple #[(s15 1), (.int .i64 0)]) h16)) (tup [v1, v10, v13, v14, (.int .i64 0)]) h11)
def A47 : Ann := ⟨fun _ => ([], []), fun | 0 => [1, 4, 16, 17, 18] | _ => []⟩
theorem S47_T {a0 : Value} {h : GH} {K : Value → GH → Prop} (g : S47 a0 h K) : T Tryz.prog 47 [a0] h K :=
  T_of_gwp (A := A47) Tryz.func47 (c := bodyOf Tryz.f47) (by kernel_rfl) (by kernel_rfl) (by kernel_rfl) (by kernel_rfl) (by kernel_rfl) (Eq.mp (by kernel_rfl) g)
def S48_j2 (x0 x6 x7 : Value) (h : GH) (K : Value → GH → Prop)  : Prop :=
 bnd (ncV x0) fun v1 =>
 bnd (faV 14 v1) fun v2 =>
 bnd (ldV 1 false v2 h) fun v3 =>
 bnd (binV .add v3 (.int .i64 1)) fun v4 =>
 bnd (ncV x0) fun v5 =>
 bnd (faV 14 v5) fun v6 =>
 bnd (stV 1 v6 v4 h) fun h7 =>
 bnd (eqI x7 (.int .i64 0)) fun b8 =>
 ifV (.bool (!b8)) (
 K (.tuple #[x6, (.int .i64 1900)]) h7) (
 K (.tuple #[x6, (.int .i64 0)]) h7)
def S48_j1 (x0 x1 : Value) (h : GH) (K : Value → GH → Prop)  : Prop :=
 bnd (ncV x0) fun v1 =>
 bnd (faV 1 v1) fun v2 =>
 bnd (ldV 1 false v2 h) fun v3 =>
 bnd (isV 1 v3 x1) fun v4 =>
 bnd (ldV 1 false v4 h) fun v5 =>
 bnd (ncV x0) fun v6 =>
 bnd (faV 0 v6) fun v7 =>
 bnd (ldV 1 false v7 h) fun v8 =>
 bnd (ncV x0) fun v9 =>
 bnd (faV 2 v9) fun v10 =>
 bnd (ncV x0) fun v11 =>
 bnd (faV 14 v11) fun v12 =>
 bnd (ldV 1 false v12 h) fun v13 =>
 T Tryz.prog 29 [v5, v8, v10, v13] h fun v14 h15 =>
 bnd (exV v14 0) fun v16 =>
 bnd (exV v14 1) fun v17 =>
 ifV v16 (
 T Tryz.prog 89 [x0, x1] h15 fun v18 h19 =>
 S48_j2 x0 v16 v17 h19 K ) (
 S48_j2 x0 v16 v17 h15 K )
def S48 (a0 a1 : Value) (h : GH) (K : Value → GH → Prop) : Prop :=
 bnd (eqK .ptr true a0 (.pointer none)) fun b1 =>
 ifV (.bool b1) (
 K (.tuple #[(.bool false), (.int .i64 1)]) h) (
 bnd (ncV a0) fun v2 =>
 bnd (faV 1 v2) fun v3 =>
 bnd (ldV 1 false v3 h) fun v4 =>
 bnd (lnV v4) fun v5 =>
 T Tryz.prog 75 [a1, v5] h fun v6 h7 =>
 bnd (unV .not v6) fun v8 =>
 ifV v8 (
 K (.tuple #[(.bool false), (.int .i64 1900)]) h7) (
 bnd (ncV a0) fun v9 =>
 bnd (faV 14 v9) fun v10 =>
 bnd (ldV 1 false v10 h7) fun v11 =>
 bnd (binV .geq v11 (.int .i64 65536)) fun v12 =>
 ifV v12 (
 K (.tuple #[(.bool false), (.int .i64 1900)]) h7) (
 S48_j1 a0 a1 h7 K )))
def A48 : Ann := ⟨fun | 5 => ([0, 1, 2, 3, 4, 5, 6, 7, 8, 9, 10, 11, 12, 13, 14, 15, 16, 17, 18, 19, 20, 21, 22, 23], [0, 1, 3, 7, 0, 31, 63, 0, 128, 384, 896, 0, 2048, 6144, 0, 16384, 49152, 114688, 262143, 524287, 1048575, 1048575, 2097151, 8388607]) | _ => ([], []), fun _ => []⟩
theorem S48_T {a0 a1 : Value} {h : GH} {K : Value → GH → Prop} (g : S48 a0 a1 h K) : T Tryz.prog 48 [a0, a1] h K :=
  T_of_gwp (A := A48) Tryz.func48 (c := bodyOf Tryz.f48) (by kernel_rfl) (by kernel_rfl) (by kernel_rfl) (by kernel_rfl) (by kernel_rfl) (Eq.mp (by kernel_rfl) g)
def S49 (a0 : Value) (h : GH) (K : Value → GH → Prop) : Prop :=
 bnd (eqK .ptr true a0 (.pointer none)) fun b1 =>
 ifV (.bool b1) (
 K (.slice none 0 0) h) (
 bnd (ncV a0) fun v2 =>
 bnd (faV 15 v2) fun v3 =>
 bnd (ldV 1 false v3 h) fun v4 =>
 T Tryz.prog 90 [v4] h fun v5 h6 =>
 K v5 h6)
def A49 : Ann := ⟨fun _ => ([], []), fun _ => []⟩
theorem S49_T {a0 : Value} {h : GH} {K : Value → GH → Prop} (g : S49 a0 h K) : T Tryz.prog 49 [a0] h K :=
  T_of_gwp (A := A49) Tryz.func49 (c := bodyOf Tryz.f49) (by kernel_rfl) (by kernel_rfl) (by kernel_rfl) (by kernel_rfl) (by kernel_rfl) (Eq.mp (by kernel_rfl) g)
def S53 (a0 : Value) (h : GH) (K : Value → GH → Prop) : Prop :=
 bnd (eqK .ptr true a0 (.pointer none)) fun b1 =>
 ifV (.bool b1) (
 K (.slice none 0 0) h) (
 bnd (ncV a0) fun v2 =>
 bnd (faV 1 v2) fun v3 =>
 bnd (ldV 1 false v3 h) fun v4 =>
 bnd (lnV v4) fun v5 =>
 Lfp (fun (s6 : Nat → Value) h7 again8 =>
 bnd (binV .lss (s6 3) (s6 2)) fun v9 =>
 ifV v9 (
 bnd (isV 1 (s6 1) (s6 3)) fun v10 =>
 bnd (ldV 1 false v10 h7) fun v11 =>
 T Tryz.prog 31 [v11] h7 fun v12 h13 =>
 apV 56 8 80 (s6 0) v12 h13 fun v14 h15 =>
 bnd (binV .add (s6 3) (.int .i64 1)) fun v16 =>
 again8 (tup [v14, (s6 1), (s6 2), v16]) h15) (
 K (s6 0) h7)) (tup [(.slice none 0 0), v4, v5, (.int .i64 0)]) h)
def A53 : Ann := ⟨fun _ => ([], []), fun | 0 => [3, 11, 12, 13] | _ => []⟩
theorem S53_T {a0 : Value} {h : GH} {K : Value → GH → Prop} (g : S53 a0 h K) : T Tryz.prog 53 [a0] h K :=
  T_of_gwp (A := A53) Tryz.func53 (c := bodyOf Tryz.f53) (by kernel_rfl) (by kernel_rfl) (by kernel_rfl) (by kernel_rfl) (by kernel_rfl) (Eq.mp (by kernel_rfl) g)
def S56_j2 (s9 : Nat → Value) (x2 x5 x6 x7 x9 x13 x14 x15 : Value) (h : GH) (K : Value → GH → Prop) (again11 : (Nat → Value) → GH → Prop) : Prop :=
 T Tryz.prog 30 [x5] h fun v1 h2 =>
 bnd (eqI v1 (.int .i64 1900)) fun b3 =>
 ifV (.bool b3) (
 bnd (unV .not x6) fun v4 =>
 ifV v4 (
 T Tryz.prog 30 [x7] h2 fun v5 h6 =>
 bnd (eqI v5 (.int .i64 0)) fun b7 =>
 ifV (.bool b7) (
 T Tryz.prog 30 [x9] h6 fun v8 h9 =>
 bnd (eqI v8 (.int .i64 1900)) fun b10 =>
 ifV (.bool b10) (
 T Tryz.prog 60 [x2] h9 fun v11 h12 =>
 ifV v11 (
 bnd (isV 8 x13 (.int .i64 0)) fun v13 =>
 bnd (faV 2 v13) fun v14 =>
 bnd (ldV 1 false v14 h12) fun v15 =>
 bnd (eqI v15 (.int .i64 1)) fun b16 =>
 ifV (.bool b16) (
 bnd (isV 8 x13 (.int .i64 0)) fun v17 =>
 bnd (faV 3 v17) fun v18 =>
 bnd (ldV 1 false v18 h12) fun v19 =>
 bnd (eqI v19 (.int .i64 20)) fun b20 =>
 ifV (.bool b20) (
 bnd (isV 8 x13 (.int .i64 0)) fun v21 =>
 bnd (faV 4 v21) fun v22 =>
 bnd (ldV 1 false v22 h12) fun v23 =>
 bnd (eqI v23 (.int .i64 31)) fun b24 =>
 ifV (.bool b24) (
 bnd (isV 8 x13 (.int .i64 0)) fun v25 =>
 bnd (faV 7 v25) fun v26 =>
 bnd (ldV 1 false v26 h12) fun v27 =>
 bnd (fillV [(.int .i64 0), (.int .i64 0)] [(1, 1, (.int .i64 9))]) fun c28 =>
 bsV 122 1 [(.int .i64 0), (.int .i64 0)] [(0, 2, (.agg c28.toArray))] h12 fun v29 h30 =>
 T Tryz.prog 72 [v27, v29] h30 fun v31 h32 =>
 ifV v31 (
 bnd (isV 8 x14 (.int .i64 0)) fun v33 =>
 bnd (ldV 8 true v33 h32) fun v34 =>
 bnd (fillV [(.int .i64 0), (.int .i64 0), (.int .i64 0), (.int .i64 0), (.int .i64 0), (.int .i64 0), (.int .i64 0), (.int .i64 0)] [(1, 1, (.int .i64 0)), (2, 1, (.int .i64 29)), (5, 1, (.int .i64 (-1)))]) fun c35 =>
 bnd (eqP Tryz.prog 10000 60 v34 (.agg c35.toArray)) fun b36 =>
 ifV (.bool b36) (
 bnd (isV 1 x15 (.int .i64 1)) fun v37 =>
 bnd (ldV 1 false v37 h32) fun v38 =>
 bnd (eqI v38 (.int .i64 40)) fun b39 =>
 K (.bool b39) h32) (
 K (.bool false) h32)) (
 K (.bool false) h32)) (
 K (.bool false) h12)) (
 K (.bool false) h12)) (
 K (.bool false) h12)) (
 K (.bool false) h12)) (
 K (.bool false) h9)) (
 K (.bool false) h6)) (
 K (.bool false) h2)) (
 K (.bool false) h2)
def S56_j1 (x2 x5 : Value) (h : GH) (K : Value → GH → Prop)  : Prop :=
 T Tryz.prog 48 [x2, (.int .i64 1)] h fun v1 h2 =>
 bnd (exV v1 0) fun v3 =>
 bnd (exV v1 1) fun v4 =>
 T Tryz.prog 48 [x2, (.int .i64 2)] h2 fun v5 h6 =>
 bnd (exV v5 0) fun v7 =>
 bnd (exV v5 1) fun v8 =>
 Lfp (fun (s9 : Nat → Value) h10 again11 =>
 bnd (binV .lss (s9 5) (.int .i64 31)) fun v12 =>
 ifV v12 (
 T Tryz.prog 48 [(s9 0), (.int .i64 0)] h10 fun v13 h14 =>
 bnd (exV v13 0) fun v15 =>
 bnd (exV v13 1) fun v16 =>
 bnd (unV .not v15) fun v17 =>
 ifV v17 (
 K (.bool false) h14) (
 T Tryz.prog 30 [v16] h14 fun v18 h19 =>
 bnd (eqI v18 (.int .i64 0)) fun b20 =>
 ifV (.bool (!b20)) (
 K (.bool false) h19) (
 bnd (binV .add (s9 5) (.int .i64 1)) fun v21 =>
 again11 (tup [(s9 0), (s9 1), (s9 2), (s9 3), (s9 4), v21]) h19))) (
 T Tryz.prog 53 [(s9 0)] h10 fun v22 h23 =>
 T Tryz.prog 49 [(s9 0)] h23 fun v24 h25 =>
 T Tryz.prog 65 [(s9 0)] h25 fun v26 h27 =>
 bnd (lnV v22) fun v28 =>
 bnd (eqI v28 (.int .i64 1)) fun b29 =>
 ifV (.bool (!b29)) (
 K (.bool false) h27) (
 bnd (lnV v24) fun v30 =>
 bnd (eqI v30 (.int .i64 31)) fun b31 =>
 ifV (.bool (!b31)) (
 K (.bool false) h27) (
 bnd (lnV v26) fun v32 =>
 bnd (eqI v32 (.int .i64 634)) fun b33 =>
 ifV (.bool (!b33)) (
 K (.bool false) h27) (
 S56_j2 s9 (s9 0) (s9 1) (s9 2) (s9 3) (s9 4) v22 v24 v26 h27 K again11))))) (tup [x2, x5, v3, v4, v8, (.int .i64 0)]) h6
def S56 (h : GH) (K : Value → GH → Prop) : Prop :=
 bnd (fillV [(.int .i64 0), (.int .i64 0), (.int .i64 0), (.int .i64 0)] [(0, 1, (.int .i64 0)), (1, 1, (.int .i64 1)), (3, 1, (.int .i64 9))]) fun c1 =>
 bsV 24 1 [(.int .i64 0), (.int .i64 0), (.int .i64 0), (.int .i64 0)] [(0, 4, (.agg c1.toArray))] h fun v2 h3 =>
 bnd (fillV [(.slice none 0 0)] [(0, 1, v2)]) fun c4 =>
 bsV 27 1 [(.slice none 0 0)] [(0, 1, (.agg c4.toArray))] h3 fun v5 h6 =>
 bsV 28 2 [(.slice none 0 0), (.slice none 0 0)] [(0, 1, v5), (1, 1, (.slice none 0 0))] h6 fun v7 h8 =>
 bnd (fillV [(.slice none 0 0), (.int .i64 0), (.bool false)] [(0, 1, v7), (1, 1, (.int .i64 2))]) fun c9 =>
 newV 67 [(.slice none 0 0), (.int .i64 0), (.bool false)] h8 fun v10 h11 =>
 bnd (stV 3 v10 (.agg c9.toArray) h11) fun h12 =>
 bnd (ldV 3 true v10 h12) fun v13 =>
 T Tryz.prog 47 [v13] h12 fun v14 h15 =>
 bnd (exV v14 0) fun v16 =>
 bnd (exV v14 1) fun v17 =>
 bnd (fillV [(.slice none 0 0), (.int .i64 0), (.bool false)] []) fun c18 =>
 T Tryz.prog 47 [(.agg c18.toArray)] h15 fun v19 h20 =>
 bnd (exV v19 0) fun v21 =>
 bnd (exV v19 1) fun v22 =>
 T Tryz.prog 30 [v17] h20 fun v23 h24 =>
 bnd (eqI v23 (.int .i64 0)) fun b25 =>
 ifV (.bool (!b25)) (
 K (.bool false) h24) (
 bnd (eqK .ptr true v16 (.pointer none)) fun b26 =>
 ifV (.bool b26) (
 K (.bool false) h24) (
 S56_j1 v16 v22 h24 K ))
def A56 : Ann := ⟨fun _ => ([], []), fun | 0 => [2, 5, 6, 7, 9, 10] | _ => []⟩
theorem S56_T {h : GH} {K : Value → GH → Prop} (g : S56 h K) : T Tryz.prog 56 [] h K :=
  T_of_gwp (A := A56) Tryz.func56 (c := bodyOf Tryz.f56) (by kernel_rfl) (by kernel_rfl) (by kernel_rfl) (by kernel_rfl) (by kernel_rfl) (Eq.mp (by kernel_rfl) g)
def S60 (a0 : Value) (h : GH) (K : Value → GH → Prop) : Prop :=
 bnd (eqK .ptr true a0 (.pointer none)) fun b1 =>
 ifV (.bool (!b1)) (
 bnd (ncV a0) fun v2 =>
 bnd (faV 1 v2) fun v3 =>
 bnd (ldV 1 false v3 h) fun v4 =>
 T Tryz.prog 100 [v4, (.func (.func 101) #[] #[])] h fun v5 h6 =>
 bnd (unV .not v5) fun v7 =>
 K v7 h6) (
 K (.bool false) h)
def A60 : Ann := ⟨fun _ => ([], []), fun _ => []⟩
theorem S60_T {a0 : Value} {h : GH} {K : Value → GH → Prop} (g : S60 a0 h K) : T Tryz.prog 60 [a0] h K :=
  T_of_gwp (A := A60) Tryz.func60 (c := bodyOf Tryz.f60) (by kernel_rfl) (by kernel_rfl) (by kernel_rfl) (by kernel_rfl) (by kernel_rfl) (Eq.mp (by kernel_rfl) g)
def A61 : Ann := ⟨fun _ => ([], []), fun | 0 => [0, 3] | _ => []⟩
def A62 : Ann := ⟨fun | 6 => ([0, 1, 2, 3, 4, 5, 6, 7, 8, 9], [0, 0, 3, 7, 0, 0, 48, 112, 255, 511]) | _ => ([], []), fun | 0 => [0, 1, 5] | _ => []⟩
def S65 (a0 : Value) (h : GH) (K : Value → GH → Prop) : Prop :=
 bnd (eqK .ptr true a0 (.pointer none)) fun b1 =>
 ifV (.bool b1) (
 K (.slice none 0 0) h) (
 bnd (ncV a0) fun v2 =>
 bnd (faV 0 v2) fun v3 =>
 bnd (ldV 1 false v3 h) fun v4 =>
 T Tryz.prog 36 [v4] h fun v5 h6 =>
 K v5 h6)
def A65 : Ann := ⟨fun _ => ([], []), fun _ => []⟩
theorem S65_T {a0 : Value} {h : GH} {K : Value → GH → Prop} (g : S65 a0 h K) : T Tryz.prog 65 [a0] h K :=
  T_of_gwp (A := A65) Tryz.func65 (c := bodyOf Tryz.f65) (by kernel_rfl) (by kernel_rfl) (by kernel_rfl) (by kernel_rfl) (by kernel_rfl) (Eq.mp (by kernel_rfl) g)
def S68 (a0 a1 : Value) (h : GH) (K : Value → GH → Prop) : Prop :=
 newV 56 (a0 : Value).cells.toList h fun v1 h2 =>
 newV 56 (a1 : Value).cells.toList h2 fun v3 h4 =>
 bnd (faV 0 v1) fun v5 =>
 bnd (ldV 1 false v5 h4) fun v6 =>
 bnd (faV 0 v3) fun v7 =>
 bnd (ldV 1 false v7 h4) fun v8 =>
 bnd (eqI v6 v8) fun b9 =>
 ifV (.bool b9) (
 bnd (faV 1 v1) fun v10 =>
 bnd (ldV 1 false v10 h4) fun v11 =>
 bnd (faV 1 v3) fun v12 =>
 bnd (ldV 1 false v12 h4) fun v13 =>
 bnd (eqI v11 v13) fun b14 =>
 ifV (.bool b14) (
 bnd (faV 2 v1) fun v15 =>
 bnd (ldV 1 false v15 h4) fun v16 =>
 bnd (faV 2 v3) fun v17 =>
 bnd (ldV 1 false v17 h4) fun v18 =>
 bnd (eqI v16 v18) fun b19 =>
 ifV (.bool b19) (
 bnd (faV 3 v1) fun v20 =>
 bnd (ldV 1 false v20 h4) fun v21 =>
 bnd (faV 3 v3) fun v22 =>
 bnd (ldV 1 false v22 h4) fun v23 =>
 bnd (eqI v21 v23) fun b24 =>
 ifV (.bool b24) (
 bnd (faV 4 v1) fun v25 =>
 bnd (ldV 1 false v25 h4) fun v26 =>
 bnd (faV 4 v3) fun v27 =>
 bnd (ldV 1 false v27 h4) fun v28 =>
 bnd (eqI v26 v28) fun b29 =>
 ifV (.bool b29) (
 bnd (faV 5 v1) fun v30 =>
 bnd (ldV 1 false v30 h4) fun v31 =>
 bnd (faV 5 v3) fun v32 =>
 bnd (ldV 1 false v32 h4) fun v33 =>
 bnd (eqI v31 v33) fun b34 =>
 ifV (.bool b34) (
 bnd (faV 6 v1) fun v35 =>
 bnd (ldV 1 false v35 h4) fun v36 =>
 bnd (faV 6 v3) fun v37 =>
 bnd (ldV 1 false v37 h4) fun v38 =>
 bnd (eqI v36 v38) fun b39 =>
 ifV (.bool b39) (
 bnd (faV 7 v1) fun v40 =>
 bnd (ldV 1 false v40 h4) fun v41 =>
 bnd (faV 7 v3) fun v42 =>
 bnd (ldV 1 false v42 h4) fun v43 =>
 T Tryz.prog 72 [v41, v43] h4 fun v44 h45 =>
 K v44 h45) (
 K (.bool false) h4)) (
 K (.bool false) h4)) (
 K (.bool false) h4)) (
 K (.bool false) h4)) (
 K (.bool false) h4)) (
 K (.bool false) h4)) (
 K (.bool false) h4)
def A68 : Ann := ⟨fun _ => ([], []), fun _ => []⟩
theorem S68_T {a0 a1 : Value} {h : GH} {K : Value → GH → Prop} (g : S68 a0 a1 h K) : T Tryz.prog 68 [a0, a1] h K :=
  T_of_gwp (A := A68) Tryz.func68 (c := bodyOf Tryz.f68) (by kernel_rfl) (by kernel_rfl) (by kernel_rfl) (by kernel_rfl) (by kernel_rfl) (Eq.mp (by kernel_rfl) g)
def S72 (a0 a1 : Value) (h : GH) (K : Value → GH → Prop) : Prop :=
 bnd (lnV a0) fun v1 =>
 bnd (lnV a1) fun v2 =>
 bnd (eqI v1 v2) fun b3 =>
 ifV (.bool (!b3)) (
 K (.bool false) h) (
 Lfp (fun (s4 : Nat → Value) h5 again6 =>
 bnd (lnV (s4 0)) fun v7 =>
 bnd (binV .lss (s4 2) v7) fun v8 =>
 ifV v8 (
 bnd (isV 2 (s4 0) (s4 2)) fun v9 =>
 bnd (ldV 2 true v9 h5) fun v10 =>
 bnd (isV 2 (s4 1) (s4 2)) fun v11 =>
 bnd (ldV 2 true v11 h5) fun v12 =>
 bnd (eqP Tryz.prog 10000 122 v10 v12) fun b13 =>
 ifV (.bool (!b13)) (
 K (.bool false) h5) (
 bnd (binV .add (s4 2) (.int .i64 1)) fun v14 =>
 again6 (tup [(s4 0), (s4 1), v14]) h5)) (
 K (.bool true) h5)) (tup [a0, a1, (.int .i64 0)]) h)
def A72 : Ann := ⟨fun | 6 => ([0, 1, 2, 3, 4, 5, 6, 7, 8], [0, 0, 3, 7, 0, 0, 48, 112, 255]) | _ => ([], []), fun | 0 => [0, 1, 5] | _ => []⟩
theorem S72_T {a0 a1 : Value} {h : GH} {K : Value → GH → Prop} (g : S72 a0 a1 h K) : T Tryz.prog 72 [a0, a1] h K :=
  T_of_gwp (A := A72) Tryz.func72 (c := bodyOf Tryz.f72) (by kernel_rfl) (by kernel_rfl) (by kernel_rfl) (by kernel_rfl) (by kernel_rfl) (Eq.mp (by kernel_rfl) g)
def S75 (a0 a1 : Value) (h : GH) (K : Value → GH → Prop) : Prop :=
 bnd (binV .geq a0 (.int .i64 0)) fun v1 =>
 ifV v1 (
 bnd (binV .lss a0 a1) fun v2 =>
 K v2 h) (
 K (.bool false) h)
def A75 : Ann := ⟨fun _ => ([], []), fun _ => []⟩
theorem S75_T {a0 a1 : Value} {h : GH} {K : Value → GH → Prop} (g : S75 a0 a1 h K) : T Tryz.prog 75 [a0, a1] h K :=
  T_of_gwp (A := A75) Tryz.func75 (c := bodyOf Tryz.f75) (by kernel_rfl) (by kernel_rfl) (by kernel_rfl) (by kernel_rfl) (by kernel_rfl) (Eq.mp (by kernel_rfl) g)
def S76_j1 (x1 : Value) (h : GH) (K : Value → GH → Prop)  : Prop :=
 bnd (faV 0 x1) fun v1 =>
 bnd (ldV 1 false v1 h) fun v2 =>
 bnd (lnV v2) fun v3 =>
 Lfp (fun (s4 : Nat → Value) h5 again6 =>
 bnd (binV .lss (s4 2) (s4 1)) fun v7 =>
 ifV v7 (
 bnd (isV 1 (s4 0) (s4 2)) fun v8 =>
 bnd (ldV 1 false v8 h5) fun v9 =>
 bnd (lnV v9) fun v10 =>
 bnd (binV .gtr v10 (.int .i64 8)) fun v11 =>
 ifV v11 (
 K (.bool false) h5) (
 bnd (lnV v9) fun v12 =>
 Lfp (fun (s13 : Nat → Value) h14 again15 =>
 bnd (binV .lss (s13 5) (s13 4)) fun v16 =>
 ifV v16 (
 bnd (isV 1 (s13 3) (s13 5)) fun v17 =>
 bnd (ldV 1 true v17 h14) fun v18 =>
 newV 27 [(.slice none 0 0)] h14 fun v19 h20 =>
 bnd (stV 1 v19 v18 h20) fun h21 =>
 bnd (faV 0 v19) fun v22 =>
 bnd (ldV 1 false v22 h21) fun v23 =>
 T Tryz.prog 108 [v23] h21 fun v24 h25 =>
 bnd (unV .not v24) fun v26 =>
 ifV v26 (
 K (.bool false) h25) (
 bnd (binV .add (s13 5) (.int .i64 1)) fun v27 =>
 again15 (tup [(s13 0), (s13 1), (s13 2), (s13 3), (s13 4), v27]) h25)) (
 bnd (binV .add (s13 2) (.int .i64 1)) fun v28 =>
 again6 (tup [(s13 0), (s13 1), v28]) h14)) (tup [(s4 0), (s4 1), (s4 2), v9, v12, (.int .i64 0)]) h5)) (
 K (.bool true) h5)) (tup [v2, v3, (.int .i64 0)]) h
def S76 (a0 : Value) (h : GH) (K : Value → GH → Prop) : Prop :=
 newV 67 (a0 : Value).cells.toList h fun v1 h2 =>
 bnd (faV 0 v1) fun v3 =>
 bnd (ldV 1 false v3 h2) fun v4 =>
 bnd (lnV v4) fun v5 =>
 bnd (binV .lss v5 (.int .i64 1)) fun v6 =>
 ifV v6 (
 K (.bool false) h2) (
 bnd (faV 0 v1) fun v7 =>
 bnd (ldV 1 false v7 h2) fun v8 =>
 bnd (lnV v8) fun v9 =>
 bnd (binV .gtr v9 (.int .i64 4)) fun v10 =>
 ifV v10 (
 K (.bool false) h2) (
 bnd (faV 1 v1) fun v11 =>
 bnd (ldV 1 false v11 h2) fun v12 =>
 bnd (binV .lss v12 (.int .i64 1)) fun v13 =>
 ifV v13 (
 K (.bool false) h2) (
 bnd (faV 1 v1) fun v14 =>
 bnd (ldV 1 false v14 h2) fun v15 =>
 bnd (binV .gtr v15 (.int .i64 16)) fun v16 =>
 ifV v16 (
 K (.bool false) h2) (
 S76_j1 v1 h2 K ))))
def A76 : Ann := ⟨fun _ => ([], []), fun | 0 => [28, 29, 30] | 2 => [28, 29, 30, 37, 38, 39] | _ => []⟩
theorem S76_T {a0 : Value} {h : GH} {K : Value → GH → Prop} (g : S76 a0 h K) : T Tryz.prog 76 [a0] h K :=
  T_of_gwp (A := A76) Tryz.func76 (c := bodyOf Tryz.f76) (by kernel_rfl) (by kernel_rfl) (by kernel_rfl) (by kernel_rfl) (by kernel_rfl) (Eq.mp (by kernel_rfl) g)
def S77 (a0 : Value) (h : GH) (K : Value → GH → Prop) : Prop :=
 bnd (eqK .slice true a0 (.slice none 0 0)) fun b1 =>
 ifV (.bool b1) (
 K (.slice none 0 0) h) (
 bsV 24 0 [] [] h fun v2 h3 =>
 apV 24 4 32 v2 a0 h3 fun v4 h5 =>
 K v4 h5)
def A77 : Ann := ⟨fun _ => ([], []), fun _ => []⟩
theorem S77_T {a0 : Value} {h : GH} {K : Value → GH → Prop} (g : S77 a0 h K) : T Tryz.prog 77 [a0] h K :=
  T_of_gwp (A := A77) Tryz.func77 (c := bodyOf Tryz.f77) (by kernel_rfl) (by kernel_rfl) (by kernel_rfl) (by kernel_rfl) (by kernel_rfl) (Eq.mp (by kernel_rfl) g)
def S78 (a0 : Value) (h : GH) (K : Value → GH → Prop) : Prop :=
 T Tryz.prog 112 [a0] h fun v1 h2 =>
 K v1 h2
def A78 : Ann := ⟨fun _ => ([], []), fun _ => []⟩
theorem S78_T {a0 : Value} {h : GH} {K : Value → GH → Prop} (g : S78 a0 h K) : T Tryz.prog 78 [a0] h K :=
  T_of_gwp (A := A78) Tryz.func78 (c := bodyOf Tryz.f78) (by kernel_rfl) (by kernel_rfl) (by kernel_rfl) (by kernel_rfl) (by kernel_rfl) (Eq.mp (by kernel_rfl) g)
def S79_j1 (x0 : Value) (h : GH) (K : Value → GH → Prop)  : Prop :=
 bnd (ncV x0) fun v1 =>
 bnd (faV 0 v1) fun v2 =>
 bnd (ldV 1 false v2 h) fun v3 =>
 T Tryz.prog 113 [v3] h fun v4 h5 =>
 bnd (exV v4 0) fun v6 =>
 bnd (exV v4 1) fun v7 =>
 bnd (ncV x0) fun v8 =>
 bnd (faV 15 v8) fun v9 =>
 bnd (stV 1 v9 v6 h5) fun h10 =>
 bnd (ncV x0) fun v11 =>
 bnd (faV 20 v11) fun v12 =>
 bnd (stV 1 v12 (.int .i64 2) h10) fun h13 =>
 bnd (ncV x0) fun v14 =>
 bnd (faV 6 v14) fun v15 =>
 bnd (stV 1 v15 (.func (.func 114) #[] #[]) h13) fun h16 =>
 K (.bool true) h16
def S79 (a0 a1 : Value) (h : GH) (K : Value → GH → Prop) : Prop :=
 T Tryz.prog 33 [a0] h fun v1 h2 =>
 ifV v1 (
 K (.bool false) h2) (
 bnd (ncV a0) fun v3 =>
 bnd (faV 9 v3) fun v4 =>
 bnd (ldV 1 false v4 h2) fun v5 =>
 bnd (binV .gtr v5 (.int .i64 0)) fun v6 =>
 ifV v6 (
 bnd (ncV a0) fun v7 =>
 bnd (faV 9 v7) fun v8 =>
 bnd (ldV 1 false v8 h2) fun v9 =>
 bnd (binV .sub v9 (.int .i64 1)) fun v10 =>
 bnd (ncV a0) fun v11 =>
 bnd (faV 9 v11) fun v12 =>
 bnd (stV 1 v12 v10 h2) fun h13 =>
 K (.bool false) h13) (
 bnd (ncV a0) fun v14 =>
 bnd (faV 8 v14) fun v15 =>
 bnd (ldV 1 false v15 h2) fun v16 =>
 bnd (eqI v16 (.int .i64 0)) fun b17 =>
 ifV (.bool b17) (
 bnd (ncV a0) fun v18 =>
 bnd (faV 5 v18) fun v19 =>
 bnd (ldV 1 false v19 h2) fun v20 =>
 bnd (ncV a0) fun v21 =>
 bnd (faV 0 v21) fun v22 =>
 bnd (ldV 1 false v22 h2) fun v23 =>
 bnd (ncV a0) fun v24 =>
 bnd (faV 5 v24) fun v25 =>
 bnd (ldV 1 false v25 h2) fun v26 =>
 bnd (lnV v26) fun v27 =>
 bnd (fillV [(.int .i64 0), (.int .i64 0), (.int .i64 0), (.int .i64 0), (.int .i64 0), (.int .i64 0), (.int .i64 0), (.slice none 0 0)] [(0, 1, v23), (1, 1, v27), (2, 1, a1), (3, 1, (.int .i64 (-1))), (4, 1, (.int .i64 (-1)))]) fun c28 =>
 bsV 56 1 [(.int .i64 0), (.int .i64 0), (.int .i64 0), (.int .i64 0), (.int .i64 0), (.int .i64 0), (.int .i64 0), (.slice none 0 0)] [(0, 8, (.agg c28.toArray))] h2 fun v29 h30 =>
 apV 56 8 80 v20 v29 h30 fun v31 h32 =>
 bnd (ncV a0) fun v33 =>
 bnd (faV 5 v33) fun v34 =>
 bnd (stV 1 v34 v31 h32) fun h35 =>
 S79_j1 a0 h35 K ) (
 S79_j1 a0 h2 K )))
def A79 : Ann := ⟨fun | 7 => ([0, 1, 2, 3, 4, 5, 6, 7, 8, 9, 10, 11, 12, 13, 14, 15, 16, 17, 18, 19, 20], [0, 0, 2, 6, 14, 0, 32, 96, 224, 0, 512, 1536, 3584, 7680, 0, 32736, 65504, 131070, 262143, 524287, 1048575]) | _ => ([], []), fun _ => []⟩
theorem S79_T {a0 a1 : Value} {h : GH} {K : Value → GH → Prop} (g : S79 a0 a1 h K) : T Tryz.prog 79 [a0, a1] h K :=
  T_of_gwp (A := A79) Tryz.func79 (c := bodyOf Tryz.f79) (by kernel_rfl) (by kernel_rfl) (by kernel_rfl) (by kernel_rfl) (by kernel_rfl) (Eq.mp (by kernel_rfl) g)
def S80 (a0 : Value) (h : GH) (K : Value → GH → Prop) : Prop :=
 bnd (eqK .slice true a0 (.slice none 0 0)) fun b1 =>
 ifV (.bool b1) (
 K (.slice none 0 0) h) (
 bsV 56 0 [] [] h fun v2 h3 =>
 apV 56 8 80 v2 a0 h3 fun v4 h5 =>
 K v4 h5)
def A80 : Ann := ⟨fun _ => ([], []), fun _ => []⟩
theorem S80_T {a0 : Value} {h : GH} {K : Value → GH → Prop} (g : S80 a0 h K) : T Tryz.prog 80 [a0] h K :=
  T_of_gwp (A := A80) Tryz.func80 (c := bodyOf Tryz.f80) (by kernel_rfl) (by kernel_rfl) (by kernel_rfl) (by kernel_rfl) (by kernel_rfl) (Eq.mp (by kernel_rfl) g)
def S81 (a0 : Value) (h : GH) (K : Value → GH → Prop) : Prop :=
 bnd (eqK .slice true a0 (.slice none 0 0)) fun b1 =>
 ifV (.bool b1) (
 K (.slice none 0 0) h) (
 bsV 122 0 [] [] h fun v2 h3 =>
 apV 122 2 16 v2 a0 h3 fun v4 h5 =>
 K v4 h5)
def A81 : Ann := ⟨fun _ => ([], []), fun _ => []⟩
theorem S81_T {a0 : Value} {h : GH} {K : Value → GH → Prop} (g : S81 a0 h K) : T Tryz.prog 81 [a0] h K :=
  T_of_gwp (A := A81) Tryz.func81 (c := bodyOf Tryz.f81) (by kernel_rfl) (by kernel_rfl) (by kernel_rfl) (by kernel_rfl) (by kernel_rfl) (Eq.mp (by kernel_rfl) g)
def S82 (a0 a1 a2 a3 : Value) (h : GH) (K : Value → GH → Prop) : Prop :=
 bnd (eqK .ptr true a0 (.pointer none)) fun b1 =>
 ifV (.bool b1) (
 K (.tuple #[(.int .i64 0), (.int .i64 1)]) h) (
 T Tryz.prog 75 [a2, (.int .i64 634)] h fun v2 h3 =>
 bnd (unV .not v2) fun v4 =>
 ifV v4 (
 K (.tuple #[(.int .i64 0), (.int .i64 200)]) h3) (
 bnd (ncV a0) fun v5 =>
 bnd (faV 0 v5) fun v6 =>
 bnd (iaV 634 1 v6 a2) fun v7 =>
 bnd (ldV 1 false v7 h3) fun v8 =>
 bnd (ncV a0) fun v9 =>
 bnd (faV 0 v9) fun v10 =>
 callV Tryz.prog a3 [v8] h3 fun v11 h12 =>
 bnd (iaV 634 1 v10 a2) fun v13 =>
 bnd (stV 1 v13 v11 h12) fun h14 =>
 bnd (ncV a0) fun v15 =>
 bnd (faV 0 v15) fun v16 =>
 bnd (iaV 634 1 v16 a2) fun v17 =>
 bnd (ldV 1 false v17 h14) fun v18 =>
 bnd (fillV [(.int .i64 0), (.int .i64 0), (.int .i64 0), (.int .i64 0), (.int .i64 0), (.int .i64 0), (.int .i64 0), (.int .i64 0)] [(1, 1, a1), (2, 1, a2), (3, 1, v8), (4, 1, v18)]) fun c19 =>
 bnd (ncV a0) fun v20 =>
 bnd (faV 634 v20) fun v21 =>
 bnd (stV 8 v21 (.agg c19.toArray) h14) fun h22 =>
 bnd (ncV a0) fun v23 =>
 bnd (faV 642 v23) fun v24 =>
 bnd (stV 1 v24 (.bool true) h22) fun h25 =>
 K (.tuple #[v8, (.int .i64 0)]) h25))
def A82 : Ann := ⟨fun | 6 => ([0, 1, 2, 3, 5, 6, 4, 7, 8], [0, 0, 0, 0, 12, 1, 33, 127, 255]) | _ => ([], []), fun _ => []⟩
theorem S82_T {a0 a1 a2 a3 : Value} {h : GH} {K : Value → GH → Prop} (g : S82 a0 a1 a2 a3 h K) : T Tryz.prog 82 [a0, a1, a2, a3] h K :=
  T_of_gwp (A := A82) Tryz.func82 (c := bodyOf Tryz.f82) (by kernel_rfl) (by kernel_rfl) (by kernel_rfl) (by kernel_rfl) (by kernel_rfl) (Eq.mp (by kernel_rfl) g)
def S83 (a0 a1 : Value) (h : GH) (K : Value → GH → Prop) : Prop :=
 bnd (ldV 1 false a1 h) fun v1 =>
 K v1 h
def A83 : Ann := ⟨fun _ => ([], []), fun _ => []⟩
theorem S83_T {a0 a1 : Value} {h : GH} {K : Value → GH → Prop} (g : S83 a0 a1 h K) : T Tryz.prog 83 [a0, a1] h K :=
  T_of_gwp (A := A83) Tryz.func83 (c := bodyOf Tryz.f83) (by kernel_rfl) (by kernel_rfl) (by kernel_rfl) (by kernel_rfl) (by kernel_rfl) (Eq.mp (by kernel_rfl) g)
def S84 (a0 : Value) (h : GH) (K : Value → GH → Prop) : Prop :=
 bnd (eqK .slice true a0 (.slice none 0 0)) fun b1 =>
 ifV (.bool b1) (
 K (.slice none 0 0) h) (
 bsV 3 0 [] [] h fun v2 h3 =>
 apV 3 1 8 v2 a0 h3 fun v4 h5 =>
 K v4 h5)
def A84 : Ann := ⟨fun _ => ([], []), fun _ => []⟩
theorem S84_T {a0 : Value} {h : GH} {K : Value → GH → Prop} (g : S84 a0 h K) : T Tryz.prog 84 [a0] h K :=
  T_of_gwp (A := A84) Tryz.func84 (c := bodyOf Tryz.f84) (by kernel_rfl) (by kernel_rfl) (by kernel_rfl) (by kernel_rfl) (by kernel_rfl) (Eq.mp (by kernel_rfl) g)
def S85 (a0 : Value) (h : GH) (K : Value → GH → Prop) : Prop :=
 K a0 h
def A85 : Ann := ⟨fun _ => ([], []), fun _ => []⟩
theorem S85_T {a0 : Value} {h : GH} {K : Value → GH → Prop} (g : S85 a0 h K) : T Tryz.prog 85 [a0] h K :=
  T_of_gwp (A := A85) Tryz.func85 (c := bodyOf Tryz.f85) (by kernel_rfl) (by kernel_rfl) (by kernel_rfl) (by kernel_rfl) (by kernel_rfl) (Eq.mp (by kernel_rfl) g)
def S89_j1 (x0 x4 : Value) (h : GH) (K : Value → GH → Prop)  : Prop :=
 bnd (ncV x0) fun v1 =>
 bnd (faV 15 v1) fun v2 =>
 bnd (ldV 1 false v2 h) fun v3 =>
 bnd (ldV 8 true x4 h) fun v4 =>
 bsV 60 1 [(.int .i64 0), (.int .i64 0), (.int .i64 0), (.int .i64 0), (.int .i64 0), (.int .i64 0), (.int .i64 0), (.int .i64 0)] [(0, 8, v4)] h fun v5 h6 =>
 apV 60 8 64 v3 v5 h6 fun v7 h8 =>
 bnd (ncV x0) fun v9 =>
 bnd (faV 15 v9) fun v10 =>
 bnd (stV 1 v10 v7 h8) fun h11 =>
 T Tryz.prog 115 [x4] h11 fun v12 h13 =>
 bnd (exV v12 0) fun v14 =>
 bnd (exV v12 1) fun v15 =>
 ifV v15 (
 bnd (ncV x0) fun v16 =>
 bnd (faV 1 v16) fun v17 =>
 bnd (ldV 1 false v17 h13) fun v18 =>
 bnd (lnV v18) fun v19 =>
 Lfp (fun (s20 : Nat → Value) h21 again22 =>
 bnd (binV .lss (s20 4) (s20 3)) fun v23 =>
 ifV v23 (
 bnd (isV 1 (s20 2) (s20 4)) fun v24 =>
 bnd (ldV 1 false v24 h21) fun v25 =>
 bnd (ncV (s20 0)) fun v26 =>
 bnd (faV 14 v26) fun v27 =>
 bnd (ldV 1 false v27 h21) fun v28 =>
 T Tryz.prog 116 [v25, (s20 1), v28] h21 fun v29 h30 =>
 bnd (binV .add (s20 4) (.int .i64 1)) fun v31 =>
 again22 (tup [(s20 0), (s20 1), (s20 2), (s20 3), v31]) h30) (
 K (.tuple #[]) h21)) (tup [x0, v14, v18, v19, (.int .i64 0)]) h13) (
 K (.tuple #[]) h13)
def S89 (a0 a1 : Value) (h : GH) (K : Value → GH → Prop) : Prop :=
 bnd (ncV a0) fun v1 =>
 bnd (faV 0 v1) fun v2 =>
 bnd (ldV 1 false v2 h) fun v3 =>
 T Tryz.prog 38 [v3] h fun v4 h5 =>
 bnd (exV v4 0) fun v6 =>
 bnd (exV v4 1) fun v7 =>
 newV 60 [(.int .i64 0), (.int .i64 0), (.int .i64 0), (.int .i64 0), (.int .i64 0), (.int .i64 0), (.int .i64 0), (.int .i64 0)] h5 fun v8 h9 =>
 bnd (stV 8 v8 v6 h9) fun h10 =>
 bnd (faV 0 v8) fun v11 =>
 bnd (stV 1 v11 a1 h10) fun h12 =>
 bnd (ncV a0) fun v13 =>
 bnd (faV 1 v13) fun v14 =>
 bnd (ldV 1 false v14 h12) fun v15 =>
 bnd (isV 1 v15 a1) fun v16 =>
 bnd (ldV 1 false v16 h12) fun v17 =>
 T Tryz.prog 34 [v17] h12 fun v18 h19 =>
 bnd (exV v18 0) fun v20 =>
 bnd (exV v18 1) fun v21 =>
 bnd (faV 5 v8) fun v22 =>
 bnd (stV 1 v22 v20 h19) fun h23 =>
 bnd (faV 6 v8) fun v24 =>
 bnd (stV 1 v24 v21 h23) fun h25 =>
 bnd (faV 5 v8) fun v26 =>
 bnd (ldV 1 false v26 h25) fun v27 =>
 bnd (binV .geq v27 (.int .i64 0)) fun v28 =>
 ifV v28 (
 bnd (faV 5 v8) fun v29 =>
 bnd (ldV 1 false v29 h25) fun v30 =>
 bnd (ncV a0) fun v31 =>
 bnd (faV 2 v31) fun v32 =>
 bnd (iaV 12 1 v32 v30) fun v33 =>
 bnd (ldV 1 false v33 h25) fun v34 =>
 bnd (faV 7 v8) fun v35 =>
 bnd (stV 1 v35 v34 h25) fun h36 =>
 S89_j1 a0 v8 h36 K ) (
 S89_j1 a0 v8 h25 K )
def A89 : Ann := ⟨fun | 4 => ([0, 1, 2, 3, 4, 5, 6, 7, 8], [0, 0, 2, 1, 9, 31, 63, 127, 255]) | 5 => ([0, 1, 2, 3, 4, 5, 6, 7, 8, 9, 10], [0, 0, 2, 6, 14, 0, 32, 126, 255, 511, 1023]) | _ => ([], []), fun | 0 => [0, 6, 62, 63, 64] | _ => []⟩
theorem S89_T {a0 a1 : Value} {h : GH} {K : Value → GH → Prop} (g : S89 a0 a1 h K) : T Tryz.prog 89 [a0, a1] h K :=
  T_of_gwp (A := A89) Tryz.func89 (c := bodyOf Tryz.f89) (by kernel_rfl) (by kernel_rfl) (by kernel_rfl) (by kernel_rfl) (by kernel_rfl) (Eq.mp (by kernel_rfl) g)
def S90 (a0 : Value) (h : GH) (K : Value → GH → Prop) : Prop :=
 bnd (eqK .slice true a0 (.slice none 0 0)) fun b1 =>
 ifV (.bool b1) (
 K (.slice none 0 0) h) (
 bsV 60 0 [] [] h fun v2 h3 =>
 apV 60 8 64 v2 a0 h3 fun v4 h5 =>
 K v4 h5)
def A90 : Ann := ⟨fun _ => ([], []), fun _ => []⟩
theorem S90_T {a0 : Value} {h : GH} {K : Value → GH → Prop} (g : S90 a0 h K) : T Tryz.prog 90 [a0] h K :=
  T_of_gwp (A := A90) Tryz.func90 (c := bodyOf Tryz.f90) (by kernel_rfl) (by kernel_rfl) (by kernel_rfl) (by kernel_rfl) (by kernel_rfl) (Eq.mp (by kernel_rfl) g)
def S100 (a0 a1 : Value) (h : GH) (K : Value → GH → Prop) : Prop :=
 T Tryz.prog 122 [a0, a1] h fun v1 h2 =>
 bnd (binV .geq v1 (.int .i64 0)) fun v3 =>
 K v3 h2
def A100 : Ann := ⟨fun _ => ([], []), fun _ => []⟩
theorem S100_T {a0 a1 : Value} {h : GH} {K : Value → GH → Prop} (g : S100 a0 a1 h K) : T Tryz.prog 100 [a0, a1] h K :=
  T_of_gwp (A := A100) Tryz.func100 (c := bodyOf Tryz.f100) (by kernel_rfl) (by kernel_rfl) (by kernel_rfl) (by kernel_rfl) (by kernel_rfl) (Eq.mp (by kernel_rfl) g)
def S101 (a0 : Value) (h : GH) (K : Value → GH → Prop) : Prop :=
 T Tryz.prog 33 [a0] h fun v1 h2 =>
 bnd (unV .not v1) fun v3 =>
 K v3 h2
def A101 : Ann := ⟨fun _ => ([], []), fun _ => []⟩
theorem S101_T {a0 : Value} {h : GH} {K : Value → GH → Prop} (g : S101 a0 h K) : T Tryz.prog 101 [a0] h K :=
  T_of_gwp (A := A101) Tryz.func101 (c := bodyOf Tryz.f101) (by kernel_rfl) (by kernel_rfl) (by kernel_rfl) (by kernel_rfl) (by kernel_rfl) (Eq.mp (by kernel_rfl) g)
def S108 (a0 : Value) (h : GH) (K : Value → GH → Prop) : Prop :=
 bnd (lnV a0) fun v1 =>
 Lfp (fun (s2 : Nat → Value) h3 again4 =>
 bnd (binV .lss (s2 2) (s2 1)) fun v5 =>
 ifV v5 (
 bnd (isV 4 (s2 0) (s2 2)) fun v6 =>
 T Tryz.prog 127 [v6] h3 fun v7 h8 =>
 bnd (unV .not v7) fun v9 =>
 ifV v9 (
 K (.bool false) h8) (
 bnd (binV .add (s2 2) (.int .i64 1)) fun v10 =>
 again4 (tup [(s2 0), (s2 1), v10]) h8)) (
 bnd (lnV (s2 0)) fun v11 =>
 bnd (binV .geq v11 (.int .i64 1)) fun v12 =>
 ifV v12 (
 bnd (lnV (s2 0)) fun v13 =>
 bnd (binV .leq v13 (.int .i64 2)) fun v14 =>
 K v14 h3) (
 K (.bool false) h3))) (tup [a0, v1, (.int .i64 0)]) h
def A108 : Ann := ⟨fun _ => ([], []), fun | 0 => [0, 5, 6] | _ => []⟩
theorem S108_T {a0 : Value} {h : GH} {K : Value → GH → Prop} (g : S108 a0 h K) : T Tryz.prog 108 [a0] h K :=
  T_of_gwp (A := A108) Tryz.func108 (c := bodyOf Tryz.f108) (by kernel_rfl) (by kernel_rfl) (by kernel_rfl) (by kernel_rfl) (by kernel_rfl) (Eq.mp (by kernel_rfl) g)
def S110 (a0 : Value) (h : GH) (K : Value → GH → Prop) : Prop :=
 bnd (binV .geq a0 (.int .i64 0)) fun v1 =>
 ifV v1 (
 bnd (binV .leq a0 (.int .i64 5)) fun v2 =>
 K v2 h) (
 K (.bool false) h)
def A110 : Ann := ⟨fun _ => ([], []), fun _ => []⟩
theorem S110_T {a0 : Value} {h : GH} {K : Value → GH → Prop} (g : S110 a0 h K) : T Tryz.prog 110 [a0] h K :=
  T_of_gwp (A := A110) Tryz.func110 (c := bodyOf Tryz.f110) (by kernel_rfl) (by kernel_rfl) (by kernel_rfl) (by kernel_rfl) (by kernel_rfl) (Eq.mp (by kernel_rfl) g)
def S112 (a0 : Value) (h : GH) (K : Value → GH → Prop) : Prop :=
 bnd (binV .mul a0 (.int .i64 4)) fun v1 =>
 bnd (binV .add v1 (.int .i64 0)) fun v2 =>
 K v2 h
def A112 : Ann := ⟨fun _ => ([], []), fun _ => []⟩
theorem S112_T {a0 : Value} {h : GH} {K : Value → GH → Prop} (g : S112 a0 h K) : T Tryz.prog 112 [a0] h K :=
  T_of_gwp (A := A112) Tryz.func112 (c := bodyOf Tryz.f112) (by kernel_rfl) (by kernel_rfl) (by kernel_rfl) (by kernel_rfl) (by kernel_rfl) (Eq.mp (by kernel_rfl) g)
def S113 (a0 : Value) (h : GH) (K : Value → GH → Prop) : Prop :=
 T Tryz.prog 131 [a0] h fun v1 h2 =>
 bnd (unV .not v1) fun v3 =>
 ifV v3 (
 K (.tuple #[(.pointer none), (.int .i64 1100)]) h2) (
 bnd (fillV [(.int .i64 0), (.int .i64 0), (.bool false), (.bool false), (.bool false)] [(0, 1, a0)]) fun c4 =>
 newV 201 ((.agg c4.toArray) : Value).cells.toList h2 fun v5 h6 =>
 K (.tuple #[v5, (.int .i64 0)]) h6)
def A113 : Ann := ⟨fun _ => ([], []), fun _ => []⟩
theorem S113_T {a0 : Value} {h : GH} {K : Value → GH → Prop} (g : S113 a0 h K) : T Tryz.prog 113 [a0] h K :=
  T_of_gwp (A := A113) Tryz.func113 (c := bodyOf Tryz.f113) (by kernel_rfl) (by kernel_rfl) (by kernel_rfl) (by kernel_rfl) (by kernel_rfl) (Eq.mp (by kernel_rfl) g)
def S114_j1 (x3 x5 x26 : Value) (h : GH) (K : Value → GH → Prop)  : Prop :=
 ifV x26 (
 bnd (ncV x3) fun v1 =>
 bnd (faV 12 v1) fun v2 =>
 bnd (ldV 1 false v2 h) fun v3 =>
 bnd (ncV x3) fun v4 =>
 bnd (faV 15 v4) fun v5 =>
 bnd (ldV 1 false v5 h) fun v6 =>
 T Tryz.prog 134 [v6] h fun v7 h8 =>
 ldV 1 false v2 h8 = some v3 ∧
 T Tryz.prog 133 [v3, v7] h8 fun v9 h10 =>
 bnd (exV v9 0) fun v11 =>
 bnd (exV v9 1) fun v12 =>
 bnd (exV v9 2) fun v13 =>
 bnd (ncV x3) fun v14 =>
 bnd (faV 13 v14) fun v15 =>
 bnd (stV 1 v15 v11 h10) fun h16 =>
 bnd (ncV x3) fun v17 =>
 bnd (faV 12 v17) fun v18 =>
 bnd (stV 1 v18 v12 h16) fun h19 =>
 bnd (ncV x3) fun v20 =>
 bnd (faV 6 v20) fun v21 =>
 bnd (stV 1 v21 (.func (.func 135) #[] #[]) h19) fun h22 =>
 K v13 h22) (
 K x5 h)
def S114 (a0 : Value) (h : GH) (K : Value → GH → Prop) : Prop :=
 bnd (ncV a0) fun v1 =>
 bnd (faV 0 v1) fun v2 =>
 bnd (ldV 1 false v2 h) fun v3 =>
 bnd (ncV v3) fun v4 =>
 bnd (faV 15 v4) fun v5 =>
 bnd (ldV 1 false v5 h) fun v6 =>
 bnd (ncV a0) fun v7 =>
 bnd (faV 1 v7) fun v8 =>
 bnd (ldV 1 false v8 h) fun v9 =>
 T Tryz.prog 132 [v6, v9] h fun v10 h11 =>
 bnd (exV v10 0) fun v12 =>
 bnd (exV v10 1) fun v13 =>
 ifV v12 (
 bnd (eqI v13 (.int .i64 0)) fun b14 =>
 S114_j1 v3 v13 (.bool b14) h11 K ) (
 S114_j1 v3 v13 (.bool false) h11 K )
def A114 : Ann := ⟨fun | 2 => ([0, 1, 2, 3, 4, 5, 6, 7, 8, 9, 10, 11, 12, 13], [0, 1, 3, 7, 0, 16, 48, 112, 255, 511, 1023, 1023, 2047, 8191]) | 4 => ([0, 1, 2, 3, 4, 5, 6, 7, 8, 9, 10, 11, 12, 13, 14, 15, 16, 17, 18, 19, 20, 21, 22], [0, 0, 0, 4, 12, 28, 0, 64, 192, 448, 960, 2044, 4092, 8188, 8188, 8188, 16381, 81917, 212989, 491519, 1015807, 2064383, 4194303]) | _ => ([], []), fun _ => []⟩
theorem S114_T {a0 : Value} {h : GH} {K : Value → GH → Prop} (g : S114 a0 h K) : T Tryz.prog 114 [a0] h K :=
  T_of_gwp (A := A114) Tryz.func114 (c := bodyOf Tryz.f114) (by kernel_rfl) (by kernel_rfl) (by kernel_rfl) (by kernel_rfl) (by kernel_rfl) (Eq.mp (by kernel_rfl) g)
def S115_j1 (x0 x4 x5 : Value) (h : GH) (K : Value → GH → Prop)  : Prop :=
 bnd (ncV x0) fun v1 =>
 bnd (faV 4 v1) fun v2 =>
 bnd (ldV 1 false v2 h) fun v3 =>
 bnd (binV .quo x5 (.int .i64 4)) fun v4 =>
 T Tryz.prog 138 [v4, (.int .i64 1)] h fun v5 h6 =>
 ldV 1 false v2 h6 = some v3 ∧
 bnd (eqI v3 v5) fun b7 =>
 K (.tuple #[x4, (.bool b7)]) h6
def S115 (a0 : Value) (h : GH) (K : Value → GH → Prop) : Prop :=
 bnd (ncV a0) fun v1 =>
 bnd (faV 2 v1) fun v2 =>
 bnd (ldV 1 false v2 h) fun v3 =>
 bnd (binV .sub v3 (.int .i64 34)) fun v4 =>
 bnd (binV .quo v4 (.int .i64 50)) fun v5 =>
 bnd (ncV a0) fun v6 =>
 bnd (faV 4 v6) fun v7 =>
 bnd (ldV 1 false v7 h) fun v8 =>
 T Tryz.prog 136 [v8] h fun v9 h10 =>
 bnd (exV v9 0) fun v11 =>
 bnd (exV v9 1) fun v12 =>
 bnd (ncV a0) fun v13 =>
 bnd (faV 1 v13) fun v14 =>
 bnd (ldV 1 false v14 h10) fun v15 =>
 bnd (eqI v15 (.int .i64 2)) fun b16 =>
 ifV (.bool (!b16)) (
 K (.tuple #[(.int .i64 0), (.bool false)]) h10) (
 bnd (ncV a0) fun v17 =>
 bnd (faV 3 v17) fun v18 =>
 bnd (ldV 1 false v18 h10) fun v19 =>
 bnd (ncV a0) fun v20 =>
 bnd (faV 4 v20) fun v21 =>
 bnd (ldV 1 false v21 h10) fun v22 =>
 bnd (eqI v19 v22) fun b23 =>
 ifV (.bool b23) (
 K (.tuple #[(.int .i64 0), (.bool false)]) h10) (
 bnd (ncV a0) fun v24 =>
 bnd (faV 2 v24) fun v25 =>
 bnd (ldV 1 false v25 h10) fun v26 =>
 bnd (binV .lss v26 (.int .i64 34)) fun v27 =>
 ifV v27 (
 K (.tuple #[(.int .i64 0), (.bool false)]) h10) (
 bnd (ncV a0) fun v28 =>
 bnd (faV 2 v28) fun v29 =>
 bnd (ldV 1 false v29 h10) fun v30 =>
 T Tryz.prog 137 [v5] h10 fun v31 h32 =>
 ldV 1 false v29 h32 = some v30 ∧
 bnd (eqI v30 v31) fun b33 =>
 ifV (.bool (!b33)) (
 K (.tuple #[(.int .i64 0), (.bool false)]) h32) (
 bnd (unV .not v12) fun v34 =>
 ifV v34 (
 K (.tuple #[(.int .i64 0), (.bool false)]) h32) (
 S115_j1 a0 v5 v11 h32 K )))))
def A115 : Ann := ⟨fun | 3 => ([0, 1, 2, 3, 4, 5, 6, 7, 8, 9, 10, 11, 12, 13, 14, 15, 16, 17, 18, 19, 20, 21, 22, 23, 24, 25, 26, 27, 28, 29, 30, 31, 32, 33, 34, 35], [0, 1, 3, 7, 15, 31, 63, 127, 255, 511, 63, 1087, 3135, 7231, 16383, 32767, 65535, 131071, 262143, 524287, 1048575, 2097151, 4194303, 8388607, 16777215, 33554431, 67108863, 134217727, 16777215, 285212671, 1073741823, 2147483647, 4294967295, 8589934591, 17179869183, 34359738367]) | 5 => ([0, 1, 2, 3, 4, 5, 6, 7, 8, 9, 10], [0, 0, 2, 6, 14, 0, 32, 96, 254, 225, 1023]) | _ => ([], []), fun _ => []⟩
theorem S115_T {a0 : Value} {h : GH} {K : Value → GH → Prop} (g : S115 a0 h K) : T Tryz.prog 115 [a0] h K :=
  T_of_gwp (A := A115) Tryz.func115 (c := bodyOf Tryz.f115) (by kernel_rfl) (by kernel_rfl) (by kernel_rfl) (by kernel_rfl) (by kernel_rfl) (Eq.mp (by kernel_rfl) g)
def S116 (a0 a1 a2 : Value) (h : GH) (K : Value → GH → Prop) : Prop :=
 bnd (ncV a0) fun v1 =>
 bnd (faV 14 v1) fun v2 =>
 bnd (ldV 1 false v2 h) fun v3 =>
 bnd (eqI v3 a1) fun b4 =>
 ifV (.bool b4) (
 bnd (ncV a0) fun v5 =>
 bnd (faV 5 v5) fun v6 =>
 bnd (ldV 1 false v6 h) fun v7 =>
 bnd (lnV v7) fun v8 =>
 bnd (binV .gtr v8 (.int .i64 0)) fun v9 =>
 ifV v9 (
 T Tryz.prog 139 [a0] h fun v10 h11 =>
 bnd (ncV v10) fun v12 =>
 bnd (faV 3 v12) fun v13 =>
 bnd (stV 1 v13 a2 h11) fun h14 =>
 K (.tuple #[]) h14) (
 K (.tuple #[]) h)) (
 K (.tuple #[]) h)
def A116 : Ann := ⟨fun _ => ([], []), fun _ => []⟩
theorem S116_T {a0 a1 a2 : Value} {h : GH} {K : Value → GH → Prop} (g : S116 a0 a1 a2 h K) : T Tryz.prog 116 [a0, a1, a2] h K :=
  T_of_gwp (A := A116) Tryz.func116 (c := bodyOf Tryz.f116) (by kernel_rfl) (by kernel_rfl) (by kernel_rfl) (by kernel_rfl) (by kernel_rfl) (Eq.mp (by kernel_rfl) g)
def S122 (a0 a1 : Value) (h : GH) (K : Value → GH → Prop) : Prop :=
 bnd (lnV a0) fun v1 =>
 Lfp (fun (s2 : Nat → Value) h3 again4 =>
 bnd (binV .lss (s2 3) (s2 2)) fun v5 =>
 ifV v5 (
 bnd (isV 1 (s2 0) (s2 3)) fun v6 =>
 bnd (ldV 1 false v6 h3) fun v7 =>
 callV Tryz.prog (s2 1) [v7] h3 fun v8 h9 =>
 ifV v8 (
 K (s2 3) h9) (
 bnd (binV .add (s2 3) (.int .i64 1)) fun v10 =>
 again4 (tup [(s2 0), (s2 1), (s2 2), v10]) h9)) (
 K (.int .i64 (-1)) h3)) (tup [a0, a1, v1, (.int .i64 0)]) h
def A122 : Ann := ⟨fun _ => ([], []), fun | 0 => [0, 1, 7, 8] | _ => []⟩
theorem S122_T {a0 a1 : Value} {h : GH} {K : Value → GH → Prop} (g : S122 a0 a1 h K) : T Tryz.prog 122 [a0, a1] h K :=
  T_of_gwp (A := A122) Tryz.func122 (c := bodyOf Tryz.f122) (by kernel_rfl) (by kernel_rfl) (by kernel_rfl) (by kernel_rfl) (by kernel_rfl) (Eq.mp (by kernel_rfl) g)
def S123 (a0 : Value) (h : GH) (K : Value → GH → Prop) : Prop :=
 newV 190 [(.int .i64 0), (.int .i64 0)] h fun v1 h2 =>
 T Tryz.prog 136 [a0] h2 fun v3 h4 =>
 bnd (exV v3 0) fun v5 =>
 bnd (exV v3 1) fun v6 =>
 bnd (binV .quo v5 (.int .i64 16)) fun v7 =>
 bnd (binV .rem v5 (.int .i64 16)) fun v8 =>
 bnd (fillV [(.int .i64 0), (.int .i64 0)] [(0, 1, v7), (1, 1, v8)]) fun c9 =>
 newV 190 [(.int .i64 0), (.int .i64 0)] h4 fun v10 h11 =>
 bnd (stV 2 v10 (.agg c9.toArray) h11) fun h12 =>
 bnd (ldV 2 true v10 h12) fun v13 =>
 ifV v6 (
 bnd (faV 1 v10) fun v14 =>
 bnd (ldV 1 false v14 h12) fun v15 =>
 bnd (binV .leq v15 (.int .i64 12)) fun v16 =>
 ifV v16 (
 bnd (faV 0 v10) fun v17 =>
 bnd (ldV 1 false v17 h12) fun v18 =>
 bnd (binV .leq v18 (.int .i64 1073741823)) fun v19 =>
 bnd (stV 2 v1 v13 h12) fun h20 =>
 ldV 1 false v17 h20 = some v18 ∧
 bnd (ldV 2 true v1 h20) fun v21 =>
 K (.tuple #[v21, v19]) h20) (
 bnd (stV 2 v1 v13 h12) fun h22 =>
 bnd (ldV 2 true v1 h22) fun v23 =>
 K (.tuple #[v23, (.bool false)]) h22)) (
 bnd (stV 2 v1 v13 h12) fun h24 =>
 bnd (ldV 2 true v1 h24) fun v25 =>
 K (.tuple #[v25, (.bool false)]) h24)
def A123 : Ann := ⟨fun | 3 => ([0, 1, 2, 3, 4, 5, 6, 7, 8, 9, 10, 11, 12, 13], [0, 0, 2, 6, 14, 30, 62, 126, 254, 510, 1022, 2046, 255, 8191]) | _ => ([], []), fun _ => []⟩
theorem S123_T {a0 : Value} {h : GH} {K : Value → GH → Prop} (g : S123 a0 h K) : T Tryz.prog 123 [a0] h K :=
  T_of_gwp (A := A123) Tryz.func123 (c := bodyOf Tryz.f123) (by kernel_rfl) (by kernel_rfl) (by kernel_rfl) (by kernel_rfl) (by kernel_rfl) (Eq.mp (by kernel_rfl) g)
def S124 (a0 : Value) (h : GH) (K : Value → GH → Prop) : Prop :=
 T Tryz.prog 136 [a0] h fun v1 h2 =>
 bnd (exV v1 0) fun v3 =>
 bnd (exV v1 1) fun v4 =>
 ifV v4 (
 bnd (binV .leq v3 (.int .i64 12)) fun v5 =>
 K (.tuple #[v3, v5]) h2) (
 K (.tuple #[v3, (.bool false)]) h2)
def A124 : Ann := ⟨fun _ => ([], []), fun _ => []⟩
theorem S124_T {a0 : Value} {h : GH} {K : Value → GH → Prop} (g : S124 a0 h K) : T Tryz.prog 124 [a0] h K :=
  T_of_gwp (A := A124) Tryz.func124 (c := bodyOf Tryz.f124) (by kernel_rfl) (by kernel_rfl) (by kernel_rfl) (by kernel_rfl) (by kernel_rfl) (Eq.mp (by kernel_rfl) g)
def S127 (a0 : Value) (h : GH) (K : Value → GH → Prop) : Prop :=
 bnd (fillV [(.int .i64 0), (.int .i64 0), (.int .i64 0)] [(0, 1, (.int .i64 4)), (1, 1, (.int .i64 1)), (2, 1, (.int .i64 1048576))]) fun c1 =>
 bnd (fillV [(.int .i64 0), (.int .i64 0), (.int .i64 0)] [(0, 1, (.int .i64 4)), (1, 1, (.int .i64 1)), (2, 1, (.int .i64 1))]) fun c2 =>
 bnd (fillV [(.int .i64 0), (.int .i64 0), (.int .i64 0)] [(0, 1, (.int .i64 4)), (1, 1, (.int .i64 1)), (2, 1, (.int .i64 1048576))]) fun c3 =>
 bnd (fillV [(.int .i64 0), (.int .i64 0), (.int .i64 0)] [(0, 1, (.int .i64 4)), (1, 1, (.int .i64 1)), (2, 1, (.int .i64 1048576))]) fun c4 =>
 bnd (fillV [(.int .i64 0), (.int .i64 0), (.int .i64 0)] [(0, 1, (.int .i64 4)), (1, 1, (.int .i64 4)), (2, 1, (.int .i64 1048576))]) fun c5 =>
 bnd (fillV [(.int .i64 0), (.int .i64 0), (.int .i64 0)] [(0, 1, (.int .i64 1)), (1, 1, (.int .i64 1)), (2, 1, (.int .i64 1))]) fun c6 =>
 bnd (fillV [(.int .i64 0), (.int .i64 0), (.int .i64 0)] [(0, 1, (.int .i64 5)), (1, 1, (.int .i64 1)), (2, 1, (.int .i64 2))]) fun c7 =>
 bnd (fillV [(.int .i64 0), (.int .i64 0), (.int .i64 0)] [(0, 1, (.int .i64 5)), (1, 1, (.int .i64 1)), (2, 1, (.int .i64 1))]) fun c8 =>
 bnd (fillV [(.int .i64 0), (.int .i64 0), (.int .i64 0)] [(0, 1, (.int .i64 5)), (1, 1, (.int .i64 1)), (2, 1, (.int .i64 1))]) fun c9 =>
 bnd (fillV [(.int .i64 0), (.int .i64 0), (.int .i64 0)] [(0, 1, (.int .i64 1)), (1, 1, (.int .i64 1)), (2, 1, (.int .i64 1))]) fun c10 =>
 bnd (fillV [(.int .i64 0), (.int .i64 0), (.int .i64 0)] [(0, 1, (.int .i64 5)), (1, 1, (.int .i64 5)), (2, 1, (.int .i64 1))]) fun c11 =>
 bnd (fillV (List.replicate 33 (.int .i64 0)) [(0, 3, (.agg c1.toArray)), (3, 3, (.agg c2.toArray)), (6, 3, (.agg c3.toArray)), (9, 3, (.agg c4.toArray)), (12, 3, (.agg c5.toArray)), (15, 3, (.agg c6.toArray)), (18, 3, (.agg c7.toArray)), (21, 3, (.agg c8.toArray)), (24, 3, (.agg c9.toArray)), (27, 3, (.agg c10.toArray)), (30, 3, (.agg c11.toArray))]) fun c12 =>
 newV 230 (List.replicate 33 (.int .i64 0)) h fun v13 h14 =>
 bnd (stV 33 v13 (.agg c12.toArray) h14) fun h15 =>
 bnd (ncV a0) fun v16 =>
 bnd (faV 0 v16) fun v17 =>
 bnd (ldV 1 false v17 h15) fun v18 =>
 T Tryz.prog 75 [v18, (.int .i64 11)] h15 fun v19 h20 =>
 bnd (unV .not v19) fun v21 =>
 ifV v21 (
 K (.bool false) h20) (
 bnd (ncV a0) fun v22 =>
 bnd (faV 0 v22) fun v23 =>
 bnd (ldV 1 false v23 h20) fun v24 =>
 bnd (iaV 11 3 v13 v24) fun v25 =>
 bnd (ldV 3 true v25 h20) fun v26 =>
 newV 229 [(.int .i64 0), (.int .i64 0), (.int .i64 0)] h20 fun v27 h28 =>
 bnd (stV 3 v27 v26 h28) fun h29 =>
 bnd (ncV a0) fun v30 =>
 bnd (faV 1 v30) fun v31 =>
 bnd (ldV 1 false v31 h29) fun v32 =>
 bnd (faV 0 v27) fun v33 =>
 bnd (ldV 1 false v33 h29) fun v34 =>
 T Tryz.prog 75 [v32, v34] h29 fun v35 h36 =>
 ifV v35 (
 bnd (ncV a0) fun v37 =>
 bnd (faV 2 v37) fun v38 =>
 bnd (ldV 1 false v38 h36) fun v39 =>
 bnd (faV 1 v27) fun v40 =>
 bnd (ldV 1 false v40 h36) fun v41 =>
 T Tryz.prog 75 [v39, v41] h36 fun v42 h43 =>
 ifV v42 (
 bnd (ncV a0) fun v44 =>
 bnd (faV 3 v44) fun v45 =>
 bnd (ldV 1 false v45 h43) fun v46 =>
 bnd (faV 2 v27) fun v47 =>
 bnd (ldV 1 false v47 h43) fun v48 =>
 T Tryz.prog 75 [v46, v48] h43 fun v49 h50 =>
 K v49 h50) (
 K (.bool false) h43)) (
 K (.bool false) h36))
def A127 : Ann := ⟨fun | 5 => ([0, 1, 2, 3, 4, 5, 6, 7, 8, 9, 10, 11, 12, 13, 14, 15, 16, 17, 18, 19, 20, 21, 22, 23, 24, 25], [0, 1, 3, 7, 0, 16, 63, 127, 255, 511, 1023, 2047, 255, 4351, 16383, 32767, 65535, 131071, 262143, 524287, 1048575, 131071, 2228223, 8388607, 16777215, 33554431]) | _ => ([], []), fun _ => []⟩
theorem S127_T {a0 : Value} {h : GH} {K : Value → GH → Prop} (g : S127 a0 h K) : T Tryz.prog 127 [a0] h K :=
  T_of_gwp (A := A127) Tryz.func127 (c := bodyOf Tryz.f127) (by kernel_rfl) (by kernel_rfl) (by kernel_rfl) (by kernel_rfl) (by kernel_rfl) (Eq.mp (by kernel_rfl) g)
def S131 (a0 : Value) (h : GH) (K : Value → GH → Prop) : Prop :=
 T Tryz.prog 75 [a0, (.int .i64 4)] h fun v1 h2 =>
 K v1 h2
def A131 : Ann := ⟨fun _ => ([], []), fun _ => []⟩
theorem S131_T {a0 : Value} {h : GH} {K : Value → GH → Prop} (g : S131 a0 h K) : T Tryz.prog 131 [a0] h K :=
  T_of_gwp (A := A131) Tryz.func131 (c := bodyOf Tryz.f131) (by kernel_rfl) (by kernel_rfl) (by kernel_rfl) (by kernel_rfl) (by kernel_rfl) (Eq.mp (by kernel_rfl) g)
def S132_j4 (x0 x6 : Value) (h : GH) (K : Value → GH → Prop)  : Prop :=
 bnd (ncV x0) fun v1 =>
 bnd (faV 1 v1) fun v2 =>
 bnd (stV 1 v2 x6 h) fun h3 =>
 bnd (ncV x0) fun v4 =>
 bnd (faV 3 v4) fun v5 =>
 bnd (stV 1 v5 (.bool true) h3) fun h6 =>
 bnd (ncV x0) fun v7 =>
 bnd (faV 2 v7) fun v8 =>
 bnd (stV 1 v8 (.bool false) h6) fun h9 =>
 bnd (ncV x0) fun v10 =>
 bnd (faV 4 v10) fun v11 =>
 bnd (ldV 1 false v11 h9) fun v12 =>
 K (.tuple #[v12, (.int .i64 0)]) h9
def S132_j3 (x0 x1 : Value) (h : GH) (K : Value → GH → Prop)  : Prop :=
 T Tryz.prog 156 [x1] h fun v1 h2 =>
 bnd (exV v1 0) fun v3 =>
 bnd (exV v1 1) fun v4 =>
 bnd (unV .not v4) fun v5 =>
 ifV v5 (
 bnd (ncV x0) fun v6 =>
 bnd (faV 4 v6) fun v7 =>
 bnd (stV 1 v7 (.bool true) h2) fun h8 =>
 K (.tuple #[(.bool true), (.int .i64 1100)]) h8) (
 bnd (ncV x0) fun v9 =>
 bnd (faV 2 v9) fun v10 =>
 bnd (ldV 1 false v10 h2) fun v11 =>
 ifV v11 (
 bnd (ncV x0) fun v12 =>
 bnd (faV 1 v12) fun v13 =>
 bnd (ldV 1 false v13 h2) fun v14 =>
 bnd (eqI v3 v14) fun b15 =>
 bnd (ncV x0) fun v16 =>
 bnd (faV 4 v16) fun v17 =>
 bnd (stV 1 v17 (.bool b15) h2) fun h18 =>
 S132_j4 x0 v3 h18 K ) (
 bnd (ncV x0) fun v19 =>
 bnd (faV 4 v19) fun v20 =>
 bnd (stV 1 v20 (.bool false) h2) fun h21 =>
 S132_j4 x0 v3 h21 K ))
def S132_j2 (x0 x1 x20 : Value) (h : GH) (K : Value → GH → Prop)  : Prop :=
 ifV x20 (
 bnd (ncV x0) fun v1 =>
 bnd (faV 0 v1) fun v2 =>
 bnd (ldV 1 false v2 h) fun v3 =>
 bnd (ncV x0) fun v4 =>
 bnd (faV 1 v4) fun v5 =>
 bnd (ldV 1 false v5 h) fun v6 =>
 bnd (binV .add v6 (.int .i64 1)) fun v7 =>
 T Tryz.prog 155 [x1, v3, v7] h fun v8 h9 =>
 bnd (ncV x0) fun v10 =>
 bnd (faV 2 v10) fun v11 =>
 bnd (stV 1 v11 (.bool true) h9) fun h12 =>
 K (.tuple #[(.bool false), (.int .i64 0)]) h12) (
 S132_j3 x0 x1 h K )
def S132_j1 (x0 x1 x8 : Value) (h : GH) (K : Value → GH → Prop)  : Prop :=
 ifV x8 (
 K (.tuple #[(.bool false), (.int .i64 1)]) h) (
 bnd (ncV x0) fun v1 =>
 bnd (faV 4 v1) fun v2 =>
 bnd (ldV 1 false v2 h) fun v3 =>
 ifV v3 (
 K (.tuple #[(.bool true), (.int .i64 0)]) h) (
 bnd (ncV x0) fun v4 =>
 bnd (faV 3 v4) fun v5 =>
 bnd (ldV 1 false v5 h) fun v6 =>
 ifV v6 (
 bnd (ncV x0) fun v7 =>
 bnd (faV 2 v7) fun v8 =>
 bnd (ldV 1 false v8 h) fun v9 =>
 bnd (unV .not v9) fun v10 =>
 S132_j2 x0 x1 v10 h K ) (
 S132_j2 x0 x1 (.bool false) h K )))
def S132 (a0 a1 : Value) (h : GH) (K : Value → GH → Prop) : Prop :=
 bnd (eqK .ptr true a0 (.pointer none)) fun b1 =>
 ifV (.bool b1) (
 S132_j1 a0 a1 (.bool true) h K ) (
 bnd (eqK .ptr true a1 (.pointer none)) fun b2 =>
 S132_j1 a0 a1 (.bool b2) h K )
def A132 : Ann := ⟨fun | 6 => ([0, 1, 2, 3, 4, 5, 6, 7, 8, 9, 10], [0, 0, 2, 6, 14, 0, 32, 96, 224, 480, 1023]) | _ => ([], []), fun _ => []⟩
theorem S132_T {a0 a1 : Value} {h : GH} {K : Value → GH → Prop} (g : S132 a0 a1 h K) : T Tryz.prog 132 [a0, a1] h K :=
  T_of_gwp (A := A132) Tryz.func132 (c := bodyOf Tryz.f132) (by kernel_rfl) (by kernel_rfl) (by kernel_rfl) (by kernel_rfl) (by kernel_rfl) (Eq.mp (by kernel_rfl) g)
def S133_j1 (x0 x1 : Value) (h : GH) (K : Value → GH → Prop)  : Prop :=
 bnd (lnV x0) fun v1 =>
 Lfp (fun (s2 : Nat → Value) h3 again4 =>
 bnd (binV .lss (s2 5) (s2 4)) fun v5 =>
 ifV v5 (
 bnd (isV 2 (s2 3) (s2 5)) fun v6 =>
 bnd (ldV 2 true v6 h3) fun v7 =>
 newV 220 [(.int .i64 0), (.int .i64 0)] h3 fun v8 h9 =>
 bnd (stV 2 v8 v7 h9) fun h10 =>
 bnd (faV 1 v8) fun v11 =>
 bnd (ldV 1 false v11 h10) fun v12 =>
 bnd (binV .sub (s2 0) v12) fun v13 =>
 bnd (binV .geq v13 (.int .i64 3)) fun v14 =>
 ifV v14 (
 bnd (faV 0 v8) fun v15 =>
 bnd (ldV 1 false v15 h10) fun v16 =>
 bsV 3 1 [(.int .i64 0)] [(0, 1, v16)] h10 fun v17 h18 =>
 apV 3 1 8 (s2 1) v17 h18 fun v19 h20 =>
 bnd (binV .add (s2 5) (.int .i64 1)) fun v21 =>
 again4 (tup [(s2 0), v19, (s2 2), (s2 3), (s2 4), v21]) h20) (
 bnd (ldV 2 true v8 h10) fun v22 =>
 bsV 220 1 [(.int .i64 0), (.int .i64 0)] [(0, 2, v22)] h10 fun v23 h24 =>
 apV 220 2 16 (s2 2) v23 h24 fun v25 h26 =>
 bnd (binV .add (s2 5) (.int .i64 1)) fun v27 =>
 again4 (tup [(s2 0), (s2 1), v25, (s2 3), (s2 4), v27]) h26)) (
 K (.tuple #[(s2 1), (s2 2), (.int .i64 0)]) h3)) (tup [x1, (.slice none 0 0), (.slice none 0 0), x0, v1, (.int .i64 0)]) h
def S133 (a0 a1 : Value) (h : GH) (K : Value → GH → Prop) : Prop :=
 T Tryz.prog 157 [a0, (.func (.func 158) #[] #[])] h fun v1 h2 =>
 ifV v1 (
 K (.tuple #[(.slice none 0 0), (.slice none 0 0), (.int .i64 1200)]) h2) (
 T Tryz.prog 159 [a1] h2 fun v3 h4 =>
 bnd (unV .not v3) fun v5 =>
 ifV v5 (
 K (.tuple #[(.slice none 0 0), (.slice none 0 0), (.int .i64 1200)]) h4) (
 S133_j1 a0 a1 h4 K ))
def A133 : Ann := ⟨fun _ => ([], []), fun | 0 => [1, 7, 8, 18, 19, 20] | _ => []⟩
theorem S133_T {a0 a1 : Value} {h : GH} {K : Value → GH → Prop} (g : S133 a0 a1 h K) : T Tryz.prog 133 [a0, a1] h K :=
  T_of_gwp (A := A133) Tryz.func133 (c := bodyOf Tryz.f133) (by kernel_rfl) (by kernel_rfl) (by kernel_rfl) (by kernel_rfl) (by kernel_rfl) (Eq.mp (by kernel_rfl) g)
def S134 (a0 : Value) (h : GH) (K : Value → GH → Prop) : Prop :=
 bnd (eqK .ptr true a0 (.pointer none)) fun b1 =>
 ifV (.bool b1) (
 K (.int .i64 0) h) (
 bnd (ncV a0) fun v2 =>
 bnd (faV 1 v2) fun v3 =>
 bnd (ldV 1 false v3 h) fun v4 =>
 K v4 h)
def A134 : Ann := ⟨fun _ => ([], []), fun _ => []⟩
theorem S134_T {a0 : Value} {h : GH} {K : Value → GH → Prop} (g : S134 a0 h K) : T Tryz.prog 134 [a0] h K :=
  T_of_gwp (A := A134) Tryz.func134 (c := bodyOf Tryz.f134) (by kernel_rfl) (by kernel_rfl) (by kernel_rfl) (by kernel_rfl) (by kernel_rfl) (Eq.mp (by kernel_rfl) g)
def S135_j1 (s4 : Nat → Value) (x0 x3 : Value) (h : GH) (K : Value → GH → Prop) (again6 : (Nat → Value) → GH → Prop) : Prop :=
 bnd (ncV x3) fun v1 =>
 bnd (faV 11 v1) fun v2 =>
 bnd (ldV 1 false v2 h) fun v3 =>
 bnd (ncV x3) fun v4 =>
 bnd (faV 13 v4) fun v5 =>
 bnd (ldV 1 false v5 h) fun v6 =>
 bnd (isV 1 v6 (.int .i64 0)) fun v7 =>
 bnd (ldV 1 false v7 h) fun v8 =>
 bnd (ncV x3) fun v9 =>
 bnd (faV 13 v9) fun v10 =>
 bnd (ldV 1 false v10 h) fun v11 =>
 bnd (slV 1 v11 (some (.int .i64 1)) none) fun v12 =>
 bsV 3 1 [(.int .i64 0)] [(0, 1, v8)] h fun v13 h14 =>
 apV 3 1 8 v3 v13 h14 fun v15 h16 =>
 ldV 1 false v10 h16 = some v11 ∧
 bnd (ncV x3) fun v17 =>
 bnd (faV 11 v17) fun v18 =>
 bnd (stV 1 v18 v15 h16) fun h19 =>
 bnd (ncV x3) fun v20 =>
 bnd (faV 13 v20) fun v21 =>
 bnd (stV 1 v21 v12 h19) fun h22 =>
 again6 (tup [x0, x3]) h22
def S135_j4 (s4 : Nat → Value) (x3 x5 x96 : Value) (h : GH) (K : Value → GH → Prop) (again6 : (Nat → Value) → GH → Prop) : Prop :=
 ifV x96 (
 bnd (ncV x3) fun v1 =>
 bnd (faV 13 v1) fun v2 =>
 bnd (ldV 1 false v2 h) fun v3 =>
 bnd (slV 1 v3 (some (.int .i64 1)) none) fun v4 =>
 bnd (ncV x3) fun v5 =>
 bnd (faV 16 v5) fun v6 =>
 bnd (stV 1 v6 (.pointer none) h) fun h7 =>
 bnd (ncV x3) fun v8 =>
 bnd (faV 13 v8) fun v9 =>
 bnd (stV 1 v9 v4 h7) fun h10 =>
 K x5 h10) (
 K x5 h)
def S135_j3 (s4 : Nat → Value) (x0 x3 : Value) (h : GH) (K : Value → GH → Prop) (again6 : (Nat → Value) → GH → Prop) : Prop :=
 bnd (ncV x3) fun v1 =>
 bnd (faV 16 v1) fun v2 =>
 bnd (ldV 1 false v2 h) fun v3 =>
 bnd (ncV x0) fun v4 =>
 bnd (faV 1 v4) fun v5 =>
 bnd (ldV 1 false v5 h) fun v6 =>
 T Tryz.prog 162 [v3, v6] h fun v7 h8 =>
 bnd (exV v7 0) fun v9 =>
 bnd (exV v7 1) fun v10 =>
 ifV v9 (
 bnd (eqI v10 (.int .i64 0)) fun b11 =>
 S135_j4 s4 x3 v10 (.bool b11) h8 K again6) (
 S135_j4 s4 x3 v10 (.bool false) h8 K again6)
def S135_j2 (s4 : Nat → Value) (x0 x3 : Value) (h : GH) (K : Value → GH → Prop) (again6 : (Nat → Value) → GH → Prop) : Prop :=
 bnd (ncV x3) fun v1 =>
 bnd (faV 13 v1) fun v2 =>
 bnd (ldV 1 false v2 h) fun v3 =>
 bnd (lnV v3) fun v4 =>
 bnd (eqI v4 (.int .i64 0)) fun b5 =>
 ifV (.bool b5) (
 T Tryz.prog 160 [x0] h fun v6 h7 =>
 K v6 h7) (
 bnd (ncV x3) fun v8 =>
 bnd (faV 16 v8) fun v9 =>
 bnd (ldV 1 false v9 h) fun v10 =>
 bnd (eqK .ptr true v10 (.pointer none)) fun b11 =>
 ifV (.bool b11) (
 bnd (ncV x3) fun v12 =>
 bnd (faV 13 v12) fun v13 =>
 bnd (ldV 1 false v13 h) fun v14 =>
 bnd (isV 1 v14 (.int .i64 0)) fun v15 =>
 bnd (ldV 1 false v15 h) fun v16 =>
 T Tryz.prog 161 [v16] h fun v17 h18 =>
 bnd (exV v17 0) fun v19 =>
 bnd (exV v17 1) fun v20 =>
 bnd (ncV x3) fun v21 =>
 bnd (faV 16 v21) fun v22 =>
 bnd (stV 1 v22 v19 h18) fun h23 =>
 S135_j3 s4 x0 x3 h23 K again6) (
 S135_j3 s4 x0 x3 h K again6))
def S135 (a0 : Value) (h : GH) (K : Value → GH → Prop) : Prop :=
 bnd (ncV a0) fun v1 =>
 bnd (faV 0 v1) fun v2 =>
 bnd (ldV 1 false v2 h) fun v3 =>
 Lfp (fun (s4 : Nat → Value) h5 again6 =>
 bnd (ncV (s4 1)) fun v7 =>
 bnd (faV 16 v7) fun v8 =>
 bnd (ldV 1 false v8 h5) fun v9 =>
 bnd (eqK .ptr true v9 (.pointer none)) fun b10 =>
 ifV (.bool b10) (
 bnd (ncV (s4 1)) fun v11 =>
 bnd (faV 13 v11) fun v12 =>
 bnd (ldV 1 false v12 h5) fun v13 =>
 bnd (lnV v13) fun v14 =>
 bnd (binV .gtr v14 (.int .i64 0)) fun v15 =>
 ifV v15 (
 bnd (ncV (s4 1)) fun v16 =>
 bnd (faV 11 v16) fun v17 =>
 bnd (ldV 1 false v17 h5) fun v18 =>
 bnd (lnV v18) fun v19 =>
 bnd (binV .lss v19 (.int .i64 2)) fun v20 =>
 ifV v20 (
 S135_j1 s4 (s4 0) (s4 1) h5 K again6) (
 S135_j2 s4 (s4 0) (s4 1) h5 K again6)) (
 S135_j2 s4 (s4 0) (s4 1) h5 K again6)) (
 S135_j2 s4 (s4 0) (s4 1) h5 K again6)) (tup [a0, v3]) h
def A135 : Ann := ⟨fun | 3 => ([0, 1, 2, 3, 4, 5, 6, 7, 8, 9, 10, 11, 14, 15, 16, 17, 18, 12, 13, 19, 20, 21, 22, 23, 24], [0, 0, 0, 4, 12, 28, 0, 64, 192, 448, 960, 1984, 4032, 8188, 0, 16384, 49152, 114688, 245760, 262141, 786429, 1835005, 4194303, 8388607, 16777215]) | 8 => ([0, 1, 2, 3, 4, 5, 6, 7, 8, 9, 10, 11, 12, 13], [0, 1, 3, 7, 0, 16, 48, 112, 255, 511, 1023, 1023, 2047, 8191]) | 10 => ([0, 1, 2, 3, 4, 5, 6, 7, 8, 9, 10, 11, 12], [0, 0, 0, 4, 12, 28, 60, 61, 189, 445, 1023, 2047, 4095]) | _ => ([], []), fun | 0 => [0, 3] | _ => []⟩
theorem S135_T {a0 : Value} {h : GH} {K : Value → GH → Prop} (g : S135 a0 h K) : T Tryz.prog 135 [a0] h K :=
  T_of_gwp (A := A135) Tryz.func135 (c := bodyOf Tryz.f135) (by kernel_rfl) (by kernel_rfl) (by kernel_rfl) (by kernel_rfl) (by kernel_rfl) (Eq.mp (by kernel_rfl) g)
def S136 (a0 : Value) (h : GH) (K : Value → GH → Prop) : Prop :=
 T Tryz.prog 163 [a0] h fun v1 h2 =>
 bnd (taV 178 (.int .i64 0) true v1) fun v3 =>
 bnd (exV v3 0) fun v4 =>
 bnd (exV v3 1) fun v5 =>
 K (.tuple #[v4, v5]) h2
def A136 : Ann := ⟨fun _ => ([], []), fun _ => []⟩
theorem S136_T {a0 : Value} {h : GH} {K : Value → GH → Prop} (g : S136 a0 h K) : T Tryz.prog 136 [a0] h K :=
  T_of_gwp (A := A136) Tryz.func136 (c := bodyOf Tryz.f136) (by kernel_rfl) (by kernel_rfl) (by kernel_rfl) (by kernel_rfl) (by kernel_rfl) (Eq.mp (by kernel_rfl) g)
def S137 (a0 : Value) (h : GH) (K : Value → GH → Prop) : Prop :=
 bnd (binV .mul a0 (.int .i64 50)) fun v1 =>
 bnd (binV .add (.int .i64 34) v1) fun v2 =>
 K v2 h
def A137 : Ann := ⟨fun _ => ([], []), fun _ => []⟩
theorem S137_T {a0 : Value} {h : GH} {K : Value → GH → Prop} (g : S137 a0 h K) : T Tryz.prog 137 [a0] h K :=
  T_of_gwp (A := A137) Tryz.func137 (c := bodyOf Tryz.f137) (by kernel_rfl) (by kernel_rfl) (by kernel_rfl) (by kernel_rfl) (by kernel_rfl) (Eq.mp (by kernel_rfl) g)
def S138 (a0 a1 : Value) (h : GH) (K : Value → GH → Prop) : Prop :=
 bnd (binV .mul a0 (.int .i64 4)) fun v1 =>
 bnd (binV .add v1 a1) fun v2 =>
 T Tryz.prog 78 [v2] h fun v3 h4 =>
 K v3 h4
def A138 : Ann := ⟨fun _ => ([], []), fun _ => []⟩
theorem S138_T {a0 a1 : Value} {h : GH} {K : Value → GH → Prop} (g : S138 a0 a1 h K) : T Tryz.prog 138 [a0, a1] h K :=
  T_of_gwp (A := A138) Tryz.func138 (c := bodyOf Tryz.f138) (by kernel_rfl) (by kernel_rfl) (by kernel_rfl) (by kernel_rfl) (by kernel_rfl) (Eq.mp (by kernel_rfl) g)
def S139 (a0 : Value) (h : GH) (K : Value → GH → Prop) : Prop :=
 bnd (ncV a0) fun v1 =>
 bnd (faV 5 v1) fun v2 =>
 bnd (ldV 1 false v2 h) fun v3 =>
 bnd (ncV a0) fun v4 =>
 bnd (faV 5 v4) fun v5 =>
 bnd (ldV 1 false v5 h) fun v6 =>
 bnd (lnV v6) fun v7 =>
 bnd (binV .sub v7 (.int .i64 1)) fun v8 =>
 bnd (isV 8 v3 v8) fun v9 =>
 K v9 h
def A139 : Ann := ⟨fun | 1 => ([0, 1, 2, 3, 4, 5, 6, 7, 8, 9, 10, 11], [0, 1, 3, 7, 0, 16, 48, 112, 240, 496, 1023, 2047]) | _ => ([], []), fun _ => []⟩
theorem S139_T {a0 : Value} {h : GH} {K : Value → GH → Prop} (g : S139 a0 h K) : T Tryz.prog 139 [a0] h K :=
  T_of_gwp (A := A139) Tryz.func139 (c := bodyOf Tryz.f139) (by kernel_rfl) (by kernel_rfl) (by kernel_rfl) (by kernel_rfl) (by kernel_rfl) (Eq.mp (by kernel_rfl) g)
def S155 (a0 a1 a2 : Value) (h : GH) (K : Value → GH → Prop) : Prop :=
 bnd (binV .add (.int .i64 30) a1) fun v1 =>
 T Tryz.prog 78 [a2] h fun v2 h3 =>
 T Tryz.prog 35 [a0, v1, v2] h3 fun v4 h5 =>
 K (.tuple #[]) h5
def A155 : Ann := ⟨fun _ => ([], []), fun _ => []⟩
theorem S155_T {a0 a1 a2 : Value} {h : GH} {K : Value → GH → Prop} (g : S155 a0 a1 a2 h K) : T Tryz.prog 155 [a0, a1, a2] h K :=
  T_of_gwp (A := A155) Tryz.func155 (c := bodyOf Tryz.f155) (by kernel_rfl) (by kernel_rfl) (by kernel_rfl) (by kernel_rfl) (by kernel_rfl) (Eq.mp (by kernel_rfl) g)
def S156 (a0 : Value) (h : GH) (K : Value → GH → Prop) : Prop :=
 T Tryz.prog 39 [a0, (.int .i64 29)] h fun v1 h2 =>
 bnd (exV v1 0) fun v3 =>
 bnd (exV v1 1) fun v4 =>
 T Tryz.prog 178 [v3] h2 fun v5 h6 =>
 bnd (exV v5 0) fun v7 =>
 bnd (exV v5 1) fun v8 =>
 K (.tuple #[v7, v8]) h6
def A156 : Ann := ⟨fun _ => ([], []), fun _ => []⟩
theorem S156_T {a0 : Value} {h : GH} {K : Value → GH → Prop} (g : S156 a0 h K) : T Tryz.prog 156 [a0] h K :=
  T_of_gwp (A := A156) Tryz.func156 (c := bodyOf Tryz.f156) (by kernel_rfl) (by kernel_rfl) (by kernel_rfl) (by kernel_rfl) (by kernel_rfl) (Eq.mp (by kernel_rfl) g)
def S157 (a0 a1 : Value) (h : GH) (K : Value → GH → Prop) : Prop :=
 T Tryz.prog 179 [a0, a1] h fun v1 h2 =>
 bnd (binV .geq v1 (.int .i64 0)) fun v3 =>
 K v3 h2
def A157 : Ann := ⟨fun _ => ([], []), fun _ => []⟩
theorem S157_T {a0 a1 : Value} {h : GH} {K : Value → GH → Prop} (g : S157 a0 a1 h K) : T Tryz.prog 157 [a0, a1] h K :=
  T_of_gwp (A := A157) Tryz.func157 (c := bodyOf Tryz.f157) (by kernel_rfl) (by kernel_rfl) (by kernel_rfl) (by kernel_rfl) (by kernel_rfl) (Eq.mp (by kernel_rfl) g)
def S158 (a0 : Value) (h : GH) (K : Value → GH → Prop) : Prop :=
 newV 220 (a0 : Value).cells.toList h fun v1 h2 =>
 bnd (faV 0 v1) fun v3 =>
 bnd (ldV 1 false v3 h2) fun v4 =>
 T Tryz.prog 75 [v4, (.int .i64 12)] h2 fun v5 h6 =>
 bnd (unV .not v5) fun v7 =>
 ifV v7 (
 K (.bool true) h6) (
 bnd (faV 1 v1) fun v8 =>
 bnd (ldV 1 false v8 h6) fun v9 =>
 T Tryz.prog 159 [v9] h6 fun v10 h11 =>
 bnd (unV .not v10) fun v12 =>
 K v12 h11)
def A158 : Ann := ⟨fun _ => ([], []), fun _ => []⟩
theorem S158_T {a0 : Value} {h : GH} {K : Value → GH → Prop} (g : S158 a0 h K) : T Tryz.prog 158 [a0] h K :=
  T_of_gwp (A := A158) Tryz.func158 (c := bodyOf Tryz.f158) (by kernel_rfl) (by kernel_rfl) (by kernel_rfl) (by kernel_rfl) (by kernel_rfl) (Eq.mp (by kernel_rfl) g)
def S159 (a0 : Value) (h : GH) (K : Value → GH → Prop) : Prop :=
 T Tryz.prog 75 [a0, (.int .i64 1073741824)] h fun v1 h2 =>
 K v1 h2
def A159 : Ann := ⟨fun _ => ([], []), fun _ => []⟩
theorem S159_T {a0 : Value} {h : GH} {K : Value → GH → Prop} (g : S159 a0 h K) : T Tryz.prog 159 [a0] h K :=
  T_of_gwp (A := A159) Tryz.func159 (c := bodyOf Tryz.f159) (by kernel_rfl) (by kernel_rfl) (by kernel_rfl) (by kernel_rfl) (by kernel_rfl) (Eq.mp (by kernel_rfl) g)
def S160_j4 (x0 x3 : Value) (h : GH) (K : Value → GH → Prop)  : Prop :=
 bnd (ncV x3) fun v1 =>
 bnd (faV 17 v1) fun v2 =>
 bnd (ldV 1 false v2 h) fun v3 =>
 T Tryz.prog 184 [v3] h fun v4 h5 =>
 bnd (ncV x3) fun v6 =>
 bnd (faV 17 v6) fun v7 =>
 bnd (stV 1 v7 (.pointer none) h5) fun h8 =>
 bnd (eqI v4 (.int .i64 (-1))) fun b9 =>
 ifV (.bool b9) (
 bnd (ncV x3) fun v10 =>
 bnd (faV 20 v10) fun v11 =>
 bnd (stV 1 v11 (.int .i64 1) h8) fun h12 =>
 bnd (ncV x3) fun v13 =>
 bnd (faV 6 v13) fun v14 =>
 bnd (stV 1 v14 (.func (.func 185) #[] #[]) h12) fun h15 =>
 K (.int .i64 0) h15) (
 T Tryz.prog 180 [x0, v4] h8 fun v16 h17 =>
 K (.int .i64 0) h17)
def S160_j3 (x0 x3 : Value) (h : GH) (K : Value → GH → Prop)  : Prop :=
 bnd (ncV x3) fun v1 =>
 bnd (faV 6 v1) fun v2 =>
 bnd (stV 1 v2 (.func (.func 160) #[] #[]) h) fun h3 =>
 bnd (ncV x3) fun v4 =>
 bnd (faV 17 v4) fun v5 =>
 bnd (ldV 1 false v5 h3) fun v6 =>
 bnd (ncV x0) fun v7 =>
 bnd (faV 1 v7) fun v8 =>
 bnd (ldV 1 false v8 h3) fun v9 =>
 T Tryz.prog 183 [v6, v9] h3 fun v10 h11 =>
 bnd (exV v10 0) fun v12 =>
 bnd (exV v10 1) fun v13 =>
 bnd (unV .not v12) fun v14 =>
 ifV v14 (
 K v13 h11) (
 bnd (eqI v13 (.int .i64 0)) fun b15 =>
 ifV (.bool (!b15)) (
 K v13 h11) (
 S160_j4 x0 x3 h11 K ))
def S160_j2 (x0 x3 : Value) (h : GH) (K : Value → GH → Prop)  : Prop :=
 bnd (ncV x3) fun v1 =>
 bnd (faV 17 v1) fun v2 =>
 bnd (ldV 1 false v2 h) fun v3 =>
 bnd (eqK .ptr true v3 (.pointer none)) fun b4 =>
 ifV (.bool b4) (
 T Tryz.prog 182 [] h fun v5 h6 =>
 bnd (ncV x3) fun v7 =>
 bnd (faV 17 v7) fun v8 =>
 bnd (stV 1 v8 v5 h6) fun h9 =>
 S160_j3 x0 x3 h9 K ) (
 S160_j3 x0 x3 h K )
def S160_j1 (x0 x3 x4 x27 : Value) (h : GH) (K : Value → GH → Prop)  : Prop :=
 ifV x27 (
 bnd (ncV x3) fun v1 =>
 bnd (faV 11 v1) fun v2 =>
 bnd (ldV 1 false v2 h) fun v3 =>
 bnd (isV 1 v3 x4) fun v4 =>
 bnd (ldV 1 false v4 h) fun v5 =>
 bnd (ncV x3) fun v6 =>
 bnd (faV 11 v6) fun v7 =>
 bnd (ldV 1 false v7 h) fun v8 =>
 bnd (slV 1 v8 none (some x4)) fun v9 =>
 bnd (ncV x3) fun v10 =>
 bnd (faV 11 v10) fun v11 =>
 bnd (stV 1 v11 v9 h) fun h12 =>
 T Tryz.prog 180 [x0, v5] h12 fun v13 h14 =>
 T Tryz.prog 181 [x0] h14 fun v15 h16 =>
 K v15 h16) (
 S160_j2 x0 x3 h K )
def S160 (a0 : Value) (h : GH) (K : Value → GH → Prop) : Prop :=
 bnd (ncV a0) fun v1 =>
 bnd (faV 0 v1) fun v2 =>
 bnd (ldV 1 false v2 h) fun v3 =>
 bnd (ncV v3) fun v4 =>
 bnd (faV 11 v4) fun v5 =>
 bnd (ldV 1 false v5 h) fun v6 =>
 bnd (lnV v6) fun v7 =>
 bnd (binV .sub v7 (.int .i64 1)) fun v8 =>
 bnd (ncV v3) fun v9 =>
 bnd (faV 17 v9) fun v10 =>
 bnd (ldV 1 false v10 h) fun v11 =>
 bnd (eqK .ptr true v11 (.pointer none)) fun b12 =>
 ifV (.bool b12) (
 bnd (binV .geq v8 (.int .i64 0)) fun v13 =>
 S160_j1 a0 v3 v8 v13 h K ) (
 S160_j1 a0 v3 v8 (.bool false) h K )
def A160 : Ann := ⟨fun | 11 => ([0, 1, 2, 3, 4, 5, 6, 7, 8, 9, 10, 11, 12, 13], [0, 1, 3, 7, 0, 16, 48, 112, 255, 511, 1023, 1023, 2047, 8191]) | _ => ([], []), fun _ => []⟩
theorem S160_T {a0 : Value} {h : GH} {K : Value → GH → Prop} (g : S160 a0 h K) : T Tryz.prog 160 [a0] h K :=
  T_of_gwp (A := A160) Tryz.func160 (c := bodyOf Tryz.f160) (by kernel_rfl) (by kernel_rfl) (by kernel_rfl) (by kernel_rfl) (by kernel_rfl) (Eq.mp (by kernel_rfl) g)
def S161 (a0 : Value) (h : GH) (K : Value → GH → Prop) : Prop :=
 T Tryz.prog 75 [a0, (.int .i64 12)] h fun v1 h2 =>
 bnd (unV .not v1) fun v3 =>
 ifV v3 (
 K (.tuple #[(.pointer none), (.int .i64 1000)]) h2) (
 bnd (fillV [(.int .i64 0), (.int .i64 0), (.int .i64 0), (.int .i64 0), (.bool false), (.int .i64 0)] [(5, 1, a0)]) fun c4 =>
 newV 270 ((.agg c4.toArray) : Value).cells.toList h2 fun v5 h6 =>
 K (.tuple #[v5, (.int .i64 0)]) h6)
def A161 : Ann := ⟨fun _ => ([], []), fun _ => []⟩
theorem S161_T {a0 : Value} {h : GH} {K : Value → GH → Prop} (g : S161 a0 h K) : T Tryz.prog 161 [a0] h K :=
  T_of_gwp (A := A161) Tryz.func161 (c := bodyOf Tryz.f161) (by kernel_rfl) (by kernel_rfl) (by kernel_rfl) (by kernel_rfl) (by kernel_rfl) (Eq.mp (by kernel_rfl) g)
def S162 (a0 a1 : Value) (h : GH) (K : Value → GH → Prop) : Prop :=
 newV 128 (a0 : Value).cells.toList h fun v1 h2 =>
 newV 34 (a1 : Value).cells.toList h2 fun v3 h4 =>
 bnd (ldV 1 false v1 h4) fun v5 =>
 bnd (eqK .ptr true v5 (.pointer none)) fun b6 =>
 ifV (.bool b6) (
 K (.tuple #[(.bool false), (.int .i64 1)]) h4) (
 bnd (ldV 1 false v1 h4) fun v7 =>
 bnd (ncV v7) fun v8 =>
 bnd (faV 0 v8) fun v9 =>
 bnd (ldV 1 false v3 h4) fun v10 =>
 T Tryz.prog 186 [v9, v10, (.func (.func 187) #[] #[v1, v3])] h4 fun v11 h12 =>
 bnd (exV v11 0) fun v13 =>
 bnd (exV v11 1) fun v14 =>
 K (.tuple #[v13, v14]) h12)
def A162 : Ann := ⟨fun | 3 => ([0, 1, 2, 3, 4, 5, 6, 7, 8, 9], [0, 1, 3, 0, 0, 31, 63, 63, 255, 511]) | _ => ([], []), fun _ => []⟩
theorem S162_T {a0 a1 : Value} {h : GH} {K : Value → GH → Prop} (g : S162 a0 a1 h K) : T Tryz.prog 162 [a0, a1] h K :=
  T_of_gwp (A := A162) Tryz.func162 (c := bodyOf Tryz.f162) (by kernel_rfl) (by kernel_rfl) (by kernel_rfl) (by kernel_rfl) (by kernel_rfl) (Eq.mp (by kernel_rfl) g)
def S163_j1 (x5 : Value) (h : GH) (K : Value → GH → Prop)  : Prop :=
 bnd (eqK .iface true x5 .nilIface) fun b1 =>
 ifV (.bool b1) (
 K .nilIface h) (
 T Tryz.prog 191 [x5] h fun v2 h3 =>
 bnd (unV .not v2) fun v4 =>
 ifV v4 (
 K .nilIface h3) (
 K x5 h3))
def S163 (a0 : Value) (h : GH) (K : Value → GH → Prop) : Prop :=
 bnd (binV .lss a0 (.int .i64 0)) fun v1 =>
 ifV v1 (
 K .nilIface h) (
 bnd (binV .quo a0 (.int .i64 4)) fun v2 =>
 bnd (binV .rem a0 (.int .i64 4)) fun v3 =>
 bnd (eqI v3 (.int .i64 0)) fun b4 =>
 ifV (.bool b4) (
 S163_j1 (.iface 178 v2) h K ) (
 bnd (eqI v3 (.int .i64 2)) fun b5 =>
 ifV (.bool b5) (
 callV Tryz.prog (.func (.func 190) #[] #[]) [v2] h fun v6 h7 =>
 S163_j1 (.iface 133 v6) h7 K ) (
 bnd (eqI v3 (.int .i64 1)) fun b8 =>
 ifV (.bool b8) (
 bnd (binV .rem v2 (.int .i64 1048576)) fun v9 =>
 bnd (fillV [(.int .i64 0), (.int .i64 0), (.int .i64 0), (.int .i64 0), (.int .i64 0)] [(4, 1, v9)]) fun c10 =>
 newV 277 [(.int .i64 0), (.int .i64 0), (.int .i64 0), (.int .i64 0), (.int .i64 0)] h fun v11 h12 =>
 bnd (stV 5 v11 (.agg c10.toArray) h12) fun h13 =>
 bnd (binV .quo v2 (.int .i64 1048576)) fun v14 =>
 bnd (binV .rem v14 (.int .i64 4)) fun v15 =>
 bnd (binV .quo v14 (.int .i64 4)) fun v16 =>
 bnd (faV 3 v11) fun v17 =>
 bnd (stV 1 v17 v15 h13) fun h18 =>
 bnd (binV .rem v16 (.int .i64 16)) fun v19 =>
 bnd (binV .quo v16 (.int .i64 16)) fun v20 =>
 bnd (faV 2 v11) fun v21 =>
 bnd (stV 1 v21 v19 h18) fun h22 =>
 callV Tryz.prog (.func (.func 190) #[] #[]) [v20] h22 fun v23 h24 =>
 bnd (faV 0 v11) fun v25 =>
 bnd (stV 2 v25 v23 h24) fun h26 =>
 bnd (ldV 5 true v11 h26) fun v27 =>
 S163_j1 (.iface 277 v27) h26 K ) (
 S163_j1 .nilIface h K ))))
def A163 : Ann := ⟨fun _ => ([], []), fun _ => []⟩
theorem S163_T {a0 : Value} {h : GH} {K : Value → GH → Prop} (g : S163 a0 h K) : T Tryz.prog 163 [a0] h K :=
  T_of_gwp (A := A163) Tryz.func163 (c := bodyOf Tryz.f163) (by kernel_rfl) (by kernel_rfl) (by kernel_rfl) (by kernel_rfl) (by kernel_rfl) (Eq.mp (by kernel_rfl) g)
def A169 : Ann := ⟨fun _ => ([], []), fun | 0 => [0, 3] | _ => []⟩
def A174 : Ann := ⟨fun | 1 => ([0, 1, 2, 3, 4, 5, 6, 7, 8, 9], [0, 1, 3, 7, 0, 16, 48, 112, 15, 511]) | _ => ([], []), fun _ => []⟩
def S178 (a0 : Value) (h : GH) (K : Value → GH → Prop) : Prop :=
 T Tryz.prog 136 [a0] h fun v1 h2 =>
 bnd (exV v1 0) fun v3 =>
 bnd (exV v1 1) fun v4 =>
 ifV v4 (
 bnd (binV .lss v3 (.int .i64 1073741823)) fun v5 =>
 K (.tuple #[v3, v5]) h2) (
 K (.tuple #[v3, (.bool false)]) h2)
def A178 : Ann := ⟨fun _ => ([], []), fun _ => []⟩
theorem S178_T {a0 : Value} {h : GH} {K : Value → GH → Prop} (g : S178 a0 h K) : T Tryz.prog 178 [a0] h K :=
  T_of_gwp (A := A178) Tryz.func178 (c := bodyOf Tryz.f178) (by kernel_rfl) (by kernel_rfl) (by kernel_rfl) (by kernel_rfl) (by kernel_rfl) (Eq.mp (by kernel_rfl) g)
def S179 (a0 a1 : Value) (h : GH) (K : Value → GH → Prop) : Prop :=
 bnd (lnV a0) fun v1 =>
 Lfp (fun (s2 : Nat → Value) h3 again4 =>
 bnd (binV .lss (s2 3) (s2 2)) fun v5 =>
 ifV v5 (
 bnd (isV 2 (s2 0) (s2 3)) fun v6 =>
 bnd (ldV 2 true v6 h3) fun v7 =>
 callV Tryz.prog (s2 1) [v7] h3 fun v8 h9 =>
 ifV v8 (
 K (s2 3) h9) (
 bnd (binV .add (s2 3) (.int .i64 1)) fun v10 =>
 again4 (tup [(s2 0), (s2 1), (s2 2), v10]) h9)) (
 K (.int .i64 (-1)) h3)) (tup [a0, a1, v1, (.int .i64 0)]) h
def A179 : Ann := ⟨fun _ => ([], []), fun | 0 => [0, 1, 7, 8] | _ => []⟩
theorem S179_T {a0 a1 : Value} {h : GH} {K : Value → GH → Prop} (g : S179 a0 a1 h K) : T Tryz.prog 179 [a0, a1] h K :=
  T_of_gwp (A := A179) Tryz.func179 (c := bodyOf Tryz.f179) (by kernel_rfl) (by kernel_rfl) (by kernel_rfl) (by kernel_rfl) (by kernel_rfl) (Eq.mp (by kernel_rfl) g)
def S180 (a0 a1 : Value) (h : GH) (K : Value → GH → Prop) : Prop :=
 bnd (ncV a0) fun v1 =>
 bnd (faV 0 v1) fun v2 =>
 bnd (ldV 1 false v2 h) fun v3 =>
 bnd (ncV a0) fun v4 =>
 bnd (faV 2 v4) fun v5 =>
 bnd (ldV 1 false v5 h) fun v6 =>
 bnd (ncV v6) fun v7 =>
 bnd (iaV 12 1 v7 a1) fun v8 =>
 bnd (ldV 1 false v8 h) fun v9 =>
 bnd (binV .add v9 (.int .i64 1)) fun v10 =>
 bnd (ncV v6) fun v11 =>
 bnd (iaV 12 1 v11 a1) fun v12 =>
 bnd (stV 1 v12 v10 h) fun h13 =>
 bnd (ncV v3) fun v14 =>
 bnd (faV 14 v14) fun v15 =>
 bnd (stV 1 v15 a1 h13) fun h16 =>
 bnd (ncV v3) fun v17 =>
 bnd (faV 0 v17) fun v18 =>
 bnd (ldV 1 false v18 h16) fun v19 =>
 bnd (ncV v3) fun v20 =>
 bnd (faV 10 v20) fun v21 =>
 bnd (ldV 1 false v21 h16) fun v22 =>
 bnd (ncV a0) fun v23 =>
 bnd (faV 2 v23) fun v24 =>
 bnd (ldV 1 false v24 h16) fun v25 =>
 bnd (ncV v25) fun v26 =>
 bnd (iaV 12 1 v26 a1) fun v27 =>
 bnd (ldV 1 false v27 h16) fun v28 =>
 bnd (ncV v3) fun v29 =>
 bnd (faV 4 v29) fun v30 =>
 bnd (ldV 1 false v30 h16) fun v31 =>
 T Tryz.prog 139 [v3] h16 fun v32 h33 =>
 ldV 1 false v30 h33 = some v31 ∧
 ldV 1 false v27 h33 = some v28 ∧
 ldV 1 false v24 h33 = some v25 ∧
 ldV 1 false v21 h33 = some v22 ∧
 ldV 1 false v18 h33 = some v19 ∧
 bnd (ncV v32) fun v34 =>
 bnd (faV 1 v34) fun v35 =>
 bnd (ldV 1 false v35 h33) fun v36 =>
 bnd (isV 1 v31 v36) fun v37 =>
 bnd (faV 0 v37) fun v38 =>
 bnd (ldV 1 false v38 h33) fun v39 =>
 T Tryz.prog 200 [v19, v22, a1, v28, v39] h33 fun v40 h41 =>
 bnd (exV v40 0) fun v42 =>
 bnd (exV v40 1) fun v43 =>
 bnd (ncV v3) fun v44 =>
 bnd (faV 18 v44) fun v45 =>
 bnd (stV 1 v45 v42 h41) fun h46 =>
 bnd (ncV v3) fun v47 =>
 bnd (faV 6 v47) fun v48 =>
 bnd (stV 1 v48 (.func (.func 181) #[] #[]) h46) fun h49 =>
 K (.tuple #[]) h49
def A180 : Ann := ⟨fun | 1 => ([0, 1, 2, 3, 4, 5, 6, 7, 8, 9, 10, 11], [0, 1, 3, 7, 0, 15, 63, 127, 255, 15, 1023, 2047]) | 3 => ([0, 1, 2, 3, 4, 5, 6, 7, 8, 9, 10, 11, 12, 13, 14, 15, 16, 17, 18, 19, 20, 21, 22, 23, 24, 25, 26, 27, 28, 29, 30, 31, 32, 33, 34, 35, 36], [0, 0, 2, 6, 14, 0, 32, 96, 224, 0, 0, 1024, 3072, 7168, 0, 15360, 64512, 130048, 0, 262144, 786432, 1835008, 0, 4194304, 12582912, 29360128, 62914560, 133955584, 268173312, 536608768, 1073741822, 2147483646, 4294967294, 4294967294, 8589934591, 25769803775, 60129542143]) | _ => ([], []), fun _ => []⟩
theorem S180_T {a0 a1 : Value} {h : GH} {K : Value → GH → Prop} (g : S180 a0 a1 h K) : T Tryz.prog 180 [a0, a1] h K :=
  T_of_gwp (A := A180) Tryz.func180 (c := bodyOf Tryz.f180) (by kernel_rfl) (by kernel_rfl) (by kernel_rfl) (by kernel_rfl) (by kernel_rfl) (Eq.mp (by kernel_rfl) g)
def S181 (a0 : Value) (h : GH) (K : Value → GH → Prop) : Prop :=
 bnd (ncV a0) fun v1 =>
 bnd (faV 0 v1) fun v2 =>
 bnd (ldV 1 false v2 h) fun v3 =>
 bnd (ncV v3) fun v4 =>
 bnd (faV 18 v4) fun v5 =>
 bnd (ldV 1 false v5 h) fun v6 =>
 bnd (eqK .ptr true v6 (.pointer none)) fun b7 =>
 ifV (.bool b7) (
 K (.int .i64 1800) h) (
 bnd (ncV v3) fun v8 =>
 bnd (faV 18 v8) fun v9 =>
 bnd (ldV 1 false v9 h) fun v10 =>
 bnd (ncV a0) fun v11 =>
 bnd (faV 1 v11) fun v12 =>
 bnd (ldV 1 false v12 h) fun v13 =>
 T Tryz.prog 201 [v10, v13] h fun v14 h15 =>
 bnd (exV v14 0) fun v16 =>
 bnd (exV v14 1) fun v17 =>
 bnd (ncV v3) fun v18 =>
 bnd (faV 18 v18) fun v19 =>
 bnd (ldV 1 false v19 h15) fun v20 =>
 T Tryz.prog 202 [v20] h15 fun v21 h22 =>
 bnd (exV v21 0) fun v23 =>
 bnd (exV v21 1) fun v24 =>
 bnd (ncV v3) fun v25 =>
 bnd (faV 21 v25) fun v26 =>
 bnd (faV 0 v26) fun v27 =>
 bnd (stV 1 v27 v23 h22) fun h28 =>
 bnd (ncV v3) fun v29 =>
 bnd (faV 21 v29) fun v30 =>
 bnd (faV 1 v30) fun v31 =>
 bnd (stV 1 v31 v24 h28) fun h32 =>
 bnd (ncV v3) fun v33 =>
 bnd (faV 18 v33) fun v34 =>
 bnd (ldV 1 false v34 h32) fun v35 =>
 T Tryz.prog 203 [v35] h32 fun v36 h37 =>
 bnd (ncV v3) fun v38 =>
 bnd (faV 10 v38) fun v39 =>
 bnd (stV 1 v39 v36 h37) fun h40 =>
 ifV v16 (
 bnd (ncV v3) fun v41 =>
 bnd (faV 6 v41) fun v42 =>
 bnd (stV 1 v42 (.func (.func 204) #[] #[]) h40) fun h43 =>
 K v17 h43) (
 K v17 h40))
def A181 : Ann := ⟨fun | 4 => ([0, 1, 2, 3, 4, 5, 6, 7, 8, 9, 10, 11, 12, 13], [0, 1, 3, 7, 0, 16, 48, 112, 255, 511, 1023, 1023, 2047, 8191]) | _ => ([], []), fun _ => []⟩
theorem S181_T {a0 : Value} {h : GH} {K : Value → GH → Prop} (g : S181 a0 h K) : T Tryz.prog 181 [a0] h K :=
  T_of_gwp (A := A181) Tryz.func181 (c := bodyOf Tryz.f181) (by kernel_rfl) (by kernel_rfl) (by kernel_rfl) (by kernel_rfl) (by kernel_rfl) (Eq.mp (by kernel_rfl) g)
def S182 (h : GH) (K : Value → GH → Prop) : Prop :=
 bnd (fillV [(.int .i64 0), (.int .i64 0), (.int .i64 0), (.int .i64 0), (.bool false), (.int .i64 0), (.int .i64 0)] [(6, 1, (.int .i64 (-1)))]) fun c1 =>
 newV 290 ((.agg c1.toArray) : Value).cells.toList h fun v2 h3 =>
 K v2 h3
def A182 : Ann := ⟨fun _ => ([], []), fun _ => []⟩
theorem S182_T {h : GH} {K : Value → GH → Prop} (g : S182 h K) : T Tryz.prog 182 [] h K :=
  T_of_gwp (A := A182) Tryz.func182 (c := bodyOf Tryz.f182) (by kernel_rfl) (by kernel_rfl) (by kernel_rfl) (by kernel_rfl) (by kernel_rfl) (Eq.mp (by kernel_rfl) g)
def S183 (a0 a1 : Value) (h : GH) (K : Value → GH → Prop) : Prop :=
 newV 129 (a0 : Value).cells.toList h fun v1 h2 =>
 newV 34 (a1 : Value).cells.toList h2 fun v3 h4 =>
 bnd (ldV 1 false v1 h4) fun v5 =>
 bnd (eqK .ptr true v5 (.pointer none)) fun b6 =>
 ifV (.bool b6) (
 K (.tuple #[(.bool false), (.int .i64 1)]) h4) (
 bnd (ldV 1 false v1 h4) fun v7 =>
 bnd (ncV v7) fun v8 =>
 bnd (faV 0 v8) fun v9 =>
 bnd (ldV 1 false v3 h4) fun v10 =>
 T Tryz.prog 186 [v9, v10, (.func (.func 205) #[] #[v1, v3])] h4 fun v11 h12 =>
 bnd (exV v11 0) fun v13 =>
 bnd (exV v11 1) fun v14 =>
 K (.tuple #[v13, v14]) h12)
def A183 : Ann := ⟨fun | 3 => ([0, 1, 2, 3, 4, 5, 6, 7, 8, 9], [0, 1, 3, 0, 0, 31, 63, 63, 255, 511]) | _ => ([], []), fun _ => []⟩
theorem S183_T {a0 a1 : Value} {h : GH} {K : Value → GH → Prop} (g : S183 a0 a1 h K) : T Tryz.prog 183 [a0, a1] h K :=
  T_of_gwp (A := A183) Tryz.func183 (c := bodyOf Tryz.f183) (by kernel_rfl) (by kernel_rfl) (by kernel_rfl) (by kernel_rfl) (by kernel_rfl) (Eq.mp (by kernel_rfl) g)
def S184 (a0 : Value) (h : GH) (K : Value → GH → Prop) : Prop :=
 bnd (eqK .ptr true a0 (.pointer none)) fun b1 =>
 ifV (.bool b1) (
 K (.int .i64 0) h) (
 bnd (ncV a0) fun v2 =>
 bnd (faV 6 v2) fun v3 =>
 bnd (ldV 1 false v3 h) fun v4 =>
 K v4 h)
def A184 : Ann := ⟨fun _ => ([], []), fun _ => []⟩
theorem S184_T {a0 : Value} {h : GH} {K : Value → GH → Prop} (g : S184 a0 h K) : T Tryz.prog 184 [a0] h K :=
  T_of_gwp (A := A184) Tryz.func184 (c := bodyOf Tryz.f184) (by kernel_rfl) (by kernel_rfl) (by kernel_rfl) (by kernel_rfl) (by kernel_rfl) (Eq.mp (by kernel_rfl) g)
def S185 (a0 : Value) (h : GH) (K : Value → GH → Prop) : Prop :=
 bnd (ncV a0) fun v1 =>
 bnd (faV 0 v1) fun v2 =>
 bnd (ldV 1 false v2 h) fun v3 =>
 bnd (ncV v3) fun v4 =>
 bnd (faV 1 v4) fun v5 =>
 bnd (ldV 1 false v5 h) fun v6 =>
 T Tryz.prog 206 [v6] h fun v7 h8 =>
 bnd (exV v7 0) fun v9 =>
 bnd (exV v7 1) fun v10 =>
 bnd (ncV v3) fun v11 =>
 bnd (faV 19 v11) fun v12 =>
 bnd (stV 1 v12 v9 h8) fun h13 =>
 bnd (ncV v3) fun v14 =>
 bnd (faV 6 v14) fun v15 =>
 bnd (stV 1 v15 (.func (.func 207) #[] #[]) h13) fun h16 =>
 bnd (ncV a0) fun v17 =>
 bnd (faV 1 v17) fun v18 =>
 bnd (ldV 1 false v18 h16) fun v19 =>
 bnd (ncV v3) fun v20 =>
 bnd (faV 0 v20) fun v21 =>
 bnd (ldV 1 false v21 h16) fun v22 =>
 T Tryz.prog 208 [v19, v22] h16 fun v23 h24 =>
 K v23 h24
def A185 : Ann := ⟨fun | 4 => ([0, 1, 2, 3, 4, 5, 6, 7, 8, 9], [0, 1, 3, 7, 0, 16, 48, 112, 255, 511]) | _ => ([], []), fun _ => []⟩
theorem S185_T {a0 : Value} {h : GH} {K : Value → GH → Prop} (g : S185 a0 h K) : T Tryz.prog 185 [a0] h K :=
  T_of_gwp (A := A185) Tryz.func185 (c := bodyOf Tryz.f185) (by kernel_rfl) (by kernel_rfl) (by kernel_rfl) (by kernel_rfl) (by kernel_rfl) (Eq.mp (by kernel_rfl) g)
def S186 (a0 a1 a2 : Value) (h : GH) (K : Value → GH → Prop) : Prop :=
 bnd (eqK .ptr true a1 (.pointer none)) fun b1 =>
 ifV (.bool b1) (
 K (.tuple #[(.bool false), (.int .i64 1)]) h) (
 bnd (ncV a0) fun v2 =>
 bnd (faV 4 v2) fun v3 =>
 bnd (ldV 1 false v3 h) fun v4 =>
 ifV v4 (
 K (.tuple #[(.bool true), (.int .i64 0)]) h) (
 callV Tryz.prog a2 [] h fun v5 h6 =>
 bnd (ncV a0) fun v7 =>
 bnd (faV 4 v7) fun v8 =>
 bnd (ldV 1 false v8 h6) fun v9 =>
 ifV v9 (
 bnd (ncV a0) fun v10 =>
 bnd (faV 4 v10) fun v11 =>
 bnd (stV 1 v11 (.bool true) h6) fun h12 =>
 bnd (ncV a0) fun v13 =>
 bnd (faV 4 v13) fun v14 =>
 bnd (ldV 1 false v14 h12) fun v15 =>
 K (.tuple #[v15, v5]) h12) (
 bnd (eqI v5 (.int .i64 0)) fun b16 =>
 bnd (ncV a0) fun v17 =>
 bnd (faV 4 v17) fun v18 =>
 bnd (stV 1 v18 (.bool (!b16)) h6) fun h19 =>
 bnd (ncV a0) fun v20 =>
 bnd (faV 4 v20) fun v21 =>
 bnd (ldV 1 false v21 h19) fun v22 =>
 K (.tuple #[v22, v5]) h19)))
def A186 : Ann := ⟨fun _ => ([], []), fun _ => []⟩
theorem S186_T {a0 a1 a2 : Value} {h : GH} {K : Value → GH → Prop} (g : S186 a0 a1 a2 h K) : T Tryz.prog 186 [a0, a1, a2] h K :=
  T_of_gwp (A := A186) Tryz.func186 (c := bodyOf Tryz.f186) (by kernel_rfl) (by kernel_rfl) (by kernel_rfl) (by kernel_rfl) (by kernel_rfl) (Eq.mp (by kernel_rfl) g)
def S187 (a0 a1 : Value) (h : GH) (K : Value → GH → Prop) : Prop :=
 bnd (ldV 1 false a0 h) fun v1 =>
 bnd (ncV v1) fun v2 =>
 bnd (faV 0 v2) fun v3 =>
 bnd (faV 0 v3) fun v4 =>
 bnd (ldV 1 false v4 h) fun v5 =>
 bnd (eqI v5 (.int .i64 0)) fun b6 =>
 ifV (.bool b6) (
 bnd (ldV 1 false a0 h) fun v7 =>
 bnd (ncV v7) fun v8 =>
 bnd (faV 0 v8) fun v9 =>
 bnd (ldV 1 false a1 h) fun v10 =>
 T Tryz.prog 188 [v9, v10] h fun v11 h12 =>
 bnd (unV .not v11) fun v13 =>
 ifV v13 (
 K (.int .i64 1000) h12) (
 K (.int .i64 0) h12)) (
 bnd (eqI v5 (.int .i64 1)) fun b14 =>
 ifV (.bool b14) (
 bnd (ldV 1 false a1 h) fun v15 =>
 bnd (ldV 1 false a0 h) fun v16 =>
 bnd (ncV v16) fun v17 =>
 bnd (faV 5 v17) fun v18 =>
 bnd (ldV 1 false v18 h) fun v19 =>
 bnd (binV .add (.int .i64 17) v19) fun v20 =>
 bnd (ldV 1 false a0 h) fun v21 =>
 bnd (ncV v21) fun v22 =>
 bnd (faV 0 v22) fun v23 =>
 bnd (faV 2 v23) fun v24 =>
 bnd (faV 1 v24) fun v25 =>
 bnd (ldV 1 false v25 h) fun v26 =>
 T Tryz.prog 78 [v26] h fun v27 h28 =>
 ldV 1 false v18 h28 = some v19 ∧
 ldV 1 false a0 h28 = some v16 ∧
 ldV 1 false a1 h28 = some v15 ∧
 T Tryz.prog 35 [v15, v20, v27] h28 fun v29 h30 =>
 bnd (ldV 1 false a0 h30) fun v31 =>
 bnd (ncV v31) fun v32 =>
 bnd (faV 0 v32) fun v33 =>
 bnd (faV 0 v33) fun v34 =>
 bnd (stV 1 v34 (.int .i64 2) h30) fun h35 =>
 K (.int .i64 0) h35) (
 bnd (ldV 1 false a0 h) fun v36 =>
 bnd (ldV 1 false a0 h) fun v37 =>
 bnd (ncV v37) fun v38 =>
 bnd (faV 0 v38) fun v39 =>
 bnd (ldV 1 false a1 h) fun v40 =>
 bnd (ldV 1 false a0 h) fun v41 =>
 bnd (ncV v41) fun v42 =>
 bnd (faV 5 v42) fun v43 =>
 bnd (ldV 1 false v43 h) fun v44 =>
 bnd (binV .add v44 (.int .i64 1)) fun v45 =>
 T Tryz.prog 189 [v39, v40, v45] h fun v46 h47 =>
 ldV 1 false a0 h47 = some v36 ∧
 bnd (ncV v36) fun v48 =>
 bnd (faV 0 v48) fun v49 =>
 bnd (faV 4 v49) fun v50 =>
 bnd (stV 1 v50 v46 h47) fun h51 =>
 K (.int .i64 0) h51))
def A187 : Ann := ⟨fun | 2 => ([0, 1, 2, 3, 4, 5, 6, 7, 8, 9, 10, 11, 12, 13, 14], [0, 0, 2, 6, 0, 0, 32, 96, 224, 480, 1022, 2047, 4095, 8191, 16383]) | 4 => ([0, 1, 2, 3, 4, 5], [0, 1, 3, 0, 15, 31]) | 7 => ([0, 1, 2, 3, 4, 5, 6, 7, 8, 9, 10, 11, 12, 13], [0, 0, 2, 6, 14, 30, 0, 64, 192, 448, 960, 1984, 4032, 8191]) | _ => ([], []), fun _ => []⟩
theorem S187_T {a0 a1 : Value} {h : GH} {K : Value → GH → Prop} (g : S187 a0 a1 h K) : T Tryz.prog 187 [a0, a1] h K :=
  T_of_gwp (A := A187) Tryz.func187 (c := bodyOf Tryz.f187) (by kernel_rfl) (by kernel_rfl) (by kernel_rfl) (by kernel_rfl) (by kernel_rfl) (Eq.mp (by kernel_rfl) g)
def S188 (a0 a1 : Value) (h : GH) (K : Value → GH → Prop) : Prop :=
 T Tryz.prog 39 [a1, (.int .i64 16)] h fun v1 h2 =>
 bnd (exV v1 0) fun v3 =>
 bnd (exV v1 1) fun v4 =>
 bnd (ncV a0) fun v5 =>
 bnd (faV 1 v5) fun v6 =>
 bnd (stV 1 v6 v3 h2) fun h7 =>
 bnd (ncV a0) fun v8 =>
 bnd (faV 1 v8) fun v9 =>
 bnd (ldV 1 false v9 h7) fun v10 =>
 T Tryz.prog 123 [v10] h7 fun v11 h12 =>
 bnd (exV v11 0) fun v13 =>
 bnd (exV v11 1) fun v14 =>
 newV 190 [(.int .i64 0), (.int .i64 0)] h12 fun v15 h16 =>
 bnd (stV 2 v15 v13 h16) fun h17 =>
 bnd (ldV 2 true v15 h17) fun v18 =>
 bnd (ncV a0) fun v19 =>
 bnd (faV 2 v19) fun v20 =>
 bnd (stV 2 v20 v18 h17) fun h21 =>
 bnd (ncV a0) fun v22 =>
 bnd (faV 0 v22) fun v23 =>
 bnd (stV 1 v23 (.int .i64 1) h21) fun h24 =>
 K v14 h24
def A188 : Ann := ⟨fun _ => ([], []), fun _ => []⟩
theorem S188_T {a0 a1 : Value} {h : GH} {K : Value → GH → Prop} (g : S188 a0 a1 h K) : T Tryz.prog 188 [a0, a1] h K :=
  T_of_gwp (A := A188) Tryz.func188 (c := bodyOf Tryz.f188) (by kernel_rfl) (by kernel_rfl) (by kernel_rfl) (by kernel_rfl) (by kernel_rfl) (Eq.mp (by kernel_rfl) g)
def S189 (a0 a1 a2 : Value) (h : GH) (K : Value → GH → Prop) : Prop :=
 bnd (ncV a0) fun v1 =>
 bnd (faV 1 v1) fun v2 =>
 bnd (ldV 1 false v2 h) fun v3 =>
 bnd (ncV a0) fun v4 =>
 bnd (faV 2 v4) fun v5 =>
 bnd (ldV 2 true v5 h) fun v6 =>
 T Tryz.prog 210 [v6, a2] h fun v7 h8 =>
 ldV 1 false v2 h8 = some v3 ∧
 T Tryz.prog 209 [a1, (.int .i64 16), v3, v7] h8 fun v9 h10 =>
 bnd (exV v9 0) fun v11 =>
 bnd (exV v9 1) fun v12 =>
 bnd (ncV a0) fun v13 =>
 bnd (faV 0 v13) fun v14 =>
 bnd (stV 1 v14 (.int .i64 0) h10) fun h15 =>
 bnd (ncV a0) fun v16 =>
 bnd (faV 1 v16) fun v17 =>
 bnd (ldV 1 false v17 h15) fun v18 =>
 bnd (eqI v11 v18) fun b19 =>
 K (.bool b19) h15
def A189 : Ann := ⟨fun | 1 => ([0, 1, 2, 3, 4, 5, 6, 7, 8, 9, 10, 11, 12, 13, 14, 15, 16], [0, 0, 2, 6, 14, 0, 32, 96, 224, 0, 992, 2047, 4095, 8191, 8191, 16383, 65535]) | _ => ([], []), fun _ => []⟩
theorem S189_T {a0 a1 a2 : Value} {h : GH} {K : Value → GH → Prop} (g : S189 a0 a1 a2 h K) : T Tryz.prog 189 [a0, a1, a2] h K :=
  T_of_gwp (A := A189) Tryz.func189 (c := bodyOf Tryz.f189) (by kernel_rfl) (by kernel_rfl) (by kernel_rfl) (by kernel_rfl) (by kernel_rfl) (Eq.mp (by kernel_rfl) g)
def S190 (a0 : Value) (h : GH) (K : Value → GH → Prop) : Prop :=
 newV 133 [(.int .i64 0), (.int .i64 0)] h fun v1 h2 =>
 bnd (binV .rem a0 (.int .i64 16)) fun v3 =>
 bnd (binV .quo a0 (.int .i64 16)) fun v4 =>
 bnd (fillV [(.int .i64 0), (.int .i64 0)] [(0, 1, v3), (1, 1, v4)]) fun c5 =>
 bnd (stV 2 v1 (.agg c5.toArray) h2) fun h6 =>
 bnd (ldV 2 true v1 h6) fun v7 =>
 K v7 h6
def A190 : Ann := ⟨fun _ => ([], []), fun _ => []⟩
theorem S190_T {a0 : Value} {h : GH} {K : Value → GH → Prop} (g : S190 a0 h K) : T Tryz.prog 190 [a0] h K :=
  T_of_gwp (A := A190) Tryz.func190 (c := bodyOf Tryz.f190) (by kernel_rfl) (by kernel_rfl) (by kernel_rfl) (by kernel_rfl) (by kernel_rfl) (Eq.mp (by kernel_rfl) g)
def S191 (a0 : Value) (h : GH) (K : Value → GH → Prop) : Prop :=
 ivV Tryz.prog a0 "pawl/word.plain" [] h fun v1 h2 =>
 newV 225 [(.int .i64 0), (.int .i64 0), (.int .i64 0), (.int .i64 0), (.int .i64 0), (.int .i64 0), (.int .i64 0)] h2 fun v3 h4 =>
 bnd (stV 7 v3 v1 h4) fun h5 =>
 bnd (faV 1 v3) fun v6 =>
 bnd (ldV 1 false v6 h5) fun v7 =>
 T Tryz.prog 75 [v7, (.int .i64 1099511627776)] h5 fun v8 h9 =>
 ifV v8 (
 bnd (faV 2 v3) fun v10 =>
 bnd (ldV 1 false v10 h9) fun v11 =>
 T Tryz.prog 75 [v11, (.int .i64 12)] h9 fun v12 h13 =>
 ifV v12 (
 bnd (faV 3 v3) fun v14 =>
 bnd (ldV 1 false v14 h13) fun v15 =>
 T Tryz.prog 75 [v15, (.int .i64 65536)] h13 fun v16 h17 =>
 ifV v16 (
 bnd (faV 4 v3) fun v18 =>
 bnd (ldV 1 false v18 h17) fun v19 =>
 T Tryz.prog 75 [v19, (.int .i64 16)] h17 fun v20 h21 =>
 ifV v20 (
 bnd (faV 5 v3) fun v22 =>
 bnd (ldV 1 false v22 h21) fun v23 =>
 T Tryz.prog 75 [v23, (.int .i64 4)] h21 fun v24 h25 =>
 ifV v24 (
 bnd (faV 6 v3) fun v26 =>
 bnd (ldV 1 false v26 h25) fun v27 =>
 T Tryz.prog 75 [v27, (.int .i64 1048576)] h25 fun v28 h29 =>
 K v28 h29) (
 K (.bool false) h25)) (
 K (.bool false) h21)) (
 K (.bool false) h17)) (
 K (.bool false) h13)) (
 K (.bool false) h9)
def A191 : Ann := ⟨fun _ => ([], []), fun _ => []⟩
theorem S191_T {a0 : Value} {h : GH} {K : Value → GH → Prop} (g : S191 a0 h K) : T Tryz.prog 191 [a0] h K :=
  T_of_gwp (A := A191) Tryz.func191 (c := bodyOf Tryz.f191) (by kernel_rfl) (by kernel_rfl) (by kernel_rfl) (by kernel_rfl) (by kernel_rfl) (Eq.mp (by kernel_rfl) g)
def S200_j1 (x0 x1 x2 x3 x4 x12 : Value) (h : GH) (K : Value → GH → Prop)  : Prop :=
 bnd (fillV [(.int .i64 0), (.int .i64 0)] [(0, 1, x2), (1, 1, x3)]) fun c1 =>
 bnd (ldV 50 true x12 h) fun v2 =>
 T Tryz.prog 77 [x4] h fun v3 h4 =>
 ldV 50 true x12 h4 = some v2 ∧
 bnd (fillV ([(.int .i64 0), (.int .i64 0), (.int .i64 0), (.int .i64 0), (.slice none 0 0), (.int .i64 0)] ++ List.replicate 16 (.bool false) ++ List.replicate 32 (.int .i64 0) ++ [(.slice none 0 0), .nilIface, (.int .i64 0), (.int .i64 0), (.bool false), (.bool false), (.slice none 0 0)]) [(0, 1, x0), (1, 1, x1), (2, 2, (.agg c1.toArray)), (4, 1, v3), (5, 50, v2), (56, 1, (.int .i64 (-1)))]) fun c5 =>
 newV 322 ((.agg c5.toArray) : Value).cells.toList h4 fun v6 h7 =>
 T Tryz.prog 222 [v6] h7 fun v8 h9 =>
 bnd (ncV v6) fun v10 =>
 bnd (faV 55 v10) fun v11 =>
 bnd (stV 1 v11 v8 h9) fun h12 =>
 K (.tuple #[v6, (.int .i64 0)]) h12
def S200 (a0 a1 a2 a3 a4 : Value) (h : GH) (K : Value → GH → Prop) : Prop :=
 bnd (fillV (List.replicate 16 (.bool false) ++ List.replicate 32 (.int .i64 0)) []) fun c1 =>
 T Tryz.prog 220 [(.agg c1.toArray), a4] h fun v2 h3 =>
 bnd (exV v2 0) fun v4 =>
 bnd (exV v2 1) fun v5 =>
 newV 298 ([(.int .i64 0)] ++ List.replicate 16 (.bool false) ++ List.replicate 32 (.int .i64 0) ++ [(.slice none 0 0)]) h3 fun v6 h7 =>
 bnd (stV 50 v6 v4 h7) fun h8 =>
 T Tryz.prog 131 [a0] h8 fun v9 h10 =>
 bnd (unV .not v9) fun v11 =>
 ifV v11 (
 K (.tuple #[(.pointer none), (.int .i64 1700)]) h10) (
 T Tryz.prog 75 [a1, (.int .i64 1048576)] h10 fun v12 h13 =>
 bnd (unV .not v12) fun v14 =>
 ifV v14 (
 K (.tuple #[(.pointer none), (.int .i64 1700)]) h13) (
 T Tryz.prog 221 [a2, a3] h13 fun v15 h16 =>
 bnd (unV .not v15) fun v17 =>
 ifV v17 (
 K (.tuple #[(.pointer none), (.int .i64 1700)]) h16) (
 bnd (eqI v5 (.int .i64 0)) fun b18 =>
 ifV (.bool (!b18)) (
 K (.tuple #[(.pointer none), (.int .i64 1700)]) h16) (
 S200_j1 a0 a1 a2 a3 a4 v6 h16 K ))))
def A200 : Ann := ⟨fun | 4 => ([0, 1, 2, 3, 4, 5, 7, 6, 8, 9, 10], [0, 0, 0, 0, 12, 0, 32, 0, 255, 511, 1023]) | _ => ([], []), fun _ => []⟩
theorem S200_T {a0 a1 a2 a3 a4 : Value} {h : GH} {K : Value → GH → Prop} (g : S200 a0 a1 a2 a3 a4 h K) : T Tryz.prog 200 [a0, a1, a2, a3, a4] h K :=
  T_of_gwp (A := A200) Tryz.func200 (c := bodyOf Tryz.f200) (by kernel_rfl) (by kernel_rfl) (by kernel_rfl) (by kernel_rfl) (by kernel_rfl) (Eq.mp (by kernel_rfl) g)
def S201_j3 (x0 x6 x7 : Value) (h : GH) (K : Value → GH → Prop)  : Prop :=
 bnd (eqI x7 (.int .i64 0)) fun b1 =>
 ifV (.bool (!b1)) (
 bnd (ncV x0) fun v2 =>
 bnd (faV 59 v2) fun v3 =>
 bnd (stV 1 v3 (.bool true) h) fun h4 =>
 K (.tuple #[(.bool true), (.int .i64 1700)]) h4) (
 bnd (unV .not x6) fun v5 =>
 ifV v5 (
 K (.tuple #[(.bool false), (.int .i64 0)]) h) (
 bnd (ncV x0) fun v6 =>
 bnd (faV 55 v6) fun v7 =>
 bnd (ldV 1 false v7 h) fun v8 =>
 bnd (taV 327 (.pointer none) true v8) fun v9 =>
 bnd (exV v9 1) fun v10 =>
 bnd (exV v9 0) fun v11 =>
 ifV v10 (
 T Tryz.prog 223 [x0, v11] h fun v12 h13 =>
 bnd (ncV x0) fun v14 =>
 bnd (faV 59 v14) fun v15 =>
 bnd (ldV 1 false v15 h13) fun v16 =>
 K (.tuple #[v16, (.int .i64 0)]) h13) (
 bnd (taV 329 (.pointer none) true v8) fun v17 =>
 bnd (exV v17 1) fun v18 =>
 bnd (exV v17 0) fun v19 =>
 ifV v18 (
 bnd (ncV x0) fun v20 =>
 bnd (faV 0 v20) fun v21 =>
 bnd (ldV 1 false v21 h) fun v22 =>
 bnd (ncV x0) fun v23 =>
 bnd (faV 1 v23) fun v24 =>
 bnd (ldV 1 false v24 h) fun v25 =>
 bnd (ncV x0) fun v26 =>
 bnd (faV 2 v26) fun v27 =>
 bnd (ldV 2 true v27 h) fun v28 =>
 T Tryz.prog 225 [(.iface 133 v28)] h fun v29 h30 =>
 ldV 1 false v24 h30 = some v25 ∧
 ldV 1 false v21 h30 = some v22 ∧
 T Tryz.prog 224 [v22, v25, v29] h30 fun v31 h32 =>
 bnd (exV v31 0) fun v33 =>
 bnd (exV v31 1) fun v34 =>
 bnd (ncV x0) fun v35 =>
 bnd (faV 55 v35) fun v36 =>
 bnd (stV 1 v36 (.iface 330 v33) h32) fun h37 =>
 bnd (ncV x0) fun v38 =>
 bnd (faV 59 v38) fun v39 =>
 bnd (ldV 1 false v39 h37) fun v40 =>
 K (.tuple #[v40, (.int .i64 0)]) h37) (
 bnd (taV 330 (.pointer none) true v8) fun v41 =>
 bnd (exV v41 1) fun v42 =>
 bnd (exV v41 0) fun v43 =>
 ifV v42 (
 T Tryz.prog 226 [v43] h fun v44 h45 =>
 bnd (ncV x0) fun v46 =>
 bnd (faV 58 v46) fun v47 =>
 bnd (stV 1 v47 v44 h45) fun h48 =>
 bnd (ncV x0) fun v49 =>
 bnd (faV 59 v49) fun v50 =>
 bnd (stV 1 v50 (.bool true) h48) fun h51 =>
 bnd (ncV x0) fun v52 =>
 bnd (faV 59 v52) fun v53 =>
 bnd (ldV 1 false v53 h51) fun v54 =>
 K (.tuple #[v54, (.int .i64 0)]) h51) (
 bnd (ncV x0) fun v55 =>
 bnd (faV 59 v55) fun v56 =>
 bnd (ldV 1 false v56 h) fun v57 =>
 K (.tuple #[v57, (.int .i64 0)]) h)))))
def S201_j2 (x0 x1 : Value) (h : GH) (K : Value → GH → Prop)  : Prop :=
 bnd (ncV x0) fun v1 =>
 bnd (faV 55 v1) fun v2 =>
 bnd (ldV 1 false v2 h) fun v3 =>
 ivV Tryz.prog v3 "Step" [x1] h fun v4 h5 =>
 bnd (exV v4 0) fun v6 =>
 bnd (exV v4 1) fun v7 =>
 bnd (ncV x0) fun v8 =>
 bnd (faV 2 v8) fun v9 =>
 bnd (faV 0 v9) fun v10 =>
 bnd (ldV 1 false v10 h5) fun v11 =>
 bnd (ncV x0) fun v12 =>
 bnd (faV 2 v12) fun v13 =>
 bnd (faV 1 v13) fun v14 =>
 bnd (ldV 1 false v14 h5) fun v15 =>
 bnd (ncV x0) fun v16 =>
 bnd (faV 56 v16) fun v17 =>
 bnd (stV 1 v17 v11 h5) fun h18 =>
 bnd (ncV x0) fun v19 =>
 bnd (faV 57 v19) fun v20 =>
 bnd (stV 1 v20 v15 h18) fun h21 =>
 bnd (ncV x0) fun v22 =>
 bnd (faV 55 v22) fun v23 =>
 bnd (ldV 1 false v23 h21) fun v24 =>
 bnd (tiV Tryz.prog #[("Seq", 179), ("Step", 202), ("Through", 48)] .nilIface true v24) fun v25 =>
 bnd (exV v25 0) fun v26 =>
 bnd (exV v25 1) fun v27 =>
 ifV v27 (
 ivV Tryz.prog v26 "Through" [] h21 fun v28 h29 =>
 bnd (exV v28 0) fun v30 =>
 bnd (exV v28 1) fun v31 =>
 bnd (ncV x0) fun v32 =>
 bnd (faV 56 v32) fun v33 =>
 bnd (stV 1 v33 v30 h29) fun h34 =>
 bnd (ncV x0) fun v35 =>
 bnd (faV 57 v35) fun v36 =>
 bnd (stV 1 v36 v31 h34) fun h37 =>
 ivV Tryz.prog v26 "Seq" [] h37 fun v38 h39 =>
 bnd (ncV x0) fun v40 =>
 bnd (faV 1 v40) fun v41 =>
 bnd (stV 1 v41 v38 h39) fun h42 =>
 S201_j3 x0 v6 v7 h42 K ) (
 S201_j3 x0 v6 v7 h21 K )
def S201_j1 (x0 x1 x15 : Value) (h : GH) (K : Value → GH → Prop)  : Prop :=
 ifV x15 (
 K (.tuple #[(.bool false), (.int .i64 1)]) h) (
 bnd (ncV x0) fun v1 =>
 bnd (faV 59 v1) fun v2 =>
 bnd (ldV 1 false v2 h) fun v3 =>
 ifV v3 (
 K (.tuple #[(.bool true), (.int .i64 0)]) h) (
 S201_j2 x0 x1 h K ))
def S201 (a0 a1 : Value) (h : GH) (K : Value → GH → Prop) : Prop :=
 bnd (eqK .ptr true a0 (.pointer none)) fun b1 =>
 ifV (.bool b1) (
 S201_j1 a0 a1 (.bool true) h K ) (
 bnd (eqK .ptr true a1 (.pointer none)) fun b2 =>
 S201_j1 a0 a1 (.bool b2) h K )
def A201 : Ann := ⟨fun | 6 => ([0, 1, 2, 3, 4, 5, 6, 7, 8, 9, 10, 11, 12, 13, 14, 15, 16, 17], [0, 0, 0, 4, 12, 28, 60, 0, 128, 384, 896, 1920, 4093, 8189, 16381, 32767, 65535, 131071]) | 22 => ([0, 1, 2, 3, 4, 5, 6, 7, 8, 9, 10, 11, 12, 13, 14, 15, 16, 17, 18, 19], [0, 1, 3, 7, 0, 16, 48, 112, 0, 256, 768, 1792, 3840, 7936, 16383, 32767, 65535, 65535, 131071, 524287]) | _ => ([], []), fun _ => []⟩
theorem S201_T {a0 a1 : Value} {h : GH} {K : Value → GH → Prop} (g : S201 a0 a1 h K) : T Tryz.prog 201 [a0, a1] h K :=
  T_of_gwp (A := A201) Tryz.func201 (c := bodyOf Tryz.f201) (by kernel_rfl) (by kernel_rfl) (by kernel_rfl) (by kernel_rfl) (by kernel_rfl) (Eq.mp (by kernel_rfl) g)
def S202 (a0 : Value) (h : GH) (K : Value → GH → Prop) : Prop :=
 bnd (eqK .ptr true a0 (.pointer none)) fun b1 =>
 ifV (.bool b1) (
 K (.tuple #[(.int .i64 0), (.int .i64 0)]) h) (
 bnd (ncV a0) fun v2 =>
 bnd (faV 56 v2) fun v3 =>
 bnd (ldV 1 false v3 h) fun v4 =>
 bnd (ncV a0) fun v5 =>
 bnd (faV 57 v5) fun v6 =>
 bnd (ldV 1 false v6 h) fun v7 =>
 K (.tuple #[v4, v7]) h)
def A202 : Ann := ⟨fun | 3 => ([0, 1, 2, 3, 4, 5, 6, 7, 8, 9], [0, 1, 3, 7, 0, 16, 48, 112, 15, 511]) | _ => ([], []), fun _ => []⟩
theorem S202_T {a0 : Value} {h : GH} {K : Value → GH → Prop} (g : S202 a0 h K) : T Tryz.prog 202 [a0] h K :=
  T_of_gwp (A := A202) Tryz.func202 (c := bodyOf Tryz.f202) (by kernel_rfl) (by kernel_rfl) (by kernel_rfl) (by kernel_rfl) (by kernel_rfl) (Eq.mp (by kernel_rfl) g)
def S203 (a0 : Value) (h : GH) (K : Value → GH → Prop) : Prop :=
 bnd (eqK .ptr true a0 (.pointer none)) fun b1 =>
 ifV (.bool b1) (
 K (.int .i64 0) h) (
 bnd (ncV a0) fun v2 =>
 bnd (faV 1 v2) fun v3 =>
 bnd (ldV 1 false v3 h) fun v4 =>
 K v4 h)
def A203 : Ann := ⟨fun _ => ([], []), fun _ => []⟩
theorem S203_T {a0 : Value} {h : GH} {K : Value → GH → Prop} (g : S203 a0 h K) : T Tryz.prog 203 [a0] h K :=
  T_of_gwp (A := A203) Tryz.func203 (c := bodyOf Tryz.f203) (by kernel_rfl) (by kernel_rfl) (by kernel_rfl) (by kernel_rfl) (by kernel_rfl) (Eq.mp (by kernel_rfl) g)
def S204 (a0 : Value) (h : GH) (K : Value → GH → Prop) : Prop :=
 bnd (ncV a0) fun v1 =>
 bnd (faV 0 v1) fun v2 =>
 bnd (ldV 1 false v2 h) fun v3 =>
 bnd (ncV a0) fun v4 =>
 bnd (faV 1 v4) fun v5 =>
 bnd (ldV 1 false v5 h) fun v6 =>
 T Tryz.prog 39 [v6, (.int .i64 29)] h fun v7 h8 =>
 bnd (exV v7 0) fun v9 =>
 bnd (exV v7 1) fun v10 =>
 T Tryz.prog 178 [v9] h8 fun v11 h12 =>
 bnd (exV v11 0) fun v13 =>
 bnd (exV v11 1) fun v14 =>
 bnd (unV .not v14) fun v15 =>
 ifV v15 (
 K (.int .i64 1800) h12) (
 bnd (ncV v3) fun v16 =>
 bnd (faV 12 v16) fun v17 =>
 bnd (ldV 1 false v17 h12) fun v18 =>
 bnd (ncV v3) fun v19 =>
 bnd (faV 14 v19) fun v20 =>
 bnd (ldV 1 false v20 h12) fun v21 =>
 bnd (fillV [(.int .i64 0), (.int .i64 0)] [(0, 1, v21), (1, 1, v13)]) fun c22 =>
 bsV 220 1 [(.int .i64 0), (.int .i64 0)] [(0, 2, (.agg c22.toArray))] h12 fun v23 h24 =>
 apV 220 2 16 v18 v23 h24 fun v25 h26 =>
 bnd (ncV v3) fun v27 =>
 bnd (faV 12 v27) fun v28 =>
 bnd (stV 1 v28 v25 h26) fun h29 =>
 bnd (ncV v3) fun v30 =>
 bnd (faV 14 v30) fun v31 =>
 bnd (stV 1 v31 (.int .i64 (-1)) h29) fun h32 =>
 bnd (ncV v3) fun v33 =>
 bnd (faV 6 v33) fun v34 =>
 bnd (stV 1 v34 (.func (.func 185) #[] #[]) h32) fun h35 =>
 bnd (ncV v3) fun v36 =>
 bnd (faV 18 v36) fun v37 =>
 bnd (ldV 1 false v37 h35) fun v38 =>
 T Tryz.prog 227 [v38] h35 fun v39 h40 =>
 ifV v39 (
 bnd (ncV v3) fun v41 =>
 bnd (faV 20 v41) fun v42 =>
 bnd (stV 1 v42 (.int .i64 0) h40) fun h43 =>
 K (.int .i64 0) h43) (
 K (.int .i64 0) h40))
def A204 : Ann := ⟨fun | 6 => ([0, 1, 2, 3, 4, 5, 6, 7, 8, 9, 10, 11, 12, 13, 14, 15], [0, 0, 2, 6, 14, 0, 32, 96, 224, 0, 992, 2016, 4094, 8191, 16383, 32767]) | _ => ([], []), fun _ => []⟩
theorem S204_T {a0 : Value} {h : GH} {K : Value → GH → Prop} (g : S204 a0 h K) : T Tryz.prog 204 [a0] h K :=
  T_of_gwp (A := A204) Tryz.func204 (c := bodyOf Tryz.f204) (by kernel_rfl) (by kernel_rfl) (by kernel_rfl) (by kernel_rfl) (by kernel_rfl) (Eq.mp (by kernel_rfl) g)
def S205 (a0 a1 : Value) (h : GH) (K : Value → GH → Prop) : Prop :=
 bnd (ldV 1 false a0 h) fun v1 =>
 bnd (ncV v1) fun v2 =>
 bnd (faV 0 v2) fun v3 =>
 bnd (faV 0 v3) fun v4 =>
 bnd (ldV 1 false v4 h) fun v5 =>
 bnd (eqI v5 (.int .i64 0)) fun b6 =>
 ifV (.bool b6) (
 bnd (ldV 1 false a0 h) fun v7 =>
 bnd (ncV v7) fun v8 =>
 bnd (faV 0 v8) fun v9 =>
 bnd (ldV 1 false a1 h) fun v10 =>
 T Tryz.prog 188 [v9, v10] h fun v11 h12 =>
 bnd (ldV 1 false a0 h12) fun v13 =>
 bnd (ldV 1 false a0 h12) fun v14 =>
 bnd (ncV v14) fun v15 =>
 bnd (faV 0 v15) fun v16 =>
 bnd (faV 2 v16) fun v17 =>
 bnd (faV 1 v17) fun v18 =>
 bnd (ldV 1 false v18 h12) fun v19 =>
 bnd (eqI v19 (.int .i64 0)) fun b20 =>
 bnd (ncV v13) fun v21 =>
 bnd (faV 0 v21) fun v22 =>
 bnd (faV 4 v22) fun v23 =>
 bnd (stV 1 v23 (.bool b20) h12) fun h24 =>
 bnd (unV .not v11) fun v25 =>
 ifV v25 (
 K (.int .i64 1000) h24) (
 K (.int .i64 0) h24)) (
 bnd (eqI v5 (.int .i64 1)) fun b26 =>
 ifV (.bool b26) (
 bnd (ldV 1 false a1 h) fun v27 =>
 bnd (ldV 1 false a0 h) fun v28 =>
 bnd (ncV v28) fun v29 =>
 bnd (faV 0 v29) fun v30 =>
 bnd (faV 2 v30) fun v31 =>
 bnd (faV 1 v31) fun v32 =>
 bnd (ldV 1 false v32 h) fun v33 =>
 bnd (binV .add (.int .i64 17) v33) fun v34 =>
 bnd (binV .sub v34 (.int .i64 1)) fun v35 =>
 T Tryz.prog 39 [v27, v35] h fun v36 h37 =>
 bnd (exV v36 0) fun v38 =>
 bnd (exV v36 1) fun v39 =>
 bnd (ldV 1 false a0 h37) fun v40 =>
 T Tryz.prog 124 [v38] h37 fun v41 h42 =>
 ldV 1 false a0 h42 = some v40 ∧
 bnd (exV v41 0) fun v43 =>
 bnd (exV v41 1) fun v44 =>
 bnd (ncV v40) fun v45 =>
 bnd (faV 5 v45) fun v46 =>
 bnd (stV 1 v46 v43 h42) fun h47 =>
 bnd (ldV 1 false a0 h47) fun v48 =>
 bnd (ncV v48) fun v49 =>
 bnd (faV 0 v49) fun v50 =>
 bnd (faV 0 v50) fun v51 =>
 bnd (stV 1 v51 (.int .i64 2) h47) fun h52 =>
 bnd (unV .not v44) fun v53 =>
 ifV v53 (
 K (.int .i64 1000) h52) (
 K (.int .i64 0) h52)) (
 bnd (ldV 1 false a0 h) fun v54 =>
 bnd (ncV v54) fun v55 =>
 bnd (faV 0 v55) fun v56 =>
 bnd (ldV 1 false a1 h) fun v57 =>
 bnd (ldV 1 false a0 h) fun v58 =>
 bnd (ncV v58) fun v59 =>
 bnd (faV 5 v59) fun v60 =>
 bnd (ldV 1 false v60 h) fun v61 =>
 T Tryz.prog 189 [v56, v57, v61] h fun v62 h63 =>
 ifV v62 (
 bnd (ldV 1 false a0 h63) fun v64 =>
 bnd (ldV 1 false a0 h63) fun v65 =>
 bnd (ldV 1 false a0 h63) fun v66 =>
 bnd (ncV v66) fun v67 =>
 bnd (faV 0 v67) fun v68 =>
 bnd (faV 2 v68) fun v69 =>
 bnd (faV 1 v69) fun v70 =>
 bnd (ldV 1 false v70 h63) fun v71 =>
 bnd (binV .sub v71 (.int .i64 1)) fun v72 =>
 bnd (ncV v64) fun v73 =>
 bnd (faV 6 v73) fun v74 =>
 bnd (stV 1 v74 v72 h63) fun h75 =>
 ldV 1 false a0 h75 = some v65 ∧
 bnd (ncV v65) fun v76 =>
 bnd (faV 0 v76) fun v77 =>
 bnd (faV 4 v77) fun v78 =>
 bnd (stV 1 v78 (.bool true) h75) fun h79 =>
 bnd (unV .not (.bool true)) fun v80 =>
 ifV v80 (
 K (.int .i64 1000) h79) (
 K (.int .i64 0) h79)) (
 bnd (unV .not (.bool true)) fun v81 =>
 ifV v81 (
 K (.int .i64 1000) h63) (
 K (.int .i64 0) h63))))
def A205 : Ann := ⟨fun | 3 => ([0, 1, 2, 3, 4, 5, 6, 7, 8], [0, 1, 3, 0, 0, 16, 48, 112, 255]) | 4 => ([0, 1, 2, 3, 4, 5, 6, 7, 8, 9, 10, 11, 12, 13, 14, 15], [0, 0, 0, 4, 12, 28, 60, 124, 252, 509, 1021, 2045, 4095, 8191, 16383, 32767]) | 6 => ([0, 1, 2, 3, 4, 5], [0, 1, 3, 0, 15, 31]) | 7 => ([0, 1, 2, 3, 4, 5, 6, 7, 8, 9, 10, 11], [0, 0, 2, 6, 14, 30, 62, 126, 255, 511, 1023, 2047]) | 9 => ([0, 1, 2, 3, 4, 5, 6, 7, 8, 9, 10, 11, 12, 13, 14], [0, 0, 2, 6, 14, 30, 62, 126, 254, 511, 1023, 2047, 2047, 4095, 16383]) | 10 => ([0, 1, 2, 3, 4, 5, 6, 7, 8, 9], [0, 0, 2, 6, 14, 14, 31, 95, 223, 511]) | _ => ([], []), fun _ => []⟩
theorem S205_T {a0 a1 : Value} {h : GH} {K : Value → GH → Prop} (g : S205 a0 a1 h K) : T Tryz.prog 205 [a0, a1] h K :=
  T_of_gwp (A := A205) Tryz.func205 (c := bodyOf Tryz.f205) (by kernel_rfl) (by kernel_rfl) (by kernel_rfl) (by kernel_rfl) (by kernel_rfl) (Eq.mp (by kernel_rfl) g)
def S206 (a0 : Value) (h : GH) (K : Value → GH → Prop) : Prop :=
 bnd (binV .lss a0 (.int .i64 1)) fun v1 =>
 ifV v1 (
 K (.tuple #[(.pointer none), (.int .i64 1100)]) h) (
 bnd (binV .gtr a0 (.int .i64 4)) fun v2 =>
 ifV v2 (
 K (.tuple #[(.pointer none), (.int .i64 1100)]) h) (
 bnd (fillV [(.int .i64 0), (.int .i64 0), (.int .i64 0), (.bool false), (.bool false)] [(0, 1, a0), (1, 1, (.int .i64 (-1)))]) fun c3 =>
 newV 335 ((.agg c3.toArray) : Value).cells.toList h fun v4 h5 =>
 K (.tuple #[v4, (.int .i64 0)]) h5))
def A206 : Ann := ⟨fun _ => ([], []), fun _ => []⟩
theorem S206_T {a0 : Value} {h : GH} {K : Value → GH → Prop} (g : S206 a0 h K) : T Tryz.prog 206 [a0] h K :=
  T_of_gwp (A := A206) Tryz.func206 (c := bodyOf Tryz.f206) (by kernel_rfl) (by kernel_rfl) (by kernel_rfl) (by kernel_rfl) (by kernel_rfl) (Eq.mp (by kernel_rfl) g)
def S207_j1 (x0 x4 x24 : Value) (h : GH) (K : Value → GH → Prop)  : Prop :=
 ifV x24 (
 bnd (ncV x0) fun v1 =>
 bnd (faV 0 v1) fun v2 =>
 bnd (ldV 1 false v2 h) fun v3 =>
 bnd (ncV x0) fun v4 =>
 bnd (faV 3 v4) fun v5 =>
 bnd (ldV 1 false v5 h) fun v6 =>
 T Tryz.prog 229 [v3, v6] h fun v7 h8 =>
 K x4 h8) (
 K x4 h)
def S207 (a0 : Value) (h : GH) (K : Value → GH → Prop) : Prop :=
 bnd (ncV a0) fun v1 =>
 bnd (faV 0 v1) fun v2 =>
 bnd (ldV 1 false v2 h) fun v3 =>
 bnd (ncV v3) fun v4 =>
 bnd (faV 19 v4) fun v5 =>
 bnd (ldV 1 false v5 h) fun v6 =>
 bnd (ncV a0) fun v7 =>
 bnd (faV 1 v7) fun v8 =>
 bnd (ldV 1 false v8 h) fun v9 =>
 T Tryz.prog 228 [v6, v9] h fun v10 h11 =>
 bnd (exV v10 0) fun v12 =>
 bnd (exV v10 1) fun v13 =>
 ifV v12 (
 bnd (eqI v13 (.int .i64 0)) fun b14 =>
 S207_j1 a0 v13 (.bool b14) h11 K ) (
 S207_j1 a0 v13 (.bool false) h11 K )
def A207 : Ann := ⟨fun | 1 => ([0, 1, 2, 3, 4, 5, 6, 7, 8, 9, 10, 11, 12, 13, 14, 15, 16], [0, 1, 3, 7, 15, 31, 63, 0, 128, 384, 896, 2047, 4095, 8191, 8191, 16383, 65535]) | 3 => ([0, 1, 2, 3, 4, 5, 6, 7, 8], [0, 1, 3, 7, 0, 16, 48, 112, 255]) | _ => ([], []), fun _ => []⟩
theorem S207_T {a0 : Value} {h : GH} {K : Value → GH → Prop} (g : S207 a0 h K) : T Tryz.prog 207 [a0] h K :=
  T_of_gwp (A := A207) Tryz.func207 (c := bodyOf Tryz.f207) (by kernel_rfl) (by kernel_rfl) (by kernel_rfl) (by kernel_rfl) (by kernel_rfl) (Eq.mp (by kernel_rfl) g)
def S208 (a0 a1 : Value) (h : GH) (K : Value → GH → Prop) : Prop :=
 bnd (eqK .ptr true a0 (.pointer none)) fun b1 =>
 ifV (.bool b1) (
 K (.int .i64 1) h) (
 T Tryz.prog 131 [a1] h fun v2 h3 =>
 bnd (unV .not v2) fun v4 =>
 ifV v4 (
 K (.int .i64 1100) h3) (
 T Tryz.prog 155 [a0, a1, (.int .i64 0)] h3 fun v5 h6 =>
 K (.int .i64 0) h6))
def A208 : Ann := ⟨fun _ => ([], []), fun _ => []⟩
theorem S208_T {a0 a1 : Value} {h : GH} {K : Value → GH → Prop} (g : S208 a0 a1 h K) : T Tryz.prog 208 [a0, a1] h K :=
  T_of_gwp (A := A208) Tryz.func208 (c := bodyOf Tryz.f208) (by kernel_rfl) (by kernel_rfl) (by kernel_rfl) (by kernel_rfl) (by kernel_rfl) (Eq.mp (by kernel_rfl) g)
def S209 (a0 a1 a2 a3 : Value) (h : GH) (K : Value → GH → Prop) : Prop :=
 newV 3 (a2 : Value).cells.toList h fun v1 h2 =>
 newV 3 (a3 : Value).cells.toList h2 fun v3 h4 =>
 T Tryz.prog 82 [a0, (.int .i64 2), a1, (.func (.func 230) #[] #[v1, v3])] h4 fun v5 h6 =>
 bnd (exV v5 0) fun v7 =>
 bnd (exV v5 1) fun v8 =>
 K (.tuple #[v7, v8]) h6
def A209 : Ann := ⟨fun _ => ([], []), fun _ => []⟩
theorem S209_T {a0 a1 a2 a3 : Value} {h : GH} {K : Value → GH → Prop} (g : S209 a0 a1 a2 a3 h K) : T Tryz.prog 209 [a0, a1, a2, a3] h K :=
  T_of_gwp (A := A209) Tryz.func209 (c := bodyOf Tryz.f209) (by kernel_rfl) (by kernel_rfl) (by kernel_rfl) (by kernel_rfl) (by kernel_rfl) (Eq.mp (by kernel_rfl) g)
def S210 (a0 a1 : Value) (h : GH) (K : Value → GH → Prop) : Prop :=
 newV 190 (a0 : Value).cells.toList h fun v1 h2 =>
 bnd (faV 0 v1) fun v3 =>
 bnd (ldV 1 false v3 h2) fun v4 =>
 bnd (binV .add v4 (.int .i64 1)) fun v5 =>
 bnd (binV .rem v5 (.int .i64 1073741824)) fun v6 =>
 bnd (binV .mul v6 (.int .i64 16)) fun v7 =>
 bnd (binV .add v7 a1) fun v8 =>
 T Tryz.prog 78 [v8] h2 fun v9 h10 =>
 K v9 h10
def A210 : Ann := ⟨fun _ => ([], []), fun _ => []⟩
theorem S210_T {a0 a1 : Value} {h : GH} {K : Value → GH → Prop} (g : S210 a0 a1 h K) : T Tryz.prog 210 [a0, a1] h K :=
  T_of_gwp (A := A210) Tryz.func210 (c := bodyOf Tryz.f210) (by kernel_rfl) (by kernel_rfl) (by kernel_rfl) (by kernel_rfl) (by kernel_rfl) (Eq.mp (by kernel_rfl) g)
end Go.Proofs.YtfphpafkhljncaaGreat
