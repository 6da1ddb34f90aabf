/- The functions of the program that this seat reaches, each in a shallow form over ghost heaps, with the kernel's word that it is what its loaded code computes. Nothing here is a statement on the program. Written by a program of this session. -/
import Derived.Test.YtbiappodepnbmaaKG
import Derived.Test.YtbiappodepnbmaaProg
import Derived.KernelRfl
namespace Go.Proofs.Ytbiappodepnbmaa
open Go GW Go.Proofs
set_option linter.unusedVariables false
set_option maxRecDepth 100000

/-! ### pawl/pawllaw15.ReadMany (3) -/
def S3_j2 (s6 : Nat → Value) (s10 : Nat → Value) (x0 x1 x5 x6 x7 x8 x9 x10 x86 : Value) (h : GH) (K : Value → GH → Prop) (again8 : (Nat → Value) → GH → Prop) (again12 : (Nat → Value) → GH → Prop) : Prop :=
 ifV x86 (
 bnd (binV .add (.int .i64 16) x7) fun v1 =>
 bnd (binV .mul (.int .i64 4) v1) fun v2 =>
 bnd (binV .add v2 (.int .i64 2)) fun v3 =>
 bnd (isV 1 x6 x10) fun v4 =>
 bnd (stV 1 v4 v3 h) fun h5 =>
 bnd (binV .add x9 (.int .i64 1)) fun v6 =>
 again12 (tup [x0, x1, x5, x6, x7, x8, v6]) h5) (
 bnd (binV .add x9 (.int .i64 1)) fun v7 =>
 again12 (tup [x0, x1, x5, x6, x7, x8, v7]) h)

def S3_j1 (s6 : Nat → Value) (s10 : Nat → Value) (x0 x1 x5 x6 x7 x8 x9 : Value) (h : GH) (K : Value → GH → Prop) (again8 : (Nat → Value) → GH → Prop) (again12 : (Nat → Value) → GH → Prop) : Prop :=
 bnd (binV .mul (.int .i64 4) x7) fun v1 =>
 bnd (binV .mul (.int .i64 2) x9) fun v2 =>
 bnd (binV .add v1 v2) fun v3 =>
 bnd (isV 1 x0 x7) fun v4 =>
 bnd (ldV 1 false v4 h) fun v5 =>
 bnd (isV 3 v5 x9) fun v6 =>
 bnd (faV 0 v6) fun v7 =>
 bnd (ldV 1 false v7 h) fun v8 =>
 bnd (binV .and v8 (.int .i64 1)) fun v9 =>
 bnd (binV .add v3 v9) fun v10 =>
 bnd (binV .add (.int .i64 1) x7) fun v11 =>
 bnd (fillV [(.int .i64 0), (.int .i64 0), (.int .i64 0)] [(0, 1, v10), (2, 1, v11)]) fun c12 =>
 bsV 27 1 [(.int .i64 0), (.int .i64 0), (.int .i64 0)] [(0, 3, (.agg c12.toArray))] h fun v13 h14 =>
 apV 27 3 24 x8 v13 h14 fun v15 h16 =>
 bnd (isV 1 x0 x7) fun v17 =>
 bnd (ldV 1 false v17 h16) fun v18 =>
 bnd (isV 3 v18 x9) fun v19 =>
 bnd (faV 1 v19) fun v20 =>
 bnd (ldV 1 false v20 h16) fun v21 =>
 bnd (binV .and v21 (.int .i64 1)) fun v22 =>
 bnd (eqI v22 (.int .i64 1)) fun b23 =>
 ifV (.bool b23) (
 bnd (eqI x9 (.int .i64 0)) fun b24 =>
 S3_j2 s6 s10 x0 x1 x5 x6 x7 v15 x9 v10 (.bool b24) h16 K again8 again12) (
 S3_j2 s6 s10 x0 x1 x5 x6 x7 v15 x9 v10 (.bool false) h16 K again8 again12)

def S3_j5 (s6 : Nat → Value) (s40 : Nat → Value) (x1 x5 x11 x13 x14 x15 : Value) (h : GH) (K : Value → GH → Prop) (again8 : (Nat → Value) → GH → Prop) (again42 : (Nat → Value) → GH → Prop) : Prop :=
 T Try.prog 6 [x14, (.int .i64 0), x15] h fun v1 h2 =>
 bnd (exV v1 0) fun v3 =>
 bnd (exV v1 1) fun v4 =>
 T Try.prog 7 [v4] h2 fun v5 h6 =>
 bnd (eqI v5 (.int .i64 0)) fun b7 =>
 ifV (.bool (!b7)) (
 K (.bool false) h6) (
 bnd (eqK .ptr true v3 (.pointer none)) fun b8 =>
 ifV (.bool b8) (
 K (.bool false) h6) (
 bsV 33 1 [(.pointer none)] [(0, 1, v3)] h6 fun v9 h10 =>
 apV 33 1 8 x13 v9 h10 fun v11 h12 =>
 bnd (binV .add x14 (.int .i64 1)) fun v13 =>
 again42 (tup [x1, x5, x11, v11, v13]) h12))

def S3_j4 (s6 : Nat → Value) (s40 : Nat → Value) (x1 x5 x11 x13 x14 x15 x123 : Value) (h : GH) (K : Value → GH → Prop) (again8 : (Nat → Value) → GH → Prop) (again42 : (Nat → Value) → GH → Prop) : Prop :=
 ifV x123 (
 bnd (isV 1 x5 x14) fun v1 =>
 bnd (ldV 1 false v1 h) fun v2 =>
 bnd (isV 3 v2 (.int .i64 0)) fun v3 =>
 bnd (faV 0 v3) fun v4 =>
 bnd (ldV 1 false v4 h) fun v5 =>
 S3_j5 s6 s40 x1 x5 x11 x13 x14 v5 h K again8 again42) (
 S3_j5 s6 s40 x1 x5 x11 x13 x14 x15 h K again8 again42)

def S3_j3 (s6 : Nat → Value) (s40 : Nat → Value) (x1 x5 x11 x13 x14 x15 : Value) (h : GH) (K : Value → GH → Prop) (again8 : (Nat → Value) → GH → Prop) (again42 : (Nat → Value) → GH → Prop) : Prop :=
 bnd (binV .lss x14 (.int .i64 3)) fun v1 =>
 ifV v1 (
 bnd (isV 1 x5 x14) fun v2 =>
 bnd (ldV 1 false v2 h) fun v3 =>
 bnd (lnV v3) fun v4 =>
 bnd (binV .gtr v4 (.int .i64 0)) fun v5 =>
 S3_j4 s6 s40 x1 x5 x11 x13 x14 x15 v5 h K again8 again42) (
 S3_j4 s6 s40 x1 x5 x11 x13 x14 x15 (.bool false) h K again8 again42)

def S3_j6 (s6 : Nat → Value) (s40 : Nat → Value) (s48 : Nat → Value) (x1 x11 x13 x18 x19 x20 : Value) (h : GH) (K : Value → GH → Prop) (again8 : (Nat → Value) → GH → Prop) (again42 : (Nat → Value) → GH → Prop) (again50 : (Nat → Value) → GH → Prop) : Prop :=
 bnd (isV 1 x13 x20) fun v1 =>
 bnd (ldV 1 false v1 h) fun v2 =>
 T Try.prog 8 [v2, x11] h fun v3 h4 =>
 bnd (exV v3 0) fun v5 =>
 bnd (exV v3 1) fun v6 =>
 bnd (isV 1 x18 x20) fun v7 =>
 bnd (stV 1 v7 v5 h4) fun h8 =>
 T Try.prog 7 [v6] h8 fun v9 h10 =>
 bnd (eqI v9 (.int .i64 0)) fun b11 =>
 ifV (.bool (!b11)) (
 K (.bool false) h10) (
 bnd (binV .add x19 (.int .i64 1)) fun v12 =>
 again50 (tup [x1, x11, x13, x18, v12]) h10)
def S3 (a0 a1 : Value) (h : GH) (K : Value → GH → Prop) : Prop :=
 T Try.prog 4 [] h fun v1 h2 =>
 bnd (unV .not v1) fun v3 =>
 ifV v3 (
 K (.bool false) h2) (
 mkV 3 8 [(.int .i64 0)] (.int .i64 16) (.int .i64 16) h2 fun v4 h5 =>
 Lfp (fun (s6 : Nat → Value) h7 again8 =>
 bnd (binV .lss (s6 4) (.int .i64 3)) fun v9 =>
 ifV v9 (
 Lfp (fun (s10 : Nat → Value) h11 again12 =>
 bnd (lnV (s10 0)) fun v13 =>
 bnd (binV .lss (s10 4) v13) fun v14 =>
 ifV v14 (
 bnd (isV 1 (s10 0) (s10 4)) fun v15 =>
 bnd (ldV 1 false v15 h11) fun v16 =>
 bnd (lnV v16) fun v17 =>
 bnd (binV .lss (s10 6) v17) fun v18 =>
 ifV v18 (
 bnd (binV .lss (s10 6) (.int .i64 2)) fun v19 =>
 ifV v19 (
 S3_j1 s6 s10 (s10 0) (s10 1) (s10 2) (s10 3) (s10 4) (s10 5) (s10 6) h11 K again8 again12) (
 bsV 25 1 [(.slice none 0 0)] [(0, 1, (s10 5))] h11 fun v20 h21 =>
 apV 25 1 24 (s10 2) v20 h21 fun v22 h23 =>
 bnd (binV .add (s10 4) (.int .i64 1)) fun v24 =>
 again8 (tup [(s10 0), (s10 1), v22, (s10 3), v24]) h23)) (
 bsV 25 1 [(.slice none 0 0)] [(0, 1, (s10 5))] h11 fun v25 h26 =>
 apV 25 1 24 (s10 2) v25 h26 fun v27 h28 =>
 bnd (binV .add (s10 4) (.int .i64 1)) fun v29 =>
 again8 (tup [(s10 0), (s10 1), v27, (s10 3), v29]) h28)) (
 bsV 25 1 [(.slice none 0 0)] [(0, 1, (s10 5))] h11 fun v30 h31 =>
 apV 25 1 24 (s10 2) v30 h31 fun v32 h33 =>
 bnd (binV .add (s10 4) (.int .i64 1)) fun v34 =>
 again8 (tup [(s10 0), (s10 1), v32, (s10 3), v34]) h33)) (tup [(s6 0), (s6 1), (s6 2), (s6 3), (s6 4), (.slice none 0 0), (.int .i64 0)]) h7) (
 T Try.prog 5 [(s6 3), (s6 2)] h7 fun v35 h36 =>
 bnd (exV v35 0) fun v37 =>
 bnd (exV v35 1) fun v38 =>
 bnd (eqK .ptr true v37 (.pointer none)) fun b39 =>
 ifV (.bool b39) (
 K (.bool false) h36) (
 Lfp (fun (s40 : Nat → Value) h41 again42 =>
 bnd (binV .lss (s40 4) (.int .i64 4)) fun v43 =>
 ifV v43 (
 bnd (binV .lss (s40 4) (.int .i64 3)) fun v44 =>
 ifV v44 (
 bnd (binV .mul (.int .i64 4) (s40 4)) fun v45 =>
 S3_j3 s6 s40 (s40 0) (s40 1) (s40 2) (s40 3) (s40 4) v45 h41 K again8 again42) (
 S3_j3 s6 s40 (s40 0) (s40 1) (s40 2) (s40 3) (s40 4) (.int .i64 0) h41 K again8 again42)) (
 bsV 4 4 [(.bool false), (.bool false), (.bool false), (.bool false)] [(0, 1, (.bool false)), (1, 1, (.bool false)), (2, 1, (.bool false)), (3, 1, (.bool false))] h41 fun v46 h47 =>
 Lfp (fun (s48 : Nat → Value) h49 again50 =>
 bnd (lnV (s48 0)) fun v51 =>
 bnd (binV .add v51 (.int .i64 600)) fun v52 =>
 bnd (binV .lss (s48 4) v52) fun v53 =>
 ifV v53 (
 bnd (binV .and (s48 4) (.int .i64 3)) fun v54 =>
 bnd (lnV (s48 0)) fun v55 =>
 bnd (binV .lss (s48 4) v55) fun v56 =>
 ifV v56 (
 bnd (isV 1 (s48 0) (s48 4)) fun v57 =>
 bnd (ldV 1 false v57 h49) fun v58 =>
 bnd (binV .and v58 (.int .i64 3)) fun v59 =>
 S3_j6 s6 s40 s48 (s48 0) (s48 1) (s48 2) (s48 3) (s48 4) v59 h49 K again8 again42 again50) (
 S3_j6 s6 s40 s48 (s48 0) (s48 1) (s48 2) (s48 3) (s48 4) v54 h49 K again8 again42 again50)) (
 Lfp (fun (s60 : Nat → Value) h61 again62 =>
 bnd (binV .lss (s60 2) (.int .i64 4)) fun v63 =>
 ifV v63 (
 bnd (isV 1 (s60 0) (s60 2)) fun v64 =>
 bnd (ldV 1 false v64 h61) fun v65 =>
 T Try.prog 9 [v65] h61 fun v66 h67 =>
 bnd (isV 1 (s60 1) (s60 2)) fun v68 =>
 bnd (ldV 1 false v68 h67) fun v69 =>
 bnd (unV .not v69) fun v70 =>
 ifV v70 (
 K (.bool false) h67) (
 bnd (binV .lss v66 (.int .i64 0)) fun v71 =>
 ifV v71 (
 K (.bool false) h67) (
 bnd (binV .gtr v66 (.int .i64 3)) fun v72 =>
 ifV v72 (
 K (.bool false) h67) (
 bnd (binV .lss (s60 2) (.int .i64 3)) fun v73 =>
 ifV v73 (
 bnd (eqI v66 (.int .i64 0)) fun b74 =>
 ifV (.bool (!b74)) (
 bnd (binV .add (.int .i64 1) (s60 2)) fun v75 =>
 bnd (eqI v66 v75) fun b76 =>
 ifV (.bool (!b76)) (
 K (.bool false) h67) (
 bnd (binV .add (s60 2) (.int .i64 1)) fun v77 =>
 again62 (tup [(s60 0), (s60 1), v77]) h67)) (
 bnd (binV .add (s60 2) (.int .i64 1)) fun v78 =>
 again62 (tup [(s60 0), (s60 1), v78]) h67)) (
 bnd (binV .add (s60 2) (.int .i64 1)) fun v79 =>
 again62 (tup [(s60 0), (s60 1), v79]) h67))))) (
 K (.bool true) h61)) (tup [(s48 2), (s48 3), (.int .i64 0)]) h49)) (tup [(s40 0), (s40 2), (s40 3), v46, (.int .i64 0)]) h47)) (tup [(s6 1), (s6 2), v37, (.slice none 0 0), (.int .i64 0)]) h36))) (tup [a0, a1, (.slice none 0 0), v4, (.int .i64 0)]) h5)
def A3 : Ann := ⟨fun _ => ([], []), fun | 0 => [0, 1, 5, 6, 7] | 2 => [0, 1, 5, 6, 7, 8, 9] | 4 => [1, 5, 11, 13, 14] | 6 => [1, 11, 13, 18, 19] | 8 => [13, 18, 23] | _ => []⟩
theorem S3_T {a0 a1 : Value} {h : GH} {K : Value → GH → Prop} (g : S3 a0 a1 h K) : T Try.prog 3 [a0, a1] h K :=
  T_of_gwp (A := A3) Try.func3 (c := bodyOf Try.f3) (by kernel_rfl) (by kernel_rfl) (by kernel_rfl) (by kernel_rfl) (by kernel_rfl) (Eq.mp (by kernel_rfl) g)

/-! ### pawl/pawllaw15.awake (4) -/
def S4_j2 (s5 : Nat → Value) (x1 x3 x4 x5 x6 x8 x9 x10 x12 : Value) (h : GH) (K : Value → GH → Prop) (again7 : (Nat → Value) → GH → Prop) : Prop :=
 T Try.prog 8 [x5, x1] h fun v1 h2 =>
 bnd (exV v1 0) fun v3 =>
 bnd (exV v1 1) fun v4 =>
 T Try.prog 7 [v4] h2 fun v5 h6 =>
 bnd (eqI v5 (.int .i64 0)) fun b7 =>
 ifV (.bool (!b7)) (
 K (.bool false) h6) (
 bnd (binV .add x12 (.int .i64 1)) fun v8 =>
 again7 (tup [x1, x3, x4, x5, x6, x8, x9, x10, v3, v8]) h6)

def S4_j3 (s5 : Nat → Value) (x3 x4 x5 x6 x8 x9 x10 x11 : Value) (h : GH) (K : Value → GH → Prop) (again7 : (Nat → Value) → GH → Prop) : Prop :=
 T Try.prog 8 [x3, (.pointer none)] h fun v1 h2 =>
 bnd (exV v1 0) fun v3 =>
 bnd (exV v1 1) fun v4 =>
 T Try.prog 10 [x3] h2 fun v5 h6 =>
 bnd (exV v5 0) fun v7 =>
 bnd (exV v5 1) fun v8 =>
 T Try.prog 7 [x4] h6 fun v9 h10 =>
 bnd (eqI v9 (.int .i64 0)) fun b11 =>
 ifV (.bool b11) (
 T Try.prog 7 [x6] h10 fun v12 h13 =>
 bnd (eqI v12 (.int .i64 0)) fun b14 =>
 ifV (.bool b14) (
 T Try.prog 7 [x8] h13 fun v15 h16 =>
 bnd (eqI v15 (.int .i64 1500)) fun b17 =>
 ifV (.bool b17) (
 ifV x9 (
 T Try.prog 7 [x10] h16 fun v18 h19 =>
 bnd (eqI v18 (.int .i64 0)) fun b20 =>
 ifV (.bool b20) (
 T Try.prog 9 [x3] h19 fun v21 h22 =>
 bnd (eqI v21 (.int .i64 5)) fun b23 =>
 ifV (.bool b23) (
 ifV x11 (
 T Try.prog 9 [x5] h22 fun v24 h25 =>
 bnd (eqI v24 (.int .i64 7)) fun b26 =>
 ifV (.bool b26) (
 T Try.prog 7 [v4] h25 fun v27 h28 =>
 bnd (eqI v27 (.int .i64 1)) fun b29 =>
 ifV (.bool b29) (
 bnd (eqI v7 (.int .i64 (-1))) fun b30 =>
 K (.bool b30) h28) (
 K (.bool false) h28)) (
 K (.bool false) h25)) (
 K (.bool false) h22)) (
 K (.bool false) h22)) (
 K (.bool false) h19)) (
 K (.bool false) h16)) (
 K (.bool false) h16)) (
 K (.bool false) h13)) (
 K (.bool false) h10)

def S4_j1 (x1 x3 x4 x5 x6 x8 : Value) (h : GH) (K : Value → GH → Prop)  : Prop :=
 T Try.prog 8 [x3, x1] h fun v1 h2 =>
 bnd (exV v1 0) fun v3 =>
 bnd (exV v1 1) fun v4 =>
 Lfp (fun (s5 : Nat → Value) h6 again7 =>
 bnd (binV .lss (s5 9) (.int .i64 30)) fun v8 =>
 ifV v8 (
 bnd (unV .not (s5 8)) fun v9 =>
 ifV v9 (
 S4_j2 s5 (s5 0) (s5 1) (s5 2) (s5 3) (s5 4) (s5 5) (s5 6) (s5 7) (s5 9) h6 K again7) (
 S4_j3 s5 (s5 1) (s5 2) (s5 3) (s5 4) (s5 5) (s5 6) (s5 7) (s5 8) h6 K again7)) (
 S4_j3 s5 (s5 1) (s5 2) (s5 3) (s5 4) (s5 5) (s5 6) (s5 7) (s5 8) h6 K again7)) (tup [x1, x3, x4, x5, x6, x8, v3, v4, (.bool false), (.int .i64 0)]) h2
def S4 (h : GH) (K : Value → GH → Prop) : Prop :=
 bsV 3 2 [(.int .i64 0), (.int .i64 0)] [(0, 1, (.int .i64 20)), (1, 1, (.int .i64 66))] h fun v1 h2 =>
 bnd (fillV [(.int .i64 0), (.int .i64 0), (.int .i64 0)] [(0, 1, (.int .i64 1)), (1, 1, (.int .i64 2)), (2, 1, (.int .i64 7))]) fun c3 =>
 bsV 27 1 [(.int .i64 0), (.int .i64 0), (.int .i64 0)] [(0, 3, (.agg c3.toArray))] h2 fun v4 h5 =>
 bsV 25 1 [(.slice none 0 0)] [(0, 1, v4)] h5 fun v6 h7 =>
 T Try.prog 5 [v1, v6] h7 fun v8 h9 =>
 bnd (exV v8 0) fun v10 =>
 bnd (exV v8 1) fun v11 =>
 T Try.prog 6 [(.int .i64 1), (.int .i64 0), (.int .i64 0)] h9 fun v12 h13 =>
 bnd (exV v12 0) fun v14 =>
 bnd (exV v12 1) fun v15 =>
 T Try.prog 6 [(.int .i64 1), (.int .i64 0), (.int .i64 1)] h13 fun v16 h17 =>
 bnd (exV v16 0) fun v18 =>
 bnd (exV v16 1) fun v19 =>
 T Try.prog 6 [(.int .i64 1), (.int .i64 0), (.int .i64 16)] h17 fun v20 h21 =>
 bnd (exV v20 0) fun v22 =>
 bnd (exV v20 1) fun v23 =>
 bnd (eqK .ptr true v10 (.pointer none)) fun b24 =>
 ifV (.bool b24) (
 K (.bool false) h21) (
 bnd (eqK .ptr true v11 (.pointer none)) fun b25 =>
 ifV (.bool b25) (
 K (.bool false) h21) (
 bnd (eqK .ptr true v14 (.pointer none)) fun b26 =>
 ifV (.bool b26) (
 K (.bool false) h21) (
 bnd (eqK .ptr true v18 (.pointer none)) fun b27 =>
 ifV (.bool b27) (
 K (.bool false) h21) (
 S4_j1 v10 v14 v15 v18 v19 v23 h21 K ))))
def A4 : Ann := ⟨fun _ => ([], []), fun | 0 => [1, 3, 4, 5, 6, 8, 9, 10, 11, 12] | _ => []⟩
theorem S4_T {h : GH} {K : Value → GH → Prop} (g : S4 h K) : T Try.prog 4 [] h K :=
  T_of_gwp (A := A4) Try.func4 (c := bodyOf Try.f4) (by kernel_rfl) (by kernel_rfl) (by kernel_rfl) (by kernel_rfl) (by kernel_rfl) (Eq.mp (by kernel_rfl) g)

/-! ### pawl/pawllaw15.shelf (5) -/
def S5_j1 (s6 : Nat → Value) (x0 x1 x6 x7 x8 : Value) (h : GH) (K : Value → GH → Prop) (again8 : (Nat → Value) → GH → Prop) : Prop :=
 bnd (isV 1 x0 x8) fun v1 =>
 bnd (ldV 1 false v1 h) fun v2 =>
 T Try.prog 12 [x6, x8, v2] h fun v3 h4 =>
 bnd (isV 1 x0 x8) fun v5 =>
 bnd (ldV 1 false v5 h4) fun v6 =>
 T Try.prog 13 [x7, x8, v6] h4 fun v7 h8 =>
 bnd (binV .add x8 (.int .i64 1)) fun v9 =>
 again8 (tup [x0, x1, x6, x7, v9]) h8

def S5_j3 (s6 : Nat → Value) (s1 : Nat → Value) (x1 x6 x7 x9 : Value) (h : GH) (K : Value → GH → Prop) (again8 : (Nat → Value) → GH → Prop) (again3 : (Nat → Value) → GH → Prop) : Prop :=
 bnd (isV 1 x1 x9) fun v1 =>
 bnd (ldV 1 false v1 h) fun v2 =>
 T Try.prog 14 [x9, (.int .i64 1), v2] h fun v3 h4 =>
 bnd (exV v3 0) fun v5 =>
 bnd (exV v3 1) fun v6 =>
 bnd (eqI v6 (.int .i64 0)) fun b7 =>
 ifV (.bool (!b7)) (
 bnd (binV .add x9 (.int .i64 1)) fun v8 =>
 again3 (tup [x1, x6, x7, v8]) h4) (
 Lfp (fun (s9 : Nat → Value) h10 again11 =>
 bnd (unV .not (s9 5)) fun v12 =>
 ifV v12 (
 T Try.prog 15 [(s9 4), (s9 2)] h10 fun v13 h14 =>
 bnd (exV v13 0) fun v15 =>
 bnd (exV v13 1) fun v16 =>
 T Try.prog 16 [(s9 2)] h14 fun v17 h18 =>
 bnd (exV v17 0) fun v19 =>
 bnd (exV v17 1) fun v20 =>
 newV 55 [(.int .i64 0), (.int .i64 0), (.int .i64 0), (.int .i64 0), (.int .i64 0), (.int .i64 0), (.int .i64 0), (.int .i64 0)] h18 fun v21 h22 =>
 bnd (stV 8 v21 v19 h22) fun h23 =>
 bnd (faV 2 v21) fun v24 =>
 bnd (ldV 1 false v24 h23) fun v25 =>
 bnd (faV 4 v21) fun v26 =>
 bnd (ldV 1 false v26 h23) fun v27 =>
 T Try.prog 12 [(s9 1), v25, v27] h23 fun v28 h29 =>
 again11 (tup [(s9 0), (s9 1), (s9 2), (s9 3), (s9 4), v15]) h29) (
 bnd (binV .add (s9 3) (.int .i64 1)) fun v30 =>
 again3 (tup [(s9 0), (s9 1), (s9 2), v30]) h10)) (tup [x1, x6, x7, x9, v5, (.bool false)]) h4)

def S5_j2 (s6 : Nat → Value) (x1 x6 x7 : Value) (h : GH) (K : Value → GH → Prop) (again8 : (Nat → Value) → GH → Prop) : Prop :=
 Lfp (fun (s1 : Nat → Value) h2 again3 =>
 bnd (lnV (s1 0)) fun v4 =>
 bnd (binV .lss (s1 3) v4) fun v5 =>
 ifV v5 (
 bnd (binV .lss (s1 3) (.int .i64 4)) fun v6 =>
 ifV v6 (
 S5_j3 s6 s1 (s1 0) (s1 1) (s1 2) (s1 3) h2 K again8 again3) (
 K (.tuple #[(s1 1), (s1 2)]) h2)) (
 K (.tuple #[(s1 1), (s1 2)]) h2)) (tup [x1, x6, x7, (.int .i64 0)]) h
def S5 (a0 a1 : Value) (h : GH) (K : Value → GH → Prop) : Prop :=
 T Try.prog 11 [(.slice none 0 0), (.slice none 0 0)] h fun v1 h2 =>
 bnd (exV v1 0) fun v3 =>
 bnd (exV v1 1) fun v4 =>
 bnd (eqK .ptr true v3 (.pointer none)) fun b5 =>
 ifV (.bool b5) (
 K (.tuple #[(.pointer none), (.pointer none)]) h2) (
 Lfp (fun (s6 : Nat → Value) h7 again8 =>
 bnd (lnV (s6 0)) fun v9 =>
 bnd (binV .lss (s6 4) v9) fun v10 =>
 ifV v10 (
 bnd (binV .lss (s6 4) (.int .i64 16)) fun v11 =>
 ifV v11 (
 S5_j1 s6 (s6 0) (s6 1) (s6 2) (s6 3) (s6 4) h7 K again8) (
 S5_j2 s6 (s6 1) (s6 2) (s6 3) h7 K again8)) (
 S5_j2 s6 (s6 1) (s6 2) (s6 3) h7 K again8)) (tup [a0, a1, v3, v4, (.int .i64 0)]) h2)
def A5 : Ann := ⟨fun _ => ([], []), fun | 0 => [0, 1, 6, 7, 8] | 2 => [1, 6, 7, 9] | 4 => [1, 6, 7, 9, 10, 12] | _ => []⟩
theorem S5_T {a0 a1 : Value} {h : GH} {K : Value → GH → Prop} (g : S5 a0 a1 h K) : T Try.prog 5 [a0, a1] h K :=
  T_of_gwp (A := A5) Try.func5 (c := bodyOf Try.f5) (by kernel_rfl) (by kernel_rfl) (by kernel_rfl) (by kernel_rfl) (by kernel_rfl) (Eq.mp (by kernel_rfl) g)

/-! ### pawl/read.New (6) -/
def S6 (a0 a1 a2 : Value) (h : GH) (K : Value → GH → Prop) : Prop :=
 T Try.prog 17 [a0] h fun v1 h2 =>
 bnd (unV .not v1) fun v3 =>
 ifV v3 (
 K (.tuple #[(.pointer none), (.int .i64 1500)]) h2) (
 T Try.prog 18 [a1, (.int .i64 1048576)] h2 fun v4 h5 =>
 bnd (unV .not v4) fun v6 =>
 ifV v6 (
 K (.tuple #[(.pointer none), (.int .i64 1500)]) h5) (
 T Try.prog 18 [a2, (.int .i64 16)] h5 fun v7 h8 =>
 bnd (unV .not v7) fun v9 =>
 ifV v9 (
 K (.tuple #[(.pointer none), (.int .i64 1500)]) h8) (
 bnd (fillV [(.int .i64 0), (.int .i64 0), (.int .i64 0), (.int .i64 0), (.pointer none), (.int .i64 0), (.int .i64 0), (.bool false)] [(0, 1, a0), (1, 1, a1), (2, 1, a2), (5, 1, (.int .i64 (-1)))]) fun c10 =>
 newV 62 ((.agg c10.toArray) : Value).cells.toList h8 fun v11 h12 =>
 K (.tuple #[v11, (.int .i64 0)]) h12)))
def A6 : Ann := ⟨fun _ => ([], []), fun _ => []⟩
theorem S6_T {a0 a1 a2 : Value} {h : GH} {K : Value → GH → Prop} (g : S6 a0 a1 a2 h K) : T Try.prog 6 [a0, a1, a2] h K :=
  T_of_gwp (A := A6) Try.func6 (c := bodyOf Try.f6) (by kernel_rfl) (by kernel_rfl) (by kernel_rfl) (by kernel_rfl) (by kernel_rfl) (Eq.mp (by kernel_rfl) g)

/-! ### pawl/pawllaw0.Num (7) -/
def S7 (a0 : Value) (h : GH) (K : Value → GH → Prop) : Prop :=
 K a0 h
def A7 : Ann := ⟨fun _ => ([], []), fun _ => []⟩
theorem S7_T {a0 : Value} {h : GH} {K : Value → GH → Prop} (g : S7 a0 h K) : T Try.prog 7 [a0] h K :=
  T_of_gwp (A := A7) Try.func7 (c := bodyOf Try.f7) (by kernel_rfl) (by kernel_rfl) (by kernel_rfl) (by kernel_rfl) (by kernel_rfl) (Eq.mp (by kernel_rfl) g)

/-! ### (*pawl/read.Read).Step (8) -/
def S8_j3 (x0 x1 x6 : Value) (h : GH) (K : Value → GH → Prop)  : Prop :=
 callV Try.prog x6 [x1] h fun v1 h2 =>
 bnd (eqI v1 (.int .i64 0)) fun b3 =>
 ifV (.bool (!b3)) (
 bnd (ncV x0) fun v4 =>
 bnd (faV 7 v4) fun v5 =>
 bnd (stV 1 v5 (.bool true) h2) fun h6 =>
 K (.tuple #[(.bool true), (.int .i64 1500)]) h6) (
 bnd (ncV x0) fun v7 =>
 bnd (faV 7 v7) fun v8 =>
 bnd (ldV 1 false v8 h2) fun v9 =>
 K (.tuple #[v9, (.int .i64 0)]) h2)

def S8_j2 (x0 x1 : Value) (h : GH) (K : Value → GH → Prop)  : Prop :=
 bnd (ncV x0) fun v1 =>
 bnd (faV 4 v1) fun v2 =>
 bnd (ldV 1 false v2 h) fun v3 =>
 bnd (eqK .ptr true v3 (.pointer none)) fun b4 =>
 ifV (.bool (!b4)) (
 S8_j3 x0 x1 (.func (.func 20) #[x0] #[]) h K ) (
 S8_j3 x0 x1 (.func (.func 19) #[x0] #[]) h K )

def S8_j1 (x0 x1 x8 : Value) (h : GH) (K : Value → GH → Prop)  : Prop :=
 ifV x8 (
 K (.tuple #[(.bool false), (.int .i64 1)]) h) (
 bnd (ncV x0) fun v1 =>
 bnd (faV 7 v1) fun v2 =>
 bnd (ldV 1 false v2 h) fun v3 =>
 ifV v3 (
 K (.tuple #[(.bool true), (.int .i64 0)]) h) (
 S8_j2 x0 x1 h K ))
def S8 (a0 a1 : Value) (h : GH) (K : Value → GH → Prop) : Prop :=
 bnd (eqK .ptr true a0 (.pointer none)) fun b1 =>
 ifV (.bool b1) (
 S8_j1 a0 a1 (.bool true) h K ) (
 bnd (eqK .ptr true a1 (.pointer none)) fun b2 =>
 S8_j1 a0 a1 (.bool b2) h K )
def A8 : Ann := ⟨fun _ => ([], []), fun _ => []⟩
theorem S8_T {a0 a1 : Value} {h : GH} {K : Value → GH → Prop} (g : S8 a0 a1 h K) : T Try.prog 8 [a0, a1] h K :=
  T_of_gwp (A := A8) Try.func8 (c := bodyOf Try.f8) (by kernel_rfl) (by kernel_rfl) (by kernel_rfl) (by kernel_rfl) (by kernel_rfl) (Eq.mp (by kernel_rfl) g)

/-! ### (*pawl/read.Read).Value (9) -/
def S9 (a0 : Value) (h : GH) (K : Value → GH → Prop) : Prop :=
 bnd (eqK .ptr true a0 (.pointer none)) fun b1 =>
 ifV (.bool b1) (
 K (.int .i64 0) h) (
 bnd (ncV a0) fun v2 =>
 bnd (faV 3 v2) fun v3 =>
 bnd (ldV 1 false v3 h) fun v4 =>
 K v4 h)
def A9 : Ann := ⟨fun _ => ([], []), fun _ => []⟩
theorem S9_T {a0 : Value} {h : GH} {K : Value → GH → Prop} (g : S9 a0 h K) : T Try.prog 9 [a0] h K :=
  T_of_gwp (A := A9) Try.func9 (c := bodyOf Try.f9) (by kernel_rfl) (by kernel_rfl) (by kernel_rfl) (by kernel_rfl) (by kernel_rfl) (Eq.mp (by kernel_rfl) g)

/-! ### (*pawl/read.Read).Through (10) -/
def S10 (a0 : Value) (h : GH) (K : Value → GH → Prop) : Prop :=
 bnd (eqK .ptr true a0 (.pointer none)) fun b1 =>
 ifV (.bool b1) (
 K (.tuple #[(.int .i64 0), (.int .i64 0)]) h) (
 bnd (ncV a0) fun v2 =>
 bnd (faV 5 v2) fun v3 =>
 bnd (ldV 1 false v3 h) fun v4 =>
 bnd (ncV a0) fun v5 =>
 bnd (faV 6 v5) fun v6 =>
 bnd (ldV 1 false v6 h) fun v7 =>
 K (.tuple #[v4, v7]) h)
def A10 : Ann := ⟨fun | 3 => ([0, 1, 2, 3, 4, 5, 6, 7, 8, 9], [0, 1, 3, 7, 0, 16, 48, 112, 15, 511]) | _ => ([], []), fun _ => []⟩
theorem S10_T {a0 : Value} {h : GH} {K : Value → GH → Prop} (g : S10 a0 h K) : T Try.prog 10 [a0] h K :=
  T_of_gwp (A := A10) Try.func10 (c := bodyOf Try.f10) (by kernel_rfl) (by kernel_rfl) (by kernel_rfl) (by kernel_rfl) (by kernel_rfl) (Eq.mp (by kernel_rfl) g)

/-! ### pawl/pawllaw15.pair (11) -/
def S11_j2 (s1 : Nat → Value) (x0 x1 x6 x7 x8 : Value) (h : GH) (K : Value → GH → Prop) (again3 : (Nat → Value) → GH → Prop) : Prop :=
 bnd (isV 1 x0 x8) fun v1 =>
 bnd (ldV 1 false v1 h) fun v2 =>
 bnd (cvV .u64 v2) fun v3 =>
 bnd (binV .rem v3 (.int .u64 634)) fun v4 =>
 bnd (cvV .i64 v4) fun v5 =>
 bnd (isV 1 x1 x8) fun v6 =>
 bnd (ldV 1 false v6 h) fun v7 =>
 T Try.prog 12 [x6, v5, v7] h fun v8 h9 =>
 bnd (isV 1 x1 x8) fun v10 =>
 bnd (ldV 1 false v10 h9) fun v11 =>
 T Try.prog 13 [x7, v5, v11] h9 fun v12 h13 =>
 bnd (binV .add x8 (.int .i64 1)) fun v14 =>
 again3 (tup [x0, x1, x6, x7, v14]) h13

def S11_j1 (x0 x1 x6 x7 : Value) (h : GH) (K : Value → GH → Prop)  : Prop :=
 Lfp (fun (s1 : Nat → Value) h2 again3 =>
 bnd (lnV (s1 0)) fun v4 =>
 bnd (binV .lss (s1 4) v4) fun v5 =>
 ifV v5 (
 bnd (lnV (s1 1)) fun v6 =>
 bnd (binV .lss (s1 4) v6) fun v7 =>
 ifV v7 (
 bnd (binV .lss (s1 4) (.int .i64 30)) fun v8 =>
 ifV v8 (
 S11_j2 s1 (s1 0) (s1 1) (s1 2) (s1 3) (s1 4) h2 K again3) (
 K (.tuple #[(s1 2), (s1 3)]) h2)) (
 K (.tuple #[(s1 2), (s1 3)]) h2)) (
 K (.tuple #[(s1 2), (s1 3)]) h2)) (tup [x0, x1, x6, x7, (.int .i64 0)]) h
def S11 (a0 a1 : Value) (h : GH) (K : Value → GH → Prop) : Prop :=
 T Try.prog 21 [] h fun v1 h2 =>
 T Try.prog 22 [] h2 fun v3 h4 =>
 bnd (eqK .ptr true v1 (.pointer none)) fun b5 =>
 ifV (.bool b5) (
 K (.tuple #[(.pointer none), (.pointer none)]) h4) (
 T Try.prog 23 [v1] h4 fun v6 h7 =>
 bnd (lnV v6) fun v8 =>
 bnd (eqI v8 (.int .i64 634)) fun b9 =>
 ifV (.bool (!b9)) (
 K (.tuple #[(.pointer none), (.pointer none)]) h7) (
 S11_j1 a0 a1 v1 v3 h7 K ))
def A11 : Ann := ⟨fun _ => ([], []), fun | 0 => [0, 1, 6, 7, 8] | _ => []⟩
theorem S11_T {a0 a1 : Value} {h : GH} {K : Value → GH → Prop} (g : S11 a0 a1 h K) : T Try.prog 11 [a0, a1] h K :=
  T_of_gwp (A := A11) Try.func11 (c := bodyOf Try.f11) (by kernel_rfl) (by kernel_rfl) (by kernel_rfl) (by kernel_rfl) (by kernel_rfl) (Eq.mp (by kernel_rfl) g)

/-! ### (*pawl/arena.Arena).Store (12) -/
def S12 (a0 a1 a2 : Value) (h : GH) (K : Value → GH → Prop) : Prop :=
 newV 3 (a2 : Value).cells.toList h fun v1 h2 =>
 T Try.prog 24 [a0, (.int .i64 1), a1, (.func (.func 25) #[] #[v1])] h2 fun v3 h4 =>
 bnd (exV v3 0) fun v5 =>
 bnd (exV v3 1) fun v6 =>
 K (.tuple #[v5, v6]) h4
def A12 : Ann := ⟨fun _ => ([], []), fun _ => []⟩
theorem S12_T {a0 a1 a2 : Value} {h : GH} {K : Value → GH → Prop} (g : S12 a0 a1 a2 h K) : T Try.prog 12 [a0, a1, a2] h K :=
  T_of_gwp (A := A12) Try.func12 (c := bodyOf Try.f12) (by kernel_rfl) (by kernel_rfl) (by kernel_rfl) (by kernel_rfl) (by kernel_rfl) (Eq.mp (by kernel_rfl) g)

/-! ### (*pawl/pawlref1.Arena).Store (13) -/
def S13 (a0 a1 a2 : Value) (h : GH) (K : Value → GH → Prop) : Prop :=
 T Try.prog 26 [a0, (.int .i64 1), a1, a2] h fun v1 h2 =>
 bnd (exV v1 0) fun v3 =>
 bnd (exV v1 1) fun v4 =>
 K (.tuple #[v3, v4]) h2
def A13 : Ann := ⟨fun _ => ([], []), fun _ => []⟩
theorem S13_T {a0 a1 a2 : Value} {h : GH} {K : Value → GH → Prop} (g : S13 a0 a1 a2 h K) : T Try.prog 13 [a0, a1, a2] h K :=
  T_of_gwp (A := A13) Try.func13 (c := bodyOf Try.f13) (by kernel_rfl) (by kernel_rfl) (by kernel_rfl) (by kernel_rfl) (by kernel_rfl) (Eq.mp (by kernel_rfl) g)

/-! ### pawl/pawlref10.NewWriter (14) -/
def S14_j1 (x0 x1 x2 : Value) (h : GH) (K : Value → GH → Prop)  : Prop :=
 T Try.prog 29 [x1, (.int .i64 0)] h fun v1 h2 =>
 bnd (lnV x2) fun v3 =>
 T Try.prog 30 [v3] h2 fun v4 h5 =>
 bsV 3 2 [(.int .i64 0), (.int .i64 0)] [(0, 1, v1), (1, 1, v4)] h5 fun v6 h7 =>
 bnd (fillV [(.int .i64 0), (.int .i64 0), (.slice none 0 0)] [(1, 1, x0), (2, 1, v6)]) fun c8 =>
 newV 74 ((.agg c8.toArray) : Value).cells.toList h7 fun v9 h10 =>
 Lfp (fun (s11 : Nat → Value) h12 again13 =>
 bnd (lnV (s11 0)) fun v14 =>
 bnd (binV .lss (s11 2) v14) fun v15 =>
 ifV v15 (
 bnd (ncV (s11 1)) fun v16 =>
 bnd (faV 2 v16) fun v17 =>
 bnd (ldV 1 false v17 h12) fun v18 =>
 bnd (isV 3 (s11 0) (s11 2)) fun v19 =>
 bnd (faV 0 v19) fun v20 =>
 bnd (ldV 1 false v20 h12) fun v21 =>
 bnd (isV 3 (s11 0) (s11 2)) fun v22 =>
 bnd (faV 1 v22) fun v23 =>
 bnd (ldV 1 false v23 h12) fun v24 =>
 bnd (isV 3 (s11 0) (s11 2)) fun v25 =>
 bnd (faV 2 v25) fun v26 =>
 bnd (ldV 1 false v26 h12) fun v27 =>
 T Try.prog 30 [v21] h12 fun v28 h29 =>
 ldV 1 false v26 h29 = some v27 ∧
 ldV 1 false v23 h29 = some v24 ∧
 ldV 1 false v17 h29 = some v18 ∧
 T Try.prog 30 [v24] h29 fun v30 h31 =>
 ldV 1 false v26 h31 = some v27 ∧
 ldV 1 false v17 h31 = some v18 ∧
 T Try.prog 30 [v27] h31 fun v32 h33 =>
 ldV 1 false v17 h33 = some v18 ∧
 bsV 3 3 [(.int .i64 0), (.int .i64 0), (.int .i64 0)] [(0, 1, v28), (1, 1, v30), (2, 1, v32)] h33 fun v34 h35 =>
 apV 3 1 8 v18 v34 h35 fun v36 h37 =>
 bnd (ncV (s11 1)) fun v38 =>
 bnd (faV 2 v38) fun v39 =>
 bnd (stV 1 v39 v36 h37) fun h40 =>
 bnd (binV .add (s11 2) (.int .i64 1)) fun v41 =>
 again13 (tup [(s11 0), (s11 1), v41]) h40) (
 K (.tuple #[(s11 1), (.int .i64 0)]) h12)) (tup [x2, v9, (.int .i64 0)]) h10
def S14 (a0 a1 a2 : Value) (h : GH) (K : Value → GH → Prop) : Prop :=
 T Try.prog 27 [a0, a1] h fun v1 h2 =>
 bnd (unV .not v1) fun v3 =>
 ifV v3 (
 K (.tuple #[(.pointer none), (.int .i64 1300)]) h2) (
 T Try.prog 28 [a2] h2 fun v4 h5 =>
 bnd (unV .not v4) fun v6 =>
 ifV v6 (
 K (.tuple #[(.pointer none), (.int .i64 1300)]) h5) (
 S14_j1 a0 a1 a2 h5 K ))
def A14 : Ann := ⟨fun | 7 => ([0, 1, 2, 3, 4, 5, 6, 7, 8, 9, 11, 12, 13, 14, 15, 17, 18, 19, 20, 21, 10, 16, 22, 23, 24, 25, 26, 27], [0, 0, 2, 6, 14, 0, 0, 96, 224, 480, 992, 0, 0, 6144, 14336, 30720, 65504, 0, 0, 393216, 917504, 1966080, 4194272, 8388576, 16777214, 33554431, 67108863, 134217727]) | _ => ([], []), fun | 0 => [2, 8, 9] | _ => []⟩
theorem S14_T {a0 a1 a2 : Value} {h : GH} {K : Value → GH → Prop} (g : S14 a0 a1 a2 h K) : T Try.prog 14 [a0, a1, a2] h K :=
  T_of_gwp (A := A14) Try.func14 (c := bodyOf Try.f14) (by kernel_rfl) (by kernel_rfl) (by kernel_rfl) (by kernel_rfl) (by kernel_rfl) (Eq.mp (by kernel_rfl) g)

/-! ### (*pawl/pawlref10.Writer).Step (15) -/
def S15_j1 (x0 : Value) (h : GH) (K : Value → GH → Prop)  : Prop :=
 bnd (ncV x0) fun v1 =>
 bnd (faV 0 v1) fun v2 =>
 bnd (ldV 1 false v2 h) fun v3 =>
 bnd (ncV x0) fun v4 =>
 bnd (faV 2 v4) fun v5 =>
 bnd (ldV 1 false v5 h) fun v6 =>
 bnd (lnV v6) fun v7 =>
 bnd (binV .geq v3 v7) fun v8 =>
 K (.tuple #[v8, (.int .i64 0)]) h
def S15 (a0 a1 : Value) (h : GH) (K : Value → GH → Prop) : Prop :=
 bnd (ncV a0) fun v1 =>
 bnd (faV 0 v1) fun v2 =>
 bnd (ldV 1 false v2 h) fun v3 =>
 bnd (ncV a0) fun v4 =>
 bnd (faV 2 v4) fun v5 =>
 bnd (ldV 1 false v5 h) fun v6 =>
 bnd (lnV v6) fun v7 =>
 bnd (binV .lss v3 v7) fun v8 =>
 ifV v8 (
 bnd (ncV a0) fun v9 =>
 bnd (faV 1 v9) fun v10 =>
 bnd (ldV 1 false v10 h) fun v11 =>
 bnd (ncV a0) fun v12 =>
 bnd (faV 0 v12) fun v13 =>
 bnd (ldV 1 false v13 h) fun v14 =>
 bnd (ncV a0) fun v15 =>
 bnd (faV 2 v15) fun v16 =>
 bnd (ldV 1 false v16 h) fun v17 =>
 bnd (ncV a0) fun v18 =>
 bnd (faV 0 v18) fun v19 =>
 bnd (ldV 1 false v19 h) fun v20 =>
 bnd (isV 1 v17 v20) fun v21 =>
 bnd (ldV 1 false v21 h) fun v22 =>
 T Try.prog 31 [v11] h fun v23 h24 =>
 ldV 1 false v21 h24 = some v22 ∧
 ldV 1 false v19 h24 = some v20 ∧
 ldV 1 false v16 h24 = some v17 ∧
 ldV 1 false v13 h24 = some v14 ∧
 bnd (binV .add v23 v14) fun v25 =>
 T Try.prog 13 [a1, v25, v22] h24 fun v26 h27 =>
 bnd (ncV a0) fun v28 =>
 bnd (faV 0 v28) fun v29 =>
 bnd (ldV 1 false v29 h27) fun v30 =>
 bnd (binV .add v30 (.int .i64 1)) fun v31 =>
 bnd (ncV a0) fun v32 =>
 bnd (faV 0 v32) fun v33 =>
 bnd (stV 1 v33 v31 h27) fun h34 =>
 S15_j1 a0 h34 K ) (
 S15_j1 a0 h K )
def A15 : Ann := ⟨fun | 1 => ([0, 1, 2, 3, 4, 5, 6, 7, 8, 9], [0, 1, 3, 7, 0, 16, 48, 112, 240, 511]) | 2 => ([0, 1, 2, 3, 4, 6, 7, 8, 9, 11, 12, 13, 14, 15, 16, 17, 18, 19, 20, 5, 10, 21], [0, 0, 2, 6, 14, 30, 0, 64, 192, 448, 1022, 0, 2048, 6144, 14336, 0, 32768, 98304, 229376, 522240, 1046528, 2097151]) | 4 => ([0, 1, 2, 3, 4, 5, 6, 7, 8, 9, 10, 11], [0, 1, 3, 7, 0, 16, 48, 112, 240, 511, 1023, 2047]) | _ => ([], []), fun _ => []⟩
theorem S15_T {a0 a1 : Value} {h : GH} {K : Value → GH → Prop} (g : S15 a0 a1 h K) : T Try.prog 15 [a0, a1] h K :=
  T_of_gwp (A := A15) Try.func15 (c := bodyOf Try.f15) (by kernel_rfl) (by kernel_rfl) (by kernel_rfl) (by kernel_rfl) (by kernel_rfl) (Eq.mp (by kernel_rfl) g)

/-! ### (*pawl/pawlref1.Arena).Last (16) -/
def S16 (a0 : Value) (h : GH) (K : Value → GH → Prop) : Prop :=
 newV 55 [(.int .i64 0), (.int .i64 0), (.int .i64 0), (.int .i64 0), (.int .i64 0), (.int .i64 0), (.int .i64 0), (.int .i64 0)] h fun v1 h2 =>
 bnd (ncV a0) fun v3 =>
 bnd (faV 634 v3) fun v4 =>
 bnd (ldV 8 true v4 h2) fun v5 =>
 bnd (ncV a0) fun v6 =>
 bnd (faV 642 v6) fun v7 =>
 bnd (ldV 1 false v7 h2) fun v8 =>
 bnd (stV 8 v1 v5 h2) fun h9 =>
 ldV 1 false v7 h9 = some v8 ∧
 bnd (ldV 8 true v1 h9) fun v10 =>
 K (.tuple #[v10, v8]) h9
def A16 : Ann := ⟨fun | 1 => ([0, 1, 2, 3, 4, 5, 6, 7, 8, 9], [0, 1, 3, 7, 0, 16, 48, 112, 15, 511]) | _ => ([], []), fun _ => []⟩
theorem S16_T {a0 : Value} {h : GH} {K : Value → GH → Prop} (g : S16 a0 h K) : T Try.prog 16 [a0] h K :=
  T_of_gwp (A := A16) Try.func16 (c := bodyOf Try.f16) (by kernel_rfl) (by kernel_rfl) (by kernel_rfl) (by kernel_rfl) (by kernel_rfl) (Eq.mp (by kernel_rfl) g)

/-! ### pawl/epoch.ThreadMay (17) -/
def S17 (a0 : Value) (h : GH) (K : Value → GH → Prop) : Prop :=
 T Try.prog 18 [a0, (.int .i64 4)] h fun v1 h2 =>
 K v1 h2
def A17 : Ann := ⟨fun _ => ([], []), fun _ => []⟩
theorem S17_T {a0 : Value} {h : GH} {K : Value → GH → Prop} (g : S17 a0 h K) : T Try.prog 17 [a0] h K :=
  T_of_gwp (A := A17) Try.func17 (c := bodyOf Try.f17) (by kernel_rfl) (by kernel_rfl) (by kernel_rfl) (by kernel_rfl) (by kernel_rfl) (Eq.mp (by kernel_rfl) g)

/-! ### pawl/word.Below (18) -/
def S18 (a0 a1 : Value) (h : GH) (K : Value → GH → Prop) : Prop :=
 bnd (binV .geq a0 (.int .i64 0)) fun v1 =>
 ifV v1 (
 bnd (binV .lss a0 a1) fun v2 =>
 K v2 h) (
 K (.bool false) h)
def A18 : Ann := ⟨fun _ => ([], []), fun _ => []⟩
theorem S18_T {a0 a1 : Value} {h : GH} {K : Value → GH → Prop} (g : S18 a0 a1 h K) : T Try.prog 18 [a0, a1] h K :=
  T_of_gwp (A := A18) Try.func18 (c := bodyOf Try.f18) (by kernel_rfl) (by kernel_rfl) (by kernel_rfl) (by kernel_rfl) (by kernel_rfl) (Eq.mp (by kernel_rfl) g)

/-! ### (*pawl/read.Read).load (19) -/
def S19 (a0 a1 : Value) (h : GH) (K : Value → GH → Prop) : Prop :=
 bnd (ncV a0) fun v1 =>
 bnd (faV 2 v1) fun v2 =>
 bnd (ldV 1 false v2 h) fun v3 =>
 T Try.prog 32 [a1, v3] h fun v4 h5 =>
 bnd (exV v4 0) fun v6 =>
 bnd (exV v4 1) fun v7 =>
 bnd (ncV a0) fun v8 =>
 bnd (faV 5 v8) fun v9 =>
 bnd (stV 1 v9 (.int .i64 (-1)) h5) fun h10 =>
 bnd (ncV a0) fun v11 =>
 bnd (faV 6 v11) fun v12 =>
 bnd (stV 1 v12 (.int .i64 0) h10) fun h13 =>
 T Try.prog 33 [v6] h13 fun v14 h15 =>
 bnd (exV v14 0) fun v16 =>
 bnd (exV v14 1) fun v17 =>
 ifV v17 (
 bnd (ncV a0) fun v18 =>
 bnd (faV 3 v18) fun v19 =>
 bnd (stV 1 v19 v16 h15) fun h20 =>
 bnd (ncV a0) fun v21 =>
 bnd (faV 7 v21) fun v22 =>
 bnd (stV 1 v22 (.bool true) h20) fun h23 =>
 K (.int .i64 0) h23) (
 bnd (ncV a0) fun v24 =>
 bnd (faV 0 v24) fun v25 =>
 bnd (ldV 1 false v25 h15) fun v26 =>
 bnd (ncV a0) fun v27 =>
 bnd (faV 1 v27) fun v28 =>
 bnd (ldV 1 false v28 h15) fun v29 =>
 T Try.prog 34 [v26, v29, v6] h15 fun v30 h31 =>
 bnd (exV v30 0) fun v32 =>
 bnd (exV v30 1) fun v33 =>
 bnd (ncV a0) fun v34 =>
 bnd (faV 4 v34) fun v35 =>
 bnd (stV 1 v35 v32 h31) fun h36 =>
 K v33 h36)
def A19 : Ann := ⟨fun | 7 => ([0, 1, 2, 3, 4, 5, 6, 7, 8, 9, 10, 11, 12, 13, 14], [0, 1, 3, 7, 0, 16, 48, 112, 0, 511, 1023, 2047, 2047, 4095, 16383]) | _ => ([], []), fun _ => []⟩
theorem S19_T {a0 a1 : Value} {h : GH} {K : Value → GH → Prop} (g : S19 a0 a1 h K) : T Try.prog 19 [a0, a1] h K :=
  T_of_gwp (A := A19) Try.func19 (c := bodyOf Try.f19) (by kernel_rfl) (by kernel_rfl) (by kernel_rfl) (by kernel_rfl) (by kernel_rfl) (Eq.mp (by kernel_rfl) g)

/-! ### (*pawl/read.Read).helping (20) -/
def S20 (a0 a1 : Value) (h : GH) (K : Value → GH → Prop) : Prop :=
 bnd (ncV a0) fun v1 =>
 bnd (faV 4 v1) fun v2 =>
 bnd (ldV 1 false v2 h) fun v3 =>
 T Try.prog 35 [v3, a1] h fun v4 h5 =>
 bnd (exV v4 0) fun v6 =>
 bnd (exV v4 1) fun v7 =>
 bnd (ncV a0) fun v8 =>
 bnd (faV 4 v8) fun v9 =>
 bnd (ldV 1 false v9 h5) fun v10 =>
 T Try.prog 36 [v10] h5 fun v11 h12 =>
 bnd (exV v11 0) fun v13 =>
 bnd (exV v11 1) fun v14 =>
 bnd (ncV a0) fun v15 =>
 bnd (faV 5 v15) fun v16 =>
 bnd (stV 1 v16 v13 h12) fun h17 =>
 bnd (ncV a0) fun v18 =>
 bnd (faV 6 v18) fun v19 =>
 bnd (stV 1 v19 v14 h17) fun h20 =>
 bnd (ncV a0) fun v21 =>
 bnd (faV 4 v21) fun v22 =>
 bnd (ldV 1 false v22 h20) fun v23 =>
 T Try.prog 37 [v23] h20 fun v24 h25 =>
 bnd (ncV a0) fun v26 =>
 bnd (faV 1 v26) fun v27 =>
 bnd (stV 1 v27 v24 h25) fun h28 =>
 ifV v6 (
 bnd (ncV a0) fun v29 =>
 bnd (faV 4 v29) fun v30 =>
 bnd (stV 1 v30 (.pointer none) h28) fun h31 =>
 K v7 h31) (
 K v7 h28)
def A20 : Ann := ⟨fun _ => ([], []), fun _ => []⟩
theorem S20_T {a0 a1 : Value} {h : GH} {K : Value → GH → Prop} (g : S20 a0 a1 h K) : T Try.prog 20 [a0, a1] h K :=
  T_of_gwp (A := A20) Try.func20 (c := bodyOf Try.f20) (by kernel_rfl) (by kernel_rfl) (by kernel_rfl) (by kernel_rfl) (by kernel_rfl) (Eq.mp (by kernel_rfl) g)

/-! ### pawl/arena.New (21) -/
def S21 (h : GH) (K : Value → GH → Prop) : Prop :=
 bnd (fillV (List.replicate 642 (.int .i64 0) ++ [(.bool false)]) []) fun c1 =>
 newV 84 ((.agg c1.toArray) : Value).cells.toList h fun v2 h3 =>
 bnd (ncV v2) fun v4 =>
 bnd (faV 0 v4) fun v5 =>
 T Try.prog 38 [(.int .i64 1)] h3 fun v6 h7 =>
 bnd (iaV 634 1 v5 (.int .i64 16)) fun v8 =>
 bnd (stV 1 v8 v6 h7) fun h9 =>
 Lfp (fun (s10 : Nat → Value) h11 again12 =>
 bnd (binV .lss (s10 1) (.int .i64 11)) fun v13 =>
 ifV v13 (
 bnd (binV .add (.int .i64 17) (s10 1)) fun v14 =>
 bnd (binV .add (s10 1) (.int .i64 2)) fun v15 =>
 bnd (ncV (s10 0)) fun v16 =>
 bnd (faV 0 v16) fun v17 =>
 T Try.prog 38 [v15] h11 fun v18 h19 =>
 bnd (iaV 634 1 v17 v14) fun v20 =>
 bnd (stV 1 v20 v18 h19) fun h21 =>
 bnd (binV .add (s10 1) (.int .i64 1)) fun v22 =>
 again12 (tup [(s10 0), v22]) h21) (
 K (s10 0) h11)) (tup [v2, (.int .i64 0)]) h9
def A21 : Ann := ⟨fun | 2 => ([0, 2, 3, 1, 4, 5], [0, 0, 1, 5, 15, 31]) | 6 => ([0, 1, 2, 3, 4, 6, 7, 5, 8, 9], [0, 0, 2, 0, 8, 24, 1, 65, 255, 511]) | _ => ([], []), fun | 0 => [1, 10] | _ => []⟩
theorem S21_T {h : GH} {K : Value → GH → Prop} (g : S21 h K) : T Try.prog 21 [] h K :=
  T_of_gwp (A := A21) Try.func21 (c := bodyOf Try.f21) (by kernel_rfl) (by kernel_rfl) (by kernel_rfl) (by kernel_rfl) (by kernel_rfl) (Eq.mp (by kernel_rfl) g)

/-! ### pawl/pawlref1.NewArena (22) -/
def S22 (h : GH) (K : Value → GH → Prop) : Prop :=
 bnd (fillV (List.replicate 642 (.int .i64 0) ++ [(.bool false)]) []) fun c1 =>
 newV 77 ((.agg c1.toArray) : Value).cells.toList h fun v2 h3 =>
 bnd (ncV v2) fun v4 =>
 bnd (faV 0 v4) fun v5 =>
 T Try.prog 30 [(.int .i64 1)] h3 fun v6 h7 =>
 bnd (iaV 634 1 v5 (.int .i64 16)) fun v8 =>
 bnd (stV 1 v8 v6 h7) fun h9 =>
 Lfp (fun (s10 : Nat → Value) h11 again12 =>
 bnd (binV .add (s10 1) (.int .i64 1)) fun v13 =>
 bnd (binV .lss v13 (.int .i64 12)) fun v14 =>
 ifV v14 (
 bnd (binV .add (.int .i64 17) (s10 1)) fun v15 =>
 bnd (binV .add (s10 1) (.int .i64 2)) fun v16 =>
 bnd (ncV (s10 0)) fun v17 =>
 bnd (faV 0 v17) fun v18 =>
 T Try.prog 30 [v16] h11 fun v19 h20 =>
 bnd (iaV 634 1 v18 v15) fun v21 =>
 bnd (stV 1 v21 v19 h20) fun h22 =>
 bnd (binV .add (s10 1) (.int .i64 1)) fun v23 =>
 again12 (tup [(s10 0), v23]) h22) (
 K (s10 0) h11)) (tup [v2, (.int .i64 0)]) h9
def A22 : Ann := ⟨fun | 2 => ([0, 2, 3, 1, 4, 5], [0, 0, 1, 5, 15, 31]) | 6 => ([0, 1, 2, 3, 4, 6, 7, 5, 8, 9], [0, 0, 2, 0, 8, 24, 1, 65, 255, 511]) | _ => ([], []), fun | 0 => [1, 2] | _ => []⟩
theorem S22_T {h : GH} {K : Value → GH → Prop} (g : S22 h K) : T Try.prog 22 [] h K :=
  T_of_gwp (A := A22) Try.func22 (c := bodyOf Try.f22) (by kernel_rfl) (by kernel_rfl) (by kernel_rfl) (by kernel_rfl) (by kernel_rfl) (Eq.mp (by kernel_rfl) g)

/-! ### (*pawl/arena.Arena).All (23) -/
def S23 (a0 : Value) (h : GH) (K : Value → GH → Prop) : Prop :=
 bnd (eqK .ptr true a0 (.pointer none)) fun b1 =>
 ifV (.bool b1) (
 K (.slice none 0 0) h) (
 bnd (ncV a0) fun v2 =>
 bnd (faV 0 v2) fun v3 =>
 bnd (saV 634 1 v3 none none) fun v4 =>
 T Try.prog 39 [v4] h fun v5 h6 =>
 K v5 h6)
def A23 : Ann := ⟨fun _ => ([], []), fun _ => []⟩
theorem S23_T {a0 : Value} {h : GH} {K : Value → GH → Prop} (g : S23 a0 h K) : T Try.prog 23 [a0] h K :=
  T_of_gwp (A := A23) Try.func23 (c := bodyOf Try.f23) (by kernel_rfl) (by kernel_rfl) (by kernel_rfl) (by kernel_rfl) (by kernel_rfl) (Eq.mp (by kernel_rfl) g)

/-! ### (*pawl/arena.Arena).touch (24) -/
def S24 (a0 a1 a2 a3 : Value) (h : GH) (K : Value → GH → Prop) : Prop :=
 bnd (eqK .ptr true a0 (.pointer none)) fun b1 =>
 ifV (.bool b1) (
 K (.tuple #[(.int .i64 0), (.int .i64 1)]) h) (
 T Try.prog 18 [a2, (.int .i64 634)] h fun v2 h3 =>
 bnd (unV .not v2) fun v4 =>
 ifV v4 (
 K (.tuple #[(.int .i64 0), (.int .i64 200)]) h3) (
 bnd (ncV a0) fun v5 =>
 bnd (faV 0 v5) fun v6 =>
 bnd (iaV 634 1 v6 a2) fun v7 =>
 bnd (ldV 1 false v7 h3) fun v8 =>
 bnd (ncV a0) fun v9 =>
 bnd (faV 0 v9) fun v10 =>
 callV Try.prog a3 [v8] h3 fun v11 h12 =>
 bnd (iaV 634 1 v10 a2) fun v13 =>
 bnd (stV 1 v13 v11 h12) fun h14 =>
 bnd (ncV a0) fun v15 =>
 bnd (faV 0 v15) fun v16 =>
 bnd (iaV 634 1 v16 a2) fun v17 =>
 bnd (ldV 1 false v17 h14) fun v18 =>
 bnd (fillV [(.int .i64 0), (.int .i64 0), (.int .i64 0), (.int .i64 0), (.int .i64 0), (.int .i64 0), (.int .i64 0), (.int .i64 0)] [(1, 1, a1), (2, 1, a2), (3, 1, v8), (4, 1, v18)]) fun c19 =>
 bnd (ncV a0) fun v20 =>
 bnd (faV 634 v20) fun v21 =>
 bnd (stV 8 v21 (.agg c19.toArray) h14) fun h22 =>
 bnd (ncV a0) fun v23 =>
 bnd (faV 642 v23) fun v24 =>
 bnd (stV 1 v24 (.bool true) h22) fun h25 =>
 K (.tuple #[v8, (.int .i64 0)]) h25))
def A24 : Ann := ⟨fun | 6 => ([0, 1, 2, 3, 5, 6, 4, 7, 8], [0, 0, 0, 0, 12, 1, 33, 127, 255]) | _ => ([], []), fun _ => []⟩
theorem S24_T {a0 a1 a2 a3 : Value} {h : GH} {K : Value → GH → Prop} (g : S24 a0 a1 a2 a3 h K) : T Try.prog 24 [a0, a1, a2, a3] h K :=
  T_of_gwp (A := A24) Try.func24 (c := bodyOf Try.f24) (by kernel_rfl) (by kernel_rfl) (by kernel_rfl) (by kernel_rfl) (by kernel_rfl) (Eq.mp (by kernel_rfl) g)

/-! ### (*pawl/arena.Arena).Store$1 (25) -/
def S25 (a0 a1 : Value) (h : GH) (K : Value → GH → Prop) : Prop :=
 bnd (ldV 1 false a1 h) fun v1 =>
 K v1 h
def A25 : Ann := ⟨fun _ => ([], []), fun _ => []⟩
theorem S25_T {a0 a1 : Value} {h : GH} {K : Value → GH → Prop} (g : S25 a0 a1 h K) : T Try.prog 25 [a0, a1] h K :=
  T_of_gwp (A := A25) Try.func25 (c := bodyOf Try.f25) (by kernel_rfl) (by kernel_rfl) (by kernel_rfl) (by kernel_rfl) (by kernel_rfl) (Eq.mp (by kernel_rfl) g)

/-! ### (*pawl/pawlref1.Arena).touch (26) -/
def S26_j1 (x0 x1 x2 x3 : Value) (h : GH) (K : Value → GH → Prop)  : Prop :=
 bnd (ncV x0) fun v1 =>
 bnd (faV 0 v1) fun v2 =>
 bnd (iaV 634 1 v2 x2) fun v3 =>
 bnd (ldV 1 false v3 h) fun v4 =>
 bnd (fillV [(.int .i64 0), (.int .i64 0), (.int .i64 0), (.int .i64 0), (.int .i64 0), (.int .i64 0), (.int .i64 0), (.int .i64 0)] [(1, 1, x1), (2, 1, x2), (3, 1, v4), (4, 1, x3)]) fun c5 =>
 bnd (ncV x0) fun v6 =>
 bnd (faV 634 v6) fun v7 =>
 bnd (stV 8 v7 (.agg c5.toArray) h) fun h8 =>
 bnd (ncV x0) fun v9 =>
 bnd (faV 642 v9) fun v10 =>
 bnd (stV 1 v10 (.bool true) h8) fun h11 =>
 bnd (ncV x0) fun v12 =>
 bnd (faV 0 v12) fun v13 =>
 bnd (iaV 634 1 v13 x2) fun v14 =>
 bnd (stV 1 v14 x3 h11) fun h15 =>
 K (.tuple #[v4, (.int .i64 0)]) h15
def S26 (a0 a1 a2 a3 : Value) (h : GH) (K : Value → GH → Prop) : Prop :=
 bnd (binV .lss a2 (.int .i64 0)) fun v1 =>
 ifV v1 (
 K (.tuple #[(.int .i64 0), (.int .i64 200)]) h) (
 bnd (binV .geq a2 (.int .i64 634)) fun v2 =>
 ifV v2 (
 K (.tuple #[(.int .i64 0), (.int .i64 200)]) h) (
 S26_j1 a0 a1 a2 a3 h K ))
def A26 : Ann := ⟨fun _ => ([], []), fun _ => []⟩
theorem S26_T {a0 a1 a2 a3 : Value} {h : GH} {K : Value → GH → Prop} (g : S26 a0 a1 a2 a3 h K) : T Try.prog 26 [a0, a1, a2, a3] h K :=
  T_of_gwp (A := A26) Try.func26 (c := bodyOf Try.f26) (by kernel_rfl) (by kernel_rfl) (by kernel_rfl) (by kernel_rfl) (by kernel_rfl) (Eq.mp (by kernel_rfl) g)

/-! ### pawl/pawlref10.lifeMay (27) -/
def S27 (a0 a1 : Value) (h : GH) (K : Value → GH → Prop) : Prop :=
 bnd (binV .geq a0 (.int .i64 0)) fun v1 =>
 ifV v1 (
 bnd (binV .lss a0 (.int .i64 12)) fun v2 =>
 ifV v2 (
 bnd (binV .geq a1 (.int .i64 0)) fun v3 =>
 ifV v3 (
 bnd (binV .leq a1 (.int .i64 65535)) fun v4 =>
 K v4 h) (
 K (.bool false) h)) (
 K (.bool false) h)) (
 K (.bool false) h)
def A27 : Ann := ⟨fun _ => ([], []), fun _ => []⟩
theorem S27_T {a0 a1 : Value} {h : GH} {K : Value → GH → Prop} (g : S27 a0 a1 h K) : T Try.prog 27 [a0, a1] h K :=
  T_of_gwp (A := A27) Try.func27 (c := bodyOf Try.f27) (by kernel_rfl) (by kernel_rfl) (by kernel_rfl) (by kernel_rfl) (by kernel_rfl) (Eq.mp (by kernel_rfl) g)

/-! ### pawl/pawlref10.swapsMay (28) -/
def S28 (a0 : Value) (h : GH) (K : Value → GH → Prop) : Prop :=
 bnd (lnV a0) fun v1 =>
 bnd (binV .gtr v1 (.int .i64 16)) fun v2 =>
 ifV v2 (
 K (.bool false) h) (
 Lfp (fun (s3 : Nat → Value) h4 again5 =>
 bnd (lnV (s3 0)) fun v6 =>
 bnd (binV .lss (s3 1) v6) fun v7 =>
 ifV v7 (
 bnd (isV 3 (s3 0) (s3 1)) fun v8 =>
 bnd (ldV 3 true v8 h4) fun v9 =>
 newV 27 [(.int .i64 0), (.int .i64 0), (.int .i64 0)] h4 fun v10 h11 =>
 bnd (stV 3 v10 v9 h11) fun h12 =>
 bnd (faV 0 v10) fun v13 =>
 bnd (ldV 1 false v13 h12) fun v14 =>
 bnd (binV .lss v14 (.int .i64 0)) fun v15 =>
 ifV v15 (
 K (.bool false) h12) (
 bnd (faV 0 v10) fun v16 =>
 bnd (ldV 1 false v16 h12) fun v17 =>
 bnd (binV .geq v17 (.int .i64 16)) fun v18 =>
 ifV v18 (
 K (.bool false) h12) (
 bnd (binV .gtr (s3 1) (.int .i64 0)) fun v19 =>
 ifV v19 (
 bnd (faV 0 v10) fun v20 =>
 bnd (ldV 1 false v20 h12) fun v21 =>
 bnd (binV .sub (s3 1) (.int .i64 1)) fun v22 =>
 bnd (isV 3 (s3 0) v22) fun v23 =>
 bnd (faV 0 v23) fun v24 =>
 bnd (ldV 1 false v24 h12) fun v25 =>
 bnd (binV .leq v21 v25) fun v26 =>
 ifV v26 (
 K (.bool false) h12) (
 bnd (faV 1 v10) fun v27 =>
 bnd (ldV 1 false v27 h12) fun v28 =>
 bnd (binV .lss v28 (.int .i64 0)) fun v29 =>
 ifV v29 (
 K (.bool false) h12) (
 bnd (faV 1 v10) fun v30 =>
 bnd (ldV 1 false v30 h12) fun v31 =>
 bnd (binV .gtr v31 (.int .i64 1099511627775)) fun v32 =>
 ifV v32 (
 K (.bool false) h12) (
 bnd (faV 2 v10) fun v33 =>
 bnd (ldV 1 false v33 h12) fun v34 =>
 bnd (binV .lss v34 (.int .i64 0)) fun v35 =>
 ifV v35 (
 K (.bool false) h12) (
 bnd (faV 2 v10) fun v36 =>
 bnd (ldV 1 false v36 h12) fun v37 =>
 bnd (binV .gtr v37 (.int .i64 1099511627775)) fun v38 =>
 ifV v38 (
 K (.bool false) h12) (
 bnd (binV .add (s3 1) (.int .i64 1)) fun v39 =>
 again5 (tup [(s3 0), v39]) h12)))))) (
 bnd (faV 1 v10) fun v40 =>
 bnd (ldV 1 false v40 h12) fun v41 =>
 bnd (binV .lss v41 (.int .i64 0)) fun v42 =>
 ifV v42 (
 K (.bool false) h12) (
 bnd (faV 1 v10) fun v43 =>
 bnd (ldV 1 false v43 h12) fun v44 =>
 bnd (binV .gtr v44 (.int .i64 1099511627775)) fun v45 =>
 ifV v45 (
 K (.bool false) h12) (
 bnd (faV 2 v10) fun v46 =>
 bnd (ldV 1 false v46 h12) fun v47 =>
 bnd (binV .lss v47 (.int .i64 0)) fun v48 =>
 ifV v48 (
 K (.bool false) h12) (
 bnd (faV 2 v10) fun v49 =>
 bnd (ldV 1 false v49 h12) fun v50 =>
 bnd (binV .gtr v50 (.int .i64 1099511627775)) fun v51 =>
 ifV v51 (
 K (.bool false) h12) (
 bnd (binV .add (s3 1) (.int .i64 1)) fun v52 =>
 again5 (tup [(s3 0), v52]) h12)))))))) (
 K (.bool true) h4)) (tup [a0, (.int .i64 0)]) h)
def A28 : Ann := ⟨fun | 7 => ([0, 1, 2, 3, 4, 5, 6, 7, 8, 9, 10, 11, 12, 13, 14, 15, 16, 17, 18, 19, 20, 21, 22, 23, 24, 25, 26, 27, 28, 29, 30, 31, 32, 33, 34, 35, 36, 37, 38, 39, 40, 41, 42], [0, 1, 3, 7, 15, 31, 63, 127, 255, 511, 1023, 2047, 4095, 8191, 4095, 4095, 36863, 118783, 249855, 511999, 1048575, 2097151, 4194303, 8388607, 16777215, 33554431, 67108863, 134217727, 268435455, 536870911, 1073741823, 2147483647, 4294967295, 8589934591, 17179869183, 34359738367, 68719476735, 137438953471, 274877906943, 549755813887, 1099511627775, 2199023255551, 4398046511103]) | _ => ([], []), fun | 0 => [0, 3] | _ => []⟩
theorem S28_T {a0 : Value} {h : GH} {K : Value → GH → Prop} (g : S28 a0 h K) : T Try.prog 28 [a0] h K :=
  T_of_gwp (A := A28) Try.func28 (c := bodyOf Try.f28) (by kernel_rfl) (by kernel_rfl) (by kernel_rfl) (by kernel_rfl) (by kernel_rfl) (Eq.mp (by kernel_rfl) g)

/-! ### pawl/pawlref10.StateWord (29) -/
def S29 (a0 a1 : Value) (h : GH) (K : Value → GH → Prop) : Prop :=
 bnd (binV .mul (.int .i64 4) a0) fun v1 =>
 bnd (binV .add v1 a1) fun v2 =>
 T Try.prog 30 [v2] h fun v3 h4 =>
 K v3 h4
def A29 : Ann := ⟨fun _ => ([], []), fun _ => []⟩
theorem S29_T {a0 a1 : Value} {h : GH} {K : Value → GH → Prop} (g : S29 a0 a1 h K) : T Try.prog 29 [a0, a1] h K :=
  T_of_gwp (A := A29) Try.func29 (c := bodyOf Try.f29) (by kernel_rfl) (by kernel_rfl) (by kernel_rfl) (by kernel_rfl) (by kernel_rfl) (Eq.mp (by kernel_rfl) g)

/-! ### pawl/pawlref1.Value (30) -/
def S30 (a0 : Value) (h : GH) (K : Value → GH → Prop) : Prop :=
 bnd (binV .mul (.int .i64 4) a0) fun v1 =>
 K v1 h
def A30 : Ann := ⟨fun _ => ([], []), fun _ => []⟩
theorem S30_T {a0 : Value} {h : GH} {K : Value → GH → Prop} (g : S30 a0 h K) : T Try.prog 30 [a0] h K :=
  T_of_gwp (A := A30) Try.func30 (c := bodyOf Try.f30) (by kernel_rfl) (by kernel_rfl) (by kernel_rfl) (by kernel_rfl) (by kernel_rfl) (Eq.mp (by kernel_rfl) g)

/-! ### pawl/pawlref10.Base (31) -/
def S31 (a0 : Value) (h : GH) (K : Value → GH → Prop) : Prop :=
 bnd (binV .mul (.int .i64 50) a0) fun v1 =>
 bnd (binV .add (.int .i64 34) v1) fun v2 =>
 K v2 h
def A31 : Ann := ⟨fun _ => ([], []), fun _ => []⟩
theorem S31_T {a0 : Value} {h : GH} {K : Value → GH → Prop} (g : S31 a0 h K) : T Try.prog 31 [a0] h K :=
  T_of_gwp (A := A31) Try.func31 (c := bodyOf Try.f31) (by kernel_rfl) (by kernel_rfl) (by kernel_rfl) (by kernel_rfl) (by kernel_rfl) (Eq.mp (by kernel_rfl) g)

/-! ### (*pawl/arena.Arena).Load (32) -/
def S32 (a0 a1 : Value) (h : GH) (K : Value → GH → Prop) : Prop :=
 T Try.prog 24 [a0, (.int .i64 0), a1, (.func (.func 40) #[] #[])] h fun v1 h2 =>
 bnd (exV v1 0) fun v3 =>
 bnd (exV v1 1) fun v4 =>
 K (.tuple #[v3, v4]) h2
def A32 : Ann := ⟨fun _ => ([], []), fun _ => []⟩
theorem S32_T {a0 a1 : Value} {h : GH} {K : Value → GH → Prop} (g : S32 a0 a1 h K) : T Try.prog 32 [a0, a1] h K :=
  T_of_gwp (A := A32) Try.func32 (c := bodyOf Try.f32) (by kernel_rfl) (by kernel_rfl) (by kernel_rfl) (by kernel_rfl) (by kernel_rfl) (Eq.mp (by kernel_rfl) g)

/-! ### pawl/word.Plain (33) -/
def S33 (a0 : Value) (h : GH) (K : Value → GH → Prop) : Prop :=
 T Try.prog 41 [a0] h fun v1 h2 =>
 bnd (taV 86 (.int .i64 0) true v1) fun v3 =>
 bnd (exV v3 0) fun v4 =>
 bnd (exV v3 1) fun v5 =>
 K (.tuple #[v4, v5]) h2
def A33 : Ann := ⟨fun _ => ([], []), fun _ => []⟩
theorem S33_T {a0 : Value} {h : GH} {K : Value → GH → Prop} (g : S33 a0 h K) : T Try.prog 33 [a0] h K :=
  T_of_gwp (A := A33) Try.func33 (c := bodyOf Try.f33) (by kernel_rfl) (by kernel_rfl) (by kernel_rfl) (by kernel_rfl) (by kernel_rfl) (Eq.mp (by kernel_rfl) g)

/-! ### pawl/mcas.New (34) -/
def S34_j1 (x8 x9 : Value) (h : GH) (K : Value → GH → Prop)  : Prop :=
 bsV 98 1 [.nilIface] [(0, 1, x9)] h fun v1 h2 =>
 bnd (ncV x8) fun v3 =>
 bnd (faV 2 v3) fun v4 =>
 bnd (stV 1 v4 v1 h2) fun h5 =>
 K (.tuple #[x8, (.int .i64 0)]) h5
def S34 (a0 a1 a2 : Value) (h : GH) (K : Value → GH → Prop) : Prop :=
 bnd (fillV [(.int .i64 0), (.int .i64 0)] [(0, 1, a0), (1, 1, a1)]) fun c1 =>
 bnd (fillV [(.int .i64 0), (.int .i64 0), (.slice none 0 0), (.pointer none), (.bool false), (.bool false)] [(0, 2, (.agg c1.toArray))]) fun c2 =>
 newV 96 ((.agg c2.toArray) : Value).cells.toList h fun v3 h4 =>
 bnd (ncV v3) fun v5 =>
 bnd (faV 0 v5) fun v6 =>
 T Try.prog 41 [a2] h4 fun v7 h8 =>
 T Try.prog 42 [v7, v6] h8 fun v9 h10 =>
 T Try.prog 17 [a0] h10 fun v11 h12 =>
 bnd (unV .not v11) fun v13 =>
 ifV v13 (
 K (.tuple #[(.pointer none), (.int .i64 1400)]) h12) (
 T Try.prog 18 [a1, (.int .i64 1048576)] h12 fun v14 h15 =>
 bnd (unV .not v14) fun v16 =>
 ifV v16 (
 K (.tuple #[(.pointer none), (.int .i64 1400)]) h15) (
 bnd (eqK .iface true v9 .nilIface) fun b17 =>
 ifV (.bool b17) (
 K (.tuple #[(.pointer none), (.int .i64 1400)]) h15) (
 S34_j1 v3 v9 h15 K )))
def A34 : Ann := ⟨fun | 2 => ([0, 2, 3, 4, 1, 5, 6], [0, 1, 0, 4, 12, 31, 63]) | _ => ([], []), fun _ => []⟩
theorem S34_T {a0 a1 a2 : Value} {h : GH} {K : Value → GH → Prop} (g : S34 a0 a1 a2 h K) : T Try.prog 34 [a0, a1, a2] h K :=
  T_of_gwp (A := A34) Try.func34 (c := bodyOf Try.f34) (by kernel_rfl) (by kernel_rfl) (by kernel_rfl) (by kernel_rfl) (by kernel_rfl) (Eq.mp (by kernel_rfl) g)

/-! ### (*pawl/mcas.Help).Step (35) -/
def S35_j4 (x0 x6 x7 x10 : Value) (h : GH) (K : Value → GH → Prop)  : Prop :=
 ifV x10 (
 bnd (ncV x0) fun v1 =>
 bnd (faV 2 v1) fun v2 =>
 bnd (ldV 1 false v2 h) fun v3 =>
 bnd (slV 1 v3 none (some x6)) fun v4 =>
 bnd (eqI x6 (.int .i64 0)) fun b5 =>
 bnd (ncV x0) fun v6 =>
 bnd (faV 2 v6) fun v7 =>
 bnd (stV 1 v7 v4 h) fun h8 =>
 bnd (ncV x0) fun v9 =>
 bnd (faV 5 v9) fun v10 =>
 bnd (stV 1 v10 (.bool b5) h8) fun h11 =>
 bnd (taV 106 (.pointer none) true x7) fun v12 =>
 bnd (exV v12 0) fun v13 =>
 bnd (exV v12 1) fun v14 =>
 bnd (ncV x0) fun v15 =>
 bnd (faV 5 v15) fun v16 =>
 bnd (ldV 1 false v16 h11) fun v17 =>
 ifV v17 (
 ifV v14 (
 bnd (ncV v13) fun v18 =>
 bnd (faV 0 v18) fun v19 =>
 bnd (faV 5 v19) fun v20 =>
 bnd (ldV 1 false v20 h11) fun v21 =>
 bnd (ncV x0) fun v22 =>
 bnd (faV 4 v22) fun v23 =>
 bnd (stV 1 v23 v21 h11) fun h24 =>
 bnd (ncV x0) fun v25 =>
 bnd (faV 5 v25) fun v26 =>
 bnd (ldV 1 false v26 h24) fun v27 =>
 K (.tuple #[v27, (.int .i64 0)]) h24) (
 bnd (ncV x0) fun v28 =>
 bnd (faV 4 v28) fun v29 =>
 bnd (stV 1 v29 (.bool false) h11) fun h30 =>
 bnd (ncV x0) fun v31 =>
 bnd (faV 5 v31) fun v32 =>
 bnd (ldV 1 false v32 h30) fun v33 =>
 K (.tuple #[v33, (.int .i64 0)]) h30)) (
 bnd (ncV x0) fun v34 =>
 bnd (faV 4 v34) fun v35 =>
 bnd (stV 1 v35 (.bool false) h11) fun h36 =>
 bnd (ncV x0) fun v37 =>
 bnd (faV 5 v37) fun v38 =>
 bnd (ldV 1 false v38 h36) fun v39 =>
 K (.tuple #[v39, (.int .i64 0)]) h36)) (
 bnd (ncV x0) fun v40 =>
 bnd (faV 5 v40) fun v41 =>
 bnd (ldV 1 false v41 h) fun v42 =>
 K (.tuple #[v42, (.int .i64 0)]) h)

def S35_j3 (x0 x6 x7 x9 x10 : Value) (h : GH) (K : Value → GH → Prop)  : Prop :=
 bnd (eqK .iface true x9 .nilIface) fun b1 =>
 ifV (.bool (!b1)) (
 bnd (ncV x0) fun v2 =>
 bnd (faV 2 v2) fun v3 =>
 bnd (ldV 1 false v3 h) fun v4 =>
 bsV 98 1 [.nilIface] [(0, 1, x9)] h fun v5 h6 =>
 apV 98 1 16 v4 v5 h6 fun v7 h8 =>
 bnd (ncV x0) fun v9 =>
 bnd (faV 2 v9) fun v10 =>
 bnd (stV 1 v10 v7 h8) fun h11 =>
 S35_j4 x0 x6 x7 x10 h11 K ) (
 S35_j4 x0 x6 x7 x10 h K )

def S35_j2 (x0 x1 : Value) (h : GH) (K : Value → GH → Prop)  : Prop :=
 bnd (ncV x0) fun v1 =>
 bnd (faV 2 v1) fun v2 =>
 bnd (ldV 1 false v2 h) fun v3 =>
 bnd (lnV v3) fun v4 =>
 bnd (binV .sub v4 (.int .i64 1)) fun v5 =>
 bnd (ncV x0) fun v6 =>
 bnd (faV 2 v6) fun v7 =>
 bnd (ldV 1 false v7 h) fun v8 =>
 bnd (isV 1 v8 v5) fun v9 =>
 bnd (ldV 1 false v9 h) fun v10 =>
 ivV Try.prog v10 "pawl/mcas.through" [] h fun v11 h12 =>
 newV 102 [(.int .i64 0), (.int .i64 0)] h12 fun v13 h14 =>
 bnd (stV 2 v13 v11 h14) fun h15 =>
 bnd (ncV x0) fun v16 =>
 bnd (faV 3 v16) fun v17 =>
 bnd (stV 1 v17 v13 h15) fun h18 =>
 ivV Try.prog v10 "pawl/mcas.step" [x1] h18 fun v19 h20 =>
 bnd (exV v19 0) fun v21 =>
 bnd (exV v19 1) fun v22 =>
 bnd (exV v19 2) fun v23 =>
 bnd (unV .not v23) fun v24 =>
 ifV v24 (
 bnd (ncV x0) fun v25 =>
 bnd (faV 5 v25) fun v26 =>
 bnd (stV 1 v26 (.bool true) h20) fun h27 =>
 K (.tuple #[(.bool true), (.int .i64 1400)]) h27) (
 bnd (eqK .iface true v21 .nilIface) fun b28 =>
 ifV (.bool (!b28)) (
 bnd (ncV x0) fun v29 =>
 bnd (faV 2 v29) fun v30 =>
 bnd (ldV 1 false v30 h20) fun v31 =>
 bnd (lnV v31) fun v32 =>
 bnd (binV .geq v32 (.int .i64 18)) fun v33 =>
 ifV v33 (
 bnd (ncV x0) fun v34 =>
 bnd (faV 5 v34) fun v35 =>
 bnd (stV 1 v35 (.bool true) h20) fun h36 =>
 K (.tuple #[(.bool true), (.int .i64 1400)]) h36) (
 S35_j3 x0 v5 v10 v21 v22 h20 K )) (
 S35_j3 x0 v5 v10 v21 v22 h20 K ))

def S35_j1 (x0 x1 x14 : Value) (h : GH) (K : Value → GH → Prop)  : Prop :=
 ifV x14 (
 K (.tuple #[(.bool false), (.int .i64 1)]) h) (
 bnd (ncV x0) fun v1 =>
 bnd (faV 5 v1) fun v2 =>
 bnd (ldV 1 false v2 h) fun v3 =>
 ifV v3 (
 K (.tuple #[(.bool true), (.int .i64 0)]) h) (
 S35_j2 x0 x1 h K ))
def S35 (a0 a1 : Value) (h : GH) (K : Value → GH → Prop) : Prop :=
 bnd (eqK .ptr true a0 (.pointer none)) fun b1 =>
 ifV (.bool b1) (
 S35_j1 a0 a1 (.bool true) h K ) (
 bnd (eqK .ptr true a1 (.pointer none)) fun b2 =>
 S35_j1 a0 a1 (.bool b2) h K )
def A35 : Ann := ⟨fun _ => ([], []), fun _ => []⟩
theorem S35_T {a0 a1 : Value} {h : GH} {K : Value → GH → Prop} (g : S35 a0 a1 h K) : T Try.prog 35 [a0, a1] h K :=
  T_of_gwp (A := A35) Try.func35 (c := bodyOf Try.f35) (by kernel_rfl) (by kernel_rfl) (by kernel_rfl) (by kernel_rfl) (by kernel_rfl) (Eq.mp (by kernel_rfl) g)

/-! ### (*pawl/mcas.Help).Through (36) -/
def S36 (a0 : Value) (h : GH) (K : Value → GH → Prop) : Prop :=
 bnd (eqK .ptr true a0 (.pointer none)) fun b1 =>
 ifV (.bool b1) (
 K (.tuple #[(.int .i64 0), (.int .i64 0)]) h) (
 bnd (ncV a0) fun v2 =>
 bnd (faV 3 v2) fun v3 =>
 bnd (ldV 1 false v3 h) fun v4 =>
 bnd (eqK .ptr true v4 (.pointer none)) fun b5 =>
 ifV (.bool b5) (
 K (.tuple #[(.int .i64 (-1)), (.int .i64 0)]) h) (
 bnd (ncV a0) fun v6 =>
 bnd (faV 3 v6) fun v7 =>
 bnd (ldV 1 false v7 h) fun v8 =>
 bnd (ncV v8) fun v9 =>
 bnd (faV 0 v9) fun v10 =>
 bnd (ldV 1 false v10 h) fun v11 =>
 bnd (ncV a0) fun v12 =>
 bnd (faV 3 v12) fun v13 =>
 bnd (ldV 1 false v13 h) fun v14 =>
 bnd (ncV v14) fun v15 =>
 bnd (faV 1 v15) fun v16 =>
 bnd (ldV 1 false v16 h) fun v17 =>
 K (.tuple #[v11, v17]) h))
def A36 : Ann := ⟨fun | 5 => ([0, 1, 2, 3, 4, 5, 6, 7, 8, 9, 10, 11, 12, 13, 14, 15], [0, 1, 3, 7, 15, 31, 63, 0, 128, 384, 896, 1920, 3968, 8064, 127, 32767]) | _ => ([], []), fun _ => []⟩
theorem S36_T {a0 : Value} {h : GH} {K : Value → GH → Prop} (g : S36 a0 h K) : T Try.prog 36 [a0] h K :=
  T_of_gwp (A := A36) Try.func36 (c := bodyOf Try.f36) (by kernel_rfl) (by kernel_rfl) (by kernel_rfl) (by kernel_rfl) (by kernel_rfl) (Eq.mp (by kernel_rfl) g)

/-! ### (*pawl/mcas.Help).Seq (37) -/
def S37 (a0 : Value) (h : GH) (K : Value → GH → Prop) : Prop :=
 bnd (eqK .ptr true a0 (.pointer none)) fun b1 =>
 ifV (.bool b1) (
 K (.int .i64 0) h) (
 bnd (ncV a0) fun v2 =>
 bnd (faV 0 v2) fun v3 =>
 bnd (faV 1 v3) fun v4 =>
 bnd (ldV 1 false v4 h) fun v5 =>
 K v5 h)
def A37 : Ann := ⟨fun _ => ([], []), fun _ => []⟩
theorem S37_T {a0 : Value} {h : GH} {K : Value → GH → Prop} (g : S37 a0 h K) : T Try.prog 37 [a0] h K :=
  T_of_gwp (A := A37) Try.func37 (c := bodyOf Try.f37) (by kernel_rfl) (by kernel_rfl) (by kernel_rfl) (by kernel_rfl) (by kernel_rfl) (Eq.mp (by kernel_rfl) g)

/-! ### pawl/word.Of (38) -/
def S38 (a0 : Value) (h : GH) (K : Value → GH → Prop) : Prop :=
 T Try.prog 43 [a0] h fun v1 h2 =>
 K v1 h2
def A38 : Ann := ⟨fun _ => ([], []), fun _ => []⟩
theorem S38_T {a0 : Value} {h : GH} {K : Value → GH → Prop} (g : S38 a0 h K) : T Try.prog 38 [a0] h K :=
  T_of_gwp (A := A38) Try.func38 (c := bodyOf Try.f38) (by kernel_rfl) (by kernel_rfl) (by kernel_rfl) (by kernel_rfl) (by kernel_rfl) (Eq.mp (by kernel_rfl) g)

/-! ### slices.Clone[[]int,int] (39) -/
def S39 (a0 : Value) (h : GH) (K : Value → GH → Prop) : Prop :=
 bnd (eqK .slice true a0 (.slice none 0 0)) fun b1 =>
 ifV (.bool b1) (
 K (.slice none 0 0) h) (
 bsV 3 0 [] [] h fun v2 h3 =>
 apV 3 1 8 v2 a0 h3 fun v4 h5 =>
 K v4 h5)
def A39 : Ann := ⟨fun _ => ([], []), fun _ => []⟩
theorem S39_T {a0 : Value} {h : GH} {K : Value → GH → Prop} (g : S39 a0 h K) : T Try.prog 39 [a0] h K :=
  T_of_gwp (A := A39) Try.func39 (c := bodyOf Try.f39) (by kernel_rfl) (by kernel_rfl) (by kernel_rfl) (by kernel_rfl) (by kernel_rfl) (Eq.mp (by kernel_rfl) g)

/-! ### (*pawl/arena.Arena).Load$1 (40) -/
def S40 (a0 : Value) (h : GH) (K : Value → GH → Prop) : Prop :=
 K a0 h
def A40 : Ann := ⟨fun _ => ([], []), fun _ => []⟩
theorem S40_T {a0 : Value} {h : GH} {K : Value → GH → Prop} (g : S40 a0 h K) : T Try.prog 40 [a0] h K :=
  T_of_gwp (A := A40) Try.func40 (c := bodyOf Try.f40) (by kernel_rfl) (by kernel_rfl) (by kernel_rfl) (by kernel_rfl) (by kernel_rfl) (Eq.mp (by kernel_rfl) g)

/-! ### pawl/word.Read (41) -/
def S41_j1 (x5 : Value) (h : GH) (K : Value → GH → Prop)  : Prop :=
 bnd (eqK .iface true x5 .nilIface) fun b1 =>
 ifV (.bool b1) (
 K .nilIface h) (
 T Try.prog 45 [x5] h fun v2 h3 =>
 bnd (unV .not v2) fun v4 =>
 ifV v4 (
 K .nilIface h3) (
 K x5 h3))
def S41 (a0 : Value) (h : GH) (K : Value → GH → Prop) : Prop :=
 bnd (binV .lss a0 (.int .i64 0)) fun v1 =>
 ifV v1 (
 K .nilIface h) (
 bnd (binV .quo a0 (.int .i64 4)) fun v2 =>
 bnd (binV .rem a0 (.int .i64 4)) fun v3 =>
 bnd (eqI v3 (.int .i64 0)) fun b4 =>
 ifV (.bool b4) (
 S41_j1 (.iface 86 v2) h K ) (
 bnd (eqI v3 (.int .i64 2)) fun b5 =>
 ifV (.bool b5) (
 callV Try.prog (.func (.func 44) #[] #[]) [v2] h fun v6 h7 =>
 S41_j1 (.iface 102 v6) h7 K ) (
 bnd (eqI v3 (.int .i64 1)) fun b8 =>
 ifV (.bool b8) (
 bnd (binV .rem v2 (.int .i64 1048576)) fun v9 =>
 bnd (fillV [(.int .i64 0), (.int .i64 0), (.int .i64 0), (.int .i64 0), (.int .i64 0)] [(4, 1, v9)]) fun c10 =>
 newV 114 [(.int .i64 0), (.int .i64 0), (.int .i64 0), (.int .i64 0), (.int .i64 0)] h fun v11 h12 =>
 bnd (stV 5 v11 (.agg c10.toArray) h12) fun h13 =>
 bnd (binV .quo v2 (.int .i64 1048576)) fun v14 =>
 bnd (binV .rem v14 (.int .i64 4)) fun v15 =>
 bnd (binV .quo v14 (.int .i64 4)) fun v16 =>
 bnd (faV 3 v11) fun v17 =>
 bnd (stV 1 v17 v15 h13) fun h18 =>
 bnd (binV .rem v16 (.int .i64 16)) fun v19 =>
 bnd (binV .quo v16 (.int .i64 16)) fun v20 =>
 bnd (faV 2 v11) fun v21 =>
 bnd (stV 1 v21 v19 h18) fun h22 =>
 callV Try.prog (.func (.func 44) #[] #[]) [v20] h22 fun v23 h24 =>
 bnd (faV 0 v11) fun v25 =>
 bnd (stV 2 v25 v23 h24) fun h26 =>
 bnd (ldV 5 true v11 h26) fun v27 =>
 S41_j1 (.iface 114 v27) h26 K ) (
 S41_j1 .nilIface h K ))))
def A41 : Ann := ⟨fun _ => ([], []), fun _ => []⟩
theorem S41_T {a0 : Value} {h : GH} {K : Value → GH → Prop} (g : S41 a0 h K) : T Try.prog 41 [a0] h K :=
  T_of_gwp (A := A41) Try.func41 (c := bodyOf Try.f41) (by kernel_rfl) (by kernel_rfl) (by kernel_rfl) (by kernel_rfl) (by kernel_rfl) (Eq.mp (by kernel_rfl) g)

/-! ### pawl/mcas.framed (42) -/
def S42 (a0 a1 : Value) (h : GH) (K : Value → GH → Prop) : Prop :=
 bnd (taV 114 (.agg #[(.int .i64 0), (.int .i64 0), (.int .i64 0), (.int .i64 0), (.int .i64 0)]) true a0) fun v1 =>
 bnd (exV v1 1) fun v2 =>
 bnd (exV v1 0) fun v3 =>
 ifV v2 (
 newV 114 [(.int .i64 0), (.int .i64 0), (.int .i64 0), (.int .i64 0), (.int .i64 0)] h fun v4 h5 =>
 bnd (stV 5 v4 v3 h5) fun h6 =>
 bnd (faV 0 v4) fun v7 =>
 bnd (ldV 2 true v7 h6) fun v8 =>
 bnd (fillV [(.int .i64 0), (.int .i64 0), (.int .i64 0), (.int .i64 0), (.bool false), (.bool false)] [(0, 2, v8)]) fun c9 =>
 bnd (ldV 5 true v4 h6) fun v10 =>
 bnd (fillV [(.int .i64 0), (.int .i64 0), (.int .i64 0), (.int .i64 0), (.bool false), (.bool false), (.int .i64 0), (.int .i64 0), (.int .i64 0), (.int .i64 0), (.int .i64 0), (.int .i64 0)] [(0, 6, (.agg c9.toArray)), (6, 5, v10)]) fun c11 =>
 newV 118 ((.agg c11.toArray) : Value).cells.toList h6 fun v12 h13 =>
 K (.iface 116 v12) h13) (
 bnd (taV 102 (.agg #[(.int .i64 0), (.int .i64 0)]) true a0) fun v14 =>
 bnd (exV v14 1) fun v15 =>
 bnd (exV v14 0) fun v16 =>
 ifV v15 (
 newV 102 [(.int .i64 0), (.int .i64 0)] h fun v17 h18 =>
 bnd (stV 2 v17 v16 h18) fun h19 =>
 bnd (ldV 2 true v17 h19) fun v20 =>
 bnd (fillV [(.int .i64 0), (.int .i64 0), (.int .i64 0), (.int .i64 0), (.bool false), (.bool false)] [(0, 2, v20)]) fun c21 =>
 bnd (fillV [(.int .i64 0), (.int .i64 0), (.int .i64 0), (.int .i64 0), (.bool false), (.bool false), (.pointer none), (.int .i64 0), (.int .i64 0), (.int .i64 0), (.int .i64 0), .nilIface, (.int .i64 0)] [(0, 6, (.agg c21.toArray)), (6, 1, a1), (7, 1, (.int .i64 1))]) fun c22 =>
 newV 111 ((.agg c22.toArray) : Value).cells.toList h19 fun v23 h24 =>
 K (.iface 106 v23) h24) (
 K .nilIface h))
def A42 : Ann := ⟨fun _ => ([], []), fun _ => []⟩
theorem S42_T {a0 a1 : Value} {h : GH} {K : Value → GH → Prop} (g : S42 a0 a1 h K) : T Try.prog 42 [a0, a1] h K :=
  T_of_gwp (A := A42) Try.func42 (c := bodyOf Try.f42) (by kernel_rfl) (by kernel_rfl) (by kernel_rfl) (by kernel_rfl) (by kernel_rfl) (Eq.mp (by kernel_rfl) g)

/-! ### (pawl/word.Value).number (43) -/
def S43 (a0 : Value) (h : GH) (K : Value → GH → Prop) : Prop :=
 bnd (binV .mul a0 (.int .i64 4)) fun v1 =>
 bnd (binV .add v1 (.int .i64 0)) fun v2 =>
 K v2 h
def A43 : Ann := ⟨fun _ => ([], []), fun _ => []⟩
theorem S43_T {a0 : Value} {h : GH} {K : Value → GH → Prop} (g : S43 a0 h K) : T Try.prog 43 [a0] h K :=
  T_of_gwp (A := A43) Try.func43 (c := bodyOf Try.f43) (by kernel_rfl) (by kernel_rfl) (by kernel_rfl) (by kernel_rfl) (by kernel_rfl) (Eq.mp (by kernel_rfl) g)

/-! ### pawl/word.Read$1 (44) -/
def S44 (a0 : Value) (h : GH) (K : Value → GH → Prop) : Prop :=
 newV 102 [(.int .i64 0), (.int .i64 0)] h fun v1 h2 =>
 bnd (binV .rem a0 (.int .i64 16)) fun v3 =>
 bnd (binV .quo a0 (.int .i64 16)) fun v4 =>
 bnd (fillV [(.int .i64 0), (.int .i64 0)] [(0, 1, v3), (1, 1, v4)]) fun c5 =>
 bnd (stV 2 v1 (.agg c5.toArray) h2) fun h6 =>
 bnd (ldV 2 true v1 h6) fun v7 =>
 K v7 h6
def A44 : Ann := ⟨fun _ => ([], []), fun _ => []⟩
theorem S44_T {a0 : Value} {h : GH} {K : Value → GH → Prop} (g : S44 a0 h K) : T Try.prog 44 [a0] h K :=
  T_of_gwp (A := A44) Try.func44 (c := bodyOf Try.f44) (by kernel_rfl) (by kernel_rfl) (by kernel_rfl) (by kernel_rfl) (by kernel_rfl) (Eq.mp (by kernel_rfl) g)

/-! ### pawl/word.may (45) -/
def S45 (a0 : Value) (h : GH) (K : Value → GH → Prop) : Prop :=
 ivV Try.prog a0 "pawl/word.plain" [] h fun v1 h2 =>
 newV 120 [(.int .i64 0), (.int .i64 0), (.int .i64 0), (.int .i64 0), (.int .i64 0), (.int .i64 0), (.int .i64 0)] h2 fun v3 h4 =>
 bnd (stV 7 v3 v1 h4) fun h5 =>
 bnd (faV 1 v3) fun v6 =>
 bnd (ldV 1 false v6 h5) fun v7 =>
 T Try.prog 18 [v7, (.int .i64 1099511627776)] h5 fun v8 h9 =>
 ifV v8 (
 bnd (faV 2 v3) fun v10 =>
 bnd (ldV 1 false v10 h9) fun v11 =>
 T Try.prog 18 [v11, (.int .i64 12)] h9 fun v12 h13 =>
 ifV v12 (
 bnd (faV 3 v3) fun v14 =>
 bnd (ldV 1 false v14 h13) fun v15 =>
 T Try.prog 18 [v15, (.int .i64 65536)] h13 fun v16 h17 =>
 ifV v16 (
 bnd (faV 4 v3) fun v18 =>
 bnd (ldV 1 false v18 h17) fun v19 =>
 T Try.prog 18 [v19, (.int .i64 16)] h17 fun v20 h21 =>
 ifV v20 (
 bnd (faV 5 v3) fun v22 =>
 bnd (ldV 1 false v22 h21) fun v23 =>
 T Try.prog 18 [v23, (.int .i64 4)] h21 fun v24 h25 =>
 ifV v24 (
 bnd (faV 6 v3) fun v26 =>
 bnd (ldV 1 false v26 h25) fun v27 =>
 T Try.prog 18 [v27, (.int .i64 1048576)] h25 fun v28 h29 =>
 K v28 h29) (
 K (.bool false) h25)) (
 K (.bool false) h21)) (
 K (.bool false) h17)) (
 K (.bool false) h13)) (
 K (.bool false) h9)
def A45 : Ann := ⟨fun _ => ([], []), fun _ => []⟩
theorem S45_T {a0 : Value} {h : GH} {K : Value → GH → Prop} (g : S45 a0 h K) : T Try.prog 45 [a0] h K :=
  T_of_gwp (A := A45) Try.func45 (c := bodyOf Try.f45) (by kernel_rfl) (by kernel_rfl) (by kernel_rfl) (by kernel_rfl) (by kernel_rfl) (Eq.mp (by kernel_rfl) g)

/-! ### (pawl/word.Value).plain (65) -/
def S65 (a0 : Value) (h : GH) (K : Value → GH → Prop) : Prop :=
 newV 120 [(.int .i64 0), (.int .i64 0), (.int .i64 0), (.int .i64 0), (.int .i64 0), (.int .i64 0), (.int .i64 0)] h fun v1 h2 =>
 bnd (fillV [(.int .i64 0), (.int .i64 0), (.int .i64 0), (.int .i64 0), (.int .i64 0), (.int .i64 0), (.int .i64 0)] [(1, 1, a0)]) fun c3 =>
 bnd (stV 7 v1 (.agg c3.toArray) h2) fun h4 =>
 bnd (ldV 7 true v1 h4) fun v5 =>
 K v5 h4
def A65 : Ann := ⟨fun _ => ([], []), fun _ => []⟩
theorem S65_T {a0 : Value} {h : GH} {K : Value → GH → Prop} (g : S65 a0 h K) : T Try.prog 65 [a0] h K :=
  T_of_gwp (A := A65) Try.func65 (c := bodyOf Try.f65) (by kernel_rfl) (by kernel_rfl) (by kernel_rfl) (by kernel_rfl) (by kernel_rfl) (Eq.mp (by kernel_rfl) g)

/-! ### (pawl/word.Mcas).life (66) -/
def S66 (a0 : Value) (h : GH) (K : Value → GH → Prop) : Prop :=
 newV 102 (a0 : Value).cells.toList h fun v1 h2 =>
 bnd (faV 1 v1) fun v3 =>
 bnd (ldV 1 false v3 h2) fun v4 =>
 bnd (binV .mul v4 (.int .i64 16)) fun v5 =>
 bnd (faV 0 v1) fun v6 =>
 bnd (ldV 1 false v6 h2) fun v7 =>
 bnd (binV .add v5 v7) fun v8 =>
 K v8 h2
def A66 : Ann := ⟨fun _ => ([], []), fun _ => []⟩
theorem S66_T {a0 : Value} {h : GH} {K : Value → GH → Prop} (g : S66 a0 h K) : T Try.prog 66 [a0] h K :=
  T_of_gwp (A := A66) Try.func66 (c := bodyOf Try.f66) (by kernel_rfl) (by kernel_rfl) (by kernel_rfl) (by kernel_rfl) (by kernel_rfl) (Eq.mp (by kernel_rfl) g)

/-! ### (pawl/word.Mcas).number (67) -/
def S67 (a0 : Value) (h : GH) (K : Value → GH → Prop) : Prop :=
 newV 102 (a0 : Value).cells.toList h fun v1 h2 =>
 bnd (ldV 2 true v1 h2) fun v3 =>
 T Try.prog 66 [v3] h2 fun v4 h5 =>
 bnd (binV .mul v4 (.int .i64 4)) fun v6 =>
 bnd (binV .add v6 (.int .i64 2)) fun v7 =>
 K v7 h5
def A67 : Ann := ⟨fun _ => ([], []), fun _ => []⟩
theorem S67_T {a0 : Value} {h : GH} {K : Value → GH → Prop} (g : S67 a0 h K) : T Try.prog 67 [a0] h K :=
  T_of_gwp (A := A67) Try.func67 (c := bodyOf Try.f67) (by kernel_rfl) (by kernel_rfl) (by kernel_rfl) (by kernel_rfl) (by kernel_rfl) (Eq.mp (by kernel_rfl) g)

/-! ### (pawl/word.Mcas).plain (68) -/
def S68 (a0 : Value) (h : GH) (K : Value → GH → Prop) : Prop :=
 newV 102 (a0 : Value).cells.toList h fun v1 h2 =>
 newV 120 [(.int .i64 0), (.int .i64 0), (.int .i64 0), (.int .i64 0), (.int .i64 0), (.int .i64 0), (.int .i64 0)] h2 fun v3 h4 =>
 bnd (faV 0 v1) fun v5 =>
 bnd (ldV 1 false v5 h4) fun v6 =>
 bnd (faV 1 v1) fun v7 =>
 bnd (ldV 1 false v7 h4) fun v8 =>
 bnd (fillV [(.int .i64 0), (.int .i64 0), (.int .i64 0), (.int .i64 0), (.int .i64 0), (.int .i64 0), (.int .i64 0)] [(0, 1, (.int .i64 2)), (2, 1, v6), (3, 1, v8)]) fun c9 =>
 bnd (stV 7 v3 (.agg c9.toArray) h4) fun h10 =>
 bnd (ldV 7 true v3 h10) fun v11 =>
 K v11 h10
def A68 : Ann := ⟨fun _ => ([], []), fun _ => []⟩
theorem S68_T {a0 : Value} {h : GH} {K : Value → GH → Prop} (g : S68 a0 h K) : T Try.prog 68 [a0] h K :=
  T_of_gwp (A := A68) Try.func68 (c := bodyOf Try.f68) (by kernel_rfl) (by kernel_rfl) (by kernel_rfl) (by kernel_rfl) (by kernel_rfl) (Eq.mp (by kernel_rfl) g)

/-! ### (*pawl/mcas.hand).next (69) -/
def S69 (a0 : Value) (h : GH) (K : Value → GH → Prop) : Prop :=
 bnd (ncV a0) fun v1 =>
 bnd (faV 1 v1) fun v2 =>
 bnd (ldV 1 false v2 h) fun v3 =>
 bnd (binV .add v3 (.int .i64 1)) fun v4 =>
 bnd (binV .rem v4 (.int .i64 1048576)) fun v5 =>
 bnd (ncV a0) fun v6 =>
 bnd (faV 1 v6) fun v7 =>
 bnd (stV 1 v7 v5 h) fun h8 =>
 K v3 h8
def A69 : Ann := ⟨fun _ => ([], []), fun _ => []⟩
theorem S69_T {a0 : Value} {h : GH} {K : Value → GH → Prop} (g : S69 a0 h K) : T Try.prog 69 [a0] h K :=
  T_of_gwp (A := A69) Try.func69 (c := bodyOf Try.f69) (by kernel_rfl) (by kernel_rfl) (by kernel_rfl) (by kernel_rfl) (by kernel_rfl) (Eq.mp (by kernel_rfl) g)

/-! ### (*pawl/mcas.whole).next (70) -/
def S70 (a0 a1 a2 : Value) (h : GH) (K : Value → GH → Prop) : Prop :=
 bnd (ncV a0) fun v1 =>
 bnd (faV 8 v1) fun v2 =>
 bnd (ldV 1 false v2 h) fun v3 =>
 bnd (binV .add v3 (.int .i64 1)) fun v4 =>
 bnd (ncV a0) fun v5 =>
 bnd (faV 8 v5) fun v6 =>
 bnd (stV 1 v6 v4 h) fun h7 =>
 bnd (ncV a0) fun v8 =>
 bnd (faV 7 v8) fun v9 =>
 bnd (stV 1 v9 a1 h7) fun h10 =>
 bnd (ncV a0) fun v11 =>
 bnd (faV 8 v11) fun v12 =>
 bnd (ldV 1 false v12 h10) fun v13 =>
 bnd (ncV a0) fun v14 =>
 bnd (faV 9 v14) fun v15 =>
 bnd (ldV 1 false v15 h10) fun v16 =>
 bnd (binV .geq v13 v16) fun v17 =>
 ifV v17 (
 bnd (ncV a0) fun v18 =>
 bnd (faV 7 v18) fun v19 =>
 bnd (stV 1 v19 a2 h10) fun h20 =>
 bnd (ncV a0) fun v21 =>
 bnd (faV 7 v21) fun v22 =>
 bnd (ldV 1 false v22 h20) fun v23 =>
 bnd (eqI v23 a2) fun b24 =>
 K (.bool b24) h20) (
 bnd (ncV a0) fun v25 =>
 bnd (faV 7 v25) fun v26 =>
 bnd (ldV 1 false v26 h10) fun v27 =>
 bnd (eqI v27 a2) fun b28 =>
 K (.bool b28) h10)
def A70 : Ann := ⟨fun | 3 => ([0, 1, 2, 3, 4, 5, 6, 7, 8], [0, 1, 3, 7, 0, 16, 48, 112, 255]) | _ => ([], []), fun _ => []⟩
theorem S70_T {a0 a1 a2 : Value} {h : GH} {K : Value → GH → Prop} (g : S70 a0 a1 a2 h K) : T Try.prog 70 [a0, a1, a2] h K :=
  T_of_gwp (A := A70) Try.func70 (c := bodyOf Try.f70) (by kernel_rfl) (by kernel_rfl) (by kernel_rfl) (by kernel_rfl) (by kernel_rfl) (Eq.mp (by kernel_rfl) g)

/-! ### (*pawl/mcas.whole).step (71) -/
def S71_j3 (x0 x1 x9 x37 x48 : Value) (h : GH) (K : Value → GH → Prop)  : Prop :=
 ifV x48 (
 T Try.prog 75 [x0, x1] h fun v1 h2 =>
 bnd (exV v1 0) fun v3 =>
 bnd (exV v1 1) fun v4 =>
 bnd (exV v1 2) fun v5 =>
 K (.tuple #[v3, v4, v5]) h2) (
 bnd (eqI x37 (.int .i64 2)) fun b6 =>
 ifV (.bool b6) (
 T Try.prog 76 [x0, x1] h fun v7 h8 =>
 bnd (exV v7 0) fun v9 =>
 bnd (exV v7 1) fun v10 =>
 ifV v9 (
 bnd (ncV x0) fun v11 =>
 bnd (faV 7 v11) fun v12 =>
 bnd (stV 1 v12 (.int .i64 8) h8) fun h13 =>
 K (.tuple #[.nilIface, (.bool false), v10]) h13) (
 K (.tuple #[.nilIface, (.bool false), v10]) h8)) (
 bnd (eqI x37 (.int .i64 3)) fun b14 =>
 ifV (.bool b14) (
 bnd (ncV x0) fun v15 =>
 bnd (faV 0 v15) fun v16 =>
 bnd (ncV x0) fun v17 =>
 bnd (faV 8 v17) fun v18 =>
 bnd (ldV 1 false v18 h) fun v19 =>
 T Try.prog 77 [v16, x1, v19] h fun v20 h21 =>
 bnd (ncV x0) fun v22 =>
 bnd (faV 7 v22) fun v23 =>
 bnd (stV 1 v23 (.int .i64 4) h21) fun h24 =>
 K (.tuple #[.nilIface, (.bool false), v20]) h24) (
 bnd (eqI x37 (.int .i64 4)) fun b25 =>
 ifV (.bool b25) (
 bnd (ncV x0) fun v26 =>
 bnd (faV 0 v26) fun v27 =>
 bnd (ncV x0) fun v28 =>
 bnd (faV 8 v28) fun v29 =>
 bnd (ldV 1 false v29 h) fun v30 =>
 T Try.prog 78 [v27, x1, v30] h fun v31 h32 =>
 bnd (ncV x0) fun v33 =>
 bnd (faV 7 v33) fun v34 =>
 bnd (stV 1 v34 (.int .i64 5) h32) fun h35 =>
 K (.tuple #[.nilIface, (.bool false), v31]) h35) (
 bnd (eqI x37 (.int .i64 6)) fun b36 =>
 ifV (.bool b36) (
 bnd (ncV x0) fun v37 =>
 bnd (faV 0 v37) fun v38 =>
 T Try.prog 79 [v38, x1] h fun v39 h40 =>
 bnd (ncV x0) fun v41 =>
 bnd (faV 7 v41) fun v42 =>
 bnd (stV 1 v42 (.int .i64 7) h40) fun h43 =>
 K (.tuple #[.nilIface, (.bool false), v39]) h43) (
 bnd (eqI x37 (.int .i64 7)) fun b44 =>
 ifV (.bool b44) (
 bnd (ncV x0) fun v45 =>
 bnd (faV 0 v45) fun v46 =>
 bnd (ncV x0) fun v47 =>
 bnd (faV 10 v47) fun v48 =>
 bnd (ldV 1 false v48 h) fun v49 =>
 T Try.prog 80 [v46, x1, v49] h fun v50 h51 =>
 T Try.prog 70 [x0, (.int .i64 3), (.int .i64 8)] h51 fun v52 h53 =>
 K (.tuple #[.nilIface, (.bool false), x9]) h53) (
 bnd (eqI x37 (.int .i64 8)) fun b54 =>
 ifV (.bool b54) (
 T Try.prog 81 [x0, x1, (.int .i64 1)] h fun v55 h56 =>
 K (.tuple #[.nilIface, (.bool false), x9]) h56) (
 bnd (eqI x37 (.int .i64 9)) fun b57 =>
 ifV (.bool b57) (
 T Try.prog 81 [x0, x1, (.int .i64 2)] h fun v58 h59 =>
 K (.tuple #[.nilIface, (.bool false), x9]) h59) (
 K (.tuple #[.nilIface, (.bool false), x9]) h))))))))

def S71_j2 (x0 x1 : Value) (h : GH) (K : Value → GH → Prop)  : Prop :=
 bnd (ncV x0) fun v1 =>
 bnd (faV 7 v1) fun v2 =>
 bnd (ldV 1 false v2 h) fun v3 =>
 bnd (eqI v3 (.int .i64 5)) fun b4 =>
 ifV (.bool b4) (
 T Try.prog 74 [x0, x1] h fun v5 h6 =>
 bnd (exV v5 0) fun v7 =>
 bnd (exV v5 1) fun v8 =>
 K (.tuple #[v7, (.bool false), v8]) h6) (
 bnd (eqI v3 (.int .i64 1)) fun b9 =>
 ifV (.bool b9) (
 S71_j3 x0 x1 (.bool true) v3 (.bool true) h K ) (
 bnd (eqI v3 (.int .i64 14)) fun b10 =>
 S71_j3 x0 x1 (.bool true) v3 (.bool b10) h K ))

def S71_j1 (x0 x1 x25 : Value) (h : GH) (K : Value → GH → Prop)  : Prop :=
 ifV x25 (
 T Try.prog 73 [x0, x1] h fun v1 h2 =>
 bnd (exV v1 0) fun v3 =>
 bnd (exV v1 1) fun v4 =>
 K (.tuple #[.nilIface, v3, v4]) h2) (
 S71_j2 x0 x1 h K )
def S71 (a0 a1 : Value) (h : GH) (K : Value → GH → Prop) : Prop :=
 bnd (ncV a0) fun v1 =>
 bnd (faV 7 v1) fun v2 =>
 bnd (ldV 1 false v2 h) fun v3 =>
 bnd (binV .geq v3 (.int .i64 10)) fun v4 =>
 ifV v4 (
 bnd (ncV a0) fun v5 =>
 bnd (faV 7 v5) fun v6 =>
 bnd (ldV 1 false v6 h) fun v7 =>
 bnd (binV .lss v7 (.int .i64 14)) fun v8 =>
 S71_j1 a0 a1 v8 h K ) (
 S71_j1 a0 a1 (.bool false) h K )
def A71 : Ann := ⟨fun | 18 => ([0, 1, 2, 3, 4, 5, 6, 7, 8, 9], [0, 1, 3, 0, 0, 16, 48, 112, 255, 511]) | 21 => ([0, 1, 2, 3, 4, 5, 6, 7, 8, 9], [0, 1, 3, 0, 0, 16, 48, 112, 255, 511]) | 27 => ([0, 1, 2, 3, 4, 5, 6, 7, 8], [0, 1, 3, 0, 0, 16, 48, 112, 255]) | _ => ([], []), fun _ => []⟩
theorem S71_T {a0 a1 : Value} {h : GH} {K : Value → GH → Prop} (g : S71 a0 a1 h K) : T Try.prog 71 [a0, a1] h K :=
  T_of_gwp (A := A71) Try.func71 (c := bodyOf Try.f71) (by kernel_rfl) (by kernel_rfl) (by kernel_rfl) (by kernel_rfl) (by kernel_rfl) (Eq.mp (by kernel_rfl) g)

/-! ### (*pawl/mcas.held).through (72) -/
def S72 (a0 : Value) (h : GH) (K : Value → GH → Prop) : Prop :=
 newV 102 [(.int .i64 0), (.int .i64 0)] h fun v1 h2 =>
 bnd (ncV a0) fun v3 =>
 bnd (faV 0 v3) fun v4 =>
 bnd (ldV 2 true v4 h2) fun v5 =>
 bnd (stV 2 v1 v5 h2) fun h6 =>
 bnd (ldV 2 true v1 h6) fun v7 =>
 K v7 h6
def A72 : Ann := ⟨fun _ => ([], []), fun _ => []⟩
theorem S72_T {a0 : Value} {h : GH} {K : Value → GH → Prop} (g : S72 a0 h K) : T Try.prog 72 [a0] h K :=
  T_of_gwp (A := A72) Try.func72 (c := bodyOf Try.f72) (by kernel_rfl) (by kernel_rfl) (by kernel_rfl) (by kernel_rfl) (by kernel_rfl) (Eq.mp (by kernel_rfl) g)

/-! ### (*pawl/mcas.whole).release (73) -/
def S73_j1 (x0 x1 x6 : Value) (h : GH) (K : Value → GH → Prop)  : Prop :=
 bnd (ncV x0) fun v1 =>
 bnd (faV 0 v1) fun v2 =>
 bnd (ncV x0) fun v3 =>
 bnd (faV 8 v3) fun v4 =>
 bnd (ldV 1 false v4 h) fun v5 =>
 T Try.prog 82 [v2, x1, v5, x6] h fun v6 h7 =>
 bnd (exV v6 0) fun v8 =>
 bnd (exV v6 1) fun v9 =>
 bnd (ncV x0) fun v10 =>
 bnd (faV 12 v10) fun v11 =>
 bnd (stV 1 v11 v8 h7) fun h12 =>
 bnd (ncV x0) fun v13 =>
 bnd (faV 7 v13) fun v14 =>
 bnd (stV 1 v14 (.int .i64 13) h12) fun h15 =>
 K (.tuple #[(.bool false), v9]) h15
def S73 (a0 a1 : Value) (h : GH) (K : Value → GH → Prop) : Prop :=
 bnd (ncV a0) fun v1 =>
 bnd (faV 7 v1) fun v2 =>
 bnd (ldV 1 false v2 h) fun v3 =>
 bnd (eqI v3 (.int .i64 10)) fun b4 =>
 ifV (.bool b4) (
 T Try.prog 76 [a0, a1] h fun v5 h6 =>
 bnd (exV v5 0) fun v7 =>
 bnd (exV v5 1) fun v8 =>
 K (.tuple #[v7, v8]) h6) (
 bnd (eqI v3 (.int .i64 11)) fun b9 =>
 ifV (.bool b9) (
 bnd (ncV a0) fun v10 =>
 bnd (faV 7 v10) fun v11 =>
 bnd (stV 1 v11 (.int .i64 12) h) fun h12 =>
 bnd (ncV a0) fun v13 =>
 bnd (faV 0 v13) fun v14 =>
 bnd (ncV a0) fun v15 =>
 bnd (faV 8 v15) fun v16 =>
 bnd (ldV 1 false v16 h12) fun v17 =>
 T Try.prog 77 [v14, a1, v17] h12 fun v18 h19 =>
 K (.tuple #[(.bool false), v18]) h19) (
 bnd (eqI v3 (.int .i64 12)) fun b20 =>
 ifV (.bool b20) (
 bnd (ncV a0) fun v21 =>
 bnd (faV 0 v21) fun v22 =>
 bnd (faV 5 v22) fun v23 =>
 bnd (ldV 1 false v23 h) fun v24 =>
 ifV v24 (
 S73_j1 a0 a1 (.int .i64 2) h K ) (
 S73_j1 a0 a1 (.int .i64 1) h K )) (
 bnd (ncV a0) fun v25 =>
 bnd (faV 0 v25) fun v26 =>
 bnd (faV 2 v26) fun v27 =>
 bnd (ldV 1 false v27 h) fun v28 =>
 bnd (ncV a0) fun v29 =>
 bnd (faV 0 v29) fun v30 =>
 bnd (faV 0 v30) fun v31 =>
 bnd (ldV 2 true v31 h) fun v32 =>
 bnd (ncV a0) fun v33 =>
 bnd (faV 12 v33) fun v34 =>
 bnd (ldV 1 false v34 h) fun v35 =>
 T Try.prog 84 [(.iface 102 v32)] h fun v36 h37 =>
 ldV 1 false v34 h37 = some v35 ∧
 ldV 1 false v27 h37 = some v28 ∧
 T Try.prog 38 [v35] h37 fun v38 h39 =>
 ldV 1 false v27 h39 = some v28 ∧
 T Try.prog 83 [a1, v28, v36, v38] h39 fun v40 h41 =>
 T Try.prog 70 [a0, (.int .i64 11), (.int .i64 0)] h41 fun v42 h43 =>
 K (.tuple #[v42, (.bool true)]) h43)))
def A73 : Ann := ⟨fun | 6 => ([0, 1, 2, 3, 4, 5, 6, 7, 8, 9, 10], [0, 1, 3, 0, 0, 16, 48, 112, 255, 511, 1023]) | 11 => ([0, 1, 2, 3, 4, 5, 6, 7, 8, 9, 10, 11, 12, 13, 14, 15, 16, 17], [0, 0, 2, 6, 0, 0, 32, 96, 224, 0, 1022, 2046, 4094, 4094, 8191, 24575, 57343, 131071]) | 14 => ([0, 1, 2, 3, 4, 5, 6, 7, 8, 9, 10, 11, 13, 14, 15, 16, 12, 17, 18], [0, 0, 2, 6, 14, 30, 0, 64, 192, 448, 960, 1984, 4032, 0, 8192, 24576, 57344, 131008, 262143]) | _ => ([], []), fun _ => []⟩
theorem S73_T {a0 a1 : Value} {h : GH} {K : Value → GH → Prop} (g : S73 a0 a1 h K) : T Try.prog 73 [a0, a1] h K :=
  T_of_gwp (A := A73) Try.func73 (c := bodyOf Try.f73) (by kernel_rfl) (by kernel_rfl) (by kernel_rfl) (by kernel_rfl) (by kernel_rfl) (Eq.mp (by kernel_rfl) g)

/-! ### (*pawl/mcas.whole).swapIn (74) -/
def S74_j1 (x0 x8 : Value) (h : GH) (K : Value → GH → Prop)  : Prop :=
 bnd (eqK .iface true x8 .nilIface) fun b1 =>
 ifV (.bool b1) (
 K (.tuple #[.nilIface, (.bool false)]) h) (
 bnd (taV 86 (.int .i64 0) true x8) fun v2 =>
 bnd (exV v2 1) fun v3 =>
 bnd (exV v2 0) fun v4 =>
 ifV v3 (
 bnd (ncV x0) fun v5 =>
 bnd (faV 7 v5) fun v6 =>
 bnd (stV 1 v6 (.int .i64 9) h) fun h7 =>
 K (.tuple #[.nilIface, (.bool true)]) h7) (
 bnd (taV 114 (.agg #[(.int .i64 0), (.int .i64 0), (.int .i64 0), (.int .i64 0), (.int .i64 0)]) true x8) fun v8 =>
 bnd (exV v8 1) fun v9 =>
 bnd (exV v8 0) fun v10 =>
 ifV v9 (
 bnd (ncV x0) fun v11 =>
 bnd (faV 6 v11) fun v12 =>
 bnd (ldV 1 false v12 h) fun v13 =>
 T Try.prog 42 [x8, v13] h fun v14 h15 =>
 K (.tuple #[v14, (.bool true)]) h15) (
 bnd (taV 102 (.agg #[(.int .i64 0), (.int .i64 0)]) true x8) fun v16 =>
 bnd (exV v16 1) fun v17 =>
 bnd (exV v16 0) fun v18 =>
 ifV v17 (
 bnd (ncV x0) fun v19 =>
 bnd (faV 6 v19) fun v20 =>
 bnd (ldV 1 false v20 h) fun v21 =>
 T Try.prog 42 [x8, v21] h fun v22 h23 =>
 bnd (ncV x0) fun v24 =>
 bnd (faV 11 v24) fun v25 =>
 bnd (stV 1 v25 v22 h23) fun h26 =>
 bnd (ncV x0) fun v27 =>
 bnd (faV 7 v27) fun v28 =>
 bnd (stV 1 v28 (.int .i64 14) h26) fun h29 =>
 K (.tuple #[.nilIface, (.bool true)]) h29) (
 K (.tuple #[.nilIface, (.bool true)]) h))))
def S74 (a0 a1 : Value) (h : GH) (K : Value → GH → Prop) : Prop :=
 bnd (ncV a0) fun v1 =>
 bnd (faV 0 v1) fun v2 =>
 bnd (faV 0 v2) fun v3 =>
 bnd (ldV 2 true v3 h) fun v4 =>
 bnd (ncV a0) fun v5 =>
 bnd (faV 8 v5) fun v6 =>
 bnd (ldV 1 false v6 h) fun v7 =>
 bnd (ncV a0) fun v8 =>
 bnd (faV 6 v8) fun v9 =>
 bnd (ldV 1 false v9 h) fun v10 =>
 bnd (ncV v10) fun v11 =>
 bnd (faV 0 v11) fun v12 =>
 bnd (ldV 1 false v12 h) fun v13 =>
 bnd (ncV a0) fun v14 =>
 bnd (faV 6 v14) fun v15 =>
 bnd (ldV 1 false v15 h) fun v16 =>
 T Try.prog 69 [v16] h fun v17 h18 =>
 ldV 1 false v12 h18 = some v13 ∧
 ldV 1 false v9 h18 = some v10 ∧
 ldV 1 false v6 h18 = some v7 ∧
 ldV 2 true v3 h18 = some v4 ∧
 bnd (fillV [(.int .i64 0), (.int .i64 0), (.int .i64 0), (.int .i64 0), (.int .i64 0)] [(0, 2, v4), (2, 1, v7), (3, 1, v13), (4, 1, v17)]) fun c19 =>
 T Try.prog 84 [(.iface 114 (.agg c19.toArray))] h18 fun v20 h21 =>
 bnd (ncV a0) fun v22 =>
 bnd (faV 10 v22) fun v23 =>
 bnd (stV 1 v23 v20 h21) fun h24 =>
 bnd (ncV a0) fun v25 =>
 bnd (faV 0 v25) fun v26 =>
 bnd (faV 2 v26) fun v27 =>
 bnd (ldV 1 false v27 h24) fun v28 =>
 bnd (ncV a0) fun v29 =>
 bnd (faV 0 v29) fun v30 =>
 bnd (faV 3 v30) fun v31 =>
 bnd (ldV 1 false v31 h24) fun v32 =>
 bnd (ncV a0) fun v33 =>
 bnd (faV 10 v33) fun v34 =>
 bnd (ldV 1 false v34 h24) fun v35 =>
 T Try.prog 83 [a1, v28, v32, v35] h24 fun v36 h37 =>
 bnd (exV v36 0) fun v38 =>
 bnd (exV v36 1) fun v39 =>
 bnd (ncV a0) fun v40 =>
 bnd (faV 0 v40) fun v41 =>
 bnd (faV 3 v41) fun v42 =>
 bnd (ldV 1 false v42 h37) fun v43 =>
 bnd (eqI v38 v43) fun b44 =>
 ifV (.bool b44) (
 bnd (ncV a0) fun v45 =>
 bnd (faV 7 v45) fun v46 =>
 bnd (stV 1 v46 (.int .i64 6) h37) fun h47 =>
 K (.tuple #[.nilIface, (.bool true)]) h47) (
 T Try.prog 41 [v38] h37 fun v48 h49 =>
 bnd (taV 102 (.agg #[(.int .i64 0), (.int .i64 0)]) true v48) fun v50 =>
 bnd (exV v50 0) fun v51 =>
 bnd (exV v50 1) fun v52 =>
 newV 102 [(.int .i64 0), (.int .i64 0)] h49 fun v53 h54 =>
 bnd (stV 2 v53 v51 h54) fun h55 =>
 ifV v52 (
 bnd (ldV 2 true v53 h55) fun v56 =>
 bnd (ncV a0) fun v57 =>
 bnd (faV 0 v57) fun v58 =>
 bnd (faV 0 v58) fun v59 =>
 bnd (ldV 2 true v59 h55) fun v60 =>
 bnd (eqP Try.prog 10000 102 v56 v60) fun b61 =>
 ifV (.bool b61) (
 T Try.prog 70 [a0, (.int .i64 3), (.int .i64 8)] h55 fun v62 h63 =>
 K (.tuple #[.nilIface, (.bool true)]) h63) (
 S74_j1 a0 v48 h55 K )) (
 S74_j1 a0 v48 h55 K ))
def A74 : Ann := ⟨fun | 1 => ([0, 1, 2, 3, 4, 5, 6, 7, 8, 9, 10, 11, 12, 13, 14, 15, 16, 17, 18, 19, 20, 21, 22, 23, 24, 25, 26, 27], [0, 0, 2, 6, 14, 30, 0, 64, 192, 448, 0, 1024, 3072, 7168, 15360, 31744, 64512, 0, 131072, 393216, 917504, 1966080, 4194302, 8388606, 16777214, 33554431, 67108863, 134217727]) | 2 => ([0, 1, 2, 3, 4, 5, 6, 7, 8, 9, 10, 11, 12, 13, 14, 15, 16, 17, 18, 19, 20], [0, 0, 2, 6, 14, 30, 0, 64, 192, 448, 960, 0, 2048, 6144, 14336, 32767, 65535, 131071, 131071, 262143, 1048575]) | 8 => ([0, 1, 2, 3, 4, 5, 6, 7, 8, 9], [0, 1, 3, 3, 11, 27, 59, 123, 255, 511]) | _ => ([], []), fun _ => []⟩
theorem S74_T {a0 a1 : Value} {h : GH} {K : Value → GH → Prop} (g : S74 a0 a1 h K) : T Try.prog 74 [a0, a1] h K :=
  T_of_gwp (A := A74) Try.func74 (c := bodyOf Try.f74) (by kernel_rfl) (by kernel_rfl) (by kernel_rfl) (by kernel_rfl) (by kernel_rfl) (Eq.mp (by kernel_rfl) g)

/-! ### (*pawl/mcas.whole).ask (75) -/
def S75 (a0 a1 : Value) (h : GH) (K : Value → GH → Prop) : Prop :=
 bnd (ncV a0) fun v1 =>
 bnd (faV 0 v1) fun v2 =>
 T Try.prog 79 [v2, a1] h fun v3 h4 =>
 bnd (ncV a0) fun v5 =>
 bnd (faV 7 v5) fun v6 =>
 bnd (ldV 1 false v6 h4) fun v7 =>
 bnd (eqI v7 (.int .i64 14)) fun b8 =>
 bnd (ncV a0) fun v9 =>
 bnd (faV 0 v9) fun v10 =>
 bnd (faV 4 v10) fun v11 =>
 bnd (ldV 1 false v11 h4) fun v12 =>
 bnd (unV .not v12) fun v13 =>
 ifV v13 (
 bnd (ncV a0) fun v14 =>
 bnd (faV 7 v14) fun v15 =>
 bnd (stV 1 v15 (.int .i64 10) h4) fun h16 =>
 K (.tuple #[.nilIface, (.bool false), v3]) h16) (
 ifV (.bool b8) (
 bnd (ncV a0) fun v17 =>
 bnd (faV 7 v17) fun v18 =>
 bnd (stV 1 v18 (.int .i64 5) h4) fun h19 =>
 bnd (ncV a0) fun v20 =>
 bnd (faV 11 v20) fun v21 =>
 bnd (ldV 1 false v21 h19) fun v22 =>
 K (.tuple #[v22, (.bool false), v3]) h19) (
 bnd (ncV a0) fun v23 =>
 bnd (faV 7 v23) fun v24 =>
 bnd (stV 1 v24 (.int .i64 2) h4) fun h25 =>
 K (.tuple #[.nilIface, (.bool false), v3]) h25))
def A75 : Ann := ⟨fun _ => ([], []), fun _ => []⟩
theorem S75_T {a0 a1 : Value} {h : GH} {K : Value → GH → Prop} (g : S75 a0 a1 h K) : T Try.prog 75 [a0, a1] h K :=
  T_of_gwp (A := A75) Try.func75 (c := bodyOf Try.f75) (by kernel_rfl) (by kernel_rfl) (by kernel_rfl) (by kernel_rfl) (by kernel_rfl) (Eq.mp (by kernel_rfl) g)

/-! ### (*pawl/mcas.whole).counted (76) -/
def S76 (a0 a1 : Value) (h : GH) (K : Value → GH → Prop) : Prop :=
 bnd (ncV a0) fun v1 =>
 bnd (faV 0 v1) fun v2 =>
 T Try.prog 85 [v2, a1, (.int .i64 1), (.int .i64 16)] h fun v3 h4 =>
 bnd (exV v3 0) fun v5 =>
 bnd (exV v3 1) fun v6 =>
 bnd (ncV a0) fun v7 =>
 bnd (faV 9 v7) fun v8 =>
 bnd (stV 1 v8 v5 h4) fun h9 =>
 bnd (ncV a0) fun v10 =>
 bnd (faV 8 v10) fun v11 =>
 bnd (stV 1 v11 (.int .i64 0) h9) fun h12 =>
 bnd (ncV a0) fun v13 =>
 bnd (faV 7 v13) fun v14 =>
 bnd (ldV 1 false v14 h12) fun v15 =>
 bnd (binV .add v15 (.int .i64 1)) fun v16 =>
 bnd (ncV a0) fun v17 =>
 bnd (faV 7 v17) fun v18 =>
 bnd (stV 1 v18 v16 h12) fun h19 =>
 bnd (eqI v5 (.int .i64 0)) fun b20 =>
 K (.tuple #[(.bool b20), v6]) h19
def A76 : Ann := ⟨fun _ => ([], []), fun _ => []⟩
theorem S76_T {a0 a1 : Value} {h : GH} {K : Value → GH → Prop} (g : S76 a0 a1 h K) : T Try.prog 76 [a0, a1] h K :=
  T_of_gwp (A := A76) Try.func76 (c := bodyOf Try.f76) (by kernel_rfl) (by kernel_rfl) (by kernel_rfl) (by kernel_rfl) (by kernel_rfl) (Eq.mp (by kernel_rfl) g)

/-! ### (*pawl/mcas.held).takeCell (77) -/
def S77 (a0 a1 a2 : Value) (h : GH) (K : Value → GH → Prop) : Prop :=
 T Try.prog 82 [a0, a1, a2, (.int .i64 0)] h fun v1 h2 =>
 bnd (exV v1 0) fun v3 =>
 bnd (exV v1 1) fun v4 =>
 bnd (ncV a0) fun v5 =>
 bnd (faV 2 v5) fun v6 =>
 bnd (stV 1 v6 v3 h2) fun h7 =>
 K v4 h7
def A77 : Ann := ⟨fun _ => ([], []), fun _ => []⟩
theorem S77_T {a0 a1 a2 : Value} {h : GH} {K : Value → GH → Prop} (g : S77 a0 a1 a2 h K) : T Try.prog 77 [a0, a1, a2] h K :=
  T_of_gwp (A := A77) Try.func77 (c := bodyOf Try.f77) (by kernel_rfl) (by kernel_rfl) (by kernel_rfl) (by kernel_rfl) (by kernel_rfl) (Eq.mp (by kernel_rfl) g)

/-! ### (*pawl/mcas.held).takeWas (78) -/
def S78 (a0 a1 a2 : Value) (h : GH) (K : Value → GH → Prop) : Prop :=
 T Try.prog 82 [a0, a1, a2, (.int .i64 1)] h fun v1 h2 =>
 bnd (exV v1 0) fun v3 =>
 bnd (exV v1 1) fun v4 =>
 ifV v4 (
 T Try.prog 38 [v3] h2 fun v5 h6 =>
 bnd (ncV a0) fun v7 =>
 bnd (faV 3 v7) fun v8 =>
 bnd (stV 1 v8 v5 h6) fun h9 =>
 K v4 h9) (
 K v4 h2)
def A78 : Ann := ⟨fun _ => ([], []), fun _ => []⟩
theorem S78_T {a0 a1 a2 : Value} {h : GH} {K : Value → GH → Prop} (g : S78 a0 a1 a2 h K) : T Try.prog 78 [a0, a1, a2] h K :=
  T_of_gwp (A := A78) Try.func78 (c := bodyOf Try.f78) (by kernel_rfl) (by kernel_rfl) (by kernel_rfl) (by kernel_rfl) (by kernel_rfl) (Eq.mp (by kernel_rfl) g)

/-! ### (*pawl/mcas.held).decision (79) -/
def S79 (a0 a1 : Value) (h : GH) (K : Value → GH → Prop) : Prop :=
 bnd (ncV a0) fun v1 =>
 bnd (faV 0 v1) fun v2 =>
 bnd (faV 0 v2) fun v3 =>
 bnd (ldV 1 false v3 h) fun v4 =>
 T Try.prog 86 [v4] h fun v5 h6 =>
 T Try.prog 32 [a1, v5] h6 fun v7 h8 =>
 bnd (exV v7 0) fun v9 =>
 bnd (exV v7 1) fun v10 =>
 T Try.prog 33 [v9] h8 fun v11 h12 =>
 bnd (exV v11 0) fun v13 =>
 bnd (exV v11 1) fun v14 =>
 bnd (ncV a0) fun v15 =>
 bnd (faV 0 v15) fun v16 =>
 bnd (faV 1 v16) fun v17 =>
 bnd (ldV 1 false v17 h12) fun v18 =>
 T Try.prog 87 [v18, (.int .i64 0)] h12 fun v19 h20 =>
 bnd (eqI v9 v19) fun b21 =>
 bnd (ncV a0) fun v22 =>
 bnd (faV 4 v22) fun v23 =>
 bnd (stV 1 v23 (.bool b21) h20) fun h24 =>
 bnd (ncV a0) fun v25 =>
 bnd (faV 0 v25) fun v26 =>
 bnd (faV 1 v26) fun v27 =>
 bnd (ldV 1 false v27 h24) fun v28 =>
 T Try.prog 87 [v28, (.int .i64 1)] h24 fun v29 h30 =>
 bnd (eqI v9 v29) fun b31 =>
 bnd (ncV a0) fun v32 =>
 bnd (faV 5 v32) fun v33 =>
 bnd (stV 1 v33 (.bool b31) h30) fun h34 =>
 K v14 h34
def A79 : Ann := ⟨fun _ => ([], []), fun _ => []⟩
theorem S79_T {a0 a1 : Value} {h : GH} {K : Value → GH → Prop} (g : S79 a0 a1 h K) : T Try.prog 79 [a0, a1] h K :=
  T_of_gwp (A := A79) Try.func79 (c := bodyOf Try.f79) (by kernel_rfl) (by kernel_rfl) (by kernel_rfl) (by kernel_rfl) (by kernel_rfl) (Eq.mp (by kernel_rfl) g)

/-! ### (*pawl/mcas.held).settle (80) -/
def S80_j1 (x0 x1 x2 x6 : Value) (h : GH) (K : Value → GH → Prop)  : Prop :=
 bnd (ncV x0) fun v1 =>
 bnd (faV 2 v1) fun v2 =>
 bnd (ldV 1 false v2 h) fun v3 =>
 T Try.prog 83 [x1, v3, x2, x6] h fun v4 h5 =>
 K (.tuple #[]) h5
def S80 (a0 a1 a2 : Value) (h : GH) (K : Value → GH → Prop) : Prop :=
 bnd (ncV a0) fun v1 =>
 bnd (faV 3 v1) fun v2 =>
 bnd (ldV 1 false v2 h) fun v3 =>
 bnd (ncV a0) fun v4 =>
 bnd (faV 4 v4) fun v5 =>
 bnd (ldV 1 false v5 h) fun v6 =>
 ifV v6 (
 bnd (ncV a0) fun v7 =>
 bnd (faV 0 v7) fun v8 =>
 bnd (ldV 2 true v8 h) fun v9 =>
 T Try.prog 84 [(.iface 102 v9)] h fun v10 h11 =>
 S80_j1 a0 a1 a2 v10 h11 K ) (
 S80_j1 a0 a1 a2 v3 h K )
def A80 : Ann := ⟨fun _ => ([], []), fun _ => []⟩
theorem S80_T {a0 a1 a2 : Value} {h : GH} {K : Value → GH → Prop} (g : S80 a0 a1 a2 h K) : T Try.prog 80 [a0, a1, a2] h K :=
  T_of_gwp (A := A80) Try.func80 (c := bodyOf Try.f80) (by kernel_rfl) (by kernel_rfl) (by kernel_rfl) (by kernel_rfl) (by kernel_rfl) (Eq.mp (by kernel_rfl) g)
end Go.Proofs.Ytbiappodepnbmaa
