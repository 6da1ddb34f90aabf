/- Several texts in one; nothing here is a statement on the program. -/
import Derived.Test.YtfphpafkhljncaaGreatQR2
import Derived.Test.YtfphpafkhljncaaGreatProg
import Derived.KernelRfl
set_option linter.unusedVariables false
set_option linter.unusedSimpArgs false
namespace Go.Proofs.YtfphpafkhljncaaGreat
open Go GW Go.Proofs
set_option maxRecDepth 100000
def S114_j1(x3 x5 x26:VV)(h:GH)(K:CC) :Prop:=
 ifV x26 (bnd (ncV x3) fun v1=>bnd (faV 12 v1) fun v2=>bnd (ldV 1 false v2 h) fun v3=>lf_ x3 15 h fun v6=>T Pg 134 [v6] h fun v7 h8=>ldV 1 false v2 h8=some v3∧T Pg 133 [v3,v7] h8 fun v9 h10=>x2_ v9 fun v11 v12=>bnd (exV v9 2) fun v13=>sf_ x3 13 v11 h10 fun h16=>sf_ x3 12 v12 h16 fun h19=>sf_ x3 6 (.func (.func 135) #[] #[]) h19 fun h22=>K v13 h22) (K x5 h)
def S114(a0:VV)(h:GH)(K:CC):Prop:=
 lf_ a0 0 h fun v3=>lf_ v3 15 h fun v6=>lf_ a0 1 h fun v9=>T Pg 132 [v6,v9] h fun v10 h11=>x2_ v10 fun v12 v13=>ifV v12 (bnd (eqI v13 (i64 0)) fun b14=>S114_j1 v3 v13 (.bool b14) h11 K) (S114_j1 v3 v13 (.bool false) h11 K)
def A114:Ann:=⟨fun | 2=> ((.range 14), [0,1,3,7,0,16,48,112,255,511,1023,1023,2047,8191]) | 4=> ((.range 23), [0,0,0,4,12,28,0,64,192,448,960,2044,4092,8188,8188,8188,16381,81917,212989,491519,1015807,2064383,4194303]) | _=> ([], []),fun _=> []⟩
theorem S114_T{a0:VV}{h}{K}(g:S114 a0 h K):T Pg 114 [a0] h K:=gwT A114 Tryz.func114 g
def S115_j1(x0 x4 x5:VV)(h:GH)(K:CC) :Prop:=
 bnd (ncV x0) fun v1=>bnd (faV 4 v1) fun v2=>bnd (ldV 1 false v2 h) fun v3=>bnd (binV .quo x5 (i64 4)) fun v4=>T Pg 138 [v4,i64 1] h fun v5 h6=>ldV 1 false v2 h6=some v3∧bnd (eqI v3 v5) fun b7=>K (.tuple #[x4,(.bool b7)]) h6
def S115(a0:VV)(h:GH)(K:CC):Prop:=
 lf_ a0 2 h fun v3=>bnd (binV .sub v3 (i64 34)) fun v4=>bnd (binV .quo v4 (i64 50)) fun v5=>lf_ a0 4 h fun v8=>T Pg 136 [v8] h fun v9 h10=>x2_ v9 fun v11 v12=>lf_ a0 1 h10 fun v15=>en_ v15 (i64 2) (K (.tuple #[i64 0,(.bool false)]) h10) (lf_ a0 3 h10 fun v19=>lf_ a0 4 h10 fun v22=>ei_ v19 v22 (K (.tuple #[i64 0,(.bool false)]) h10) (lf_ a0 2 h10 fun v26=>bi_ .lss v26 (i64 34) (K (.tuple #[i64 0,(.bool false)]) h10) (bnd (ncV a0) fun v28=>bnd (faV 2 v28) fun v29=>bnd (ldV 1 false v29 h10) fun v30=>T Pg 137 [v5] h10 fun v31 h32=>
 ldV 1 false v29 h32=some v30∧en_ v30 v31 (K (.tuple #[i64 0,(.bool false)]) h32) (ni_ v12 (K (.tuple #[i64 0,(.bool false)]) h32) (S115_j1 a0 v5 v11 h32 K)))))
def A115:Ann:=⟨fun | 3=> ((.range 36), [0,1,3,7,15,31,63,127,255,511,63,1087,3135,7231,16383,32767,65535,131071,262143,524287,1048575,2097151,4194303,8388607,16777215,33554431,67108863,134217727,16777215,285212671,1073741823,2147483647,4294967295,8589934591,17179869183,34359738367]) | 5=> ((.range 11), [0,0,2,6,14,0,32,96,254,225,1023]) | _=> ([], []),fun _=> []⟩
theorem S115_T{a0:VV}{h}{K}(g:S115 a0 h K):T Pg 115 [a0] h K:=gwT A115 Tryz.func115 g
def S116(a0 a1 a2:VV)(h:GH)(K:CC):Prop:=
 lf_ a0 14 h fun v3=>ei_ v3 a1 (lf_ a0 5 h fun v7=>bnd (lnV v7) fun v8=>bi_ .gtr v8 (i64 0) (T Pg 139 [a0] h fun v10 h11=>sf_ v10 3 a2 h11 fun h14=>K (.tuple #[]) h14) (K (.tuple #[]) h)) (K (.tuple #[]) h)
theorem S116_T{a0 a1 a2:VV}{h}{K}(g:S116 a0 a1 a2 h K):T Pg 116 [a0,a1,a2] h K:=gwT aN_ Tryz.func116 g
def S117_j5(x1 x3 x5 x6 x29 x102:VV)(h:GH)(K:CC) :Prop:=
 ifV x102 (ifV x5 (bnd (ldV 4 true x3 h) fun v1=>bnd (ldV 4 true x1 h) fun v2=>bnd (eqP Pg 10000 24 v1 v2) fun b3=>K (.bool b3) h) (K (.bool false) h)) (ei_ x29 (i64 10) (lg_ x1 2 h fun v6=>sg_ x3 2 v6 h fun h8=>ifV x5 (lg_ x1 2 h8 fun v10=>bi_ .geq v10 (i64 0) (lg_ x1 2 h8 fun v13=>bi_ .lss v13 (i64 5) (bnd (ldV 4 true x3 h8) fun v15=>bnd (ldV 4 true x1 h8) fun v16=>bnd (eqP Pg 10000 24 v15 v16) fun b17=>K (.bool b17) h8) (K (.bool false) h8)) (K (.bool false) h8)) (K (.bool false) h8)) (ifV x6 (bnd (ldV 4 true x3 h) fun v18=>bnd (ldV 4 true x1 h) fun v19=>
 bnd (eqP Pg 10000 24 v18 v19) fun b20=>K (.bool b20) h) (K (.bool false) h)))
def S117_j4(x1 x3 x5 x6 x29 x80:VV)(h:GH)(K:CC) :Prop:=
 ifV x80 (lg_ x1 1 h fun v2=>ei_ v2 (i64 0) (bnd (ldV 4 true x3 h) fun v4=>bnd (ldV 4 true x1 h) fun v5=>bnd (eqP Pg 10000 24 v4 v5) fun b6=>K (.bool b6) h) (K (.bool false) h)) (ei_ x29 (i64 6) (lg_ x1 3 h fun v9=>sg_ x3 3 v9 h fun h11=>ifV x5 (lg_ x1 3 h11 fun v13=>ei_ v13 (i64 0) (bnd (ldV 4 true x3 h11) fun v15=>bnd (ldV 4 true x1 h11) fun v16=>bnd (eqP Pg 10000 24 v15 v16) fun b17=>K (.bool b17) h11) (lg_ x1 3 h11 fun v19=>ei_ v19 (i64 1) (bnd (ldV 4 true x3 h11) fun v21=>bnd (ldV 4 true x1 h11) fun v22=>bnd (eqP Pg 10000 24 v21 v22) fun b23=>K (.bool b23) h11) (
 K (.bool false) h11))) (K (.bool false) h11)) (ei_ x29 (i64 7) (S117_j5 x1 x3 x5 x6 x29 (.bool true) h K) (bnd (eqI x29 (i64 8)) fun b25=>S117_j5 x1 x3 x5 x6 x29 (.bool b25) h K)))
def S117_j3(x1 x3 x4 x5 x6 x29 x30:VV)(h:GH)(K:CC) :Prop:=
 ifV x30 (lg_ x1 3 h fun v2=>sg_ x3 3 v2 h fun h4=>ifV x4 (lg_ x1 3 h4 fun v6=>bi_ .geq v6 (i64 0) (lg_ x1 3 h4 fun v9=>bi_ .leq v9 (i64 1048575) (bnd (ldV 4 true x3 h4) fun v11=>bnd (ldV 4 true x1 h4) fun v12=>bnd (eqP Pg 10000 24 v11 v12) fun b13=>K (.bool b13) h4) (K (.bool false) h4)) (K (.bool false) h4)) (K (.bool false) h4)) (ei_ x29 (i64 1) (ifV x4 (bnd (ldV 4 true x3 h) fun v15=>bnd (ldV 4 true x1 h) fun v16=>bnd (eqP Pg 10000 24 v15 v16) fun b17=>K (.bool b17) h) (K (.bool false) h)) (ei_ x29 (i64 4) (lg_ x1 2 h fun v20=>sg_ x3 2 v20 h fun h22=>
 lg_ x1 3 h22 fun v24=>sg_ x3 3 v24 h22 fun h26=>ifV x4 (lg_ x1 2 h26 fun v28=>bi_ .geq v28 (i64 0) (lg_ x1 2 h26 fun v31=>bi_ .lss v31 (i64 4) (lg_ x1 3 h26 fun v34=>bi_ .geq v34 (i64 0) (lg_ x1 3 h26 fun v37=>bi_ .leq v37 (i64 1048575) (bnd (ldV 4 true x3 h26) fun v39=>bnd (ldV 4 true x1 h26) fun v40=>bnd (eqP Pg 10000 24 v39 v40) fun b41=>K (.bool b41) h26) (K (.bool false) h26)) (K (.bool false) h26)) (K (.bool false) h26)) (K (.bool false) h26)) (K (.bool false) h26)) (ei_ x29 (i64 5) (S117_j4 x1 x3 x5 x6 x29 (.bool true) h K) (
 bnd (eqI x29 (i64 9)) fun b43=>S117_j4 x1 x3 x5 x6 x29 (.bool b43) h K))))
def S117_j2(x1 x3 x4 x5:VV)(h:GH)(K:CC) :Prop:=
 lg_ x1 0 h fun v2=>ei_ v2 (i64 0) (S117_j3 x1 x3 x4 x5 (.bool false) v2 (.bool true) h K) (ei_ v2 (i64 2) (S117_j3 x1 x3 x4 x5 (.bool false) v2 (.bool true) h K) (bnd (eqI v2 (i64 3)) fun b5=>S117_j3 x1 x3 x4 x5 (.bool false) v2 (.bool b5) h K))
def S117_j1(x1 x3 x4:VV)(h:GH)(K:CC) :Prop:=
 lg_ x1 1 h fun v2=>bi_ .geq v2 (i64 0) (lg_ x1 1 h fun v5=>bnd (binV .lss v5 (i64 5)) fun v6=>S117_j2 x1 x3 x4 v6 h K) (S117_j2 x1 x3 x4 (.bool false) h K)
def S117(a0:VV)(h:GH)(K:CC):Prop:=
 newV 24 (a0:VV).cells.toList h fun v1 h2=>lg_ v1 0 h2 fun v4=>lg_ v1 1 h2 fun v6=>bnd (fillV [i64 0,i64 0,i64 0,i64 0] [(0,1,v4),(1,1,v6)]) fun c7=>newV 24 [i64 0,i64 0,i64 0,i64 0] h2 fun v8 h9=>bnd (stV 4 v8 (.agg c7.toArray) h9) fun h10=>lg_ v1 1 h10 fun v12=>bi_ .geq v12 (i64 0) (lg_ v1 1 h10 fun v15=>bnd (binV .lss v15 (i64 4)) fun v16=>S117_j1 v1 v8 v16 h10 K) (S117_j1 v1 v8 (.bool false) h10 K)
theorem S117_T{a0:VV}{h}{K}(g:S117 a0 h K):T Pg 117 [a0] h K:=gwT aN_ Tryz.func117 g
def S118(a0:VV)(h:GH)(K:CC):Prop:=
 bnd (binV .mul (i64 4) a0) fun v1=>K v1 h
theorem S118_T{a0:VV}{h}{K}(g:S118 a0 h K):T Pg 118 [a0] h K:=gwT aN_ Tryz.func118 g
def S119_j1(x0:VV)(h:GH)(K:CC) :Prop:=
 lf_ x0 0 h fun v3=>T Pg 140 [v3] h fun v4 h5=>x2_ v4 fun v6 v7=>sf_ x0 11 v6 h5 fun h10=>sf_ x0 19 (.bool false) h10 fun h13=>sf_ x0 18 (i64 2) h13 fun h16=>sf_ x0 8 (i64 1) h16 fun h19=>K (.bool true) h19
def S119(a0 a1:VV)(h:GH)(K:CC):Prop:=
 T Pg 88 [a0] h fun v1 h2=>ifV v1 (K (.bool false) h2) (lf_ a0 17 h2 fun v5=>bi_ .gtr v5 (i64 0) (lf_ a0 17 h2 fun v9=>bnd (binV .sub v9 (i64 1)) fun v10=>sf_ a0 17 v10 h2 fun h13=>K (.bool false) h13) (lf_ a0 16 h2 fun v16=>ei_ v16 (i64 0) (lf_ a0 20 h2 fun v20=>lf_ a0 0 h2 fun v23=>lf_ a0 20 h2 fun v26=>bnd (lnV v26) fun v27=>bnd (fillV [i64 0,i64 0,i64 0,i64 0,i64 0,i64 0,i64 0,nS_] [(0,1,v23),(1,1,v27),(2,1,a1),(3,1,(.int .i64 (-1))),(4,1,(.int .i64 (-1)))]) fun c28=>
 bsV 56 1 [i64 0,i64 0,i64 0,i64 0,i64 0,i64 0,i64 0,nS_] [(0,8,(.agg c28.toArray))] h2 fun v29 h30=>apV 56 8 80 v20 v29 h30 fun v31 h32=>sf_ a0 20 v31 h32 fun h35=>S119_j1 a0 h35 K) (S119_j1 a0 h2 K)))
def A119:Ann:=⟨fun | 7=> ((.range 21), [0,0,2,6,14,0,32,96,224,0,512,1536,3584,7680,0,32736,65504,131070,262143,524287,1048575]) | _=> ([], []),fun _=> []⟩
theorem S119_T{a0 a1:VV}{h}{K}(g:S119 a0 a1 h K):T Pg 119 [a0,a1] h K:=gwT A119 Tryz.func119 g
def S120_j3(x0 x10 x58:VV)(h:GH)(K:CC) :Prop:=
 ifV x58 (lf_ x0 6 h fun v3=>lf_ x0 11 h fun v6=>lf_ v6 2 h fun v9=>T Pg 144 [v3,v9] h fun v10 h11=>x2_ v10 fun v12 v13=>bnd (exV v10 2) fun v14=>sf_ x0 10 v12 h11 fun h17=>sf_ x0 6 v13 h17 fun h20=>sf_ x0 8 (i64 2) h20 fun h23=>K x10 h23) (K x10 h)
def S120_j2(x0 x1 x2 x3:VV)(h:GH)(K:CC) :Prop:=
 lf_ x0 8 h fun v3=>ei_ v3 (i64 1) (lf_ x0 11 h fun v7=>T Pg 143 [v7,x1] h fun v8 h9=>x2_ v8 fun v10 v11=>ifV v10 (bnd (eqI v11 (i64 0)) fun b12=>S120_j3 x0 v11 (.bool b12) h9 K) (S120_j3 x0 v11 (.bool false) h9 K)) (ei_ v3 (i64 2) (lf_ x0 12 h fun v16=>T Pg 145 [v16,x1] h fun v17 h18=>x2_ v17 fun v19 v20=>ifV v19 (bsV 3 0 [] [] h18 fun v21 h22=>lf_ x0 10 h22 fun v25=>bnd (slV 1 v25 (some (i64 1)) none) fun v26=>apV 3 1 8 v21 v26 h22 fun v27 h28=>sf_ x0 10 v27 h28 fun h31=>sf_ x0 12 nP_ h31 fun h34=>K v20 h34) (K v20 h18)) (ei_ v3 (i64 3) (
 T Pg 146 [x0,x1,x2] h fun v36 h37=>K v36 h37) (ei_ v3 (i64 4) (T Pg 147 [x0,x1] h fun v39 h40=>K v39 h40) (ei_ v3 (i64 5) (T Pg 148 [x1,i64 29] h fun v42 h43=>x2_ v42 fun v44 v45=>T Pg 149 [v44] h43 fun v46 h47=>x2_ v46 fun v48 v49=>ni_ v49 (K (i64 1800) h47) (lf_ x0 6 h47 fun v53=>lf_ x0 9 h47 fun v56=>bnd (fillV [i64 0,i64 0] [(0,1,v56),(1,1,v48)]) fun c57=>bsV 220 1 [i64 0,i64 0] [(0,2,(.agg c57.toArray))] h47 fun v58 h59=>apV 220 2 16 v53 v58 h59 fun v60 h61=>sf_ x0 6 v60 h61 fun h64=>sf_ x0 9 (.int .i64 (-1)) h64 fun h67=>
 sf_ x0 8 (i64 6) h67 fun h70=>K (i64 0) h70)) (ei_ v3 (i64 6) (lf_ x0 1 h fun v74=>T Pg 150 [v74] h fun v75 h76=>x2_ v75 fun v77 v78=>sf_ x0 15 v77 h76 fun h81=>sf_ x0 8 (i64 7) h81 fun h84=>lf_ x0 0 h84 fun v87=>T Pg 151 [x1,v87] h84 fun v88 h89=>K v88 h89) (lf_ x0 15 h fun v92=>T Pg 152 [v92,x1] h fun v93 h94=>x2_ v93 fun v95 v96=>ifV v95 (ei_ v96 (i64 0) (T Pg 153 [x0,x3] h94 fun v98 h99=>K v96 h99) (K v96 h94)) (K v96 h94)))))))
def S120_j1(x0 x1 x2 x3:VV)(h:GH)(K:CC) :Prop:=
 lf_ x0 8 h fun v3=>ei_ v3 (i64 3) (T Pg 142 [x0,x2] h fun v5 h6=>S120_j2 x0 x1 x2 x3 h6 K) (S120_j2 x0 x1 x2 x3 h K)
def S120(a0 a1 a2 a3:VV)(h:GH)(K:CC):Prop:=
 lf_ a0 8 h fun v3=>ei_ v3 (i64 2) (T Pg 141 [a0] h fun v5 h6=>S120_j1 a0 a1 a2 a3 h6 K) (S120_j1 a0 a1 a2 a3 h K)
def A120:Ann:=⟨fun | 9=> ((.range 19), [0,1,3,7,0,16,48,112,240,496,1008,2047,4095,8191,8191,8191,16383,98303,262143]) | 29=> ((.range 16), [0,0,2,6,14,0,32,96,224,0,992,2016,4094,8191,16383,32767]) | _=> ([], []),fun _=> []⟩
theorem S120_T{a0 a1 a2 a3:VV}{h}{K}(g:S120 a0 a1 a2 a3 h K):T Pg 120 [a0,a1,a2,a3] h K:=gwT A120 Tryz.func120 g
def S121(a0:VV)(h:GH)(K:CC):Prop:=
 bnd (binV .mul (i64 50) a0) fun v1=>bnd (binV .add (i64 34) v1) fun v2=>K v2 h
theorem S121_T{a0:VV}{h}{K}(g:S121 a0 h K):T Pg 121 [a0] h K:=gwT aN_ Tryz.func121 g
def S122(a0 a1:VV)(h:GH)(K:CC):Prop:=
 bnd (lnV a0) fun v1=>Lfp (fun (s2:Nat→Value) h3 again4=>bi_ .lss (s2 3) (s2 2) (li_ (s2 0) (s2 3) h3 fun v7=>callV Pg (s2 1) [v7] h3 fun v8 h9=>ifV v8 (K (s2 3) h9) (bnd (binV .add (s2 3) (i64 1)) fun v10=>again4 (tup [(s2 0),(s2 1),(s2 2),v10]) h9)) (K (.int .i64 (-1)) h3)) (tup [a0,a1,v1,i64 0]) h
def A122:Ann:=⟨fun _=> ([], []),fun | 0=> [0,1,7,8] | _=> []⟩
theorem S122_T{a0 a1:VV}{h}{K}(g:S122 a0 a1 h K):T Pg 122 [a0,a1] h K:=gwT A122 Tryz.func122 g
def S123(a0:VV)(h:GH)(K:CC):Prop:=
 newV 190 [i64 0,i64 0] h fun v1 h2=>T Pg 136 [a0] h2 fun v3 h4=>x2_ v3 fun v5 v6=>bnd (binV .quo v5 (i64 16)) fun v7=>bnd (binV .rem v5 (i64 16)) fun v8=>bnd (fillV [i64 0,i64 0] [(0,1,v7),(1,1,v8)]) fun c9=>newV 190 [i64 0,i64 0] h4 fun v10 h11=>bnd (stV 2 v10 (.agg c9.toArray) h11) fun h12=>bnd (ldV 2 true v10 h12) fun v13=>ifV v6 (lg_ v10 1 h12 fun v15=>bi_ .leq v15 (i64 12) (bnd (faV 0 v10) fun v17=>bnd (ldV 1 false v17 h12) fun v18=>bnd (binV .leq v18 (i64 1073741823)) fun v19=>bnd (stV 2 v1 v13 h12) fun h20=>
 ldV 1 false v17 h20=some v18∧bnd (ldV 2 true v1 h20) fun v21=>K (.tuple #[v21,v19]) h20) (bnd (stV 2 v1 v13 h12) fun h22=>bnd (ldV 2 true v1 h22) fun v23=>K (.tuple #[v23,(.bool false)]) h22)) (bnd (stV 2 v1 v13 h12) fun h24=>bnd (ldV 2 true v1 h24) fun v25=>K (.tuple #[v25,(.bool false)]) h24)
def A123:Ann:=⟨fun | 3=> ((.range 14), [0,0,2,6,14,30,62,126,254,510,1022,2046,255,8191]) | _=> ([], []),fun _=> []⟩
theorem S123_T{a0:VV}{h}{K}(g:S123 a0 h K):T Pg 123 [a0] h K:=gwT A123 Tryz.func123 g
def S124(a0:VV)(h:GH)(K:CC):Prop:=
 T Pg 136 [a0] h fun v1 h2=>x2_ v1 fun v3 v4=>ifV v4 (bnd (binV .leq v3 (i64 12)) fun v5=>K (.tuple #[v3,v5]) h2) (K (.tuple #[v3,(.bool false)]) h2)
theorem S124_T{a0:VV}{h}{K}(g:S124 a0 h K):T Pg 124 [a0] h K:=gwT aN_ Tryz.func124 g
def S125(a0:VV)(h:GH)(K:CC):Prop:=
 T Pg 126 [a0] h fun v1 h2=>x2_ v1 fun v3 v4=>bnd (binV .rem v3 (i64 16)) fun v5=>bnd (binV .quo v3 (i64 16)) fun v6=>ifV v4 (bnd (binV .rem v3 (i64 16)) fun v7=>bi_ .leq v7 (i64 12) (bnd (binV .quo v3 (i64 16)) fun v9=>bnd (binV .leq v9 (i64 1073741823)) fun v10=>K (.tuple #[v5,v6,v10]) h2) (K (.tuple #[v5,v6,(.bool false)]) h2)) (K (.tuple #[v5,v6,(.bool false)]) h2)
theorem S125_T{a0:VV}{h}{K}(g:S125 a0 h K):T Pg 125 [a0] h K:=gwT aN_ Tryz.func125 g
def S126(a0:VV)(h:GH)(K:CC):Prop:=
 T Pg 154 [a0] h fun v1 h2=>x2_ v1 fun v3 v4=>newV 225 [i64 0,i64 0,i64 0,i64 0,i64 0,i64 0,i64 0] h2 fun v5 h6=>bnd (stV 7 v5 v3 h6) fun h7=>lg_ v5 1 h7 fun v9=>ei_ v4 (i64 0) (lg_ v5 0 h7 fun v12=>bnd (eqI v12 (i64 0)) fun b13=>K (.tuple #[v9,(.bool b13)]) h7) (K (.tuple #[v9,(.bool false)]) h7)
def A126:Ann:=⟨fun | 2=> ((.range 11), [0,1,0,4,12,28,60,124,252,31,1023]) | _=> ([], []),fun _=> []⟩
theorem S126_T{a0:VV}{h}{K}(g:S126 a0 h K):T Pg 126 [a0] h K:=gwT A126 Tryz.func126 g
def S127(a0:VV)(h:GH)(K:CC):Prop:=
 bnd (fillV [i64 0,i64 0,i64 0] [(0,1,(i64 4)),(1,1,(i64 1)),(2,1,(i64 1048576))]) fun c1=>bnd (fillV [i64 0,i64 0,i64 0] [(0,1,(i64 4)),(1,1,(i64 1)),(2,1,(i64 1))]) fun c2=>bnd (fillV [i64 0,i64 0,i64 0] [(0,1,(i64 4)),(1,1,(i64 1)),(2,1,(i64 1048576))]) fun c3=>bnd (fillV [i64 0,i64 0,i64 0] [(0,1,(i64 4)),(1,1,(i64 1)),(2,1,(i64 1048576))]) fun c4=>
 bnd (fillV [i64 0,i64 0,i64 0] [(0,1,(i64 4)),(1,1,(i64 4)),(2,1,(i64 1048576))]) fun c5=>bnd (fillV [i64 0,i64 0,i64 0] [(0,1,(i64 1)),(1,1,(i64 1)),(2,1,(i64 1))]) fun c6=>bnd (fillV [i64 0,i64 0,i64 0] [(0,1,(i64 5)),(1,1,(i64 1)),(2,1,(i64 2))]) fun c7=>bnd (fillV [i64 0,i64 0,i64 0] [(0,1,(i64 5)),(1,1,(i64 1)),(2,1,(i64 1))]) fun c8=>
 bnd (fillV [i64 0,i64 0,i64 0] [(0,1,(i64 5)),(1,1,(i64 1)),(2,1,(i64 1))]) fun c9=>bnd (fillV [i64 0,i64 0,i64 0] [(0,1,(i64 1)),(1,1,(i64 1)),(2,1,(i64 1))]) fun c10=>bnd (fillV [i64 0,i64 0,i64 0] [(0,1,(i64 5)),(1,1,(i64 5)),(2,1,(i64 1))]) fun c11=>
 bnd (fillV (List.replicate 33 (i64 0)) [(0,3,(.agg c1.toArray)),(3,3,(.agg c2.toArray)),(6,3,(.agg c3.toArray)),(9,3,(.agg c4.toArray)),(12,3,(.agg c5.toArray)),(15,3,(.agg c6.toArray)),(18,3,(.agg c7.toArray)),(21,3,(.agg c8.toArray)),(24,3,(.agg c9.toArray)),(27,3,(.agg c10.toArray)),(30,3,(.agg c11.toArray))]) fun c12=>newV 230 (List.replicate 33 (i64 0)) h fun v13 h14=>bnd (stV 33 v13 (.agg c12.toArray) h14) fun h15=>lf_ a0 0 h15 fun v18=>T Pg 75 [v18,i64 11] h15 fun v19 h20=>ni_ v19 (K (.bool false) h20) (lf_ a0 0 h20 fun v24=>bnd (iaV 11 3 v13 v24) fun v25=>
 bnd (ldV 3 true v25 h20) fun v26=>newV 229 [i64 0,i64 0,i64 0] h20 fun v27 h28=>bnd (stV 3 v27 v26 h28) fun h29=>lf_ a0 1 h29 fun v32=>lg_ v27 0 h29 fun v34=>T Pg 75 [v32,v34] h29 fun v35 h36=>ifV v35 (lf_ a0 2 h36 fun v39=>lg_ v27 1 h36 fun v41=>T Pg 75 [v39,v41] h36 fun v42 h43=>ifV v42 (lf_ a0 3 h43 fun v46=>lg_ v27 2 h43 fun v48=>T Pg 75 [v46,v48] h43 fun v49 h50=>K v49 h50) (K (.bool false) h43)) (K (.bool false) h36))
def A127:Ann:=⟨fun | 5=> ((.range 26), [0,1,3,7,0,16,63,127,255,511,1023,2047,255,4351,16383,32767,65535,131071,262143,524287,1048575,131071,2228223,8388607,16777215,33554431]) | _=> ([], []),fun _=> []⟩
theorem S127_T{a0:VV}{h}{K}(g:S127 a0 h K):T Pg 127 [a0] h K:=gwT A127 Tryz.func127 g
def S131(a0:VV)(h:GH)(K:CC):Prop:=
 T Pg 75 [a0,i64 4] h fun v1 h2=>K v1 h2
theorem S131_T{a0:VV}{h}{K}(g:S131 a0 h K):T Pg 131 [a0] h K:=gwT aN_ Tryz.func131 g
def S132_j4(x0 x6:VV)(h:GH)(K:CC) :Prop:=
 sf_ x0 1 x6 h fun h3=>sf_ x0 3 (.bool true) h3 fun h6=>sf_ x0 2 (.bool false) h6 fun h9=>lf_ x0 4 h9 fun v12=>K (.tuple #[v12,i64 0]) h9
def S132_j3(x0 x1:VV)(h:GH)(K:CC) :Prop:=
 T Pg 156 [x1] h fun v1 h2=>x2_ v1 fun v3 v4=>ni_ v4 (sf_ x0 4 (.bool true) h2 fun h8=>K (.tuple #[(.bool true),i64 1100]) h8) (lf_ x0 2 h2 fun v11=>ifV v11 (lf_ x0 1 h2 fun v14=>bnd (eqI v3 v14) fun b15=>sf_ x0 4 (.bool b15) h2 fun h18=>S132_j4 x0 v3 h18 K) (sf_ x0 4 (.bool false) h2 fun h21=>S132_j4 x0 v3 h21 K))
def S132_j2(x0 x1 x20:VV)(h:GH)(K:CC) :Prop:=
 ifV x20 (lf_ x0 0 h fun v3=>lf_ x0 1 h fun v6=>bnd (binV .add v6 (i64 1)) fun v7=>T Pg 155 [x1,v3,v7] h fun v8 h9=>sf_ x0 2 (.bool true) h9 fun h12=>K (.tuple #[(.bool false),i64 0]) h12) (S132_j3 x0 x1 h K)
def S132_j1(x0 x1 x8:VV)(h:GH)(K:CC) :Prop:=
 ifV x8 (K (.tuple #[(.bool false),i64 1]) h) (lf_ x0 4 h fun v3=>ifV v3 (K (.tuple #[(.bool true),i64 0]) h) (lf_ x0 3 h fun v6=>ifV v6 (lf_ x0 2 h fun v9=>bnd (unV .not v9) fun v10=>S132_j2 x0 x1 v10 h K) (S132_j2 x0 x1 (.bool false) h K)))
def S132(a0 a1:VV)(h:GH)(K:CC):Prop:=
 bnd (eqK .ptr true a0 nP_) fun b1=>ifV (.bool b1) (S132_j1 a0 a1 (.bool true) h K) (bnd (eqK .ptr true a1 nP_) fun b2=>S132_j1 a0 a1 (.bool b2) h K)
def A132:Ann:=⟨fun | 6=> ((.range 11), [0,0,2,6,14,0,32,96,224,480,1023]) | _=> ([], []),fun _=> []⟩
theorem S132_T{a0 a1:VV}{h}{K}(g:S132 a0 a1 h K):T Pg 132 [a0,a1] h K:=gwT A132 Tryz.func132 g
def S133_j1(x0 x1:VV)(h:GH)(K:CC) :Prop:=
 bnd (lnV x0) fun v1=>Lfp (fun (s2:Nat→Value) h3 again4=>bi_ .lss (s2 5) (s2 4) (bnd (isV 2 (s2 3) (s2 5)) fun v6=>bnd (ldV 2 true v6 h3) fun v7=>newV 220 [i64 0,i64 0] h3 fun v8 h9=>bnd (stV 2 v8 v7 h9) fun h10=>lg_ v8 1 h10 fun v12=>bnd (binV .sub (s2 0) v12) fun v13=>bi_ .geq v13 (i64 3) (lg_ v8 0 h10 fun v16=>bsV 3 1 [i64 0] [(0,1,v16)] h10 fun v17 h18=>apV 3 1 8 (s2 1) v17 h18 fun v19 h20=>bnd (binV .add (s2 5) (i64 1)) fun v21=>again4 (tup [(s2 0),v19,(s2 2),(s2 3),(s2 4),v21]) h20) (bnd (ldV 2 true v8 h10) fun v22=>
 bsV 220 1 [i64 0,i64 0] [(0,2,v22)] h10 fun v23 h24=>apV 220 2 16 (s2 2) v23 h24 fun v25 h26=>bnd (binV .add (s2 5) (i64 1)) fun v27=>again4 (tup [(s2 0),(s2 1),v25,(s2 3),(s2 4),v27]) h26)) (K (.tuple #[(s2 1),(s2 2),i64 0]) h3)) (tup [x1,nS_,nS_,x0,v1,i64 0]) h
def S133(a0 a1:VV)(h:GH)(K:CC):Prop:=
 T Pg 157 [a0,(.func (.func 158) #[] #[])] h fun v1 h2=>ifV v1 (K (.tuple #[nS_,nS_,i64 1200]) h2) (T Pg 159 [a1] h2 fun v3 h4=>ni_ v3 (K (.tuple #[nS_,nS_,i64 1200]) h4) (S133_j1 a0 a1 h4 K))
def A133:Ann:=⟨fun _=> ([], []),fun | 0=> [1,7,8,18,19,20] | _=> []⟩
theorem S133_T{a0 a1:VV}{h}{K}(g:S133 a0 a1 h K):T Pg 133 [a0,a1] h K:=gwT A133 Tryz.func133 g
def S134(a0:VV)(h:GH)(K:CC):Prop:=
 bnd (eqK .ptr true a0 nP_) fun b1=>ifV (.bool b1) (K (i64 0) h) (lf_ a0 1 h fun v4=>K v4 h)
theorem S134_T{a0:VV}{h}{K}(g:S134 a0 h K):T Pg 134 [a0] h K:=gwT aN_ Tryz.func134 g
def S135_j1(s4:Nat→Value)(x0 x3:VV)(h:GH)(K:CC)(again6:(Nat→VV)→GH→Prop):Prop:=
 lf_ x3 11 h fun v3=>lf_ x3 13 h fun v6=>li_ v6 (i64 0) h fun v8=>bnd (ncV x3) fun v9=>bnd (faV 13 v9) fun v10=>bnd (ldV 1 false v10 h) fun v11=>bnd (slV 1 v11 (some (i64 1)) none) fun v12=>bsV 3 1 [i64 0] [(0,1,v8)] h fun v13 h14=>apV 3 1 8 v3 v13 h14 fun v15 h16=>ldV 1 false v10 h16=some v11∧sf_ x3 11 v15 h16 fun h19=>sf_ x3 13 v12 h19 fun h22=>again6 (tup [x0,x3]) h22
def S135_j4(s4:Nat→Value)(x3 x5 x96:VV)(h:GH)(K:CC)(again6:(Nat→VV)→GH→Prop):Prop:=
 ifV x96 (lf_ x3 13 h fun v3=>bnd (slV 1 v3 (some (i64 1)) none) fun v4=>sf_ x3 16 nP_ h fun h7=>sf_ x3 13 v4 h7 fun h10=>K x5 h10) (K x5 h)
def S135_j3(s4:Nat→Value)(x0 x3:VV)(h:GH)(K:CC)(again6:(Nat→VV)→GH→Prop):Prop:=
 lf_ x3 16 h fun v3=>lf_ x0 1 h fun v6=>T Pg 162 [v3,v6] h fun v7 h8=>x2_ v7 fun v9 v10=>ifV v9 (bnd (eqI v10 (i64 0)) fun b11=>S135_j4 s4 x3 v10 (.bool b11) h8 K again6) (S135_j4 s4 x3 v10 (.bool false) h8 K again6)
def S135_j2(s4:Nat→Value)(x0 x3:VV)(h:GH)(K:CC)(again6:(Nat→VV)→GH→Prop):Prop:=
 lf_ x3 13 h fun v3=>bnd (lnV v3) fun v4=>ei_ v4 (i64 0) (T Pg 160 [x0] h fun v6 h7=>K v6 h7) (lf_ x3 16 h fun v10=>bnd (eqK .ptr true v10 nP_) fun b11=>ifV (.bool b11) (lf_ x3 13 h fun v14=>li_ v14 (i64 0) h fun v16=>T Pg 161 [v16] h fun v17 h18=>x2_ v17 fun v19 v20=>sf_ x3 16 v19 h18 fun h23=>S135_j3 s4 x0 x3 h23 K again6) (S135_j3 s4 x0 x3 h K again6))
def S135(a0:VV)(h:GH)(K:CC):Prop:=
 lf_ a0 0 h fun v3=>Lfp (fun (s4:Nat→Value) h5 again6=>lf_ (s4 1) 16 h5 fun v9=>bnd (eqK .ptr true v9 nP_) fun b10=>ifV (.bool b10) (lf_ (s4 1) 13 h5 fun v13=>bnd (lnV v13) fun v14=>bi_ .gtr v14 (i64 0) (lf_ (s4 1) 11 h5 fun v18=>bnd (lnV v18) fun v19=>bi_ .lss v19 (i64 2) (S135_j1 s4 (s4 0) (s4 1) h5 K again6) (S135_j2 s4 (s4 0) (s4 1) h5 K again6)) (S135_j2 s4 (s4 0) (s4 1) h5 K again6)) (S135_j2 s4 (s4 0) (s4 1) h5 K again6)) (tup [a0,v3]) h
def A135:Ann:=⟨fun | 3=> ([0,1,2,3,4,5,6,7,8,9,10,11,14,15,16,17,18,12,13,19,20,21,22,23,24], [0,0,0,4,12,28,0,64,192,448,960,1984,4032,8188,0,16384,49152,114688,245760,262141,786429,1835005,4194303,8388607,16777215]) | 8=> ((.range 14), [0,1,3,7,0,16,48,112,255,511,1023,1023,2047,8191]) | 10=> ((.range 13), [0,0,0,4,12,28,60,61,189,445,1023,2047,4095]) | _=> ([], []),fun | 0=> [0,3] | _=> []⟩
theorem S135_T{a0:VV}{h}{K}(g:S135 a0 h K):T Pg 135 [a0] h K:=gwT A135 Tryz.func135 g
def S136(a0:VV)(h:GH)(K:CC):Prop:=
 T Pg 163 [a0] h fun v1 h2=>bnd (taV 178 (i64 0) true v1) fun v3=>x2_ v3 fun v4 v5=>K (.tuple #[v4,v5]) h2
theorem S136_T{a0:VV}{h}{K}(g:S136 a0 h K):T Pg 136 [a0] h K:=gwT aN_ Tryz.func136 g
def S137(a0:VV)(h:GH)(K:CC):Prop:=
 bnd (binV .mul a0 (i64 50)) fun v1=>bnd (binV .add (i64 34) v1) fun v2=>K v2 h
theorem S137_T{a0:VV}{h}{K}(g:S137 a0 h K):T Pg 137 [a0] h K:=gwT aN_ Tryz.func137 g
def S138(a0 a1:VV)(h:GH)(K:CC):Prop:=
 bnd (binV .mul a0 (i64 4)) fun v1=>bnd (binV .add v1 a1) fun v2=>T Pg 78 [v2] h fun v3 h4=>K v3 h4
theorem S138_T{a0 a1:VV}{h}{K}(g:S138 a0 a1 h K):T Pg 138 [a0,a1] h K:=gwT aN_ Tryz.func138 g
def S139(a0:VV)(h:GH)(K:CC):Prop:=
 lf_ a0 5 h fun v3=>lf_ a0 5 h fun v6=>bnd (lnV v6) fun v7=>bnd (binV .sub v7 (i64 1)) fun v8=>bnd (isV 8 v3 v8) fun v9=>K v9 h
def A139:Ann:=⟨fun | 1=> ((.range 12), [0,1,3,7,0,16,48,112,240,496,1023,2047]) | _=> ([], []),fun _=> []⟩
theorem S139_T{a0:VV}{h}{K}(g:S139 a0 h K):T Pg 139 [a0] h K:=gwT A139 Tryz.func139 g
def S140(a0:VV)(h:GH)(K:CC):Prop:=
 T Pg 164 [a0] h fun v1 h2=>ni_ v1 (K (.tuple #[nP_,i64 1100]) h2) (bnd (fillV [i64 0,i64 0,i64 0,(.bool false)] [(1,1,a0)]) fun c4=>newV 215 ((.agg c4.toArray):VV).cells.toList h2 fun v5 h6=>K (.tuple #[v5,i64 0]) h6)
theorem S140_T{a0:VV}{h}{K}(g:S140 a0 h K):T Pg 140 [a0] h K:=gwT aN_ Tryz.func140 g
def S141_j1(s1:Nat→Value)(x0:VV)(h:GH)(K:CC)(again3:(Nat→VV)→GH→Prop):Prop:=
 lf_ x0 5 h fun v3=>lf_ x0 10 h fun v6=>li_ v6 (i64 0) h fun v8=>bsV 3 1 [i64 0] [(0,1,v8)] h fun v9 h10=>apV 3 1 8 v3 v9 h10 fun v11 h12=>sf_ x0 5 v11 h12 fun h15=>bsV 3 0 [] [] h15 fun v16 h17=>lf_ x0 10 h17 fun v20=>bnd (slV 1 v20 (some (i64 1)) none) fun v21=>apV 3 1 8 v16 v21 h17 fun v22 h23=>sf_ x0 10 v22 h23 fun h26=>again3 (tup [x0]) h26
def S141_j2(s1:Nat→Value)(x0:VV)(h:GH)(K:CC)(again3:(Nat→VV)→GH→Prop):Prop:=
 lf_ x0 10 h fun v3=>bnd (lnV v3) fun v4=>ei_ v4 (i64 0) (sf_ x0 8 (i64 3) h fun h8=>K (.tuple #[]) h8) (lf_ x0 12 h fun v11=>bnd (eqK .ptr true v11 nP_) fun b12=>ifV (.bool b12) (lf_ x0 10 h fun v15=>li_ v15 (i64 0) h fun v17=>T Pg 165 [v17] h fun v18 h19=>x2_ v18 fun v20 v21=>sf_ x0 12 v20 h19 fun h24=>K (.tuple #[]) h24) (K (.tuple #[]) h))
def S141(a0:VV)(h:GH)(K:CC):Prop:=
 Lfp (fun (s1:Nat→Value) h2 again3=>lf_ (s1 0) 12 h2 fun v6=>bnd (eqK .ptr true v6 nP_) fun b7=>ifV (.bool b7) (lf_ (s1 0) 10 h2 fun v10=>bnd (lnV v10) fun v11=>bi_ .gtr v11 (i64 0) (lf_ (s1 0) 5 h2 fun v15=>bnd (lnV v15) fun v16=>bi_ .lss v16 (i64 2) (S141_j1 s1 (s1 0) h2 K again3) (S141_j2 s1 (s1 0) h2 K again3)) (S141_j2 s1 (s1 0) h2 K again3)) (S141_j2 s1 (s1 0) h2 K again3)) (tup [a0]) h
def A141:Ann:=⟨fun | 1=> ((.range 16), [0,0,2,6,14,0,32,96,224,480,992,2016,4094,8191,16383,32767]) | _=> ([], []),fun | 0=> [0] | _=> []⟩
theorem S141_T{a0:VV}{h}{K}(g:S141 a0 h K):T Pg 141 [a0] h K:=gwT A141 Tryz.func141 g
def S142_j2(x0:VV)(h:GH)(K:CC) :Prop:=
 lf_ x0 13 h fun v3=>bnd (eqK .ptr true v3 nP_) fun b4=>ifV (.bool b4) (T Pg 167 [] h fun v5 h6=>sf_ x0 13 v5 h6 fun h9=>K (.tuple #[]) h9) (K (.tuple #[]) h)
def S142_j1(x0 x1 x4 x20:VV)(h:GH)(K:CC) :Prop:=
 ifV x20 (lf_ x0 5 h fun v3=>li_ v3 x4 h fun v5=>bsV 3 0 [] [] h fun v6 h7=>lf_ x0 5 h7 fun v10=>bnd (slV 1 v10 none (some x4)) fun v11=>apV 3 1 8 v6 v11 h7 fun v12 h13=>sf_ x0 5 v12 h13 fun h16=>T Pg 166 [x0,v5,x1] h16 fun v17 h18=>K (.tuple #[]) h18) (S142_j2 x0 h K)
def S142(a0 a1:VV)(h:GH)(K:CC):Prop:=
 lf_ a0 5 h fun v3=>bnd (lnV v3) fun v4=>bnd (binV .sub v4 (i64 1)) fun v5=>lf_ a0 13 h fun v8=>bnd (eqK .ptr true v8 nP_) fun b9=>ifV (.bool b9) (bnd (binV .geq v5 (i64 0)) fun v10=>S142_j1 a0 a1 v5 v10 h K) (S142_j1 a0 a1 v5 (.bool false) h K)
theorem S142_T{a0 a1:VV}{h}{K}(g:S142 a0 a1 h K):T Pg 142 [a0,a1] h K:=gwT aN_ Tryz.func142 g
def S143_j1(x0 x8:VV)(h:GH)(K:CC) :Prop:=
 sf_ x0 2 x8 h fun h3=>sf_ x0 0 (i64 1) h3 fun h6=>lf_ x0 3 h6 fun v9=>K (.tuple #[v9,i64 0]) h6
def S143(a0 a1:VV)(h:GH)(K:CC):Prop:=
 lf_ a0 3 h fun v3=>ifV v3 (K (.tuple #[(.bool true),i64 0]) h) (lf_ a0 0 h fun v6=>ei_ v6 (i64 1) (bnd (ncV a0) fun v8=>bnd (faV 1 v8) fun v9=>bnd (ldV 1 false v9 h) fun v10=>bnd (binV .add (i64 30) v10) fun v11=>lf_ a0 2 h fun v14=>bnd (binV .add v14 (i64 1)) fun v15=>T Pg 118 [v15] h fun v16 h17=>ldV 1 false v9 h17=some v10∧T Pg 168 [a1,v11,v16] h17 fun v18 h19=>sf_ a0 0 (i64 2) h19 fun h22=>K (.tuple #[(.bool false),i64 0]) h22) (T Pg 148 [a1,i64 29] h fun v23 h24=>x2_ v23 fun v25 v26=>T Pg 149 [v25] h24 fun v27 h28=>x2_ v27 fun v29 v30=>
 ni_ v30 (sf_ a0 3 (.bool true) h28 fun h34=>K (.tuple #[(.bool true),i64 1100]) h34) (lf_ a0 0 h28 fun v37=>ei_ v37 (i64 2) (lf_ a0 2 h28 fun v41=>bnd (eqI v29 v41) fun b42=>sf_ a0 3 (.bool b42) h28 fun h45=>S143_j1 a0 v29 h45 K) (sf_ a0 3 (.bool false) h28 fun h48=>S143_j1 a0 v29 h48 K))))
def A143:Ann:=⟨fun | 4=> ((.range 13), [0,0,2,6,14,30,0,64,192,448,960,1984,4095]) | _=> ([], []),fun _=> []⟩
theorem S143_T{a0 a1:VV}{h}{K}(g:S143 a0 a1 h K):T Pg 143 [a0,a1] h K:=gwT A143 Tryz.func143 g
def S144_j1(x0 x1:VV)(h:GH)(K:CC) :Prop:=
 Lfp (fun (s1:Nat→Value) h2 again3=>bnd (lnV (s1 0)) fun v4=>bi_ .lss (s1 4) v4 (bnd (isV 2 (s1 0) (s1 4)) fun v6=>lg_ v6 1 h2 fun v8=>bnd (binV .sub (s1 1) v8) fun v9=>bi_ .geq v9 (i64 3) (bnd (isV 2 (s1 0) (s1 4)) fun v11=>lg_ v11 0 h2 fun v13=>bsV 3 1 [i64 0] [(0,1,v13)] h2 fun v14 h15=>apV 3 1 8 (s1 2) v14 h15 fun v16 h17=>bnd (binV .add (s1 4) (i64 1)) fun v18=>again3 (tup [(s1 0),(s1 1),v16,(s1 3),v18]) h17) (bnd (isV 2 (s1 0) (s1 4)) fun v19=>bnd (ldV 2 true v19 h2) fun v20=>bsV 220 1 [i64 0,i64 0] [(0,2,v20)] h2 fun v21 h22=>
 apV 220 2 16 (s1 3) v21 h22 fun v23 h24=>bnd (binV .add (s1 4) (i64 1)) fun v25=>again3 (tup [(s1 0),(s1 1),(s1 2),v23,v25]) h24)) (K (.tuple #[(s1 2),(s1 3),i64 0]) h2)) (tup [x0,x1,nS_,nS_,i64 0]) h
def S144(a0 a1:VV)(h:GH)(K:CC):Prop:=
 T Pg 169 [a0] h fun v1 h2=>ni_ v1 (K (.tuple #[nS_,nS_,i64 1200]) h2) (bi_ .lss a1 (i64 0) (K (.tuple #[nS_,nS_,i64 1200]) h2) (bi_ .gtr a1 (i64 1073741823) (K (.tuple #[nS_,nS_,i64 1200]) h2) (S144_j1 a0 a1 h2 K)))
def A144:Ann:=⟨fun _=> ([], []),fun | 0=> [0,1,7,8,9] | _=> []⟩
theorem S144_T{a0 a1:VV}{h}{K}(g:S144 a0 a1 h K):T Pg 144 [a0,a1] h K:=gwT A144 Tryz.func144 g
def S145(a0 a1:VV)(h:GH)(K:CC):Prop:=
 lf_ a0 3 h fun v3=>ifV v3 (K (.tuple #[(.bool true),i64 0]) h) (lf_ a0 2 h fun v6=>T Pg 125 [v6] h fun v7 h8=>x2_ v7 fun v9 v10=>bnd (exV v7 2) fun v11=>lf_ a0 0 h8 fun v14=>ei_ v14 (i64 0) (T Pg 148 [a1,i64 16] h8 fun v16 h17=>x2_ v16 fun v18 v19=>T Pg 125 [v18] h17 fun v20 h21=>x2_ v20 fun v22 v23=>bnd (exV v20 2) fun v24=>sf_ a0 2 v18 h21 fun h27=>sf_ a0 0 (i64 1) h27 fun h30=>ni_ v24 (sf_ a0 3 (.bool true) h30 fun h34=>K (.tuple #[(.bool true),i64 1000]) h34) (lf_ a0 3 h30 fun v37=>K (.tuple #[v37,i64 0]) h30)) (ei_ v14 (i64 1) (
 bnd (ncV a0) fun v39=>bnd (faV 1 v39) fun v40=>bnd (ldV 1 false v40 h8) fun v41=>bnd (binV .add (i64 17) v41) fun v42=>T Pg 118 [v9] h8 fun v43 h44=>ldV 1 false v40 h44=some v41∧T Pg 168 [a1,v42,v43] h44 fun v45 h46=>sf_ a0 0 (i64 2) h46 fun h49=>lf_ a0 3 h49 fun v52=>K (.tuple #[v52,i64 0]) h49) (bnd (ncV a0) fun v53=>bnd (faV 2 v53) fun v54=>bnd (ldV 1 false v54 h8) fun v55=>lf_ a0 1 h8 fun v58=>bnd (binV .add v58 (i64 1)) fun v59=>bnd (binV .add v10 (i64 1)) fun v60=>T Pg 171 [v59,v60] h8 fun v61 h62=>ldV 1 false v54 h62=some v55∧
 T Pg 170 [a1,i64 16,v55,v61] h62 fun v63 h64=>x2_ v63 fun v65 v66=>sf_ a0 0 (i64 0) h64 fun h69=>lf_ a0 2 h69 fun v72=>bnd (eqI v65 v72) fun b73=>sf_ a0 3 (.bool b73) h69 fun h76=>lf_ a0 3 h76 fun v79=>K (.tuple #[v79,i64 0]) h76)))
def A145:Ann:=⟨fun | 5=> ((.range 19), [0,0,2,6,14,0,32,96,224,480,0,1024,4064,8191,16383,32767,32767,65535,262143]) | 17=> ((.range 9), [0,0,2,6,14,30,0,64,255]) | _=> ([], []),fun _=> []⟩
theorem S145_T{a0 a1:VV}{h}{K}(g:S145 a0 a1 h K):T Pg 145 [a0,a1] h K:=gwT A145 Tryz.func145 g
def S146_j1(x0 x2:VV)(h:GH)(K:CC) :Prop:=
 lf_ x0 13 h fun v3=>lf_ v3 3 h fun v6=>sf_ x0 13 nP_ h fun h9=>bi_ .lss v6 (i64 0) (sf_ x0 18 (i64 1) h9 fun h13=>sf_ x0 8 (i64 6) h13 fun h16=>K (i64 0) h16) (T Pg 166 [x0,v6,x2] h9 fun v17 h18=>K (i64 0) h18)
def S146(a0 a1 a2:VV)(h:GH)(K:CC):Prop:=
 lf_ a0 13 h fun v3=>T Pg 172 [v3,a1] h fun v4 h5=>x2_ v4 fun v6 v7=>ni_ v6 (K v7 h5) (en_ v7 (i64 0) (K v7 h5) (S146_j1 a0 a2 h5 K))
theorem S146_T{a0 a1 a2:VV}{h}{K}(g:S146 a0 a1 a2 h K):T Pg 146 [a0,a1,a2] h K:=gwT aN_ Tryz.func146 g
def S147_j1(x0 x6 x53:VV)(h:GH)(K:CC) :Prop:=
 ifV x53 (lf_ x0 14 h fun v3=>lf_ v3 57 h fun v6=>sf_ x0 19 v6 h fun h9=>sf_ x0 8 (i64 5) h9 fun h12=>K x6 h12) (K x6 h)
def S147(a0 a1:VV)(h:GH)(K:CC):Prop:=
 lf_ a0 14 h fun v3=>bnd (eqK .ptr true v3 nP_) fun b4=>ifV (.bool b4) (K (i64 1800) h) (lf_ a0 14 h fun v7=>T Pg 173 [v7,a1] h fun v8 h9=>x2_ v8 fun v10 v11=>lf_ a0 14 h9 fun v14=>T Pg 174 [v14] h9 fun v15 h16=>x2_ v15 fun v17 v18=>sf_ a0 21 v17 h16 fun h21=>sf_ a0 22 v18 h21 fun h24=>lf_ a0 14 h24 fun v27=>lf_ v27 1 h24 fun v30=>sf_ a0 7 v30 h24 fun h33=>ifV v10 (bnd (eqI v11 (i64 0)) fun b34=>S147_j1 a0 v11 (.bool b34) h33 K) (S147_j1 a0 v11 (.bool false) h33 K))
theorem S147_T{a0 a1:VV}{h}{K}(g:S147 a0 a1 h K):T Pg 147 [a0,a1] h K:=gwT aN_ Tryz.func147 g
def S148_j1(x0 x1:VV)(h:GH)(K:CC) :Prop:=
 bnd (ncV x0) fun v1=>bnd (faV 0 v1) fun v2=>bnd (iaV 634 1 v2 x1) fun v3=>bnd (ldV 1 false v3 h) fun v4=>T Pg 175 [x0,i64 0,x1,v4] h fun v5 h6=>x2_ v5 fun v7 v8=>K (.tuple #[v7,v8]) h6
def S148(a0 a1:VV)(h:GH)(K:CC):Prop:=
 bi_ .lss a1 (i64 0) (K (.tuple #[i64 0,i64 200]) h) (bi_ .geq a1 (i64 634) (K (.tuple #[i64 0,i64 200]) h) (S148_j1 a0 a1 h K))
theorem S148_T{a0 a1:VV}{h}{K}(g:S148 a0 a1 h K):T Pg 148 [a0,a1] h K:=gwT aN_ Tryz.func148 g
def S149(a0:VV)(h:GH)(K:CC):Prop:=
 T Pg 126 [a0] h fun v1 h2=>x2_ v1 fun v3 v4=>ifV v4 (bnd (binV .lss v3 (i64 1073741823)) fun v5=>K (.tuple #[v3,v5]) h2) (K (.tuple #[v3,(.bool false)]) h2)
theorem S149_T{a0:VV}{h}{K}(g:S149 a0 h K):T Pg 149 [a0] h K:=gwT aN_ Tryz.func149 g
def S150(a0:VV)(h:GH)(K:CC):Prop:=
 bi_ .lss a0 (i64 1) (K (.tuple #[nP_,i64 1100]) h) (bi_ .gtr a0 (i64 4) (K (.tuple #[nP_,i64 1100]) h) (bnd (fillV [i64 0,i64 0,i64 0,(.bool false),(.bool false)] [(1,1,a0)]) fun c3=>newV 262 ((.agg c3.toArray):VV).cells.toList h fun v4 h5=>K (.tuple #[v4,i64 0]) h5))
theorem S150_T{a0:VV}{h}{K}(g:S150 a0 h K):T Pg 150 [a0] h K:=gwT aN_ Tryz.func150 g
def S151(a0 a1:VV)(h:GH)(K:CC):Prop:=
 T Pg 164 [a1] h fun v1 h2=>ni_ v1 (K (i64 1100) h2) (bnd (binV .add (i64 30) a1) fun v4=>T Pg 118 [i64 0] h2 fun v5 h6=>T Pg 168 [a0,v4,v5] h6 fun v7 h8=>K (i64 0) h8)
theorem S151_T{a0 a1:VV}{h}{K}(g:S151 a0 a1 h K):T Pg 151 [a0,a1] h K:=gwT aN_ Tryz.func151 g
def S152_j1(x0:VV)(h:GH)(K:CC) :Prop:=
 lf_ x0 0 h fun v3=>bnd (binV .add v3 (i64 1)) fun v4=>sf_ x0 0 v4 h fun h7=>lf_ x0 4 h7 fun v10=>K (.tuple #[v10,i64 0]) h7
def S152(a0 a1:VV)(h:GH)(K:CC):Prop:=
 lf_ a0 4 h fun v3=>ifV v3 (K (.tuple #[(.bool true),i64 0]) h) (lf_ a0 0 h fun v6=>ei_ v6 (i64 0) (T Pg 148 [a1,i64 29] h fun v8 h9=>x2_ v8 fun v10 v11=>T Pg 149 [v10] h9 fun v12 h13=>x2_ v12 fun v14 v15=>sf_ a0 2 v14 h13 fun h18=>ni_ v15 (sf_ a0 4 (.bool true) h18 fun h22=>K (.tuple #[(.bool true),i64 1100]) h22) (S152_j1 a0 h18 K)) (lf_ a0 0 h fun v25=>lf_ a0 1 h fun v28=>bi_ .leq v25 v28 (lf_ a0 0 h fun v32=>bnd (binV .add (i64 30) v32) fun v33=>bnd (binV .sub v33 (i64 1)) fun v34=>T Pg 148 [a1,v34] h fun v35 h36=>x2_ v35 fun v37 v38=>
 T Pg 126 [v37] h36 fun v39 h40=>x2_ v39 fun v41 v42=>ni_ v42 (sf_ a0 4 (.bool true) h40 fun h46=>K (.tuple #[(.bool true),i64 1100]) h46) (en_ v41 (i64 0) (lf_ a0 2 h40 fun v50=>bnd (binV .add v50 (i64 1)) fun v51=>bnd (eqI v41 v51) fun b52=>sf_ a0 4 (.bool (!b52)) h40 fun h55=>S152_j1 a0 h55 K) (sf_ a0 4 (.bool false) h40 fun h58=>S152_j1 a0 h58 K))) (lf_ a0 2 h fun v61=>T Pg 118 [v61] h fun v62 h63=>lf_ a0 2 h63 fun v66=>bnd (binV .add v66 (i64 1)) fun v67=>T Pg 118 [v67] h63 fun v68 h69=>T Pg 170 [a1,i64 29,v62,v68] h69 fun v70 h71=>x2_ v70 fun v72 v73=>
 bnd (eqI v72 v62) fun b74=>sf_ a0 3 (.bool b74) h71 fun h77=>sf_ a0 4 (.bool true) h77 fun h80=>S152_j1 a0 h80 K)))
def A152:Ann:=⟨fun | 14=> ((.range 10), [0,1,3,7,0,16,48,112,255,511]) | _=> ([], []),fun _=> []⟩
theorem S152_T{a0 a1:VV}{h}{K}(g:S152 a0 a1 h K):T Pg 152 [a0,a1] h K:=gwT A152 Tryz.func152 g
def S153_j1(x0 x1 x4 x5:VV)(h:GH)(K:CC) :Prop:=
 sg_ x5 4 x1 h fun h2=>lf_ x0 20 h2 fun v5=>bnd (ldV 8 true x5 h2) fun v6=>bnd (isV 8 v5 x4) fun v7=>bnd (stV 8 v7 v6 h2) fun h8=>sf_ x0 16 (i64 0) h8 fun h11=>K (.tuple #[]) h11
def S153(a0 a1:VV)(h:GH)(K:CC):Prop:=
 sf_ a0 8 (i64 0) h fun h3=>lf_ a0 16 h3 fun v6=>bnd (binV .add v6 (i64 1)) fun v7=>sf_ a0 16 v7 h3 fun h10=>lf_ a0 20 h10 fun v13=>bnd (lnV v13) fun v14=>bnd (binV .sub v14 (i64 1)) fun v15=>lf_ a0 20 h10 fun v18=>bnd (isV 8 v18 v15) fun v19=>bnd (ldV 8 true v19 h10) fun v20=>newV 56 [i64 0,i64 0,i64 0,i64 0,i64 0,i64 0,i64 0,nS_] h10 fun v21 h22=>bnd (stV 8 v21 v20 h22) fun h23=>lf_ a0 16 h23 fun v26=>sg_ v21 6 v26 h23 fun h28=>lf_ a0 19 h28 fun v31=>ifV v31 (sg_ v21 5 (i64 0) h28 fun h33=>
 bsV 122 0 [] [] h33 fun v34 h35=>lf_ a0 14 h35 fun v38=>lf_ v38 56 h35 fun v41=>apV 122 2 16 v34 v41 h35 fun v42 h43=>sg_ v21 7 v42 h43 fun h45=>S153_j1 a0 a1 v15 v21 h45 K) (lf_ a0 18 h28 fun v48=>ei_ v48 (i64 1) (sg_ v21 5 (i64 1) h28 fun h51=>S153_j1 a0 a1 v15 v21 h51 K) (lf_ a0 16 h28 fun v54=>lf_ a0 2 h28 fun v57=>bi_ .geq v54 v57 (sg_ v21 5 (i64 2) h28 fun h60=>S153_j1 a0 a1 v15 v21 h60 K) (lf_ a0 3 h28 fun v63=>lf_ a0 16 h28 fun v66=>T Pg 176 [v63,v66] h28 fun v67 h68=>x2_ v67 fun v69 v70=>sf_ a0 17 v69 h68 fun h73=>lf_ a0 20 h73 fun v76=>
 bnd (ldV 8 true v21 h73) fun v77=>bnd (isV 8 v76 v15) fun v78=>bnd (stV 8 v78 v77 h73) fun h79=>K (.tuple #[]) h79)))
def A153:Ann:=⟨fun | 5=> ((.range 14), [0,1,3,7,0,16,48,112,255,511,1023,1023,2047,8191]) | 7=> ((.range 8), [0,1,3,7,0,0,63,127]) | 13=> ((.range 10), [0,1,3,7,0,16,48,112,255,511]) | 16=> ((.range 8), [0,1,3,7,0,0,63,127]) | _=> ([], []),fun _=> []⟩
theorem S153_T{a0 a1:VV}{h}{K}(g:S153 a0 a1 h K):T Pg 153 [a0,a1] h K:=gwT A153 Tryz.func153 g
def S154_j1(x0 x2 x4:VV)(h:GH)(K:CC) :Prop:=
 bi_ .lss x0 (i64 0) (bnd (fillV [i64 0,i64 0,i64 0,i64 0,i64 0,i64 0,i64 0] []) fun c2=>bnd (stV 7 x2 (.agg c2.toArray) h) fun h3=>bnd (ldV 7 true x2 h3) fun v4=>K (.tuple #[v4,i64 100]) h3) (bnd (ldV 7 true x4 h) fun v5=>T Pg 177 [v5] h fun v6 h7=>ni_ v6 (bnd (fillV [i64 0,i64 0,i64 0,i64 0,i64 0,i64 0,i64 0] []) fun c9=>bnd (stV 7 x2 (.agg c9.toArray) h7) fun h10=>bnd (ldV 7 true x2 h10) fun v11=>K (.tuple #[v11,i64 100]) h10) (bnd (ldV 7 true x4 h7) fun v12=>
 bnd (stV 7 x2 v12 h7) fun h13=>bnd (ldV 7 true x2 h13) fun v14=>K (.tuple #[v14,i64 0]) h13))
def S154(a0:VV)(h:GH)(K:CC):Prop:=
 newV 225 [i64 0,i64 0,i64 0,i64 0,i64 0,i64 0,i64 0] h fun v1 h2=>bnd (binV .and a0 (i64 3)) fun v3=>bnd (fillV [i64 0,i64 0,i64 0,i64 0,i64 0,i64 0,i64 0] [(0,1,v3)]) fun c4=>newV 225 [i64 0,i64 0,i64 0,i64 0,i64 0,i64 0,i64 0] h2 fun v5 h6=>bnd (stV 7 v5 (.agg c4.toArray) h6) fun h7=>bnd (binV .shr a0 (.int .u64 2)) fun v8=>lg_ v5 0 h7 fun v10=>ei_ v10 (i64 0) (sg_ v5 1 v8 h7 fun h13=>S154_j1 a0 v1 v5 h13 K) (
 ei_ v10 (i64 1) (bnd (binV .and v8 (i64 1048575)) fun v15=>sg_ v5 6 v15 h7 fun h17=>bnd (binV .quo v8 (i64 1048576)) fun v18=>bnd (binV .rem v18 (i64 4)) fun v19=>sg_ v5 5 v19 h17 fun h21=>bnd (binV .quo v18 (i64 4)) fun v22=>bnd (binV .rem v22 (i64 16)) fun v23=>sg_ v5 4 v23 h21 fun h25=>bnd (binV .quo v22 (i64 16)) fun v26=>bnd (binV .rem v26 (i64 16)) fun v27=>sg_ v5 2 v27 h25 fun h29=>bnd (binV .quo v26 (i64 16)) fun v30=>sg_ v5 3 v30 h29 fun h32=>S154_j1 a0 v1 v5 h32 K) (ei_ v10 (i64 2) (
 bnd (binV .rem v8 (i64 16)) fun v34=>sg_ v5 2 v34 h7 fun h36=>bnd (binV .quo v8 (i64 16)) fun v37=>sg_ v5 3 v37 h36 fun h39=>S154_j1 a0 v1 v5 h39 K) (S154_j1 a0 v1 v5 h7 K)))
theorem S154_T{a0:VV}{h}{K}(g:S154 a0 h K):T Pg 154 [a0] h K:=gwT aN_ Tryz.func154 g
def S155(a0 a1 a2:VV)(h:GH)(K:CC):Prop:=
 bnd (binV .add (i64 30) a1) fun v1=>T Pg 78 [a2] h fun v2 h3=>T Pg 35 [a0,v1,v2] h3 fun v4 h5=>K (.tuple #[]) h5
theorem S155_T{a0 a1 a2:VV}{h}{K}(g:S155 a0 a1 a2 h K):T Pg 155 [a0,a1,a2] h K:=gwT aN_ Tryz.func155 g
def S156(a0:VV)(h:GH)(K:CC):Prop:=
 T Pg 39 [a0,i64 29] h fun v1 h2=>x2_ v1 fun v3 v4=>T Pg 178 [v3] h2 fun v5 h6=>x2_ v5 fun v7 v8=>K (.tuple #[v7,v8]) h6
theorem S156_T{a0:VV}{h}{K}(g:S156 a0 h K):T Pg 156 [a0] h K:=gwT aN_ Tryz.func156 g
def S157(a0 a1:VV)(h:GH)(K:CC):Prop:=
 T Pg 179 [a0,a1] h fun v1 h2=>bnd (binV .geq v1 (i64 0)) fun v3=>K v3 h2
theorem S157_T{a0 a1:VV}{h}{K}(g:S157 a0 a1 h K):T Pg 157 [a0,a1] h K:=gwT aN_ Tryz.func157 g
def S158(a0:VV)(h:GH)(K:CC):Prop:=
 newV 220 (a0:VV).cells.toList h fun v1 h2=>lg_ v1 0 h2 fun v4=>T Pg 75 [v4,i64 12] h2 fun v5 h6=>ni_ v5 (K (.bool true) h6) (lg_ v1 1 h6 fun v9=>T Pg 159 [v9] h6 fun v10 h11=>bnd (unV .not v10) fun v12=>K v12 h11)
theorem S158_T{a0:VV}{h}{K}(g:S158 a0 h K):T Pg 158 [a0] h K:=gwT aN_ Tryz.func158 g
def S159(a0:VV)(h:GH)(K:CC):Prop:=
 T Pg 75 [a0,i64 1073741824] h fun v1 h2=>K v1 h2
theorem S159_T{a0:VV}{h}{K}(g:S159 a0 h K):T Pg 159 [a0] h K:=gwT aN_ Tryz.func159 g
def S160_j4(x0 x3:VV)(h:GH)(K:CC) :Prop:=
 lf_ x3 17 h fun v3=>T Pg 184 [v3] h fun v4 h5=>sf_ x3 17 nP_ h5 fun h8=>ei_ v4 (.int .i64 (-1)) (sf_ x3 20 (i64 1) h8 fun h12=>sf_ x3 6 (.func (.func 185) #[] #[]) h12 fun h15=>K (i64 0) h15) (T Pg 180 [x0,v4] h8 fun v16 h17=>K (i64 0) h17)
def S160_j3(x0 x3:VV)(h:GH)(K:CC) :Prop:=
 sf_ x3 6 (.func (.func 160) #[] #[]) h fun h3=>lf_ x3 17 h3 fun v6=>lf_ x0 1 h3 fun v9=>T Pg 183 [v6,v9] h3 fun v10 h11=>x2_ v10 fun v12 v13=>ni_ v12 (K v13 h11) (en_ v13 (i64 0) (K v13 h11) (S160_j4 x0 x3 h11 K))
def S160_j2(x0 x3:VV)(h:GH)(K:CC) :Prop:=
 lf_ x3 17 h fun v3=>bnd (eqK .ptr true v3 nP_) fun b4=>ifV (.bool b4) (T Pg 182 [] h fun v5 h6=>sf_ x3 17 v5 h6 fun h9=>S160_j3 x0 x3 h9 K) (S160_j3 x0 x3 h K)
def S160_j1(x0 x3 x4 x27:VV)(h:GH)(K:CC) :Prop:=
 ifV x27 (lf_ x3 11 h fun v3=>li_ v3 x4 h fun v5=>lf_ x3 11 h fun v8=>bnd (slV 1 v8 none (some x4)) fun v9=>sf_ x3 11 v9 h fun h12=>T Pg 180 [x0,v5] h12 fun v13 h14=>T Pg 181 [x0] h14 fun v15 h16=>K v15 h16) (S160_j2 x0 x3 h K)
def S160(a0:VV)(h:GH)(K:CC):Prop:=
 lf_ a0 0 h fun v3=>lf_ v3 11 h fun v6=>bnd (lnV v6) fun v7=>bnd (binV .sub v7 (i64 1)) fun v8=>lf_ v3 17 h fun v11=>bnd (eqK .ptr true v11 nP_) fun b12=>ifV (.bool b12) (bnd (binV .geq v8 (i64 0)) fun v13=>S160_j1 a0 v3 v8 v13 h K) (S160_j1 a0 v3 v8 (.bool false) h K)
def A160:Ann:=⟨fun | 11=> ((.range 14), [0,1,3,7,0,16,48,112,255,511,1023,1023,2047,8191]) | _=> ([], []),fun _=> []⟩
theorem S160_T{a0:VV}{h}{K}(g:S160 a0 h K):T Pg 160 [a0] h K:=gwT A160 Tryz.func160 g
def S161(a0:VV)(h:GH)(K:CC):Prop:=
 T Pg 75 [a0,i64 12] h fun v1 h2=>ni_ v1 (K (.tuple #[nP_,i64 1000]) h2) (bnd (fillV [i64 0,i64 0,i64 0,i64 0,(.bool false),i64 0] [(5,1,a0)]) fun c4=>newV 270 ((.agg c4.toArray):VV).cells.toList h2 fun v5 h6=>K (.tuple #[v5,i64 0]) h6)
theorem S161_T{a0:VV}{h}{K}(g:S161 a0 h K):T Pg 161 [a0] h K:=gwT aN_ Tryz.func161 g
def S162(a0 a1:VV)(h:GH)(K:CC):Prop:=
 newV 128 (a0:VV).cells.toList h fun v1 h2=>newV 34 (a1:VV).cells.toList h2 fun v3 h4=>bnd (ldV 1 false v1 h4) fun v5=>bnd (eqK .ptr true v5 nP_) fun b6=>ifV (.bool b6) (K (.tuple #[(.bool false),i64 1]) h4) (bnd (ldV 1 false v1 h4) fun v7=>bnd (ncV v7) fun v8=>bnd (faV 0 v8) fun v9=>bnd (ldV 1 false v3 h4) fun v10=>T Pg 186 [v9,v10,(.func (.func 187) #[] #[v1,v3])] h4 fun v11 h12=>x2_ v11 fun v13 v14=>K (.tuple #[v13,v14]) h12)
def A162:Ann:=⟨fun | 3=> ((.range 10), [0,1,3,0,0,31,63,63,255,511]) | _=> ([], []),fun _=> []⟩
theorem S162_T{a0 a1:VV}{h}{K}(g:S162 a0 a1 h K):T Pg 162 [a0,a1] h K:=gwT A162 Tryz.func162 g
def S163_j1(x5:VV)(h:GH)(K:CC) :Prop:=
 bnd (eqK .iface true x5 .nilIface) fun b1=>ifV (.bool b1) (K .nilIface h) (T Pg 191 [x5] h fun v2 h3=>ni_ v2 (K .nilIface h3) (K x5 h3))
def S163(a0:VV)(h:GH)(K:CC):Prop:=
 bi_ .lss a0 (i64 0) (K .nilIface h) (bnd (binV .quo a0 (i64 4)) fun v2=>bnd (binV .rem a0 (i64 4)) fun v3=>ei_ v3 (i64 0) (S163_j1 (.iface 178 v2) h K) (ei_ v3 (i64 2) (callV Pg (.func (.func 190) #[] #[]) [v2] h fun v6 h7=>S163_j1 (.iface 133 v6) h7 K) (ei_ v3 (i64 1) (bnd (binV .rem v2 (i64 1048576)) fun v9=>bnd (fillV [i64 0,i64 0,i64 0,i64 0,i64 0] [(4,1,v9)]) fun c10=>newV 277 [i64 0,i64 0,i64 0,i64 0,i64 0] h fun v11 h12=>
 bnd (stV 5 v11 (.agg c10.toArray) h12) fun h13=>bnd (binV .quo v2 (i64 1048576)) fun v14=>bnd (binV .rem v14 (i64 4)) fun v15=>bnd (binV .quo v14 (i64 4)) fun v16=>sg_ v11 3 v15 h13 fun h18=>bnd (binV .rem v16 (i64 16)) fun v19=>bnd (binV .quo v16 (i64 16)) fun v20=>sg_ v11 2 v19 h18 fun h22=>callV Pg (.func (.func 190) #[] #[]) [v20] h22 fun v23 h24=>bnd (faV 0 v11) fun v25=>bnd (stV 2 v25 v23 h24) fun h26=>bnd (ldV 5 true v11 h26) fun v27=>S163_j1 (.iface 277 v27) h26 K) (S163_j1 .nilIface h K))))
theorem S163_T{a0:VV}{h}{K}(g:S163 a0 h K):T Pg 163 [a0] h K:=gwT aN_ Tryz.func163 g
def S164(a0:VV)(h:GH)(K:CC):Prop:=
 bi_ .geq a0 (i64 0) (bnd (binV .lss a0 (i64 4)) fun v2=>K v2 h) (K (.bool false) h)
theorem S164_T{a0:VV}{h}{K}(g:S164 a0 h K):T Pg 164 [a0] h K:=gwT aN_ Tryz.func164 g
end Go.Proofs.YtfphpafkhljncaaGreat
