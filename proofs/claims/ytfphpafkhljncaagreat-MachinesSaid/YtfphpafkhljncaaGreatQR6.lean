/- Several texts in one; nothing here is a statement on the program. -/
import Derived.Test.YtfphpafkhljncaaGreatQR2
import Derived.Test.YtfphpafkhljncaaGreatProg
import Derived.KernelRfl
set_option linter.unusedVariables false
set_option linter.unusedSimpArgs false
namespace Go.Proofs.YtfphpafkhljncaaGreat
open Go GW Go.Proofs
set_option maxRecDepth 100000
def S213(a0 a1 a2:VV)(h:GH)(K:CC):Prop:=
 T Pg 164 [a0] h fun v1 h2=>ni_ v1 (K (.tuple #[nP_,i64 1500]) h2) (bi_ .lss a1 (i64 0) (K (.tuple #[nP_,i64 1500]) h2) (bi_ .gtr a1 (i64 1048575) (K (.tuple #[nP_,i64 1500]) h2) (bi_ .lss a2 (i64 0) (K (.tuple #[nP_,i64 1500]) h2) (bi_ .geq a2 (i64 16) (K (.tuple #[nP_,i64 1500]) h2) (bnd (fillV [i64 0,i64 0,i64 0,nP_,i64 0,(.bool false),i64 0,i64 0] [(0,1,a0),(1,1,a1),(2,1,a2),(6,1,(.int .i64 (-1)))]) fun c8=>newV 304 ((.agg c8.toArray):VV).cells.toList h2 fun v9 h10=>
 K (.tuple #[v9,i64 0]) h10)))))
theorem S213_T{a0 a1 a2:VV}{h}{K}(g:S213 a0 a1 a2 h K):T Pg 213 [a0,a1,a2] h K:=gwT aN_ Tryz.func213 g
def S214_j1(x0 x7:VV)(h:GH)(K:CC) :Prop:=
 en_ x7 (i64 0) (sf_ x0 5 (.bool true) h fun h4=>K (.tuple #[(.bool true),i64 1500]) h4) (K (.tuple #[(.bool false),i64 0]) h)
def S214(a0 a1:VV)(h:GH)(K:CC):Prop:=
 lf_ a0 5 h fun v3=>ifV v3 (K (.tuple #[(.bool true),i64 0]) h) (lf_ a0 3 h fun v6=>bnd (eqK .ptr true v6 nP_) fun b7=>ifV (.bool (!b7)) (lf_ a0 3 h fun v10=>T Pg 197 [v10,a1] h fun v11 h12=>x2_ v11 fun v13 v14=>lf_ a0 3 h12 fun v17=>T Pg 198 [v17] h12 fun v18 h19=>x2_ v18 fun v20 v21=>sf_ a0 6 v20 h19 fun h24=>sf_ a0 7 v21 h24 fun h27=>lf_ a0 3 h27 fun v30=>lf_ v30 1 h27 fun v33=>sf_ a0 1 v33 h27 fun h36=>ifV v13 (sf_ a0 3 nP_ h36 fun h39=>S214_j1 a0 v14 h39 K) (S214_j1 a0 v14 h36 K)) (sf_ a0 6 (.int .i64 (-1)) h fun h42=>sf_ a0 7 (i64 0) h42 fun h45=>lf_ a0 2 h45 fun v48=>
 T Pg 148 [a1,v48] h45 fun v49 h50=>x2_ v49 fun v51 v52=>T Pg 154 [v51] h50 fun v53 h54=>x2_ v53 fun v55 v56=>newV 225 [i64 0,i64 0,i64 0,i64 0,i64 0,i64 0,i64 0] h54 fun v57 h58=>bnd (stV 7 v57 v55 h58) fun h59=>en_ v56 (i64 0) (sf_ a0 5 (.bool true) h59 fun h63=>K (.tuple #[(.bool true),i64 1500]) h63) (lg_ v57 0 h59 fun v65=>ei_ v65 (i64 0) (lg_ v57 1 h59 fun v68=>sf_ a0 4 v68 h59 fun h71=>sf_ a0 5 (.bool true) h71 fun h74=>K (.tuple #[(.bool true),i64 0]) h74) (lf_ a0 0 h59 fun v77=>lf_ a0 1 h59 fun v80=>
 T Pg 196 [v77,v80,v51] h59 fun v81 h82=>x2_ v81 fun v83 v84=>sf_ a0 3 v83 h82 fun h87=>K (.tuple #[(.bool false),i64 0]) h87))))
def A214:Ann:=⟨fun | 26=> ((.range 15), [0,1,3,7,0,16,48,112,0,511,1023,2047,2047,4095,16383]) | _=> ([], []),fun _=> []⟩
theorem S214_T{a0 a1:VV}{h}{K}(g:S214 a0 a1 h K):T Pg 214 [a0,a1] h K:=gwT A214 Tryz.func214 g
def S215(a0:VV)(h:GH)(K:CC):Prop:=
 lf_ a0 6 h fun v3=>lf_ a0 7 h fun v6=>K (.tuple #[v3,v6]) h
def A215:Ann:=⟨fun | 1=> ((.range 10), [0,1,3,7,0,16,48,112,15,511]) | _=> ([], []),fun _=> []⟩
theorem S215_T{a0:VV}{h}{K}(g:S215 a0 h K):T Pg 215 [a0] h K:=gwT A215 Tryz.func215 g
def S216_j1(x0 x1 x2:VV)(h:GH)(K:CC) :Prop:=
 T Pg 234 [x1,i64 0] h fun v1 h2=>bnd (lnV x2) fun v3=>T Pg 118 [v3] h2 fun v4 h5=>bsV 3 2 [i64 0,i64 0] [(0,1,v1),(1,1,v4)] h5 fun v6 h7=>bnd (fillV [i64 0,i64 0,nS_] [(1,1,x0),(2,1,v6)]) fun c8=>newV 310 ((.agg c8.toArray):VV).cells.toList h7 fun v9 h10=>Lfp (fun (s11:Nat→Value) h12 again13=>bnd (lnV (s11 0)) fun v14=>bi_ .lss (s11 2) v14 (bnd (ncV (s11 1)) fun v16=>bnd (faV 2 v16) fun v17=>bnd (ldV 1 false v17 h12) fun v18=>bnd (isV 3 (s11 0) (s11 2)) fun v19=>lg_ v19 0 h12 fun v21=>bnd (isV 3 (s11 0) (s11 2)) fun v22=>bnd (faV 1 v22) fun v23=>
 bnd (ldV 1 false v23 h12) fun v24=>bnd (isV 3 (s11 0) (s11 2)) fun v25=>bnd (faV 2 v25) fun v26=>bnd (ldV 1 false v26 h12) fun v27=>T Pg 118 [v21] h12 fun v28 h29=>ldV 1 false v26 h29=some v27∧ldV 1 false v23 h29=some v24∧ldV 1 false v17 h29=some v18∧T Pg 118 [v24] h29 fun v30 h31=>ldV 1 false v26 h31=some v27∧ldV 1 false v17 h31=some v18∧T Pg 118 [v27] h31 fun v32 h33=>ldV 1 false v17 h33=some v18∧bsV 3 3 [i64 0,i64 0,i64 0] [(0,1,v28),(1,1,v30),(2,1,v32)] h33 fun v34 h35=>apV 3 1 8 v18 v34 h35 fun v36 h37=>sf_ (s11 1) 2 v36 h37 fun h40=>
 bnd (binV .add (s11 2) (i64 1)) fun v41=>again13 (tup [(s11 0),(s11 1),v41]) h40) (K (.tuple #[(s11 1),i64 0]) h12)) (tup [x2,v9,i64 0]) h10
def S216(a0 a1 a2:VV)(h:GH)(K:CC):Prop:=
 T Pg 212 [a0,a1] h fun v1 h2=>ni_ v1 (K (.tuple #[nP_,i64 1300]) h2) (T Pg 233 [a2] h2 fun v4 h5=>ni_ v4 (K (.tuple #[nP_,i64 1300]) h5) (S216_j1 a0 a1 a2 h5 K))
def A216:Ann:=⟨fun | 7=> ([0,1,2,3,4,5,6,7,8,9,11,12,13,14,15,17,18,19,20,21,10,16,22,23,24,25,26,27], [0,0,2,6,14,0,0,96,224,480,992,0,0,6144,14336,30720,65504,0,0,393216,917504,1966080,4194272,8388576,16777214,33554431,67108863,134217727]) | _=> ([], []),fun | 0=> [2,8,9] | _=> []⟩
theorem S216_T{a0 a1 a2:VV}{h}{K}(g:S216 a0 a1 a2 h K):T Pg 216 [a0,a1,a2] h K:=gwT A216 Tryz.func216 g
def S217(a0:VV)(h:GH)(K:CC):Prop:=
 newV 255 (a0:VV).cells.toList h fun v1 h2=>Lfp (fun (s3:Nat→Value) h4 again5=>bi_ .lss (s3 2) (i64 16) (bnd (faV 0 (s3 0)) fun v7=>bnd (iaV 16 1 v7 (s3 2)) fun v8=>bnd (ldV 1 false v8 h4) fun v9=>ifV v9 (bnd (faV 16 (s3 0)) fun v10=>bnd (iaV 16 1 v10 (s3 2)) fun v11=>bnd (ldV 1 false v11 h4) fun v12=>bnd (faV 32 (s3 0)) fun v13=>bnd (iaV 16 1 v13 (s3 2)) fun v14=>bnd (ldV 1 false v14 h4) fun v15=>bnd (fillV [i64 0,i64 0,i64 0] [(0,1,(s3 2)),(1,1,v12),(2,1,v15)]) fun c16=>
 bsV 340 1 [i64 0,i64 0,i64 0] [(0,3,(.agg c16.toArray))] h4 fun v17 h18=>apV 340 3 24 (s3 1) v17 h18 fun v19 h20=>bnd (binV .add (s3 2) (i64 1)) fun v21=>again5 (tup [(s3 0),v19,v21]) h20) (bnd (binV .add (s3 2) (i64 1)) fun v22=>again5 (tup [(s3 0),(s3 1),v22]) h4)) (K (s3 1) h4)) (tup [v1,nS_,i64 0]) h2
def A217:Ann:=⟨fun | 6=> ((.range 14), [0,0,0,0,12,28,0,0,192,448,1022,2046,4095,8191]) | _=> ([], []),fun | 0=> [1,3,4] | _=> []⟩
theorem S217_T{a0:VV}{h}{K}(g:S217 a0 h K):T Pg 217 [a0] h K:=gwT A217 Tryz.func217 g
def S218_j1(x0 x7:VV)(h:GH)(K:CC) :Prop:=
 lf_ x0 8 h fun v3=>bnd (binV .add v3 (i64 1)) fun v4=>sf_ x0 8 v4 h fun h7=>K (.tuple #[x7,(.bool false)]) h7
def S218(a0 a1:VV)(h:GH)(K:CC):Prop:=
 bnd (ncV a0) fun v1=>bnd (faV 0 v1) fun v2=>lg_ v2 2 h fun v4=>T Pg 121 [v4] h fun v5 h6=>lf_ a0 8 h6 fun v9=>ei_ v9 (i64 0) (bnd (binV .add v5 (i64 2)) fun v11=>bnd (ncV a0) fun v12=>bnd (faV 0 v12) fun v13=>lg_ v13 4 h6 fun v15=>bnd (binV .mul (i64 3) v15) fun v16=>bnd (binV .add v11 v16) fun v17=>T Pg 148 [a1,v17] h6 fun v18 h19=>x2_ v18 fun v20 v21=>T Pg 235 [v20,i64 15] h19 fun v22 h23=>x2_ v22 fun v24 v25=>sf_ a0 11 v24 h23 fun h28=>S218_j1 a0 v25 h28 K) (ei_ v9 (i64 1) (bnd (binV .add v5 (i64 3)) fun v30=>bnd (ncV a0) fun v31=>
 bnd (faV 0 v31) fun v32=>lg_ v32 4 h6 fun v34=>bnd (binV .mul (i64 3) v34) fun v35=>bnd (binV .add v30 v35) fun v36=>T Pg 148 [a1,v36] h6 fun v37 h38=>x2_ v37 fun v39 v40=>T Pg 235 [v39,i64 1099511627775] h38 fun v41 h42=>x2_ v41 fun v43 v44=>sf_ a0 12 v39 h42 fun h47=>S218_j1 a0 v44 h47 K) (ei_ v9 (i64 2) (T Pg 148 [a1,v5] h6 fun v49 h50=>x2_ v49 fun v51 v52=>T Pg 236 [a0,v51] h50 fun v53 h54=>x2_ v53 fun v55 v56=>bnd (exV v53 2) fun v57=>sf_ a0 14 v55 h54 fun h60=>S218_j1 a0 v57 h60 K) (lf_ a0 7 h6 fun v63=>T Pg 237 [a0,a1,v63] h6 fun v64 h65=>
 K (.tuple #[(.bool true),(.bool true)]) h65)))
theorem S218_T{a0 a1:VV}{h}{K}(g:S218 a0 a1 h K):T Pg 218 [a0,a1] h K:=gwT aN_ Tryz.func218 g
def S219_j3(x0 x1 x7 x18:VV)(h:GH)(K:CC) :Prop:=
 bnd (ncV x0) fun v1=>bnd (faV 0 v1) fun v2=>lg_ v2 3 h fun v4=>bnd (ncV x0) fun v5=>bnd (faV 0 v5) fun v6=>bnd (faV 3 v6) fun v7=>bnd (ldV 1 false v7 h) fun v8=>T Pg 234 [v4,i64 0] h fun v9 h10=>ldV 1 false v7 h10=some v8∧T Pg 234 [v8,x18] h10 fun v11 h12=>T Pg 170 [x1,x7,v9,v11] h12 fun v13 h14=>sf_ x0 8 (i64 1) h14 fun h17=>K (.tuple #[i64 0,(.bool true),(.bool false)]) h17
def S219_j4(x0 x1 x7:VV)(h:GH)(K:CC) :Prop:=
 T Pg 241 [x0,x1,x7] h fun v1 h2=>x2_ v1 fun v3 v4=>K (.tuple #[i64 0,v3,v4]) h2
def S219_j2(x0 x1 x7 x35 x106:VV)(h:GH)(K:CC) :Prop:=
 ifV x106 (lf_ x0 8 h fun v3=>ei_ v3 (i64 9) (S219_j3 x0 x1 x7 (i64 2) h K) (S219_j3 x0 x1 x7 (i64 1) h K)) (ei_ x35 (i64 13) (bnd (ncV x0) fun v6=>bnd (faV 11 v6) fun v7=>bnd (ldV 1 false v7 h) fun v8=>bnd (ncV x0) fun v9=>bnd (faV 16 v9) fun v10=>bnd (ldV 1 false v10 h) fun v11=>T Pg 240 [x0] h fun v12 h13=>ldV 1 false v10 h13=some v11∧ldV 1 false v7 h13=some v8∧T Pg 170 [x1,v8,v12,v11] h13 fun v14 h15=>T Pg 239 [x0,i64 11,i64 0] h15 fun v16 h17=>lf_ x0 8 h17 fun v20=>bnd (eqI v20 (i64 0)) fun b21=>
 K (.tuple #[i64 0,(.bool true),(.bool b21)]) h17) (ei_ x35 (i64 14) (T Pg 148 [x1,x7] h fun v23 h24=>x2_ v23 fun v25 v26=>T Pg 236 [x0,v25] h24 fun v27 h28=>x2_ v27 fun v29 v30=>bnd (exV v27 2) fun v31=>ifV v29 (sf_ x0 8 (i64 5) h28 fun h34=>lf_ x0 16 h34 fun v37=>K (.tuple #[v37,v31,(.bool false)]) h34) (sf_ x0 15 v30 h28 fun h40=>sf_ x0 8 (i64 10) h40 fun h43=>K (.tuple #[i64 0,v31,(.bool false)]) h43)) (S219_j4 x0 x1 x7 h K)))
def S219_j1(x0 x1 x7 x35 x36:VV)(h:GH)(K:CC) :Prop:=
 ifV x36 (T Pg 148 [x1,x7] h fun v1 h2=>x2_ v1 fun v3 v4=>T Pg 236 [x0,v3] h2 fun v5 h6=>x2_ v5 fun v7 v8=>bnd (exV v5 2) fun v9=>sf_ x0 15 v8 h6 fun h12=>sf_ x0 8 (i64 10) h12 fun h15=>ifV v7 (sf_ x0 8 (i64 2) h15 fun h18=>K (.tuple #[i64 0,v9,(.bool false)]) h18) (K (.tuple #[i64 0,v9,(.bool false)]) h15)) (ei_ x35 (i64 5) (T Pg 238 [x0,x1] h fun v20 h21=>x2_ v20 fun v22 v23=>bnd (exV v20 2) fun v24=>K (.tuple #[v22,v23,v24]) h21) (ei_ x35 (i64 6) (T Pg 148 [x1,x7] h fun v26 h27=>x2_ v26 fun v28 v29=>T Pg 236 [x0,v28] h27 fun v30 h31=>
 x2_ v30 fun v32 v33=>bnd (exV v30 2) fun v34=>sf_ x0 14 v32 h31 fun h37=>sf_ x0 8 (i64 7) h37 fun h40=>K (.tuple #[i64 0,v34,(.bool false)]) h40) (ei_ x35 (i64 7) (lf_ x0 13 h fun v44=>T Pg 237 [x0,x1,v44] h fun v45 h46=>T Pg 239 [x0,i64 3,i64 8] h46 fun v47 h48=>K (.tuple #[i64 0,(.bool true),(.bool false)]) h48) (ei_ x35 (i64 8) (S219_j2 x0 x1 x7 x35 (.bool true) h K) (bnd (eqI x35 (i64 9)) fun b50=>S219_j2 x0 x1 x7 x35 (.bool b50) h K)))))
def S219(a0 a1:VV)(h:GH)(K:CC):Prop:=
 bnd (ncV a0) fun v1=>bnd (faV 0 v1) fun v2=>lg_ v2 2 h fun v4=>T Pg 121 [v4] h fun v5 h6=>lf_ a0 8 h6 fun v9=>ei_ v9 (i64 0) (S219_j1 a0 a1 v5 v9 (.bool true) h6 K) (bnd (eqI v9 (i64 1)) fun b11=>S219_j1 a0 a1 v5 v9 (.bool b11) h6 K)
def A219:Ann:=⟨fun | 29=> ([0,1,2,3,4,5,6,8,9,10,11,12,13,7,14,15], [0,0,0,4,12,28,60,124,0,256,768,1792,3840,0,16380,32767]) | 33=> ([0,1,2,3,4,5,7,8,9,10,6,11], [0,0,2,6,14,0,32,0,128,384,896,2047]) | 35=> ((.range 8), [0,1,3,7,15,0,32,127]) | _=> ([], []),fun _=> []⟩
theorem S219_T{a0 a1:VV}{h}{K}(g:S219 a0 a1 h K):T Pg 219 [a0,a1] h K:=gwT A219 Tryz.func219 g
def S220_j2(s6:Nat→Value)(x2 x4 x6 x7 x9 x10 x22 x23 x24:VV)(h:GH)(K:CC)(again8:(Nat→VV)→GH→Prop):Prop:=
 bnd (ldV 48 true x6 h) fun v1=>bnd (ldV 4 true x9 h) fun v2=>callV Pg x10 [v1,v2] h fun v3 h4=>x2_ v3 fun v5 v6=>newV 298 ([i64 0] ++ List.replicate 16 (.bool false) ++ List.replicate 32 (i64 0) ++ [nS_]) h4 fun v7 h8=>bnd (stV 50 v7 v5 h8) fun h9=>lg_ v7 0 h9 fun v11=>bi_ .geq v11 (i64 0) (lg_ v7 0 h9 fun v14=>bnd (ldV 48 true x2 h9) fun v15=>bnd (fillV ([i64 0] ++ List.replicate 16 (.bool false) ++ List.replicate 32 (i64 0) ++ [nS_]) [(0,1,v14),(1,48,v15)]) fun c16=>bnd (stV 50 x4 (.agg c16.toArray) h9) fun h17=>bnd (ldV 50 true x4 h17) fun v18=>
 K (.tuple #[v18,i64 0]) h17) (lg_ v7 49 h9 fun v20=>apV 122 2 16 x7 v20 h9 fun v21 h22=>bnd (lnV v21) fun v23=>bnd (binV .sub v23 (i64 1)) fun v24=>bnd (isV 2 v21 v24) fun v25=>lg_ v25 0 h22 fun v27=>en_ v27 (i64 0) (bnd (ldV 48 true x2 h22) fun v29=>bnd (fillV ([i64 0] ++ List.replicate 16 (.bool false) ++ List.replicate 32 (i64 0) ++ [nS_]) [(0,1,(.int .i64 (-1))),(1,48,v29),(49,1,v21)]) fun c30=>bnd (stV 50 x4 (.agg c30.toArray) h22) fun h31=>bnd (ldV 50 true x4 h31) fun v32=>K (.tuple #[v32,i64 0]) h31) (bnd (faV 1 v7) fun v33=>
 bnd (ldV 48 true v33 h22) fun v34=>bnd (stV 48 x6 v34 h22) fun h35=>bnd (binV .add x24 (i64 1)) fun v36=>again8 (tup [x2,x4,x6,v21,x22,x23,v36]) h35))
def S220_j1(x1 x2 x4:VV)(h:GH)(K:CC) :Prop:=
 bnd (ldV 48 true x2 h) fun v1=>newV 255 (List.replicate 16 (.bool false) ++ List.replicate 32 (i64 0)) h fun v2 h3=>bnd (stV 48 v2 v1 h3) fun h4=>bnd (lnV x1) fun v5=>Lfp (fun (s6:Nat→Value) h7 again8=>bi_ .lss (s6 6) (s6 5) (bnd (isV 4 (s6 4) (s6 6)) fun v10=>bnd (ldV 4 true v10 h7) fun v11=>newV 24 [i64 0,i64 0,i64 0,i64 0] h7 fun v12 h13=>bnd (stV 4 v12 v11 h13) fun h14=>lg_ v12 0 h14 fun v16=>T Pg 110 [v16] h14 fun v17 h18=>ifV v17 (S220_j2 s6 (s6 0) (s6 1) (s6 2) (s6 3) v12 (.func (.func 244) #[] #[]) (s6 4) (s6 5) (s6 6) h18 K again8) (
 S220_j2 s6 (s6 0) (s6 1) (s6 2) (s6 3) v12 (.func (.func 243) #[] #[]) (s6 4) (s6 5) (s6 6) h18 K again8)) (bnd (ldV 48 true (s6 2) h7) fun v19=>bnd (fillV ([i64 0] ++ List.replicate 16 (.bool false) ++ List.replicate 32 (i64 0) ++ [nS_]) [(0,1,(.int .i64 (-1))),(1,48,v19),(49,1,(s6 3))]) fun c20=>bnd (stV 50 (s6 1) (.agg c20.toArray) h7) fun h21=>bnd (ldV 50 true (s6 1) h21) fun v22=>K (.tuple #[v22,i64 0]) h21)) (tup [x2,x4,v2,nS_,x1,v5,i64 0]) h4
def S220(a0 a1:VV)(h:GH)(K:CC):Prop:=
 newV 255 (a0:VV).cells.toList h fun v1 h2=>newV 298 ([i64 0] ++ List.replicate 16 (.bool false) ++ List.replicate 32 (i64 0) ++ [nS_]) h2 fun v3 h4=>T Pg 242 [v1] h4 fun v5 h6=>ni_ v5 (bnd (fillV ([i64 0] ++ List.replicate 16 (.bool false) ++ List.replicate 32 (i64 0) ++ [nS_]) []) fun c8=>bnd (stV 50 v3 (.agg c8.toArray) h6) fun h9=>bnd (ldV 50 true v3 h9) fun v10=>K (.tuple #[v10,i64 700]) h9) (T Pg 108 [a1] h6 fun v11 h12=>ni_ v11 (bnd (fillV ([i64 0] ++ List.replicate 16 (.bool false) ++ List.replicate 32 (i64 0) ++ [nS_]) []) fun c14=>
 bnd (stV 50 v3 (.agg c14.toArray) h12) fun h15=>bnd (ldV 50 true v3 h15) fun v16=>K (.tuple #[v16,i64 700]) h15) (S220_j1 a1 v1 v3 h12 K))
def A220:Ann:=⟨fun _=> ([], []),fun | 0=> [2,4,6,7,22,23,24] | _=> []⟩
theorem S220_T{a0 a1:VV}{h}{K}(g:S220 a0 a1 h K):T Pg 220 [a0,a1] h K:=gwT A220 Tryz.func220 g
def S221(a0 a1:VV)(h:GH)(K:CC):Prop:=
 T Pg 75 [a0,i64 12] h fun v1 h2=>ifV v1 (T Pg 75 [a1,i64 65536] h2 fun v3 h4=>K v3 h4) (K (.bool false) h2)
theorem S221_T{a0 a1:VV}{h}{K}(g:S221 a0 a1 h K):T Pg 221 [a0,a1] h K:=gwT aN_ Tryz.func221 g
def S222(a0:VV)(h:GH)(K:CC):Prop:=
 bnd (ncV a0) fun v1=>bnd (faV 5 v1) fun v2=>lg_ v2 0 h fun v4=>bi_ .geq v4 (i64 0) (lf_ a0 0 h fun v8=>lf_ a0 1 h fun v11=>bnd (ncV a0) fun v12=>bnd (faV 5 v12) fun v13=>lg_ v13 0 h fun v15=>T Pg 245 [v8,v11,v15] h fun v16 h17=>x2_ v16 fun v18 v19=>K (.iface 327 v18) h17) (bnd (ncV a0) fun v20=>bnd (faV 5 v20) fun v21=>lg_ v21 49 h fun v23=>sf_ a0 60 v23 h fun h26=>bnd (ncV a0) fun v27=>bnd (faV 2 v27) fun v28=>bnd (faV 0 v28) fun v29=>bnd (ldV 1 false v29 h26) fun v30=>bnd (ncV a0) fun v31=>bnd (faV 2 v31) fun v32=>bnd (faV 1 v32) fun v33=>bnd (ldV 1 false v33 h26) fun v34=>
 bnd (ncV a0) fun v35=>bnd (faV 5 v35) fun v36=>bnd (faV 1 v36) fun v37=>bnd (ldV 48 true v37 h26) fun v38=>T Pg 247 [v38] h26 fun v39 h40=>ldV 1 false v33 h40=some v34∧ldV 1 false v29 h40=some v30∧T Pg 246 [v30,v34,v39] h40 fun v41 h42=>x2_ v41 fun v43 v44=>K (.iface 329 v43) h42)
def A222:Ann:=⟨fun | 2=> ((.range 19), [0,1,3,7,0,16,48,112,0,256,768,1792,3840,8191,16383,32767,32767,65535,262143]) | 5=> ((.range 22), [0,1,3,7,15,0,32,96,224,480,0,1024,3072,7168,15360,31744,65535,131071,262143,262143,524287,2097151]) | _=> ([], []),fun _=> []⟩
theorem S222_T{a0:VV}{h}{K}(g:S222 a0 h K):T Pg 222 [a0] h K:=gwT A222 Tryz.func222 g
def S223(a0 a1:VV)(h:GH)(K:CC):Prop:=
 bnd (ncV a0) fun v1=>bnd (faV 5 v1) fun v2=>bnd (faV 1 v2) fun v3=>bnd (ldV 48 true v3 h) fun v4=>newV 255 (List.replicate 16 (.bool false) ++ List.replicate 32 (i64 0)) h fun v5 h6=>bnd (stV 48 v5 v4 h6) fun h7=>bnd (faV 0 v5) fun v8=>bnd (faV 16 v5) fun v9=>bnd (faV 32 v5) fun v10=>T Pg 249 [a1] h7 fun v11 h12=>bnd (iaV 16 1 v8 v11) fun v13=>T Pg 249 [a1] h12 fun v14 h15=>T Pg 249 [a1] h15 fun v16 h17=>T Pg 248 [a1] h17 fun v18 h19=>T Pg 248 [a1] h19 fun v20 h21=>bnd (stV 1 v13 (.bool true) h21) fun h22=>bnd (iaV 16 1 v9 v14) fun v23=>bnd (stV 1 v23 v18 h22) fun h24=>
 bnd (iaV 16 1 v10 v16) fun v25=>bnd (stV 1 v25 v20 h24) fun h26=>bnd (ldV 48 true v5 h26) fun v27=>lf_ a0 4 h26 fun v30=>T Pg 220 [v27,v30] h26 fun v31 h32=>x2_ v31 fun v33 v34=>bnd (ncV a0) fun v35=>bnd (faV 5 v35) fun v36=>bnd (stV 50 v36 v33 h32) fun h37=>T Pg 222 [a0] h37 fun v38 h39=>sf_ a0 55 v38 h39 fun h42=>K (.tuple #[]) h42
def A223:Ann:=⟨fun | 1=> ([0,2,4,6,8,10,13,16,1,11,3,5,7,9,12,14,15,17,18], [0,1,0,7,0,31,0,127,0,511,0,1027,4095,0,16383,32767,0,131071,262143]) | 2=> ((.range 13), [0,0,0,4,12,28,62,126,254,254,511,1535,3583]) | _=> ([], []),fun _=> []⟩
theorem S223_T{a0 a1:VV}{h}{K}(g:S223 a0 a1 h K):T Pg 223 [a0,a1] h K:=gwT A223 Tryz.func223 g
def S224_j1(x8 x9:VV)(h:GH)(K:CC) :Prop:=
 bsV 361 1 [.nilIface] [(0,1,x9)] h fun v1 h2=>sf_ x8 2 v1 h2 fun h5=>K (.tuple #[x8,i64 0]) h5
def S224(a0 a1 a2:VV)(h:GH)(K:CC):Prop:=
 bnd (fillV [i64 0,i64 0] [(0,1,a0),(1,1,a1)]) fun c1=>bnd (fillV [i64 0,i64 0,nS_,nP_,(.bool false),(.bool false)] [(0,2,(.agg c1.toArray))]) fun c2=>newV 359 ((.agg c2.toArray):VV).cells.toList h fun v3 h4=>bnd (ncV v3) fun v5=>bnd (faV 0 v5) fun v6=>T Pg 163 [a2] h4 fun v7 h8=>T Pg 250 [v7,v6] h8 fun v9 h10=>T Pg 131 [a0] h10 fun v11 h12=>ni_ v11 (K (.tuple #[nP_,i64 1400]) h12) (T Pg 75 [a1,i64 1048576] h12 fun v14 h15=>ni_ v14 (K (.tuple #[nP_,i64 1400]) h15) (bnd (eqK .iface true v9 .nilIface) fun b17=>ifV (.bool b17) (
 K (.tuple #[nP_,i64 1400]) h15) (S224_j1 v3 v9 h15 K)))
def A224:Ann:=⟨fun | 2=> ([0,2,3,4,1,5,6], [0,1,0,4,12,31,63]) | _=> ([], []),fun _=> []⟩
theorem S224_T{a0 a1 a2:VV}{h}{K}(g:S224 a0 a1 a2 h K):T Pg 224 [a0,a1,a2] h K:=gwT A224 Tryz.func224 g
def S225(a0:VV)(h:GH)(K:CC):Prop:=
 ivV Pg a0 "pawl/word.number" [] h fun v1 h2 =>K v1 h2
theorem S225_T{a0:VV}{h}{K}(g:S225 a0 h K):T Pg 225 [a0] h K:=gwT aN_ Tryz.func225 g
def S226(a0:VV)(h:GH)(K:CC):Prop:=
 bnd (eqK .ptr true a0 nP_) fun b1=>ifV (.bool (!b1)) (lf_ a0 4 h fun v4=>K v4 h) (K (.bool false) h)
theorem S226_T{a0:VV}{h}{K}(g:S226 a0 h K):T Pg 226 [a0] h K:=gwT aN_ Tryz.func226 g
def S227(a0:VV)(h:GH)(K:CC):Prop:=
 bnd (eqK .ptr true a0 nP_) fun b1=>ifV (.bool (!b1)) (lf_ a0 58 h fun v4=>K v4 h) (K (.bool false) h)
theorem S227_T{a0:VV}{h}{K}(g:S227 a0 h K):T Pg 227 [a0] h K:=gwT aN_ Tryz.func227 g
def S228_j3(x0 x6:VV)(h:GH)(K:CC) :Prop:=
 lf_ x0 1 h fun v3=>bnd (binV .add v3 (i64 1)) fun v4=>sf_ x0 1 v4 h fun h7=>ni_ x6 (sf_ x0 4 (.bool true) h7 fun h11=>K (.tuple #[(.bool true),i64 1100]) h11) (lf_ x0 4 h7 fun v14=>K (.tuple #[v14,i64 0]) h7)
def S228_j2(x0 x1:VV)(h:GH)(K:CC) :Prop:=
 lf_ x0 1 h fun v3=>bi_ .lss v3 (i64 0) (T Pg 156 [x1] h fun v5 h6=>x2_ v5 fun v7 v8=>sf_ x0 2 v7 h6 fun h11=>S228_j3 x0 v8 h11 K) (lf_ x0 1 h fun v14=>lf_ x0 0 h fun v17=>bi_ .lss v14 v17 (lf_ x0 1 h fun v21=>bnd (binV .add (i64 30) v21) fun v22=>T Pg 39 [x1,v22] h fun v23 h24=>x2_ v23 fun v25 v26=>T Pg 136 [v25] h24 fun v27 h28=>x2_ v27 fun v29 v30=>en_ v29 (i64 0) (lf_ x0 2 h28 fun v34=>bnd (binV .add v34 (i64 1)) fun v35=>bnd (eqI v29 v35) fun b36=>sf_ x0 4 (.bool (!b36)) h28 fun h39=>S228_j3 x0 v30 h39 K) (sf_ x0 4 (.bool false) h28 fun h42=>S228_j3 x0 v30 h42 K)) (
 lf_ x0 2 h fun v45=>T Pg 78 [v45] h fun v46 h47=>lf_ x0 2 h47 fun v50=>bnd (binV .add v50 (i64 1)) fun v51=>T Pg 78 [v51] h47 fun v52 h53=>T Pg 209 [x1,i64 29,v46,v52] h53 fun v54 h55=>x2_ v54 fun v56 v57=>bnd (eqI v56 v46) fun b58=>sf_ x0 3 (.bool b58) h55 fun h61=>sf_ x0 4 (.bool true) h61 fun h64=>S228_j3 x0 (.bool true) h64 K))
def S228_j1(x0 x1 x14:VV)(h:GH)(K:CC) :Prop:=
 ifV x14 (K (.tuple #[(.bool false),i64 1]) h) (lf_ x0 4 h fun v3=>ifV v3 (K (.tuple #[(.bool true),i64 0]) h) (S228_j2 x0 x1 h K))
def S228(a0 a1:VV)(h:GH)(K:CC):Prop:=
 bnd (eqK .ptr true a0 nP_) fun b1=>ifV (.bool b1) (S228_j1 a0 a1 (.bool true) h K) (bnd (eqK .ptr true a1 nP_) fun b2=>S228_j1 a0 a1 (.bool b2) h K)
def A228:Ann:=⟨fun | 11=> ((.range 10), [0,1,3,7,0,16,48,112,255,511]) | _=> ([], []),fun _=> []⟩
theorem S228_T{a0 a1:VV}{h}{K}(g:S228 a0 a1 h K):T Pg 228 [a0,a1] h K:=gwT A228 Tryz.func228 g
def S229_j3(x0 x1 x4:VV)(h:GH)(K:CC) :Prop:=
 lf_ x0 20 h fun v3=>sf_ x4 5 v3 h fun h6=>sf_ x4 4 x1 h6 fun h9=>sf_ x0 8 (i64 0) h9 fun h12=>K (.tuple #[]) h12
def S229_j2(x0 x1 x4:VV)(h:GH)(K:CC) :Prop:=
 lf_ x0 20 h fun v3=>ei_ v3 (i64 0) (lf_ x0 18 h fun v7=>T Pg 252 [v7] h fun v8 h9=>sf_ x4 7 v8 h9 fun h12=>S229_j3 x0 x1 x4 h12 K) (S229_j3 x0 x1 x4 h K)
def S229_j1(x0 x1 x4 x39:VV)(h:GH)(K:CC) :Prop:=
 ifV x39 (lf_ x0 3 h fun v3=>lf_ x0 8 h fun v6=>T Pg 251 [v3,v6] h fun v7 h8=>x2_ v7 fun v9 v10=>sf_ x0 9 v9 h8 fun h13=>K (.tuple #[]) h13) (S229_j2 x0 x1 x4 h K)
def S229(a0 a1:VV)(h:GH)(K:CC):Prop:=
 sf_ a0 6 .nilFunc h fun h3=>lf_ a0 8 h3 fun v6=>bnd (binV .add v6 (i64 1)) fun v7=>sf_ a0 8 v7 h3 fun h10=>T Pg 139 [a0] h10 fun v11 h12=>lf_ a0 8 h12 fun v15=>sf_ v11 6 v15 h12 fun h18=>lf_ a0 20 h18 fun v21=>ei_ v21 (i64 2) (lf_ a0 8 h18 fun v25=>lf_ a0 2 h18 fun v28=>bnd (binV .lss v25 v28) fun v29=>S229_j1 a0 a1 v11 v29 h18 K) (S229_j1 a0 a1 v11 (.bool false) h18 K)
def A229:Ann:=⟨fun | 4=> ((.range 16), [0,1,3,7,15,31,63,127,255,511,63,1087,3135,7231,16383,32767]) | 5=> ((.range 16), [0,0,2,6,14,0,32,96,224,510,1022,2046,2046,4095,12287,28671]) | _=> ([], []),fun _=> []⟩
theorem S229_T{a0 a1:VV}{h}{K}(g:S229 a0 a1 h K):T Pg 229 [a0,a1] h K:=gwT A229 Tryz.func229 g
def S230(a0 a1 a2:VV)(h:GH)(K:CC):Prop:=
 bnd (ldV 1 false a1 h) fun v1=>ei_ a0 v1 (bnd (ldV 1 false a2 h) fun v3=>K v3 h) (K a0 h)
theorem S230_T{a0 a1 a2:VV}{h}{K}(g:S230 a0 a1 a2 h K):T Pg 230 [a0,a1,a2] h K:=gwT aN_ Tryz.func230 g
def S231(a0:VV)(h:GH)(K:CC):Prop:=
 newV 255 (a0:VV).cells.toList h fun v1 h2=>Lfp (fun (s3:Nat→Value) h4 again5=>bi_ .lss (s3 1) (i64 16) (bnd (faV 16 (s3 0)) fun v7=>bnd (iaV 16 1 v7 (s3 1)) fun v8=>bnd (ldV 1 false v8 h4) fun v9=>bi_ .lss v9 (i64 0) (K (.bool false) h4) (bnd (faV 16 (s3 0)) fun v11=>bnd (iaV 16 1 v11 (s3 1)) fun v12=>bnd (ldV 1 false v12 h4) fun v13=>bi_ .gtr v13 (i64 1099511627775) (K (.bool false) h4) (bnd (faV 32 (s3 0)) fun v15=>bnd (iaV 16 1 v15 (s3 1)) fun v16=>bnd (ldV 1 false v16 h4) fun v17=>bi_ .lss v17 (i64 0) (K (.bool false) h4) (bnd (faV 32 (s3 0)) fun v19=>
 bnd (iaV 16 1 v19 (s3 1)) fun v20=>bnd (ldV 1 false v20 h4) fun v21=>bi_ .gtr v21 (i64 1099511627775) (K (.bool false) h4) (bnd (binV .add (s3 1) (i64 1)) fun v23=>again5 (tup [(s3 0),v23]) h4))))) (K (.bool true) h4)) (tup [v1,i64 0]) h2
def A231:Ann:=⟨fun _=> ([], []),fun | 0=> [1,3] | _=> []⟩
theorem S231_T{a0:VV}{h}{K}(g:S231 a0 h K):T Pg 231 [a0] h K:=gwT A231 Tryz.func231 g
def S232_j2(x4 x5 x6:VV)(h:GH)(K:CC) :Prop:=
 bnd (ncV x5) fun v1=>bnd (faV 0 v1) fun v2=>bnd (ldV 48 true v2 h) fun v3=>bnd (ldV 2 true x6 h) fun v4=>bsV 122 1 [i64 0,i64 0] [(0,2,v4)] h fun v5 h6=>bnd (fillV ([i64 0] ++ List.replicate 16 (.bool false) ++ List.replicate 32 (i64 0) ++ [nS_]) [(0,1,(.int .i64 (-1))),(1,48,v3),(49,1,v5)]) fun c7=>bnd (stV 50 x4 (.agg c7.toArray) h6) fun h8=>bnd (ldV 50 true x4 h8) fun v9=>K v9 h8
def S232_j1(x2 x4 x5 x6:VV)(h:GH)(K:CC) :Prop:=
 lf_ x5 48 h fun v3=>bi_ .geq v3 (i64 0) (lf_ x5 48 h fun v7=>bnd (ldV 48 true x2 h) fun v8=>bnd (fillV ([i64 0] ++ List.replicate 16 (.bool false) ++ List.replicate 32 (i64 0) ++ [nS_]) [(0,1,v7),(1,48,v8)]) fun c9=>bnd (stV 50 x4 (.agg c9.toArray) h) fun h10=>bnd (ldV 50 true x4 h10) fun v11=>K v11 h10) (lg_ x6 0 h fun v13=>en_ v13 (i64 0) (bnd (ldV 48 true x2 h) fun v15=>bnd (ncV x5) fun v16=>bnd (faV 0 v16) fun v17=>bnd (stV 48 v17 v15 h) fun h18=>S232_j2 x4 x5 x6 h18 K) (S232_j2 x4 x5 x6 h K))
def S232(a0 a1:VV)(h:GH)(K:CC):Prop:=
 newV 255 (a0:VV).cells.toList h fun v1 h2=>newV 24 (a1:VV).cells.toList h2 fun v3 h4=>newV 298 ([i64 0] ++ List.replicate 16 (.bool false) ++ List.replicate 32 (i64 0) ++ [nS_]) h4 fun v5 h6=>bnd (ldV 48 true v1 h6) fun v7=>bnd (fillV (List.replicate 16 (.bool false) ++ List.replicate 33 (i64 0)) [(0,48,v7),(48,1,(.int .i64 (-1)))]) fun c8=>newV 368 ((.agg c8.toArray):VV).cells.toList h6 fun v9 h10=>newV 122 [i64 0,i64 0] h10 fun v11 h12=>bnd (ldV 4 true v3 h12) fun v13=>T Pg 253 [v13] h12 fun v14 h15=>ifV v14 (bnd (ldV 4 true v3 h15) fun v16=>
 T Pg 254 [v9,v16] h15 fun v17 h18=>bnd (stV 2 v11 v17 h18) fun h19=>S232_j1 v1 v5 v9 v11 h19 K) (bnd (ldV 4 true v3 h15) fun v20=>T Pg 255 [v9,v20] h15 fun v21 h22=>bnd (stV 2 v11 v21 h22) fun h23=>S232_j1 v1 v5 v9 v11 h23 K)
def A232:Ann:=⟨fun | 7=> ((.range 7), [0,1,3,7,0,31,63]) | 10=> ((.range 8), [0,1,3,7,0,16,63,127]) | _=> ([], []),fun _=> []⟩
theorem S232_T{a0 a1:VV}{h}{K}(g:S232 a0 a1 h K):T Pg 232 [a0,a1] h K:=gwT A232 Tryz.func232 g
def S233(a0:VV)(h:GH)(K:CC):Prop:=
 bnd (lnV a0) fun v1=>bi_ .gtr v1 (i64 16) (K (.bool false) h) (Lfp (fun (s3:Nat→Value) h4 again5=>bnd (lnV (s3 0)) fun v6=>bi_ .lss (s3 1) v6 (bnd (isV 3 (s3 0) (s3 1)) fun v8=>bnd (ldV 3 true v8 h4) fun v9=>newV 340 [i64 0,i64 0,i64 0] h4 fun v10 h11=>bnd (stV 3 v10 v9 h11) fun h12=>lg_ v10 0 h12 fun v14=>bi_ .lss v14 (i64 0) (K (.bool false) h12) (lg_ v10 0 h12 fun v17=>bi_ .geq v17 (i64 16) (K (.bool false) h12) (bi_ .gtr (s3 1) (i64 0) (lg_ v10 0 h12 fun v21=>bnd (binV .sub (s3 1) (i64 1)) fun v22=>bnd (isV 3 (s3 0) v22) fun v23=>
 lg_ v23 0 h12 fun v25=>bi_ .leq v21 v25 (K (.bool false) h12) (lg_ v10 1 h12 fun v28=>bi_ .lss v28 (i64 0) (K (.bool false) h12) (lg_ v10 1 h12 fun v31=>bi_ .gtr v31 (i64 1099511627775) (K (.bool false) h12) (lg_ v10 2 h12 fun v34=>bi_ .lss v34 (i64 0) (K (.bool false) h12) (lg_ v10 2 h12 fun v37=>bi_ .gtr v37 (i64 1099511627775) (K (.bool false) h12) (bnd (binV .add (s3 1) (i64 1)) fun v39=>again5 (tup [(s3 0),v39]) h12)))))) (lg_ v10 1 h12 fun v41=>bi_ .lss v41 (i64 0) (K (.bool false) h12) (lg_ v10 1 h12 fun v44=>bi_ .gtr v44 (i64 1099511627775) (
 K (.bool false) h12) (lg_ v10 2 h12 fun v47=>bi_ .lss v47 (i64 0) (K (.bool false) h12) (lg_ v10 2 h12 fun v50=>bi_ .gtr v50 (i64 1099511627775) (K (.bool false) h12) (bnd (binV .add (s3 1) (i64 1)) fun v52=>again5 (tup [(s3 0),v52]) h12)))))))) (K (.bool true) h4)) (tup [a0,i64 0]) h)
def A233:Ann:=⟨fun | 7=> ((.range 43), [0,1,3,7,15,31,63,127,255,511,1023,2047,4095,8191,4095,4095,36863,118783,249855,511999,1048575,2097151,4194303,8388607,16777215,33554431,67108863,134217727,268435455,536870911,1073741823,2147483647,4294967295,8589934591,17179869183,34359738367,68719476735,137438953471,274877906943,549755813887,1099511627775,2199023255551,4398046511103]) | _=> ([], []),fun | 0=> [0,3] | _=> []⟩
theorem S233_T{a0:VV}{h}{K}(g:S233 a0 h K):T Pg 233 [a0] h K:=gwT A233 Tryz.func233 g
def S234(a0 a1:VV)(h:GH)(K:CC):Prop:=
 bnd (binV .mul (i64 4) a0) fun v1=>bnd (binV .add v1 a1) fun v2=>T Pg 118 [v2] h fun v3 h4=>K v3 h4
theorem S234_T{a0 a1:VV}{h}{K}(g:S234 a0 a1 h K):T Pg 234 [a0,a1] h K:=gwT aN_ Tryz.func234 g
def S235(a0 a1:VV)(h:GH)(K:CC):Prop:=
 T Pg 126 [a0] h fun v1 h2=>x2_ v1 fun v3 v4=>ifV v4 (bnd (binV .leq v3 a1) fun v5=>K (.tuple #[v3,v5]) h2) (K (.tuple #[v3,(.bool false)]) h2)
theorem S235_T{a0 a1:VV}{h}{K}(g:S235 a0 a1 h K):T Pg 235 [a0,a1] h K:=gwT aN_ Tryz.func235 g
def S236(a0 a1:VV)(h:GH)(K:CC):Prop:=
 T Pg 126 [a1] h fun v1 h2=>x2_ v1 fun v3 v4=>bnd (ncV a0) fun v5=>bnd (faV 0 v5) fun v6=>lg_ v6 3 h2 fun v8=>bnd (binV .mul (i64 4) v8) fun v9=>bnd (binV .add v9 (i64 0)) fun v10=>bnd (eqI v3 v10) fun b11=>bnd (ncV a0) fun v12=>bnd (faV 0 v12) fun v13=>lg_ v13 3 h2 fun v15=>bnd (binV .mul (i64 4) v15) fun v16=>bnd (binV .add v16 (i64 1)) fun v17=>bnd (eqI v3 v17) fun b18=>K (.tuple #[(.bool b11),(.bool b18),v4]) h2
def A236:Ann:=⟨fun | 2=> ((.range 22), [0,0,2,6,14,30,62,126,255,0,0,1024,3072,7168,15360,31744,64512,130560,0,511,786431,2097151]) | _=> ([], []),fun _=> []⟩
theorem S236_T{a0 a1:VV}{h}{K}(g:S236 a0 a1 h K):T Pg 236 [a0,a1] h K:=gwT A236 Tryz.func236 g
def S237_j1(x0 x1 x2 x6:VV)(h:GH)(K:CC) :Prop:=
 lf_ x0 11 h fun v3=>T Pg 170 [x1,v3,x2,x6] h fun v4 h5=>K (.tuple #[]) h5
def S237(a0 a1 a2:VV)(h:GH)(K:CC):Prop:=
 lf_ a0 12 h fun v3=>lf_ a0 14 h fun v6=>ifV v6 (T Pg 240 [a0] h fun v7 h8=>S237_j1 a0 a1 a2 v7 h8 K) (S237_j1 a0 a1 a2 v3 h K)
theorem S237_T{a0 a1 a2:VV}{h}{K}(g:S237 a0 a1 a2 h K):T Pg 237 [a0,a1,a2] h K:=gwT aN_ Tryz.func237 g
def S238(a0 a1:VV)(h:GH)(K:CC):Prop:=
 lf_ a0 11 h fun v3=>lf_ a0 12 h fun v6=>lf_ a0 13 h fun v9=>T Pg 170 [a1,v3,v6,v9] h fun v10 h11=>x2_ v10 fun v12 v13=>T Pg 154 [v12] h11 fun v14 h15=>x2_ v14 fun v16 v17=>newV 225 [i64 0,i64 0,i64 0,i64 0,i64 0,i64 0,i64 0] h15 fun v18 h19=>bnd (stV 7 v18 v16 h19) fun h20=>lf_ a0 12 h20 fun v23=>ei_ v12 v23 (sf_ a0 8 (i64 6) h20 fun h27=>K (.tuple #[i64 0,(.bool true),(.bool false)]) h27) (en_ v17 (i64 0) (K (.tuple #[i64 0,(.bool false),(.bool false)]) h20) (T Pg 240 [a0] h20 fun v29 h30=>ei_ v12 v29 (
 T Pg 239 [a0,i64 3,i64 8] h30 fun v32 h33=>K (.tuple #[i64 0,(.bool true),(.bool false)]) h33) (lg_ v18 0 h30 fun v35=>ei_ v35 (i64 0) (sf_ a0 8 (i64 9) h30 fun h39=>K (.tuple #[i64 0,(.bool true),(.bool false)]) h39) (lg_ v18 0 h30 fun v41=>ei_ v41 (i64 1) (K (.tuple #[v12,(.bool true),(.bool false)]) h30) (sf_ a0 16 v12 h30 fun h45=>sf_ a0 8 (i64 14) h45 fun h48=>K (.tuple #[i64 0,(.bool true),(.bool false)]) h48)))))
def A238:Ann:=⟨fun | 1=> ((.range 19), [0,0,2,6,14,0,32,96,224,0,512,1536,3584,8191,16383,32767,32767,65535,262143]) | _=> ([], []),fun _=> []⟩
theorem S238_T{a0 a1:VV}{h}{K}(g:S238 a0 a1 h K):T Pg 238 [a0,a1] h K:=gwT A238 Tryz.func238 g
def S239(a0 a1 a2:VV)(h:GH)(K:CC):Prop:=
 lf_ a0 9 h fun v3=>bnd (binV .add v3 (i64 1)) fun v4=>sf_ a0 9 v4 h fun h7=>sf_ a0 8 a1 h7 fun h10=>lf_ a0 9 h10 fun v13=>lf_ a0 10 h10 fun v16=>bi_ .geq v13 v16 (sf_ a0 8 a2 h10 fun h20=>K (.tuple #[]) h20) (K (.tuple #[]) h10)
def A239:Ann:=⟨fun | 2=> ((.range 9), [0,1,3,7,0,16,48,112,255]) | _=> ([], []),fun _=> []⟩
theorem S239_T{a0 a1 a2:VV}{h}{K}(g:S239 a0 a1 a2 h K):T Pg 239 [a0,a1,a2] h K:=gwT A239 Tryz.func239 g
def S240(a0:VV)(h:GH)(K:CC):Prop:=
 bnd (ncV a0) fun v1=>bnd (faV 0 v1) fun v2=>lg_ v2 2 h fun v4=>bnd (ncV a0) fun v5=>bnd (faV 0 v5) fun v6=>lg_ v6 3 h fun v8=>bnd (fillV [i64 0,i64 0,i64 0,i64 0,i64 0,i64 0,i64 0] [(0,1,(i64 2)),(2,1,v4),(3,1,v8)]) fun c9=>T Pg 195 [(.agg c9.toArray)] h fun v10 h11=>x2_ v10 fun v12 v13=>K v12 h11
def A240:Ann:=⟨fun | 1=> ((.range 17), [0,1,3,7,15,0,32,96,224,480,1023,2047,4095,8191,8191,16383,65535]) | _=> ([], []),fun _=> []⟩
theorem S240_T{a0:VV}{h}{K}(g:S240 a0 h K):T Pg 240 [a0] h K:=gwT A240 Tryz.func240 g
def S241_j2(x0 x10 x11:VV)(h:GH)(K:CC) :Prop:=
 ei_ x10 (i64 0) (lf_ x0 8 h fun v4=>bnd (eqI v4 (i64 11)) fun b5=>K (.tuple #[x11,(.bool b5)]) h) (K (.tuple #[x11,(.bool false)]) h)
def S241_j5(x0 x1 x20:VV)(h:GH)(K:CC) :Prop:=
 T Pg 148 [x1,x20] h fun v1 h2=>x2_ v1 fun v3 v4=>T Pg 235 [v3,i64 1099511627775] h2 fun v5 h6=>x2_ v5 fun v7 v8=>sf_ x0 16 v3 h6 fun h11=>sf_ x0 8 (i64 13) h11 fun h14=>K (.tuple #[v8,(.bool false)]) h14
def S241_j4(x0 x1 x2:VV)(h:GH)(K:CC) :Prop:=
 bnd (binV .add x2 (i64 3)) fun v1=>lf_ x0 9 h fun v4=>bnd (binV .mul (i64 3) v4) fun v5=>bnd (binV .add v1 v5) fun v6=>lf_ x0 15 h fun v9=>ifV v9 (bnd (binV .add v6 (i64 1)) fun v10=>S241_j5 x0 x1 v10 h K) (S241_j5 x0 x1 v6 h K)
def S241_j3(x0 x1 x2 x28 x80:VV)(h:GH)(K:CC) :Prop:=
 ifV x80 (bnd (binV .add x2 (i64 2)) fun v1=>lf_ x0 9 h fun v4=>bnd (binV .mul (i64 3) v4) fun v5=>bnd (binV .add v1 v5) fun v6=>T Pg 148 [x1,v6] h fun v7 h8=>x2_ v7 fun v9 v10=>T Pg 235 [v9,i64 15] h8 fun v11 h12=>x2_ v11 fun v13 v14=>sf_ x0 11 v13 h12 fun h17=>lf_ x0 8 h17 fun v20=>bnd (binV .add v20 (i64 1)) fun v21=>sf_ x0 8 v21 h17 fun h24=>K (.tuple #[v14,(.bool false)]) h24) (ei_ x28 (i64 4) (bnd (binV .add x2 (i64 3)) fun v26=>lf_ x0 9 h fun v29=>bnd (binV .mul (i64 3) v29) fun v30=>bnd (binV .add v26 v30) fun v31=>
 T Pg 148 [x1,v31] h fun v32 h33=>x2_ v32 fun v34 v35=>T Pg 235 [v34,i64 1099511627775] h33 fun v36 h37=>x2_ v36 fun v38 v39=>sf_ x0 12 v34 h37 fun h42=>sf_ x0 8 (i64 5) h42 fun h45=>K (.tuple #[v39,(.bool false)]) h45) (S241_j4 x0 x1 x2 h K))
def S241_j1(x0 x1 x2 x28 x29:VV)(h:GH)(K:CC) :Prop:=
 ifV x29 (bnd (binV .add x2 (i64 1)) fun v1=>T Pg 148 [x1,v1] h fun v2 h3=>x2_ v2 fun v4 v5=>T Pg 235 [v4,i64 16] h3 fun v6 h7=>x2_ v6 fun v8 v9=>sf_ x0 10 v8 h7 fun h12=>sf_ x0 9 (i64 0) h12 fun h15=>lf_ x0 8 h15 fun v18=>bnd (binV .add v18 (i64 1)) fun v19=>sf_ x0 8 v19 h15 fun h22=>ei_ v8 (i64 0) (lf_ x0 8 h22 fun v26=>ei_ v26 (i64 3) (sf_ x0 8 (i64 8) h22 fun h30=>S241_j2 x0 v8 v9 h30 K) (S241_j2 x0 v8 v9 h22 K)) (S241_j2 x0 v8 v9 h22 K)) (ei_ x28 (i64 3) (S241_j3 x0 x1 x2 x28 (.bool true) h K) (bnd (eqI x28 (i64 11)) fun b32=>
 S241_j3 x0 x1 x2 x28 (.bool b32) h K))
def S241(a0 a1 a2:VV)(h:GH)(K:CC):Prop:=
 lf_ a0 8 h fun v3=>ei_ v3 (i64 2) (S241_j1 a0 a1 a2 v3 (.bool true) h K) (bnd (eqI v3 (i64 10)) fun b5=>S241_j1 a0 a1 a2 v3 (.bool b5) h K)
def A241:Ann:=⟨fun | 11=> ((.range 12), [0,0,2,6,14,30,62,126,254,510,15,2047]) | _=> ([], []),fun _=> []⟩
theorem S241_T{a0 a1 a2:VV}{h}{K}(g:S241 a0 a1 a2 h K):T Pg 241 [a0,a1,a2] h K:=gwT A241 Tryz.func241 g
def S242(a0:VV)(h:GH)(K:CC):Prop:=
 Lfp (fun (s1:Nat→Value) h2 again3=>bi_ .lss (s1 1) (i64 16) (bnd (ncV (s1 0)) fun v5=>bnd (faV 16 v5) fun v6=>bnd (iaV 16 1 v6 (s1 1)) fun v7=>bnd (ldV 1 false v7 h2) fun v8=>T Pg 256 [v8] h2 fun v9 h10=>ni_ v9 (K (.bool false) h10) (bnd (ncV (s1 0)) fun v12=>bnd (faV 32 v12) fun v13=>bnd (iaV 16 1 v13 (s1 1)) fun v14=>bnd (ldV 1 false v14 h10) fun v15=>T Pg 256 [v15] h10 fun v16 h17=>ni_ v16 (K (.bool false) h17) (bnd (binV .add (s1 1) (i64 1)) fun v19=>again3 (tup [(s1 0),v19]) h17))) (K (.bool true) h2)) (tup [a0,i64 0]) h
def A242:Ann:=⟨fun _=> ([], []),fun | 0=> [0,4] | _=> []⟩
theorem S242_T{a0:VV}{h}{K}(g:S242 a0 h K):T Pg 242 [a0] h K:=gwT A242 Tryz.func242 g
def S243_j1(x2 x3 x4:VV)(h:GH)(K:CC) :Prop:=
 bnd (ldV 48 true x2 h) fun v1=>bnd (fillV (List.replicate 16 (.bool false) ++ List.replicate 32 (i64 0) ++ [.nilIface]) [(0,48,v1)]) fun c2=>newV 372 ((.agg c2.toArray):VV).cells.toList h fun v3 h4=>bnd (fillV [nP_] [(0,1,v3)]) fun c5=>newV 374 [nP_] h4 fun v6 h7=>bnd (stV 1 v6 (.agg c5.toArray) h7) fun h8=>lg_ x3 0 h8 fun v10=>ei_ v10 (i64 9) (T Pg 257 [i64 2] h8 fun v12 h13=>newV 122 [i64 0,i64 0] h13 fun v14 h15=>bnd (stV 2 v14 v12 h15) fun h16=>bnd (ldV 1 true v6 h16) fun v17=>T Pg 258 [v17,(.int .i64 (-1)),i64 0] h16 fun v18 h19=>
 en_ v18 (.int .i64 (-1)) (T Pg 259 [v18] h19 fun v21 h22=>bnd (stV 2 v14 v21 h22) fun h23=>bnd (ldV 2 true v14 h23) fun v24=>T Pg 260 [v3,x2,v24] h23 fun v25 h26=>bnd (stV 50 x4 v25 h26) fun h27=>bnd (ldV 50 true x4 h27) fun v28=>K (.tuple #[v28,i64 0]) h27) (bnd (ldV 2 true v14 h19) fun v29=>T Pg 260 [v3,x2,v29] h19 fun v30 h31=>bnd (stV 50 x4 v30 h31) fun h32=>bnd (ldV 50 true x4 h32) fun v33=>K (.tuple #[v33,i64 0]) h32)) (nmpV h8 fun v34 h35=>bnd (mupV .i64 v34 (i64 6) (.func (.func 261) #[] #[]) h35) fun h36=>
 bnd (mupV .i64 v34 (i64 7) (.func (.func 262) #[] #[]) h36) fun h37=>bnd (mupV .i64 v34 (i64 8) (.func (.func 263) #[] #[]) h37) fun h38=>bnd (mupV .i64 v34 (i64 10) (.func (.func 264) #[] #[]) h38) fun h39=>bnd (faV 0 x3) fun v40=>bnd (ldV 1 false v40 h39) fun v41=>bnd (mlkV .i64 v34 v41 h39) fun v42=>bnd (ldV 1 true v6 h39) fun v43=>lg_ x3 1 h39 fun v45=>T Pg 265 [v43,v45] h39 fun v46 h47=>mlkV .i64 v34 v41 h47=some v42∧ldV 1 false v40 h47=some v41∧callV Pg v42 [v46,x3] h47 fun v48 h49=>newV 122 [i64 0,i64 0] h49 fun v50 h51=>
 bnd (stV 2 v50 v48 h51) fun h52=>bnd (ldV 2 true v50 h52) fun v53=>T Pg 260 [v3,x2,v53] h52 fun v54 h55=>bnd (stV 50 x4 v54 h55) fun h56=>bnd (ldV 50 true x4 h56) fun v57=>K (.tuple #[v57,i64 0]) h56)
def S243(a0 a1:VV)(h:GH)(K:CC):Prop:=
 newV 255 (a0:VV).cells.toList h fun v1 h2=>newV 24 (a1:VV).cells.toList h2 fun v3 h4=>newV 298 ([i64 0] ++ List.replicate 16 (.bool false) ++ List.replicate 32 (i64 0) ++ [nS_]) h4 fun v5 h6=>T Pg 242 [v1] h6 fun v7 h8=>ni_ v7 (bnd (fillV ([i64 0] ++ List.replicate 16 (.bool false) ++ List.replicate 32 (i64 0) ++ [nS_]) []) fun c10=>bnd (stV 50 v5 (.agg c10.toArray) h8) fun h11=>bnd (ldV 50 true v5 h11) fun v12=>K (.tuple #[v12,i64 600]) h11) (T Pg 127 [v3] h8 fun v13 h14=>ni_ v13 (
 bnd (fillV ([i64 0] ++ List.replicate 16 (.bool false) ++ List.replicate 32 (i64 0) ++ [nS_]) []) fun c16=>bnd (stV 50 v5 (.agg c16.toArray) h14) fun h17=>bnd (ldV 50 true v5 h17) fun v18=>K (.tuple #[v18,i64 600]) h17) (lg_ v3 0 h14 fun v20=>T Pg 110 [v20] h14 fun v21 h22=>ifV v21 (bnd (fillV ([i64 0] ++ List.replicate 16 (.bool false) ++ List.replicate 32 (i64 0) ++ [nS_]) []) fun c23=>bnd (stV 50 v5 (.agg c23.toArray) h22) fun h24=>bnd (ldV 50 true v5 h24) fun v25=>K (.tuple #[v25,i64 600]) h24) (S243_j1 v1 v3 v5 h22 K)))
def A243:Ann:=⟨fun | 12=> ((.range 11), [0,0,2,7,0,0,32,112,255,0,1023]) | _=> ([], []),fun _=> []⟩
theorem S243_T{a0 a1:VV}{h}{K}(g:S243 a0 a1 h K):T Pg 243 [a0,a1] h K:=gwT A243 Tryz.func243 g
def S244_j1(x2 x3 x4:VV)(h:GH)(K:CC) :Prop:=
 bnd (fillV [.nilFunc, .nilFunc, .nilFunc, .nilFunc, .nilFunc, .nilFunc] [(0,1,(.func (.func 266) #[] #[])),(1,1,(.func (.func 267) #[] #[])),(2,1,(.func (.func 268) #[] #[])),(3,1,(.func (.func 269) #[] #[])),(4,1,(.func (.func 270) #[] #[])),(5,1,(.func (.func 271) #[] #[]))]) fun c1=>newV 382 [.nilFunc, .nilFunc, .nilFunc, .nilFunc, .nilFunc, .nilFunc] h fun v2 h3=>bnd (stV 6 v2 (.agg c1.toArray) h3) fun h4=>bnd (ldV 48 true x2 h4) fun v5=>bnd (fillV (List.replicate 16 (.bool false) ++ List.replicate 32 (i64 0) ++ [.nilIface]) [(0,48,v5)]) fun c6=>
 newV 372 ((.agg c6.toArray):VV).cells.toList h4 fun v7 h8=>lg_ x3 0 h8 fun v10=>bnd (iaV 6 1 v2 v10) fun v11=>bnd (ldV 1 false v11 h8) fun v12=>callV Pg v12 [v7,x3] h8 fun v13 h14=>newV 122 [i64 0,i64 0] h14 fun v15 h16=>bnd (stV 2 v15 v13 h16) fun h17=>bnd (ldV 2 true v15 h17) fun v18=>T Pg 260 [v7,x2,v18] h17 fun v19 h20=>bnd (stV 50 x4 v19 h20) fun h21=>bnd (ldV 50 true x4 h21) fun v22=>K (.tuple #[v22,i64 0]) h21
def S244(a0 a1:VV)(h:GH)(K:CC):Prop:=
 newV 255 (a0:VV).cells.toList h fun v1 h2=>newV 24 (a1:VV).cells.toList h2 fun v3 h4=>newV 298 ([i64 0] ++ List.replicate 16 (.bool false) ++ List.replicate 32 (i64 0) ++ [nS_]) h4 fun v5 h6=>T Pg 242 [v1] h6 fun v7 h8=>ni_ v7 (bnd (fillV ([i64 0] ++ List.replicate 16 (.bool false) ++ List.replicate 32 (i64 0) ++ [nS_]) []) fun c10=>bnd (stV 50 v5 (.agg c10.toArray) h8) fun h11=>bnd (ldV 50 true v5 h11) fun v12=>K (.tuple #[v12,i64 500]) h11) (T Pg 127 [v3] h8 fun v13 h14=>ni_ v13 (
 bnd (fillV ([i64 0] ++ List.replicate 16 (.bool false) ++ List.replicate 32 (i64 0) ++ [nS_]) []) fun c16=>bnd (stV 50 v5 (.agg c16.toArray) h14) fun h17=>bnd (ldV 50 true v5 h17) fun v18=>K (.tuple #[v18,i64 500]) h17) (lg_ v3 0 h14 fun v20=>T Pg 110 [v20] h14 fun v21 h22=>ni_ v21 (bnd (fillV ([i64 0] ++ List.replicate 16 (.bool false) ++ List.replicate 32 (i64 0) ++ [nS_]) []) fun c24=>bnd (stV 50 v5 (.agg c24.toArray) h22) fun h25=>bnd (ldV 50 true v5 h25) fun v26=>K (.tuple #[v26,i64 500]) h25) (S244_j1 v1 v3 v5 h22 K)))
theorem S244_T{a0 a1:VV}{h}{K}(g:S244 a0 a1 h K):T Pg 244 [a0,a1] h K:=gwT aN_ Tryz.func244 g
def S245(a0 a1 a2:VV)(h:GH)(K:CC):Prop:=
 T Pg 131 [a0] h fun v1 h2=>ni_ v1 (K (.tuple #[nP_,i64 1500]) h2) (T Pg 75 [a1,i64 1048576] h2 fun v4 h5=>ni_ v4 (K (.tuple #[nP_,i64 1500]) h5) (T Pg 75 [a2,i64 16] h5 fun v7 h8=>ni_ v7 (K (.tuple #[nP_,i64 1500]) h8) (bnd (fillV [i64 0,i64 0,i64 0,i64 0,nP_,i64 0,i64 0,(.bool false)] [(0,1,a0),(1,1,a1),(2,1,a2),(5,1,(.int .i64 (-1)))]) fun c10=>newV 384 ((.agg c10.toArray):VV).cells.toList h8 fun v11 h12=>K (.tuple #[v11,i64 0]) h12)))
theorem S245_T{a0 a1 a2:VV}{h}{K}(g:S245 a0 a1 a2 h K):T Pg 245 [a0,a1,a2] h K:=gwT aN_ Tryz.func245 g
def S246_j1(x0 x1 x2:VV)(h:GH)(K:CC) :Prop:=
 T Pg 137 [x0] h fun v1 h2=>T Pg 138 [x1,i64 0] h2 fun v3 h4=>bnd (lnV x2) fun v5=>T Pg 78 [v5] h4 fun v6 h7=>bsV 3 2 [i64 0,i64 0] [(0,1,v3),(1,1,v6)] h7 fun v8 h9=>bnd (fillV [i64 0,nS_] [(0,1,v1),(1,1,v8)]) fun c10=>newV 386 ((.agg c10.toArray):VV).cells.toList h9 fun v11 h12=>bnd (lnV x2) fun v13=>Lfp (fun (s14:Nat→Value) h15 again16=>bi_ .lss (s14 3) (s14 2) (bnd (isV 3 (s14 1) (s14 3)) fun v18=>bnd (ldV 3 true v18 h15) fun v19=>newV 340 [i64 0,i64 0,i64 0] h15 fun v20 h21=>bnd (stV 3 v20 v19 h21) fun h22=>bnd (ncV (s14 0)) fun v23=>
 bnd (faV 1 v23) fun v24=>bnd (ldV 1 false v24 h22) fun v25=>lg_ v20 0 h22 fun v27=>bnd (faV 1 v20) fun v28=>bnd (ldV 1 false v28 h22) fun v29=>bnd (faV 2 v20) fun v30=>bnd (ldV 1 false v30 h22) fun v31=>T Pg 78 [v27] h22 fun v32 h33=>ldV 1 false v30 h33=some v31∧ldV 1 false v28 h33=some v29∧ldV 1 false v24 h33=some v25∧T Pg 78 [v29] h33 fun v34 h35=>ldV 1 false v30 h35=some v31∧ldV 1 false v24 h35=some v25∧T Pg 78 [v31] h35 fun v36 h37=>ldV 1 false v24 h37=some v25∧bsV 3 3 [i64 0,i64 0,i64 0] [(0,1,v32),(1,1,v34),(2,1,v36)] h37 fun v38 h39=>
 apV 3 1 8 v25 v38 h39 fun v40 h41=>sf_ (s14 0) 1 v40 h41 fun h44=>bnd (binV .add (s14 3) (i64 1)) fun v45=>again16 (tup [(s14 0),(s14 1),(s14 2),v45]) h44) (K (.tuple #[(s14 0),i64 0]) h15)) (tup [v11,x2,v13,i64 0]) h12
def S246(a0 a1 a2:VV)(h:GH)(K:CC):Prop:=
 T Pg 221 [a0,a1] h fun v1 h2=>ni_ v1 (K (.tuple #[nP_,i64 1300]) h2) (T Pg 272 [a2] h2 fun v4 h5=>ni_ v4 (K (.tuple #[nP_,i64 1300]) h5) (S246_j1 a0 a1 a2 h5 K))
def A246:Ann:=⟨fun | 7=> ([0,1,2,3,4,5,6,8,9,11,12,7,10,13,14,15,16,17,18], [0,0,2,6,14,0,32,96,0,256,992,0,2048,8160,16352,32766,65535,131071,262143]) | _=> ([], []),fun | 0=> [8,30,31,32] | _=> []⟩
theorem S246_T{a0 a1 a2:VV}{h}{K}(g:S246 a0 a1 a2 h K):T Pg 246 [a0,a1,a2] h K:=gwT A246 Tryz.func246 g
def S247(a0:VV)(h:GH)(K:CC):Prop:=
 newV 255 (a0:VV).cells.toList h fun v1 h2=>bnd (faV 0 v1) fun v3=>bnd (ldV 16 true v3 h2) fun v4=>Lfp (fun (s5:Nat→Value) h6 again7=>bi_ .lss (s5 3) (i64 16) (bnd (ixV 16 1 false (s5 2) (s5 3)) fun v9=>ifV v9 (bnd (faV 16 (s5 0)) fun v10=>bnd (iaV 16 1 v10 (s5 3)) fun v11=>bnd (ldV 1 false v11 h6) fun v12=>bnd (faV 32 (s5 0)) fun v13=>bnd (iaV 16 1 v13 (s5 3)) fun v14=>bnd (ldV 1 false v14 h6) fun v15=>bnd (fillV [i64 0,i64 0,i64 0] [(0,1,(s5 3)),(1,1,v12),(2,1,v15)]) fun c16=>
 bsV 340 1 [i64 0,i64 0,i64 0] [(0,3,(.agg c16.toArray))] h6 fun v17 h18=>apV 340 3 24 (s5 1) v17 h18 fun v19 h20=>bnd (binV .add (s5 3) (i64 1)) fun v21=>again7 (tup [(s5 0),v19,(s5 2),v21]) h20) (bnd (binV .add (s5 3) (i64 1)) fun v22=>again7 (tup [(s5 0),(s5 1),(s5 2),v22]) h6)) (K (s5 1) h6)) (tup [v1,nS_,v4,i64 0]) h2
def A247:Ann:=⟨fun | 6=> ((.range 14), [0,0,0,0,12,28,0,0,192,448,1022,2046,4095,8191]) | _=> ([], []),fun | 0=> [1,3,7,8] | _=> []⟩
theorem S247_T{a0:VV}{h}{K}(g:S247 a0 h K):T Pg 247 [a0] h K:=gwT A247 Tryz.func247 g
def S248(a0:VV)(h:GH)(K:CC):Prop:=
 bnd (eqK .ptr true a0 nP_) fun b1=>ifV (.bool b1) (K (i64 0) h) (lf_ a0 3 h fun v4=>K v4 h)
theorem S248_T{a0:VV}{h}{K}(g:S248 a0 h K):T Pg 248 [a0] h K:=gwT aN_ Tryz.func248 g
def S249(a0:VV)(h:GH)(K:CC):Prop:=
 lf_ a0 2 h fun v3=>K v3 h
theorem S249_T{a0:VV}{h}{K}(g:S249 a0 h K):T Pg 249 [a0] h K:=gwT aN_ Tryz.func249 g
def S250(a0 a1:VV)(h:GH)(K:CC):Prop:=
 bnd (taV 277 (.agg #[i64 0,i64 0,i64 0,i64 0,i64 0]) true a0) fun v1=>bnd (exV v1 1) fun v2=>bnd (exV v1 0) fun v3=>ifV v2 (newV 277 [i64 0,i64 0,i64 0,i64 0,i64 0] h fun v4 h5=>bnd (stV 5 v4 v3 h5) fun h6=>bnd (faV 0 v4) fun v7=>bnd (ldV 2 true v7 h6) fun v8=>bnd (fillV [i64 0,i64 0,i64 0,i64 0,(.bool false),(.bool false)] [(0,2,v8)]) fun c9=>bnd (ldV 5 true v4 h6) fun v10=>
 bnd (fillV [i64 0,i64 0,i64 0,i64 0,(.bool false),(.bool false),i64 0,i64 0,i64 0,i64 0,i64 0,i64 0] [(0,6,(.agg c9.toArray)),(6,5,v10)]) fun c11=>newV 391 ((.agg c11.toArray):VV).cells.toList h6 fun v12 h13=>K (.iface 387 v12) h13) (bnd (taV 133 (.agg #[i64 0,i64 0]) true a0) fun v14=>bnd (exV v14 1) fun v15=>bnd (exV v14 0) fun v16=>ifV v15 (newV 133 [i64 0,i64 0] h fun v17 h18=>bnd (stV 2 v17 v16 h18) fun h19=>bnd (ldV 2 true v17 h19) fun v20=>
 bnd (fillV [i64 0,i64 0,i64 0,i64 0,(.bool false),(.bool false)] [(0,2,v20)]) fun c21=>bnd (fillV [i64 0,i64 0,i64 0,i64 0,(.bool false),(.bool false),nP_,i64 0,i64 0,i64 0,i64 0, .nilIface,i64 0] [(0,6,(.agg c21.toArray)),(6,1,a1),(7,1,(i64 1))]) fun c22=>newV 394 ((.agg c22.toArray):VV).cells.toList h19 fun v23 h24=>K (.iface 392 v23) h24) (K .nilIface h))
theorem S250_T{a0 a1:VV}{h}{K}(g:S250 a0 a1 h K):T Pg 250 [a0,a1] h K:=gwT aN_ Tryz.func250 g
def S251_j2(x1:VV)(h:GH)(K:CC) :Prop:=
 Lfp (fun (s1:Nat→Value) h2 again3=>bi_ .lss (s1 2) (s1 0) (bi_ .lss (s1 1) (i64 8) (bnd (binV .mul (s1 1) (i64 2)) fun v6=>bnd (binV .add (s1 2) (i64 1)) fun v7=>again3 (tup [(s1 0),v6,v7]) h2) (bnd (mmV false (s1 1) [i64 8]) fun v8=>K (.tuple #[v8,i64 0]) h2)) (bnd (mmV false (s1 1) [i64 8]) fun v9=>K (.tuple #[v9,i64 0]) h2)) (tup [x1,i64 1,i64 1]) h
def S251_j1(x0 x1 x8:VV)(h:GH)(K:CC) :Prop:=
 ifV x8 (K (.tuple #[i64 0,i64 1600]) h) (ni_ x0 (K (.tuple #[i64 0,i64 0]) h) (ei_ x1 (i64 0) (K (.tuple #[i64 0,i64 0]) h) (S251_j2 x1 h K)))
def S251(a0 a1:VV)(h:GH)(K:CC):Prop:=
 bi_ .lss a1 (i64 0) (S251_j1 a0 a1 (.bool true) h K) (bnd (binV .gtr a1 (i64 16)) fun v2=>S251_j1 a0 a1 v2 h K)
def A251:Ann:=⟨fun _=> ([], []),fun | 1=> [1,6,7] | _=> []⟩
theorem S251_T{a0 a1:VV}{h}{K}(g:S251 a0 a1 h K):T Pg 251 [a0,a1] h K:=gwT A251 Tryz.func251 g
def S252(a0:VV)(h:GH)(K:CC):Prop:=
 bnd (eqK .ptr true a0 nP_) fun b1=>ifV (.bool b1) (K nS_ h) (lf_ a0 60 h fun v4=>T Pg 81 [v4] h fun v5 h6=>K v5 h6)
theorem S252_T{a0:VV}{h}{K}(g:S252 a0 h K):T Pg 252 [a0] h K:=gwT aN_ Tryz.func252 g
def S253(a0:VV)(h:GH)(K:CC):Prop:=
 newV 24 (a0:VV).cells.toList h fun v1 h2=>lg_ v1 0 h2 fun v4=>bnd (binV .leq v4 (i64 5)) fun v5=>K v5 h2
theorem S253_T{a0:VV}{h}{K}(g:S253 a0 h K):T Pg 253 [a0] h K:=gwT aN_ Tryz.func253 g
def S254_j2(x0 x3 x4 x7 x8:VV)(h:GH)(K:CC) :Prop:=
 bnd (binV .sub x7 (i64 1)) fun v1=>bnd (binV .sub x8 (i64 1)) fun v2=>lg_ x3 0 h fun v4=>ei_ v4 (i64 1) (lg_ x3 1 h fun v7=>T Pg 276 [x0,v7,i64 0] h fun v8 h9=>T Pg 274 [v1] h9 fun v10 h11=>bnd (stV 2 x4 v10 h11) fun h12=>bnd (ldV 2 true x4 h12) fun v13=>K v13 h12) (ei_ v4 (i64 2) (lg_ x3 3 h fun v16=>bnd (binV .add v1 v16) fun v17=>bi_ .gtr v17 (i64 1048575) (T Pg 275 [i64 4] h fun v19 h20=>bnd (stV 2 x4 v19 h20) fun h21=>bnd (ldV 2 true x4 h21) fun v22=>K v22 h21) (lg_ x3 1 h fun v24=>lg_ x3 3 h fun v26=>bnd (binV .add v1 v26) fun v27=>
 bnd (binV .add v27 (i64 1)) fun v28=>T Pg 276 [x0,v24,v28] h fun v29 h30=>lg_ x3 3 h30 fun v32=>bnd (binV .add v1 v32) fun v33=>T Pg 274 [v33] h30 fun v34 h35=>bnd (stV 2 x4 v34 h35) fun h36=>bnd (ldV 2 true x4 h36) fun v37=>K v37 h36)) (lg_ x3 3 h fun v39=>bi_ .lss v1 v39 (T Pg 275 [i64 3] h fun v41 h42=>bnd (stV 2 x4 v41 h42) fun h43=>bnd (ldV 2 true x4 h43) fun v44=>K v44 h43) (lg_ x3 0 h fun v46=>ei_ v46 (i64 3) (lg_ x3 1 h fun v49=>lg_ x3 3 h fun v51=>bnd (binV .sub v1 v51) fun v52=>bnd (binV .add v52 (i64 1)) fun v53=>T Pg 276 [x0,v49,v53] h fun v54 h55=>
 lg_ x3 3 h55 fun v57=>bnd (binV .sub v1 v57) fun v58=>T Pg 274 [v58] h55 fun v59 h60=>bnd (stV 2 x4 v59 h60) fun h61=>bnd (ldV 2 true x4 h61) fun v62=>K v62 h61) (lg_ x3 1 h fun v64=>lg_ x3 2 h fun v66=>ei_ v64 v66 (T Pg 274 [v1] h fun v68 h69=>bnd (stV 2 x4 v68 h69) fun h70=>bnd (ldV 2 true x4 h70) fun v71=>K v71 h70) (lg_ x3 3 h fun v73=>bnd (binV .add v2 v73) fun v74=>bi_ .gtr v74 (i64 1048575) (T Pg 275 [i64 4] h fun v76 h77=>bnd (stV 2 x4 v76 h77) fun h78=>bnd (ldV 2 true x4 h78) fun v79=>K v79 h78) (lg_ x3 1 h fun v81=>lg_ x3 3 h fun v83=>bnd (binV .sub v1 v83) fun v84=>
 bnd (binV .add v84 (i64 1)) fun v85=>T Pg 276 [x0,v81,v85] h fun v86 h87=>lg_ x3 2 h87 fun v89=>lg_ x3 3 h87 fun v91=>bnd (binV .add v2 v91) fun v92=>bnd (binV .add v92 (i64 1)) fun v93=>T Pg 276 [x0,v89,v93] h87 fun v94 h95=>lg_ x3 3 h95 fun v97=>bnd (binV .sub v1 v97) fun v98=>T Pg 274 [v98] h95 fun v99 h100=>bnd (stV 2 x4 v99 h100) fun h101=>bnd (ldV 2 true x4 h101) fun v102=>K v102 h101))))))
def S254_j1(x0 x3 x4 x7 x8:VV)(h:GH)(K:CC) :Prop:=
 ei_ x7 (i64 0) (T Pg 275 [i64 2] h fun v2 h3=>bnd (stV 2 x4 v2 h3) fun h4=>bnd (ldV 2 true x4 h4) fun v5=>K v5 h4) (ei_ x8 (i64 0) (T Pg 275 [i64 2] h fun v7 h8=>bnd (stV 2 x4 v7 h8) fun h9=>bnd (ldV 2 true x4 h9) fun v10=>K v10 h9) (S254_j2 x0 x3 x4 x7 x8 h K))
def S254(a0 a1:VV)(h:GH)(K:CC):Prop:=
 newV 24 (a1:VV).cells.toList h fun v1 h2=>newV 122 [i64 0,i64 0] h2 fun v3 h4=>lg_ v1 0 h4 fun v6=>ei_ v6 (i64 5) (Lfp (fun (s8:Nat→Value) h9 again10=>bi_ .lss (s8 3) (i64 4) (T Pg 273 [(s8 0),(s8 3)] h9 fun v12 h13=>bnd (binV .sub v12 (i64 1)) fun v14=>bnd (mmV true (i64 0) [v14]) fun v15=>bnd (binV .add (s8 2) v15) fun v16=>bnd (binV .add (s8 3) (i64 1)) fun v17=>again10 (tup [(s8 0),(s8 1),v16,v17]) h13) (T Pg 274 [(s8 2)] h9 fun v18 h19=>bnd (stV 2 (s8 1) v18 h19) fun h20=>bnd (ldV 2 true (s8 1) h20) fun v21=>
 K v21 h20)) (tup [a0,v3,i64 0,i64 0]) h4) (lg_ v1 1 h4 fun v23=>T Pg 273 [a0,v23] h4 fun v24 h25=>lg_ v1 0 h25 fun v27=>ei_ v27 (i64 0) (bi_ .gtr v24 (i64 0) (T Pg 275 [i64 1] h25 fun v30 h31=>bnd (stV 2 v3 v30 h31) fun h32=>bnd (ldV 2 true v3 h32) fun v33=>K v33 h32) (lg_ v1 1 h25 fun v35=>lg_ v1 3 h25 fun v37=>bnd (binV .add (i64 1) v37) fun v38=>T Pg 276 [a0,v35,v38] h25 fun v39 h40=>lg_ v1 3 h40 fun v42=>T Pg 274 [v42] h40 fun v43 h44=>bnd (stV 2 v3 v43 h44) fun h45=>bnd (ldV 2 true v3 h45) fun v46=>K v46 h45)) (lg_ v1 0 h25 fun v48=>
 ei_ v48 (i64 4) (lg_ v1 2 h25 fun v51=>T Pg 273 [a0,v51] h25 fun v52 h53=>S254_j1 a0 v1 v3 v24 v52 h53 K) (S254_j1 a0 v1 v3 v24 (i64 1) h25 K)))
def A254:Ann:=⟨fun _=> ([], []),fun | 0=> [0,4,5,6] | _=> []⟩
theorem S254_T{a0 a1:VV}{h}{K}(g:S254 a0 a1 h K):T Pg 254 [a0,a1] h K:=gwT A254 Tryz.func254 g
end Go.Proofs.YtfphpafkhljncaaGreat
