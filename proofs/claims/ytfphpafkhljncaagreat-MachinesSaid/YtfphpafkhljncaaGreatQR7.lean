/- Several texts in one; nothing here is a statement on the program. -/
import Derived.Test.YtfphpafkhljncaaGreatQR2
import Derived.Test.YtfphpafkhljncaaGreatProg
import Derived.KernelRfl
set_option linter.unusedVariables false
set_option linter.unusedSimpArgs false
namespace Go.Proofs.YtfphpafkhljncaaGreat
open Go GW Go.Proofs
set_option maxRecDepth 100000
def S255_j1(s44:Nat→Value)(x0 x3 x4 x8 x9:VV)(h:GH)(K:CC)(again46:(Nat→VV)→GH→Prop):Prop:=
 bnd (cvV .u64 x8) fun v1=>bnd (binV .shl (i64 1) v1) fun v2=>bnd (binV .or x9 v2) fun v3=>T Pg 277 [x0,x8,i64 0] h fun v4 h5=>again46 (tup [x0,x3,x4,v4,v3]) h5
def S255(a0 a1:VV)(h:GH)(K:CC):Prop:=
 newV 24 (a1:VV).cells.toList h fun v1 h2=>newV 122 [i64 0,i64 0] h2 fun v3 h4=>lg_ v1 0 h4 fun v6=>ei_ v6 (i64 9) (T Pg 277 [a0,(.int .i64 (-1)),i64 0] h4 fun v8 h9=>bi_ .lss v8 (i64 0) (T Pg 275 [i64 2] h9 fun v11 h12=>bnd (stV 2 v3 v11 h12) fun h13=>bnd (ldV 2 true v3 h13) fun v14=>K v14 h13) (T Pg 274 [v8] h9 fun v15 h16=>bnd (stV 2 v3 v15 h16) fun h17=>bnd (ldV 2 true v3 h17) fun v18=>K v18 h17)) (lg_ v1 1 h4 fun v20=>T Pg 278 [a0,(.int .i64 (-1)),v20,i64 1] h4 fun v21 h22=>lg_ v1 1 h22 fun v24=>
 T Pg 278 [a0,v21,v24,i64 0] h22 fun v25 h26=>T Pg 277 [a0,v25,i64 0] h26 fun v27 h28=>lg_ v1 0 h28 fun v30=>ei_ v30 (i64 8) (lg_ v1 1 h28 fun v33=>ei_ v27 v33 (T Pg 274 [i64 1] h28 fun v35 h36=>bnd (stV 2 v3 v35 h36) fun h37=>bnd (ldV 2 true v3 h37) fun v38=>K v38 h37) (T Pg 274 [i64 0] h28 fun v39 h40=>bnd (stV 2 v3 v39 h40) fun h41=>bnd (ldV 2 true v3 h41) fun v42=>K v42 h41)) (ei_ v30 (i64 10) (Lfp (fun (s44:Nat→Value) h45 again46=>bi_ .geq (s44 3) (i64 0) (lg_ (s44 1) 2 h45 fun v49=>bi_ .leq (s44 3) v49 (
 S255_j1 s44 (s44 0) (s44 1) (s44 2) (s44 3) (s44 4) h45 K again46) (T Pg 274 [(s44 4)] h45 fun v51 h52=>bnd (stV 2 (s44 2) v51 h52) fun h53=>bnd (ldV 2 true (s44 2) h53) fun v54=>K v54 h53)) (T Pg 274 [(s44 4)] h45 fun v55 h56=>bnd (stV 2 (s44 2) v55 h56) fun h57=>bnd (ldV 2 true (s44 2) h57) fun v58=>K v58 h57)) (tup [a0,v1,v3,v27,i64 0]) h28) (ei_ v30 (i64 6) (lg_ v1 1 h28 fun v61=>ei_ v27 v61 (T Pg 275 [i64 1] h28 fun v63 h64=>bnd (stV 2 v3 v63 h64) fun h65=>bnd (ldV 2 true v3 h65) fun v66=>K v66 h65) (lg_ v1 1 h28 fun v68=>
 T Pg 279 [a0,v25,v68,i64 0] h28 fun v69 h70=>lg_ v1 3 h70 fun v72=>ei_ v72 (i64 1) (lg_ v1 1 h70 fun v75=>T Pg 279 [a0,v21,v75,i64 1] h70 fun v76 h77=>lg_ v1 1 h77 fun v79=>T Pg 274 [v79] h77 fun v80 h81=>bnd (stV 2 v3 v80 h81) fun h82=>bnd (ldV 2 true v3 h82) fun v83=>K v83 h82) (lg_ v1 1 h70 fun v85=>T Pg 274 [v85] h70 fun v86 h87=>bnd (stV 2 v3 v86 h87) fun h88=>bnd (ldV 2 true v3 h88) fun v89=>K v89 h88))) (lg_ v1 1 h28 fun v91=>en_ v27 v91 (T Pg 275 [i64 2] h28 fun v93 h94=>bnd (stV 2 v3 v93 h94) fun h95=>bnd (ldV 2 true v3 h95) fun v96=>K v96 h95) (
 lg_ v1 1 h28 fun v98=>T Pg 280 [a0,v25,v98,i64 0] h28 fun v99 h100=>bnd (faV 1 v1) fun v101=>bnd (ldV 1 false v101 h100) fun v102=>T Pg 277 [a0,v21,i64 1] h100 fun v103 h104=>ldV 1 false v101 h104=some v102∧ei_ v103 v102 (lg_ v1 1 h104 fun v107=>T Pg 280 [a0,v21,v107,i64 1] h104 fun v108 h109=>lg_ v1 1 h109 fun v111=>T Pg 274 [v111] h109 fun v112 h113=>bnd (stV 2 v3 v112 h113) fun h114=>bnd (ldV 2 true v3 h114) fun v115=>K v115 h114) (lg_ v1 1 h104 fun v117=>T Pg 274 [v117] h104 fun v118 h119=>bnd (stV 2 v3 v118 h119) fun h120=>bnd (ldV 2 true v3 h120) fun v121=>
 K v121 h120))))))
def A255:Ann:=⟨fun | 30=> ([0,1,3,4,2,5], [0,0,3,0,8,31]) | _=> ([], []),fun | 1=> [0,3,4,8,9] | _=> []⟩
theorem S255_T{a0 a1:VV}{h}{K}(g:S255 a0 a1 h K):T Pg 255 [a0,a1] h K:=gwT A255 Tryz.func255 g
def S256(a0:VV)(h:GH)(K:CC):Prop:=
 T Pg 75 [a0,i64 1099511627776] h fun v1 h2=>K v1 h2
theorem S256_T{a0:VV}{h}{K}(g:S256 a0 h K):T Pg 256 [a0] h K:=gwT aN_ Tryz.func256 g
def S257(a0:VV)(h:GH)(K:CC):Prop:=
 newV 122 [i64 0,i64 0] h fun v1 h2=>bnd (fillV [i64 0,i64 0] [(0,1,a0)]) fun c3=>bnd (stV 2 v1 (.agg c3.toArray) h2) fun h4=>bnd (ldV 2 true v1 h4) fun v5=>K v5 h4
theorem S257_T{a0:VV}{h}{K}(g:S257 a0 h K):T Pg 257 [a0] h K:=gwT aN_ Tryz.func257 g
def S258(a0 a1 a2:VV)(h:GH)(K:CC):Prop:=
 newV 374 (a0:VV).cells.toList h fun v1 h2=>bnd (ldV 1 true v1 h2) fun v3=>T Pg 281 [v3,a1,a2] h2 fun v4 h5=>bnd (binV .sub v4 (i64 1)) fun v6=>bi_ .leq v6 a1 (K (.int .i64 (-1)) h5) (bi_ .geq v6 (i64 5) (K (.int .i64 (-1)) h5) (K v6 h5))
theorem S258_T{a0 a1 a2:VV}{h}{K}(g:S258 a0 a1 a2 h K):T Pg 258 [a0,a1,a2] h K:=gwT aN_ Tryz.func258 g
def S259(a0:VV)(h:GH)(K:CC):Prop:=
 newV 122 [i64 0,i64 0] h fun v1 h2=>bnd (fillV [i64 0,i64 0] [(0,1,(i64 0)),(1,1,a0)]) fun c3=>bnd (stV 2 v1 (.agg c3.toArray) h2) fun h4=>bnd (ldV 2 true v1 h4) fun v5=>K v5 h4
theorem S259_T{a0:VV}{h}{K}(g:S259 a0 h K):T Pg 259 [a0] h K:=gwT aN_ Tryz.func259 g
def S260(a0 a1 a2:VV)(h:GH)(K:CC):Prop:=
 newV 122 (a2:VV).cells.toList h fun v1 h2=>newV 298 ([i64 0] ++ List.replicate 16 (.bool false) ++ List.replicate 32 (i64 0) ++ [nS_]) h2 fun v3 h4=>lf_ a0 48 h4 fun v7=>bnd (taV 397 (i64 0) true v7) fun v8=>x2_ v8 fun v9 v10=>ifV v10 (bnd (ncV a1) fun v11=>bnd (ldV 48 true v11 h4) fun v12=>bnd (fillV ([i64 0] ++ List.replicate 16 (.bool false) ++ List.replicate 32 (i64 0) ++ [nS_]) [(0,1,v9),(1,48,v12)]) fun c13=>bnd (stV 50 v3 (.agg c13.toArray) h4) fun h14=>bnd (ldV 50 true v3 h14) fun v15=>K v15 h14) (bnd (ncV a0) fun v16=>bnd (faV 0 v16) fun v17=>
 bnd (ldV 48 true v17 h4) fun v18=>bnd (ldV 2 true v1 h4) fun v19=>bsV 122 1 [i64 0,i64 0] [(0,2,v19)] h4 fun v20 h21=>bnd (fillV ([i64 0] ++ List.replicate 16 (.bool false) ++ List.replicate 32 (i64 0) ++ [nS_]) [(0,1,(.int .i64 (-1))),(1,48,v18),(49,1,v20)]) fun c22=>newV 298 ([i64 0] ++ List.replicate 16 (.bool false) ++ List.replicate 32 (i64 0) ++ [nS_]) h21 fun v23 h24=>bnd (stV 50 v23 (.agg c22.toArray) h24) fun h25=>lg_ v1 0 h25 fun v27=>en_ v27 (i64 0) (bnd (ncV a1) fun v29=>bnd (ldV 48 true v29 h25) fun v30=>bnd (faV 1 v23) fun v31=>
 bnd (stV 48 v31 v30 h25) fun h32=>bnd (ldV 50 true v23 h32) fun v33=>bnd (stV 50 v3 v33 h32) fun h34=>bnd (ldV 50 true v3 h34) fun v35=>K v35 h34) (bnd (ldV 50 true v23 h25) fun v36=>bnd (stV 50 v3 v36 h25) fun h37=>bnd (ldV 50 true v3 h37) fun v38=>K v38 h37))
def A260:Ann:=⟨fun | 4=> ((.range 9), [0,1,3,7,0,16,63,0,255]) | _=> ([], []),fun _=> []⟩
theorem S260_T{a0 a1 a2:VV}{h}{K}(g:S260 a0 a1 a2 h K):T Pg 260 [a0,a1,a2] h K:=gwT A260 Tryz.func260 g
def S261(a0 a1:VV)(h:GH)(K:CC):Prop:=
 newV 122 [i64 0,i64 0] h fun v1 h2=>lf_ a0 3 h2 fun v5=>lf_ a1 1 h2 fun v8=>ei_ v5 v8 (T Pg 257 [i64 1] h2 fun v10 h11=>bnd (stV 2 v1 v10 h11) fun h12=>bnd (ldV 2 true v1 h12) fun v13=>K v13 h12) (bnd (ncV a0) fun v14=>bnd (faV 0 v14) fun v15=>bnd (ldV 1 true v15 h2) fun v16=>lf_ a1 1 h2 fun v19=>lf_ a0 2 h2 fun v22=>T Pg 282 [v16,v19,v22,i64 0] h2 fun v23 h24=>lf_ a1 3 h24 fun v27=>ei_ v27 (i64 1) (bnd (ncV a0) fun v29=>bnd (faV 0 v29) fun v30=>bnd (ldV 1 true v30 h24) fun v31=>lf_ a1 1 h24 fun v34=>lf_ a0 1 h24 fun v37=>
 T Pg 282 [v31,v34,v37,i64 1] h24 fun v38 h39=>lf_ a1 1 h39 fun v42=>T Pg 259 [v42] h39 fun v43 h44=>bnd (stV 2 v1 v43 h44) fun h45=>bnd (ldV 2 true v1 h45) fun v46=>K v46 h45) (lf_ a1 1 h24 fun v49=>T Pg 259 [v49] h24 fun v50 h51=>bnd (stV 2 v1 v50 h51) fun h52=>bnd (ldV 2 true v1 h52) fun v53=>K v53 h52))
def A261:Ann:=⟨fun | 1=> ((.range 9), [0,1,3,7,0,16,48,112,255]) | 3=> ((.range 13), [0,1,3,7,0,16,48,112,0,256,768,1792,4095]) | 5=> ((.range 13), [0,1,3,7,0,16,48,112,0,256,768,1792,4095]) | _=> ([], []),fun _=> []⟩
theorem S261_T{a0 a1:VV}{h}{K}(g:S261 a0 a1 h K):T Pg 261 [a0,a1] h K:=gwT A261 Tryz.func261 g
def S262(a0 a1:VV)(h:GH)(K:CC):Prop:=
 newV 122 [i64 0,i64 0] h fun v1 h2=>lf_ a0 3 h2 fun v5=>lf_ a1 1 h2 fun v8=>en_ v5 v8 (T Pg 257 [i64 2] h2 fun v10 h11=>bnd (stV 2 v1 v10 h11) fun h12=>bnd (ldV 2 true v1 h12) fun v13=>K v13 h12) (bnd (ncV a0) fun v14=>bnd (faV 0 v14) fun v15=>bnd (ldV 1 true v15 h2) fun v16=>lf_ a1 1 h2 fun v19=>lf_ a0 2 h2 fun v22=>T Pg 283 [v16,v19,v22,i64 0] h2 fun v23 h24=>bnd (ncV a0) fun v25=>bnd (faV 0 v25) fun v26=>bnd (ldV 1 true v26 h24) fun v27=>lf_ a0 1 h24 fun v30=>bnd (ncV a1) fun v31=>bnd (faV 1 v31) fun v32=>bnd (ldV 1 false v32 h24) fun v33=>
 T Pg 258 [v27,v30,i64 1] h24 fun v34 h35=>ldV 1 false v32 h35=some v33∧ei_ v34 v33 (bnd (ncV a0) fun v37=>bnd (faV 0 v37) fun v38=>bnd (ldV 1 true v38 h35) fun v39=>lf_ a1 1 h35 fun v42=>lf_ a0 1 h35 fun v45=>T Pg 283 [v39,v42,v45,i64 1] h35 fun v46 h47=>lf_ a1 1 h47 fun v50=>T Pg 259 [v50] h47 fun v51 h52=>bnd (stV 2 v1 v51 h52) fun h53=>bnd (ldV 2 true v1 h53) fun v54=>K v54 h53) (lf_ a1 1 h35 fun v57=>T Pg 259 [v57] h35 fun v58 h59=>bnd (stV 2 v1 v58 h59) fun h60=>bnd (ldV 2 true v1 h60) fun v61=>K v61 h60))
def A262:Ann:=⟨fun | 1=> ((.range 9), [0,1,3,7,0,16,48,112,255]) | 3=> ((.range 13), [0,1,3,7,0,16,48,112,0,256,768,1792,4095]) | 4=> ([0,1,2,3,4,5,6,7,9,10,11,12,8,13], [0,1,3,7,0,16,48,112,255,0,512,1536,3584,8191]) | 5=> ((.range 13), [0,1,3,7,0,16,48,112,0,256,768,1792,4095]) | _=> ([], []),fun _=> []⟩
theorem S262_T{a0 a1:VV}{h}{K}(g:S262 a0 a1 h K):T Pg 262 [a0,a1] h K:=gwT A262 Tryz.func262 g
def S263(a0 a1:VV)(h:GH)(K:CC):Prop:=
 newV 122 [i64 0,i64 0] h fun v1 h2=>lf_ a0 3 h2 fun v5=>lf_ a1 1 h2 fun v8=>ei_ v5 v8 (T Pg 259 [i64 1] h2 fun v10 h11=>bnd (stV 2 v1 v10 h11) fun h12=>bnd (ldV 2 true v1 h12) fun v13=>K v13 h12) (T Pg 259 [i64 0] h2 fun v14 h15=>bnd (stV 2 v1 v14 h15) fun h16=>bnd (ldV 2 true v1 h16) fun v17=>K v17 h16)
def A263:Ann:=⟨fun | 1=> ((.range 9), [0,1,3,7,0,16,48,112,255]) | _=> ([], []),fun _=> []⟩
theorem S263_T{a0 a1:VV}{h}{K}(g:S263 a0 a1 h K):T Pg 263 [a0,a1] h K:=gwT A263 Tryz.func263 g
def S264_j1(s6:Nat→Value)(x0 x1 x4 x5 x6:VV)(h:GH)(K:CC)(again8:(Nat→VV)→GH→Prop):Prop:=
 bnd (binV .shl (i64 1) x6) fun v1=>bnd (binV .or x5 v1) fun v2=>bnd (ncV x0) fun v3=>bnd (faV 0 v3) fun v4=>bnd (ldV 1 true v4 h) fun v5=>T Pg 258 [v5,x6,i64 0] h fun v6 h7=>again8 (tup [x0,x1,x4,v2,v6]) h7
def S264(a0 a1:VV)(h:GH)(K:CC):Prop:=
 newV 122 [i64 0,i64 0] h fun v1 h2=>lf_ a0 3 h2 fun v5=>Lfp (fun (s6:Nat→Value) h7 again8=>en_ (s6 4) (.int .i64 (-1)) (lf_ (s6 1) 2 h7 fun v12=>bi_ .leq (s6 4) v12 (S264_j1 s6 (s6 0) (s6 1) (s6 2) (s6 3) (s6 4) h7 K again8) (T Pg 259 [(s6 3)] h7 fun v14 h15=>bnd (stV 2 (s6 2) v14 h15) fun h16=>bnd (ldV 2 true (s6 2) h16) fun v17=>K v17 h16)) (T Pg 259 [(s6 3)] h7 fun v18 h19=>bnd (stV 2 (s6 2) v18 h19) fun h20=>bnd (ldV 2 true (s6 2) h20) fun v21=>K v21 h20)) (tup [a0,a1,v1,i64 0,v5]) h2
def A264:Ann:=⟨fun _=> ([], []),fun | 0=> [0,1,4,5,6] | _=> []⟩
theorem S264_T{a0 a1:VV}{h}{K}(g:S264 a0 a1 h K):T Pg 264 [a0,a1] h K:=gwT A264 Tryz.func264 g
def S265(a0 a1:VV)(h:GH)(K:CC):Prop:=
 newV 374 (a0:VV).cells.toList h fun v1 h2=>bnd (ldV 1 true v1 h2) fun v3=>bnd (fillV [nP_,i64 0,i64 0,i64 0] [(0,1,v3)]) fun c4=>newV 400 ((.agg c4.toArray):VV).cells.toList h2 fun v5 h6=>bnd (ldV 1 true v1 h6) fun v7=>T Pg 284 [v7,a1,(.int .i64 (-1)),i64 1] h6 fun v8 h9=>sf_ v5 1 v8 h9 fun h12=>bnd (ldV 1 true v1 h12) fun v13=>lf_ v5 1 h12 fun v16=>T Pg 284 [v13,a1,v16,i64 0] h12 fun v17 h18=>sf_ v5 2 v17 h18 fun h21=>bnd (ldV 1 true v1 h21) fun v22=>lf_ v5 2 h21 fun v25=>T Pg 258 [v22,v25,i64 0] h21 fun v26 h27=>sf_ v5 3 v26 h27 fun h30=>
 K v5 h30
def A265:Ann:=⟨fun | 3=> ((.range 11), [0,0,0,0,8,24,56,126,255,511,1023]) | 4=> ((.range 10), [0,0,0,4,12,28,62,127,255,511]) | _=> ([], []),fun _=> []⟩
theorem S265_T{a0 a1:VV}{h}{K}(g:S265 a0 a1 h K):T Pg 265 [a0,a1] h K:=gwT A265 Tryz.func265 g
def S266(a0 a1:VV)(h:GH)(K:CC):Prop:=
 newV 122 [i64 0,i64 0] h fun v1 h2=>lf_ a1 1 h2 fun v5=>T Pg 285 [a0,v5] h2 fun v6 h7=>lf_ v6 2 h7 fun v10=>ifV v10 (T Pg 286 [i64 1] h7 fun v11 h12=>bnd (stV 2 v1 v11 h12) fun h13=>bnd (ldV 2 true v1 h13) fun v14=>K v14 h13) (lf_ a1 3 h7 fun v17=>T Pg 287 [v6,v17] h7 fun v18 h19=>bnd (stV 2 v1 v18 h19) fun h20=>bnd (ldV 2 true v1 h20) fun v21=>K v21 h20)
theorem S266_T{a0 a1:VV}{h}{K}(g:S266 a0 a1 h K):T Pg 266 [a0,a1] h K:=gwT aN_ Tryz.func266 g
def S267(a0 a1:VV)(h:GH)(K:CC):Prop:=
 newV 122 [i64 0,i64 0] h fun v1 h2=>lf_ a1 1 h2 fun v5=>T Pg 285 [a0,v5] h2 fun v6 h7=>lf_ v6 2 h7 fun v10=>ni_ v10 (T Pg 286 [i64 2] h7 fun v12 h13=>bnd (stV 2 v1 v12 h13) fun h14=>bnd (ldV 2 true v1 h14) fun v15=>K v15 h14) (lf_ v6 1 h7 fun v18=>T Pg 288 [a0,v18,i64 0] h7 fun v19 h20=>lf_ v6 3 h20 fun v23=>T Pg 289 [v23] h20 fun v24 h25=>bnd (stV 2 v1 v24 h25) fun h26=>bnd (ldV 2 true v1 h26) fun v27=>K v27 h26)
theorem S267_T{a0 a1:VV}{h}{K}(g:S267 a0 a1 h K):T Pg 267 [a0,a1] h K:=gwT aN_ Tryz.func267 g
def S268(a0 a1:VV)(h:GH)(K:CC):Prop:=
 newV 122 [i64 0,i64 0] h fun v1 h2=>lf_ a1 1 h2 fun v5=>T Pg 285 [a0,v5] h2 fun v6 h7=>lf_ v6 2 h7 fun v10=>ni_ v10 (T Pg 286 [i64 2] h7 fun v12 h13=>bnd (stV 2 v1 v12 h13) fun h14=>bnd (ldV 2 true v1 h14) fun v15=>K v15 h14) (lf_ v6 3 h7 fun v18=>lf_ a1 3 h7 fun v21=>bnd (binV .sub (i64 1048575) v21) fun v22=>bi_ .gtr v18 v22 (T Pg 286 [i64 4] h7 fun v24 h25=>bnd (stV 2 v1 v24 h25) fun h26=>bnd (ldV 2 true v1 h26) fun v27=>K v27 h26) (lf_ v6 3 h7 fun v30=>lf_ a1 3 h7 fun v33=>bnd (binV .add v30 v33) fun v34=>T Pg 287 [v6,v34] h7 fun v35 h36=>
 bnd (stV 2 v1 v35 h36) fun h37=>bnd (ldV 2 true v1 h37) fun v38=>K v38 h37))
def A268:Ann:=⟨fun | 4=> ((.range 11), [0,1,3,7,0,16,48,112,240,511,1023]) | 6=> ((.range 12), [0,0,2,6,14,0,32,96,224,510,1023,2047]) | _=> ([], []),fun _=> []⟩
theorem S268_T{a0 a1:VV}{h}{K}(g:S268 a0 a1 h K):T Pg 268 [a0,a1] h K:=gwT A268 Tryz.func268 g
def S269(a0 a1:VV)(h:GH)(K:CC):Prop:=
 newV 122 [i64 0,i64 0] h fun v1 h2=>lf_ a1 1 h2 fun v5=>T Pg 285 [a0,v5] h2 fun v6 h7=>lf_ v6 2 h7 fun v10=>ni_ v10 (T Pg 286 [i64 2] h7 fun v12 h13=>bnd (stV 2 v1 v12 h13) fun h14=>bnd (ldV 2 true v1 h14) fun v15=>K v15 h14) (lf_ v6 3 h7 fun v18=>lf_ a1 3 h7 fun v21=>bi_ .lss v18 v21 (T Pg 286 [i64 3] h7 fun v23 h24=>bnd (stV 2 v1 v23 h24) fun h25=>bnd (ldV 2 true v1 h25) fun v26=>K v26 h25) (lf_ v6 3 h7 fun v29=>lf_ a1 3 h7 fun v32=>bnd (binV .sub v29 v32) fun v33=>T Pg 287 [v6,v33] h7 fun v34 h35=>bnd (stV 2 v1 v34 h35) fun h36=>
 bnd (ldV 2 true v1 h36) fun v37=>K v37 h36))
def A269:Ann:=⟨fun | 4=> ((.range 10), [0,1,3,7,0,16,48,112,255,511]) | 6=> ((.range 12), [0,0,2,6,14,0,32,96,224,510,1023,2047]) | _=> ([], []),fun _=> []⟩
theorem S269_T{a0 a1:VV}{h}{K}(g:S269 a0 a1 h K):T Pg 269 [a0,a1] h K:=gwT A269 Tryz.func269 g
def S270_j2(x1 x4 x5 x6:VV)(h:GH)(K:CC) :Prop:=
 lf_ x6 3 h fun v3=>lf_ x1 3 h fun v6=>bnd (binV .add v3 v6) fun v7=>T Pg 287 [x6,v7] h fun v8 h9=>lf_ x5 3 h9 fun v12=>lf_ x1 3 h9 fun v15=>bnd (binV .sub v12 v15) fun v16=>T Pg 287 [x5,v16] h9 fun v17 h18=>bnd (stV 2 x4 v17 h18) fun h19=>bnd (ldV 2 true x4 h19) fun v20=>K v20 h19
def S270_j1(x1 x4 x5 x6 x19:VV)(h:GH)(K:CC) :Prop:=
 ifV x19 (T Pg 286 [i64 2] h fun v1 h2=>bnd (stV 2 x4 v1 h2) fun h3=>bnd (ldV 2 true x4 h3) fun v4=>K v4 h3) (lf_ x5 3 h fun v7=>lf_ x1 3 h fun v10=>bi_ .lss v7 v10 (T Pg 286 [i64 3] h fun v12 h13=>bnd (stV 2 x4 v12 h13) fun h14=>bnd (ldV 2 true x4 h14) fun v15=>K v15 h14) (lf_ x1 1 h fun v18=>lf_ x1 2 h fun v21=>ei_ v18 v21 (lf_ x5 3 h fun v25=>T Pg 289 [v25] h fun v26 h27=>bnd (stV 2 x4 v26 h27) fun h28=>bnd (ldV 2 true x4 h28) fun v29=>K v29 h28) (lf_ x6 3 h fun v32=>lf_ x1 3 h fun v35=>bnd (binV .sub (i64 1048575) v35) fun v36=>bi_ .gtr v32 v36 (
 T Pg 286 [i64 4] h fun v38 h39=>bnd (stV 2 x4 v38 h39) fun h40=>bnd (ldV 2 true x4 h40) fun v41=>K v41 h40) (S270_j2 x1 x4 x5 x6 h K))))
def S270(a0 a1:VV)(h:GH)(K:CC):Prop:=
 newV 122 [i64 0,i64 0] h fun v1 h2=>lf_ a1 1 h2 fun v5=>bnd (ncV a1) fun v6=>bnd (faV 2 v6) fun v7=>bnd (ldV 1 false v7 h2) fun v8=>T Pg 285 [a0,v5] h2 fun v9 h10=>ldV 1 false v7 h10=some v8∧T Pg 285 [a0,v8] h10 fun v11 h12=>lf_ v9 2 h12 fun v15=>ni_ v15 (S270_j1 a1 v1 v9 v11 (.bool true) h12 K) (lf_ v11 2 h12 fun v19=>bnd (unV .not v19) fun v20=>S270_j1 a1 v1 v9 v11 v20 h12 K)
def A270:Ann:=⟨fun | 1=> ([0,1,2,3,4,6,7,8,9,10,5,11,12,13], [0,0,2,6,14,31,0,0,128,384,896,2047,4095,8191]) | 4=> ((.range 10), [0,1,3,7,0,16,48,112,255,511]) | 6=> ((.range 10), [0,1,3,7,0,16,48,112,255,511]) | 8=> ((.range 11), [0,1,3,7,0,16,48,112,240,511,1023]) | 10=> ((.range 11), [0,0,2,6,14,0,32,96,224,510,1023]) | 11=> ((.range 12), [0,0,2,6,14,0,32,96,224,510,1023,2047]) | _=> ([], []),fun _=> []⟩
theorem S270_T{a0 a1:VV}{h}{K}(g:S270 a0 a1 h K):T Pg 270 [a0,a1] h K:=gwT A270 Tryz.func270 g
def S271(a0 a1:VV)(h:GH)(K:CC):Prop:=
 newV 122 [i64 0,i64 0] h fun v1 h2=>Lfp (fun (s3:Nat→Value) h4 again5=>bi_ .lss (s3 3) (i64 4) (T Pg 285 [(s3 0),(s3 3)] h4 fun v7 h8=>lf_ v7 2 h8 fun v11=>ifV v11 (lf_ v7 3 h8 fun v14=>bnd (binV .add (s3 2) v14) fun v15=>bnd (binV .add (s3 3) (i64 1)) fun v16=>again5 (tup [(s3 0),(s3 1),v15,v16]) h8) (bnd (binV .add (s3 3) (i64 1)) fun v17=>again5 (tup [(s3 0),(s3 1),(s3 2),v17]) h8)) (T Pg 289 [(s3 2)] h4 fun v18 h19=>bnd (stV 2 (s3 1) v18 h19) fun h20=>bnd (ldV 2 true (s3 1) h20) fun v21=>K v21 h20)) (tup [a0,v1,i64 0,i64 0]) h2
def A271:Ann:=⟨fun _=> ([], []),fun | 0=> [0,4,5,8] | _=> []⟩
theorem S271_T{a0 a1:VV}{h}{K}(g:S271 a0 a1 h K):T Pg 271 [a0,a1] h K:=gwT A271 Tryz.func271 g
def S272(a0:VV)(h:GH)(K:CC):Prop:=
 bnd (lnV a0) fun v1=>Lfp (fun (s2:Nat→Value) h3 again4=>bi_ .lss (s2 4) (s2 3) (bnd (isV 3 (s2 2) (s2 4)) fun v6=>bnd (ldV 3 true v6 h3) fun v7=>newV 340 [i64 0,i64 0,i64 0] h3 fun v8 h9=>bnd (stV 3 v8 v7 h9) fun h10=>lg_ v8 0 h10 fun v12=>bi_ .leq v12 (s2 1) (K (.bool false) h10) (lg_ v8 0 h10 fun v15=>bi_ .geq v15 (i64 16) (K (.bool false) h10) (lg_ v8 1 h10 fun v18=>T Pg 256 [v18] h10 fun v19 h20=>ni_ v19 (K (.bool false) h20) (lg_ v8 2 h20 fun v23=>T Pg 256 [v23] h20 fun v24 h25=>ni_ v24 (K (.bool false) h25) (lg_ v8 0 h25 fun v28=>
 bnd (binV .add (s2 4) (i64 1)) fun v29=>again4 (tup [(s2 0),v28,(s2 2),(s2 3),v29]) h25))))) (bnd (lnV (s2 0)) fun v30=>bnd (binV .leq v30 (i64 16)) fun v31=>K v31 h3)) (tup [a0,(.int .i64 (-1)),a0,v1,i64 0]) h
def A272:Ann:=⟨fun _=> ([], []),fun | 0=> [0,3,6,7,8] | _=> []⟩
theorem S272_T{a0:VV}{h}{K}(g:S272 a0 h K):T Pg 272 [a0] h K:=gwT A272 Tryz.func272 g
def S273(a0 a1:VV)(h:GH)(K:CC):Prop:=
 lf_ a0 48 h fun v3=>bi_ .geq v3 (i64 0) (K (i64 0) h) (bnd (ncV a0) fun v5=>bnd (faV 0 v5) fun v6=>bnd (faV 0 v6) fun v7=>bnd (iaV 16 1 v7 a1) fun v8=>bnd (ldV 1 false v8 h) fun v9=>ni_ v9 (sf_ a0 48 a1 h fun h13=>K (i64 0) h13) (bnd (ncV a0) fun v14=>bnd (faV 0 v14) fun v15=>bnd (faV 32 v15) fun v16=>bnd (iaV 16 1 v16 a1) fun v17=>bnd (ldV 1 false v17 h) fun v18=>K v18 h))
theorem S273_T{a0 a1:VV}{h}{K}(g:S273 a0 a1 h K):T Pg 273 [a0,a1] h K:=gwT aN_ Tryz.func273 g
def S274(a0:VV)(h:GH)(K:CC):Prop:=
 newV 122 [i64 0,i64 0] h fun v1 h2=>bnd (fillV [i64 0,i64 0] [(0,1,(i64 0)),(1,1,a0)]) fun c3=>bnd (stV 2 v1 (.agg c3.toArray) h2) fun h4=>bnd (ldV 2 true v1 h4) fun v5=>K v5 h4
theorem S274_T{a0:VV}{h}{K}(g:S274 a0 h K):T Pg 274 [a0] h K:=gwT aN_ Tryz.func274 g
def S275(a0:VV)(h:GH)(K:CC):Prop:=
 newV 122 [i64 0,i64 0] h fun v1 h2=>bnd (fillV [i64 0,i64 0] [(0,1,a0)]) fun c3=>bnd (stV 2 v1 (.agg c3.toArray) h2) fun h4=>bnd (ldV 2 true v1 h4) fun v5=>K v5 h4
theorem S275_T{a0:VV}{h}{K}(g:S275 a0 h K):T Pg 275 [a0] h K:=gwT aN_ Tryz.func275 g
def S276(a0 a1 a2:VV)(h:GH)(K:CC):Prop:=
 lf_ a0 48 h fun v3=>bi_ .lss v3 (i64 0) (bnd (ncV a0) fun v5=>bnd (faV 0 v5) fun v6=>bnd (faV 32 v6) fun v7=>bnd (iaV 16 1 v7 a1) fun v8=>bnd (stV 1 v8 a2 h) fun h9=>K (.tuple #[]) h9) (K (.tuple #[]) h)
theorem S276_T{a0 a1 a2:VV}{h}{K}(g:S276 a0 a1 a2 h K):T Pg 276 [a0,a1,a2] h K:=gwT aN_ Tryz.func276 g
def S277(a0 a1 a2:VV)(h:GH)(K:CC):Prop:=
 T Pg 290 [a1,a2] h fun v1 h2=>T Pg 273 [a0,v1] h2 fun v3 h4=>bnd (binV .sub v3 (i64 1)) fun v5=>bi_ .leq v5 a1 (K (.int .i64 (-1)) h4) (bi_ .geq v5 (i64 5) (K (.int .i64 (-1)) h4) (K v5 h4))
theorem S277_T{a0 a1 a2:VV}{h}{K}(g:S277 a0 a1 a2 h K):T Pg 277 [a0,a1,a2] h K:=gwT aN_ Tryz.func277 g
def S278(a0 a1 a2 a3:VV)(h:GH)(K:CC):Prop:=
 Lfp (fun (s1:Nat→Value) h2 again3=>T Pg 277 [(s1 0),(s1 1),(s1 3)] h2 fun v4 h5=>bi_ .lss v4 (i64 0) (K (s1 1) h5) (bi_ .geq v4 (s1 2) (K (s1 1) h5) (again3 (tup [(s1 0),v4,(s1 2),(s1 3)]) h5))) (tup [a0,a1,a2,a3]) h
def A278:Ann:=⟨fun _=> ([], []),fun | 0=> [0,1,2,3] | _=> []⟩
theorem S278_T{a0 a1 a2 a3:VV}{h}{K}(g:S278 a0 a1 a2 a3 h K):T Pg 278 [a0,a1,a2,a3] h K:=gwT A278 Tryz.func278 g
def S279(a0 a1 a2 a3:VV)(h:GH)(K:CC):Prop:=
 T Pg 290 [a2,a3] h fun v1 h2=>T Pg 273 [a0,v1] h2 fun v3 h4=>T Pg 290 [a2,a3] h4 fun v5 h6=>T Pg 290 [a1,a3] h6 fun v7 h8=>T Pg 273 [a0,v7] h8 fun v9 h10=>T Pg 276 [a0,v5,v9] h10 fun v11 h12=>T Pg 290 [a1,a3] h12 fun v13 h14=>bnd (binV .add a2 (i64 1)) fun v15=>T Pg 276 [a0,v13,v15] h14 fun v16 h17=>K (.tuple #[]) h17
theorem S279_T{a0 a1 a2 a3:VV}{h}{K}(g:S279 a0 a1 a2 a3 h K):T Pg 279 [a0,a1,a2,a3] h K:=gwT aN_ Tryz.func279 g
def S280(a0 a1 a2 a3:VV)(h:GH)(K:CC):Prop:=
 T Pg 290 [a1,a3] h fun v1 h2=>T Pg 290 [a2,a3] h2 fun v3 h4=>T Pg 273 [a0,v3] h4 fun v5 h6=>T Pg 276 [a0,v1,v5] h6 fun v7 h8=>T Pg 290 [a2,a3] h8 fun v9 h10=>T Pg 276 [a0,v9,i64 0] h10 fun v11 h12=>K (.tuple #[]) h12
theorem S280_T{a0 a1 a2 a3:VV}{h}{K}(g:S280 a0 a1 a2 a3 h K):T Pg 280 [a0,a1,a2,a3] h K:=gwT aN_ Tryz.func280 g
def S281(a0 a1 a2:VV)(h:GH)(K:CC):Prop:=
 newV 374 (a0:VV).cells.toList h fun v1 h2=>bnd (faV 0 v1) fun v3=>bnd (ldV 1 false v3 h2) fun v4=>T Pg 292 [a1,a2] h2 fun v5 h6=>ldV 1 false v3 h6=some v4∧T Pg 291 [v4,v5] h6 fun v7 h8=>K v7 h8
def A281:Ann:=⟨fun | 1=> ((.range 7), [0,1,0,0,12,31,63]) | _=> ([], []),fun _=> []⟩
theorem S281_T{a0 a1 a2:VV}{h}{K}(g:S281 a0 a1 a2 h K):T Pg 281 [a0,a1,a2] h K:=gwT A281 Tryz.func281 g
def S282(a0 a1 a2 a3:VV)(h:GH)(K:CC):Prop:=
 newV 374 (a0:VV).cells.toList h fun v1 h2=>bnd (ldV 1 true v1 h2) fun v3=>T Pg 281 [v3,a1,a3] h2 fun v4 h5=>bnd (ldV 1 true v1 h5) fun v6=>bnd (ldV 1 true v1 h5) fun v7=>T Pg 281 [v7,a2,a3] h5 fun v8 h9=>ldV 1 true v1 h9=some v6∧T Pg 293 [v6,a1,a3,v8] h9 fun v10 h11=>bnd (ldV 1 true v1 h11) fun v12=>bnd (binV .add a1 (i64 1)) fun v13=>T Pg 293 [v12,a2,a3,v13] h11 fun v14 h15=>K (.tuple #[]) h15
def A282:Ann:=⟨fun | 2=> ((.range 8), [0,0,0,0,0,0,56,127]) | _=> ([], []),fun _=> []⟩
theorem S282_T{a0 a1 a2 a3:VV}{h}{K}(g:S282 a0 a1 a2 a3 h K):T Pg 282 [a0,a1,a2,a3] h K:=gwT A282 Tryz.func282 g
def S283(a0 a1 a2 a3:VV)(h:GH)(K:CC):Prop:=
 newV 374 (a0:VV).cells.toList h fun v1 h2=>bnd (ldV 1 true v1 h2) fun v3=>bnd (ldV 1 true v1 h2) fun v4=>T Pg 281 [v4,a1,a3] h2 fun v5 h6=>ldV 1 true v1 h6=some v3∧T Pg 293 [v3,a2,a3,v5] h6 fun v7 h8=>bnd (ldV 1 true v1 h8) fun v9=>T Pg 293 [v9,a1,a3,i64 0] h8 fun v10 h11=>K (.tuple #[]) h11
def A283:Ann:=⟨fun | 1=> ((.range 8), [0,0,0,0,0,0,56,127]) | _=> ([], []),fun _=> []⟩
theorem S283_T{a0 a1 a2 a3:VV}{h}{K}(g:S283 a0 a1 a2 a3 h K):T Pg 283 [a0,a1,a2,a3] h K:=gwT A283 Tryz.func283 g
def S284(a0 a1 a2 a3:VV)(h:GH)(K:CC):Prop:=
 newV 374 (a0:VV).cells.toList h fun v1 h2=>bnd (ldV 1 true v1 h2) fun v3=>T Pg 258 [v3,a2,a3] h2 fun v4 h5=>Lfp (fun (s6:Nat→Value) h7 again8=>en_ (s6 4) (.int .i64 (-1)) (bi_ .lss (s6 4) (s6 0) (bnd (ldV 1 true (s6 3) h7) fun v11=>T Pg 258 [v11,(s6 4),(s6 2)] h7 fun v12 h13=>again8 (tup [(s6 0),(s6 4),(s6 2),(s6 3),v12]) h13) (K (s6 1) h7)) (K (s6 1) h7)) (tup [a1,a2,a3,v1,v4]) h5
def A284:Ann:=⟨fun _=> ([], []),fun | 0=> [1,2,3,4,9] | _=> []⟩
theorem S284_T{a0 a1 a2 a3:VV}{h}{K}(g:S284 a0 a1 a2 a3 h K):T Pg 284 [a0,a1,a2,a3] h K:=gwT A284 Tryz.func284 g
def S285(a0 a1:VV)(h:GH)(K:CC):Prop:=
 T Pg 291 [a0,a1] h fun v1 h2=>bnd (binV .gtr v1 (i64 0)) fun v3=>bnd (binV .sub v1 (i64 1)) fun v4=>bnd (fillV [nP_,i64 0,(.bool false),i64 0] [(0,1,a0),(1,1,a1),(2,1,v3),(3,1,v4)]) fun c5=>newV 404 ((.agg c5.toArray):VV).cells.toList h2 fun v6 h7=>K v6 h7
theorem S285_T{a0 a1:VV}{h}{K}(g:S285 a0 a1 h K):T Pg 285 [a0,a1] h K:=gwT aN_ Tryz.func285 g
def S286(a0:VV)(h:GH)(K:CC):Prop:=
 newV 122 [i64 0,i64 0] h fun v1 h2=>bnd (fillV [i64 0,i64 0] [(0,1,a0)]) fun c3=>bnd (stV 2 v1 (.agg c3.toArray) h2) fun h4=>bnd (ldV 2 true v1 h4) fun v5=>K v5 h4
theorem S286_T{a0:VV}{h}{K}(g:S286 a0 h K):T Pg 286 [a0] h K:=gwT aN_ Tryz.func286 g
def S287(a0 a1:VV)(h:GH)(K:CC):Prop:=
 newV 122 [i64 0,i64 0] h fun v1 h2=>lf_ a0 0 h2 fun v5=>lf_ a0 1 h2 fun v8=>bnd (binV .add a1 (i64 1)) fun v9=>T Pg 288 [v5,v8,v9] h2 fun v10 h11=>T Pg 289 [a1] h11 fun v12 h13=>bnd (stV 2 v1 v12 h13) fun h14=>bnd (ldV 2 true v1 h14) fun v15=>K v15 h14
def A287:Ann:=⟨fun | 1=> ((.range 11), [0,1,3,7,0,16,48,112,0,256,1023]) | _=> ([], []),fun _=> []⟩
theorem S287_T{a0 a1:VV}{h}{K}(g:S287 a0 a1 h K):T Pg 287 [a0,a1] h K:=gwT A287 Tryz.func287 g
def S288(a0 a1 a2:VV)(h:GH)(K:CC):Prop:=
 lf_ a0 48 h fun v3=>bnd (eqK .iface true v3 .nilIface) fun b4=>ifV (.bool b4) (bnd (ncV a0) fun v5=>bnd (faV 0 v5) fun v6=>bnd (faV 32 v6) fun v7=>bnd (iaV 16 1 v7 a1) fun v8=>bnd (stV 1 v8 a2 h) fun h9=>K (.tuple #[]) h9) (K (.tuple #[]) h)
theorem S288_T{a0 a1 a2:VV}{h}{K}(g:S288 a0 a1 a2 h K):T Pg 288 [a0,a1,a2] h K:=gwT aN_ Tryz.func288 g
def S289(a0:VV)(h:GH)(K:CC):Prop:=
 newV 122 [i64 0,i64 0] h fun v1 h2=>bnd (fillV [i64 0,i64 0] [(0,1,(i64 0)),(1,1,a0)]) fun c3=>bnd (stV 2 v1 (.agg c3.toArray) h2) fun h4=>bnd (ldV 2 true v1 h4) fun v5=>K v5 h4
theorem S289_T{a0:VV}{h}{K}(g:S289 a0 h K):T Pg 289 [a0] h K:=gwT aN_ Tryz.func289 g
def S290(a0 a1:VV)(h:GH)(K:CC):Prop:=
 bi_ .lss a0 (i64 0) (bnd (binV .add (i64 4) a1) fun v2=>K v2 h) (bnd (binV .mul (i64 2) a0) fun v3=>bnd (binV .add (i64 6) v3) fun v4=>bnd (binV .add v4 a1) fun v5=>K v5 h)
theorem S290_T{a0 a1:VV}{h}{K}(g:S290 a0 a1 h K):T Pg 290 [a0,a1] h K:=gwT aN_ Tryz.func290 g
def S291(a0 a1:VV)(h:GH)(K:CC):Prop:=
 lf_ a0 48 h fun v3=>bnd (eqK .iface true v3 .nilIface) fun b4=>ifV (.bool (!b4)) (K (i64 0) h) (bnd (ncV a0) fun v5=>bnd (faV 0 v5) fun v6=>bnd (faV 0 v6) fun v7=>bnd (iaV 16 1 v7 a1) fun v8=>bnd (ldV 1 false v8 h) fun v9=>ni_ v9 (sf_ a0 48 (.iface 397 a1) h fun h13=>K (i64 0) h13) (bnd (ncV a0) fun v14=>bnd (faV 0 v14) fun v15=>bnd (faV 32 v15) fun v16=>bnd (iaV 16 1 v16 a1) fun v17=>bnd (ldV 1 false v17 h) fun v18=>K v18 h))
theorem S291_T{a0 a1:VV}{h}{K}(g:S291 a0 a1 h K):T Pg 291 [a0,a1] h K:=gwT aN_ Tryz.func291 g
def S292(a0 a1:VV)(h:GH)(K:CC):Prop:=
 bnd (binV .sub a0 (.int .i64 (-1))) fun v1=>bnd (binV .mul (i64 2) v1) fun v2=>bnd (binV .add (i64 4) v2) fun v3=>bnd (binV .add v3 a1) fun v4=>K v4 h
theorem S292_T{a0 a1:VV}{h}{K}(g:S292 a0 a1 h K):T Pg 292 [a0,a1] h K:=gwT aN_ Tryz.func292 g
def S293(a0 a1 a2 a3:VV)(h:GH)(K:CC):Prop:=
 newV 374 (a0:VV).cells.toList h fun v1 h2=>bnd (faV 0 v1) fun v3=>bnd (ldV 1 false v3 h2) fun v4=>T Pg 292 [a1,a2] h2 fun v5 h6=>ldV 1 false v3 h6=some v4∧T Pg 288 [v4,v5,a3] h6 fun v7 h8=>K (.tuple #[]) h8
def A293:Ann:=⟨fun | 1=> ([0,1,2,3,5,4,6], [0,1,0,0,12,0,63]) | _=> ([], []),fun _=> []⟩
theorem S293_T{a0 a1 a2 a3:VV}{h}{K}(g:S293 a0 a1 a2 a3 h K):T Pg 293 [a0,a1,a2,a3] h K:=gwT A293 Tryz.func293 g
def S312(a0:VV)(h:GH)(K:CC):Prop:=
 newV 133 (a0:VV).cells.toList h fun v1 h2=>lg_ v1 1 h2 fun v4=>bnd (binV .mul v4 (i64 16)) fun v5=>lg_ v1 0 h2 fun v7=>bnd (binV .add v5 v7) fun v8=>K v8 h2
theorem S312_T{a0:VV}{h}{K}(g:S312 a0 h K):T Pg 312 [a0] h K:=gwT aN_ Tryz.func312 g
def S313(a0:VV)(h:GH)(K:CC):Prop:=
 newV 133 (a0:VV).cells.toList h fun v1 h2=>bnd (ldV 2 true v1 h2) fun v3=>T Pg 312 [v3] h2 fun v4 h5=>bnd (binV .mul v4 (i64 4)) fun v6=>bnd (binV .add v6 (i64 2)) fun v7=>K v7 h5
theorem S313_T{a0:VV}{h}{K}(g:S313 a0 h K):T Pg 313 [a0] h K:=gwT aN_ Tryz.func313 g
def S314(a0:VV)(h:GH)(K:CC):Prop:=
 newV 133 (a0:VV).cells.toList h fun v1 h2=>newV 225 [i64 0,i64 0,i64 0,i64 0,i64 0,i64 0,i64 0] h2 fun v3 h4=>lg_ v1 0 h4 fun v6=>lg_ v1 1 h4 fun v8=>bnd (fillV [i64 0,i64 0,i64 0,i64 0,i64 0,i64 0,i64 0] [(0,1,(i64 2)),(2,1,v6),(3,1,v8)]) fun c9=>bnd (stV 7 v3 (.agg c9.toArray) h4) fun h10=>bnd (ldV 7 true v3 h10) fun v11=>K v11 h10
theorem S314_T{a0:VV}{h}{K}(g:S314 a0 h K):T Pg 314 [a0] h K:=gwT aN_ Tryz.func314 g
def S315(a0:VV)(h:GH)(K:CC):Prop:=
 newV 225 [i64 0,i64 0,i64 0,i64 0,i64 0,i64 0,i64 0] h fun v1 h2=>bnd (fillV [i64 0,i64 0,i64 0,i64 0,i64 0,i64 0,i64 0] [(1,1,a0)]) fun c3=>bnd (stV 7 v1 (.agg c3.toArray) h2) fun h4=>bnd (ldV 7 true v1 h4) fun v5=>K v5 h4
theorem S315_T{a0:VV}{h}{K}(g:S315 a0 h K):T Pg 315 [a0] h K:=gwT aN_ Tryz.func315 g
def S316(a0:VV)(h:GH)(K:CC):Prop:=
 newV 277 (a0:VV).cells.toList h fun v1 h2=>bnd (faV 0 v1) fun v3=>bnd (ldV 2 true v3 h2) fun v4=>bnd (faV 2 v1) fun v5=>bnd (ldV 1 false v5 h2) fun v6=>bnd (faV 3 v1) fun v7=>bnd (ldV 1 false v7 h2) fun v8=>bnd (faV 4 v1) fun v9=>bnd (ldV 1 false v9 h2) fun v10=>T Pg 312 [v4] h2 fun v11 h12=>ldV 1 false v9 h12=some v10∧ldV 1 false v7 h12=some v8∧ldV 1 false v5 h12=some v6∧bnd (binV .mul v11 (i64 16)) fun v13=>bnd (binV .add v13 v6) fun v14=>bnd (binV .mul v14 (i64 4)) fun v15=>bnd (binV .add v15 v8) fun v16=>bnd (binV .mul v16 (i64 1048576)) fun v17=>
 bnd (binV .add v17 v10) fun v18=>bnd (binV .mul v18 (i64 4)) fun v19=>bnd (binV .add v19 (i64 1)) fun v20=>K v20 h12
def A316:Ann:=⟨fun | 1=> ([0,1,4,5,8,9,12,13,2,3,6,7,10,11,14,15,16,17], [0,1,3,7,0,16,63,127,0,256,1023,2047,0,4096,16383,32767,65535,131071]) | _=> ([], []),fun _=> []⟩
theorem S316_T{a0:VV}{h}{K}(g:S316 a0 h K):T Pg 316 [a0] h K:=gwT A316 Tryz.func316 g
def S317(a0:VV)(h:GH)(K:CC):Prop:=
 newV 277 (a0:VV).cells.toList h fun v1 h2=>newV 225 [i64 0,i64 0,i64 0,i64 0,i64 0,i64 0,i64 0] h2 fun v3 h4=>bnd (faV 0 v1) fun v5=>lg_ v5 0 h4 fun v7=>bnd (faV 0 v1) fun v8=>lg_ v8 1 h4 fun v10=>lg_ v1 2 h4 fun v12=>lg_ v1 3 h4 fun v14=>lg_ v1 4 h4 fun v16=>bnd (fillV [i64 0,i64 0,i64 0,i64 0,i64 0,i64 0,i64 0] [(0,1,(i64 1)),(2,1,v7),(3,1,v10),(4,1,v12),(5,1,v14),(6,1,v16)]) fun c17=>bnd (stV 7 v3 (.agg c17.toArray) h4) fun h18=>bnd (ldV 7 true v3 h18) fun v19=>K v19 h18
theorem S317_T{a0:VV}{h}{K}(g:S317 a0 h K):T Pg 317 [a0] h K:=gwT aN_ Tryz.func317 g
def S318(a0:VV)(h:GH)(K:CC):Prop:=
 bnd (eqK .ptr true a0 nP_) fun b1=>ifV (.bool b1) (K (i64 0) h) (lf_ a0 1 h fun v4=>K v4 h)
theorem S318_T{a0:VV}{h}{K}(g:S318 a0 h K):T Pg 318 [a0] h K:=gwT aN_ Tryz.func318 g
def S319_j3(x0 x1 x6:VV)(h:GH)(K:CC) :Prop:=
 callV Pg x6 [x1] h fun v1 h2=>en_ v1 (i64 0) (sf_ x0 7 (.bool true) h2 fun h6=>K (.tuple #[(.bool true),i64 1500]) h6) (lf_ x0 7 h2 fun v9=>K (.tuple #[v9,i64 0]) h2)
def S319_j2(x0 x1:VV)(h:GH)(K:CC) :Prop:=
 lf_ x0 4 h fun v3=>bnd (eqK .ptr true v3 nP_) fun b4=>ifV (.bool (!b4)) (S319_j3 x0 x1 (.func (.func 322) #[x0] #[]) h K) (S319_j3 x0 x1 (.func (.func 321) #[x0] #[]) h K)
def S319_j1(x0 x1 x8:VV)(h:GH)(K:CC) :Prop:=
 ifV x8 (K (.tuple #[(.bool false),i64 1]) h) (lf_ x0 7 h fun v3=>ifV v3 (K (.tuple #[(.bool true),i64 0]) h) (S319_j2 x0 x1 h K))
def S319(a0 a1:VV)(h:GH)(K:CC):Prop:=
 bnd (eqK .ptr true a0 nP_) fun b1=>ifV (.bool b1) (S319_j1 a0 a1 (.bool true) h K) (bnd (eqK .ptr true a1 nP_) fun b2=>S319_j1 a0 a1 (.bool b2) h K)
theorem S319_T{a0 a1:VV}{h}{K}(g:S319 a0 a1 h K):T Pg 319 [a0,a1] h K:=gwT aN_ Tryz.func319 g
def S320(a0:VV)(h:GH)(K:CC):Prop:=
 bnd (eqK .ptr true a0 nP_) fun b1=>ifV (.bool b1) (K (.tuple #[i64 0,i64 0]) h) (lf_ a0 5 h fun v4=>lf_ a0 6 h fun v7=>K (.tuple #[v4,v7]) h)
def A320:Ann:=⟨fun | 3=> ((.range 10), [0,1,3,7,0,16,48,112,15,511]) | _=> ([], []),fun _=> []⟩
theorem S320_T{a0:VV}{h}{K}(g:S320 a0 h K):T Pg 320 [a0] h K:=gwT A320 Tryz.func320 g
def S321(a0 a1:VV)(h:GH)(K:CC):Prop:=
 lf_ a0 2 h fun v3=>T Pg 39 [a1,v3] h fun v4 h5=>x2_ v4 fun v6 v7=>sf_ a0 5 (.int .i64 (-1)) h5 fun h10=>sf_ a0 6 (i64 0) h10 fun h13=>T Pg 136 [v6] h13 fun v14 h15=>x2_ v14 fun v16 v17=>ifV v17 (sf_ a0 3 v16 h15 fun h20=>sf_ a0 7 (.bool true) h20 fun h23=>K (i64 0) h23) (lf_ a0 0 h15 fun v26=>lf_ a0 1 h15 fun v29=>T Pg 224 [v26,v29,v6] h15 fun v30 h31=>x2_ v30 fun v32 v33=>sf_ a0 4 v32 h31 fun h36=>K v33 h36)
def A321:Ann:=⟨fun | 7=> ((.range 15), [0,1,3,7,0,16,48,112,0,511,1023,2047,2047,4095,16383]) | _=> ([], []),fun _=> []⟩
theorem S321_T{a0 a1:VV}{h}{K}(g:S321 a0 a1 h K):T Pg 321 [a0,a1] h K:=gwT A321 Tryz.func321 g
def S322(a0 a1:VV)(h:GH)(K:CC):Prop:=
 lf_ a0 4 h fun v3=>T Pg 323 [v3,a1] h fun v4 h5=>x2_ v4 fun v6 v7=>lf_ a0 4 h5 fun v10=>T Pg 324 [v10] h5 fun v11 h12=>x2_ v11 fun v13 v14=>sf_ a0 5 v13 h12 fun h17=>sf_ a0 6 v14 h17 fun h20=>lf_ a0 4 h20 fun v23=>T Pg 325 [v23] h20 fun v24 h25=>sf_ a0 1 v24 h25 fun h28=>ifV v6 (sf_ a0 4 nP_ h28 fun h31=>K v7 h31) (K v7 h28)
theorem S322_T{a0 a1:VV}{h}{K}(g:S322 a0 a1 h K):T Pg 322 [a0,a1] h K:=gwT aN_ Tryz.func322 g
def S323_j4(x0 x6 x7 x10:VV)(h:GH)(K:CC) :Prop:=
 ifV x10 (lf_ x0 2 h fun v3=>bnd (slV 1 v3 none (some x6)) fun v4=>bnd (eqI x6 (i64 0)) fun b5=>sf_ x0 2 v4 h fun h8=>sf_ x0 5 (.bool b5) h8 fun h11=>bnd (taV 392 nP_ true x7) fun v12=>x2_ v12 fun v13 v14=>lf_ x0 5 h11 fun v17=>ifV v17 (ifV v14 (bnd (ncV v13) fun v18=>bnd (faV 0 v18) fun v19=>lg_ v19 5 h11 fun v21=>sf_ x0 4 v21 h11 fun h24=>lf_ x0 5 h24 fun v27=>K (.tuple #[v27,i64 0]) h24) (sf_ x0 4 (.bool false) h11 fun h30=>lf_ x0 5 h30 fun v33=>K (.tuple #[v33,i64 0]) h30)) (sf_ x0 4 (.bool false) h11 fun h36=>lf_ x0 5 h36 fun v39=>
 K (.tuple #[v39,i64 0]) h36)) (lf_ x0 5 h fun v42=>K (.tuple #[v42,i64 0]) h)
def S323_j3(x0 x6 x7 x9 x10:VV)(h:GH)(K:CC) :Prop:=
 bnd (eqK .iface true x9 .nilIface) fun b1=>ifV (.bool (!b1)) (lf_ x0 2 h fun v4=>bsV 361 1 [.nilIface] [(0,1,x9)] h fun v5 h6=>apV 361 1 16 v4 v5 h6 fun v7 h8=>sf_ x0 2 v7 h8 fun h11=>S323_j4 x0 x6 x7 x10 h11 K) (S323_j4 x0 x6 x7 x10 h K)
def S323_j2(x0 x1:VV)(h:GH)(K:CC) :Prop:=
 lf_ x0 2 h fun v3=>bnd (lnV v3) fun v4=>bnd (binV .sub v4 (i64 1)) fun v5=>lf_ x0 2 h fun v8=>li_ v8 v5 h fun v10=>ivV Pg v10 "pawl/mcas.through" [] h fun v11 h12 =>newV 133 [i64 0,i64 0] h12 fun v13 h14=>bnd (stV 2 v13 v11 h14) fun h15=>sf_ x0 3 v13 h15 fun h18=>ivV Pg v10 "pawl/mcas.step" [x1] h18 fun v19 h20 =>x2_ v19 fun v21 v22=>bnd (exV v19 2) fun v23=>ni_ v23 (sf_ x0 5 (.bool true) h20 fun h27=>K (.tuple #[(.bool true),i64 1400]) h27) (bnd (eqK .iface true v21 .nilIface) fun b28=>ifV (.bool (!b28)) (lf_ x0 2 h20 fun v31=>bnd (lnV v31) fun v32=>
 bi_ .geq v32 (i64 18) (sf_ x0 5 (.bool true) h20 fun h36=>K (.tuple #[(.bool true),i64 1400]) h36) (S323_j3 x0 v5 v10 v21 v22 h20 K)) (S323_j3 x0 v5 v10 v21 v22 h20 K))
def S323_j1(x0 x1 x14:VV)(h:GH)(K:CC) :Prop:=
 ifV x14 (K (.tuple #[(.bool false),i64 1]) h) (lf_ x0 5 h fun v3=>ifV v3 (K (.tuple #[(.bool true),i64 0]) h) (S323_j2 x0 x1 h K))
def S323(a0 a1:VV)(h:GH)(K:CC):Prop:=
 bnd (eqK .ptr true a0 nP_) fun b1=>ifV (.bool b1) (S323_j1 a0 a1 (.bool true) h K) (bnd (eqK .ptr true a1 nP_) fun b2=>S323_j1 a0 a1 (.bool b2) h K)
theorem S323_T{a0 a1:VV}{h}{K}(g:S323 a0 a1 h K):T Pg 323 [a0,a1] h K:=gwT aN_ Tryz.func323 g
def S324(a0:VV)(h:GH)(K:CC):Prop:=
 bnd (eqK .ptr true a0 nP_) fun b1=>ifV (.bool b1) (K (.tuple #[i64 0,i64 0]) h) (lf_ a0 3 h fun v4=>bnd (eqK .ptr true v4 nP_) fun b5=>ifV (.bool b5) (K (.tuple #[(.int .i64 (-1)),i64 0]) h) (lf_ a0 3 h fun v8=>lf_ v8 0 h fun v11=>lf_ a0 3 h fun v14=>lf_ v14 1 h fun v17=>K (.tuple #[v11,v17]) h))
def A324:Ann:=⟨fun | 5=> ((.range 16), [0,1,3,7,15,31,63,0,128,384,896,1920,3968,8064,127,32767]) | _=> ([], []),fun _=> []⟩
theorem S324_T{a0:VV}{h}{K}(g:S324 a0 h K):T Pg 324 [a0] h K:=gwT A324 Tryz.func324 g
def S325(a0:VV)(h:GH)(K:CC):Prop:=
 bnd (eqK .ptr true a0 nP_) fun b1=>ifV (.bool b1) (K (i64 0) h) (bnd (ncV a0) fun v2=>bnd (faV 0 v2) fun v3=>lg_ v3 1 h fun v5=>K v5 h)
theorem S325_T{a0:VV}{h}{K}(g:S325 a0 h K):T Pg 325 [a0] h K:=gwT aN_ Tryz.func325 g
def S326_j2(x0:VV)(h:GH)(K:CC) :Prop:=
 lf_ x0 1 h fun v3=>bnd (lnV v3) fun v4=>bnd (eqI v4 (i64 0)) fun b5=>K (.tuple #[(.bool b5),i64 0]) h
def S326_j1(x0 x1:VV)(h:GH)(K:CC) :Prop:=
 lf_ x0 1 h fun v3=>bnd (lnV v3) fun v4=>bi_ .gtr v4 (i64 0) (lf_ x0 0 h fun v8=>lf_ x0 1 h fun v11=>li_ v11 (i64 0) h fun v13=>T Pg 35 [x1,v8,v13] h fun v14 h15=>lf_ x0 0 h15 fun v18=>bnd (binV .add v18 (i64 1)) fun v19=>sf_ x0 0 v19 h15 fun h22=>lf_ x0 1 h22 fun v25=>bnd (slV 1 v25 (some (i64 1)) none) fun v26=>sf_ x0 1 v26 h22 fun h29=>S326_j2 x0 h29 K) (S326_j2 x0 h K)
def S326(a0 a1:VV)(h:GH)(K:CC):Prop:=
 bnd (eqK .ptr true a0 nP_) fun b1=>ifV (.bool b1) (K (.tuple #[(.bool false),i64 1]) h) (bnd (eqK .ptr true a1 nP_) fun b2=>ifV (.bool b2) (K (.tuple #[(.bool false),i64 1]) h) (S326_j1 a0 a1 h K))
def A326:Ann:=⟨fun | 4=> ((.range 12), [0,0,2,6,14,0,32,96,224,480,992,2047]) | _=> ([], []),fun _=> []⟩
theorem S326_T{a0 a1:VV}{h}{K}(g:S326 a0 a1 h K):T Pg 326 [a0,a1] h K:=gwT A326 Tryz.func326 g
def S327(a0:VV)(h:GH)(K:CC):Prop:=
 lf_ a0 1 h fun v3=>bnd (binV .add v3 (i64 1)) fun v4=>bnd (binV .rem v4 (i64 1048576)) fun v5=>sf_ a0 1 v5 h fun h8=>K v3 h8
theorem S327_T{a0:VV}{h}{K}(g:S327 a0 h K):T Pg 327 [a0] h K:=gwT aN_ Tryz.func327 g
def S328(a0 a1:VV)(h:GH)(K:CC):Prop:=
 lf_ a0 11 h fun v3=>bnd (binV .add v3 (i64 1)) fun v4=>sf_ a0 11 v4 h fun h7=>lf_ a0 11 h7 fun v10=>ei_ v10 (i64 1) (bnd (ncV a0) fun v12=>bnd (faV 0 v12) fun v13=>bnd (ncV a0) fun v14=>bnd (faV 6 v14) fun v15=>lg_ v15 2 h7 fun v17=>T Pg 330 [v13,a1,v17] h7 fun v18 h19=>K (.tuple #[.nilIface,(.bool false),v18]) h19) (ei_ v10 (i64 2) (bnd (ncV a0) fun v21=>bnd (faV 0 v21) fun v22=>bnd (ncV a0) fun v23=>bnd (faV 6 v23) fun v24=>lg_ v24 2 h7 fun v26=>T Pg 331 [v22,a1,v26] h7 fun v27 h28=>K (.tuple #[.nilIface,(.bool false),v27]) h28) (ei_ v10 (i64 3) (
 bnd (ncV a0) fun v30=>bnd (faV 0 v30) fun v31=>T Pg 332 [v31,a1] h7 fun v32 h33=>K (.tuple #[.nilIface,(.bool false),v32]) h33) (bnd (ncV a0) fun v34=>bnd (faV 0 v34) fun v35=>bnd (ncV a0) fun v36=>bnd (faV 6 v36) fun v37=>bnd (ldV 5 true v37 h7) fun v38=>T Pg 225 [(.iface 277 v38)] h7 fun v39 h40=>T Pg 333 [v35,a1,v39] h40 fun v41 h42=>K (.tuple #[.nilIface,(.bool true),(.bool true)]) h42)))
def A328:Ann:=⟨fun | 4=> ((.range 13), [0,1,3,0,0,16,48,112,240,511,1023,2047,4095]) | 6=> ((.range 13), [0,1,3,0,0,16,48,112,240,511,1023,2047,4095]) | 9=> ((.range 11), [0,1,3,0,0,16,48,112,240,496,1023]) | _=> ([], []),fun _=> []⟩
theorem S328_T{a0 a1:VV}{h}{K}(g:S328 a0 a1 h K):T Pg 328 [a0,a1] h K:=gwT A328 Tryz.func328 g
def S329(a0:VV)(h:GH)(K:CC):Prop:=
 newV 133 [i64 0,i64 0] h fun v1 h2=>bnd (ncV a0) fun v3=>bnd (faV 0 v3) fun v4=>bnd (ldV 2 true v4 h2) fun v5=>bnd (stV 2 v1 v5 h2) fun h6=>bnd (ldV 2 true v1 h6) fun v7=>K v7 h6
theorem S329_T{a0:VV}{h}{K}(g:S329 a0 h K):T Pg 329 [a0] h K:=gwT aN_ Tryz.func329 g
def S330(a0 a1 a2:VV)(h:GH)(K:CC):Prop:=
 T Pg 334 [a0,a1,a2,i64 0] h fun v1 h2=>x2_ v1 fun v3 v4=>sf_ a0 2 v3 h2 fun h7=>K v4 h7
theorem S330_T{a0 a1 a2:VV}{h}{K}(g:S330 a0 a1 a2 h K):T Pg 330 [a0,a1,a2] h K:=gwT aN_ Tryz.func330 g
def S331(a0 a1 a2:VV)(h:GH)(K:CC):Prop:=
 T Pg 334 [a0,a1,a2,i64 1] h fun v1 h2=>x2_ v1 fun v3 v4=>ifV v4 (T Pg 78 [v3] h2 fun v5 h6=>sf_ a0 3 v5 h6 fun h9=>K v4 h9) (K v4 h2)
theorem S331_T{a0 a1 a2:VV}{h}{K}(g:S331 a0 a1 a2 h K):T Pg 331 [a0,a1,a2] h K:=gwT aN_ Tryz.func331 g
def S332(a0 a1:VV)(h:GH)(K:CC):Prop:=
 bnd (ncV a0) fun v1=>bnd (faV 0 v1) fun v2=>lg_ v2 0 h fun v4=>T Pg 137 [v4] h fun v5 h6=>T Pg 39 [a1,v5] h6 fun v7 h8=>x2_ v7 fun v9 v10=>T Pg 136 [v9] h8 fun v11 h12=>x2_ v11 fun v13 v14=>bnd (ncV a0) fun v15=>bnd (faV 0 v15) fun v16=>lg_ v16 1 h12 fun v18=>T Pg 138 [v18,i64 0] h12 fun v19 h20=>bnd (eqI v9 v19) fun b21=>sf_ a0 4 (.bool b21) h20 fun h24=>bnd (ncV a0) fun v25=>bnd (faV 0 v25) fun v26=>lg_ v26 1 h24 fun v28=>T Pg 138 [v28,i64 1] h24 fun v29 h30=>bnd (eqI v9 v29) fun b31=>sf_ a0 5 (.bool b31) h30 fun h34=>K v14 h34
theorem S332_T{a0 a1:VV}{h}{K}(g:S332 a0 a1 h K):T Pg 332 [a0,a1] h K:=gwT aN_ Tryz.func332 g
def S333_j1(x0 x1 x2 x6:VV)(h:GH)(K:CC) :Prop:=
 lf_ x0 2 h fun v3=>T Pg 209 [x1,v3,x2,x6] h fun v4 h5=>K (.tuple #[]) h5
def S333(a0 a1 a2:VV)(h:GH)(K:CC):Prop:=
 lf_ a0 3 h fun v3=>lf_ a0 4 h fun v6=>ifV v6 (bnd (ncV a0) fun v7=>bnd (faV 0 v7) fun v8=>bnd (ldV 2 true v8 h) fun v9=>T Pg 225 [(.iface 133 v9)] h fun v10 h11=>S333_j1 a0 a1 a2 v10 h11 K) (S333_j1 a0 a1 a2 v3 h K)
theorem S333_T{a0 a1 a2:VV}{h}{K}(g:S333 a0 a1 a2 h K):T Pg 333 [a0,a1,a2] h K:=gwT aN_ Tryz.func333 g
def S334_j1(x0 x1 x2 x3 x10:VV)(h:GH)(K:CC) :Prop:=
 bnd (binV .mul (i64 3) x2) fun v1=>bnd (binV .add (i64 2) v1) fun v2=>bnd (binV .add v2 x3) fun v3=>T Pg 335 [x0,x1,v3,x10] h fun v4 h5=>x2_ v4 fun v6 v7=>K (.tuple #[v6,v7]) h5
def S334(a0 a1 a2 a3:VV)(h:GH)(K:CC):Prop:=
 ei_ a3 (i64 0) (S334_j1 a0 a1 a2 a3 (i64 15) h K) (S334_j1 a0 a1 a2 a3 (i64 1099511627775) h K)
theorem S334_T{a0 a1 a2 a3:VV}{h}{K}(g:S334 a0 a1 a2 a3 h K):T Pg 334 [a0,a1,a2,a3] h K:=gwT aN_ Tryz.func334 g
def S335(a0 a1 a2 a3:VV)(h:GH)(K:CC):Prop:=
 bnd (ncV a0) fun v1=>bnd (faV 0 v1) fun v2=>lg_ v2 0 h fun v4=>T Pg 137 [v4] h fun v5 h6=>bnd (binV .add v5 a2) fun v7=>T Pg 39 [a1,v7] h6 fun v8 h9=>x2_ v8 fun v10 v11=>T Pg 136 [v10] h9 fun v12 h13=>x2_ v12 fun v14 v15=>ifV v15 (bnd (binV .leq v14 a3) fun v16=>K (.tuple #[v14,v16]) h13) (K (.tuple #[v14,(.bool false)]) h13)
theorem S335_T{a0 a1 a2 a3:VV}{h}{K}(g:S335 a0 a1 a2 a3 h K):T Pg 335 [a0,a1,a2,a3] h K:=gwT aN_ Tryz.func335 g
def S336(a0 a1 a2:VV)(h:GH)(K:CC):Prop:=
 lf_ a0 8 h fun v3=>bnd (binV .add v3 (i64 1)) fun v4=>sf_ a0 8 v4 h fun h7=>sf_ a0 7 a1 h7 fun h10=>lf_ a0 8 h10 fun v13=>lf_ a0 9 h10 fun v16=>bi_ .geq v13 v16 (sf_ a0 7 a2 h10 fun h20=>lf_ a0 7 h20 fun v23=>bnd (eqI v23 a2) fun b24=>K (.bool b24) h20) (lf_ a0 7 h10 fun v27=>bnd (eqI v27 a2) fun b28=>K (.bool b28) h10)
def A336:Ann:=⟨fun | 3=> ((.range 9), [0,1,3,7,0,16,48,112,255]) | _=> ([], []),fun _=> []⟩
theorem S336_T{a0 a1 a2:VV}{h}{K}(g:S336 a0 a1 a2 h K):T Pg 336 [a0,a1,a2] h K:=gwT A336 Tryz.func336 g
def S337_j3(x0 x1 x9 x37 x48:VV)(h:GH)(K:CC) :Prop:=
 ifV x48 (T Pg 340 [x0,x1] h fun v1 h2=>x2_ v1 fun v3 v4=>bnd (exV v1 2) fun v5=>K (.tuple #[v3,v4,v5]) h2) (ei_ x37 (i64 2) (T Pg 341 [x0,x1] h fun v7 h8=>x2_ v7 fun v9 v10=>ifV v9 (sf_ x0 7 (i64 8) h8 fun h13=>K (.tuple #[.nilIface,(.bool false),v10]) h13) (K (.tuple #[.nilIface,(.bool false),v10]) h8)) (ei_ x37 (i64 3) (bnd (ncV x0) fun v15=>bnd (faV 0 v15) fun v16=>lf_ x0 8 h fun v19=>T Pg 330 [v16,x1,v19] h fun v20 h21=>sf_ x0 7 (i64 4) h21 fun h24=>K (.tuple #[.nilIface,(.bool false),v20]) h24) (ei_ x37 (i64 4) (bnd (ncV x0) fun v26=>bnd (faV 0 v26) fun v27=>
 lf_ x0 8 h fun v30=>T Pg 331 [v27,x1,v30] h fun v31 h32=>sf_ x0 7 (i64 5) h32 fun h35=>K (.tuple #[.nilIface,(.bool false),v31]) h35) (ei_ x37 (i64 6) (bnd (ncV x0) fun v37=>bnd (faV 0 v37) fun v38=>T Pg 332 [v38,x1] h fun v39 h40=>sf_ x0 7 (i64 7) h40 fun h43=>K (.tuple #[.nilIface,(.bool false),v39]) h43) (ei_ x37 (i64 7) (bnd (ncV x0) fun v45=>bnd (faV 0 v45) fun v46=>lf_ x0 10 h fun v49=>T Pg 333 [v46,x1,v49] h fun v50 h51=>T Pg 336 [x0,i64 3,i64 8] h51 fun v52 h53=>K (.tuple #[.nilIface,(.bool false),x9]) h53) (ei_ x37 (i64 8) (
 T Pg 342 [x0,x1,i64 1] h fun v55 h56=>K (.tuple #[.nilIface,(.bool false),x9]) h56) (ei_ x37 (i64 9) (T Pg 342 [x0,x1,i64 2] h fun v58 h59=>K (.tuple #[.nilIface,(.bool false),x9]) h59) (K (.tuple #[.nilIface,(.bool false),x9]) h))))))))
def S337_j2(x0 x1:VV)(h:GH)(K:CC) :Prop:=
 lf_ x0 7 h fun v3=>ei_ v3 (i64 5) (T Pg 339 [x0,x1] h fun v5 h6=>x2_ v5 fun v7 v8=>K (.tuple #[v7,(.bool false),v8]) h6) (ei_ v3 (i64 1) (S337_j3 x0 x1 (.bool true) v3 (.bool true) h K) (bnd (eqI v3 (i64 14)) fun b10=>S337_j3 x0 x1 (.bool true) v3 (.bool b10) h K))
def S337_j1(x0 x1 x25:VV)(h:GH)(K:CC) :Prop:=
 ifV x25 (T Pg 338 [x0,x1] h fun v1 h2=>x2_ v1 fun v3 v4=>K (.tuple #[.nilIface,v3,v4]) h2) (S337_j2 x0 x1 h K)
def S337(a0 a1:VV)(h:GH)(K:CC):Prop:=
 lf_ a0 7 h fun v3=>bi_ .geq v3 (i64 10) (lf_ a0 7 h fun v7=>bnd (binV .lss v7 (i64 14)) fun v8=>S337_j1 a0 a1 v8 h K) (S337_j1 a0 a1 (.bool false) h K)
def A337:Ann:=⟨fun | 18=> ((.range 10), [0,1,3,0,0,16,48,112,255,511]) | 21=> ((.range 10), [0,1,3,0,0,16,48,112,255,511]) | 27=> ((.range 9), [0,1,3,0,0,16,48,112,255]) | _=> ([], []),fun _=> []⟩
theorem S337_T{a0 a1:VV}{h}{K}(g:S337 a0 a1 h K):T Pg 337 [a0,a1] h K:=gwT A337 Tryz.func337 g
def S338_j1(x0 x1 x6:VV)(h:GH)(K:CC) :Prop:=
 bnd (ncV x0) fun v1=>bnd (faV 0 v1) fun v2=>lf_ x0 8 h fun v5=>T Pg 334 [v2,x1,v5,x6] h fun v6 h7=>x2_ v6 fun v8 v9=>sf_ x0 12 v8 h7 fun h12=>sf_ x0 7 (i64 13) h12 fun h15=>K (.tuple #[(.bool false),v9]) h15
def S338(a0 a1:VV)(h:GH)(K:CC):Prop:=
 lf_ a0 7 h fun v3=>ei_ v3 (i64 10) (T Pg 341 [a0,a1] h fun v5 h6=>x2_ v5 fun v7 v8=>K (.tuple #[v7,v8]) h6) (ei_ v3 (i64 11) (sf_ a0 7 (i64 12) h fun h12=>bnd (ncV a0) fun v13=>bnd (faV 0 v13) fun v14=>lf_ a0 8 h12 fun v17=>T Pg 330 [v14,a1,v17] h12 fun v18 h19=>K (.tuple #[(.bool false),v18]) h19) (ei_ v3 (i64 12) (bnd (ncV a0) fun v21=>bnd (faV 0 v21) fun v22=>lg_ v22 5 h fun v24=>ifV v24 (S338_j1 a0 a1 (i64 2) h K) (S338_j1 a0 a1 (i64 1) h K)) (bnd (ncV a0) fun v25=>bnd (faV 0 v25) fun v26=>bnd (faV 2 v26) fun v27=>bnd (ldV 1 false v27 h) fun v28=>
 bnd (ncV a0) fun v29=>bnd (faV 0 v29) fun v30=>bnd (faV 0 v30) fun v31=>bnd (ldV 2 true v31 h) fun v32=>bnd (ncV a0) fun v33=>bnd (faV 12 v33) fun v34=>bnd (ldV 1 false v34 h) fun v35=>T Pg 225 [(.iface 133 v32)] h fun v36 h37=>ldV 1 false v34 h37=some v35∧ldV 1 false v27 h37=some v28∧T Pg 78 [v35] h37 fun v38 h39=>ldV 1 false v27 h39=some v28∧T Pg 209 [a1,v28,v36,v38] h39 fun v40 h41=>T Pg 336 [a0,i64 11,i64 0] h41 fun v42 h43=>K (.tuple #[v42,(.bool true)]) h43)))
def A338:Ann:=⟨fun | 6=> ((.range 11), [0,1,3,0,0,16,48,112,255,511,1023]) | 11=> ((.range 18), [0,0,2,6,0,0,32,96,224,0,1022,2046,4094,4094,8191,24575,57343,131071]) | 14=> ([0,1,2,3,4,5,6,7,8,9,10,11,13,14,15,16,12,17,18], [0,0,2,6,14,30,0,64,192,448,960,1984,4032,0,8192,24576,57344,131008,262143]) | _=> ([], []),fun _=> []⟩
theorem S338_T{a0 a1:VV}{h}{K}(g:S338 a0 a1 h K):T Pg 338 [a0,a1] h K:=gwT A338 Tryz.func338 g
def S339_j1(x0 x8:VV)(h:GH)(K:CC) :Prop:=
 bnd (eqK .iface true x8 .nilIface) fun b1=>ifV (.bool b1) (K (.tuple #[.nilIface,(.bool false)]) h) (bnd (taV 178 (i64 0) true x8) fun v2=>bnd (exV v2 1) fun v3=>bnd (exV v2 0) fun v4=>ifV v3 (sf_ x0 7 (i64 9) h fun h7=>K (.tuple #[.nilIface,(.bool true)]) h7) (bnd (taV 277 (.agg #[i64 0,i64 0,i64 0,i64 0,i64 0]) true x8) fun v8=>bnd (exV v8 1) fun v9=>bnd (exV v8 0) fun v10=>ifV v9 (lf_ x0 6 h fun v13=>T Pg 250 [x8,v13] h fun v14 h15=>K (.tuple #[v14,(.bool true)]) h15) (bnd (taV 133 (.agg #[i64 0,i64 0]) true x8) fun v16=>
 bnd (exV v16 1) fun v17=>bnd (exV v16 0) fun v18=>ifV v17 (lf_ x0 6 h fun v21=>T Pg 250 [x8,v21] h fun v22 h23=>sf_ x0 11 v22 h23 fun h26=>sf_ x0 7 (i64 14) h26 fun h29=>K (.tuple #[.nilIface,(.bool true)]) h29) (K (.tuple #[.nilIface,(.bool true)]) h))))
def S339(a0 a1:VV)(h:GH)(K:CC):Prop:=
 bnd (ncV a0) fun v1=>bnd (faV 0 v1) fun v2=>bnd (faV 0 v2) fun v3=>bnd (ldV 2 true v3 h) fun v4=>bnd (ncV a0) fun v5=>bnd (faV 8 v5) fun v6=>bnd (ldV 1 false v6 h) fun v7=>bnd (ncV a0) fun v8=>bnd (faV 6 v8) fun v9=>bnd (ldV 1 false v9 h) fun v10=>bnd (ncV v10) fun v11=>bnd (faV 0 v11) fun v12=>bnd (ldV 1 false v12 h) fun v13=>lf_ a0 6 h fun v16=>T Pg 327 [v16] h fun v17 h18=>ldV 1 false v12 h18=some v13∧ldV 1 false v9 h18=some v10∧ldV 1 false v6 h18=some v7∧ldV 2 true v3 h18=some v4∧
 bnd (fillV [i64 0,i64 0,i64 0,i64 0,i64 0] [(0,2,v4),(2,1,v7),(3,1,v13),(4,1,v17)]) fun c19=>T Pg 225 [(.iface 277 (.agg c19.toArray))] h18 fun v20 h21=>sf_ a0 10 v20 h21 fun h24=>bnd (ncV a0) fun v25=>bnd (faV 0 v25) fun v26=>lg_ v26 2 h24 fun v28=>bnd (ncV a0) fun v29=>bnd (faV 0 v29) fun v30=>lg_ v30 3 h24 fun v32=>lf_ a0 10 h24 fun v35=>T Pg 209 [a1,v28,v32,v35] h24 fun v36 h37=>x2_ v36 fun v38 v39=>bnd (ncV a0) fun v40=>bnd (faV 0 v40) fun v41=>lg_ v41 3 h37 fun v43=>ei_ v38 v43 (sf_ a0 7 (i64 6) h37 fun h47=>
 K (.tuple #[.nilIface,(.bool true)]) h47) (T Pg 163 [v38] h37 fun v48 h49=>bnd (taV 133 (.agg #[i64 0,i64 0]) true v48) fun v50=>x2_ v50 fun v51 v52=>newV 133 [i64 0,i64 0] h49 fun v53 h54=>bnd (stV 2 v53 v51 h54) fun h55=>ifV v52 (bnd (ldV 2 true v53 h55) fun v56=>bnd (ncV a0) fun v57=>bnd (faV 0 v57) fun v58=>bnd (faV 0 v58) fun v59=>bnd (ldV 2 true v59 h55) fun v60=>bnd (eqP Pg 10000 133 v56 v60) fun b61=>ifV (.bool b61) (T Pg 336 [a0,i64 3,i64 8] h55 fun v62 h63=>K (.tuple #[.nilIface,(.bool true)]) h63) (S339_j1 a0 v48 h55 K)) (
 S339_j1 a0 v48 h55 K))
def A339:Ann:=⟨fun | 1=> ((.range 28), [0,0,2,6,14,30,0,64,192,448,0,1024,3072,7168,15360,31744,64512,0,131072,393216,917504,1966080,4194302,8388606,16777214,33554431,67108863,134217727]) | 2=> ((.range 21), [0,0,2,6,14,30,0,64,192,448,960,0,2048,6144,14336,32767,65535,131071,131071,262143,1048575]) | 8=> ((.range 10), [0,1,3,3,11,27,59,123,255,511]) | _=> ([], []),fun _=> []⟩
theorem S339_T{a0 a1:VV}{h}{K}(g:S339 a0 a1 h K):T Pg 339 [a0,a1] h K:=gwT A339 Tryz.func339 g
def S340(a0 a1:VV)(h:GH)(K:CC):Prop:=
 bnd (ncV a0) fun v1=>bnd (faV 0 v1) fun v2=>T Pg 332 [v2,a1] h fun v3 h4=>lf_ a0 7 h4 fun v7=>bnd (eqI v7 (i64 14)) fun b8=>bnd (ncV a0) fun v9=>bnd (faV 0 v9) fun v10=>lg_ v10 4 h4 fun v12=>ni_ v12 (sf_ a0 7 (i64 10) h4 fun h16=>K (.tuple #[.nilIface,(.bool false),v3]) h16) (ifV (.bool b8) (sf_ a0 7 (i64 5) h4 fun h19=>lf_ a0 11 h19 fun v22=>K (.tuple #[v22,(.bool false),v3]) h19) (sf_ a0 7 (i64 2) h4 fun h25=>K (.tuple #[.nilIface,(.bool false),v3]) h25))
theorem S340_T{a0 a1:VV}{h}{K}(g:S340 a0 a1 h K):T Pg 340 [a0,a1] h K:=gwT aN_ Tryz.func340 g
def S341(a0 a1:VV)(h:GH)(K:CC):Prop:=
 bnd (ncV a0) fun v1=>bnd (faV 0 v1) fun v2=>T Pg 335 [v2,a1,i64 1,i64 16] h fun v3 h4=>x2_ v3 fun v5 v6=>sf_ a0 9 v5 h4 fun h9=>sf_ a0 8 (i64 0) h9 fun h12=>lf_ a0 7 h12 fun v15=>bnd (binV .add v15 (i64 1)) fun v16=>sf_ a0 7 v16 h12 fun h19=>bnd (eqI v5 (i64 0)) fun b20=>K (.tuple #[(.bool b20),v6]) h19
theorem S341_T{a0 a1:VV}{h}{K}(g:S341 a0 a1 h K):T Pg 341 [a0,a1] h K:=gwT aN_ Tryz.func341 g
def S342(a0 a1 a2:VV)(h:GH)(K:CC):Prop:=
 bnd (ncV a0) fun v1=>bnd (faV 0 v1) fun v2=>bnd (faV 0 v2) fun v3=>lg_ v3 0 h fun v5=>bnd (ncV a0) fun v6=>bnd (faV 0 v6) fun v7=>bnd (faV 0 v7) fun v8=>bnd (faV 1 v8) fun v9=>bnd (ldV 1 false v9 h) fun v10=>bnd (ncV a0) fun v11=>bnd (faV 0 v11) fun v12=>bnd (faV 0 v12) fun v13=>bnd (faV 1 v13) fun v14=>bnd (ldV 1 false v14 h) fun v15=>T Pg 137 [v5] h fun v16 h17=>ldV 1 false v14 h17=some v15∧ldV 1 false v9 h17=some v10∧T Pg 138 [v10,i64 0] h17 fun v18 h19=>ldV 1 false v14 h19=some v15∧T Pg 138 [v15,a2] h19 fun v20 h21=>T Pg 209 [a1,v16,v18,v20] h21 fun v22 h23=>
 sf_ a0 7 (i64 1) h23 fun h26=>K (.tuple #[]) h26
def A342:Ann:=⟨fun | 0=> ([0,1,2,3,4,5,6,8,9,10,11,12,13,15,16,17,18,19,20,21,7,14,22,23], [0,0,2,6,14,30,62,126,0,256,768,1792,3840,7936,16382,0,32768,98304,229376,491520,1015808,0,4194302,8388607]) | _=> ([], []),fun _=> []⟩
theorem S342_T{a0 a1 a2:VV}{h}{K}(g:S342 a0 a1 a2 h K):T Pg 342 [a0,a1,a2] h K:=gwT A342 Tryz.func342 g
end Go.Proofs.YtfphpafkhljncaaGreat
