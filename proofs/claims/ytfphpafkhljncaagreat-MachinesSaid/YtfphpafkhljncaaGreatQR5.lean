/- Several texts in one; nothing here is a statement on the program. -/
import Derived.Test.YtfphpafkhljncaaGreatQR2
import Derived.Test.YtfphpafkhljncaaGreatProg
import Derived.KernelRfl
set_option linter.unusedVariables false
set_option linter.unusedSimpArgs false
namespace Go.Proofs.YtfphpafkhljncaaGreat
open Go GW Go.Proofs
set_option maxRecDepth 100000
def S165(a0:VV)(h:GH)(K:CC):Prop:=
 bi_ .lss a0 (i64 0) (K (.tuple #[nP_,i64 1000]) h) (bi_ .geq a0 (i64 12) (K (.tuple #[nP_,i64 1000]) h) (bnd (fillV [i64 0,i64 0,i64 0,(.bool false)] [(1,1,a0)]) fun c3=>newV 248 ((.agg c3.toArray):VV).cells.toList h fun v4 h5=>K (.tuple #[v4,i64 0]) h5))
theorem S165_T{a0:VV}{h}{K}(g:S165 a0 h K):T Pg 165 [a0] h K:=gwT aN_ Tryz.func165 g
def S166(a0 a1 a2:VV)(h:GH)(K:CC):Prop:=
 bnd (ncV a2) fun v1=>bnd (iaV 12 1 v1 a1) fun v2=>bnd (ldV 1 false v2 h) fun v3=>bnd (binV .add v3 (i64 1)) fun v4=>bnd (ncV a2) fun v5=>bnd (iaV 12 1 v5 a1) fun v6=>bnd (stV 1 v6 v4 h) fun h7=>sf_ a0 9 a1 h7 fun h10=>lf_ a0 0 h10 fun v13=>lf_ a0 7 h10 fun v16=>bnd (ncV a2) fun v17=>bnd (iaV 12 1 v17 a1) fun v18=>bnd (ldV 1 false v18 h10) fun v19=>lf_ a0 4 h10 fun v22=>lf_ a0 20 h10 fun v25=>bnd (lnV v25) fun v26=>bnd (binV .sub v26 (i64 1)) fun v27=>bnd (isV 1 v22 v27) fun v28=>lg_ v28 0 h10 fun v30=>T Pg 192 [v13,v16,a1,v19,v30] h10 fun v31 h32=>x2_ v31 fun v33 v34=>
 sf_ a0 14 v33 h32 fun h37=>sf_ a0 8 (i64 4) h37 fun h40=>K (.tuple #[]) h40
def A166:Ann:=⟨fun | 0=> ((.range 11), [0,0,0,0,4,28,60,124,1,511,1023]) | 2=> ((.range 33), [0,1,3,7,0,16,48,112,0,0,0,512,3584,7680,0,16384,49152,114688,0,262144,786432,1835008,3932160,8126464,16760832,33538048,67092480,134217727,268435455,536870911,536870911,1073741823,4294967295]) | _=> ([], []),fun _=> []⟩
theorem S166_T{a0 a1 a2:VV}{h}{K}(g:S166 a0 a1 a2 h K):T Pg 166 [a0,a1,a2] h K:=gwT A166 Tryz.func166 g
def S167(h:GH)(K:CC):Prop:=
 bnd (fillV [i64 0,i64 0,i64 0,i64 0,(.bool false)] [(3,1,(.int .i64 (-1)))]) fun c1=>newV 251 ((.agg c1.toArray):VV).cells.toList h fun v2 h3=>K v2 h3
theorem S167_T{h}{K}(g:S167 h K):T Pg 167 [] h K:=gwT aN_ Tryz.func167 g
def S168(a0 a1 a2:VV)(h:GH)(K:CC):Prop:=
 T Pg 175 [a0,i64 1,a1,a2] h fun v1 h2=>x2_ v1 fun v3 v4=>K (.tuple #[v3,v4]) h2
theorem S168_T{a0 a1 a2:VV}{h}{K}(g:S168 a0 a1 a2 h K):T Pg 168 [a0,a1,a2] h K:=gwT aN_ Tryz.func168 g
def S169(a0:VV)(h:GH)(K:CC):Prop:=
 Lfp (fun (s1:Nat→Value) h2 again3=>bnd (lnV (s1 0)) fun v4=>bi_ .lss (s1 1) v4 (bnd (isV 2 (s1 0) (s1 1)) fun v6=>lg_ v6 0 h2 fun v8=>bi_ .lss v8 (i64 0) (K (.bool false) h2) (bnd (isV 2 (s1 0) (s1 1)) fun v10=>lg_ v10 0 h2 fun v12=>bi_ .geq v12 (i64 12) (K (.bool false) h2) (bnd (isV 2 (s1 0) (s1 1)) fun v14=>lg_ v14 1 h2 fun v16=>bi_ .lss v16 (i64 0) (K (.bool false) h2) (bnd (isV 2 (s1 0) (s1 1)) fun v18=>lg_ v18 1 h2 fun v20=>bi_ .gtr v20 (i64 1073741823) (K (.bool false) h2) (bnd (binV .add (s1 1) (i64 1)) fun v22=>again3 (tup [(s1 0),v22]) h2))))) (
 K (.bool true) h2)) (tup [a0,i64 0]) h
def A169:Ann:=⟨fun _=> ([], []),fun | 0=> [0,3] | _=> []⟩
theorem S169_T{a0:VV}{h}{K}(g:S169 a0 h K):T Pg 169 [a0] h K:=gwT A169 Tryz.func169 g
def S170_j2(x0 x1 x3:VV)(h:GH)(K:CC) :Prop:=
 T Pg 175 [x0,i64 2,x1,x3] h fun v1 h2=>x2_ v1 fun v3 v4=>K (.tuple #[v3,v4]) h2
def S170_j1(x0 x1 x2 x3:VV)(h:GH)(K:CC) :Prop:=
 bnd (ncV x0) fun v1=>bnd (faV 0 v1) fun v2=>bnd (iaV 634 1 v2 x1) fun v3=>bnd (ldV 1 false v3 h) fun v4=>en_ v4 x2 (bnd (ncV x0) fun v6=>bnd (faV 0 v6) fun v7=>bnd (iaV 634 1 v7 x1) fun v8=>bnd (ldV 1 false v8 h) fun v9=>S170_j2 x0 x1 v9 h K) (S170_j2 x0 x1 x3 h K)
def S170(a0 a1 a2 a3:VV)(h:GH)(K:CC):Prop:=
 bi_ .lss a1 (i64 0) (K (.tuple #[i64 0,i64 200]) h) (bi_ .geq a1 (i64 634) (K (.tuple #[i64 0,i64 200]) h) (S170_j1 a0 a1 a2 a3 h K))
theorem S170_T{a0 a1 a2 a3:VV}{h}{K}(g:S170 a0 a1 a2 a3 h K):T Pg 170 [a0,a1,a2,a3] h K:=gwT aN_ Tryz.func170 g
def S171(a0 a1:VV)(h:GH)(K:CC):Prop:=
 bnd (binV .rem a1 (i64 1073741824)) fun v1=>bnd (binV .mul v1 (i64 16)) fun v2=>bnd (binV .add v2 a0) fun v3=>T Pg 118 [v3] h fun v4 h5=>K v4 h5
theorem S171_T{a0 a1:VV}{h}{K}(g:S171 a0 a1 h K):T Pg 171 [a0,a1] h K:=gwT aN_ Tryz.func171 g
def S172(a0 a1:VV)(h:GH)(K:CC):Prop:=
 lf_ a0 4 h fun v3=>ifV v3 (K (.tuple #[(.bool true),i64 0]) h) (lf_ a0 1 h fun v6=>T Pg 125 [v6] h fun v7 h8=>x2_ v7 fun v9 v10=>bnd (exV v7 2) fun v11=>lf_ a0 0 h8 fun v14=>ei_ v14 (i64 0) (T Pg 148 [a1,i64 16] h8 fun v16 h17=>x2_ v16 fun v18 v19=>T Pg 125 [v18] h17 fun v20 h21=>x2_ v20 fun v22 v23=>bnd (exV v20 2) fun v24=>sf_ a0 1 v18 h21 fun h27=>sf_ a0 0 (i64 1) h27 fun h30=>ni_ v24 (sf_ a0 4 (.bool true) h30 fun h34=>ni_ v24 (K (.tuple #[(.bool true),i64 1000]) h34) (lf_ a0 4 h34 fun v38=>K (.tuple #[v38,i64 0]) h34)) (
 bnd (eqI v22 (i64 0)) fun b39=>sf_ a0 4 (.bool b39) h30 fun h42=>ni_ v24 (K (.tuple #[(.bool true),i64 1000]) h42) (lf_ a0 4 h42 fun v46=>K (.tuple #[v46,i64 0]) h42))) (ei_ v14 (i64 1) (bnd (binV .add (i64 17) v9) fun v48=>bnd (binV .sub v48 (i64 1)) fun v49=>T Pg 148 [a1,v49] h8 fun v50 h51=>x2_ v50 fun v52 v53=>T Pg 126 [v52] h51 fun v54 h55=>x2_ v54 fun v56 v57=>sf_ a0 2 v56 h55 fun h60=>sf_ a0 0 (i64 2) h60 fun h63=>ni_ v57 (sf_ a0 4 (.bool true) h63 fun h67=>K (.tuple #[(.bool true),i64 1000]) h67) (bi_ .gtr v56 (i64 12) (
 sf_ a0 4 (.bool true) h63 fun h71=>K (.tuple #[(.bool true),i64 1000]) h71) (lf_ a0 4 h63 fun v74=>K (.tuple #[v74,i64 0]) h63))) (bnd (ncV a0) fun v75=>bnd (faV 1 v75) fun v76=>bnd (ldV 1 false v76 h8) fun v77=>lf_ a0 2 h8 fun v80=>bnd (binV .add v10 (i64 1)) fun v81=>T Pg 171 [v80,v81] h8 fun v82 h83=>ldV 1 false v76 h83=some v77∧T Pg 170 [a1,i64 16,v77,v82] h83 fun v84 h85=>x2_ v84 fun v86 v87=>sf_ a0 0 (i64 0) h85 fun h90=>lf_ a0 1 h90 fun v93=>ei_ v86 v93 (bnd (binV .sub v9 (i64 1)) fun v95=>sf_ a0 3 v95 h90 fun h98=>
 sf_ a0 4 (.bool true) h98 fun h101=>lf_ a0 4 h101 fun v104=>K (.tuple #[v104,i64 0]) h101) (lf_ a0 4 h90 fun v107=>K (.tuple #[v107,i64 0]) h90))))
def A172:Ann:=⟨fun | 5=> ((.range 18), [0,0,2,6,14,0,32,96,224,0,512,2016,4095,8191,16383,16383,32767,131071]) | _=> ([], []),fun _=> []⟩
theorem S172_T{a0 a1:VV}{h}{K}(g:S172 a0 a1 h K):T Pg 172 [a0,a1] h K:=gwT A172 Tryz.func172 g
def S173(a0 a1:VV)(h:GH)(K:CC):Prop:=
 lf_ a0 58 h fun v3=>ifV v3 (K (.tuple #[(.bool true),i64 0]) h) (lf_ a0 53 h fun v6=>bnd (eqK .ptr true v6 nP_) fun b7=>ifV (.bool (!b7)) (T Pg 193 [a0,a1] h fun v8 h9=>x2_ v8 fun v10 v11=>K (.tuple #[v10,v11]) h9) (lf_ a0 54 h fun v14=>bnd (eqK .ptr true v14 nP_) fun b15=>ifV (.bool (!b15)) (lf_ a0 54 h fun v18=>T Pg 194 [v18,a1] h fun v19 h20=>x2_ v19 fun v21 v22=>lf_ a0 2 h20 fun v25=>sf_ a0 59 v25 h20 fun h28=>lf_ a0 3 h28 fun v31=>sf_ a0 60 v31 h28 fun h34=>ifV v21 (lf_ a0 2 h34 fun v37=>lf_ a0 3 h34 fun v40=>
 bnd (fillV [i64 0,i64 0,i64 0,i64 0,i64 0,i64 0,i64 0] [(0,1,(i64 2)),(2,1,v37),(3,1,v40)]) fun c41=>T Pg 195 [(.agg c41.toArray)] h34 fun v42 h43=>x2_ v42 fun v44 v45=>lf_ a0 0 h43 fun v48=>lf_ a0 1 h43 fun v51=>T Pg 196 [v48,v51,v44] h43 fun v52 h53=>x2_ v52 fun v54 v55=>sf_ a0 54 nP_ h53 fun h58=>sf_ a0 55 v54 h58 fun h61=>K (.tuple #[(.bool false),i64 0]) h61) (K (.tuple #[(.bool false),i64 0]) h34)) (lf_ a0 55 h fun v64=>T Pg 197 [v64,a1] h fun v65 h66=>x2_ v65 fun v67 v68=>lf_ a0 55 h66 fun v71=>
 T Pg 198 [v71] h66 fun v72 h73=>x2_ v72 fun v74 v75=>sf_ a0 59 v74 h73 fun h78=>sf_ a0 60 v75 h78 fun h81=>lf_ a0 55 h81 fun v84=>lf_ v84 1 h81 fun v87=>sf_ a0 1 v87 h81 fun h90=>sf_ a0 58 v67 h90 fun h93=>en_ v68 (i64 0) (K (.tuple #[(.bool true),i64 1700]) h93) (ifV v67 (lf_ a0 55 h93 fun v97=>lf_ v97 3 h93 fun v100=>sf_ a0 57 v100 h93 fun h103=>K (.tuple #[v67,i64 0]) h103) (sf_ a0 57 (.bool false) h93 fun h106=>K (.tuple #[v67,i64 0]) h106)))))
def A173:Ann:=⟨fun | 10=> ((.range 15), [0,1,3,7,0,16,48,112,255,511,1023,2047,2047,4095,16383]) | 11=> ((.range 15), [0,1,3,7,0,16,48,112,0,511,1023,2047,2047,4095,16383]) | _=> ([], []),fun _=> []⟩
theorem S173_T{a0 a1:VV}{h}{K}(g:S173 a0 a1 h K):T Pg 173 [a0,a1] h K:=gwT A173 Tryz.func173 g
def S174(a0:VV)(h:GH)(K:CC):Prop:=
 lf_ a0 59 h fun v3=>lf_ a0 60 h fun v6=>K (.tuple #[v3,v6]) h
def A174:Ann:=⟨fun | 1=> ((.range 10), [0,1,3,7,0,16,48,112,15,511]) | _=> ([], []),fun _=> []⟩
theorem S174_T{a0:VV}{h}{K}(g:S174 a0 h K):T Pg 174 [a0] h K:=gwT A174 Tryz.func174 g
def S175_j1(x0 x1 x2 x3:VV)(h:GH)(K:CC) :Prop:=
 bnd (ncV x0) fun v1=>bnd (faV 0 v1) fun v2=>bnd (iaV 634 1 v2 x2) fun v3=>bnd (ldV 1 false v3 h) fun v4=>bnd (fillV [i64 0,i64 0,i64 0,i64 0,i64 0,i64 0,i64 0,i64 0] [(1,1,x1),(2,1,x2),(3,1,v4),(4,1,x3)]) fun c5=>bnd (ncV x0) fun v6=>bnd (faV 634 v6) fun v7=>bnd (stV 8 v7 (.agg c5.toArray) h) fun h8=>sf_ x0 642 (.bool true) h8 fun h11=>bnd (ncV x0) fun v12=>bnd (faV 0 v12) fun v13=>bnd (iaV 634 1 v13 x2) fun v14=>bnd (stV 1 v14 x3 h11) fun h15=>K (.tuple #[v4,i64 0]) h15
def S175(a0 a1 a2 a3:VV)(h:GH)(K:CC):Prop:=
 bi_ .lss a2 (i64 0) (K (.tuple #[i64 0,i64 200]) h) (bi_ .geq a2 (i64 634) (K (.tuple #[i64 0,i64 200]) h) (S175_j1 a0 a1 a2 a3 h K))
theorem S175_T{a0 a1 a2 a3:VV}{h}{K}(g:S175 a0 a1 a2 a3 h K):T Pg 175 [a0,a1,a2,a3] h K:=gwT aN_ Tryz.func175 g
def S176_j1(x0 x1:VV)(h:GH)(K:CC) :Prop:=
 ni_ x0 (K (.tuple #[i64 0,i64 0]) h) (Lfp (fun (s2:Nat→Value) h3 again4=>bi_ .lss (s2 2) (s2 0) (bi_ .lss (s2 1) (i64 8) (bnd (binV .mul (i64 2) (s2 1)) fun v7=>bnd (binV .add (s2 2) (i64 1)) fun v8=>again4 (tup [(s2 0),v7,v8]) h3) (ei_ (s2 0) (i64 0) (K (.tuple #[i64 0,i64 0]) h3) (K (.tuple #[(s2 1),i64 0]) h3))) (ei_ (s2 0) (i64 0) (K (.tuple #[i64 0,i64 0]) h3) (K (.tuple #[(s2 1),i64 0]) h3))) (tup [x1,i64 1,i64 1]) h)
def S176(a0 a1:VV)(h:GH)(K:CC):Prop:=
 bi_ .lss a1 (i64 0) (K (.tuple #[i64 0,i64 1600]) h) (bi_ .gtr a1 (i64 16) (K (.tuple #[i64 0,i64 1600]) h) (S176_j1 a0 a1 h K))
def A176:Ann:=⟨fun _=> ([], []),fun | 0=> [1,6,7] | _=> []⟩
theorem S176_T{a0 a1:VV}{h}{K}(g:S176 a0 a1 h K):T Pg 176 [a0,a1] h K:=gwT A176 Tryz.func176 g
def S177(a0:VV)(h:GH)(K:CC):Prop:=
 newV 225 (a0:VV).cells.toList h fun v1 h2=>lg_ v1 0 h2 fun v4=>ei_ v4 (i64 0) (bnd (ldV 7 true v1 h2) fun v6=>lg_ v1 1 h2 fun v8=>bnd (fillV [i64 0,i64 0,i64 0,i64 0,i64 0,i64 0,i64 0] [(1,1,v8)]) fun c9=>bnd (eqP Pg 10000 225 v6 (.agg c9.toArray)) fun b10=>ifV (.bool b10) (lg_ v1 1 h2 fun v12=>bi_ .geq v12 (i64 0) (lg_ v1 1 h2 fun v15=>bnd (binV .leq v15 (i64 1099511627775)) fun v16=>K v16 h2) (K (.bool false) h2)) (K (.bool false) h2)) (ei_ v4 (i64 1) (lg_ v1 1 h2 fun v19=>ei_ v19 (i64 0) (
 bnd (ldV 7 true v1 h2) fun v21=>T Pg 199 [v21] h2 fun v22 h23=>ifV v22 (lg_ v1 4 h23 fun v25=>bi_ .geq v25 (i64 0) (lg_ v1 4 h23 fun v28=>bi_ .lss v28 (i64 16) (lg_ v1 5 h23 fun v31=>bi_ .geq v31 (i64 0) (lg_ v1 5 h23 fun v34=>bi_ .lss v34 (i64 4) (lg_ v1 6 h23 fun v37=>bi_ .geq v37 (i64 0) (lg_ v1 6 h23 fun v40=>bnd (binV .leq v40 (i64 1048575)) fun v41=>K v41 h23) (K (.bool false) h23)) (K (.bool false) h23)) (K (.bool false) h23)) (K (.bool false) h23)) (K (.bool false) h23)) (K (.bool false) h23)) (K (.bool false) h2)) (ei_ v4 (i64 2) (
 bnd (ldV 7 true v1 h2) fun v43=>lg_ v1 2 h2 fun v45=>lg_ v1 3 h2 fun v47=>bnd (fillV [i64 0,i64 0,i64 0,i64 0,i64 0,i64 0,i64 0] [(0,1,(i64 2)),(2,1,v45),(3,1,v47)]) fun c48=>bnd (eqP Pg 10000 225 v43 (.agg c48.toArray)) fun b49=>ifV (.bool b49) (bnd (ldV 7 true v1 h2) fun v50=>T Pg 199 [v50] h2 fun v51 h52=>K v51 h52) (K (.bool false) h2)) (K (.bool false) h2)))
theorem S177_T{a0:VV}{h}{K}(g:S177 a0 h K):T Pg 177 [a0] h K:=gwT aN_ Tryz.func177 g
def S178(a0:VV)(h:GH)(K:CC):Prop:=
 T Pg 136 [a0] h fun v1 h2=>x2_ v1 fun v3 v4=>ifV v4 (bnd (binV .lss v3 (i64 1073741823)) fun v5=>K (.tuple #[v3,v5]) h2) (K (.tuple #[v3,(.bool false)]) h2)
theorem S178_T{a0:VV}{h}{K}(g:S178 a0 h K):T Pg 178 [a0] h K:=gwT aN_ Tryz.func178 g
def S179(a0 a1:VV)(h:GH)(K:CC):Prop:=
 bnd (lnV a0) fun v1=>Lfp (fun (s2:Nat→Value) h3 again4=>bi_ .lss (s2 3) (s2 2) (bnd (isV 2 (s2 0) (s2 3)) fun v6=>bnd (ldV 2 true v6 h3) fun v7=>callV Pg (s2 1) [v7] h3 fun v8 h9=>ifV v8 (K (s2 3) h9) (bnd (binV .add (s2 3) (i64 1)) fun v10=>again4 (tup [(s2 0),(s2 1),(s2 2),v10]) h9)) (K (.int .i64 (-1)) h3)) (tup [a0,a1,v1,i64 0]) h
def A179:Ann:=⟨fun _=> ([], []),fun | 0=> [0,1,7,8] | _=> []⟩
theorem S179_T{a0 a1:VV}{h}{K}(g:S179 a0 a1 h K):T Pg 179 [a0,a1] h K:=gwT A179 Tryz.func179 g
def S180(a0 a1:VV)(h:GH)(K:CC):Prop:=
 lf_ a0 0 h fun v3=>lf_ a0 2 h fun v6=>bnd (ncV v6) fun v7=>bnd (iaV 12 1 v7 a1) fun v8=>bnd (ldV 1 false v8 h) fun v9=>bnd (binV .add v9 (i64 1)) fun v10=>bnd (ncV v6) fun v11=>bnd (iaV 12 1 v11 a1) fun v12=>bnd (stV 1 v12 v10 h) fun h13=>sf_ v3 14 a1 h13 fun h16=>bnd (ncV v3) fun v17=>bnd (faV 0 v17) fun v18=>bnd (ldV 1 false v18 h16) fun v19=>bnd (ncV v3) fun v20=>bnd (faV 10 v20) fun v21=>bnd (ldV 1 false v21 h16) fun v22=>bnd (ncV a0) fun v23=>bnd (faV 2 v23) fun v24=>bnd (ldV 1 false v24 h16) fun v25=>bnd (ncV v25) fun v26=>bnd (iaV 12 1 v26 a1) fun v27=>
 bnd (ldV 1 false v27 h16) fun v28=>bnd (ncV v3) fun v29=>bnd (faV 4 v29) fun v30=>bnd (ldV 1 false v30 h16) fun v31=>T Pg 139 [v3] h16 fun v32 h33=>ldV 1 false v30 h33=some v31∧ldV 1 false v27 h33=some v28∧ldV 1 false v24 h33=some v25∧ldV 1 false v21 h33=some v22∧ldV 1 false v18 h33=some v19∧lf_ v32 1 h33 fun v36=>bnd (isV 1 v31 v36) fun v37=>lg_ v37 0 h33 fun v39=>T Pg 200 [v19,v22,a1,v28,v39] h33 fun v40 h41=>x2_ v40 fun v42 v43=>sf_ v3 18 v42 h41 fun h46=>sf_ v3 6 (.func (.func 181) #[] #[]) h46 fun h49=>K (.tuple #[]) h49
def A180:Ann:=⟨fun | 1=> ((.range 12), [0,1,3,7,0,15,63,127,255,15,1023,2047]) | 3=> ((.range 37), [0,0,2,6,14,0,32,96,224,0,0,1024,3072,7168,0,15360,64512,130048,0,262144,786432,1835008,0,4194304,12582912,29360128,62914560,133955584,268173312,536608768,1073741822,2147483646,4294967294,4294967294,8589934591,25769803775,60129542143]) | _=> ([], []),fun _=> []⟩
theorem S180_T{a0 a1:VV}{h}{K}(g:S180 a0 a1 h K):T Pg 180 [a0,a1] h K:=gwT A180 Tryz.func180 g
def S181(a0:VV)(h:GH)(K:CC):Prop:=
 lf_ a0 0 h fun v3=>lf_ v3 18 h fun v6=>bnd (eqK .ptr true v6 nP_) fun b7=>ifV (.bool b7) (K (i64 1800) h) (lf_ v3 18 h fun v10=>lf_ a0 1 h fun v13=>T Pg 201 [v10,v13] h fun v14 h15=>x2_ v14 fun v16 v17=>lf_ v3 18 h15 fun v20=>T Pg 202 [v20] h15 fun v21 h22=>x2_ v21 fun v23 v24=>bnd (ncV v3) fun v25=>bnd (faV 21 v25) fun v26=>sg_ v26 0 v23 h22 fun h28=>bnd (ncV v3) fun v29=>bnd (faV 21 v29) fun v30=>sg_ v30 1 v24 h28 fun h32=>lf_ v3 18 h32 fun v35=>T Pg 203 [v35] h32 fun v36 h37=>sf_ v3 10 v36 h37 fun h40=>ifV v16 (sf_ v3 6 (.func (.func 204) #[] #[]) h40 fun h43=>K v17 h43) (K v17 h40))
def A181:Ann:=⟨fun | 4=> ((.range 14), [0,1,3,7,0,16,48,112,255,511,1023,1023,2047,8191]) | _=> ([], []),fun _=> []⟩
theorem S181_T{a0:VV}{h}{K}(g:S181 a0 h K):T Pg 181 [a0] h K:=gwT A181 Tryz.func181 g
def S182(h:GH)(K:CC):Prop:=
 bnd (fillV [i64 0,i64 0,i64 0,i64 0,(.bool false),i64 0,i64 0] [(6,1,(.int .i64 (-1)))]) fun c1=>newV 290 ((.agg c1.toArray):VV).cells.toList h fun v2 h3=>K v2 h3
theorem S182_T{h}{K}(g:S182 h K):T Pg 182 [] h K:=gwT aN_ Tryz.func182 g
def S183(a0 a1:VV)(h:GH)(K:CC):Prop:=
 newV 129 (a0:VV).cells.toList h fun v1 h2=>newV 34 (a1:VV).cells.toList h2 fun v3 h4=>bnd (ldV 1 false v1 h4) fun v5=>bnd (eqK .ptr true v5 nP_) fun b6=>ifV (.bool b6) (K (.tuple #[(.bool false),i64 1]) h4) (bnd (ldV 1 false v1 h4) fun v7=>bnd (ncV v7) fun v8=>bnd (faV 0 v8) fun v9=>bnd (ldV 1 false v3 h4) fun v10=>T Pg 186 [v9,v10,(.func (.func 205) #[] #[v1,v3])] h4 fun v11 h12=>x2_ v11 fun v13 v14=>K (.tuple #[v13,v14]) h12)
def A183:Ann:=⟨fun | 3=> ((.range 10), [0,1,3,0,0,31,63,63,255,511]) | _=> ([], []),fun _=> []⟩
theorem S183_T{a0 a1:VV}{h}{K}(g:S183 a0 a1 h K):T Pg 183 [a0,a1] h K:=gwT A183 Tryz.func183 g
def S184(a0:VV)(h:GH)(K:CC):Prop:=
 bnd (eqK .ptr true a0 nP_) fun b1=>ifV (.bool b1) (K (i64 0) h) (lf_ a0 6 h fun v4=>K v4 h)
theorem S184_T{a0:VV}{h}{K}(g:S184 a0 h K):T Pg 184 [a0] h K:=gwT aN_ Tryz.func184 g
def S185(a0:VV)(h:GH)(K:CC):Prop:=
 lf_ a0 0 h fun v3=>lf_ v3 1 h fun v6=>T Pg 206 [v6] h fun v7 h8=>x2_ v7 fun v9 v10=>sf_ v3 19 v9 h8 fun h13=>sf_ v3 6 (.func (.func 207) #[] #[]) h13 fun h16=>lf_ a0 1 h16 fun v19=>lf_ v3 0 h16 fun v22=>T Pg 208 [v19,v22] h16 fun v23 h24=>K v23 h24
def A185:Ann:=⟨fun | 4=> ((.range 10), [0,1,3,7,0,16,48,112,255,511]) | _=> ([], []),fun _=> []⟩
theorem S185_T{a0:VV}{h}{K}(g:S185 a0 h K):T Pg 185 [a0] h K:=gwT A185 Tryz.func185 g
def S186(a0 a1 a2:VV)(h:GH)(K:CC):Prop:=
 bnd (eqK .ptr true a1 nP_) fun b1=>ifV (.bool b1) (K (.tuple #[(.bool false),i64 1]) h) (lf_ a0 4 h fun v4=>ifV v4 (K (.tuple #[(.bool true),i64 0]) h) (callV Pg a2 [] h fun v5 h6=>lf_ a0 4 h6 fun v9=>ifV v9 (sf_ a0 4 (.bool true) h6 fun h12=>lf_ a0 4 h12 fun v15=>K (.tuple #[v15,v5]) h12) (bnd (eqI v5 (i64 0)) fun b16=>sf_ a0 4 (.bool (!b16)) h6 fun h19=>lf_ a0 4 h19 fun v22=>K (.tuple #[v22,v5]) h19)))
theorem S186_T{a0 a1 a2:VV}{h}{K}(g:S186 a0 a1 a2 h K):T Pg 186 [a0,a1,a2] h K:=gwT aN_ Tryz.func186 g
def S187(a0 a1:VV)(h:GH)(K:CC):Prop:=
 bnd (ldV 1 false a0 h) fun v1=>bnd (ncV v1) fun v2=>bnd (faV 0 v2) fun v3=>lg_ v3 0 h fun v5=>ei_ v5 (i64 0) (bnd (ldV 1 false a0 h) fun v7=>bnd (ncV v7) fun v8=>bnd (faV 0 v8) fun v9=>bnd (ldV 1 false a1 h) fun v10=>T Pg 188 [v9,v10] h fun v11 h12=>ni_ v11 (K (i64 1000) h12) (K (i64 0) h12)) (ei_ v5 (i64 1) (bnd (ldV 1 false a1 h) fun v15=>bnd (ldV 1 false a0 h) fun v16=>bnd (ncV v16) fun v17=>bnd (faV 5 v17) fun v18=>bnd (ldV 1 false v18 h) fun v19=>bnd (binV .add (i64 17) v19) fun v20=>bnd (ldV 1 false a0 h) fun v21=>bnd (ncV v21) fun v22=>
 bnd (faV 0 v22) fun v23=>bnd (faV 2 v23) fun v24=>lg_ v24 1 h fun v26=>T Pg 78 [v26] h fun v27 h28=>ldV 1 false v18 h28=some v19∧ldV 1 false a0 h28=some v16∧ldV 1 false a1 h28=some v15∧T Pg 35 [v15,v20,v27] h28 fun v29 h30=>bnd (ldV 1 false a0 h30) fun v31=>bnd (ncV v31) fun v32=>bnd (faV 0 v32) fun v33=>sg_ v33 0 (i64 2) h30 fun h35=>K (i64 0) h35) (bnd (ldV 1 false a0 h) fun v36=>bnd (ldV 1 false a0 h) fun v37=>bnd (ncV v37) fun v38=>bnd (faV 0 v38) fun v39=>bnd (ldV 1 false a1 h) fun v40=>bnd (ldV 1 false a0 h) fun v41=>lf_ v41 5 h fun v44=>
 bnd (binV .add v44 (i64 1)) fun v45=>T Pg 189 [v39,v40,v45] h fun v46 h47=>ldV 1 false a0 h47=some v36∧bnd (ncV v36) fun v48=>bnd (faV 0 v48) fun v49=>sg_ v49 4 v46 h47 fun h51=>K (i64 0) h51))
def A187:Ann:=⟨fun | 2=> ((.range 15), [0,0,2,6,0,0,32,96,224,480,1022,2047,4095,8191,16383]) | 4=> ((.range 6), [0,1,3,0,15,31]) | 7=> ((.range 14), [0,0,2,6,14,30,0,64,192,448,960,1984,4032,8191]) | _=> ([], []),fun _=> []⟩
theorem S187_T{a0 a1:VV}{h}{K}(g:S187 a0 a1 h K):T Pg 187 [a0,a1] h K:=gwT A187 Tryz.func187 g
def S188(a0 a1:VV)(h:GH)(K:CC):Prop:=
 T Pg 39 [a1,i64 16] h fun v1 h2=>x2_ v1 fun v3 v4=>sf_ a0 1 v3 h2 fun h7=>lf_ a0 1 h7 fun v10=>T Pg 123 [v10] h7 fun v11 h12=>x2_ v11 fun v13 v14=>newV 190 [i64 0,i64 0] h12 fun v15 h16=>bnd (stV 2 v15 v13 h16) fun h17=>bnd (ldV 2 true v15 h17) fun v18=>bnd (ncV a0) fun v19=>bnd (faV 2 v19) fun v20=>bnd (stV 2 v20 v18 h17) fun h21=>sf_ a0 0 (i64 1) h21 fun h24=>K v14 h24
theorem S188_T{a0 a1:VV}{h}{K}(g:S188 a0 a1 h K):T Pg 188 [a0,a1] h K:=gwT aN_ Tryz.func188 g
def S189(a0 a1 a2:VV)(h:GH)(K:CC):Prop:=
 bnd (ncV a0) fun v1=>bnd (faV 1 v1) fun v2=>bnd (ldV 1 false v2 h) fun v3=>bnd (ncV a0) fun v4=>bnd (faV 2 v4) fun v5=>bnd (ldV 2 true v5 h) fun v6=>T Pg 210 [v6,a2] h fun v7 h8=>ldV 1 false v2 h8=some v3∧T Pg 209 [a1,i64 16,v3,v7] h8 fun v9 h10=>x2_ v9 fun v11 v12=>sf_ a0 0 (i64 0) h10 fun h15=>lf_ a0 1 h15 fun v18=>bnd (eqI v11 v18) fun b19=>K (.bool b19) h15
def A189:Ann:=⟨fun | 1=> ((.range 17), [0,0,2,6,14,0,32,96,224,0,992,2047,4095,8191,8191,16383,65535]) | _=> ([], []),fun _=> []⟩
theorem S189_T{a0 a1 a2:VV}{h}{K}(g:S189 a0 a1 a2 h K):T Pg 189 [a0,a1,a2] h K:=gwT A189 Tryz.func189 g
def S190(a0:VV)(h:GH)(K:CC):Prop:=
 newV 133 [i64 0,i64 0] h fun v1 h2=>bnd (binV .rem a0 (i64 16)) fun v3=>bnd (binV .quo a0 (i64 16)) fun v4=>bnd (fillV [i64 0,i64 0] [(0,1,v3),(1,1,v4)]) fun c5=>bnd (stV 2 v1 (.agg c5.toArray) h2) fun h6=>bnd (ldV 2 true v1 h6) fun v7=>K v7 h6
theorem S190_T{a0:VV}{h}{K}(g:S190 a0 h K):T Pg 190 [a0] h K:=gwT aN_ Tryz.func190 g
def S191(a0:VV)(h:GH)(K:CC):Prop:=
 ivV Pg a0 "pawl/word.plain" [] h fun v1 h2 =>newV 225 [i64 0,i64 0,i64 0,i64 0,i64 0,i64 0,i64 0] h2 fun v3 h4=>bnd (stV 7 v3 v1 h4) fun h5=>lg_ v3 1 h5 fun v7=>T Pg 75 [v7,i64 1099511627776] h5 fun v8 h9=>ifV v8 (lg_ v3 2 h9 fun v11=>T Pg 75 [v11,i64 12] h9 fun v12 h13=>ifV v12 (lg_ v3 3 h13 fun v15=>T Pg 75 [v15,i64 65536] h13 fun v16 h17=>ifV v16 (lg_ v3 4 h17 fun v19=>T Pg 75 [v19,i64 16] h17 fun v20 h21=>ifV v20 (lg_ v3 5 h21 fun v23=>T Pg 75 [v23,i64 4] h21 fun v24 h25=>ifV v24 (
 lg_ v3 6 h25 fun v27=>T Pg 75 [v27,i64 1048576] h25 fun v28 h29=>K v28 h29) (K (.bool false) h25)) (K (.bool false) h21)) (K (.bool false) h17)) (K (.bool false) h13)) (K (.bool false) h9)
theorem S191_T{a0:VV}{h}{K}(g:S191 a0 h K):T Pg 191 [a0] h K:=gwT aN_ Tryz.func191 g
def S192_j1(x0 x1 x2 x3 x4 x12:VV)(h:GH)(K:CC) :Prop:=
 bsV 24 0 [] [] h fun v1 h2=>apV 24 4 32 v1 x4 h2 fun v3 h4=>bnd (fillV ([i64 0,i64 0,i64 0,i64 0,nS_] ++ List.replicate 16 (.bool false) ++ List.replicate 32 (i64 0) ++ [nP_,nP_,nP_,nS_,(.bool false),(.bool false),i64 0,i64 0]) [(0,1,x0),(1,1,x1),(2,1,x2),(3,1,x3),(4,1,v3),(59,1,(.int .i64 (-1)))]) fun c5=>newV 260 ((.agg c5.toArray):VV).cells.toList h4 fun v6 h7=>lg_ x12 0 h7 fun v9=>T Pg 213 [x0,x1,v9] h7 fun v10 h11=>x2_ v10 fun v12 v13=>sf_ v6 53 v12 h11 fun h16=>K (.tuple #[v6,i64 0]) h16
def S192(a0 a1 a2 a3 a4:VV)(h:GH)(K:CC):Prop:=
 bnd (fillV (List.replicate 16 (.bool false) ++ List.replicate 32 (i64 0)) []) fun c1=>T Pg 211 [(.agg c1.toArray),a4] h fun v2 h3=>x2_ v2 fun v4 v5=>newV 298 ([i64 0] ++ List.replicate 16 (.bool false) ++ List.replicate 32 (i64 0) ++ [nS_]) h3 fun v6 h7=>bnd (stV 50 v6 v4 h7) fun h8=>T Pg 164 [a0] h8 fun v9 h10=>ni_ v9 (K (.tuple #[nP_,i64 1700]) h10) (bi_ .lss a1 (i64 0) (K (.tuple #[nP_,i64 1700]) h10) (bi_ .gtr a1 (i64 1048575) (K (.tuple #[nP_,i64 1700]) h10) (T Pg 212 [a2,a3] h10 fun v14 h15=>ni_ v14 (
 K (.tuple #[nP_,i64 1700]) h15) (en_ v5 (i64 0) (K (.tuple #[nP_,i64 1700]) h15) (S192_j1 a0 a1 a2 a3 a4 v6 h15 K)))))
theorem S192_T{a0 a1 a2 a3 a4:VV}{h}{K}(g:S192 a0 a1 a2 a3 a4 h K):T Pg 192 [a0,a1,a2,a3,a4] h K:=gwT aN_ Tryz.func192 g
def S193(a0 a1:VV)(h:GH)(K:CC):Prop:=
 lf_ a0 53 h fun v3=>T Pg 214 [v3,a1] h fun v4 h5=>x2_ v4 fun v6 v7=>lf_ a0 53 h5 fun v10=>T Pg 215 [v10] h5 fun v11 h12=>x2_ v11 fun v13 v14=>sf_ a0 59 v13 h12 fun h17=>sf_ a0 60 v14 h17 fun h20=>lf_ a0 53 h20 fun v23=>lf_ v23 1 h20 fun v26=>sf_ a0 1 v26 h20 fun h29=>en_ v7 (i64 0) (sf_ a0 58 (.bool true) h29 fun h33=>K (.tuple #[(.bool true),i64 1700]) h33) (ni_ v6 (K (.tuple #[(.bool false),i64 0]) h29) (bnd (ncV a0) fun v35=>bnd (faV 5 v35) fun v36=>bnd (ldV 48 true v36 h29) fun v37=>
 newV 255 (List.replicate 16 (.bool false) ++ List.replicate 32 (i64 0)) h29 fun v38 h39=>bnd (stV 48 v38 v37 h39) fun h40=>lf_ a0 53 h40 fun v43=>lf_ v43 2 h40 fun v46=>bnd (faV 0 v38) fun v47=>bnd (iaV 16 1 v47 v46) fun v48=>bnd (stV 1 v48 (.bool true) h40) fun h49=>lf_ a0 53 h49 fun v52=>lf_ v52 4 h49 fun v55=>bnd (faV 16 v38) fun v56=>bnd (iaV 16 1 v56 v46) fun v57=>bnd (stV 1 v57 v55 h49) fun h58=>lf_ a0 53 h58 fun v61=>lf_ v61 4 h58 fun v64=>bnd (faV 32 v38) fun v65=>bnd (iaV 16 1 v65 v46) fun v66=>bnd (stV 1 v66 v64 h58) fun h67=>bnd (ldV 48 true v38 h67) fun v68=>
 bnd (ncV a0) fun v69=>bnd (faV 5 v69) fun v70=>bnd (stV 48 v70 v68 h67) fun h71=>bnd (ldV 48 true v38 h71) fun v72=>lf_ a0 4 h71 fun v75=>T Pg 211 [v72,v75] h71 fun v76 h77=>x2_ v76 fun v78 v79=>newV 298 ([i64 0] ++ List.replicate 16 (.bool false) ++ List.replicate 32 (i64 0) ++ [nS_]) h77 fun v80 h81=>bnd (stV 50 v80 v78 h81) fun h82=>en_ v79 (i64 0) (sf_ a0 58 (.bool true) h82 fun h86=>K (.tuple #[(.bool true),i64 1700]) h86) (lg_ v80 0 h82 fun v88=>bi_ .geq v88 (i64 0) (lf_ a0 0 h82 fun v92=>lf_ a0 1 h82 fun v95=>lg_ v80 0 h82 fun v97=>
 T Pg 213 [v92,v95,v97] h82 fun v98 h99=>x2_ v98 fun v100 v101=>sf_ a0 53 v100 h99 fun h104=>K (.tuple #[(.bool false),i64 0]) h104) (sf_ a0 53 nP_ h82 fun h107=>lg_ v80 49 h107 fun v109=>sf_ a0 56 v109 h107 fun h112=>bnd (ncV a0) fun v113=>bnd (faV 2 v113) fun v114=>bnd (ldV 1 false v114 h112) fun v115=>bnd (ncV a0) fun v116=>bnd (faV 3 v116) fun v117=>bnd (ldV 1 false v117 h112) fun v118=>bnd (faV 1 v80) fun v119=>bnd (ldV 48 true v119 h112) fun v120=>T Pg 217 [v120] h112 fun v121 h122=>ldV 1 false v117 h122=some v118∧ldV 1 false v114 h122=some v115∧
 T Pg 216 [v115,v118,v121] h122 fun v123 h124=>x2_ v123 fun v125 v126=>sf_ a0 54 v125 h124 fun h129=>K (.tuple #[(.bool false),i64 0]) h129))))
def A193:Ann:=⟨fun | 17=> ((.range 12), [0,0,2,6,14,31,63,127,127,0,767,2047]) | 22=> ((.range 16), [0,1,3,7,0,16,48,112,0,256,1023,2047,4095,4095,8191,32767]) | 27=> ((.range 17), [0,1,3,7,0,16,48,112,0,256,768,2047,4095,8191,8191,16383,65535]) | _=> ([], []),fun _=> []⟩
theorem S193_T{a0 a1:VV}{h}{K}(g:S193 a0 a1 h K):T Pg 193 [a0,a1] h K:=gwT A193 Tryz.func193 g
def S194_j1(x0:VV)(h:GH)(K:CC) :Prop:=
 lf_ x0 0 h fun v3=>lf_ x0 2 h fun v6=>bnd (lnV v6) fun v7=>bnd (binV .geq v3 v7) fun v8=>K (.tuple #[v8,i64 0]) h
def S194(a0 a1:VV)(h:GH)(K:CC):Prop:=
 lf_ a0 0 h fun v3=>lf_ a0 2 h fun v6=>bnd (lnV v6) fun v7=>bi_ .lss v3 v7 (lf_ a0 1 h fun v11=>bnd (ncV a0) fun v12=>bnd (faV 0 v12) fun v13=>bnd (ldV 1 false v13 h) fun v14=>bnd (ncV a0) fun v15=>bnd (faV 2 v15) fun v16=>bnd (ldV 1 false v16 h) fun v17=>bnd (ncV a0) fun v18=>bnd (faV 0 v18) fun v19=>bnd (ldV 1 false v19 h) fun v20=>bnd (isV 1 v17 v20) fun v21=>bnd (ldV 1 false v21 h) fun v22=>T Pg 121 [v11] h fun v23 h24=>ldV 1 false v21 h24=some v22∧ldV 1 false v19 h24=some v20∧ldV 1 false v16 h24=some v17∧ldV 1 false v13 h24=some v14∧bnd (binV .add v23 v14) fun v25=>
 T Pg 168 [a1,v25,v22] h24 fun v26 h27=>lf_ a0 0 h27 fun v30=>bnd (binV .add v30 (i64 1)) fun v31=>sf_ a0 0 v31 h27 fun h34=>S194_j1 a0 h34 K) (S194_j1 a0 h K)
def A194:Ann:=⟨fun | 1=> ((.range 10), [0,1,3,7,0,16,48,112,240,511]) | 2=> ([0,1,2,3,4,6,7,8,9,11,12,13,14,15,16,17,18,19,20,5,10,21], [0,0,2,6,14,30,0,64,192,448,1022,0,2048,6144,14336,0,32768,98304,229376,522240,1046528,2097151]) | 4=> ((.range 12), [0,1,3,7,0,16,48,112,240,511,1023,2047]) | _=> ([], []),fun _=> []⟩
theorem S194_T{a0 a1:VV}{h}{K}(g:S194 a0 a1 h K):T Pg 194 [a0,a1] h K:=gwT A194 Tryz.func194 g
def S195_j1(x1 x4:VV)(h:GH)(K:CC) :Prop:=
 lg_ x1 0 h fun v2=>ei_ v2 (i64 1) (bnd (binV .mul x4 (i64 16)) fun v4=>lg_ x1 4 h fun v6=>bnd (binV .add v4 v6) fun v7=>bnd (binV .mul v7 (i64 4)) fun v8=>lg_ x1 5 h fun v10=>bnd (binV .add v8 v10) fun v11=>bnd (binV .mul v11 (i64 1048576)) fun v12=>lg_ x1 6 h fun v14=>bnd (binV .add v12 v14) fun v15=>bnd (binV .mul (i64 4) v15) fun v16=>lg_ x1 0 h fun v18=>bnd (binV .add v16 v18) fun v19=>K (.tuple #[v19,i64 0]) h) (bnd (binV .mul (i64 4) x4) fun v20=>lg_ x1 0 h fun v22=>bnd (binV .add v20 v22) fun v23=>K (.tuple #[v23,i64 0]) h)
def S195(a0:VV)(h:GH)(K:CC):Prop:=
 newV 225 (a0:VV).cells.toList h fun v1 h2=>bnd (ldV 7 true v1 h2) fun v3=>T Pg 177 [v3] h2 fun v4 h5=>ni_ v4 (K (.tuple #[i64 0,i64 100]) h5) (lg_ v1 1 h5 fun v8=>lg_ v1 0 h5 fun v10=>en_ v10 (i64 0) (lg_ v1 3 h5 fun v13=>bnd (binV .mul v13 (i64 16)) fun v14=>lg_ v1 2 h5 fun v16=>bnd (binV .add v14 v16) fun v17=>S195_j1 v1 v17 h5 K) (S195_j1 v1 v8 h5 K))
theorem S195_T{a0:VV}{h}{K}(g:S195 a0 h K):T Pg 195 [a0] h K:=gwT aN_ Tryz.func195 g
def S196_j1(x0 x1 x2 x8:VV)(h:GH)(K:CC) :Prop:=
 bnd (ldV 7 true x8 h) fun v1=>bnd (fillV (List.replicate 14 (i64 0) ++ [(.bool false),(.bool false),i64 0]) [(0,7,v1),(7,1,x2)]) fun c2=>bsV 312 1 (List.replicate 14 (i64 0) ++ [(.bool false),(.bool false),i64 0]) [(0,17,(.agg c2.toArray))] h fun v3 h4=>bnd (fillV [i64 0,i64 0,nS_,(.bool false),i64 0,i64 0,(.bool false)] [(0,1,x0),(1,1,x1),(2,1,v3),(4,1,(.int .i64 (-1)))]) fun c5=>newV 286 ((.agg c5.toArray):VV).cells.toList h4 fun v6 h7=>K (.tuple #[v6,i64 0]) h7
def S196(a0 a1 a2:VV)(h:GH)(K:CC):Prop:=
 T Pg 154 [a2] h fun v1 h2=>x2_ v1 fun v3 v4=>newV 225 [i64 0,i64 0,i64 0,i64 0,i64 0,i64 0,i64 0] h2 fun v5 h6=>bnd (stV 7 v5 v3 h6) fun h7=>T Pg 164 [a0] h7 fun v8 h9=>ni_ v8 (K (.tuple #[nP_,i64 1400]) h9) (bi_ .lss a1 (i64 0) (K (.tuple #[nP_,i64 1400]) h9) (bi_ .gtr a1 (i64 1048575) (K (.tuple #[nP_,i64 1400]) h9) (en_ v4 (i64 0) (K (.tuple #[nP_,i64 1400]) h9) (lg_ v5 0 h9 fun v15=>ei_ v15 (i64 0) (K (.tuple #[nP_,i64 1400]) h9) (S196_j1 a0 a1 a2 v5 h9 K)))))
theorem S196_T{a0 a1 a2:VV}{h}{K}(g:S196 a0 a1 a2 h K):T Pg 196 [a0,a1,a2] h K:=gwT aN_ Tryz.func196 g
def S197_j4(x0 x6:VV)(h:GH)(K:CC) :Prop:=
 lf_ x0 2 h fun v3=>bnd (slV 17 v3 none (some x6)) fun v4=>sf_ x0 2 v4 h fun h7=>bnd (eqI x6 (i64 0)) fun b8=>sf_ x0 6 (.bool b8) h7 fun h11=>lf_ x0 6 h11 fun v14=>K (.tuple #[v14,i64 0]) h11
def S197_j3(x0 x6 x7 x9:VV)(h:GH)(K:CC) :Prop:=
 ifV x9 (lg_ x7 15 h fun v2=>ifV v2 (bnd (eqI x6 (i64 0)) fun b3=>sf_ x0 3 (.bool b3) h fun h6=>S197_j4 x0 x6 h6 K) (sf_ x0 3 (.bool false) h fun h9=>S197_j4 x0 x6 h9 K)) (lf_ x0 6 h fun v12=>K (.tuple #[v12,i64 0]) h)
def S197_j2(x0 x6 x7 x9 x10:VV)(h:GH)(K:CC) :Prop:=
 en_ x10 (i64 0) (T Pg 154 [x10] h fun v2 h3=>x2_ v2 fun v4 v5=>newV 225 [i64 0,i64 0,i64 0,i64 0,i64 0,i64 0,i64 0] h3 fun v6 h7=>bnd (stV 7 v6 v4 h7) fun h8=>lf_ x0 2 h8 fun v11=>bnd (ldV 7 true v6 h8) fun v12=>bnd (fillV (List.replicate 14 (i64 0) ++ [(.bool false),(.bool false),i64 0]) [(0,7,v12),(7,1,x10)]) fun c13=>bsV 312 1 (List.replicate 14 (i64 0) ++ [(.bool false),(.bool false),i64 0]) [(0,17,(.agg c13.toArray))] h8 fun v14 h15=>apV 312 17 128 v11 v14 h15 fun v16 h17=>sf_ x0 2 v16 h17 fun h20=>
 S197_j3 x0 x6 x7 x9 h20 K) (S197_j3 x0 x6 x7 x9 h K)
def S197_j1(x0 x6 x7 x8 x9 x10:VV)(h:GH)(K:CC) :Prop:=
 lf_ x0 2 h fun v3=>bnd (ldV 17 true x7 h) fun v4=>bnd (isV 17 v3 x6) fun v5=>bnd (stV 17 v5 v4 h) fun h6=>ni_ x8 (sf_ x0 6 (.bool true) h6 fun h10=>K (.tuple #[(.bool true),i64 1400]) h10) (en_ x10 (i64 0) (lf_ x0 2 h6 fun v14=>bnd (lnV v14) fun v15=>bi_ .geq v15 (i64 18) (sf_ x0 6 (.bool true) h6 fun h19=>K (.tuple #[(.bool true),i64 1400]) h19) (S197_j2 x0 x6 x7 x9 x10 h6 K)) (S197_j2 x0 x6 x7 x9 x10 h6 K))
def S197_j5(x0 x1 x6 x7:VV)(h:GH)(K:CC) :Prop:=
 T Pg 219 [x7,x1] h fun v1 h2=>x2_ v1 fun v3 v4=>bnd (exV v1 2) fun v5=>S197_j1 x0 x6 x7 v4 v5 v3 h2 K
def S197(a0 a1:VV)(h:GH)(K:CC):Prop:=
 lf_ a0 6 h fun v3=>ifV v3 (K (.tuple #[(.bool true),i64 0]) h) (lf_ a0 2 h fun v6=>bnd (lnV v6) fun v7=>bnd (binV .sub v7 (i64 1)) fun v8=>lf_ a0 2 h fun v11=>bnd (isV 17 v11 v8) fun v12=>bnd (ldV 17 true v12 h) fun v13=>newV 312 (List.replicate 14 (i64 0) ++ [(.bool false),(.bool false),i64 0]) h fun v14 h15=>bnd (stV 17 v14 v13 h15) fun h16=>bnd (faV 0 v14) fun v17=>lg_ v17 2 h16 fun v19=>sf_ a0 4 v19 h16 fun h22=>bnd (faV 0 v14) fun v23=>lg_ v23 3 h22 fun v25=>sf_ a0 5 v25 h22 fun h28=>bnd (faV 0 v14) fun v29=>lg_ v29 0 h28 fun v31=>ei_ v31 (i64 1) (
 T Pg 218 [v14,a1] h28 fun v33 h34=>x2_ v33 fun v35 v36=>S197_j1 a0 v8 v14 v35 v36 (i64 0) h34 K) (lg_ v14 8 h28 fun v38=>ei_ v38 (i64 5) (bnd (faV 0 v14) fun v40=>lg_ v40 2 h28 fun v42=>bnd (faV 0 v14) fun v43=>lg_ v43 3 h28 fun v45=>lg_ v14 9 h28 fun v47=>lf_ a0 0 h28 fun v50=>lf_ a0 1 h28 fun v53=>bnd (fillV [i64 0,i64 0,i64 0,i64 0,i64 0,i64 0,i64 0] [(0,1,(i64 1)),(2,1,v42),(3,1,v45),(4,1,v47),(5,1,v50),(6,1,v53)]) fun c54=>T Pg 195 [(.agg c54.toArray)] h28 fun v55 h56=>x2_ v55 fun v57 v58=>
 sg_ v14 13 v57 h56 fun h60=>lf_ a0 1 h60 fun v63=>bnd (binV .add v63 (i64 1)) fun v64=>bnd (binV .rem v64 (i64 1048576)) fun v65=>sf_ a0 1 v65 h60 fun h68=>S197_j5 a0 a1 v8 v14 h68 K) (S197_j5 a0 a1 v8 v14 h28 K)))
def A197:Ann:=⟨fun | 15=> ((.range 23), [0,1,3,0,8,24,0,64,0,256,768,1792,0,4096,12288,28672,65535,131071,262143,524287,524287,1048575,4194303]) | 22=> ((.range 8), [0,1,3,7,0,0,63,127]) | 28=> ((.range 13), [0,0,2,6,14,0,0,96,224,510,1023,2047,4095]) | _=> ([], []),fun _=> []⟩
theorem S197_T{a0 a1:VV}{h}{K}(g:S197 a0 a1 h K):T Pg 197 [a0,a1] h K:=gwT A197 Tryz.func197 g
def S198(a0:VV)(h:GH)(K:CC):Prop:=
 lf_ a0 4 h fun v3=>lf_ a0 5 h fun v6=>K (.tuple #[v3,v6]) h
def A198:Ann:=⟨fun | 1=> ((.range 10), [0,1,3,7,0,16,48,112,15,511]) | _=> ([], []),fun _=> []⟩
theorem S198_T{a0:VV}{h}{K}(g:S198 a0 h K):T Pg 198 [a0] h K:=gwT A198 Tryz.func198 g
def S199(a0:VV)(h:GH)(K:CC):Prop:=
 newV 225 (a0:VV).cells.toList h fun v1 h2=>lg_ v1 2 h2 fun v4=>bi_ .geq v4 (i64 0) (lg_ v1 2 h2 fun v7=>bi_ .lss v7 (i64 12) (lg_ v1 3 h2 fun v10=>bi_ .geq v10 (i64 0) (lg_ v1 3 h2 fun v13=>bnd (binV .leq v13 (i64 65535)) fun v14=>K v14 h2) (K (.bool false) h2)) (K (.bool false) h2)) (K (.bool false) h2)
theorem S199_T{a0:VV}{h}{K}(g:S199 a0 h K):T Pg 199 [a0] h K:=gwT aN_ Tryz.func199 g
def S200_j1(x0 x1 x2 x3 x4 x12:VV)(h:GH)(K:CC) :Prop:=
 bnd (fillV [i64 0,i64 0] [(0,1,x2),(1,1,x3)]) fun c1=>bnd (ldV 50 true x12 h) fun v2=>T Pg 77 [x4] h fun v3 h4=>ldV 50 true x12 h4=some v2∧bnd (fillV ([i64 0,i64 0,i64 0,i64 0,nS_,i64 0] ++ List.replicate 16 (.bool false) ++ List.replicate 32 (i64 0) ++ [nS_, .nilIface,i64 0,i64 0,(.bool false),(.bool false),nS_]) [(0,1,x0),(1,1,x1),(2,2,(.agg c1.toArray)),(4,1,v3),(5,50,v2),(56,1,(.int .i64 (-1)))]) fun c5=>newV 322 ((.agg c5.toArray):VV).cells.toList h4 fun v6 h7=>T Pg 222 [v6] h7 fun v8 h9=>
 sf_ v6 55 v8 h9 fun h12=>K (.tuple #[v6,i64 0]) h12
def S200(a0 a1 a2 a3 a4:VV)(h:GH)(K:CC):Prop:=
 bnd (fillV (List.replicate 16 (.bool false) ++ List.replicate 32 (i64 0)) []) fun c1=>T Pg 220 [(.agg c1.toArray),a4] h fun v2 h3=>x2_ v2 fun v4 v5=>newV 298 ([i64 0] ++ List.replicate 16 (.bool false) ++ List.replicate 32 (i64 0) ++ [nS_]) h3 fun v6 h7=>bnd (stV 50 v6 v4 h7) fun h8=>T Pg 131 [a0] h8 fun v9 h10=>ni_ v9 (K (.tuple #[nP_,i64 1700]) h10) (T Pg 75 [a1,i64 1048576] h10 fun v12 h13=>ni_ v12 (K (.tuple #[nP_,i64 1700]) h13) (T Pg 221 [a2,a3] h13 fun v15 h16=>ni_ v15 (K (.tuple #[nP_,i64 1700]) h16) (en_ v5 (i64 0) (
 K (.tuple #[nP_,i64 1700]) h16) (S200_j1 a0 a1 a2 a3 a4 v6 h16 K))))
def A200:Ann:=⟨fun | 4=> ([0,1,2,3,4,5,7,6,8,9,10], [0,0,0,0,12,0,32,0,255,511,1023]) | _=> ([], []),fun _=> []⟩
theorem S200_T{a0 a1 a2 a3 a4:VV}{h}{K}(g:S200 a0 a1 a2 a3 a4 h K):T Pg 200 [a0,a1,a2,a3,a4] h K:=gwT A200 Tryz.func200 g
def S201_j3(x0 x6 x7:VV)(h:GH)(K:CC) :Prop:=
 en_ x7 (i64 0) (sf_ x0 59 (.bool true) h fun h4=>K (.tuple #[(.bool true),i64 1700]) h4) (ni_ x6 (K (.tuple #[(.bool false),i64 0]) h) (lf_ x0 55 h fun v8=>bnd (taV 327 nP_ true v8) fun v9=>bnd (exV v9 1) fun v10=>bnd (exV v9 0) fun v11=>ifV v10 (T Pg 223 [x0,v11] h fun v12 h13=>lf_ x0 59 h13 fun v16=>K (.tuple #[v16,i64 0]) h13) (bnd (taV 329 nP_ true v8) fun v17=>bnd (exV v17 1) fun v18=>bnd (exV v17 0) fun v19=>ifV v18 (bnd (ncV x0) fun v20=>bnd (faV 0 v20) fun v21=>bnd (ldV 1 false v21 h) fun v22=>bnd (ncV x0) fun v23=>bnd (faV 1 v23) fun v24=>
 bnd (ldV 1 false v24 h) fun v25=>bnd (ncV x0) fun v26=>bnd (faV 2 v26) fun v27=>bnd (ldV 2 true v27 h) fun v28=>T Pg 225 [(.iface 133 v28)] h fun v29 h30=>ldV 1 false v24 h30=some v25∧ldV 1 false v21 h30=some v22∧T Pg 224 [v22,v25,v29] h30 fun v31 h32=>x2_ v31 fun v33 v34=>sf_ x0 55 (.iface 330 v33) h32 fun h37=>lf_ x0 59 h37 fun v40=>K (.tuple #[v40,i64 0]) h37) (bnd (taV 330 nP_ true v8) fun v41=>bnd (exV v41 1) fun v42=>bnd (exV v41 0) fun v43=>ifV v42 (T Pg 226 [v43] h fun v44 h45=>sf_ x0 58 v44 h45 fun h48=>sf_ x0 59 (.bool true) h48 fun h51=>lf_ x0 59 h51 fun v54=>
 K (.tuple #[v54,i64 0]) h51) (lf_ x0 59 h fun v57=>K (.tuple #[v57,i64 0]) h)))))
def S201_j2(x0 x1:VV)(h:GH)(K:CC) :Prop:=
 lf_ x0 55 h fun v3=>ivV Pg v3 "Step" [x1] h fun v4 h5 =>x2_ v4 fun v6 v7=>bnd (ncV x0) fun v8=>bnd (faV 2 v8) fun v9=>lg_ v9 0 h5 fun v11=>bnd (ncV x0) fun v12=>bnd (faV 2 v12) fun v13=>lg_ v13 1 h5 fun v15=>sf_ x0 56 v11 h5 fun h18=>sf_ x0 57 v15 h18 fun h21=>lf_ x0 55 h21 fun v24=>bnd (tiV Pg #[("Seq", 179), ("Step", 202), ("Through", 48)] .nilIface true v24) fun v25 =>x2_ v25 fun v26 v27=>ifV v27 (ivV Pg v26 "Through" [] h21 fun v28 h29 =>x2_ v28 fun v30 v31=>sf_ x0 56 v30 h29 fun h34=>sf_ x0 57 v31 h34 fun h37=>ivV Pg v26 "Seq" [] h37 fun v38 h39 =>sf_ x0 1 v38 h39 fun h42=>
 S201_j3 x0 v6 v7 h42 K) (S201_j3 x0 v6 v7 h21 K)
def S201_j1(x0 x1 x15:VV)(h:GH)(K:CC) :Prop:=
 ifV x15 (K (.tuple #[(.bool false),i64 1]) h) (lf_ x0 59 h fun v3=>ifV v3 (K (.tuple #[(.bool true),i64 0]) h) (S201_j2 x0 x1 h K))
def S201(a0 a1:VV)(h:GH)(K:CC):Prop:=
 bnd (eqK .ptr true a0 nP_) fun b1=>ifV (.bool b1) (S201_j1 a0 a1 (.bool true) h K) (bnd (eqK .ptr true a1 nP_) fun b2=>S201_j1 a0 a1 (.bool b2) h K)
def A201:Ann:=⟨fun | 6=> ((.range 18), [0,0,0,4,12,28,60,0,128,384,896,1920,4093,8189,16381,32767,65535,131071]) | 22=> ((.range 20), [0,1,3,7,0,16,48,112,0,256,768,1792,3840,7936,16383,32767,65535,65535,131071,524287]) | _=> ([], []),fun _=> []⟩
theorem S201_T{a0 a1:VV}{h}{K}(g:S201 a0 a1 h K):T Pg 201 [a0,a1] h K:=gwT A201 Tryz.func201 g
def S202(a0:VV)(h:GH)(K:CC):Prop:=
 bnd (eqK .ptr true a0 nP_) fun b1=>ifV (.bool b1) (K (.tuple #[i64 0,i64 0]) h) (lf_ a0 56 h fun v4=>lf_ a0 57 h fun v7=>K (.tuple #[v4,v7]) h)
def A202:Ann:=⟨fun | 3=> ((.range 10), [0,1,3,7,0,16,48,112,15,511]) | _=> ([], []),fun _=> []⟩
theorem S202_T{a0:VV}{h}{K}(g:S202 a0 h K):T Pg 202 [a0] h K:=gwT A202 Tryz.func202 g
def S203(a0:VV)(h:GH)(K:CC):Prop:=
 bnd (eqK .ptr true a0 nP_) fun b1=>ifV (.bool b1) (K (i64 0) h) (lf_ a0 1 h fun v4=>K v4 h)
theorem S203_T{a0:VV}{h}{K}(g:S203 a0 h K):T Pg 203 [a0] h K:=gwT aN_ Tryz.func203 g
def S204(a0:VV)(h:GH)(K:CC):Prop:=
 lf_ a0 0 h fun v3=>lf_ a0 1 h fun v6=>T Pg 39 [v6,i64 29] h fun v7 h8=>x2_ v7 fun v9 v10=>T Pg 178 [v9] h8 fun v11 h12=>x2_ v11 fun v13 v14=>ni_ v14 (K (i64 1800) h12) (lf_ v3 12 h12 fun v18=>lf_ v3 14 h12 fun v21=>bnd (fillV [i64 0,i64 0] [(0,1,v21),(1,1,v13)]) fun c22=>bsV 220 1 [i64 0,i64 0] [(0,2,(.agg c22.toArray))] h12 fun v23 h24=>apV 220 2 16 v18 v23 h24 fun v25 h26=>sf_ v3 12 v25 h26 fun h29=>sf_ v3 14 (.int .i64 (-1)) h29 fun h32=>sf_ v3 6 (.func (.func 185) #[] #[]) h32 fun h35=>lf_ v3 18 h35 fun v38=>T Pg 227 [v38] h35 fun v39 h40=>
 ifV v39 (sf_ v3 20 (i64 0) h40 fun h43=>K (i64 0) h43) (K (i64 0) h40))
def A204:Ann:=⟨fun | 6=> ((.range 16), [0,0,2,6,14,0,32,96,224,0,992,2016,4094,8191,16383,32767]) | _=> ([], []),fun _=> []⟩
theorem S204_T{a0:VV}{h}{K}(g:S204 a0 h K):T Pg 204 [a0] h K:=gwT A204 Tryz.func204 g
def S205(a0 a1:VV)(h:GH)(K:CC):Prop:=
 bnd (ldV 1 false a0 h) fun v1=>bnd (ncV v1) fun v2=>bnd (faV 0 v2) fun v3=>lg_ v3 0 h fun v5=>ei_ v5 (i64 0) (bnd (ldV 1 false a0 h) fun v7=>bnd (ncV v7) fun v8=>bnd (faV 0 v8) fun v9=>bnd (ldV 1 false a1 h) fun v10=>T Pg 188 [v9,v10] h fun v11 h12=>bnd (ldV 1 false a0 h12) fun v13=>bnd (ldV 1 false a0 h12) fun v14=>bnd (ncV v14) fun v15=>bnd (faV 0 v15) fun v16=>bnd (faV 2 v16) fun v17=>lg_ v17 1 h12 fun v19=>bnd (eqI v19 (i64 0)) fun b20=>bnd (ncV v13) fun v21=>bnd (faV 0 v21) fun v22=>sg_ v22 4 (.bool b20) h12 fun h24=>ni_ v11 (K (i64 1000) h24) (K (i64 0) h24)) (
 ei_ v5 (i64 1) (bnd (ldV 1 false a1 h) fun v27=>bnd (ldV 1 false a0 h) fun v28=>bnd (ncV v28) fun v29=>bnd (faV 0 v29) fun v30=>bnd (faV 2 v30) fun v31=>lg_ v31 1 h fun v33=>bnd (binV .add (i64 17) v33) fun v34=>bnd (binV .sub v34 (i64 1)) fun v35=>T Pg 39 [v27,v35] h fun v36 h37=>x2_ v36 fun v38 v39=>bnd (ldV 1 false a0 h37) fun v40=>T Pg 124 [v38] h37 fun v41 h42=>ldV 1 false a0 h42=some v40∧x2_ v41 fun v43 v44=>sf_ v40 5 v43 h42 fun h47=>bnd (ldV 1 false a0 h47) fun v48=>bnd (ncV v48) fun v49=>bnd (faV 0 v49) fun v50=>sg_ v50 0 (i64 2) h47 fun h52=>ni_ v44 (
 K (i64 1000) h52) (K (i64 0) h52)) (bnd (ldV 1 false a0 h) fun v54=>bnd (ncV v54) fun v55=>bnd (faV 0 v55) fun v56=>bnd (ldV 1 false a1 h) fun v57=>bnd (ldV 1 false a0 h) fun v58=>lf_ v58 5 h fun v61=>T Pg 189 [v56,v57,v61] h fun v62 h63=>ifV v62 (bnd (ldV 1 false a0 h63) fun v64=>bnd (ldV 1 false a0 h63) fun v65=>bnd (ldV 1 false a0 h63) fun v66=>bnd (ncV v66) fun v67=>bnd (faV 0 v67) fun v68=>bnd (faV 2 v68) fun v69=>lg_ v69 1 h63 fun v71=>bnd (binV .sub v71 (i64 1)) fun v72=>sf_ v64 6 v72 h63 fun h75=>ldV 1 false a0 h75=some v65∧bnd (ncV v65) fun v76=>
 bnd (faV 0 v76) fun v77=>sg_ v77 4 (.bool true) h75 fun h79=>ni_ (.bool true) (K (i64 1000) h79) (K (i64 0) h79)) (ni_ (.bool true) (K (i64 1000) h63) (K (i64 0) h63))))
def A205:Ann:=⟨fun | 3=> ((.range 9), [0,1,3,0,0,16,48,112,255]) | 4=> ((.range 16), [0,0,0,4,12,28,60,124,252,509,1021,2045,4095,8191,16383,32767]) | 6=> ((.range 6), [0,1,3,0,15,31]) | 7=> ((.range 12), [0,0,2,6,14,30,62,126,255,511,1023,2047]) | 9=> ((.range 15), [0,0,2,6,14,30,62,126,254,511,1023,2047,2047,4095,16383]) | 10=> ((.range 10), [0,0,2,6,14,14,31,95,223,511]) | _=> ([], []),fun _=> []⟩
theorem S205_T{a0 a1:VV}{h}{K}(g:S205 a0 a1 h K):T Pg 205 [a0,a1] h K:=gwT A205 Tryz.func205 g
def S206(a0:VV)(h:GH)(K:CC):Prop:=
 bi_ .lss a0 (i64 1) (K (.tuple #[nP_,i64 1100]) h) (bi_ .gtr a0 (i64 4) (K (.tuple #[nP_,i64 1100]) h) (bnd (fillV [i64 0,i64 0,i64 0,(.bool false),(.bool false)] [(0,1,a0),(1,1,(.int .i64 (-1)))]) fun c3=>newV 335 ((.agg c3.toArray):VV).cells.toList h fun v4 h5=>K (.tuple #[v4,i64 0]) h5))
theorem S206_T{a0:VV}{h}{K}(g:S206 a0 h K):T Pg 206 [a0] h K:=gwT aN_ Tryz.func206 g
def S207_j1(x0 x4 x24:VV)(h:GH)(K:CC) :Prop:=
 ifV x24 (lf_ x0 0 h fun v3=>lf_ x0 3 h fun v6=>T Pg 229 [v3,v6] h fun v7 h8=>K x4 h8) (K x4 h)
def S207(a0:VV)(h:GH)(K:CC):Prop:=
 lf_ a0 0 h fun v3=>lf_ v3 19 h fun v6=>lf_ a0 1 h fun v9=>T Pg 228 [v6,v9] h fun v10 h11=>x2_ v10 fun v12 v13=>ifV v12 (bnd (eqI v13 (i64 0)) fun b14=>S207_j1 a0 v13 (.bool b14) h11 K) (S207_j1 a0 v13 (.bool false) h11 K)
def A207:Ann:=⟨fun | 1=> ((.range 17), [0,1,3,7,15,31,63,0,128,384,896,2047,4095,8191,8191,16383,65535]) | 3=> ((.range 9), [0,1,3,7,0,16,48,112,255]) | _=> ([], []),fun _=> []⟩
theorem S207_T{a0:VV}{h}{K}(g:S207 a0 h K):T Pg 207 [a0] h K:=gwT A207 Tryz.func207 g
def S208(a0 a1:VV)(h:GH)(K:CC):Prop:=
 bnd (eqK .ptr true a0 nP_) fun b1=>ifV (.bool b1) (K (i64 1) h) (T Pg 131 [a1] h fun v2 h3=>ni_ v2 (K (i64 1100) h3) (T Pg 155 [a0,a1,i64 0] h3 fun v5 h6=>K (i64 0) h6))
theorem S208_T{a0 a1:VV}{h}{K}(g:S208 a0 a1 h K):T Pg 208 [a0,a1] h K:=gwT aN_ Tryz.func208 g
def S209(a0 a1 a2 a3:VV)(h:GH)(K:CC):Prop:=
 newV 3 (a2:VV).cells.toList h fun v1 h2=>newV 3 (a3:VV).cells.toList h2 fun v3 h4=>T Pg 82 [a0,i64 2,a1,(.func (.func 230) #[] #[v1,v3])] h4 fun v5 h6=>x2_ v5 fun v7 v8=>K (.tuple #[v7,v8]) h6
theorem S209_T{a0 a1 a2 a3:VV}{h}{K}(g:S209 a0 a1 a2 a3 h K):T Pg 209 [a0,a1,a2,a3] h K:=gwT aN_ Tryz.func209 g
def S210(a0 a1:VV)(h:GH)(K:CC):Prop:=
 newV 190 (a0:VV).cells.toList h fun v1 h2=>lg_ v1 0 h2 fun v4=>bnd (binV .add v4 (i64 1)) fun v5=>bnd (binV .rem v5 (i64 1073741824)) fun v6=>bnd (binV .mul v6 (i64 16)) fun v7=>bnd (binV .add v7 a1) fun v8=>T Pg 78 [v8] h2 fun v9 h10=>K v9 h10
theorem S210_T{a0 a1:VV}{h}{K}(g:S210 a0 a1 h K):T Pg 210 [a0,a1] h K:=gwT aN_ Tryz.func210 g
def S211_j2(s1:Nat→Value)(x1 x2 x4 x7:VV)(h:GH)(K:CC)(again3:(Nat→VV)→GH→Prop):Prop:=
 bnd (isV 4 x1 x7) fun v1=>bnd (ldV 4 true v1 h) fun v2=>T Pg 117 [v2] h fun v3 h4=>bnd (binV .add x7 (i64 1)) fun v5=>again3 (tup [x1,x2,x4,v3,v5]) h4
def S211_j3(s1:Nat→Value)(x1 x2 x4 x6:VV)(h:GH)(K:CC)(again3:(Nat→VV)→GH→Prop):Prop:=
 ni_ x6 (bnd (fillV ([i64 0] ++ List.replicate 16 (.bool false) ++ List.replicate 32 (i64 0) ++ [nS_]) []) fun c2=>bnd (stV 50 x4 (.agg c2.toArray) h) fun h3=>bnd (ldV 50 true x4 h3) fun v4=>K (.tuple #[v4,i64 700]) h3) (bnd (ldV 48 true x2 h) fun v5=>newV 255 (List.replicate 16 (.bool false) ++ List.replicate 32 (i64 0)) h fun v6 h7=>bnd (stV 48 v6 v5 h7) fun h8=>Lfp (fun (s9:Nat→Value) h10 again11=>bnd (lnV (s9 0)) fun v12=>bi_ .lss (s9 5) v12 (bnd (ldV 48 true (s9 3) h10) fun v14=>bnd (isV 4 (s9 0) (s9 5)) fun v15=>bnd (ldV 4 true v15 h10) fun v16=>
 T Pg 232 [v14,v16] h10 fun v17 h18=>newV 298 ([i64 0] ++ List.replicate 16 (.bool false) ++ List.replicate 32 (i64 0) ++ [nS_]) h18 fun v19 h20=>bnd (stV 50 v19 v17 h20) fun h21=>lg_ v19 0 h21 fun v23=>bi_ .geq v23 (i64 0) (lg_ v19 0 h21 fun v26=>bnd (ldV 48 true (s9 1) h21) fun v27=>bnd (fillV ([i64 0] ++ List.replicate 16 (.bool false) ++ List.replicate 32 (i64 0) ++ [nS_]) [(0,1,v26),(1,48,v27)]) fun c28=>bnd (stV 50 (s9 2) (.agg c28.toArray) h21) fun h29=>bnd (ldV 50 true (s9 2) h29) fun v30=>K (.tuple #[v30,i64 0]) h29) (lg_ v19 49 h21 fun v32=>
 apV 122 2 16 (s9 4) v32 h21 fun v33 h34=>lg_ v19 49 h34 fun v36=>bnd (isV 2 v36 (i64 0)) fun v37=>lg_ v37 0 h34 fun v39=>en_ v39 (i64 0) (bnd (ldV 48 true (s9 1) h34) fun v41=>bnd (fillV ([i64 0] ++ List.replicate 16 (.bool false) ++ List.replicate 32 (i64 0) ++ [nS_]) [(0,1,(.int .i64 (-1))),(1,48,v41),(49,1,v33)]) fun c42=>bnd (stV 50 (s9 2) (.agg c42.toArray) h34) fun h43=>bnd (ldV 50 true (s9 2) h43) fun v44=>K (.tuple #[v44,i64 0]) h43) (bnd (faV 1 v19) fun v45=>bnd (ldV 48 true v45 h34) fun v46=>bnd (stV 48 (s9 3) v46 h34) fun h47=>
 bnd (binV .add (s9 5) (i64 1)) fun v48=>again11 (tup [(s9 0),(s9 1),(s9 2),(s9 3),v33,v48]) h47))) (bnd (ldV 48 true (s9 3) h10) fun v49=>bnd (fillV ([i64 0] ++ List.replicate 16 (.bool false) ++ List.replicate 32 (i64 0) ++ [nS_]) [(0,1,(.int .i64 (-1))),(1,48,v49),(49,1,(s9 4))]) fun c50=>bnd (stV 50 (s9 2) (.agg c50.toArray) h10) fun h51=>bnd (ldV 50 true (s9 2) h51) fun v52=>K (.tuple #[v52,i64 0]) h51)) (tup [x1,x2,x4,v6,nS_,i64 0]) h8)
def S211_j1(x1 x2 x4 x6:VV)(h:GH)(K:CC) :Prop:=
 Lfp (fun (s1:Nat→Value) h2 again3=>bnd (lnV (s1 0)) fun v4=>bi_ .lss (s1 4) v4 (ifV (s1 3) (S211_j2 s1 (s1 0) (s1 1) (s1 2) (s1 4) h2 K again3) (S211_j3 s1 (s1 0) (s1 1) (s1 2) (s1 3) h2 K again3)) (S211_j3 s1 (s1 0) (s1 1) (s1 2) (s1 3) h2 K again3)) (tup [x1,x2,x4,x6,i64 0]) h
def S211(a0 a1:VV)(h:GH)(K:CC):Prop:=
 newV 255 (a0:VV).cells.toList h fun v1 h2=>newV 298 ([i64 0] ++ List.replicate 16 (.bool false) ++ List.replicate 32 (i64 0) ++ [nS_]) h2 fun v3 h4=>bnd (ldV 48 true v1 h4) fun v5=>T Pg 231 [v5] h4 fun v6 h7=>ifV v6 (bnd (lnV a1) fun v8=>bi_ .geq v8 (i64 1) (bnd (lnV a1) fun v10=>bnd (binV .leq v10 (i64 2)) fun v11=>S211_j1 a1 v1 v3 v11 h7 K) (S211_j1 a1 v1 v3 (.bool false) h7 K)) (S211_j1 a1 v1 v3 (.bool false) h7 K)
def A211:Ann:=⟨fun | 13=> ((.range 8), [0,0,0,6,14,31,0,127]) | _=> ([], []),fun | 0=> [1,2,4,6,7] | 2=> [1,2,4,8,9,10] | _=> []⟩
theorem S211_T{a0 a1:VV}{h}{K}(g:S211 a0 a1 h K):T Pg 211 [a0,a1] h K:=gwT A211 Tryz.func211 g
def S212(a0 a1:VV)(h:GH)(K:CC):Prop:=
 bi_ .geq a0 (i64 0) (bi_ .lss a0 (i64 12) (bi_ .geq a1 (i64 0) (bnd (binV .leq a1 (i64 65535)) fun v4=>K v4 h) (K (.bool false) h)) (K (.bool false) h)) (K (.bool false) h)
theorem S212_T{a0 a1:VV}{h}{K}(g:S212 a0 a1 h K):T Pg 212 [a0,a1] h K:=gwT aN_ Tryz.func212 g
end Go.Proofs.YtfphpafkhljncaaGreat
