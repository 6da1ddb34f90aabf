/- Several texts in one; nothing here is a statement on the program. -/
import Derived.Test.YtfphpafkhljncaaGreatQR2
import Derived.Test.YtfphpafkhljncaaGreatProg
import Derived.KernelRfl
set_option linter.unusedVariables false
set_option linter.unusedSimpArgs false
namespace Go.Proofs.YtfphpafkhljncaaGreat
open Go GW Go.Proofs
set_option maxRecDepth 100000
def A8:Ann:=⟨fun | 13=> ((.range 9), [0,0,3,7,0,0,48,112,255]) | _=> ([], []),fun | 0=> [1,5,7,8,9,10] | _=> []⟩
def S11_j3(s4:Nat→Value)(x1 x6 x8 x10:VV)(h:GH)(K:CC)(again6:(Nat→VV)→GH→Prop):Prop:=
 bnd (binV .and x10 (i64 31)) fun v1=>ei_ v1 (i64 31) (T Pg 53 [x6] h fun v3 h4=>T Pg 63 [x8] h4 fun v5 h6=>T Pg 62 [v3,v5] h6 fun v7 h8=>ni_ v7 (K (.bool false) h8) (T Pg 64 [v3] h8 fun v10 h11=>bnd (binV .add x10 (i64 1)) fun v12=>again6 (tup [x1,x6,x8,v12]) h11)) (bnd (binV .add x10 (i64 1)) fun v13=>again6 (tup [x1,x6,x8,v13]) h)
def S11_j2(s4:Nat→Value)(x1 x6 x8 x10:VV)(h:GH)(K:CC)(again6:(Nat→VV)→GH→Prop):Prop:=
 li_ x1 x10 h fun v2=>T Pg 48 [x6,v2] h fun v3 h4=>x2_ v3 fun v5 v6=>li_ x1 x10 h4 fun v8=>T Pg 59 [x8,v8] h4 fun v9 h10=>x2_ v9 fun v11 v12=>bnd (eqK .bool false v5 v11) fun b13=>ifV (.bool (!b13)) (K (.bool false) h10) (T Pg 30 [v6] h10 fun v14 h15=>en_ v14 v12 (K (.bool false) h15) (T Pg 60 [x6] h15 fun v17 h18=>T Pg 61 [x8] h18 fun v19 h20=>bnd (eqK .bool false v17 v19) fun b21=>ifV (.bool (!b21)) (K (.bool false) h20) (S11_j3 s4 x1 x6 x8 x10 h20 K again6)))
def S11_j5(s4:Nat→Value)(x6 x8 x16 x17 x18:VV)(h:GH)(K:CC)(again6:(Nat→VV)→GH→Prop):Prop:=
 T Pg 64 [x16] h fun v1 h2=>T Pg 67 [x17] h2 fun v3 h4=>T Pg 44 [x18] h4 fun v5 h6=>T Pg 53 [x6] h6 fun v7 h8=>T Pg 63 [x8] h8 fun v9 h10=>T Pg 62 [v7,v9] h10 fun v11 h12=>ifV v11 (bnd (ncV x8) fun v13=>bnd (faV 18 v13) fun v14=>bnd (ldV 1 false v14 h12) fun v15=>T Pg 49 [x6] h12 fun v16 h17=>ldV 1 false v14 h17=some v15∧T Pg 66 [v16,v15] h17 fun v18 h19=>ifV v18 (T Pg 56 [] h19 fun v20 h21=>K v20 h21) (K (.bool false) h19)) (K (.bool false) h12)
def S11_j4(s4:Nat→Value)(x6 x8:VV)(h:GH)(K:CC)(again6:(Nat→VV)→GH→Prop):Prop:=
 T Pg 53 [x6] h fun v1 h2=>T Pg 49 [x6] h2 fun v3 h4=>T Pg 65 [x6] h4 fun v5 h6=>T Pg 63 [x8] h6 fun v7 h8=>T Pg 62 [v1,v7] h8 fun v9 h10=>ni_ v9 (K (.bool false) h10) (lf_ x8 18 h10 fun v14=>T Pg 66 [v3,v14] h10 fun v15 h16=>ni_ v15 (K (.bool false) h16) (lf_ x8 3 h16 fun v20=>bnd (ncV v20) fun v21=>bnd (faV 0 v21) fun v22=>bnd (saV 634 1 v22 none none) fun v23=>T Pg 37 [v5,v23] h16 fun v24 h25=>ni_ v24 (K (.bool false) h25) (S11_j5 s4 x6 x8 v1 v3 v5 h25 K again6)))
def S11_j1(x1 x5 x6 x8:VV)(h:GH)(K:CC) :Prop:=
 bnd (ldV 3 true x5 h) fun v1=>T Pg 58 [v1] h fun v2 h3=>Lfp (fun (s4:Nat→Value) h5 again6=>bnd (lnV (s4 0)) fun v7=>bi_ .lss (s4 3) v7 (bi_ .lss (s4 3) (i64 400) (S11_j2 s4 (s4 0) (s4 1) (s4 2) (s4 3) h5 K again6) (S11_j4 s4 (s4 1) (s4 2) h5 K again6)) (S11_j4 s4 (s4 1) (s4 2) h5 K again6)) (tup [x1,x6,x8,i64 0]) h3
def S11(a0 a1:VV)(h:GH)(K:CC):Prop:=
 newV 67 (a0:VV).cells.toList h fun v1 h2=>bnd (ldV 3 true v1 h2) fun v3=>T Pg 54 [v3] h2 fun v4 h5=>newV 67 [nS_,i64 0,(.bool false)] h5 fun v6 h7=>bnd (stV 3 v6 v4 h7) fun h8=>bnd (ldV 3 true v6 h8) fun v9=>T Pg 47 [v9] h8 fun v10 h11=>x2_ v10 fun v12 v13=>bnd (ldV 3 true v1 h11) fun v14=>T Pg 55 [v14] h11 fun v15 h16=>x2_ v15 fun v17 v18=>en_ v18 (i64 0) (T Pg 30 [v13] h16 fun v20 h21=>ei_ v20 v18 (bnd (eqK .ptr true v12 nP_) fun b23=>ifV (.bool b23) (T Pg 56 [] h21 fun v24 h25=>K v24 h25) (K (.bool false) h21)) (K (.bool false) h21)) (T Pg 30 [v13] h16 fun v26 h27=>
 en_ v26 (i64 0) (K (.bool false) h27) (bnd (eqK .ptr true v12 nP_) fun b29=>ifV (.bool b29) (K (.bool false) h27) (bnd (ldV 3 true v1 h27) fun v30=>bnd (ldV 3 true v6 h27) fun v31=>T Pg 57 [v30,v31] h27 fun v32 h33=>ni_ v32 (K (.bool false) h33) (S11_j1 a1 v6 v12 v17 h33 K))))
def A11:Ann:=⟨fun | 27=> ([0,2,1,3,4,5,6,8,9,10,11,7,12,13,14,15,16,17], [0,1,0,7,15,31,63,127,63,319,831,1855,4095,8191,16383,32767,65535,131071]) | _=> ([], []),fun | 0=> [1,6,8,10] | _=> []⟩
theorem S11_T{a0 a1:VV}{h}{K}(g:S11 a0 a1 h K):T Pg 11 [a0,a1] h K:=gwT A11 Tryz.func11 g
def A22:Ann:=⟨fun _=> ([], []),fun | 0=> [0,3,5] | _=> []⟩
def A23:Ann:=⟨fun | 22=> ((.range 15), [0,0,0,6,14,30,63,127,255,255,255,0,2559,7167,16383]) | 23=> ((.range 61), [0,1,3,7,15,15,63,127,255,511,1023,2047,4095,4095,16383,32767,65535,131071,262143,524287,1048575,1048575,4194303,8388607,16777215,1048575,67108863,134217727,268435455,536870911,536870911,2147483647,4294967295,8589934591,536870911,17716740095,68719476735,137438953471,274877906943,549755813887,549755813887,2199023255551,4398046511103,8796093022207,549755813887,549755813887,53326313947135,123695058124799,264432546480127,562949953421311,1125899906842623,2251799813685247,4503599627370495,4503599627370495,18014398509481983,36028797018963967,72057594037927935,4503599627370495,288230376151711743,576460752303423487,1152921504606846975]) | _=> ([], []),fun | 0=> [0,5,6,8,9] | 2=> [0,5,6,8,12,13,14,15] | _=> []⟩
def S27_j1(x0 x1 x2 x3 x4:VV)(h:GH)(K:CC) :Prop:=
 bnd (fillV [i64 0,i64 0,i64 0,(.bool false),nS_,nS_, .nilFunc,(.bool false),i64 0,i64 0,i64 0,nS_,nS_,nS_,i64 0,nP_,nP_,nP_,nP_,nP_,i64 0,i64 0,i64 0] [(0,1,x0),(1,1,x1),(2,1,x2),(3,1,x3),(14,1,(.int .i64 (-1)))]) fun c1=>newV 135 ((.agg c1.toArray):VV).cells.toList h fun v2 h3=>bnd (lnV x4) fun v4=>Lfp (fun (s5:Nat→Value) h6 again7=>bi_ .lss (s5 3) (s5 2) (bnd (isV 1 (s5 1) (s5 3)) fun v9=>bnd (ldV 1 true v9 h6) fun v10=>newV 27 [nS_] h6 fun v11 h12=>bnd (stV 1 v11 v10 h12) fun h13=>bnd (ncV (s5 0)) fun v14=>
 bnd (faV 4 v14) fun v15=>bnd (ldV 1 false v15 h13) fun v16=>lg_ v11 0 h13 fun v18=>T Pg 77 [v18] h13 fun v19 h20=>ldV 1 false v15 h20=some v16∧bnd (fillV [nS_] [(0,1,v19)]) fun c21=>bsV 27 1 [nS_] [(0,1,(.agg c21.toArray))] h20 fun v22 h23=>apV 27 1 24 v16 v22 h23 fun v24 h25=>sf_ (s5 0) 4 v24 h25 fun h28=>bnd (binV .add (s5 3) (i64 1)) fun v29=>again7 (tup [(s5 0),(s5 1),(s5 2),v29]) h28) (bnd (ncV (s5 0)) fun v30=>bnd (faV 21 v30) fun v31=>sg_ v31 0 (.int .i64 (-1)) h6 fun h33=>K (.tuple #[(s5 0),i64 0]) h33)) (tup [v2,x4,v4,i64 0]) h3
def S27(a0 a1 a2 a3 a4:VV)(h:GH)(K:CC):Prop:=
 bi_ .lss a1 (i64 1) (K (.tuple #[nP_,i64 1800]) h) (bi_ .gtr a1 (i64 4) (K (.tuple #[nP_,i64 1800]) h) (T Pg 75 [a0,a1] h fun v3 h4=>ni_ v3 (K (.tuple #[nP_,i64 1800]) h4) (bsV 28 1 [nS_] [(0,1,a4)] h4 fun v6 h7=>bnd (fillV [nS_,i64 0,(.bool false)] [(0,1,v6),(1,1,a2)]) fun c8=>T Pg 76 [(.agg c8.toArray)] h7 fun v9 h10=>ni_ v9 (K (.tuple #[nP_,i64 1800]) h10) (S27_j1 a0 a1 a2 a3 a4 h10 K))))
def A27:Ann:=⟨fun | 7=> ((.range 14), [0,0,2,6,14,0,32,96,224,480,1022,2047,4095,8191]) | _=> ([], []),fun | 0=> [12,41,42,43] | _=> []⟩
theorem S27_T{a0 a1 a2 a3 a4:VV}{h}{K}(g:S27 a0 a1 a2 a3 a4 h K):T Pg 27 [a0,a1,a2,a3,a4] h K:=gwT A27 Tryz.func27 g
def S28(h:GH)(K:CC):Prop:=
 bnd (fillV (List.replicate 642 (i64 0) ++ [(.bool false)]) []) fun c1=>newV 138 ((.agg c1.toArray):VV).cells.toList h fun v2 h3=>bnd (ncV v2) fun v4=>bnd (faV 0 v4) fun v5=>T Pg 78 [i64 1] h3 fun v6 h7=>bnd (iaV 634 1 v5 (i64 16)) fun v8=>bnd (stV 1 v8 v6 h7) fun h9=>Lfp (fun (s10:Nat→Value) h11 again12=>bi_ .lss (s10 1) (i64 11) (bnd (binV .add (i64 17) (s10 1)) fun v14=>bnd (binV .add (s10 1) (i64 2)) fun v15=>bnd (ncV (s10 0)) fun v16=>bnd (faV 0 v16) fun v17=>T Pg 78 [v15] h11 fun v18 h19=>bnd (iaV 634 1 v17 v14) fun v20=>
 bnd (stV 1 v20 v18 h19) fun h21=>bnd (binV .add (s10 1) (i64 1)) fun v22=>again12 (tup [(s10 0),v22]) h21) (K (s10 0) h11)) (tup [v2,i64 0]) h9
def A28:Ann:=⟨fun | 2=> ([0,2,3,1,4,5], [0,0,1,5,15,31]) | 6=> ([0,1,2,3,4,6,7,5,8,9], [0,0,2,0,8,24,1,65,255,511]) | _=> ([], []),fun | 0=> [1,10] | _=> []⟩
theorem S28_T{h}{K}(g:S28 h K):T Pg 28 [] h K:=gwT A28 Tryz.func28 g
def S29_j3(x0 x1 x2 x3:VV)(h:GH)(K:CC) :Prop:=
 lf_ x0 6 h fun v3=>bnd (fillV [nP_,nP_,nP_,i64 0] [(0,1,x0),(1,1,x1),(2,1,x2),(3,1,x3)]) fun c4=>newV 143 ((.agg c4.toArray):VV).cells.toList h fun v5 h6=>callV Pg v3 [v5] h6 fun v7 h8=>en_ v7 (i64 0) (sf_ x0 7 (.bool true) h8 fun h12=>K (.tuple #[(.bool true),i64 1800]) h12) (K (.tuple #[(.bool true),i64 0]) h8)
def S29_j2(x0 x1 x2 x3:VV)(h:GH)(K:CC) :Prop:=
 bnd (fillV [i64 0,i64 0] [(0,1,(.int .i64 (-1)))]) fun c1=>bnd (ncV x0) fun v2=>bnd (faV 21 v2) fun v3=>bnd (stV 2 v3 (.agg c1.toArray) h) fun h4=>lf_ x0 6 h4 fun v7=>bnd (eqK .func true v7 .nilFunc) fun b8=>ifV (.bool b8) (T Pg 79 [x0,x3] h4 fun v9 h10=>ni_ v9 (K (.tuple #[(.bool false),i64 0]) h10) (S29_j3 x0 x1 x2 x3 h10 K)) (S29_j3 x0 x1 x2 x3 h4 K)
def S29_j1(x0 x1 x2 x3 x11:VV)(h:GH)(K:CC) :Prop:=
 ifV x11 (K (.tuple #[(.bool false),i64 1]) h) (lf_ x0 7 h fun v3=>ifV v3 (K (.tuple #[(.bool false),i64 1800]) h) (S29_j2 x0 x1 x2 x3 h K))
def S29(a0 a1 a2 a3:VV)(h:GH)(K:CC):Prop:=
 bnd (eqK .ptr true a0 nP_) fun b1=>ifV (.bool b1) (S29_j1 a0 a1 a2 a3 (.bool true) h K) (bnd (eqK .ptr true a1 nP_) fun b2=>ifV (.bool b2) (S29_j1 a0 a1 a2 a3 (.bool true) h K) (bnd (eqK .ptr true a2 nP_) fun b3=>S29_j1 a0 a1 a2 a3 (.bool b3) h K))
theorem S29_T{a0 a1 a2 a3:VV}{h}{K}(g:S29 a0 a1 a2 a3 h K):T Pg 29 [a0,a1,a2,a3] h K:=gwT aN_ Tryz.func29 g
def S30(a0:VV)(h:GH)(K:CC):Prop:=
 K a0 h
theorem S30_T{a0:VV}{h}{K}(g:S30 a0 h K):T Pg 30 [a0] h K:=gwT aN_ Tryz.func30 g
def S31(a0:VV)(h:GH)(K:CC):Prop:=
 bnd (eqK .ptr true a0 nP_) fun b1=>ifV (.bool b1) (K nS_ h) (lf_ a0 5 h fun v4=>T Pg 80 [v4] h fun v5 h6=>bnd (lnV v5) fun v7=>Lfp (fun (s8:Nat→Value) h9 again10=>bi_ .lss (s8 2) (s8 1) (bnd (isV 8 (s8 0) (s8 2)) fun v12=>lg_ v12 7 h9 fun v14=>T Pg 81 [v14] h9 fun v15 h16=>bnd (isV 8 (s8 0) (s8 2)) fun v17=>sg_ v17 7 v15 h16 fun h19=>bnd (binV .add (s8 2) (i64 1)) fun v20=>again10 (tup [(s8 0),(s8 1),v20]) h19) (K (s8 0) h9)) (tup [v5,v7,i64 0]) h6)
def A31:Ann:=⟨fun _=> ([], []),fun | 0=> [3,13,14] | _=> []⟩
theorem S31_T{a0:VV}{h}{K}(g:S31 a0 h K):T Pg 31 [a0] h K:=gwT A31 Tryz.func31 g
def A32:Ann:=⟨fun | 3=> ((.range 18), [0,1,3,7,15,0,32,96,224,480,0,1024,3072,7168,15360,32767,0,131071]) | _=> ([], []),fun _=> []⟩
def S33(a0:VV)(h:GH)(K:CC):Prop:=
 bnd (eqK .ptr true a0 nP_) fun b1=>ifV (.bool b1) (K (.bool false) h) (lf_ a0 5 h fun v4=>bnd (lnV v4) fun v5=>lf_ a0 4 h fun v8=>bnd (lnV v8) fun v9=>ei_ v5 v9 (ei_ v5 (i64 0) (K (.bool true) h) (lf_ a0 5 h fun v14=>bnd (binV .sub v5 (i64 1)) fun v15=>bnd (isV 8 v14 v15) fun v16=>lg_ v16 4 h fun v18=>bnd (binV .geq v18 (i64 0)) fun v19=>K v19 h)) (K (.bool false) h))
theorem S33_T{a0:VV}{h}{K}(g:S33 a0 h K):T Pg 33 [a0] h K:=gwT aN_ Tryz.func33 g
def S34(a0:VV)(h:GH)(K:CC):Prop:=
 bnd (eqK .ptr true a0 nP_) fun b1=>ifV (.bool b1) (K (.tuple #[i64 0,i64 0]) h) (bnd (ncV a0) fun v2=>bnd (faV 21 v2) fun v3=>lg_ v3 0 h fun v5=>bnd (ncV a0) fun v6=>bnd (faV 21 v6) fun v7=>lg_ v7 1 h fun v9=>K (.tuple #[v5,v9]) h)
def A34:Ann:=⟨fun | 3=> ((.range 12), [0,1,3,7,15,0,32,96,224,480,31,2047]) | _=> ([], []),fun _=> []⟩
theorem S34_T{a0:VV}{h}{K}(g:S34 a0 h K):T Pg 34 [a0] h K:=gwT A34 Tryz.func34 g
def S35(a0 a1 a2:VV)(h:GH)(K:CC):Prop:=
 newV 3 (a2:VV).cells.toList h fun v1 h2=>T Pg 82 [a0,i64 1,a1,(.func (.func 83) #[] #[v1])] h2 fun v3 h4=>x2_ v3 fun v5 v6=>K (.tuple #[v5,v6]) h4
theorem S35_T{a0 a1 a2:VV}{h}{K}(g:S35 a0 a1 a2 h K):T Pg 35 [a0,a1,a2] h K:=gwT aN_ Tryz.func35 g
def S36(a0:VV)(h:GH)(K:CC):Prop:=
 bnd (eqK .ptr true a0 nP_) fun b1=>ifV (.bool b1) (K nS_ h) (bnd (ncV a0) fun v2=>bnd (faV 0 v2) fun v3=>bnd (saV 634 1 v3 none none) fun v4=>T Pg 84 [v4] h fun v5 h6=>K v5 h6)
theorem S36_T{a0:VV}{h}{K}(g:S36 a0 h K):T Pg 36 [a0] h K:=gwT aN_ Tryz.func36 g
def S37(a0 a1:VV)(h:GH)(K:CC):Prop:=
 bnd (lnV a0) fun v1=>bnd (lnV a1) fun v2=>en_ v1 v2 (K (.bool false) h) (Lfp (fun (s4:Nat→Value) h5 again6=>bnd (lnV (s4 0)) fun v7=>bi_ .lss (s4 2) v7 (li_ (s4 0) (s4 2) h5 fun v10=>li_ (s4 1) (s4 2) h5 fun v12=>en_ v10 v12 (K (.bool false) h5) (bnd (binV .add (s4 2) (i64 1)) fun v14=>again6 (tup [(s4 0),(s4 1),v14]) h5)) (K (.bool true) h5)) (tup [a0,a1,i64 0]) h)
def A37:Ann:=⟨fun | 6=> ((.range 9), [0,0,3,7,0,0,48,112,255]) | _=> ([], []),fun | 0=> [0,1,5] | _=> []⟩
theorem S37_T{a0 a1:VV}{h}{K}(g:S37 a0 a1 h K):T Pg 37 [a0,a1] h K:=gwT A37 Tryz.func37 g
def S38(a0:VV)(h:GH)(K:CC):Prop:=
 newV 60 [i64 0,i64 0,i64 0,i64 0,i64 0,i64 0,i64 0,i64 0] h fun v1 h2=>bnd (eqK .ptr true a0 nP_) fun b3=>ifV (.bool b3) (bnd (fillV [i64 0,i64 0,i64 0,i64 0,i64 0,i64 0,i64 0,i64 0] []) fun c4=>bnd (stV 8 v1 (.agg c4.toArray) h2) fun h5=>bnd (ldV 8 true v1 h5) fun v6=>K (.tuple #[v6,(.bool false)]) h5) (bnd (ncV a0) fun v7=>bnd (faV 634 v7) fun v8=>bnd (ldV 8 true v8 h2) fun v9=>bnd (ncV a0) fun v10=>bnd (faV 642 v10) fun v11=>bnd (ldV 1 false v11 h2) fun v12=>
 bnd (stV 8 v1 v9 h2) fun h13=>ldV 1 false v11 h13=some v12∧bnd (ldV 8 true v1 h13) fun v14=>K (.tuple #[v14,v12]) h13)
def A38:Ann:=⟨fun | 3=> ((.range 10), [0,1,3,7,0,16,48,112,15,511]) | _=> ([], []),fun _=> []⟩
theorem S38_T{a0:VV}{h}{K}(g:S38 a0 h K):T Pg 38 [a0] h K:=gwT A38 Tryz.func38 g
def S39(a0 a1:VV)(h:GH)(K:CC):Prop:=
 T Pg 82 [a0,i64 0,a1,(.func (.func 85) #[] #[])] h fun v1 h2=>x2_ v1 fun v3 v4=>K (.tuple #[v3,v4]) h2
theorem S39_T{a0 a1:VV}{h}{K}(g:S39 a0 a1 h K):T Pg 39 [a0,a1] h K:=gwT aN_ Tryz.func39 g
def S44(a0:VV)(h:GH)(K:CC):Prop:=
 Lfp (fun (s1:Nat→Value) h2 again3=>bnd (lnV (s1 0)) fun v4=>bi_ .lss (s1 1) v4 (li_ (s1 0) (s1 1) h2 fun v7=>bnd (binV .sub (.int .i64 (-9)) v7) fun v8=>bnd (isV 1 (s1 0) (s1 1)) fun v9=>bnd (stV 1 v9 v8 h2) fun h10=>bnd (binV .add (s1 1) (i64 1)) fun v11=>again3 (tup [(s1 0),v11]) h10) (K (.tuple #[]) h2)) (tup [a0,i64 0]) h
def A44:Ann:=⟨fun _=> ([], []),fun | 0=> [0,2] | _=> []⟩
theorem S44_T{a0:VV}{h}{K}(g:S44 a0 h K):T Pg 44 [a0] h K:=gwT A44 Tryz.func44 g
def S47(a0:VV)(h:GH)(K:CC):Prop:=
 newV 67 (a0:VV).cells.toList h fun v1 h2=>bnd (ldV 3 true v1 h2) fun v3=>T Pg 76 [v3] h2 fun v4 h5=>ni_ v4 (K (.tuple #[nP_,i64 1900]) h5) (T Pg 28 [] h5 fun v7 h8=>bnd (fillV ([nP_,nS_] ++ List.replicate 13 (i64 0) ++ [nS_]) [(0,1,v7)]) fun c9=>newV 151 ((.agg c9.toArray):VV).cells.toList h8 fun v10 h11=>lg_ v1 0 h11 fun v13=>bnd (lnV v13) fun v14=>Lfp (fun (s15:Nat→Value) h16 again17=>bi_ .lss (s15 4) (s15 3) (li_ (s15 2) (s15 4) h16 fun v20=>lg_ (s15 0) 0 h16 fun v22=>bnd (lnV v22) fun v23=>lg_ (s15 0) 1 h16 fun v25=>lg_ (s15 0) 2 h16 fun v27=>
 T Pg 27 [(s15 4),v23,v25,v27,v20] h16 fun v28 h29=>x2_ v28 fun v30 v31=>lf_ (s15 1) 1 h29 fun v34=>bsV 30 1 [nP_] [(0,1,v30)] h29 fun v35 h36=>apV 30 1 8 v34 v35 h36 fun v37 h38=>sf_ (s15 1) 1 v37 h38 fun h41=>bnd (binV .add (s15 4) (i64 1)) fun v42=>again17 (tup [(s15 0),(s15 1),(s15 2),(s15 3),v42]) h41) (K (.tuple #[(s15 1),i64 0]) h16)) (tup [v1,v10,v13,v14,i64 0]) h11)
def A47:Ann:=⟨fun _=> ([], []),fun | 0=> [1,4,16,17,18] | _=> []⟩
theorem S47_T{a0:VV}{h}{K}(g:S47 a0 h K):T Pg 47 [a0] h K:=gwT A47 Tryz.func47 g
def S48_j2(x0 x6 x7:VV)(h:GH)(K:CC) :Prop:=
 lf_ x0 14 h fun v3=>bnd (binV .add v3 (i64 1)) fun v4=>sf_ x0 14 v4 h fun h7=>en_ x7 (i64 0) (K (.tuple #[x6,i64 1900]) h7) (K (.tuple #[x6,i64 0]) h7)
def S48_j1(x0 x1:VV)(h:GH)(K:CC) :Prop:=
 lf_ x0 1 h fun v3=>li_ v3 x1 h fun v5=>lf_ x0 0 h fun v8=>bnd (ncV x0) fun v9=>bnd (faV 2 v9) fun v10=>lf_ x0 14 h fun v13=>T Pg 29 [v5,v8,v10,v13] h fun v14 h15=>x2_ v14 fun v16 v17=>ifV v16 (T Pg 89 [x0,x1] h15 fun v18 h19=>S48_j2 x0 v16 v17 h19 K) (S48_j2 x0 v16 v17 h15 K)
def S48(a0 a1:VV)(h:GH)(K:CC):Prop:=
 bnd (eqK .ptr true a0 nP_) fun b1=>ifV (.bool b1) (K (.tuple #[(.bool false),i64 1]) h) (lf_ a0 1 h fun v4=>bnd (lnV v4) fun v5=>T Pg 75 [a1,v5] h fun v6 h7=>ni_ v6 (K (.tuple #[(.bool false),i64 1900]) h7) (lf_ a0 14 h7 fun v11=>bi_ .geq v11 (i64 65536) (K (.tuple #[(.bool false),i64 1900]) h7) (S48_j1 a0 a1 h7 K)))
def A48:Ann:=⟨fun | 5=> ((.range 24), [0,1,3,7,0,31,63,0,128,384,896,0,2048,6144,0,16384,49152,114688,262143,524287,1048575,1048575,2097151,8388607]) | _=> ([], []),fun _=> []⟩
theorem S48_T{a0 a1:VV}{h}{K}(g:S48 a0 a1 h K):T Pg 48 [a0,a1] h K:=gwT A48 Tryz.func48 g
def S49(a0:VV)(h:GH)(K:CC):Prop:=
 bnd (eqK .ptr true a0 nP_) fun b1=>ifV (.bool b1) (K nS_ h) (lf_ a0 15 h fun v4=>T Pg 90 [v4] h fun v5 h6=>K v5 h6)
theorem S49_T{a0:VV}{h}{K}(g:S49 a0 h K):T Pg 49 [a0] h K:=gwT aN_ Tryz.func49 g
def S53(a0:VV)(h:GH)(K:CC):Prop:=
 bnd (eqK .ptr true a0 nP_) fun b1=>ifV (.bool b1) (K nS_ h) (lf_ a0 1 h fun v4=>bnd (lnV v4) fun v5=>Lfp (fun (s6:Nat→Value) h7 again8=>bi_ .lss (s6 3) (s6 2) (li_ (s6 1) (s6 3) h7 fun v11=>T Pg 31 [v11] h7 fun v12 h13=>apV 56 8 80 (s6 0) v12 h13 fun v14 h15=>bnd (binV .add (s6 3) (i64 1)) fun v16=>again8 (tup [v14,(s6 1),(s6 2),v16]) h15) (K (s6 0) h7)) (tup [nS_,v4,v5,i64 0]) h)
def A53:Ann:=⟨fun _=> ([], []),fun | 0=> [3,11,12,13] | _=> []⟩
theorem S53_T{a0:VV}{h}{K}(g:S53 a0 h K):T Pg 53 [a0] h K:=gwT A53 Tryz.func53 g
def S54(a0:VV)(h:GH)(K:CC):Prop:=
 newV 67 (a0:VV).cells.toList h fun v1 h2=>newV 67 [nS_,i64 0,(.bool false)] h2 fun v3 h4=>bnd (ldV 3 true v1 h4) fun v5=>newV 67 [nS_,i64 0,(.bool false)] h4 fun v6 h7=>bnd (stV 3 v6 v5 h7) fun h8=>sg_ v6 0 nS_ h8 fun h10=>Lfp (fun (s11:Nat→Value) h12 again13=>lg_ (s11 0) 0 h12 fun v15=>bnd (lnV v15) fun v16=>bi_ .lss (s11 3) v16 (Lfp (fun (s18:Nat→Value) h19 again20=>lg_ (s18 0) 0 h19 fun v22=>li_ v22 (s18 3) h19 fun v24=>bnd (lnV v24) fun v25=>bi_ .lss (s18 5) v25 (bsV 24 0 [] [] h19 fun v27 h28=>lg_ (s18 0) 0 h28 fun v30=>li_ v30 (s18 3) h28 fun v32=>
 bnd (isV 1 v32 (s18 5)) fun v33=>lg_ v33 0 h28 fun v35=>apV 24 4 32 v27 v35 h28 fun v36 h37=>bnd (fillV [nS_] [(0,1,v36)]) fun c38=>bsV 27 1 [nS_] [(0,1,(.agg c38.toArray))] h37 fun v39 h40=>apV 27 1 24 (s18 4) v39 h40 fun v41 h42=>bnd (binV .add (s18 5) (i64 1)) fun v43=>again20 (tup [(s18 0),(s18 1),(s18 2),(s18 3),v41,v43]) h42) (lg_ (s18 2) 0 h19 fun v45=>bsV 28 1 [nS_] [(0,1,(s18 4))] h19 fun v46 h47=>apV 28 1 24 v45 v46 h47 fun v48 h49=>sg_ (s18 2) 0 v48 h49 fun h51=>bnd (binV .add (s18 3) (i64 1)) fun v52=>
 again13 (tup [(s18 0),(s18 1),(s18 2),v52]) h51)) (tup [(s11 0),(s11 1),(s11 2),(s11 3),nS_,i64 0]) h12) (bnd (ldV 3 true (s11 2) h12) fun v53=>bnd (stV 3 (s11 1) v53 h12) fun h54=>bnd (ldV 3 true (s11 1) h54) fun v55=>K v55 h54)) (tup [v1,v3,v6,i64 0]) h10
def A54:Ann:=⟨fun _=> ([], []),fun | 0=> [1,2,3,4] | 2=> [1,2,3,4,5,6] | _=> []⟩
theorem S54_T{a0:VV}{h}{K}(g:S54 a0 h K):T Pg 54 [a0] h K:=gwT A54 Tryz.func54 g
def S55(a0:VV)(h:GH)(K:CC):Prop:=
 newV 67 (a0:VV).cells.toList h fun v1 h2=>bnd (ldV 3 true v1 h2) fun v3=>T Pg 91 [v3] h2 fun v4 h5=>ni_ v4 (K (.tuple #[nP_,i64 1900]) h5) (bnd (ldV 3 true v1 h5) fun v7=>T Pg 92 [] h5 fun v8 h9=>ldV 3 true v1 h9=some v7∧bnd (fillV ([nS_,i64 0,(.bool false),nP_,nS_] ++ List.replicate 13 (i64 0) ++ [nS_]) [(0,3,v7),(3,1,v8)]) fun c10=>newV 100 ((.agg c10.toArray):VV).cells.toList h9 fun v11 h12=>Lfp (fun (s13:Nat→Value) h14 again15=>lg_ (s13 0) 0 h14 fun v17=>bnd (lnV v17) fun v18=>bi_ .lss (s13 2) v18 (lg_ (s13 0) 0 h14 fun v21=>bnd (lnV v21) fun v22=>
 lg_ (s13 0) 1 h14 fun v24=>lg_ (s13 0) 2 h14 fun v26=>lg_ (s13 0) 0 h14 fun v28=>li_ v28 (s13 2) h14 fun v30=>T Pg 93 [(s13 2),v22,v24,v26,v30] h14 fun v31 h32=>x2_ v31 fun v33 v34=>lf_ (s13 1) 4 h32 fun v37=>bsV 149 1 [nP_] [(0,1,v33)] h32 fun v38 h39=>apV 149 1 8 v37 v38 h39 fun v40 h41=>sf_ (s13 1) 4 v40 h41 fun h44=>bnd (binV .add (s13 2) (i64 1)) fun v45=>again15 (tup [(s13 0),(s13 1),v45]) h44) (K (.tuple #[(s13 1),i64 0]) h14)) (tup [v1,v11,i64 0]) h12)
def A55:Ann:=⟨fun | 3=> ([0,1,2,3,4], [0,0,3,7,15]) | 7=> ((.range 19), [0,0,2,6,0,16,0,64,0,256,0,1792,3840,8191,16383,32767,32767,65535,262143]) | _=> ([], []),fun | 0=> [1,4,5] | _=> []⟩
theorem S55_T{a0:VV}{h}{K}(g:S55 a0 h K):T Pg 55 [a0] h K:=gwT A55 Tryz.func55 g
def S56_j2(s9:Nat→Value)(x2 x5 x6 x7 x9 x13 x14 x15:VV)(h:GH)(K:CC)(again11:(Nat→VV)→GH→Prop):Prop:=
 T Pg 30 [x5] h fun v1 h2=>ei_ v1 (i64 1900) (ni_ x6 (T Pg 30 [x7] h2 fun v5 h6=>ei_ v5 (i64 0) (T Pg 30 [x9] h6 fun v8 h9=>ei_ v8 (i64 1900) (T Pg 60 [x2] h9 fun v11 h12=>ifV v11 (bnd (isV 8 x13 (i64 0)) fun v13=>lg_ v13 2 h12 fun v15=>ei_ v15 (i64 1) (bnd (isV 8 x13 (i64 0)) fun v17=>lg_ v17 3 h12 fun v19=>ei_ v19 (i64 20) (bnd (isV 8 x13 (i64 0)) fun v21=>lg_ v21 4 h12 fun v23=>ei_ v23 (i64 31) (bnd (isV 8 x13 (i64 0)) fun v25=>lg_ v25 7 h12 fun v27=>bnd (fillV [i64 0,i64 0] [(1,1,(i64 9))]) fun c28=>
 bsV 122 1 [i64 0,i64 0] [(0,2,(.agg c28.toArray))] h12 fun v29 h30=>T Pg 72 [v27,v29] h30 fun v31 h32=>ifV v31 (bnd (isV 8 x14 (i64 0)) fun v33=>bnd (ldV 8 true v33 h32) fun v34=>bnd (fillV [i64 0,i64 0,i64 0,i64 0,i64 0,i64 0,i64 0,i64 0] [(1,1,(i64 0)),(2,1,(i64 29)),(5,1,(.int .i64 (-1)))]) fun c35=>bnd (eqP Pg 10000 60 v34 (.agg c35.toArray)) fun b36=>ifV (.bool b36) (li_ x15 (i64 1) h32 fun v38=>bnd (eqI v38 (i64 40)) fun b39=>K (.bool b39) h32) (K (.bool false) h32)) (
 K (.bool false) h32)) (K (.bool false) h12)) (K (.bool false) h12)) (K (.bool false) h12)) (K (.bool false) h12)) (K (.bool false) h9)) (K (.bool false) h6)) (K (.bool false) h2)) (K (.bool false) h2)
def S56_j1(x2 x5:VV)(h:GH)(K:CC) :Prop:=
 T Pg 48 [x2,i64 1] h fun v1 h2=>x2_ v1 fun v3 v4=>T Pg 48 [x2,i64 2] h2 fun v5 h6=>x2_ v5 fun v7 v8=>Lfp (fun (s9:Nat→Value) h10 again11=>bi_ .lss (s9 5) (i64 31) (T Pg 48 [(s9 0),i64 0] h10 fun v13 h14=>x2_ v13 fun v15 v16=>ni_ v15 (K (.bool false) h14) (T Pg 30 [v16] h14 fun v18 h19=>en_ v18 (i64 0) (K (.bool false) h19) (bnd (binV .add (s9 5) (i64 1)) fun v21=>again11 (tup [(s9 0),(s9 1),(s9 2),(s9 3),(s9 4),v21]) h19))) (T Pg 53 [(s9 0)] h10 fun v22 h23=>T Pg 49 [(s9 0)] h23 fun v24 h25=>T Pg 65 [(s9 0)] h25 fun v26 h27=>bnd (lnV v22) fun v28=>
 en_ v28 (i64 1) (K (.bool false) h27) (bnd (lnV v24) fun v30=>en_ v30 (i64 31) (K (.bool false) h27) (bnd (lnV v26) fun v32=>en_ v32 (i64 634) (K (.bool false) h27) (S56_j2 s9 (s9 0) (s9 1) (s9 2) (s9 3) (s9 4) v22 v24 v26 h27 K again11))))) (tup [x2,x5,v3,v4,v8,i64 0]) h6
def S56(h:GH)(K:CC):Prop:=
 bnd (fillV [i64 0,i64 0,i64 0,i64 0] [(0,1,(i64 0)),(1,1,(i64 1)),(3,1,(i64 9))]) fun c1=>bsV 24 1 [i64 0,i64 0,i64 0,i64 0] [(0,4,(.agg c1.toArray))] h fun v2 h3=>bnd (fillV [nS_] [(0,1,v2)]) fun c4=>bsV 27 1 [nS_] [(0,1,(.agg c4.toArray))] h3 fun v5 h6=>bsV 28 2 [nS_,nS_] [(0,1,v5),(1,1,nS_)] h6 fun v7 h8=>bnd (fillV [nS_,i64 0,(.bool false)] [(0,1,v7),(1,1,(i64 2))]) fun c9=>newV 67 [nS_,i64 0,(.bool false)] h8 fun v10 h11=>bnd (stV 3 v10 (.agg c9.toArray) h11) fun h12=>
 bnd (ldV 3 true v10 h12) fun v13=>T Pg 47 [v13] h12 fun v14 h15=>x2_ v14 fun v16 v17=>bnd (fillV [nS_,i64 0,(.bool false)] []) fun c18=>T Pg 47 [(.agg c18.toArray)] h15 fun v19 h20=>x2_ v19 fun v21 v22=>T Pg 30 [v17] h20 fun v23 h24=>en_ v23 (i64 0) (K (.bool false) h24) (bnd (eqK .ptr true v16 nP_) fun b26=>ifV (.bool b26) (K (.bool false) h24) (S56_j1 v16 v22 h24 K))
def A56:Ann:=⟨fun _=> ([], []),fun | 0=> [2,5,6,7,9,10] | _=> []⟩
theorem S56_T{h}{K}(g:S56 h K):T Pg 56 [] h K:=gwT A56 Tryz.func56 g
def S57_j1(x2 x3:VV)(h:GH)(K:CC) :Prop:=
 Lfp (fun (s1:Nat→Value) h2 again3=>lg_ (s1 0) 0 h2 fun v5=>bnd (lnV v5) fun v6=>bi_ .lss (s1 2) v6 (lg_ (s1 0) 0 h2 fun v9=>li_ v9 (s1 2) h2 fun v11=>bnd (lnV v11) fun v12=>lg_ (s1 1) 0 h2 fun v14=>li_ v14 (s1 2) h2 fun v16=>bnd (lnV v16) fun v17=>en_ v12 v17 (K (.bool false) h2) (Lfp (fun (s19:Nat→Value) h20 again21=>lg_ (s19 0) 0 h20 fun v23=>li_ v23 (s19 2) h20 fun v25=>bnd (lnV v25) fun v26=>bi_ .lss (s19 3) v26 (lg_ (s19 0) 0 h20 fun v29=>li_ v29 (s19 2) h20 fun v31=>bnd (isV 1 v31 (s19 3)) fun v32=>lg_ v32 0 h20 fun v34=>lg_ (s19 1) 0 h20 fun v36=>li_ v36 (s19 2) h20 fun v38=>
 bnd (isV 1 v38 (s19 3)) fun v39=>lg_ v39 0 h20 fun v41=>T Pg 94 [v34,v41] h20 fun v42 h43=>ni_ v42 (K (.bool false) h43) (bnd (binV .add (s19 3) (i64 1)) fun v45=>again21 (tup [(s19 0),(s19 1),(s19 2),v45]) h43)) (bnd (binV .add (s19 2) (i64 1)) fun v46=>again3 (tup [(s19 0),(s19 1),v46]) h20)) (tup [(s1 0),(s1 1),(s1 2),i64 0]) h2)) (K (.bool true) h2)) (tup [x2,x3,i64 0]) h
def S57(a0 a1:VV)(h:GH)(K:CC):Prop:=
 newV 67 (a0:VV).cells.toList h fun v1 h2=>newV 67 (a1:VV).cells.toList h2 fun v3 h4=>lg_ v1 1 h4 fun v6=>lg_ v3 1 h4 fun v8=>en_ v6 v8 (K (.bool false) h4) (lg_ v1 2 h4 fun v11=>lg_ v3 2 h4 fun v13=>bnd (eqK .bool false v11 v13) fun b14=>ifV (.bool (!b14)) (K (.bool false) h4) (lg_ v1 0 h4 fun v16=>bnd (lnV v16) fun v17=>lg_ v3 0 h4 fun v19=>bnd (lnV v19) fun v20=>en_ v17 v20 (K (.bool false) h4) (S57_j1 v1 v3 h4 K)))
def A57:Ann:=⟨fun | 6=> ((.range 13), [0,1,0,7,15,31,0,64,0,448,960,1984,4095]) | 11=> ((.range 20), [0,1,0,7,15,0,63,127,255,0,512,0,3584,7680,0,32256,65024,130560,262143,524287]) | _=> ([], []),fun | 0=> [2,3,5] | 2=> [2,3,5,6] | _=> []⟩
theorem S57_T{a0 a1:VV}{h}{K}(g:S57 a0 a1 h K):T Pg 57 [a0,a1] h K:=gwT A57 Tryz.func57 g
def S58(a0:VV)(h:GH)(K:CC):Prop:=
 newV 67 (a0:VV).cells.toList h fun v1 h2=>Lfp (fun (s3:Nat→Value) h4 again5=>lg_ (s3 0) 0 h4 fun v7=>bnd (lnV v7) fun v8=>bi_ .lss (s3 1) v8 (Lfp (fun (s10:Nat→Value) h11 again12=>lg_ (s10 0) 0 h11 fun v14=>li_ v14 (s10 1) h11 fun v16=>bnd (lnV v16) fun v17=>bi_ .lss (s10 2) v17 (lg_ (s10 0) 0 h11 fun v20=>li_ v20 (s10 1) h11 fun v22=>bnd (isV 1 v22 (s10 2)) fun v23=>lg_ v23 0 h11 fun v25=>T Pg 95 [v25] h11 fun v26 h27=>bnd (binV .add (s10 2) (i64 1)) fun v28=>again12 (tup [(s10 0),(s10 1),v28]) h27) (bnd (binV .add (s10 1) (i64 1)) fun v29=>
 again5 (tup [(s10 0),v29]) h11)) (tup [(s3 0),(s3 1),i64 0]) h4) (K (.tuple #[]) h4)) (tup [v1,i64 0]) h2
def A58:Ann:=⟨fun _=> ([], []),fun | 0=> [1,2] | 2=> [1,2,3] | _=> []⟩
theorem S58_T{a0:VV}{h}{K}(g:S58 a0 h K):T Pg 58 [a0] h K:=gwT A58 Tryz.func58 g
def S59_j3(x0 x7 x8:VV)(h:GH)(K:CC) :Prop:=
 lf_ x0 17 h fun v3=>bnd (binV .add v3 (i64 1)) fun v4=>sf_ x0 17 v4 h fun h7=>en_ x8 (i64 0) (K (.tuple #[x7,i64 1900]) h7) (K (.tuple #[x7,i64 0]) h7)
def S59_j2(x0 x7 x8 x9:VV)(h:GH)(K:CC) :Prop:=
 lf_ x0 18 h fun v3=>bnd (ldV 8 true x9 h) fun v4=>bsV 60 1 [i64 0,i64 0,i64 0,i64 0,i64 0,i64 0,i64 0,i64 0] [(0,8,v4)] h fun v5 h6=>apV 60 8 64 v3 v5 h6 fun v7 h8=>sf_ x0 18 v7 h8 fun h11=>bnd (ldV 8 true x9 h11) fun v12=>T Pg 99 [x0,v12] h11 fun v13 h14=>S59_j3 x0 x7 x8 h14 K
def S59_j1(x0 x1:VV)(h:GH)(K:CC) :Prop:=
 lf_ x0 4 h fun v3=>li_ v3 x1 h fun v5=>lf_ x0 3 h fun v8=>bnd (ncV x0) fun v9=>bnd (faV 5 v9) fun v10=>lf_ x0 17 h fun v13=>T Pg 96 [v5,v8,v10,v13] h fun v14 h15=>x2_ v14 fun v16 v17=>ifV v16 (lf_ x0 3 h15 fun v20=>T Pg 97 [v20] h15 fun v21 h22=>x2_ v21 fun v23 v24=>newV 60 [i64 0,i64 0,i64 0,i64 0,i64 0,i64 0,i64 0,i64 0] h22 fun v25 h26=>bnd (stV 8 v25 v23 h26) fun h27=>T Pg 98 [v5] h27 fun v28 h29=>x2_ v28 fun v30 v31=>sg_ v25 0 x1 h29 fun h33=>sg_ v25 5 v30 h33 fun h35=>sg_ v25 6 v31 h35 fun h37=>bi_ .geq v30 (i64 0) (
 bnd (ncV x0) fun v39=>bnd (faV 5 v39) fun v40=>bnd (iaV 12 1 v40 v30) fun v41=>bnd (ldV 1 false v41 h37) fun v42=>sg_ v25 7 v42 h37 fun h44=>S59_j2 x0 v16 v17 v25 h44 K) (S59_j2 x0 v16 v17 v25 h37 K)) (S59_j3 x0 v16 v17 h15 K)
def S59(a0 a1:VV)(h:GH)(K:CC):Prop:=
 bi_ .lss a1 (i64 0) (K (.tuple #[(.bool false),i64 1900]) h) (lf_ a0 4 h fun v4=>bnd (lnV v4) fun v5=>bi_ .geq a1 v5 (K (.tuple #[(.bool false),i64 1900]) h) (lf_ a0 17 h fun v9=>bi_ .geq v9 (i64 65536) (K (.tuple #[(.bool false),i64 1900]) h) (S59_j1 a0 a1 h K)))
def A59:Ann:=⟨fun | 4=> ((.range 18), [0,0,2,6,14,0,32,96,0,256,768,1792,4095,8191,16383,16383,32767,131071]) | 13=> ((.range 11), [0,0,2,6,14,0,32,126,255,511,1023]) | _=> ([], []),fun _=> []⟩
theorem S59_T{a0 a1:VV}{h}{K}(g:S59 a0 a1 h K):T Pg 59 [a0,a1] h K:=gwT A59 Tryz.func59 g
def S60(a0:VV)(h:GH)(K:CC):Prop:=
 bnd (eqK .ptr true a0 nP_) fun b1=>ifV (.bool (!b1)) (lf_ a0 1 h fun v4=>T Pg 100 [v4,(.func (.func 101) #[] #[])] h fun v5 h6=>bnd (unV .not v5) fun v7=>K v7 h6) (K (.bool false) h)
theorem S60_T{a0:VV}{h}{K}(g:S60 a0 h K):T Pg 60 [a0] h K:=gwT aN_ Tryz.func60 g
def S61(a0:VV)(h:GH)(K:CC):Prop:=
 Lfp (fun (s1:Nat→Value) h2 again3=>lf_ (s1 0) 4 h2 fun v6=>bnd (lnV v6) fun v7=>bi_ .lss (s1 1) v7 (lf_ (s1 0) 4 h2 fun v11=>li_ v11 (s1 1) h2 fun v13=>T Pg 88 [v13] h2 fun v14 h15=>ni_ v14 (K (.bool false) h15) (bnd (binV .add (s1 1) (i64 1)) fun v17=>again3 (tup [(s1 0),v17]) h15)) (K (.bool true) h2)) (tup [a0,i64 0]) h
def A61:Ann:=⟨fun _=> ([], []),fun | 0=> [0,3] | _=> []⟩
theorem S61_T{a0:VV}{h}{K}(g:S61 a0 h K):T Pg 61 [a0] h K:=gwT A61 Tryz.func61 g
def S62(a0 a1:VV)(h:GH)(K:CC):Prop:=
 bnd (lnV a0) fun v1=>bnd (lnV a1) fun v2=>en_ v1 v2 (K (.bool false) h) (Lfp (fun (s4:Nat→Value) h5 again6=>bnd (lnV (s4 0)) fun v7=>bi_ .lss (s4 2) v7 (bnd (isV 8 (s4 0) (s4 2)) fun v9=>bnd (ldV 8 true v9 h5) fun v10=>bnd (isV 8 (s4 1) (s4 2)) fun v11=>bnd (ldV 8 true v11 h5) fun v12=>T Pg 68 [v10,v12] h5 fun v13 h14=>ni_ v13 (K (.bool false) h14) (bnd (binV .add (s4 2) (i64 1)) fun v16=>again6 (tup [(s4 0),(s4 1),v16]) h14)) (K (.bool true) h5)) (tup [a0,a1,i64 0]) h)
def A62:Ann:=⟨fun | 6=> ((.range 10), [0,0,3,7,0,0,48,112,255,511]) | _=> ([], []),fun | 0=> [0,1,5] | _=> []⟩
theorem S62_T{a0 a1:VV}{h}{K}(g:S62 a0 a1 h K):T Pg 62 [a0,a1] h K:=gwT A62 Tryz.func62 g
def S63(a0:VV)(h:GH)(K:CC):Prop:=
 Lfp (fun (s1:Nat→Value) h2 again3=>lf_ (s1 0) 4 h2 fun v6=>bnd (lnV v6) fun v7=>bi_ .lss (s1 2) v7 (lf_ (s1 0) 4 h2 fun v11=>li_ v11 (s1 2) h2 fun v13=>lf_ v13 20 h2 fun v16=>apV 56 8 80 (s1 1) v16 h2 fun v17 h18=>bnd (binV .add (s1 2) (i64 1)) fun v19=>again3 (tup [(s1 0),v17,v19]) h18) (K (s1 1) h2)) (tup [a0,nS_,i64 0]) h
def A63:Ann:=⟨fun _=> ([], []),fun | 0=> [0,3,4] | _=> []⟩
theorem S63_T{a0:VV}{h}{K}(g:S63 a0 h K):T Pg 63 [a0] h K:=gwT A63 Tryz.func63 g
def S64(a0:VV)(h:GH)(K:CC):Prop:=
 Lfp (fun (s1:Nat→Value) h2 again3=>bnd (lnV (s1 0)) fun v4=>bi_ .lss (s1 1) v4 (bnd (isV 8 (s1 0) (s1 1)) fun v6=>lg_ v6 7 h2 fun v8=>T Pg 102 [v8] h2 fun v9 h10=>bnd (isV 8 (s1 0) (s1 1)) fun v11=>lg_ v11 3 h10 fun v13=>bnd (binV .xor v13 (i64 90)) fun v14=>bnd (isV 8 (s1 0) (s1 1)) fun v15=>sg_ v15 3 v14 h10 fun h17=>bnd (binV .add (s1 1) (i64 1)) fun v18=>again3 (tup [(s1 0),v18]) h17) (K (.tuple #[]) h2)) (tup [a0,i64 0]) h
def A64:Ann:=⟨fun _=> ([], []),fun | 0=> [0,2] | _=> []⟩
theorem S64_T{a0:VV}{h}{K}(g:S64 a0 h K):T Pg 64 [a0] h K:=gwT A64 Tryz.func64 g
def S65(a0:VV)(h:GH)(K:CC):Prop:=
 bnd (eqK .ptr true a0 nP_) fun b1=>ifV (.bool b1) (K nS_ h) (lf_ a0 0 h fun v4=>T Pg 36 [v4] h fun v5 h6=>K v5 h6)
theorem S65_T{a0:VV}{h}{K}(g:S65 a0 h K):T Pg 65 [a0] h K:=gwT aN_ Tryz.func65 g
def S66(a0 a1:VV)(h:GH)(K:CC):Prop:=
 bnd (lnV a0) fun v1=>bnd (lnV a1) fun v2=>en_ v1 v2 (K (.bool false) h) (Lfp (fun (s4:Nat→Value) h5 again6=>bnd (lnV (s4 0)) fun v7=>bi_ .lss (s4 2) v7 (bnd (isV 8 (s4 0) (s4 2)) fun v9=>bnd (ldV 8 true v9 h5) fun v10=>bnd (isV 8 (s4 1) (s4 2)) fun v11=>bnd (ldV 8 true v11 h5) fun v12=>bnd (eqP Pg 10000 60 v10 v12) fun b13=>ifV (.bool (!b13)) (K (.bool false) h5) (bnd (binV .add (s4 2) (i64 1)) fun v14=>again6 (tup [(s4 0),(s4 1),v14]) h5)) (K (.bool true) h5)) (tup [a0,a1,i64 0]) h)
def A66:Ann:=⟨fun | 6=> ((.range 9), [0,0,3,7,0,0,48,112,255]) | _=> ([], []),fun | 0=> [0,1,5] | _=> []⟩
theorem S66_T{a0 a1:VV}{h}{K}(g:S66 a0 a1 h K):T Pg 66 [a0,a1] h K:=gwT A66 Tryz.func66 g
def S67(a0:VV)(h:GH)(K:CC):Prop:=
 Lfp (fun (s1:Nat→Value) h2 again3=>bnd (lnV (s1 0)) fun v4=>bi_ .lss (s1 1) v4 (bnd (isV 8 (s1 0) (s1 1)) fun v6=>lg_ v6 2 h2 fun v8=>bnd (binV .xor v8 (i64 90)) fun v9=>bnd (isV 8 (s1 0) (s1 1)) fun v10=>sg_ v10 2 v9 h2 fun h12=>bnd (binV .add (s1 1) (i64 1)) fun v13=>again3 (tup [(s1 0),v13]) h12) (K (.tuple #[]) h2)) (tup [a0,i64 0]) h
def A67:Ann:=⟨fun _=> ([], []),fun | 0=> [0,2] | _=> []⟩
theorem S67_T{a0:VV}{h}{K}(g:S67 a0 h K):T Pg 67 [a0] h K:=gwT A67 Tryz.func67 g
def S68(a0 a1:VV)(h:GH)(K:CC):Prop:=
 newV 56 (a0:VV).cells.toList h fun v1 h2=>newV 56 (a1:VV).cells.toList h2 fun v3 h4=>lg_ v1 0 h4 fun v6=>lg_ v3 0 h4 fun v8=>ei_ v6 v8 (lg_ v1 1 h4 fun v11=>lg_ v3 1 h4 fun v13=>ei_ v11 v13 (lg_ v1 2 h4 fun v16=>lg_ v3 2 h4 fun v18=>ei_ v16 v18 (lg_ v1 3 h4 fun v21=>lg_ v3 3 h4 fun v23=>ei_ v21 v23 (lg_ v1 4 h4 fun v26=>lg_ v3 4 h4 fun v28=>ei_ v26 v28 (lg_ v1 5 h4 fun v31=>lg_ v3 5 h4 fun v33=>ei_ v31 v33 (lg_ v1 6 h4 fun v36=>lg_ v3 6 h4 fun v38=>ei_ v36 v38 (lg_ v1 7 h4 fun v41=>lg_ v3 7 h4 fun v43=>T Pg 72 [v41,v43] h4 fun v44 h45=>K v44 h45) (K (.bool false) h4)) (K (.bool false) h4)) (
 K (.bool false) h4)) (K (.bool false) h4)) (K (.bool false) h4)) (K (.bool false) h4)) (K (.bool false) h4)
theorem S68_T{a0 a1:VV}{h}{K}(g:S68 a0 a1 h K):T Pg 68 [a0,a1] h K:=gwT aN_ Tryz.func68 g
def S72(a0 a1:VV)(h:GH)(K:CC):Prop:=
 bnd (lnV a0) fun v1=>bnd (lnV a1) fun v2=>en_ v1 v2 (K (.bool false) h) (Lfp (fun (s4:Nat→Value) h5 again6=>bnd (lnV (s4 0)) fun v7=>bi_ .lss (s4 2) v7 (bnd (isV 2 (s4 0) (s4 2)) fun v9=>bnd (ldV 2 true v9 h5) fun v10=>bnd (isV 2 (s4 1) (s4 2)) fun v11=>bnd (ldV 2 true v11 h5) fun v12=>bnd (eqP Pg 10000 122 v10 v12) fun b13=>ifV (.bool (!b13)) (K (.bool false) h5) (bnd (binV .add (s4 2) (i64 1)) fun v14=>again6 (tup [(s4 0),(s4 1),v14]) h5)) (K (.bool true) h5)) (tup [a0,a1,i64 0]) h)
def A72:Ann:=⟨fun | 6=> ((.range 9), [0,0,3,7,0,0,48,112,255]) | _=> ([], []),fun | 0=> [0,1,5] | _=> []⟩
theorem S72_T{a0 a1:VV}{h}{K}(g:S72 a0 a1 h K):T Pg 72 [a0,a1] h K:=gwT A72 Tryz.func72 g
def S75(a0 a1:VV)(h:GH)(K:CC):Prop:=
 bi_ .geq a0 (i64 0) (bnd (binV .lss a0 a1) fun v2=>K v2 h) (K (.bool false) h)
theorem S75_T{a0 a1:VV}{h}{K}(g:S75 a0 a1 h K):T Pg 75 [a0,a1] h K:=gwT aN_ Tryz.func75 g
def S76_j1(x1:VV)(h:GH)(K:CC) :Prop:=
 lg_ x1 0 h fun v2=>bnd (lnV v2) fun v3=>Lfp (fun (s4:Nat→Value) h5 again6=>bi_ .lss (s4 2) (s4 1) (li_ (s4 0) (s4 2) h5 fun v9=>bnd (lnV v9) fun v10=>bi_ .gtr v10 (i64 8) (K (.bool false) h5) (bnd (lnV v9) fun v12=>Lfp (fun (s13:Nat→Value) h14 again15=>bi_ .lss (s13 5) (s13 4) (bnd (isV 1 (s13 3) (s13 5)) fun v17=>bnd (ldV 1 true v17 h14) fun v18=>newV 27 [nS_] h14 fun v19 h20=>bnd (stV 1 v19 v18 h20) fun h21=>lg_ v19 0 h21 fun v23=>T Pg 108 [v23] h21 fun v24 h25=>ni_ v24 (K (.bool false) h25) (bnd (binV .add (s13 5) (i64 1)) fun v27=>
 again15 (tup [(s13 0),(s13 1),(s13 2),(s13 3),(s13 4),v27]) h25)) (bnd (binV .add (s13 2) (i64 1)) fun v28=>again6 (tup [(s13 0),(s13 1),v28]) h14)) (tup [(s4 0),(s4 1),(s4 2),v9,v12,i64 0]) h5)) (K (.bool true) h5)) (tup [v2,v3,i64 0]) h
def S76(a0:VV)(h:GH)(K:CC):Prop:=
 newV 67 (a0:VV).cells.toList h fun v1 h2=>lg_ v1 0 h2 fun v4=>bnd (lnV v4) fun v5=>bi_ .lss v5 (i64 1) (K (.bool false) h2) (lg_ v1 0 h2 fun v8=>bnd (lnV v8) fun v9=>bi_ .gtr v9 (i64 4) (K (.bool false) h2) (lg_ v1 1 h2 fun v12=>bi_ .lss v12 (i64 1) (K (.bool false) h2) (lg_ v1 1 h2 fun v15=>bi_ .gtr v15 (i64 16) (K (.bool false) h2) (S76_j1 v1 h2 K))))
def A76:Ann:=⟨fun _=> ([], []),fun | 0=> [28,29,30] | 2=> [28,29,30,37,38,39] | _=> []⟩
theorem S76_T{a0:VV}{h}{K}(g:S76 a0 h K):T Pg 76 [a0] h K:=gwT A76 Tryz.func76 g
def S77(a0:VV)(h:GH)(K:CC):Prop:=
 bnd (eqK .slice true a0 nS_) fun b1=>ifV (.bool b1) (K nS_ h) (bsV 24 0 [] [] h fun v2 h3=>apV 24 4 32 v2 a0 h3 fun v4 h5=>K v4 h5)
theorem S77_T{a0:VV}{h}{K}(g:S77 a0 h K):T Pg 77 [a0] h K:=gwT aN_ Tryz.func77 g
def S78(a0:VV)(h:GH)(K:CC):Prop:=
 T Pg 112 [a0] h fun v1 h2=>K v1 h2
theorem S78_T{a0:VV}{h}{K}(g:S78 a0 h K):T Pg 78 [a0] h K:=gwT aN_ Tryz.func78 g
def S79_j1(x0:VV)(h:GH)(K:CC) :Prop:=
 lf_ x0 0 h fun v3=>T Pg 113 [v3] h fun v4 h5=>x2_ v4 fun v6 v7=>sf_ x0 15 v6 h5 fun h10=>sf_ x0 20 (i64 2) h10 fun h13=>sf_ x0 6 (.func (.func 114) #[] #[]) h13 fun h16=>K (.bool true) h16
def S79(a0 a1:VV)(h:GH)(K:CC):Prop:=
 T Pg 33 [a0] h fun v1 h2=>ifV v1 (K (.bool false) h2) (lf_ a0 9 h2 fun v5=>bi_ .gtr v5 (i64 0) (lf_ a0 9 h2 fun v9=>bnd (binV .sub v9 (i64 1)) fun v10=>sf_ a0 9 v10 h2 fun h13=>K (.bool false) h13) (lf_ a0 8 h2 fun v16=>ei_ v16 (i64 0) (lf_ a0 5 h2 fun v20=>lf_ a0 0 h2 fun v23=>lf_ a0 5 h2 fun v26=>bnd (lnV v26) fun v27=>bnd (fillV [i64 0,i64 0,i64 0,i64 0,i64 0,i64 0,i64 0,nS_] [(0,1,v23),(1,1,v27),(2,1,a1),(3,1,(.int .i64 (-1))),(4,1,(.int .i64 (-1)))]) fun c28=>
 bsV 56 1 [i64 0,i64 0,i64 0,i64 0,i64 0,i64 0,i64 0,nS_] [(0,8,(.agg c28.toArray))] h2 fun v29 h30=>apV 56 8 80 v20 v29 h30 fun v31 h32=>sf_ a0 5 v31 h32 fun h35=>S79_j1 a0 h35 K) (S79_j1 a0 h2 K)))
def A79:Ann:=⟨fun | 7=> ((.range 21), [0,0,2,6,14,0,32,96,224,0,512,1536,3584,7680,0,32736,65504,131070,262143,524287,1048575]) | _=> ([], []),fun _=> []⟩
theorem S79_T{a0 a1:VV}{h}{K}(g:S79 a0 a1 h K):T Pg 79 [a0,a1] h K:=gwT A79 Tryz.func79 g
def S80(a0:VV)(h:GH)(K:CC):Prop:=
 bnd (eqK .slice true a0 nS_) fun b1=>ifV (.bool b1) (K nS_ h) (bsV 56 0 [] [] h fun v2 h3=>apV 56 8 80 v2 a0 h3 fun v4 h5=>K v4 h5)
theorem S80_T{a0:VV}{h}{K}(g:S80 a0 h K):T Pg 80 [a0] h K:=gwT aN_ Tryz.func80 g
def S81(a0:VV)(h:GH)(K:CC):Prop:=
 bnd (eqK .slice true a0 nS_) fun b1=>ifV (.bool b1) (K nS_ h) (bsV 122 0 [] [] h fun v2 h3=>apV 122 2 16 v2 a0 h3 fun v4 h5=>K v4 h5)
theorem S81_T{a0:VV}{h}{K}(g:S81 a0 h K):T Pg 81 [a0] h K:=gwT aN_ Tryz.func81 g
def S82(a0 a1 a2 a3:VV)(h:GH)(K:CC):Prop:=
 bnd (eqK .ptr true a0 nP_) fun b1=>ifV (.bool b1) (K (.tuple #[i64 0,i64 1]) h) (T Pg 75 [a2,i64 634] h fun v2 h3=>ni_ v2 (K (.tuple #[i64 0,i64 200]) h3) (bnd (ncV a0) fun v5=>bnd (faV 0 v5) fun v6=>bnd (iaV 634 1 v6 a2) fun v7=>bnd (ldV 1 false v7 h3) fun v8=>bnd (ncV a0) fun v9=>bnd (faV 0 v9) fun v10=>callV Pg a3 [v8] h3 fun v11 h12=>bnd (iaV 634 1 v10 a2) fun v13=>bnd (stV 1 v13 v11 h12) fun h14=>bnd (ncV a0) fun v15=>bnd (faV 0 v15) fun v16=>bnd (iaV 634 1 v16 a2) fun v17=>bnd (ldV 1 false v17 h14) fun v18=>
 bnd (fillV [i64 0,i64 0,i64 0,i64 0,i64 0,i64 0,i64 0,i64 0] [(1,1,a1),(2,1,a2),(3,1,v8),(4,1,v18)]) fun c19=>bnd (ncV a0) fun v20=>bnd (faV 634 v20) fun v21=>bnd (stV 8 v21 (.agg c19.toArray) h14) fun h22=>sf_ a0 642 (.bool true) h22 fun h25=>K (.tuple #[v8,i64 0]) h25))
def A82:Ann:=⟨fun | 6=> ([0,1,2,3,5,6,4,7,8], [0,0,0,0,12,1,33,127,255]) | _=> ([], []),fun _=> []⟩
theorem S82_T{a0 a1 a2 a3:VV}{h}{K}(g:S82 a0 a1 a2 a3 h K):T Pg 82 [a0,a1,a2,a3] h K:=gwT A82 Tryz.func82 g
def S83(a0 a1:VV)(h:GH)(K:CC):Prop:=
 bnd (ldV 1 false a1 h) fun v1=>K v1 h
theorem S83_T{a0 a1:VV}{h}{K}(g:S83 a0 a1 h K):T Pg 83 [a0,a1] h K:=gwT aN_ Tryz.func83 g
def S84(a0:VV)(h:GH)(K:CC):Prop:=
 bnd (eqK .slice true a0 nS_) fun b1=>ifV (.bool b1) (K nS_ h) (bsV 3 0 [] [] h fun v2 h3=>apV 3 1 8 v2 a0 h3 fun v4 h5=>K v4 h5)
theorem S84_T{a0:VV}{h}{K}(g:S84 a0 h K):T Pg 84 [a0] h K:=gwT aN_ Tryz.func84 g
def S85(a0:VV)(h:GH)(K:CC):Prop:=
 K a0 h
theorem S85_T{a0:VV}{h}{K}(g:S85 a0 h K):T Pg 85 [a0] h K:=gwT aN_ Tryz.func85 g
def S88(a0:VV)(h:GH)(K:CC):Prop:=
 lf_ a0 20 h fun v3=>bnd (lnV v3) fun v4=>lf_ a0 8 h fun v7=>ei_ v7 (i64 0) (lf_ a0 4 h fun v11=>bnd (lnV v11) fun v12=>ei_ v4 v12 (ei_ v4 (i64 0) (K (.bool true) h) (lf_ a0 20 h fun v17=>bnd (binV .sub v4 (i64 1)) fun v18=>bnd (isV 8 v17 v18) fun v19=>lg_ v19 4 h fun v21=>bnd (binV .geq v21 (i64 0)) fun v22=>K v22 h)) (K (.bool false) h)) (K (.bool false) h)
theorem S88_T{a0:VV}{h}{K}(g:S88 a0 h K):T Pg 88 [a0] h K:=gwT aN_ Tryz.func88 g
def S89_j1(x0 x4:VV)(h:GH)(K:CC) :Prop:=
 lf_ x0 15 h fun v3=>bnd (ldV 8 true x4 h) fun v4=>bsV 60 1 [i64 0,i64 0,i64 0,i64 0,i64 0,i64 0,i64 0,i64 0] [(0,8,v4)] h fun v5 h6=>apV 60 8 64 v3 v5 h6 fun v7 h8=>sf_ x0 15 v7 h8 fun h11=>T Pg 115 [x4] h11 fun v12 h13=>x2_ v12 fun v14 v15=>ifV v15 (lf_ x0 1 h13 fun v18=>bnd (lnV v18) fun v19=>Lfp (fun (s20:Nat→Value) h21 again22=>bi_ .lss (s20 4) (s20 3) (li_ (s20 2) (s20 4) h21 fun v25=>lf_ (s20 0) 14 h21 fun v28=>T Pg 116 [v25,(s20 1),v28] h21 fun v29 h30=>bnd (binV .add (s20 4) (i64 1)) fun v31=>
 again22 (tup [(s20 0),(s20 1),(s20 2),(s20 3),v31]) h30) (K (.tuple #[]) h21)) (tup [x0,v14,v18,v19,i64 0]) h13) (K (.tuple #[]) h13)
def S89(a0 a1:VV)(h:GH)(K:CC):Prop:=
 lf_ a0 0 h fun v3=>T Pg 38 [v3] h fun v4 h5=>x2_ v4 fun v6 v7=>newV 60 [i64 0,i64 0,i64 0,i64 0,i64 0,i64 0,i64 0,i64 0] h5 fun v8 h9=>bnd (stV 8 v8 v6 h9) fun h10=>sg_ v8 0 a1 h10 fun h12=>lf_ a0 1 h12 fun v15=>li_ v15 a1 h12 fun v17=>T Pg 34 [v17] h12 fun v18 h19=>x2_ v18 fun v20 v21=>sg_ v8 5 v20 h19 fun h23=>sg_ v8 6 v21 h23 fun h25=>lg_ v8 5 h25 fun v27=>bi_ .geq v27 (i64 0) (lg_ v8 5 h25 fun v30=>bnd (ncV a0) fun v31=>bnd (faV 2 v31) fun v32=>bnd (iaV 12 1 v32 v30) fun v33=>bnd (ldV 1 false v33 h25) fun v34=>
 sg_ v8 7 v34 h25 fun h36=>S89_j1 a0 v8 h36 K) (S89_j1 a0 v8 h25 K)
def A89:Ann:=⟨fun | 4=> ((.range 9), [0,0,2,1,9,31,63,127,255]) | 5=> ((.range 11), [0,0,2,6,14,0,32,126,255,511,1023]) | _=> ([], []),fun | 0=> [0,6,62,63,64] | _=> []⟩
theorem S89_T{a0 a1:VV}{h}{K}(g:S89 a0 a1 h K):T Pg 89 [a0,a1] h K:=gwT A89 Tryz.func89 g
def S90(a0:VV)(h:GH)(K:CC):Prop:=
 bnd (eqK .slice true a0 nS_) fun b1=>ifV (.bool b1) (K nS_ h) (bsV 60 0 [] [] h fun v2 h3=>apV 60 8 64 v2 a0 h3 fun v4 h5=>K v4 h5)
theorem S90_T{a0:VV}{h}{K}(g:S90 a0 h K):T Pg 90 [a0] h K:=gwT aN_ Tryz.func90 g
def S91_j2(s1:Nat→Value)(s14:Nat→Value)(x1 x3 x4 x5:VV)(h:GH)(K:CC)(again3:(Nat→VV)→GH→Prop)(again16:(Nat→VV)→GH→Prop):Prop:=
 Lfp (fun (s4:Nat→Value) h5 again6=>bnd (lnV (s4 3)) fun v7=>bi_ .lss (s4 4) v7 (bnd (isV 4 (s4 3) (s4 4)) fun v9=>bnd (ldV 4 true v9 h5) fun v10=>T Pg 117 [v10] h5 fun v11 h12=>ni_ v11 (K (.bool false) h12) (bnd (binV .add (s4 4) (i64 1)) fun v14=>again6 (tup [(s4 0),(s4 1),(s4 2),(s4 3),v14]) h12)) (bnd (binV .add (s4 2) (i64 1)) fun v15=>again16 (tup [(s4 0),(s4 1),v15]) h5)) (tup [x1,x3,x4,x5,i64 0]) h
def S91_j1(x1:VV)(h:GH)(K:CC) :Prop:=
 Lfp (fun (s1:Nat→Value) h2 again3=>lg_ (s1 0) 0 h2 fun v5=>bnd (lnV v5) fun v6=>bi_ .lss (s1 1) v6 (lg_ (s1 0) 0 h2 fun v9=>li_ v9 (s1 1) h2 fun v11=>bnd (lnV v11) fun v12=>bi_ .gtr v12 (i64 8) (K (.bool false) h2) (Lfp (fun (s14:Nat→Value) h15 again16=>lg_ (s14 0) 0 h15 fun v18=>li_ v18 (s14 1) h15 fun v20=>bnd (lnV v20) fun v21=>bi_ .lss (s14 2) v21 (lg_ (s14 0) 0 h15 fun v24=>li_ v24 (s14 1) h15 fun v26=>bnd (isV 1 v26 (s14 2)) fun v27=>lg_ v27 0 h15 fun v29=>bnd (lnV v29) fun v30=>bi_ .lss v30 (i64 1) (K (.bool false) h15) (bnd (lnV v29) fun v32=>bi_ .gtr v32 (i64 2) (
 K (.bool false) h15) (S91_j2 s1 s14 (s14 0) (s14 1) (s14 2) v29 h15 K again3 again16))) (bnd (binV .add (s14 1) (i64 1)) fun v34=>again3 (tup [(s14 0),v34]) h15)) (tup [(s1 0),(s1 1),i64 0]) h2)) (K (.bool true) h2)) (tup [x1,i64 0]) h
def S91(a0:VV)(h:GH)(K:CC):Prop:=
 newV 67 (a0:VV).cells.toList h fun v1 h2=>lg_ v1 0 h2 fun v4=>bnd (lnV v4) fun v5=>bi_ .lss v5 (i64 1) (K (.bool false) h2) (lg_ v1 0 h2 fun v8=>bnd (lnV v8) fun v9=>bi_ .gtr v9 (i64 4) (K (.bool false) h2) (lg_ v1 1 h2 fun v12=>bi_ .lss v12 (i64 1) (K (.bool false) h2) (lg_ v1 1 h2 fun v15=>bi_ .gtr v15 (i64 16) (K (.bool false) h2) (S91_j1 v1 h2 K))))
def A91:Ann:=⟨fun _=> ([], []),fun | 0=> [1,3] | 2=> [1,3,4] | 4=> [1,3,4,5,6] | _=> []⟩
theorem S91_T{a0:VV}{h}{K}(g:S91 a0 h K):T Pg 91 [a0] h K:=gwT A91 Tryz.func91 g
def S92(h:GH)(K:CC):Prop:=
 bnd (fillV (List.replicate 642 (i64 0) ++ [(.bool false)]) []) fun c1=>newV 103 ((.agg c1.toArray):VV).cells.toList h fun v2 h3=>bnd (ncV v2) fun v4=>bnd (faV 0 v4) fun v5=>T Pg 118 [i64 1] h3 fun v6 h7=>bnd (iaV 634 1 v5 (i64 16)) fun v8=>bnd (stV 1 v8 v6 h7) fun h9=>Lfp (fun (s10:Nat→Value) h11 again12=>bnd (binV .add (s10 1) (i64 1)) fun v13=>bi_ .lss v13 (i64 12) (bnd (binV .add (i64 17) (s10 1)) fun v15=>bnd (binV .add (s10 1) (i64 2)) fun v16=>bnd (ncV (s10 0)) fun v17=>bnd (faV 0 v17) fun v18=>T Pg 118 [v16] h11 fun v19 h20=>
 bnd (iaV 634 1 v18 v15) fun v21=>bnd (stV 1 v21 v19 h20) fun h22=>bnd (binV .add (s10 1) (i64 1)) fun v23=>again12 (tup [(s10 0),v23]) h22) (K (s10 0) h11)) (tup [v2,i64 0]) h9
def A92:Ann:=⟨fun | 2=> ([0,2,3,1,4,5], [0,0,1,5,15,31]) | 6=> ([0,1,2,3,4,6,7,5,8,9], [0,0,2,0,8,24,1,65,255,511]) | _=> ([], []),fun | 0=> [1,2] | _=> []⟩
theorem S92_T{h}{K}(g:S92 h K):T Pg 92 [] h K:=gwT A92 Tryz.func92 g
def S93_j1(x0 x1 x2 x3 x4:VV)(h:GH)(K:CC) :Prop:=
 bnd (fillV [i64 0,i64 0,i64 0,(.bool false),nS_,nS_,nS_,i64 0,i64 0,i64 0,nS_,nP_,nP_,nP_,nP_,nP_,i64 0,i64 0,i64 0,(.bool false),nS_,i64 0,i64 0] [(0,1,x0),(1,1,x1),(2,1,x2),(3,1,x3),(9,1,(.int .i64 (-1))),(21,1,(.int .i64 (-1)))]) fun c1=>newV 169 ((.agg c1.toArray):VV).cells.toList h fun v2 h3=>Lfp (fun (s4:Nat→Value) h5 again6=>bnd (lnV (s4 0)) fun v7=>bi_ .lss (s4 2) v7 (bnd (ncV (s4 1)) fun v9=>bnd (faV 4 v9) fun v10=>bnd (ldV 1 false v10 h5) fun v11=>bnd (isV 1 (s4 0) (s4 2)) fun v12=>
 lg_ v12 0 h5 fun v14=>bsV 24 0 [] [] h5 fun v15 h16=>apV 24 4 32 v15 v14 h16 fun v17 h18=>ldV 1 false v10 h18=some v11∧bnd (fillV [nS_] [(0,1,v17)]) fun c19=>bsV 27 1 [nS_] [(0,1,(.agg c19.toArray))] h18 fun v20 h21=>apV 27 1 24 v11 v20 h21 fun v22 h23=>sf_ (s4 1) 4 v22 h23 fun h26=>bnd (binV .add (s4 2) (i64 1)) fun v27=>again6 (tup [(s4 0),(s4 1),v27]) h26) (K (.tuple #[(s4 1),i64 0]) h5)) (tup [x4,v2,i64 0]) h3
def S93(a0 a1 a2 a3 a4:VV)(h:GH)(K:CC):Prop:=
 bsV 28 1 [nS_] [(0,1,a4)] h fun v1 h2=>bnd (fillV [nS_,i64 0,(.bool false)] [(0,1,v1),(1,1,a2),(2,1,a3)]) fun c3=>newV 67 [nS_,i64 0,(.bool false)] h2 fun v4 h5=>bnd (stV 3 v4 (.agg c3.toArray) h5) fun h6=>bi_ .lss a1 (i64 1) (K (.tuple #[nP_,i64 1800]) h6) (bi_ .gtr a1 (i64 4) (K (.tuple #[nP_,i64 1800]) h6) (bi_ .lss a0 (i64 0) (K (.tuple #[nP_,i64 1800]) h6) (bi_ .geq a0 a1 (K (.tuple #[nP_,i64 1800]) h6) (bnd (ldV 3 true v4 h6) fun v11=>T Pg 91 [v11] h6 fun v12 h13=>ni_ v12 (K (.tuple #[nP_,i64 1800]) h13) (
 S93_j1 a0 a1 a2 a3 a4 h13 K)))))
def A93:Ann:=⟨fun | 8=> ([0,1,2,3,4,6,7,8,9,10,5,11,12,13,14,15,16,17], [0,0,2,6,14,0,0,0,192,448,960,2016,4064,8160,16382,32767,65535,131071]) | _=> ([], []),fun | 0=> [4,13,14] | _=> []⟩
theorem S93_T{a0 a1 a2 a3 a4:VV}{h}{K}(g:S93 a0 a1 a2 a3 a4 h K):T Pg 93 [a0,a1,a2,a3,a4] h K:=gwT A93 Tryz.func93 g
def S94(a0 a1:VV)(h:GH)(K:CC):Prop:=
 bnd (lnV a0) fun v1=>bnd (lnV a1) fun v2=>en_ v1 v2 (K (.bool false) h) (Lfp (fun (s4:Nat→Value) h5 again6=>bnd (lnV (s4 0)) fun v7=>bi_ .lss (s4 2) v7 (bnd (isV 4 (s4 0) (s4 2)) fun v9=>bnd (ldV 4 true v9 h5) fun v10=>bnd (isV 4 (s4 1) (s4 2)) fun v11=>bnd (ldV 4 true v11 h5) fun v12=>bnd (eqP Pg 10000 24 v10 v12) fun b13=>ifV (.bool (!b13)) (K (.bool false) h5) (bnd (binV .add (s4 2) (i64 1)) fun v14=>again6 (tup [(s4 0),(s4 1),v14]) h5)) (K (.bool true) h5)) (tup [a0,a1,i64 0]) h)
def A94:Ann:=⟨fun | 6=> ((.range 9), [0,0,3,7,0,0,48,112,255]) | _=> ([], []),fun | 0=> [0,1,5] | _=> []⟩
theorem S94_T{a0 a1:VV}{h}{K}(g:S94 a0 a1 h K):T Pg 94 [a0,a1] h K:=gwT A94 Tryz.func94 g
def S95(a0:VV)(h:GH)(K:CC):Prop:=
 Lfp (fun (s1:Nat→Value) h2 again3=>bnd (lnV (s1 0)) fun v4=>bi_ .lss (s1 1) v4 (bnd (isV 4 (s1 0) (s1 1)) fun v6=>lg_ v6 3 h2 fun v8=>bnd (binV .xor v8 (i64 90)) fun v9=>bnd (isV 4 (s1 0) (s1 1)) fun v10=>sg_ v10 3 v9 h2 fun h12=>bnd (binV .add (s1 1) (i64 1)) fun v13=>again3 (tup [(s1 0),v13]) h12) (K (.tuple #[]) h2)) (tup [a0,i64 0]) h
def A95:Ann:=⟨fun _=> ([], []),fun | 0=> [0,2] | _=> []⟩
theorem S95_T{a0:VV}{h}{K}(g:S95 a0 h K):T Pg 95 [a0] h K:=gwT A95 Tryz.func95 g
def S96_j1(x0 x1 x2 x3:VV)(h:GH)(K:CC) :Prop:=
 T Pg 120 [x0,x1,x2,x3] h fun v1 h2=>en_ v1 (i64 0) (sf_ x0 8 (i64 8) h2 fun h6=>K (.tuple #[(.bool true),i64 1800]) h6) (K (.tuple #[(.bool true),i64 0]) h2)
def S96(a0 a1 a2 a3:VV)(h:GH)(K:CC):Prop:=
 sf_ a0 21 (.int .i64 (-1)) h fun h3=>sf_ a0 22 (i64 0) h3 fun h6=>lf_ a0 8 h6 fun v9=>ei_ v9 (i64 8) (K (.tuple #[(.bool false),i64 1800]) h6) (lf_ a0 8 h6 fun v13=>ei_ v13 (i64 0) (T Pg 119 [a0,a3] h6 fun v15 h16=>ni_ v15 (K (.tuple #[(.bool false),i64 0]) h16) (S96_j1 a0 a1 a2 a3 h16 K)) (S96_j1 a0 a1 a2 a3 h6 K))
theorem S96_T{a0 a1 a2 a3:VV}{h}{K}(g:S96 a0 a1 a2 a3 h K):T Pg 96 [a0,a1,a2,a3] h K:=gwT aN_ Tryz.func96 g
def S97(a0:VV)(h:GH)(K:CC):Prop:=
 newV 60 [i64 0,i64 0,i64 0,i64 0,i64 0,i64 0,i64 0,i64 0] h fun v1 h2=>bnd (ncV a0) fun v3=>bnd (faV 634 v3) fun v4=>bnd (ldV 8 true v4 h2) fun v5=>bnd (ncV a0) fun v6=>bnd (faV 642 v6) fun v7=>bnd (ldV 1 false v7 h2) fun v8=>bnd (stV 8 v1 v5 h2) fun h9=>ldV 1 false v7 h9=some v8∧bnd (ldV 8 true v1 h9) fun v10=>K (.tuple #[v10,v8]) h9
def A97:Ann:=⟨fun | 1=> ((.range 10), [0,1,3,7,0,16,48,112,15,511]) | _=> ([], []),fun _=> []⟩
theorem S97_T{a0:VV}{h}{K}(g:S97 a0 h K):T Pg 97 [a0] h K:=gwT A97 Tryz.func97 g
def S98(a0:VV)(h:GH)(K:CC):Prop:=
 lf_ a0 21 h fun v3=>lf_ a0 22 h fun v6=>K (.tuple #[v3,v6]) h
def A98:Ann:=⟨fun | 1=> ((.range 10), [0,1,3,7,0,16,48,112,15,511]) | _=> ([], []),fun _=> []⟩
theorem S98_T{a0:VV}{h}{K}(g:S98 a0 h K):T Pg 98 [a0] h K:=gwT A98 Tryz.func98 g
def S99_j2(s1:Nat→Value)(x0 x4 x5 x6 x69:VV)(h:GH)(K:CC)(again3:(Nat→VV)→GH→Prop):Prop:=
 ifV x69 (lf_ x6 20 h fun v3=>lf_ x6 20 h fun v6=>bnd (lnV v6) fun v7=>bnd (binV .sub v7 (i64 1)) fun v8=>bnd (isV 8 v3 v8) fun v9=>bnd (ldV 8 true v9 h) fun v10=>newV 56 [i64 0,i64 0,i64 0,i64 0,i64 0,i64 0,i64 0,nS_] h fun v11 h12=>bnd (stV 8 v11 v10 h12) fun h13=>lf_ x0 17 h13 fun v16=>sg_ v11 3 v16 h13 fun h18=>lf_ x6 20 h18 fun v21=>lf_ x6 20 h18 fun v24=>bnd (lnV v24) fun v25=>bnd (binV .sub v25 (i64 1)) fun v26=>bnd (ldV 8 true v11 h18) fun v27=>bnd (isV 8 v21 v26) fun v28=>bnd (stV 8 v28 v27 h18) fun h29=>
 bnd (binV .add x5 (i64 1)) fun v30=>again3 (tup [x0,x4,v30]) h29) (bnd (binV .add x5 (i64 1)) fun v31=>again3 (tup [x0,x4,v31]) h)
def S99_j1(x0 x4:VV)(h:GH)(K:CC) :Prop:=
 Lfp (fun (s1:Nat→Value) h2 again3=>lf_ (s1 0) 4 h2 fun v6=>bnd (lnV v6) fun v7=>bi_ .lss (s1 2) v7 (lf_ (s1 0) 4 h2 fun v11=>li_ v11 (s1 2) h2 fun v13=>lf_ v13 9 h2 fun v16=>ei_ v16 (s1 1) (lf_ v13 20 h2 fun v20=>bnd (lnV v20) fun v21=>bnd (binV .gtr v21 (i64 0)) fun v22=>S99_j2 s1 (s1 0) (s1 1) (s1 2) v13 v22 h2 K again3) (S99_j2 s1 (s1 0) (s1 1) (s1 2) v13 (.bool false) h2 K again3)) (K (.tuple #[]) h2)) (tup [x0,x4,i64 0]) h
def S99(a0 a1:VV)(h:GH)(K:CC):Prop:=
 newV 60 (a1:VV).cells.toList h fun v1 h2=>lg_ v1 2 h2 fun v4=>bnd (binV .sub v4 (i64 34)) fun v5=>bnd (binV .quo v5 (i64 50)) fun v6=>lg_ v1 1 h2 fun v8=>en_ v8 (i64 2) (K (.tuple #[]) h2) (lg_ v1 2 h2 fun v11=>bi_ .lss v11 (i64 34) (K (.tuple #[]) h2) (bnd (faV 2 v1) fun v13=>bnd (ldV 1 false v13 h2) fun v14=>T Pg 121 [v6] h2 fun v15 h16=>ldV 1 false v13 h16=some v14∧en_ v14 v15 (K (.tuple #[]) h16) (lg_ v1 3 h16 fun v19=>lg_ v1 4 h16 fun v21=>ei_ v19 v21 (K (.tuple #[]) h16) (lg_ v1 4 h16 fun v24=>bnd (binV .rem v24 (i64 16)) fun v25=>en_ v25 (i64 4) (
 K (.tuple #[]) h16) (S99_j1 a0 v6 h16 K)))))
def A99:Ann:=⟨fun | 2=> ((.range 28), [0,1,3,7,15,31,63,127,255,511,1023,511,2559,8191,16383,32767,65535,131071,65535,327679,1048575,2097151,4194303,8388607,16777215,33554431,67108863,134217727]) | 8=> ((.range 14), [0,1,3,7,0,16,48,112,240,496,1023,2047,0,8191]) | 10=> ((.range 13), [0,1,3,7,0,16,48,112,240,496,0,2047,4095]) | _=> ([], []),fun | 0=> [0,4,5] | _=> []⟩
theorem S99_T{a0 a1:VV}{h}{K}(g:S99 a0 a1 h K):T Pg 99 [a0,a1] h K:=gwT A99 Tryz.func99 g
def S100(a0 a1:VV)(h:GH)(K:CC):Prop:=
 T Pg 122 [a0,a1] h fun v1 h2=>bnd (binV .geq v1 (i64 0)) fun v3=>K v3 h2
theorem S100_T{a0 a1:VV}{h}{K}(g:S100 a0 a1 h K):T Pg 100 [a0,a1] h K:=gwT aN_ Tryz.func100 g
def S101(a0:VV)(h:GH)(K:CC):Prop:=
 T Pg 33 [a0] h fun v1 h2=>bnd (unV .not v1) fun v3=>K v3 h2
theorem S101_T{a0:VV}{h}{K}(g:S101 a0 h K):T Pg 101 [a0] h K:=gwT aN_ Tryz.func101 g
def S102(a0:VV)(h:GH)(K:CC):Prop:=
 Lfp (fun (s1:Nat→Value) h2 again3=>bnd (lnV (s1 0)) fun v4=>bi_ .lss (s1 1) v4 (bnd (isV 2 (s1 0) (s1 1)) fun v6=>lg_ v6 1 h2 fun v8=>bnd (binV .xor v8 (i64 90)) fun v9=>bnd (isV 2 (s1 0) (s1 1)) fun v10=>sg_ v10 1 v9 h2 fun h12=>bnd (binV .add (s1 1) (i64 1)) fun v13=>again3 (tup [(s1 0),v13]) h12) (K (.tuple #[]) h2)) (tup [a0,i64 0]) h
def A102:Ann:=⟨fun _=> ([], []),fun | 0=> [0,2] | _=> []⟩
theorem S102_T{a0:VV}{h}{K}(g:S102 a0 h K):T Pg 102 [a0] h K:=gwT A102 Tryz.func102 g
def S108(a0:VV)(h:GH)(K:CC):Prop:=
 bnd (lnV a0) fun v1=>Lfp (fun (s2:Nat→Value) h3 again4=>bi_ .lss (s2 2) (s2 1) (bnd (isV 4 (s2 0) (s2 2)) fun v6=>T Pg 127 [v6] h3 fun v7 h8=>ni_ v7 (K (.bool false) h8) (bnd (binV .add (s2 2) (i64 1)) fun v10=>again4 (tup [(s2 0),(s2 1),v10]) h8)) (bnd (lnV (s2 0)) fun v11=>bi_ .geq v11 (i64 1) (bnd (lnV (s2 0)) fun v13=>bnd (binV .leq v13 (i64 2)) fun v14=>K v14 h3) (K (.bool false) h3))) (tup [a0,v1,i64 0]) h
def A108:Ann:=⟨fun _=> ([], []),fun | 0=> [0,5,6] | _=> []⟩
theorem S108_T{a0:VV}{h}{K}(g:S108 a0 h K):T Pg 108 [a0] h K:=gwT A108 Tryz.func108 g
def S110(a0:VV)(h:GH)(K:CC):Prop:=
 bi_ .geq a0 (i64 0) (bnd (binV .leq a0 (i64 5)) fun v2=>K v2 h) (K (.bool false) h)
theorem S110_T{a0:VV}{h}{K}(g:S110 a0 h K):T Pg 110 [a0] h K:=gwT aN_ Tryz.func110 g
def S112(a0:VV)(h:GH)(K:CC):Prop:=
 bnd (binV .mul a0 (i64 4)) fun v1=>bnd (binV .add v1 (i64 0)) fun v2=>K v2 h
theorem S112_T{a0:VV}{h}{K}(g:S112 a0 h K):T Pg 112 [a0] h K:=gwT aN_ Tryz.func112 g
def S113(a0:VV)(h:GH)(K:CC):Prop:=
 T Pg 131 [a0] h fun v1 h2=>ni_ v1 (K (.tuple #[nP_,i64 1100]) h2) (bnd (fillV [i64 0,i64 0,(.bool false),(.bool false),(.bool false)] [(0,1,a0)]) fun c4=>newV 201 ((.agg c4.toArray):VV).cells.toList h2 fun v5 h6=>K (.tuple #[v5,i64 0]) h6)
theorem S113_T{a0:VV}{h}{K}(g:S113 a0 h K):T Pg 113 [a0] h K:=gwT aN_ Tryz.func113 g
end Go.Proofs.YtfphpafkhljncaaGreat
