/- Several texts in one; nothing here is a statement on the program. -/
import Derived.Test.YtfphpafkhljncaaGreatQP2
import Derived.Test.YtfphpafkhljncaaGreatProg
import Derived.KernelRfl
set_option linter.unusedVariables false
set_option linter.unusedSimpArgs false
namespace Go.Proofs.YtfphpafkhljncaaGreat
open Go GW Go.Proofs
set_option maxRecDepth 100000
def S7_j1(x1 x2:Value)(h:GH)(K:Value→GH→Prop) :Prop:=
 T Tryz.prog 40 [x1] h fun v1 h2=>bnd (ldV 3 true x2 h2) fun v3=>T Tryz.prog 41 [v3,v1] h2 fun v4 h5=>x2_ v4 fun v6 v7=>bnd (ldV 3 true x2 h5) fun v8=>T Tryz.prog 42 [v8,x1] h5 fun v9 h10=>x2_ v9 fun v11 v12=>T Tryz.prog 37 [v6,v11] h10 fun v13 h14=>ni_ v13 (K (.bool false) h14) (T Tryz.prog 30 [v7] h14 fun v16 h17=>en_ v16 v12 (K (.bool false) h17) (T Tryz.prog 43 [v1,x1] h17 fun v19 h20=>ni_ v19 (K (.bool false) h20) (T Tryz.prog 44 [v6] h20 fun v22 h23=>T Tryz.prog 45 [] h23 fun v24 h25=>K v24 h25)))
def S7(a0 a1:Value)(h:GH)(K:Value→GH→Prop):Prop:=
 newV 67 (a0:Value).cells.toList h fun v1 h2=>bnd (lnV a1) fun v3=>bi_ .gtr v3 (i64 400) (bnd (slV 1 a1 none (some (i64 400))) fun v5=>S7_j1 v5 v1 h2 K) (S7_j1 a1 v1 h2 K)
def A7:Ann:=⟨fun _=> ([], []),fun _=> []⟩
theorem S7_T{a0 a1:Value}{h}{K}(g:S7 a0 a1 h K):T Tryz.prog 7 [a0,a1] h K:=gwT A7 Tryz.func7 g (c:=bodyOf Tryz.f7)
def A22:Ann:=⟨fun _=> ([], []),fun | 0=> [0,3,5] | _=> []⟩
def S27_j1(x0 x1 x2 x3 x4:Value)(h:GH)(K:Value→GH→Prop) :Prop:=
 bnd (fillV [(i64 0),(i64 0),(i64 0),(.bool false),(.slice none 0 0),(.slice none 0 0), .nilFunc,(.bool false),(i64 0),(i64 0),(i64 0),(.slice none 0 0),(.slice none 0 0),(.slice none 0 0),(i64 0),(.pointer none),(.pointer none),(.pointer none),(.pointer none),(.pointer none),(i64 0),(i64 0),(i64 0)] [(0,1,x0),(1,1,x1),(2,1,x2),(3,1,x3),(14,1,(.int .i64 (-1)))]) fun c1=>newV 135 ((.agg c1.toArray):Value).cells.toList h fun v2 h3=>bnd (lnV x4) fun v4=>Lfp (fun (s5:Nat→Value) h6 again7=>bi_ .lss (s5 3) (s5 2) (
 bnd (isV 1 (s5 1) (s5 3)) fun v9=>bnd (ldV 1 true v9 h6) fun v10=>newV 27 [(.slice none 0 0)] h6 fun v11 h12=>bnd (stV 1 v11 v10 h12) fun h13=>bnd (ncV (s5 0)) fun v14=>bnd (faV 4 v14) fun v15=>bnd (ldV 1 false v15 h13) fun v16=>lg_ v11 0 h13 fun v18=>T Tryz.prog 77 [v18] h13 fun v19 h20=>ldV 1 false v15 h20=some v16∧bnd (fillV [(.slice none 0 0)] [(0,1,v19)]) fun c21=>bsV 27 1 [(.slice none 0 0)] [(0,1,(.agg c21.toArray))] h20 fun v22 h23=>apV 27 1 24 v16 v22 h23 fun v24 h25=>sf_ (s5 0) 4 v24 h25 fun h28=>bnd (binV .add (s5 3) (i64 1)) fun v29=>
 again7 (tup [(s5 0),(s5 1),(s5 2),v29]) h28) (bnd (ncV (s5 0)) fun v30=>bnd (faV 21 v30) fun v31=>sg_ v31 0 (.int .i64 (-1)) h6 fun h33=>K (.tuple #[(s5 0),(i64 0)]) h33)) (tup [v2,x4,v4,(i64 0)]) h3
def S27(a0 a1 a2 a3 a4:Value)(h:GH)(K:Value→GH→Prop):Prop:=
 bi_ .lss a1 (i64 1) (K (.tuple #[(.pointer none),(i64 1800)]) h) (bi_ .gtr a1 (i64 4) (K (.tuple #[(.pointer none),(i64 1800)]) h) (T Tryz.prog 75 [a0,a1] h fun v3 h4=>ni_ v3 (K (.tuple #[(.pointer none),(i64 1800)]) h4) (bsV 28 1 [(.slice none 0 0)] [(0,1,a4)] h4 fun v6 h7=>bnd (fillV [(.slice none 0 0),(i64 0),(.bool false)] [(0,1,v6),(1,1,a2)]) fun c8=>T Tryz.prog 76 [(.agg c8.toArray)] h7 fun v9 h10=>ni_ v9 (K (.tuple #[(.pointer none),(i64 1800)]) h10) (S27_j1 a0 a1 a2 a3 a4 h10 K))))
def A27:Ann:=⟨fun | 7=> ([0,1,2,3,4,5,6,7,8,9,10,11,12,13], [0,0,2,6,14,0,32,96,224,480,1022,2047,4095,8191]) | _=> ([], []),fun | 0=> [12,41,42,43] | _=> []⟩
theorem S27_T{a0 a1 a2 a3 a4:Value}{h}{K}(g:S27 a0 a1 a2 a3 a4 h K):T Tryz.prog 27 [a0,a1,a2,a3,a4] h K:=gwT A27 Tryz.func27 g (c:=bodyOf Tryz.f27)
def S28(h:GH)(K:Value→GH→Prop):Prop:=
 bnd (fillV (List.replicate 642 (i64 0) ++ [(.bool false)]) []) fun c1=>newV 138 ((.agg c1.toArray):Value).cells.toList h fun v2 h3=>bnd (ncV v2) fun v4=>bnd (faV 0 v4) fun v5=>T Tryz.prog 78 [(i64 1)] h3 fun v6 h7=>bnd (iaV 634 1 v5 (i64 16)) fun v8=>bnd (stV 1 v8 v6 h7) fun h9=>Lfp (fun (s10:Nat→Value) h11 again12=>bi_ .lss (s10 1) (i64 11) (bnd (binV .add (i64 17) (s10 1)) fun v14=>bnd (binV .add (s10 1) (i64 2)) fun v15=>bnd (ncV (s10 0)) fun v16=>bnd (faV 0 v16) fun v17=>T Tryz.prog 78 [v15] h11 fun v18 h19=>bnd (iaV 634 1 v17 v14) fun v20=>
 bnd (stV 1 v20 v18 h19) fun h21=>bnd (binV .add (s10 1) (i64 1)) fun v22=>again12 (tup [(s10 0),v22]) h21) (K (s10 0) h11)) (tup [v2,(i64 0)]) h9
def A28:Ann:=⟨fun | 2=> ([0,2,3,1,4,5], [0,0,1,5,15,31]) | 6=> ([0,1,2,3,4,6,7,5,8,9], [0,0,2,0,8,24,1,65,255,511]) | _=> ([], []),fun | 0=> [1,10] | _=> []⟩
theorem S28_T{h}{K}(g:S28 h K):T Tryz.prog 28 [] h K:=gwT A28 Tryz.func28 g (c:=bodyOf Tryz.f28)
def S29_j3(x0 x1 x2 x3:Value)(h:GH)(K:Value→GH→Prop) :Prop:=
 lf_ x0 6 h fun v3=>bnd (fillV [(.pointer none),(.pointer none),(.pointer none),(i64 0)] [(0,1,x0),(1,1,x1),(2,1,x2),(3,1,x3)]) fun c4=>newV 143 ((.agg c4.toArray):Value).cells.toList h fun v5 h6=>callV Tryz.prog v3 [v5] h6 fun v7 h8=>en_ v7 (i64 0) (sf_ x0 7 (.bool true) h8 fun h12=>K (.tuple #[(.bool true),(i64 1800)]) h12) (K (.tuple #[(.bool true),(i64 0)]) h8)
def S29_j2(x0 x1 x2 x3:Value)(h:GH)(K:Value→GH→Prop) :Prop:=
 bnd (fillV [(i64 0),(i64 0)] [(0,1,(.int .i64 (-1)))]) fun c1=>bnd (ncV x0) fun v2=>bnd (faV 21 v2) fun v3=>bnd (stV 2 v3 (.agg c1.toArray) h) fun h4=>lf_ x0 6 h4 fun v7=>bnd (eqK .func true v7 .nilFunc) fun b8=>ifV (.bool b8) (T Tryz.prog 79 [x0,x3] h4 fun v9 h10=>ni_ v9 (K (.tuple #[(.bool false),(i64 0)]) h10) (S29_j3 x0 x1 x2 x3 h10 K)) (S29_j3 x0 x1 x2 x3 h4 K)
def S29_j1(x0 x1 x2 x3 x11:Value)(h:GH)(K:Value→GH→Prop) :Prop:=
 ifV x11 (K (.tuple #[(.bool false),(i64 1)]) h) (lf_ x0 7 h fun v3=>ifV v3 (K (.tuple #[(.bool false),(i64 1800)]) h) (S29_j2 x0 x1 x2 x3 h K))
def S29(a0 a1 a2 a3:Value)(h:GH)(K:Value→GH→Prop):Prop:=
 bnd (eqK .ptr true a0 (.pointer none)) fun b1=>ifV (.bool b1) (S29_j1 a0 a1 a2 a3 (.bool true) h K) (bnd (eqK .ptr true a1 (.pointer none)) fun b2=>ifV (.bool b2) (S29_j1 a0 a1 a2 a3 (.bool true) h K) (bnd (eqK .ptr true a2 (.pointer none)) fun b3=>S29_j1 a0 a1 a2 a3 (.bool b3) h K))
def A29:Ann:=⟨fun _=> ([], []),fun _=> []⟩
theorem S29_T{a0 a1 a2 a3:Value}{h}{K}(g:S29 a0 a1 a2 a3 h K):T Tryz.prog 29 [a0,a1,a2,a3] h K:=gwT A29 Tryz.func29 g (c:=bodyOf Tryz.f29)
def S30(a0:Value)(h:GH)(K:Value→GH→Prop):Prop:=
 K a0 h
def A30:Ann:=⟨fun _=> ([], []),fun _=> []⟩
theorem S30_T{a0:Value}{h}{K}(g:S30 a0 h K):T Tryz.prog 30 [a0] h K:=gwT A30 Tryz.func30 g (c:=bodyOf Tryz.f30)
def A32:Ann:=⟨fun | 3=> ([0,1,2,3,4,5,6,7,8,9,10,11,12,13,14,15,16,17], [0,1,3,7,15,0,32,96,224,480,0,1024,3072,7168,15360,32767,0,131071]) | _=> ([], []),fun _=> []⟩
def S33(a0:Value)(h:GH)(K:Value→GH→Prop):Prop:=
 bnd (eqK .ptr true a0 (.pointer none)) fun b1=>ifV (.bool b1) (K (.bool false) h) (lf_ a0 5 h fun v4=>bnd (lnV v4) fun v5=>lf_ a0 4 h fun v8=>bnd (lnV v8) fun v9=>ei_ v5 v9 (ei_ v5 (i64 0) (K (.bool true) h) (lf_ a0 5 h fun v14=>bnd (binV .sub v5 (i64 1)) fun v15=>bnd (isV 8 v14 v15) fun v16=>lg_ v16 4 h fun v18=>bnd (binV .geq v18 (i64 0)) fun v19=>K v19 h)) (K (.bool false) h))
def A33:Ann:=⟨fun _=> ([], []),fun _=> []⟩
theorem S33_T{a0:Value}{h}{K}(g:S33 a0 h K):T Tryz.prog 33 [a0] h K:=gwT A33 Tryz.func33 g (c:=bodyOf Tryz.f33)
def S34(a0:Value)(h:GH)(K:Value→GH→Prop):Prop:=
 bnd (eqK .ptr true a0 (.pointer none)) fun b1=>ifV (.bool b1) (K (.tuple #[(i64 0),(i64 0)]) h) (bnd (ncV a0) fun v2=>bnd (faV 21 v2) fun v3=>lg_ v3 0 h fun v5=>bnd (ncV a0) fun v6=>bnd (faV 21 v6) fun v7=>lg_ v7 1 h fun v9=>K (.tuple #[v5,v9]) h)
def A34:Ann:=⟨fun | 3=> ([0,1,2,3,4,5,6,7,8,9,10,11], [0,1,3,7,15,0,32,96,224,480,31,2047]) | _=> ([], []),fun _=> []⟩
theorem S34_T{a0:Value}{h}{K}(g:S34 a0 h K):T Tryz.prog 34 [a0] h K:=gwT A34 Tryz.func34 g (c:=bodyOf Tryz.f34)
def S35(a0 a1 a2:Value)(h:GH)(K:Value→GH→Prop):Prop:=
 newV 3 (a2:Value).cells.toList h fun v1 h2=>T Tryz.prog 82 [a0,(i64 1),a1,(.func (.func 83) #[] #[v1])] h2 fun v3 h4=>x2_ v3 fun v5 v6=>K (.tuple #[v5,v6]) h4
def A35:Ann:=⟨fun _=> ([], []),fun _=> []⟩
theorem S35_T{a0 a1 a2:Value}{h}{K}(g:S35 a0 a1 a2 h K):T Tryz.prog 35 [a0,a1,a2] h K:=gwT A35 Tryz.func35 g (c:=bodyOf Tryz.f35)
def S37(a0 a1:Value)(h:GH)(K:Value→GH→Prop):Prop:=
 bnd (lnV a0) fun v1=>bnd (lnV a1) fun v2=>en_ v1 v2 (K (.bool false) h) (Lfp (fun (s4:Nat→Value) h5 again6=>bnd (lnV (s4 0)) fun v7=>bi_ .lss (s4 2) v7 (li_ (s4 0) (s4 2) h5 fun v10=>li_ (s4 1) (s4 2) h5 fun v12=>en_ v10 v12 (K (.bool false) h5) (bnd (binV .add (s4 2) (i64 1)) fun v14=>again6 (tup [(s4 0),(s4 1),v14]) h5)) (K (.bool true) h5)) (tup [a0,a1,(i64 0)]) h)
def A37:Ann:=⟨fun | 6=> ([0,1,2,3,4,5,6,7,8], [0,0,3,7,0,0,48,112,255]) | _=> ([], []),fun | 0=> [0,1,5] | _=> []⟩
theorem S37_T{a0 a1:Value}{h}{K}(g:S37 a0 a1 h K):T Tryz.prog 37 [a0,a1] h K:=gwT A37 Tryz.func37 g (c:=bodyOf Tryz.f37)
def S38(a0:Value)(h:GH)(K:Value→GH→Prop):Prop:=
 newV 60 [(i64 0),(i64 0),(i64 0),(i64 0),(i64 0),(i64 0),(i64 0),(i64 0)] h fun v1 h2=>bnd (eqK .ptr true a0 (.pointer none)) fun b3=>ifV (.bool b3) (bnd (fillV [(i64 0),(i64 0),(i64 0),(i64 0),(i64 0),(i64 0),(i64 0),(i64 0)] []) fun c4=>bnd (stV 8 v1 (.agg c4.toArray) h2) fun h5=>bnd (ldV 8 true v1 h5) fun v6=>K (.tuple #[v6,(.bool false)]) h5) (bnd (ncV a0) fun v7=>bnd (faV 634 v7) fun v8=>bnd (ldV 8 true v8 h2) fun v9=>bnd (ncV a0) fun v10=>bnd (faV 642 v10) fun v11=>
 bnd (ldV 1 false v11 h2) fun v12=>bnd (stV 8 v1 v9 h2) fun h13=>ldV 1 false v11 h13=some v12∧bnd (ldV 8 true v1 h13) fun v14=>K (.tuple #[v14,v12]) h13)
def A38:Ann:=⟨fun | 3=> ([0,1,2,3,4,5,6,7,8,9], [0,1,3,7,0,16,48,112,15,511]) | _=> ([], []),fun _=> []⟩
theorem S38_T{a0:Value}{h}{K}(g:S38 a0 h K):T Tryz.prog 38 [a0] h K:=gwT A38 Tryz.func38 g (c:=bodyOf Tryz.f38)
def S39(a0 a1:Value)(h:GH)(K:Value→GH→Prop):Prop:=
 T Tryz.prog 82 [a0,(i64 0),a1,(.func (.func 85) #[] #[])] h fun v1 h2=>x2_ v1 fun v3 v4=>K (.tuple #[v3,v4]) h2
def A39:Ann:=⟨fun _=> ([], []),fun _=> []⟩
theorem S39_T{a0 a1:Value}{h}{K}(g:S39 a0 a1 h K):T Tryz.prog 39 [a0,a1] h K:=gwT A39 Tryz.func39 g (c:=bodyOf Tryz.f39)
def S40(a0:Value)(h:GH)(K:Value→GH→Prop):Prop:=
 T Tryz.prog 86 [a0] h fun v1 h2=>bsV 3 2 [(i64 0),(i64 0)] [(0,1,(.int .i64 (-7777))),(1,1,(.int .i64 (-8888)))] h2 fun v3 h4=>apV 3 1 8 v1 v3 h4 fun v5 h6=>bnd (lnV a0) fun v7=>bnd (slV 1 v5 none (some v7)) fun v8=>K v8 h6
def A40:Ann:=⟨fun _=> ([], []),fun _=> []⟩
theorem S40_T{a0:Value}{h}{K}(g:S40 a0 h K):T Tryz.prog 40 [a0] h K:=gwT A40 Tryz.func40 g (c:=bodyOf Tryz.f40)
def S41_j2(s2:Nat→Value)(x2 x6 x8 x10 x23 x24 x25 x42:Value)(h:GH)(K:Value→GH→Prop)(again4:(Nat→Value)→GH→Prop):Prop:=
 ifV x42 (T Tryz.prog 48 [x6,x10] h fun v1 h2=>bsV 3 1 [(i64 0)] [(0,1,x10)] h2 fun v3 h4=>apV 3 1 8 x8 v3 h4 fun v5 h6=>bnd (binV .add x25 (i64 1)) fun v7=>again4 (tup [x2,x6,v5,x23,x24,v7]) h6) (bnd (binV .add x25 (i64 1)) fun v8=>again4 (tup [x2,x6,x8,x23,x24,v8]) h)
def S41_j1(x1 x2 x6:Value)(h:GH)(K:Value→GH→Prop) :Prop:=
 bnd (lnV x1) fun v1=>Lfp (fun (s2:Nat→Value) h3 again4=>bi_ .lss (s2 5) (s2 4) (li_ (s2 3) (s2 5) h3 fun v7=>lg_ (s2 0) 0 h3 fun v9=>bnd (lnV v9) fun v10=>T Tryz.prog 75 [v7,v10] h3 fun v11 h12=>ifV v11 (T Tryz.prog 87 [(s2 1)] h12 fun v13 h14=>li_ v13 v7 h14 fun v16=>T Tryz.prog 33 [v16] h14 fun v17 h18=>bnd (unV .not v17) fun v19=>S41_j2 s2 (s2 0) (s2 1) (s2 2) v7 (s2 3) (s2 4) (s2 5) v19 h18 K again4) (S41_j2 s2 (s2 0) (s2 1) (s2 2) v7 (s2 3) (s2 4) (s2 5) (.bool false) h12 K again4)) (K (.tuple #[(s2 2),(i64 0)]) h3)) (tup [x2,x6,(.slice none 0 0),x1,v1,(i64 0)]) h
def S41(a0 a1:Value)(h:GH)(K:Value→GH→Prop):Prop:=
 newV 67 (a0:Value).cells.toList h fun v1 h2=>bnd (ldV 3 true v1 h2) fun v3=>T Tryz.prog 47 [v3] h2 fun v4 h5=>x2_ v4 fun v6 v7=>en_ v7 (i64 0) (K (.tuple #[(.slice none 0 0),(i64 2400)]) h5) (bnd (lnV a1) fun v9=>bi_ .gtr v9 (i64 65536) (K (.tuple #[(.slice none 0 0),(i64 2400)]) h5) (S41_j1 a1 v1 v6 h5 K))
def A41:Ann:=⟨fun _=> ([], []),fun | 0=> [2,6,8,23,24,25] | _=> []⟩
theorem S41_T{a0 a1:Value}{h}{K}(g:S41 a0 a1 h K):T Tryz.prog 41 [a0,a1] h K:=gwT A41 Tryz.func41 g (c:=bodyOf Tryz.f41)
def S42_j2(s1:Nat→Value)(x1 x6 x8 x9 x10:Value)(h:GH)(K:Value→GH→Prop)(again3:(Nat→Value)→GH→Prop):Prop:=
 T Tryz.prog 59 [x6,x10] h fun v1 h2=>bsV 3 1 [(i64 0)] [(0,1,x10)] h2 fun v3 h4=>apV 3 1 8 x8 v3 h4 fun v5 h6=>bnd (binV .add x9 (i64 1)) fun v7=>again3 (tup [x1,x6,v5,v7]) h6
def S42_j1(x1 x6:Value)(h:GH)(K:Value→GH→Prop) :Prop:=
 Lfp (fun (s1:Nat→Value) h2 again3=>bnd (lnV (s1 0)) fun v4=>bi_ .lss (s1 3) v4 (li_ (s1 0) (s1 3) h2 fun v7=>bi_ .lss v7 (i64 0) (bnd (binV .add (s1 3) (i64 1)) fun v9=>again3 (tup [(s1 0),(s1 1),(s1 2),v9]) h2) (lf_ (s1 1) 4 h2 fun v12=>bnd (lnV v12) fun v13=>bi_ .geq v7 v13 (bnd (binV .add (s1 3) (i64 1)) fun v15=>again3 (tup [(s1 0),(s1 1),(s1 2),v15]) h2) (lf_ (s1 1) 4 h2 fun v18=>li_ v18 v7 h2 fun v20=>T Tryz.prog 88 [v20] h2 fun v21 h22=>ifV v21 (bnd (binV .add (s1 3) (i64 1)) fun v23=>again3 (tup [(s1 0),(s1 1),(s1 2),v23]) h22) (
 S42_j2 s1 (s1 0) (s1 1) (s1 2) (s1 3) v7 h22 K again3)))) (K (.tuple #[(s1 2),(i64 0)]) h2)) (tup [x1,x6,(.slice none 0 0),(i64 0)]) h
def S42(a0 a1:Value)(h:GH)(K:Value→GH→Prop):Prop:=
 newV 67 (a0:Value).cells.toList h fun v1 h2=>bnd (ldV 3 true v1 h2) fun v3=>T Tryz.prog 55 [v3] h2 fun v4 h5=>x2_ v4 fun v6 v7=>en_ v7 (i64 0) (K (.tuple #[(.slice none 0 0),(i64 2400)]) h5) (bnd (lnV a1) fun v9=>bi_ .gtr v9 (i64 65536) (K (.tuple #[(.slice none 0 0),(i64 2400)]) h5) (S42_j1 a1 v6 h5 K))
def A42:Ann:=⟨fun _=> ([], []),fun | 0=> [1,6,8,9] | _=> []⟩
theorem S42_T{a0 a1:Value}{h}{K}(g:S42 a0 a1 h K):T Tryz.prog 42 [a0,a1] h K:=gwT A42 Tryz.func42 g (c:=bodyOf Tryz.f42)
def S43(a0 a1:Value)(h:GH)(K:Value→GH→Prop):Prop:=
 bnd (lnV a0) fun v1=>bnd (binV .add v1 (i64 2)) fun v2=>bnd (slV 1 a0 none (some v2)) fun v3=>T Tryz.prog 37 [a0,a1] h fun v4 h5=>ifV v4 (bnd (lnV a1) fun v6=>li_ v3 v6 h5 fun v8=>ei_ v8 (.int .i64 (-7777)) (bnd (lnV a1) fun v10=>bnd (binV .add v10 (i64 1)) fun v11=>li_ v3 v11 h5 fun v13=>bnd (eqI v13 (.int .i64 (-8888))) fun b14=>K (.bool b14) h5) (K (.bool false) h5)) (K (.bool false) h5)
def A43:Ann:=⟨fun _=> ([], []),fun _=> []⟩
theorem S43_T{a0 a1:Value}{h}{K}(g:S43 a0 a1 h K):T Tryz.prog 43 [a0,a1] h K:=gwT A43 Tryz.func43 g (c:=bodyOf Tryz.f43)
def S44(a0:Value)(h:GH)(K:Value→GH→Prop):Prop:=
 Lfp (fun (s1:Nat→Value) h2 again3=>bnd (lnV (s1 0)) fun v4=>bi_ .lss (s1 1) v4 (li_ (s1 0) (s1 1) h2 fun v7=>bnd (binV .sub (.int .i64 (-9)) v7) fun v8=>bnd (isV 1 (s1 0) (s1 1)) fun v9=>bnd (stV 1 v9 v8 h2) fun h10=>bnd (binV .add (s1 1) (i64 1)) fun v11=>again3 (tup [(s1 0),v11]) h10) (K (.tuple #[]) h2)) (tup [a0,(i64 0)]) h
def A44:Ann:=⟨fun _=> ([], []),fun | 0=> [0,2] | _=> []⟩
theorem S44_T{a0:Value}{h}{K}(g:S44 a0 h K):T Tryz.prog 44 [a0] h K:=gwT A44 Tryz.func44 g (c:=bodyOf Tryz.f44)
def S45(h:GH)(K:Value→GH→Prop):Prop:=
 bnd (fillV [(i64 0),(i64 0),(i64 0),(i64 0)] [(0,1,(i64 9))]) fun c1=>bsV 24 1 [(i64 0),(i64 0),(i64 0),(i64 0)] [(0,4,(.agg c1.toArray))] h fun v2 h3=>bnd (fillV [(.slice none 0 0)] [(0,1,v2)]) fun c4=>bsV 27 1 [(.slice none 0 0)] [(0,1,(.agg c4.toArray))] h3 fun v5 h6=>bsV 28 2 [(.slice none 0 0),(.slice none 0 0)] [(0,1,v5),(1,1,(.slice none 0 0))] h6 fun v7 h8=>bnd (fillV [(.slice none 0 0),(i64 0),(.bool false)] [(0,1,v7),(1,1,(i64 1))]) fun c9=>newV 67 [(.slice none 0 0),(i64 0),(.bool false)] h8 fun v10 h11=>
 bnd (stV 3 v10 (.agg c9.toArray) h11) fun h12=>bnd (ldV 3 true v10 h12) fun v13=>bsV 3 5 [(i64 0),(i64 0),(i64 0),(i64 0),(i64 0)] [(0,1,(i64 1)),(1,1,(i64 0)),(2,1,(i64 2)),(3,1,(i64 0)),(4,1,(.int .i64 (-1)))] h12 fun v14 h15=>T Tryz.prog 41 [v13,v14] h15 fun v16 h17=>x2_ v16 fun v18 v19=>bnd (fillV [(.slice none 0 0),(i64 0),(.bool false)] []) fun c20=>bsV 3 1 [(i64 0)] [(0,1,(i64 0))] h17 fun v21 h22=>T Tryz.prog 41 [(.agg c20.toArray),v21] h22 fun v23 h24=>x2_ v23 fun v25 v26=>
 bsV 3 2 [(i64 0),(i64 0)] [(0,1,(i64 0)),(1,1,(i64 0))] h24 fun v27 h28=>T Tryz.prog 37 [v18,v27] h28 fun v29 h30=>ifV v29 (T Tryz.prog 30 [v19] h30 fun v31 h32=>ei_ v31 (i64 0) (T Tryz.prog 30 [v26] h32 fun v34 h35=>bnd (eqI v34 (i64 2400)) fun b36=>K (.bool b36) h35) (K (.bool false) h32)) (K (.bool false) h30)
def A45:Ann:=⟨fun _=> ([], []),fun _=> []⟩
theorem S45_T{h}{K}(g:S45 h K):T Tryz.prog 45 [] h K:=gwT A45 Tryz.func45 g (c:=bodyOf Tryz.f45)
def S47(a0:Value)(h:GH)(K:Value→GH→Prop):Prop:=
 newV 67 (a0:Value).cells.toList h fun v1 h2=>bnd (ldV 3 true v1 h2) fun v3=>T Tryz.prog 76 [v3] h2 fun v4 h5=>ni_ v4 (K (.tuple #[(.pointer none),(i64 1900)]) h5) (T Tryz.prog 28 [] h5 fun v7 h8=>bnd (fillV ([(.pointer none),(.slice none 0 0)] ++ List.replicate 13 (i64 0) ++ [(.slice none 0 0)]) [(0,1,v7)]) fun c9=>newV 151 ((.agg c9.toArray):Value).cells.toList h8 fun v10 h11=>lg_ v1 0 h11 fun v13=>bnd (lnV v13) fun v14=>Lfp (fun (s15:Nat→Value) h16 again17=>bi_ .lss (s15 4) (s15 3) (li_ (s15 2) (s15 4) h16 fun v20=>lg_ (s15 0) 0 h16 fun v22=>bnd (lnV v22) fun v23=>
 lg_ (s15 0) 1 h16 fun v25=>lg_ (s15 0) 2 h16 fun v27=>T Tryz.prog 27 [(s15 4),v23,v25,v27,v20] h16 fun v28 h29=>x2_ v28 fun v30 v31=>lf_ (s15 1) 1 h29 fun v34=>bsV 30 1 [(.pointer none)] [(0,1,v30)] h29 fun v35 h36=>apV 30 1 8 v34 v35 h36 fun v37 h38=>sf_ (s15 1) 1 v37 h38 fun h41=>bnd (binV .add (s15 4) (i64 1)) fun v42=>again17 (tup [(s15 0),(s15 1),(s15 2),(s15 3),v42]) h41) (K (.tuple #[(s15 1),(i64 0)]) h16)) (tup [v1,v10,v13,v14,(i64 0)]) h11)
def A47:Ann:=⟨fun _=> ([], []),fun | 0=> [1,4,16,17,18] | _=> []⟩
theorem S47_T{a0:Value}{h}{K}(g:S47 a0 h K):T Tryz.prog 47 [a0] h K:=gwT A47 Tryz.func47 g (c:=bodyOf Tryz.f47)
def S48_j2(x0 x6 x7:Value)(h:GH)(K:Value→GH→Prop) :Prop:=
 lf_ x0 14 h fun v3=>bnd (binV .add v3 (i64 1)) fun v4=>sf_ x0 14 v4 h fun h7=>en_ x7 (i64 0) (K (.tuple #[x6,(i64 1900)]) h7) (K (.tuple #[x6,(i64 0)]) h7)
def S48_j1(x0 x1:Value)(h:GH)(K:Value→GH→Prop) :Prop:=
 lf_ x0 1 h fun v3=>li_ v3 x1 h fun v5=>lf_ x0 0 h fun v8=>bnd (ncV x0) fun v9=>bnd (faV 2 v9) fun v10=>lf_ x0 14 h fun v13=>T Tryz.prog 29 [v5,v8,v10,v13] h fun v14 h15=>x2_ v14 fun v16 v17=>ifV v16 (T Tryz.prog 89 [x0,x1] h15 fun v18 h19=>S48_j2 x0 v16 v17 h19 K) (S48_j2 x0 v16 v17 h15 K)
def S48(a0 a1:Value)(h:GH)(K:Value→GH→Prop):Prop:=
 bnd (eqK .ptr true a0 (.pointer none)) fun b1=>ifV (.bool b1) (K (.tuple #[(.bool false),(i64 1)]) h) (lf_ a0 1 h fun v4=>bnd (lnV v4) fun v5=>T Tryz.prog 75 [a1,v5] h fun v6 h7=>ni_ v6 (K (.tuple #[(.bool false),(i64 1900)]) h7) (lf_ a0 14 h7 fun v11=>bi_ .geq v11 (i64 65536) (K (.tuple #[(.bool false),(i64 1900)]) h7) (S48_j1 a0 a1 h7 K)))
def A48:Ann:=⟨fun | 5=> ([0,1,2,3,4,5,6,7,8,9,10,11,12,13,14,15,16,17,18,19,20,21,22,23], [0,1,3,7,0,31,63,0,128,384,896,0,2048,6144,0,16384,49152,114688,262143,524287,1048575,1048575,2097151,8388607]) | _=> ([], []),fun _=> []⟩
theorem S48_T{a0 a1:Value}{h}{K}(g:S48 a0 a1 h K):T Tryz.prog 48 [a0,a1] h K:=gwT A48 Tryz.func48 g (c:=bodyOf Tryz.f48)
def S55(a0:Value)(h:GH)(K:Value→GH→Prop):Prop:=
 newV 67 (a0:Value).cells.toList h fun v1 h2=>bnd (ldV 3 true v1 h2) fun v3=>T Tryz.prog 91 [v3] h2 fun v4 h5=>ni_ v4 (K (.tuple #[(.pointer none),(i64 1900)]) h5) (bnd (ldV 3 true v1 h5) fun v7=>T Tryz.prog 92 [] h5 fun v8 h9=>ldV 3 true v1 h9=some v7∧bnd (fillV ([(.slice none 0 0),(i64 0),(.bool false),(.pointer none),(.slice none 0 0)] ++ List.replicate 13 (i64 0) ++ [(.slice none 0 0)]) [(0,3,v7),(3,1,v8)]) fun c10=>newV 100 ((.agg c10.toArray):Value).cells.toList h9 fun v11 h12=>Lfp (fun (s13:Nat→Value) h14 again15=>lg_ (s13 0) 0 h14 fun v17=>bnd (lnV v17) fun v18=>
 bi_ .lss (s13 2) v18 (lg_ (s13 0) 0 h14 fun v21=>bnd (lnV v21) fun v22=>lg_ (s13 0) 1 h14 fun v24=>lg_ (s13 0) 2 h14 fun v26=>lg_ (s13 0) 0 h14 fun v28=>li_ v28 (s13 2) h14 fun v30=>T Tryz.prog 93 [(s13 2),v22,v24,v26,v30] h14 fun v31 h32=>x2_ v31 fun v33 v34=>lf_ (s13 1) 4 h32 fun v37=>bsV 149 1 [(.pointer none)] [(0,1,v33)] h32 fun v38 h39=>apV 149 1 8 v37 v38 h39 fun v40 h41=>sf_ (s13 1) 4 v40 h41 fun h44=>bnd (binV .add (s13 2) (i64 1)) fun v45=>again15 (tup [(s13 0),(s13 1),v45]) h44) (K (.tuple #[(s13 1),(i64 0)]) h14)) (tup [v1,v11,(i64 0)]) h12)
def A55:Ann:=⟨fun | 3=> ([0,1,2,3,4], [0,0,3,7,15]) | 7=> ([0,1,2,3,4,5,6,7,8,9,10,11,12,13,14,15,16,17,18], [0,0,2,6,0,16,0,64,0,256,0,1792,3840,8191,16383,32767,32767,65535,262143]) | _=> ([], []),fun | 0=> [1,4,5] | _=> []⟩
theorem S55_T{a0:Value}{h}{K}(g:S55 a0 h K):T Tryz.prog 55 [a0] h K:=gwT A55 Tryz.func55 g (c:=bodyOf Tryz.f55)
def S59_j3(x0 x7 x8:Value)(h:GH)(K:Value→GH→Prop) :Prop:=
 lf_ x0 17 h fun v3=>bnd (binV .add v3 (i64 1)) fun v4=>sf_ x0 17 v4 h fun h7=>en_ x8 (i64 0) (K (.tuple #[x7,(i64 1900)]) h7) (K (.tuple #[x7,(i64 0)]) h7)
def S59_j2(x0 x7 x8 x9:Value)(h:GH)(K:Value→GH→Prop) :Prop:=
 lf_ x0 18 h fun v3=>bnd (ldV 8 true x9 h) fun v4=>bsV 60 1 [(i64 0),(i64 0),(i64 0),(i64 0),(i64 0),(i64 0),(i64 0),(i64 0)] [(0,8,v4)] h fun v5 h6=>apV 60 8 64 v3 v5 h6 fun v7 h8=>sf_ x0 18 v7 h8 fun h11=>bnd (ldV 8 true x9 h11) fun v12=>T Tryz.prog 99 [x0,v12] h11 fun v13 h14=>S59_j3 x0 x7 x8 h14 K
def S59_j1(x0 x1:Value)(h:GH)(K:Value→GH→Prop) :Prop:=
 lf_ x0 4 h fun v3=>li_ v3 x1 h fun v5=>lf_ x0 3 h fun v8=>bnd (ncV x0) fun v9=>bnd (faV 5 v9) fun v10=>lf_ x0 17 h fun v13=>T Tryz.prog 96 [v5,v8,v10,v13] h fun v14 h15=>x2_ v14 fun v16 v17=>ifV v16 (lf_ x0 3 h15 fun v20=>T Tryz.prog 97 [v20] h15 fun v21 h22=>x2_ v21 fun v23 v24=>newV 60 [(i64 0),(i64 0),(i64 0),(i64 0),(i64 0),(i64 0),(i64 0),(i64 0)] h22 fun v25 h26=>bnd (stV 8 v25 v23 h26) fun h27=>T Tryz.prog 98 [v5] h27 fun v28 h29=>x2_ v28 fun v30 v31=>sg_ v25 0 x1 h29 fun h33=>sg_ v25 5 v30 h33 fun h35=>sg_ v25 6 v31 h35 fun h37=>
 bi_ .geq v30 (i64 0) (bnd (ncV x0) fun v39=>bnd (faV 5 v39) fun v40=>bnd (iaV 12 1 v40 v30) fun v41=>bnd (ldV 1 false v41 h37) fun v42=>sg_ v25 7 v42 h37 fun h44=>S59_j2 x0 v16 v17 v25 h44 K) (S59_j2 x0 v16 v17 v25 h37 K)) (S59_j3 x0 v16 v17 h15 K)
def S59(a0 a1:Value)(h:GH)(K:Value→GH→Prop):Prop:=
 bi_ .lss a1 (i64 0) (K (.tuple #[(.bool false),(i64 1900)]) h) (lf_ a0 4 h fun v4=>bnd (lnV v4) fun v5=>bi_ .geq a1 v5 (K (.tuple #[(.bool false),(i64 1900)]) h) (lf_ a0 17 h fun v9=>bi_ .geq v9 (i64 65536) (K (.tuple #[(.bool false),(i64 1900)]) h) (S59_j1 a0 a1 h K)))
def A59:Ann:=⟨fun | 4=> ([0,1,2,3,4,5,6,7,8,9,10,11,12,13,14,15,16,17], [0,0,2,6,14,0,32,96,0,256,768,1792,4095,8191,16383,16383,32767,131071]) | 13=> ([0,1,2,3,4,5,6,7,8,9,10], [0,0,2,6,14,0,32,126,255,511,1023]) | _=> ([], []),fun _=> []⟩
theorem S59_T{a0 a1:Value}{h}{K}(g:S59 a0 a1 h K):T Tryz.prog 59 [a0,a1] h K:=gwT A59 Tryz.func59 g (c:=bodyOf Tryz.f59)
def A61:Ann:=⟨fun _=> ([], []),fun | 0=> [0,3] | _=> []⟩
def A62:Ann:=⟨fun | 6=> ([0,1,2,3,4,5,6,7,8,9], [0,0,3,7,0,0,48,112,255,511]) | _=> ([], []),fun | 0=> [0,1,5] | _=> []⟩
def S75(a0 a1:Value)(h:GH)(K:Value→GH→Prop):Prop:=
 bi_ .geq a0 (i64 0) (bnd (binV .lss a0 a1) fun v2=>K v2 h) (K (.bool false) h)
def A75:Ann:=⟨fun _=> ([], []),fun _=> []⟩
theorem S75_T{a0 a1:Value}{h}{K}(g:S75 a0 a1 h K):T Tryz.prog 75 [a0,a1] h K:=gwT A75 Tryz.func75 g (c:=bodyOf Tryz.f75)
def S76_j1(x1:Value)(h:GH)(K:Value→GH→Prop) :Prop:=
 lg_ x1 0 h fun v2=>bnd (lnV v2) fun v3=>Lfp (fun (s4:Nat→Value) h5 again6=>bi_ .lss (s4 2) (s4 1) (li_ (s4 0) (s4 2) h5 fun v9=>bnd (lnV v9) fun v10=>bi_ .gtr v10 (i64 8) (K (.bool false) h5) (bnd (lnV v9) fun v12=>Lfp (fun (s13:Nat→Value) h14 again15=>bi_ .lss (s13 5) (s13 4) (bnd (isV 1 (s13 3) (s13 5)) fun v17=>bnd (ldV 1 true v17 h14) fun v18=>newV 27 [(.slice none 0 0)] h14 fun v19 h20=>bnd (stV 1 v19 v18 h20) fun h21=>lg_ v19 0 h21 fun v23=>T Tryz.prog 108 [v23] h21 fun v24 h25=>ni_ v24 (K (.bool false) h25) (bnd (binV .add (s13 5) (i64 1)) fun v27=>
 again15 (tup [(s13 0),(s13 1),(s13 2),(s13 3),(s13 4),v27]) h25)) (bnd (binV .add (s13 2) (i64 1)) fun v28=>again6 (tup [(s13 0),(s13 1),v28]) h14)) (tup [(s4 0),(s4 1),(s4 2),v9,v12,(i64 0)]) h5)) (K (.bool true) h5)) (tup [v2,v3,(i64 0)]) h
def S76(a0:Value)(h:GH)(K:Value→GH→Prop):Prop:=
 newV 67 (a0:Value).cells.toList h fun v1 h2=>lg_ v1 0 h2 fun v4=>bnd (lnV v4) fun v5=>bi_ .lss v5 (i64 1) (K (.bool false) h2) (lg_ v1 0 h2 fun v8=>bnd (lnV v8) fun v9=>bi_ .gtr v9 (i64 4) (K (.bool false) h2) (lg_ v1 1 h2 fun v12=>bi_ .lss v12 (i64 1) (K (.bool false) h2) (lg_ v1 1 h2 fun v15=>bi_ .gtr v15 (i64 16) (K (.bool false) h2) (S76_j1 v1 h2 K))))
def A76:Ann:=⟨fun _=> ([], []),fun | 0=> [28,29,30] | 2=> [28,29,30,37,38,39] | _=> []⟩
theorem S76_T{a0:Value}{h}{K}(g:S76 a0 h K):T Tryz.prog 76 [a0] h K:=gwT A76 Tryz.func76 g (c:=bodyOf Tryz.f76)
def S77(a0:Value)(h:GH)(K:Value→GH→Prop):Prop:=
 bnd (eqK .slice true a0 (.slice none 0 0)) fun b1=>ifV (.bool b1) (K (.slice none 0 0) h) (bsV 24 0 [] [] h fun v2 h3=>apV 24 4 32 v2 a0 h3 fun v4 h5=>K v4 h5)
def A77:Ann:=⟨fun _=> ([], []),fun _=> []⟩
theorem S77_T{a0:Value}{h}{K}(g:S77 a0 h K):T Tryz.prog 77 [a0] h K:=gwT A77 Tryz.func77 g (c:=bodyOf Tryz.f77)
def S78(a0:Value)(h:GH)(K:Value→GH→Prop):Prop:=
 T Tryz.prog 112 [a0] h fun v1 h2=>K v1 h2
def A78:Ann:=⟨fun _=> ([], []),fun _=> []⟩
theorem S78_T{a0:Value}{h}{K}(g:S78 a0 h K):T Tryz.prog 78 [a0] h K:=gwT A78 Tryz.func78 g (c:=bodyOf Tryz.f78)
def S79_j1(x0:Value)(h:GH)(K:Value→GH→Prop) :Prop:=
 lf_ x0 0 h fun v3=>T Tryz.prog 113 [v3] h fun v4 h5=>x2_ v4 fun v6 v7=>sf_ x0 15 v6 h5 fun h10=>sf_ x0 20 (i64 2) h10 fun h13=>sf_ x0 6 (.func (.func 114) #[] #[]) h13 fun h16=>K (.bool true) h16
def S79(a0 a1:Value)(h:GH)(K:Value→GH→Prop):Prop:=
 T Tryz.prog 33 [a0] h fun v1 h2=>ifV v1 (K (.bool false) h2) (lf_ a0 9 h2 fun v5=>bi_ .gtr v5 (i64 0) (lf_ a0 9 h2 fun v9=>bnd (binV .sub v9 (i64 1)) fun v10=>sf_ a0 9 v10 h2 fun h13=>K (.bool false) h13) (lf_ a0 8 h2 fun v16=>ei_ v16 (i64 0) (lf_ a0 5 h2 fun v20=>lf_ a0 0 h2 fun v23=>lf_ a0 5 h2 fun v26=>bnd (lnV v26) fun v27=>bnd (fillV [(i64 0),(i64 0),(i64 0),(i64 0),(i64 0),(i64 0),(i64 0),(.slice none 0 0)] [(0,1,v23),(1,1,v27),(2,1,a1),(3,1,(.int .i64 (-1))),(4,1,(.int .i64 (-1)))]) fun c28=>
 bsV 56 1 [(i64 0),(i64 0),(i64 0),(i64 0),(i64 0),(i64 0),(i64 0),(.slice none 0 0)] [(0,8,(.agg c28.toArray))] h2 fun v29 h30=>apV 56 8 80 v20 v29 h30 fun v31 h32=>sf_ a0 5 v31 h32 fun h35=>S79_j1 a0 h35 K) (S79_j1 a0 h2 K)))
def A79:Ann:=⟨fun | 7=> ([0,1,2,3,4,5,6,7,8,9,10,11,12,13,14,15,16,17,18,19,20], [0,0,2,6,14,0,32,96,224,0,512,1536,3584,7680,0,32736,65504,131070,262143,524287,1048575]) | _=> ([], []),fun _=> []⟩
theorem S79_T{a0 a1:Value}{h}{K}(g:S79 a0 a1 h K):T Tryz.prog 79 [a0,a1] h K:=gwT A79 Tryz.func79 g (c:=bodyOf Tryz.f79)
def S81(a0:Value)(h:GH)(K:Value→GH→Prop):Prop:=
 bnd (eqK .slice true a0 (.slice none 0 0)) fun b1=>ifV (.bool b1) (K (.slice none 0 0) h) (bsV 122 0 [] [] h fun v2 h3=>apV 122 2 16 v2 a0 h3 fun v4 h5=>K v4 h5)
def A81:Ann:=⟨fun _=> ([], []),fun _=> []⟩
theorem S81_T{a0:Value}{h}{K}(g:S81 a0 h K):T Tryz.prog 81 [a0] h K:=gwT A81 Tryz.func81 g (c:=bodyOf Tryz.f81)
def S82(a0 a1 a2 a3:Value)(h:GH)(K:Value→GH→Prop):Prop:=
 bnd (eqK .ptr true a0 (.pointer none)) fun b1=>ifV (.bool b1) (K (.tuple #[(i64 0),(i64 1)]) h) (T Tryz.prog 75 [a2,(i64 634)] h fun v2 h3=>ni_ v2 (K (.tuple #[(i64 0),(i64 200)]) h3) (bnd (ncV a0) fun v5=>bnd (faV 0 v5) fun v6=>bnd (iaV 634 1 v6 a2) fun v7=>bnd (ldV 1 false v7 h3) fun v8=>bnd (ncV a0) fun v9=>bnd (faV 0 v9) fun v10=>callV Tryz.prog a3 [v8] h3 fun v11 h12=>bnd (iaV 634 1 v10 a2) fun v13=>bnd (stV 1 v13 v11 h12) fun h14=>bnd (ncV a0) fun v15=>bnd (faV 0 v15) fun v16=>bnd (iaV 634 1 v16 a2) fun v17=>bnd (ldV 1 false v17 h14) fun v18=>
 bnd (fillV [(i64 0),(i64 0),(i64 0),(i64 0),(i64 0),(i64 0),(i64 0),(i64 0)] [(1,1,a1),(2,1,a2),(3,1,v8),(4,1,v18)]) fun c19=>bnd (ncV a0) fun v20=>bnd (faV 634 v20) fun v21=>bnd (stV 8 v21 (.agg c19.toArray) h14) fun h22=>sf_ a0 642 (.bool true) h22 fun h25=>K (.tuple #[v8,(i64 0)]) h25))
def A82:Ann:=⟨fun | 6=> ([0,1,2,3,5,6,4,7,8], [0,0,0,0,12,1,33,127,255]) | _=> ([], []),fun _=> []⟩
theorem S82_T{a0 a1 a2 a3:Value}{h}{K}(g:S82 a0 a1 a2 a3 h K):T Tryz.prog 82 [a0,a1,a2,a3] h K:=gwT A82 Tryz.func82 g (c:=bodyOf Tryz.f82)
def S83(a0 a1:Value)(h:GH)(K:Value→GH→Prop):Prop:=
 bnd (ldV 1 false a1 h) fun v1=>K v1 h
def A83:Ann:=⟨fun _=> ([], []),fun _=> []⟩
theorem S83_T{a0 a1:Value}{h}{K}(g:S83 a0 a1 h K):T Tryz.prog 83 [a0,a1] h K:=gwT A83 Tryz.func83 g (c:=bodyOf Tryz.f83)
def S85(a0:Value)(h:GH)(K:Value→GH→Prop):Prop:=
 K a0 h
def A85:Ann:=⟨fun _=> ([], []),fun _=> []⟩
theorem S85_T{a0:Value}{h}{K}(g:S85 a0 h K):T Tryz.prog 85 [a0] h K:=gwT A85 Tryz.func85 g (c:=bodyOf Tryz.f85)
def S86(a0:Value)(h:GH)(K:Value→GH→Prop):Prop:=
 bsV 3 0 [] [] h fun v1 h2=>apV 3 1 8 v1 a0 h2 fun v3 h4=>K v3 h4
def A86:Ann:=⟨fun _=> ([], []),fun _=> []⟩
theorem S86_T{a0:Value}{h}{K}(g:S86 a0 h K):T Tryz.prog 86 [a0] h K:=gwT A86 Tryz.func86 g (c:=bodyOf Tryz.f86)
def S87(a0:Value)(h:GH)(K:Value→GH→Prop):Prop:=
 lf_ a0 1 h fun v3=>K v3 h
def A87:Ann:=⟨fun _=> ([], []),fun _=> []⟩
theorem S87_T{a0:Value}{h}{K}(g:S87 a0 h K):T Tryz.prog 87 [a0] h K:=gwT A87 Tryz.func87 g (c:=bodyOf Tryz.f87)
def S88(a0:Value)(h:GH)(K:Value→GH→Prop):Prop:=
 lf_ a0 20 h fun v3=>bnd (lnV v3) fun v4=>lf_ a0 8 h fun v7=>ei_ v7 (i64 0) (lf_ a0 4 h fun v11=>bnd (lnV v11) fun v12=>ei_ v4 v12 (ei_ v4 (i64 0) (K (.bool true) h) (lf_ a0 20 h fun v17=>bnd (binV .sub v4 (i64 1)) fun v18=>bnd (isV 8 v17 v18) fun v19=>lg_ v19 4 h fun v21=>bnd (binV .geq v21 (i64 0)) fun v22=>K v22 h)) (K (.bool false) h)) (K (.bool false) h)
def A88:Ann:=⟨fun _=> ([], []),fun _=> []⟩
theorem S88_T{a0:Value}{h}{K}(g:S88 a0 h K):T Tryz.prog 88 [a0] h K:=gwT A88 Tryz.func88 g (c:=bodyOf Tryz.f88)
def S89_j1(x0 x4:Value)(h:GH)(K:Value→GH→Prop) :Prop:=
 lf_ x0 15 h fun v3=>bnd (ldV 8 true x4 h) fun v4=>bsV 60 1 [(i64 0),(i64 0),(i64 0),(i64 0),(i64 0),(i64 0),(i64 0),(i64 0)] [(0,8,v4)] h fun v5 h6=>apV 60 8 64 v3 v5 h6 fun v7 h8=>sf_ x0 15 v7 h8 fun h11=>T Tryz.prog 115 [x4] h11 fun v12 h13=>x2_ v12 fun v14 v15=>ifV v15 (lf_ x0 1 h13 fun v18=>bnd (lnV v18) fun v19=>Lfp (fun (s20:Nat→Value) h21 again22=>bi_ .lss (s20 4) (s20 3) (li_ (s20 2) (s20 4) h21 fun v25=>lf_ (s20 0) 14 h21 fun v28=>T Tryz.prog 116 [v25,(s20 1),v28] h21 fun v29 h30=>bnd (binV .add (s20 4) (i64 1)) fun v31=>
 again22 (tup [(s20 0),(s20 1),(s20 2),(s20 3),v31]) h30) (K (.tuple #[]) h21)) (tup [x0,v14,v18,v19,(i64 0)]) h13) (K (.tuple #[]) h13)
def S89(a0 a1:Value)(h:GH)(K:Value→GH→Prop):Prop:=
 lf_ a0 0 h fun v3=>T Tryz.prog 38 [v3] h fun v4 h5=>x2_ v4 fun v6 v7=>newV 60 [(i64 0),(i64 0),(i64 0),(i64 0),(i64 0),(i64 0),(i64 0),(i64 0)] h5 fun v8 h9=>bnd (stV 8 v8 v6 h9) fun h10=>sg_ v8 0 a1 h10 fun h12=>lf_ a0 1 h12 fun v15=>li_ v15 a1 h12 fun v17=>T Tryz.prog 34 [v17] h12 fun v18 h19=>x2_ v18 fun v20 v21=>sg_ v8 5 v20 h19 fun h23=>sg_ v8 6 v21 h23 fun h25=>lg_ v8 5 h25 fun v27=>bi_ .geq v27 (i64 0) (lg_ v8 5 h25 fun v30=>bnd (ncV a0) fun v31=>bnd (faV 2 v31) fun v32=>bnd (iaV 12 1 v32 v30) fun v33=>
 bnd (ldV 1 false v33 h25) fun v34=>sg_ v8 7 v34 h25 fun h36=>S89_j1 a0 v8 h36 K) (S89_j1 a0 v8 h25 K)
def A89:Ann:=⟨fun | 4=> ([0,1,2,3,4,5,6,7,8], [0,0,2,1,9,31,63,127,255]) | 5=> ([0,1,2,3,4,5,6,7,8,9,10], [0,0,2,6,14,0,32,126,255,511,1023]) | _=> ([], []),fun | 0=> [0,6,62,63,64] | _=> []⟩
theorem S89_T{a0 a1:Value}{h}{K}(g:S89 a0 a1 h K):T Tryz.prog 89 [a0,a1] h K:=gwT A89 Tryz.func89 g (c:=bodyOf Tryz.f89)
def S91_j2(s1:Nat→Value)(s14:Nat→Value)(x1 x3 x4 x5:Value)(h:GH)(K:Value→GH→Prop)(again3:(Nat→Value)→GH→Prop)(again16:(Nat→Value)→GH→Prop):Prop:=
 Lfp (fun (s1:Nat→Value) h2 again3=>bnd (lnV (s1 3)) fun v4=>bi_ .lss (s1 4) v4 (bnd (isV 4 (s1 3) (s1 4)) fun v6=>bnd (ldV 4 true v6 h2) fun v7=>T Tryz.prog 117 [v7] h2 fun v8 h9=>ni_ v8 (K (.bool false) h9) (bnd (binV .add (s1 4) (i64 1)) fun v11=>again3 (tup [(s1 0),(s1 1),(s1 2),(s1 3),v11]) h9)) (bnd (binV .add (s1 2) (i64 1)) fun v12=>again16 (tup [(s1 0),(s1 1),v12]) h2)) (tup [x1,x3,x4,x5,(i64 0)]) h
def S91_j1(x1:Value)(h:GH)(K:Value→GH→Prop) :Prop:=
 Lfp (fun (s1:Nat→Value) h2 again3=>lg_ (s1 0) 0 h2 fun v5=>bnd (lnV v5) fun v6=>bi_ .lss (s1 1) v6 (lg_ (s1 0) 0 h2 fun v9=>li_ v9 (s1 1) h2 fun v11=>bnd (lnV v11) fun v12=>bi_ .gtr v12 (i64 8) (K (.bool false) h2) (Lfp (fun (s14:Nat→Value) h15 again16=>lg_ (s14 0) 0 h15 fun v18=>li_ v18 (s14 1) h15 fun v20=>bnd (lnV v20) fun v21=>bi_ .lss (s14 2) v21 (lg_ (s14 0) 0 h15 fun v24=>li_ v24 (s14 1) h15 fun v26=>bnd (isV 1 v26 (s14 2)) fun v27=>lg_ v27 0 h15 fun v29=>bnd (lnV v29) fun v30=>bi_ .lss v30 (i64 1) (K (.bool false) h15) (bnd (lnV v29) fun v32=>bi_ .gtr v32 (i64 2) (
 K (.bool false) h15) (S91_j2 s1 s14 (s14 0) (s14 1) (s14 2) v29 h15 K again3 again16))) (bnd (binV .add (s14 1) (i64 1)) fun v34=>again3 (tup [(s14 0),v34]) h15)) (tup [(s1 0),(s1 1),(i64 0)]) h2)) (K (.bool true) h2)) (tup [x1,(i64 0)]) h
def S91(a0:Value)(h:GH)(K:Value→GH→Prop):Prop:=
 newV 67 (a0:Value).cells.toList h fun v1 h2=>lg_ v1 0 h2 fun v4=>bnd (lnV v4) fun v5=>bi_ .lss v5 (i64 1) (K (.bool false) h2) (lg_ v1 0 h2 fun v8=>bnd (lnV v8) fun v9=>bi_ .gtr v9 (i64 4) (K (.bool false) h2) (lg_ v1 1 h2 fun v12=>bi_ .lss v12 (i64 1) (K (.bool false) h2) (lg_ v1 1 h2 fun v15=>bi_ .gtr v15 (i64 16) (K (.bool false) h2) (S91_j1 v1 h2 K))))
def A91:Ann:=⟨fun _=> ([], []),fun | 0=> [1,3] | 2=> [1,3,4] | 4=> [1,3,4,5,6] | _=> []⟩
theorem S91_T{a0:Value}{h}{K}(g:S91 a0 h K):T Tryz.prog 91 [a0] h K:=gwT A91 Tryz.func91 g (c:=bodyOf Tryz.f91)
def S92(h:GH)(K:Value→GH→Prop):Prop:=
 bnd (fillV (List.replicate 642 (i64 0) ++ [(.bool false)]) []) fun c1=>newV 103 ((.agg c1.toArray):Value).cells.toList h fun v2 h3=>bnd (ncV v2) fun v4=>bnd (faV 0 v4) fun v5=>T Tryz.prog 118 [(i64 1)] h3 fun v6 h7=>bnd (iaV 634 1 v5 (i64 16)) fun v8=>bnd (stV 1 v8 v6 h7) fun h9=>Lfp (fun (s10:Nat→Value) h11 again12=>bnd (binV .add (s10 1) (i64 1)) fun v13=>bi_ .lss v13 (i64 12) (bnd (binV .add (i64 17) (s10 1)) fun v15=>bnd (binV .add (s10 1) (i64 2)) fun v16=>bnd (ncV (s10 0)) fun v17=>bnd (faV 0 v17) fun v18=>T Tryz.prog 118 [v16] h11 fun v19 h20=>
 bnd (iaV 634 1 v18 v15) fun v21=>bnd (stV 1 v21 v19 h20) fun h22=>bnd (binV .add (s10 1) (i64 1)) fun v23=>again12 (tup [(s10 0),v23]) h22) (K (s10 0) h11)) (tup [v2,(i64 0)]) h9
def A92:Ann:=⟨fun | 2=> ([0,2,3,1,4,5], [0,0,1,5,15,31]) | 6=> ([0,1,2,3,4,6,7,5,8,9], [0,0,2,0,8,24,1,65,255,511]) | _=> ([], []),fun | 0=> [1,2] | _=> []⟩
theorem S92_T{h}{K}(g:S92 h K):T Tryz.prog 92 [] h K:=gwT A92 Tryz.func92 g (c:=bodyOf Tryz.f92)
def S93_j1(x0 x1 x2 x3 x4:Value)(h:GH)(K:Value→GH→Prop) :Prop:=
 bnd (fillV [(i64 0),(i64 0),(i64 0),(.bool false),(.slice none 0 0),(.slice none 0 0),(.slice none 0 0),(i64 0),(i64 0),(i64 0),(.slice none 0 0),(.pointer none),(.pointer none),(.pointer none),(.pointer none),(.pointer none),(i64 0),(i64 0),(i64 0),(.bool false),(.slice none 0 0),(i64 0),(i64 0)] [(0,1,x0),(1,1,x1),(2,1,x2),(3,1,x3),(9,1,(.int .i64 (-1))),(21,1,(.int .i64 (-1)))]) fun c1=>newV 169 ((.agg c1.toArray):Value).cells.toList h fun v2 h3=>Lfp (fun (s4:Nat→Value) h5 again6=>bnd (lnV (s4 0)) fun v7=>bi_ .lss (s4 2) v7 (
 bnd (ncV (s4 1)) fun v9=>bnd (faV 4 v9) fun v10=>bnd (ldV 1 false v10 h5) fun v11=>bnd (isV 1 (s4 0) (s4 2)) fun v12=>lg_ v12 0 h5 fun v14=>bsV 24 0 [] [] h5 fun v15 h16=>apV 24 4 32 v15 v14 h16 fun v17 h18=>ldV 1 false v10 h18=some v11∧bnd (fillV [(.slice none 0 0)] [(0,1,v17)]) fun c19=>bsV 27 1 [(.slice none 0 0)] [(0,1,(.agg c19.toArray))] h18 fun v20 h21=>apV 27 1 24 v11 v20 h21 fun v22 h23=>sf_ (s4 1) 4 v22 h23 fun h26=>bnd (binV .add (s4 2) (i64 1)) fun v27=>again6 (tup [(s4 0),(s4 1),v27]) h26) (K (.tuple #[(s4 1),(i64 0)]) h5)) (tup [x4,v2,(i64 0)]) h3
def S93(a0 a1 a2 a3 a4:Value)(h:GH)(K:Value→GH→Prop):Prop:=
 bsV 28 1 [(.slice none 0 0)] [(0,1,a4)] h fun v1 h2=>bnd (fillV [(.slice none 0 0),(i64 0),(.bool false)] [(0,1,v1),(1,1,a2),(2,1,a3)]) fun c3=>newV 67 [(.slice none 0 0),(i64 0),(.bool false)] h2 fun v4 h5=>bnd (stV 3 v4 (.agg c3.toArray) h5) fun h6=>bi_ .lss a1 (i64 1) (K (.tuple #[(.pointer none),(i64 1800)]) h6) (bi_ .gtr a1 (i64 4) (K (.tuple #[(.pointer none),(i64 1800)]) h6) (bi_ .lss a0 (i64 0) (K (.tuple #[(.pointer none),(i64 1800)]) h6) (bi_ .geq a0 a1 (K (.tuple #[(.pointer none),(i64 1800)]) h6) (
 bnd (ldV 3 true v4 h6) fun v11=>T Tryz.prog 91 [v11] h6 fun v12 h13=>ni_ v12 (K (.tuple #[(.pointer none),(i64 1800)]) h13) (S93_j1 a0 a1 a2 a3 a4 h13 K)))))
def A93:Ann:=⟨fun | 8=> ([0,1,2,3,4,6,7,8,9,10,5,11,12,13,14,15,16,17], [0,0,2,6,14,0,0,0,192,448,960,2016,4064,8160,16382,32767,65535,131071]) | _=> ([], []),fun | 0=> [4,13,14] | _=> []⟩
theorem S93_T{a0 a1 a2 a3 a4:Value}{h}{K}(g:S93 a0 a1 a2 a3 a4 h K):T Tryz.prog 93 [a0,a1,a2,a3,a4] h K:=gwT A93 Tryz.func93 g (c:=bodyOf Tryz.f93)
def S96_j1(x0 x1 x2 x3:Value)(h:GH)(K:Value→GH→Prop) :Prop:=
 T Tryz.prog 120 [x0,x1,x2,x3] h fun v1 h2=>en_ v1 (i64 0) (sf_ x0 8 (i64 8) h2 fun h6=>K (.tuple #[(.bool true),(i64 1800)]) h6) (K (.tuple #[(.bool true),(i64 0)]) h2)
def S96(a0 a1 a2 a3:Value)(h:GH)(K:Value→GH→Prop):Prop:=
 sf_ a0 21 (.int .i64 (-1)) h fun h3=>sf_ a0 22 (i64 0) h3 fun h6=>lf_ a0 8 h6 fun v9=>ei_ v9 (i64 8) (K (.tuple #[(.bool false),(i64 1800)]) h6) (lf_ a0 8 h6 fun v13=>ei_ v13 (i64 0) (T Tryz.prog 119 [a0,a3] h6 fun v15 h16=>ni_ v15 (K (.tuple #[(.bool false),(i64 0)]) h16) (S96_j1 a0 a1 a2 a3 h16 K)) (S96_j1 a0 a1 a2 a3 h6 K))
def A96:Ann:=⟨fun _=> ([], []),fun _=> []⟩
theorem S96_T{a0 a1 a2 a3:Value}{h}{K}(g:S96 a0 a1 a2 a3 h K):T Tryz.prog 96 [a0,a1,a2,a3] h K:=gwT A96 Tryz.func96 g (c:=bodyOf Tryz.f96)
def S97(a0:Value)(h:GH)(K:Value→GH→Prop):Prop:=
 newV 60 [(i64 0),(i64 0),(i64 0),(i64 0),(i64 0),(i64 0),(i64 0),(i64 0)] h fun v1 h2=>bnd (ncV a0) fun v3=>bnd (faV 634 v3) fun v4=>bnd (ldV 8 true v4 h2) fun v5=>bnd (ncV a0) fun v6=>bnd (faV 642 v6) fun v7=>bnd (ldV 1 false v7 h2) fun v8=>bnd (stV 8 v1 v5 h2) fun h9=>ldV 1 false v7 h9=some v8∧bnd (ldV 8 true v1 h9) fun v10=>K (.tuple #[v10,v8]) h9
def A97:Ann:=⟨fun | 1=> ([0,1,2,3,4,5,6,7,8,9], [0,1,3,7,0,16,48,112,15,511]) | _=> ([], []),fun _=> []⟩
theorem S97_T{a0:Value}{h}{K}(g:S97 a0 h K):T Tryz.prog 97 [a0] h K:=gwT A97 Tryz.func97 g (c:=bodyOf Tryz.f97)
def S98(a0:Value)(h:GH)(K:Value→GH→Prop):Prop:=
 lf_ a0 21 h fun v3=>lf_ a0 22 h fun v6=>K (.tuple #[v3,v6]) h
def A98:Ann:=⟨fun | 1=> ([0,1,2,3,4,5,6,7,8,9], [0,1,3,7,0,16,48,112,15,511]) | _=> ([], []),fun _=> []⟩
theorem S98_T{a0:Value}{h}{K}(g:S98 a0 h K):T Tryz.prog 98 [a0] h K:=gwT A98 Tryz.func98 g (c:=bodyOf Tryz.f98)
def S99_j2(s1:Nat→Value)(x0 x4 x5 x6 x69:Value)(h:GH)(K:Value→GH→Prop)(again3:(Nat→Value)→GH→Prop):Prop:=
 ifV x69 (lf_ x6 20 h fun v3=>lf_ x6 20 h fun v6=>bnd (lnV v6) fun v7=>bnd (binV .sub v7 (i64 1)) fun v8=>bnd (isV 8 v3 v8) fun v9=>bnd (ldV 8 true v9 h) fun v10=>newV 56 [(i64 0),(i64 0),(i64 0),(i64 0),(i64 0),(i64 0),(i64 0),(.slice none 0 0)] h fun v11 h12=>bnd (stV 8 v11 v10 h12) fun h13=>lf_ x0 17 h13 fun v16=>sg_ v11 3 v16 h13 fun h18=>lf_ x6 20 h18 fun v21=>lf_ x6 20 h18 fun v24=>bnd (lnV v24) fun v25=>bnd (binV .sub v25 (i64 1)) fun v26=>bnd (ldV 8 true v11 h18) fun v27=>bnd (isV 8 v21 v26) fun v28=>bnd (stV 8 v28 v27 h18) fun h29=>
 bnd (binV .add x5 (i64 1)) fun v30=>again3 (tup [x0,x4,v30]) h29) (bnd (binV .add x5 (i64 1)) fun v31=>again3 (tup [x0,x4,v31]) h)
def S99_j1(x0 x4:Value)(h:GH)(K:Value→GH→Prop) :Prop:=
 Lfp (fun (s1:Nat→Value) h2 again3=>lf_ (s1 0) 4 h2 fun v6=>bnd (lnV v6) fun v7=>bi_ .lss (s1 2) v7 (lf_ (s1 0) 4 h2 fun v11=>li_ v11 (s1 2) h2 fun v13=>lf_ v13 9 h2 fun v16=>ei_ v16 (s1 1) (lf_ v13 20 h2 fun v20=>bnd (lnV v20) fun v21=>bnd (binV .gtr v21 (i64 0)) fun v22=>S99_j2 s1 (s1 0) (s1 1) (s1 2) v13 v22 h2 K again3) (S99_j2 s1 (s1 0) (s1 1) (s1 2) v13 (.bool false) h2 K again3)) (K (.tuple #[]) h2)) (tup [x0,x4,(i64 0)]) h
def S99(a0 a1:Value)(h:GH)(K:Value→GH→Prop):Prop:=
 newV 60 (a1:Value).cells.toList h fun v1 h2=>lg_ v1 2 h2 fun v4=>bnd (binV .sub v4 (i64 34)) fun v5=>bnd (binV .quo v5 (i64 50)) fun v6=>lg_ v1 1 h2 fun v8=>en_ v8 (i64 2) (K (.tuple #[]) h2) (lg_ v1 2 h2 fun v11=>bi_ .lss v11 (i64 34) (K (.tuple #[]) h2) (bnd (faV 2 v1) fun v13=>bnd (ldV 1 false v13 h2) fun v14=>T Tryz.prog 121 [v6] h2 fun v15 h16=>ldV 1 false v13 h16=some v14∧en_ v14 v15 (K (.tuple #[]) h16) (lg_ v1 3 h16 fun v19=>lg_ v1 4 h16 fun v21=>ei_ v19 v21 (K (.tuple #[]) h16) (lg_ v1 4 h16 fun v24=>bnd (binV .rem v24 (i64 16)) fun v25=>
 en_ v25 (i64 4) (K (.tuple #[]) h16) (S99_j1 a0 v6 h16 K)))))
def A99:Ann:=⟨fun | 2=> ([0,1,2,3,4,5,6,7,8,9,10,11,12,13,14,15,16,17,18,19,20,21,22,23,24,25,26,27], [0,1,3,7,15,31,63,127,255,511,1023,511,2559,8191,16383,32767,65535,131071,65535,327679,1048575,2097151,4194303,8388607,16777215,33554431,67108863,134217727]) | 8=> ([0,1,2,3,4,5,6,7,8,9,10,11,12,13], [0,1,3,7,0,16,48,112,240,496,1023,2047,0,8191]) | 10=> ([0,1,2,3,4,5,6,7,8,9,10,11,12], [0,1,3,7,0,16,48,112,240,496,0,2047,4095]) | _=> ([], []),fun | 0=> [0,4,5] | _=> []⟩
theorem S99_T{a0 a1:Value}{h}{K}(g:S99 a0 a1 h K):T Tryz.prog 99 [a0,a1] h K:=gwT A99 Tryz.func99 g (c:=bodyOf Tryz.f99)
def S108(a0:Value)(h:GH)(K:Value→GH→Prop):Prop:=
 bnd (lnV a0) fun v1=>Lfp (fun (s2:Nat→Value) h3 again4=>bi_ .lss (s2 2) (s2 1) (bnd (isV 4 (s2 0) (s2 2)) fun v6=>T Tryz.prog 127 [v6] h3 fun v7 h8=>ni_ v7 (K (.bool false) h8) (bnd (binV .add (s2 2) (i64 1)) fun v10=>again4 (tup [(s2 0),(s2 1),v10]) h8)) (bnd (lnV (s2 0)) fun v11=>bi_ .geq v11 (i64 1) (bnd (lnV (s2 0)) fun v13=>bnd (binV .leq v13 (i64 2)) fun v14=>K v14 h3) (K (.bool false) h3))) (tup [a0,v1,(i64 0)]) h
def A108:Ann:=⟨fun _=> ([], []),fun | 0=> [0,5,6] | _=> []⟩
theorem S108_T{a0:Value}{h}{K}(g:S108 a0 h K):T Tryz.prog 108 [a0] h K:=gwT A108 Tryz.func108 g (c:=bodyOf Tryz.f108)
def S110(a0:Value)(h:GH)(K:Value→GH→Prop):Prop:=
 bi_ .geq a0 (i64 0) (bnd (binV .leq a0 (i64 5)) fun v2=>K v2 h) (K (.bool false) h)
def A110:Ann:=⟨fun _=> ([], []),fun _=> []⟩
theorem S110_T{a0:Value}{h}{K}(g:S110 a0 h K):T Tryz.prog 110 [a0] h K:=gwT A110 Tryz.func110 g (c:=bodyOf Tryz.f110)
def S112(a0:Value)(h:GH)(K:Value→GH→Prop):Prop:=
 bnd (binV .mul a0 (i64 4)) fun v1=>bnd (binV .add v1 (i64 0)) fun v2=>K v2 h
def A112:Ann:=⟨fun _=> ([], []),fun _=> []⟩
theorem S112_T{a0:Value}{h}{K}(g:S112 a0 h K):T Tryz.prog 112 [a0] h K:=gwT A112 Tryz.func112 g (c:=bodyOf Tryz.f112)
def S113(a0:Value)(h:GH)(K:Value→GH→Prop):Prop:=
 T Tryz.prog 131 [a0] h fun v1 h2=>ni_ v1 (K (.tuple #[(.pointer none),(i64 1100)]) h2) (bnd (fillV [(i64 0),(i64 0),(.bool false),(.bool false),(.bool false)] [(0,1,a0)]) fun c4=>newV 201 ((.agg c4.toArray):Value).cells.toList h2 fun v5 h6=>K (.tuple #[v5,(i64 0)]) h6)
def A113:Ann:=⟨fun _=> ([], []),fun _=> []⟩
theorem S113_T{a0:Value}{h}{K}(g:S113 a0 h K):T Tryz.prog 113 [a0] h K:=gwT A113 Tryz.func113 g (c:=bodyOf Tryz.f113)
end Go.Proofs.YtfphpafkhljncaaGreat
