/- Several texts in one; nothing here is a statement on the program. -/
import Derived.Test.YtfphpafkhljncaaGreatQR8
set_option linter.unusedVariables false
set_option linter.unusedSimpArgs false
namespace Go.Proofs.YtfphpafkhljncaaGreat
open Go GW Go.Proofs
attribute [local irreducible] bnd ldV stV ifV binV eqI
set_option maxRecDepth 20000
section
variable {a b hd : Nat} {A : Ar} {R : List Part} {h : GH} {K : CC} {t q : Int} {rest : List Value}
def enP(b:Nat)(f:En):Part:=fun h=> ∃ won,pts b (enRow f won) h
theorem T_entStep{f:En}(hp:All (arP 138 a A::enP b f::pts hd (hdRow t q rest)::R) h)(ok:f.ok)
  (hK:Left a hd b t rest (f.step q A) R fun v h=> K (.tuple #[v, .bool (f.step q A).over, .bool (f.step q A).good]) h):T Pg 328 [ptr b,ptr a] h K:=by
 apply S328_T
 unfold S328
 have hA:=(arP.at hp).2
 have hp1:All (enP b f::arP 138 a A::pts hd (hdRow t q rest)::R) h:=hp.up 1
 obtain ⟨won,hp1⟩:=All.ex hp1
 replace hp:All (arP 138 a A::pts b (enRow f won)::pts hd (hdRow t q rest)::R) h:=hp1.up 1
 obtain ⟨s,g,e,t',q',pc,cell,was,opn⟩:=f
 have hs:=ok.life
 have e0:=ok.e0
 have e1:=ok.e1
 have c0:=ok.c0
 have c1:=ok.c1
 have wr:=ok.was
 have pc1:=ok.pc1
 simp only at hs e0 e1 c0 c1 wr pc1
 have flat:∀ {o:Out} {f':En} {won:Bool} {h':GH},Left a hd b t rest o R (fun v h=> K (.tuple #[v, .bool o.over, .bool o.good]) h)→o.fr= .ent f'→o.q=q→o.atop=none→All (arP 138 a o.a::pts b (enRow f' won)::pts hd (hdRow t q rest)::R) h'→K (.tuple #[.nilIface, .bool o.over, .bool o.good]) h':=by
  intro o f' won h' hK e eq e1 hp
  refine hK .nilIface h' ?_
  rw [e,e1,eq]
  exact hp.mono2 fun _ z=> All.mono2 (z.head fun _ z _=> ⟨won,z⟩) fun _ z=> z.emp_cons rfl
 have:pc=0∨pc=1∨pc=2∨pc=3:=by omega
 rcases this with rfl | rfl | rfl | rfl
 ·refine wk ?_
  refine st1 hp (enRow ⟨s,g,e,t',q',1,cell,was,opn⟩ won) rfl (by simp) rfl rfl fun h' hp=> ?_
  refine wk ?_
  refine T_takeCell hp ⟨hs.s0,hs.s1⟩ e0 e1 fun h' hp=> ?_
  exact flat (f':=⟨s,g,e,t',q',1,valOf (A.at (baseOf s + (2 + 3 * e + 0))),was,opn⟩) hK rfl rfl rfl hp
 ·refine wk ?_
  refine st1 hp (enRow ⟨s,g,e,t',q',2,cell,was,opn⟩ won) rfl (by simp) rfl rfl fun h' hp=> ?_
  refine wk ?_
  refine T_takeWas hp ⟨hs.s0,hs.s1⟩ e0 e1 hA fun h' hp=> ?_
  by_cases c:isVal (A.at (baseOf s + (2 + 3 * e + 1))) 1099511627775=true
  ·rw [if_pos c] at hp
   exact flat (f':=⟨s,g,e,t',q',2,cell,valOf (A.at (baseOf s + (2 + 3 * e + 1))) * 4,opn⟩) hK rfl rfl rfl hp
  ·refine hK .nilIface _ (hp.mono2 fun _ z=> ?_)
   exact All.emp_cons (All.emp_cons (P:=atP hd .nilIface none) z.tail rfl) fun e=> absurd e c
 ·refine wk ?_
  refine st1 hp (enRow ⟨s,g,e,t',q',3,cell,was,opn⟩ won) rfl (by simp) rfl rfl fun h' hp=> ?_
  refine wk ?_
  refine T_decision hp hs hA fun h' hp=> ?_
  exact flat (f':=⟨s,g,e,t',q',3,cell,was,decide (A.at (baseOf s)=stateW g 0)⟩) hK rfl rfl rfl hp
 ·refine wk ?_
  refine st1 hp (enRow ⟨s,g,e,t',q',4,cell,was,opn⟩ won) rfl (by simp) rfl rfl fun h' hp=> ?_
  refine wk ?_
  refine la1 hp (c:= [i64 s,i64 g,i64 e,i64 t',i64 q']) (by simp) rfl ?_
  refine T_Number_entry ⟨hs.s0,hs.s1,hs.g0,hs.g1,e0,e1,ok.t0,ok.t1,ok.q0,ok.q1⟩ ?_
  refine T_settle hp hs c0 c1 wr fun h' hp=> ?_
  exact flat (f':=⟨s,g,e,t',q',4,cell,was,opn⟩) hK rfl rfl rfl hp
theorem T_through{TT:TypeId}{s g cell was:Int}{opn won:Bool}{rest':List Value}{sz:Nat}{P:Part}(hp:All (P::pts b (heldRow TT s g cell was opn won rest' sz)::R) h)(hK:K (.agg [i64 s,i64 g].toArray) h):T Pg 329 [ptr b] h K:=by
 apply T.drop
 apply S329_T
 unfold S329
 intro c hc
 have l:=(HLe.refl h).new (.row 133 [i64 0,i64 0] 2 true) hc
 have hp:=hp.le l
 refine wk ?_
 refine la1 hp (c:= [i64 s,i64 g]) (by simp [heldRow]) rfl ?_
 refine bnd_of (v:=upd h c (.row 133 [i64 s,i64 g] 2 true)) (by rw [stV_same];rfl) ?_
 refine bnd_of (v:= .agg [i64 s,i64 g].toArray) (by rw [ldV_same_agg];rfl) ?_
 exact ⟨h,(HLe.refl h).new _ hc,hK⟩
variable {fr : Fr} {P : Part}
theorem IV_through(hp : All (P :: frB hd b fr :: R) h)(hK : K (.agg [i64 fr.s, i64 fr.g].toArray) h) : ivV Pg (.iface (frT fr) (ptr b)) "pawl/mcas.through" [] h K := by
 have hp1:All (frB hd b fr::P::R) h:=hp.up 1
 cases fr with
 | who w=>
   obtain ⟨oth,hp1⟩:=All.ex hp1
   obtain ⟨to,hp1⟩:=All.ex hp1
   have hp2:=(All.pure hp1).2
   have hp3:All (pts b (whRow w hd oth to)::_) h:=All.flat hp2
   have hp4:All (emp::pts b (whRow w hd oth to):: []) h:=All.emp_cons (hp3.sel [0]) trivial
   exact ⟨_, _, fun w => (by kernel_rfl : (method (Pg.types.size + Made.depth) 392 (ptr b) "pawl/mcas.through").run Pg w = .ok (329, .pointer (some ⟨b, 0 + 0, none⟩)) w), T_through hp4 hK⟩
 | ent f=>
   obtain ⟨won,hp1⟩:=All.ex hp1
   have hp4:All (emp::pts b (enRow f won):: []) h:=All.emp_cons (All.sel [0] hp1) trivial
   exact ⟨_, _, fun w => (by kernel_rfl : (method (Pg.types.size + Made.depth) 387 (ptr b) "pawl/mcas.through").run Pg w = .ok (329, .pointer (some ⟨b, 0 + 0, none⟩)) w), T_through hp4 hK⟩
theorem IV_step(hp:All (arP 138 a A::frB hd b fr::pts hd (hdRow t q rest)::R) h)(ok:fr.ok)(t0:0≤t)(t1:t < 4)(q0:0≤q)(q1:q < 1048576)
  (hK : Left a hd b t rest (fr.step t q A) R fun v h => K (.tuple #[v, .bool (fr.step t q A).over, .bool (fr.step t q A).good]) h) : ivV Pg (.iface (frT fr) (ptr b)) "pawl/mcas.step" [ptr a] h K := by
 cases fr with
 | who w => exact ⟨_, _, fun w => (by kernel_rfl : (method (Pg.types.size + Made.depth) 392 (ptr b) "pawl/mcas.step").run Pg w = .ok (337, ptr b) w), T_whoStep hp ok t0 t1 q0 q1 hK⟩
 | ent f => exact ⟨_, _, fun w => (by kernel_rfl : (method (Pg.types.size + Made.depth) 387 (ptr b) "pawl/mcas.step").run Pg w = .ok (328, ptr b) w), T_entStep hp ok hK⟩
end
end Go.Proofs.YtfphpafkhljncaaGreat
namespace Go.Proofs.YtfphpafkhljncaaGreat
open Go GW Go.Proofs
attribute [local irreducible] bnd ldV stV ifV binV eqI
set_option maxRecDepth 20000
abbrev helpRow(H:Help)(sv lv:VV):GObj:=hdRow H.t H.q [sv,lv, .bool H.won, .bool H.over]
def lastP(lv:VV)(slot gen:Int):Part:=fun h=> (lv= .pointer none∧slot= -1∧gen=0)∨∃ c,lv=ptr c∧pts c (.row 133 [i64 slot,i64 gen] 2 true) h
def stkP(b:Nat):List Value→List Fr→Part
 | [], []=> emp
 | v::vs,f::fs=> fun h=> All [frP b v f,stkP b vs fs] h
 | _,_=> fun _=> False
def sliceOf(v:VV)(vs:List Value):List (List Value):=(vs.reverse ++ [v]).map fun x=> [x]
def stackP(b:Nat)(sv:VV)(H:Help):Part:=fun h=> H.over=false→∃ v vs,All [rowP 1 sv (sliceOf v vs),frP b v H.top,stkP b vs H.rest] h
def helpP(b:Nat)(H:Help):Part:=fun h=> ∃ sv lv,All [pts b (helpRow H sv lv),lastP lv H.slot H.gen,stackP b sv H] h
theorem stk_len{b:Nat}:∀ {vs:List Value} {fs:List Fr} {h:GH},stkP b vs fs h→vs.length=fs.length:=by
 intro vs
 induction vs with
 | nil=> intro fs h p;cases fs with
   | nil=> rfl
   | cons f fs=> exact p.elim
 | cons v vs ih=> intro fs h p;cases fs with
   | nil=> exact p.elim
   | cons f fs=>
     obtain ⟨h1,h2,_,_,_,_,q⟩:=p
     obtain ⟨h1,h2,_,_,_,q,_⟩:=q
     simp [ih q]
theorem iface_good(t:TypeId)(v:VV):good 1 [.iface t v]:=⟨rfl,rfl⟩
section
variable {a b : Nat} {A : Ar} {R : List Part} {h : GH} {K : CC} {H : Help}
theorem helpP_shut{sv lv:VV}{P:Part}{H':Help}(hp:All (P::pts b (helpRow H' sv lv)::lastP lv H'.slot H'.gen::R) h)(e:H'.over=true):All (P::helpP b H'::R) h:=by
 have h1:All (pts b (helpRow H' sv lv)::lastP lv H'.slot H'.gen::stackP b sv H'::P::R) h:=((hp.up 2).up 2).mono2 fun _ z=> z.mono2 fun _ z=> All.emp_cons z fun q=> by rw [e] at q;cases q
 have h2:=All.fold (l:= [_,_,_]) h1
 exact (h2.head fun h1 z=> ⟨sv,lv,z⟩).up 1
theorem helpP_shut2{sv lv v:VV}{vs:List Value}{P:Part}{H':Help}(hp:All (P::pts b (helpRow H' sv lv)::lastP lv H'.slot H'.gen::rowP 1 sv (sliceOf v vs)::frP b v H'.top::stkP b vs H'.rest::R) h):All (P::helpP b H'::R) h:=by
 have h1:=All.fold (l:= [_,_,_]) (hp.re 6 [3,4,5,0,1,2])
 have h2:All (stackP b sv H'::P::pts b (helpRow H' sv lv)::lastP lv H'.slot H'.gen::R) h:=h1.head fun _ z _=> ⟨v,vs,z⟩
 have h3:=All.fold (l:= [_,_,_]) (h2.re 4 [2,3,0,1])
 exact (h3.head fun h1 z=> ⟨sv,lv,z⟩).up 1
theorem Fr.over_atop{t q:Int}(f:Fr):(f.step t q A).over=true→(f.step t q A).atop=none:=by
 cases f with
 | who w=>
   simp only [Fr.step]
   unfold Wh.step
   split <;> first | (intro _;rfl) | skip
   ·unfold Wh.swapIn
    simp only
    split
    ·intro e;cases e
    ·split <;> first | (intro e;cases e;done) | (split <;> (intro e;cases e))
   ·simp only
    split <;> (intro e;cases e)
 | ent f=>
   simp only [Fr.step]
   unfold En.step
   split <;> (intro _;rfl)
theorem Fr.step_kind{t q:Int}(f:Fr):frT (f.step t q A).fr=frT f:=by
 cases f with
 | who w=>
   simp only [Fr.step]
   unfold Wh.step
   split <;> first | rfl | skip
   ·unfold Wh.swapIn
    simp only
    split
    ·rfl
    ·split <;> first | rfl | (split <;> rfl)
   ·simp only
    split <;> rfl
 | ent f=>
   simp only [Fr.step]
   unfold En.step
   split <;> rfl
theorem Help.step_eq(e:H.over=false):H.step A=((H.take (H.top.step H.t H.q A)).1,(H.take (H.top.step H.t H.q A)).2,(H.top.step H.t H.q A).a):=by
 unfold Help.step;rw [e];rfl
theorem T_Step(hp:All (arP 138 a A::helpP b H::R) h)(ok:H.ok)
  (hK:∀ h',All (arP 138 a (H.step A).2.2::helpP b (H.step A).1::R) h'→K (.tuple #[.bool (H.step A).1.over,i64 (H.step A).2.1]) h'):T Pg 323 [ptr b,ptr a] h K:=by
 apply S323_T
 unfold S323
 have hp1:All (helpP b H::arP 138 a A::R) h:=hp.up 1
 obtain ⟨sv,hp1⟩:=All.ex hp1
 obtain ⟨lv,hp1⟩:=All.ex hp1
 have hp2:All (pts b (helpRow H sv lv)::lastP lv H.slot H.gen::stackP b sv H::arP 138 a A::R) h:=All.flat hp1
 replace hp:All (arP 138 a A::pts b (helpRow H sv lv)::lastP lv H.slot H.gen::stackP b sv H::R) h:=hp2.up 3
 refine wk ?_
 unfold S323_j1
 refine wk ?_
 refine ifV_bool (fun c=> ?_) fun c=> ?_
 ·have e:H.step A=(H,0,A):=by unfold Help.step;rw [c];rfl
  rw [e] at hK
  simp only at hK
  rw [c] at hK
  exact hK _ (helpP_shut (hp.mono2 fun _ z=> z.mono2 fun _ z=> z.mono2 fun _ z=> z.tail) c)
 unfold S323_j2
 have hs:All (stackP b sv H::arP 138 a A::pts b (helpRow H sv lv)::lastP lv H.slot H.gen::R) h:=hp.up 3
 have hs2:=hs.head fun _ z=> z c
 obtain ⟨v,hs2⟩:=All.ex hs2
 obtain ⟨vs,hs2⟩:=All.ex hs2
 have hs3:All (rowP 1 sv (sliceOf v vs)::frP b v H.top::stkP b vs H.rest::arP 138 a A::pts b (helpRow H sv lv)::lastP lv H.slot H.gen::R) h:=All.flat hs2
 have hlen:vs.length=H.rest.length:=by
  obtain ⟨h1,_,_,_,_,z,_⟩:=All.up hs3 2
  exact stk_len z
 have hv:(sliceOf v vs)[vs.length]?=some [v]:=by simp [sliceOf]
 have hl:(sliceOf v vs).length=vs.length + 1:=by simp [sliceOf]
 obtain ⟨ok1,ok2,ok3⟩:=ok.frames c
 have okt:=ok.t0;have okt1:=ok.t1;have okq:=ok.q0;have okq1:=ok.q1
 obtain ⟨blk,el,eld,_,_⟩:=hs3.elt hv .i64
 refine wk ?_
 refine bnd_of hs3.len ?_
 refine bnd_of (sub_id (by omega) (by omega)) ?_
 have en:(((sliceOf v vs).length:Nat):Int) - 1=(vs.length:Nat):=by omega
 refine wk ?_
 rw [en]
 refine bnd_of el (bnd_of (eld 0 1 v rfl) ?_)
 have hs4:All (frP b v H.top::rowP 1 sv (sliceOf v vs)::stkP b vs H.rest::arP 138 a A::pts b (helpRow H sv lv)::lastP lv H.slot H.gen::R) h:=hs3.up 1
 have hs5:=hs4.head fun _ z=> frP_iff.1 z
 obtain ⟨f,hs5⟩:=All.ex hs5
 obtain ⟨ev,hs5⟩:=All.pure hs5
 subst ev
 replace hp:All (arP 138 a A::frB b f H.top::pts b (helpRow H sv lv)::lastP lv H.slot H.gen::rowP 1 sv (sliceOf (.iface (frT H.top) (ptr f)) vs)::stkP b vs H.rest::R) h:=hs5.re 6 [3,0,4,5,1,2]
 refine IV_through hp ?_
 refine nwst hp (.row 133 [i64 H.top.s,i64 H.top.g] 2 true) rfl rfl rfl (by rfl) fun c' h1 hp=> ?_
 replace hp:All (pts b (helpRow H sv lv)::arP 138 a A::frB b f H.top::pts c' (.row 133 [i64 H.top.s,i64 H.top.g] 2 true)::rowP 1 sv (sliceOf (.iface (frT H.top) (ptr f)) vs)::stkP b vs H.rest::R) h1:=hp.re 7 [3,1,2,0,5,6]
 refine wk ?_
 refine st0 hp (hdRow H.t H.q [sv,ptr c', .bool H.won, .bool H.over]) rfl (by simp) rfl rfl fun h2 hp=> ?_
 refine IV_step (rest:= [sv,ptr c', .bool H.won, .bool H.over]) (R:=pts c' (.row 133 [i64 H.top.s,i64 H.top.g] 2 true)::rowP 1 sv (sliceOf (.iface (frT H.top) (ptr f)) vs)::stkP b vs H.rest::R) (hp.re 3 [1,2,0]) ok1 okt okt1 okq okq1 ?_
 rw [Help.step_eq c] at hK
 have hov:=Fr.over_atop (A:=A) (t:=H.t) (q:=H.q) H.top
 have hkd:=Fr.step_kind (A:=A) (t:=H.t) (q:=H.q) H.top
 generalize H.top.step H.t H.q A=o at hK hov hkd ⊢
 intro av h3 hp
 refine wk ?_
 cases hg:o.good with
 | false=>
   have e:H.take o=({H with q:=o.q,top:=o.fr,slot:=H.top.s,gen:=H.top.g,over:=true},1400):=by unfold Help.take;rw [if_pos hg]
   rw [e] at hK
   refine wk ?_
   have hp4:All (pts b (hdRow H.t o.q [sv,ptr c', .bool H.won, .bool H.over])::arP 138 a o.a::pts c' (.row 133 [i64 H.top.s,i64 H.top.g] 2 true)::R) h3:=hp.re 7 [3,0,4]
   refine st0 hp4 (hdRow H.t o.q [sv,ptr c', .bool H.won, .bool true]) rfl (by simp) rfl rfl fun h4 hp=> ?_
   refine hK _ (helpP_shut (sv:=sv) (lv:=ptr c') ?_ rfl)
   exact (hp.up 1).mono2 fun _ z=> z.mono2 fun _ z=> z.head fun _ z=> .inr ⟨c',rfl,z⟩
 | true=>
   refine wk ?_
   replace hp:=(hp.up 1).head fun _ z=> z hg
   cases ha:o.atop.bind newFr with
   | none=>
     rw [ha] at hp
     have ev:av= .nilIface:=by
      have:All (atP b av none::_) _:=hp.up 2
      exact All.case this fun h1 p _=> p
     subst ev
     refine wk ?_
     unfold S323_j3
     refine wk ?_
     unfold S323_j4
     cases hov2:o.over with
     | false=>
       have e:H.take o=({H with q:=o.q,top:=o.fr,slot:=H.top.s,gen:=H.top.g},0):=by
        unfold Help.take;rw [if_neg (by rw [hg];decide),ha];simp only [hov2];rfl
       rw [e] at hK
       simp only at hK
       refine wk ?_
       refine hK _ ?_
       have hq:All (arP 138 a o.a::pts b (hdRow H.t o.q [sv,ptr c', .bool H.won, .bool H.over])::pts c' (.row 133 [i64 H.top.s,i64 H.top.g] 2 true)::rowP 1 sv (sliceOf (.iface (frT H.top) (ptr f)) vs)::frB b f o.fr::stkP b vs H.rest::R) _:=hp.re 7 [1,3,4,5,0,6]
       refine helpP_shut2 (sv:=sv) (lv:=ptr c') (v:= .iface (frT H.top) (ptr f)) (vs:=vs) (H':={H with q:=o.q,top:=o.fr,slot:=H.top.s,gen:=H.top.g}) (hq.mono2 fun _ z=> z.mono2 fun _ z=> ?_)
       refine (z.head (Q:=lastP (ptr c') H.top.s H.top.g) fun _ z=> .inr ⟨c',rfl,z⟩).mono2 fun _ z=> z.mono2 fun _ z=> z.head fun _ z=> ?_
       exact frP_iff.2 ⟨f,by rw [hkd],z⟩
     | true=>
       refine wk ?_
       have hq:All (rowP 1 sv (sliceOf (.iface (frT H.top) (ptr f)) vs)::pts b (hdRow H.t o.q [sv,ptr c', .bool H.won, .bool H.over])::arP 138 a o.a::pts c' (.row 133 [i64 H.top.s,i64 H.top.g] 2 true)::frB b f o.fr::stkP b vs H.rest::R) _:=hp.re 7 [5,3,1,4,0,6]
       clear hp
       obtain ⟨sv',esl,hq⟩:=hq.cut (n:=vs.length) (by omega) .i64
       refine bnd_of esl ?_
       obtain ⟨sa,sc,_,rfl,_⟩:=hq.row
       refine wk ?_
       refine st1 hq (hdRow H.t o.q [.slice sa ((sliceOf (.iface (frT H.top) (ptr f)) vs).take vs.length).length sc,ptr c', .bool H.won, .bool H.over]) rfl (by simp) rfl rfl fun h4 hq=> ?_
       refine wk ?_
       refine st1 hq (hdRow H.t o.q [.slice sa ((sliceOf (.iface (frT H.top) (ptr f)) vs).take vs.length).length sc,ptr c', .bool H.won, .bool (decide ((vs.length:Int)=0))]) rfl (by simp) rfl rfl fun h5 hp=> ?_
       obtain ⟨fr',at',ov',gd',a',q'⟩:=o
       simp only at hg ha hov2 hkd hp hK
       subst hg hov2
       cases hr:H.rest with
       | nil=>
         have hv0:vs= []:=List.eq_nil_of_length_eq_zero (by rw [hlen,hr];rfl)
         subst hv0
         have e:H.take ⟨fr',at',true,true,a',q'⟩=({H with q:=q',top:=fr',slot:=H.top.s,gen:=H.top.g,won:=fr'.won,over:=true},0):=by
          unfold Help.take;simp only [ha,hr];rfl
         rw [e] at hK
         simp only at hK
         have fin:∀ {h6:GH} {u:Bool} {P1 P4 P5:Part} {sv2:VV},u=fr'.won→All (P1::pts b (hdRow H.t q' [sv2,ptr c', .bool u, .bool true])::arP 138 a a'::pts c' (.row 133 [i64 H.top.s,i64 H.top.g] 2 true)::P4::P5::R) h6→K (.tuple #[.bool true,i64 0]) h6:=by
          intro h6 u P1 P4 P5 sv2 eu hp
          refine hK _ (helpP_shut (sv:=sv2) (lv:=ptr c') ?_ rfl)
          rw [← eu]
          exact (All.re hp 6 [2,1,3]).mono2 fun _ z=> z.mono2 fun _ z=> z.head fun _ z=> .inr ⟨c',rfl,z⟩
         cases fr' with
         | who w=>
           rw [← hkd]
           refine wk ?_
           have hw:All (arP 138 a a'::whP b f w::rowP 1 _ _::pts b _::pts c' _::stkP b [] H.rest::R) _:=hp.re 6 [2,4,0,1,3,5]
           refine whP_open hw fun oth to ho h13 hw=> ?_
           replace hw:All (rowP 1 _ _::pts b _::pts f (whRow w b oth to)::arP 138 a a'::pts c' _::stkP b [] H.rest::R) _:=hw.re 7 [3,4,1,0,5,6]
           clear hp
           have hp:=hw
           refine wk ?_
           refine st1 hw (hdRow H.t q' [.slice sa ((sliceOf (.iface (frT H.top) (ptr f)) []).take 0).length sc,ptr c', .bool w.won, .bool true]) rfl (by simp) rfl rfl fun h6 hp=> ?_
           refine wk ?_
           exact fin (u:=w.won) rfl (hp.re 6 [0,1,3,4,2,5])
         | ent f'=>
           rw [← hkd]
           refine wk ?_
           refine st1 hp (hdRow H.t q' [.slice sa ((sliceOf (.iface (frT H.top) (ptr f)) []).take 0).length sc,ptr c', .bool false, .bool true]) rfl (by simp) rfl rfl fun h6 hp=> ?_
           refine wk ?_
           exact fin (u:=false) rfl hp
       | cons r rs=>
         obtain ⟨v1,vs1,rfl⟩:∃ v1 vs1,vs=v1::vs1:=by
          cases vs with
          | nil=> rw [hr] at hlen;cases hlen
          | cons v1 vs1=> exact ⟨v1,vs1,rfl⟩
         have e:H.take ⟨fr',at',true,true,a',q'⟩=({H with q:=q',top:=r,rest:=rs,slot:=H.top.s,gen:=H.top.g,won:=false},0):=by
          unfold Help.take;simp only [ha,hr];rfl
         rw [e] at hK
         simp only at hK
         have esl2:(sliceOf (.iface (frT H.top) (ptr f)) (v1::vs1)).take (v1::vs1).length=sliceOf v1 vs1:=by
          unfold sliceOf;rw [← List.map_take,List.take_left' (by simp),List.reverse_cons]
         rw [esl2] at hp
         rw [hr] at hp
         have d0:decide (((v1::vs1).length:Int)=0)=false:=decide_eq_false (by simp only [List.length_cons];omega)
         rw [d0] at hp
         have fin:∀ {h6:GH},All (rowP 1 (.slice sa (sliceOf v1 vs1).length sc) (sliceOf v1 vs1)::pts b (hdRow H.t q' [.slice sa (sliceOf v1 vs1).length sc,ptr c', .bool false, .bool false])::arP 138 a a'::pts c' (.row 133 [i64 H.top.s,i64 H.top.g] 2 true)::frB b f fr'::stkP b (v1::vs1) (r::rs)::R) h6→K (.tuple #[.bool H.over,i64 0]) h6:=by
          intro h6 hp
          replace hp:All (rowP 1 (.slice sa (sliceOf v1 vs1).length sc) (sliceOf v1 vs1)::pts b (hdRow H.t q' [.slice sa (sliceOf v1 vs1).length sc,ptr c', .bool false, .bool H.over])::arP 138 a a'::pts c' (.row 133 [i64 H.top.s,i64 H.top.g] 2 true)::frB b f fr'::stkP b (v1::vs1) (r::rs)::R) h6:=by rw [c];exact hp
          refine hK _ (helpP_shut2 (H':={H with q:=q',top:=r,rest:=rs,slot:=H.top.s,gen:=H.top.g,won:=false}) (sv:= .slice sa (sliceOf v1 vs1).length sc) (lv:=ptr c') (v:=v1) (vs:=vs1) ?_)
          have h7:All (stkP b (v1::vs1) (r::rs)::arP 138 a a'::pts b _::pts c' _::rowP 1 _ (sliceOf v1 vs1)::R) _:=hp.re 6 [5,2,1,3,0]
          have h8:All (frP b v1 r::stkP b vs1 rs::arP 138 a a'::pts b _::pts c' _::rowP 1 _ (sliceOf v1 vs1)::R) _:=All.flat h7
          exact (h8.re 6 [2,3,4,5,0,1]).mono2 fun _ z=> z.mono2 fun _ z=> z.head fun _ z=> .inr ⟨c',rfl,z⟩
         cases fr' with
         | who w=>
           rw [← hkd]
           refine wk ?_
           refine st1 hp (hdRow H.t q' [.slice sa (sliceOf v1 vs1).length sc,ptr c', .bool false, .bool false]) rfl (by simp) rfl rfl fun h6 hp=> ?_
           refine wk ?_
           have:=fin hp
           rw [c] at this
           exact this
         | ent f'=>
           rw [← hkd]
           refine wk ?_
           refine st1 hp (hdRow H.t q' [.slice sa (sliceOf v1 vs1).length sc,ptr c', .bool false, .bool false]) rfl (by simp) rfl rfl fun h6 hp=> ?_
           refine wk ?_
           have:=fin hp
           rw [c] at this
           exact this
   | some fr=>
     have ho:o.over=false:=by
      cases e:o.over with
      | false=> rfl
      | true=> rw [hov e] at ha;cases ha
     rw [ha] at hp
     have hp1:All (frP b av fr::rowP 1 sv (sliceOf (.iface (frT H.top) (ptr f)) vs)::pts b (hdRow H.t o.q [sv,ptr c', .bool H.won, .bool H.over])::arP 138 a o.a::pts c' (.row 133 [i64 H.top.s,i64 H.top.g] 2 true)::frB b f o.fr::stkP b vs H.rest::R) _:=hp.re 7 [2,5,3,1,4,0,6]
     clear hp
     have hp2:=hp1.head fun _ z=> frP_iff.1 z
     obtain ⟨d,hp3⟩:=All.ex hp2
     obtain ⟨ev,hp4⟩:=All.pure hp3
     clear hp1 hp2 hp3
     subst ev
     have hp:All (rowP 1 sv (sliceOf (.iface (frT H.top) (ptr f)) vs)::pts b (hdRow H.t o.q [sv,ptr c', .bool H.won, .bool H.over])::arP 138 a o.a::pts c' (.row 133 [i64 H.top.s,i64 H.top.g] 2 true)::frB b f o.fr::stkP b vs H.rest::frB b d fr::R) h3:=hp4.re 7 [1,2,3,4,5,6,0]
     refine wk ?_
     refine bnd_of hp.len ?_
     refine wk ?_
     refine ifV_cases (fun c18=> ?_) fun c18=> ?_
     ·refine wk ?_
      refine st1 hp (hdRow H.t o.q [sv,ptr c', .bool H.won, .bool true]) rfl (by simp) rfl rfl fun h4 hp=> ?_
      have e:H.take o=({H with q:=o.q,top:=o.fr,slot:=H.top.s,gen:=H.top.g,over:=true},1400):=by
       unfold Help.take;rw [if_neg (by rw [hg];decide),ha];simp only;rw [if_pos (by omega)]
      rw [e] at hK
      refine hK _ (helpP_shut (sv:=sv) (lv:=ptr c') ?_ rfl)
      exact (hp.re 7 [2,1,3]).mono2 fun _ z=> z.mono2 fun _ z=> z.head fun _ z=> .inr ⟨c',rfl,z⟩
     ·have e:H.take o=({H with q:=o.q,rest:=o.fr::H.rest,top:=fr,slot:=H.top.s,gen:=H.top.g},0):=by
       unfold Help.take;rw [if_neg (by rw [hg];decide),ha];simp only;rw [if_neg (by omega)]
      rw [e] at hK
      simp only at hK
      unfold S323_j3
      refine wk ?_
      refine bs0 hp [[Value.iface (frT fr) (ptr d)]] rfl rfl (by simp) (fun c hc=> by rw [List.mem_singleton.1 hc];exact iface_good _ _) fun xv h4 hp=> ?_
      refine ap0 (hp.up 1) hp.rows (fun c hc=> by rw [List.mem_singleton.1 hc];exact iface_good _ _) (by decide) (by simp only [List.length_singleton];omega) fun sv' h5 hp=> ?_
      obtain ⟨sa,sc,_,rfl,_⟩:=hp.row
      refine wk ?_
      refine st2 hp (hdRow H.t o.q [.slice sa (sliceOf (.iface (frT H.top) (ptr f)) vs ++ [[Value.iface (frT fr) (ptr d)]]).length sc,ptr c', .bool H.won, .bool H.over]) rfl (by simp) rfl rfl fun h6 hp=> ?_
      unfold S323_j4
      rw [ho]
      refine wk ?_
      refine hK _ (helpP_shut2 (H':={H with q:=o.q,rest:=o.fr::H.rest,top:=fr,slot:=H.top.s,gen:=H.top.g}) (sv:= .slice sa (sliceOf (.iface (frT H.top) (ptr f)) vs ++ [[Value.iface (frT fr) (ptr d)]]).length sc) (lv:=ptr c') (v:= .iface (frT fr) (ptr d)) (vs:= .iface (frT H.top) (ptr f)::vs) ?_)
      have esl:sliceOf (.iface (frT H.top) (ptr f)) vs ++ [[Value.iface (frT fr) (ptr d)]]=sliceOf (.iface (frT fr) (ptr d)) (.iface (frT H.top) (ptr f)::vs):=by
       simp [sliceOf]
      rw [esl] at hp ⊢
      have h7:All (frB b f o.fr::stkP b vs H.rest::arP 138 a o.a::pts b _::pts c' _::rowP 1 _ _::frB b d fr::R) _:=hp.re 8 [5,6,3,2,4,0,7]
      have h8:=All.fold (l:= [_,_]) (h7.head (Q:=frP b (.iface (frT H.top) (ptr f)) o.fr) fun _ z=> frP_iff.2 ⟨f,by rw [hkd],z⟩)
      have h9:All (arP 138 a o.a::pts b _::pts c' _::rowP 1 _ _::frB b d fr::stkP b (.iface (frT H.top) (ptr f)::vs) (o.fr::H.rest)::R) _:=h8.re 6 [1,2,3,4,5,0]
      exact h9.mono2 fun _ z=> z.mono2 fun _ z=> (z.head (Q:=lastP (ptr c') H.top.s H.top.g) fun _ z=> .inr ⟨c',rfl,z⟩).mono2 fun _ z=> z.mono2 fun _ z=> z.head fun _ z=> frP_iff.2 ⟨d,rfl,z⟩
end
end Go.Proofs.YtfphpafkhljncaaGreat
namespace Go.Proofs.YtfphpafkhljncaaGreat
open Go GW Go.Proofs
attribute [local irreducible] bnd ldV stV ifV binV eqI
set_option maxRecDepth 20000
abbrev wcells(w:Wh)(pc:Int)(opn won:Bool):List Value:= [i64 2,i64 0,i64 w.s,i64 w.g,i64 0,i64 0,i64 0,i64 (Form.mcas w.s w.g).number,i64 pc,i64 w.i,i64 w.k,i64 w.cell,i64 w.was,i64 w.put, .bool opn, .bool won,i64 w.x]
abbrev ecells(f:En)(opn:Bool):List Value:= [i64 1,i64 0,i64 f.s,i64 f.g,i64 f.e,i64 f.t,i64 f.q,i64 (Form.entry f.s f.g f.e f.t f.q).number,i64 f.pc,i64 0,i64 0,i64 f.cell,i64 f.was,i64 0, .bool opn, .bool false,i64 0]
abbrev rfRow(c:List Value):GObj:= .row 312 c 17 true
def rcells:Fr→List Value→Prop
 | .who w,c=> ∃ (pc:Int) (opn won:Bool),c=wcells w pc opn won∧(pc=w.pc∨pc=0∧w.pc=1)∧(w.pc=7→opn=w.opn)∧(w.pc=0∨10≤w.pc∧w.pc≤13→won=w.won)
 | .ent f,c=> ∃ opn:Bool,(c=ecells f opn∨f.pc=4∧c=ecells {f with pc:=3} opn)∧(f.pc=3→opn=f.opn)
theorem rcells_good{f:Fr}{c:List Value}(h:rcells f c):good 17 c:=by
 cases f with
 | who w=> obtain ⟨pc,opn,won,rfl,_⟩:=h;exact ⟨rfl,rfl⟩
 | ent f=> obtain ⟨opn,rfl | ⟨_,rfl⟩,_⟩:=h <;> exact ⟨rfl,rfl⟩
theorem val_of_some{x:Int}(h:(plainOf x).isSome=true):x=valOf x * 4:=by
 unfold valOf
 cases e:plainOf x with
 | none=> rw [e] at h;cases h
 | some v=>
   unfold plainOf at e
   split at e
   ·rename_i v' er
    cases e
    have:=(number_of_read er).2.1
    simp only [Form.number] at this
    simp only [Option.getD_some];omega
   ·cases e
theorem state_iff{x g st:Int}(h:(plainOf x).isSome=true):(valOf x=4 * g + st) ↔ (x=stateW g st):=by
 have:=val_of_some h
 unfold stateW;omega
section
variable {a c : Nat} {A : Ar} {R : List Part} {h : GH} {K : CC} {w : Wh} {pc : Int} {opn won : Bool}
theorem T_rBase{s:Int}(h0:0≤s)(h1:s < 12)(hK:K (i64 (baseOf s)) h):T Pg 121 [i64 s] h K:=by
 apply S121_T
 unfold S121
 refine bnd_of (mul_id (by omega) (by omega)) (bnd_of (add_id (by omega) (by omega)) ?_)
 have e:34 + 50 * s=baseOf s:=by unfold baseOf;omega
 rw [e];exact hK
theorem T_rValue{x:Int}(h0: -2305843009213693952≤x)(h1:x < 2305843009213693952)(hK:K (i64 (x * 4)) h):T Pg 118 [i64 x] h K:=by
 apply S118_T
 unfold S118
 refine bnd_of (mul_id (by omega) (by omega)) ?_
 have e:4 * x=x * 4:=by omega
 rw [e];exact hK
theorem T_rState{g st:Int}(h0:0≤g)(h1:g < 65536)(h2:0≤st)(h3:st < 4)(hK:K (i64 (stateW g st)) h):T Pg 234 [i64 g,i64 st] h K:=by
 apply S234_T
 unfold S234
 refine bnd_of (mul_id (by omega) (by omega)) (bnd_of (add_id (by omega) (by omega)) (T_rValue (by omega) (by omega) ?_))
 have e:(4 * g + st) * 4=stateW g st:=by unfold stateW;omega
 rw [e];exact hK
theorem T_rvalue{x most:Int}(hx:I64 x)(hK:K (.tuple #[i64 (valOf x), .bool (isVal x most)]) h):T Pg 235 [i64 x,i64 most] h K:=by
 apply S235_T
 unfold S235
 refine T_IsValue hx.2 ?_
 refine wk ?_
 refine ifV_bool (fun q=> ?_) fun q=> ?_
 ·refine wk ?_
  unfold isVal at hK
  rw [q,Bool.true_and] at hK
  exact hK
 ·unfold isVal at hK
  rw [q,Bool.false_and] at hK
  exact hK
theorem T_rstate{x g:Int}{P:Part}{c0:List Value}(hp:All (P::pts c (rfRow c0)::R) h)(hg:c0[3]?=some (i64 g))(g0:0≤g)(g1:g < 65536)(hx:I64 x)
  (hK:∀ o n:Bool,((plainOf x).isSome=true→o=decide (x=stateW g 0)∧n=decide (x=stateW g 1))→K (.tuple #[.bool o, .bool n, .bool (plainOf x).isSome]) h):T Pg 236 [ptr c,i64 x] h K:=by
 apply S236_T
 unfold S236
 refine T_IsValue hx.2 ?_
 refine wk ?_
 refine ld1 hp hg ?_
 refine wk ?_
 refine ld1 hp hg ?_
 refine wk ?_
 refine hK _ _ fun q=> ⟨decide_eq_decide.2 (state_iff q),decide_eq_decide.2 (state_iff q)⟩
theorem T_rmine{P:Part}{c0:List Value}{s g:Int}(hp:All (P::pts c (rfRow c0)::R) h)(h2:c0[2]?=some (i64 s))(h3:c0[3]?=some (i64 g))(hs:Life s g)(hK:K (i64 (Form.mcas s g).number) h):T Pg 240 [ptr c] h K:=by
 apply S240_T
 unfold S240
 refine wk ?_
 refine ld1 hp h2 ?_
 refine wk ?_
 refine ld1 hp h3 ?_
 refine wk ?_
 refine T_PutWord (f:= .mcas s g) (may_mcas.2 ⟨hs.s0,hs.s1,hs.g0,hs.g1⟩) ?_
 refine wk ?_
 exact hK
theorem T_rsettle{c0:List Value}{s g cell was ref:Int}{opn:Bool}(hp:All (arP 103 a A::pts c (rfRow c0)::R) h)(h2:c0[2]?=some (i64 s))(h3:c0[3]?=some (i64 g))(h11:c0[11]?=some (i64 cell))(h12:c0[12]?=some (i64 was))(h14:c0[14]?=some (.bool opn))(hs:Life s g)(hc0:0≤cell)(hc1:cell < 16)(hw:I64 was)
  (hK:∀ h',All (arP 103 a (A.cas cell ref (if opn then (Form.mcas s g).number else was))::pts c (rfRow c0)::R) h'→K (.tuple #[]) h'):T Pg 237 [ptr c,ptr a,i64 ref] h K:=by
 apply S237_T
 unfold S237
 refine wk ?_
 refine ld1 hp h12 ?_
 refine wk ?_
 refine ld1 hp h14 ?_
 refine ifV_bool (fun q=> ?_) fun q=> ?_
 ·refine T_rmine hp h2 h3 hs ?_
  unfold S237_j1
  refine wk ?_
  refine ld1 hp h11 ?_
  refine L_refSwap hp (by omega) (by omega) (mcas_range hs) fun h' hp=> ?_
  rw [if_pos q] at hK
  exact hK _ hp
 ·unfold S237_j1
  refine wk ?_
  refine ld1 hp h11 ?_
  refine L_refSwap hp (by omega) (by omega) hw fun h' hp=> ?_
  rw [if_neg (by rw [q];decide)] at hK
  exact hK _ hp
theorem T_rnext{more stop:Nat}(hp:All (pts c (rfRow (wcells w pc opn won))::R) h)(i0:0≤w.i)(i1:w.i≤16)
  (hK:∀ h',All (pts c (rfRow (wcells (w.next more stop) (w.next more stop).pc opn won))::R) h'→K (.tuple #[]) h'):T Pg 239 [ptr c,i64 more,i64 stop] h K:=by
 apply S239_T
 unfold S239
 refine wk ?_
 refine st0 hp (rfRow (wcells {w with i:=w.i + 1} pc opn won)) rfl (by simp) rfl rfl fun h' hp=> ?_
 refine wk ?_
 refine st0 hp (rfRow (wcells {w with i:=w.i + 1} more opn won)) rfl (by simp) rfl rfl fun h' hp=> ?_
 refine wk ?_
 refine ifV_cases (fun q=> ?_) fun q=> ?_
 ·refine wk ?_
  refine st0 hp (rfRow (wcells {w with i:=w.i + 1} stop opn won)) rfl (by simp) rfl rfl fun h' hp=> ?_
  have e:w.next more stop={w with i:=w.i + 1,pc:=stop}:=by unfold Wh.next;rw [if_pos q]
  rw [e] at hK
  exact hK _ hp
 ·have e:w.next more stop={w with i:=w.i + 1,pc:=more}:=by unfold Wh.next;rw [if_neg q]
  rw [e] at hK
  exact hK _ hp
end
end Go.Proofs.YtfphpafkhljncaaGreat
namespace Go.Proofs.YtfphpafkhljncaaGreat
open Go GW Go.Proofs
attribute [local irreducible] bnd ldV stV ifV binV eqI
set_option maxRecDepth 20000
def numO:Option Form→Int
 | none=> 0
 | some f=> f.number
def RLeft(a c:Nat)(o:Out)(R:List Part)(K:Int→Bool→GH→Prop):Prop:=
 ∀ nx ov cs h',(o.good=true→nx=numO o.atop∧ov=o.over∧rcells o.fr cs)→good 17 cs→All (arP 103 a o.a::pts c (rfRow cs)::R) h'→K nx ov h'
section
variable {a c : Nat} {A : Ar} {R : List Part} {h : GH} {K : CC} {w : Wh} {pc : Int} {opn won : Bool} {t q : Int}
theorem T_rentry{f:En}{opn:Bool}(hp:All (arP 103 a A::pts c (rfRow (ecells f opn))::R) h)(ok:f.ok)(ho:f.pc=3→opn=f.opn)
  (hK:RLeft a c (f.step q A) R fun nx ov h=> nx=0→K (.tuple #[.bool (f.step q A).good, .bool ov]) h):T Pg 218 [ptr c,ptr a] h K:=by
 apply S218_T
 unfold S218
 have hA:=(arP.at hp).2
 have hb:baseOf f.s=34 + f.s * 50:=rfl
 obtain ⟨s,g,e,t',q',pc,cell,was,opn'⟩:=f
 have hs:=ok.life
 have e0:=ok.e0
 have e1:=ok.e1
 have c0:=ok.c0
 have c1:=ok.c1
 have wr:=ok.was
 have pc1:=ok.pc1
 simp only at hs e0 e1 c0 c1 wr pc1 ho hb
 have s0:=hs.s0
 have s1:=hs.s1
 refine wk ?_
 refine T_rBase hs.s0 hs.s1 ?_
 have:pc=0∨pc=1∨pc=2∨pc=3:=by omega
 rcases this with rfl | rfl | rfl | rfl
 ·refine wk ?_
  refine L_refLoad' (i:=baseOf s + (2 + 3 * e + 0)) hp (by simp only;omega) (by omega) (by omega) fun h' hp=> ?_
  refine wk ?_
  refine T_rvalue (Ar.at_range hA _) ?_
  refine wk ?_
  refine st1 hp (rfRow (ecells ⟨s,g,e,t',q',0,valOf (A.at (baseOf s + (2 + 3 * e + 0))),was,opn'⟩ opn)) rfl (by simp) rfl rfl fun h' hp=> ?_
  unfold S218_j1
  refine wk ?_
  refine st1 hp (rfRow (ecells ⟨s,g,e,t',q',1,valOf (A.at (baseOf s + (2 + 3 * e + 0))),was,opn'⟩ opn)) rfl (by simp) rfl rfl fun h' hp=> ?_
  exact hK 0 false _ _ (fun _=> ⟨rfl,rfl,opn, .inl rfl,fun q=> by cases q⟩) ⟨rfl,rfl⟩ hp rfl
 ·refine wk ?_
  refine L_refLoad' (i:=baseOf s + (2 + 3 * e + 1)) hp (by simp only;omega) (by omega) (by omega) fun h' hp=> ?_
  refine wk ?_
  refine T_rvalue (Ar.at_range hA _) ?_
  refine wk ?_
  refine st1 hp (rfRow (ecells ⟨s,g,e,t',q',1,cell,A.at (baseOf s + (2 + 3 * e + 1)),opn'⟩ opn)) rfl (by simp) rfl rfl fun h' hp=> ?_
  unfold S218_j1
  refine wk ?_
  refine st1 hp (rfRow (ecells ⟨s,g,e,t',q',2,cell,A.at (baseOf s + (2 + 3 * e + 1)),opn'⟩ opn)) rfl (by simp) rfl rfl fun h' hp=> ?_
  refine hK 0 false _ _ (fun hg=> ⟨rfl,rfl,opn, .inl ?_,fun q=> by cases q⟩) ⟨rfl,rfl⟩ hp rfl
  have:=val_of_some (is_val (most:=1099511627775) hg).2
  simp only [ecells]
  rw [← this]
 ·refine wk ?_
  refine L_refLoad hp (by simp only;omega) (by simp only;omega) fun h' hp=> ?_
  refine wk ?_
  refine T_rstate hp (g:=g) rfl hs.g0 hs.g1 (Ar.at_range hA _) fun o n hon=> ?_
  refine wk ?_
  refine st1 hp (rfRow (ecells ⟨s,g,e,t',q',2,cell,was,opn'⟩ o)) rfl (by simp) rfl rfl fun h' hp=> ?_
  unfold S218_j1
  refine wk ?_
  refine st1 hp (rfRow (ecells ⟨s,g,e,t',q',3,cell,was,opn'⟩ o)) rfl (by simp) rfl rfl fun h' hp=> ?_
  exact hK 0 false _ _ (fun hg=> ⟨rfl,rfl,o, .inl rfl,fun _=> (hon hg).1⟩) ⟨rfl,rfl⟩ hp rfl
 ·refine wk ?_
  refine T_rsettle (s:=s) (g:=g) (cell:=cell) (was:=was) (opn:=opn) hp rfl rfl rfl rfl rfl hs c0 c1 wr fun h' hp=> ?_
  rw [ho rfl] at hp
  exact hK 0 true _ _ (fun hg=> ⟨rfl,rfl,opn', .inr ⟨rfl,rfl⟩,fun q=> by cases q⟩) ⟨rfl,rfl⟩ hp rfl
theorem T_rload(hp:All (arP 103 a A::pts c (rfRow (wcells w w.pc opn won))::R) h)(ok:w.ok)(hpc:w.pc=2∨w.pc=3∨w.pc=4∨w.pc=10∨w.pc=11∨w.pc=12)(hw:w.pc=0∨10≤w.pc∧w.pc≤13→won=w.won)
  (hK:RLeft a c (w.step t q A) R fun nx ov h=> nx=0→K (.tuple #[.bool (w.step t q A).good, .bool ov]) h):T Pg 241 [ptr c,ptr a,i64 (baseOf w.s)] h K:=by
 apply S241_T
 unfold S241
 have hA:=(arP.at hp).2
 have hb:baseOf w.s=34 + w.s * 50:=rfl
 obtain ⟨s,g,pc,i,k,cell,was,put,x,opn',won'⟩:=w
 have hs:=ok.life
 have i0:=ok.i0
 have i2:=ok.i2
 simp only at hpc hs i0 i2 hw hb
 have s0:=hs.s0
 have s1:=hs.s1
 rcases hpc with rfl | rfl | rfl | rfl | rfl | rfl
 ·refine wk ?_
  unfold S241_j1
  refine wk ?_
  refine L_refLoad hp (by simp only;omega) (by simp only;omega) fun h' hp=> ?_
  refine wk ?_
  refine T_rvalue (Ar.at_range hA _) ?_
  refine wk ?_
  refine st1 hp (rfRow (wcells ⟨s,g,2,i,valOf (A.at (baseOf s + 1)),cell,was,put,x,opn',won'⟩ 2 opn won)) rfl (by simp) rfl rfl fun h' hp=> ?_
  refine wk ?_
  refine st1 hp (rfRow (wcells ⟨s,g,2,0,valOf (A.at (baseOf s + 1)),cell,was,put,x,opn',won'⟩ 2 opn won)) rfl (by simp) rfl rfl fun h' hp=> ?_
  refine wk ?_
  refine st1 hp (rfRow (wcells ⟨s,g,3,0,valOf (A.at (baseOf s + 1)),cell,was,put,x,opn',won'⟩ 3 opn won)) rfl (by simp) rfl rfl fun h' hp=> ?_
  refine wk ?_
  refine ifV_cases (fun cz=> ?_) fun cz=> ?_
  ·refine wk ?_
   refine st1 hp (rfRow (wcells ⟨s,g,8,0,valOf (A.at (baseOf s + 1)),cell,was,put,x,opn',won'⟩ 8 opn won)) rfl (by simp) rfl rfl fun h' hp=> ?_
   unfold S241_j2
   refine wk ?_
   rw [decide_eq_true cz]
   refine wk ?_
   refine hK 0 false _ _ (fun _=> ⟨rfl,rfl,8,opn,won,?_, .inl ?_,?_,?_⟩) ⟨rfl,rfl⟩ hp rfl
   ·simp only [Wh.step]
   ·simp only [Wh.step];rw [if_pos cz];rfl
   ·simp only [Wh.step];rw [if_pos cz];intro e;cases e
   ·simp only [Wh.step];rw [if_pos cz];intro e;exfalso;omega
  ·unfold S241_j2
   refine wk ?_
   rw [decide_eq_false cz]
   refine wk ?_
   refine hK 0 false _ _ (fun _=> ⟨rfl,rfl,3,opn,won,?_, .inl ?_,?_,?_⟩) ⟨rfl,rfl⟩ hp rfl
   ·simp only [Wh.step]
   ·simp only [Wh.step];rw [if_neg cz];rfl
   ·simp only [Wh.step];rw [if_neg cz];intro e;cases e
   ·simp only [Wh.step];rw [if_neg cz];intro e;exfalso;omega
 ·refine wk ?_
  unfold S241_j1
  refine wk ?_
  unfold S241_j3
  have i2:=i2 (by decide) (by decide) (by decide) (by decide)
  refine wk ?_
  refine L_refLoad' (i:=baseOf s + (2 + 3 * i + 0)) hp (by simp only;omega) (by omega) (by omega) fun h' hp=> ?_
  refine wk ?_
  refine T_rvalue (Ar.at_range hA _) ?_
  refine wk ?_
  refine st1 hp (rfRow (wcells ⟨s,g,3,i,k,valOf (A.at (baseOf s + (2 + 3 * i + 0))),was,put,x,opn',won'⟩ 3 opn won)) rfl (by simp) rfl rfl fun h' hp=> ?_
  refine wk ?_
  refine st1 hp (rfRow (wcells ⟨s,g,3,i,k,valOf (A.at (baseOf s + (2 + 3 * i + 0))),was,put,x,opn',won'⟩ 4 opn won)) rfl (by simp) rfl rfl fun h' hp=> ?_
  exact hK 0 false _ _ (fun _=> ⟨rfl,rfl,4,opn,won,rfl, .inl rfl,(fun e=> by cases e),fun e=> by exfalso;simp only at e;omega⟩) ⟨rfl,rfl⟩ hp rfl
 ·refine wk ?_
  unfold S241_j1
  refine wk ?_
  unfold S241_j3
  have i2:=i2 (by decide) (by decide) (by decide) (by decide)
  refine wk ?_
  refine L_refLoad' (i:=baseOf s + (2 + 3 * i + 1)) hp (by simp only;omega) (by omega) (by omega) fun h' hp=> ?_
  refine wk ?_
  refine T_rvalue (Ar.at_range hA _) ?_
  refine wk ?_
  refine st1 hp (rfRow (wcells ⟨s,g,3,i,k,cell,A.at (baseOf s + (2 + 3 * i + 1)),put,x,opn',won'⟩ 4 opn won)) rfl (by simp) rfl rfl fun h' hp=> ?_
  refine wk ?_
  refine st1 hp (rfRow (wcells ⟨s,g,3,i,k,cell,A.at (baseOf s + (2 + 3 * i + 1)),put,x,opn',won'⟩ 5 opn won)) rfl (by simp) rfl rfl fun h' hp=> ?_
  refine hK 0 false _ _ (fun hg=> ⟨rfl,rfl,5,opn,won,?_, .inl rfl,(fun e=> by cases e),fun e=> by exfalso;simp only at e;omega⟩) ⟨rfl,rfl⟩ hp rfl
  have:=val_of_some (is_val (most:=1099511627775) hg).2
  simp only [wcells]
  rw [← this]
 ·refine wk ?_
  unfold S241_j1
  refine wk ?_
  refine L_refLoad hp (by simp only;omega) (by simp only;omega) fun h' hp=> ?_
  refine wk ?_
  refine T_rvalue (Ar.at_range hA _) ?_
  refine wk ?_
  refine st1 hp (rfRow (wcells ⟨s,g,2,i,valOf (A.at (baseOf s + 1)),cell,was,put,x,opn',won'⟩ 10 opn won)) rfl (by simp) rfl rfl fun h' hp=> ?_
  refine wk ?_
  refine st1 hp (rfRow (wcells ⟨s,g,2,0,valOf (A.at (baseOf s + 1)),cell,was,put,x,opn',won'⟩ 10 opn won)) rfl (by simp) rfl rfl fun h' hp=> ?_
  refine wk ?_
  refine st1 hp (rfRow (wcells ⟨s,g,3,0,valOf (A.at (baseOf s + 1)),cell,was,put,x,opn',won'⟩ 11 opn won)) rfl (by simp) rfl rfl fun h' hp=> ?_
  have fin:∀ {h'} (ov:Bool),ov=decide (valOf (A.at (baseOf s + 1))=0)→All (arP 103 a (A.ld (baseOf s + 1))::pts c (rfRow (wcells ⟨s,g,3,0,valOf (A.at (baseOf s + 1)),cell,was,put,x,opn',won'⟩ 11 opn won))::R) h'→K (.tuple #[.bool (isVal (A.at (baseOf s + 1)) 16), .bool ov]) h':=by
   intro h' ov eo hp
   exact hK 0 ov _ _ (fun _=> ⟨rfl,eo,11,opn,won,rfl, .inl rfl,(fun e=> by cases e),fun _=> hw (.inr ⟨by decide,by decide⟩)⟩) ⟨rfl,rfl⟩ hp rfl
  refine wk ?_
  refine ifV_cases (fun cz=> ?_) fun cz=> ?_
  ·refine wk ?_
   unfold S241_j2
   refine wk ?_
   rw [decide_eq_true cz]
   refine wk ?_
   exact fin _ (decide_eq_true cz).symm hp
  ·unfold S241_j2
   refine wk ?_
   rw [decide_eq_false cz]
   refine wk ?_
   exact fin _ (decide_eq_false cz).symm hp
 ·refine wk ?_
  unfold S241_j1
  refine wk ?_
  unfold S241_j3
  have i2:=i2 (by decide) (by decide) (by decide) (by decide)
  refine wk ?_
  refine L_refLoad' (i:=baseOf s + (2 + 3 * i + 0)) hp (by simp only;omega) (by omega) (by omega) fun h' hp=> ?_
  refine wk ?_
  refine T_rvalue (Ar.at_range hA _) ?_
  refine wk ?_
  refine st1 hp (rfRow (wcells ⟨s,g,3,i,k,valOf (A.at (baseOf s + (2 + 3 * i + 0))),was,put,x,opn',won'⟩ 11 opn won)) rfl (by simp) rfl rfl fun h' hp=> ?_
  refine wk ?_
  refine st1 hp (rfRow (wcells ⟨s,g,3,i,k,valOf (A.at (baseOf s + (2 + 3 * i + 0))),was,put,x,opn',won'⟩ 12 opn won)) rfl (by simp) rfl rfl fun h' hp=> ?_
  exact hK 0 false _ _ (fun _=> ⟨rfl,rfl,12,opn,won,rfl, .inl rfl,(fun e=> by cases e),fun _=> hw (.inr ⟨by decide,by decide⟩)⟩) ⟨rfl,rfl⟩ hp rfl
 ·refine wk ?_
  unfold S241_j1
  refine wk ?_
  unfold S241_j3
  refine wk ?_
  unfold S241_j4
  have i2:=i2 (by decide) (by decide) (by decide) (by decide)
  have hwn:won=won':=hw (.inr ⟨by decide,by decide⟩)
  have key:∀ (p j:Int),0 < p→p < 3→(p=if won'=true then 2 else 1)→j=baseOf s + (2 + 3 * i + p)→S241_j5 (ptr c) (ptr a) (i64 j) h K:=by
   intro p j p0 p3 e ej
   unfold S241_j5
   refine L_refLoad' (i:=baseOf s + (2 + 3 * i + p)) hp ej (by omega) (by omega) fun h' hp=> ?_
   refine wk ?_
   refine T_rvalue (Ar.at_range hA _) ?_
   refine wk ?_
   refine st1 hp (rfRow (wcells ⟨s,g,3,i,k,cell,was,put,A.at (baseOf s + (2 + 3 * i + p)),opn',won'⟩ 12 opn won)) rfl (by simp) rfl rfl fun h' hp=> ?_
   refine wk ?_
   refine st1 hp (rfRow (wcells ⟨s,g,3,i,k,cell,was,put,A.at (baseOf s + (2 + 3 * i + p)),opn',won'⟩ 13 opn won)) rfl (by simp) rfl rfl fun h' hp=> ?_
   subst e
   refine hK 0 false _ _ (fun hg=> ⟨rfl,rfl,13,opn,won,?_, .inl rfl,(fun e=> by cases e),fun _=> hwn⟩) ⟨rfl,rfl⟩ hp rfl
   have:=val_of_some (is_val (most:=1099511627775) hg).2
   simp only [wcells]
   rw [← this]
  refine wk ?_
  refine ifV_bool (fun cz=> ?_) fun cz=> ?_
  ·refine wk ?_
   exact key 2 _ (by decide) (by decide) (by rw [← hwn,if_pos cz]) (by simp only;omega)
  ·exact key 1 _ (by decide) (by decide) (by rw [← hwn,if_neg (by rw [cz];decide)]) (by simp only;omega)
end
end Go.Proofs.YtfphpafkhljncaaGreat
namespace Go.Proofs.YtfphpafkhljncaaGreat
open Go GW Go.Proofs
attribute [local irreducible] bnd ldV stV ifV binV eqI
set_option maxRecDepth 20000
section
variable {a c : Nat} {A : Ar} {R : List Part} {h : GH} {K : CC} {w : Wh} {pc : Int} {opn won : Bool} {t q : Int}
theorem Wh.step5(e:w.pc=5):w.step t q A=w.swapIn t q A:=by
 unfold Wh.step;rw [e];rfl
theorem mcas_number_inj{s g:Int}{x:Int}{f:Form}(hs:Life s g)(hr:read x=some f):(x=(Form.mcas s g).number) ↔ f= .mcas s g:=by
 have hm:=number_of_read hr
 have h2:(Form.mcas s g).may=true:=may_mcas.2 ⟨hs.s0,hs.s1,hs.g0,hs.g1⟩
 constructor
 ·intro e
  exact number_inj hm.1 h2 (by rw [hm.2.1];exact e)
 ·rintro rfl;exact hm.2.1.symm
theorem T_rfirst(hp:All (arP 103 a A::pts c (rfRow (wcells {w with put:=(Form.entry w.s w.g w.i t q).number} 5 opn won))::R) h)(hpc:w.pc=5)(ok:w.ok)(t0:0≤t)(t1:t < 4)(q0:0≤q)(q1:q < 1048576)
  (hK:RLeft a c (w.step t q A) R fun nx ov h=> K (.tuple #[i64 nx, .bool (w.step t q A).good, .bool ov]) h):T Pg 238 [ptr c,ptr a] h K:=by
 apply S238_T
 unfold S238
 have i2:=ok.i2 (by rw [hpc];decide) (by rw [hpc];decide) (by rw [hpc];decide) (by rw [hpc];decide)
 have i0:=ok.i0
 have i1:=ok.i1
 have hn:=entry_range ok.life i0 i2 t0 t1 q0 q1
 have hA:=(arP.at hp).2
 have hx:=Ar.at_range hA w.cell
 rw [Wh.step5 hpc] at hK
 unfold Wh.swapIn at hK
 refine wk ?_
 refine L_refSwap hp (by simp only;exact ok.c0) (by simp only;exact Int.lt_trans ok.c1 (by decide)) hn fun h' hp=> ?_
 refine wk ?_
 refine T_GetWord hx.2 ?_
 refine wk ?_
 refine nwst hp (.row 225 (wOf (A.at w.cell)).enc 7 true) rfl rfl rfl (by rfl) fun d h' hp=> ?_
 refine wk ?_
 refine ifV_cases (fun cz=> ?_) fun cz=> ?_
 ·simp only [if_pos cz] at hK
  refine wk ?_
  refine st2 hp (rfRow (wcells {w with put:=(Form.entry w.s w.g w.i t q).number} 6 opn won)) rfl (by simp) rfl rfl fun h' hp=> ?_
  exact hK 0 false _ _ (fun _=> ⟨rfl,rfl,6,opn,won,rfl, .inl rfl,(fun e=> by cases e),fun e=> by exfalso;simp only at e;omega⟩) ⟨rfl,rfl⟩ hp.tail
 simp only [if_neg cz] at hK
 cases hr:read (A.at w.cell) with
 | none=>
   rw [hr] at hK
   have e0:eOf (A.at w.cell)=100:=by unfold eOf;rw [hr]
   rw [e0]
   refine wk ?_
   exact hK 0 false _ _ (fun e=> by cases e) ⟨rfl,rfl⟩ hp.tail
 | some f=>
   rw [hr] at hK
   have hm:=number_of_read hr
   have e0:eOf (A.at w.cell)=0:=by unfold eOf;rw [hr]
   have ew:wOf (A.at w.cell)=f.plain:=by unfold wOf;rw [hr]
   rw [ew] at hp
   rw [e0]
   refine wk ?_
   refine T_rmine hp.tail rfl rfl ok.life ?_
   refine wk ?_
   refine ifV_cases (fun c1=> ?_) fun c1=> ?_
   ·have ef:=(mcas_number_inj ok.life hr).1 c1
    subst ef
    simp only [and_self,if_true] at hK
    refine T_rnext (w:={w with put:=(Form.entry w.s w.g w.i t q).number}) (more:=3) (stop:=8) (hp.re 3 [2,1]) i0 i1 fun h' hp=> ?_
    refine hK 0 false _ _ (fun _=> ⟨rfl,rfl,_,opn,won,rfl, .inl rfl,?_,?_⟩) ⟨rfl,rfl⟩ (hp.up 1)
    ·intro e;exfalso;revert e;simp only [Wh.next];split <;> (intro e;cases e)
    ·intro e;exfalso;revert e;simp only [Wh.next];split <;> (intro e;omega)
   have ef:f ≠ .mcas w.s w.g:=fun e=> c1 ((mcas_number_inj ok.life hr).2 e)
   cases f with
   | val v=>
     refine wk ?_
     refine st2 hp (rfRow (wcells {w with put:=(Form.entry w.s w.g w.i t q).number} 9 opn won)) rfl (by simp) rfl rfl fun h' hp=> ?_
     exact hK 0 false _ _ (fun _=> ⟨rfl,rfl,9,opn,won,rfl, .inl rfl,(fun e=> by cases e),fun e=> by exfalso;simp only at e;omega⟩) ⟨rfl,rfl⟩ hp.tail
   | entry s' g' e' t' q'=>
     refine wk ?_
     exact hK _ false _ _ (fun _=> ⟨hm.2.1.symm,rfl,5,opn,won,rfl, .inl (by simp only [hpc];rfl),(fun e=> by simp only [hpc] at e;cases e),fun e=> by exfalso;simp only [hpc] at e;omega⟩) ⟨rfl,rfl⟩ hp.tail
   | mcas s' g'=>
     have hn:¬ (s'=w.s∧g'=w.g):=fun ⟨e1,e2⟩=> ef (by rw [e1,e2])
     simp only [if_neg hn] at hK
     refine wk ?_
     refine st2 hp (rfRow (wcells {w with put:=(Form.entry w.s w.g w.i t q).number,x:=A.at w.cell} 5 opn won)) rfl (by simp) rfl rfl fun h' hp=> ?_
     refine wk ?_
     refine st2 hp (rfRow (wcells {w with put:=(Form.entry w.s w.g w.i t q).number,x:=A.at w.cell} 14 opn won)) rfl (by simp) rfl rfl fun h' hp=> ?_
     exact hK 0 false _ _ (fun _=> ⟨rfl,rfl,14,opn,won,rfl, .inl rfl,(fun e=> by cases e),fun e=> by exfalso;simp only at e;omega⟩) ⟨rfl,rfl⟩ hp.tail
theorem T_rhelp(hp:All (arP 103 a A::pts c (rfRow (wcells (if w.pc=5 then {w with put:=(Form.entry w.s w.g w.i t q).number} else w) pc opn won))::R) h)(ok:w.ok)(t0:0≤t)(t1:t < 4)(q0:0≤q)(q1:q < 1048576)
  (h1:pc=w.pc∨pc=0∧w.pc=1) (h2:w.pc=7→opn=w.opn) (h3:w.pc=0∨10≤w.pc∧w.pc≤13→won=w.won)
  (hK:RLeft a c (w.step t q A) R fun nx ov h=> K (.tuple #[i64 nx, .bool (w.step t q A).good, .bool ov]) h):T Pg 219 [ptr c,ptr a] h K:=by
 apply S219_T
 unfold S219
 have hA:=(arP.at hp).2
 have hs:=ok.life
 have s0:=hs.s0
 have s1:=hs.s1
 have hb:baseOf w.s=34 + w.s * 50:=rfl
 have p1:=ok.pc1
 have p0:=ok.pc0
 by_cases h5:w.pc=5
 ·rw [if_pos h5] at hp
  have e:pc=5:=by omega
  subst e
  refine wk ?_
  refine T_rBase s0 s1 ?_
  refine wk ?_
  unfold S219_j1
  refine wk ?_
  refine T_rfirst hp h5 ok t0 t1 q0 q1 ?_
  intro nx ov cs h' e1 e2 hp
  refine wk ?_
  exact hK nx ov cs _ e1 e2 hp
 rw [if_neg h5] at hp
 have i0:=ok.i0
 have i1:=ok.i1
 have c0:=ok.c0
 have c1:=ok.c1
 have wr:=ok.was
 have xr:=ok.x
 by_cases hl:w.pc=2∨w.pc=3∨w.pc=4∨w.pc=10∨w.pc=11∨w.pc=12
 ·have e:pc=w.pc:=by omega
  subst e
  refine wk ?_
  refine T_rBase s0 s1 ?_
  refine wk ?_
  have j4:S219_j4 (ptr c) (ptr a) (i64 (baseOf w.s)) h K:=by
   unfold S219_j4
   refine T_rload (t:=t) (q:=q) hp ok hl h3 ?_
   intro nx ov cs h' e1 e2 hp en
   refine wk ?_
   subst en
   exact hK 0 ov cs _ e1 e2 hp
  rw [decide_eq_false (show ¬ ((w.pc:Int)=0) by omega)]
  refine wk ?_
  rw [decide_eq_false (show ¬ ((w.pc:Int)=1) by omega)]
  unfold S219_j1
  refine wk ?_
  rw [decide_eq_false (show ¬ ((w.pc:Int)=5) by omega)]
  refine wk ?_
  rw [decide_eq_false (show ¬ ((w.pc:Int)=6) by omega)]
  refine wk ?_
  rw [decide_eq_false (show ¬ ((w.pc:Int)=7) by omega)]
  refine wk ?_
  rw [decide_eq_false (show ¬ ((w.pc:Int)=8) by omega)]
  refine wk ?_
  rw [decide_eq_false (show ¬ ((w.pc:Int)=9) by omega)]
  unfold S219_j2
  refine wk ?_
  rw [decide_eq_false (show ¬ ((w.pc:Int)=13) by omega)]
  refine wk ?_
  rw [decide_eq_false (show ¬ ((w.pc:Int)=14) by omega)]
  refine wk ?_
  exact j4
 obtain ⟨s,g,wpc,i,k,cell,was,put,x,opn',won'⟩:=w
 simp only at hs s0 s1 hb p1 p0 h5 i0 i1 c0 c1 wr xr hl h1 h2 h3
 have:wpc=1∨wpc=6∨wpc=7∨wpc=8∨wpc=9∨wpc=13∨wpc=14:=by omega
 rcases this with rfl | rfl | rfl | rfl | rfl | rfl | rfl
 ·have key:∀ v:Value,S219_j1 (ptr c) (ptr a) (i64 (baseOf s)) v (.bool true) h K:=by
   intro v
   unfold S219_j1
   refine wk ?_
   refine L_refLoad hp (by (first | omega | (simp only;omega))) (by (first | omega | (simp only;omega))) fun h' hp=> ?_
   refine wk ?_
   refine T_rstate hp (g:=g) rfl hs.g0 hs.g1 (Ar.at_range hA _) fun o n hon=> ?_
   refine wk ?_
   refine st1 hp (rfRow (wcells ⟨s,g,1,i,k,cell,was,put,x,opn',won'⟩ pc opn n)) rfl (by simp) rfl rfl fun h' hp=> ?_
   refine wk ?_
   refine st1 hp (rfRow (wcells ⟨s,g,1,i,k,cell,was,put,x,opn',won'⟩ 10 opn n)) rfl (by simp) rfl rfl fun h' hp=> ?_
   refine ifV_bool (fun co=> ?_) fun co=> ?_
   ·refine wk ?_
    refine st1 hp (rfRow (wcells ⟨s,g,1,i,k,cell,was,put,x,opn',won'⟩ 2 opn n)) rfl (by simp) rfl rfl fun h' hp=> ?_
    refine hK 0 false _ _ (fun hg=> ⟨rfl,rfl,2,opn,n,rfl, .inl ?_,?_,?_⟩) ⟨rfl,rfl⟩ hp
    ·have:=(hon hg).1;rw [co] at this;simp only [Wh.step];rw [← this];rfl
    ·have:=(hon hg).1;rw [co] at this;simp only [Wh.step];rw [← this];intro e;cases e
    ·have:=(hon hg).1;rw [co] at this;simp only [Wh.step];rw [← this];intro e;simp at e
   ·refine hK 0 false _ _ (fun hg=> ⟨rfl,rfl,10,opn,n,rfl, .inl ?_,?_,?_⟩) ⟨rfl,rfl⟩ hp
    ·have:=(hon hg).1;rw [co] at this;simp only [Wh.step];rw [← this];rfl
    ·have:=(hon hg).1;rw [co] at this;simp only [Wh.step];rw [← this];intro e;cases e
    ·intro _;exact (hon hg).2
  rcases h1 with rfl | ⟨rfl,_⟩
  ·refine wk ?_
   refine T_rBase s0 s1 ?_
   refine wk ?_
   exact key _
  ·refine wk ?_
   refine T_rBase s0 s1 ?_
   refine wk ?_
   exact key _
 ·have e:pc=6:=by omega
  subst e
  refine wk ?_
  refine T_rBase s0 s1 ?_
  refine wk ?_
  unfold S219_j1
  refine wk ?_
  refine L_refLoad hp (by (first | omega | (simp only;omega))) (by (first | omega | (simp only;omega))) fun h' hp=> ?_
  refine wk ?_
  refine T_rstate hp (g:=g) rfl hs.g0 hs.g1 (Ar.at_range hA _) fun o n hon=> ?_
  refine wk ?_
  refine st1 hp (rfRow (wcells ⟨s,g,6,i,k,cell,was,put,x,opn',won'⟩ 6 o won)) rfl (by simp) rfl rfl fun h' hp=> ?_
  refine wk ?_
  refine st1 hp (rfRow (wcells ⟨s,g,7,i,k,cell,was,put,x,opn',won'⟩ 7 o won)) rfl (by simp) rfl rfl fun h' hp=> ?_
  exact hK 0 false _ _ (fun hg=> ⟨rfl,rfl,7,o,won,rfl, .inl rfl,fun _=> (hon hg).1,fun e=> by exfalso;simp only at e;omega⟩) ⟨rfl,rfl⟩ hp
 ·have e:pc=7:=by omega
  subst e
  have eo:=h2 rfl
  subst eo
  refine wk ?_
  refine T_rBase s0 s1 ?_
  refine wk ?_
  unfold S219_j1
  refine wk ?_
  refine T_rsettle (s:=s) (g:=g) (cell:=cell) (was:=was) (opn:=opn) hp rfl rfl rfl rfl rfl hs c0 c1 wr fun h' hp=> ?_
  refine T_rnext (w:=⟨s,g,7,i,k,cell,was,put,x,opn,won'⟩) (more:=3) (stop:=8) (hp.up 1) i0 i1 fun h' hp=> ?_
  refine hK 0 false _ _ (fun _=> ⟨rfl,rfl,_,opn,won,rfl, .inl rfl,?_,?_⟩) ⟨rfl,rfl⟩ (hp.up 1)
  ·intro e;exfalso;revert e;simp only [Wh.next];split <;> (intro e;cases e)
  ·intro e;exfalso;revert e;simp only [Wh.next];split <;> (intro e;omega)
 ·have e:pc=8:=by omega
  subst e
  refine wk ?_
  refine T_rBase s0 s1 ?_
  refine wk ?_
  unfold S219_j1
  refine wk ?_
  unfold S219_j2
  refine wk ?_
  unfold S219_j3
  refine wk ?_
  refine T_rState hs.g0 hs.g1 (by decide) (by decide) ?_
  refine wk ?_
  refine T_rState hs.g0 hs.g1 (by decide) (by decide) ?_
  refine L_refSwap hp (by (first | omega | (simp only;omega))) (by (first | omega | (simp only;omega))) (stateW_range hs.g0 hs.g1 (by decide) (by decide)) fun h' hp=> ?_
  refine wk ?_
  refine st1 hp (rfRow (wcells ⟨s,g,8,i,k,cell,was,put,x,opn',won'⟩ 1 opn won)) rfl (by simp) rfl rfl fun h' hp=> ?_
  exact hK 0 false _ _ (fun _=> ⟨rfl,rfl,1,opn,won,rfl, .inl rfl,(fun e=> by cases e),fun e=> by exfalso;simp only at e;omega⟩) ⟨rfl,rfl⟩ hp
 ·have e:pc=9:=by omega
  subst e
  refine wk ?_
  refine T_rBase s0 s1 ?_
  refine wk ?_
  unfold S219_j1
  refine wk ?_
  unfold S219_j2
  refine wk ?_
  unfold S219_j3
  refine wk ?_
  refine T_rState hs.g0 hs.g1 (by decide) (by decide) ?_
  refine wk ?_
  refine T_rState hs.g0 hs.g1 (by decide) (by decide) ?_
  refine L_refSwap hp (by (first | omega | (simp only;omega))) (by (first | omega | (simp only;omega))) (stateW_range hs.g0 hs.g1 (by decide) (by decide)) fun h' hp=> ?_
  refine wk ?_
  refine st1 hp (rfRow (wcells ⟨s,g,9,i,k,cell,was,put,x,opn',won'⟩ 1 opn won)) rfl (by simp) rfl rfl fun h' hp=> ?_
  exact hK 0 false _ _ (fun _=> ⟨rfl,rfl,1,opn,won,rfl, .inl rfl,(fun e=> by cases e),fun e=> by exfalso;simp only at e;omega⟩) ⟨rfl,rfl⟩ hp
 ·have e:pc=13:=by omega
  subst e
  refine wk ?_
  refine T_rBase s0 s1 ?_
  refine wk ?_
  unfold S219_j1
  refine wk ?_
  unfold S219_j2
  refine wk ?_
  refine T_rmine hp rfl rfl hs ?_
  refine wk ?_
  refine L_refSwap hp (by (first | omega | (simp only;omega))) (by (first | omega | (simp only;omega))) xr fun h' hp=> ?_
  refine T_rnext (w:=⟨s,g,13,i,k,cell,was,put,x,opn',won'⟩) (more:=11) (stop:=0) (hp.up 1) i0 i1 fun h' hp=> ?_
  refine wk ?_
  refine hK 0 _ _ _ (fun _=> ⟨rfl,?_,_,opn,won,rfl, .inl rfl,?_,?_⟩) ⟨rfl,rfl⟩ (hp.up 1)
  ·refine decide_eq_decide.2 ?_
   simp only [Wh.next]
   split <;> simp_all
  ·intro e;exfalso;revert e;simp only [Wh.next];split <;> (intro e;cases e)
  ·intro _;exact h3 (.inr ⟨by decide,by decide⟩)
 ·have e:pc=14:=by omega
  subst e
  refine wk ?_
  refine T_rBase s0 s1 ?_
  refine wk ?_
  unfold S219_j1
  refine wk ?_
  unfold S219_j2
  refine wk ?_
  refine L_refLoad hp (by (first | omega | (simp only;omega))) (by (first | omega | (simp only;omega))) fun h' hp=> ?_
  refine wk ?_
  refine T_rstate hp (g:=g) rfl hs.g0 hs.g1 (Ar.at_range hA _) fun o n hon=> ?_
  have eg:((Wh.mk s g 14 i k cell was put x opn' won').step t q A).good=(plainOf (A.at (baseOf s))).isSome∧((Wh.mk s g 14 i k cell was put x opn' won').step t q A).a=A.ld (baseOf s):=by
   simp only [Wh.step];split <;> exact ⟨rfl,rfl⟩
  refine wk ?_
  refine ifV_bool (fun co=> ?_) fun co=> ?_
  ·refine wk ?_
   refine st1 hp (rfRow (wcells ⟨s,g,14,i,k,cell,was,put,x,opn',won'⟩ 5 opn won)) rfl (by simp) rfl rfl fun h' hp=> ?_
   refine wk ?_
   have:=hK x false (wcells ⟨s,g,14,i,k,cell,was,put,x,opn',won'⟩ 5 opn won) h' (fun hg=> ?_) ⟨rfl,rfl⟩ (by rw [eg.2];exact hp)
   ·rw [eg.1] at this;exact this
   ·rw [eg.1] at hg
    have h0:=(hon hg).1
    rw [co] at h0
    obtain ⟨s',g',hr⟩:=ok.ref rfl
    simp only at hr
    simp only [Wh.step]
    rw [if_pos h0.symm]
    exact ⟨by rw [hr];exact (number_of_read hr).2.1.symm,rfl,5,opn,won,rfl, .inl rfl,(fun e=> by cases e),fun e=> by exfalso;simp only at e;omega⟩
  ·refine wk ?_
   refine st1 hp (rfRow (wcells ⟨s,g,14,i,k,cell,was,put,x,opn',won'⟩ 14 opn n)) rfl (by simp) rfl rfl fun h' hp=> ?_
   refine wk ?_
   refine st1 hp (rfRow (wcells ⟨s,g,14,i,k,cell,was,put,x,opn',won'⟩ 10 opn n)) rfl (by simp) rfl rfl fun h' hp=> ?_
   have:=hK 0 false (wcells ⟨s,g,14,i,k,cell,was,put,x,opn',won'⟩ 10 opn n) h' (fun hg=> ?_) ⟨rfl,rfl⟩ (by rw [eg.2];exact hp)
   ·rw [eg.1] at this;exact this
   ·rw [eg.1] at hg
    have h0:=(hon hg).1
    rw [co] at h0
    simp only [Wh.step]
    rw [if_neg (by rw [← h0];decide)]
    exact ⟨rfl,rfl,10,opn,n,rfl, .inl rfl,(fun e=> by cases e),fun _=> (hon hg).2⟩
end
end Go.Proofs.YtfphpafkhljncaaGreat
namespace Go.Proofs.YtfphpafkhljncaaGreat
open Go GW Go.Proofs
attribute [local irreducible] bnd ldV stV ifV binV eqI
set_option maxRecDepth 20000
abbrev rhRow(H:Help)(sv:VV):GObj:= .row 286 [i64 H.t,i64 H.q,sv, .bool H.won,i64 H.slot,i64 H.gen, .bool H.over] 7 true
inductive Each2{α β:Type}(P:α→β→Prop):List α→List β→Prop
 | nil:Each2 P [] []
 | cons {a b l m}:P a b→Each2 P l m→Each2 P (a::l) (b::m)
theorem Each2.len{α β:Type}{P:α→β→Prop}{l:List α}{m:List β}(h:Each2 P l m):l.length=m.length:=by
 induction h with
 | nil=> rfl
 | cons _ _ ih=> simp [ih]
def rstkP(sv:VV)(H:Help):Part:=fun h=> H.over=false→∃ c cs,(rcells H.top c∧Each2 rcells H.rest cs)∧rowP 17 sv (cs.reverse ++ [c]) h
def rhelpP(b:Nat)(H:Help):Part:=fun h=> ∃ sv,All [pts b (rhRow H sv),rstkP sv H] h
section
variable {a b c : Nat} {A : Ar} {R : List Part} {h : GH} {K : CC} {H : Help}
theorem rhelpP_shut{sv:VV}{P:Part}{H':Help}(hp:All (P::pts b (rhRow H' sv)::R) h)(e:H'.over=true):All (P::rhelpP b H'::R) h:=by
 refine hp.mono2 fun _ z=> ?_
 have h1:All (pts b (rhRow H' sv)::rstkP sv H'::R) _:=z.mono2 fun _ z=> All.emp_cons z fun q=> by rw [e] at q;cases q
 exact (All.fold (l:= [_,_]) h1).head fun h1 z=> ⟨sv,z⟩
theorem rhelpP_shut2{sv:VV}{P:Part}{H':Help}{c:List Value}{cs:List (List Value)}(hp:All (P::pts b (rhRow H' sv)::rowP 17 sv (cs.reverse ++ [c])::R) h)(e1:rcells H'.top c)(e2:Each2 rcells H'.rest cs):All (P::rhelpP b H'::R) h:=by
 refine hp.mono2 fun _ z=> ?_
 have h1:All (pts b (rhRow H' sv)::rstkP sv H'::R) _:=z.mono2 fun _ z=> z.head fun _ z _=> ⟨c,cs,⟨e1,e2⟩,z⟩
 exact (All.fold (l:= [_,_]) h1).head fun h1 z=> ⟨sv,z⟩
theorem Each2.cons_inv{α β:Type}{P:α→β→Prop}{a:α}{l:List α}{m:List β}(h:Each2 P (a::l) m):∃ b m',m=b::m'∧P a b∧Each2 P l m':=by
 cases h with
 | cons p q=> exact ⟨_,_,rfl,p,q⟩
theorem number_ne{f:Form}(hm:f.may=true)(hv:newFr f ≠ none):f.number ≠ 0:=by
 cases f with
 | val v=> exact absurd rfl hv
 | mcas s g=> simp only [Form.number];omega
 | entry s g e t q=> simp only [Form.number];omega
theorem newFr_cells{f:Form}{fr:Fr}(e:newFr f=some fr):∃ c,rcells fr c∧fillV (List.replicate 14 (i64 0) ++ [.bool false, .bool false, .int .i64 0]) [(0,7, .agg f.plain.enc.toArray),(7,1,i64 f.number)]=some c:=by
 cases f with
 | val v=> cases e
 | mcas s g=> cases e;exact ⟨wcells (.new s g) 0 false false,⟨0,false,false,rfl, .inr ⟨rfl,rfl⟩,fun q=> (by cases q),fun _=> rfl⟩,rfl⟩
 | entry s g e' t q=> cases e;exact ⟨ecells (.new s g e' t q) false,⟨false, .inl rfl,fun q=> (by cases q)⟩,rfl⟩
theorem T_rend{o:Out}{sv:VV}{c0:List Value}{cs:List (List Value)}{ct:List Value}{nx:Int}{ov:Bool}{slot gen:Int}
  (hp:All (pts b (rhRow {H with q:=o.q,slot:=slot,gen:=gen} sv)::pts c (rfRow c0)::arP 103 a o.a::rowP 17 sv (cs.reverse ++ [ct])::R) h) (hc:H.over=false) (hr:Each2 rcells H.rest cs) (hl:H.rest.length < 18)
  (e1:o.good=true→nx=numO o.atop∧ov=o.over∧rcells o.fr c0) (hat:∀ f,o.atop=some f→f.may=true∧newFr f ≠ none) (hov:o.over=true→o.atop=none) (hpc:o.over=true→∀ w,o.fr= .who w→w.pc=0∨w.pc=11) (gd:good 17 c0)
  (es:slot=H.top.s) (eg:gen=H.top.g)
  (hK:∀ h',All (arP 103 a o.a::rhelpP b (H.take o).1::R) h'→K (.tuple #[.bool (H.take o).1.over,i64 (H.take o).2]) h'):S197_j1 (ptr b) (i64 cs.length) (ptr c) (.bool o.good) (.bool ov) (i64 nx) h K:=by
 subst es eg
 unfold S197_j1
 have hlen:(cs.reverse ++ [ct]).length=cs.length + 1:=by simp
 have hv:(cs.reverse ++ [ct])[cs.length]?=some ct:=by simp
 have hq:All (rowP 17 sv (cs.reverse ++ [ct])::pts b (rhRow {H with q:=o.q,slot:=H.top.s,gen:=H.top.g} sv)::pts c (rfRow c0)::arP 103 a o.a::R) h:=hp.up 3
 obtain ⟨d,el,_,_,est⟩:=hq.elt hv .i64
 refine wk ?_
 refine la1 hp (c:=c0) (by simp [gd.1]) (by rw [List.drop_zero, ← gd.1,List.take_length]) ?_
 refine bnd_of el ?_
 obtain ⟨h1,e,hq⟩:=est 0 17 (.agg c0.toArray) gd.1 (by decide) gd.2
 refine bnd_of e ?_
 have e3:(cs.reverse ++ [ct]).set cs.length (setCells ct 0 (Value.agg c0.toArray).cells.toList)=cs.reverse ++ [c0]:=by
  have hct:ct.length=17:=(hp.up 3 |> fun z=> (All.row z).good.1 ct (by simp)).1
  rw [show (Value.agg c0.toArray).cells.toList=c0 from rfl,setCells_all (by rw [gd.1,hct]),List.set_append_right _ _ (by simp)]
  simp
 rw [e3] at hq
 clear hp
 cases hg:o.good with
 | false=>
   have e:H.take o=({H with q:=o.q,top:=o.fr,slot:=H.top.s,gen:=H.top.g,over:=true},1400):=by unfold Help.take;rw [if_pos hg]
   rw [e] at hK
   have hp:=hq
   refine wk ?_
   refine st1 hp (rhRow {H with q:=o.q,slot:=H.top.s,gen:=H.top.g,over:=true} sv) rfl (by simp) rfl rfl fun h2 hp=> ?_
   exact hK _ (rhelpP_shut (sv:=sv) (hp.re 4 [3,1]) rfl)
 | true=>
   obtain ⟨en,eo,ec⟩:=e1 hg
   subst en eo
   cases ha:o.atop with
   | none=>
     have hp:=hq
     refine wk ?_
     unfold S197_j2
     refine wk ?_
     unfold S197_j3
     cases hov2:o.over with
     | false=>
       have e:H.take o=({H with q:=o.q,top:=o.fr,slot:=H.top.s,gen:=H.top.g},0):=by
        unfold Help.take;rw [if_neg (by rw [hg];decide),ha];simp only [hov2];rfl
       rw [e] at hK
       refine wk ?_
       exact hK _ (rhelpP_shut2 (H':={H with q:=o.q,top:=o.fr,slot:=H.top.s,gen:=H.top.g}) (sv:=sv) (c:=c0) (cs:=cs) (hp.re 4 [3,1,0]) ec hr)
     | true=>
       obtain ⟨wv,ew,ewv⟩:∃ wv:Bool,c0[15]?=some (.bool wv)∧wv=o.fr.won:=by
        cases ef:o.fr with
        | who w=>
          rw [ef] at ec
          obtain ⟨pc,opn,won,rfl,_,_,e3⟩:=ec
          exact ⟨won,rfl,e3 ((hpc hov2 w ef).imp id fun q=> by omega)⟩
        | ent f=>
          rw [ef] at ec
          obtain ⟨opn,rfl | ⟨_,rfl⟩,_⟩:=ec <;> exact ⟨false,rfl,rfl⟩
       refine wk ?_
       refine ld2 hp ew ?_
       have j4:∀ {h2:GH} {u:Bool},u=(wv && decide ((cs.length:Int)=0))→All (rowP 17 sv (cs.reverse ++ [c0])::pts b (rhRow {H with q:=o.q,slot:=H.top.s,gen:=H.top.g,won:=u} sv)::pts c (rfRow c0)::arP 103 a o.a::R) h2→S197_j4 (ptr b) (i64 cs.length) h2 K:=by
        intro h2 u eu hp
        unfold S197_j4
        refine wk ?_
        obtain ⟨sv',esl,hp⟩:=hp.cut (n:=cs.length) (by simp) .i64
        refine bnd_of esl ?_
        rw [List.take_left' (by simp)] at hp
        obtain ⟨sa,sc,_,rfl,_⟩:=hp.row
        refine wk ?_
        refine st1 hp (rhRow {H with q:=o.q,slot:=H.top.s,gen:=H.top.g,won:=u} (.slice sa cs.reverse.length sc)) rfl (by simp) rfl rfl fun h3 hp=> ?_
        refine wk ?_
        refine st1 hp (rhRow {H with q:=o.q,slot:=H.top.s,gen:=H.top.g,won:=u,over:=decide ((cs.length:Int)=0)} (.slice sa cs.reverse.length sc)) rfl (by simp) rfl rfl fun h3 hp=> ?_
        refine wk ?_
        cases hr2:H.rest with
        | nil=>
          rw [hr2] at hr
          cases hr
          have e:H.take o=({H with q:=o.q,top:=o.fr,slot:=H.top.s,gen:=H.top.g,won:=o.fr.won,over:=true},0):=by
           unfold Help.take;rw [if_neg (by rw [hg];decide),ha];simp only [hov2,hr2];rfl
          rw [e] at hK
          have eu2:u=o.fr.won:=by rw [eu,ewv];simp
          subst eu2
          exact hK _ (rhelpP_shut (H':={H with q:=o.q,top:=o.fr,slot:=H.top.s,gen:=H.top.g,won:=o.fr.won,over:=true}) (hp.re 4 [3,1]) rfl)
        | cons r rs=>
          rw [hr2] at hr
          obtain ⟨c1,cs1,rfl,r1,r2⟩:=hr.cons_inv
          have e:H.take o=({H with q:=o.q,top:=r,rest:=rs,slot:=H.top.s,gen:=H.top.g,won:=false},0):=by
           unfold Help.take;rw [if_neg (by rw [hg];decide),ha];simp only [hov2,hr2];rfl
          rw [e] at hK
          have d0:decide (((c1::cs1).length:Int)=0)=false:=decide_eq_false (by simp only [List.length_cons];omega)
          rw [d0,Bool.and_false] at eu
          subst eu
          rw [List.reverse_cons] at hp
          rw [d0] at hp ⊢
          have er:rhRow {H with q:=o.q,slot:=H.top.s,gen:=H.top.g,won:=false,over:=false} (.slice sa (cs1.reverse ++ [c1]).length sc)=rhRow {H with q:=o.q,top:=r,rest:=rs,slot:=H.top.s,gen:=H.top.g,won:=false} (.slice sa (cs1.reverse ++ [c1]).length sc):=by simp only [hc]
          rw [er] at hp
          have:=hK _ (rhelpP_shut2 (H':={H with q:=o.q,top:=r,rest:=rs,slot:=H.top.s,gen:=H.top.g,won:=false}) (c:=c1) (cs:=cs1) (hp.re 4 [3,1,0]) r1 r2)
          simp only [hc] at this
          exact this
       refine ifV_bool (fun cw=> ?_) fun cw=> ?_
       ·subst cw
        refine wk ?_
        refine st1 hp (rhRow {H with q:=o.q,slot:=H.top.s,gen:=H.top.g,won:=decide ((cs.length:Int)=0)} sv) rfl (by simp) rfl rfl fun h2 hp=> ?_
        exact j4 (by simp) hp
       ·subst cw
        refine wk ?_
        refine st1 hp (rhRow {H with q:=o.q,slot:=H.top.s,gen:=H.top.g,won:=false} sv) rfl (by simp) rfl rfl fun h2 hp=> ?_
        exact j4 (by simp) hp
   | some f=>
     obtain ⟨hm,hv⟩:=hat f ha
     have ho:o.over=false:=by
      cases e:o.over with
      | false=> rfl
      | true=> rw [hov e] at ha;cases ha
     obtain ⟨fr,hfr⟩:∃ fr,newFr f=some fr:=by
      cases e:newFr f with
      | none=> exact absurd e hv
      | some fr=> exact ⟨fr,rfl⟩
     have hp:=hq
     rw [ha] at e1
     have hnz:¬ (numO (some f)=0):=number_ne hm hv
     have hb:o.atop.bind newFr=some fr:=by rw [ha];exact hfr
     refine wk ?_
     refine ifN_cases (fun _=> ?_) fun q=> absurd q hnz
     refine wk ?_
     refine bnd_of hp.len ?_
     refine wk ?_
     have hl2:(cs.reverse ++ [c0]).length=H.rest.length + 1:=by simp [hr.len]
     refine ifV_cases (fun c18=> ?_) fun c18=> ?_
     ·refine wk ?_
      refine st1 hp (rhRow {H with q:=o.q,slot:=H.top.s,gen:=H.top.g,over:=true} sv) rfl (by simp) rfl rfl fun h2 hp=> ?_
      have e:H.take o=({H with q:=o.q,top:=o.fr,slot:=H.top.s,gen:=H.top.g,over:=true},1400):=by
       unfold Help.take;rw [if_neg (by rw [hg];decide),hb];simp only;rw [if_pos (by omega)]
      rw [e] at hK
      exact hK _ (rhelpP_shut (H':={H with q:=o.q,top:=o.fr,slot:=H.top.s,gen:=H.top.g,over:=true}) (hp.re 4 [3,1]) rfl)
     ·have e:H.take o=({H with q:=o.q,rest:=o.fr::H.rest,top:=fr,slot:=H.top.s,gen:=H.top.g},0):=by
       unfold Help.take;rw [if_neg (by rw [hg];decide),hb];simp only;rw [if_neg (by omega)]
      rw [e] at hK
      simp only at hK
      have hrd:=read_number hm
      unfold S197_j2
      refine wk ?_
      refine ifN_cases (fun _=> ?_) fun q=> absurd q hnz
      have hx:I64 f.number:=by
       cases f with
       | val v=> cases hfr
       | mcas s g=> rw [may_mcas] at hm;exact mcas_range ⟨hm.1,hm.2.1,hm.2.2.1,hm.2.2.2⟩
       | entry s g e t q=> rw [may_entry] at hm;exact entry_range ⟨hm.1,hm.2.1,hm.2.2.1,hm.2.2.2.1⟩ hm.2.2.2.2.1 hm.2.2.2.2.2.1 hm.2.2.2.2.2.2.1 hm.2.2.2.2.2.2.2.1 hm.2.2.2.2.2.2.2.2.1 hm.2.2.2.2.2.2.2.2.2
      refine T_GetWord hx.2 ?_
      have ew:wOf f.number=f.plain:=by unfold wOf;rw [hrd]
      rw [show numO (some f)=f.number from rfl,ew]
      refine wk ?_
      refine nwst hp (.row 225 f.plain.enc 7 true) rfl rfl rfl (by rfl) fun d h2 hp=> ?_
      refine wk ?_
      refine la0 hp (c:=f.plain.enc) (by exact Nat.le_refl 7) rfl ?_
      obtain ⟨c1,rc1,ef⟩:=newFr_cells hfr
      refine bnd_of ef ?_
      have g1:=rcells_good rc1
      refine bs0 hp [c1] (by
       have:fillV (List.replicate 14 (i64 0) ++ [.bool false, .bool false, .int .i64 0]) [(0,17, .agg c1.toArray)]=some (setCells (List.replicate 14 (i64 0) ++ [.bool false, .bool false, .int .i64 0]) 0 c1):=by
        simp only [fillV,cells_agg,List.size_toArray,g1.1];rfl
       rw [this,setCells_all (by rw [g1.1];rfl)];simp) rfl (by simp) (fun x hx=> by rw [List.mem_singleton.1 hx];exact g1) fun xv h3 hp=> ?_
      have hp2:All (rowP 17 sv (cs.reverse ++ [c0])::rowP 17 xv [c1]::pts b (rhRow {H with q:=o.q,slot:=H.top.s,gen:=H.top.g} sv)::arP 103 a o.a::R) _:=hp.re 6 [2,0,3,5]
      refine ap0 hp2 hp.rows (fun x hx=> by rw [List.mem_singleton.1 hx];exact g1) (by decide) (by rw [hl2,List.length_singleton];omega) fun sv' h4 hp=> ?_
      obtain ⟨sa,sc,_,rfl,_⟩:=hp.row
      refine wk ?_
      refine st2 hp (rhRow {H with q:=o.q,slot:=H.top.s,gen:=H.top.g} (.slice sa (cs.reverse ++ [c0] ++ [c1]).length sc)) rfl (by simp) rfl rfl fun h5 hp=> ?_
      unfold S197_j3
      rw [ho]
      refine wk ?_
      refine hK _ (rhelpP_shut2 (H':={H with q:=o.q,rest:=o.fr::H.rest,top:=fr,slot:=H.top.s,gen:=H.top.g}) (c:=c1) (cs:=c0::cs) (sv:= .slice sa (cs.reverse ++ [c0] ++ [c1]).length sc) ?_ rc1 (.cons ec hr))
      rw [List.reverse_cons]
      exact hp.re 4 [3,2,0]
end
end Go.Proofs.YtfphpafkhljncaaGreat
namespace Go.Proofs.YtfphpafkhljncaaGreat
open Go GW Go.Proofs
attribute [local irreducible] bnd ldV stV ifV binV eqI
set_option maxRecDepth 20000
section
variable {a b c : Nat} {A : Ar} {R : List Part} {h : GH} {K : CC} {H : Help}
theorem read_may{x:Int}{f:Form}(h:read x=some f):f.may=true:=(number_of_read h).1
theorem Fr.atop_may{t q:Int}(f:Fr)(ok:f.ok)(g:Form)(e:(f.step t q A).atop=some g):g.may=true∧newFr g ≠ none:=by
 cases f with
 | who w=>
   simp only [Fr.step] at e
   unfold Wh.step at e
   split at e <;> first | (cases e;done) | skip
   ·unfold Wh.swapIn at e
    simp only at e
    split at e
    ·cases e
    ·split at e
     ·cases e
     ·cases e
     ·rename_i hr;cases e;exact ⟨read_may hr,by simp [newFr]⟩
     ·split at e <;> cases e
   ·rename_i hpc
    simp only at e
    split at e
    ·obtain ⟨s,g',hr⟩:=ok.ref hpc
     rw [hr] at e
     cases e
     exact ⟨read_may hr,by simp [newFr]⟩
    ·cases e
 | ent f=>
   simp only [Fr.step] at e
   unfold En.step at e
   split at e <;> cases e
theorem Fr.over_pc{t q:Int}(f:Fr)(ho:(f.step t q A).over=true)(w:Wh)(e:(f.step t q A).fr= .who w):w.pc=0∨w.pc=11:=by
 cases f with
 | who w0=>
   simp only [Fr.step] at e ho
   have h2:w0.pc=10∨w0.pc=13:=by
    unfold Wh.step at ho
    split at ho <;> first | (cases ho;done) | skip
    ·unfold Wh.swapIn at ho
     simp only at ho
     split at ho
     ·cases ho
     ·split at ho <;> first | (cases ho;done) | (split at ho <;> cases ho)
    ·exact .inl (by assumption)
    ·exact .inr (by assumption)
    ·simp only at ho
     split at ho <;> cases ho
   rcases h2 with h2 | h2
   ·unfold Wh.step at e
    rw [h2] at e
    cases e;exact .inr rfl
   ·unfold Wh.step at e ho
    rw [h2] at e ho
    cases e
    left
    simp only [decide_eq_true_eq] at ho
    simp only [Wh.next];rw [if_pos ho]
 | ent f=>
   simp only [Fr.step] at e
   unfold En.step at e
   split at e <;> cases e
theorem T_rStep(hp:All (arP 103 a A::rhelpP b H::R) h)(ok:H.ok)
  (hK:∀ h',All (arP 103 a (H.step A).2.2::rhelpP b (H.step A).1::R) h'→K (.tuple #[.bool (H.step A).1.over,i64 (H.step A).2.1]) h'):T Pg 197 [ptr b,ptr a] h K:=by
 apply S197_T
 unfold S197
 have hp1:All (rhelpP b H::arP 103 a A::R) h:=hp.up 1
 obtain ⟨sv,hp1⟩:=All.ex hp1
 have hp2:All (pts b (rhRow H sv)::rstkP sv H::arP 103 a A::R) h:=All.flat hp1
 clear hp hp1
 have hp:=hp2
 refine wk ?_
 refine ifV_bool (fun c=> ?_) fun c=> ?_
 ·have e:H.step A=(H,0,A):=by unfold Help.step;rw [c];rfl
  rw [e] at hK
  simp only at hK
  rw [c] at hK
  exact hK _ (rhelpP_shut (hp.re 3 [2,0]) c)
 have hs:All (rstkP sv H::pts b (rhRow H sv)::arP 103 a A::R) h:=hp.up 1
 have hs2:=hs.head fun _ z=> z c
 obtain ⟨ct,hs3⟩:=All.ex hs2
 obtain ⟨cs,hs4⟩:=All.ex hs3
 obtain ⟨⟨rt,rr⟩,hs5⟩:=All.pure hs4
 clear hp hp2 hs hs2 hs3 hs4
 have hv:(cs.reverse ++ [ct])[cs.length]?=some ct:=by simp
 obtain ⟨ok1,ok2,ok3⟩:=ok.frames c
 have okt:=ok.t0;have okt1:=ok.t1;have okq:=ok.q0;have okq1:=ok.q1
 have hlen:=rr.len
 obtain ⟨d,el,_,eld,_⟩:=hs5.elt hv .i64
 have hl:(cs.reverse ++ [ct]).length=cs.length + 1:=by simp
 have hp:All (pts b (rhRow H sv)::rowP 17 sv (cs.reverse ++ [ct])::arP 103 a A::R) h:=hs5.up 1
 have hln:=hs5.len
 clear hs5
 have gd:=rcells_good rt
 refine wk ?_
 refine bnd_of hln ?_
 refine bnd_of (sub_id (by omega) (by omega)) ?_
 have en:(((cs.reverse ++ [ct]).length:Nat):Int) - 1=(cs.length:Nat):=by omega
 refine wk ?_
 rw [en]
 refine bnd_of el (bnd_of eld ?_)
 refine nwst hp (rfRow ct) gd.1 rfl gd.2 (by rw [show (Value.agg ct.toArray).cells.toList=ct from rfl]) fun f h1 hp=> ?_
 replace hp:All (pts b (rhRow H sv)::pts f (rfRow ct)::arP 103 a A::rowP 17 sv (cs.reverse ++ [ct])::R) h1:=hp.re 4 [1,0,3,2]
 have e2:ct[2]?=some (i64 H.top.s)∧ct[3]?=some (i64 H.top.g):=by
  cases et:H.top with
  | who w=> rw [et] at rt;obtain ⟨pc,opn,won,rfl,_⟩:=rt;exact ⟨rfl,rfl⟩
  | ent w=> rw [et] at rt;obtain ⟨opn,rfl | ⟨_,rfl⟩,_⟩:=rt <;> exact ⟨rfl,rfl⟩
 refine wk ?_
 refine ld1 hp e2.1 ?_
 refine wk ?_
 refine st0 hp (rhRow {H with slot:=H.top.s} sv) rfl (by simp) rfl rfl fun h2 hp=> ?_
 refine wk ?_
 refine ld1 hp e2.2 ?_
 refine wk ?_
 refine st0 hp (rhRow {H with slot:=H.top.s,gen:=H.top.g} sv) rfl (by simp) rfl rfl fun h2 hp=> ?_
 rw [Help.step_eq c] at hK
 have hov:=Fr.over_atop (A:=A) (t:=H.t) (q:=H.q) H.top
 have hat:=Fr.atop_may (A:=A) (t:=H.t) (q:=H.q) H.top ok1
 have hpc:=Fr.over_pc (A:=A) (t:=H.t) (q:=H.q) H.top
 cases et:H.top with
 | ent f'=>
   rw [et] at rt ok1
   obtain ⟨opn,ec,ho⟩:=rt
   have ec:ct=ecells f' opn:=by
    rcases ec with ec | ⟨e4,_⟩
    ·exact ec
    ·have:=En.ok.pc1 ok1;omega
   subst ec
   refine wk ?_
   have eq':H.top.step H.t H.q A=f'.step H.q A:=by rw [et];rfl
   rw [eq'] at hK hov hat hpc
   have eqq:(f'.step H.q A).q=H.q:=by unfold En.step;split <;> rfl
   refine T_rentry (q:=H.q) (hp.re 4 [2,1,0,3]) ok1 ho ?_
   intro nx ov c0 h' e1 e2 hp e0
   subst e0
   refine wk ?_
   refine T_rend (sv:=sv) (o:=f'.step H.q A) (H:=H) (slot:=H.top.s) (gen:=H.top.g) (cs:=cs) (ct:=ecells f' opn) ?_ c rr (by omega) e1 hat hov hpc e2 rfl rfl hK
   rw [eqq]
   exact hp.re 4 [2,1,0,3]
 | who w=>
   rw [et] at rt ok1
   obtain ⟨pc,opn,won,rfl,h1',h2',h3'⟩:=rt
   refine wk ?_
   have eq':H.top.step H.t H.q A=w.step H.t H.q A:=by rw [et];rfl
   rw [eq'] at hK hov hat hpc
   have j5:∀ {h3:GH},All (pts b (rhRow {H with q:=(w.step H.t H.q A).q,slot:=H.top.s,gen:=H.top.g} sv)::pts f (rfRow (wcells (if w.pc=5 then {w with put:=(Form.entry w.s w.g w.i H.t H.q).number} else w) pc opn won))::arP 103 a A::rowP 17 sv (cs.reverse ++ [wcells w pc opn won])::R) h3→S197_j5 (ptr b) (ptr a) (i64 cs.length) (ptr f) h3 K:=by
    intro h3 hp
    unfold S197_j5
    refine T_rhelp (t:=H.t) (q:=H.q) (hp.re 4 [2,1,0,3]) ok1 okt okt1 okq okq1 h1' h2' h3' ?_
    intro nx ov c0 h' e1 e2 hp
    refine wk ?_
    exact T_rend (o:=w.step H.t H.q A) (H:=H) (slot:=H.top.s) (gen:=H.top.g) (cs:=cs) (ct:=wcells w pc opn won) (hp.re 4 [2,1,0,3]) c rr (by omega) e1 hat hov hpc e2 rfl rfl hK
   refine ifV_cases (fun c5=> ?_) fun c5=> ?_
   ·have w5:w.pc=5:=by have:=Wh.ok.pc0 ok1;omega
    have i2:=Wh.ok.i2 ok1 (by rw [w5];decide) (by rw [w5];decide) (by rw [w5];decide) (by rw [w5];decide)
    have i0:=Wh.ok.i0 ok1
    have hs:=Wh.ok.life ok1
    refine wk ?_
    refine T_PutWord (f:= .entry w.s w.g w.i H.t H.q) (may_entry.2 ⟨hs.s0,hs.s1,hs.g0,hs.g1,i0,i2,okt,okt1,okq,okq1⟩) ?_
    refine wk ?_
    refine st1 hp (rfRow (wcells {w with put:=(Form.entry w.s w.g w.i H.t H.q).number} pc opn won)) rfl (by simp) rfl rfl fun h3 hp=> ?_
    refine wk ?_
    refine bnd_of (rem_nn (by (first | omega | (simp only;omega))) (by decide)) ?_
    refine wk ?_
    refine st0 hp (rhRow {H with q:=(H.q + 1) % 1048576,slot:=H.top.s,gen:=H.top.g} sv) rfl (by simp) rfl rfl fun h4 hp=> ?_
    refine j5 ?_
    rw [if_pos w5]
    have eq2:(w.step H.t H.q A).q=(H.q + 1) % 1048576:=by
     rw [Wh.step5 w5];unfold Wh.swapIn;simp only
     split
     ·rfl
     ·split <;> first | rfl | (split <;> rfl)
    rw [eq2]
    exact hp
   ·have w5:w.pc ≠ 5:=by intro e;exact c5 (by omega)
    refine j5 ?_
    rw [if_neg w5]
    have eq2:(w.step H.t H.q A).q=H.q:=by
     unfold Wh.step
     split <;> first | rfl | (rename_i e;exact absurd e w5) | skip
     simp only;split <;> rfl
    rw [eq2]
    exact hp
end
end Go.Proofs.YtfphpafkhljncaaGreat
namespace Go.Proofs.YtfphpafkhljncaaGreat
open Go GW Go.Proofs
attribute [local irreducible] bnd ldV stV ifV binV eqI
set_option maxRecDepth 20000
def newHelp(t q x:Int):Option Help:=
 match (read x).bind newFr with
 | some f=> if 0≤t∧t < 4∧0≤q∧q < 1048576 then some (.new t q f) else none
 | none=> none
section
variable {a b c : Nat} {A : Ar} {R : List Part} {h : GH} {K : CC} {H : Help}
theorem helpP_open{C:Prop}(hp:All (helpP b H::R) h)(k:∀ sv lv,All (pts b (helpRow H sv lv)::lastP lv H.slot H.gen::stackP b sv H::R) h→C):C:=by
 obtain ⟨sv,hp⟩:=All.ex hp
 obtain ⟨lv,hp⟩:=All.ex hp
 exact k sv lv (All.flat hp)
theorem rhelpP_open{C:Prop}(hp:All (rhelpP b H::R) h)(k:∀ sv,All (pts b (rhRow H sv)::rstkP sv H::R) h→C):C:=by
 obtain ⟨sv,hp⟩:=All.ex hp
 exact k sv (All.flat hp)
theorem T_Won(hp:All (helpP b H::R) h)(hK:K (.bool H.won) h):T Pg 226 [ptr b] h K:=by
 apply S226_T
 unfold S226
 refine helpP_open hp fun sv lv hp=> ?_
 refine wk ?_
 exact hK
theorem T_Seq(hp:All (helpP b H::R) h)(hK:K (i64 H.q) h):T Pg 325 [ptr b] h K:=by
 apply S325_T
 unfold S325
 refine helpP_open hp fun sv lv hp=> ?_
 refine wk ?_
 exact hK
theorem T_Through(hp:All (helpP b H::R) h)(hK:K (.tuple #[i64 H.slot,i64 H.gen]) h):T Pg 324 [ptr b] h K:=by
 apply S324_T
 unfold S324
 refine helpP_open hp fun sv lv hp=> ?_
 have hl:All (lastP lv H.slot H.gen::pts b (helpRow H sv lv):: []) h:=hp.re 3 [1,0] |> fun z=> z.sel [0,1]
 have cases:(lv= .pointer none∧H.slot= -1∧H.gen=0)∨∃ c,lv=ptr c∧All (pts b (helpRow H sv lv)::pts c (.row 133 [i64 H.slot,i64 H.gen] 2 true):: []) h:=by
  obtain ⟨h1,h2,d,l1,l2,p,q⟩:=hl
  rcases p with p | ⟨c,e,p⟩
  ·exact .inl p
  ·exact .inr ⟨c,e,All.up (i:=1) (l:= [pts c _,pts b _]) ⟨h1,h2,d,l1,l2,p,q⟩⟩
 rcases cases with ⟨rfl,e1,e2⟩ | ⟨c,rfl,hp⟩
 ·refine wk ?_
  rw [e1,e2] at hK
  exact hK
 ·refine wk ?_
  exact hK
theorem T_rThrough(hp:All (rhelpP b H::R) h)(hK:K (.tuple #[i64 H.slot,i64 H.gen]) h):T Pg 198 [ptr b] h K:=by
 apply S198_T
 unfold S198
 refine rhelpP_open hp fun sv hp=> ?_
 refine wk ?_
 exact hK
theorem T_ThreadMay{x:Int}(hK:K (.bool (decide (0≤x∧x < 4))) h):T Pg 131 [i64 x] h K:=by
 apply S131_T
 unfold S131
 exact T_Below hK
theorem T_threadMay{x:Int}(hK:K (.bool (decide (0≤x∧x < 4))) h):T Pg 164 [i64 x] h K:=by
 apply S164_T
 unfold S164
 refine wk ?_
 refine ifV_cases (fun c=> ?_) fun c=> ?_
 ·refine wk ?_
  rw [decide_eq_decide.2 (show (0≤x∧x < 4) ↔ x < 4 by omega)] at hK
  exact hK
 ·rw [decide_eq_false (by omega)] at hK
  exact hK
theorem T_New{t q x:Int}(hp:All R h)(hx:I64 x)(kn:newHelp t q x=none→∀ h',All R h'→K (.tuple #[.pointer none,i64 1400]) h')(ky:∀ H,newHelp t q x=some H→∀ b h',All (helpP b H::R) h'→K (.tuple #[ptr b,i64 0]) h'):T Pg 224 [i64 t,i64 q,i64 x] h K:=by
 apply S224_T
 unfold S224
 refine wk ?_
 refine nw hp (hdRow t q [.slice none 0 0, .pointer none, .bool false, .bool false]) rfl fun b h1 hp=> ?_
 refine wk ?_
 refine T_Read hx.2 ?_
 refine T_framed (hd:=b) (fo:=read x) hp fun v h2 hp=> ?_
 refine T_ThreadMay ?_
 refine wk ?_
 unfold newHelp at kn ky
 have none_of:((read x).bind newFr=none∨¬ (0≤t∧t < 4∧0≤q∧q < 1048576))→K (.tuple #[.pointer none,i64 1400]) h2:=by
  intro e
  refine kn ?_ _ hp.tail.tail
  cases ef:(read x).bind newFr with
  | none=> rfl
  | some f=>
    rcases e with e | e
    ·rw [ef] at e;cases e
    ·simp only;rw [if_neg e]
 refine ifN_cases (fun c=> ?_) fun c=> ?_
 ·exact none_of (.inr fun q=> c ⟨q.1,q.2.1⟩)
 refine T_Below ?_
 refine wk ?_
 refine ifN_cases (fun c2=> ?_) fun c2=> ?_
 ·exact none_of (.inr fun q=> c2 ⟨q.2.2.1,q.2.2.2⟩)
 cases ef:(read x).bind newFr with
 | none=>
   rw [ef] at hp
   have ev:v= .nilIface:=All.case hp fun h1 p _=> p
   subst ev
   refine wk ?_
   exact none_of (.inl ef)
 | some f=>
   rw [ef] at hp ky
   simp only at ky
   rw [if_pos ⟨c.1,c.2,c2.1,c2.2⟩] at ky
   obtain ⟨fb,ev⟩:∃ fb,v= .iface (frT f) (ptr fb):=All.case hp fun h1 p _=> by
    obtain ⟨fb,e,_⟩:=frP_iff.1 p
    exact ⟨fb,e⟩
   subst ev
   refine wk ?_
   unfold S224_j1
   refine bs0 hp [[Value.iface (frT f) (ptr fb)]] rfl rfl (by simp) (fun c hc=> by rw [List.mem_singleton.1 hc];exact iface_good _ _) fun sv h3 hp=> ?_
   obtain ⟨sa,sc,_,rfl,_⟩:=hp.row
   refine wk ?_
   refine st2 hp (hdRow t q [.slice sa [[Value.iface (frT f) (ptr fb)]].length sc, .pointer none, .bool false, .bool false]) rfl (by simp) rfl rfl fun h4 hp=> ?_
   refine ky _ rfl b _ ?_
   have hp2:=All.fold (l:= [_,_]) (hp.re 3 [0,1,2])
   have hp3:=hp2.head (Q:=stackP b (.slice sa [[Value.iface (frT f) (ptr fb)]].length sc) (.new t q f)) fun h1 z _=> ⟨.iface (frT f) (ptr fb), [],z.mono2 fun _ z=> z.mono2 fun _ z=> All.emp_cons z trivial⟩
   have hp4:All (pts b (helpRow (.new t q f) (.slice sa [[Value.iface (frT f) (ptr fb)]].length sc) (.pointer none))::lastP (.pointer none) (-1) 0::stackP b (.slice sa [[Value.iface (frT f) (ptr fb)]].length sc) (.new t q f)::R) h4:=All.mono2 (l:=stackP b (.slice sa [[Value.iface (frT f) (ptr fb)]].length sc) (.new t q f)::R) (hp3.up 1) fun _ z=> All.emp_cons (P:=lastP (.pointer none) (-1) 0) z (.inl ⟨rfl,rfl,rfl⟩)
   exact (All.fold (l:= [_,_,_]) hp4).head fun h1 z=> ⟨_,_,z⟩
theorem T_NewHelp{t q x:Int}(hp:All R h)(hx:I64 x)(kn:newHelp t q x=none→∀ h',All R h'→K (.tuple #[.pointer none,i64 1400]) h')(ky:∀ H,newHelp t q x=some H→∀ b h',All (rhelpP b H::R) h'→K (.tuple #[ptr b,i64 0]) h'):T Pg 196 [i64 t,i64 q,i64 x] h K:=by
 apply S196_T
 unfold S196
 refine T_GetWord hx.2 ?_
 refine wk ?_
 refine nwst hp (.row 225 (wOf x).enc 7 true) rfl rfl rfl (by rfl) fun d h1 hp=> ?_
 refine T_threadMay ?_
 refine wk ?_
 unfold newHelp at kn ky
 have none_of:((read x).bind newFr=none∨¬ (0≤t∧t < 4∧0≤q∧q < 1048576))→K (.tuple #[.pointer none,i64 1400]) h1:=by
  intro e
  refine kn ?_ _ hp.tail
  cases ef:(read x).bind newFr with
  | none=> rfl
  | some f=>
    rcases e with e | e
    ·rw [ef] at e;cases e
    ·simp only;rw [if_neg e]
 refine ifN_cases (fun c=> ?_) fun c=> ?_
 ·exact none_of (.inr fun q=> c ⟨q.1,q.2.1⟩)
 refine wk ?_
 refine ifV_cases (fun c2=> ?_) fun c2=> ?_
 ·exact none_of (.inr fun q=> by omega)
 refine wk ?_
 refine ifV_cases (fun c3=> ?_) fun c3=> ?_
 ·exact none_of (.inr fun q=> by omega)
 refine wk ?_
 cases hr:read x with
 | none=>
   have e0:eOf x=100:=by unfold eOf;rw [hr]
   rw [e0]
   refine ifV_t rfl ?_
   exact none_of (.inl (by rw [hr];rfl))
 | some f=>
   have e0:eOf x=0:=by unfold eOf;rw [hr]
   have ew:wOf x=f.plain:=by unfold wOf;rw [hr]
   have hm:=number_of_read hr
   rw [e0]
   rw [ew] at hp
   refine ifV_f rfl ?_
   have fin:∀ fr,newFr f=some fr→S196_j1 (i64 t) (i64 q) (i64 x) (ptr d) h1 K:=by
    intro fr hfr
    unfold S196_j1
    have hb:(read x).bind newFr=some fr:=by rw [hr];exact hfr
    rw [hb] at ky
    simp only at ky
    rw [if_pos (by omega)] at ky
    refine la0 hp (c:=f.plain.enc) (by exact Nat.le_refl 7) rfl ?_
    obtain ⟨c1,rc1,ef⟩:=newFr_cells hfr
    rw [hm.2.1] at ef
    refine bnd_of ef ?_
    have g1:=rcells_good rc1
    refine bs0 hp [c1] (by
     have:fillV (List.replicate 14 (i64 0) ++ [.bool false, .bool false, .int .i64 0]) [(0,17, .agg c1.toArray)]=some (setCells (List.replicate 14 (i64 0) ++ [.bool false, .bool false, .int .i64 0]) 0 c1):=by
      simp only [fillV,cells_agg,List.size_toArray,g1.1];rfl
     rw [this,setCells_all (by rw [g1.1];rfl)];simp) rfl (by simp) (fun x hx=> by rw [List.mem_singleton.1 hx];exact g1) fun sv h3 hp=> ?_
    obtain ⟨sa,sc,_,rfl,_⟩:=hp.row
    refine wk ?_
    refine nw hp (rhRow (.new t q fr) (.slice sa [c1].length sc)) rfl fun b h4 hp=> ?_
    refine ky _ rfl b _ ?_
    have hp2:All (pts b (rhRow (.new t q fr) (.slice sa [c1].length sc))::rowP 17 (.slice sa [c1].length sc) [c1]::R) h4:=hp.re 3 [0,1]
    have hp3:=hp2.mono2 fun _ z=> z.head (Q:=rstkP (.slice sa [c1].length sc) (.new t q fr)) fun _ z _=> ⟨c1, [],⟨rc1, .nil⟩,z⟩
    exact (All.fold (l:= [_,_]) hp3).head fun h1 z=> ⟨_,z⟩
   cases f with
   | val v=>
     refine wk ?_
     exact none_of (.inl (by rw [hr];rfl))
   | mcas s g=> refine wk ?_;exact fin _ rfl
   | entry s g e' t' q'=> refine wk ?_;exact fin _ rfl
end
theorem zero64:I64 0:=⟨by decide,by decide⟩
theorem Wh.new_ok{s g:Int}(hs:Life s g):(Wh.new s g).ok:=
 ⟨hs,by simp [Wh.new],by simp [Wh.new],fun h=> absurd rfl h,by simp [Wh.new],zero64,by simp [Wh.new],by simp [Wh.new],zero64,zero64,zero64,by simp [Wh.new],by simp [Wh.new],fun q=> by cases q⟩
theorem newFr_ok{f:Form}{fr:Fr}(hm:f.may=true)(e:newFr f=some fr):fr.ok:=by
 cases f with
 | val v=> cases e
 | mcas s g=> cases e;rw [may_mcas] at hm;exact Wh.new_ok ⟨hm.1,hm.2.1,hm.2.2.1,hm.2.2.2⟩
 | entry s g e' t q=>
   cases e;rw [may_entry] at hm
   obtain ⟨h1,h2,h3,h4,h5,h6,h7,h8,h9,h10⟩:=hm
   exact ⟨⟨h1,h2,h3,h4⟩,h5,h6,h7,h8,h9,h10,by simp [En.new],by simp [En.new],zero64,by simp [En.new]⟩
theorem newHelp_ok{t q x:Int}{H:Help}(e:newHelp t q x=some H):H.ok:=by
 unfold newHelp at e
 split at e
 ·rename_i f ef
  split at e
  ·rename_i c
   cases e
   obtain ⟨fo,hr,hf⟩:=Option.bind_eq_some_iff.1 ef
   refine ⟨c.1,c.2.1,c.2.2.1,c.2.2.2,(by constructor <;> simp [Help.new]),zero64,fun _=> ⟨newFr_ok (number_of_read hr).1 hf,(fun _ h=> by cases h),by simp [Help.new]⟩⟩
  ·cases e
 ·cases e
end Go.Proofs.YtfphpafkhljncaaGreat
namespace Go.Proofs.YtfphpafkhljncaaGreat
open Go GW Go.Proofs
section
variable {A : Ar} {t q : Int}
structure Out.fine(o:Out):Prop where
 a:o.a.ok
 q0:0≤o.q
 q1:o.q < 1048576
 fr:o.good=true→o.over=false→o.fr.ok
theorem val4{x:Int}(hx:I64 x):I64 (valOf x * 4):=by
 have:=valOf_le hx
 constructor <;> omega
theorem Wh.next_ok{w:Wh}{more stop:Nat}(ok:w.ok)(hi:w.i < 16)(h1:1≤more)(h2:more≤13)(h3:stop=8):(w.next more stop).ok:=by
 subst h3
 have p1:(w.next more 8).pc=if w.k≤w.i + 1 then 8 else more:=rfl
 have i0:=ok.i0
 have k1:=ok.k1
 refine ⟨ok.life,by simp only [Wh.next];omega,by simp only [Wh.next];omega,?_,ok.k1,ok.k0,ok.c0,ok.c1,ok.was,ok.put,ok.x,?_,?_,?_⟩
 ·intro _ _ h8 _
  rw [p1] at h8
  simp only [Wh.next]
  split at h8
  ·exact absurd rfl h8
  ·omega
 ·rw [p1];split <;> omega
 ·rw [p1];split <;> omega
 ·rw [p1];intro e;split at e <;> omega
theorem Wh.next_ok0{w:Wh}(ok:w.ok)(hi:w.i < 16)(hk:¬ (w.k≤w.i + 1)):(w.next 11 0).ok:=by
 have p1:(w.next 11 0).pc=11:=by simp only [Wh.next];rw [if_neg hk]
 have i0:=ok.i0
 have k1:=ok.k1
 refine ⟨ok.life,by simp only [Wh.next];omega,by simp only [Wh.next];omega,?_,ok.k1,ok.k0,ok.c0,ok.c1,ok.was,ok.put,ok.x,?_,?_,?_⟩
 ·intro _ _ _ _;simp only [Wh.next];omega
 ·omega
 ·omega
 ·intro e;omega
theorem Wh.step_ok{w:Wh}(ok:w.ok)(hA:A.ok)(t0:0≤t)(t1:t < 4)(q0:0≤q)(q1:q < 1048576):(w.step t q A).fine:=by
 obtain ⟨s,g,pc,i,k,cell,was,put,x,opn,won⟩:=w
 obtain ⟨life,i0,i1,i2,k1,k0,c0,c1,was1,put1,x1,pc1,pc0,ref⟩:=ok
 simp only at life i0 i1 i2 k1 k0 c0 c1 was1 put1 x1 pc1 pc0 ref
 have ok:(Wh.mk s g pc i k cell was put x opn won).ok:=⟨life,i0,i1,i2,k1,k0,c0,c1,was1,put1,x1,pc1,pc0,ref⟩
 have hb:=valOf_range hA (baseOf s + 1)
 have st:∀ d,0≤d→d < 4→I64 (stateW g d):=fun d h0 h1=> stateW_range life.g0 life.g1 h0 h1
 have:pc=1∨pc=2∨pc=3∨pc=4∨pc=5∨pc=6∨pc=7∨pc=8∨pc=9∨pc=10∨pc=11∨pc=12∨pc=13∨pc=14:=by omega
 rcases this with rfl | rfl | rfl | rfl | rfl | rfl | rfl | rfl | rfl | rfl | rfl | rfl | rfl | rfl
 ·refine ⟨hA.ld _,q0,q1,fun _ _=> ?_⟩
  simp only [Wh.step]
  refine ⟨life,i0,i1,?_,k1,k0,c0,c1,was1,put1,x1,?_,?_,?_⟩ <;> simp only <;> split <;> first | omega | (intro a b c d;simp at b d)
 ·refine ⟨hA.ld _,q0,q1,fun hg _=> ?_⟩
  have hv:=(is_val hg).1
  simp only [Wh.step]
  refine ⟨life,by simp,by simp,fun _ _ _ _=> by simp,hv,by constructor <;> (simp only;omega),c0,c1,was1,put1,x1,?_,?_,?_⟩ <;> simp only <;> split <;> omega
 ·refine ⟨hA.ld _,q0,q1,fun hg _=> ?_⟩
  have hv:=(is_val hg).1
  simp only at hv
  have h0:=(valOf_range hA (baseOf s + (2 + 3 * i + 0))).1
  exact ⟨life,i0,i1,fun _ _ _ _=> i2 (by decide) (by decide) (by decide) (by decide),k1,k0,h0,by simp only;omega,was1,put1,x1,by simp,by simp,fun e=> by cases e⟩
 ·refine ⟨hA.ld _,q0,q1,fun hg _=> ?_⟩
  exact ⟨life,i0,i1,fun _ _ _ _=> i2 (by decide) (by decide) (by decide) (by decide),k1,k0,c0,c1,val4 (Ar.at_range hA _),put1,x1,by simp,by simp,fun e=> by cases e⟩
 ·have hi:=i2 (by decide) (by decide) (by decide) (by decide)
  have hp:=entry_range life i0 hi t0 t1 q0 q1
  have q0':0≤(q + 1) % 1048576:=by omega
  have q1':(q + 1) % 1048576 < 1048576:=by omega
  have ok':(Wh.mk s g 5 i k cell was (Form.entry s g i t q).number x opn won).ok:=⟨life,i0,i1,i2,k1,k0,c0,c1,was1,hp,x1,pc1,pc0,ref⟩
  rw [Wh.step5 rfl]
  unfold Wh.swapIn
  simp only
  split
  ·exact ⟨hA.cas _ _ hp,q0',q1',fun _ _=> ⟨life,i0,i1,fun _ _ _ _=> hi,k1,k0,c0,c1,was1,hp,x1,by simp,by simp,fun e=> by cases e⟩⟩
  ·split
   ·exact ⟨hA.cas _ _ hp,q0',q1',fun e=> by cases e⟩
   ·exact ⟨hA.cas _ _ hp,q0',q1',fun _ _=> ⟨life,i0,i1,fun _ _ _ _=> hi,k1,k0,c0,c1,was1,hp,x1,by simp,by simp,fun e=> by cases e⟩⟩
   ·exact ⟨hA.cas _ _ hp,q0',q1',fun _ _=> ok'⟩
   ·rename_i s' g' hr
    split
    ·exact ⟨hA.cas _ _ hp,q0',q1',fun _ _=> Wh.next_ok ok' hi (by decide) (by decide) rfl⟩
    ·exact ⟨hA.cas _ _ hp,q0',q1',fun _ _=> ⟨life,i0,i1,fun _ _ _ _=> hi,k1,k0,c0,c1,was1,hp,Ar.at_range hA _,by simp,by simp,fun _=> ⟨s',g',hr⟩⟩⟩
 ·refine ⟨hA.ld _,q0,q1,fun hg _=> ?_⟩
  exact ⟨life,i0,i1,fun _ _ _ _=> i2 (by decide) (by decide) (by decide) (by decide),k1,k0,c0,c1,was1,put1,x1,by simp,by simp,fun e=> by cases e⟩
 ·refine ⟨hA.cas _ _ ?_,q0,q1,fun hg _=> ?_⟩
  ·simp only [Wh.mine];split
   ·exact mcas_range life
   ·exact was1
  ·exact Wh.next_ok ok (i2 (by decide) (by decide) (by decide) (by decide)) (by decide) (by decide) rfl
 ·exact ⟨hA.cas _ _ (st 1 (by decide) (by decide)),q0,q1,fun _ _=> ⟨life,i0,i1,fun e=> absurd rfl e,k1,k0,c0,c1,was1,put1,x1,by simp,by simp,fun e=> by cases e⟩⟩
 ·exact ⟨hA.cas _ _ (st 2 (by decide) (by decide)),q0,q1,fun _ _=> ⟨life,i0,i1,fun e=> absurd rfl e,k1,k0,c0,c1,was1,put1,x1,by simp,by simp,fun e=> by cases e⟩⟩
 ·refine ⟨hA.ld _,q0,q1,fun hg _=> ?_⟩
  have hv:=(is_val hg).1
  exact ⟨life,by simp,by simp,fun _ _ _ _=> by simp,hv,by constructor <;> (simp only;omega),c0,c1,was1,put1,x1,by simp,by simp,fun e=> by cases e⟩
 ·refine ⟨hA.ld _,q0,q1,fun hg _=> ?_⟩
  have hv:=(is_val hg).1
  simp only at hv
  have h0:=(valOf_range hA (baseOf s + (2 + 3 * i + 0))).1
  exact ⟨life,i0,i1,fun _ _ _ _=> i2 (by decide) (by decide) (by decide) (by decide),k1,k0,h0,by simp only;omega,was1,put1,x1,by simp,by simp,fun e=> by cases e⟩
 ·refine ⟨hA.ld _,q0,q1,fun hg _=> ?_⟩
  exact ⟨life,i0,i1,fun _ _ _ _=> i2 (by decide) (by decide) (by decide) (by decide),k1,k0,c0,c1,was1,put1,val4 (Ar.at_range hA _),by simp,by simp,fun e=> by cases e⟩
 ·refine ⟨hA.cas _ _ x1,q0,q1,fun hg ho=> ?_⟩
  have hk:¬ (k≤i + 1):=of_decide_eq_false ho
  exact Wh.next_ok0 ok (i2 (by decide) (by decide) (by decide) (by decide)) hk
 ·simp only [Wh.step]
  have hi:=i2 (by decide) (by decide) (by decide) (by decide)
  split
  ·exact ⟨hA.ld _,q0,q1,fun _ _=> ⟨life,i0,i1,fun _ _ _ _=> hi,k1,k0,c0,c1,was1,put1,x1,by simp,by simp,fun e=> by cases e⟩⟩
  ·exact ⟨hA.ld _,q0,q1,fun _ _=> ⟨life,i0,i1,fun _ _ _ _=> hi,k1,k0,c0,c1,was1,put1,x1,by simp,by simp,fun e=> by cases e⟩⟩
theorem En.step_ok{f:En}(ok:f.ok)(hA:A.ok)(q0:0≤q)(q1:q < 1048576):(f.step q A).fine:=by
 obtain ⟨s,g,e,t',q',pc,cell,was,opn⟩:=f
 obtain ⟨life,e0,e1,t0,t1,q0',q1',c0,c1,was1,pc1⟩:=ok
 simp only at life e0 e1 t0 t1 q0' q1' c0 c1 was1 pc1
 have:pc=0∨pc=1∨pc=2∨pc=3:=by omega
 rcases this with rfl | rfl | rfl | rfl
 ·refine ⟨hA.ld _,q0,q1,fun hg _=> ?_⟩
  have hv:=(is_val hg).1
  simp only at hv
  have h0:=(valOf_range hA (baseOf s + (2 + 3 * e + 0))).1
  exact ⟨life,e0,e1,t0,t1,q0',q1',h0,by simp only;omega,was1,by simp⟩
 ·refine ⟨hA.ld _,q0,q1,fun hg _=> ?_⟩
  exact ⟨life,e0,e1,t0,t1,q0',q1',c0,c1,val4 (Ar.at_range hA _),by simp⟩
 ·exact ⟨hA.ld _,q0,q1,fun hg _=> ⟨life,e0,e1,t0,t1,q0',q1',c0,c1,was1,by simp⟩⟩
 ·refine ⟨hA.cas _ _ ?_,q0,q1,fun _ h=> by cases h⟩
  simp only;split
  ·exact mcas_range life
  ·exact was1
theorem Fr.step_ok{f:Fr}(ok:f.ok)(hA:A.ok)(t0:0≤t)(t1:t < 4)(q0:0≤q)(q1:q < 1048576):(f.step t q A).fine:=by
 cases f with
 | who w=> exact Wh.step_ok ok hA t0 t1 q0 q1
 | ent f=> exact En.step_ok ok hA q0 q1
theorem Fr.life{f:Fr}(ok:f.ok):Life f.s f.g:=by
 cases f with
 | who w=> exact Wh.ok.life ok
 | ent f=> exact En.ok.life ok
theorem life64{s g:Int}(h:Life s g):I64 s∧I64 g:=by
 have:=h.s0;have:=h.s1;have:=h.g0;have:=h.g1
 constructor <;> constructor <;> omega
theorem Help.step_ok{H:Help}(ok:H.ok)(hA:A.ok):(H.step A).1.ok∧(H.step A).2.2.ok:=by
 cases c:H.over with
 | true=>
   have e:H.step A=(H,0,A):=by unfold Help.step;rw [c];rfl
   rw [e];exact ⟨ok,hA⟩
 | false=>
   rw [Help.step_eq c]
   obtain ⟨k1,k2,k3⟩:=ok.frames c
   have fine:=Fr.step_ok (A:=A) k1 hA ok.t0 ok.t1 ok.q0 ok.q1
   have hov:=Fr.over_atop (A:=A) (t:=H.t) (q:=H.q) H.top
   have hat:=Fr.atop_may (A:=A) (t:=H.t) (q:=H.q) H.top k1
   obtain ⟨ls,lg⟩:=life64 (Fr.life k1)
   generalize H.top.step H.t H.q A=o at fine hov hat ⊢
   refine ⟨?_,fine.a⟩
   unfold Help.take
   split
   ·exact ⟨ok.t0,ok.t1,fine.q0,fine.q1,ls,lg,fun h=> by cases h⟩
   ·rename_i hg
    have hg:o.good=true:=by simpa using hg
    split
    ·rename_i fr hb
     split
     ·exact ⟨ok.t0,ok.t1,fine.q0,fine.q1,ls,lg,fun h=> by cases h⟩
     ·rename_i h18
      obtain ⟨fo,e1,e2⟩:=Option.bind_eq_some_iff.1 hb
      have ho:o.over=false:=by
       cases e:o.over with
       | false=> rfl
       | true=> rw [hov e] at e1;cases e1
      refine ⟨ok.t0,ok.t1,fine.q0,fine.q1,ls,lg,fun _=> ⟨newFr_ok (hat fo e1).1 e2,fun f hf=> ?_,by simp only [List.length_cons];omega⟩⟩
      rcases List.mem_cons.1 hf with rfl | hf
      ·exact fine.fr hg ho
      ·exact k2 f hf
    ·split
     ·rename_i ho
      exact ⟨ok.t0,ok.t1,fine.q0,fine.q1,ls,lg,fun _=> ⟨fine.fr hg ho,k2,k3⟩⟩
     ·split
      ·exact ⟨ok.t0,ok.t1,fine.q0,fine.q1,ls,lg,fun h=> by cases h⟩
      ·rename_i r rs hr
       rw [hr] at k2 k3
       exact ⟨ok.t0,ok.t1,fine.q0,fine.q1,ls,lg,fun _=> ⟨k2 r (by simp),fun f hf=> k2 f (List.mem_cons_of_mem _ hf),by simp only [List.length_cons] at k3;simp only;omega⟩⟩
end
attribute [local irreducible] bnd ldV stV ifV binV eqI
set_option maxRecDepth 20000
def initW:Nat→List Int
 | 0=> (List.replicate 634 0).set 16 4
 | k + 1=> (initW k).set (17 + k) ((k + 2) * 4)
def initA(k:Nat):Ar:=⟨initW k,List.replicate 8 0,false⟩
def newAr:Ar:=initA 11
theorem initW_len:∀ k,(initW k).length=634:=by
 intro k
 induction k with
 | zero=> simp [initW]
 | succ k ih=> simp [initW,ih]
theorem initA_ok:∀ k,k≤11→(initA k).ok:=by
 intro k
 induction k with
 | zero=>
   intro _
   refine ⟨initW_len _,rfl,fun x hx=> ?_⟩
   rcases List.mem_or_eq_of_mem_set hx with q | q
   ·rw [(List.mem_replicate.1 q).2];exact zero64
   ·subst q;constructor <;> decide
 | succ k ih=>
   intro hk
   refine ⟨initW_len _,rfl,fun x hx=> ?_⟩
   rcases List.mem_or_eq_of_mem_set hx with q | q
   ·exact (ih (by omega)).range x q
   ·subst q;constructor <;> omega
section
variable {a b : Nat} {A : Ar} {R : List Part} {h : GH} {K : CC} {T' : TypeId}
theorem stw{i o:Nat}{x:Int}{C:GH→Prop}(hp:All (arP T' b A::R) h)(hi:i < 634)(ho:o=i)(hx:I64 x)(k:∀ h',All (arP T' b ⟨A.ws.set i x,A.last,A.any⟩::R) h'→C h'):bnd (stV 1 (.pointer (some ⟨b,o,none⟩)) (i64 x) h) C:=by
 subst ho
 obtain ⟨hb,ok⟩:=arP.at hp
 refine bnd_of (stV_row hb 1 o (i64 x) rfl (by rw [ok.len];omega) rfl) ?_
 have e:setCells A.cells o (i64 x).cells.toList=(Ar.mk (A.ws.set o x) A.last A.any).cells:=Ar.set_word ok hi x
 rw [e]
 refine k _ (arP.upd hp ⟨by rw [List.length_set];exact ok.words,ok.touch,fun y hy=> ?_⟩)
 rcases List.mem_or_eq_of_mem_set hy with q | q
 ·exact ok.range y q
 ·subst q;exact hx
theorem zeroCells:(List.replicate 642 (Value.int .i64 0) ++ [Value.bool false])=(Ar.mk (List.replicate 634 0) (List.replicate 8 0) false).cells:=by
 unfold Ar.cells
 rw [List.map_replicate,List.map_replicate, ← List.append_assoc,List.replicate_append_replicate]
theorem zero_ok:(Ar.mk (List.replicate 634 0) (List.replicate 8 0) false).ok:=
 ⟨by simp,by simp,fun x hx=> by rw [(List.mem_replicate.1 hx).2];exact zero64⟩
theorem nwAr{K:CC}(hp:All R h)(k:∀ b h',All (arP T' b (Ar.mk (List.replicate 634 0) (List.replicate 8 0) false)::R) h'→K (ptr b) h'):newV T' ((.agg (List.replicate 642 (Value.int .i64 0) ++ [Value.bool false]).toArray):VV).cells.toList h K:=by
 refine nw hp (.row T' (Ar.mk (List.replicate 634 0) (List.replicate 8 0) false).cells 643 true) ?_ fun b h' hp=> k b h' (hp.head fun _ z=> ⟨z,zero_ok⟩)
 have e:((.agg (List.replicate 642 (Value.int .i64 0) ++ [Value.bool false]).toArray):VV).cells.toList=(Ar.mk (List.replicate 634 0) (List.replicate 8 0) false).cells:=zeroCells
 rw [e,zero_ok.len]
theorem T_arenaNew(hp:All R h)(hK:∀ b h',All (arP 138 b newAr::R) h'→K (ptr b) h'):T Pg 28 [] h K:=by
 apply S28_T
 unfold S28
 refine bnd_of (v:=List.replicate 642 (Value.int .i64 0) ++ [Value.bool false]) rfl ?_
 refine nwAr hp fun b h1 hp=> ?_
 refine wk ?_
 refine T_Of (by decide) (by decide) ?_
 refine bnd_of (iaV_at (i:=16) (by decide) .i64) ?_
 refine stw (i:=16) hp (by decide) (by omega) (by constructor <;> decide) fun h2 hp=> ?_
 refine Lfp_fam (ι:=Nat) (fun k=> [ptr b,i64 k]) (fun k h'=> k≤11∧All (arP 138 b (initA k)::R) h') (fun k=> 11 - k) ?_ 0 h2 ⟨by omega,hp⟩
 intro k h3 X ⟨hk,hp⟩ again
 simp only [tup_zero,tup_succ]
 refine wk ?_
 refine ifV_cases (fun c=> ?_) fun c=> ?_
 ·refine wk ?_
  refine T_Of (by omega) (by omega) ?_
  have e:(17:Int) + k=((17 + k:Nat):Int):=by omega
  rw [e]
  refine bnd_of (iaV_at (i:=17 + k) (by omega) .i64) ?_
  refine stw (i:=17 + k) hp (by omega) (by omega) (by constructor <;> omega) fun h4 hp=> ?_
  refine wk ?_
  exact again (k + 1) _ ⟨by omega,hp⟩ (by omega)
 ·have:k=11:=by omega
  subst this
  exact hK b _ hp
theorem T_refArenaNew(hp:All R h)(hK:∀ b h',All (arP 103 b newAr::R) h'→K (ptr b) h'):T Pg 92 [] h K:=by
 apply S92_T
 unfold S92
 refine bnd_of (v:=List.replicate 642 (Value.int .i64 0) ++ [Value.bool false]) rfl ?_
 refine nwAr hp fun b h1 hp=> ?_
 refine wk ?_
 refine T_rValue (by decide) (by decide) ?_
 refine bnd_of (iaV_at (i:=16) (by decide) .i64) ?_
 refine stw (i:=16) hp (by decide) (by omega) (by constructor <;> decide) fun h2 hp=> ?_
 refine Lfp_fam (ι:=Nat) (fun k=> [ptr b,i64 k]) (fun k h'=> k≤11∧All (arP 103 b (initA k)::R) h') (fun k=> 11 - k) ?_ 0 h2 ⟨by omega,hp⟩
 intro k h3 X ⟨hk,hp⟩ again
 simp only [tup_zero,tup_succ]
 refine wk ?_
 refine ifV_cases (fun c=> ?_) fun c=> ?_
 ·refine wk ?_
  refine T_rValue (by omega) (by omega) ?_
  have e:(17:Int) + k=((17 + k:Nat):Int):=by omega
  rw [e]
  refine bnd_of (iaV_at (i:=17 + k) (by omega) .i64) ?_
  refine stw (i:=17 + k) hp (by omega) (by omega) (by constructor <;> omega) fun h4 hp=> ?_
  refine wk ?_
  exact again (k + 1) _ ⟨by omega,hp⟩ (by omega)
 ·have:k=11:=by omega
  subst this
  exact hK b _ hp
theorem flatten_encI(xs:List Int):(xs.map encI).flatten=xs.map i64:=by
 induction xs with
 | nil=> rfl
 | cons x xs ih=> rw [List.map_cons,List.flatten_cons,ih];rfl
theorem arP.rows{P:Part}(hp:All (arP T' b A::R) h):rowsAt h 1 (.slice (some ⟨b,0,none⟩) 634 634) (A.ws.map encI):=by
 obtain ⟨hb,ok⟩:=arP.at hp
 refine rowsAt_of hb (by rw [List.length_map];exact ok.words) (Nat.le_refl _) (by decide) (fun c hc=> (encI_good _ c hc).1) (Nat.zero_le _) ?_
 rw [flatten_encI,List.drop_zero]
 exact ⟨_,rfl⟩
def baseP(g:GH):Part:=fun h=> HLe g h
theorem T_CloneInts{v:VV}{xs:List Int}(hp:All R h)(r:∀ h',All R h'→rowsAt h' 1 v (xs.map encI))(hb:xs.length * 8≤140737488355328)(hn:eqK .slice true v nS_=some false)(hK:∀ v' h',All (rowP 1 v' (xs.map encI)::R) h'→K v' h'):T Pg 84 [v] h K:=by
 apply S84_T
 unfold S84
 refine bnd_of hn ?_
 refine wk ?_
 refine bs0 (size:=1) hp [] rfl rfl (by simp) (fun c hc=> by cases hc) fun v2 h1 hp=> ?_
 refine ap0 hp (r _ hp.tail) (encI_good _) (by decide) (by simpa using hb) fun v' h2 hp=> ?_
 exact hK _ _ hp
theorem T_All(hp:All (arP 138 b A::R) h)(hK:∀ v' h',All (rowP 1 v' (A.ws.map encI)::arP 138 b A::R) h'→K v' h'):T Pg 36 [ptr b] h K:=by
 apply S36_T
 unfold S36
 have ok:=(arP.at hp).2
 refine wk ?_
 refine T_CloneInts hp (fun h' hp=> arP.rows (P:=emp) hp) (by rw [ok.words];decide) rfl hK
theorem T_Last(hp:All (arP 138 b A::R) h)(hK:K (.tuple #[.agg (A.last.map i64).toArray, .bool A.any]) h):T Pg 38 [ptr b] h K:=by
 apply T.drop
 apply S38_T
 unfold S38
 obtain ⟨hb,ok⟩:=arP.at hp
 have hlw:(A.ws.map i64).length=634:=by rw [List.length_map];exact ok.words
 have e1:(A.cells.drop 634).take 8=A.last.map i64:=by
  unfold Ar.cells
  rw [List.drop_left' hlw,List.take_left' (by rw [List.length_map];exact ok.touch)]
 have e2:A.cells[642]?=some (.bool A.any):=by
  unfold Ar.cells
  rw [List.getElem?_append_right (by omega),hlw,List.getElem?_append_right (by rw [List.length_map,ok.touch];decide),List.length_map,ok.touch];rfl
 intro c hc
 have hne:b ≠ c:=ne_of_fresh hc hb
 refine wk ?_
 refine bnd_of (v:= .agg (A.last.map i64).toArray) (by rw [ldV_other hne,ldV_agg hb _ _ (by rw [ok.len];decide),e1]) ?_
 refine wk ?_
 refine bnd_of (v:= .bool A.any) (by rw [ldV_other hne,ldV_cell hb,e2]) ?_
 have hl8:(A.last.map i64).length=8:=by rw [List.length_map];exact ok.touch
 have hones:(A.last.map i64).all oneCell=true:=(good_ints (size:=8) ok.touch).2
 refine bnd_of (v:=upd h c (.row 60 (A.last.map i64) 8 true)) ?_ ?_
 ·rw [stV_same,if_pos ⟨hl8,by simp,hones⟩,show (Value.agg (A.last.map i64).toArray).cells.toList=A.last.map i64 from rfl,setCells_all (by rw [hl8];rfl)];rfl
 refine ⟨by rw [ldV_other hne,ldV_cell hb,e2],?_⟩
 refine bnd_of (v:= .agg (A.last.map i64).toArray) (by rw [ldV_same_agg,if_pos (by rw [hl8];decide),List.drop_zero, ← hl8,List.take_length]) ?_
 exact ⟨h,(HLe.refl h).new _ hc,hK⟩
theorem T_refLast(hp:All (arP 103 b A::R) h)(hK:K (.tuple #[.agg (A.last.map i64).toArray, .bool A.any]) h):T Pg 97 [ptr b] h K:=by
 apply T.drop
 apply S97_T
 unfold S97
 obtain ⟨hb,ok⟩:=arP.at hp
 have hlw:(A.ws.map i64).length=634:=by rw [List.length_map];exact ok.words
 have e1:(A.cells.drop 634).take 8=A.last.map i64:=by
  unfold Ar.cells
  rw [List.drop_left' hlw,List.take_left' (by rw [List.length_map];exact ok.touch)]
 have e2:A.cells[642]?=some (.bool A.any):=by
  unfold Ar.cells
  rw [List.getElem?_append_right (by omega),hlw,List.getElem?_append_right (by rw [List.length_map,ok.touch];decide),List.length_map,ok.touch];rfl
 intro c hc
 have hne:b ≠ c:=ne_of_fresh hc hb
 refine wk ?_
 refine bnd_of (v:= .agg (A.last.map i64).toArray) (by rw [ldV_other hne,ldV_agg hb _ _ (by rw [ok.len];decide),e1]) ?_
 refine wk ?_
 refine bnd_of (v:= .bool A.any) (by rw [ldV_other hne,ldV_cell hb,e2]) ?_
 have hl8:(A.last.map i64).length=8:=by rw [List.length_map];exact ok.touch
 have hones:(A.last.map i64).all oneCell=true:=(good_ints (size:=8) ok.touch).2
 refine bnd_of (v:=upd h c (.row 60 (A.last.map i64) 8 true)) ?_ ?_
 ·rw [stV_same,if_pos ⟨hl8,by simp,hones⟩,show (Value.agg (A.last.map i64).toArray).cells.toList=A.last.map i64 from rfl,setCells_all (by rw [hl8];rfl)];rfl
 refine ⟨by rw [ldV_other hne,ldV_cell hb,e2],?_⟩
 refine bnd_of (v:= .agg (A.last.map i64).toArray) (by rw [ldV_same_agg,if_pos (by rw [hl8];decide),List.drop_zero, ← hl8,List.take_length]) ?_
 exact ⟨h,(HLe.refl h).new _ hc,hK⟩
end
end Go.Proofs.YtfphpafkhljncaaGreat
namespace Go.Proofs.YtfphpafkhljncaaGreat
open Go GW Go.Proofs
attribute [local irreducible] bnd ldV stV ifV binV eqI
set_option maxRecDepth 20000
structure Sw where
 c:Int
 w:Int
 n:Int
def encS(s:Sw):List Value:= [i64 s.c,i64 s.w,i64 s.n]
theorem encS_good(ts:List Sw):∀ c ∈ ts.map encS,good 3 c:=by
 intro c hc
 obtain ⟨t,_,rfl⟩:=List.mem_map.1 hc
 exact ⟨rfl,rfl⟩
def Sw.fine(last:Int)(s:Sw):Prop:=last < s.c∧s.c < 16∧0≤s.w∧s.w < 1099511627776∧0≤s.n∧s.n < 1099511627776
instance (last:Int) (s:Sw):Decidable (s.fine last):=by unfold Sw.fine;infer_instance
def swOk(last:Int):List Sw→Bool
 | []=> true
 | s::r=> decide (s.fine last) && swOk s.c r
def swMay(ds:List Sw):Bool:=decide (ds.length≤16) && swOk (-1) ds
def lifeMay(slot gen:Int):Bool:=decide (0≤slot∧slot < 12∧0≤gen∧gen < 65536)
def descRow(g:Int)(ds:List Sw):List Int:= [stateW g 0,(ds.length:Int) * 4] ++ (ds.map fun s=> [s.c * 4,s.w * 4,s.n * 4]).flatten
theorem swOk_mem:∀ {ds:List Sw} {last:Int}, -1≤last→swOk last ds=true→∀ s ∈ ds,0≤s.c∧s.c < 16∧0≤s.w∧s.w < 1099511627776∧0≤s.n∧s.n < 1099511627776:=by
 intro ds
 induction ds with
 | nil=> intro last _ _ s hs;cases hs
 | cons d ds ih=>
   intro last hl h s hs
   unfold swOk at h
   simp only [Bool.and_eq_true,decide_eq_true_eq] at h
   obtain ⟨⟨h1,h2,h3,h4,h5,h6⟩,h7⟩:=h
   rcases List.mem_cons.1 hs with rfl | hs
   ·exact ⟨by omega,h2,h3,h4,h5,h6⟩
   ·exact ih (by omega) h7 s hs
theorem descRow_len(g:Int)(ds:List Sw):(descRow g ds).length=2 + 3 * ds.length:=by
 unfold descRow
 rw [List.length_append]
 have:((ds.map fun s=> [s.c * 4,s.w * 4,s.n * 4]).flatten).length=3 * ds.length:=by
  induction ds with
  | nil=> rfl
  | cons d ds ih=> simp only [List.map_cons,List.flatten_cons,List.length_append,List.length_cons,List.length_nil,ih];omega
 rw [this];rfl
theorem descRow_range{g:Int}{ds:List Sw}(g0:0≤g)(g1:g < 65536)(h:swMay ds=true):∀ x ∈ descRow g ds,I64 x:=by
 unfold swMay at h
 simp only [Bool.and_eq_true,decide_eq_true_eq] at h
 intro x hx
 unfold descRow at hx
 rcases List.mem_append.1 hx with hx | hx
 ·simp only [List.mem_cons,List.not_mem_nil,or_false] at hx
  rcases hx with rfl | rfl
  ·exact stateW_range g0 g1 (by decide) (by decide)
  ·constructor <;> omega
 ·obtain ⟨l,hl,hx⟩:=List.mem_flatten.1 hx
  obtain ⟨s,hs,rfl⟩:=List.mem_map.1 hl
  obtain ⟨h1,h2,h3,h4,h5,h6⟩:=swOk_mem (by decide) h.2 s hs
  simp only [List.mem_cons,List.not_mem_nil,or_false] at hx
  rcases hx with rfl | rfl | rfl <;> constructor <;> omega
section
variable {a b : Nat} {A : Ar} {R : List Part} {h : GH} {K : CC}
theorem T_lifeMay{s g:Int}(hK:K (.bool (lifeMay s g)) h):T Pg 212 [i64 s,i64 g] h K:=by
 apply S212_T
 unfold S212
 unfold lifeMay at hK
 have bad:¬ (0≤s∧s < 12∧0≤g∧g < 65536)→K (.bool false) h:=fun q=> by rw [decide_eq_false q] at hK;exact hK
 refine wk ?_
 refine ifV_cases (fun c1=> ?_) fun c1=> bad (by omega)
 refine wk ?_
 refine ifV_cases (fun c2=> ?_) fun c2=> bad (by omega)
 refine wk ?_
 refine ifV_cases (fun c3=> ?_) fun c3=> bad (by omega)
 refine wk ?_
 rw [decide_eq_decide.2 (show (0≤s∧s < 12∧0≤g∧g < 65536) ↔ g≤65535 by omega)] at hK
 exact hK
def lastOf(ds:List Sw):Nat→Int
 | 0=> -1
 | i + 1=> match ds[i]? with | some s=> s.c | none=> -1
theorem swOk_drop{ds:List Sw}{i:Nat}{s:Sw}(hs:ds[i]?=some s)(last:Int):swOk last (ds.drop i)=(decide (s.fine last) && swOk s.c (ds.drop (i + 1))):=by
 have hi:=(List.getElem?_eq_some_iff.1 hs).1
 have e:ds.drop i=s::ds.drop (i + 1):=by
  rw [List.drop_eq_getElem_cons hi]
  congr 1
  rw [List.getElem?_eq_getElem hi] at hs
  exact Option.some.inj hs
 rw [e];rfl
theorem T_swapsMay{v:VV}{ds:List Sw}(r:rowsAt h 3 v (ds.map encS))(hK:K (.bool (swMay ds)) h):T Pg 233 [v] h K:=by
 apply T.drop
 apply S233_T
 unfold S233
 have hln:=r.len
 rw [List.length_map] at hln
 refine bnd_of hln ?_
 refine wk ?_
 refine ifV_cases (fun c=> ?_) fun c=> ?_
 ·refine ⟨h, .refl _,?_⟩
  have:swMay ds=false:=by unfold swMay;rw [decide_eq_false (by omega)];rfl
  rw [this] at hK;exact hK
 have hm:swMay ds=swOk (-1) ds:=by unfold swMay;rw [decide_eq_true (by omega)];rfl
 rw [hm] at hK
 refine Lfp_fam (ι:=Nat) (fun i=> [v,i64 i]) (fun i h'=> i≤ds.length∧HLe h h'∧swOk (-1) ds=swOk (lastOf ds i) (ds.drop i)∧ -1≤lastOf ds i) (fun i=> ds.length - i) ?_ 0 h ⟨by omega, .refl _,by simp [lastOf],by simp [lastOf]⟩
 intro i h' X ⟨hi,hle,heq,hl⟩ again
 simp only [tup_zero,tup_succ]
 refine bnd_of hln ?_
 refine wk ?_
 refine ifV_cases (fun c1=> ?_) fun c1=> ?_
 ·obtain ⟨s,hs⟩:∃ s,ds[i]?=some s:=⟨_,List.getElem?_eq_getElem (by omega)⟩
  have hse:(ds.map encS)[i]?=some (encS s):=by rw [List.getElem?_map,hs];rfl
  obtain ⟨p,hp,hlp⟩:=(r.le hle).get hse .i64
  refine bnd_of hp (bnd_of hlp ?_)
  intro d hd
  have l1:=hle.new (.row 340 (encS s) 3 true) (hle.none hd)
  refine bnd_of (v:=upd h' d (.row 340 (encS s) 3 true)) (by rw [stV_same];rfl) ?_
  have cell (j:Nat) (v:VV) (hj:(encS s)[j]?=some v):ldV 1 false (.pointer (some ⟨d,0 + j,none⟩)) (upd h' d (.row 340 (encS s) 3 true))=some v:=by rw [ldV_cell (upd_same _ _ _),Nat.zero_add];exact hj
  have e2:=swOk_drop hs (lastOf ds i)
  rw [e2] at heq
  have bad:¬ s.fine (lastOf ds i)→∃ h0,HLe h0 (upd h' d (.row 340 (encS s) 3 true))∧K (.bool false) h0:=fun q=> ⟨h,l1,by rw [decide_eq_false q,Bool.false_and] at heq;rw [heq] at hK;exact hK⟩
  have good':s.fine (lastOf ds i)→X (tup [v,i64 ((i:Int) + 1)]) (upd h' d (.row 340 (encS s) 3 true)):=fun q=> by
   have hlast:lastOf ds (i + 1)=s.c:=by simp only [lastOf,hs]
   exact again (i + 1) _ ⟨by omega,l1,by rw [heq,decide_eq_true q,Bool.true_and,hlast],by rw [hlast];unfold Sw.fine at q;omega⟩ (by omega)
  have tail (hc:lastOf ds i < s.c∧s.c < 16):∀ C:Value→Prop,(∀ z,C z→True)→True:=fun _ _=> trivial
  refine wk ?_
  refine bnd_of (cell 0 _ rfl) ?_
  refine wk ?_
  refine ifV_cases (fun c2=> bad (by unfold Sw.fine;omega)) fun c2=> ?_
  refine wk ?_
  refine bnd_of (cell 0 _ rfl) ?_
  refine wk ?_
  refine ifV_cases (fun c3=> bad (by unfold Sw.fine;omega)) fun c3=> ?_
  refine wk ?_
  refine ifV_cases (fun c4=> ?_) fun c4=> ?_
  ·obtain ⟨j,rfl⟩:∃ j,i=j + 1:=⟨i - 1,by omega⟩
   obtain ⟨s0,hs0⟩:∃ s0,ds[j]?=some s0:=⟨_,List.getElem?_eq_getElem (by omega)⟩
   have hlast:lastOf ds (j + 1)=s0.c:=by simp only [lastOf,hs0]
   have hse0:(ds.map encS)[j]?=some (encS s0):=by rw [List.getElem?_map,hs0];rfl
   obtain ⟨b0,o0,hp0,hf0,_⟩:=(r.le l1).fld hse0 .i64
   have ej:((j + 1:Nat):Int) - 1=(j:Nat):=by omega
   refine wk ?_
   refine bnd_of (cell 0 _ rfl) ?_
   refine bnd_of (sub_id (by omega) (by omega)) ?_
   rw [ej]
   refine bnd_of hp0 ?_
   refine wk ?_
   refine bnd_of (hf0 0 _ rfl) ?_
   refine wk ?_
   refine ifV_cases (fun c5=> bad (by rw [hlast];unfold Sw.fine;omega)) fun c5=> ?_
   refine wk ?_
   refine bnd_of (cell 1 _ rfl) ?_
   refine wk ?_
   refine ifV_cases (fun c6=> bad (by unfold Sw.fine;omega)) fun c6=> ?_
   refine wk ?_
   refine bnd_of (cell 1 _ rfl) ?_
   refine wk ?_
   refine ifV_cases (fun c7=> bad (by unfold Sw.fine;omega)) fun c7=> ?_
   refine wk ?_
   refine bnd_of (cell 2 _ rfl) ?_
   refine wk ?_
   refine ifV_cases (fun c8=> bad (by unfold Sw.fine;omega)) fun c8=> ?_
   refine wk ?_
   refine bnd_of (cell 2 _ rfl) ?_
   refine wk ?_
   refine ifV_cases (fun c9=> bad (by unfold Sw.fine;omega)) fun c9=> ?_
   refine wk ?_
   exact good' (by rw [hlast];unfold Sw.fine;omega)
  ·have:i=0:=by omega
   subst this
   have hlast:lastOf ds 0= -1:=rfl
   refine wk ?_
   refine bnd_of (cell 1 _ rfl) ?_
   refine wk ?_
   refine ifV_cases (fun c6=> bad (by unfold Sw.fine;omega)) fun c6=> ?_
   refine wk ?_
   refine bnd_of (cell 1 _ rfl) ?_
   refine wk ?_
   refine ifV_cases (fun c7=> bad (by unfold Sw.fine;omega)) fun c7=> ?_
   refine wk ?_
   refine bnd_of (cell 2 _ rfl) ?_
   refine wk ?_
   refine ifV_cases (fun c8=> bad (by unfold Sw.fine;omega)) fun c8=> ?_
   refine wk ?_
   refine bnd_of (cell 2 _ rfl) ?_
   refine wk ?_
   refine ifV_cases (fun c9=> bad (by unfold Sw.fine;omega)) fun c9=> ?_
   refine wk ?_
   exact good' (by rw [hlast];unfold Sw.fine;omega)
 ·have:i=ds.length:=by omega
  subst this
  rw [List.drop_length] at heq
  rw [heq] at hK
  exact ⟨h,hle,hK⟩
end
end Go.Proofs.YtfphpafkhljncaaGreat
namespace Go.Proofs.YtfphpafkhljncaaGreat
open Go GW Go.Proofs
attribute [local irreducible] bnd ldV stV ifV binV eqI
set_option maxRecDepth 20000
structure Wr where
 addr:Int
 left:List Int
def Wr.step(w:Wr)(a:Ar):Wr × Bool × Ar:=
 match w.left with
 | []=> (w,true,a)
 | x::r=> (⟨w.addr + 1,r⟩,r.isEmpty,a.put w.addr x)
structure Wr.ok(w:Wr):Prop where
 a0:0≤w.addr
 a1:w.addr + w.left.length≤634
 range:∀ x ∈ w.left,I64 x
theorem Wr.step_ok{w:Wr}{a:Ar}(o:w.ok)(ha:a.ok):(w.step a).1.ok∧(w.step a).2.2.ok:=by
 unfold Wr.step
 split
 ·exact ⟨o,ha⟩
 ·rename_i x r e
  have h1:=o.a1
  have h2:=o.range
  rw [e] at h1 h2
  have h0:=o.a0
  refine ⟨⟨by simp only;omega,by simp only [List.length_cons] at h1;simp only;omega,fun y hy=> h2 y (List.mem_cons_of_mem _ hy)⟩,ha.put _ (h2 x (by simp))⟩
def newWr(slot gen:Int)(ds:List Sw):Wr:=⟨baseOf slot,descRow gen ds⟩
theorem newWr_ok{slot gen:Int}{ds:List Sw}(h1:lifeMay slot gen=true)(h2:swMay ds=true):(newWr slot gen ds).ok:=by
 unfold lifeMay at h1
 simp only [decide_eq_true_eq] at h1
 have hl:ds.length≤16:=by unfold swMay at h2;simp only [Bool.and_eq_true,decide_eq_true_eq] at h2;exact h2.1
 refine ⟨?_,?_,descRow_range h1.2.2.1 h1.2.2.2 h2⟩
 ·simp only [newWr,baseOf];omega
 ·simp only [newWr,baseOf,descRow_len];omega
abbrev rwRow(at_:Nat)(slot:Int)(rv:VV):GObj:= .row 310 [i64 at_,i64 slot,rv] 3 true
def rwP(b:Nat)(w:Wr):Part:=fun h=> ∃ (rv:VV) (n:Nat) (slot:Int) (full:List Int),(0≤slot∧slot < 12∧n≤full.length∧full.length≤50∧w.addr=baseOf slot + n∧w.left=full.drop n)∧All [pts b (rwRow n slot rv),rowP 1 rv (full.map encI)] h
section
variable {a b : Nat} {A : Ar} {R : List Part} {h : GH} {K : CC}
theorem T_wrStep{w:Wr}(hp:All (arP 103 a A::rwP b w::R) h)(ok:w.ok)
  (hK:∀ h',All (arP 103 a (w.step A).2.2::rwP b (w.step A).1::R) h'→K (.tuple #[.bool (w.step A).2.1,i64 0]) h'):T Pg 194 [ptr b,ptr a] h K:=by
 apply S194_T
 unfold S194
 have hp1:All (rwP b w::arP 103 a A::R) h:=hp.up 1
 obtain ⟨rv,hp2⟩:=All.ex hp1
 obtain ⟨n,hp3⟩:=All.ex hp2
 obtain ⟨slot,hp4⟩:=All.ex hp3
 obtain ⟨full,hp5⟩:=All.ex hp4
 obtain ⟨⟨s0,s1,hn,h50,ea,el⟩,hp6⟩:=All.pure hp5
 have hp7:All (pts b (rwRow n slot rv)::rowP 1 rv (full.map encI)::arP 103 a A::R) h:=All.flat hp6
 clear hp hp1 hp2 hp3 hp4 hp5 hp6
 have hp:=hp7
 have hln:lnV rv=some (i64 full.length):=by
  have:=All.len (hp.up 1);rw [List.length_map] at this;exact this
 have shut:∀ {h':GH} {A':Ar} {n':Nat} {w':Wr},n'≤full.length→w'.addr=baseOf slot + n'→w'.left=full.drop n'→All (pts b (rwRow n' slot rv)::rowP 1 rv (full.map encI)::arP 103 a A'::R) h'→All (arP 103 a A'::rwP b w'::R) h':=by
  intro h' A' n' w' h1 h2 h3 hp
  exact ((All.fold (l:= [_,_]) hp).head fun _ z=> ⟨rv,n',slot,full,⟨s0,s1,h1,h50,h2,h3⟩,z⟩).up 1
 refine wk ?_
 refine bnd_of hln ?_
 refine wk ?_
 have hb:baseOf slot=34 + slot * 50:=rfl
 refine ifV_cases (fun c=> ?_) fun c=> ?_
 ·have hlt:n < full.length:=by omega
  obtain ⟨x,hx⟩:∃ x,full[n]?=some x:=⟨_,List.getElem?_eq_getElem hlt⟩
  have hxe:(full.map encI)[n]?=some [i64 x]:=by rw [List.getElem?_map,hx];rfl
  obtain ⟨d,e1,e2,_,_⟩:=(hp.up 1).elt hxe .i64
  have edrop:full.drop n=x::full.drop (n + 1):=by
   rw [List.drop_eq_getElem_cons hlt];congr 1
   rw [List.getElem?_eq_getElem hlt] at hx;exact Option.some.inj hx
  have hxr:I64 x:=ok.range x (by rw [el,edrop];simp)
  have est:w.step A=(⟨w.addr + 1,full.drop (n + 1)⟩,(full.drop (n + 1)).isEmpty,A.put w.addr x):=by
   unfold Wr.step;rw [el,edrop]
  rw [est] at hK
  refine wk ?_
  refine bnd_of e1 (bnd_of (e2 0 1 _ rfl) ?_)
  refine T_rBase s0 s1 ?_
  refine ⟨e2 0 1 _ rfl,?_⟩
  refine wk ?_
  refine L_refStore (hp.up 2) (by omega) (by omega) hxr fun h' hp=> ?_
  replace hp:All (pts b (rwRow n slot rv)::rowP 1 rv (full.map encI)::arP 103 a (A.put (baseOf slot + n) x)::R) h':=hp.re 3 [1,2,0]
  refine wk ?_
  refine st0 hp (rwRow (n + 1) slot rv) rfl (by simp) rfl rfl fun h' hp=> ?_
  unfold S194_j1
  refine wk ?_
  refine bnd_of hln ?_
  refine wk ?_
  have e3:decide ((full.length:Int)≤((n + 1:Nat):Int))=(full.drop (n + 1)).isEmpty:=by
   rw [Bool.eq_iff_iff]
   simp only [decide_eq_true_eq,List.isEmpty_iff,List.drop_eq_nil_iff]
   omega
  rw [e3]
  refine hK _ (shut (by omega) (by simp only;rw [ea];omega) rfl ?_)
  rw [ea];exact hp
 ·have hnn:n=full.length:=by omega
  have est:w.step A=(w,true,A):=by unfold Wr.step;rw [el,hnn,List.drop_length]
  rw [est] at hK
  unfold S194_j1
  refine wk ?_
  refine bnd_of hln ?_
  refine wk ?_
  rw [decide_eq_true (by omega)]
  exact hK _ (shut hn ea el hp)
theorem T_NewWriter{v:VV}{slot gen:Int}{ds:List Sw}(hp:All R h)(r:∀ h',All R h'→rowsAt h' 3 v (ds.map encS))
  (kn:¬ (lifeMay slot gen=true∧swMay ds=true)→K (.tuple #[.pointer none,i64 1300]) h) (ky:lifeMay slot gen=true→swMay ds=true→∀ b h',All (rwP b (newWr slot gen ds)::R) h'→K (.tuple #[ptr b,i64 0]) h'):T Pg 216 [i64 slot,i64 gen,v] h K:=by
 apply S216_T
 unfold S216
 refine T_lifeMay ?_
 refine wk ?_
 refine ifV_bool (fun c=> ?_) fun c=> ?_
 ·exact kn fun q=> by rw [q.1] at c;cases c
 have c1:lifeMay slot gen=true:=by simpa using c
 refine T_swapsMay (r _ hp) ?_
 refine wk ?_
 refine ifV_bool (fun c=> ?_) fun c=> ?_
 ·exact kn fun q=> by rw [q.2] at c;cases c
 have c2:swMay ds=true:=by simpa using c
 have hl:=c1
 unfold lifeMay at hl
 simp only [decide_eq_true_eq] at hl
 have hs:=c2
 unfold swMay at hs
 simp only [Bool.and_eq_true,decide_eq_true_eq] at hs
 have hln:=(r _ hp).len
 rw [List.length_map] at hln
 unfold S216_j1
 refine T_rState hl.2.2.1 hl.2.2.2 (by decide) (by decide) ?_
 refine bnd_of hln ?_
 refine T_rValue (by omega) (by omega) ?_
 refine bs0 (size:=1) hp ([stateW gen 0,(ds.length:Int) * 4].map encI) rfl rfl (by simp) (encI_good _) fun rv h1 hp=> ?_
 obtain ⟨sa,sc,_,rfl,_⟩:=hp.row
 refine wk ?_
 refine nw hp (rwRow 0 slot (.slice sa ([stateW gen 0,(ds.length:Int) * 4].map encI).length sc)) rfl fun b h2 hp=> ?_
 let part (i:Nat):List Int:= [stateW gen 0,(ds.length:Int) * 4] ++ ((ds.take i).map fun s=> [s.c * 4,s.w * 4,s.n * 4]).flatten
 have hlen:∀ i,i≤ds.length→(part i).length=2 + 3 * i:=by
  intro i hi
  have:=descRow_len gen (ds.take i)
  unfold descRow at this
  rw [List.length_append] at this ⊢
  rw [List.length_take,Nat.min_eq_left hi] at this
  exact this
 refine Lfp_fam (ι:=Nat) (fun i=> [v,ptr b,i64 i]) (fun i h'=> i≤ds.length∧∃ rv,All (pts b (rwRow 0 slot rv)::rowP 1 rv ((part i).map encI)::R) h') (fun i=> ds.length - i) ?_ 0 h2 ⟨by omega,_,hp⟩
 intro i h3 X ⟨hi,rv,hp⟩ again
 simp only [tup_zero,tup_succ]
 refine bnd_of hln ?_
 refine wk ?_
 refine ifV_cases (fun c=> ?_) fun c=> ?_
 ·obtain ⟨s,hse⟩:∃ s,ds[i]?=some s:=⟨_,List.getElem?_eq_getElem (by omega)⟩
  have hse':(ds.map encS)[i]?=some (encS s):=by rw [List.getElem?_map,hse];rfl
  obtain ⟨b0,o0,hp0,hf0,_⟩:=(r _ hp.tail.tail).fld hse' .i64
  obtain ⟨m1,m2,m3,m4,m5,m6⟩:=swOk_mem (by decide) hs.2 s (List.mem_of_getElem? hse)
  refine wk ?_
  refine bnd_of hp0 ?_
  refine wk ?_
  refine bnd_of (hf0 0 _ rfl) (bnd_of hp0 ?_)
  refine wk ?_
  refine bnd_of (hf0 1 _ rfl) (bnd_of hp0 ?_)
  refine wk ?_
  refine bnd_of (hf0 2 _ rfl) ?_
  refine T_rValue (by omega) (by omega) ⟨hf0 2 _ rfl,hf0 1 _ rfl,?_⟩
  refine wk ?_
  refine T_rValue (by omega) (by omega) ⟨hf0 2 _ rfl,?_⟩
  refine wk ?_
  refine T_rValue (by omega) (by omega) ?_
  refine wk ?_
  have hp1:All (rowP 1 rv ((part i).map encI)::pts b (rwRow 0 slot rv)::R) h3:=hp.up 1
  refine bs0 (size:=1) hp1 ([s.c * 4,s.w * 4,s.n * 4].map encI) rfl rfl (by simp) (encI_good _) fun xv h4 hp=> ?_
  have hrows:=hp.rows
  refine ap0 (hp.up 1) hrows (encI_good _) (by decide) (by rw [List.length_map,hlen i hi];simp;omega) fun rv' h5 hp=> ?_
  obtain ⟨sa,sc,_,rfl,_⟩:=hp.row
  refine wk ?_
  refine st2 hp (rwRow 0 slot (.slice sa ((part i).map encI ++ [s.c * 4,s.w * 4,s.n * 4].map encI).length sc)) rfl (by simp) rfl rfl fun h6 hp=> ?_
  refine wk ?_
  have ep:(part i).map encI ++ [s.c * 4,s.w * 4,s.n * 4].map encI=(part (i + 1)).map encI:=by
   rw [← List.map_append]
   congr 1
   simp only [part]
   rw [List.take_add_one,hse]
   simp
  rw [ep] at hp
  exact again (i + 1) _ ⟨by omega,_,hp.re 3 [2,0]⟩ (by omega)
 ·have:i=ds.length:=by omega
  subst this
  have e:part ds.length=descRow gen ds:=by simp only [part,List.take_length];rfl
  rw [e] at hp
  refine ky c1 c2 b _ ((All.fold (l:= [_,_]) hp).head fun _ z=> ⟨rv,0,slot,descRow gen ds,⟨hl.1,hl.2.1,by omega,by rw [descRow_len];omega,by simp [newWr],rfl⟩,z⟩)
end
end Go.Proofs.YtfphpafkhljncaaGreat
namespace Go.Proofs.YtfphpafkhljncaaGreat
open Go GW Go.Proofs
set_option maxRecDepth 20000
theorem newAr_ok:newAr.ok:=initA_ok 11 (by decide)
section
variable {a b : Nat} {A : Ar} {R : List Part} {h : GH} {K : CC}
end
theorem i64_of_wf{x:Int}(h:(Lit.int .i64 x).wf=true):I64 x:=by
 simp [Lit.wf,IntKind.min,IntKind.max,IntKind.bits,IntKind.signed] at h
 constructor <;> omega
theorem open_i64s{H:Type}{enc:TypeId × Value→H}{W:World}{fuel:Nat}{cs:List Value}{d:DataW H}{ps:List MemPlace}(h:DataW.trod enc Pg W 0 (fun _=> true) true fuel 52 cs=some (d,ps))(hw:(d.weights Pg 52).all (· ≤reachBytes)=true):
  ∃ v,∃ xs:List Int,cs= [v]∧rowsAt (full W) 1 v (xs.map encI)∧(∀ x ∈ xs,I64 x)∧(xs.length + 2) * 8≤140737488355328:=by
 obtain ⟨v,xs,h1,h2,h3⟩:=open_rows (P:=Pg) (α:={x:Int // I64 x}) (fun x=> encI x.1) Tryz.underlying52 (size:=1) (by kernel_rfl) (by decide) (fun _=> rfl) (fun fuel cs d ps h=> by
  obtain ⟨x,hx,hwf⟩:=open_int_cs (P:=Pg) Tryz.underlying3 h
  exact ⟨⟨x,i64_of_wf hwf⟩,hx⟩) h hw
 have hb:Pg.bytesOf 3=8:=by kernel_rfl
 rw [hb] at h3
 refine ⟨v,xs.map Subtype.val,h1,by rw [List.map_map];exact h2,fun x hx=> ?_,by rw [List.length_map];unfold reachBytes at h3;omega⟩
 obtain ⟨y,_,rfl⟩:=List.mem_map.1 hx
 exact y.2
def eachP{α β:Type}(P:α→β→Part):List α→List β→Part
 | [], []=> emp
 | a::xs,b::ys=> fun h=> All [P a b,eachP P xs ys] h
 | _,_=> fun _=> False
section
variable {α β : Type} {P : α → β → Part} {R : List Part} {h : GH}
theorem eachP_len:∀ {xs:List α} {ys:List β} {h:GH},eachP P xs ys h→xs.length=ys.length:=by
 intro xs
 induction xs with
 | nil=> intro ys h p;cases ys with
   | nil=> rfl
   | cons b ys=> exact p.elim
 | cons a xs ih=> intro ys h p;cases ys with
   | nil=> exact p.elim
   | cons b ys=>
     obtain ⟨h1,h2,_,_,_,_,q⟩:=p
     obtain ⟨h1,h2,_,_,_,q,_⟩:=q
     simp [ih q]
theorem eachP_at:∀ {k:Nat} {xs:List α} {ys:List β} {a:α} {b:β} {R:List Part} {h:GH},xs[k]?=some a→ys[k]?=some b→All (eachP P xs ys::R) h→All (P a b::eachP P (xs.eraseIdx k) (ys.eraseIdx k)::R) h:=by
 intro k
 induction k with
 | zero=>
   intro xs ys a b R h ea eb hp
   cases xs with
   | nil=> simp at ea
   | cons a' xs=> cases ys with
     | nil=> simp at eb
     | cons b' ys=>
       simp at ea eb
       subst ea eb
       exact All.flat hp
 | succ k ih=>
   intro xs ys a b R h ea eb hp
   cases xs with
   | nil=> simp at ea
   | cons a' xs=> cases ys with
     | nil=> simp at eb
     | cons b' ys=>
       have hp1:All (P a' b'::eachP P xs ys::R) h:=All.flat hp
       have hp2:=hp1.mono2 fun _ z=> ih (by simpa using ea) (by simpa using eb) z
       have hp3:All (P a b::P a' b'::eachP P (xs.eraseIdx k) (ys.eraseIdx k)::R) h:=hp2.up 1
       exact hp3.mono2 fun _ z=> All.fold (l:= [_,_]) z
theorem eachP_put:∀ {k:Nat} {xs:List α} {ys:List β} {a:α} {b:β} {R:List Part} {h:GH},xs[k]?=some a→k < ys.length→All (P a b::eachP P (xs.eraseIdx k) (ys.eraseIdx k)::R) h→All (eachP P xs (ys.set k b)::R) h:=by
 intro k
 induction k with
 | zero=>
   intro xs ys a b R h ea eb hp
   cases xs with
   | nil=> simp at ea
   | cons a' xs=> cases ys with
     | nil=> simp at eb
     | cons b' ys=>
       simp at ea
       subst ea
       exact All.fold (l:= [_,_]) hp
 | succ k ih=>
   intro xs ys a b R h ea eb hp
   cases xs with
   | nil=> simp at ea
   | cons a' xs=> cases ys with
     | nil=> simp at eb
     | cons b' ys=>
       have hp1:All (P a b::P a' b'::eachP P (xs.eraseIdx k) (ys.eraseIdx k)::R) h:=hp.mono2 fun _ z=> All.flat z
       have hp2:All (P a' b'::P a b::eachP P (xs.eraseIdx k) (ys.eraseIdx k)::R) h:=hp1.up 1
       have hp3:=hp2.mono2 fun _ z=> ih (by simpa using ea) (by simpa using eb) z
       exact All.fold (l:= [_,_]) hp3
theorem eachP_snoc:∀ {xs:List α} {ys:List β} {a:α} {b:β} {R:List Part} {h:GH},All (P a b::eachP P xs ys::R) h→All (eachP P (xs ++ [a]) (ys ++ [b])::R) h:=by
 intro xs
 induction xs with
 | nil=>
   intro ys a b R h hp
   cases ys with
   | nil=> exact All.fold (l:= [_,_]) hp
   | cons b' ys=> exact (All.case (hp.up 1) fun h1 p _=> p.elim)
 | cons a' xs ih=>
   intro ys a b R h hp
   cases ys with
   | nil=> exact (All.case (hp.up 1) fun h1 p _=> p.elim)
   | cons b' ys=>
     have hp1:All (P a b::P a' b'::eachP P xs ys::R) h:=hp.mono2 fun _ z=> All.flat z
     have hp2:All (P a' b'::P a b::eachP P xs ys::R) h:=hp1.up 1
     have hp3:=hp2.mono2 fun _ z=> ih z
     exact All.fold (l:= [_,_]) hp3
end
def encP(b:Nat):List Value:= [ptr b]
theorem encP_good(bs:List Nat):∀ c ∈ bs.map encP,good 1 c:=by
 intro c hc
 obtain ⟨t,_,rfl⟩:=List.mem_map.1 hc
 exact ⟨rfl,rfl⟩
theorem baseP.le{g:GH}{R:List Part}{h:GH}(hp:All (baseP g::R) h):HLe g h:=by
 obtain ⟨h1,h2,_,l1,_,p,_⟩:=hp
 exact p.trans l1
section
variable {a b c : Nat} {A B : Ar} {R : List Part} {h : GH} {K : CC} {H : Help}
theorem rh_won{C:Prop}(hp:All (rhelpP b H::R) h):ldV 1 false (.pointer (some ⟨b,0 + 3,none⟩)) h=some (.bool H.won)∧ldV 1 false (.pointer (some ⟨b,0 + 6,none⟩)) h=some (.bool H.over)∧ldV 1 false (.pointer (some ⟨b,0 + 1,none⟩)) h=some (i64 H.q):=by
 refine rhelpP_open hp fun sv hp=> ?_
 have e:=hp.pt0
 exact ⟨by rw [ldV_cell e];rfl,by rw [ldV_cell e];rfl,by rw [ldV_cell e];rfl⟩
end
section
variable {A : Ar}
theorem at_touch{k:Int}{i:Nat}{was now j:Int}(ok:A.ok)(hi:i < 634)(h0:0≤j)(h1:j < 634):(A.touch k i was now).at j=if (i:Int)=j then now else A.at j:=by
 unfold Ar.at Ar.touch
 simp only [List.getD_eq_getElem?_getD,List.getElem?_set]
 have hl:=ok.words
 by_cases e:i=j.toNat
 ·rw [if_pos e,if_pos (by omega),if_pos (by omega)];rfl
 ·rw [if_neg e,if_neg (by omega)]
theorem at_ld{i j:Int}(ok:A.ok)(i0:0≤i)(i1:i < 634)(h0:0≤j)(h1:j < 634):(A.ld i).at j=A.at j:=by
 unfold Ar.ld
 rw [at_touch ok (by omega) h0 h1]
 split
 ·rename_i e;congr 1;omega
 ·rfl
theorem at_put{i j x:Int}(ok:A.ok)(i0:0≤i)(i1:i < 634)(h0:0≤j)(h1:j < 634):(A.put i x).at j=if i=j then x else A.at j:=by
 unfold Ar.put
 rw [at_touch ok (by omega) h0 h1]
 by_cases e:i=j
 ·rw [if_pos e,if_pos (by omega)]
 ·rw [if_neg e,if_neg (by omega)]
theorem at_cas{i j o x:Int}(ok:A.ok)(i0:0≤i)(i1:i < 634)(h0:0≤j)(h1:j < 634):(A.cas i o x).at j=if i=j then (if A.at i=o then x else A.at i) else A.at j:=by
 unfold Ar.cas
 rw [at_touch ok (by omega) h0 h1]
 by_cases e:i=j
 ·rw [if_pos e,if_pos (by omega)]
 ·rw [if_neg e,if_neg (by omega)]
end
theorem plainOf_val{v:Int}(h0:0≤v)(h1:v < 1099511627776):plainOf (v * 4)=some v:=by
 have:read (v * 4)=some (.val v):=read_number (f:= .val v) (may_val.2 ⟨h0,h1⟩)
 unfold plainOf;rw [this]
theorem valOf_val{v:Int}(h0:0≤v)(h1:v < 1099511627776):valOf (v * 4)=v:=by unfold valOf;rw [plainOf_val h0 h1];rfl
theorem stateW_val{g st:Int}(h0:0≤g)(h1:g < 65536)(h2:0≤st)(h3:st < 4):(plainOf (stateW g st)).isSome=true:=by
 unfold stateW;rw [plainOf_val (by omega) (by omega)];rfl
section
variable {t q : Int} {A : Ar} {w : Wh} {st : Int} {ds : List Sw}
variable {k : Nat} {d : Sw}
end
attribute [local irreducible] bnd ldV stV ifV binV eqI
structure Rd where
 t:Int
 q:Int
 cell:Int
 value:Int
 help:Option Help
 slot:Int
 gen:Int
 over:Bool
def Rd.new(t q c:Int):Rd:=⟨t,q,c,0,none, -1,0,false⟩
def Rd.may(t q c:Int):Prop:=(0≤t∧t < 4)∧(0≤q∧q < 1048576)∧0≤c∧c < 16
def Rd.load(r:Rd)(A:Ar):Rd × Int × Ar:=
 match plainOf (A.at r.cell) with
 | some v=> ({r with slot:= -1,gen:=0,value:=v,over:=true},0,A.ld r.cell)
 | none=> match newHelp r.t r.q (A.at r.cell) with
   | some H=> ({r with slot:= -1,gen:=0,help:=some H},0,A.ld r.cell)
   | none=> ({r with slot:= -1,gen:=0,over:=true},1500,A.ld r.cell)
def Rd.helping(r:Rd)(H:Help)(A:Ar):Rd × Int × Ar:=
 ({r with slot:=(H.step A).1.slot,gen:=(H.step A).1.gen,q:=(H.step A).1.q,help:=if (H.step A).1.over then none else some (H.step A).1,over:=!decide ((H.step A).2.1=0)},if (H.step A).2.1=0 then 0 else 1500,(H.step A).2.2)
def Rd.step(r:Rd)(A:Ar):Rd × Int × Ar:=
 if r.over then (r,0,A) else
 match r.help with
 | some H=> r.helping H A
 | none=> r.load A
structure Rd.ok(r:Rd):Prop where
 t0:0≤r.t
 t1:r.t < 4
 q0:0≤r.q
 q1:r.q < 1048576
 c0:0≤r.cell
 c1:r.cell < 16
 help:∀ H,r.help=some H→H.ok∧H.over=false
theorem Rd.new_ok{t q c:Int}(m:Rd.may t q c):(Rd.new t q c).ok:=⟨m.1.1,m.1.2,m.2.1.1,m.2.1.2,m.2.2.1,m.2.2.2,fun H h=> by cases h⟩
theorem newHelp_live{t q x:Int}{H:Help}(e:newHelp t q x=some H):H.over=false:=by
 unfold newHelp at e
 split at e
 ·split at e
  ·cases e;rfl
  ·cases e
 ·cases e
theorem Rd.step_ok{r:Rd}{A:Ar}(o:r.ok)(hA:A.ok):(r.step A).1.ok∧(r.step A).2.2.ok:=by
 unfold Rd.step
 split
 ·exact ⟨o,hA⟩
 ·split
  ·rename_i H e
   have h:=o.help H e
   have s:=Help.step_ok h.1 hA
   refine ⟨⟨o.t0,o.t1,s.1.q0,s.1.q1,o.c0,o.c1,fun G e=> ?_⟩,s.2⟩
   simp only [Rd.helping] at e
   split at e
   ·cases e
   ·rename_i n;cases e;exact ⟨s.1,by simpa using n⟩
  ·unfold Rd.load
   split
   ·exact ⟨⟨o.t0,o.t1,o.q0,o.q1,o.c0,o.c1,o.help⟩,hA.ld _⟩
   ·split
    ·rename_i H e
     exact ⟨⟨o.t0,o.t1,o.q0,o.q1,o.c0,o.c1,fun G g=> by cases g;exact ⟨newHelp_ok e,newHelp_live e⟩⟩,hA.ld _⟩
    ·exact ⟨⟨o.t0,o.t1,o.q0,o.q1,o.c0,o.c1,o.help⟩,hA.ld _⟩
def rdRow(r:Rd)(hv:VV):GObj:= .row 384 [i64 r.t,i64 r.q,i64 r.cell,i64 r.value,hv,i64 r.slot,i64 r.gen, .bool r.over] 8 true
def hvP(P:Nat→Help→Part)(hv:VV):Option Help→Part
 | none=> fun _=> hv= .pointer none
 | some H=> fun h=> ∃ b,hv=ptr b∧P b H h
def readP(b:Nat)(r:Rd):Part:=fun h=> ∃ hv,All [pts b (rdRow r hv),hvP helpP hv r.help] h
def rrdRow(r:Rd)(hv:VV):GObj:= .row 304 [i64 r.t,i64 r.q,i64 r.cell,hv,i64 r.value, .bool r.over,i64 r.slot,i64 r.gen] 8 true
def rreadP(b:Nat)(r:Rd):Part:=fun h=> ∃ hv,All [pts b (rrdRow r hv),hvP rhelpP hv r.help] h
section
variable {a b c : Nat} {A : Ar} {R : List Part} {h : GH} {K : CC} {r : Rd}
theorem readP_open{C:Prop}(hp:All (readP b r::R) h)(k:∀ hv,All (pts b (rdRow r hv)::hvP helpP hv r.help::R) h→C):C:=by
 obtain ⟨hv,hp⟩:=All.ex hp
 exact k hv (All.flat hp)
theorem rreadP_open{C:Prop}(hp:All (rreadP b r::R) h)(k:∀ hv,All (pts b (rrdRow r hv)::hvP rhelpP hv r.help::R) h→C):C:=by
 obtain ⟨hv,hp⟩:=All.ex hp
 exact k hv (All.flat hp)
theorem readP_shut{hv:VV}(hp:All (pts b (rdRow r hv)::hvP helpP hv r.help::R) h):All (readP b r::R) h:=(All.fold (l:= [_,_]) hp).head fun h1 z=> ⟨hv,z⟩
theorem rreadP_shut{hv:VV}(hp:All (pts b (rrdRow r hv)::hvP rhelpP hv r.help::R) h):All (rreadP b r::R) h:=(All.fold (l:= [_,_]) hp).head fun h1 z=> ⟨hv,z⟩
theorem hvP_none{P:Nat→Help→Part}{hv:VV}{X:Part}(hp:All (X::hvP P hv none::R) h):hv= .pointer none:=All.case (hp.up 1) fun h1 p _=> p
theorem hvP_some{P:Nat→Help→Part}{hv:VV}{H:Help}{X:Part}(hp:All (X::hvP P hv (some H)::R) h):∃ hb,hv=ptr hb∧All (X::P hb H::R) h:=by
 obtain ⟨hb,hp1⟩:=All.ex (hp.up 1)
 obtain ⟨e,hp1⟩:=All.pure hp1
 exact ⟨hb,e,hp1.up 1⟩
theorem hvP_mk{P:Nat→Help→Part}{H:Help}{X:Part}{hb:Nat}(hp:All (X::P hb H::R) h):All (X::hvP P (ptr hb) (some H)::R) h:=hp.mono2 fun _ z=> z.head fun _ p=> ⟨hb,rfl,p⟩
theorem hvP_no{P:Nat→Help→Part}{X:Part}(hp:All (X::R) h):All (X::hvP P (.pointer none) none::R) h:=hp.mono2 fun _ z=> All.emp_cons z rfl
theorem T_readNew{t q x:Int}(hp:All R h)(kn:¬ Rd.may t q x→∀ h',All R h'→K (.tuple #[.pointer none,i64 1500]) h')(ky:Rd.may t q x→∀ b h',All (readP b (.new t q x)::R) h'→K (.tuple #[ptr b,i64 0]) h'):T Pg 245 [i64 t,i64 q,i64 x] h K:=by
 apply S245_T
 unfold S245
 refine T_ThreadMay ?_
 refine wk ?_
 refine ifN_cases (fun c=> ?_) fun c=> ?_
 ·exact kn (fun m=> c m.1) _ hp
 refine T_Below ?_
 refine wk ?_
 refine ifN_cases (fun c2=> ?_) fun c2=> ?_
 ·exact kn (fun m=> c2 m.2.1) _ hp
 refine T_Below ?_
 refine wk ?_
 refine ifN_cases (fun c3=> ?_) fun c3=> ?_
 ·exact kn (fun m=> c3 m.2.2) _ hp
 refine wk ?_
 refine nw hp (rdRow (.new t q x) (.pointer none)) rfl fun b h1 hp=> ?_
 exact ky ⟨c,c2,c3⟩ b _ (readP_shut (hvP_no hp))
theorem T_rreadNew{t q x:Int}(hp:All R h)(kn:¬ Rd.may t q x→∀ h',All R h'→K (.tuple #[.pointer none,i64 1500]) h')(ky:Rd.may t q x→∀ b h',All (rreadP b (.new t q x)::R) h'→K (.tuple #[ptr b,i64 0]) h'):T Pg 213 [i64 t,i64 q,i64 x] h K:=by
 apply S213_T
 unfold S213
 refine T_threadMay ?_
 refine wk ?_
 refine ifN_cases (fun c=> ?_) fun c=> ?_
 ·exact kn (fun m=> c m.1) _ hp
 refine wk ?_
 refine ifV_cases (fun c2=> kn (fun m=> by have:=m.2;omega) _ hp) fun c2=> ?_
 refine wk ?_
 refine ifV_cases (fun c3=> kn (fun m=> by have:=m.2;omega) _ hp) fun c3=> ?_
 refine wk ?_
 refine ifV_cases (fun c4=> kn (fun m=> by have:=m.2;omega) _ hp) fun c4=> ?_
 refine wk ?_
 refine ifV_cases (fun c5=> kn (fun m=> by have:=m.2;omega) _ hp) fun c5=> ?_
 refine wk ?_
 refine nw hp (rrdRow (.new t q x) (.pointer none)) rfl fun b h1 hp=> ?_
 exact ky ⟨c,by omega,by omega⟩ b _ (rreadP_shut (hvP_no hp))
theorem T_rdValue(hp:All (readP b r::R) h)(hK:K (i64 r.value) h):T Pg 248 [ptr b] h K:=by
 apply S248_T
 unfold S248
 refine readP_open hp fun hv hp=> ?_
 refine wk ?_
 exact hK
theorem T_rdSeq(hp:All (readP b r::R) h)(hK:K (i64 r.q) h):T Pg 318 [ptr b] h K:=by
 apply S318_T
 unfold S318
 refine readP_open hp fun hv hp=> ?_
 refine wk ?_
 exact hK
theorem T_rdThrough(hp:All (readP b r::R) h)(hK:K (.tuple #[i64 r.slot,i64 r.gen]) h):T Pg 320 [ptr b] h K:=by
 apply S320_T
 unfold S320
 refine readP_open hp fun hv hp=> ?_
 refine wk ?_
 exact hK
theorem T_rrdThrough(hp:All (rreadP b r::R) h)(hK:K (.tuple #[i64 r.slot,i64 r.gen]) h):T Pg 215 [ptr b] h K:=by
 apply S215_T
 unfold S215
 refine rreadP_open hp fun hv hp=> ?_
 refine wk ?_
 exact hK
end
end Go.Proofs.YtfphpafkhljncaaGreat
namespace Go.Proofs.YtfphpafkhljncaaGreat
open Go GW Go.Proofs
attribute [local irreducible] bnd ldV stV ifV binV eqI
set_option maxRecDepth 20000
def Half(o:Rd × Int × Ar)(e:Int)(r':Rd):Prop:=(e=0∧o.2.1=0∧r'=o.1)∨(e ≠ 0∧o.2.1=1500∧{r' with over:=true}=o.1)
section
variable {a b c : Nat} {A : Ar} {R : List Part} {h : GH} {K : CC} {r : Rd}
theorem T_rdLoad(hp:All (arP 138 a A::readP b r::R) h)(ok:r.ok)(hn:r.help=none)(hf:r.over=false)
  (hK:∀ h' e r',Half (r.load A) e r'→All (readP b r'::arP 138 a (r.load A).2.2::R) h'→K (i64 e) h'):T Pg 321 [ptr b,ptr a] h K:=by
 apply S321_T
 unfold S321
 refine readP_open (hp.up 1) fun hv hp=> ?_
 obtain ⟨t,q,cell,value,help,slot,gen,over⟩:=r
 simp only at hn hf
 subst hn hf
 obtain rfl:=hvP_none hp
 refine wk ?_
 have hA:=(arP.at (hp.up 2)).2
 have hx:=Ar.at_range hA cell
 refine L_Load (hp.up 2) ok.c0 (by have:=ok.c1;simp only at this ⊢;omega) fun h1 hp=> ?_
 replace hp:=hp.up 1
 refine wk ?_
 refine st0 hp (rdRow ⟨t,q,cell,value,none, -1,gen,false⟩ (.pointer none)) rfl (by simp) rfl rfl fun h2 hp=> ?_
 refine wk ?_
 refine st0 hp (rdRow ⟨t,q,cell,value,none, -1,0,false⟩ (.pointer none)) rfl (by simp) rfl rfl fun h3 hp=> ?_
 refine T_Plain hx.2 ?_
 unfold Rd.load at hK
 simp only at hK
 cases hv:plainOf (A.at cell) with
 | some v=>
   rw [hv] at hK
   simp only [Option.getD_some,Option.isSome_some]
   refine wk ?_
   refine st0 hp (rdRow ⟨t,q,cell,v,none, -1,0,false⟩ (.pointer none)) rfl (by simp) rfl rfl fun h4 hp=> ?_
   refine wk ?_
   refine st0 hp (rdRow ⟨t,q,cell,v,none, -1,0,true⟩ (.pointer none)) rfl (by simp) rfl rfl fun h5 hp=> ?_
   exact hK _ 0 _ (.inl ⟨rfl,rfl,rfl⟩) (readP_shut (hv:= .pointer none) (hvP_no (hp.re 3 [0,1])))
 | none=>
   rw [hv] at hK
   simp only [Option.getD_none,Option.isSome_none]
   refine wk ?_
   refine T_New hp hx (fun en h4 hp=> ?_) fun H en hb h4 hp=> ?_
   ·rw [en] at hK
    refine wk ?_
    refine st0 hp (rdRow ⟨t,q,cell,value,none, -1,0,false⟩ (.pointer none)) rfl (by simp) rfl rfl fun h5 hp=> ?_
    exact hK _ 1400 ⟨t,q,cell,value,none, -1,0,false⟩ (.inr ⟨by decide,rfl,rfl⟩) (readP_shut (hv:= .pointer none) (hvP_no (hp.re 3 [0,1])))
   ·rw [en] at hK
    replace hp:=hp.up 1
    refine wk ?_
    refine st0 hp (rdRow ⟨t,q,cell,value,some H, -1,0,false⟩ (ptr hb)) rfl (by simp) rfl rfl fun h5 hp=> ?_
    exact hK _ 0 _ (.inl ⟨rfl,rfl,rfl⟩) (readP_shut (hvP_mk (hp.re 4 [0,1,2])))
theorem T_rdHelping{H:Help}(hp:All (arP 138 a A::readP b r::R) h)(ok:r.ok)(hn:r.help=some H)(hf:r.over=false)
  (hK:∀ h' e r',Half (r.helping H A) e r'→All (readP b r'::arP 138 a (r.helping H A).2.2::R) h'→K (i64 e) h'):T Pg 322 [ptr b,ptr a] h K:=by
 apply S322_T
 unfold S322
 refine readP_open (hp.up 1) fun hv hp=> ?_
 have hG:=(ok.help H hn).1
 obtain ⟨t,q,cell,value,help,slot,gen,over⟩:=r
 simp only at hn hf
 subst hn hf
 obtain ⟨hb,rfl,hp⟩:=hvP_some hp
 refine wk ?_
 replace hp:All (arP 138 a A::helpP hb H::pts b (rdRow ⟨t,q,cell,value,some H,slot,gen,false⟩ (ptr hb))::R) h:=hp.re 3 [2,1,0]
 refine T_Step hp hG fun h1 hp=> ?_
 unfold Rd.helping at hK
 simp only at hK
 generalize H.step A=p at hp hK ⊢
 obtain ⟨G,e,B⟩:=p
 simp only at hp hK ⊢
 replace hp:All (pts b (rdRow ⟨t,q,cell,value,some H,slot,gen,false⟩ (ptr hb))::helpP hb G::arP 138 a B::R) h1:=hp.re 3 [2,1,0]
 refine wk ?_
 refine T_Through (hp.up 1) ?_
 refine wk ?_
 refine st0 hp (rdRow ⟨t,q,cell,value,some H,G.slot,gen,false⟩ (ptr hb)) rfl (by simp) rfl rfl fun h2 hp=> ?_
 refine wk ?_
 refine st0 hp (rdRow ⟨t,q,cell,value,some H,G.slot,G.gen,false⟩ (ptr hb)) rfl (by simp) rfl rfl fun h3 hp=> ?_
 refine wk ?_
 refine T_Seq (hp.up 1) ?_
 refine wk ?_
 refine st0 hp (rdRow ⟨t,G.q,cell,value,some H,G.slot,G.gen,false⟩ (ptr hb)) rfl (by simp) rfl rfl fun h4 hp=> ?_
 have half:∀ o,Half (({t:=t,q:=G.q,cell:=cell,value:=value,help:=o,slot:=G.slot,gen:=G.gen,over:=!decide (e=0)}:Rd),(if e=0 then 0 else 1500),B) e ⟨t,G.q,cell,value,o,G.slot,G.gen,false⟩:=by
  intro o
  by_cases c:e=0
  ·refine .inl ⟨c,if_pos c,?_⟩
   rw [decide_eq_true c];rfl
  ·refine .inr ⟨c,if_neg c,?_⟩
   rw [decide_eq_false c];rfl
 cases ho:G.over with
 | true=>
   rw [ho] at hK
   simp only [if_true] at hK
   refine wk ?_
   refine st0 hp (rdRow ⟨t,G.q,cell,value,none,G.slot,G.gen,false⟩ (.pointer none)) rfl (by simp) rfl rfl fun h5 hp=> ?_
   exact hK _ e _ (half none) (readP_shut (hv:= .pointer none) (hvP_no (hp.re 3 [0,2])))
 | false=>
   rw [ho] at hK
   simp only [Bool.false_eq_true,if_false] at hK
   refine wk ?_
   exact hK _ e _ (half (some G)) (readP_shut (hvP_mk hp))
theorem T_rdStep(hp:All (arP 138 a A::readP b r::R) h)(ok:r.ok)
  (hK:∀ h',All (arP 138 a (r.step A).2.2::readP b (r.step A).1::R) h'→K (.tuple #[.bool (r.step A).1.over,i64 (r.step A).2.1]) h'):T Pg 319 [ptr b,ptr a] h K:=by
 apply S319_T
 unfold S319
 refine wk ?_
 unfold S319_j1
 refine readP_open (hp.up 1) fun hv hp=> ?_
 refine wk ?_
 unfold Rd.step at hK
 cases hov:r.over with
 | true=>
   rw [hov] at hK
   simp only [if_true] at hK
   refine wk ?_
   have:=hK h ((readP_shut hp).up 1)
   rw [hov] at this
   exact this
 | false=>
   rw [hov] at hK
   simp only [Bool.false_eq_true,if_false] at hK
   refine wk ?_
   unfold S319_j2
   refine wk ?_
   have j3:∀ (o:Rd × Int × Ar) (f:Nat),(∀ h',All (arP 138 a o.2.2::readP b o.1::R) h'→K (.tuple #[.bool o.1.over,i64 o.2.1]) h')→
     (∀ K':CC,(∀ h' e r',Half o e r'→All (readP b r'::arP 138 a o.2.2::R) h'→K' (i64 e) h')→T Pg f [ptr b,ptr a] h K')→S319_j3 (ptr b) (ptr a) (.func (.func f) #[ptr b] #[]) h K:=by
    intro o f hK hT
    unfold S319_j3
    refine hT _ fun h' e r' hf hp=> ?_
    refine readP_open hp fun hv hp=> ?_
    refine wk ?_
    rcases hf with ⟨rfl,e1,rfl⟩ | ⟨e0,e1,er⟩
    ·refine wk ?_
     have:=hK h' ((readP_shut hp).up 1)
     rw [e1] at this
     exact this
    ·refine ifN_cases (fun _=> ?_) fun q=> absurd q e0
     refine wk ?_
     refine st0 hp (rdRow {r' with over:=true} hv) rfl (by simp) rfl rfl fun h5 hp=> ?_
     have z:All (readP b {r' with over:=true}::arP 138 a o.2.2::R) h5:=readP_shut hp
     rw [er] at z
     have:=hK h5 (z.up 1)
     rw [e1, ← er] at this
     exact this
   cases hh:r.help with
   | some H=>
     rw [hh] at hK
     have hp':=hp
     rw [hh] at hp'
     obtain ⟨hb,rfl,_⟩:=hvP_some hp'
     clear hp'
     refine wk ?_
     exact j3 _ _ hK fun K' hK'=> T_rdHelping ((readP_shut hp).up 1) ok hh hov hK'
   | none=>
     rw [hh] at hK
     have hp':=hp
     rw [hh] at hp'
     obtain rfl:=hvP_none hp'
     clear hp'
     refine wk ?_
     exact j3 _ _ hK fun K' hK'=> T_rdLoad ((readP_shut hp).up 1) ok hh hov hK'
end
end Go.Proofs.YtfphpafkhljncaaGreat
namespace Go.Proofs.YtfphpafkhljncaaGreat
open Go GW Go.Proofs
attribute [local irreducible] bnd ldV stV ifV binV eqI
set_option maxRecDepth 20000
section
variable {a b c : Nat} {A : Ar} {R : List Part} {h : GH} {K : CC} {r : Rd}
set_option maxHeartbeats 800000 in
theorem T_rrdStep(hp:All (arP 103 a A::rreadP b r::R) h)(ok:r.ok)
  (hK:∀ h',All (arP 103 a (r.step A).2.2::rreadP b (r.step A).1::R) h'→K (.tuple #[.bool (r.step A).1.over,i64 (r.step A).2.1]) h'):T Pg 214 [ptr b,ptr a] h K:=by
 apply S214_T
 unfold S214
 refine rreadP_open (hp.up 1) fun hv hp=> ?_
 have hA:=(arP.at (hp.up 2)).2
 refine wk ?_
 unfold Rd.step at hK
 obtain ⟨t,q,cell,value,help,slot,gen,over⟩:=r
 cases over with
 | true=>
   simp only [if_true] at hK
   refine wk ?_
   exact hK h ((rreadP_shut hp).up 1)
 | false=>
   simp only [Bool.false_eq_true,if_false] at hK
   refine wk ?_
   cases help with
   | some H=>
     have hG:=(ok.help H rfl).1
     obtain ⟨hb,rfl,hp⟩:=hvP_some hp
     refine wk ?_
     replace hp:All (arP 103 a A::rhelpP hb H::pts b (rrdRow ⟨t,q,cell,value,some H,slot,gen,false⟩ (ptr hb))::R) h:=hp.re 3 [2,1,0]
     refine T_rStep hp hG fun h1 hp=> ?_
     unfold Rd.helping at hK
     simp only at hK
     generalize H.step A=p at hp hK ⊢
     obtain ⟨G,e,B⟩:=p
     simp only at hp hK ⊢
     replace hp:All (pts b (rrdRow ⟨t,q,cell,value,some H,slot,gen,false⟩ (ptr hb))::rhelpP hb G::arP 103 a B::R) h1:=hp.re 3 [2,1,0]
     refine wk ?_
     refine T_rThrough (hp.up 1) ?_
     refine wk ?_
     refine st0 hp (rrdRow ⟨t,q,cell,value,some H,G.slot,gen,false⟩ (ptr hb)) rfl (by simp) rfl rfl fun h2 hp=> ?_
     refine wk ?_
     refine st0 hp (rrdRow ⟨t,q,cell,value,some H,G.slot,G.gen,false⟩ (ptr hb)) rfl (by simp) rfl rfl fun h3 hp=> ?_
     refine rhelpP_open (hp.up 1) fun sv hp=> ?_
     replace hp:All (pts b (rrdRow ⟨t,q,cell,value,some H,G.slot,G.gen,false⟩ (ptr hb))::pts hb (rhRow G sv)::rstkP sv G::arP 103 a B::R) h3:=hp.re 4 [2,0,1,3]
     refine wk ?_
     refine st0 hp (rrdRow ⟨t,G.q,cell,value,some H,G.slot,G.gen,false⟩ (ptr hb)) rfl (by simp) rfl rfl fun h4 hp=> ?_
     replace hp:All (pts b (rrdRow ⟨t,G.q,cell,value,some H,G.slot,G.gen,false⟩ (ptr hb))::rhelpP hb G::arP 103 a B::R) h4:=by
      have z:=All.fold (l:= [_,_]) (hp.re 4 [1,2,0,3])
      have z2:=z.head (Q:=rhelpP hb G) fun h1 z=> ⟨sv,z⟩
      exact z2.re 3 [1,0,2]
     have j1:∀ (o:Option Help) (hv':VV) (hh:GH),(∀ h',All (arP 103 a B::rreadP b ⟨t,G.q,cell,value,o,G.slot,G.gen,!decide (e=0)⟩::R) h'→K (.tuple #[.bool (!decide (e=0)),i64 (if e=0 then 0 else 1500)]) h')→
       All (pts b (rrdRow ⟨t,G.q,cell,value,o,G.slot,G.gen,false⟩ hv')::hvP rhelpP hv' o::arP 103 a B::R) hh→S214_j1 (ptr b) (i64 e) hh K:=by
      intro o hv' hh hK hp
      unfold S214_j1
      refine wk ?_
      refine ifN_cases (fun c=> ?_) fun c=> ?_
      ·refine wk ?_
       refine st0 hp (rrdRow ⟨t,G.q,cell,value,o,G.slot,G.gen,true⟩ hv') rfl (by simp) rfl rfl fun h5 hp=> ?_
       rw [decide_eq_false c,if_neg c] at hK
       exact hK h5 ((rreadP_shut hp).up 1)
      ·rw [decide_eq_true c,if_pos c] at hK
       exact hK hh ((rreadP_shut hp).up 1)
     cases ho:G.over with
     | true=>
       rw [ho] at hK
       simp only [if_true] at hK
       refine wk ?_
       refine st0 hp (rrdRow ⟨t,G.q,cell,value,none,G.slot,G.gen,false⟩ (.pointer none)) rfl (by simp) rfl rfl fun h5 hp=> ?_
       exact j1 none _ _ hK (hvP_no (hp.re 3 [0,2]))
     | false=>
       rw [ho] at hK
       simp only [Bool.false_eq_true,if_false] at hK
       refine wk ?_
       exact j1 (some G) _ _ hK (hvP_mk hp)
   | none=>
     obtain rfl:=hvP_none hp
     unfold Rd.load at hK
     simp only at hK
     have hx:=Ar.at_range hA cell
     refine wk ?_
     refine st0 hp (rrdRow ⟨t,q,cell,value,none, -1,gen,false⟩ (.pointer none)) rfl (by simp) rfl rfl fun h2 hp=> ?_
     refine wk ?_
     refine st0 hp (rrdRow ⟨t,q,cell,value,none, -1,0,false⟩ (.pointer none)) rfl (by simp) rfl rfl fun h3 hp=> ?_
     refine wk ?_
     refine L_refLoad (hp.up 2) ok.c0 (by have:=ok.c1;simp only at this ⊢;omega) fun h1 hp=> ?_
     replace hp:=hp.up 1
     refine wk ?_
     refine T_GetWord hx.2 ?_
     refine wk ?_
     replace hp:=hp.re 3 [0,1]
     refine nwst hp (.row 225 (wOf (A.at cell)).enc 7 true) rfl rfl rfl (by rfl) fun d h4 hp=> ?_
     replace hp:=hp.re 3 [1,2,0]
     refine wk ?_
     cases hr:read (A.at cell) with
     | none=>
       have e0:eOf (A.at cell)=100:=by unfold eOf;rw [hr]
       have p0:plainOf (A.at cell)=none:=by unfold plainOf;rw [hr]
       have n0:newHelp t q (A.at cell)=none:=by unfold newHelp;rw [hr];rfl
       rw [p0,n0] at hK
       rw [e0]
       refine ifN_cases (fun _=> ?_) fun q=> absurd q (by decide)
       refine wk ?_
       refine st0 hp (rrdRow ⟨t,q,cell,value,none, -1,0,true⟩ (.pointer none)) rfl (by simp) rfl rfl fun h5 hp=> ?_
       have z:=hp.re 3 [0,1]
       exact hK h5 ((rreadP_shut (hv:= .pointer none) (hvP_no z)).up 1)
     | some f=>
       have e0:eOf (A.at cell)=0:=by unfold eOf;rw [hr]
       have w0:wOf (A.at cell)=f.plain:=by unfold wOf;rw [hr]
       rw [e0]
       rw [w0] at hp
       refine ifN_cases (fun q=> absurd rfl q) fun _=> ?_
       have new:plainOf (A.at cell)=none→(∃ H,newHelp t q (A.at cell)=some H)→T Pg 196 [i64 t,i64 q,i64 (A.at cell)] h4 fun v81 h82=> bnd (exV v81 0) fun v83=> bnd (exV v81 1) fun v84=> bnd (ncV (ptr b)) fun v85=> bnd (faV 3 v85) fun v86=> bnd (stV 1 v86 v83 h82) fun h87=> K (.tuple #[(.bool false),(i64 0)]) h87:=by
        intro p0 ⟨H,en⟩
        rw [p0,en] at hK
        refine T_NewHelp hp hx (fun e=> by rw [en] at e;cases e) fun H' e hb h5 hp=> ?_
        rw [en] at e
        cases e
        replace hp:=hp.up 1
        refine wk ?_
        refine st0 hp (rrdRow ⟨t,q,cell,value,some H, -1,0,false⟩ (ptr hb)) rfl (by simp) rfl rfl fun h6 hp=> ?_
        exact hK h6 ((rreadP_shut (hvP_mk (hp.re 4 [0,1,2]))).up 1)
       cases f with
       | val v=>
         have p0:plainOf (A.at cell)=some v:=by unfold plainOf;rw [hr]
         rw [p0] at hK
         refine wk ?_
         refine st0 hp (rrdRow ⟨t,q,cell,v,none, -1,0,false⟩ (.pointer none)) rfl (by simp) rfl rfl fun h5 hp=> ?_
         refine wk ?_
         refine st0 hp (rrdRow ⟨t,q,cell,v,none, -1,0,true⟩ (.pointer none)) rfl (by simp) rfl rfl fun h6 hp=> ?_
         have z:=hp.re 3 [0,1]
         exact hK h6 ((rreadP_shut (hv:= .pointer none) (hvP_no z)).up 1)
       | mcas s g=>
         have p0:plainOf (A.at cell)=none:=by unfold plainOf;rw [hr]
         have n0:∃ H,newHelp t q (A.at cell)=some H:=by
          unfold newHelp;rw [hr];simp only [Option.bind_some,newFr]
          rw [if_pos ⟨ok.t0,ok.t1,ok.q0,ok.q1⟩];exact ⟨_,rfl⟩
         refine wk ?_
         exact new p0 n0
       | entry s g e' t' q'=>
         have p0:plainOf (A.at cell)=none:=by unfold plainOf;rw [hr]
         have n0:∃ H,newHelp t q (A.at cell)=some H:=by
          unfold newHelp;rw [hr];simp only [Option.bind_some,newFr]
          rw [if_pos ⟨ok.t0,ok.t1,ok.q0,ok.q1⟩];exact ⟨_,rfl⟩
         refine wk ?_
         exact new p0 n0
end
end Go.Proofs.YtfphpafkhljncaaGreat
namespace Go.Proofs.YtfphpafkhljncaaGreat
open Go GW Go.Proofs
structure Op where
 kind:Int
 a:Int
 b:Int
 x:Int
def Op.ints(t:Op):List Int:= [t.kind,t.a,t.b,t.x]
def Op.enc(t:Op):List Value:= [i64 t.kind,i64 t.a,i64 t.b,i64 t.x]
theorem Op.ext_ints{a b:Op}(h:a.ints=b.ints):a=b:=by
 cases a;cases b;simpa [Op.ints] using h
instance :DecidableEq Op:=fun a b=> if h:a.ints=b.ints then .isTrue (Op.ext_ints h) else .isFalse fun e=> h (by rw [e])
theorem Op.enc_good(t:Op):good 4 t.enc:=⟨rfl,rfl⟩
theorem Op.all_good(ts:List Op):∀ c ∈ ts.map Op.enc,good 4 c:=by
 intro c hc
 obtain ⟨t,_,rfl⟩:=List.mem_map.1 hc
 exact t.enc_good
theorem Op.eqLaw(a b:Op):eqP Pg 10000 24 (.agg a.enc.toArray) (.agg b.enc.toArray)=some (decide (a=b)):=by
 have h:eqP Pg 10000 24 (.agg a.enc.toArray) (.agg b.enc.toArray)=some ((a.kind==b.kind) && ((a.a==b.a) && ((a.b==b.b) && ((a.x==b.x) && true)))):=by kernel_rfl
 rw [h]
 cases a;cases b
 simp [Bool.decide_and,Bool.beq_eq_decide_eq]
theorem T_SameOps{v w:VV}{us ws:List Op}{h:GH}{K:CC}(r:rowsAt h 4 v (us.map Op.enc))(q:rowsAt h 4 w (ws.map Op.enc))(hK:K (.bool (decide (us=ws))) h):T Pg 94 [v,w] h K:=by
 apply S94_T
 unfold S94
 have ⟨a,n,cap,hv,hl,_,hm,_⟩:=r
 have ⟨a2,n2,cap2,hw,hl2,_,hm2,_⟩:=q
 simp only [List.length_map] at hl hl2
 subst hv;subst hw
 simp only [bi_,ei_,en_,ni_,lf_,sf_,lg_,sg_,x2_,li_,lnV_slice,bnd_some,eqI_int]
 by_cases hlen:n=n2
 ·have e1:((n:Int)=(n2:Int)):=by omega
  simp only [e1,decide_true,Bool.not_true,ifV_false]
  refine Lfp_fam (ι:=Nat) (fun i=> [.slice a n cap, .slice a2 n2 cap2,i64 i]) (fun i h'=> i≤n∧h'=h∧us.take i=ws.take i) (fun i=> n - i) ?_ 0 h ⟨by omega,rfl,by simp⟩
  intro i h' X ⟨hi,he,hsame⟩ again
  subst he
  simp only [bi_,ei_,en_,ni_,lf_,sf_,lg_,sg_,x2_,li_,tup_zero,tup_succ,lnV_slice,binV_lss,bnd_some,ifV_dec]
  split
  ·rename_i hlt
   obtain ⟨x,hx⟩:∃ x,us[i]?=some x:=⟨_,List.getElem?_eq_getElem (by omega)⟩
   obtain ⟨y,hy⟩:∃ y,ws[i]?=some y:=⟨_,List.getElem?_eq_getElem (by omega)⟩
   obtain ⟨p,hp,hlp⟩:=r.get (i:=i) (c:=x.enc) (by simp [hx]) .i64
   obtain ⟨p2,hp2,hlp2⟩:=q.get (i:=i) (c:=y.enc) (by simp [hy]) .i64
   simp only [bi_,ei_,en_,ni_,lf_,sf_,lg_,sg_,x2_,li_,hp,hlp,hp2,hlp2,bnd_some,Op.eqLaw]
   by_cases hxy:x=y
   ·simp only [bi_,ei_,en_,ni_,lf_,sf_,lg_,sg_,x2_,li_,hxy,decide_true,Bool.not_true,ifV_false,binV_add,bnd_some]
    rw [wrap_id (by omega) (by omega)]
    refine again (i + 1) _ ⟨by omega,rfl,?_⟩ (by omega)
    rw [List.take_add_one,List.take_add_one,hsame,hx,hy,hxy]
   ·simp only [bi_,ei_,en_,ni_,lf_,sf_,lg_,sg_,x2_,li_,hxy,decide_false,Bool.not_false,ifV_true]
    have:us ≠ ws:=fun e=> hxy (by rw [e,hy] at hx;cases hx;rfl)
    simpa [this] using hK
  ·have hi:i=n:=by omega
   have:us=ws:=by
    rw [List.take_of_length_le (by omega),List.take_of_length_le (by omega)] at hsame
    exact hsame
   simpa [this] using hK
 ·have e1:¬ ((n:Int)=(n2:Int)):=by omega
  simp only [bi_,ei_,en_,ni_,lf_,sf_,lg_,sg_,x2_,li_,e1,decide_false,Bool.not_false,ifV_true]
  have:us ≠ ws:=fun e=> hlen (by rw [← hl, ← hl2,e])
  simpa [this] using hK
structure Answer where
 code:Int
 num:Int
def Answer.ints(t:Answer):List Int:= [t.code,t.num]
def Answer.enc(t:Answer):List Value:= [i64 t.code,i64 t.num]
theorem Answer.ext_ints{a b:Answer}(h:a.ints=b.ints):a=b:=by
 cases a;cases b;simpa [Answer.ints] using h
instance :DecidableEq Answer:=fun a b=> if h:a.ints=b.ints then .isTrue (Answer.ext_ints h) else .isFalse fun e=> h (by rw [e])
theorem Answer.enc_good(t:Answer):good 2 t.enc:=⟨rfl,rfl⟩
theorem Answer.all_good(ts:List Answer):∀ c ∈ ts.map Answer.enc,good 2 c:=by
 intro c hc
 obtain ⟨t,_,rfl⟩:=List.mem_map.1 hc
 exact t.enc_good
theorem Answer.eqLaw(a b:Answer):eqP Pg 10000 122 (.agg a.enc.toArray) (.agg b.enc.toArray)=some (decide (a=b)):=by
 have h:eqP Pg 10000 122 (.agg a.enc.toArray) (.agg b.enc.toArray)=some ((a.code==b.code) && ((a.num==b.num) && true)):=by kernel_rfl
 rw [h]
 cases a;cases b
 simp [Bool.decide_and,Bool.beq_eq_decide_eq]
theorem T_SameAnswers{v w:VV}{us ws:List Answer}{h:GH}{K:CC}(r:rowsAt h 2 v (us.map Answer.enc))(q:rowsAt h 2 w (ws.map Answer.enc))(hK:K (.bool (decide (us=ws))) h):T Pg 72 [v,w] h K:=by
 apply S72_T
 unfold S72
 have ⟨a,n,cap,hv,hl,_,hm,_⟩:=r
 have ⟨a2,n2,cap2,hw,hl2,_,hm2,_⟩:=q
 simp only [List.length_map] at hl hl2
 subst hv;subst hw
 simp only [bi_,ei_,en_,ni_,lf_,sf_,lg_,sg_,x2_,li_,lnV_slice,bnd_some,eqI_int]
 by_cases hlen:n=n2
 ·have e1:((n:Int)=(n2:Int)):=by omega
  simp only [e1,decide_true,Bool.not_true,ifV_false]
  refine Lfp_fam (ι:=Nat) (fun i=> [.slice a n cap, .slice a2 n2 cap2,i64 i]) (fun i h'=> i≤n∧h'=h∧us.take i=ws.take i) (fun i=> n - i) ?_ 0 h ⟨by omega,rfl,by simp⟩
  intro i h' X ⟨hi,he,hsame⟩ again
  subst he
  simp only [bi_,ei_,en_,ni_,lf_,sf_,lg_,sg_,x2_,li_,tup_zero,tup_succ,lnV_slice,binV_lss,bnd_some,ifV_dec]
  split
  ·rename_i hlt
   obtain ⟨x,hx⟩:∃ x,us[i]?=some x:=⟨_,List.getElem?_eq_getElem (by omega)⟩
   obtain ⟨y,hy⟩:∃ y,ws[i]?=some y:=⟨_,List.getElem?_eq_getElem (by omega)⟩
   obtain ⟨p,hp,hlp⟩:=r.get (i:=i) (c:=x.enc) (by simp [hx]) .i64
   obtain ⟨p2,hp2,hlp2⟩:=q.get (i:=i) (c:=y.enc) (by simp [hy]) .i64
   simp only [bi_,ei_,en_,ni_,lf_,sf_,lg_,sg_,x2_,li_,hp,hlp,hp2,hlp2,bnd_some,Answer.eqLaw]
   by_cases hxy:x=y
   ·simp only [bi_,ei_,en_,ni_,lf_,sf_,lg_,sg_,x2_,li_,hxy,decide_true,Bool.not_true,ifV_false,binV_add,bnd_some]
    rw [wrap_id (by omega) (by omega)]
    refine again (i + 1) _ ⟨by omega,rfl,?_⟩ (by omega)
    rw [List.take_add_one,List.take_add_one,hsame,hx,hy,hxy]
   ·simp only [bi_,ei_,en_,ni_,lf_,sf_,lg_,sg_,x2_,li_,hxy,decide_false,Bool.not_false,ifV_true]
    have:us ≠ ws:=fun e=> hxy (by rw [e,hy] at hx;cases hx;rfl)
    simpa [this] using hK
  ·have hi:i=n:=by omega
   have:us=ws:=by
    rw [List.take_of_length_le (by omega),List.take_of_length_le (by omega)] at hsame
    exact hsame
   simpa [this] using hK
 ·have e1:¬ ((n:Int)=(n2:Int)):=by omega
  simp only [bi_,ei_,en_,ni_,lf_,sf_,lg_,sg_,x2_,li_,e1,decide_false,Bool.not_false,ifV_true]
  have:us ≠ ws:=fun e=> hlen (by rw [← hl, ← hl2,e])
  simpa [this] using hK
def All2{α β:Type}(R:α→β→Prop)(xs:List α)(ys:List β):Prop:=xs.length=ys.length∧∀ (i:Nat) x y,xs[i]?=some x→ys[i]?=some y→R x y
theorem All2.mono{α β:Type}{R S:α→β→Prop}{xs:List α}{ys:List β}(a:All2 R xs ys)(h:∀ x y,R x y→S x y):All2 S xs ys:=⟨a.1,fun i x y hx hy=> h x y (a.2 i x y hx hy)⟩
theorem All2.of{α β:Type}{R:α→β→Prop}{Q:α→Prop}(h:∀ x,Q x→∃ y,R x y):∀ (xs:List α),(∀ x ∈ xs,Q x)→∃ ys,All2 R xs ys:=by
 intro xs
 induction xs with
 | nil=> intro _;exact ⟨[],rfl,fun i x y hx=> by simp at hx⟩
 | cons x xs ih=>
   intro hq
   obtain ⟨y,hy⟩:=h x (hq x (by simp))
   obtain ⟨ys,h1,h2⟩:=ih fun z hz=> hq z (List.mem_cons_of_mem _ hz)
   refine ⟨y::ys,by simp [h1],fun i a b ha hb=> ?_⟩
   cases i with
   | zero=> simp at ha hb;subst ha;subst hb;exact hy
   | succ i=> exact h2 i a b (by simpa using ha) (by simpa using hb)
theorem All2.get{α β:Type}{R:α→β→Prop}{xs:List α}{ys:List β}(a:All2 R xs ys){i:Nat}{y:β}(hy:ys[i]?=some y):∃ x,xs[i]?=some x∧R x y:=by
 have hi:=(List.getElem?_eq_some_iff.1 hy).1
 obtain ⟨x,hx⟩:∃ x,xs[i]?=some x:=⟨_,List.getElem?_eq_getElem (by have:=a.1;omega)⟩
 exact ⟨_,hx,a.2 i _ _ hx hy⟩
abbrev Txn:=List Op
def txnC(h:GH)(c:List Value)(t:Txn):Prop:=∃ w,c= [w]∧rowsAt h 4 w (t.map Op.enc)
def thrC(h:GH)(c:List Value)(ts:List Txn):Prop:=∃ w es,c= [w]∧rowsAt h 1 w es∧All2 (txnC h) es ts
def threadsAt(h:GH)(v:VV)(p:List (List Txn)):Prop:=∃ es,rowsAt h 1 v es∧All2 (thrC h) es p
theorem txnC.le{h h':GH}{c:List Value}{t:Txn}(a:txnC h c t)(l:HLe h h'):txnC h' c t:=by
 obtain ⟨w,h1,h2⟩:=a
 exact ⟨w,h1,h2.le l⟩
theorem thrC.le{h h':GH}{c:List Value}{t:List Txn}(a:thrC h c t)(l:HLe h h'):thrC h' c t:=by
 obtain ⟨w,es,h1,h2,h3⟩:=a
 exact ⟨w,es,h1,h2.le l,h3.mono fun x y q=> q.le l⟩
theorem threadsAt.le{h h':GH}{v:VV}{p:List (List Txn)}(a:threadsAt h v p)(l:HLe h h'):threadsAt h' v p:=by
 obtain ⟨es,h2,h3⟩:=a
 exact ⟨es,h2.le l,h3.mono fun x y q=> q.le l⟩
structure Plan where
 threads:List (List Txn)
 attempts:Int
 polite:Bool
def planC(v:VV)(p:Plan):List Value:= [v,i64 p.attempts, .bool p.polite]
def ruleOf(k:Int):Option (Int × Int × Int):=
 if k=0 then some (4,1,1048576) else if k=1 then some (4,1,1) else if k=2 then some (4,1,1048576) else if k=3 then some (4,1,1048576) else if k=4 then some (4,4,1048576) else
 if k=5 then some (1,1,1) else if k=6 then some (5,1,2) else if k=7 then some (5,1,1) else if k=8 then some (5,1,1) else if k=9 then some (1,1,1) else if k=10 then some (5,5,1) else none
def Op.may(o:Op):Bool:=match ruleOf o.kind with
 | some (a,b,x)=> decide (0≤o.a∧o.a < a) && (decide (0≤o.b∧o.b < b) && decide (0≤o.x∧o.x < x))
 | none=> false
def Txn.may(t:Txn):Bool:=t.all Op.may && (decide (1≤(t.length:Int)) && decide ((t.length:Int)≤2))
def thrMay(ts:List Txn):Bool:=decide (ts.length≤8) && ts.all Txn.may
def Plan.may(p:Plan):Bool:=decide (1≤p.threads.length∧p.threads.length≤4∧1≤p.attempts∧p.attempts≤16) && p.threads.all thrMay
def opAt(h:GH)(b o:Nat)(x:Op):Prop:=∀ (j:Nat) v,x.enc[j]?=some v→ldV 1 false (.pointer (some ⟨b,o + j,none⟩)) h=some v
theorem HLe.ld{h h':GH}(l:HLe h h'){n:Nat}{g:Bool}{p v:VV}(e:ldV n g p h=some v):ldV n g p h'=some v:=by
 unfold ldV at e ⊢
 split at e
 ·split at e
  ·rename_i he;rw [l _ _ he];exact e
  ·cases e
 ·cases e
def rules:List Value:= [4,1,1048576,4,1,1,4,1,1048576,4,1,1048576,4,4,1048576,1,1,1,5,1,2,5,1,1,5,1,1,1,1,1,5,5,1].map i64
theorem rules_at(k:Nat)(hk:k < 11):∃ a b x,(rules.drop (k * 3)).take 3= [i64 a,i64 b,i64 x]∧ruleOf k=some (a,b,x):=by
 match k,hk with
 | 0,_ | 1,_ | 2,_ | 3,_ | 4,_ | 5,_ | 6,_ | 7,_ | 8,_ | 9,_ | 10,_=> exact ⟨_,_,_,rfl,rfl⟩
theorem T_OpMay{b o:Nat}{x:Op}{h:GH}{K:CC}(hx:opAt h b o x)(hK:K (.bool x.may) h):T Pg 127 [.pointer (some ⟨b,o,none⟩)] h K:=by
 apply T.drop
 apply S127_T
 unfold S127
 refine bnd_of rfl (bnd_of rfl (bnd_of rfl (bnd_of rfl (bnd_of rfl (bnd_of rfl (bnd_of rfl (bnd_of rfl (bnd_of rfl (bnd_of rfl (bnd_of rfl (bnd_of rfl ?_)))))))))))
 refine new_st rules rfl rfl rfl rfl fun b0 h1 f0 e0 l1=> ?_
 have ld (j:Nat) (v:VV) (h':GH) (l:HLe h h') (hj:x.enc[j]?=some v):ldV 1 false (.pointer (some ⟨b,o + j,none⟩)) h'=some v:=HLe.ld l (hx j v hj)
 refine bnd_of rfl (bnd_of rfl (bnd_of (ld 0 _ h1 l1 rfl) ?_))
 refine T_Below (bnd_of rfl ?_)
 rw [ifV_iff]
 split
 ·rename_i hc
  refine ⟨h,l1,?_⟩
  have:x.may=false:=by
   unfold Op.may ruleOf
   simp at hc
   repeat rw [if_neg (by omega)]
  rw [this] at hK;exact hK
 rename_i hc
 have hc:0≤x.kind∧x.kind < 11:=by simpa using hc
 obtain ⟨k,hk⟩:=Int.eq_ofNat_of_zero_le hc.1
 have hk11:k < 11:=by omega
 obtain ⟨ra,rb,rx,hr,hr2⟩:=rules_at k hk11
 have hmay:x.may=(decide (0≤x.a∧x.a < ra) && (decide (0≤x.b∧x.b < rb) && decide (0≤x.x∧x.x < rx))):=by
  unfold Op.may;rw [hk];rw [hr2]
 refine bnd_of rfl (bnd_of rfl (bnd_of (ld 0 _ h1 l1 rfl) ?_))
 rw [hk]
 refine bnd_of (iaV_at hk11 .i64) (bnd_of (v:= .agg [i64 ra,i64 rb,i64 rx].toArray) ?_ ?_)
 ·rw [ldV_agg e0 _ _ (by have:rules.length=33:=rfl;omega),Nat.zero_add,hr]
 refine new_st [i64 ra,i64 rb,i64 rx] rfl rfl rfl rfl fun b2 h2 f2 e2 l2=> ?_
 have l12:=l1.trans l2
 refine bnd_of rfl (bnd_of rfl (bnd_of (ld 1 _ h2 l12 rfl) (bnd_of rfl (bnd_of (v:=i64 ra) (by rw [ldV_cell e2];rfl) ?_))))
 refine T_Below ?_
 rw [ifV_dec]
 split
 ·rename_i c1
  refine bnd_of rfl (bnd_of rfl (bnd_of (ld 2 _ h2 l12 rfl) (bnd_of rfl (bnd_of (v:=i64 rb) (by rw [ldV_cell e2];rfl) ?_))))
  refine T_Below ?_
  rw [ifV_dec]
  split
  ·rename_i c2
   refine bnd_of rfl (bnd_of rfl (bnd_of (ld 3 _ h2 l12 rfl) (bnd_of rfl (bnd_of (v:=i64 rx) (by rw [ldV_cell e2];rfl) ?_))))
   refine T_Below ⟨h,l12,?_⟩
   have:x.may=decide (0≤x.x∧x.x < rx):=by rw [hmay,decide_eq_true c1,decide_eq_true c2];rfl
   rw [this] at hK;exact hK
  ·rename_i c2
   refine ⟨h,l12,?_⟩
   have:x.may=false:=by rw [hmay,decide_eq_false c2];simp
   rw [this] at hK;exact hK
 ·rename_i c1
  refine ⟨h,l12,?_⟩
  have:x.may=false:=by rw [hmay,decide_eq_false c1];simp
  rw [this] at hK;exact hK
theorem T_OpsMay{v:VV}{t:Txn}{h:GH}{K:CC}(r:rowsAt h 4 v (t.map Op.enc))(hK:K (.bool t.may) h):T Pg 108 [v] h K:=by
 apply S108_T
 unfold S108
 have hln:=r.len
 have hmx:=r.max
 rw [List.length_map] at hln hmx
 refine bnd_of hln ?_
 refine Lfp_fam (ι:=Nat) (fun i=> [v,i64 t.length,i64 i]) (fun i h'=> i≤t.length∧h'=h∧(t.take i).all Op.may=true) (fun i=> t.length - i) ?_ 0 h ⟨Nat.zero_le _,rfl,rfl⟩
 intro i h' X ⟨hi,hh,hok⟩ again
 subst hh
 simp only [bi_,ei_,en_,ni_,lf_,sf_,lg_,sg_,x2_,li_,tup_zero,tup_succ,binV_lss,bnd_some,ifV_dec]
 split
 ·rename_i hlt
  obtain ⟨x,hx⟩:∃ x,t[i]?=some x:=⟨_,List.getElem?_eq_getElem (by omega)⟩
  obtain ⟨b,o,e2,hf,ha⟩:=r.fld (i:=i) (c:=x.enc) (by simp [hx]) .i64
  refine bnd_of e2 (T_OpMay hf (bnd_of rfl ?_))
  rw [ifV_iff]
  split
  ·rename_i hm
   have:t.may=false:=by
    unfold Txn.may
    have:t.all Op.may=false:=List.all_eq_false.2 ⟨x,List.mem_of_getElem? hx,by simpa using hm⟩
    rw [this];rfl
   rw [this] at hK;exact hK
  ·rename_i hm
   refine bnd_of (binV_add _ _ _) ?_
   rw [wrap_id (by omega) (by omega)]
   refine again (i + 1) h' ⟨by omega,rfl,?_⟩ (by omega)
   rw [List.take_add_one,hx,List.all_append,hok]
   simpa using hm
 ·rename_i hge
  have hall:t.take i=t:=List.take_of_length_le (by omega)
  rw [hall] at hok
  refine bnd_of hln (bnd_of (binV_geq _ _ _) ?_)
  rw [ifV_dec]
  split
  ·rename_i c1
   refine bnd_of hln (bnd_of (binV_leq _ _ _) ?_)
   have:t.may=decide ((t.length:Int)≤2):=by unfold Txn.may;rw [hok,decide_eq_true c1];rfl
   rw [this] at hK;exact hK
  ·rename_i c1
   have:t.may=false:=by unfold Txn.may;rw [decide_eq_false c1];simp
   rw [this] at hK;exact hK
theorem op_eq4(k a b x k' a' b' x':Int):eqP Pg 10000 24 (.agg [.int .i64 k, .int .i64 a, .int .i64 b, .int .i64 x].toArray) (.agg [.int .i64 k', .int .i64 a', .int .i64 b', .int .i64 x'].toArray)=some (decide (k=k'∧a=a'∧b=b'∧x=x')):=by
 have:=Op.eqLaw ⟨k,a,b,x⟩ ⟨k',a',b',x'⟩
 simp only [Op.enc,Op.mk.injEq] at this
 exact this
theorem T_OpMayRef{x:Op}{h:GH}{K:CC}(hK:K (.bool x.may) h):T Pg 117 [.agg x.enc.toArray] h K:=by
 apply T.drop
 apply S117_T
 unfold S117
 obtain ⟨k,a,b,x⟩:=x
 intro b1 hb1
 refine bnd_of rfl (bnd_of (v:=i64 k) (by rw [ldV_same];rfl) (bnd_of rfl (bnd_of (v:=i64 a) (by rw [ldV_same];rfl) (bnd_of rfl ?_))))
 intro b2 hb2
 have hne:b1 ≠ b2:=by rintro rfl;simp at hb2
 refine bnd_of (v:=upd (upd h b1 (.row 24 [i64 k,i64 a,i64 b,i64 x] 4 true)) b2 (.row 24 [i64 k,i64 a,i64 0,i64 0] 4 true)) (by rw [stV_same];rfl) ?_
 have l:∀ g,HLe h (upd (upd h b1 (.row 24 [i64 k,i64 a,i64 b,i64 x] 4 true)) b2 g):=fun g=> ((HLe.refl h).new _ hb1).new _ (((HLe.refl h).new _ hb1).none hb2)
 have fin:∀ g z,z=(Op.mk k a b x).may→∃ h0,HLe h0 (upd (upd h b1 (.row 24 [i64 k,i64 a,i64 b,i64 x] 4 true)) b2 g)∧K (.bool z) h0:=fun g z e=> ⟨h,l g,by rw [e];exact hK⟩
 unfold S117_j1 S117_j2 S117_j3 S117_j4 S117_j5
 simp only [bi_,ei_,en_,ni_,lf_,sf_,lg_,sg_,x2_,li_,bnd_some,bnd_none,ifV_true,ifV_false,ifV_dec,ifV_iff,Bool.not_eq_true,Bool.not_eq_eq_eq_not,Bool.not_true,Bool.not_false,decide_eq_true_eq,decide_eq_false_iff_not,tup_zero,tup_succ,binV_add,binV_sub,binV_mul,binV_quo,binV_rem,binV_lss,binV_leq,binV_gtr,binV_geq,eqI_int,cvV_int,unV_not,lnV_slice,exV_tuple,ncV_pointer,faV_pointer,pickO_true,pickO_false,cells_agg,cells_int,cells_bool,cells_pointer,cells_slice,cells_iface,cells_nilIface,cells_func,cells_nilFunc,one_int,one_bool,one_pointer,one_slice,one_iface,one_nilIface,one_func,one_nilFunc,ldV_same,ldV_same_agg,stV_same,upd_same,upd_upd,setCells_nil,setCells_cons,List.set_cons_zero,List.set_cons_succ,List.length_cons,List.length_nil,List.size_toArray,List.all_cons,List.all_nil,Bool.and_true,Bool.and_self,Nat.zero_add,Nat.add_zero,Nat.reduceAdd,Nat.reduceLeDiff,Nat.le_refl,and_self,and_true,true_and,if_true,if_false,List.getElem?_cons_zero,List.getElem?_cons_succ,List.getElem?_toArray,List.drop_zero,List.drop_succ_cons,List.take_succ_cons,List.take_zero,List.take_nil,reduceIte,Int.reduceNeg,Int.reduceEq,Int.reduceLT,Int.reduceLE,Nat.reduceEqDiff,List.length_set,ldV_other hne,op_eq4]
 have cases:k=0∨k=1∨k=2∨k=3∨k=4∨k=5∨k=6∨k=7∨k=8∨k=9∨k=10∨ruleOf k=none:=by
  unfold ruleOf
  by_cases h0:0≤k∧k < 11
  ·omega
  ·repeat rw [if_neg (by omega)]
   simp
 rcases cases with rfl | rfl | rfl | rfl | rfl | rfl | rfl | rfl | rfl | rfl | rfl | hk
 all_goals clear hK
 iterate 11 rotate_left
 ·have n (j:Int) (hj:0≤j∧j < 11):k ≠ j:=by
   rintro rfl
   unfold ruleOf at hk
   by_cases q0:k=0; · simp [q0] at hk
   by_cases q1:k=1; · simp [q1] at hk
   by_cases q2:k=2; · simp [q2] at hk
   by_cases q3:k=3; · simp [q3] at hk
   by_cases q4:k=4; · simp [q4] at hk
   by_cases q5:k=5; · simp [q5] at hk
   by_cases q6:k=6; · simp [q6] at hk
   by_cases q7:k=7; · simp [q7] at hk
   by_cases q8:k=8; · simp [q8] at hk
   by_cases q9:k=9; · simp [q9] at hk
   by_cases q10:k=10; · simp [q10] at hk
   omega
  have hm:(Op.mk k a b x).may=false:=by unfold Op.may;rw [hk]
  (try simp only [bi_,ei_,en_,ni_,lf_,sf_,lg_,sg_,x2_,li_,bnd_some,bnd_none,ifV_true,ifV_false,ifV_dec,ifV_iff,Bool.not_eq_true,Bool.not_eq_eq_eq_not,Bool.not_true,Bool.not_false,decide_eq_true_eq,decide_eq_false_iff_not,tup_zero,tup_succ,binV_add,binV_sub,binV_mul,binV_quo,binV_rem,binV_lss,binV_leq,binV_gtr,binV_geq,eqI_int,cvV_int,unV_not,lnV_slice,exV_tuple,ncV_pointer,faV_pointer,pickO_true,pickO_false,cells_agg,cells_int,cells_bool,cells_pointer,cells_slice,cells_iface,cells_nilIface,cells_func,cells_nilFunc,one_int,one_bool,one_pointer,one_slice,one_iface,one_nilIface,one_func,one_nilFunc,ldV_same,ldV_same_agg,stV_same,upd_same,upd_upd,setCells_nil,setCells_cons,List.set_cons_zero,List.set_cons_succ,List.length_cons,List.length_nil,List.size_toArray,List.all_cons,List.all_nil,Bool.and_true,Bool.and_self,Nat.zero_add,Nat.add_zero,Nat.reduceAdd,Nat.reduceLeDiff,Nat.le_refl,and_self,and_true,true_and,if_true,if_false,List.getElem?_cons_zero,List.getElem?_cons_succ,List.getElem?_toArray,List.drop_zero,List.drop_succ_cons,List.take_succ_cons,List.take_zero,List.take_nil,reduceIte,Int.reduceNeg,Int.reduceEq,Int.reduceLT,Int.reduceLE,Nat.reduceEqDiff,List.length_set,n 0 (by decide),n 1 (by decide),n 2 (by decide),n 3 (by decide),n 4 (by decide),n 5 (by decide),n 6 (by decide),n 7 (by decide),n 8 (by decide),n 9 (by decide),n 10 (by decide)])
  repeat' split
  all_goals first | (exact fin _ _ hm.symm) | (exfalso;simp_all;done)
 all_goals (try simp only [bi_,ei_,en_,ni_,lf_,sf_,lg_,sg_,x2_,li_,bnd_some,bnd_none,ifV_true,ifV_false,ifV_dec,ifV_iff,Bool.not_eq_true,Bool.not_eq_eq_eq_not,Bool.not_true,Bool.not_false,decide_eq_true_eq,decide_eq_false_iff_not,tup_zero,tup_succ,binV_add,binV_sub,binV_mul,binV_quo,binV_rem,binV_lss,binV_leq,binV_gtr,binV_geq,eqI_int,cvV_int,unV_not,lnV_slice,exV_tuple,ncV_pointer,faV_pointer,pickO_true,pickO_false,cells_agg,cells_int,cells_bool,cells_pointer,cells_slice,cells_iface,cells_nilIface,cells_func,cells_nilFunc,one_int,one_bool,one_pointer,one_slice,one_iface,one_nilIface,one_func,one_nilFunc,ldV_same,ldV_same_agg,stV_same,upd_same,upd_upd,setCells_nil,setCells_cons,List.set_cons_zero,List.set_cons_succ,List.length_cons,List.length_nil,List.size_toArray,List.all_cons,List.all_nil,Bool.and_true,Bool.and_self,Nat.zero_add,Nat.add_zero,Nat.reduceAdd,Nat.reduceLeDiff,Nat.le_refl,and_self,and_true,true_and,if_true,if_false,List.getElem?_cons_zero,List.getElem?_cons_succ,List.getElem?_toArray,List.drop_zero,List.drop_succ_cons,List.take_succ_cons,List.take_zero,List.take_nil,reduceIte,Int.reduceNeg,Int.reduceEq,Int.reduceLT,Int.reduceLE,Nat.reduceEqDiff,List.length_set])
 all_goals repeat' split
 all_goals first | (exfalso;simp_all;done) | (refine fin _ _ ?_;rw [Bool.eq_iff_iff];simp [Op.may,ruleOf] <;> omega)
end Go.Proofs.YtfphpafkhljncaaGreat
