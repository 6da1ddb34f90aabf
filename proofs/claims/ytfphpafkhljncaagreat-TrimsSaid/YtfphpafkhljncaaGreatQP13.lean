/- Several texts in one; nothing here is a statement on the program. -/
import Derived.Test.YtfphpafkhljncaaGreatQP12
set_option linter.unusedVariables false
set_option linter.unusedSimpArgs false
namespace Go.Proofs.YtfphpafkhljncaaGreat
open Go GW Go.Proofs
attribute [local irreducible] bnd ldV stV ifV binV eqI
set_option maxRecDepth 20000
section
variable {R : List Part} {h : GH} {K : Value → GH → Prop}
theorem T_rlimboMay{v:Value}{rs:List Ret}(r:rowsAt h 2 v (rs.map Ret.enc))(g:∀ r ∈ rs,r.good)(hK:K (.bool true) h):T Tryz.prog 169 [v] h K:=by
 apply S169_T
 unfold S169
 have hl:lnV v=some (i64 rs.length):=by have:=r.len;rw [List.length_map] at this;exact this
 have hm:rs.length≤9223372036854775807:=by have:=r.max;rw [List.length_map] at this;exact this
 refine Lfp_fam (ι:=Nat) (fun i=> [v,i64 i]) (fun i h'=> i≤rs.length∧h'=h) (fun i=> rs.length - i) ?_ 0 h ⟨Nat.zero_le _,rfl⟩
 rintro i h1 X ⟨hi,hh⟩ again
 subst hh
 simp only [tup_zero,tup_succ]
 refine bnd_of hl ?_
 refine wk ?_
 refine ifV_cases (fun c=> ?_) fun c=> hK
 obtain ⟨y,hy⟩:∃ y,rs[i]?=some y:=⟨_,List.getElem?_eq_getElem (by omega)⟩
 obtain ⟨g1,g2⟩:=g y (List.mem_of_getElem? hy)
 obtain ⟨b0,o0,j1,j2,_⟩:=r.fld (i:=i) (c:=y.enc) (by rw [List.getElem?_map,hy];rfl) .i64
 have l0:=j2 0 (i64 y.slot) rfl
 have l1:=j2 1 (i64 y.epoch) rfl
 refine bnd_of j1 (bnd_of rfl (bnd_of l0 ?_))
 refine wk ?_
 refine ifV_n (by omega) ?_
 refine bnd_of j1 (bnd_of rfl (bnd_of l0 ?_))
 refine wk ?_
 refine ifV_n (by omega) ?_
 refine bnd_of j1 (bnd_of rfl (bnd_of l1 ?_))
 refine wk ?_
 refine ifV_n (by omega) ?_
 refine bnd_of j1 (bnd_of rfl (bnd_of l1 ?_))
 refine wk ?_
 refine ifV_n (by omega) ?_
 refine wk ?_
 exact again (i + 1) _ ⟨by omega,rfl⟩ (by omega)
theorem T_rTakeLimbo{v:Value}{rs:List Ret}{e:Int}(hp:All R h)(r:∀ h',All R h'→rowsAt h' 2 v (rs.map Ret.enc))(g:∀ r ∈ rs,r.good)(e0:0≤e)(e1:e < 1073741824)(hb:rs.length≤100000)
  (hK:∀ v1 v2 h',All (rowP 1 v1 ((ripes rs e).map encI)::rowP 2 v2 ((rests rs e).map Ret.enc)::R) h'→K (.tuple #[v1,v2,i64 0]) h'):T Tryz.prog 144 [v,i64 e] h K:=by
 apply S144_T
 unfold S144
 refine T_rlimboMay (r _ hp) g ?_
 refine wk ?_
 refine ifV_n (by omega) ?_
 refine wk ?_
 refine ifV_n (by omega) ?_
 unfold S144_j1
 have hl:lnV v=some (i64 rs.length):=by have:=(r _ hp).len;rw [List.length_map] at this;exact this
 refine Lfp_fam (ι:=Nat × Value × Value) (fun p=> [v,i64 e,p.2.1,p.2.2,i64 p.1]) (fun p h'=> p.1≤rs.length∧All (rowP 1 p.2.1 ((ripes (rs.take p.1) e).map encI)::rowP 2 p.2.2 ((rests (rs.take p.1) e).map Ret.enc)::R) h') (fun p=> rs.length - p.1) ?_ (0, .slice none 0 0, .slice none 0 0) h ⟨Nat.zero_le _,?_⟩
 rotate_left
 ·exact All.emp_cons (P:=rowP 1 (.slice none 0 0) []) (All.emp_cons (P:=rowP 2 (.slice none 0 0) []) hp (rowP_nil _ _)) (rowP_nil _ _)
 clear hp
 rintro ⟨i,v1,v2⟩ h2 X ⟨hi,hp⟩ again
 simp only at hi hp
 simp only [tup_zero,tup_succ]
 refine bnd_of hl ?_
 refine wk ?_
 refine ifV_cases (fun c=> ?_) fun c=> ?_
 ·obtain ⟨y,hy⟩:∃ y,rs[i]?=some y:=⟨_,List.getElem?_eq_getElem (by omega)⟩
  obtain ⟨g1,g2⟩:=g y (List.mem_of_getElem? hy)
  obtain ⟨b0,o0,j1,j2,_⟩:=(r _ hp.tail.tail).fld (i:=i) (c:=y.enc) (by rw [List.getElem?_map,hy];rfl) .i64
  obtain ⟨p,d1,d2⟩:=(r _ hp.tail.tail).get (i:=i) (c:=y.enc) (by rw [List.getElem?_map,hy];rfl) .i64
  have l0:=j2 0 (i64 y.slot) rfl
  have l1:=j2 1 (i64 y.epoch) rfl
  refine bnd_of j1 (bnd_of rfl (bnd_of l1 ?_))
  refine bnd_of (sub_id (by omega) (by omega)) ?_
  have ts:rs.take (i + 1)=rs.take i ++ [y]:=by rw [List.take_add_one,hy];rfl
  have l1:(ripes (rs.take i) e).length + (rests (rs.take i) e).length=i:=by rw [ripes_rests,List.length_take];omega
  refine wk ?_
  refine ifV_cases (fun c2=> ?_) fun c2=> ?_
  ·have hr:isRipe e y=true:=decide_eq_true (by omega)
   refine bnd_of j1 (bnd_of rfl (bnd_of l0 ?_))
   refine bs0 (size:=1) hp ([y.slot].map encI) rfl rfl (by simp) (encI_good _) fun u h4 hp=> ?_
   have r2:=hp.rows
   refine ap0 (hn (hp.up 1)) r2 (encI_good _) (by decide) (by simp only [List.length_map,List.length_cons,List.length_nil];omega) fun v1' h5 hp=> ?_
   replace hp:=YtfphpafkhljncaaGreat.hn hp
   refine wk ?_
   refine again (i + 1,v1',v2) _ ⟨by simp only;omega,?_⟩ (by simp only;omega)
   have hp2:=hn (hp.re 3 [0,2])
   simp only [ts,ripes_snoc,rests_snoc,hr,if_true,List.append_nil,List.map_append]
   exact hp2
  ·have hr:¬ isRipe e y=true:=by unfold isRipe;rw [decide_eq_true_eq];omega
   refine bnd_of d1 (bnd_of d2 ?_)
   refine bs0 (size:=2) hp ([y].map Ret.enc) rfl rfl (by simp) (ret_good _) fun u h4 hp=> ?_
   have r2:=hp.rows
   refine ap0 (hn (hp.up 2)) r2 (ret_good _) (by decide) (by simp only [List.length_map,List.length_cons,List.length_nil];omega) fun v2' h5 hp=> ?_
   replace hp:=YtfphpafkhljncaaGreat.hn hp
   refine wk ?_
   refine again (i + 1,v1,v2') _ ⟨by simp only;omega,?_⟩ (by simp only;omega)
   have hp2:=hn (hp.re 3 [2,0])
   simp only [ts,ripes_snoc,rests_snoc,if_neg hr,List.append_nil,List.map_append]
   exact hp2
 ·have:i=rs.length:=by omega
  subst this
  rw [List.take_length] at hp
  exact hK _ _ _ hp
theorem T_rPause{pol:Bool}{k:Int}(k0:1≤k)(k1:k≤16)(hK:K (.tuple #[i64 (pauseM pol k),i64 0]) h):T Tryz.prog 176 [.bool pol,i64 k] h K:=by
 apply S176_T
 unfold S176
 refine wk ?_
 refine ifV_n (by omega) ?_
 refine wk ?_
 refine ifV_n (by omega) ?_
 unfold S176_j1
 unfold pauseM at hK
 cases pol with
 | false=> refine wk ?_;exact hK
 | true=>
  refine wk ?_
  rw [if_neg (by rintro (h | h);cases h;omega)] at hK
  refine Lfp_fam (ι:=Nat) (fun i=> [i64 k,i64 ((2 ^ i:Nat):Int),i64 ((i:Int) + 1)]) (fun i h'=> i≤3∧(i:Int) + 1≤k∧h'=h) (fun i=> 3 - i) ?_ 0 h ⟨by omega,by omega,rfl⟩
  rintro i h1 X ⟨hi,hk,hh⟩ again
  subst hh
  simp only [tup_zero,tup_succ]
  have fin:(k=i + 1∨i=3)→K (.tuple #[i64 ((2 ^ i:Nat):Int),i64 0]) h1:=by
   intro q
   have e:((2 ^ i:Nat):Int)=min 8 (2 ^ (k.toNat - 1)):=by
    have hc:i=0∨i=1∨i=2∨i=3:=by omega
    rcases q with q | q
    ·have:k.toNat - 1=i:=by omega
     rw [this]
     rcases hc with rfl | rfl | rfl | rfl <;> rfl
    ·subst q
     have:(8:Int)≤2 ^ (k.toNat - 1):=by
      have all:∀ n:Fin 16,3≤n.val→(8:Int)≤2 ^ n.val:=by decide
      exact all ⟨k.toNat - 1,by omega⟩ (by simp only;omega)
     rw [Int.min_eq_left this];rfl
   rw [e];exact hK
  refine wk ?_
  refine ifV_cases (fun c2=> ?_) fun c2=> ?_
  ·refine wk ?_
   refine ifV_cases (fun c3=> ?_) fun c3=> ?_
   ·have hi3:i < 3:=by
     rcases Nat.lt_or_ge i 3 with q | q
     ·exact q
     ·obtain rfl:i=3:=by omega
      omega
    have e2:2 * ((2 ^ i:Nat):Int)=((2 ^ (i + 1):Nat):Int):=by rw [Nat.pow_succ];omega
    have hb:((2 ^ i:Nat):Int)≤8∧0≤((2 ^ i:Nat):Int):=by
     have hc:i=0∨i=1∨i=2:=by omega
     rcases hc with rfl | rfl | rfl <;> decide
    refine bnd_of (mul_id (by omega) (by omega)) ?_
    refine wk ?_
    have:=again (i + 1) h1 ⟨by omega,by omega,rfl⟩ (by omega)
    rw [← e2] at this
    exact this
   ·have hc:i=3:=by
     have hc:i=0∨i=1∨i=2∨i=3:=by omega
     rcases hc with rfl | rfl | rfl | rfl
     ·exact absurd (by decide) c3
     ·exact absurd (by decide) c3
     ·exact absurd (by decide) c3
     ·rfl
    refine bnd_of (eqI_int _ _ _) ?_
    rw [decide_eq_false (by omega)]
    refine wk ?_
    exact fin (.inr hc)
  ·refine bnd_of (eqI_int _ _ _) ?_
   rw [decide_eq_false (by omega)]
   refine wk ?_
   exact fin (.inl (by omega))
end
end Go.Proofs.YtfphpafkhljncaaGreat
namespace Go.Proofs.YtfphpafkhljncaaGreat
open Go GW Go.Proofs
attribute [local irreducible] bnd ldV stV ifV binV eqI
set_option maxRecDepth 20000
structure RV where
 tv:Value
 cv:Value
 lv:Value
 pc:Int
 rv:Value
 ep:Value
 up:Value
 pp:Value
 ap:Value
 dp:Value
 e:Int
 w:Bool
 ev:Value
 ts:Int
 tg:Int
def rthRow(x:Th)(v:RV):GObj:= .row 169 [i64 x.id,i64 x.n,i64 x.k, .bool x.pol,v.tv,v.cv,v.lv,i64 x.seq,i64 v.pc,i64 x.slot,v.rv,v.ep,v.up,v.pp,v.ap,v.dp,i64 x.tries,i64 x.pause,i64 v.e, .bool v.w,v.ev,i64 v.ts,i64 v.tg] 23 true
def rentP(b:Nat)(n:Ent):Part:=fun h=> n.fits∧pts b (rentRow n) h
def rpushP(b:Nat)(n:Push):Part:=fun h=> n.l.fits∧pts b (rpushRow n) h
def rpopP(b:Nat)(n:Pop):Part:=fun h=> n.l.fits∧pts b (rpopRow n) h
def radvP(b:Nat)(n:Adv):Part:=fun h=> ∃ pc,(n.over=false→pc=n.asked + 1)∧pts b (radvRow pc n) h
def rtV(b:Nat)(x:Th)(v:RV):Part:=fun h=> All [pts b (rthRow x v),tvP v.tv x.txns,evsP v.ev x.evs,rowP 1 v.cv (x.cache.map encI),rowP 2 v.lv (x.limbo.map Ret.enc),rowP 1 v.rv (x.ripe.map encI),opP rentP v.ep x.ent,opP rpushP v.up x.push,opP rpopP v.pp x.pop,opP rattP v.ap x.att,opP radvP v.dp x.adv] h
section
variable {P1 P2 : Part} {a b lb sz : Nat} {U : TypeId} {pre post : List Value} {pick : Int} {A : Ar} {L : List Int} {R : List Part} {h : GH} {K : Value → GH → Prop} {x : Th} {v : RV}
theorem rto(hp:All (P1::P2::rtV b x v::R) h):All (pts b (rthRow x v)::P1::P2::tvP v.tv x.txns::evsP v.ev x.evs::rowP 1 v.cv (x.cache.map encI)::rowP 2 v.lv (x.limbo.map Ret.enc)::rowP 1 v.rv (x.ripe.map encI)::opP rentP v.ep x.ent::opP rpushP v.up x.push::opP rpopP v.pp x.pop::opP rattP v.ap x.att::opP radvP v.dp x.adv::R) h:=by
 have hp:=hn (hp.up 2)
 have hp:All (pts b (rthRow x v)::tvP v.tv x.txns::evsP v.ev x.evs::rowP 1 v.cv (x.cache.map encI)::rowP 2 v.lv (x.limbo.map Ret.enc)::rowP 1 v.rv (x.ripe.map encI)::opP rentP v.ep x.ent::opP rpushP v.up x.push::opP rpopP v.pp x.pop::opP rattP v.ap x.att::opP radvP v.dp x.adv::P1::P2::R) h:=All.flat (hp.head fun _ z=> z)
 exact hn (hp.re 13 [0,11,12,1,2,3,4,5,6,7,8,9,10])
theorem rts(hp:All (pts b (rthRow x v)::P1::P2::tvP v.tv x.txns::evsP v.ev x.evs::rowP 1 v.cv (x.cache.map encI)::rowP 2 v.lv (x.limbo.map Ret.enc)::rowP 1 v.rv (x.ripe.map encI)::opP rentP v.ep x.ent::opP rpushP v.up x.push::opP rpopP v.pp x.pop::opP rattP v.ap x.att::opP radvP v.dp x.adv::R) h):All (P1::P2::rtV b x v::R) h:=by
 have hp:=hn (hp.re 13 [0,3,4,5,6,7,8,9,10,11,12,1,2])
 have hp:All (rtV b x v::P1::P2::R) h:=(All.fold (l:= [_,_,_,_,_,_,_,_,_,_,_]) hp).head fun _ z=> z
 exact hn (hp.re 3 [1,2,0])
theorem T_rtThrough{R:List Part}(hp:All (rtV b x v::R) h)(hK:K (.tuple #[i64 v.ts,i64 v.tg]) h):T Tryz.prog 98 [ptr b] h K:=by
 apply S98_T
 unfold S98
 have hp:All (pts b (rthRow x v)::tvP v.tv x.txns::evsP v.ev x.evs::rowP 1 v.cv (x.cache.map encI)::rowP 2 v.lv (x.limbo.map Ret.enc)::rowP 1 v.rv (x.ripe.map encI)::opP rentP v.ep x.ent::opP rpushP v.up x.push::opP rpopP v.pp x.pop::opP rattP v.ap x.att::opP radvP v.dp x.adv::R) h:=All.flat (hp.head fun _ z=> z)
 unfold rthRow at hp
 refine wk ?_
 exact hK
theorem T_rtWith{s:Int}(hp:All (arP 103 a A::pts lb (lvRow U sz pre L post)::rtV b x v::R) h)(oi:∀ (i:Nat) e,x.evs[i]?=some e→e.index=i)(oe:x.evs.length≤x.txns.length)(ot:thrMay x.txns=true)(live:x.evs ≠ [])(s0:0≤s)(s1:s < 12)(lo:Lok L)
  (hK:∀ ap h',All (arP 103 a A::pts lb (lvRow U sz pre (lived s L) post)::rtV b (x.with_ s L) {v with ap:=ap,pc:=4}::R) h'→K (.tuple #[]) h'):T Tryz.prog 166 [ptr b,i64 s,lvP pre.length lb] h K:=by
 apply S166_T
 unfold S166
 obtain ⟨i,rfl⟩:=Int.eq_ofNat_of_zero_le s0
 have hi:i < 12:=by omega
 have hL:i < L.length:=by rw [lo.1];exact hi
 have yr:=lo.at i
 have hp:=rto hp
 unfold lvP
 refine wk ?_
 refine bnd_of (iaV_at hi .i64) ?_
 refine bnd_of (lv_ld (hn (hp.up 2)) hL) ?_
 refine bnd_of (add_id (by omega) (by omega)) ?_
 refine wk ?_
 refine bnd_of (iaV_at hi .i64) ?_
 replace hp:=hn (hp.up 2)
 refine lv_st (y:=L.getD i 0 + 1) hp hL fun h1 hp=> ?_
 replace hp:=hn (hp.re 3 [1,2,0])
 have hL2:i < (L.set i (L.getD i 0 + 1)).length:=by rw [List.length_set];exact hL
 have eg:(L.set i (L.getD i 0 + 1)).getD i 0=L.getD i 0 + 1:=by
  rw [List.getD_eq_getElem?_getD,List.getElem?_set_self hL];rfl
 unfold rthRow at hp
 refine wk ?_
 refine st0 hp (rthRow {x with slot:=(i:Int)} v) rfl le_ rfl rfl fun h2 hp=> ?_
 have lvl:=lv_ld (hn (hp.up 2)) hL2
 rw [eg] at lvl
 unfold rthRow at hp
 refine wk ?_
 refine bnd_of (iaV_at hi .i64) ?_
 refine bnd_of lvl ?_
 refine wk ?_
 have evl:lnV v.ev=some (i64 x.evs.length):=evP_len (hn (hp.up 4))
 refine bnd_of evl ?_
 have l0:=List.length_pos_iff.2 live
 have tx:=thrMay_spec ot
 refine bnd_of (sub_id (by omega) (by omega)) ?_
 rw [show (x.evs.length:Int) - 1=((x.evs.length - 1:Nat):Int) by omega]
 -- its transaction
 replace hp:=hn (hp.up 3)
 refine tvP_open hp fun cs hp=> ?_
 obtain ⟨e,w,g1,g2,_⟩:∃ e w,x.evs.getLast?=some e∧x.evs[x.evs.length - 1]?=some e∧w=():=by
  obtain ⟨e,he⟩:∃ e,x.evs[x.evs.length - 1]?=some e:=⟨_,List.getElem?_eq_getElem (by omega)⟩
  exact ⟨e,(),by rw [List.getLast?_eq_getElem?];exact he,he,rfl⟩
 have ex:=oi _ e g2
 have hops:x.ops=x.txns.getD (x.evs.length - 1) []:=by
  unfold Th.ops;rw [g1];simp only;rw [ex];rfl
 obtain ⟨t,ht⟩:∃ t,x.txns[x.evs.length - 1]?=some t:=⟨_,List.getElem?_eq_getElem (by omega)⟩
 have et:x.ops=t:=by rw [hops,List.getD_eq_getElem?_getD,ht];rfl
 have tvf:=hp.mono1 tv1.mono
 obtain ⟨c,hc,w',rfl,hw⟩:=tvf.2.get ht
 obtain ⟨b0,o0,j1,j2,_⟩:=tvf.1.fld hc .i64
 refine bnd_of j1 (bnd_of rfl (bnd_of (j2 0 w' rfl) ?_))
 have hrow:∀ {h'} {R':List Part},All (tv1 v.tv cs x.txns::R') h'→rowsAt h' 4 w' (x.ops.map Op.enc):=by
  intro h' R' hp
  obtain ⟨c2,hc2,w2,e2,r2⟩:=(hp.mono1 tv1.mono).2.get ht
  rw [hc] at hc2
  cases hc2
  cases e2
  rw [et];exact r2
 have fin:∀ (ap:Value) (z:Option At) h3,z=(if At.may x.id x.seq i (L.getD i 0 + 1) x.ops then some (.new x.id x.seq i (L.getD i 0 + 1) x.ops) else none)→All (opP rattP ap z::tv1 v.tv cs x.txns::pts b (rthRow {x with slot:=(i:Int)} v)::arP 103 a A::pts lb (lvRow U sz pre (L.set i (L.getD i 0 + 1)) post)::evsP v.ev x.evs::rowP 1 v.cv (x.cache.map encI)::rowP 2 v.lv (x.limbo.map Ret.enc)::rowP 1 v.rv (x.ripe.map encI)::opP rentP v.ep x.ent::opP rpushP v.up x.push::opP rpopP v.pp x.pop::opP rattP v.ap x.att::opP radvP v.dp x.adv::R) h3→
   bnd (ncV (ptr b)) fun v35=> bnd (faV 14 v35) fun v36=> bnd (stV 1 v36 ap h3) fun h37=> bnd (ncV (ptr b)) fun v38=> bnd (faV 8 v38) fun v39=> bnd (stV 1 v39 (i64 4) h37) fun h40=> K (.tuple #[]) h40:=by
  intro ap z h3 ez hp
  obtain ⟨q,rfl⟩:∃ q,ap= .pointer q:=by
   cases z with
   | none=> exact ⟨none,opP_none hp⟩
   | some y=> obtain ⟨_,e,_⟩:=opP_some hp;exact ⟨_,e⟩
  replace hp:=hn (hp.re 14 [2,3,4,1,5,6,7,8,9,10,11,0,13])
  unfold rthRow at hp
  refine wk ?_
  refine st0 hp (rthRow {x with slot:=(i:Int)} {v with ap:= .pointer q}) rfl le_ rfl rfl fun h4 hp=> ?_
  unfold rthRow at hp
  refine wk ?_
  refine st0 hp (rthRow {x with slot:=(i:Int)} {v with ap:= .pointer q,pc:=4}) rfl le_ rfl rfl fun h5 hp=> ?_
  replace hp:=hn (hp.up 3)
  have hp:=tvP_shut hp
  refine hK (.pointer q) _ ?_
  have:=rts (x:=x.with_ i L) (v:={v with ap:= .pointer q,pc:=4}) (b:=b) (P1:=arP 103 a A) (P2:=pts lb (lvRow U sz pre (L.set i (L.getD i 0 + 1)) post)) (R:=R) (h:=h5) (by
   unfold Th.with_
   simp only [Int.toNat_natCast]
   rw [← ez]
   exact hn (hp.re 4 [1,2,3,0]))
  exact this
 refine T_rAtNew (ops:=x.ops) hp (fun h' hp=> hrow hp) (fun nm h3 hp=> ?_) fun m tb' h3 hp=> ?_
 ·refine ex20 (ex21 ?_)
  exact fin _ none _ (by rw [if_neg nm]) (opP_no hp)
 ·refine ex20 (ex21 ?_)
  exact fin _ (some _) _ (by rw [if_pos m]) (opP_mk hp)
end
end Go.Proofs.YtfphpafkhljncaaGreat
namespace Go.Proofs.YtfphpafkhljncaaGreat
open Go GW Go.Proofs
attribute [local irreducible] bnd ldV stV ifV binV eqI
set_option maxRecDepth 20000
def RV.tris(x:Th)(A:Ar)(v:RV):RV:=match x.att with
 | none=> v
 | some a=> {v with ts:=(a.step A).1.ts,tg:=(a.step A).1.tg,w:=if (a.step A).1.over=true∧(a.step A).2.1=0 then (a.step A).1.won else v.w,pc:=if (a.step A).1.over=true∧(a.step A).2.1=0 then 5 else v.pc}
section
variable {P2 : Part} {a b lb sz : Nat} {U : TypeId} {pre post : List Value} {pick : Int} {A : Ar} {L : List Int} {R : List Part} {h : GH} {K : Value → GH → Prop} {x : Th} {v : RV}
theorem rattP_q{b:Nat}{y:At}(hp:All (rattP b y::R) h):ldV 1 false (.pointer (some ⟨b,0 + 57,none⟩)) h=some (.bool y.won)∧ldV 1 false (.pointer (some ⟨b,0 + 1,none⟩)) h=some (i64 y.q):=⟨(rat_fields hp).1,(rat_fields hp).2.1⟩
theorem T_rtAttempt(hp:All (arP 103 a A::P2::rtV b x v::R) h)(ho:∀ n,x.att=some n→n.ok)
  (hK:∀ h',All (arP 103 a (x.tris A).2.2::P2::rtV b (x.tris A).1 (v.tris x A)::R) h'→K (i64 (x.tris A).2.1) h'):T Tryz.prog 147 [ptr b,ptr a] h K:=by
 apply S147_T
 unfold S147
 have hp:=rto hp
 unfold rthRow at hp
 refine wk ?_
 unfold RV.tris Th.tris at hK
 cases he:x.att with
 | none=>
  rw [he] at hp hK
  dsimp only at hK
  have e:=opP_none (hn (hp.up 11))
  rw [e] at hp ⊢
  refine wk ?_
  refine hK _ (rts (v:=v) ?_)
  unfold rthRow
  rw [he,e]
  exact hp
 | some y=>
  rw [he] at hp hK
  dsimp only at hK
  have oy:=ho y he
  obtain ⟨yb,e,hp1⟩:=opP_some (hn (hp.up 11))
  replace hp:=hp1
  rw [e] at hp ⊢
  refine wk ?_
  replace hp:=hn (hp.re 4 [1,2,0,3])
  refine wk ?_
  replace hp:=hn (hp.re 4 [1,2,0,3])
  refine T_rAtStep hp oy fun h1 hp=> ?_
  replace hp:=hn (hp.re 4 [2,0,1,3])
  refine wk ?_
  refine T_ratThrough (hn (hp.up 2)) ?_
  refine wk ?_
  refine st0 hp (rthRow x {v with ap:=ptr yb,ts:=(y.step A).1.ts}) rfl le_ rfl rfl fun h2 hp=> ?_
  unfold rthRow at hp
  refine wk ?_
  refine st0 hp (rthRow x {v with ap:=ptr yb,ts:=(y.step A).1.ts,tg:=(y.step A).1.tg}) rfl le_ rfl rfl fun h3 hp=> ?_
  unfold rthRow at hp
  refine wk ?_
  refine bnd_of (rattP_q (hn (hp.up 2))).2 ?_
  refine wk ?_
  refine st0 hp (rthRow {x with seq:=(y.step A).1.q} {v with ap:=ptr yb,ts:=(y.step A).1.ts,tg:=(y.step A).1.tg}) rfl le_ rfl rfl fun h4 hp=> ?_
  have back:∀ {h'} {w:Bool} {pc:Int} {nx:Option Act},All (pts b (rthRow {x with seq:=(y.step A).1.q} {v with ap:=ptr yb,ts:=(y.step A).1.ts,tg:=(y.step A).1.tg,w:=w,pc:=pc})::arP 103 a (y.step A).2.2::rattP yb (y.step A).1::P2::tvP v.tv x.txns::evsP v.ev x.evs::rowP 1 v.cv (x.cache.map encI)::rowP 2 v.lv (x.limbo.map Ret.enc)::rowP 1 v.rv (x.ripe.map encI)::opP rentP v.ep x.ent::opP rpushP v.up x.push::opP rpopP v.pp x.pop::opP radvP v.dp x.adv::R) h'→
    All (arP 103 a (y.step A).2.2::P2::rtV b {x with att:=some (y.step A).1,ts:=(y.step A).1.ts,tg:=(y.step A).1.tg,seq:=(y.step A).1.q,next:=nx} {v with ts:=(y.step A).1.ts,tg:=(y.step A).1.tg,w:=w,pc:=pc}::R) h':=by
   intro h' w pc nx hp
   have hp:=opP_mk (P:=rattP) (hn (hp.up 2))
   refine rts (v:={v with ts:=(y.step A).1.ts,tg:=(y.step A).1.tg,w:=w,pc:=pc}) ?_
   simp only [e]
   exact hn (hp.re 13 [1,2,3,4,5,6,7,8,9,10,11,0,12])
  have j1:∀ (c:Bool),c=decide ((y.step A).1.over=true∧(y.step A).2.1=0)→S147_j1 (ptr b) (i64 (y.step A).2.1) (.bool c) h4 K:=by
   intro c ec
   unfold S147_j1
   cases c with
   | true=>
    have q:=of_decide_eq_true ec.symm
    rw [if_pos q,if_pos q] at hK
    unfold rthRow at hp
    refine wk ?_
    refine bnd_of (rattP_q (hn (hp.up 2))).1 ?_
    refine wk ?_
    refine st0 hp (rthRow {x with seq:=(y.step A).1.q} {v with ap:=ptr yb,ts:=(y.step A).1.ts,tg:=(y.step A).1.tg,w:=(y.step A).1.won}) rfl le_ rfl rfl fun h5 hp=> ?_
    unfold rthRow at hp
    refine wk ?_
    refine st0 hp (rthRow {x with seq:=(y.step A).1.q} {v with ap:=ptr yb,ts:=(y.step A).1.ts,tg:=(y.step A).1.tg,w:=(y.step A).1.won,pc:=5}) rfl le_ rfl rfl fun h6 hp=> ?_
    exact hK _ (back hp)
   | false=>
    have q:=of_decide_eq_false ec.symm
    rw [if_neg q,if_neg q] at hK
    refine wk ?_
    exact hK _ (back hp)
  cases hov:(y.step A).1.over with
  | true=>
   refine wk ?_
   have:=j1 _ (show decide ((y.step A).2.1=0)=_ by rw [decide_eq_decide];exact ⟨fun z=> ⟨hov,z⟩,fun z=> z.2⟩)
   exact this
  | false=>
   refine wk ?_
   exact j1 false (by rw [decide_eq_false];rintro ⟨z,_⟩;rw [hov] at z;cases z)
theorem T_rtPopping{q:Pop}(hp:All (arP 103 a A::pts lb (lvRow U sz pre L post)::rtV b x v::R) h)(hq:x.pop=some q)(o:x.ok)(live:x.evs ≠ [])(lo:Lok L)
  (k1:(q.step A).1.l.over=false∨(q.step A).2.1 ≠ 0→∀ h',All (arP 103 a (q.step A).2.2::pts lb (lvRow U sz pre L post)::rtV b {x with pop:=some (q.step A).1} v::R) h'→K (i64 (q.step A).2.1) h')
  (k2:(q.step A).1.l.over=true→(q.step A).2.1=0→(q.step A).1.slot= -1→∀ h',All (arP 103 a (q.step A).2.2::pts lb (lvRow U sz pre L post)::rtV b {x with pop:=none} {v with pp:= .pointer none,e:=1,pc:=6}::R) h'→K (i64 0) h')
  (k3:(q.step A).1.l.over=true→(q.step A).2.1=0→(q.step A).1.slot ≠ -1→∀ ap h',All (arP 103 a (q.step A).2.2::pts lb (lvRow U sz pre (lived (q.step A).1.slot L) post)::rtV b (({x with pop:=none}:Th).with_ (q.step A).1.slot L) {v with pp:= .pointer none,ap:=ap,pc:=4}::R) h'→K (i64 0) h'):
  T Tryz.prog 146 [ptr b,ptr a,lvP pre.length lb] h K:=by
 apply S146_T
 unfold S146
 have qo:=o.pop q hq
 have ps:=Pop.step_ok qo (arP.at hp).2
 have hp:=rto hp
 unfold rthRow at hp
 refine wk ?_
 rw [hq] at hp
 obtain ⟨qb,e,hp1⟩:=opP_some (hn (hp.up 10))
 replace hp:=hp1
 obtain ⟨qf,hp⟩:=All.pure hp
 rw [e] at hp ⊢
 have hp:=hn (hp.re 4 [2,0,1,3])
 have qf2:=Pop.step_fits (A:=A) qf
 refine T_rPopStep hp qo qf fun h1 hp=> ?_
 generalize q.step A=r at hp ps qf2 k1 k2 k3
 obtain ⟨q',code,B⟩:=r
 dsimp only at hp ps qf2 k1 k2 k3 ⊢
 refine wk ?_
 have keep:All (arP 103 a B::pts lb (lvRow U sz pre L post)::rtV b {x with pop:=some q'} v::R) h1:=by
  have hp:=hn (hp.up 1)
  have hp:All (opP rpopP (ptr qb) (some q')::arP 103 a B::pts b _::_) h1:=hp.head fun _ z=> ⟨qb,rfl,qf2,z⟩
  refine rts ?_
  unfold rthRow
  simp only [e]
  exact hn (hp.re 13 [2,1,3,4,5,6,7,8,9,10,0,11,12])
 cases hov:q'.l.over with
 | false=>
  refine wk ?_
  exact k1 (.inl hov) _ keep
 | true=>
  refine wk ?_
  refine ifN_cases (fun c=> ?_) fun c=> ?_
  ·exact k1 (.inr c) _ keep
  ·subst c
   unfold S146_j1
   unfold rpopRow at hp
   replace hp:=hn (hp.re 4 [2,1,0,3])
   refine wk ?_
   refine st0 hp (rthRow x {v with pp:= .pointer none}) rfl le_ rfl rfl fun h2 hp=> ?_
   have hp0:=opP_no (P:=rpopP) (hn (hp.re 4 [0,2,3]))
   have m1:=ps.1.s0
   refine wk ?_
   refine ifV_cases (fun c2=> ?_) fun c2=> ?_
   ·unfold rthRow at hp
    refine wk ?_
    refine st0 hp (rthRow x {v with pp:= .pointer none,e:=1}) rfl le_ rfl rfl fun h3 hp=> ?_
    unfold rthRow at hp
    refine wk ?_
    refine st0 hp (rthRow x {v with pp:= .pointer none,e:=1,pc:=6}) rfl le_ rfl rfl fun h4 hp=> ?_
    refine k2 hov rfl (by omega) _ (rts (x:={x with pop:=none}) (v:={v with pp:= .pointer none,e:=1,pc:=6}) ?_)
    have:=opP_no (P:=rpopP) (hn (hp.re 4 [0,2,3]))
    exact hn (this.re 13 [1,2,3,4,5,6,7,8,9,10,0,11,12])
   ·have:=rts (x:={x with pop:=none}) (v:={v with pp:= .pointer none}) (hn (hp0.re 13 [1,2,3,4,5,6,7,8,9,10,0,11,12]))
    refine T_rtWith this o.idx o.evs o.txns live (by omega) ps.1.s1 lo fun ap h3 hp=> ?_
    refine wk ?_
    exact k3 hov rfl (by omega) ap _ hp
end
end Go.Proofs.YtfphpafkhljncaaGreat
namespace Go.Proofs.YtfphpafkhljncaaGreat
open Go GW Go.Proofs
attribute [local irreducible] bnd ldV stV ifV binV eqI
set_option maxRecDepth 20000
section
variable {P1 P2 : Part} {a b lb sz : Nat} {U : TypeId} {pre post : List Value} {pick : Int} {A : Ar} {L : List Int} {R : List Part} {h : GH} {K : Value → GH → Prop} {x : Th} {v : RV}
theorem rtV_open(hp:All (rtV b x v::R) h):All (pts b (rthRow x v)::tvP v.tv x.txns::evsP v.ev x.evs::rowP 1 v.cv (x.cache.map encI)::rowP 2 v.lv (x.limbo.map Ret.enc)::rowP 1 v.rv (x.ripe.map encI)::opP rentP v.ep x.ent::opP rpushP v.up x.push::opP rpopP v.pp x.pop::opP rattP v.ap x.att::opP radvP v.dp x.adv::R) h:=All.flat (hp.head fun _ z=> z)
theorem rtV_shut(hp:All (pts b (rthRow x v)::tvP v.tv x.txns::evsP v.ev x.evs::rowP 1 v.cv (x.cache.map encI)::rowP 2 v.lv (x.limbo.map Ret.enc)::rowP 1 v.rv (x.ripe.map encI)::opP rentP v.ep x.ent::opP rpushP v.up x.push::opP rpopP v.pp x.pop::opP rattP v.ap x.att::opP radvP v.dp x.adv::R) h):All (rtV b x v::R) h:=
 (All.fold (l:= [_,_,_,_,_,_,_,_,_,_,_]) hp).head fun _ z=> z
theorem T_rtDone(hp:All (rtV b x v::R) h)(oe:x.evs.length≤8)(hK:K (.bool (decide (v.pc=0) && x.done)) h):T Tryz.prog 88 [ptr b] h K:=by
 apply S88_T
 unfold S88
 have hp:=rtV_open hp
 unfold rthRow at hp
 refine wk ?_
 have hlen:=evP_len (hn (hp.up 2))
 refine bnd_of hlen ?_
 refine wk ?_
 refine ifV_cases (fun c0=> ?_) fun c0=> ?_
 ·rw [decide_eq_true c0,Bool.true_and] at hK
  refine wk ?_
  have htl:lnV v.tv=some (i64 x.txns.length):=by
   refine tvP_open (hn (hp.up 1)) fun cs hq=> ?_
   have:=hq.mono1 tv1.mono
   have h2:=this.1.len
   rw [this.2.1] at h2;exact h2
  refine bnd_of htl ?_
  refine wk ?_
  unfold Th.done at hK
  refine ifV_cases (fun c=> ?_) fun c=> ?_
  ·rw [decide_eq_true (by omega),Bool.true_and] at hK
   refine bnd_of (eqI_int _ _ _) ?_
   refine ifV_cases (fun c2=> ?_) fun c2=> ?_
   ·have:x.evs= []:=List.length_eq_zero_iff.1 (by omega)
    rw [this] at hK
    exact hK
   ·refine wk ?_
    refine evsP_open (hn (hp.up 2)) fun ws hl hp=> ?_
    have live:x.evs ≠ []:=fun e=> c2 (by rw [e];rfl)
    obtain ⟨e,w,g1,g2,g3,g4⟩:=evCs_last hl live
    obtain ⟨eb,i1,i2,i3,i4⟩:=All.elt hp g4 .i64
    rw [g1] at hK
    have l0:=List.length_pos_iff.2 live
    rw [show (x.evs.length:Int) - 1=((x.evs.length - 1:Nat):Int) by omega]
    refine bnd_of i1 (bnd_of rfl (bnd_of (i2 4 1 (i64 e.answered) rfl) ?_))
    refine wk ?_
    exact hK
  ·rw [decide_eq_false (by omega),Bool.false_and] at hK
   refine wk ?_
   exact hK
 ·rw [decide_eq_false c0,Bool.false_and] at hK
  refine wk ?_
  exact hK
theorem T_rtTaken(hp:All (P1::pts lb (lvRow U sz pre L post)::rtV b x v::R) h)(e1:P1=arP 103 a A)(o:x.ok)(live:x.evs ≠ [])(lo:Lok L)
  (k1:x.pop=none→∀ s,x.cache.getLast?=some s→∀ cv ap h',All (P1::pts lb (lvRow U sz pre (lived s L) post)::rtV b (({x with cache:=x.cache.dropLast}:Th).with_ s L) {v with cv:=cv,ap:=ap,pc:=4}::R) h'→K (.tuple #[]) h')
  (k2:(x.pop=none→x.cache= [])→∀ pp h',All (P1::pts lb (lvRow U sz pre L post)::rtV b {x with pop:=some (x.pop.getD .new)} {v with pp:=pp}::R) h'→K (.tuple #[]) h'):
  T Tryz.prog 142 [ptr b,lvP pre.length lb] h K:=by
 subst e1
 apply S142_T
 unfold S142
 have hc:=o.cl
 have hp0:=hp
 have hp:=rto hp
 unfold rthRow at hp
 have hlen:lnV v.cv=some (i64 x.cache.length):=by have:=All.len (hn (hp.up 5));rw [List.length_map] at this;exact this
 refine wk ?_
 refine bnd_of hlen ?_
 refine wk ?_
 cases hq:x.pop with
 | some q=>
  have hp1:=hp
  rw [hq] at hp1
  obtain ⟨qb,e,_⟩:=opP_some (hn (hp1.up 10))
  rw [e]
  refine wk ?_
  unfold S142_j1
  refine wk ?_
  unfold S142_j2
  refine wk ?_
  rw [e]
  refine wk ?_
  refine k2 (fun e=> by rw [hq] at e;cases e) v.pp _ ?_
  have ex:({x with pop:=some (x.pop.getD .new)}:Th)=x:=by
   rw [hq];show ({x with pop:=some q}:Th)=x;rw [← hq]
  rw [ex]
  exact hp0
 | none=>
  have hp1:=hp
  rw [hq] at hp1
  have e:=opP_none (hn (hp1.up 10))
  rw [e]
  refine wk ?_
  unfold S142_j1
  refine ifV_cases (fun c=> ?_) fun c=> ?_
  ·obtain ⟨s,hs⟩:∃ s,x.cache[x.cache.length - 1]?=some s:=⟨_,List.getElem?_eq_getElem (by omega)⟩
   have hlast:x.cache.getLast?=some s:=by rw [List.getLast?_eq_getElem?];exact hs
   have sr:=o.ca s (List.mem_of_getElem? hs)
   refine wk ?_
   rw [show (x.cache.length:Int) - 1=((x.cache.length - 1:Nat):Int) by omega]
   obtain ⟨p,d1,d2⟩:=(All.rows (hn (hp.up 5))).get1 (i:=x.cache.length - 1) (x:=i64 s) (by rw [List.getElem?_map,hs];rfl) .i64
   refine bnd_of d1 (bnd_of d2 ?_)
   refine bs0 (size:=1) hp (([]:List Int).map encI) rfl rfl (by simp) (fun c hc=> by cases hc) fun nv h1 hp=> ?_
   refine wk ?_
   replace hp:=hn (hp.up 6)
   obtain ⟨v',d3,hq2⟩:=All.cut hp (n:=x.cache.length - 1) (by rw [List.length_map];omega) .i64
   refine bnd_of d3 ?_
   have hrows:=hq2.rows
   replace hp:=hn (hp.re 2 [1,0])
   refine ap0 (bytes:=8) hp hrows (fun c hc=> encI_good _ c (List.mem_of_mem_take hc)) (by decide) (by simp;omega) fun cv' h2 hp=> ?_
   obtain ⟨ad,ln,cap,rfl⟩:=All.isSlice hp
   rw [List.map_nil,List.nil_append, ← List.map_take, ← List.dropLast_eq_take] at hp
   replace hp:=hn (hp.re 3 [2,0])
   refine wk ?_
   refine st0 hp (rthRow {x with cache:=x.cache.dropLast} {v with cv:= .slice ad ln cap}) rfl le_ rfl rfl fun h3 hp=> ?_
   have:=rts (x:={x with cache:=x.cache.dropLast}) (v:={v with cv:= .slice ad ln cap}) (b:=b) (P1:=arP 103 a A) (P2:=pts lb (lvRow U sz pre L post)) (R:=R) (h:=h3) (hn (hp.re 6 [0,2,3,4,5,1]))
   refine T_rtWith this o.idx o.evs o.txns live sr.1 sr.2 lo fun ap h4 hp=> ?_
   refine wk ?_
   exact k1 hq s hlast _ _ _ hp
  ·have hcn:x.cache= []:=List.length_eq_zero_iff.1 (by omega)
   unfold S142_j2
   refine wk ?_
   rw [e]
   refine wk ?_
   refine T_rNewPop (hn (hp1.re 13 [0,1,2,3,4,5,6,7,8,9,11,12])) fun qb h1 hp=> ?_
   replace hp:=hn (hp.re 2 [1,0])
   refine wk ?_
   refine st0 hp (rthRow x {v with pp:=ptr qb}) rfl le_ rfl rfl fun h2 hp=> ?_
   refine k2 (fun _=> hcn) (ptr qb) _ (rts (v:={v with pp:=ptr qb}) ?_)
   rw [hq]
   have hp:=hn (hp.up 1)
   have hp:All (opP rpopP (ptr qb) (some Pop.new)::pts b (rthRow x {v with pp:=ptr qb})::_) h2:=hp.head fun _ z=> ⟨qb,rfl,fits_zero,z⟩
   exact hn (hp.re 12 [1,2,3,4,5,6,7,8,9,10,0,11])
end
end Go.Proofs.YtfphpafkhljncaaGreat
namespace Go.Proofs.YtfphpafkhljncaaGreat
open Go GW Go.Proofs
attribute [local irreducible] bnd ldV stV ifV binV eqI
set_option maxRecDepth 20000
section
variable {P1 P2 : Part} {b : Nat} {R : List Part} {h : GH} {K : Value → GH → Prop} {x : Th} {v : RV}
theorem All.rowTl{v:Value}{u:Int}{us:List Int}(hp:All (rowP 1 v ((u::us).map encI)::R) h):∃ v',slV 1 v (some (i64 1)) none=some v'∧rowsAt h 1 v' (us.map encI):=rowsAt.tl hp.rows
theorem T_rtCached(hp:All (P1::P2::rtV b x v::R) h)(o:x.ok)
  (k1:x.cached.ripe= []→∀ cv rv h',All (P1::P2::rtV b x.cached {v with cv:=cv,rv:=rv,pc:=3}::R) h'→K (.tuple #[]) h')
  (k2:∀ s r,x.cached.ripe=s::r→∀ cv rv up h',All (P1::P2::rtV b {x.cached with push:=some (x.cached.push.getD (.new s))} {v with cv:=cv,rv:=rv,up:=up}::R) h'→K (.tuple #[]) h'):
  T Tryz.prog 141 [ptr b] h K:=by
 apply S141_T
 unfold S141
 have hc:=o.cl
 have oc:=Th.cached_ok o
 have ol:x.ripe.length≤100000:=by
  have h1:=o.cap;have h2:=o.evs;have h3:=thrMay_spec o.txns;have h4:=o.t1;have h5:=o.k1
  have f:flagOf x.next≤1:=by unfold flagOf;split <;> omega
  omega
 -- behind the loop
 have fin:∀ s1 again cv rv h',All (P1::P2::rtV b x.cached {v with cv:=cv,rv:=rv}::R) h'→S141_j2 s1 (ptr b) h' K again:=by
  intro s1 again cv rv h' hp
  generalize x.cached=y at hp oc k1 k2
  unfold S141_j2
  have hp0:=hp
  have hp:=rto hp
  unfold rthRow at hp
  refine wk ?_
  have hlen:lnV rv=some (i64 y.ripe.length):=by have:=All.len (hn (hp.up 7));rw [List.length_map] at this;exact this
  refine bnd_of hlen ?_
  refine bnd_of (eqI_int _ _ _) ?_
  cases hr:y.ripe with
  | nil=>
   refine wk ?_
   refine st0 hp (rthRow y {v with cv:=cv,rv:=rv,pc:=3}) rfl le_ rfl rfl fun h2 hp=> ?_
   exact k1 hr _ _ _ (rts (v:={v with cv:=cv,rv:=rv,pc:=3}) hp)
  | cons s r=>
   have hm:=oc.ri s (by rw [hr];simp)
   refine ifV_n (by simp only [List.length_cons];omega) ?_
   refine wk ?_
   cases hq:y.push with
   | some q=>
    have hp1:=hp
    rw [hq] at hp1
    obtain ⟨qb,e,_⟩:=opP_some (hn (hp1.up 9))
    rw [e]
    refine wk ?_
    refine k2 s r hr cv rv v.up _ ?_
    have ex:({y with push:=some (y.push.getD (.new s))}:Th)=y:=by
     rw [hq];show ({y with push:=some q}:Th)=y;rw [← hq]
    rw [ex]
    exact hp0
   | none=>
    have hp1:=hp
    rw [hq] at hp1
    have e:=opP_none (hn (hp1.up 9))
    rw [e]
    refine wk ?_
    obtain ⟨p,d1,d2⟩:=(All.rows (hn (hp1.up 7))).get1 (i:=0) (x:=i64 s) (by rw [hr];rfl) .i64
    refine bnd_of d1 (bnd_of d2 ?_)
    refine T_rNewPush (hn (hp1.re 13 [0,1,2,3,4,5,6,7,8,10,11,12])) hm.1 hm.2 fun qb h1 hp=> ?_
    replace hp:=hn (hp.re 2 [1,0])
    refine wk ?_
    refine st0 hp (rthRow y {v with cv:=cv,rv:=rv,up:=ptr qb}) rfl le_ rfl rfl fun h2 hp=> ?_
    refine k2 s r hr cv rv (ptr qb) _ (rts (v:={v with cv:=cv,rv:=rv,up:=ptr qb}) ?_)
    rw [hq]
    have hp:=hn (hp.up 1)
    have hp:All (opP rpushP (ptr qb) (some (Push.new s))::pts b (rthRow y {v with cv:=cv,rv:=rv,up:=ptr qb})::_) h2:=hp.head fun _ z=> ⟨qb,rfl,fits_zero,z⟩
    exact hn (hp.re 13 [1,2,3,4,5,6,7,8,9,0,10,11,12])
 -- the loop
 have start:=hp
 rw [← Th.mv_zero x] at start
 refine Lfp_fam (ι:=Nat) (fun _=> [ptr b]) (fun i h'=> i≤x.ripe.length∧i + x.cache.length≤2∧(i ≠ 0→x.push=none)∧∃ cv rv,All (P1::P2::rtV b (x.mv i) {v with cv:=cv,rv:=rv}::R) h') (fun i=> 2 - i) ?_ 0 h ⟨by omega,by omega,fun h=> absurd rfl h,v.cv,v.rv,start⟩
 clear hp start
 rintro i h1 X ⟨hi,hi2,hi3,cv,rv,hp⟩ again
 simp only [tup_zero,tup_succ]
 have hp0:=hp
 have hp:=rto hp
 unfold rthRow at hp
 refine wk ?_
 have epu:(x.mv i).push=x.push:=rfl
 have eca:(x.mv i).cache=x.cache ++ x.ripe.take i:=rfl
 have eri:(x.mv i).ripe=x.ripe.drop i:=rfl
 have ecl:(x.mv i).cache.length=x.cache.length + i:=by rw [eca,List.length_append,List.length_take];omega
 have erl:(x.mv i).ripe.length=x.ripe.length - i:=by rw [eri,List.length_drop]
 cases hq:x.push with
 | some q=>
  rw [epu,hq] at hp
  obtain ⟨qb,e,_⟩:=opP_some (hn (hp.up 9))
  rw [e]
  refine wk ?_
  have i0:i=0:=by
   rcases Nat.eq_zero_or_pos i with z | z
   ·exact z
   ·have:=hi3 (by omega);rw [hq] at this;cases this
  subst i0
  rw [Th.mv_zero] at hp0
  exact fin _ _ cv rv _ (by rw [Th.cached_some (by rw [hq];simp)];exact hp0)
 | none=>
  rw [epu,hq] at hp
  have e:=opP_none (hn (hp.up 9))
  rw [e]
  refine wk ?_
  have hlen:lnV rv=some (i64 (x.mv i).ripe.length):=by have:=All.len (hn (hp.up 7));rw [List.length_map] at this;exact this
  refine bnd_of hlen ?_
  refine wk ?_
  refine ifV_cases (fun c=> ?_) fun c=> ?_
  ·refine wk ?_
   have hclen:lnV cv=some (i64 (x.mv i).cache.length):=by have:=All.len (hn (hp.up 5));rw [List.length_map] at this;exact this
   refine bnd_of hclen ?_
   refine wk ?_
   refine ifV_cases (fun c2=> ?_) fun c2=> ?_
   ·unfold S141_j1
    refine wk ?_
    obtain ⟨s,hs⟩:∃ s,x.ripe[i]?=some s:=⟨_,List.getElem?_eq_getElem (by omega)⟩
    have hcons:x.ripe.drop i=s::x.ripe.drop (i + 1):=by
     have hlt:i < x.ripe.length:=by omega
     rw [List.drop_eq_getElem_cons hlt]
     rw [List.getElem?_eq_getElem hlt] at hs
     cases hs;rfl
    rw [eri,hcons] at hp
    obtain ⟨p,d1,d2⟩:=(All.rows (hn (hp.up 7))).get1 (i:=0) (x:=i64 s) rfl .i64
    refine bnd_of d1 (bnd_of d2 ?_)
    refine bs0 (size:=1) hp ([s].map encI) rfl rfl (by simp) (encI_good _) fun sv h2 hp=> ?_
    have r2:=hp.rows
    refine ap0 (hn (hp.up 6)) r2 (encI_good _) (by decide) (by simp only [List.length_map,List.length_cons,List.length_nil];omega) fun cv' h3 hp=> ?_
    obtain ⟨ad,ln,cap,rfl⟩:=All.isSlice hp
    replace hp:=hn (hp.re 3 [2,0])
    refine wk ?_
    refine st0 hp (rthRow (x.mv (i + 1)) {v with cv:= .slice ad ln cap,rv:=rv}) rfl le_ rfl rfl fun h4 hp=> ?_
    refine bs0 (size:=1) hp (([]:List Int).map encI) rfl rfl (by simp) (fun c hc=> by cases hc) fun nv h5 hp=> ?_
    unfold rthRow at hp
    refine wk ?_
    obtain ⟨v',d3,r3⟩:=All.rowTl (hn (hp.up 8))
    refine bnd_of d3 ?_
    refine ap0 (bytes:=8) hp r3 (encI_good _) (by decide) (by simp;omega) fun rv' h6 hp=> ?_
    obtain ⟨ad0,ln0,cap0,rfl⟩:=All.isSlice hp
    replace hp:=hn (hp.re 2 [1,0])
    refine wk ?_
    refine st0 hp (rthRow (x.mv (i + 1)) {v with cv:= .slice ad ln cap,rv:= .slice ad0 ln0 cap0}) rfl le_ rfl rfl fun h7 hp=> ?_
    refine again (i + 1) _ ⟨by omega,by omega,fun _=> hq, .slice ad ln cap, .slice ad0 ln0 cap0,?_⟩ (by omega)
    refine rts (v:={v with cv:= .slice ad ln cap,rv:= .slice ad0 ln0 cap0}) ?_
    have ec2:(x.mv (i + 1)).cache.map encI=(x.mv i).cache.map encI ++ [s].map encI:=by
     show (x.cache ++ x.ripe.take (i + 1)).map encI=(x.cache ++ x.ripe.take i).map encI ++ [s].map encI
     rw [List.take_add_one,hs, ← List.map_append,List.append_assoc];rfl
    rw [ec2]
    have epu2:(x.mv (i + 1)).push=none:=hq
    rw [epu2]
    exact hn (hp.re 9 [0,3,4,5,6,2,7,1])
   ·exact fin _ _ cv rv _ (by rw [← Th.mv_cached hq hi hi2 (by omega)];exact hp0)
  ·exact fin _ _ cv rv _ (by rw [← Th.mv_cached hq hi hi2 (by omega)];exact hp0)
end
end Go.Proofs.YtfphpafkhljncaaGreat
namespace Go.Proofs.YtfphpafkhljncaaGreat
open Go GW Go.Proofs
attribute [local irreducible] bnd ldV stV ifV binV eqI
set_option maxRecDepth 20000
section
variable {P1 P2 : Part} {b : Nat} {R : List Part} {h : GH} {K : Value → GH → Prop} {x : Th} {v : RV} {pick : Int}
theorem T_rtBegin(hp:All (P1::P2::rtV b x v::R) h)(o:x.ok)(hpc:v.pc=0)
  (k1:(x.begin pick).2=false→∀ h',All (P1::P2::rtV b (x.begin pick).1 v::R) h'→K (.bool false) h')
  (k2:(x.begin pick).2=true→∀ ev ep h',All (P1::P2::rtV b (x.begin pick).1 {v with ev:=ev,ep:=ep,w:=false,e:=2,pc:=1}::R) h'→K (.bool true) h'):
  T Tryz.prog 119 [ptr b,i64 pick] h K:=by
 apply S119_T
 unfold S119
 have oe:x.evs.length≤8:=by have:=o.evs;have:=thrMay_spec o.txns;omega
 refine T_rtDone (hn (hp.up 2)) oe ?_
 rw [decide_eq_true hpc,Bool.true_and]
 unfold Th.begin at k1 k2
 cases hd:x.done with
 | true=> rw [hd] at k1 k2;refine wk ?_;exact k1 rfl _ hp
 | false=>
  rw [hd] at k1 k2
  simp only [Bool.false_eq_true,if_false] at k1 k2
  refine wk ?_
  have hp:=rto hp
  have p1:=o.p1;have i0:=o.i0;have i1:=o.i1;have n1:=o.n1
  unfold rthRow at hp
  refine wk ?_
  refine ifV_cases (fun c=> ?_) fun c=> ?_
  ·rw [if_pos c] at k1 k2
   refine wk ?_
   refine st0 hp (rthRow {x with pause:=x.pause - 1} v) rfl le_ rfl rfl fun h1 hp=> ?_
   exact k1 rfl _ (rts (v:=v) (x:={x with pause:=x.pause - 1}) hp)
  ·rw [if_neg c] at k1 k2
   have j1:∀ (es:List Event) (ev:Value) h',es=(if x.tries=0 then x.evs ++ [⟨x.id,x.evs.length,pick, -1, -1,0,0, []⟩] else x.evs)→All (pts b (rthRow x {v with ev:=ev})::P1::P2::tvP v.tv x.txns::evsP ev es::rowP 1 v.cv (x.cache.map encI)::rowP 2 v.lv (x.limbo.map Ret.enc)::rowP 1 v.rv (x.ripe.map encI)::opP rentP v.ep x.ent::opP rpushP v.up x.push::opP rpopP v.pp x.pop::opP rattP v.ap x.att::opP radvP v.dp x.adv::R) h'→
     S119_j1 (ptr b) h' K:=by
    intro es ev h' ees hp
    unfold S119_j1
    unfold rthRow at hp
    refine wk ?_
    refine T_rNewEnter (hn (hp.re 13 [0,1,2,3,4,5,6,7,9,10,11,12])) i0 (by omega) fun nb h1 hp=> ?_
    replace hp:=hn (hp.re 2 [1,0])
    refine wk ?_
    refine st0 hp (rthRow x {v with ev:=ev,ep:=ptr nb}) rfl le_ rfl rfl fun h2 hp=> ?_
    unfold rthRow at hp
    refine wk ?_
    refine st0 hp (rthRow x {v with ev:=ev,ep:=ptr nb,w:=false}) rfl le_ rfl rfl fun h3 hp=> ?_
    unfold rthRow at hp
    refine wk ?_
    refine st0 hp (rthRow x {v with ev:=ev,ep:=ptr nb,w:=false,e:=2}) rfl le_ rfl rfl fun h4 hp=> ?_
    unfold rthRow at hp
    refine wk ?_
    refine st0 hp (rthRow x {v with ev:=ev,ep:=ptr nb,w:=false,e:=2,pc:=1}) rfl le_ rfl rfl fun h5 hp=> ?_
    refine k2 rfl ev (ptr nb) _ (rts (v:={v with ev:=ev,ep:=ptr nb,w:=false,e:=2,pc:=1}) ?_)
    have hp:=hn (hp.up 1)
    have hp:All (opP rentP (ptr nb) (some (Ent.new x.id))::pts b (rthRow x {v with ev:=ev,ep:=ptr nb,w:=false,e:=2,pc:=1})::_) h5:=hp.head fun _ z=> ⟨nb,rfl,by intro q;first | cases q | (simp [Ent.new] at q),z⟩
    have:=hn (hp.re 13 [1,2,3,4,5,6,7,8,0,9,10,11,12])
    rw [ees] at this
    exact this
   refine wk ?_
   refine ifV_cases (fun c2=> ?_) fun c2=> ?_
   ·refine wk ?_
    have hlen:=evP_len (hn (hp.up 4))
    refine bnd_of hlen (bnd_of rfl ?_)
    replace hp:=hn (hp.up 4)
    refine evsP_open hp fun ws hl hp=> ?_
    have eg:good 8 ((⟨x.id,x.evs.length,pick, -1, -1,0,0, []⟩:Event).cells (.slice none 0 0)):=⟨rfl,rfl⟩
    refine bs0 (size:=8) hp [(⟨x.id,x.evs.length,pick, -1, -1,0,0, []⟩:Event).cells (.slice none 0 0)] rfl rfl (by simp) (fun c hc=> by rw [List.mem_singleton.1 hc];exact eg) fun sv h2 hp=> ?_
    have r2:=hp.rows
    refine ap0 (hn (hp.up 1)) r2 (fun c hc=> by rw [List.mem_singleton.1 hc];exact eg) (by decide) (by rw [evCs_len hl];simp only [List.length_cons,List.length_nil];omega) fun ev' h3 hp=> ?_
    obtain ⟨ad,ln,cap,rfl⟩:=All.isSlice hp
    rw [evCs_snoc hl] at hp
    have hp:=ansP_snoc (e':=⟨x.id,x.evs.length,pick, -1, -1,0,0, []⟩) rfl hl (hn (hp.re 3 [2,0]))
    have hl2:(ws ++ [Value.slice none 0 0]).length=(x.evs ++ [(⟨x.id,x.evs.length,pick, -1, -1,0,0, []⟩:Event)]).length:=by simp [hl]
    have hp:=evsP_shut hl2 (hn (hp.re 2 [1,0]))
    replace hp:=hn (hp.re 5 [1,2,3,4,0])
    refine wk ?_
    refine st0 hp (rthRow x {v with ev:= .slice ad ln cap}) rfl le_ rfl rfl fun h4 hp=> ?_
    exact j1 _ _ _ (by rw [if_pos c2]) hp
   ·refine wk ?_
    exact j1 x.evs v.ev _ (by rw [if_neg c2]) hp
theorem T_rtAnswer(hp:All (P1::P2::rtV b x v::R) h)(t0:0≤x.tries)(t1:x.tries < x.k)(kk:x.k≤16)(live:x.evs ≠ [])(oe:x.evs.length≤8)(oa:∀ n,x.att=some n→n.ans.length≤2)
  (he:x.end_=if v.w then 0 else v.e) (hv:v.e=1∨v.e=2) (hw:v.w=true→x.att ≠ none)
  (hK:∀ h',All (P1::P2::rtV b (x.answer pick) {v with pc:=0}::R) h'→K (.tuple #[]) h'):T Tryz.prog 153 [ptr b,i64 pick] h K:=by
 apply S153_T
 unfold S153
 have hp:=rto hp
 unfold rthRow at hp
 refine wk ?_
 refine st0 hp (rthRow x {v with pc:=0}) rfl le_ rfl rfl fun h1 hp=> ?_
 unfold rthRow at hp
 refine wk ?_
 refine st0 hp (rthRow {x with tries:=x.tries + 1} {v with pc:=0}) rfl le_ rfl rfl fun h2 hp=> ?_
 replace hp:=hn (hp.up 4)
 refine evsP_open hp fun ws hl hp=> ?_
 obtain ⟨e,w,g1,g2,g3,g4⟩:=evCs_last hl live
 have wg:=(hp.row.good.1 _ (List.mem_of_getElem? g4)).2
 obtain ⟨eb,i1,i2,i3,i4⟩:=All.elt hp g4 .i64
 clear i4
 have hlen:lnV v.ev=some (i64 x.evs.length):=by have:=All.len hp;rw [evCs_len hl] at this;exact this
 have l0:=List.length_pos_iff.2 live
 have lsub:(x.evs.length:Int) - 1=((x.evs.length - 1:Nat):Int):=by omega
 replace hp:=hn (hp.re 3 [2,0,1])
 unfold rthRow at hp
 refine wk ?_
 refine bnd_of hlen ?_
 refine wk ?_
 rw [lsub]
 refine bnd_of i1 ?_
 refine bnd_of i3 ?_
 have ow:oneCell w=true:=by
  unfold Event.cells at wg
  simp only [List.all_cons,Bool.and_eq_true] at wg
  exact wg.2.2.2.2.2.2.2.1
 refine nwst hp (.row 56 (e.cells w) 8 true) rfl rfl wg rfl fun lb h3 hp=> ?_
 unfold Event.cells at hp
 refine wk ?_
 refine st0 hp (.row 56 (({e with attempts:=x.tries + 1}:Event).cells w) 8 true) rfl le_ rfl rfl fun h4 hp=> ?_
 unfold Event.cells at hp
 have shut:∀ {h'} {y:Th} {v':RV} {e1:Event} {w1:Value} {r1:List (List Value)},r1=evCs (x.evs.set (x.evs.length - 1) e1) (ws.set (x.evs.length - 1) w1)→All (pts b (rthRow y v')::rowP 8 v'.ev r1::ansP (ws.set (x.evs.length - 1) w1) (x.evs.set (x.evs.length - 1) e1)::P1::P2::tvP v'.tv x.txns::rowP 1 v'.cv (x.cache.map encI)::rowP 2 v'.lv (x.limbo.map Ret.enc)::rowP 1 v'.rv (x.ripe.map encI)::opP rentP v'.ep x.ent::opP rpushP v'.up x.push::opP rpopP v'.pp x.pop::opP rattP v'.ap x.att::opP radvP v'.dp x.adv::R) h'→
   y.txns=x.txns→y.evs=x.evs.set (x.evs.length - 1) e1→y.cache=x.cache→y.limbo=x.limbo→y.ripe=x.ripe→y.ent=x.ent→y.push=x.push→y.pop=x.pop→y.att=x.att→y.adv=x.adv→
   All (P1::P2::rtV b y v'::R) h':=by
  intro h' y v' e1 w1 r1 er hp z1 z2 z3 z4 z5 z6 z7 z8 z9 z10
  refine rts ?_
  rw [z1,z2,z3,z4,z5,z6,z7,z8,z9,z10]
  subst er
  have:=evsP_shut (ws:=ws.set (x.evs.length - 1) w1) (es:=x.evs.set (x.evs.length - 1) e1) (by rw [List.length_set,List.length_set];exact hl) (hn (hp.re 3 [1,2,0]))
  exact hn (this.re 5 [1,2,3,4,0])
 have c8:∀ (e1:Event) (w1:Value),setCells (e.cells w) 0 (Value.agg (e1.cells w1).toArray).cells.toList=e1.cells w1:=fun e1 w1=> rfl
 -- the event goes back
 have j1:∀ (e1:Event) (w1:Value) h',¬ (x.end_=2∧x.tries + 1 < x.k)→oneCell w1=true→e1={e with attempts:=x.tries + 1,end_:=x.end_,answers:=if x.end_=0 then (x.att.map At.ans).getD [] else e.answers}→
   All (pts lb (.row 56 (e1.cells w1) 8 true)::pts b (rthRow {x with tries:=x.tries + 1} {v with pc:=0})::rowP 8 v.ev (evCs x.evs ws)::ansP (ws.set (x.evs.length - 1) w1) (x.evs.set (x.evs.length - 1) e1)::P1::P2::tvP v.tv x.txns::rowP 1 v.cv (x.cache.map encI)::rowP 2 v.lv (x.limbo.map Ret.enc)::rowP 1 v.rv (x.ripe.map encI)::opP rentP v.ep x.ent::opP rpushP v.up x.push::opP rpopP v.pp x.pop::opP rattP v.ap x.att::opP radvP v.dp x.adv::R) h'→
   S153_j1 (ptr b) (i64 pick) (i64 ((x.evs.length - 1:Nat):Int)) (ptr lb) h' K:=by
  intro e1 w1 h' c ow1 ee hp
  unfold S153_j1
  unfold Th.answer at hK
  rw [if_neg c] at hK
  unfold Event.cells at hp
  refine wk ?_
  refine st0 hp (.row 56 (({e1 with answered:=pick}:Event).cells w1) 8 true) rfl le_ rfl rfl fun h5 hp=> ?_
  unfold rthRow at hp
  refine wk ?_
  refine la0 hp le_ rfl ?_
  have hp:=hn (hp.re 4 [2,0,1,3])
  obtain ⟨eb2,m1,_,_,m4⟩:=All.elt hp g4 .i64
  obtain ⟨h6,q1,q2⟩:=m4 0 8 (.agg (({e1 with answered:=pick}:Event).cells w1).toArray) rfl (by decide) (by
   show (({e1 with answered:=pick}:Event).cells w1).all oneCell=true
   unfold Event.cells
   simp only [List.all_cons,ow1,List.all_nil,Bool.and_true,Bool.and_eq_true]
   exact ⟨rfl,rfl,rfl,rfl,rfl,rfl,rfl⟩)
  refine bnd_of m1 (bnd_of q1 ?_)
  replace hp:=q2
  have:=c8 {e1 with answered:=pick} w1
  rw [this,evCs_set hl] at hp
  replace hp:=hn (hp.re 4 [2,0,3])
  refine wk ?_
  refine st0 hp (rthRow {x with tries:=0} {v with pc:=0}) rfl le_ rfl rfl fun h7 hp=> ?_
  have q4:(x.evs.set (x.evs.length - 1) e1)[x.evs.length - 1]?=some e1:=List.getElem?_set_self (by omega)
  have hp:=(ansP_same q4 (e':={e1 with answered:=pick}) rfl (hn (hp.up 2))).re 3 [1,2,0]
  rw [List.set_set] at hp
  replace hp:=hn hp
  refine hK _ (shut (v':={v with pc:=0}) (w1:=w1) (e1:={e1 with answered:=pick}) rfl hp rfl ?_ rfl rfl rfl rfl rfl rfl rfl rfl)
  show evTurn x.evs _=_
  rw [evTurn_set g1,ee]
 have hw1:∀ (es:List Event),ws.set (x.evs.length - 1) w=ws:=fun _=> set_self g3
 refine wk ?_
 cases hwb:v.w with
 | true=>
  rw [hwb,if_pos rfl] at he
  refine wk ?_
  refine st0 hp (.row 56 (({e with attempts:=x.tries + 1,end_:=0}:Event).cells w) 8 true) rfl le_ rfl rfl fun h5 hp=> ?_
  unfold Event.cells at hp
  refine bs0 (size:=2) hp (([]:List Answer).map Answer.enc) rfl rfl (by simp) (fun c hc=> by cases hc) fun nv h6 hp=> ?_
  obtain ⟨y,hy⟩:=Option.ne_none_iff_exists'.1 (hw hwb)
  have oy:=oa y hy
  have hp1:=hp
  rw [hy] at hp1
  obtain ⟨yb,ey,hq⟩:=opP_some (P:=rattP) (hn (hp1.up 14))
  obtain ⟨_,_,ansv,f1,f2⟩:=rat_fields hq
  refine wk ?_
  rw [ey]
  refine wk ?_
  refine bnd_of f1 ?_
  refine ap0 hp f2 (Answer.all_good _) (by decide) (by simp;omega) fun av h7 hp=> ?_
  obtain ⟨ad,ln,cap,rfl⟩:=All.isSlice hp
  rw [List.map_nil,List.nil_append] at hp
  replace hp:=hn (hp.re 2 [1,0])
  refine wk ?_
  refine st0 hp (.row 56 (({e with attempts:=x.tries + 1,end_:=0,answers:=y.ans}:Event).cells (.slice ad ln cap)) 8 true) rfl le_ rfl rfl fun h8 hp=> ?_
  refine j1 {e with attempts:=x.tries + 1,end_:=0,answers:=y.ans} (.slice ad ln cap) _ (fun q=> by omega) rfl (by rw [he,if_pos rfl,hy];rfl) ?_
  have hp:=hn (hp.re 5 [1,4,0,2,3])
  have:=ansP_set (i:=x.evs.length - 1) (e':={e with attempts:=x.tries + 1,end_:=0,answers:=y.ans}) hp
  exact hn (this.re 4 [1,2,3,0])
 | false=>
  rw [hwb,if_neg (by decide)] at he
  refine wk ?_
  -- answers as they were
  have same:∀ (e1:Event) {g r h'},e1.answers=e.answers→All (g::r::rowP 8 v.ev (evCs x.evs ws)::ansP ws x.evs::P1::P2::tvP v.tv x.txns::rowP 1 v.cv (x.cache.map encI)::rowP 2 v.lv (x.limbo.map Ret.enc)::rowP 1 v.rv (x.ripe.map encI)::opP rentP v.ep x.ent::opP rpushP v.up x.push::opP rpopP v.pp x.pop::opP rattP v.ap x.att::opP radvP v.dp x.adv::R) h'→
    All (g::r::rowP 8 v.ev (evCs x.evs ws)::ansP (ws.set (x.evs.length - 1) w) (x.evs.set (x.evs.length - 1) e1)::P1::P2::tvP v.tv x.txns::rowP 1 v.cv (x.cache.map encI)::rowP 2 v.lv (x.limbo.map Ret.enc)::rowP 1 v.rv (x.ripe.map encI)::opP rentP v.ep x.ent::opP rpushP v.up x.push::opP rpopP v.pp x.pop::opP rattP v.ap x.att::opP radvP v.dp x.adv::R) h':=by
   intro e1 g r h' ea hp
   rw [set_self g3]
   have:=ansP_same g2 (e':=e1) ea (hn (hp.up 3))
   exact hn (this.re 4 [1,2,3,0])
  refine ifV_cases (fun c1=> ?_) fun c1=> ?_
  ·have c1:v.e=1:=c1
   refine wk ?_
   refine st0 hp (.row 56 (({e with attempts:=x.tries + 1,end_:=1}:Event).cells w) 8 true) rfl le_ rfl rfl fun h5 hp=> ?_
   exact j1 {e with attempts:=x.tries + 1,end_:=1} w _ (fun q=> by omega) ow (by rw [he,c1,if_neg (by decide)]) (same {e with attempts:=x.tries + 1,end_:=1} rfl hp)
  ·have v2:v.e=2:=hv.resolve_left c1
   refine wk ?_
   refine ifV_cases (fun c2=> ?_) fun c2=> ?_
   ·have c2:x.k≤x.tries + 1:=c2
    refine wk ?_
    refine st0 hp (.row 56 (({e with attempts:=x.tries + 1,end_:=2}:Event).cells w) 8 true) rfl le_ rfl rfl fun h5 hp=> ?_
    exact j1 {e with attempts:=x.tries + 1,end_:=2} w _ (fun q=> by omega) ow (by rw [he,v2,if_neg (by decide)]) (same {e with attempts:=x.tries + 1,end_:=2} rfl hp)
   ·have c2:¬ x.k≤x.tries + 1:=c2
    refine wk ?_
    unfold Th.answer at hK
    rw [if_pos ⟨by omega,by omega⟩] at hK
    refine T_rPause (show 1≤x.tries + 1 by omega) (show x.tries + 1≤16 by omega) ?_
    refine wk ?_
    replace hp:=hn (hp.re 2 [1,0])
    refine st0 hp (rthRow {x with tries:=x.tries + 1,pause:=pauseM x.pol (x.tries + 1)} {v with pc:=0}) rfl le_ rfl rfl fun h5 hp=> ?_
    unfold rthRow at hp
    refine wk ?_
    refine la1 hp le_ rfl ?_
    have hp:=hn (hp.re 3 [2,0,1])
    obtain ⟨eb2,m1,_,_,m4⟩:=All.elt hp g4 .i64
    obtain ⟨h6,q1,q2⟩:=m4 0 8 (.agg (({e with attempts:=x.tries + 1}:Event).cells w).toArray) rfl (by decide) (by
     show (({e with attempts:=x.tries + 1}:Event).cells w).all oneCell=true
     unfold Event.cells
     simp only [List.all_cons,ow,List.all_nil,Bool.and_true,Bool.and_eq_true]
     exact ⟨rfl,rfl,rfl,rfl,rfl,rfl,rfl⟩)
    refine bnd_of m1 (bnd_of q1 ?_)
    have hp:=q2
    rw [c8 {e with attempts:=x.tries + 1} w,evCs_set hl] at hp
    replace hp:=hn (hp.re 4 [3,1,0])
    have hp:=ansP_same g2 (e':={e with attempts:=x.tries + 1}) rfl hp
    replace hp:=hn (hp.re 3 [1,2,0])
    refine hK _ (shut (v':={v with pc:=0}) (w1:=w) (e1:={e with attempts:=x.tries + 1}) rfl ?_ rfl ?_ rfl rfl rfl rfl rfl rfl rfl rfl)
    ·rw [set_self g3]
     rw [set_self g3] at hp
     exact hp
    ·show evTurn x.evs _=_
     rw [evTurn_set g1]
end
end Go.Proofs.YtfphpafkhljncaaGreat
namespace Go.Proofs.YtfphpafkhljncaaGreat
open Go GW Go.Proofs
attribute [local irreducible] bnd ldV stV ifV binV eqI
set_option maxRecDepth 20000
def actC:Option Act→Int
 | none=> 0
 | some .ent=> 1
 | some .fre=> 2
 | some .tak=> 3
 | some .tri=> 4
 | some .ret=> 5
 | some .lea=> 6
 | some .adv=> 7
def LkS(x:Th)(v:RV):Option Act→Prop
 | none=> True
 | some .ret=> v.e=2∧x.end_=2∧v.w=(x.att.map At.won).getD false
 | some .lea=> x.end_=(if v.w then 0 else v.e)∧(v.e=1∨v.e=2)∧(v.w=true→x.att ≠ none)
 | some .adv=> (x.end_=(if v.w then 0 else v.e)∧(v.e=1∨v.e=2)∧(v.w=true→x.att ≠ none))∧x.adv ≠ none
 | some .ent=> (v.w=false∧v.e=2∧x.end_=2)∧x.ent ≠ none
 | some _=> v.w=false∧v.e=2∧x.end_=2
def Lkd(r:Th × Int × Ar)(v':RV):Prop:=(r.2.1=0→v'.pc=actC r.1.next∧LkS r.1 v' r.1.next)∧v'.ts=r.1.ts∧v'.tg=r.1.tg
section
variable {a b lb sz : Nat} {U : TypeId} {pre post : List Value} {pick : Int} {A : Ar} {L : List Int} {R : List Part} {h : GH} {K : Value → GH → Prop} {x : Th} {v : RV}
theorem T_rtjEnt(hp:All (arP 103 a A::pts lb (lvRow U sz pre L post)::rtV b x v::R) h)(o:x.ok)(hx:x.next=some .ent)(hpc:v.pc=1)(hs:LkS x v (some .ent))(ht:v.ts=x.ts∧v.tg=x.tg)
  (hK:∀ v' h',Lkd (x.ents A) v'→All (arP 103 a (x.ents A).2.2::pts lb (lvRow U sz pre L post)::rtV b (x.ents A).1 v'::R) h'→K (i64 (x.ents A).2.1) h'):
  S120_j2 (ptr b) (ptr a) (lvP pre.length lb) (i64 pick) h K:=by
 unfold S120_j2
 have hp0:=hp
 have hp:=rto hp
 unfold rthRow at hp
 refine wk ?_
 rw [hpc]
 refine wk ?_
 obtain ⟨n,hn1⟩:=Option.ne_none_iff_exists'.1 hs.2
 unfold Th.ents at hK
 rw [hn1] at hK
 dsimp only at hK
 have hp1:=hp
 rw [hn1] at hp1
 have on:=o.ent n hn1
 obtain ⟨nb,e,hp2⟩:=opP_some (hn (hp1.up 8))
 obtain ⟨nf,hp2⟩:=All.pure hp2
 have nf2:=Ent.step_fits (A:=A) nf
 have os:=(Ent.step_ok on (arP.at hp0).2).1
 replace hp:=hn (hp2.re 3 [2,0,1])
 rw [e] at hp ⊢
 refine T_rEnterStep hp on nf fun h1 hp=> ?_
 generalize n.step A=z at hp hK os nf2
 obtain ⟨n',code,B⟩:=z
 dsimp only at hp hK os nf2 ⊢
 refine wk ?_
 have back:∀ {h'} {y:Th} {v':RV} {ri:List Int} {li:List Ret},All (arP 103 a B::pts nb (rentRow n')::pts b (rthRow y v')::pts lb (lvRow U sz pre L post)::tvP v'.tv x.txns::evsP v'.ev x.evs::rowP 1 v'.cv (x.cache.map encI)::rowP 2 v'.lv (li.map Ret.enc)::rowP 1 v'.rv (ri.map encI)::opP rpushP v'.up x.push::opP rpopP v'.pp x.pop::opP rattP v'.ap x.att::opP radvP v'.dp x.adv::R) h'→
   v'.ep=ptr nb→y.txns=x.txns→y.evs=x.evs→y.cache=x.cache→y.limbo=li→y.ripe=ri→y.ent=some n'→y.push=x.push→y.pop=x.pop→y.att=x.att→y.adv=x.adv→
   All (arP 103 a B::pts lb (lvRow U sz pre L post)::rtV b y v'::R) h':=by
  intro h' y v' ri li hp e0 e1 e2 e3 e4 e5 e6 e7 e8 e9 e10
  refine rts ?_
  rw [e0,e1,e2,e3,e4,e5,e6,e7,e8,e9,e10]
  have hp:=hn (hp.up 1)
  have hp:All (opP rentP (ptr nb) (some n')::_) h':=hp.head fun _ z=> ⟨nb,rfl,nf2,z⟩
  exact hn (hp.re 9 [2,1,3,4,5,6,7,8,0])
 have stay:¬ (n'.over=true∧code=0)→K (i64 code) h1:=by
  intro c
  rw [if_neg c] at hK
  refine hK {v with ep:=ptr nb} _ ⟨fun _=> ⟨by rw [hx];exact hpc,?_⟩,ht⟩ (back (v':={v with ep:=ptr nb}) (y:={x with ent:=some n'}) (ri:=x.ripe) (li:=x.limbo) ?_ rfl rfl rfl rfl rfl rfl rfl rfl rfl rfl rfl)
  ·show LkS _ _ x.next
   rw [hx]
   exact ⟨hs.1,by simp⟩
  ·exact hn (hp.re 3 [0,1,2])
 unfold S120_j3
 cases hov:n'.over with
 | false=>
  refine wk ?_
  exact stay (by rw [hov];simp)
 | true=>
  refine wk ?_
  refine ifV_cases (fun c=> ?_) fun c=> ?_
  ·rw [if_pos ⟨hov,c⟩] at hK
   subst c
   unfold rentRow at hp
   replace hp:=hn (hp.re 3 [2,1,0])
   refine wk ?_
   refine T_rTakeLimbo hp (fun h' hp=> All.rows (hn (hp.up 7))) o.li os.e0 (by have:=os.e1;omega) (by have:=o.limbo_small;omega) fun v1 v2 h3 hp=> ?_
   obtain ⟨ad1,ln1,cap1,rfl⟩:=All.isSlice hp
   obtain ⟨ad2,ln2,cap2,rfl⟩:=All.isSlice (hn (hp.up 1))
   replace hp:=hn (hp.re 3 [2,0,1])
   refine wk ?_
   refine st0 hp (rthRow x {v with ep:=ptr nb,rv:= .slice ad1 ln1 cap1}) rfl le_ rfl rfl fun h4 hp=> ?_
   unfold rthRow at hp
   refine wk ?_
   refine st0 hp (rthRow x {v with ep:=ptr nb,rv:= .slice ad1 ln1 cap1,lv:= .slice ad2 ln2 cap2}) rfl le_ rfl rfl fun h5 hp=> ?_
   unfold rthRow at hp
   refine wk ?_
   refine st0 hp (rthRow x {v with ep:=ptr nb,rv:= .slice ad1 ln1 cap1,lv:= .slice ad2 ln2 cap2,pc:=2}) rfl le_ rfl rfl fun h6 hp=> ?_
   refine hK {v with ep:=ptr nb,rv:= .slice ad1 ln1 cap1,lv:= .slice ad2 ln2 cap2,pc:=2} _ ⟨fun _=> ⟨rfl,hs.1⟩,ht⟩ (back (v':={v with ep:=ptr nb,rv:= .slice ad1 ln1 cap1,lv:= .slice ad2 ln2 cap2,pc:=2}) (y:={x with ent:=some n',ripe:=ripes x.limbo n'.e,limbo:=rests x.limbo n'.e,next:=some .fre}) ?_ rfl rfl rfl rfl rfl rfl rfl rfl rfl rfl rfl)
   exact hn (hp.re 11 [4,3,0,5,6,7,8,2,1])
  ·exact stay (fun q=> c q.2)
theorem T_rtjFre{s:Int}{r:List Int}{q:Push}(hp:All (arP 103 a A::pts lb (lvRow U sz pre L post)::rtV b x v::R) h)(hx:x.next=some .fre)(hpc:v.pc=2)(hs:LkS x v (some .fre))(ht:v.ts=x.ts∧v.tg=x.tg)
  (hq:x.push=some q) (qo:q.ok) (hr:x.ripe=s::r) (hl:x.ripe.length≤100000) (hpu:(q.step A).2.1=0)
  (k1:(q.step A).1.l.over=true→∀ v' h',Lkd ({x with push:=none,ripe:=r},0,(q.step A).2.2) v'→All (arP 103 a (q.step A).2.2::pts lb (lvRow U sz pre L post)::rtV b {x with push:=none,ripe:=r} v'::R) h'→K (i64 0) h')
  (k2:(q.step A).1.l.over=false→∀ v' h',Lkd ({x with push:=some (q.step A).1},0,(q.step A).2.2) v'→All (arP 103 a (q.step A).2.2::pts lb (lvRow U sz pre L post)::rtV b {x with push:=some (q.step A).1} v'::R) h'→K (i64 0) h'):
  S120_j2 (ptr b) (ptr a) (lvP pre.length lb) (i64 pick) h K:=by
 unfold S120_j2
 have hp:=rto hp
 unfold rthRow at hp
 refine wk ?_
 rw [hpc]
 refine wk ?_
 rw [hq] at hp
 obtain ⟨qb,e,hp1⟩:=opP_some (hn (hp.up 9))
 obtain ⟨qf,hp1⟩:=All.pure hp1
 have qf2:=Push.step_fits (A:=A) qf
 replace hp:=hn (hp1.re 3 [2,0,1])
 rw [e] at hp ⊢
 refine T_rPushStep hp qo qf fun h1 hp=> ?_
 generalize q.step A=z at hp k1 k2 qf2 hpu
 obtain ⟨q',code,B⟩:=z
 dsimp only at hp k1 k2 qf2 hpu ⊢
 subst hpu
 refine wk ?_
 cases hov:q'.l.over with
 | false=>
  refine wk ?_
  refine k2 hov {v with up:=ptr qb} _ ⟨fun _=> ⟨by show v.pc=actC x.next;rw [hx];exact hpc,by show LkS _ _ x.next;rw [hx];exact hs⟩,ht⟩ (rts (v:={v with up:=ptr qb}) ?_)
  have hp:=hn (hp.up 1)
  have hp:All (opP rpushP (ptr qb) (some q')::_) h1:=hp.head fun _ z=> ⟨qb,rfl,qf2,z⟩
  exact hn (hp.re 13 [2,1,3,4,5,6,7,8,9,0,10,11,12])
 | true=>
  refine wk ?_
  refine bs0 (size:=1) hp (([]:List Int).map encI) rfl rfl (by simp) (fun c hc=> by cases hc) fun nv h5 hp=> ?_
  replace hp:=hn (hp.up 3)
  refine wk ?_
  have hp2:=hn (hp.up 9)
  rw [hr] at hp2
  obtain ⟨v',d3,r3⟩:=All.rowTl hp2
  refine bnd_of d3 ?_
  refine ap0 (bytes:=8) (hn (hp.up 1)) r3 (encI_good _) (by decide) (by rw [hr] at hl;simp at hl ⊢;omega) fun rv' h6 hp=> ?_
  obtain ⟨ad0,ln0,cap0,rfl⟩:=All.isSlice hp
  replace hp:=hn (hp.re 2 [1,0])
  refine wk ?_
  refine st0 hp (rthRow x {v with up:=ptr qb,rv:= .slice ad0 ln0 cap0}) rfl le_ rfl rfl fun h7 hp=> ?_
  unfold rthRow at hp
  refine wk ?_
  refine st0 hp (rthRow x {v with up:= .pointer none,rv:= .slice ad0 ln0 cap0}) rfl le_ rfl rfl fun h8 hp=> ?_
  refine k1 hov {v with up:= .pointer none,rv:= .slice ad0 ln0 cap0} _ ⟨fun _=> ⟨by show v.pc=actC x.next;rw [hx];exact hpc,by show LkS _ _ x.next;rw [hx];exact hs⟩,ht⟩ (rts (v:={v with up:= .pointer none,rv:= .slice ad0 ln0 cap0}) (x:={x with push:=none,ripe:=r}) ?_)
  have hp:=opP_no (P:=rpushP) hp
  exact hn (hp.re 15 [1,3,5,6,7,8,9,2,11,0,12,13,14])
end
end Go.Proofs.YtfphpafkhljncaaGreat
namespace Go.Proofs.YtfphpafkhljncaaGreat
open Go GW Go.Proofs
attribute [local irreducible] bnd ldV stV ifV binV eqI
set_option maxRecDepth 20000
section
variable {a b lb sz : Nat} {U : TypeId} {pre post : List Value} {pick : Int} {A : Ar} {L : List Int} {R : List Part} {h : GH} {K : Value → GH → Prop} {x : Th} {v : RV}
theorem T_rtjTri(hp:All (arP 103 a A::pts lb (lvRow U sz pre L post)::rtV b x v::R) h)(ho:∀ n,x.att=some n→n.ok)(hx:x.next=some .tri)(hpc:v.pc=4)(hs:LkS x v (some .tri))(ht:v.ts=x.ts∧v.tg=x.tg)
  (hK:∀ v' h',Lkd (x.tris A) v'→All (arP 103 a (x.tris A).2.2::pts lb (lvRow U sz pre L post)::rtV b (x.tris A).1 v'::R) h'→K (i64 (x.tris A).2.1) h'):
  S120_j2 (ptr b) (ptr a) (lvP pre.length lb) (i64 pick) h K:=by
 unfold S120_j2
 have hp0:=hp
 have hp:=rto hp
 unfold rthRow at hp
 refine wk ?_
 rw [hpc]
 refine wk ?_
 refine T_rtAttempt hp0 ho fun h1 hp=> ?_
 refine hK (v.tris x A) _ ?_ hp
 unfold RV.tris Th.tris
 cases he:x.att with
 | none=> exact ⟨fun q=> absurd (show (1800:Int)=0 from q) (by decide),ht⟩
 | some y=>
  dsimp only
  refine ⟨fun q=> ?_,rfl,rfl⟩
  have q:(y.step A).2.1=0:=q
  obtain ⟨h1,h2,h3⟩:=hs
  cases hov:(y.step A).1.over with
  | true=>
   simp only [q,and_self,if_true]
   exact ⟨rfl,h2,h3,rfl⟩
  | false=>
   simp only [Bool.false_eq_true,false_and,if_false,hx]
   exact ⟨hpc,h1,h2,h3⟩
theorem T_rtjTak(hp:All (arP 103 a A::pts lb (lvRow U sz pre L post)::rtV b x v::R) h)(o:x.ok)(live:x.evs ≠ [])(lo:Lok L)(hpc:v.pc=3)(hs:LkS x v (some .tak))(ht:v.ts=x.ts∧v.tg=x.tg)
  (hK:∀ v' h',Lkd (x.taks A L).1 v'→All (arP 103 a (x.taks A L).1.2.2::pts lb (lvRow U sz pre (x.taks A L).2 post)::rtV b (x.taks A L).1.1 v'::R) h'→K (i64 (x.taks A L).1.2.1) h'):
  S120_j1 (ptr b) (ptr a) (lvP pre.length lb) (i64 pick) h K:=by
 unfold S120_j1
 have hp0:=hp
 have hp:=rto hp
 unfold rthRow at hp
 refine wk ?_
 rw [hpc]
 refine wk ?_
 refine T_rtTaken hp0 rfl o live lo (fun hq s hl cv ap h1 hp=> ?_) fun hcn pp h1 hp=> ?_
 ·rw [taks_1 hq hl] at hK
  have sr:=o.ca s (List.mem_of_getLast? hl)
  refine T_rtjTri hp (fun n hn=> ?_) rfl rfl hs ht hK
  unfold Th.with_ at hn
  dsimp only at hn
  split at hn
  ·rename_i m;cases hn;exact At.new_ok m
  ·cases hn
 ·rw [taks_2 hcn] at hK
  unfold Th.taks2 at hK
  unfold S120_j2
  have o1:({x with pop:=some (x.pop.getD .new)}:Th).ok:=by
   refine {o with pop:=fun n hn=> ?_}
   cases hn
   cases hq:x.pop with
   | none=> exact Pop.new_ok
   | some q=> exact o.pop q hq
  have hp0:=hp
  have hp:=rto hp
  unfold rthRow at hp
  refine wk ?_
  rw [hpc]
  refine wk ?_
  generalize x.pop.getD .new=q at hp hp0 hK o1
  dsimp only at hK
  refine T_rtPopping (x:={x with pop:=some q}) (q:=q) hp0 rfl o1 live lo (fun c h2 hp=> ?_) (fun c1 c2 c3 h2 hp=> ?_) fun c1 c2 c3 ap h2 hp=> ?_
  ·rw [if_pos c] at hK
   refine hK {v with pp:=pp} _ ⟨fun _=> ⟨hpc,hs⟩,ht⟩ hp
  ·rw [if_neg (by rw [c1,c2];simp),if_pos c3] at hK
   refine hK {v with pp:= .pointer none,e:=1,pc:=6} _ ⟨fun _=> ⟨rfl,?_⟩,ht⟩ hp
   show (1:Int)=(if v.w then 0 else 1)∧_∧(v.w=true→_)
   rw [hs.1]
   exact ⟨rfl, .inl rfl,fun q=> by cases q⟩
  ·rw [if_neg (by rw [c1,c2];simp),if_neg c3] at hK
   exact hK {v with pp:= .pointer none,ap:=ap,pc:=4} _ ⟨fun _=> ⟨rfl,hs⟩,ht⟩ hp
theorem T_rtjRet(hp:All (arP 103 a A::pts lb (lvRow U sz pre L post)::rtV b x v::R) h)(o:x.ok)(hpc:v.pc=5)(hs:LkS x v (some .ret))(ht:v.ts=x.ts∧v.tg=x.tg)
  (hK:∀ v' h',Lkd (x.rets A) v'→All (arP 103 a (x.rets A).2.2::pts lb (lvRow U sz pre L post)::rtV b (x.rets A).1 v'::R) h'→K (i64 (x.rets A).2.1) h'):
  S120_j2 (ptr b) (ptr a) (lvP pre.length lb) (i64 pick) h K:=by
 unfold S120_j2
 have hA:=(arP.at hp).2
 have olim:=o.limbo_small
 have hp0:=hp
 have hp:=rto hp
 unfold rthRow at hp
 refine wk ?_
 rw [hpc]
 refine wk ?_
 refine L_refLoad hp0 (by decide) (by decide) fun h1 hp=> ?_
 clear hp0
 refine wk ?_
 refine T_repochOf (Ar.at_range hA 29) ?_
 refine wk ?_
 unfold Th.rets at hK
 cases hi:epIs (A.at 29) with
 | false=>
  rw [hi] at hK
  refine wk ?_
  exact hK v _ ⟨fun q=> absurd (show (1800:Int)=0 from q) (by decide),ht⟩ hp
 | true=>
  rw [hi,if_pos rfl] at hK
  refine wk ?_
  have hp:=rto hp
  unfold rthRow at hp
  refine wk ?_
  refine bs0 (size:=2) hp ([Ret.mk x.slot (valOf (A.at 29))].map Ret.enc) rfl rfl (by simp) (ret_good _) fun sv h2 hp=> ?_
  have r2:=hp.rows
  refine ap0 (hn (hp.up 7)) r2 (ret_good _) (by decide) (by simp only [List.length_map,List.length_cons,List.length_nil];omega) fun lv' h3 hp=> ?_
  obtain ⟨ad,ln,cap,rfl⟩:=All.isSlice hp
  rw [← List.map_append] at hp
  replace hp:=hn (hp.re 3 [2,0])
  refine wk ?_
  refine st0 hp (rthRow x {v with lv:= .slice ad ln cap}) rfl le_ rfl rfl fun h4 hp=> ?_
  unfold rthRow at hp
  refine wk ?_
  refine st0 hp (rthRow {x with slot:= -1} {v with lv:= .slice ad ln cap}) rfl le_ rfl rfl fun h5 hp=> ?_
  unfold rthRow at hp
  refine wk ?_
  refine st0 hp (rthRow {x with slot:= -1} {v with lv:= .slice ad ln cap,pc:=6}) rfl le_ rfl rfl fun h6 hp=> ?_
  obtain ⟨s1,s2,s3⟩:=hs
  refine hK {v with lv:= .slice ad ln cap,pc:=6} _ ⟨fun _=> ⟨rfl,?_, .inr s1,fun q=> ?_⟩,ht⟩ (rts (v:={v with lv:= .slice ad ln cap,pc:=6}) (hn (hp.re 7 [0,2,3,4,5,6,1])))
  ·show (if (x.att.map At.won).getD false=true then 0 else x.end_)=if v.w=true then 0 else v.e
   rw [s1,s2,s3]
  ·intro z
   have q:v.w=true:=q
   have z:x.att=none:=z
   rw [s3,z] at q
   cases q
theorem T_rtjLea(hp:All (arP 103 a A::pts lb (lvRow U sz pre L post)::rtV b x v::R) h)(o:x.ok)(hpc:v.pc=6)(hs:LkS x v (some .lea))(ht:v.ts=x.ts∧v.tg=x.tg)
  (hK:∀ v' h',Lkd (x.leas A) v'→All (arP 103 a (x.leas A).2.2::pts lb (lvRow U sz pre L post)::rtV b (x.leas A).1 v'::R) h'→K (i64 (x.leas A).2.1) h'):
  S120_j2 (ptr b) (ptr a) (lvP pre.length lb) (i64 pick) h K:=by
 unfold S120_j2
 have n0:=o.n0;have n1:=o.n1;have i0:=o.i0;have i1:=o.i1
 have hp:=rto hp
 unfold rthRow at hp
 refine wk ?_
 rw [hpc]
 refine wk ?_
 refine T_rNewAdvance (hn (hp.re 13 [0,1,2,3,4,5,6,7,8,9,10,11])) n0 n1 fun db h1 hp=> ?_
 replace hp:=hn (hp.re 2 [1,0])
 refine wk ?_
 refine st0 hp (rthRow x {v with dp:=ptr db}) rfl le_ rfl rfl fun h2 hp=> ?_
 unfold rthRow at hp
 refine wk ?_
 refine st0 hp (rthRow x {v with dp:=ptr db,pc:=7}) rfl le_ rfl rfl fun h3 hp=> ?_
 unfold rthRow at hp
 refine wk ?_
 replace hp:=hn (hp.up 2)
 refine T_rLeave hp i0 (show x.id < 4 by omega) fun h4 hp=> ?_
 refine hK {v with dp:=ptr db,pc:=7} _ ⟨fun _=> ⟨rfl,hs,by show some _ ≠ none;simp⟩,ht⟩ (rts (v:={v with dp:=ptr db,pc:=7}) ?_)
 have hp:=hn (hp.up 2)
 have hp:All (opP radvP (ptr db) (some (Adv.new x.n))::_) h4:=hp.head fun _ z=> ⟨db,rfl,0,fun _=> by show (0:Int)= -1 + 1;rfl,z⟩
 exact hn (hp.re 13 [2,1,3,4,5,6,7,8,9,10,11,12,0])
theorem T_rtjAdv(hp:All (arP 103 a A::pts lb (lvRow U sz pre L post)::rtV b x v::R) h)(o:x.ok)(hx:x.next=some .adv)(hpc:v.pc=7)(hs:LkS x v (some .adv))(ht:v.ts=x.ts∧v.tg=x.tg)
  (hK:∀ v' h',Lkd (x.advs A pick) v'→All (arP 103 a (x.advs A pick).2.2::pts lb (lvRow U sz pre L post)::rtV b (x.advs A pick).1 v'::R) h'→K (i64 (x.advs A pick).2.1) h'):
  S120_j2 (ptr b) (ptr a) (lvP pre.length lb) (i64 pick) h K:=by
 unfold S120_j2
 have live:=o.live (.inl (by rw [hx];simp))
 have oe:x.evs.length≤8:=by have:=o.evs;have:=thrMay_spec o.txns;omega
 have hp:=rto hp
 unfold rthRow at hp
 refine wk ?_
 rw [hpc]
 refine wk ?_
 obtain ⟨d,hd⟩:=Option.ne_none_iff_exists'.1 hs.2
 unfold Th.advs at hK
 rw [hd] at hp hK
 dsimp only at hK
 have od:=o.adv d hd
 obtain ⟨db,e,hp2⟩:=opP_some (hn (hp.up 12))
 obtain ⟨pc,hp2⟩:=All.ex hp2
 obtain ⟨pf,hp2⟩:=All.pure hp2
 replace hp:=hn (hp2.re 4 [2,0,1,3])
 rw [e] at hp ⊢
 refine T_rAdvStep hp od pf fun pc' h1 pf' hp=> ?_
 generalize d.step A=z at hp hK pf'
 obtain ⟨d',code,B⟩:=z
 dsimp only at hp hK pf' ⊢
 refine wk ?_
 have keep:All (arP 103 a B::pts lb (lvRow U sz pre L post)::rtV b {x with adv:=some d'} {v with dp:=ptr db}::R) h1:=by
  refine rts (v:={v with dp:=ptr db}) ?_
  have hp:=hn (hp.up 1)
  have hp:All (opP radvP (ptr db) (some d')::_) h1:=hp.head fun _ z=> ⟨db,rfl,pc',pf',z⟩
  exact hn (hp.re 13 [2,1,3,4,5,6,7,8,9,10,11,12,0])
 have stay:¬ (d'.over=true∧code=0)→K (i64 code) h1:=by
  intro c
  rw [if_neg c] at hK
  refine hK {v with dp:=ptr db} _ ⟨fun _=> ⟨by rw [hx];exact hpc,?_⟩,ht⟩ keep
  show LkS _ _ x.next
  rw [hx]
  exact ⟨hs.1,by show some _ ≠ none;simp⟩
 cases hov:d'.over with
 | false=>
  refine wk ?_
  exact stay (by rw [hov];simp)
 | true=>
  refine wk ?_
  refine ifV_cases (fun c=> ?_) fun c=> ?_
  ·rw [if_pos ⟨hov,c⟩] at hK
   subst c
   refine T_rtAnswer (v:={v with dp:=ptr db}) (x:={x with adv:=some d'}) keep o.t0 o.t1 o.k1 live oe (fun n hn=> (o.att n hn).2) hs.1.1 hs.1.2.1 hs.1.2.2 fun h3 hp=> ?_
   refine hK {v with dp:=ptr db,pc:=0} _ ?_ hp
   have:(({x with adv:=some d'}:Th).answer pick).next=none∧(({x with adv:=some d'}:Th).answer pick).ts=x.ts∧(({x with adv:=some d'}:Th).answer pick).tg=x.tg:=by
    unfold Th.answer;split <;> exact ⟨rfl,rfl,rfl⟩
   refine ⟨fun _=> ?_,?_,?_⟩
   ·dsimp only
    rw [this.1]
    exact ⟨rfl,trivial⟩
   ·exact ht.1.trans this.2.1.symm
   ·exact ht.2.trans this.2.2.symm
  ·exact stay (fun q=> c q.2)
end
end Go.Proofs.YtfphpafkhljncaaGreat
namespace Go.Proofs.YtfphpafkhljncaaGreat
open Go GW Go.Proofs
attribute [local irreducible] bnd ldV stV ifV binV eqI
set_option maxRecDepth 20000
structure Lk(x:Th)(v:RV):Prop where
 pc:v.pc=if x.dead then 8 else actC x.next
 st:x.dead=false→LkS x v x.next
def Nopu(x:Th)(A:Ar):Prop:=x.next=some .fre→∀ s r,x.cached.ripe=s::r→((x.cached.push.getD (.new s)).step A).2.1=0
section
variable {a b lb sz : Nat} {U : TypeId} {pre post : List Value} {pick : Int} {A : Ar} {L : List Int} {R : List Part} {h : GH} {K : Value → GH → Prop} {x : Th} {v : RV}
theorem T_rtAct{act:Act}(hp:All (arP 103 a A::pts lb (lvRow U sz pre L post)::rtV b x v::R) h)(o:x.ok)(hx:x.next=some act)(live:x.evs ≠ [])(lo:Lok L)(hpc:v.pc=actC (some act))(hs:LkS x v (some act))(ht:v.ts=x.ts∧v.tg=x.tg)(hpu:Nopu x A)
  (hK:∀ v' h',Lkd (x.act A L pick act).1 v'→All (arP 103 a (x.act A L pick act).1.2.2::pts lb (lvRow U sz pre (x.act A L pick act).2 post)::rtV b (x.act A L pick act).1.1 v'::R) h'→K (i64 (x.act A L pick act).1.2.1) h'):
  T Tryz.prog 120 [ptr b,ptr a,lvP pre.length lb,i64 pick] h K:=by
 apply S120_T
 unfold S120
 have hp0:=hp
 have hp:=rto hp
 unfold rthRow at hp
 refine wk ?_
 rw [hpc]
 have j2:actC (some act) ≠ 2→actC (some act) ≠ 3→S120_j2 (ptr b) (ptr a) (lvP pre.length lb) (i64 pick) h K→S120_j1 (ptr b) (ptr a) (lvP pre.length lb) (i64 pick) h K:=by
  intro c2 c3 k
  unfold S120_j1
  refine wk ?_
  rw [hpc]
  exact ifV_n c3 k
 unfold Th.act at hK
 cases act with
 | ent=> refine wk ?_;exact j2 (by decide) (by decide) (T_rtjEnt hp0 o hx hpc hs ht hK)
 | tri=> refine wk ?_;exact j2 (by decide) (by decide) (T_rtjTri hp0 (fun n hn=> (o.att n hn).1) hx hpc hs ht hK)
 | ret=> refine wk ?_;exact j2 (by decide) (by decide) (T_rtjRet hp0 o hpc hs ht hK)
 | lea=> refine wk ?_;exact j2 (by decide) (by decide) (T_rtjLea hp0 o hpc hs ht hK)
 | adv=> refine wk ?_;exact j2 (by decide) (by decide) (T_rtjAdv hp0 o hx hpc hs ht hK)
 | tak=> refine wk ?_;exact T_rtjTak hp0 o live lo hpc hs ht hK
 | fre=>
  refine wk ?_
  have oc:=Th.cached_ok o
  have lc:x.cached.evs ≠ []:=by unfold Th.cached;split <;> exact live
  have hxc:x.cached.next=some .fre:=by unfold Th.cached;split <;> exact hx
  have htc:v.ts=x.cached.ts∧v.tg=x.cached.tg:=by unfold Th.cached;split <;> exact ht
  have hec:x.cached.end_=2:=by unfold Th.cached;split <;> exact hs.2.2
  have hsc:LkS x.cached v (some .fre):=⟨hs.1,hs.2.1,hec⟩
  have ol:x.cached.ripe.length≤100000:=by
   have h1:=oc.cap;have h2:=oc.evs;have h3:=thrMay_spec oc.txns;have h4:=oc.t1;have h5:=oc.k1
   have f:flagOf x.cached.next≤1:=by unfold flagOf;split <;> omega
   omega
  have hpu:=hpu hx
  refine T_rtCached hp0 o (fun hr cv rv h1 hp=> ?_) fun s r hr cv rv up h1 hp=> ?_
  ·dsimp only at hK
   unfold Th.fres at hK
   dsimp only at hK
   rw [hr] at hK
   exact T_rtjTak (v:={v with cv:=cv,rv:=rv,pc:=3}) hp oc lc lo rfl hsc htc hK
  ·have hpu:=hpu s r hr
   dsimp only at hK
   unfold Th.fres at hK
   dsimp only at hK
   have po:(x.cached.push.getD (.new s)).ok:=by
    have hm:=oc.ri s (by rw [hr];simp)
    cases hq:x.cached.push with
    | none=> exact Push.new_ok hm.1 hm.2
    | some q=> exact oc.push q hq
   generalize x.cached=y at hp hr hK hpu oc lc hxc htc hsc ol po
   have hp0:=hp
   have hp:=rto hp
   unfold rthRow at hp
   unfold S120_j1
   refine wk ?_
   rw [hpc]
   refine wk ?_
   rw [hr] at hK
   dsimp only at hK
   generalize y.push.getD (.new s)=q at hp0 hK hpu po
   refine T_rtjFre (x:={y with push:=some q}) (v:={v with cv:=cv,rv:=rv,up:=up}) hp0 hxc hpc hsc htc rfl po hr ol hpu (fun c v' h2 l hp=> ?_) fun c v' h2 l hp=> ?_
   ·rw [if_pos ⟨c,hpu⟩] at hK
    exact hK v' _ l hp
   ·rw [if_neg (by rw [c];simp), ← hr] at hK
    have:=hK v' _ ⟨fun _=> l.1 rfl,l.2⟩ hp
    rw [hpu] at this
    exact this
theorem Th.act_dead{act:Act}(hx:x.next=some act):(x.act A L pick act).1.1.dead=x.dead:=by
 by_cases c:act= .adv
 ·subst c
  show (x.advs A pick).1.dead=x.dead
  unfold Th.advs
  split
  ·rfl
  ·split
   ·unfold Th.answer;split <;> rfl
   ·rfl
 ·exact (Th.act_next hx c).2
theorem Nopu.z(p:Nopu x A):Nopu x.z A:=by
 have e:x.z.cached.ripe=x.cached.ripe∧x.z.cached.push=x.cached.push:=by
  cases hq:x.push with
  | none=>
   have hz:x.z.push=none:=hq
   unfold Th.cached
   rw [hz,hq]
   exact ⟨rfl,by dsimp only;first | done | rw [hz,hq]⟩
  | some q=>
   have hz:x.z.push=some q:=hq
   unfold Th.cached
   rw [hz,hq]
   exact ⟨rfl,by dsimp only;first | done | rw [hz,hq]⟩
 obtain ⟨e1,e2⟩:=e
 intro h1 s r h2
 rw [e2]
 exact p h1 s r (by rw [← e1];exact h2)
theorem Th.begin_fields(h:(x.begin pick).2=true):(x.begin pick).1.next=some .ent∧(x.begin pick).1.end_=2∧(x.begin pick).1.ent ≠ none∧(x.begin pick).1.dead=x.dead:=by
 unfold Th.begin at h ⊢
 split
 ·rename_i c;rw [if_pos c] at h;cases h
 ·rename_i c
  rw [if_neg c] at h
  split
  ·rename_i c2;rw [if_pos c2] at h;cases h
  ·exact ⟨rfl,rfl,by simp,rfl⟩
theorem Th.begin_same(h:(x.begin pick).2=false):(x.begin pick).1.next=x.next∧(x.begin pick).1.dead=x.dead:=by
 unfold Th.begin at h ⊢
 split
 ·exact ⟨rfl,rfl⟩
 ·rename_i c
  rw [if_neg c] at h
  split
  ·exact ⟨rfl,rfl⟩
  ·rename_i c2;rw [if_neg c2] at h;cases h
theorem Th.begin_ts:(x.begin pick).1.ts=x.ts∧(x.begin pick).1.tg=x.tg:=by
 unfold Th.begin
 split
 ·exact ⟨rfl,rfl⟩
 ·split <;> exact ⟨rfl,rfl⟩
theorem T_rtStep(hp:All (arP 103 a A::pts lb (lvRow U sz pre L post)::rtV b x v::R) h)(o:x.ok)(lk:Lk x v)(lo:Lok L)(hpu:x.dead=false→Nopu x A)
  (hK:∀ v' h',Lk (x.step A L pick).1 v'→(x.dead=false→v'.ts=(x.step A L pick).1.ts∧v'.tg=(x.step A L pick).1.tg)→All (arP 103 a (x.step A L pick).2.2.2.1::pts lb (lvRow U sz pre (x.step A L pick).2.2.2.2 post)::rtV b (x.step A L pick).1 v'::R) h'→K (.tuple #[.bool (x.step A L pick).2.1,i64 (x.step A L pick).2.2.1]) h'):
  T Tryz.prog 96 [ptr b,ptr a,lvP pre.length lb,i64 pick] h K:=by
 apply S96_T
 unfold S96
 have hp:=rto hp
 unfold rthRow at hp
 refine wk ?_
 refine st0 hp (rthRow x {v with ts:= -1}) rfl le_ rfl rfl fun h1 hp=> ?_
 unfold rthRow at hp
 refine wk ?_
 refine st0 hp (rthRow x {v with ts:= -1,tg:=0}) rfl le_ rfl rfl fun h2 hp=> ?_
 have hp0:=rts (v:={v with ts:= -1,tg:=0}) hp
 unfold rthRow at hp
 refine wk ?_
 have hpc:=lk.pc
 cases hd:x.dead with
 | true=>
  rw [hd,if_pos rfl] at hpc
  rw [Th.step_dead hd] at hK
  rw [hpc]
  refine wk ?_
  exact hK {v with ts:= -1,tg:=0} _ ⟨lk.pc,fun q=> by rw [hd] at q;cases q⟩ (fun q=> by rw [hd] at q;cases q) hp0
 | false=>
  rw [hd,if_neg (by decide)] at hpc
  have hs:=lk.st hd
  have hpu:=hpu hd
  have o1:x.z.ok:={o with}
  -- an access
  have j1:∀ (y:Th) (act:Act) (v1:RV) h',y.ok→y.next=some act→y.dead=false→v1.pc=actC (some act)→LkS y v1 (some act)→v1.ts=y.ts∧v1.tg=y.tg→Nopu y A→All (arP 103 a A::pts lb (lvRow U sz pre L post)::rtV b y v1::R) h'→
    (∀ v' h'',Lk (Th.ended (y.act A L pick act)).1 v'→v'.ts=(Th.ended (y.act A L pick act)).1.ts∧v'.tg=(Th.ended (y.act A L pick act)).1.tg→All (arP 103 a (Th.ended (y.act A L pick act)).2.2.2.1::pts lb (lvRow U sz pre (Th.ended (y.act A L pick act)).2.2.2.2 post)::rtV b (Th.ended (y.act A L pick act)).1 v'::R) h''→K (.tuple #[.bool (Th.ended (y.act A L pick act)).2.1,i64 (Th.ended (y.act A L pick act)).2.2.1]) h'')→
    S96_j1 (ptr b) (ptr a) (lvP pre.length lb) (i64 pick) h' K:=by
   intro y act v1 h' oy hy hyd p1 p2 p3 p4 hp hK
   unfold S96_j1
   have live:=oy.live (.inl (by rw [hy];simp))
   have hdd:(y.act A L pick act).1.1.dead=y.dead:=Th.act_dead hy
   refine T_rtAct hp oy hy live lo p1 p2 p3 p4 fun v' h3 l hp=> ?_
   generalize y.act A L pick act=r at hp l hK hdd
   unfold Th.ended at hK
   refine bnd_of (eqI_int _ _ _) ?_
   refine ifN_cases (fun c=> ?_) fun c=> ?_
   ·rw [if_neg c] at hK
    have hp:=rto hp
    unfold rthRow at hp
    refine wk ?_
    refine st0 hp (rthRow r.1.1 {v' with pc:=8}) rfl le_ rfl rfl fun h4 hp=> ?_
    exact hK {v' with pc:=8} _ ⟨rfl,fun q=> by cases q⟩ l.2 (rts (x:={r.1.1 with dead:=true}) (v:={v' with pc:=8}) hp)
   ·rw [if_pos c] at hK
    refine hK v' _ ⟨?_,fun _=> (l.1 c).2⟩ l.2 hp
    rw [hdd,hyd]
    exact (l.1 c).1
  rw [hpc]
  cases hnx:x.next with
  | some act=>
   rw [Th.step_some hd hnx] at hK
   rw [hnx] at hs
   have ne8:actC (some act) ≠ 8:=by cases act <;> decide
   have ne0:actC (some act) ≠ 0:=by cases act <;> decide
   refine ifV_n ne8 ?_
   refine wk ?_
   rw [hpc,hnx]
   refine ifV_n ne0 ?_
   exact j1 x.z act {v with ts:= -1,tg:=0} _ o1 hnx hd (by rw [hpc,hnx]) (by cases act <;> exact hs) ⟨rfl,rfl⟩ hpu.z hp0 (fun v' h'' q1 q2=> hK v' h'' q1 (fun _=> q2))
  | none=>
   rw [Th.step_none hd hnx] at hK
   refine wk ?_
   rw [hpc,hnx]
   refine wk ?_
   have bts:=Th.begin_ts (x:=x.z) (pick:=pick)
   refine T_rtBegin (x:=x.z) (v:={v with ts:= -1,tg:=0}) hp0 o1 (by rw [hpc,hnx];rfl) (fun hb h3 hp=> ?_) fun hb ev ep h3 hp=> ?_
   ·rw [hb,if_neg (by decide)] at hK
    have hbs:=Th.begin_same hb
    refine wk ?_
    refine hK {v with ts:= -1,tg:=0} _ ⟨?_,fun _=> ?_⟩ (fun _=> ⟨bts.1.symm,bts.2.symm⟩) hp
    ·rw [hbs.1,hbs.2];exact lk.pc
    ·show LkS _ _ (x.z.begin pick).1.next
     rw [hbs.1]
     show LkS _ _ x.next
     rw [hnx];trivial
   ·rw [hb,if_pos rfl] at hK
    have hbf:=Th.begin_fields hb
    have hbo:=(Th.begin_ok (pick:=pick) o1 hnx)
    refine wk ?_
    exact j1 (x.z.begin pick).1 .ent {v with ts:= -1,tg:=0,ev:=ev,ep:=ep,w:=false,e:=2,pc:=1} _ hbo.1 hbf.1 (hbf.2.2.2.trans hd) rfl ⟨⟨rfl,rfl,hbf.2.1⟩,hbf.2.2.1⟩ ⟨bts.1.symm,bts.2.symm⟩ (fun q=> by rw [hbf.1] at q;cases q) hp (fun v' h'' q1 q2=> hK v' h'' q1 (fun _=> q2))
end
end Go.Proofs.YtfphpafkhljncaaGreat
namespace Go.Proofs.YtfphpafkhljncaaGreat
open Go GW Go.Proofs
attribute [local irreducible] bnd ldV stV ifV binV eqI
set_option maxRecDepth 20000
def rthP(b:Nat)(x:Th):Part:=fun h=> ∃ v,Lk x v∧rtV b x v h
def rmcRow(p:Plan)(pv:Value)(a:Nat)(tv:Value)(L:List Int)(picks:Int)(xv:Value):GObj:=lvRow 100 19 [pv,i64 p.attempts, .bool p.polite,ptr a,tv] L [i64 picks,xv]
def rmcP(p:Plan)(pv:Value)(b:Nat)(M:Mc):Part:=fun h=> ∃ (a:Nat) (bs:List Nat) (tv xv:Value),All [pts b (rmcRow p pv a tv M.L M.picks xv),arP 103 a M.A,rowP 1 tv (bs.map encP),rowP 8 xv (M.ts.map Touch.enc),eachP rthP bs M.ths] h
section
variable {R : List Part} {h g : GH} {K : Value → GH → Prop} {b : Nat} {x : Th} {v : RV} {id n k : Int} {pol : Bool} {tsv : Value} {ts : List (List Op)} {M : Mc} {p : Plan} {pv : Value}
theorem rthP_open{C:Prop}(hp:All (rthP b x::R) h)(k:∀ v,Lk x v→All (rtV b x v::R) h→C):C:=by
 obtain ⟨v,hp⟩:=All.ex hp
 obtain ⟨l,hp⟩:=All.pure hp
 exact k v l hp
theorem rthP_shut(l:Lk x v)(hp:All (rtV b x v::R) h):All (rthP b x::R) h:=hp.head fun _ z=> ⟨v,l,z⟩
theorem rmcP_open{C:Prop}(hp:All (rmcP p pv b M::R) h)(k:∀ a bs tv xv,All (pts b (rmcRow p pv a tv M.L M.picks xv)::arP 103 a M.A::rowP 1 tv (bs.map encP)::rowP 8 xv (M.ts.map Touch.enc)::eachP rthP bs M.ths::R) h→C):C:=by
 obtain ⟨a,hp⟩:=All.ex hp
 obtain ⟨bs,hp⟩:=All.ex hp
 obtain ⟨tv,hp⟩:=All.ex hp
 obtain ⟨xv,hp⟩:=All.ex hp
 exact k a bs tv xv (All.flat hp)
theorem rmcP_shut{a:Nat}{bs:List Nat}{tv xv:Value}(hp:All (pts b (rmcRow p pv a tv M.L M.picks xv)::arP 103 a M.A::rowP 1 tv (bs.map encP)::rowP 8 xv (M.ts.map Touch.enc)::eachP rthP bs M.ths::R) h):All (rmcP p pv b M::R) h:=
 (All.fold (l:= [_,_,_,_,_]) hp).head fun h1 z=> ⟨a,bs,tv,xv,z⟩
theorem T_rthNew(hp:All R h){cs0:List (List Value)}(hs:∀ h',All R h'→tv1 tsv cs0 ts h')(m:Th.may id n k ts)
  (ky:∀ b h',All (rthP b (.new id n k pol ts)::R) h'→K (.tuple #[ptr b,i64 0]) h'):T Tryz.prog 93 [i64 id,i64 n,i64 k, .bool pol,tsv] h K:=by
 apply S93_T
 unfold S93
 obtain ⟨m1,m2,m3,m4⟩:=m
 have hts:=thrMay_spec m4
 obtain ⟨ad,ln,cap,etv⟩:∃ ad ln cap,tsv= .slice ad ln cap:=by
  obtain ⟨⟨a,n,cap,e,_⟩,_⟩:=hs _ hp
  exact ⟨_,_,_,e⟩
 refine bs0 (size:=1) hp [[tsv]] (by rw [etv];rfl) rfl (by simp) (fun c hc=> by rw [List.mem_singleton.1 hc,etv];exact ⟨rfl,rfl⟩) fun qv h1 hp=> ?_
 obtain ⟨pa,pl,pc,rfl⟩:=All.isSlice hp
 refine bnd_of rfl ?_
 refine nwst hp (.row 67 (planC (.slice pa pl pc) ⟨[ts],k,pol⟩) 3 true) rfl rfl rfl rfl fun d h2 hp=> ?_
 unfold planC at hp
 refine wk ?_
 rw [decide_eq_false (by omega:¬ n < 1)]
 refine wk ?_
 rw [decide_eq_false (by omega:¬ 4 < n)]
 refine wk ?_
 rw [decide_eq_false (by omega:¬ id < 0)]
 refine wk ?_
 rw [decide_eq_false (by omega:¬ n≤id)]
 refine wk ?_
 refine la0 hp (c:=planC (.slice pa pl pc) ⟨[ts],k,pol⟩) le_ rfl ?_
 have thr:threadsAt h2 (.slice pa pl pc) [ts]:=⟨[[tsv]],All.rows (hn (hp.up 1)),rfl,fun i u v hu hv=> by
  cases i with
  | zero=>
   simp at hu hv;subst hu;subst hv
   obtain ⟨r1,r2⟩:=hs _ hp.tail.tail
   exact ⟨tsv,cs0,rfl,r1,r2⟩
  | succ i=> simp at hu⟩
 refine T_PlanMay (p:=⟨[ts],k,pol⟩) thr ?_
 have hm:(Plan.mk [ts] k pol).may=true:=by
  unfold Plan.may
  simp only [List.length_cons,List.length_nil,List.all_cons,List.all_nil,Bool.and_true,Bool.and_eq_true,decide_eq_true_eq,m4]
  omega
 rw [hm]
 refine wk ?_
 replace hp:=hp.tail.tail
 unfold S93_j1
 refine bnd_of rfl ?_
 let V (tv:Value):RV:=⟨tv, .slice none 0 0, .slice none 0 0,0, .slice none 0 0, .pointer none, .pointer none, .pointer none, .pointer none, .pointer none,0,false, .slice none 0 0, -1,0⟩
 refine nw hp (rthRow (Th.new id n k pol ts) (V (.slice none 0 0))) rfl fun b h2 hp=> ?_
 have hlen:∀ {h'},All R h'→lnV tsv=some (i64 ts.length):=fun hr=> (tv1_len (hs _ hr)).1
 have hln:=hlen hp.tail
 refine Lfp_fam (ι:=Nat × Value × List (List Value)) (fun p=> [tsv,ptr b,i64 p.1]) (fun p h'=> p.1≤ts.length∧All (pts b (rthRow (Th.new id n k pol ts) (V p.2.1))::rowP 1 p.2.1 p.2.2::opsC p.2.2 (ts.take p.1)::R) h') (fun p=> ts.length - p.1) ?_ (0, .slice none 0 0, []) h2 ⟨by simp,?_⟩
 rotate_left
 ·have z1:=All.emp_cons (P:=opsC [] (ts.take 0)) hp ⟨rfl,fun i u v hu=> by simp at hu⟩
  have z2:=All.emp_cons (P:=rowP 1 (.slice none 0 0) []) z1 (rowP_nil _ _)
  exact hn (z2.re 3 [2,0,1])
 clear hp
 rintro ⟨i,tv,cs⟩ h3 X ⟨hi,hp⟩ again
 simp only at hi hp
 simp only [tup_zero,tup_succ]
 have hcl:cs.length=i:=by
  have:=(hn (hp.up 2)).mono1 (P:=opsC cs (ts.take i)) (fun _ _ l p=> p.mono fun _ _ q=> q.le l)
  rw [this.1,List.length_take];omega
 refine bnd_of hln ?_
 refine wk ?_
 refine ifV_cases (fun c=> ?_) fun c=> ?_
 ·obtain ⟨t,ht⟩:∃ t,ts[i]?=some t:=⟨_,List.getElem?_eq_getElem (by omega)⟩
  have htm:=hts.2 t (List.mem_of_getElem? ht)
  obtain ⟨ct,hct,w,rfl,hw⟩:=(hs _ hp.tail.tail.tail).2.get ht
  obtain ⟨b0,o0,j1,j2,_⟩:=(hs _ hp.tail.tail.tail).1.fld hct .i64
  have hrow:∀ h',All R h'→rowsAt h' 4 w (t.map Op.enc):=fun h' hr=> by
   obtain ⟨c2,hc2,w2,e2,r2⟩:=(hs _ hr).2.get ht
   rw [hct] at hc2
   cases hc2;cases e2;exact r2
  unfold rthRow at hp
  refine wk ?_
  refine bnd_of j1 (bnd_of rfl (bnd_of (j2 0 w rfl) ?_))
  have ht2:t.length≤1000:=by
   unfold Txn.may at htm
   simp only [Bool.and_eq_true,decide_eq_true_eq] at htm
   omega
  refine bs0 (size:=4) hp (([]:List Op).map Op.enc) rfl rfl (by simp) (fun c hc=> by cases hc) fun nv h4 hp=> ?_
  refine ap0 (size:=4) hp (hrow _ hp.tail.tail.tail.tail) (Op.all_good _) (by decide) (by simp;omega) fun nv h5 hp=> ?_
  obtain ⟨na,nl,nc,rfl⟩:=All.isSlice hp
  rw [List.map_nil,List.nil_append] at hp
  replace hp:=hn (hp.re 4 [1,2,0,3])
  refine ⟨wq0_ hp rfl,?_⟩
  refine bnd_of rfl ?_
  refine bs0 (size:=1) hp [[.slice na nl nc]] rfl rfl (by simp) (fun c hc=> by rw [List.mem_singleton.1 hc];exact ⟨rfl,rfl⟩) fun sv h6 hp=> ?_
  have r2:=hp.rows
  refine ap0 (hn (hp.up 2)) r2 (fun c hc=> by rw [List.mem_singleton.1 hc];exact ⟨rfl,rfl⟩) (by decide) (by simp only [List.length_cons,List.length_nil];omega) fun tv' h7 hp=> ?_
  obtain ⟨ta,tl,tc,rfl⟩:=All.isSlice hp
  replace hp:=hn (hp.re 5 [2,0,3,4])
  refine wk ?_
  refine st0 hp (rthRow (Th.new id n k pol ts) (V (.slice ta tl tc))) rfl le_ rfl rfl fun h8 hp=> ?_
  refine wk ?_
  refine again (i + 1, .slice ta tl tc,cs ++ [[.slice na nl nc]]) _ ⟨by simp only;omega,?_⟩ (by simp only;omega)
  have hp:=opsC_snoc (hn (hp.re 4 [2,3,0,1]))
  have e1:ts.take i ++ [t]=ts.take (i + 1):=by rw [List.take_add_one,ht];rfl
  rw [e1] at hp
  exact hn (hp.re 3 [1,2,0])
 ·have hie:i=ts.length:=by omega
  subst hie
  rw [List.take_length] at hp
  refine ky b _ (rthP_shut (v:=V tv) ⟨rfl,fun _=> trivial⟩ (rtV_shut ?_))
  have hp:=All.fold (l:= [rowP 1 tv cs,opsC cs ts]) (hn (hp.re 3 [1,2,0]))
  have hp:=hp.head (Q:=tvP tv ts) fun h1 z=> ⟨cs,All.rows z,z.tail.mono1 (P:=opsC cs ts) (fun _ _ l p=> p.mono fun _ _ q=> q.le l)⟩
  have hp:=opP_no (P:=radvP) hp
  have hp:=opP_no (P:=rattP) hp
  have hp:=opP_no (P:=rpopP) hp
  have hp:=opP_no (P:=rpushP) hp
  have hp:=opP_no (P:=rentP) hp
  have hp:=hp.emp_cons (P:=rowP 1 (.slice none 0 0) []) (rowP_nil _ _)
  have hp:=hp.emp_cons (P:=rowP 2 (.slice none 0 0) []) (rowP_nil _ _)
  have hp:=hp.emp_cons (P:=rowP 1 (.slice none 0 0) []) (rowP_nil _ _)
  have hp:=hp.emp_cons (P:=evsP (.slice none 0 0) []) ⟨[],All.two ⟨rfl,rowP_nil _ _⟩ fun i e w h=> by simp at h⟩
  exact hn (hp.re 11 [10,9,0,1,2,3,4,5,6,7,8])
end
end Go.Proofs.YtfphpafkhljncaaGreat
namespace Go.Proofs.YtfphpafkhljncaaGreat
open Go GW Go.Proofs
attribute [local irreducible] bnd ldV stV ifV binV eqI
set_option maxRecDepth 20000
section
variable {R : List Part} {h g : GH} {K : Value → GH → Prop} {b : Nat} {x : Th} {M : Mc} {p : Plan} {v pv : Value}
theorem T_rmNew(hp:All R h)(hg:∀ h',All R h'→HLe g h')(ht:threadsAt g v p.threads)(kn:p.may=false→∀ h',All R h'→K (.tuple #[.pointer none,i64 1900]) h')
  (ky:p.may=true→∀ b h',All (rmcP p v b (Mc.new p)::R) h'→K (.tuple #[ptr b,i64 0]) h'):T Tryz.prog 55 [.agg (planC v p).toArray] h K:=by
 apply S55_T
 unfold S55
 refine nw hp (.row 67 (planC v p) 3 true) rfl fun d h1 hp=> ?_
 refine la0 hp (c:=planC v p) le_ rfl ?_
 refine T_PlanMay (ht.le (hg _ hp.tail)) ?_
 refine wk ?_
 cases hm:p.may with
 | false=> refine wk ?_;exact kn hm _ hp.tail
 | true=>
  refine wk ?_
  have ky:=ky hm
  obtain ⟨m1,m2,m3,m4,m5⟩:=Plan.may_spec hm
  refine la0 hp (c:=planC v p) le_ rfl ?_
  refine T_refArenaNew hp fun a h2 hp=> ?_
  refine hla1 hp (c:=planC v p) le_ rfl ?_
  refine bnd_of rfl ?_
  refine nw hp (rmcRow p v a (.slice none 0 0) (List.replicate 12 0) 0 (.slice none 0 0)) rfl fun b h3 hp=> ?_
  replace hp:=hn (hp.re 3 [2,0,1])
  unfold planC at hp
  have hlen:lnV v=some (i64 p.threads.length):=by
   obtain ⟨es,r,a2⟩:=ht
   have:=r.len
   rw [a2.1] at this;exact this
  refine Lfp_fam (ι:=Nat × List Nat × Value) (fun q=> [ptr d,ptr b,i64 q.1]) (fun q h'=> q.1≤p.threads.length∧q.2.1.length=q.1∧All (pts d (.row 67 [v,i64 p.attempts, .bool p.polite] 3 true)::pts b (rmcRow p v a q.2.2 (List.replicate 12 0) 0 (.slice none 0 0))::arP 103 a newAr::rowP 1 q.2.2 (q.2.1.map encP)::eachP rthP q.2.1 (Mc.threads 0 p.threads.length p.attempts p.polite (p.threads.take q.1))::R) h') (fun q=> p.threads.length - q.1) ?_ (0, [], .slice none 0 0) h3 ⟨by simp,rfl,?_⟩
  rotate_left
  ·have z1:=All.emp_cons (P:=eachP rthP [] (Mc.threads 0 p.threads.length p.attempts p.polite (p.threads.take 0))) hp (by exact trivial)
   have z2:=All.emp_cons (P:=rowP 1 (.slice none 0 0) []) z1 (rowP_nil _ _)
   exact hn (z2.re 5 [2,3,4,0,1])
  clear hp
  rintro ⟨i,bs,tv⟩ h4 X ⟨hi,hbl,hp⟩ again
  simp only at hi hbl hp
  simp only [tup_zero,tup_succ]
  refine wk ?_
  refine bnd_of hlen ?_
  refine wk ?_
  refine ifV_cases (fun c=> ?_) fun c=> ?_
  ·obtain ⟨t,hti⟩:∃ t,p.threads[i]?=some t:=⟨_,List.getElem?_eq_getElem (by omega)⟩
   obtain ⟨es0,r0,a0⟩:=ht
   obtain ⟨c0,hc0,w,cs,rfl,rw_,aw⟩:=a0.get hti
   have hgR:∀ {h'} {P1 P2 P3 P4 P5:Part},All (P1::P2::P3::P4::P5::R) h'→HLe g h':=fun hp=> hg _ hp.tail.tail.tail.tail.tail
   obtain ⟨q,d1,d2⟩:=(r0.le (hgR hp)).get1 hc0 .i64
   refine wk ?_
   refine bnd_of hlen ?_
   refine wk ?_
   refine bnd_of d1 (bnd_of d2 ?_)
   refine T_rthNew (ts:=t) (cs0:=cs) hp (fun h' hp=> ⟨rw_.le (hgR hp),aw.mono fun x y z=> z.le (hgR hp)⟩) ⟨⟨by omega,by omega⟩,⟨by omega,by omega⟩,⟨m3,m4⟩,m5 t (List.mem_of_getElem? hti)⟩ fun tb h5 hp=> ?_
   replace hp:=hn (hp.re 3 [2,1,0])
   unfold rmcRow lvRow at hp
   refine wk ?_
   replace hp:=hn (hp.re 5 [4,0,1,2,3])
   refine bs0 (size:=1) hp ([tb].map encP) rfl rfl (by simp) (encP_good _) fun sv h6 hp=> ?_
   have r2:=hp.rows
   refine ap0 (hn (hp.up 1)) r2 (encP_good _) (by decide) (by simp only [List.length_map,List.length_cons,List.length_nil];omega) fun tv' h7 hp=> ?_
   obtain ⟨ad,ln,cap,rfl⟩:=All.isSlice hp
   rw [← List.map_append] at hp
   replace hp:=hn (hp.re 7 [2,0,3,4,5,6])
   refine wk ?_
   refine st0 hp (rmcRow p v a (.slice ad ln cap) (List.replicate 12 0) 0 (.slice none 0 0)) rfl (by simp) rfl rfl fun h8 hp=> ?_
   refine wk ?_
   refine again (i + 1,bs ++ [tb], .slice ad ln cap) _ ⟨by simp only;omega,by simp [hbl],?_⟩ (by simp only;omega)
   have hp:=eachP_snoc (hn (hp.re 6 [3,5,0,1,2,4]))
   have e1:p.threads.take (i + 1)=p.threads.take i ++ [t]:=by rw [List.take_add_one,hti];rfl
   have e2:Mc.threads 0 p.threads.length p.attempts p.polite (p.threads.take i) ++ [Th.new i p.threads.length p.attempts p.polite t]=Mc.threads 0 p.threads.length p.attempts p.polite (p.threads.take (i + 1)):=by
    rw [e1,Mc.threads_snoc,List.length_take];congr 3;omega
   rw [e2] at hp
   exact hn (hp.re 5 [3,1,4,2,0])
  ·have hie:i=p.threads.length:=by omega
   subst hie
   rw [List.take_length] at hp
   have z1:=All.emp_cons (P:=rowP 8 (.slice none 0 0) []) hp (rowP_nil _ _)
   exact ky b _ (rmcP_shut (M:=Mc.new p) (hn (z1.re 6 [2,3,4,0,5])))
theorem rtV_dec{e:Event}{s pick:Int}(hs:x.slot=s)(he:x.evs.getLast?=some e){v:RV}(l:Lk x v):Lk (x.decide s pick) v:=by
 unfold Th.decide
 rw [if_pos hs]
 exact ⟨l.pc,fun q=> by
  have:=l.st q
  dsimp only
  cases hx:x.next with
  | none=> trivial
  | some a=> rw [hx] at this;cases a <;> exact this⟩
end
end Go.Proofs.YtfphpafkhljncaaGreat
namespace Go.Proofs.YtfphpafkhljncaaGreat
open Go GW Go.Proofs
attribute [local irreducible] bnd ldV stV ifV binV eqI
set_option maxRecDepth 20000
section
variable {R : List Part} {h g : GH} {K : Value → GH → Prop} {a b : Nat} {x : Th} {M : Mc} {p : Plan} {pv tv xv : Value} {bs : List Nat} {xs : List Th} {L : List Int} {picks : Int} {ts : List Touch} {A : Ar} {t : Touch}
theorem Touch.dec_no(h:t.kind ≠ 2∨t.was=t.now∨t.at_ < 34∨t.at_ ≠ baseOf ((t.at_ - 34) / 50)):t.dec=none:=by
 unfold Touch.dec
 rw [if_pos]
 rcases h with h | h | h | h
 ·exact .inl h
 ·exact .inr (.inl h)
 ·exact .inr (.inr (.inl h))
 ·exact .inr (.inr (.inr (.inl h)))
theorem Touch.dec_yes(h1:t.kind=2)(h2:t.was ≠ t.now)(h3:34≤t.at_)(h4:t.at_=baseOf ((t.at_ - 34) / 50))(h5:(plainOf t.now).isSome=true):t.dec=if t.now % 16=4 then some ((t.at_ - 34) / 50) else none:=by
 unfold Touch.dec
 rw [if_neg (by
  rintro (q | q | q | q | q)
  ·exact q h1
  ·exact h2 q
  ·omega
  ·exact q h4
  ·rw [h5] at q;cases q)]
 have e:=val_of_some h5
 have:(t.now=stateW (valOf t.now / 4) 1) ↔ t.now % 16=4:=by
  unfold stateW
  generalize valOf t.now=z at e ⊢
  omega
 by_cases c:t.now % 16=4
 ·rw [if_pos c,if_pos (this.2 c)]
 ·rw [if_neg c,if_neg (fun q=> c (this.1 q))]
theorem T_rdecided(hp:All (pts b (rmcRow p pv a tv L picks xv)::arP 103 a A::rowP 1 tv (bs.map encP)::rowP 8 xv (ts.map Touch.enc)::eachP rthP bs xs::R) h)(hL:L.length=12)(a0:0≤t.at_)(a1:t.at_ < 634)
  (hpl:t.kind=2→34≤t.at_→t.was=t.now∨(plainOf t.now).isSome=true) (oe:∀ y ∈ xs,y.evs.length≤8) (hn4:xs.length≤4)
  (hK:∀ h',All (pts b (rmcRow p pv a tv L picks xv)::arP 103 a A::rowP 1 tv (bs.map encP)::rowP 8 xv (ts.map Touch.enc)::eachP rthP bs (decAll t picks xs)::R) h'→K (.tuple #[]) h'):
  T Tryz.prog 99 [ptr b, .agg t.enc.toArray] h K:=by
 apply S99_T
 unfold S99
 have bl:bs.length=xs.length:=All.case (hn (hp.up 4)) fun h1 p _=> eachP_len p
 have no:t.dec=none→∀ {d h'},All (d::pts b (rmcRow p pv a tv L picks xv)::arP 103 a A::rowP 1 tv (bs.map encP)::rowP 8 xv (ts.map Touch.enc)::eachP rthP bs xs::R) h'→K (.tuple #[]) h':=by
  intro e d h' hp
  unfold decAll at hK
  rw [e] at hK
  exact hK _ hp.tail
 refine nw hp (.row 60 t.enc 8 true) rfl fun d h1 hp=> ?_
 have hp0:=hp
 unfold Touch.enc at hp
 refine wk ?_
 have hq:∃ sv,binV .quo (i64 (t.at_ - 34)) (i64 50)=some (i64 sv)∧(34≤t.at_→sv=(t.at_ - 34) / 50):=by
  rcases Int.lt_or_le t.at_ 34 with c | c
  ·refine ⟨(t.at_ - 34).tdiv 50,?_,fun q=> by omega⟩
   have hr:(t.at_ - 34).tdiv 50=0:=by
    have all:∀ k:Fin 34,((k.val:Int) - 34).tdiv 50=0:=by decide
    have:=all ⟨t.at_.toNat,by omega⟩
    simp only at this
    rw [show ((t.at_.toNat:Nat):Int)=t.at_ by omega] at this
    exact this
   rw [binV_quo,if_neg (by decide),hr];rfl
  ·exact ⟨(t.at_ - 34) / 50,quo_nn (by omega) (by omega) (by decide),fun _=> rfl⟩
 obtain ⟨sv,q1,q2⟩:=hq
 refine bnd_of q1 ?_
 refine wk ?_
 refine ifN_cases (fun c=> ?_) fun c=> ?_
 ·exact no (Touch.dec_no (.inl c)) hp
 refine wk ?_
 refine ifV_cases (fun c3=> ?_) fun c3=> ?_
 ·exact no (Touch.dec_no (.inr (.inr (.inl c3)))) hp
 have c3:34≤t.at_:=by omega
 have q2:=q2 c3
 subst q2
 refine wk ?_
 refine T_rBase (by omega) (by omega) ?_
 refine ⟨wq0_ hp rfl,?_⟩
 refine wk ?_
 refine ifN_cases (fun c4=> ?_) fun c4=> ?_
 ·exact no (Touch.dec_no (.inr (.inr (.inr c4)))) hp
 refine wk ?_
 refine ifV_cases (fun c2=> ?_) fun c2=> ?_
 ·exact no (Touch.dec_no (.inr (.inl c2))) hp
 have pl:=(hpl c c3).resolve_left c2
 have de:=Touch.dec_yes c c2 c3 c4 pl
 have nn:0≤t.now:=by have:=val_of_some pl;have:=(valOf_bd t.now).1;omega
 refine wk ?_
 refine bnd_of (show binV .rem (i64 t.now) (i64 16)=some (i64 (t.now % 16)) by rw [binV_rem,if_neg (by decide),Int.tmod_eq_emod_of_nonneg nn]) ?_
 refine wk ?_
 refine ifN_cases (fun c5=> ?_) fun c5=> ?_
 ·exact no (by rw [de,if_neg c5]) hp
 rw [if_pos c5] at de
 unfold decAll at hK
 rw [de] at hK
 dsimp only at hK
 generalize (t.at_ - 34) / 50=s at hK
 clear no q1 de c4 hp0
 replace hp:=hp.tail
 unfold S99_j1
 have htl:∀ {h'} {P1 P2:Part} {R'},All (P1::P2::rowP 1 tv (bs.map encP)::R') h'→lnV tv=some (i64 xs.length):=fun hp=> by have:=All.len (hn (hp.up 2));rw [List.length_map,bl] at this;exact this
 refine Lfp_fam (ι:=Nat) (fun i=> [ptr b,i64 s,i64 i]) (fun i h'=> i≤xs.length∧All (pts b (rmcRow p pv a tv L picks xv)::arP 103 a A::rowP 1 tv (bs.map encP)::rowP 8 xv (ts.map Touch.enc)::eachP rthP bs ((xs.take i).map (fun x=> x.decide s picks) ++ xs.drop i)::R) h') (fun i=> xs.length - i) ?_ 0 _ ⟨by omega,hp⟩
 clear hp
 rintro i h8 X ⟨hi,hp⟩ again
 simp only [tup_zero,tup_succ]
 have ld17:∀ {h'} {P1:Part} {R'},All (P1::pts b (rmcRow p pv a tv L picks xv)::R') h'→ldV 1 false (.pointer (some ⟨b,0 + 17,none⟩)) h'=some (i64 picks):=fun hp=> lv_ld2 (hn (hp.up 1)) 0 rfl (by rw [hL];rfl)
 have hp0:=hp
 unfold rmcRow lvRow at hp
 refine wk ?_
 refine bnd_of (htl hp) ?_
 refine wk ?_
 refine ifV_cases (fun c=> ?_) fun c=> ?_
 ·obtain ⟨y,hy⟩:∃ y,xs[i]?=some y:=⟨_,List.getElem?_eq_getElem (by omega)⟩
  obtain ⟨yb,hyb⟩:∃ yb,bs[i]?=some yb:=⟨_,List.getElem?_eq_getElem (by omega)⟩
  have oy:=oe y (List.mem_of_getElem? hy)
  obtain ⟨q,e1,e2⟩:=(All.rows (hn (hp.up 2))).get1 (i:=i) (x:=ptr yb) (by rw [List.getElem?_map,hyb];rfl) .i64
  refine wk ?_
  refine bnd_of e1 (bnd_of e2 ?_)
  have hy2:=map_part_get (f:=fun x:Th=> x.decide s picks) hy
  -- it goes on
  have next:∀ {h'},All (rthP yb (y.decide s picks)::eachP rthP (bs.eraseIdx i) (((xs.take i).map (fun x=> x.decide s picks) ++ xs.drop i).eraseIdx i)::pts b (rmcRow p pv a tv L picks xv)::arP 103 a A::rowP 1 tv (bs.map encP)::rowP 8 xv (ts.map Touch.enc)::R) h'→X (tup [ptr b,i64 s,i64 ((i + 1:Nat):Int)]) h':=by
   intro h' hp
   have hp:=eachP_put (b:=y.decide s picks) hyb (by simp only [List.length_append,List.length_map,List.length_take,List.length_drop];omega) hp
   rw [map_part (f:=fun x:Th=> x.decide s picks) hy] at hp
   exact again (i + 1) _ ⟨by omega,hn (hp.re 5 [1,2,3,4,0])⟩ (by omega)
  have hq:=eachP_at hyb hy2 (hn (hp0.up 4))
  refine rthP_open hq fun v l hq2=> ?_
  clear hp hp0 hq
  have hp:=rtV_open hq2
  have hp0:=hp
  unfold rthRow at hp
  refine wk ?_
  unfold S99_j2
  have ei:(i:Int) + 1=((i + 1:Nat):Int):=by omega
  refine ifV_cases (fun cs=> ?_) fun cs=> ?_
  ·refine wk ?_
   have hlen:=evP_len (hn (hp.up 2))
   refine bnd_of hlen ?_
   refine wk ?_
   refine ifV_cases (fun c2=> ?_) fun c2=> ?_
   ·have l0:0 < y.evs.length:=by omega
    have live:y.evs ≠ []:=List.length_pos_iff.1 l0
    have lsub:(y.evs.length:Int) - 1=((y.evs.length - 1:Nat):Int):=by omega
    clear hp
    have hp:=hn (hp0.up 2)
    refine evsP_open hp fun ws hl hp=> ?_
    obtain ⟨e,w,g1,g2,g3,g4⟩:=evCs_last hl live
    have wg:=(hp.row.good.1 _ (List.mem_of_getElem? g4)).2
    obtain ⟨eb,i1,_,i3,_⟩:=All.elt hp g4 .i64
    have ow:oneCell w=true:=by
     unfold Event.cells at wg
     simp only [List.all_cons,Bool.and_eq_true] at wg
     exact wg.2.2.2.2.2.2.2.1
    replace hp:=hn (hp.up 2)
    unfold rthRow at hp
    refine wk ?_
    refine bnd_of hlen ?_
    refine wk ?_
    rw [lsub]
    refine bnd_of i1 (bnd_of i3 ?_)
    refine nwst hp (.row 56 (e.cells w) 8 true) rfl rfl wg rfl fun lb h3 hp=> ?_
    unfold Event.cells at hp
    refine wk ?_
    have hq:=hn (hp.re 15 [0,14,1,2,3,4,5,6,7,8,9,10,11,12,13])
    refine bnd_of (ld17 hq) ?_
    clear hq
    refine wk ?_
    refine st0 hp (.row 56 (({e with decided:=picks}:Event).cells w) 8 true) rfl le_ rfl rfl fun h4 hp=> ?_
    unfold Event.cells at hp
    refine wk ?_
    refine bnd_of hlen ?_
    refine wk ?_
    rw [lsub]
    refine la0 hp le_ rfl ?_
    replace hp:=hn (hp.tail.re 3 [1,0,2])
    obtain ⟨eb2,m1,_,_,m4⟩:=All.elt hp g4 .i64
    obtain ⟨h6,z1,z2⟩:=m4 0 8 (.agg (({e with decided:=picks}:Event).cells w).toArray) rfl (by decide) (by
     show (({e with decided:=picks}:Event).cells w).all oneCell=true
     unfold Event.cells
     simp only [List.all_cons,ow,List.all_nil,Bool.and_true,Bool.and_eq_true]
     exact ⟨rfl,rfl,rfl,rfl,rfl,rfl,rfl⟩)
    refine bnd_of m1 (bnd_of z1 ?_)
    have hp:=z2
    have c8:setCells (e.cells w) 0 (Value.agg (({e with decided:=picks}:Event).cells w).toArray).cells.toList=({e with decided:=picks}:Event).cells w:=rfl
    rw [c8,evCs_set hl,set_self g3] at hp
    have hp:=ansP_same g2 (e':={e with decided:=picks}) rfl (hn (hp.up 2))
    have hp:=evsP_shut (ws:=ws) (es:=y.evs.set (y.evs.length - 1) {e with decided:=picks}) (by rw [List.length_set];exact hl) (hn (hp.re 2 [1,0]))
    refine wk ?_
    rw [ei]
    refine next (rthP_shut (v:=v) (rtV_dec cs g1 l) (rtV_shut ?_))
    have ed:y.decide s picks={y with evs:=y.evs.set (y.evs.length - 1) {e with decided:=picks}}:=by
     unfold Th.decide
     rw [if_pos cs,evTurn_set g1]
    rw [ed]
    exact hn (hp.re 3 [1,2,0])
   ·have he:y.evs= []:=List.length_eq_zero_iff.1 (by omega)
    refine wk ?_
    rw [ei]
    have ed:y.decide s picks=y:=by
     unfold Th.decide
     rw [if_pos cs]
     have:(evTurn y.evs fun e=> {e with decided:=picks})=y.evs:=by rw [he];rfl
     rw [this]
    refine next ?_
    rw [ed]
    exact rthP_shut l (rtV_shut hp0)
  ·refine wk ?_
   rw [ei]
   have ed:y.decide s picks=y:=by unfold Th.decide;rw [if_neg cs]
   refine next ?_
   rw [ed]
   exact rthP_shut l (rtV_shut hp0)
 ·have:i=xs.length:=by omega
  subst this
  rw [List.take_length,List.drop_length,List.append_nil] at hp0
  exact hK _ hp0
end
end Go.Proofs.YtfphpafkhljncaaGreat
namespace Go.Proofs.YtfphpafkhljncaaGreat
open Go GW Go.Proofs
attribute [local irreducible] bnd ldV stV ifV binV eqI
set_option maxRecDepth 20000
theorem Mc.si.nopu{M:Mc}{fr:List Int}{c:Int}{x:Th}{k:Nat}(o:M.ok)(S:M.si fr c)(hx:M.ths[k]?=some x):Nopu x M.A:=by
 intro hn s r hr
 have ox:=o.ths x (List.mem_of_getElem? hx)
 have w:=S.own x (List.mem_of_getElem? hx)
 have hc:c < 90000:=by have:=S.c1;have:=o.p1;omega
 have oc:=Th.cached_ok ox.1
 have wc:=Th.cached_own w hn
 have hd:∀ s ∈ x.ripe,s ∉ fr:=fun s h1 h2=> by
  have a1:=S.all s
  have a2:=sum_one (f:=fun x:Th=> x.hold.count s) hx
  have a3:=List.count_pos_iff.2 h2
  have a4:=List.count_pos_iff.2 h1
  have a5:=hold_count x s
  split at a1 <;> omega
 have hd:∀ s ∈ x.cached.ripe,s ∉ fr:=fun s hs=> hd s (Th.cached_sub hs)
 generalize x.cached=y at oc wc hr hd
 have hm:=oc.ri s (by rw [hr];simp)
 have po:(y.push.getD (.new s)).ok∧(y.push.getD (.new s)).own M.A∧(y.push.getD (.new s)).slot=s:=by
  cases hp:y.push with
  | none=> exact ⟨Push.new_ok hm.1 hm.2,Push.new_own,rfl⟩
  | some p=>
   have:=(wc.push p hp).2
   rw [hr] at this
   cases this
   exact ⟨oc.push p hp,(wc.push p hp).1,rfl⟩
 exact (Push.step_own po.1 po.2.1 o.A S.F hc (by rw [po.2.2];exact hd s (by rw [hr];simp))).1
section
variable {R : List Part} {h g : GH} {K : Value → GH → Prop} {b : Nat} {M : Mc} {p : Plan} {pv : Value} {k : Int} {fr : List Int} {c : Int}
theorem T_rmPick(hp:All (rmcP p pv b M::R) h)(o:M.ok)(S:M.si fr c)(hK:∀ h',All (rmcP p pv b (M.pick k).1::R) h'→K (.tuple #[.bool (M.pick k).2.1,i64 (M.pick k).2.2]) h'):T Tryz.prog 59 [ptr b,i64 k] h K:=by
 apply S59_T
 unfold S59
 have hp00:=hp
 refine wk ?_
 refine ifV_cases (fun c1=> ?_) fun c1=> ?_
 ·rw [Mc.pick_no (.inl (by omega))] at hK
  exact hK _ hp00
 refine rmcP_open hp fun a bs tv xv hp=> ?_
 have bl:bs.length=M.ths.length:=All.case (hn (hp.up 4)) fun h1 p _=> eachP_len p
 have ld17:∀ {h'} {R'} {L:List Int} {xv},L.length=12→All (pts b (rmcRow p pv a tv L M.picks xv)::R') h'→ldV 1 false (.pointer (some ⟨b,0 + 17,none⟩)) h'=some (i64 M.picks):=fun hL hp=> lv_ld2 hp 0 rfl (by rw [hL];rfl)
 have ld18:∀ {h'} {P} {R'} {L:List Int} {xv},L.length=12→All (P::pts b (rmcRow p pv a tv L M.picks xv)::R') h'→ldV 1 false (.pointer (some ⟨b,0 + 18,none⟩)) h'=some xv:=fun hL hp=> lv_ld2 (hn (hp.up 1)) 1 rfl (by rw [hL];rfl)
 have hp0:=hp
 unfold rmcRow lvRow at hp
 refine wk ?_
 have htl:lnV tv=some (i64 M.ths.length):=by have:=All.len (hn (hp.up 2));rw [List.length_map,bl] at this;exact this
 refine bnd_of htl ?_
 refine wk ?_
 refine ifV_cases (fun c3=> ?_) fun c3=> ?_
 ·rw [Mc.pick_no (.inl (by omega))] at hK
  exact hK _ hp00
 refine wk ?_
 refine bnd_of (ld17 o.L hp0) ?_
 refine wk ?_
 refine ifV_cases (fun c2=> ?_) fun c2=> ?_
 ·rw [Mc.pick_no (.inr c2)] at hK
  exact hK _ hp00
 obtain ⟨n,rfl⟩:=Int.eq_ofNat_of_zero_le (show 0≤k by omega)
 have hn0:n < M.ths.length:=by omega
 obtain ⟨x,hx⟩:∃ x,M.ths[n]?=some x:=⟨_,List.getElem?_eq_getElem hn0⟩
 obtain ⟨tb,htb⟩:∃ tb,bs[n]?=some tb:=⟨_,List.getElem?_eq_getElem (by omega)⟩
 rw [Mc.pick_yes hx (by omega)] at hK
 have ox:=o.ths x (List.mem_of_getElem? hx)
 have s:=Th.step_ok (L:=M.L) ox.1 o.A o.p0
 have ac:=Th.step_acc (L:=M.L) (pick:=M.picks) ox.1 ox.2.1 o.A
 have trs:=Th.step_tsr (A:=M.A) (L:=M.L) (pick:=M.picks) ox.1 ox.2.2.2
 have hl:=Th.step_lives (A:=M.A) (x:=x) (L:=M.L) (pick:=M.picks)
 have hlok:=ac.1.lok o.A o.l
 have hdead:(x.step M.A M.L M.picks).2.1=true→x.dead=false:=fun q=> by
  cases hd:x.dead with
  | false=> rfl
  | true=> rw [Th.step_dead hd] at q;cases q
 unfold S59_j1
 refine wk ?_
 obtain ⟨q,e1,e2⟩:=(All.rows (hn (hp.up 2))).get1 (i:=n) (x:=ptr tb) (by rw [List.getElem?_map,htb];rfl) .i64
 refine bnd_of e1 (bnd_of e2 ?_)
 refine wk ?_
 refine bnd_of (ld17 o.L hp0) ?_
 have p0:=o.p0
 have hLok:Lok M.L:=⟨o.L,fun y hy=> by have:=o.L2 y hy;have:=o.p1;omega⟩
 have hp1:=eachP_at htb hx (hn (hp0.up 4))
 refine rthP_open hp1 fun v lk hp1=> ?_
 replace hp1:All (arP 103 a M.A::pts b (lvRow 100 19 [pv,i64 p.attempts, .bool p.polite,ptr a,tv] M.L [i64 M.picks,xv])::rtV tb x v::eachP rthP (bs.eraseIdx n) (M.ths.eraseIdx n)::rowP 1 tv (bs.map encP)::rowP 8 xv (M.ts.map Touch.enc)::R) h:=hn (hp1.re 6 [3,2,0,1,4,5])
 refine T_rtStep hp1 ox.1 lk hLok (fun _=> S.nopu o hx) fun v' h1 lk' hts hp=> ?_
 clear hp1 hp0
 generalize x.step M.A M.L M.picks=r at hp hK s ac trs hl hlok lk' hts hdead
 obtain ⟨x',is,code,A',L'⟩:=r
 dsimp only at hp hK s ac trs hl hlok lk' hts hdead ⊢
 have hL':L'.length=12:=by
  rcases hl with e | ⟨s,e⟩
  ·rw [e];exact o.L
  ·rw [e];unfold lived;rw [List.length_set];exact o.L
 have fold:∀ {h'} {D:Part},All (D::pts b (rmcRow p pv a tv L' M.picks xv)::arP 103 a A'::rtV tb x' v'::eachP rthP (bs.eraseIdx n) (M.ths.eraseIdx n)::rowP 1 tv (bs.map encP)::rowP 8 xv (M.ts.map Touch.enc)::R) h'→All (D::pts b (rmcRow p pv a tv L' M.picks xv)::arP 103 a A'::rowP 1 tv (bs.map encP)::rowP 8 xv (M.ts.map Touch.enc)::eachP rthP bs (M.ths.set n x')::R) h':=by
  intro h' D hp
  have hp:=rthP_shut lk' (hn (hp.up 3))
  have hp2:=eachP_put (b:=x') htb hn0 (hn (hp.re 5 [0,4,1,2,3]))
  exact hn (hp2.re 6 [1,2,3,4,5,0])
 have j3:∀ (xv':Value) (ths:List Th) (ts:List Touch) h',(∀ h'',All (rmcP p pv b ⟨A',ths,L',M.picks + 1,ts⟩::R) h''→K (.tuple #[.bool is,i64 (if code=0 then 0 else 1900)]) h'')→All (pts b (rmcRow p pv a tv L' M.picks xv')::arP 103 a A'::rowP 1 tv (bs.map encP)::rowP 8 xv' (ts.map Touch.enc)::eachP rthP bs ths::R) h'→S59_j3 (ptr b) (.bool is) (i64 code) h' K:=by
  intro xv' ths ts h' hK hp
  unfold S59_j3
  refine wk ?_
  refine bnd_of (ld17 hL' hp) ?_
  refine wk ?_
  unfold rmcRow at hp
  refine lv_st2 hp 0 (by simp) (by rw [hL'];rfl) rfl rfl fun h2 hp=> ?_
  replace hp:All (pts b (rmcRow p pv a tv L' (M.picks + 1) xv')::_) h2:=hp
  have:=hK _ (rmcP_shut (M:=⟨A',ths,L',M.picks + 1,ts⟩) hp)
  refine wk ?_
  by_cases c:code=0
  ·rw [if_pos c] at this
   rw [decide_eq_true c]
   refine wk ?_
   exact this
  ·rw [if_neg c] at this
   rw [decide_eq_false c]
   refine wk ?_
   exact this
 have hp:All (pts b (rmcRow p pv a tv L' M.picks xv)::arP 103 a A'::rtV tb x' v'::eachP rthP (bs.eraseIdx n) (M.ths.eraseIdx n)::rowP 1 tv (bs.map encP)::rowP 8 xv (M.ts.map Touch.enc)::R) h1:=hn (hp.re 2 [1,0])
 refine wk ?_
 cases is with
 | false=>
  refine wk ?_
  have:=fold (D:=emp) (hp.emp_cons (by exact trivial))
  exact j3 xv _ _ _ hK this.tail
 | true=>
  obtain ⟨ts1,ts2⟩:=hts (hdead rfl)
  have hA:=(arP.at (hn (hp.up 1))).2
  obtain ⟨l0,l1,l2,l3,l4,l5,l6,l7,el⟩:=list8 hA.touch
  have hp0:=hp
  unfold rmcRow lvRow at hp
  refine wk ?_
  refine T_refLast (hn (hp.up 1)) ?_
  refine wk ?_
  rw [el]
  refine nwst hp0 (.row 60 [i64 l0,i64 l1,i64 l2,i64 l3,i64 l4,i64 l5,i64 l6,i64 l7] 8 true) rfl rfl rfl rfl fun d h2 hp=> ?_
  clear hp0
  refine T_rtThrough (hn (hp.up 3)) ?_
  rw [ts1,ts2]
  refine wk ?_
  refine st0 hp (.row 60 [i64 n,i64 l1,i64 l2,i64 l3,i64 l4,i64 l5,i64 l6,i64 l7] 8 true) rfl le_ rfl rfl fun h3 hp=> ?_
  refine wk ?_
  refine st0 hp (.row 60 [i64 n,i64 l1,i64 l2,i64 l3,i64 l4,i64 x'.ts,i64 l6,i64 l7] 8 true) rfl le_ rfl rfl fun h4 hp=> ?_
  refine wk ?_
  refine st0 hp (.row 60 [i64 n,i64 l1,i64 l2,i64 l3,i64 l4,i64 x'.ts,i64 x'.tg,i64 l7] 8 true) rfl le_ rfl rfl fun h5 hp=> ?_
  refine wk ?_
  have hp:=fold hp
  have j2:∀ h',All (pts d (.row 60 (noteT A' L' n x').enc 8 true)::pts b (rmcRow p pv a tv L' M.picks xv)::arP 103 a A'::rowP 1 tv (bs.map encP)::rowP 8 xv (M.ts.map Touch.enc)::eachP rthP bs (M.ths.set n x')::R) h'→S59_j2 (ptr b) (.bool true) (i64 code) (ptr d) h' K:=by
   intro h' hp
   have ta:(noteT A' L' n x').at_=A'.last.getD 2 0:=rfl
   have tn:(noteT A' L' n x').now=A'.last.getD 4 0:=rfl
   have tk:(noteT A' L' n x').kind=A'.last.getD 1 0:=rfl
   have tw:(noteT A' L' n x').was=A'.last.getD 3 0:=rfl
   have k1:=hlok.at0;have k2:=hlok.at1;have k3:=hlok.pl
   rw [← ta] at k1 k2
   rw [← ta, ← tn, ← tk, ← tw] at k3
   generalize noteT A' L' n x'=t at hp hK k1 k2 k3
   unfold S59_j2
   refine wk ?_
   refine bnd_of (ld18 hL' hp) ?_
   refine la0 hp (c:=t.enc) le_ rfl ?_
   refine bs0 (size:=8) hp ([t].map Touch.enc) rfl rfl (by simp) (Touch.all_good _) fun sv h6 hp=> ?_
   have r2:=hp.rows
   refine ap0 (hn (hp.up 5)) r2 (Touch.all_good _) (by decide) (by have:=o.ts;have:=o.p1;simp only [List.length_map,List.length_cons,List.length_nil];omega) fun xv' h7 hp=> ?_
   rw [← List.map_append] at hp
   obtain ⟨ad,ln,cap,rfl⟩:=All.isSlice hp
   replace hp:=hn (hp.re 7 [3,2,4,5,0,6])
   refine wk ?_
   unfold rmcRow at hp
   refine lv_st2 hp 1 (by simp) (by rw [hL'];rfl) rfl rfl fun h8 hp=> ?_
   replace hp:All (pts b (rmcRow p pv a tv L' M.picks (.slice ad ln cap))::_) h8:=hp
   replace hp:=hn (hp.re 2 [1,0])
   refine la0 hp (c:=t.enc) le_ rfl ?_
   refine T_rdecided hp.tail hL' k1 k2 k3 (fun y hy=> ?_) (by rw [List.length_set];exact o.n) fun h9 hp=> ?_
   ·rcases List.mem_or_eq_of_mem_set hy with q | q
    ·exact (o.ths y q).1.evs8
    ·subst q;exact s.1.evs8
   ·exact j3 (.slice ad ln cap) _ _ _ hK hp
  have tr0:=trs.1.1;have tr1:=trs.1.2
  refine ifV_cases (fun c=> ?_) fun c=> ?_
  ·obtain ⟨m,en⟩:=Int.eq_ofNat_of_zero_le c
   have hp0:=hp
   unfold rmcRow lvRow at hp
   refine wk ?_
   rw [en]
   refine bnd_of (iaV_at (by omega) .i64) ?_
   have hl:ldV 1 false (.pointer (some ⟨b,5 + m * 1,none⟩)) h5=some (i64 (L'.getD m 0)):=lv_ld (pre:= [pv,i64 p.attempts, .bool p.polite,ptr a,tv]) (hn (hp0.up 1)) (by omega)
   refine bnd_of hl ?_
   replace hp:=hp0
   refine wk ?_
   refine st0 hp (.row 60 [i64 n,i64 l1,i64 l2,i64 l3,i64 l4,i64 x'.ts,i64 x'.tg,i64 (L'.getD m 0)] 8 true) rfl le_ rfl (by rw [en];rfl) fun h6 hp=> ?_
   refine j2 _ ?_
   have e:(noteT A' L' n x').enc= [i64 n,i64 l1,i64 l2,i64 l3,i64 l4,i64 x'.ts,i64 x'.tg,i64 (L'.getD m 0)]:=by
    unfold noteT Ar.lst Touch.enc
    rw [el,if_pos c,en];rfl
   rw [e]
   exact hp
  ·refine j2 _ ?_
   have e:(noteT A' L' n x').enc= [i64 n,i64 l1,i64 l2,i64 l3,i64 l4,i64 x'.ts,i64 x'.tg,i64 l7]:=by
    unfold noteT Ar.lst Touch.enc
    rw [el,if_neg c];rfl
   rw [e]
   exact hp
end
end Go.Proofs.YtfphpafkhljncaaGreat
namespace Go.Proofs.YtfphpafkhljncaaGreat
open Go GW Go.Proofs
attribute [local irreducible] bnd ldV stV ifV binV eqI
set_option maxRecDepth 20000
theorem trims_si:∀ {ks:List Int} {M:Mc},M.ok→(∃ fr c,M.si fr c)→∃ fr c,(trims M ks).2.si fr c:=by
 intro ks
 induction ks with
 | nil=> intro M _ h;exact h
 | cons k ks ih=>
  intro M o h
  unfold trims
  split
  ·obtain ⟨fr,c,S⟩:=h
   obtain ⟨fr',c',S',_⟩:=Mc.pick_si (k:=k) o S
   exact ih (Mc.pick_ok o) ⟨fr',c',S'⟩
  ·exact ih o h
theorem trims_una:∀ {ks:List Int} {M:Mc},M.ok→(∀ x ∈ M.ths,x.una)→∀ x ∈ (trims M ks).2.ths,x.una:=by
 intro ks
 induction ks with
 | nil=> intro M _ h;exact h
 | cons k ks ih=>
  intro M o h
  unfold trims
  split
  ·exact ih (Mc.pick_ok o) (Mc.pick_una o h)
  ·exact ih o h
section
variable {R : List Part} {h g : GH} {K : Value → GH → Prop} {a b : Nat} {M : Mc} {p : Plan} {v pv : Value} {k : Int} {fr : List Int} {c : Int} {A : Ar} {picks : List Int} {x : Th} {u : RV}
theorem Lk.done(l:Lk x u)(un:x.una):(decide (u.pc=0) && x.done)=x.done:=by
 cases hd:x.done with
 | false=> rw [Bool.and_false]
 | true=>
  have:=un.done hd
  have e:=l.pc
  rw [this.1,this.2,if_neg (by decide)] at e
  rw [e];rfl
theorem T_rTrim(hp:All R h)(hg:∀ h',All R h'→HLe g h')(ht:threadsAt g v p.threads)(rp:∀ h',All R h'→rowsAt h' 1 pv (picks.map encI))
  (hK:∀ v' h',All (rowP 1 v' ((trimA p picks).map encI)::R) h'→K (.tuple #[v',i64 (trimE p picks)]) h'):T Tryz.prog 42 [.agg (planC v p).toArray,pv] h K:=by
 apply S42_T
 unfold S42
 have hpl:lnV pv=some (i64 picks.length):=by have:=(rp _ hp).len;rw [List.length_map] at this;exact this
 have hpm:picks.length≤9223372036854775807:=by have:=(rp _ hp).max;rw [List.length_map] at this;exact this
 refine nw hp (.row 67 (planC v p) 3 true) rfl fun d h1 hp=> ?_
 refine la0 hp (c:=planC v p) (Nat.le_refl 3) rfl ?_
 refine T_rmNew hp (fun h' hp=> hg _ hp.tail) ht (fun hm h3 hp=> ?_) fun hm b h3 hp=> ?_
 ·refine wk ?_
  have:=hK (.slice none 0 0) _ (hp.tail.emp_cons (rowP_nil 1 _) |> fun z=> by
   have e:trimA p picks= []:=by unfold trimA;rw [if_neg (by rw [hm];simp)]
   rw [e];exact z)
  have e2:trimE p picks=2400:=by unfold trimE;rw [if_neg (by rw [hm];simp)]
  rw [e2] at this
  exact this
 refine wk ?_
 refine bnd_of hpl ?_
 refine wk ?_
 refine ifV_cases (fun c=> ?_) fun c=> ?_
 ·have:=hK (.slice none 0 0) _ (hp.tail.tail.emp_cons (rowP_nil 1 _) |> fun z=> by
   have e:trimA p picks= []:=by unfold trimA;rw [if_neg (by omega)]
   rw [e];exact z)
  have e2:trimE p picks=2400:=by unfold trimE;rw [if_neg (by omega)]
  rw [e2] at this
  exact this
 have hT:trimA p picks=(trims (Mc.new p) picks).1:=by unfold trimA;rw [if_pos ⟨hm,by omega⟩]
 have hE:trimE p picks=0:=by unfold trimE;rw [if_pos ⟨hm,by omega⟩]
 rw [hT,hE] at hK
 have o0:=Mc.new_ok hm
 unfold S42_j1
 replace hp:=hn (hp.re 2 [0])
 refine Lfp_fam (ι:=Nat × Value) (fun q=> [pv,ptr b,q.2,i64 q.1]) (fun q h'=> q.1≤picks.length∧All (rowP 1 q.2 ((trims (Mc.new p) (picks.take q.1)).1.map encI)::rmcP p v b (trims (Mc.new p) (picks.take q.1)).2::R) h') (fun q=> picks.length - q.1) ?_ (0, .slice none 0 0) h3 ⟨by simp,hp.emp_cons (rowP_nil 1 _)⟩
 clear hp
 rintro ⟨i,ov⟩ h4 X ⟨hi,hp⟩ again
 simp only at hi hp
 simp only [tup_zero,tup_succ]
 have oM:=trims_ok (ks:=picks.take i) o0
 obtain ⟨fr,cc,S⟩:=trims_si (ks:=picks.take i) o0 ⟨twelve,0,Mc.new_si⟩
 have un:=trims_una (ks:=picks.take i) o0 (Mc.new_una (p:=p))
 have sh:=trims_short (ks:=picks.take i) (M:=Mc.new p)
 rw [List.length_take] at sh
 refine bnd_of hpl ?_
 refine wk ?_
 refine ifV_cases (fun c1=> ?_) fun c1=> ?_
 ·obtain ⟨x,hx⟩:∃ x,picks[i]?=some x:=⟨_,List.getElem?_eq_getElem (by omega)⟩
  obtain ⟨q,d1,d2⟩:=(rp _ hp.tail.tail).get1 (i:=i) (x:=i64 x) (by rw [List.getElem?_map,hx];rfl) .i64
  refine bnd_of d1 (bnd_of d2 ?_)
  have e1:picks.take (i + 1)=picks.take i ++ [x]:=by rw [List.take_add_one,hx];rfl
  have sn:=trims_snoc (ks:=picks.take i) (M:=Mc.new p) (k:=x)
  rw [← e1] at sn
  generalize trims (Mc.new p) (picks.take i)=z at hp oM sn sh S un
  obtain ⟨qs,M⟩:=z
  dsimp only at hp oM sn sh S un
  have no:M.counts x=false→∀ {h'},All (rowP 1 ov (qs.map encI)::rmcP p v b M::R) h'→X (tup [pv,ptr b,ov,i64 ((i:Int) + 1)]) h':=by
   intro hc h' hp
   rw [hc,if_neg (by decide)] at sn
   have:=again (i + 1,ov) h' ⟨by simp only;omega,by simp only [sn];exact hp⟩ (by simp only;omega)
   exact this
  refine wk ?_
  refine ifV_cases (fun c2=> ?_) fun c2=> ?_
  ·refine wk ?_
   refine no ?_ hp
   unfold Mc.counts
   rw [decide_eq_false (by omega),Bool.false_and]
  obtain ⟨n,rfl⟩:=Int.eq_ofNat_of_zero_le (show 0≤x by omega)
  have hp0:=hp
  refine rmcP_open (hn (hp.up 1)) fun a bs tv xv hq=> ?_
  have bl:bs.length=M.ths.length:=All.case (hn (hq.up 4)) fun h1 p _=> eachP_len p
  have htl:lnV tv=some (i64 M.ths.length):=by have:=All.len (hn (hq.up 2));rw [List.length_map,bl] at this;exact this
  clear hp
  have hp:=hq
  unfold rmcRow lvRow at hp
  refine wk ?_
  refine bnd_of htl ?_
  refine wk ?_
  refine ifV_cases (fun c3=> ?_) fun c3=> ?_
  ·refine wk ?_
   refine no ?_ hp0
   unfold Mc.counts
   rw [decide_eq_false (by omega),Bool.false_and]
  have hn0:n < M.ths.length:=by omega
  obtain ⟨y,hy⟩:∃ y,M.ths[n]?=some y:=⟨_,List.getElem?_eq_getElem hn0⟩
  have hcy:M.counts n=!y.done:=by
   unfold Mc.counts
   rw [decide_eq_true ⟨by omega,by omega⟩,Int.toNat_natCast,hy];rfl
  obtain ⟨tb,htb⟩:∃ tb,bs[n]?=some tb:=⟨_,List.getElem?_eq_getElem (by omega)⟩
  obtain ⟨pt,t1,t2⟩:=(All.rows (hn (hq.up 2))).get1 (i:=n) (x:=ptr tb) (by rw [List.getElem?_map,htb];rfl) .i64
  refine wk ?_
  refine bnd_of t1 (bnd_of t2 ?_)
  refine rthP_open (eachP_at htb hy (hn (hq.up 4))) fun u l hq2=> ?_
  refine T_rtDone hq2 (oM.ths y (List.mem_of_getElem? hy)).1.evs8 ?_
  rw [l.done (un y (List.mem_of_getElem? hy))]
  clear hq hq2 hp
  have hp:=hp0
  cases hd:y.done with
  | true=>
   rw [hd] at hcy
   refine wk ?_
   exact no hcy hp0
  | false=>
   rw [hd] at hcy
   rw [hcy,if_pos (by rfl)] at sn
   refine wk ?_
   unfold S42_j2
   refine T_rmPick (hn (hp.up 1)) oM S fun h5 hp=> ?_
   refine bs0 (size:=1) hp ([(n:Int)].map encI) rfl rfl (by simp) (encI_good _) fun sv h6 hp=> ?_
   have r2:=hp.rows
   refine ap0 (hn (hp.up 2)) r2 (encI_good _) (by decide) (by simp only [List.length_map,List.length_cons,List.length_nil];omega) fun ov' h7 hp=> ?_
   rw [← List.map_append] at hp
   refine wk ?_
   refine again (i + 1,ov') _ ⟨by simp only;omega,?_⟩ (by simp only;omega)
   simp only [sn]
   exact hn (hp.re 3 [0,2])
 ·have:i=picks.length:=by omega
  subst this
  rw [List.take_length] at hp
  exact hK _ _ (hn (hp.re 2 [0]))
theorem T_LendInts{sv:Value}{us:List Int}(hp:All R h)(hs:∀ h',All R h'→rowsAt h' 1 sv (us.map encI))(hb:us.length≤1000)(hK:∀ v' h',All (lentP 1 v' (us.map encI) ([(-7777),(-8888)].map encI)::R) h'→K v' h'):T Tryz.prog 40 [sv] h K:=by
 apply S40_T
 unfold S40
 apply S86_T
 unfold S86
 refine bs0 (size:=1) hp (([]:List Int).map encI) rfl rfl (by simp) (fun c hc=> by cases hc) fun nv h4 hp=> ?_
 have hr:=hs _ hp.tail
 refine ap0 hp hr (encI_good _) (by decide) (by simp;omega) fun v1 h5 hp=> ?_
 rw [List.map_nil,List.nil_append] at hp
 refine bs0 (size:=1) hp ([(-7777),(-8888)].map encI) rfl rfl (by simp) (encI_good _) fun mv h2 hp=> ?_
 have hr:=All.rows hp
 refine ap0 (hn (hp.up 1)) hr (encI_good _) (by decide) (by simp;omega) fun v2 h3 hp=> ?_
 have hln:=(hs _ hp.tail.tail).len
 refine bnd_of hln ?_
 obtain ⟨a,cap,junk,rfl,c2,c3,c4,c5⟩:=hp.row
 rw [List.length_append,List.length_map] at c2
 rw [List.length_map]
 refine bnd_of (slV_len (n:=us.length) (by simp at c2;omega) .i64) ?_
 replace hp:=hn (hp.re 2 [0])
 refine hK _ _ (hp.head fun _ z=> ⟨a,cap,by simp,z⟩)
theorem T_KeptInts{v sv:Value}{us:List Int}(hp:All (lentP 1 v (us.map encI) ([(-7777),(-8888)].map encI)::R) h)(hs:rowsAt h 1 sv (us.map encI))(hK:K (.bool true) h):T Tryz.prog 43 [v,sv] h K:=by
 apply S43_T
 unfold S43
 have hrow:rowP 1 v (us.map encI) h:=(hp.head fun _ z=> z.row).row
 obtain ⟨h1,h2,_,l1,_,⟨a,cap,rfl,q⟩,_⟩:=hp
 have full:rowP 1 (.slice a (us.map encI ++ [(-7777),(-8888)].map encI).length cap) (us.map encI ++ [(-7777),(-8888)].map encI) h:=q.le l1
 have hln:=hrow.rows.len
 have hmx:=hrow.rows.max
 have fr:=full.rows
 obtain ⟨a',cap',junk,e,c2,c3,_⟩:=full
 cases e
 simp only [List.length_append,List.length_map,List.length_cons,List.length_nil] at c2 c3 hln hmx fr ⊢
 refine bnd_of hln ?_
 refine wk ?_
 refine bnd_of (v:= .slice a (us.length + 2) cap) (by
  have:=slV_len (a:=a) (cap:=cap) (n:=us.length) (size:=1) (m:=us.length + 2) (by omega) .i64
  rw [show ((us.length:Int) + 2)=((us.length + 2:Nat):Int) by omega]
  exact this) ?_
 have hrr:=hrow.rows
 rw [List.length_map] at hrr
 refine T_SameInts hrr hs ?_
 rw [decide_eq_true rfl]
 refine wk ?_
 have hln2:=hs.len
 rw [List.length_map] at hln2
 refine bnd_of hln2 ?_
 obtain ⟨p1,e1,e2⟩:=fr.get1 (i:=us.length) (x:=i64 (-7777)) (by rw [List.getElem?_append_right (by simp)];simp [encI]) .i64
 obtain ⟨p2,e3,e4⟩:=fr.get1 (i:=us.length + 1) (x:=i64 (-8888)) (by rw [List.getElem?_append_right (by simp)];simp [encI]) .i64
 refine bnd_of e1 (bnd_of e2 ?_)
 refine wk ?_
 refine bnd_of hln2 ?_
 refine wk ?_
 refine bnd_of (by rw [show ((us.length:Int) + 1)=((us.length + 1:Nat):Int) by omega];exact e3) (bnd_of e4 ?_)
 refine wk ?_
 exact hK
theorem T_Trims(hp:All [baseP g] h)(ht:threadsAt g v p.threads)(rp:rowsAt g 1 pv (picks.map encI))(hK:∀ h',K (.bool true) h'):T Tryz.prog 7 [.agg (planC v p).toArray,pv] h K:=by
 apply S7_T
 unfold S7
 refine nw hp (.row 67 (planC v p) 3 true) rfl fun d h1 hp=> ?_
 have j1:∀ (qv:Value) (ks:List Int),ks.length≤400→rowsAt g 1 qv (ks.map encI)→S7_j1 qv (ptr d) h1 K:=by
  intro qv ks kl rq
  unfold S7_j1
  refine T_LendInts hp (fun h' hp=> rq.le (All.baseLe hp.tail)) (by omega) fun lv h2 hp=> ?_
  refine la1 hp (c:=planC v p) (Nat.le_refl 3) rfl ?_
  refine T_Trim hp (fun h' hp=> All.baseLe hp.tail.tail) ht (fun h' hp=> (hp.head (Q:=rowP 1 lv (ks.map encI)) fun _ z=> z.row).rows) fun v4 h3 hp=> ?_
  refine wk ?_
  replace hp:=hn (hp.up 2)
  refine la0 hp (c:=planC v p) (Nat.le_refl 3) rfl ?_
  refine T_rTrim hp (fun h' hp=> All.baseLe hp.tail.tail.tail) ht (fun h' hp=> rq.le (All.baseLe hp.tail.tail.tail)) fun v9 h4 hp=> ?_
  refine wk ?_
  refine T_SameInts (All.rows (hn (hp.up 2))) (All.rows hp) ?_
  rw [decide_eq_true rfl]
  refine wk ?_
  refine T_Num ?_
  refine wk ?_
  rw [decide_eq_true rfl]
  refine wk ?_
  replace hp:=hn (hp.re 5 [3,2,4])
  refine T_KeptInts hp (rq.le (All.baseLe hp.tail.tail)) ?_
  refine wk ?_
  refine T_SpoilInts (hn (hp.up 1)) fun h5 hp=> ?_
  refine T_rawake hp fun h6 hp=> ?_
  exact hK _
 have hpl:lnV pv=some (i64 picks.length):=by have:=rp.len;rw [List.length_map] at this;exact this
 refine bnd_of hpl ?_
 refine wk ?_
 refine ifV_cases (fun c=> ?_) fun c=> ?_
 ·obtain ⟨v',e,r⟩:=rp.take (k:=400) (by rw [List.length_map];omega) .i64
  refine bnd_of e ?_
  rw [← List.map_take] at r
  exact j1 _ _ (by rw [List.length_take];omega) r
 ·exact j1 _ _ (by omega) rp
end
end Go.Proofs.YtfphpafkhljncaaGreat
