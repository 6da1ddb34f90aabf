/- Several texts in one; nothing here is a statement on the program. -/
import Derived.Test.YtfphpafkhljncaaGreatQR12
set_option linter.unusedVariables false
set_option linter.unusedSimpArgs false
namespace Go.Proofs.YtfphpafkhljncaaGreat
open Go GW Go.Proofs
set_option maxRecDepth 20000
theorem sum_set{α:Type}{f:α→Nat}{x y:α}:∀ {xs:List α} {i:Nat},xs[i]?=some x→((xs.set i y).map f).sum + f x=(xs.map f).sum + f y:=by
 intro xs
 induction xs with
 | nil=> intro i h;cases h
 | cons a xs ih=>
   intro i h
   cases i with
   | zero=> simp at h;subst h;simp;omega
   | succ i=> have:=ih (i:=i) (by simpa using h);simp only [List.set_cons_succ,List.map_cons,List.sum_cons];omega
theorem sum_one{α:Type}{f:α→Nat}{x:α}:∀ {xs:List α} {i:Nat},xs[i]?=some x→f x≤(xs.map f).sum:=by
 intro xs
 induction xs with
 | nil=> intro i h;cases h
 | cons a xs ih=>
   intro i h
   cases i with
   | zero=> simp at h;subst h;simp
   | succ i=> have:=ih (i:=i) (by simpa using h);simp only [List.map_cons,List.sum_cons];omega
theorem sum_two{α:Type}{f:α→Nat}{x y:α}:∀ {xs:List α} {i j:Nat},xs[i]?=some x→xs[j]?=some y→i ≠ j→f x + f y≤(xs.map f).sum:=by
 intro xs
 induction xs with
 | nil=> intro i j h;cases h
 | cons a xs ih=>
   intro i j h h2 hij
   cases i with
   | zero=>
     cases j with
     | zero=> exact absurd rfl hij
     | succ j=>
       simp at h;subst h
       have:=sum_one (f:=f) (xs:=xs) (i:=j) (by simpa using h2)
       simp only [List.map_cons,List.sum_cons];omega
   | succ i=>
     cases j with
     | zero=>
       simp at h2;subst h2
       have:=sum_one (f:=f) (xs:=xs) (i:=i) (by simpa using h)
       simp only [List.map_cons,List.sum_cons];omega
     | succ j=>
       have:=ih (i:=i) (j:=j) (by simpa using h) (by simpa using h2) (by omega)
       simp only [List.map_cons,List.sum_cons];omega
structure Mc.si(M:Mc)(fr:List Int)(c:Int):Prop where
 F:Fre M.A fr c
 c1:c≤M.picks
 own:∀ x ∈ M.ths,x.own M.A c
 all:∀ s,fr.count s + (M.ths.map fun x=> x.hold.count s).sum=if 0≤s∧s < 12 then 1 else 0
def twelve:List Int:= [0,1,2,3,4,5,6,7,8,9,10,11]
theorem twelve_count(s:Int):twelve.count s=if 0≤s∧s < 12 then 1 else 0:=by
 split
 ·rename_i h
  have:s=0∨s=1∨s=2∨s=3∨s=4∨s=5∨s=6∨s=7∨s=8∨s=9∨s=10∨s=11:=by omega
  rcases this with rfl | rfl | rfl | rfl | rfl | rfl | rfl | rfl | rfl | rfl | rfl | rfl <;> decide
 ·rename_i h
  refine List.count_eq_zero.2 fun z=> h ?_
  simp only [twelve,List.mem_cons,List.not_mem_nil,or_false] at z
  omega
theorem newAr_fre:Fre newAr twelve 0:=by
 refine ⟨⟨1,by decide,?_⟩,fun s h0 h1=> ?_,Int.le_refl 0⟩
 ·refine ⟨rfl,by decide,2,by decide,rfl,by decide,3,by decide,rfl,by decide,4,by decide,rfl,by decide,5,by decide,rfl,by decide,6,by decide,rfl,by decide,7,by decide,rfl,by decide,8,by decide,rfl,by decide,9,by decide,rfl,by decide,10,by decide,rfl,by decide,11,by decide,rfl,by decide,12,by decide,rfl,by decide,0,by decide,rfl⟩
 ·have:s=0∨s=1∨s=2∨s=3∨s=4∨s=5∨s=6∨s=7∨s=8∨s=9∨s=10∨s=11:=by omega
  rcases this with rfl | rfl | rfl | rfl | rfl | rfl | rfl | rfl | rfl | rfl | rfl | rfl
  ·exact ⟨2,by decide,by decide,by decide⟩
  ·exact ⟨3,by decide,by decide,by decide⟩
  ·exact ⟨4,by decide,by decide,by decide⟩
  ·exact ⟨5,by decide,by decide,by decide⟩
  ·exact ⟨6,by decide,by decide,by decide⟩
  ·exact ⟨7,by decide,by decide,by decide⟩
  ·exact ⟨8,by decide,by decide,by decide⟩
  ·exact ⟨9,by decide,by decide,by decide⟩
  ·exact ⟨10,by decide,by decide,by decide⟩
  ·exact ⟨11,by decide,by decide,by decide⟩
  ·exact ⟨12,by decide,by decide,by decide⟩
  ·exact ⟨0,by decide,by decide,by decide⟩
theorem Mc.new_si{p:Plan}:(Mc.new p).si twelve 0:=by
 refine ⟨newAr_fre,Int.le_refl 0,fun x hx=> ?_,fun s=> ?_⟩
 ·obtain ⟨j,t,e1,rfl⟩:=Mc.threads_mem hx
  exact .idle rfl rfl rfl rfl
 ·rw [twelve_count]
  have:((Mc.new p).ths.map fun x=> x.hold.count s).sum=0:=by
   rw [List.map_congr_left (g:=fun _=> 0) fun x hx=> ?_]
   ·generalize (Mc.new p).ths=xs
    induction xs with
    | nil=> rfl
    | cons a xs ih=> simpa using ih
   ·obtain ⟨j,t,e1,rfl⟩:=Mc.threads_mem hx
    rfl
  rw [this];rfl
theorem decide_own{x:Th}{A:Ar}{c s pick:Int}(w:x.own A c):(x.decide s pick).own A c∧(x.decide s pick).hold=x.hold:=by
 unfold Th.decide
 split
 ·exact ⟨⟨w.ri,w.sl,w.po,w.push,w.pop⟩,rfl⟩
 ·exact ⟨w,rfl⟩
theorem Mc.pick_si{M:Mc}{k c:Int}{fr:List Int}(o:M.ok)(S:M.si fr c):∃ fr' c',(M.pick k).1.si fr' c'∧fr'.length≤fr.length + 1∧fr.length≤fr'.length + 1:=by
 unfold Mc.pick
 split
 ·exact ⟨fr,c,S,by omega,by omega⟩
 ·rename_i hk
  split
  ·exact ⟨fr,c,S,by omega,by omega⟩
  ·rename_i x hx
   have ox:=o.ths x (List.mem_of_getElem? hx)
   have hc:c < 90000:=by have:=S.c1;have:=o.p1;omega
   have c0:=S.F.c0
   have hd:∀ s ∈ x.ripe,s ∉ fr:=fun s h1 h2=> by
    have a1:=S.all s
    have a2:=sum_one (f:=fun x:Th=> x.hold.count s) hx
    have a3:=List.count_pos_iff.2 h2
    have a4:=List.count_pos_iff.2 h1
    have a5:=hold_count x s
    split at a1 <;> omega
   obtain ⟨fr',d,r1,r2,r3,r4,r5⟩:=(Th.step_own (L:=M.L) (pick:=M.picks) ox.1 ox.2.1 o.A S.F hc (S.own x (List.mem_of_getElem? hx)) hd).ex
   generalize x.step M.A M.L M.picks=r at r1 r2 r3 r4
   simp only
   have dd:d≤c + 1:=by rcases r3 with ⟨e,_⟩ | ⟨e,_⟩ <;> omega
   have base:∀ y ∈ M.ths.set k.toNat r.1,y.own r.2.2.2.1 d:=fun y hy=> by
    obtain ⟨j,hj,he⟩:=List.mem_iff_getElem.1 hy
    have hg:(M.ths.set k.toNat r.1)[j]?=some y:=by rw [List.getElem?_eq_getElem hj,he]
    rw [List.getElem?_set] at hg
    split at hg
    ·split at hg
     ·cases hg;exact r2
     ·cases hg
    ·rename_i ne
     have oy:=o.ths y (List.mem_of_getElem? hg)
     refine (S.own y (List.mem_of_getElem? hg)).other oy.1 S.F (by omega) r3 fun s hs=> ⟨fun q=> ?_,hd s hs⟩
     have a1:=S.all s
     have a2:=sum_two (f:=fun x:Th=> x.hold.count s) hx hg ne
     have a3:=List.count_pos_iff.2 q
     have a4:=List.count_pos_iff.2 hs
     have a5:=hold_count x s
     have a6:=hold_count y s
     split at a1 <;> omega
   have cnt:∀ s,fr'.count s + ((M.ths.set k.toNat r.1).map fun x=> x.hold.count s).sum=if 0≤s∧s < 12 then 1 else 0:=fun s=> by
    have a1:=S.all s
    have a2:=sum_set (f:=fun x:Th=> x.hold.count s) (y:=r.1) hx
    have a3:=r4 s
    omega
   refine ⟨fr',d,⟨r1,by show d≤M.picks + 1;have:=S.c1;omega,fun y hy=> ?_,fun s=> ?_⟩,r5⟩
   ·simp only at hy
    split at hy
    ·unfold decAll at hy
     split at hy
     ·obtain ⟨z,hz,rfl⟩:=List.mem_map.1 hy
      exact (decide_own (base z hz)).1
     ·exact base y hy
    ·exact base y hy
   ·rw [← cnt s]
    congr 2
    show List.map _ (if r.2.1=true then decAll _ _ _ else _:List Th)=_
    split
    ·unfold decAll
     split
     ·rw [List.map_map]
      refine List.map_congr_left fun z hz=> ?_
      show ((z.decide _ _).hold).count s=_
      rw [(decide_own (base z hz)).2]
     ·rfl
    ·rfl
attribute [local irreducible] bnd ldV stV ifV binV eqI
def rpopRow(p:Pop):GObj:= .row 251 [i64 p.l.at_,i64 p.l.word,i64 p.next,i64 p.slot, .bool p.l.over] 5 true
def rpushRow(p:Push):GObj:= .row 248 [i64 p.l.at_,i64 p.slot,i64 p.l.word, .bool p.l.over] 4 true
def Lst.fits(l:Lst):Prop:=l.count=valOf l.word / 16∧l.first=valOf l.word % 16
theorem fits_zero:(⟨0,0,0,0,false⟩:Lst).fits:=by
 have:valOf 0=0:=by
  have hp:plainOf (0:Int)=some 0:=by decide
  unfold valOf;rw [hp];rfl
 exact ⟨by rw [this];rfl,by rw [this];rfl⟩
theorem Pop.step_fits{p:Pop}{A:Ar}(f:p.l.fits):(p.step A).1.l.fits:=by
 unfold Pop.step
 split
 ·exact f
 ·split
  ·split <;> exact ⟨rfl,rfl⟩
  ·split
   ·split <;> exact f
   ·split <;> exact f
theorem Push.step_fits{p:Push}{A:Ar}(f:p.l.fits):(p.step A).1.l.fits:=by
 unfold Push.step
 split
 ·exact f
 ·split
  ·split <;> exact ⟨rfl,rfl⟩
  ·split <;> exact f
section
variable {a b : Nat} {A : Ar} {R : List Part} {h : GH} {K : CC} {p : Pop} {u : Push}
theorem T_rhead{x:Int}(hx:I64 x)(hK:K (.tuple #[i64 (valOf x % 16),i64 (valOf x / 16), .bool (hdIs x)]) h):T Pg 125 [i64 x] h K:=by
 apply S125_T
 unfold S125
 have v:0≤valOf x∧valOf x < 1099511627776:=valOf_bd x
 refine T_IsValue hx.2 ?_
 refine wk ?_
 rw [show (plainOf x).getD 0=valOf x from rfl]
 refine bnd_of (rem_nn v.1 (by decide)) (bnd_of (quo_nn v.1 (by omega) (by decide)) ?_)
 unfold hdIs at hK
 refine ifV_bool (fun q=> ?_) fun q=> ?_
 ·rw [q,Bool.true_and] at hK
  refine bnd_of (rem_nn v.1 (by decide)) ?_
  refine wk ?_
  by_cases c:valOf x % 16≤12
  ·rw [decide_eq_true c,Bool.true_and] at hK
   rw [decide_eq_true c]
   refine wk ?_
   refine bnd_of (quo_nn v.1 (by omega) (by decide)) ?_
   refine wk ?_
   exact hK
  ·rw [decide_eq_false c,Bool.false_and] at hK
   rw [decide_eq_false c]
   refine wk ?_
   exact hK
 ·rw [q,Bool.false_and] at hK
  exact hK
theorem T_rheadWord{f c:Int}(f0:0≤f)(f1:f≤16)(c0:0≤c)(c1:c < 1099511627776)(hK:K (i64 ((c % 1073741824 * 16 + f) * 4)) h):T Pg 171 [i64 f,i64 c] h K:=by
 apply S171_T
 unfold S171
 refine bnd_of (rem_nn c0 (by decide)) ?_
 refine bnd_of (mul_id (by omega) (by omega)) ?_
 refine bnd_of (add_id (by omega) (by omega)) ?_
 refine T_rValue (by omega) (by omega) ?_
 exact hK
theorem T_rNewPop(hp:All R h)(hK:∀ b h',All (pts b (rpopRow .new)::R) h'→K (ptr b) h'):T Pg 167 [] h K:=by
 apply S167_T
 unfold S167
 refine bnd_of rfl ?_
 refine nw hp (rpopRow .new) rfl fun b h1 hp=> ?_
 exact hK b _ hp
theorem T_rNewPush{s:Int}(hp:All R h)(h0:0≤s)(h1:s < 12)(hK:∀ b h',All (pts b (rpushRow (.new s))::R) h'→K (.tuple #[ptr b,i64 0]) h'):T Pg 165 [i64 s] h K:=by
 apply S165_T
 unfold S165
 refine wk ?_
 refine ifV_n (by omega) ?_
 refine wk ?_
 refine ifV_n (by omega) ?_
 refine bnd_of rfl ?_
 refine nw hp (rpushRow (.new s)) rfl fun b h1 hp=> ?_
 exact hK b _ hp
theorem T_rPopStep(hp:All (arP 103 a A::pts b (rpopRow p)::R) h)(o:p.ok)(hf:p.l.fits)
  (hK:∀ h',All (arP 103 a (p.step A).2.2::pts b (rpopRow (p.step A).1)::R) h'→K (.tuple #[.bool (p.step A).1.l.over,i64 (p.step A).2.1]) h'):T Pg 172 [ptr b,ptr a] h K:=by
 apply S172_T
 unfold S172
 have hA:=(arP.at hp).2
 have ol:=o.l
 have a0:=ol.a0;have a1:=ol.a1
 have v:=valOf_bd p.l.word
 obtain ⟨fc,ff⟩:=hf
 unfold Pop.step at hK
 have of':=o.f;have n2:=o.n2
 obtain ⟨⟨at_,word,count,first,over⟩,next,slot⟩:=p
 simp only at *
 unfold rpopRow at hp hK
 simp only at hp hK
 refine wk ?_
 cases over with
 | true=>
   refine wk ?_
   exact hK _ hp
 | false=>
   simp only [Bool.false_eq_true,if_false] at hK
   refine wk ?_
   refine T_rhead ol.w ?_
   rw [← fc, ← ff]
   refine wk ?_
   refine ifV_cases (fun c=> ?_) fun c=> ?_
   ·rw [if_pos c] at hK
    refine wk ?_
    refine L_refLoad hp (by decide) (by decide) fun h1 hp=> ?_
    refine wk ?_
    refine T_rhead (Ar.at_range hA 16) ?_
    refine wk ?_
    refine st1 hp (.row 251 [i64 at_,i64 (A.at 16),i64 next,i64 slot, .bool false] 5 true) rfl (by simp) rfl rfl fun h2 hp=> ?_
    refine wk ?_
    refine st1 hp (.row 251 [i64 1,i64 (A.at 16),i64 next,i64 slot, .bool false] 5 true) rfl (by simp) rfl rfl fun h2 hp=> ?_
    cases hd:hdIs (A.at 16) with
    | true=>
      rw [hd] at hK
      refine wk ?_
      refine st1 hp (.row 251 [i64 1,i64 (A.at 16),i64 next,i64 slot, .bool (decide (valOf (A.at 16) % 16=0))] 5 true) rfl (by simp) rfl rfl fun h2 hp=> ?_
      refine wk ?_
      exact hK _ hp
    | false=>
      rw [hd] at hK
      refine wk ?_
      refine st1 hp (.row 251 [i64 1,i64 (A.at 16),i64 next,i64 slot, .bool true] 5 true) rfl (by simp) rfl rfl fun h2 hp=> ?_
      refine wk ?_
      exact hK _ hp
   ·rw [if_neg c] at hK
    have f:=of' rfl c
    refine bnd_of (eqI_int _ _ _) ?_
    refine ifV_cases (fun c2=> ?_) fun c2=> ?_
    ·rw [if_pos c2] at hK
     refine wk ?_
     refine L_refLoad hp (by omega) (by omega) fun h1 hp=> ?_
     refine wk ?_
     refine T_IsValue (Ar.at_range hA _).2 ?_
     refine wk ?_
     rw [show (plainOf (A.at (17 + first - 1))).getD 0=valOf (A.at (17 + first - 1)) from rfl]
     refine st1 hp (.row 251 [i64 at_,i64 word,i64 (valOf (A.at (17 + first - 1))),i64 slot, .bool false] 5 true) rfl (by simp) rfl rfl fun h2 hp=> ?_
     refine wk ?_
     refine st1 hp (.row 251 [i64 2,i64 word,i64 (valOf (A.at (17 + first - 1))),i64 slot, .bool false] 5 true) rfl (by simp) rfl rfl fun h2 hp=> ?_
     unfold nxIs at hK
     cases hpl:(plainOf (A.at (17 + first - 1))).isSome with
     | false=>
       rw [hpl,Bool.false_and] at hK
       refine wk ?_
       refine st1 hp (.row 251 [i64 2,i64 word,i64 (valOf (A.at (17 + first - 1))),i64 slot, .bool true] 5 true) rfl (by simp) rfl rfl fun h2 hp=> ?_
       exact hK _ hp
     | true=>
       rw [hpl,Bool.true_and] at hK
       refine wk ?_
       refine ifV_cases (fun c3=> ?_) fun c3=> ?_
       ·rw [decide_eq_false (by omega)] at hK
        refine wk ?_
        refine st1 hp (.row 251 [i64 2,i64 word,i64 (valOf (A.at (17 + first - 1))),i64 slot, .bool true] 5 true) rfl (by simp) rfl rfl fun h2 hp=> ?_
        exact hK _ hp
       ·rw [decide_eq_true (by omega)] at hK
        refine wk ?_
        exact hK _ hp
    ·rw [if_neg c2] at hK
     have nn:=n2 rfl (by omega)
     have n0:=o.n0
     simp only at n0
     refine wk ?_
     refine T_rheadWord n0 (by omega) (by omega) (by omega) ?_
     refine wk ?_
     have et:((count + 1) % 1073741824 * 16 + next) * 4=(⟨at_,word,count,first,false⟩:Lst).turned next:=rfl
     rw [et]
     have tr:=Lst.turned_range (l:=⟨at_,word,count,first,false⟩) (f:=next) (by show 0≤count;omega) n0 nn
     refine L_refSwap hp (by decide) (by decide) tr fun h1 hp=> ?_
     refine wk ?_
     refine st1 hp (.row 251 [i64 0,i64 word,i64 next,i64 slot, .bool false] 5 true) rfl (by simp) rfl rfl fun h2 hp=> ?_
     refine wk ?_
     refine ifV_cases (fun c3=> ?_) fun c3=> ?_
     ·rw [if_pos c3] at hK
      refine wk ?_
      refine st1 hp (.row 251 [i64 0,i64 word,i64 next,i64 (first - 1), .bool false] 5 true) rfl (by simp) rfl rfl fun h2 hp=> ?_
      refine wk ?_
      refine st1 hp (.row 251 [i64 0,i64 word,i64 next,i64 (first - 1), .bool true] 5 true) rfl (by simp) rfl rfl fun h2 hp=> ?_
      refine wk ?_
      exact hK _ hp
     ·rw [if_neg c3] at hK
      refine wk ?_
      exact hK _ hp
end
end Go.Proofs.YtfphpafkhljncaaGreat
namespace Go.Proofs.YtfphpafkhljncaaGreat
open Go GW Go.Proofs
attribute [local irreducible] bnd ldV stV ifV binV eqI
set_option maxRecDepth 20000
def entPc(n:Ent):Int:=if n.known then (if n.said then 2 else 1) else 0
def rentRow(n:Ent):GObj:= .row 215 [i64 (entPc n),i64 n.t,i64 n.e, .bool n.over] 4 true
def radvRow(pc:Int)(d:Adv):GObj:= .row 262 [i64 pc,i64 d.n,i64 d.e, .bool d.moved, .bool d.over] 5 true
def Ent.fits(n:Ent):Prop:=n.said=true→n.known=true
theorem Ent.step_fits{n:Ent}{A:Ar}(f:n.fits):(n.step A).1.fits:=by
 unfold Ent.step
 split
 ·exact f
 ·split
  ·rename_i c
   simp only [Bool.and_eq_true] at c
   exact fun _=> c.1
  ·split
   ·exact fun _=> rfl
   ·exact f
section
variable {a b : Nat} {A : Ar} {R : List Part} {h : GH} {K : CC} {p : Push} {n : Ent} {d : Adv}
theorem T_rPushStep(hp:All (arP 103 a A::pts b (rpushRow p)::R) h)(o:p.ok)(hf:p.l.fits)
  (hK:∀ h',All (arP 103 a (p.step A).2.2::pts b (rpushRow (p.step A).1)::R) h'→K (.tuple #[.bool (p.step A).1.l.over,i64 (p.step A).2.1]) h'):T Pg 145 [ptr b,ptr a] h K:=by
 apply S145_T
 unfold S145
 have hA:=(arP.at hp).2
 have ol:=o.l
 have a0:=ol.a0;have a1:=ol.a1;have g0:=ol.f0;have g1:=ol.f1
 have s0:=o.s0;have s1:=o.s1
 have v:=valOf_bd p.l.word
 obtain ⟨fc,ff⟩:=hf
 unfold Push.step at hK
 obtain ⟨⟨at_,word,count,first,over⟩,slot⟩:=p
 simp only at *
 unfold rpushRow at hp hK
 simp only at hp hK
 refine wk ?_
 cases over with
 | true=>
   refine wk ?_
   exact hK _ hp
 | false=>
   simp only [Bool.false_eq_true,if_false] at hK
   refine wk ?_
   refine T_rhead ol.w ?_
   rw [← fc, ← ff]
   refine wk ?_
   refine ifV_cases (fun c=> ?_) fun c=> ?_
   ·rw [if_pos c] at hK
    refine wk ?_
    refine L_refLoad hp (by decide) (by decide) fun h1 hp=> ?_
    refine wk ?_
    refine T_rhead (Ar.at_range hA 16) ?_
    refine wk ?_
    refine st1 hp (.row 248 [i64 at_,i64 slot,i64 (A.at 16), .bool false] 4 true) rfl (by simp) rfl rfl fun h2 hp=> ?_
    refine wk ?_
    refine st1 hp (.row 248 [i64 1,i64 slot,i64 (A.at 16), .bool false] 4 true) rfl (by simp) rfl rfl fun h2 hp=> ?_
    cases hd:hdIs (A.at 16) with
    | true=>
      rw [hd] at hK
      refine wk ?_
      exact hK _ hp
    | false=>
      rw [hd] at hK
      refine wk ?_
      refine st1 hp (.row 248 [i64 1,i64 slot,i64 (A.at 16), .bool true] 4 true) rfl (by simp) rfl rfl fun h2 hp=> ?_
      exact hK _ hp
   ·rw [if_neg c] at hK
    refine bnd_of (eqI_int _ _ _) ?_
    refine ifV_cases (fun c2=> ?_) fun c2=> ?_
    ·rw [if_pos c2] at hK
     refine wk ?_
     refine T_rValue (by omega) (by omega) ?_
     refine wk ?_
     refine L_refStore hp (by omega) (by omega) (by constructor <;> omega) fun h1 hp=> ?_
     refine wk ?_
     refine st1 hp (.row 248 [i64 2,i64 slot,i64 word, .bool false] 4 true) rfl (by simp) rfl rfl fun h2 hp=> ?_
     refine wk ?_
     exact hK _ hp
    ·rw [if_neg c2] at hK
     refine wk ?_
     refine T_rheadWord (by omega) (by omega) (by omega) (by omega) ?_
     refine wk ?_
     have et:((count + 1) % 1073741824 * 16 + (slot + 1)) * 4=(⟨at_,word,count,first,false⟩:Lst).turned (slot + 1):=rfl
     rw [et]
     have tr:=Lst.turned_range (l:=⟨at_,word,count,first,false⟩) (f:=slot + 1) (by show 0≤count;omega) (by omega) (by omega)
     refine L_refSwap hp (by decide) (by decide) tr fun h1 hp=> ?_
     refine wk ?_
     refine st1 hp (.row 248 [i64 0,i64 slot,i64 word, .bool false] 4 true) rfl (by simp) rfl rfl fun h2 hp=> ?_
     refine wk ?_
     refine st1 hp (.row 248 [i64 0,i64 slot,i64 word, .bool (decide (A.at 16=word))] 4 true) rfl (by simp) rfl rfl fun h2 hp=> ?_
     refine wk ?_
     exact hK _ hp
theorem T_repochOf{x:Int}(hx:I64 x)(hK:K (.tuple #[i64 (valOf x), .bool (epIs x)]) h):T Pg 149 [i64 x] h K:=by
 apply S149_T
 unfold S149
 refine T_IsValue hx.2 ?_
 refine wk ?_
 rw [show (plainOf x).getD 0=valOf x from rfl]
 unfold epIs at hK
 refine ifV_bool (fun q=> ?_) fun q=> ?_
 ·rw [q,Bool.true_and] at hK
  refine wk ?_
  exact hK
 ·rw [q,Bool.false_and] at hK
  exact hK
theorem T_rthreadMay2{t:Int}(t0:0≤t)(t1:t < 4)(hK:K (.bool true) h):T Pg 164 [i64 t] h K:=by
 apply S164_T
 unfold S164
 refine wk ?_
 rw [decide_eq_true (by omega)]
 refine wk ?_
 rw [decide_eq_true t1]
 exact hK
theorem T_rNewEnter{t:Int}(hp:All R h)(t0:0≤t)(t1:t < 4)(hK:∀ b h',All (pts b (rentRow (.new t))::R) h'→K (.tuple #[ptr b,i64 0]) h'):T Pg 140 [i64 t] h K:=by
 apply S140_T
 unfold S140
 refine T_rthreadMay2 t0 t1 ?_
 refine wk ?_
 refine nw hp (rentRow (.new t)) rfl fun b h1 hp=> ?_
 exact hK b _ hp
theorem T_rEnterStep(hp:All (arP 103 a A::pts b (rentRow n)::R) h)(o:n.ok)(hf:n.fits)
  (hK:∀ h',All (arP 103 a (n.step A).2.2::pts b (rentRow (n.step A).1)::R) h'→K (.tuple #[.bool (n.step A).1.over,i64 (n.step A).2.1]) h'):T Pg 143 [ptr b,ptr a] h K:=by
 apply S143_T
 unfold S143
 have hA:=(arP.at hp).2
 have e0:=o.e0;have e1:=o.e1;have t0:=o.t0;have t1:=o.t1
 unfold Ent.step at hK
 unfold Ent.fits at hf
 obtain ⟨t,e,said,known,over⟩:=n
 simp only at *
 unfold rentRow at hp hK
 simp only [entPc] at hp hK
 refine wk ?_
 cases over with
 | true=>
   refine wk ?_
   exact hK _ hp
 | false=>
   simp only [Bool.false_eq_true,if_false] at hK
   have load:∀ (pc:Int),pc=(if known then (if said then 2 else 1) else 0)→pc ≠ 1→(known && !said)=false→
     All (arP 103 a A::pts b (.row 215 [i64 pc,i64 t,i64 e, .bool false] 4 true)::R) h→
     T Pg 148 [ptr a,(i64 29)] h fun v23 h24=>
      bnd (exV v23 0) fun v25=>
      bnd (exV v23 1) fun v26=>
      T Pg 149 [v25] h24 fun v27 h28=>
      bnd (exV v27 0) fun v29=>
      bnd (exV v27 1) fun v30=>
      bnd (unV .not v30) fun v31=>
      ifV v31 (
      bnd (ncV (ptr b)) fun v32=>
      bnd (faV 3 v32) fun v33=>
      bnd (stV 1 v33 (.bool true) h28) fun h34=>
      K (.tuple #[(.bool true),(i64 1100)]) h34) (
      bnd (ncV (ptr b)) fun v35=>
      bnd (faV 0 v35) fun v36=>
      bnd (ldV 1 false v36 h28) fun v37=>
      bnd (eqI v37 (i64 2)) fun b38=>
      ifV (.bool b38) (
      bnd (ncV (ptr b)) fun v39=>
      bnd (faV 2 v39) fun v40=>
      bnd (ldV 1 false v40 h28) fun v41=>
      bnd (eqI v29 v41) fun b42=>
      bnd (ncV (ptr b)) fun v43=>
      bnd (faV 3 v43) fun v44=>
      bnd (stV 1 v44 (.bool b42) h28) fun h45=>
      S143_j1 (ptr b) v29 h45 K) (
      bnd (ncV (ptr b)) fun v46=>
      bnd (faV 3 v46) fun v47=>
      bnd (stV 1 v47 (.bool false) h28) fun h48=>
      S143_j1 (ptr b) v29 h48 K)):=by
    intro pc epc n1 hks hp
    rw [hks] at hK
    simp only [Bool.false_eq_true,if_false] at hK
    refine L_refLoad hp (by decide) (by decide) fun h1 hp=> ?_
    refine wk ?_
    refine T_repochOf (Ar.at_range hA 29) ?_
    refine wk ?_
    cases hi:epIs (A.at 29) with
    | false=>
      rw [hi] at hK
      refine wk ?_
      refine st1 hp (.row 215 [i64 pc,i64 t,i64 e, .bool true] 4 true) rfl (by simp) rfl rfl fun h2 hp=> ?_
      simp only [Bool.false_eq_true,if_false] at hK
      rw [epc] at hp
      exact hK _ hp
    | true=>
      rw [hi] at hK
      simp only [if_true,Bool.false_eq_true,if_false] at hK
      refine wk ?_
      refine ifV_cases (fun c=> ?_) fun c=> ?_
      ·have hs:said=true:=by
        cases known <;> cases said <;> simp_all
       rw [hs,Bool.true_and] at hK
       refine wk ?_
       refine st1 hp (.row 215 [i64 pc,i64 t,i64 e, .bool (decide (valOf (A.at 29)=e))] 4 true) rfl (by simp) rfl rfl fun h2 hp=> ?_
       unfold S143_j1
       refine wk ?_
       refine st1 hp (.row 215 [i64 pc,i64 t,i64 (valOf (A.at 29)), .bool (decide (valOf (A.at 29)=e))] 4 true) rfl (by simp) rfl rfl fun h2 hp=> ?_
       refine wk ?_
       refine st1 hp (.row 215 [i64 1,i64 t,i64 (valOf (A.at 29)), .bool (decide (valOf (A.at 29)=e))] 4 true) rfl (by simp) rfl rfl fun h2 hp=> ?_
       refine wk ?_
       exact hK _ hp
      ·have hs:said=false:=by
        cases known <;> cases said <;> simp_all
       rw [hs,Bool.false_and] at hK
       refine wk ?_
       refine st1 hp (.row 215 [i64 pc,i64 t,i64 e, .bool false] 4 true) rfl (by simp) rfl rfl fun h2 hp=> ?_
       unfold S143_j1
       refine wk ?_
       refine st1 hp (.row 215 [i64 pc,i64 t,i64 (valOf (A.at 29)), .bool false] 4 true) rfl (by simp) rfl rfl fun h2 hp=> ?_
       refine wk ?_
       refine st1 hp (.row 215 [i64 1,i64 t,i64 (valOf (A.at 29)), .bool false] 4 true) rfl (by simp) rfl rfl fun h2 hp=> ?_
       refine wk ?_
       exact hK _ hp
   cases known with
   | false=>
     have hs:said=false:=by cases said <;> simp_all
     subst hs
     refine wk ?_
     exact load 0 rfl (by decide) rfl hp
   | true=>
     cases said with
     | true=>
       refine wk ?_
       exact load 2 rfl (by decide) rfl hp
     | false=>
       clear load
       simp only [Bool.true_and,Bool.not_false,if_true] at hK
       refine wk ?_
       refine T_rValue (by omega) (by omega) ?_
       refine wk ?_
       refine L_refStore hp (by omega) (by omega) (by constructor <;> omega) fun h1 hp=> ?_
       refine wk ?_
       refine st1 hp (.row 215 [i64 2,i64 t,i64 e, .bool false] 4 true) rfl (by simp) rfl rfl fun h2 hp=> ?_
       exact hK _ hp
theorem T_rLeave{t:Int}(hp:All (arP 103 a A::R) h)(t0:0≤t)(t1:t < 4)(hK:∀ h',All (arP 103 a (A.put (30 + t) 0)::R) h'→K (i64 0) h'):T Pg 151 [ptr a,i64 t] h K:=by
 apply S151_T
 unfold S151
 refine T_rthreadMay2 t0 t1 ?_
 refine wk ?_
 refine T_rValue (by decide) (by decide) ?_
 refine L_refStore hp (by omega) (by omega) (by constructor <;> decide) fun h1 hp=> ?_
 exact hK _ hp
theorem T_rNewAdvance{t:Int}(hp:All R h)(t0:1≤t)(t1:t≤4)(hK:∀ b h',All (pts b (radvRow 0 (.new t))::R) h'→K (.tuple #[ptr b,i64 0]) h'):T Pg 150 [i64 t] h K:=by
 apply S150_T
 unfold S150
 refine wk ?_
 refine ifV_n (by omega) ?_
 refine wk ?_
 refine ifV_n (by omega) ?_
 refine bnd_of rfl ?_
 refine nw hp (radvRow 0 (.new t)) rfl fun b h1 hp=> ?_
 exact hK b _ hp
theorem T_rAdvStep{pc:Int}(hp:All (arP 103 a A::pts b (radvRow pc d)::R) h)(o:d.ok)(hf:d.over=false→pc=d.asked + 1)
  (hK:∀ pc' h',((d.step A).1.over=false→pc'=(d.step A).1.asked + 1)→All (arP 103 a (d.step A).2.2::pts b (radvRow pc' (d.step A).1)::R) h'→K (.tuple #[.bool (d.step A).1.over,i64 (d.step A).2.1]) h'):T Pg 152 [ptr b,ptr a] h K:=by
 apply S152_T
 unfold S152
 have hA:=(arP.at hp).2
 have n0:=o.n0;have n1:=o.n1;have a0:=o.a0;have a1:=o.a1;have a2:=o.a2;have e0:=o.e0;have e1:=o.e1
 unfold Adv.step at hK
 obtain ⟨n,asked,e,moved,over⟩:=d
 simp only at *
 unfold radvRow at hp hK
 simp only at hp hK
 refine wk ?_
 cases over with
 | true=>
   refine wk ?_
   exact hK pc _ (fun q=> by cases q) hp
 | false=>
   obtain rfl:pc=asked + 1:=hf rfl
   have a3:=a2 rfl
   simp only [Bool.false_eq_true,if_false] at hK
   refine wk ?_
   refine ifV_cases (fun c=> ?_) fun c=> ?_
   ·rw [if_pos (show asked < 0 by omega)] at hK
    refine wk ?_
    refine L_refLoad hp (by decide) (by decide) fun h1 hp=> ?_
    refine wk ?_
    refine T_repochOf (Ar.at_range hA 29) ?_
    refine wk ?_
    refine st1 hp (.row 262 [i64 (asked + 1),i64 n,i64 (valOf (A.at 29)), .bool moved, .bool false] 5 true) rfl (by simp) rfl rfl fun h2 hp=> ?_
    cases hi:epIs (A.at 29) with
    | true=>
      rw [hi] at hK
      simp only [if_true] at hK
      refine wk ?_
      unfold S152_j1
      refine wk ?_
      refine st1 hp (.row 262 [i64 (asked + 1 + 1),i64 n,i64 (valOf (A.at 29)), .bool moved, .bool false] 5 true) rfl (by simp) rfl rfl fun h2 hp=> ?_
      refine wk ?_
      exact hK _ _ (fun _=> rfl) hp
    | false=>
      rw [hi] at hK
      simp only [Bool.false_eq_true,if_false] at hK
      refine wk ?_
      refine st1 hp (.row 262 [i64 (asked + 1),i64 n,i64 (valOf (A.at 29)), .bool moved, .bool true] 5 true) rfl (by simp) rfl rfl fun h2 hp=> ?_
      exact hK _ _ (fun q=> by cases q) hp
   ·rw [if_neg (show ¬ asked < 0 by omega)] at hK
    refine wk ?_
    refine ifV_cases (fun c2=> ?_) fun c2=> ?_
    ·rw [if_pos (show asked < n by omega)] at hK
     refine wk ?_
     refine L_refLoad' hp (show 30 + (asked + 1) - 1=30 + asked by omega) (by omega) (by omega) fun h1 hp=> ?_
     refine wk ?_
     refine T_IsValue (Ar.at_range hA _).2 ?_
     refine wk ?_
     rw [show (plainOf (A.at (30 + asked))).getD 0=valOf (A.at (30 + asked)) from rfl]
     cases hpl:(plainOf (A.at (30 + asked))).isSome with
     | false=>
       rw [hpl] at hK
       simp only [Bool.false_eq_true,if_false] at hK
       refine wk ?_
       refine st1 hp (.row 262 [i64 (asked + 1),i64 n,i64 e, .bool moved, .bool true] 5 true) rfl (by simp) rfl rfl fun h2 hp=> ?_
       exact hK _ _ (fun q=> by cases q) hp
     | true=>
       rw [hpl] at hK
       simp only [if_true] at hK
       refine wk ?_
       refine ifN_cases (fun c3=> ?_) fun c3=> ?_
       ·rw [decide_eq_true c3,Bool.true_and] at hK
        refine wk ?_
        refine st1 hp (.row 262 [i64 (asked + 1),i64 n,i64 e, .bool moved, .bool (!decide (valOf (A.at (30 + asked))=e + 1))] 5 true) rfl (by simp) rfl rfl fun h2 hp=> ?_
        unfold S152_j1
        refine wk ?_
        refine st1 hp (.row 262 [i64 (asked + 1 + 1),i64 n,i64 e, .bool moved, .bool (!decide (valOf (A.at (30 + asked))=e + 1))] 5 true) rfl (by simp) rfl rfl fun h2 hp=> ?_
        refine wk ?_
        rw [decide_not] at hK
        exact hK _ _ (fun _=> rfl) hp
       ·rw [decide_eq_false (by omega),Bool.false_and] at hK
        refine wk ?_
        refine st1 hp (.row 262 [i64 (asked + 1),i64 n,i64 e, .bool moved, .bool false] 5 true) rfl (by simp) rfl rfl fun h2 hp=> ?_
        unfold S152_j1
        refine wk ?_
        refine st1 hp (.row 262 [i64 (asked + 1 + 1),i64 n,i64 e, .bool moved, .bool false] 5 true) rfl (by simp) rfl rfl fun h2 hp=> ?_
        refine wk ?_
        exact hK _ _ (fun _=> rfl) hp
    ·rw [if_neg (show ¬ asked < n by omega)] at hK
     refine wk ?_
     refine T_rValue (by omega) (by omega) ?_
     refine wk ?_
     refine T_rValue (by omega) (by omega) ?_
     refine L_refSwap hp (by decide) (by decide) (by constructor <;> omega) fun h1 hp=> ?_
     refine wk ?_
     refine st1 hp (.row 262 [i64 (asked + 1),i64 n,i64 e, .bool (decide (A.at 29=e * 4)), .bool false] 5 true) rfl (by simp) rfl rfl fun h2 hp=> ?_
     refine wk ?_
     refine st1 hp (.row 262 [i64 (asked + 1),i64 n,i64 e, .bool (decide (A.at 29=e * 4)), .bool true] 5 true) rfl (by simp) rfl rfl fun h2 hp=> ?_
     unfold S152_j1
     refine wk ?_
     refine st1 hp (.row 262 [i64 (asked + 1 + 1),i64 n,i64 e, .bool (decide (A.at 29=e * 4)), .bool true] 5 true) rfl (by simp) rfl rfl fun h2 hp=> ?_
     refine wk ?_
     exact hK _ _ (fun q=> by cases q) hp
end
end Go.Proofs.YtfphpafkhljncaaGreat
namespace Go.Proofs.YtfphpafkhljncaaGreat
open Go GW Go.Proofs
attribute [local irreducible] bnd ldV stV ifV binV eqI
set_option maxRecDepth 20000
section
variable {R : List Part} {h : GH} {K : CC}
theorem T_rlimboMay{v:VV}{rs:List Ret}(r:rowsAt h 2 v (rs.map Ret.enc))(g:∀ r ∈ rs,r.good)(hK:K (.bool true) h):T Pg 169 [v] h K:=by
 apply S169_T
 unfold S169
 have hl:lnV v=some (i64 rs.length):=by have:=r.len;rw [List.length_map] at this;exact this
 have hm:rs.length≤9223372036854775807:=by have:=r.max;rw [List.length_map] at this;exact this
 refine Lfp_fam (ι:=Nat) (fun i=> [v,i64 i]) (fun i h'=> i≤rs.length∧h'=h) (fun i=> rs.length - i) ?_ 0 h ⟨Nat.zero_le _,rfl⟩
 rintro i h1 X ⟨hi,hh⟩ again
 subst hh
 simp only [tup_zero,tup_succ]
 refine bnd_of hl ?_
 refine wk ?_
 refine ifV_cases (fun c=> ?_) fun c=> hK
 obtain ⟨y,hy⟩:∃ y,rs[i]?=some y:=⟨_,List.getElem?_eq_getElem (by omega)⟩
 obtain ⟨g1,g2⟩:=g y (List.mem_of_getElem? hy)
 obtain ⟨b0,o0,j1,j2,_⟩:=r.fld (i:=i) (c:=y.enc) (by rw [List.getElem?_map,hy];rfl) .i64
 have l0:=j2 0 (i64 y.slot) rfl
 have l1:=j2 1 (i64 y.epoch) rfl
 refine bnd_of j1 (bnd_of rfl (bnd_of l0 ?_))
 refine wk ?_
 refine ifV_n (by omega) ?_
 refine bnd_of j1 (bnd_of rfl (bnd_of l0 ?_))
 refine wk ?_
 refine ifV_n (by omega) ?_
 refine bnd_of j1 (bnd_of rfl (bnd_of l1 ?_))
 refine wk ?_
 refine ifV_n (by omega) ?_
 refine bnd_of j1 (bnd_of rfl (bnd_of l1 ?_))
 refine wk ?_
 refine ifV_n (by omega) ?_
 refine wk ?_
 exact again (i + 1) _ ⟨by omega,rfl⟩ (by omega)
theorem T_rTakeLimbo{v:VV}{rs:List Ret}{e:Int}(hp:All R h)(r:∀ h',All R h'→rowsAt h' 2 v (rs.map Ret.enc))(g:∀ r ∈ rs,r.good)(e0:0≤e)(e1:e < 1073741824)(hb:rs.length≤100000)
  (hK:∀ v1 v2 h',All (rowP 1 v1 ((ripes rs e).map encI)::rowP 2 v2 ((rests rs e).map Ret.enc)::R) h'→K (.tuple #[v1,v2,i64 0]) h'):T Pg 144 [v,i64 e] h K:=by
 apply S144_T
 unfold S144
 refine T_rlimboMay (r _ hp) g ?_
 refine wk ?_
 refine ifV_n (by omega) ?_
 refine wk ?_
 refine ifV_n (by omega) ?_
 unfold S144_j1
 have hl:lnV v=some (i64 rs.length):=by have:=(r _ hp).len;rw [List.length_map] at this;exact this
 refine Lfp_fam (ι:=Nat × Value × Value) (fun p=> [v,i64 e,p.2.1,p.2.2,i64 p.1]) (fun p h'=> p.1≤rs.length∧All (rowP 1 p.2.1 ((ripes (rs.take p.1) e).map encI)::rowP 2 p.2.2 ((rests (rs.take p.1) e).map Ret.enc)::R) h') (fun p=> rs.length - p.1) ?_ (0, .slice none 0 0, .slice none 0 0) h ⟨Nat.zero_le _,?_⟩
 rotate_left
 ·exact All.emp_cons (P:=rowP 1 nS_ []) (All.emp_cons (P:=rowP 2 nS_ []) hp (rowP_nil _ _)) (rowP_nil _ _)
 clear hp
 rintro ⟨i,v1,v2⟩ h2 X ⟨hi,hp⟩ again
 simp only at hi hp
 simp only [tup_zero,tup_succ]
 refine bnd_of hl ?_
 refine wk ?_
 refine ifV_cases (fun c=> ?_) fun c=> ?_
 ·obtain ⟨y,hy⟩:∃ y,rs[i]?=some y:=⟨_,List.getElem?_eq_getElem (by omega)⟩
  obtain ⟨g1,g2⟩:=g y (List.mem_of_getElem? hy)
  obtain ⟨b0,o0,j1,j2,_⟩:=(r _ hp.tail.tail).fld (i:=i) (c:=y.enc) (by rw [List.getElem?_map,hy];rfl) .i64
  obtain ⟨p,d1,d2⟩:=(r _ hp.tail.tail).get (i:=i) (c:=y.enc) (by rw [List.getElem?_map,hy];rfl) .i64
  have l0:=j2 0 (i64 y.slot) rfl
  have l1:=j2 1 (i64 y.epoch) rfl
  refine bnd_of j1 (bnd_of rfl (bnd_of l1 ?_))
  refine bnd_of (sub_id (by omega) (by omega)) ?_
  have ts:rs.take (i + 1)=rs.take i ++ [y]:=by rw [List.take_add_one,hy];rfl
  have l1:(ripes (rs.take i) e).length + (rests (rs.take i) e).length=i:=by rw [ripes_rests,List.length_take];omega
  refine wk ?_
  refine ifV_cases (fun c2=> ?_) fun c2=> ?_
  ·have hr:isRipe e y=true:=decide_eq_true (by omega)
   refine bnd_of j1 (bnd_of rfl (bnd_of l0 ?_))
   refine bs0 (size:=1) hp ([y.slot].map encI) rfl rfl (by simp) (encI_good _) fun u h4 hp=> ?_
   have r2:=hp.rows
   refine ap0 (hn (hp.up 1)) r2 (encI_good _) (by decide) (by simp only [List.length_map,List.length_cons,List.length_nil];omega) fun v1' h5 hp=> ?_
   replace hp:=hN_ hp
   refine wk ?_
   refine again (i + 1,v1',v2) _ ⟨by simp only;omega,?_⟩ (by simp only;omega)
   have hp2:=hn (hp.re 3 [0,2])
   simp only [ts,ripes_snoc,rests_snoc,hr,if_true,List.append_nil,List.map_append]
   exact hp2
  ·have hr:¬ isRipe e y=true:=by unfold isRipe;rw [decide_eq_true_eq];omega
   refine bnd_of d1 (bnd_of d2 ?_)
   refine bs0 (size:=2) hp ([y].map Ret.enc) rfl rfl (by simp) (ret_good _) fun u h4 hp=> ?_
   have r2:=hp.rows
   refine ap0 (hn (hp.up 2)) r2 (ret_good _) (by decide) (by simp only [List.length_map,List.length_cons,List.length_nil];omega) fun v2' h5 hp=> ?_
   replace hp:=hN_ hp
   refine wk ?_
   refine again (i + 1,v1,v2') _ ⟨by simp only;omega,?_⟩ (by simp only;omega)
   have hp2:=hn (hp.re 3 [2,0])
   simp only [ts,ripes_snoc,rests_snoc,if_neg hr,List.append_nil,List.map_append]
   exact hp2
 ·have:i=rs.length:=by omega
  subst this
  rw [List.take_length] at hp
  exact hK _ _ _ hp
theorem T_rPause{pol:Bool}{k:Int}(k0:1≤k)(k1:k≤16)(hK:K (.tuple #[i64 (pauseM pol k),i64 0]) h):T Pg 176 [.bool pol,i64 k] h K:=by
 apply S176_T
 unfold S176
 refine wk ?_
 refine ifV_n (by omega) ?_
 refine wk ?_
 refine ifV_n (by omega) ?_
 unfold S176_j1
 unfold pauseM at hK
 cases pol with
 | false=> refine wk ?_;exact hK
 | true=>
   refine wk ?_
   rw [if_neg (by rintro (h | h);cases h;omega)] at hK
   refine Lfp_fam (ι:=Nat) (fun i=> [i64 k,i64 ((2 ^ i:Nat):Int),i64 ((i:Int) + 1)]) (fun i h'=> i≤3∧(i:Int) + 1≤k∧h'=h) (fun i=> 3 - i) ?_ 0 h ⟨by omega,by omega,rfl⟩
   rintro i h1 X ⟨hi,hk,hh⟩ again
   subst hh
   simp only [tup_zero,tup_succ]
   have fin:(k=i + 1∨i=3)→K (.tuple #[i64 ((2 ^ i:Nat):Int),i64 0]) h1:=by
    intro q
    have e:((2 ^ i:Nat):Int)=min 8 (2 ^ (k.toNat - 1)):=by
     have hc:i=0∨i=1∨i=2∨i=3:=by omega
     rcases q with q | q
     ·have:k.toNat - 1=i:=by omega
      rw [this]
      rcases hc with rfl | rfl | rfl | rfl <;> rfl
     ·subst q
      have:(8:Int)≤2 ^ (k.toNat - 1):=by
       have all:∀ n:Fin 16,3≤n.val→(8:Int)≤2 ^ n.val:=by decide
       exact all ⟨k.toNat - 1,by omega⟩ (by simp only;omega)
      rw [Int.min_eq_left this];rfl
    rw [e];exact hK
   refine wk ?_
   refine ifV_cases (fun c2=> ?_) fun c2=> ?_
   ·refine wk ?_
    refine ifV_cases (fun c3=> ?_) fun c3=> ?_
    ·have hi3:i < 3:=by
      rcases Nat.lt_or_ge i 3 with q | q
      ·exact q
      ·obtain rfl:i=3:=by omega
       omega
     have e2:2 * ((2 ^ i:Nat):Int)=((2 ^ (i + 1):Nat):Int):=by rw [Nat.pow_succ];omega
     have hb:((2 ^ i:Nat):Int)≤8∧0≤((2 ^ i:Nat):Int):=by
      have hc:i=0∨i=1∨i=2:=by omega
      rcases hc with rfl | rfl | rfl <;> decide
     refine bnd_of (mul_id (by omega) (by omega)) ?_
     refine wk ?_
     have:=again (i + 1) h1 ⟨by omega,by omega,rfl⟩ (by omega)
     rw [← e2] at this
     exact this
    ·have hc:i=3:=by
      have hc:i=0∨i=1∨i=2∨i=3:=by omega
      rcases hc with rfl | rfl | rfl | rfl
      ·exact absurd (by decide) c3
      ·exact absurd (by decide) c3
      ·exact absurd (by decide) c3
      ·rfl
     refine bnd_of (eqI_int _ _ _) ?_
     rw [decide_eq_false (by omega)]
     refine wk ?_
     exact fin (.inr hc)
   ·refine bnd_of (eqI_int _ _ _) ?_
    rw [decide_eq_false (by omega)]
    refine wk ?_
    exact fin (.inl (by omega))
end
end Go.Proofs.YtfphpafkhljncaaGreat
namespace Go.Proofs.YtfphpafkhljncaaGreat
open Go GW Go.Proofs
attribute [local irreducible] bnd ldV stV ifV binV eqI
set_option maxRecDepth 20000
structure RV where
 tv:Value
 cv:Value
 lv:Value
 pc:Int
 rv:Value
 ep:Value
 up:Value
 pp:Value
 ap:Value
 dp:Value
 e:Int
 w:Bool
 ev:Value
 ts:Int
 tg:Int
def rthRow(x:Th)(v:RV):GObj:= .row 169 [i64 x.id,i64 x.n,i64 x.k, .bool x.pol,v.tv,v.cv,v.lv,i64 x.seq,i64 v.pc,i64 x.slot,v.rv,v.ep,v.up,v.pp,v.ap,v.dp,i64 x.tries,i64 x.pause,i64 v.e, .bool v.w,v.ev,i64 v.ts,i64 v.tg] 23 true
def rentP(b:Nat)(n:Ent):Part:=fun h=> n.fits∧pts b (rentRow n) h
def rpushP(b:Nat)(n:Push):Part:=fun h=> n.l.fits∧pts b (rpushRow n) h
def rpopP(b:Nat)(n:Pop):Part:=fun h=> n.l.fits∧pts b (rpopRow n) h
def radvP(b:Nat)(n:Adv):Part:=fun h=> ∃ pc,(n.over=false→pc=n.asked + 1)∧pts b (radvRow pc n) h
def rtV(b:Nat)(x:Th)(v:RV):Part:=fun h=> All [pts b (rthRow x v),tvP v.tv x.txns,evsP v.ev x.evs,rowP 1 v.cv (x.cache.map encI),rowP 2 v.lv (x.limbo.map Ret.enc),rowP 1 v.rv (x.ripe.map encI),opP rentP v.ep x.ent,opP rpushP v.up x.push,opP rpopP v.pp x.pop,opP rattP v.ap x.att,opP radvP v.dp x.adv] h
section
variable {P1 P2 : Part} {a b lb sz : Nat} {U : TypeId} {pre post : List Value} {pick : Int} {A : Ar} {L : List Int} {R : List Part} {h : GH} {K : CC} {x : Th} {v : RV}
theorem rto(hp:All (P1::P2::rtV b x v::R) h):All (pts b (rthRow x v)::P1::P2::tvP v.tv x.txns::evsP v.ev x.evs::rowP 1 v.cv (x.cache.map encI)::rowP 2 v.lv (x.limbo.map Ret.enc)::rowP 1 v.rv (x.ripe.map encI)::opP rentP v.ep x.ent::opP rpushP v.up x.push::opP rpopP v.pp x.pop::opP rattP v.ap x.att::opP radvP v.dp x.adv::R) h:=by
 have hp:=hn (hp.up 2)
 have hp:All (pts b (rthRow x v)::tvP v.tv x.txns::evsP v.ev x.evs::rowP 1 v.cv (x.cache.map encI)::rowP 2 v.lv (x.limbo.map Ret.enc)::rowP 1 v.rv (x.ripe.map encI)::opP rentP v.ep x.ent::opP rpushP v.up x.push::opP rpopP v.pp x.pop::opP rattP v.ap x.att::opP radvP v.dp x.adv::P1::P2::R) h:=All.flat (hp.head fun _ z=> z)
 exact hn (hp.re 13 [0,11,12,1,2,3,4,5,6,7,8,9,10])
theorem rts(hp:All (pts b (rthRow x v)::P1::P2::tvP v.tv x.txns::evsP v.ev x.evs::rowP 1 v.cv (x.cache.map encI)::rowP 2 v.lv (x.limbo.map Ret.enc)::rowP 1 v.rv (x.ripe.map encI)::opP rentP v.ep x.ent::opP rpushP v.up x.push::opP rpopP v.pp x.pop::opP rattP v.ap x.att::opP radvP v.dp x.adv::R) h):All (P1::P2::rtV b x v::R) h:=by
 have hp:=hn (hp.re 13 [0,3,4,5,6,7,8,9,10,11,12,1,2])
 have hp:All (rtV b x v::P1::P2::R) h:=(All.fold (l:= [_,_,_,_,_,_,_,_,_,_,_]) hp).head fun _ z=> z
 exact hn (hp.re 3 [1,2,0])
theorem T_rtThrough{R:List Part}(hp:All (rtV b x v::R) h)(hK:K (.tuple #[i64 v.ts,i64 v.tg]) h):T Pg 98 [ptr b] h K:=by
 apply S98_T
 unfold S98
 have hp:All (pts b (rthRow x v)::tvP v.tv x.txns::evsP v.ev x.evs::rowP 1 v.cv (x.cache.map encI)::rowP 2 v.lv (x.limbo.map Ret.enc)::rowP 1 v.rv (x.ripe.map encI)::opP rentP v.ep x.ent::opP rpushP v.up x.push::opP rpopP v.pp x.pop::opP rattP v.ap x.att::opP radvP v.dp x.adv::R) h:=All.flat (hp.head fun _ z=> z)
 unfold rthRow at hp
 refine wk ?_
 exact hK
theorem T_rtWith{s:Int}(hp:All (arP 103 a A::pts lb (lvRow U sz pre L post)::rtV b x v::R) h)(oi:∀ (i:Nat) e,x.evs[i]?=some e→e.index=i)(oe:x.evs.length≤x.txns.length)(ot:thrMay x.txns=true)(live:x.evs ≠ [])(s0:0≤s)(s1:s < 12)(lo:Lok L)
  (hK:∀ ap h',All (arP 103 a A::pts lb (lvRow U sz pre (lived s L) post)::rtV b (x.with_ s L) {v with ap:=ap,pc:=4}::R) h'→K (.tuple #[]) h'):T Pg 166 [ptr b,i64 s,lvP pre.length lb] h K:=by
 apply S166_T
 unfold S166
 obtain ⟨i,rfl⟩:=Int.eq_ofNat_of_zero_le s0
 have hi:i < 12:=by omega
 have hL:i < L.length:=by rw [lo.1];exact hi
 have yr:=lo.at i
 have hp:=rto hp
 unfold lvP
 refine wk ?_
 refine bnd_of (iaV_at hi .i64) ?_
 refine bnd_of (lv_ld (hn (hp.up 2)) hL) ?_
 refine bnd_of (add_id (by omega) (by omega)) ?_
 refine wk ?_
 refine bnd_of (iaV_at hi .i64) ?_
 replace hp:=hn (hp.up 2)
 refine lv_st (y:=L.getD i 0 + 1) hp hL fun h1 hp=> ?_
 replace hp:=hn (hp.re 3 [1,2,0])
 have hL2:i < (L.set i (L.getD i 0 + 1)).length:=by rw [List.length_set];exact hL
 have eg:(L.set i (L.getD i 0 + 1)).getD i 0=L.getD i 0 + 1:=by
  rw [List.getD_eq_getElem?_getD,List.getElem?_set_self hL];rfl
 unfold rthRow at hp
 refine wk ?_
 refine st0 hp (rthRow {x with slot:=(i:Int)} v) rfl le_ rfl rfl fun h2 hp=> ?_
 have lvl:=lv_ld (hn (hp.up 2)) hL2
 rw [eg] at lvl
 unfold rthRow at hp
 refine wk ?_
 refine bnd_of (iaV_at hi .i64) ?_
 refine bnd_of lvl ?_
 refine wk ?_
 have evl:lnV v.ev=some (i64 x.evs.length):=evP_len (hn (hp.up 4))
 refine bnd_of evl ?_
 have l0:=List.length_pos_iff.2 live
 have tx:=thrMay_spec ot
 refine bnd_of (sub_id (by omega) (by omega)) ?_
 rw [show (x.evs.length:Int) - 1=((x.evs.length - 1:Nat):Int) by omega]
 -- its transaction
 replace hp:=hn (hp.up 3)
 refine tvP_open hp fun cs hp=> ?_
 obtain ⟨e,w,g1,g2,_⟩:∃ e w,x.evs.getLast?=some e∧x.evs[x.evs.length - 1]?=some e∧w=():=by
  obtain ⟨e,he⟩:∃ e,x.evs[x.evs.length - 1]?=some e:=⟨_,List.getElem?_eq_getElem (by omega)⟩
  exact ⟨e,(),by rw [List.getLast?_eq_getElem?];exact he,he,rfl⟩
 have ex:=oi _ e g2
 have hops:x.ops=x.txns.getD (x.evs.length - 1) []:=by
  unfold Th.ops;rw [g1];simp only;rw [ex];rfl
 obtain ⟨t,ht⟩:∃ t,x.txns[x.evs.length - 1]?=some t:=⟨_,List.getElem?_eq_getElem (by omega)⟩
 have et:x.ops=t:=by rw [hops,List.getD_eq_getElem?_getD,ht];rfl
 have tvf:=hp.mono1 tv1.mono
 obtain ⟨c,hc,w',rfl,hw⟩:=tvf.2.get ht
 obtain ⟨b0,o0,j1,j2,_⟩:=tvf.1.fld hc .i64
 refine bnd_of j1 (bnd_of rfl (bnd_of (j2 0 w' rfl) ?_))
 have hrow:∀ {h'} {R':List Part},All (tv1 v.tv cs x.txns::R') h'→rowsAt h' 4 w' (x.ops.map Op.enc):=by
  intro h' R' hp
  obtain ⟨c2,hc2,w2,e2,r2⟩:=(hp.mono1 tv1.mono).2.get ht
  rw [hc] at hc2
  cases hc2
  cases e2
  rw [et];exact r2
 have fin:∀ (ap:VV) (z:Option At) h3,z=(if At.may x.id x.seq i (L.getD i 0 + 1) x.ops then some (.new x.id x.seq i (L.getD i 0 + 1) x.ops) else none)→All (opP rattP ap z::tv1 v.tv cs x.txns::pts b (rthRow {x with slot:=(i:Int)} v)::arP 103 a A::pts lb (lvRow U sz pre (L.set i (L.getD i 0 + 1)) post)::evsP v.ev x.evs::rowP 1 v.cv (x.cache.map encI)::rowP 2 v.lv (x.limbo.map Ret.enc)::rowP 1 v.rv (x.ripe.map encI)::opP rentP v.ep x.ent::opP rpushP v.up x.push::opP rpopP v.pp x.pop::opP rattP v.ap x.att::opP radvP v.dp x.adv::R) h3→
   bnd (ncV (ptr b)) fun v35=> bnd (faV 14 v35) fun v36=> bnd (stV 1 v36 ap h3) fun h37=> bnd (ncV (ptr b)) fun v38=> bnd (faV 8 v38) fun v39=> bnd (stV 1 v39 (i64 4) h37) fun h40=> K (.tuple #[]) h40:=by
  intro ap z h3 ez hp
  obtain ⟨q,rfl⟩:∃ q,ap= .pointer q:=by
   cases z with
   | none=> exact ⟨none,opP_none hp⟩
   | some y=> obtain ⟨_,e,_⟩:=opP_some hp;exact ⟨_,e⟩
  replace hp:=hn (hp.re 14 [2,3,4,1,5,6,7,8,9,10,11,0,13])
  unfold rthRow at hp
  refine wk ?_
  refine st0 hp (rthRow {x with slot:=(i:Int)} {v with ap:= .pointer q}) rfl le_ rfl rfl fun h4 hp=> ?_
  unfold rthRow at hp
  refine wk ?_
  refine st0 hp (rthRow {x with slot:=(i:Int)} {v with ap:= .pointer q,pc:=4}) rfl le_ rfl rfl fun h5 hp=> ?_
  replace hp:=hn (hp.up 3)
  have hp:=tvP_shut hp
  refine hK (.pointer q) _ ?_
  have:=rts (x:=x.with_ i L) (v:={v with ap:= .pointer q,pc:=4}) (b:=b) (P1:=arP 103 a A) (P2:=pts lb (lvRow U sz pre (L.set i (L.getD i 0 + 1)) post)) (R:=R) (h:=h5) (by
   unfold Th.with_
   simp only [Int.toNat_natCast]
   rw [← ez]
   exact hn (hp.re 4 [1,2,3,0]))
  exact this
 refine T_rAtNew (ops:=x.ops) hp (fun h' hp=> hrow hp) (fun nm h3 hp=> ?_) fun m tb' h3 hp=> ?_
 ·refine ex20 (ex21 ?_)
  exact fin _ none _ (by rw [if_neg nm]) (opP_no hp)
 ·refine ex20 (ex21 ?_)
  exact fin _ (some _) _ (by rw [if_pos m]) (opP_mk hp)
end
end Go.Proofs.YtfphpafkhljncaaGreat
namespace Go.Proofs.YtfphpafkhljncaaGreat
open Go GW Go.Proofs
attribute [local irreducible] bnd ldV stV ifV binV eqI
set_option maxRecDepth 20000
def RV.tris(x:Th)(A:Ar)(v:RV):RV:=match x.att with
 | none=> v
 | some a=> {v with ts:=(a.step A).1.ts,tg:=(a.step A).1.tg,w:=if (a.step A).1.over=true∧(a.step A).2.1=0 then (a.step A).1.won else v.w,pc:=if (a.step A).1.over=true∧(a.step A).2.1=0 then 5 else v.pc}
section
variable {P2 : Part} {a b lb sz : Nat} {U : TypeId} {pre post : List Value} {pick : Int} {A : Ar} {L : List Int} {R : List Part} {h : GH} {K : CC} {x : Th} {v : RV}
theorem rattP_q{b:Nat}{y:At}(hp:All (rattP b y::R) h):ldV 1 false (.pointer (some ⟨b,0 + 57,none⟩)) h=some (.bool y.won)∧ldV 1 false (.pointer (some ⟨b,0 + 1,none⟩)) h=some (i64 y.q):=⟨(rat_fields hp).1,(rat_fields hp).2.1⟩
theorem T_rtAttempt(hp:All (arP 103 a A::P2::rtV b x v::R) h)(ho:∀ n,x.att=some n→n.ok)
  (hK:∀ h',All (arP 103 a (x.tris A).2.2::P2::rtV b (x.tris A).1 (v.tris x A)::R) h'→K (i64 (x.tris A).2.1) h'):T Pg 147 [ptr b,ptr a] h K:=by
 apply S147_T
 unfold S147
 have hp:=rto hp
 unfold rthRow at hp
 refine wk ?_
 unfold RV.tris Th.tris at hK
 cases he:x.att with
 | none=>
   rw [he] at hp hK
   dsimp only at hK
   have e:=opP_none (hn (hp.up 11))
   rw [e] at hp ⊢
   refine wk ?_
   refine hK _ (rts (v:=v) ?_)
   unfold rthRow
   rw [he,e]
   exact hp
 | some y=>
   rw [he] at hp hK
   dsimp only at hK
   have oy:=ho y he
   obtain ⟨yb,e,hp1⟩:=opP_some (hn (hp.up 11))
   replace hp:=hp1
   rw [e] at hp ⊢
   refine wk ?_
   replace hp:=hn (hp.re 4 [1,2,0,3])
   refine wk ?_
   replace hp:=hn (hp.re 4 [1,2,0,3])
   refine T_rAtStep hp oy fun h1 hp=> ?_
   replace hp:=hn (hp.re 4 [2,0,1,3])
   refine wk ?_
   refine T_ratThrough (hn (hp.up 2)) ?_
   refine wk ?_
   refine st0 hp (rthRow x {v with ap:=ptr yb,ts:=(y.step A).1.ts}) rfl le_ rfl rfl fun h2 hp=> ?_
   unfold rthRow at hp
   refine wk ?_
   refine st0 hp (rthRow x {v with ap:=ptr yb,ts:=(y.step A).1.ts,tg:=(y.step A).1.tg}) rfl le_ rfl rfl fun h3 hp=> ?_
   unfold rthRow at hp
   refine wk ?_
   refine bnd_of (rattP_q (hn (hp.up 2))).2 ?_
   refine wk ?_
   refine st0 hp (rthRow {x with seq:=(y.step A).1.q} {v with ap:=ptr yb,ts:=(y.step A).1.ts,tg:=(y.step A).1.tg}) rfl le_ rfl rfl fun h4 hp=> ?_
   have back:∀ {h'} {w:Bool} {pc:Int} {nx:Option Act},All (pts b (rthRow {x with seq:=(y.step A).1.q} {v with ap:=ptr yb,ts:=(y.step A).1.ts,tg:=(y.step A).1.tg,w:=w,pc:=pc})::arP 103 a (y.step A).2.2::rattP yb (y.step A).1::P2::tvP v.tv x.txns::evsP v.ev x.evs::rowP 1 v.cv (x.cache.map encI)::rowP 2 v.lv (x.limbo.map Ret.enc)::rowP 1 v.rv (x.ripe.map encI)::opP rentP v.ep x.ent::opP rpushP v.up x.push::opP rpopP v.pp x.pop::opP radvP v.dp x.adv::R) h'→
     All (arP 103 a (y.step A).2.2::P2::rtV b {x with att:=some (y.step A).1,ts:=(y.step A).1.ts,tg:=(y.step A).1.tg,seq:=(y.step A).1.q,next:=nx} {v with ts:=(y.step A).1.ts,tg:=(y.step A).1.tg,w:=w,pc:=pc}::R) h':=by
    intro h' w pc nx hp
    have hp:=opP_mk (P:=rattP) (hn (hp.up 2))
    refine rts (v:={v with ts:=(y.step A).1.ts,tg:=(y.step A).1.tg,w:=w,pc:=pc}) ?_
    simp only [e]
    exact hn (hp.re 13 [1,2,3,4,5,6,7,8,9,10,11,0,12])
   have j1:∀ (c:Bool),c=decide ((y.step A).1.over=true∧(y.step A).2.1=0)→S147_j1 (ptr b) (i64 (y.step A).2.1) (.bool c) h4 K:=by
    intro c ec
    unfold S147_j1
    cases c with
    | true=>
      have q:=of_decide_eq_true ec.symm
      rw [if_pos q,if_pos q] at hK
      unfold rthRow at hp
      refine wk ?_
      refine bnd_of (rattP_q (hn (hp.up 2))).1 ?_
      refine wk ?_
      refine st0 hp (rthRow {x with seq:=(y.step A).1.q} {v with ap:=ptr yb,ts:=(y.step A).1.ts,tg:=(y.step A).1.tg,w:=(y.step A).1.won}) rfl le_ rfl rfl fun h5 hp=> ?_
      unfold rthRow at hp
      refine wk ?_
      refine st0 hp (rthRow {x with seq:=(y.step A).1.q} {v with ap:=ptr yb,ts:=(y.step A).1.ts,tg:=(y.step A).1.tg,w:=(y.step A).1.won,pc:=5}) rfl le_ rfl rfl fun h6 hp=> ?_
      exact hK _ (back hp)
    | false=>
      have q:=of_decide_eq_false ec.symm
      rw [if_neg q,if_neg q] at hK
      refine wk ?_
      exact hK _ (back hp)
   cases hov:(y.step A).1.over with
   | true=>
     refine wk ?_
     have:=j1 _ (show decide ((y.step A).2.1=0)=_ by rw [decide_eq_decide];exact ⟨fun z=> ⟨hov,z⟩,fun z=> z.2⟩)
     exact this
   | false=>
     refine wk ?_
     exact j1 false (by rw [decide_eq_false];rintro ⟨z,_⟩;rw [hov] at z;cases z)
theorem T_rtPopping{q:Pop}(hp:All (arP 103 a A::pts lb (lvRow U sz pre L post)::rtV b x v::R) h)(hq:x.pop=some q)(o:x.ok)(live:x.evs ≠ [])(lo:Lok L)
  (k1:(q.step A).1.l.over=false∨(q.step A).2.1 ≠ 0→∀ h',All (arP 103 a (q.step A).2.2::pts lb (lvRow U sz pre L post)::rtV b {x with pop:=some (q.step A).1} v::R) h'→K (i64 (q.step A).2.1) h')
  (k2:(q.step A).1.l.over=true→(q.step A).2.1=0→(q.step A).1.slot= -1→∀ h',All (arP 103 a (q.step A).2.2::pts lb (lvRow U sz pre L post)::rtV b {x with pop:=none} {v with pp:= .pointer none,e:=1,pc:=6}::R) h'→K (i64 0) h')
  (k3:(q.step A).1.l.over=true→(q.step A).2.1=0→(q.step A).1.slot ≠ -1→∀ ap h',All (arP 103 a (q.step A).2.2::pts lb (lvRow U sz pre (lived (q.step A).1.slot L) post)::rtV b (({x with pop:=none}:Th).with_ (q.step A).1.slot L) {v with pp:= .pointer none,ap:=ap,pc:=4}::R) h'→K (i64 0) h'):
  T Pg 146 [ptr b,ptr a,lvP pre.length lb] h K:=by
 apply S146_T
 unfold S146
 have qo:=o.pop q hq
 have ps:=Pop.step_ok qo (arP.at hp).2
 have hp:=rto hp
 unfold rthRow at hp
 refine wk ?_
 rw [hq] at hp
 obtain ⟨qb,e,hp1⟩:=opP_some (hn (hp.up 10))
 replace hp:=hp1
 obtain ⟨qf,hp⟩:=All.pure hp
 rw [e] at hp ⊢
 have hp:=hn (hp.re 4 [2,0,1,3])
 have qf2:=Pop.step_fits (A:=A) qf
 refine T_rPopStep hp qo qf fun h1 hp=> ?_
 generalize q.step A=r at hp ps qf2 k1 k2 k3
 obtain ⟨q',code,B⟩:=r
 dsimp only at hp ps qf2 k1 k2 k3 ⊢
 refine wk ?_
 have keep:All (arP 103 a B::pts lb (lvRow U sz pre L post)::rtV b {x with pop:=some q'} v::R) h1:=by
  have hp:=hn (hp.up 1)
  have hp:All (opP rpopP (ptr qb) (some q')::arP 103 a B::pts b _::_) h1:=hp.head fun _ z=> ⟨qb,rfl,qf2,z⟩
  refine rts ?_
  unfold rthRow
  simp only [e]
  exact hn (hp.re 13 [2,1,3,4,5,6,7,8,9,10,0,11,12])
 cases hov:q'.l.over with
 | false=>
   refine wk ?_
   exact k1 (.inl hov) _ keep
 | true=>
   refine wk ?_
   refine ifN_cases (fun c=> ?_) fun c=> ?_
   ·exact k1 (.inr c) _ keep
   ·subst c
    unfold S146_j1
    unfold rpopRow at hp
    replace hp:=hn (hp.re 4 [2,1,0,3])
    refine wk ?_
    refine st0 hp (rthRow x {v with pp:= .pointer none}) rfl le_ rfl rfl fun h2 hp=> ?_
    have hp0:=opP_no (P:=rpopP) (hn (hp.re 4 [0,2,3]))
    have m1:=ps.1.s0
    refine wk ?_
    refine ifV_cases (fun c2=> ?_) fun c2=> ?_
    ·unfold rthRow at hp
     refine wk ?_
     refine st0 hp (rthRow x {v with pp:= .pointer none,e:=1}) rfl le_ rfl rfl fun h3 hp=> ?_
     unfold rthRow at hp
     refine wk ?_
     refine st0 hp (rthRow x {v with pp:= .pointer none,e:=1,pc:=6}) rfl le_ rfl rfl fun h4 hp=> ?_
     refine k2 hov rfl (by omega) _ (rts (x:={x with pop:=none}) (v:={v with pp:= .pointer none,e:=1,pc:=6}) ?_)
     have:=opP_no (P:=rpopP) (hn (hp.re 4 [0,2,3]))
     exact hn (this.re 13 [1,2,3,4,5,6,7,8,9,10,0,11,12])
    ·have:=rts (x:={x with pop:=none}) (v:={v with pp:= .pointer none}) (hn (hp0.re 13 [1,2,3,4,5,6,7,8,9,10,0,11,12]))
     refine T_rtWith this o.idx o.evs o.txns live (by omega) ps.1.s1 lo fun ap h3 hp=> ?_
     refine wk ?_
     exact k3 hov rfl (by omega) ap _ hp
end
end Go.Proofs.YtfphpafkhljncaaGreat
namespace Go.Proofs.YtfphpafkhljncaaGreat
open Go GW Go.Proofs
attribute [local irreducible] bnd ldV stV ifV binV eqI
set_option maxRecDepth 20000
section
variable {P1 P2 : Part} {a b lb sz : Nat} {U : TypeId} {pre post : List Value} {pick : Int} {A : Ar} {L : List Int} {R : List Part} {h : GH} {K : CC} {x : Th} {v : RV}
theorem rtV_open(hp:All (rtV b x v::R) h):All (pts b (rthRow x v)::tvP v.tv x.txns::evsP v.ev x.evs::rowP 1 v.cv (x.cache.map encI)::rowP 2 v.lv (x.limbo.map Ret.enc)::rowP 1 v.rv (x.ripe.map encI)::opP rentP v.ep x.ent::opP rpushP v.up x.push::opP rpopP v.pp x.pop::opP rattP v.ap x.att::opP radvP v.dp x.adv::R) h:=All.flat (hp.head fun _ z=> z)
theorem rtV_shut(hp:All (pts b (rthRow x v)::tvP v.tv x.txns::evsP v.ev x.evs::rowP 1 v.cv (x.cache.map encI)::rowP 2 v.lv (x.limbo.map Ret.enc)::rowP 1 v.rv (x.ripe.map encI)::opP rentP v.ep x.ent::opP rpushP v.up x.push::opP rpopP v.pp x.pop::opP rattP v.ap x.att::opP radvP v.dp x.adv::R) h):All (rtV b x v::R) h:=
 (All.fold (l:= [_,_,_,_,_,_,_,_,_,_,_]) hp).head fun _ z=> z
theorem T_rtDone(hp:All (rtV b x v::R) h)(oe:x.evs.length≤8)(hK:K (.bool (decide (v.pc=0) && x.done)) h):T Pg 88 [ptr b] h K:=by
 apply S88_T
 unfold S88
 have hp:=rtV_open hp
 unfold rthRow at hp
 refine wk ?_
 have hlen:=evP_len (hn (hp.up 2))
 refine bnd_of hlen ?_
 refine wk ?_
 refine ifV_cases (fun c0=> ?_) fun c0=> ?_
 ·rw [decide_eq_true c0,Bool.true_and] at hK
  refine wk ?_
  have htl:lnV v.tv=some (i64 x.txns.length):=by
   refine tvP_open (hn (hp.up 1)) fun cs hq=> ?_
   have:=hq.mono1 tv1.mono
   have h2:=this.1.len
   rw [this.2.1] at h2;exact h2
  refine bnd_of htl ?_
  refine wk ?_
  unfold Th.done at hK
  refine ifV_cases (fun c=> ?_) fun c=> ?_
  ·rw [decide_eq_true (by omega),Bool.true_and] at hK
   refine bnd_of (eqI_int _ _ _) ?_
   refine ifV_cases (fun c2=> ?_) fun c2=> ?_
   ·have:x.evs= []:=List.length_eq_zero_iff.1 (by omega)
    rw [this] at hK
    exact hK
   ·refine wk ?_
    refine evsP_open (hn (hp.up 2)) fun ws hl hp=> ?_
    have live:x.evs ≠ []:=fun e=> c2 (by rw [e];rfl)
    obtain ⟨e,w,g1,g2,g3,g4⟩:=evCs_last hl live
    obtain ⟨eb,i1,i2,i3,i4⟩:=All.elt hp g4 .i64
    rw [g1] at hK
    have l0:=List.length_pos_iff.2 live
    rw [show (x.evs.length:Int) - 1=((x.evs.length - 1:Nat):Int) by omega]
    refine bnd_of i1 (bnd_of rfl (bnd_of (i2 4 1 (i64 e.answered) rfl) ?_))
    refine wk ?_
    exact hK
  ·rw [decide_eq_false (by omega),Bool.false_and] at hK
   refine wk ?_
   exact hK
 ·rw [decide_eq_false c0,Bool.false_and] at hK
  refine wk ?_
  exact hK
theorem T_rtTaken(hp:All (P1::pts lb (lvRow U sz pre L post)::rtV b x v::R) h)(e1:P1=arP 103 a A)(o:x.ok)(live:x.evs ≠ [])(lo:Lok L)
  (k1:x.pop=none→∀ s,x.cache.getLast?=some s→∀ cv ap h',All (P1::pts lb (lvRow U sz pre (lived s L) post)::rtV b (({x with cache:=x.cache.dropLast}:Th).with_ s L) {v with cv:=cv,ap:=ap,pc:=4}::R) h'→K (.tuple #[]) h')
  (k2:(x.pop=none→x.cache= [])→∀ pp h',All (P1::pts lb (lvRow U sz pre L post)::rtV b {x with pop:=some (x.pop.getD .new)} {v with pp:=pp}::R) h'→K (.tuple #[]) h'):
  T Pg 142 [ptr b,lvP pre.length lb] h K:=by
 subst e1
 apply S142_T
 unfold S142
 have hc:=o.cl
 have hp0:=hp
 have hp:=rto hp
 unfold rthRow at hp
 have hlen:lnV v.cv=some (i64 x.cache.length):=by have:=All.len (hn (hp.up 5));rw [List.length_map] at this;exact this
 refine wk ?_
 refine bnd_of hlen ?_
 refine wk ?_
 cases hq:x.pop with
 | some q=>
   have hp1:=hp
   rw [hq] at hp1
   obtain ⟨qb,e,_⟩:=opP_some (hn (hp1.up 10))
   rw [e]
   refine wk ?_
   unfold S142_j1
   refine wk ?_
   unfold S142_j2
   refine wk ?_
   rw [e]
   refine wk ?_
   refine k2 (fun e=> by rw [hq] at e;cases e) v.pp _ ?_
   have ex:({x with pop:=some (x.pop.getD .new)}:Th)=x:=by
    rw [hq];show ({x with pop:=some q}:Th)=x;rw [← hq]
   rw [ex]
   exact hp0
 | none=>
   have hp1:=hp
   rw [hq] at hp1
   have e:=opP_none (hn (hp1.up 10))
   rw [e]
   refine wk ?_
   unfold S142_j1
   refine ifV_cases (fun c=> ?_) fun c=> ?_
   ·obtain ⟨s,hs⟩:∃ s,x.cache[x.cache.length - 1]?=some s:=⟨_,List.getElem?_eq_getElem (by omega)⟩
    have hlast:x.cache.getLast?=some s:=by rw [List.getLast?_eq_getElem?];exact hs
    have sr:=o.ca s (List.mem_of_getElem? hs)
    refine wk ?_
    rw [show (x.cache.length:Int) - 1=((x.cache.length - 1:Nat):Int) by omega]
    obtain ⟨p,d1,d2⟩:=(All.rows (hn (hp.up 5))).get1 (i:=x.cache.length - 1) (x:=i64 s) (by rw [List.getElem?_map,hs];rfl) .i64
    refine bnd_of d1 (bnd_of d2 ?_)
    refine bs0 (size:=1) hp (([]:List Int).map encI) rfl rfl (by simp) (fun c hc=> by cases hc) fun nv h1 hp=> ?_
    refine wk ?_
    replace hp:=hn (hp.up 6)
    obtain ⟨v',d3,hq2⟩:=All.cut hp (n:=x.cache.length - 1) (by rw [List.length_map];omega) .i64
    refine bnd_of d3 ?_
    have hrows:=hq2.rows
    replace hp:=hn (hp.re 2 [1,0])
    refine ap0 (bytes:=8) hp hrows (fun c hc=> encI_good _ c (List.mem_of_mem_take hc)) (by decide) (by simp;omega) fun cv' h2 hp=> ?_
    obtain ⟨ad,ln,cap,rfl⟩:=All.isSlice hp
    rw [List.map_nil,List.nil_append, ← List.map_take, ← List.dropLast_eq_take] at hp
    replace hp:=hn (hp.re 3 [2,0])
    refine wk ?_
    refine st0 hp (rthRow {x with cache:=x.cache.dropLast} {v with cv:= .slice ad ln cap}) rfl le_ rfl rfl fun h3 hp=> ?_
    have:=rts (x:={x with cache:=x.cache.dropLast}) (v:={v with cv:= .slice ad ln cap}) (b:=b) (P1:=arP 103 a A) (P2:=pts lb (lvRow U sz pre L post)) (R:=R) (h:=h3) (hn (hp.re 6 [0,2,3,4,5,1]))
    refine T_rtWith this o.idx o.evs o.txns live sr.1 sr.2 lo fun ap h4 hp=> ?_
    refine wk ?_
    exact k1 hq s hlast _ _ _ hp
   ·have hcn:x.cache= []:=List.length_eq_zero_iff.1 (by omega)
    unfold S142_j2
    refine wk ?_
    rw [e]
    refine wk ?_
    refine T_rNewPop (hn (hp1.re 13 [0,1,2,3,4,5,6,7,8,9,11,12])) fun qb h1 hp=> ?_
    replace hp:=hn (hp.re 2 [1,0])
    refine wk ?_
    refine st0 hp (rthRow x {v with pp:=ptr qb}) rfl le_ rfl rfl fun h2 hp=> ?_
    refine k2 (fun _=> hcn) (ptr qb) _ (rts (v:={v with pp:=ptr qb}) ?_)
    rw [hq]
    have hp:=hn (hp.up 1)
    have hp:All (opP rpopP (ptr qb) (some Pop.new)::pts b (rthRow x {v with pp:=ptr qb})::_) h2:=hp.head fun _ z=> ⟨qb,rfl,fits_zero,z⟩
    exact hn (hp.re 12 [1,2,3,4,5,6,7,8,9,10,0,11])
end
end Go.Proofs.YtfphpafkhljncaaGreat
namespace Go.Proofs.YtfphpafkhljncaaGreat
open Go GW Go.Proofs
attribute [local irreducible] bnd ldV stV ifV binV eqI
set_option maxRecDepth 20000
section
variable {P1 P2 : Part} {b : Nat} {R : List Part} {h : GH} {K : CC} {x : Th} {v : RV}
theorem All.rowTl{v:VV}{u:Int}{us:List Int}(hp:All (rowP 1 v ((u::us).map encI)::R) h):∃ v',slV 1 v (some (i64 1)) none=some v'∧rowsAt h 1 v' (us.map encI):=rowsAt.tl hp.rows
theorem T_rtCached(hp:All (P1::P2::rtV b x v::R) h)(o:x.ok)
  (k1:x.cached.ripe= []→∀ cv rv h',All (P1::P2::rtV b x.cached {v with cv:=cv,rv:=rv,pc:=3}::R) h'→K (.tuple #[]) h')
  (k2:∀ s r,x.cached.ripe=s::r→∀ cv rv up h',All (P1::P2::rtV b {x.cached with push:=some (x.cached.push.getD (.new s))} {v with cv:=cv,rv:=rv,up:=up}::R) h'→K (.tuple #[]) h'):
  T Pg 141 [ptr b] h K:=by
 apply S141_T
 unfold S141
 have hc:=o.cl
 have oc:=Th.cached_ok o
 have ol:x.ripe.length≤100000:=by
  have h1:=o.cap;have h2:=o.evs;have h3:=thrMay_spec o.txns;have h4:=o.t1;have h5:=o.k1
  have f:flagOf x.next≤1:=by unfold flagOf;split <;> omega
  omega
 -- behind the loop
 have fin:∀ s1 again cv rv h',All (P1::P2::rtV b x.cached {v with cv:=cv,rv:=rv}::R) h'→S141_j2 s1 (ptr b) h' K again:=by
  intro s1 again cv rv h' hp
  generalize x.cached=y at hp oc k1 k2
  unfold S141_j2
  have hp0:=hp
  have hp:=rto hp
  unfold rthRow at hp
  refine wk ?_
  have hlen:lnV rv=some (i64 y.ripe.length):=by have:=All.len (hn (hp.up 7));rw [List.length_map] at this;exact this
  refine bnd_of hlen ?_
  refine bnd_of (eqI_int _ _ _) ?_
  cases hr:y.ripe with
  | nil=>
    refine wk ?_
    refine st0 hp (rthRow y {v with cv:=cv,rv:=rv,pc:=3}) rfl le_ rfl rfl fun h2 hp=> ?_
    exact k1 hr _ _ _ (rts (v:={v with cv:=cv,rv:=rv,pc:=3}) hp)
  | cons s r=>
    have hm:=oc.ri s (by rw [hr];simp)
    refine ifV_n (by simp only [List.length_cons];omega) ?_
    refine wk ?_
    cases hq:y.push with
    | some q=>
      have hp1:=hp
      rw [hq] at hp1
      obtain ⟨qb,e,_⟩:=opP_some (hn (hp1.up 9))
      rw [e]
      refine wk ?_
      refine k2 s r hr cv rv v.up _ ?_
      have ex:({y with push:=some (y.push.getD (.new s))}:Th)=y:=by
       rw [hq];show ({y with push:=some q}:Th)=y;rw [← hq]
      rw [ex]
      exact hp0
    | none=>
      have hp1:=hp
      rw [hq] at hp1
      have e:=opP_none (hn (hp1.up 9))
      rw [e]
      refine wk ?_
      obtain ⟨p,d1,d2⟩:=(All.rows (hn (hp1.up 7))).get1 (i:=0) (x:=i64 s) (by rw [hr];rfl) .i64
      refine bnd_of d1 (bnd_of d2 ?_)
      refine T_rNewPush (hn (hp1.re 13 [0,1,2,3,4,5,6,7,8,10,11,12])) hm.1 hm.2 fun qb h1 hp=> ?_
      replace hp:=hn (hp.re 2 [1,0])
      refine wk ?_
      refine st0 hp (rthRow y {v with cv:=cv,rv:=rv,up:=ptr qb}) rfl le_ rfl rfl fun h2 hp=> ?_
      refine k2 s r hr cv rv (ptr qb) _ (rts (v:={v with cv:=cv,rv:=rv,up:=ptr qb}) ?_)
      rw [hq]
      have hp:=hn (hp.up 1)
      have hp:All (opP rpushP (ptr qb) (some (Push.new s))::pts b (rthRow y {v with cv:=cv,rv:=rv,up:=ptr qb})::_) h2:=hp.head fun _ z=> ⟨qb,rfl,fits_zero,z⟩
      exact hn (hp.re 13 [1,2,3,4,5,6,7,8,9,0,10,11,12])
 -- the loop
 have start:=hp
 rw [← Th.mv_zero x] at start
 refine Lfp_fam (ι:=Nat) (fun _=> [ptr b]) (fun i h'=> i≤x.ripe.length∧i + x.cache.length≤2∧(i ≠ 0→x.push=none)∧∃ cv rv,All (P1::P2::rtV b (x.mv i) {v with cv:=cv,rv:=rv}::R) h') (fun i=> 2 - i) ?_ 0 h ⟨by omega,by omega,fun h=> absurd rfl h,v.cv,v.rv,start⟩
 clear hp start
 rintro i h1 X ⟨hi,hi2,hi3,cv,rv,hp⟩ again
 simp only [tup_zero,tup_succ]
 have hp0:=hp
 have hp:=rto hp
 unfold rthRow at hp
 refine wk ?_
 have epu:(x.mv i).push=x.push:=rfl
 have eca:(x.mv i).cache=x.cache ++ x.ripe.take i:=rfl
 have eri:(x.mv i).ripe=x.ripe.drop i:=rfl
 have ecl:(x.mv i).cache.length=x.cache.length + i:=by rw [eca,List.length_append,List.length_take];omega
 have erl:(x.mv i).ripe.length=x.ripe.length - i:=by rw [eri,List.length_drop]
 cases hq:x.push with
 | some q=>
   rw [epu,hq] at hp
   obtain ⟨qb,e,_⟩:=opP_some (hn (hp.up 9))
   rw [e]
   refine wk ?_
   have i0:i=0:=by
    rcases Nat.eq_zero_or_pos i with z | z
    ·exact z
    ·have:=hi3 (by omega);rw [hq] at this;cases this
   subst i0
   rw [Th.mv_zero] at hp0
   exact fin _ _ cv rv _ (by rw [Th.cached_some (by rw [hq];simp)];exact hp0)
 | none=>
   rw [epu,hq] at hp
   have e:=opP_none (hn (hp.up 9))
   rw [e]
   refine wk ?_
   have hlen:lnV rv=some (i64 (x.mv i).ripe.length):=by have:=All.len (hn (hp.up 7));rw [List.length_map] at this;exact this
   refine bnd_of hlen ?_
   refine wk ?_
   refine ifV_cases (fun c=> ?_) fun c=> ?_
   ·refine wk ?_
    have hclen:lnV cv=some (i64 (x.mv i).cache.length):=by have:=All.len (hn (hp.up 5));rw [List.length_map] at this;exact this
    refine bnd_of hclen ?_
    refine wk ?_
    refine ifV_cases (fun c2=> ?_) fun c2=> ?_
    ·unfold S141_j1
     refine wk ?_
     obtain ⟨s,hs⟩:∃ s,x.ripe[i]?=some s:=⟨_,List.getElem?_eq_getElem (by omega)⟩
     have hcons:x.ripe.drop i=s::x.ripe.drop (i + 1):=by
      have hlt:i < x.ripe.length:=by omega
      rw [List.drop_eq_getElem_cons hlt]
      rw [List.getElem?_eq_getElem hlt] at hs
      cases hs;rfl
     rw [eri,hcons] at hp
     obtain ⟨p,d1,d2⟩:=(All.rows (hn (hp.up 7))).get1 (i:=0) (x:=i64 s) rfl .i64
     refine bnd_of d1 (bnd_of d2 ?_)
     refine bs0 (size:=1) hp ([s].map encI) rfl rfl (by simp) (encI_good _) fun sv h2 hp=> ?_
     have r2:=hp.rows
     refine ap0 (hn (hp.up 6)) r2 (encI_good _) (by decide) (by simp only [List.length_map,List.length_cons,List.length_nil];omega) fun cv' h3 hp=> ?_
     obtain ⟨ad,ln,cap,rfl⟩:=All.isSlice hp
     replace hp:=hn (hp.re 3 [2,0])
     refine wk ?_
     refine st0 hp (rthRow (x.mv (i + 1)) {v with cv:= .slice ad ln cap,rv:=rv}) rfl le_ rfl rfl fun h4 hp=> ?_
     refine bs0 (size:=1) hp (([]:List Int).map encI) rfl rfl (by simp) (fun c hc=> by cases hc) fun nv h5 hp=> ?_
     unfold rthRow at hp
     refine wk ?_
     obtain ⟨v',d3,r3⟩:=All.rowTl (hn (hp.up 8))
     refine bnd_of d3 ?_
     refine ap0 (bytes:=8) hp r3 (encI_good _) (by decide) (by simp;omega) fun rv' h6 hp=> ?_
     obtain ⟨ad0,ln0,cap0,rfl⟩:=All.isSlice hp
     replace hp:=hn (hp.re 2 [1,0])
     refine wk ?_
     refine st0 hp (rthRow (x.mv (i + 1)) {v with cv:= .slice ad ln cap,rv:= .slice ad0 ln0 cap0}) rfl le_ rfl rfl fun h7 hp=> ?_
     refine again (i + 1) _ ⟨by omega,by omega,fun _=> hq, .slice ad ln cap, .slice ad0 ln0 cap0,?_⟩ (by omega)
     refine rts (v:={v with cv:= .slice ad ln cap,rv:= .slice ad0 ln0 cap0}) ?_
     have ec2:(x.mv (i + 1)).cache.map encI=(x.mv i).cache.map encI ++ [s].map encI:=by
      show (x.cache ++ x.ripe.take (i + 1)).map encI=(x.cache ++ x.ripe.take i).map encI ++ [s].map encI
      rw [List.take_add_one,hs, ← List.map_append,List.append_assoc];rfl
     rw [ec2]
     have epu2:(x.mv (i + 1)).push=none:=hq
     rw [epu2]
     exact hn (hp.re 9 [0,3,4,5,6,2,7,1])
    ·exact fin _ _ cv rv _ (by rw [← Th.mv_cached hq hi hi2 (by omega)];exact hp0)
   ·exact fin _ _ cv rv _ (by rw [← Th.mv_cached hq hi hi2 (by omega)];exact hp0)
end
end Go.Proofs.YtfphpafkhljncaaGreat
namespace Go.Proofs.YtfphpafkhljncaaGreat
open Go GW Go.Proofs
attribute [local irreducible] bnd ldV stV ifV binV eqI
set_option maxRecDepth 20000
section
variable {P1 P2 : Part} {b : Nat} {R : List Part} {h : GH} {K : CC} {x : Th} {v : RV} {pick : Int}
theorem T_rtBegin(hp:All (P1::P2::rtV b x v::R) h)(o:x.ok)(hpc:v.pc=0)
  (k1:(x.begin pick).2=false→∀ h',All (P1::P2::rtV b (x.begin pick).1 v::R) h'→K (.bool false) h')
  (k2:(x.begin pick).2=true→∀ ev ep h',All (P1::P2::rtV b (x.begin pick).1 {v with ev:=ev,ep:=ep,w:=false,e:=2,pc:=1}::R) h'→K (.bool true) h'):
  T Pg 119 [ptr b,i64 pick] h K:=by
 apply S119_T
 unfold S119
 have oe:x.evs.length≤8:=by have:=o.evs;have:=thrMay_spec o.txns;omega
 refine T_rtDone (hn (hp.up 2)) oe ?_
 rw [decide_eq_true hpc,Bool.true_and]
 unfold Th.begin at k1 k2
 cases hd:x.done with
 | true=> rw [hd] at k1 k2;refine wk ?_;exact k1 rfl _ hp
 | false=>
   rw [hd] at k1 k2
   simp only [Bool.false_eq_true,if_false] at k1 k2
   refine wk ?_
   have hp:=rto hp
   have p1:=o.p1;have i0:=o.i0;have i1:=o.i1;have n1:=o.n1
   unfold rthRow at hp
   refine wk ?_
   refine ifV_cases (fun c=> ?_) fun c=> ?_
   ·rw [if_pos c] at k1 k2
    refine wk ?_
    refine st0 hp (rthRow {x with pause:=x.pause - 1} v) rfl le_ rfl rfl fun h1 hp=> ?_
    exact k1 rfl _ (rts (v:=v) (x:={x with pause:=x.pause - 1}) hp)
   ·rw [if_neg c] at k1 k2
    have j1:∀ (es:List Event) (ev:VV) h',es=(if x.tries=0 then x.evs ++ [⟨x.id,x.evs.length,pick, -1, -1,0,0, []⟩] else x.evs)→All (pts b (rthRow x {v with ev:=ev})::P1::P2::tvP v.tv x.txns::evsP ev es::rowP 1 v.cv (x.cache.map encI)::rowP 2 v.lv (x.limbo.map Ret.enc)::rowP 1 v.rv (x.ripe.map encI)::opP rentP v.ep x.ent::opP rpushP v.up x.push::opP rpopP v.pp x.pop::opP rattP v.ap x.att::opP radvP v.dp x.adv::R) h'→
      S119_j1 (ptr b) h' K:=by
     intro es ev h' ees hp
     unfold S119_j1
     unfold rthRow at hp
     refine wk ?_
     refine T_rNewEnter (hn (hp.re 13 [0,1,2,3,4,5,6,7,9,10,11,12])) i0 (by omega) fun nb h1 hp=> ?_
     replace hp:=hn (hp.re 2 [1,0])
     refine wk ?_
     refine st0 hp (rthRow x {v with ev:=ev,ep:=ptr nb}) rfl le_ rfl rfl fun h2 hp=> ?_
     unfold rthRow at hp
     refine wk ?_
     refine st0 hp (rthRow x {v with ev:=ev,ep:=ptr nb,w:=false}) rfl le_ rfl rfl fun h3 hp=> ?_
     unfold rthRow at hp
     refine wk ?_
     refine st0 hp (rthRow x {v with ev:=ev,ep:=ptr nb,w:=false,e:=2}) rfl le_ rfl rfl fun h4 hp=> ?_
     unfold rthRow at hp
     refine wk ?_
     refine st0 hp (rthRow x {v with ev:=ev,ep:=ptr nb,w:=false,e:=2,pc:=1}) rfl le_ rfl rfl fun h5 hp=> ?_
     refine k2 rfl ev (ptr nb) _ (rts (v:={v with ev:=ev,ep:=ptr nb,w:=false,e:=2,pc:=1}) ?_)
     have hp:=hn (hp.up 1)
     have hp:All (opP rentP (ptr nb) (some (Ent.new x.id))::pts b (rthRow x {v with ev:=ev,ep:=ptr nb,w:=false,e:=2,pc:=1})::_) h5:=hp.head fun _ z=> ⟨nb,rfl,by intro q;first | cases q | (simp [Ent.new] at q),z⟩
     have:=hn (hp.re 13 [1,2,3,4,5,6,7,8,0,9,10,11,12])
     rw [ees] at this
     exact this
    refine wk ?_
    refine ifV_cases (fun c2=> ?_) fun c2=> ?_
    ·refine wk ?_
     have hlen:=evP_len (hn (hp.up 4))
     refine bnd_of hlen (bnd_of rfl ?_)
     replace hp:=hn (hp.up 4)
     refine evsP_open hp fun ws hl hp=> ?_
     have eg:good 8 ((⟨x.id,x.evs.length,pick, -1, -1,0,0, []⟩:Event).cells nS_):=⟨rfl,rfl⟩
     refine bs0 (size:=8) hp [(⟨x.id,x.evs.length,pick, -1, -1,0,0, []⟩:Event).cells nS_] rfl rfl (by simp) (fun c hc=> by rw [List.mem_singleton.1 hc];exact eg) fun sv h2 hp=> ?_
     have r2:=hp.rows
     refine ap0 (hn (hp.up 1)) r2 (fun c hc=> by rw [List.mem_singleton.1 hc];exact eg) (by decide) (by rw [evCs_len hl];simp only [List.length_cons,List.length_nil];omega) fun ev' h3 hp=> ?_
     obtain ⟨ad,ln,cap,rfl⟩:=All.isSlice hp
     rw [evCs_snoc hl] at hp
     have hp:=ansP_snoc (e':=⟨x.id,x.evs.length,pick, -1, -1,0,0, []⟩) rfl hl (hn (hp.re 3 [2,0]))
     have hl2:(ws ++ [Value.slice none 0 0]).length=(x.evs ++ [(⟨x.id,x.evs.length,pick, -1, -1,0,0, []⟩:Event)]).length:=by simp [hl]
     have hp:=evsP_shut hl2 (hn (hp.re 2 [1,0]))
     replace hp:=hn (hp.re 5 [1,2,3,4,0])
     refine wk ?_
     refine st0 hp (rthRow x {v with ev:= .slice ad ln cap}) rfl le_ rfl rfl fun h4 hp=> ?_
     exact j1 _ _ _ (by rw [if_pos c2]) hp
    ·refine wk ?_
     exact j1 x.evs v.ev _ (by rw [if_neg c2]) hp
theorem T_rtAnswer(hp:All (P1::P2::rtV b x v::R) h)(t0:0≤x.tries)(t1:x.tries < x.k)(kk:x.k≤16)(live:x.evs ≠ [])(oe:x.evs.length≤8)(oa:∀ n,x.att=some n→n.ans.length≤2)
  (he:x.end_=if v.w then 0 else v.e) (hv:v.e=1∨v.e=2) (hw:v.w=true→x.att ≠ none)
  (hK:∀ h',All (P1::P2::rtV b (x.answer pick) {v with pc:=0}::R) h'→K (.tuple #[]) h'):T Pg 153 [ptr b,i64 pick] h K:=by
 apply S153_T
 unfold S153
 have hp:=rto hp
 unfold rthRow at hp
 refine wk ?_
 refine st0 hp (rthRow x {v with pc:=0}) rfl le_ rfl rfl fun h1 hp=> ?_
 unfold rthRow at hp
 refine wk ?_
 refine st0 hp (rthRow {x with tries:=x.tries + 1} {v with pc:=0}) rfl le_ rfl rfl fun h2 hp=> ?_
 replace hp:=hn (hp.up 4)
 refine evsP_open hp fun ws hl hp=> ?_
 obtain ⟨e,w,g1,g2,g3,g4⟩:=evCs_last hl live
 have wg:=(hp.row.good.1 _ (List.mem_of_getElem? g4)).2
 obtain ⟨eb,i1,i2,i3,i4⟩:=All.elt hp g4 .i64
 clear i4
 have hlen:lnV v.ev=some (i64 x.evs.length):=by have:=All.len hp;rw [evCs_len hl] at this;exact this
 have l0:=List.length_pos_iff.2 live
 have lsub:(x.evs.length:Int) - 1=((x.evs.length - 1:Nat):Int):=by omega
 replace hp:=hn (hp.re 3 [2,0,1])
 unfold rthRow at hp
 refine wk ?_
 refine bnd_of hlen ?_
 refine wk ?_
 rw [lsub]
 refine bnd_of i1 ?_
 refine bnd_of i3 ?_
 have ow:oneCell w=true:=by
  unfold Event.cells at wg
  simp only [List.all_cons,Bool.and_eq_true] at wg
  exact wg.2.2.2.2.2.2.2.1
 refine nwst hp (.row 56 (e.cells w) 8 true) rfl rfl wg rfl fun lb h3 hp=> ?_
 unfold Event.cells at hp
 refine wk ?_
 refine st0 hp (.row 56 (({e with attempts:=x.tries + 1}:Event).cells w) 8 true) rfl le_ rfl rfl fun h4 hp=> ?_
 unfold Event.cells at hp
 have shut:∀ {h'} {y:Th} {v':RV} {e1:Event} {w1:VV} {r1:List (List Value)},r1=evCs (x.evs.set (x.evs.length - 1) e1) (ws.set (x.evs.length - 1) w1)→All (pts b (rthRow y v')::rowP 8 v'.ev r1::ansP (ws.set (x.evs.length - 1) w1) (x.evs.set (x.evs.length - 1) e1)::P1::P2::tvP v'.tv x.txns::rowP 1 v'.cv (x.cache.map encI)::rowP 2 v'.lv (x.limbo.map Ret.enc)::rowP 1 v'.rv (x.ripe.map encI)::opP rentP v'.ep x.ent::opP rpushP v'.up x.push::opP rpopP v'.pp x.pop::opP rattP v'.ap x.att::opP radvP v'.dp x.adv::R) h'→
   y.txns=x.txns→y.evs=x.evs.set (x.evs.length - 1) e1→y.cache=x.cache→y.limbo=x.limbo→y.ripe=x.ripe→y.ent=x.ent→y.push=x.push→y.pop=x.pop→y.att=x.att→y.adv=x.adv→
   All (P1::P2::rtV b y v'::R) h':=by
  intro h' y v' e1 w1 r1 er hp z1 z2 z3 z4 z5 z6 z7 z8 z9 z10
  refine rts ?_
  rw [z1,z2,z3,z4,z5,z6,z7,z8,z9,z10]
  subst er
  have:=evsP_shut (ws:=ws.set (x.evs.length - 1) w1) (es:=x.evs.set (x.evs.length - 1) e1) (by rw [List.length_set,List.length_set];exact hl) (hn (hp.re 3 [1,2,0]))
  exact hn (this.re 5 [1,2,3,4,0])
 have c8:∀ (e1:Event) (w1:VV),setCells (e.cells w) 0 (Value.agg (e1.cells w1).toArray).cells.toList=e1.cells w1:=fun e1 w1=> rfl
 -- the event goes back
 have j1:∀ (e1:Event) (w1:VV) h',¬ (x.end_=2∧x.tries + 1 < x.k)→oneCell w1=true→e1={e with attempts:=x.tries + 1,end_:=x.end_,answers:=if x.end_=0 then (x.att.map At.ans).getD [] else e.answers}→
   All (pts lb (.row 56 (e1.cells w1) 8 true)::pts b (rthRow {x with tries:=x.tries + 1} {v with pc:=0})::rowP 8 v.ev (evCs x.evs ws)::ansP (ws.set (x.evs.length - 1) w1) (x.evs.set (x.evs.length - 1) e1)::P1::P2::tvP v.tv x.txns::rowP 1 v.cv (x.cache.map encI)::rowP 2 v.lv (x.limbo.map Ret.enc)::rowP 1 v.rv (x.ripe.map encI)::opP rentP v.ep x.ent::opP rpushP v.up x.push::opP rpopP v.pp x.pop::opP rattP v.ap x.att::opP radvP v.dp x.adv::R) h'→
   S153_j1 (ptr b) (i64 pick) (i64 ((x.evs.length - 1:Nat):Int)) (ptr lb) h' K:=by
  intro e1 w1 h' c ow1 ee hp
  unfold S153_j1
  unfold Th.answer at hK
  rw [if_neg c] at hK
  unfold Event.cells at hp
  refine wk ?_
  refine st0 hp (.row 56 (({e1 with answered:=pick}:Event).cells w1) 8 true) rfl le_ rfl rfl fun h5 hp=> ?_
  unfold rthRow at hp
  refine wk ?_
  refine la0 hp le_ rfl ?_
  have hp:=hn (hp.re 4 [2,0,1,3])
  obtain ⟨eb2,m1,_,_,m4⟩:=All.elt hp g4 .i64
  obtain ⟨h6,q1,q2⟩:=m4 0 8 (.agg (({e1 with answered:=pick}:Event).cells w1).toArray) rfl (by decide) (by
   show (({e1 with answered:=pick}:Event).cells w1).all oneCell=true
   unfold Event.cells
   simp only [List.all_cons,ow1,List.all_nil,Bool.and_true,Bool.and_eq_true]
   exact ⟨rfl,rfl,rfl,rfl,rfl,rfl,rfl⟩)
  refine bnd_of m1 (bnd_of q1 ?_)
  replace hp:=q2
  have:=c8 {e1 with answered:=pick} w1
  rw [this,evCs_set hl] at hp
  replace hp:=hn (hp.re 4 [2,0,3])
  refine wk ?_
  refine st0 hp (rthRow {x with tries:=0} {v with pc:=0}) rfl le_ rfl rfl fun h7 hp=> ?_
  have q4:(x.evs.set (x.evs.length - 1) e1)[x.evs.length - 1]?=some e1:=List.getElem?_set_self (by omega)
  have hp:=(ansP_same q4 (e':={e1 with answered:=pick}) rfl (hn (hp.up 2))).re 3 [1,2,0]
  rw [List.set_set] at hp
  replace hp:=hn hp
  refine hK _ (shut (v':={v with pc:=0}) (w1:=w1) (e1:={e1 with answered:=pick}) rfl hp rfl ?_ rfl rfl rfl rfl rfl rfl rfl rfl)
  show evTurn x.evs _=_
  rw [evTurn_set g1,ee]
 have hw1:∀ (es:List Event),ws.set (x.evs.length - 1) w=ws:=fun _=> set_self g3
 refine wk ?_
 cases hwb:v.w with
 | true=>
   rw [hwb,if_pos rfl] at he
   refine wk ?_
   refine st0 hp (.row 56 (({e with attempts:=x.tries + 1,end_:=0}:Event).cells w) 8 true) rfl le_ rfl rfl fun h5 hp=> ?_
   unfold Event.cells at hp
   refine bs0 (size:=2) hp (([]:List Answer).map Answer.enc) rfl rfl (by simp) (fun c hc=> by cases hc) fun nv h6 hp=> ?_
   obtain ⟨y,hy⟩:=Option.ne_none_iff_exists'.1 (hw hwb)
   have oy:=oa y hy
   have hp1:=hp
   rw [hy] at hp1
   obtain ⟨yb,ey,hq⟩:=opP_some (P:=rattP) (hn (hp1.up 14))
   obtain ⟨_,_,ansv,f1,f2⟩:=rat_fields hq
   refine wk ?_
   rw [ey]
   refine wk ?_
   refine bnd_of f1 ?_
   refine ap0 hp f2 (Answer.all_good _) (by decide) (by simp;omega) fun av h7 hp=> ?_
   obtain ⟨ad,ln,cap,rfl⟩:=All.isSlice hp
   rw [List.map_nil,List.nil_append] at hp
   replace hp:=hn (hp.re 2 [1,0])
   refine wk ?_
   refine st0 hp (.row 56 (({e with attempts:=x.tries + 1,end_:=0,answers:=y.ans}:Event).cells (.slice ad ln cap)) 8 true) rfl le_ rfl rfl fun h8 hp=> ?_
   refine j1 {e with attempts:=x.tries + 1,end_:=0,answers:=y.ans} (.slice ad ln cap) _ (fun q=> by omega) rfl (by rw [he,if_pos rfl,hy];rfl) ?_
   have hp:=hn (hp.re 5 [1,4,0,2,3])
   have:=ansP_set (i:=x.evs.length - 1) (e':={e with attempts:=x.tries + 1,end_:=0,answers:=y.ans}) hp
   exact hn (this.re 4 [1,2,3,0])
 | false=>
   rw [hwb,if_neg (by decide)] at he
   refine wk ?_
   -- answers as they were
   have same:∀ (e1:Event) {g r h'},e1.answers=e.answers→All (g::r::rowP 8 v.ev (evCs x.evs ws)::ansP ws x.evs::P1::P2::tvP v.tv x.txns::rowP 1 v.cv (x.cache.map encI)::rowP 2 v.lv (x.limbo.map Ret.enc)::rowP 1 v.rv (x.ripe.map encI)::opP rentP v.ep x.ent::opP rpushP v.up x.push::opP rpopP v.pp x.pop::opP rattP v.ap x.att::opP radvP v.dp x.adv::R) h'→
     All (g::r::rowP 8 v.ev (evCs x.evs ws)::ansP (ws.set (x.evs.length - 1) w) (x.evs.set (x.evs.length - 1) e1)::P1::P2::tvP v.tv x.txns::rowP 1 v.cv (x.cache.map encI)::rowP 2 v.lv (x.limbo.map Ret.enc)::rowP 1 v.rv (x.ripe.map encI)::opP rentP v.ep x.ent::opP rpushP v.up x.push::opP rpopP v.pp x.pop::opP rattP v.ap x.att::opP radvP v.dp x.adv::R) h':=by
    intro e1 g r h' ea hp
    rw [set_self g3]
    have:=ansP_same g2 (e':=e1) ea (hn (hp.up 3))
    exact hn (this.re 4 [1,2,3,0])
   refine ifV_cases (fun c1=> ?_) fun c1=> ?_
   ·have c1:v.e=1:=c1
    refine wk ?_
    refine st0 hp (.row 56 (({e with attempts:=x.tries + 1,end_:=1}:Event).cells w) 8 true) rfl le_ rfl rfl fun h5 hp=> ?_
    exact j1 {e with attempts:=x.tries + 1,end_:=1} w _ (fun q=> by omega) ow (by rw [he,c1,if_neg (by decide)]) (same {e with attempts:=x.tries + 1,end_:=1} rfl hp)
   ·have v2:v.e=2:=hv.resolve_left c1
    refine wk ?_
    refine ifV_cases (fun c2=> ?_) fun c2=> ?_
    ·have c2:x.k≤x.tries + 1:=c2
     refine wk ?_
     refine st0 hp (.row 56 (({e with attempts:=x.tries + 1,end_:=2}:Event).cells w) 8 true) rfl le_ rfl rfl fun h5 hp=> ?_
     exact j1 {e with attempts:=x.tries + 1,end_:=2} w _ (fun q=> by omega) ow (by rw [he,v2,if_neg (by decide)]) (same {e with attempts:=x.tries + 1,end_:=2} rfl hp)
    ·have c2:¬ x.k≤x.tries + 1:=c2
     refine wk ?_
     unfold Th.answer at hK
     rw [if_pos ⟨by omega,by omega⟩] at hK
     refine T_rPause (show 1≤x.tries + 1 by omega) (show x.tries + 1≤16 by omega) ?_
     refine wk ?_
     replace hp:=hn (hp.re 2 [1,0])
     refine st0 hp (rthRow {x with tries:=x.tries + 1,pause:=pauseM x.pol (x.tries + 1)} {v with pc:=0}) rfl le_ rfl rfl fun h5 hp=> ?_
     unfold rthRow at hp
     refine wk ?_
     refine la1 hp le_ rfl ?_
     have hp:=hn (hp.re 3 [2,0,1])
     obtain ⟨eb2,m1,_,_,m4⟩:=All.elt hp g4 .i64
     obtain ⟨h6,q1,q2⟩:=m4 0 8 (.agg (({e with attempts:=x.tries + 1}:Event).cells w).toArray) rfl (by decide) (by
      show (({e with attempts:=x.tries + 1}:Event).cells w).all oneCell=true
      unfold Event.cells
      simp only [List.all_cons,ow,List.all_nil,Bool.and_true,Bool.and_eq_true]
      exact ⟨rfl,rfl,rfl,rfl,rfl,rfl,rfl⟩)
     refine bnd_of m1 (bnd_of q1 ?_)
     have hp:=q2
     rw [c8 {e with attempts:=x.tries + 1} w,evCs_set hl] at hp
     replace hp:=hn (hp.re 4 [3,1,0])
     have hp:=ansP_same g2 (e':={e with attempts:=x.tries + 1}) rfl hp
     replace hp:=hn (hp.re 3 [1,2,0])
     refine hK _ (shut (v':={v with pc:=0}) (w1:=w) (e1:={e with attempts:=x.tries + 1}) rfl ?_ rfl ?_ rfl rfl rfl rfl rfl rfl rfl rfl)
     ·rw [set_self g3]
      rw [set_self g3] at hp
      exact hp
     ·show evTurn x.evs _=_
      rw [evTurn_set g1]
end
end Go.Proofs.YtfphpafkhljncaaGreat
namespace Go.Proofs.YtfphpafkhljncaaGreat
open Go GW Go.Proofs
attribute [local irreducible] bnd ldV stV ifV binV eqI
set_option maxRecDepth 20000
def actC:Option Act→Int
 | none=> 0
 | some .ent=> 1
 | some .fre=> 2
 | some .tak=> 3
 | some .tri=> 4
 | some .ret=> 5
 | some .lea=> 6
 | some .adv=> 7
def LkS(x:Th)(v:RV):Option Act→Prop
 | none=> True
 | some .ret=> v.e=2∧x.end_=2∧v.w=(x.att.map At.won).getD false
 | some .lea=> x.end_=(if v.w then 0 else v.e)∧(v.e=1∨v.e=2)∧(v.w=true→x.att ≠ none)
 | some .adv=> (x.end_=(if v.w then 0 else v.e)∧(v.e=1∨v.e=2)∧(v.w=true→x.att ≠ none))∧x.adv ≠ none
 | some .ent=> (v.w=false∧v.e=2∧x.end_=2)∧x.ent ≠ none
 | some _=> v.w=false∧v.e=2∧x.end_=2
def Lkd(r:Th × Int × Ar)(v':RV):Prop:=(r.2.1=0→v'.pc=actC r.1.next∧LkS r.1 v' r.1.next)∧v'.ts=r.1.ts∧v'.tg=r.1.tg
section
variable {a b lb sz : Nat} {U : TypeId} {pre post : List Value} {pick : Int} {A : Ar} {L : List Int} {R : List Part} {h : GH} {K : CC} {x : Th} {v : RV}
theorem T_rtjEnt(hp:All (arP 103 a A::pts lb (lvRow U sz pre L post)::rtV b x v::R) h)(o:x.ok)(hx:x.next=some .ent)(hpc:v.pc=1)(hs:LkS x v (some .ent))(ht:v.ts=x.ts∧v.tg=x.tg)
  (hK:∀ v' h',Lkd (x.ents A) v'→All (arP 103 a (x.ents A).2.2::pts lb (lvRow U sz pre L post)::rtV b (x.ents A).1 v'::R) h'→K (i64 (x.ents A).2.1) h'):
  S120_j2 (ptr b) (ptr a) (lvP pre.length lb) (i64 pick) h K:=by
 unfold S120_j2
 have hp0:=hp
 have hp:=rto hp
 unfold rthRow at hp
 refine wk ?_
 rw [hpc]
 refine wk ?_
 obtain ⟨n,hn1⟩:=Option.ne_none_iff_exists'.1 hs.2
 unfold Th.ents at hK
 rw [hn1] at hK
 dsimp only at hK
 have hp1:=hp
 rw [hn1] at hp1
 have on:=o.ent n hn1
 obtain ⟨nb,e,hp2⟩:=opP_some (hn (hp1.up 8))
 obtain ⟨nf,hp2⟩:=All.pure hp2
 have nf2:=Ent.step_fits (A:=A) nf
 have os:=(Ent.step_ok on (arP.at hp0).2).1
 replace hp:=hn (hp2.re 3 [2,0,1])
 rw [e] at hp ⊢
 refine T_rEnterStep hp on nf fun h1 hp=> ?_
 generalize n.step A=z at hp hK os nf2
 obtain ⟨n',code,B⟩:=z
 dsimp only at hp hK os nf2 ⊢
 refine wk ?_
 have back:∀ {h'} {y:Th} {v':RV} {ri:List Int} {li:List Ret},All (arP 103 a B::pts nb (rentRow n')::pts b (rthRow y v')::pts lb (lvRow U sz pre L post)::tvP v'.tv x.txns::evsP v'.ev x.evs::rowP 1 v'.cv (x.cache.map encI)::rowP 2 v'.lv (li.map Ret.enc)::rowP 1 v'.rv (ri.map encI)::opP rpushP v'.up x.push::opP rpopP v'.pp x.pop::opP rattP v'.ap x.att::opP radvP v'.dp x.adv::R) h'→
   v'.ep=ptr nb→y.txns=x.txns→y.evs=x.evs→y.cache=x.cache→y.limbo=li→y.ripe=ri→y.ent=some n'→y.push=x.push→y.pop=x.pop→y.att=x.att→y.adv=x.adv→
   All (arP 103 a B::pts lb (lvRow U sz pre L post)::rtV b y v'::R) h':=by
  intro h' y v' ri li hp e0 e1 e2 e3 e4 e5 e6 e7 e8 e9 e10
  refine rts ?_
  rw [e0,e1,e2,e3,e4,e5,e6,e7,e8,e9,e10]
  have hp:=hn (hp.up 1)
  have hp:All (opP rentP (ptr nb) (some n')::_) h':=hp.head fun _ z=> ⟨nb,rfl,nf2,z⟩
  exact hn (hp.re 9 [2,1,3,4,5,6,7,8,0])
 have stay:¬ (n'.over=true∧code=0)→K (i64 code) h1:=by
  intro c
  rw [if_neg c] at hK
  refine hK {v with ep:=ptr nb} _ ⟨fun _=> ⟨by rw [hx];exact hpc,?_⟩,ht⟩ (back (v':={v with ep:=ptr nb}) (y:={x with ent:=some n'}) (ri:=x.ripe) (li:=x.limbo) ?_ rfl rfl rfl rfl rfl rfl rfl rfl rfl rfl rfl)
  ·show LkS _ _ x.next
   rw [hx]
   exact ⟨hs.1,by simp⟩
  ·exact hn (hp.re 3 [0,1,2])
 unfold S120_j3
 cases hov:n'.over with
 | false=>
   refine wk ?_
   exact stay (by rw [hov];simp)
 | true=>
   refine wk ?_
   refine ifV_cases (fun c=> ?_) fun c=> ?_
   ·rw [if_pos ⟨hov,c⟩] at hK
    subst c
    unfold rentRow at hp
    replace hp:=hn (hp.re 3 [2,1,0])
    refine wk ?_
    refine T_rTakeLimbo hp (fun h' hp=> All.rows (hn (hp.up 7))) o.li os.e0 (by have:=os.e1;omega) (by have:=o.limbo_small;omega) fun v1 v2 h3 hp=> ?_
    obtain ⟨ad1,ln1,cap1,rfl⟩:=All.isSlice hp
    obtain ⟨ad2,ln2,cap2,rfl⟩:=All.isSlice (hn (hp.up 1))
    replace hp:=hn (hp.re 3 [2,0,1])
    refine wk ?_
    refine st0 hp (rthRow x {v with ep:=ptr nb,rv:= .slice ad1 ln1 cap1}) rfl le_ rfl rfl fun h4 hp=> ?_
    unfold rthRow at hp
    refine wk ?_
    refine st0 hp (rthRow x {v with ep:=ptr nb,rv:= .slice ad1 ln1 cap1,lv:= .slice ad2 ln2 cap2}) rfl le_ rfl rfl fun h5 hp=> ?_
    unfold rthRow at hp
    refine wk ?_
    refine st0 hp (rthRow x {v with ep:=ptr nb,rv:= .slice ad1 ln1 cap1,lv:= .slice ad2 ln2 cap2,pc:=2}) rfl le_ rfl rfl fun h6 hp=> ?_
    refine hK {v with ep:=ptr nb,rv:= .slice ad1 ln1 cap1,lv:= .slice ad2 ln2 cap2,pc:=2} _ ⟨fun _=> ⟨rfl,hs.1⟩,ht⟩ (back (v':={v with ep:=ptr nb,rv:= .slice ad1 ln1 cap1,lv:= .slice ad2 ln2 cap2,pc:=2}) (y:={x with ent:=some n',ripe:=ripes x.limbo n'.e,limbo:=rests x.limbo n'.e,next:=some .fre}) ?_ rfl rfl rfl rfl rfl rfl rfl rfl rfl rfl rfl)
    exact hn (hp.re 11 [4,3,0,5,6,7,8,2,1])
   ·exact stay (fun q=> c q.2)
theorem T_rtjFre{s:Int}{r:List Int}{q:Push}(hp:All (arP 103 a A::pts lb (lvRow U sz pre L post)::rtV b x v::R) h)(hx:x.next=some .fre)(hpc:v.pc=2)(hs:LkS x v (some .fre))(ht:v.ts=x.ts∧v.tg=x.tg)
  (hq:x.push=some q) (qo:q.ok) (hr:x.ripe=s::r) (hl:x.ripe.length≤100000) (hpu:(q.step A).2.1=0)
  (k1:(q.step A).1.l.over=true→∀ v' h',Lkd ({x with push:=none,ripe:=r},0,(q.step A).2.2) v'→All (arP 103 a (q.step A).2.2::pts lb (lvRow U sz pre L post)::rtV b {x with push:=none,ripe:=r} v'::R) h'→K (i64 0) h')
  (k2:(q.step A).1.l.over=false→∀ v' h',Lkd ({x with push:=some (q.step A).1},0,(q.step A).2.2) v'→All (arP 103 a (q.step A).2.2::pts lb (lvRow U sz pre L post)::rtV b {x with push:=some (q.step A).1} v'::R) h'→K (i64 0) h'):
  S120_j2 (ptr b) (ptr a) (lvP pre.length lb) (i64 pick) h K:=by
 unfold S120_j2
 have hp:=rto hp
 unfold rthRow at hp
 refine wk ?_
 rw [hpc]
 refine wk ?_
 rw [hq] at hp
 obtain ⟨qb,e,hp1⟩:=opP_some (hn (hp.up 9))
 obtain ⟨qf,hp1⟩:=All.pure hp1
 have qf2:=Push.step_fits (A:=A) qf
 replace hp:=hn (hp1.re 3 [2,0,1])
 rw [e] at hp ⊢
 refine T_rPushStep hp qo qf fun h1 hp=> ?_
 generalize q.step A=z at hp k1 k2 qf2 hpu
 obtain ⟨q',code,B⟩:=z
 dsimp only at hp k1 k2 qf2 hpu ⊢
 subst hpu
 refine wk ?_
 cases hov:q'.l.over with
 | false=>
   refine wk ?_
   refine k2 hov {v with up:=ptr qb} _ ⟨fun _=> ⟨by show v.pc=actC x.next;rw [hx];exact hpc,by show LkS _ _ x.next;rw [hx];exact hs⟩,ht⟩ (rts (v:={v with up:=ptr qb}) ?_)
   have hp:=hn (hp.up 1)
   have hp:All (opP rpushP (ptr qb) (some q')::_) h1:=hp.head fun _ z=> ⟨qb,rfl,qf2,z⟩
   exact hn (hp.re 13 [2,1,3,4,5,6,7,8,9,0,10,11,12])
 | true=>
   refine wk ?_
   refine bs0 (size:=1) hp (([]:List Int).map encI) rfl rfl (by simp) (fun c hc=> by cases hc) fun nv h5 hp=> ?_
   replace hp:=hn (hp.up 3)
   refine wk ?_
   have hp2:=hn (hp.up 9)
   rw [hr] at hp2
   obtain ⟨v',d3,r3⟩:=All.rowTl hp2
   refine bnd_of d3 ?_
   refine ap0 (bytes:=8) (hn (hp.up 1)) r3 (encI_good _) (by decide) (by rw [hr] at hl;simp at hl ⊢;omega) fun rv' h6 hp=> ?_
   obtain ⟨ad0,ln0,cap0,rfl⟩:=All.isSlice hp
   replace hp:=hn (hp.re 2 [1,0])
   refine wk ?_
   refine st0 hp (rthRow x {v with up:=ptr qb,rv:= .slice ad0 ln0 cap0}) rfl le_ rfl rfl fun h7 hp=> ?_
   unfold rthRow at hp
   refine wk ?_
   refine st0 hp (rthRow x {v with up:= .pointer none,rv:= .slice ad0 ln0 cap0}) rfl le_ rfl rfl fun h8 hp=> ?_
   refine k1 hov {v with up:= .pointer none,rv:= .slice ad0 ln0 cap0} _ ⟨fun _=> ⟨by show v.pc=actC x.next;rw [hx];exact hpc,by show LkS _ _ x.next;rw [hx];exact hs⟩,ht⟩ (rts (v:={v with up:= .pointer none,rv:= .slice ad0 ln0 cap0}) (x:={x with push:=none,ripe:=r}) ?_)
   have hp:=opP_no (P:=rpushP) hp
   exact hn (hp.re 15 [1,3,5,6,7,8,9,2,11,0,12,13,14])
end
end Go.Proofs.YtfphpafkhljncaaGreat
namespace Go.Proofs.YtfphpafkhljncaaGreat
open Go GW Go.Proofs
attribute [local irreducible] bnd ldV stV ifV binV eqI
set_option maxRecDepth 20000
section
variable {a b lb sz : Nat} {U : TypeId} {pre post : List Value} {pick : Int} {A : Ar} {L : List Int} {R : List Part} {h : GH} {K : CC} {x : Th} {v : RV}
theorem T_rtjTri(hp:All (arP 103 a A::pts lb (lvRow U sz pre L post)::rtV b x v::R) h)(ho:∀ n,x.att=some n→n.ok)(hx:x.next=some .tri)(hpc:v.pc=4)(hs:LkS x v (some .tri))(ht:v.ts=x.ts∧v.tg=x.tg)
  (hK:∀ v' h',Lkd (x.tris A) v'→All (arP 103 a (x.tris A).2.2::pts lb (lvRow U sz pre L post)::rtV b (x.tris A).1 v'::R) h'→K (i64 (x.tris A).2.1) h'):
  S120_j2 (ptr b) (ptr a) (lvP pre.length lb) (i64 pick) h K:=by
 unfold S120_j2
 have hp0:=hp
 have hp:=rto hp
 unfold rthRow at hp
 refine wk ?_
 rw [hpc]
 refine wk ?_
 refine T_rtAttempt hp0 ho fun h1 hp=> ?_
 refine hK (v.tris x A) _ ?_ hp
 unfold RV.tris Th.tris
 cases he:x.att with
 | none=> exact ⟨fun q=> absurd (show (1800:Int)=0 from q) (by decide),ht⟩
 | some y=>
   dsimp only
   refine ⟨fun q=> ?_,rfl,rfl⟩
   have q:(y.step A).2.1=0:=q
   obtain ⟨h1,h2,h3⟩:=hs
   cases hov:(y.step A).1.over with
   | true=>
     simp only [q,and_self,if_true]
     exact ⟨rfl,h2,h3,rfl⟩
   | false=>
     simp only [Bool.false_eq_true,false_and,if_false,hx]
     exact ⟨hpc,h1,h2,h3⟩
theorem T_rtjTak(hp:All (arP 103 a A::pts lb (lvRow U sz pre L post)::rtV b x v::R) h)(o:x.ok)(live:x.evs ≠ [])(lo:Lok L)(hpc:v.pc=3)(hs:LkS x v (some .tak))(ht:v.ts=x.ts∧v.tg=x.tg)
  (hK:∀ v' h',Lkd (x.taks A L).1 v'→All (arP 103 a (x.taks A L).1.2.2::pts lb (lvRow U sz pre (x.taks A L).2 post)::rtV b (x.taks A L).1.1 v'::R) h'→K (i64 (x.taks A L).1.2.1) h'):
  S120_j1 (ptr b) (ptr a) (lvP pre.length lb) (i64 pick) h K:=by
 unfold S120_j1
 have hp0:=hp
 have hp:=rto hp
 unfold rthRow at hp
 refine wk ?_
 rw [hpc]
 refine wk ?_
 refine T_rtTaken hp0 rfl o live lo (fun hq s hl cv ap h1 hp=> ?_) fun hcn pp h1 hp=> ?_
 ·rw [taks_1 hq hl] at hK
  have sr:=o.ca s (List.mem_of_getLast? hl)
  refine T_rtjTri hp (fun n hn=> ?_) rfl rfl hs ht hK
  unfold Th.with_ at hn
  dsimp only at hn
  split at hn
  ·rename_i m;cases hn;exact At.new_ok m
  ·cases hn
 ·rw [taks_2 hcn] at hK
  unfold Th.taks2 at hK
  unfold S120_j2
  have o1:({x with pop:=some (x.pop.getD .new)}:Th).ok:=by
   refine {o with pop:=fun n hn=> ?_}
   cases hn
   cases hq:x.pop with
   | none=> exact Pop.new_ok
   | some q=> exact o.pop q hq
  have hp0:=hp
  have hp:=rto hp
  unfold rthRow at hp
  refine wk ?_
  rw [hpc]
  refine wk ?_
  generalize x.pop.getD .new=q at hp hp0 hK o1
  dsimp only at hK
  refine T_rtPopping (x:={x with pop:=some q}) (q:=q) hp0 rfl o1 live lo (fun c h2 hp=> ?_) (fun c1 c2 c3 h2 hp=> ?_) fun c1 c2 c3 ap h2 hp=> ?_
  ·rw [if_pos c] at hK
   refine hK {v with pp:=pp} _ ⟨fun _=> ⟨hpc,hs⟩,ht⟩ hp
  ·rw [if_neg (by rw [c1,c2];simp),if_pos c3] at hK
   refine hK {v with pp:= .pointer none,e:=1,pc:=6} _ ⟨fun _=> ⟨rfl,?_⟩,ht⟩ hp
   show (1:Int)=(if v.w then 0 else 1)∧_∧(v.w=true→_)
   rw [hs.1]
   exact ⟨rfl, .inl rfl,fun q=> by cases q⟩
  ·rw [if_neg (by rw [c1,c2];simp),if_neg c3] at hK
   exact hK {v with pp:= .pointer none,ap:=ap,pc:=4} _ ⟨fun _=> ⟨rfl,hs⟩,ht⟩ hp
theorem T_rtjRet(hp:All (arP 103 a A::pts lb (lvRow U sz pre L post)::rtV b x v::R) h)(o:x.ok)(hpc:v.pc=5)(hs:LkS x v (some .ret))(ht:v.ts=x.ts∧v.tg=x.tg)
  (hK:∀ v' h',Lkd (x.rets A) v'→All (arP 103 a (x.rets A).2.2::pts lb (lvRow U sz pre L post)::rtV b (x.rets A).1 v'::R) h'→K (i64 (x.rets A).2.1) h'):
  S120_j2 (ptr b) (ptr a) (lvP pre.length lb) (i64 pick) h K:=by
 unfold S120_j2
 have hA:=(arP.at hp).2
 have olim:=o.limbo_small
 have hp0:=hp
 have hp:=rto hp
 unfold rthRow at hp
 refine wk ?_
 rw [hpc]
 refine wk ?_
 refine L_refLoad hp0 (by decide) (by decide) fun h1 hp=> ?_
 clear hp0
 refine wk ?_
 refine T_repochOf (Ar.at_range hA 29) ?_
 refine wk ?_
 unfold Th.rets at hK
 cases hi:epIs (A.at 29) with
 | false=>
   rw [hi] at hK
   refine wk ?_
   exact hK v _ ⟨fun q=> absurd (show (1800:Int)=0 from q) (by decide),ht⟩ hp
 | true=>
   rw [hi,if_pos rfl] at hK
   refine wk ?_
   have hp:=rto hp
   unfold rthRow at hp
   refine wk ?_
   refine bs0 (size:=2) hp ([Ret.mk x.slot (valOf (A.at 29))].map Ret.enc) rfl rfl (by simp) (ret_good _) fun sv h2 hp=> ?_
   have r2:=hp.rows
   refine ap0 (hn (hp.up 7)) r2 (ret_good _) (by decide) (by simp only [List.length_map,List.length_cons,List.length_nil];omega) fun lv' h3 hp=> ?_
   obtain ⟨ad,ln,cap,rfl⟩:=All.isSlice hp
   rw [← List.map_append] at hp
   replace hp:=hn (hp.re 3 [2,0])
   refine wk ?_
   refine st0 hp (rthRow x {v with lv:= .slice ad ln cap}) rfl le_ rfl rfl fun h4 hp=> ?_
   unfold rthRow at hp
   refine wk ?_
   refine st0 hp (rthRow {x with slot:= -1} {v with lv:= .slice ad ln cap}) rfl le_ rfl rfl fun h5 hp=> ?_
   unfold rthRow at hp
   refine wk ?_
   refine st0 hp (rthRow {x with slot:= -1} {v with lv:= .slice ad ln cap,pc:=6}) rfl le_ rfl rfl fun h6 hp=> ?_
   obtain ⟨s1,s2,s3⟩:=hs
   refine hK {v with lv:= .slice ad ln cap,pc:=6} _ ⟨fun _=> ⟨rfl,?_, .inr s1,fun q=> ?_⟩,ht⟩ (rts (v:={v with lv:= .slice ad ln cap,pc:=6}) (hn (hp.re 7 [0,2,3,4,5,6,1])))
   ·show (if (x.att.map At.won).getD false=true then 0 else x.end_)=if v.w=true then 0 else v.e
    rw [s1,s2,s3]
   ·intro z
    have q:v.w=true:=q
    have z:x.att=none:=z
    rw [s3,z] at q
    cases q
theorem T_rtjLea(hp:All (arP 103 a A::pts lb (lvRow U sz pre L post)::rtV b x v::R) h)(o:x.ok)(hpc:v.pc=6)(hs:LkS x v (some .lea))(ht:v.ts=x.ts∧v.tg=x.tg)
  (hK:∀ v' h',Lkd (x.leas A) v'→All (arP 103 a (x.leas A).2.2::pts lb (lvRow U sz pre L post)::rtV b (x.leas A).1 v'::R) h'→K (i64 (x.leas A).2.1) h'):
  S120_j2 (ptr b) (ptr a) (lvP pre.length lb) (i64 pick) h K:=by
 unfold S120_j2
 have n0:=o.n0;have n1:=o.n1;have i0:=o.i0;have i1:=o.i1
 have hp:=rto hp
 unfold rthRow at hp
 refine wk ?_
 rw [hpc]
 refine wk ?_
 refine T_rNewAdvance (hn (hp.re 13 [0,1,2,3,4,5,6,7,8,9,10,11])) n0 n1 fun db h1 hp=> ?_
 replace hp:=hn (hp.re 2 [1,0])
 refine wk ?_
 refine st0 hp (rthRow x {v with dp:=ptr db}) rfl le_ rfl rfl fun h2 hp=> ?_
 unfold rthRow at hp
 refine wk ?_
 refine st0 hp (rthRow x {v with dp:=ptr db,pc:=7}) rfl le_ rfl rfl fun h3 hp=> ?_
 unfold rthRow at hp
 refine wk ?_
 replace hp:=hn (hp.up 2)
 refine T_rLeave hp i0 (show x.id < 4 by omega) fun h4 hp=> ?_
 refine hK {v with dp:=ptr db,pc:=7} _ ⟨fun _=> ⟨rfl,hs,by show some _ ≠ none;simp⟩,ht⟩ (rts (v:={v with dp:=ptr db,pc:=7}) ?_)
 have hp:=hn (hp.up 2)
 have hp:All (opP radvP (ptr db) (some (Adv.new x.n))::_) h4:=hp.head fun _ z=> ⟨db,rfl,0,fun _=> by show (0:Int)= -1 + 1;rfl,z⟩
 exact hn (hp.re 13 [2,1,3,4,5,6,7,8,9,10,11,12,0])
theorem T_rtjAdv(hp:All (arP 103 a A::pts lb (lvRow U sz pre L post)::rtV b x v::R) h)(o:x.ok)(hx:x.next=some .adv)(hpc:v.pc=7)(hs:LkS x v (some .adv))(ht:v.ts=x.ts∧v.tg=x.tg)
  (hK:∀ v' h',Lkd (x.advs A pick) v'→All (arP 103 a (x.advs A pick).2.2::pts lb (lvRow U sz pre L post)::rtV b (x.advs A pick).1 v'::R) h'→K (i64 (x.advs A pick).2.1) h'):
  S120_j2 (ptr b) (ptr a) (lvP pre.length lb) (i64 pick) h K:=by
 unfold S120_j2
 have live:=o.live (.inl (by rw [hx];simp))
 have oe:x.evs.length≤8:=by have:=o.evs;have:=thrMay_spec o.txns;omega
 have hp:=rto hp
 unfold rthRow at hp
 refine wk ?_
 rw [hpc]
 refine wk ?_
 obtain ⟨d,hd⟩:=Option.ne_none_iff_exists'.1 hs.2
 unfold Th.advs at hK
 rw [hd] at hp hK
 dsimp only at hK
 have od:=o.adv d hd
 obtain ⟨db,e,hp2⟩:=opP_some (hn (hp.up 12))
 obtain ⟨pc,hp2⟩:=All.ex hp2
 obtain ⟨pf,hp2⟩:=All.pure hp2
 replace hp:=hn (hp2.re 4 [2,0,1,3])
 rw [e] at hp ⊢
 refine T_rAdvStep hp od pf fun pc' h1 pf' hp=> ?_
 generalize d.step A=z at hp hK pf'
 obtain ⟨d',code,B⟩:=z
 dsimp only at hp hK pf' ⊢
 refine wk ?_
 have keep:All (arP 103 a B::pts lb (lvRow U sz pre L post)::rtV b {x with adv:=some d'} {v with dp:=ptr db}::R) h1:=by
  refine rts (v:={v with dp:=ptr db}) ?_
  have hp:=hn (hp.up 1)
  have hp:All (opP radvP (ptr db) (some d')::_) h1:=hp.head fun _ z=> ⟨db,rfl,pc',pf',z⟩
  exact hn (hp.re 13 [2,1,3,4,5,6,7,8,9,10,11,12,0])
 have stay:¬ (d'.over=true∧code=0)→K (i64 code) h1:=by
  intro c
  rw [if_neg c] at hK
  refine hK {v with dp:=ptr db} _ ⟨fun _=> ⟨by rw [hx];exact hpc,?_⟩,ht⟩ keep
  show LkS _ _ x.next
  rw [hx]
  exact ⟨hs.1,by show some _ ≠ none;simp⟩
 cases hov:d'.over with
 | false=>
   refine wk ?_
   exact stay (by rw [hov];simp)
 | true=>
   refine wk ?_
   refine ifV_cases (fun c=> ?_) fun c=> ?_
   ·rw [if_pos ⟨hov,c⟩] at hK
    subst c
    refine T_rtAnswer (v:={v with dp:=ptr db}) (x:={x with adv:=some d'}) keep o.t0 o.t1 o.k1 live oe (fun n hn=> (o.att n hn).2) hs.1.1 hs.1.2.1 hs.1.2.2 fun h3 hp=> ?_
    refine hK {v with dp:=ptr db,pc:=0} _ ?_ hp
    have:(({x with adv:=some d'}:Th).answer pick).next=none∧(({x with adv:=some d'}:Th).answer pick).ts=x.ts∧(({x with adv:=some d'}:Th).answer pick).tg=x.tg:=by
     unfold Th.answer;split <;> exact ⟨rfl,rfl,rfl⟩
    refine ⟨fun _=> ?_,?_,?_⟩
    ·dsimp only
     rw [this.1]
     exact ⟨rfl,trivial⟩
    ·exact ht.1.trans this.2.1.symm
    ·exact ht.2.trans this.2.2.symm
   ·exact stay (fun q=> c q.2)
end
end Go.Proofs.YtfphpafkhljncaaGreat
namespace Go.Proofs.YtfphpafkhljncaaGreat
open Go GW Go.Proofs
attribute [local irreducible] bnd ldV stV ifV binV eqI
set_option maxRecDepth 20000
structure Lk(x:Th)(v:RV):Prop where
 pc:v.pc=if x.dead then 8 else actC x.next
 st:x.dead=false→LkS x v x.next
def Nopu(x:Th)(A:Ar):Prop:=x.next=some .fre→∀ s r,x.cached.ripe=s::r→((x.cached.push.getD (.new s)).step A).2.1=0
section
variable {a b lb sz : Nat} {U : TypeId} {pre post : List Value} {pick : Int} {A : Ar} {L : List Int} {R : List Part} {h : GH} {K : CC} {x : Th} {v : RV}
theorem T_rtAct{act:Act}(hp:All (arP 103 a A::pts lb (lvRow U sz pre L post)::rtV b x v::R) h)(o:x.ok)(hx:x.next=some act)(live:x.evs ≠ [])(lo:Lok L)(hpc:v.pc=actC (some act))(hs:LkS x v (some act))(ht:v.ts=x.ts∧v.tg=x.tg)(hpu:Nopu x A)
  (hK:∀ v' h',Lkd (x.act A L pick act).1 v'→All (arP 103 a (x.act A L pick act).1.2.2::pts lb (lvRow U sz pre (x.act A L pick act).2 post)::rtV b (x.act A L pick act).1.1 v'::R) h'→K (i64 (x.act A L pick act).1.2.1) h'):
  T Pg 120 [ptr b,ptr a,lvP pre.length lb,i64 pick] h K:=by
 apply S120_T
 unfold S120
 have hp0:=hp
 have hp:=rto hp
 unfold rthRow at hp
 refine wk ?_
 rw [hpc]
 have j2:actC (some act) ≠ 2→actC (some act) ≠ 3→S120_j2 (ptr b) (ptr a) (lvP pre.length lb) (i64 pick) h K→S120_j1 (ptr b) (ptr a) (lvP pre.length lb) (i64 pick) h K:=by
  intro c2 c3 k
  unfold S120_j1
  refine wk ?_
  rw [hpc]
  exact ifV_n c3 k
 unfold Th.act at hK
 cases act with
 | ent=> refine wk ?_;exact j2 (by decide) (by decide) (T_rtjEnt hp0 o hx hpc hs ht hK)
 | tri=> refine wk ?_;exact j2 (by decide) (by decide) (T_rtjTri hp0 (fun n hn=> (o.att n hn).1) hx hpc hs ht hK)
 | ret=> refine wk ?_;exact j2 (by decide) (by decide) (T_rtjRet hp0 o hpc hs ht hK)
 | lea=> refine wk ?_;exact j2 (by decide) (by decide) (T_rtjLea hp0 o hpc hs ht hK)
 | adv=> refine wk ?_;exact j2 (by decide) (by decide) (T_rtjAdv hp0 o hx hpc hs ht hK)
 | tak=> refine wk ?_;exact T_rtjTak hp0 o live lo hpc hs ht hK
 | fre=>
   refine wk ?_
   have oc:=Th.cached_ok o
   have lc:x.cached.evs ≠ []:=by unfold Th.cached;split <;> exact live
   have hxc:x.cached.next=some .fre:=by unfold Th.cached;split <;> exact hx
   have htc:v.ts=x.cached.ts∧v.tg=x.cached.tg:=by unfold Th.cached;split <;> exact ht
   have hec:x.cached.end_=2:=by unfold Th.cached;split <;> exact hs.2.2
   have hsc:LkS x.cached v (some .fre):=⟨hs.1,hs.2.1,hec⟩
   have ol:x.cached.ripe.length≤100000:=by
    have h1:=oc.cap;have h2:=oc.evs;have h3:=thrMay_spec oc.txns;have h4:=oc.t1;have h5:=oc.k1
    have f:flagOf x.cached.next≤1:=by unfold flagOf;split <;> omega
    omega
   have hpu:=hpu hx
   refine T_rtCached hp0 o (fun hr cv rv h1 hp=> ?_) fun s r hr cv rv up h1 hp=> ?_
   ·dsimp only at hK
    unfold Th.fres at hK
    dsimp only at hK
    rw [hr] at hK
    exact T_rtjTak (v:={v with cv:=cv,rv:=rv,pc:=3}) hp oc lc lo rfl hsc htc hK
   ·have hpu:=hpu s r hr
    dsimp only at hK
    unfold Th.fres at hK
    dsimp only at hK
    have po:(x.cached.push.getD (.new s)).ok:=by
     have hm:=oc.ri s (by rw [hr];simp)
     cases hq:x.cached.push with
     | none=> exact Push.new_ok hm.1 hm.2
     | some q=> exact oc.push q hq
    generalize x.cached=y at hp hr hK hpu oc lc hxc htc hsc ol po
    have hp0:=hp
    have hp:=rto hp
    unfold rthRow at hp
    unfold S120_j1
    refine wk ?_
    rw [hpc]
    refine wk ?_
    rw [hr] at hK
    dsimp only at hK
    generalize y.push.getD (.new s)=q at hp0 hK hpu po
    refine T_rtjFre (x:={y with push:=some q}) (v:={v with cv:=cv,rv:=rv,up:=up}) hp0 hxc hpc hsc htc rfl po hr ol hpu (fun c v' h2 l hp=> ?_) fun c v' h2 l hp=> ?_
    ·rw [if_pos ⟨c,hpu⟩] at hK
     exact hK v' _ l hp
    ·rw [if_neg (by rw [c];simp), ← hr] at hK
     have:=hK v' _ ⟨fun _=> l.1 rfl,l.2⟩ hp
     rw [hpu] at this
     exact this
theorem Th.act_dead{act:Act}(hx:x.next=some act):(x.act A L pick act).1.1.dead=x.dead:=by
 by_cases c:act= .adv
 ·subst c
  show (x.advs A pick).1.dead=x.dead
  unfold Th.advs
  split
  ·rfl
  ·split
   ·unfold Th.answer;split <;> rfl
   ·rfl
 ·exact (Th.act_next hx c).2
theorem Nopu.z(p:Nopu x A):Nopu x.z A:=by
 have e:x.z.cached.ripe=x.cached.ripe∧x.z.cached.push=x.cached.push:=by
  cases hq:x.push with
  | none=>
    have hz:x.z.push=none:=hq
    unfold Th.cached
    rw [hz,hq]
    exact ⟨rfl,by dsimp only;first | done | rw [hz,hq]⟩
  | some q=>
    have hz:x.z.push=some q:=hq
    unfold Th.cached
    rw [hz,hq]
    exact ⟨rfl,by dsimp only;first | done | rw [hz,hq]⟩
 obtain ⟨e1,e2⟩:=e
 intro h1 s r h2
 rw [e2]
 exact p h1 s r (by rw [← e1];exact h2)
theorem Th.begin_fields(h:(x.begin pick).2=true):(x.begin pick).1.next=some .ent∧(x.begin pick).1.end_=2∧(x.begin pick).1.ent ≠ none∧(x.begin pick).1.dead=x.dead:=by
 unfold Th.begin at h ⊢
 split
 ·rename_i c;rw [if_pos c] at h;cases h
 ·rename_i c
  rw [if_neg c] at h
  split
  ·rename_i c2;rw [if_pos c2] at h;cases h
  ·exact ⟨rfl,rfl,by simp,rfl⟩
theorem Th.begin_same(h:(x.begin pick).2=false):(x.begin pick).1.next=x.next∧(x.begin pick).1.dead=x.dead:=by
 unfold Th.begin at h ⊢
 split
 ·exact ⟨rfl,rfl⟩
 ·rename_i c
  rw [if_neg c] at h
  split
  ·exact ⟨rfl,rfl⟩
  ·rename_i c2;rw [if_neg c2] at h;cases h
theorem Th.begin_ts:(x.begin pick).1.ts=x.ts∧(x.begin pick).1.tg=x.tg:=by
 unfold Th.begin
 split
 ·exact ⟨rfl,rfl⟩
 ·split <;> exact ⟨rfl,rfl⟩
theorem T_rtStep(hp:All (arP 103 a A::pts lb (lvRow U sz pre L post)::rtV b x v::R) h)(o:x.ok)(lk:Lk x v)(lo:Lok L)(hpu:x.dead=false→Nopu x A)
  (hK:∀ v' h',Lk (x.step A L pick).1 v'→(x.dead=false→v'.ts=(x.step A L pick).1.ts∧v'.tg=(x.step A L pick).1.tg)→All (arP 103 a (x.step A L pick).2.2.2.1::pts lb (lvRow U sz pre (x.step A L pick).2.2.2.2 post)::rtV b (x.step A L pick).1 v'::R) h'→K (.tuple #[.bool (x.step A L pick).2.1,i64 (x.step A L pick).2.2.1]) h'):
  T Pg 96 [ptr b,ptr a,lvP pre.length lb,i64 pick] h K:=by
 apply S96_T
 unfold S96
 have hp:=rto hp
 unfold rthRow at hp
 refine wk ?_
 refine st0 hp (rthRow x {v with ts:= -1}) rfl le_ rfl rfl fun h1 hp=> ?_
 unfold rthRow at hp
 refine wk ?_
 refine st0 hp (rthRow x {v with ts:= -1,tg:=0}) rfl le_ rfl rfl fun h2 hp=> ?_
 have hp0:=rts (v:={v with ts:= -1,tg:=0}) hp
 unfold rthRow at hp
 refine wk ?_
 have hpc:=lk.pc
 cases hd:x.dead with
 | true=>
   rw [hd,if_pos rfl] at hpc
   rw [Th.step_dead hd] at hK
   rw [hpc]
   refine wk ?_
   exact hK {v with ts:= -1,tg:=0} _ ⟨lk.pc,fun q=> by rw [hd] at q;cases q⟩ (fun q=> by rw [hd] at q;cases q) hp0
 | false=>
   rw [hd,if_neg (by decide)] at hpc
   have hs:=lk.st hd
   have hpu:=hpu hd
   have o1:x.z.ok:={o with}
   -- an access
   have j1:∀ (y:Th) (act:Act) (v1:RV) h',y.ok→y.next=some act→y.dead=false→v1.pc=actC (some act)→LkS y v1 (some act)→v1.ts=y.ts∧v1.tg=y.tg→Nopu y A→All (arP 103 a A::pts lb (lvRow U sz pre L post)::rtV b y v1::R) h'→
     (∀ v' h'',Lk (Th.ended (y.act A L pick act)).1 v'→v'.ts=(Th.ended (y.act A L pick act)).1.ts∧v'.tg=(Th.ended (y.act A L pick act)).1.tg→All (arP 103 a (Th.ended (y.act A L pick act)).2.2.2.1::pts lb (lvRow U sz pre (Th.ended (y.act A L pick act)).2.2.2.2 post)::rtV b (Th.ended (y.act A L pick act)).1 v'::R) h''→K (.tuple #[.bool (Th.ended (y.act A L pick act)).2.1,i64 (Th.ended (y.act A L pick act)).2.2.1]) h'')→
     S96_j1 (ptr b) (ptr a) (lvP pre.length lb) (i64 pick) h' K:=by
    intro y act v1 h' oy hy hyd p1 p2 p3 p4 hp hK
    unfold S96_j1
    have live:=oy.live (.inl (by rw [hy];simp))
    have hdd:(y.act A L pick act).1.1.dead=y.dead:=Th.act_dead hy
    refine T_rtAct hp oy hy live lo p1 p2 p3 p4 fun v' h3 l hp=> ?_
    generalize y.act A L pick act=r at hp l hK hdd
    unfold Th.ended at hK
    refine bnd_of (eqI_int _ _ _) ?_
    refine ifN_cases (fun c=> ?_) fun c=> ?_
    ·rw [if_neg c] at hK
     have hp:=rto hp
     unfold rthRow at hp
     refine wk ?_
     refine st0 hp (rthRow r.1.1 {v' with pc:=8}) rfl le_ rfl rfl fun h4 hp=> ?_
     exact hK {v' with pc:=8} _ ⟨rfl,fun q=> by cases q⟩ l.2 (rts (x:={r.1.1 with dead:=true}) (v:={v' with pc:=8}) hp)
    ·rw [if_pos c] at hK
     refine hK v' _ ⟨?_,fun _=> (l.1 c).2⟩ l.2 hp
     rw [hdd,hyd]
     exact (l.1 c).1
   rw [hpc]
   cases hnx:x.next with
   | some act=>
     rw [Th.step_some hd hnx] at hK
     rw [hnx] at hs
     have ne8:actC (some act) ≠ 8:=by cases act <;> decide
     have ne0:actC (some act) ≠ 0:=by cases act <;> decide
     refine ifV_n ne8 ?_
     refine wk ?_
     rw [hpc,hnx]
     refine ifV_n ne0 ?_
     exact j1 x.z act {v with ts:= -1,tg:=0} _ o1 hnx hd (by rw [hpc,hnx]) (by cases act <;> exact hs) ⟨rfl,rfl⟩ hpu.z hp0 (fun v' h'' q1 q2=> hK v' h'' q1 (fun _=> q2))
   | none=>
     rw [Th.step_none hd hnx] at hK
     refine wk ?_
     rw [hpc,hnx]
     refine wk ?_
     have bts:=Th.begin_ts (x:=x.z) (pick:=pick)
     refine T_rtBegin (x:=x.z) (v:={v with ts:= -1,tg:=0}) hp0 o1 (by rw [hpc,hnx];rfl) (fun hb h3 hp=> ?_) fun hb ev ep h3 hp=> ?_
     ·rw [hb,if_neg (by decide)] at hK
      have hbs:=Th.begin_same hb
      refine wk ?_
      refine hK {v with ts:= -1,tg:=0} _ ⟨?_,fun _=> ?_⟩ (fun _=> ⟨bts.1.symm,bts.2.symm⟩) hp
      ·rw [hbs.1,hbs.2];exact lk.pc
      ·show LkS _ _ (x.z.begin pick).1.next
       rw [hbs.1]
       show LkS _ _ x.next
       rw [hnx];trivial
     ·rw [hb,if_pos rfl] at hK
      have hbf:=Th.begin_fields hb
      have hbo:=(Th.begin_ok (pick:=pick) o1 hnx)
      refine wk ?_
      exact j1 (x.z.begin pick).1 .ent {v with ts:= -1,tg:=0,ev:=ev,ep:=ep,w:=false,e:=2,pc:=1} _ hbo.1 hbf.1 (hbf.2.2.2.trans hd) rfl ⟨⟨rfl,rfl,hbf.2.1⟩,hbf.2.2.1⟩ ⟨bts.1.symm,bts.2.symm⟩ (fun q=> by rw [hbf.1] at q;cases q) hp (fun v' h'' q1 q2=> hK v' h'' q1 (fun _=> q2))
end
end Go.Proofs.YtfphpafkhljncaaGreat
namespace Go.Proofs.YtfphpafkhljncaaGreat
open Go GW Go.Proofs
attribute [local irreducible] bnd ldV stV ifV binV eqI
set_option maxRecDepth 20000
def rthP(b:Nat)(x:Th):Part:=fun h=> ∃ v,Lk x v∧rtV b x v h
def rmcRow(p:Plan)(pv:VV)(a:Nat)(tv:VV)(L:List Int)(picks:Int)(xv:VV):GObj:=lvRow 100 19 [pv,i64 p.attempts, .bool p.polite,ptr a,tv] L [i64 picks,xv]
def rmcP(p:Plan)(pv:VV)(b:Nat)(M:Mc):Part:=fun h=> ∃ (a:Nat) (bs:List Nat) (tv xv:VV),All [pts b (rmcRow p pv a tv M.L M.picks xv),arP 103 a M.A,rowP 1 tv (bs.map encP),rowP 8 xv (M.ts.map Touch.enc),eachP rthP bs M.ths] h
section
variable {R : List Part} {h g : GH} {K : CC} {b : Nat} {x : Th} {v : RV} {id n k : Int} {pol : Bool} {tsv : VV} {ts : List (List Op)} {M : Mc} {p : Plan} {pv : VV}
theorem rthP_open{C:Prop}(hp:All (rthP b x::R) h)(k:∀ v,Lk x v→All (rtV b x v::R) h→C):C:=by
 obtain ⟨v,hp⟩:=All.ex hp
 obtain ⟨l,hp⟩:=All.pure hp
 exact k v l hp
theorem rthP_shut(l:Lk x v)(hp:All (rtV b x v::R) h):All (rthP b x::R) h:=hp.head fun _ z=> ⟨v,l,z⟩
theorem rmcP_open{C:Prop}(hp:All (rmcP p pv b M::R) h)(k:∀ a bs tv xv,All (pts b (rmcRow p pv a tv M.L M.picks xv)::arP 103 a M.A::rowP 1 tv (bs.map encP)::rowP 8 xv (M.ts.map Touch.enc)::eachP rthP bs M.ths::R) h→C):C:=by
 obtain ⟨a,hp⟩:=All.ex hp
 obtain ⟨bs,hp⟩:=All.ex hp
 obtain ⟨tv,hp⟩:=All.ex hp
 obtain ⟨xv,hp⟩:=All.ex hp
 exact k a bs tv xv (All.flat hp)
theorem rmcP_shut{a:Nat}{bs:List Nat}{tv xv:VV}(hp:All (pts b (rmcRow p pv a tv M.L M.picks xv)::arP 103 a M.A::rowP 1 tv (bs.map encP)::rowP 8 xv (M.ts.map Touch.enc)::eachP rthP bs M.ths::R) h):All (rmcP p pv b M::R) h:=
 (All.fold (l:= [_,_,_,_,_]) hp).head fun h1 z=> ⟨a,bs,tv,xv,z⟩
theorem T_rthNew(hp:All R h){cs0:List (List Value)}(hs:∀ h',All R h'→tv1 tsv cs0 ts h')(m:Th.may id n k ts)
  (ky:∀ b h',All (rthP b (.new id n k pol ts)::R) h'→K (.tuple #[ptr b,i64 0]) h'):T Pg 93 [i64 id,i64 n,i64 k, .bool pol,tsv] h K:=by
 apply S93_T
 unfold S93
 obtain ⟨m1,m2,m3,m4⟩:=m
 have hts:=thrMay_spec m4
 obtain ⟨ad,ln,cap,etv⟩:∃ ad ln cap,tsv= .slice ad ln cap:=by
  obtain ⟨⟨a,n,cap,e,_⟩,_⟩:=hs _ hp
  exact ⟨_,_,_,e⟩
 refine bs0 (size:=1) hp [[tsv]] (by rw [etv];rfl) rfl (by simp) (fun c hc=> by rw [List.mem_singleton.1 hc,etv];exact ⟨rfl,rfl⟩) fun qv h1 hp=> ?_
 obtain ⟨pa,pl,pc,rfl⟩:=All.isSlice hp
 refine bnd_of rfl ?_
 refine nwst hp (.row 67 (planC (.slice pa pl pc) ⟨[ts],k,pol⟩) 3 true) rfl rfl rfl rfl fun d h2 hp=> ?_
 unfold planC at hp
 refine wk ?_
 rw [decide_eq_false (by omega:¬ n < 1)]
 refine wk ?_
 rw [decide_eq_false (by omega:¬ 4 < n)]
 refine wk ?_
 rw [decide_eq_false (by omega:¬ id < 0)]
 refine wk ?_
 rw [decide_eq_false (by omega:¬ n≤id)]
 refine wk ?_
 refine la0 hp (c:=planC (.slice pa pl pc) ⟨[ts],k,pol⟩) le_ rfl ?_
 have thr:threadsAt h2 (.slice pa pl pc) [ts]:=⟨[[tsv]],All.rows (hn (hp.up 1)),rfl,fun i u v hu hv=> by
  cases i with
  | zero=>
    simp at hu hv;subst hu;subst hv
    obtain ⟨r1,r2⟩:=hs _ hp.tail.tail
    exact ⟨tsv,cs0,rfl,r1,r2⟩
  | succ i=> simp at hu⟩
 refine T_PlanMay (p:=⟨[ts],k,pol⟩) thr ?_
 have hm:(Plan.mk [ts] k pol).may=true:=by
  unfold Plan.may
  simp only [List.length_cons,List.length_nil,List.all_cons,List.all_nil,Bool.and_true,Bool.and_eq_true,decide_eq_true_eq,m4]
  omega
 rw [hm]
 refine wk ?_
 replace hp:=hp.tail.tail
 unfold S93_j1
 refine bnd_of rfl ?_
 let V (tv:VV):RV:=⟨tv, .slice none 0 0, .slice none 0 0,0, .slice none 0 0, .pointer none, .pointer none, .pointer none, .pointer none, .pointer none,0,false, .slice none 0 0, -1,0⟩
 refine nw hp (rthRow (Th.new id n k pol ts) (V nS_)) rfl fun b h2 hp=> ?_
 have hlen:∀ {h'},All R h'→lnV tsv=some (i64 ts.length):=fun hr=> (tv1_len (hs _ hr)).1
 have hln:=hlen hp.tail
 refine Lfp_fam (ι:=Nat × Value × List (List Value)) (fun p=> [tsv,ptr b,i64 p.1]) (fun p h'=> p.1≤ts.length∧All (pts b (rthRow (Th.new id n k pol ts) (V p.2.1))::rowP 1 p.2.1 p.2.2::opsC p.2.2 (ts.take p.1)::R) h') (fun p=> ts.length - p.1) ?_ (0, .slice none 0 0, []) h2 ⟨by simp,?_⟩
 rotate_left
 ·have z1:=All.emp_cons (P:=opsC [] (ts.take 0)) hp ⟨rfl,fun i u v hu=> by simp at hu⟩
  have z2:=All.emp_cons (P:=rowP 1 nS_ []) z1 (rowP_nil _ _)
  exact hn (z2.re 3 [2,0,1])
 clear hp
 rintro ⟨i,tv,cs⟩ h3 X ⟨hi,hp⟩ again
 simp only at hi hp
 simp only [tup_zero,tup_succ]
 have hcl:cs.length=i:=by
  have:=(hn (hp.up 2)).mono1 (P:=opsC cs (ts.take i)) (fun _ _ l p=> p.mono fun _ _ q=> q.le l)
  rw [this.1,List.length_take];omega
 refine bnd_of hln ?_
 refine wk ?_
 refine ifV_cases (fun c=> ?_) fun c=> ?_
 ·obtain ⟨t,ht⟩:∃ t,ts[i]?=some t:=⟨_,List.getElem?_eq_getElem (by omega)⟩
  have htm:=hts.2 t (List.mem_of_getElem? ht)
  obtain ⟨ct,hct,w,rfl,hw⟩:=(hs _ hp.tail.tail.tail).2.get ht
  obtain ⟨b0,o0,j1,j2,_⟩:=(hs _ hp.tail.tail.tail).1.fld hct .i64
  have hrow:∀ h',All R h'→rowsAt h' 4 w (t.map Op.enc):=fun h' hr=> by
   obtain ⟨c2,hc2,w2,e2,r2⟩:=(hs _ hr).2.get ht
   rw [hct] at hc2
   cases hc2;cases e2;exact r2
  unfold rthRow at hp
  refine wk ?_
  refine bnd_of j1 (bnd_of rfl (bnd_of (j2 0 w rfl) ?_))
  have ht2:t.length≤1000:=by
   unfold Txn.may at htm
   simp only [Bool.and_eq_true,decide_eq_true_eq] at htm
   omega
  refine bs0 (size:=4) hp (([]:List Op).map Op.enc) rfl rfl (by simp) (fun c hc=> by cases hc) fun nv h4 hp=> ?_
  refine ap0 (size:=4) hp (hrow _ hp.tail.tail.tail.tail) (Op.all_good _) (by decide) (by simp;omega) fun nv h5 hp=> ?_
  obtain ⟨na,nl,nc,rfl⟩:=All.isSlice hp
  rw [List.map_nil,List.nil_append] at hp
  replace hp:=hn (hp.re 4 [1,2,0,3])
  refine ⟨wq0_ hp rfl,?_⟩
  refine bnd_of rfl ?_
  refine bs0 (size:=1) hp [[.slice na nl nc]] rfl rfl (by simp) (fun c hc=> by rw [List.mem_singleton.1 hc];exact ⟨rfl,rfl⟩) fun sv h6 hp=> ?_
  have r2:=hp.rows
  refine ap0 (hn (hp.up 2)) r2 (fun c hc=> by rw [List.mem_singleton.1 hc];exact ⟨rfl,rfl⟩) (by decide) (by simp only [List.length_cons,List.length_nil];omega) fun tv' h7 hp=> ?_
  obtain ⟨ta,tl,tc,rfl⟩:=All.isSlice hp
  replace hp:=hn (hp.re 5 [2,0,3,4])
  refine wk ?_
  refine st0 hp (rthRow (Th.new id n k pol ts) (V (.slice ta tl tc))) rfl le_ rfl rfl fun h8 hp=> ?_
  refine wk ?_
  refine again (i + 1, .slice ta tl tc,cs ++ [[.slice na nl nc]]) _ ⟨by simp only;omega,?_⟩ (by simp only;omega)
  have hp:=opsC_snoc (hn (hp.re 4 [2,3,0,1]))
  have e1:ts.take i ++ [t]=ts.take (i + 1):=by rw [List.take_add_one,ht];rfl
  rw [e1] at hp
  exact hn (hp.re 3 [1,2,0])
 ·have hie:i=ts.length:=by omega
  subst hie
  rw [List.take_length] at hp
  refine ky b _ (rthP_shut (v:=V tv) ⟨rfl,fun _=> trivial⟩ (rtV_shut ?_))
  have hp:=All.fold (l:= [rowP 1 tv cs,opsC cs ts]) (hn (hp.re 3 [1,2,0]))
  have hp:=hp.head (Q:=tvP tv ts) fun h1 z=> ⟨cs,All.rows z,z.tail.mono1 (P:=opsC cs ts) (fun _ _ l p=> p.mono fun _ _ q=> q.le l)⟩
  have hp:=opP_no (P:=radvP) hp
  have hp:=opP_no (P:=rattP) hp
  have hp:=opP_no (P:=rpopP) hp
  have hp:=opP_no (P:=rpushP) hp
  have hp:=opP_no (P:=rentP) hp
  have hp:=hp.emp_cons (P:=rowP 1 nS_ []) (rowP_nil _ _)
  have hp:=hp.emp_cons (P:=rowP 2 nS_ []) (rowP_nil _ _)
  have hp:=hp.emp_cons (P:=rowP 1 nS_ []) (rowP_nil _ _)
  have hp:=hp.emp_cons (P:=evsP nS_ []) ⟨[],All.two ⟨rfl,rowP_nil _ _⟩ fun i e w h=> by simp at h⟩
  exact hn (hp.re 11 [10,9,0,1,2,3,4,5,6,7,8])
end
end Go.Proofs.YtfphpafkhljncaaGreat
namespace Go.Proofs.YtfphpafkhljncaaGreat
open Go GW Go.Proofs
attribute [local irreducible] bnd ldV stV ifV binV eqI
set_option maxRecDepth 20000
section
variable {R : List Part} {h g : GH} {K : CC} {b : Nat} {x : Th} {M : Mc} {p : Plan} {v pv : VV}
theorem T_rmNew(hp:All R h)(hg:∀ h',All R h'→HLe g h')(ht:threadsAt g v p.threads)(kn:p.may=false→∀ h',All R h'→K (.tuple #[.pointer none,i64 1900]) h')
  (ky:p.may=true→∀ b h',All (rmcP p v b (Mc.new p)::R) h'→K (.tuple #[ptr b,i64 0]) h'):T Pg 55 [.agg (planC v p).toArray] h K:=by
 apply S55_T
 unfold S55
 refine nw hp (.row 67 (planC v p) 3 true) rfl fun d h1 hp=> ?_
 refine la0 hp (c:=planC v p) le_ rfl ?_
 refine T_PlanMay (ht.le (hg _ hp.tail)) ?_
 refine wk ?_
 cases hm:p.may with
 | false=> refine wk ?_;exact kn hm _ hp.tail
 | true=>
   refine wk ?_
   have ky:=ky hm
   obtain ⟨m1,m2,m3,m4,m5⟩:=Plan.may_spec hm
   refine la0 hp (c:=planC v p) le_ rfl ?_
   refine T_refArenaNew hp fun a h2 hp=> ?_
   refine hla1 hp (c:=planC v p) le_ rfl ?_
   refine bnd_of rfl ?_
   refine nw hp (rmcRow p v a nS_ (List.replicate 12 0) 0 nS_) rfl fun b h3 hp=> ?_
   replace hp:=hn (hp.re 3 [2,0,1])
   unfold planC at hp
   have hlen:lnV v=some (i64 p.threads.length):=by
    obtain ⟨es,r,a2⟩:=ht
    have:=r.len
    rw [a2.1] at this;exact this
   refine Lfp_fam (ι:=Nat × List Nat × Value) (fun q=> [ptr d,ptr b,i64 q.1]) (fun q h'=> q.1≤p.threads.length∧q.2.1.length=q.1∧All (pts d (.row 67 [v,i64 p.attempts, .bool p.polite] 3 true)::pts b (rmcRow p v a q.2.2 (List.replicate 12 0) 0 nS_)::arP 103 a newAr::rowP 1 q.2.2 (q.2.1.map encP)::eachP rthP q.2.1 (Mc.threads 0 p.threads.length p.attempts p.polite (p.threads.take q.1))::R) h') (fun q=> p.threads.length - q.1) ?_ (0, [], .slice none 0 0) h3 ⟨by simp,rfl,?_⟩
   rotate_left
   ·have z1:=All.emp_cons (P:=eachP rthP [] (Mc.threads 0 p.threads.length p.attempts p.polite (p.threads.take 0))) hp (by exact trivial)
    have z2:=All.emp_cons (P:=rowP 1 nS_ []) z1 (rowP_nil _ _)
    exact hn (z2.re 5 [2,3,4,0,1])
   clear hp
   rintro ⟨i,bs,tv⟩ h4 X ⟨hi,hbl,hp⟩ again
   simp only at hi hbl hp
   simp only [tup_zero,tup_succ]
   refine wk ?_
   refine bnd_of hlen ?_
   refine wk ?_
   refine ifV_cases (fun c=> ?_) fun c=> ?_
   ·obtain ⟨t,hti⟩:∃ t,p.threads[i]?=some t:=⟨_,List.getElem?_eq_getElem (by omega)⟩
    obtain ⟨es0,r0,a0⟩:=ht
    obtain ⟨c0,hc0,w,cs,rfl,rw_,aw⟩:=a0.get hti
    have hgR:∀ {h'} {P1 P2 P3 P4 P5:Part},All (P1::P2::P3::P4::P5::R) h'→HLe g h':=fun hp=> hg _ hp.tail.tail.tail.tail.tail
    obtain ⟨q,d1,d2⟩:=(r0.le (hgR hp)).get1 hc0 .i64
    refine wk ?_
    refine bnd_of hlen ?_
    refine wk ?_
    refine bnd_of d1 (bnd_of d2 ?_)
    refine T_rthNew (ts:=t) (cs0:=cs) hp (fun h' hp=> ⟨rw_.le (hgR hp),aw.mono fun x y z=> z.le (hgR hp)⟩) ⟨⟨by omega,by omega⟩,⟨by omega,by omega⟩,⟨m3,m4⟩,m5 t (List.mem_of_getElem? hti)⟩ fun tb h5 hp=> ?_
    replace hp:=hn (hp.re 3 [2,1,0])
    unfold rmcRow lvRow at hp
    refine wk ?_
    replace hp:=hn (hp.re 5 [4,0,1,2,3])
    refine bs0 (size:=1) hp ([tb].map encP) rfl rfl (by simp) (encP_good _) fun sv h6 hp=> ?_
    have r2:=hp.rows
    refine ap0 (hn (hp.up 1)) r2 (encP_good _) (by decide) (by simp only [List.length_map,List.length_cons,List.length_nil];omega) fun tv' h7 hp=> ?_
    obtain ⟨ad,ln,cap,rfl⟩:=All.isSlice hp
    rw [← List.map_append] at hp
    replace hp:=hn (hp.re 7 [2,0,3,4,5,6])
    refine wk ?_
    refine st0 hp (rmcRow p v a (.slice ad ln cap) (List.replicate 12 0) 0 nS_) rfl (by simp) rfl rfl fun h8 hp=> ?_
    refine wk ?_
    refine again (i + 1,bs ++ [tb], .slice ad ln cap) _ ⟨by simp only;omega,by simp [hbl],?_⟩ (by simp only;omega)
    have hp:=eachP_snoc (hn (hp.re 6 [3,5,0,1,2,4]))
    have e1:p.threads.take (i + 1)=p.threads.take i ++ [t]:=by rw [List.take_add_one,hti];rfl
    have e2:Mc.threads 0 p.threads.length p.attempts p.polite (p.threads.take i) ++ [Th.new i p.threads.length p.attempts p.polite t]=Mc.threads 0 p.threads.length p.attempts p.polite (p.threads.take (i + 1)):=by
     rw [e1,Mc.threads_snoc,List.length_take];congr 3;omega
    rw [e2] at hp
    exact hn (hp.re 5 [3,1,4,2,0])
   ·have hie:i=p.threads.length:=by omega
    subst hie
    rw [List.take_length] at hp
    have z1:=All.emp_cons (P:=rowP 8 nS_ []) hp (rowP_nil _ _)
    exact ky b _ (rmcP_shut (M:=Mc.new p) (hn (z1.re 6 [2,3,4,0,5])))
theorem rtV_dec{e:Event}{s pick:Int}(hs:x.slot=s)(he:x.evs.getLast?=some e){v:RV}(l:Lk x v):Lk (x.decide s pick) v:=by
 unfold Th.decide
 rw [if_pos hs]
 exact ⟨l.pc,fun q=> by
  have:=l.st q
  dsimp only
  cases hx:x.next with
  | none=> trivial
  | some a=> rw [hx] at this;cases a <;> exact this⟩
end
end Go.Proofs.YtfphpafkhljncaaGreat
namespace Go.Proofs.YtfphpafkhljncaaGreat
open Go GW Go.Proofs
attribute [local irreducible] bnd ldV stV ifV binV eqI
set_option maxRecDepth 20000
section
variable {R : List Part} {h g : GH} {K : CC} {a b : Nat} {x : Th} {M : Mc} {p : Plan} {pv tv xv : VV} {bs : List Nat} {xs : List Th} {L : List Int} {picks : Int} {ts : List Touch} {A : Ar} {t : Touch}
theorem Touch.dec_no(h:t.kind ≠ 2∨t.was=t.now∨t.at_ < 34∨t.at_ ≠ baseOf ((t.at_ - 34) / 50)):t.dec=none:=by
 unfold Touch.dec
 rw [if_pos]
 rcases h with h | h | h | h
 ·exact .inl h
 ·exact .inr (.inl h)
 ·exact .inr (.inr (.inl h))
 ·exact .inr (.inr (.inr (.inl h)))
theorem Touch.dec_yes(h1:t.kind=2)(h2:t.was ≠ t.now)(h3:34≤t.at_)(h4:t.at_=baseOf ((t.at_ - 34) / 50))(h5:(plainOf t.now).isSome=true):t.dec=if t.now % 16=4 then some ((t.at_ - 34) / 50) else none:=by
 unfold Touch.dec
 rw [if_neg (by
  rintro (q | q | q | q | q)
  ·exact q h1
  ·exact h2 q
  ·omega
  ·exact q h4
  ·rw [h5] at q;cases q)]
 have e:=val_of_some h5
 have:(t.now=stateW (valOf t.now / 4) 1) ↔ t.now % 16=4:=by
  unfold stateW
  generalize valOf t.now=z at e ⊢
  omega
 by_cases c:t.now % 16=4
 ·rw [if_pos c,if_pos (this.2 c)]
 ·rw [if_neg c,if_neg (fun q=> c (this.1 q))]
theorem T_rdecided(hp:All (pts b (rmcRow p pv a tv L picks xv)::arP 103 a A::rowP 1 tv (bs.map encP)::rowP 8 xv (ts.map Touch.enc)::eachP rthP bs xs::R) h)(hL:L.length=12)(a0:0≤t.at_)(a1:t.at_ < 634)
  (hpl:t.kind=2→34≤t.at_→t.was=t.now∨(plainOf t.now).isSome=true) (oe:∀ y ∈ xs,y.evs.length≤8) (hn4:xs.length≤4)
  (hK:∀ h',All (pts b (rmcRow p pv a tv L picks xv)::arP 103 a A::rowP 1 tv (bs.map encP)::rowP 8 xv (ts.map Touch.enc)::eachP rthP bs (decAll t picks xs)::R) h'→K (.tuple #[]) h'):
  T Pg 99 [ptr b, .agg t.enc.toArray] h K:=by
 apply S99_T
 unfold S99
 have bl:bs.length=xs.length:=All.case (hn (hp.up 4)) fun h1 p _=> eachP_len p
 have no:t.dec=none→∀ {d h'},All (d::pts b (rmcRow p pv a tv L picks xv)::arP 103 a A::rowP 1 tv (bs.map encP)::rowP 8 xv (ts.map Touch.enc)::eachP rthP bs xs::R) h'→K (.tuple #[]) h':=by
  intro e d h' hp
  unfold decAll at hK
  rw [e] at hK
  exact hK _ hp.tail
 refine nw hp (.row 60 t.enc 8 true) rfl fun d h1 hp=> ?_
 have hp0:=hp
 unfold Touch.enc at hp
 refine wk ?_
 have hq:∃ sv,binV .quo (i64 (t.at_ - 34)) (i64 50)=some (i64 sv)∧(34≤t.at_→sv=(t.at_ - 34) / 50):=by
  rcases Int.lt_or_le t.at_ 34 with c | c
  ·refine ⟨(t.at_ - 34).tdiv 50,?_,fun q=> by omega⟩
   have hr:(t.at_ - 34).tdiv 50=0:=by
    have all:∀ k:Fin 34,((k.val:Int) - 34).tdiv 50=0:=by decide
    have:=all ⟨t.at_.toNat,by omega⟩
    simp only at this
    rw [show ((t.at_.toNat:Nat):Int)=t.at_ by omega] at this
    exact this
   rw [binV_quo,if_neg (by decide),hr];rfl
  ·exact ⟨(t.at_ - 34) / 50,quo_nn (by omega) (by omega) (by decide),fun _=> rfl⟩
 obtain ⟨sv,q1,q2⟩:=hq
 refine bnd_of q1 ?_
 refine wk ?_
 refine ifN_cases (fun c=> ?_) fun c=> ?_
 ·exact no (Touch.dec_no (.inl c)) hp
 refine wk ?_
 refine ifV_cases (fun c3=> ?_) fun c3=> ?_
 ·exact no (Touch.dec_no (.inr (.inr (.inl c3)))) hp
 have c3:34≤t.at_:=by omega
 have q2:=q2 c3
 subst q2
 refine wk ?_
 refine T_rBase (by omega) (by omega) ?_
 refine ⟨wq0_ hp rfl,?_⟩
 refine wk ?_
 refine ifN_cases (fun c4=> ?_) fun c4=> ?_
 ·exact no (Touch.dec_no (.inr (.inr (.inr c4)))) hp
 refine wk ?_
 refine ifV_cases (fun c2=> ?_) fun c2=> ?_
 ·exact no (Touch.dec_no (.inr (.inl c2))) hp
 have pl:=(hpl c c3).resolve_left c2
 have de:=Touch.dec_yes c c2 c3 c4 pl
 have nn:0≤t.now:=by have:=val_of_some pl;have:=(valOf_bd t.now).1;omega
 refine wk ?_
 refine bnd_of (show binV .rem (i64 t.now) (i64 16)=some (i64 (t.now % 16)) by rw [binV_rem,if_neg (by decide),Int.tmod_eq_emod_of_nonneg nn]) ?_
 refine wk ?_
 refine ifN_cases (fun c5=> ?_) fun c5=> ?_
 ·exact no (by rw [de,if_neg c5]) hp
 rw [if_pos c5] at de
 unfold decAll at hK
 rw [de] at hK
 dsimp only at hK
 generalize (t.at_ - 34) / 50=s at hK
 clear no q1 de c4 hp0
 replace hp:=hp.tail
 unfold S99_j1
 have htl:∀ {h'} {P1 P2:Part} {R'},All (P1::P2::rowP 1 tv (bs.map encP)::R') h'→lnV tv=some (i64 xs.length):=fun hp=> by have:=All.len (hn (hp.up 2));rw [List.length_map,bl] at this;exact this
 refine Lfp_fam (ι:=Nat) (fun i=> [ptr b,i64 s,i64 i]) (fun i h'=> i≤xs.length∧All (pts b (rmcRow p pv a tv L picks xv)::arP 103 a A::rowP 1 tv (bs.map encP)::rowP 8 xv (ts.map Touch.enc)::eachP rthP bs ((xs.take i).map (fun x=> x.decide s picks) ++ xs.drop i)::R) h') (fun i=> xs.length - i) ?_ 0 _ ⟨by omega,hp⟩
 clear hp
 rintro i h8 X ⟨hi,hp⟩ again
 simp only [tup_zero,tup_succ]
 have ld17:∀ {h'} {P1:Part} {R'},All (P1::pts b (rmcRow p pv a tv L picks xv)::R') h'→ldV 1 false (.pointer (some ⟨b,0 + 17,none⟩)) h'=some (i64 picks):=fun hp=> lv_ld2 (hn (hp.up 1)) 0 rfl (by rw [hL];rfl)
 have hp0:=hp
 unfold rmcRow lvRow at hp
 refine wk ?_
 refine bnd_of (htl hp) ?_
 refine wk ?_
 refine ifV_cases (fun c=> ?_) fun c=> ?_
 ·obtain ⟨y,hy⟩:∃ y,xs[i]?=some y:=⟨_,List.getElem?_eq_getElem (by omega)⟩
  obtain ⟨yb,hyb⟩:∃ yb,bs[i]?=some yb:=⟨_,List.getElem?_eq_getElem (by omega)⟩
  have oy:=oe y (List.mem_of_getElem? hy)
  obtain ⟨q,e1,e2⟩:=(All.rows (hn (hp.up 2))).get1 (i:=i) (x:=ptr yb) (by rw [List.getElem?_map,hyb];rfl) .i64
  refine wk ?_
  refine bnd_of e1 (bnd_of e2 ?_)
  have hy2:=map_part_get (f:=fun x:Th=> x.decide s picks) hy
  -- it goes on
  have next:∀ {h'},All (rthP yb (y.decide s picks)::eachP rthP (bs.eraseIdx i) (((xs.take i).map (fun x=> x.decide s picks) ++ xs.drop i).eraseIdx i)::pts b (rmcRow p pv a tv L picks xv)::arP 103 a A::rowP 1 tv (bs.map encP)::rowP 8 xv (ts.map Touch.enc)::R) h'→X (tup [ptr b,i64 s,i64 ((i + 1:Nat):Int)]) h':=by
   intro h' hp
   have hp:=eachP_put (b:=y.decide s picks) hyb (by simp only [List.length_append,List.length_map,List.length_take,List.length_drop];omega) hp
   rw [map_part (f:=fun x:Th=> x.decide s picks) hy] at hp
   exact again (i + 1) _ ⟨by omega,hn (hp.re 5 [1,2,3,4,0])⟩ (by omega)
  have hq:=eachP_at hyb hy2 (hn (hp0.up 4))
  refine rthP_open hq fun v l hq2=> ?_
  clear hp hp0 hq
  have hp:=rtV_open hq2
  have hp0:=hp
  unfold rthRow at hp
  refine wk ?_
  unfold S99_j2
  have ei:(i:Int) + 1=((i + 1:Nat):Int):=by omega
  refine ifV_cases (fun cs=> ?_) fun cs=> ?_
  ·refine wk ?_
   have hlen:=evP_len (hn (hp.up 2))
   refine bnd_of hlen ?_
   refine wk ?_
   refine ifV_cases (fun c2=> ?_) fun c2=> ?_
   ·have l0:0 < y.evs.length:=by omega
    have live:y.evs ≠ []:=List.length_pos_iff.1 l0
    have lsub:(y.evs.length:Int) - 1=((y.evs.length - 1:Nat):Int):=by omega
    clear hp
    have hp:=hn (hp0.up 2)
    refine evsP_open hp fun ws hl hp=> ?_
    obtain ⟨e,w,g1,g2,g3,g4⟩:=evCs_last hl live
    have wg:=(hp.row.good.1 _ (List.mem_of_getElem? g4)).2
    obtain ⟨eb,i1,_,i3,_⟩:=All.elt hp g4 .i64
    have ow:oneCell w=true:=by
     unfold Event.cells at wg
     simp only [List.all_cons,Bool.and_eq_true] at wg
     exact wg.2.2.2.2.2.2.2.1
    replace hp:=hn (hp.up 2)
    unfold rthRow at hp
    refine wk ?_
    refine bnd_of hlen ?_
    refine wk ?_
    rw [lsub]
    refine bnd_of i1 (bnd_of i3 ?_)
    refine nwst hp (.row 56 (e.cells w) 8 true) rfl rfl wg rfl fun lb h3 hp=> ?_
    unfold Event.cells at hp
    refine wk ?_
    have hq:=hn (hp.re 15 [0,14,1,2,3,4,5,6,7,8,9,10,11,12,13])
    refine bnd_of (ld17 hq) ?_
    clear hq
    refine wk ?_
    refine st0 hp (.row 56 (({e with decided:=picks}:Event).cells w) 8 true) rfl le_ rfl rfl fun h4 hp=> ?_
    unfold Event.cells at hp
    refine wk ?_
    refine bnd_of hlen ?_
    refine wk ?_
    rw [lsub]
    refine la0 hp le_ rfl ?_
    replace hp:=hn (hp.tail.re 3 [1,0,2])
    obtain ⟨eb2,m1,_,_,m4⟩:=All.elt hp g4 .i64
    obtain ⟨h6,z1,z2⟩:=m4 0 8 (.agg (({e with decided:=picks}:Event).cells w).toArray) rfl (by decide) (by
     show (({e with decided:=picks}:Event).cells w).all oneCell=true
     unfold Event.cells
     simp only [List.all_cons,ow,List.all_nil,Bool.and_true,Bool.and_eq_true]
     exact ⟨rfl,rfl,rfl,rfl,rfl,rfl,rfl⟩)
    refine bnd_of m1 (bnd_of z1 ?_)
    have hp:=z2
    have c8:setCells (e.cells w) 0 (Value.agg (({e with decided:=picks}:Event).cells w).toArray).cells.toList=({e with decided:=picks}:Event).cells w:=rfl
    rw [c8,evCs_set hl,set_self g3] at hp
    have hp:=ansP_same g2 (e':={e with decided:=picks}) rfl (hn (hp.up 2))
    have hp:=evsP_shut (ws:=ws) (es:=y.evs.set (y.evs.length - 1) {e with decided:=picks}) (by rw [List.length_set];exact hl) (hn (hp.re 2 [1,0]))
    refine wk ?_
    rw [ei]
    refine next (rthP_shut (v:=v) (rtV_dec cs g1 l) (rtV_shut ?_))
    have ed:y.decide s picks={y with evs:=y.evs.set (y.evs.length - 1) {e with decided:=picks}}:=by
     unfold Th.decide
     rw [if_pos cs,evTurn_set g1]
    rw [ed]
    exact hn (hp.re 3 [1,2,0])
   ·have he:y.evs= []:=List.length_eq_zero_iff.1 (by omega)
    refine wk ?_
    rw [ei]
    have ed:y.decide s picks=y:=by
     unfold Th.decide
     rw [if_pos cs]
     have:(evTurn y.evs fun e=> {e with decided:=picks})=y.evs:=by rw [he];rfl
     rw [this]
    refine next ?_
    rw [ed]
    exact rthP_shut l (rtV_shut hp0)
  ·refine wk ?_
   rw [ei]
   have ed:y.decide s picks=y:=by unfold Th.decide;rw [if_neg cs]
   refine next ?_
   rw [ed]
   exact rthP_shut l (rtV_shut hp0)
 ·have:i=xs.length:=by omega
  subst this
  rw [List.take_length,List.drop_length,List.append_nil] at hp0
  exact hK _ hp0
end
end Go.Proofs.YtfphpafkhljncaaGreat
namespace Go.Proofs.YtfphpafkhljncaaGreat
open Go GW Go.Proofs
attribute [local irreducible] bnd ldV stV ifV binV eqI
set_option maxRecDepth 20000
theorem Mc.si.nopu{M:Mc}{fr:List Int}{c:Int}{x:Th}{k:Nat}(o:M.ok)(S:M.si fr c)(hx:M.ths[k]?=some x):Nopu x M.A:=by
 intro hn s r hr
 have ox:=o.ths x (List.mem_of_getElem? hx)
 have w:=S.own x (List.mem_of_getElem? hx)
 have hc:c < 90000:=by have:=S.c1;have:=o.p1;omega
 have oc:=Th.cached_ok ox.1
 have wc:=Th.cached_own w hn
 have hd:∀ s ∈ x.ripe,s ∉ fr:=fun s h1 h2=> by
  have a1:=S.all s
  have a2:=sum_one (f:=fun x:Th=> x.hold.count s) hx
  have a3:=List.count_pos_iff.2 h2
  have a4:=List.count_pos_iff.2 h1
  have a5:=hold_count x s
  split at a1 <;> omega
 have hd:∀ s ∈ x.cached.ripe,s ∉ fr:=fun s hs=> hd s (Th.cached_sub hs)
 generalize x.cached=y at oc wc hr hd
 have hm:=oc.ri s (by rw [hr];simp)
 have po:(y.push.getD (.new s)).ok∧(y.push.getD (.new s)).own M.A∧(y.push.getD (.new s)).slot=s:=by
  cases hp:y.push with
  | none=> exact ⟨Push.new_ok hm.1 hm.2,Push.new_own,rfl⟩
  | some p=>
    have:=(wc.push p hp).2
    rw [hr] at this
    cases this
    exact ⟨oc.push p hp,(wc.push p hp).1,rfl⟩
 exact (Push.step_own po.1 po.2.1 o.A S.F hc (by rw [po.2.2];exact hd s (by rw [hr];simp))).1
section
variable {R : List Part} {h g : GH} {K : CC} {b : Nat} {M : Mc} {p : Plan} {pv : VV} {k : Int} {fr : List Int} {c : Int}
theorem T_rmPick(hp:All (rmcP p pv b M::R) h)(o:M.ok)(S:M.si fr c)(hK:∀ h',All (rmcP p pv b (M.pick k).1::R) h'→K (.tuple #[.bool (M.pick k).2.1,i64 (M.pick k).2.2]) h'):T Pg 59 [ptr b,i64 k] h K:=by
 apply S59_T
 unfold S59
 have hp00:=hp
 refine wk ?_
 refine ifV_cases (fun c1=> ?_) fun c1=> ?_
 ·rw [Mc.pick_no (.inl (by omega))] at hK
  exact hK _ hp00
 refine rmcP_open hp fun a bs tv xv hp=> ?_
 have bl:bs.length=M.ths.length:=All.case (hn (hp.up 4)) fun h1 p _=> eachP_len p
 have ld17:∀ {h'} {R'} {L:List Int} {xv},L.length=12→All (pts b (rmcRow p pv a tv L M.picks xv)::R') h'→ldV 1 false (.pointer (some ⟨b,0 + 17,none⟩)) h'=some (i64 M.picks):=fun hL hp=> lv_ld2 hp 0 rfl (by rw [hL];rfl)
 have ld18:∀ {h'} {P} {R'} {L:List Int} {xv},L.length=12→All (P::pts b (rmcRow p pv a tv L M.picks xv)::R') h'→ldV 1 false (.pointer (some ⟨b,0 + 18,none⟩)) h'=some xv:=fun hL hp=> lv_ld2 (hn (hp.up 1)) 1 rfl (by rw [hL];rfl)
 have hp0:=hp
 unfold rmcRow lvRow at hp
 refine wk ?_
 have htl:lnV tv=some (i64 M.ths.length):=by have:=All.len (hn (hp.up 2));rw [List.length_map,bl] at this;exact this
 refine bnd_of htl ?_
 refine wk ?_
 refine ifV_cases (fun c3=> ?_) fun c3=> ?_
 ·rw [Mc.pick_no (.inl (by omega))] at hK
  exact hK _ hp00
 refine wk ?_
 refine bnd_of (ld17 o.L hp0) ?_
 refine wk ?_
 refine ifV_cases (fun c2=> ?_) fun c2=> ?_
 ·rw [Mc.pick_no (.inr c2)] at hK
  exact hK _ hp00
 obtain ⟨n,rfl⟩:=Int.eq_ofNat_of_zero_le (show 0≤k by omega)
 have hn0:n < M.ths.length:=by omega
 obtain ⟨x,hx⟩:∃ x,M.ths[n]?=some x:=⟨_,List.getElem?_eq_getElem hn0⟩
 obtain ⟨tb,htb⟩:∃ tb,bs[n]?=some tb:=⟨_,List.getElem?_eq_getElem (by omega)⟩
 rw [Mc.pick_yes hx (by omega)] at hK
 have ox:=o.ths x (List.mem_of_getElem? hx)
 have s:=Th.step_ok (L:=M.L) ox.1 o.A o.p0
 have ac:=Th.step_acc (L:=M.L) (pick:=M.picks) ox.1 ox.2.1 o.A
 have trs:=Th.step_tsr (A:=M.A) (L:=M.L) (pick:=M.picks) ox.1 ox.2.2.2
 have hl:=Th.step_lives (A:=M.A) (x:=x) (L:=M.L) (pick:=M.picks)
 have hlok:=ac.1.lok o.A o.l
 have hdead:(x.step M.A M.L M.picks).2.1=true→x.dead=false:=fun q=> by
  cases hd:x.dead with
  | false=> rfl
  | true=> rw [Th.step_dead hd] at q;cases q
 unfold S59_j1
 refine wk ?_
 obtain ⟨q,e1,e2⟩:=(All.rows (hn (hp.up 2))).get1 (i:=n) (x:=ptr tb) (by rw [List.getElem?_map,htb];rfl) .i64
 refine bnd_of e1 (bnd_of e2 ?_)
 refine wk ?_
 refine bnd_of (ld17 o.L hp0) ?_
 have p0:=o.p0
 have hLok:Lok M.L:=⟨o.L,fun y hy=> by have:=o.L2 y hy;have:=o.p1;omega⟩
 have hp1:=eachP_at htb hx (hn (hp0.up 4))
 refine rthP_open hp1 fun v lk hp1=> ?_
 replace hp1:All (arP 103 a M.A::pts b (lvRow 100 19 [pv,i64 p.attempts, .bool p.polite,ptr a,tv] M.L [i64 M.picks,xv])::rtV tb x v::eachP rthP (bs.eraseIdx n) (M.ths.eraseIdx n)::rowP 1 tv (bs.map encP)::rowP 8 xv (M.ts.map Touch.enc)::R) h:=hn (hp1.re 6 [3,2,0,1,4,5])
 refine T_rtStep hp1 ox.1 lk hLok (fun _=> S.nopu o hx) fun v' h1 lk' hts hp=> ?_
 clear hp1 hp0
 generalize x.step M.A M.L M.picks=r at hp hK s ac trs hl hlok lk' hts hdead
 obtain ⟨x',is,code,A',L'⟩:=r
 dsimp only at hp hK s ac trs hl hlok lk' hts hdead ⊢
 have hL':L'.length=12:=by
  rcases hl with e | ⟨s,e⟩
  ·rw [e];exact o.L
  ·rw [e];unfold lived;rw [List.length_set];exact o.L
 have fold:∀ {h'} {D:Part},All (D::pts b (rmcRow p pv a tv L' M.picks xv)::arP 103 a A'::rtV tb x' v'::eachP rthP (bs.eraseIdx n) (M.ths.eraseIdx n)::rowP 1 tv (bs.map encP)::rowP 8 xv (M.ts.map Touch.enc)::R) h'→All (D::pts b (rmcRow p pv a tv L' M.picks xv)::arP 103 a A'::rowP 1 tv (bs.map encP)::rowP 8 xv (M.ts.map Touch.enc)::eachP rthP bs (M.ths.set n x')::R) h':=by
  intro h' D hp
  have hp:=rthP_shut lk' (hn (hp.up 3))
  have hp2:=eachP_put (b:=x') htb hn0 (hn (hp.re 5 [0,4,1,2,3]))
  exact hn (hp2.re 6 [1,2,3,4,5,0])
 have j3:∀ (xv':VV) (ths:List Th) (ts:List Touch) h',(∀ h'',All (rmcP p pv b ⟨A',ths,L',M.picks + 1,ts⟩::R) h''→K (.tuple #[.bool is,i64 (if code=0 then 0 else 1900)]) h'')→All (pts b (rmcRow p pv a tv L' M.picks xv')::arP 103 a A'::rowP 1 tv (bs.map encP)::rowP 8 xv' (ts.map Touch.enc)::eachP rthP bs ths::R) h'→S59_j3 (ptr b) (.bool is) (i64 code) h' K:=by
  intro xv' ths ts h' hK hp
  unfold S59_j3
  refine wk ?_
  refine bnd_of (ld17 hL' hp) ?_
  refine wk ?_
  unfold rmcRow at hp
  refine lv_st2 hp 0 (by simp) (by rw [hL'];rfl) rfl rfl fun h2 hp=> ?_
  replace hp:All (pts b (rmcRow p pv a tv L' (M.picks + 1) xv')::_) h2:=hp
  have:=hK _ (rmcP_shut (M:=⟨A',ths,L',M.picks + 1,ts⟩) hp)
  refine wk ?_
  by_cases c:code=0
  ·rw [if_pos c] at this
   rw [decide_eq_true c]
   refine wk ?_
   exact this
  ·rw [if_neg c] at this
   rw [decide_eq_false c]
   refine wk ?_
   exact this
 have hp:All (pts b (rmcRow p pv a tv L' M.picks xv)::arP 103 a A'::rtV tb x' v'::eachP rthP (bs.eraseIdx n) (M.ths.eraseIdx n)::rowP 1 tv (bs.map encP)::rowP 8 xv (M.ts.map Touch.enc)::R) h1:=hn (hp.re 2 [1,0])
 refine wk ?_
 cases is with
 | false=>
   refine wk ?_
   have:=fold (D:=emp) (hp.emp_cons (by exact trivial))
   exact j3 xv _ _ _ hK this.tail
 | true=>
   obtain ⟨ts1,ts2⟩:=hts (hdead rfl)
   have hA:=(arP.at (hn (hp.up 1))).2
   obtain ⟨l0,l1,l2,l3,l4,l5,l6,l7,el⟩:=list8 hA.touch
   have hp0:=hp
   unfold rmcRow lvRow at hp
   refine wk ?_
   refine T_refLast (hn (hp.up 1)) ?_
   refine wk ?_
   rw [el]
   refine nwst hp0 (.row 60 [i64 l0,i64 l1,i64 l2,i64 l3,i64 l4,i64 l5,i64 l6,i64 l7] 8 true) rfl rfl rfl rfl fun d h2 hp=> ?_
   clear hp0
   refine T_rtThrough (hn (hp.up 3)) ?_
   rw [ts1,ts2]
   refine wk ?_
   refine st0 hp (.row 60 [i64 n,i64 l1,i64 l2,i64 l3,i64 l4,i64 l5,i64 l6,i64 l7] 8 true) rfl le_ rfl rfl fun h3 hp=> ?_
   refine wk ?_
   refine st0 hp (.row 60 [i64 n,i64 l1,i64 l2,i64 l3,i64 l4,i64 x'.ts,i64 l6,i64 l7] 8 true) rfl le_ rfl rfl fun h4 hp=> ?_
   refine wk ?_
   refine st0 hp (.row 60 [i64 n,i64 l1,i64 l2,i64 l3,i64 l4,i64 x'.ts,i64 x'.tg,i64 l7] 8 true) rfl le_ rfl rfl fun h5 hp=> ?_
   refine wk ?_
   have hp:=fold hp
   have j2:∀ h',All (pts d (.row 60 (noteT A' L' n x').enc 8 true)::pts b (rmcRow p pv a tv L' M.picks xv)::arP 103 a A'::rowP 1 tv (bs.map encP)::rowP 8 xv (M.ts.map Touch.enc)::eachP rthP bs (M.ths.set n x')::R) h'→S59_j2 (ptr b) (.bool true) (i64 code) (ptr d) h' K:=by
    intro h' hp
    have ta:(noteT A' L' n x').at_=A'.last.getD 2 0:=rfl
    have tn:(noteT A' L' n x').now=A'.last.getD 4 0:=rfl
    have tk:(noteT A' L' n x').kind=A'.last.getD 1 0:=rfl
    have tw:(noteT A' L' n x').was=A'.last.getD 3 0:=rfl
    have k1:=hlok.at0;have k2:=hlok.at1;have k3:=hlok.pl
    rw [← ta] at k1 k2
    rw [← ta, ← tn, ← tk, ← tw] at k3
    generalize noteT A' L' n x'=t at hp hK k1 k2 k3
    unfold S59_j2
    refine wk ?_
    refine bnd_of (ld18 hL' hp) ?_
    refine la0 hp (c:=t.enc) le_ rfl ?_
    refine bs0 (size:=8) hp ([t].map Touch.enc) rfl rfl (by simp) (Touch.all_good _) fun sv h6 hp=> ?_
    have r2:=hp.rows
    refine ap0 (hn (hp.up 5)) r2 (Touch.all_good _) (by decide) (by have:=o.ts;have:=o.p1;simp only [List.length_map,List.length_cons,List.length_nil];omega) fun xv' h7 hp=> ?_
    rw [← List.map_append] at hp
    obtain ⟨ad,ln,cap,rfl⟩:=All.isSlice hp
    replace hp:=hn (hp.re 7 [3,2,4,5,0,6])
    refine wk ?_
    unfold rmcRow at hp
    refine lv_st2 hp 1 (by simp) (by rw [hL'];rfl) rfl rfl fun h8 hp=> ?_
    replace hp:All (pts b (rmcRow p pv a tv L' M.picks (.slice ad ln cap))::_) h8:=hp
    replace hp:=hn (hp.re 2 [1,0])
    refine la0 hp (c:=t.enc) le_ rfl ?_
    refine T_rdecided hp.tail hL' k1 k2 k3 (fun y hy=> ?_) (by rw [List.length_set];exact o.n) fun h9 hp=> ?_
    ·rcases List.mem_or_eq_of_mem_set hy with q | q
     ·exact (o.ths y q).1.evs8
     ·subst q;exact s.1.evs8
    ·exact j3 (.slice ad ln cap) _ _ _ hK hp
   have tr0:=trs.1.1;have tr1:=trs.1.2
   refine ifV_cases (fun c=> ?_) fun c=> ?_
   ·obtain ⟨m,en⟩:=Int.eq_ofNat_of_zero_le c
    have hp0:=hp
    unfold rmcRow lvRow at hp
    refine wk ?_
    rw [en]
    refine bnd_of (iaV_at (by omega) .i64) ?_
    have hl:ldV 1 false (.pointer (some ⟨b,5 + m * 1,none⟩)) h5=some (i64 (L'.getD m 0)):=lv_ld (pre:= [pv,i64 p.attempts, .bool p.polite,ptr a,tv]) (hn (hp0.up 1)) (by omega)
    refine bnd_of hl ?_
    replace hp:=hp0
    refine wk ?_
    refine st0 hp (.row 60 [i64 n,i64 l1,i64 l2,i64 l3,i64 l4,i64 x'.ts,i64 x'.tg,i64 (L'.getD m 0)] 8 true) rfl le_ rfl (by rw [en];rfl) fun h6 hp=> ?_
    refine j2 _ ?_
    have e:(noteT A' L' n x').enc= [i64 n,i64 l1,i64 l2,i64 l3,i64 l4,i64 x'.ts,i64 x'.tg,i64 (L'.getD m 0)]:=by
     unfold noteT Ar.lst Touch.enc
     rw [el,if_pos c,en];rfl
    rw [e]
    exact hp
   ·refine j2 _ ?_
    have e:(noteT A' L' n x').enc= [i64 n,i64 l1,i64 l2,i64 l3,i64 l4,i64 x'.ts,i64 x'.tg,i64 l7]:=by
     unfold noteT Ar.lst Touch.enc
     rw [el,if_neg c];rfl
    rw [e]
    exact hp
end
end Go.Proofs.YtfphpafkhljncaaGreat
namespace Go.Proofs.YtfphpafkhljncaaGreat
open Go GW Go.Proofs
attribute [local irreducible] bnd ldV stV ifV binV eqI
set_option maxRecDepth 20000
section
variable {R : List Part} {h g : GH} {K : CC} {a b : Nat} {M : Mc} {p : Plan} {v pv : VV} {k : Int} {fr : List Int} {c : Int} {A : Ar} {picks : List Int} {x : Th} {u : RV}
theorem Lk.done(l:Lk x u)(un:x.una):(decide (u.pc=0) && x.done)=x.done:=by
 cases hd:x.done with
 | false=> rw [Bool.and_false]
 | true=>
   have:=un.done hd
   have e:=l.pc
   rw [this.1,this.2,if_neg (by decide)] at e
   rw [e];rfl
end
end Go.Proofs.YtfphpafkhljncaaGreat
namespace Go.Proofs.YtfphpafkhljncaaGreat
open Go GW Go.Proofs
attribute [local irreducible] bnd ldV stV ifV binV eqI
set_option maxRecDepth 20000
section
variable {R : List Part} {h h' g : GH} {K : CC} {a b : Nat} {M : Mc} {p : Plan} {v pv : VV} {k : Int} {fr : List Int} {c : Int} {A : Ar} {picks : List Int} {x : Th} {u : RV}
theorem rmcP.le(l:HLe h h')(z:rmcP p pv b M h):rmcP p pv b M h':=by
 obtain ⟨a,bs,tv,xv,z⟩:=z
 exact ⟨a,bs,tv,xv,All.le l z⟩
theorem T_rmDone(hp:All (rmcP p pv b M::R) h)(o:M.ok)(un:∀ x ∈ M.ths,x.una)(hK:K (.bool M.done) h):T Pg 61 [ptr b] h K:=by
 apply S61_T
 unfold S61
 refine rmcP_open hp fun a bs tv xv hp=> ?_
 have bl:bs.length=M.ths.length:=All.case (hn (hp.up 4)) fun h1 p _=> eachP_len p
 have htl:lnV tv=some (i64 M.ths.length):=by have:=All.len (hn (hp.up 2));rw [List.length_map,bl] at this;exact this
 have on:=o.n
 refine Lfp_fam (ι:=Nat) (fun i=> [ptr b,i64 i]) (fun i h'=> i≤M.ths.length∧h'=h∧(M.ths.take i).all Th.done=true) (fun i=> M.ths.length - i) ?_ 0 h ⟨by omega,rfl,by simp⟩
 rintro i h1 X ⟨hi,rfl,ha⟩ again
 simp only [tup_zero,tup_succ]
 have hp0:=hp
 unfold rmcRow lvRow at hp
 refine wk ?_
 refine bnd_of htl ?_
 refine wk ?_
 refine ifV_cases (fun c=> ?_) fun c=> ?_
 ·obtain ⟨x,hx⟩:∃ x,M.ths[i]?=some x:=⟨_,List.getElem?_eq_getElem (by omega)⟩
  obtain ⟨tb,htb⟩:∃ tb,bs[i]?=some tb:=⟨_,List.getElem?_eq_getElem (by omega)⟩
  obtain ⟨q,e1,e2⟩:=(All.rows (hn (hp.up 2))).get1 (i:=i) (x:=ptr tb) (by rw [List.getElem?_map,htb];rfl) .i64
  refine wk ?_
  refine bnd_of e1 (bnd_of e2 ?_)
  refine rthP_open (eachP_at htb hx (hn (hp0.up 4))) fun u l hq2=> ?_
  refine T_rtDone hq2 (o.ths x (List.mem_of_getElem? hx)).1.evs8 ?_
  rw [l.done (un x (List.mem_of_getElem? hx))]
  cases hd:x.done with
  | true=>
    refine wk ?_
    refine again (i + 1) _ ⟨by omega,rfl,?_⟩ (by omega)
    rw [List.take_add_one,hx,List.all_append,ha]
    simp [hd]
  | false=>
    refine wk ?_
    have e:M.done=false:=by
     unfold Mc.done
     rw [List.all_eq_false]
     exact ⟨x,List.mem_of_getElem? hx,by rw [hd];decide⟩
    rw [e] at hK
    exact hK
 ·have:i=M.ths.length:=by omega
  subst this
  rw [List.take_length] at ha
  have e:M.done=true:=ha
  rw [e] at hK
  exact hK
theorem ansP_app{us ws:List Value}{es fs:List Event}(hl:us.length=es.length)(z:ansP us es h)(w:ansP ws fs h):ansP (us ++ ws) (es ++ fs) h:=by
 intro i e x he hx
 rw [List.getElem?_append] at he hx
 split at he
 ·rw [if_pos (by omega)] at hx;exact z i e x he hx
 ·rw [if_neg (by omega),hl] at hx;exact w _ e x he hx
theorem T_rmEvents(hp:All (rmcP p pv b M::R) h)(o:M.ok)(hK:∀ v' ws g2 h',ws.length=M.events.length→ansP ws M.events g2→rmcP p pv b M g2→All (rowP 8 v' (evCs M.events ws)::baseP g2::R) h'→K v' h'):T Pg 63 [ptr b] h K:=by
 apply S63_T
 unfold S63
 obtain ⟨g,pg,hp⟩:=All.base hp
 have pg0:=pg
 refine rmcP_open (All.one pg) fun a bs tv xv hg=> ?_
 have bl:bs.length=M.ths.length:=All.case (hn (hg.up 4)) fun h1 p _=> eachP_len p
 have htl:lnV tv=some (i64 M.ths.length):=by have:=All.len (hn (hg.up 2));rw [List.length_map,bl] at this;exact this
 have on:=o.n
 refine Lfp_fam (ι:=Nat × Value × List Value) (fun q=> [ptr b,q.2.1,i64 q.1]) (fun q h'=> q.1≤M.ths.length∧(allEvents (M.ths.take q.1)).length≤8 * q.1∧q.2.2.length=(allEvents (M.ths.take q.1)).length∧ansP q.2.2 (allEvents (M.ths.take q.1)) g∧All (rowP 8 q.2.1 (evCs (allEvents (M.ths.take q.1)) q.2.2)::baseP g::R) h') (fun q=> M.ths.length - q.1) ?_ (0, .slice none 0 0, []) h ⟨by simp,by simp [allEvents],rfl,fun i e w h1 h2=> by simp at h2,hp.emp_cons (rowP_nil 8 _)⟩
 clear hp
 rintro ⟨i,ov,ws⟩ h1 X ⟨hi,hle,hl,ha,hp⟩ again
 simp only at hi hle hl ha hp
 simp only [tup_zero,tup_succ]
 have lg:HLe g h1:=All.baseLe hp.tail
 have row:∀ {n:Nat} {w:VV} {T:TypeId} {cs:List Value} {sz:Nat} {fl:Bool} {b:Nat},g b=some (.row T cs sz fl)→cs[n]?=some w→ldV 1 false (.pointer (some ⟨b,0 + n,none⟩)) h1=some w:=fun e q=> by
  rw [ldV_cell (lg _ _ e),Nat.zero_add];exact q
 have hr:=hg.pt0
 unfold rmcRow lvRow at hr
 refine bnd_of rfl (bnd_of rfl (bnd_of (row (n:=4) (w:=tv) hr rfl) ?_))
 refine bnd_of htl ?_
 refine wk ?_
 refine ifV_cases (fun c=> ?_) fun c=> ?_
 ·obtain ⟨x,hx⟩:∃ x,M.ths[i]?=some x:=⟨_,List.getElem?_eq_getElem (by omega)⟩
  obtain ⟨tb,htb⟩:∃ tb,bs[i]?=some tb:=⟨_,List.getElem?_eq_getElem (by omega)⟩
  obtain ⟨q,e1,e2⟩:=((All.rows (hn (hg.up 2))).le lg).get1 (i:=i) (x:=ptr tb) (by rw [List.getElem?_map,htb];rfl) .i64
  refine bnd_of rfl (bnd_of rfl (bnd_of (row (n:=4) (w:=tv) hr rfl) (bnd_of e1 (bnd_of e2 ?_))))
  refine rthP_open (eachP_at htb hx (hn (hg.up 4))) fun u l hq=> ?_
  have hq:=rtV_open hq
  have hr2:=hq.pt0
  unfold rthRow at hr2
  refine bnd_of rfl (bnd_of rfl (bnd_of (row (n:=20) (w:=u.ev) hr2 rfl) ?_))
  refine evsP_open (hn (hq.up 2)) fun us hu hq=> ?_
  have hg2:=evs_good hq
  have r2:=hq.rows
  have a2:=(hn (hq.up 1)).mono1 (P:=ansP us x.evs) ansP.mono
  have x8:=(o.ths x (List.mem_of_getElem? hx)).1.evs8
  refine ap0 hp (r2.le lg) hg2 (by decide) (by rw [evCs_len hl,evCs_len hu];omega) fun ov' h3 hp=> ?_
  rw [evCs_app hl] at hp
  refine wk ?_
  have e1:allEvents (M.ths.take (i + 1))=allEvents (M.ths.take i) ++ x.evs:=by
   unfold allEvents
   rw [List.take_add_one,hx,List.flatMap_append];simp
  refine again (i + 1,ov',ws ++ us) _ ⟨by simp only;omega,by simp only [e1,List.length_append];omega,by simp only [e1,List.length_append];omega,?_,?_⟩ (by simp only;omega)
  ·simp only [e1]
   exact ansP_app hl ha a2
  ·simp only [e1]
   exact hp
 ·have:i=M.ths.length:=by omega
  subst this
  rw [List.take_length] at hp ha hl
  exact hK ov ws g h1 hl ha pg0 hp
end
end Go.Proofs.YtfphpafkhljncaaGreat
namespace Go.Proofs.YtfphpafkhljncaaGreat
open Go GW Go.Proofs
attribute [local irreducible] bnd ldV stV ifV binV eqI
set_option maxRecDepth 20000
def one1(w:VV):List Value:= [w]
def txO:List Value→List (List Op)→Part:=eachP fun w t=> rowP 4 w (t.map Op.enc)
def thO(w:VV)(ts:List (List Op)):Part:=fun h=> ∃ us:List Value,All [rowP 1 w (us.map one1),txO us ts] h
def plO(v:VV)(p:List (List (List Op))):Part:=fun h=> ∃ ws:List Value,All [rowP 1 v (ws.map one1),eachP thO ws p] h
structure PlB(p:List (List (List Op))):Prop where
 a:p.length * 24≤140737488355328
 b:∀ ts ∈ p,ts.length * 24≤140737488355328
 c:∀ ts ∈ p,∀ t ∈ ts,t.length * 32≤140737488355328
theorem txO.all2:∀ {us:List Value} {ts:List (List Op)} {h:GH},txO us ts h→All2 (txnC h) (us.map one1) ts:=by
 intro us
 induction us with
 | nil=>
   intro ts h z
   cases ts with
   | nil=> exact .nil
   | cons t ts=> exact z.elim
 | cons u us ih=>
   intro ts h z
   cases ts with
   | nil=> exact z.elim
   | cons t ts=>
     have z:All [rowP 4 u (t.map Op.enc),txO us ts] h:=z
     obtain ⟨h1,h2,_,l1,l2,p,h3,h4,_,l3,_,q,_⟩:=z
     exact .cons (txnC_mk (p.rows.le l1)) ((ih q).mono fun _ _ ⟨w,e,r⟩=> ⟨w,e,(r.le l3).le l2⟩)
theorem thO.thr{w:VV}{ts:List (List Op)}{h:GH}(z:thO w ts h):thrC h [w] ts:=by
 obtain ⟨us,z⟩:=z
 refine thrC_mk z.rows ?_
 obtain ⟨h1,h2,_,l1,_,q,_⟩:=hn (z.up 1)
 exact (txO.all2 q).mono fun _ _ ⟨w,e,r⟩=> ⟨w,e,r.le l1⟩
theorem eachTh.all2:∀ {ws:List Value} {p:List (List (List Op))} {h:GH},eachP thO ws p h→All2 (thrC h) (ws.map one1) p:=by
 intro us
 induction us with
 | nil=>
   intro ts h z
   cases ts with
   | nil=> exact .nil
   | cons t ts=> exact z.elim
 | cons u us ih=>
   intro ts h z
   cases ts with
   | nil=> exact z.elim
   | cons t ts=>
     have z:All [thO u t,eachP thO us ts] h:=z
     obtain ⟨h1,h2,_,l1,l2,p,h3,h4,_,l3,_,q,_⟩:=z
     have up:∀ {ha hb:GH},HLe ha hb→∀ c ts,thrC ha c ts→thrC hb c ts:=fun l c ts ⟨w,es,e,r,a⟩=> ⟨w,es,e,r.le l,a.mono fun _ _ ⟨w,e,r⟩=> ⟨w,e,r.le l⟩⟩
     exact .cons (up l1 _ _ p.thr) ((ih q).mono fun c ts z=> up (HLe.trans l3 l2) c ts z)
theorem plO.threads{v:VV}{p:List (List (List Op))}{h:GH}(z:plO v p h):threadsAt h v p:=by
 obtain ⟨ws,z⟩:=z
 refine ⟨ws.map one1,z.rows,?_⟩
 obtain ⟨h1,h2,_,l1,_,q,_⟩:=hn (z.up 1)
 exact (eachTh.all2 q).mono fun c ts ⟨w,es,e,r,a⟩=> ⟨w,es,e,r.le l1,a.mono fun _ _ ⟨w,e,r⟩=> ⟨w,e,r.le l1⟩⟩
theorem plO.le{v:VV}{p:List (List (List Op))}{h h':GH}(l:HLe h h')(z:plO v p h):plO v p h':=by
 obtain ⟨ws,z⟩:=z
 exact ⟨ws,All.le l z⟩
section
variable {R : List Part} {h h' g : GH} {K : CC} {p : Plan} {v w : VV}
theorem one1_good(us:List Value)(hs:∀ u ∈ us,oneCell u=true):∀ c ∈ us.map one1,good 1 c:=by
 intro c hc
 obtain ⟨u,hu,rfl⟩:=List.mem_map.1 hc
 exact ⟨rfl,by show (oneCell u && true)=true;rw [hs u hu];rfl⟩
theorem T_CopyPlan(hp:All R h)(hg:∀ h',All R h'→HLe g h')(ht:threadsAt g v p.threads)(hb:PlB p.threads)(hK:∀ q h',All (plO q p.threads::R) h'→K (.agg (planC q p).toArray) h'):T Pg 54 [.agg (planC v p).toArray] h K:=by
 apply S54_T
 unfold S54
 obtain ⟨es0,r0,a0⟩:=ht
 have hlen:lnV v=some (i64 p.threads.length):=by
  have:=r0.len
  rw [a0.1] at this;exact this
 have hmx:p.threads.length≤9223372036854775807:=by have:=r0.max;rw [a0.1] at this;exact this
 refine nw hp (.row 67 (planC v p) 3 true) rfl fun d h1 hp=> ?_
 refine nw hp (.row 67 [.slice none 0 0,i64 0, .bool false] 3 true) rfl fun d2 h2 hp=> ?_
 refine la1 hp (c:=planC v p) (Nat.le_refl 3) rfl ?_
 obtain ⟨va,vn,vc,ev,_⟩:∃ a n c,v= .slice a n c∧True:=by
  obtain ⟨a,n,c,e,_⟩:=r0
  exact ⟨a,n,c,e,trivial⟩
 refine nwst hp (.row 67 (planC v p) 3 true) rfl rfl (by rw [ev];rfl) rfl fun d3 h3 hp=> ?_
 unfold planC at hp
 refine wk ?_
 refine st0 hp (.row 67 [.slice none 0 0,i64 p.attempts, .bool p.polite] 3 true) rfl le_ rfl rfl fun h4 hp=> ?_
 refine Lfp_fam (ι:=Nat × Value × List Value) (fun q=> [ptr d,ptr d2,ptr d3,i64 q.1]) (fun q h'=> q.1≤p.threads.length∧q.2.2.length=q.1∧All (pts d3 (.row 67 [q.2.1,i64 p.attempts, .bool p.polite] 3 true)::pts d2 (.row 67 [.slice none 0 0,i64 0, .bool false] 3 true)::pts d (.row 67 [v,i64 p.attempts, .bool p.polite] 3 true)::rowP 1 q.2.1 (q.2.2.map one1)::eachP thO q.2.2 (p.threads.take q.1)::R) h') (fun q=> p.threads.length - q.1) ?_ (0, .slice none 0 0, []) h4 ⟨by simp,rfl,?_⟩
 rotate_left
 ·have z1:=All.emp_cons (P:=eachP thO [] (p.threads.take 0)) hp (by exact trivial)
  have z2:=All.emp_cons (P:=rowP 1 nS_ []) z1 (rowP_nil _ _)
  exact hn (z2.re 5 [2,3,4,0,1])
 clear hp
 rintro ⟨i,qv,ws⟩ h5 X ⟨hi,hl,hp⟩ again
 simp only at hi hl hp
 simp only [tup_zero,tup_succ]
 refine wk ?_
 refine bnd_of hlen ?_
 refine wk ?_
 refine ifV_cases (fun c=> ?_) fun c=> ?_
 ·obtain ⟨ts,hti⟩:∃ ts,p.threads[i]?=some ts:=⟨_,List.getElem?_eq_getElem (by omega)⟩
  have hts:=List.mem_of_getElem? hti
  obtain ⟨c0,hc0,w,cs,rfl,rw_,aw⟩:=a0.get hti
  have hgR:∀ {h'} {P1 P2 P3 P4 P5 P6 P7:Part},All (P1::P2::P3::P4::P5::P6::P7::R) h'→HLe g h':=fun hp=> hg _ hp.tail.tail.tail.tail.tail.tail.tail
  have hwl:lnV w=some (i64 ts.length):=by have:=rw_.len;rw [aw.1] at this;exact this
  have hwm:ts.length≤9223372036854775807:=by have:=rw_.max;rw [aw.1] at this;exact this
  have getw:∀ {h'},HLe g h'→∃ q,isV 1 v (i64 i)=some q∧ldV 1 false q h'=some w:=fun l=> (r0.le l).get1 hc0 .i64
  refine Lfp_fam (ι:=Nat × Value × List Value) (fun q=> [ptr d,ptr d2,ptr d3,i64 i,q.2.1,i64 q.1]) (fun q h'=> q.1≤ts.length∧q.2.2.length=q.1∧All (pts d (.row 67 [v,i64 p.attempts, .bool p.polite] 3 true)::pts d3 (.row 67 [qv,i64 p.attempts, .bool p.polite] 3 true)::rowP 1 q.2.1 (q.2.2.map one1)::txO q.2.2 (ts.take q.1)::pts d2 (.row 67 [.slice none 0 0,i64 0, .bool false] 3 true)::rowP 1 qv (ws.map one1)::eachP thO ws (p.threads.take i)::R) h') (fun q=> ts.length - q.1) ?_ (0, .slice none 0 0, []) h5 ⟨by simp,rfl,?_⟩
  rotate_left
  ·have z1:=All.emp_cons (P:=txO [] (ts.take 0)) hp (by exact trivial)
   have z2:=All.emp_cons (P:=rowP 1 nS_ []) z1 (rowP_nil _ _)
   exact hn (z2.re 7 [4,2,0,1,3,5,6])
  clear hp
  rintro ⟨j,tv,us⟩ h6 Y ⟨hj,hul,hp⟩ again2
  simp only at hj hul hp
  simp only [tup_zero,tup_succ]
  refine wk ?_
  obtain ⟨q1,d1,d2_⟩:=getw (hgR hp)
  refine bnd_of d1 (bnd_of d2_ ?_)
  refine bnd_of hwl ?_
  refine wk ?_
  refine ifV_cases (fun c2=> ?_) fun c2=> ?_
  ·obtain ⟨t,htj⟩:∃ t,ts[j]?=some t:=⟨_,List.getElem?_eq_getElem (by omega)⟩
   obtain ⟨c1,hc1,x,rfl,rx⟩:=aw.get htj
   refine bs0 (size:=4) hp (([]:List Op).map Op.enc) rfl rfl (by simp) (fun c hc=> by cases hc) fun nv h7 hp=> ?_
   refine wk ?_
   have l7:HLe g h7:=hgR hp.tail
   obtain ⟨q2,e1,e2⟩:=getw l7
   refine bnd_of e1 (bnd_of e2 ?_)
   obtain ⟨b0,o0,k1,k2,_⟩:=(rw_.le l7).fld hc1 .i64
   refine bnd_of k1 (bnd_of rfl (bnd_of (k2 0 x rfl) ?_))
   refine ap0 (size:=4) hp (rx.le l7) (Op.all_good _) (by decide) (by have:=hb.c ts hts t (List.mem_of_getElem? htj);simp only [List.length_map,List.length_nil];omega) fun nv h8 hp=> ?_
   obtain ⟨na,nl,nc,rfl⟩:=All.isSlice hp
   rw [List.map_nil,List.nil_append] at hp
   refine bnd_of rfl ?_
   refine bs0 (size:=1) hp ([.slice na nl nc].map one1) rfl rfl (by simp) (one1_good _ (fun u hu=> by rw [List.mem_singleton.1 hu];rfl)) fun sv h9 hp=> ?_
   have r2:=hp.rows
   refine ap0 (hn (hp.up 4)) r2 (one1_good _ (fun u hu=> by rw [List.mem_singleton.1 hu];rfl)) (by decide) (by have:=hb.b ts hts;simp only [List.length_map,List.length_cons,List.length_nil];omega) fun tv' h10 hp=> ?_
   rw [← List.map_append] at hp
   refine wk ?_
   refine again2 (j + 1,tv',us ++ [.slice na nl nc]) _ ⟨by simp only;omega,by simp [hul],?_⟩ (by simp only;omega)
   have hp:=eachP_snoc (P:=fun w t=> rowP 4 w (t.map Op.enc)) (xs:=us) (ys:=ts.take j) (a:= .slice na nl nc) (b:=t) (hn (hp.re 6 [2,5,0,3,4]))
   have e3:ts.take j ++ [t]=ts.take (j + 1):=by rw [List.take_add_one,htj];rfl
   rw [e3] at hp
   exact hn (hp.re 4 [2,3,1,0])
  ·have hje:j=ts.length:=by omega
   subst hje
   rw [List.take_length] at hp
   replace hp:=hn (hp.re 3 [1,2,0])
   refine wk ?_
   obtain ⟨ta,tn,tc,rfl⟩:=All.isSlice (hn (hp.up 1))
   refine bs0 (size:=1) hp ([.slice ta tn tc].map one1) rfl rfl (by simp) (one1_good _ (fun u hu=> by rw [List.mem_singleton.1 hu];rfl)) fun sv h9 hp=> ?_
   have r2:=hp.rows
   refine ap0 (hn (hp.up 6)) r2 (one1_good _ (fun u hu=> by rw [List.mem_singleton.1 hu];rfl)) (by decide) (by have:=hb.a;simp only [List.length_map,List.length_cons,List.length_nil];omega) fun qv' h10 hp=> ?_
   rw [← List.map_append] at hp
   obtain ⟨qa,qn,qc,rfl⟩:=All.isSlice hp
   replace hp:=hn (hp.re 4 [2,0,3])
   refine wk ?_
   refine st0 hp (.row 67 [.slice qa qn qc,i64 p.attempts, .bool p.polite] 3 true) rfl le_ rfl rfl fun h11 hp=> ?_
   refine wk ?_
   refine again (i + 1, .slice qa qn qc,ws ++ [.slice ta tn tc]) _ ⟨by simp only;omega,by simp [hl],?_⟩ (by simp only;omega)
   have z:=All.fold (l:= [rowP 1 (.slice ta tn tc) (us.map one1),txO us ts]) (hn (hp.re 7 [2,4,0,1,3,5,6]))
   have z:=z.head (Q:=thO (.slice ta tn tc) ts) fun _ z=> ⟨us,z⟩
   have z:=eachP_snoc (P:=thO) (xs:=ws) (ys:=p.threads.take i) (a:= .slice ta tn tc) (b:=ts) (hn (z.re 6 [0,5,1,2,3,4]))
   have e3:p.threads.take i ++ [ts]=p.threads.take (i + 1):=by rw [List.take_add_one,hti];rfl
   rw [e3] at z
   exact hn (z.re 5 [1,4,3,2,0])
 ·have hie:i=p.threads.length:=by omega
  subst hie
  rw [List.take_length] at hp
  refine la0 hp (c:=planC qv p) (Nat.le_refl 3) rfl ?_
  obtain ⟨qa,qn,qc,rfl⟩:=All.isSlice (hn (hp.up 3))
  replace hp:=hn (hp.re 2 [1,0])
  refine st0 hp (.row 67 (planC (.slice qa qn qc) p) 3 true) rfl le_ rfl rfl fun h11 hp=> ?_
  refine la0 hp (c:=planC (.slice qa qn qc) p) (Nat.le_refl 3) rfl ?_
  refine hK _ _ ?_
  have z:=All.fold (l:= [rowP 1 (.slice qa qn qc) (ws.map one1),eachP thO ws p.threads]) (hn (hp.re 5 [3,4]))
  exact z.head fun _ z=> ⟨ws,z⟩
end
end Go.Proofs.YtfphpafkhljncaaGreat
namespace Go.Proofs.YtfphpafkhljncaaGreat
open Go GW Go.Proofs
attribute [local irreducible] bnd ldV stV ifV binV eqI
set_option maxRecDepth 20000
section
variable {R : List Part} {h h' g : GH} {K : CC} {p : Plan} {v w : VV}
theorem threadsAt.len{h:GH}{v:VV}{p:List (List (List Op))}(t:threadsAt h v p):lnV v=some (i64 p.length)∧p.length≤9223372036854775807:=by
 obtain ⟨es,r,a⟩:=t
 have:=r.len
 have h2:=r.max
 rw [a.1] at this h2;exact ⟨this,h2⟩
theorem T_SamePlan(hp:All R h)(ha:∀ h',All R h'→threadsAt h' v p.threads)(hb:∀ h',All R h'→threadsAt h' w p.threads)(hK:∀ h',All R h'→K (.bool true) h'):T Pg 57 [.agg (planC v p).toArray, .agg (planC w p).toArray] h K:=by
 apply S57_T
 unfold S57
 have l1:=(ha _ hp).len
 have l2:=(hb _ hp).len
 refine nw hp (.row 67 (planC v p) 3 true) rfl fun d h1 hp=> ?_
 refine nw hp (.row 67 (planC w p) 3 true) rfl fun d2 h2 hp=> ?_
 unfold planC at hp
 refine wk ?_
 rw [decide_eq_true rfl]
 refine wk ?_
 rw [beq_self_eq_true]
 refine wk ?_
 refine bnd_of l1.1 ?_
 refine wk ?_
 refine bnd_of l2.1 ?_
 refine wk ?_
 rw [decide_eq_true rfl]
 refine wk ?_
 unfold S57_j1
 refine Lfp_fam (ι:=Nat) (fun i=> [ptr d,ptr d2,i64 i]) (fun i h'=> i≤p.threads.length∧All (pts d2 (.row 67 [w,i64 p.attempts, .bool p.polite] 3 true)::pts d (.row 67 [v,i64 p.attempts, .bool p.polite] 3 true)::R) h') (fun i=> p.threads.length - i) ?_ 0 h2 ⟨by omega,hp⟩
 clear hp
 rintro i h3 X ⟨hi,hp⟩ again
 simp only [tup_zero,tup_succ]
 refine wk ?_
 refine bnd_of l1.1 ?_
 refine wk ?_
 refine ifV_cases (fun c=> ?_) fun c=> hK _ hp.tail.tail
 obtain ⟨ts,hti⟩:∃ ts,p.threads[i]?=some ts:=⟨_,List.getElem?_eq_getElem (by omega)⟩
 have geta:∀ {h'},All R h'→∃ q u,isV 1 v (i64 i)=some q∧ldV 1 false q h'=some u∧∃ es,rowsAt h' 1 u es∧All2 (txnC h') es ts:=fun hr=> by
  obtain ⟨es,r,a⟩:=ha _ hr
  obtain ⟨c0,hc,u,es',rfl,r',a'⟩:=a.get hti
  obtain ⟨q,e1,e2⟩:=r.get1 hc .i64
  exact ⟨q,u,e1,e2,es',r',a'⟩
 have getb:∀ {h'},All R h'→∃ q u,isV 1 w (i64 i)=some q∧ldV 1 false q h'=some u∧∃ es,rowsAt h' 1 u es∧All2 (txnC h') es ts:=fun hr=> by
  obtain ⟨es,r,a⟩:=hb _ hr
  obtain ⟨c0,hc,u,es',rfl,r',a'⟩:=a.get hti
  obtain ⟨q,e1,e2⟩:=r.get1 hc .i64
  exact ⟨q,u,e1,e2,es',r',a'⟩
 have len:∀ {h':GH} {u:VV} {es:List (List Value)},rowsAt h' 1 u es→All2 (txnC h') es ts→lnV u=some (i64 ts.length)∧ts.length≤9223372036854775807:=fun r a=> by
  have z1:=r.len
  have z2:=r.max
  rw [a.1] at z1 z2;exact ⟨z1,z2⟩
 refine wk ?_
 obtain ⟨q1,u1,e1,e2,es1,r1,a1⟩:=geta hp.tail.tail
 obtain ⟨q2,u2,e3,e4,es2,r2,a2⟩:=getb hp.tail.tail
 have hwm:=(len r1 a1).2
 refine bnd_of e1 (bnd_of e2 (bnd_of (len r1 a1).1 ?_))
 refine wk ?_
 refine bnd_of e3 (bnd_of e4 (bnd_of (len r2 a2).1 ?_))
 refine wk ?_
 rw [decide_eq_true rfl]
 refine wk ?_
 refine Lfp_fam (ι:=Nat) (fun j=> [ptr d,ptr d2,i64 i,i64 j]) (fun j h'=> j≤ts.length∧All (pts d2 (.row 67 [w,i64 p.attempts, .bool p.polite] 3 true)::pts d (.row 67 [v,i64 p.attempts, .bool p.polite] 3 true)::R) h') (fun j=> ts.length - j) ?_ 0 h3 ⟨by omega,hp⟩
 clear hp e1 e2 e3 e4 r1 a1 r2 a2 q1 q2 u1 u2 es1 es2
 rintro j h4 Y ⟨hj,hp⟩ again2
 simp only [tup_zero,tup_succ]
 obtain ⟨q1,u1,e1,e2,es1,r1,a1⟩:=geta hp.tail.tail
 obtain ⟨q2,u2,e3,e4,es2,r2,a2⟩:=getb hp.tail.tail
 refine wk ?_
 refine bnd_of e1 (bnd_of e2 (bnd_of (len r1 a1).1 ?_))
 refine wk ?_
 refine ifV_cases (fun c2=> ?_) fun c2=> ?_
 ·obtain ⟨t,htj⟩:∃ t,ts[j]?=some t:=⟨_,List.getElem?_eq_getElem (by omega)⟩
  obtain ⟨c1,hc1,x,rfl,rx⟩:=a1.get htj
  obtain ⟨c2,hc2,y,rfl,ry⟩:=a2.get htj
  obtain ⟨b0,o0,k1,k2,_⟩:=r1.fld hc1 .i64
  obtain ⟨b1,o1,m1,m2,_⟩:=r2.fld hc2 .i64
  refine wk ?_
  refine bnd_of e1 (bnd_of e2 (bnd_of k1 (bnd_of rfl (bnd_of (k2 0 x rfl) ?_))))
  refine wk ?_
  refine bnd_of e3 (bnd_of e4 (bnd_of m1 (bnd_of rfl (bnd_of (m2 0 y rfl) ?_))))
  refine T_SameOps rx ry ?_
  rw [decide_eq_true rfl]
  refine wk ?_
  exact again2 (j + 1) _ ⟨by omega,hp⟩ (by omega)
 ·refine wk ?_
  exact again (i + 1) _ ⟨by omega,hp⟩ (by omega)
theorem eachP_cons{α β:Type}{P:α→β→Part}{xs:List α}{ys:List β}{i:Nat}{y:β}{R:List Part}{h:GH}(hy:ys[i]?=some y)(hp:All (eachP P (xs.drop i) (ys.drop i)::R) h):∃ x,xs[i]?=some x∧All (P x y::eachP P (xs.drop (i + 1)) (ys.drop (i + 1))::R) h:=by
 have hi:=(List.getElem?_eq_some_iff.1 hy).1
 have e2:ys.drop i=y::ys.drop (i + 1):=by
  rw [List.drop_eq_getElem_cons hi];rw [List.getElem?_eq_getElem hi] at hy;cases hy;rfl
 have hl:(xs.drop i).length=(ys.drop i).length:=All.case hp fun h1 p _=> eachP_len p
 rw [List.length_drop,List.length_drop] at hl
 have hx:i < xs.length:=by omega
 have e1:xs.drop i=xs[i]::xs.drop (i + 1):=List.drop_eq_getElem_cons hx
 rw [e1,e2] at hp
 exact ⟨xs[i],List.getElem?_eq_getElem hx,All.flat (l:= [_,_]) hp⟩
theorem T_SpoilPlan(hp:All (plO w p.threads::R) h)(hK:∀ h',All R h'→K (.tuple #[]) h'):T Pg 58 [.agg (planC w p).toArray] h K:=by
 apply S58_T
 unfold S58
 obtain ⟨ws,hp⟩:=All.ex hp
 have hp:All (rowP 1 w (ws.map one1)::eachP thO ws p.threads::R) h:=All.flat hp
 have wl:ws.length=p.threads.length:=All.case (hn (hp.up 1)) fun h1 p _=> eachP_len p
 have hln:=All.len hp
 rw [List.length_map,wl] at hln
 have hmx:=(All.rows hp).max
 rw [List.length_map,wl] at hmx
 refine nw hp (.row 67 (planC w p) 3 true) rfl fun d h1 hp=> ?_
 unfold planC at hp
 refine Lfp_fam (ι:=Nat) (fun i=> [ptr d,i64 i]) (fun i h'=> i≤p.threads.length∧All (pts d (.row 67 [w,i64 p.attempts, .bool p.polite] 3 true)::rowP 1 w (ws.map one1)::eachP thO (ws.drop i) (p.threads.drop i)::R) h') (fun i=> p.threads.length - i) ?_ 0 h1 ⟨by omega,hp⟩
 clear hp
 rintro i h2 X ⟨hi,hp⟩ again
 simp only [tup_zero,tup_succ]
 refine wk ?_
 refine bnd_of hln ?_
 refine wk ?_
 refine ifV_cases (fun c=> ?_) fun c=> hK _ hp.tail.tail.tail
 obtain ⟨ts,hti⟩:∃ ts,p.threads[i]?=some ts:=⟨_,List.getElem?_eq_getElem (by omega)⟩
 obtain ⟨u,hu,hp⟩:=eachP_cons (P:=thO) hti (hn (hp.up 2))
 obtain ⟨us,hp⟩:=All.ex hp
 have hp:All (rowP 1 u (us.map one1)::txO us ts::eachP thO (ws.drop (i + 1)) (p.threads.drop (i + 1))::pts d (.row 67 [w,i64 p.attempts, .bool p.polite] 3 true)::rowP 1 w (ws.map one1)::R) h2:=All.flat hp
 have ul:us.length=ts.length:=All.case (hn (hp.up 1)) fun h1 p _=> eachP_len p
 have hul:=All.len hp
 rw [List.length_map,ul] at hul
 have hum:=(All.rows hp).max
 rw [List.length_map,ul] at hum
 refine Lfp_fam (ι:=Nat) (fun j=> [ptr d,i64 i,i64 j]) (fun j h'=> j≤ts.length∧All (pts d (.row 67 [w,i64 p.attempts, .bool p.polite] 3 true)::rowP 1 w (ws.map one1)::rowP 1 u (us.map one1)::eachP (fun w t=> rowP 4 w (t.map Op.enc)) (us.drop j) (ts.drop j)::eachP thO (ws.drop (i + 1)) (p.threads.drop (i + 1))::R) h') (fun j=> ts.length - j) ?_ 0 h2 ⟨by omega,hn (hp.re 5 [3,4,0,1,2])⟩
 clear hp
 rintro j h3 Y ⟨hj,hp⟩ again2
 simp only [tup_zero,tup_succ]
 obtain ⟨q1,e1,e2⟩:=(All.rows (hn (hp.up 1))).get1 (i:=i) (x:=u) (by rw [List.getElem?_map,hu];rfl) .i64
 refine wk ?_
 refine bnd_of e1 (bnd_of e2 (bnd_of hul ?_))
 refine wk ?_
 refine ifV_cases (fun c2=> ?_) fun c2=> ?_
 ·obtain ⟨t,htj⟩:∃ t,ts[j]?=some t:=⟨_,List.getElem?_eq_getElem (by omega)⟩
  obtain ⟨x,hx,hp⟩:=eachP_cons (P:=fun w t=> rowP 4 w (t.map Op.enc)) htj (hn (hp.up 3))
  obtain ⟨b0,o0,k1,k2,_⟩:=(All.rows (hn (hp.up 4))).fld (i:=j) (c:= [x]) (by rw [List.getElem?_map,hx];rfl) .i64
  refine wk ?_
  refine bnd_of e1 ?_
  obtain ⟨q2,e3,e4⟩:=(All.rows (hn (hp.up 3))).get1 (i:=i) (x:=u) (by rw [List.getElem?_map,hu];rfl) .i64
  rw [e1] at e3
  cases e3
  refine bnd_of e4 (bnd_of k1 (bnd_of rfl (bnd_of (k2 0 x rfl) ?_)))
  refine T_SpoilOps hp fun h4 hp=> ?_
  refine wk ?_
  exact again2 (j + 1) _ ⟨by omega,hn (hp.re 5 [1,2,3,0,4])⟩ (by omega)
 ·refine wk ?_
  exact again (i + 1) _ ⟨by omega,hn (hp.re 5 [0,1,4])⟩ (by omega)
end
theorem All2.split{α β:Type}{A:α→β→Prop}{B:β→Prop}{xs:List α}{ys:List β}(a:All2 (fun x y=> A x y∧B y) xs ys):All2 A xs ys∧∀ y ∈ ys,B y:=by
 refine ⟨a.mono fun _ _ z=> z.1,fun y hy=> ?_⟩
 obtain ⟨i,hi,he⟩:=List.mem_iff_getElem.1 hy
 obtain ⟨x,_,z⟩:=a.get (i:=i) (y:=y) (by rw [List.getElem?_eq_getElem hi,he])
 exact z.2
theorem open_txnB{H:Type}{enc:TypeId × Value→H}{W:World}{fuel:Nat}{cs:List Value}{d:DataW H}{ps:List MemPlace}(h:DataW.trod enc Pg W 0 (fun _=> true) true fuel 27 cs=some (d,ps))(hw:(d.weights Pg 27).all (· ≤reachBytes)=true):∃ t:Txn,txnC (full W) cs t∧t.length * 32≤140737488355328:=by
 obtain ⟨hl,hfs⟩:=open_struct Tryz.underlying27 h hw
 have c1:Pg.cellsOf 27=1:=by kernel_rfl
 have c2:Pg.cellsOf 25=1:=by kernel_rfl
 have b1:Pg.bytesOf 24=32:=by kernel_rfl
 obtain ⟨f',d',ps',t0,w0⟩:=hfs 0 25 0 1 rfl c2
 obtain ⟨w,xs,h1,h2,h3⟩:=open_rows (P:=Pg) Op.enc Tryz.underlying25 (size:=4) (by kernel_rfl) (by decide) (fun _=> rfl) (fun fuel cs d ps h=> open_opP h) t0 w0
 rw [b1] at h3
 exact ⟨xs,⟨w,one_cell (by rw [hl,c1]) h1,h2⟩,Nat.le_trans h3 (by decide)⟩
theorem open_threadB{H:Type}{enc:TypeId × Value→H}{W:World}{fuel:Nat}{cs:List Value}{d:DataW H}{ps:List MemPlace}(h:DataW.trod enc Pg W 0 (fun _=> true) true fuel 28 cs=some (d,ps))(hw:(d.weights Pg 28).all (· ≤reachBytes)=true):∃ ts:List Txn,thrC (full W) cs ts∧(ts.length * 24≤140737488355328∧∀ t ∈ ts,t.length * 32≤140737488355328):=by
 have b1:Pg.bytesOf 27=24:=by kernel_rfl
 obtain ⟨w,es,h1,h2,h3,h4⟩:=open_rowsQ (P:=Pg) (size:=1) (fun c=> ∃ t:Txn,txnC (full W) c t∧t.length * 32≤140737488355328) Tryz.underlying28 (by kernel_rfl) (by decide) (fun c ⟨t,⟨w,hc,_⟩,_⟩=> by rw [hc];rfl) (fun fuel cs d ps h w=> open_txnB h w) h hw
 obtain ⟨ts,ht⟩:=All2.of (R:=fun c t=> txnC (full W) c t∧t.length * 32≤140737488355328) (fun c hc=> hc) es h3
 rw [b1,ht.1] at h4
 obtain ⟨s1,s2⟩:=All2.split ht
 exact ⟨ts,⟨w,es,h1,h2,s1⟩,Nat.le_trans h4 (by decide),s2⟩
theorem open_threadsB{H:Type}{enc:TypeId × Value→H}{W:World}{fuel:Nat}{cs:List Value}{d:DataW H}{ps:List MemPlace}(h:DataW.trod enc Pg W 0 (fun _=> true) true fuel 65 cs=some (d,ps))(hw:(d.weights Pg 65).all (· ≤reachBytes)=true):∃ v,∃ p:List (List Txn),cs= [v]∧threadsAt (full W) v p∧PlB p:=by
 have b1:Pg.bytesOf 28=24:=by kernel_rfl
 obtain ⟨w,es,h1,h2,h3,h4⟩:=open_rowsQ (P:=Pg) (size:=1) (fun c=> ∃ t:List Txn,thrC (full W) c t∧(t.length * 24≤140737488355328∧∀ x ∈ t,x.length * 32≤140737488355328)) Tryz.underlying65 (by kernel_rfl) (by decide) (fun c ⟨t,⟨w,_,hc,_⟩,_⟩=> by rw [hc];rfl) (fun fuel cs d ps h w=> open_threadB h w) h hw
 obtain ⟨ts,ht⟩:=All2.of (R:=fun c t=> thrC (full W) c t∧(t.length * 24≤140737488355328∧∀ x ∈ t,x.length * 32≤140737488355328)) (fun c hc=> hc) es h3
 rw [b1,ht.1] at h4
 obtain ⟨s1,s2⟩:=All2.split ht
 exact ⟨w,ts,h1,⟨es,h2,s1⟩,Nat.le_trans h4 (by decide),fun t hx=> (s2 t hx).1,fun t hx=> (s2 t hx).2⟩
theorem open_planB{H:Type}{enc:TypeId × Value→H}{W:World}{base:Nat}{v:VV}{d:DataW H}{ps:List MemPlace}(hval:Value.okWide Pg W .any base 67 v)(h:DataW.Trod enc Pg W 0 (fun _=> true) true 67 v d ps)
  (hw:(d.weights Pg 67).all (· ≤reachBytes)=true):∃ u p,v= .agg (planC u p).toArray∧threadsAt (full W) u p.threads∧PlB p.threads:=by
 unfold Value.okWide at hval
 simp only [Tryz.underlying67] at hval
 obtain ⟨arr,rfl,hsz,_⟩:=hval
 obtain ⟨fuel,t⟩:=h
 have t:DataW.trod enc Pg W 0 (fun _=> true) true fuel 67 arr.toList=some (d,ps):=t
 obtain ⟨hl,hfs⟩:=open_struct Tryz.underlying67 t hw
 have c1:Pg.cellsOf 67=3:=by kernel_rfl
 have c2:Pg.cellsOf 65=1:=by kernel_rfl
 have c3:Pg.cellsOf 3=1:=by kernel_rfl
 have c4:Pg.cellsOf 4=1:=by kernel_rfl
 obtain ⟨_,_,_,t0,w0⟩:=hfs 0 65 0 1 rfl c2
 obtain ⟨_,_,_,t1,w1⟩:=hfs 1 3 1 1 rfl c3
 obtain ⟨_,_,_,t2,w2⟩:=hfs 2 4 2 1 rfl c4
 obtain ⟨u,p,e0,hp,hb⟩:=open_threadsB t0 w0
 obtain ⟨x,e1,_⟩:=open_int_cs Tryz.underlying3 t1
 obtain ⟨y,e2⟩:=open_bool_cs Tryz.underlying4 t2
 refine ⟨u,⟨p,x,y⟩,?_,hp,hb⟩
 have:arr.toList=planC u ⟨p,x,y⟩:=by
  rw [c1] at hl
  generalize arr.toList=cs at *
  match cs,hl with
  | [a,b,c],_=>
    simp at e0 e1 e2
    subst e0 e1 e2
    rfl
 rw [← this]
end Go.Proofs.YtfphpafkhljncaaGreat
namespace Go.Proofs.YtfphpafkhljncaaGreat
open Go GW Go.Proofs
attribute [local irreducible] bnd ldV stV ifV binV eqI
set_option maxRecDepth 20000
section
variable {h g : GH} {K : CC} {v pv : VV} {p : Plan} {picks : List Int} {b rb : Nat} {M : Mc} {R : List Part}
theorem T_sameEvs{e1:VV}(hp:All (evoP e1 M.events::rmcP p v rb M::R) h)(o:M.ok)
  (hK:∀ h',All (evoP e1 M.events::rmcP p v rb M::R) h'→K (.bool true) h'):T Pg 63 [ptr rb] h (fun w h2=> T Pg 62 [e1,w] h2 K):=by
 refine T_rmEvents (hn (hp.up 1)) o fun w ws gz h2 hl ha hz hp=> ?_
 refine evoP_open (hn (hp.up 2)) fun us hu hp=> ?_
 refine T_SameEvents hp (fun h' hp=> evR_of hp) (fun h' hp=> ⟨All.rows (hn (hp.up 2)),ansP.mono _ _ (All.baseLe (hn (hp.up 3))) ha⟩) hu hl fun h3 hp=> ?_
 rw [decide_eq_true rfl]
 have hp:=evoP_shut hu (hn (hp.re 4 [0,1,3]))
 exact hK _ (hn ((hn (hp.up 1)).head (Q:=rmcP p v rb M) (fun _ z=> rmcP.le z hz) |>.re 2 [1,0]))
theorem T_Machines(hp:All [baseP g] h)(ht:threadsAt g v p.threads)(hb:PlB p.threads)(rp:rowsAt g 1 pv (picks.map encI))(hK:∀ h',K (.bool true) h'):T Pg 11 [.agg (planC v p).toArray,pv] h K:=by
 apply S11_T
 unfold S11
 have hpl:lnV pv=some (i64 picks.length):=by have:=rp.len;rw [List.length_map] at this;exact this
 have hpm:picks.length≤9223372036854775807:=by have:=rp.max;rw [List.length_map] at this;exact this
 refine nw hp (.row 67 (planC v p) 3 true) rfl fun d h1 hp=> ?_
 refine la0 hp (c:=planC v p) (Nat.le_refl 3) rfl ?_
 refine T_CopyPlan hp (fun h' hp=> All.baseLe hp.tail) ht hb fun q h2 hp=> ?_
 obtain ⟨qa,qn,qc,rfl⟩:∃ a n c,q= .slice a n c:=by
  obtain ⟨ws,hp⟩:=All.ex hp
  exact All.isSlice (All.flat (l:= [_,_]) hp)
 refine nwst hp (.row 67 (planC (.slice qa qn qc) p) 3 true) rfl rfl rfl rfl fun d2 h3 hp=> ?_
 refine la0 hp (c:=planC (.slice qa qn qc) p) (Nat.le_refl 3) rfl ?_
 obtain ⟨gq,pq,hp⟩:=All.base (hn (hp.up 1))
 have tq:=pq.threads
 refine T_mNew hp (fun h' hp=> All.baseLe hp) tq (fun hm h4 hp=> ?_) fun hm b h4 hp=> ?_
 ·refine wk ?_
  refine la2 hp (c:=planC v p) (Nat.le_refl 3) rfl ?_
  refine T_rmNew hp (fun h' hp=> All.baseLe hp.tail.tail.tail) ht (fun _ h5 hp=> ?_) fun hm2=> by rw [hm] at hm2;cases hm2
  refine wk ?_
  refine T_Num ?_
  refine wk ?_
  refine T_mawake hp fun h6 hp=> hK _
 ·refine wk ?_
  replace hp:=hn (hp.up 3)
  refine la0 hp (c:=planC v p) (Nat.le_refl 3) rfl ?_
  refine T_rmNew hp (fun h' hp=> All.baseLe hp.tail.tail.tail.tail) ht (fun hm2=> by rw [hm] at hm2;cases hm2) fun _ rb h5 hp=> ?_
  refine wk ?_
  refine T_Num ?_
  refine wk ?_
  refine la1 hp (c:=planC v p) (Nat.le_refl 3) rfl ?_
  replace hp:=hn (hp.up 4)
  refine la0 hp (c:=planC (.slice qa qn qc) p) (Nat.le_refl 3) rfl ?_
  refine T_SamePlan hp (fun h' hp=> ht.le (All.baseLe hp.tail.tail.tail.tail.tail)) (fun h' hp=> tq.le (All.baseLe (hn (hp.up 4)))) fun h6 hp=> ?_
  refine wk ?_
  unfold S11_j1
  refine la0 hp (c:=planC (.slice qa qn qc) p) (Nat.le_refl 3) rfl ?_
  replace hp:=(hn (hp.up 4)).head (Q:=plO (.slice qa qn qc) p.threads) fun _ z=> plO.le z pq
  refine T_SpoilPlan hp fun h7 hp=> ?_
  replace hp:=hn (hp.re 5 [1,3,4])
  refine Lfp_fam (ι:=Nat × Mc × List Int × Int) (fun q=> [pv,ptr b,ptr rb,i64 q.1]) (fun q h'=> q.1≤picks.length∧q.1≤400∧q.2.1.ok∧q.2.1.si q.2.2.1 q.2.2.2∧(∀ x ∈ q.2.1.ths,x.una)∧All (rmcP p v rb q.2.1::mcP b q.2.1:: [baseP g]) h') (fun q=> picks.length - q.1) ?_ (0,Mc.new p,twelve,0) h7 ⟨by omega,by omega,Mc.new_ok hm,Mc.new_si,Mc.new_una,hp⟩
  clear hp
  rintro ⟨i,M,fr,c⟩ h8 X ⟨hi,hi3,o,S,un,hp⟩ again
  simp only at hi hi3 o S un hp
  simp only [tup_zero,tup_succ]
  have fin:∀ s a,S11_j4 s (ptr b) (ptr rb) h8 K a:=by
   intro s a
   clear again
   unfold S11_j4
   refine T_mEvents (hn (hp.up 1)) o fun e1 h9 hp=> ?_
   refine T_mTouches (hn (hp.up 1)) o fun t1 h10 hp=> ?_
   refine T_mWords (hn (hp.up 1)) fun w1 h11 hp=> ?_
   replace hp:=hn (hp.re 5 [3,4,2,0,1])
   refine T_sameEvs hp o fun h12 hp=> ?_
   refine wk ?_
   replace hp:=hn (hp.up 1)
   refine rmcP_open hp fun a bs tv xv hp=> ?_
   have ld18:ldV 1 false (.pointer (some ⟨rb,0 + 18,none⟩)) h12=some xv:=lv_ld2 hp 1 rfl (by rw [o.L];rfl)
   have hp0:=hp
   unfold rmcRow lvRow at hp
   refine wk ?_
   refine bnd_of ld18 ?_
   refine T_SameTouchs (All.rows (hn (hp.up 6))) (All.rows (hn (hp.up 3))) ?_
   rw [decide_eq_true rfl]
   refine wk ?_
   refine T_SameInts (All.rows (hn (hp.up 7))) (arP.rows (P:=emp) (hn (hp.up 1))) ?_
   rw [decide_eq_true rfl]
   refine wk ?_
   unfold S11_j5
   have hp:=rmcP_shut hp0
   clear hp0 ld18
   refine T_SpoilEvents (hn (hp.up 1)) fun h13 hp=> ?_
   replace hp:=hn (hp.re 4 [3,0,1,2])
   refine T_SpoilTouchs (by first | exact hp | exact hn (hp.up 1) | exact hn (hp.up 2) | exact hn (hp.up 3) | exact hn (hp.up 4)) fun h14 hp=> ?_
   refine T_SpoilInts (by first | exact hp | exact hn (hp.up 1) | exact hn (hp.up 2) | exact hn (hp.up 3) | exact hn (hp.up 4)) fun h15 hp=> ?_
   refine T_mEvents (by first | exact hp | exact hn (hp.up 1) | exact hn (hp.up 2)) o fun e2 h16 hp=> ?_
   refine T_sameEvs (by first | exact hp | exact hn (hp.re 3 [0,2,1]) | exact hn (hp.re 3 [0,1,2])) o fun h17 hp=> ?_
   refine wk ?_
   replace hp:All (rmcP p v rb M::evoP e2 M.events::_) h17:=hn (hp.up 1)
   refine rmcP_open hp fun a bs tv xv hp=> ?_
   have ld18:∀ {h'} {R'},All (pts rb (rmcRow p v a tv M.L M.picks xv)::R') h'→ldV 1 false (.pointer (some ⟨rb,0 + 18,none⟩)) h'=some xv:=fun hp=> lv_ld2 hp 1 rfl (by rw [o.L];rfl)
   have hp0:=hp
   unfold rmcRow lvRow at hp
   refine wk ?_
   refine bnd_of (ld18 hp0) ?_
   refine T_mTouches (hn (hp0.up 6)) o fun t2 h18 hp=> ?_
   refine ⟨ld18 (hn (hp.up 2)),?_⟩
   refine T_SameTouchs (All.rows hp) (All.rows (hn (hp.up 5))) ?_
   rw [decide_eq_true rfl]
   refine wk ?_
   exact T_mawake hp fun h19 hp=> hK _
  refine bnd_of hpl ?_
  refine wk ?_
  refine ifV_cases (fun c1=> ?_) fun c1=> fin _ _
  refine wk ?_
  refine ifV_cases (fun c2=> ?_) fun c2=> fin _ _
  clear fin
  unfold S11_j2
  obtain ⟨x,hx⟩:∃ x,picks[i]?=some x:=⟨_,List.getElem?_eq_getElem (by omega)⟩
  have get:∀ {h'},HLe g h'→∃ q,isV 1 pv (i64 i)=some q∧ldV 1 false q h'=some (i64 x):=fun hl=> (rp.le hl).get1 (by rw [List.getElem?_map,hx];rfl) .i64
  obtain ⟨q1,d1,d2_⟩:=get (All.baseLe hp.tail.tail)
  refine bnd_of d1 (bnd_of d2_ ?_)
  refine T_mPick (hn (hp.up 1)) o fun h9 hp=> ?_
  refine wk ?_
  obtain ⟨q2,d3,d4⟩:=get (All.baseLe hp.tail.tail)
  rw [d1] at d3
  cases d3
  refine bnd_of d1 (bnd_of d4 ?_)
  refine T_rmPick (hn (hp.up 1)) o S fun h10 hp=> ?_
  have o2:=Mc.pick_ok (k:=x) o
  obtain ⟨fr',c',S',_⟩:=Mc.pick_si (k:=x) o S
  have un2:=Mc.pick_una (k:=x) o un
  generalize M.pick x=r at hp o2 S' un2
  obtain ⟨M',is,e⟩:=r
  dsimp only at hp o2 S' un2 ⊢
  refine wk ?_
  rw [beq_self_eq_true]
  refine wk ?_
  refine T_Num ?_
  refine wk ?_
  rw [decide_eq_true rfl]
  refine wk ?_
  refine T_mDone (hn (hp.up 1)) o2 ?_
  refine T_rmDone hp o2 un2 ?_
  refine wk ?_
  rw [beq_self_eq_true]
  refine wk ?_
  unfold S11_j3
  refine bnd_of (binV_and_mask i 5 (by decide) (by decide)) ?_
  refine wk ?_
  refine ifV_cases (fun c3=> ?_) fun c3=> ?_
  ·refine T_mEvents (hn (hp.up 1)) o2 fun e1 h11 hp=> ?_
   refine T_sameEvs (hn (hp.re 3 [0,2,1])) o2 fun h12 hp=> ?_
   refine wk ?_
   refine T_SpoilEvents hp fun h13 hp=> ?_
   refine wk ?_
   exact again (i + 1,M',fr',c') _ ⟨by simp only;omega,by simp only;omega,o2,S',un2,hp⟩ (by simp only;omega)
  ·refine wk ?_
   exact again (i + 1,M',fr',c') _ ⟨by simp only;omega,by simp only;omega,o2,S',un2,hp⟩ (by simp only;omega)
end
end Go.Proofs.YtfphpafkhljncaaGreat
