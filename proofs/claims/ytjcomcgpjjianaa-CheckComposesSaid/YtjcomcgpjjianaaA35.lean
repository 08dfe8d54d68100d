import Derived.Test.YtjcomcgpjjianaaA17
import Derived.Test.YtjcomcgpjjianaaA19
import Derived.Test.YtjcomcgpjjianaaA25
import Derived.Test.YtjcomcgpjjianaaA33
import Derived.Test.YtjcomcgpjjianaaA34
set_option linter.all false
set_option maxHeartbeats 16000000
set_option maxRecDepth 8000
open Go.Value renaming int→O
open Go.IntKind renaming i64→U
namespace Go.Proofs.Ytjcomcgpjjianaa
open Go.Ev
theorem Pm.all_of{Φ:Pm->Prop}(h: ∀a b c d:Fin 4,Φ ⟨(a.val:Int),(b.val:Int),(c.val:Int),(d.val:Int)⟩)(p:Pm)(hp:p.inside):Φ p:=by
 obtain⟨a,b,c,d⟩:=p
 obtain⟨⟨a0,a1⟩,⟨b0,b1⟩,⟨c0,c1⟩,⟨d0,d1⟩⟩:=hp
 simp only at a0 a1 b0 b1 c0 c1 d0 d1
 have:=h ⟨a.toNat,by omega⟩ ⟨b.toNat,by omega⟩ ⟨c.toNat,by omega⟩ ⟨d.toNat,by omega⟩
 simp only at this
 rw[show((a.toNat:Nat):Int)=a by omega,show((b.toNat:Nat):Int)=b by omega,show((c.toNat:Nat):Int)=c by omega,show((d.toNat:Nat):Int)=d by omega]at this
 exact this
def In4(i:Int):Prop:=0<=i/\i<4
theorem In4.all_of{Φ:Int->Prop}(h: ∀a:Fin 4,Φ (a.val:Int))(i:Int)(hi:In4 i):Φ i:=by
 have:=h ⟨i.toNat,by have:=hi.1;have:=hi.2;omega⟩
 simp only at this
 rw[show((i.toNat:Nat):Int)=i by have:=hi.1;omega]at this
 exact this
theorem Pm.DZ{p q:Pm}(h: ∀i,In4 i->p.at i=q.at i):p=q:=by
 obtain⟨a,b,c,d⟩:=p
 obtain⟨a',b',c',d'⟩:=q
 have h0:=h 0 ⟨by omega,by omega⟩
 have h1:=h 1 ⟨by omega,by omega⟩
 have h2:=h 2 ⟨by omega,by omega⟩
 have h3:=h 3 ⟨by omega,by omega⟩
 simp[Pm.at]at h0 h1 h2 h3
 simp[h0,h1,h2,h3]
theorem Pm.at4{p:Pm}(hp:p.ok=true){i:Int}(hi:In4 i):In4 (p.at i):=Pm.at_inside p (Pm.DI hp) hi
theorem Pm.DK(p q:Pm){i:Int}(hi:In4 i):(p.times q).at i=p.at (q.at i):=by
 have:i=0\/i=1\/i=2\/i=3:=by have:=hi.1;have:=hi.2;omega
 rcases this with rfl|rfl|rfl|rfl<;>rfl
theorem Pm.D3: ∀a b c d:Fin 4,(Pm.mk (a.val:Int) (b.val:Int) (c.val:Int) (d.val:Int)).ok=true->(Pm.mk (a.val:Int) (b.val:Int) (c.val:Int) (d.val:Int)).undo.ok=true/\(∀i:Fin 4,(Pm.mk (a.val:Int) (b.val:Int) (c.val:Int) (d.val:Int)).undo.at ((Pm.mk (a.val:Int) (b.val:Int) (c.val:Int) (d.val:Int)).at (i.val:Int))=(i.val:Int))/\(∀i:Fin 4,(Pm.mk (a.val:Int) (b.val:Int) (c.val:Int) (d.val:Int)).at ((Pm.mk (a.val:Int) (b.val:Int) (c.val:Int) (d.val:Int)).undo.at (i.val:Int))=(i.val:Int)):=by decide+kernel
theorem Pm.DN{p:Pm}(hp:p.ok=true):p.undo.ok=true:=(Pm.all_of (Φ:=fun p=>p.ok=true->p.undo.ok=true) (fun a b c d h=>(Pm.D3 a b c d h).1) p (Pm.DI hp)) hp
theorem Pm.DR{p:Pm}(hp:p.ok=true){i:Int}(hi:In4 i):p.undo.at (p.at i)=i:=(Pm.all_of (Φ:=fun p=>p.ok=true-> ∀i,In4 i->p.undo.at (p.at i)=i) (fun a b c d h=>In4.all_of fun i=>(Pm.D3 a b c d h).2.1 i) p (Pm.DI hp)) hp i hi
theorem Pm.DU{p:Pm}(hp:p.ok=true){i:Int}(hi:In4 i):p.at (p.undo.at i)=i:=(Pm.all_of (Φ:=fun p=>p.ok=true-> ∀i,In4 i->p.at (p.undo.at i)=i) (fun a b c d h=>In4.all_of fun i=>(Pm.D3 a b c d h).2.2 i) p (Pm.DI hp)) hp i hi
theorem Pm.inj{p:Pm}(hp:p.ok=true){i j:Int}(hi:In4 i)(hj:In4 j)(h:p.at i=p.at j):i=j:=by
 rw[<-Pm.DR hp hi,h,Pm.DR hp hj]
theorem Pm.ok_of{p:Pm}(h: ∀i,In4 i->In4 (p.at i))(hi: ∀i j,In4 i->In4 j->p.at i=p.at j->i=j):p.ok=true:=by
 obtain⟨a,b,c,d⟩:=p
 have i0:In4 0:=⟨by omega,by omega⟩
 have i1:In4 1:=⟨by omega,by omega⟩
 have i2:In4 2:=⟨by omega,by omega⟩
 have i3:In4 3:=⟨by omega,by omega⟩
 have h0:=h 0 i0
 have h1:=h 1 i1
 have h2:=h 2 i2
 have h3:=h 3 i3
 have e01:=hi 0 1 i0 i1
 have e02:=hi 0 2 i0 i2
 have e03:=hi 0 3 i0 i3
 have e12:=hi 1 2 i1 i2
 have e13:=hi 1 3 i1 i3
 have e23:=hi 2 3 i2 i3
 simp[Pm.at]at h0 h1 h2 h3 e01 e02 e03 e12 e13 e23
 show cM [a,b,c,d]=true
 rw[er]
 refine⟨fun x hx=> ?_,?_⟩
 ·simp only[EG,EK,or_false]at hx
  rcases hx with rfl|rfl|rfl|rfl
  ·exact h0
  ·exact h1
  ·exact h2
  ·exact h3
 ·simp[e01,e02,e03,e12,e13,e23]
theorem Pm.DM{p q:Pm}(hp:p.ok=true)(hq:q.ok=true):(p.times q).ok=true:=Pm.ok_of (fun i hi=>by rw[Pm.DK p q hi];exact Pm.at4 hp (Pm.at4 hq hi)) fun i j hi hj h=>by
 rw[Pm.DK p q hi,Pm.DK p q hj]at h
 exact Pm.inj hq hi hj (Pm.inj hp (Pm.at4 hq hi) (Pm.at4 hq hj) h)
theorem Pm.DQ{p q:Pm}(hp:p.ok=true)(hq:q.ok=true):(p.times q).undo=q.undo.times p.undo:=by
 have hpq:=Pm.DM hp hq
 refine Pm.DZ fun i hi=> ?_
 have h1:In4 (q.undo.at (p.undo.at i)):=Pm.at4 (Pm.DN hq) (Pm.at4 (Pm.DN hp) hi)
 rw[Pm.DK _ _ hi]
 refine Pm.inj hpq (Pm.at4 (Pm.DN hpq) hi) h1 ?_
 rw[Pm.DU hpq hi,Pm.DK _ _ h1,Pm.DU hq (Pm.at4 (Pm.DN hp) hi),Pm.DU hp hi]
theorem Pm.D8{p:Pm}(hp:p.ok=true):p.undo.undo=p:=by
 refine Pm.DZ fun i hi=> ?_
 have h1:=Pm.DN hp
 refine Pm.inj h1 (Pm.at4 (Pm.DN h1) hi) (Pm.at4 hp hi) ?_
 rw[Pm.DU h1 hi,Pm.DR hp hi]
theorem Pm.DO{p q r:Pm}(hq:q.ok=true)(hr:r.ok=true):(p.times q).times r=p.times (q.times r):=by
 refine Pm.DZ fun i hi=> ?_
 rw[Pm.DK _ _ hi,Pm.DK _ _ (Pm.at4 hr hi),Pm.DK _ _ hi,Pm.DK _ _ hi]
theorem Pm.DV{i:Int}(hi:In4 i):Pm.one.at i=i:=by
 have:i=0\/i=1\/i=2\/i=3:=by have:=hi.1;have:=hi.2;omega
 rcases this with rfl|rfl|rfl|rfl<;>rfl
theorem Pm.D0{p:Pm}(hp:p.ok=true):Pm.one.times p=p:=Pm.DZ fun i hi=>by rw[Pm.DK _ _ hi,Pm.DV (Pm.at4 hp hi)]
theorem Pm.D1{p:Pm}:p.times Pm.one=p:=Pm.DZ fun i hi=>by rw[Pm.DK _ _ hi,Pm.DV hi]
def kD:Fc:=⟨-1,Pm.none⟩
structure FOk(g:List Row)(t:Nat)(f:Int)(x:Fc):Prop where
 lo:0<=x.t
 hi:x.t<g.length
 ok:x.p.ok=true
 no: ¬(x.t=t/\x.p.at f=f)
 back:az g x.t.toNat (x.p.at f).toNat=⟨t,x.p.undo⟩
def VG(g:List Row):Prop:= ∀t,t<g.length-> ∀f:Nat,f<4->az g t f=kD\/FOk g t f (az g t f)
theorem iR(g:List Row):eX g=true↔g.length<=1000/\VG g:=by
 rw[jo]
 refine and_congr Iff.rfl ?_
 constructor
 ·intro h t ht f hf
  have:=h t ht f hf
  unfold okF at this
  rw[E8,Fc.D7]at this
  rcases this with h|h
  ·exact .inl h
  ·simp only[EC,Fk,decide_eq_false_iff_not,Bool.and_eq_false_iff,beq_eq_false_iff_ne,Fc.eq_iff]at h
   obtain⟨⟨⟨⟨h1,h2⟩,h3⟩,h4⟩,h5⟩:=h
   refine .inr ⟨by omega,by omega,h3,?_,h5⟩
   rintro⟨a,b⟩
   rcases h4 with h4|h4
   ·exact h4 a
   ·exact h4 b
 ·intro h t ht f hf
  unfold okF
  rw[E8,Fc.D7]
  rcases h t ht f hf with h|h
  ·exact .inl h
  ·right
   simp only[EC,Fk,decide_eq_false_iff_not,Bool.and_eq_false_iff,beq_eq_false_iff_ne,Fc.eq_iff]
   refine⟨⟨⟨⟨by have:=h.lo;omega,by have:=h.hi;omega⟩,h.ok⟩,?_⟩,h.back⟩
   by_cases e:(az g t f).t=t
   ·exact .inr fun e'=>h.no ⟨e,e'⟩
   ·exact .inl e
theorem wJ{g g':List Row}(hg:VG g)(Org:Nat->Nat->Option (Nat×Pm))(h1: ∀T,T<g'.length-> ∀f,f<4-> ∀t E,Org T f=some (t,E)->t<g.length/\E.ok=true)(h2: ∀T,T<g'.length-> ∀f,f<4-> ∀T',T'<g'.length-> ∀f',f'<4-> ∀t E E',Org T f=some (t,E)->Org T' f'=some (t,E')->E.at f=E'.at f'->T=T'/\f=f')(h3: ∀T,T<g'.length-> ∀f,f<4-> ∀t E,Org T f=some (t,E)->az g' T f=az g t (E.at f).toNat/\az g t (E.at f).toNat=kD\/ ∃T' f' E',T'<g'.length/\f'<4/\Org T' f'=some ((az g t (E.at f).toNat).t.toNat,E')/\E'.at f'=(az g t (E.at f).toNat).p.at (E.at f)/\az g' T f=⟨T',E'.undo.times ((az g t (E.at f).toNat).p.times E)⟩/\az g t (E.at f).toNat≠kD)(h4: ∀T,T<g'.length-> ∀f,f<4->Org T f=none->FOk g' T f (az g' T f)):VG g':=by
 intro T hT f hf
 cases ho:Org T f with
 |none=>exact .inr (h4 T hT f hf ho)
 |some tE=>
  obtain⟨t,E⟩:=tE
  obtain⟨ht,hE⟩:=h1 T hT f hf t E ho
  have hf4:In4 (f:Int):=⟨by omega,by omega⟩
  have hEf:=Pm.at4 hE hf4
  have hEn:(((E.at f).toNat:Nat):Int)=E.at f:=by have:=hEf.1;omega
  have hE4:(E.at f).toNat<4:=by have:=hEf.2;omega
  rcases h3 T hT f hf t E ho with ⟨a,b⟩|⟨T',f',E',hT',hf',ho',hlab,hface,hne⟩
  ·left;rw[a,b]
  ·have hold:=hg t ht _ hE4
   generalize hx:az g t (E.at f).toNat=x at hold hlab hface ho' hne
   rcases hold with hold|hold
   ·exact absurd hold hne
   obtain⟨ht',hE'⟩:=h1 T' hT' f' hf' _ E' ho'
   have hf4':In4 (f':Int):=⟨by omega,by omega⟩
   have hback:=hold.back
   rw[hEn]at hback
   have hno:=hold.no
   rw[hEn]at hno
   have hxt:((x.t.toNat:Nat):Int)=x.t:=by have:=hold.lo;omega
   have hperm:(E'.undo.times (x.p.times E)).ok=true:=Pm.DM (Pm.DN hE') (Pm.DM hold.ok hE)
   have hlabT:(E'.undo.times (x.p.times E)).at f=f':=by
    rw[Pm.DK _ _ hf4,Pm.DK _ _ hf4,<-hlab,Pm.DR hE' hf4']
   right
   rw[hface]
   refine⟨by show(0:Int)<=(T':Int);omega,by show(T':Int)<_;omega,hperm,?_,?_⟩
   ·rintro⟨a,b⟩
    have a:(T':Int)=T:=a
    have a:T'=T:=by omega
    subst a
    have b:(E'.undo.times (x.p.times E)).at f=f:=b
    rw[hlabT]at b
    have b:f'=f:=by omega
    subst b
    rw[ho]at ho'
    cases ho'
    exact hno ⟨hxt.symm,hlab.symm⟩
   ·show az g' (T':Int).toNat ((E'.undo.times (x.p.times E)).at f).toNat=⟨T,(E'.undo.times (x.p.times E)).undo⟩
    rw[hlabT,Int.toNat_natCast,Int.toNat_natCast]
    have hlabN:(E'.at f').toNat=(x.p.at (E.at f)).toNat:=by rw[hlab]
    have hback':az g x.t.toNat (E'.at f').toNat=⟨t,x.p.undo⟩:=by rw[hlabN];exact hback
    rcases h3 T' hT' f' hf' _ E' ho' with ⟨_,b⟩|⟨T2,f2,E2,hT2,hf2,ho2,hlab2,hface2,_⟩
    ·rw[hback']at b;cases b
    ·rw[hback']at ho2 hlab2 hface2
     simp only[Int.toNat_natCast]at ho2
     have hl:E2.at f2=E.at f:=by
      rw[hlab2,hlab,Pm.DR hold.ok hEf]
     obtain⟨hT,hf⟩:=h2 T2 hT2 f2 hf2 T hT f hf t E2 E ho2 ho hl
     subst hT;subst hf
     rw[ho]at ho2
     cases ho2
     rw[hface2]
     congr 1
     rw[Pm.DQ (Pm.DN hE') (Pm.DM hold.ok hE),Pm.DQ hold.ok hE,Pm.D8 hE',Pm.DO (Pm.DN hold.ok) hE']
def kE(g:List Row)(order:Nat->Nat)(perm:Nat->Pm)(back:Nat->Nat)(i f:Nat):Fc:=if(az g (order i) ((perm i).at f).toNat).t<0 then az g (order i) ((perm i).at f).toNat
 else⟨(back (az g (order i) ((perm i).at f).toNat).t.toNat:Nat),(perm (back (az g (order i) ((perm i).at f).toNat).t.toNat)).undo.times ((az g (order i) ((perm i).at f).toNat).p.times (perm i))⟩
theorem vg_ren{g g':List Row}(hg:VG g)(hn:g'.length=g.length){order back:Nat->Nat}{perm:Nat->Pm}(ho: ∀i,i<g.length->order i<g.length/\back (order i)=i)(hb: ∀t,t<g.length->back t<g.length/\order (back t)=t)(hp: ∀i,i<g.length->(perm i).ok=true)(hf: ∀i,i<g.length-> ∀f,f<4->az g' i f=kE g order perm back i f):VG g':=by
 refine wJ hg (fun i _=>some (order i,perm i)) ?_ ?_ ?_ ?_
 ·intro T hT f _ t E h
  cases h
  exact⟨(ho T (by omega)).1,hp T (by omega)⟩
 ·intro T hT f h4 T' hT' f' h4' t E E' h h' he
  have h:=Fj h
  have h':=Fj h'
  have e1:order T=t:=congrArg Prod.fst h
  have e2:order T'=t:=congrArg Prod.fst h'
  have e3:perm T=E:=congrArg Prod.snd h
  have e4:perm T'=E':=congrArg Prod.snd h'
  have hTT:T=T':=by rw[<-(ho T (by omega)).2,e1,<-e2,(ho T' (by omega)).2]
  subst hTT
  refine⟨rfl,?_⟩
  rw[<-e3,<-e4]at he
  have:=Pm.inj (hp T (by omega)) (i:=(f:Int)) (j:=(f':Int)) ⟨by omega,by omega⟩ ⟨by omega,by omega⟩ he
  omega
 ·intro T hT f h4 t E h
  have h:=Fj h
  have e1:order T=t:=congrArg Prod.fst h
  have e3:perm T=E:=congrArg Prod.snd h
  subst e1;subst e3
  have hfT:=hf T (by omega) f h4
  unfold kE at hfT
  have hEf:=Pm.at4 (hp T (by omega)) (i:=(f:Int)) ⟨by omega,by omega⟩
  have hE4:((perm T).at f).toNat<4:=by have:=hEf.2;have:=hEf.1;omega
  have hEn:((((perm T).at f).toNat:Nat):Int)=(perm T).at f:=by have:=hEf.1;omega
  rcases hg (order T) (ho T (by omega)).1 _ hE4 with hx|hx
  ·left
   rw[hx]at hfT⊢
   rw[if_pos (by decide)]at hfT
   exact⟨hfT,rfl⟩
  ·right
   have hlo:=hx.lo
   have hhi:=hx.hi
   have hok:=hx.ok
   rw[if_neg (by omega)]at hfT
   generalize hxe:az g (order T) ((perm T).at f).toNat=x at hfT hlo hhi hok hx
   have hb':=hb x.t.toNat (by omega)
   have hpk:=hp _ hb'.1
   have hxp:=Pm.at4 hok hEf
   have hl:=Pm.at4 (Pm.DN hpk) hxp
   refine⟨back x.t.toNat,((perm (back x.t.toNat)).undo.at (x.p.at ((perm T).at f))).toNat,perm (back x.t.toNat),by omega,by have:=hl.1;have:=hl.2;omega,by rw[hb'.2],?_,hfT,?_⟩
   ·rw[show((((perm (back x.t.toNat)).undo.at (x.p.at ((perm T).at f))).toNat:Nat):Int)=(perm (back x.t.toNat)).undo.at (x.p.at ((perm T).at f))by have:=hl.1;omega]
    exact Pm.DU hpk hxp
   ·rintro rfl
    have:(0:Int)<= -1:=hlo
    omega
 ·intro T hT f h4 h;cases h
theorem ren_comp{g b:List Row}(hg:VG g){o1 k1 o2 k2:Nat->Nat}{p1 p2:Nat->Pm}(ho1: ∀i,i<g.length->o1 i<g.length)(hk1: ∀t,t<g.length->k1 t<g.length)(ho2: ∀i,i<g.length->o2 i<g.length)(hk2: ∀t,t<g.length->k2 t<g.length/\o2 (k2 t)=t)(hp1: ∀i,i<g.length->(p1 i).ok=true)(hp2: ∀i,i<g.length->(p2 i).ok=true)(hb: ∀i,i<g.length-> ∀f,f<4->az b i f=kE g o1 p1 k1 i f)(i:Nat)(hi:i<g.length)(f:Nat)(hf:f<4):
 kE b o2 p2 k2 i f=kE g (fun i=>o1 (o2 i)) (fun i=>(p1 (o2 i)).times (p2 i)) (fun t=>k2 (k1 t)) i f:=by
 have hf4:In4 (f:Int):=⟨by omega,by omega⟩
 have h2:=Pm.at4 (hp2 i hi) hf4
 have h24:((p2 i).at f).toNat<4:=by have:=h2.1;have:=h2.2;omega
 have h2n:((((p2 i).at f).toNat:Nat):Int)=(p2 i).at f:=by have:=h2.1;omega
 have h1:=Pm.at4 (hp1 _ (ho2 i hi)) h2
 have h14:((p1 (o2 i)).at ((p2 i).at f)).toNat<4:=by have:=h1.1;have:=h1.2;omega
 have hbi:=hb (o2 i) (ho2 i hi) _ h24
 have hy:=hg (o1 (o2 i)) (ho1 _ (ho2 i hi)) _ h14
 unfold kE at hbi⊢
 rw[h2n]at hbi
 rw[hbi,Pm.DK _ _ hf4]
 generalize az g (o1 (o2 i)) ((p1 (o2 i)).at ((p2 i).at f)).toNat=y at hy
 by_cases hneg:y.t<0
 ·rw[if_pos hneg,if_pos hneg,if_pos hneg]
 ·rw[if_neg hneg,if_neg hneg]
  rcases hy with rfl|hy
  ·exact absurd (by decide) hneg
  ·have hyt:y.t.toNat<g.length:=by have:=hy.lo;have:=hy.hi;omega
   have hk:=hk1 _ hyt
   have hj:=hk2 _ hk
   rw[if_neg (by show¬((k1 y.t.toNat:Nat):Int)<0;omega)]
   show Fc.mk ((k2 ((k1 y.t.toNat:Nat):Int).toNat:Nat):Int) _=Fc.mk _ _
   rw[Int.toNat_natCast]
   congr 1
   show(p2 (k2 (k1 y.t.toNat))).undo.times ((((p1 (k1 y.t.toNat)).undo.times (y.p.times (p1 (o2 i))))).times (p2 i))=((p1 (o2 (k2 (k1 y.t.toNat)))).times (p2 (k2 (k1 y.t.toNat)))).undo.times (y.p.times ((p1 (o2 i)).times (p2 i)))
   have a1:=hp1 _ hk
   have a2:=hp2 _ hj.1
   have a3:=hp1 _ (ho2 i hi)
   have a4:=hp2 i hi
   rw[hj.2,Pm.DQ a1 a2,Pm.DO (Pm.DM hy.ok a3) a4,Pm.DO a3 a4,Pm.DO (Pm.DN a1) (Pm.DM hy.ok (Pm.DM a3 a4))]
noncomputable def pJ:Hook:=fun g n pv R=>
 match Nat.beq g 15 with
 |true=>match pv with
  |none=>some .none
  |some (.iface 92 (.agg ⟨[O U k]⟩))=>match R n with
   | .cells [O U _] 36=>some (.setPush n (.cells [O U k] 36) (.cells [O U k] 92))
   |_=>none
  |_=>none
 |false=>none
def mdT:FuncId->Nat:=fun f=>match Nat.beq f 53 with|true=>1|false=>0
noncomputable def sv:dZ:=fun _ _ _ _=>none
theorem hookT_ok:Ba Try.prog pJ:=by
 intro g n pv T sz fx e
 unfold pJ at e
 split at e
 ·rename_i hg
  have hg:=ES hg
  subst hg
  refine⟨⟨_,f15,rfl,rfl⟩,?_⟩
  split at e
  ·cases e;exact mA n _
  ·rename_i k
   split at e
   ·rename_i x hx
    cases e
    have hat:at_ (toH T sz) n= .cells [O U x] 36:=by rw[rj];exact hx
    refine⟨lE k,?_⟩
    refine m7 n _ x k hat ?_
    rcases FZ n (toH T sz).length with h|h
    ·exact h
    ·rw[dJ h]at hat;cases hat
   ·cases e
  ·cases e
 ·cases e
theorem Ai:(Try.prog.funcs.toList.all fun fn=>fn.body.isNone|| !(fn.name== "runtime.NumGoroutine"))=true:=by decide+kernel
theorem bodies(f:FuncId)(fn:Func)(c:Code)(h:Try.prog.funcs[f]? =some fn)(hb:fn.body=some c):aO Try.prog f:=by
 have:=EI.1 Ai fn (by
  have:Try.prog.funcs.toList[f]? =some fn:=by simpa using h
  exact EE this)
 rw[hb]at this
 refine⟨fn,h,by rw[hb];rfl,by simpa using this⟩
theorem noExt_ok:fH Try.prog sv:=fun _ _ _ _ _ _ _ (e:none=_)=>by cases e
theorem yE:fH Try.prog (oI Try.prog pJ sv mdT 1000000 60):=yL follows bodies hookT_ok noExt_ok (fun f=>by unfold mdT;split<;>simp) 60
def glV(s:Value):Value:= .agg #[s]
theorem r9(H:AH)(s:Value)(g:List Row)(hs:SlG H s g):AC Try.prog 17 [glV s] H (.val (.bool (eX g)) H):=by
 obtain⟨b,k,rfl⟩:=hs.len
 refine AC.o 79 f17 fun σ w hr=> ?_
 refine W.seq (W.g ?_ (by simp[go_sem,glV];rfl))
 have rs:aj (H++[.cells [.slice b g.length k] 24]) H.length 0=some (.slice b g.length k):=by rw[dH];rfl
 by_cases hbig:1000<g.length
 ·have hbig':(1000:Int)<g.length:=by omega
  refine W.seq (W.seq (W.g ?_ (by simp[go_sem,hbig'];rfl)))
  refine W.ct ?_
  refine W.seq (W.g ?_)
  have hf:eX g=false:=by
   rw[FN]
   intro h
   have:=((jo g).1 h).1
   omega
  rw[hf]
  exact W.ret (Ends.quiet (by simp[go_sem]) rfl)
 have hbig': ¬(1000:Int)<g.length:=by omega
 refine W.seq (W.seq (W.g ?_ (by simp[go_sem,hbig'];rfl)))
 refine W.cf (W.skip ?_)
 refine W.seq (W.seq (W.g ?_))
 refine W.block ?_
 refine W.loop (fun m E h=> ∃j G,m=g.length-j/\j<=g.length/\ae E 1= .pointer (some ⟨H.length,0,none⟩)/\ae E 12= .slice b g.length k/\ae E 13=O U g.length/\ae E 14=O U j/\h=H++(.cells [.slice b g.length k] 24::G)/\ ∀t,t<j-> ∀f,f<4->okF g t f (az g t f)=true) g.length
  ⟨0,[],by omega,by omega,by simp[ae],by simp[ae],by simp[ae],by simp[ae],rfl,fun t ht=>by omega⟩ ?_
 clear rs
 rintro m E h ⟨j,G,rfl,hj,e1,e12,e13,e14,rfl,hok⟩
 by_cases hlt:j<g.length
 ·have hlt':(j:Int)<(g.length:Int):=by omega
  have hx:g[j]? =some (g[j]'hlt):=Ex hlt
  have hfg: ∀q,az g j q=(g[j]'hlt).at q:=by intro q;unfold az;rw[hx]
  generalize g[j]'hlt=r at hx hfg
  obtain⟨n',i',c',hb',h20,_⟩:=hs.read hx
  cases hb'
  refine W.seq (W.g ?_ (by simp[go_sem,e13,e14,hlt'];rfl))
  refine W.seq (W.ct (W.skip ?_))
  refine W.seq (W.block ?_)
  refine W.seq (W.g ?_ (by simp[go_sem,e12,e14,hlt',aD h20,Row.cells];rfl))
  have hr20: ∀K,ak (H++(.cells [.slice (some ⟨n',i',none⟩) g.length k] 24::(G++(.cells r.cells 52::K)))) (H.length+(G.length+1)) 0 20=some r.cells:=by
   intro K
   rw[aF,gF]
   exact ao (bF _ _ _) rfl
  have hr20':=hr20 []
  unfold Row.cells at hr20'
  refine W.seq (W.g ?_ (by simp[go_sem,hr20'];rfl))
  clear hr20 hr20'
  refine W.block ?_
  refine W.loop (fun m E h=> ∃q K,m=4-q/\q<=4/\ae E 1= .pointer (some ⟨H.length,0,none⟩)/\ae E 12= .slice (some ⟨n',i',none⟩) g.length k/\ae E 13=O U g.length/\ae E 14=O U j/\ae E 3=O U j/\ae E 19= .agg #[O U r.f0.t,O U r.f0.p.p0,O U r.f0.p.p1,O U r.f0.p.p2,O U r.f0.p.p3,O U r.f1.t,O U r.f1.p.p0,O U r.f1.p.p1,O U r.f1.p.p2,O U r.f1.p.p3,
   O U r.f2.t,O U r.f2.p.p0,O U r.f2.p.p1,O U r.f2.p.p2,O U r.f2.p.p3,O U r.f3.t,O U r.f3.p.p0,O U r.f3.p.p1,O U r.f3.p.p2,O U r.f3.p.p3]/\ae E 20=O U q/\h=H++(.cells [.slice (some ⟨n',i',none⟩) g.length k] 24::K)/\ ∀f,f<q->okF g j f (az g j f)=true) 4
   ⟨0,_,rfl,by omega,by simp[ae,e1],by simp[ae,e12],by simp[ae,e13],by simp[ae,e14],by simp[ae],by simp[ae],by simp[ae],rfl,fun f hf=>by omega⟩ ?_
  clear e1 e12 e13 e14 E G
  rintro m E h ⟨q,K,rfl,hq,e1,e12,e13,e14,e3,e19,e20,rfl,hokq⟩
  by_cases hq4:q<4
  ·have hq':(q:Int)<4:=by omega
   have hix:=ix52 r hq4
   have hfq:=hfg q
   generalize r.at q=x at hix hfq
   obtain⟨xt,⟨p0,p1,p2,p3⟩⟩:=x
   unfold Fc.val at hix
   have hbase:ak (H++(.cells [.slice (some ⟨n',i',none⟩) g.length k] 24::(K++[.cells [O U xt,O U p0,O U p1,O U p2,O U p3] 51]))) (H.length+(K.length+1)) 0 5=some [O U xt,O U p0,O U p1,O U p2,O U p3]:=by
    rw[aF,gF]
    exact ao (aL _ _) rfl
   refine W.seq (W.g ?_ (by simp[go_sem,e20,hq'];rfl))
   refine W.seq (W.ct (W.skip ?_))
   refine W.seq (W.block ?_)
   refine W.seq (W.g ?_ (by simp[go_sem,e19,e20,hix];rfl))
   have hwr:IntKind.i64.wrap ((q:Int)+1)=((q+1:Nat):Int):=by rw[EP];omega
   have hnext: ∀{E:Env} {K':AH},ae E 1= .pointer (some ⟨H.length,0,none⟩)->ae E 12= .slice (some ⟨n',i',none⟩) g.length k->ae E 13=O U g.length->ae E 14=O U j->ae E 3=O U j->ae E 19= .agg #[O U r.f0.t,O U r.f0.p.p0,O U r.f0.p.p1,O U r.f0.p.p2,O U r.f0.p.p3,O U r.f1.t,O U r.f1.p.p0,O U r.f1.p.p1,O U r.f1.p.p2,O U r.f1.p.p3,
    O U r.f2.t,O U r.f2.p.p0,O U r.f2.p.p1,O U r.f2.p.p2,O U r.f2.p.p3,O U r.f3.t,O U r.f3.p.p0,O U r.f3.p.p1,O U r.f3.p.p2,O U r.f3.p.p3]->ae E 20=O U ((q+1:Nat):Int)->okF g j q (az g j q)=true-> ∃m,m<4-q/\ ∃q K,m=4-q/\q<=4/\ae E 1= .pointer (some ⟨H.length,0,none⟩)/\ae E 12= .slice (some ⟨n',i',none⟩) g.length k/\ae E 13=O U g.length/\ae E 14=O U j/\ae E 3=O U j/\ae E 19= .agg #[O U r.f0.t,O U r.f0.p.p0,O U r.f0.p.p1,O U r.f0.p.p2,O U r.f0.p.p3,O U r.f1.t,O U r.f1.p.p0,O U r.f1.p.p1,O U r.f1.p.p2,O U r.f1.p.p3,
     O U r.f2.t,O U r.f2.p.p0,O U r.f2.p.p1,O U r.f2.p.p2,O U r.f2.p.p3,O U r.f3.t,O U r.f3.p.p0,O U r.f3.p.p1,O U r.f3.p.p2,O U r.f3.p.p3]/\ae E 20=O U q/\H++(.cells [.slice (some ⟨n',i',none⟩) g.length k] 24::K')=H++(.cells [.slice (some ⟨n',i',none⟩) g.length k] 24::K)/\ ∀f,f<q->okF g j f (az g j f)=true:=by
    intro E K' a1 a12 a13 a14 a3 a19 a20 hk
    refine⟨4-(q+1),by omega,q+1,K',rfl,by omega,a1,a12,a13,a14,a3,a19,a20,rfl,fun f hf=> ?_⟩
    by_cases e:f=q
    ·subst e;exact hk
    ·exact hokq f (by omega)
   have bad:okF g j q (az g j q)=false->eX g=false:=by
    intro h
    rw[FN]
    intro hh
    have:=((jo g).1 hh).2 j hlt q hq4
    rw[h]at this;cases this
   rw[hfq]at bad hnext
   unfold okF Fc.isEnd at bad hnext
   simp only at bad hnext
   cases hend:(xt== -1&&p0==0&&p1==0&&p2==0&&p3==0)
   case true=>
    refine W.seq (W.seq (W.g ?_ (by simp[go_sem,hbase,hend];rfl)))
    refine W.ct (W.exit ?_)
    simp only[AX.then,AX.inBlock,if_true]
    refine W.g ?_ (by simp[go_sem,e20];rfl)
    exact hnext (by simp[ae,e1]) (by simp[ae,e12]) (by simp[ae,e13]) (by simp[ae,e14]) (by simp[ae,e3]) (by simp[ae,e19]) (by simp[ae,hwr]) (by rw[hend];rfl)
   rw[hend,Gm]at bad hnext
   refine W.seq (W.seq (W.g ?_ (by simp[go_sem,hbase,hend];rfl)))
   refine W.cf (W.skip ?_)
   cases c1:decide (xt<0)
   case true=>
    have hf:eX g=false:=bad (by rw[c1];rfl)
    refine W.seq (W.drawnBy (fun i=>i==14||i==46) follows (by decide+kernel) (Dl.s (Dl.nil ?_) (by simp[go_sem,e1,c1];rfl)))
    refine W.ct ?_
    refine W.seq (W.g ?_)
    rw[hf]
    exact W.ret (Ends.quiet (by simp[go_sem]) rfl)
   cases c2:decide ((g.length:Int)<=xt)
   case true=>
    have hf:eX g=false:=bad (by rw[c2];simp)
    refine W.seq (W.drawnBy (fun i=>i==14||i==46) follows (by decide+kernel) (Dl.s (Dl.nil ?_) (by simp[go_sem,e1,c1,c2];rfl)))
    refine W.ct ?_
    refine W.seq (W.g ?_)
    rw[hf]
    exact W.ret (Ends.quiet (by simp[go_sem]) rfl)
   have hperm:=ja (H++(.cells [.slice (some ⟨n',i',none⟩) g.length k] 24::(K++[.cells [O U xt,O U p0,O U p1,O U p2,O U p3] 51]))) (.slice (some ⟨H.length+(K.length+1),1,none⟩) 4 4) [p0,p1,p2,p3]
    (.inr ⟨_,1,4,rfl,by have:=bL hbase (j:=1) (m:=4) (by omega);rw[EU]at this;rw[show([p0,p1,p2,p3]:List Int).length=4 from rfl,this];rfl⟩) (by simp)
   have hpo:cM [p0,p1,p2,p3]=(Pm.mk p0 p1 p2 p3).ok:=rfl
   rw[hpo]at hperm
   cases c3:(Pm.mk p0 p1 p2 p3).ok
   case false=>
    rw[c3]at hperm
    have hf:eX g=false:=bad (by rw[c3];simp)
    refine W.seq (W.drawnBy (fun i=>i==14||i==46) follows (by decide+kernel) (Dl.s ?_ (by simp[go_sem,e1,c1,c2,sl39];rfl)))
    refine Dl.t (Sc b26 hperm) ?_
    refine Dl.s (Dl.nil ?_)
    refine W.ct ?_
    refine W.seq (W.g ?_)
    rw[hf]
    exact W.ret (Ends.quiet (by simp[go_sem]) rfl)
   rw[c3]at hperm
   have hin:=Pm.DI c3
   have hpin:=Pm.at_inside (Pm.mk p0 p1 p2 p3) hin (q:=(q:Int)) ⟨by omega,hq'⟩
   have hpq:aj (H++(.cells [.slice (some ⟨n',i',none⟩) g.length k] 24::(K++[.cells [O U xt,O U p0,O U p1,O U p2,O U p3] 51]))) (H.length+(K.length+1)) (1+q)=some (O U ((Pm.mk p0 p1 p2 p3).at q)):=by
    rw[bU,oT,ah,aL,Gw 1 q]
    exact Pm.cells_get (Pm.mk p0 p1 p2 p3) hq4
   have hund:=gp (H++(.cells [.slice (some ⟨n',i',none⟩) g.length k] 24::(K++[.cells [O U xt,O U p0,O U p1,O U p2,O U p3] 51]))) (Pm.mk p0 p1 p2 p3) hin
   generalize hpm:Pm.mk p0 p1 p2 p3=pm at hpq hpin hund bad hnext c3 hin
   have hpv:pm.val= .agg #[O U p0,O U p1,O U p2,O U p3]:=by rw[<-hpm];rfl
   rw[hpv]at hund
   have huv:pm.undo.val= .agg #[O U pm.undo.p0,O U pm.undo.p1,O U pm.undo.p2,O U pm.undo.p3]:=rfl
   rw[huv]at hund
   have h14:ak (H++(.cells [.slice (some ⟨n',i',none⟩) g.length k] 24::(K++[.cells [O U xt,O U p0,O U p1,O U p2,O U p3] 51]))) (H.length+(K.length+1)) 1 4=some [O U p0,O U p1,O U p2,O U p3]:=by
    have:=bL hbase (j:=1) (m:=4) (by omega);rw[EU]at this;rw[this];rfl
   obtain⟨t,ht⟩: ∃t:Nat,xt=t:=⟨xt.toNat,by simp at c1;omega⟩
   have htl:t<g.length:=by simp at c2;omega
   have htl':(t:Int)<(g.length:Int):=by omega
   obtain⟨u,hu⟩: ∃u:Nat,pm.at q=u:=⟨(pm.at q).toNat,by omega⟩
   have hu4:u<4:=by omega
   have hu4':(u:Int)<4:=by omega
   subst ht
   rw[hu]at hpq bad hnext
   rw[Int.toNat_natCast,Int.toNat_natCast]at bad hnext
   have hn1: ¬g.length<=t:=by omega
   cases d1:((t:Int)==(j:Int))&&((u:Int)==(q:Int))
   case true=>
    have hf:eX g=false:=bad (by rw[d1];simp)
    rw[EC]at d1
    obtain⟨d1,d2⟩:=d1
    refine W.seq (W.drawnBy (fun i=>i==14||i==46) follows (by decide+kernel) (Dl.s ?_ (by simp[go_sem,e1,c1,c2,hn1,sl39];rfl)))
    refine Dl.t (Sc b26 hperm) ?_
    refine Dl.s (Dl.nil ?_) (by simp[go_sem,e3,d1,d2,hpq,hq'];rfl)
    refine W.ct ?_
    refine W.seq (W.g ?_)
    rw[hf]
    exact W.ret (Ends.quiet (by simp[go_sem]) rfl)
   rw[d1]at bad hnext
   obtain⟨n2,i2,c2',hb2,hface⟩:=hs.face htl hu4
   cases hb2
   generalize az g t u=y at hface bad hnext
   obtain⟨yt,⟨y0,y1,y2,y3⟩⟩:=y
   unfold Fc.eq at bad hnext
   simp only at bad hnext
   have hfr:ak (H++(.cells [.slice (some ⟨n',i',none⟩) g.length k] 24::(K++[.cells [O U (t:Int),O U p0,O U p1,O U p2,O U p3] 51]))) n' (i'+t*20+u*5) 5=some [O U yt,O U y0,O U y1,O U y2,O U y3]:=aD hface
   have hd:(((t:Int)==(j:Int))=true/\((u:Int)==(q:Int))=false)\/((t:Int)==(j:Int))=false:=by
    cases h1:((t:Int)==(j:Int))<;>cases h2:((u:Int)==(q:Int))<;>simp_all
   cases c5:(yt==(j:Int)&&y0==pm.undo.p0&&y1==pm.undo.p1&&y2==pm.undo.p2&&y3==pm.undo.p3)
   ·have hf:eX g=false:=bad (by rw[c5];simp)
    rw[hf]
    rcases hd with ⟨d1,d2⟩|d1
    ·refine W.seq (W.drawnBy (fun i=>i==14||i==46) follows (by decide+kernel) (Dl.s ?_ (by simp[go_sem,e1,c1,c2,hn1,sl39];rfl)))
     refine Dl.t (Sc b26 hperm) ?_
     refine Dl.s ?_ (by simp[go_sem,e1,e3,d1,d2,hpq,hq',htl',hu4',hfr,h14];rfl)
     refine Dl.t (Sc b32 hund) ?_
     refine Dl.s (Dl.nil ?_) (by simp[go_sem,c5];rfl)
     refine W.ct ?_
     refine W.seq (W.g ?_)
     exact W.ret (Ends.quiet (by simp[go_sem]) rfl)
    ·refine W.seq (W.drawnBy (fun i=>i==14||i==46) follows (by decide+kernel) (Dl.s ?_ (by simp[go_sem,e1,c1,c2,hn1,sl39];rfl)))
     refine Dl.t (Sc b26 hperm) ?_
     refine Dl.s ?_ (by simp[go_sem,e1,e3,d1,hpq,hq',htl',hu4',hfr,h14];rfl)
     refine Dl.t (Sc b32 hund) ?_
     refine Dl.s (Dl.nil ?_) (by simp[go_sem,c5];rfl)
     refine W.ct ?_
     refine W.seq (W.g ?_)
     exact W.ret (Ends.quiet (by simp[go_sem]) rfl)
   ·have hgood:=fun{E:Env} {K':AH} a1 a12 a13 a14 a3 a19 a20=>hnext (E:=E) (K':=K') a1 a12 a13 a14 a3 a19 a20 (by rw[c1,c2,c3,c5];rfl)
    rcases hd with ⟨d1,d2⟩|d1
    ·refine W.seq (W.drawnBy (fun i=>i==14||i==46) follows (by decide+kernel) (Dl.s ?_ (by simp[go_sem,e1,c1,c2,hn1,sl39];rfl)))
     refine Dl.t (Sc b26 hperm) ?_
     refine Dl.s ?_ (by simp[go_sem,e1,e3,d1,d2,hpq,hq',htl',hu4',hfr,h14];rfl)
     refine Dl.t (Sc b32 hund) ?_
     refine Dl.s (Dl.nil ?_) (by simp[go_sem,c5];rfl)
     refine W.cf (W.skip ?_)
     refine W.g ?_ (by simp[go_sem,e20];rfl)
     exact hgood (by simp[ae,e1]) (by simp[ae,e12]) (by simp[ae,e13]) (by simp[ae,e14]) (by simp[ae,e3]) (by simp[ae,e19]) (by simp[ae,hwr])
    ·refine W.seq (W.drawnBy (fun i=>i==14||i==46) follows (by decide+kernel) (Dl.s ?_ (by simp[go_sem,e1,c1,c2,hn1,sl39];rfl)))
     refine Dl.t (Sc b26 hperm) ?_
     refine Dl.s ?_ (by simp[go_sem,e1,e3,d1,hpq,hq',htl',hu4',hfr,h14];rfl)
     refine Dl.t (Sc b32 hund) ?_
     refine Dl.s (Dl.nil ?_) (by simp[go_sem,c5];rfl)
     refine W.cf (W.skip ?_)
     refine W.g ?_ (by simp[go_sem,e20];rfl)
     exact hgood (by simp[ae,e1]) (by simp[ae,e12]) (by simp[ae,e13]) (by simp[ae,e14]) (by simp[ae,e3]) (by simp[ae,e19]) (by simp[ae,hwr])
  ·have hqq:q=4:=by omega
   subst hqq
   refine W.seq (W.g ?_ (by simp[go_sem,e20];rfl))
   refine W.seq (W.cf (W.exit ?_))
   simp only[AX.then,AX.inBlock,if_true]
   refine W.g ?_ (by simp[go_sem,e14];rfl)
   refine⟨g.length-(j+1),by omega,j+1,K,rfl,by omega,by simp[ae,e1],by simp[ae,e12],by simp[ae,e13],?_,rfl,fun t ht f hf=> ?_⟩
   ·simp only[ae,if_true];rw[aA (by omega)]
   ·by_cases e:t=j
    ·subst e;exact hokq f hf
    ·exact hok t (by omega) f hf
 ·have hjl:j=g.length:=by omega
  subst hjl
  refine W.seq (W.g ?_ (by simp[go_sem,e13,e14];rfl))
  refine W.seq (W.cf (W.exit ?_))
  simp only[AX.then,AX.inBlock,if_true]
  have hf:eX g=true:=(jo g).2 ⟨by omega,hok⟩
  rw[hf]
  refine W.seq (W.g ?_)
  exact W.ret (Ends.quiet (by simp[go_sem]) rfl)
theorem tB:Try.prog.underlying 22=some (.slice 52):=by kernel_rfl
theorem qW:Try.prog.info? 52=some Try.t52:=by kernel_rfl
theorem bs22(H:AH):aQ Try.prog H 22 0 []=some (.slice (some ⟨H.length,0,none⟩) 0 0,H++[.cells [] 52]):=by kernel_rfl
theorem xX:Try.t52.size=20:=rfl
theorem mw:Try.t52.bytes=160:=rfl
theorem vq(H:AH)(v:Value)(hn:aC Try.prog (H++[.cells [] 52]) Try.t52 (some 22) v=some (0,[])):
 bD Try.prog (H++[.cells [] 52]) #[22,22] (.slice (some ⟨H.length,0,none⟩) 0 0) v=some (.slice (some ⟨H.length,0,none⟩) 0 0,H++[.cells [] 52]):=by
 rw[oH (ts:= #[22,22]) (by simp[tB]) qW (z:= .agg #[O U 0,O U 0,O U 0,O U 0,O U 0,O U 0,O U 0,O U 0,O U 0,O U 0,O U 0,O U 0,O U 0,O U 0,O U 0,O U 0,O U 0,O U 0,O U 0,O U 0]) rfl rfl (by decide) hn hunk (bF _ _ _) (FT _),g9]
theorem Bg(H:AH)(v:Value)(l:List Row)(hs:SlG H v l)(hl:l.length<1000000):
 ∃v' G na,AC Try.prog 18 [v] H (.val v' (H++G))/\nF (H++G) na 52 20 v' l.length (aV l)/\H.length<=na/\cP G:=by
 have hempty: ∀k,bC k (at_ [AO.cells [] 52] 0):=fun k=>bC.plain rfl
 have happ:v≠ .slice none 0 0-> ∃v' G na,bD Try.prog (H++[.cells [] 52]) #[22,22] (.slice (some ⟨H.length,0,none⟩) 0 0) v=some (v',H++G)/\nF (H++G) na 52 20 v' l.length (aV l)/\H.length<=na/\cP G/\Bel (H++G).length v'/\ ∀n,n<(H++G).length->(n<H.length/\at_ (H++G) n=at_ H n)\/bC (H++G).length (at_ (H++G) n):=by
  intro hv
  have hsame:l=[]->aC Try.prog (H++[.cells [] 52]) Try.t52 (some 22) v=some (0,[])-> ∃v' G na,bD Try.prog (H++[.cells [] 52]) #[22,22] (.slice (some ⟨H.length,0,none⟩) 0 0) v=some (v',H++G)/\nF (H++G) na 52 20 v' l.length (aV l)/\H.length<=na/\cP G/\Bel (H++G).length v'/\ ∀n,n<(H++G).length->(n<H.length/\at_ (H++G) n=at_ H n)\/bC (H++G).length (at_ (H++G) n):=by
   intro h0 hn
   subst h0
   refine⟨_,_,H.length,vq H v hn,.inr ⟨0,rfl,by simp,bF _ _ _,rfl,.inl ⟨rfl,hunk⟩⟩,EJ _,rfl,Bel.sl (by simp),qn _ _ _ fun m hm=> ?_⟩
   have:m=0:=by simp at hm;omega
   subst this;exact hempty _
  rcases hs with ⟨h0,h|⟨i,c,h⟩⟩|⟨n,i,c,h,hr⟩
  ·exact absurd h hv
  ·exact hsame h0 (by rw[h];simp[aC,tB])
  ·subst h
   have hn:=lJ (P:=Try.prog) (H:=H++[.cells [] 52]) (it:=Try.t52) (t:=22) tB (fun _ h=>nomatch h) (c:=c) (k:=l.length) (cs:=aV l) (by rw[xX];exact aD hr)
   cases hle:l with
   |nil=>
    rw[<-hle]
    refine hsame hle ?_
    have q0:l.length=0:=by rw[hle];rfl
    have q1:aV l=[]:=by rw[hle];rfl
    rw[q0,q1]at hn
    rw[q0];exact hn
   |cons x r=>
    rw[<-hle]
    have hpos:0<l.length:=by rw[hle];simp
    have hsz:Try.t52.zero=some (.agg #[O U 0,O U 0,O U 0,O U 0,O U 0,O U 0,O U 0,O U 0,O U 0,O U 0,O U 0,O U 0,O U 0,O U 0,O U 0,O U 0,O U 0,O U 0,O U 0,O U 0]):=rfl
    have hz5:(Value.agg #[O U 0,O U 0,O U 0,O U 0,O U 0,O U 0,O U 0,O U 0,O U 0,O U 0,O U 0,O U 0,O U 0,O U 0,O U 0,O U 0,O U 0,O U 0,O U 0,O U 0]).cells.size=Try.t52.size:=rfl
    have hs0:0<Try.t52.size:=by rw[xX];omega
    have hbytes:(0+l.length)*Try.t52.bytes<=140737488355328:=by rw[mw];omega
    have hold:ak (H++[AO.cells [] 52]) H.length 0 (0*Try.t52.size)=some []:=by rw[ed];rfl
    have hu0:(#[22,22]:Array TypeId)[0]?.bind Try.prog.underlying=some (.slice 52):=by simp[tB]
    have hn':aC Try.prog (H++[AO.cells [] 52]) Try.t52 (#[22,22]:Array TypeId)[1]? (.slice (some ⟨n,i,none⟩) l.length c)=some (l.length,aV l):=hn
    have:=fk hu0 qW hsz hz5 hs0 hn' (nT l) hbytes (by omega) hunk (EJ _) (by omega) hold
    rw[EH,List.nil_append,EU]at this
    have hlen1:(H++[AO.cells [] 52]).length=H.length+1:=by simp
    rw[hlen1,xX]at this
    refine⟨_,_,H.length+1,this,.inr ⟨unk+20,rfl,by simp,?_,dp l,.inr rfl⟩,by omega,?_,Bel.sl (by simp),qn _ _ _ fun m hm=> ?_⟩
    ·have:=aq H ([AO.cells [] 52]++[AO.cells (aV l) 52]) 1
     rw[this];rfl
    ·unfold cP
     simp only[List.cons_append,List.nil_append,List.all_cons,List.all_nil,dS,sr,Ha,Hn]
    ·match m,hm with
     | 0,_=>exact hempty _
     | 1,_=>exact bC.plain (sr l)
     |m+2,hm=>exact absurd hm (by simp)
 by_cases hv:v= .slice none 0 0
 ·subst hv
  refine⟨.slice none 0 0,[],H.length,?_,?_,EJ _,rfl⟩
  ·rw[Ft]
   refine AC.o 8 f18 fun σ w hr=> ?_
   refine W.seq (W.g ?_)
   refine W.seq (W.seq (W.g ?_))
   refine W.ct ?_
   refine W.seq (W.g ?_)
   exact W.ret (Ends.still (by simp[go_sem]) rfl)
  ·have hnil:l=[]:=by
    rcases hs with ⟨h,_⟩|⟨n,i,c,h,_⟩
    ·exact h
    ·cases h
   subst hnil
   exact .inl ⟨rfl,rfl,rfl⟩
 ·obtain⟨v',G,na,h1,h2,k1,k2,h3,h4⟩:=happ hv
  refine⟨v',G,na,?_,h2,k1,k2⟩
  obtain⟨b,c,hb⟩:=hs.len
  have hnil:dx Try.prog .eql 22 v (.slice none 0 0)=some (.bool false):=by
   subst hb
   cases b with
   |none=>
    rcases hs with ⟨_,h|⟨i,c,h⟩⟩|⟨n,i,c,h,hr⟩
    ·exact absurd h hv
    ·cases h
    ·cases h
   |some b=>exact eql22 _ _ _
  refine AC.o 8 f18 fun σ w hr=> ?_
  refine W.seq (W.g ?_)
  refine W.seq (W.seq (W.g ?_ (by simp[go_sem,hnil];rfl)))
  refine W.cf (W.skip ?_)
  refine W.seq (W.g ?_ (by simp[go_sem,bs22,h1];rfl))
  exact W.ret ⟨v',H++G,[],by simp[go_sem],rfl,by simp,by simp,h3,h4⟩
def wg(x y:Fc):Option Bool:=(match some (x.t==y.t)with|some true=>(match (match some (x.p.p0==y.p.p0)with|some true=>(match some (x.p.p1==y.p.p1)with|some true=>(match some (x.p.p2==y.p.p2)with|some true=>(match some (x.p.p3==y.p.p3)with|some true=>some true|some false=>some false|none=>none)|some false=>some false|none=>none)|some false=>some false|none=>none)|some false=>some false|none=>none)with|some true=>some true|some false=>some false|none=>none)|some false=>some false|none=>none)
theorem fNest_eq(x y:Fc):wg x y=some (x.eq y):=by
 unfold wg Fc.eq
 cases x.t==y.t<;>cases x.p.p0==y.p.p0<;>cases x.p.p1==y.p.p1<;>cases x.p.p2==y.p.p2<;>cases x.p.p3==y.p.p3<;>rfl
def Row.eq(r s:Row):Bool:=r.f0.eq s.f0&&r.f1.eq s.f1&&r.f2.eq s.f2&&r.f3.eq s.f3
theorem Row.eq_iff(r s:Row):r.eq s=true↔r=s:=by
 obtain⟨a,b,c,d⟩:=r
 obtain⟨a',b',c',d'⟩:=s
 simp only[Row.eq,EC,Fc.eq_iff,Row.mk.injEq]
 constructor
 ·rintro⟨⟨⟨h1,h2⟩,h3⟩,h4⟩;exact⟨h1,h2,h3,h4⟩
 ·rintro⟨h1,h2,h3,h4⟩;exact⟨⟨⟨h1,h2⟩,h3⟩,h4⟩
theorem aeq52(r s:Row):bZ Try.prog 10000 52 r.val s.val=some (r.eq s):=by
 have key:bZ Try.prog 10000 52 (.agg r.cells.toArray) (.agg s.cells.toArray)=(match wg r.f0 s.f0 with|some true=>(match wg r.f1 s.f1 with|some true=>(match wg r.f2 s.f2 with|some true=>(match wg r.f3 s.f3 with|some true=>some true|some false=>some false|none=>none)|some false=>some false|none=>none)|some false=>some false|none=>none)|some false=>some false|none=>none):=by kernel_rfl
 unfold Row.val
 rw[key]
 simp only[fNest_eq]
 unfold Row.eq
 cases r.f0.eq s.f0<;>cases r.f1.eq s.f1<;>cases r.f2.eq s.f2<;>cases r.f3.eq s.f3<;>rfl
theorem neq52(r s:Row):dx Try.prog .neq 52 r.val s.val=some (.bool (!(r.eq s))):=by
 have key: ∀a b:Array Value,dx Try.prog .neq 52 (.agg a) (.agg b)=(bZ Try.prog 10000 52 (.agg a) (.agg b)).map fun b=> .bool !b:=by intro a b;kernel_rfl
 unfold Row.val
 rw[key]
 have:=aeq52 r s
 unfold Row.val at this
 rw[this];rfl
def eqG:List Row->List Row->Bool
 | [],[]=>true
 |x::l,y::m=>x.eq y&&eqG l m
 |_,_=>false
theorem qx: ∀l m:List Row,eqG l m=true↔l=m
 | [],[]=>by simp[eqG]
 | [],y::m=>by simp[eqG]
 |x::l,[]=>by simp[eqG]
 |x::l,y::m=>by
  rw[eqG,EC,qx l m,Row.eq_iff,Gc]
theorem tt: ∀l m:List Row,l.length≠m.length->eqG l m=false
 | [],[],h=>absurd rfl h
 | [],_::_,_=>rfl
 |_::_,[],_=>rfl
 |x::l,y::m,h=>by
  have:=tt l m (by simpa using h)
  simp only[eqG,this,Bool.and_false]
theorem CO(H:AH)(u v:Value)(l m:List Row)(hu:SlG H u l)(hv:SlG H v m)(hl:l.length<4611686018427387904):AC Try.prog 20 [u,v] H (.val (.bool (eqG l m)) H):=by
 obtain⟨b,k,rfl⟩:=hu.len
 obtain⟨b',k',rfl⟩:=hv.len
 refine AC.o 26 f20 fun σ w hr=> ?_
 refine W.seq (W.g ?_)
 by_cases hlen:l.length=m.length
 ·refine W.seq (W.seq (W.g ?_ (by simp[go_sem,hlen];rfl)))
  refine W.cf (W.skip ?_)
  refine W.seq ?_
  refine W.seq (W.g ?_)
  refine W.block ?_
  refine W.loop (fun q E h=> ∃j,q=l.length-j/\j<=l.length/\ae E 0= .slice b l.length k/\ae E 1= .slice b' m.length k'/\ae E 12=O U l.length/\ae E 13=O U j/\h=H/\eqG l m=eqG (l.drop j) (m.drop j)) l.length ⟨0,by omega,by omega,by simp[ae,hlen],by simp[ae,hlen],by simp[ae,hlen],by simp[ae],rfl,rfl⟩ ?_
  rintro q E h ⟨j,rfl,hj,e0,e1,e12,e13,rfl,hpl⟩
  by_cases hlt:j<l.length
  ·have hlt':j<m.length:=by omega
   have hx:l[j]? =some l[j]:=Ex hlt
   have hy:m[j]? =some m[j]:=Ex hlt'
   rw[E7 hlt,E7 hlt']at hpl
   generalize l[j]=x at hx hpl
   generalize m[j]=y at hy hpl
   obtain⟨n1,i1,c1,hb,h3,_⟩:=hu.read hx
   obtain⟨n2,i2,c2,hb',h4,_⟩:=hv.read hy
   have hne:=neq52 x y
   unfold Row.val at hne
   cases hb;cases hb'
   refine W.seq (W.g ?_ (by simp[go_sem,e12,e13,hlt];rfl))
   refine W.seq (W.ct (W.skip ?_))
   refine W.seq (W.block ?_)
   refine W.seq (W.g ?_ (by simp[go_sem,e13];rfl))
   refine W.seq (W.drawnBy (fun _=>false) follows (by decide+kernel) (Dl.s (Dl.nil ?_) (by simp[go_sem,e0,e1,hlt,hlt',h3,h4,hne];rfl)))
   cases g:x.eq y
   ·refine W.ct ?_ (by simp[go_sem,g])
    refine W.seq (W.g ?_)
    have hf:eqG l m=false:=by rw[hpl];simp only[eqG,g,G7]
    rw[hf]
    exact W.ret (Ends.still (by simp[go_sem]) rfl)
   ·refine W.cf (W.skip ?_) (by simp[go_sem,g])
    refine W.g ?_ (by simp[go_sem,e13];rfl)
    refine⟨l.length-(j+1),by omega,j+1,rfl,by omega,by simp[ae,e0],by simp[ae,e1],by simp[ae,e12],?_,rfl,?_⟩
    ·simp only[ae,if_true];rw[aA (by omega)]
    ·rw[hpl];simp only[eqG,g,F0]
  ·have hjl:j=l.length:=by omega
   subst hjl
   refine W.seq (W.g ?_ (by simp[go_sem,e12,e13];rfl))
   refine W.seq (W.cf (W.exit ?_))
   simp only[AX.then,AX.inBlock,if_true]
   refine W.seq (W.g ?_)
   rw[hpl,Fu,hlen,Fu]
   exact W.ret (Ends.still (by simp[go_sem,eqG]) rfl)
 ·refine W.seq (W.seq (W.g ?_ (by simp[go_sem,hlen];rfl)))
  have hne: ¬((l.length:Int)=(m.length:Int)):=by omega
  refine W.ct ?_ (by simp[go_sem,hlen,hne])
  refine W.seq (W.g ?_)
  rw[tt l m hlen]
  exact W.ret (Ends.still (by simp[go_sem]) rfl)
def nM(k:Int):Pm:=if k=1 then⟨0,1,2,3⟩else if k=2 then⟨0,2,3,1⟩else⟨0,3,1,2⟩
def oa(k:Int):Pm:=if k=1 then⟨1,0,2,3⟩else if k=2 then⟨2,0,3,1⟩else⟨3,0,1,2⟩
end Go.Proofs.Ytjcomcgpjjianaa
